/- Contracts of bytes.Equal, bytes.HasPrefix. -/
import Derived.Test.YtgdnpmjmkcccoaaVarS
import Derived.Laws.BytesArg
import Derived.Laws.Strings
namespace Go.Proofs.Ytgdnpmjmkcccoaa
open Go.RowKit Go.Shelf VB
set_option linter.unusedVariables false
theorem str_toList_loop (s : ByteArray) : ∀ (k i : Nat) (r : List UInt8), s.size - i = k → ByteArray.toList.loop s i r = r.reverse ++ s.data.toList.drop i := by
  intro k
  induction k with
  | zero =>
    intro i r h
    unfold ByteArray.toList.loop
    rw [if_neg (by omega), List.drop_eq_nil_of_le (by show s.data.size ≤ i; have : s.data.size = s.size := rfl; omega), List.append_nil]
  | succ k ih =>
    intro i r h
    unfold ByteArray.toList.loop
    have hi : i < s.data.toList.length := by show i < s.data.size; have : s.data.size = s.size := rfl; omega
    rw [if_pos (by omega), ih (i + 1) _ (by omega), List.drop_eq_getElem_cons hi, List.reverse_cons, List.append_assoc]
    congr 2
    show [s.get! i] ++ _ = _
    have e : s.get! i = s.data.toList[i] := by
      show s.data[i]! = s.data.toList[i]
      rw [Array.getElem_toList]
      exact getElem!_pos s.data i hi
    rw [e]
    rfl
theorem str_toList (s : ByteArray) : s.toList = s.data.toList := by
  unfold ByteArray.toList
  rw [str_toList_loop s s.size 0 [] (by omega)]
  simp
theorem bytes_inj : ∀ (xs ys : List Nat), (∀ x ∈ xs, x < 256) → (∀ y ∈ ys, y < 256) → ((xs.map fun x : Nat => (x : Int)).map fun n => UInt8.ofNat n.toNat) = ((ys.map fun x : Nat => (x : Int)).map fun n => UInt8.ofNat n.toNat) → xs = ys
  | [], [], _, _, _ => rfl
  | [], y :: ys, _, _, h => by simp at h
  | x :: xs, [], _, _, h => by simp at h
  | x :: xs, y :: ys, hx, hy, h => by
    simp only [List.map_cons, List.cons.injEq, Int.toNat_natCast] at h
    have h1 : x = y := by
      have e := congrArg UInt8.toNat h.1
      have a := hx x List.mem_cons_self
      have b := hy y List.mem_cons_self
      simp at e
      omega
    rw [h1, bytes_inj xs ys (fun z hz => hx z (List.mem_cons_of_mem _ hz)) (fun z hz => hy z (List.mem_cons_of_mem _ hz)) h.2]
theorem str_eq {xs ys : List Nat} (hx : ∀ x ∈ xs, x < 256) (hy : ∀ y ∈ ys, y < 256) : ((strOfNums (xs.map fun x : Nat => (x : Int))).toList == (strOfNums (ys.map fun x : Nat => (x : Int))).toList) = decide (xs = ys) := by
  rw [str_toList, str_toList, strOfNums_data, strOfNums_data]
  by_cases h : xs = ys
  · subst h; simp
  · rw [decide_eq_false h, beq_eq_false_iff_ne]
    exact fun e => h (bytes_inj xs ys hx hy e)
theorem conv_bytes {e : TypeId} {w : World} {A : Option Addr} {n c : Nat} {xs : List Nat} (h : Reads w e 1 A n (bsV xs)) : (convert 31 9 (.slice A n c)).run Try.prog w = .ok (.string (strOfNums (xs.map fun x : Nat => (x : Int)))) w := by
  cases A with
  | none =>
    obtain ⟨rfl, h0⟩ := nil_reads h
    have hl : xs = [] := List.eq_nil_of_length_eq_zero (by have := congrArg List.length h0; simpa [bsV] using this)
    subst hl
    rw [run_convert_bytes_nil w 31 5 Try.underlying31 Try.underlying5 _ _ 9 Try.underlying9]
    rfl
  | some ad =>
    have hlen : (bsV xs).length = n := by have := h.1; omega
    have hl : (loadCells ad n).run Try.prog w = .ok (((xs.map fun x : Nat => (x : Int)).map (Value.int .u8)).toArray) w := by
      rw [← bsV_ints]
      have := run_loadCells_list (P := Try.prog) w ad (bsV xs) (fun j v hj => by
        have hjl : j < n := by have := (List.getElem?_eq_some_iff.1 hj).1; omega
        obtain ⟨ad', e1, _, hc⟩ := h.2 (by omega)
        cases e1
        exact hc j v hj)
      simpa [hlen] using this
    rw [run_convert_bytes_string w _ _ 5 _ n c Try.underlying31 Try.underlying5 Try.underlying9, run_bytesToString w _ n c _ hl, foldl_push_bytes]
    simp [strOfNums, ByteArray.empty, ByteArray.emptyWithCapacity]
    rfl
set_option maxHeartbeats 400000 in
theorem beq_c {e1 e2 : TypeId} (A B : Option Addr) (n m c d : Nat) (xs ys : List Nat) (w : World) (hx : Reads w e1 1 A n (bsV xs)) (hy : Reads w e2 1 B m (bsV ys)) (h1 : ∀ x ∈ xs, x < 256) (h2 : ∀ y ∈ ys, y < 256) :
    Calls Try.prog 58 #[.slice A n c, .slice B m d] w fun e w' => e = .returned (.bool (decide (xs = ys))) ∧ w = w' := by
  have k1 := conv_bytes (c := c) hx
  have k2 := conv_bytes (c := d) hy
  rw [← str_eq h1 h2]
  clear hx hy h1 h2
  generalize strOfNums (xs.map fun x : Nat => (x : Int)) = s at *
  generalize strOfNums (ys.map fun x : Nat => (x : Int)) = t at *
  go_enter Try.func58, Try.ntmps58
  go_wp2
  go_ret
  exact ⟨rfl, rfl⟩
set_option maxHeartbeats 400000 in
theorem prefix_c {e1 e2 : TypeId} (A B : Option Addr) (n m c d : Nat) (xs ys : List Nat) (w : World) (hx : Reads w e1 1 A n (bsV xs)) (hy : Reads w e2 1 B m (bsV ys)) (hc : n ≤ c) (h1 : ∀ x ∈ xs, x < 256) (h2 : ∀ y ∈ ys, y < 256) :
    Calls Try.prog 22 #[.slice A n c, .slice B m d] w fun e w' => e = .returned (.bool (decide (xs.take m = ys))) ∧ w = w' := by
  have hxl : xs.length = n := by have := hx.1; rw [bsV_len] at this; omega
  have hyl : ys.length = m := by have := hy.1; rw [bsV_len] at this; omega
  by_cases hmn : m ≤ n
  · have hr := hx.take hmn
    rw [Nat.mul_one, show (bsV xs).take m = bsV (xs.take m) by simp [bsV, List.map_take]] at hr
    have HB := Lib.hid (beq_c (e1 := e1) (e2 := e2) A B m m c d (xs.take m) ys w hr hy (fun x hx => h1 x (List.mem_of_mem_take hx)) h2)
    have t1 : decide ((m : Int) ≤ (n : Int)) = true := decide_eq_true (by omega)
    have t2 : decide (m ≤ n) = true := decide_eq_true hmn
    have hmc : m ≤ c := by omega
    generalize decide (xs.take m = ys) = b at *
    clear hx hy hr h1 h2 hxl hyl
    go_enter Try.func22, Try.ntmps22
    go_wp2_with fail
    refine HB.out.mono ?_; rintro e w' ⟨rfl, rfl⟩
    go_wp2
    go_ret
    exact ⟨rfl, rfl⟩
  · have hb : decide (xs.take m = ys) = false := by
      rw [decide_eq_false_iff_not]
      intro e
      have := congrArg List.length e
      rw [List.length_take] at this
      omega
    rw [hb]
    have t1 : decide ((m : Int) ≤ (n : Int)) = false := decide_eq_false (by omega)
    have t2 : decide (m ≤ n) = false := decide_eq_false hmn
    clear hx hy h1 h2 hxl hyl hb
    go_enter Try.func22, Try.ntmps22
    go_wp2
    go_ret
    exact ⟨rfl, rfl⟩
end Go.Proofs.Ytgdnpmjmkcccoaa
