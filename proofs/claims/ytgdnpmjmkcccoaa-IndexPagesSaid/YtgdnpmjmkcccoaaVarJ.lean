/- Contracts of slices.Equal at bytes and at int64. -/
import Derived.Test.YtgdnpmjmkcccoaaVarI
import Derived.Deep.QuietTactic
import Derived.BigQuiet
namespace Go.Proofs.Ytgdnpmjmkcccoaa
open Go.RowKit Go.Shelf VB
set_option linter.unusedVariables false
theorem ret_b {a b : Bool} (h : a = b) : Ending.returned (.bool a) = .returned (.bool b) := by rw [h]
theorem ints_at {w : World} {e : TypeId} {k : IntKind} {A : Option Addr} {xs : List Int} {n : Nat} (h : Reads w e 1 A n (xs.map (Value.int k))) {i : Nat} (hi : i < n) : ∃ ad, A = some ad ∧ w.cell? (ad.add i) = some (.int k (xs.getD i 0)) := by
  obtain ⟨ad, u, e, h1, h2⟩ := h.at_ hi
  have hl : xs.length = n := by have := h.1; simpa using this
  rw [List.getElem?_map, List.getElem?_eq_getElem (by omega)] at h1
  cases h1
  exact ⟨ad, e, by rw [h2, List.getD_eq_getElem?_getD, List.getElem?_eq_getElem (by omega)]; rfl⟩
theorem ints_len {w : World} {e : TypeId} {k : IntKind} {A : Option Addr} {xs : List Int} {n : Nat} (h : Reads w e 1 A n (xs.map (Value.int k))) : xs.length = n := by have := h.1; simpa using this
theorem take_step {xs ys : List Int} {k : Nat} (h : xs.take k = ys.take k) (hx : k < xs.length) (hy : k < ys.length) (he : xs.getD k 0 = ys.getD k 0) : xs.take (k + 1) = ys.take (k + 1) := by
  rw [List.take_succ_eq_append_getElem hx, List.take_succ_eq_append_getElem hy, h]
  rw [List.getD_eq_getElem?_getD, List.getD_eq_getElem?_getD, List.getElem?_eq_getElem hx, List.getElem?_eq_getElem hy] at he
  simp at he
  rw [he]
theorem bsV_ints (l : List Nat) : bsV l = (l.map fun x : Nat => (x : Int)).map (Value.int .u8) := by simp [bsV]
theorem cast_inj {l m : List Nat} : (l.map fun x : Nat => (x : Int)) = (m.map fun x : Nat => (x : Int)) ↔ l = m := by
  constructor
  · intro h
    exact (List.map_inj_right (f := fun x : Nat => (x : Int)) (fun (a b : Nat) (hab : (a : Int) = (b : Int)) => by omega)).1 h
  · rintro rfl; rfl

set_option maxHeartbeats 1000000 in
theorem equal_b {e1 e2 : TypeId} (A B : Option Addr) (n m c d : Nat) (xs ys : List Int) (w : World) (hx : Reads w e1 1 A n (xs.map (Value.int .u8))) (hy : Reads w e2 1 B m (ys.map (Value.int .u8))) (hn : n ≤ 100000000) :
    Calls Try.prog 17 #[.slice A n c, .slice B m d] w fun e w' => e = .returned (.bool (decide (xs = ys))) ∧ ∃ q, w' = w.drewN q := by
  have hxl := ints_len hx
  have hyl := ints_len hy
  by_cases hnm : n = m
  · subst hnm
    have t0 : ((n : Int) != n) = false := by simp
    have HX := Lib.hid hx
    have HY := Lib.hid hy
    have HXL := Lib.hid hxl
    have HYL := Lib.hid hyl
    clear hx hy hxl hyl
    go_enter Try.func17, Try.ntmps17
    go_wp2
    go_loopw [13] (fun v wr => ∃ k : Nat, k ≤ n ∧ v = .int .i64 (k : Nat) ∧ (∃ q, wr = w.drewN q) ∧ xs.take k = ys.take k) (fun v _ => n - (intOf v).toNat)
    case atStart => exact ⟨0, Nat.zero_le _, rfl, ⟨0, rfl⟩, by simp⟩
    case round =>
      obtain ⟨k, hk, rfl, ⟨q, rfl⟩, heq⟩ := hrel
      have HE := Lib.hid heq
      clear heq
      by_cases hlt : k < n
      · obtain ⟨ad, rfl, cx⟩ := ints_at HX.out hlt
        obtain ⟨bd, rfl, cy⟩ := ints_at HY.out hlt
        have hltI : (k : Int) < (n : Int) := by omega
        have h0I : (0 : Int) ≤ (k : Int) := by omega
        have hst := take_step HE.out (by rw [HXL.out]; exact hlt) (by rw [HYL.out]; exact hlt)
        have hne : xs.getD k 0 ≠ ys.getD k 0 → xs ≠ ys := fun h e => h (by rw [e])
        have HST := Lib.hid hst
        have HNE := Lib.hid hne
        clear hst hne
        generalize xs.getD k 0 = x at *
        generalize ys.getD k 0 = y at *
        by_cases hc : x = y
        · have t1 : (x != y) = false := by simp [hc]
          have HC := Lib.hid hc
          clear hc
          go_wp2
          go_quiet (fail)
          go_wp2
          go_roundw
          case rel => exact ⟨k + 1, by omega, by go_num, ⟨_, rfl⟩, HST.out HC.out⟩
          case measure => simp [intOf]; omega
        · have t1 : (x != y) = true := by simp [hc]
          have HC := Lib.hid (HNE.out hc)
          clear hc
          go_wp2
          go_quiet (fail)
          go_wp2
          go_ret
          exact ⟨ret_b (by rw [eq_comm, decide_eq_false_iff_not]; exact HC.out), _, by rw [World.drewN_drewN]⟩
      · obtain rfl : k = n := by omega
        clear hlt
        go_wp2
        go_ret
        refine ⟨ret_b ?_, _, rfl⟩
        have h := HE.out
        rw [List.take_of_length_le (by rw [HXL.out]; exact Nat.le_refl _), List.take_of_length_le (by rw [HYL.out]; exact Nat.le_refl _)] at h
        rw [eq_comm, decide_eq_true_iff]
        exact h
  · have t0 : ((n : Int) != m) = true := by simp; omega
    have HN := Lib.hid (show xs ≠ ys from fun e => hnm (by rw [← hxl, ← hyl, e]))
    clear hx hy hxl hyl hnm
    go_enter Try.func17, Try.ntmps17
    go_wp2
    go_ret
    exact ⟨ret_b (by rw [eq_comm, decide_eq_false_iff_not]; exact HN.out), 0, rfl⟩

theorem equal_bs {e1 e2 : TypeId} (A B : Option Addr) (n m c d : Nat) (xs ys : List Nat) (w : World) (hx : Reads w e1 1 A n (bsV xs)) (hy : Reads w e2 1 B m (bsV ys)) (hn : n ≤ 100000000) :
    Calls Try.prog 17 #[.slice A n c, .slice B m d] w fun e w' => e = .returned (.bool (decide (xs = ys))) ∧ ∃ q, w' = w.drewN q := by
  rw [bsV_ints] at hx hy
  have h := equal_b A B n m c d _ _ w hx hy hn
  rw [show decide (xs = ys) = decide ((xs.map fun x : Nat => (x : Int)) = (ys.map fun x : Nat => (x : Int))) from decide_eq_decide.2 cast_inj.symm]
  exact h
end Go.Proofs.Ytgdnpmjmkcccoaa
