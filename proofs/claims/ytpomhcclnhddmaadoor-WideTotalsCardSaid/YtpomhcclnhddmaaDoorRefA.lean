/- Contracts of the reference's rows of binary digits: less, trim, plus, minus, times, parts, power, Size, word. -/
import Derived.Test.YtpomhcclnhddmaaDoorProg
import Derived.Test.YtpomhcclnhddmaaDoorNum
import Derived.Test.YtpomhcclnhddmaaDoorMem
import Derived.WalkKit
import Derived.WalkSpells
import Derived.Deep.QuietTactic
import Derived.BigQuiet
namespace Go.Proofs.YtpomhcclnhddmaaDoor
open Go.RowKit NB

/-- the first n digits of v, as cells -/
def bl (v n : Nat) : List Value := (List.range n).map fun i => Value.int .i64 (bitf v i : Nat)
theorem bl_len (v n : Nat) : (bl v n).length = n := by simp [bl]
theorem bl_at {v n k : Nat} (h : k < n) : (bl v n)[k]? = some (.int .i64 (bitf v k : Nat)) := by simp [bl, h]
theorem bl_succ (v n : Nat) : bl v (n + 1) = bl v n ++ [.int .i64 (bitf v n : Nat)] := by simp [bl, List.range_succ]
theorem bl_one (v n : Nat) : ∀ u ∈ bl v n, u.oneCell' = true := by simp [bl, Value.oneCell']
/-- the slice of n cells holds the first n digits of v -/
abbrev Dig (w : World) (A : Option Addr) (v n : Nat) : Prop := Reads w 3 1 A n (bl v n)
theorem Dig.cell {w : World} {A : Option Addr} {v n k : Nat} (h : Dig w A v n) (hk : k < n) : ∃ ad, A = some ad ∧ w.cell? (ad.add k) = some (.int .i64 (bitf v k : Nat)) := by
  obtain ⟨ad, u, e, h1, h2⟩ := h.at_ hk
  rw [bl_at hk] at h1
  cases h1
  exact ⟨ad, e, h2⟩

theorem ret_bool {a b : Bool} (h : a = b) : Ending.returned (.bool a) = .returned (.bool b) := by rw [h]

set_option maxHeartbeats 400000 in
theorem less_len (A B : Option Addr) (p r c d : Nat) (w : World) (h : p ≠ r) :
    Calls Tryd.prog 47 #[.slice A p c, .slice B r d] w fun e w' => e = .returned (.bool (decide (p < r))) ∧ w = w' := by
  have h1 : ((p : Int) != r) = true := by simp; omega
  go_enter Tryd.func47, Tryd.ntmps47
  go_wp2
  go_ret
  exact ⟨by simp, rfl⟩

set_option maxHeartbeats 400000 in
theorem less_same (A B : Option Addr) (m n p c d : Nat) (w : World) (hp : p ≤ 1000000) (hx : Dig w A m p) (hy : Dig w B n p) (hm : m < 2 ^ p) (hn : n < 2 ^ p) :
    Calls Tryd.prog 47 #[.slice A p c, .slice B p d] w fun e w' => e = .returned (.bool (decide (m < n))) ∧ ∃ q, w' = w.drewN q := by
  have h1 : ((p : Int) != p) = false := by simp
  have HX := Lib.hid hx
  have HY := Lib.hid hy
  have HM := Lib.hid hm
  have HN := Lib.hid hn
  clear hx hy hm hn
  go_enter Tryd.func47, Tryd.ntmps47
  go_wp2
  go_loopw [5] (fun v wr => ∃ k : Nat, k ≤ p ∧ v = .int .i64 ((k : Int) - 1) ∧ (∃ q, wr = w.drewN q) ∧ m / 2 ^ k = n / 2 ^ k) (fun v _ => (intOf v + 1).toNat)
  case atStart => exact ⟨p, Nat.le_refl _, rfl, ⟨0, rfl⟩, by rw [Nat.div_eq_of_lt HM.out, Nat.div_eq_of_lt HN.out]⟩
  case round =>
    obtain ⟨k, hk, rfl, ⟨q, rfl⟩, heq⟩ := hrel
    have HE := Lib.hid heq
    clear heq
    by_cases h0 : k = 0
    · subst h0
      go_wp2
      go_ret
      refine ⟨ret_bool ?_, _, rfl⟩
      have := HE.out
      simp at this
      simp [this]
    · obtain ⟨j, rfl⟩ : ∃ j, k = j + 1 := ⟨k - 1, by omega⟩
      obtain ⟨ad, rfl, cx⟩ := HX.out.cell (k := j) (by omega)
      obtain ⟨bd, rfl, cy⟩ := HY.out.cell (k := j) (by omega)
      have LT := @lt_of_top m n j
      have ST := div_pow_step m j
      have SN := div_pow_step n j
      generalize bitf m j = x at *
      generalize bitf n j = y at *
      have HL := Lib.hid LT
      have HS := Lib.hid ST
      have HT := Lib.hid SN
      clear LT ST SN
      by_cases hc : x = y
      · have t1 : ((x : Int) != y) = false := by simp [hc]
        have HC := Lib.hid hc
        clear hc
        go_wp2
        go_quiet (fail)
        go_wp2
        go_roundw
        case rel => exact ⟨j, by omega, by congr 1, ⟨_, rfl⟩, by rw [HS.out, HT.out, HE.out, HC.out]⟩
        case measure => simp [intOf]
      · have t1 : ((x : Int) != y) = true := by simp; omega
        have HC := Lib.hid hc
        clear hc
        go_wp2
        go_quiet (fail)
        go_wp2
        go_quiet (fail)
        go_wp2
        go_ret
        refine ⟨ret_bool ?_, _, by rw [World.drewN_drewN, World.drewN_drewN]⟩
        rw [decide_eq_decide, HL.out HE.out HC.out]

theorem less_any (A B : Option Addr) (m n p r c d : Nat) (w : World) (ep : p = nb m) (er : r = nb n) (hm : p ≤ 1000000) (hx : Dig w A m p) (hy : Dig w B n r) :
    Calls Tryd.prog 47 #[.slice A p c, .slice B r d] w fun e w' => e = .returned (.bool (decide (m < n))) ∧ ∃ q, w' = w.drewN q := by
  have h1 := lt_pow_nb m
  have h2 := lt_pow_nb n
  rw [← ep] at h1
  rw [← er] at h2
  by_cases h : p = r
  · rw [← h] at hy h2 ⊢
    exact less_same A B m n p c d w hm hx hy h1 h2
  · refine (less_len A B p r c d w h).mono ?_
    rintro e w' ⟨rfl, rfl⟩
    refine ⟨ret_bool ?_, 0, rfl⟩
    rw [decide_eq_decide]
    have a := @lt_of_nb_lt m n
    have b := @lt_of_nb_lt n m
    omega

set_option maxHeartbeats 400000 in
/-- trim: what is left of the first p digits of v, which are all of v -/
theorem trim_any (A : Option Addr) (v p c : Nat) (w : World) (hp : p ≤ 1000000) (hc : p ≤ c) (hx : Dig w A v p) (hv : v < 2 ^ p) :
    Calls Tryd.prog 59 #[.slice A p c] w fun e w' => e = .returned (.slice A (nb v) c) ∧ ∃ q, w' = w.drewN q := by
  have HX := Lib.hid hx
  have HV := Lib.hid hv
  clear hx hv
  go_enter Tryd.func59, Tryd.ntmps59
  go_wp2
  go_loopw [3] (fun u wr => ∃ k : Nat, k ≤ p ∧ u = .int .i64 k ∧ (∃ q, wr = w.drewN q) ∧ (∀ j, k ≤ j → j < p → bitf v j = 0)) (fun u _ => (intOf u).toNat)
  case atStart => exact ⟨p, Nat.le_refl _, rfl, ⟨0, rfl⟩, by omega⟩
  case round =>
    obtain ⟨k, hk, rfl, ⟨q, rfl⟩, hz⟩ := hrel
    have HZ := Lib.hid hz
    clear hz
    by_cases h0 : k = 0
    · subst h0
      go_wp2
      go_ret
      have e0 : nb v = 0 := trim_len HV.out (Nat.zero_le _) (fun j _ hj => HZ.out j (Nat.zero_le _) hj) (.inl rfl)
      refine ⟨?_, _, rfl⟩
      rw [e0]
      rfl
    · obtain ⟨j, rfl⟩ : ∃ j, k = j + 1 := ⟨k - 1, by omega⟩
      obtain ⟨ad, rfl, cx⟩ := HX.out.cell (k := j) (by omega)
      by_cases hb : bitf v j = 0
      · have HB := Lib.hid hb
        have t1 : ((bitf v j : Int) == 0) = true := by simp [hb]
        clear hb
        generalize bitf v j = x at cx t1 ⊢
        go_wp2
        go_roundw
        case rel => exact ⟨j, by omega, by congr 1, ⟨_, rfl⟩, fun i h1 h2 => by
          by_cases e : i = j
          · subst e; exact HB.out
          · exact HZ.out i (by omega) h2⟩
        case measure => simp [intOf]
      · have e0 : nb v = j + 1 := trim_len HV.out hk HZ.out (.inr hb)
        have E0 := Lib.hid e0
        have t1 : ((bitf v j : Int) == 0) = false := by simp; omega
        clear hb e0
        generalize bitf v j = x at cx t1 ⊢
        go_wp2
        go_ret
        refine ⟨?_, _, rfl⟩
        rw [E0.out]
        rfl

theorem int_info : (Tryd.prog.info? 3).map (fun i => (i.zero, i.size, i.bytes)) = some (some (.int .i64 0), 1, 8) := by kernel_rfl
/-- a row of the call's own, from block B on, that holds the first n digits of v -/
abbrev OwnD (w : World) (B : Nat) (A : Option Addr) (c v n : Nat) : Prop := w.ownsRow B 3 1 (.slice A n c) n (bl v n)
theorem OwnD.push {w : World} {B : Nat} {A : Option Addr} {c v n : Nat} {d : Int} (h : w.ownsRow B 3 1 (.slice A (n + 1) c) (n + 1) (bl v n ++ [.int .i64 d])) (hd : d = (bitf v n : Nat)) : OwnD w B A c v (n + 1) := by
  rw [OwnD, bl_succ, ← hd]; exact h
theorem val_int {k : IntKind} {a b : Int} (h : a = b) : Value.int k a = Value.int k b := by rw [h]

set_option maxHeartbeats 1000000 in
theorem plus_core (A B : Option Addr) (m n p r c d : Nat) (w : World) (hp : p ≤ 1000000) (hr : r ≤ 1000000) (ep : p = nb m) (er : r = nb n) (hx : Dig w A m p) (hy : Dig w B n r) :
    Calls Tryd.prog 37 #[.slice A p c, .slice B r d] w fun e w' => ∃ C f, e = .returned (.slice C (nb (m + n)) f) ∧ OwnD w' w.heap.size C f (m + n) (nb (m + n)) ∧ Below w.heap.size w w' := by
  have HX := Lib.hid hx
  have HY := Lib.hid hy
  have EP := Lib.hid ep
  have ER := Lib.hid er
  clear hx hy ep er
  go_enter Tryd.func37, Tryd.ntmps37
  go_wp2
  go_loopw [5, 6, 7] (fun u5 u6 u7 wr => ∃ (k : Nat) (C : Option Addr) (f : Nat), k ≤ nb (m + n) ∧ u7 = .int .i64 k ∧ u6 = .int .i64 (carry m n k : Nat) ∧ u5 = .slice C k f ∧ OwnD wr w.heap.size C f (m + n) k ∧ Below w.heap.size w wr)
    (fun _ _ u7 _ => nb (m + n) - (intOf u7).toNat)
  case atStart => exact ⟨0, none, 0, Nat.zero_le _, rfl, by rw [carry_zero]; rfl, rfl, World.ownsRow_nil _ _ _ _, Below.refl _ _⟩
  case round =>
    obtain ⟨k, C, f, hk, rfl, rfl, rfl, hown, hb⟩ := hrel
    have CL := carry_lt m n k
    have CD := carry_digit m n k
    have CS := carry_step m n k
    have CG := @sum_goes m n k
    have CE := @sum_ends m n k
    have XL := bitf_lt m k
    have YL := bitf_lt n k
    have XZ : ¬ k < p → bitf m k = 0 := fun h => bitf_ge (by have := EP.out; omega)
    have YZ : ¬ k < r → bitf n k = 0 := fun h => bitf_ge (by have := ER.out; omega)
    rw [← EP.out, ← ER.out] at CG CE
    by_cases hgo : k < p ∨ k < r ∨ 0 < carry m n k
    · have hlt := CG hgo
      have hz : nb (m + n) ≤ 1000001 := nb_add_le m n 1000000 (by rw [← EP.out]; exact hp) (by rw [← ER.out]; exact hr)
      have X1 : k < p → ∃ ad, A = some ad ∧ wr.cell? (ad.add k) = some (.int .i64 (bitf m k : Nat)) := fun h => Dig.cell (HX.out.below hb) h
      have Y1 : k < r → ∃ ad, B = some ad ∧ wr.cell? (ad.add k) = some (.int .i64 (bitf n k : Nat)) := fun h => Dig.cell (HY.out.below hb) h
      have HS := Lib.hid CS
      have HD := Lib.hid CD
      clear CS CD CG CE
      generalize carry m n k = y0 at *
      generalize bitf m k = x at *
      generalize bitf n k = y at *
      by_cases ha : k < p
      · obtain ⟨ad, rfl, cx⟩ := X1 ha
        by_cases hb2 : k < r
        · obtain ⟨bd, rfl, cy⟩ := Y1 hb2
          clear X1 Y1 XZ YZ
          go_wp2_with (at_builtin; refine wpList_push rfl (.tmp 46) (.tmp 49) 26 rfl w.heap.size 3 (.int .i64 0) 8 Tryd.underlying26 int_info rfl C k f _ rfl hown rfl rfl ?_ ?_ hb.size ?_; omega; omega; intro C' f' w' hown' hb')
          exact ⟨⟨k + 1, C', f', by omega, by go_num, val_int (by have := HS.out; omega), rfl, OwnD.push hown' (by have := HD.out; omega), hb.trans hb'⟩, by simp [intOf]; omega⟩
        · obtain rfl : y = 0 := YZ hb2
          clear X1 Y1 XZ YZ
          go_wp2_with (at_builtin; refine wpList_push rfl (.tmp 46) (.tmp 49) 26 rfl w.heap.size 3 (.int .i64 0) 8 Tryd.underlying26 int_info rfl C k f _ rfl hown rfl rfl ?_ ?_ hb.size ?_; omega; omega; intro C' f' w' hown' hb')
          exact ⟨⟨k + 1, C', f', by omega, by go_num, val_int (by have := HS.out; omega), rfl, OwnD.push hown' (by have := HD.out; omega), hb.trans hb'⟩, by simp [intOf]; omega⟩
      · obtain rfl : x = 0 := XZ ha
        by_cases hb2 : k < r
        · obtain ⟨bd, rfl, cy⟩ := Y1 hb2
          clear X1 Y1 XZ YZ
          go_wp2_with (at_builtin; refine wpList_push rfl (.tmp 46) (.tmp 49) 26 rfl w.heap.size 3 (.int .i64 0) 8 Tryd.underlying26 int_info rfl C k f _ rfl hown rfl rfl ?_ ?_ hb.size ?_; omega; omega; intro C' f' w' hown' hb')
          exact ⟨⟨k + 1, C', f', by omega, by go_num, val_int (by have := HS.out; omega), rfl, OwnD.push hown' (by have := HD.out; omega), hb.trans hb'⟩, by simp [intOf]; omega⟩
        · obtain rfl : y = 0 := YZ hb2
          have hc : 0 < y0 := by omega
          clear X1 Y1 XZ YZ
          go_wp2_with (at_builtin; refine wpList_push rfl (.tmp 46) (.tmp 49) 26 rfl w.heap.size 3 (.int .i64 0) 8 Tryd.underlying26 int_info rfl C k f _ rfl hown rfl rfl ?_ ?_ hb.size ?_; omega; omega; intro C' f' w' hown' hb')
          exact ⟨⟨k + 1, C', f', by omega, by go_num, val_int (by have := HS.out; omega), rfl, OwnD.push hown' (by have := HD.out; omega), hb.trans hb'⟩, by simp [intOf]; omega⟩
    · have e0 : k = nb (m + n) := by
        have := CE (by omega) (by omega) (by omega)
        omega
      have E0 := Lib.hid e0
      clear e0
      have n1 : decide (k < p) = false := by simp; omega
      have n2 : decide (k < r) = false := by simp; omega
      have n3 : carry m n k = 0 := by omega
      rw [n3]
      clear CG CE CS CD n3 hgo XL YL XZ YZ CL hk
      go_wp2
      go_ret
      rw [← E0.out]
      exact ⟨C, f, rfl, hown, hb⟩

/-- what a function hands back that hands back a row of the digits of v -/
def RetD (v : Nat) (w : World) (e : Ending) (w' : World) : Prop := ∃ C f, e = .returned (.slice C (nb v) f) ∧ nb v ≤ f ∧ Dig w' C v (nb v) ∧ Below w.heap.size w w'

theorem plus_any (A B : Option Addr) (m n p r c d : Nat) (w : World) (ep : p = nb m) (er : r = nb n) (hp : p ≤ 1000000) (hr : r ≤ 1000000) (hx : Dig w A m p) (hy : Dig w B n r) :
    Calls Tryd.prog 37 #[.slice A p c, .slice B r d] w (RetD (m + n) w) := by
  refine (plus_core A B m n p r c d w hp hr ep er hx hy).mono ?_
  rintro e w' ⟨C, f, rfl, hown, hb⟩
  exact ⟨C, f, rfl, own_cap hown, Reads.of_own hown, hb⟩
end Go.Proofs.YtpomhcclnhddmaaDoor
