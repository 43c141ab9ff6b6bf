/- Contracts of the reference's rows of binary digits: times, parts, word. -/
import Derived.Test.YtpomhcclnhddmaaDoorRefB
namespace Go.Proofs.YtpomhcclnhddmaaDoor
open Go.RowKit NB

theorem dig_of_cons {w : World} {B : Nat} {A : Option Addr} {c v n d : Nat} (hd : d < 2) (h : w.ownsRow B 3 1 (.slice A (n + 1) c) (n + 1) (.int .i64 (d : Nat) :: bl v n)) : Dig w A (2 * v + d) (n + 1) := by
  rw [← bl_cons v n hd] at h
  exact Reads.of_own h
theorem dig_take {w : World} {A : Option Addr} {v n k : Nat} (h : Dig w A v n) (hk : k ≤ n) : Dig w A v k := by
  have h2 := Reads.take h hk
  rw [Nat.mul_one, bl_take _ hk] at h2
  exact h2
theorem below_of {B : Nat} {w w1 w2 : World} (h : Below B w w1) (h2 : Below w1.heap.size w1 w2) (hB : B ≤ w1.heap.size) : Below B w w2 := h.trans (h2.mono hB)

theorem times_facts (m n j : Nat) : m * (n / 2 ^ j) = 2 * (m * (n / 2 ^ (j + 1))) + (if bitf n j = 1 then m else 0) ∧ nb (m * (n / 2 ^ (j + 1))) ≤ nb m + nb n := by
  constructor
  · rw [div_pow_step n j]
    have := bitf_lt n j
    obtain h | h : bitf n j = 0 ∨ bitf n j = 1 := by omega
    · rw [h, if_neg (by decide), Nat.add_zero, Nat.mul_left_comm]; rfl
    · rw [h, if_pos rfl, Nat.mul_add, Nat.mul_one, Nat.mul_left_comm]
  · exact Nat.le_trans (nb_mono (Nat.mul_le_mul_left _ (Nat.div_le_self _ _))) (nb_mul_le m n)

set_option maxHeartbeats 1000000 in
theorem times_core (A B : Option Addr) (m n p r c d : Nat) (w : World) (hp : p ≤ 100000) (hr : r ≤ 100000) (ep : p = nb m) (er : r = nb n) (hx : Dig w A m p) (hy : Dig w B n r) :
    Calls Tryd.prog 38 #[.slice A p c, .slice B r d] w (RetD (m * n) w) := by
  have HX := Lib.hid hx
  have HY := Lib.hid hy
  have EP := Lib.hid ep
  have ER := Lib.hid er
  clear hx hy ep er
  go_enter Tryd.func38, Tryd.ntmps38
  go_wp2
  go_loopw [5, 6] (fun u5 u6 wr => ∃ (k : Nat) (C : Option Addr) (f : Nat), k ≤ r ∧ u6 = .int .i64 ((k : Int) - 1) ∧ u5 = .slice C (nb (m * (n / 2 ^ k))) f ∧ nb (m * (n / 2 ^ k)) ≤ f ∧ Dig wr C (m * (n / 2 ^ k)) (nb (m * (n / 2 ^ k))) ∧ Below w.heap.size w wr)
    (fun _ u6 _ => (intOf u6 + 1).toNat)
  case atStart =>
    have e0 : m * (n / 2 ^ r) = 0 := by rw [ER.out, Nat.div_eq_of_lt (lt_pow_nb n), Nat.mul_zero]
    exact ⟨r, none, 0, Nat.le_refl _, rfl, by rw [e0]; rfl, by rw [e0]; exact Nat.le_refl _, by rw [e0]; exact Reads.none_, Below.refl _ _⟩
  case round =>
    obtain ⟨k, C, f, hk, rfl, rfl, hf, hd, hb⟩ := hrel
    by_cases h0 : k = 0
    · subst h0
      have e0 : m * (n / 2 ^ 0) = m * n := by simp
      rw [e0] at hf hd ⊢
      have HE := Lib.hid e0
      clear e0
      generalize m * n = v at *
      go_wp2
      go_ret
      exact ⟨C, f, rfl, hf, hd, hb⟩
    · obtain ⟨j, rfl⟩ : ∃ j, k = j + 1 := ⟨k - 1, by omega⟩
      obtain ⟨f1, f2⟩ := times_facts m n j
      have h3 : nb (m * (n / 2 ^ (j + 1))) ≤ 200000 := by rw [← EP.out, ← ER.out] at f2; omega
      generalize m * (n / 2 ^ (j + 1)) = v at *
      have F1 := Lib.hid f1
      have HD := Lib.hid hd
      have h4 : v < 2 ^ nb v := lt_pow_nb v
      have h5 : 2 * v + 0 < 2 ^ (nb v + 1) := by rw [Nat.pow_succ]; omega
      have h6 : nb (2 * v) ≤ nb v + 1 := (nb_le_iff _ _).2 h5
      have H5 := Lib.hid h5
      clear f1 f2 hd h4 h5
      generalize hnv : nb v = z at *
      have HZ := Lib.hid hnv
      clear hnv
      have XL := bitf_lt n j
      obtain ⟨bd, rfl, cy⟩ := Dig.cell (HY.out.below hb) (show j < r by omega)
      go_wp2_with (at_builtin; refine wpList_cons rfl (.tmp 14) (.tmp 15) 26 rfl 3 (.int .i64 0) 8 Tryd.underlying26 int_info rfl C z f _ rfl rfl HD.out (bl_one _ _) ?_ ?_ ?_; omega; omega; intro C' f' w' hown' hb' hf')
      have hd2 : Dig w' C' (2 * v + 0) (z + 1) := dig_of_cons (by decide) hown'
      have T := trim_any C' (2 * v + 0) (z + 1) f' w' (by omega) hf' hd2 H5.out
      rw [Nat.add_zero] at T hd2
      generalize hz2 : nb (2 * v) = y at T h6
      have hd3 : Dig w' C' (2 * v) y := dig_take hd2 h6
      have hb2 : Below w.heap.size w w' := below_of hb hb' hb.size
      have cy2 := (hb'.cell (cell_lt cy)).trans cy
      have hy2 := Nat.le_trans h6 hf'
      have HZ2 := Lib.hid hz2
      have HD3 := Lib.hid hd3
      clear hz2 hd2 hd3 hown' cy HD HZ H5 HY
      refine T.mono ?_
      clear T
      rintro e w2 ⟨rfl, q, rfl⟩
      by_cases hbit : bitf n j = 1
      · rw [if_pos hbit] at F1
        have t1 : ((bitf n j : Int) == 1) = true := by simp [hbit]
        have hx2 : Dig (w'.drewN q) A m p := ((HX.out.below hb2).drewN q)
        have PL := Lib.hid (plus_any C' A (2 * v) m y p f' c (w'.drewN q) HZ2.out.symm EP.out (by omega) (by omega) (HD3.out.drewN q) hx2)
        have HN := Lib.hid hx2
        clear hbit hx2
        generalize bitf n j = x at *
        go_wp2_with fail
        refine PL.out.mono ?_
        rintro e w3 ⟨E, g, rfl, hg, hd4, hb4⟩
        rw [← F1.out] at hg hd4 ⊢
        generalize hu : m * (n / 2 ^ j) = u at *
        have HU := Lib.hid hu
        have HD4 := Lib.hid hd4
        clear hd4 hu
        go_wp2
        exact ⟨⟨j, E, g, by omega, rfl, by rw [HU.out], by rw [HU.out]; exact hg, by rw [HU.out]; exact HD4.out, below_of (below_drewN hb2 q) hb4 hb2.size⟩, by simp [intOf]⟩
      · rw [if_neg hbit, Nat.add_zero] at F1
        have t1 : ((bitf n j : Int) == 1) = false := by simp; omega
        clear hbit
        generalize bitf n j = x at *
        go_wp2
        exact ⟨⟨j, C', f', by omega, rfl, by rw [F1.out, HZ2.out], by rw [F1.out, HZ2.out]; exact hy2, by rw [F1.out, HZ2.out]; exact HD3.out.drewN q, below_drewN hb2 q⟩, by simp [intOf]⟩
theorem times_any (A B : Option Addr) (m n p r c d : Nat) (w : World) (ep : p = nb m) (er : r = nb n) (hp : p ≤ 100000) (hr : r ≤ 100000) (hx : Dig w A m p) (hy : Dig w B n r) :
    Calls Tryd.prog 38 #[.slice A p c, .slice B r d] w (RetD (m * n) w) := times_core A B m n p r c d w hp hr ep er hx hy

theorem parts_facts (m n j : Nat) (hn : 0 < n) : (m / 2 ^ j % n = (if 2 * (m / 2 ^ (j + 1) % n) + bitf m j < n then 2 * (m / 2 ^ (j + 1) % n) + bitf m j else 2 * (m / 2 ^ (j + 1) % n) + bitf m j - n)) ∧
    (m / 2 ^ j / n = 2 * (m / 2 ^ (j + 1) / n) + (if 2 * (m / 2 ^ (j + 1) % n) + bitf m j < n then 0 else 1)) ∧ m / 2 ^ (j + 1) % n < n ∧ bitf m j < 2 := by
  have h := div_pow_step m j
  have b := bitf_lt m j
  have hr := Nat.mod_lt (m / 2 ^ (j + 1)) hn
  have e := Nat.div_add_mod (m / 2 ^ (j + 1)) n
  generalize m / 2 ^ (j + 1) = M at *
  generalize bitf m j = x at *
  generalize M % n = R at *
  generalize M / n = Q at *
  rw [h, ← e]
  have e2 : 2 * (n * Q + R) + x = n * (2 * Q) + (2 * R + x) := by rw [Nat.mul_add, Nat.mul_left_comm]; omega
  rw [e2, Nat.mul_add_mod, Nat.mul_add_div hn]
  refine ⟨?_, ?_, hr, b⟩
  · split
    · rename_i h1; exact Nat.mod_eq_of_lt h1
    · rename_i h1
      rw [Nat.mod_eq_sub_mod (by omega), Nat.mod_eq_of_lt (by omega)]
  · split
    · rename_i h1; rw [Nat.div_eq_of_lt h1]
    · rename_i h1
      rw [Nat.div_eq_sub_div hn (by omega), Nat.div_eq_of_lt (by omega)]

set_option maxHeartbeats 2000000 in
theorem parts_core (A B : Option Addr) (m n p r c d : Nat) (w : World) (hn0 : 0 < n) (hp : p ≤ 100000) (hr : r ≤ 100000) (ep : p = nb m) (er : r = nb n) (hx : Dig w A m p) (hy : Dig w B n r) :
    Calls Tryd.prog 55 #[.slice A p c, .slice B r d] w fun e w' => ∃ C f D g, e = .returned (.tuple #[.slice C (nb (m / n)) f, .slice D (nb (m % n)) g]) ∧
      nb (m / n) ≤ f ∧ Dig w' C (m / n) (nb (m / n)) ∧ nb (m % n) ≤ g ∧ Dig w' D (m % n) (nb (m % n)) ∧ Below w.heap.size w w' := by
  have HX := Lib.hid hx
  have HY := Lib.hid hy
  have EP := Lib.hid ep
  have ER := Lib.hid er
  have HN := Lib.hid hn0
  clear hx hy ep er hn0
  go_enter Tryd.func55, Tryd.ntmps55
  go_wp2
  go_loopw [6, 7, 8, 9] (fun u6 u7 u8 u9 wr => ∃ (k : Nat) (C : Option Addr) (f : Nat) (D : Option Addr) (g : Nat), k ≤ p ∧ u8 = .int .i64 ((k : Int) - 1) ∧ u7 = .slice C (nb (m / 2 ^ k % n)) f ∧ u6 = .slice D (p - k) g ∧
      nb (m / 2 ^ k % n) ≤ f ∧ p - k ≤ g ∧ Dig wr C (m / 2 ^ k % n) (nb (m / 2 ^ k % n)) ∧ Dig wr D (m / 2 ^ k / n) (p - k) ∧ m / 2 ^ k / n < 2 ^ (p - k) ∧ Below w.heap.size w wr)
    (fun _ _ u8 _ _ => (intOf u8 + 1).toNat)
  case atStart =>
    have e0 : m / 2 ^ p = 0 := by rw [EP.out, Nat.div_eq_of_lt (lt_pow_nb m)]
    refine ⟨p, none, 0, none, 0, Nat.le_refl _, rfl, ?_⟩
    rw [e0, Nat.zero_mod, Nat.zero_div, Nat.sub_self]
    exact ⟨rfl, rfl, Nat.le_refl _, Nat.le_refl _, Reads.none_, Reads.none_, by simp, Below.refl _ _⟩
  case round =>
    obtain ⟨k, C, f, D, g, hk, rfl, rfl, rfl, hf, hg, hd, hq, hlt, hb⟩ := hrel
    by_cases h0 : k = 0
    · subst h0
      rw [Nat.pow_zero, Nat.div_one] at hf hd hq hlt ⊢
      rw [Nat.sub_zero] at hg hq hlt ⊢
      have T := trim_any D (m / n) p g wr (by omega) hg hq hlt
      have hs : nb (m / n) ≤ p := (nb_le_iff _ _).2 hlt
      have hq2 : Dig wr D (m / n) (nb (m / n)) := dig_take hq hs
      have HD := Lib.hid hd
      have HQ := Lib.hid hq2
      clear hd hq hq2 hlt
      generalize hv1 : nb (m % n) = z at *
      generalize hv2 : nb (m / n) = y at *
      have HV1 := Lib.hid hv1
      have HV2 := Lib.hid hv2
      clear hv1 hv2
      go_wp2_with fail
      refine T.mono ?_
      clear T
      rintro e w2 ⟨rfl, q, rfl⟩
      go_wp2
      go_ret2
      rw [HV1.out, HV2.out]
      exact ⟨D, g, C, f, rfl, by omega, HQ.out.drewN q, hf, HD.out.drewN q, below_drewN hb q⟩
    · obtain ⟨j, rfl⟩ : ∃ j, k = j + 1 := ⟨k - 1, by omega⟩
      obtain ⟨f1, f2, f3, XL⟩ := parts_facts m n j HN.out
      have hr2 : nb (m / 2 ^ (j + 1) % n) ≤ r := by rw [ER.out]; exact nb_mono (Nat.le_of_lt f3)
      obtain ⟨ad, rfl, cx⟩ := Dig.cell (HX.out.below hb) (show j < p by omega)
      generalize m / 2 ^ (j + 1) % n = R at *
      generalize m / 2 ^ (j + 1) / n = Q at *
      generalize hl : p - (j + 1) = l at *
      have hl2 : p - j = l + 1 := by omega
      have HL2 := Lib.hid hl2
      have hl3 : l ≤ 100000 := by omega
      generalize bitf m j = x at *
      have F1 := Lib.hid f1
      have F2 := Lib.hid f2
      have HD := Lib.hid hd
      have HQ := Lib.hid hq
      have HLT := Lib.hid hlt
      have h4 : R < 2 ^ nb R := lt_pow_nb R
      have h5 : 2 * R + x < 2 ^ (nb R + 1) := by rw [Nat.pow_succ]; omega
      have h6 : nb (2 * R + x) ≤ nb R + 1 := (nb_le_iff _ _).2 h5
      have H5 := Lib.hid h5
      clear f1 f2 hd hq hlt h4 h5 hl hl2
      generalize hnv : nb R = z at *
      have HZ := Lib.hid hnv
      clear hnv
      go_wp2_with (at_builtin; refine wpList_cons rfl (.tmp 21) (.tmp 22) 26 rfl 3 (.int .i64 0) 8 Tryd.underlying26 int_info rfl C z f _ rfl rfl HD.out (bl_one _ _) ?_ ?_ ?_; omega; omega; intro C' f' w' hown' hb' hf')
      have hd2 : Dig w' C' (2 * R + x) (z + 1) := dig_of_cons XL hown'
      have T := trim_any C' (2 * R + x) (z + 1) f' w' (by omega) hf' hd2 H5.out
      generalize hz2 : nb (2 * R + x) = y at T h6
      have hd3 : Dig w' C' (2 * R + x) y := dig_take hd2 h6
      have hb2 : Below w.heap.size w w' := below_of hb hb' hb.size
      have hy2 := Nat.le_trans h6 hf'
      have HZ2 := Lib.hid hz2
      have HD3 := Lib.hid hd3
      have hq' := HQ.out.below hb'
      have HQ' := Lib.hid hq'
      clear hz2 hd2 hd3 hown' HD HZ H5 cx hq' HQ
      refine T.mono ?_
      clear T
      rintro e w2 ⟨rfl, q, rfl⟩
      go_wp2_with fail
      refine (less_any C' B (2 * R + x) n y r f' d _ HZ2.out.symm ER.out (by omega) (HD3.out.drewN q) ((HY.out.below hb2).drewN q)).mono ?_
      rintro e w3 ⟨rfl, q2, rfl⟩
      generalize hW : (w'.drewN q).drewN q2 = W
      have hbW : Below w.heap.size w W := by rw [← hW]; exact below_drewN (below_drewN hb2 q) q2
      have hd5 : Dig W C' (2 * R + x) y := by rw [← hW]; exact (HD3.out.drewN q).drewN q2
      have hq5 : Dig W D Q l := by rw [← hW]; exact (HQ'.out.drewN q).drewN q2
      have hy5 : Dig W B n r := (HY.out.below hbW)
      have HD5 := Lib.hid hd5
      have HQ5 := Lib.hid hq5
      have HY5 := Lib.hid hy5
      clear hW hd5 hq5 hy5 HD3 HQ'
      by_cases hlt : 2 * R + x < n
      · rw [decide_eq_true hlt]
        rw [if_pos hlt] at F1 F2
        have HLT2 := Lib.hid hlt
        clear hlt
        go_wp2_with (at_builtin; refine wpList_cons rfl (.tmp 33) (.tmp 34) 26 rfl 3 (.int .i64 0) 8 Tryd.underlying26 int_info rfl D l g _ rfl rfl HQ5.out (bl_one _ _) ?_ ?_ ?_; omega; omega; intro E' g' w4 hown4 hb4 hg4)
        refine ⟨⟨j, C', f', E', g', by omega, rfl, ?_, ?_, ?_, ?_, ?_, ?_, ?_, below_of hbW hb4 hbW.size⟩, by simp [intOf]⟩
        · rw [F1.out, HZ2.out]
        · rw [HL2.out]
        · rw [F1.out, HZ2.out]; exact hy2
        · rw [HL2.out]; exact hg4
        · rw [F1.out, HZ2.out]; exact HD5.out.below hb4
        · rw [HL2.out, F2.out]; exact dig_of_cons (by decide) hown4
        · have := HLT.out
          rw [HL2.out, F2.out, Nat.pow_succ]; omega
      · rw [decide_eq_false hlt]
        rw [if_neg hlt] at F1 F2
        have hlt2 : n ≤ 2 * R + x := by omega
        have M := minus_any C' B (2 * R + x) n y r f' d W HZ2.out.symm ER.out hlt2 (by omega) HD5.out HY5.out
        rw [← F1.out] at M
        generalize hu : m / 2 ^ j % n = u at M
        have HU := Lib.hid hu
        have HM := Lib.hid M
        clear hu M hlt hlt2
        go_wp2_with fail
        refine HM.out.mono ?_
        clear HM
        rintro e w4 ⟨G, s, rfl, hs, hd6, hb6⟩
        have HD6 := Lib.hid hd6
        have HQ6 := Lib.hid (HQ5.out.below hb6)
        have hbW6 := below_of hbW hb6 hbW.size
        clear hd6 HQ5 HD5
        go_wp2_with (at_builtin; refine wpList_cons rfl (.tmp 33) (.tmp 34) 26 rfl 3 (.int .i64 0) 8 Tryd.underlying26 int_info rfl D l g _ rfl rfl HQ6.out (bl_one _ _) ?_ ?_ ?_; omega; omega; intro E' g' w5 hown5 hb5 hg5)
        refine ⟨⟨j, G, s, E', g', by omega, rfl, ?_, ?_, ?_, ?_, ?_, ?_, ?_, below_of hbW6 hb5 hbW6.size⟩, by simp [intOf]⟩
        · rw [HU.out]
        · rw [HL2.out]
        · rw [HU.out]; exact hs
        · rw [HL2.out]; exact hg5
        · rw [HU.out]; exact HD6.out.below hb5
        · rw [HL2.out, F2.out]; exact dig_of_cons (by decide) hown5
        · have := HLT.out
          rw [HL2.out, F2.out, Nat.pow_succ]; omega
theorem parts_any (A B : Option Addr) (m n p r c d : Nat) (w : World) (ep : p = nb m) (er : r = nb n) (hn0 : 0 < n) (hp : p ≤ 100000) (hr : r ≤ 100000) (hx : Dig w A m p) (hy : Dig w B n r) :
    Calls Tryd.prog 55 #[.slice A p c, .slice B r d] w fun e w' => ∃ C f D g, e = .returned (.tuple #[.slice C (nb (m / n)) f, .slice D (nb (m % n)) g]) ∧
      nb (m / n) ≤ f ∧ Dig w' C (m / n) (nb (m / n)) ∧ nb (m % n) ≤ g ∧ Dig w' D (m % n) (nb (m % n)) ∧ Below w.heap.size w w' := parts_core A B m n p r c d w hn0 hp hr ep er hx hy

/-- the number of the 64 digits from place F on -/
def wordf (v F : Nat) : Nat := v / 2 ^ F % 2 ^ 64

set_option maxHeartbeats 1000000 in
theorem word_core (A : Option Addr) (v p c F : Nat) (w : World) (hF : F ≤ 100000) (hp : p ≤ 100000) (ep : p = nb v) (hx : Dig w A v p) :
    Calls Tryd.prog 52 #[.slice A p c, .int .i64 F] w fun e w' => e = .returned (.int .u64 (wordf v F : Nat)) ∧ w = w' := by
  have HX := Lib.hid hx
  have EP := Lib.hid ep
  clear hx ep
  go_enter Tryd.func52, Tryd.ntmps52
  go_wp2
  go_loop [5, 6] (fun u5 u6 => ∃ k : Nat, k ≤ 64 ∧ u6 = .int .i64 ((F : Int) + k - 1) ∧ u5 = .int .u64 (v / 2 ^ (F + k) % 2 ^ (64 - k) : Nat)) (fun _ u6 => (intOf u6 + 1 - F).toNat)
  case atStart =>
    refine ⟨64, Nat.le_refl _, val_int (by omega), ?_⟩
    rw [Nat.sub_self, Nat.pow_zero, Nat.mod_one]
    rfl
  case round =>
    obtain ⟨k, hk, rfl, rfl⟩ := hrel
    by_cases h0 : k = 0
    · subst h0
      rw [Nat.add_zero, Nat.sub_zero]
      generalize hz : v / 2 ^ F % 2 ^ 64 = z
      have HZ := Lib.hid hz
      clear hz
      go_wp2
      go_ret
      refine ⟨?_, rfl⟩
      unfold wordf
      rw [HZ.out]
      rfl
    · obtain ⟨j, rfl⟩ : ∃ j, k = j + 1 := ⟨k - 1, by omega⟩
      have W1 := word_step v F j (by omega)
      have hz : v / 2 ^ (F + (j + 1)) % 2 ^ (64 - (j + 1)) < 2 ^ 63 := Nat.lt_of_lt_of_le (Nat.mod_lt _ (Nat.two_pow_pos _)) (Nat.pow_le_pow_right (by decide) (by omega))
      have XL := bitf_lt v (F + j)
      have XZ : ¬ F + j < p → bitf v (F + j) = 0 := fun h => bitf_ge (by have := EP.out; omega)
      have X1 : F + j < p → ∃ ad, A = some ad ∧ w.cell? (ad.add (F + j)) = some (.int .i64 (bitf v (F + j) : Nat)) := fun h => Dig.cell HX.out h
      have HW := Lib.hid W1
      clear W1
      generalize v / 2 ^ (F + (j + 1)) % 2 ^ (64 - (j + 1)) = z at *
      generalize bitf v (F + j) = x at *
      by_cases hi : F + j < p
      · obtain ⟨ad, rfl, cx⟩ := X1 hi
        clear X1 XZ
        by_cases hb : x = 1
        · have t1 : ((x : Int) == 1) = true := by simp [hb]
          have HB := Lib.hid hb
          clear hb
          go_wp2
          exact ⟨⟨j, by omega, val_int (by omega), val_int (by have := HW.out; have := HB.out; omega)⟩, by simp [intOf]; omega⟩
        · have t1 : ((x : Int) == 1) = false := by simp; omega
          have HB := Lib.hid hb
          clear hb
          go_wp2
          exact ⟨⟨j, by omega, val_int (by omega), val_int (by have := HW.out; have := HB.out; omega)⟩, by simp [intOf]; omega⟩
      · have hb := XZ hi
        have HB := Lib.hid hb
        clear hb X1 XZ
        go_wp2
        exact ⟨⟨j, by omega, val_int (by omega), val_int (by have := HW.out; have := HB.out; omega)⟩, by simp [intOf]; omega⟩
end Go.Proofs.YtpomhcclnhddmaaDoor
