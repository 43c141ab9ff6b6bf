/- Contracts of the gauge's reference: Exponent, Fraction, Kind, Scale, Within, Parts. -/
import Derived.Test.YthkncbfaehgenaaRefF
import Derived.Test.YthkncbfaehgenaaFlo
import Derived.Deep.DeepCutAuto
namespace Go.Proofs.Ythkncbfaehgenaa
open Go.RowKit NB

theorem ret_int {k : IntKind} {a b : Int} (h : a = b) : Ending.returned (.int k a) = .returned (.int k b) := by rw [h]

set_option maxHeartbeats 400000 in
theorem exponent_c (b : Nat) (w : World) (h1 : b < 18446744073709551616) :
    Calls Try.prog 44 #[.int .u64 b] w fun e w' => e = .returned (.int .i64 (ex b : Nat)) ∧ w = w' := by
  go_enter Try.func44, Try.ntmps44
  go_wp2
  go_ret
  exact ⟨ret_int (by unfold ex; omega), rfl⟩
set_option maxHeartbeats 400000 in
theorem fraction_c (b : Nat) (w : World) (h1 : b < 18446744073709551616) :
    Calls Try.prog 45 #[.int .u64 b] w fun e w' => e = .returned (.int .u64 (fr b : Nat)) ∧ w = w' := by
  go_enter Try.func45, Try.ntmps45
  go_wp2
  go_ret
  exact ⟨ret_int (by unfold fr; omega), rfl⟩
set_option maxHeartbeats 400000 in
theorem refKind_c (b : Nat) (w : World) (h1 : b < 18446744073709551616) :
    Calls Try.prog 22 #[.int .u64 b] w fun e w' => e = .returned (.int .i64 (kindV b)) ∧ w = w' := by
  have he := ex_lt b
  by_cases hx : ex b = 2047
  · have t1 : ((ex b : Int) == 2047) = true := by simp [hx]
    have HX := Lib.hid hx
    clear hx
    by_cases hy : 0 < fr b
    all_goals
      go_enter Try.func22, Try.ntmps22
      go_wp2_with (first | (go_at_call 44; refine (exponent_c b _ h1).mono ?_; rintro e w' ⟨rfl, rfl⟩) | (go_at_call 45; refine (fraction_c b _ h1).mono ?_; rintro e w' ⟨rfl, rfl⟩))
      go_ret
      exact ⟨ret_int (by unfold kindV; rw [if_pos HX.out]; simp [hy]), rfl⟩
  · have t1 : ((ex b : Int) == 2047) = false := by simp; omega
    have HX := Lib.hid hx
    clear hx
    by_cases h0 : 0 < ex b
    · go_enter Try.func22, Try.ntmps22
      go_wp2_with (first | (go_at_call 44; refine (exponent_c b _ h1).mono ?_; rintro e w' ⟨rfl, rfl⟩) | (go_at_call 45; refine (fraction_c b _ h1).mono ?_; rintro e w' ⟨rfl, rfl⟩))
      go_ret
      exact ⟨ret_int (by unfold kindV; rw [if_neg HX.out, if_pos h0]), rfl⟩
    · by_cases hy : 0 < fr b
      all_goals
        go_enter Try.func22, Try.ntmps22
        go_wp2_with (first | (go_at_call 44; refine (exponent_c b _ h1).mono ?_; rintro e w' ⟨rfl, rfl⟩) | (go_at_call 45; refine (fraction_c b _ h1).mono ?_; rintro e w' ⟨rfl, rfl⟩))
        go_ret
        exact ⟨ret_int (by unfold kindV; rw [if_neg HX.out, if_neg h0]; simp [hy]), rfl⟩
set_option maxHeartbeats 400000 in
theorem scale_c (z : Int) (w : World) :
    Calls Try.prog 14 #[.int .i64 z] w fun e w' => e = .returned (.bool (decide (-40 ≤ z ∧ z ≤ 40))) ∧ w = w' := by
  by_cases h1 : -40 ≤ z
  · by_cases h2 : z ≤ 40
    all_goals
      go_enter Try.func14, Try.ntmps14
      go_wp2
      go_ret
      exact ⟨ret_bool (by simp; omega), rfl⟩
  · go_enter Try.func14, Try.ntmps14
    go_wp2
    go_ret
    exact ⟨ret_bool (by simp; omega), rfl⟩

theorem nb_le (z : Int) : nb (pw z) ≤ z.toNat + 1 := by unfold pw; rw [nb_pow]; exact Nat.le_refl _
/-- a variable of type Num in block g -/
def NumVar (w : World) (g : Nat) (x : Int) : Prop := ∃ b A p c, Blk w g 59 #[.bool b, .slice A p c] ∧ NumIs w x b A p c
theorem var_meet {w w3 : World} {g r : Nat} {u v : Value} {cs : Array Value} {t : TypeId} {x : Int} {b : Bool} {C : Option Addr} {n c : Nat} (K : Blk w3 g 59 #[u, v]) (hn : NumIs w3 x b C n c) (R : Blk w3 r t cs) (hne : r ≠ g) (hb : Below w.heap.size w w3) (hg : w.heap.size ≤ g) :
    NumVar ((w3.setCell ⟨g, 0, none⟩ (.bool b)).setCell ⟨g, 1, none⟩ (.slice C n c)) g x ∧ Blk ((w3.setCell ⟨g, 0, none⟩ (.bool b)).setCell ⟨g, 1, none⟩ (.slice C n c)) r t cs ∧ Below w.heap.size w ((w3.setCell ⟨g, 0, none⟩ (.bool b)).setCell ⟨g, 1, none⟩ (.slice C n c)) :=
  ⟨⟨b, C, n, c, K.set2 _ _, (hn.setCell (q := ⟨g, 0, none⟩) K.typed _).setCell (q := ⟨g, 1, none⟩) (K.typed.setCell _ _) _⟩, (R.far (p := ⟨g, 0, none⟩) hne _).far (p := ⟨g, 1, none⟩) hne _, (hb.setCell (p := ⟨g, 0, none⟩) hg _).setCell (p := ⟨g, 1, none⟩) hg _⟩
/-- the number that a reading's bits are, times 2^1200, whatever its sign -/
def partsN (b : Nat) : Nat := if 0 < ex b then (fr b + 4503599627370496) * 2 ^ (125 + ex b) else fr b * 2 ^ 126
def partsV (b : Nat) : Int := if 9223372036854775808 ≤ b then -(partsN b : Int) else partsN b

set_option maxHeartbeats 2000000 in
theorem parts_tiny (b : Nat) (w : World) (h1 : b < 18446744073709551616) (h0 : ex b = 0) :
    Calls Try.prog 36 #[.int .u64 b] w (RetN (partsV b) w) := by
  have hf := fr_lt b
  have HX := Lib.hid h0
  obtain ⟨X, hX⟩ : ∃ X : Int, X = (fr b : Int) * (pw 126 : Int) := ⟨_, rfl⟩
  have hV : partsV b = if 9223372036854775808 ≤ b then -X else X := by
    have e0 : partsN b = fr b * 2 ^ 126 := by unfold partsN; rw [if_neg (by omega)]
    unfold partsV
    rw [e0, hX, Int.natCast_mul]
    rfl
  have HXX := Lib.hid hX
  have HV := Lib.hid hV
  clear h0 hX hV
  go_enter Try.func36, Try.ntmps36
  go_wp2_with (first | (go_at_call 45; refine (fraction_c b _ h1).mono ?_; rintro e w' ⟨rfl, rfl⟩) | (go_at_call 48; refine (sz_c (fr b : Nat) (by omega) (by omega)).mono ?_; rintro e w1 ⟨C, n, c, rfl, hd, hb1⟩))
  have hsz : w.heap.size < w1.heap.size := by have := hb1.size; simp at this; omega
  have Kr : Blk (w1.alloc (bNum false C n c)) w.heap.size 59 #[.bool false, .slice none 0 0] := ((Blk.new w _ _).under hb1).alloc _
  have Kn : Blk (w1.alloc (bNum false C n c)) w1.heap.size 59 #[.bool false, .slice C n c] := Blk.new _ _ _
  have hn : NumIs (w1.alloc (bNum false C n c)) (fr b : Nat) false C n c := ⟨by simp, by simpa using hd.alloc _⟩
  have hbw : Below w.heap.size w (w1.alloc (bNum false C n c)) := bstep (below1 w _ hb1) ((Below.refl _ _).alloc (Nat.le_refl _) _)
  have bn : n ≤ 52 := by rw [hd.len]; exact (nb_le_iff _ _).2 (by simpa using hf)
  generalize w1.alloc (bNum false C n c) = W at *
  generalize w1.heap.size = g at *
  clear hb1 hd
  refine (exponent_c b _ h1).mono ?_
  rintro e w' ⟨rfl, rfl⟩
  have hx0 : ex b ≤ 0 := by have := HX.out; omega
  obtain ⟨c0, c1, f0, f1, hl⟩ := Kn.two
  go_upto_region 7 with fail
  go_cut [] (fun wx => NumVar wx g X ∧ Blk wx w.heap.size 59 #[.bool false, .slice none 0 0] ∧ Below w.heap.size w wx)
  case first =>
    have hnd := hn.drew
    have Knd := Kn.drew
    have Krd := Kr.drew
    go_region_with (first | (go_at_call 31; refine (pow_c 126 _ (by decide) (by decide)).mono ?_; rintro e w2 ⟨b2, C2, n2, c2, rfl, hp2, hb2⟩; have K2 := Knd.under hb2; have R2 := Krd.under hb2; obtain ⟨c20, c21, f20, f21, hl2⟩ := K2.two) | (go_at_call 30; refine (mul_c (hnd.below hb2) hp2 (by omega) (by rw [hp2.dig.len]; simp; exact Nat.le_trans (nb_le 126) (by decide))).mono ?_; rintro e w3 ⟨b3, C3, n3, c3, rfl, hn3, hb3⟩; have K3 := K2.under hb3; have R3 := R2.under hb3; obtain ⟨c30, c31, f30, f31, hl3⟩ := K3.two))
    all_goals
      go_wp2_with fail
      go_meet
      rw [HXX.out]
      exact var_meet K3 hn3 R3 (by omega) (bstep (bstep hbw (undrew hb2)) hb3) (by omega)
  case rest =>
    obtain ⟨⟨bb, A1, p1, d1, Kn1, hn1⟩, Kr1, hbw1⟩ := hcut
    clear hn Kn Kr c0 c1 f0 f1 hl hx0 HX hf bn
    obtain ⟨c0, c1, f0, f1, hl⟩ := Kn1.two
    by_cases hs : 9223372036854775808 ≤ b
    · have HS := Lib.hid hs
      have hsI : (9223372036854775808 : Int) ≤ b := by omega
      clear hs
      go_wp2_with fail
      refine (neg_c hn1).mono ?_
      rintro e w4 ⟨b4, A4, p4, c4, rfl, hn4, hb4⟩
      have Kr4 := Kr1.under hb4
      obtain ⟨c50, c51, f50, f51, hl5⟩ := Kr4.two
      go_wp2
      rw [show partsV b = -X from by rw [HV.out, if_pos HS.out]]
      exact num_done Kr4 hn4 (bstep hbw1 hb4) (Nat.le_refl _) rfl rfl rfl
    · have HS := Lib.hid hs
      have hsI : decide ((9223372036854775808 : Int) ≤ (b : Int)) = false := decide_eq_false (by omega)
      clear hs
      obtain ⟨c50, c51, f50, f51, hl5⟩ := Kr1.two
      go_wp2
      rw [show partsV b = X from by rw [HV.out, if_neg HS.out]]
      exact num_done Kr1 hn1 hbw1 (Nat.le_refl _) rfl rfl rfl

set_option maxHeartbeats 4000000 in
theorem parts_usual (b : Nat) (w : World) (h1 : b < 18446744073709551616) (h0 : 0 < ex b) :
    Calls Try.prog 36 #[.int .u64 b] w (RetN (partsV b) w) := by
  have hf := fr_lt b
  have hx := ex_lt b
  obtain ⟨X, hX⟩ : ∃ X : Int, X = ((fr b : Int) + (pw 52 : Int)) * (pw (126 + ex b - 1) : Int) := ⟨_, rfl⟩
  have hV : partsV b = if 9223372036854775808 ≤ b then -X else X := by
    have e1 : (126 + (ex b : Int) - 1).toNat = 125 + ex b := by omega
    have e2 : (((fr b + 4503599627370496) * 2 ^ (125 + ex b) : Nat) : Int) = X := by
      rw [hX, Int.natCast_mul]
      unfold pw
      rw [e1]
      rfl
    unfold partsV partsN
    rw [if_pos h0, e2]
  have HXX := Lib.hid hX
  have HV := Lib.hid hV
  clear hX hV
  go_enter Try.func36, Try.ntmps36
  go_wp2_with (first | (go_at_call 45; refine (fraction_c b _ h1).mono ?_; rintro e w' ⟨rfl, rfl⟩) | (go_at_call 48; refine (sz_c (fr b : Nat) (by omega) (by omega)).mono ?_; rintro e w1 ⟨C, n, c, rfl, hd, hb1⟩))
  have hsz : w.heap.size < w1.heap.size := by have := hb1.size; simp at this; omega
  have Kr : Blk (w1.alloc (bNum false C n c)) w.heap.size 59 #[.bool false, .slice none 0 0] := ((Blk.new w _ _).under hb1).alloc _
  have Kn : Blk (w1.alloc (bNum false C n c)) w1.heap.size 59 #[.bool false, .slice C n c] := Blk.new _ _ _
  have hn : NumIs (w1.alloc (bNum false C n c)) (fr b : Nat) false C n c := ⟨by simp, by simpa using hd.alloc _⟩
  have hbw : Below w.heap.size w (w1.alloc (bNum false C n c)) := bstep (below1 w _ hb1) ((Below.refl _ _).alloc (Nat.le_refl _) _)
  have bn : n ≤ 52 := by rw [hd.len]; exact (nb_le_iff _ _).2 (by simpa using hf)
  generalize w1.alloc (bNum false C n c) = W at *
  generalize w1.heap.size = g at *
  clear hb1 hd
  refine (exponent_c b _ h1).mono ?_
  rintro e w' ⟨rfl, rfl⟩
  obtain ⟨c0, c1, f0, f1, hl⟩ := Kn.two
  go_upto_region 5 with fail
  go_cut [] (fun wx => NumVar wx g ((fr b : Int) + (pw 52 : Int)) ∧ Blk wx w.heap.size 59 #[.bool false, .slice none 0 0] ∧ Below w.heap.size w wx)
  case first =>
    have hnd := hn.drew
    have Knd := Kn.drew
    have Krd := Kr.drew
    go_region_with (first | (go_at_call 31; refine (pow_c 52 _ (by decide) (by decide)).mono ?_; rintro e w2 ⟨b2, C2, n2, c2, rfl, hp2, hb2⟩; have K2 := Knd.under hb2; have R2 := Krd.under hb2; obtain ⟨c20, c21, f20, f21, hl2⟩ := K2.two) | (go_at_call 53; refine (add_c (hnd.below hb2) hp2 (by omega) (by rw [hp2.dig.len]; simp; exact Nat.le_trans (nb_le 52) (by decide))).mono ?_; rintro e w3 ⟨b3, C3, n3, c3, rfl, hn3, hb3⟩; have K3 := K2.under hb3; have R3 := R2.under hb3; obtain ⟨c30, c31, f30, f31, hl3⟩ := K3.two))
    all_goals
      go_wp2_with fail
      go_meet
      exact var_meet K3 hn3 R3 (by omega) (bstep (bstep hbw (undrew hb2)) hb3) (by omega)
  case rest =>
    obtain ⟨⟨bb0, A0, p0, d0, Kn0, hn0⟩, Kr0, hbw0⟩ := hcut
    have bp0 : p0 ≤ 54 := by
      rw [hn0.dig.len]
      refine (nb_le_iff _ _).2 ?_
      have e1 : pw 52 = 4503599627370496 := rfl
      rw [e1]; omega
    clear hn Kn Kr c0 c1 f0 f1 hl hf bn hbw
    obtain ⟨c0, c1, f0, f1, hl⟩ := Kn0.two
    go_upto_region 7 with fail
    go_cut [] (fun wx => NumVar wx g X ∧ Blk wx w.heap.size 59 #[.bool false, .slice none 0 0] ∧ Below w.heap.size w wx)
    case first =>
      have hnd := hn0.drew
      have Knd := Kn0.drew
      have Krd := Kr0.drew
      go_region_with (first | (go_at_call 31; refine (pow_c (126 + ex b - 1) _ (by omega) (by omega)).mono ?_; rintro e w2 ⟨b2, C2, n2, c2, rfl, hp2, hb2⟩; have K2 := Knd.under hb2; have R2 := Krd.under hb2; obtain ⟨c20, c21, f20, f21, hl2⟩ := K2.two) | (go_at_call 30; refine (mul_c (hnd.below hb2) hp2 (by omega) (by rw [hp2.dig.len]; simp; exact Nat.le_trans (nb_le (126 + ex b - 1)) (by omega))).mono ?_; rintro e w3 ⟨b3, C3, n3, c3, rfl, hn3, hb3⟩; have K3 := K2.under hb3; have R3 := R2.under hb3; obtain ⟨c30, c31, f30, f31, hl3⟩ := K3.two))
      all_goals
        go_wp2_with fail
        go_meet
        rw [HXX.out]
        exact var_meet K3 hn3 R3 (by omega) (bstep (bstep hbw0 (undrew hb2)) hb3) (by omega)
    case rest =>
      obtain ⟨⟨bb, A1, p1, d1, Kn1, hn1⟩, Kr1, hbw1⟩ := hcut
      clear hn0 Kn0 Kr0 c0 c1 f0 f1 hl hbw0 bp0
      obtain ⟨c0, c1, f0, f1, hl⟩ := Kn1.two
      by_cases hs : 9223372036854775808 ≤ b
      · have HS := Lib.hid hs
        have hsI : (9223372036854775808 : Int) ≤ b := by omega
        clear hs
        go_wp2_with fail
        refine (neg_c hn1).mono ?_
        rintro e w4 ⟨b4, A4, p4, c4, rfl, hn4, hb4⟩
        have Kr4 := Kr1.under hb4
        obtain ⟨c50, c51, f50, f51, hl5⟩ := Kr4.two
        go_wp2
        rw [show partsV b = -X from by rw [HV.out, if_pos HS.out]]
        exact num_done Kr4 hn4 (bstep hbw1 hb4) (Nat.le_refl _) rfl rfl rfl
      · have HS := Lib.hid hs
        have hsI : decide ((9223372036854775808 : Int) ≤ (b : Int)) = false := decide_eq_false (by omega)
        clear hs
        obtain ⟨c50, c51, f50, f51, hl5⟩ := Kr1.two
        go_wp2
        rw [show partsV b = X from by rw [HV.out, if_neg HS.out]]
        exact num_done Kr1 hn1 hbw1 (Nat.le_refl _) rfl rfl rfl

theorem refParts_c (b : Nat) (w : World) (h1 : b < 18446744073709551616) :
    Calls Try.prog 36 #[.int .u64 b] w (RetN (partsV b) w) := by
  by_cases h : ex b = 0
  · exact parts_tiny b w h1 h
  · exact parts_usual b w h1 (by omega)
end Go.Proofs.Ythkncbfaehgenaa
