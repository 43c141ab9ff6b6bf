/- Contracts of the reference's Wide, and of the laws' is (seat Wide). -/
import Derived.Test.YtpomhcclnhddmaaDoorWidQ
namespace Go.Proofs.YtpomhcclnhddmaaDoor
open Go.RowKit Go.Shelf NB
set_option linter.unusedVariables false
theorem pw_127 : pw (128 - 1) = 170141183460469231731687303715884105728 := by rfl
theorem fits128 (x : Int) : fitsB x 128 = decide (inW x) := by
  unfold fitsB
  rw [pw_127, decide_eq_decide]; omega
theorem words_pos {x : Int} (h : false = decide (x < 0)) (hf : inW x) : wrap64 (wordf x.natAbs 64 : Nat) = hiW x ∧ ((wordf x.natAbs 0 : Nat) : Int) = loW x := by
  have h1 : ¬ x < 0 := by simpa using h.symm
  unfold wordf hiW loW wrap64
  rw [Nat.pow_zero, Nat.div_one]
  omega
theorem words_neg {x : Int} (h : true = decide (x < 0)) (hf : inW x) : wrap64 (wordf (pw 128 - x.natAbs) 64 : Nat) = hiW x ∧ ((wordf (pw 128 - x.natAbs) 0 : Nat) : Int) = loW x := by
  have h1 : x < 0 := by simpa using h.symm
  unfold wordf hiW loW wrap64
  rw [Nat.pow_zero, Nat.div_one, pw_128]
  omega
theorem words_back {w w1 : World} {g : Nat} {h l u v : Int} {t : Bool} {b : Bool} (hb : Below w.heap.size w w1) (hg : w.heap.size ≤ g) (h1 : u = h) (h2 : v = l) (h3 : t = b) :
    (Ending.returned (.tuple #[wv u v, .bool t]) = .returned (.tuple #[wv h l, .bool b])) ∧ Below w.heap.size w ((w1.setCell ⟨g, 0, none⟩ (.int .i64 u)).setCell ⟨g, 1, none⟩ (.int .u64 v)) := by
  rw [h1, h2, h3]
  exact ⟨rfl, (hb.setCell (p := ⟨g, 0, none⟩) hg _).setCell (p := ⟨g, 1, none⟩) hg _⟩
/-- a word, by a name -/
theorem wo_n {A : Option Addr} {m p c : Nat} {w : World} (z : Int) {u : Int} (h0 : 0 ≤ z) (h1 : z ≤ 100000) (hu : ((wordf m z.toNat : Nat) : Int) = u) (ha : DigIs w m A p c) (hp : p ≤ 100000) :
    Calls Tryd.prog 52 #[.slice A p c, .int .i64 z] w fun e w' => e = .returned (.int .u64 u) ∧ w = w' := by
  rw [← hu]; exact wo_c z h0 h1 ha hp
/-- what Wide hands back -/
def RetW (x : Int) (w : World) (e : Ending) (w' : World) : Prop := e = .returned (.tuple #[wv (if inW x then hiW x else 0) (if inW x then loW x else 0), .bool (decide (inW x))]) ∧ Below w.heap.size w w'
set_option maxHeartbeats 400000 in
theorem Wide_c {x : Int} {b : Bool} {A : Option Addr} {p c : Nat} {w : World} (h : NumIs w x b A p c) (hp : p ≤ 100000) :
    Calls Tryd.prog 46 #[.agg #[.bool b, .slice A p c]] w (RetW x w) := by
  have h0 := (h.alloc (bNum b A p c)).alloc (oW 0 0)
  have k1 : Blk ((w.alloc (bNum b A p c)).alloc (oW 0 0)) w.heap.size 28 #[.bool b, .slice A p c] := (Blk.new w _ _).alloc _
  have k2 : Blk ((w.alloc (bNum b A p c)).alloc (oW 0 0)) (w.heap.size + 1) 24 #[.int .i64 0, .int .u64 0] := Blk.new_at (w.alloc (bNum b A p c)) _ _ (by simp)
  have S0 : ((w.alloc (bNum b A p c)).alloc (oW 0 0)).cell? ⟨w.heap.size, 0, none⟩ = some (.bool b) ∧ ((w.alloc (bNum b A p c)).alloc (oW 0 0)).cell? ⟨w.heap.size, 1, none⟩ = some (.slice A p c) := ⟨k1.two.1, k1.two.2.1⟩
  have HS := Lib.hid S0
  have hb := Lib.hid h.neg
  have HP := Lib.hid hp
  have HF := Lib.hid (fits128 x)
  clear h S0 k1 hp
  go_enter Tryd.func46, Tryd.ntmps46
  go_wp2_with fail
  refine (Fits_c 128 (by decide) (by decide) h0 (by have := HP.out; omega)).mono ?_
  rintro e w1 ⟨rfl, hb1⟩
  have h1 := (h0.below hb1).dig
  obtain ⟨s0, s1⟩ := keep2 HS.out hb1
  have hbw := below2 w _ _ hb1
  have K1 := k2.under hb1
  rw [HF.out]
  clear h0 k2
  by_cases hf : inW x
  · rw [decide_eq_true hf]
    have HI := Lib.hid hf
    clear hf
    cases b
    · obtain ⟨u1, hu1⟩ : ∃ u : Int, ((wordf x.natAbs (64 : Int).toNat : Nat) : Int) = u := ⟨_, rfl⟩
      obtain ⟨u0, hu0⟩ : ∃ u : Int, ((wordf x.natAbs (0 : Int).toNat : Nat) : Int) = u := ⟨_, rfl⟩
      have H1 := Lib.hid (fun w h => wo_n (A := A) (m := x.natAbs) (p := p) (c := c) (w := w) 64 (by decide) (by decide) hu1 h HP.out)
      have H0 := Lib.hid (fun w h => wo_n (A := A) (m := x.natAbs) (p := p) (c := c) (w := w) 0 (by decide) (by decide) hu0 h HP.out)
      have hpos := words_pos hb.out HI.out
      change wrap64 ((wordf x.natAbs (64 : Int).toNat : Nat) : Int) = _ ∧ ((wordf x.natAbs (0 : Int).toNat : Nat) : Int) = _ at hpos
      rw [hu1, hu0] at hpos
      have HPOS := Lib.hid hpos
      clear hpos hu1 hu0
      go_wp2_with fail
      refine (H1.out _ h1).mono ?_
      rintro e w2 ⟨rfl, rfl⟩
      go_wp2_with fail
      refine (H0.out _ h1).mono ?_
      rintro e w3 ⟨rfl, rfl⟩
      obtain ⟨c0, c1, f0, f1, hl⟩ := K1.two
      go_wp2
      exact ret_wt rfl rfl rfl rfl (K1.set2 _ _) (words_back hbw (by omega) (HPOS.out.1.trans (if_pos HI.out).symm) (HPOS.out.2.trans (if_pos HI.out).symm) (decide_eq_true HI.out).symm)
    · go_wp2_with fail
      refine (po_c 128 (by decide) (by decide)).mono ?_
      rintro e w2 ⟨C, n, g, rfl, hd, hb2⟩
      have hn : n ≤ 100001 := by rw [hd.len]; exact nb_pw _ (by decide) (by decide)
      have K2 := K1.under hb2
      have hb12 := bstep hbw hb2
      go_wp2_with fail
      refine (mi_c hd (h1.below hb2) (by have := HI.out; rw [pw_128]; omega) (by omega)).mono ?_
      rintro e w3 ⟨D, m, f, rfl, hd3, hb3⟩
      have hm : m ≤ 100000 := by
        rw [hd3.len]
        exact Nat.le_trans (nb_mono (Nat.sub_le _ _)) (by rw [show pw 128 = 2 ^ 128 from rfl, nb_pow]; decide)
      have K3 := K2.under hb3
      have hb13 := bstep hb12 hb3
      obtain ⟨u1, hu1⟩ : ∃ u : Int, ((wordf (pw 128 - x.natAbs) (64 : Int).toNat : Nat) : Int) = u := ⟨_, rfl⟩
      obtain ⟨u0, hu0⟩ : ∃ u : Int, ((wordf (pw 128 - x.natAbs) (0 : Int).toNat : Nat) : Int) = u := ⟨_, rfl⟩
      have H1 := Lib.hid (wo_n 64 (by decide) (by decide) hu1 hd3 hm)
      have H0 := Lib.hid (wo_n 0 (by decide) (by decide) hu0 hd3 hm)
      have hpos := words_neg hb.out HI.out
      change wrap64 ((wordf (pw 128 - x.natAbs) (64 : Int).toNat : Nat) : Int) = _ ∧ ((wordf (pw 128 - x.natAbs) (0 : Int).toNat : Nat) : Int) = _ at hpos
      rw [hu1, hu0] at hpos
      have HPOS := Lib.hid hpos
      clear hpos hu1 hu0
      go_wp2_with fail
      refine H1.out.mono ?_
      rintro e w4 ⟨rfl, rfl⟩
      go_wp2_with fail
      refine H0.out.mono ?_
      rintro e w5 ⟨rfl, rfl⟩
      obtain ⟨c0, c1, f0, f1, hl⟩ := K3.two
      go_wp2
      exact ret_wt rfl rfl rfl rfl (K3.set2 _ _) (words_back hb13 (by omega) (HPOS.out.1.trans (if_pos HI.out).symm) (HPOS.out.2.trans (if_pos HI.out).symm) (decide_eq_true HI.out).symm)
  · rw [decide_eq_false hf]
    have HI := Lib.hid hf
    clear hf
    obtain ⟨c0, c1, f0, f1, hl⟩ := K1.two
    go_wp2
    exact ret_wt rfl rfl rfl rfl (K1.set2 _ _) (words_back hbw (by omega) (if_neg HI.out).symm (if_neg HI.out).symm (decide_eq_false HI.out).symm)
/-- the words, and the error, of a number that is told, or has no room -/
def TW (x h l k : Int) : Prop := (inW x ∧ h = hiW x ∧ l = loW x ∧ k = 0) ∨ (¬ inW x ∧ h = 0 ∧ l = 0 ∧ k = 5)
set_option maxHeartbeats 400000 in
theorem is_c {x h l k : Int} {b : Bool} {A : Option Addr} {p c : Nat} {w : World} (ht : TW x h l k) (hn : NumIs w x b A p c) (hp : p ≤ 100000) :
    Calls Tryd.prog 17 #[wv h l, .int .i64 k, .agg #[.bool b, .slice A p c]] w fun e w' => e = .returned (.bool true) ∧ Below w.heap.size w w' := by
  have h0 := (hn.alloc (oW h l)).alloc (bNum b A p c)
  have k1 : Blk ((w.alloc (oW h l)).alloc (bNum b A p c)) w.heap.size 24 #[.int .i64 h, .int .u64 l] := (Blk.new w _ _).alloc _
  have k2 : Blk ((w.alloc (oW h l)).alloc (bNum b A p c)) (w.heap.size + 1) 28 #[.bool b, .slice A p c] := Blk.new_at (w.alloc (oW h l)) _ _ (by simp)
  have hW := Wide_c h0 hp
  unfold RetW at hW
  have HW := Lib.hid hW
  clear hW
  have bw := below2 w (oW h l) (bNum b A p c) (Below.refl _ _)
  have HB := Lib.hid bw
  clear h0 bw
  rcases ht with ⟨hi, rfl, rfl, rfl⟩ | ⟨hi, rfl, rfl, rfl⟩
  · rw [if_pos hi, if_pos hi, decide_eq_true hi] at HW
    clear hi hn
    generalize hiW x = h at *
    generalize loW x = l at *
    obtain ⟨c0, c1, f0, f1, hl⟩ := k1.two
    obtain ⟨d0, d1, g0, g1, hm⟩ := k2.two
    go_enter Tryd.func17, Tryd.ntmps17
    go_wp2_with fail
    refine HW.out.mono ?_
    rintro e w1 ⟨rfl, hb1⟩
    have K1 := k1.under hb1
    have B2 := Lib.hid (below_alloc (below2 w _ _ hb1) (Nat.le_refl _) (oW h l))
    clear c0 c1 f0 f1 hl d0 d1 g0 g1 hm k1 k2
    obtain ⟨c0, c1, f0, f1, hl⟩ := K1.two
    go_wp2
    go_ret
    exact ⟨rfl, B2.out⟩
  · rw [if_neg hi, if_neg hi, decide_eq_false hi] at HW
    clear hi hn
    obtain ⟨c0, c1, f0, f1, hl⟩ := k1.two
    obtain ⟨d0, d1, g0, g1, hm⟩ := k2.two
    go_enter Tryd.func17, Tryd.ntmps17
    go_wp2_with fail
    refine HW.out.mono ?_
    rintro e w1 ⟨rfl, hb1⟩
    have K1 := k1.under hb1
    have B2 := Lib.hid (below_alloc (below2 w _ _ hb1) (Nat.le_refl _) (oW 0 0))
    clear c0 c1 f0 f1 hl d0 d1 g0 g1 hm k1 k2
    obtain ⟨c0, c1, f0, f1, hl⟩ := K1.two
    go_wp2
    go_ret
    exact ⟨rfl, B2.out⟩
end Go.Proofs.YtpomhcclnhddmaaDoor
