/- Contracts of the gauge's reference: Within, Nearest. -/
import Derived.Test.YthkncbfaehgenaaGauA
import Derived.Deep.Light
namespace Go.Proofs.Ythkncbfaehgenaa
open Go.RowKit NB

theorem bcell {W w1 : World} (hb : Below W.heap.size W w1) : (∀ b o, b < W.heap.size → w1.cell? ⟨b, o, none⟩ = W.cell? ⟨b, o, none⟩) ∧ (∀ b o, b < W.heap.size → w1.frozen? ⟨b, o, none⟩ = W.frozen? ⟨b, o, none⟩) ∧ W.heap.size ≤ w1.heap.size :=
  ⟨fun b o h => hb.cell (p := ⟨b, o, none⟩) h, fun b o h => hb.frozen (p := ⟨b, o, none⟩) h, hb.size⟩

set_option maxHeartbeats 1000000 in
theorem within_c {x : Int} {b : Bool} {A : Option Addr} {p c : Nat} {w : World} (h : NumIs w x b A p c) (hp : p ≤ 1000000) :
    Calls Try.prog 37 #[.agg #[.bool b, .slice A p c]] w fun e w' => e = .returned (.bool (!decide ((pw 61 : Int) < (x.natAbs : Int)))) ∧ Below w.heap.size w w' := by
  have h0 := (h.dig.alloc (bNum b A p c)).drew
  have k1 : Blk (w.alloc (bNum b A p c)).drew w.heap.size 59 #[.bool b, .slice A p c] := (Blk.new w _ _)
  have S0 : (w.alloc (bNum b A p c)).drew.cell? ⟨w.heap.size, 0, none⟩ = some (.bool b) ∧ (w.alloc (bNum b A p c)).drew.cell? ⟨w.heap.size, 1, none⟩ = some (.slice A p c) := ⟨k1.two.1, k1.two.2.1⟩
  have HS := Lib.hid S0
  clear h S0 k1
  go_enter Try.func37, Try.ntmps37
  go_wp2_with fail
  go_region_held3 (fun w' => w'.cell? ⟨w.heap.size, 0, none⟩ = some (.bool b) ∧ w'.cell? ⟨w.heap.size, 1, none⟩ = some (.slice A p c))
    (first | (with_reducible exact S2.out) | (with_reducible exact S1.out) | (with_reducible exact HS.out))
    (first | (go_at_call 31; refine (pow_c 61 _ (by decide) (by decide)).mono ?_; rintro e w1 ⟨b1, C, n, g, rfl, hd, hb1⟩; have S1 := Lib.hid (keep2 HS.out hb1)) | (go_at_call 46; refine (Less_c (y := (x.natAbs : Int)) hd ⟨by simp, by simpa using h0.below hb1⟩ (by rw [hd.dig.len]; simp; exact Nat.le_trans (nb_le 61) (by decide)) hp).mono ?_; rintro e w2 ⟨rfl, hb2⟩; (first | (with_reducible have S2 := Lib.hid (keep2 S1.out hb2)) | (with_reducible have S2 := Lib.hid (keep2 (keepA S1.out) hb2)) | (with_reducible have S2 := Lib.hid (keep2 (keepA (keepA S1.out)) hb2)))))
  go_wp2
  go_ret
  exact ⟨by simp, bstep (below1 w _ (undrew hb1)) hb2⟩

theorem keepA {W : World} {p1 p2 : Addr} {v1 v2 : Value} {o : Obj} (h : W.cell? p1 = some v1 ∧ W.cell? p2 = some v2) : (W.alloc o).cell? p1 = some v1 ∧ (W.alloc o).cell? p2 = some v2 := keep2 h ((Below.refl _ _).alloc (Nat.le_refl _) _)

theorem keepDr {W : World} {p1 p2 : Addr} {v1 v2 : Value} (h : W.cell? p1 = some v1 ∧ W.cell? p2 = some v2) : W.drew.cell? p1 = some v1 ∧ W.drew.cell? p2 = some v2 := h
theorem natAbs_div_le (x : Int) {m : Nat} (hm : 0 < m) : (x / (m : Int)).natAbs ≤ x.natAbs := by
  have e := Int.mul_ediv_add_emod x m
  have h1 := Int.emod_nonneg x (show (m : Int) ≠ 0 by omega)
  have h2 := Int.emod_lt_of_pos x (show (0 : Int) < m by omega)
  generalize x / (m : Int) = q at *
  generalize x % (m : Int) = r at *
  by_cases hq : q < 0
  · have h3 : (m : Int) * q ≤ 1 * q := Int.mul_le_mul_of_nonpos_right (by omega) (by omega)
    have h4 : (m : Int) * (q + 1) ≤ 1 * (q + 1) := Int.mul_le_mul_of_nonpos_right (by omega) (by omega)
    rw [Int.mul_add] at h4
    omega
  · have h3 : 1 * q ≤ (m : Int) * q := Int.mul_le_mul_of_nonneg_right (by omega) (by omega)
    omega
theorem two_cells {W : World} {g : Nat} {t : TypeId} {x y : Value} (h : Blk W g t #[x, y]) : W.cell? ⟨g, 0, none⟩ = some x ∧ W.cell? ⟨g, 1, none⟩ = some y := ⟨h.two.1, h.two.2.1⟩
theorem keepF' {W : World} {p1 p2 q : Addr} {v1 v2 u : Value} (h : W.cell? p1 = some v1 ∧ W.cell? p2 = some v2) (h1 : p1.block ≠ q.block) (h2 : p2.block ≠ q.block) : (W.setCell q u).cell? p1 = some v1 ∧ (W.setCell q u).cell? p2 = some v2 :=
  ⟨(World.cell?_setCell_other W q p1 u (fun e => h1 (by rw [e]))).trans h.1, (World.cell?_setCell_other W q p2 u (fun e => h2 (by rw [e]))).trans h.2⟩
theorem typed_new {W : World} {g : Nat} {cs : Array Value} {t : TypeId} (h : g = W.heap.size) : Typed (W.alloc (.cells cs t)) g t := (Blk.new_at W t cs h).typed
theorem typed_alloc {W : World} {g : Nat} {t : TypeId} (h : Typed W g t) (o : Obj) : Typed (W.alloc o) g t := by
  unfold Typed; rw [Below.heap_alloc W o g h.lt]; exact h
theorem typed_drew {W : World} {g : Nat} {t : TypeId} (h : Typed W g t) : Typed W.drew g t := h
theorem typed_under {W w1 : World} {g : Nat} {t : TypeId} (h : Typed W g t) (hb : Below W.heap.size W w1) : Typed w1 g t := by
  unfold Typed; rw [hb.block g h.lt]; exact h
theorem keepF {W : World} {p1 p2 q : Addr} {v1 v2 u : Value} (h : W.cell? p1 = some v1 ∧ W.cell? p2 = some v2) (h1 : p1.block < q.block) (h2 : p2.block < q.block) : (W.setCell q u).cell? p1 = some v1 ∧ (W.setCell q u).cell? p2 = some v2 := ⟨cell_far h.1 h1 u, cell_far h.2 h2 u⟩

/-- the nearest whole number to x / 2^z; of two the even one -/
def nearV (x z : Int) : Int := if (pw z : Int) < x % (pw z : Int) + x % (pw z : Int) ∨ ((pw z : Int) = x % (pw z : Int) + x % (pw z : Int) ∧ x / (pw z : Int) % 2 = 1) then x / (pw z : Int) + 1 else x / (pw z : Int)

set_option maxRecDepth 100000 in
set_option maxHeartbeats 4000000 in
theorem nearest_c {x : Int} {b : Bool} {A : Option Addr} {p c : Nat} {w : World} (z : Int) (h : NumIs w x b A p c) (hp : p ≤ 50000) (h0 : 0 ≤ z) (h1 : z ≤ 10000) :
    Calls Try.prog 28 #[.agg #[.bool b, .slice A p c], .int .i64 z] w (RetN (nearV x z) w) := by
  have S0 : ((w.alloc (bNum b A p c)).alloc zNum).cell? ⟨w.heap.size, 0, none⟩ = some (.bool b) ∧ ((w.alloc (bNum b A p c)).alloc zNum).cell? ⟨w.heap.size, 1, none⟩ = some (.slice A p c) := by
    have k : Blk ((w.alloc (bNum b A p c)).alloc zNum) w.heap.size 59 #[.bool b, .slice A p c] := (Blk.new w _ _).alloc _
    exact ⟨k.two.1, k.two.2.1⟩
  have HS := Lib.hid S0
  have hd := ((h.alloc (bNum b A p c)).alloc zNum)
  clear h S0
  go_enter Try.func28, Try.ntmps28
  go_upto_region 1 with fail
  go_cut [5, 6] (fun u5 u6 wx => ∃ g5 g6 : Nat, u5 = .pointer (some ⟨g5, 0, none⟩) ∧ u6 = .pointer (some ⟨g6, 0, none⟩) ∧ NumVar wx g5 (x / (pw z : Int)) ∧ NumVar wx g6 (x % (pw z : Int)) ∧ g5 ≠ g6 ∧ w.heap.size + 1 < g5 ∧ w.heap.size + 1 < g6 ∧
    Blk wx (w.heap.size + 1) 59 #[.bool false, .slice none 0 0] ∧ Below w.heap.size w wx)
  case first =>
    go_region_held3 (fun w' => w'.cell? ⟨w.heap.size, 0, none⟩ = some (.bool b) ∧ w'.cell? ⟨w.heap.size, 1, none⟩ = some (.slice A p c))
      (((try dsimp only); (repeat' (first | (with_reducible exact S2.out) | (with_reducible exact S1.out) | (with_reducible exact HS.out) | (with_reducible refine keepDr ?_) | (with_reducible refine keepA ?_) | (with_reducible refine keepF ?_ ?_ ?_) | (dsimp only; omega))); done))
      (first | (go_at_call 31; refine (pow_c z _ h0 (by omega)).mono ?_; rintro e w1 ⟨b1, C, n, g, rfl, hpw, hb1⟩; have hd1 : NumIs w1 x b A p c := (by first | (with_reducible exact hd.drew.below hb1) | (with_reducible exact (hd.alloc _).drew.below hb1) | (with_reducible exact ((hd.alloc _).alloc _).drew.below hb1)); obtain ⟨r1, r2, r3⟩ := bcell hb1; (try simp only [World.size_drew, World.size_alloc] at r3); have r4 : w.heap.size + 1 < w1.heap.size := Nat.lt_of_lt_of_le (by omega) r3; (try (obtain r5 : w.heap.size + 1 + 1 < w1.heap.size; omega)); (try (obtain r6 : w.heap.size + 1 + 1 + 1 < w1.heap.size; omega)); (first | (with_reducible have S1 := Lib.hid (keep2 (keepDr HS.out) hb1)) | (with_reducible have S1 := Lib.hid (keep2 (keepDr (keepA HS.out)) hb1)) | (with_reducible have S1 := Lib.hid (keep2 (keepDr (keepA (keepA HS.out))) hb1)))) | (go_at_call 52; refine (Div_c (x := x) (m := pw z) (by first | (with_reducible exact hd1) | (with_reducible exact hd1.alloc _) | (with_reducible exact (hd1.alloc _).alloc _)) (by first | (with_reducible exact hpw) | (with_reducible exact hpw.alloc _) | (with_reducible exact (hpw.alloc _).alloc _)) (Nat.two_pow_pos _) (by omega) (by rw [hpw.dig.len]; simp; exact Nat.le_trans (nb_le z) (by omega))).mono ?_; rintro e w2 ⟨b2, C2, n2, c2, b3, C3, n3, c3, rfl, hq, hr, hb2⟩; obtain ⟨s1, s2, s3⟩ := bcell hb2; (try simp only [World.size_alloc] at s3); (try (obtain s5 : w1.heap.size < w2.heap.size; omega)); (try (obtain s6 : w1.heap.size + 1 < w2.heap.size; omega)); (try (obtain s7 : w.heap.size + 1 + 1 < w2.heap.size; omega)); (try (obtain s8 : w.heap.size + 1 + 1 + 1 < w2.heap.size; omega)); (first | (with_reducible have S2 := Lib.hid (keep2 S1.out hb2)) | (with_reducible have S2 := Lib.hid (keep2 (keepA S1.out) hb2)) | (with_reducible have S2 := Lib.hid (keep2 (keepA (keepA S1.out)) hb2)))))
    all_goals
      go_wp2_with fail
      go_meet
      clear HS
      go_light
      refine ⟨_, _, rfl, rfl, ⟨b2, C2, n2, c2, ?_, ?_⟩, ⟨b3, C3, n3, c3, ?_, ?_⟩, ?_, ?_, ?_, ?_, ?_⟩
      · repeat' (first | ((with_reducible refine Blk.new_at _ _ _ ?_); simp; done) | (with_reducible refine Blk.set2 (x := .bool false) (y := .slice none 0 0) ?_ _ _) | (with_reducible refine Blk.alloc ?_ _) | (with_reducible refine Blk.far ?_ ?_ _) | (with_reducible refine Blk.drew ?_) | (with_reducible refine Blk.under ?_ hb2) | (with_reducible refine Blk.under ?_ hb1) | (dsimp only; omega))
      · repeat' (first | (with_reducible exact hq) | (with_reducible exact hr) | (with_reducible refine NumIs.alloc ?_ _) | (with_reducible refine NumIs.setCell ?_ ?_ _) | ((with_reducible refine typed_new ?_); simp; done) | (with_reducible refine Typed.setCell ?_ _ _) | (with_reducible refine typed_alloc ?_ _) | (with_reducible refine typed_drew ?_) | (with_reducible refine typed_under ?_ hb2) | (with_reducible refine typed_under ?_ hb1))
      · repeat' (first | ((with_reducible refine Blk.new_at _ _ _ ?_); simp; done) | (with_reducible refine Blk.set2 (x := .bool false) (y := .slice none 0 0) ?_ _ _) | (with_reducible refine Blk.alloc ?_ _) | (with_reducible refine Blk.far ?_ ?_ _) | (with_reducible refine Blk.drew ?_) | (with_reducible refine Blk.under ?_ hb2) | (with_reducible refine Blk.under ?_ hb1) | (dsimp only; omega))
      · repeat' (first | (with_reducible exact hq) | (with_reducible exact hr) | (with_reducible refine NumIs.alloc ?_ _) | (with_reducible refine NumIs.setCell ?_ ?_ _) | ((with_reducible refine typed_new ?_); simp; done) | (with_reducible refine Typed.setCell ?_ _ _) | (with_reducible refine typed_alloc ?_ _) | (with_reducible refine typed_drew ?_) | (with_reducible refine typed_under ?_ hb2) | (with_reducible refine typed_under ?_ hb1))
      · omega
      · omega
      · omega
      · repeat' (first | ((with_reducible refine Blk.new_at _ _ _ ?_); simp; done) | (with_reducible refine Blk.set2 (x := .bool false) (y := .slice none 0 0) ?_ _ _) | (with_reducible refine Blk.alloc ?_ _) | (with_reducible refine Blk.far ?_ ?_ _) | (with_reducible refine Blk.drew ?_) | (with_reducible refine Blk.under ?_ hb2) | (with_reducible refine Blk.under ?_ hb1) | (dsimp only; omega))
      · repeat' (first | (with_reducible exact Below.refl _ _) | (with_reducible refine Below.alloc ?_ ?_ _) | (with_reducible refine Below.setCell ?_ ?_ _) | (with_reducible refine Below.drew ?_) | (with_reducible refine bstep ?_ hb2) | (with_reducible refine bstep ?_ hb1) | (simp only [World.size_alloc]; done) | (simp only [World.size_alloc, World.size_setCell]; omega) | omega)
  case rest =>
    obtain ⟨g5, g6, rfl, rfl, ⟨b5, A5, p5, d5, K5, n5⟩, ⟨b6, A6, p6, d6, K6, n6⟩, hne, hg5, hg6, Kr, hbw⟩ := hcut
    have hxp : nb x.natAbs ≤ 50000 := by rw [← hd.dig.len]; exact hp
    clear hd HS
    obtain ⟨q, hq⟩ : ∃ q, q = x / (pw z : Int) := ⟨_, rfl⟩
    obtain ⟨r, hr⟩ : ∃ r, r = x % (pw z : Int) := ⟨_, rfl⟩
    have hnv : nearV x z = if (pw z : Int) < r + r ∨ ((pw z : Int) = r + r ∧ q % 2 = 1) then q + 1 else q := by rw [hq, hr]; rfl
    rw [← hq] at n5
    rw [← hr] at n6
    have hpz : 0 < pw z := Nat.two_pow_pos _
    have bp5 : p5 ≤ 60000 := by
      rw [n5.dig.len, hq]
      exact Nat.le_trans (nb_mono (natAbs_div_le x hpz)) (Nat.le_trans hxp (by decide))
    have bp6 : p6 ≤ 60000 := by
      have e1 := Int.emod_nonneg x (show (pw z : Int) ≠ 0 by omega)
      have e2 := Int.emod_lt_of_pos x (show (0 : Int) < pw z by omega)
      rw [n6.dig.len, hr]
      exact Nat.le_trans (nb_mono (show (x % (pw z : Int)).natAbs ≤ pw z by omega)) (Nat.le_trans (nb_le z) (by omega))
    have b66 : nb r.natAbs ≤ 60000 := by rw [← n6.dig.len]; exact bp6
    have HNV := Lib.hid hnv
    clear hq hr hnv
    obtain ⟨c50, c51, f50, f51, hl5⟩ := K5.two
    obtain ⟨c60, c61, f60, f61, hl6⟩ := K6.two
    go_wp2_with fail
    refine (add_c n6 n6 (by omega) (by omega)).mono ?_
    rintro e w3 ⟨b7, A7, p7, d7, rfl, n7, hb3⟩
    have K5' := K5.under hb3
    have Kr' := Kr.under hb3
    have n5' := n5.below hb3
    have hbw3 := bstep hbw hb3
    clear K5 K6 Kr n5 n6 hbw c50 c51 c60 c61 f50 f51 f60 f61 hl5 hl6
    have bp7 : p7 ≤ 60001 := by
      rw [n7.dig.len, show (r + r).natAbs = r.natAbs + r.natAbs by omega]
      exact nb_add_le _ _ 60000 b66 b66
    clear b66 hxp hpz
    obtain ⟨c50, c51, f50, f51, hl5⟩ := K5'.two
    go_upto_region 3 with fail
    have K7 : Blk (w3.alloc (bNum b7 A7 p7 d7)) w3.heap.size 59 #[.bool b7, .slice A7 p7 d7] := Blk.new _ _ _
    have N7 := n7.alloc (bNum b7 A7 p7 d7)
    have K5 := K5'.alloc (bNum b7 A7 p7 d7)
    have n5 := n5'.alloc (bNum b7 A7 p7 d7)
    have Kr := Kr'.alloc (bNum b7 A7 p7 d7)
    have hbw := hbw3.alloc hbw3.size (bNum b7 A7 p7 d7)
    generalize w3.alloc (bNum b7 A7 p7 d7) = W4 at *
    generalize w3.heap.size = g7 at *
    clear n7 K5' Kr' n5' hbw3 c50 c51 f50 f51 hl5 hb3
    obtain ⟨c50, c51, f50, f51, hl5⟩ := K5.two
    go_cut [8] (fun u8 wx => u8 = .bool (decide (q % 2 = 0)) ∧ wx = W4)
    case first =>
      have hlen := n5.dig.len
      have hcell := fun h => Dig.cell (k := 0) n5.dig.dig h
      have hz := @nb_eq_zero q.natAbs
      have hb0 : bitf q.natAbs 0 = q.natAbs % 2 := bitf_zero _
      rw [← hlen] at hz
      clear hlen
      by_cases hp0 : p5 = 0
      · have hq0 : q % 2 = 0 := by have := hz.1 hp0; omega
        have HQ0 := Lib.hid hq0
        have t1 : ((p5 : Int) == 0) = true := by simp [hp0]
        clear hcell hz hb0 hp0 hq0
        go_wp2_with fail
        go_meet
        exact ⟨by rw [HQ0.out]; rfl, rfl⟩
      · obtain ⟨ad, rfl, hc⟩ := hcell (by omega)
        rw [hb0] at hc
        have ha0 : ad.add 0 = ad := rfl
        rw [ha0] at hc
        have t1 : ((p5 : Int) == 0) = false := by simp; omega
        have hp1 : 0 < p5 := by omega
        clear hcell hz hb0 hp0 ha0
        by_cases hq0 : q % 2 = 0
        · rw [show q.natAbs % 2 = 0 by omega] at hc
          have HQ0 := Lib.hid hq0
          clear hq0
          go_wp2_with fail
          go_meet
          exact ⟨by rw [HQ0.out]; rfl, rfl⟩
        · rw [show q.natAbs % 2 = 1 by omega] at hc
          have HQ0 := Lib.hid hq0
          clear hq0
          go_wp2_with fail
          go_meet
          exact ⟨by rw [decide_eq_false HQ0.out], rfl⟩
    case rest =>
      obtain ⟨rfl, rfl⟩ := hcut
      have HS := Lib.hid (two_cells K7)
      by_cases hA : (pw z : Int) < r + r
      · have HV := Lib.hid (show nearV x z = q + 1 from by rw [HNV.out, if_pos (.inl hA)])
        have HA := Lib.hid (decide_eq_true hA)
        clear hA
        obtain ⟨c70, c71, f70, f71, hl7⟩ := K7.two
        go_wp2_with fail
        refine wp_region_held_drew (S := fun w' => w'.cell? ⟨g7, 0, none⟩ = some (.bool b7) ∧ w'.cell? ⟨g7, 1, none⟩ = some (.slice A7 p7 d7)) (by kernel_rfl) (keepDr HS.out) (fun hHeld => ?_)
        refine wpAnyH_take (i := 0) (v := ?_) rfl (by kernel_rfl) (by kernel_rfl) (by kernel_rfl) (fun _ _ _ h => h) (Or.inl ⟨by rfl, ?_⟩) (by assumption) ?_
        rotate_left
        · intro W hW
          obtain ⟨x0, x1⟩ := hW
          go_simp
          try rfl
        simp only [List.getElem_toArray, List.getElem_cons_zero, Act.put, List.setIfInBounds_toArray, List.set_cons_zero, List.set_cons_succ]
        refine wpAnyH_take (i := 2) (v := ?_) rfl (by kernel_rfl) (by kernel_rfl) (by kernel_rfl) (fun _ _ _ h => h) (Or.inl ⟨by rfl, ?_⟩) (by assumption) ?_
        rotate_left
        · intro W hW
          obtain ⟨x0, x1⟩ := hW
          go_simp
          try rfl
        simp only [List.getElem_toArray, List.getElem_cons_succ, List.getElem_cons_zero, Act.put, List.setIfInBounds_toArray, List.set_cons_zero, List.set_cons_succ]
        refine wpAnyH_ready (rs := [1]) (by kernel_rfl) (by simp) ?_
        refine AllReadyH.cons rfl (fun K hK => ?_) AllReadyH.nil
        go_simp
        refine (pow_c z _ h0 (by omega)).mono ?_
        rintro e w1 ⟨b1, C1, m1, c1, rfl, hpw, hb1⟩
        have S1 := Lib.hid (keep2 (keepDr HS.out) hb1)
        refine hK.out _ _ S1.out (fun hHeld => ?_)
        clear hK K
        refine wpAnyH_ready (rs := [3]) (by kernel_rfl) (by simp) ?_
        refine AllReadyH.cons rfl (fun K hK => ?_) AllReadyH.nil
        go_simp
        refine (Less_c hpw (N7.drew.below hb1) (by rw [hpw.dig.len]; simp; exact Nat.le_trans (nb_le z) (by omega)) (by omega)).mono ?_
        rintro e w2 ⟨rfl, hb2⟩
        have S2 := Lib.hid (keep2 S1.out hb2)
        rw [HA.out]
        refine hK.out _ _ S2.out (fun hHeld => ?_)
        clear hK K
        refine wpAnyH_take (i := 4) (v := ?_) rfl (by kernel_rfl) (by kernel_rfl) (by kernel_rfl) (fun _ _ _ h => h) (Or.inl ⟨by rfl, ?_⟩) (by assumption) ?_
        rotate_left
        · intro W hW
          obtain ⟨x0, x1⟩ := hW
          go_simp
          try rfl
        simp only [List.getElem_toArray, List.getElem_cons_succ, List.getElem_cons_zero, Act.put, List.setIfInBounds_toArray, List.set_cons_zero, List.set_cons_succ]
        refine wpAnyH_take (i := 5) (v := undef) rfl (by kernel_rfl) (by kernel_rfl) (by kernel_rfl) (fun _ _ _ h => h) (Or.inr ⟨by rfl, rfl⟩) (by assumption) ?_
        simp only [List.getElem_toArray, List.getElem_cons_succ, List.getElem_cons_zero, Act.put, List.setIfInBounds_toArray, List.set_cons_zero, List.set_cons_succ]
        refine wpAnyH_take (i := 6) (v := undef) rfl (by kernel_rfl) (by kernel_rfl) (by kernel_rfl) (fun _ _ _ h => h) (Or.inr ⟨by rfl, rfl⟩) (by assumption) ?_
        simp only [List.getElem_toArray, List.getElem_cons_succ, List.getElem_cons_zero, Act.put, List.setIfInBounds_toArray, List.set_cons_zero, List.set_cons_succ]
        refine wpAnyH_take (i := 7) (v := undef) rfl (by kernel_rfl) (by kernel_rfl) (by kernel_rfl) (fun _ _ _ h => h) (Or.inr ⟨by rfl, rfl⟩) (by assumption) ?_
        simp only [List.getElem_toArray, List.getElem_cons_succ, List.getElem_cons_zero, Act.put, List.setIfInBounds_toArray, List.set_cons_zero, List.set_cons_succ]
        refine wpAnyH_take (i := 8) (v := undef) rfl (by kernel_rfl) (by kernel_rfl) (by kernel_rfl) (fun _ _ _ h => h) (Or.inr ⟨by rfl, rfl⟩) (by assumption) ?_
        simp only [List.getElem_toArray, List.getElem_cons_succ, List.getElem_cons_zero, Act.put, List.setIfInBounds_toArray, List.set_cons_zero, List.set_cons_succ]
        refine wpAnyH_take (i := 9) (v := undef) rfl (by kernel_rfl) (by kernel_rfl) (by kernel_rfl) (fun _ _ _ h => h) (Or.inr ⟨by rfl, rfl⟩) (by assumption) ?_
        simp only [List.getElem_toArray, List.getElem_cons_succ, List.getElem_cons_zero, Act.put, List.setIfInBounds_toArray, List.set_cons_zero, List.set_cons_succ]
        refine wpAnyH_take (i := 10) (v := undef) rfl (by kernel_rfl) (by kernel_rfl) (by kernel_rfl) (fun _ _ _ h => h) (Or.inr ⟨by rfl, rfl⟩) (by assumption) ?_
        simp only [List.getElem_toArray, List.getElem_cons_succ, List.getElem_cons_zero, Act.put, List.setIfInBounds_toArray, List.set_cons_zero, List.set_cons_succ]
        refine wpAnyH_take (i := 11) (v := undef) rfl (by kernel_rfl) (by kernel_rfl) (by kernel_rfl) (fun _ _ _ h => h) (Or.inr ⟨by rfl, rfl⟩) (by assumption) ?_
        simp only [List.getElem_toArray, List.getElem_cons_succ, List.getElem_cons_zero, Act.put, List.setIfInBounds_toArray, List.set_cons_zero, List.set_cons_succ]
        refine wpAnyH_take (i := 12) (v := undef) rfl (by kernel_rfl) (by kernel_rfl) (by kernel_rfl) (fun _ _ _ h => h) (Or.inr ⟨by rfl, rfl⟩) (by assumption) ?_
        simp only [List.getElem_toArray, List.getElem_cons_succ, List.getElem_cons_zero, Act.put, List.setIfInBounds_toArray, List.set_cons_zero, List.set_cons_succ]
        refine wpAnyH_take (i := 13) (v := ?_) rfl (by kernel_rfl) (by kernel_rfl) (by kernel_rfl) (fun _ _ _ h => h) (Or.inl ⟨by rfl, ?_⟩) (by assumption) ?_
        rotate_left
        · intro W hW
          obtain ⟨x0, x1⟩ := hW
          go_simp
          try rfl
        simp only [List.getElem_toArray, List.getElem_cons_succ, List.getElem_cons_zero, Act.put, List.setIfInBounds_toArray, List.set_cons_zero, List.set_cons_succ]
        refine wpAnyH_done (by kernel_rfl) ?_ _
        have hbwx := bstep (bstep hbw (undrew hb1)) hb2
        have K5x := (K5.under (undrew hb1)).under hb2
        have Krx := (Kr.under (undrew hb1)).under hb2
        have n5x := (n5.below (undrew hb1)).below hb2
        have T0 := Lib.hid (two_cells K5x)
        go_wp2_with fail
        go_region_held3 (fun w' => w'.cell? ⟨g5, 0, none⟩ = some (.bool b5) ∧ w'.cell? ⟨g5, 1, none⟩ = some (.slice A5 p5 d5))
          (((try dsimp only); (repeat' (first | (with_reducible exact T6.out) | (with_reducible exact T5.out) | (with_reducible exact keepDr T0.out) | (with_reducible refine keepF' ?_ ?_ ?_) | (dsimp only; omega))); done))
          (first | (go_at_call 27; refine (int_c 1 _ (by decide) (by decide)).mono ?_; rintro e w5 ⟨b8, C8, m8, c8, rfl, hi8, hb5⟩; have T5 := Lib.hid (keep2 (keepDr T0.out) hb5)) | (go_at_call 53; refine (add_c (n5x.drew.below hb5) hi8 (by omega) (by rw [hi8.dig.len]; exact Nat.le_trans (Nat.le_of_eq nb_one) (by decide))).mono ?_; rintro e w6 ⟨b9, C9, m9, c9, rfl, hi9, hb6⟩; have T6 := Lib.hid (keep2 T5.out hb6); have Kr6 := (Krx.under (undrew hb5)).under hb6; obtain ⟨c90, c91, f90, f91, hl9⟩ := Kr6.two))
        go_wp2
        rw [HV.out]
        exact num_done Kr6 hi9 (bstep (bstep hbwx (undrew hb5)) hb6) (by omega) rfl rfl rfl
      · have HA := Lib.hid (decide_eq_false hA)
        have HA' := Lib.hid hA
        clear hA
        have t0 : True := trivial
        by_cases hE : (pw z : Int) = r + r
        · have HE := Lib.hid (decide_eq_true hE)
          by_cases hq : q % 2 = 1
          · have HV := Lib.hid (show nearV x z = q + 1 from by rw [HNV.out, if_pos (.inr ⟨hE, hq⟩)])
            have hd : decide (q % 2 = 0) = false := decide_eq_false (by omega)
            rw [hd]
            clear hE hq hd
            go_wp2_with fail
            go_region_held3 (fun w' => w'.cell? ⟨g7, 0, none⟩ = some (.bool b7) ∧ w'.cell? ⟨g7, 1, none⟩ = some (.slice A7 p7 d7))
              (((try dsimp only); first | (with_reducible exact S4.out) | (with_reducible exact S3.out) | (with_reducible exact S2.out) | (with_reducible exact S1.out) | (with_reducible exact keepDr HS.out)))
              (first | (go_at_call 31; have tok1 := t0; clear t0; refine (pow_c z _ h0 (by omega)).mono ?_; rintro e w1 ⟨b1, C1, m1, c1, rfl, hpw, hb1⟩; have S1 := Lib.hid (keep2 (keepDr HS.out) hb1)) | (go_at_call 46; refine (Less_c hpw (N7.drew.below hb1) (by rw [hpw.dig.len]; simp; exact Nat.le_trans (nb_le z) (by omega)) (by omega)).mono ?_; rintro e w2 ⟨rfl, hb2⟩; have S2 := Lib.hid (keep2 S1.out hb2); rw [HA.out]) | (go_at_call 31; refine (pow_c z _ h0 (by omega)).mono ?_; rintro e w3 ⟨b3, C3, m3, c3, rfl, hpw3, hb3⟩; have S3 := Lib.hid (keep2 S2.out hb3)) | (go_at_call 29; refine (Same_c hpw3 (((N7.drew.below hb1).below hb2).below hb3) (by rw [hpw3.dig.len]; simp; exact Nat.le_trans (nb_le z) (by omega)) (by omega)).mono ?_; rintro e w4 ⟨rfl, hb4⟩; have S4 := Lib.hid (keep2 S3.out hb4); rw [HE.out]))
            have hbwx := bstep (bstep (bstep (bstep hbw (undrew hb1)) hb2) hb3) hb4
            have K5x := (((K5.under (undrew hb1)).under hb2).under hb3).under hb4
            have Krx := (((Kr.under (undrew hb1)).under hb2).under hb3).under hb4
            have n5x := (((n5.below (undrew hb1)).below hb2).below hb3).below hb4
            have T0 := Lib.hid (two_cells K5x)
            go_wp2_with fail
            go_region_held3 (fun w' => w'.cell? ⟨g5, 0, none⟩ = some (.bool b5) ∧ w'.cell? ⟨g5, 1, none⟩ = some (.slice A5 p5 d5))
              (((try dsimp only); (repeat' (first | (with_reducible exact T6.out) | (with_reducible exact T5.out) | (with_reducible exact keepDr T0.out) | (with_reducible refine keepF' ?_ ?_ ?_) | (dsimp only; omega))); done))
              (first | (go_at_call 27; refine (int_c 1 _ (by decide) (by decide)).mono ?_; rintro e w5 ⟨b8, C8, m8, c8, rfl, hi8, hb5⟩; have T5 := Lib.hid (keep2 (keepDr T0.out) hb5)) | (go_at_call 53; refine (add_c (n5x.drew.below hb5) hi8 (by omega) (by rw [hi8.dig.len]; exact Nat.le_trans (Nat.le_of_eq nb_one) (by decide))).mono ?_; rintro e w6 ⟨b9, C9, m9, c9, rfl, hi9, hb6⟩; have T6 := Lib.hid (keep2 T5.out hb6); have Kr6 := (Krx.under (undrew hb5)).under hb6; obtain ⟨c90, c91, f90, f91, hl9⟩ := Kr6.two))
            go_wp2
            rw [HV.out]
            exact num_done Kr6 hi9 (bstep (bstep hbwx (undrew hb5)) hb6) (by omega) rfl rfl rfl
          · have HV := Lib.hid (show nearV x z = q from by rw [HNV.out, if_neg (by rintro (h | h); exact HA'.out h; exact hq h.2)])
            have hd : decide (q % 2 = 0) = true := decide_eq_true (by omega)
            rw [hd]
            clear hE hq hd
            go_wp2_with fail
            go_region_held3 (fun w' => w'.cell? ⟨g7, 0, none⟩ = some (.bool b7) ∧ w'.cell? ⟨g7, 1, none⟩ = some (.slice A7 p7 d7))
              (((try dsimp only); first | (with_reducible exact S4.out) | (with_reducible exact S3.out) | (with_reducible exact S2.out) | (with_reducible exact S1.out) | (with_reducible exact keepDr HS.out)))
              (first | (go_at_call 31; have tok1 := t0; clear t0; refine (pow_c z _ h0 (by omega)).mono ?_; rintro e w1 ⟨b1, C1, m1, c1, rfl, hpw, hb1⟩; have S1 := Lib.hid (keep2 (keepDr HS.out) hb1)) | (go_at_call 46; refine (Less_c hpw (N7.drew.below hb1) (by rw [hpw.dig.len]; simp; exact Nat.le_trans (nb_le z) (by omega)) (by omega)).mono ?_; rintro e w2 ⟨rfl, hb2⟩; have S2 := Lib.hid (keep2 S1.out hb2); rw [HA.out]) | (go_at_call 31; refine (pow_c z _ h0 (by omega)).mono ?_; rintro e w3 ⟨b3, C3, m3, c3, rfl, hpw3, hb3⟩; have S3 := Lib.hid (keep2 S2.out hb3)) | (go_at_call 29; refine (Same_c hpw3 (((N7.drew.below hb1).below hb2).below hb3) (by rw [hpw3.dig.len]; simp; exact Nat.le_trans (nb_le z) (by omega)) (by omega)).mono ?_; rintro e w4 ⟨rfl, hb4⟩; have S4 := Lib.hid (keep2 S3.out hb4); rw [HE.out]))
            have hbwx := bstep (bstep (bstep (bstep hbw (undrew hb1)) hb2) hb3) hb4
            have K5x := (((K5.under (undrew hb1)).under hb2).under hb3).under hb4
            have Krx := (((Kr.under (undrew hb1)).under hb2).under hb3).under hb4
            have n5x := (((n5.below (undrew hb1)).below hb2).below hb3).below hb4
            obtain ⟨c80, c81, f80, f81, hl8⟩ := K5x.two
            obtain ⟨c90, c91, f90, f91, hl9⟩ := Krx.two
            go_wp2
            rw [HV.out]
            exact num_done Krx n5x hbwx (by omega) rfl rfl rfl
        · have HE := Lib.hid (decide_eq_false hE)
          have HV := Lib.hid (show nearV x z = q from by rw [HNV.out, if_neg (by rintro (h | h); exact HA'.out h; exact hE h.1)])
          generalize decide (q % 2 = 0) = ev at *
          clear hE
          go_wp2_with fail
          refine wp_region_held_drew (S := fun w' => w'.cell? ⟨g7, 0, none⟩ = some (.bool b7) ∧ w'.cell? ⟨g7, 1, none⟩ = some (.slice A7 p7 d7)) (by kernel_rfl) (keepDr HS.out) (fun hHeld => ?_)
          refine wpAnyH_take (i := 0) (v := ?_) rfl (by kernel_rfl) (by kernel_rfl) (by kernel_rfl) (fun _ _ _ h => h) (Or.inl ⟨by rfl, ?_⟩) (by assumption) ?_
          rotate_left
          · intro W hW
            obtain ⟨x0, x1⟩ := hW
            go_simp
            try rfl
          simp only [List.getElem_toArray, List.getElem_cons_zero, Act.put, List.setIfInBounds_toArray, List.set_cons_zero, List.set_cons_succ]
          refine wpAnyH_take (i := 2) (v := ?_) rfl (by kernel_rfl) (by kernel_rfl) (by kernel_rfl) (fun _ _ _ h => h) (Or.inl ⟨by rfl, ?_⟩) (by assumption) ?_
          rotate_left
          · intro W hW
            obtain ⟨x0, x1⟩ := hW
            go_simp
            try rfl
          simp only [List.getElem_toArray, List.getElem_cons_succ, List.getElem_cons_zero, Act.put, List.setIfInBounds_toArray, List.set_cons_zero, List.set_cons_succ]
          refine wpAnyH_ready (rs := [1]) (by kernel_rfl) (by simp) ?_
          refine AllReadyH.cons rfl (fun K hK => ?_) AllReadyH.nil
          go_simp
          refine (pow_c z _ h0 (by omega)).mono ?_
          rintro e w1 ⟨b1, C1, m1, c1, rfl, hpw, hb1⟩
          have S1 := Lib.hid (keep2 (keepDr HS.out) hb1)
          refine hK.out _ _ S1.out (fun hHeld => ?_)
          clear hK K
          refine wpAnyH_ready (rs := [3]) (by kernel_rfl) (by simp) ?_
          refine AllReadyH.cons rfl (fun K hK => ?_) AllReadyH.nil
          go_simp
          refine (Less_c hpw (N7.drew.below hb1) (by rw [hpw.dig.len]; simp; exact Nat.le_trans (nb_le z) (by omega)) (by omega)).mono ?_
          rintro e w2 ⟨rfl, hb2⟩
          have S2 := Lib.hid (keep2 S1.out hb2)
          rw [HA.out]
          refine hK.out _ _ S2.out (fun hHeld => ?_)
          clear hK K
          refine wpAnyH_take (i := 4) (v := ?_) rfl (by kernel_rfl) (by kernel_rfl) (by kernel_rfl) (fun _ _ _ h => h) (Or.inl ⟨by rfl, ?_⟩) (by assumption) ?_
          rotate_left
          · intro W hW
            obtain ⟨x0, x1⟩ := hW
            go_simp
            try rfl
          simp only [List.getElem_toArray, List.getElem_cons_succ, List.getElem_cons_zero, Act.put, List.setIfInBounds_toArray, List.set_cons_zero, List.set_cons_succ]
          refine wpAnyH_take (i := 5) (v := ?_) rfl (by kernel_rfl) (by kernel_rfl) (by kernel_rfl) (fun _ _ _ h => h) (Or.inl ⟨by rfl, ?_⟩) (by assumption) ?_
          rotate_left
          · intro W hW
            obtain ⟨x0, x1⟩ := hW
            go_simp
            try rfl
          simp only [List.getElem_toArray, List.getElem_cons_succ, List.getElem_cons_zero, Act.put, List.setIfInBounds_toArray, List.set_cons_zero, List.set_cons_succ]
          refine wpAnyH_take (i := 7) (v := ?_) rfl (by kernel_rfl) (by kernel_rfl) (by kernel_rfl) (fun _ _ _ h => h) (Or.inl ⟨by rfl, ?_⟩) (by assumption) ?_
          rotate_left
          · intro W hW
            obtain ⟨x0, x1⟩ := hW
            go_simp
            try rfl
          simp only [List.getElem_toArray, List.getElem_cons_succ, List.getElem_cons_zero, Act.put, List.setIfInBounds_toArray, List.set_cons_zero, List.set_cons_succ]
          refine wpAnyH_ready (rs := [6]) (by kernel_rfl) (by simp) ?_
          refine AllReadyH.cons rfl (fun K hK => ?_) AllReadyH.nil
          go_simp
          refine (pow_c z _ h0 (by omega)).mono ?_
          rintro e w3 ⟨b3, C3, m3, c3, rfl, hpw3, hb3⟩
          have S3 := Lib.hid (keep2 S2.out hb3)
          refine hK.out _ _ S3.out (fun hHeld => ?_)
          clear hK K
          refine wpAnyH_ready (rs := [8]) (by kernel_rfl) (by simp) ?_
          refine AllReadyH.cons rfl (fun K hK => ?_) AllReadyH.nil
          go_simp
          refine (Same_c hpw3 (((N7.drew.below hb1).below hb2).below hb3) (by rw [hpw3.dig.len]; simp; exact Nat.le_trans (nb_le z) (by omega)) (by omega)).mono ?_
          rintro e w4 ⟨rfl, hb4⟩
          have S4 := Lib.hid (keep2 S3.out hb4)
          rw [HE.out]
          refine hK.out _ _ S4.out (fun hHeld => ?_)
          clear hK K
          refine wpAnyH_take (i := 9) (v := ?_) rfl (by kernel_rfl) (by kernel_rfl) (by kernel_rfl) (fun _ _ _ h => h) (Or.inl ⟨by rfl, ?_⟩) (by assumption) ?_
          rotate_left
          · intro W hW
            obtain ⟨x0, x1⟩ := hW
            go_simp
            try rfl
          simp only [List.getElem_toArray, List.getElem_cons_succ, List.getElem_cons_zero, Act.put, List.setIfInBounds_toArray, List.set_cons_zero, List.set_cons_succ]
          refine wpAnyH_take (i := 10) (v := undef) rfl (by kernel_rfl) (by kernel_rfl) (by kernel_rfl) (fun _ _ _ h => h) (Or.inr ⟨by rfl, rfl⟩) (by assumption) ?_
          simp only [List.getElem_toArray, List.getElem_cons_succ, List.getElem_cons_zero, Act.put, List.setIfInBounds_toArray, List.set_cons_zero, List.set_cons_succ]
          refine wpAnyH_take (i := 11) (v := undef) rfl (by kernel_rfl) (by kernel_rfl) (by kernel_rfl) (fun _ _ _ h => h) (Or.inr ⟨by rfl, rfl⟩) (by assumption) ?_
          simp only [List.getElem_toArray, List.getElem_cons_succ, List.getElem_cons_zero, Act.put, List.setIfInBounds_toArray, List.set_cons_zero, List.set_cons_succ]
          refine wpAnyH_take (i := 12) (v := ?_) rfl (by kernel_rfl) (by kernel_rfl) (by kernel_rfl) (fun _ _ _ h => h) (Or.inl ⟨by rfl, ?_⟩) (by assumption) ?_
          rotate_left
          · intro W hW
            obtain ⟨x0, x1⟩ := hW
            go_simp
            try rfl
          simp only [List.getElem_toArray, List.getElem_cons_succ, List.getElem_cons_zero, Act.put, List.setIfInBounds_toArray, List.set_cons_zero, List.set_cons_succ]
          refine wpAnyH_take (i := 13) (v := ?_) rfl (by kernel_rfl) (by kernel_rfl) (by kernel_rfl) (fun _ _ _ h => h) (Or.inl ⟨by rfl, ?_⟩) (by assumption) ?_
          rotate_left
          · intro W hW
            obtain ⟨x0, x1⟩ := hW
            go_simp
            try rfl
          simp only [List.getElem_toArray, List.getElem_cons_succ, List.getElem_cons_zero, Act.put, List.setIfInBounds_toArray, List.set_cons_zero, List.set_cons_succ]
          refine wpAnyH_done (by kernel_rfl) ?_ _
          have hbwx := bstep (bstep (bstep (bstep hbw (undrew hb1)) hb2) hb3) hb4
          have K5x := (((K5.under (undrew hb1)).under hb2).under hb3).under hb4
          have Krx := (((Kr.under (undrew hb1)).under hb2).under hb3).under hb4
          have n5x := (((n5.below (undrew hb1)).below hb2).below hb3).below hb4
          obtain ⟨c80, c81, f80, f81, hl8⟩ := K5x.two
          obtain ⟨c90, c91, f90, f91, hl9⟩ := Krx.two
          go_wp2
          rw [HV.out]
          exact num_done Krx n5x hbwx (by omega) rfl rfl rfl
end Go.Proofs.Ythkncbfaehgenaa
