/- Contracts of the reference's whole numbers of any size (Num): Div, Fits, Value. -/
import Derived.Test.YtpomhcclnhddmaaDoorRefE
namespace Go.Proofs.YtpomhcclnhddmaaDoor
open Go.RowKit NB

theorem ret_pair {k : IntKind} {a b : Int} {c d : Bool} (h : a = b) (h2 : c = d) : Ending.returned (.tuple #[.int k a, .bool c]) = .returned (.tuple #[.int k b, .bool d]) := by rw [h, h2]
theorem bstep {w w1 w2 : World} (h : Below w.heap.size w w1) (h2 : Below w1.heap.size w1 w2) : Below w.heap.size w w2 := below_of h h2 h.size
theorem keep2 {W w1 : World} {p1 p2 : Addr} {v1 v2 : Value} (h : W.cell? p1 = some v1 ∧ W.cell? p2 = some v2) (hb : Below W.heap.size W w1) :
    w1.cell? p1 = some v1 ∧ w1.cell? p2 = some v2 :=
  ⟨(hb.cell (cell_lt h.1)).trans h.1, (hb.cell (cell_lt h.2)).trans h.2⟩

theorem keep2n {W : World} {p1 p2 : Addr} {v1 v2 : Value} (h : W.cell? p1 = some v1 ∧ W.cell? p2 = some v2) (q : Nat) : (W.drewN q).cell? p1 = some v1 ∧ (W.drewN q).cell? p2 = some v2 := h

/-- is a number one of z bits, with a sign? -/
def fitsB (x : Int) (z : Int) : Bool := decide (-(pw (z - 1) : Int) ≤ x ∧ x < (pw (z - 1) : Int))
theorem fits_neg {x z : Int} (h : true = decide (x < 0)) : (!decide (pw (z - 1) < x.natAbs)) = fitsB x z := by
  have h1 : x < 0 := by simpa using h.symm
  unfold fitsB
  rw [← decide_not, decide_eq_decide]; omega
theorem fits_pos {x z : Int} (h : false = decide (x < 0)) : decide (x.natAbs < pw (z - 1)) = fitsB x z := by
  have h1 : ¬ x < 0 := by simpa using h.symm
  unfold fitsB
  rw [decide_eq_decide]; omega

set_option maxHeartbeats 1000000 in
theorem Fits_c {x : Int} {b : Bool} {A : Option Addr} {p c : Nat} {w : World} (z : Int) (h1 : 1 ≤ z) (h2 : z ≤ 100000) (h : NumIs w x b A p c) (hp : p ≤ 1000000) :
    Calls Tryd.prog 34 #[.agg #[.bool b, .slice A p c], .int .i64 z] w fun e w' => e = .returned (.bool (fitsB x z)) ∧ Below w.heap.size w w' := by
  have h0 := (h.dig.alloc (bNum b A p c)).drew
  have k1 : Blk (w.alloc (bNum b A p c)).drew w.heap.size 28 #[.bool b, .slice A p c] := (Blk.new w _ _)
  have S0 : (w.alloc (bNum b A p c)).drew.cell? ⟨w.heap.size, 0, none⟩ = some (.bool b) ∧ (w.alloc (bNum b A p c)).drew.cell? ⟨w.heap.size, 1, none⟩ = some (.slice A p c) := ⟨k1.two.1, k1.two.2.1⟩
  have HS := Lib.hid S0
  have hb := Lib.hid h.neg
  have hq : nb (pw (z - 1)) ≤ 100001 := nb_pw _ (by omega) (by omega)
  have HQ := Lib.hid hq
  have hwz : IntKind.i64.wrap (z - 1) = z - 1 := IntWalk.i64_in _ (by omega)
  clear h S0 k1 hq
  cases b
  · go_enter Tryd.func34, Tryd.ntmps34
    go_wp2_with fail
    go_region_held3 (fun w' => w'.cell? ⟨w.heap.size, 0, none⟩ = some (.bool false) ∧ w'.cell? ⟨w.heap.size, 1, none⟩ = some (.slice A p c))
      (first | (with_reducible exact S2.out) | (with_reducible exact S1.out) | (with_reducible exact HS.out))
      (first | (go_at_call 40; refine (po_c (z - 1) (by omega) (by omega)).mono ?_; rintro e w1 ⟨C, n, g, rfl, hd, hb1⟩; have S1 := Lib.hid (keep2 HS.out hb1)) | (go_at_call 47; refine (le_c (h0.below hb1) hd hp).mono ?_; rintro e w2 ⟨rfl, q, rfl⟩; have S2 := Lib.hid (keep2n S1.out q)))
    go_wp2
    go_ret
    exact ⟨ret_bool (fits_pos hb.out), below_drewN (below1 w _ (undrew hb1)) _⟩
  · go_enter Tryd.func34, Tryd.ntmps34
    go_wp2_with fail
    go_region_held3 (fun w' => w'.cell? ⟨w.heap.size, 0, none⟩ = some (.bool true) ∧ w'.cell? ⟨w.heap.size, 1, none⟩ = some (.slice A p c))
      (first | (with_reducible exact S2.out) | (with_reducible exact S1.out) | (with_reducible exact HS.out))
      (first | (go_at_call 40; refine (po_c (z - 1) (by omega) (by omega)).mono ?_; rintro e w1 ⟨C, n, g, rfl, hd, hb1⟩; have S1 := Lib.hid (keep2 HS.out hb1)) | (go_at_call 47; refine (le_c hd (h0.below hb1) (by rw [hd.len]; have := HQ.out; omega)).mono ?_; rintro e w2 ⟨rfl, q, rfl⟩; have S2 := Lib.hid (keep2n S1.out q)))
    go_wp2
    go_ret
    exact ⟨ret_bool (fits_neg hb.out), below_drewN (below1 w _ (undrew hb1)) _⟩

theorem pw_63 : pw (64 - 1) = 9223372036854775808 := by rfl
theorem pw_64 : pw 64 = 18446744073709551616 := by rfl
theorem fits64 {x : Int} : fitsB x 64 = true ↔ -9223372036854775808 ≤ x ∧ x ≤ 9223372036854775807 := by
  unfold fitsB
  rw [pw_63, decide_eq_true_iff]; omega
/-- the value that is told of a number -/
def valV (x : Int) : Int := if fitsB x 64 then x else 0
theorem val_pos {x : Int} (h : false = decide (x < 0)) (hf : fitsB x 64 = true) : wrap64 (wordf x.natAbs 0 : Nat) = valV x := by
  have h1 : ¬ x < 0 := by simpa using h.symm
  unfold valV
  rw [if_pos hf]
  rw [fits64] at hf
  unfold wordf
  rw [Nat.pow_zero, Nat.div_one, Nat.mod_eq_of_lt (by omega)]
  unfold wrap64
  omega
theorem val_neg {x : Int} (h : true = decide (x < 0)) (hf : fitsB x 64 = true) : wrap64 (wordf (pw 64 - x.natAbs) 0 : Nat) = valV x := by
  have h1 : x < 0 := by simpa using h.symm
  unfold valV
  rw [if_pos hf]
  rw [fits64] at hf
  unfold wordf
  rw [Nat.pow_zero, Nat.div_one, pw_64, Nat.mod_eq_of_lt (by omega)]
  unfold wrap64
  omega

set_option maxHeartbeats 1000000 in
theorem Value_c {x : Int} {b : Bool} {A : Option Addr} {p c : Nat} {w : World} (h : NumIs w x b A p c) (hp : p ≤ 1000000) :
    Calls Tryd.prog 27 #[.agg #[.bool b, .slice A p c]] w fun e w' => e = .returned (.tuple #[.int .i64 (valV x), .bool (fitsB x 64)]) ∧ Below w.heap.size w w' := by
  have h0 := (h.alloc (bNum b A p c))
  have k1 : Blk (w.alloc (bNum b A p c)) w.heap.size 28 #[.bool b, .slice A p c] := (Blk.new w _ _)
  have S0 : (w.alloc (bNum b A p c)).cell? ⟨w.heap.size, 0, none⟩ = some (.bool b) ∧ (w.alloc (bNum b A p c)).cell? ⟨w.heap.size, 1, none⟩ = some (.slice A p c) := ⟨k1.two.1, k1.two.2.1⟩
  have HS := Lib.hid S0
  have hb := Lib.hid h.neg
  clear h S0 k1
  go_enter Tryd.func27, Tryd.ntmps27
  go_wp2_with fail
  refine (Fits_c 64 (by decide) (by decide) h0 hp).mono ?_
  rintro e w1 ⟨rfl, hb1⟩
  have h1 := (h0.below hb1).dig
  obtain ⟨s0, s1⟩ := keep2 HS.out hb1
  have hbw := below1 w _ hb1
  clear h0
  by_cases hf : fitsB x 64 = true
  · have hp2 : x.natAbs ≤ pw 64 := by rw [fits64] at hf; rw [pw_64]; omega
    have HF := Lib.hid hf
    have HP := Lib.hid hp2
    rw [hf]
    clear hf hp2
    cases b
    · go_wp2_with fail
      refine (wo_c 0 (by decide) (by decide) h1 (by rw [h1.len]; exact Nat.le_trans ((nb_le_iff _ 65).2 (Nat.lt_of_le_of_lt HP.out (by rw [pw_64]; decide))) (by decide))).mono ?_
      rintro e w2 ⟨rfl, rfl⟩
      go_wp2
      go_ret2
      refine ⟨?_, hbw⟩
      rw [HF.out]
      exact ret_pair (val_pos hb.out HF.out) rfl
    · go_wp2_with fail
      refine (po_c 64 (by decide) (by decide)).mono ?_
      rintro e w2 ⟨C, n, g, rfl, hd, hb2⟩
      have hn : n ≤ 100001 := by rw [hd.len]; exact nb_pw _ (by decide) (by decide)
      go_wp2_with fail
      refine (mi_c hd (h1.below hb2) HP.out (by omega)).mono ?_
      rintro e w3 ⟨D, m, f, rfl, hd3, hb3⟩
      have hm : m ≤ 100000 := by
        rw [hd3.len]
        exact Nat.le_trans (nb_mono (Nat.sub_le _ _)) (by rw [show pw 64 = 2 ^ 64 from rfl, nb_pow]; decide)
      go_wp2_with fail
      refine (wo_c 0 (by decide) (by decide) hd3 hm).mono ?_
      rintro e w4 ⟨rfl, rfl⟩
      go_wp2
      go_ret2
      refine ⟨?_, bstep (bstep hbw hb2) hb3⟩
      rw [HF.out]
      exact ret_pair (val_neg hb.out HF.out) rfl
  · have hf2 : fitsB x 64 = false := by simpa using hf
    have HF := Lib.hid hf2
    rw [hf2]
    clear hf hf2
    go_wp2
    go_ret2
    refine ⟨?_, hbw⟩
    unfold valV
    rw [HF.out]
    rfl

/-- two Nums out of the cells of two results -/
theorem ret_num2 {fn : Func} {R : Ending → World → Prop} {a : Act} {W : World} {p q : Tmp} {g k : Nat} {x y u v : Value} (hres : fn.results = #[.cell p 28, .cell q 28]) (ht : a.tmps.getD p undef = .pointer (some ⟨g, 0, none⟩)) (hq : a.tmps.getD q undef = .pointer (some ⟨k, 0, none⟩)) (hd : a.defers = [])
    (hk : Blk W g 28 #[x, y]) (hk2 : Blk W k 28 #[u, v]) (hR : R (.returned (.tuple #[.agg #[x, y], .agg #[u, v]])) W) : bodyPost Tryd.prog fn R .ret a W := by
  refine bodyPost_ret (v := .tuple #[.agg #[x, y], .agg #[u, v]]) ?_ hd hR
  have e1 := run_loadVar_row (P := Tryd.prog) W g 28 28 _ (0, 0) _ hk Tryd.underlying28 rfl num_size
  have e2 := run_loadVar_row (P := Tryd.prog) W k 28 28 _ (0, 0) _ hk2 Tryd.underlying28 rfl num_size
  have ht' : a.tmps[p]?.getD undef = .pointer (some ⟨g, 0, none⟩) := by simpa using ht
  have hq' : a.tmps[q]?.getD undef = .pointer (some ⟨k, 0, none⟩) := by simpa using hq
  simp [results, hres, ht', hq', asAddr, e1, e2]
/-- what a function hands back that hands back two numbers -/
def RetN2 (x y : Int) (w : World) (e : Ending) (w' : World) : Prop := ∃ b A p c d B r f, e = .returned (.tuple #[.agg #[.bool b, .slice A p c], .agg #[.bool d, .slice B r f]]) ∧ NumIs w' x b A p c ∧ NumIs w' y d B r f ∧ Below w.heap.size w w'
theorem num_done2 {fn : Func} {a : Act} {w w1 : World} {p q : Tmp} {g : Nat} {u v u' v' : Value} {x y : Int} {b d : Bool} {C D : Option Addr} {n c m f : Nat} (hk : Blk w1 g 28 #[u, v]) (hk2 : Blk w1 (g + 1) 28 #[u', v'])
    (hn : NumIs w1 x b C n c) (hm : NumIs w1 y d D m f) (hb : Below w.heap.size w w1) (hg : w.heap.size ≤ g)
    (hres : fn.results = #[.cell p 28, .cell q 28]) (ht : a.tmps.getD p undef = .pointer (some ⟨g, 0, none⟩)) (hq : a.tmps.getD q undef = .pointer (some ⟨g + 1, 0, none⟩)) (hd : a.defers = []) :
    bodyPost Tryd.prog fn (RetN2 x y w) .ret a ((((w1.setCell ⟨g, 0, none⟩ (.bool b)).setCell ⟨g, 1, none⟩ (.slice C n c)).setCell ⟨g + 1, 0, none⟩ (.bool d)).setCell ⟨g + 1, 1, none⟩ (.slice D m f)) := by
  have k1 := ((hk.set2 (.bool b) (.slice C n c)).far (p := ⟨g + 1, 0, none⟩) (by simp) (.bool d)).far (p := ⟨g + 1, 1, none⟩) (by simp) (.slice D m f)
  have k2 := ((hk2.far (p := ⟨g, 0, none⟩) (by simp) (.bool b)).far (p := ⟨g, 1, none⟩) (by simp) (.slice C n c)).set2 (.bool d) (.slice D m f)
  have n1 := (((hn.setCell (q := ⟨g, 0, none⟩) hk.typed (.bool b)).setCell (q := ⟨g, 1, none⟩) (hk.typed.setCell _ _) (.slice C n c)).setCell (q := ⟨g + 1, 0, none⟩) ((hk2.typed.setCell _ _).setCell _ _) (.bool d)).setCell (q := ⟨g + 1, 1, none⟩) (((hk2.typed.setCell _ _).setCell _ _).setCell _ _) (.slice D m f)
  have n2 := (((hm.setCell (q := ⟨g, 0, none⟩) hk.typed (.bool b)).setCell (q := ⟨g, 1, none⟩) (hk.typed.setCell _ _) (.slice C n c)).setCell (q := ⟨g + 1, 0, none⟩) ((hk2.typed.setCell _ _).setCell _ _) (.bool d)).setCell (q := ⟨g + 1, 1, none⟩) (((hk2.typed.setCell _ _).setCell _ _).setCell _ _) (.slice D m f)
  have hb' := (((hb.setCell (p := ⟨g, 0, none⟩) hg (.bool b)).setCell (p := ⟨g, 1, none⟩) hg (.slice C n c)).setCell (p := ⟨g + 1, 0, none⟩) (Nat.le_succ_of_le hg) (.bool d)).setCell (p := ⟨g + 1, 1, none⟩) (Nat.le_succ_of_le hg) (.slice D m f)
  exact ret_num2 hres ht hq hd k1 k2 ⟨_, C, _, _, _, D, _, _, rfl, n1, n2, hb'⟩

theorem div_neg' {x : Int} {m : Nat} (h : true = decide (x < 0)) (hm : 0 < m) (hr : 0 < x.natAbs % m) : x / (m : Int) = -((x.natAbs / m + 1 : Nat) : Int) ∧ x % (m : Int) = ((m - x.natAbs % m : Nat) : Int) := by
  have h1 : x < 0 := by simpa using h.symm
  have e := Nat.div_add_mod x.natAbs m
  have hlt := Nat.mod_lt x.natAbs hm
  refine (Int.ediv_emod_unique (by omega)).2 ⟨?_, by omega, by omega⟩
  have e2 : ((m * (x.natAbs / m) : Nat) : Int) + (x.natAbs % m : Nat) = -x := by omega
  rw [Int.natCast_mul] at e2
  rw [Int.mul_neg, Int.natCast_add, Int.mul_add]
  generalize (m : Int) * ((x.natAbs / m : Nat) : Int) = z at *
  omega
theorem div_even {x : Int} {m : Nat} {b : Bool} (h : b = decide (x < 0)) (hm : 0 < m) (hr : x.natAbs % m = 0 ∨ b = false) :
    (x / (m : Int) = if b = true then -((x.natAbs / m : Nat) : Int) else ((x.natAbs / m : Nat) : Int)) ∧ x % (m : Int) = ((x.natAbs % m : Nat) : Int) := by
  have e := Nat.div_add_mod x.natAbs m
  have hlt := Nat.mod_lt x.natAbs hm
  have e2 : ((m * (x.natAbs / m) : Nat) : Int) + (x.natAbs % m : Nat) = x.natAbs := by omega
  rw [Int.natCast_mul] at e2
  refine (Int.ediv_emod_unique (by omega)).2 ⟨?_, by omega, by omega⟩
  cases b
  · have h1 : ¬ x < 0 := by simpa using h.symm
    rw [if_neg (by decide)]
    generalize (m : Int) * ((x.natAbs / m : Nat) : Int) = z at *
    omega
  · have h1 : x < 0 := by simpa using h.symm
    have hr' : x.natAbs % m = 0 := hr.resolve_right (by decide)
    rw [if_pos rfl, Int.mul_neg]
    generalize (m : Int) * ((x.natAbs / m : Nat) : Int) = z at *
    omega
theorem made_t {A : Option Addr} {m p c : Nat} {w : World} {x : Int} (h : DigIs w m A p c) (hx : x = -(m : Int)) :
    Calls Tryd.prog 41 #[.bool true, .slice A p c] w (RetN x w) := made_c h (by rw [if_pos rfl]; exact hx)
theorem made_f {A : Option Addr} {m p c : Nat} {w : World} {x : Int} (h : DigIs w m A p c) (hx : x = (m : Int)) :
    Calls Tryd.prog 41 #[.bool false, .slice A p c] w (RetN x w) := made_c h (by rw [if_neg (by decide)]; exact hx)
theorem keep1 {W w1 : World} {p1 : Addr} {v1 : Value} (h : W.cell? p1 = some v1) (hb : Below W.heap.size W w1) : w1.cell? p1 = some v1 := (hb.cell (cell_lt h)).trans h

set_option maxHeartbeats 2000000 in
theorem Div_c {x : Int} {m : Nat} {b d : Bool} {A B : Option Addr} {p r c f : Nat} {w : World} (h : NumIs w x b A p c) (k : NumIs w m d B r f) (hm : 0 < m) (hp : p ≤ 100000) (hr : r ≤ 100000) :
    Calls Tryd.prog 31 #[.agg #[.bool b, .slice A p c], .agg #[.bool d, .slice B r f]] w (RetN2 (x / (m : Int)) (x % (m : Int)) w) := by
  have h1 := (((h.alloc (bNum b A p c)).alloc (bNum d B r f)).alloc zNum).alloc zNum
  have k1 := (((k.alloc (bNum b A p c)).alloc (bNum d B r f)).alloc zNum).alloc zNum
  have K0 : Blk ((((w.alloc (bNum b A p c)).alloc (bNum d B r f)).alloc zNum).alloc zNum) (w.heap.size + 2) 28 #[.bool false, .slice none 0 0] := (Blk.new_at ((w.alloc (bNum b A p c)).alloc (bNum d B r f)) _ _ (by simp)).alloc _
  have K1 : Blk ((((w.alloc (bNum b A p c)).alloc (bNum d B r f)).alloc zNum).alloc zNum) (w.heap.size + 2 + 1) 28 #[.bool false, .slice none 0 0] := Blk.new_at (((w.alloc (bNum b A p c)).alloc (bNum d B r f)).alloc zNum) _ _ (by simp)
  have S0 := boxes3 w (.bool b) (.slice A p c) (.bool d) (.slice B r f) 28 28 zNum
  have S1 := keep4 S0 (W := (((w.alloc (bNum b A p c)).alloc (bNum d B r f)).alloc zNum).drew) (w1 := (((w.alloc (bNum b A p c)).alloc (bNum d B r f)).alloc zNum).drew.alloc zNum) ((Below.refl _ _).alloc (Nat.le_refl _) _)
  have HS : Hid (((((w.alloc (bNum b A p c)).alloc (bNum d B r f)).alloc zNum).alloc zNum).cell? ⟨w.heap.size, 0, none⟩ = some (.bool b) ∧ ((((w.alloc (bNum b A p c)).alloc (bNum d B r f)).alloc zNum).alloc zNum).cell? ⟨w.heap.size, 1, none⟩ = some (.slice A p c) ∧
    ((((w.alloc (bNum b A p c)).alloc (bNum d B r f)).alloc zNum).alloc zNum).cell? ⟨w.heap.size + 1, 0, none⟩ = some (.bool d) ∧ ((((w.alloc (bNum b A p c)).alloc (bNum d B r f)).alloc zNum).alloc zNum).cell? ⟨w.heap.size + 1, 1, none⟩ = some (.slice B r f)) := Lib.hid S1
  have hb := Lib.hid h.neg
  have e0 : (m : Int).natAbs = m := by simp
  have kd := k1.dig
  rw [e0] at kd
  clear h k S0 S1 e0
  go_enter Tryd.func31, Tryd.ntmps31
  go_wp2_with fail
  refine (pa_c h1.dig kd hm hp hr).mono ?_
  rintro e w1 ⟨C, n, f1, D, y, g, rfl, hq, hz, hb1⟩
  obtain ⟨s0, s1, s2, s3⟩ := keep4 HS.out hb1
  have hk1 := K0.under hb1
  have hk2 := K1.under hb1
  have hbw : Below w.heap.size w w1 := below_of (below3 w _ _ _ ((Below.refl _ _))) (below1 _ _ hb1) (by simp; omega)
  have bn : n ≤ p := by rw [hq.len, h1.dig.len]; exact nb_mono (Nat.div_le_self _ _)
  have by0 : y ≤ r := by rw [hz.len, kd.len]; exact nb_mono (Nat.le_of_lt (Nat.mod_lt _ hm))
  have kd1 := kd.below hb1
  have hy : 0 < y ↔ x.natAbs % m ≠ 0 := by
    rw [hz.len]
    have := @nb_eq_zero (x.natAbs % m)
    omega
  by_cases hcase : b = true ∧ 0 < y
  · obtain ⟨rfl, hy0⟩ := hcase
    obtain ⟨D1, D2⟩ := div_neg' hb.out hm (Nat.pos_of_ne_zero (hy.1 hy0))
    have HD1 := Lib.hid D1
    have HD2 := Lib.hid D2
    have hle : x.natAbs % m ≤ m := Nat.le_of_lt (Nat.mod_lt _ hm)
    have T0 : Hid (w1.drew.cell? ⟨w.heap.size + 1, 1, none⟩ = some (.slice B r f)) := Lib.hid s3
    have hq0 := hq.drew
    have hz0 := hz.drew
    have kd0 := kd1.drew
    have n1 : nb 1 = 1 := nb_one
    have N1 := Lib.hid n1
    clear D1 D2 n1 hy
    go_wp2_with fail
    go_region_held3 (fun w' => w'.cell? ⟨w.heap.size + 1, 1, none⟩ = some (.slice B r f))
      (first | (with_reducible exact T6.out) | (with_reducible exact T5.out) | (with_reducible exact T4.out) | (with_reducible exact T3.out) | (with_reducible exact T2.out) | (with_reducible exact T0.out) | ((with_reducible refine cell_far (cell_far T6.out ?_ _) ?_ _) <;> (simp <;> omega)) | ((with_reducible refine cell_far (cell_far (cell_far (cell_far T6.out ?_ _) ?_ _) ?_ _) ?_ _) <;> (simp <;> omega)))
      (first | (go_at_call 39; refine (sz_c 1 (by decide) (by decide)).mono ?_; rintro e w2 ⟨C2, n2, c2, rfl, hd2, hb2⟩; have T2 := Lib.hid (keep1 T0.out hb2)) | (go_at_call 37; refine (pl_c (hq0.below hb2) hd2 (by omega) (by rw [hd2.len]; exact Nat.le_trans (Nat.le_of_eq N1.out) (by decide))).mono ?_; rintro e w3 ⟨C3, n3, c3, rfl, hd3, hb3⟩; have T3 := Lib.hid (keep1 T2.out hb3)) | (go_at_call_of 41 (Value.bool true); refine (made_t hd3 HD1.out).mono ?_; rintro e w4 ⟨b4, C4, n4, c4, rfl, hn4, hb4⟩; have T4 := Lib.hid (keep1 T3.out hb4); have hb24 := bstep (bstep hb2 hb3) hb4) | (go_at_call 42; refine (mi_c (kd0.below hb24) (hz0.below hb24) hle (by omega)).mono ?_; rintro e w5 ⟨C5, n5, c5, rfl, hd5, hb5⟩; have T5 := Lib.hid (keep1 T4.out hb5)) | (go_at_call_of 41 (Value.bool false); refine (made_f hd5 HD2.out).mono ?_; rintro e w6 ⟨b6, C6, n6, c6, rfl, hn6, hb6⟩; have T6 := Lib.hid (keep1 T5.out hb6); have hb26 := bstep (bstep hb24 hb5) hb6; have hn46 := (hn4.below hb5).below hb6; have hkk1 := hk1.under (undrew hb26); have hkk2 := hk2.under (undrew hb26); obtain ⟨c60, c61, f60, f61, hl6⟩ := hkk1.two; obtain ⟨c70, c71, f70, f71, hl7⟩ := hkk2.two))
    go_wp2
    exact num_done2 hkk1 hkk2 hn46 hn6 (bstep hbw (undrew hb26)) (by omega) rfl rfl rfl rfl
  · have hr0 : x.natAbs % m = 0 ∨ b = false := by
      by_cases hb' : b = true
      · exact .inl (Classical.byContradiction fun h => hcase ⟨hb', hy.2 h⟩)
      · exact .inr (by simpa using hb')
    obtain ⟨D1, D2⟩ := div_even hb.out hm hr0
    have HD1 := Lib.hid D1
    have HD2 := Lib.hid D2
    have hc2 : b = false ∨ (b = true ∧ y = 0) := by
      by_cases hb' : b = true
      · exact .inr ⟨hb', Nat.eq_zero_of_not_pos fun h => hcase ⟨hb', h⟩⟩
      · exact .inl (by simpa using hb')
    clear D1 D2 hy hcase hr0
    rcases hc2 with rfl | ⟨rfl, rfl⟩
    all_goals
      go_wp2_with fail
      refine (made_c hq HD1.out).mono ?_
      rintro e w4 ⟨b4, C4, n4, c4, rfl, hn4, hb4⟩
      go_wp2_with fail
      refine (made_f (hz.below hb4) HD2.out).mono ?_
      rintro e w6 ⟨b6, C6, n6, c6, rfl, hn6, hb6⟩
      have hb26 := bstep hb4 hb6
      have hn46 := hn4.below hb6
      have hkk1 := hk1.under hb26
      have hkk2 := hk2.under hb26
      obtain ⟨c60, c61, f60, f61, hl6⟩ := hkk1.two
      obtain ⟨c70, c71, f70, f71, hl7⟩ := hkk2.two
      go_wp2
      exact num_done2 hkk1 hkk2 hn46 hn6 (bstep hbw hb26) (by omega) rfl rfl rfl rfl
end Go.Proofs.YtpomhcclnhddmaaDoor
