/- Contracts of the reference's whole numbers of any size (Num): made, Pow, Int, Neg, Add, Mul, Less, Same, Div, Fits, Value. -/
import Derived.Test.YtpomhcclnhddmaaDoorRefC
import Derived.Laws.ResultCell
import Derived.Deep.RegionHeld3
namespace Go.Proofs.YtpomhcclnhddmaaDoor
open Go.RowKit NB

/-- the slice is just the digits of v -/
structure DigIs (w : World) (v : Nat) (A : Option Addr) (n c : Nat) : Prop where
  len : n = nb v
  cap : n ≤ c
  dig : Dig w A v n
section
variable {w w' : World} {v : Nat} {A : Option Addr} {n c : Nat}
theorem DigIs.below (h : DigIs w v A n c) (hb : Below w.heap.size w w') : DigIs w' v A n c := ⟨h.len, h.cap, h.dig.below hb⟩
theorem DigIs.drewN (h : DigIs w v A n c) (k : Nat) : DigIs (w.drewN k) v A n c := ⟨h.len, h.cap, h.dig.drewN k⟩
theorem DigIs.drew (h : DigIs w v A n c) : DigIs w.drew v A n c := ⟨h.len, h.cap, h.dig.drew⟩
theorem DigIs.alloc (h : DigIs w v A n c) (o : Obj) : DigIs (w.alloc o) v A n c := ⟨h.len, h.cap, h.dig.alloc o⟩
theorem DigIs.setCell (h : DigIs w v A n c) {q : Addr} (hq : Typed w q.block 28) (u : Value) : DigIs (w.setCell q u) v A n c := ⟨h.len, h.cap, h.dig.setCell hq (by decide) u⟩
end
def RetG (v : Nat) (w : World) (e : Ending) (w' : World) : Prop := ∃ A n c, e = .returned (.slice A n c) ∧ DigIs w' v A n c ∧ Below w.heap.size w w'
theorem RetD.g {v : Nat} {w : World} {e : Ending} {w' : World} (h : RetD v w e w') : RetG v w e w' := by
  obtain ⟨C, f, h1, h2, h3, h4⟩ := h
  exact ⟨C, _, f, h1, ⟨rfl, h2, h3⟩, h4⟩

section
variable {A B : Option Addr} {m n p r c d : Nat} {w : World}
theorem le_c (ha : DigIs w m A p c) (hb : DigIs w n B r d) (hp : p ≤ 1000000) : Calls Tryd.prog 47 #[.slice A p c, .slice B r d] w fun e w' => e = .returned (.bool (decide (m < n))) ∧ ∃ q, w' = w.drewN q :=
  less_any A B m n p r c d w ha.len hb.len hp ha.dig hb.dig
theorem pl_c (ha : DigIs w m A p c) (hb : DigIs w n B r d) (hp : p ≤ 1000000) (hr : r ≤ 1000000) : Calls Tryd.prog 37 #[.slice A p c, .slice B r d] w (RetG (m + n) w) :=
  (plus_any A B m n p r c d w ha.len hb.len hp hr ha.dig hb.dig).mono fun _ _ h => h.g
theorem mi_c (ha : DigIs w m A p c) (hb : DigIs w n B r d) (hle : n ≤ m) (hp : p ≤ 1000000) : Calls Tryd.prog 42 #[.slice A p c, .slice B r d] w (RetG (m - n) w) :=
  (minus_any A B m n p r c d w ha.len hb.len hle hp ha.dig hb.dig).mono fun _ _ h => h.g
theorem ti_c (ha : DigIs w m A p c) (hb : DigIs w n B r d) (hp : p ≤ 100000) (hr : r ≤ 100000) : Calls Tryd.prog 38 #[.slice A p c, .slice B r d] w (RetG (m * n) w) :=
  (times_any A B m n p r c d w ha.len hb.len hp hr ha.dig hb.dig).mono fun _ _ h => h.g
theorem pa_c (ha : DigIs w m A p c) (hb : DigIs w n B r d) (hn : 0 < n) (hp : p ≤ 100000) (hr : r ≤ 100000) : Calls Tryd.prog 55 #[.slice A p c, .slice B r d] w fun e w' => ∃ C x f D y g, e = .returned (.tuple #[.slice C x f, .slice D y g]) ∧
    DigIs w' (m / n) C x f ∧ DigIs w' (m % n) D y g ∧ Below w.heap.size w w' := by
  refine (parts_any A B m n p r c d w ha.len hb.len hn hp hr ha.dig hb.dig).mono ?_
  rintro e w' ⟨C, f, D, g, h1, h2, h3, h4, h5, h6⟩
  exact ⟨C, _, f, D, _, g, h1, ⟨rfl, h2, h3⟩, ⟨rfl, h4, h5⟩, h6⟩
/-- 2 to the power of z -/
def pw (z : Int) : Nat := 2 ^ z.toNat
theorem po_c (z : Int) (h0 : 0 ≤ z) (h1 : z ≤ 100000) : Calls Tryd.prog 40 #[.int .i64 z] w (RetG (pw z) w) :=
  (power_any z w h0 h1).mono fun _ _ h => h.g
theorem sz_c (z : Int) (h0 : 0 ≤ z) (h1 : z < 18446744073709551616) : Calls Tryd.prog 39 #[.int .u64 z] w (RetG z.toNat w) := by
  obtain ⟨k, rfl⟩ := Int.eq_ofNat_of_zero_le h0
  rw [Int.toNat_natCast]
  exact (size_core k w (by omega)).mono fun _ _ h => h.g
theorem wo_c (z : Int) (h0 : 0 ≤ z) (h1 : z ≤ 100000) (ha : DigIs w m A p c) (hp : p ≤ 100000) : Calls Tryd.prog 52 #[.slice A p c, .int .i64 z] w fun e w' => e = .returned (.int .u64 (wordf m z.toNat : Nat)) ∧ w = w' := by
  obtain ⟨k, rfl⟩ := Int.eq_ofNat_of_zero_le h0
  rw [Int.toNat_natCast]
  exact word_core A m p c k w (by omega) hp ha.len ha.dig
end
theorem nb_pw (z : Int) (h : 0 ≤ z) (h1 : z ≤ 100000) : nb (pw z) ≤ 100001 := by
  unfold pw
  rw [nb_pow]; omega

/-- the fields of a Num hold the number x -/
structure NumIs (w : World) (x : Int) (b : Bool) (A : Option Addr) (p c : Nat) : Prop where
  neg : b = decide (x < 0)
  dig : DigIs w x.natAbs A p c
section
variable {w w' : World} {x : Int} {b : Bool} {A : Option Addr} {n c : Nat}
theorem NumIs.below (h : NumIs w x b A n c) (hb : Below w.heap.size w w') : NumIs w' x b A n c := ⟨h.neg, h.dig.below hb⟩
theorem NumIs.drewN (h : NumIs w x b A n c) (k : Nat) : NumIs (w.drewN k) x b A n c := ⟨h.neg, h.dig.drewN k⟩
theorem NumIs.drew (h : NumIs w x b A n c) : NumIs w.drew x b A n c := ⟨h.neg, h.dig.drew⟩
theorem NumIs.alloc (h : NumIs w x b A n c) (o : Obj) : NumIs (w.alloc o) x b A n c := ⟨h.neg, h.dig.alloc o⟩
theorem NumIs.setCell (h : NumIs w x b A n c) {q : Addr} (hq : Typed w q.block 28) (u : Value) : NumIs (w.setCell q u) x b A n c := ⟨h.neg, h.dig.setCell hq u⟩
theorem NumIs.bd {k : Nat} (h : NumIs w x b A n c) (hk : nb x.natAbs ≤ k) : n ≤ k := by rw [h.dig.len]; exact hk
end
/-- what a function hands back that hands back the number x -/
def RetN (x : Int) (w : World) (e : Ending) (w' : World) : Prop := ∃ b A p c, e = .returned (.agg #[.bool b, .slice A p c]) ∧ NumIs w' x b A p c ∧ Below w.heap.size w w'

theorem num_size : (Tryd.prog.info? 28).map (·.size) = some 2 := by kernel_rfl
/-- a Num out of the cell of a result -/
theorem ret_num {fn : Func} {R : Ending → World → Prop} {a : Act} {W : World} {p : Tmp} {g : Nat} {x y : Value} (hres : fn.results = #[.cell p 28]) (ht : a.tmps.getD p undef = .pointer (some ⟨g, 0, none⟩)) (hd : a.defers = [])
    (hk : Blk W g 28 #[x, y]) (hR : R (.returned (.agg #[x, y])) W) : bodyPost Tryd.prog fn R .ret a W :=
  bodyPost_ret (results_cell_row hres _ _ g 28 _ (0, 0) _ ht hk Tryd.underlying28 rfl num_size) hd hR
theorem below1 (w : World) (o1 : Obj) {w1 : World} (hb : Below (w.alloc o1).heap.size (w.alloc o1) w1) : Below w.heap.size w w1 :=
  ((Below.refl _ _).alloc (Nat.le_refl _) o1).trans (hb.mono (by simp))
theorem below2 (w : World) (o1 o2 : Obj) {w1 : World} (hb : Below ((w.alloc o1).alloc o2).heap.size ((w.alloc o1).alloc o2) w1) : Below w.heap.size w w1 :=
  below1 w o1 (below1 _ o2 hb)
theorem below3 (w : World) (o1 o2 o3 : Obj) {w1 : World} (hb : Below (((w.alloc o1).alloc o2).alloc o3).heap.size (((w.alloc o1).alloc o2).alloc o3) w1) : Below w.heap.size w w1 :=
  below2 w o1 o2 (below1 _ o3 hb)
theorem num_done {fn : Func} {a : Act} {w w1 : World} {p : Tmp} {g : Nat} {u v : Value} {x : Int} {b : Bool} {C : Option Addr} {n c : Nat} (hk : Blk w1 g 28 #[u, v]) (hn : NumIs w1 x b C n c) (hb : Below w.heap.size w w1) (hg : w.heap.size ≤ g)
    (hres : fn.results = #[.cell p 28]) (ht : a.tmps.getD p undef = .pointer (some ⟨g, 0, none⟩)) (hd : a.defers = []) :
    bodyPost Tryd.prog fn (RetN x w) .ret a ((w1.setCell ⟨g, 0, none⟩ (.bool b)).setCell ⟨g, 1, none⟩ (.slice C n c)) :=
  ret_num hres ht hd (hk.set2 _ _) ⟨_, C, _, _, rfl, (hn.setCell (q := ⟨_, 0, none⟩) hk.typed _).setCell (q := ⟨_, 1, none⟩) (hk.typed.setCell _ _) _, (hb.setCell (p := ⟨_, 0, none⟩) hg _).setCell (p := ⟨_, 1, none⟩) hg _⟩
abbrev zNum : Obj := .cells #[.bool false, .slice none 0 0] 28
abbrev bNum (b : Bool) (A : Option Addr) (p c : Nat) : Obj := .cells #[.bool b, .slice A p c] 28

set_option maxHeartbeats 400000 in
theorem made_core (b : Bool) (A : Option Addr) (p c : Nat) (w : World) :
    Calls Tryd.prog 41 #[.bool b, .slice A p c] w fun e w' => e = .returned (.agg #[.bool (b && decide (0 < p)), .slice A p c]) ∧ Below w.heap.size w w' := by
  cases b
  · go_enter Tryd.func41, Tryd.ntmps41
    go_wp2
    exact bodyPost_ret (v := .agg #[.bool false, .slice A p c]) (by simp [results, Tryd.results41, go_sem]) rfl ⟨rfl, (Below.refl _ _).alloc (Nat.le_refl _) _⟩
  · go_enter Tryd.func41, Tryd.ntmps41
    go_wp2
    exact bodyPost_ret (v := .agg #[.bool (decide (0 < p)), .slice A p c]) (by simp [results, Tryd.results41, go_sem]) rfl ⟨by simp, (Below.refl _ _).alloc (Nat.le_refl _) _⟩
theorem made_c {b : Bool} {A : Option Addr} {m p c : Nat} {w : World} {x : Int} (h : DigIs w m A p c) (hx : x = if b then -(m : Int) else m) :
    Calls Tryd.prog 41 #[.bool b, .slice A p c] w (RetN x w) := by
  refine (made_core b A p c w).mono ?_
  rintro e w' ⟨rfl, hb⟩
  have hp : decide (0 < p) = decide (m ≠ 0) := by
    rw [decide_eq_decide, h.len]
    have := @nb_eq_zero m
    omega
  have hm : x.natAbs = m := by rw [hx]; cases b <;> simp
  refine ⟨_, A, p, c, rfl, ⟨?_, by rw [hm]; exact h.below hb⟩, hb⟩
  rw [hp, hx]
  cases b
  · simp
  · by_cases h0 : m = 0
    · subst h0; rfl
    · have h1 : decide (m ≠ 0) = true := by simpa using h0
      rw [h1]
      simp
      omega


set_option maxHeartbeats 400000 in
theorem neg_c {x : Int} {b : Bool} {A : Option Addr} {p c : Nat} {w : World} (h : NumIs w x b A p c) :
    Calls Tryd.prog 20 #[.agg #[.bool b, .slice A p c]] w (RetN (-x) w) := by
  have hx : -x = if !b then -(x.natAbs : Int) else x.natAbs := by
    have := h.neg
    by_cases h0 : x < 0
    · rw [this, decide_eq_true h0]; simp; omega
    · rw [this, decide_eq_false h0]; simp; omega
  have HX := Lib.hid hx
  clear hx
  go_enter Tryd.func20, Tryd.ntmps20
  go_wp2_with fail
  refine (made_c ((h.dig.alloc _).alloc _) HX.out).mono ?_
  rintro e w1 ⟨b1, A1, p1, c1, rfl, hn, hb⟩
  have hk : Blk w1 (w.heap.size + 1) 28 #[.bool false, .slice none 0 0] := (Blk.new_at _ _ _ (by simp)).under hb
  obtain ⟨c0, c1', f0, f1, hl⟩ := hk.two
  go_wp2
  exact num_done hk hn (below2 w _ _ hb) (by omega) rfl rfl rfl

theorem wrap_u64_neg {n : Int} (h0 : n < 0) (h1 : -9223372036854775808 ≤ n) : IntKind.u64.wrap n = n + 18446744073709551616 := by
  rw [IntKind.wrap_u64]; omega

set_option maxHeartbeats 400000 in
theorem int_neg (n : Int) (w : World) (h0 : n < 0) (h1 : -9223372036854775808 ≤ n) :
    Calls Tryd.prog 21 #[.int .i64 n] w (RetN n w) := by
  have hw := wrap_u64_neg h0 h1
  have hp : pw 64 = 18446744073709551616 := by rfl
  generalize hz : IntKind.u64.wrap n = z at *
  have HZ := Lib.hid hz
  have HW := Lib.hid hw
  have HP := Lib.hid hp
  clear hz hw hp
  go_enter Tryd.func21, Tryd.ntmps21
  go_wp2_with fail
  rw [HZ.out]
  refine (sz_c z (by have := HW.out; omega) (by have := HW.out; omega)).mono ?_
  rintro e w1 ⟨C, p, f, rfl, hd, hb⟩
  have bp : p ≤ 64 := by rw [hd.len]; exact (nb_le_iff _ _).2 (by have := HW.out; omega)
  go_wp2_with fail
  refine (po_c 64 (by decide) (by decide)).mono ?_
  rintro e w2 ⟨C2, r, f2, rfl, hd2, hb2⟩
  have br : r ≤ 65 := by rw [hd2.len]; exact (nb_le_iff _ _).2 (by rw [HP.out]; decide)
  go_wp2_with fail
  refine (mi_c hd2 (hd.below hb2) (by rw [HP.out]; have := HW.out; omega) (by omega)).mono ?_
  rintro e w3 ⟨C3, n3, f3, rfl, hd3, hb3⟩
  go_wp2_with fail
  refine (made_c (x := n) hd3 (by rw [HP.out]; have := HW.out; simp; omega)).mono ?_
  rintro e w4 ⟨b4, A4, p4, c4, rfl, hn, hb4⟩
  have hb23 := below_of (below_of (below_of hb hb2 hb.size) hb3 (below_of hb hb2 hb.size).size) hb4 (below_of (below_of hb hb2 hb.size) hb3 (below_of hb hb2 hb.size).size).size
  have hk : Blk w4 w.heap.size 28 #[.bool false, .slice none 0 0] := (Blk.new w _ _).under hb23
  obtain ⟨c0, c1', f0, f1, hl⟩ := hk.two
  go_wp2
  exact num_done hk hn (below1 w _ hb23) (Nat.le_refl _) rfl rfl rfl

set_option maxHeartbeats 400000 in
theorem int_pos (n : Int) (w : World) (h0 : 0 ≤ n) (h1 : n ≤ 9223372036854775807) :
    Calls Tryd.prog 21 #[.int .i64 n] w (RetN n w) := by
  go_enter Tryd.func21, Tryd.ntmps21
  go_wp2_with fail
  refine (sz_c n h0 (by omega)).mono ?_
  rintro e w1 ⟨C, p, f, rfl, hd, hb⟩
  go_wp2_with fail
  refine (made_c (x := n) hd (by simp; omega)).mono ?_
  rintro e w4 ⟨b4, A4, p4, c4, rfl, hn, hb4⟩
  have hb23 := below_of hb hb4 hb.size
  have hk : Blk w4 w.heap.size 28 #[.bool false, .slice none 0 0] := (Blk.new w _ _).under hb23
  obtain ⟨c0, c1', f0, f1, hl⟩ := hk.two
  go_wp2
  exact num_done hk hn (below1 w _ hb23) (Nat.le_refl _) rfl rfl rfl
theorem int_c (n : Int) (w : World) (h0 : -9223372036854775808 ≤ n) (h1 : n ≤ 9223372036854775807) :
    Calls Tryd.prog 21 #[.int .i64 n] w (RetN n w) := by
  by_cases h : n < 0
  · exact int_neg n w h h0
  · exact int_pos n w (by omega) h1

theorem mul_sign {x y : Int} {b d : Bool} (hb : b = decide (x < 0)) (hd : d = decide (y < 0)) : x * y = if (!(b == d)) then -((x.natAbs * y.natAbs : Nat) : Int) else ((x.natAbs * y.natAbs : Nat) : Int) := by
  rw [Int.natCast_mul]
  rcases Int.natAbs_eq x with h1 | h1 <;> rcases Int.natAbs_eq y with h2 | h2 <;> by_cases h3 : x < 0 <;> by_cases h4 : y < 0 <;> simp only [hb, hd, h3, h4, decide_true, decide_false] <;> first
    | (exfalso; omega)
    | (simp; done)
    | (have e1 : x.natAbs = 0 := by omega
       simp at e1
       subst e1
       simp)
    | (have e1 : y.natAbs = 0 := by omega
       simp at e1
       subst e1
       simp)
    | (conv => lhs; rw [h1, h2]
       simp [Int.neg_mul, Int.mul_neg])
theorem keep4 {W w1 : World} {p1 p2 p3 p4 : Addr} {v1 v2 v3 v4 : Value} (h : W.cell? p1 = some v1 ∧ W.cell? p2 = some v2 ∧ W.cell? p3 = some v3 ∧ W.cell? p4 = some v4) (hb : Below W.heap.size W w1) :
    w1.cell? p1 = some v1 ∧ w1.cell? p2 = some v2 ∧ w1.cell? p3 = some v3 ∧ w1.cell? p4 = some v4 :=
  ⟨(hb.cell (cell_lt h.1)).trans h.1, (hb.cell (cell_lt h.2.1)).trans h.2.1, (hb.cell (cell_lt h.2.2.1)).trans h.2.2.1, (hb.cell (cell_lt h.2.2.2)).trans h.2.2.2⟩

theorem cell_far {W : World} {p q : Addr} {v : Value} (h : W.cell? p = some v) (hne : p.block < q.block) (u : Value) : (W.setCell q u).cell? p = some v :=
  (World.cell?_setCell_other W q p u (fun e => by subst e; omega)).trans h
theorem keep4_set {W : World} {p1 p2 p3 p4 : Addr} {v1 v2 v3 v4 : Value} {g : Nat} {i j : Nat} {u u' : Value} (h : W.cell? p1 = some v1 ∧ W.cell? p2 = some v2 ∧ W.cell? p3 = some v3 ∧ W.cell? p4 = some v4)
    (h1 : p1.block < g) (h2 : p2.block < g) (h3 : p3.block < g) (h4 : p4.block < g) :
    ((W.setCell ⟨g, i, none⟩ u).setCell ⟨g, j, none⟩ u').cell? p1 = some v1 ∧ ((W.setCell ⟨g, i, none⟩ u).setCell ⟨g, j, none⟩ u').cell? p2 = some v2 ∧ ((W.setCell ⟨g, i, none⟩ u).setCell ⟨g, j, none⟩ u').cell? p3 = some v3 ∧ ((W.setCell ⟨g, i, none⟩ u).setCell ⟨g, j, none⟩ u').cell? p4 = some v4 :=
  ⟨cell_far (cell_far h.1 h1 _) h1 _, cell_far (cell_far h.2.1 h2 _) h2 _, cell_far (cell_far h.2.2.1 h3 _) h3 _, cell_far (cell_far h.2.2.2 h4 _) h4 _⟩
theorem undrew {B : Nat} {W w1 : World} (h : Below B W.drew w1) : Below B W w1 := ⟨h.os, h.tape, h.output, h.size, h.block⟩
theorem undrewN {B q : Nat} {W w1 : World} (h : Below B (W.drewN q) w1) : Below B W w1 := ⟨h.os, h.tape, h.output, h.size, h.block⟩
theorem sdrew {W : World} {p1 p2 p3 p4 : Addr} {v1 v2 v3 v4 : Value} (h : W.drew.cell? p1 = some v1 ∧ W.drew.cell? p2 = some v2 ∧ W.drew.cell? p3 = some v3 ∧ W.drew.cell? p4 = some v4) (q : Nat) :
    (W.drewN q).drew.cell? p1 = some v1 ∧ (W.drewN q).drew.cell? p2 = some v2 ∧ (W.drewN q).drew.cell? p3 = some v3 ∧ (W.drewN q).drew.cell? p4 = some v4 := h
/-- two pairs in boxes, and one block more -/
theorem boxes3 (w : World) (a0 a1 b0 b1 : Value) (s t : TypeId) (o : Obj) : (((w.alloc (.cells #[a0, a1] s)).alloc (.cells #[b0, b1] t)).alloc o).drew.cell? ⟨w.heap.size, 0, none⟩ = some a0 ∧ (((w.alloc (.cells #[a0, a1] s)).alloc (.cells #[b0, b1] t)).alloc o).drew.cell? ⟨w.heap.size, 1, none⟩ = some a1 ∧
    (((w.alloc (.cells #[a0, a1] s)).alloc (.cells #[b0, b1] t)).alloc o).drew.cell? ⟨w.heap.size + 1, 0, none⟩ = some b0 ∧ (((w.alloc (.cells #[a0, a1] s)).alloc (.cells #[b0, b1] t)).alloc o).drew.cell? ⟨w.heap.size + 1, 1, none⟩ = some b1 := by
  have k1 : Blk (((w.alloc (.cells #[a0, a1] s)).alloc (.cells #[b0, b1] t)).alloc o).drew w.heap.size s #[a0, a1] := ((Blk.new w s _).alloc _).alloc _
  have k2 : Blk (((w.alloc (.cells #[a0, a1] s)).alloc (.cells #[b0, b1] t)).alloc o).drew (w.heap.size + 1) t #[b0, b1] := (Blk.new_at (w.alloc (.cells #[a0, a1] s)) t _ (by simp)).alloc _
  exact ⟨k1.two.1, k1.two.2.1, k2.two.1, k2.two.2.1⟩

set_option maxHeartbeats 1000000 in
theorem mul_c {x y : Int} {b d : Bool} {A B : Option Addr} {p r c f : Nat} {w : World} (h : NumIs w x b A p c) (k : NumIs w y d B r f) (hp : p ≤ 100000) (hr : r ≤ 100000) :
    Calls Tryd.prog 25 #[.agg #[.bool b, .slice A p c], .agg #[.bool d, .slice B r f]] w (RetN (x * y) w) := by
  go_enter Tryd.func25, Tryd.ntmps25
  go_wp2_with fail
  have S0 := boxes3 w (.bool b) (.slice A p c) (.bool d) (.slice B r f) 28 28 zNum
  have h1 := (((h.dig.alloc (bNum b A p c)).alloc (bNum d B r f)).alloc zNum).drew
  have k1 := (((k.dig.alloc (bNum b A p c)).alloc (bNum d B r f)).alloc zNum).drew
  have hx : x * y = if (!(b == d)) then -((x.natAbs * y.natAbs : Nat) : Int) else ((x.natAbs * y.natAbs : Nat) : Int) := mul_sign h.neg k.neg
  have K0 : Blk (((w.alloc (bNum b A p c)).alloc (bNum d B r f)).alloc zNum).drew (w.heap.size + 2) 28 #[.bool false, .slice none 0 0] := (Blk.new_at ((w.alloc (bNum b A p c)).alloc (bNum d B r f)) _ _ (by simp)).drew
  have HS := Lib.hid S0
  have HX := Lib.hid hx
  clear S0 hx
  go_region_held3 (fun w' => w'.cell? ⟨w.heap.size, 0, none⟩ = some (.bool b) ∧ w'.cell? ⟨w.heap.size, 1, none⟩ = some (.slice A p c) ∧ w'.cell? ⟨w.heap.size + 1, 0, none⟩ = some (.bool d) ∧ w'.cell? ⟨w.heap.size + 1, 1, none⟩ = some (.slice B r f))
    (first | exact HS.out | exact S1.out | exact S2.out | (refine keep4_set S2.out ?_ ?_ ?_ ?_ <;> (simp <;> omega)))
    (first | (go_at_call 38; refine (ti_c h1 k1 hp hr).mono ?_; rintro e w1 ⟨C, n, g, rfl, hd, hb1⟩; have S1 := Lib.hid (keep4 HS.out hb1)) | (go_at_call 41; refine (made_c hd HX.out).mono ?_; rintro e w2 ⟨b2, A2, p2, c2, rfl, hn, hb2⟩; have S2 := Lib.hid (keep4 S1.out hb2); have K2 := (K0.under hb1).under hb2; obtain ⟨c0, c1, f0, f1, hl⟩ := K2.two))
  go_wp2
  exact num_done K2 hn (below_of (below3 w _ _ _ (undrew hb1)) hb2 (below3 w _ _ _ (undrew hb1)).size) (by omega) rfl rfl rfl

theorem add_same {x y : Int} {b : Bool} (hb : b = decide (x < 0)) (hd : b = decide (y < 0)) : x + y = if b = true then -((x.natAbs + y.natAbs : Nat) : Int) else ((x.natAbs + y.natAbs : Nat) : Int) := by
  subst hb
  rw [decide_eq_decide] at hd
  by_cases h : x < 0
  · rw [decide_eq_true h, if_pos rfl]; omega
  · rw [decide_eq_false h, if_neg (by decide)]; omega
theorem add_lt {x y : Int} {b d : Bool} (hb : b = decide (x < 0)) (hd : d = decide (y < 0)) (hne : b ≠ d) (hlt : x.natAbs < y.natAbs) : x + y = if d = true then -((y.natAbs - x.natAbs : Nat) : Int) else ((y.natAbs - x.natAbs : Nat) : Int) := by
  subst hb hd
  have h1 : ¬ ((x < 0) ↔ (y < 0)) := fun h => hne (by rw [decide_eq_decide]; exact h)
  by_cases h : y < 0
  · rw [decide_eq_true h, if_pos rfl]; omega
  · rw [decide_eq_false h, if_neg (by decide)]; omega
theorem add_ge {x y : Int} {b d : Bool} (hb : b = decide (x < 0)) (hd : d = decide (y < 0)) (hne : b ≠ d) (hlt : ¬ x.natAbs < y.natAbs) : x + y = if b = true then -((x.natAbs - y.natAbs : Nat) : Int) else ((x.natAbs - y.natAbs : Nat) : Int) := by
  subst hb hd
  have h1 : ¬ ((x < 0) ↔ (y < 0)) := fun h => hne (by rw [decide_eq_decide]; exact h)
  by_cases h : x < 0
  · rw [decide_eq_true h, if_pos rfl]; omega
  · rw [decide_eq_false h, if_neg (by decide)]; omega

set_option maxHeartbeats 2000000 in
theorem add_c {x y : Int} {b d : Bool} {A B : Option Addr} {p r c f : Nat} {w : World} (h : NumIs w x b A p c) (k : NumIs w y d B r f) (hp : p ≤ 1000000) (hr : r ≤ 1000000) :
    Calls Tryd.prog 18 #[.agg #[.bool b, .slice A p c], .agg #[.bool d, .slice B r f]] w (RetN (x + y) w) := by
  have S0 := boxes3 w (.bool b) (.slice A p c) (.bool d) (.slice B r f) 28 28 zNum
  have h1 := (((h.dig.alloc (bNum b A p c)).alloc (bNum d B r f)).alloc zNum).drew
  have k1 := (((k.dig.alloc (bNum b A p c)).alloc (bNum d B r f)).alloc zNum).drew
  have K0 : Blk (((w.alloc (bNum b A p c)).alloc (bNum d B r f)).alloc zNum).drew (w.heap.size + 2) 28 #[.bool false, .slice none 0 0] := (Blk.new_at ((w.alloc (bNum b A p c)).alloc (bNum d B r f)) _ _ (by simp)).drew
  have HS := Lib.hid S0
  clear S0
  by_cases hbd : b = d
  · have hx := add_same h.neg (hbd ▸ k.neg)
    have HX := Lib.hid hx
    have t : (b == d) = true := by simp [hbd]
    clear hx
    have HB := Lib.hid hbd
    clear hbd
    go_enter Tryd.func18, Tryd.ntmps18
    go_wp2_with fail
    go_region_held3 (fun w' => w'.cell? ⟨w.heap.size, 0, none⟩ = some (.bool b) ∧ w'.cell? ⟨w.heap.size, 1, none⟩ = some (.slice A p c) ∧ w'.cell? ⟨w.heap.size + 1, 0, none⟩ = some (.bool d) ∧ w'.cell? ⟨w.heap.size + 1, 1, none⟩ = some (.slice B r f))
      (first | exact HS.out | exact S1.out | exact S2.out | (refine keep4_set S2.out ?_ ?_ ?_ ?_ <;> (simp <;> omega)))
      (first | (go_at_call 37; refine (pl_c h1 k1 hp hr).mono ?_; rintro e w1 ⟨C, n, g, rfl, hd, hb1⟩; have S1 := Lib.hid (keep4 HS.out hb1)) | (go_at_call 41; refine (made_c hd HX.out).mono ?_; rintro e w2 ⟨b2, A2, p2, c2, rfl, hn, hb2⟩; have S2 := Lib.hid (keep4 S1.out hb2); have K2 := (K0.under hb1).under hb2; obtain ⟨c0, c1, f0, f1, hl⟩ := K2.two))
    go_wp2
    exact num_done K2 hn (below_of (below3 w _ _ _ (undrew hb1)) hb2 (below3 w _ _ _ (undrew hb1)).size) (by omega) rfl rfl rfl
  · have h0 := (((h.dig.alloc (bNum b A p c)).alloc (bNum d B r f)).alloc zNum)
    have k0 := (((k.dig.alloc (bNum b A p c)).alloc (bNum d B r f)).alloc zNum)
    by_cases hlt : x.natAbs < y.natAbs
    · have HX := Lib.hid (add_lt h.neg k.neg hbd hlt)
      have t : (b == d) = false := by simp [hbd]
      have HB := Lib.hid hbd
      have HL := Lib.hid hlt
      clear hbd hlt
      go_enter Tryd.func18, Tryd.ntmps18
      go_wp2_with fail
      refine (le_c h0 k0 hp).mono ?_
      rintro e w' ⟨rfl, q, rfl⟩
      rw [decide_eq_true HL.out]
      have HT := Lib.hid (sdrew HS.out q)
      have h2 := (h0.drewN q).drew
      have k2 := (k0.drewN q).drew
      have K1 : Blk ((((w.alloc (bNum b A p c)).alloc (bNum d B r f)).alloc zNum).drewN q).drew (w.heap.size + 2) 28 #[.bool false, .slice none 0 0] := K0
      go_wp2_with fail
      go_region_held3 (fun w' => w'.cell? ⟨w.heap.size, 0, none⟩ = some (.bool b) ∧ w'.cell? ⟨w.heap.size, 1, none⟩ = some (.slice A p c) ∧ w'.cell? ⟨w.heap.size + 1, 0, none⟩ = some (.bool d) ∧ w'.cell? ⟨w.heap.size + 1, 1, none⟩ = some (.slice B r f))
        (first | exact HT.out | exact S1.out | exact S2.out | (refine keep4_set S2.out ?_ ?_ ?_ ?_ <;> (simp <;> omega)))
        (first | (go_at_call 42; refine (mi_c k2 h2 (Nat.le_of_lt HL.out) hr).mono ?_; rintro e w1 ⟨C, n, g, rfl, hd, hb1⟩; have S1 := Lib.hid (keep4 HT.out hb1)) | (go_at_call 41; refine (made_c hd HX.out).mono ?_; rintro e w2 ⟨b2, A2, p2, c2, rfl, hn, hb2⟩; have S2 := Lib.hid (keep4 S1.out hb2); have K2 := (K1.under hb1).under hb2; obtain ⟨c0, c1, f0, f1, hl⟩ := K2.two))
      go_wp2
      exact num_done K2 hn (below_of (below3 w _ _ _ (undrewN (undrew hb1))) hb2 (below3 w _ _ _ (undrewN (undrew hb1))).size) (by omega) rfl rfl rfl
    · have HX := Lib.hid (add_ge h.neg k.neg hbd hlt)
      have t : (b == d) = false := by simp [hbd]
      have HB := Lib.hid hbd
      have HL := Lib.hid hlt
      clear hbd hlt
      go_enter Tryd.func18, Tryd.ntmps18
      go_wp2_with fail
      refine (le_c h0 k0 hp).mono ?_
      rintro e w' ⟨rfl, q, rfl⟩
      rw [decide_eq_false HL.out]
      have HT := Lib.hid (sdrew HS.out q)
      have h2 := (h0.drewN q).drew
      have k2 := (k0.drewN q).drew
      have K1 : Blk ((((w.alloc (bNum b A p c)).alloc (bNum d B r f)).alloc zNum).drewN q).drew (w.heap.size + 2) 28 #[.bool false, .slice none 0 0] := K0
      go_wp2_with fail
      go_region_held3 (fun w' => w'.cell? ⟨w.heap.size, 0, none⟩ = some (.bool b) ∧ w'.cell? ⟨w.heap.size, 1, none⟩ = some (.slice A p c) ∧ w'.cell? ⟨w.heap.size + 1, 0, none⟩ = some (.bool d) ∧ w'.cell? ⟨w.heap.size + 1, 1, none⟩ = some (.slice B r f))
        (first | exact HT.out | exact S1.out | exact S2.out | (refine keep4_set S2.out ?_ ?_ ?_ ?_ <;> (simp <;> omega)))
        (first | (go_at_call 42; refine (mi_c h2 k2 (Nat.le_of_not_lt HL.out) hp).mono ?_; rintro e w1 ⟨C, n, g, rfl, hd, hb1⟩; have S1 := Lib.hid (keep4 HT.out hb1)) | (go_at_call 41; refine (made_c hd HX.out).mono ?_; rintro e w2 ⟨b2, A2, p2, c2, rfl, hn, hb2⟩; have S2 := Lib.hid (keep4 S1.out hb2); have K2 := (K1.under hb1).under hb2; obtain ⟨c0, c1, f0, f1, hl⟩ := K2.two))
      go_wp2
      exact num_done K2 hn (below_of (below3 w _ _ _ (undrewN (undrew hb1))) hb2 (below3 w _ _ _ (undrewN (undrew hb1))).size) (by omega) rfl rfl rfl
end Go.Proofs.YtpomhcclnhddmaaDoor
