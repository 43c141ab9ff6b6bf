/- Contracts of the laws of record: slices.Clone of points, head, own, slices.Grow (of nil), slices.Concat (seat Record). -/
import Derived.Test.YtedojdbihajnbaaRecT
import Derived.Test.YtedojdbihajnbaaVarN
import Derived.WalkSpells
import Derived.Lib.AppendZerosOnto
import Derived.Lib.Walk
import Derived.Lib.SliceRun
namespace Go.Proofs.Ytedojdbihajnbaa
open Go.RowKit Go.Shelf VB
open Go.Lib (hid)
set_option linter.unusedVariables false
set_option linter.unusedSimpArgs false
theorem nil_readsS {w : World} {e : TypeId} {s n : Nat} {xs : List Value} (h : Reads w e s none n xs) : n = 0 ∧ xs = [] := by
  rcases Nat.eq_zero_or_pos n with h0 | h0
  · exact ⟨h0, List.eq_nil_of_length_eq_zero (by rw [h.1, h0, Nat.zero_mul])⟩
  · obtain ⟨ad, h, _⟩ := h.2 h0
    cases h
theorem own_emptyS (w : World) (e : TypeId) (s : Nat) : (w.alloc (.cells #[] e)).ownsRow w.heap.size e s (.slice (some ⟨w.heap.size, 0, none⟩) 0 0) 0 [] :=
  ⟨by simp, .inr ⟨w.heap.size, 0, #[], rfl, Nat.le_refl _, heap_alloc_new w _, Nat.le_refl _, Nat.zero_le _, by simp, by simp⟩⟩
theorem wpList_append_anyS {P : Program} (w : World) {ops : Array Oper} {rest : List Oper} {o : Oper} {a : Act} {Q : Exit → Act → World → Prop} (hgd : o.guard = none) (s x : Operand) (t : TypeId)
    (ho : o.op = .call { callee := .builtin .append, args := #[s, x], argTypes := #[t, t] })
    (base : Nat) (e : TypeId) (i : TypeInfo) (z : Value) (size bytes : Nat) (ht : P.underlying t = some (.slice e)) (hi : P.info? e = some i) (hz : i.zero = some z)
    (hsize : i.size = size) (hby : i.bytes = bytes) (hzs : z.cells.size = size) (hsz : 0 < size)
    (v : Value) (n : Nat) (xs : List Value) (hs : a.eval s = v) (hown : w.ownsRow base e size v n xs)
    (e' : TypeId) (ad : Addr) (m c : Nat) (news : List Value) (hx : a.eval x = .slice (some ad) m c) (hr : Reads w e' size (some ad) m news) (h1 : ∀ u ∈ news, u.oneCell' = true)
    (h63 : n + m ≤ maxLen) (hbytes : (n + m) * bytes ≤ 140737488355328) (hbase : base ≤ w.heap.size)
    (h : ∀ v' w', w'.ownsRow base e size v' (n + m) (xs ++ news) → w.grownBy w' v.ownBlock → wpList P ops Q rest (a.put o.dst v') w') : wpList P ops Q (o :: rest) a w := by
  refine wpList_append_own _ hgd s x t ho base e i z size bytes ht hi hz hsize hby hzs hsz v n xs hs hown ad m c news hx hr.1 ?_ h1 h63 hbytes hbase (fun v' w' h2 h3 _ => h v' w' h2 h3)
  intro j u hu
  rcases Nat.eq_zero_or_pos m with h0 | h0
  · subst h0
    have hn : news = [] := List.eq_nil_of_length_eq_zero (by simpa using hr.1)
    subst hn
    simp at hu
  · obtain ⟨ad', h, _, hc⟩ := hr.2 h0
    injection h with h
    subst h
    exact hc j u hu
theorem cellsP_one (l : List (Int × Int)) : ∀ v ∈ l.flatMap cellsP, v.oneCell' = true := by
  intro v hv
  rw [List.mem_flatMap] at hv
  obtain ⟨q, _, hq⟩ := hv
  simp only [cellsP, List.mem_cons, List.not_mem_nil, or_false] at hq
  rcases hq with rfl | rfl <;> rfl
set_option maxHeartbeats 400000 in
theorem clone_p {e' : TypeId} (A : Option Addr) (n c : Nat) (l : List (Int × Int)) (w : World) (hb : Reads w e' 2 A n (l.flatMap cellsP)) (hn : n ≤ 100000000) :
    Calls Try.prog 31 #[.slice A n c] w fun e w' => ∃ C f, e = .returned (.slice C n f) ∧ w'.ownsRow w.heap.size 51 2 (.slice C n f) n (l.flatMap cellsP) ∧ Below w.heap.size w w' := by
  have q22 : ∀ (w : World) (a : Option Addr) (n c n' c' : Nat), (binOp .eql 22 (.slice a n c) (.slice none n' c')).run Try.prog w = .ok (.bool a.isNone) w := fun w a n c n' c' => Lib.run_eql_slice_nil w _ _ a n c n' c' Try.underlying22
  have HB := Lib.hid hb
  cases A with
  | none =>
    obtain ⟨rfl, h0⟩ := nil_readsS hb
    rw [h0]
    clear hb h0
    go_enter Try.func31, Try.ntmps31
    go_wp2
    go_ret
    exact ⟨none, 0, rfl, World.ownsRow_nil _ _ _ _, Below.refl _ _⟩
  | some ad =>
    clear hb
    obtain ⟨i0, hi0, hz0, hz1, hz2⟩ := info_parts3 point_info
    go_enter Try.func31, Try.ntmps31
    go_wp2_with (at_builtin; refine wpList_append_anyS _ rfl (.tmp 5) (.tmp 6) 22 rfl w.heap.size 51 i0 (.agg #[.int .i64 0, .int .i64 0]) 2 16 Try.underlying22 hi0 hz0 hz1 hz2 rfl (by decide) _ 0 [] rfl (own_emptyS w 51 2) e' ad n c (l.flatMap cellsP) rfl (HB.out.alloc _) (cellsP_one l) (by simp only [maxLen]; omega) (by omega) (by simp) ?_; intro v' w' hown' hg')
    rw [Nat.zero_add] at hown'
    obtain ⟨C, f, rfl, _, _⟩ := own_form hown'
    have hB : Below w.heap.size w w' := ((Below.refl _ w).alloc (Nat.le_refl _) _).grown hg' (by simp) (by intro k hk; cases hk; exact Nat.le_refl _)
    go_wp2
    go_ret
    exact ⟨C, f, rfl, by simpa using hown', hB⟩
theorem min_at {n m k : Nat} (hm : m = min n k) (kz : Int) (hk : kz = k) (w : World) : (Builtin.min_ #[3, 3] 3 #[.int .i64 (n : Int), .int .i64 kz]).run Try.prog w = .ok (.int .i64 (m : Nat)) w := by
  rw [run_min_int2]
  by_cases h : kz < (n : Int)
  · rw [if_pos h, hk, show m = k by omega]
  · rw [if_neg h, show m = n by omega]
set_option maxHeartbeats 400000 in
theorem head_r {e' : TypeId} (A : Option Addr) (n m c : Nat) (bs : List Nat) (w : World) (hb : Reads w e' 1 A n (bsV bs)) (hc : n ≤ c) (hcm : c ≤ maxLen) (hm : m = min n 600) :
    Calls Try.prog 24 #[.slice A n c] w (RetB (bs.take m) w) := by
  have hl : bs.length = n := by have := hb.1; rw [bsV_len] at this; omega
  have hcl : Calls Try.prog 44 #[.slice A m c] w fun e w' => ∃ C f, e = .returned (.slice C m f) ∧ w'.ownsRow w.heap.size 5 1 (.slice C m f) m (bsV (bs.take m)) ∧ Below w.heap.size w w' := by
    refine clone_b (e' := e') A m c (bs.take m) w ?_ (by omega)
    have h := hb.take (k := m) (by omega)
    rw [Nat.mul_one] at h
    rw [show bsV (bs.take m) = (bsV bs).take m by simp [bsV, List.map_take]]
    exact h
  have HC := Lib.hid hcl
  have h2 : ((m : Nat) : Int) ≤ (c : Nat) := by omega
  have hmc : m ≤ c := by omega
  have hml : (bs.take m).length = m := by rw [List.length_take]; omega
  have HL := Lib.hid hml
  have hmin : ∀ w, (Builtin.min_ #[3, 3] 3 #[.int .i64 (n : Int), .int .i64 600]).run Try.prog w = .ok (.int .i64 (m : Nat)) w := min_at hm 600 rfl
  clear hb hcl hl hml hm
  go_enter Try.func24, Try.ntmps24
  go_wp2_with fail
  refine HC.out.mono ?_
  clear HC
  rintro e w1 ⟨C0, f0, rfl, hown, hb1⟩
  have HF := Lib.hid (show RetB (bs.take m) w (.returned (.slice C0 m f0)) w1 from ⟨C0, f0, by rw [HL.out], by rw [HL.out]; exact hown, hb1⟩)
  clear hown hb1
  go_wp2_with fail
  go_ret
  exact HF.out
end Go.Proofs.Ytedojdbihajnbaa
namespace Go.Proofs.Ytedojdbihajnbaa
open Go.RowKit Go.Shelf VB
open Go.Lib (hid)
set_option linter.unusedVariables false
set_option linter.unusedSimpArgs false
def ownM (m : Mu) : Mu := ⟨m.kind, m.name.extract 0 (min m.name.size 40), m.eps, m.floor, m.scale, m.pts.take (min m.pts.length 40)⟩
def RetOwn (m : Mu) (w : World) (e : Ending) (w' : World) : Prop :=
  ∃ C f, e = .returned (vM (ownM m) C f) ∧ Below w.heap.size w w' ∧ w'.ownsRow w.heap.size 51 2 (.slice C (ownM m).pts.length f) (ownM m).pts.length ((ownM m).pts.flatMap cellsP)
theorem take_cells (l : List (Int × Int)) (k : Nat) : (l.flatMap cellsP).take (k * 2) = (l.take k).flatMap cellsP := by
  induction l generalizing k with
  | nil => simp
  | cons x l ih =>
    cases k with
    | zero => simp
    | succ k =>
      rw [List.take_succ_cons, List.flatMap_cons, List.flatMap_cons, ← ih k, show (k + 1) * 2 = (cellsP x).length + k * 2 by simp only [cellsP, List.length_cons, List.length_nil]; omega, List.take_length_add_append]
set_option maxRecDepth 100000 in
set_option maxHeartbeats 1000000 in
theorem own_c {e1 : TypeId} (m : Mu) (A : Option Addr) (c : Nat) (w : World) (hz : Reads w e1 2 A m.pts.length (m.pts.flatMap cellsP)) (hc : m.pts.length ≤ c) (hcm : c ≤ maxLen) :
    Calls Try.prog 10 #[vM m A c] w (RetOwn m w) := by
  obtain ⟨k, nm, ep, fl, sc, l⟩ := m
  obtain ⟨n, hn⟩ : ∃ n, n = l.length := ⟨_, rfl⟩
  obtain ⟨m1, hm1⟩ : ∃ m1, m1 = min nm.size 40 := ⟨_, rfl⟩
  obtain ⟨m2, hm2⟩ : ∃ m2, m2 = min n 40 := ⟨_, rfl⟩
  have hcl := fun w' (h : Reads w' e1 2 A n (l.flatMap cellsP)) => clone_p A m2 c (l.take m2) w' (by have := h.take (k := m2) (by omega); rwa [take_cells] at this) (by omega)
  have HCL := hid hcl
  have HZ := hid (show Reads w e1 2 A n (l.flatMap cellsP) by rw [hn]; exact hz)
  have hlen : (l.take m2).length = m2 := by rw [List.length_take]; omega
  have HO := hid (show ownM ⟨k, nm, ep, fl, sc, l⟩ = ⟨k, nm.extract 0 m1, ep, fl, sc, l.take m2⟩ by unfold ownM; rw [hm1, hm2, hn])
  have hmin1 : ∀ w, (Builtin.min_ #[3, 3] 3 #[.int .i64 (nm.size : Int), .int .i64 40]).run Try.prog w = .ok (.int .i64 (m1 : Nat)) w := min_at hm1 40 rfl
  have hmin2 : ∀ w, (Builtin.min_ #[3, 3] 3 #[.int .i64 (n : Int), .int .i64 40]).run Try.prog w = .ok (.int .i64 (m2 : Nat)) w := min_at hm2 40 rfl
  have g1 : ((m1 : Nat) : Int) ≤ (nm.size : Nat) := by omega
  have g2 : ((m2 : Nat) : Int) ≤ (c : Nat) := by simp only at hc; omega
  have g3 : m2 ≤ c := by simp only at hc; omega
  have g4 : m1 ≤ nm.size := by omega
  have HLEN := hid hlen
  show Calls _ _ #[.agg (aM k nm ep fl sc (.slice A l.length c))] _ _
  rw [← hn]
  have HB := hid (fun o1 o2 => below2' w o1 o2 (Below.refl _ _))
  clear hz hc hcm hcl hlen hm1 hm2 hn
  go_enter Try.func10, Try.ntmps10
  go_wp2_with fail
  refine (HCL.out _ ((HZ.out.alloc _).alloc _)).mono ?_
  rintro e w3 ⟨C, f, rfl, hown, hb3⟩
  have k0 := ((Blk.new w 24 (aM k (nm.extract 0 m1) ep fl sc (.slice A n c))).alloc (.cells (aM 0 ⟨#[]⟩ 0 0 0 (.slice none 0 0)) 24)).under hb3
  have k1 := (Blk.new_at (g := w.heap.size + 1) (w.alloc (.cells (aM k (nm.extract 0 m1) ep fl sc (.slice A n c)) 24)) 24 (aM 0 ⟨#[]⟩ 0 0 0 (.slice none 0 0)) (by simp)).under hb3
  have hb4 := (HB.out _ _).trans (hb3.mono (by simp; omega))
  have hown4 : w3.ownsRow (w.heap.size + 2) 51 2 (.slice C m2 f) m2 ((l.take m2).flatMap cellsP) := own_low hown (by simp)
  clear hown hb3 HCL HZ HB
  have k0' := k0.set_ 5 (.slice C m2 f)
  have k1' := k1.far (p := ⟨w.heap.size, 5, none⟩) (by simp) (.slice C m2 f)
  have hb5 := hb4.setCell (p := ⟨w.heap.size, 5, none⟩) (Nat.le_refl _) (.slice C m2 f)
  have hown5 := own_far (a := ⟨w.heap.size, 5, none⟩) hown4 (by simp) (.slice C m2 f)
  have f5 := k0.frozen 5
  have x5 : w3.cell? ⟨w.heap.size, 5, none⟩ = some (.slice A n c) := k0.cell 5
  have hlt := k0.lt
  have HX := hid (And.intro k0' (And.intro k1' (And.intro hb5 hown5)))
  clear k0 k1 hb4 hown4 k0' k1' hb5 hown5
  go_upto_region 3 with fail
  obtain ⟨k0, k1, hb, hown⟩ := HX.out
  clear f5 x5 hlt HX
  generalize w3.setCell ⟨w.heap.size, 5, none⟩ (.slice C m2 f) = w4 at *
  have k0 : Blk w4 w.heap.size 24 (aM k (nm.extract 0 m1) ep fl sc (.slice C m2 f)) := k0
  obtain ⟨x0, x1, x2, x3, x4, x5, y0, y1, y2, y3, y4, y5⟩ := k0.six
  obtain ⟨v0, v1, v2, v3, v4, v5, z0, z1, z2, z3, z4, z5⟩ := k1.six
  have hlt := k1.lt
  have hlt0 := k0.lt
  have HX := hid (And.intro k1 (And.intro hb hown))
  clear k0 k1 hb hown
  go_wp2
  clear x0 x1 x2 x3 x4 x5 y0 y1 y2 y3 y4 y5 v0 v1 v2 v3 v4 v5 z0 z1 z2 z3 z4 z5
  obtain ⟨k1, hb, hown⟩ := HX.out
  refine ret_mu rfl rfl rfl k1.all6 ⟨C, f, ?_, ?_, ?_⟩
  · rw [HO.out]
    show Ending.returned (.agg (aM k (nm.extract 0 m1) ep fl sc (.slice C m2 f))) = .returned (.agg (aM k (nm.extract 0 m1) ep fl sc (.slice C (l.take m2).length f)))
    rw [HLEN.out]
  · exact (((((hb.setCell (p := ⟨w.heap.size + 1, 0, none⟩) (by simp) _).setCell (p := ⟨w.heap.size + 1, 1, none⟩) (by simp) _).setCell (p := ⟨w.heap.size + 1, 2, none⟩) (by simp) _).setCell (p := ⟨w.heap.size + 1, 3, none⟩) (by simp) _).setCell (p := ⟨w.heap.size + 1, 4, none⟩) (by simp) _).setCell (p := ⟨w.heap.size + 1, 5, none⟩) (by simp) _
  · rw [HO.out]
    show World.ownsRow _ _ _ _ (.slice C (l.take m2).length f) (l.take m2).length _
    rw [HLEN.out]
    exact own_low (own_far6 hown (by omega) _ _ _ _ _ _) (by omega)
end Go.Proofs.Ytedojdbihajnbaa
namespace Go.Proofs.Ytedojdbihajnbaa
open Go.RowKit Go.Shelf VB
open Go.Lib (hid)
set_option linter.unusedVariables false
set_option linter.unusedSimpArgs false
def RetV0 (w : World) (e : Ending) (w' : World) : Prop := ∃ C f, e = .returned (.slice C 0 f) ∧ w'.ownsRow w.heap.size 5 1 (.slice C 0 f) 0 [] ∧ Below w.heap.size w w'
set_option maxHeartbeats 1000000 in
theorem grow_b (n : Nat) (w : World) (hn : n ≤ 100000000) :
    Calls Try.prog 55 #[.slice none 0 0, .int .i64 n] w (RetV0 w) := by
  obtain ⟨i0, hi0, hz0, hz1, hz2⟩ := info_parts3 byte_info
  have h1 : ¬ ((n : Int) < 0) := by omega
  have h3 : wrap64 (n : Int) = (n : Int) := by unfold wrap64; omega
  rcases Nat.eq_zero_or_pos n with h0 | h0
  · subst h0
    have HF := hid (show RetV0 w (.returned (.slice none 0 0)) w from ⟨none, 0, rfl, World.ownsRow_nil _ _ _ _, Below.refl _ _⟩)
    clear h1 h3 hi0 hz0 hz1 hz2
    go_enter Try.func55, Try.ntmps55
    go_wp2_with fail
    go_ret
    exact HF.out
  · have h4 : (n : Int) > 0 := by omega
    have hold : ∀ w : World, (Builtin.firstCells i0.size 0 (.slice none 0 0)).run Try.prog w.drew = .ok ([] : List Value).toArray w.drew := fun w => run_firstCells_none w.drew i0.size 0 0 0
    obtain ⟨G, hG⟩ : ∃ G, G = grownCap w (0 + n) 0 5 := ⟨_, rfl⟩
    have hGn : 0 + n ≤ grownCap w (0 + n) 0 5 := grownCap_ge w _ _ _
    have hG63 := grownCap_le_maxLen w (0 + n) 0 5 (by unfold maxLen; omega)
    have hrz : ∀ ty, (Builtin.append_ #[32, 3] ty #[.slice none 0 0, .int .i64 (n : Int)]).run Try.prog w =
        .ok (.slice (some ⟨w.heap.size, 0, none⟩) n G) (w.drew.alloc (.cells (([] : List Value).toArray ++ Builtin.zeroCells (Value.int .u8 0).cells n ++ Builtin.zeroCells (Value.int .u8 0).cells (G - n)) 5)) := fun ty => by
      have h := Lib.run_append_grow_zeros w 32 3 ty 5 i0 (.int .u8 0) .i64 .i64 Try.underlying32 Try.underlying3 hi0 hz0 none 0 0 [] (hold w) n h0 (by rw [hz1]; decide) (by omega) (by omega)
        (by rw [hz2]; omega) (by exact growslice_fits (by omega) (by rw [hz2]; omega))
      rw [← hG] at h
      rw [Nat.zero_add] at h
      exact h
    rw [← hG, Nat.zero_add] at hGn
    rw [← hG] at hG63
    have hGI : G ≤ 9223372036854775807 := by unfold maxLen at hG63; omega
    have hsz : (([] : List Value).toArray ++ Builtin.zeroCells (Value.int .u8 0).cells n ++ Builtin.zeroCells (Value.int .u8 0).cells (G - n)).size = G * 1 := by
      simp [Builtin.zeroCells, Value.cells]
      omega
    generalize (([] : List Value).toArray ++ Builtin.zeroCells (Value.int .u8 0).cells n ++ Builtin.zeroCells (Value.int .u8 0).cells (G - n)) = cs at *
    have HF := hid (show RetV0 w (.returned (.slice (some ⟨w.heap.size, 0, none⟩) 0 G)) (w.drew.alloc (.cells cs 5)) from
      ⟨_, G, rfl, ⟨rfl, .inr ⟨w.heap.size, G, cs, rfl, Nat.le_refl _, heap_alloc_new w.drew _, Nat.zero_le _, hG63, hsz, by simp⟩⟩, (Below.refl w.heap.size w).drew.alloc (Nat.le_refl _) _⟩)
    have hG0 : (0 : Int) ≤ (G : Nat) := by omega
    clear hold hG hsz hG63 hi0 hz0 hz1 hz2 h0
    go_enter Try.func55, Try.ntmps55
    go_wp2_with (at_builtin; refine Lib.wpList_append_run _ rfl _ _ _ _ rfl _ _ rfl rfl _ _ (hrz _) ?_)
    all_goals (go_ret; exact HF.out)
/-- one of the slices that are joined -/
structure Part where
  A : Option Addr
  n : Nat
  c : Nat
  bs : List Nat
def cellS (q : Part) : Value := .slice q.A q.n q.c
def joined (L : List Part) : List Nat := L.flatMap Part.bs
theorem joined_succ {L : List Part} {i : Nat} (h : i < L.length) : joined (L.take (i + 1)) = joined (L.take i) ++ (L[i]).bs := by
  unfold joined
  rw [List.take_succ_eq_append_getElem h, List.flatMap_append]
  simp
theorem joined_le {L : List Part} {i : Nat} : (joined (L.take i)).length ≤ (joined L).length := by
  unfold joined
  conv => rhs; rw [← List.take_append_drop i L, List.flatMap_append, List.length_append]
  omega
set_option maxRecDepth 100000 in
set_option maxHeartbeats 2000000 in
theorem concat_b {eS : TypeId} (A : Option Addr) (k c : Nat) (L : List Part) (w : World) (hr : Reads w eS 1 A k (L.map cellS)) (hl : ∀ q ∈ L, Reads w 5 1 q.A q.n (bsV q.bs)) (htot : (joined L).length ≤ 1000000) (hk : k ≤ 1000000) :
    Calls Try.prog 30 #[.slice A k c] w (RetB (joined L) w) := by
  obtain ⟨i0, hi0, hz0, hz1, hz2⟩ := info_parts3 byte_info
  have HI := hid (And.intro hi0 (And.intro hz0 (And.intro hz1 hz2)))
  have hLk : L.length = k := by have := hr.1; simpa using this
  have HR := hid hr
  have HL := hid hl
  have HT := hid htot
  have HLK := hid hLk
  have HG := hid (fun w' => grow_b (joined L).length w' (by omega))
  clear hr hl htot hLk hi0 hz0 hz1 hz2
  go_enter Try.func30, Try.ntmps30
  go_wp2_with fail
  go_loopw [3, 11] (fun u3 u11 wr => ∃ i s : Nat, i ≤ k ∧ u11 = .int .i64 (i : Nat) ∧ u3 = .int .i64 (s : Nat) ∧ Hid (s = (joined (L.take i)).length) ∧ w = wr) (fun _ u11 _ => k - (intOf u11).toNat)
  case atStart => exact ⟨0, 0, Nat.zero_le _, rfl, rfl, hid rfl, rfl⟩
  case round =>
    obtain ⟨i, s, hi, rfl, rfl, hs, rfl⟩ := hrel
    by_cases hlt : i < k
    · obtain ⟨ad, u, rfl, hu, hc⟩ := HR.out.at_ hlt
      have hiL : i < L.length := by have := HLK.out; omega
      rw [List.getElem?_map, List.getElem?_eq_getElem hiL] at hu
      injection hu with hu
      have hq := HL.out _ (List.getElem_mem hiL)
      have hs1 := joined_succ hiL
      have hjl := joined_le (L := L) (i := i + 1)
      have hbl : (L[i]).bs.length = (L[i]).n := by have := hq.1; rw [bsV_len] at this; omega
      generalize L[i] = q at *
      obtain ⟨qa, qn, qc, qb⟩ := q
      subst hu
      have HS := hid (show s + qn = (joined (L.take (i + 1))).length ∧ s + qn ≤ 1000000 by
        have := hs.out
        have := HT.out
        rw [hs1, List.length_append] at hjl ⊢
        simp only at hbl hjl ⊢
        exact ⟨by omega, by omega⟩)
      replace hc : w.cell? (ad.add i) = some (.slice qa qn qc) := hc
      have hw : wrap64 ((s : Int) + (qn : Int)) = ((s + qn : Nat) : Int) := by have := HS.out.2; unfold wrap64; omega
      have hn0 : ¬ (((s + qn : Nat) : Int) < 0) := by omega
      have hsi : (i : Int) < (k : Int) := by omega
      have hsi0 : (0 : Int) ≤ (i : Int) := by omega
      clear hs hq hs1 hjl hbl hiL
      go_wp2_with fail
      go_roundw
      case rel => exact ⟨i + 1, s + qn, by omega, by go_num, by rw [hw], hid HS.out.1, trivial⟩
      case measure => simp [intOf]; omega
    · obtain rfl : i = k := by omega
      have hs' : s = (joined L).length := by have := hs.out; rw [List.take_of_length_le (by have := HLK.out; omega)] at this; exact this
      subst hs'
      clear hs hlt hi
      go_wp2_with fail
      refine (HG.out _).mono ?_
      rintro e w2 ⟨C, f, rfl, hown, hb⟩
      have HOW := hid hown
      have HB := hid hb
      clear hown hb HG
      go_wp2_with fail
      go_loopw [6, 27] (fun u6 u27 wr => ∃ (j : Nat) (acc : List Nat) (C : Option Addr) (f : Nat), j ≤ i ∧ u27 = .int .i64 (j : Nat) ∧ u6 = .slice C acc.length f ∧ Hid (acc = joined (L.take j)) ∧ wr.ownsRow w.heap.size 5 1 (.slice C acc.length f) acc.length (bsV acc) ∧ Below w.heap.size w wr) (fun _ u27 _ => i - (intOf u27).toNat)
      case atStart => exact ⟨0, [], C, f, Nat.zero_le _, rfl, rfl, hid rfl, HOW.out, HB.out⟩
      case round =>
        obtain ⟨j, acc, C, f, hj, rfl, rfl, hacc, hown, hb⟩ := hrel
        by_cases hlt : j < i
        · obtain ⟨ad, u, rfl, hu, hc⟩ := (HR.out.below hb).at_ hlt
          have hiL : j < L.length := by have := HLK.out; omega
          rw [List.getElem?_map, List.getElem?_eq_getElem hiL] at hu
          injection hu with hu
          have hq := (HL.out _ (List.getElem_mem hiL)).below hb
          have hs1 := joined_succ hiL
          have hjl := joined_le (L := L) (i := j + 1)
          have hbl : (L[j]).bs.length = (L[j]).n := by have := hq.1; rw [bsV_len] at this; omega
          generalize L[j] = q at *
          obtain ⟨qa, qn, qc, qb⟩ := q
          subst hu
          simp only at hbl hq
          subst hbl
          have HS := hid (show acc ++ qb = joined (L.take (j + 1)) ∧ acc.length + qb.length ≤ 1000000 by
            have h1 := hacc.out
            have := HT.out
            rw [hs1] at hjl ⊢
            rw [← h1] at hjl ⊢
            rw [List.length_append] at hjl
            simp only at hjl
            exact ⟨rfl, by omega⟩)
          replace hc : wr.cell? (ad.add j) = some (.slice qa qb.length qc) := hc
          have HQ := hid hq
          have HB := hid hb
          have HOWN := hid hown
          have hsi : (j : Int) < (i : Int) := by omega
          have hsi0 : (0 : Int) ≤ (j : Int) := by omega
          clear hq hs1 hjl hiL hacc hb hown
          go_wp2_with (at_builtin; refine wpList_append_any _ rfl (.tmp 31) (.tmp 32) 32 rfl w.heap.size 5 i0 (.int .u8 0) 1 1 Try.underlying32 HI.out.1 HI.out.2.1 HI.out.2.2.1 HI.out.2.2.2 rfl (by decide) (.slice C acc.length f) acc.length (bsV acc) rfl HOWN.out qa qb.length qc (bsV qb) rfl HQ.out (bsV_one _) (by have := HS.out.2; simp only [maxLen]; omega) (by have := HS.out.2; omega) HB.out.size ?_; intro v' w' hown' hg' hv')
          obtain ⟨C3, f3, rfl, _, _⟩ := own_form hown'
          have hb6 := HB.out.grown hg' HB.out.size (fun k hk => (HOWN.out.lt k hk).1)
          rw [← bsV_app, ← List.length_append] at hown'
          rw [← List.length_append]
          have HO2 := hid hown'
          have HB2 := hid hb6
          clear hg' hv' hown' hb6 hc
          go_wp2_with fail
          go_roundw
          case rel => exact ⟨j + 1, acc ++ qb, C3, f3, by omega, by go_num, rfl, hid HS.out.1, HO2.out, HB2.out⟩
          case measure => simp [intOf]; omega
        · obtain rfl : j = i := by omega
          have HF := hid (show RetB (joined L) w (.returned (.slice C acc.length f)) wr by
            have e : acc = joined L := by rw [hacc.out, List.take_of_length_le (by have := HLK.out; omega)]
            rw [e] at hown ⊢
            exact ⟨C, f, rfl, hown, hb⟩)
          clear hlt hown hb hacc
          go_wp2_with fail
          go_ret
          exact HF.out
end Go.Proofs.Ytedojdbihajnbaa
