/- Contracts of record: mutation (seat Record). -/
import Derived.Test.YtedojdbihajnbaaRecE
namespace Go.Proofs.Ytedojdbihajnbaa
open Go.RowKit Go.Shelf VB
open Go.Lib (hid)
set_option linter.unusedVariables false
set_option linter.unusedSimpArgs false
/-- a mutation -/
structure Mu where
  kind : Int
  name : ByteArray
  eps : Int
  floor : Int
  scale : Int
  pts : List (Int × Int)
  deriving DecidableEq
def bodyS (bs : List Nat) (kd : Nat) (nm : List Nat) (z : Nat) : Except Int (Mu × Nat) :=
  if kd = 1 then (match boundS bs z with | .error x => .error x | .ok (a, q) => .ok (⟨1, strN nm, (a.1 : Nat), 0, a.2, []⟩, q))
  else if kd = 2 then .ok (⟨2, strN nm, 0, 0, 0, []⟩, z)
  else if kd = 3 then (match pointsS bs z with | .error x => .error x | .ok (l, q) => .ok (⟨3, strN nm, 0, 0, 0, l⟩, q))
  else (match plainS bs 281474976710656 z with | .error x => .error x | .ok (f, q) => .ok (⟨4, strN nm, 0, (f : Nat), 0, []⟩, q))
/-- the mutation whose bytes begin at a place -/
def mutS (bs : List Nat) (z : Nat) : Except Int (Mu × Nat) :=
  if z < bs.length then (if 1 ≤ bs.getD z 0 ∧ bs.getD z 0 ≤ 4 then (match nameS bs (z + 1) with | .error x => .error x | .ok (nm, p) => bodyS bs (bs.getD z 0) nm p) else .error 7) else .error 6
abbrev vM (m : Mu) (A : Option Addr) (f : Nat) : Value := .agg #[.int .i64 m.kind, .string m.name, .int .i64 m.eps, .int .i64 m.floor, .int .i64 m.scale, .slice A m.pts.length f]
abbrev tapeM (m : Mu) (A : Option Addr) (f : Nat) (B : Option Addr) (n c : Nat) (z : Nat) : Array Value := tapeC m.kind m.name m.eps m.floor m.scale (.slice A m.pts.length f) B n c (z : Nat)
/-- what mutation hands back, and leaves -/
def RetMu (r : Except Int (Mu × Nat)) (B : Option Addr) (n c : Nat) (g : Nat) (w : World) (e : Ending) (w' : World) : Prop :=
  match r with
  | .ok (m, p) => ∃ A f, e = .returned (vM m A f) ∧ But g w w' ∧ Blk w' g 64 (tapeM m A f B n c p) ∧ w'.ownsRow w.heap.size 51 2 (.slice A m.pts.length f) m.pts.length (m.pts.flatMap cellsP)
  | .error x => RetX x g w e w'
abbrev zMuC : Array Value := #[.int .i64 0, .string ⟨#[]⟩, .int .i64 0, .int .i64 0, .int .i64 0, .slice none 0 0]
abbrev zMu : Obj := .cells zMuC 24
/-- what a look-up among the kinds comes to -/
def kindF (kd : Nat) : Option (Nat × Nat) := if kd = 1 then some (56, 57) else if kd = 2 then some (58, 58) else if kd = 3 then some (59, 60) else if kd = 4 then some (61, 62) else none
theorem zero_kind (w : World) : (zeroValue 67).run Try.prog w = .ok (.agg #[.nilFunc, .nilFunc]) w := by kernel_rfl
theorem look_hit {kd : Nat} (hk : 1 ≤ kd ∧ kd ≤ 4) : ∃ a b, kindF kd = some (a, b) ∧ ∀ (w : World) (r : Nat), w.heap[r]? = some (.map kindsE 4) → (Instr.lookup 68 (.map (some r)) (.int .i64 (kd : Nat)) true).run Try.prog w = .ok (.tuple #[.agg #[.func (.func a) #[] #[], .func (.func b) #[] #[]], .bool true]) w := by
  have hcs : kd = 1 ∨ kd = 2 ∨ kd = 3 ∨ kd = 4 := by omega
  rcases hcs with rfl | rfl | rfl | rfl
  · exact ⟨_, _, rfl, fun w r h => lookup_hit w _ _ _ _ r 4 0 kindsE 1 _ true Try.underlying68 Try.underlying3 h rfl⟩
  · exact ⟨_, _, rfl, fun w r h => lookup_hit w _ _ _ _ r 4 1 kindsE 2 _ true Try.underlying68 Try.underlying3 h rfl⟩
  · exact ⟨_, _, rfl, fun w r h => lookup_hit w _ _ _ _ r 4 2 kindsE 3 _ true Try.underlying68 Try.underlying3 h rfl⟩
  · exact ⟨_, _, rfl, fun w r h => lookup_hit w _ _ _ _ r 4 3 kindsE 4 _ true Try.underlying68 Try.underlying3 h rfl⟩
theorem look_no {kd : Nat} (hk : ¬ (1 ≤ kd ∧ kd ≤ 4)) (w : World) (r : Nat) (h : w.heap[r]? = some (.map kindsE 4)) : (Instr.lookup 68 (.map (some r)) (.int .i64 (kd : Nat)) true).run Try.prog w = .ok (.tuple #[.agg #[.nilFunc, .nilFunc], .bool false]) w := by
  have e1 : ((kd : Int) == 1) = false := beq_eq_false_iff_ne.2 (by omega)
  have e2 : ((kd : Int) == 2) = false := beq_eq_false_iff_ne.2 (by omega)
  have e3 : ((kd : Int) == 3) = false := beq_eq_false_iff_ne.2 (by omega)
  have e4 : ((kd : Int) == 4) = false := beq_eq_false_iff_ne.2 (by omega)
  have hf : Instr.findNow (.int .i64) (.int .i64 (kd : Nat)) kindsE.toList 0 = some none := by
    simp only [kindsE, Instr.findNow, Instr.sameNow, e1, e2, e3, e4, if_true]
  exact lookup_miss w _ _ _ _ r 4 kindsE (kd : Nat) _ true Try.underlying68 Try.underlying3 h (zero_kind w) hf
theorem Blk.six {w : World} {g : Nat} {t : TypeId} {a b c d e f : Value} (h : Blk w g t #[a, b, c, d, e, f]) : w.cell? ⟨g, 0, none⟩ = some a ∧ w.cell? ⟨g, 1, none⟩ = some b ∧ w.cell? ⟨g, 2, none⟩ = some c ∧ w.cell? ⟨g, 3, none⟩ = some d ∧ w.cell? ⟨g, 4, none⟩ = some e ∧ w.cell? ⟨g, 5, none⟩ = some f ∧
    w.frozen? ⟨g, 0, none⟩ = false ∧ w.frozen? ⟨g, 1, none⟩ = false ∧ w.frozen? ⟨g, 2, none⟩ = false ∧ w.frozen? ⟨g, 3, none⟩ = false ∧ w.frozen? ⟨g, 4, none⟩ = false ∧ w.frozen? ⟨g, 5, none⟩ = false :=
  ⟨h.cell 0, h.cell 1, h.cell 2, h.cell 3, h.cell 4, h.cell 5, h.frozen 0, h.frozen 1, h.frozen 2, h.frozen 3, h.frozen 4, h.frozen 5⟩
abbrev set6 (w : World) (g : Nat) (a b c d e f : Value) : World := (((((w.setCell ⟨g, 0, none⟩ a).setCell ⟨g, 1, none⟩ b).setCell ⟨g, 2, none⟩ c).setCell ⟨g, 3, none⟩ d).setCell ⟨g, 4, none⟩ e).setCell ⟨g, 5, none⟩ f
theorem But.set6 {g q : Nat} {a w : World} (h : But g a w) (hq : a.heap.size ≤ q ∨ q = g) (x0 x1 x2 x3 x4 x5 : Value) : But g a (set6 w q x0 x1 x2 x3 x4 x5) := by
  rcases hq with hq | rfl
  · exact (((((h.setn (p := ⟨q, 0, none⟩) hq _).setn (p := ⟨q, 1, none⟩) hq _).setn (p := ⟨q, 2, none⟩) hq _).setn (p := ⟨q, 3, none⟩) hq _).setn (p := ⟨q, 4, none⟩) hq _).setn (p := ⟨q, 5, none⟩) hq _
  · exact (((((h.setg 0 _).setg 1 _).setg 2 _).setg 3 _).setg 4 _).setg 5 _
theorem Blk.far6 {w : World} {g q : Nat} {t : TypeId} {cs : Array Value} (h : Blk w g t cs) (hq : g ≠ q) (x0 x1 x2 x3 x4 x5 : Value) : Blk (set6 w q x0 x1 x2 x3 x4 x5) g t cs :=
  (((((h.far (p := ⟨q, 0, none⟩) hq _).far (p := ⟨q, 1, none⟩) hq _).far (p := ⟨q, 2, none⟩) hq _).far (p := ⟨q, 3, none⟩) hq _).far (p := ⟨q, 4, none⟩) hq _).far (p := ⟨q, 5, none⟩) hq _
theorem tape_set6 {w : World} {g : Nat} {k : Int} {nm : ByteArray} {ep fl sc : Int} {P : Value} {B : Option Addr} {n c : Nat} {z : Int} (h : Blk w g 64 (tapeC k nm ep fl sc P B n c z)) (k' : Int) (nm' : ByteArray) (ep' fl' sc' : Int) (P' : Value) :
    Blk (set6 w g (.int .i64 k') (.string nm') (.int .i64 ep') (.int .i64 fl') (.int .i64 sc') P') g 64 (tapeC k' nm' ep' fl' sc' P' B n c z) := (((((h.set_ 0 _).set_ 1 _).set_ 2 _).set_ 3 _).set_ 4 _).set_ 5 _
theorem own_far6 {w : World} {base n size q : Nat} {e : TypeId} {v : Value} {xs : List Value} (h : w.ownsRow base e size v n xs) (hq : q < base) (x0 x1 x2 x3 x4 x5 : Value) : (set6 w q x0 x1 x2 x3 x4 x5).ownsRow base e size v n xs :=
  own_far (own_far (own_far (own_far (own_far (own_far h (a := ⟨q, 0, none⟩) hq _) (a := ⟨q, 1, none⟩) hq _) (a := ⟨q, 2, none⟩) hq _) (a := ⟨q, 3, none⟩) hq _) (a := ⟨q, 4, none⟩) hq _) (a := ⟨q, 5, none⟩) hq _
theorem map_alloc {w : World} {r clock : Nat} {es : Array MapEntry} (h : w.heap[r]? = some (.map es clock)) (o : Obj) : (w.alloc o).heap[r]? = some (.map es clock) := (Below.heap_alloc w o r (map_lt h)).trans h
/-- a mutation out of the cell of a result -/
theorem ret_mu {fn : Func} {a : Act} {w1 : World} {p : Tmp} {g : Nat} {v0 v1 v2 v3 v4 v5 : Value} {Post : Ending → World → Prop} (hres : fn.results = #[.cell p 24]) (ht : a.tmps.getD p undef = .pointer (some ⟨g, 0, none⟩)) (hd : a.defers = []) (k : Blk w1 g 24 #[v0, v1, v2, v3, v4, v5]) (hP : Post (.returned (.agg #[v0, v1, v2, v3, v4, v5])) w1) : bodyPost Try.prog fn Post .ret a w1 := by
  obtain ⟨c0, c1, c2, c3, c4, c5, _⟩ := k.six
  rw [Array.getD_eq_getD_getElem?] at ht
  exact bodyPost_ret (v := .agg #[v0, v1, v2, v3, v4, v5]) (by simp [results, hres, go_sem, ht, c0, c1, c2, c3, c4, c5]) hd hP
section
variable {w : World} {g : Nat} {k : Int} {nm : ByteArray} {ep fl sc : Int} {P : Value} {B : Option Addr} {n c : Nat} {bs : List Nat}
set_option maxRecDepth 100000 in
set_option maxHeartbeats 2000000 in
theorem mutation_c {z : Nat} (kt : Blk w g 64 (tapeC k nm ep fl sc P B n c z)) (hs : Src w B n c bs) :
    Calls Try.prog 46 #[.pointer (some ⟨g, 0, none⟩)] w (RetMu (mutS bs z) B n c g w) := by
  have hl := hs.len
  have hg := kt.lt
  have kt0 := kt.alloc zMu
  have hs0 := hs.alloc zMu
  have kr0 := Blk.new w 24 zMuC
  have hb0 := (But.refl g w).alloc zMu
  by_cases hz : z < n
  case neg =>
    have e1 : mutS bs z = .error 6 := by unfold mutS; rw [if_neg (by omega)]
    rw [e1]
    show Calls _ _ _ w (RetX 6 g w)
    have HO := hid (one_no kt0 (by omega))
    have HB := hid hb0
    clear kt hs e1 kt0 hs0 kr0 hb0
    go_enter Try.func46, Try.ntmps46
    go_wp2_with fail
    refine HO.out.mono ?_
    rintro e w2 ⟨rfl, hb⟩
    exact ⟨rfl, rfl, HB.out.trans hb⟩
  have HO := hid (one_ok kt0 hs0 hz)
  have hm0 := getD_byte hs.hbs (show z < bs.length by omega)
  have HS := hid hs
  have HT := hid kt.typed
  have HG := hid hg
  have HKR0 := hid kr0
  have HB0 := hid hb0
  have HT0 := hid kt0.typed
  have HS0 := hid hs0
  obtain ⟨kd, hkd⟩ : ∃ kd, kd = bs.getD z 0 := ⟨_, rfl⟩
  rw [← hkd] at HO hm0
  have hmw : IntKind.i64.wrap (kd : Int) = kd := by rw [IntKind.wrap_i64]; omega
  obtain ⟨r, hr⟩ : ∃ r, r = mutS bs z := ⟨_, rfl⟩
  have hr1 : r = if 1 ≤ kd ∧ kd ≤ 4 then (match nameS bs (z + 1) with | .error x => .error x | .ok (nm, p) => bodyS bs kd nm p) else .error 7 := by
    rw [hr]; unfold mutS; rw [if_pos (by omega), ← hkd]
  rw [← hr]
  have HR := hid hr1
  clear kt hs kt0 hs0 kr0 hb0 hr hr1 hkd hz hg
  go_enter Try.func46, Try.ntmps46
  go_wp2_with fail
  refine HO.out.mono ?_
  rintro e w2 ⟨rfl, hb2, kt2⟩
  have hgr : w.heap.size ≠ g := by have := HG.out; omega
  have kr2 := HKR0.out.but hb2 hgr
  have hs2 := HS0.out.but hb2 HT0.out
  have KT2T := hid kt2.typed
  obtain ⟨c0, c1, c2, c3, c4, c5, f0, f1, f2, f3, f4, f5⟩ := kt2.tape5
  go_upto_region 2 with fail
  clear c0 c1 c2 c3 c4 c5 f0 f1 f2 f3 f4 f5
  have kt3 : Blk ((((((w2.setCell ⟨g, 0, none⟩ (.int .i64 (kd : Nat))).setCell ⟨g, 1, none⟩ (.string ⟨#[]⟩)).setCell ⟨g, 2, none⟩ (.int .i64 0)).setCell ⟨g, 3, none⟩ (.int .i64 0)).setCell ⟨g, 4, none⟩ (.int .i64 0)).setCell ⟨g, 5, none⟩ (.slice none 0 0)) g 64 (tapeC (kd : Nat) ⟨#[]⟩ 0 0 0 (.slice none 0 0) B n c ((z : Int) + 1)) := tape_set6 kt2 (kd : Nat) ⟨#[]⟩ 0 0 0 (.slice none 0 0)
  have hb23 : But g w2 ((((((w2.setCell ⟨g, 0, none⟩ (.int .i64 (kd : Nat))).setCell ⟨g, 1, none⟩ (.string ⟨#[]⟩)).setCell ⟨g, 2, none⟩ (.int .i64 0)).setCell ⟨g, 3, none⟩ (.int .i64 0)).setCell ⟨g, 4, none⟩ (.int .i64 0)).setCell ⟨g, 5, none⟩ (.slice none 0 0)) := (But.refl g w2).set6 (.inr rfl) (.int .i64 (kd : Nat)) (.string ⟨#[]⟩) (.int .i64 0) (.int .i64 0) (.int .i64 0) (.slice none 0 0)
  have kr3 := kr2.but hb23 hgr
  have hb3 := (HB0.out.trans hb2).trans hb23
  clear kt2 kr2 hs2 hb2 hb23 HO
  generalize (((((w2.setCell ⟨g, 0, none⟩ (.int .i64 (kd : Nat))).setCell ⟨g, 1, none⟩ (.string ⟨#[]⟩)).setCell ⟨g, 2, none⟩ (.int .i64 0)).setCell ⟨g, 3, none⟩ (.int .i64 0)).setCell ⟨g, 4, none⟩ (.int .i64 0)).setCell ⟨g, 5, none⟩ (.slice none 0 0) = w3 at *
  have hsn : ∀ (w : World) (a : Addr) (m : Mode), (store a .nilFunc m).run Try.prog w = stored Try.prog w a .nilFunc m := fun w a m => run_store Try.prog w a _ m rfl
  have hsf : ∀ (w : World) (a : Addr) (m : Mode) (f : Nat), (store a (.func (.func f) #[] #[]) m).run Try.prog w = stored Try.prog w a (.func (.func f) #[] #[]) m := fun w a m f => run_store Try.prog w a _ m rfl
  by_cases hk : 1 ≤ kd ∧ kd ≤ 4
  case neg =>
    have HLK := hid (look_no hk)
    have HR2 := hid (show r = .error 7 by rw [HR.out, if_neg hk])
    clear hk
    go_cut [3, 4] (fun u3 u4 wx => ∃ (gk : Nat), u3 = .pointer (some ⟨gk, 0, none⟩) ∧ u4 = .bool false ∧ Blk wx gk 67 #[.nilFunc, .nilFunc] ∧ Blk wx g 64 (tapeC (kd : Nat) ⟨#[]⟩ 0 0 0 (.slice none 0 0) B n c ((z : Int) + 1)) ∧ Blk wx w.heap.size 24 zMuC ∧ But g w wx ∧ w.heap.size < gk)
    case first =>
      refine wp_region_held_drew (S := fun _ => True) (by kernel_rfl) trivial (fun hHeld => ?_)
      clear hHeld
      have hTr : True := trivial
      have kt3 := kt3.drew
      have kr3 := kr3.drew
      have hb3 := hb3.drew
      generalize w3.drew = wd at *
      refine wpAnyH_take (i := 1) (v := ?_) rfl (by kernel_rfl) (by kernel_rfl) (by kernel_rfl) (fun _ _ _ h => h) (Or.inl ⟨by rfl, ?_⟩) (by assumption) ?_
      rotate_left
      · intro W hW
        go_simp
        try rfl
      simp only [List.getElem_toArray, List.getElem_cons_succ, List.getElem_cons_zero, Act.put, List.setIfInBounds_toArray, List.set_cons_zero, List.set_cons_succ]
      refine wpAnyH_take (i := 2) (v := ?_) rfl (by kernel_rfl) (by kernel_rfl) (by kernel_rfl) (fun _ _ _ h => h) (Or.inl ⟨by rfl, ?_⟩) (by assumption) ?_
      rotate_left
      · intro W hW
        go_simp
        try rfl
      simp only [List.getElem_toArray, List.getElem_cons_succ, List.getElem_cons_zero, Act.put, List.setIfInBounds_toArray, List.set_cons_zero, List.set_cons_succ]
      refine wpAnyH_take (i := 3) (v := ?_) rfl (by kernel_rfl) (by kernel_rfl) (by kernel_rfl) (fun _ _ _ h => h) (Or.inl ⟨by rfl, ?_⟩) (by assumption) ?_
      rotate_left
      · intro W hW
        go_simp
        try rfl
      simp only [List.getElem_toArray, List.getElem_cons_succ, List.getElem_cons_zero, Act.put, List.setIfInBounds_toArray, List.set_cons_zero, List.set_cons_succ]
      refine wpAnyH_take (i := 4) (v := ?_) rfl (by kernel_rfl) (by kernel_rfl) (by kernel_rfl) (fun _ _ _ h => h) (Or.inl ⟨by rfl, ?_⟩) (by assumption) ?_
      rotate_left
      · intro W hW
        go_simp
        try rfl
      simp only [List.getElem_toArray, List.getElem_cons_succ, List.getElem_cons_zero, Act.put, List.setIfInBounds_toArray, List.set_cons_zero, List.set_cons_succ]
      refine wpAnyH_ready (rs := [0, 5, 10]) (by kernel_rfl) (by simp) ?_
      refine AllReadyH.cons rfl (fun K hK => ?_) (AllReadyH.cons rfl (fun K hK => ?_) (AllReadyH.cons rfl (fun K hK => ?_) AllReadyH.nil))
      · go_simp
        refine (kinds_c _).mono ?_
        rintro e wn1 ⟨rfl, hmap, hbk⟩
        have kt3 := kt3.under hbk
        have kr3 := kr3.under hbk
        have hb3 := hb3.step hbk
        generalize wd.heap.size = gm at *
        clear hbk
        refine hK.out _ _ trivial (fun hHeld => ?_)
        clear hK K hHeld
        try simp only [List.getElem_toArray, List.getElem_cons_succ, List.getElem_cons_zero, Act.put, List.setIfInBounds_toArray, List.set_cons_zero, List.set_cons_succ]
        refine wpAnyH_ready (rs := [5, 10]) (by kernel_rfl) (by simp) ?_
        refine AllReadyH.cons rfl (fun K hK => ?_) (AllReadyH.cons rfl (fun K hK => ?_) AllReadyH.nil)
        · obtain ⟨x0, x1, x2, x3, x4, x5, f0, f1, f2, f3, f4, f5⟩ := kt3.tape5
          go_simp
          clear x0 x1 x2 x3 x4 x5 f0 f1 f2 f3 f4 f5
          refine hK.out _ _ trivial (fun hHeld => ?_)
          clear hK K hHeld
          try simp only [List.getElem_toArray, List.getElem_cons_succ, List.getElem_cons_zero, Act.put, List.setIfInBounds_toArray, List.set_cons_zero, List.set_cons_succ]
          refine wpAnyH_ready (rs := [6, 10]) (by kernel_rfl) (by simp) ?_
          refine AllReadyH.cons rfl (fun K hK => ?_) (AllReadyH.cons rfl (fun K hK => ?_) AllReadyH.nil)
          · have hlk := HLK.out wn1 gm hmap
            go_simp
            clear hlk
            refine hK.out _ _ trivial (fun hHeld => ?_)
            clear hK K hHeld
            try simp only [List.getElem_toArray, List.getElem_cons_succ, List.getElem_cons_zero, Act.put, List.setIfInBounds_toArray, List.set_cons_zero, List.set_cons_succ]
            refine wpAnyH_take (i := 7) (v := ?_) rfl (by kernel_rfl) (by kernel_rfl) (by kernel_rfl) (fun _ _ _ h => h) (Or.inl ⟨by rfl, ?_⟩) (by assumption) ?_
            rotate_left
            · intro W hW
              go_simp
              try rfl
            simp only [List.getElem_toArray, List.getElem_cons_succ, List.getElem_cons_zero, Act.put, List.setIfInBounds_toArray, List.set_cons_zero, List.set_cons_succ]
            refine wpAnyH_take (i := 8) (v := ?_) rfl (by kernel_rfl) (by kernel_rfl) (by kernel_rfl) (fun _ _ _ h => h) (Or.inl ⟨by rfl, ?_⟩) (by assumption) ?_
            rotate_left
            · intro W hW
              go_simp
              try rfl
            simp only [List.getElem_toArray, List.getElem_cons_succ, List.getElem_cons_zero, Act.put, List.setIfInBounds_toArray, List.set_cons_zero, List.set_cons_succ]
            refine wpAnyH_take (i := 9) (v := ?_) rfl (by kernel_rfl) (by kernel_rfl) (by kernel_rfl) (fun _ _ _ h => h) (Or.inl ⟨by rfl, ?_⟩) (by assumption) ?_
            rotate_left
            · intro W hW
              go_simp
              try rfl
            simp only [List.getElem_toArray, List.getElem_cons_succ, List.getElem_cons_zero, Act.put, List.setIfInBounds_toArray, List.set_cons_zero, List.set_cons_succ]
            refine wpAnyH_ready (rs := [10]) (by kernel_rfl) (by simp) ?_
            refine AllReadyH.cons rfl (fun K hK => ?_) AllReadyH.nil
            go_simp
            have kk := Blk.new wn1 67 #[.nilFunc, .nilFunc]
            have hgk : w.heap.size < wn1.heap.size := kr3.lt
            have kt3 := kt3.alloc (.cells #[.nilFunc, .nilFunc] 67)
            have kr3 := kr3.alloc (.cells #[.nilFunc, .nilFunc] 67)
            have hb3 := hb3.alloc (.cells #[.nilFunc, .nilFunc] 67)
            have hmap := map_alloc hmap (.cells #[.nilFunc, .nilFunc] 67)
            generalize wn1.alloc (.cells #[.nilFunc, .nilFunc] 67) = wn4 at *
            generalize wn1.heap.size = gk at *
            refine hK.out _ _ trivial (fun hHeld => ?_)
            clear hK K hHeld
            try simp only [List.getElem_toArray, List.getElem_cons_succ, List.getElem_cons_zero, Act.put, List.setIfInBounds_toArray, List.set_cons_zero, List.set_cons_succ]
            refine wpAnyH_ready (rs := [11]) (by kernel_rfl) (by simp) ?_
            refine AllReadyH.cons rfl (fun K hK => ?_) AllReadyH.nil
            obtain ⟨y0, y1, y2, y3, y4⟩ := kk.two
            go_simp
            clear y0 y1 y2 y3 y4
            refine hK.out _ _ trivial (fun hHeld => ?_)
            clear hK K hHeld
            try simp only [List.getElem_toArray, List.getElem_cons_succ, List.getElem_cons_zero, Act.put, List.setIfInBounds_toArray, List.set_cons_zero, List.set_cons_succ]
            refine wpAnyH_take (i := 12) (v := ?_) rfl (by kernel_rfl) (by kernel_rfl) (by kernel_rfl) (fun _ _ _ h => h) (Or.inl ⟨by rfl, ?_⟩) (by assumption) ?_
            rotate_left
            · intro W hW
              go_simp
              try rfl
            simp only [List.getElem_toArray, List.getElem_cons_succ, List.getElem_cons_zero, Act.put, List.setIfInBounds_toArray, List.set_cons_zero, List.set_cons_succ]
            refine wpAnyH_done (by kernel_rfl) ?_ _
            have hgg : gk ≠ g := by have := HG.out; omega
            go_wp2_with fail
            go_meet
            exact ⟨gk, rfl, rfl, kk.set2 _ _, (kt3.far (p := ⟨gk, 0, none⟩) hgg.symm _).far (p := ⟨gk, 1, none⟩) hgg.symm _, (kr3.far (p := ⟨gk, 0, none⟩) (by simp; omega) _).far (p := ⟨gk, 1, none⟩) (by simp; omega) _, (hb3.setn (p := ⟨gk, 0, none⟩) (by simp; omega) _).setn (p := ⟨gk, 1, none⟩) (by simp; omega) _, hgk⟩
          · go_simp
            have kk := Blk.new wn1 67 #[.nilFunc, .nilFunc]
            have hgk : w.heap.size < wn1.heap.size := kr3.lt
            have kt3 := kt3.alloc (.cells #[.nilFunc, .nilFunc] 67)
            have kr3 := kr3.alloc (.cells #[.nilFunc, .nilFunc] 67)
            have hb3 := hb3.alloc (.cells #[.nilFunc, .nilFunc] 67)
            have hmap := map_alloc hmap (.cells #[.nilFunc, .nilFunc] 67)
            generalize wn1.alloc (.cells #[.nilFunc, .nilFunc] 67) = wn6 at *
            generalize wn1.heap.size = gk at *
            refine hK.out _ _ trivial (fun hHeld => ?_)
            clear hK K hHeld
            try simp only [List.getElem_toArray, List.getElem_cons_succ, List.getElem_cons_zero, Act.put, List.setIfInBounds_toArray, List.set_cons_zero, List.set_cons_succ]
            refine wpAnyH_ready (rs := [6]) (by kernel_rfl) (by simp) ?_
            refine AllReadyH.cons rfl (fun K hK => ?_) AllReadyH.nil
            have hlk := HLK.out wn6 gm hmap
            go_simp
            clear hlk
            refine hK.out _ _ trivial (fun hHeld => ?_)
            clear hK K hHeld
            try simp only [List.getElem_toArray, List.getElem_cons_succ, List.getElem_cons_zero, Act.put, List.setIfInBounds_toArray, List.set_cons_zero, List.set_cons_succ]
            refine wpAnyH_take (i := 7) (v := ?_) rfl (by kernel_rfl) (by kernel_rfl) (by kernel_rfl) (fun _ _ _ h => h) (Or.inl ⟨by rfl, ?_⟩) (by assumption) ?_
            rotate_left
            · intro W hW
              go_simp
              try rfl
            simp only [List.getElem_toArray, List.getElem_cons_succ, List.getElem_cons_zero, Act.put, List.setIfInBounds_toArray, List.set_cons_zero, List.set_cons_succ]
            refine wpAnyH_take (i := 8) (v := ?_) rfl (by kernel_rfl) (by kernel_rfl) (by kernel_rfl) (fun _ _ _ h => h) (Or.inl ⟨by rfl, ?_⟩) (by assumption) ?_
            rotate_left
            · intro W hW
              go_simp
              try rfl
            simp only [List.getElem_toArray, List.getElem_cons_succ, List.getElem_cons_zero, Act.put, List.setIfInBounds_toArray, List.set_cons_zero, List.set_cons_succ]
            refine wpAnyH_take (i := 9) (v := ?_) rfl (by kernel_rfl) (by kernel_rfl) (by kernel_rfl) (fun _ _ _ h => h) (Or.inl ⟨by rfl, ?_⟩) (by assumption) ?_
            rotate_left
            · intro W hW
              go_simp
              try rfl
            simp only [List.getElem_toArray, List.getElem_cons_succ, List.getElem_cons_zero, Act.put, List.setIfInBounds_toArray, List.set_cons_zero, List.set_cons_succ]
            refine wpAnyH_ready (rs := [11]) (by kernel_rfl) (by simp) ?_
            refine AllReadyH.cons rfl (fun K hK => ?_) AllReadyH.nil
            obtain ⟨y0, y1, y2, y3, y4⟩ := kk.two
            go_simp
            clear y0 y1 y2 y3 y4
            refine hK.out _ _ trivial (fun hHeld => ?_)
            clear hK K hHeld
            try simp only [List.getElem_toArray, List.getElem_cons_succ, List.getElem_cons_zero, Act.put, List.setIfInBounds_toArray, List.set_cons_zero, List.set_cons_succ]
            refine wpAnyH_take (i := 12) (v := ?_) rfl (by kernel_rfl) (by kernel_rfl) (by kernel_rfl) (fun _ _ _ h => h) (Or.inl ⟨by rfl, ?_⟩) (by assumption) ?_
            rotate_left
            · intro W hW
              go_simp
              try rfl
            simp only [List.getElem_toArray, List.getElem_cons_succ, List.getElem_cons_zero, Act.put, List.setIfInBounds_toArray, List.set_cons_zero, List.set_cons_succ]
            refine wpAnyH_done (by kernel_rfl) ?_ _
            have hgg : gk ≠ g := by have := HG.out; omega
            go_wp2_with fail
            go_meet
            exact ⟨gk, rfl, rfl, kk.set2 _ _, (kt3.far (p := ⟨gk, 0, none⟩) hgg.symm _).far (p := ⟨gk, 1, none⟩) hgg.symm _, (kr3.far (p := ⟨gk, 0, none⟩) (by simp; omega) _).far (p := ⟨gk, 1, none⟩) (by simp; omega) _, (hb3.setn (p := ⟨gk, 0, none⟩) (by simp; omega) _).setn (p := ⟨gk, 1, none⟩) (by simp; omega) _, hgk⟩
        · go_simp
          have kk := Blk.new wn1 67 #[.nilFunc, .nilFunc]
          have hgk : w.heap.size < wn1.heap.size := kr3.lt
          have kt3 := kt3.alloc (.cells #[.nilFunc, .nilFunc] 67)
          have kr3 := kr3.alloc (.cells #[.nilFunc, .nilFunc] 67)
          have hb3 := hb3.alloc (.cells #[.nilFunc, .nilFunc] 67)
          have hmap := map_alloc hmap (.cells #[.nilFunc, .nilFunc] 67)
          generalize wn1.alloc (.cells #[.nilFunc, .nilFunc] 67) = wn9 at *
          generalize wn1.heap.size = gk at *
          refine hK.out _ _ trivial (fun hHeld => ?_)
          clear hK K hHeld
          try simp only [List.getElem_toArray, List.getElem_cons_succ, List.getElem_cons_zero, Act.put, List.setIfInBounds_toArray, List.set_cons_zero, List.set_cons_succ]
          refine wpAnyH_ready (rs := [5]) (by kernel_rfl) (by simp) ?_
          refine AllReadyH.cons rfl (fun K hK => ?_) AllReadyH.nil
          obtain ⟨x0, x1, x2, x3, x4, x5, f0, f1, f2, f3, f4, f5⟩ := kt3.tape5
          go_simp
          clear x0 x1 x2 x3 x4 x5 f0 f1 f2 f3 f4 f5
          refine hK.out _ _ trivial (fun hHeld => ?_)
          clear hK K hHeld
          try simp only [List.getElem_toArray, List.getElem_cons_succ, List.getElem_cons_zero, Act.put, List.setIfInBounds_toArray, List.set_cons_zero, List.set_cons_succ]
          refine wpAnyH_ready (rs := [6]) (by kernel_rfl) (by simp) ?_
          refine AllReadyH.cons rfl (fun K hK => ?_) AllReadyH.nil
          have hlk := HLK.out wn9 gm hmap
          go_simp
          clear hlk
          refine hK.out _ _ trivial (fun hHeld => ?_)
          clear hK K hHeld
          try simp only [List.getElem_toArray, List.getElem_cons_succ, List.getElem_cons_zero, Act.put, List.setIfInBounds_toArray, List.set_cons_zero, List.set_cons_succ]
          refine wpAnyH_take (i := 7) (v := ?_) rfl (by kernel_rfl) (by kernel_rfl) (by kernel_rfl) (fun _ _ _ h => h) (Or.inl ⟨by rfl, ?_⟩) (by assumption) ?_
          rotate_left
          · intro W hW
            go_simp
            try rfl
          simp only [List.getElem_toArray, List.getElem_cons_succ, List.getElem_cons_zero, Act.put, List.setIfInBounds_toArray, List.set_cons_zero, List.set_cons_succ]
          refine wpAnyH_take (i := 8) (v := ?_) rfl (by kernel_rfl) (by kernel_rfl) (by kernel_rfl) (fun _ _ _ h => h) (Or.inl ⟨by rfl, ?_⟩) (by assumption) ?_
          rotate_left
          · intro W hW
            go_simp
            try rfl
          simp only [List.getElem_toArray, List.getElem_cons_succ, List.getElem_cons_zero, Act.put, List.setIfInBounds_toArray, List.set_cons_zero, List.set_cons_succ]
          refine wpAnyH_take (i := 9) (v := ?_) rfl (by kernel_rfl) (by kernel_rfl) (by kernel_rfl) (fun _ _ _ h => h) (Or.inl ⟨by rfl, ?_⟩) (by assumption) ?_
          rotate_left
          · intro W hW
            go_simp
            try rfl
          simp only [List.getElem_toArray, List.getElem_cons_succ, List.getElem_cons_zero, Act.put, List.setIfInBounds_toArray, List.set_cons_zero, List.set_cons_succ]
          refine wpAnyH_ready (rs := [11]) (by kernel_rfl) (by simp) ?_
          refine AllReadyH.cons rfl (fun K hK => ?_) AllReadyH.nil
          obtain ⟨y0, y1, y2, y3, y4⟩ := kk.two
          go_simp
          clear y0 y1 y2 y3 y4
          refine hK.out _ _ trivial (fun hHeld => ?_)
          clear hK K hHeld
          try simp only [List.getElem_toArray, List.getElem_cons_succ, List.getElem_cons_zero, Act.put, List.setIfInBounds_toArray, List.set_cons_zero, List.set_cons_succ]
          refine wpAnyH_take (i := 12) (v := ?_) rfl (by kernel_rfl) (by kernel_rfl) (by kernel_rfl) (fun _ _ _ h => h) (Or.inl ⟨by rfl, ?_⟩) (by assumption) ?_
          rotate_left
          · intro W hW
            go_simp
            try rfl
          simp only [List.getElem_toArray, List.getElem_cons_succ, List.getElem_cons_zero, Act.put, List.setIfInBounds_toArray, List.set_cons_zero, List.set_cons_succ]
          refine wpAnyH_done (by kernel_rfl) ?_ _
          have hgg : gk ≠ g := by have := HG.out; omega
          go_wp2_with fail
          go_meet
          exact ⟨gk, rfl, rfl, kk.set2 _ _, (kt3.far (p := ⟨gk, 0, none⟩) hgg.symm _).far (p := ⟨gk, 1, none⟩) hgg.symm _, (kr3.far (p := ⟨gk, 0, none⟩) (by simp; omega) _).far (p := ⟨gk, 1, none⟩) (by simp; omega) _, (hb3.setn (p := ⟨gk, 0, none⟩) (by simp; omega) _).setn (p := ⟨gk, 1, none⟩) (by simp; omega) _, hgk⟩
      · obtain ⟨x0, x1, x2, x3, x4, x5, f0, f1, f2, f3, f4, f5⟩ := kt3.tape5
        go_simp
        clear x0 x1 x2 x3 x4 x5 f0 f1 f2 f3 f4 f5
        refine hK.out _ _ trivial (fun hHeld => ?_)
        clear hK K hHeld
        try simp only [List.getElem_toArray, List.getElem_cons_succ, List.getElem_cons_zero, Act.put, List.setIfInBounds_toArray, List.set_cons_zero, List.set_cons_succ]
        refine wpAnyH_ready (rs := [0, 10]) (by kernel_rfl) (by simp) ?_
        refine AllReadyH.cons rfl (fun K hK => ?_) (AllReadyH.cons rfl (fun K hK => ?_) AllReadyH.nil)
        · go_simp
          refine (kinds_c _).mono ?_
          rintro e wn14 ⟨rfl, hmap, hbk⟩
          have kt3 := kt3.under hbk
          have kr3 := kr3.under hbk
          have hb3 := hb3.step hbk
          generalize wd.heap.size = gm at *
          clear hbk
          refine hK.out _ _ trivial (fun hHeld => ?_)
          clear hK K hHeld
          try simp only [List.getElem_toArray, List.getElem_cons_succ, List.getElem_cons_zero, Act.put, List.setIfInBounds_toArray, List.set_cons_zero, List.set_cons_succ]
          refine wpAnyH_ready (rs := [6, 10]) (by kernel_rfl) (by simp) ?_
          refine AllReadyH.cons rfl (fun K hK => ?_) (AllReadyH.cons rfl (fun K hK => ?_) AllReadyH.nil)
          · have hlk := HLK.out wn14 gm hmap
            go_simp
            clear hlk
            refine hK.out _ _ trivial (fun hHeld => ?_)
            clear hK K hHeld
            try simp only [List.getElem_toArray, List.getElem_cons_succ, List.getElem_cons_zero, Act.put, List.setIfInBounds_toArray, List.set_cons_zero, List.set_cons_succ]
            refine wpAnyH_take (i := 7) (v := ?_) rfl (by kernel_rfl) (by kernel_rfl) (by kernel_rfl) (fun _ _ _ h => h) (Or.inl ⟨by rfl, ?_⟩) (by assumption) ?_
            rotate_left
            · intro W hW
              go_simp
              try rfl
            simp only [List.getElem_toArray, List.getElem_cons_succ, List.getElem_cons_zero, Act.put, List.setIfInBounds_toArray, List.set_cons_zero, List.set_cons_succ]
            refine wpAnyH_take (i := 8) (v := ?_) rfl (by kernel_rfl) (by kernel_rfl) (by kernel_rfl) (fun _ _ _ h => h) (Or.inl ⟨by rfl, ?_⟩) (by assumption) ?_
            rotate_left
            · intro W hW
              go_simp
              try rfl
            simp only [List.getElem_toArray, List.getElem_cons_succ, List.getElem_cons_zero, Act.put, List.setIfInBounds_toArray, List.set_cons_zero, List.set_cons_succ]
            refine wpAnyH_take (i := 9) (v := ?_) rfl (by kernel_rfl) (by kernel_rfl) (by kernel_rfl) (fun _ _ _ h => h) (Or.inl ⟨by rfl, ?_⟩) (by assumption) ?_
            rotate_left
            · intro W hW
              go_simp
              try rfl
            simp only [List.getElem_toArray, List.getElem_cons_succ, List.getElem_cons_zero, Act.put, List.setIfInBounds_toArray, List.set_cons_zero, List.set_cons_succ]
            refine wpAnyH_ready (rs := [10]) (by kernel_rfl) (by simp) ?_
            refine AllReadyH.cons rfl (fun K hK => ?_) AllReadyH.nil
            go_simp
            have kk := Blk.new wn14 67 #[.nilFunc, .nilFunc]
            have hgk : w.heap.size < wn14.heap.size := kr3.lt
            have kt3 := kt3.alloc (.cells #[.nilFunc, .nilFunc] 67)
            have kr3 := kr3.alloc (.cells #[.nilFunc, .nilFunc] 67)
            have hb3 := hb3.alloc (.cells #[.nilFunc, .nilFunc] 67)
            have hmap := map_alloc hmap (.cells #[.nilFunc, .nilFunc] 67)
            generalize wn14.alloc (.cells #[.nilFunc, .nilFunc] 67) = wn16 at *
            generalize wn14.heap.size = gk at *
            refine hK.out _ _ trivial (fun hHeld => ?_)
            clear hK K hHeld
            try simp only [List.getElem_toArray, List.getElem_cons_succ, List.getElem_cons_zero, Act.put, List.setIfInBounds_toArray, List.set_cons_zero, List.set_cons_succ]
            refine wpAnyH_ready (rs := [11]) (by kernel_rfl) (by simp) ?_
            refine AllReadyH.cons rfl (fun K hK => ?_) AllReadyH.nil
            obtain ⟨y0, y1, y2, y3, y4⟩ := kk.two
            go_simp
            clear y0 y1 y2 y3 y4
            refine hK.out _ _ trivial (fun hHeld => ?_)
            clear hK K hHeld
            try simp only [List.getElem_toArray, List.getElem_cons_succ, List.getElem_cons_zero, Act.put, List.setIfInBounds_toArray, List.set_cons_zero, List.set_cons_succ]
            refine wpAnyH_take (i := 12) (v := ?_) rfl (by kernel_rfl) (by kernel_rfl) (by kernel_rfl) (fun _ _ _ h => h) (Or.inl ⟨by rfl, ?_⟩) (by assumption) ?_
            rotate_left
            · intro W hW
              go_simp
              try rfl
            simp only [List.getElem_toArray, List.getElem_cons_succ, List.getElem_cons_zero, Act.put, List.setIfInBounds_toArray, List.set_cons_zero, List.set_cons_succ]
            refine wpAnyH_done (by kernel_rfl) ?_ _
            have hgg : gk ≠ g := by have := HG.out; omega
            go_wp2_with fail
            go_meet
            exact ⟨gk, rfl, rfl, kk.set2 _ _, (kt3.far (p := ⟨gk, 0, none⟩) hgg.symm _).far (p := ⟨gk, 1, none⟩) hgg.symm _, (kr3.far (p := ⟨gk, 0, none⟩) (by simp; omega) _).far (p := ⟨gk, 1, none⟩) (by simp; omega) _, (hb3.setn (p := ⟨gk, 0, none⟩) (by simp; omega) _).setn (p := ⟨gk, 1, none⟩) (by simp; omega) _, hgk⟩
          · go_simp
            have kk := Blk.new wn14 67 #[.nilFunc, .nilFunc]
            have hgk : w.heap.size < wn14.heap.size := kr3.lt
            have kt3 := kt3.alloc (.cells #[.nilFunc, .nilFunc] 67)
            have kr3 := kr3.alloc (.cells #[.nilFunc, .nilFunc] 67)
            have hb3 := hb3.alloc (.cells #[.nilFunc, .nilFunc] 67)
            have hmap := map_alloc hmap (.cells #[.nilFunc, .nilFunc] 67)
            generalize wn14.alloc (.cells #[.nilFunc, .nilFunc] 67) = wn18 at *
            generalize wn14.heap.size = gk at *
            refine hK.out _ _ trivial (fun hHeld => ?_)
            clear hK K hHeld
            try simp only [List.getElem_toArray, List.getElem_cons_succ, List.getElem_cons_zero, Act.put, List.setIfInBounds_toArray, List.set_cons_zero, List.set_cons_succ]
            refine wpAnyH_ready (rs := [6]) (by kernel_rfl) (by simp) ?_
            refine AllReadyH.cons rfl (fun K hK => ?_) AllReadyH.nil
            have hlk := HLK.out wn18 gm hmap
            go_simp
            clear hlk
            refine hK.out _ _ trivial (fun hHeld => ?_)
            clear hK K hHeld
            try simp only [List.getElem_toArray, List.getElem_cons_succ, List.getElem_cons_zero, Act.put, List.setIfInBounds_toArray, List.set_cons_zero, List.set_cons_succ]
            refine wpAnyH_take (i := 7) (v := ?_) rfl (by kernel_rfl) (by kernel_rfl) (by kernel_rfl) (fun _ _ _ h => h) (Or.inl ⟨by rfl, ?_⟩) (by assumption) ?_
            rotate_left
            · intro W hW
              go_simp
              try rfl
            simp only [List.getElem_toArray, List.getElem_cons_succ, List.getElem_cons_zero, Act.put, List.setIfInBounds_toArray, List.set_cons_zero, List.set_cons_succ]
            refine wpAnyH_take (i := 8) (v := ?_) rfl (by kernel_rfl) (by kernel_rfl) (by kernel_rfl) (fun _ _ _ h => h) (Or.inl ⟨by rfl, ?_⟩) (by assumption) ?_
            rotate_left
            · intro W hW
              go_simp
              try rfl
            simp only [List.getElem_toArray, List.getElem_cons_succ, List.getElem_cons_zero, Act.put, List.setIfInBounds_toArray, List.set_cons_zero, List.set_cons_succ]
            refine wpAnyH_take (i := 9) (v := ?_) rfl (by kernel_rfl) (by kernel_rfl) (by kernel_rfl) (fun _ _ _ h => h) (Or.inl ⟨by rfl, ?_⟩) (by assumption) ?_
            rotate_left
            · intro W hW
              go_simp
              try rfl
            simp only [List.getElem_toArray, List.getElem_cons_succ, List.getElem_cons_zero, Act.put, List.setIfInBounds_toArray, List.set_cons_zero, List.set_cons_succ]
            refine wpAnyH_ready (rs := [11]) (by kernel_rfl) (by simp) ?_
            refine AllReadyH.cons rfl (fun K hK => ?_) AllReadyH.nil
            obtain ⟨y0, y1, y2, y3, y4⟩ := kk.two
            go_simp
            clear y0 y1 y2 y3 y4
            refine hK.out _ _ trivial (fun hHeld => ?_)
            clear hK K hHeld
            try simp only [List.getElem_toArray, List.getElem_cons_succ, List.getElem_cons_zero, Act.put, List.setIfInBounds_toArray, List.set_cons_zero, List.set_cons_succ]
            refine wpAnyH_take (i := 12) (v := ?_) rfl (by kernel_rfl) (by kernel_rfl) (by kernel_rfl) (fun _ _ _ h => h) (Or.inl ⟨by rfl, ?_⟩) (by assumption) ?_
            rotate_left
            · intro W hW
              go_simp
              try rfl
            simp only [List.getElem_toArray, List.getElem_cons_succ, List.getElem_cons_zero, Act.put, List.setIfInBounds_toArray, List.set_cons_zero, List.set_cons_succ]
            refine wpAnyH_done (by kernel_rfl) ?_ _
            have hgg : gk ≠ g := by have := HG.out; omega
            go_wp2_with fail
            go_meet
            exact ⟨gk, rfl, rfl, kk.set2 _ _, (kt3.far (p := ⟨gk, 0, none⟩) hgg.symm _).far (p := ⟨gk, 1, none⟩) hgg.symm _, (kr3.far (p := ⟨gk, 0, none⟩) (by simp; omega) _).far (p := ⟨gk, 1, none⟩) (by simp; omega) _, (hb3.setn (p := ⟨gk, 0, none⟩) (by simp; omega) _).setn (p := ⟨gk, 1, none⟩) (by simp; omega) _, hgk⟩
        · go_simp
          have kk := Blk.new wd 67 #[.nilFunc, .nilFunc]
          have hgk : w.heap.size < wd.heap.size := kr3.lt
          have kt3 := kt3.alloc (.cells #[.nilFunc, .nilFunc] 67)
          have kr3 := kr3.alloc (.cells #[.nilFunc, .nilFunc] 67)
          have hb3 := hb3.alloc (.cells #[.nilFunc, .nilFunc] 67)
          generalize wd.alloc (.cells #[.nilFunc, .nilFunc] 67) = wn21 at *
          generalize wd.heap.size = gk at *
          refine hK.out _ _ trivial (fun hHeld => ?_)
          clear hK K hHeld
          try simp only [List.getElem_toArray, List.getElem_cons_succ, List.getElem_cons_zero, Act.put, List.setIfInBounds_toArray, List.set_cons_zero, List.set_cons_succ]
          refine wpAnyH_ready (rs := [0]) (by kernel_rfl) (by simp) ?_
          refine AllReadyH.cons rfl (fun K hK => ?_) AllReadyH.nil
          go_simp
          refine (kinds_c _).mono ?_
          rintro e wn22 ⟨rfl, hmap, hbk⟩
          have kt3 := kt3.under hbk
          have kr3 := kr3.under hbk
          have hb3 := hb3.step hbk
          have kk := kk.under hbk
          generalize wn21.heap.size = gm at *
          clear hbk
          refine hK.out _ _ trivial (fun hHeld => ?_)
          clear hK K hHeld
          try simp only [List.getElem_toArray, List.getElem_cons_succ, List.getElem_cons_zero, Act.put, List.setIfInBounds_toArray, List.set_cons_zero, List.set_cons_succ]
          refine wpAnyH_ready (rs := [6]) (by kernel_rfl) (by simp) ?_
          refine AllReadyH.cons rfl (fun K hK => ?_) AllReadyH.nil
          have hlk := HLK.out wn22 gm hmap
          go_simp
          clear hlk
          refine hK.out _ _ trivial (fun hHeld => ?_)
          clear hK K hHeld
          try simp only [List.getElem_toArray, List.getElem_cons_succ, List.getElem_cons_zero, Act.put, List.setIfInBounds_toArray, List.set_cons_zero, List.set_cons_succ]
          refine wpAnyH_take (i := 7) (v := ?_) rfl (by kernel_rfl) (by kernel_rfl) (by kernel_rfl) (fun _ _ _ h => h) (Or.inl ⟨by rfl, ?_⟩) (by assumption) ?_
          rotate_left
          · intro W hW
            go_simp
            try rfl
          simp only [List.getElem_toArray, List.getElem_cons_succ, List.getElem_cons_zero, Act.put, List.setIfInBounds_toArray, List.set_cons_zero, List.set_cons_succ]
          refine wpAnyH_take (i := 8) (v := ?_) rfl (by kernel_rfl) (by kernel_rfl) (by kernel_rfl) (fun _ _ _ h => h) (Or.inl ⟨by rfl, ?_⟩) (by assumption) ?_
          rotate_left
          · intro W hW
            go_simp
            try rfl
          simp only [List.getElem_toArray, List.getElem_cons_succ, List.getElem_cons_zero, Act.put, List.setIfInBounds_toArray, List.set_cons_zero, List.set_cons_succ]
          refine wpAnyH_take (i := 9) (v := ?_) rfl (by kernel_rfl) (by kernel_rfl) (by kernel_rfl) (fun _ _ _ h => h) (Or.inl ⟨by rfl, ?_⟩) (by assumption) ?_
          rotate_left
          · intro W hW
            go_simp
            try rfl
          simp only [List.getElem_toArray, List.getElem_cons_succ, List.getElem_cons_zero, Act.put, List.setIfInBounds_toArray, List.set_cons_zero, List.set_cons_succ]
          refine wpAnyH_ready (rs := [11]) (by kernel_rfl) (by simp) ?_
          refine AllReadyH.cons rfl (fun K hK => ?_) AllReadyH.nil
          obtain ⟨y0, y1, y2, y3, y4⟩ := kk.two
          go_simp
          clear y0 y1 y2 y3 y4
          refine hK.out _ _ trivial (fun hHeld => ?_)
          clear hK K hHeld
          try simp only [List.getElem_toArray, List.getElem_cons_succ, List.getElem_cons_zero, Act.put, List.setIfInBounds_toArray, List.set_cons_zero, List.set_cons_succ]
          refine wpAnyH_take (i := 12) (v := ?_) rfl (by kernel_rfl) (by kernel_rfl) (by kernel_rfl) (fun _ _ _ h => h) (Or.inl ⟨by rfl, ?_⟩) (by assumption) ?_
          rotate_left
          · intro W hW
            go_simp
            try rfl
          simp only [List.getElem_toArray, List.getElem_cons_succ, List.getElem_cons_zero, Act.put, List.setIfInBounds_toArray, List.set_cons_zero, List.set_cons_succ]
          refine wpAnyH_done (by kernel_rfl) ?_ _
          have hgg : gk ≠ g := by have := HG.out; omega
          go_wp2_with fail
          go_meet
          exact ⟨gk, rfl, rfl, kk.set2 _ _, (kt3.far (p := ⟨gk, 0, none⟩) hgg.symm _).far (p := ⟨gk, 1, none⟩) hgg.symm _, (kr3.far (p := ⟨gk, 0, none⟩) (by simp; omega) _).far (p := ⟨gk, 1, none⟩) (by simp; omega) _, (hb3.setn (p := ⟨gk, 0, none⟩) (by simp; omega) _).setn (p := ⟨gk, 1, none⟩) (by simp; omega) _, hgk⟩
      · go_simp
        have kk := Blk.new wd 67 #[.nilFunc, .nilFunc]
        have hgk : w.heap.size < wd.heap.size := kr3.lt
        have kt3 := kt3.alloc (.cells #[.nilFunc, .nilFunc] 67)
        have kr3 := kr3.alloc (.cells #[.nilFunc, .nilFunc] 67)
        have hb3 := hb3.alloc (.cells #[.nilFunc, .nilFunc] 67)
        generalize wd.alloc (.cells #[.nilFunc, .nilFunc] 67) = wn25 at *
        generalize wd.heap.size = gk at *
        refine hK.out _ _ trivial (fun hHeld => ?_)
        clear hK K hHeld
        try simp only [List.getElem_toArray, List.getElem_cons_succ, List.getElem_cons_zero, Act.put, List.setIfInBounds_toArray, List.set_cons_zero, List.set_cons_succ]
        refine wpAnyH_ready (rs := [0, 5]) (by kernel_rfl) (by simp) ?_
        refine AllReadyH.cons rfl (fun K hK => ?_) (AllReadyH.cons rfl (fun K hK => ?_) AllReadyH.nil)
        · go_simp
          refine (kinds_c _).mono ?_
          rintro e wn26 ⟨rfl, hmap, hbk⟩
          have kt3 := kt3.under hbk
          have kr3 := kr3.under hbk
          have hb3 := hb3.step hbk
          have kk := kk.under hbk
          generalize wn25.heap.size = gm at *
          clear hbk
          refine hK.out _ _ trivial (fun hHeld => ?_)
          clear hK K hHeld
          try simp only [List.getElem_toArray, List.getElem_cons_succ, List.getElem_cons_zero, Act.put, List.setIfInBounds_toArray, List.set_cons_zero, List.set_cons_succ]
          refine wpAnyH_ready (rs := [5]) (by kernel_rfl) (by simp) ?_
          refine AllReadyH.cons rfl (fun K hK => ?_) AllReadyH.nil
          obtain ⟨x0, x1, x2, x3, x4, x5, f0, f1, f2, f3, f4, f5⟩ := kt3.tape5
          go_simp
          clear x0 x1 x2 x3 x4 x5 f0 f1 f2 f3 f4 f5
          refine hK.out _ _ trivial (fun hHeld => ?_)
          clear hK K hHeld
          try simp only [List.getElem_toArray, List.getElem_cons_succ, List.getElem_cons_zero, Act.put, List.setIfInBounds_toArray, List.set_cons_zero, List.set_cons_succ]
          refine wpAnyH_ready (rs := [6]) (by kernel_rfl) (by simp) ?_
          refine AllReadyH.cons rfl (fun K hK => ?_) AllReadyH.nil
          have hlk := HLK.out wn26 gm hmap
          go_simp
          clear hlk
          refine hK.out _ _ trivial (fun hHeld => ?_)
          clear hK K hHeld
          try simp only [List.getElem_toArray, List.getElem_cons_succ, List.getElem_cons_zero, Act.put, List.setIfInBounds_toArray, List.set_cons_zero, List.set_cons_succ]
          refine wpAnyH_take (i := 7) (v := ?_) rfl (by kernel_rfl) (by kernel_rfl) (by kernel_rfl) (fun _ _ _ h => h) (Or.inl ⟨by rfl, ?_⟩) (by assumption) ?_
          rotate_left
          · intro W hW
            go_simp
            try rfl
          simp only [List.getElem_toArray, List.getElem_cons_succ, List.getElem_cons_zero, Act.put, List.setIfInBounds_toArray, List.set_cons_zero, List.set_cons_succ]
          refine wpAnyH_take (i := 8) (v := ?_) rfl (by kernel_rfl) (by kernel_rfl) (by kernel_rfl) (fun _ _ _ h => h) (Or.inl ⟨by rfl, ?_⟩) (by assumption) ?_
          rotate_left
          · intro W hW
            go_simp
            try rfl
          simp only [List.getElem_toArray, List.getElem_cons_succ, List.getElem_cons_zero, Act.put, List.setIfInBounds_toArray, List.set_cons_zero, List.set_cons_succ]
          refine wpAnyH_take (i := 9) (v := ?_) rfl (by kernel_rfl) (by kernel_rfl) (by kernel_rfl) (fun _ _ _ h => h) (Or.inl ⟨by rfl, ?_⟩) (by assumption) ?_
          rotate_left
          · intro W hW
            go_simp
            try rfl
          simp only [List.getElem_toArray, List.getElem_cons_succ, List.getElem_cons_zero, Act.put, List.setIfInBounds_toArray, List.set_cons_zero, List.set_cons_succ]
          refine wpAnyH_ready (rs := [11]) (by kernel_rfl) (by simp) ?_
          refine AllReadyH.cons rfl (fun K hK => ?_) AllReadyH.nil
          obtain ⟨y0, y1, y2, y3, y4⟩ := kk.two
          go_simp
          clear y0 y1 y2 y3 y4
          refine hK.out _ _ trivial (fun hHeld => ?_)
          clear hK K hHeld
          try simp only [List.getElem_toArray, List.getElem_cons_succ, List.getElem_cons_zero, Act.put, List.setIfInBounds_toArray, List.set_cons_zero, List.set_cons_succ]
          refine wpAnyH_take (i := 12) (v := ?_) rfl (by kernel_rfl) (by kernel_rfl) (by kernel_rfl) (fun _ _ _ h => h) (Or.inl ⟨by rfl, ?_⟩) (by assumption) ?_
          rotate_left
          · intro W hW
            go_simp
            try rfl
          simp only [List.getElem_toArray, List.getElem_cons_succ, List.getElem_cons_zero, Act.put, List.setIfInBounds_toArray, List.set_cons_zero, List.set_cons_succ]
          refine wpAnyH_done (by kernel_rfl) ?_ _
          have hgg : gk ≠ g := by have := HG.out; omega
          go_wp2_with fail
          go_meet
          exact ⟨gk, rfl, rfl, kk.set2 _ _, (kt3.far (p := ⟨gk, 0, none⟩) hgg.symm _).far (p := ⟨gk, 1, none⟩) hgg.symm _, (kr3.far (p := ⟨gk, 0, none⟩) (by simp; omega) _).far (p := ⟨gk, 1, none⟩) (by simp; omega) _, (hb3.setn (p := ⟨gk, 0, none⟩) (by simp; omega) _).setn (p := ⟨gk, 1, none⟩) (by simp; omega) _, hgk⟩
        · obtain ⟨x0, x1, x2, x3, x4, x5, f0, f1, f2, f3, f4, f5⟩ := kt3.tape5
          go_simp
          clear x0 x1 x2 x3 x4 x5 f0 f1 f2 f3 f4 f5
          refine hK.out _ _ trivial (fun hHeld => ?_)
          clear hK K hHeld
          try simp only [List.getElem_toArray, List.getElem_cons_succ, List.getElem_cons_zero, Act.put, List.setIfInBounds_toArray, List.set_cons_zero, List.set_cons_succ]
          refine wpAnyH_ready (rs := [0]) (by kernel_rfl) (by simp) ?_
          refine AllReadyH.cons rfl (fun K hK => ?_) AllReadyH.nil
          go_simp
          refine (kinds_c _).mono ?_
          rintro e wn31 ⟨rfl, hmap, hbk⟩
          have kt3 := kt3.under hbk
          have kr3 := kr3.under hbk
          have hb3 := hb3.step hbk
          have kk := kk.under hbk
          generalize wn25.heap.size = gm at *
          clear hbk
          refine hK.out _ _ trivial (fun hHeld => ?_)
          clear hK K hHeld
          try simp only [List.getElem_toArray, List.getElem_cons_succ, List.getElem_cons_zero, Act.put, List.setIfInBounds_toArray, List.set_cons_zero, List.set_cons_succ]
          refine wpAnyH_ready (rs := [6]) (by kernel_rfl) (by simp) ?_
          refine AllReadyH.cons rfl (fun K hK => ?_) AllReadyH.nil
          have hlk := HLK.out wn31 gm hmap
          go_simp
          clear hlk
          refine hK.out _ _ trivial (fun hHeld => ?_)
          clear hK K hHeld
          try simp only [List.getElem_toArray, List.getElem_cons_succ, List.getElem_cons_zero, Act.put, List.setIfInBounds_toArray, List.set_cons_zero, List.set_cons_succ]
          refine wpAnyH_take (i := 7) (v := ?_) rfl (by kernel_rfl) (by kernel_rfl) (by kernel_rfl) (fun _ _ _ h => h) (Or.inl ⟨by rfl, ?_⟩) (by assumption) ?_
          rotate_left
          · intro W hW
            go_simp
            try rfl
          simp only [List.getElem_toArray, List.getElem_cons_succ, List.getElem_cons_zero, Act.put, List.setIfInBounds_toArray, List.set_cons_zero, List.set_cons_succ]
          refine wpAnyH_take (i := 8) (v := ?_) rfl (by kernel_rfl) (by kernel_rfl) (by kernel_rfl) (fun _ _ _ h => h) (Or.inl ⟨by rfl, ?_⟩) (by assumption) ?_
          rotate_left
          · intro W hW
            go_simp
            try rfl
          simp only [List.getElem_toArray, List.getElem_cons_succ, List.getElem_cons_zero, Act.put, List.setIfInBounds_toArray, List.set_cons_zero, List.set_cons_succ]
          refine wpAnyH_take (i := 9) (v := ?_) rfl (by kernel_rfl) (by kernel_rfl) (by kernel_rfl) (fun _ _ _ h => h) (Or.inl ⟨by rfl, ?_⟩) (by assumption) ?_
          rotate_left
          · intro W hW
            go_simp
            try rfl
          simp only [List.getElem_toArray, List.getElem_cons_succ, List.getElem_cons_zero, Act.put, List.setIfInBounds_toArray, List.set_cons_zero, List.set_cons_succ]
          refine wpAnyH_ready (rs := [11]) (by kernel_rfl) (by simp) ?_
          refine AllReadyH.cons rfl (fun K hK => ?_) AllReadyH.nil
          obtain ⟨y0, y1, y2, y3, y4⟩ := kk.two
          go_simp
          clear y0 y1 y2 y3 y4
          refine hK.out _ _ trivial (fun hHeld => ?_)
          clear hK K hHeld
          try simp only [List.getElem_toArray, List.getElem_cons_succ, List.getElem_cons_zero, Act.put, List.setIfInBounds_toArray, List.set_cons_zero, List.set_cons_succ]
          refine wpAnyH_take (i := 12) (v := ?_) rfl (by kernel_rfl) (by kernel_rfl) (by kernel_rfl) (fun _ _ _ h => h) (Or.inl ⟨by rfl, ?_⟩) (by assumption) ?_
          rotate_left
          · intro W hW
            go_simp
            try rfl
          simp only [List.getElem_toArray, List.getElem_cons_succ, List.getElem_cons_zero, Act.put, List.setIfInBounds_toArray, List.set_cons_zero, List.set_cons_succ]
          refine wpAnyH_done (by kernel_rfl) ?_ _
          have hgg : gk ≠ g := by have := HG.out; omega
          go_wp2_with fail
          go_meet
          exact ⟨gk, rfl, rfl, kk.set2 _ _, (kt3.far (p := ⟨gk, 0, none⟩) hgg.symm _).far (p := ⟨gk, 1, none⟩) hgg.symm _, (kr3.far (p := ⟨gk, 0, none⟩) (by simp; omega) _).far (p := ⟨gk, 1, none⟩) (by simp; omega) _, (hb3.setn (p := ⟨gk, 0, none⟩) (by simp; omega) _).setn (p := ⟨gk, 1, none⟩) (by simp; omega) _, hgk⟩
    case rest =>
      obtain ⟨gk, rfl, rfl, kk, kt, kr, hb, hgk⟩ := hcut
      clear kt3 kr3 hb3
      have HBB := hid hb
      clear hb kt kr kk
      go_wp2_with fail
      refine (need_f _ _).mono ?_
      rintro e w6 ⟨rfl, rfl⟩
      exact ⟨rfl, by rw [HR2.out]; exact ⟨rfl, HBB.out⟩⟩
  obtain ⟨ka, kb, hkf, hlk⟩ := look_hit hk
  have HLK := hid hlk
  have HKF := hid hkf
  have HR1 := hid (show r = (match nameS bs (z + 1) with | .error x => .error x | .ok (nm, p) => bodyS bs kd nm p) by rw [HR.out, if_pos hk])
  have HKD := hid hk
  clear hk hlk hkf HR
  go_cut [3, 4] (fun u3 u4 wx => ∃ (gk : Nat), u3 = .pointer (some ⟨gk, 0, none⟩) ∧ u4 = .bool true ∧ Blk wx gk 67 #[.func (.func ka) #[] #[], .func (.func kb) #[] #[]] ∧ Blk wx g 64 (tapeC (kd : Nat) ⟨#[]⟩ 0 0 0 (.slice none 0 0) B n c ((z : Int) + 1)) ∧ Blk wx w.heap.size 24 zMuC ∧ But g w wx ∧ w.heap.size < gk)
  case first =>
    refine wp_region_held_drew (S := fun _ => True) (by kernel_rfl) trivial (fun hHeld => ?_)
    clear hHeld
    have hTr : True := trivial
    have kt3 := kt3.drew
    have kr3 := kr3.drew
    have hb3 := hb3.drew
    generalize w3.drew = wd at *
    refine wpAnyH_take (i := 1) (v := ?_) rfl (by kernel_rfl) (by kernel_rfl) (by kernel_rfl) (fun _ _ _ h => h) (Or.inl ⟨by rfl, ?_⟩) (by assumption) ?_
    rotate_left
    · intro W hW
      go_simp
      try rfl
    simp only [List.getElem_toArray, List.getElem_cons_succ, List.getElem_cons_zero, Act.put, List.setIfInBounds_toArray, List.set_cons_zero, List.set_cons_succ]
    refine wpAnyH_take (i := 2) (v := ?_) rfl (by kernel_rfl) (by kernel_rfl) (by kernel_rfl) (fun _ _ _ h => h) (Or.inl ⟨by rfl, ?_⟩) (by assumption) ?_
    rotate_left
    · intro W hW
      go_simp
      try rfl
    simp only [List.getElem_toArray, List.getElem_cons_succ, List.getElem_cons_zero, Act.put, List.setIfInBounds_toArray, List.set_cons_zero, List.set_cons_succ]
    refine wpAnyH_take (i := 3) (v := ?_) rfl (by kernel_rfl) (by kernel_rfl) (by kernel_rfl) (fun _ _ _ h => h) (Or.inl ⟨by rfl, ?_⟩) (by assumption) ?_
    rotate_left
    · intro W hW
      go_simp
      try rfl
    simp only [List.getElem_toArray, List.getElem_cons_succ, List.getElem_cons_zero, Act.put, List.setIfInBounds_toArray, List.set_cons_zero, List.set_cons_succ]
    refine wpAnyH_take (i := 4) (v := ?_) rfl (by kernel_rfl) (by kernel_rfl) (by kernel_rfl) (fun _ _ _ h => h) (Or.inl ⟨by rfl, ?_⟩) (by assumption) ?_
    rotate_left
    · intro W hW
      go_simp
      try rfl
    simp only [List.getElem_toArray, List.getElem_cons_succ, List.getElem_cons_zero, Act.put, List.setIfInBounds_toArray, List.set_cons_zero, List.set_cons_succ]
    refine wpAnyH_ready (rs := [0, 5, 10]) (by kernel_rfl) (by simp) ?_
    refine AllReadyH.cons rfl (fun K hK => ?_) (AllReadyH.cons rfl (fun K hK => ?_) (AllReadyH.cons rfl (fun K hK => ?_) AllReadyH.nil))
    · go_simp
      refine (kinds_c _).mono ?_
      rintro e wn34 ⟨rfl, hmap, hbk⟩
      have kt3 := kt3.under hbk
      have kr3 := kr3.under hbk
      have hb3 := hb3.step hbk
      generalize wd.heap.size = gm at *
      clear hbk
      refine hK.out _ _ trivial (fun hHeld => ?_)
      clear hK K hHeld
      try simp only [List.getElem_toArray, List.getElem_cons_succ, List.getElem_cons_zero, Act.put, List.setIfInBounds_toArray, List.set_cons_zero, List.set_cons_succ]
      refine wpAnyH_ready (rs := [5, 10]) (by kernel_rfl) (by simp) ?_
      refine AllReadyH.cons rfl (fun K hK => ?_) (AllReadyH.cons rfl (fun K hK => ?_) AllReadyH.nil)
      · obtain ⟨x0, x1, x2, x3, x4, x5, f0, f1, f2, f3, f4, f5⟩ := kt3.tape5
        go_simp
        clear x0 x1 x2 x3 x4 x5 f0 f1 f2 f3 f4 f5
        refine hK.out _ _ trivial (fun hHeld => ?_)
        clear hK K hHeld
        try simp only [List.getElem_toArray, List.getElem_cons_succ, List.getElem_cons_zero, Act.put, List.setIfInBounds_toArray, List.set_cons_zero, List.set_cons_succ]
        refine wpAnyH_ready (rs := [6, 10]) (by kernel_rfl) (by simp) ?_
        refine AllReadyH.cons rfl (fun K hK => ?_) (AllReadyH.cons rfl (fun K hK => ?_) AllReadyH.nil)
        · have hlk := HLK.out wn34 gm hmap
          go_simp
          clear hlk
          refine hK.out _ _ trivial (fun hHeld => ?_)
          clear hK K hHeld
          try simp only [List.getElem_toArray, List.getElem_cons_succ, List.getElem_cons_zero, Act.put, List.setIfInBounds_toArray, List.set_cons_zero, List.set_cons_succ]
          refine wpAnyH_take (i := 7) (v := ?_) rfl (by kernel_rfl) (by kernel_rfl) (by kernel_rfl) (fun _ _ _ h => h) (Or.inl ⟨by rfl, ?_⟩) (by assumption) ?_
          rotate_left
          · intro W hW
            go_simp
            try rfl
          simp only [List.getElem_toArray, List.getElem_cons_succ, List.getElem_cons_zero, Act.put, List.setIfInBounds_toArray, List.set_cons_zero, List.set_cons_succ]
          refine wpAnyH_take (i := 8) (v := ?_) rfl (by kernel_rfl) (by kernel_rfl) (by kernel_rfl) (fun _ _ _ h => h) (Or.inl ⟨by rfl, ?_⟩) (by assumption) ?_
          rotate_left
          · intro W hW
            go_simp
            try rfl
          simp only [List.getElem_toArray, List.getElem_cons_succ, List.getElem_cons_zero, Act.put, List.setIfInBounds_toArray, List.set_cons_zero, List.set_cons_succ]
          refine wpAnyH_take (i := 9) (v := ?_) rfl (by kernel_rfl) (by kernel_rfl) (by kernel_rfl) (fun _ _ _ h => h) (Or.inl ⟨by rfl, ?_⟩) (by assumption) ?_
          rotate_left
          · intro W hW
            go_simp
            try rfl
          simp only [List.getElem_toArray, List.getElem_cons_succ, List.getElem_cons_zero, Act.put, List.setIfInBounds_toArray, List.set_cons_zero, List.set_cons_succ]
          refine wpAnyH_ready (rs := [10]) (by kernel_rfl) (by simp) ?_
          refine AllReadyH.cons rfl (fun K hK => ?_) AllReadyH.nil
          go_simp
          have kk := Blk.new wn34 67 #[.nilFunc, .nilFunc]
          have hgk : w.heap.size < wn34.heap.size := kr3.lt
          have kt3 := kt3.alloc (.cells #[.nilFunc, .nilFunc] 67)
          have kr3 := kr3.alloc (.cells #[.nilFunc, .nilFunc] 67)
          have hb3 := hb3.alloc (.cells #[.nilFunc, .nilFunc] 67)
          have hmap := map_alloc hmap (.cells #[.nilFunc, .nilFunc] 67)
          generalize wn34.alloc (.cells #[.nilFunc, .nilFunc] 67) = wn37 at *
          generalize wn34.heap.size = gk at *
          refine hK.out _ _ trivial (fun hHeld => ?_)
          clear hK K hHeld
          try simp only [List.getElem_toArray, List.getElem_cons_succ, List.getElem_cons_zero, Act.put, List.setIfInBounds_toArray, List.set_cons_zero, List.set_cons_succ]
          refine wpAnyH_ready (rs := [11]) (by kernel_rfl) (by simp) ?_
          refine AllReadyH.cons rfl (fun K hK => ?_) AllReadyH.nil
          obtain ⟨y0, y1, y2, y3, y4⟩ := kk.two
          go_simp
          clear y0 y1 y2 y3 y4
          refine hK.out _ _ trivial (fun hHeld => ?_)
          clear hK K hHeld
          try simp only [List.getElem_toArray, List.getElem_cons_succ, List.getElem_cons_zero, Act.put, List.setIfInBounds_toArray, List.set_cons_zero, List.set_cons_succ]
          refine wpAnyH_take (i := 12) (v := ?_) rfl (by kernel_rfl) (by kernel_rfl) (by kernel_rfl) (fun _ _ _ h => h) (Or.inl ⟨by rfl, ?_⟩) (by assumption) ?_
          rotate_left
          · intro W hW
            go_simp
            try rfl
          simp only [List.getElem_toArray, List.getElem_cons_succ, List.getElem_cons_zero, Act.put, List.setIfInBounds_toArray, List.set_cons_zero, List.set_cons_succ]
          refine wpAnyH_done (by kernel_rfl) ?_ _
          have hgg : gk ≠ g := by have := HG.out; omega
          go_wp2_with fail
          go_meet
          exact ⟨gk, rfl, rfl, kk.set2 _ _, (kt3.far (p := ⟨gk, 0, none⟩) hgg.symm _).far (p := ⟨gk, 1, none⟩) hgg.symm _, (kr3.far (p := ⟨gk, 0, none⟩) (by simp; omega) _).far (p := ⟨gk, 1, none⟩) (by simp; omega) _, (hb3.setn (p := ⟨gk, 0, none⟩) (by simp; omega) _).setn (p := ⟨gk, 1, none⟩) (by simp; omega) _, hgk⟩
        · go_simp
          have kk := Blk.new wn34 67 #[.nilFunc, .nilFunc]
          have hgk : w.heap.size < wn34.heap.size := kr3.lt
          have kt3 := kt3.alloc (.cells #[.nilFunc, .nilFunc] 67)
          have kr3 := kr3.alloc (.cells #[.nilFunc, .nilFunc] 67)
          have hb3 := hb3.alloc (.cells #[.nilFunc, .nilFunc] 67)
          have hmap := map_alloc hmap (.cells #[.nilFunc, .nilFunc] 67)
          generalize wn34.alloc (.cells #[.nilFunc, .nilFunc] 67) = wn39 at *
          generalize wn34.heap.size = gk at *
          refine hK.out _ _ trivial (fun hHeld => ?_)
          clear hK K hHeld
          try simp only [List.getElem_toArray, List.getElem_cons_succ, List.getElem_cons_zero, Act.put, List.setIfInBounds_toArray, List.set_cons_zero, List.set_cons_succ]
          refine wpAnyH_ready (rs := [6]) (by kernel_rfl) (by simp) ?_
          refine AllReadyH.cons rfl (fun K hK => ?_) AllReadyH.nil
          have hlk := HLK.out wn39 gm hmap
          go_simp
          clear hlk
          refine hK.out _ _ trivial (fun hHeld => ?_)
          clear hK K hHeld
          try simp only [List.getElem_toArray, List.getElem_cons_succ, List.getElem_cons_zero, Act.put, List.setIfInBounds_toArray, List.set_cons_zero, List.set_cons_succ]
          refine wpAnyH_take (i := 7) (v := ?_) rfl (by kernel_rfl) (by kernel_rfl) (by kernel_rfl) (fun _ _ _ h => h) (Or.inl ⟨by rfl, ?_⟩) (by assumption) ?_
          rotate_left
          · intro W hW
            go_simp
            try rfl
          simp only [List.getElem_toArray, List.getElem_cons_succ, List.getElem_cons_zero, Act.put, List.setIfInBounds_toArray, List.set_cons_zero, List.set_cons_succ]
          refine wpAnyH_take (i := 8) (v := ?_) rfl (by kernel_rfl) (by kernel_rfl) (by kernel_rfl) (fun _ _ _ h => h) (Or.inl ⟨by rfl, ?_⟩) (by assumption) ?_
          rotate_left
          · intro W hW
            go_simp
            try rfl
          simp only [List.getElem_toArray, List.getElem_cons_succ, List.getElem_cons_zero, Act.put, List.setIfInBounds_toArray, List.set_cons_zero, List.set_cons_succ]
          refine wpAnyH_take (i := 9) (v := ?_) rfl (by kernel_rfl) (by kernel_rfl) (by kernel_rfl) (fun _ _ _ h => h) (Or.inl ⟨by rfl, ?_⟩) (by assumption) ?_
          rotate_left
          · intro W hW
            go_simp
            try rfl
          simp only [List.getElem_toArray, List.getElem_cons_succ, List.getElem_cons_zero, Act.put, List.setIfInBounds_toArray, List.set_cons_zero, List.set_cons_succ]
          refine wpAnyH_ready (rs := [11]) (by kernel_rfl) (by simp) ?_
          refine AllReadyH.cons rfl (fun K hK => ?_) AllReadyH.nil
          obtain ⟨y0, y1, y2, y3, y4⟩ := kk.two
          go_simp
          clear y0 y1 y2 y3 y4
          refine hK.out _ _ trivial (fun hHeld => ?_)
          clear hK K hHeld
          try simp only [List.getElem_toArray, List.getElem_cons_succ, List.getElem_cons_zero, Act.put, List.setIfInBounds_toArray, List.set_cons_zero, List.set_cons_succ]
          refine wpAnyH_take (i := 12) (v := ?_) rfl (by kernel_rfl) (by kernel_rfl) (by kernel_rfl) (fun _ _ _ h => h) (Or.inl ⟨by rfl, ?_⟩) (by assumption) ?_
          rotate_left
          · intro W hW
            go_simp
            try rfl
          simp only [List.getElem_toArray, List.getElem_cons_succ, List.getElem_cons_zero, Act.put, List.setIfInBounds_toArray, List.set_cons_zero, List.set_cons_succ]
          refine wpAnyH_done (by kernel_rfl) ?_ _
          have hgg : gk ≠ g := by have := HG.out; omega
          go_wp2_with fail
          go_meet
          exact ⟨gk, rfl, rfl, kk.set2 _ _, (kt3.far (p := ⟨gk, 0, none⟩) hgg.symm _).far (p := ⟨gk, 1, none⟩) hgg.symm _, (kr3.far (p := ⟨gk, 0, none⟩) (by simp; omega) _).far (p := ⟨gk, 1, none⟩) (by simp; omega) _, (hb3.setn (p := ⟨gk, 0, none⟩) (by simp; omega) _).setn (p := ⟨gk, 1, none⟩) (by simp; omega) _, hgk⟩
      · go_simp
        have kk := Blk.new wn34 67 #[.nilFunc, .nilFunc]
        have hgk : w.heap.size < wn34.heap.size := kr3.lt
        have kt3 := kt3.alloc (.cells #[.nilFunc, .nilFunc] 67)
        have kr3 := kr3.alloc (.cells #[.nilFunc, .nilFunc] 67)
        have hb3 := hb3.alloc (.cells #[.nilFunc, .nilFunc] 67)
        have hmap := map_alloc hmap (.cells #[.nilFunc, .nilFunc] 67)
        generalize wn34.alloc (.cells #[.nilFunc, .nilFunc] 67) = wn42 at *
        generalize wn34.heap.size = gk at *
        refine hK.out _ _ trivial (fun hHeld => ?_)
        clear hK K hHeld
        try simp only [List.getElem_toArray, List.getElem_cons_succ, List.getElem_cons_zero, Act.put, List.setIfInBounds_toArray, List.set_cons_zero, List.set_cons_succ]
        refine wpAnyH_ready (rs := [5]) (by kernel_rfl) (by simp) ?_
        refine AllReadyH.cons rfl (fun K hK => ?_) AllReadyH.nil
        obtain ⟨x0, x1, x2, x3, x4, x5, f0, f1, f2, f3, f4, f5⟩ := kt3.tape5
        go_simp
        clear x0 x1 x2 x3 x4 x5 f0 f1 f2 f3 f4 f5
        refine hK.out _ _ trivial (fun hHeld => ?_)
        clear hK K hHeld
        try simp only [List.getElem_toArray, List.getElem_cons_succ, List.getElem_cons_zero, Act.put, List.setIfInBounds_toArray, List.set_cons_zero, List.set_cons_succ]
        refine wpAnyH_ready (rs := [6]) (by kernel_rfl) (by simp) ?_
        refine AllReadyH.cons rfl (fun K hK => ?_) AllReadyH.nil
        have hlk := HLK.out wn42 gm hmap
        go_simp
        clear hlk
        refine hK.out _ _ trivial (fun hHeld => ?_)
        clear hK K hHeld
        try simp only [List.getElem_toArray, List.getElem_cons_succ, List.getElem_cons_zero, Act.put, List.setIfInBounds_toArray, List.set_cons_zero, List.set_cons_succ]
        refine wpAnyH_take (i := 7) (v := ?_) rfl (by kernel_rfl) (by kernel_rfl) (by kernel_rfl) (fun _ _ _ h => h) (Or.inl ⟨by rfl, ?_⟩) (by assumption) ?_
        rotate_left
        · intro W hW
          go_simp
          try rfl
        simp only [List.getElem_toArray, List.getElem_cons_succ, List.getElem_cons_zero, Act.put, List.setIfInBounds_toArray, List.set_cons_zero, List.set_cons_succ]
        refine wpAnyH_take (i := 8) (v := ?_) rfl (by kernel_rfl) (by kernel_rfl) (by kernel_rfl) (fun _ _ _ h => h) (Or.inl ⟨by rfl, ?_⟩) (by assumption) ?_
        rotate_left
        · intro W hW
          go_simp
          try rfl
        simp only [List.getElem_toArray, List.getElem_cons_succ, List.getElem_cons_zero, Act.put, List.setIfInBounds_toArray, List.set_cons_zero, List.set_cons_succ]
        refine wpAnyH_take (i := 9) (v := ?_) rfl (by kernel_rfl) (by kernel_rfl) (by kernel_rfl) (fun _ _ _ h => h) (Or.inl ⟨by rfl, ?_⟩) (by assumption) ?_
        rotate_left
        · intro W hW
          go_simp
          try rfl
        simp only [List.getElem_toArray, List.getElem_cons_succ, List.getElem_cons_zero, Act.put, List.setIfInBounds_toArray, List.set_cons_zero, List.set_cons_succ]
        refine wpAnyH_ready (rs := [11]) (by kernel_rfl) (by simp) ?_
        refine AllReadyH.cons rfl (fun K hK => ?_) AllReadyH.nil
        obtain ⟨y0, y1, y2, y3, y4⟩ := kk.two
        go_simp
        clear y0 y1 y2 y3 y4
        refine hK.out _ _ trivial (fun hHeld => ?_)
        clear hK K hHeld
        try simp only [List.getElem_toArray, List.getElem_cons_succ, List.getElem_cons_zero, Act.put, List.setIfInBounds_toArray, List.set_cons_zero, List.set_cons_succ]
        refine wpAnyH_take (i := 12) (v := ?_) rfl (by kernel_rfl) (by kernel_rfl) (by kernel_rfl) (fun _ _ _ h => h) (Or.inl ⟨by rfl, ?_⟩) (by assumption) ?_
        rotate_left
        · intro W hW
          go_simp
          try rfl
        simp only [List.getElem_toArray, List.getElem_cons_succ, List.getElem_cons_zero, Act.put, List.setIfInBounds_toArray, List.set_cons_zero, List.set_cons_succ]
        refine wpAnyH_done (by kernel_rfl) ?_ _
        have hgg : gk ≠ g := by have := HG.out; omega
        go_wp2_with fail
        go_meet
        exact ⟨gk, rfl, rfl, kk.set2 _ _, (kt3.far (p := ⟨gk, 0, none⟩) hgg.symm _).far (p := ⟨gk, 1, none⟩) hgg.symm _, (kr3.far (p := ⟨gk, 0, none⟩) (by simp; omega) _).far (p := ⟨gk, 1, none⟩) (by simp; omega) _, (hb3.setn (p := ⟨gk, 0, none⟩) (by simp; omega) _).setn (p := ⟨gk, 1, none⟩) (by simp; omega) _, hgk⟩
    · obtain ⟨x0, x1, x2, x3, x4, x5, f0, f1, f2, f3, f4, f5⟩ := kt3.tape5
      go_simp
      clear x0 x1 x2 x3 x4 x5 f0 f1 f2 f3 f4 f5
      refine hK.out _ _ trivial (fun hHeld => ?_)
      clear hK K hHeld
      try simp only [List.getElem_toArray, List.getElem_cons_succ, List.getElem_cons_zero, Act.put, List.setIfInBounds_toArray, List.set_cons_zero, List.set_cons_succ]
      refine wpAnyH_ready (rs := [0, 10]) (by kernel_rfl) (by simp) ?_
      refine AllReadyH.cons rfl (fun K hK => ?_) (AllReadyH.cons rfl (fun K hK => ?_) AllReadyH.nil)
      · go_simp
        refine (kinds_c _).mono ?_
        rintro e wn47 ⟨rfl, hmap, hbk⟩
        have kt3 := kt3.under hbk
        have kr3 := kr3.under hbk
        have hb3 := hb3.step hbk
        generalize wd.heap.size = gm at *
        clear hbk
        refine hK.out _ _ trivial (fun hHeld => ?_)
        clear hK K hHeld
        try simp only [List.getElem_toArray, List.getElem_cons_succ, List.getElem_cons_zero, Act.put, List.setIfInBounds_toArray, List.set_cons_zero, List.set_cons_succ]
        refine wpAnyH_ready (rs := [6, 10]) (by kernel_rfl) (by simp) ?_
        refine AllReadyH.cons rfl (fun K hK => ?_) (AllReadyH.cons rfl (fun K hK => ?_) AllReadyH.nil)
        · have hlk := HLK.out wn47 gm hmap
          go_simp
          clear hlk
          refine hK.out _ _ trivial (fun hHeld => ?_)
          clear hK K hHeld
          try simp only [List.getElem_toArray, List.getElem_cons_succ, List.getElem_cons_zero, Act.put, List.setIfInBounds_toArray, List.set_cons_zero, List.set_cons_succ]
          refine wpAnyH_take (i := 7) (v := ?_) rfl (by kernel_rfl) (by kernel_rfl) (by kernel_rfl) (fun _ _ _ h => h) (Or.inl ⟨by rfl, ?_⟩) (by assumption) ?_
          rotate_left
          · intro W hW
            go_simp
            try rfl
          simp only [List.getElem_toArray, List.getElem_cons_succ, List.getElem_cons_zero, Act.put, List.setIfInBounds_toArray, List.set_cons_zero, List.set_cons_succ]
          refine wpAnyH_take (i := 8) (v := ?_) rfl (by kernel_rfl) (by kernel_rfl) (by kernel_rfl) (fun _ _ _ h => h) (Or.inl ⟨by rfl, ?_⟩) (by assumption) ?_
          rotate_left
          · intro W hW
            go_simp
            try rfl
          simp only [List.getElem_toArray, List.getElem_cons_succ, List.getElem_cons_zero, Act.put, List.setIfInBounds_toArray, List.set_cons_zero, List.set_cons_succ]
          refine wpAnyH_take (i := 9) (v := ?_) rfl (by kernel_rfl) (by kernel_rfl) (by kernel_rfl) (fun _ _ _ h => h) (Or.inl ⟨by rfl, ?_⟩) (by assumption) ?_
          rotate_left
          · intro W hW
            go_simp
            try rfl
          simp only [List.getElem_toArray, List.getElem_cons_succ, List.getElem_cons_zero, Act.put, List.setIfInBounds_toArray, List.set_cons_zero, List.set_cons_succ]
          refine wpAnyH_ready (rs := [10]) (by kernel_rfl) (by simp) ?_
          refine AllReadyH.cons rfl (fun K hK => ?_) AllReadyH.nil
          go_simp
          have kk := Blk.new wn47 67 #[.nilFunc, .nilFunc]
          have hgk : w.heap.size < wn47.heap.size := kr3.lt
          have kt3 := kt3.alloc (.cells #[.nilFunc, .nilFunc] 67)
          have kr3 := kr3.alloc (.cells #[.nilFunc, .nilFunc] 67)
          have hb3 := hb3.alloc (.cells #[.nilFunc, .nilFunc] 67)
          have hmap := map_alloc hmap (.cells #[.nilFunc, .nilFunc] 67)
          generalize wn47.alloc (.cells #[.nilFunc, .nilFunc] 67) = wn49 at *
          generalize wn47.heap.size = gk at *
          refine hK.out _ _ trivial (fun hHeld => ?_)
          clear hK K hHeld
          try simp only [List.getElem_toArray, List.getElem_cons_succ, List.getElem_cons_zero, Act.put, List.setIfInBounds_toArray, List.set_cons_zero, List.set_cons_succ]
          refine wpAnyH_ready (rs := [11]) (by kernel_rfl) (by simp) ?_
          refine AllReadyH.cons rfl (fun K hK => ?_) AllReadyH.nil
          obtain ⟨y0, y1, y2, y3, y4⟩ := kk.two
          go_simp
          clear y0 y1 y2 y3 y4
          refine hK.out _ _ trivial (fun hHeld => ?_)
          clear hK K hHeld
          try simp only [List.getElem_toArray, List.getElem_cons_succ, List.getElem_cons_zero, Act.put, List.setIfInBounds_toArray, List.set_cons_zero, List.set_cons_succ]
          refine wpAnyH_take (i := 12) (v := ?_) rfl (by kernel_rfl) (by kernel_rfl) (by kernel_rfl) (fun _ _ _ h => h) (Or.inl ⟨by rfl, ?_⟩) (by assumption) ?_
          rotate_left
          · intro W hW
            go_simp
            try rfl
          simp only [List.getElem_toArray, List.getElem_cons_succ, List.getElem_cons_zero, Act.put, List.setIfInBounds_toArray, List.set_cons_zero, List.set_cons_succ]
          refine wpAnyH_done (by kernel_rfl) ?_ _
          have hgg : gk ≠ g := by have := HG.out; omega
          go_wp2_with fail
          go_meet
          exact ⟨gk, rfl, rfl, kk.set2 _ _, (kt3.far (p := ⟨gk, 0, none⟩) hgg.symm _).far (p := ⟨gk, 1, none⟩) hgg.symm _, (kr3.far (p := ⟨gk, 0, none⟩) (by simp; omega) _).far (p := ⟨gk, 1, none⟩) (by simp; omega) _, (hb3.setn (p := ⟨gk, 0, none⟩) (by simp; omega) _).setn (p := ⟨gk, 1, none⟩) (by simp; omega) _, hgk⟩
        · go_simp
          have kk := Blk.new wn47 67 #[.nilFunc, .nilFunc]
          have hgk : w.heap.size < wn47.heap.size := kr3.lt
          have kt3 := kt3.alloc (.cells #[.nilFunc, .nilFunc] 67)
          have kr3 := kr3.alloc (.cells #[.nilFunc, .nilFunc] 67)
          have hb3 := hb3.alloc (.cells #[.nilFunc, .nilFunc] 67)
          have hmap := map_alloc hmap (.cells #[.nilFunc, .nilFunc] 67)
          generalize wn47.alloc (.cells #[.nilFunc, .nilFunc] 67) = wn51 at *
          generalize wn47.heap.size = gk at *
          refine hK.out _ _ trivial (fun hHeld => ?_)
          clear hK K hHeld
          try simp only [List.getElem_toArray, List.getElem_cons_succ, List.getElem_cons_zero, Act.put, List.setIfInBounds_toArray, List.set_cons_zero, List.set_cons_succ]
          refine wpAnyH_ready (rs := [6]) (by kernel_rfl) (by simp) ?_
          refine AllReadyH.cons rfl (fun K hK => ?_) AllReadyH.nil
          have hlk := HLK.out wn51 gm hmap
          go_simp
          clear hlk
          refine hK.out _ _ trivial (fun hHeld => ?_)
          clear hK K hHeld
          try simp only [List.getElem_toArray, List.getElem_cons_succ, List.getElem_cons_zero, Act.put, List.setIfInBounds_toArray, List.set_cons_zero, List.set_cons_succ]
          refine wpAnyH_take (i := 7) (v := ?_) rfl (by kernel_rfl) (by kernel_rfl) (by kernel_rfl) (fun _ _ _ h => h) (Or.inl ⟨by rfl, ?_⟩) (by assumption) ?_
          rotate_left
          · intro W hW
            go_simp
            try rfl
          simp only [List.getElem_toArray, List.getElem_cons_succ, List.getElem_cons_zero, Act.put, List.setIfInBounds_toArray, List.set_cons_zero, List.set_cons_succ]
          refine wpAnyH_take (i := 8) (v := ?_) rfl (by kernel_rfl) (by kernel_rfl) (by kernel_rfl) (fun _ _ _ h => h) (Or.inl ⟨by rfl, ?_⟩) (by assumption) ?_
          rotate_left
          · intro W hW
            go_simp
            try rfl
          simp only [List.getElem_toArray, List.getElem_cons_succ, List.getElem_cons_zero, Act.put, List.setIfInBounds_toArray, List.set_cons_zero, List.set_cons_succ]
          refine wpAnyH_take (i := 9) (v := ?_) rfl (by kernel_rfl) (by kernel_rfl) (by kernel_rfl) (fun _ _ _ h => h) (Or.inl ⟨by rfl, ?_⟩) (by assumption) ?_
          rotate_left
          · intro W hW
            go_simp
            try rfl
          simp only [List.getElem_toArray, List.getElem_cons_succ, List.getElem_cons_zero, Act.put, List.setIfInBounds_toArray, List.set_cons_zero, List.set_cons_succ]
          refine wpAnyH_ready (rs := [11]) (by kernel_rfl) (by simp) ?_
          refine AllReadyH.cons rfl (fun K hK => ?_) AllReadyH.nil
          obtain ⟨y0, y1, y2, y3, y4⟩ := kk.two
          go_simp
          clear y0 y1 y2 y3 y4
          refine hK.out _ _ trivial (fun hHeld => ?_)
          clear hK K hHeld
          try simp only [List.getElem_toArray, List.getElem_cons_succ, List.getElem_cons_zero, Act.put, List.setIfInBounds_toArray, List.set_cons_zero, List.set_cons_succ]
          refine wpAnyH_take (i := 12) (v := ?_) rfl (by kernel_rfl) (by kernel_rfl) (by kernel_rfl) (fun _ _ _ h => h) (Or.inl ⟨by rfl, ?_⟩) (by assumption) ?_
          rotate_left
          · intro W hW
            go_simp
            try rfl
          simp only [List.getElem_toArray, List.getElem_cons_succ, List.getElem_cons_zero, Act.put, List.setIfInBounds_toArray, List.set_cons_zero, List.set_cons_succ]
          refine wpAnyH_done (by kernel_rfl) ?_ _
          have hgg : gk ≠ g := by have := HG.out; omega
          go_wp2_with fail
          go_meet
          exact ⟨gk, rfl, rfl, kk.set2 _ _, (kt3.far (p := ⟨gk, 0, none⟩) hgg.symm _).far (p := ⟨gk, 1, none⟩) hgg.symm _, (kr3.far (p := ⟨gk, 0, none⟩) (by simp; omega) _).far (p := ⟨gk, 1, none⟩) (by simp; omega) _, (hb3.setn (p := ⟨gk, 0, none⟩) (by simp; omega) _).setn (p := ⟨gk, 1, none⟩) (by simp; omega) _, hgk⟩
      · go_simp
        have kk := Blk.new wd 67 #[.nilFunc, .nilFunc]
        have hgk : w.heap.size < wd.heap.size := kr3.lt
        have kt3 := kt3.alloc (.cells #[.nilFunc, .nilFunc] 67)
        have kr3 := kr3.alloc (.cells #[.nilFunc, .nilFunc] 67)
        have hb3 := hb3.alloc (.cells #[.nilFunc, .nilFunc] 67)
        generalize wd.alloc (.cells #[.nilFunc, .nilFunc] 67) = wn54 at *
        generalize wd.heap.size = gk at *
        refine hK.out _ _ trivial (fun hHeld => ?_)
        clear hK K hHeld
        try simp only [List.getElem_toArray, List.getElem_cons_succ, List.getElem_cons_zero, Act.put, List.setIfInBounds_toArray, List.set_cons_zero, List.set_cons_succ]
        refine wpAnyH_ready (rs := [0]) (by kernel_rfl) (by simp) ?_
        refine AllReadyH.cons rfl (fun K hK => ?_) AllReadyH.nil
        go_simp
        refine (kinds_c _).mono ?_
        rintro e wn55 ⟨rfl, hmap, hbk⟩
        have kt3 := kt3.under hbk
        have kr3 := kr3.under hbk
        have hb3 := hb3.step hbk
        have kk := kk.under hbk
        generalize wn54.heap.size = gm at *
        clear hbk
        refine hK.out _ _ trivial (fun hHeld => ?_)
        clear hK K hHeld
        try simp only [List.getElem_toArray, List.getElem_cons_succ, List.getElem_cons_zero, Act.put, List.setIfInBounds_toArray, List.set_cons_zero, List.set_cons_succ]
        refine wpAnyH_ready (rs := [6]) (by kernel_rfl) (by simp) ?_
        refine AllReadyH.cons rfl (fun K hK => ?_) AllReadyH.nil
        have hlk := HLK.out wn55 gm hmap
        go_simp
        clear hlk
        refine hK.out _ _ trivial (fun hHeld => ?_)
        clear hK K hHeld
        try simp only [List.getElem_toArray, List.getElem_cons_succ, List.getElem_cons_zero, Act.put, List.setIfInBounds_toArray, List.set_cons_zero, List.set_cons_succ]
        refine wpAnyH_take (i := 7) (v := ?_) rfl (by kernel_rfl) (by kernel_rfl) (by kernel_rfl) (fun _ _ _ h => h) (Or.inl ⟨by rfl, ?_⟩) (by assumption) ?_
        rotate_left
        · intro W hW
          go_simp
          try rfl
        simp only [List.getElem_toArray, List.getElem_cons_succ, List.getElem_cons_zero, Act.put, List.setIfInBounds_toArray, List.set_cons_zero, List.set_cons_succ]
        refine wpAnyH_take (i := 8) (v := ?_) rfl (by kernel_rfl) (by kernel_rfl) (by kernel_rfl) (fun _ _ _ h => h) (Or.inl ⟨by rfl, ?_⟩) (by assumption) ?_
        rotate_left
        · intro W hW
          go_simp
          try rfl
        simp only [List.getElem_toArray, List.getElem_cons_succ, List.getElem_cons_zero, Act.put, List.setIfInBounds_toArray, List.set_cons_zero, List.set_cons_succ]
        refine wpAnyH_take (i := 9) (v := ?_) rfl (by kernel_rfl) (by kernel_rfl) (by kernel_rfl) (fun _ _ _ h => h) (Or.inl ⟨by rfl, ?_⟩) (by assumption) ?_
        rotate_left
        · intro W hW
          go_simp
          try rfl
        simp only [List.getElem_toArray, List.getElem_cons_succ, List.getElem_cons_zero, Act.put, List.setIfInBounds_toArray, List.set_cons_zero, List.set_cons_succ]
        refine wpAnyH_ready (rs := [11]) (by kernel_rfl) (by simp) ?_
        refine AllReadyH.cons rfl (fun K hK => ?_) AllReadyH.nil
        obtain ⟨y0, y1, y2, y3, y4⟩ := kk.two
        go_simp
        clear y0 y1 y2 y3 y4
        refine hK.out _ _ trivial (fun hHeld => ?_)
        clear hK K hHeld
        try simp only [List.getElem_toArray, List.getElem_cons_succ, List.getElem_cons_zero, Act.put, List.setIfInBounds_toArray, List.set_cons_zero, List.set_cons_succ]
        refine wpAnyH_take (i := 12) (v := ?_) rfl (by kernel_rfl) (by kernel_rfl) (by kernel_rfl) (fun _ _ _ h => h) (Or.inl ⟨by rfl, ?_⟩) (by assumption) ?_
        rotate_left
        · intro W hW
          go_simp
          try rfl
        simp only [List.getElem_toArray, List.getElem_cons_succ, List.getElem_cons_zero, Act.put, List.setIfInBounds_toArray, List.set_cons_zero, List.set_cons_succ]
        refine wpAnyH_done (by kernel_rfl) ?_ _
        have hgg : gk ≠ g := by have := HG.out; omega
        go_wp2_with fail
        go_meet
        exact ⟨gk, rfl, rfl, kk.set2 _ _, (kt3.far (p := ⟨gk, 0, none⟩) hgg.symm _).far (p := ⟨gk, 1, none⟩) hgg.symm _, (kr3.far (p := ⟨gk, 0, none⟩) (by simp; omega) _).far (p := ⟨gk, 1, none⟩) (by simp; omega) _, (hb3.setn (p := ⟨gk, 0, none⟩) (by simp; omega) _).setn (p := ⟨gk, 1, none⟩) (by simp; omega) _, hgk⟩
    · go_simp
      have kk := Blk.new wd 67 #[.nilFunc, .nilFunc]
      have hgk : w.heap.size < wd.heap.size := kr3.lt
      have kt3 := kt3.alloc (.cells #[.nilFunc, .nilFunc] 67)
      have kr3 := kr3.alloc (.cells #[.nilFunc, .nilFunc] 67)
      have hb3 := hb3.alloc (.cells #[.nilFunc, .nilFunc] 67)
      generalize wd.alloc (.cells #[.nilFunc, .nilFunc] 67) = wn58 at *
      generalize wd.heap.size = gk at *
      refine hK.out _ _ trivial (fun hHeld => ?_)
      clear hK K hHeld
      try simp only [List.getElem_toArray, List.getElem_cons_succ, List.getElem_cons_zero, Act.put, List.setIfInBounds_toArray, List.set_cons_zero, List.set_cons_succ]
      refine wpAnyH_ready (rs := [0, 5]) (by kernel_rfl) (by simp) ?_
      refine AllReadyH.cons rfl (fun K hK => ?_) (AllReadyH.cons rfl (fun K hK => ?_) AllReadyH.nil)
      · go_simp
        refine (kinds_c _).mono ?_
        rintro e wn59 ⟨rfl, hmap, hbk⟩
        have kt3 := kt3.under hbk
        have kr3 := kr3.under hbk
        have hb3 := hb3.step hbk
        have kk := kk.under hbk
        generalize wn58.heap.size = gm at *
        clear hbk
        refine hK.out _ _ trivial (fun hHeld => ?_)
        clear hK K hHeld
        try simp only [List.getElem_toArray, List.getElem_cons_succ, List.getElem_cons_zero, Act.put, List.setIfInBounds_toArray, List.set_cons_zero, List.set_cons_succ]
        refine wpAnyH_ready (rs := [5]) (by kernel_rfl) (by simp) ?_
        refine AllReadyH.cons rfl (fun K hK => ?_) AllReadyH.nil
        obtain ⟨x0, x1, x2, x3, x4, x5, f0, f1, f2, f3, f4, f5⟩ := kt3.tape5
        go_simp
        clear x0 x1 x2 x3 x4 x5 f0 f1 f2 f3 f4 f5
        refine hK.out _ _ trivial (fun hHeld => ?_)
        clear hK K hHeld
        try simp only [List.getElem_toArray, List.getElem_cons_succ, List.getElem_cons_zero, Act.put, List.setIfInBounds_toArray, List.set_cons_zero, List.set_cons_succ]
        refine wpAnyH_ready (rs := [6]) (by kernel_rfl) (by simp) ?_
        refine AllReadyH.cons rfl (fun K hK => ?_) AllReadyH.nil
        have hlk := HLK.out wn59 gm hmap
        go_simp
        clear hlk
        refine hK.out _ _ trivial (fun hHeld => ?_)
        clear hK K hHeld
        try simp only [List.getElem_toArray, List.getElem_cons_succ, List.getElem_cons_zero, Act.put, List.setIfInBounds_toArray, List.set_cons_zero, List.set_cons_succ]
        refine wpAnyH_take (i := 7) (v := ?_) rfl (by kernel_rfl) (by kernel_rfl) (by kernel_rfl) (fun _ _ _ h => h) (Or.inl ⟨by rfl, ?_⟩) (by assumption) ?_
        rotate_left
        · intro W hW
          go_simp
          try rfl
        simp only [List.getElem_toArray, List.getElem_cons_succ, List.getElem_cons_zero, Act.put, List.setIfInBounds_toArray, List.set_cons_zero, List.set_cons_succ]
        refine wpAnyH_take (i := 8) (v := ?_) rfl (by kernel_rfl) (by kernel_rfl) (by kernel_rfl) (fun _ _ _ h => h) (Or.inl ⟨by rfl, ?_⟩) (by assumption) ?_
        rotate_left
        · intro W hW
          go_simp
          try rfl
        simp only [List.getElem_toArray, List.getElem_cons_succ, List.getElem_cons_zero, Act.put, List.setIfInBounds_toArray, List.set_cons_zero, List.set_cons_succ]
        refine wpAnyH_take (i := 9) (v := ?_) rfl (by kernel_rfl) (by kernel_rfl) (by kernel_rfl) (fun _ _ _ h => h) (Or.inl ⟨by rfl, ?_⟩) (by assumption) ?_
        rotate_left
        · intro W hW
          go_simp
          try rfl
        simp only [List.getElem_toArray, List.getElem_cons_succ, List.getElem_cons_zero, Act.put, List.setIfInBounds_toArray, List.set_cons_zero, List.set_cons_succ]
        refine wpAnyH_ready (rs := [11]) (by kernel_rfl) (by simp) ?_
        refine AllReadyH.cons rfl (fun K hK => ?_) AllReadyH.nil
        obtain ⟨y0, y1, y2, y3, y4⟩ := kk.two
        go_simp
        clear y0 y1 y2 y3 y4
        refine hK.out _ _ trivial (fun hHeld => ?_)
        clear hK K hHeld
        try simp only [List.getElem_toArray, List.getElem_cons_succ, List.getElem_cons_zero, Act.put, List.setIfInBounds_toArray, List.set_cons_zero, List.set_cons_succ]
        refine wpAnyH_take (i := 12) (v := ?_) rfl (by kernel_rfl) (by kernel_rfl) (by kernel_rfl) (fun _ _ _ h => h) (Or.inl ⟨by rfl, ?_⟩) (by assumption) ?_
        rotate_left
        · intro W hW
          go_simp
          try rfl
        simp only [List.getElem_toArray, List.getElem_cons_succ, List.getElem_cons_zero, Act.put, List.setIfInBounds_toArray, List.set_cons_zero, List.set_cons_succ]
        refine wpAnyH_done (by kernel_rfl) ?_ _
        have hgg : gk ≠ g := by have := HG.out; omega
        go_wp2_with fail
        go_meet
        exact ⟨gk, rfl, rfl, kk.set2 _ _, (kt3.far (p := ⟨gk, 0, none⟩) hgg.symm _).far (p := ⟨gk, 1, none⟩) hgg.symm _, (kr3.far (p := ⟨gk, 0, none⟩) (by simp; omega) _).far (p := ⟨gk, 1, none⟩) (by simp; omega) _, (hb3.setn (p := ⟨gk, 0, none⟩) (by simp; omega) _).setn (p := ⟨gk, 1, none⟩) (by simp; omega) _, hgk⟩
      · obtain ⟨x0, x1, x2, x3, x4, x5, f0, f1, f2, f3, f4, f5⟩ := kt3.tape5
        go_simp
        clear x0 x1 x2 x3 x4 x5 f0 f1 f2 f3 f4 f5
        refine hK.out _ _ trivial (fun hHeld => ?_)
        clear hK K hHeld
        try simp only [List.getElem_toArray, List.getElem_cons_succ, List.getElem_cons_zero, Act.put, List.setIfInBounds_toArray, List.set_cons_zero, List.set_cons_succ]
        refine wpAnyH_ready (rs := [0]) (by kernel_rfl) (by simp) ?_
        refine AllReadyH.cons rfl (fun K hK => ?_) AllReadyH.nil
        go_simp
        refine (kinds_c _).mono ?_
        rintro e wn64 ⟨rfl, hmap, hbk⟩
        have kt3 := kt3.under hbk
        have kr3 := kr3.under hbk
        have hb3 := hb3.step hbk
        have kk := kk.under hbk
        generalize wn58.heap.size = gm at *
        clear hbk
        refine hK.out _ _ trivial (fun hHeld => ?_)
        clear hK K hHeld
        try simp only [List.getElem_toArray, List.getElem_cons_succ, List.getElem_cons_zero, Act.put, List.setIfInBounds_toArray, List.set_cons_zero, List.set_cons_succ]
        refine wpAnyH_ready (rs := [6]) (by kernel_rfl) (by simp) ?_
        refine AllReadyH.cons rfl (fun K hK => ?_) AllReadyH.nil
        have hlk := HLK.out wn64 gm hmap
        go_simp
        clear hlk
        refine hK.out _ _ trivial (fun hHeld => ?_)
        clear hK K hHeld
        try simp only [List.getElem_toArray, List.getElem_cons_succ, List.getElem_cons_zero, Act.put, List.setIfInBounds_toArray, List.set_cons_zero, List.set_cons_succ]
        refine wpAnyH_take (i := 7) (v := ?_) rfl (by kernel_rfl) (by kernel_rfl) (by kernel_rfl) (fun _ _ _ h => h) (Or.inl ⟨by rfl, ?_⟩) (by assumption) ?_
        rotate_left
        · intro W hW
          go_simp
          try rfl
        simp only [List.getElem_toArray, List.getElem_cons_succ, List.getElem_cons_zero, Act.put, List.setIfInBounds_toArray, List.set_cons_zero, List.set_cons_succ]
        refine wpAnyH_take (i := 8) (v := ?_) rfl (by kernel_rfl) (by kernel_rfl) (by kernel_rfl) (fun _ _ _ h => h) (Or.inl ⟨by rfl, ?_⟩) (by assumption) ?_
        rotate_left
        · intro W hW
          go_simp
          try rfl
        simp only [List.getElem_toArray, List.getElem_cons_succ, List.getElem_cons_zero, Act.put, List.setIfInBounds_toArray, List.set_cons_zero, List.set_cons_succ]
        refine wpAnyH_take (i := 9) (v := ?_) rfl (by kernel_rfl) (by kernel_rfl) (by kernel_rfl) (fun _ _ _ h => h) (Or.inl ⟨by rfl, ?_⟩) (by assumption) ?_
        rotate_left
        · intro W hW
          go_simp
          try rfl
        simp only [List.getElem_toArray, List.getElem_cons_succ, List.getElem_cons_zero, Act.put, List.setIfInBounds_toArray, List.set_cons_zero, List.set_cons_succ]
        refine wpAnyH_ready (rs := [11]) (by kernel_rfl) (by simp) ?_
        refine AllReadyH.cons rfl (fun K hK => ?_) AllReadyH.nil
        obtain ⟨y0, y1, y2, y3, y4⟩ := kk.two
        go_simp
        clear y0 y1 y2 y3 y4
        refine hK.out _ _ trivial (fun hHeld => ?_)
        clear hK K hHeld
        try simp only [List.getElem_toArray, List.getElem_cons_succ, List.getElem_cons_zero, Act.put, List.setIfInBounds_toArray, List.set_cons_zero, List.set_cons_succ]
        refine wpAnyH_take (i := 12) (v := ?_) rfl (by kernel_rfl) (by kernel_rfl) (by kernel_rfl) (fun _ _ _ h => h) (Or.inl ⟨by rfl, ?_⟩) (by assumption) ?_
        rotate_left
        · intro W hW
          go_simp
          try rfl
        simp only [List.getElem_toArray, List.getElem_cons_succ, List.getElem_cons_zero, Act.put, List.setIfInBounds_toArray, List.set_cons_zero, List.set_cons_succ]
        refine wpAnyH_done (by kernel_rfl) ?_ _
        have hgg : gk ≠ g := by have := HG.out; omega
        go_wp2_with fail
        go_meet
        exact ⟨gk, rfl, rfl, kk.set2 _ _, (kt3.far (p := ⟨gk, 0, none⟩) hgg.symm _).far (p := ⟨gk, 1, none⟩) hgg.symm _, (kr3.far (p := ⟨gk, 0, none⟩) (by simp; omega) _).far (p := ⟨gk, 1, none⟩) (by simp; omega) _, (hb3.setn (p := ⟨gk, 0, none⟩) (by simp; omega) _).setn (p := ⟨gk, 1, none⟩) (by simp; omega) _, hgk⟩
  case rest =>
    obtain ⟨gk, rfl, rfl, kk, kt, kr, hb, hgk⟩ := hcut
    clear kt3 kr3 hb3
    have hgg : gk ≠ g := by have := HG.out; omega
    have hs := HS.out.but hb HT.out
    go_wp2_with fail
    refine (need_t _ _).mono ?_
    rintro e w6 ⟨rfl, rfl⟩
    have HNM := hid (name_c kt hs)
    cases hnm : nameS bs (z + 1) with
    | error x =>
      have HR2 := hid (show r = .error x by rw [HR1.out]; simp only [hnm])
      rw [hnm] at HNM
      have HBB := hid hb
      clear hb kt kr kk hs hnm HR1
      go_wp2_with fail
      refine HNM.out.mono ?_
      rintro e w7 ⟨rfl, hb7⟩
      exact ⟨rfl, by rw [HR2.out]; exact ⟨rfl, HBB.out.trans hb7⟩⟩
    | ok q =>
      obtain ⟨l, p⟩ := q
      have HR2 := hid (show r = bodyS bs kd l p by rw [HR1.out]; simp only [hnm])
      rw [hnm] at HNM
      have HKT := hid kt.typed
      clear hnm HR1
      go_wp2_with fail
      refine HNM.out.mono ?_
      rintro e w7 ⟨rfl, hb7, kt7⟩
      have kk := kk.but hb7 hgg
      have kr := kr.but hb7 hgr
      have hs := hs.but hb7 HKT.out
      have hb := hb.trans hb7
      have HS7 := hid hs
      have HB7 := hid hb
      have HKR7 := hid kr
      have HK7 := hid kt7
      clear hs hb kr kt7 hb7 kt HNM HKT
      obtain ⟨kk0, kk1, kk2, kk3, kk4⟩ := kk.two
      have hcs : kd = 1 ∨ kd = 2 ∨ kd = 3 ∨ kd = 4 := by have := HKD.out; omega
      rcases hcs with rfl | rfl | rfl | rfl
      · have hkf := HKF.out
        cases hkf
        clear HKF
        have HC := hid (getBound_c HK7.out HS7.out)
        cases hq : boundS bs p with
        | error x =>
          have HRK := hid (show r = .error x by rw [HR2.out]; unfold bodyS; simp only [hq, if_true, if_false, show (2 : Nat) = 1 ↔ False by decide, show (3 : Nat) = 1 ↔ False by decide, show (3 : Nat) = 2 ↔ False by decide, show (4 : Nat) = 1 ↔ False by decide, show (4 : Nat) = 2 ↔ False by decide, show (4 : Nat) = 3 ↔ False by decide])
          rw [hq] at HC
          clear hq
          go_wp2_with fail
          refine HC.out.mono ?_
          rintro e w8 ⟨rfl, hb8⟩
          exact ⟨rfl, by rw [HRK.out]; exact ⟨rfl, HB7.out.trans hb8⟩⟩
        | ok q =>
          obtain ⟨a, q⟩ := q
          have HRK := hid (show r = .ok (⟨1, strN l, (a.1 : Nat), 0, a.2, []⟩, q) by rw [HR2.out]; unfold bodyS; simp only [hq, if_true, if_false, show (2 : Nat) = 1 ↔ False by decide, show (3 : Nat) = 1 ↔ False by decide, show (3 : Nat) = 2 ↔ False by decide, show (4 : Nat) = 1 ↔ False by decide, show (4 : Nat) = 2 ↔ False by decide, show (4 : Nat) = 3 ↔ False by decide])
          rw [hq] at HC
          clear hq
          go_wp2_with fail
          refine HC.out.mono ?_
          rintro e w8 ⟨rfl, hb8, kt8⟩
          have kr8 := HKR7.out.but hb8 hgr
          have hb9 := HB7.out.trans hb8
          obtain ⟨t0, t1, t2, t3, t4, t5, g0, g1, g2, g3, g4, g5⟩ := kt8.tape5
          obtain ⟨s0, s1, s2, s3, s4, s5, i0, i1, i2, i3, i4, i5⟩ := kr8.six
          go_wp2
          refine ret_mu rfl rfl rfl (((((((kr8.set_ 0 _).set_ 1 _).set_ 2 _).set_ 3 _).set_ 4 _).set_ 5 _)) ?_
          rw [HRK.out]
          exact ⟨none, 0, rfl, hb9.set6 (.inl (Nat.le_refl _)) _ _ _ _ _ _, kt8.far6 hgr.symm _ _ _ _ _ _, World.ownsRow_nil _ _ _ _⟩
      · have hkf := HKF.out
        cases hkf
        clear HKF
        have HRK := hid (show r = .ok (⟨2, strN l, 0, 0, 0, []⟩, p) by rw [HR2.out]; unfold bodyS; simp only [if_true, if_false, show (2 : Nat) = 1 ↔ False by decide, show (3 : Nat) = 1 ↔ False by decide, show (3 : Nat) = 2 ↔ False by decide, show (4 : Nat) = 1 ↔ False by decide, show (4 : Nat) = 2 ↔ False by decide, show (4 : Nat) = 3 ↔ False by decide])
        have HK8 := HK7.out
        have kr8 := HKR7.out
        have hb9 := HB7.out
        go_wp2_with fail
        refine (nothing_c _ _).mono ?_
        rintro e w8 ⟨rfl, rfl⟩
        obtain ⟨t0, t1, t2, t3, t4, t5, g0, g1, g2, g3, g4, g5⟩ := HK8.tape5
        obtain ⟨s0, s1, s2, s3, s4, s5, i0, i1, i2, i3, i4, i5⟩ := kr8.six
        go_wp2
        refine ret_mu rfl rfl rfl (((((((kr8.set_ 0 _).set_ 1 _).set_ 2 _).set_ 3 _).set_ 4 _).set_ 5 _)) ?_
        rw [HRK.out]
        exact ⟨none, 0, rfl, hb9.set6 (.inl (Nat.le_refl _)) _ _ _ _ _ _, HK8.far6 hgr.symm _ _ _ _ _ _, World.ownsRow_nil _ _ _ _⟩
      · have hkf := HKF.out
        cases hkf
        clear HKF
        have HC := hid (getPoints_c HK7.out HS7.out)
        cases hq : pointsS bs p with
        | error x =>
          have HRK := hid (show r = .error x by rw [HR2.out]; unfold bodyS; simp only [hq, if_true, if_false, show (2 : Nat) = 1 ↔ False by decide, show (3 : Nat) = 1 ↔ False by decide, show (3 : Nat) = 2 ↔ False by decide, show (4 : Nat) = 1 ↔ False by decide, show (4 : Nat) = 2 ↔ False by decide, show (4 : Nat) = 3 ↔ False by decide])
          rw [hq] at HC
          clear hq
          go_wp2_with fail
          refine HC.out.mono ?_
          rintro e w8 ⟨rfl, hb8⟩
          exact ⟨rfl, by rw [HRK.out]; exact ⟨rfl, HB7.out.trans hb8⟩⟩
        | ok q =>
          obtain ⟨pl, q⟩ := q
          have HRK := hid (show r = .ok (⟨3, strN l, 0, 0, 0, pl⟩, q) by rw [HR2.out]; unfold bodyS; simp only [hq, if_true, if_false, show (2 : Nat) = 1 ↔ False by decide, show (3 : Nat) = 1 ↔ False by decide, show (3 : Nat) = 2 ↔ False by decide, show (4 : Nat) = 1 ↔ False by decide, show (4 : Nat) = 2 ↔ False by decide, show (4 : Nat) = 3 ↔ False by decide])
          rw [hq] at HC
          clear hq
          go_wp2_with fail
          refine HC.out.mono ?_
          rintro e w8 ⟨C, f, ⟨rfl, hb8, kt8⟩, hown⟩
          have kr8 := HKR7.out.but hb8 hgr
          have hb9 := HB7.out.trans hb8
          obtain ⟨t0, t1, t2, t3, t4, t5, g0, g1, g2, g3, g4, g5⟩ := kt8.tape5
          obtain ⟨s0, s1, s2, s3, s4, s5, i0, i1, i2, i3, i4, i5⟩ := kr8.six
          go_wp2
          refine ret_mu rfl rfl rfl (((((((kr8.set_ 0 _).set_ 1 _).set_ 2 _).set_ 3 _).set_ 4 _).set_ 5 _)) ?_
          rw [HRK.out]
          exact ⟨C, f, rfl, hb9.set6 (.inl (Nat.le_refl _)) _ _ _ _ _ _, kt8.far6 hgr.symm _ _ _ _ _ _, own_base (own_far6 hown HKR7.out.lt _ _ _ _ _ _) HB7.out.size⟩
      · have hkf := HKF.out
        cases hkf
        clear HKF
        have HC := hid (getFloor_c HK7.out HS7.out)
        cases hq : plainS bs 281474976710656 p with
        | error x =>
          have HRK := hid (show r = .error x by rw [HR2.out]; unfold bodyS; simp only [hq, if_true, if_false, show (2 : Nat) = 1 ↔ False by decide, show (3 : Nat) = 1 ↔ False by decide, show (3 : Nat) = 2 ↔ False by decide, show (4 : Nat) = 1 ↔ False by decide, show (4 : Nat) = 2 ↔ False by decide, show (4 : Nat) = 3 ↔ False by decide])
          rw [hq] at HC
          clear hq
          go_wp2_with fail
          refine HC.out.mono ?_
          rintro e w8 ⟨rfl, hb8⟩
          exact ⟨rfl, by rw [HRK.out]; exact ⟨rfl, HB7.out.trans hb8⟩⟩
        | ok q =>
          obtain ⟨fl, q⟩ := q
          have HRK := hid (show r = .ok (⟨4, strN l, 0, (fl : Nat), 0, []⟩, q) by rw [HR2.out]; unfold bodyS; simp only [hq, if_true, if_false, show (2 : Nat) = 1 ↔ False by decide, show (3 : Nat) = 1 ↔ False by decide, show (3 : Nat) = 2 ↔ False by decide, show (4 : Nat) = 1 ↔ False by decide, show (4 : Nat) = 2 ↔ False by decide, show (4 : Nat) = 3 ↔ False by decide])
          rw [hq] at HC
          clear hq
          go_wp2_with fail
          refine HC.out.mono ?_
          rintro e w8 ⟨rfl, hb8, kt8⟩
          have kr8 := HKR7.out.but hb8 hgr
          have hb9 := HB7.out.trans hb8
          obtain ⟨t0, t1, t2, t3, t4, t5, g0, g1, g2, g3, g4, g5⟩ := kt8.tape5
          obtain ⟨s0, s1, s2, s3, s4, s5, i0, i1, i2, i3, i4, i5⟩ := kr8.six
          go_wp2
          refine ret_mu rfl rfl rfl (((((((kr8.set_ 0 _).set_ 1 _).set_ 2 _).set_ 3 _).set_ 4 _).set_ 5 _)) ?_
          rw [HRK.out]
          exact ⟨none, 0, rfl, hb9.set6 (.inl (Nat.le_refl _)) _ _ _ _ _ _, kt8.far6 hgr.symm _ _ _ _ _ _, World.ownsRow_nil _ _ _ _⟩
end
end Go.Proofs.Ytedojdbihajnbaa
