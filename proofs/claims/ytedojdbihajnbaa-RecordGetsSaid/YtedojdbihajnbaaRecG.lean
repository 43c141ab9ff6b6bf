/- Contracts of record: tries (seat Record). -/
import Derived.Test.YtedojdbihajnbaaRecF
import Derived.Defers
import Derived.Recover
import Derived.Laws.Pointers
namespace Go.Proofs.Ytedojdbihajnbaa
open Go.RowKit Go.Shelf VB
open Go.Lib (hid)
set_option linter.unusedVariables false
set_option linter.unusedSimpArgs false
set_option maxHeartbeats 400000 in
theorem catch_mu {gp gq : Nat} {a0 a1 a2 a3 a4 a5 y : Value} (x : Int) (older : List PanicEntry) (w : World) (kp : Blk w gp 24 #[a0, a1, a2, a3, a4, a5]) (kq : Blk w gq 27 #[y]) (hne : gq ≠ gp) :
    CallsD Try.prog 66 #[.pointer (some ⟨gp, 0, none⟩), .pointer (some ⟨gq, 0, none⟩)] (.panicking ({ v := .iface 27 (.int .i64 x), recovered := false } :: older)) w fun e u' w' =>
      e = .returned (.tuple #[]) ∧ u' = .panicking ({ v := .iface 27 (.int .i64 x), recovered := true } :: older) ∧ Hid (w' = ((set6 w gp (.int .i64 0) (.string ⟨#[]⟩) (.int .i64 0) (.int .i64 0) (.int .i64 0) (.slice none 0 0)).setCell ⟨gq, 0, none⟩ (.int .i64 x)).alloc zMu) := by
  obtain ⟨c0, c1, c2, c3, c4, c5, f0, f1, f2, f3, f4, f5⟩ := kp.six
  have d0 : w.cell? ⟨gq, 0, none⟩ = some y := kq.cell 0
  have d1 : w.frozen? ⟨gq, 0, none⟩ = false := kq.frozen 0
  have hlt : gp < w.heap.size := kp.lt
  have hlt2 : gq < w.heap.size := kq.lt
  refine callsD_of_wpS Try.func66 rfl fun c₀ cs hu => ?_
  apply wpS_seq
  apply wpS_region
  simp [wpOpsS, go_sem, recoverD, hu, Try.ntmps66, Exit.thenS]
  refine wpS_of_wp ?_
  have hta : ∀ w : World, (Instr.typeAssert (.iface 27 (.int .i64 x)) 20 27 true).run Try.prog w = .ok (.tuple #[.int .i64 x, .bool true]) w := fun w => by kernel_rfl
  simp only [Array.replicate_succ, Array.replicate_zero, List.push_toArray, List.append_toArray, List.nil_append, List.cons_append, List.setIfInBounds_toArray, List.set_cons_zero, List.set_cons_succ]
  go_wp2
  simp_all [bodyPostS, results, Try.results66]
  exact hid trivial
theorem idle_mu (p q : Addr) (w : World) :
    CallsD Try.prog 66 #[.pointer (some p), .pointer (some q)] .returning w fun e u' w' => e = .returned (.tuple #[]) ∧ u' = .returning ∧ w' = w := by
  refine callsD_of_wpS Try.func66 rfl fun c₀ cs hu => ?_
  apply wpS_seq
  apply wpS_region
  simp [wpOpsS, go_sem, recoverD, hu, Try.ntmps66, Exit.thenS]
  refine wpS_of_wp ?_
  simp only [Array.replicate_succ, Array.replicate_zero, List.push_toArray, List.append_toArray, List.nil_append, List.cons_append, List.setIfInBounds_toArray, List.set_cons_zero, List.set_cons_succ]
  go_wp2
  cases c₀
  simp_all [bodyPostS, results, Try.results66]
theorem Blk.all6 {w : World} {g : Nat} {t : TypeId} {a b c d e f a' b' c' d' e' f' : Value} (h : Blk w g t #[a, b, c, d, e, f]) : Blk (set6 w g a' b' c' d' e' f') g t #[a', b', c', d', e', f'] :=
  (((((h.set_ 0 _).set_ 1 _).set_ 2 _).set_ 3 _).set_ 4 _).set_ 5 _
/-- what Get's tries hands back -/
def RetTr (r : Except Int (Mu × Nat)) (B : Option Addr) (n c : Nat) (g : Nat) (w : World) (e : Ending) (w' : World) : Prop :=
  match r with
  | .ok (m, p) => ∃ A f, e = .returned (.tuple #[vM m A f, .int .i64 0]) ∧ But g w w' ∧ Blk w' g 64 (tapeM m A f B n c p) ∧ w'.ownsRow w.heap.size 51 2 (.slice A m.pts.length f) m.pts.length (m.pts.flatMap cellsP)
  | .error x => e = .returned (.tuple #[.agg zMuC, .int .i64 x]) ∧ But g w w'
section
variable {w : World} {g : Nat} {k : Int} {nm : ByteArray} {ep fl sc : Int} {P : Value} {B : Option Addr} {n c : Nat} {bs : List Nat}
set_option maxRecDepth 100000 in
set_option maxHeartbeats 1000000 in
theorem tries_mu {z : Nat} (kt : Blk w g 64 (tapeC k nm ep fl sc P B n c z)) (hs : Src w B n c bs) :
    Calls Try.prog 45 #[.func (.func 46) #[.pointer (some ⟨g, 0, none⟩)] #[]] w (RetTr (mutS bs z) B n c g w) := by
  have hmf : ∀ (fn : Fn) (first cap : Array Value) (w : World), (Instr.makeFunc fn first cap).run Try.prog w = .ok (.func fn first cap) w := fun _ _ _ _ => rfl
  have HM := hid (mutation_c ((kt.alloc zMu).alloc (.cells #[.int .i64 0] 27)) ((hs.alloc zMu).alloc (.cells #[.int .i64 0] 27)))
  have kp := (Blk.new w 24 zMuC).alloc (.cells #[.int .i64 0] 27)
  have kq := Blk.new_at (g := w.heap.size + 1) (w.alloc zMu) 27 #[.int .i64 0] (by simp)
  have HB := hid (((But.refl g w).alloc zMu).alloc (.cells #[.int .i64 0] 27))
  have hg := kt.lt
  clear kt hs
  cases hm : mutS bs z with
  | error x =>
    rw [hm] at HM
    clear hm
    show Calls _ _ _ w fun e w' => e = .returned (.tuple #[.agg zMuC, .int .i64 x]) ∧ But g w w'
    go_enter_defers Try.func45, Try.ntmps45
    go_wp2_with fail
    refine HM.out.mono ?_
    rintro e w2 ⟨rfl, hb2⟩
    have hgp : w.heap.size ≠ g := by omega
    have kp2 := kp.but hb2 hgp
    have kq2 := kq.but hb2 (by omega)
    have HB2 := hid (HB.out.trans hb2)
    clear kp kq HB hb2 HM
    refine leaves_cons (f := 66) (args := #[.pointer (some ⟨w.heap.size, 0, none⟩), .pointer (some ⟨w.heap.size + 1, 0, none⟩)]) (by simp) (by simp [go_sem]) ?_
    refine (catch_mu x [] w2 kp2 kq2 (by omega)).mono ?_
    rintro e u' w'' ⟨rfl, rfl, hw⟩
    have kp3 := ((kp2.all6 (a' := .int .i64 0) (b' := .string ⟨#[]⟩) (c' := .int .i64 0) (d' := .int .i64 0) (e' := .int .i64 0) (f' := .slice none 0 0)).far (p := ⟨w.heap.size + 1, 0, none⟩) (by simp) (.int .i64 x)).alloc zMu
    have kq3 : Blk _ (w.heap.size + 1) 27 #[.int .i64 x] := ((kq2.far6 (q := w.heap.size) (by omega) (.int .i64 0) (.string ⟨#[]⟩) (.int .i64 0) (.int .i64 0) (.int .i64 0) (.slice none 0 0)).set_ 0 (.int .i64 x)).alloc zMu
    have hb3 := ((HB2.out.set6 (q := w.heap.size) (.inl (Nat.le_refl _)) (.int .i64 0) (.string ⟨#[]⟩) (.int .i64 0) (.int .i64 0) (.int .i64 0) (.slice none 0 0)).setn (p := ⟨w.heap.size + 1, 0, none⟩) (by simp) (.int .i64 x)).alloc zMu
    rw [← hw.out] at kp3 kq3 hb3
    obtain ⟨c0, c1, c2, c3, c4, c5, _⟩ := kp3.six
    have d0 := kq3.cell 0
    simp only [List.getElem?_toArray, List.getElem?_cons_zero] at d0
    simp [Leaves, settle, results, Try.results45, go_sem, c0, c1, c2, c3, c4, c5, d0]
    exact hb3
  | ok q =>
    obtain ⟨m, p⟩ := q
    rw [hm] at HM
    clear hm
    show Calls _ _ _ w fun e w' => ∃ A f, e = .returned (.tuple #[vM m A f, .int .i64 0]) ∧ But g w w' ∧ Blk w' g 64 (tapeM m A f B n c p) ∧ w'.ownsRow w.heap.size 51 2 (.slice A m.pts.length f) m.pts.length (m.pts.flatMap cellsP)
    go_enter_defers Try.func45, Try.ntmps45
    go_wp2_with fail
    refine HM.out.mono ?_
    rintro e w2 ⟨A, f, rfl, hb2, kt2, hown⟩
    have hgp : w.heap.size ≠ g := by omega
    have kp2 := kp.but hb2 hgp
    have kq2 := kq.but hb2 (by omega)
    have HB2 := hid (HB.out.trans hb2)
    have HKT := hid kt2
    have HOW := hid hown
    clear kp kq HB hb2 HM kt2 hown
    obtain ⟨c0, c1, c2, c3, c4, c5, f0, f1, f2, f3, f4, f5⟩ := kp2.six
    obtain ⟨d0, d1⟩ := (show w2.cell? ⟨w.heap.size + 1, 0, none⟩ = some (.int .i64 0) ∧ w2.frozen? ⟨w.heap.size + 1, 0, none⟩ = false from ⟨kq2.cell 0, kq2.frozen 0⟩)
    go_wp2
    have kp3 : Blk (((((((w2.setCell ⟨w.heap.size, 0, none⟩ (.int .i64 m.kind)).setCell ⟨w.heap.size, 1, none⟩ (.string m.name)).setCell ⟨w.heap.size, 2, none⟩ (.int .i64 m.eps)).setCell ⟨w.heap.size, 3, none⟩ (.int .i64 m.floor)).setCell ⟨w.heap.size, 4, none⟩ (.int .i64 m.scale)).setCell ⟨w.heap.size, 5, none⟩ (.slice A m.pts.length f)).setCell ⟨w.heap.size + 1, 0, none⟩ (.int .i64 0)) w.heap.size 24 _ := (kp2.all6 (a' := .int .i64 m.kind) (b' := .string m.name) (c' := .int .i64 m.eps) (d' := .int .i64 m.floor) (e' := .int .i64 m.scale) (f' := .slice A m.pts.length f)).far (p := ⟨w.heap.size + 1, 0, none⟩) (by simp) (.int .i64 0)
    have kq3 : Blk (((((((w2.setCell ⟨w.heap.size, 0, none⟩ (.int .i64 m.kind)).setCell ⟨w.heap.size, 1, none⟩ (.string m.name)).setCell ⟨w.heap.size, 2, none⟩ (.int .i64 m.eps)).setCell ⟨w.heap.size, 3, none⟩ (.int .i64 m.floor)).setCell ⟨w.heap.size, 4, none⟩ (.int .i64 m.scale)).setCell ⟨w.heap.size, 5, none⟩ (.slice A m.pts.length f)).setCell ⟨w.heap.size + 1, 0, none⟩ (.int .i64 0)) (w.heap.size + 1) 27 #[.int .i64 0] := (kq2.far6 (q := w.heap.size) (by omega) (.int .i64 m.kind) (.string m.name) (.int .i64 m.eps) (.int .i64 m.floor) (.int .i64 m.scale) (.slice A m.pts.length f)).set_ 0 (.int .i64 0)
    have hb3 : But g w (((((((w2.setCell ⟨w.heap.size, 0, none⟩ (.int .i64 m.kind)).setCell ⟨w.heap.size, 1, none⟩ (.string m.name)).setCell ⟨w.heap.size, 2, none⟩ (.int .i64 m.eps)).setCell ⟨w.heap.size, 3, none⟩ (.int .i64 m.floor)).setCell ⟨w.heap.size, 4, none⟩ (.int .i64 m.scale)).setCell ⟨w.heap.size, 5, none⟩ (.slice A m.pts.length f)).setCell ⟨w.heap.size + 1, 0, none⟩ (.int .i64 0)) := (HB2.out.set6 (q := w.heap.size) (.inl (Nat.le_refl _)) (.int .i64 m.kind) (.string m.name) (.int .i64 m.eps) (.int .i64 m.floor) (.int .i64 m.scale) (.slice A m.pts.length f)).setn (p := ⟨w.heap.size + 1, 0, none⟩) (by simp) (.int .i64 0)
    have kt3 : Blk (((((((w2.setCell ⟨w.heap.size, 0, none⟩ (.int .i64 m.kind)).setCell ⟨w.heap.size, 1, none⟩ (.string m.name)).setCell ⟨w.heap.size, 2, none⟩ (.int .i64 m.eps)).setCell ⟨w.heap.size, 3, none⟩ (.int .i64 m.floor)).setCell ⟨w.heap.size, 4, none⟩ (.int .i64 m.scale)).setCell ⟨w.heap.size, 5, none⟩ (.slice A m.pts.length f)).setCell ⟨w.heap.size + 1, 0, none⟩ (.int .i64 0)) g 64 (tapeM m A f B n c p) := (HKT.out.far6 (q := w.heap.size) hgp.symm (.int .i64 m.kind) (.string m.name) (.int .i64 m.eps) (.int .i64 m.floor) (.int .i64 m.scale) (.slice A m.pts.length f)).far (p := ⟨w.heap.size + 1, 0, none⟩) (by simp; omega) (.int .i64 0)
    have ho3 : (((((((w2.setCell ⟨w.heap.size, 0, none⟩ (.int .i64 m.kind)).setCell ⟨w.heap.size, 1, none⟩ (.string m.name)).setCell ⟨w.heap.size, 2, none⟩ (.int .i64 m.eps)).setCell ⟨w.heap.size, 3, none⟩ (.int .i64 m.floor)).setCell ⟨w.heap.size, 4, none⟩ (.int .i64 m.scale)).setCell ⟨w.heap.size, 5, none⟩ (.slice A m.pts.length f)).setCell ⟨w.heap.size + 1, 0, none⟩ (.int .i64 0)).ownsRow w.heap.size 51 2 (.slice A m.pts.length f) m.pts.length (m.pts.flatMap cellsP) := own_base (own_far (own_far6 HOW.out (q := w.heap.size) (by simp only [World.size_alloc]; omega) (.int .i64 m.kind) (.string m.name) (.int .i64 m.eps) (.int .i64 m.floor) (.int .i64 m.scale) (.slice A m.pts.length f)) (a := ⟨w.heap.size + 1, 0, none⟩) (by simp only [World.size_alloc]; omega) (.int .i64 0)) (by simp only [World.size_alloc]; omega)
    clear c0 c1 c2 c3 c4 c5 f0 f1 f2 f3 f4 f5 d0 d1 kp2 kq2 HB2 HKT HOW
    generalize ((((((w2.setCell ⟨w.heap.size, 0, none⟩ (.int .i64 m.kind)).setCell ⟨w.heap.size, 1, none⟩ (.string m.name)).setCell ⟨w.heap.size, 2, none⟩ (.int .i64 m.eps)).setCell ⟨w.heap.size, 3, none⟩ (.int .i64 m.floor)).setCell ⟨w.heap.size, 4, none⟩ (.int .i64 m.scale)).setCell ⟨w.heap.size, 5, none⟩ (.slice A m.pts.length f)).setCell ⟨w.heap.size + 1, 0, none⟩ (.int .i64 0) = w3 at *
    refine leaves_cons (f := 66) (args := #[.pointer (some ⟨w.heap.size, 0, none⟩), .pointer (some ⟨w.heap.size + 1, 0, none⟩)]) (by simp) (by simp [go_sem]) ?_
    refine (idle_mu _ _ _).mono ?_
    rintro e u' w'' ⟨rfl, rfl, rfl⟩
    obtain ⟨c0, c1, c2, c3, c4, c5, _⟩ := kp3.six
    have d0 := kq3.cell 0
    simp only [List.getElem?_toArray, List.getElem?_cons_zero] at d0
    have HA := hid (show ∃ A' f', Ending.returned (.tuple #[vM m A f, .int .i64 0]) = .returned (.tuple #[vM m A' f', .int .i64 0]) ∧ But g w w'' ∧ Blk w'' g 64 (tapeM m A' f' B n c p) ∧ w''.ownsRow w.heap.size 51 2 (.slice A' m.pts.length f') m.pts.length (m.pts.flatMap cellsP) from ⟨A, f, rfl, hb3, kt3, ho3⟩)
    refine ⟨.tuple #[vM m A f, .int .i64 0], ?_, HA.out⟩
    simp [results, Try.results45, go_sem, c0, c1, c2, c3, c4, c5, d0]
end
end Go.Proofs.Ytedojdbihajnbaa
