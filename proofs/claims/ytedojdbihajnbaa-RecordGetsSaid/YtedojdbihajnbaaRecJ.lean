/- Contracts of record: tries of a row, Rows (seat Record). -/
import Derived.Test.YtedojdbihajnbaaRecI
namespace Go.Proofs.Ytedojdbihajnbaa
open Go.RowKit Go.Shelf VB
open Go.Lib (hid)
set_option linter.unusedVariables false
set_option linter.unusedSimpArgs false
abbrev oNil : Obj := .cells #[.slice none 0 0] 38
abbrev oErr : Obj := .cells #[.int .i64 0] 27
set_option maxHeartbeats 400000 in
theorem catch_rs {gp gq : Nat} {a0 y : Value} (x : Int) (older : List PanicEntry) (w : World) (kp : Blk w gp 38 #[a0]) (kq : Blk w gq 27 #[y]) (hne : gq ≠ gp) :
    CallsD Try.prog 73 #[.pointer (some ⟨gp, 0, none⟩), .pointer (some ⟨gq, 0, none⟩)] (.panicking ({ v := .iface 27 (.int .i64 x), recovered := false } :: older)) w fun e u' w' =>
      e = .returned (.tuple #[]) ∧ u' = .panicking ({ v := .iface 27 (.int .i64 x), recovered := true } :: older) ∧ Hid (w' = (w.setCell ⟨gp, 0, none⟩ (.slice none 0 0)).setCell ⟨gq, 0, none⟩ (.int .i64 x)) := by
  obtain ⟨c0, f0⟩ := (show w.cell? ⟨gp, 0, none⟩ = some a0 ∧ w.frozen? ⟨gp, 0, none⟩ = false from ⟨kp.cell 0, kp.frozen 0⟩)
  have d0 : w.cell? ⟨gq, 0, none⟩ = some y := kq.cell 0
  have d1 : w.frozen? ⟨gq, 0, none⟩ = false := kq.frozen 0
  have hlt : gp < w.heap.size := kp.lt
  have hlt2 : gq < w.heap.size := kq.lt
  refine callsD_of_wpS Try.func73 rfl fun c₀ cs hu => ?_
  apply wpS_seq
  apply wpS_region
  simp [wpOpsS, go_sem, recoverD, hu, Try.ntmps73, Exit.thenS]
  refine wpS_of_wp ?_
  have hta : ∀ w : World, (Instr.typeAssert (.iface 27 (.int .i64 x)) 20 27 true).run Try.prog w = .ok (.tuple #[.int .i64 x, .bool true]) w := fun w => by kernel_rfl
  simp only [Array.replicate_succ, Array.replicate_zero, List.push_toArray, List.append_toArray, List.nil_append, List.cons_append, List.setIfInBounds_toArray, List.set_cons_zero, List.set_cons_succ]
  go_wp2
  simp_all [bodyPostS, results, Try.results73]
  exact hid trivial
theorem idle_rs (p q : Addr) (w : World) :
    CallsD Try.prog 73 #[.pointer (some p), .pointer (some q)] .returning w fun e u' w' => e = .returned (.tuple #[]) ∧ u' = .returning ∧ w' = w := by
  refine callsD_of_wpS Try.func73 rfl fun c₀ cs hu => ?_
  apply wpS_seq
  apply wpS_region
  simp [wpOpsS, go_sem, recoverD, hu, Try.ntmps73, Exit.thenS]
  refine wpS_of_wp ?_
  simp only [Array.replicate_succ, Array.replicate_zero, List.push_toArray, List.append_toArray, List.nil_append, List.cons_append, List.setIfInBounds_toArray, List.set_cons_zero, List.set_cons_succ]
  go_wp2
  cases c₀
  simp_all [bodyPostS, results, Try.results73]
theorem OwnPts.base {w : World} {B B0 E : Nat} (hB : B0 ≤ B) : ∀ {l : List MuA}, OwnPts w B l E → OwnPts w B0 l E
  | [], h => Nat.le_trans hB h
  | x :: l, ⟨B', h1, h2, h3, h4⟩ => ⟨B', Nat.le_trans hB h1, own_base h2 hB, h3, h4⟩
theorem OwnPts.far {w : World} {E q : Nat} {t : TypeId} {p : Addr} (hq : Typed w p.block t) (hne : t ≠ 51) (u : Value) {B : Nat} {l : List MuA} (h : OwnPts w B l E) : OwnPts (w.setCell p u) B l E :=
  h.keep fun b hb => Below.heap_setCell w p u b (ne_typed hb hq (Ne.symm hne))
/-- what the row's tries, and Rows, hand back -/
def RetRows (r : Except Int (List Mu)) (w : World) (e : Ending) (w' : World) : Prop :=
  match r with
  | .ok l => ∃ C f ms, ms.map Prod.fst = l ∧ e = .returned (.tuple #[.slice C l.length f, .int .i64 0]) ∧ w'.ownsRow w.heap.size 24 6 (.slice C l.length f) l.length (ms.flatMap cellsM) ∧ OwnPts w' w.heap.size ms w'.heap.size ∧ Below w.heap.size w w'
  | .error x => e = .returned (.tuple #[.slice none 0 0, .int .i64 x]) ∧ Below w.heap.size w w'
/-- the same, of a world in which the tape is there already -/
def RetTrs (r : Except Int (List Mu)) (g : Nat) (w : World) (e : Ending) (w' : World) : Prop :=
  match r with
  | .ok l => ∃ C f ms, ms.map Prod.fst = l ∧ e = .returned (.tuple #[.slice C l.length f, .int .i64 0]) ∧ w'.ownsRow w.heap.size 24 6 (.slice C l.length f) l.length (ms.flatMap cellsM) ∧ OwnPts w' w.heap.size ms w'.heap.size ∧ But g w w'
  | .error x => e = .returned (.tuple #[.slice none 0 0, .int .i64 x]) ∧ But g w w'
set_option maxRecDepth 100000 in
set_option maxHeartbeats 1000000 in
theorem tries_rs {B : Option Addr} {n c : Nat} {bs : List Nat} {w : World} {g gb gt : Nat} {k : Int} {nm : ByteArray} {ep fl sc : Int} {P : Value} {z0 : Nat} (hs : Src w B n c bs) (kb : Blk w gb 32 #[.slice B n c]) (kt : Blk w g 64 (tapeC k nm ep fl sc P B n c z0)) (kpt : Blk w gt 62 #[.pointer (some ⟨g, 0, none⟩)]) (hgb : gb ≠ g) (hgt : gt ≠ g) :
    Calls Try.prog 48 #[.func (.func 49) #[] #[.pointer (some ⟨gb, 0, none⟩), .pointer (some ⟨gt, 0, none⟩)]] w (RetTrs (rowsS bs) g w) := by
  have hmf : ∀ (fn : Fn) (first cap : Array Value) (w : World), (Instr.makeFunc fn first cap).run Try.prog w = .ok (.func fn first cap) w := fun _ _ _ _ => rfl
  have HM := hid (rows1_c ((hs.alloc oNil).alloc oErr) ((kb.alloc oNil).alloc oErr) ((kt.alloc oNil).alloc oErr) ((kpt.alloc oNil).alloc oErr) hgb hgt)
  have kp := (Blk.new w 38 #[.slice none 0 0]).alloc oErr
  have kq := Blk.new_at (g := w.heap.size + 1) (w.alloc oNil) 27 #[.int .i64 0] (by simp)
  have HB := hid (((But.refl g w).alloc oNil).alloc oErr)
  have hg := kt.lt
  clear kt hs kb kpt
  cases hm : rowsS bs with
  | error x =>
    rw [hm] at HM
    clear hm
    show Calls _ _ _ w fun e w' => e = .returned (.tuple #[.slice none 0 0, .int .i64 x]) ∧ But g w w'
    go_enter_defers Try.func48, Try.ntmps48
    go_wp2_with fail
    refine HM.out.mono ?_
    rintro e w2 ⟨rfl, hb2⟩
    have hgp : w.heap.size ≠ g := by omega
    have kp2 := kp.but hb2 hgp
    have kq2 := kq.but hb2 (by omega)
    have HB2 := hid (HB.out.trans hb2)
    clear kp kq HB hb2 HM
    refine leaves_cons (f := 73) (args := #[.pointer (some ⟨w.heap.size, 0, none⟩), .pointer (some ⟨w.heap.size + 1, 0, none⟩)]) (by simp) (by simp [go_sem]) ?_
    refine (catch_rs x [] w2 kp2 kq2 (by omega)).mono ?_
    rintro e u' w'' ⟨rfl, rfl, hw⟩
    have kp3 := (kp2.set_ 0 (.slice none 0 0)).far (p := ⟨w.heap.size + 1, 0, none⟩) (by simp) (.int .i64 x)
    have kq3 : Blk _ (w.heap.size + 1) 27 #[.int .i64 x] := (kq2.far (p := ⟨w.heap.size, 0, none⟩) (by simp) (.slice none 0 0)).set_ 0 (.int .i64 x)
    have hb3 := (HB2.out.setn (p := ⟨w.heap.size, 0, none⟩) (Nat.le_refl _) (.slice none 0 0)).setn (p := ⟨w.heap.size + 1, 0, none⟩) (by simp) (.int .i64 x)
    rw [← hw.out] at kp3 kq3 hb3
    have c0 := kp3.cell 0
    have d0 := kq3.cell 0
    simp only [List.setIfInBounds_toArray, List.set_cons_zero, List.getElem?_toArray, List.getElem?_cons_zero] at d0 c0
    simp [Leaves, settle, results, Try.results48, go_sem, c0, d0]
    exact hb3
  | ok l =>
    rw [hm] at HM
    clear hm
    show Calls _ _ _ w fun e w' => ∃ C f ms, ms.map Prod.fst = l ∧ e = .returned (.tuple #[.slice C l.length f, .int .i64 0]) ∧ w'.ownsRow w.heap.size 24 6 (.slice C l.length f) l.length (ms.flatMap cellsM) ∧ OwnPts w' w.heap.size ms w'.heap.size ∧ But g w w'
    go_enter_defers Try.func48, Try.ntmps48
    go_wp2_with fail
    refine HM.out.mono ?_
    rintro e w2 ⟨C, f, ms, hms, rfl, hown, hop, hb2⟩
    have hgp : w.heap.size ≠ g := by omega
    have kp2 := kp.but hb2 hgp
    have kq2 := kq.but hb2 (by omega)
    have HMS := hid hms
    have hgs : ((w.alloc oNil).alloc oErr).heap.size = w.heap.size + 2 := by simp
    rw [hgs] at hown hop
    have kp3 : Blk ((w2.setCell ⟨w.heap.size, 0, none⟩ (.slice C l.length f)).setCell ⟨w.heap.size + 1, 0, none⟩ (.int .i64 0)) w.heap.size _ _ := (kp2.set_ 0 (.slice C l.length f)).far (p := ⟨w.heap.size + 1, 0, none⟩) (by simp) (.int .i64 0)
    have kq3 : Blk ((w2.setCell ⟨w.heap.size, 0, none⟩ (.slice C l.length f)).setCell ⟨w.heap.size + 1, 0, none⟩ (.int .i64 0)) (w.heap.size + 1) 27 #[.int .i64 0] := (kq2.far (p := ⟨w.heap.size, 0, none⟩) (by simp) (.slice C l.length f)).set_ 0 (.int .i64 0)
    have hb3 : But g w ((w2.setCell ⟨w.heap.size, 0, none⟩ (.slice C l.length f)).setCell ⟨w.heap.size + 1, 0, none⟩ (.int .i64 0)) := ((HB.out.trans hb2).setn (p := ⟨w.heap.size, 0, none⟩) (Nat.le_refl _) _).setn (p := ⟨w.heap.size + 1, 0, none⟩) (by simp) _
    have ho3 : ((w2.setCell ⟨w.heap.size, 0, none⟩ (.slice C l.length f)).setCell ⟨w.heap.size + 1, 0, none⟩ (.int .i64 0)).ownsRow w.heap.size 24 6 (.slice C l.length f) l.length (ms.flatMap cellsM) := own_base (own_far (own_far hown (a := ⟨w.heap.size, 0, none⟩) (by simp) (.slice C l.length f)) (a := ⟨w.heap.size + 1, 0, none⟩) (by simp) (.int .i64 0)) (by omega)
    have hop3 : OwnPts ((w2.setCell ⟨w.heap.size, 0, none⟩ (.slice C l.length f)).setCell ⟨w.heap.size + 1, 0, none⟩ (.int .i64 0)) w.heap.size ms w2.heap.size := ((hop.base (by omega)).far (q := 0) (p := ⟨w.heap.size, 0, none⟩) kp2.typed (by decide) _).far (q := 0) (p := ⟨w.heap.size + 1, 0, none⟩) (kq2.typed.setCell _ _) (by decide) _
    have hsz3 : ((w2.setCell ⟨w.heap.size, 0, none⟩ (.slice C l.length f)).setCell ⟨w.heap.size + 1, 0, none⟩ (.int .i64 0)).heap.size = w2.heap.size := by simp
    rw [← hsz3] at hop3
    obtain ⟨c0, f0⟩ := (show w2.cell? ⟨w.heap.size, 0, none⟩ = some (.slice none 0 0) ∧ w2.frozen? ⟨w.heap.size, 0, none⟩ = false from ⟨kp2.cell 0, kp2.frozen 0⟩)
    obtain ⟨d0, d1⟩ := (show w2.cell? ⟨w.heap.size + 1, 0, none⟩ = some (.int .i64 0) ∧ w2.frozen? ⟨w.heap.size + 1, 0, none⟩ = false from ⟨kq2.cell 0, kq2.frozen 0⟩)
    clear kp kq HB hb2 HM hms hown hop kp2 kq2 hgs hsz3
    go_wp2
    clear c0 f0 d0 d1
    generalize (w2.setCell ⟨w.heap.size, 0, none⟩ (.slice C l.length f)).setCell ⟨w.heap.size + 1, 0, none⟩ (.int .i64 0) = w3 at *
    refine leaves_cons (f := 73) (args := #[.pointer (some ⟨w.heap.size, 0, none⟩), .pointer (some ⟨w.heap.size + 1, 0, none⟩)]) (by simp) (by simp [go_sem]) ?_
    refine (idle_rs _ _ _).mono ?_
    rintro e u' w'' ⟨rfl, rfl, rfl⟩
    have c0 := kp3.cell 0
    have d0 := kq3.cell 0
    simp only [List.setIfInBounds_toArray, List.set_cons_zero, List.getElem?_toArray, List.getElem?_cons_zero] at d0 c0
    have HA := hid (show ∃ C' f' ms', ms'.map Prod.fst = l ∧ Ending.returned (.tuple #[.slice C l.length f, .int .i64 0]) = .returned (.tuple #[.slice C' l.length f', .int .i64 0]) ∧ w''.ownsRow w.heap.size 24 6 (.slice C' l.length f') l.length (ms'.flatMap cellsM) ∧ OwnPts w'' w.heap.size ms' w''.heap.size ∧ But g w w'' from ⟨C, f, ms, HMS.out, rfl, ho3, hop3, hb3⟩)
    refine ⟨.tuple #[.slice C l.length f, .int .i64 0], ?_, HA.out⟩
    simp [results, Try.results48, go_sem, c0, d0]
set_option maxRecDepth 100000 in
set_option maxHeartbeats 1000000 in
theorem rows_c {B : Option Addr} {n c : Nat} {bs : List Nat} {w : World} (hs : Src w B n c bs) :
    Calls Try.prog 27 #[.slice B n c] w (RetRows (rowsS bs) w) := by
  have kb := ((Blk.new w 32 #[.slice B n c]).alloc (.cells (tapeC 0 ⟨#[]⟩ 0 0 0 (.slice none 0 0) B n c 0) 64)).alloc (.cells #[.pointer (some ⟨w.heap.size + 1, 0, none⟩)] 62)
  have kt := (Blk.new_at (g := w.heap.size + 1) (w.alloc (.cells #[.slice B n c] 32)) 64 (tapeC 0 ⟨#[]⟩ 0 0 0 (.slice none 0 0) B n c 0) (by simp)).alloc (.cells #[.pointer (some ⟨w.heap.size + 1, 0, none⟩)] 62)
  have kp := Blk.new_at (g := w.heap.size + 2) ((w.alloc (.cells #[.slice B n c] 32)).alloc (.cells (tapeC 0 ⟨#[]⟩ 0 0 0 (.slice none 0 0) B n c 0) 64)) 62 #[.pointer (some ⟨w.heap.size + 1, 0, none⟩)] (by simp)
  have hs3 := ((hs.alloc (.cells #[.slice B n c] 32)).alloc (.cells (tapeC 0 ⟨#[]⟩ 0 0 0 (.slice none 0 0) B n c 0) 64)).alloc (.cells #[.pointer (some ⟨w.heap.size + 1, 0, none⟩)] 62)
  have hb := (((Below.refl w.heap.size w).alloc (Nat.le_refl _) (.cells #[.slice B n c] 32)).alloc (by simp) (.cells (tapeC 0 ⟨#[]⟩ 0 0 0 (.slice none 0 0) B n c 0) 64)).alloc (by simp; omega) (.cells #[.pointer (some ⟨w.heap.size + 1, 0, none⟩)] 62)
  have HT := hid (tries_rs (z0 := 0) hs3 kb kt kp (by omega) (by omega))
  have hmf : ∀ (fn : Fn) (first cap : Array Value) (w : World), (Instr.makeFunc fn first cap).run Try.prog w = .ok (.func fn first cap) w := fun _ _ _ _ => rfl
  have HB := hid hb
  clear kb kt kp hs3 hs hb
  cases hm : rowsS bs with
  | error x =>
    rw [hm] at HT
    clear hm
    show Calls _ _ _ w fun e w' => e = .returned (.tuple #[.slice none 0 0, .int .i64 x]) ∧ Below w.heap.size w w'
    go_enter Try.func27, Try.ntmps27
    go_wp2_with fail
    refine HT.out.mono ?_
    rintro e w2 ⟨rfl, hb2⟩
    go_wp2
    go_ret2
    exact ⟨rfl, But.below HB.out hb2 (by omega) (by simp only [World.size_alloc]; omega)⟩
  | ok l =>
    rw [hm] at HT
    clear hm
    show Calls _ _ _ w fun e w' => ∃ C f ms, ms.map Prod.fst = l ∧ e = .returned (.tuple #[.slice C l.length f, .int .i64 0]) ∧ w'.ownsRow w.heap.size 24 6 (.slice C l.length f) l.length (ms.flatMap cellsM) ∧ OwnPts w' w.heap.size ms w'.heap.size ∧ Below w.heap.size w w'
    go_enter Try.func27, Try.ntmps27
    go_wp2_with fail
    refine HT.out.mono ?_
    rintro e w2 ⟨C, f, ms, hms, rfl, hown, hop, hb2⟩
    have HMS := hid hms
    clear hms
    go_wp2
    go_ret2
    exact ⟨C, f, ms, HMS.out, rfl, own_base hown (by simp only [World.size_alloc]; omega), hop.base (by simp only [World.size_alloc]; omega), But.below HB.out hb2 (by omega) (by simp only [World.size_alloc]; omega)⟩
end Go.Proofs.Ytedojdbihajnbaa
