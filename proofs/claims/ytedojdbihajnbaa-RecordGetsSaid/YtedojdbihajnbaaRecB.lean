/- Contracts of record: getBound, getFloor, name (seat Record). -/
import Derived.Test.YtedojdbihajnbaaRecA
namespace Go.Proofs.Ytedojdbihajnbaa
open Go.RowKit Go.Shelf VB
open Go.Lib (hid)
set_option linter.unusedVariables false
set_option linter.unusedSimpArgs false
/-- what a method of the tape hands back, and leaves, or the error by which it leaves -/
def RetE {α : Type} (r : Except Int (α × Nat)) (v : α → Nat → Value) (cs : α → Nat → Array Value) (g : Nat) (w : World) (e : Ending) (w' : World) : Prop :=
  match r with
  | .ok (a, p) => RetV (v a p) g (cs a p) w e w'
  | .error x => RetX x g w e w'
/-- a bound, and a scale -/
def boundS (bs : List Nat) (z : Nat) : Except Int ((Nat × Int) × Nat) :=
  match plainS bs 1099511627776 z with
  | .error x => .error x
  | .ok (e, p) => match signS bs p with
    | .error x => .error x
    | .ok (n, q) => if -40 ≤ n ∧ n ≤ 40 then .ok ((e, n), q) else .error 7
theorem Blk.tape5 {w : World} {g : Nat} {t : TypeId} {k : Int} {nm : ByteArray} {ep fl sc : Int} {P : Value} {B : Option Addr} {n c : Nat} {z : Int} (h : Blk w g t (tapeC k nm ep fl sc P B n c z)) :
    w.cell? ⟨g, 0, none⟩ = some (.int .i64 k) ∧ w.cell? ⟨g, 1, none⟩ = some (.string nm) ∧ w.cell? ⟨g, 2, none⟩ = some (.int .i64 ep) ∧ w.cell? ⟨g, 3, none⟩ = some (.int .i64 fl) ∧ w.cell? ⟨g, 4, none⟩ = some (.int .i64 sc) ∧ w.cell? ⟨g, 5, none⟩ = some P ∧
    w.frozen? ⟨g, 0, none⟩ = false ∧ w.frozen? ⟨g, 1, none⟩ = false ∧ w.frozen? ⟨g, 2, none⟩ = false ∧ w.frozen? ⟨g, 3, none⟩ = false ∧ w.frozen? ⟨g, 4, none⟩ = false ∧ w.frozen? ⟨g, 5, none⟩ = false :=
  ⟨h.cell 0, h.cell 1, h.cell 2, h.cell 3, h.cell 4, h.cell 5, h.frozen 0, h.frozen 1, h.frozen 2, h.frozen 3, h.frozen 4, h.frozen 5⟩
section
variable {w : World} {g : Nat} {k : Int} {nm : ByteArray} {ep fl sc : Int} {P : Value} {B : Option Addr} {n c : Nat} {bs : List Nat}
set_option maxHeartbeats 400000 in
theorem getBound_c {z : Nat} (kt : Blk w g 64 (tapeC k nm ep fl sc P B n c z)) (hs : Src w B n c bs) :
    Calls Try.prog 57 #[.pointer (some ⟨g, 0, none⟩)] w (RetE (boundS bs z) (fun _ _ => .tuple #[]) (fun a p => tapeC k nm (a.1 : Nat) fl a.2 P B n c (p : Nat)) g w) := by
  cases hp : plainS bs 1099511627776 z with
  | error x =>
    have HP := hid (plain_er kt hs hp)
    have e1 : boundS bs z = .error x := by unfold boundS; simp only [hp]
    rw [e1]
    clear hp kt hs e1
    show Calls _ _ _ w (RetX x g w)
    go_enter Try.func57, Try.ntmps57
    go_wp2_with fail
    refine HP.out.mono ?_
    rintro e w2 ⟨rfl, hb⟩
    exact ⟨rfl, rfl, hb⟩
  | ok r =>
    obtain ⟨v, p⟩ := r
    have HP := hid (plain_ok kt hs hp (by decide))
    have HS := hid hs
    have HT := hid kt.typed
    clear kt hs
    cases hq : signS bs p with
    | error x =>
      have HQ := hid hq
      have e1 : boundS bs z = .error x := by unfold boundS; simp only [hp, hq]
      rw [e1]
      clear hp hq e1
      show Calls _ _ _ w (RetX x g w)
      go_enter Try.func57, Try.ntmps57
      go_wp2_with fail
      refine HP.out.mono ?_
      rintro e w2 ⟨rfl, hb, kt⟩
      obtain ⟨c0, c1, c2, c3, c4, c5, f0, f1, f2, f3, f4, f5⟩ := kt.tape5
      have HS2 := hid (HS.out.but (hb.setg 2 (.int .i64 (v : Nat))) HT.out)
      have kt2 : Blk (w2.setCell ⟨g, 2, none⟩ (.int .i64 (v : Nat))) g 64 (tapeC k nm (v : Nat) fl sc P B n c p) := kt.set_ 2 _
      have HB2 := hid (hb.setg 2 (.int .i64 (v : Nat)))
      go_wp2_with fail
      refine (signed_er kt2 HS2.out HQ.out).mono ?_
      rintro e w3 ⟨rfl, hb3⟩
      exact ⟨rfl, rfl, HB2.out.trans hb3⟩
    | ok r =>
      obtain ⟨u, q⟩ := r
      have HQ := hid hq
      by_cases hu : -40 ≤ u ∧ u ≤ 40
      · have e1 : boundS bs z = .ok ((v, u), q) := by unfold boundS; simp only [hp, hq]; rw [if_pos hu]
        rw [e1]
        clear hp hq e1
        show Calls _ _ _ w (RetV _ g _ w)
        obtain ⟨hu1, hu2⟩ := hu
        go_enter Try.func57, Try.ntmps57
        go_wp2_with fail
        refine HP.out.mono ?_
        rintro e w2 ⟨rfl, hb, kt⟩
        obtain ⟨c0, c1, c2, c3, c4, c5, f0, f1, f2, f3, f4, f5⟩ := kt.tape5
        have HS2 := hid (HS.out.but (hb.setg 2 (.int .i64 (v : Nat))) HT.out)
        have kt2 : Blk (w2.setCell ⟨g, 2, none⟩ (.int .i64 (v : Nat))) g 64 (tapeC k nm (v : Nat) fl sc P B n c p) := kt.set_ 2 _
        have HB2 := hid (hb.setg 2 (.int .i64 (v : Nat)))
        go_wp2_with fail
        refine (signed_ok kt2 HS2.out HQ.out).mono ?_
        rintro e w3 ⟨rfl, hb3, kt3⟩
        clear c0 c1 c2 c3 c4 c5 f0 f1 f2 f3 f4 f5 kt kt2
        obtain ⟨c0, c1, c2, c3, c4, c5, f0, f1, f2, f3, f4, f5⟩ := kt3.tape5
        go_wp2_with fail
        refine (need_t _ _).mono ?_
        rintro e w4 ⟨rfl, rfl⟩
        go_wp2
        go_end0
        exact ⟨rfl, (HB2.out.trans hb3).setg 4 _, kt3.set_ 4 _⟩
      · have e1 : boundS bs z = .error 7 := by unfold boundS; simp only [hp, hq]; rw [if_neg hu]
        rw [e1]
        clear hp hq e1
        show Calls _ _ _ w (RetX 7 g w)
        have hu2 : (decide (-40 ≤ u) && decide (u ≤ 40)) = false := by
          rw [← Bool.not_eq_true, Bool.and_eq_true, decide_eq_true_iff, decide_eq_true_iff]; exact hu
        by_cases hu3 : -40 ≤ u
        · have hu4 : ¬ u ≤ 40 := fun h => hu ⟨hu3, h⟩
          have hd : decide (u ≤ 40) = false := decide_eq_false hu4
          have hd2 : decide (-40 ≤ u) = true := decide_eq_true hu3
          clear hu hu2
          go_enter Try.func57, Try.ntmps57
          go_wp2_with fail
          refine HP.out.mono ?_
          rintro e w2 ⟨rfl, hb, kt⟩
          obtain ⟨c0, c1, c2, c3, c4, c5, f0, f1, f2, f3, f4, f5⟩ := kt.tape5
          have HS2 := hid (HS.out.but (hb.setg 2 (.int .i64 (v : Nat))) HT.out)
          have kt2 : Blk (w2.setCell ⟨g, 2, none⟩ (.int .i64 (v : Nat))) g 64 (tapeC k nm (v : Nat) fl sc P B n c p) := kt.set_ 2 _
          have HB2 := hid (hb.setg 2 (.int .i64 (v : Nat)))
          go_wp2_with fail
          refine (signed_ok kt2 HS2.out HQ.out).mono ?_
          rintro e w3 ⟨rfl, hb3, kt3⟩
          go_wp2_with fail
          refine (need_f _ _).mono ?_
          rintro e w4 ⟨rfl, rfl⟩
          exact ⟨rfl, rfl, HB2.out.trans hb3⟩
        · have hd : decide (-40 ≤ u) = false := decide_eq_false hu3
          clear hu hu2
          go_enter Try.func57, Try.ntmps57
          go_wp2_with fail
          refine HP.out.mono ?_
          rintro e w2 ⟨rfl, hb, kt⟩
          obtain ⟨c0, c1, c2, c3, c4, c5, f0, f1, f2, f3, f4, f5⟩ := kt.tape5
          have HS2 := hid (HS.out.but (hb.setg 2 (.int .i64 (v : Nat))) HT.out)
          have kt2 : Blk (w2.setCell ⟨g, 2, none⟩ (.int .i64 (v : Nat))) g 64 (tapeC k nm (v : Nat) fl sc P B n c p) := kt.set_ 2 _
          have HB2 := hid (hb.setg 2 (.int .i64 (v : Nat)))
          go_wp2_with fail
          refine (signed_ok kt2 HS2.out HQ.out).mono ?_
          rintro e w3 ⟨rfl, hb3, kt3⟩
          go_wp2_with fail
          refine (need_f _ _).mono ?_
          rintro e w4 ⟨rfl, rfl⟩
          exact ⟨rfl, rfl, HB2.out.trans hb3⟩
set_option maxHeartbeats 400000 in
theorem getFloor_c {z : Nat} (kt : Blk w g 64 (tapeC k nm ep fl sc P B n c z)) (hs : Src w B n c bs) :
    Calls Try.prog 62 #[.pointer (some ⟨g, 0, none⟩)] w (RetE (plainS bs 281474976710656 z) (fun _ _ => .tuple #[]) (fun a p => tapeC k nm ep (a : Nat) sc P B n c (p : Nat)) g w) := by
  cases hp : plainS bs 281474976710656 z with
  | error x =>
    have HP := hid (plain_er kt hs hp)
    clear hp kt hs
    show Calls _ _ _ w (RetX x g w)
    go_enter Try.func62, Try.ntmps62
    go_wp2_with fail
    refine HP.out.mono ?_
    rintro e w2 ⟨rfl, hb⟩
    exact ⟨rfl, rfl, hb⟩
  | ok r =>
    obtain ⟨v, p⟩ := r
    have HP := hid (plain_ok kt hs hp (by decide))
    clear hp kt hs
    show Calls _ _ _ w (RetV _ g _ w)
    go_enter Try.func62, Try.ntmps62
    go_wp2_with fail
    refine HP.out.mono ?_
    rintro e w2 ⟨rfl, hb, kt⟩
    obtain ⟨c0, c1, c2, c3, c4, c5, f0, f1, f2, f3, f4, f5⟩ := kt.tape5
    go_wp2
    go_end0
    exact ⟨rfl, hb.setg 3 _, kt.set_ 3 _⟩
theorem nothing_c (a : Addr) (w : World) : Calls Try.prog 58 #[.pointer (some a)] w fun e w' => e = .returned (.tuple #[]) ∧ w = w' := by
  go_enter Try.func58, Try.ntmps58
  go_wp2
  go_end0
  exact ⟨rfl, rfl⟩
end
end Go.Proofs.Ytedojdbihajnbaa
