/- Contract of the laws of record: few (seat Record). -/
import Derived.Test.YtedojdbihajnbaaRecX
import Derived.Test.YtedojdbihajnbaaOpn
import Derived.Test.YtedojdbihajnbaaRecT
namespace Go.Proofs.Ytedojdbihajnbaa
open Go.RowKit Go.Shelf VB
open Go.Lib (hid)
set_option linter.unusedVariables false
set_option linter.unusedSimpArgs false
theorem rightB_of {m : Mu} (h : Right m) : rightB m = true := by
  unfold rightB headB epsB lenB timeB
  have h1 := h.k1
  have h2 := h.k4
  have h3 := h.f0
  have h4 := h.f1
  have h5 := h.e0
  have h6 := h.e1
  have h7 := h.s0
  have h8 := h.s1
  have hk : (decide (m.kind ≠ 3) || (decide (1 ≤ m.pts.length) && decide (m.pts.length ≤ 16))) = true := by
    by_cases hk : m.kind = 3
    · have := h.len hk
      simp [this.1, this.2]
    · simp [hk]
  rw [hk, h.name, h.pts, decide_eq_true h.bare, decide_eq_true h1, decide_eq_true h2, decide_eq_true h3, decide_eq_true h4, decide_eq_true h5, decide_eq_true h6, decide_eq_true h7, decide_eq_true h8]
  rfl
theorem ptBy_byte (l : List (Int × Int)) (i : Nat) : ∀ x ∈ ptBy l i, x < 256 := by
  intro x hx
  unfold ptBy at hx
  split at hx
  all_goals
    rcases List.mem_append.1 hx with h | h
    · exact vb_byte _ x h
    · exact vb_byte _ x h
theorem mutB_byte {m : Mu} (h : Right m) : ∀ x ∈ mutB m, x < 256 := by
  intro x hx
  unfold mutB at hx
  rcases List.mem_append.1 hx with hx | hx
  · rcases List.mem_append.1 hx with hx | hx
    · have h1 := h.k4
      have h2 := h.name
      unfold nameB at h2
      simp only [Bool.and_eq_true, decide_eq_true_eq] at h2
      have h3 := h2.1.2
      simp only [List.mem_cons, List.not_mem_nil, or_false] at hx
      omega
    · unfold nmL at hx
      obtain ⟨b, _, rfl⟩ := List.mem_map.1 hx
      exact b.toNat_lt
  · unfold bodyB at hx
    split at hx
    · rcases List.mem_append.1 hx with h | h
      · exact vb_byte _ x h
      · exact vb_byte _ x h
    · split at hx
      · exact absurd hx (by simp)
      · split at hx
        · rcases List.mem_append.1 hx with h | h
          · exact vb_byte _ x h
          · unfold ptsBy at h
            obtain ⟨i, _, h⟩ := List.mem_flatMap.1 h
            exact ptBy_byte _ _ x h
        · exact vb_byte _ x hx
/-- what Encode hands back for a mutation that may be -/
def RetEncR (l : List Nat) (n : Nat) (w : World) (e : Ending) (w' : World) : Prop :=
  ∃ C f, e = .returned (.tuple #[.slice C n f, .int .i64 0]) ∧ Below w.heap.size w w' ∧ Reads w' 5 1 C n (bsV l) ∧ n ≤ f ∧ f ≤ maxLen
theorem enc_right {m : Mu} {w w' : World} {e : Ending} (h : RetEnc m w e w') (hr : rightB m = true) {n : Nat} (hn : (mutB m).length = n) : RetEncR (mutB m) n w e w' := by
  unfold RetEnc at h
  rw [if_pos hr, hn] at h
  obtain ⟨C, f, he, hb, ho⟩ := h
  obtain ⟨_, _, hv, hf1, hf2⟩ := own_form ho
  injection hv with hv1 hv2 hv3
  exact ⟨C, f, he, hb, Reads.of_own ho, by omega, by omega⟩
def RetEncW (w : World) (e : Ending) (w' : World) : Prop := e = .returned (.tuple #[.slice none 0 0, .int .i64 280]) ∧ Below w.heap.size w w'
theorem enc_wrong {m : Mu} {w w' : World} {e : Ending} (h : RetEnc m w e w') (hr : rightB m = false) : RetEncW w e w' := by
  unfold RetEnc at h
  rw [if_neg (by rw [hr]; decide)] at h
  exact h
theorem not_pre {a b : Mu} (ha : Right a) (hb : Right b) (hne : ¬ a = b) {n : Nat} (hn : n = (mutB a).length) : decide ((mutB b).take n = mutB a) = false :=
  decide_eq_false fun h => hne (mutB_free (r := (mutB b).drop n) ha hb (by rw [← h, List.take_append_drop]))
theorem own40 (m : Mu) : (ownM m).pts.length ≤ 40 := by
  unfold ownM
  simp only [List.length_take]
  omega
def RetTrue (w : World) (e : Ending) (w' : World) : Prop := e = .returned (.bool true) ∧ Below w.heap.size w w'
def fewL (ms : List MuA) (k : Nat) : List Mu := (ms.take k).map fun q => ownM q.1
def PtsOwn (w : World) (ns : List MuA) : Prop := ∀ q ∈ ns, Reads w 51 2 q.2.1 q.1.pts.length (q.1.pts.flatMap cellsP) ∧ q.1.pts.length ≤ 40
def RetFew (ms : List MuA) (w : World) (e : Ending) (w' : World) : Prop :=
  ∃ C f ns, ns.map Prod.fst = fewL ms 20 ∧ e = .returned (.slice C ns.length f) ∧ w'.ownsRow w.heap.size 24 6 (.slice C ns.length f) ns.length (ns.flatMap cellsM) ∧ PtsOwn w' ns ∧ Below w.heap.size w w'
theorem PtsOwn.below {w w' : World} {ns : List MuA} (h : PtsOwn w ns) (hb : Below w.heap.size w w') : PtsOwn w' ns := fun q hq => ⟨(h q hq).1.below hb, (h q hq).2⟩
theorem PtsOwn.alloc {w : World} {ns : List MuA} (h : PtsOwn w ns) (o : Obj) : PtsOwn (w.alloc o) ns := fun q hq => ⟨(h q hq).1.alloc o, (h q hq).2⟩
theorem PtsOwn.grown {w w' : World} {base n : Nat} {v : Value} {xs : List Value} {ns : List MuA} (h : PtsOwn w ns) (hown : w.ownsRow base 24 6 v n xs) (hg : w.grownBy w' v.ownBlock) : PtsOwn w' ns := by
  refine fun q hq => ⟨(h q hq).1.keep fun b hb => hg.block b hb.lt ?_, (h q hq).2⟩
  intro e
  obtain ⟨_, h2⟩ := hown
  rcases h2 with ⟨rfl, _⟩ | ⟨q, cap, cs, rfl, _, hh, _⟩
  · cases e
  · injection e with e
    subst e
    obtain ⟨c1, r1, h1⟩ := hb
    rw [h1] at hh
    injection hh with hh
    injection hh with _ h3
    exact absurd h3 (by decide)
theorem PtsOwn.snoc {w : World} {ns : List MuA} (h : PtsOwn w ns) {q : MuA} (hq : Reads w 51 2 q.2.1 q.1.pts.length (q.1.pts.flatMap cellsP) ∧ q.1.pts.length ≤ 40) : PtsOwn w (ns ++ [q]) := by
  intro x hx
  rcases List.mem_append.1 hx with hx | hx
  · exact h x hx
  · obtain rfl := List.mem_singleton.1 hx
    exact hq
theorem PtsOwn.ptsIn {w : World} {ns : List MuA} (h : PtsOwn w ns) : PtsIn w ns := by
  intro i hi
  have hm : ns.getD i zMuA ∈ ns := by rw [List.getD_eq_getElem?_getD, List.getElem?_eq_getElem hi]; exact List.getElem_mem hi
  exact ⟨51, (h _ hm).1, by have := (h _ hm).2; omega⟩
theorem fewL_succ {ms : List MuA} {i : Nat} (h : i < ms.length) : fewL ms (i + 1) = fewL ms i ++ [ownM (ms.getD i zMuA).1] := by
  unfold fewL
  rw [List.take_succ_eq_append_getElem h, List.map_append, List.getD_eq_getElem?_getD, List.getElem?_eq_getElem h]
  rfl
theorem fewL_len {ms : List MuA} {k : Nat} : (fewL ms k).length ≤ k := by unfold fewL; simp; omega
set_option maxRecDepth 100000 in
set_option maxHeartbeats 2000000 in
theorem few_c (A : Option Addr) (n c : Nat) (ms : List MuA) (w : World) (h : MusIn w A n c ms) :
    Calls Try.prog 20 #[.slice A n c] w (RetFew ms w) := by
  obtain ⟨e1, hl, hz, hnc, hcm, hq⟩ := h
  obtain ⟨i0, hi0, hz0, hz1, hz2⟩ := info_parts3 mut_info
  have HI := hid (And.intro hi0 (And.intro hz0 (And.intro hz1 hz2)))
  have HZ := hid hz
  have HQ := hid hq
  have HL := hid hl
  have hcm : n ≤ 9223372036854775807 := by unfold maxLen at hcm; omega
  clear hz hq hl hi0 hz0 hz1 hz2 hnc
  go_enter Try.func20, Try.ntmps20
  go_wp2_with fail
  go_loopw [3, 8] (fun u3 u8 wr => ∃ (i : Nat) (ns : List MuA) (C : Option Addr) (f : Nat), i ≤ n ∧ u8 = .int .i64 (i : Nat) ∧ u3 = .slice C ns.length f ∧ Hid (ns.map Prod.fst = fewL ms (min i 20)) ∧ wr.ownsRow w.heap.size 24 6 (.slice C ns.length f) ns.length (ns.flatMap cellsM) ∧ PtsOwn wr ns ∧ Below w.heap.size w wr) (fun _ u8 _ => n - (intOf u8).toNat)
  case atStart => exact ⟨0, [], none, 0, Nat.zero_le _, rfl, rfl, hid rfl, World.ownsRow_nil _ _ _ _, fun q hq => absurd hq (by simp), Below.refl _ _⟩
  case round =>
    obtain ⟨i, ns, C, f, hi, rfl, rfl, hns, hown, hp, hb⟩ := hrel
    by_cases hlt : i < n
    · obtain ⟨q, hqe⟩ : ∃ q, q = ms.getD i zMuA := ⟨_, rfl⟩
      have hin : MuIn w q.1 q.2.1 q.2.2 := HQ.out q (by rw [hqe, List.getD_eq_getElem?_getD, List.getElem?_eq_getElem (by have := HL.out; omega)]; exact List.getElem_mem _)
      obtain ⟨m, B, cB⟩ := q
      obtain ⟨ad, rfl, c0, c1, c2, c3, c4, c5⟩ := mu_at (HZ.out.below hb) hlt (k := m.kind) (nm := m.name) (ep := m.eps) (fl := m.floor) (sc := m.scale) (pv := .slice B m.pts.length cB) (by rw [← hqe]; rfl)
      have HQE := hid hqe
      have HOWN := hid hown
      have HB := hid hb
      have HP := hid hp
      have HLT := hid hlt
      obtain ⟨ep1, hr1, hr2, hr3⟩ := hin
      have hltI : (i : Int) < (n : Int) := by omega
      by_cases h20 : i < 20
      · have HOC := hid (fun w' (h : Below w.heap.size w w') => own_c m B cB w' (hr1.below h) hr2 hr3)
        have h20I : (i : Int) < 20 := by omega
        have hln : ns.length = i := by
          have := congrArg List.length hns.out
          unfold fewL at this
          simp only [List.length_map, List.length_take] at this
          have := HL.out
          omega
        have HNS := hid (show (ns.map Prod.fst) ++ [ownM m] = fewL ms (min (i + 1) 20) by
          rw [hns.out, show min (i + 1) 20 = min i 20 + 1 by omega, show min i 20 = i by omega, fewL_succ (by have := HL.out; omega), ← HQE.out])
        have HLN := hid hln
        clear hr1 hr2 hr3 hqe hown hb hp hns hln
        go_wp2_with fail
        have KM := hid (Blk.new wr 24 (aM m.kind m.name m.eps m.floor m.scale (.slice B m.pts.length cB)))
        replace HB := hid (HB.out.alloc HB.out.size (.cells (aM m.kind m.name m.eps m.floor m.scale (.slice B m.pts.length cB)) 24))
        replace HOWN := hid (HOWN.out.alloc (.cells (aM m.kind m.name m.eps m.floor m.scale (.slice B m.pts.length cB)) 24))
        replace HP := hid (HP.out.alloc (.cells (aM m.kind m.name m.eps m.floor m.scale (.slice B m.pts.length cB)) 24))
        clear c0 c1 c2 c3 c4 c5
        refine (HOC.out _ HB.out).mono ?_
        rintro e w4 ⟨C4, f4, rfl, hb4, hown4⟩
        have h40 := own40 m
        obtain ⟨m2, hm2⟩ : ∃ m2, m2 = ownM m := ⟨_, rfl⟩
        rw [← hm2] at hown4 HNS h40 ⊢
        have hb5 := HB.out.trans (hb4.mono HB.out.size)
        have hown5 := (own_below HOWN.out hb4).alloc (.cells (aM m2.kind m2.name m2.eps m2.floor m2.scale (.slice C4 m2.pts.length f4)) 24)
        have hnew := six_new w4 (m2, C4, f4)
        have hp5 := ((HP.out.below hb4).snoc (q := (m2, C4, f4)) ⟨Reads.of_own hown4, h40⟩).alloc (.cells (aM m2.kind m2.name m2.eps m2.floor m2.scale (.slice C4 m2.pts.length f4)) 24)
        have hb6 := hb5.alloc hb5.size (.cells (aM m2.kind m2.name m2.eps m2.floor m2.scale (.slice C4 m2.pts.length f4)) 24)
        clear HOC HP HOWN HB hb4 hown4 KM hm2 hb5
        go_wp2_with (at_builtin; refine wpList_append_any _ rfl (.tmp 15) (.tmp 18) 38 rfl w.heap.size 24 i0 (.agg zMuC) 6 72 Try.underlying38 HI.out.1 HI.out.2.1 HI.out.2.2.1 HI.out.2.2.2 rfl (by decide) _ ns.length (ns.flatMap cellsM) rfl hown5 (some ⟨w4.heap.size, 0, none⟩) 1 1 (cellsM (m2, C4, f4)) rfl hnew (cellsM_one _) (by have := HLN.out; simp only [maxLen]; omega) (by have := HLN.out; omega) hb6.size ?_; intro v' w' hown' hg' hv')
        obtain ⟨C', f', rfl, _, _⟩ := own_form hown'
        have hb7 := hb6.grown hg' hb6.size (fun b hb => (hown5.lt b hb).1)
        have hp7 := hp5.grown hown5 hg'
        rw [← cellsM_snoc] at hown'
        have HNN := hid (show (ns ++ [(m2, C4, f4)]).length = ns.length + 1 by simp)
        rw [← HNN.out] at hown' ⊢
        have HX := hid (And.intro hown' (And.intro hp7 hb7))
        clear hown5 hp5 hb6 hnew hg' hv' hb7 hp7 hown' h40
        go_wp2_with fail
        go_roundw
        case rel => exact ⟨i + 1, ns ++ [(m2, C4, f4)], C', f', by omega, by go_num, rfl, hid (by rw [List.map_append]; exact HNS.out), HX.out.1, HX.out.2.1, HX.out.2.2⟩
        case measure => simp [intOf]; omega
      · have h20I : ¬ ((i : Int) < 20) := by omega
        have HNS := hid (show ns.map Prod.fst = fewL ms (min (i + 1) 20) by rw [hns.out, show min (i + 1) 20 = min i 20 by omega])
        replace HB := hid (HB.out.alloc HB.out.size (.cells (aM m.kind m.name m.eps m.floor m.scale (.slice B m.pts.length cB)) 24))
        replace HOWN := hid (HOWN.out.alloc (.cells (aM m.kind m.name m.eps m.floor m.scale (.slice B m.pts.length cB)) 24))
        replace HP := hid (HP.out.alloc (.cells (aM m.kind m.name m.eps m.floor m.scale (.slice B m.pts.length cB)) 24))
        clear hr1 hr2 hr3 hqe hown hb hp hns
        go_wp2_with fail
        go_roundw
        case rel => exact ⟨i + 1, ns, C, f, by omega, by go_num, rfl, HNS, HOWN.out, HP.out, HB.out⟩
        case measure => simp [intOf]; omega
    · obtain rfl : i = n := by omega
      have HF := hid (show RetFew ms w (.returned (.slice C ns.length f)) wr from ⟨C, f, ns, by
        rw [hns.out]
        unfold fewL
        by_cases h : i ≤ 20
        · rw [show min i 20 = i by omega, List.take_of_length_le (by rw [HL.out]; exact Nat.le_refl _), List.take_of_length_le (by rw [HL.out]; exact h)]
        · rw [show min i 20 = 20 by omega], rfl, hown, hp, hb⟩)
      clear hlt hown hb hns hp
      go_wp2_with fail
      go_ret
      exact HF.out
end Go.Proofs.Ytedojdbihajnbaa
