/- RecordRows: the walk (seat Record). -/
import Derived.Test.YtedojdbihajnbaaRefG
import Derived.Test.YtedojdbihajnbaaRecJ
namespace Go.Proofs.Ytedojdbihajnbaa
open Go.RowKit Go.Shelf VB
open Go.Lib (hid)
set_option linter.unusedVariables false
set_option linter.unusedSimpArgs false
theorem MuIn.belowD {w w' : World} {m : Mu} {A : Option Addr} {c : Nat} (h : MuIn w m A c) (hb : Below w.heap.size w w') : MuIn w' m A c := by
  obtain ⟨e1, h1, h2⟩ := h
  exact ⟨e1, h1.below hb, h2⟩
theorem MusIn.belowD {w w' : World} {A : Option Addr} {n c : Nat} {ms : List MuA} (h : MusIn w A n c ms) (hb : Below w.heap.size w w') : MusIn w' A n c ms := by
  obtain ⟨e1, h1, h2, h3, h4, h5⟩ := h
  exact ⟨e1, h1, h2.below hb, h3, h4, fun q hq => (h5 q hq).belowD hb⟩
theorem own_name (m : Mu) : (ownM m).name.size ≤ 40 := by
  unfold ownM
  simp only [ByteArray.size_extract]
  omega
theorem few_name {ms ns : List MuA} {k : Nat} (h : ns.map Prod.fst = fewL ms k) : ∀ q ∈ ns, q.1.name.size ≤ 40 := by
  intro q hq
  have h1 : q.1 ∈ ns.map Prod.fst := List.mem_map_of_mem hq
  rw [h] at h1
  unfold fewL at h1
  obtain ⟨r, _, hr⟩ := List.mem_map.1 h1
  rw [← hr]
  exact own_name _
theorem getD_memD {ms : List MuA} {i : Nat} (h : i < ms.length) : ms.getD i zMuA ∈ ms := by
  rw [List.getD_eq_getElem?_getD, List.getElem?_eq_getElem h]; exact List.getElem_mem h
/-- what Row hands back, in one form -/
def RowFormD (ns : List MuA) (w : World) (e : Ending) (w' : World) : Prop :=
  ∃ (C : Option Addr) (n f at0 i0 : Nat) (er : Int), e = .returned (.tuple #[.slice C n f, .int .i64 (at0 : Nat), .int .i64 er]) ∧ Below w.heap.size w w' ∧ (∀ j, j < i0 → rightB (ns.getD j zMuA).1 = true) ∧ i0 ≤ ns.length ∧
    (i0 < ns.length → rightB (ns.getD i0 zMuA).1 = false ∧ n = 0 ∧ at0 = i0 ∧ er = 280) ∧
    (i0 = ns.length → er = 0 ∧ at0 = 0 ∧ n = (rowMB ns).length ∧ n ≤ f ∧ f ≤ maxLen ∧ Reads w' 5 1 C n (bsV (rowMB ns)))
theorem row_formD {ns : List MuA} {w w' : World} {e : Ending} (h : RetRow ns w e w') : RowFormD ns w e w' := by
  rcases h with ⟨i, hi, h1, h2, he, hb⟩ | ⟨h1, C, f, he, hb, hown⟩
  · exact ⟨none, 0, 0, i, i, 280, he, hb, h1, by omega, fun _ => ⟨h2, rfl, rfl, rfl⟩, fun h => absurd h (by omega)⟩
  · obtain ⟨_, _, hv, hf1, hf2⟩ := own_form hown
    injection hv with hv1 hv2 hv3
    exact ⟨C, (rowMB ns).length, f, 0, ns.length, 0, he, hb, h1, Nat.le_refl _, fun h => absurd h (by omega), fun _ => ⟨rfl, rfl, rfl, by omega, by omega, Reads.of_own hown⟩⟩
theorem rowMB_len {ms : List MuA} (h : ∀ j, j < ms.length → rightB (ms.getD j zMuA).1 = true) (hl : ms.length ≤ 20) : (rowMB ms).length ≤ 9000 := by
  have hf : ∀ (l : List MuA), (∀ q ∈ l, Right q.1) → (l.flatMap fun q => mutB q.1).length ≤ 400 * l.length := by
    intro l
    induction l with
    | nil => intro _; simp
    | cons q l ih =>
      intro hq
      have h1 := mutB_len (hq q List.mem_cons_self)
      have h2 := ih fun x hx => hq x (List.mem_cons_of_mem _ hx)
      rw [List.flatMap_cons, List.length_append, List.length_cons]
      omega
  have h1 := hf ms (by
    intro q hq
    obtain ⟨j, hj, rfl⟩ := List.getElem_of_mem hq
    have := h j hj
    rw [List.getD_eq_getElem?_getD, List.getElem?_eq_getElem hj] at this
    exact right_of this)
  have h2 := vb_len10 (n := ms.length) (by omega)
  unfold rowMB
  rw [List.length_append]
  omega
set_option maxRecDepth 100000 in
set_option maxHeartbeats 4000000 in
theorem rows_core (A : Option Addr) (n c : Nat) (ms : List MuA) (w : World) (hm : MusIn w A n c ms) :
    Calls Try.prog 4 #[.slice A n c] w (RetTrue w) := by
  have HFW := hid (fun w' (h : Below w.heap.size w w') => few_c A n c ms w' (hm.belowD h))
  clear hm
  go_enter Try.func4, Try.ntmps4
  go_wp2_with fail
  refine (wakes_r _).mono ?_
  rintro e w1 ⟨rfl, hb1⟩
  have HB := hid hb1
  clear hb1
  go_wp2_with fail
  refine (HFW.out _ HB.out).mono ?_
  rintro e w2 ⟨C, f, ns, hns, rfl, hown, hp, hb2⟩
  have hnl : ns.length ≤ 20 := by have h1 := congrArg List.length hns; have h2 := fewL_len (ms := ms) (k := 20); rw [List.length_map] at h1; omega
  replace HB := hid (HB.out.trans (hb2.mono HB.out.size))
  have HR := hid (Row_c ns C ns.length f w2 (Reads.of_own hown) hp.ptsIn (by omega))
  have HRN := hid (Reads.of_own hown)
  have HPN := hid hp
  have HNL := hid hnl
  have HNS := hid hns
  clear hns hown hp hb2 hnl
  go_wp2_with fail
  refine HR.out.mono ?_
  intro e w3 h3
  obtain ⟨C3, n3, f3, at0, i0, er, rfl, hb3, hri, hi0, hwr, hok⟩ := row_formD h3
  replace HB := hid (HB.out.trans (hb3.mono HB.out.size))
  replace HRN := hid (HRN.out.below hb3)
  replace HPN := hid (HPN.out.below hb3)
  have HI := hid (And.intro hri (And.intro hi0 (And.intro hwr hok)))
  clear HR h3 hb3 hri hi0 hwr hok
  have HLI := hid (show (ns.length : Int) ≤ 20 by have := HNL.out; omega)
  go_wp2_with fail
  go_loopw [21] (fun u21 wr => ∃ i : Nat, i ≤ i0 ∧ u21 = .int .i64 (i : Nat) ∧ Below w3.heap.size w3 wr) (fun u21 _ => ns.length - (intOf u21).toNat)
  case atStart => exact ⟨0, Nat.zero_le _, rfl, Below.refl _ _⟩
  case round =>
    obtain ⟨i, hi, rfl, hbr⟩ := hrel
    have hii := HI.out.2.1
    have hnl20 := HNL.out
    by_cases hlt : i < ns.length
    · obtain ⟨q, hqe⟩ : ∃ q, q = ns.getD i zMuA := ⟨_, rfl⟩
      have hq := HPN.out q (by rw [hqe]; exact getD_memD hlt)
      have hqn := few_name HNS.out q (by rw [hqe]; exact getD_memD hlt)
      obtain ⟨m, B, cB⟩ := q
      obtain ⟨ad, rfl, c0, c1, c2, c3, c4, c5⟩ := mu_at (HRN.out.below hbr) hlt (k := m.kind) (nm := m.name) (ep := m.eps) (fl := m.floor) (sc := m.scale) (pv := .slice B m.pts.length cB) (by rw [← hqe]; rfl)
      have hltI : (i : Int) < (ns.length : Int) := by omega
      have HBR := hid hbr
      have HQ := hid hq
      have HQN := hid (show m.name.size ≤ 40 from hqn)
      have HQE := hid hqe
      have HII := hid (And.intro hi (And.intro hlt hii))
      clear hbr hq hqe hi hii hqn
      go_wp2_with fail
      have hbx := (Below.refl wr.heap.size wr).alloc (Nat.le_refl _) (.cells (aM m.kind m.name m.eps m.floor m.scale (.slice B m.pts.length cB)) 24)
      have hbr2 := HBR.out.trans (hbx.mono HBR.out.size)
      have HC := hid (Right_d m B cB _ (HQ.out.1.below hbr2) (by have := HQ.out.2; omega) (by have := HQN.out; omega))
      refine HC.out.mono ?_
      rintro e w4 ⟨rfl, hb4⟩
      replace HBR := hid (hbr2.trans (hb4.mono hbr2.size))
      clear hbx hbr2 hb4 HC c0 c1 c2 c3 c4 c5
      by_cases hr : rightB m = true
      · rw [hr]
        have hne : i ≠ i0 := by
          intro h
          have h1 := (HI.out.2.2.1 (by have := HII.out.2.1; omega)).1
          rw [← h, ← HQE.out] at h1
          rw [hr] at h1
          cases h1
        have hi1 : i + 1 ≤ i0 := by have := HII.out.1; omega
        have HI1 := hid hi1
        clear hr hne hi1
        go_wp2_with fail
        go_roundw
        case rel => exact ⟨i + 1, HI1.out, by go_num, HBR.out⟩
        case measure => simp [intOf]; omega
      · have hrf : rightB m = false := by simpa using hr
        rw [hrf]
        have hie : i = i0 := by
          have h1 := HI.out.1 i
          rw [← HQE.out] at h1
          have := HII.out.1
          rcases Nat.lt_or_ge i i0 with h | h
          · exact absurd (h1 h) hr
          · omega
        obtain ⟨_, h0, ha, he⟩ := HI.out.2.2.1 (by have := HII.out.2.1; omega)
        subst h0 ha he
        have HF := hid (show RetTrue w (.returned (.bool true)) w4 from ⟨rfl, HB.out.trans (HBR.out.mono HB.out.size)⟩)
        have hia : i = at0 := by omega
        subst hia
        clear hr hrf hie hltI hlt HI
        go_wp2_with fail
        go_ret
        exact HF.out
    · have hin : i0 = ns.length := by omega
      obtain ⟨her, hat, hn3, hf1, hf2, hrd⟩ := HI.out.2.2.2 hin
      have hri := HI.out.1
      rw [hin] at hri
      have hrl := rowMB_len hri HNL.out
      subst her hat
      obtain rfl : i = ns.length := by omega
      replace HB := hid (HB.out.trans (hbr.mono HB.out.size))
      replace HRN := hid (HRN.out.below hbr)
      replace HPN := hid (HPN.out.below hbr)
      have HBY := hid (hrd.below hbr)
      have HRB := hid (RowBytes_d C ns.length f ns wr HRN.out HPN.out.ptsIn hri (by omega))
      have HK := hid (And.intro hn3 (And.intro hf1 (And.intro hf2 hrl)))
      clear hrd hri hn3 hf1 hf2 hrl hlt hi hii hin hbr HI
      go_wp2_with fail
      refine HRB.out.mono ?_
      rintro e w5 ⟨D, g, rfl, hown5, hb5⟩
      replace HB := hid (HB.out.trans (hb5.mono HB.out.size))
      replace HRN := hid (HRN.out.below hb5)
      replace HPN := hid (HPN.out.below hb5)
      have HE := hid (equal_bs C3 D n3 (rowMB ns).length f3 g (rowMB ns) (rowMB ns) w5 (HBY.out.below hb5) (Reads.of_own hown5) (by have := HK.out; omega))
      rw [decide_eq_true rfl] at HE
      clear hown5 hb5 HRB
      generalize (rowMB ns).length = nq at *
      go_wp2_with fail
      refine HE.out.mono ?_
      rintro e w6 ⟨rfl, q, rfl⟩
      replace HB := hid (below_dn HB.out q)
      replace HRN := hid (HRN.out.drewN q)
      replace HPN := hid (show PtsOwn (w5.drewN q) ns from fun r hr => ⟨(HPN.out r hr).1.drewN q, (HPN.out r hr).2⟩)
      generalize w5.drewN q = w6 at *
      clear HE HBY HK
      go_wp2_with fail
      refine (HFW.out _ HB.out).mono ?_
      rintro e w7 ⟨C7, f7, ns7, hns7, rfl, hown7, hp7, hb7⟩
      have hl7 : ns7.length ≤ 20 := by have h1 := congrArg List.length hns7; have h2 := fewL_len (ms := ms) (k := 20); rw [List.length_map] at h1; omega
      have HSR := hid (SameRow_d C C7 ns.length ns7.length f f7 ns ns7 w7 (HRN.out.below hb7) (Reads.of_own hown7) (HPN.out.below hb7).ptsIn hp7.ptsIn (by omega) (by omega))
      rw [decide_eq_true (HNS.out.trans hns7.symm)] at HSR
      replace HB := hid (HB.out.trans (hb7.mono HB.out.size))
      clear hns7 hown7 hp7 hb7 HFW
      go_wp2_with fail
      refine HSR.out.mono ?_
      rintro e w8 ⟨rfl, hb8⟩
      have HF := hid (show RetTrue w (.returned (.bool true)) w8 from ⟨rfl, HB.out.trans (hb8.mono HB.out.size)⟩)
      clear hb8 HSR
      go_wp2_with fail
      go_ret
      exact HF.out
theorem rows_in (a0 : Option Addr) (len0 cap0 : Nat) (ms0 : List MuA) (w : World) (w0 : MusIn w a0 len0 cap0 ms0) :
    Calls Try.prog 4 #[.slice a0 len0 cap0] w fun e w' => e = .returned (.bool true) ∧ Below w.heap.size w w' := rows_core a0 len0 cap0 ms0 w w0
end Go.Proofs.Ytedojdbihajnbaa
