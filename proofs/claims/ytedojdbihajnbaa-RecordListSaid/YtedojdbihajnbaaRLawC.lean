/- RecordList: the walk (seat Record). -/
import Derived.Test.YtedojdbihajnbaaFew
import Derived.Test.YtedojdbihajnbaaVarS
import Derived.Test.YtedojdbihajnbaaRecJ
namespace Go.Proofs.Ytedojdbihajnbaa
open Go.RowKit Go.Shelf VB
open Go.Lib (hid)
set_option linter.unusedVariables false
set_option linter.unusedSimpArgs false
theorem keep1 {W w1 : World} {p1 : Addr} {v1 : Value} (h : W.cell? p1 = some v1) (hb : Below W.heap.size W w1) : w1.cell? p1 = some v1 := (hb.cell (cell_lt h)).trans h
theorem MuIn.below {w w' : World} {m : Mu} {A : Option Addr} {c : Nat} (h : MuIn w m A c) (hb : Below w.heap.size w w') : MuIn w' m A c := by
  obtain ⟨e1, h1, h2⟩ := h
  exact ⟨e1, h1.below hb, h2⟩
theorem MusIn.below {w w' : World} {A : Option Addr} {n c : Nat} {ms : List MuA} (h : MusIn w A n c ms) (hb : Below w.heap.size w w') : MusIn w' A n c ms := by
  obtain ⟨e1, h1, h2, h3, h4, h5⟩ := h
  exact ⟨e1, h1, h2.below hb, h3, h4, fun q hq => (h5 q hq).below hb⟩
theorem rowMB_P (ms : List MuA) : rowMB ms = rowP (ms.map Prod.fst) := by
  unfold rowMB rowP
  rw [List.length_map, List.flatMap_map]
theorem getD_right {ms : List MuA} (h : ∀ j, j < ms.length → rightB (ms.getD j zMuA).1 = true) : ∀ m ∈ ms.map Prod.fst, Right m := by
  intro m hm
  obtain ⟨q, hq, rfl⟩ := List.mem_map.1 hm
  obtain ⟨j, hj, rfl⟩ := List.getElem_of_mem hq
  have := h j hj
  rw [List.getD_eq_getElem?_getD, List.getElem?_eq_getElem hj] at this
  exact right_of this
theorem flatM_len {ms : List Mu} (h : ∀ m ∈ ms, Right m) : (ms.flatMap mutB).length ≤ 400 * ms.length := by
  induction ms with
  | nil => simp
  | cons m l ih =>
    have h1 := mutB_len (h m List.mem_cons_self)
    have h2 := ih fun x hx => h x (List.mem_cons_of_mem _ hx)
    rw [List.flatMap_cons, List.length_append, List.length_cons]
    omega
theorem rowP_len {ms : List Mu} (h : ∀ m ∈ ms, Right m) (hl : ms.length ≤ 20) : (rowP ms).length ≤ 9000 := by
  unfold rowP
  have h1 := flatM_len h
  have h2 := vb_len10 (n := ms.length) (by omega)
  rw [List.length_append]
  omega
theorem rowP_byte {ms : List Mu} (h : ∀ m ∈ ms, Right m) : ∀ x ∈ rowP ms, x < 256 := by
  intro x hx
  unfold rowP at hx
  rcases List.mem_append.1 hx with hx | hx
  · exact vb_byte _ x hx
  · obtain ⟨m, hm, hx⟩ := List.mem_flatMap.1 hx
    exact mutB_byte (h m hm) x hx
/-- what Row hands back, in one form -/
def RowForm (ns : List MuA) (w : World) (e : Ending) (w' : World) : Prop :=
  ∃ (C : Option Addr) (n f at0 i0 : Nat) (er : Int), e = .returned (.tuple #[.slice C n f, .int .i64 (at0 : Nat), .int .i64 er]) ∧ Below w.heap.size w w' ∧ (∀ j, j < i0 → rightB (ns.getD j zMuA).1 = true) ∧ i0 ≤ ns.length ∧
    (i0 < ns.length → rightB (ns.getD i0 zMuA).1 = false ∧ n = 0 ∧ at0 = i0 ∧ er = 280) ∧
    (i0 = ns.length → er = 0 ∧ at0 = 0 ∧ n = (rowMB ns).length ∧ n ≤ f ∧ f ≤ maxLen ∧ Reads w' 5 1 C n (bsV (rowMB ns)))
theorem row_form {ns : List MuA} {w w' : World} {e : Ending} (h : RetRow ns w e w') : RowForm ns w e w' := by
  rcases h with ⟨i, hi, h1, h2, he, hb⟩ | ⟨h1, C, f, he, hb, hown⟩
  · exact ⟨none, 0, 0, i, i, 280, he, hb, h1, by omega, fun _ => ⟨h2, rfl, rfl, rfl⟩, fun h => absurd h (by omega)⟩
  · obtain ⟨_, _, hv, hf1, hf2⟩ := own_form hown
    injection hv with hv1 hv2 hv3
    exact ⟨C, (rowMB ns).length, f, 0, ns.length, 0, he, hb, h1, Nat.le_refl _, fun h => absurd h (by omega), fun _ => ⟨rfl, rfl, rfl, by omega, by omega, Reads.of_own hown⟩⟩
theorem OwnPts.all {w : World} : ∀ {ms : List MuA} {B E : Nat}, OwnPts w B ms E → ∀ q ∈ ms, Reads w 51 2 q.2.1 q.1.pts.length (q.1.pts.flatMap cellsP)
  | [], _, _, _, q, hq => absurd hq (by simp)
  | x :: l, _, _, ⟨B', _, h2, _, h4⟩, q, hq => by
    rcases List.mem_cons.1 hq with rfl | hq
    · exact Reads.of_own h2
    · exact OwnPts.all h4 q hq
theorem getD_mem {ms : List MuA} {i : Nat} (h : i < ms.length) : ms.getD i zMuA ∈ ms := by
  rw [List.getD_eq_getElem?_getD, List.getElem?_eq_getElem h]; exact List.getElem_mem h
theorem getD_fst {ms ns : List MuA} (h : ms.map Prod.fst = ns.map Prod.fst) (i : Nat) : (ms.getD i zMuA).1 = (ns.getD i zMuA).1 := by
  have e : ∀ l : List MuA, (l.getD i zMuA).1 = (l.map Prod.fst).getD i zMuA.1 := by
    intro l
    rw [List.getD_eq_getElem?_getD, List.getD_eq_getElem?_getD, List.getElem?_map]
    cases l[i]? <;> rfl
  rw [e, e, h]
set_option maxRecDepth 100000 in
set_option maxHeartbeats 4000000 in
theorem list_core {e2 : TypeId} (A : Option Addr) (n c : Nat) (ms : List MuA) (A2 : Option Addr) (n2 c2 : Nat) (bs2 : List Nat) (w : World) (hm : MusIn w A n c ms)
    (hb2 : Reads w e2 1 A2 n2 (bsV bs2)) (hc2 : n2 ≤ c2) (hcm2 : c2 ≤ maxLen) (hbs2 : ∀ x ∈ bs2, x < 256) :
    Calls Try.prog 8 #[.slice A n c, .slice A2 n2 c2] w (RetTrue w) := by
  have hbl : bs2.length = n2 := by have := hb2.1; rw [bsV_len] at this; omega
  have HH2 := hid (fun w' (h : Below w.heap.size w w') => head_r A2 n2 (min n2 600) c2 bs2 w' (hb2.below h) hc2 hcm2 rfl)
  obtain ⟨hs2, hhs2⟩ : ∃ hs, hs = bs2.take (min n2 600) := ⟨_, rfl⟩
  rw [← hhs2] at HH2
  have HS := hid (show (hs2.length ≤ 600 ∧ ∀ x ∈ hs2, x < 256) ∧ (n2 ≠ 0 → hs2 ≠ []) by
    rw [hhs2]
    exact ⟨⟨by rw [List.length_take]; omega, fun x hx => hbs2 x (List.mem_of_mem_take hx)⟩, fun h h0 => by have := congrArg List.length h0; rw [List.length_take] at this; simp only [List.length_nil] at this; omega⟩)
  have HFW := hid (fun w' (h : Below w.heap.size w w') => few_c A n c ms w' (hm.below h))
  clear hm hb2 hc2 hcm2 hbs2 hhs2 hbl
  go_enter Try.func8, Try.ntmps8
  go_wp2_with fail
  refine (wakes_r _).mono ?_
  rintro e w1 ⟨rfl, hb1⟩
  have HB := hid hb1
  clear hb1
  go_wp2_with fail
  refine (HFW.out _ HB.out).mono ?_
  rintro e w2 ⟨C, f, ns, hns, rfl, hown, hp, hb2⟩
  have hnl : ns.length ≤ 20 := by have h1 := congrArg List.length hns; have h2 := fewL_len (ms := ms) (k := 20); rw [List.length_map] at h1; omega
  replace HB := hid (HB.out.trans (hb2.mono HB.out.size))
  have HR := hid (Row_c ns C ns.length f w2 (Reads.of_own hown) hp.ptsIn (by omega))
  have HRN := hid (Reads.of_own hown)
  have HPN := hid hp
  have HNL := hid hnl
  clear hns hown hp hb2 HFW hnl
  go_wp2_with fail
  refine HR.out.mono ?_
  intro e w3 h3
  obtain ⟨C3, n3, f3, at0, i0, er, rfl, hb3, hri, hi0, hwr, hok⟩ := row_form h3
  replace HB := hid (HB.out.trans (hb3.mono HB.out.size))
  replace HRN := hid (HRN.out.below hb3)
  replace HPN := hid (HPN.out.below hb3)
  have HI := hid (And.intro hri (And.intro hi0 (And.intro hwr hok)))
  clear HR h3 hb3 hri hi0 hwr hok
  have HLI := hid (show (ns.length : Int) ≤ 20 by have := HNL.out; omega)
  go_wp2_with fail
  go_loopw [29] (fun u29 wr => ∃ i : Nat, i ≤ i0 ∧ u29 = .int .i64 (i : Nat) ∧ Below w3.heap.size w3 wr) (fun u29 _ => ns.length - (intOf u29).toNat)
  case atStart => exact ⟨0, Nat.zero_le _, rfl, Below.refl _ _⟩
  case round =>
    obtain ⟨i, hi, rfl, hbr⟩ := hrel
    have hii := HI.out.2.1
    have hnl20 := HNL.out
    by_cases hlt : i < ns.length
    · obtain ⟨q, hqe⟩ : ∃ q, q = ns.getD i zMuA := ⟨_, rfl⟩
      have hq := HPN.out q (by rw [hqe]; exact getD_mem hlt)
      obtain ⟨m, B, cB⟩ := q
      obtain ⟨ad, rfl, c0, c1, c2, c3, c4, c5⟩ := mu_at (HRN.out.below hbr) hlt (k := m.kind) (nm := m.name) (ep := m.eps) (fl := m.floor) (sc := m.scale) (pv := .slice B m.pts.length cB) (by rw [← hqe]; rfl)
      have hltI : (i : Int) < (ns.length : Int) := by omega
      have HBR := hid hbr
      have HQ := hid hq
      have HQE := hid hqe
      have HII := hid (And.intro hi (And.intro hlt hii))
      clear hbr hq hqe hi hii
      go_wp2_with fail
      have hbx := (Below.refl wr.heap.size wr).alloc (Nat.le_refl _) (.cells (aM m.kind m.name m.eps m.floor m.scale (.slice B m.pts.length cB)) 24)
      have hbr2 := HBR.out.trans (hbx.mono HBR.out.size)
      have HC := hid (Check_c m B cB _ (HQ.out.1.below hbr2) (by have := HQ.out.2; omega))
      refine HC.out.mono ?_
      rintro e w4 ⟨rfl, hb4⟩
      replace HBR := hid (hbr2.trans (hb4.mono hbr2.size))
      clear hbx hbr2 hb4 HC c0 c1 c2 c3 c4 c5
      by_cases hr : rightB m = true
      · rw [if_pos hr]
        have hne : i ≠ i0 := by
          intro h
          have h1 := (HI.out.2.2.1 (by have := HII.out.2.1; omega)).1
          rw [← h, ← HQE.out] at h1
          rw [hr] at h1
          cases h1
        have hi1 : i + 1 ≤ i0 := by have := HII.out.1; omega
        have HI1 := hid hi1
        clear hr hne hi1
        go_wp2_with fail
        go_roundw
        case rel => exact ⟨i + 1, HI1.out, by go_num, HBR.out⟩
        case measure => simp [intOf]; omega
      · rw [if_neg hr]
        have hie : i = i0 := by
          have h1 := HI.out.1 i
          rw [← HQE.out] at h1
          have := HII.out.1
          rcases Nat.lt_or_ge i i0 with h | h
          · exact absurd (h1 h) hr
          · omega
        obtain ⟨_, h0, ha, he⟩ := HI.out.2.2.1 (by have := HII.out.2.1; omega)
        subst h0 ha he
        have HF := hid (show RetTrue w (.returned (.bool true)) w4 from ⟨rfl, HB.out.trans (HBR.out.mono HB.out.size)⟩)
        have hia : i = at0 := by omega
        subst hia
        clear hr hie hltI hlt HI
        go_wp2_with fail
        go_ret
        exact HF.out
    · have hin : i0 = ns.length := by omega
      obtain ⟨her, hat, hn3, hf1, hf2, hrd⟩ := HI.out.2.2.2 hin
      have hri := HI.out.1
      rw [hin] at hri
      have hR := getD_right hri
      have hrl := rowP_len hR (by rw [List.length_map]; exact HNL.out)
      rw [rowMB_P] at hrd hn3
      subst her hat
      obtain rfl : i = ns.length := by omega
      have hbb := hrd.below hbr
      have hsrc : Src wr C3 n3 f3 (rowP (ns.map Prod.fst)) := ⟨hbb, by omega, hf1, hf2, rowP_byte hR⟩
      have HG := hid (rows_c hsrc)
      rw [rowsS_at hR (by rw [List.length_map]; have := HNL.out; omega)] at HG
      replace HB := hid (HB.out.trans (hbr.mono HB.out.size))
      replace HRN := hid (HRN.out.below hbr)
      replace HPN := hid (HPN.out.below hbr)
      have HBY := hid hbb
      have HK := hid (And.intro hR (And.intro hn3 (And.intro hf1 (And.intro hf2 hrl))))
      clear hbb hsrc hrd hri hR hn3 hf1 hf2 hrl hlt hi hii hin hbr HI
      go_wp2_with fail
      refine HG.out.mono ?_
      rintro e w5 ⟨C5, f5, ms5, hm5, rfl, hown5, hop5, hb5⟩
      rw [List.length_map] at hown5 ⊢
      replace HB := hid (HB.out.trans (hb5.mono HB.out.size))
      replace HRN := hid (HRN.out.below hb5)
      replace HPN := hid (HPN.out.below hb5)
      replace HBY := hid (HBY.out.below hb5)
      have HR5 := hid (Reads.of_own hown5)
      have HP5 := hid (OwnPts.all hop5)
      have HM5 := hid hm5
      clear hown5 hop5 hm5 hb5 HG
      go_wp2_with fail
      go_loopw [74] (fun u74 wr => ∃ i : Nat, i ≤ ns.length ∧ u74 = .int .i64 (i : Nat) ∧ Below w5.heap.size w5 wr) (fun u74 _ => ns.length - (intOf u74).toNat)
      case atStart => exact ⟨0, Nat.zero_le _, rfl, Below.refl _ _⟩
      case round =>
        obtain ⟨i, hi, rfl, hbr⟩ := hrel
        have hnl20 := HNL.out
        by_cases hlt : i < ns.length
        · have hm5l : ms5.length = ns.length := by have h := congrArg List.length HM5.out; rw [List.length_map, List.length_map] at h; exact h
          have hfst := getD_fst HM5.out i
          obtain ⟨q, hqe⟩ : ∃ q, q = ns.getD i zMuA := ⟨_, rfl⟩
          have hq := HPN.out q (by rw [hqe]; exact getD_mem hlt)
          obtain ⟨q5, hqe5⟩ : ∃ q, q = ms5.getD i zMuA := ⟨_, rfl⟩
          have hq5 := HP5.out q5 (by rw [hqe5]; exact getD_mem (by omega))
          rw [← hqe, ← hqe5] at hfst
          obtain ⟨m, B, cB⟩ := q
          obtain ⟨m', B', cB'⟩ := q5
          obtain rfl : m' = m := hfst
          obtain ⟨ad, rfl, c0, c1, c2, c3, c4, c5⟩ := mu_at (HRN.out.below hbr) hlt (k := m'.kind) (nm := m'.name) (ep := m'.eps) (fl := m'.floor) (sc := m'.scale) (pv := .slice B m'.pts.length cB) (by rw [← hqe]; rfl)
          obtain ⟨ad5, rfl, d0, d1, d2, d3, d4, d5⟩ := mu_at (HR5.out.below hbr) hlt (k := m'.kind) (nm := m'.name) (ep := m'.eps) (fl := m'.floor) (sc := m'.scale) (pv := .slice B' m'.pts.length cB') (by rw [← hqe5]; rfl)
          have h40 : m'.pts.length ≤ 40 := hq.2
          have HSM := hid (fun W (h : Below wr.heap.size wr W) => Same_c m' m' B B' cB cB' W ((hq.1.below hbr).below h) ((hq5.below hbr).below h) (by omega))
          rw [decide_eq_true rfl] at HSM
          have HBR := hid hbr
          have hltI : (i : Int) < (ns.length : Int) := by omega
          have hi0 : (0 : Int) ≤ (i : Int) := by omega
          clear hbr hq hq5 hqe hqe5 hm5l hi
          go_wp2_with fail
          refine wp_region_held_drew (S := (fun W => Below wr.heap.size wr W)) (by kernel_rfl) (below_dn (Below.refl wr.heap.size wr) 1) (fun hHeld => ?_)
          refine wpAnyH_take (i := 0) (v := ?_) rfl (by kernel_rfl) (by kernel_rfl) (by kernel_rfl) (fun _ _ _ h => h) (Or.inl ⟨by rfl, ?_⟩) (by assumption) ?_
          rotate_left
          · intro W hW
            go_simp
            try rfl
          simp only [List.getElem_toArray, List.getElem_cons_zero, Act.put, List.setIfInBounds_toArray, List.set_cons_zero, List.set_cons_succ]
          refine wpAnyH_take (i := 1) (v := ?_) rfl (by kernel_rfl) (by kernel_rfl) (by kernel_rfl) (fun _ _ _ h => h) (Or.inl ⟨by rfl, ?_⟩) (by assumption) ?_
          rotate_left
          · intro W hW
            go_simp
            try rfl
          simp only [List.getElem_toArray, List.getElem_cons_succ, List.getElem_cons_zero, Act.put, List.setIfInBounds_toArray, List.set_cons_zero, List.set_cons_succ]
          refine wpAnyH_take (i := 2) (v := ?_) rfl (by kernel_rfl) (by kernel_rfl) (by kernel_rfl) (fun _ _ _ h => h) (Or.inl ⟨by rfl, ?_⟩) (by assumption) ?_
          rotate_left
          · intro W hW
            go_simp
            try rfl
          simp only [List.getElem_toArray, List.getElem_cons_succ, List.getElem_cons_zero, Act.put, List.setIfInBounds_toArray, List.set_cons_zero, List.set_cons_succ]
          refine wpAnyH_take (i := 3) (v := ?_) rfl (by kernel_rfl) (by kernel_rfl) (by kernel_rfl) (fun _ _ _ h => h) (Or.inl ⟨by rfl, ?_⟩) (by assumption) ?_
          rotate_left
          · intro W hW
            have y0 := keep1 c0 hW
            have y1 := keep1 c1 hW
            have y2 := keep1 c2 hW
            have y3 := keep1 c3 hW
            have y4 := keep1 c4 hW
            have y5 := keep1 c5 hW
            go_simp
            try rfl
          simp only [List.getElem_toArray, List.getElem_cons_succ, List.getElem_cons_zero, Act.put, List.setIfInBounds_toArray, List.set_cons_zero, List.set_cons_succ]
          refine wpAnyH_take (i := 4) (v := ?_) rfl (by kernel_rfl) (by kernel_rfl) (by kernel_rfl) (fun _ _ _ h => h) (Or.inl ⟨by rfl, ?_⟩) (by assumption) ?_
          rotate_left
          · intro W hW
            go_simp
            try rfl
          simp only [List.getElem_toArray, List.getElem_cons_succ, List.getElem_cons_zero, Act.put, List.setIfInBounds_toArray, List.set_cons_zero, List.set_cons_succ]
          refine wpAnyH_take (i := 5) (v := ?_) rfl (by kernel_rfl) (by kernel_rfl) (by kernel_rfl) (fun _ _ _ h => h) (Or.inl ⟨by rfl, ?_⟩) (by assumption) ?_
          rotate_left
          · intro W hW
            go_simp
            try rfl
          simp only [List.getElem_toArray, List.getElem_cons_succ, List.getElem_cons_zero, Act.put, List.setIfInBounds_toArray, List.set_cons_zero, List.set_cons_succ]
          refine wpAnyH_take (i := 6) (v := ?_) rfl (by kernel_rfl) (by kernel_rfl) (by kernel_rfl) (fun _ _ _ h => h) (Or.inl ⟨by rfl, ?_⟩) (by assumption) ?_
          rotate_left
          · intro W hW
            go_simp
            try rfl
          simp only [List.getElem_toArray, List.getElem_cons_succ, List.getElem_cons_zero, Act.put, List.setIfInBounds_toArray, List.set_cons_zero, List.set_cons_succ]
          refine wpAnyH_take (i := 7) (v := ?_) rfl (by kernel_rfl) (by kernel_rfl) (by kernel_rfl) (fun _ _ _ h => h) (Or.inl ⟨by rfl, ?_⟩) (by assumption) ?_
          rotate_left
          · intro W hW
            have y0 := keep1 d0 hW
            have y1 := keep1 d1 hW
            have y2 := keep1 d2 hW
            have y3 := keep1 d3 hW
            have y4 := keep1 d4 hW
            have y5 := keep1 d5 hW
            go_simp
            try rfl
          simp only [List.getElem_toArray, List.getElem_cons_succ, List.getElem_cons_zero, Act.put, List.setIfInBounds_toArray, List.set_cons_zero, List.set_cons_succ]
          refine wpAnyH_ready (rs := [8]) (by kernel_rfl) (by simp) ?_
          refine AllReadyH.cons rfl (fun K hK => ?_) AllReadyH.nil
          go_simp
          refine (HSM.out _ hHeld).mono ?_
          rintro e w9 ⟨rfl, hb9⟩
          have hw9 : Below wr.heap.size wr w9 := hHeld.trans (hb9.mono hHeld.size)
          clear hHeld hb9
          refine hK.out _ _ hw9 (fun hHeld => ?_)
          clear hK K
          try simp only [List.getElem_toArray, List.getElem_cons_succ, List.getElem_cons_zero, Act.put, List.setIfInBounds_toArray, List.set_cons_zero, List.set_cons_succ]
          refine wpAnyH_take (i := 9) (v := ?_) rfl (by kernel_rfl) (by kernel_rfl) (by kernel_rfl) (fun _ _ _ h => h) (Or.inl ⟨by rfl, ?_⟩) (by assumption) ?_
          rotate_left
          · intro W hW
            go_simp
            try rfl
          simp only [List.getElem_toArray, List.getElem_cons_succ, List.getElem_cons_zero, Act.put, List.setIfInBounds_toArray, List.set_cons_zero, List.set_cons_succ]
          refine wpAnyH_done (by kernel_rfl) ?_ _
          go_wp2_with fail
          have HBS := hid (HBR.out.trans (hw9.mono HBR.out.size))
          clear hw9 hHeld c0 c1 c2 c3 c4 c5 d0 d1 d2 d3 d4 d5 HSM
          go_roundw
          case rel => exact ⟨i + 1, by omega, by go_num, HBS.out⟩
          case measure => simp [intOf]; omega
        · obtain rfl : i = ns.length := by omega
          replace HB := hid (HB.out.trans (hbr.mono HB.out.size))
          replace HBY := hid (HBY.out.below hbr)
          have hrl := HK.out.2.2.2.2
          have hn3 := HK.out.2.1
          have hnb : n3 ≤ 9000 := by omega
          clear HM5 HP5 HR5 HRN HPN hbr hlt hi hrl hn3
          obtain ⟨w6, rfl⟩ : ∃ w6, w6 = wr := ⟨_, rfl⟩
          go_wp2_with fail
          go_loopw [90] (fun u90 wx => ∃ i : Nat, i ≤ n3 ∧ u90 = .int .i64 (i : Nat) ∧ Below w6.heap.size w6 wx) (fun u90 _ => n3 - (intOf u90).toNat)
          case atStart => exact ⟨0, Nat.zero_le _, rfl, Below.refl _ _⟩
          case round =>
            obtain ⟨i, hi, rfl, hbr⟩ := hrel
            by_cases hlt : i < n3
            · have hsrc : Src wr C3 i f3 ((rowP (ns.map Prod.fst)).take i) := ⟨by
                have h := (HBY.out.below hbr).take (k := i) (by omega)
                rw [Nat.mul_one] at h
                rw [show bsV ((rowP (ns.map Prod.fst)).take i) = (bsV (rowP (ns.map Prod.fst))).take i by simp [bsV, List.map_take]]
                exact h, by omega, by have := HK.out.2.2.1; omega, HK.out.2.2.2.1, fun x hx => rowP_byte HK.out.1 x (List.mem_of_mem_take hx)⟩
              have HG := hid (rows_c hsrc)
              rw [rowsS_cut HK.out.1 (by rw [List.length_map]; omega) (by rw [← HK.out.2.1]; exact hlt)] at HG
              have HBR := hid hbr
              have g1 : (i : Int) < (n3 : Int) := by omega
              have g2 : i ≤ f3 := by have := HK.out.2.2.1; omega
              clear hsrc hbr
              go_wp2_with fail
              refine HG.out.mono ?_
              rintro e w15 ⟨rfl, hb15⟩
              replace HBR := hid (HBR.out.trans (hb15.mono HBR.out.size))
              clear hb15 HG g2
              go_wp2_with fail
              go_roundw
              case rel => exact ⟨i + 1, by omega, by go_num, HBR.out⟩
              case measure => simp [intOf]; omega
            · obtain rfl : i = n3 := by omega
              replace HB := hid (HB.out.trans (hbr.mono HB.out.size))
              replace HBY := hid (HBY.out.below hbr)
              clear hbr hlt hi
              by_cases h0 : n2 = 0
              · have hz : ((n2 : Int) == 0) = true := by simp [h0]
                have HF := hid (show RetTrue w (.returned (.bool true)) wr from ⟨rfl, HB.out⟩)
                clear h0
                go_wp2_with fail
                go_ret
                exact HF.out
              · have hz : ((n2 : Int) == 0) = false := by simp [h0]
                have HNE := hid (HS.out.2 h0)
                clear h0
                go_wp2_with fail
                refine (HH2.out _ HB.out).mono ?_
                rintro e w11 ⟨D2, g2, rfl, hown11, hb11⟩
                replace HB := hid (HB.out.trans (hb11.mono HB.out.size))
                replace HBY := hid (HBY.out.below hb11)
                have HD2 := hid (Reads.of_own hown11)
                clear hb11 hown11 HH2 hz
                have hbx := (Below.refl w11.heap.size w11).alloc (Nat.le_refl _) (.cells (([⟨C3, i, f3, rowP (ns.map Prod.fst)⟩, ⟨D2, hs2.length, g2, hs2⟩] : List Part).map cellS).toArray 32)
                have HRD := hid (reads_new_at (g := w11.heap.size) w11 32 (([⟨C3, i, f3, rowP (ns.map Prod.fst)⟩, ⟨D2, hs2.length, g2, hs2⟩] : List Part).map cellS) 2 rfl rfl)
                replace HB := hid (HB.out.trans (hbx.mono HB.out.size))
                replace HBY := hid (HBY.out.below hbx)
                replace HD2 := hid (HD2.out.below hbx)
                have HJ := hid (show joined ([⟨C3, i, f3, rowP (ns.map Prod.fst)⟩, ⟨D2, hs2.length, g2, hs2⟩] : List Part) = rowP (ns.map Prod.fst) ++ hs2 by simp [joined])
                have HCC := hid (concat_b (some ⟨w11.heap.size, 0, none⟩) 2 2 ([⟨C3, i, f3, rowP (ns.map Prod.fst)⟩, ⟨D2, hs2.length, g2, hs2⟩] : List Part) _ HRD.out (by
                  intro q hq
                  simp only [List.mem_cons, List.not_mem_nil, or_false] at hq
                  rcases hq with rfl | rfl
                  · exact HBY.out
                  · exact HD2.out) (by have := HS.out.1.1; have := HK.out.2.2.2.2; rw [HJ.out, List.length_append]; omega) (by decide))
                rw [HJ.out] at HCC
                clear hbx HRD HD2 HJ
                go_wp2_with fail
                refine HCC.out.mono ?_
                rintro e w12 ⟨D3, g3, rfl, hown12, hb12⟩
                replace HB := hid (HB.out.trans (hb12.mono HB.out.size))
                obtain ⟨_, _, hv, hf1, hf2⟩ := own_form hown12
                injection hv with hv1 hv2 hv3
                have hsrc : Src w12 D3 (rowP (ns.map Prod.fst) ++ hs2).length g3 (rowP (ns.map Prod.fst) ++ hs2) := ⟨Reads.of_own hown12, by have := HS.out.1.1; have := HK.out.2.2.2.2; rw [List.length_append]; omega, by omega, by omega, by
                  intro x hx
                  rcases List.mem_append.1 hx with hx | hx
                  · exact rowP_byte HK.out.1 x hx
                  · exact HS.out.1.2 x hx⟩
                have HG := hid (rows_c hsrc)
                rw [rowsS_more HK.out.1 (by rw [List.length_map]; omega) HNE.out] at HG
                generalize (rowP (ns.map Prod.fst) ++ hs2).length = nJ at *
                clear hb12 hown12 hv1 hv2 hv3 hf1 hf2 hsrc HCC
                go_wp2_with fail
                refine HG.out.mono ?_
                rintro e w13 ⟨rfl, hb13⟩
                have HF := hid (show RetTrue w (.returned (.bool true)) w13 from ⟨rfl, HB.out.trans (hb13.mono HB.out.size)⟩)
                clear hb13 HG
                go_wp2_with fail
                go_ret
                exact HF.out
theorem list_in (a0 : Option Addr) (len0 cap0 : Nat) (ms0 : List MuA) (a1 : Option Addr) (len1 cap1 : Nat) (z1 : List Int) (w : World) (w0 : MusIn w a0 len0 cap0 ms0) (w1 : RowIn .u8 w a1 len1 cap1 z1) :
    Calls Try.prog 8 #[.slice a0 len0 cap0, .slice a1 len1 cap1] w fun e w' => e = .returned (.bool true) ∧ Below w.heap.size w w' := by
  obtain ⟨_, h2, e, h3⟩ := bytes_in w1
  exact list_core a0 len0 cap0 ms0 a1 len1 cap1 (bytesOf z1 len1) w w0 h3 w1.len.1 w1.len.2.2 h2
end Go.Proofs.Ytedojdbihajnbaa
