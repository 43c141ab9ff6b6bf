/- Manifest: the reader's names, pages, entries, points. -/
import Derived.Test.YtgdnpmjmkcccoaaManI
import Derived.Laws.Runes
namespace Go.Proofs.Ytgdnpmjmkcccoaa
open Go.RowKit Go.Shelf VB
open Go.Lib (hid)
set_option linter.unusedVariables false
set_option linter.unusedSimpArgs false
theorem nameB_enc : ∀ c : Nat, c < 256 → nameB (Utf8.encode (c : Int)) = letB (c : Nat) := by decide +kernel
/-- a letter -/
def fLet (bs : List Nat) (s : Unit) (z : Nat) : Except Int ((Nat × Unit) × Nat) :=
  match oneS bs z with
  | .error x => .error x
  | .ok (c, z1) => if letB (c : Nat) = true then .ok ((c, ()), z1) else .error 7
def fPg (bs : List Nat) (s : Unit) (z : Nat) : Except Int ((Int × Unit) × Nat) :=
  match plainS bs 255 z with
  | .error x => .error x
  | .ok (v, z1) => .ok (((v : Int), ()), z1)
abbrev noG {α : Type} : World → α → Prop := fun _ _ => True
abbrev byG : World → Int → Prop := fun _ v => 0 ≤ v ∧ v < 256
abbrev noB {α : Type} : α → List Nat := fun _ => []
/-- the box of a reader's pointer -/
abbrev BxAt (w : World) (bx g : Nat) : Prop := Blk w bx 81 #[.pointer (some ⟨g, 0, none⟩)]
theorem step_let {bs : List Nat} {z z1 : Nat} {e0 e1 : Int} {v : Int} (h : Res e0 (oneS bs z) (fun d => v = (d : Nat)) z1 e1) : Res e0 (fLet bs () z) (fun d => d = (v.toNat, ())) z1 (if e1 = 0 ∧ letB v = false then 7 else e1) := by
  rcases h with ⟨h0, h1, d, h2, h3⟩ | ⟨h1, h2, h3⟩
  · subst h3
    cases hl : letB (d : Nat) with
    | true =>
      rw [if_neg (by simp), h0, h1]
      exact Res.ok (d := (d, ())) (by unfold fLet; rw [h2]; simp only; rw [if_pos hl]) (by simp)
    | false =>
      rw [if_pos ⟨h1, rfl⟩, h0]
      exact Res.err (by unfold fLet; rw [h2]; simp only; rw [if_neg (by simp [hl])]) (by decide)
  · rw [if_neg (fun h => h1 h.1)]
    exact .inr ⟨h1, fun h0 => by unfold fLet; rw [h2 h0], h3⟩
section
variable {w : World} {g bx : Nat} {B : Option Addr} {n c z : Nat} {bs : List Nat} {e : Int}
set_option maxRecDepth 100000 in
set_option maxHeartbeats 1000000 in
theorem name1_c (kb : BxAt w bx g) (kt : RdAt w g z e B n c) (hs : Src w B n c bs) (hne : bx ≠ g) :
    Calls Try.prog 114 #[.pointer (some ⟨bx, 0, none⟩)] w fun d W' => ∃ x s' z1 e1, RetOne valB1 Int.toNat byG noB (fun W (_ : Unit) => BxAt W bx g) [g] (fLet bs () z) e g B n c w x s' z1 e1 d W' := by
  have HO := hid (rone kt hs)
  have KB := hid kb
  have c0 : w.cell? ⟨bx, 0, none⟩ = some (.pointer (some ⟨g, 0, none⟩)) := kb.cell 0
  clear kb kt hs
  go_enter Try.func114, Try.ntmps114
  go_wp2_with fail
  refine HO.out.mono ?_
  rintro d w1 ⟨v, z1, e1, ⟨rfl, hb1, k1⟩, ⟨hv0, hv1⟩, hres⟩
  have kb1 : BxAt w1 bx g := KB.out.but hb1 hne
  have hu : IntKind.i32.wrap v = v := by rw [IntKind.wrap_i32]; omega
  have hnm : nameB (Utf8.encode v) = letB v := by
    have := nameB_enc v.toNat (by omega)
    rw [Int.toNat_of_nonneg hv0] at this
    exact this
  have HNM := hid (fun W => Name_c (Utf8.encode v) W)
  rw [hnm] at HNM
  obtain ⟨s, hse⟩ : ∃ s, s = Utf8.encode v := ⟨_, rfl⟩
  rw [← hse] at HNM
  have hse' : Utf8.encode v = s := hse.symm
  have HRS := hid (step_let hres)
  have HV := hid (And.intro hv0 hv1)
  have K1 := hid k1
  have HB1 := hid hb1
  have KB1 := hid kb1
  clear hres k1 hb1 hnm hse c0 HO KB
  obtain ⟨q, hq⟩ : ∃ q, q = letB v := ⟨_, rfl⟩
  obtain ⟨e2, he2⟩ : ∃ e2, e2 = (if e1 = 0 ∧ letB v = false then 7 else e1) := ⟨_, rfl⟩
  rw [← he2] at HRS
  rw [← hq] at HNM he2
  have HE2 := hid he2
  clear he2 hq
  go_upto_region 2 with fail
  refine wp_region_noPanic ?_
  refine wp_region_held_drew (S := fun W => W.cell? ⟨bx, 0, none⟩ = some (.pointer (some ⟨g, 0, none⟩))) (by kernel_rfl) (KB1.out.drew.cell 0) (fun hHeld => ?_)
  refine wpAnyH_take (i := 0) (v := ?_) rfl (by kernel_rfl) (by kernel_rfl) (by kernel_rfl) (fun _ _ _ h => h) (Or.inl ⟨by rfl, ?_⟩) (by assumption) ?_
  rotate_left
  · intro W hW
    go_simp
    try rfl
  simp only [List.getElem_toArray, List.getElem_cons_zero, Act.put, List.setIfInBounds_toArray, List.set_cons_zero, List.set_cons_succ]
  refine wpAnyH_take (i := 1) (v := ?_) rfl (by kernel_rfl) (by kernel_rfl) (by kernel_rfl) (fun _ _ _ h => h) (Or.inl ⟨by rfl, ?_⟩) (by assumption) ?_
  rotate_left
  · intro W hW
    go_simp
    try rfl
  simp only [List.getElem_toArray, List.getElem_cons_succ, List.getElem_cons_zero, Act.put, List.setIfInBounds_toArray, List.set_cons_zero, List.set_cons_succ]
  refine wpAnyH_take (i := 2) (v := ?_) rfl (by kernel_rfl) (by kernel_rfl) (by kernel_rfl) (fun _ _ _ h => h) (Or.inl ⟨by rfl, ?_⟩) (by assumption) ?_
  rotate_left
  · intro W hW
    go_simp
    try rfl
  simp only [List.getElem_toArray, List.getElem_cons_succ, List.getElem_cons_zero, Act.put, List.setIfInBounds_toArray, List.set_cons_zero, List.set_cons_succ]
  refine wpAnyH_take (i := 3) (v := ?_) rfl (by kernel_rfl) (by kernel_rfl) (by kernel_rfl) (fun _ _ _ h => h) (Or.inl ⟨by rfl, ?_⟩) (by assumption) ?_
  rotate_left
  · intro W hW
    go_simp
    try rfl
  simp only [List.getElem_toArray, List.getElem_cons_succ, List.getElem_cons_zero, Act.put, List.setIfInBounds_toArray, List.set_cons_zero, List.set_cons_succ]
  refine wpAnyH_ready (rs := [4]) (by kernel_rfl) (by simp) ?_
  refine AllReadyH.cons rfl (fun K hK => ?_) AllReadyH.nil
  go_simp
  refine (HNM.out _).mono ?_
  rintro d w2 ⟨rfl, hb2⟩
  refine hK.out _ _ ((KB1.out.drew.under hb2).cell 0) (fun hHeld => ?_)
  clear hK K
  try simp only [List.getElem_toArray, List.getElem_cons_succ, List.getElem_cons_zero, Act.put, List.setIfInBounds_toArray, List.set_cons_zero, List.set_cons_succ]
  have k2 := K1.out.drew.under hb2
  have HN2 := hid (rneed q 7 k2)
  rw [← HE2.out] at HN2
  refine wpAnyH_ready (rs := [5]) (by kernel_rfl) (by simp) ?_
  refine AllReadyH.cons rfl (fun K hK => ?_) AllReadyH.nil
  go_simp
  refine HN2.out.mono ?_
  rintro d w3 ⟨rfl, hb3, k3⟩
  refine hK.out _ _ (((KB1.out.drew.under hb2).but hb3 hne).cell 0) (fun hHeld => ?_)
  clear hK K
  try simp only [List.getElem_toArray, List.getElem_cons_succ, List.getElem_cons_zero, Act.put, List.setIfInBounds_toArray, List.set_cons_zero, List.set_cons_succ]
  refine wpAnyH_done (by kernel_rfl) ?_ _
  refine NoPanic.normal ?_
  have HF := hid (show RetOne valB1 Int.toNat byG noB (fun W (_ : Unit) => BxAt W bx g) [g] (fLet bs () z) e g B n c w v () z1 e2 (.returned (.int .u8 v)) w3 from
    ⟨rfl, (((ButS.of_but HB1.out (by simp)).trans (ButS.of_below (Below.refl _ w1).drew)).step hb2).trans (ButS.of_but hb3 (by simp)), k3, (KB1.out.drew.under hb2).but hb3 hne, HV.out, fun b hb => by simp at hb, HRS.out⟩)
  clear hHeld k2 HN2 hb3 k3 hb2
  go_wp2_with fail
  go_ret
  exact ⟨_, _, _, _, HF.out⟩
end
/-- a name -/
def nameM (bs : List Nat) (z : Nat) : Except Int (List Nat × Nat) :=
  match oneS bs z with
  | .error x => .error x
  | .ok (m, z1) => if 1 ≤ m ∧ m ≤ 12 then (match sevS (fLet bs) m () z1 with
    | .error x => .error x
    | .ok ((l, _), z2) => .ok (l, z2)) else .error 7
theorem name_res {bs : List Nat} {z z1 z2 : Nat} {e e1 e2 e3 v : Int} {l : List Nat} {u : Unit} {q : Bool} (h : Res e (oneS bs z) (fun d => v = (d : Nat)) z1 e1) (hq : q = (decide (1 ≤ v) && decide (v ≤ 12))) (h2 : e2 = (if e1 = 0 ∧ q = false then 7 else e1)) (h3 : Res e2 (sevS (fLet bs) v.toNat () z1) (fun d => d = (l, u)) z2 e3) : Res e (nameM bs z) (fun d => l = d) z2 e3 := by
  rcases h with ⟨h0, h1, d, ho, hv⟩ | ⟨h1, ho, hw⟩
  · subst hv h0 h1
    by_cases hm : 1 ≤ d ∧ d ≤ 12
    · have hq1 : q = true := by rw [hq, decide_eq_true (by omega), decide_eq_true (by omega)]; rfl
      rw [hq1, if_neg (by simp)] at h2
      subst h2
      rw [Int.toNat_natCast] at h3
      rcases h3 with ⟨_, h4, d2, h5, h6⟩ | ⟨h4, h5, _⟩
      · subst h6 h4
        exact Res.ok (d := l) (by unfold nameM; rw [ho]; simp only; rw [if_pos hm, h5]) rfl
      · exact Res.err (by unfold nameM; rw [ho]; simp only; rw [if_pos hm, h5 rfl]) h4
    · have hq1 : q = false := by
        rw [hq]
        by_cases ha : (1 : Int) ≤ (d : Nat)
        · rw [decide_eq_false (show ¬ ((d : Nat) : Int) ≤ 12 by omega), Bool.and_false]
        · rw [decide_eq_false ha]; rfl
      rw [hq1, if_pos ⟨rfl, rfl⟩] at h2
      subst h2
      rcases h3 with ⟨h4, _⟩ | ⟨_, _, h5⟩
      · cases h4
      · rw [h5 (by decide)]
        exact Res.err (by unfold nameM; rw [ho]; simp only; rw [if_neg hm]) (by decide)
  · rw [if_neg (fun h => h1 h.1)] at h2
    subst h2
    rcases h3 with ⟨h4, _⟩ | ⟨h4, _, h5⟩
    · exact absurd h4 h1
    · have h6 := h5 h1
      subst h6
      exact .inr ⟨h1, fun h0 => by unfold nameM; rw [ho h0], hw⟩
theorem cellsB_bs : ∀ (xs : List Int), (∀ x ∈ xs, 0 ≤ x ∧ x < 256) → xs.flatMap cellsB = bsV (xs.map Int.toNat)
  | [], _ => rfl
  | x :: xs, h => by
    have h1 := h x List.mem_cons_self
    rw [List.flatMap_cons, cellsB_bs xs (fun y hy => h y (List.mem_cons_of_mem _ hy)), List.map_cons]
    unfold cellsB bsV
    rw [List.map_cons, Int.toNat_of_nonneg h1.1]
    rfl
section
variable {w : World} {g : Nat} {B : Option Addr} {n c z : Nat} {bs : List Nat} {e : Int}
theorem strN_size (l : List Nat) : (strN l).size = l.length := by
  show (strOfNums _).size = _
  rw [strOfNums_size, List.length_map]
def RetNm (bs : List Nat) (z : Nat) (e : Int) (g : Nat) (B : Option Addr) (n c : Nat) (w : World) (d : Ending) (w' : World) : Prop := ∃ s z1 e1, d = .returned (.string s) ∧ But g w w' ∧ RdAt w' g z1 e1 B n c ∧ Res e (nameM bs z) (fun l => s = strN l) z1 e1 ∧ s.size ≤ 255
set_option maxRecDepth 100000 in
set_option maxHeartbeats 1000000 in
theorem rname (kt : RdAt w g z e B n c) (hs : Src w B n c bs) :
    Calls Try.prog 87 #[.pointer (some ⟨g, 0, none⟩)] w (RetNm bs z e g B n c w) := by
  obtain ⟨wb, hwb⟩ : ∃ wb, wb = w.alloc (.cells #[.pointer (some ⟨g, 0, none⟩)] 81) := ⟨_, rfl⟩
  have hlt := kt.lt
  have HB0 := hid (show Below w.heap.size w wb by rw [hwb]; exact (Below.refl _ _).alloc (Nat.le_refl _) _)
  have KB := hid (show BxAt wb w.heap.size g by rw [hwb]; exact Blk.new _ _ _)
  have KT := hid (kt.under HB0.out)
  have HS := hid (hs.below HB0.out)
  have HO := hid (rone KT.out HS.out)
  have hne : w.heap.size ≠ g := by omega
  have hwl : w.heap.size < wb.heap.size := KB.out.lt
  clear kt hs
  go_enter Try.func87, Try.ntmps87
  have c0 : wb.cell? ⟨w.heap.size, 0, none⟩ = some (.pointer (some ⟨g, 0, none⟩)) := KB.out.cell 0
  rw [hwb] at HO c0
  go_wp2_with fail
  refine HO.out.mono ?_
  rintro d w1 ⟨v, z1, e1, ⟨rfl, hb1, k1⟩, ⟨hv0, hv1⟩, hres⟩
  rw [← hwb] at hb1
  have kb1 : BxAt w1 w.heap.size g := KB.out.but hb1 hne
  have hu : wrap64 v = v := by unfold wrap64; omega
  have hu2 : IntKind.i64.wrap v = v := by rw [IntKind.wrap_i64]; omega
  obtain ⟨q, hq⟩ : ∃ q, q = (decide (1 ≤ v) && decide (v ≤ 12)) := ⟨_, rfl⟩
  obtain ⟨e2, he2⟩ : ∃ e2, e2 = (if e1 = 0 ∧ q = false then 7 else e1) := ⟨_, rfl⟩
  have HN2 := hid (rneed q 7 k1)
  rw [← he2] at HN2
  have HB1 := hid hb1
  have KB1 := hid kb1
  have HRS := hid (And.intro hres (And.intro hq he2))
  have HV := hid (And.intro hv0 hv1)
  have e0' : w1.cell? ⟨w.heap.size, 0, none⟩ = some (.pointer (some ⟨g, 0, none⟩)) := kb1.cell 0
  clear hb1 kb1 k1 hres he2 HO c0 hwb
  have hqq : (if 1 ≤ v then decide (v ≤ 12) else false) = q := by rw [hq]; by_cases h : 1 ≤ v <;> simp [h]
  clear hq
  have HB3 := hid (fun w3 (hb3 : But g w1 w3) => (show BxAt w3 w.heap.size g ∧ But g wb w3 from ⟨KB1.out.but hb3 hne, HB1.out.trans hb3⟩))
  have HSEV := hid (fun w3 (hb3 : But g w1 w3) (k3 : RdAt w3 g z1 e2 B n c) => sev_b (f := fLet bs) (dat := Int.toNat) (Good := byG) (blks := noB) (J := fun W (_ : Unit) => BxAt W w.heap.size g) (S := [g]) (bs := bs) ⟨w.heap.size, 0, none⟩ v v.toNat () z1 e2 w3
    (fun _ => by have := HV.out.1; omega) (by have := HV.out.2; omega) (fun _ _ _ h _ => h) (fun W W' _ h hb => h.below hb (by have := HB1.out.size; have := hb3.size; omega)) (fun k hk => by simp at hk; subst hk; exact k3.lt) (by simp)
    (fun W hW => (HS.out.butM (HB1.out.trans hb3) KT.out.typed).butM hW.but k3.typed) (HB3.out w3 hb3).1 k3
    (fun W s z hW hj hr => name1_c hj hr ((HS.out.butM (HB1.out.trans hb3) KT.out.typed).butM hW.but k3.typed) hne))
  have HCV := hid (fun w3 w4 xs C f (u : Unit) (hsv : SevAt 5 1 cellsB byG noB (fun W (_ : Unit) => BxAt W w.heap.size g) [g] w3 xs C f u w4) => (show (convert 31 9 (.slice C xs.length f)).run Try.prog w4 = .ok (.string (strN (xs.map Int.toNat))) w4 by
    have h := Reads.of_own hsv.own
    rw [cellsB_bs xs hsv.good] at h
    exact conv_bytes h))
  have HFIN := hid (fun w3 w4 xs C f (u : Unit) z3 e3 (hb3 : But g w1 w3) (hsv : SevAt 5 1 cellsB byG noB (fun W (_ : Unit) => BxAt W w.heap.size g) [g] w3 xs C f u w4) (k4 : RdAt w4 g z3 e3 B n c) (hr3 : Res e2 (sevS (fLet bs) v.toNat () z1) (fun d => d = (xs.map Int.toNat, u)) z3 e3) (hxl : xs.length ≤ v.toNat) =>
    (show RetNm bs z e g B n c w (.returned (.string (strN (xs.map Int.toNat)))) w4 from ⟨_, z3, e3, rfl, ((But.of_below HB0.out).trans (HB3.out w3 hb3).2).trans hsv.fr.but, k4, by
      have h := name_res HRS.out.1 HRS.out.2.1 HRS.out.2.2 hr3
      rcases h with ⟨a1, a2, d, a3, a4⟩ | h
      · exact .inl ⟨a1, a2, d, a3, by rw [a4]⟩
      · exact .inr h, by rw [strN_size, List.length_map]; have := HV.out.2; omega⟩))
  by_cases h1v : 1 ≤ v
  · rw [if_pos h1v] at hqq
    go_wp2_with fail
    refine HN2.out.mono ?_
    rintro d w3 ⟨rfl, hb3, k3⟩
    have hw3 := HB3.out w3 hb3
    have x0 : w3.cell? ⟨w.heap.size, 0, none⟩ = some (.pointer (some ⟨g, 0, none⟩)) := hw3.1.cell 0
    have HX := hid (HSEV.out w3 hb3 k3)
    clear e0' HN2
    go_wp2_with fail
    refine HX.out.mono ?_
    rintro d w4 ⟨xs, C, f, u, z3, e3, rfl, hsv, k4, hr3, hxl⟩
    have hcv := HCV.out w3 w4 xs C f u hsv
    have HF := hid (HFIN.out w3 w4 xs C f u z3 e3 hb3 hsv k4 hr3 hxl)
    clear x0 HX hsv k4 hr3 hb3 k3 hw3 hxl
    go_wp2_with fail
    go_ret
    exact HF.out
  · rw [if_neg h1v] at hqq
    subst hqq
    go_wp2_with fail
    refine HN2.out.mono ?_
    rintro d w3 ⟨rfl, hb3, k3⟩
    have hw3 := HB3.out w3 hb3
    have x0 : w3.cell? ⟨w.heap.size, 0, none⟩ = some (.pointer (some ⟨g, 0, none⟩)) := hw3.1.cell 0
    have HX := hid (HSEV.out w3 hb3 k3)
    clear e0' HN2
    go_wp2_with fail
    refine HX.out.mono ?_
    rintro d w4 ⟨xs, C, f, u, z3, e3, rfl, hsv, k4, hr3, hxl⟩
    have hcv := HCV.out w3 w4 xs C f u hsv
    have HF := hid (HFIN.out w3 w4 xs C f u z3 e3 hb3 hsv k4 hr3 hxl)
    clear x0 HX hsv k4 hr3 hb3 k3 hw3 hxl
    go_wp2_with fail
    go_ret
    exact HF.out
end
end Go.Proofs.Ytgdnpmjmkcccoaa
