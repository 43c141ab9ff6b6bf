/- Contracts of the laws of record: what wakes asks, reckoned (seat Record). -/
import Derived.Test.YtedojdbihajnbaaRecU
import Derived.Test.YtedojdbihajnbaaRecJ
namespace Go.Proofs.Ytedojdbihajnbaa
open Go.RowKit Go.Shelf VB
open Go.Lib (hid)
set_option linter.unusedVariables false
set_option linter.unusedSimpArgs false
def wkM1 : Mu := ⟨3, ⟨#[98]⟩, 0, 0, 0, [(5, 7), (8, 6)]⟩
theorem wk1 : rightB wkM1 = true := by decide
theorem wk2 : mutB wkM1 = [3, 1, 98, 2, 5, 14, 6, 1] := by
  have e1 : fold64 7 = 14 := by decide
  have e2 : fold64 (8 - 5) = 6 := by decide
  have e3 : fold64 (6 - 7) = 1 := by decide
  have h : bodyB wkM1 = vb 2 ++ ((vb 5 ++ vb 14) ++ (vb 6 ++ vb 1)) := by
    show vb 2 ++ ((List.range 2).flatMap (ptBy wkM1.pts)) = _
    rw [show List.range 2 = [0, 1] by decide]
    show vb 2 ++ ((vb 5 ++ vb (fold64 7)) ++ ((vb (fold64 (8 - 5)) ++ vb (fold64 (6 - 7))) ++ [])) = _
    rw [e1, e2, e3, List.append_nil]
  unfold mutB
  rw [h, vb_lt (by decide), vb_lt (by decide), vb_lt (by decide), vb_lt (by decide), vb_lt (by decide)]
  rfl
theorem wk3 : getM [9, 1, 1, 97, 3, 1] 1 = (⟨1, ⟨#[97]⟩, 3, 0, -1, []⟩, 6, 0) := by rfl
theorem wk4 : rowsS [2, 2, 1, 97, 4, 1, 97, 172, 2] = .ok [⟨2, ⟨#[97]⟩, 0, 0, 0, []⟩, ⟨4, ⟨#[97]⟩, 0, 300, 0, []⟩] := by rfl
theorem wk5 : rowsS [1, 2, 1] = .error 6 := by rfl
theorem wk6 : nameB ⟨#[122, 48]⟩ = true := by decide
theorem wk7 : nameB ⟨#[90]⟩ = false := by decide
theorem wk8 : rightB ⟨2, ⟨#[97]⟩, 0, 0, 0, []⟩ = true := by decide
theorem wk9 : rightB ⟨4, ⟨#[97]⟩, 0, 300, 0, []⟩ = true := by decide
theorem wk10 (q1 q2 : MuA) (h1 : q1.1 = ⟨2, ⟨#[97]⟩, 0, 0, 0, []⟩) (h2 : q2.1 = ⟨4, ⟨#[97]⟩, 0, 300, 0, []⟩) : (rowMB [q1, q2]).length = 9 := by
  have e3 : vb 300 = [172, 2] := by rw [vb_ge (by decide), vb_lt (by decide)]
  unfold rowMB
  rw [List.flatMap_cons, List.flatMap_cons, List.flatMap_nil, h1, h2, List.length_append, List.length_append, List.append_nil]
  have a : mutB ⟨2, ⟨#[97]⟩, 0, 0, 0, []⟩ = [2, 1, 97] := by rfl
  have b : mutB ⟨4, ⟨#[97]⟩, 0, 300, 0, []⟩ = [4, 1, 97, 172, 2] := by
    show [4, 1, 97] ++ vb 300 = _
    rw [e3]; rfl
  rw [a, b, vb_lt (by simp)]
  rfl
theorem two_pts (w : World) : Reads (w.alloc (.cells #[.int .i64 5, .int .i64 7, .int .i64 8, .int .i64 6] 51)) 51 2 (some ⟨w.heap.size, 0, none⟩) 2 (wkM1.pts.flatMap cellsP) := by
  refine ⟨rfl, fun _ => ⟨_, rfl, (Blk.new w 51 _).typed, fun j u hu => ?_⟩⟩
  have hk := Blk.new w 51 #[.int .i64 5, .int .i64 7, .int .i64 8, .int .i64 6]
  rw [show ((⟨w.heap.size, 0, none⟩ : Addr).add j) = ⟨w.heap.size, j, none⟩ by rw [Addr.add_lit]; simp]
  rw [hk.cell j]
  rw [← hu, List.getElem?_toArray]
  rfl
theorem src_new (w : World) (bs : List Nat) (n : Nat) (hn : bs.length = n) (h6 : n ≤ 1000000) (hbs : ∀ x ∈ bs, x < 256) : Src (w.alloc (.cells (bsV bs).toArray 5)) (some ⟨w.heap.size, 0, none⟩) n n bs := by
  refine ⟨⟨by rw [bsV_len, hn, Nat.mul_one], fun _ => ⟨_, rfl, (Blk.new w 5 _).typed, fun j u hu => ?_⟩⟩, h6, Nat.le_refl _, by simp only [maxLen]; omega, hbs⟩
  rw [show ((⟨w.heap.size, 0, none⟩ : Addr).add j) = ⟨w.heap.size, j, none⟩ by rw [Addr.add_lit]; simp, (Blk.new w 5 _).cell j, ← hu, List.getElem?_toArray]
theorem src_at {g : Nat} (w : World) (bs : List Nat) (n : Nat) (hg : g = w.heap.size) (hn : bs.length = n) (h6 : n ≤ 1000000) (hbs : ∀ x ∈ bs, x < 256) : Src (w.alloc (.cells (bsV bs).toArray 5)) (some ⟨g, 0, none⟩) n n bs := hg ▸ src_new w bs n hn h6 hbs
def wkMA : Mu := ⟨2, ⟨#[97]⟩, 0, 0, 0, []⟩
def wkMB : Mu := ⟨4, ⟨#[97]⟩, 0, 300, 0, []⟩
theorem two_rows {C : Option Addr} {f : Nat} {w w1 w' : World} {e : Ending} (h : RetRows (.ok [⟨2, ⟨#[97]⟩, 0, 0, 0, []⟩, ⟨4, ⟨#[97]⟩, 0, 300, 0, []⟩]) w e w') : ∃ C f ms, ms.map Prod.fst = [wkMA, wkMB] ∧ e = .returned (.tuple #[.slice C 2 f, .int .i64 0]) ∧ Below w.heap.size w w' ∧ Reads w' 24 6 C 2 (ms.flatMap cellsM) ∧ PtsIn w' ms := by
  obtain ⟨C, f, ms, hm, he, ho, hp, hb⟩ := h
  refine ⟨C, f, ms, hm, he, hb, Reads.of_own ho, ?_⟩
  match ms, hm with
  | [q1, q2], hm =>
    obtain ⟨_, _, o1, _, _, _, o2, _, _⟩ := hp
    injection hm with h1 h2
    injection h2 with h2 _
    intro i hi
    have hc : i = 0 ∨ i = 1 := by simp at hi; omega
    rcases hc with rfl | rfl
    · exact ⟨_, Reads.of_own o1, by show q1.1.pts.length ≤ _; rw [h1]; decide⟩
    · exact ⟨_, Reads.of_own o2, by show q2.1.pts.length ≤ _; rw [h2]; decide⟩
theorem two_of {ms : List MuA} (hm : ms.map Prod.fst = [wkMA, wkMB]) : ∃ q1 q2, ms = [q1, q2] ∧ q1.1 = wkMA ∧ q2.1 = wkMB := by
  match ms with
  | [] => simp at hm
  | [q] => simp at hm
  | [q1, q2] =>
    injection hm with h1 h2
    injection h2 with h2 _
    exact ⟨q1, q2, rfl, h1, h2⟩
  | q1 :: q2 :: q3 :: t => simp at hm
theorem row_two {ms : List MuA} {w w' : World} {e : Ending} (h : RetRow ms w e w') (hm : ms.map Prod.fst = [wkMA, wkMB]) : ∃ C f, e = .returned (.tuple #[.slice C 9 f, .int .i64 0, .int .i64 0]) ∧ Below w.heap.size w w' := by
    obtain ⟨q1, q2, rfl, h1, h2⟩ := two_of hm
    rcases h with ⟨i, hi, _, hf, _⟩ | ⟨_, C, f, he, hb, _⟩
    · exfalso
      have hc : i = 0 ∨ i = 1 := by simp at hi; omega
      rcases hc with rfl | rfl
      · have : rightB q1.1 = false := hf
        rw [h1] at this
        exact absurd this (by decide)
      · have : rightB q2.1 = false := hf
        rw [h2] at this
        exact absurd this (by decide)
    · rw [wk10 q1 q2 h1 h2] at he
      exact ⟨C, f, he, hb⟩
theorem floor_at {ms : List MuA} {w : World} {C : Option Addr} (h : Reads w 24 6 C 2 (ms.flatMap cellsM)) (hm : ms.map Prod.fst = [wkMA, wkMB]) : ∃ ad, C = some ad ∧ w.cell? ⟨ad.block, ad.off + 6 + 3, none⟩ = some (.int .i64 300) := by
  match ms, hm with
  | [q1, q2], hm =>
    injection hm with h1 h2
    injection h2 with h2 _
    have h2' : q2.1 = wkMB := h2
    obtain ⟨ad, hC, _, _, _, h3, _⟩ := mu_at h (i := 1) (by omega) (k := q2.1.kind) (nm := q2.1.name) (ep := q2.1.eps) (fl := q2.1.floor) (sc := q2.1.scale) (pv := .slice q2.2.1 q2.1.pts.length q2.2.2) rfl
    rw [h2'] at h3
    exact ⟨ad, hC, h3⟩
set_option maxRecDepth 100000 in
set_option maxHeartbeats 4000000 in
theorem wakes_r (w : World) : Calls Try.prog 9 #[] w fun e w' => e = .returned (.bool true) ∧ Below w.heap.size w w' := by
  have H1 := hid (Encode_c wkM1 (some ⟨w.heap.size, 0, none⟩) 2 _ (two_pts w) (by decide))
  have H1b := hid (H1.out.mono (R' := fun e w' => ∃ C f, e = Ending.returned (.tuple #[.slice C 8 f, .int .i64 0]) ∧ Below (w.alloc (.cells #[.int .i64 5, .int .i64 7, .int .i64 8, .int .i64 6] 51)).heap.size (w.alloc (.cells #[.int .i64 5, .int .i64 7, .int .i64 8, .int .i64 6] 51)) w' ∧ Reads w' 5 1 C 8 (bsV [3, 1, 98, 2, 5, 14, 6, 1])) (by
    intro e w' h
    unfold RetEnc at h
    rw [if_pos wk1, wk2] at h
    obtain ⟨C, f, he, hb, ho⟩ := h
    exact ⟨C, f, he, hb, Reads.of_own ho⟩))
  clear H1
  go_enter Try.func9, Try.ntmps9
  go_wp2_with fail
  refine H1b.out.mono ?_
  rintro e w1 ⟨C1, f1, rfl, hb1, hr1⟩
  have hb1 := (below_alloc (Below.refl w.heap.size w) (.cells #[.int .i64 5, .int .i64 7, .int .i64 8, .int .i64 6] 51)).trans (hb1.mono (by simp))
  clear H1b
  have HB := hid hb1
  have HR := hid hr1
  clear hb1 hr1
  have H2 := hid (get_c 1 (src_new w1 [9, 1, 1, 97, 3, 1] 6 rfl (by decide) (by decide)))
  rw [wk3] at H2
  go_wp2_with fail
  refine H2.out.mono ?_
  rintro e w2 ⟨A2, f2, rfl, _, hb2⟩
  have HB := hid (HB.out.trans (((Below.refl w1.heap.size w1).alloc (Nat.le_refl _) (.cells (bsV [9, 1, 1, 97, 3, 1]).toArray 5)).trans (hb2.mono (by simp)) |>.mono HB.out.size))
  have HR := hid (HR.out.below (((Below.refl w1.heap.size w1).alloc (Nat.le_refl _) (.cells (bsV [9, 1, 1, 97, 3, 1]).toArray 5)).trans (hb2.mono (by simp))))
  clear H2 hb2
  have KM := Blk.new w2 24 (aM 1 ⟨#[97]⟩ 3 0 (-1) (.slice A2 0 f2))
  have H3 := hid (rows_c (src_at (g := w2.heap.size + 1) (w2.alloc (.cells (aM 1 ⟨#[97]⟩ 3 0 (-1) (.slice A2 0 f2)) 24)) [2, 2, 1, 97, 4, 1, 97, 172, 2] 9 (by simp) rfl (by decide) (by decide)))
  rw [wk4] at H3
  have hb3 := below2' w2 (.cells (aM 1 ⟨#[97]⟩ 3 0 (-1) (.slice A2 0 f2)) 24) (.cells (bsV [2, 2, 1, 97, 4, 1, 97, 172, 2]).toArray 5) (Below.refl _ _)
  have KM := hid (KM.alloc (.cells (bsV [2, 2, 1, 97, 4, 1, 97, 172, 2]).toArray 5))
  have HB3 := hid hb3
  clear hb3
  go_wp2_with fail
  refine H3.out.mono ?_
  intro e w3 h3
  obtain ⟨C3, f3, ms, hm, rfl, hb3, hr3, hp3⟩ := two_rows (C := none) (f := 0) (w1 := w) h3
  have HM := hid hm
  have hbx := HB3.out.trans (hb3.mono HB3.out.size)
  have KM := hid (KM.out.under hb3)
  have HB := hid (HB.out.trans (hbx.mono HB.out.size))
  have HR := hid (HR.out.below hbx)
  have HR3 := hid hr3
  have H4 := hid (Row_c ms C3 2 f3 w3 hr3 hp3 (by decide))
  clear H3 h3 hb3 hr3 hp3 HB3 hbx hm
  go_wp2_with fail
  refine H4.out.mono ?_
  intro e w4 h4
  obtain ⟨C4, f4, rfl, hb4⟩ := row_two h4 HM.out
  have KM := hid (KM.out.under hb4)
  have HB := hid (HB.out.trans (hb4.mono HB.out.size))
  have HR := hid (HR.out.below hb4)
  have HR3 := hid (HR3.out.below hb4)
  clear H4 h4 hb4
  have H5 := hid (rows_c (src_at (g := w4.heap.size) w4 [1, 2, 1] 3 rfl rfl (by decide) (by decide)))
  rw [wk5] at H5
  have H5b := hid (H5.out.mono (R' := fun e w' => e = Ending.returned (.tuple #[.slice none 0 0, .int .i64 6]) ∧ Below (w4.heap.size + 1) (w4.alloc (.cells (bsV [1, 2, 1]).toArray 5)) w') (by
    rintro e w' ⟨he, hb⟩
    exact ⟨he, by simpa using hb⟩))
  clear H5
  go_wp2_with fail
  refine H5b.out.mono ?_
  rintro e w5 ⟨rfl, hb5⟩
  have hbx := ((Below.refl w4.heap.size w4).alloc (Nat.le_refl _) (.cells (bsV [1, 2, 1]).toArray 5)).trans (hb5.mono (by omega))
  have KM := hid (KM.out.under hbx)
  have HB := hid (HB.out.trans (hbx.mono HB.out.size))
  have HR := hid (HR.out.below hbx)
  obtain ⟨ad, rfl, hfl⟩ := floor_at (HR3.out.below hbx) HM.out
  clear H5b hb5 hbx HM
  obtain ⟨x0, x1, x2, x3, x4, x5⟩ := KM.out.sixc
  have HE := hid (equal_bs (e1 := 5) (e2 := 5) C1 (some ⟨w5.heap.size, 0, none⟩) 8 8 f1 8 [3, 1, 98, 2, 5, 14, 6, 1] [3, 1, 98, 2, 5, 14, 6, 1] (w5.alloc (.cells (bsV [3, 1, 98, 2, 5, 14, 6, 1]).toArray 5)) (HR.out.alloc _) (src_new w5 [3, 1, 98, 2, 5, 14, 6, 1] 8 rfl (by decide) (by decide)).reads (by decide))
  rw [show decide (([3, 1, 98, 2, 5, 14, 6, 1] : List Nat) = [3, 1, 98, 2, 5, 14, 6, 1]) = true from decide_eq_true rfl] at HE
  go_wp2_with fail
  refine HE.out.mono ?_
  rintro e w6 ⟨rfl, q, rfl⟩
  have hfl : (w5.alloc (.cells (bsV [3, 1, 98, 2, 5, 14, 6, 1]).toArray 5)).cell? ⟨ad.block, ad.off + 6 + 3, none⟩ = some (.int .i64 300) := by rw [World.cell?_alloc_some _ _ _ (by rw [hfl]; rfl)]; exact hfl
  have hfl : ((w5.alloc (.cells (bsV [3, 1, 98, 2, 5, 14, 6, 1]).toArray 5)).drewN q).cell? ⟨ad.block, ad.off + 6 + 3, none⟩ = some (.int .i64 300) := hfl
  have KM6 := (KM.out.alloc (.cells (bsV [3, 1, 98, 2, 5, 14, 6, 1]).toArray 5)).drewN q
  have HB := hid (below_dn (HB.out.alloc HB.out.size (.cells (bsV [3, 1, 98, 2, 5, 14, 6, 1]).toArray 5)) q)
  clear HE x0 x1 x2 x3 x4 x5 HR3 HR KM
  generalize (w5.alloc (.cells (bsV [3, 1, 98, 2, 5, 14, 6, 1]).toArray 5)).drewN q = w6 at *
  obtain ⟨x0, x1, x2, x3, x4, x5⟩ := KM6.sixc
  have N1 := hid (fun w => Name_c ⟨#[122, 48]⟩ w)
  have N2 := hid (fun w => Name_c ⟨#[90]⟩ w)
  rw [wk6] at N1
  rw [wk7] at N2
  go_wp2_with fail
  refine (N1.out _).mono ?_
  rintro e w7 ⟨rfl, hb7⟩
  go_wp2_with fail
  refine (N2.out _).mono ?_
  rintro e w8 ⟨rfl, hb8⟩
  have HF := hid ((HB.out.trans (hb7.mono HB.out.size)).trans (hb8.mono (HB.out.trans (hb7.mono HB.out.size)).size))
  clear hb7 hb8
  go_wp2
  go_ret
  exact ⟨rfl, HF.out⟩
end Go.Proofs.Ytedojdbihajnbaa
