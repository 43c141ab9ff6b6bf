/- Manifest: plain laws on what may be: what is put fits, and is short. -/
import Derived.Test.YtgdnpmjmkcccoaaManE
namespace Go.Proofs.Ytgdnpmjmkcccoaa
open Go.RowKit Go.Shelf VB
open Go.Lib (hid)
set_option linter.unusedVariables false
set_option linter.unusedSimpArgs false
theorem betB_iff {n lo hi : Int} : betB n lo hi = true ↔ lo ≤ n ∧ n ≤ hi := by unfold betB; simp
theorem markB_iff {p : Int} {L : List Int} : markB p L = true ↔ (18 ≤ p ∧ p < 256) ∧ p ∉ L := by unfold markB; simp
theorem pagesB_in : ∀ (ps L : List Int), pagesB ps L = true → ∀ p ∈ ps, 18 ≤ p ∧ p < 256
  | [], _, _ => by simp
  | x :: ps, L, h => by
    unfold pagesB at h
    simp only [Bool.and_eq_true] at h
    intro p hp
    rcases List.mem_cons.1 hp with rfl | hp
    · exact (markB_iff.1 h.1).1
    · exact pagesB_in ps _ h.2 p hp
/-- what is right of an entry's numbers, where the last time is not below 0 -/
structure EnOk (x : En) : Prop where
  fs0 : 0 ≤ x.fs
  le : x.fs ≤ x.ls
  ls1 : x.ls ≤ 281474976710656
  ct0 : 1 ≤ x.ct
  ct1 : x.ct ≤ 256
  ct2 : x.ct - 1 ≤ x.ls - x.fs
  one : x.ls = x.fs ↔ x.ct = 1
  n0 : 1 ≤ x.ps.length
  n1 : x.ps.length ≤ 256
  by0 : 120 * ((x.ps.length : Int) - 1) < x.by_
  by1 : x.by_ ≤ 120 * (x.ps.length : Int)
  pg : ∀ p ∈ x.ps, 18 ≤ p ∧ p < 256
theorem enOk_of {x : En} {L : List Int} (h : enB x L = true) (h0 : 0 ≤ x.ls) (h1 : x.fs ≤ 9223372036854775807) : EnOk x := by
  unfold enB isB at h
  simp only [Bool.and_eq_true, decide_eq_true_eq] at h
  obtain ⟨hT, hP, hG⟩ := h
  have a1 : ¬ x.fs < 0 := fun h => hT (.inl h)
  have a2 : ¬ 281474976710656 < x.ls := fun h => hT (.inr (.inl h))
  have hw : IntKind.i64.wrap (x.ls - x.fs) = x.ls - x.fs := by rw [IntKind.wrap_i64]; omega
  rw [hw] at hT
  have a3 : ¬ x.ls - x.fs < 0 := fun h => hT (.inr (.inr (.inl h)))
  have a4 : ¬ x.ct < 1 := fun h => hT (.inr (.inr (.inr (.inl h))))
  have a5 : ¬ 256 < x.ct := fun h => hT (.inr (.inr (.inr (.inr (.inl h)))))
  have a6 : ¬ x.ls - x.fs < x.ct - 1 := fun h => hT (.inr (.inr (.inr (.inr (.inr (.inl h))))))
  have a7 : x.ls - x.fs = 0 ↔ x.ct = 1 := Classical.byContradiction fun h => hT (.inr (.inr (.inr (.inr (.inr (.inr h))))))
  have b1 : ¬ x.ps.length = 0 := fun h => hP (.inl h)
  have b2 : ¬ 256 < x.ps.length := fun h => hP (.inr (.inl h))
  have b3 : ¬ x.by_ ≤ 120 * ((x.ps.length : Int) - 1) := fun h => hP (.inr (.inr (.inl h)))
  have b4 : ¬ 120 * (x.ps.length : Int) < x.by_ := fun h => hP (.inr (.inr (.inr h)))
  exact ⟨by omega, by omega, by omega, by omega, by omega, by omega, ⟨fun h => a7.1 (by omega), fun h => by have := a7.2 h; omega⟩, by omega, by omega, by omega, by omega, pagesB_in _ _ hG⟩
/-- entries one behind the other, all right -/
def ensOk : Int → List En → Prop
  | _, [] => True
  | b, x :: l => EnOk x ∧ b < x.fs ∧ ensOk x.ls l
theorem ensOk_of : ∀ (l : List En) (L : List Int) (pr : Option Int) (b : Int), mayB l L pr = true → (∀ s, pr = some s → s = b) → (pr = none → b = -1) → (∀ x ∈ l, 0 ≤ x.ls) → (∀ x ∈ l, x.fs ≤ 9223372036854775807) → ensOk b l
  | [], _, _, _, _, _, _, _, _ => trivial
  | x :: l, L, pr, b, h, h1, h2, h3, h4 => by
    unfold mayB at h
    simp only [Bool.and_eq_true] at h
    have he := enOk_of h.1 (h3 x List.mem_cons_self) (h4 x List.mem_cons_self)
    refine ⟨he, ?_, ensOk_of l _ (some x.ls) x.ls h.2.2 (fun s hs => by injection hs with hs; exact hs.symm) (fun h => by cases h) (fun y hy => h3 y (List.mem_cons_of_mem _ hy)) (fun y hy => h4 y (List.mem_cons_of_mem _ hy))⟩
    cases pr with
    | none => have := he.fs0; rw [h2 rfl]; omega
    | some s =>
      have h5 := h.2.1
      unfold behindB at h5
      have := h1 s rfl
      simp only [decide_eq_true_eq] at h5
      omega
theorem fitE_of : ∀ (l : List En) (b ah : Int), ensOk b l → 0 ≤ ah → ah ≤ b + 1 → FitE ah l
  | [], _, _, _, _, _ => trivial
  | x :: l, b, ah, ⟨h, hb, hl⟩, h0, h1 => by
    have a1 := h.fs0; have a2 := h.le; have a3 := h.ls1; have a4 := h.ct0; have a5 := h.ct1; have a6 := h.n1; have a7 := h.by0; have a8 := h.by1; have a9 := h.n0
    refine ⟨⟨⟨by omega, by omega⟩, ⟨by omega, by omega⟩, ⟨by omega, by omega⟩, ⟨by omega, by omega⟩, fun p hp => ?_⟩, fitE_of l x.ls x.ls hl (by omega) (by omega)⟩
    have := h.pg p hp
    exact ⟨by omega, by omega⟩
/-- points one behind the other, all right -/
def ptsOk : Int → Int → List (Int × Int) → Prop
  | _, _, [] => True
  | b, fl, p :: l => (b < p.1 ∧ fl ≤ p.1 ∧ p.1 ≤ 281474976710656 ∧ -2305843009213693952 ≤ p.2 ∧ p.2 ≤ 2305843009213693952) ∧ ptsOk p.1 fl l
theorem openL_iff : ∀ (l : List (Int × Int)) (b fl : Int), openL l b fl = true ↔ ptsOk b fl l
  | [], _, _ => by simp [openL, ptsOk]
  | p :: l, b, fl => by
    unfold openL ptsOk
    simp only [Bool.and_eq_true, decide_eq_true_eq, betB_iff, openL_iff l p.1 fl]
    constructor
    · rintro ⟨h1, h2, h3, h4⟩; exact ⟨⟨h1, h2.1, h2.2, h3.1, h3.2⟩, h4⟩
    · rintro ⟨⟨h1, h2, h3, h4, h5⟩, h6⟩; exact ⟨h1, ⟨h2, h3⟩, ⟨h4, h5⟩, h6⟩
theorem fitP_of : ∀ (l : List (Int × Int)) (b fl : Int) (was : Int × Int), ptsOk b fl l → 0 ≤ fl → 0 ≤ was.1 → was.1 ≤ 281474976710656 → (was.1 = 0 ∨ was.1 ≤ b) → -2305843009213693952 ≤ was.2 → was.2 ≤ 2305843009213693952 → FitP was l
  | [], _, _, _, _, _, _, _, _, _, _ => trivial
  | p :: l, b, fl, was, ⟨⟨h1, h2, h3, h4, h5⟩, h6⟩, h0, a1, a2, a3, a4, a5 =>
    ⟨⟨⟨by omega, by omega⟩, ⟨by omega, by omega⟩⟩, fitP_of l p.1 fl p h6 h0 (by omega) (by omega) (.inr (Int.le_refl _)) h4 h5⟩
/-- what is right of a row -/
structure RowOk (x : Ro) : Prop where
  nm : nameB x.nm = true
  ep0 : 0 ≤ x.ep
  ep1 : x.ep ≤ 1099511627776
  sc0 : -40 ≤ x.sc
  sc1 : x.sc ≤ 40
  fl0 : 0 ≤ x.fl
  fl1 : x.fl ≤ 281474976710656
  la0 : -1 ≤ x.la
  la1 : x.la ≤ 281474976710656
  en : ensOk (-1) x.en
  flr : ∀ e ∈ x.en, x.fl ≤ e.ls
  opl : x.op.length < 32
  op : ptsOk (lstE x.en) x.fl x.op
theorem rowOk_of {x : Ro} (h : rowOk x = true) (hfs : ∀ e ∈ x.en, e.fs ≤ 9223372036854775807) : RowOk x := by
  unfold rowOk tailB openB floorB at h
  simp only [Bool.and_eq_true, decide_eq_true_eq, betB_iff, List.all_eq_true, openL_iff] at h
  obtain ⟨h1, h2, h3, h4, h5, h6, h7, ⟨h8, h9⟩, _⟩ := h
  exact ⟨h1, h2.1, h2.2, h3.1, h3.2, h4.1, h4.2, h5.1, h5.2, ensOk_of _ [] none (-1) h6 (fun s h => by cases h) (fun _ => rfl) (fun e he => by have := h7 e he; omega) hfs, h7, h8, h9⟩
theorem RowOk.fit {x : Ro} (h : RowOk x) : FitR x := by
  have a1 := h.ep0; have a2 := h.ep1; have a3 := h.sc0; have a4 := h.sc1; have a5 := h.fl0; have a6 := h.fl1; have a7 := h.la0; have a8 := h.la1
  have hn := h.nm
  unfold nameB at hn
  simp only [Bool.and_eq_true, decide_eq_true_eq] at hn
  exact ⟨hn.1.2, ⟨by omega, by omega⟩, ⟨by omega, by omega⟩, ⟨by omega, by omega⟩, ⟨by omega, by omega⟩, fitE_of _ _ _ h.en (by omega) (by omega),
    fitP_of _ _ _ _ h.op h.fl0 (by decide) (by decide) (.inl rfl) (by decide) (by decide)⟩
theorem vb1_len {z : Int} (h : z ≤ 9223372036854775807) : ([z].flatMap vbI).length ≤ 10 := by
  rw [List.flatMap_singleton]; exact vbI_len h
theorem ensB_len : ∀ (l : List En) (ah : Int), FitE ah l → (ensB ah l).length ≤ 40 * l.length + 10 * (l.flatMap En.ps).length
  | [], _, _ => by simp [ensB]
  | x :: l, ah, ⟨⟨g1, g2, g3, g4, g5⟩, hl⟩ => by
    have ih := ensB_len l x.ls hl
    unfold ensB entB
    have h1 := vbs_len [x.fs - ah, x.ls - x.fs, x.ct, x.by_] (by
      intro z hz
      simp only [List.mem_cons, List.not_mem_nil, or_false] at hz
      rcases hz with rfl | rfl | rfl | rfl
      · exact g1.2
      · exact g2.2
      · exact g3.2
      · exact g4.2)
    have h2 := vbs_len x.ps (fun z hz => (g5 z hz).2)
    simp only [List.length_append, List.flatMap_cons, List.length_cons, List.length_nil] at h1 h2 ih ⊢
    omega
theorem ptsB_len : ∀ (l : List (Int × Int)) (was : Int × Int), FitP was l → (ptsB2 was l).length ≤ 20 * l.length
  | [], _, _ => by simp [ptsB2]
  | p :: l, was, ⟨⟨g1, g2⟩, hl⟩ => by
    have ih := ptsB_len l p hl
    unfold ptsB2 ptB2
    have h1 := vb1_len g1.2
    have h2 := vb_len10 (fold64_lt g2.1 g2.2)
    rw [List.length_append, List.length_append, List.length_cons]
    omega
theorem en_pages : ∀ (l : List En) (b : Int), ensOk b l → l.length ≤ (l.flatMap En.ps).length
  | [], _, _ => by simp
  | x :: l, b, ⟨h, _, hl⟩ => by
    have ih := en_pages l x.ls hl
    have := h.n0
    rw [List.flatMap_cons, List.length_append, List.length_cons]
    omega
theorem rowBy_len {x : Ro} (h : RowOk x) (hp : (x.en.flatMap En.ps).length ≤ 256) : (rowBy x).length ≤ 800 + 50 * (x.en.flatMap En.ps).length := by
  have hf := h.fit
  have h1 := ensB_len _ _ hf.en
  have h2 := ptsB_len _ _ hf.op
  have h3 := en_pages _ _ h.en
  have h4 := h.opl
  have h5 := vb1_len hf.ep.2
  have h6 := vb_len10 (fold64_lt hf.sc.1 hf.sc.2)
  have h7 := hf.nm
  have h9 : (vbI x.fl).length ≤ 10 := vbI_len hf.fl.2
  have h10 : (vbI (x.la + 1)).length ≤ 10 := vbI_len hf.la.2
  have h8 : (vbI ((x.en.length : Nat) : Int)).length ≤ 10 := vbI_len (by omega)
  have h11 : (vbI ((x.op.length : Nat) : Int)).length ≤ 10 := vbI_len (by omega)
  unfold rowBy
  simp only [List.length_append, List.length_cons, nmL_len, List.flatMap_cons, List.flatMap_nil, List.length_nil] at h1 h2 h5 ⊢
  omega
theorem nodup_le : ∀ (n : Nat) (l : List Int), l.Nodup → (∀ p ∈ l, 0 ≤ p ∧ p < (n : Nat)) → l.length ≤ n
  | 0, l, _, h => by
    cases l with
    | nil => simp
    | cons x l => have := h x List.mem_cons_self; omega
  | n + 1, l, hn, h => by
    have ih := nodup_le n (l.erase (n : Nat)) (hn.erase _) (fun p hp => by
      obtain ⟨h1, h2⟩ := (List.Nodup.mem_erase_iff hn).1 hp
      have := h p h2
      omega)
    by_cases hm : ((n : Nat) : Int) ∈ l
    · rw [List.length_erase_of_mem hm] at ih
      omega
    · rw [List.erase_of_not_mem hm] at ih
      omega
theorem fresh_nodup : ∀ (ps L : List Int), freshB ps L = true → ps.Nodup ∧ ∀ p ∈ ps, p ∉ L
  | [], _, _ => by simp
  | x :: ps, L, h => by
    unfold freshB at h
    simp only [Bool.and_eq_true, decide_eq_true_eq] at h
    obtain ⟨h1, h2⟩ := fresh_nodup ps _ h.2
    refine ⟨List.nodup_cons.2 ⟨fun hm => h2 x hm List.mem_cons_self, h1⟩, fun p hp => ?_⟩
    rcases List.mem_cons.1 hp with rfl | hp
    · exact h.1
    · exact fun hl => h2 p hp (List.mem_cons_of_mem _ hl)
theorem risesB_all : ∀ (l : List Ro) (pr : Option ByteArray), risesB pr l = true → ∀ x ∈ l, rowOk x = true
  | [], _, _ => by simp
  | y :: l, pr, h => by
    unfold risesB at h
    simp only [Bool.and_eq_true] at h
    intro x hx
    rcases List.mem_cons.1 hx with rfl | hx
    · exact h.1
    · exact risesB_all l _ h.2.2 x hx
/-- what is right of a manifest -/
structure ManOk (l : List Ro) : Prop where
  len : l.length ≤ 8
  rows : ∀ x ∈ l, RowOk x
  nodup : (pgsR l).Nodup
theorem ens_pg : ∀ (l : List En) (b : Int), ensOk b l → ∀ p ∈ l.flatMap En.ps, 18 ≤ p ∧ p < 256
  | [], _, _ => by simp
  | x :: l, b, ⟨h, _, hl⟩ => by
    intro p hp
    rw [List.flatMap_cons] at hp
    rcases List.mem_append.1 hp with hp | hp
    · exact h.pg p hp
    · exact ens_pg l x.ls hl p hp
theorem ManOk.pages {l : List Ro} (h : ManOk l) : (pgsR l).length ≤ 256 := by
  refine nodup_le 256 _ h.nodup (fun p hp => ?_)
  unfold pgsR at hp
  obtain ⟨x, hx, hp⟩ := List.mem_flatMap.1 hp
  have := ens_pg _ _ (h.rows x hx).en p hp
  omega
def manBy (l : List Ro) : List Nat := [((l.length : Nat) : Int)].flatMap vbI ++ l.flatMap rowBy
theorem manOk_of {l : List Ro} (h : manOk l = true) (hfs : ∀ x ∈ l, ∀ e ∈ x.en, e.fs ≤ 9223372036854775807) : ManOk l := by
  unfold manOk at h
  simp only [Bool.and_eq_true, decide_eq_true_eq] at h
  exact ⟨h.1, fun x hx => rowOk_of (risesB_all _ _ h.2.1 x hx) (hfs x hx), (fresh_nodup _ _ h.2.2).1⟩
theorem rows_len : ∀ (l : List Ro), (∀ x ∈ l, RowOk x) → (pgsR l).length ≤ 256 → (l.flatMap rowBy).length ≤ 800 * l.length + 50 * (pgsR l).length
  | [], _, _ => by simp
  | x :: l, h, hp => by
    unfold pgsR at hp ⊢
    rw [List.flatMap_cons, List.length_append] at hp ⊢
    have ih := rows_len l (fun y hy => h y (List.mem_cons_of_mem _ hy)) (by unfold pgsR; omega)
    have h1 := rowBy_len (h x List.mem_cons_self) (by omega)
    unfold pgsR at ih
    rw [List.flatMap_cons, List.length_append, List.length_cons]
    omega
theorem ManOk.bytes {l : List Ro} (h : ManOk l) : (manBy l).length ≤ 30000 := by
  have h1 := rows_len l h.rows h.pages
  have h2 := h.pages
  have h3 := h.len
  have h4 : ([((l.length : Nat) : Int)].flatMap vbI).length ≤ 10 := vb1_len (by omega)
  unfold manBy
  rw [List.length_append]
  omega
end Go.Proofs.Ytgdnpmjmkcccoaa
