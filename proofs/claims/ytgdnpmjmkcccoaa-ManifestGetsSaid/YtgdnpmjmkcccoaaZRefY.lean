/- Contracts of yearbookref22: the reader's row. ManifestGets: a manifest in memory of its own types (MH); the document's Right by it (a part of XMHeld). Contracts of yearbookref22: Decode. -/
import Derived.Test.YtgdnpmjmkcccoaaZRefW
import Derived.Test.YtgdnpmjmkcccoaaZTill
namespace Go.Proofs.Ytgdnpmjmkcccoaa
open Go.RowKit Go.Shelf VB
open Go.Lib (hid)
set_option linter.unusedVariables false
set_option linter.unusedSimpArgs false
theorem strN_snoc (l : List Nat) (x : Nat) : strN l ++ strN [x] = strN (l ++ [x]) := by
  apply ByteArray.ext
  apply Array.ext'
  rw [ByteArray.data_append]
  show ((strOfNums (l.map fun x : Nat => (x : Int))).data ++ (strOfNums ([x].map fun x : Nat => (x : Int))).data).toList = (strOfNums ((l ++ [x]).map fun x : Nat => (x : Int))).data.toList
  rw [Array.toList_append, strOfNums_data, strOfNums_data, strOfNums_data]
  simp
/-- what there is while a row is read: the row E, the result R -/
structure RT (w : World) (R E g : Nat) (B : Option Addr) (n c : Nat) (bs : List Nat) (W : World) (nm : ByteArray) (ep fl la sc : Int) (en op : Value) (z : Nat) (e : Int) : Prop where
  fr : But g w W
  kR : Blk W R 42 zRow
  kE : Blk W E 42 (aR nm ep fl la sc en op)
  kt : Blk W g 92 (rdC B n c z e)
  hs : Src W B n c bs
section
variable {w W W' : World} {R E g : Nat} {B : Option Addr} {n c : Nat} {bs : List Nat} {nm : ByteArray} {ep fl la sc : Int} {en op : Value} {z : Nat} {e : Int}
theorem RT.rd (h : RT w R E g B n c bs W nm ep fl la sc en op z e) {z1 : Nat} {e1 : Int} (hb : But g W W') (k : Blk W' g 92 (rdC B n c z1 e1)) (n1 : R ≠ g) (n2 : E ≠ g) : RT w R E g B n c bs W' nm ep fl la sc en op z1 e1 :=
  ⟨h.fr.trans hb, h.kR.but hb n1, h.kE.but hb n2, k, h.hs.butS hb h.kt.typed⟩
theorem RT.st (h : RT w R E g B n c bs W nm ep fl la sc en op z e) (i : Nat) (u : Value) {nm' : ByteArray} {ep' fl' la' sc' : Int} {en' op' : Value} (hu : (aR nm ep fl la sc en op).setIfInBounds i u = aR nm' ep' fl' la' sc' en' op') (hE : w.heap.size ≤ E) (n1 : R ≠ E) (n2 : g ≠ E) : RT w R E g B n c bs (W.setCell ⟨E, i, none⟩ u) nm' ep' fl' la' sc' en' op' z e :=
  ⟨h.fr.setn (by simpa using hE) u, h.kR.far (by simpa using n1) u, by have := h.kE.set_ i u; rwa [hu] at this, h.kt.far (by simpa using n2) u,
    ⟨h.hs.reads.setCell (p := ⟨E, i, none⟩) h.kE.typed (by decide) u, h.hs.hn, h.hs.hc, h.hs.hcm, h.hs.hbs⟩⟩
theorem RT.alloc (h : RT w R E g B n c bs W nm ep fl la sc en op z e) (o : Obj) : RT w R E g B n c bs (W.alloc o) nm ep fl la sc en op z e :=
  ⟨h.fr.alloc o, h.kR.alloc o, h.kE.alloc o, h.kt.alloc o, h.hs.alloc o⟩
theorem RT.drew (h : RT w R E g B n c bs W nm ep fl la sc en op z e) : RT w R E g B n c bs W.drew nm ep fl la sc en op z e :=
  ⟨h.fr.drew, h.kR, h.kE, h.kt, h.hs.drew⟩
end
theorem let_res {bs : List Nat} {z z1 : Nat} {e e1 e2 : Int} {v : Nat} (h : Res e (oneS bs z) (fun d => ((v : Nat) : Int) = (d : Nat)) z1 e1) (h2 : e2 = (if e1 = 0 ∧ letB (v : Nat) = false then 7 else e1)) : Res e (fLet bs () z) (fun q => q = (v, ())) z1 e2 := by
  rcases h with ⟨h0, h1, d, h3, h4⟩ | ⟨h1, h3, h4⟩
  · have h5 : v = d := by omega
    subst h5
    cases hl : letB (v : Nat) with
    | true =>
      rw [hl, if_neg (by simp)] at h2
      exact .inl ⟨h0, by rw [h2, h1], _, by unfold fLet; rw [h3]; simp only; rw [if_pos hl], rfl⟩
    | false =>
      rw [hl, if_pos ⟨h1, rfl⟩] at h2
      refine .inr ⟨by rw [h2]; decide, fun _ => ?_, fun h => absurd h0 h⟩
      unfold fLet; rw [h3]; simp only; rw [if_neg (by rw [hl]; decide), h2]
  · rw [if_neg (fun h => h1 h.1)] at h2
    subst h2
    exact .inr ⟨h1, fun h0 => by unfold fLet; rw [h3 h0], h4⟩
theorem Res.swap {α : Type} {S S' : Except Int (α × Nat)} {R : α → Prop} {z1 : Nat} {e0 e1 : Int} (h : Res e0 S R z1 e1) (hS : e0 = 0 → S = S') : Res e0 S' R z1 e1 := by
  rcases h with ⟨h0, h1, d, h2, h3⟩ | ⟨h1, h2, h3⟩
  · exact .inl ⟨h0, h1, d, by rw [← hS h0]; exact h2, h3⟩
  · exact .inr ⟨h1, fun h0 => by rw [← hS h0]; exact h2 h0, h3⟩
theorem Res.zero {α : Type} {S : Except Int (α × Nat)} {R : α → Prop} {z1 : Nat} {e0 e1 : Int} (h : Res e0 S R z1 e1) (h0 : e1 = 0) : e0 = 0 := by
  rcases h with ⟨h, _⟩ | ⟨h1, _⟩
  · exact h
  · exact absurd h0 h1
theorem val_bet {V d lo hi : Int} (hV : -2305843009213693952 ≤ V ∧ V ≤ 2305843009213693952) (hd : -9223372036854775808 ≤ d ∧ d ≤ 9223372036854775807) (h1 : -2305843009213693952 ≤ lo) (h2 : hi ≤ 2305843009213693952) : decide (lo - V ≤ d ∧ d ≤ hi - V) = betB (IntKind.i64.wrap (V + d)) lo hi := by
  have hw := IntKind.wrap_i64 (V + d)
  unfold betB
  by_cases ha : lo ≤ IntKind.i64.wrap (V + d) <;> by_cases hb : IntKind.i64.wrap (V + d) ≤ hi
  · rw [decide_eq_true ha, decide_eq_true hb]; exact decide_eq_true (by omega)
  · rw [decide_eq_true ha, decide_eq_false hb]; exact decide_eq_false (by omega)
  · rw [decide_eq_false ha]; exact decide_eq_false (by omega)
  · rw [decide_eq_false ha]; exact decide_eq_false (by omega)
theorem EsL.keep {lo : Nat} {W W' : World} {xs : List EnA} {D : Option Addr} {f : Nat} (h : EsL lo W xs D f) (hk : ∀ b t, Typed W b t → (t = 45 ∨ t = 3) → W'.heap[b]? = W.heap[b]?) : EsL lo W' xs D f :=
  ⟨h.rd.keepA fun ad _ ht => hk _ _ ht (.inl rfl), h.abv, fun x hx => (h.ps x hx).keep fun b _ hb => hk b _ hb (.inr rfl), h.len, h.cap⟩
theorem EsL.low {lo l2 : Nat} {W : World} {xs : List EnA} {D : Option Addr} {f : Nat} (h : EsL lo W xs D f) (hl : l2 ≤ lo) : EsL l2 W xs D f :=
  ⟨h.rd, fun ad he => Nat.le_trans hl (h.abv ad he), fun x hx => (h.ps x hx).low hl, h.len, h.cap⟩
theorem EsL.below {lo : Nat} {W W' : World} {xs : List EnA} {D : Option Addr} {f : Nat} (h : EsL lo W xs D f) (hb : Below W.heap.size W W') : EsL lo W' xs D f := h.keep fun b t k _ => hb.block b k.lt
theorem typed_ne {W : World} {b g : Nat} {t t' : TypeId} (h1 : Typed W b t) (h2 : Typed W g t') (hne : t ≠ t') : b ≠ g := by
  intro e
  subst e
  obtain ⟨c1, r1, h1⟩ := h1
  obtain ⟨c2, r2, h2⟩ := h2
  rw [h1] at h2
  injection h2 with h2
  injection h2 with _ h3
  exact hne h3
theorem EsL.but {lo g : Nat} {t : TypeId} {W W' : World} {xs : List EnA} {D : Option Addr} {f : Nat} (h : EsL lo W xs D f) (k : But g W W') (ht : Typed W g t) (hne : t ≠ 45 ∧ t ≠ 3) : EsL lo W' xs D f :=
  h.keep fun b t' hb htt => k.block b hb.lt (typed_ne hb ht (by rcases htt with rfl | rfl; exact hne.1.symm; exact hne.2.symm))
theorem EsL.set {lo g i : Nat} {t : TypeId} {cs : Array Value} {W : World} {xs : List EnA} {D : Option Addr} {f : Nat} (h : EsL lo W xs D f) (k : Blk W g t cs) (hne : t ≠ 45 ∧ t ≠ 3) (u : Value) : EsL lo (W.setCell ⟨g, i, none⟩ u) xs D f :=
  h.but ((But.refl g W).setg i u) k.typed hne
theorem EsL.grown {lo base n z : Nat} {e : TypeId} {v : Value} {l : List Value} {W W' : World} {xs : List EnA} {D : Option Addr} {f : Nat} (h : EsL lo W xs D f) (ho : W.ownsRow base e z v n l) (hg : W.grownBy W' v.ownBlock) (hne : 45 ≠ e ∧ 3 ≠ e) : EsL lo W' xs D f :=
  h.keep fun b t hb htt => hg.block b hb.lt (own_notE ho hb (by rcases htt with rfl | rfl; exact hne.1; exact hne.2))
theorem RT.setp {w W : World} {R E g gp : Nat} {B : Option Addr} {n c : Nat} {bs : List Nat} {nm : ByteArray} {ep fl la sc : Int} {en op : Value} {z : Nat} {e : Int} {cs : Array Value} (h : RT w R E g B n c bs W nm ep fl la sc en op z e) (k : Blk W gp 47 cs) (hp : w.heap.size ≤ gp) (i : Nat) (u : Value) : RT w R E g B n c bs (W.setCell ⟨gp, i, none⟩ u) nm ep fl la sc en op z e :=
  ⟨h.fr.setn (by simpa using hp) u, h.kR.far (by simpa using typed_ne h.kR.typed k.typed (by decide)) u, h.kE.far (by simpa using typed_ne h.kE.typed k.typed (by decide)) u, h.kt.far (by simpa using typed_ne h.kt.typed k.typed (by decide)) u,
    ⟨h.hs.reads.setCell (p := ⟨gp, i, none⟩) k.typed (by decide) u, h.hs.hn, h.hs.hc, h.hs.hcm, h.hs.hbs⟩⟩
theorem RT.grown {w W W' : World} {R E g : Nat} {B : Option Addr} {n c : Nat} {bs : List Nat} {nm : ByteArray} {ep fl la sc : Int} {en op : Value} {z : Nat} {e : Int} {base m : Nat} {v : Value} {l : List Value} (h : RT w R E g B n c bs W nm ep fl la sc en op z e) (ho : W.ownsRow base 47 2 v m l) (hg : W.grownBy W' v.ownBlock) (hb : w.heap.size ≤ base) : RT w R E g B n c bs W' nm ep fl la sc en op z e :=
  ⟨h.fr.grow hg (fun q hq => Nat.le_trans hb (ho.lt q hq).1), h.kR.grownE ho hg (by decide), h.kE.grownE ho hg (by decide), h.kt.grownE ho hg (by decide), h.hs.grown ho hg (by decide)⟩
/-- a row in memory above lo -/
structure RoL (lo : Nat) (W : World) (x : RoA) : Prop where
  fr : RoFr W x
  en : ∀ ad, x.ea = some ad → lo ≤ ad.block
  ps : ∀ e ∈ x.en, ∀ ad, e.2.1 = some ad → lo ≤ ad.block
  op : ∀ ad, x.oa = some ad → lo ≤ ad.block
def RetRw (bs : List Nat) (z : Nat) (e : Int) (g : Nat) (C : Option Addr) (n c : Nat) (w : World) (d : Ending) (w' : World) : Prop :=
  ∃ (x : RoA) (z1 : Nat) (e1 : Int), d = .returned (vR x) ∧ But g w w' ∧ Blk w' g 92 (rdC C n c z1 e1) ∧ Res e (fRow bs () z) (fun q => q = (x.d, ())) z1 e1 ∧ (e1 = 0 → z1 ≤ bs.length) ∧ RoL w.heap.size w' x
set_option maxRecDepth 100000 in
set_option maxHeartbeats 16000000 in
theorem rowRd {w : World} {g : Nat} {C : Option Addr} {n c z : Nat} {bs : List Nat} {e : Int} (kt : Blk w g 92 (rdC C n c z e)) (hs : Src w C n c bs) (hz : e = 0 → z ≤ bs.length) :
    Calls Try.prog 56 #[.pointer (some ⟨g, 0, none⟩)] w (RetRw bs z e g C n c w) := by
  obtain ⟨iP, hi0, hz0, hz1, hz2⟩ := info_parts3 point_info
  have HIP := hid (And.intro hi0 (And.intro hz0 (And.intro hz1 hz2)))
  clear hi0 hz0 hz1 hz2
  have lg := kt.lt
  obtain ⟨R, hR⟩ : ∃ R, R = w.heap.size := ⟨_, rfl⟩
  obtain ⟨E, hE⟩ : ∃ E, E = w.heap.size + 1 := ⟨_, rfl⟩
  obtain ⟨w1, hw1⟩ : ∃ w1, w1 = (w.alloc (.cells zRow 42)).alloc (.cells zRow 42) := ⟨_, rfl⟩
  have hB : Below w.heap.size w w1 := by rw [hw1]; exact ((Below.refl _ _).alloc (Nat.le_refl _) _).alloc (by simp) _
  have HE1 := hid (show RT w R E g C n c bs w1 ⟨#[]⟩ 0 0 0 0 (.slice none 0 0) (.slice none 0 0) z e by
    rw [hw1]
    exact ⟨by rw [← hw1]; exact But.of_below hB, by rw [hR]; exact (Blk.new _ _ _).alloc _, by rw [hE]; exact Blk.new_at _ _ _ (by simp), (kt.alloc _).alloc _, (hs.alloc _).alloc _⟩)
  have HN := hid (show R ≠ g ∧ E ≠ g ∧ R ≠ E ∧ g ≠ E ∧ w.heap.size ≤ E ∧ w.heap.size ≤ R by omega)
  have HO := hid (oneR HE1.out.kt HE1.out.hs hz)
  clear kt hs hz hB
  go_enter Try.func56, Try.ntmps56
  go_upto_region 2 with fail
  rw [← hw1, ← hE]
  try rw [← hR]
  clear hw1 hE hR
  go_wp2_with fail
  refine HO.out.mono ?_
  rintro d w2 ⟨v, z1, e1, rfl, hb1, k1, r1, m1, q1⟩
  have HE2 := hid (HE1.out.rd hb1 k1 HN.out.1 HN.out.2.1)
  have HR1 := hid r1
  have HQ1 := hid q1
  have hvw : IntKind.i64.wrap (v : Int) = (v : Int) := by rw [IntKind.wrap_i64]; omega
  clear hb1 k1 r1 q1 HO HE1
  go_upto_region 3 with fail
  obtain ⟨b1, hb1⟩ : ∃ b, b = (decide ((1 : Int) ≤ (v : Int)) && decide ((v : Int) ≤ 12)) := ⟨_, rfl⟩
  obtain ⟨e2, he2⟩ : ∃ e2, e2 = (if e1 = 0 ∧ b1 = false then 7 else e1) := ⟨_, rfl⟩
  have HBE := hid (And.intro hb1 he2)
  have HND := hid (needd b1 HE2.out.kt)
  rw [← he2] at HND
  clear he2
  go_cut [] (fun wx => Hid (RT w R E g C n c bs wx ⟨#[]⟩ 0 0 0 0 (.slice none 0 0) (.slice none 0 0) z1 e2))
  case first =>
    by_cases h1 : (1 : Int) ≤ (v : Int)
    · by_cases h2 : (v : Int) ≤ 12
      · rw [decide_eq_true h1, decide_eq_true h2] at hb1
        subst hb1
        go_wp2_with fail
        refine HND.out.mono ?_
        rintro d wx ⟨rfl, hb, k⟩
        have HX := hid (HE2.out.rd hb k HN.out.1 HN.out.2.1)
        clear hb k
        go_wp2_with fail
        go_meet
        exact HX
      · rw [decide_eq_true h1, decide_eq_false h2] at hb1
        subst hb1
        go_wp2_with fail
        refine HND.out.mono ?_
        rintro d wx ⟨rfl, hb, k⟩
        have HX := hid (HE2.out.rd hb k HN.out.1 HN.out.2.1)
        clear hb k
        go_wp2_with fail
        go_meet
        exact HX
    · rw [decide_eq_false h1, Bool.false_and] at hb1
      subst hb1
      go_wp2_with fail
      refine HND.out.mono ?_
      rintro d wx ⟨rfl, hb, k⟩
      have HX := hid (HE2.out.rd hb k HN.out.1 HN.out.2.1)
      clear hb k
      go_wp2_with fail
      go_meet
      exact HX
  case rest =>
    clear hb1 HND HE2
    have HS0 := hid (SevI.start (f := fLet bs) (L := bs.length) (m := v) (s0 := ()) (z0 := z1) (e0 := e2) (fun h => HQ1.out (by
      have := HBE.out.2
      rw [h] at this
      split at this
      · cases this
      · exact this.symm)))
    have HN0 := hid (show e2 = 0 → (⟨#[]⟩ : ByteArray) = strN [] from fun _ => rfl)
    go_wp2_with fail
    go_loopw [5] (fun u5 wr => ∃ (i : Nat) (s : ByteArray) (acc : List Nat) (z2 : Nat) (e3 : Int), i ≤ v ∧ u5 = .int .i64 (i : Nat) ∧ s.size = i ∧ Hid (RT w R E g C n c bs wr s 0 0 0 0 (.slice none 0 0) (.slice none 0 0) z2 e3) ∧ Hid (SevI (fLet bs) bs.length v () z1 e2 i () acc z2 e3) ∧ Hid (e3 = 0 → s = strN acc)) (fun u5 _ => v - (intOf u5).toNat)
    case atStart => exact ⟨0, ⟨#[]⟩, [], z1, e2, Nat.zero_le _, rfl, rfl, hcut, HS0, HN0⟩
    case round =>
      obtain ⟨i, s, acc, z2, e3, hi, rfl, hsi, hst, hsv, hsn⟩ := hrel
      have HSI := hid hsi
      clear HS0 HN0 hcut hsi
      have c2 : wr.cell? ⟨g, 2, none⟩ = some (.int .i64 e3) := hst.out.kt.cell 2
      by_cases hlt : i < v
      · by_cases he : e3 = 0
        · subst he
          have HO := hid (oneR hst.out.kt hst.out.hs (fun _ => (hsv.out.ok rfl).2.2.2))
          have hltI : (i : Int) < (v : Int) := by omega
          go_wp2_with fail
          refine HO.out.mono ?_
          rintro d w5 ⟨x, z3, e4, rfl, hb5, k5, r5, m5, q5⟩
          have HE5 := hid (hst.out.rd hb5 k5 HN.out.1 HN.out.2.1)
          have HND := hid (needd (letB (x : Nat)) HE5.out.kt)
          have HLT := hid (fun w' => Letter_d x w')
          have HR5 := hid r5
          have HQ5 := hid q5
          clear hb5 k5 r5 q5 HO c2
          go_wp2_with fail
          refine (HLT.out _).mono ?_
          rintro d w6 ⟨rfl, rfl⟩
          go_wp2_with fail
          refine HND.out.mono ?_
          rintro d w7 ⟨rfl, hb7, k7⟩
          have HE7 := hid (HE5.out.rd hb7 k7 HN.out.1 HN.out.2.1)
          clear HND HLT HE5 hb7 k7
          obtain ⟨e5, he5⟩ : ∃ e5, e5 = (if e4 = 0 ∧ letB (x : Nat) = false then 7 else e4) := ⟨_, rfl⟩
          rw [← he5] at HE7
          have hconv : (convert 31 9 (.slice (some ⟨w7.heap.size, 0, none⟩) 1 1)).run Try.prog (w7.alloc (.cells #[.int .u8 (x : Nat)] 5)) = .ok (.string (strN [x])) (w7.alloc (.cells #[.int .u8 (x : Nat)] 5)) := conv_bytes (c := 1) (reads_new_at (g := w7.heap.size) w7 5 (bsV [x]) 1 rfl rfl)
          have HE8 := hid (HE7.out.alloc (.cells #[.int .u8 (x : Nat)] 5))
          obtain ⟨b0, b1', b2, b3, b4, b5, b6⟩ := HE7.out.kE.seven
          have f0 := HE8.out.kE.frozen 0
          have a0 := HE8.out.kE.seven.1
          have l0 := HE8.out.kE.lt
          have hz1 : (strN [x]).size = 1 := by rw [strN_size]; rfl
          have hss : s.size ≤ 255 := by have := HSI.out; omega
          have HX := hid (HE8.out.st 0 (.string (s ++ strN [x])) (nm' := s ++ strN [x]) (ep' := 0) (fl' := 0) (la' := 0) (sc' := 0) (en' := .slice none 0 0) (op' := .slice none 0 0) rfl HN.out.2.2.2.2.1 HN.out.2.2.1 HN.out.2.2.2.1)
          have HSV2 := hid (hsv.out.step hlt (let_res HR5.out he5) (fun h => HQ5.out (by
            rw [he5] at h
            split at h
            · cases h
            · exact h)))
          have HSN2 := hid (show e5 = 0 → s ++ strN [x] = strN (acc ++ [x]) from fun _ => by have h9 := hsn.out (by trivial); rw [h9, strN_snoc])
          have HSZ2 := hid (show (s ++ strN [x]).size = i + 1 by rw [ByteArray.size_append, HSI.out, hz1])
          clear b1' b2 b3 b4 b5 b6 HE7 HE8 hst hsv hsn he5 HR5 HQ5
          go_wp2_with fail
          go_roundw
          case rel => exact ⟨i + 1, s ++ strN [x], acc ++ [x], z3, e5, by omega, by go_num, HSZ2.out, HX, HSV2, HSN2⟩
          case measure => simp [intOf]; omega
        · have t : (e3 == 0) = false := by simp [he]
          have hltI : (i : Int) < (v : Int) := by omega
          have hEX : e3 = 0 → v ≤ i := fun h => absurd h he
          clear he
          have HNMR := hid ((name_res (l := acc) (u := ()) HR1.out HBE.out.1 HBE.out.2 (by rw [Int.toNat_natCast]; exact SevI.fin hsv.out hEX)).any (R' := fun l => s = strN l) (z' := z2) (fun h0 => ⟨rfl, fun d hd => by rw [hsn.out h0, hd]⟩))
          have HSZ := hid (show s.size ≤ 255 by rw [HSI.out]; omega)
          have HA := hid (plainR (most := 1099511627776) hst.out.kt hst.out.hs (by decide))
          clear hsv hsn
          go_wp2_with fail
          refine HA.out.mono ?_
          rintro d w3 ⟨v2, z3, e4, rfl, hb, k, r2, m2, q2⟩
          have HE3 := hid (hst.out.rd hb k HN.out.1 HN.out.2.1)
          have HR2 := hid r2
          clear hb k r2 q2 HA hst c2
          obtain ⟨a0, a1, a2, a3, a4, a5, a6⟩ := HE3.out.kE.seven
          have ff1 := HE3.out.kE.frozen 1
          have lE := HE3.out.kE.lt
          go_upto_region 11 with fail
          have HE4 := hid (HE3.out.st 1 (.int .i64 (v2 : Nat)) (nm' := s) (ep' := (v2 : Nat)) (fl' := 0) (la' := 0) (sc' := 0) (en' := (.slice none 0 0)) (op' := (.slice none 0 0)) rfl HN.out.2.2.2.2.1 HN.out.2.2.1 HN.out.2.2.2.1)
          generalize w3.setCell ⟨E, 1, none⟩ (.int .i64 (v2 : Nat)) = w3n at *
          clear a0 a1 a2 a3 a4 a5 a6 ff1 lE HE3
          have HA := hid (moreR (V := 0) (lo := -40) (hi := 40) HE4.out.kt HE4.out.hs (by decide) (by decide) (by decide))
          go_wp2_with fail
          refine HA.out.mono ?_
          rintro d w4 ⟨v3, z4, e5, rfl, hb, k, b3, q3, u3, y3, f3, r3, i3, h3, g3⟩
          have HE5 := hid (HE4.out.rd hb k HN.out.1 HN.out.2.1)
          have HR3 := hid (And.intro r3 (And.intro i3 (And.intro h3 g3)))
          clear hb k r3 i3 h3 g3 b3 q3 HA HE4
          obtain ⟨a0, a1, a2, a3, a4, a5, a6⟩ := HE5.out.kE.seven
          have ff1 := HE5.out.kE.frozen 4
          have lE := HE5.out.kE.lt
          go_upto_region 12 with fail
          have HE6 := hid (HE5.out.st 4 (.int .i64 v3) (nm' := s) (ep' := (v2 : Nat)) (fl' := 0) (la' := 0) (sc' := v3) (en' := (.slice none 0 0)) (op' := (.slice none 0 0)) rfl HN.out.2.2.2.2.1 HN.out.2.2.1 HN.out.2.2.2.1)
          generalize w4.setCell ⟨E, 4, none⟩ (.int .i64 v3) = w4n at *
          clear a0 a1 a2 a3 a4 a5 a6 ff1 lE HE5
          have HA := hid (plainR (most := 281474976710656) HE6.out.kt HE6.out.hs (by decide))
          go_wp2_with fail
          refine HA.out.mono ?_
          rintro d w5 ⟨v4, z5, e6, rfl, hb, k, r4, m4, q4⟩
          have HE7 := hid (HE6.out.rd hb k HN.out.1 HN.out.2.1)
          have HR4 := hid r4
          clear hb k r4 q4 HA HE6
          obtain ⟨a0, a1, a2, a3, a4, a5, a6⟩ := HE7.out.kE.seven
          have ff1 := HE7.out.kE.frozen 2
          have lE := HE7.out.kE.lt
          go_upto_region 13 with fail
          have HE8 := hid (HE7.out.st 2 (.int .i64 (v4 : Nat)) (nm' := s) (ep' := (v2 : Nat)) (fl' := (v4 : Nat)) (la' := 0) (sc' := v3) (en' := (.slice none 0 0)) (op' := (.slice none 0 0)) rfl HN.out.2.2.2.2.1 HN.out.2.2.1 HN.out.2.2.2.1)
          generalize w5.setCell ⟨E, 2, none⟩ (.int .i64 (v4 : Nat)) = w5n at *
          clear a0 a1 a2 a3 a4 a5 a6 ff1 lE HE7
          have HA := hid (plainR (most := 281474976710657) HE8.out.kt HE8.out.hs (by decide))
          go_wp2_with fail
          refine HA.out.mono ?_
          rintro d w6 ⟨v5, z6, e7, rfl, hb, k, r5, m5, q5⟩
          have HE9 := hid (HE8.out.rd hb k HN.out.1 HN.out.2.1)
          have HR5 := hid r5
          clear hb k r5 q5 HA HE8
          have hla2 : wrap64 ((v5 : Int) - 1) = (v5 : Int) - 1 := by unfold wrap64; omega
          obtain ⟨a0, a1, a2, a3, a4, a5, a6⟩ := HE9.out.kE.seven
          have ff1 := HE9.out.kE.frozen 3
          have lE := HE9.out.kE.lt
          go_upto_region 14 with fail
          have HE10 := hid (HE9.out.st 3 (.int .i64 ((v5 : Int) - 1)) (nm' := s) (ep' := (v2 : Nat)) (fl' := (v4 : Nat)) (la' := (v5 : Int) - 1) (sc' := v3) (en' := (.slice none 0 0)) (op' := (.slice none 0 0)) rfl HN.out.2.2.2.2.1 HN.out.2.2.1 HN.out.2.2.2.1)
          generalize w6.setCell ⟨E, 3, none⟩ (.int .i64 ((v5 : Int) - 1)) = w6n at *
          obtain ⟨la, hla⟩ : ∃ la, la = (v5 : Int) - 1 := ⟨_, rfl⟩
          rw [← hla] at HE10
          have HLA := hid (show la = wrap64 ((v5 : Int) - 1) by rw [hla2, hla])
          clear hla
          clear a0 a1 a2 a3 a4 a5 a6 ff1 lE hla2 HE9
          have HA := hid (entriesR HE10.out.kt HE10.out.hs)
          go_wp2_with fail
          refine HA.out.mono ?_
          rintro d w7 ⟨xs, D, f, z7, e8, rfl, hb, k, r6, q6, hel⟩
          have HE11 := hid (HE10.out.rd hb k HN.out.1 HN.out.2.1)
          have HR6 := hid r6
          have HEL := hid (hel.low HE10.out.fr.size)
          clear hb k r6 q6 HA HE10 hel
          obtain ⟨a0, a1, a2, a3, a4, a5, a6⟩ := HE11.out.kE.seven
          have ff1 := HE11.out.kE.frozen 5
          have lE := HE11.out.kE.lt
          go_upto_region 15 with fail
          have HEL2 := hid (HEL.out.set (i := 5) HE11.out.kE (by decide) (.slice D xs.length f))
          have HE12 := hid (HE11.out.st 5 (.slice D xs.length f) (nm' := s) (ep' := (v2 : Nat)) (fl' := (v4 : Nat)) (la' := la) (sc' := v3) (en' := (.slice D xs.length f)) (op' := (.slice none 0 0)) rfl HN.out.2.2.2.2.1 HN.out.2.2.1 HN.out.2.2.2.1)
          generalize w7.setCell ⟨E, 5, none⟩ (.slice D xs.length f) = w7n at *
          clear a0 a1 a2 a3 a4 a5 a6 ff1 lE HE11 HEL
          have HA := hid (plainR (most := 31) HE12.out.kt HE12.out.hs (by decide))
          go_wp2_with fail
          refine HA.out.mono ?_
          rintro d w8 ⟨v7, z8, e9, rfl, hb, k, r7, m7, q7⟩
          have HE13 := hid (HE12.out.rd hb k HN.out.1 HN.out.2.1)
          have HR7 := hid r7
          have HEL3 := hid (HEL2.out.but hb HE12.out.kt.typed (by decide))
          have HSQ0 := hid (SevI.start (f := fPt bs) (L := bs.length) (m := v7) (s0 := ((0 : Int), (0 : Int))) (z0 := z8) (e0 := e9) q7)
          clear hb k r7 q7 HA HE12 HEL2
          obtain ⟨gp, hgp⟩ : ∃ gp, gp = w8.heap.size := ⟨_, rfl⟩
          obtain ⟨w9, hw9⟩ : ∃ w9, w9 = w8.alloc (.cells #[.int .i64 0, .int .i64 0] 47) := ⟨_, rfl⟩
          have hsz8 := HE13.out.fr.size
          obtain ⟨bp, hbp⟩ : ∃ bp, bp = w9.heap.size := ⟨_, rfl⟩
          have HPB := hid (show w.heap.size ≤ gp ∧ gp < bp ∧ w.heap.size ≤ bp by rw [hbp, hw9, hgp]; simp; omega)
          have HE14 := hid (show RT w R E g C n c bs w9 s (v2 : Nat) (v4 : Nat) la v3 (.slice D xs.length f) (.slice none 0 0) z8 e9 by rw [hw9]; exact HE13.out.alloc _)
          have HPP := hid (show Blk w9 gp 47 #[.int .i64 0, .int .i64 0] ∧ w9.ownsRow bp 47 2 (.slice none 0 0) 0 (([] : List (Int × Int)).flatMap cellsP) ∧ EsL w.heap.size w9 xs D f ∧ bp ≤ w9.heap.size by
            refine ⟨by rw [hw9, hgp]; exact Blk.new _ _ _, ⟨by simp, .inl ⟨rfl, rfl⟩⟩, ?_, by rw [hbp]; exact Nat.le_refl _⟩
            rw [hw9]; exact HEL3.out.below ((Below.refl _ _).alloc (Nat.le_refl _) _))
          clear HEL3 HE13 hbp hsz8
          go_wp2_with fail
          rw [← hw9]
          try rw [← hgp]
          clear hw9 hgp
          go_loopw [9] (fun u9 wr => ∃ (i : Nat) (P : Option Addr) (pf : Nat) (ps : List (Int × Int)) (T V : Int) (z9 : Nat) (ea : Int), i ≤ v7 ∧ u9 = .int .i64 (i : Nat) ∧ i = ps.length ∧ (0 ≤ T ∧ T ≤ (i : Int) * 281474976710656) ∧ (-2305843009213693952 ≤ V ∧ V ≤ 2305843009213693952) ∧ Hid (RT w R E g C n c bs wr s (v2 : Nat) (v4 : Nat) la v3 (.slice D xs.length f) (.slice P i pf) z9 ea) ∧ Hid (Blk wr gp 47 #[.int .i64 T, .int .i64 V] ∧ wr.ownsRow bp 47 2 (.slice P i pf) i (ps.flatMap cellsP) ∧ EsL w.heap.size wr xs D f ∧ bp ≤ wr.heap.size) ∧ Hid (SevI (fPt bs) bs.length v7 ((0 : Int), (0 : Int)) z8 e9 i (T, V) ps z9 ea)) (fun u9 _ => v7 - (intOf u9).toNat)
          case atStart => exact ⟨0, none, 0, [], 0, 0, z8, e9, Nat.zero_le _, rfl, rfl, ⟨by decide, by decide⟩, ⟨by decide, by decide⟩, HE14, HPP, HSQ0⟩
          case round =>
            obtain ⟨i, P, pf, ps, T, V, z9, ea, hi, rfl, hpl, hT, hV, hst, hpp, hsq⟩ := hrel
            have HPL := hid hpl
            clear hpl HE14 HPP HSQ0
            have c2 : wr.cell? ⟨g, 2, none⟩ = some (.int .i64 ea) := hst.out.kt.cell 2
            by_cases hlt : i < v7
            · by_cases he : ea = 0
              · subst he
                have HTV := hid (And.intro hT hV)
                have hltI : (i : Int) < (v7 : Int) := by omega
                go_upto_region 20 with fail
                have HA := hid (plainR (most := 281474976710656) hst.out.drew.kt hst.out.drew.hs (by decide))
                have hgne : gp ≠ g := typed_ne hpp.out.1.typed hst.out.kt.typed (by decide)
                refine wp_region_noPanic ?_
                refine AnyTill.begin (S := fun W => W.cell? ⟨gp, 0, none⟩ = some (.int .i64 T)) (t := 6) (by kernel_rfl) (hpp.out.1.drew.cell 0) (fun hHeld => ?_)
                clear c2
                refine AnyTill.take (i := 0) (v := ?_) rfl (by kernel_rfl) (by kernel_rfl) (by kernel_rfl) (by kernel_rfl) (by kernel_rfl) (fun _ _ _ h => h) (Or.inl ⟨by rfl, ?_⟩) (by assumption) ?_
                rotate_left
                · intro W hW
                  go_simp
                  try rfl
                simp only [List.getElem_toArray, List.getElem_cons_zero, Act.put, List.setIfInBounds_toArray, List.set_cons_zero, List.set_cons_succ]
                refine AnyTill.take (i := 1) (v := ?_) rfl (by kernel_rfl) (by kernel_rfl) (by kernel_rfl) (by kernel_rfl) (by kernel_rfl) (fun _ _ _ h => h) (Or.inl ⟨by rfl, ?_⟩) (by assumption) ?_
                rotate_left
                · intro W hW
                  go_simp
                  try rfl
                simp only [List.getElem_toArray, List.getElem_cons_succ, List.getElem_cons_zero, Act.put, List.setIfInBounds_toArray, List.set_cons_zero, List.set_cons_succ]
                refine AnyTill.take (i := 2) (v := ?_) rfl (by kernel_rfl) (by kernel_rfl) (by kernel_rfl) (by kernel_rfl) (by kernel_rfl) (fun _ _ _ h => h) (Or.inl ⟨by rfl, ?_⟩) (by assumption) ?_
                rotate_left
                · intro W hW
                  go_simp
                  try rfl
                simp only [List.getElem_toArray, List.getElem_cons_succ, List.getElem_cons_zero, Act.put, List.setIfInBounds_toArray, List.set_cons_zero, List.set_cons_succ]
                refine AnyTill.one (j := 3) (by kernel_rfl) rfl (fun K hK => ?_)
                go_simp
                refine HA.out.mono ?_
                rintro d w10 ⟨v8, za, eb, rfl, hb, k, r8, m8, q8⟩
                refine hK.out _ _ (fun _ => (hpp.out.1.drew.but hb hgne).cell 0) ?_
                clear hK K
                try simp only [List.getElem_toArray, List.getElem_cons_succ, List.getElem_cons_zero, Act.put, List.setIfInBounds_toArray, List.set_cons_zero, List.set_cons_succ]
                have HT1 := hid (hst.out.drew.rd hb k HN.out.1 HN.out.2.1)
                have HK1 := hid (hpp.out.1.drew.but hb hgne)
                have HO1 := hid (own_but hpp.out.2.1.drew hb hst.out.drew.kt.typed (by decide))
                have HL1 := hid (EsL.but (hpp.out.2.2.1.below ((Below.refl _ _).drew)) hb hst.out.drew.kt.typed (by decide))
                have hbs : bp ≤ w10.heap.size := Nat.le_trans hpp.out.2.2.2 hb.size
                have HR8 := hid r8
                have HQ8 := hid q8
                obtain ⟨T2, hT2⟩ : ∃ T2, T2 = IntKind.i64.wrap (T + (v8 : Int)) := ⟨_, rfl⟩
                have HT2 := hid (And.intro hT2 (show T2 = T + (v8 : Int) by rw [hT2, IntKind.wrap_i64]; omega))
                have hw : IntKind.i64.wrap (T + (v8 : Int)) = T2 := hT2.symm
                have hT3 : 0 ≤ T2 ∧ T2 ≤ ((i + 1 : Nat) : Int) * 281474976710656 := by rw [HT2.out.2]; omega
                clear hb k r8 q8 HA hT2 hHeld hT
                have x6 : w10.cell? ⟨gp, 0, none⟩ = some (.int .i64 T) := HK1.out.cell 0
                refine AnyTill.take (i := 4) (v := ?_) rfl (by kernel_rfl) (by kernel_rfl) (by kernel_rfl) (by kernel_rfl) (by kernel_rfl) (fun _ _ _ h => h) (Or.inl ⟨by rfl, ?_⟩) (by assumption) ?_
                rotate_left
                · intro W hW
                  go_simp
                  try rfl
                simp only [List.getElem_toArray, List.getElem_cons_succ, List.getElem_cons_zero, Act.put, List.setIfInBounds_toArray, List.set_cons_zero, List.set_cons_succ]
                refine AnyTill.take (i := 5) (v := ?_) rfl (by kernel_rfl) (by kernel_rfl) (by kernel_rfl) (by kernel_rfl) (by kernel_rfl) (fun _ _ _ h => h) (Or.inl ⟨by rfl, ?_⟩) (by assumption) ?_
                rotate_left
                · intro W hW
                  go_simp
                  try rfl
                simp only [List.getElem_toArray, List.getElem_cons_succ, List.getElem_cons_zero, Act.put, List.setIfInBounds_toArray, List.set_cons_zero, List.set_cons_succ]
                have y6 : w10.frozen? ⟨gp, 0, none⟩ = false := HK1.out.frozen 0
                have z6' := HK1.out.lt
                refine AnyTill.one (j := 6) (by kernel_rfl) rfl (fun K hK => ?_)
                go_simp
                refine hK.out _ _ (fun h => by simp at h) ?_
                clear hK K
                try simp only [List.getElem_toArray, List.getElem_cons_succ, List.getElem_cons_zero, Act.put, List.setIfInBounds_toArray, List.set_cons_zero, List.set_cons_succ]
                refine AnyTill.done (by kernel_rfl) ?_ _
                refine NoPanic.normal ?_
                obtain ⟨w11, hw11⟩ : ∃ w11, w11 = w10.setCell ⟨gp, 0, none⟩ (.int .i64 T2) := ⟨_, rfl⟩
                rw [← hw11]
                have HT4 := hid (show RT w R E g C n c bs w11 s (v2 : Nat) (v4 : Nat) la v3 (.slice D xs.length f) (.slice P i pf) za eb by rw [hw11]; exact HT1.out.setp HK1.out HPB.out.1 0 _)
                have HK4 := hid (show Blk w11 gp 47 #[.int .i64 T2, .int .i64 V] by rw [hw11]; exact HK1.out.set_ 0 _)
                have HO4 := hid (show w11.ownsRow bp 47 2 (.slice P i pf) i (ps.flatMap cellsP) by rw [hw11]; exact own_farM HO1.out (a := ⟨gp, 0, none⟩) (by simpa using HPB.out.2.1) _)
                have HL4 := hid (show EsL w.heap.size w11 xs D f by rw [hw11]; exact HL1.out.set HK1.out (by decide) _)
                have hbs4 : bp ≤ w11.heap.size := by rw [hw11]; simpa using hbs
                clear hw11 HT1 HK1 HO1 HL1 x6 y6 z6' hbs hw hst hpp hV
                have HA := hid (moreR (V := V) (lo := -2305843009213693952) (hi := 2305843009213693952) HT4.out.kt HT4.out.hs HTV.out.2 (by decide) (by decide))
                have k1 : w11.cell? ⟨gp, 1, none⟩ = some (.int .i64 V) := HK4.out.cell 1
                go_wp2_with fail
                refine HA.out.mono ?_
                rintro d w12 ⟨V2, zc, ec, rfl, hb, k, b3', q3', u4, y4, f4, r4', i4, h4, g4⟩
                have HT5 := hid (HT4.out.rd hb k HN.out.1 HN.out.2.1)
                have HK5 := hid (HK4.out.but hb hgne)
                have HO5 := hid (own_but HO4.out hb HT4.out.kt.typed (by decide))
                have HL5 := hid (HL4.out.but hb HT4.out.kt.typed (by decide))
                have hbs5 : bp ≤ w12.heap.size := Nat.le_trans hbs4 hb.size
                have HPT := hid ((pt_res (s := (T, V)) (V' := IntKind.i64.wrap (V + u4)) HR8.out r4' HT2.out.1 rfl (val_bet HTV.out.2 i4 (by decide) (by decide)) h4).any (R' := fun q => q = ((T2, V2), (T2, V2))) (z' := zc) (fun h0 => ⟨(g4 h0).2, fun d hd => by
                  have hv2 := (g4 h0).1
                  have hw2 : IntKind.i64.wrap (V + u4) = V2 := by rw [hv2, IntKind.wrap_i64]; omega
                  rw [hd, hw2]⟩))
                have HSQ2 := hid (hsq.out.step hlt HPT.out q3')
                have HB3 := hid b3'
                clear hb k b3' q3' r4' i4 h4 g4 HA HT4 HK4 HO4 HL4 hbs4 k1 HPT hsq HR8 HQ8
                have x6 : w12.cell? ⟨gp, 1, none⟩ = some (.int .i64 V) := HK5.out.cell 1
                have y6 : w12.frozen? ⟨gp, 1, none⟩ = false := HK5.out.frozen 1
                have z6' := HK5.out.lt
                go_upto_region 22 with fail
                obtain ⟨w13, hw13⟩ : ∃ w13, w13 = w12.setCell ⟨gp, 1, none⟩ (.int .i64 V2) := ⟨_, rfl⟩
                rw [← hw13]
                have HT6 := hid (show RT w R E g C n c bs w13 s (v2 : Nat) (v4 : Nat) la v3 (.slice D xs.length f) (.slice P i pf) zc ec by rw [hw13]; exact HT5.out.setp HK5.out HPB.out.1 1 _)
                have HK6 := hid (show Blk w13 gp 47 #[.int .i64 T2, .int .i64 V2] by rw [hw13]; exact HK5.out.set_ 1 _)
                have HO6 := hid (show w13.ownsRow bp 47 2 (.slice P i pf) i (ps.flatMap cellsP) by rw [hw13]; exact own_farM HO5.out (a := ⟨gp, 1, none⟩) (by simpa using HPB.out.2.1) _)
                have HL6 := hid (show EsL w.heap.size w13 xs D f by rw [hw13]; exact HL5.out.set HK5.out (by decide) _)
                have hbs6 : bp ≤ w13.heap.size := by rw [hw13]; simpa using hbs5
                clear hw13 HT5 HK5 HO5 HL5 hbs5 x6 y6 z6'
                have e6 : w13.cell? ⟨E, 6, none⟩ = some (.slice P i pf) := HT6.out.kE.cell 6
                have p0 : w13.cell? ⟨gp, 0, none⟩ = some (.int .i64 T2) := HK6.out.cell 0
                have p1 : w13.cell? ⟨gp, 1, none⟩ = some (.int .i64 V2) := HK6.out.cell 1
                have lE := HT6.out.kE.lt
                have lP := HK6.out.lt
                have HOA := hid (HO6.out.alloc (.cells #[.int .i64 T2, .int .i64 V2] 47))
                have HNR := hid (new_reads w13 47 2 [.int .i64 T2, .int .i64 V2] rfl)
                have HTA := hid (HT6.out.alloc (.cells #[.int .i64 T2, .int .i64 V2] 47))
                have HKA := hid (HK6.out.alloc (.cells #[.int .i64 T2, .int .i64 V2] 47))
                have HLA' := hid (HL6.out.below ((Below.refl _ _).alloc (Nat.le_refl _) (.cells #[.int .i64 T2, .int .i64 V2] 47)))
                clear HT6 HK6 HO6 HL6
                go_wp2_with (at_builtin; refine wpList_append_any _ rfl (.tmp 88) (.tmp 90) 40 rfl bp 47 iP (.agg #[.int .i64 0, .int .i64 0]) 2 16 Try.underlying40 HIP.out.1 HIP.out.2.1 HIP.out.2.2.1 HIP.out.2.2.2 rfl (by decide) _ i (ps.flatMap cellsP) rfl HOA.out (some ⟨w13.heap.size, 0, none⟩) 1 1 [.int .i64 T2, .int .i64 V2] rfl HNR.out (by intro u hu; simp only [List.mem_cons, List.not_mem_nil, or_false] at hu; rcases hu with rfl | rfl <;> rfl) (by simp only [maxLen]; omega) (by omega) (by simp; omega) ?_; intro v' w14 hown' hgr' hv'; obtain ⟨P2, pf2, hvf, _, _⟩ := own_form hown'; subst hvf; have HT7 := hid (HTA.out.grown HOA.out hgr' HPB.out.2.2); have HK7 := hid (HKA.out.grown hgr' (fun h => by have := (HOA.out.lt gp h.symm).1; have := HPB.out.2.1; omega)); have HL7 := hid (HLA'.out.grown HOA.out hgr' (by decide)); have HO7 := hid hown'; have hb7 : bp ≤ w14.heap.size := (by have := hgr'.size; simp at this; omega); have x6 : w14.cell? ⟨E, 6, none⟩ = some (.slice P i pf) := HT7.out.kE.cell 6; have y6 : w14.frozen? ⟨E, 6, none⟩ = false := HT7.out.kE.frozen 6; have z6' := HT7.out.kE.lt; clear hown' hgr' hv')
                have HX1 := hid (HT7.out.st 6 (.slice P2 (i + 1) pf2) (nm' := s) (ep' := (v2 : Nat)) (fl' := (v4 : Nat)) (la' := la) (sc' := v3) (en' := (.slice D xs.length f)) (op' := (.slice P2 (i + 1) pf2)) rfl HN.out.2.2.2.2.1 HN.out.2.2.1 HN.out.2.2.2.1)
                have HX2 := hid (show Blk (w14.setCell ⟨E, 6, none⟩ (.slice P2 (i + 1) pf2)) gp 47 #[.int .i64 T2, .int .i64 V2] ∧ (w14.setCell ⟨E, 6, none⟩ (.slice P2 (i + 1) pf2)).ownsRow bp 47 2 (.slice P2 (i + 1) pf2) (i + 1) ((ps ++ [(T2, V2)]).flatMap cellsP) ∧ EsL w.heap.size (w14.setCell ⟨E, 6, none⟩ (.slice P2 (i + 1) pf2)) xs D f ∧ bp ≤ (w14.setCell ⟨E, 6, none⟩ (.slice P2 (i + 1) pf2)).heap.size from
                  ⟨HK7.out.far (by simpa using typed_ne HK7.out.typed HT7.out.kE.typed (by decide)) _, by
                    rw [List.flatMap_append, List.flatMap_cons, List.flatMap_nil, List.append_nil]
                    exact own_but HO7.out ((But.refl E w14).setg 6 _) HT7.out.kE.typed (by decide), HL7.out.set HT7.out.kE (by decide) _, by simpa using hb7⟩)
                have HPL2 := hid (show i + 1 = (ps ++ [(T2, V2)]).length by rw [List.length_append, ← HPL.out]; rfl)
                have HT3 := hid hT3
                clear HT7 HK7 HL7 HO7 x6 y6 z6' e6 p0 p1 lE lP hb7 hbs6 HOA HNR HTA HKA HLA' hT3
                go_roundw
                case rel => exact ⟨i + 1, P2, pf2, ps ++ [(T2, V2)], T2, V2, zc, ec, by omega, by go_num, HPL2.out, HT3.out, HB3.out, HX1, HX2, HSQ2⟩
                case measure => simp [intOf]; omega
              · have t : (ea == 0) = false := by simp [he]
                have hltI : (i : Int) < (v7 : Int) := by omega
                have hEX : ea = 0 → v7 ≤ i := fun h => absurd h he
                clear he
                have hpl := HPL.out
                subst hpl
                obtain ⟨a0, a1, a2, a3, a4, a5, a6⟩ := hst.out.kE.seven
                obtain ⟨b0, b1', b2, b3, b4, b5, b6⟩ := hst.out.kR.seven
                have fr0 := hst.out.kR.frozen
                have lR := hst.out.kR.lt
                go_wp2_with fail
                obtain ⟨wf, hwf⟩ : ∃ wf, wf = ((((((wr.setCell ⟨R, 0, none⟩ (.string s)).setCell ⟨R, 1, none⟩ (.int .i64 (v2 : Nat))).setCell ⟨R, 2, none⟩ (.int .i64 (v4 : Nat))).setCell ⟨R, 3, none⟩ (.int .i64 la)).setCell ⟨R, 4, none⟩ (.int .i64 v3)).setCell ⟨R, 5, none⟩ (.slice D xs.length f)).setCell ⟨R, 6, none⟩ (.slice P ps.length pf) := ⟨_, rfl⟩
                have kRf : Blk wf R 42 (aR s (v2 : Nat) (v4 : Nat) la v3 (.slice D xs.length f) (.slice P ps.length pf)) := by rw [hwf]; exact ((((((hst.out.kR.set_ 0 _).set_ 1 _).set_ 2 _).set_ 3 _).set_ 4 _).set_ 5 _).set_ 6 _
                have hbr : But R wr wf := by rw [hwf]; exact (((((((But.refl R wr).setg 0 _).setg 1 _).setg 2 _).setg 3 _).setg 4 _).setg 5 _).setg 6 _
                have hff : But g w wf := by
                  rw [hwf]
                  exact ((((((hst.out.fr.setn HN.out.2.2.2.2.2 _).setn HN.out.2.2.2.2.2 _).setn HN.out.2.2.2.2.2 _).setn HN.out.2.2.2.2.2 _).setn HN.out.2.2.2.2.2 _).setn HN.out.2.2.2.2.2 _).setn HN.out.2.2.2.2.2 _
                have ktf : Blk wf g 92 (rdC C n c z9 ea) := hst.out.kt.but hbr (Ne.symm HN.out.1)
                have hes := hpp.out.2.2.1.but hbr hst.out.kR.typed (by decide)
                have hop := own_but hpp.out.2.1 hbr hst.out.kR.typed (by decide)
                rw [← hwf]
                have h7 : Res e8 (ptsM bs z7) (fun l => l = ps.map idP) z9 ea := by
                  rw [show ps.map idP = ps from List.map_id' ps]
                  exact made_res (most := 31) (by decide) HR7.out (SevI.fin hsq.out hEX) (by rw [Int.toNat_natCast, Nat.min_eq_left m7])
                have h6 := HR6.out
                have h4 := HR4.out.swap (S' := plainS bs 281474976710656 y3) (fun h0 => by rw [(HR3.out.2.2.2 h0).2])
                have HRES := (row_res (ea := D) (ec := f) (oa := P) (oc := pf) HNMR.out HR2.out HR3.out.1 (show decide ((-40 : Int) - 0 ≤ u3 ∧ u3 ≤ 40 - 0) = betB u3 (-40) 40 by unfold betB; rw [← Bool.decide_and]; exact decide_eq_decide.2 (by omega)) HR3.out.2.2.1 h4 HR5.out HLA.out h6 h7).any (R' := fun q => q = (RoA.d ⟨s, (v2 : Nat), (v4 : Nat), la, v3, xs, D, f, ps, P, pf⟩, ())) (z' := z9) (fun h0 => ⟨rfl, fun d hd => by
                  have h5 := HR4.out.zero (HR5.out.zero (h6.zero (h7.zero h0)))
                  have h8 := (HR3.out.2.2.2 h5).1
                  rw [hd, show v3 = u3 by omega]⟩)
                have HFIN := hid (show RetRw bs z e g C n c w (.returned (.agg (aR s (v2 : Nat) (v4 : Nat) la v3 (.slice D xs.length f) (.slice P ps.length pf)))) wf from by
                  obtain ⟨_, _, hv0, hcp, _⟩ := own_form hop
                  refine ⟨⟨s, (v2 : Nat), (v4 : Nat), la, v3, xs, D, f, ps, P, pf⟩, z9, ea, rfl, hff, ktf, HRES, fun h0 => (hsq.out.ok h0).2.2.2, ?_⟩
                  exact ⟨⟨hes.rd, fun y hy => (hes.ps y hy).rd, Reads.of_own hop, fun y hy => (hes.ps y hy).len, hes.len, by simp only; omega, HSZ.out, fun y hy => (hes.ps y hy).fs, fun y hy => (hes.ps y hy).cap⟩, hes.abv, fun y hy => (hes.ps y hy).lo, fun ad h => Nat.le_trans HPB.out.2.2 (own_lo hop ad h)⟩)
                clear hwf ktf hff hbr hes hop HRES h7 h6 h4
                obtain ⟨d0, d1, d2, d3, d4, d5, d6⟩ := kRf.seven
                refine bodyPost_ret (v := .agg (aR s (v2 : Nat) (v4 : Nat) la v3 (.slice D xs.length f) (.slice P ps.length pf))) ?_ rfl HFIN.out
                simp [results, Try.results56, go_sem, d0, d1, d2, d3, d4, d5, d6]
            · have hltI : (v7 : Int) ≤ (i : Int) := by omega
              have hEX : ea = 0 → v7 ≤ i := fun _ => by omega
              have hpl := HPL.out
              subst hpl
              obtain ⟨a0, a1, a2, a3, a4, a5, a6⟩ := hst.out.kE.seven
              obtain ⟨b0, b1', b2, b3, b4, b5, b6⟩ := hst.out.kR.seven
              have fr0 := hst.out.kR.frozen
              have lR := hst.out.kR.lt
              go_wp2_with fail
              obtain ⟨wf, hwf⟩ : ∃ wf, wf = ((((((wr.setCell ⟨R, 0, none⟩ (.string s)).setCell ⟨R, 1, none⟩ (.int .i64 (v2 : Nat))).setCell ⟨R, 2, none⟩ (.int .i64 (v4 : Nat))).setCell ⟨R, 3, none⟩ (.int .i64 la)).setCell ⟨R, 4, none⟩ (.int .i64 v3)).setCell ⟨R, 5, none⟩ (.slice D xs.length f)).setCell ⟨R, 6, none⟩ (.slice P ps.length pf) := ⟨_, rfl⟩
              have kRf : Blk wf R 42 (aR s (v2 : Nat) (v4 : Nat) la v3 (.slice D xs.length f) (.slice P ps.length pf)) := by rw [hwf]; exact ((((((hst.out.kR.set_ 0 _).set_ 1 _).set_ 2 _).set_ 3 _).set_ 4 _).set_ 5 _).set_ 6 _
              have hbr : But R wr wf := by rw [hwf]; exact (((((((But.refl R wr).setg 0 _).setg 1 _).setg 2 _).setg 3 _).setg 4 _).setg 5 _).setg 6 _
              have hff : But g w wf := by
                rw [hwf]
                exact ((((((hst.out.fr.setn HN.out.2.2.2.2.2 _).setn HN.out.2.2.2.2.2 _).setn HN.out.2.2.2.2.2 _).setn HN.out.2.2.2.2.2 _).setn HN.out.2.2.2.2.2 _).setn HN.out.2.2.2.2.2 _).setn HN.out.2.2.2.2.2 _
              have ktf : Blk wf g 92 (rdC C n c z9 ea) := hst.out.kt.but hbr (Ne.symm HN.out.1)
              have hes := hpp.out.2.2.1.but hbr hst.out.kR.typed (by decide)
              have hop := own_but hpp.out.2.1 hbr hst.out.kR.typed (by decide)
              rw [← hwf]
              have h7 : Res e8 (ptsM bs z7) (fun l => l = ps.map idP) z9 ea := by
                rw [show ps.map idP = ps from List.map_id' ps]
                exact made_res (most := 31) (by decide) HR7.out (SevI.fin hsq.out hEX) (by rw [Int.toNat_natCast, Nat.min_eq_left m7])
              have h6 := HR6.out
              have h4 := HR4.out.swap (S' := plainS bs 281474976710656 y3) (fun h0 => by rw [(HR3.out.2.2.2 h0).2])
              have HRES := (row_res (ea := D) (ec := f) (oa := P) (oc := pf) HNMR.out HR2.out HR3.out.1 (show decide ((-40 : Int) - 0 ≤ u3 ∧ u3 ≤ 40 - 0) = betB u3 (-40) 40 by unfold betB; rw [← Bool.decide_and]; exact decide_eq_decide.2 (by omega)) HR3.out.2.2.1 h4 HR5.out HLA.out h6 h7).any (R' := fun q => q = (RoA.d ⟨s, (v2 : Nat), (v4 : Nat), la, v3, xs, D, f, ps, P, pf⟩, ())) (z' := z9) (fun h0 => ⟨rfl, fun d hd => by
                have h5 := HR4.out.zero (HR5.out.zero (h6.zero (h7.zero h0)))
                have h8 := (HR3.out.2.2.2 h5).1
                rw [hd, show v3 = u3 by omega]⟩)
              have HFIN := hid (show RetRw bs z e g C n c w (.returned (.agg (aR s (v2 : Nat) (v4 : Nat) la v3 (.slice D xs.length f) (.slice P ps.length pf)))) wf from by
                obtain ⟨_, _, hv0, hcp, _⟩ := own_form hop
                refine ⟨⟨s, (v2 : Nat), (v4 : Nat), la, v3, xs, D, f, ps, P, pf⟩, z9, ea, rfl, hff, ktf, HRES, fun h0 => (hsq.out.ok h0).2.2.2, ?_⟩
                exact ⟨⟨hes.rd, fun y hy => (hes.ps y hy).rd, Reads.of_own hop, fun y hy => (hes.ps y hy).len, hes.len, by simp only; omega, HSZ.out, fun y hy => (hes.ps y hy).fs, fun y hy => (hes.ps y hy).cap⟩, hes.abv, fun y hy => (hes.ps y hy).lo, fun ad h => Nat.le_trans HPB.out.2.2 (own_lo hop ad h)⟩)
              clear hwf ktf hff hbr hes hop HRES h7 h6 h4
              obtain ⟨d0, d1, d2, d3, d4, d5, d6⟩ := kRf.seven
              refine bodyPost_ret (v := .agg (aR s (v2 : Nat) (v4 : Nat) la v3 (.slice D xs.length f) (.slice P ps.length pf))) ?_ rfl HFIN.out
              simp [results, Try.results56, go_sem, d0, d1, d2, d3, d4, d5, d6]
      · have hltI : (v : Int) ≤ (i : Int) := by omega
        have hEX : e3 = 0 → v ≤ i := fun _ => by omega
        have HNMR := hid ((name_res (l := acc) (u := ()) HR1.out HBE.out.1 HBE.out.2 (by rw [Int.toNat_natCast]; exact SevI.fin hsv.out hEX)).any (R' := fun l => s = strN l) (z' := z2) (fun h0 => ⟨rfl, fun d hd => by rw [hsn.out h0, hd]⟩))
        have HSZ := hid (show s.size ≤ 255 by rw [HSI.out]; omega)
        have HA := hid (plainR (most := 1099511627776) hst.out.kt hst.out.hs (by decide))
        clear hsv hsn
        go_wp2_with fail
        refine HA.out.mono ?_
        rintro d w3 ⟨v2, z3, e4, rfl, hb, k, r2, m2, q2⟩
        have HE3 := hid (hst.out.rd hb k HN.out.1 HN.out.2.1)
        have HR2 := hid r2
        clear hb k r2 q2 HA hst c2
        obtain ⟨a0, a1, a2, a3, a4, a5, a6⟩ := HE3.out.kE.seven
        have ff1 := HE3.out.kE.frozen 1
        have lE := HE3.out.kE.lt
        go_upto_region 11 with fail
        have HE4 := hid (HE3.out.st 1 (.int .i64 (v2 : Nat)) (nm' := s) (ep' := (v2 : Nat)) (fl' := 0) (la' := 0) (sc' := 0) (en' := (.slice none 0 0)) (op' := (.slice none 0 0)) rfl HN.out.2.2.2.2.1 HN.out.2.2.1 HN.out.2.2.2.1)
        generalize w3.setCell ⟨E, 1, none⟩ (.int .i64 (v2 : Nat)) = w3n at *
        clear a0 a1 a2 a3 a4 a5 a6 ff1 lE HE3
        have HA := hid (moreR (V := 0) (lo := -40) (hi := 40) HE4.out.kt HE4.out.hs (by decide) (by decide) (by decide))
        go_wp2_with fail
        refine HA.out.mono ?_
        rintro d w4 ⟨v3, z4, e5, rfl, hb, k, b3, q3, u3, y3, f3, r3, i3, h3, g3⟩
        have HE5 := hid (HE4.out.rd hb k HN.out.1 HN.out.2.1)
        have HR3 := hid (And.intro r3 (And.intro i3 (And.intro h3 g3)))
        clear hb k r3 i3 h3 g3 b3 q3 HA HE4
        obtain ⟨a0, a1, a2, a3, a4, a5, a6⟩ := HE5.out.kE.seven
        have ff1 := HE5.out.kE.frozen 4
        have lE := HE5.out.kE.lt
        go_upto_region 12 with fail
        have HE6 := hid (HE5.out.st 4 (.int .i64 v3) (nm' := s) (ep' := (v2 : Nat)) (fl' := 0) (la' := 0) (sc' := v3) (en' := (.slice none 0 0)) (op' := (.slice none 0 0)) rfl HN.out.2.2.2.2.1 HN.out.2.2.1 HN.out.2.2.2.1)
        generalize w4.setCell ⟨E, 4, none⟩ (.int .i64 v3) = w4n at *
        clear a0 a1 a2 a3 a4 a5 a6 ff1 lE HE5
        have HA := hid (plainR (most := 281474976710656) HE6.out.kt HE6.out.hs (by decide))
        go_wp2_with fail
        refine HA.out.mono ?_
        rintro d w5 ⟨v4, z5, e6, rfl, hb, k, r4, m4, q4⟩
        have HE7 := hid (HE6.out.rd hb k HN.out.1 HN.out.2.1)
        have HR4 := hid r4
        clear hb k r4 q4 HA HE6
        obtain ⟨a0, a1, a2, a3, a4, a5, a6⟩ := HE7.out.kE.seven
        have ff1 := HE7.out.kE.frozen 2
        have lE := HE7.out.kE.lt
        go_upto_region 13 with fail
        have HE8 := hid (HE7.out.st 2 (.int .i64 (v4 : Nat)) (nm' := s) (ep' := (v2 : Nat)) (fl' := (v4 : Nat)) (la' := 0) (sc' := v3) (en' := (.slice none 0 0)) (op' := (.slice none 0 0)) rfl HN.out.2.2.2.2.1 HN.out.2.2.1 HN.out.2.2.2.1)
        generalize w5.setCell ⟨E, 2, none⟩ (.int .i64 (v4 : Nat)) = w5n at *
        clear a0 a1 a2 a3 a4 a5 a6 ff1 lE HE7
        have HA := hid (plainR (most := 281474976710657) HE8.out.kt HE8.out.hs (by decide))
        go_wp2_with fail
        refine HA.out.mono ?_
        rintro d w6 ⟨v5, z6, e7, rfl, hb, k, r5, m5, q5⟩
        have HE9 := hid (HE8.out.rd hb k HN.out.1 HN.out.2.1)
        have HR5 := hid r5
        clear hb k r5 q5 HA HE8
        have hla2 : wrap64 ((v5 : Int) - 1) = (v5 : Int) - 1 := by unfold wrap64; omega
        obtain ⟨a0, a1, a2, a3, a4, a5, a6⟩ := HE9.out.kE.seven
        have ff1 := HE9.out.kE.frozen 3
        have lE := HE9.out.kE.lt
        go_upto_region 14 with fail
        have HE10 := hid (HE9.out.st 3 (.int .i64 ((v5 : Int) - 1)) (nm' := s) (ep' := (v2 : Nat)) (fl' := (v4 : Nat)) (la' := (v5 : Int) - 1) (sc' := v3) (en' := (.slice none 0 0)) (op' := (.slice none 0 0)) rfl HN.out.2.2.2.2.1 HN.out.2.2.1 HN.out.2.2.2.1)
        generalize w6.setCell ⟨E, 3, none⟩ (.int .i64 ((v5 : Int) - 1)) = w6n at *
        obtain ⟨la, hla⟩ : ∃ la, la = (v5 : Int) - 1 := ⟨_, rfl⟩
        rw [← hla] at HE10
        have HLA := hid (show la = wrap64 ((v5 : Int) - 1) by rw [hla2, hla])
        clear hla
        clear a0 a1 a2 a3 a4 a5 a6 ff1 lE hla2 HE9
        have HA := hid (entriesR HE10.out.kt HE10.out.hs)
        go_wp2_with fail
        refine HA.out.mono ?_
        rintro d w7 ⟨xs, D, f, z7, e8, rfl, hb, k, r6, q6, hel⟩
        have HE11 := hid (HE10.out.rd hb k HN.out.1 HN.out.2.1)
        have HR6 := hid r6
        have HEL := hid (hel.low HE10.out.fr.size)
        clear hb k r6 q6 HA HE10 hel
        obtain ⟨a0, a1, a2, a3, a4, a5, a6⟩ := HE11.out.kE.seven
        have ff1 := HE11.out.kE.frozen 5
        have lE := HE11.out.kE.lt
        go_upto_region 15 with fail
        have HEL2 := hid (HEL.out.set (i := 5) HE11.out.kE (by decide) (.slice D xs.length f))
        have HE12 := hid (HE11.out.st 5 (.slice D xs.length f) (nm' := s) (ep' := (v2 : Nat)) (fl' := (v4 : Nat)) (la' := la) (sc' := v3) (en' := (.slice D xs.length f)) (op' := (.slice none 0 0)) rfl HN.out.2.2.2.2.1 HN.out.2.2.1 HN.out.2.2.2.1)
        generalize w7.setCell ⟨E, 5, none⟩ (.slice D xs.length f) = w7n at *
        clear a0 a1 a2 a3 a4 a5 a6 ff1 lE HE11 HEL
        have HA := hid (plainR (most := 31) HE12.out.kt HE12.out.hs (by decide))
        go_wp2_with fail
        refine HA.out.mono ?_
        rintro d w8 ⟨v7, z8, e9, rfl, hb, k, r7, m7, q7⟩
        have HE13 := hid (HE12.out.rd hb k HN.out.1 HN.out.2.1)
        have HR7 := hid r7
        have HEL3 := hid (HEL2.out.but hb HE12.out.kt.typed (by decide))
        have HSQ0 := hid (SevI.start (f := fPt bs) (L := bs.length) (m := v7) (s0 := ((0 : Int), (0 : Int))) (z0 := z8) (e0 := e9) q7)
        clear hb k r7 q7 HA HE12 HEL2
        obtain ⟨gp, hgp⟩ : ∃ gp, gp = w8.heap.size := ⟨_, rfl⟩
        obtain ⟨w9, hw9⟩ : ∃ w9, w9 = w8.alloc (.cells #[.int .i64 0, .int .i64 0] 47) := ⟨_, rfl⟩
        have hsz8 := HE13.out.fr.size
        obtain ⟨bp, hbp⟩ : ∃ bp, bp = w9.heap.size := ⟨_, rfl⟩
        have HPB := hid (show w.heap.size ≤ gp ∧ gp < bp ∧ w.heap.size ≤ bp by rw [hbp, hw9, hgp]; simp; omega)
        have HE14 := hid (show RT w R E g C n c bs w9 s (v2 : Nat) (v4 : Nat) la v3 (.slice D xs.length f) (.slice none 0 0) z8 e9 by rw [hw9]; exact HE13.out.alloc _)
        have HPP := hid (show Blk w9 gp 47 #[.int .i64 0, .int .i64 0] ∧ w9.ownsRow bp 47 2 (.slice none 0 0) 0 (([] : List (Int × Int)).flatMap cellsP) ∧ EsL w.heap.size w9 xs D f ∧ bp ≤ w9.heap.size by
          refine ⟨by rw [hw9, hgp]; exact Blk.new _ _ _, ⟨by simp, .inl ⟨rfl, rfl⟩⟩, ?_, by rw [hbp]; exact Nat.le_refl _⟩
          rw [hw9]; exact HEL3.out.below ((Below.refl _ _).alloc (Nat.le_refl _) _))
        clear HEL3 HE13 hbp hsz8
        go_wp2_with fail
        rw [← hw9]
        try rw [← hgp]
        clear hw9 hgp
        go_loopw [9] (fun u9 wr => ∃ (i : Nat) (P : Option Addr) (pf : Nat) (ps : List (Int × Int)) (T V : Int) (z9 : Nat) (ea : Int), i ≤ v7 ∧ u9 = .int .i64 (i : Nat) ∧ i = ps.length ∧ (0 ≤ T ∧ T ≤ (i : Int) * 281474976710656) ∧ (-2305843009213693952 ≤ V ∧ V ≤ 2305843009213693952) ∧ Hid (RT w R E g C n c bs wr s (v2 : Nat) (v4 : Nat) la v3 (.slice D xs.length f) (.slice P i pf) z9 ea) ∧ Hid (Blk wr gp 47 #[.int .i64 T, .int .i64 V] ∧ wr.ownsRow bp 47 2 (.slice P i pf) i (ps.flatMap cellsP) ∧ EsL w.heap.size wr xs D f ∧ bp ≤ wr.heap.size) ∧ Hid (SevI (fPt bs) bs.length v7 ((0 : Int), (0 : Int)) z8 e9 i (T, V) ps z9 ea)) (fun u9 _ => v7 - (intOf u9).toNat)
        case atStart => exact ⟨0, none, 0, [], 0, 0, z8, e9, Nat.zero_le _, rfl, rfl, ⟨by decide, by decide⟩, ⟨by decide, by decide⟩, HE14, HPP, HSQ0⟩
        case round =>
          obtain ⟨i, P, pf, ps, T, V, z9, ea, hi, rfl, hpl, hT, hV, hst, hpp, hsq⟩ := hrel
          have HPL := hid hpl
          clear hpl HE14 HPP HSQ0
          have c2 : wr.cell? ⟨g, 2, none⟩ = some (.int .i64 ea) := hst.out.kt.cell 2
          by_cases hlt : i < v7
          · by_cases he : ea = 0
            · subst he
              have HTV := hid (And.intro hT hV)
              have hltI : (i : Int) < (v7 : Int) := by omega
              go_upto_region 20 with fail
              have HA := hid (plainR (most := 281474976710656) hst.out.drew.kt hst.out.drew.hs (by decide))
              have hgne : gp ≠ g := typed_ne hpp.out.1.typed hst.out.kt.typed (by decide)
              refine wp_region_noPanic ?_
              refine AnyTill.begin (S := fun W => W.cell? ⟨gp, 0, none⟩ = some (.int .i64 T)) (t := 6) (by kernel_rfl) (hpp.out.1.drew.cell 0) (fun hHeld => ?_)
              clear c2
              refine AnyTill.take (i := 0) (v := ?_) rfl (by kernel_rfl) (by kernel_rfl) (by kernel_rfl) (by kernel_rfl) (by kernel_rfl) (fun _ _ _ h => h) (Or.inl ⟨by rfl, ?_⟩) (by assumption) ?_
              rotate_left
              · intro W hW
                go_simp
                try rfl
              simp only [List.getElem_toArray, List.getElem_cons_zero, Act.put, List.setIfInBounds_toArray, List.set_cons_zero, List.set_cons_succ]
              refine AnyTill.take (i := 1) (v := ?_) rfl (by kernel_rfl) (by kernel_rfl) (by kernel_rfl) (by kernel_rfl) (by kernel_rfl) (fun _ _ _ h => h) (Or.inl ⟨by rfl, ?_⟩) (by assumption) ?_
              rotate_left
              · intro W hW
                go_simp
                try rfl
              simp only [List.getElem_toArray, List.getElem_cons_succ, List.getElem_cons_zero, Act.put, List.setIfInBounds_toArray, List.set_cons_zero, List.set_cons_succ]
              refine AnyTill.take (i := 2) (v := ?_) rfl (by kernel_rfl) (by kernel_rfl) (by kernel_rfl) (by kernel_rfl) (by kernel_rfl) (fun _ _ _ h => h) (Or.inl ⟨by rfl, ?_⟩) (by assumption) ?_
              rotate_left
              · intro W hW
                go_simp
                try rfl
              simp only [List.getElem_toArray, List.getElem_cons_succ, List.getElem_cons_zero, Act.put, List.setIfInBounds_toArray, List.set_cons_zero, List.set_cons_succ]
              refine AnyTill.one (j := 3) (by kernel_rfl) rfl (fun K hK => ?_)
              go_simp
              refine HA.out.mono ?_
              rintro d w10 ⟨v8, za, eb, rfl, hb, k, r8, m8, q8⟩
              refine hK.out _ _ (fun _ => (hpp.out.1.drew.but hb hgne).cell 0) ?_
              clear hK K
              try simp only [List.getElem_toArray, List.getElem_cons_succ, List.getElem_cons_zero, Act.put, List.setIfInBounds_toArray, List.set_cons_zero, List.set_cons_succ]
              have HT1 := hid (hst.out.drew.rd hb k HN.out.1 HN.out.2.1)
              have HK1 := hid (hpp.out.1.drew.but hb hgne)
              have HO1 := hid (own_but hpp.out.2.1.drew hb hst.out.drew.kt.typed (by decide))
              have HL1 := hid (EsL.but (hpp.out.2.2.1.below ((Below.refl _ _).drew)) hb hst.out.drew.kt.typed (by decide))
              have hbs : bp ≤ w10.heap.size := Nat.le_trans hpp.out.2.2.2 hb.size
              have HR8 := hid r8
              have HQ8 := hid q8
              obtain ⟨T2, hT2⟩ : ∃ T2, T2 = IntKind.i64.wrap (T + (v8 : Int)) := ⟨_, rfl⟩
              have HT2 := hid (And.intro hT2 (show T2 = T + (v8 : Int) by rw [hT2, IntKind.wrap_i64]; omega))
              have hw : IntKind.i64.wrap (T + (v8 : Int)) = T2 := hT2.symm
              have hT3 : 0 ≤ T2 ∧ T2 ≤ ((i + 1 : Nat) : Int) * 281474976710656 := by rw [HT2.out.2]; omega
              clear hb k r8 q8 HA hT2 hHeld hT
              have x6 : w10.cell? ⟨gp, 0, none⟩ = some (.int .i64 T) := HK1.out.cell 0
              refine AnyTill.take (i := 4) (v := ?_) rfl (by kernel_rfl) (by kernel_rfl) (by kernel_rfl) (by kernel_rfl) (by kernel_rfl) (fun _ _ _ h => h) (Or.inl ⟨by rfl, ?_⟩) (by assumption) ?_
              rotate_left
              · intro W hW
                go_simp
                try rfl
              simp only [List.getElem_toArray, List.getElem_cons_succ, List.getElem_cons_zero, Act.put, List.setIfInBounds_toArray, List.set_cons_zero, List.set_cons_succ]
              refine AnyTill.take (i := 5) (v := ?_) rfl (by kernel_rfl) (by kernel_rfl) (by kernel_rfl) (by kernel_rfl) (by kernel_rfl) (fun _ _ _ h => h) (Or.inl ⟨by rfl, ?_⟩) (by assumption) ?_
              rotate_left
              · intro W hW
                go_simp
                try rfl
              simp only [List.getElem_toArray, List.getElem_cons_succ, List.getElem_cons_zero, Act.put, List.setIfInBounds_toArray, List.set_cons_zero, List.set_cons_succ]
              have y6 : w10.frozen? ⟨gp, 0, none⟩ = false := HK1.out.frozen 0
              have z6' := HK1.out.lt
              refine AnyTill.one (j := 6) (by kernel_rfl) rfl (fun K hK => ?_)
              go_simp
              refine hK.out _ _ (fun h => by simp at h) ?_
              clear hK K
              try simp only [List.getElem_toArray, List.getElem_cons_succ, List.getElem_cons_zero, Act.put, List.setIfInBounds_toArray, List.set_cons_zero, List.set_cons_succ]
              refine AnyTill.done (by kernel_rfl) ?_ _
              refine NoPanic.normal ?_
              obtain ⟨w11, hw11⟩ : ∃ w11, w11 = w10.setCell ⟨gp, 0, none⟩ (.int .i64 T2) := ⟨_, rfl⟩
              rw [← hw11]
              have HT4 := hid (show RT w R E g C n c bs w11 s (v2 : Nat) (v4 : Nat) la v3 (.slice D xs.length f) (.slice P i pf) za eb by rw [hw11]; exact HT1.out.setp HK1.out HPB.out.1 0 _)
              have HK4 := hid (show Blk w11 gp 47 #[.int .i64 T2, .int .i64 V] by rw [hw11]; exact HK1.out.set_ 0 _)
              have HO4 := hid (show w11.ownsRow bp 47 2 (.slice P i pf) i (ps.flatMap cellsP) by rw [hw11]; exact own_farM HO1.out (a := ⟨gp, 0, none⟩) (by simpa using HPB.out.2.1) _)
              have HL4 := hid (show EsL w.heap.size w11 xs D f by rw [hw11]; exact HL1.out.set HK1.out (by decide) _)
              have hbs4 : bp ≤ w11.heap.size := by rw [hw11]; simpa using hbs
              clear hw11 HT1 HK1 HO1 HL1 x6 y6 z6' hbs hw hst hpp hV
              have HA := hid (moreR (V := V) (lo := -2305843009213693952) (hi := 2305843009213693952) HT4.out.kt HT4.out.hs HTV.out.2 (by decide) (by decide))
              have k1 : w11.cell? ⟨gp, 1, none⟩ = some (.int .i64 V) := HK4.out.cell 1
              go_wp2_with fail
              refine HA.out.mono ?_
              rintro d w12 ⟨V2, zc, ec, rfl, hb, k, b3', q3', u4, y4, f4, r4', i4, h4, g4⟩
              have HT5 := hid (HT4.out.rd hb k HN.out.1 HN.out.2.1)
              have HK5 := hid (HK4.out.but hb hgne)
              have HO5 := hid (own_but HO4.out hb HT4.out.kt.typed (by decide))
              have HL5 := hid (HL4.out.but hb HT4.out.kt.typed (by decide))
              have hbs5 : bp ≤ w12.heap.size := Nat.le_trans hbs4 hb.size
              have HPT := hid ((pt_res (s := (T, V)) (V' := IntKind.i64.wrap (V + u4)) HR8.out r4' HT2.out.1 rfl (val_bet HTV.out.2 i4 (by decide) (by decide)) h4).any (R' := fun q => q = ((T2, V2), (T2, V2))) (z' := zc) (fun h0 => ⟨(g4 h0).2, fun d hd => by
                have hv2 := (g4 h0).1
                have hw2 : IntKind.i64.wrap (V + u4) = V2 := by rw [hv2, IntKind.wrap_i64]; omega
                rw [hd, hw2]⟩))
              have HSQ2 := hid (hsq.out.step hlt HPT.out q3')
              have HB3 := hid b3'
              clear hb k b3' q3' r4' i4 h4 g4 HA HT4 HK4 HO4 HL4 hbs4 k1 HPT hsq HR8 HQ8
              have x6 : w12.cell? ⟨gp, 1, none⟩ = some (.int .i64 V) := HK5.out.cell 1
              have y6 : w12.frozen? ⟨gp, 1, none⟩ = false := HK5.out.frozen 1
              have z6' := HK5.out.lt
              go_upto_region 22 with fail
              obtain ⟨w13, hw13⟩ : ∃ w13, w13 = w12.setCell ⟨gp, 1, none⟩ (.int .i64 V2) := ⟨_, rfl⟩
              rw [← hw13]
              have HT6 := hid (show RT w R E g C n c bs w13 s (v2 : Nat) (v4 : Nat) la v3 (.slice D xs.length f) (.slice P i pf) zc ec by rw [hw13]; exact HT5.out.setp HK5.out HPB.out.1 1 _)
              have HK6 := hid (show Blk w13 gp 47 #[.int .i64 T2, .int .i64 V2] by rw [hw13]; exact HK5.out.set_ 1 _)
              have HO6 := hid (show w13.ownsRow bp 47 2 (.slice P i pf) i (ps.flatMap cellsP) by rw [hw13]; exact own_farM HO5.out (a := ⟨gp, 1, none⟩) (by simpa using HPB.out.2.1) _)
              have HL6 := hid (show EsL w.heap.size w13 xs D f by rw [hw13]; exact HL5.out.set HK5.out (by decide) _)
              have hbs6 : bp ≤ w13.heap.size := by rw [hw13]; simpa using hbs5
              clear hw13 HT5 HK5 HO5 HL5 hbs5 x6 y6 z6'
              have e6 : w13.cell? ⟨E, 6, none⟩ = some (.slice P i pf) := HT6.out.kE.cell 6
              have p0 : w13.cell? ⟨gp, 0, none⟩ = some (.int .i64 T2) := HK6.out.cell 0
              have p1 : w13.cell? ⟨gp, 1, none⟩ = some (.int .i64 V2) := HK6.out.cell 1
              have lE := HT6.out.kE.lt
              have lP := HK6.out.lt
              have HOA := hid (HO6.out.alloc (.cells #[.int .i64 T2, .int .i64 V2] 47))
              have HNR := hid (new_reads w13 47 2 [.int .i64 T2, .int .i64 V2] rfl)
              have HTA := hid (HT6.out.alloc (.cells #[.int .i64 T2, .int .i64 V2] 47))
              have HKA := hid (HK6.out.alloc (.cells #[.int .i64 T2, .int .i64 V2] 47))
              have HLA' := hid (HL6.out.below ((Below.refl _ _).alloc (Nat.le_refl _) (.cells #[.int .i64 T2, .int .i64 V2] 47)))
              clear HT6 HK6 HO6 HL6
              go_wp2_with (at_builtin; refine wpList_append_any _ rfl (.tmp 88) (.tmp 90) 40 rfl bp 47 iP (.agg #[.int .i64 0, .int .i64 0]) 2 16 Try.underlying40 HIP.out.1 HIP.out.2.1 HIP.out.2.2.1 HIP.out.2.2.2 rfl (by decide) _ i (ps.flatMap cellsP) rfl HOA.out (some ⟨w13.heap.size, 0, none⟩) 1 1 [.int .i64 T2, .int .i64 V2] rfl HNR.out (by intro u hu; simp only [List.mem_cons, List.not_mem_nil, or_false] at hu; rcases hu with rfl | rfl <;> rfl) (by simp only [maxLen]; omega) (by omega) (by simp; omega) ?_; intro v' w14 hown' hgr' hv'; obtain ⟨P2, pf2, hvf, _, _⟩ := own_form hown'; subst hvf; have HT7 := hid (HTA.out.grown HOA.out hgr' HPB.out.2.2); have HK7 := hid (HKA.out.grown hgr' (fun h => by have := (HOA.out.lt gp h.symm).1; have := HPB.out.2.1; omega)); have HL7 := hid (HLA'.out.grown HOA.out hgr' (by decide)); have HO7 := hid hown'; have hb7 : bp ≤ w14.heap.size := (by have := hgr'.size; simp at this; omega); have x6 : w14.cell? ⟨E, 6, none⟩ = some (.slice P i pf) := HT7.out.kE.cell 6; have y6 : w14.frozen? ⟨E, 6, none⟩ = false := HT7.out.kE.frozen 6; have z6' := HT7.out.kE.lt; clear hown' hgr' hv')
              have HX1 := hid (HT7.out.st 6 (.slice P2 (i + 1) pf2) (nm' := s) (ep' := (v2 : Nat)) (fl' := (v4 : Nat)) (la' := la) (sc' := v3) (en' := (.slice D xs.length f)) (op' := (.slice P2 (i + 1) pf2)) rfl HN.out.2.2.2.2.1 HN.out.2.2.1 HN.out.2.2.2.1)
              have HX2 := hid (show Blk (w14.setCell ⟨E, 6, none⟩ (.slice P2 (i + 1) pf2)) gp 47 #[.int .i64 T2, .int .i64 V2] ∧ (w14.setCell ⟨E, 6, none⟩ (.slice P2 (i + 1) pf2)).ownsRow bp 47 2 (.slice P2 (i + 1) pf2) (i + 1) ((ps ++ [(T2, V2)]).flatMap cellsP) ∧ EsL w.heap.size (w14.setCell ⟨E, 6, none⟩ (.slice P2 (i + 1) pf2)) xs D f ∧ bp ≤ (w14.setCell ⟨E, 6, none⟩ (.slice P2 (i + 1) pf2)).heap.size from
                ⟨HK7.out.far (by simpa using typed_ne HK7.out.typed HT7.out.kE.typed (by decide)) _, by
                  rw [List.flatMap_append, List.flatMap_cons, List.flatMap_nil, List.append_nil]
                  exact own_but HO7.out ((But.refl E w14).setg 6 _) HT7.out.kE.typed (by decide), HL7.out.set HT7.out.kE (by decide) _, by simpa using hb7⟩)
              have HPL2 := hid (show i + 1 = (ps ++ [(T2, V2)]).length by rw [List.length_append, ← HPL.out]; rfl)
              have HT3 := hid hT3
              clear HT7 HK7 HL7 HO7 x6 y6 z6' e6 p0 p1 lE lP hb7 hbs6 HOA HNR HTA HKA HLA' hT3
              go_roundw
              case rel => exact ⟨i + 1, P2, pf2, ps ++ [(T2, V2)], T2, V2, zc, ec, by omega, by go_num, HPL2.out, HT3.out, HB3.out, HX1, HX2, HSQ2⟩
              case measure => simp [intOf]; omega
            · have t : (ea == 0) = false := by simp [he]
              have hltI : (i : Int) < (v7 : Int) := by omega
              have hEX : ea = 0 → v7 ≤ i := fun h => absurd h he
              clear he
              have hpl := HPL.out
              subst hpl
              obtain ⟨a0, a1, a2, a3, a4, a5, a6⟩ := hst.out.kE.seven
              obtain ⟨b0, b1', b2, b3, b4, b5, b6⟩ := hst.out.kR.seven
              have fr0 := hst.out.kR.frozen
              have lR := hst.out.kR.lt
              go_wp2_with fail
              obtain ⟨wf, hwf⟩ : ∃ wf, wf = ((((((wr.setCell ⟨R, 0, none⟩ (.string s)).setCell ⟨R, 1, none⟩ (.int .i64 (v2 : Nat))).setCell ⟨R, 2, none⟩ (.int .i64 (v4 : Nat))).setCell ⟨R, 3, none⟩ (.int .i64 la)).setCell ⟨R, 4, none⟩ (.int .i64 v3)).setCell ⟨R, 5, none⟩ (.slice D xs.length f)).setCell ⟨R, 6, none⟩ (.slice P ps.length pf) := ⟨_, rfl⟩
              have kRf : Blk wf R 42 (aR s (v2 : Nat) (v4 : Nat) la v3 (.slice D xs.length f) (.slice P ps.length pf)) := by rw [hwf]; exact ((((((hst.out.kR.set_ 0 _).set_ 1 _).set_ 2 _).set_ 3 _).set_ 4 _).set_ 5 _).set_ 6 _
              have hbr : But R wr wf := by rw [hwf]; exact (((((((But.refl R wr).setg 0 _).setg 1 _).setg 2 _).setg 3 _).setg 4 _).setg 5 _).setg 6 _
              have hff : But g w wf := by
                rw [hwf]
                exact ((((((hst.out.fr.setn HN.out.2.2.2.2.2 _).setn HN.out.2.2.2.2.2 _).setn HN.out.2.2.2.2.2 _).setn HN.out.2.2.2.2.2 _).setn HN.out.2.2.2.2.2 _).setn HN.out.2.2.2.2.2 _).setn HN.out.2.2.2.2.2 _
              have ktf : Blk wf g 92 (rdC C n c z9 ea) := hst.out.kt.but hbr (Ne.symm HN.out.1)
              have hes := hpp.out.2.2.1.but hbr hst.out.kR.typed (by decide)
              have hop := own_but hpp.out.2.1 hbr hst.out.kR.typed (by decide)
              rw [← hwf]
              have h7 : Res e8 (ptsM bs z7) (fun l => l = ps.map idP) z9 ea := by
                rw [show ps.map idP = ps from List.map_id' ps]
                exact made_res (most := 31) (by decide) HR7.out (SevI.fin hsq.out hEX) (by rw [Int.toNat_natCast, Nat.min_eq_left m7])
              have h6 := HR6.out
              have h4 := HR4.out.swap (S' := plainS bs 281474976710656 y3) (fun h0 => by rw [(HR3.out.2.2.2 h0).2])
              have HRES := (row_res (ea := D) (ec := f) (oa := P) (oc := pf) HNMR.out HR2.out HR3.out.1 (show decide ((-40 : Int) - 0 ≤ u3 ∧ u3 ≤ 40 - 0) = betB u3 (-40) 40 by unfold betB; rw [← Bool.decide_and]; exact decide_eq_decide.2 (by omega)) HR3.out.2.2.1 h4 HR5.out HLA.out h6 h7).any (R' := fun q => q = (RoA.d ⟨s, (v2 : Nat), (v4 : Nat), la, v3, xs, D, f, ps, P, pf⟩, ())) (z' := z9) (fun h0 => ⟨rfl, fun d hd => by
                have h5 := HR4.out.zero (HR5.out.zero (h6.zero (h7.zero h0)))
                have h8 := (HR3.out.2.2.2 h5).1
                rw [hd, show v3 = u3 by omega]⟩)
              have HFIN := hid (show RetRw bs z e g C n c w (.returned (.agg (aR s (v2 : Nat) (v4 : Nat) la v3 (.slice D xs.length f) (.slice P ps.length pf)))) wf from by
                obtain ⟨_, _, hv0, hcp, _⟩ := own_form hop
                refine ⟨⟨s, (v2 : Nat), (v4 : Nat), la, v3, xs, D, f, ps, P, pf⟩, z9, ea, rfl, hff, ktf, HRES, fun h0 => (hsq.out.ok h0).2.2.2, ?_⟩
                exact ⟨⟨hes.rd, fun y hy => (hes.ps y hy).rd, Reads.of_own hop, fun y hy => (hes.ps y hy).len, hes.len, by simp only; omega, HSZ.out, fun y hy => (hes.ps y hy).fs, fun y hy => (hes.ps y hy).cap⟩, hes.abv, fun y hy => (hes.ps y hy).lo, fun ad h => Nat.le_trans HPB.out.2.2 (own_lo hop ad h)⟩)
              clear hwf ktf hff hbr hes hop HRES h7 h6 h4
              obtain ⟨d0, d1, d2, d3, d4, d5, d6⟩ := kRf.seven
              refine bodyPost_ret (v := .agg (aR s (v2 : Nat) (v4 : Nat) la v3 (.slice D xs.length f) (.slice P ps.length pf))) ?_ rfl HFIN.out
              simp [results, Try.results56, go_sem, d0, d1, d2, d3, d4, d5, d6]
          · have hltI : (v7 : Int) ≤ (i : Int) := by omega
            have hEX : ea = 0 → v7 ≤ i := fun _ => by omega
            have hpl := HPL.out
            subst hpl
            obtain ⟨a0, a1, a2, a3, a4, a5, a6⟩ := hst.out.kE.seven
            obtain ⟨b0, b1', b2, b3, b4, b5, b6⟩ := hst.out.kR.seven
            have fr0 := hst.out.kR.frozen
            have lR := hst.out.kR.lt
            go_wp2_with fail
            obtain ⟨wf, hwf⟩ : ∃ wf, wf = ((((((wr.setCell ⟨R, 0, none⟩ (.string s)).setCell ⟨R, 1, none⟩ (.int .i64 (v2 : Nat))).setCell ⟨R, 2, none⟩ (.int .i64 (v4 : Nat))).setCell ⟨R, 3, none⟩ (.int .i64 la)).setCell ⟨R, 4, none⟩ (.int .i64 v3)).setCell ⟨R, 5, none⟩ (.slice D xs.length f)).setCell ⟨R, 6, none⟩ (.slice P ps.length pf) := ⟨_, rfl⟩
            have kRf : Blk wf R 42 (aR s (v2 : Nat) (v4 : Nat) la v3 (.slice D xs.length f) (.slice P ps.length pf)) := by rw [hwf]; exact ((((((hst.out.kR.set_ 0 _).set_ 1 _).set_ 2 _).set_ 3 _).set_ 4 _).set_ 5 _).set_ 6 _
            have hbr : But R wr wf := by rw [hwf]; exact (((((((But.refl R wr).setg 0 _).setg 1 _).setg 2 _).setg 3 _).setg 4 _).setg 5 _).setg 6 _
            have hff : But g w wf := by
              rw [hwf]
              exact ((((((hst.out.fr.setn HN.out.2.2.2.2.2 _).setn HN.out.2.2.2.2.2 _).setn HN.out.2.2.2.2.2 _).setn HN.out.2.2.2.2.2 _).setn HN.out.2.2.2.2.2 _).setn HN.out.2.2.2.2.2 _).setn HN.out.2.2.2.2.2 _
            have ktf : Blk wf g 92 (rdC C n c z9 ea) := hst.out.kt.but hbr (Ne.symm HN.out.1)
            have hes := hpp.out.2.2.1.but hbr hst.out.kR.typed (by decide)
            have hop := own_but hpp.out.2.1 hbr hst.out.kR.typed (by decide)
            rw [← hwf]
            have h7 : Res e8 (ptsM bs z7) (fun l => l = ps.map idP) z9 ea := by
              rw [show ps.map idP = ps from List.map_id' ps]
              exact made_res (most := 31) (by decide) HR7.out (SevI.fin hsq.out hEX) (by rw [Int.toNat_natCast, Nat.min_eq_left m7])
            have h6 := HR6.out
            have h4 := HR4.out.swap (S' := plainS bs 281474976710656 y3) (fun h0 => by rw [(HR3.out.2.2.2 h0).2])
            have HRES := (row_res (ea := D) (ec := f) (oa := P) (oc := pf) HNMR.out HR2.out HR3.out.1 (show decide ((-40 : Int) - 0 ≤ u3 ∧ u3 ≤ 40 - 0) = betB u3 (-40) 40 by unfold betB; rw [← Bool.decide_and]; exact decide_eq_decide.2 (by omega)) HR3.out.2.2.1 h4 HR5.out HLA.out h6 h7).any (R' := fun q => q = (RoA.d ⟨s, (v2 : Nat), (v4 : Nat), la, v3, xs, D, f, ps, P, pf⟩, ())) (z' := z9) (fun h0 => ⟨rfl, fun d hd => by
              have h5 := HR4.out.zero (HR5.out.zero (h6.zero (h7.zero h0)))
              have h8 := (HR3.out.2.2.2 h5).1
              rw [hd, show v3 = u3 by omega]⟩)
            have HFIN := hid (show RetRw bs z e g C n c w (.returned (.agg (aR s (v2 : Nat) (v4 : Nat) la v3 (.slice D xs.length f) (.slice P ps.length pf)))) wf from by
              obtain ⟨_, _, hv0, hcp, _⟩ := own_form hop
              refine ⟨⟨s, (v2 : Nat), (v4 : Nat), la, v3, xs, D, f, ps, P, pf⟩, z9, ea, rfl, hff, ktf, HRES, fun h0 => (hsq.out.ok h0).2.2.2, ?_⟩
              exact ⟨⟨hes.rd, fun y hy => (hes.ps y hy).rd, Reads.of_own hop, fun y hy => (hes.ps y hy).len, hes.len, by simp only; omega, HSZ.out, fun y hy => (hes.ps y hy).fs, fun y hy => (hes.ps y hy).cap⟩, hes.abv, fun y hy => (hes.ps y hy).lo, fun ad h => Nat.le_trans HPB.out.2.2 (own_lo hop ad h)⟩)
            clear hwf ktf hff hbr hes hop HRES h7 h6 h4
            obtain ⟨d0, d1, d2, d3, d4, d5, d6⟩ := kRf.seven
            refine bodyPost_ret (v := .agg (aR s (v2 : Nat) (v4 : Nat) la v3 (.slice D xs.length f) (.slice P ps.length pf))) ?_ rfl HFIN.out
            simp [results, Try.results56, go_sem, d0, d1, d2, d3, d4, d5, d6]
end Go.Proofs.Ytgdnpmjmkcccoaa
namespace Go.Proofs.Ytgdnpmjmkcccoaa
open Go.RowKit Go.Shelf VB
open Go.Lib (hid)
set_option linter.unusedVariables false
set_option linter.unusedSimpArgs false
/-- a manifest in memory of its own types -/
structure MH (w : World) (C : Option Addr) (k : Nat) (xs : List RoA) : Prop where
  rd : Reads w 42 7 C k (xs.flatMap cellsR)
  fr : ∀ x ∈ xs, RoFr w x
  k9 : k ≤ 9
theorem MH.below {w w' : World} {C : Option Addr} {k : Nat} {xs : List RoA} (h : MH w C k xs) (hb : Below w.heap.size w w') : MH w' C k xs :=
  ⟨h.rd.below hb, fun x hx => (h.fr x hx).below hb, h.k9⟩
theorem MH.alloc {w : World} {C : Option Addr} {k : Nat} {xs : List RoA} (h : MH w C k xs) (o : Obj) : MH (w.alloc o) C k xs :=
  h.below ((Below.refl _ _).alloc (Nat.le_refl _) o)
theorem MH.man {w : World} {C : Option Addr} {k : Nat} {xs : List RoA} (h : MH w C k xs) (f : Nat) : ManIn w C k f xs :=
  ⟨⟨_, h.rd⟩, fun x hx => (h.fr x hx).inn, by have := h.k9; omega⟩
theorem right_h (A : Option Addr) (n c : Nat) (rows : List RoA) (w : World) {l : List Ro} (h : MH w A n rows) (hl : rows.map RoA.d = l) :
    Calls Try.prog 12 #[.agg #[.slice A n c]] w fun e w' => e = .returned (.bool (manOk l)) ∧ Below w.heap.size w w' :=
  (Right22_d A n c rows w (h.man c) h.fr).mono fun e w' h2 => by
    obtain ⟨b, h3, h4, h5⟩ := h2
    have h6 := right_iff (h.man c).fs
    rw [hl] at h4 h6
    have : b = manOk l := by
      rw [Bool.eq_iff_iff, h4, h6]
    exact ⟨by rw [h3, this], h5⟩
end Go.Proofs.Ytgdnpmjmkcccoaa
namespace Go.Proofs.Ytgdnpmjmkcccoaa
open Go.RowKit Go.Shelf VB
open Go.Lib (hid)
set_option linter.unusedVariables false
set_option linter.unusedSimpArgs false
theorem RoL.keep {lo : Nat} {W W' : World} {x : RoA} (h : RoL lo W x) (hk : ∀ b t, Typed W b t → (t = 45 ∨ t = 3 ∨ t = 47) → W'.heap[b]? = W.heap[b]?) : RoL lo W' x :=
  ⟨h.fr.keep hk, h.en, h.ps, h.op⟩
theorem RoL.low {lo l2 : Nat} {W : World} {x : RoA} (h : RoL lo W x) (hl : l2 ≤ lo) : RoL l2 W x :=
  ⟨h.fr, fun ad e => Nat.le_trans hl (h.en ad e), fun y hy ad e => Nat.le_trans hl (h.ps y hy ad e), fun ad e => Nat.le_trans hl (h.op ad e)⟩
theorem RoL.below {lo : Nat} {W W' : World} {x : RoA} (h : RoL lo W x) (hb : Below W.heap.size W W') : RoL lo W' x := h.keep fun b t k _ => hb.block b k.lt
theorem RoL.but {lo g : Nat} {t : TypeId} {W W' : World} {x : RoA} (h : RoL lo W x) (k : But g W W') (ht : Typed W g t) (hne : t ≠ 45 ∧ t ≠ 3 ∧ t ≠ 47) : RoL lo W' x :=
  h.keep fun b t' hb htt => k.block b hb.lt (typed_ne hb ht (by rcases htt with rfl | rfl | rfl; exact hne.1.symm; exact hne.2.1.symm; exact hne.2.2.symm))
theorem RoL.grown {lo base n z : Nat} {e : TypeId} {v : Value} {l : List Value} {W W' : World} {x : RoA} (h : RoL lo W x) (ho : W.ownsRow base e z v n l) (hg : W.grownBy W' v.ownBlock) (hne : 45 ≠ e ∧ 3 ≠ e ∧ 47 ≠ e) : RoL lo W' x :=
  h.keep fun b t hb htt => hg.block b hb.lt (own_notE ho hb (by rcases htt with rfl | rfl | rfl; exact hne.1; exact hne.2.1; exact hne.2.2))
/-- what there is while a manifest is read -/
structure DT (w : World) (R E g : Nat) (B : Option Addr) (n c : Nat) (bs : List Nat) (W : World) (P : Option Addr) (k pf : Nat) (xs : List RoA) (z : Nat) (e : Int) : Prop where
  fr : Below w.heap.size w W
  kR : Blk W R 24 #[.slice none 0 0]
  kE : Blk W E 24 #[.slice P k pf]
  kt : Blk W g 92 (rdC B n c z e)
  hs : Src W B n c bs
  own : W.ownsRow w.heap.size 42 7 (.slice P k pf) k (xs.flatMap cellsR)
  rows : ∀ x ∈ xs, RoL w.heap.size W x
section
variable {w W W' : World} {R E g : Nat} {B : Option Addr} {n c : Nat} {bs : List Nat} {P : Option Addr} {k pf : Nat} {xs : List RoA} {z : Nat} {e : Int}
theorem DT.rd (h : DT w R E g B n c bs W P k pf xs z e) {z1 : Nat} {e1 : Int} (hb : But g W W') (q : Blk W' g 92 (rdC B n c z1 e1)) (hg : w.heap.size ≤ g) (n1 : R ≠ g) (n2 : E ≠ g) : DT w R E g B n c bs W' P k pf xs z1 e1 :=
  ⟨But.below h.fr hb hg h.fr.size, h.kR.but hb n1, h.kE.but hb n2, q, h.hs.butS hb h.kt.typed, own_but h.own hb h.kt.typed (by decide), fun x hx => (h.rows x hx).but hb h.kt.typed (by decide)⟩
theorem DT.below (h : DT w R E g B n c bs W P k pf xs z e) (hb : Below W.heap.size W W') : DT w R E g B n c bs W' P k pf xs z e :=
  ⟨h.fr.trans (hb.mono h.fr.size), h.kR.under hb, h.kE.under hb, h.kt.under hb, h.hs.below hb, own_below h.own hb, fun x hx => (h.rows x hx).below hb⟩
end
def RetDec22 (bs : List Nat) (w : World) (d : Ending) (w' : World) : Prop :=
  (∃ x : Int, decM bs = .error x ∧ d = .returned (.tuple #[.agg #[.slice none 0 0], .int .i64 x]) ∧ Below w.heap.size w w') ∨
  (∃ (xs : List RoA) (k : Nat) (C : Option Addr) (f : Nat), decM bs = .ok (xs.map RoA.d) ∧ d = .returned (.tuple #[.agg #[.slice C k f], .int .i64 0]) ∧ Below w.heap.size w w' ∧ MH w' C k xs ∧ (∀ x ∈ xs, RoL w.heap.size w' x) ∧ (∀ ad, C = some ad → w.heap.size ≤ ad.block))
theorem dec_res {bs : List Nat} {v z1 z2 : Nat} {e1 e2 e3 : Int} {xs : List RoA} {q : Bool} (h1 : Res 0 (plainS bs 8 0) (fun d => ((v : Nat) : Int) = (d : Nat)) z1 e1) (h2 : Res e1 (sevS (fRow bs) v () z1) (fun q => q = (xs.map RoA.d, ())) z2 e2) (hq : q = (decide (z2 = bs.length) && manOk (xs.map RoA.d))) (h3 : e3 = (if e2 = 0 ∧ q = false then 7 else e2)) :
    (e3 = 0 → decM bs = .ok (xs.map RoA.d)) ∧ (e3 ≠ 0 → decM bs = .error e3) := by
  have h4 : Res 0 (rdM1 bs) (fun q => q = (xs.map RoA.d, ())) z2 e2 := Res.bind h1 h2 (by
    intro d _ _ hd
    rw [show v = d by omega])
  unfold decM
  rcases h4 with ⟨_, h5, d, h6, rfl⟩ | ⟨h5, h6, _⟩
  · rw [h6]
    simp only
    cases q with
    | true =>
      have hq2 := hq.symm
      rw [Bool.and_eq_true, decide_eq_true_eq] at hq2
      rw [if_neg (by simp)] at h3
      rw [if_pos hq2]
      exact ⟨fun _ => rfl, fun h => absurd (h3.trans h5) h⟩
    | false =>
      rw [if_pos ⟨h5, rfl⟩] at h3
      rw [if_neg (fun h => by rw [h.2, decide_eq_true h.1] at hq; cases hq)]
      exact ⟨fun h => (by rw [h] at h3; cases h3), fun _ => (by rw [h3])⟩
  · rw [if_neg (fun h => h5 h.1)] at h3
    subst h3
    rw [h6 rfl]
    exact ⟨fun h => absurd h h5, fun _ => rfl⟩
set_option maxRecDepth 100000 in
set_option maxHeartbeats 16000000 in
theorem Decode22_d {w : World} {C : Option Addr} {n c : Nat} {bs : List Nat} (hs : Src w C n c bs) :
    Calls Try.prog 21 #[.slice C n c] w (RetDec22 bs w) := by
  obtain ⟨iR, hi0, hz0, hz1, hz2⟩ := info_parts3 row_info
  have HIR := hid (And.intro hi0 (And.intro hz0 (And.intro hz1 hz2)))
  clear hi0 hz0 hz1 hz2
  obtain ⟨R, hR⟩ : ∃ R, R = w.heap.size := ⟨_, rfl⟩
  obtain ⟨g, hg⟩ : ∃ g, g = w.heap.size + 1 := ⟨_, rfl⟩
  obtain ⟨E, hE⟩ : ∃ E, E = w.heap.size + 1 + 1 := ⟨_, rfl⟩
  obtain ⟨w1, hw1⟩ : ∃ w1, w1 = ((w.alloc (.cells #[.slice none 0 0] 24)).alloc (.cells #[.slice C n c, .int .i64 0, .int .i64 0] 92)).alloc (.cells #[.slice none 0 0] 24) := ⟨_, rfl⟩
  have hB : Below w.heap.size w w1 := by rw [hw1]; exact (((Below.refl _ _).alloc (Nat.le_refl _) _).alloc (by simp) _).alloc (by simp; omega) _
  have HD1 := hid (show DT w R E g C n c bs w1 none 0 0 [] 0 0 from ⟨hB, by rw [hw1, hR]; exact ((Blk.new _ _ _).alloc _).alloc _, by rw [hw1, hE]; exact Blk.new_at _ _ _ (by simp), by rw [hw1, hg]; exact (Blk.new_at _ _ _ (by simp)).alloc _, hs.below hB, ⟨by simp, .inl ⟨rfl, rfl⟩⟩, fun x hx => absurd hx (by simp)⟩)
  have HN := hid (show w.heap.size ≤ g ∧ R ≠ g ∧ E ≠ g ∧ w.heap.size ≤ R ∧ w.heap.size ≤ E ∧ R ≠ E by omega)
  have HP := hid (plainR (most := 8) HD1.out.kt HD1.out.hs (by decide))
  clear hs hB
  go_enter Try.func21, Try.ntmps21
  go_upto_region 3 with fail
  rw [← hw1, ← hE, ← hg]
  try rw [← hR]
  clear hw1 hE hg hR
  go_wp2_with fail
  refine HP.out.mono ?_
  rintro d w2 ⟨v, z1, e1, rfl, hb1, k1, r1, m1, q1⟩
  have HD2 := hid (HD1.out.rd hb1 k1 HN.out.1 HN.out.2.1 HN.out.2.2.1)
  have HR1 := hid r1
  have HS0 := hid (SevI.start (f := fRow bs) (L := bs.length) (m := v) (s0 := ()) (z0 := z1) (e0 := e1) q1)
  clear hb1 k1 r1 q1 HP HD1
  go_wp2_with fail
  go_loopw [7] (fun u7 wr => ∃ (i : Nat) (P : Option Addr) (pf : Nat) (xs : List RoA) (z2 : Nat) (e2 : Int), i ≤ v ∧ u7 = .int .i64 (i : Nat) ∧ i = xs.length ∧ Hid (DT w R E g C n c bs wr P i pf xs z2 e2) ∧ Hid (SevI (fRow bs) bs.length v () z1 e1 i () (xs.map RoA.d) z2 e2)) (fun u7 _ => v - (intOf u7).toNat)
  case atStart => exact ⟨0, none, 0, [], z1, e1, Nat.zero_le _, rfl, rfl, HD2, HS0⟩
  case round =>
    obtain ⟨i, P, pf, xs, z2, e2, hi, rfl, hxl, hst, hsv⟩ := hrel
    have HXL := hid hxl
    clear HD2 HS0 hxl
    have c3 : wr.cell? ⟨g, 2, none⟩ = some (.int .i64 e2) := hst.out.kt.cell 2
    by_cases hlt : i < v
    · by_cases he : e2 = 0
      · subst he
        have HRW := hid (rowRd hst.out.kt.drew hst.out.hs.drew (fun _ => (hsv.out.ok rfl).2.2.2))
        have hltI : (i : Int) < (v : Int) := by omega
        go_upto_region 7 with fail
        refine wp_region_noPanic ?_
        refine AnyTill.begin (S := fun W => W.cell? ⟨E, 0, none⟩ = some (.slice P i pf)) (t := 7) (by kernel_rfl) (hst.out.kE.drew.cell 0) (fun hHeld => ?_)
        clear c3
        refine AnyTill.take (i := 0) (v := ?_) rfl (by kernel_rfl) (by kernel_rfl) (by kernel_rfl) (by kernel_rfl) (by kernel_rfl) (fun _ _ _ h => h) (Or.inl ⟨by rfl, ?_⟩) (by assumption) ?_
        rotate_left
        · intro W hW
          go_simp
          try rfl
        simp only [List.getElem_toArray, List.getElem_cons_zero, Act.put, List.setIfInBounds_toArray, List.set_cons_zero, List.set_cons_succ]
        refine AnyTill.take (i := 1) (v := ?_) rfl (by kernel_rfl) (by kernel_rfl) (by kernel_rfl) (by kernel_rfl) (by kernel_rfl) (fun _ _ _ h => h) (Or.inl ⟨by rfl, ?_⟩) (by assumption) ?_
        rotate_left
        · intro W hW
          go_simp
          try rfl
        simp only [List.getElem_toArray, List.getElem_cons_succ, List.getElem_cons_zero, Act.put, List.setIfInBounds_toArray, List.set_cons_zero, List.set_cons_succ]
        refine AnyTill.take (i := 2) (v := ?_) rfl (by kernel_rfl) (by kernel_rfl) (by kernel_rfl) (by kernel_rfl) (by kernel_rfl) (fun _ _ _ h => h) (Or.inl ⟨by rfl, ?_⟩) (by assumption) ?_
        rotate_left
        · intro W hW
          go_simp
          try rfl
        simp only [List.getElem_toArray, List.getElem_cons_succ, List.getElem_cons_zero, Act.put, List.setIfInBounds_toArray, List.set_cons_zero, List.set_cons_succ]
        refine AnyTill.one (j := 3) (by kernel_rfl) rfl (fun K hK => ?_)
        go_simp
        refine HRW.out.mono ?_
        rintro d w10 ⟨x, z3, e3, rfl, hb, k, r3, q3, hrl⟩
        refine hK.out _ _ (fun _ => (hst.out.kE.drew.but hb HN.out.2.2.1).cell 0) ?_
        clear hK K
        try simp only [List.getElem_toArray, List.getElem_cons_succ, List.getElem_cons_zero, Act.put, List.setIfInBounds_toArray, List.set_cons_zero, List.set_cons_succ]
        have HD3 := hid ((hst.out.below ((Below.refl _ _).drew)).rd hb k HN.out.1 HN.out.2.1 HN.out.2.2.1)
        have HRL := hid (hrl.low (l2 := w.heap.size) hst.out.fr.size)
        have HSV2 := hid (show SevI (fRow bs) bs.length v () z1 e1 (i + 1) () ((xs ++ [x]).map RoA.d) z3 e3 by rw [List.map_append]; exact hsv.out.step hlt r3 q3)
        have HNR := hid (new_reads w10 42 7 (cellsR x) rfl)
        have HDA := hid (HD3.out.below ((Below.refl _ _).alloc (Nat.le_refl _) (.cells (aR x.nm x.ep x.fl x.la x.sc (.slice x.ea x.en.length x.ec) (.slice x.oa x.op.length x.oc)) 42)))
        have HRA := hid (HRL.out.below ((Below.refl _ _).alloc (Nat.le_refl _) (.cells (aR x.nm x.ep x.fl x.la x.sc (.slice x.ea x.en.length x.ec) (.slice x.oa x.op.length x.oc)) 42)))
        have hsz : w.heap.size ≤ w10.heap.size := HD3.out.fr.size
        have HPL2 := hid (show i + 1 = (xs ++ [x]).length by rw [List.length_append, ← HXL.out]; rfl)
        clear hb k r3 q3 hrl HRW hHeld hst hsv HD3 HRL
        refine AnyTill.one (j := 4) (by kernel_rfl) rfl (fun K hK => ?_)
        go_simp
        refine hK.out _ _ (fun _ => HDA.out.kE.cell 0) ?_
        clear hK K
        try simp only [List.getElem_toArray, List.getElem_cons_succ, List.getElem_cons_zero, Act.put, List.setIfInBounds_toArray, List.set_cons_zero, List.set_cons_succ]
        refine AnyTill.one (j := 5) (by kernel_rfl) rfl (fun K hK => ?_)
        rw [if_pos (by rfl)]
        refine wp_append_any _ (.tmp 26) (.tmp 29) 22 rfl w.heap.size 42 iR (.agg zRow) 7 96 Try.underlying22 HIR.out.1 HIR.out.2.1 HIR.out.2.2.1 HIR.out.2.2.2 rfl (by decide) _ i (xs.flatMap cellsR) rfl HDA.out.own (some ⟨w10.heap.size, 0, none⟩) 1 1 (cellsR x) rfl HNR.out (cellsR_one x) (by simp only [maxLen]; omega) (by omega) (by simp; omega) ?_
        intro v' w11 hown' hgr' hv'
        obtain ⟨P2, pf2, hvf, _, _⟩ := own_form hown'
        subst hvf
        have HK5 := hid (HDA.out.kE.grownE HDA.out.own hgr' (by decide))
        refine hK.out _ _ (fun _ => HK5.out.cell 0) ?_
        clear hK K
        try simp only [List.getElem_toArray, List.getElem_cons_succ, List.getElem_cons_zero, Act.put, List.setIfInBounds_toArray, List.set_cons_zero, List.set_cons_succ]
        have x6 : w11.cell? ⟨E, 0, none⟩ = some (.slice P i pf) := HK5.out.cell 0
        have y6 : w11.frozen? ⟨E, 0, none⟩ = false := HK5.out.frozen 0
        have z6 := HK5.out.lt
        refine AnyTill.take (i := 6) (v := ?_) rfl (by kernel_rfl) (by kernel_rfl) (by kernel_rfl) (by kernel_rfl) (by kernel_rfl) (fun _ _ _ h => h) (Or.inl ⟨by rfl, ?_⟩) (by assumption) ?_
        rotate_left
        · intro W hW
          go_simp
          try rfl
        simp only [List.getElem_toArray, List.getElem_cons_succ, List.getElem_cons_zero, Act.put, List.setIfInBounds_toArray, List.set_cons_zero, List.set_cons_succ]
        have HD6 := hid (show DT w R E g C n c bs (w11.setCell ⟨E, 0, none⟩ (.slice P2 (i + 1) pf2)) P2 (i + 1) pf2 (xs ++ [x]) z3 e3 from
          ⟨(HDA.out.fr.grown hgr' (by have := HDA.out.fr.size; omega) (fun q hq => (HDA.out.own.lt q hq).1)).setCell (p := ⟨E, 0, none⟩) HN.out.2.2.2.2.1 _,
           (HDA.out.kR.grownE HDA.out.own hgr' (by decide)).far (by simpa using HN.out.2.2.2.2.2) _, HK5.out.set_ 0 _, (HDA.out.kt.grownE HDA.out.own hgr' (by decide)).far (by simpa using Ne.symm HN.out.2.2.1) _,
           ⟨(HDA.out.hs.grown HDA.out.own hgr' (by decide)).reads.setCell (p := ⟨E, 0, none⟩) HK5.out.typed (by decide) _, HDA.out.hs.hn, HDA.out.hs.hc, HDA.out.hs.hcm, HDA.out.hs.hbs⟩, by
             rw [List.flatMap_append, List.flatMap_cons, List.flatMap_nil, List.append_nil]
             exact own_but hown' ((But.refl E w11).setg 0 _) HK5.out.typed (by decide), by
             intro y hy
             rcases List.mem_append.1 hy with hy | hy
             · exact ((HDA.out.rows y hy).grown HDA.out.own hgr' (by decide)).but ((But.refl E w11).setg 0 _) HK5.out.typed (by decide)
             · rw [List.mem_singleton] at hy
               subst hy
               exact (HRA.out.grown HDA.out.own hgr' (by decide)).but ((But.refl E w11).setg 0 _) HK5.out.typed (by decide)⟩)
        clear hown' hgr' hv' HNR HDA HRA hsz
        refine AnyTill.one (j := 7) (by kernel_rfl) rfl (fun K hK => ?_)
        go_simp
        refine hK.out _ _ (fun h => by simp at h) ?_
        clear hK K
        try simp only [List.getElem_toArray, List.getElem_cons_succ, List.getElem_cons_zero, Act.put, List.setIfInBounds_toArray, List.set_cons_zero, List.set_cons_succ]
        refine AnyTill.done (by kernel_rfl) ?_ _
        refine NoPanic.normal ?_
        clear x6 y6 z6 HK5
        go_wp2_with fail
        go_roundw
        case rel => exact ⟨i + 1, P2, pf2, xs ++ [x], z3, e3, by omega, by go_num, HPL2.out, HD6, HSV2⟩
        case measure => simp [intOf]; omega
      · have t : (e2 == 0) = false := by simp [he]
        have hltI : (i : Int) < (v : Int) := by omega
        have hEX : e2 = 0 → v ≤ i := fun h => absurd h he
        clear he
        have HQ := hid (fun q e3 hq h3 => dec_res (q := q) (e3 := e3) HR1.out (SevI.fin hsv.out hEX) hq h3)
        have hib : i ≤ 8 := by omega
        have c2 : wr.cell? ⟨g, 1, none⟩ = some (.int .i64 (z2 : Nat)) := hst.out.kt.cell 1
        have HMH := hid (show MH wr P i xs from ⟨Reads.of_own hst.out.own, fun x hx => (hst.out.rows x hx).fr, by omega⟩)
        have HRG := hid (right_h P i pf xs wr HMH.out rfl)
        have m0 : wr.cell? ⟨E, 0, none⟩ = some (.slice P i pf) := hst.out.kE.cell 0
        have hbl : bs.length = n := hst.out.hs.len
        have hzI : ∀ b : Bool, ((z2 : Int) == (n : Int)) = b ↔ decide (z2 = bs.length) = b := by
          intro b
          rw [hbl]
          by_cases h : z2 = n
          · rw [h]; simp
          · rw [decide_eq_false h, show ((z2 : Int) == (n : Int)) = false by simp; omega]
        have HZI := hid hzI
        clear hzI hsv
        obtain ⟨q0, hq0⟩ : ∃ q0, q0 = decide (z2 = bs.length) := ⟨_, rfl⟩
        have hz0 : ((z2 : Int) == (n : Int)) = q0 := (HZI.out q0).2 hq0.symm
        have HQ0 := hid hq0
        clear hq0 HZI
        cases q0 with
        | false =>
          have HND := hid (needd false hst.out.kt)
          obtain ⟨e3, he3⟩ : ∃ e3, e3 = (if e2 = 0 ∧ (false : Bool) = false then 7 else e2) := ⟨_, rfl⟩
          rw [← he3] at HND
          have HE3 := hid (HQ.out false e3 (by rw [← HQ0.out]; rfl) he3)
          have HNE := hid (show e3 ≠ 0 by rw [he3]; by_cases h : e2 = 0 <;> simp [h])
          clear he3
          go_wp2_with fail
          refine HND.out.mono ?_
          rintro d w8 ⟨rfl, hb, k⟩
          have HD8 := hid (hst.out.rd hb k HN.out.1 HN.out.2.1 HN.out.2.2.1)
          clear hb k m0 c2 c3 hst HMH HRG
          have t : (e3 == 0) = false := by simp [HNE.out]
          have t2 : (e3 != 0) = true := by simp [HNE.out]
          have c5 : w8.cell? ⟨g, 2, none⟩ = some (.int .i64 e3) := HD8.out.kt.cell 2
          have r8 : w8.cell? ⟨R, 0, none⟩ = some (.slice none 0 0) := HD8.out.kR.cell 0
          have f8 : w8.frozen? ⟨R, 0, none⟩ = false := HD8.out.kR.frozen 0
          have l8 := HD8.out.kR.lt
          have HFIN := hid (show RetDec22 bs w (.returned (.tuple #[.agg #[.slice none 0 0], .int .i64 e3])) (w8.setCell ⟨R, 0, none⟩ (.slice none 0 0)).drew from
            .inl ⟨e3, HE3.out.2 HNE.out, rfl, (HD8.out.fr.setCell (p := ⟨R, 0, none⟩) HN.out.2.2.2.1 _).drew⟩)
          have x1 : (w8.setCell ⟨R, 0, none⟩ (.slice none 0 0)).drew.cell? ⟨g, 2, none⟩ = some (.int .i64 e3) := (HD8.out.kt.far (p := ⟨R, 0, none⟩) (by simpa using Ne.symm HN.out.2.1) _).cell 2
          have d0 : (w8.setCell ⟨R, 0, none⟩ (.slice none 0 0)).drew.cell? ⟨R, 0, none⟩ = some (.slice none 0 0) := (HD8.out.kR.set_ 0 (.slice none 0 0)).cell 0
          clear HD8 HE3 HND HQ
          go_upto_region 10 with fail
          refine wp_region_noPanic ?_
          refine wp_region_held_drew (S := fun W => W.cell? ⟨g, 2, none⟩ = some (.int .i64 e3)) (by kernel_rfl) c5 (fun hHeld => ?_)
          refine wpAnyH_take (i := 0) (v := ?_) rfl (by kernel_rfl) (by kernel_rfl) (by kernel_rfl) (fun _ _ _ h => h) (Or.inl ⟨by rfl, ?_⟩) (by assumption) ?_
          rotate_left
          · intro W hW
            go_simp
            try rfl
          simp only [List.getElem_toArray, List.getElem_cons_zero, Act.put, List.setIfInBounds_toArray, List.set_cons_zero, List.set_cons_succ]
          refine wpAnyH_take (i := 1) (v := ?_) rfl (by kernel_rfl) (by kernel_rfl) (by kernel_rfl) (fun _ _ _ h => h) (Or.inl ⟨by rfl, ?_⟩) (by assumption) ?_
          rotate_left
          · intro W hW
            go_simp
            try rfl
          simp only [List.getElem_toArray, List.getElem_cons_succ, List.getElem_cons_zero, Act.put, List.setIfInBounds_toArray, List.set_cons_zero, List.set_cons_succ]
          refine wpAnyH_take (i := 2) (v := ?_) rfl (by kernel_rfl) (by kernel_rfl) (by kernel_rfl) (fun _ _ _ h => h) (Or.inl ⟨by rfl, ?_⟩) (by assumption) ?_
          rotate_left
          · intro W hW
            go_simp
            try rfl
          simp only [List.getElem_toArray, List.getElem_cons_succ, List.getElem_cons_zero, Act.put, List.setIfInBounds_toArray, List.set_cons_zero, List.set_cons_succ]
          refine wpAnyH_take (i := 3) (v := ?_) rfl (by kernel_rfl) (by kernel_rfl) (by kernel_rfl) (fun _ _ _ h => h) (Or.inl ⟨by rfl, ?_⟩) (by assumption) ?_
          rotate_left
          · intro W hW
            go_simp
            try rfl
          simp only [List.getElem_toArray, List.getElem_cons_succ, List.getElem_cons_zero, Act.put, List.setIfInBounds_toArray, List.set_cons_zero, List.set_cons_succ]
          refine wpAnyH_take (i := 4) (v := ?_) rfl (by kernel_rfl) (by kernel_rfl) (by kernel_rfl) (fun _ _ _ h => h) (Or.inl ⟨by rfl, ?_⟩) (by assumption) ?_
          rotate_left
          · intro W hW
            go_simp
            try rfl
          simp only [List.getElem_toArray, List.getElem_cons_succ, List.getElem_cons_zero, Act.put, List.setIfInBounds_toArray, List.set_cons_zero, List.set_cons_succ]
          refine wpAnyH_ready (rs := [5]) (by kernel_rfl) (by simp) ?_
          refine AllReadyH.cons rfl (fun K hK => ?_) AllReadyH.nil
          go_simp
          refine hK.out _ _ x1 (fun hHeld => ?_)
          clear hK K
          try simp only [List.getElem_toArray, List.getElem_cons_succ, List.getElem_cons_zero, Act.put, List.setIfInBounds_toArray, List.set_cons_zero, List.set_cons_succ]
          refine wpAnyH_take (i := 6) (v := ?_) rfl (by kernel_rfl) (by kernel_rfl) (by kernel_rfl) (fun _ _ _ h => h) (Or.inl ⟨by rfl, ?_⟩) (by assumption) ?_
          rotate_left
          · intro W hW
            go_simp
            try rfl
          simp only [List.getElem_toArray, List.getElem_cons_succ, List.getElem_cons_zero, Act.put, List.setIfInBounds_toArray, List.set_cons_zero, List.set_cons_succ]
          refine wpAnyH_done (by kernel_rfl) ?_ _
          refine NoPanic.normal ?_
          go_wp2_with fail
          refine bodyPost_ret (v := .tuple #[.agg #[.slice none 0 0], .int .i64 e3]) ?_ rfl HFIN.out
          simp [results, Try.results21, go_sem, d0]
        | true =>
          go_wp2_with fail
          refine HRG.out.mono ?_
          rintro d w7 ⟨rfl, hb7⟩
          have HD7 := hid (hst.out.below hb7)
          have HM7 := hid (HMH.out.below hb7)
          obtain ⟨q1, hq1⟩ : ∃ q1, q1 = manOk (xs.map RoA.d) := ⟨_, rfl⟩
          rw [← hq1]
          have HND := hid (needd q1 HD7.out.kt)
          obtain ⟨e3, he3⟩ : ∃ e3, e3 = (if e2 = 0 ∧ q1 = false then 7 else e2) := ⟨_, rfl⟩
          rw [← he3] at HND
          have HE3 := hid (HQ.out q1 e3 (by rw [← HQ0.out, hq1, Bool.true_and]) he3)
          clear he3 hq1 hb7 m0 c2 c3 hst HMH HRG
          go_wp2_with fail
          refine HND.out.mono ?_
          rintro d w8 ⟨rfl, hb, k⟩
          have HD8 := hid (HD7.out.rd hb k HN.out.1 HN.out.2.1 HN.out.2.2.1)
          clear hb k HD7 HM7
          by_cases he3 : e3 = 0
          · subst he3
            have c5 : w8.cell? ⟨g, 2, none⟩ = some (.int .i64 0) := HD8.out.kt.cell 2
            have m8 : w8.cell? ⟨E, 0, none⟩ = some (.slice P i pf) := HD8.out.kE.cell 0
            have r8 : w8.cell? ⟨R, 0, none⟩ = some (.slice none 0 0) := HD8.out.kR.cell 0
            have f8 : w8.frozen? ⟨R, 0, none⟩ = false := HD8.out.kR.frozen 0
            have l8 := HD8.out.kR.lt
            have HFIN := hid (show RetDec22 bs w (.returned (.tuple #[.agg #[.slice P i pf], .int .i64 0])) (w8.setCell ⟨R, 0, none⟩ (.slice P i pf)) from
              .inr ⟨xs, i, P, pf, HE3.out.1 (by trivial), rfl, HD8.out.fr.setCell (p := ⟨R, 0, none⟩) HN.out.2.2.2.1 _,
                ⟨Reads.of_own (own_but HD8.out.own ((But.refl R w8).setg 0 _) HD8.out.kR.typed (by decide)), fun y hy => ((HD8.out.rows y hy).but ((But.refl R w8).setg 0 _) HD8.out.kR.typed (by decide)).fr, by omega⟩,
                fun y hy => (HD8.out.rows y hy).but ((But.refl R w8).setg 0 _) HD8.out.kR.typed (by decide), own_lo HD8.out.own⟩)
            have d0 : (w8.setCell ⟨R, 0, none⟩ (.slice P i pf)).cell? ⟨R, 0, none⟩ = some (.slice P i pf) := (HD8.out.kR.set_ 0 (.slice P i pf)).cell 0
            clear HD8 HE3 HND HQ
            go_wp2_with fail
            refine bodyPost_ret (v := .tuple #[.agg #[.slice P i pf], .int .i64 0]) ?_ rfl HFIN.out
            simp [results, Try.results21, go_sem, d0]
          · have HNE := hid he3
            clear he3
            have t : (e3 == 0) = false := by simp [HNE.out]
            have t2 : (e3 != 0) = true := by simp [HNE.out]
            have c5 : w8.cell? ⟨g, 2, none⟩ = some (.int .i64 e3) := HD8.out.kt.cell 2
            have r8 : w8.cell? ⟨R, 0, none⟩ = some (.slice none 0 0) := HD8.out.kR.cell 0
            have f8 : w8.frozen? ⟨R, 0, none⟩ = false := HD8.out.kR.frozen 0
            have l8 := HD8.out.kR.lt
            have HFIN := hid (show RetDec22 bs w (.returned (.tuple #[.agg #[.slice none 0 0], .int .i64 e3])) (w8.setCell ⟨R, 0, none⟩ (.slice none 0 0)).drew from
              .inl ⟨e3, HE3.out.2 HNE.out, rfl, (HD8.out.fr.setCell (p := ⟨R, 0, none⟩) HN.out.2.2.2.1 _).drew⟩)
            have x1 : (w8.setCell ⟨R, 0, none⟩ (.slice none 0 0)).drew.cell? ⟨g, 2, none⟩ = some (.int .i64 e3) := (HD8.out.kt.far (p := ⟨R, 0, none⟩) (by simpa using Ne.symm HN.out.2.1) _).cell 2
            have d0 : (w8.setCell ⟨R, 0, none⟩ (.slice none 0 0)).drew.cell? ⟨R, 0, none⟩ = some (.slice none 0 0) := (HD8.out.kR.set_ 0 (.slice none 0 0)).cell 0
            clear HD8 HE3 HND HQ
            go_upto_region 10 with fail
            refine wp_region_noPanic ?_
            refine wp_region_held_drew (S := fun W => W.cell? ⟨g, 2, none⟩ = some (.int .i64 e3)) (by kernel_rfl) c5 (fun hHeld => ?_)
            refine wpAnyH_take (i := 0) (v := ?_) rfl (by kernel_rfl) (by kernel_rfl) (by kernel_rfl) (fun _ _ _ h => h) (Or.inl ⟨by rfl, ?_⟩) (by assumption) ?_
            rotate_left
            · intro W hW
              go_simp
              try rfl
            simp only [List.getElem_toArray, List.getElem_cons_zero, Act.put, List.setIfInBounds_toArray, List.set_cons_zero, List.set_cons_succ]
            refine wpAnyH_take (i := 1) (v := ?_) rfl (by kernel_rfl) (by kernel_rfl) (by kernel_rfl) (fun _ _ _ h => h) (Or.inl ⟨by rfl, ?_⟩) (by assumption) ?_
            rotate_left
            · intro W hW
              go_simp
              try rfl
            simp only [List.getElem_toArray, List.getElem_cons_succ, List.getElem_cons_zero, Act.put, List.setIfInBounds_toArray, List.set_cons_zero, List.set_cons_succ]
            refine wpAnyH_take (i := 2) (v := ?_) rfl (by kernel_rfl) (by kernel_rfl) (by kernel_rfl) (fun _ _ _ h => h) (Or.inl ⟨by rfl, ?_⟩) (by assumption) ?_
            rotate_left
            · intro W hW
              go_simp
              try rfl
            simp only [List.getElem_toArray, List.getElem_cons_succ, List.getElem_cons_zero, Act.put, List.setIfInBounds_toArray, List.set_cons_zero, List.set_cons_succ]
            refine wpAnyH_take (i := 3) (v := ?_) rfl (by kernel_rfl) (by kernel_rfl) (by kernel_rfl) (fun _ _ _ h => h) (Or.inl ⟨by rfl, ?_⟩) (by assumption) ?_
            rotate_left
            · intro W hW
              go_simp
              try rfl
            simp only [List.getElem_toArray, List.getElem_cons_succ, List.getElem_cons_zero, Act.put, List.setIfInBounds_toArray, List.set_cons_zero, List.set_cons_succ]
            refine wpAnyH_take (i := 4) (v := ?_) rfl (by kernel_rfl) (by kernel_rfl) (by kernel_rfl) (fun _ _ _ h => h) (Or.inl ⟨by rfl, ?_⟩) (by assumption) ?_
            rotate_left
            · intro W hW
              go_simp
              try rfl
            simp only [List.getElem_toArray, List.getElem_cons_succ, List.getElem_cons_zero, Act.put, List.setIfInBounds_toArray, List.set_cons_zero, List.set_cons_succ]
            refine wpAnyH_ready (rs := [5]) (by kernel_rfl) (by simp) ?_
            refine AllReadyH.cons rfl (fun K hK => ?_) AllReadyH.nil
            go_simp
            refine hK.out _ _ x1 (fun hHeld => ?_)
            clear hK K
            try simp only [List.getElem_toArray, List.getElem_cons_succ, List.getElem_cons_zero, Act.put, List.setIfInBounds_toArray, List.set_cons_zero, List.set_cons_succ]
            refine wpAnyH_take (i := 6) (v := ?_) rfl (by kernel_rfl) (by kernel_rfl) (by kernel_rfl) (fun _ _ _ h => h) (Or.inl ⟨by rfl, ?_⟩) (by assumption) ?_
            rotate_left
            · intro W hW
              go_simp
              try rfl
            simp only [List.getElem_toArray, List.getElem_cons_succ, List.getElem_cons_zero, Act.put, List.setIfInBounds_toArray, List.set_cons_zero, List.set_cons_succ]
            refine wpAnyH_done (by kernel_rfl) ?_ _
            refine NoPanic.normal ?_
            go_wp2_with fail
            refine bodyPost_ret (v := .tuple #[.agg #[.slice none 0 0], .int .i64 e3]) ?_ rfl HFIN.out
            simp [results, Try.results21, go_sem, d0]
    · have hltI : (v : Int) ≤ (i : Int) := by omega
      have hEX : e2 = 0 → v ≤ i := fun _ => by omega
      have HQ := hid (fun q e3 hq h3 => dec_res (q := q) (e3 := e3) HR1.out (SevI.fin hsv.out hEX) hq h3)
      have hib : i ≤ 8 := by omega
      have c2 : wr.cell? ⟨g, 1, none⟩ = some (.int .i64 (z2 : Nat)) := hst.out.kt.cell 1
      have HMH := hid (show MH wr P i xs from ⟨Reads.of_own hst.out.own, fun x hx => (hst.out.rows x hx).fr, by omega⟩)
      have HRG := hid (right_h P i pf xs wr HMH.out rfl)
      have m0 : wr.cell? ⟨E, 0, none⟩ = some (.slice P i pf) := hst.out.kE.cell 0
      have hbl : bs.length = n := hst.out.hs.len
      have hzI : ∀ b : Bool, ((z2 : Int) == (n : Int)) = b ↔ decide (z2 = bs.length) = b := by
        intro b
        rw [hbl]
        by_cases h : z2 = n
        · rw [h]; simp
        · rw [decide_eq_false h, show ((z2 : Int) == (n : Int)) = false by simp; omega]
      have HZI := hid hzI
      clear hzI hsv
      obtain ⟨q0, hq0⟩ : ∃ q0, q0 = decide (z2 = bs.length) := ⟨_, rfl⟩
      have hz0 : ((z2 : Int) == (n : Int)) = q0 := (HZI.out q0).2 hq0.symm
      have HQ0 := hid hq0
      clear hq0 HZI
      cases q0 with
      | false =>
        have HND := hid (needd false hst.out.kt)
        obtain ⟨e3, he3⟩ : ∃ e3, e3 = (if e2 = 0 ∧ (false : Bool) = false then 7 else e2) := ⟨_, rfl⟩
        rw [← he3] at HND
        have HE3 := hid (HQ.out false e3 (by rw [← HQ0.out]; rfl) he3)
        have HNE := hid (show e3 ≠ 0 by rw [he3]; by_cases h : e2 = 0 <;> simp [h])
        clear he3
        go_wp2_with fail
        refine HND.out.mono ?_
        rintro d w8 ⟨rfl, hb, k⟩
        have HD8 := hid (hst.out.rd hb k HN.out.1 HN.out.2.1 HN.out.2.2.1)
        clear hb k m0 c2 c3 hst HMH HRG
        have t : (e3 == 0) = false := by simp [HNE.out]
        have t2 : (e3 != 0) = true := by simp [HNE.out]
        have c5 : w8.cell? ⟨g, 2, none⟩ = some (.int .i64 e3) := HD8.out.kt.cell 2
        have r8 : w8.cell? ⟨R, 0, none⟩ = some (.slice none 0 0) := HD8.out.kR.cell 0
        have f8 : w8.frozen? ⟨R, 0, none⟩ = false := HD8.out.kR.frozen 0
        have l8 := HD8.out.kR.lt
        have HFIN := hid (show RetDec22 bs w (.returned (.tuple #[.agg #[.slice none 0 0], .int .i64 e3])) (w8.setCell ⟨R, 0, none⟩ (.slice none 0 0)).drew from
          .inl ⟨e3, HE3.out.2 HNE.out, rfl, (HD8.out.fr.setCell (p := ⟨R, 0, none⟩) HN.out.2.2.2.1 _).drew⟩)
        have x1 : (w8.setCell ⟨R, 0, none⟩ (.slice none 0 0)).drew.cell? ⟨g, 2, none⟩ = some (.int .i64 e3) := (HD8.out.kt.far (p := ⟨R, 0, none⟩) (by simpa using Ne.symm HN.out.2.1) _).cell 2
        have d0 : (w8.setCell ⟨R, 0, none⟩ (.slice none 0 0)).drew.cell? ⟨R, 0, none⟩ = some (.slice none 0 0) := (HD8.out.kR.set_ 0 (.slice none 0 0)).cell 0
        clear HD8 HE3 HND HQ
        go_upto_region 10 with fail
        refine wp_region_noPanic ?_
        refine wp_region_held_drew (S := fun W => W.cell? ⟨g, 2, none⟩ = some (.int .i64 e3)) (by kernel_rfl) c5 (fun hHeld => ?_)
        refine wpAnyH_take (i := 0) (v := ?_) rfl (by kernel_rfl) (by kernel_rfl) (by kernel_rfl) (fun _ _ _ h => h) (Or.inl ⟨by rfl, ?_⟩) (by assumption) ?_
        rotate_left
        · intro W hW
          go_simp
          try rfl
        simp only [List.getElem_toArray, List.getElem_cons_zero, Act.put, List.setIfInBounds_toArray, List.set_cons_zero, List.set_cons_succ]
        refine wpAnyH_take (i := 1) (v := ?_) rfl (by kernel_rfl) (by kernel_rfl) (by kernel_rfl) (fun _ _ _ h => h) (Or.inl ⟨by rfl, ?_⟩) (by assumption) ?_
        rotate_left
        · intro W hW
          go_simp
          try rfl
        simp only [List.getElem_toArray, List.getElem_cons_succ, List.getElem_cons_zero, Act.put, List.setIfInBounds_toArray, List.set_cons_zero, List.set_cons_succ]
        refine wpAnyH_take (i := 2) (v := ?_) rfl (by kernel_rfl) (by kernel_rfl) (by kernel_rfl) (fun _ _ _ h => h) (Or.inl ⟨by rfl, ?_⟩) (by assumption) ?_
        rotate_left
        · intro W hW
          go_simp
          try rfl
        simp only [List.getElem_toArray, List.getElem_cons_succ, List.getElem_cons_zero, Act.put, List.setIfInBounds_toArray, List.set_cons_zero, List.set_cons_succ]
        refine wpAnyH_take (i := 3) (v := ?_) rfl (by kernel_rfl) (by kernel_rfl) (by kernel_rfl) (fun _ _ _ h => h) (Or.inl ⟨by rfl, ?_⟩) (by assumption) ?_
        rotate_left
        · intro W hW
          go_simp
          try rfl
        simp only [List.getElem_toArray, List.getElem_cons_succ, List.getElem_cons_zero, Act.put, List.setIfInBounds_toArray, List.set_cons_zero, List.set_cons_succ]
        refine wpAnyH_take (i := 4) (v := ?_) rfl (by kernel_rfl) (by kernel_rfl) (by kernel_rfl) (fun _ _ _ h => h) (Or.inl ⟨by rfl, ?_⟩) (by assumption) ?_
        rotate_left
        · intro W hW
          go_simp
          try rfl
        simp only [List.getElem_toArray, List.getElem_cons_succ, List.getElem_cons_zero, Act.put, List.setIfInBounds_toArray, List.set_cons_zero, List.set_cons_succ]
        refine wpAnyH_ready (rs := [5]) (by kernel_rfl) (by simp) ?_
        refine AllReadyH.cons rfl (fun K hK => ?_) AllReadyH.nil
        go_simp
        refine hK.out _ _ x1 (fun hHeld => ?_)
        clear hK K
        try simp only [List.getElem_toArray, List.getElem_cons_succ, List.getElem_cons_zero, Act.put, List.setIfInBounds_toArray, List.set_cons_zero, List.set_cons_succ]
        refine wpAnyH_take (i := 6) (v := ?_) rfl (by kernel_rfl) (by kernel_rfl) (by kernel_rfl) (fun _ _ _ h => h) (Or.inl ⟨by rfl, ?_⟩) (by assumption) ?_
        rotate_left
        · intro W hW
          go_simp
          try rfl
        simp only [List.getElem_toArray, List.getElem_cons_succ, List.getElem_cons_zero, Act.put, List.setIfInBounds_toArray, List.set_cons_zero, List.set_cons_succ]
        refine wpAnyH_done (by kernel_rfl) ?_ _
        refine NoPanic.normal ?_
        go_wp2_with fail
        refine bodyPost_ret (v := .tuple #[.agg #[.slice none 0 0], .int .i64 e3]) ?_ rfl HFIN.out
        simp [results, Try.results21, go_sem, d0]
      | true =>
        go_wp2_with fail
        refine HRG.out.mono ?_
        rintro d w7 ⟨rfl, hb7⟩
        have HD7 := hid (hst.out.below hb7)
        have HM7 := hid (HMH.out.below hb7)
        obtain ⟨q1, hq1⟩ : ∃ q1, q1 = manOk (xs.map RoA.d) := ⟨_, rfl⟩
        rw [← hq1]
        have HND := hid (needd q1 HD7.out.kt)
        obtain ⟨e3, he3⟩ : ∃ e3, e3 = (if e2 = 0 ∧ q1 = false then 7 else e2) := ⟨_, rfl⟩
        rw [← he3] at HND
        have HE3 := hid (HQ.out q1 e3 (by rw [← HQ0.out, hq1, Bool.true_and]) he3)
        clear he3 hq1 hb7 m0 c2 c3 hst HMH HRG
        go_wp2_with fail
        refine HND.out.mono ?_
        rintro d w8 ⟨rfl, hb, k⟩
        have HD8 := hid (HD7.out.rd hb k HN.out.1 HN.out.2.1 HN.out.2.2.1)
        clear hb k HD7 HM7
        by_cases he3 : e3 = 0
        · subst he3
          have c5 : w8.cell? ⟨g, 2, none⟩ = some (.int .i64 0) := HD8.out.kt.cell 2
          have m8 : w8.cell? ⟨E, 0, none⟩ = some (.slice P i pf) := HD8.out.kE.cell 0
          have r8 : w8.cell? ⟨R, 0, none⟩ = some (.slice none 0 0) := HD8.out.kR.cell 0
          have f8 : w8.frozen? ⟨R, 0, none⟩ = false := HD8.out.kR.frozen 0
          have l8 := HD8.out.kR.lt
          have HFIN := hid (show RetDec22 bs w (.returned (.tuple #[.agg #[.slice P i pf], .int .i64 0])) (w8.setCell ⟨R, 0, none⟩ (.slice P i pf)) from
            .inr ⟨xs, i, P, pf, HE3.out.1 (by trivial), rfl, HD8.out.fr.setCell (p := ⟨R, 0, none⟩) HN.out.2.2.2.1 _,
              ⟨Reads.of_own (own_but HD8.out.own ((But.refl R w8).setg 0 _) HD8.out.kR.typed (by decide)), fun y hy => ((HD8.out.rows y hy).but ((But.refl R w8).setg 0 _) HD8.out.kR.typed (by decide)).fr, by omega⟩,
              fun y hy => (HD8.out.rows y hy).but ((But.refl R w8).setg 0 _) HD8.out.kR.typed (by decide), own_lo HD8.out.own⟩)
          have d0 : (w8.setCell ⟨R, 0, none⟩ (.slice P i pf)).cell? ⟨R, 0, none⟩ = some (.slice P i pf) := (HD8.out.kR.set_ 0 (.slice P i pf)).cell 0
          clear HD8 HE3 HND HQ
          go_wp2_with fail
          refine bodyPost_ret (v := .tuple #[.agg #[.slice P i pf], .int .i64 0]) ?_ rfl HFIN.out
          simp [results, Try.results21, go_sem, d0]
        · have HNE := hid he3
          clear he3
          have t : (e3 == 0) = false := by simp [HNE.out]
          have t2 : (e3 != 0) = true := by simp [HNE.out]
          have c5 : w8.cell? ⟨g, 2, none⟩ = some (.int .i64 e3) := HD8.out.kt.cell 2
          have r8 : w8.cell? ⟨R, 0, none⟩ = some (.slice none 0 0) := HD8.out.kR.cell 0
          have f8 : w8.frozen? ⟨R, 0, none⟩ = false := HD8.out.kR.frozen 0
          have l8 := HD8.out.kR.lt
          have HFIN := hid (show RetDec22 bs w (.returned (.tuple #[.agg #[.slice none 0 0], .int .i64 e3])) (w8.setCell ⟨R, 0, none⟩ (.slice none 0 0)).drew from
            .inl ⟨e3, HE3.out.2 HNE.out, rfl, (HD8.out.fr.setCell (p := ⟨R, 0, none⟩) HN.out.2.2.2.1 _).drew⟩)
          have x1 : (w8.setCell ⟨R, 0, none⟩ (.slice none 0 0)).drew.cell? ⟨g, 2, none⟩ = some (.int .i64 e3) := (HD8.out.kt.far (p := ⟨R, 0, none⟩) (by simpa using Ne.symm HN.out.2.1) _).cell 2
          have d0 : (w8.setCell ⟨R, 0, none⟩ (.slice none 0 0)).drew.cell? ⟨R, 0, none⟩ = some (.slice none 0 0) := (HD8.out.kR.set_ 0 (.slice none 0 0)).cell 0
          clear HD8 HE3 HND HQ
          go_upto_region 10 with fail
          refine wp_region_noPanic ?_
          refine wp_region_held_drew (S := fun W => W.cell? ⟨g, 2, none⟩ = some (.int .i64 e3)) (by kernel_rfl) c5 (fun hHeld => ?_)
          refine wpAnyH_take (i := 0) (v := ?_) rfl (by kernel_rfl) (by kernel_rfl) (by kernel_rfl) (fun _ _ _ h => h) (Or.inl ⟨by rfl, ?_⟩) (by assumption) ?_
          rotate_left
          · intro W hW
            go_simp
            try rfl
          simp only [List.getElem_toArray, List.getElem_cons_zero, Act.put, List.setIfInBounds_toArray, List.set_cons_zero, List.set_cons_succ]
          refine wpAnyH_take (i := 1) (v := ?_) rfl (by kernel_rfl) (by kernel_rfl) (by kernel_rfl) (fun _ _ _ h => h) (Or.inl ⟨by rfl, ?_⟩) (by assumption) ?_
          rotate_left
          · intro W hW
            go_simp
            try rfl
          simp only [List.getElem_toArray, List.getElem_cons_succ, List.getElem_cons_zero, Act.put, List.setIfInBounds_toArray, List.set_cons_zero, List.set_cons_succ]
          refine wpAnyH_take (i := 2) (v := ?_) rfl (by kernel_rfl) (by kernel_rfl) (by kernel_rfl) (fun _ _ _ h => h) (Or.inl ⟨by rfl, ?_⟩) (by assumption) ?_
          rotate_left
          · intro W hW
            go_simp
            try rfl
          simp only [List.getElem_toArray, List.getElem_cons_succ, List.getElem_cons_zero, Act.put, List.setIfInBounds_toArray, List.set_cons_zero, List.set_cons_succ]
          refine wpAnyH_take (i := 3) (v := ?_) rfl (by kernel_rfl) (by kernel_rfl) (by kernel_rfl) (fun _ _ _ h => h) (Or.inl ⟨by rfl, ?_⟩) (by assumption) ?_
          rotate_left
          · intro W hW
            go_simp
            try rfl
          simp only [List.getElem_toArray, List.getElem_cons_succ, List.getElem_cons_zero, Act.put, List.setIfInBounds_toArray, List.set_cons_zero, List.set_cons_succ]
          refine wpAnyH_take (i := 4) (v := ?_) rfl (by kernel_rfl) (by kernel_rfl) (by kernel_rfl) (fun _ _ _ h => h) (Or.inl ⟨by rfl, ?_⟩) (by assumption) ?_
          rotate_left
          · intro W hW
            go_simp
            try rfl
          simp only [List.getElem_toArray, List.getElem_cons_succ, List.getElem_cons_zero, Act.put, List.setIfInBounds_toArray, List.set_cons_zero, List.set_cons_succ]
          refine wpAnyH_ready (rs := [5]) (by kernel_rfl) (by simp) ?_
          refine AllReadyH.cons rfl (fun K hK => ?_) AllReadyH.nil
          go_simp
          refine hK.out _ _ x1 (fun hHeld => ?_)
          clear hK K
          try simp only [List.getElem_toArray, List.getElem_cons_succ, List.getElem_cons_zero, Act.put, List.setIfInBounds_toArray, List.set_cons_zero, List.set_cons_succ]
          refine wpAnyH_take (i := 6) (v := ?_) rfl (by kernel_rfl) (by kernel_rfl) (by kernel_rfl) (fun _ _ _ h => h) (Or.inl ⟨by rfl, ?_⟩) (by assumption) ?_
          rotate_left
          · intro W hW
            go_simp
            try rfl
          simp only [List.getElem_toArray, List.getElem_cons_succ, List.getElem_cons_zero, Act.put, List.setIfInBounds_toArray, List.set_cons_zero, List.set_cons_succ]
          refine wpAnyH_done (by kernel_rfl) ?_ _
          refine NoPanic.normal ?_
          go_wp2_with fail
          refine bodyPost_ret (v := .tuple #[.agg #[.slice none 0 0], .int .i64 e3]) ?_ rfl HFIN.out
          simp [results, Try.results21, go_sem, d0]
end Go.Proofs.Ytgdnpmjmkcccoaa
