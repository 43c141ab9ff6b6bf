/- Manifest: the reader's pages, entries, points. -/
import Derived.Test.YtgdnpmjmkcccoaaManJ
namespace Go.Proofs.Ytgdnpmjmkcccoaa
open Go.RowKit Go.Shelf VB
open Go.Lib (hid)
set_option linter.unusedVariables false
set_option linter.unusedSimpArgs false
abbrev idI (v : Int) : Int := v
def bindE {α β : Type} (S : Except Int (α × Nat)) (F : α → Nat → Except Int (β × Nat)) : Except Int (β × Nat) :=
  match S with
  | .error x => .error x
  | .ok (d, z) => F d z
theorem Res.bind {α β : Type} {S : Except Int (α × Nat)} {F : α → Nat → Except Int (β × Nat)} {X : Except Int (β × Nat)} {R1 : α → Prop} {R2 : β → Prop} {e0 e1 e2 : Int} {z1 z2 : Nat} (h1 : Res e0 S R1 z1 e1) (h2 : Res e1 X R2 z2 e2) (hX : ∀ d, e1 = 0 → S = .ok (d, z1) → R1 d → X = F d z1) : Res e0 (bindE S F) R2 z2 e2 := by
  rcases h1 with ⟨h0, h1, d, h3, h4⟩ | ⟨h1, h3, h4⟩
  · have h5 := hX d h1 h3 h4
    subst h0 h1
    have h6 : bindE S F = F d z1 := by unfold bindE; rw [h3]
    rw [h6, ← h5]
    exact h2
  · rcases h2 with ⟨h5, _⟩ | ⟨h5, _, h6⟩
    · exact absurd h5 h1
    · have h7 := h6 h1
      subst h7
      exact .inr ⟨h1, fun h0 => by unfold bindE; rw [h3 h0], h4⟩
theorem Res.mapE {α β : Type} {S : Except Int (α × Nat)} {F : α → β} {R1 : α → Prop} {R2 : β → Prop} {e0 e1 : Int} {z1 : Nat} (h1 : Res e0 S R1 z1 e1) (hR : ∀ d, R1 d → R2 (F d)) : Res e0 (bindE S fun d z => .ok (F d, z)) R2 z1 e1 := by
  rcases h1 with ⟨h0, h1, d, h3, h4⟩ | ⟨h1, h3, h4⟩
  · exact .inl ⟨h0, h1, F d, by unfold bindE; rw [h3], hR d h4⟩
  · exact .inr ⟨h1, fun h0 => by unfold bindE; rw [h3 h0], h4⟩
/-- an entry, behind a time -/
def fEnt (bs : List Nat) (ah : Int) (z : Nat) : Except Int ((En × Int) × Nat) :=
  bindE (plainS bs 281474976710656 z) fun a z1 => bindE (plainS bs 281474976710656 z1) fun b z2 => bindE (plainS bs 256 z2) fun ct z3 => bindE (plainS bs 30720 z3) fun by_ z4 => bindE (sevS (fPg bs) ((by_ + 119) / 120) () z4) fun p z5 =>
    .ok ((⟨IntKind.i64.wrap (ah + (a : Nat)), IntKind.i64.wrap (IntKind.i64.wrap (ah + (a : Nat)) + (b : Nat)), (ct : Nat), (by_ : Nat), p.1⟩, IntKind.i64.wrap (IntKind.i64.wrap (ah + (a : Nat)) + (b : Nat))), z5)
theorem ent_res {bs : List Nat} {ah v1 v2 v3 v4 fs ls : Int} {e e1 e2 e3 e4 e5 : Int} {z z1 z2 z3 z4 z5 k : Nat} {ps : List Int} {u : Unit} (h1 : Res e (plainS bs 281474976710656 z) (fun d => v1 = (d : Nat)) z1 e1) (h2 : Res e1 (plainS bs 281474976710656 z1) (fun d => v2 = (d : Nat)) z2 e2) (h3 : Res e2 (plainS bs 256 z2) (fun d => v3 = (d : Nat)) z3 e3) (h4 : Res e3 (plainS bs 30720 z3) (fun d => v4 = (d : Nat)) z4 e4) (h5 : Res e4 (sevS (fPg bs) k () z4) (fun d => d = (ps.map idI, u)) z5 e5)
    (hk : k = min ((v4.toNat + 119) / 120) 256) (hf : fs = IntKind.i64.wrap (ah + v1)) (hl : ls = IntKind.i64.wrap (fs + v2)) : Res e (fEnt bs ah z) (fun d => d = (⟨fs, ls, v3, v4, ps⟩, ls)) z5 e5 := by
  unfold fEnt
  have e5' : ∀ (b4 : Nat) (he : e4 = 0) (ho : plainS bs 30720 z3 = .ok (b4, z4)) (hv : v4 = (b4 : Nat)), sevS (fPg bs) k () z4 = sevS (fPg bs) ((b4 + 119) / 120) () z4 := by
    intro b4 he ho hv
    have h6 := (plainS_ok ho).2
    rw [hk, hv, Int.toNat_natCast, Nat.min_eq_left (by omega)]
  have g5 : ∀ (d1 d2 d3 d4 : Nat), v1 = (d1 : Nat) → v2 = (d2 : Nat) → v3 = (d3 : Nat) → v4 = (d4 : Nat) → Res e4 (bindE (sevS (fPg bs) k () z4) fun p z5 => .ok ((((⟨IntKind.i64.wrap (ah + (d1 : Nat)), IntKind.i64.wrap (IntKind.i64.wrap (ah + (d1 : Nat)) + (d2 : Nat)), (d3 : Nat), (d4 : Nat), p.1⟩ : En), IntKind.i64.wrap (IntKind.i64.wrap (ah + (d1 : Nat)) + (d2 : Nat)))), z5)) (fun d => d = ((⟨fs, ls, v3, v4, ps⟩ : En), ls)) z5 e5 := by
    intro d1 d2 d3 d4 a1 a2 a3 a4
    refine Res.mapE h5 ?_
    rintro d rfl
    simp only
    rw [hl, hf, a1, a2, a3, a4]
    simp [idI]
  have hp : ∀ {α : Type} {S : Except Int (α × Nat)} {R : α → Prop} {a b : Int} {y : Nat}, Res a S R y b → a ≠ 0 → b = a := by
    intro α S R a b y h hn
    rcases h with ⟨h, _⟩ | ⟨_, _, h⟩
    · exact absurd h hn
    · exact h hn
  rcases h1 with ⟨h0, q1, d1, o1, a1⟩ | ⟨n1, o1, w1⟩
  · rcases h2 with ⟨_, q2, d2, o2, a2⟩ | ⟨n2, o2, w2⟩
    · rcases h3 with ⟨_, q3, d3, o3, a3⟩ | ⟨n3, o3, w3⟩
      · rcases h4 with ⟨_, q4, d4, o4, a4⟩ | ⟨n4, o4, w4⟩
        · have h6 := g5 d1 d2 d3 d4 a1 a2 a3 a4
          rw [e5' d4 q4 o4 a4, q4] at h6
          rw [h0]
          simp only [bindE, o1, o2, o3, o4] at h6 ⊢
          exact h6
        · have x5 := hp h5 n4
          subst x5
          refine .inr ⟨n4, fun _ => ?_, fun h => absurd h0 h⟩
          simp only [bindE, o1, o2, o3, o4 q3]
      · have x4 := hp h4 n3
        subst x4
        have x5 := hp h5 n3
        subst x5
        refine .inr ⟨n3, fun _ => ?_, fun h => absurd h0 h⟩
        simp only [bindE, o1, o2, o3 q2]
    · have x3 := hp h3 n2
      subst x3
      have x4 := hp h4 n2
      subst x4
      have x5 := hp h5 n2
      subst x5
      refine .inr ⟨n2, fun _ => ?_, fun h => absurd h0 h⟩
      simp only [bindE, o1, o2 q1]
  · have x2 := hp h2 n1
    subst x2
    have x3 := hp h3 n1
    subst x3
    have x4 := hp h4 n1
    subst x4
    have x5 := hp h5 n1
    subst x5
    refine .inr ⟨n1, fun h0 => ?_, w1⟩
    simp only [bindE, o1 h0]
def EnOwn (w : World) (x : EnA) : Prop := w.ownsRow 0 3 1 (.slice x.2.1 x.1.ps.length x.2.2) x.1.ps.length (x.1.ps.map (Value.int .i64)) ∧ x.1.ps.length ≤ 256 ∧ x.1.fs ≤ 9223372036854775807
def blksE (x : EnA) : List Nat := (Value.slice x.2.1 x.1.ps.length x.2.2).ownBlock.toList
theorem EnOwn.same {W W' : World} {x : EnA} (h : EnOwn W x) (hk : ∀ b ∈ blksE x, W'.heap[b]? = W.heap[b]?) : EnOwn W' x :=
  ⟨own_same h.1 (fun b hb => hk b (by unfold blksE; rw [hb]; simp)), h.2⟩
theorem cellsI_map (xs : List Int) : xs.flatMap cellsI = xs.map (Value.int .i64) := by
  induction xs with
  | nil => rfl
  | cons x xs ih => rw [List.flatMap_cons, ih]; rfl
section
variable {w : World} {g bx q : Nat} {B : Option Addr} {n c z : Nat} {bs : List Nat} {e : Int}
set_option maxRecDepth 100000 in
set_option maxHeartbeats 1000000 in
theorem page1_c (kb : BxAt w bx g) (kt : RdAt w g z e B n c) (hs : Src w B n c bs) (hne : bx ≠ g) :
    Calls Try.prog 119 #[.pointer (some ⟨bx, 0, none⟩)] w fun d W' => ∃ x s' z1 e1, RetOne valI idI noG noB (fun W (_ : Unit) => BxAt W bx g) [g] (fPg bs () z) e g B n c w x s' z1 e1 d W' := by
  have HO := hid (rplain (most := 255) kt hs (by decide))
  have KB := hid kb
  have c0 : w.cell? ⟨bx, 0, none⟩ = some (.pointer (some ⟨g, 0, none⟩)) := kb.cell 0
  clear kb kt hs
  go_enter Try.func119, Try.ntmps119
  go_wp2_with fail
  refine HO.out.mono ?_
  rintro d w1 ⟨v, z1, e1, ⟨rfl, hb1, k1⟩, hres⟩
  have HF := hid (show RetOne valI idI noG noB (fun W (_ : Unit) => BxAt W bx g) [g] (fPg bs () z) e g B n c w v () z1 e1 (.returned (.int .i64 v)) w1 from
    ⟨rfl, ButS.of_but hb1 (by simp), k1, KB.out.but hb1 hne, trivial, fun b hb => by simp at hb, by
      rcases hres with ⟨h0, h1, d, h2, h3⟩ | ⟨h1, h2, h3⟩
      · exact .inl ⟨h0, h1, ((d : Int), ()), by unfold fPg; rw [h2], by rw [h3]⟩
      · exact .inr ⟨h1, fun h0 => by unfold fPg; rw [h2 h0], h3⟩⟩)
  clear hb1 k1 hres c0 HO
  go_wp2_with fail
  go_ret
  exact ⟨_, _, _, _, HF.out⟩
/-- what the entries' closure holds -/
abbrev JE (q bx g : Nat) : World → Int → Prop := fun W ah => Blk W q 2 #[.int .i64 ah] ∧ BxAt W bx g
/-- what there is while an entry is read: the entry E, the result R -/
structure ES (w : World) (R q bx g : Nat) (ah : Int) (B : Option Addr) (n c : Nat) (bs : List Nat) (W : World) (fs ls ct by_ : Int) (P : Value) (z : Nat) (e : Int) : Prop where
  fr : But g w W
  kR : Blk W R 45 (aE 0 0 0 (.slice none 0 0) 0)
  kE : Blk W (R + 1) 45 (aE fs ls ct P by_)
  kj : JE q bx g W ah
  kt : RdAt W g z e B n c
  hs : Src W B n c bs
section
variable {w W W' : World} {R q bx g : Nat} {ah : Int} {B : Option Addr} {n c : Nat} {bs : List Nat} {fs ls ct by_ : Int} {P : Value} {z : Nat} {e : Int}
theorem own_farM {w : World} {base n size : Nat} {e : TypeId} {v : Value} {xs : List Value} (h : w.ownsRow base e size v n xs) {a : Addr} (ha : a.block < base) (u : Value) : (w.setCell a u).ownsRow base e size v n xs := ownsRow_setCell_below h ha u
theorem ButS.set {S : List Nat} {a w : World} (h : ButS S a w) {p : Addr} (hp : p.block ∈ S ∨ a.heap.size ≤ p.block) (u : Value) : ButS S a (w.setCell p u) :=
  ⟨h.os, h.tape, h.output, by simpa [World.setCell] using h.size, fun k hk hn => (Below.heap_setCell w p u k (by
    rintro rfl
    rcases hp with hp | hp
    · exact hn hp
    · omega)).trans (h.block k hk hn)⟩
theorem pages_k {bs : List Nat} {z3 z4 : Nat} {e3 e4 v4 : Int} (h : Res e3 (plainS bs 30720 z3) (fun d => v4 = (d : Nat)) z4 e4) (he : e4 = 0) : ∃ d : Nat, v4 = (d : Nat) ∧ d ≤ 30720 ∧ wrap64 ((wrap64 (wrap64 (v4 + 120) - 1)).tdiv 120) = ((d + 119) / 120 : Nat) := by
  rcases h with ⟨_, _, d, h1, h2⟩ | ⟨h1, _⟩
  · have h3 := (plainS_ok h1).2
    refine ⟨d, h2, h3, ?_⟩
    subst h2
    have e1 : wrap64 ((d : Int) + 120) = (d : Int) + 120 := by unfold wrap64; omega
    have e2 : wrap64 ((d : Int) + 120 - 1) = (d : Int) + 119 := by unfold wrap64; omega
    rw [e1, e2]
    have e3 : ((d : Int) + 119).tdiv 120 = ((d + 119) / 120 : Nat) := by
      rw [Int.tdiv_eq_ediv_of_nonneg (by omega)]; omega
    rw [e3]
    unfold wrap64
    omega
  · exact absurd he h1
theorem wrap64_le (x : Int) : wrap64 x ≤ 9223372036854775807 := by unfold wrap64; omega
-- steps
theorem ES.drew (h : ES w R q bx g ah B n c bs W fs ls ct by_ P z e) : ES w R q bx g ah B n c bs W.drew fs ls ct by_ P z e := ⟨h.fr.drew, h.kR, h.kE, h.kj, h.kt, h.hs.drew⟩
theorem ES.rd (h : ES w R q bx g ah B n c bs W fs ls ct by_ P z e) {z1 : Nat} {e1 : Int} (hb : But g W W') (k : RdAt W' g z1 e1 B n c) (n1 : R ≠ g) (n2 : R + 1 ≠ g) (n3 : q ≠ g) (n4 : bx ≠ g) : ES w R q bx g ah B n c bs W' fs ls ct by_ P z1 e1 :=
  ⟨h.fr.trans hb, h.kR.but hb n1, h.kE.but hb n2, ⟨h.kj.1.but hb n3, h.kj.2.but hb n4⟩, k, h.hs.butM hb h.kt.typed⟩
theorem ES.st (h : ES w R q bx g ah B n c bs W fs ls ct by_ P z e) (i : Nat) (u : Value) {fs' ls' ct' by' : Int} {P' : Value} (hu : (aE fs ls ct P by_).setIfInBounds i u = aE fs' ls' ct' P' by') (hR : w.heap.size ≤ R) (n3 : q ≠ R + 1) (n4 : bx ≠ R + 1) (n5 : g ≠ R + 1) : ES w R q bx g ah B n c bs (W.setCell ⟨R + 1, i, none⟩ u) fs' ls' ct' by' P' z e :=
  ⟨h.fr.setn (by simp; omega) u, h.kR.far (by simp) u, by have := h.kE.set_ i u; rwa [hu] at this, ⟨h.kj.1.far (by simpa using n3) u, h.kj.2.far (by simpa using n4) u⟩, h.kt.far (by simpa using n5) u,
    ⟨h.hs.reads.setCell (p := ⟨R + 1, i, none⟩) h.kE.typed (by decide) u, h.hs.hn, h.hs.hc, h.hs.hcm, h.hs.hbs⟩⟩
theorem ES.cE (h : ES w R q bx g ah B n c bs W fs ls ct by_ P z e) : (W.cell? ⟨R + 1, 0, none⟩ = some (.int .i64 fs) ∧ W.cell? ⟨R + 1, 1, none⟩ = some (.int .i64 ls) ∧ W.cell? ⟨R + 1, 2, none⟩ = some (.int .i64 ct) ∧ W.cell? ⟨R + 1, 3, none⟩ = some P ∧ W.cell? ⟨R + 1, 4, none⟩ = some (.int .i64 by_)) ∧ (∀ i, W.frozen? ⟨R + 1, i, none⟩ = false) ∧ R + 1 < W.heap.size ∧ W.cell? ⟨q, 0, none⟩ = some (.int .i64 ah) ∧ W.cell? ⟨bx, 0, none⟩ = some (.pointer (some ⟨g, 0, none⟩)) :=
  ⟨h.kE.fivec, fun i => h.kE.frozen i, h.kE.lt, h.kj.1.cell 0, h.kj.2.cell 0⟩
end
set_option maxRecDepth 100000 in
set_option maxHeartbeats 4000000 in
theorem ent1_c {ah : Int} (kj : JE q bx g w ah) (kt : RdAt w g z e B n c) (hs : Src w B n c bs) (h1 : bx ≠ g) (h2 : q ≠ g) (h3 : q ≠ bx) :
    Calls Try.prog 117 #[.pointer (some ⟨q, 0, none⟩), .pointer (some ⟨bx, 0, none⟩)] w fun d W' => ∃ x s' z1 e1, RetOne vE Prod.fst EnOwn blksE (JE q bx g) [g, q] (fEnt bs ah z) e g B n c w x s' z1 e1 d W' := by
  obtain ⟨kq, kb⟩ := kj
  obtain ⟨wb, hwb⟩ : ∃ wb, wb = (w.alloc (.cells (aE 0 0 0 (.slice none 0 0) 0) 45)).alloc (.cells (aE 0 0 0 (.slice none 0 0) 0) 45) := ⟨_, rfl⟩
  have hB : Below w.heap.size w wb := by rw [hwb]; exact ((Below.refl _ _).alloc (Nat.le_refl _) _).alloc (by simp) _
  have kR : Blk wb w.heap.size 45 (aE 0 0 0 (.slice none 0 0) 0) := by rw [hwb]; exact (Blk.new _ _ _).alloc _
  have kE : Blk wb (w.heap.size + 1) 45 (aE 0 0 0 (.slice none 0 0) 0) := by rw [hwb]; exact Blk.new_at _ _ _ (by simp)
  have lq := kq.lt
  have lb := kb.lt
  have lg := kt.lt
  replace kq := kq.under hB
  replace kb := kb.under hB
  replace kt := kt.under hB
  replace hs := hs.below hB
  have HES := hid (show ES w w.heap.size q bx g ah B n c bs wb 0 0 0 0 (.slice none 0 0) z e from ⟨But.of_below hB, kR, kE, ⟨kq, kb⟩, kt, hs⟩)
  have hn : w.heap.size ≠ g ∧ w.heap.size + 1 ≠ g ∧ q ≠ w.heap.size + 1 ∧ bx ≠ w.heap.size + 1 ∧ g ≠ w.heap.size + 1 ∧ q ≠ w.heap.size ∧ bx ≠ w.heap.size := by omega
  have HN := hid (And.intro hn (And.intro h1 h2))
  clear kR kE kq kb kt hs hn h1 h2
  go_enter Try.func117, Try.ntmps117
  go_upto_region 2 with fail
  rw [← hwb]
  clear hwb hB
  have HP := hid (fun W fs ls ct by_ P z e (most : Nat) (hm : most ≤ 4611686018427387904) (h : ES w w.heap.size q bx g ah B n c bs W fs ls ct by_ P z e) => rplain (most := most) h.kt h.hs hm)
  have HA := hid (HP.out _ _ _ _ _ _ _ _ 281474976710656 (by decide) HES.out.drew)
  refine wp_region_noPanic ?_
  refine wp_region_held_drew (S := fun W => W.cell? ⟨q, 0, none⟩ = some (.int .i64 ah) ∧ W.cell? ⟨bx, 0, none⟩ = some (.pointer (some ⟨g, 0, none⟩))) (by kernel_rfl) ⟨HES.out.drew.kj.1.cell 0, HES.out.drew.kj.2.cell 0⟩ (fun hHeld => ?_)
  refine wpAnyH_take (i := 0) (v := ?_) rfl (by kernel_rfl) (by kernel_rfl) (by kernel_rfl) (fun _ _ _ h => h) (Or.inl ⟨by rfl, ?_⟩) (by assumption) ?_
  rotate_left
  · intro W hW
    go_simp
    try rfl
  simp only [List.getElem_toArray, List.getElem_cons_zero, Act.put, List.setIfInBounds_toArray, List.set_cons_zero, List.set_cons_succ]
  refine wpAnyH_take (i := 1) (v := ?_) rfl (by kernel_rfl) (by kernel_rfl) (by kernel_rfl) (fun _ _ _ h => h) (Or.inl ⟨by rfl, ?_⟩) (by assumption) ?_
  rotate_left
  · intro W hW
    go_simp
    try rfl
  simp only [List.getElem_toArray, List.getElem_cons_succ, List.getElem_cons_zero, Act.put, List.setIfInBounds_toArray, List.set_cons_zero, List.set_cons_succ]
  refine wpAnyH_ready (rs := [2]) (by kernel_rfl) (by simp) ?_
  refine AllReadyH.cons rfl (fun K hK => ?_) AllReadyH.nil
  go_simp
  refine HA.out.mono ?_
  rintro d w1 ⟨v1, z1, e1, ⟨rfl, hb1, k1⟩, hr1⟩
  refine hK.out _ _ ⟨(HES.out.drew.rd hb1 k1 HN.out.1.1 HN.out.1.2.1 HN.out.2.2 HN.out.2.1).kj.1.cell 0, (HES.out.drew.rd hb1 k1 HN.out.1.1 HN.out.1.2.1 HN.out.2.2 HN.out.2.1).kj.2.cell 0⟩ (fun hHeld => ?_)
  clear hK K
  try simp only [List.getElem_toArray, List.getElem_cons_succ, List.getElem_cons_zero, Act.put, List.setIfInBounds_toArray, List.set_cons_zero, List.set_cons_succ]
  have HE1 := hid (HES.out.drew.rd hb1 k1 HN.out.1.1 HN.out.1.2.1 HN.out.2.2 HN.out.2.1)
  have HR1 := hid hr1
  clear hb1 k1 hr1 HA HES
  refine wpAnyH_take (i := 3) (v := ?_) rfl (by kernel_rfl) (by kernel_rfl) (by kernel_rfl) (fun _ _ _ h => h) (Or.inl ⟨by rfl, ?_⟩) (by assumption) ?_
  rotate_left
  · intro W hW
    go_simp
    try rfl
  simp only [List.getElem_toArray, List.getElem_cons_succ, List.getElem_cons_zero, Act.put, List.setIfInBounds_toArray, List.set_cons_zero, List.set_cons_succ]
  refine wpAnyH_take (i := 4) (v := ?_) rfl (by kernel_rfl) (by kernel_rfl) (by kernel_rfl) (fun _ _ _ h => h) (Or.inl ⟨by rfl, ?_⟩) (by assumption) ?_
  rotate_left
  · intro W hW
    go_simp
    try rfl
  simp only [List.getElem_toArray, List.getElem_cons_succ, List.getElem_cons_zero, Act.put, List.setIfInBounds_toArray, List.set_cons_zero, List.set_cons_succ]
  clear hHeld
  obtain ⟨fs, hfs⟩ : ∃ fs, fs = IntKind.i64.wrap (ah + v1) := ⟨_, rfl⟩
  have x6 : w1.cell? ⟨w.heap.size + 1, 0, none⟩ = some (.int .i64 0) := HE1.out.cE.1.1
  have y6 : w1.frozen? ⟨w.heap.size + 1, 0, none⟩ = false := HE1.out.cE.2.1 0
  have z6 := HE1.out.cE.2.2.1
  have HE2 := hid (HE1.out.st 0 (.int .i64 fs) (fs' := fs) (ls' := 0) (ct' := 0) (by' := 0) (P' := .slice none 0 0) rfl (Nat.le_refl _) HN.out.1.2.2.1 HN.out.1.2.2.2.1 HN.out.1.2.2.2.2.1)
  rw [hfs] at HE2
  refine wpAnyH_ready (rs := [5]) (by kernel_rfl) (by simp) ?_
  refine AllReadyH.cons rfl (fun K hK => ?_) AllReadyH.nil
  go_simp
  refine hK.out _ _ ⟨HE2.out.kj.1.cell 0, HE2.out.kj.2.cell 0⟩ (fun hHeld => ?_)
  clear hK K
  try simp only [List.getElem_toArray, List.getElem_cons_succ, List.getElem_cons_zero, Act.put, List.setIfInBounds_toArray, List.set_cons_zero, List.set_cons_succ]
  refine wpAnyH_done (by kernel_rfl) ?_ _
  refine NoPanic.normal ?_
  rw [← hfs] at HE2
  obtain ⟨w2, hw2⟩ : ∃ w2, w2 = w1.setCell ⟨w.heap.size + 1, 0, none⟩ (.int .i64 fs) := ⟨_, rfl⟩
  rw [← hw2] at HE2
  rw [hfs] at hw2
  go_upto_region 3 with fail
  rw [← hw2]
  have HFS := hid hfs
  clear hw2 hfs x6 y6 z6 HE1 hHeld
  have HA := hid (HP.out _ _ _ _ _ _ _ _ 281474976710656 (by decide) HE2.out.drew)
  refine wp_region_noPanic ?_
  refine wp_region_held_drew (S := fun W => W.cell? ⟨w.heap.size + 1, 0, none⟩ = some (.int .i64 fs) ∧ W.cell? ⟨bx, 0, none⟩ = some (.pointer (some ⟨g, 0, none⟩))) (by kernel_rfl) ⟨HE2.out.drew.cE.1.1, HE2.out.drew.kj.2.cell 0⟩ (fun hHeld => ?_)
  refine wpAnyH_take (i := 0) (v := ?_) rfl (by kernel_rfl) (by kernel_rfl) (by kernel_rfl) (fun _ _ _ h => h) (Or.inl ⟨by rfl, ?_⟩) (by assumption) ?_
  rotate_left
  · intro W hW
    go_simp
    try rfl
  simp only [List.getElem_toArray, List.getElem_cons_zero, Act.put, List.setIfInBounds_toArray, List.set_cons_zero, List.set_cons_succ]
  refine wpAnyH_take (i := 1) (v := ?_) rfl (by kernel_rfl) (by kernel_rfl) (by kernel_rfl) (fun _ _ _ h => h) (Or.inl ⟨by rfl, ?_⟩) (by assumption) ?_
  rotate_left
  · intro W hW
    go_simp
    try rfl
  simp only [List.getElem_toArray, List.getElem_cons_succ, List.getElem_cons_zero, Act.put, List.setIfInBounds_toArray, List.set_cons_zero, List.set_cons_succ]
  refine wpAnyH_take (i := 2) (v := ?_) rfl (by kernel_rfl) (by kernel_rfl) (by kernel_rfl) (fun _ _ _ h => h) (Or.inl ⟨by rfl, ?_⟩) (by assumption) ?_
  rotate_left
  · intro W hW
    go_simp
    try rfl
  simp only [List.getElem_toArray, List.getElem_cons_succ, List.getElem_cons_zero, Act.put, List.setIfInBounds_toArray, List.set_cons_zero, List.set_cons_succ]
  refine wpAnyH_ready (rs := [3]) (by kernel_rfl) (by simp) ?_
  refine AllReadyH.cons rfl (fun K hK => ?_) AllReadyH.nil
  go_simp
  refine HA.out.mono ?_
  rintro d w3 ⟨v2, z2, e2, ⟨rfl, hb1, k1⟩, hr1⟩
  refine hK.out _ _ ⟨(HE2.out.drew.rd hb1 k1 HN.out.1.1 HN.out.1.2.1 HN.out.2.2 HN.out.2.1).cE.1.1, (HE2.out.drew.rd hb1 k1 HN.out.1.1 HN.out.1.2.1 HN.out.2.2 HN.out.2.1).kj.2.cell 0⟩ (fun hHeld => ?_)
  clear hK K
  try simp only [List.getElem_toArray, List.getElem_cons_succ, List.getElem_cons_zero, Act.put, List.setIfInBounds_toArray, List.set_cons_zero, List.set_cons_succ]
  have HE3 := hid (HE2.out.drew.rd hb1 k1 HN.out.1.1 HN.out.1.2.1 HN.out.2.2 HN.out.2.1)
  have HR2 := hid hr1
  clear hb1 k1 hr1 HA HE2
  refine wpAnyH_take (i := 4) (v := ?_) rfl (by kernel_rfl) (by kernel_rfl) (by kernel_rfl) (fun _ _ _ h => h) (Or.inl ⟨by rfl, ?_⟩) (by assumption) ?_
  rotate_left
  · intro W hW
    go_simp
    try rfl
  simp only [List.getElem_toArray, List.getElem_cons_succ, List.getElem_cons_zero, Act.put, List.setIfInBounds_toArray, List.set_cons_zero, List.set_cons_succ]
  refine wpAnyH_take (i := 5) (v := ?_) rfl (by kernel_rfl) (by kernel_rfl) (by kernel_rfl) (fun _ _ _ h => h) (Or.inl ⟨by rfl, ?_⟩) (by assumption) ?_
  rotate_left
  · intro W hW
    go_simp
    try rfl
  simp only [List.getElem_toArray, List.getElem_cons_succ, List.getElem_cons_zero, Act.put, List.setIfInBounds_toArray, List.set_cons_zero, List.set_cons_succ]
  clear hHeld
  obtain ⟨ls, hls⟩ : ∃ ls, ls = IntKind.i64.wrap (fs + v2) := ⟨_, rfl⟩
  have x6 : w3.cell? ⟨w.heap.size + 1, 1, none⟩ = some (.int .i64 0) := HE3.out.cE.1.2.1
  have y6 : w3.frozen? ⟨w.heap.size + 1, 1, none⟩ = false := HE3.out.cE.2.1 1
  have z6 := HE3.out.cE.2.2.1
  have HE4 := hid (HE3.out.st 1 (.int .i64 ls) (fs' := fs) (ls' := ls) (ct' := 0) (by' := 0) (P' := .slice none 0 0) rfl (Nat.le_refl _) HN.out.1.2.2.1 HN.out.1.2.2.2.1 HN.out.1.2.2.2.2.1)
  rw [hls] at HE4
  refine wpAnyH_ready (rs := [6]) (by kernel_rfl) (by simp) ?_
  refine AllReadyH.cons rfl (fun K hK => ?_) AllReadyH.nil
  go_simp
  refine hK.out _ _ ⟨HE4.out.cE.1.1, HE4.out.kj.2.cell 0⟩ (fun hHeld => ?_)
  clear hK K
  try simp only [List.getElem_toArray, List.getElem_cons_succ, List.getElem_cons_zero, Act.put, List.setIfInBounds_toArray, List.set_cons_zero, List.set_cons_succ]
  refine wpAnyH_done (by kernel_rfl) ?_ _
  refine NoPanic.normal ?_
  rw [← hls] at HE4
  obtain ⟨w4, hw4⟩ : ∃ w4, w4 = w3.setCell ⟨w.heap.size + 1, 1, none⟩ (.int .i64 ls) := ⟨_, rfl⟩
  rw [← hw4] at HE4
  rw [hls] at hw4
  have HLS := hid hls
  go_upto_region 4 with fail
  rw [← hw4]
  clear hw4 hls x6 y6 z6 HE3 hHeld
  obtain ⟨⟨a0, a1, a2, a3, a4⟩, ff, lE, aq, ab⟩ := HE4.out.cE
  have HA := hid (HP.out _ _ _ _ _ _ _ _ 256 (by decide) HE4.out)
  go_wp2_with fail
  refine HA.out.mono ?_
  rintro d w5 ⟨v3, z3, e3, ⟨rfl, hb1, k1⟩, hr1⟩
  have HE5 := hid (HE4.out.rd hb1 k1 HN.out.1.1 HN.out.1.2.1 HN.out.2.2 HN.out.2.1)
  have HR3 := hid hr1
  clear hb1 k1 hr1 HA HE4 a0 a1 a2 a3 a4 ff lE aq ab
  obtain ⟨⟨a0, a1, a2, a3, a4⟩, ff, lE, aq, ab⟩ := HE5.out.cE
  have f2 := ff 2
  go_upto_region 5 with fail
  have HE6 := hid (HE5.out.st 2 (.int .i64 v3) (fs' := fs) (ls' := ls) (ct' := v3) (by' := 0) (P' := .slice none 0 0) rfl (Nat.le_refl _) HN.out.1.2.2.1 HN.out.1.2.2.2.1 HN.out.1.2.2.2.2.1)
  generalize w5.setCell ⟨w.heap.size + 1, 2, none⟩ (.int .i64 v3) = w6 at *
  clear a0 a1 a2 a3 a4 ff lE aq ab f2 HE5
  obtain ⟨⟨a0, a1, a2, a3, a4⟩, ff, lE, aq, ab⟩ := HE6.out.cE
  have HA := hid (HP.out _ _ _ _ _ _ _ _ 30720 (by decide) HE6.out)
  go_wp2_with fail
  refine HA.out.mono ?_
  rintro d w7 ⟨v4, z4, e4, ⟨rfl, hb1, k1⟩, hr1⟩
  have HE7 := hid (HE6.out.rd hb1 k1 HN.out.1.1 HN.out.1.2.1 HN.out.2.2 HN.out.2.1)
  have HR4 := hid hr1
  clear hb1 k1 hr1 HA HE6 a0 a1 a2 a3 a4 ff lE aq ab
  obtain ⟨⟨a0, a1, a2, a3, a4⟩, ff, lE, aq, ab⟩ := HE7.out.cE
  have f4 := ff 4
  go_upto_region 6 with fail
  have HE8 := hid (HE7.out.st 4 (.int .i64 v4) (fs' := fs) (ls' := ls) (ct' := v3) (by' := v4) (P' := .slice none 0 0) rfl (Nat.le_refl _) HN.out.1.2.2.1 HN.out.1.2.2.2.1 HN.out.1.2.2.2.2.1)
  generalize w7.setCell ⟨w.heap.size + 1, 4, none⟩ (.int .i64 v4) = w8 at *
  clear a0 a1 a2 a3 a4 ff lE aq ab f4 HE7
  obtain ⟨⟨a0, a1, a2, a3, a4⟩, ff, lE, aq, ab⟩ := HE8.out.cE
  obtain ⟨k, hk⟩ : ∃ k, k = min ((v4.toNat + 119) / 120) 256 := ⟨_, rfl⟩
  obtain ⟨M, hM⟩ : ∃ M, M = wrap64 ((wrap64 (wrap64 (v4 + 120) - 1)).tdiv 120) := ⟨_, rfl⟩
  have HSV := hid (sev_i (f := fPg bs) (dat := idI) (Good := noG) (blks := noB) (J := fun W (_ : Unit) => BxAt W bx g) (S := [g]) (bs := bs) ⟨bx, 0, none⟩ M k () z4 e4 w8
    (fun he => by
      obtain ⟨d, h1, h2, h3⟩ := pages_k HR4.out he
      rw [hM, h3, hk, h1, Int.toNat_natCast, Nat.min_eq_left (by omega)]) (by omega) (fun _ _ _ h _ => h) (fun W W' _ h hb => h.below hb (by have := HE8.out.kj.2.lt; omega)) (fun k hk => by simp at hk; subst hk; exact HE8.out.kt.lt) (by simp)
    (fun W hW => HE8.out.hs.butM hW.but HE8.out.kt.typed) HE8.out.kj.2 HE8.out.kt
    (fun W s z hW hj hr => page1_c hj hr (HE8.out.hs.butM hW.but HE8.out.kt.typed) HN.out.2.1))
  rw [hM] at HSV
  have HKM := hid (And.intro hk hM)
  clear hk hM
  go_wp2_with fail
  refine HSV.out.mono ?_
  rintro d w9 ⟨ps, C, f, u, z5, e5, rfl, hsv, k9, hr5, hpl⟩
  have HE9 := hid (HE8.out.rd hsv.fr.but k9 HN.out.1.1 HN.out.1.2.1 HN.out.2.2 HN.out.2.1)
  have HOW := hid hsv.own
  have HR5 := hid hr5
  have HPL := hid (Nat.le_trans hpl (show k ≤ 256 by rw [HKM.out.1]; omega))
  have hs8 := HE8.out.fr.size
  have hs9 := hsv.fr.size
  clear hsv k9 hr5 hpl HSV a0 a1 a2 a3 a4 ff lE aq ab
  obtain ⟨⟨a0, a1, a2, a3, a4⟩, ff, lE, aq, ab⟩ := HE9.out.cE
  have f3 := ff 3
  have fq : w9.frozen? ⟨q, 0, none⟩ = false := HE9.out.kj.1.frozen 0
  go_upto_region 7 with fail
  have HE10 := hid (HE9.out.st 3 (.slice C ps.length f) (fs' := fs) (ls' := ls) (ct' := v3) (by' := v4) (P' := .slice C ps.length f) rfl (Nat.le_refl _) HN.out.1.2.2.1 HN.out.1.2.2.2.1 HN.out.1.2.2.2.2.1)
  have HO10 := hid (own_farM HOW.out (a := ⟨w.heap.size + 1, 3, none⟩) (by have := HE8.out.kE.lt; simp; omega) (.slice C ps.length f))
  generalize w9.setCell ⟨w.heap.size + 1, 3, none⟩ (.slice C ps.length f) = w10 at *
  clear a0 a1 a2 a3 a4 ff lE aq ab f3 fq HE9 HOW
  obtain ⟨⟨a0, a1, a2, a3, a4⟩, ff, lE, aq, ab⟩ := HE10.out.cE
  have fq : w10.frozen? ⟨q, 0, none⟩ = false := HE10.out.kj.1.frozen 0
  have lq10 : q < w10.heap.size := HE10.out.kj.1.lt
  go_upto_region 8 with fail
  have HX := hid (show Blk (w10.setCell ⟨q, 0, none⟩ (.int .i64 ls)) w.heap.size 45 (aE 0 0 0 (.slice none 0 0) 0) ∧ Blk (w10.setCell ⟨q, 0, none⟩ (.int .i64 ls)) (w.heap.size + 1) 45 (aE fs ls v3 (.slice C ps.length f) v4) ∧ JE q bx g (w10.setCell ⟨q, 0, none⟩ (.int .i64 ls)) ls ∧ RdAt (w10.setCell ⟨q, 0, none⟩ (.int .i64 ls)) g z5 e5 B n c ∧ ButS [g, q] w (w10.setCell ⟨q, 0, none⟩ (.int .i64 ls)) ∧ (w10.setCell ⟨q, 0, none⟩ (.int .i64 ls)).ownsRow w8.heap.size 3 1 (.slice C ps.length f) ps.length (ps.flatMap cellsI) from
    ⟨HE10.out.kR.far (by simpa using HN.out.1.2.2.2.2.2.1.symm) _, HE10.out.kE.far (by simpa using HN.out.1.2.2.1.symm) _, ⟨HE10.out.kj.1.set_ 0 _, HE10.out.kj.2.far (by simpa using h3.symm) _⟩, HE10.out.kt.far (by simpa using HN.out.2.2.symm) _, (ButS.of_but HE10.out.fr (by simp)).set (.inl (by simp)) _, own_farM HO10.out (a := ⟨q, 0, none⟩) (by simp; omega) _⟩)
  generalize w10.setCell ⟨q, 0, none⟩ (.int .i64 ls) = w11 at *
  clear a0 a1 a2 a3 a4 ff lE aq ab fq lq10 HE10 HO10
  obtain ⟨kR, kE, kj, kt, hfr, how⟩ := HX.out
  obtain ⟨a0, a1, a2, a3, a4⟩ := kE.fivec
  obtain ⟨b0, b1, b2, b3, b4⟩ := kR.fivec
  have fr0 := kR.frozen
  have lR := kR.lt
  clear kR kE kj kt hfr how
  go_wp2_with fail
  obtain ⟨kR, kE, kj, kt, hfr, how⟩ := HX.out
  obtain ⟨wf, hwf⟩ : ∃ wf, wf = ((((w11.setCell ⟨w.heap.size, 0, none⟩ (.int .i64 fs)).setCell ⟨w.heap.size, 1, none⟩ (.int .i64 ls)).setCell ⟨w.heap.size, 2, none⟩ (.int .i64 v3)).setCell ⟨w.heap.size, 3, none⟩ (.slice C ps.length f)).setCell ⟨w.heap.size, 4, none⟩ (.int .i64 v4) := ⟨_, rfl⟩
  have kRf : Blk wf w.heap.size 45 (aE fs ls v3 (.slice C ps.length f) v4) := by rw [hwf]; exact ((((kR.set_ 0 _).set_ 1 _).set_ 2 _).set_ 3 _).set_ 4 _
  have kjf : JE q bx g wf ls := by
    rw [hwf]
    have n1 : q ≠ w.heap.size := HN.out.1.2.2.2.2.2.1
    have n2 : bx ≠ w.heap.size := HN.out.1.2.2.2.2.2.2
    exact ⟨((((kj.1.far (by simpa using n1) _).far (by simpa using n1) _).far (by simpa using n1) _).far (by simpa using n1) _).far (by simpa using n1) _, ((((kj.2.far (by simpa using n2) _).far (by simpa using n2) _).far (by simpa using n2) _).far (by simpa using n2) _).far (by simpa using n2) _⟩
  have ktf : RdAt wf g z5 e5 B n c := by
    rw [hwf]
    have n1 : g ≠ w.heap.size := HN.out.1.1.symm
    exact ((((kt.far (by simpa using n1) _).far (by simpa using n1) _).far (by simpa using n1) _).far (by simpa using n1) _).far (by simpa using n1) _
  have hff : ButS [g, q] w wf := by rw [hwf]; exact ((((hfr.set (.inr (Nat.le_refl _)) _).set (.inr (Nat.le_refl _)) _).set (.inr (Nat.le_refl _)) _).set (.inr (Nat.le_refl _)) _).set (.inr (Nat.le_refl _)) _
  have hl8 : w.heap.size < w8.heap.size := HE8.out.kR.lt
  have hof : wf.ownsRow w8.heap.size 3 1 (.slice C ps.length f) ps.length (ps.flatMap cellsI) := by rw [hwf]; exact own_farM (own_farM (own_farM (own_farM (own_farM how (a := ⟨w.heap.size, 0, none⟩) hl8 _) (a := ⟨w.heap.size, 1, none⟩) hl8 _) (a := ⟨w.heap.size, 2, none⟩) hl8 _) (a := ⟨w.heap.size, 3, none⟩) hl8 _) (a := ⟨w.heap.size, 4, none⟩) hl8 _
  rw [← hwf]
  have HFIN := hid (show RetOne vE Prod.fst EnOwn blksE (JE q bx g) [g, q] (fEnt bs ah z) e g B n c w (⟨fs, ls, v3, v4, ps⟩, C, f) ls z5 e5 (.returned (.agg (aE fs ls v3 (.slice C ps.length f) v4))) wf from
    ⟨rfl, hff, ktf, kjf, ⟨by rw [← cellsI_map]; exact own_low hof (Nat.zero_le _), HPL.out, by show fs ≤ _; rw [HFS.out, IntKind.wrap_i64]; omega⟩, fun b hb => by
      have hb2 : (Value.slice C ps.length f).ownBlock = some b := by unfold blksE at hb; simpa using hb
      have := hof.lt b hb2
      exact ⟨by omega, this.2⟩, ent_res HR1.out HR2.out HR3.out HR4.out HR5.out HKM.out.1 HFS.out HLS.out⟩)
  clear kR kE kj kt hfr how hwf kjf ktf hff hof
  obtain ⟨d0, d1, d2, d3, d4⟩ := kRf.fivec
  refine bodyPost_ret (v := .agg (aE fs ls v3 (.slice C ps.length f) v4)) ?_ rfl ⟨_, _, _, _, HFIN.out⟩
  simp [results, Try.results117, go_sem, d0, d1, d2, d3, d4]
end
end Go.Proofs.Ytgdnpmjmkcccoaa
