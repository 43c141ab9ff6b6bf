/- Manifest: the reader's points (printed by gen_manm.py). -/
import Derived.Test.YtgdnpmjmkcccoaaManL
namespace Go.Proofs.Ytgdnpmjmkcccoaa
open Go.RowKit Go.Shelf VB
open Go.Lib (hid)
set_option linter.unusedVariables false
set_option linter.unusedSimpArgs false
/-- a point, behind one -/
def fPt (bs : List Nat) (s : Int × Int) (z : Nat) : Except Int (((Int × Int) × (Int × Int)) × Nat) :=
  bindE (plainS bs 281474976710656 z) fun a z1 => bindE (signS bs z1) fun d z2 =>
    if betB (IntKind.i64.wrap (s.2 + d)) (-2305843009213693952) 2305843009213693952 = true then .ok (((IntKind.i64.wrap (s.1 + (a : Nat)), IntKind.i64.wrap (s.2 + d)), (IntKind.i64.wrap (s.1 + (a : Nat)), IntKind.i64.wrap (s.2 + d))), z2) else .error 7
abbrev idP (q : Int × Int) : Int × Int := q
abbrev JP (q bx g : Nat) : World → (Int × Int) → Prop := fun W s => Blk W q 47 #[.int .i64 s.1, .int .i64 s.2] ∧ BxAt W bx g
/-- what there is while a point is read -/
structure PT (w : World) (R q bx g : Nat) (B : Option Addr) (n c : Nat) (bs : List Nat) (W : World) (T V : Int) (z : Nat) (e : Int) : Prop where
  fr : ButS [g, q] w W
  kR : Blk W R 47 #[.int .i64 0, .int .i64 0]
  kp : Blk W q 47 #[.int .i64 T, .int .i64 V]
  kb : BxAt W bx g
  kt : RdAt W g z e B n c
  hs : Src W B n c bs
section
variable {w W W' : World} {R q bx g : Nat} {B : Option Addr} {n c : Nat} {bs : List Nat} {T V : Int} {z : Nat} {e : Int}
theorem PT.drew (h : PT w R q bx g B n c bs W T V z e) : PT w R q bx g B n c bs W.drew T V z e := ⟨⟨h.fr.os, h.fr.tape, h.fr.output, h.fr.size, h.fr.block⟩, h.kR, h.kp, h.kb, h.kt, h.hs.drew⟩
theorem PT.rd (h : PT w R q bx g B n c bs W T V z e) {z1 : Nat} {e1 : Int} (hb : But g W W') (k : RdAt W' g z1 e1 B n c) (n1 : R ≠ g) (n3 : q ≠ g) (n4 : bx ≠ g) : PT w R q bx g B n c bs W' T V z1 e1 :=
  ⟨h.fr.trans (ButS.of_but hb (by simp)), h.kR.but hb n1, h.kp.but hb n3, h.kb.but hb n4, k, h.hs.butM hb h.kt.typed⟩
theorem PT.st (h : PT w R q bx g B n c bs W T V z e) (i : Nat) (u : Value) {T' V' : Int} (hu : (#[.int .i64 T, .int .i64 V] : Array Value).setIfInBounds i u = #[.int .i64 T', .int .i64 V']) (n1 : R ≠ q) (n3 : bx ≠ q) (n4 : g ≠ q) : PT w R q bx g B n c bs (W.setCell ⟨q, i, none⟩ u) T' V' z e :=
  ⟨h.fr.set (.inl (by simp)) u, h.kR.far (by simpa using n1) u, by have := h.kp.set_ i u; rwa [hu] at this, h.kb.far (by simpa using n3) u, h.kt.far (by simpa using n4) u,
    ⟨h.hs.reads.setCell (p := ⟨q, i, none⟩) h.kp.typed (by decide) u, h.hs.hn, h.hs.hc, h.hs.hcm, h.hs.hbs⟩⟩
theorem pt_res {s : Int × Int} {v1 v2 : Int} {e0 e1 e2 e3 : Int} {z0 z1 z2 : Nat} {T' V' : Int} {b : Bool} (h1 : Res e0 (plainS bs 281474976710656 z0) (fun d => v1 = (d : Nat)) z1 e1) (h2 : Res e1 (signS bs z1) (fun d => v2 = d) z2 e2) (hT : T' = IntKind.i64.wrap (s.1 + v1)) (hV : V' = IntKind.i64.wrap (s.2 + v2)) (hb : b = betB V' (-2305843009213693952) 2305843009213693952) (h3 : e3 = (if e2 = 0 ∧ b = false then 7 else e2)) : Res e0 (fPt bs s z0) (fun d => d = ((T', V'), (T', V'))) z2 e3 := by
  unfold fPt
  have hp : ∀ {α : Type} {S : Except Int (α × Nat)} {R : α → Prop} {a b : Int} {y : Nat}, Res a S R y b → a ≠ 0 → b = a := by
    intro α S R a b y h hn
    rcases h with ⟨h, _⟩ | ⟨_, _, h⟩
    · exact absurd h hn
    · exact h hn
  rcases h1 with ⟨h0, q1, d1, o1, a1⟩ | ⟨n1, o1, w1⟩
  · rcases h2 with ⟨_, q2, d2, o2, a2⟩ | ⟨n2, o2, w2⟩
    · rw [h0]
      subst a1 a2
      rw [hV] at hb
      cases b with
      | true =>
        rw [if_neg (by simp)] at h3
        rw [h3, q2]
        refine .inl ⟨rfl, rfl, _, ?_, rfl⟩
        simp only [bindE, o1, o2]
        rw [if_pos hb.symm, hT, hV]
      | false =>
        rw [if_pos ⟨q2, rfl⟩] at h3
        rw [h3]
        refine .inr ⟨by decide, fun _ => ?_, fun h => absurd rfl h⟩
        simp only [bindE, o1, o2]
        rw [if_neg (by rw [← hb]; simp)]
    · rw [if_neg (fun h => n2 h.1)] at h3
      subst h3
      refine .inr ⟨n2, fun _ => ?_, fun h => absurd h0 h⟩
      simp only [bindE, o1, o2 q1]
  · have x2 := hp h2 n1
    subst x2
    rw [if_neg (fun h => n1 h.1)] at h3
    subst h3
    refine .inr ⟨n1, fun h0 => ?_, w1⟩
    simp only [bindE, o1 h0]
end
section
variable {w : World} {g bx q : Nat} {B : Option Addr} {n c z : Nat} {bs : List Nat} {e : Int}
set_option maxRecDepth 100000 in
set_option maxHeartbeats 8000000 in
theorem pt1_c {s : Int × Int} (kj : JP q bx g w s) (kt : RdAt w g z e B n c) (hs : Src w B n c bs) (h1 : bx ≠ g) (h2 : q ≠ g) (h3 : q ≠ bx) :
    Calls Try.prog 121 #[.pointer (some ⟨q, 0, none⟩), .pointer (some ⟨bx, 0, none⟩)] w fun d W' => ∃ x s' z1 e1, RetOne vP idP noG noB (JP q bx g) [g, q] (fPt bs s z) e g B n c w x s' z1 e1 d W' := by
  obtain ⟨T, V⟩ := s
  obtain ⟨kp, kb⟩ := kj
  obtain ⟨wb, hwb⟩ : ∃ wb, wb = w.alloc (.cells #[.int .i64 0, .int .i64 0] 47) := ⟨_, rfl⟩
  have hB : Below w.heap.size w wb := by rw [hwb]; exact (Below.refl _ _).alloc (Nat.le_refl _) _
  have kR : Blk wb w.heap.size 47 #[.int .i64 0, .int .i64 0] := by rw [hwb]; exact Blk.new _ _ _
  have lq := kp.lt
  have lb := kb.lt
  have lg := kt.lt
  have HP0 := hid (show PT w w.heap.size q bx g B n c bs wb T V z e from ⟨ButS.of_below hB, kR, kp.under hB, kb.under hB, kt.under hB, hs.below hB⟩)
  have hn : w.heap.size ≠ g ∧ w.heap.size ≠ q ∧ w.heap.size ≠ bx := by omega
  have HN := hid (And.intro hn (And.intro h1 (And.intro h2 h3)))
  clear kR kp kb kt hs hn h1 h2 h3 hB
  go_enter Try.func121, Try.ntmps121
  go_upto_region 1 with fail
  rw [← hwb]
  clear hwb
  have HP0d := hid HP0.out.drew
  have HA1 := hid (rplain (most := 281474976710656) HP0d.out.kt HP0d.out.hs (by decide))
  refine wp_region_noPanic ?_
  refine wp_region_held_drew (S := fun W => W.cell? ⟨bx, 0, none⟩ = some (.pointer (some ⟨g, 0, none⟩))) (by kernel_rfl) (HP0d.out.kb.cell 0) (fun hHeld => ?_)
  refine wpAnyH_take (i := 0) (v := ?_) rfl (by kernel_rfl) (by kernel_rfl) (by kernel_rfl) (fun _ _ _ h => h) (Or.inl ⟨by rfl, ?_⟩) (by assumption) ?_
  rotate_left
  · intro W hW
    go_simp
    try rfl
  simp only [List.getElem_toArray, List.getElem_cons_zero, Act.put, List.setIfInBounds_toArray, List.set_cons_zero, List.set_cons_succ]
  refine wpAnyH_take (i := 2) (v := ?_) rfl (by kernel_rfl) (by kernel_rfl) (by kernel_rfl) (fun _ _ _ h => h) (Or.inl ⟨by rfl, ?_⟩) (by assumption) ?_
  rotate_left
  · intro W hW
    go_simp
    try rfl
  simp only [List.getElem_toArray, List.getElem_cons_succ, List.getElem_cons_zero, Act.put, List.setIfInBounds_toArray, List.set_cons_zero, List.set_cons_succ]
  refine wpAnyH_ready (rs := [1, 3]) (by kernel_rfl) (by simp) ?_
  refine AllReadyH.cons rfl (fun K hK => ?_) (AllReadyH.cons rfl (fun K hK => ?_) AllReadyH.nil)
  · have x1 : wb.drew.cell? ⟨q, 0, none⟩ = some (.int .i64 T) := HP0d.out.kp.cell 0
    go_simp
    refine hK.out _ _ (HP0d.out.kb.cell 0) (fun hHeld => ?_)
    clear hK K x1
    try simp only [List.getElem_toArray, List.getElem_cons_succ, List.getElem_cons_zero, Act.put, List.setIfInBounds_toArray, List.set_cons_zero, List.set_cons_succ]
    refine wpAnyH_ready (rs := [3]) (by kernel_rfl) (by simp) ?_
    refine AllReadyH.cons rfl (fun K hK => ?_) AllReadyH.nil
    go_simp
    refine HA1.out.mono ?_
    rintro d w1 ⟨v1, z1, e1, ⟨rfl, hb1, k1⟩, hr1⟩
    refine hK.out _ _ ((HP0d.out.rd hb1 k1 HN.out.1.1 HN.out.2.2.1 HN.out.2.1).kb.cell 0) (fun hHeld => ?_)
    clear hK K
    try simp only [List.getElem_toArray, List.getElem_cons_succ, List.getElem_cons_zero, Act.put, List.setIfInBounds_toArray, List.set_cons_zero, List.set_cons_succ]
    have HX1 := hid (HP0d.out.rd hb1 k1 HN.out.1.1 HN.out.2.2.1 HN.out.2.1)
    have HR1 := hid hr1
    clear hb1 k1 hr1
    refine wpAnyH_take (i := 4) (v := ?_) rfl (by kernel_rfl) (by kernel_rfl) (by kernel_rfl) (fun _ _ _ h => h) (Or.inl ⟨by rfl, ?_⟩) (by assumption) ?_
    rotate_left
    · intro W hW
      go_simp
      try rfl
    simp only [List.getElem_toArray, List.getElem_cons_succ, List.getElem_cons_zero, Act.put, List.setIfInBounds_toArray, List.set_cons_zero, List.set_cons_succ]
    refine wpAnyH_take (i := 5) (v := ?_) rfl (by kernel_rfl) (by kernel_rfl) (by kernel_rfl) (fun _ _ _ h => h) (Or.inl ⟨by rfl, ?_⟩) (by assumption) ?_
    rotate_left
    · intro W hW
      go_simp
      try rfl
    simp only [List.getElem_toArray, List.getElem_cons_succ, List.getElem_cons_zero, Act.put, List.setIfInBounds_toArray, List.set_cons_zero, List.set_cons_succ]
    clear hHeld
    obtain ⟨T2, hT2⟩ : ∃ y, y = IntKind.i64.wrap (T + v1) := ⟨_, rfl⟩
    have x6 : w1.cell? ⟨q, 0, none⟩ = some (.int .i64 T) := HX1.out.kp.cell 0
    have y6 : w1.frozen? ⟨q, 0, none⟩ = false := HX1.out.kp.frozen 0
    have z6 : q < w1.heap.size := HX1.out.kp.lt
    have HP1 := hid (HX1.out.st 0 (.int .i64 T2) (T' := T2) (V' := V) rfl HN.out.1.2.1 HN.out.2.2.2.symm HN.out.2.2.1.symm)
    rw [hT2] at HP1
    refine wpAnyH_ready (rs := [6]) (by kernel_rfl) (by simp) ?_
    refine AllReadyH.cons rfl (fun K hK => ?_) AllReadyH.nil
    go_simp
    refine hK.out _ _ (HP1.out.kb.cell 0) (fun hHeld => ?_)
    clear hK K
    try simp only [List.getElem_toArray, List.getElem_cons_succ, List.getElem_cons_zero, Act.put, List.setIfInBounds_toArray, List.set_cons_zero, List.set_cons_succ]
    refine wpAnyH_done (by kernel_rfl) ?_ _
    refine NoPanic.normal ?_
    rw [← hT2] at HP1
    have HT2 := hid hT2
    obtain ⟨w1n, hw1n⟩ : ∃ y, y = w1.setCell ⟨q, 0, none⟩ (.int .i64 T2) := ⟨_, rfl⟩
    rw [← hw1n] at HP1
    rw [hT2] at hw1n
    go_upto_region 2 with fail
    rw [← hw1n]
    clear hw1n hT2 x6 y6 z6 HX1 hHeld HA1 HP0d HP0
    have HP1d := hid HP1.out.drew
    have HA2 := hid (rsigned HP1d.out.kt HP1d.out.hs)
    refine wp_region_noPanic ?_
    refine wp_region_held_drew (S := fun W => W.cell? ⟨bx, 0, none⟩ = some (.pointer (some ⟨g, 0, none⟩))) (by kernel_rfl) (HP1d.out.kb.cell 0) (fun hHeld => ?_)
    refine wpAnyH_take (i := 0) (v := ?_) rfl (by kernel_rfl) (by kernel_rfl) (by kernel_rfl) (fun _ _ _ h => h) (Or.inl ⟨by rfl, ?_⟩) (by assumption) ?_
    rotate_left
    · intro W hW
      go_simp
      try rfl
    simp only [List.getElem_toArray, List.getElem_cons_zero, Act.put, List.setIfInBounds_toArray, List.set_cons_zero, List.set_cons_succ]
    refine wpAnyH_take (i := 2) (v := ?_) rfl (by kernel_rfl) (by kernel_rfl) (by kernel_rfl) (fun _ _ _ h => h) (Or.inl ⟨by rfl, ?_⟩) (by assumption) ?_
    rotate_left
    · intro W hW
      go_simp
      try rfl
    simp only [List.getElem_toArray, List.getElem_cons_succ, List.getElem_cons_zero, Act.put, List.setIfInBounds_toArray, List.set_cons_zero, List.set_cons_succ]
    refine wpAnyH_ready (rs := [1, 3]) (by kernel_rfl) (by simp) ?_
    refine AllReadyH.cons rfl (fun K hK => ?_) (AllReadyH.cons rfl (fun K hK => ?_) AllReadyH.nil)
    · have x1 : w1n.drew.cell? ⟨q, 1, none⟩ = some (.int .i64 V) := HP1d.out.kp.cell 1
      go_simp
      refine hK.out _ _ (HP1d.out.kb.cell 0) (fun hHeld => ?_)
      clear hK K x1
      try simp only [List.getElem_toArray, List.getElem_cons_succ, List.getElem_cons_zero, Act.put, List.setIfInBounds_toArray, List.set_cons_zero, List.set_cons_succ]
      refine wpAnyH_ready (rs := [3]) (by kernel_rfl) (by simp) ?_
      refine AllReadyH.cons rfl (fun K hK => ?_) AllReadyH.nil
      go_simp
      refine HA2.out.mono ?_
      rintro d w2 ⟨v2, z2, e2, ⟨rfl, hb1, k1⟩, hr1⟩
      refine hK.out _ _ ((HP1d.out.rd hb1 k1 HN.out.1.1 HN.out.2.2.1 HN.out.2.1).kb.cell 0) (fun hHeld => ?_)
      clear hK K
      try simp only [List.getElem_toArray, List.getElem_cons_succ, List.getElem_cons_zero, Act.put, List.setIfInBounds_toArray, List.set_cons_zero, List.set_cons_succ]
      have HX2 := hid (HP1d.out.rd hb1 k1 HN.out.1.1 HN.out.2.2.1 HN.out.2.1)
      have HR2 := hid hr1
      clear hb1 k1 hr1
      refine wpAnyH_take (i := 4) (v := ?_) rfl (by kernel_rfl) (by kernel_rfl) (by kernel_rfl) (fun _ _ _ h => h) (Or.inl ⟨by rfl, ?_⟩) (by assumption) ?_
      rotate_left
      · intro W hW
        go_simp
        try rfl
      simp only [List.getElem_toArray, List.getElem_cons_succ, List.getElem_cons_zero, Act.put, List.setIfInBounds_toArray, List.set_cons_zero, List.set_cons_succ]
      refine wpAnyH_take (i := 5) (v := ?_) rfl (by kernel_rfl) (by kernel_rfl) (by kernel_rfl) (fun _ _ _ h => h) (Or.inl ⟨by rfl, ?_⟩) (by assumption) ?_
      rotate_left
      · intro W hW
        go_simp
        try rfl
      simp only [List.getElem_toArray, List.getElem_cons_succ, List.getElem_cons_zero, Act.put, List.setIfInBounds_toArray, List.set_cons_zero, List.set_cons_succ]
      clear hHeld
      obtain ⟨V2, hV2⟩ : ∃ y, y = IntKind.i64.wrap (V + v2) := ⟨_, rfl⟩
      have x6 : w2.cell? ⟨q, 1, none⟩ = some (.int .i64 V) := HX2.out.kp.cell 1
      have y6 : w2.frozen? ⟨q, 1, none⟩ = false := HX2.out.kp.frozen 1
      have z6 : q < w2.heap.size := HX2.out.kp.lt
      have HP2 := hid (HX2.out.st 1 (.int .i64 V2) (T' := T2) (V' := V2) rfl HN.out.1.2.1 HN.out.2.2.2.symm HN.out.2.2.1.symm)
      rw [hV2] at HP2
      refine wpAnyH_ready (rs := [6]) (by kernel_rfl) (by simp) ?_
      refine AllReadyH.cons rfl (fun K hK => ?_) AllReadyH.nil
      go_simp
      refine hK.out _ _ (HP2.out.kb.cell 0) (fun hHeld => ?_)
      clear hK K
      try simp only [List.getElem_toArray, List.getElem_cons_succ, List.getElem_cons_zero, Act.put, List.setIfInBounds_toArray, List.set_cons_zero, List.set_cons_succ]
      refine wpAnyH_done (by kernel_rfl) ?_ _
      refine NoPanic.normal ?_
      rw [← hV2] at HP2
      have HV2 := hid hV2
      obtain ⟨w2n, hw2n⟩ : ∃ y, y = w2.setCell ⟨q, 1, none⟩ (.int .i64 V2) := ⟨_, rfl⟩
      rw [← hw2n] at HP2
      rw [hV2] at hw2n
      go_upto_region 3 with fail
      rw [← hw2n]
      clear hw2n hV2 x6 y6 z6 HX2 hHeld HA2 HP1d HP1
      have HP2d := hid HP2.out.drew
      obtain ⟨b, hb⟩ : ∃ b, b = betB V2 (-2305843009213693952) 2305843009213693952 := ⟨_, rfl⟩
      obtain ⟨e3, he3⟩ : ∃ e3, e3 = (if e2 = 0 ∧ b = false then 7 else e2) := ⟨_, rfl⟩
      have HND := hid (rneed b 7 HP2d.out.kt)
      rw [← he3] at HND
      have HBT := hid (fun W => between_c V2 (-2305843009213693952) 2305843009213693952 W)
      rw [← hb] at HBT
      have HRES := hid (pt_res (s := (T, V)) HR1.out HR2.out HT2.out HV2.out hb he3)
      clear hb he3 HR1 HR2 HT2 HV2
      refine wp_region_noPanic ?_
      refine wp_region_held_drew (S := fun W => W.cell? ⟨bx, 0, none⟩ = some (.pointer (some ⟨g, 0, none⟩)) ∧ W.cell? ⟨q, 1, none⟩ = some (.int .i64 V2)) (by kernel_rfl) ⟨HP2d.out.kb.cell 0, HP2d.out.kp.cell 1⟩ (fun hHeld => ?_)
      refine wpAnyH_take (i := 0) (v := ?_) rfl (by kernel_rfl) (by kernel_rfl) (by kernel_rfl) (fun _ _ _ h => h) (Or.inl ⟨by rfl, ?_⟩) (by assumption) ?_
      rotate_left
      · intro W hW
        go_simp
        try rfl
      simp only [List.getElem_toArray, List.getElem_cons_zero, Act.put, List.setIfInBounds_toArray, List.set_cons_zero, List.set_cons_succ]
      refine wpAnyH_take (i := 1) (v := ?_) rfl (by kernel_rfl) (by kernel_rfl) (by kernel_rfl) (fun _ _ _ h => h) (Or.inl ⟨by rfl, ?_⟩) (by assumption) ?_
      rotate_left
      · intro W hW
        go_simp
        try rfl
      simp only [List.getElem_toArray, List.getElem_cons_succ, List.getElem_cons_zero, Act.put, List.setIfInBounds_toArray, List.set_cons_zero, List.set_cons_succ]
      refine wpAnyH_take (i := 2) (v := ?_) rfl (by kernel_rfl) (by kernel_rfl) (by kernel_rfl) (fun _ _ _ h => h) (Or.inl ⟨by rfl, ?_⟩) (by assumption) ?_
      rotate_left
      · intro W hW
        go_simp
        try rfl
      simp only [List.getElem_toArray, List.getElem_cons_succ, List.getElem_cons_zero, Act.put, List.setIfInBounds_toArray, List.set_cons_zero, List.set_cons_succ]
      refine wpAnyH_ready (rs := [3]) (by kernel_rfl) (by simp) ?_
      refine AllReadyH.cons rfl (fun K hK => ?_) AllReadyH.nil
      go_simp
      refine (HBT.out _).mono ?_
      rintro d w8 ⟨rfl, rfl⟩
      refine hK.out _ _ ⟨HP2d.out.kb.cell 0, HP2d.out.kp.cell 1⟩ (fun hHeld => ?_)
      clear hK K
      try simp only [List.getElem_toArray, List.getElem_cons_succ, List.getElem_cons_zero, Act.put, List.setIfInBounds_toArray, List.set_cons_zero, List.set_cons_succ]
      refine wpAnyH_ready (rs := [4]) (by kernel_rfl) (by simp) ?_
      refine AllReadyH.cons rfl (fun K hK => ?_) AllReadyH.nil
      go_simp
      refine HND.out.mono ?_
      rintro d w9 ⟨rfl, hb1, k1⟩
      refine hK.out _ _ ⟨(HP2d.out.rd hb1 k1 HN.out.1.1 HN.out.2.2.1 HN.out.2.1).kb.cell 0, (HP2d.out.rd hb1 k1 HN.out.1.1 HN.out.2.2.1 HN.out.2.1).kp.cell 1⟩ (fun hHeld => ?_)
      clear hK K
      try simp only [List.getElem_toArray, List.getElem_cons_succ, List.getElem_cons_zero, Act.put, List.setIfInBounds_toArray, List.set_cons_zero, List.set_cons_succ]
      have HP3 := hid (HP2d.out.rd hb1 k1 HN.out.1.1 HN.out.2.2.1 HN.out.2.1)
      clear hb1 k1
      refine wpAnyH_done (by kernel_rfl) ?_ _
      refine NoPanic.normal ?_
      clear hHeld HP2d HP2 HND HBT
      obtain ⟨p0, p1, _⟩ := HP3.out.kp.two
      obtain ⟨r0, r1, r2, r3, r4⟩ := HP3.out.kR.two
      go_wp2_with fail
      obtain ⟨wf, hwf⟩ : ∃ wf, wf = (w9.setCell ⟨w.heap.size, 0, none⟩ (.int .i64 T2)).setCell ⟨w.heap.size, 1, none⟩ (.int .i64 V2) := ⟨_, rfl⟩
      have kRf : Blk wf w.heap.size 47 #[.int .i64 T2, .int .i64 V2] := by rw [hwf]; exact HP3.out.kR.set2 _ _
      have kjf : JP q bx g wf (T2, V2) := by
        rw [hwf]
        have n1 : q ≠ w.heap.size := HN.out.1.2.1.symm
        have n2 : bx ≠ w.heap.size := HN.out.1.2.2.symm
        exact ⟨(HP3.out.kp.far (by simpa using n1) _).far (by simpa using n1) _, (HP3.out.kb.far (by simpa using n2) _).far (by simpa using n2) _⟩
      have ktf : RdAt wf g z2 e3 B n c := by
        rw [hwf]
        have n1 : g ≠ w.heap.size := HN.out.1.1.symm
        exact (HP3.out.kt.far (by simpa using n1) _).far (by simpa using n1) _
      have hff : ButS [g, q] w wf := by rw [hwf]; exact (HP3.out.fr.set (.inr (Nat.le_refl _)) _).set (.inr (Nat.le_refl _)) _
      rw [← hwf]
      have HFIN := hid (show RetOne vP idP noG noB (JP q bx g) [g, q] (fPt bs (T, V) z) e g B n c w (T2, V2) (T2, V2) z2 e3 (.returned (.agg #[.int .i64 T2, .int .i64 V2])) wf from
        ⟨rfl, hff, ktf, kjf, trivial, fun b hb => by simp at hb, HRES.out⟩)
      clear hwf kjf ktf hff
      obtain ⟨d0, d1, _⟩ := kRf.two
      refine bodyPost_ret (v := .agg #[.int .i64 T2, .int .i64 V2]) ?_ rfl ⟨_, _, _, _, HFIN.out⟩
      simp [results, Try.results121, go_sem, d0, d1]
    · go_simp
      refine HA2.out.mono ?_
      rintro d w2 ⟨v2, z2, e2, ⟨rfl, hb1, k1⟩, hr1⟩
      refine hK.out _ _ ((HP1d.out.rd hb1 k1 HN.out.1.1 HN.out.2.2.1 HN.out.2.1).kb.cell 0) (fun hHeld => ?_)
      clear hK K
      try simp only [List.getElem_toArray, List.getElem_cons_succ, List.getElem_cons_zero, Act.put, List.setIfInBounds_toArray, List.set_cons_zero, List.set_cons_succ]
      have HX2 := hid (HP1d.out.rd hb1 k1 HN.out.1.1 HN.out.2.2.1 HN.out.2.1)
      have HR2 := hid hr1
      clear hb1 k1 hr1
      have x1 : w2.cell? ⟨q, 1, none⟩ = some (.int .i64 V) := HX2.out.kp.cell 1
      refine wpAnyH_ready (rs := [1]) (by kernel_rfl) (by simp) ?_
      refine AllReadyH.cons rfl (fun K hK => ?_) AllReadyH.nil
      go_simp
      refine hK.out _ _ (HX2.out.kb.cell 0) (fun hHeld => ?_)
      clear hK K
      try simp only [List.getElem_toArray, List.getElem_cons_succ, List.getElem_cons_zero, Act.put, List.setIfInBounds_toArray, List.set_cons_zero, List.set_cons_succ]
      clear x1
      refine wpAnyH_take (i := 4) (v := ?_) rfl (by kernel_rfl) (by kernel_rfl) (by kernel_rfl) (fun _ _ _ h => h) (Or.inl ⟨by rfl, ?_⟩) (by assumption) ?_
      rotate_left
      · intro W hW
        go_simp
        try rfl
      simp only [List.getElem_toArray, List.getElem_cons_succ, List.getElem_cons_zero, Act.put, List.setIfInBounds_toArray, List.set_cons_zero, List.set_cons_succ]
      refine wpAnyH_take (i := 5) (v := ?_) rfl (by kernel_rfl) (by kernel_rfl) (by kernel_rfl) (fun _ _ _ h => h) (Or.inl ⟨by rfl, ?_⟩) (by assumption) ?_
      rotate_left
      · intro W hW
        go_simp
        try rfl
      simp only [List.getElem_toArray, List.getElem_cons_succ, List.getElem_cons_zero, Act.put, List.setIfInBounds_toArray, List.set_cons_zero, List.set_cons_succ]
      clear hHeld
      obtain ⟨V2, hV2⟩ : ∃ y, y = IntKind.i64.wrap (V + v2) := ⟨_, rfl⟩
      have x6 : w2.cell? ⟨q, 1, none⟩ = some (.int .i64 V) := HX2.out.kp.cell 1
      have y6 : w2.frozen? ⟨q, 1, none⟩ = false := HX2.out.kp.frozen 1
      have z6 : q < w2.heap.size := HX2.out.kp.lt
      have HP2 := hid (HX2.out.st 1 (.int .i64 V2) (T' := T2) (V' := V2) rfl HN.out.1.2.1 HN.out.2.2.2.symm HN.out.2.2.1.symm)
      rw [hV2] at HP2
      refine wpAnyH_ready (rs := [6]) (by kernel_rfl) (by simp) ?_
      refine AllReadyH.cons rfl (fun K hK => ?_) AllReadyH.nil
      go_simp
      refine hK.out _ _ (HP2.out.kb.cell 0) (fun hHeld => ?_)
      clear hK K
      try simp only [List.getElem_toArray, List.getElem_cons_succ, List.getElem_cons_zero, Act.put, List.setIfInBounds_toArray, List.set_cons_zero, List.set_cons_succ]
      refine wpAnyH_done (by kernel_rfl) ?_ _
      refine NoPanic.normal ?_
      rw [← hV2] at HP2
      have HV2 := hid hV2
      obtain ⟨w2n, hw2n⟩ : ∃ y, y = w2.setCell ⟨q, 1, none⟩ (.int .i64 V2) := ⟨_, rfl⟩
      rw [← hw2n] at HP2
      rw [hV2] at hw2n
      go_upto_region 3 with fail
      rw [← hw2n]
      clear hw2n hV2 x6 y6 z6 HX2 hHeld HA2 HP1d HP1
      have HP2d := hid HP2.out.drew
      obtain ⟨b, hb⟩ : ∃ b, b = betB V2 (-2305843009213693952) 2305843009213693952 := ⟨_, rfl⟩
      obtain ⟨e3, he3⟩ : ∃ e3, e3 = (if e2 = 0 ∧ b = false then 7 else e2) := ⟨_, rfl⟩
      have HND := hid (rneed b 7 HP2d.out.kt)
      rw [← he3] at HND
      have HBT := hid (fun W => between_c V2 (-2305843009213693952) 2305843009213693952 W)
      rw [← hb] at HBT
      have HRES := hid (pt_res (s := (T, V)) HR1.out HR2.out HT2.out HV2.out hb he3)
      clear hb he3 HR1 HR2 HT2 HV2
      refine wp_region_noPanic ?_
      refine wp_region_held_drew (S := fun W => W.cell? ⟨bx, 0, none⟩ = some (.pointer (some ⟨g, 0, none⟩)) ∧ W.cell? ⟨q, 1, none⟩ = some (.int .i64 V2)) (by kernel_rfl) ⟨HP2d.out.kb.cell 0, HP2d.out.kp.cell 1⟩ (fun hHeld => ?_)
      refine wpAnyH_take (i := 0) (v := ?_) rfl (by kernel_rfl) (by kernel_rfl) (by kernel_rfl) (fun _ _ _ h => h) (Or.inl ⟨by rfl, ?_⟩) (by assumption) ?_
      rotate_left
      · intro W hW
        go_simp
        try rfl
      simp only [List.getElem_toArray, List.getElem_cons_zero, Act.put, List.setIfInBounds_toArray, List.set_cons_zero, List.set_cons_succ]
      refine wpAnyH_take (i := 1) (v := ?_) rfl (by kernel_rfl) (by kernel_rfl) (by kernel_rfl) (fun _ _ _ h => h) (Or.inl ⟨by rfl, ?_⟩) (by assumption) ?_
      rotate_left
      · intro W hW
        go_simp
        try rfl
      simp only [List.getElem_toArray, List.getElem_cons_succ, List.getElem_cons_zero, Act.put, List.setIfInBounds_toArray, List.set_cons_zero, List.set_cons_succ]
      refine wpAnyH_take (i := 2) (v := ?_) rfl (by kernel_rfl) (by kernel_rfl) (by kernel_rfl) (fun _ _ _ h => h) (Or.inl ⟨by rfl, ?_⟩) (by assumption) ?_
      rotate_left
      · intro W hW
        go_simp
        try rfl
      simp only [List.getElem_toArray, List.getElem_cons_succ, List.getElem_cons_zero, Act.put, List.setIfInBounds_toArray, List.set_cons_zero, List.set_cons_succ]
      refine wpAnyH_ready (rs := [3]) (by kernel_rfl) (by simp) ?_
      refine AllReadyH.cons rfl (fun K hK => ?_) AllReadyH.nil
      go_simp
      refine (HBT.out _).mono ?_
      rintro d w8 ⟨rfl, rfl⟩
      refine hK.out _ _ ⟨HP2d.out.kb.cell 0, HP2d.out.kp.cell 1⟩ (fun hHeld => ?_)
      clear hK K
      try simp only [List.getElem_toArray, List.getElem_cons_succ, List.getElem_cons_zero, Act.put, List.setIfInBounds_toArray, List.set_cons_zero, List.set_cons_succ]
      refine wpAnyH_ready (rs := [4]) (by kernel_rfl) (by simp) ?_
      refine AllReadyH.cons rfl (fun K hK => ?_) AllReadyH.nil
      go_simp
      refine HND.out.mono ?_
      rintro d w9 ⟨rfl, hb1, k1⟩
      refine hK.out _ _ ⟨(HP2d.out.rd hb1 k1 HN.out.1.1 HN.out.2.2.1 HN.out.2.1).kb.cell 0, (HP2d.out.rd hb1 k1 HN.out.1.1 HN.out.2.2.1 HN.out.2.1).kp.cell 1⟩ (fun hHeld => ?_)
      clear hK K
      try simp only [List.getElem_toArray, List.getElem_cons_succ, List.getElem_cons_zero, Act.put, List.setIfInBounds_toArray, List.set_cons_zero, List.set_cons_succ]
      have HP3 := hid (HP2d.out.rd hb1 k1 HN.out.1.1 HN.out.2.2.1 HN.out.2.1)
      clear hb1 k1
      refine wpAnyH_done (by kernel_rfl) ?_ _
      refine NoPanic.normal ?_
      clear hHeld HP2d HP2 HND HBT
      obtain ⟨p0, p1, _⟩ := HP3.out.kp.two
      obtain ⟨r0, r1, r2, r3, r4⟩ := HP3.out.kR.two
      go_wp2_with fail
      obtain ⟨wf, hwf⟩ : ∃ wf, wf = (w9.setCell ⟨w.heap.size, 0, none⟩ (.int .i64 T2)).setCell ⟨w.heap.size, 1, none⟩ (.int .i64 V2) := ⟨_, rfl⟩
      have kRf : Blk wf w.heap.size 47 #[.int .i64 T2, .int .i64 V2] := by rw [hwf]; exact HP3.out.kR.set2 _ _
      have kjf : JP q bx g wf (T2, V2) := by
        rw [hwf]
        have n1 : q ≠ w.heap.size := HN.out.1.2.1.symm
        have n2 : bx ≠ w.heap.size := HN.out.1.2.2.symm
        exact ⟨(HP3.out.kp.far (by simpa using n1) _).far (by simpa using n1) _, (HP3.out.kb.far (by simpa using n2) _).far (by simpa using n2) _⟩
      have ktf : RdAt wf g z2 e3 B n c := by
        rw [hwf]
        have n1 : g ≠ w.heap.size := HN.out.1.1.symm
        exact (HP3.out.kt.far (by simpa using n1) _).far (by simpa using n1) _
      have hff : ButS [g, q] w wf := by rw [hwf]; exact (HP3.out.fr.set (.inr (Nat.le_refl _)) _).set (.inr (Nat.le_refl _)) _
      rw [← hwf]
      have HFIN := hid (show RetOne vP idP noG noB (JP q bx g) [g, q] (fPt bs (T, V) z) e g B n c w (T2, V2) (T2, V2) z2 e3 (.returned (.agg #[.int .i64 T2, .int .i64 V2])) wf from
        ⟨rfl, hff, ktf, kjf, trivial, fun b hb => by simp at hb, HRES.out⟩)
      clear hwf kjf ktf hff
      obtain ⟨d0, d1, _⟩ := kRf.two
      refine bodyPost_ret (v := .agg #[.int .i64 T2, .int .i64 V2]) ?_ rfl ⟨_, _, _, _, HFIN.out⟩
      simp [results, Try.results121, go_sem, d0, d1]
  · go_simp
    refine HA1.out.mono ?_
    rintro d w1 ⟨v1, z1, e1, ⟨rfl, hb1, k1⟩, hr1⟩
    refine hK.out _ _ ((HP0d.out.rd hb1 k1 HN.out.1.1 HN.out.2.2.1 HN.out.2.1).kb.cell 0) (fun hHeld => ?_)
    clear hK K
    try simp only [List.getElem_toArray, List.getElem_cons_succ, List.getElem_cons_zero, Act.put, List.setIfInBounds_toArray, List.set_cons_zero, List.set_cons_succ]
    have HX1 := hid (HP0d.out.rd hb1 k1 HN.out.1.1 HN.out.2.2.1 HN.out.2.1)
    have HR1 := hid hr1
    clear hb1 k1 hr1
    have x1 : w1.cell? ⟨q, 0, none⟩ = some (.int .i64 T) := HX1.out.kp.cell 0
    refine wpAnyH_ready (rs := [1]) (by kernel_rfl) (by simp) ?_
    refine AllReadyH.cons rfl (fun K hK => ?_) AllReadyH.nil
    go_simp
    refine hK.out _ _ (HX1.out.kb.cell 0) (fun hHeld => ?_)
    clear hK K
    try simp only [List.getElem_toArray, List.getElem_cons_succ, List.getElem_cons_zero, Act.put, List.setIfInBounds_toArray, List.set_cons_zero, List.set_cons_succ]
    clear x1
    refine wpAnyH_take (i := 4) (v := ?_) rfl (by kernel_rfl) (by kernel_rfl) (by kernel_rfl) (fun _ _ _ h => h) (Or.inl ⟨by rfl, ?_⟩) (by assumption) ?_
    rotate_left
    · intro W hW
      go_simp
      try rfl
    simp only [List.getElem_toArray, List.getElem_cons_succ, List.getElem_cons_zero, Act.put, List.setIfInBounds_toArray, List.set_cons_zero, List.set_cons_succ]
    refine wpAnyH_take (i := 5) (v := ?_) rfl (by kernel_rfl) (by kernel_rfl) (by kernel_rfl) (fun _ _ _ h => h) (Or.inl ⟨by rfl, ?_⟩) (by assumption) ?_
    rotate_left
    · intro W hW
      go_simp
      try rfl
    simp only [List.getElem_toArray, List.getElem_cons_succ, List.getElem_cons_zero, Act.put, List.setIfInBounds_toArray, List.set_cons_zero, List.set_cons_succ]
    clear hHeld
    obtain ⟨T2, hT2⟩ : ∃ y, y = IntKind.i64.wrap (T + v1) := ⟨_, rfl⟩
    have x6 : w1.cell? ⟨q, 0, none⟩ = some (.int .i64 T) := HX1.out.kp.cell 0
    have y6 : w1.frozen? ⟨q, 0, none⟩ = false := HX1.out.kp.frozen 0
    have z6 : q < w1.heap.size := HX1.out.kp.lt
    have HP1 := hid (HX1.out.st 0 (.int .i64 T2) (T' := T2) (V' := V) rfl HN.out.1.2.1 HN.out.2.2.2.symm HN.out.2.2.1.symm)
    rw [hT2] at HP1
    refine wpAnyH_ready (rs := [6]) (by kernel_rfl) (by simp) ?_
    refine AllReadyH.cons rfl (fun K hK => ?_) AllReadyH.nil
    go_simp
    refine hK.out _ _ (HP1.out.kb.cell 0) (fun hHeld => ?_)
    clear hK K
    try simp only [List.getElem_toArray, List.getElem_cons_succ, List.getElem_cons_zero, Act.put, List.setIfInBounds_toArray, List.set_cons_zero, List.set_cons_succ]
    refine wpAnyH_done (by kernel_rfl) ?_ _
    refine NoPanic.normal ?_
    rw [← hT2] at HP1
    have HT2 := hid hT2
    obtain ⟨w1n, hw1n⟩ : ∃ y, y = w1.setCell ⟨q, 0, none⟩ (.int .i64 T2) := ⟨_, rfl⟩
    rw [← hw1n] at HP1
    rw [hT2] at hw1n
    go_upto_region 2 with fail
    rw [← hw1n]
    clear hw1n hT2 x6 y6 z6 HX1 hHeld HA1 HP0d HP0
    have HP1d := hid HP1.out.drew
    have HA2 := hid (rsigned HP1d.out.kt HP1d.out.hs)
    refine wp_region_noPanic ?_
    refine wp_region_held_drew (S := fun W => W.cell? ⟨bx, 0, none⟩ = some (.pointer (some ⟨g, 0, none⟩))) (by kernel_rfl) (HP1d.out.kb.cell 0) (fun hHeld => ?_)
    refine wpAnyH_take (i := 0) (v := ?_) rfl (by kernel_rfl) (by kernel_rfl) (by kernel_rfl) (fun _ _ _ h => h) (Or.inl ⟨by rfl, ?_⟩) (by assumption) ?_
    rotate_left
    · intro W hW
      go_simp
      try rfl
    simp only [List.getElem_toArray, List.getElem_cons_zero, Act.put, List.setIfInBounds_toArray, List.set_cons_zero, List.set_cons_succ]
    refine wpAnyH_take (i := 2) (v := ?_) rfl (by kernel_rfl) (by kernel_rfl) (by kernel_rfl) (fun _ _ _ h => h) (Or.inl ⟨by rfl, ?_⟩) (by assumption) ?_
    rotate_left
    · intro W hW
      go_simp
      try rfl
    simp only [List.getElem_toArray, List.getElem_cons_succ, List.getElem_cons_zero, Act.put, List.setIfInBounds_toArray, List.set_cons_zero, List.set_cons_succ]
    refine wpAnyH_ready (rs := [1, 3]) (by kernel_rfl) (by simp) ?_
    refine AllReadyH.cons rfl (fun K hK => ?_) (AllReadyH.cons rfl (fun K hK => ?_) AllReadyH.nil)
    · have x1 : w1n.drew.cell? ⟨q, 1, none⟩ = some (.int .i64 V) := HP1d.out.kp.cell 1
      go_simp
      refine hK.out _ _ (HP1d.out.kb.cell 0) (fun hHeld => ?_)
      clear hK K x1
      try simp only [List.getElem_toArray, List.getElem_cons_succ, List.getElem_cons_zero, Act.put, List.setIfInBounds_toArray, List.set_cons_zero, List.set_cons_succ]
      refine wpAnyH_ready (rs := [3]) (by kernel_rfl) (by simp) ?_
      refine AllReadyH.cons rfl (fun K hK => ?_) AllReadyH.nil
      go_simp
      refine HA2.out.mono ?_
      rintro d w2 ⟨v2, z2, e2, ⟨rfl, hb1, k1⟩, hr1⟩
      refine hK.out _ _ ((HP1d.out.rd hb1 k1 HN.out.1.1 HN.out.2.2.1 HN.out.2.1).kb.cell 0) (fun hHeld => ?_)
      clear hK K
      try simp only [List.getElem_toArray, List.getElem_cons_succ, List.getElem_cons_zero, Act.put, List.setIfInBounds_toArray, List.set_cons_zero, List.set_cons_succ]
      have HX2 := hid (HP1d.out.rd hb1 k1 HN.out.1.1 HN.out.2.2.1 HN.out.2.1)
      have HR2 := hid hr1
      clear hb1 k1 hr1
      refine wpAnyH_take (i := 4) (v := ?_) rfl (by kernel_rfl) (by kernel_rfl) (by kernel_rfl) (fun _ _ _ h => h) (Or.inl ⟨by rfl, ?_⟩) (by assumption) ?_
      rotate_left
      · intro W hW
        go_simp
        try rfl
      simp only [List.getElem_toArray, List.getElem_cons_succ, List.getElem_cons_zero, Act.put, List.setIfInBounds_toArray, List.set_cons_zero, List.set_cons_succ]
      refine wpAnyH_take (i := 5) (v := ?_) rfl (by kernel_rfl) (by kernel_rfl) (by kernel_rfl) (fun _ _ _ h => h) (Or.inl ⟨by rfl, ?_⟩) (by assumption) ?_
      rotate_left
      · intro W hW
        go_simp
        try rfl
      simp only [List.getElem_toArray, List.getElem_cons_succ, List.getElem_cons_zero, Act.put, List.setIfInBounds_toArray, List.set_cons_zero, List.set_cons_succ]
      clear hHeld
      obtain ⟨V2, hV2⟩ : ∃ y, y = IntKind.i64.wrap (V + v2) := ⟨_, rfl⟩
      have x6 : w2.cell? ⟨q, 1, none⟩ = some (.int .i64 V) := HX2.out.kp.cell 1
      have y6 : w2.frozen? ⟨q, 1, none⟩ = false := HX2.out.kp.frozen 1
      have z6 : q < w2.heap.size := HX2.out.kp.lt
      have HP2 := hid (HX2.out.st 1 (.int .i64 V2) (T' := T2) (V' := V2) rfl HN.out.1.2.1 HN.out.2.2.2.symm HN.out.2.2.1.symm)
      rw [hV2] at HP2
      refine wpAnyH_ready (rs := [6]) (by kernel_rfl) (by simp) ?_
      refine AllReadyH.cons rfl (fun K hK => ?_) AllReadyH.nil
      go_simp
      refine hK.out _ _ (HP2.out.kb.cell 0) (fun hHeld => ?_)
      clear hK K
      try simp only [List.getElem_toArray, List.getElem_cons_succ, List.getElem_cons_zero, Act.put, List.setIfInBounds_toArray, List.set_cons_zero, List.set_cons_succ]
      refine wpAnyH_done (by kernel_rfl) ?_ _
      refine NoPanic.normal ?_
      rw [← hV2] at HP2
      have HV2 := hid hV2
      obtain ⟨w2n, hw2n⟩ : ∃ y, y = w2.setCell ⟨q, 1, none⟩ (.int .i64 V2) := ⟨_, rfl⟩
      rw [← hw2n] at HP2
      rw [hV2] at hw2n
      go_upto_region 3 with fail
      rw [← hw2n]
      clear hw2n hV2 x6 y6 z6 HX2 hHeld HA2 HP1d HP1
      have HP2d := hid HP2.out.drew
      obtain ⟨b, hb⟩ : ∃ b, b = betB V2 (-2305843009213693952) 2305843009213693952 := ⟨_, rfl⟩
      obtain ⟨e3, he3⟩ : ∃ e3, e3 = (if e2 = 0 ∧ b = false then 7 else e2) := ⟨_, rfl⟩
      have HND := hid (rneed b 7 HP2d.out.kt)
      rw [← he3] at HND
      have HBT := hid (fun W => between_c V2 (-2305843009213693952) 2305843009213693952 W)
      rw [← hb] at HBT
      have HRES := hid (pt_res (s := (T, V)) HR1.out HR2.out HT2.out HV2.out hb he3)
      clear hb he3 HR1 HR2 HT2 HV2
      refine wp_region_noPanic ?_
      refine wp_region_held_drew (S := fun W => W.cell? ⟨bx, 0, none⟩ = some (.pointer (some ⟨g, 0, none⟩)) ∧ W.cell? ⟨q, 1, none⟩ = some (.int .i64 V2)) (by kernel_rfl) ⟨HP2d.out.kb.cell 0, HP2d.out.kp.cell 1⟩ (fun hHeld => ?_)
      refine wpAnyH_take (i := 0) (v := ?_) rfl (by kernel_rfl) (by kernel_rfl) (by kernel_rfl) (fun _ _ _ h => h) (Or.inl ⟨by rfl, ?_⟩) (by assumption) ?_
      rotate_left
      · intro W hW
        go_simp
        try rfl
      simp only [List.getElem_toArray, List.getElem_cons_zero, Act.put, List.setIfInBounds_toArray, List.set_cons_zero, List.set_cons_succ]
      refine wpAnyH_take (i := 1) (v := ?_) rfl (by kernel_rfl) (by kernel_rfl) (by kernel_rfl) (fun _ _ _ h => h) (Or.inl ⟨by rfl, ?_⟩) (by assumption) ?_
      rotate_left
      · intro W hW
        go_simp
        try rfl
      simp only [List.getElem_toArray, List.getElem_cons_succ, List.getElem_cons_zero, Act.put, List.setIfInBounds_toArray, List.set_cons_zero, List.set_cons_succ]
      refine wpAnyH_take (i := 2) (v := ?_) rfl (by kernel_rfl) (by kernel_rfl) (by kernel_rfl) (fun _ _ _ h => h) (Or.inl ⟨by rfl, ?_⟩) (by assumption) ?_
      rotate_left
      · intro W hW
        go_simp
        try rfl
      simp only [List.getElem_toArray, List.getElem_cons_succ, List.getElem_cons_zero, Act.put, List.setIfInBounds_toArray, List.set_cons_zero, List.set_cons_succ]
      refine wpAnyH_ready (rs := [3]) (by kernel_rfl) (by simp) ?_
      refine AllReadyH.cons rfl (fun K hK => ?_) AllReadyH.nil
      go_simp
      refine (HBT.out _).mono ?_
      rintro d w8 ⟨rfl, rfl⟩
      refine hK.out _ _ ⟨HP2d.out.kb.cell 0, HP2d.out.kp.cell 1⟩ (fun hHeld => ?_)
      clear hK K
      try simp only [List.getElem_toArray, List.getElem_cons_succ, List.getElem_cons_zero, Act.put, List.setIfInBounds_toArray, List.set_cons_zero, List.set_cons_succ]
      refine wpAnyH_ready (rs := [4]) (by kernel_rfl) (by simp) ?_
      refine AllReadyH.cons rfl (fun K hK => ?_) AllReadyH.nil
      go_simp
      refine HND.out.mono ?_
      rintro d w9 ⟨rfl, hb1, k1⟩
      refine hK.out _ _ ⟨(HP2d.out.rd hb1 k1 HN.out.1.1 HN.out.2.2.1 HN.out.2.1).kb.cell 0, (HP2d.out.rd hb1 k1 HN.out.1.1 HN.out.2.2.1 HN.out.2.1).kp.cell 1⟩ (fun hHeld => ?_)
      clear hK K
      try simp only [List.getElem_toArray, List.getElem_cons_succ, List.getElem_cons_zero, Act.put, List.setIfInBounds_toArray, List.set_cons_zero, List.set_cons_succ]
      have HP3 := hid (HP2d.out.rd hb1 k1 HN.out.1.1 HN.out.2.2.1 HN.out.2.1)
      clear hb1 k1
      refine wpAnyH_done (by kernel_rfl) ?_ _
      refine NoPanic.normal ?_
      clear hHeld HP2d HP2 HND HBT
      obtain ⟨p0, p1, _⟩ := HP3.out.kp.two
      obtain ⟨r0, r1, r2, r3, r4⟩ := HP3.out.kR.two
      go_wp2_with fail
      obtain ⟨wf, hwf⟩ : ∃ wf, wf = (w9.setCell ⟨w.heap.size, 0, none⟩ (.int .i64 T2)).setCell ⟨w.heap.size, 1, none⟩ (.int .i64 V2) := ⟨_, rfl⟩
      have kRf : Blk wf w.heap.size 47 #[.int .i64 T2, .int .i64 V2] := by rw [hwf]; exact HP3.out.kR.set2 _ _
      have kjf : JP q bx g wf (T2, V2) := by
        rw [hwf]
        have n1 : q ≠ w.heap.size := HN.out.1.2.1.symm
        have n2 : bx ≠ w.heap.size := HN.out.1.2.2.symm
        exact ⟨(HP3.out.kp.far (by simpa using n1) _).far (by simpa using n1) _, (HP3.out.kb.far (by simpa using n2) _).far (by simpa using n2) _⟩
      have ktf : RdAt wf g z2 e3 B n c := by
        rw [hwf]
        have n1 : g ≠ w.heap.size := HN.out.1.1.symm
        exact (HP3.out.kt.far (by simpa using n1) _).far (by simpa using n1) _
      have hff : ButS [g, q] w wf := by rw [hwf]; exact (HP3.out.fr.set (.inr (Nat.le_refl _)) _).set (.inr (Nat.le_refl _)) _
      rw [← hwf]
      have HFIN := hid (show RetOne vP idP noG noB (JP q bx g) [g, q] (fPt bs (T, V) z) e g B n c w (T2, V2) (T2, V2) z2 e3 (.returned (.agg #[.int .i64 T2, .int .i64 V2])) wf from
        ⟨rfl, hff, ktf, kjf, trivial, fun b hb => by simp at hb, HRES.out⟩)
      clear hwf kjf ktf hff
      obtain ⟨d0, d1, _⟩ := kRf.two
      refine bodyPost_ret (v := .agg #[.int .i64 T2, .int .i64 V2]) ?_ rfl ⟨_, _, _, _, HFIN.out⟩
      simp [results, Try.results121, go_sem, d0, d1]
    · go_simp
      refine HA2.out.mono ?_
      rintro d w2 ⟨v2, z2, e2, ⟨rfl, hb1, k1⟩, hr1⟩
      refine hK.out _ _ ((HP1d.out.rd hb1 k1 HN.out.1.1 HN.out.2.2.1 HN.out.2.1).kb.cell 0) (fun hHeld => ?_)
      clear hK K
      try simp only [List.getElem_toArray, List.getElem_cons_succ, List.getElem_cons_zero, Act.put, List.setIfInBounds_toArray, List.set_cons_zero, List.set_cons_succ]
      have HX2 := hid (HP1d.out.rd hb1 k1 HN.out.1.1 HN.out.2.2.1 HN.out.2.1)
      have HR2 := hid hr1
      clear hb1 k1 hr1
      have x1 : w2.cell? ⟨q, 1, none⟩ = some (.int .i64 V) := HX2.out.kp.cell 1
      refine wpAnyH_ready (rs := [1]) (by kernel_rfl) (by simp) ?_
      refine AllReadyH.cons rfl (fun K hK => ?_) AllReadyH.nil
      go_simp
      refine hK.out _ _ (HX2.out.kb.cell 0) (fun hHeld => ?_)
      clear hK K
      try simp only [List.getElem_toArray, List.getElem_cons_succ, List.getElem_cons_zero, Act.put, List.setIfInBounds_toArray, List.set_cons_zero, List.set_cons_succ]
      clear x1
      refine wpAnyH_take (i := 4) (v := ?_) rfl (by kernel_rfl) (by kernel_rfl) (by kernel_rfl) (fun _ _ _ h => h) (Or.inl ⟨by rfl, ?_⟩) (by assumption) ?_
      rotate_left
      · intro W hW
        go_simp
        try rfl
      simp only [List.getElem_toArray, List.getElem_cons_succ, List.getElem_cons_zero, Act.put, List.setIfInBounds_toArray, List.set_cons_zero, List.set_cons_succ]
      refine wpAnyH_take (i := 5) (v := ?_) rfl (by kernel_rfl) (by kernel_rfl) (by kernel_rfl) (fun _ _ _ h => h) (Or.inl ⟨by rfl, ?_⟩) (by assumption) ?_
      rotate_left
      · intro W hW
        go_simp
        try rfl
      simp only [List.getElem_toArray, List.getElem_cons_succ, List.getElem_cons_zero, Act.put, List.setIfInBounds_toArray, List.set_cons_zero, List.set_cons_succ]
      clear hHeld
      obtain ⟨V2, hV2⟩ : ∃ y, y = IntKind.i64.wrap (V + v2) := ⟨_, rfl⟩
      have x6 : w2.cell? ⟨q, 1, none⟩ = some (.int .i64 V) := HX2.out.kp.cell 1
      have y6 : w2.frozen? ⟨q, 1, none⟩ = false := HX2.out.kp.frozen 1
      have z6 : q < w2.heap.size := HX2.out.kp.lt
      have HP2 := hid (HX2.out.st 1 (.int .i64 V2) (T' := T2) (V' := V2) rfl HN.out.1.2.1 HN.out.2.2.2.symm HN.out.2.2.1.symm)
      rw [hV2] at HP2
      refine wpAnyH_ready (rs := [6]) (by kernel_rfl) (by simp) ?_
      refine AllReadyH.cons rfl (fun K hK => ?_) AllReadyH.nil
      go_simp
      refine hK.out _ _ (HP2.out.kb.cell 0) (fun hHeld => ?_)
      clear hK K
      try simp only [List.getElem_toArray, List.getElem_cons_succ, List.getElem_cons_zero, Act.put, List.setIfInBounds_toArray, List.set_cons_zero, List.set_cons_succ]
      refine wpAnyH_done (by kernel_rfl) ?_ _
      refine NoPanic.normal ?_
      rw [← hV2] at HP2
      have HV2 := hid hV2
      obtain ⟨w2n, hw2n⟩ : ∃ y, y = w2.setCell ⟨q, 1, none⟩ (.int .i64 V2) := ⟨_, rfl⟩
      rw [← hw2n] at HP2
      rw [hV2] at hw2n
      go_upto_region 3 with fail
      rw [← hw2n]
      clear hw2n hV2 x6 y6 z6 HX2 hHeld HA2 HP1d HP1
      have HP2d := hid HP2.out.drew
      obtain ⟨b, hb⟩ : ∃ b, b = betB V2 (-2305843009213693952) 2305843009213693952 := ⟨_, rfl⟩
      obtain ⟨e3, he3⟩ : ∃ e3, e3 = (if e2 = 0 ∧ b = false then 7 else e2) := ⟨_, rfl⟩
      have HND := hid (rneed b 7 HP2d.out.kt)
      rw [← he3] at HND
      have HBT := hid (fun W => between_c V2 (-2305843009213693952) 2305843009213693952 W)
      rw [← hb] at HBT
      have HRES := hid (pt_res (s := (T, V)) HR1.out HR2.out HT2.out HV2.out hb he3)
      clear hb he3 HR1 HR2 HT2 HV2
      refine wp_region_noPanic ?_
      refine wp_region_held_drew (S := fun W => W.cell? ⟨bx, 0, none⟩ = some (.pointer (some ⟨g, 0, none⟩)) ∧ W.cell? ⟨q, 1, none⟩ = some (.int .i64 V2)) (by kernel_rfl) ⟨HP2d.out.kb.cell 0, HP2d.out.kp.cell 1⟩ (fun hHeld => ?_)
      refine wpAnyH_take (i := 0) (v := ?_) rfl (by kernel_rfl) (by kernel_rfl) (by kernel_rfl) (fun _ _ _ h => h) (Or.inl ⟨by rfl, ?_⟩) (by assumption) ?_
      rotate_left
      · intro W hW
        go_simp
        try rfl
      simp only [List.getElem_toArray, List.getElem_cons_zero, Act.put, List.setIfInBounds_toArray, List.set_cons_zero, List.set_cons_succ]
      refine wpAnyH_take (i := 1) (v := ?_) rfl (by kernel_rfl) (by kernel_rfl) (by kernel_rfl) (fun _ _ _ h => h) (Or.inl ⟨by rfl, ?_⟩) (by assumption) ?_
      rotate_left
      · intro W hW
        go_simp
        try rfl
      simp only [List.getElem_toArray, List.getElem_cons_succ, List.getElem_cons_zero, Act.put, List.setIfInBounds_toArray, List.set_cons_zero, List.set_cons_succ]
      refine wpAnyH_take (i := 2) (v := ?_) rfl (by kernel_rfl) (by kernel_rfl) (by kernel_rfl) (fun _ _ _ h => h) (Or.inl ⟨by rfl, ?_⟩) (by assumption) ?_
      rotate_left
      · intro W hW
        go_simp
        try rfl
      simp only [List.getElem_toArray, List.getElem_cons_succ, List.getElem_cons_zero, Act.put, List.setIfInBounds_toArray, List.set_cons_zero, List.set_cons_succ]
      refine wpAnyH_ready (rs := [3]) (by kernel_rfl) (by simp) ?_
      refine AllReadyH.cons rfl (fun K hK => ?_) AllReadyH.nil
      go_simp
      refine (HBT.out _).mono ?_
      rintro d w8 ⟨rfl, rfl⟩
      refine hK.out _ _ ⟨HP2d.out.kb.cell 0, HP2d.out.kp.cell 1⟩ (fun hHeld => ?_)
      clear hK K
      try simp only [List.getElem_toArray, List.getElem_cons_succ, List.getElem_cons_zero, Act.put, List.setIfInBounds_toArray, List.set_cons_zero, List.set_cons_succ]
      refine wpAnyH_ready (rs := [4]) (by kernel_rfl) (by simp) ?_
      refine AllReadyH.cons rfl (fun K hK => ?_) AllReadyH.nil
      go_simp
      refine HND.out.mono ?_
      rintro d w9 ⟨rfl, hb1, k1⟩
      refine hK.out _ _ ⟨(HP2d.out.rd hb1 k1 HN.out.1.1 HN.out.2.2.1 HN.out.2.1).kb.cell 0, (HP2d.out.rd hb1 k1 HN.out.1.1 HN.out.2.2.1 HN.out.2.1).kp.cell 1⟩ (fun hHeld => ?_)
      clear hK K
      try simp only [List.getElem_toArray, List.getElem_cons_succ, List.getElem_cons_zero, Act.put, List.setIfInBounds_toArray, List.set_cons_zero, List.set_cons_succ]
      have HP3 := hid (HP2d.out.rd hb1 k1 HN.out.1.1 HN.out.2.2.1 HN.out.2.1)
      clear hb1 k1
      refine wpAnyH_done (by kernel_rfl) ?_ _
      refine NoPanic.normal ?_
      clear hHeld HP2d HP2 HND HBT
      obtain ⟨p0, p1, _⟩ := HP3.out.kp.two
      obtain ⟨r0, r1, r2, r3, r4⟩ := HP3.out.kR.two
      go_wp2_with fail
      obtain ⟨wf, hwf⟩ : ∃ wf, wf = (w9.setCell ⟨w.heap.size, 0, none⟩ (.int .i64 T2)).setCell ⟨w.heap.size, 1, none⟩ (.int .i64 V2) := ⟨_, rfl⟩
      have kRf : Blk wf w.heap.size 47 #[.int .i64 T2, .int .i64 V2] := by rw [hwf]; exact HP3.out.kR.set2 _ _
      have kjf : JP q bx g wf (T2, V2) := by
        rw [hwf]
        have n1 : q ≠ w.heap.size := HN.out.1.2.1.symm
        have n2 : bx ≠ w.heap.size := HN.out.1.2.2.symm
        exact ⟨(HP3.out.kp.far (by simpa using n1) _).far (by simpa using n1) _, (HP3.out.kb.far (by simpa using n2) _).far (by simpa using n2) _⟩
      have ktf : RdAt wf g z2 e3 B n c := by
        rw [hwf]
        have n1 : g ≠ w.heap.size := HN.out.1.1.symm
        exact (HP3.out.kt.far (by simpa using n1) _).far (by simpa using n1) _
      have hff : ButS [g, q] w wf := by rw [hwf]; exact (HP3.out.fr.set (.inr (Nat.le_refl _)) _).set (.inr (Nat.le_refl _)) _
      rw [← hwf]
      have HFIN := hid (show RetOne vP idP noG noB (JP q bx g) [g, q] (fPt bs (T, V) z) e g B n c w (T2, V2) (T2, V2) z2 e3 (.returned (.agg #[.int .i64 T2, .int .i64 V2])) wf from
        ⟨rfl, hff, ktf, kjf, trivial, fun b hb => by simp at hb, HRES.out⟩)
      clear hwf kjf ktf hff
      obtain ⟨d0, d1, _⟩ := kRf.two
      refine bodyPost_ret (v := .agg #[.int .i64 T2, .int .i64 V2]) ?_ rfl ⟨_, _, _, _, HFIN.out⟩
      simp [results, Try.results121, go_sem, d0, d1]
end
end Go.Proofs.Ytgdnpmjmkcccoaa
