/- Manifest: the reader's row. -/
import Derived.Test.YtgdnpmjmkcccoaaManO
namespace Go.Proofs.Ytgdnpmjmkcccoaa
open Go.RowKit Go.Shelf VB
open Go.Lib (hid)
set_option linter.unusedVariables false
set_option linter.unusedSimpArgs false
/-- a row -/
def rowM (bs : List Nat) (z : Nat) : Except Int (Ro × Nat) :=
  bindE (nameM bs z) fun nm z1 => bindE (plainS bs 1099511627776 z1) fun ep z2 => bindE (signS bs z2) fun sc z3 => if betB sc (-40) 40 = true then
    bindE (plainS bs 281474976710656 z3) fun fl z4 => bindE (plainS bs 281474976710657 z4) fun la z5 => bindE (entsM bs z5) fun en z6 => bindE (ptsM bs z6) fun op z7 =>
      .ok (⟨strN nm, (ep : Nat), (fl : Nat), wrap64 ((la : Nat) - 1), sc, en, op⟩, z7) else .error 7
abbrev zRow : Array Value := aR ⟨#[]⟩ 0 0 0 0 (.slice none 0 0) (.slice none 0 0)
/-- what there is while a row is read: the row E, the result R -/
structure RS (w : World) (R E g : Nat) (B : Option Addr) (n c : Nat) (bs : List Nat) (W : World) (nm : ByteArray) (ep fl la sc : Int) (en op : Value) (z : Nat) (e : Int) : Prop where
  fr : But g w W
  kR : Blk W R 42 zRow
  kE : Blk W E 42 (aR nm ep fl la sc en op)
  kt : RdAt W g z e B n c
  hs : Src W B n c bs
section
variable {w W W' : World} {R E g : Nat} {B : Option Addr} {n c : Nat} {bs : List Nat} {nm : ByteArray} {ep fl la sc : Int} {en op : Value} {z : Nat} {e : Int}
theorem RS.rd (h : RS w R E g B n c bs W nm ep fl la sc en op z e) {z1 : Nat} {e1 : Int} (hb : But g W W') (k : RdAt W' g z1 e1 B n c) (n1 : R ≠ g) (n2 : E ≠ g) : RS w R E g B n c bs W' nm ep fl la sc en op z1 e1 :=
  ⟨h.fr.trans hb, h.kR.but hb n1, h.kE.but hb n2, k, h.hs.butM hb h.kt.typed⟩
theorem RS.st (h : RS w R E g B n c bs W nm ep fl la sc en op z e) (i : Nat) (u : Value) {nm' : ByteArray} {ep' fl' la' sc' : Int} {en' op' : Value} (hu : (aR nm ep fl la sc en op).setIfInBounds i u = aR nm' ep' fl' la' sc' en' op') (hE : w.heap.size ≤ E) (n1 : R ≠ E) (n2 : g ≠ E) : RS w R E g B n c bs (W.setCell ⟨E, i, none⟩ u) nm' ep' fl' la' sc' en' op' z e :=
  ⟨h.fr.setn (by simpa using hE) u, h.kR.far (by simpa using n1) u, by have := h.kE.set_ i u; rwa [hu] at this, h.kt.far (by simpa using n2) u,
    ⟨h.hs.reads.setCell (p := ⟨E, i, none⟩) h.kE.typed (by decide) u, h.hs.hn, h.hs.hc, h.hs.hcm, h.hs.hbs⟩⟩
end
def fRow (bs : List Nat) (s : Unit) (z : Nat) : Except Int ((Ro × Unit) × Nat) := bindE (rowM bs z) fun r z1 => .ok ((r, ()), z1)
theorem row_res {bs : List Nat} {e e1 e2 e3 e4 e5 e6 e7 e8 : Int} {z z1 z2 z3 z4 z5 z6 z7 : Nat} {s : ByteArray} {v2 v3 v4 v5 la : Int} {b : Bool} {xs : List EnA} {ys : List (Int × Int)} {ea oa : Option Addr} {ec oc : Nat}
    (h1 : Res e (nameM bs z) (fun l => s = strN l) z1 e1) (h2 : Res e1 (plainS bs 1099511627776 z1) (fun d => v2 = (d : Nat)) z2 e2) (h3 : Res e2 (signS bs z2) (fun d => v3 = d) z3 e3) (hb : b = betB v3 (-40) 40) (h34 : e4 = (if e3 = 0 ∧ b = false then 7 else e3))
    (h4 : Res e4 (plainS bs 281474976710656 z3) (fun d => v4 = (d : Nat)) z4 e5) (h5 : Res e5 (plainS bs 281474976710657 z4) (fun d => v5 = (d : Nat)) z5 e6) (hla : la = wrap64 (v5 - 1)) (h6 : Res e6 (entsM bs z5) (fun l => l = xs.map Prod.fst) z6 e7) (h7 : Res e7 (ptsM bs z6) (fun l => l = ys.map idP) z7 e8) :
    Res e (fRow bs () z) (fun d => d = (RoA.d ⟨s, v2, v4, la, v3, xs, ea, ec, ys, oa, oc⟩, ())) z7 e8 := by
  unfold fRow rowM
  have hp : ∀ {α : Type} {S : Except Int (α × Nat)} {R : α → Prop} {a b : Int} {y : Nat}, Res a S R y b → a ≠ 0 → b = a := by
    intro α S R a b y h hn
    rcases h with ⟨h, _⟩ | ⟨_, _, h⟩
    · exact absurd h hn
    · exact h hn
  rcases h1 with ⟨h0, q1, d1, o1, a1⟩ | ⟨n1, o1, w1⟩
  · rcases h2 with ⟨_, q2, d2, o2, a2⟩ | ⟨n2, o2, w2⟩
    · rcases h3 with ⟨_, q3, d3, o3, a3⟩ | ⟨n3, o3, w3⟩
      · subst a3
        cases b with
        | true =>
          rw [if_neg (by simp)] at h34
          have q4x : e4 = 0 := by rw [h34, q3]
          have a3 : v3 = v3 := rfl
          rcases h4 with ⟨_, q4, d4, o4, a4⟩ | ⟨n4, o4, w4⟩
          · rcases h5 with ⟨_, q5, d5, o5, a5⟩ | ⟨n5, o5, w5⟩
            · rcases h6 with ⟨_, q6, d6, o6, a6⟩ | ⟨n6, o6, w6⟩
              · rcases h7 with ⟨_, q7, d7, o7, a7⟩ | ⟨n7, o7, w7⟩
                · rw [h0, q7]
                  refine .inl ⟨rfl, rfl, (RoA.d ⟨s, v2, v4, la, v3, xs, ea, ec, ys, oa, oc⟩, ()), ?_, rfl⟩
                  subst a1 a2 a4 a5 a6 a7
                  simp only [bindE, o1, o2, o3, o4, o5, o6, o7, if_pos hb.symm]
                  rw [hla]; simp [RoA.d, idP]
                · refine .inr ⟨n7, fun _ => ?_, fun h => absurd h0 h⟩
                  simp only [bindE, o1, o2, o3, o4, o5, o6, o7 q6, if_pos hb.symm]
              · have yh7 := hp h7 n6
                subst yh7
                refine .inr ⟨n6, fun _ => ?_, fun h => absurd h0 h⟩
                simp only [bindE, o1, o2, o3, o4, o5, o6 q5, if_pos hb.symm]
            · have yh6 := hp h6 n5
              subst yh6
              have yh7 := hp h7 n5
              subst yh7
              refine .inr ⟨n5, fun _ => ?_, fun h => absurd h0 h⟩
              simp only [bindE, o1, o2, o3, o4, o5 q4, if_pos hb.symm]
          · have yh5 := hp h5 n4
            subst yh5
            have yh6 := hp h6 n4
            subst yh6
            have yh7 := hp h7 n4
            subst yh7
            refine .inr ⟨n4, fun _ => ?_, fun h => absurd h0 h⟩
            simp only [bindE, o1, o2, o3, o4 q4x, if_pos hb.symm]
        | false =>
          rw [if_pos ⟨q3, rfl⟩] at h34
          have n4 : e4 ≠ 0 := by rw [h34]; decide
          have yh4 := hp h4 n4
          subst yh4
          have yh5 := hp h5 n4
          subst yh5
          have yh6 := hp h6 n4
          subst yh6
          have yh7 := hp h7 n4
          subst yh7
          refine .inr ⟨n4, fun _ => ?_, fun h => absurd h0 h⟩
          simp only [bindE, o1, o2, o3]
          rw [if_neg (by rw [← hb]; simp), h34]
      · rw [if_neg (fun h => n3 h.1)] at h34
        subst h34
        have yh4 := hp h4 n3
        subst yh4
        have yh5 := hp h5 n3
        subst yh5
        have yh6 := hp h6 n3
        subst yh6
        have yh7 := hp h7 n3
        subst yh7
        refine .inr ⟨n3, fun _ => ?_, fun h => absurd h0 h⟩
        simp only [bindE, o1, o2, o3 q2]
    · have yh3 := hp h3 n2
      subst yh3
      rw [if_neg (fun h => n2 h.1)] at h34
      subst h34
      have yh4 := hp h4 n2
      subst yh4
      have yh5 := hp h5 n2
      subst yh5
      have yh6 := hp h6 n2
      subst yh6
      have yh7 := hp h7 n2
      subst yh7
      refine .inr ⟨n2, fun _ => ?_, fun h => absurd h0 h⟩
      simp only [bindE, o1, o2 q1]
  · have yh2 := hp h2 n1
    subst yh2
    have yh3 := hp h3 n1
    subst yh3
    rw [if_neg (fun h => n1 h.1)] at h34
    subst h34
    have yh4 := hp h4 n1
    subst yh4
    have yh5 := hp h5 n1
    subst yh5
    have yh6 := hp h6 n1
    subst yh6
    have yh7 := hp h7 n1
    subst yh7
    refine .inr ⟨n1, fun h0 => ?_, w1⟩
    simp only [bindE, o1 h0]
structure RoOwn (W : World) (x : RoA) : Prop where
  en : W.ownsRow 0 45 5 (.slice x.ea x.en.length x.ec) x.en.length (x.en.flatMap cellsN)
  ens : ∀ e ∈ x.en, EnOwn W e
  op : W.ownsRow 0 47 2 (.slice x.oa x.op.length x.oc) x.op.length (x.op.flatMap cellsP)
  henl : x.en.length ≤ 256
  hopl : x.op.length ≤ 256
  hnm : x.nm.size ≤ 255
  ap : Apart blksE x.en
def blksR (x : RoA) : List Nat := (Value.slice x.ea x.en.length x.ec).ownBlock.toList ++ (x.en.flatMap blksE ++ (Value.slice x.oa x.op.length x.oc).ownBlock.toList)
theorem RoOwn.same {W W' : World} {x : RoA} (h : RoOwn W x) (hk : ∀ b ∈ blksR x, W'.heap[b]? = W.heap[b]?) : RoOwn W' x :=
  ⟨own_same h.en (fun b hb => hk b (by unfold blksR; rw [hb]; simp)), fun e he => (h.ens e he).same (fun b hb => hk b (by unfold blksR; simp only [List.mem_append, List.mem_flatMap]; exact .inr (.inl ⟨e, he, hb⟩))), own_same h.op (fun b hb => hk b (by unfold blksR; rw [hb]; simp)), h.henl, h.hopl, h.hnm, h.ap⟩
theorem RoOwn.inn {W : World} {x : RoA} (h : RoOwn W x) : RoIn W x := by
  refine ⟨⟨_, Reads.of_own h.en⟩, fun e he => ⟨⟨_, Reads.of_own (h.ens e he).1⟩, by have := (h.ens e he).2.1; omega⟩, ⟨_, Reads.of_own h.op⟩, by have := h.henl; omega, ?_, by have := h.hopl; omega, by have := h.hnm; omega, fun e he => (h.ens e he).2.2⟩
  have : ∀ l : List EnA, (∀ e ∈ l, e.1.ps.length ≤ 256) → (pgsA l).length ≤ l.length * 256 := by
    intro l
    induction l with
    | nil => intro _; simp [pgsA]
    | cons e l ih =>
      intro hh
      have h1 := hh e List.mem_cons_self
      have h2 := ih (fun y hy => hh y (List.mem_cons_of_mem _ hy))
      unfold pgsA at h2 ⊢
      rw [List.flatMap_cons, List.length_append, List.length_cons]
      omega
  have h1 := this x.en (fun e he => (h.ens e he).2.1)
  have h2 := h.henl
  omega
section
variable {w : World} {g : Nat} {B : Option Addr} {n c z : Nat} {bs : List Nat} {e : Int}
set_option maxRecDepth 100000 in
set_option maxHeartbeats 8000000 in
theorem rrow (kt : RdAt w g z e B n c) (hs : Src w B n c bs) :
    Calls Try.prog 53 #[.pointer (some ⟨g, 0, none⟩)] w fun d W' => ∃ x s' z1 e1, RetOne vR RoA.d RoOwn blksR (fun _ (_ : Unit) => True) [g] (fRow bs () z) e g B n c w x s' z1 e1 d W' := by
  obtain ⟨wb, hwb⟩ : ∃ wb, wb = w.alloc (.cells zRow 42) := ⟨_, rfl⟩
  have lg := kt.lt
  have hB : Below w.heap.size w wb := by rw [hwb]; exact (Below.refl _ _).alloc (Nat.le_refl _) _
  have HKR := hid (show Blk wb w.heap.size 42 zRow by rw [hwb]; exact Blk.new _ _ _)
  have HKT := hid (kt.under hB)
  have HSB := hid (hs.below hB)
  have HB := hid hB
  have HNM := hid (rname HKT.out HSB.out)
  rw [hwb] at HNM
  clear kt hs hB
  go_enter Try.func53, Try.ntmps53
  go_wp2_with fail
  refine HNM.out.mono ?_
  rintro d w1 ⟨s, z1, e1, rfl, hb1, k1, hr1, hns⟩
  have HNS := hid hns
  clear hns
  rw [← hwb] at hb1
  have hR := HKR.out.lt
  have hs1 := hb1.size
  obtain ⟨w2, hw2⟩ : ∃ w2, w2 = w1.alloc (.cells (aR s 0 0 0 0 (.slice none 0 0) (.slice none 0 0)) 42) := ⟨_, rfl⟩
  have HE2 := hid (show RS w w.heap.size w1.heap.size g B n c bs w2 s 0 0 0 0 (.slice none 0 0) (.slice none 0 0) z1 e1 by
    rw [hw2]
    exact ⟨((But.of_below HB.out).trans hb1).alloc _, (HKR.out.but hb1 (by omega)).alloc _, Blk.new _ _ _, k1.alloc _, (HSB.out.butM hb1 HKT.out.typed).alloc _⟩)
  have HN := hid (show w.heap.size ≠ g ∧ w1.heap.size ≠ g ∧ w.heap.size ≠ w1.heap.size ∧ g ≠ w1.heap.size ∧ w.heap.size ≤ w1.heap.size by omega)
  have HR1 := hid hr1
  clear hb1 k1 hr1 HNM HKR HKT HSB hs1 hR
  have HA := hid (rplain (most := 1099511627776) HE2.out.kt HE2.out.hs (by decide))
  rw [hw2] at HA
  go_wp2_with fail
  refine HA.out.mono ?_
  rintro d w3 ⟨v2, z2, e2, ⟨rfl, hb, k⟩, hr⟩
  rw [← hw2] at hb
  clear hw2
  have HE3 := hid (HE2.out.rd hb k HN.out.1 HN.out.2.1)
  have HR2 := hid hr
  clear hb k hr HA HE2
  obtain ⟨a0, a1, a2, a3, a4, a5, a6⟩ := HE3.out.kE.seven
  have ff := HE3.out.kE.frozen
  have lE := HE3.out.kE.lt
  have ff1 := ff 1
  go_upto_region 3 with fail
  have HE4 := hid (HE3.out.st 1 (.int .i64 v2) (nm' := s) (ep' := v2) (fl' := 0) (la' := 0) (sc' := 0) (en' := (.slice none 0 0)) (op' := (.slice none 0 0)) rfl HN.out.2.2.2.2 HN.out.2.2.1 HN.out.2.2.2.1)
  generalize w3.setCell ⟨w1.heap.size, 1, none⟩ (.int .i64 v2) = w3n at *
  clear a0 a1 a2 a3 a4 a5 a6 ff lE ff1 HE3
  have HA := hid (rsigned HE4.out.kt HE4.out.hs)
  go_wp2_with fail
  refine HA.out.mono ?_
  rintro d w4 ⟨v3, z3, e3, ⟨rfl, hb, k⟩, hr⟩
  have HE5 := hid (HE4.out.rd hb k HN.out.1 HN.out.2.1)
  have HR3 := hid hr
  clear hb k hr HA HE4
  obtain ⟨b, hbq⟩ : ∃ b, b = betB v3 (-40) 40 := ⟨_, rfl⟩
  obtain ⟨e4, he4⟩ : ∃ e4, e4 = (if e3 = 0 ∧ b = false then 7 else e3) := ⟨_, rfl⟩
  have HND := hid (rneed b 7 HE5.out.kt)
  rw [← he4] at HND
  have HBT := hid (between_c v3 (-40) 40 w4)
  rw [← hbq] at HBT
  have HQ := hid (And.intro hbq he4)
  clear hbq he4
  go_wp2_with fail
  refine HBT.out.mono ?_
  rintro d w8 ⟨rfl, rfl⟩
  go_wp2_with fail
  refine HND.out.mono ?_
  rintro d w5 ⟨rfl, hb, k⟩
  have HE6 := hid (HE5.out.rd hb k HN.out.1 HN.out.2.1)
  clear hb k HND HBT HE5
  obtain ⟨a0, a1, a2, a3, a4, a5, a6⟩ := HE6.out.kE.seven
  have ff := HE6.out.kE.frozen
  have lE := HE6.out.kE.lt
  have ff1 := ff 4
  go_upto_region 6 with fail
  have HE7 := hid (HE6.out.st 4 (.int .i64 v3) (nm' := s) (ep' := v2) (fl' := 0) (la' := 0) (sc' := v3) (en' := (.slice none 0 0)) (op' := (.slice none 0 0)) rfl HN.out.2.2.2.2 HN.out.2.2.1 HN.out.2.2.2.1)
  generalize w5.setCell ⟨w1.heap.size, 4, none⟩ (.int .i64 v3) = w5n at *
  clear a0 a1 a2 a3 a4 a5 a6 ff lE ff1 HE6
  have HA := hid (rplain (most := 281474976710656) HE7.out.kt HE7.out.hs (by decide))
  go_wp2_with fail
  refine HA.out.mono ?_
  rintro d w6 ⟨v4, z4, e5, ⟨rfl, hb, k⟩, hr⟩
  have HE8 := hid (HE7.out.rd hb k HN.out.1 HN.out.2.1)
  have HR4 := hid hr
  clear hb k hr HA HE7
  obtain ⟨a0, a1, a2, a3, a4, a5, a6⟩ := HE8.out.kE.seven
  have ff := HE8.out.kE.frozen
  have lE := HE8.out.kE.lt
  have ff1 := ff 2
  go_upto_region 7 with fail
  have HE9 := hid (HE8.out.st 2 (.int .i64 v4) (nm' := s) (ep' := v2) (fl' := v4) (la' := 0) (sc' := v3) (en' := (.slice none 0 0)) (op' := (.slice none 0 0)) rfl HN.out.2.2.2.2 HN.out.2.2.1 HN.out.2.2.2.1)
  generalize w6.setCell ⟨w1.heap.size, 2, none⟩ (.int .i64 v4) = w6n at *
  clear a0 a1 a2 a3 a4 a5 a6 ff lE ff1 HE8
  have HA := hid (rplain (most := 281474976710657) HE9.out.kt HE9.out.hs (by decide))
  go_wp2_with fail
  refine HA.out.mono ?_
  rintro d w7 ⟨v5, z5, e6, ⟨rfl, hb, k⟩, hr⟩
  have HE10 := hid (HE9.out.rd hb k HN.out.1 HN.out.2.1)
  have HR5 := hid hr
  clear hb k hr HA HE9
  obtain ⟨la, hla⟩ : ∃ la, la = wrap64 (v5 - 1) := ⟨_, rfl⟩
  have hla2 : wrap64 (v5 - 1) = la := hla.symm
  have HLA := hid hla
  clear hla
  obtain ⟨a0, a1, a2, a3, a4, a5, a6⟩ := HE10.out.kE.seven
  have ff := HE10.out.kE.frozen
  have lE := HE10.out.kE.lt
  have ff1 := ff 3
  go_upto_region 8 with fail
  have HE11 := hid (HE10.out.st 3 (.int .i64 la) (nm' := s) (ep' := v2) (fl' := v4) (la' := la) (sc' := v3) (en' := (.slice none 0 0)) (op' := (.slice none 0 0)) rfl HN.out.2.2.2.2 HN.out.2.2.1 HN.out.2.2.2.1)
  generalize w7.setCell ⟨w1.heap.size, 3, none⟩ (.int .i64 la) = w7n at *
  clear a0 a1 a2 a3 a4 a5 a6 ff lE ff1 HE10
  have hE7 := HE11.out.kE.lt
  have hR7 := HE11.out.kR.lt
  have hg7 := HE11.out.kt.lt
  have HA := hid (rents HE11.out.kt HE11.out.hs)
  go_wp2_with fail
  refine HA.out.mono ?_
  rintro d w9 ⟨xs, C, f, z6, e7, rfl, hb, hmd, k, hr, hxl⟩
  have HMD := hid hmd
  have HXL := hid hxl
  have hs9 := hb.size
  clear hmd hxl
  have HE12 := hid (HE11.out.rd hb k HN.out.1 HN.out.2.1)
  have HR6 := hid hr
  clear hb k hr HA HE11
  obtain ⟨a0, a1, a2, a3, a4, a5, a6⟩ := HE12.out.kE.seven
  have ff := HE12.out.kE.frozen
  have lE := HE12.out.kE.lt
  have ff1 := ff 5
  go_upto_region 9 with fail
  have HE13 := hid (HE12.out.st 5 (.slice C xs.length f) (nm' := s) (ep' := v2) (fl' := v4) (la' := la) (sc' := v3) (en' := (.slice C xs.length f)) (op' := (.slice none 0 0)) rfl HN.out.2.2.2.2 HN.out.2.2.1 HN.out.2.2.2.1)
  have HKw9 := hid (show (∀ b, w7n.heap.size ≤ b → (w9.setCell ⟨w1.heap.size, 5, none⟩ (.slice C xs.length f)).heap[b]? = w9.heap[b]?) ∧ (w9.setCell ⟨w1.heap.size, 5, none⟩ (.slice C xs.length f)).heap.size = w9.heap.size from ⟨fun b hb => Below.heap_setCell _ _ _ _ (by simp; omega), by simp⟩)
  generalize w9.setCell ⟨w1.heap.size, 5, none⟩ (.slice C xs.length f) = w9n at *
  clear a0 a1 a2 a3 a4 a5 a6 ff lE ff1 HE12
  have HA := hid (rpts HE13.out.kt HE13.out.hs)
  go_wp2_with fail
  refine HA.out.mono ?_
  rintro d w10 ⟨ys, C2, f2, z7, e8, rfl, hb, hmd, k, hr, hyl⟩
  have HMD2 := hid hmd
  have HYL := hid hyl
  clear hyl
  have HB10 := hid hb
  have hs10 := hb.size
  clear hmd
  have HE14 := hid (HE13.out.rd hb k HN.out.1 HN.out.2.1)
  have HR7 := hid hr
  clear hb k hr HA HE13
  obtain ⟨a0, a1, a2, a3, a4, a5, a6⟩ := HE14.out.kE.seven
  have ff := HE14.out.kE.frozen
  have lE := HE14.out.kE.lt
  have ff1 := ff 6
  go_upto_region 10 with fail
  have HE15 := hid (HE14.out.st 6 (.slice C2 ys.length f2) (nm' := s) (ep' := v2) (fl' := v4) (la' := la) (sc' := v3) (en' := (.slice C xs.length f)) (op' := (.slice C2 ys.length f2)) rfl HN.out.2.2.2.2 HN.out.2.2.1 HN.out.2.2.2.1)
  have HKw10 := hid (show (∀ b, w7n.heap.size ≤ b → (w10.setCell ⟨w1.heap.size, 6, none⟩ (.slice C2 ys.length f2)).heap[b]? = w10.heap[b]?) ∧ (w10.setCell ⟨w1.heap.size, 6, none⟩ (.slice C2 ys.length f2)).heap.size = w10.heap.size from ⟨fun b hb => Below.heap_setCell _ _ _ _ (by simp; omega), by simp⟩)
  generalize w10.setCell ⟨w1.heap.size, 6, none⟩ (.slice C2 ys.length f2) = w10n at *
  clear a0 a1 a2 a3 a4 a5 a6 ff lE ff1 HE14
  obtain ⟨a0, a1, a2, a3, a4, a5, a6⟩ := HE15.out.kE.seven
  obtain ⟨b0, b1, b2, b3, b4, b5, b6⟩ := HE15.out.kR.seven
  have fr0 := HE15.out.kR.frozen
  have lR := HE15.out.kR.lt
  go_wp2_with fail
  obtain ⟨wf, hwf⟩ : ∃ wf, wf = ((((((w10n.setCell ⟨w.heap.size, 0, none⟩ (.string s)).setCell ⟨w.heap.size, 1, none⟩ (.int .i64 v2)).setCell ⟨w.heap.size, 2, none⟩ (.int .i64 v4)).setCell ⟨w.heap.size, 3, none⟩ (.int .i64 la)).setCell ⟨w.heap.size, 4, none⟩ (.int .i64 v3)).setCell ⟨w.heap.size, 5, none⟩ (.slice C xs.length f)).setCell ⟨w.heap.size, 6, none⟩ (.slice C2 ys.length f2) := ⟨_, rfl⟩
  have kRf : Blk wf w.heap.size 42 (aR s v2 v4 la v3 (.slice C xs.length f) (.slice C2 ys.length f2)) := by rw [hwf]; exact ((((((HE15.out.kR.set_ 0 _).set_ 1 _).set_ 2 _).set_ 3 _).set_ 4 _).set_ 5 _).set_ 6 _
  have hkf : ∀ b, w7n.heap.size ≤ b → wf.heap[b]? = w10n.heap[b]? := by
    intro b hb
    have hn : b ≠ w.heap.size := by omega
    rw [hwf]
    exact (Below.heap_setCell _ _ _ b hn).trans ((Below.heap_setCell _ _ _ b hn).trans ((Below.heap_setCell _ _ _ b hn).trans ((Below.heap_setCell _ _ _ b hn).trans ((Below.heap_setCell _ _ _ b hn).trans ((Below.heap_setCell _ _ _ b hn).trans (Below.heap_setCell _ _ _ b hn))))))
  have hwfs : wf.heap.size = w10n.heap.size := by rw [hwf]; simp
  have ktf : RdAt wf g z7 e8 B n c := by
    rw [hwf]
    have n1 : g ≠ w.heap.size := HN.out.1.symm
    exact ((((((HE15.out.kt.far (by simpa using n1) _).far (by simpa using n1) _).far (by simpa using n1) _).far (by simpa using n1) _).far (by simpa using n1) _).far (by simpa using n1) _).far (by simpa using n1) _
  have hff : But g w wf := by
    rw [hwf]
    exact ((((((HE15.out.fr.setn (Nat.le_refl _) _).setn (Nat.le_refl _) _).setn (Nat.le_refl _) _).setn (Nat.le_refl _) _).setn (Nat.le_refl _) _).setn (Nat.le_refl _) _).setn (Nat.le_refl _) _
  have hs9n := HKw9.out.2
  have hs10n := HKw10.out.2
  have o1 : ∀ b, w7n.heap.size ≤ b → b < w9.heap.size → wf.heap[b]? = w9.heap[b]? := fun b h1 h2 =>
    (hkf b h1).trans ((HKw10.out.1 b h1).trans ((HB10.out.block b (by omega) (by omega)).trans (HKw9.out.1 b h1)))
  have o2 : ∀ b, w9.heap.size ≤ b → wf.heap[b]? = w10.heap[b]? := fun b h1 => (hkf b (by omega)).trans (HKw10.out.1 b (by omega))
  rw [← hwf]
  have hw7 : w.heap.size ≤ w7n.heap.size := by omega
  have HFIN := hid (show RetOne vR RoA.d RoOwn blksR (fun _ (_ : Unit) => True) [g] (fRow bs () z) e g B n c w ⟨s, v2, v4, la, v3, xs, C, f, ys, C2, f2⟩ () z7 e8 (.returned (.agg (aR s v2 v4 la v3 (.slice C xs.length f) (.slice C2 ys.length f2)))) wf from
    ⟨rfl, ButS.of_but hff (by simp), ktf, trivial,
      ⟨own_low (own_same HMD.out.own (fun b hb => o1 b (HMD.out.own.lt b hb).1 (HMD.out.own.lt b hb).2)) (Nat.zero_le _), fun x hx => (HMD.out.good x hx).same (fun b hb => o1 b (HMD.out.fresh x hx b hb).1 (HMD.out.fresh x hx b hb).2.1),
       own_low (own_same HMD2.out.own (fun b hb => o2 b (by have := (HMD2.out.own.lt b hb).1; omega))) (Nat.zero_le _), HXL.out, HYL.out, HNS.out, HMD.out.apart⟩,
      by
        intro b hb
        unfold blksR at hb
        simp only [List.mem_append, List.mem_flatMap, Option.mem_toList] at hb
        rcases hb with hb | ⟨x, hx, hb⟩ | hb
        · have := HMD.out.own.lt b hb; omega
        · have := HMD.out.fresh x hx b hb; omega
        · have := HMD2.out.own.lt b hb; omega,
      row_res HR1.out HR2.out HR3.out HQ.out.1 HQ.out.2 HR4.out HR5.out HLA.out HR6.out HR7.out⟩)
  clear hwf ktf hff hkf o1 o2
  obtain ⟨d0, d1, d2, d3, d4, d5, d6⟩ := kRf.seven
  refine bodyPost_ret (v := .agg (aR s v2 v4 la v3 (.slice C xs.length f) (.slice C2 ys.length f2))) ?_ rfl ⟨_, _, _, _, HFIN.out⟩
  simp [results, Try.results53, go_sem, d0, d1, d2, d3, d4, d5, d6]
end
end Go.Proofs.Ytgdnpmjmkcccoaa
