/- Manifest: the reader: need, plain, signed, one. -/
import Derived.Test.YtgdnpmjmkcccoaaManG
namespace Go.Proofs.Ytgdnpmjmkcccoaa
open Go.RowKit Go.Shelf VB
open Go.Lib (hid)
set_option linter.unusedVariables false
set_option linter.unusedSimpArgs false
/-- the reader's cells -/
abbrev rdM (z : Nat) (e : Int) (B : Option Addr) (n c : Nat) : Array Value := #[.int .i64 (z : Nat), .int .i64 e, .slice B n c]
abbrev RdAt (w : World) (g : Nat) (z : Nat) (e : Int) (B : Option Addr) (n c : Nat) : Prop := Blk w g 85 (rdM z e B n c)
def RetM (v : Value) (g : Nat) (z : Nat) (e : Int) (B : Option Addr) (n c : Nat) (w : World) (d : Ending) (w' : World) : Prop := d = .returned v ∧ But g w w' ∧ RdAt w' g z e B n c
theorem rd_cells {w : World} {g z : Nat} {e : Int} {B : Option Addr} {n c : Nat} (h : RdAt w g z e B n c) :
    w.cell? ⟨g, 0, none⟩ = some (.int .i64 (z : Nat)) ∧ w.cell? ⟨g, 1, none⟩ = some (.int .i64 e) ∧ w.cell? ⟨g, 2, none⟩ = some (.slice B n c) ∧ w.frozen? ⟨g, 0, none⟩ = false ∧ w.frozen? ⟨g, 1, none⟩ = false ∧ g < w.heap.size :=
  ⟨h.cell 0, h.cell 1, h.cell 2, h.frozen 0, h.frozen 1, h.lt⟩
theorem rd_at0 {w : World} {g z : Nat} {e : Int} {B : Option Addr} {n c : Nat} (h : RdAt w g z e B n c) (y : Nat) : RdAt (w.setCell ⟨g, 0, none⟩ (.int .i64 (y : Nat))) g y e B n c := h.set_ 0 _
theorem rd_at1 {w : World} {g z : Nat} {e : Int} {B : Option Addr} {n c : Nat} (h : RdAt w g z e B n c) (y : Int) : RdAt (w.setCell ⟨g, 1, none⟩ (.int .i64 y)) g z y B n c := h.set_ 1 _
theorem Src.butM {w w' : World} {B : Option Addr} {n c : Nat} {bs : List Nat} {g : Nat} (h : Src w B n c bs) (hb : But g w w') (ht : Typed w g 85) : Src w' B n c bs := ⟨h.reads.but hb ht (by decide), h.hn, h.hc, h.hcm, h.hbs⟩
/-- what has been read, and the first error -/
def Res {α : Type} (e0 : Int) (S : Except Int (α × Nat)) (R : α → Prop) (z1 : Nat) (e1 : Int) : Prop :=
  (e0 = 0 ∧ e1 = 0 ∧ ∃ d, S = .ok (d, z1) ∧ R d) ∨ (e1 ≠ 0 ∧ (e0 = 0 → S = .error e1) ∧ (e0 ≠ 0 → e1 = e0))
theorem Res.ok {α : Type} {S : Except Int (α × Nat)} {R : α → Prop} {z1 : Nat} {d : α} (h : S = .ok (d, z1)) (hr : R d) : Res 0 S R z1 0 := .inl ⟨rfl, rfl, d, h, hr⟩
theorem Res.err {α : Type} {S : Except Int (α × Nat)} {R : α → Prop} {z1 : Nat} {x : Int} (h : S = .error x) (hx : x ≠ 0) : Res 0 S R z1 x := .inr ⟨hx, fun _ => h, fun h => absurd rfl h⟩
theorem Res.was {α : Type} {S : Except Int (α × Nat)} {R : α → Prop} {z1 : Nat} {x : Int} (hx : x ≠ 0) : Res x S R z1 x := .inr ⟨hx, fun h => absurd h hx, fun _ => rfl⟩
section
variable {w : World} {g : Nat} {B : Option Addr} {n c z : Nat} {bs : List Nat} {e : Int}
theorem rneed (b : Bool) (x : Int) (kt : RdAt w g z e B n c) : Calls Try.prog 54 #[.pointer (some ⟨g, 0, none⟩), .bool b, .int .i64 x] w (RetM (.tuple #[]) g z (if e = 0 ∧ b = false then x else e) B n c w) := by
  obtain ⟨c0, c1, c2, f0, f1, hl⟩ := rd_cells kt
  obtain ⟨e', he'⟩ : ∃ e', e' = (if e = 0 ∧ b = false then x else e) := ⟨_, rfl⟩
  rw [← he']
  by_cases he : e = 0
  · have t : (e == 0) = true := by simp [he]
    have t' : decide (e = 0) = true := by simp [he]
    cases b with
    | true =>
      have HF := hid (show RetM (.tuple #[]) g z e' B n c w (.returned (.tuple #[])) w from ⟨rfl, But.refl _ _, by rw [he', if_neg (by simp)]; exact kt⟩)
      clear kt he he'
      go_enter Try.func54, Try.ntmps54
      go_wp2
      go_end0
      exact HF.out
    | false =>
      have HF := hid (show RetM (.tuple #[]) g z e' B n c w (.returned (.tuple #[])) (w.setCell ⟨g, 1, none⟩ (.int .i64 x)) from ⟨rfl, (But.refl g w).setg 1 _, by rw [he', if_pos ⟨he, rfl⟩]; exact rd_at1 kt x⟩)
      clear kt he he'
      go_enter Try.func54, Try.ntmps54
      go_wp2
      go_end0
      exact HF.out
  · have t : (e == 0) = false := by simp [he]
    have t' : decide (e = 0) = false := by simp [he]
    have HF := hid (show RetM (.tuple #[]) g z e' B n c w (.returned (.tuple #[])) w from ⟨rfl, But.refl _ _, by rw [he', if_neg (by simp [he])]; exact kt⟩)
    clear kt he he'
    go_enter Try.func54, Try.ntmps54
    go_wp2
    go_end0
    exact HF.out
/-- what one hands back -/
def oneS (bs : List Nat) (z : Nat) : Except Int (Nat × Nat) := if z < bs.length then .ok (bs.getD z 0, z + 1) else .error 6
def RetI (k : IntKind) (R : Int → Nat → Int → Prop) (g : Nat) (B : Option Addr) (n c : Nat) (w : World) (d : Ending) (w' : World) : Prop := ∃ v z1 e1, RetM (.int k v) g z1 e1 B n c w d w' ∧ R v z1 e1
set_option maxRecDepth 100000 in
set_option maxHeartbeats 400000 in
theorem rplain {most : Nat} (kt : RdAt w g z e B n c) (hs : Src w B n c bs) (hm : most ≤ 4611686018427387904) :
    Calls Try.prog 52 #[.pointer (some ⟨g, 0, none⟩), .int .i64 (most : Nat)] w (RetI .i64 (fun v z1 e1 => Res e (plainS bs most z) (fun d => v = (d : Nat)) z1 e1) g B n c w) := by
  obtain ⟨c0, c1, c2, f0, f1, hl⟩ := rd_cells kt
  by_cases he : e = 0
  · subst he
    obtain ⟨u, p, x, hg⟩ : ∃ u p x, gotN bs z = (u, p, x) := ⟨_, _, _, rfl⟩
    have HG := hid (fun w hs => GetU_s (w := w) (B := B) (n := n) (c := c) hs hg)
    have hs1 := hs.drew
    have hu : IntKind.u64.wrap (most : Int) = (most : Int) := by rw [IntKind.wrap_u64]; omega
    have HS := hid (show plainS bs most z = (if x = 0 then (if u ≤ most then .ok (u, p) else .error 7) else .error x) by unfold plainS; rw [hg])
    have KT := hid kt
    clear hs hg kt
    go_enter Try.func52, Try.ntmps52
    go_wp2_with fail
    go_region_held3 (fun w' => w'.cell? ⟨g, 2, none⟩ = some (.slice B n c) ∧ w'.cell? ⟨g, 0, none⟩ = some (.int .i64 (z : Nat)))
      (exact ⟨c2, c0⟩)
      (first | (go_at_call 86; refine (HG.out _ hs1).mono ?_; rintro e w2 ⟨rfl, rfl⟩))
    go_wp2_with fail
    clear c0 c1 c2 f0 f1 hl
    have HN1 := hid (rneed (x == 0) x KT.out.drew)
    rw [show (if (0 : Int) = 0 ∧ (x == 0) = false then x else 0) = x by by_cases h : x = 0 <;> simp [h]] at HN1
    refine HN1.out.mono ?_
    rintro e w2 ⟨rfl, hb2, k2⟩
    obtain ⟨q, hq⟩ : ∃ q, q = decide (u ≤ most) := ⟨_, rfl⟩
    have hq2 : decide ((u : Int) ≤ (most : Int)) = q := by rw [hq]; exact decide_eq_decide.2 (by omega)
    have hq3 : decide (u ≤ most) = q := hq.symm
    obtain ⟨e2, he2⟩ : ∃ e2, e2 = (if x = 0 ∧ q = false then 7 else x) := ⟨_, rfl⟩
    have HN2 := hid (rneed q 7 k2)
    rw [← he2] at HN2
    have HB2 := hid hb2
    have HE2 := hid he2
    have HQ := hid hq
    clear HN1 hb2 k2 he2 hq
    go_wp2_with fail
    refine HN2.out.mono ?_
    rintro e w3 ⟨rfl, hb3, k3⟩
    obtain ⟨c0, c1, c2, f0, f1, hl⟩ := rd_cells k3
    have HF := hid (show RetI .i64 (fun v z1 e1 => Res 0 (plainS bs most z) (fun d => v = (d : Nat)) z1 e1) g B n c w (.returned (.int .i64 (wrap64 (u : Int)))) (w3.setCell ⟨g, 0, none⟩ (.int .i64 (p : Nat))) from
      ⟨_, p, e2, ⟨rfl, ((HB2.out.undrew).trans hb3).setg 0 _, rd_at0 k3 p⟩, by
        rw [HE2.out, HQ.out, HS.out]
        by_cases h : x = 0
        · by_cases h2 : u ≤ most
          · rw [if_pos h, if_pos h2, decide_eq_true h2, if_neg (by simp), h]
            exact Res.ok rfl (by unfold wrap64; omega)
          · rw [if_pos h, if_neg h2, decide_eq_false h2, if_pos ⟨h, rfl⟩]
            exact Res.err rfl (by decide)
        · rw [if_neg h, if_neg (by simp [h])]
          exact Res.err rfl h⟩)
    clear k3 hb3 HN2 HB2 HE2 HQ HS hq2 hq3
    go_wp2_with fail
    go_ret
    exact HF.out
  · have t : (e == 0) = false := by simp [he]
    have t2 : (e != 0) = true := by simp [he]
    have HF := hid (show RetI .i64 (fun v z1 e1 => Res e (plainS bs most z) (fun d => v = (d : Nat)) z1 e1) g B n c w (.returned (.int .i64 0)) w from ⟨0, z, e, ⟨rfl, But.refl _ _, kt⟩, Res.was he⟩)
    clear kt he hs
    go_enter Try.func52, Try.ntmps52
    go_wp2_with fail
    go_ret
    exact HF.out
set_option maxRecDepth 100000 in
set_option maxHeartbeats 400000 in
theorem rsigned (kt : RdAt w g z e B n c) (hs : Src w B n c bs) :
    Calls Try.prog 88 #[.pointer (some ⟨g, 0, none⟩)] w (RetI .i64 (fun v z1 e1 => Res e (signS bs z) (fun d => v = d) z1 e1) g B n c w) := by
  obtain ⟨c0, c1, c2, f0, f1, hl⟩ := rd_cells kt
  by_cases he : e = 0
  · subst he
    obtain ⟨u, p, x, hg⟩ : ∃ u p x, gotN bs z = (u, p, x) := ⟨_, _, _, rfl⟩
    have HG := hid (fun w hs => Get_s (w := w) (B := B) (n := n) (c := c) hs hg)
    have hs1 := hs.drew
    have HS := hid (show signS bs z = (if x = 0 then .ok (unf u, p) else .error x) by unfold signS; rw [hg])
    have KT := hid kt
    clear hs hg kt
    generalize unf u = v at *
    go_enter Try.func88, Try.ntmps88
    go_wp2_with fail
    go_region_held3 (fun w' => w'.cell? ⟨g, 2, none⟩ = some (.slice B n c) ∧ w'.cell? ⟨g, 0, none⟩ = some (.int .i64 (z : Nat)))
      (exact ⟨c2, c0⟩)
      (first | (go_at_call 115; refine (HG.out _ hs1).mono ?_; rintro e w2 ⟨rfl, rfl⟩))
    go_wp2_with fail
    clear c0 c1 c2 f0 f1 hl
    have HN1 := hid (rneed (x == 0) x KT.out.drew)
    rw [show (if (0 : Int) = 0 ∧ (x == 0) = false then x else 0) = x by by_cases h : x = 0 <;> simp [h]] at HN1
    refine HN1.out.mono ?_
    rintro e w2 ⟨rfl, hb2, k2⟩
    obtain ⟨c0, c1, c2, f0, f1, hl⟩ := rd_cells k2
    have HF := hid (show RetI .i64 (fun v z1 e1 => Res 0 (signS bs z) (fun d => v = d) z1 e1) g B n c w (.returned (.int .i64 v)) (w2.setCell ⟨g, 0, none⟩ (.int .i64 (p : Nat))) from
      ⟨_, p, x, ⟨rfl, (hb2.undrew).setg 0 _, rd_at0 k2 p⟩, by
        rw [HS.out]
        by_cases h : x = 0
        · rw [if_pos h, h]
          exact Res.ok rfl rfl
        · rw [if_neg h]
          exact Res.err rfl h⟩)
    clear k2 hb2 HN1 HS
    go_wp2_with fail
    go_ret
    exact HF.out
  · have t : (e == 0) = false := by simp [he]
    have t2 : (e != 0) = true := by simp [he]
    have HF := hid (show RetI .i64 (fun v z1 e1 => Res e (signS bs z) (fun d => v = d) z1 e1) g B n c w (.returned (.int .i64 0)) w from ⟨0, z, e, ⟨rfl, But.refl _ _, kt⟩, Res.was he⟩)
    clear kt he hs
    go_enter Try.func88, Try.ntmps88
    go_wp2_with fail
    go_ret
    exact HF.out
set_option maxRecDepth 100000 in
set_option maxHeartbeats 400000 in
theorem rone (kt : RdAt w g z e B n c) (hs : Src w B n c bs) :
    Calls Try.prog 112 #[.pointer (some ⟨g, 0, none⟩)] w (RetI .u8 (fun v z1 e1 => (0 ≤ v ∧ v < 256) ∧ Res e (oneS bs z) (fun d => v = (d : Nat)) z1 e1) g B n c w) := by
  have hl := hs.len
  have hn6 := hs.hn
  obtain ⟨q, hq⟩ : ∃ q, q = decide (z < n) := ⟨_, rfl⟩
  have hq2 : decide ((z : Int) < (n : Int)) = q := by rw [hq]; exact decide_eq_decide.2 (by omega)
  have hq3 : decide (z < n) = q := hq.symm
  obtain ⟨e2, he2⟩ : ∃ e2, e2 = (if e = 0 ∧ q = false then 6 else e) := ⟨_, rfl⟩
  have HN := hid (rneed q 6 kt.drew)
  rw [← he2] at HN
  have KT := hid kt
  have HS := hid hs
  have HE := hid he2
  have HQ := hid hq
  obtain ⟨c0, c1, c2, f0, f1, hlt⟩ := rd_cells kt
  clear kt hs he2 hq
  go_enter Try.func112, Try.ntmps112
  go_wp2_with fail
  go_region_held3 (fun w' => w'.cell? ⟨g, 2, none⟩ = some (.slice B n c) ∧ w'.cell? ⟨g, 0, none⟩ = some (.int .i64 (z : Nat)))
    (first | exact ⟨c2, c0⟩ | exact ⟨k2.cell 2, k2.cell 0⟩)
    (first | (go_at_call 54; refine HN.out.mono ?_; rintro e w2 ⟨rfl, hb2, k2⟩))
  clear c0 c1 c2 f0 f1 hlt HN
  obtain ⟨c0, c1, c2, f0, f1, hlt⟩ := rd_cells k2
  by_cases h2 : e2 = 0
  · have t : (e2 != 0) = false := by simp [h2]
    have he : e = 0 := by
      have := HE.out
      rw [h2] at this
      by_cases h : e = 0 ∧ q = false
      · rw [if_pos h] at this; cases this
      · rw [if_neg h] at this; exact this.symm
    have hz : z < n := by
      have := HE.out
      rw [h2] at this
      by_cases h : q = false
      · rw [if_pos ⟨he, h⟩] at this; cases this
      · have h3 := HQ.out
        rw [h3] at h
        simpa using h
    have hs2 := (HS.out.drew.butM hb2 KT.out.drew.typed)
    obtain ⟨w4, hw4⟩ : ∃ w4, w4 = w2.setCell ⟨g, 0, none⟩ (.int .i64 ((z : Int) + 1)) := ⟨_, rfl⟩
    have hbut : But g w w4 := by rw [hw4]; exact hb2.undrew.setg 0 _
    have k4 : RdAt w4 g (z + 1) e2 B n c := by rw [hw4]; exact rd_at0 k2 (z + 1)
    have hs4 : Src w4 B n c bs := HS.out.butM hbut KT.out.typed
    obtain ⟨ad, hB, hcx⟩ := bsV_at hs4.reads hz
    obtain ⟨cv, hcv⟩ : ∃ cv, cv = bs.getD z 0 := ⟨_, rfl⟩
    rw [← hcv] at hcx
    have hcb : cv < 256 := by
      rw [hcv, List.getD_eq_getElem?_getD, List.getElem?_eq_getElem (by omega)]
      exact hs4.hbs _ (List.getElem_mem _)
    have HF := hid (fun q => (show RetI .u8 (fun v z1 e1 => (0 ≤ v ∧ v < 256) ∧ Res e (oneS bs z) (fun d => v = (d : Nat)) z1 e1) g B n c w (.returned (.int .u8 (cv : Nat))) (w4.drewN q) from
      ⟨_, z + 1, e2, ⟨rfl, ⟨hbut.os, hbut.tape, hbut.output, hbut.size, hbut.block⟩, k4.drewN q⟩, ⟨by omega, by omega⟩, by rw [he, h2]; exact Res.ok (d := cv) (by unfold oneS; rw [if_pos (by omega), hcv]) rfl⟩))
    have hw : wrap64 ((z : Int) + 1) = (z : Int) + 1 := by unfold wrap64; omega
    have hzi : (z : Int) < n := by omega
    have hz0 : (0 : Int) ≤ z := by omega
    have hzc : z < c := Nat.lt_of_lt_of_le hz hs4.hc
    have hzw : IntKind.i64.wrap (z : Int) = (z : Int) := by rw [IntKind.wrap_i64]; omega
    clear hcv hs2 h2 he k2 hb2 hbut hs4 HS KT HE HQ hq2 hq3
    subst hB
    go_upto_region 5 with fail
    rw [← hw4]
    clear hw4 c0 c1 c2 f0 f1 hlt
    obtain ⟨c0, c1, c2, f0, f1, hlt⟩ := rd_cells k4
    clear k4
    go_region_held3 (fun w' => w'.cell? ⟨g, 2, none⟩ = some (.slice (some ad) n c) ∧ w'.cell? ⟨g, 0, none⟩ = some (.int .i64 ((z : Int) + 1)) ∧ w'.cell? (ad.add z) = some (.int .u8 (cv : Nat)))
      (exact ⟨c2, c0, hcx⟩)
      (fail)
    go_wp2
    go_ret
    exact HF.out 1
  · have t : (e2 != 0) = true := by simp [h2]
    have HF := hid (show RetI .u8 (fun v z1 e1 => (0 ≤ v ∧ v < 256) ∧ Res e (oneS bs z) (fun d => v = (d : Nat)) z1 e1) g B n c w (.returned (.int .u8 0)) w2 from
      ⟨_, z, e2, ⟨rfl, hb2.undrew, k2⟩, ⟨by omega, by omega⟩, by
        have h3 := HE.out
        by_cases h : e = 0
        · rw [h]
          by_cases hq : q = false
          · rw [if_pos ⟨h, hq⟩] at h3
            rw [h3]
            have hz : ¬ z < n := by
              have h4 := HQ.out
              rw [hq] at h4
              simpa using h4.symm
            exact Res.err (by unfold oneS; rw [if_neg (by omega)]) (by decide)
          · rw [if_neg (fun hh => hq hh.2)] at h3
            exact absurd (h3.trans h) h2
        · rw [if_neg (fun hh => h hh.1)] at h3
          rw [h3]
          exact Res.was h⟩)
    clear h2 k2 hb2 HS KT HE HQ hq2 hq3
    go_wp2_with fail
    go_ret
    exact HF.out
end
end Go.Proofs.Ytgdnpmjmkcccoaa
