/- Manifest: Decode. -/
import Derived.Test.YtgdnpmjmkcccoaaManR
namespace Go.Proofs.Ytgdnpmjmkcccoaa
open Go.RowKit Go.Shelf VB
open Go.Lib (hid)
set_option linter.unusedVariables false
set_option linter.unusedSimpArgs false
/-- rows that were decoded -/
abbrev MadeR (lo : Nat) (xs : List RoA) (C : Option Addr) (f : Nat) (w : World) : Prop := Made 42 7 cellsR RoOwn blksR lo xs C f w
def RetDec (r : Except Int (List Ro)) (w : World) (d : Ending) (w' : World) : Prop :=
  match r with
  | .error x => d = .returned (.tuple #[.agg #[.slice none 0 0], .int .i64 x]) ∧ Below w.heap.size w w'
  | .ok l => ∃ xs C f, d = .returned (.tuple #[.agg #[.slice C xs.length f], .int .i64 0]) ∧ Below w.heap.size w w' ∧ xs.map RoA.d = l ∧ xs.length ≤ 8 ∧ MadeR w.heap.size xs C f w'
theorem Made.man {lo : Nat} {xs : List RoA} {C : Option Addr} {f : Nat} {w : World} (h : MadeR lo xs C f w) (hl : xs.length ≤ 8) : ManIn w C xs.length f xs :=
  ⟨⟨_, Reads.of_own h.own⟩, fun x hx => (h.good x hx).inn, by omega⟩
theorem Made.keep {lo : Nat} {xs : List RoA} {C : Option Addr} {f : Nat} {w w' : World} (h : MadeR lo xs C f w) (hs : w.heap.size ≤ w'.heap.size) (hk : ∀ b, lo ≤ b → b < w.heap.size → w'.heap[b]? = w.heap[b]?) : MadeR lo xs C f w' :=
  ⟨own_same h.own (fun b hb => hk b (h.own.lt b hb).1 (h.own.lt b hb).2), fun x hx => (h.good x hx).same (fun b hb => hk b (h.fresh x hx b hb).1 (h.fresh x hx b hb).2.1),
   fun x hx b hb => ⟨(h.fresh x hx b hb).1, Nat.lt_of_lt_of_le (h.fresh x hx b hb).2.1 hs, (h.fresh x hx b hb).2.2⟩, h.apart⟩
theorem Made.below {lo : Nat} {xs : List RoA} {C : Option Addr} {f : Nat} {w w' : World} (h : MadeR lo xs C f w) (hb : Below w.heap.size w w') : MadeR lo xs C f w' := h.keep hb.size (fun b _ h => hb.block b h)
theorem Made.but {lo g : Nat} {xs : List RoA} {C : Option Addr} {f : Nat} {w w' : World} (h : MadeR lo xs C f w) (hb : But g w w') (hg : g < lo) : MadeR lo xs C f w' := h.keep hb.size (fun b h1 h2 => hb.block b h2 (by omega))
theorem Made.set {lo : Nat} {xs : List RoA} {C : Option Addr} {f : Nat} {w : World} (h : MadeR lo xs C f w) {a : Addr} (ha : a.block < lo) (u : Value) : MadeR lo xs C f (w.setCell a u) := h.keep (by simp) (fun b h1 _ => Below.heap_setCell _ _ _ b (by omega))
theorem Made.low {lo lo' : Nat} {xs : List RoA} {C : Option Addr} {f : Nat} {w : World} (h : MadeR lo xs C f w) (hl : lo' ≤ lo) : MadeR lo' xs C f w :=
  ⟨own_low h.own hl, h.good, fun x hx b hb => ⟨Nat.le_trans hl (h.fresh x hx b hb).1, (h.fresh x hx b hb).2⟩, h.apart⟩
theorem dec_of {bs : List Nat} {l : List Ro} {u : Unit} {z : Nat} {e1 e2 v : Int} {k z1 : Nat} (h1 : Res 0 (plainS bs 8 0) (fun d => v = (d : Nat)) z1 e1) (hk : k = min v.toNat 8) (h2 : Res e1 (sevS (fRow bs) k () z1) (fun d => d = (l, u)) z e2) {b : Bool} (hb : b = (decide (z = bs.length) && decide (manOk l = true))) {e3 : Int} (h3 : e3 = if e2 = 0 ∧ b = false then 7 else e2) : (e3 = 0 ∧ decM bs = .ok l) ∨ (e3 ≠ 0 ∧ decM bs = .error e3) := by
  have hr : Res 0 (rdM1 bs) (fun d => d = (l, u)) z e2 := by
    unfold rdM1
    refine Res.bind h1 h2 (fun d he ho hv => ?_)
    have := (plainS_ok ho).2
    rw [hk, hv, Int.toNat_natCast, Nat.min_eq_left this]
  unfold decM
  rcases hr with ⟨_, h4, d, h5, h6⟩ | ⟨h4, h5, _⟩
  · subst h6 h4
    rw [h5]
    simp only
    by_cases hc : z = bs.length ∧ manOk l = true
    · rw [if_pos hc]
      left
      rw [decide_eq_true hc.1, decide_eq_true hc.2] at hb
      rw [hb, if_neg (by simp)] at h3
      exact ⟨h3, rfl⟩
    · rw [if_neg hc]
      right
      have : b = false := by
        rw [hb]
        by_cases h1 : z = bs.length
        · rw [decide_eq_false (fun h2 => hc ⟨h1, h2⟩), Bool.and_false]
        · rw [decide_eq_false h1]; rfl
      rw [if_pos ⟨rfl, this⟩] at h3
      rw [h3]
      exact ⟨by decide, rfl⟩
  · rw [h5 rfl]
    rw [if_neg (fun h => h4 h.1)] at h3
    rw [h3]
    exact .inr ⟨h4, rfl⟩
set_option maxRecDepth 100000 in
set_option maxHeartbeats 4000000 in
theorem Decode_c {B : Option Addr} {n c : Nat} {bs : List Nat} {w : World} (hs : Src w B n c bs) :
    Calls Try.prog 20 #[.slice B n c] w (RetDec (decM bs) w) := by
  obtain ⟨wb, hwb⟩ : ∃ wb, wb = (w.alloc (.cells #[.slice none 0 0] 24)).alloc (.cells (rdM 0 0 B n c) 85) := ⟨_, rfl⟩
  obtain ⟨g, hg⟩ : ∃ g, g = w.heap.size + 1 := ⟨_, rfl⟩
  have hB : Below w.heap.size w wb := by rw [hwb]; exact ((Below.refl _ _).alloc (Nat.le_refl _) _).alloc (by simp) _
  have hsz : wb.heap.size = w.heap.size + 2 := by rw [hwb]; simp
  have K0 := hid (show Blk wb w.heap.size 24 #[.slice none 0 0] by rw [hwb]; exact (Blk.new _ _ _).alloc _)
  have KT := hid (show RdAt wb g 0 0 B n c by rw [hwb, hg]; exact Blk.new_at _ _ _ (by simp))
  have HS := hid (hs.below hB)
  have HB := hid hB
  have HO := hid (rplain (most := 8) KT.out HS.out (by decide))
  have HBL := hid hs.len
  have hmf : ∀ (fn : Fn) (first cap : Array Value) (w : World), (Instr.makeFunc fn first cap).run Try.prog w = .ok (.func fn first cap) w := fun _ _ _ _ => rfl
  clear hs hB
  rw [hwb, hg] at HO
  go_enter Try.func20, Try.ntmps20
  go_wp2_with fail
  refine HO.out.mono ?_
  rintro d w1 ⟨v, z1, e1, ⟨rfl, hb1, k1⟩, hr1⟩
  rw [← hwb] at hb1
  have hbB : But g wb w1 := by rw [hg]; exact hb1
  have K1 := hid (K0.out.but hbB (by omega))
  have HR1 := hid hr1
  have HB1 := hid (show Below w.heap.size w w1 from But.below HB.out hbB (by omega) (by omega))
  rw [← hg] at k1
  have hS1 := HS.out.butM hbB KT.out.typed
  have hz1 := hbB.size
  have HSV := hid (sev_r (f := fRow bs) (dat := RoA.d) (Good := RoOwn) (blks := blksR) (J := fun _ (_ : Unit) => True) (S := [g]) (bs := bs) (g := g) ⟨g, 0, none⟩ v (min v.toNat 8) () z1 e1 w1
    (fun he => by
      rcases hr1 with ⟨_, _, d, h1, h2⟩ | ⟨h1, _⟩
      · have h3 := (plainS_ok h1).2
        rw [h2, Int.toNat_natCast, Nat.min_eq_left h3]
      · exact absurd he h1) (by omega) (fun _ _ _ h hk => h.same hk) (fun _ _ _ _ _ => trivial) (fun k hk => by simp at hk; subst hk; exact k1.lt) (by simp)
    (fun W hW => hS1.butM hW.but k1.typed) trivial k1 (fun W s z hW _ hr => rrow hr (hS1.butM hW.but k1.typed)))
  have hk1l := k1.lt
  clear hbB hr1 hb1 k1 hS1 HO HS
  rw [hg] at HSV
  go_wp2_with fail
  refine HSV.out.mono ?_
  rintro d w2 ⟨xs, C, f, u, z2, e2, rfl, hsv, k2, hr2, hxl⟩
  rw [← hg] at k2
  have hk2l := k2.lt
  have hz2 := hsv.fr.size
  have hfr2 := hsv.fr
  rw [← hg] at hfr2
  have hb2 : But g w1 w2 := hfr2.but
  obtain ⟨w3, hw3⟩ : ∃ w3, w3 = w2.alloc (.cells #[.slice C xs.length f] 24) := ⟨_, rfl⟩
  have hb3 : Below w2.heap.size w2 w3 := by rw [hw3]; exact (Below.refl _ _).alloc (Nat.le_refl _) _
  have K3 := hid (show Blk w3 w2.heap.size 24 #[.slice C xs.length f] by rw [hw3]; exact Blk.new w2 _ _)
  have K0' := hid ((K1.out.but hb2 (by omega)).under hb3)
  have KT3 := hid (k2.under hb3)
  have HB3 := hid (show Below w.heap.size w w3 from (But.below HB1.out hb2 (by omega) (by omega)).trans (hb3.mono (by omega)))
  have HMD := hid (Made.below (lo := w1.heap.size) (w := w2) ⟨hsv.own, hsv.good, hsv.fresh, hsv.apart⟩ hb3)
  have hlo : w.heap.size + 2 ≤ w1.heap.size := by omega
  have HMB := hid (fun w4 w5 (h4 : Below w3.heap.size w3 w4) (h5 : But (w.heap.size + 1) w4 w5) => (HMD.out.below h4).but h5 (by omega))
  have HMS := hid (fun w5 (h5 : MadeR w1.heap.size xs C f w5) (u : Value) => (h5.set (a := ⟨w.heap.size, 0, none⟩) (by simp; omega) u).low (lo' := w.heap.size) (by omega))
  have HR2 := hid hr2
  have HXL := hid (show xs.length ≤ 8 by omega)
  clear hsv k2 hr2 hxl hfr2 hb2 hb3 HSV K0 K1 KT
  go_upto_region 3 with fail
  rw [← hw3]
  clear hw3
  have g2 : w2.heap.size < w3.heap.size := K3.out.lt
  obtain ⟨c0, c1, c2, f0, f1, hlt⟩ := rd_cells KT3.out
  rw [hg] at c0 c1 c2 f0 f1 hlt
  by_cases hzn : z2 = n
  · have t1 : ((z2 : Int) == (n : Int)) = true := by simp [hzn]
    have t2 : decide ((z2 : Int) = (n : Int)) = true := by simp [hzn]
    have m3 : w3.cell? ⟨w2.heap.size, 0, none⟩ = some (.slice C xs.length f) := K3.out.cell 0
    obtain ⟨es, hes⟩ : ∃ es, es = manE (xs.map RoA.d) := ⟨_, rfl⟩
    have HC := hid (Check_c C xs.length f xs w3 (Made.man HMD.out HXL.out))
    rw [← hes] at HC
    obtain ⟨q, hq⟩ : ∃ q, q = (es == 0) := ⟨_, rfl⟩
    have hq' : (es == 0) = q := hq.symm
    have HQ := hid (show q = (decide (z2 = bs.length) && decide (manOk (xs.map RoA.d) = true)) by
      rw [hq, hes, decide_eq_true (show z2 = bs.length by rw [HBL.out]; exact hzn), Bool.true_and]
      unfold manE
      by_cases h : manOk (xs.map RoA.d) = true
      · rw [if_pos h, decide_eq_true h]; rfl
      · rw [if_neg h, decide_eq_false h]; rfl)
    clear hzn hes hq
    go_wp2_with fail
    refine HC.out.mono ?_
    rintro e w4 ⟨rfl, hb4⟩
    have HKX := hid (KT3.out.under hb4)
    have HBX := hid (HB3.out.trans (hb4.mono HB3.out.size))
    have KX3 := hid (K3.out.under hb4)
    have KX0 := hid (K0'.out.under hb4)
    have HMX := hid (fun w5 (hb5 : But (w.heap.size + 1) w4 w5) => HMB.out w4 w5 hb4 hb5)
    clear c0 c1 c2 f0 f1 hlt m3 hb4
    go_wp2_with fail
    obtain ⟨e3, he3⟩ : ∃ e3, e3 = (if e2 = 0 ∧ q = false then 7 else e2) := ⟨_, rfl⟩
    have HND := hid (rneed q 7 HKX.out)
    rw [← he3] at HND
    have HE3 := hid he3
    clear he3
    rw [hg] at HND
    refine HND.out.mono ?_
    rintro d w5 ⟨rfl, hb5, k5⟩
    have hn2 : w2.heap.size ≠ w.heap.size + 1 := by omega
    have hn0 : w.heap.size ≠ w.heap.size + 1 := by omega
    have HB5 := hid (show Below w.heap.size w w5 from But.below HBX.out hb5 (by omega) HBX.out.size)
    have HK5 := hid (And.intro (KX3.out.but hb5 hn2) (KX0.out.but hb5 hn0))
    have HM5 := hid (HMX.out w5 hb5)
    have HDEC := hid (dec_of (b := q) HR1.out rfl HR2.out HQ.out HE3.out)
    obtain ⟨c0, c1, c2, f0, f1, hlt⟩ := rd_cells k5
    have m0 : w5.cell? ⟨w.heap.size, 0, none⟩ = some (.slice none 0 0) := HK5.out.2.cell 0
    have mf : w5.frozen? ⟨w.heap.size, 0, none⟩ = false := HK5.out.2.frozen 0
    have m3 : w5.cell? ⟨w2.heap.size, 0, none⟩ = some (.slice C xs.length f) := HK5.out.1.cell 0
    have ml : w.heap.size < w5.heap.size := HK5.out.2.lt
    clear hb5 k5 HND KX3 KX0 HMX HBX
    by_cases he : e3 = 0
    · have t5 : (e3 != 0) = false := by simp [he]
      have HF := hid (show RetDec (decM bs) w (.returned (.tuple #[.agg #[.slice C xs.length f], .int .i64 0])) (w5.setCell ⟨w.heap.size, 0, none⟩ (.slice C xs.length f)) by
        rcases HDEC.out with ⟨_, h⟩ | ⟨h, _⟩
        · rw [h]
          exact ⟨xs, C, f, rfl, HB5.out.setCell (p := ⟨w.heap.size, 0, none⟩) (by simp) _, rfl, HXL.out, HMS.out w5 HM5.out _⟩
        · exact absurd he h)
      have kf := HK5.out.2.set_ 0 (.slice C xs.length f)
      have d0 : (w5.setCell ⟨w.heap.size, 0, none⟩ (.slice C xs.length f)).cell? ⟨w.heap.size, 0, none⟩ = some (.slice C xs.length f) := kf.cell 0
      clear kf he
      go_wp2_with fail
      refine bodyPost_ret (v := .tuple #[.agg #[.slice C xs.length f], .int .i64 0]) ?_ rfl HF.out
      simp [results, Try.results20, go_sem, d0]
    · have t5 : (e3 != 0) = true := by simp [he]
      have HF := hid (show RetDec (decM bs) w (.returned (.tuple #[.agg #[.slice none 0 0], .int .i64 e3])) ((w5.setCell ⟨w.heap.size, 0, none⟩ (.slice none 0 0)).drew) by
        rcases HDEC.out with ⟨h, _⟩ | ⟨_, h⟩
        · exact absurd h he
        · rw [h]
          exact ⟨rfl, (HB5.out.setCell (p := ⟨w.heap.size, 0, none⟩) (by simp) _).drew⟩)
      clear he
      go_wp2_with fail
      refine wp_region_noPanic ?_
      refine wp_region_held_drew (S := (fun W => W.cell? ⟨w.heap.size + 1, 1, none⟩ = some (.int .i64 e3))) (by kernel_rfl) c1 (fun hHeld => ?_)
      refine wpAnyH_take (i := 0) (v := ?_) rfl (by kernel_rfl) (by kernel_rfl) (by kernel_rfl) (fun _ _ _ h => h) (Or.inl ⟨by rfl, ?_⟩) (by assumption) ?_
      rotate_left
      · intro W hW
        go_simp
        try rfl
      simp only [List.getElem_toArray, List.getElem_cons_zero, Act.put, List.setIfInBounds_toArray, List.set_cons_zero, List.set_cons_succ]
      refine wpAnyH_take (i := 1) (v := ?_) rfl (by kernel_rfl) (by kernel_rfl) (by kernel_rfl) (fun _ _ _ h => h) (Or.inl ⟨by rfl, ?_⟩) (by assumption) ?_
      rotate_left
      · intro W hW
        go_simp
        try rfl
      simp only [List.getElem_toArray, List.getElem_cons_succ, List.getElem_cons_zero, Act.put, List.setIfInBounds_toArray, List.set_cons_zero, List.set_cons_succ]
      refine wpAnyH_take (i := 2) (v := ?_) rfl (by kernel_rfl) (by kernel_rfl) (by kernel_rfl) (fun _ _ _ h => h) (Or.inl ⟨by rfl, ?_⟩) (by assumption) ?_
      rotate_left
      · intro W hW
        go_simp
        try rfl
      simp only [List.getElem_toArray, List.getElem_cons_succ, List.getElem_cons_zero, Act.put, List.setIfInBounds_toArray, List.set_cons_zero, List.set_cons_succ]
      refine wpAnyH_take (i := 3) (v := ?_) rfl (by kernel_rfl) (by kernel_rfl) (by kernel_rfl) (fun _ _ _ h => h) (Or.inl ⟨by rfl, ?_⟩) (by assumption) ?_
      rotate_left
      · intro W hW
        go_simp
        try rfl
      simp only [List.getElem_toArray, List.getElem_cons_succ, List.getElem_cons_zero, Act.put, List.setIfInBounds_toArray, List.set_cons_zero, List.set_cons_succ]
      refine wpAnyH_take (i := 4) (v := ?_) rfl (by kernel_rfl) (by kernel_rfl) (by kernel_rfl) (fun _ _ _ h => h) (Or.inl ⟨by rfl, ?_⟩) (by assumption) ?_
      rotate_left
      · intro W hW
        go_simp
        try rfl
      simp only [List.getElem_toArray, List.getElem_cons_succ, List.getElem_cons_zero, Act.put, List.setIfInBounds_toArray, List.set_cons_zero, List.set_cons_succ]
      refine wpAnyH_take (i := 5) (v := ?_) rfl (by kernel_rfl) (by kernel_rfl) (by kernel_rfl) (fun _ _ _ h => h) (Or.inl ⟨by rfl, ?_⟩) (by assumption) ?_
      rotate_left
      · intro W hW
        go_simp
        try rfl
      simp only [List.getElem_toArray, List.getElem_cons_succ, List.getElem_cons_zero, Act.put, List.setIfInBounds_toArray, List.set_cons_zero, List.set_cons_succ]
      have x1 : (w5.setCell ⟨w.heap.size, 0, none⟩ (.slice none 0 0)).drew.cell? ⟨w.heap.size + 1, 1, none⟩ = some (.int .i64 e3) := (World.cell?_setCell_far w5 _ _ _ (by simp)).trans c1
      refine wpAnyH_ready (rs := [6]) (by kernel_rfl) (by simp) ?_
      refine AllReadyH.cons rfl (fun K hK => ?_) AllReadyH.nil
      go_simp
      refine hK.out _ _ x1 (fun hHeld => ?_)
      clear hK K
      try simp only [List.getElem_toArray, List.getElem_cons_succ, List.getElem_cons_zero, Act.put, List.setIfInBounds_toArray, List.set_cons_zero, List.set_cons_succ]
      refine wpAnyH_take (i := 7) (v := ?_) rfl (by kernel_rfl) (by kernel_rfl) (by kernel_rfl) (fun _ _ _ h => h) (Or.inl ⟨by rfl, ?_⟩) (by assumption) ?_
      rotate_left
      · intro W hW
        go_simp
        try rfl
      simp only [List.getElem_toArray, List.getElem_cons_succ, List.getElem_cons_zero, Act.put, List.setIfInBounds_toArray, List.set_cons_zero, List.set_cons_succ]
      refine wpAnyH_done (by kernel_rfl) ?_ _
      refine NoPanic.normal ?_
      have d0 : (w5.setCell ⟨w.heap.size, 0, none⟩ (.slice none 0 0)).drew.cell? ⟨w.heap.size, 0, none⟩ = some (.slice none 0 0) := (HK5.out.2.set_ 0 (.slice none 0 0)).cell 0
      go_wp2_with fail
      refine bodyPost_ret (v := .tuple #[.agg #[.slice none 0 0], .int .i64 e3]) ?_ rfl HF.out
      simp [results, Try.results20, go_sem, d0]
  · have t1 : ((z2 : Int) == (n : Int)) = false := by simp; omega
    have t2 : decide ((z2 : Int) = (n : Int)) = false := by simp; omega
    have HQ := hid (show false = (decide (z2 = bs.length) && decide (manOk (xs.map RoA.d) = true)) by
      rw [decide_eq_false (show ¬ z2 = bs.length by rw [HBL.out]; exact hzn)]; rfl)
    have HKX := KT3
    have HBX := HB3
    have KX3 := K3
    have KX0 := K0'
    have HMX := hid (fun w5 (hb5 : But (w.heap.size + 1) w3 w5) => HMB.out w3 w5 (Below.refl _ _) hb5)
    clear hzn
    go_wp2_with fail
    clear c0 c1 c2 f0 f1 hlt
    obtain ⟨e3, he3⟩ : ∃ e3, e3 = (if e2 = 0 ∧ false = false then 7 else e2) := ⟨_, rfl⟩
    have HND := hid (rneed false 7 HKX.out)
    rw [← he3] at HND
    have HE3 := hid he3
    clear he3
    rw [hg] at HND
    refine HND.out.mono ?_
    rintro d w5 ⟨rfl, hb5, k5⟩
    have hn2 : w2.heap.size ≠ w.heap.size + 1 := by omega
    have hn0 : w.heap.size ≠ w.heap.size + 1 := by omega
    have HB5 := hid (show Below w.heap.size w w5 from But.below HBX.out hb5 (by omega) HBX.out.size)
    have HK5 := hid (And.intro (KX3.out.but hb5 hn2) (KX0.out.but hb5 hn0))
    have HM5 := hid (HMX.out w5 hb5)
    have HDEC := hid (dec_of (b := false) HR1.out rfl HR2.out HQ.out HE3.out)
    obtain ⟨c0, c1, c2, f0, f1, hlt⟩ := rd_cells k5
    have m0 : w5.cell? ⟨w.heap.size, 0, none⟩ = some (.slice none 0 0) := HK5.out.2.cell 0
    have mf : w5.frozen? ⟨w.heap.size, 0, none⟩ = false := HK5.out.2.frozen 0
    have m3 : w5.cell? ⟨w2.heap.size, 0, none⟩ = some (.slice C xs.length f) := HK5.out.1.cell 0
    have ml : w.heap.size < w5.heap.size := HK5.out.2.lt
    clear hb5 k5 HND KX3 KX0 HMX HBX
    by_cases he : e3 = 0
    · have t5 : (e3 != 0) = false := by simp [he]
      have HF := hid (show RetDec (decM bs) w (.returned (.tuple #[.agg #[.slice C xs.length f], .int .i64 0])) (w5.setCell ⟨w.heap.size, 0, none⟩ (.slice C xs.length f)) by
        rcases HDEC.out with ⟨_, h⟩ | ⟨h, _⟩
        · rw [h]
          exact ⟨xs, C, f, rfl, HB5.out.setCell (p := ⟨w.heap.size, 0, none⟩) (by simp) _, rfl, HXL.out, HMS.out w5 HM5.out _⟩
        · exact absurd he h)
      have kf := HK5.out.2.set_ 0 (.slice C xs.length f)
      have d0 : (w5.setCell ⟨w.heap.size, 0, none⟩ (.slice C xs.length f)).cell? ⟨w.heap.size, 0, none⟩ = some (.slice C xs.length f) := kf.cell 0
      clear kf he
      go_wp2_with fail
      refine bodyPost_ret (v := .tuple #[.agg #[.slice C xs.length f], .int .i64 0]) ?_ rfl HF.out
      simp [results, Try.results20, go_sem, d0]
    · have t5 : (e3 != 0) = true := by simp [he]
      have HF := hid (show RetDec (decM bs) w (.returned (.tuple #[.agg #[.slice none 0 0], .int .i64 e3])) ((w5.setCell ⟨w.heap.size, 0, none⟩ (.slice none 0 0)).drew) by
        rcases HDEC.out with ⟨h, _⟩ | ⟨_, h⟩
        · exact absurd h he
        · rw [h]
          exact ⟨rfl, (HB5.out.setCell (p := ⟨w.heap.size, 0, none⟩) (by simp) _).drew⟩)
      clear he
      go_wp2_with fail
      refine wp_region_noPanic ?_
      refine wp_region_held_drew (S := (fun W => W.cell? ⟨w.heap.size + 1, 1, none⟩ = some (.int .i64 e3))) (by kernel_rfl) c1 (fun hHeld => ?_)
      refine wpAnyH_take (i := 0) (v := ?_) rfl (by kernel_rfl) (by kernel_rfl) (by kernel_rfl) (fun _ _ _ h => h) (Or.inl ⟨by rfl, ?_⟩) (by assumption) ?_
      rotate_left
      · intro W hW
        go_simp
        try rfl
      simp only [List.getElem_toArray, List.getElem_cons_zero, Act.put, List.setIfInBounds_toArray, List.set_cons_zero, List.set_cons_succ]
      refine wpAnyH_take (i := 1) (v := ?_) rfl (by kernel_rfl) (by kernel_rfl) (by kernel_rfl) (fun _ _ _ h => h) (Or.inl ⟨by rfl, ?_⟩) (by assumption) ?_
      rotate_left
      · intro W hW
        go_simp
        try rfl
      simp only [List.getElem_toArray, List.getElem_cons_succ, List.getElem_cons_zero, Act.put, List.setIfInBounds_toArray, List.set_cons_zero, List.set_cons_succ]
      refine wpAnyH_take (i := 2) (v := ?_) rfl (by kernel_rfl) (by kernel_rfl) (by kernel_rfl) (fun _ _ _ h => h) (Or.inl ⟨by rfl, ?_⟩) (by assumption) ?_
      rotate_left
      · intro W hW
        go_simp
        try rfl
      simp only [List.getElem_toArray, List.getElem_cons_succ, List.getElem_cons_zero, Act.put, List.setIfInBounds_toArray, List.set_cons_zero, List.set_cons_succ]
      refine wpAnyH_take (i := 3) (v := ?_) rfl (by kernel_rfl) (by kernel_rfl) (by kernel_rfl) (fun _ _ _ h => h) (Or.inl ⟨by rfl, ?_⟩) (by assumption) ?_
      rotate_left
      · intro W hW
        go_simp
        try rfl
      simp only [List.getElem_toArray, List.getElem_cons_succ, List.getElem_cons_zero, Act.put, List.setIfInBounds_toArray, List.set_cons_zero, List.set_cons_succ]
      refine wpAnyH_take (i := 4) (v := ?_) rfl (by kernel_rfl) (by kernel_rfl) (by kernel_rfl) (fun _ _ _ h => h) (Or.inl ⟨by rfl, ?_⟩) (by assumption) ?_
      rotate_left
      · intro W hW
        go_simp
        try rfl
      simp only [List.getElem_toArray, List.getElem_cons_succ, List.getElem_cons_zero, Act.put, List.setIfInBounds_toArray, List.set_cons_zero, List.set_cons_succ]
      refine wpAnyH_take (i := 5) (v := ?_) rfl (by kernel_rfl) (by kernel_rfl) (by kernel_rfl) (fun _ _ _ h => h) (Or.inl ⟨by rfl, ?_⟩) (by assumption) ?_
      rotate_left
      · intro W hW
        go_simp
        try rfl
      simp only [List.getElem_toArray, List.getElem_cons_succ, List.getElem_cons_zero, Act.put, List.setIfInBounds_toArray, List.set_cons_zero, List.set_cons_succ]
      have x1 : (w5.setCell ⟨w.heap.size, 0, none⟩ (.slice none 0 0)).drew.cell? ⟨w.heap.size + 1, 1, none⟩ = some (.int .i64 e3) := (World.cell?_setCell_far w5 _ _ _ (by simp)).trans c1
      refine wpAnyH_ready (rs := [6]) (by kernel_rfl) (by simp) ?_
      refine AllReadyH.cons rfl (fun K hK => ?_) AllReadyH.nil
      go_simp
      refine hK.out _ _ x1 (fun hHeld => ?_)
      clear hK K
      try simp only [List.getElem_toArray, List.getElem_cons_succ, List.getElem_cons_zero, Act.put, List.setIfInBounds_toArray, List.set_cons_zero, List.set_cons_succ]
      refine wpAnyH_take (i := 7) (v := ?_) rfl (by kernel_rfl) (by kernel_rfl) (by kernel_rfl) (fun _ _ _ h => h) (Or.inl ⟨by rfl, ?_⟩) (by assumption) ?_
      rotate_left
      · intro W hW
        go_simp
        try rfl
      simp only [List.getElem_toArray, List.getElem_cons_succ, List.getElem_cons_zero, Act.put, List.setIfInBounds_toArray, List.set_cons_zero, List.set_cons_succ]
      refine wpAnyH_done (by kernel_rfl) ?_ _
      refine NoPanic.normal ?_
      have d0 : (w5.setCell ⟨w.heap.size, 0, none⟩ (.slice none 0 0)).drew.cell? ⟨w.heap.size, 0, none⟩ = some (.slice none 0 0) := (HK5.out.2.set_ 0 (.slice none 0 0)).cell 0
      go_wp2_with fail
      refine bodyPost_ret (v := .tuple #[.agg #[.slice none 0 0], .int .i64 e3]) ?_ rfl HF.out
      simp [results, Try.results20, go_sem, d0]
end Go.Proofs.Ytgdnpmjmkcccoaa
