/- Manifest: the reader's points, all. -/
import Derived.Test.YtgdnpmjmkcccoaaManM
namespace Go.Proofs.Ytgdnpmjmkcccoaa
open Go.RowKit Go.Shelf VB
open Go.Lib (hid)
set_option linter.unusedVariables false
set_option linter.unusedSimpArgs false
def ptsM (bs : List Nat) (z : Nat) : Except Int (List (Int × Int) × Nat) := bindE (plainS bs 31 z) fun m z1 => bindE (sevS (fPt bs) m (0, 0) z1) fun p z2 => .ok (p.1, z2)
section
variable {w : World} {g : Nat} {B : Option Addr} {n c z : Nat} {bs : List Nat} {e : Int}
set_option maxRecDepth 100000 in
set_option maxHeartbeats 2000000 in
theorem rpts (kt : RdAt w g z e B n c) (hs : Src w B n c bs) :
    Calls Try.prog 90 #[.pointer (some ⟨g, 0, none⟩)] w (RetMade 47 2 cellsP idP noG noB (ptsM bs z) e g B n c w) := by
  obtain ⟨wb, hwb⟩ : ∃ wb, wb = (w.alloc (.cells #[.pointer (some ⟨g, 0, none⟩)] 81)).alloc (.cells #[.int .i64 0, .int .i64 0] 47) := ⟨_, rfl⟩
  have hlt := kt.lt
  have HB0 := hid (show Below w.heap.size w wb by rw [hwb]; exact ((Below.refl _ _).alloc (Nat.le_refl _) _).alloc (by simp) _)
  have hsz : wb.heap.size = w.heap.size + 2 := by rw [hwb]; simp
  have KJ := hid (show JP (w.heap.size + 1) w.heap.size g wb (0, 0) by rw [hwb]; exact ⟨Blk.new_at _ _ _ (by simp), (Blk.new _ _ _).alloc _⟩)
  have KT := hid (kt.under HB0.out)
  have HS := hid (hs.below HB0.out)
  have HO := hid (rplain (most := 31) KT.out.drew HS.out.drew (by decide))
  have hmf : ∀ (fn : Fn) (first cap : Array Value) (w : World), (Instr.makeFunc fn first cap).run Try.prog w = .ok (.func fn first cap) w := fun _ _ _ _ => rfl
  clear kt hs
  go_enter Try.func90, Try.ntmps90
  go_upto_region 2 with fail
  rw [← hwb]
  clear hwb
  refine wp_region_noPanic ?_
  refine wp_region_held_drew (S := fun W => W.cell? ⟨w.heap.size, 0, none⟩ = some (.pointer (some ⟨g, 0, none⟩))) (by kernel_rfl) (KJ.out.2.drew.cell 0) (fun hHeld => ?_)
  refine wpAnyH_take (i := 0) (v := ?_) rfl (by kernel_rfl) (by kernel_rfl) (by kernel_rfl) (fun _ _ _ h => h) (Or.inl ⟨by rfl, ?_⟩) (by assumption) ?_
  rotate_left
  · intro W hW
    go_simp
    try rfl
  simp only [List.getElem_toArray, List.getElem_cons_zero, Act.put, List.setIfInBounds_toArray, List.set_cons_zero, List.set_cons_succ]
  refine wpAnyH_take (i := 1) (v := ?_) rfl (by kernel_rfl) (by kernel_rfl) (by kernel_rfl) (fun _ _ _ h => h) (Or.inl ⟨by rfl, ?_⟩) (by assumption) ?_
  rotate_left
  · intro W hW
    go_simp
    try rfl
  simp only [List.getElem_toArray, List.getElem_cons_succ, List.getElem_cons_zero, Act.put, List.setIfInBounds_toArray, List.set_cons_zero, List.set_cons_succ]
  refine wpAnyH_take (i := 3) (v := ?_) rfl (by kernel_rfl) (by kernel_rfl) (by kernel_rfl) (fun _ _ _ h => h) (Or.inl ⟨by rfl, ?_⟩) (by assumption) ?_
  rotate_left
  · intro W hW
    go_simp
    try rfl
  simp only [List.getElem_toArray, List.getElem_cons_succ, List.getElem_cons_zero, Act.put, List.setIfInBounds_toArray, List.set_cons_zero, List.set_cons_succ]
  refine wpAnyH_ready (rs := [2]) (by kernel_rfl) (by simp) ?_
  refine AllReadyH.cons rfl (fun K hK => ?_) AllReadyH.nil
  go_simp
  refine HO.out.mono ?_
  rintro d w1 ⟨v, z1, e1, ⟨rfl, hb1, k1⟩, hr1⟩
  refine hK.out _ _ ((KJ.out.2.drew.but hb1 (by omega)).cell 0) (fun hHeld => ?_)
  clear hK K
  try simp only [List.getElem_toArray, List.getElem_cons_succ, List.getElem_cons_zero, Act.put, List.setIfInBounds_toArray, List.set_cons_zero, List.set_cons_succ]
  have hj1 : JP (w.heap.size + 1) w.heap.size g w1 (0, 0) := ⟨KJ.out.1.drew.but hb1 (by omega), KJ.out.2.drew.but hb1 (by omega)⟩
  have hs1 : Src w1 B n c bs := HS.out.drew.butM hb1 KT.out.drew.typed
  have hz1 := hb1.size
  have HSV := hid (sev_p (f := fPt bs) (dat := idP) (Good := noG) (blks := noB) (J := JP (w.heap.size + 1) w.heap.size g) (S := [g, w.heap.size + 1]) (bs := bs) ⟨w.heap.size + 1, 0, none⟩ ⟨w.heap.size, 0, none⟩ v (min v.toNat 31) (0, 0) z1 e1 w1
    (fun he => by
      rcases hr1 with ⟨_, _, d, h1, h2⟩ | ⟨h1, _⟩
      · have h3 := (plainS_ok h1).2
        rw [h2, Int.toNat_natCast, Nat.min_eq_left h3]
      · exact absurd he h1) (by omega) (fun _ _ _ h _ => h) (fun W W' _ h hb => ⟨h.1.below hb (by have := hj1.1.lt; omega), h.2.below hb (by have := hj1.2.lt; omega)⟩)
    (fun k hk => by
      simp only [List.mem_cons, List.not_mem_nil, or_false] at hk
      rcases hk with rfl | rfl
      · exact k1.lt
      · exact hj1.1.lt) (by simp) (fun W hW => ⟨hs1.reads.keep (fun b hb => hW.block b hb.lt (by
        simp only [List.mem_cons, List.not_mem_nil, or_false]
        rintro (rfl | rfl)
        · exact ne_typed hb k1.typed (by decide) rfl
        · exact ne_typed hb hj1.1.typed (by decide) rfl)), hs1.hn, hs1.hc, hs1.hcm, hs1.hbs⟩) hj1 k1
    (fun W s z hW hj hr => pt1_c hj hr (⟨hs1.reads.keep (fun b hb => hW.block b hb.lt (by
        simp only [List.mem_cons, List.not_mem_nil, or_false]
        rintro (rfl | rfl)
        · exact ne_typed hb k1.typed (by decide) rfl
        · exact ne_typed hb hj1.1.typed (by decide) rfl)), hs1.hn, hs1.hc, hs1.hcm, hs1.hbs⟩) (by omega) (by omega) (by omega)))
  have hb01 := (But.of_below (g := g) HB0.out).trans hb1.undrew
  have HR1 := hid hr1
  have HBB := hid hb01
  clear hj1 hs1 hb1 k1 hr1 HO
  refine wpAnyH_ready (rs := [4]) (by kernel_rfl) (by simp) ?_
  refine AllReadyH.cons rfl (fun K hK => ?_) AllReadyH.nil
  go_simp
  refine HSV.out.mono ?_
  rintro d w2 ⟨xs, C, f, s, z2, e2, rfl, hsv, k2, hr2, hxl⟩
  refine hK.out _ _ (hsv.j.2.cell 0) (fun hHeld => ?_)
  clear hK K
  try simp only [List.getElem_toArray, List.getElem_cons_succ, List.getElem_cons_zero, Act.put, List.setIfInBounds_toArray, List.set_cons_zero, List.set_cons_succ]
  refine wpAnyH_take (i := 5) (v := ?_) rfl (by kernel_rfl) (by kernel_rfl) (by kernel_rfl) (fun _ _ _ h => h) (Or.inl ⟨by rfl, ?_⟩) (by assumption) ?_
  rotate_left
  · intro W hW
    go_simp
    try rfl
  simp only [List.getElem_toArray, List.getElem_cons_succ, List.getElem_cons_zero, Act.put, List.setIfInBounds_toArray, List.set_cons_zero, List.set_cons_succ]
  refine wpAnyH_done (by kernel_rfl) ?_ _
  refine NoPanic.normal ?_
  have HF := hid (show RetMade 47 2 cellsP idP noG noB (ptsM bs z) e g B n c w (.returned (.slice C xs.length f)) w2 from
    ⟨xs, C, f, z2, e2, rfl, by
      have h1 : But g w w1 := HBB.out
      refine ⟨hsv.fr.os.trans h1.os, hsv.fr.tape.trans h1.tape, hsv.fr.output.trans h1.output, Nat.le_trans h1.size hsv.fr.size, fun k hk hn => (hsv.fr.block k (Nat.lt_of_lt_of_le hk h1.size) ?_).trans (h1.block k hk hn)⟩
      simp only [List.mem_cons, List.not_mem_nil, or_false]
      omega, ⟨own_low hsv.own HBB.out.size, hsv.good, fun x hx b hb => ⟨Nat.le_trans HBB.out.size (hsv.fresh x hx b hb).1, (hsv.fresh x hx b hb).2⟩, hsv.apart⟩, k2, made_res (by decide) HR1.out hr2 rfl, Nat.le_trans hxl (by omega)⟩)
  clear hsv k2 hr2 hxl hHeld HSV
  go_wp2_with fail
  go_ret
  exact HF.out
end
end Go.Proofs.Ytgdnpmjmkcccoaa
