/- Contracts of the reference's Sub (seat Wide). -/
import Derived.Test.YtpomhcclnhddmaaDoorRefF
import Derived.Test.YtpomhcclnhddmaaDoorWidO
import Derived.Deep.RegionHeld3
namespace Go.Proofs.YtpomhcclnhddmaaDoor
open Go.RowKit Go.Shelf NB
set_option linter.unusedVariables false
set_option maxHeartbeats 1000000 in
theorem subn_c {x y : Int} {b d : Bool} {A B : Option Addr} {p r c f : Nat} {w : World} (h : NumIs w x b A p c) (k : NumIs w y d B r f) (hp : p ≤ 1000000) (hr : r ≤ 1000000) :
    Calls Tryd.prog 19 #[.agg #[.bool b, .slice A p c], .agg #[.bool d, .slice B r f]] w (RetN (x - y) w) := by
  go_enter Tryd.func19, Tryd.ntmps19
  go_wp2_with fail
  have S0 := boxes3 w (.bool b) (.slice A p c) (.bool d) (.slice B r f) 28 28 zNum
  have h1 := (((h.alloc (bNum b A p c)).alloc (bNum d B r f)).alloc zNum).drew
  have k1 := (((k.alloc (bNum b A p c)).alloc (bNum d B r f)).alloc zNum).drew
  have HL := Lib.hid (show r = nb y.natAbs from k.dig.len)
  have K0 : Blk (((w.alloc (bNum b A p c)).alloc (bNum d B r f)).alloc zNum).drew (w.heap.size + 2) 28 #[.bool false, .slice none 0 0] := (Blk.new_at ((w.alloc (bNum b A p c)).alloc (bNum d B r f)) _ _ (by simp)).drew
  have HS := Lib.hid S0
  clear S0
  have HX := Lib.hid (show x + -y = x - y by omega)
  go_region_held3 (fun w' => w'.cell? ⟨w.heap.size, 0, none⟩ = some (.bool b) ∧ w'.cell? ⟨w.heap.size, 1, none⟩ = some (.slice A p c) ∧ w'.cell? ⟨w.heap.size + 1, 0, none⟩ = some (.bool d) ∧ w'.cell? ⟨w.heap.size + 1, 1, none⟩ = some (.slice B r f))
    (first | exact HS.out | exact S1.out | exact S2.out | (refine keep4_set S2.out ?_ ?_ ?_ ?_ <;> (simp <;> omega)))
    (first | (go_at_call 20; refine (neg_c k1).mono ?_; rintro e w1 ⟨b1, A1, p1, c1, rfl, hd, hb1⟩; have S1 := Lib.hid (keep4 HS.out hb1)) | (go_at_call 18; refine (add_c (h1.below hb1) hd hp (by rw [hd.dig.len, Int.natAbs_neg, ← HL.out]; exact hr)).mono ?_; rintro e w2 ⟨b2, A2, p2, c2, rfl, hn, hb2⟩; have S2 := Lib.hid (keep4 S1.out hb2); have K2 := (K0.under hb1).under hb2; obtain ⟨c0, c1, f0, f1, hl⟩ := K2.two))
  go_wp2
  rw [HX.out] at hn
  exact num_done K2 hn (below_of (below3 w _ _ _ (undrew hb1)) hb2 (below3 w _ _ _ (undrew hb1)).size) (by omega) rfl rfl rfl
end Go.Proofs.YtpomhcclnhddmaaDoor
