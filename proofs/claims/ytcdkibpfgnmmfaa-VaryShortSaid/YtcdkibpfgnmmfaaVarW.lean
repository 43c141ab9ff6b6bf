/- Contract of the document's Row. -/
import Derived.Test.YtcdkibpfgnmmfaaVarV
namespace Go.Proofs.Ytcdkibpfgnmmfaa
open Go.RowKit Go.Shelf VB
set_option linter.unusedVariables false
def lenOf (u : Value) : Nat := match u with
  | .slice _ n _ => n
  | _ => 0
set_option maxRecDepth 100000 in
set_option maxHeartbeats 2000000 in
theorem refRow_c (A : Option Addr) (n c : Nat) (z most : Int) (bs : List Nat) (w : World) (hb : Reads w 5 1 A n (bsV bs)) (hn : n ≤ 1000000) (hc : n ≤ c) (hcm : c ≤ maxLen) (hbs : ∀ x ∈ bs, x < 256) (hm : most ≤ 9223372036854775807) :
    Calls Try.prog 31 #[.slice A n c, .int .i64 z, .int .i64 most] w (RetR3 (rowG bs z most) w) := by
  have hl : bs.length = n := by have := hb.1; rw [bsV_len] at this; omega
  have HB := Lib.hid hb
  have HBS := Lib.hid hbs
  have GI := Lib.hid (fun w (p : Nat) (h : Reads w 5 1 A n (bsV bs)) => number_c A n c (p : Int) bs w h hn hc hcm hbs)
  by_cases hz : 0 ≤ z ∧ z ≤ bs.length ∧ 0 ≤ most
  · have h1 : decide (z < 0) = false := decide_eq_false (by omega)
    have h2 : decide ((n : Int) < z) = false := decide_eq_false (by omega)
    have h3 : decide (most < 0) = false := decide_eq_false (by omega)
    have hG : rowG bs z most = (if (gotN bs z).2.2 = 0 then (if most < ((gotN bs z).1 : Int) then ([], 0, 3) else gl bs (gotN bs z).1 (gotN bs z).2.1) else ([], 0, (gotN bs z).2.2)) := by unfold rowG; rw [if_pos hz]
    have GU1 := Lib.hid (refGet_c A n c z bs w hb hn hc hcm hbs)
    have hgot := rg_got bs z
    have hok := @rg_ok bs z
    have hsm := rg_small bs z
    have herr := @rg_err bs z
    obtain ⟨R, hR⟩ : ∃ R, R = rowG bs z most := ⟨_, rfl⟩
    rw [← hR] at hG ⊢
    rw [hgot] at hG
    clear hR hgot
    generalize rg bs z = g at *
    obtain ⟨g1, g2, g3⟩ := g
    dsimp only at hG hok hsm herr
    have HG := Lib.hid hG
    clear hG hb hbs
    obtain ⟨zn, rfl⟩ := Int.eq_ofNat_of_zero_le hz.1
    obtain ⟨mo, rfl⟩ := Int.eq_ofNat_of_zero_le hz.2.2
    rw [Int.toNat_natCast] at *
    by_cases he : g3 = 0
    · subst he
      obtain ⟨_, _, hok⟩ := hok rfl
      by_cases hmo : (mo : Int) < (g1 : Int)
      · have HR := Lib.hid (show R = ([], 0, 3) by rw [HG.out, if_pos rfl, if_pos rfl, if_pos hmo])
        have hmo2 : decide ((mo : Int) < (g1 : Int)) = true := decide_eq_true hmo
        have hmo3 : decide (mo < g1) = true := decide_eq_true (by omega)
        clear HG herr
        go_enter Try.func31, Try.ntmps31
        go_wp2_with fail
        refine GU1.out.mono ?_; rintro e w' ⟨rfl, rfl⟩
        go_wp2
        go_ret3
        exact retR3_bad HR.out (Below.refl _ _)
      · have HR := Lib.hid (show glue [] (gl bs g1 (zn + g2)) = R by rw [glue_nil (gl_form bs g1 (zn + g2)), HG.out, if_pos rfl, if_pos rfl, if_neg hmo])
        have k4 : zn + g2 ≤ n := by omega
        have hmo2 : decide ((mo : Int) < (g1 : Int)) = false := decide_eq_false hmo
        have hmo3 : decide (mo < g1) = false := decide_eq_false (by omega)
        clear HG herr hok hmo
        go_enter Try.func31, Try.ntmps31
        go_wp2_with fail
        refine GU1.out.mono ?_; rintro e w' ⟨rfl, rfl⟩
        go_wp2_with fail
        go_loopw [12, 13] (fun u12 u13 wr => ∃ (o : List Int) (p k : Nat) (C : Option Addr) (f m : Nat), m = o.length ∧ u13 = .slice C m f ∧ wr.ownsRow w.heap.size 2 1 (.slice C m f) m (o.map (Value.int .i64)) ∧ Below w.heap.size w wr ∧ k + m = g1 ∧ p ≤ n ∧ m ≤ p ∧ u12 = .int .i64 (p : Nat) ∧ glue o (gl bs k p) = R)
          (fun _ u13 _ => g1 - lenOf u13)
        case atStart => exact ⟨[], zn + g2, g1, none, 0, 0, rfl, rfl, World.ownsRow_nil _ _ _ _, Below.refl _ _, rfl, k4, Nat.zero_le _, by go_num, HR.out⟩
        case round =>
          obtain ⟨o, p, k, C, f, m, hm, rfl, hown, hbw, hkm, hp, hmp, rfl, hgl⟩ := hrel
          have HM := Lib.hid hm
          have HO := Lib.hid hown
          have HGL := Lib.hid hgl
          clear hm hown hgl
          by_cases hk : k = 0
          · have hlt : decide ((m : Int) < (g1 : Int)) = false := decide_eq_false (by omega)
            have hlt2 : decide (m < g1) = false := decide_eq_false (by omega)
            have HRR := Lib.hid (show R = (o, p, 0) by rw [← HGL.out, hk, glue_end])
            clear hk hkm
            go_wp2_with fail
            go_ret3
            have h := retR3_ok (f := f) (C := C) HRR.out (by rw [← HM.out]; exact HO.out) hbw
            rw [← HM.out] at h
            exact h
          · obtain ⟨k, rfl⟩ : ∃ j, k = j + 1 := ⟨k - 1, by omega⟩
            have hlt : decide ((m : Int) < (g1 : Int)) = true := decide_eq_true (by omega)
            have hlt2 : decide (m < g1) = true := decide_eq_true (by omega)
            have hGI := GI.out wr p (HB.out.below hbw)
            have hst := @glue_step o bs k p
            have hbd := @glue_bad o bs k p
            have hok := @gotN_ok bs p
            generalize gotN bs p = h at *
            obtain ⟨h1', h2', h3'⟩ := h
            dsimp only at hGI hst hbd hok
            generalize unf h1' = x at *
            have GI1 := Lib.hid hGI
            clear hGI
            by_cases he : h3' = 0
            · subst he
              obtain ⟨q1, q2, q3⟩ := hok rfl
              have HST := Lib.hid ((hst rfl).symm.trans HGL.out)
              clear hst hbd hok hk
              go_wp2_with fail
              refine GI1.out.mono ?_; rintro e w' ⟨rfl, rfl⟩
              go_wp2_with (at_builtin; refine wpList_pushG rfl (.tmp 61) (.tmp 63) 44 rfl w.heap.size 2 (.int .i64 0) 8 Try.underlying44 i64_info rfl C m f _ rfl HO.out rfl rfl ?_ ?_ hbw.size ?_; omega; omega; intro C' f' w3 hown' hgr' hb3)
              exact ⟨⟨o ++ [x], h2', k, C', f', m + 1, by rw [List.length_append, HM.out]; rfl, rfl, by rw [map_snoc]; exact hown', hbw.trans hb3, by omega, by omega, by omega, rfl, HST.out⟩, by simp [lenOf]; omega⟩
            · have te := beq_eq_false_iff_ne.2 he
              have te2 := bne_iff_ne.2 he
              have HBD := Lib.hid (HGL.out.symm.trans (hbd he))
              have HE := Lib.hid he
              clear hst hbd hok hk he
              go_wp2_with fail
              refine GI1.out.mono ?_; rintro e w' ⟨rfl, rfl⟩
              go_wp2
              go_ret3
              exact retR3_bad HBD.out hbw
    · have te := beq_eq_false_iff_ne.2 he
      have te2 := bne_iff_ne.2 he
      obtain ⟨rfl, rfl, _⟩ := trip (herr he)
      have HR := Lib.hid (show R = ([], 0, g3) by rw [HG.out, if_neg he, if_neg he])
      clear hok HG he herr
      go_enter Try.func31, Try.ntmps31
      go_wp2_with fail
      refine GU1.out.mono ?_; rintro e w' ⟨rfl, rfl⟩
      go_wp2
      go_ret3
      exact retR3_bad HR.out (Below.refl _ _)
  · have HR := Lib.hid (show rowG bs z most = ([], 0, 2) by unfold rowG; rw [if_neg hz])
    have hcs : z < 0 ∨ (¬ z < 0 ∧ (n : Int) < z) ∨ (¬ z < 0 ∧ ¬ (n : Int) < z ∧ most < 0) := by omega
    clear GI hz
    rcases hcs with h1 | ⟨h1, h2⟩ | ⟨h1, h2, h3⟩
    all_goals
      go_enter Try.func31, Try.ntmps31
      go_wp2
      go_ret3
      exact retR3_bad HR.out (Below.refl _ _)
end Go.Proofs.Ytcdkibpfgnmmfaa
