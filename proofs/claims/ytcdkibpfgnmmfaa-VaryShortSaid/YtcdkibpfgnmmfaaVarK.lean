/- Contracts of vary: PutRow, GetRow. -/
import Derived.Test.YtcdkibpfgnmmfaaVarI
namespace Go.Proofs.Ytcdkibpfgnmmfaa
open Go.RowKit Go.Shelf VB
set_option linter.unusedVariables false
theorem gv_bound : ∀ (l : List Nat) (i n v p : Nat), gv i n l = (v, p, 0) → i < p ∧ p ≤ i + l.length
  | [], i, n, v, p, h => by rw [gv_nil] at h; cases h
  | x :: l, i, n, v, p, h => by
    unfold gv at h
    split at h
    · cases h
    · split at h
      · cases h
      · split at h
        · obtain ⟨_, rfl, _⟩ := trip h
          simp
        · have := gv_bound l (i + 1) _ v p h
          simp only [List.length_cons]
          omega
theorem gotN_ok {bs : List Nat} {z : Int} (h : (gotN bs z).2.2 = 0) : 0 ≤ z ∧ z < (gotN bs z).2.1 ∧ (gotN bs z).2.1 ≤ bs.length := by
  unfold gotN at h ⊢
  split at h
  · rename_i hz
    rw [if_pos hz]
    split at h
    · rename_i he
      rw [if_pos he]
      have := gv_bound (bs.drop z.toNat) 0 0 (gv 0 0 (bs.drop z.toNat)).1 (gv 0 0 (bs.drop z.toNat)).2.1 (by rw [← he])
      rw [List.length_drop] at this
      dsimp only
      omega
    · rename_i he
      exact absurd h he
  · exact absurd h (by decide)
/-- k numbers with a sign from place p on -/
def gl (bs : List Nat) : Nat → Nat → List Int × Nat × Int
  | 0, p => ([], p, 0)
  | k + 1, p => if (gotN bs p).2.2 = 0 then (if (gl bs k (gotN bs p).2.1).2.2 = 0 then (unf (gotN bs p).1 :: (gl bs k (gotN bs p).2.1).1, (gl bs k (gotN bs p).2.1).2.1, 0) else ([], 0, (gl bs k (gotN bs p).2.1).2.2)) else ([], 0, (gotN bs p).2.2)
/-- a row from place z on, of at most so many -/
def rowG (bs : List Nat) (z most : Int) : List Int × Nat × Int :=
  if 0 ≤ z ∧ z ≤ bs.length ∧ 0 ≤ most then (if (gotN bs z).2.2 = 0 then (if most < ((gotN bs z).1 : Int) then ([], 0, 3) else gl bs (gotN bs z).1 (gotN bs z).2.1) else ([], 0, (gotN bs z).2.2)) else ([], 0, 2)
/-- what was got, and what comes behind it -/
def glue (o : List Int) (r : List Int × Nat × Int) : List Int × Nat × Int := if r.2.2 = 0 then (o ++ r.1, r.2.1, 0) else ([], 0, r.2.2)
theorem glue_nil {r : List Int × Nat × Int} (h : r.2.2 = 0 ∨ (r.1 = [] ∧ r.2.1 = 0)) : glue [] r = r := by
  unfold glue
  obtain ⟨a, b, c⟩ := r
  dsimp only at h ⊢
  by_cases hc : c = 0
  · rw [if_pos hc, hc]; rfl
  · rw [if_neg hc]
    rcases h with h | ⟨h1, h2⟩
    · exact absurd h hc
    · rw [h1, h2]
theorem gl_form (bs : List Nat) (k p : Nat) : (gl bs k p).2.2 = 0 ∨ ((gl bs k p).1 = [] ∧ (gl bs k p).2.1 = 0) := by
  cases k with
  | zero => exact .inl rfl
  | succ k =>
    unfold gl
    split
    · split
      · exact .inl rfl
      · exact .inr ⟨rfl, rfl⟩
    · exact .inr ⟨rfl, rfl⟩
theorem glue_end (o : List Int) (bs : List Nat) (p : Nat) : glue o (gl bs 0 p) = (o, p, 0) := by simp [glue, gl]
theorem glue_bad {o : List Int} {bs : List Nat} {k p : Nat} (h : (gotN bs p).2.2 ≠ 0) : glue o (gl bs (k + 1) p) = ([], 0, (gotN bs p).2.2) := by
  unfold glue gl
  rw [if_neg h]
  dsimp only
  rw [if_neg h]
theorem glue_step {o : List Int} {bs : List Nat} {k p : Nat} (h : (gotN bs p).2.2 = 0) : glue o (gl bs (k + 1) p) = glue (o ++ [unf (gotN bs p).1]) (gl bs k (gotN bs p).2.1) := by
  have e : gl bs (k + 1) p = (if (gotN bs p).2.2 = 0 then (if (gl bs k (gotN bs p).2.1).2.2 = 0 then (unf (gotN bs p).1 :: (gl bs k (gotN bs p).2.1).1, (gl bs k (gotN bs p).2.1).2.1, 0) else ([], 0, (gl bs k (gotN bs p).2.1).2.2)) else ([], 0, (gotN bs p).2.2)) := rfl
  rw [e, if_pos h]
  unfold glue
  by_cases h2 : (gl bs k (gotN bs p).2.1).2.2 = 0
  · rw [if_pos h2, if_pos h2]
    dsimp only
    rw [if_pos rfl]
    simp
  · rw [if_neg h2, if_neg h2]
    dsimp only
    rw [if_neg h2]
/-- what a function hands back that hands back a row, a place and an error -/
def RetR3 (r : List Int × Nat × Int) (w : World) (e : Ending) (w' : World) : Prop := ∃ C f, e = .returned (.tuple #[.slice C r.1.length f, .int .i64 (r.2.1 : Nat), .int .i64 r.2.2]) ∧ r.1.length ≤ f ∧ Reads w' 2 1 C r.1.length (r.1.map (Value.int .i64)) ∧ Below w.heap.size w w'
theorem retR3_bad {e : Int} {w w' : World} {r : List Int × Nat × Int} (h : r = ([], 0, e)) (hb : Below w.heap.size w w') : RetR3 r w (.returned (.tuple #[.slice none 0 0, .int .i64 0, .int .i64 e])) w' := by
  subst h
  exact ⟨none, 0, rfl, Nat.le_refl _, Reads.none_, hb⟩
theorem retR3_ok {o : List Int} {p f : Nat} {C : Option Addr} {w w' : World} {r : List Int × Nat × Int} (h : r = (o, p, 0)) (hown : w'.ownsRow w.heap.size 2 1 (.slice C o.length f) o.length (o.map (Value.int .i64))) (hb : Below w.heap.size w w') : RetR3 r w (.returned (.tuple #[.slice C o.length f, .int .i64 (p : Nat), .int .i64 0])) w' := by
  subst h
  exact ⟨C, f, rfl, own_cap hown, Reads.of_own hown, hb⟩
def rowMu (many : Nat) (u11 u12 : Value) : Nat := match u12 with
  | .slice _ n _ => if intOf u11 = 0 then many - n + 1 else 0
  | _ => 0
theorem i64_info : (Try.prog.info? 2).map (fun i => (i.zero, i.size, i.bytes)) = some (some (.int .i64 0), 1, 8) := by kernel_rfl
theorem map_snoc (o : List Int) (x : Int) : (o ++ [x]).map (Value.int .i64) = o.map (Value.int .i64) ++ [.int .i64 x] := by simp
set_option maxRecDepth 100000 in
set_option maxHeartbeats 2000000 in
theorem GetRow_c (A : Option Addr) (n c : Nat) (z most : Int) (bs : List Nat) (w : World) (hb : Reads w 5 1 A n (bsV bs)) (hn : n ≤ 1000000) (hc : n ≤ c) (hcm : c ≤ maxLen) (hbs : ∀ x ∈ bs, x < 256) (hm : most ≤ 9223372036854775807) :
    Calls Try.prog 30 #[.slice A n c, .int .i64 z, .int .i64 most] w (RetR3 (rowG bs z most) w) := by
  have hl : bs.length = n := by have := hb.1; rw [bsV_len] at this; omega
  have HB := Lib.hid hb
  have HBS := Lib.hid hbs
  have GU := Lib.hid (fun w (h : Reads w 5 1 A n (bsV bs)) => GetU_c A n c z bs w h hn hc hcm hbs)
  have GI := Lib.hid (fun w (p : Nat) (h : Reads w 5 1 A n (bsV bs)) => Get_c A n c (p : Int) bs w h hn hc hcm hbs)
  by_cases hz : 0 ≤ z ∧ z ≤ bs.length ∧ 0 ≤ most
  · have h1 : decide (z < 0) = false := decide_eq_false (by omega)
    have h2 : decide ((n : Int) < z) = false := decide_eq_false (by omega)
    have h3 : decide (most < 0) = false := decide_eq_false (by omega)
    have hG : rowG bs z most = (if (gotN bs z).2.2 = 0 then (if most < ((gotN bs z).1 : Int) then ([], 0, 3) else gl bs (gotN bs z).1 (gotN bs z).2.1) else ([], 0, (gotN bs z).2.2)) := by unfold rowG; rw [if_pos hz]
    have hok := @gotN_ok bs z
    obtain ⟨R, hR⟩ : ∃ R, R = rowG bs z most := ⟨_, rfl⟩
    rw [← hR] at hG ⊢
    have GU1 := Lib.hid (GU.out w HB.out)
    clear GU hR
    obtain ⟨g, hg⟩ : ∃ g, g = gotN bs z := ⟨_, rfl⟩
    rw [← hg] at hG GU1 hok
    obtain ⟨g1, g2, g3⟩ := g
    dsimp only at hG GU1 hok
    clear hg
    have HG := Lib.hid hG
    clear hG hb hbs
    by_cases he : g3 = 0
    · subst he
      by_cases hmo : most < (g1 : Int)
      · have HR := Lib.hid (show R = ([], 0, 3) by rw [HG.out, if_pos rfl, if_pos hmo])
        clear hok HG
        go_enter Try.func30, Try.ntmps30
        go_wp2_with fail
        refine GU1.out.mono ?_; rintro e w' ⟨rfl, rfl⟩
        go_wp2
        refine wp_loop_rounds 1 ?_
        rw [rounds_succ]
        go_wp2
        go_ret3
        exact retR3_bad HR.out (Below.refl _ _)
      · have HR := Lib.hid (show glue [] (gl bs g1 g2) = R by rw [glue_nil (gl_form bs g1 g2), HG.out, if_pos rfl, if_neg hmo])
        obtain ⟨k1, k2, k3⟩ := hok rfl
        have k4 : g2 ≤ n := by omega
        have hmo2 : decide (most < (g1 : Int)) = false := decide_eq_false hmo
        clear hok HG hmo k1 k2 k3
        go_enter Try.func30, Try.ntmps30
        go_wp2_with fail
        refine GU1.out.mono ?_; rintro e w' ⟨rfl, rfl⟩
        go_wp2
        go_loopw [10, 11, 12] (fun u10 u11 u12 wr => ∃ (o : List Int) (p k : Nat) (C : Option Addr) (f m : Nat), m = o.length ∧ u12 = .slice C m f ∧ wr.ownsRow w.heap.size 2 1 (.slice C m f) m (o.map (Value.int .i64)) ∧ Below w.heap.size w wr ∧ k + m = g1 ∧ p ≤ n ∧ m ≤ p ∧
            ((u11 = .int .i64 0 ∧ u10 = .int .i64 (p : Nat) ∧ glue o (gl bs k p) = R) ∨ (∃ e, u11 = .int .i64 e ∧ e ≠ 0 ∧ R = ([], 0, e))))
          (fun _ u11 u12 _ => rowMu g1 u11 u12)
        case atStart => exact ⟨[], g2, g1, none, 0, 0, rfl, rfl, World.ownsRow_nil _ _ _ _, Below.refl _ _, rfl, k4, Nat.zero_le _, .inl ⟨rfl, rfl, HR.out⟩⟩
        case round =>
          obtain ⟨o, p, k, C, f, m, hm, rfl, hown, hbw, hkm, hp, hmp, hmode⟩ := hrel
          have HM := Lib.hid hm
          have HO := Lib.hid hown
          clear hm hown
          rcases hmode with ⟨rfl, rfl, hgl⟩ | ⟨e, rfl, he, hRe⟩
          · have HGL := Lib.hid hgl
            clear hgl
            by_cases hk : k = 0
            · have hlt : decide ((m : Int) < (g1 : Int)) = false := decide_eq_false (by omega)
              have hlt2 : decide (m < g1) = false := decide_eq_false (by omega)
              have HRR := Lib.hid (show R = (o, p, 0) by rw [← HGL.out, hk, glue_end])
              clear hk hkm
              go_wp2
              go_ret3
              have h := retR3_ok (f := f) (C := C) HRR.out (by rw [← HM.out]; exact HO.out) hbw
              rw [← HM.out] at h
              exact h
            · obtain ⟨k, rfl⟩ : ∃ j, k = j + 1 := ⟨k - 1, by omega⟩
              have hlt : decide ((m : Int) < (g1 : Int)) = true := decide_eq_true (by omega)
              have hlt2 : decide (m < g1) = true := decide_eq_true (by omega)
              have hGI := GI.out wr p (HB.out.below hbw)
              have hst := @glue_step o bs k p
              have hbd := @glue_bad o bs k p
              have hok := @gotN_ok bs p
              generalize gotN bs p = h at *
              obtain ⟨h1', h2', h3'⟩ := h
              dsimp only at hGI hst hbd hok
              generalize unf h1' = x at *
              have GI1 := Lib.hid hGI
              clear hGI
              by_cases he : h3' = 0
              · subst he
                obtain ⟨q1, q2, q3⟩ := hok rfl
                have HST := Lib.hid ((hst rfl).symm.trans HGL.out)
                clear hst hbd hok hk
                go_wp2_with fail
                refine GI1.out.mono ?_; rintro e w' ⟨rfl, rfl⟩
                go_wp2_with (at_builtin; refine wpList_pushG rfl (.tmp 59) (.tmp 61) 44 rfl w.heap.size 2 (.int .i64 0) 8 Try.underlying44 i64_info rfl C m f _ rfl HO.out rfl rfl ?_ ?_ hbw.size ?_; omega; omega; intro C' f' w3 hown' hgr' hb3)
                exact ⟨⟨o ++ [x], h2', k, C', f', m + 1, by rw [List.length_append, HM.out]; rfl, rfl, by rw [map_snoc]; exact hown', hbw.trans hb3, by omega, by omega, by omega, .inl ⟨rfl, rfl, HST.out⟩⟩, by simp [rowMu, intOf]; omega⟩
              · have te := beq_eq_false_iff_ne.2 he
                have HBD := Lib.hid (HGL.out.symm.trans (hbd he))
                have HE := Lib.hid he
                clear hst hbd hok hk he
                go_wp2_with fail
                refine GI1.out.mono ?_; rintro e w' ⟨rfl, rfl⟩
                go_wp2
                exact ⟨⟨o, p, k + 1, C, f, m, HM.out, rfl, HO.out, hbw, by omega, hp, hmp, .inr ⟨h3', rfl, HE.out, HBD.out⟩⟩, by have := HE.out; simp [rowMu, intOf, this]⟩
          · have te := beq_eq_false_iff_ne.2 he
            have te2 := bne_iff_ne.2 he
            have HRE := Lib.hid hRe
            clear hRe he
            go_wp2
            go_ret3
            exact retR3_bad HRE.out hbw
    · have te := beq_eq_false_iff_ne.2 he
      have te2 := bne_iff_ne.2 he
      have HR := Lib.hid (show R = ([], 0, g3) by rw [HG.out, if_neg he])
      clear hok HG he
      go_enter Try.func30, Try.ntmps30
      go_wp2_with fail
      refine GU1.out.mono ?_; rintro e w' ⟨rfl, rfl⟩
      go_wp2
      refine wp_loop_rounds 1 ?_
      rw [rounds_succ]
      go_wp2
      go_ret3
      exact retR3_bad HR.out (Below.refl _ _)
  · have HR := Lib.hid (show rowG bs z most = ([], 0, 2) by unfold rowG; rw [if_neg hz])
    have hcs : z < 0 ∨ (¬ z < 0 ∧ (n : Int) < z) ∨ (¬ z < 0 ∧ ¬ (n : Int) < z ∧ most < 0) := by omega
    clear GU GI hz
    rcases hcs with h1 | ⟨h1, h2⟩ | ⟨h1, h2, h3⟩
    all_goals
      go_enter Try.func30, Try.ntmps30
      go_wp2
      go_ret3
      exact retR3_bad HR.out (Below.refl _ _)
end Go.Proofs.Ytcdkibpfgnmmfaa
