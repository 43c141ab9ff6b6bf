/- Contracts of record: Get (seat Record). -/
import Derived.Test.YtedojdbihajnbaaRecG
namespace Go.Proofs.Ytedojdbihajnbaa
open Go.RowKit Go.Shelf VB
open Go.Lib (hid)
set_option linter.unusedVariables false
set_option linter.unusedSimpArgs false
def zMut : Mu := ⟨0, ⟨#[]⟩, 0, 0, 0, []⟩
theorem nameL_er {bs : List Nat} {x : Int} : ∀ {k z : Nat} {acc : List Nat}, nameL bs k z acc = .error x → x ≠ 0
  | 0, z, acc, h => by cases h
  | k + 1, z, acc, h => by
    unfold nameL at h
    split at h
    · split at h
      · exact nameL_er h
      · injection h with h; omega
    · injection h with h; omega
theorem nameS_er {bs : List Nat} {x : Int} {z : Nat} (h : nameS bs z = .error x) : x ≠ 0 := by
  unfold nameS at h
  split at h
  · split at h
    · exact nameL_er h
    · injection h with h; omega
  · injection h with h; omega
theorem plainS_ne {bs : List Nat} {most z : Nat} {x : Int} (h : plainS bs most z = .error x) : x ≠ 0 := by
  rcases plainS_er h with ⟨_, _, _, h⟩ | ⟨_, _, _, _, h⟩
  · exact h
  · omega
theorem signS_ne {bs : List Nat} {z : Nat} {x : Int} (h : signS bs z = .error x) : x ≠ 0 := by
  obtain ⟨_, _, _, h⟩ := signS_er h; exact h
theorem boundS_ne {bs : List Nat} {z : Nat} {x : Int} (h : boundS bs z = .error x) : x ≠ 0 := by
  unfold boundS at h
  split at h
  · rename_i h1; injection h with h; subst h; exact plainS_ne h1
  · split at h
    · rename_i h1; injection h with h; subst h; exact signS_ne h1
    · split at h
      · cases h
      · injection h with h; omega
theorem timeS_ne {bs : List Nat} {fst : Bool} {z : Nat} {T x : Int} (h : timeS bs fst z T = .error x) : x ≠ 0 := by
  unfold timeS at h
  split at h
  · split at h
    · rename_i h1; injection h with h; subst h; exact plainS_ne h1
    · cases h
  · split at h
    · rename_i h1; injection h with h; subst h; exact signS_ne h1
    · cases h
theorem ptL_ne {bs : List Nat} {x : Int} : ∀ {k : Nat} {fst : Bool} {z : Nat} {T V : Int} {acc : List (Int × Int)}, ptL bs k fst z T V acc = .error x → x ≠ 0
  | 0, _, _, _, _, _, h => by cases h
  | k + 1, fst, z, T, V, acc, h => by
    rw [ptL_succ] at h
    split at h
    · rename_i h1; injection h with h; subst h; exact timeS_ne h1
    · split at h
      · split at h
        · rename_i h1; injection h with h; subst h; exact signS_ne h1
        · split at h
          · exact ptL_ne h
          · injection h with h; omega
      · injection h with h; omega
theorem pointsS_ne {bs : List Nat} {z : Nat} {x : Int} (h : pointsS bs z = .error x) : x ≠ 0 := by
  unfold pointsS at h
  split at h
  · rename_i h1; injection h with h; subst h; exact plainS_ne h1
  · split at h
    · exact ptL_ne h
    · injection h with h; omega
theorem bodyS_ne {bs : List Nat} {kd : Nat} {nm : List Nat} {z : Nat} {x : Int} (h : bodyS bs kd nm z = .error x) : x ≠ 0 := by
  unfold bodyS at h
  split at h
  · split at h
    · rename_i h1; injection h with h; subst h; exact boundS_ne h1
    · cases h
  · split at h
    · cases h
    · split at h
      · split at h
        · rename_i h1; injection h with h; subst h; exact pointsS_ne h1
        · cases h
      · split at h
        · rename_i h1; injection h with h; subst h; exact plainS_ne h1
        · cases h
theorem mutS_ne {bs : List Nat} {z : Nat} {x : Int} (h : mutS bs z = .error x) : x ≠ 0 := by
  unfold mutS at h
  split at h
  · split at h
    · split at h
      · rename_i h1; injection h with h; subst h; exact nameS_er h1
      · exact bodyS_ne h
    · injection h with h; omega
  · injection h with h; omega
/-- what Get comes to -/
def getM (bs : List Nat) (z : Int) : Mu × Nat × Int :=
  if 0 ≤ z ∧ z ≤ bs.length then (match mutS bs z.toNat with | .ok (m, p) => (m, p, 0) | .error x => (zMut, 0, x)) else (zMut, 0, 2)
/-- what Get hands back: a mutation whose points lie in memory of its own, the place, the error -/
def RetGet (r : Mu × Nat × Int) (w : World) (e : Ending) (w' : World) : Prop :=
  ∃ A f, e = .returned (.tuple #[vM r.1 A f, .int .i64 (r.2.1 : Nat), .int .i64 r.2.2]) ∧ w'.ownsRow w.heap.size 51 2 (.slice A r.1.pts.length f) r.1.pts.length (r.1.pts.flatMap cellsP) ∧ Below w.heap.size w w'
theorem ret_mu3 {fn : Func} {a : Act} {w1 : World} {p q r : Tmp} {g : Nat} {v0 v1 v2 v3 v4 v5 x y : Value} {Post : Ending → World → Prop} (hres : fn.results = #[.cell p 24, .tmp q, .tmp r]) (ht : a.tmps.getD p undef = .pointer (some ⟨g, 0, none⟩)) (hq : a.tmps.getD q undef = x) (hr : a.tmps.getD r undef = y) (hd : a.defers = []) (k : Blk w1 g 24 #[v0, v1, v2, v3, v4, v5]) (hP : Post (.returned (.tuple #[.agg #[v0, v1, v2, v3, v4, v5], x, y])) w1) : bodyPost Try.prog fn Post .ret a w1 := by
  obtain ⟨c0, c1, c2, c3, c4, c5, _⟩ := k.six
  rw [Array.getD_eq_getD_getElem?] at ht hq hr
  exact bodyPost_ret (v := .tuple #[.agg #[v0, v1, v2, v3, v4, v5], x, y]) (by simp [results, hres, go_sem, ht, hq, hr, c0, c1, c2, c3, c4, c5]) hd hP
set_option maxRecDepth 100000 in
set_option maxHeartbeats 1000000 in
theorem get_c {B : Option Addr} {n c : Nat} {bs : List Nat} {w : World} (z : Int) (hs : Src w B n c bs) :
    Calls Try.prog 25 #[.slice B n c, .int .i64 z] w (RetGet (getM bs z) w) := by
  have hl := hs.len
  have kr := Blk.new w 24 zMuC
  by_cases hz : 0 ≤ z ∧ z ≤ n
  case neg =>
    have e1 : getM bs z = (zMut, 0, 2) := by unfold getM; rw [if_neg (by rw [hl]; exact hz)]
    rw [e1]
    obtain ⟨c0, c1, c2, c3, c4, c5, f0, f1, f2, f3, f4, f5⟩ := kr.six
    have KR := hid kr
    have hc : (z < 0 ∧ decide (z < 0) = true) ∨ (¬ z < 0 ∧ decide (z < 0) = false ∧ (n : Int) < z ∧ decide ((n : Int) < z) = true) := by
      by_cases h : z < 0
      · exact .inl ⟨h, decide_eq_true h⟩
      · exact .inr ⟨h, decide_eq_false h, by omega, decide_eq_true (by omega)⟩
    clear hs e1 hz kr
    rcases hc with ⟨h1, h2⟩ | ⟨h1, h2, h3, h4⟩
    all_goals
      go_enter Try.func25, Try.ntmps25
      go_wp2
      refine ret_mu3 rfl rfl rfl rfl rfl KR.out ?_
      exact ⟨none, 0, rfl, World.ownsRow_nil _ _ _ _, (Below.refl _ _).alloc (Nat.le_refl _) _⟩
  obtain ⟨zn, rfl⟩ := Int.eq_ofNat_of_zero_le hz.1
  have hz1 : ¬ (zn : Int) < 0 := by omega
  have hz2 : ¬ (n : Int) < (zn : Int) := by omega
  have hz3 : decide ((n : Int) < (zn : Int)) = false := decide_eq_false hz2
  have hz4 : decide (n < zn) = false := decide_eq_false (by omega)
  have hz5 : decide ((zn : Int) < 0) = false := decide_eq_false hz1
  have hz6 : ¬ n < zn := by omega
  have kt : Blk ((w.alloc zMu).alloc (.cells (tapeC 0 ⟨#[]⟩ 0 0 0 (.slice none 0 0) B n c (zn : Nat)) 64)) (w.heap.size + 1) 64 (tapeC 0 ⟨#[]⟩ 0 0 0 (.slice none 0 0) B n c (zn : Nat)) := Blk.new_at (w.alloc zMu) _ _ (by simp)
  have HT := hid (tries_mu kt ((hs.alloc zMu).alloc (.cells (tapeC 0 ⟨#[]⟩ 0 0 0 (.slice none 0 0) B n c (zn : Nat)) 64)))
  have kr := kr.alloc (.cells (tapeC 0 ⟨#[]⟩ 0 0 0 (.slice none 0 0) B n c (zn : Nat)) 64)
  have hb : Below w.heap.size w ((w.alloc zMu).alloc (.cells (tapeC 0 ⟨#[]⟩ 0 0 0 (.slice none 0 0) B n c (zn : Nat)) 64)) := ((Below.refl w.heap.size w).alloc (Nat.le_refl _) zMu).alloc (by simp) _
  have hmf : ∀ (fn : Fn) (first cap : Array Value) (w : World), (Instr.makeFunc fn first cap).run Try.prog w = .ok (.func fn first cap) w := fun _ _ _ _ => rfl
  have e0 : getM bs (zn : Int) = (match mutS bs zn with | .ok (m, p) => (m, p, 0) | .error x => (zMut, 0, x)) := by unfold getM; rw [if_pos (by rw [hl]; exact hz), Int.toNat_natCast]
  rw [e0]
  clear hs hz e0 kt
  cases hm : mutS bs zn with
  | error x =>
    have hx := mutS_ne hm
    have hx1 : (x == 0) = false := beq_eq_false_iff_ne.2 hx
    have hx2 : decide (x = 0) = false := decide_eq_false hx
    rw [hm] at HT
    clear hm hx
    show Calls _ _ _ w (RetGet (zMut, 0, x) w)
    go_enter Try.func25, Try.ntmps25
    go_wp2_with fail
    refine HT.out.mono ?_
    rintro e w2 ⟨rfl, hb2⟩
    have kr2 := kr.but hb2 (by omega)
    have HBW := hid (But.below hb hb2 (by omega) (by simp only [World.size_alloc]; omega))
    clear hb kr hb2 HT
    obtain ⟨c0, c1, c2, c3, c4, c5, f0, f1, f2, f3, f4, f5⟩ := kr2.six
    have hlt : w.heap.size < w2.heap.size := kr2.lt
    go_wp2
    refine ret_mu3 rfl rfl rfl rfl rfl ((kr2.all6 (a' := .int .i64 0) (b' := .string ⟨#[]⟩) (c' := .int .i64 0) (d' := .int .i64 0) (e' := .int .i64 0) (f' := .slice none 0 0)).alloc zMu) ?_
    exact ⟨none, 0, rfl, World.ownsRow_nil _ _ _ _, ((((((HBW.out.setCell (p := ⟨w.heap.size, 0, none⟩) (Nat.le_refl _) _).setCell (p := ⟨w.heap.size, 1, none⟩) (Nat.le_refl _) _).setCell (p := ⟨w.heap.size, 2, none⟩) (Nat.le_refl _) _).setCell (p := ⟨w.heap.size, 3, none⟩) (Nat.le_refl _) _).setCell (p := ⟨w.heap.size, 4, none⟩) (Nat.le_refl _) _).setCell (p := ⟨w.heap.size, 5, none⟩) (Nat.le_refl _) _).alloc (by simp; omega) _⟩
  | ok q =>
    obtain ⟨m, p⟩ := q
    rw [hm] at HT
    clear hm
    show Calls _ _ _ w (RetGet (m, p, 0) w)
    go_enter Try.func25, Try.ntmps25
    go_wp2_with fail
    refine HT.out.mono ?_
    rintro e w2 ⟨A, f, rfl, hb2, kt2, hown⟩
    have kr2 := kr.but hb2 (by omega)
    have HBW := hid (But.below hb hb2 (by omega) (by simp only [World.size_alloc]; omega))
    clear hb kr hb2 HT
    have hlt : w.heap.size < w2.heap.size := kr2.lt
    go_upto_region 7 with fail
    have km := (Blk.new w2 24 #[.int .i64 m.kind, .string m.name, .int .i64 m.eps, .int .i64 m.floor, .int .i64 m.scale, .slice A m.pts.length f]).drew
    have kt := (kt2.alloc (.cells #[.int .i64 m.kind, .string m.name, .int .i64 m.eps, .int .i64 m.floor, .int .i64 m.scale, .slice A m.pts.length f] 24)).drew
    have kr := (kr2.alloc (.cells #[.int .i64 m.kind, .string m.name, .int .i64 m.eps, .int .i64 m.floor, .int .i64 m.scale, .slice A m.pts.length f] 24)).drew
    have hown := own_drew (hown.alloc (.cells #[.int .i64 m.kind, .string m.name, .int .i64 m.eps, .int .i64 m.floor, .int .i64 m.scale, .slice A m.pts.length f] 24))
    have hbw := (HBW.out.alloc (by omega) (.cells #[.int .i64 m.kind, .string m.name, .int .i64 m.eps, .int .i64 m.floor, .int .i64 m.scale, .slice A m.pts.length f] 24)).drew
    have hgs : ((w.alloc zMu).alloc (.cells (tapeC 0 ⟨#[]⟩ 0 0 0 (.slice none 0 0) B n c (zn : Nat)) 64)).heap.size = w.heap.size + 2 := by simp
    rw [hgs] at hown
    have hlt2 : w.heap.size < w2.heap.size := hlt
    clear kt2 kr2 HBW hgs
    refine wp_region_held_drew (S := fun _ => True) (by kernel_rfl) trivial (fun hHeld => ?_)
    clear hHeld
    have hTr : True := trivial
    generalize (w2.alloc (.cells #[.int .i64 m.kind, .string m.name, .int .i64 m.eps, .int .i64 m.floor, .int .i64 m.scale, .slice A m.pts.length f] 24)).drew = wd at *
    refine wpAnyH_take (i := 1) (v := ?_) rfl (by kernel_rfl) (by kernel_rfl) (by kernel_rfl) (fun _ _ _ h => h) (Or.inl ⟨by rfl, ?_⟩) (by assumption) ?_
    rotate_left
    · intro W hW
      go_simp
      try rfl
    simp only [List.getElem_toArray, List.getElem_cons_succ, List.getElem_cons_zero, Act.put, List.setIfInBounds_toArray, List.set_cons_zero, List.set_cons_succ]
    refine wpAnyH_take (i := 2) (v := ?_) rfl (by kernel_rfl) (by kernel_rfl) (by kernel_rfl) (fun _ _ _ h => h) (Or.inl ⟨by rfl, ?_⟩) (by assumption) ?_
    rotate_left
    · intro W hW
      go_simp
      try rfl
    simp only [List.getElem_toArray, List.getElem_cons_succ, List.getElem_cons_zero, Act.put, List.setIfInBounds_toArray, List.set_cons_zero, List.set_cons_succ]
    refine wpAnyH_take (i := 3) (v := ?_) rfl (by kernel_rfl) (by kernel_rfl) (by kernel_rfl) (fun _ _ _ h => h) (Or.inl ⟨by rfl, ?_⟩) (by assumption) ?_
    rotate_left
    · intro W hW
      go_simp
      try rfl
    simp only [List.getElem_toArray, List.getElem_cons_succ, List.getElem_cons_zero, Act.put, List.setIfInBounds_toArray, List.set_cons_zero, List.set_cons_succ]
    refine wpAnyH_ready (rs := [0, 4]) (by kernel_rfl) (by simp) ?_
    refine AllReadyH.cons rfl (fun K hK => ?_) (AllReadyH.cons rfl (fun K hK => ?_) AllReadyH.nil)
    · obtain ⟨y0, y1, y2, y3, y4, y5, _⟩ := km.six
      go_simp
      clear y0 y1 y2 y3 y4 y5
      refine hK.out _ _ trivial (fun hHeld => ?_)
      clear hK K hHeld
      try simp only [List.getElem_toArray, List.getElem_cons_succ, List.getElem_cons_zero, Act.put, List.setIfInBounds_toArray, List.set_cons_zero, List.set_cons_succ]
      refine wpAnyH_ready (rs := [4, 5]) (by kernel_rfl) (by simp) ?_
      refine AllReadyH.cons rfl (fun K hK => ?_) (AllReadyH.cons rfl (fun K hK => ?_) AllReadyH.nil)
      · obtain ⟨y0, y1, y2, y3, y4⟩ := kt.tape
        go_simp
        clear y0 y1 y2 y3 y4
        refine hK.out _ _ trivial (fun hHeld => ?_)
        clear hK K hHeld
        try simp only [List.getElem_toArray, List.getElem_cons_succ, List.getElem_cons_zero, Act.put, List.setIfInBounds_toArray, List.set_cons_zero, List.set_cons_succ]
        refine wpAnyH_ready (rs := [5]) (by kernel_rfl) (by simp) ?_
        refine AllReadyH.cons rfl (fun K hK => ?_) AllReadyH.nil
        obtain ⟨y0, y1, y2, y3, y4, y5, f0, f1, f2, f3, f4, f5⟩ := kr.six
        go_simp
        clear y0 y1 y2 y3 y4 y5 f0 f1 f2 f3 f4 f5
        have kt : Blk ((((((wd.setCell ⟨w.heap.size, 0, none⟩ (.int .i64 m.kind)).setCell ⟨w.heap.size, 1, none⟩ (.string m.name)).setCell ⟨w.heap.size, 2, none⟩ (.int .i64 m.eps)).setCell ⟨w.heap.size, 3, none⟩ (.int .i64 m.floor)).setCell ⟨w.heap.size, 4, none⟩ (.int .i64 m.scale)).setCell ⟨w.heap.size, 5, none⟩ (.slice A m.pts.length f)) _ _ _ := kt.far6 (q := w.heap.size) (by omega) (.int .i64 m.kind) (.string m.name) (.int .i64 m.eps) (.int .i64 m.floor) (.int .i64 m.scale) (.slice A m.pts.length f)
        have kr : Blk ((((((wd.setCell ⟨w.heap.size, 0, none⟩ (.int .i64 m.kind)).setCell ⟨w.heap.size, 1, none⟩ (.string m.name)).setCell ⟨w.heap.size, 2, none⟩ (.int .i64 m.eps)).setCell ⟨w.heap.size, 3, none⟩ (.int .i64 m.floor)).setCell ⟨w.heap.size, 4, none⟩ (.int .i64 m.scale)).setCell ⟨w.heap.size, 5, none⟩ (.slice A m.pts.length f)) _ _ _ := kr.all6 (a' := .int .i64 m.kind) (b' := .string m.name) (c' := .int .i64 m.eps) (d' := .int .i64 m.floor) (e' := .int .i64 m.scale) (f' := .slice A m.pts.length f)
        have hown : ((((((wd.setCell ⟨w.heap.size, 0, none⟩ (.int .i64 m.kind)).setCell ⟨w.heap.size, 1, none⟩ (.string m.name)).setCell ⟨w.heap.size, 2, none⟩ (.int .i64 m.eps)).setCell ⟨w.heap.size, 3, none⟩ (.int .i64 m.floor)).setCell ⟨w.heap.size, 4, none⟩ (.int .i64 m.scale)).setCell ⟨w.heap.size, 5, none⟩ (.slice A m.pts.length f)).ownsRow _ _ _ _ _ _ := own_far6 hown (q := w.heap.size) (by omega) (.int .i64 m.kind) (.string m.name) (.int .i64 m.eps) (.int .i64 m.floor) (.int .i64 m.scale) (.slice A m.pts.length f)
        have hbw : Below w.heap.size w ((((((wd.setCell ⟨w.heap.size, 0, none⟩ (.int .i64 m.kind)).setCell ⟨w.heap.size, 1, none⟩ (.string m.name)).setCell ⟨w.heap.size, 2, none⟩ (.int .i64 m.eps)).setCell ⟨w.heap.size, 3, none⟩ (.int .i64 m.floor)).setCell ⟨w.heap.size, 4, none⟩ (.int .i64 m.scale)).setCell ⟨w.heap.size, 5, none⟩ (.slice A m.pts.length f)) := ((((((hbw.setCell (p := ⟨w.heap.size, 0, none⟩) (Nat.le_refl _) _).setCell (p := ⟨w.heap.size, 1, none⟩) (Nat.le_refl _) _).setCell (p := ⟨w.heap.size, 2, none⟩) (Nat.le_refl _) _).setCell (p := ⟨w.heap.size, 3, none⟩) (Nat.le_refl _) _).setCell (p := ⟨w.heap.size, 4, none⟩) (Nat.le_refl _) _).setCell (p := ⟨w.heap.size, 5, none⟩) (Nat.le_refl _) _)
        generalize (((((wd.setCell ⟨w.heap.size, 0, none⟩ (.int .i64 m.kind)).setCell ⟨w.heap.size, 1, none⟩ (.string m.name)).setCell ⟨w.heap.size, 2, none⟩ (.int .i64 m.eps)).setCell ⟨w.heap.size, 3, none⟩ (.int .i64 m.floor)).setCell ⟨w.heap.size, 4, none⟩ (.int .i64 m.scale)).setCell ⟨w.heap.size, 5, none⟩ (.slice A m.pts.length f) = wx at *
        refine hK.out _ _ trivial (fun hHeld => ?_)
        clear hK K hHeld
        try simp only [List.getElem_toArray, List.getElem_cons_succ, List.getElem_cons_zero, Act.put, List.setIfInBounds_toArray, List.set_cons_zero, List.set_cons_succ]
        refine wpAnyH_take (i := 6) (v := ?_) rfl (by kernel_rfl) (by kernel_rfl) (by kernel_rfl) (fun _ _ _ h => h) (Or.inl ⟨by rfl, ?_⟩) (by assumption) ?_
        rotate_left
        · intro W hW
          go_simp
          try rfl
        simp only [List.getElem_toArray, List.getElem_cons_succ, List.getElem_cons_zero, Act.put, List.setIfInBounds_toArray, List.set_cons_zero, List.set_cons_succ]
        refine wpAnyH_take (i := 7) (v := ?_) rfl (by kernel_rfl) (by kernel_rfl) (by kernel_rfl) (fun _ _ _ h => h) (Or.inl ⟨by rfl, ?_⟩) (by assumption) ?_
        rotate_left
        · intro W hW
          go_simp
          try rfl
        simp only [List.getElem_toArray, List.getElem_cons_succ, List.getElem_cons_zero, Act.put, List.setIfInBounds_toArray, List.set_cons_zero, List.set_cons_succ]
        refine wpAnyH_done (by kernel_rfl) ?_ _
        go_wp2
        refine ret_mu3 rfl rfl rfl rfl rfl kr ?_
        exact ⟨A, f, rfl, own_base hown (by omega), hbw⟩
      · obtain ⟨y0, y1, y2, y3, y4, y5, f0, f1, f2, f3, f4, f5⟩ := kr.six
        go_simp
        clear y0 y1 y2 y3 y4 y5 f0 f1 f2 f3 f4 f5
        have kt : Blk ((((((wd.setCell ⟨w.heap.size, 0, none⟩ (.int .i64 m.kind)).setCell ⟨w.heap.size, 1, none⟩ (.string m.name)).setCell ⟨w.heap.size, 2, none⟩ (.int .i64 m.eps)).setCell ⟨w.heap.size, 3, none⟩ (.int .i64 m.floor)).setCell ⟨w.heap.size, 4, none⟩ (.int .i64 m.scale)).setCell ⟨w.heap.size, 5, none⟩ (.slice A m.pts.length f)) _ _ _ := kt.far6 (q := w.heap.size) (by omega) (.int .i64 m.kind) (.string m.name) (.int .i64 m.eps) (.int .i64 m.floor) (.int .i64 m.scale) (.slice A m.pts.length f)
        have kr : Blk ((((((wd.setCell ⟨w.heap.size, 0, none⟩ (.int .i64 m.kind)).setCell ⟨w.heap.size, 1, none⟩ (.string m.name)).setCell ⟨w.heap.size, 2, none⟩ (.int .i64 m.eps)).setCell ⟨w.heap.size, 3, none⟩ (.int .i64 m.floor)).setCell ⟨w.heap.size, 4, none⟩ (.int .i64 m.scale)).setCell ⟨w.heap.size, 5, none⟩ (.slice A m.pts.length f)) _ _ _ := kr.all6 (a' := .int .i64 m.kind) (b' := .string m.name) (c' := .int .i64 m.eps) (d' := .int .i64 m.floor) (e' := .int .i64 m.scale) (f' := .slice A m.pts.length f)
        have hown : ((((((wd.setCell ⟨w.heap.size, 0, none⟩ (.int .i64 m.kind)).setCell ⟨w.heap.size, 1, none⟩ (.string m.name)).setCell ⟨w.heap.size, 2, none⟩ (.int .i64 m.eps)).setCell ⟨w.heap.size, 3, none⟩ (.int .i64 m.floor)).setCell ⟨w.heap.size, 4, none⟩ (.int .i64 m.scale)).setCell ⟨w.heap.size, 5, none⟩ (.slice A m.pts.length f)).ownsRow _ _ _ _ _ _ := own_far6 hown (q := w.heap.size) (by omega) (.int .i64 m.kind) (.string m.name) (.int .i64 m.eps) (.int .i64 m.floor) (.int .i64 m.scale) (.slice A m.pts.length f)
        have hbw : Below w.heap.size w ((((((wd.setCell ⟨w.heap.size, 0, none⟩ (.int .i64 m.kind)).setCell ⟨w.heap.size, 1, none⟩ (.string m.name)).setCell ⟨w.heap.size, 2, none⟩ (.int .i64 m.eps)).setCell ⟨w.heap.size, 3, none⟩ (.int .i64 m.floor)).setCell ⟨w.heap.size, 4, none⟩ (.int .i64 m.scale)).setCell ⟨w.heap.size, 5, none⟩ (.slice A m.pts.length f)) := ((((((hbw.setCell (p := ⟨w.heap.size, 0, none⟩) (Nat.le_refl _) _).setCell (p := ⟨w.heap.size, 1, none⟩) (Nat.le_refl _) _).setCell (p := ⟨w.heap.size, 2, none⟩) (Nat.le_refl _) _).setCell (p := ⟨w.heap.size, 3, none⟩) (Nat.le_refl _) _).setCell (p := ⟨w.heap.size, 4, none⟩) (Nat.le_refl _) _).setCell (p := ⟨w.heap.size, 5, none⟩) (Nat.le_refl _) _)
        generalize (((((wd.setCell ⟨w.heap.size, 0, none⟩ (.int .i64 m.kind)).setCell ⟨w.heap.size, 1, none⟩ (.string m.name)).setCell ⟨w.heap.size, 2, none⟩ (.int .i64 m.eps)).setCell ⟨w.heap.size, 3, none⟩ (.int .i64 m.floor)).setCell ⟨w.heap.size, 4, none⟩ (.int .i64 m.scale)).setCell ⟨w.heap.size, 5, none⟩ (.slice A m.pts.length f) = wx at *
        refine hK.out _ _ trivial (fun hHeld => ?_)
        clear hK K hHeld
        try simp only [List.getElem_toArray, List.getElem_cons_succ, List.getElem_cons_zero, Act.put, List.setIfInBounds_toArray, List.set_cons_zero, List.set_cons_succ]
        refine wpAnyH_ready (rs := [4]) (by kernel_rfl) (by simp) ?_
        refine AllReadyH.cons rfl (fun K hK => ?_) AllReadyH.nil
        obtain ⟨y0, y1, y2, y3, y4⟩ := kt.tape
        go_simp
        clear y0 y1 y2 y3 y4
        refine hK.out _ _ trivial (fun hHeld => ?_)
        clear hK K hHeld
        try simp only [List.getElem_toArray, List.getElem_cons_succ, List.getElem_cons_zero, Act.put, List.setIfInBounds_toArray, List.set_cons_zero, List.set_cons_succ]
        refine wpAnyH_take (i := 6) (v := ?_) rfl (by kernel_rfl) (by kernel_rfl) (by kernel_rfl) (fun _ _ _ h => h) (Or.inl ⟨by rfl, ?_⟩) (by assumption) ?_
        rotate_left
        · intro W hW
          go_simp
          try rfl
        simp only [List.getElem_toArray, List.getElem_cons_succ, List.getElem_cons_zero, Act.put, List.setIfInBounds_toArray, List.set_cons_zero, List.set_cons_succ]
        refine wpAnyH_take (i := 7) (v := ?_) rfl (by kernel_rfl) (by kernel_rfl) (by kernel_rfl) (fun _ _ _ h => h) (Or.inl ⟨by rfl, ?_⟩) (by assumption) ?_
        rotate_left
        · intro W hW
          go_simp
          try rfl
        simp only [List.getElem_toArray, List.getElem_cons_succ, List.getElem_cons_zero, Act.put, List.setIfInBounds_toArray, List.set_cons_zero, List.set_cons_succ]
        refine wpAnyH_done (by kernel_rfl) ?_ _
        go_wp2
        refine ret_mu3 rfl rfl rfl rfl rfl kr ?_
        exact ⟨A, f, rfl, own_base hown (by omega), hbw⟩
    · obtain ⟨y0, y1, y2, y3, y4⟩ := kt.tape
      go_simp
      clear y0 y1 y2 y3 y4
      refine hK.out _ _ trivial (fun hHeld => ?_)
      clear hK K hHeld
      try simp only [List.getElem_toArray, List.getElem_cons_succ, List.getElem_cons_zero, Act.put, List.setIfInBounds_toArray, List.set_cons_zero, List.set_cons_succ]
      refine wpAnyH_ready (rs := [0]) (by kernel_rfl) (by simp) ?_
      refine AllReadyH.cons rfl (fun K hK => ?_) AllReadyH.nil
      obtain ⟨y0, y1, y2, y3, y4, y5, _⟩ := km.six
      go_simp
      clear y0 y1 y2 y3 y4 y5
      refine hK.out _ _ trivial (fun hHeld => ?_)
      clear hK K hHeld
      try simp only [List.getElem_toArray, List.getElem_cons_succ, List.getElem_cons_zero, Act.put, List.setIfInBounds_toArray, List.set_cons_zero, List.set_cons_succ]
      refine wpAnyH_ready (rs := [5]) (by kernel_rfl) (by simp) ?_
      refine AllReadyH.cons rfl (fun K hK => ?_) AllReadyH.nil
      obtain ⟨y0, y1, y2, y3, y4, y5, f0, f1, f2, f3, f4, f5⟩ := kr.six
      go_simp
      clear y0 y1 y2 y3 y4 y5 f0 f1 f2 f3 f4 f5
      have kt : Blk ((((((wd.setCell ⟨w.heap.size, 0, none⟩ (.int .i64 m.kind)).setCell ⟨w.heap.size, 1, none⟩ (.string m.name)).setCell ⟨w.heap.size, 2, none⟩ (.int .i64 m.eps)).setCell ⟨w.heap.size, 3, none⟩ (.int .i64 m.floor)).setCell ⟨w.heap.size, 4, none⟩ (.int .i64 m.scale)).setCell ⟨w.heap.size, 5, none⟩ (.slice A m.pts.length f)) _ _ _ := kt.far6 (q := w.heap.size) (by omega) (.int .i64 m.kind) (.string m.name) (.int .i64 m.eps) (.int .i64 m.floor) (.int .i64 m.scale) (.slice A m.pts.length f)
      have kr : Blk ((((((wd.setCell ⟨w.heap.size, 0, none⟩ (.int .i64 m.kind)).setCell ⟨w.heap.size, 1, none⟩ (.string m.name)).setCell ⟨w.heap.size, 2, none⟩ (.int .i64 m.eps)).setCell ⟨w.heap.size, 3, none⟩ (.int .i64 m.floor)).setCell ⟨w.heap.size, 4, none⟩ (.int .i64 m.scale)).setCell ⟨w.heap.size, 5, none⟩ (.slice A m.pts.length f)) _ _ _ := kr.all6 (a' := .int .i64 m.kind) (b' := .string m.name) (c' := .int .i64 m.eps) (d' := .int .i64 m.floor) (e' := .int .i64 m.scale) (f' := .slice A m.pts.length f)
      have hown : ((((((wd.setCell ⟨w.heap.size, 0, none⟩ (.int .i64 m.kind)).setCell ⟨w.heap.size, 1, none⟩ (.string m.name)).setCell ⟨w.heap.size, 2, none⟩ (.int .i64 m.eps)).setCell ⟨w.heap.size, 3, none⟩ (.int .i64 m.floor)).setCell ⟨w.heap.size, 4, none⟩ (.int .i64 m.scale)).setCell ⟨w.heap.size, 5, none⟩ (.slice A m.pts.length f)).ownsRow _ _ _ _ _ _ := own_far6 hown (q := w.heap.size) (by omega) (.int .i64 m.kind) (.string m.name) (.int .i64 m.eps) (.int .i64 m.floor) (.int .i64 m.scale) (.slice A m.pts.length f)
      have hbw : Below w.heap.size w ((((((wd.setCell ⟨w.heap.size, 0, none⟩ (.int .i64 m.kind)).setCell ⟨w.heap.size, 1, none⟩ (.string m.name)).setCell ⟨w.heap.size, 2, none⟩ (.int .i64 m.eps)).setCell ⟨w.heap.size, 3, none⟩ (.int .i64 m.floor)).setCell ⟨w.heap.size, 4, none⟩ (.int .i64 m.scale)).setCell ⟨w.heap.size, 5, none⟩ (.slice A m.pts.length f)) := ((((((hbw.setCell (p := ⟨w.heap.size, 0, none⟩) (Nat.le_refl _) _).setCell (p := ⟨w.heap.size, 1, none⟩) (Nat.le_refl _) _).setCell (p := ⟨w.heap.size, 2, none⟩) (Nat.le_refl _) _).setCell (p := ⟨w.heap.size, 3, none⟩) (Nat.le_refl _) _).setCell (p := ⟨w.heap.size, 4, none⟩) (Nat.le_refl _) _).setCell (p := ⟨w.heap.size, 5, none⟩) (Nat.le_refl _) _)
      generalize (((((wd.setCell ⟨w.heap.size, 0, none⟩ (.int .i64 m.kind)).setCell ⟨w.heap.size, 1, none⟩ (.string m.name)).setCell ⟨w.heap.size, 2, none⟩ (.int .i64 m.eps)).setCell ⟨w.heap.size, 3, none⟩ (.int .i64 m.floor)).setCell ⟨w.heap.size, 4, none⟩ (.int .i64 m.scale)).setCell ⟨w.heap.size, 5, none⟩ (.slice A m.pts.length f) = wx at *
      refine hK.out _ _ trivial (fun hHeld => ?_)
      clear hK K hHeld
      try simp only [List.getElem_toArray, List.getElem_cons_succ, List.getElem_cons_zero, Act.put, List.setIfInBounds_toArray, List.set_cons_zero, List.set_cons_succ]
      refine wpAnyH_take (i := 6) (v := ?_) rfl (by kernel_rfl) (by kernel_rfl) (by kernel_rfl) (fun _ _ _ h => h) (Or.inl ⟨by rfl, ?_⟩) (by assumption) ?_
      rotate_left
      · intro W hW
        go_simp
        try rfl
      simp only [List.getElem_toArray, List.getElem_cons_succ, List.getElem_cons_zero, Act.put, List.setIfInBounds_toArray, List.set_cons_zero, List.set_cons_succ]
      refine wpAnyH_take (i := 7) (v := ?_) rfl (by kernel_rfl) (by kernel_rfl) (by kernel_rfl) (fun _ _ _ h => h) (Or.inl ⟨by rfl, ?_⟩) (by assumption) ?_
      rotate_left
      · intro W hW
        go_simp
        try rfl
      simp only [List.getElem_toArray, List.getElem_cons_succ, List.getElem_cons_zero, Act.put, List.setIfInBounds_toArray, List.set_cons_zero, List.set_cons_succ]
      refine wpAnyH_done (by kernel_rfl) ?_ _
      go_wp2
      refine ret_mu3 rfl rfl rfl rfl rfl kr ?_
      exact ⟨A, f, rfl, own_base hown (by omega), hbw⟩
end Go.Proofs.Ytedojdbihajnbaa
