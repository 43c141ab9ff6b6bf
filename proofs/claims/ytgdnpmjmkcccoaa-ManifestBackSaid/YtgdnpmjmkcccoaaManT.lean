/- Manifest laws: plain, few, wakes of law22. Manifest laws: wakes of law22. -/
import Derived.Test.YtgdnpmjmkcccoaaManS
import Derived.Test.YtgdnpmjmkcccoaaRefM
namespace Go.Proofs.Ytgdnpmjmkcccoaa
open Go.RowKit Go.Shelf VB
open Go.Lib (hid)
set_option linter.unusedVariables false
set_option linter.unusedSimpArgs false
def wkRo : Ro := ⟨⟨#[98]⟩, 0, 2, 9, 0, [⟨5, 8, 2, 30, [20]⟩], [(9, -1)]⟩
/-- a row in memory of its own types -/
structure RoFr (w : World) (x : RoA) : Prop where
  en : Reads w 45 5 x.ea x.en.length (x.en.flatMap cellsN)
  ens : ∀ e ∈ x.en, Reads w 3 1 e.2.1 e.1.ps.length (e.1.ps.map (Value.int .i64))
  op : Reads w 47 2 x.oa x.op.length (x.op.flatMap cellsP)
  pgl : ∀ e ∈ x.en, e.1.ps.length ≤ 256
  henl : x.en.length ≤ 256
  hopl : x.op.length ≤ 256
  hnm : x.nm.size ≤ 255
  hfs : ∀ e ∈ x.en, e.1.fs ≤ 9223372036854775807
theorem RoFr.inn {w : World} {x : RoA} (h : RoFr w x) : RoIn w x := by
  refine ⟨⟨_, h.en⟩, fun e he => ⟨⟨_, h.ens e he⟩, by have := h.pgl e he; omega⟩, ⟨_, h.op⟩, by have := h.henl; omega, ?_, by have := h.hopl; omega, by have := h.hnm; omega, h.hfs⟩
  have : ∀ l : List EnA, (∀ e ∈ l, e.1.ps.length ≤ 256) → (pgsA l).length ≤ l.length * 256 := by
    intro l
    induction l with
    | nil => intro _; simp [pgsA]
    | cons e l ih =>
      intro hh
      have h1 := hh e List.mem_cons_self
      have h2 := ih (fun y hy => hh y (List.mem_cons_of_mem _ hy))
      unfold pgsA at h2 ⊢
      rw [List.flatMap_cons, List.length_append, List.length_cons]
      omega
  have h1 := this x.en h.pgl
  have h2 := h.henl
  omega
theorem RoFr.keep {w w' : World} {x : RoA} (h : RoFr w x) (hk : ∀ b t, Typed w b t → (t = 45 ∨ t = 3 ∨ t = 47) → w'.heap[b]? = w.heap[b]?) : RoFr w' x :=
  ⟨h.en.keep fun b hb => hk b _ hb (.inl rfl), fun e he => (h.ens e he).keep fun b hb => hk b _ hb (.inr (.inl rfl)), h.op.keep fun b hb => hk b _ hb (.inr (.inr rfl)), h.pgl, h.henl, h.hopl, h.hnm, h.hfs⟩
theorem RoFr.below {w w' : World} {x : RoA} (h : RoFr w x) (hb : Below w.heap.size w w') : RoFr w' x := h.keep fun b t ht _ => hb.block b ht.lt
theorem RoFr.grown {w w' : World} {x : RoA} {base n : Nat} {v : Value} {xs : List Value} (h : RoFr w x) (hown : w.ownsRow base 42 7 v n xs) (hg : w.grownBy w' v.ownBlock) : RoFr w' x := by
  refine h.keep fun b t hb ht => hg.block b hb.lt ?_
  intro e
  obtain ⟨_, h2⟩ := hown
  rcases h2 with ⟨rfl, _⟩ | ⟨q, cap, cs, rfl, _, hh, _⟩
  · cases e
  · injection e with e
    subst e
    obtain ⟨c1, r1, h1⟩ := hb
    rw [h1] at hh
    injection hh with hh
    injection hh with _ h3
    subst h3
    rcases ht with h | h | h <;> exact absurd h (by decide)
def RetPl (w : World) (d : Ending) (w' : World) : Prop := ∃ (ad : Addr) (c : Nat) (x : RoA), x.d = wkRo ∧ d = .returned (.agg #[.slice (some ad) 1 c]) ∧ w'.ownsRow w.heap.size 42 7 (.slice (some ad) 1 c) 1 (cellsR x) ∧ RoFr w' x ∧ Below w.heap.size w w'
theorem own_newR (w : World) (e : TypeId) (sz n : Nat) (cs : List Value) (h : cs.length = n * sz) (hn : n ≤ maxLen) : (w.alloc (.cells cs.toArray e)).ownsRow w.heap.size e sz (.slice (some ⟨w.heap.size, 0, none⟩) n n) n cs :=
  ⟨h, .inr ⟨w.heap.size, n, cs.toArray, rfl, Nat.le_refl _, heap_alloc_new w _, Nat.le_refl _, hn, by simpa using h, by simp [← h]⟩⟩
set_option maxRecDepth 100000 in
set_option maxHeartbeats 1000000 in
theorem plain_22 (w : World) : Calls Try.prog 35 #[] w (RetPl w) := by
  obtain ⟨b, hb⟩ : ∃ b, b = w.heap.size := ⟨_, rfl⟩
  obtain ⟨x, hx⟩ : ∃ x : RoA, x = ⟨⟨#[98]⟩, 0, 2, 9, 0, [(⟨5, 8, 2, 30, [20]⟩, some ⟨w.heap.size + 1, 0, none⟩, 1)], some ⟨w.heap.size + 1 + 1, 0, none⟩, 1, [(9, -1)], some ⟨w.heap.size + 1 + 1 + 1, 0, none⟩, 1⟩ := ⟨_, rfl⟩
  obtain ⟨w0, h0⟩ : ∃ w0, w0 = w.alloc (.cells #[.slice (some ⟨w.heap.size + 1 + 1 + 1 + 1, 0, none⟩) 1 1] 24) := ⟨_, rfl⟩
  obtain ⟨w1, h1⟩ : ∃ w1, w1 = w0.alloc (.cells #[.int .i64 20] 3) := ⟨_, rfl⟩
  obtain ⟨w2, h2⟩ : ∃ w2, w2 = w1.alloc (.cells (aE 5 8 2 (.slice (some ⟨w.heap.size + 1, 0, none⟩) 1 1) 30) 45) := ⟨_, rfl⟩
  obtain ⟨w3, h3⟩ : ∃ w3, w3 = w2.alloc (.cells #[.int .i64 9, .int .i64 (-1)] 47) := ⟨_, rfl⟩
  obtain ⟨w4, h4⟩ : ∃ w4, w4 = w3.alloc (.cells (cellsR x).toArray 42) := ⟨_, rfl⟩
  have s0 : w0.heap.size = w.heap.size + 1 := by rw [h0]; simp
  have s1 : w1.heap.size = w.heap.size + 1 + 1 := by rw [h1]; simp [s0]
  have s2 : w2.heap.size = w.heap.size + 1 + 1 + 1 := by rw [h2]; simp [s1]
  have s3 : w3.heap.size = w.heap.size + 1 + 1 + 1 + 1 := by rw [h3]; simp [s2]
  have r1 : Reads w1 3 1 (some ⟨w.heap.size + 1, 0, none⟩) 1 (([20] : List Int).map (Value.int .i64)) := by rw [h1, ← s0]; exact new_reads w0 3 1 [.int .i64 20] rfl
  have r2 : Reads w2 45 5 (some ⟨w.heap.size + 1 + 1, 0, none⟩) 1 (x.en.flatMap cellsN) := by rw [h2, ← s1, hx]; exact new_reads w1 45 5 _ rfl
  have r3 : Reads w3 47 2 (some ⟨w.heap.size + 1 + 1 + 1, 0, none⟩) 1 (x.op.flatMap cellsP) := by rw [h3, ← s2, hx]; exact new_reads w2 47 2 _ rfl
  have o4 : w4.ownsRow w3.heap.size 42 7 (.slice (some ⟨w3.heap.size, 0, none⟩) 1 1) 1 (cellsR x) := by rw [h4]; exact own_newR w3 42 7 1 _ rfl (by decide)
  have HF := hid (show RetPl w (.returned (.agg #[.slice (some ⟨w.heap.size + 1 + 1 + 1 + 1, 0, none⟩) 1 1])) w4 by
    refine ⟨_, 1, x, by rw [hx]; rfl, rfl, by rw [← s3]; exact own_low o4 (by omega), ?_, ?_⟩
    · refine ⟨?_, ?_, ?_, ?_, ?_, ?_, ?_, ?_⟩
      · rw [show x.ea = some ⟨w.heap.size + 1 + 1, 0, none⟩ by rw [hx], show x.en.length = 1 by rw [hx]; rfl, h4]
        rw [h3]
        exact (r2.alloc _).alloc _
      · intro e he
        rw [hx] at he
        obtain rfl := List.mem_singleton.1 he
        rw [h4, h3, h2]
        exact ((r1.alloc _).alloc _).alloc _
      · rw [show x.oa = some ⟨w.heap.size + 1 + 1 + 1, 0, none⟩ by rw [hx], show x.op.length = 1 by rw [hx]; rfl, h4]
        exact r3.alloc _
      all_goals rw [hx]
      · intro e he
        obtain rfl := List.mem_singleton.1 he
        show 1 ≤ 256
        decide
      · show 1 ≤ 256; decide
      · show 1 ≤ 256; decide
      · show 1 ≤ 255; decide
      · intro e he
        obtain rfl := List.mem_singleton.1 he
        show (5 : Int) ≤ 9223372036854775807
        decide
    · rw [h4, h3, h2, h1, h0]
      exact (((((Below.refl w.heap.size w).alloc (Nat.le_refl _) _).alloc (by simp) _).alloc (by simp; omega) _).alloc (by simp; omega) _).alloc (by simp; omega) _)
  have c0 : w4.cell? ⟨w.heap.size, 0, none⟩ = some (.slice (some ⟨w.heap.size + 1 + 1 + 1 + 1, 0, none⟩) 1 1) := by
    rw [h4, h3, h2, h1, h0]
    exact ((((Blk.new w 24 #[.slice (some ⟨w.heap.size + 1 + 1 + 1 + 1, 0, none⟩) 1 1]).alloc _).alloc _).alloc _).alloc _ |>.cell 0
  have hw4 : w4 = (w3.alloc (.cells (aR ⟨#[98]⟩ 0 2 9 0 (.slice (some ⟨w.heap.size + 1 + 1, 0, none⟩) 1 1) (.slice (some ⟨w.heap.size + 1 + 1 + 1, 0, none⟩) 1 1)) 42)) := by rw [h4, hx]; rfl
  clear r1 r2 r3 o4 s0 s1 s2 s3 h4 hx
  go_enter Try.func35, Try.ntmps35
  go_wp2_with fail
  rw [← h0, ← h1, ← h2, ← h3, ← hw4]
  refine bodyPost_ret (v := .agg #[.slice (some ⟨w.heap.size + 1 + 1 + 1 + 1, 0, none⟩) 1 1]) ?_ rfl HF.out
  simp [results, Try.results35, go_sem, c0]
theorem few_22 {e' : TypeId} (A : Option Addr) (n m c : Nat) (bs : List Nat) (w : World) (hb : Reads w e' 1 A n (bsV bs)) (hc : n ≤ c) (hcm : c ≤ maxLen) (hm : m = min n 3000) :
    Calls Try.prog 19 #[.slice A n c] w (RetB (bs.take m) w) := by
  have hl : bs.length = n := by have := hb.1; rw [bsV_len] at this; omega
  have hcl : Calls Try.prog 50 #[.slice A m c] w fun e w' => ∃ C f, e = .returned (.slice C m f) ∧ w'.ownsRow w.heap.size 5 1 (.slice C m f) m (bsV (bs.take m)) ∧ Below w.heap.size w w' := by
    refine clone_b (e' := e') A m c (bs.take m) w ?_ (by omega)
    have h := hb.take (k := m) (by omega)
    rw [Nat.mul_one] at h
    rw [show bsV (bs.take m) = (bsV bs).take m by simp [bsV, List.map_take]]
    exact h
  have HC := Lib.hid hcl
  have h2 : ((m : Nat) : Int) ≤ (c : Nat) := by omega
  have hmc : m ≤ c := by omega
  have hml : (bs.take m).length = m := by rw [List.length_take]; omega
  have HL := Lib.hid hml
  have hmin : ∀ w, (Builtin.min_ #[3, 3] 3 #[.int .i64 (n : Int), .int .i64 3000]).run Try.prog w = .ok (.int .i64 (m : Nat)) w := min_at hm 3000 rfl
  clear hb hcl hl hml hm
  go_enter Try.func19, Try.ntmps19
  go_wp2_with fail
  refine HC.out.mono ?_
  clear HC
  rintro e w1 ⟨C0, f0, rfl, hown, hb1⟩
  have HF := Lib.hid (show RetB (bs.take m) w (.returned (.slice C0 m f0)) w1 from ⟨C0, f0, by rw [HL.out], by rw [HL.out]; exact hown, hb1⟩)
  clear hown hb1
  go_wp2_with fail
  go_ret
  exact HF.out
theorem mk1 : manOk [wkRo] = true := by rfl
theorem mk3 : decM [1, 1, 98, 0, 0, 2, 10, 1, 5, 3, 2, 30, 20, 1, 9, 1] = .ok [wkRo] := by kernel_rfl
theorem mk2 : manBy [wkRo] = [1, 1, 98, 0, 0, 2, 10, 1, 5, 3, 2, 30, 20, 1, 9, 1] := (dec_sound (by decide) mk3).2.2.symm
theorem mk4 : decM [1, 1, 98, 0, 0, 2, 10, 1] = .error 6 := by rfl
theorem mk5 : manE [wkRo, wkRo] = 320 := by
  have h : behN (some wkRo.nm) wkRo.nm = false := by
    unfold behN nmLt
    simp only [ByteArray.toList_eq]
    decide
  unfold manE manOk
  simp only [risesB, h, Bool.false_and, Bool.and_false]
  decide
theorem mk6 : ¬ ([wkRo] = [wkRo, wkRo]) := by intro h; injection h with _ h; cases h
end Go.Proofs.Ytgdnpmjmkcccoaa
namespace Go.Proofs.Ytgdnpmjmkcccoaa
open Go.RowKit Go.Shelf VB
open Go.Lib (hid)
set_option linter.unusedVariables false
set_option linter.unusedSimpArgs false
theorem src_new (w : World) (bs : List Nat) (n : Nat) (hn : bs.length = n) (h6 : n ≤ 1000000) (hbs : ∀ x ∈ bs, x < 256) : Src (w.alloc (.cells (bsV bs).toArray 5)) (some ⟨w.heap.size, 0, none⟩) n n bs := by
  refine ⟨⟨by rw [bsV_len, hn, Nat.mul_one], fun _ => ⟨_, rfl, (Blk.new w 5 _).typed, fun j u hu => ?_⟩⟩, h6, Nat.le_refl _, by simp only [maxLen]; omega, hbs⟩
  rw [show ((⟨w.heap.size, 0, none⟩ : Addr).add j) = ⟨w.heap.size, j, none⟩ by rw [Addr.add_lit]; simp, (Blk.new w 5 _).cell j, ← hu, List.getElem?_toArray]
theorem src_at {g : Nat} (w : World) (bs : List Nat) (n : Nat) (hg : g = w.heap.size) (hn : bs.length = n) (h6 : n ≤ 1000000) (hbs : ∀ x ∈ bs, x < 256) : Src (w.alloc (.cells (bsV bs).toArray 5)) (some ⟨g, 0, none⟩) n n bs := hg ▸ src_new w bs n hn h6 hbs
def RetEncK (w : World) (d : Ending) (w' : World) : Prop := ∃ C f, d = .returned (.tuple #[.slice C 16 f, .int .i64 0]) ∧ Below w.heap.size w w'
theorem enc_wk {w w' : World} {d : Ending} (h : RetEnc [wkRo] w d w') : RetEncK w d w' := by
  unfold RetEnc at h
  rw [if_pos mk1, mk2] at h
  obtain ⟨C, f, h1, _, h2⟩ := h
  exact ⟨C, f, h1, h2⟩
def RetDecK (w : World) (d : Ending) (w' : World) : Prop := ∃ y C f, d = .returned (.tuple #[.agg #[.slice C 1 f], .int .i64 0]) ∧ Below w.heap.size w w' ∧ y.d = wkRo ∧ ManIn w' C 1 f [y]
theorem dec_wk {w w' : World} {d : Ending} (h : RetDec (.ok [wkRo]) w d w') : RetDecK w d w' := by
  obtain ⟨xs, C, f, h1, h2, h3, h4, h5⟩ := h
  have h6 := h5.man h4
  have hl : xs.length = 1 := by have := congrArg List.length h3; simpa using this
  obtain ⟨y, hy⟩ := List.length_eq_one_iff.1 hl
  rw [hl] at h1 h6
  rw [hy] at h3 h6
  injection h3 with h3 _
  exact ⟨y, C, f, h1, h2, h3, h6⟩
def RetDecS (w : World) (d : Ending) (w' : World) : Prop := d = .returned (.tuple #[.agg #[.slice none 0 0], .int .i64 6]) ∧ Below w.heap.size w w'
theorem man_of {w : World} {base : Nat} {ad : Addr} {c : Nat} {x : RoA} (h : w.ownsRow base 42 7 (.slice (some ad) 1 c) 1 (cellsR x)) (hx : RoIn w x) : ManIn w (some ad) 1 c [x] :=
  ⟨⟨_, by simpa using Reads.of_own h⟩, fun y hy => by obtain rfl := List.mem_singleton.1 hy; exact hx, by omega⟩
set_option maxRecDepth 100000 in
set_option maxHeartbeats 4000000 in
theorem wakes_22 (w : World) : Calls Try.prog 10 #[] w fun e w' => e = .returned (.bool true) ∧ Below w.heap.size w w' := by
  obtain ⟨i0, hi0, hz0, hz1, hz2⟩ := info_parts3 row_info
  have HI := hid (And.intro hi0 (And.intro hz0 (And.intro hz1 hz2)))
  clear hi0 hz0 hz1 hz2
  have hfd : ∀ (v : Value) (w : World), (Instr.field 24 (.agg #[v]) 0).run Try.prog w = .ok v w := fun _ _ => by kernel_rfl
  go_enter Try.func10, Try.ntmps10
  go_wp2_with fail
  refine (plain_22 _).mono ?_
  rintro d w1 ⟨a1, c1, x1, hx1, rfl, ho1, hr1, hb1⟩
  have HE := hid ((Encode_c (some a1) 1 c1 [x1] w1 (man_of ho1 hr1.inn)).mono fun d w' h => enc_wk (by rw [show [x1].map RoA.d = [wkRo] by rw [List.map_singleton, hx1]] at h; exact h))
  have HB := hid hb1
  clear hx1 ho1 hr1 hb1
  go_wp2_with fail
  refine HE.out.mono ?_
  rintro d w2 ⟨C2, f2, rfl, hb2⟩
  replace HB := hid (HB.out.trans (hb2.mono HB.out.size))
  clear hb2 HE
  have HD := hid ((Decode_c (src_new w2 [1, 1, 98, 0, 0, 2, 10, 1, 5, 3, 2, 30, 20, 1, 9, 1] 16 rfl (by decide) (by decide))).mono fun d w' h => dec_wk (by rw [mk3] at h; exact h))
  have hb2 := (Below.refl w2.heap.size w2).alloc (Nat.le_refl _) (.cells (bsV [1, 1, 98, 0, 0, 2, 10, 1, 5, 3, 2, 30, 20, 1, 9, 1]).toArray 5)
  have HB2 := hid (HB.out.trans (hb2.mono HB.out.size))
  clear hb2
  go_wp2_with fail
  refine HD.out.mono ?_
  rintro d w3 ⟨y, C3, f3, rfl, hb3, hy, hm⟩
  replace HB := hid (HB2.out.trans (hb3.mono HB2.out.size))
  have K3 := hid (Blk.new w3 24 #[.slice C3 1 f3])
  have hb4 := (Below.refl w3.heap.size w3).alloc (Nat.le_refl _) (.cells #[.slice C3 1 f3] 24)
  have HM := hid (hm.below hb4)
  have HY := hid hy
  replace HB := hid (HB.out.trans (hb4.mono HB.out.size))
  obtain ⟨w4, hw4⟩ : ∃ w4, w4 = w3.alloc (.cells #[.slice C3 1 f3] 24) := ⟨_, rfl⟩
  rw [← hw4] at HB HM K3
  have HS := hid (src_at (g := w3.heap.size + 1) w4 [1, 1, 98, 0, 0, 2, 10, 1] 8 (by rw [hw4]; simp) rfl (by decide) (by decide))
  have HD2 := hid ((Decode_c HS.out).mono (R' := RetDecS _) fun d w' h => by rw [mk4] at h; exact h)
  have hb5 := (Below.refl w4.heap.size w4).alloc (Nat.le_refl _) (.cells (bsV [1, 1, 98, 0, 0, 2, 10, 1]).toArray 5)
  replace HB := hid (HB.out.trans (hb5.mono HB.out.size))
  replace HM := hid (HM.out.below hb5)
  replace K3 := hid (K3.out.under hb5)
  clear hb3 hy hm hb4 hb5 HD HS HB2
  rw [hw4] at HD2
  go_wp2_with fail
  refine HD2.out.mono ?_
  rintro d w5 ⟨rfl, hb5⟩
  rw [← hw4] at hb5
  have h56 : w4.heap.size + 1 ≤ w5.heap.size := by have := hb5.size; simpa using this
  replace HB := hid (HB.out.trans (hb5.mono HB.out.size))
  replace HM := hid (HM.out.below hb5)
  replace K3 := hid (K3.out.under hb5)
  have hb6 := (Below.refl w5.heap.size w5).alloc (Nat.le_refl _) (.cells #[.slice none 0 0] 24)
  replace HB := hid (HB.out.trans (hb6.mono HB.out.size))
  replace HM := hid (HM.out.below hb6)
  replace K3 := hid (K3.out.under hb6)
  clear hb5 hb6 HD2 hw4 h56
  go_wp2_with fail
  generalize w5.alloc (.cells #[.slice none 0 0] 24) = w6 at *
  refine (plain_22 _).mono ?_
  rintro d w7 ⟨a7, c7, x7, hx7, rfl, ho7, hr7, hb7⟩
  have HX7 := hid (And.intro hx7 (And.intro ho7 hr7))
  have HB7 := hid hb7
  have hs7 := hb7.size
  clear hx7 ho7 hr7 hb7
  go_wp2_with fail
  refine (plain_22 _).mono ?_
  rintro d w8 ⟨a8, c8, x8, hx8, rfl, ho8, hr8, hb8⟩
  have ho7 := own_below HX7.out.2.1 hb8
  have HR7 := hid (HX7.out.2.2.below hb8)
  have HR8 := hid hr8
  have hre := Reads.of_own ho8
  have HXX := hid (And.intro HX7.out.1 hx8)
  have hs8 := hb8.size
  replace HB7 := hid (HB7.out.trans (hb8.mono hs7))
  clear hx8 hr8 hb8 HX7
  go_wp2_with (at_builtin; refine wpList_append_any _ rfl (.tmp 24) (.tmp 26) 22 rfl w6.heap.size 42 i0 (.agg zRow) 7 96 Try.underlying22 HI.out.1 HI.out.2.1 HI.out.2.2.1 HI.out.2.2.2 rfl (by decide) _ 1 (cellsR x7) rfl ho7 (some a8) 1 c8 (cellsR x8) rfl hre (cellsR_one x8) (by simp only [maxLen]; omega) (by omega) (by omega) ?_; intro v' w9 hown' hgr' hv'; obtain ⟨C9, f9, hvf, _, _⟩ := own_form hown'; subst hvf; replace hgr' : w8.grownBy w9 (Value.slice (some a7) 1 c7).ownBlock := hgr'; clear hv')
  have hb9 : Below w6.heap.size w6 w9 := HB7.out.grown hgr' (by omega) (fun b hb => (ho7.lt b hb).1)
  have HM9 := hid (show ManIn w9 C9 (1 + 1) f9 [x7, x8] ∧ [x7, x8].map RoA.d = [wkRo, wkRo] from
    ⟨⟨⟨_, by simpa using Reads.of_own hown'⟩, fun z hz => by
      simp only [List.mem_cons, List.not_mem_nil, or_false] at hz
      rcases hz with rfl | rfl
      · exact (HR7.out.grown ho7 hgr').inn
      · exact (HR8.out.grown ho7 hgr').inn, by omega⟩, by
      rw [List.map_cons, List.map_singleton, HXX.out.1, HXX.out.2]⟩)
  replace HB := hid (HB.out.trans (hb9.mono HB.out.size))
  replace HM := hid (HM.out.below hb9)
  replace K3 := hid (K3.out.under hb9)
  clear hown' hgr' hb9 hs7 hs8 hre ho7 HR7 HR8 HXX HB7
  have hb10 := (Below.refl w9.heap.size w9).alloc (Nat.le_refl _) (.cells #[.slice C9 2 f9] 24)
  have K10 := hid (Blk.new w9 24 #[.slice C9 2 f9])
  replace HB := hid (HB.out.trans (hb10.mono HB.out.size))
  replace HM := hid (HM.out.below hb10)
  replace K3 := hid (K3.out.under hb10)
  replace HM9 := hid (And.intro (show ManIn _ C9 2 f9 [x7, x8] from HM9.out.1.below hb10) HM9.out.2)
  clear hb10
  generalize w9.alloc (.cells #[.slice C9 2 f9] 24) = w10 at *
  refine wp_region_noPanic ?_
  refine wp_region_held_drew (S := fun W => W.cell? ⟨w3.heap.size, 0, none⟩ = some (.slice C3 1 f3) ∧ W.cell? ⟨w9.heap.size, 0, none⟩ = some (.slice C9 2 f9)) (by kernel_rfl) ⟨K3.out.drew.cell 0, K10.out.drew.cell 0⟩ (fun hHeld => ?_)
  refine wpAnyH_take (i := 0) (v := ?_) rfl (by kernel_rfl) (by kernel_rfl) (by kernel_rfl) (fun _ _ _ h => h) (Or.inl ⟨by rfl, ?_⟩) (by assumption) ?_
  rotate_left
  · intro W hW
    obtain ⟨hm3, hm7⟩ := hW
    go_simp
    try rfl
  simp only [List.getElem_toArray, List.getElem_cons_zero, Act.put, List.setIfInBounds_toArray, List.set_cons_zero, List.set_cons_succ]
  refine wpAnyH_take (i := 1) (v := ?_) rfl (by kernel_rfl) (by kernel_rfl) (by kernel_rfl) (fun _ _ _ h => h) (Or.inl ⟨by rfl, ?_⟩) (by assumption) ?_
  rotate_left
  · intro W hW
    obtain ⟨hm3, hm7⟩ := hW
    go_simp
    try rfl
  simp only [List.getElem_toArray, List.getElem_cons_succ, List.getElem_cons_zero, Act.put, List.setIfInBounds_toArray, List.set_cons_zero, List.set_cons_succ]
  refine wpAnyH_take (i := 2) (v := ?_) rfl (by kernel_rfl) (by kernel_rfl) (by kernel_rfl) (fun _ _ _ h => h) (Or.inl ⟨by rfl, ?_⟩) (by assumption) ?_
  rotate_left
  · intro W hW
    obtain ⟨hm3, hm7⟩ := hW
    go_simp
    try rfl
  simp only [List.getElem_toArray, List.getElem_cons_succ, List.getElem_cons_zero, Act.put, List.setIfInBounds_toArray, List.set_cons_zero, List.set_cons_succ]
  refine wpAnyH_take (i := 3) (v := ?_) rfl (by kernel_rfl) (by kernel_rfl) (by kernel_rfl) (fun _ _ _ h => h) (Or.inl ⟨by rfl, ?_⟩) (by assumption) ?_
  rotate_left
  · intro W hW
    obtain ⟨hm3, hm7⟩ := hW
    go_simp
    try rfl
  simp only [List.getElem_toArray, List.getElem_cons_succ, List.getElem_cons_zero, Act.put, List.setIfInBounds_toArray, List.set_cons_zero, List.set_cons_succ]
  refine wpAnyH_take (i := 4) (v := ?_) rfl (by kernel_rfl) (by kernel_rfl) (by kernel_rfl) (fun _ _ _ h => h) (Or.inl ⟨by rfl, ?_⟩) (by assumption) ?_
  rotate_left
  · intro W hW
    obtain ⟨hm3, hm7⟩ := hW
    go_simp
    try rfl
  simp only [List.getElem_toArray, List.getElem_cons_succ, List.getElem_cons_zero, Act.put, List.setIfInBounds_toArray, List.set_cons_zero, List.set_cons_succ]
  refine wpAnyH_take (i := 5) (v := ?_) rfl (by kernel_rfl) (by kernel_rfl) (by kernel_rfl) (fun _ _ _ h => h) (Or.inl ⟨by rfl, ?_⟩) (by assumption) ?_
  rotate_left
  · intro W hW
    obtain ⟨hm3, hm7⟩ := hW
    go_simp
    try rfl
  simp only [List.getElem_toArray, List.getElem_cons_succ, List.getElem_cons_zero, Act.put, List.setIfInBounds_toArray, List.set_cons_zero, List.set_cons_succ]
  refine wpAnyH_take (i := 6) (v := ?_) rfl (by kernel_rfl) (by kernel_rfl) (by kernel_rfl) (fun _ _ _ h => h) (Or.inl ⟨by rfl, ?_⟩) (by assumption) ?_
  rotate_left
  · intro W hW
    obtain ⟨hm3, hm7⟩ := hW
    go_simp
    try rfl
  simp only [List.getElem_toArray, List.getElem_cons_succ, List.getElem_cons_zero, Act.put, List.setIfInBounds_toArray, List.set_cons_zero, List.set_cons_succ]
  refine wpAnyH_take (i := 7) (v := ?_) rfl (by kernel_rfl) (by kernel_rfl) (by kernel_rfl) (fun _ _ _ h => h) (Or.inl ⟨by rfl, ?_⟩) (by assumption) ?_
  rotate_left
  · intro W hW
    obtain ⟨hm3, hm7⟩ := hW
    go_simp
    try rfl
  simp only [List.getElem_toArray, List.getElem_cons_succ, List.getElem_cons_zero, Act.put, List.setIfInBounds_toArray, List.set_cons_zero, List.set_cons_succ]
  refine wpAnyH_take (i := 8) (v := ?_) rfl (by kernel_rfl) (by kernel_rfl) (by kernel_rfl) (fun _ _ _ h => h) (Or.inl ⟨by rfl, ?_⟩) (by assumption) ?_
  rotate_left
  · intro W hW
    obtain ⟨hm3, hm7⟩ := hW
    go_simp
    try rfl
  simp only [List.getElem_toArray, List.getElem_cons_succ, List.getElem_cons_zero, Act.put, List.setIfInBounds_toArray, List.set_cons_zero, List.set_cons_succ]
  refine wpAnyH_take (i := 9) (v := ?_) rfl (by kernel_rfl) (by kernel_rfl) (by kernel_rfl) (fun _ _ _ h => h) (Or.inl ⟨by rfl, ?_⟩) (by assumption) ?_
  rotate_left
  · intro W hW
    obtain ⟨hm3, hm7⟩ := hW
    go_simp
    try rfl
  simp only [List.getElem_toArray, List.getElem_cons_succ, List.getElem_cons_zero, Act.put, List.setIfInBounds_toArray, List.set_cons_zero, List.set_cons_succ]
  refine wpAnyH_take (i := 10) (v := ?_) rfl (by kernel_rfl) (by kernel_rfl) (by kernel_rfl) (fun _ _ _ h => h) (Or.inl ⟨by rfl, ?_⟩) (by assumption) ?_
  rotate_left
  · intro W hW
    obtain ⟨hm3, hm7⟩ := hW
    go_simp
    try rfl
  simp only [List.getElem_toArray, List.getElem_cons_succ, List.getElem_cons_zero, Act.put, List.setIfInBounds_toArray, List.set_cons_zero, List.set_cons_succ]
  refine wpAnyH_take (i := 11) (v := ?_) rfl (by kernel_rfl) (by kernel_rfl) (by kernel_rfl) (fun _ _ _ h => h) (Or.inl ⟨by rfl, ?_⟩) (by assumption) ?_
  rotate_left
  · intro W hW
    obtain ⟨hm3, hm7⟩ := hW
    go_simp
    try rfl
  simp only [List.getElem_toArray, List.getElem_cons_succ, List.getElem_cons_zero, Act.put, List.setIfInBounds_toArray, List.set_cons_zero, List.set_cons_succ]
  refine wpAnyH_take (i := 12) (v := ?_) rfl (by kernel_rfl) (by kernel_rfl) (by kernel_rfl) (fun _ _ _ h => h) (Or.inl ⟨by rfl, ?_⟩) (by assumption) ?_
  rotate_left
  · intro W hW
    obtain ⟨hm3, hm7⟩ := hW
    go_simp
    try rfl
  simp only [List.getElem_toArray, List.getElem_cons_succ, List.getElem_cons_zero, Act.put, List.setIfInBounds_toArray, List.set_cons_zero, List.set_cons_succ]
  refine wpAnyH_take (i := 13) (v := ?_) rfl (by kernel_rfl) (by kernel_rfl) (by kernel_rfl) (fun _ _ _ h => h) (Or.inl ⟨by rfl, ?_⟩) (by assumption) ?_
  rotate_left
  · intro W hW
    obtain ⟨hm3, hm7⟩ := hW
    go_simp
    try rfl
  simp only [List.getElem_toArray, List.getElem_cons_succ, List.getElem_cons_zero, Act.put, List.setIfInBounds_toArray, List.set_cons_zero, List.set_cons_succ]
  refine wpAnyH_take (i := 14) (v := ?_) rfl (by kernel_rfl) (by kernel_rfl) (by kernel_rfl) (fun _ _ _ h => h) (Or.inl ⟨by rfl, ?_⟩) (by assumption) ?_
  rotate_left
  · intro W hW
    obtain ⟨hm3, hm7⟩ := hW
    go_simp
    try rfl
  simp only [List.getElem_toArray, List.getElem_cons_succ, List.getElem_cons_zero, Act.put, List.setIfInBounds_toArray, List.set_cons_zero, List.set_cons_succ]
  refine wpAnyH_take (i := 15) (v := ?_) rfl (by kernel_rfl) (by kernel_rfl) (by kernel_rfl) (fun _ _ _ h => h) (Or.inl ⟨by rfl, ?_⟩) (by assumption) ?_
  rotate_left
  · intro W hW
    obtain ⟨hm3, hm7⟩ := hW
    go_simp
    try rfl
  simp only [List.getElem_toArray, List.getElem_cons_succ, List.getElem_cons_zero, Act.put, List.setIfInBounds_toArray, List.set_cons_zero, List.set_cons_succ]
  refine wpAnyH_take (i := 16) (v := ?_) rfl (by kernel_rfl) (by kernel_rfl) (by kernel_rfl) (fun _ _ _ h => h) (Or.inl ⟨by rfl, ?_⟩) (by assumption) ?_
  rotate_left
  · intro W hW
    obtain ⟨hm3, hm7⟩ := hW
    go_simp
    try rfl
  simp only [List.getElem_toArray, List.getElem_cons_succ, List.getElem_cons_zero, Act.put, List.setIfInBounds_toArray, List.set_cons_zero, List.set_cons_succ]
  refine wpAnyH_ready (rs := [17]) (by kernel_rfl) (by simp) ?_
  refine AllReadyH.cons rfl (fun K hK => ?_) AllReadyH.nil
  go_simp
  refine (plain_22 _).mono ?_
  rintro d w11 ⟨a11, c11, x11, hx11, rfl, ho11, hr11, hb11⟩
  refine hK.out _ _ ⟨(K3.out.drew.under hb11).cell 0, (K10.out.drew.under hb11).cell 0⟩ (fun hHeld => ?_)
  clear hK K
  try simp only [List.getElem_toArray, List.getElem_cons_succ, List.getElem_cons_zero, Act.put, List.setIfInBounds_toArray, List.set_cons_zero, List.set_cons_succ]
  have hd10 := (Below.refl w10.heap.size w10).drew.trans hb11
  replace HB := hid (HB.out.trans (hd10.mono HB.out.size))
  replace HM := hid (HM.out.below hd10)
  replace K3 := hid (K3.out.under hd10)
  replace K10 := hid (K10.out.under hd10)
  replace HM9 := hid (And.intro (HM9.out.1.below hd10) HM9.out.2)
  have HS1 := hid (sameMan_c C3 (some a11) 1 1 f3 c11 [y] [x11] w11 HM.out (man_of ho11 hr11.inn))
  rw [decide_eq_true (show [y].map RoA.d = [x11].map RoA.d by rw [List.map_singleton, List.map_singleton, HY.out, hx11])] at HS1
  clear hd10 hb11 hx11 ho11 hr11
  refine wpAnyH_ready (rs := [18]) (by kernel_rfl) (by simp) ?_
  refine AllReadyH.cons rfl (fun K hK => ?_) AllReadyH.nil
  go_simp
  refine HS1.out.mono ?_
  rintro d w12 ⟨rfl, hb12⟩
  refine hK.out _ _ ⟨(K3.out.under hb12).cell 0, (K10.out.under hb12).cell 0⟩ (fun hHeld => ?_)
  clear hK K
  try simp only [List.getElem_toArray, List.getElem_cons_succ, List.getElem_cons_zero, Act.put, List.setIfInBounds_toArray, List.set_cons_zero, List.set_cons_succ]
  replace HB := hid (HB.out.trans (hb12.mono HB.out.size))
  replace HM := hid (HM.out.below hb12)
  replace K3 := hid (K3.out.under hb12)
  replace K10 := hid (K10.out.under hb12)
  replace HM9 := hid (And.intro (HM9.out.1.below hb12) HM9.out.2)
  clear hb12 HS1
  have HC := hid (Check_c C9 2 f9 [x7, x8] w12 HM9.out.1)
  rw [HM9.out.2, mk5] at HC
  refine wpAnyH_take (i := 19) (v := ?_) rfl (by kernel_rfl) (by kernel_rfl) (by kernel_rfl) (fun _ _ _ h => h) (Or.inl ⟨by rfl, ?_⟩) (by assumption) ?_
  rotate_left
  · intro W hW
    obtain ⟨hm3, hm7⟩ := hW
    go_simp
    try rfl
  simp only [List.getElem_toArray, List.getElem_cons_succ, List.getElem_cons_zero, Act.put, List.setIfInBounds_toArray, List.set_cons_zero, List.set_cons_succ]
  refine wpAnyH_take (i := 20) (v := ?_) rfl (by kernel_rfl) (by kernel_rfl) (by kernel_rfl) (fun _ _ _ h => h) (Or.inl ⟨by rfl, ?_⟩) (by assumption) ?_
  rotate_left
  · intro W hW
    obtain ⟨hm3, hm7⟩ := hW
    go_simp
    try rfl
  simp only [List.getElem_toArray, List.getElem_cons_succ, List.getElem_cons_zero, Act.put, List.setIfInBounds_toArray, List.set_cons_zero, List.set_cons_succ]
  refine wpAnyH_take (i := 21) (v := ?_) rfl (by kernel_rfl) (by kernel_rfl) (by kernel_rfl) (fun _ _ _ h => h) (Or.inl ⟨by rfl, ?_⟩) (by assumption) ?_
  rotate_left
  · intro W hW
    obtain ⟨hm3, hm7⟩ := hW
    go_simp
    try rfl
  simp only [List.getElem_toArray, List.getElem_cons_succ, List.getElem_cons_zero, Act.put, List.setIfInBounds_toArray, List.set_cons_zero, List.set_cons_succ]
  refine wpAnyH_ready (rs := [22]) (by kernel_rfl) (by simp) ?_
  refine AllReadyH.cons rfl (fun K hK => ?_) AllReadyH.nil
  go_simp
  refine HC.out.mono ?_
  rintro d w13 ⟨rfl, hb13⟩
  refine hK.out _ _ ⟨(K3.out.under hb13).cell 0, (K10.out.under hb13).cell 0⟩ (fun hHeld => ?_)
  clear hK K
  try simp only [List.getElem_toArray, List.getElem_cons_succ, List.getElem_cons_zero, Act.put, List.setIfInBounds_toArray, List.set_cons_zero, List.set_cons_succ]
  replace HB := hid (HB.out.trans (hb13.mono HB.out.size))
  replace HM := hid (HM.out.below hb13)
  replace K3 := hid (K3.out.under hb13)
  replace K10 := hid (K10.out.under hb13)
  replace HM9 := hid (And.intro (HM9.out.1.below hb13) HM9.out.2)
  clear hb13 HC
  refine wpAnyH_take (i := 23) (v := ?_) rfl (by kernel_rfl) (by kernel_rfl) (by kernel_rfl) (fun _ _ _ h => h) (Or.inl ⟨by rfl, ?_⟩) (by assumption) ?_
  rotate_left
  · intro W hW
    obtain ⟨hm3, hm7⟩ := hW
    go_simp
    try rfl
  simp only [List.getElem_toArray, List.getElem_cons_succ, List.getElem_cons_zero, Act.put, List.setIfInBounds_toArray, List.set_cons_zero, List.set_cons_succ]
  refine wpAnyH_take (i := 24) (v := ?_) rfl (by kernel_rfl) (by kernel_rfl) (by kernel_rfl) (fun _ _ _ h => h) (Or.inl ⟨by rfl, ?_⟩) (by assumption) ?_
  rotate_left
  · intro W hW
    obtain ⟨hm3, hm7⟩ := hW
    go_simp
    try rfl
  simp only [List.getElem_toArray, List.getElem_cons_succ, List.getElem_cons_zero, Act.put, List.setIfInBounds_toArray, List.set_cons_zero, List.set_cons_succ]
  refine wpAnyH_take (i := 25) (v := ?_) rfl (by kernel_rfl) (by kernel_rfl) (by kernel_rfl) (fun _ _ _ h => h) (Or.inl ⟨by rfl, ?_⟩) (by assumption) ?_
  rotate_left
  · intro W hW
    obtain ⟨hm3, hm7⟩ := hW
    go_simp
    try rfl
  simp only [List.getElem_toArray, List.getElem_cons_succ, List.getElem_cons_zero, Act.put, List.setIfInBounds_toArray, List.set_cons_zero, List.set_cons_succ]
  refine wpAnyH_take (i := 26) (v := ?_) rfl (by kernel_rfl) (by kernel_rfl) (by kernel_rfl) (fun _ _ _ h => h) (Or.inl ⟨by rfl, ?_⟩) (by assumption) ?_
  rotate_left
  · intro W hW
    obtain ⟨hm3, hm7⟩ := hW
    go_simp
    try rfl
  simp only [List.getElem_toArray, List.getElem_cons_succ, List.getElem_cons_zero, Act.put, List.setIfInBounds_toArray, List.set_cons_zero, List.set_cons_succ]
  refine wpAnyH_ready (rs := [27]) (by kernel_rfl) (by simp) ?_
  refine AllReadyH.cons rfl (fun K hK => ?_) AllReadyH.nil
  go_simp
  refine (plain_22 _).mono ?_
  rintro d w14 ⟨a14, c14, x14, hx14, rfl, ho14, hr14, hb14⟩
  refine hK.out _ _ ⟨(K3.out.under hb14).cell 0, (K10.out.under hb14).cell 0⟩ (fun hHeld => ?_)
  clear hK K
  try simp only [List.getElem_toArray, List.getElem_cons_succ, List.getElem_cons_zero, Act.put, List.setIfInBounds_toArray, List.set_cons_zero, List.set_cons_succ]
  replace HB := hid (HB.out.trans (hb14.mono HB.out.size))
  replace HM := hid (HM.out.below hb14)
  replace K3 := hid (K3.out.under hb14)
  replace K10 := hid (K10.out.under hb14)
  replace HM9 := hid (And.intro (HM9.out.1.below hb14) HM9.out.2)
  have HS2 := hid (Same_c C3 (some a14) 1 1 f3 c14 [y] [x14] w14 HM.out (man_of ho14 hr14.inn))
  rw [decide_eq_true (show [y].map RoA.d = [x14].map RoA.d by rw [List.map_singleton, List.map_singleton, HY.out, hx14])] at HS2
  clear hb14 hx14 ho14 hr14
  refine wpAnyH_ready (rs := [28]) (by kernel_rfl) (by simp) ?_
  refine AllReadyH.cons rfl (fun K hK => ?_) AllReadyH.nil
  go_simp
  refine HS2.out.mono ?_
  rintro d w15 ⟨rfl, hb15⟩
  refine hK.out _ _ ⟨(K3.out.under hb15).cell 0, (K10.out.under hb15).cell 0⟩ (fun hHeld => ?_)
  clear hK K
  try simp only [List.getElem_toArray, List.getElem_cons_succ, List.getElem_cons_zero, Act.put, List.setIfInBounds_toArray, List.set_cons_zero, List.set_cons_succ]
  replace HB := hid (HB.out.trans (hb15.mono HB.out.size))
  replace HM := hid (HM.out.below hb15)
  replace K3 := hid (K3.out.under hb15)
  replace K10 := hid (K10.out.under hb15)
  replace HM9 := hid (And.intro (HM9.out.1.below hb15) HM9.out.2)
  have HS3 := hid (Same_c C3 C9 1 2 f3 f9 [y] [x7, x8] w15 HM.out HM9.out.1)
  rw [decide_eq_false (show ¬ [y].map RoA.d = [x7, x8].map RoA.d by rw [HM9.out.2, List.map_singleton, HY.out]; exact mk6)] at HS3
  clear hb15 HS2
  refine wpAnyH_take (i := 29) (v := ?_) rfl (by kernel_rfl) (by kernel_rfl) (by kernel_rfl) (fun _ _ _ h => h) (Or.inl ⟨by rfl, ?_⟩) (by assumption) ?_
  rotate_left
  · intro W hW
    obtain ⟨hm3, hm7⟩ := hW
    go_simp
    try rfl
  simp only [List.getElem_toArray, List.getElem_cons_succ, List.getElem_cons_zero, Act.put, List.setIfInBounds_toArray, List.set_cons_zero, List.set_cons_succ]
  refine wpAnyH_take (i := 30) (v := ?_) rfl (by kernel_rfl) (by kernel_rfl) (by kernel_rfl) (fun _ _ _ h => h) (Or.inl ⟨by rfl, ?_⟩) (by assumption) ?_
  rotate_left
  · intro W hW
    obtain ⟨hm3, hm7⟩ := hW
    go_simp
    try rfl
  simp only [List.getElem_toArray, List.getElem_cons_succ, List.getElem_cons_zero, Act.put, List.setIfInBounds_toArray, List.set_cons_zero, List.set_cons_succ]
  refine wpAnyH_take (i := 31) (v := ?_) rfl (by kernel_rfl) (by kernel_rfl) (by kernel_rfl) (fun _ _ _ h => h) (Or.inl ⟨by rfl, ?_⟩) (by assumption) ?_
  rotate_left
  · intro W hW
    obtain ⟨hm3, hm7⟩ := hW
    go_simp
    try rfl
  simp only [List.getElem_toArray, List.getElem_cons_succ, List.getElem_cons_zero, Act.put, List.setIfInBounds_toArray, List.set_cons_zero, List.set_cons_succ]
  refine wpAnyH_take (i := 32) (v := ?_) rfl (by kernel_rfl) (by kernel_rfl) (by kernel_rfl) (fun _ _ _ h => h) (Or.inl ⟨by rfl, ?_⟩) (by assumption) ?_
  rotate_left
  · intro W hW
    obtain ⟨hm3, hm7⟩ := hW
    go_simp
    try rfl
  simp only [List.getElem_toArray, List.getElem_cons_succ, List.getElem_cons_zero, Act.put, List.setIfInBounds_toArray, List.set_cons_zero, List.set_cons_succ]
  refine wpAnyH_ready (rs := [33]) (by kernel_rfl) (by simp) ?_
  refine AllReadyH.cons rfl (fun K hK => ?_) AllReadyH.nil
  go_simp
  refine HS3.out.mono ?_
  rintro d w16 ⟨rfl, hb16⟩
  refine hK.out _ _ ⟨(K3.out.under hb16).cell 0, (K10.out.under hb16).cell 0⟩ (fun hHeld => ?_)
  clear hK K
  try simp only [List.getElem_toArray, List.getElem_cons_succ, List.getElem_cons_zero, Act.put, List.setIfInBounds_toArray, List.set_cons_zero, List.set_cons_succ]
  have HF := hid (HB.out.trans (hb16.mono HB.out.size))
  clear hb16 HS3 HM HM9 K3 K10
  refine wpAnyH_take (i := 34) (v := ?_) rfl (by kernel_rfl) (by kernel_rfl) (by kernel_rfl) (fun _ _ _ h => h) (Or.inl ⟨by rfl, ?_⟩) (by assumption) ?_
  rotate_left
  · intro W hW
    go_simp
    try rfl
  simp only [List.getElem_toArray, List.getElem_cons_succ, List.getElem_cons_zero, Act.put, List.setIfInBounds_toArray, List.set_cons_zero, List.set_cons_succ]
  refine wpAnyH_take (i := 35) (v := ?_) rfl (by kernel_rfl) (by kernel_rfl) (by kernel_rfl) (fun _ _ _ h => h) (Or.inl ⟨by rfl, ?_⟩) (by assumption) ?_
  rotate_left
  · intro W hW
    go_simp
    try rfl
  simp only [List.getElem_toArray, List.getElem_cons_succ, List.getElem_cons_zero, Act.put, List.setIfInBounds_toArray, List.set_cons_zero, List.set_cons_succ]
  refine wpAnyH_take (i := 36) (v := ?_) rfl (by kernel_rfl) (by kernel_rfl) (by kernel_rfl) (fun _ _ _ h => h) (Or.inl ⟨by rfl, ?_⟩) (by assumption) ?_
  rotate_left
  · intro W hW
    go_simp
    try rfl
  simp only [List.getElem_toArray, List.getElem_cons_succ, List.getElem_cons_zero, Act.put, List.setIfInBounds_toArray, List.set_cons_zero, List.set_cons_succ]
  refine wpAnyH_done (by kernel_rfl) ?_ _
  refine NoPanic.normal ?_
  clear hHeld
  go_wp2_with fail
  go_ret
  exact ⟨rfl, HF.out⟩
end Go.Proofs.Ytgdnpmjmkcccoaa
