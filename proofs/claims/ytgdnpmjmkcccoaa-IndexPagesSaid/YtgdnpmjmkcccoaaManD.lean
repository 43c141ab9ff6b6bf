/- Manifest: Same (printed by gen_mand.py). -/
import Derived.Test.YtgdnpmjmkcccoaaManC
import Derived.Laws.Strings
namespace Go.Proofs.Ytgdnpmjmkcccoaa
open Go.RowKit Go.Shelf VB
open Go.Lib (hid)
set_option linter.unusedVariables false
set_option linter.unusedSimpArgs false
theorem strL_eq {a b : ByteArray} (h : a.toList = b.toList) : a = b := by
  rw [ByteArray.toList_eq, ByteArray.toList_eq] at h
  exact ByteArray.ext (Array.ext' h)
theorem strL_ne {a b : ByteArray} (h : ¬ a.toList = b.toList) : ¬ a = b := fun e => h (by rw [e])
theorem En.ext' {a b : En} (h1 : a.fs = b.fs) (h2 : a.ls = b.ls) (h3 : a.ct = b.ct) (h4 : a.by_ = b.by_) (h5 : a.ps = b.ps) : a = b := by
  cases a; cases b; simp only at h1 h2 h3 h4 h5; subst h1 h2 h3 h4 h5; rfl
instance : DecidableEq En := fun a b => decidable_of_iff (a.fs = b.fs ∧ a.ls = b.ls ∧ a.ct = b.ct ∧ a.by_ = b.by_ ∧ a.ps = b.ps) ⟨fun ⟨h1, h2, h3, h4, h5⟩ => En.ext' h1 h2 h3 h4 h5, fun h => by rw [h]; exact ⟨rfl, rfl, rfl, rfl, rfl⟩⟩
theorem Ro.ext' {a b : Ro} (h1 : a.nm = b.nm) (h2 : a.ep = b.ep) (h3 : a.fl = b.fl) (h4 : a.la = b.la) (h5 : a.sc = b.sc) (h6 : a.en = b.en) (h7 : a.op = b.op) : a = b := by
  cases a; cases b; simp only at h1 h2 h3 h4 h5 h6 h7; subst h1 h2 h3 h4 h5 h6 h7; rfl
instance : DecidableEq Ro := fun a b => decidable_of_iff (a.nm = b.nm ∧ a.ep = b.ep ∧ a.fl = b.fl ∧ a.la = b.la ∧ a.sc = b.sc ∧ a.en = b.en ∧ a.op = b.op) ⟨fun ⟨h1, h2, h3, h4, h5, h6, h7⟩ => Ro.ext' h1 h2 h3 h4 h5 h6 h7, fun h => by rw [h]; exact ⟨rfl, rfl, rfl, rfl, rfl, rfl, rfl⟩⟩
set_option maxHeartbeats 1000000 in
theorem equal_n {e1 e2 : TypeId} (A B : Option Addr) (n m c d : Nat) (xs ys : List Int) (w : World) (hx : Reads w e1 1 A n (xs.map (Value.int .i64))) (hy : Reads w e2 1 B m (ys.map (Value.int .i64))) (hn : n ≤ 100000000) :
    Calls Try.prog 26 #[.slice A n c, .slice B m d] w fun e w' => e = .returned (.bool (decide (xs = ys))) ∧ ∃ q, w' = w.drewN q := by
  have hxl := ints_len hx
  have hyl := ints_len hy
  by_cases hnm : n = m
  · subst hnm
    have t0 : ((n : Int) != n) = false := by simp
    have HX := Lib.hid hx
    have HY := Lib.hid hy
    have HXL := Lib.hid hxl
    have HYL := Lib.hid hyl
    clear hx hy hxl hyl
    go_enter Try.func26, Try.ntmps26
    go_wp2
    go_loopw [13] (fun v wr => ∃ k : Nat, k ≤ n ∧ v = .int .i64 (k : Nat) ∧ (∃ q, wr = w.drewN q) ∧ xs.take k = ys.take k) (fun v _ => n - (intOf v).toNat)
    case atStart => exact ⟨0, Nat.zero_le _, rfl, ⟨0, rfl⟩, by simp⟩
    case round =>
      obtain ⟨k, hk, rfl, ⟨q, rfl⟩, heq⟩ := hrel
      have HE := Lib.hid heq
      clear heq
      by_cases hlt : k < n
      · obtain ⟨ad, rfl, cx⟩ := ints_at HX.out hlt
        obtain ⟨bd, rfl, cy⟩ := ints_at HY.out hlt
        have hltI : (k : Int) < (n : Int) := by omega
        have h0I : (0 : Int) ≤ (k : Int) := by omega
        have hst := take_step HE.out (by rw [HXL.out]; exact hlt) (by rw [HYL.out]; exact hlt)
        have hne : xs.getD k 0 ≠ ys.getD k 0 → xs ≠ ys := fun h e => h (by rw [e])
        have HST := Lib.hid hst
        have HNE := Lib.hid hne
        clear hst hne
        generalize xs.getD k 0 = x at *
        generalize ys.getD k 0 = y at *
        by_cases hc : x = y
        · have t1 : (x != y) = false := by simp [hc]
          have HC := Lib.hid hc
          clear hc
          go_wp2
          go_quiet (fail)
          go_wp2
          go_roundw
          case rel => exact ⟨k + 1, by omega, by go_num, ⟨_, rfl⟩, HST.out HC.out⟩
          case measure => simp [intOf]; omega
        · have t1 : (x != y) = true := by simp [hc]
          have HC := Lib.hid (HNE.out hc)
          clear hc
          go_wp2
          go_quiet (fail)
          go_wp2
          go_ret
          exact ⟨ret_b (by rw [eq_comm, decide_eq_false_iff_not]; exact HC.out), _, by rw [World.drewN_drewN]⟩
      · obtain rfl : k = n := by omega
        clear hlt
        go_wp2
        go_ret
        refine ⟨ret_b ?_, _, rfl⟩
        have h := HE.out
        rw [List.take_of_length_le (by rw [HXL.out]; exact Nat.le_refl _), List.take_of_length_le (by rw [HYL.out]; exact Nat.le_refl _)] at h
        rw [eq_comm, decide_eq_true_iff]
        exact h
  · have t0 : ((n : Int) != m) = true := by simp; omega
    have HN := Lib.hid (show xs ≠ ys from fun e => hnm (by rw [← hxl, ← hyl, e]))
    clear hx hy hxl hyl hnm
    go_enter Try.func26, Try.ntmps26
    go_wp2
    go_ret
    exact ⟨ret_b (by rw [eq_comm, decide_eq_false_iff_not]; exact HN.out), 0, rfl⟩

theorem Blk.fivec {w : World} {g : Nat} {t : TypeId} {v0 v1 v2 v3 v4 : Value} (h : Blk w g t #[v0, v1, v2, v3, v4]) : w.cell? ⟨g, 0, none⟩ = some v0 ∧ w.cell? ⟨g, 1, none⟩ = some v1 ∧ w.cell? ⟨g, 2, none⟩ = some v2 ∧ w.cell? ⟨g, 3, none⟩ = some v3 ∧ w.cell? ⟨g, 4, none⟩ = some v4 :=
  ⟨h.cell 0, h.cell 1, h.cell 2, h.cell 3, h.cell 4⟩
abbrev aE (fs ls ct : Int) (P : Value) (by_ : Int) : Array Value := #[.int .i64 fs, .int .i64 ls, .int .i64 ct, P, .int .i64 by_]
abbrev vE (x : EnA) : Value := .agg (aE x.1.fs x.1.ls x.1.ct (.slice x.2.1 x.1.ps.length x.2.2) x.1.by_)
set_option maxHeartbeats 1000000 in
theorem same1_c (x y : EnA) (w : World) (hx : EnIn w x) (hy : EnIn w y) :
    Calls Try.prog 66 #[vE x, vE y] w fun e w' => e = .returned (.bool (decide (x.1 = y.1))) ∧ Below w.heap.size w w' := by
  obtain ⟨⟨f1, l1, c1, b1, p1⟩, A, c⟩ := x
  obtain ⟨⟨f2, l2, c2, b2, p2⟩, B, d⟩ := y
  obtain ⟨⟨e1, hx1⟩, hx2⟩ := hx
  obtain ⟨⟨e2, hy1⟩, hy2⟩ := hy
  simp only at hx1 hx2 hy1 hy2
  have HQ : Hid (∀ o1 o2, Calls Try.prog 26 #[.slice A p1.length c, .slice B p2.length d] ((w.alloc o1).alloc o2) fun e w' => e = .returned (.bool (decide (p1 = p2))) ∧ ∃ q, w' = ((w.alloc o1).alloc o2).drewN q) := Lib.hid fun o1 o2 => equal_n A B p1.length p2.length c d p1 p2 _ ((hx1.alloc o1).alloc o2) ((hy1.alloc o1).alloc o2) (by omega)
  obtain ⟨a0, a1, a2, a3, a4⟩ := ((Blk.new w 45 (aE f1 l1 c1 (.slice A p1.length c) b1)).alloc (.cells (aE f2 l2 c2 (.slice B p2.length d) b2) 45)).fivec
  obtain ⟨b0, b1', b2', b3, b4⟩ := (Blk.new_at (g := w.heap.size + 1) (w.alloc (.cells (aE f1 l1 c1 (.slice A p1.length c) b1) 45)) 45 (aE f2 l2 c2 (.slice B p2.length d) b2) (by simp)).fivec
  have HB : Hid (∀ o1 o2, Below w.heap.size w ((w.alloc o1).alloc o2)) := Lib.hid fun o1 o2 => below2' w o1 o2 (Below.refl _ _)
  clear hx1 hx2 hy1 hy2
  go_enter Try.func66, Try.ntmps66
  go_wp2_with fail
  case isTrue =>
    have h1 : f1 = f2 := by assumption
    have h2 : l1 = l2 := by assumption
    have h3 : c1 = c2 := by assumption
    have h4 : b1 = b2 := by assumption
    subst h1 h2 h3 h4
    refine (HQ.out _ _).mono ?_
    rintro e w3 ⟨rfl, q, rfl⟩
    go_wp2
    go_ret
    exact ⟨ret_b (decide_eq_decide.2 ⟨fun h => by rw [h], fun h => by injection h⟩), below_dn (HB.out _ _) q⟩
  all_goals
    go_ret
    refine ⟨ret_b ?_, HB.out _ _⟩
    rw [eq_comm, decide_eq_false_iff_not]
    intro h
    injection h
    contradiction

theorem take_stepEn {xs ys : List En} {k : Nat} (h : xs.take k = ys.take k) {x y : En} (hx : xs[k]? = some x) (hy : ys[k]? = some y) (he : x = y) : xs.take (k + 1) = ys.take (k + 1) := by
  rw [List.take_succ_eq_append_getElem (List.getElem?_eq_some_iff.1 hx).1, List.take_succ_eq_append_getElem (List.getElem?_eq_some_iff.1 hy).1, h, (List.getElem?_eq_some_iff.1 hx).2, (List.getElem?_eq_some_iff.1 hy).2, he]
set_option maxRecDepth 100000 in
set_option maxHeartbeats 2000000 in
theorem eqf_e {e1 e2 : TypeId} (A B : Option Addr) (n m c d : Nat) (xs ys : List EnA) (w : World) (hx : Reads w e1 5 A n (xs.flatMap cellsN)) (hy : Reads w e2 5 B m (ys.flatMap cellsN)) (hix : ∀ x ∈ xs, EnIn w x) (hiy : ∀ x ∈ ys, EnIn w x) (hn : n ≤ 100000000) :
    Calls Try.prog 65 #[.slice A n c, .slice B m d, .func (.func 66) #[] #[]] w fun e w' => e = .returned (.bool (decide (xs.map Prod.fst = ys.map Prod.fst))) ∧ Below w.heap.size w w' := by
  have hxl : xs.length = n := by have := hx.1; rw [recs_len cellsN_len] at this; omega
  have hyl : ys.length = m := by have := hy.1; rw [recs_len cellsN_len] at this; omega
  have hcf : ∀ (args : Array Value) (w : World), Sem.run Try.prog (callFunc 66 args) w = .ok (.enter 66 args) w := fun _ _ => rfl
  by_cases hnm : n = m
  · subst hnm
    have t0 : ((n : Int) != n) = false := by simp
    have HX := hid hx
    have HY := hid hy
    have HIX := hid hix
    have HIY := hid hiy
    have HXL := hid hxl
    have HYL := hid hyl
    clear hx hy hix hiy hxl hyl
    go_enter Try.func65, Try.ntmps65
    go_wp2
    go_loopw [17] (fun v wr => ∃ k : Nat, k ≤ n ∧ v = .int .i64 (k : Nat) ∧ Below w.heap.size w wr ∧ Hid ((xs.map Prod.fst).take k = (ys.map Prod.fst).take k)) (fun v _ => n - (intOf v).toNat)
    case atStart => exact ⟨0, Nat.zero_le _, rfl, Below.refl _ _, hid (by simp)⟩
    case round =>
      obtain ⟨k, hk, rfl, hb, heq⟩ := hrel
      by_cases hlt : k < n
      · obtain ⟨ad, x, rfl, hx, hxl, c0, c1, c2, c3, c4⟩ := en_at (HX.out.below hb) hlt
        have hix := (HIX.out x (List.mem_of_getElem? hx)).below hb
        obtain ⟨o1, ho1⟩ : ∃ o1, o1 = Obj.cells (aE x.1.fs x.1.ls x.1.ct (.slice x.2.1 x.1.ps.length x.2.2) x.1.by_) 45 := ⟨_, rfl⟩
        obtain ⟨bd, y, rfl, hy, hyl, d0, d1, d2, d3, d4⟩ := en_at ((HY.out.below hb).alloc o1) hlt
        obtain ⟨o2, ho2⟩ : ∃ o2, o2 = Obj.cells (aE y.1.fs y.1.ls y.1.ct (.slice y.2.1 y.1.ps.length y.2.2) y.1.by_) 45 := ⟨_, rfl⟩
        have hiy := (HIY.out y (List.mem_of_getElem? hy)).below hb
        have hb2 : Below wr.heap.size wr ((wr.alloc o1).alloc o2) := ((Below.refl _ _).alloc (Nat.le_refl _) _).alloc (by simp) _
        have HC := hid (same1_c x y ((wr.alloc o1).alloc o2) (hix.below hb2) (hiy.below hb2))
        have HB := hid (hb.trans (hb2.mono hb.size))
        have hxe : (xs.map Prod.fst)[k]? = some (Prod.fst x) := by rw [List.getElem?_map, hx]; rfl
        have hye : (ys.map Prod.fst)[k]? = some (Prod.fst y) := by rw [List.getElem?_map, hy]; rfl
        have HST := hid (fun h : Prod.fst x = Prod.fst y => take_stepEn heq.out hxe hye h)
        have HNE := hid (fun h : ¬ Prod.fst x = Prod.fst y => (show ¬ (xs.map Prod.fst = ys.map Prod.fst) from fun e => h (by rw [e, hye] at hxe; exact (Option.some.inj hxe).symm)))
        have hltI : (k : Int) < (n : Int) := by omega
        have h0I : (0 : Int) ≤ (k : Int) := by omega
        clear hx hy hxl hyl hix hiy hb2 hxe hye heq hb
        subst ho1
        subst ho2
        go_wp2_with fail
        refine HC.out.mono ?_
        rintro e w3 ⟨rfl, hb3⟩
        have HB3 := hid (HB.out.trans (hb3.mono HB.out.size))
        clear hb3 c0 d0 c1 d1 c2 d2 c3 d3 c4 d4
        by_cases hc : Prod.fst x = Prod.fst y
        · rw [decide_eq_true hc]
          have HC2 := hid (HST.out hc)
          clear hc
          go_wp2_with fail
          go_roundw
          case rel => exact ⟨k + 1, by omega, by go_num, HB3.out, HC2⟩
          case measure => simp [intOf]; omega
        · rw [decide_eq_false hc]
          have HC2 := hid (HNE.out hc)
          clear hc
          go_wp2_with fail
          go_ret
          exact ⟨ret_b (by rw [eq_comm, decide_eq_false_iff_not]; exact HC2.out), HB3.out⟩
      · obtain rfl : k = n := by omega
        clear hlt
        have HF := hid (show xs.map Prod.fst = ys.map Prod.fst ∧ Below w.heap.size w wr from ⟨by
          have h := heq.out
          rw [List.take_of_length_le (by rw [List.length_map, HXL.out]; exact Nat.le_refl _), List.take_of_length_le (by rw [List.length_map, HYL.out]; exact Nat.le_refl _)] at h
          exact h, hb⟩)
        clear heq hb
        go_wp2
        go_ret
        exact ⟨ret_b (by rw [eq_comm, decide_eq_true_iff]; exact HF.out.1), HF.out.2⟩
  · have t0 : ((n : Int) != m) = true := by simp; omega
    have HN := hid (show ¬ (xs.map Prod.fst = ys.map Prod.fst) from fun e => hnm (by rw [← hxl, ← hyl]; have := congrArg List.length e; simpa using this))
    clear hx hy hxl hyl hnm hix hiy
    go_enter Try.func65, Try.ntmps65
    go_wp2
    go_ret
    exact ⟨ret_b (by rw [eq_comm, decide_eq_false_iff_not]; exact HN.out), Below.refl _ _⟩

set_option maxHeartbeats 400000 in
theorem ixSame_c {e1 e2 : TypeId} (A B : Option Addr) (n m c d : Nat) (xs ys : List EnA) (w : World) (hx : Reads w e1 5 A n (xs.flatMap cellsN)) (hy : Reads w e2 5 B m (ys.flatMap cellsN)) (hix : EnsIn w xs) (hiy : EnsIn w ys) (hn : n ≤ 100000000) :
    Calls Try.prog 29 #[.slice A n c, .slice B m d] w fun e w' => e = .returned (.bool (decide (xs.map Prod.fst = ys.map Prod.fst))) ∧ Below w.heap.size w w' := by
  have HC := hid (eqf_e A B n m c d xs ys w hx hy hix hiy hn)
  clear hx hy hix hiy
  go_enter Try.func29, Try.ntmps29
  go_wp2_with fail
  refine HC.out.mono ?_
  rintro e w1 ⟨rfl, hb⟩
  go_wp2_with fail
  go_ret
  exact ⟨rfl, hb⟩
set_option maxRecDepth 100000 in
set_option maxHeartbeats 2000000 in
theorem same_c (x y : RoA) (w : World) (hx : RoIn w x) (hy : RoIn w y) :
    Calls Try.prog 44 #[vR x, vR y] w fun e w' => e = .returned (.bool (decide (x.d = y.d))) ∧ Below w.heap.size w w' := by
  obtain ⟨n1, p1, f1, l1, s1, en1, ea1, ec1, op1, oa1, oc1⟩ := x
  obtain ⟨n2, p2, f2, l2, s2, en2, ea2, ec2, op2, oa2, oc2⟩ := y
  obtain ⟨⟨e1, hen1⟩, hin1, ⟨g1, hop1⟩, b1, _, b3, _⟩ := hx
  obtain ⟨⟨e2, hen2⟩, hin2, ⟨g2, hop2⟩, d1, _, d3, _⟩ := hy
  simp only at hen1 hin1 hop1 hen2 hin2 hop2 b1 b3
  have HIX : Hid (∀ w', Below w.heap.size w w' → Calls Try.prog 29 #[.slice ea1 en1.length ec1, .slice ea2 en2.length ec2] w' fun e w'' => e = .returned (.bool (decide (en1.map Prod.fst = en2.map Prod.fst))) ∧ Below w'.heap.size w' w'') := hid fun w' hb => ixSame_c ea1 ea2 en1.length en2.length ec1 ec2 en1 en2 w' (hen1.below hb) (hen2.below hb) (hin1.below hb) (hin2.below hb) (by omega)
  have HOP : Hid (∀ w', Below w.heap.size w w' → Calls Try.prog 80 #[.slice oa1 op1.length oc1, .slice oa2 op2.length oc2] w' fun e w'' => e = .returned (.bool (decide (op1 = op2))) ∧ ∃ q, w'' = w'.drewN q) := hid fun w' hb => equal_p oa1 oa2 op1.length op2.length oc1 oc2 op1 op2 w' (hop1.below hb) (hop2.below hb) (by omega)
  have KA := hid ((Blk.new w 42 (aR n1 p1 f1 l1 s1 (.slice ea1 en1.length ec1) (.slice oa1 op1.length oc1))).alloc (.cells (aR n2 p2 f2 l2 s2 (.slice ea2 en2.length ec2) (.slice oa2 op2.length oc2)) 42))
  have KB := hid (Blk.new_at (g := w.heap.size + 1) (w.alloc (.cells (aR n1 p1 f1 l1 s1 (.slice ea1 en1.length ec1) (.slice oa1 op1.length oc1)) 42)) 42 (aR n2 p2 f2 l2 s2 (.slice ea2 en2.length ec2) (.slice oa2 op2.length oc2)) (by simp))
  obtain ⟨a0, a1, a2, a3, a4, a5, a6⟩ := KA.out.seven
  obtain ⟨b0, b1', b2, b3', b4, b5, b6⟩ := KB.out.seven
  have HB : Hid (∀ o1 o2, Below w.heap.size w ((w.alloc o1).alloc o2)) := Lib.hid fun o1 o2 => below2' w o1 o2 (Below.refl _ _)
  clear hen1 hin1 hop1 hen2 hin2 hop2
  show Calls _ _ #[.agg (aR n1 p1 f1 l1 s1 (.slice ea1 en1.length ec1) (.slice oa1 op1.length oc1)), .agg (aR n2 p2 f2 l2 s2 (.slice ea2 en2.length ec2) (.slice oa2 op2.length oc2))] _ _
  go_enter Try.func44, Try.ntmps44
  go_wp2_with fail
  case isTrue =>
    have h1 := strL_eq (show n1.toList = n2.toList by assumption)
    have h2 : p1 = p2 := by assumption
    have h3 : f1 = f2 := by assumption
    have h4 : l1 = l2 := by assumption
    have h5 : s1 = s2 := by assumption
    subst h1 h2 h3 h4 h5
    refine (HIX.out _ (HB.out _ _)).mono ?_
    rintro e w3 ⟨rfl, hb3⟩
    replace KA := hid (KA.out.under hb3)
    replace KB := hid (KB.out.under hb3)
    have HB3 := hid ((HB.out _ _).trans (hb3.mono (HB.out _ _).size))
    clear a0 a1 a2 a3 a4 a5 a6 b0 b1' b2 b3' b4 b5 b6 hb3
    obtain ⟨a0, a1, a2, a3, a4, a5, a6⟩ := KA.out.seven
    obtain ⟨b0, b1', b2, b3', b4, b5, b6⟩ := KB.out.seven
    by_cases hc : en1.map Prod.fst = en2.map Prod.fst
    · rw [decide_eq_true hc]
      have HC := hid hc
      clear hc
      go_wp2_with fail
      refine (HOP.out _ HB3.out).mono ?_
      rintro e w4 ⟨rfl, q, rfl⟩
      go_wp2
      go_ret
      refine ⟨ret_b (decide_eq_decide.2 ⟨fun h => ?_, fun h => ?_⟩), below_dn HB3.out q⟩
      · unfold RoA.d; simp only [h, HC.out]
      · unfold RoA.d at h; injection h
    · rw [decide_eq_false hc]
      have HC := hid hc
      clear hc
      go_wp2_with fail
      go_ret
      refine ⟨ret_b ?_, HB3.out⟩
      rw [eq_comm, decide_eq_false_iff_not]
      intro h
      unfold RoA.d at h
      injection h with _ _ _ _ _ h
      exact HC.out h
  all_goals
    go_ret
    refine ⟨ret_b ?_, HB.out _ _⟩
    rw [eq_comm, decide_eq_false_iff_not]
    intro h
    unfold RoA.d at h
    injection h with j1 j2 j3 j4 j5
    first | contradiction | exact absurd j1 (strL_ne (by assumption))

theorem take_stepRo {xs ys : List Ro} {k : Nat} (h : xs.take k = ys.take k) {x y : Ro} (hx : xs[k]? = some x) (hy : ys[k]? = some y) (he : x = y) : xs.take (k + 1) = ys.take (k + 1) := by
  rw [List.take_succ_eq_append_getElem (List.getElem?_eq_some_iff.1 hx).1, List.take_succ_eq_append_getElem (List.getElem?_eq_some_iff.1 hy).1, h, (List.getElem?_eq_some_iff.1 hx).2, (List.getElem?_eq_some_iff.1 hy).2, he]
set_option maxRecDepth 100000 in
set_option maxHeartbeats 2000000 in
theorem eqf_r {e1 e2 : TypeId} (A B : Option Addr) (n m c d : Nat) (xs ys : List RoA) (w : World) (hx : Reads w e1 7 A n (xs.flatMap cellsR)) (hy : Reads w e2 7 B m (ys.flatMap cellsR)) (hix : ∀ x ∈ xs, RoIn w x) (hiy : ∀ x ∈ ys, RoIn w x) (hn : n ≤ 100000000) :
    Calls Try.prog 43 #[.slice A n c, .slice B m d, .func (.func 44) #[] #[]] w fun e w' => e = .returned (.bool (decide (xs.map RoA.d = ys.map RoA.d))) ∧ Below w.heap.size w w' := by
  have hxl : xs.length = n := by have := hx.1; rw [recs_len cellsR_len] at this; omega
  have hyl : ys.length = m := by have := hy.1; rw [recs_len cellsR_len] at this; omega
  have hcf : ∀ (args : Array Value) (w : World), Sem.run Try.prog (callFunc 44 args) w = .ok (.enter 44 args) w := fun _ _ => rfl
  by_cases hnm : n = m
  · subst hnm
    have t0 : ((n : Int) != n) = false := by simp
    have HX := hid hx
    have HY := hid hy
    have HIX := hid hix
    have HIY := hid hiy
    have HXL := hid hxl
    have HYL := hid hyl
    clear hx hy hix hiy hxl hyl
    go_enter Try.func43, Try.ntmps43
    go_wp2
    go_loopw [17] (fun v wr => ∃ k : Nat, k ≤ n ∧ v = .int .i64 (k : Nat) ∧ Below w.heap.size w wr ∧ Hid ((xs.map RoA.d).take k = (ys.map RoA.d).take k)) (fun v _ => n - (intOf v).toNat)
    case atStart => exact ⟨0, Nat.zero_le _, rfl, Below.refl _ _, hid (by simp)⟩
    case round =>
      obtain ⟨k, hk, rfl, hb, heq⟩ := hrel
      by_cases hlt : k < n
      · obtain ⟨ad, x, rfl, hx, hxl, c0, c1, c2, c3, c4, c5, c6⟩ := row_at (HX.out.below hb) hlt
        have hix := (HIX.out x (List.mem_of_getElem? hx)).below hb
        obtain ⟨o1, ho1⟩ : ∃ o1, o1 = Obj.cells (aR x.nm x.ep x.fl x.la x.sc (.slice x.ea x.en.length x.ec) (.slice x.oa x.op.length x.oc)) 42 := ⟨_, rfl⟩
        obtain ⟨bd, y, rfl, hy, hyl, d0, d1, d2, d3, d4, d5, d6⟩ := row_at ((HY.out.below hb).alloc o1) hlt
        obtain ⟨o2, ho2⟩ : ∃ o2, o2 = Obj.cells (aR y.nm y.ep y.fl y.la y.sc (.slice y.ea y.en.length y.ec) (.slice y.oa y.op.length y.oc)) 42 := ⟨_, rfl⟩
        have hiy := (HIY.out y (List.mem_of_getElem? hy)).below hb
        have hb2 : Below wr.heap.size wr ((wr.alloc o1).alloc o2) := ((Below.refl _ _).alloc (Nat.le_refl _) _).alloc (by simp) _
        have HC := hid (same_c x y ((wr.alloc o1).alloc o2) (hix.below hb2) (hiy.below hb2))
        have HB := hid (hb.trans (hb2.mono hb.size))
        have hxe : (xs.map RoA.d)[k]? = some (RoA.d x) := by rw [List.getElem?_map, hx]; rfl
        have hye : (ys.map RoA.d)[k]? = some (RoA.d y) := by rw [List.getElem?_map, hy]; rfl
        have HST := hid (fun h : RoA.d x = RoA.d y => take_stepRo heq.out hxe hye h)
        have HNE := hid (fun h : ¬ RoA.d x = RoA.d y => (show ¬ (xs.map RoA.d = ys.map RoA.d) from fun e => h (by rw [e, hye] at hxe; exact (Option.some.inj hxe).symm)))
        have hltI : (k : Int) < (n : Int) := by omega
        have h0I : (0 : Int) ≤ (k : Int) := by omega
        clear hx hy hxl hyl hix hiy hb2 hxe hye heq hb
        subst ho1
        subst ho2
        go_wp2_with fail
        refine HC.out.mono ?_
        rintro e w3 ⟨rfl, hb3⟩
        have HB3 := hid (HB.out.trans (hb3.mono HB.out.size))
        clear hb3 c0 d0 c1 d1 c2 d2 c3 d3 c4 d4 c5 d5 c6 d6
        by_cases hc : RoA.d x = RoA.d y
        · rw [decide_eq_true hc]
          have HC2 := hid (HST.out hc)
          clear hc
          go_wp2_with fail
          go_roundw
          case rel => exact ⟨k + 1, by omega, by go_num, HB3.out, HC2⟩
          case measure => simp [intOf]; omega
        · rw [decide_eq_false hc]
          have HC2 := hid (HNE.out hc)
          clear hc
          go_wp2_with fail
          go_ret
          exact ⟨ret_b (by rw [eq_comm, decide_eq_false_iff_not]; exact HC2.out), HB3.out⟩
      · obtain rfl : k = n := by omega
        clear hlt
        have HF := hid (show xs.map RoA.d = ys.map RoA.d ∧ Below w.heap.size w wr from ⟨by
          have h := heq.out
          rw [List.take_of_length_le (by rw [List.length_map, HXL.out]; exact Nat.le_refl _), List.take_of_length_le (by rw [List.length_map, HYL.out]; exact Nat.le_refl _)] at h
          exact h, hb⟩)
        clear heq hb
        go_wp2
        go_ret
        exact ⟨ret_b (by rw [eq_comm, decide_eq_true_iff]; exact HF.out.1), HF.out.2⟩
  · have t0 : ((n : Int) != m) = true := by simp; omega
    have HN := hid (show ¬ (xs.map RoA.d = ys.map RoA.d) from fun e => hnm (by rw [← hxl, ← hyl]; have := congrArg List.length e; simpa using this))
    clear hx hy hxl hyl hnm hix hiy
    go_enter Try.func43, Try.ntmps43
    go_wp2
    go_ret
    exact ⟨ret_b (by rw [eq_comm, decide_eq_false_iff_not]; exact HN.out), Below.refl _ _⟩

set_option maxHeartbeats 400000 in
theorem Same_c (A B : Option Addr) (n m c d : Nat) (xs ys : List RoA) (w : World) (hx : ManIn w A n c xs) (hy : ManIn w B m d ys) :
    Calls Try.prog 14 #[.agg #[.slice A n c], .agg #[.slice B m d]] w fun e w' => e = .returned (.bool (decide (xs.map RoA.d = ys.map RoA.d))) ∧ Below w.heap.size w w' := by
  have HB : Hid (∀ o1 o2, Below w.heap.size w ((w.alloc o1).alloc o2)) := Lib.hid fun o1 o2 => below2' w o1 o2 (Below.refl _ _)
  have HC := hid (fun w' (hb : Below w.heap.size w w') => (show Calls Try.prog 43 #[.slice A n c, .slice B m d, .func (.func 44) #[] #[]] w' (fun e w'' => e = .returned (.bool (decide (xs.map RoA.d = ys.map RoA.d))) ∧ Below w'.heap.size w' w'') by
    obtain ⟨e1, h1⟩ := (hx.below hb).rows
    obtain ⟨e2, h2⟩ := (hy.below hb).rows
    exact eqf_r A B n m c d xs ys w' h1 h2 (hx.below hb).each (hy.below hb).each (by have := hx.hn; omega)))
  clear hx hy
  go_enter Try.func14, Try.ntmps14
  go_wp2_with fail
  refine (HC.out _ (HB.out _ _)).mono ?_
  rintro e w1 ⟨rfl, hb⟩
  have HF := hid ((HB.out _ _).trans (hb.mono (HB.out _ _).size))
  clear hb
  go_wp2_with fail
  go_ret
  exact ⟨rfl, HF.out⟩
end Go.Proofs.Ytgdnpmjmkcccoaa
