/- Manifest: Check. -/
import Derived.Test.YtgdnpmjmkcccoaaManB
import Derived.Test.YtgdnpmjmkcccoaaRng
import Derived.Laws.Strings
import Derived.RangeFuncBox
import Derived.RangeFuncNested
import Derived.Maps.OwnIn
namespace Go.Proofs.Ytgdnpmjmkcccoaa
open Go.RowKit Go.Shelf VB
open Go.Lib (hid)
set_option linter.unusedVariables false
set_option linter.unusedSimpArgs false
attribute [local go_sem] Oper.semAt_some
def nmLt (a b : ByteArray) : Bool := Op.bytesLess a.toList b.toList
def behN (pr : Option ByteArray) (nm : ByteArray) : Bool :=
  match pr with
  | none => true
  | some p => nmLt p nm
/-- may rows be, behind a name? -/
def risesB : Option ByteArray → List Ro → Bool
  | _, [] => true
  | pr, x :: l => rowOk x && (behN pr x.nm && risesB (some x.nm) l)
/-- is no page met twice? -/
def freshB : List Int → List Int → Bool
  | [], _ => true
  | p :: ps, L => decide (p ∉ L) && freshB ps (p :: L)
theorem freshB_append (a b L : List Int) : freshB (a ++ b) L = (freshB a L && freshB b (a.reverse ++ L)) := by
  induction a generalizing L with
  | nil => rfl
  | cons x a ih => rw [List.cons_append, freshB, freshB, ih, List.reverse_cons, List.append_assoc, Bool.and_assoc]; rfl
abbrev pgsR (l : List Ro) : List Int := l.flatMap fun x => x.en.flatMap En.ps
def manOk (l : List Ro) : Bool := decide (l.length ≤ 8) && (risesB none l && freshB (pgsR l) [])
/-- what Check answers -/
def manE (l : List Ro) : Int := if manOk l = true then 0 else 320
structure ManIn (w : World) (A : Option Addr) (n c : Nat) (l : List RoA) : Prop where
  rows : ∃ e, Reads w e 7 A n (l.flatMap cellsR)
  each : ∀ x ∈ l, RoIn w x
  hn : n ≤ 16
theorem ManIn.below {w w' : World} {A : Option Addr} {n c : Nat} {l : List RoA} (h : ManIn w A n c l) (hb : Below w.heap.size w w') : ManIn w' A n c l :=
  ⟨h.rows.elim fun e k => ⟨e, k.below hb⟩, fun x hx => (h.each x hx).below hb, h.hn⟩
theorem ManIn.len {w : World} {A : Option Addr} {n c : Nat} {l : List RoA} (h : ManIn w A n c l) : l.length = n := by
  obtain ⟨e, h⟩ := h.rows
  have := h.1; rw [recs_len cellsR_len] at this; omega
theorem row_at {w : World} {e : TypeId} {A : Option Addr} {n : Nat} {l : List RoA} (h : Reads w e 7 A n (l.flatMap cellsR)) {i : Nat} (hi : i < n) :
    ∃ ad x, A = some ad ∧ l[i]? = some x ∧ i < l.length ∧ w.cell? (ad.add (i * 7)) = some (.string x.nm) ∧ w.cell? ⟨(ad.add (i * 7)).block, (ad.add (i * 7)).off + 1, none⟩ = some (.int .i64 x.ep) ∧ w.cell? ⟨(ad.add (i * 7)).block, (ad.add (i * 7)).off + 2, none⟩ = some (.int .i64 x.fl) ∧
      w.cell? ⟨(ad.add (i * 7)).block, (ad.add (i * 7)).off + 3, none⟩ = some (.int .i64 x.la) ∧ w.cell? ⟨(ad.add (i * 7)).block, (ad.add (i * 7)).off + 4, none⟩ = some (.int .i64 x.sc) ∧ w.cell? ⟨(ad.add (i * 7)).block, (ad.add (i * 7)).off + 5, none⟩ = some (.slice x.ea x.en.length x.ec) ∧
      w.cell? ⟨(ad.add (i * 7)).block, (ad.add (i * 7)).off + 6, none⟩ = some (.slice x.oa x.op.length x.oc) := by
  obtain ⟨ad, x, h1, h2, h3, h4⟩ := rec_at cellsR_len h (by omega) hi
  exact ⟨ad, x, h1, h2, h3, h4 0 _ rfl, h4 1 _ rfl, h4 2 _ rfl, h4 3 _ rfl, h4 4 _ rfl, h4 5 _ rfl, h4 6 _ rfl⟩
theorem pgs_total {w : World} {A : Option Addr} {n c : Nat} {l : List RoA} (h : ManIn w A n c l) : (pgsR (l.map RoA.d)).length ≤ 1200000 := by
  have hl := h.len
  have hn := h.hn
  have : ∀ l : List RoA, (∀ x ∈ l, RoIn w x) → (pgsR (l.map RoA.d)).length ≤ l.length * 70000 := by
    intro l
    induction l with
    | nil => intro _; simp
    | cons x l ih =>
      intro h
      have h1 := (h x List.mem_cons_self).hpgs
      have h2 := ih (fun y hy => h y (List.mem_cons_of_mem _ hy))
      unfold pgsR at h2 ⊢
      rw [List.map_cons, List.flatMap_cons, List.length_append, List.length_cons]
      have h3 : (x.d.en.flatMap En.ps) = pgsA x.en := by
        unfold RoA.d pgsA
        simp only [List.flatMap_map]
      rw [h3]
      omega
  have := this l h.each
  omega
/-! ### the entries of all rows -/
set_option maxHeartbeats 400000 in
theorem entries_c (A : Option Addr) (n c : Nat) (w : World) :
    Calls Try.prog 42 #[.agg #[.slice A n c]] w fun e w' => e = .returned (.func (.func 79) #[] #[.pointer (some ⟨w.heap.size, 0, none⟩)]) ∧ w' = w.alloc (.cells #[.slice A n c] 24) := by
  go_enter Try.func42, Try.ntmps42
  go_wp2
  go_ret
  exact ⟨rfl, rfl⟩
theorem enters_es : ∀ args w, (callFunc 79 args).run Try.prog w = .ok (.enter 79 args) w := enters_of Try.func79 (by kernel_rfl) rfl
abbrev enN (x : EnA) : Array Value := #[.agg #[.int .i64 x.1.fs, .int .i64 x.1.ls, .int .i64 x.1.ct, .slice x.2.1 x.1.ps.length x.2.2, .int .i64 x.1.by_]]
def allE (l : List RoA) : List EnA := l.flatMap RoA.en
theorem allE_app (a b : List RoA) : allE (a ++ b) = allE a ++ allE b := List.flatMap_append
theorem allE_one (x : RoA) : allE [x] = x.en := by simp [allE]
theorem allE_take (l : List RoA) (k : Nat) : (allE (l.take k)).length ≤ (allE l).length := by
  have h := congrArg (fun t : List RoA => (allE t).length) (List.take_append_drop k l)
  simp only [allE_app, List.length_append] at h
  omega
theorem pgsA_allE : ∀ l : List RoA, pgsA (allE l) = pgsR (l.map RoA.d)
  | [] => rfl
  | x :: l => by
    have ih := pgsA_allE l
    unfold pgsA pgsR allE at ih ⊢
    rw [List.map_cons, List.flatMap_cons, List.flatMap_cons, List.flatMap_append, ih]
    congr 1
    unfold RoA.d
    simp only [List.flatMap_map]
theorem wpListIn_lookup_run {F : Fence} {nF : Nat} {P : Program} (w : World) {ops : Array Oper} {rest : List Oper} {o : Oper} {a : Act} {Q : Exit → Act → World → Prop} (hw : Region.wanted o (yielded ops a.tmps) = true) (m x : Operand) (t : TypeId) (hop : o.op = Op.lookup t m x false) (mv key val : Value) (hm : a.eval m = mv) (hx : a.eval x = key)
    (hrun : (Instr.lookup t mv key false).run P w = .ok val w) (hK : wpListIn F nF P ops Q rest (a.put o.dst val) w) : wpListIn F nF P ops Q (o :: rest) a w := by
  simp only [wpListIn, hw, if_true]
  unfold Oper.wpIn
  refine ⟨by simp [Oper.about, hop], ?_⟩
  rw [Oper.semAt_plain F _ _ (by rw [hop]; intro c hc'; cases hc')]
  simp [execOp, hop, hm, hx, hrun, Result.andThen]
  exact hK
theorem wpListIn_mapUpdate_run {F : Fence} {nF : Nat} {P : Program} (w : World) {ops : Array Oper} {rest : List Oper} {o : Oper} {a : Act} {Q : Exit → Act → World → Prop} (hw : Region.wanted o (yielded ops a.tmps) = true) (m x v : Operand) (t : TypeId) (hop : o.op = Op.mapUpdate t m x v) (mv key val : Value) (hm : a.eval m = mv) (hx : a.eval x = key) (hv : a.eval v = val) (w' : World)
    (hrun : (Instr.mapUpdate t mv key val).run P w = .ok () w') (hK : wpListIn F nF P ops Q rest (a.put o.dst undef) w') : wpListIn F nF P ops Q (o :: rest) a w := by
  simp only [wpListIn, hw, if_true]
  unfold Oper.wpIn
  refine ⟨by simp [Oper.about, hop], ?_⟩
  rw [Oper.semAt_plain F _ _ (by rw [hop]; intro c hc'; cases hc')]
  simp [execOp, hop, hm, hx, hv, hrun, Result.andThen]
  exact hK
theorem one_iff {k : Nat} {P : Prop} [Decidable P] (h : k = 0 ↔ P) : (((k : Nat) : Int) + 1 == 1) = decide P := by
  by_cases h0 : k = 0
  · rw [decide_eq_true (h.1 h0)]; simp [h0]
  · rw [decide_eq_false (fun h2 => h0 (h.2 h2))]; simp; omega
theorem cnt_step {o' a b : Bool} (h : true = (o' && a)) : b = (o' && (a && b)) := by
  cases o' <;> cases a <;> simp at h ⊢
theorem cnt_step0 {o' a b : Bool} (h : false = (o' && a)) : false = (o' && (a && b)) := by
  cases o' <;> cases a <;> simp at h ⊢
theorem abides_alloc {β : Type} {B : Nat} {J : β → World → Prop} (h : AbidesFrom B J) {s : β} {W : World} (o : Obj) (hs : J s W) : J s (W.alloc o) :=
  h s W _ none hs (World.grownBy_alloc W o none) (fun r e => by cases e)
set_option maxRecDepth 100000 in
set_option maxHeartbeats 2000000 in
theorem es_in (n l : Nat) (B : Nat) (A : Option Addr) (m c : Nat) (rows : List RoA) (n₀ : Nat) (w0 : World) (hm : ManIn w0 A m c rows) (hn0 : n₀ = w0.heap.size) (J Jx : List EnA → World → Prop)
    (W : World) (hW : Below n₀ w0 W) (hJ : AbidesFrom W.heap.size J)
    (hY : ∀ pre x W1, J pre W1 → (pre ++ [x]) <+: allE rows → YieldAt Fence.wide (n - 1) Try.prog l (enN x) W1 fun e W' =>
      (e = .returned (.bool true) ∧ J (pre ++ [x]) W' ∧ Below n₀ W1 W') ∨ (e = .returned (.bool false) ∧ Jx (pre ++ [x]) W'))
    (hB : W.cell? ⟨B, 0, none⟩ = some (.slice A m c)) (h0 : J [] W) :
    CallsIn Fence.wide n Try.prog 79 #[.func (.yield l) #[] #[], .pointer (some ⟨B, 0, none⟩)] W fun e W' => (∃ v, e = .returned v) ∧
      ((∃ ys, ys = allE rows ∧ J ys W') ∨ (∃ pre, pre <+: allE rows ∧ Jx pre W')) := by
  refine callsIn_of_wp Try.func79 rfl trivial ?_ rfl
  simp only [Try.ntmps79, List.size_toArray, List.length_cons, List.length_nil, Nat.reduceAdd, Nat.reduceSub, Array.replicate_succ, Array.replicate_zero, List.push_toArray, List.append_toArray, List.nil_append, List.cons_append]
  have HM := hid hm
  have HY := hid hY
  have HJ := hid hJ
  have HWB := hid hW
  have H0 := hid h0
  have HLN := hid hm.len
  have HN0 := hid hn0
  have hmm := hm.hn
  clear hm hY hJ hW h0 hn0
  gi_wp2
  gi_loopw [10] (fun u wr => ∃ k : Nat, k ≤ m ∧ u = .int .i64 (k : Nat) ∧ Hid (J (allE (rows.take k)) wr) ∧ Below n₀ w0 wr) (fun u _ => m - (intOf u).toNat)
  case atStart => exact ⟨0, Nat.zero_le _, rfl, H0, HWB.out⟩
  case round =>
    obtain ⟨k, hk, rfl, hJs, hb⟩ := hrel
    have hsz : n₀ ≤ wr.heap.size := by rw [HN0.out]; exact hb.size
    by_cases hlt : k < m
    · obtain ⟨er, hrw⟩ := (HM.out.below (by rw [← HN0.out]; exact hb)).rows
      obtain ⟨ad, x, rfl, hx, hxl, c0, c1, c2, c3, c4, c5, c6⟩ := row_at hrw hlt
      have hin := (HM.out.below (by rw [← HN0.out]; exact hb)).each x (List.mem_of_getElem? hx)
      have htk : rows.take (k + 1) = rows.take k ++ [x] := by
        rw [List.take_succ_eq_append_getElem hxl, (List.getElem?_eq_some_iff.1 hx).2]
      have hal : allE (rows.take (k + 1)) = allE (rows.take k) ++ x.en := by rw [htk, allE_app, allE_one]
      have htot : (allE (rows.take (k + 1))).length ≤ (allE rows).length := allE_take _ _
      have HAL := hid (And.intro hal htot)
      obtain ⟨⟨ee, hen⟩, hens, _, henl, _, _, _⟩ := hin
      have HXM := hid (List.mem_of_getElem? hx)
      have HW0 := hid hb
      have hltI : (k : Int) < (m : Int) := by omega
      have h0I : (0 : Int) ≤ (k : Int) := by omega
      obtain ⟨q, hq⟩ : ∃ q, q = x.en.length := ⟨_, rfl⟩
      obtain ⟨ea, hea0⟩ : ∃ ea, ea = x.ea := ⟨_, rfl⟩
      rw [← hq, ← hea0] at c5
      rw [← hq] at henl
      have HQ := hid hq
      have HEA := hid hea0
      have HJN := hid (show J (allE (rows.take k) ++ x.en.take 0) (wr.alloc (.cells (aR x.nm x.ep x.fl x.la x.sc (.slice ea q x.ec) (.slice x.oa x.op.length x.oc)) 42)) by
        rw [List.take_zero, List.append_nil]; exact abides_alloc HJ.out _ hJs.out)
      have HBN := hid (hb.alloc hsz (.cells (aR x.nm x.ep x.fl x.la x.sc (.slice ea q x.ec) (.slice x.oa x.op.length x.oc)) 42))
      clear hrw hx hxl htk hal htot hen hens hq hb hJs hB hea0
      gi_wp2
      obtain ⟨wo, rfl⟩ : ∃ wo : World, wo = wr := ⟨_, rfl⟩
      clear c0 c1 c2 c3 c4 c5 c6
      gi_loopw [17] (fun u wi => ∃ j : Nat, j ≤ q ∧ u = .int .i64 (j : Nat) ∧ Hid (J (allE (rows.take k) ++ x.en.take j) wi) ∧ Below n₀ w0 wi) (fun u _ => q - (intOf u).toNat)
      case atStart => exact ⟨0, Nat.zero_le _, rfl, HJN, HBN.out⟩
      case round =>
        obtain ⟨j, hj, rfl, hJi, hbi⟩ := hrel
        have hszi : n₀ ≤ wr.heap.size := by rw [HN0.out]; exact hbi.size
        by_cases hjq : j < q
        · have hri := (HM.out.below (by rw [← HN0.out]; exact hbi)).each x HXM.out
          obtain ⟨ei, hen⟩ := hri.en
          rw [← HQ.out, ← HEA.out] at hen
          obtain ⟨ed, y, hea, hy, hyl, d0, d1, d2, d3, d4⟩ := en_at hen hjq
          have htj : x.en.take (j + 1) = x.en.take j ++ [y] := by
            rw [List.take_succ_eq_append_getElem hyl, (List.getElem?_eq_some_iff.1 hy).2]
          have hpre : (allE (rows.take k) ++ x.en.take j) ++ [y] <+: allE rows := by
            have h1 := HAL.out.1
            have h2 : allE (rows.take (k + 1)) <+: allE rows := ⟨allE (rows.drop (k + 1)), by rw [← allE_app, List.take_append_drop]⟩
            rw [h1] at h2
            rw [List.append_assoc, ← htj]
            exact (List.prefix_append_right_inj _ |>.2 (List.take_prefix _ _)).trans h2
          have hJa := abides_alloc HJ.out (.cells #[.int .i64 y.1.fs, .int .i64 y.1.ls, .int .i64 y.1.ct, .slice y.2.1 y.1.ps.length y.2.2, .int .i64 y.1.by_] 45) hJi.out
          obtain ⟨fn, tmps, assign, body, hyy, hR⟩ := HY.out _ y _ hJa hpre
          have HBA := hid (hbi.alloc hszi (.cells #[.int .i64 y.1.fs, .int .i64 y.1.ls, .int .i64 y.1.ct, .slice y.2.1 y.1.ps.length y.2.2, .int .i64 y.1.by_] 45))
          have HTJ := hid (show (allE (rows.take k) ++ x.en.take j) ++ [y] = allE (rows.take k) ++ x.en.take (j + 1) by rw [htj, List.append_assoc])
          have HR := hid hR
          have hji : (j : Int) < (q : Int) := by omega
          have hj0 : (0 : Int) ≤ (j : Int) := by omega
          dsimp only [enN] at hyy
          have HPR := hid hpre
          clear hri hen hy hyl htj hpre hJa hR hJi hbi
          subst hea
          gi_wp2
          refine ⟨fun h => absurd h (by simp [Fence.wide]), HR.out.mono ?_⟩
          rintro e W3 (⟨rfl, hJ3, hk3⟩ | ⟨rfl, hJx3⟩)
          · have HN := hid (show J (allE (rows.take k) ++ x.en.take (j + 1)) W3 by rw [← HTJ.out]; exact hJ3)
            have HB3 := hid (HBA.out.trans hk3)
            clear hJ3 hk3 hyy d0 d1 d2 d3 d4
            gi_wp2
            go_roundw
            case rel => exact ⟨j + 1, by omega, by go_num, HN, HB3.out⟩
            case measure => simp [intOf]; omega
          · have HN := hid (show ∃ pre, pre <+: allE rows ∧ Jx pre W3 from ⟨_, HPR.out, hJx3⟩)
            clear hJx3 hyy d0 d1 d2 d3 d4
            gi_wp2
            refine bodyPost_ret (results_none rfl _ _ _) rfl ?_
            exact ⟨⟨_, rfl⟩, .inr HN.out⟩
        · obtain rfl : j = q := by omega
          have HN := hid (show J (allE (rows.take (k + 1))) wr by
            have h := hJi.out
            rw [List.take_of_length_le (Nat.le_of_eq HQ.out.symm)] at h
            rw [HAL.out.1]; exact h)
          have HBI := hid hbi
          clear hJi hbi
          gi_wp2
          go_roundw
          case rel => exact ⟨k + 1, by omega, by go_num, HN, HBI.out⟩
          case measure => simp [intOf]; omega
    · obtain rfl : k = m := by omega
      have HF := hid (show J (allE rows) wr by
        have h := hJs.out
        rw [List.take_of_length_le (Nat.le_of_eq HLN.out)] at h
        exact h)
      clear hJs hb
      gi_wp2
      go_end0
      exact ⟨⟨_, rfl⟩, .inl ⟨_, rfl, HF.out⟩⟩
/-- an entry that can be read where Check begins -/
abbrev EnS (w : World) := { x : EnA // EnIn w x }
abbrev unS {w : World} (l : List (EnS w)) : List EnA := l.map Subtype.val
theorem lift_pre {w : World} {rows : List RoA} (hin : ∀ x ∈ allE rows, EnIn w x) {p : List (EnS w)} {x : EnA} (h : (unS p ++ [x]) <+: allE rows) : EnIn w x :=
  hin x (h.subset (by simp))
theorem allE_in {w : World} {A : Option Addr} {n c : Nat} {l : List RoA} (h : ManIn w A n c l) : ∀ x ∈ allE l, EnIn w x := by
  intro x hx
  obtain ⟨y, hy, hxy⟩ := List.mem_flatMap.1 hx
  exact (h.each y hy).ens x hxy
theorem es_stops (n B : Nat) (A : Option Addr) (m c : Nat) (rows : List RoA) (w0 : World) (hm : ManIn w0 A m c rows) (W0 : World) (hW0 : Below w0.heap.size w0 W0) (hB : Boxed W0 B 24 (.slice A m c)) :
    SeqStopsK Fence.wide n Try.prog 79 #[.pointer (some ⟨B, 0, none⟩)] (fun x : EnS w0 => enN x.1) (Below w0.heap.size) (fun ys => unS ys = allE rows) (fun pre => unS pre <+: allE rows) (allE rows).length W0 := by
  intro l J Jx W hW hJ hJx hY h0
  refine (es_in n l B A m c rows w0.heap.size w0 hm rfl (fun p W => ∃ q : List (EnS w0), unS q = p ∧ J q W) (fun p W => ∃ q : List (EnS w0), unS q = p ∧ Jx q W) W (hW0.trans (hW.mono hW0.size)) ?_ ?_ ((hW.cell (p := ⟨B, 0, none⟩) hB.lt).trans hB.cell) ⟨[], rfl, h0⟩).mono ?_
  · rintro s X Y row ⟨q, hq, hj⟩ hg hr
    exact ⟨q, hq, hJ q X Y row hj hg hr⟩
  · rintro _ x W1 ⟨q, rfl, hj⟩ hpre
    have hx := lift_pre (allE_in hm) hpre
    refine (hY q ⟨x, hx⟩ W1 hj (by have := hpre.length_le; simp at this; omega)).mono ?_
    rintro e W' (⟨h1, h2, h3⟩ | ⟨h1, h2⟩)
    · exact .inl ⟨h1, ⟨_, by simp, h2⟩, h3⟩
    · exact .inr ⟨h1, ⟨_, by simp, h2⟩⟩
  · rintro e W' ⟨h1, ⟨ys, rfl, q, hq, hj⟩ | ⟨pre, hp, q, rfl, hj⟩⟩
    · exact ⟨h1, .inl ⟨q, hq, hj⟩⟩
    · exact ⟨h1, .inr ⟨q, hp, hj⟩⟩
theorem But.cellp {g : Nat} {w w' : World} {p : Addr} {v : Value} (hb : But g w w') (h : w.cell? p = some v) (hp : p.block ≠ g) : w'.cell? p = some v :=
  (World.cell?_of_block (hb.block p.block (World.block_lt_of_cell? w p h) hp)).trans h
def prevN (l : List RoA) (k : Nat) : Option ByteArray := if k = 0 then none else (l[k-1]?).map RoA.nm
set_option maxRecDepth 100000 in
set_option maxHeartbeats 4000000 in
theorem Check_c (A : Option Addr) (n c : Nat) (rows : List RoA) (w : World) (h : ManIn w A n c rows) :
    Calls Try.prog 13 #[.agg #[.slice A n c]] w fun e w' => e = .returned (.int .i64 (manE (rows.map RoA.d))) ∧ Below w.heap.size w w' := by
  have hln := h.len
  have hn := h.hn
  have htot := pgs_total h
  obtain ⟨r, hr⟩ : ∃ r, r = manE (rows.map RoA.d) := ⟨_, rfl⟩
  rw [← hr]
  obtain ⟨es, hes⟩ : ∃ es, es = rows.map RoA.d := ⟨_, rfl⟩
  rw [← hes] at htot hr
  have HES := hid hes
  have HR := hid hr
  have HM := hid h
  have HLN := hid hln
  have HTOT := hid htot
  obtain ⟨o0, ho0⟩ : ∃ o0, o0 = decide ((n : Int) ≤ 8) := ⟨_, rfl⟩
  have HO0 := hid ho0
  have ho0' := ho0.symm
  have K1 := hid ((Blk.new w 24 #[.slice A n c]).alloc (.cells #[.bool o0] 4))
  have K3 := hid (Blk.new_at (g := w.heap.size + 1) (w.alloc (.cells #[.slice A n c] 24)) 4 #[.bool o0] (by simp))
  have HB0 := hid (((Below.refl w.heap.size w).alloc (Nat.le_refl _) (.cells #[.slice A n c] 24)).alloc (by simp) (.cells #[.bool o0] 4))
  clear h hln htot hr hes ho0
  refine (callsIn_wide (n := 9)).1 (callsIn_of_wp_marks Try.func13 rfl trivial (wpIn_wide.2 ?_) rfl)
  simp only [Try.ntmps13, List.size_toArray, List.length_cons, List.length_nil, Nat.reduceAdd, Nat.reduceSub, Array.replicate_succ, Array.replicate_zero, List.push_toArray, List.append_toArray, List.nil_append, List.cons_append]
  go_wp2_with fail
  go_loopw [17] (fun u17 wr => ∃ (k : Nat) (o : Bool), k ≤ n ∧ u17 = .int .i64 (k : Nat) ∧ Hid (Blk wr w.heap.size 24 #[.slice A n c] ∧ Blk wr (w.heap.size + 1) 4 #[.bool o]) ∧ Below w.heap.size w wr ∧ Hid ((o0 && risesB none es) = (o && risesB (prevN rows k) (es.drop k)))) (fun u17 _ => n - (intOf u17).toNat)
  case atStart => exact ⟨0, o0, Nat.zero_le _, rfl, hid ⟨K1.out, K3.out⟩, HB0.out, hid rfl⟩
  case round =>
    obtain ⟨k, o, hk, rfl, hkk, hb, hrl⟩ := hrel
    by_cases hlt : k < n
    · obtain ⟨er, hrw⟩ := (HM.out.below hb).rows
      obtain ⟨ad, x, rfl, hx, hxl, c0, c1, c2, c3, c4, c5, c6⟩ := row_at hrw hlt
      have hdr : es.drop k = x.d :: es.drop (k + 1) := by
        have hxe : es[k]? = some x.d := by rw [HES.out, List.getElem?_map, hx]; rfl
        rw [List.drop_eq_getElem_cons (List.getElem?_eq_some_iff.1 hxe).1, (List.getElem?_eq_some_iff.1 hxe).2]
      have hpn : prevN rows (k + 1) = some x.nm := by
        unfold prevN; rw [if_neg (by omega), Nat.add_sub_cancel, hx]; rfl
      have HRL := hid (show (o0 && risesB none es) = (o && (rowOk x.d && (behN (prevN rows k) x.nm && risesB (prevN rows (k + 1)) (es.drop (k + 1))))) by rw [hrl.out, hdr, hpn]; rfl)
      have HX := hid hx
      obtain ⟨oc, hoc⟩ : ∃ oc, oc = Obj.cells (aR x.nm x.ep x.fl x.la x.sc (.slice x.ea x.en.length x.ec) (.slice x.oa x.op.length x.oc)) 42 := ⟨_, rfl⟩
      have HROW := hid (fun W (h : Below w.heap.size w W) => row_c x W (((HM.out.below h)).each x (List.mem_of_getElem? hx)))
      have HPRE := hid (fun (j : Nat) (hj : k = j + 1) W (h : Below w.heap.size w W) => (show ∃ nm, prevN rows k = some nm ∧ W.cell? (ad.add (j * 7)) = some (.string nm) by
        obtain ⟨er2, hrw2⟩ := (HM.out.below h).rows
        obtain ⟨ad2, y, ha, hy, _, d0, _⟩ := row_at hrw2 (show j < n by omega)
        cases ha
        exact ⟨y.nm, by unfold prevN; rw [if_neg (by omega), hj, Nat.add_sub_cancel, hy]; rfl, d0⟩))
      have hadl : ad.block < w.heap.size := by
        obtain ⟨er2, hrw2⟩ := HM.out.rows
        obtain ⟨ad2, y, ha, hy, _, d0, _⟩ := row_at hrw2 hlt
        cases ha
        have := World.block_lt_of_cell? _ _ d0
        rwa [block_of_add] at this
      have KC := hid (show Blk (wr.alloc oc) wr.heap.size 42 (aR x.nm x.ep x.fl x.la x.sc (.slice x.ea x.en.length x.ec) (.slice x.oa x.op.length x.oc)) by rw [hoc]; exact Blk.new _ _ _)
      have K1' := hid (hkk.out.1.alloc oc)
      have K3' := hid (hkk.out.2.alloc oc)
      have hsz : w.heap.size + 1 < wr.heap.size := hkk.out.2.lt
      have hsz1 : w.heap.size < wr.heap.size := by omega
      have HB5 := hid (hb.alloc hb.size oc)
      have hltI : (k : Int) < (n : Int) := by omega
      have h0I : (0 : Int) ≤ (k : Int) := by omega
      have hk16 : k ≤ 16 := by omega
      clear hrw hx hxl hdr hpn hrl hkk hb K1 K3 HB0
      subst hoc
      go_upto_region 5 with fail
      clear c0 c1 c2 c3 c4 c5 c6
      obtain ⟨W5, hW5⟩ : ∃ W5, W5 = wr.alloc (.cells (aR x.nm x.ep x.fl x.la x.sc (.slice x.ea x.en.length x.ec) (.slice x.oa x.op.length x.oc)) 42) := ⟨_, rfl⟩
      have hW5s : wr.heap.size < W5.heap.size := by rw [hW5]; simp
      rw [← hW5] at KC K1' K3' HB5 ⊢
      clear hW5
      have HG := hid (fun (o' : Bool) W (hk1 : Blk W (w.heap.size + 1) 4 #[.bool o']) (hbt : But (w.heap.size + 1) W5 W) (hq : (o0 && risesB none es) = (o' && risesB (prevN rows (k + 1)) (es.drop (k + 1)))) =>
        (show (Blk W w.heap.size 24 #[.slice (some ad) n c] ∧ Blk W (w.heap.size + 1) 4 #[.bool o']) ∧ Below w.heap.size w W from
          ⟨⟨K1'.out.but hbt (by omega), hk1⟩, But.below HB5.out hbt (by omega) (by have := HB5.out.size; omega)⟩))
      have x6 : W5.drew.cell? ⟨w.heap.size + 1, 0, none⟩ = some (.bool o) := K3'.out.cell 0
      cases o with
      | false =>
        have HN := hid (show (o0 && risesB none es) = (false && risesB (prevN rows (k + 1)) (es.drop (k + 1))) by rw [HRL.out]; rfl)
        have HE := hid (HG.out false (W5.drew.setCell ⟨w.heap.size + 1, 0, none⟩ (.bool false)) (K3'.out.drew.set_ 0 _) ((But.refl _ W5).drew.setg 0 _) HN.out)
        have y6 : W5.drew.frozen? ⟨w.heap.size + 1, 0, none⟩ = false := K3'.out.frozen 0
        refine wp_region_noPanic ?_
        refine wp_region_held_drew (S := fun _ => True) (by kernel_rfl) trivial (fun hHeld => ?_)
        refine wpAnyH_ready (rs := [0]) (by kernel_rfl) (by simp) ?_
        refine AllReadyH.cons rfl (fun K hK => ?_) AllReadyH.nil
        go_simp
        refine hK.out _ _ trivial (fun hHeld => ?_)
        clear hK K
        try simp only [List.getElem_toArray, List.getElem_cons_succ, List.getElem_cons_zero, Act.put, List.setIfInBounds_toArray, List.set_cons_zero, List.set_cons_succ]
        refine wpAnyH_take (i := 1) (v := ?_) rfl (by kernel_rfl) (by kernel_rfl) (by kernel_rfl) (fun _ _ _ h => h) (Or.inl ⟨by rfl, ?_⟩) (by assumption) ?_
        rotate_left
        · intro W hW
          go_simp
          try rfl
        simp only [List.getElem_toArray, List.getElem_cons_succ, List.getElem_cons_zero, Act.put, List.setIfInBounds_toArray, List.set_cons_zero, List.set_cons_succ]
        refine wpAnyH_take (i := 2) (v := undef) rfl (by kernel_rfl) (by kernel_rfl) (by kernel_rfl) (fun _ _ _ h => h) (Or.inr ⟨by rfl, rfl⟩) (by assumption) ?_
        simp only [List.getElem_toArray, List.getElem_cons_succ, List.getElem_cons_zero, Act.put, List.setIfInBounds_toArray, List.set_cons_zero, List.set_cons_succ]
        refine wpAnyH_take (i := 3) (v := undef) rfl (by kernel_rfl) (by kernel_rfl) (by kernel_rfl) (fun _ _ _ h => h) (Or.inr ⟨by rfl, rfl⟩) (by assumption) ?_
        simp only [List.getElem_toArray, List.getElem_cons_succ, List.getElem_cons_zero, Act.put, List.setIfInBounds_toArray, List.set_cons_zero, List.set_cons_succ]
        refine wpAnyH_take (i := 4) (v := ?_) rfl (by kernel_rfl) (by kernel_rfl) (by kernel_rfl) (fun _ _ _ h => h) (Or.inl ⟨by rfl, ?_⟩) (by assumption) ?_
        rotate_left
        · intro W hW
          go_simp
          try rfl
        simp only [List.getElem_toArray, List.getElem_cons_succ, List.getElem_cons_zero, Act.put, List.setIfInBounds_toArray, List.set_cons_zero, List.set_cons_succ]
        refine wpAnyH_take (i := 5) (v := ?_) rfl (by kernel_rfl) (by kernel_rfl) (by kernel_rfl) (fun _ _ _ h => h) (Or.inl ⟨by rfl, ?_⟩) (by assumption) ?_
        rotate_left
        · intro W hW
          go_simp
          try rfl
        simp only [List.getElem_toArray, List.getElem_cons_succ, List.getElem_cons_zero, Act.put, List.setIfInBounds_toArray, List.set_cons_zero, List.set_cons_succ]
        refine wpAnyH_take (i := 6) (v := undef) rfl (by kernel_rfl) (by kernel_rfl) (by kernel_rfl) (fun _ _ _ h => h) (Or.inr ⟨by rfl, rfl⟩) (by assumption) ?_
        simp only [List.getElem_toArray, List.getElem_cons_succ, List.getElem_cons_zero, Act.put, List.setIfInBounds_toArray, List.set_cons_zero, List.set_cons_succ]
        refine wpAnyH_take (i := 7) (v := undef) rfl (by kernel_rfl) (by kernel_rfl) (by kernel_rfl) (fun _ _ _ h => h) (Or.inr ⟨by rfl, rfl⟩) (by assumption) ?_
        simp only [List.getElem_toArray, List.getElem_cons_succ, List.getElem_cons_zero, Act.put, List.setIfInBounds_toArray, List.set_cons_zero, List.set_cons_succ]
        refine wpAnyH_take (i := 8) (v := undef) rfl (by kernel_rfl) (by kernel_rfl) (by kernel_rfl) (fun _ _ _ h => h) (Or.inr ⟨by rfl, rfl⟩) (by assumption) ?_
        simp only [List.getElem_toArray, List.getElem_cons_succ, List.getElem_cons_zero, Act.put, List.setIfInBounds_toArray, List.set_cons_zero, List.set_cons_succ]
        refine wpAnyH_take (i := 9) (v := undef) rfl (by kernel_rfl) (by kernel_rfl) (by kernel_rfl) (fun _ _ _ h => h) (Or.inr ⟨by rfl, rfl⟩) (by assumption) ?_
        simp only [List.getElem_toArray, List.getElem_cons_succ, List.getElem_cons_zero, Act.put, List.setIfInBounds_toArray, List.set_cons_zero, List.set_cons_succ]
        refine wpAnyH_take (i := 10) (v := undef) rfl (by kernel_rfl) (by kernel_rfl) (by kernel_rfl) (fun _ _ _ h => h) (Or.inr ⟨by rfl, rfl⟩) (by assumption) ?_
        simp only [List.getElem_toArray, List.getElem_cons_succ, List.getElem_cons_zero, Act.put, List.setIfInBounds_toArray, List.set_cons_zero, List.set_cons_succ]
        refine wpAnyH_take (i := 11) (v := undef) rfl (by kernel_rfl) (by kernel_rfl) (by kernel_rfl) (fun _ _ _ h => h) (Or.inr ⟨by rfl, rfl⟩) (by assumption) ?_
        simp only [List.getElem_toArray, List.getElem_cons_succ, List.getElem_cons_zero, Act.put, List.setIfInBounds_toArray, List.set_cons_zero, List.set_cons_succ]
        refine wpAnyH_take (i := 12) (v := undef) rfl (by kernel_rfl) (by kernel_rfl) (by kernel_rfl) (fun _ _ _ h => h) (Or.inr ⟨by rfl, rfl⟩) (by assumption) ?_
        simp only [List.getElem_toArray, List.getElem_cons_succ, List.getElem_cons_zero, Act.put, List.setIfInBounds_toArray, List.set_cons_zero, List.set_cons_succ]
        refine wpAnyH_take (i := 13) (v := undef) rfl (by kernel_rfl) (by kernel_rfl) (by kernel_rfl) (fun _ _ _ h => h) (Or.inr ⟨by rfl, rfl⟩) (by assumption) ?_
        simp only [List.getElem_toArray, List.getElem_cons_succ, List.getElem_cons_zero, Act.put, List.setIfInBounds_toArray, List.set_cons_zero, List.set_cons_succ]
        refine wpAnyH_take (i := 14) (v := undef) rfl (by kernel_rfl) (by kernel_rfl) (by kernel_rfl) (fun _ _ _ h => h) (Or.inr ⟨by rfl, rfl⟩) (by assumption) ?_
        simp only [List.getElem_toArray, List.getElem_cons_succ, List.getElem_cons_zero, Act.put, List.setIfInBounds_toArray, List.set_cons_zero, List.set_cons_succ]
        refine wpAnyH_take (i := 15) (v := undef) rfl (by kernel_rfl) (by kernel_rfl) (by kernel_rfl) (fun _ _ _ h => h) (Or.inr ⟨by rfl, rfl⟩) (by assumption) ?_
        simp only [List.getElem_toArray, List.getElem_cons_succ, List.getElem_cons_zero, Act.put, List.setIfInBounds_toArray, List.set_cons_zero, List.set_cons_succ]
        refine wpAnyH_take (i := 16) (v := undef) rfl (by kernel_rfl) (by kernel_rfl) (by kernel_rfl) (fun _ _ _ h => h) (Or.inr ⟨by rfl, rfl⟩) (by assumption) ?_
        simp only [List.getElem_toArray, List.getElem_cons_succ, List.getElem_cons_zero, Act.put, List.setIfInBounds_toArray, List.set_cons_zero, List.set_cons_succ]
        refine wpAnyH_take (i := 17) (v := undef) rfl (by kernel_rfl) (by kernel_rfl) (by kernel_rfl) (fun _ _ _ h => h) (Or.inr ⟨by rfl, rfl⟩) (by assumption) ?_
        simp only [List.getElem_toArray, List.getElem_cons_succ, List.getElem_cons_zero, Act.put, List.setIfInBounds_toArray, List.set_cons_zero, List.set_cons_succ]
        refine wpAnyH_take (i := 18) (v := undef) rfl (by kernel_rfl) (by kernel_rfl) (by kernel_rfl) (fun _ _ _ h => h) (Or.inr ⟨by rfl, rfl⟩) (by assumption) ?_
        simp only [List.getElem_toArray, List.getElem_cons_succ, List.getElem_cons_zero, Act.put, List.setIfInBounds_toArray, List.set_cons_zero, List.set_cons_succ]
        refine wpAnyH_take (i := 19) (v := undef) rfl (by kernel_rfl) (by kernel_rfl) (by kernel_rfl) (fun _ _ _ h => h) (Or.inr ⟨by rfl, rfl⟩) (by assumption) ?_
        simp only [List.getElem_toArray, List.getElem_cons_succ, List.getElem_cons_zero, Act.put, List.setIfInBounds_toArray, List.set_cons_zero, List.set_cons_succ]
        refine wpAnyH_take (i := 20) (v := ?_) rfl (by kernel_rfl) (by kernel_rfl) (by kernel_rfl) (fun _ _ _ h => h) (Or.inl ⟨by rfl, ?_⟩) (by assumption) ?_
        rotate_left
        · intro W hW
          go_simp
          try rfl
        simp only [List.getElem_toArray, List.getElem_cons_succ, List.getElem_cons_zero, Act.put, List.setIfInBounds_toArray, List.set_cons_zero, List.set_cons_succ]
        refine wpAnyH_ready (rs := [21]) (by kernel_rfl) (by simp) ?_
        refine AllReadyH.cons rfl (fun K hK => ?_) AllReadyH.nil
        go_simp
        refine hK.out _ _ trivial (fun hHeld => ?_)
        clear hK K
        try simp only [List.getElem_toArray, List.getElem_cons_succ, List.getElem_cons_zero, Act.put, List.setIfInBounds_toArray, List.set_cons_zero, List.set_cons_succ]
        refine wpAnyH_done (by kernel_rfl) ?_ _
        refine NoPanic.normal ?_
        clear x6 y6
        go_wp2_with fail
        go_roundw
        case rel => exact ⟨k + 1, false, by omega, by go_num, hid HE.out.1, HE.out.2, HN⟩
        case measure => simp [intOf]; omega
      | true =>
        have HRW := hid (HROW.out W5.drew HB5.out.drew)
        obtain ⟨d0, d1, d2, d3, d4, d5, d6⟩ := KC.out.drew.seven
        cases hro : rowOk x.d with
        | false =>
          rw [hro] at HRW
          have HN := hid (show (o0 && risesB none es) = (false && risesB (prevN rows (k + 1)) (es.drop (k + 1))) by rw [HRL.out, hro]; rfl)
          have HE := hid (fun w2 (hb2 : Below W5.drew.heap.size W5.drew w2) => (show w2.cell? ⟨w.heap.size + 1, 0, none⟩ = some (.bool true) ∧ w2.frozen? ⟨w.heap.size + 1, 0, none⟩ = false ∧ w.heap.size + 1 < w2.heap.size ∧
            ((Blk (w2.setCell ⟨w.heap.size + 1, 0, none⟩ (.bool false)) w.heap.size 24 #[.slice (some ad) n c] ∧ Blk (w2.setCell ⟨w.heap.size + 1, 0, none⟩ (.bool false)) (w.heap.size + 1) 4 #[.bool false]) ∧ Below w.heap.size w (w2.setCell ⟨w.heap.size + 1, 0, none⟩ (.bool false))) from by
            have k3 := K3'.out.drew.under hb2
            exact ⟨k3.cell 0, k3.frozen 0, k3.lt, HG.out false _ (k3.set_ 0 _) ((But.of_below hb2).undrew.setg 0 _) HN.out⟩))
          clear hro HROW
          refine wp_region_noPanic ?_
          refine wp_region_held_drew (S := fun _ => True) (by kernel_rfl) trivial (fun hHeld => ?_)
          refine wpAnyH_ready (rs := [0]) (by kernel_rfl) (by simp) ?_
          refine AllReadyH.cons rfl (fun K hK => ?_) AllReadyH.nil
          go_simp
          refine hK.out _ _ trivial (fun hHeld => ?_)
          clear hK K
          try simp only [List.getElem_toArray, List.getElem_cons_succ, List.getElem_cons_zero, Act.put, List.setIfInBounds_toArray, List.set_cons_zero, List.set_cons_succ]
          refine wpAnyH_take (i := 1) (v := ?_) rfl (by kernel_rfl) (by kernel_rfl) (by kernel_rfl) (fun _ _ _ h => h) (Or.inl ⟨by rfl, ?_⟩) (by assumption) ?_
          rotate_left
          · intro W hW
            go_simp
            try rfl
          simp only [List.getElem_toArray, List.getElem_cons_succ, List.getElem_cons_zero, Act.put, List.setIfInBounds_toArray, List.set_cons_zero, List.set_cons_succ]
          refine wpAnyH_ready (rs := [2]) (by kernel_rfl) (by simp) ?_
          refine AllReadyH.cons rfl (fun K hK => ?_) AllReadyH.nil
          go_simp
          refine hK.out _ _ trivial (fun hHeld => ?_)
          clear hK K
          try simp only [List.getElem_toArray, List.getElem_cons_succ, List.getElem_cons_zero, Act.put, List.setIfInBounds_toArray, List.set_cons_zero, List.set_cons_succ]
          refine wpAnyH_ready (rs := [3]) (by kernel_rfl) (by simp) ?_
          refine AllReadyH.cons rfl (fun K hK => ?_) AllReadyH.nil
          go_simp
          refine HRW.out.mono ?_
          rintro e w2 ⟨rfl, hb2⟩
          refine hK.out _ _ trivial (fun hHeld => ?_)
          clear hK K
          try simp only [List.getElem_toArray, List.getElem_cons_succ, List.getElem_cons_zero, Act.put, List.setIfInBounds_toArray, List.set_cons_zero, List.set_cons_succ]
          obtain ⟨x6, y6, z6, hE⟩ := HE.out w2 hb2
          replace hE := hid hE
          clear d0 d1 d2 d3 d4 d5 d6
          refine wpAnyH_take (i := 4) (v := ?_) rfl (by kernel_rfl) (by kernel_rfl) (by kernel_rfl) (fun _ _ _ h => h) (Or.inl ⟨by rfl, ?_⟩) (by assumption) ?_
          rotate_left
          · intro W hW
            go_simp
            try rfl
          simp only [List.getElem_toArray, List.getElem_cons_succ, List.getElem_cons_zero, Act.put, List.setIfInBounds_toArray, List.set_cons_zero, List.set_cons_succ]
          refine wpAnyH_take (i := 5) (v := ?_) rfl (by kernel_rfl) (by kernel_rfl) (by kernel_rfl) (fun _ _ _ h => h) (Or.inl ⟨by rfl, ?_⟩) (by assumption) ?_
          rotate_left
          · intro W hW
            go_simp
            try rfl
          simp only [List.getElem_toArray, List.getElem_cons_succ, List.getElem_cons_zero, Act.put, List.setIfInBounds_toArray, List.set_cons_zero, List.set_cons_succ]
          refine wpAnyH_take (i := 6) (v := undef) rfl (by kernel_rfl) (by kernel_rfl) (by kernel_rfl) (fun _ _ _ h => h) (Or.inr ⟨by rfl, rfl⟩) (by assumption) ?_
          simp only [List.getElem_toArray, List.getElem_cons_succ, List.getElem_cons_zero, Act.put, List.setIfInBounds_toArray, List.set_cons_zero, List.set_cons_succ]
          refine wpAnyH_take (i := 7) (v := undef) rfl (by kernel_rfl) (by kernel_rfl) (by kernel_rfl) (fun _ _ _ h => h) (Or.inr ⟨by rfl, rfl⟩) (by assumption) ?_
          simp only [List.getElem_toArray, List.getElem_cons_succ, List.getElem_cons_zero, Act.put, List.setIfInBounds_toArray, List.set_cons_zero, List.set_cons_succ]
          refine wpAnyH_take (i := 8) (v := undef) rfl (by kernel_rfl) (by kernel_rfl) (by kernel_rfl) (fun _ _ _ h => h) (Or.inr ⟨by rfl, rfl⟩) (by assumption) ?_
          simp only [List.getElem_toArray, List.getElem_cons_succ, List.getElem_cons_zero, Act.put, List.setIfInBounds_toArray, List.set_cons_zero, List.set_cons_succ]
          refine wpAnyH_take (i := 9) (v := undef) rfl (by kernel_rfl) (by kernel_rfl) (by kernel_rfl) (fun _ _ _ h => h) (Or.inr ⟨by rfl, rfl⟩) (by assumption) ?_
          simp only [List.getElem_toArray, List.getElem_cons_succ, List.getElem_cons_zero, Act.put, List.setIfInBounds_toArray, List.set_cons_zero, List.set_cons_succ]
          refine wpAnyH_take (i := 10) (v := undef) rfl (by kernel_rfl) (by kernel_rfl) (by kernel_rfl) (fun _ _ _ h => h) (Or.inr ⟨by rfl, rfl⟩) (by assumption) ?_
          simp only [List.getElem_toArray, List.getElem_cons_succ, List.getElem_cons_zero, Act.put, List.setIfInBounds_toArray, List.set_cons_zero, List.set_cons_succ]
          refine wpAnyH_take (i := 11) (v := undef) rfl (by kernel_rfl) (by kernel_rfl) (by kernel_rfl) (fun _ _ _ h => h) (Or.inr ⟨by rfl, rfl⟩) (by assumption) ?_
          simp only [List.getElem_toArray, List.getElem_cons_succ, List.getElem_cons_zero, Act.put, List.setIfInBounds_toArray, List.set_cons_zero, List.set_cons_succ]
          refine wpAnyH_take (i := 12) (v := undef) rfl (by kernel_rfl) (by kernel_rfl) (by kernel_rfl) (fun _ _ _ h => h) (Or.inr ⟨by rfl, rfl⟩) (by assumption) ?_
          simp only [List.getElem_toArray, List.getElem_cons_succ, List.getElem_cons_zero, Act.put, List.setIfInBounds_toArray, List.set_cons_zero, List.set_cons_succ]
          refine wpAnyH_take (i := 13) (v := undef) rfl (by kernel_rfl) (by kernel_rfl) (by kernel_rfl) (fun _ _ _ h => h) (Or.inr ⟨by rfl, rfl⟩) (by assumption) ?_
          simp only [List.getElem_toArray, List.getElem_cons_succ, List.getElem_cons_zero, Act.put, List.setIfInBounds_toArray, List.set_cons_zero, List.set_cons_succ]
          refine wpAnyH_take (i := 14) (v := undef) rfl (by kernel_rfl) (by kernel_rfl) (by kernel_rfl) (fun _ _ _ h => h) (Or.inr ⟨by rfl, rfl⟩) (by assumption) ?_
          simp only [List.getElem_toArray, List.getElem_cons_succ, List.getElem_cons_zero, Act.put, List.setIfInBounds_toArray, List.set_cons_zero, List.set_cons_succ]
          refine wpAnyH_take (i := 15) (v := undef) rfl (by kernel_rfl) (by kernel_rfl) (by kernel_rfl) (fun _ _ _ h => h) (Or.inr ⟨by rfl, rfl⟩) (by assumption) ?_
          simp only [List.getElem_toArray, List.getElem_cons_succ, List.getElem_cons_zero, Act.put, List.setIfInBounds_toArray, List.set_cons_zero, List.set_cons_succ]
          refine wpAnyH_take (i := 16) (v := undef) rfl (by kernel_rfl) (by kernel_rfl) (by kernel_rfl) (fun _ _ _ h => h) (Or.inr ⟨by rfl, rfl⟩) (by assumption) ?_
          simp only [List.getElem_toArray, List.getElem_cons_succ, List.getElem_cons_zero, Act.put, List.setIfInBounds_toArray, List.set_cons_zero, List.set_cons_succ]
          refine wpAnyH_take (i := 17) (v := undef) rfl (by kernel_rfl) (by kernel_rfl) (by kernel_rfl) (fun _ _ _ h => h) (Or.inr ⟨by rfl, rfl⟩) (by assumption) ?_
          simp only [List.getElem_toArray, List.getElem_cons_succ, List.getElem_cons_zero, Act.put, List.setIfInBounds_toArray, List.set_cons_zero, List.set_cons_succ]
          refine wpAnyH_take (i := 18) (v := undef) rfl (by kernel_rfl) (by kernel_rfl) (by kernel_rfl) (fun _ _ _ h => h) (Or.inr ⟨by rfl, rfl⟩) (by assumption) ?_
          simp only [List.getElem_toArray, List.getElem_cons_succ, List.getElem_cons_zero, Act.put, List.setIfInBounds_toArray, List.set_cons_zero, List.set_cons_succ]
          refine wpAnyH_take (i := 19) (v := undef) rfl (by kernel_rfl) (by kernel_rfl) (by kernel_rfl) (fun _ _ _ h => h) (Or.inr ⟨by rfl, rfl⟩) (by assumption) ?_
          simp only [List.getElem_toArray, List.getElem_cons_succ, List.getElem_cons_zero, Act.put, List.setIfInBounds_toArray, List.set_cons_zero, List.set_cons_succ]
          refine wpAnyH_take (i := 20) (v := ?_) rfl (by kernel_rfl) (by kernel_rfl) (by kernel_rfl) (fun _ _ _ h => h) (Or.inl ⟨by rfl, ?_⟩) (by assumption) ?_
          rotate_left
          · intro W hW
            go_simp
            try rfl
          simp only [List.getElem_toArray, List.getElem_cons_succ, List.getElem_cons_zero, Act.put, List.setIfInBounds_toArray, List.set_cons_zero, List.set_cons_succ]
          refine wpAnyH_ready (rs := [21]) (by kernel_rfl) (by simp) ?_
          refine AllReadyH.cons rfl (fun K hK => ?_) AllReadyH.nil
          go_simp
          refine hK.out _ _ trivial (fun hHeld => ?_)
          clear hK K
          try simp only [List.getElem_toArray, List.getElem_cons_succ, List.getElem_cons_zero, Act.put, List.setIfInBounds_toArray, List.set_cons_zero, List.set_cons_succ]
          refine wpAnyH_done (by kernel_rfl) ?_ _
          refine NoPanic.normal ?_
          clear x6 y6 z6
          go_wp2_with fail
          have hE : Hid ((Blk (w2.setCell ⟨w.heap.size + 1, 0, none⟩ (.bool false)) w.heap.size 24 #[.slice (some ad) n c] ∧ Blk (w2.setCell ⟨w.heap.size + 1, 0, none⟩ (.bool false)) (w.heap.size + 1) 4 #[.bool false]) ∧ Below w.heap.size w (w2.setCell ⟨w.heap.size + 1, 0, none⟩ (.bool false))) := by assumption
          go_roundw
          case rel => exact ⟨k + 1, false, by omega, by go_num, hid hE.out.1, hE.out.2, HN⟩
          case measure => simp [intOf]; omega
        | true =>
          rw [hro] at HRW
          have HR1 := hid (show (o0 && risesB none es) = (behN (prevN rows k) x.nm && risesB (prevN rows (k + 1)) (es.drop (k + 1))) by rw [HRL.out, hro]; rfl)
          have HE := hid (fun w2 (hb2 : Below W5.drew.heap.size W5.drew w2) (o' : Bool) (hq : (o0 && risesB none es) = (o' && risesB (prevN rows (k + 1)) (es.drop (k + 1)))) => (show w2.cell? ⟨w.heap.size + 1, 0, none⟩ = some (.bool true) ∧ w2.frozen? ⟨w.heap.size + 1, 0, none⟩ = false ∧ w.heap.size + 1 < w2.heap.size ∧
            Hid ((Blk (w2.setCell ⟨w.heap.size + 1, 0, none⟩ (.bool o')) w.heap.size 24 #[.slice (some ad) n c] ∧ Blk (w2.setCell ⟨w.heap.size + 1, 0, none⟩ (.bool o')) (w.heap.size + 1) 4 #[.bool o']) ∧ Below w.heap.size w (w2.setCell ⟨w.heap.size + 1, 0, none⟩ (.bool o'))) from by
            have k3 := K3'.out.drew.under hb2
            exact ⟨k3.cell 0, k3.frozen 0, k3.lt, hid (HG.out o' _ (k3.set_ 0 _) ((But.of_below hb2).undrew.setg 0 _) hq)⟩))
          clear hro
          by_cases hk0 : k = 0
          · have HN := hid (show (o0 && risesB none es) = (true && risesB (prevN rows (k + 1)) (es.drop (k + 1))) by rw [HR1.out, hk0]; rfl)
            have hk0I : ((k : Int) == 0) = true := by simp [hk0]
            clear hk0
            refine wp_region_noPanic ?_
            refine wp_region_held_drew (S := fun _ => True) (by kernel_rfl) trivial (fun hHeld => ?_)
            refine wpAnyH_ready (rs := [0]) (by kernel_rfl) (by simp) ?_
            refine AllReadyH.cons rfl (fun K hK => ?_) AllReadyH.nil
            go_simp
            refine hK.out _ _ trivial (fun hHeld => ?_)
            clear hK K
            try simp only [List.getElem_toArray, List.getElem_cons_succ, List.getElem_cons_zero, Act.put, List.setIfInBounds_toArray, List.set_cons_zero, List.set_cons_succ]
            refine wpAnyH_take (i := 1) (v := ?_) rfl (by kernel_rfl) (by kernel_rfl) (by kernel_rfl) (fun _ _ _ h => h) (Or.inl ⟨by rfl, ?_⟩) (by assumption) ?_
            rotate_left
            · intro W hW
              go_simp
              try rfl
            simp only [List.getElem_toArray, List.getElem_cons_succ, List.getElem_cons_zero, Act.put, List.setIfInBounds_toArray, List.set_cons_zero, List.set_cons_succ]
            refine wpAnyH_ready (rs := [2]) (by kernel_rfl) (by simp) ?_
            refine AllReadyH.cons rfl (fun K hK => ?_) AllReadyH.nil
            go_simp
            refine hK.out _ _ trivial (fun hHeld => ?_)
            clear hK K
            try simp only [List.getElem_toArray, List.getElem_cons_succ, List.getElem_cons_zero, Act.put, List.setIfInBounds_toArray, List.set_cons_zero, List.set_cons_succ]
            refine wpAnyH_ready (rs := [3]) (by kernel_rfl) (by simp) ?_
            refine AllReadyH.cons rfl (fun K hK => ?_) AllReadyH.nil
            go_simp
            refine HRW.out.mono ?_
            rintro e w2 ⟨rfl, hb2⟩
            refine hK.out _ _ trivial (fun hHeld => ?_)
            clear hK K
            try simp only [List.getElem_toArray, List.getElem_cons_succ, List.getElem_cons_zero, Act.put, List.setIfInBounds_toArray, List.set_cons_zero, List.set_cons_succ]
            obtain ⟨x6, y6, z6, hE⟩ := HE.out w2 hb2 true HN.out
            clear d0 d1 d2 d3 d4 d5 d6
            refine wpAnyH_take (i := 4) (v := ?_) rfl (by kernel_rfl) (by kernel_rfl) (by kernel_rfl) (fun _ _ _ h => h) (Or.inl ⟨by rfl, ?_⟩) (by assumption) ?_
            rotate_left
            · intro W hW
              go_simp
              try rfl
            simp only [List.getElem_toArray, List.getElem_cons_succ, List.getElem_cons_zero, Act.put, List.setIfInBounds_toArray, List.set_cons_zero, List.set_cons_succ]
            refine wpAnyH_take (i := 5) (v := ?_) rfl (by kernel_rfl) (by kernel_rfl) (by kernel_rfl) (fun _ _ _ h => h) (Or.inl ⟨by rfl, ?_⟩) (by assumption) ?_
            rotate_left
            · intro W hW
              go_simp
              try rfl
            simp only [List.getElem_toArray, List.getElem_cons_succ, List.getElem_cons_zero, Act.put, List.setIfInBounds_toArray, List.set_cons_zero, List.set_cons_succ]
            refine wpAnyH_take (i := 6) (v := ?_) rfl (by kernel_rfl) (by kernel_rfl) (by kernel_rfl) (fun _ _ _ h => h) (Or.inl ⟨by rfl, ?_⟩) (by assumption) ?_
            rotate_left
            · intro W hW
              go_simp
              try rfl
            simp only [List.getElem_toArray, List.getElem_cons_succ, List.getElem_cons_zero, Act.put, List.setIfInBounds_toArray, List.set_cons_zero, List.set_cons_succ]
            refine wpAnyH_take (i := 7) (v := ?_) rfl (by kernel_rfl) (by kernel_rfl) (by kernel_rfl) (fun _ _ _ h => h) (Or.inl ⟨by rfl, ?_⟩) (by assumption) ?_
            rotate_left
            · intro W hW
              go_simp
              try rfl
            simp only [List.getElem_toArray, List.getElem_cons_succ, List.getElem_cons_zero, Act.put, List.setIfInBounds_toArray, List.set_cons_zero, List.set_cons_succ]
            refine wpAnyH_take (i := 8) (v := ?_) rfl (by kernel_rfl) (by kernel_rfl) (by kernel_rfl) (fun _ _ _ h => h) (Or.inl ⟨by rfl, ?_⟩) (by assumption) ?_
            rotate_left
            · intro W hW
              go_simp
              try rfl
            simp only [List.getElem_toArray, List.getElem_cons_succ, List.getElem_cons_zero, Act.put, List.setIfInBounds_toArray, List.set_cons_zero, List.set_cons_succ]
            refine wpAnyH_take (i := 9) (v := undef) rfl (by kernel_rfl) (by kernel_rfl) (by kernel_rfl) (fun _ _ _ h => h) (Or.inr ⟨by rfl, rfl⟩) (by assumption) ?_
            simp only [List.getElem_toArray, List.getElem_cons_succ, List.getElem_cons_zero, Act.put, List.setIfInBounds_toArray, List.set_cons_zero, List.set_cons_succ]
            refine wpAnyH_take (i := 10) (v := undef) rfl (by kernel_rfl) (by kernel_rfl) (by kernel_rfl) (fun _ _ _ h => h) (Or.inr ⟨by rfl, rfl⟩) (by assumption) ?_
            simp only [List.getElem_toArray, List.getElem_cons_succ, List.getElem_cons_zero, Act.put, List.setIfInBounds_toArray, List.set_cons_zero, List.set_cons_succ]
            refine wpAnyH_take (i := 11) (v := undef) rfl (by kernel_rfl) (by kernel_rfl) (by kernel_rfl) (fun _ _ _ h => h) (Or.inr ⟨by rfl, rfl⟩) (by assumption) ?_
            simp only [List.getElem_toArray, List.getElem_cons_succ, List.getElem_cons_zero, Act.put, List.setIfInBounds_toArray, List.set_cons_zero, List.set_cons_succ]
            refine wpAnyH_take (i := 12) (v := undef) rfl (by kernel_rfl) (by kernel_rfl) (by kernel_rfl) (fun _ _ _ h => h) (Or.inr ⟨by rfl, rfl⟩) (by assumption) ?_
            simp only [List.getElem_toArray, List.getElem_cons_succ, List.getElem_cons_zero, Act.put, List.setIfInBounds_toArray, List.set_cons_zero, List.set_cons_succ]
            refine wpAnyH_take (i := 13) (v := undef) rfl (by kernel_rfl) (by kernel_rfl) (by kernel_rfl) (fun _ _ _ h => h) (Or.inr ⟨by rfl, rfl⟩) (by assumption) ?_
            simp only [List.getElem_toArray, List.getElem_cons_succ, List.getElem_cons_zero, Act.put, List.setIfInBounds_toArray, List.set_cons_zero, List.set_cons_succ]
            refine wpAnyH_take (i := 14) (v := undef) rfl (by kernel_rfl) (by kernel_rfl) (by kernel_rfl) (fun _ _ _ h => h) (Or.inr ⟨by rfl, rfl⟩) (by assumption) ?_
            simp only [List.getElem_toArray, List.getElem_cons_succ, List.getElem_cons_zero, Act.put, List.setIfInBounds_toArray, List.set_cons_zero, List.set_cons_succ]
            refine wpAnyH_take (i := 15) (v := undef) rfl (by kernel_rfl) (by kernel_rfl) (by kernel_rfl) (fun _ _ _ h => h) (Or.inr ⟨by rfl, rfl⟩) (by assumption) ?_
            simp only [List.getElem_toArray, List.getElem_cons_succ, List.getElem_cons_zero, Act.put, List.setIfInBounds_toArray, List.set_cons_zero, List.set_cons_succ]
            refine wpAnyH_take (i := 16) (v := undef) rfl (by kernel_rfl) (by kernel_rfl) (by kernel_rfl) (fun _ _ _ h => h) (Or.inr ⟨by rfl, rfl⟩) (by assumption) ?_
            simp only [List.getElem_toArray, List.getElem_cons_succ, List.getElem_cons_zero, Act.put, List.setIfInBounds_toArray, List.set_cons_zero, List.set_cons_succ]
            refine wpAnyH_take (i := 17) (v := undef) rfl (by kernel_rfl) (by kernel_rfl) (by kernel_rfl) (fun _ _ _ h => h) (Or.inr ⟨by rfl, rfl⟩) (by assumption) ?_
            simp only [List.getElem_toArray, List.getElem_cons_succ, List.getElem_cons_zero, Act.put, List.setIfInBounds_toArray, List.set_cons_zero, List.set_cons_succ]
            refine wpAnyH_take (i := 18) (v := undef) rfl (by kernel_rfl) (by kernel_rfl) (by kernel_rfl) (fun _ _ _ h => h) (Or.inr ⟨by rfl, rfl⟩) (by assumption) ?_
            simp only [List.getElem_toArray, List.getElem_cons_succ, List.getElem_cons_zero, Act.put, List.setIfInBounds_toArray, List.set_cons_zero, List.set_cons_succ]
            refine wpAnyH_take (i := 19) (v := ?_) rfl (by kernel_rfl) (by kernel_rfl) (by kernel_rfl) (fun _ _ _ h => h) (Or.inl ⟨by rfl, ?_⟩) (by assumption) ?_
            rotate_left
            · intro W hW
              go_simp
              try rfl
            simp only [List.getElem_toArray, List.getElem_cons_succ, List.getElem_cons_zero, Act.put, List.setIfInBounds_toArray, List.set_cons_zero, List.set_cons_succ]
            refine wpAnyH_take (i := 20) (v := ?_) rfl (by kernel_rfl) (by kernel_rfl) (by kernel_rfl) (fun _ _ _ h => h) (Or.inl ⟨by rfl, ?_⟩) (by assumption) ?_
            rotate_left
            · intro W hW
              go_simp
              try rfl
            simp only [List.getElem_toArray, List.getElem_cons_succ, List.getElem_cons_zero, Act.put, List.setIfInBounds_toArray, List.set_cons_zero, List.set_cons_succ]
            refine wpAnyH_ready (rs := [21]) (by kernel_rfl) (by simp) ?_
            refine AllReadyH.cons rfl (fun K hK => ?_) AllReadyH.nil
            go_simp
            refine hK.out _ _ trivial (fun hHeld => ?_)
            clear hK K
            try simp only [List.getElem_toArray, List.getElem_cons_succ, List.getElem_cons_zero, Act.put, List.setIfInBounds_toArray, List.set_cons_zero, List.set_cons_succ]
            refine wpAnyH_done (by kernel_rfl) ?_ _
            refine NoPanic.normal ?_
            clear x6 y6 z6
            go_wp2_with fail
            have hE : Hid ((Blk (w2.setCell ⟨w.heap.size + 1, 0, none⟩ (.bool true)) w.heap.size 24 #[.slice (some ad) n c] ∧ Blk (w2.setCell ⟨w.heap.size + 1, 0, none⟩ (.bool true)) (w.heap.size + 1) 4 #[.bool true]) ∧ Below w.heap.size w (w2.setCell ⟨w.heap.size + 1, 0, none⟩ (.bool true))) := by assumption
            go_roundw
            case rel => exact ⟨k + 1, true, by omega, by go_num, hid hE.out.1, hE.out.2, HN⟩
            case measure => simp [intOf]; omega
          · obtain ⟨j, hj⟩ : ∃ j, k = j + 1 := ⟨k - 1, by omega⟩
            have hk0I : ((k : Int) == 0) = false := by simp; omega
            have hjw : IntKind.i64.wrap ((k : Int) - 1) = (j : Int) := by rw [IntKind.wrap_i64]; omega
            have hj0 : (0 : Int) ≤ (j : Int) := by omega
            have hjn : (j : Int) < (n : Int) := by omega
            have HPR := hid (HPRE.out j hj)
            obtain ⟨pn, hpn, hp0⟩ := HPR.out W5 HB5.out
            have HS := hid (fun W (hb : But (w.heap.size + 1) W5 W) => (show W.cell? ⟨w.heap.size, 0, none⟩ = some (.slice (some ad) n c) ∧ W.cell? ⟨wr.heap.size, 0, none⟩ = some (.string x.nm) ∧ W.cell? (ad.add (j * 7)) = some (.string pn) from ⟨(K1'.out.but hb (by omega)).cell 0, (KC.out.but hb (by omega)).cell 0, hb.cellp hp0 (by rw [block_of_add]; omega)⟩))
            have HN := hid (show (o0 && risesB none es) = (nmLt pn x.nm && risesB (prevN rows (k + 1)) (es.drop (k + 1))) by rw [HR1.out, hpn]; rfl)
            obtain ⟨lt, hlt2⟩ : ∃ lt, lt = nmLt pn x.nm := ⟨_, rfl⟩
            rw [← hlt2] at HN
            have hlt3 : Op.bytesLess pn.toList x.nm.toList = lt := hlt2.symm
            clear hk0 hpn hp0 hlt2 HPRE HPR hj
            refine wp_region_noPanic ?_
            refine wp_region_held_drew (S := fun W => W.cell? ⟨w.heap.size, 0, none⟩ = some (.slice (some ad) n c) ∧ W.cell? ⟨wr.heap.size, 0, none⟩ = some (.string x.nm) ∧ W.cell? (ad.add (j * 7)) = some (.string pn)) (by kernel_rfl) (HS.out _ (But.refl _ _).drew) (fun hHeld => ?_)
            refine wpAnyH_ready (rs := [0]) (by kernel_rfl) (by simp) ?_
            refine AllReadyH.cons rfl (fun K hK => ?_) AllReadyH.nil
            go_simp
            refine hK.out _ _ (HS.out _ (But.refl _ _).drew) (fun hHeld => ?_)
            clear hK K
            try simp only [List.getElem_toArray, List.getElem_cons_succ, List.getElem_cons_zero, Act.put, List.setIfInBounds_toArray, List.set_cons_zero, List.set_cons_succ]
            refine wpAnyH_take (i := 1) (v := ?_) rfl (by kernel_rfl) (by kernel_rfl) (by kernel_rfl) (fun _ _ _ h => h) (Or.inl ⟨by rfl, ?_⟩) (by assumption) ?_
            rotate_left
            · intro W hW
              go_simp
              try rfl
            simp only [List.getElem_toArray, List.getElem_cons_succ, List.getElem_cons_zero, Act.put, List.setIfInBounds_toArray, List.set_cons_zero, List.set_cons_succ]
            refine wpAnyH_ready (rs := [2]) (by kernel_rfl) (by simp) ?_
            refine AllReadyH.cons rfl (fun K hK => ?_) AllReadyH.nil
            go_simp
            refine hK.out _ _ (HS.out _ (But.refl _ _).drew) (fun hHeld => ?_)
            clear hK K
            try simp only [List.getElem_toArray, List.getElem_cons_succ, List.getElem_cons_zero, Act.put, List.setIfInBounds_toArray, List.set_cons_zero, List.set_cons_succ]
            refine wpAnyH_ready (rs := [3]) (by kernel_rfl) (by simp) ?_
            refine AllReadyH.cons rfl (fun K hK => ?_) AllReadyH.nil
            go_simp
            refine HRW.out.mono ?_
            rintro e w2 ⟨rfl, hb2⟩
            refine hK.out _ _ (HS.out _ (But.of_below hb2).undrew) (fun hHeld => ?_)
            clear hK K
            try simp only [List.getElem_toArray, List.getElem_cons_succ, List.getElem_cons_zero, Act.put, List.setIfInBounds_toArray, List.set_cons_zero, List.set_cons_succ]
            obtain ⟨x6, y6, z6, hE⟩ := HE.out w2 hb2 lt HN.out
            clear d0 d1 d2 d3 d4 d5 d6
            refine wpAnyH_take (i := 4) (v := ?_) rfl (by kernel_rfl) (by kernel_rfl) (by kernel_rfl) (fun _ _ _ h => h) (Or.inl ⟨by rfl, ?_⟩) (by assumption) ?_
            rotate_left
            · intro W hW
              go_simp
              try rfl
            simp only [List.getElem_toArray, List.getElem_cons_succ, List.getElem_cons_zero, Act.put, List.setIfInBounds_toArray, List.set_cons_zero, List.set_cons_succ]
            refine wpAnyH_take (i := 5) (v := ?_) rfl (by kernel_rfl) (by kernel_rfl) (by kernel_rfl) (fun _ _ _ h => h) (Or.inl ⟨by rfl, ?_⟩) (by assumption) ?_
            rotate_left
            · intro W hW
              go_simp
              try rfl
            simp only [List.getElem_toArray, List.getElem_cons_succ, List.getElem_cons_zero, Act.put, List.setIfInBounds_toArray, List.set_cons_zero, List.set_cons_succ]
            refine wpAnyH_take (i := 6) (v := ?_) rfl (by kernel_rfl) (by kernel_rfl) (by kernel_rfl) (fun _ _ _ h => h) (Or.inl ⟨by rfl, ?_⟩) (by assumption) ?_
            rotate_left
            · intro W hW
              go_simp
              try rfl
            simp only [List.getElem_toArray, List.getElem_cons_succ, List.getElem_cons_zero, Act.put, List.setIfInBounds_toArray, List.set_cons_zero, List.set_cons_succ]
            refine wpAnyH_take (i := 7) (v := ?_) rfl (by kernel_rfl) (by kernel_rfl) (by kernel_rfl) (fun _ _ _ h => h) (Or.inl ⟨by rfl, ?_⟩) (by assumption) ?_
            rotate_left
            · intro W hW
              go_simp
              try rfl
            simp only [List.getElem_toArray, List.getElem_cons_succ, List.getElem_cons_zero, Act.put, List.setIfInBounds_toArray, List.set_cons_zero, List.set_cons_succ]
            refine wpAnyH_take (i := 8) (v := ?_) rfl (by kernel_rfl) (by kernel_rfl) (by kernel_rfl) (fun _ _ _ h => h) (Or.inl ⟨by rfl, ?_⟩) (by assumption) ?_
            rotate_left
            · intro W hW
              go_simp
              try rfl
            simp only [List.getElem_toArray, List.getElem_cons_succ, List.getElem_cons_zero, Act.put, List.setIfInBounds_toArray, List.set_cons_zero, List.set_cons_succ]
            refine wpAnyH_take (i := 9) (v := ?_) rfl (by kernel_rfl) (by kernel_rfl) (by kernel_rfl) (fun _ _ _ h => h) (Or.inl ⟨by rfl, ?_⟩) (by assumption) ?_
            rotate_left
            · intro W hW
              go_simp
              try rfl
            simp only [List.getElem_toArray, List.getElem_cons_succ, List.getElem_cons_zero, Act.put, List.setIfInBounds_toArray, List.set_cons_zero, List.set_cons_succ]
            refine wpAnyH_take (i := 10) (v := ?_) rfl (by kernel_rfl) (by kernel_rfl) (by kernel_rfl) (fun _ _ _ h => h) (Or.inl ⟨by rfl, ?_⟩) (by assumption) ?_
            rotate_left
            · intro W hW
              go_simp
              try rfl
            simp only [List.getElem_toArray, List.getElem_cons_succ, List.getElem_cons_zero, Act.put, List.setIfInBounds_toArray, List.set_cons_zero, List.set_cons_succ]
            refine wpAnyH_take (i := 11) (v := ?_) rfl (by kernel_rfl) (by kernel_rfl) (by kernel_rfl) (fun _ _ _ h => h) (Or.inl ⟨by rfl, ?_⟩) (by assumption) ?_
            rotate_left
            · intro W hW
              go_simp
              try rfl
            simp only [List.getElem_toArray, List.getElem_cons_succ, List.getElem_cons_zero, Act.put, List.setIfInBounds_toArray, List.set_cons_zero, List.set_cons_succ]
            refine wpAnyH_take (i := 12) (v := ?_) rfl (by kernel_rfl) (by kernel_rfl) (by kernel_rfl) (fun _ _ _ h => h) (Or.inl ⟨by rfl, ?_⟩) (by assumption) ?_
            rotate_left
            · intro W hW
              go_simp
              try rfl
            simp only [List.getElem_toArray, List.getElem_cons_succ, List.getElem_cons_zero, Act.put, List.setIfInBounds_toArray, List.set_cons_zero, List.set_cons_succ]
            refine wpAnyH_take (i := 13) (v := ?_) rfl (by kernel_rfl) (by kernel_rfl) (by kernel_rfl) (fun _ _ _ h => h) (Or.inl ⟨by rfl, ?_⟩) (by assumption) ?_
            rotate_left
            · intro W hW
              go_simp
              try rfl
            simp only [List.getElem_toArray, List.getElem_cons_succ, List.getElem_cons_zero, Act.put, List.setIfInBounds_toArray, List.set_cons_zero, List.set_cons_succ]
            refine wpAnyH_take (i := 14) (v := ?_) rfl (by kernel_rfl) (by kernel_rfl) (by kernel_rfl) (fun _ _ _ h => h) (Or.inl ⟨by rfl, ?_⟩) (by assumption) ?_
            rotate_left
            · intro W hW
              go_simp
              try rfl
            simp only [List.getElem_toArray, List.getElem_cons_succ, List.getElem_cons_zero, Act.put, List.setIfInBounds_toArray, List.set_cons_zero, List.set_cons_succ]
            refine wpAnyH_take (i := 15) (v := ?_) rfl (by kernel_rfl) (by kernel_rfl) (by kernel_rfl) (fun _ _ _ h => h) (Or.inl ⟨by rfl, ?_⟩) (by assumption) ?_
            rotate_left
            · intro W hW
              go_simp
              try rfl
            simp only [List.getElem_toArray, List.getElem_cons_succ, List.getElem_cons_zero, Act.put, List.setIfInBounds_toArray, List.set_cons_zero, List.set_cons_succ]
            refine wpAnyH_take (i := 16) (v := ?_) rfl (by kernel_rfl) (by kernel_rfl) (by kernel_rfl) (fun _ _ _ h => h) (Or.inl ⟨by rfl, ?_⟩) (by assumption) ?_
            rotate_left
            · intro W hW
              go_simp
              try rfl
            simp only [List.getElem_toArray, List.getElem_cons_succ, List.getElem_cons_zero, Act.put, List.setIfInBounds_toArray, List.set_cons_zero, List.set_cons_succ]
            refine wpAnyH_take (i := 17) (v := ?_) rfl (by kernel_rfl) (by kernel_rfl) (by kernel_rfl) (fun _ _ _ h => h) (Or.inl ⟨by rfl, ?_⟩) (by assumption) ?_
            rotate_left
            · intro W hW
              go_simp
              try rfl
            simp only [List.getElem_toArray, List.getElem_cons_succ, List.getElem_cons_zero, Act.put, List.setIfInBounds_toArray, List.set_cons_zero, List.set_cons_succ]
            refine wpAnyH_take (i := 18) (v := ?_) rfl (by kernel_rfl) (by kernel_rfl) (by kernel_rfl) (fun _ _ _ h => h) (Or.inl ⟨by rfl, ?_⟩) (by assumption) ?_
            rotate_left
            · intro W hW
              go_simp
              try rfl
            simp only [List.getElem_toArray, List.getElem_cons_succ, List.getElem_cons_zero, Act.put, List.setIfInBounds_toArray, List.set_cons_zero, List.set_cons_succ]
            refine wpAnyH_take (i := 19) (v := ?_) rfl (by kernel_rfl) (by kernel_rfl) (by kernel_rfl) (fun _ _ _ h => h) (Or.inl ⟨by rfl, ?_⟩) (by assumption) ?_
            rotate_left
            · intro W hW
              go_simp
              try rfl
            simp only [List.getElem_toArray, List.getElem_cons_succ, List.getElem_cons_zero, Act.put, List.setIfInBounds_toArray, List.set_cons_zero, List.set_cons_succ]
            refine wpAnyH_take (i := 20) (v := ?_) rfl (by kernel_rfl) (by kernel_rfl) (by kernel_rfl) (fun _ _ _ h => h) (Or.inl ⟨by rfl, ?_⟩) (by assumption) ?_
            rotate_left
            · intro W hW
              go_simp
              try rfl
            simp only [List.getElem_toArray, List.getElem_cons_succ, List.getElem_cons_zero, Act.put, List.setIfInBounds_toArray, List.set_cons_zero, List.set_cons_succ]
            refine wpAnyH_ready (rs := [21]) (by kernel_rfl) (by simp) ?_
            refine AllReadyH.cons rfl (fun K hK => ?_) AllReadyH.nil
            go_simp
            refine hK.out _ _ (HS.out _ ((But.of_below hb2).undrew.setg 0 _)) (fun hHeld => ?_)
            clear hK K
            try simp only [List.getElem_toArray, List.getElem_cons_succ, List.getElem_cons_zero, Act.put, List.setIfInBounds_toArray, List.set_cons_zero, List.set_cons_succ]
            refine wpAnyH_done (by kernel_rfl) ?_ _
            refine NoPanic.normal ?_
            clear x6 y6 z6
            go_wp2_with fail
            have hE : Hid ((Blk (w2.setCell ⟨w.heap.size + 1, 0, none⟩ (.bool lt)) w.heap.size 24 #[.slice (some ad) n c] ∧ Blk (w2.setCell ⟨w.heap.size + 1, 0, none⟩ (.bool lt)) (w.heap.size + 1) 4 #[.bool lt]) ∧ Below w.heap.size w (w2.setCell ⟨w.heap.size + 1, 0, none⟩ (.bool lt))) := by assumption
            go_roundw
            case rel => exact ⟨k + 1, lt, by omega, by go_num, hid hE.out.1, hE.out.2, HN⟩
            case measure => simp [intOf]; omega
    · obtain rfl : k = n := by omega
      have hsk : es.length = k := by rw [HES.out, List.length_map, HLN.out]
      have HRX := hid (show (o0 && risesB none es) = o by
        rw [hrl.out, List.drop_of_length_le (Nat.le_of_eq hsk)]
        cases o <;> rfl)
      obtain ⟨kb1, kb2⟩ := hkk.out
      have hmk : ∀ (t : TypeId) (w : World), (Instr.makeMap t none).run Try.prog w = .ok (.map (some w.heap.size)) (w.alloc (.map #[] 0)) := fun _ _ => rfl
      obtain ⟨oM, hoM⟩ : ∃ oM, oM = Obj.cells #[.map (some wr.heap.size)] 72 := ⟨_, rfl⟩
      obtain ⟨oB, hoB⟩ : ∃ oB, oB = Obj.cells #[.slice A k c] 24 := ⟨_, rfl⟩
      obtain ⟨W0, hW0⟩ : ∃ W0, W0 = ((wr.alloc (.map #[] 0)).alloc oM).alloc oB := ⟨_, rfl⟩
      have hsz : w.heap.size + 1 < wr.heap.size := kb2.lt
      have q1 : Blk W0 w.heap.size 24 #[.slice A k c] := by rw [hW0]; exact ((kb1.alloc _).alloc _).alloc _
      have q2 : Blk W0 (w.heap.size + 1) 4 #[.bool o] := by rw [hW0]; exact ((kb2.alloc _).alloc _).alloc _
      have q3 : MetAt W0 wr.heap.size [] := by
        rw [hW0]
        exact (met_new wr).keep (((Below.heap_alloc _ _ _ (by simp; omega))).trans (Below.heap_alloc _ _ _ (by simp)))
      have q4 : Blk W0 (wr.heap.size + 1) 72 #[.map (some wr.heap.size)] := by
        rw [hW0, hoM]; exact (Blk.new_at (g := wr.heap.size + 1) _ _ _ (by simp)).alloc _
      have q5 : Blk W0 (wr.heap.size + 1 + 1) 24 #[.slice A k c] := by
        rw [hW0, hoB]; exact Blk.new_at (g := wr.heap.size + 1 + 1) _ _ _ (by simp)
      have q6 : Below w.heap.size w W0 := by
        rw [hW0]; exact ((hb.alloc hb.size _).alloc (by have := hb.size; simp; omega) _).alloc (by have := hb.size; simp; omega) _
      have q7 : W0.heap.size = wr.heap.size + 3 := by rw [hW0]; simp
      have c1 : wr.cell? ⟨w.heap.size, 0, none⟩ = some (.slice A k c) := kb1.cell 0
      have hs1 : w.heap.size < wr.heap.size := by omega
      have hs2 : w.heap.size < wr.heap.size + 1 := by omega
      have HQ := hid (And.intro q1 (And.intro q2 (And.intro q3 (And.intro q4 (And.intro q5 (And.intro q6 q7))))))
      have HW0 := hid hW0
      clear q1 q2 q3 q4 q5 q6 q7 hW0 hrl hkk kb1 kb2 hsk hb hlt
      subst hoM
      subst hoB
      go_wp2_with fail
      refine (entries_c _ _ _ _).mono ?_
      rintro e w' ⟨rfl, rfl⟩
      go_wp2_with fail
      rw [← HW0.out]
      obtain ⟨wa, rfl⟩ : ∃ wa : World, wa = wr := ⟨_, rfl⟩
      obtain ⟨q1, q2, q3, q4, q5, q6, q7⟩ := HQ.out
      have hsw : w.heap.size ≤ W0.heap.size := q6.size
      clear c1 HW0
      refine wpIn_wide.1 (wpIn_rangeFunc_ownH (n := 9) (F := Fence.wide) rfl (by omega) (gf := 79) (lb := #[.pointer (some ⟨wa.heap.size + 1 + 1, 0, none⟩)]) rfl trivial enters_es
        (es_stops 8 (wa.heap.size + 1 + 1) A k c rows w HM.out W0 q6 q5) belowK_t (belowK_b hsw) (Below.refl _ _) (fun _ => rfl)
        (fun pre W => ((∃ o', Blk W (w.heap.size + 1) 4 #[.bool o'] ∧ Hid (o' = (o && freshB (pgsA (unS pre)) []))) ∧ (Blk W (wa.heap.size + 1) 72 #[.map (some wa.heap.size)] ∧ MetAt W wa.heap.size (pgsA (unS pre)).reverse)) ∧ Below w.heap.size w W)
        (fun _ _ _ => False) ?own (fun _ _ _ _ _ hs _ _ => hs) ⟨⟨⟨o, q2, hid (by simp [freshB, pgsA])⟩, q4, q3⟩, q6⟩
        (fun x a' W => ∃ Bx, wa.heap.size + 1 < Bx ∧ Blk W Bx 45 #[.int .i64 x.1.1.fs, .int .i64 x.1.1.ls, .int .i64 x.1.1.ct, .slice x.1.2.1 x.1.1.ps.length x.1.2.2, .int .i64 x.1.1.by_] ∧ a' = { tmps := #[.agg #[.slice A k c], .pointer (some ⟨w.heap.size, 0, none⟩), .int .i64 0, .pointer (some ⟨w.heap.size + 1, 0, none⟩), u4, u5, .pointer (some ⟨wa.heap.size + 1, 0, none⟩), .pointer (some ⟨Bx, 0, none⟩), undef, undef, .pointer (some ⟨w.heap.size, 0, none⟩), .slice A k c, .int .i64 (k : Nat), .bool o0, .pointer (some ⟨w.heap.size, 0, none⟩), .slice A k c, .int .i64 (k : Nat), .int .i64 (k : Nat), .bool false, u19, u20, u21, u22, u23, u24, u25, u26, u27, u28, u29, u30, u31, u32, u33, u34, u35, u36, u37, u38, u39, u40, u41, u42, u43, .map (some wa.heap.size), .agg #[.slice A k c], .func (.func 79) #[] #[.pointer (some ⟨wa.heap.size + 1 + 1, 0, none⟩)], .agg #[.int .i64 x.1.1.fs, .int .i64 x.1.1.ls, .int .i64 x.1.1.ct, .slice x.1.2.1 x.1.1.ps.length x.1.2.2, .int .i64 x.1.1.by_], undef, undef, undef, undef, undef, undef, undef, undef, undef, undef, undef, undef, undef, undef, undef, undef, undef, undef, undef, undef, undef], defers := [] })
        ?ax ?assign ?body ?done ?stop)
      case own =>
        refine OwnFrom.and ?_ (ownFrom_below (Nat.le_refl _) hsw)
        rintro s X Y row ⟨⟨o', b1, b2⟩, b3, b4⟩ hg hr
        have hlo : ∀ j, j < wa.heap.size + 2 → j < X.heap.size → Y.heap[j]? = X.heap[j]? := fun j hj hjx => hg.block j hjx (fun e => by
          have := (hr j e.symm).1
          omega)
        exact ⟨⟨o', (hlo _ (by omega) b1.lt).trans b1, b2⟩, (hlo _ (by omega) b3.lt).trans b3, b4.keep (hlo _ (by omega) b4.lt)⟩
      case ax =>
        rintro x a' _ X Y row ⟨Bx, h1, h2, h3⟩ hg hr
        refine ⟨Bx, h1, (hg.block Bx h2.lt (fun e => ?_)).trans h2, h3⟩
        obtain ⟨_, ob, hob, hoc⟩ := hr Bx e.symm
        rw [show X.heap[Bx]? = _ from h2] at hob
        cases hob
        cases hoc
      case assign =>
        rintro l pre x W K ⟨⟨⟨o', b1, b2⟩, b3, b4⟩, b5⟩ hK
        gi_wp2
        exact hK _ _ ((KeepsOthers.alloc _ _).from _) ((Below.refl _ W).alloc b5.size _) ⟨⟨⟨o', b1.alloc _, b2⟩, b3.alloc _, b4.keep (Below.heap_alloc _ _ _ b4.lt)⟩, b5.alloc b5.size _⟩ ⟨W.heap.size, b3.lt, Blk.new W _ _, rfl⟩
      case body =>
        rintro l pre x a' W hl ⟨rr, hrr⟩ ⟨⟨⟨o', b1, b2⟩, b3, b4⟩, b5⟩ ⟨Bx, hBx, bX, rfl⟩ hlt
        obtain ⟨⟨⟨fs, ls, ct, by_, ps⟩, pa, pc⟩, ⟨e9, hpr⟩, hps⟩ := x
        simp only at bX hpr hps
        obtain ⟨L0, hL0⟩ : ∃ L0, L0 = (pgsA (unS pre)).reverse := ⟨_, rfl⟩
        rw [← hL0] at b4
        have hL0l : L0.length ≤ 100000000000 := by
          rw [hL0, List.length_reverse]
          have h1 : ∀ l : List (EnS w), (pgsA (unS l)).length ≤ l.length * 100000 := by
            intro l
            induction l with
            | nil => simp [pgsA]
            | cons x l ih =>
              have := x.2.2
              unfold pgsA unS at ih ⊢
              rw [List.map_cons, List.flatMap_cons, List.length_append, List.length_cons]
              omega
          have h2 := h1 pre
          have h3 : (allE rows).length ≤ 800000 := by
            have h4 : ∀ l : List RoA, (∀ x ∈ l, RoIn w x) → (allE l).length ≤ l.length * 50000 := by
              intro l
              induction l with
              | nil => intro _; simp [allE]
              | cons x l ih =>
                intro hh
                have h5 := (hh x List.mem_cons_self).henl
                have h6 := ih (fun y hy => hh y (List.mem_cons_of_mem _ hy))
                unfold allE at h6 ⊢
                rw [List.flatMap_cons, List.length_append, List.length_cons]
                omega
            have h7 := h4 rows HM.out.each
            rw [HLN.out] at h7
            omega
          omega
        have HFR := hid (show o' = (o && freshB (pgsA (unS pre)) []) from b2.out)
        have HNEW := hid (show pgsA (unS (pre ++ [(⟨(⟨fs, ls, ct, by_, ps⟩, pa, pc), ⟨⟨e9, hpr⟩, hps⟩⟩ : EnS w)])) = pgsA (unS pre) ++ ps by simp [unS, pgsA])
        have HL0 := hid hL0
        have HPR := hid hpr
        have HB5 := hid b5
        have cX : W.cell? ⟨Bx, 3, none⟩ = some (.slice pa ps.length pc) := bX.cell 3
        have hz : ∀ w, (zeroValue 3).run Try.prog w = .ok (.int .i64 0) w := fun w => by kernel_rfl
        have HST := hid (And.intro b1 (And.intro b3 b4))
        clear hL0 b5 b2 bX b1 b3 b4
        gi_wp2
        gi_loopw [51] (fun u wr => ∃ (j : Nat) (o2 : Bool), j ≤ ps.length ∧ u = .int .i64 (j : Nat) ∧ Hid ((Blk wr (w.heap.size + 1) 4 #[.bool o2] ∧ Blk wr (wa.heap.size + 1) 72 #[.map (some wa.heap.size)] ∧ MetAt wr wa.heap.size ((ps.take j).reverse ++ L0)) ∧ o2 = (o' && freshB (ps.take j) L0)) ∧ Hid (Below w.heap.size W wr ∧ KeepsFrom W0.heap.size W wr)) (fun u _ => ps.length - (intOf u).toNat)
        case atStart => exact ⟨0, o', Nat.zero_le _, rfl, hid ⟨HST.out, by simp [freshB]⟩, hid ⟨Below.refl _ _, KeepsFrom.refl _ _⟩⟩
        case round =>
          obtain ⟨j, o2, hj, rfl, hst, hfr⟩ := hrel
          by_cases hjq : j < ps.length
          · obtain ⟨⟨s1, s2, s3⟩, s4⟩ := hst.out
            obtain ⟨ad, u, rfl, hu, cu⟩ := (hpr.below (HB5.out.trans hfr.out.1)).at_ hjq
            rw [List.getElem?_map, List.getElem?_eq_getElem hjq] at hu
            obtain ⟨p, hp⟩ : ∃ p, p = ps[j] := ⟨_, rfl⟩
            rw [← hp] at hu
            cases hu
            have htk : ps.take (j + 1) = ps.take j ++ [p] := by rw [List.take_succ_eq_append_getElem hjq, hp]
            obtain ⟨L, hL⟩ : ∃ L, L = (ps.take j).reverse ++ L0 := ⟨_, rfl⟩
            rw [← hL] at s3
            have hLn : (ps.take (j + 1)).reverse ++ L0 = p :: L := by rw [htk, List.reverse_append, hL]; rfl
            have hfr2 : freshB (ps.take (j + 1)) L0 = (freshB (ps.take j) L0 && decide (p ∉ L)) := by
              rw [htk, freshB_append, ← hL]; simp [freshB]
            have hLl : L.length ≤ 200000000000 := by
              rw [hL, List.length_append, List.length_reverse, List.length_take]; omega
            have hg := met_get (P := Try.prog) (k := p) s3 Try.underlying72 Try.underlying3 (hz wr)
            obtain ⟨w1, hpu, hm1, hb1⟩ := met_put (P := Try.prog) (k := p) s3 Try.underlying72 Try.underlying3
            have hg1 := met_get (P := Try.prog) (k := p) hm1 Try.underlying72 Try.underlying3 (hz w1)
            have hcl : L.count p ≤ 200000000000 := Nat.le_trans List.count_le_length hLl
            have hw : wrap64 ((L.count p : Nat) + 1 : Int) = ((L.count p : Nat) + 1 : Int) := by unfold wrap64; omega
            rw [List.count_cons_self] at hg1
            have hin : (L.count p = 0) ↔ p ∉ L := List.count_eq_zero
            obtain ⟨kk, hkk⟩ : ∃ kk, kk = L.count p := ⟨_, rfl⟩
            rw [← hkk] at hg hpu hg1 hw hcl hin
            have HIN := hid hin
            have k1 := s1.but hb1 (by omega)
            have k2 := s2.but hb1 (by omega)
            have e1 : wr.cell? ⟨wa.heap.size + 1, 0, none⟩ = some (.map (some wa.heap.size)) := s2.cell 0
            have e2 : w1.cell? ⟨wa.heap.size + 1, 0, none⟩ = some (.map (some wa.heap.size)) := k2.cell 0
            have e3 : w1.cell? ⟨w.heap.size + 1, 0, none⟩ = some (.bool o2) := k1.cell 0
            have e4 : w1.frozen? ⟨w.heap.size + 1, 0, none⟩ = false := k1.frozen 0
            have e5 : w.heap.size + 1 < w1.heap.size := k1.lt
            have hji : (j : Int) < (ps.length : Int) := by omega
            have hj0 : (0 : Int) ≤ (j : Int) := by omega
            have hWs := hfr.out.1.size
            have hr0 : wa.heap.size < wr.heap.size := s3.lt
            rw [show ((kk + 1 : Nat) : Int) = (kk : Int) + 1 by omega] at hg1
            have HG := hid hg
            have HG1 := hid hg1
            have HP := hid hpu
            clear hg hg1 hpu
            have HNX := hid (fun (o3 : Bool) (hq : o3 = (o' && (freshB (ps.take j) L0 && decide (p ∉ L)))) => (show (Hid ((Blk (w1.setCell ⟨w.heap.size + 1, 0, none⟩ (.bool o3)) (w.heap.size + 1) 4 #[.bool o3] ∧ Blk (w1.setCell ⟨w.heap.size + 1, 0, none⟩ (.bool o3)) (wa.heap.size + 1) 72 #[.map (some wa.heap.size)] ∧ MetAt (w1.setCell ⟨w.heap.size + 1, 0, none⟩ (.bool o3)) wa.heap.size ((ps.take (j + 1)).reverse ++ L0)) ∧ o3 = (o' && freshB (ps.take (j + 1)) L0)) ∧ Hid (Below w.heap.size W (w1.setCell ⟨w.heap.size + 1, 0, none⟩ (.bool o3)) ∧ KeepsFrom W0.heap.size W (w1.setCell ⟨w.heap.size + 1, 0, none⟩ (.bool o3)))) from
              ⟨hid ⟨⟨k1.set_ 0 _, k2.far (by simp; omega) _, by rw [hLn]; exact hm1.keep (Below.heap_setCell _ _ _ _ (by simp; omega))⟩, by rw [hfr2]; exact hq⟩,
               hid ⟨(But.below hfr.out.1 hb1 (by omega) (by have := HB5.out.size; omega)).setCell (p := ⟨w.heap.size + 1, 0, none⟩) (by simp) _,
                 hfr.out.2.trans (KeepsFrom.trans ⟨hb1.size, fun i o hi ho hoc => (hb1.block i (Array.getElem?_eq_some_iff.1 ho).1 (by omega)).trans ho⟩ ((KeepsOthers.setCell _ _ _).from _))⟩⟩))
            have HS4 := hid s4
            have HL0L := hid hL0l
            clear hcl hL0l
            clear hp htk hL hLn hfr2 hLl hm1 hin hkk k1 k2 s1 s2 s3 s4 hst hfr hb1 hWs
            cases o2 with
            | false =>
              have HN := hid (HNX.out false (cnt_step0 HS4.out))
              gi_wp2_with (first | (gi_at_lookup; refine wpListIn_lookup_run wr (by rfl) (.tmp 55) (.tmp 56) 72 (by rfl) (.map (some wa.heap.size)) (.int .i64 p) _ (by rfl) (by rfl) HG.out ?_) | (gi_at_lookup; refine wpListIn_lookup_run w1 (by rfl) (.tmp 61) (.tmp 62) 72 (by rfl) (.map (some wa.heap.size)) (.int .i64 p) _ (by rfl) (by rfl) HG1.out ?_) | (gi_at_mapUpdate; refine wpListIn_mapUpdate_run wr (by rfl) (.tmp 55) (.tmp 56) (.tmp 58) 72 (by rfl) (.map (some wa.heap.size)) (.int .i64 p) (.int .i64 (kk + 1)) (by rfl) (by rfl) (by simp [Act.eval, hw]) _ HP.out ?_))
              go_roundw
              case rel => exact ⟨j + 1, false, by omega, by go_num, HN.out.1, HN.out.2⟩
              case measure => simp [intOf]; omega
            | true =>
              have HN := hid (HNX.out (((kk : Nat) : Int) + 1 == 1) (by rw [one_iff HIN.out]; exact cnt_step HS4.out))
              gi_wp2_with (first | (gi_at_lookup; refine wpListIn_lookup_run wr (by rfl) (.tmp 55) (.tmp 56) 72 (by rfl) (.map (some wa.heap.size)) (.int .i64 p) _ (by rfl) (by rfl) HG.out ?_) | (gi_at_lookup; refine wpListIn_lookup_run w1 (by rfl) (.tmp 61) (.tmp 62) 72 (by rfl) (.map (some wa.heap.size)) (.int .i64 p) _ (by rfl) (by rfl) HG1.out ?_) | (gi_at_mapUpdate; refine wpListIn_mapUpdate_run wr (by rfl) (.tmp 55) (.tmp 56) (.tmp 58) 72 (by rfl) (.map (some wa.heap.size)) (.int .i64 p) (.int .i64 (kk + 1)) (by rfl) (by rfl) (by simp [Act.eval, hw]) _ HP.out ?_))
              go_roundw
              case rel => exact ⟨j + 1, _, by omega, by go_num, HN.out.1, HN.out.2⟩
              case measure => simp [intOf]; omega
          · have hjl : j = ps.length := by omega
            subst hjl
            have hN := hid (show KeepsFrom W0.heap.size W wr ∧ Below w.heap.size W wr ∧ ((∃ o', Blk wr (w.heap.size + 1) 4 #[.bool o'] ∧ Hid (o' = (o && freshB (pgsA (unS (pre ++ [(⟨(⟨fs, ls, ct, by_, ps⟩, pa, pc), ⟨⟨e9, hpr⟩, hps⟩⟩ : EnS w)]))) []))) ∧ (Blk wr (wa.heap.size + 1) 72 #[.map (some wa.heap.size)] ∧ MetAt wr wa.heap.size (pgsA (unS (pre ++ [(⟨(⟨fs, ls, ct, by_, ps⟩, pa, pc), ⟨⟨e9, hpr⟩, hps⟩⟩ : EnS w)]))).reverse)) ∧ Below w.heap.size w wr by
              obtain ⟨⟨s1, s2, s3⟩, s4⟩ := hst.out
              rw [List.take_of_length_le (Nat.le_refl _)] at s3 s4
              refine ⟨hfr.out.2, hfr.out.1, ⟨⟨o2, s1, hid ?_⟩, s2, ?_⟩, HB5.out.trans hfr.out.1⟩
              · rw [s4, HNEW.out, freshB_append, HFR.out, List.append_nil, ← HL0.out, Bool.and_assoc]
              · rw [HNEW.out, List.reverse_append, ← HL0.out]; exact s3)
            clear hst hfr
            gi_wp2
            exact hN.out
      case done =>
        rintro D ys W hD hys ⟨⟨⟨o', b1, b2⟩, b3, b4⟩, b5⟩ hK
        have cO := b1.cell 0
        have hfin : r = if o' = true then 0 else 320 := by
          rw [HR.out, b2.out, ← HRX.out, hys]
          unfold manE manOk
          have e1 : pgsA (allE rows) = pgsR es := by rw [HES.out]; exact pgsA_allE rows
          rw [e1, HO0.out]
          have e2 : es.length = k := by rw [HES.out, List.length_map, HLN.out]
          rw [e2]
          have e3 : decide (k ≤ 8) = decide ((k : Int) ≤ 8) := decide_eq_decide.2 (by omega)
          rw [e3, Bool.and_assoc]
        have HF := hid hfin
        have HB := hid (b5.trans (belowK_b (w := w) (Nat.le_refl _) W D _ (.deferred none) (by omega) hK rfl rfl))
        clear hfin b1 b2 b3 b4 hys
        cases o' with
        | true =>
          go_wp2
          refine ⟨by simp, .inl ⟨_, _, rfl, run_takeDeferred hK, ?_⟩⟩
          exact ⟨_, results_tmp rfl _ _ _, by rw [HF.out]; rfl, HB.out⟩
        | false =>
          go_wp2
          refine ⟨by simp, .inl ⟨_, _, rfl, run_takeDeferred hK, ?_⟩⟩
          exact ⟨_, results_tmp rfl _ _ _, by rw [HF.out]; rfl, HB.out⟩
      case stop =>
        rintro D cc pre W _ _ hh _
        exact hh.elim
end Go.Proofs.Ytgdnpmjmkcccoaa
