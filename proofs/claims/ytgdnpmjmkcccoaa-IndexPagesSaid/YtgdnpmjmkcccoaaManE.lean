/- Manifest: the bytes: plain, laid, Encode. -/
import Derived.Test.YtgdnpmjmkcccoaaManD
import Derived.Test.YtgdnpmjmkcccoaaVarX
import Derived.Deep.RegionHeld3
namespace Go.Proofs.Ytgdnpmjmkcccoaa
open Go.RowKit Go.Shelf VB
open Go.Lib (hid)
set_option linter.unusedVariables false
set_option linter.unusedSimpArgs false
abbrev vbI (z : Int) : List Nat := vb z.toNat
theorem vbI_len {z : Int} (h : z ≤ 9223372036854775807) : (vbI z).length ≤ 10 := vb_len10 (by omega)
theorem vbs_len : ∀ (l : List Int), (∀ z ∈ l, z ≤ 9223372036854775807) → (l.flatMap vbI).length ≤ 10 * l.length
  | [], _ => by simp
  | x :: l, h => by
    have h1 := vbI_len (h x List.mem_cons_self)
    have h2 := vbs_len l (fun z hz => h z (List.mem_cons_of_mem _ hz))
    rw [List.flatMap_cons, List.length_append, List.length_cons]
    omega
set_option maxRecDepth 100000 in
set_option maxHeartbeats 1000000 in
theorem plainM_c {e1 : TypeId} (A : Option Addr) (n c : Nat) (bs : List Nat) (L : Option Addr) (k cl : Nat) (zs : List Int) (w : World) (hb : Reads w 5 1 A n (bsV bs)) (hz : Reads w e1 1 L k (zs.map (Value.int .i64))) (hk1 : 1 ≤ k) (hk2 : k ≤ 10) (hr : ∀ z ∈ zs, 0 ≤ z ∧ z ≤ 9223372036854775807) (hn : n ≤ 900000) :
    Calls Try.prog 46 #[.slice A n c, .slice L k cl] w (RetB (bs ++ zs.flatMap vbI) w) := by
  have hl : bs.length = n := by have := hb.1; rw [bsV_len] at this; omega
  have hzl := ints_len hz
  subst hl
  have HZ := hid hz
  have HZL := hid hzl
  have HR := hid hr
  have HB0 := hid hb
  clear hb hz hzl hr
  go_enter Try.func46, Try.ntmps46
  go_wp2_with fail
  go_loopw [0, 9] (fun u0 u9 wr => ∃ (i : Nat) (C : Option Addr) (f : Nat) (acc : List Nat), i ≤ k ∧ u9 = .int .i64 (i : Nat) ∧ u0 = .slice C acc.length f ∧ Hid (acc = bs ++ (zs.take i).flatMap vbI) ∧ Reads wr 5 1 C acc.length (bsV acc) ∧ Below w.heap.size w wr ∧ Hid (i = 0 ∨ wr.ownsRow w.heap.size 5 1 (.slice C acc.length f) acc.length (bsV acc))) (fun _ u9 _ => k - (intOf u9).toNat)
  case atStart => exact ⟨0, A, c, bs, Nat.zero_le _, rfl, rfl, hid (by simp), HB0.out, Below.refl _ _, hid (.inl rfl)⟩
  case round =>
    obtain ⟨i, C, f, acc, hi, rfl, rfl, hacc, hrd, hb, hown⟩ := hrel
    by_cases hlt : i < k
    · obtain ⟨ad, rfl, cx⟩ := ints_at (HZ.out.below hb) hlt
      obtain ⟨z, hzq⟩ : ∃ z, z = zs.getD i 0 := ⟨_, rfl⟩
      rw [← hzq] at cx
      have hil : i < zs.length := by rw [HZL.out]; exact hlt
      have hzi : zs[i]? = some z := by rw [hzq, List.getD_eq_getElem?_getD, List.getElem?_eq_getElem hil]; rfl
      have hzr := HR.out z (List.mem_of_getElem? hzi)
      have htk : zs.take (i + 1) = zs.take i ++ [z] := by rw [List.take_succ_eq_append_getElem hil, (List.getElem?_eq_some_iff.1 hzi).2]
      have hal : acc.length ≤ 900000 + 10 * 10 := by
        rw [hacc.out, List.length_append]
        have h1 := vbs_len (zs.take i) (fun z hz => (HR.out z (List.mem_of_mem_take hz)).2)
        rw [List.length_take] at h1
        omega
      have hcv : IntKind.u64.wrap z = ((z.toNat : Nat) : Int) := by rw [IntKind.wrap_u64]; omega
      have HP := hid (PutU_c C acc.length f acc z.toNat wr hrd (by omega) (by omega))
      have HN := hid (show acc ++ vb z.toNat = bs ++ (zs.take (i + 1)).flatMap vbI by rw [htk, List.flatMap_append, ← List.append_assoc, ← hacc.out]; simp)
      have HB := hid hb
      have hltI : (i : Int) < (k : Int) := by omega
      have h0I : (0 : Int) ≤ (i : Int) := by omega
      generalize z.toNat = m at *
      clear hzq hzi hil htk hal hacc hrd hb hown hzr
      go_wp2_with fail
      refine HP.out.mono ?_
      rintro e w2 ⟨C2, f2, rfl, hown2, hb2⟩
      have HX := hid (show Reads w2 5 1 C2 (acc ++ vb m).length (bsV (acc ++ vb m)) ∧ Below w.heap.size w w2 ∧ w2.ownsRow w.heap.size 5 1 (.slice C2 (acc ++ vb m).length f2) (acc ++ vb m).length (bsV (acc ++ vb m)) from ⟨Reads.of_own hown2, HB.out.trans (hb2.mono HB.out.size), own_low hown2 HB.out.size⟩)
      clear hown2 hb2 cx
      generalize acc ++ vb m = acc2 at *
      go_wp2_with fail
      go_roundw
      case rel => exact ⟨i + 1, C2, f2, acc2, by omega, by go_num, rfl, HN, HX.out.1, HX.out.2.1, hid (.inr HX.out.2.2)⟩
      case measure => simp [intOf]; omega
    · obtain rfl : i = k := by omega
      have HF := hid (show RetB (bs ++ zs.flatMap vbI) w (.returned (.slice C acc.length f)) wr by
        have h1 := hacc.out
        rw [List.take_of_length_le (Nat.le_of_eq HZL.out)] at h1
        rw [← h1]
        rcases hown.out with h | h
        · omega
        · exact ⟨C, f, rfl, h, hb⟩)
      clear hacc hrd hb hown
      go_wp2_with fail
      go_ret
      exact HF.out
def nmL (s : ByteArray) : List Nat := s.data.toList.map (·.toNat)
theorem wp_append_str {P : Program} {w : World} {o : Oper} {a : Act} {K : Act → World → Prop} {Q : Exit → Act → World → Prop} (sl x : Operand) (t u : TypeId)
    (ho : o.op = .call { callee := .builtin .append, args := #[sl, x], argTypes := #[t, u] })
    (base : Nat) (e : TypeId) (i : TypeInfo) (ht : P.underlying t = some (.slice e)) (hu : P.underlying u = some .string) (hi : P.info? e = some i) (hz : i.zero = some (.int .u8 0))
    (hsize : i.size = 1) (hby : i.bytes = 1)
    (v : Value) (n : Nat) (xs : List Value) (hs : a.eval sl = v) (hown : w.ownsRow base e 1 v n xs) (s : ByteArray) (hx : a.eval x = .string s)
    (h63 : n + s.size ≤ maxLen) (hbytes : n + s.size ≤ 140737488355328) (hbase : base ≤ w.heap.size)
    (h : ∀ v' w', w'.ownsRow base e 1 v' (n + s.size) (xs ++ Lib.strCells s) → w.grownBy w' v.ownBlock → K (a.put o.dst v') w') : o.wp P a w K Q := by
  obtain ⟨v', w', hr, h2, h3, h4⟩ := Lib.run_append_own_string (P := P) w base t u o.type e i ht hu hi hz hsize hby v n xs hown s h63 hbytes hbase
  unfold Oper.wp execOp
  simp only [ho, resolve, invoke, builtin, Sem.run_bind, Sem.run_pure, Result.andThen_ok, List.map_toArray, List.map_cons, List.map_nil, hs, hx, hr]
  exact h v' w' h2 h3
theorem strCells_nm (s : ByteArray) : Lib.strCells s = bsV (nmL s) := by
  unfold Lib.strCells bsV nmL
  rw [List.map_map]
  rfl
theorem nmL_len (s : ByteArray) : (nmL s).length = s.size := by unfold nmL; rw [List.length_map, Array.length_toList]; rfl
def entB (ah : Int) (x : En) : List Nat := [x.fs - ah, x.ls - x.fs, x.ct, x.by_].flatMap vbI ++ x.ps.flatMap vbI
def ensB : Int → List En → List Nat
  | _, [] => []
  | ah, x :: l => entB ah x ++ ensB x.ls l
def ptB2 (was p : Int × Int) : List Nat := [p.1 - was.1].flatMap vbI ++ vb (fold64 (p.2 - was.2))
def ptsB2 : Int × Int → List (Int × Int) → List Nat
  | _, [] => []
  | was, p :: l => ptB2 was p ++ ptsB2 p l
def rowBy (x : Ro) : List Nat := (x.nm.size :: nmL x.nm) ++ ([x.ep].flatMap vbI ++ (vb (fold64 x.sc) ++ ([x.fl, x.la + 1, ((x.en.length : Nat) : Int)].flatMap vbI ++ (ensB 0 x.en ++ ([((x.op.length : Nat) : Int)].flatMap vbI ++ ptsB2 (0, 0) x.op)))))
abbrev inP (z : Int) : Prop := 0 ≤ z ∧ z ≤ 9223372036854775807
def FitE : Int → List En → Prop
  | _, [] => True
  | ah, x :: l => (inP (x.fs - ah) ∧ inP (x.ls - x.fs) ∧ inP x.ct ∧ inP x.by_ ∧ (∀ p ∈ x.ps, inP p)) ∧ FitE x.ls l
def FitP : Int × Int → List (Int × Int) → Prop
  | _, [] => True
  | was, p :: l => (inP (p.1 - was.1) ∧ (-9223372036854775808 ≤ p.2 - was.2 ∧ p.2 - was.2 ≤ 9223372036854775807)) ∧ FitP p l
structure FitR (x : Ro) : Prop where
  nm : x.nm.size ≤ 12
  ep : inP x.ep
  sc : -9223372036854775808 ≤ x.sc ∧ x.sc ≤ 9223372036854775807
  fl : inP x.fl
  la : inP (x.la + 1)
  en : FitE 0 x.en
  op : FitP (0, 0) x.op
/-- a row of bytes that the call has, from a block on -/
def OwnY (base : Nat) (w : World) (C : Option Addr) (f : Nat) (l : List Nat) : Prop := w.ownsRow base 5 1 (.slice C l.length f) l.length (bsV l)
theorem OwnY.reads {base : Nat} {w : World} {C : Option Addr} {f : Nat} {l : List Nat} (h : OwnY base w C f l) : Reads w 5 1 C l.length (bsV l) := Reads.of_own h
theorem OwnY.low {base b2 : Nat} {w : World} {C : Option Addr} {f : Nat} {l : List Nat} (h : OwnY b2 w C f l) (hb : base ≤ b2) : OwnY base w C f l := own_low h hb
theorem OwnY.below {base : Nat} {w w' : World} {C : Option Addr} {f : Nat} {l : List Nat} (h : OwnY base w C f l) (hb : Below w.heap.size w w') : OwnY base w' C f l := own_below h hb
theorem le_tot {tot a b : List Nat} (h : tot = a ++ b) (hl : tot.length ≤ 800000) : a.length ≤ 800000 := by rw [h, List.length_append] at hl; omega
theorem cells_reads (w : World) (e : TypeId) (cs : List Value) : Reads (w.alloc (.cells cs.toArray e)) e 1 (some ⟨w.heap.size, 0, none⟩) cs.length cs := by
  refine ⟨by simp, fun _ => ⟨_, rfl, ⟨_, _, heap_alloc_new w _⟩, ?_⟩⟩
  intro j u hu
  rw [show (⟨w.heap.size, 0, none⟩ : Addr).add j = ⟨w.heap.size, j, none⟩ by unfold Addr.add; split <;> simp_all]
  rw [cell_of_row _ _ j cs.toArray e (0, 0) (heap_alloc_new w _)]
  simpa using hu
theorem cells_reads_at {g : Nat} (w : World) (e : TypeId) (cs : List Value) (h : g = w.heap.size) : Reads (w.alloc (.cells cs.toArray e)) e 1 (some ⟨g, 0, none⟩) cs.length cs := by rw [h]; exact cells_reads w e cs
def RetL (l : List Nat) (base : Nat) (w : World) (e : Ending) (w' : World) : Prop := ∃ C f, e = .returned (.slice C l.length f) ∧ OwnY base w' C f l ∧ Below base w w'
theorem bsV_one' (l : List Nat) : ∀ u ∈ bsV l, u.oneCell' = true := bsV_one l
set_option maxRecDepth 100000 in
set_option maxHeartbeats 8000000 in
theorem laid_c (w0 : World) (A : Option Addr) (c : Nat) (bs : List Nat) (x : RoA) (w : World) (hin : RoIn w0 x) (hb0 : Below w0.heap.size w0 w) (hown : OwnY w0.heap.size w A c bs) (hfit : FitR x.d) (hlen : (bs ++ rowBy x.d).length ≤ 800000) :
    Calls Try.prog 47 #[.slice A bs.length c, vR x] w (RetL (bs ++ rowBy x.d) w0.heap.size w) := by
  obtain ⟨nm, ep, fl, la, sc, en, ea, ec, op, oa, oc⟩ := x
  obtain ⟨fnm, fep, fsc, ffl, fla, fen, fop⟩ := hfit
  obtain ⟨⟨e1, hen⟩, hens, ⟨e2, hop⟩, h1, h2, h3, h4⟩ := hin
  simp only [RoA.d] at hen hens hop h1 h2 h3 h4 fnm fep fsc ffl fla fen fop
  show Calls _ _ #[.slice A bs.length c, .agg (aR nm ep fl la sc (.slice ea en.length ec) (.slice oa op.length oc))] _ _
  obtain ⟨n, hn⟩ : ∃ n, n = en.length := ⟨_, rfl⟩
  obtain ⟨m, hm⟩ : ∃ m, m = op.length := ⟨_, rfl⟩
  obtain ⟨es, hes⟩ : ∃ es, es = en.map Prod.fst := ⟨_, rfl⟩
  obtain ⟨tot, htot⟩ : ∃ tot, tot = bs ++ rowBy (RoA.d ⟨nm, ep, fl, la, sc, en, ea, ec, op, oa, oc⟩) := ⟨_, rfl⟩
  rw [← htot] at hlen ⊢
  have HTOT := hid (show tot = bs ++ ((nm.size :: nmL nm) ++ ([ep].flatMap vbI ++ (vb (fold64 sc) ++ ([fl, la + 1, ((n : Nat) : Int)].flatMap vbI ++ (ensB 0 es ++ ([((m : Nat) : Int)].flatMap vbI ++ ptsB2 (0, 0) op)))))) by rw [htot, hn, hm, hes]; unfold rowBy RoA.d; simp only [List.length_map])
  rw [← hes] at fen
  have HES := hid (And.intro hes (And.intro hn hm))
  rw [← hn] at hen h1 ⊢
  rw [← hm] at hop h3 ⊢
  have HEN := hid (And.intro hen hens)
  have HOP := hid hop
  have HFE := hid fen
  have HFP := hid fop
  have HLEN := hid hlen
  have KB := hid (Blk.new w 42 (aR nm ep fl la sc (.slice ea n ec) (.slice oa m oc)))
  have HB0 := hid hb0
  have HOWN := hid hown
  obtain ⟨i0, hi0, hz0, hz1, hz2⟩ := info_parts3 byte_info
  have HI := hid (And.intro hi0 (And.intro hz0 (And.intro hz1 hz2)))
  have HNM := hid fnm
  have HNB := hid (show ((nm.size : Nat) : Int) ≤ 12 ∧ IntKind.u8.wrap ((nm.size : Nat) : Int) = ((nm.size : Nat) : Int) by
    refine ⟨by omega, ?_⟩
    rw [IntKind.wrap_u8]; omega)
  clear hen hens hop fen fop hlen hb0 hown htot hes hn hm hi0 hz0 hz1 hz2 h2 h4 fnm
  go_enter Try.func47, Try.ntmps47
  go_upto_region 1 with fail
  have hgl : w0.heap.size ≤ w.heap.size := HB0.out.size
  have HB0s := hgl
  obtain ⟨wb, hwb⟩ : ∃ wb, wb = w.alloc (.cells (aR nm ep fl la sc (.slice ea n ec) (.slice oa m oc)) 42) := ⟨_, rfl⟩
  have hkb : Blk wb w.heap.size 42 (aR nm ep fl la sc (.slice ea n ec) (.slice oa m oc)) := by rw [hwb]; exact KB.out
  have hob : OwnY w0.heap.size wb A c bs := by rw [hwb]; exact HOWN.out.alloc _
  have hbb : Below w0.heap.size w wb := by rw [hwb]; exact (Below.refl _ _).alloc hgl _
  have hgn : ∀ q, (Value.slice A bs.length c).ownBlock = some q → w0.heap.size ≤ q ∧ q < w.heap.size := fun q hq => HOWN.out.lt q hq
  rw [← hwb]
  have hgw : w.heap.size < wb.heap.size := hkb.lt
  have HH := hid (And.intro hkb (And.intro hob (And.intro hbb (And.intro hgn hgw))))
  clear hkb hob hbb hgn hwb KB HOWN
  have hs0 : w0.heap.size ≤ wb.heap.size := by omega
  have x6 : wb.drew.cell? ⟨w.heap.size, 0, none⟩ = some (.string nm) := HH.out.1.cell 0
  refine wp_region_noPanic ?_
  refine wp_region_held_drew (S := fun W => W.cell? ⟨w.heap.size, 0, none⟩ = some (.string nm)) (by kernel_rfl) x6 (fun hHeld => ?_)
  clear x6
  refine wpAnyH_take (i := 0) (v := ?_) rfl (by kernel_rfl) (by kernel_rfl) (by kernel_rfl) (fun _ _ _ h => h) (Or.inl ⟨by rfl, ?_⟩) (by assumption) ?_
  rotate_left
  · intro W hW
    go_simp
    try rfl
  simp only [List.getElem_toArray, List.getElem_cons_zero, Act.put, List.setIfInBounds_toArray, List.set_cons_zero, List.set_cons_succ]
  refine wpAnyH_take (i := 1) (v := ?_) rfl (by kernel_rfl) (by kernel_rfl) (by kernel_rfl) (fun _ _ _ h => h) (Or.inl ⟨by rfl, ?_⟩) (by assumption) ?_
  rotate_left
  · intro W hW
    go_simp
    try rfl
  simp only [List.getElem_toArray, List.getElem_cons_succ, List.getElem_cons_zero, Act.put, List.setIfInBounds_toArray, List.set_cons_zero, List.set_cons_succ]
  refine wpAnyH_take (i := 2) (v := ?_) rfl (by kernel_rfl) (by kernel_rfl) (by kernel_rfl) (fun _ _ _ h => h) (Or.inl ⟨by rfl, ?_⟩) (by assumption) ?_
  rotate_left
  · intro W hW
    go_simp
    try rfl
  simp only [List.getElem_toArray, List.getElem_cons_succ, List.getElem_cons_zero, Act.put, List.setIfInBounds_toArray, List.set_cons_zero, List.set_cons_succ]
  refine wpAnyH_take (i := 3) (v := ?_) rfl (by kernel_rfl) (by kernel_rfl) (by kernel_rfl) (fun _ _ _ h => h) (Or.inl ⟨by rfl, ?_⟩) (by assumption) ?_
  rotate_left
  · intro W hW
    go_simp
    try rfl
  simp only [List.getElem_toArray, List.getElem_cons_succ, List.getElem_cons_zero, Act.put, List.setIfInBounds_toArray, List.set_cons_zero, List.set_cons_succ]
  refine wpAnyH_take (i := 4) (v := ?_) rfl (by kernel_rfl) (by kernel_rfl) (by kernel_rfl) (fun _ _ _ h => h) (Or.inl ⟨by rfl, ?_⟩) (by assumption) ?_
  rotate_left
  · intro W hW
    go_simp
    try rfl
  simp only [List.getElem_toArray, List.getElem_cons_succ, List.getElem_cons_zero, Act.put, List.setIfInBounds_toArray, List.set_cons_zero, List.set_cons_succ]
  refine wpAnyH_take (i := 7) (v := ?_) rfl (by kernel_rfl) (by kernel_rfl) (by kernel_rfl) (fun _ _ _ h => h) (Or.inl ⟨by rfl, ?_⟩) (by assumption) ?_
  rotate_left
  · intro W hW
    go_simp
    try rfl
  simp only [List.getElem_toArray, List.getElem_cons_succ, List.getElem_cons_zero, Act.put, List.setIfInBounds_toArray, List.set_cons_zero, List.set_cons_succ]
  refine wpAnyH_take (i := 8) (v := ?_) rfl (by kernel_rfl) (by kernel_rfl) (by kernel_rfl) (fun _ _ _ h => h) (Or.inl ⟨by rfl, ?_⟩) (by assumption) ?_
  rotate_left
  · intro W hW
    go_simp
    try rfl
  simp only [List.getElem_toArray, List.getElem_cons_succ, List.getElem_cons_zero, Act.put, List.setIfInBounds_toArray, List.set_cons_zero, List.set_cons_succ]
  refine wpAnyH_ready (rs := [5]) (by kernel_rfl) (by simp) ?_
  refine AllReadyH.cons rfl (fun K hK => ?_) AllReadyH.nil
  go_simp
  refine hK.out _ _ ((HH.out.1.drew.alloc _).cell 0) (fun hHeld => ?_)
  clear hK K
  try simp only [List.getElem_toArray, List.getElem_cons_succ, List.getElem_cons_zero, Act.put, List.setIfInBounds_toArray, List.set_cons_zero, List.set_cons_succ]
  refine wpAnyH_ready (rs := [6]) (by kernel_rfl) (by simp) ?_
  refine AllReadyH.cons rfl (fun K hK => ?_) AllReadyH.nil
  rw [if_pos (by rfl)]
  rw [HNB.out.2]
  have hnw : Reads (wb.alloc (.cells #[.int .u8 (nm.size : Nat)] 5)).drew 5 1 (some ⟨wb.heap.size, 0, none⟩) 1 [.int .u8 (nm.size : Nat)] := one_reads wb 5 _
  have hbl : bs.length ≤ 800000 := by have := HLEN.out; rw [HTOT.out, List.length_append] at this; omega
  refine wp_append_any _ (.tmp 13) (.tmp 18) 31 rfl w0.heap.size 5 i0 (.int .u8 0) 1 1 Try.underlying31 HI.out.1 HI.out.2.1 HI.out.2.2.1 HI.out.2.2.2 rfl (by decide) _ bs.length (bsV bs) rfl ((HH.out.2.1.alloc (.cells #[.int .u8 (nm.size : Nat)] 5)).drew) (some ⟨wb.heap.size, 0, none⟩) 1 1 [.int .u8 (nm.size : Nat)] rfl hnw (by simp [Value.oneCell']) (by simp only [maxLen]; omega) (by omega) (by simp; omega) ?_
  intro v' w5 hown' hg' hv'
  obtain ⟨C1, f1, rfl, _, _⟩ := own_form hown'
  have hk5 : Blk w5 w.heap.size 42 (aR nm ep fl la sc (.slice ea n ec) (.slice oa m oc)) := (HH.out.1.alloc (.cells #[.int .u8 (nm.size : Nat)] 5)).drew.grown hg' (fun e => by have := HH.out.2.2.2.1 _ e.symm; omega)
  have hb5 : Below w0.heap.size w w5 := by
    have h1 : Below w0.heap.size w (wb.alloc (.cells #[.int .u8 (nm.size : Nat)] 5)).drew := (HH.out.2.2.1.alloc hs0 _).drew
    exact h1.grown hg' (by simp; omega) (fun k hk => (HH.out.2.2.2.1 k hk).1)
  have hC1 : ∀ q, (Value.slice C1 (bs.length + 1) f1).ownBlock = some q → q ≠ w.heap.size := by
    intro q hq
    rcases hv' with h | h
    · rw [h] at hq
      have := HH.out.2.2.2.1 _ hq
      omega
    · rw [h] at hq
      injection hq with hq
      simp at hq
      omega
  have hl1 : (bs ++ [nm.size]).length = bs.length + 1 := by simp
  rw [show bsV bs ++ [Value.int .u8 (nm.size : Nat)] = bsV (bs ++ [nm.size]) by simp [bsV], ← hl1] at hown'
  rw [← hl1] at hC1 ⊢
  have hlt1 : ∀ q, (Value.slice C1 (bs ++ [nm.size]).length f1).ownBlock = some q → w0.heap.size ≤ q := fun q hq => (hown'.lt q hq).1
  have HX := hid (And.intro hown' (And.intro hk5 (And.intro hb5 (And.intro hC1 hlt1))))
  have hnm12 := HNM.out
  have hz5 : w0.heap.size ≤ w5.heap.size := by have := hb5.size; omega
  clear hg' hv' hown' hnw hb5 hC1 hlt1
  refine hK.out _ _ (hk5.cell 0) (fun hHeld => ?_)
  clear hK K hk5
  try simp only [List.getElem_toArray, List.getElem_cons_succ, List.getElem_cons_zero, Act.put, List.setIfInBounds_toArray, List.set_cons_zero, List.set_cons_succ]
  refine wpAnyH_ready (rs := [9]) (by kernel_rfl) (by simp) ?_
  refine AllReadyH.cons rfl (fun K hK => ?_) AllReadyH.nil
  rw [if_pos (by rfl)]
  refine wp_append_str (.tmp 19) (.tmp 21) 31 9 rfl w0.heap.size 5 i0 Try.underlying31 Try.underlying9 HI.out.1 HI.out.2.1 HI.out.2.2.1 HI.out.2.2.2 _ (bs ++ [nm.size]).length (bsV (bs ++ [nm.size])) rfl HX.out.1 nm rfl (by rw [hl1]; simp only [maxLen]; omega) (by rw [hl1]; omega) hz5 ?_
  intro v' w6 hown' hg'
  obtain ⟨C2, f2, rfl, _, _⟩ := own_form hown'
  have hk6 : Blk w6 w.heap.size 42 (aR nm ep fl la sc (.slice ea n ec) (.slice oa m oc)) := HX.out.2.1.grown hg' (fun e => HX.out.2.2.2.1 _ e.symm rfl)
  have hb6 : Below w0.heap.size w w6 := HX.out.2.2.1.grown hg' hz5 (fun k hk => HX.out.2.2.2.2 k hk)
  have hl2 : ((bs ++ [nm.size]) ++ nmL nm).length = (bs ++ [nm.size]).length + nm.size := by rw [List.length_append, nmL_len]
  rw [strCells_nm, show bsV (bs ++ [nm.size]) ++ bsV (nmL nm) = bsV ((bs ++ [nm.size]) ++ nmL nm) by simp [bsV], ← hl2] at hown'
  rw [← hl2]
  obtain ⟨l1, hl⟩ : ∃ l1, l1 = (bs ++ [nm.size]) ++ nmL nm := ⟨_, rfl⟩
  rw [← hl] at hown' ⊢
  have HT1 := hid (show tot = l1 ++ ([ep].flatMap vbI ++ (vb (fold64 sc) ++ ([fl, la + 1, ((n : Nat) : Int)].flatMap vbI ++ (ensB 0 es ++ ([((m : Nat) : Int)].flatMap vbI ++ ptsB2 (0, 0) op))))) by
    rw [HTOT.out, hl]; simp only [List.append_assoc, List.cons_append, List.nil_append])
  have HY := hid (show OwnY w0.heap.size w6 C2 f2 l1 ∧ Blk w6 w.heap.size 42 (aR nm ep fl la sc (.slice ea n ec) (.slice oa m oc)) ∧ Below w0.heap.size w w6 from ⟨hown', hk6, hb6⟩)
  clear hg' hown' hl2 hl hb6 HX hl1 HH HTOT HNB hgw hs0
  refine hK.out _ _ (hk6.cell 0) (fun hHeld => ?_)
  clear hK K hk6
  try simp only [List.getElem_toArray, List.getElem_cons_succ, List.getElem_cons_zero, Act.put, List.setIfInBounds_toArray, List.set_cons_zero, List.set_cons_succ]
  refine wpAnyH_take (i := 10) (v := ?_) rfl (by kernel_rfl) (by kernel_rfl) (by kernel_rfl) (fun _ _ _ h => h) (Or.inl ⟨by rfl, ?_⟩) (by assumption) ?_
  rotate_left
  · intro W hW
    go_simp
    try rfl
  simp only [List.getElem_toArray, List.getElem_cons_succ, List.getElem_cons_zero, Act.put, List.setIfInBounds_toArray, List.set_cons_zero, List.set_cons_succ]
  refine wpAnyH_done (by kernel_rfl) ?_ _
  refine NoPanic.normal ?_
  clear hHeld hgl hz5 hnm12 hbl HNM HI
  go_upto_region 2 with fail
  have k6 := HY.out.2.1
  have HPL := hid (plainM_c C2 l1.length f2 l1 (some ⟨w6.heap.size, 0, none⟩) 1 1 [ep] (w6.alloc (.cells #[.int .i64 ep] 2)).drew ((HY.out.1.reads.alloc _).drew) (one_reads w6 2 _) (by omega) (by omega) (by intro z hz; rw [List.mem_singleton] at hz; rw [hz]; exact fep) (by have := le_tot HT1.out HLEN.out; omega))
  refine wp_region_noPanic ?_
  refine wp_region_held_drew (S := fun W => W.cell? ⟨w.heap.size, 1, none⟩ = some (.int .i64 ep) ∧ W.cell? ⟨w.heap.size, 4, none⟩ = some (.int .i64 sc)) (by kernel_rfl) ⟨k6.drew.cell 1, k6.drew.cell 4⟩ (fun hHeld => ?_)
  refine wpAnyH_take (i := 0) (v := ?_) rfl (by kernel_rfl) (by kernel_rfl) (by kernel_rfl) (fun _ _ _ h => h) (Or.inl ⟨by rfl, ?_⟩) (by assumption) ?_
  rotate_left
  · intro W hW
    go_simp
    try rfl
  simp only [List.getElem_toArray, List.getElem_cons_zero, Act.put, List.setIfInBounds_toArray, List.set_cons_zero, List.set_cons_succ]
  refine wpAnyH_take (i := 1) (v := ?_) rfl (by kernel_rfl) (by kernel_rfl) (by kernel_rfl) (fun _ _ _ h => h) (Or.inl ⟨by rfl, ?_⟩) (by assumption) ?_
  rotate_left
  · intro W hW
    go_simp
    try rfl
  simp only [List.getElem_toArray, List.getElem_cons_succ, List.getElem_cons_zero, Act.put, List.setIfInBounds_toArray, List.set_cons_zero, List.set_cons_succ]
  refine wpAnyH_take (i := 2) (v := ?_) rfl (by kernel_rfl) (by kernel_rfl) (by kernel_rfl) (fun _ _ _ h => h) (Or.inl ⟨by rfl, ?_⟩) (by assumption) ?_
  rotate_left
  · intro W hW
    go_simp
    try rfl
  simp only [List.getElem_toArray, List.getElem_cons_succ, List.getElem_cons_zero, Act.put, List.setIfInBounds_toArray, List.set_cons_zero, List.set_cons_succ]
  refine wpAnyH_take (i := 5) (v := ?_) rfl (by kernel_rfl) (by kernel_rfl) (by kernel_rfl) (fun _ _ _ h => h) (Or.inl ⟨by rfl, ?_⟩) (by assumption) ?_
  rotate_left
  · intro W hW
    go_simp
    try rfl
  simp only [List.getElem_toArray, List.getElem_cons_succ, List.getElem_cons_zero, Act.put, List.setIfInBounds_toArray, List.set_cons_zero, List.set_cons_succ]
  refine wpAnyH_take (i := 6) (v := ?_) rfl (by kernel_rfl) (by kernel_rfl) (by kernel_rfl) (fun _ _ _ h => h) (Or.inl ⟨by rfl, ?_⟩) (by assumption) ?_
  rotate_left
  · intro W hW
    go_simp
    try rfl
  simp only [List.getElem_toArray, List.getElem_cons_succ, List.getElem_cons_zero, Act.put, List.setIfInBounds_toArray, List.set_cons_zero, List.set_cons_succ]
  refine wpAnyH_ready (rs := [3]) (by kernel_rfl) (by simp) ?_
  refine AllReadyH.cons rfl (fun K hK => ?_) AllReadyH.nil
  go_simp
  refine hK.out _ _ ⟨(k6.drew.alloc _).cell 1, (k6.drew.alloc _).cell 4⟩ (fun hHeld => ?_)
  clear hK K
  try simp only [List.getElem_toArray, List.getElem_cons_succ, List.getElem_cons_zero, Act.put, List.setIfInBounds_toArray, List.set_cons_zero, List.set_cons_succ]
  have k7 : Blk (w6.alloc (.cells #[.int .i64 ep] 2)).drew w.heap.size 42 (aR nm ep fl la sc (.slice ea n ec) (.slice oa m oc)) := k6.alloc _
  have hb7 : Below w0.heap.size w (w6.alloc (.cells #[.int .i64 ep] 2)).drew := (HY.out.2.2.alloc (by have := HB0s; have := HY.out.2.2.size; omega) _).drew
  clear k6
  generalize (w6.alloc (.cells #[.int .i64 ep] 2)).drew = w7 at *
  refine wpAnyH_ready (rs := [4]) (by kernel_rfl) (by simp) ?_
  refine AllReadyH.cons rfl (fun K hK => ?_) AllReadyH.nil
  go_simp
  refine HPL.out.mono ?_
  rintro e w8 ⟨C3, f3, rfl, hown3, hb3⟩
  refine hK.out _ _ ⟨(k7.under hb3).cell 1, (k7.under hb3).cell 4⟩ (fun hHeld => ?_)
  clear hK K
  try simp only [List.getElem_toArray, List.getElem_cons_succ, List.getElem_cons_zero, Act.put, List.setIfInBounds_toArray, List.set_cons_zero, List.set_cons_succ]
  have k8 := k7.under hb3
  have hb8 := hb7.trans (hb3.mono (by have := hb7.size; omega))
  have ho8 : OwnY w0.heap.size w8 C3 f3 (l1 ++ [ep].flatMap vbI) := OwnY.low hown3 (by have := hb7.size; omega)
  have HT2 := hid (show tot = (l1 ++ [ep].flatMap vbI) ++ (vb (fold64 sc) ++ ([fl, la + 1, ((n : Nat) : Int)].flatMap vbI ++ (ensB 0 es ++ ([((m : Nat) : Int)].flatMap vbI ++ ptsB2 (0, 0) op)))) by rw [HT1.out, List.append_assoc])
  clear HPL hown3 hb3 k7 hb7 HT1 HY
  generalize l1 ++ [ep].flatMap vbI = l2 at *
  have HPT := hid (Put_c C3 l2.length f3 l2 sc w8 ho8.reads (by have := le_tot HT2.out HLEN.out; omega) fsc.1 fsc.2)
  refine wpAnyH_ready (rs := [7]) (by kernel_rfl) (by simp) ?_
  refine AllReadyH.cons rfl (fun K hK => ?_) AllReadyH.nil
  go_simp
  refine HPT.out.mono ?_
  rintro e w9 ⟨C4, f4, rfl, hown4, hb4⟩
  refine hK.out _ _ ⟨(k8.under hb4).cell 1, (k8.under hb4).cell 4⟩ (fun hHeld => ?_)
  clear hK K
  try simp only [List.getElem_toArray, List.getElem_cons_succ, List.getElem_cons_zero, Act.put, List.setIfInBounds_toArray, List.set_cons_zero, List.set_cons_succ]
  have k9 := k8.under hb4
  have hb9 := hb8.trans (hb4.mono (by have := hb8.size; omega))
  have ho9 : OwnY w0.heap.size w9 C4 f4 (l2 ++ vb (fold64 sc)) := OwnY.low hown4 (by have := hb8.size; omega)
  have HT3 := hid (show tot = (l2 ++ vb (fold64 sc)) ++ ([fl, la + 1, ((n : Nat) : Int)].flatMap vbI ++ (ensB 0 es ++ ([((m : Nat) : Int)].flatMap vbI ++ ptsB2 (0, 0) op))) by rw [HT2.out, List.append_assoc])
  clear HPT hown4 hb4 k8 hb8 ho8 HT2
  generalize l2 ++ vb (fold64 sc) = l3 at *
  refine wpAnyH_take (i := 8) (v := ?_) rfl (by kernel_rfl) (by kernel_rfl) (by kernel_rfl) (fun _ _ _ h => h) (Or.inl ⟨by rfl, ?_⟩) (by assumption) ?_
  rotate_left
  · intro W hW
    go_simp
    try rfl
  simp only [List.getElem_toArray, List.getElem_cons_succ, List.getElem_cons_zero, Act.put, List.setIfInBounds_toArray, List.set_cons_zero, List.set_cons_succ]
  refine wpAnyH_done (by kernel_rfl) ?_ _
  refine NoPanic.normal ?_
  have HO9 := hid ho9
  have HPL := hid (fun (W : World) (L : Option Addr) (hb : Below w9.heap.size w9 W) (hr : Reads W 2 1 L 3 [.int .i64 fl, .int .i64 (la + 1), .int .i64 (n : Nat)]) => plainM_c C4 l3.length f4 l3 L 3 3 [fl, la + 1, (n : Nat)] W (HO9.out.reads.below hb) hr (by omega) (by omega) (by
    intro z hz
    simp only [List.mem_cons, List.not_mem_nil, or_false] at hz
    rcases hz with rfl | rfl | rfl
    · exact ffl
    · exact fla
    · constructor <;> omega) (by have := le_tot HT3.out HLEN.out; omega))
  have hla : wrap64 (la + 1) = la + 1 := by have := fla.1; have := fla.2; unfold wrap64; omega
  obtain ⟨c0, c1, c2, c3, c4, c5, c6⟩ := k9.seven
  clear ho9 hHeld
  go_wp2_with fail
  refine (HPL.out _ _ ((Below.refl _ _).alloc (Nat.le_refl _) _) (cells_reads w9 2 [.int .i64 fl, .int .i64 (la + 1), .int .i64 (n : Nat)])).mono ?_
  rintro e w10 ⟨C5, f5, rfl, hown5, hb5⟩
  have hb5' : Below w9.heap.size w9 w10 := ((Below.refl _ _).alloc (Nat.le_refl _) _).trans (hb5.mono (by simp))
  have k10 := k9.under hb5'
  have hb10 := hb9.trans (hb5'.mono (by have := hb9.size; omega))
  have ho10 : OwnY w0.heap.size w10 C5 f5 (l3 ++ [fl, la + 1, ((n : Nat) : Int)].flatMap vbI) := OwnY.low hown5 (by have := hb9.size; simp; omega)
  obtain ⟨R, hR⟩ : ∃ R, R = [((m : Nat) : Int)].flatMap vbI ++ ptsB2 (0, 0) op := ⟨_, rfl⟩
  have HT4 := hid (show tot = (l3 ++ [fl, la + 1, ((n : Nat) : Int)].flatMap vbI) ++ (ensB 0 (es.drop 0) ++ R) by rw [HT3.out, hR, List.append_assoc]; rfl)
  have HR := hid hR
  clear HPL hown5 hb5 hb5' k9 hb9 HO9 HT3 hR c0 c1 c2 c3 c4 c5 c6 hla
  generalize l3 ++ [fl, la + 1, ((n : Nat) : Int)].flatMap vbI = l4 at *
  obtain ⟨c0, c1, c2, c3, c4, c5, c6⟩ := k10.seven
  have HST := hid (And.intro ho10 (And.intro k10 hb10))
  clear ho10 k10 hb10
  go_wp2_with fail
  go_loopw [0, 5, 45] (fun u0 u5 u45 wr => ∃ (k : Nat) (C : Option Addr) (f : Nat) (acc : List Nat) (ah : Int), k ≤ n ∧ u45 = .int .i64 (k : Nat) ∧ u5 = .int .i64 ah ∧ u0 = .slice C acc.length f ∧ Hid (OwnY w0.heap.size wr C f acc ∧ Blk wr w.heap.size 42 (aR nm ep fl la sc (.slice ea n ec) (.slice oa m oc)) ∧ Below w0.heap.size w wr) ∧ Hid (tot = acc ++ (ensB ah (es.drop k) ++ R) ∧ FitE ah (es.drop k))) (fun _ _ u45 _ => n - (intOf u45).toNat)
  case atStart => exact ⟨0, C5, f5, l4, 0, Nat.zero_le _, rfl, rfl, rfl, HST, hid ⟨HT4.out, HFE.out⟩⟩
  case round =>
    obtain ⟨k, C, f, acc, ah, hk, rfl, rfl, rfl, hst, hrl⟩ := hrel
    clear c0 c1 c2 c3 c4 c5 c6
    by_cases hlt : k < n
    · have hbw0 : Below w0.heap.size w0 wr := HB0.out.trans hst.out.2.2
      obtain ⟨ad, x, rfl, hx, hxl, c0, c1, c2, c3, c4⟩ := en_at (HEN.out.1.below hbw0) hlt
      have hxin := (HEN.out.2 x (List.mem_of_getElem? hx))
      obtain ⟨⟨xfs, xls, xct, xby, xps⟩, xa, xc⟩ := x
      simp only at c0 c1 c2 c3 c4
      have hxe : es[k]? = some ⟨xfs, xls, xct, xby, xps⟩ := by rw [HES.out.1, List.getElem?_map, hx]; rfl
      have hdr : es.drop k = ⟨xfs, xls, xct, xby, xps⟩ :: es.drop (k + 1) := by
        rw [List.drop_eq_getElem_cons (List.getElem?_eq_some_iff.1 hxe).1, (List.getElem?_eq_some_iff.1 hxe).2]
      have hrl2 := hrl.out
      rw [hdr] at hrl2
      obtain ⟨ht, ⟨g1, g2, g3, g4, g5⟩, hfe⟩ := hrl2
      simp only at g1 g2 g3 g4 g5
      have ht2 : tot = (acc ++ [xfs - ah, xls - xfs, xct, xby].flatMap vbI) ++ (xps.flatMap vbI ++ (ensB xls (es.drop (k + 1)) ++ R)) := by
        rw [ht]
        show acc ++ ((entB ah ⟨xfs, xls, xct, xby, xps⟩ ++ ensB xls (es.drop (k + 1))) ++ R) = _
        unfold entB
        simp only [List.append_assoc]
      have hw1 : wrap64 (xfs - ah) = xfs - ah := by have := g1.1; have := g1.2; unfold wrap64; omega
      have hw2 : wrap64 (xls - xfs) = xls - xfs := by have := g2.1; have := g2.2; unfold wrap64; omega
      obtain ⟨oE, hoE⟩ : ∃ oE, oE = Obj.cells (aE xfs xls xct (.slice xa xps.length xc) xby) 45 := ⟨_, rfl⟩
      have kE : Blk (wr.alloc oE) wr.heap.size 45 (aE xfs xls xct (.slice xa xps.length xc) xby) := by rw [hoE]; exact Blk.new _ _ _
      have kR : Blk (wr.alloc oE) w.heap.size 42 (aR nm ep fl la sc (.slice (some ad) n ec) (.slice oa m oc)) := hst.out.2.1.alloc _
      have hbE : Below w0.heap.size w (wr.alloc oE) := hst.out.2.2.alloc (by have := hst.out.2.2.size; omega) _
      have hoY : OwnY w0.heap.size (wr.alloc oE) C f acc := hst.out.1.alloc _
      have HST1 := hid (And.intro kE (And.intro kR (And.intro hbE hoY)))
      have HPL := hid (fun (W : World) (L : Option Addr) (hb : Below (wr.alloc oE).heap.size (wr.alloc oE) W) (hr : Reads W 2 1 L 4 [.int .i64 (xfs - ah), .int .i64 (xls - xfs), .int .i64 xct, .int .i64 xby]) => plainM_c C acc.length f acc L 4 4 [xfs - ah, xls - xfs, xct, xby] W (hoY.reads.below hb) hr (by omega) (by omega) (by
        intro z hz
        simp only [List.mem_cons, List.not_mem_nil, or_false] at hz
        rcases hz with rfl | rfl | rfl | rfl
        · exact g1
        · exact g2
        · exact g3
        · exact g4) (by have := le_tot ht HLEN.out; omega))
      have HT5 := hid ht2
      have HFE5 := hid hfe
      have HG5 := hid g5
      have HXIN := hid hxin
      have hltI : (k : Int) < (n : Int) := by omega
      have h0I : (0 : Int) ≤ (k : Int) := by omega
      have hwr : w.heap.size < wr.heap.size := hst.out.2.1.lt
      clear hx hxl hxin hxe hdr ht g1 g2 g3 g4 g5 hfe ht2 kE kR hbE hoY hbw0 hst hrl HST HT4
      subst hoE
      go_wp2_with fail
      refine (HPL.out _ (some ⟨wr.heap.size + 1, 0, none⟩) ((Below.refl _ _).alloc (Nat.le_refl _) _) (cells_reads_at (wr.alloc (.cells (aE xfs xls xct (.slice xa xps.length xc) xby) 45)) 2 [.int .i64 (xfs - ah), .int .i64 (xls - xfs), .int .i64 xct, .int .i64 xby] (by simp))).mono ?_
      rintro e w11 ⟨C6, f6, rfl, hown6, hb6⟩
      obtain ⟨kE, kR, hbE, hoY⟩ := HST1.out
      have hb6' := ((Below.refl _ _).alloc (Nat.le_refl _) (.cells [.int .i64 (xfs - ah), .int .i64 (xls - xfs), .int .i64 xct, .int .i64 xby].toArray 2)).trans (hb6.mono (by simp))
      replace kE := kE.under hb6'
      replace kR := kR.under hb6'
      have hs8 : w0.heap.size ≤ wr.heap.size := by have := hbE.size; simp at this; omega
      replace hbE := hbE.trans (hb6'.mono (by simp; omega))
      have ho6 : OwnY w0.heap.size w11 C6 f6 (acc ++ [xfs - ah, xls - xfs, xct, xby].flatMap vbI) := OwnY.low hown6 (by simp; omega)
      clear HST1 HPL hown6 hb6 hb6' c0 c1 c2 c3 c4 hoY
      generalize acc ++ [xfs - ah, xls - xfs, xct, xby].flatMap vbI = acc2 at *
      have HST2 := hid (And.intro ho6 (And.intro kE (And.intro kR hbE)))
      have e3 := kE.cell 3
      have e3 : w11.cell? ⟨wr.heap.size, 3, none⟩ = some (.slice xa xps.length xc) := e3
      clear ho6 kE kR hbE
      go_wp2_with fail
      obtain ⟨wo, rfl⟩ : ∃ wo : World, wo = wr := ⟨_, rfl⟩
      clear e3
      go_loopw [0, 68] (fun u0 u68 wr => ∃ (j : Nat) (C : Option Addr) (f : Nat) (acc : List Nat), j ≤ xps.length ∧ u68 = .int .i64 (j : Nat) ∧ u0 = .slice C acc.length f ∧ Hid (OwnY w0.heap.size wr C f acc ∧ Blk wr wo.heap.size 45 (aE xfs xls xct (.slice xa xps.length xc) xby) ∧ Blk wr w.heap.size 42 (aR nm ep fl la sc (.slice (some ad) n ec) (.slice oa m oc)) ∧ Below w0.heap.size w wr) ∧ Hid (tot = acc ++ ((xps.drop j).flatMap vbI ++ (ensB xls (es.drop (k + 1)) ++ R)))) (fun _ u68 _ => xps.length - (intOf u68).toNat)
      case atStart => exact ⟨0, C6, f6, acc2, Nat.zero_le _, rfl, rfl, HST2, HT5⟩
      case round =>
        obtain ⟨j, C7, f7, acc3, hj, rfl, rfl, hst, hrl⟩ := hrel
        by_cases hjq : j < xps.length
        · have hbw0 : Below w0.heap.size w0 wr := HB0.out.trans hst.out.2.2.2
          obtain ⟨⟨e5, hpr⟩, _⟩ := HXIN.out
          obtain ⟨pd, rfl, cp⟩ := ints_at (hpr.below hbw0) hjq
          obtain ⟨p, hp⟩ : ∃ p, p = xps.getD j 0 := ⟨_, rfl⟩
          simp only at cp
          rw [← hp] at cp
          have hpe : xps[j]? = some p := by rw [hp, List.getD_eq_getElem?_getD, List.getElem?_eq_getElem hjq]; rfl
          have hpi := HG5.out p (List.mem_of_getElem? hpe)
          have hdr : xps.drop j = p :: xps.drop (j + 1) := by
            rw [List.drop_eq_getElem_cons hjq, (List.getElem?_eq_some_iff.1 hpe).2]
          have ht := hrl.out
          have ht2 : tot = (acc3 ++ [p].flatMap vbI) ++ ((xps.drop (j + 1)).flatMap vbI ++ (ensB xls (es.drop (k + 1)) ++ R)) := by
            rw [ht, hdr]; simp only [List.flatMap_cons, List.flatMap_nil, List.append_assoc, List.append_nil]
          have HPL := hid (plainM_c C7 acc3.length f7 acc3 (some ⟨wr.heap.size, 0, none⟩) 1 1 [p] (wr.alloc (.cells #[.int .i64 p] 2)) (hst.out.1.reads.alloc _) (one_reads wr 2 _) (by omega) (by omega) (by intro z hz; rw [List.mem_singleton] at hz; rw [hz]; exact hpi) (by have := le_tot ht HLEN.out; omega))
          have HT6 := hid ht2
          have HST3 := hid hst.out
          have hji : (j : Int) < (xps.length : Int) := by omega
          have hj0 : (0 : Int) ≤ (j : Int) := by omega
          clear hpr hp hpe hpi hdr ht ht2 hst hrl hbw0
          go_wp2_with fail
          refine HPL.out.mono ?_
          rintro e w12 ⟨C8, f8, rfl, hown8, hb8⟩
          obtain ⟨hoY, kE, kR, hbE⟩ := HST3.out
          have hb8' := ((Below.refl wr.heap.size wr).alloc (Nat.le_refl _) (.cells #[.int .i64 p] 2)).trans (hb8.mono (by simp))
          have hs8 : w0.heap.size ≤ wr.heap.size := by have := hbE.size; omega
          have HX := hid (show OwnY w0.heap.size w12 C8 f8 (acc3 ++ [p].flatMap vbI) ∧ Blk w12 wo.heap.size 45 (aE xfs xls xct (.slice (some pd) xps.length xc) xby) ∧ Blk w12 w.heap.size 42 (aR nm ep fl la sc (.slice (some ad) n ec) (.slice oa m oc)) ∧ Below w0.heap.size w w12 from
            ⟨OwnY.low hown8 (by simp; omega), kE.under hb8', kR.under hb8', hbE.trans (hb8'.mono hs8)⟩)
          clear hown8 hb8 hoY kE kR hbE hb8' HPL HST3 cp
          generalize acc3 ++ [p].flatMap vbI = acc4 at *
          go_wp2_with fail
          go_roundw
          case rel => exact ⟨j + 1, C8, f8, acc4, by omega, by go_num, rfl, HX, HT6⟩
          case measure => simp [intOf]; omega
        · have hjl : j = xps.length := by omega
          have ht := hrl.out
          rw [hjl, List.drop_length, List.flatMap_nil, List.nil_append] at ht
          have HT6 := hid (And.intro ht HFE5.out)
          have HST3 := hid (And.intro hst.out.1 (And.intro hst.out.2.2.1 hst.out.2.2.2))
          have e1' : wr.cell? ⟨wo.heap.size, 1, none⟩ = some (.int .i64 xls) := hst.out.2.1.cell 1
          clear hst hrl ht hjl
          go_wp2_with fail
          go_roundw
          case rel => exact ⟨k + 1, C7, f7, acc3, xls, by omega, by go_num, rfl, rfl, HST3, HT6⟩
          case measure => simp [intOf]; omega
    · obtain rfl : k = n := by omega
      have hel : es.length = k := by rw [HES.out.1, List.length_map, HES.out.2.1]
      have ht : tot = acc ++ ([((m : Nat) : Int)].flatMap vbI ++ ptsB2 (0, 0) op) := by
        have ht := hrl.out.1
        rw [List.drop_of_length_le (Nat.le_of_eq hel)] at ht
        rw [ht, HR.out]; rfl
      have hbw0 : Below w0.heap.size w0 wr := HB0.out.trans hst.out.2.2
      have HPL := hid (plainM_c C acc.length f acc (some ⟨wr.heap.size, 0, none⟩) 1 1 [((m : Nat) : Int)] (wr.alloc (.cells #[.int .i64 (m : Nat)] 2)) (hst.out.1.reads.alloc _) (one_reads wr 2 _) (by omega) (by omega) (by intro z hz; rw [List.mem_singleton] at hz; rw [hz]; constructor <;> omega) (by have := le_tot ht HLEN.out; omega))
      obtain ⟨c0, c1, c2, c3, c4, c5, c6⟩ := hst.out.2.1.seven
      have HST3 := hid hst.out
      have HT6 := hid (show tot = (acc ++ [((m : Nat) : Int)].flatMap vbI) ++ ptsB2 (0, 0) (op.drop 0) by rw [ht, List.append_assoc]; rfl)
      clear hel ht hbw0 hst hrl HST HT4 HR
      go_wp2_with fail
      refine HPL.out.mono ?_
      rintro e w12 ⟨C8, f8, rfl, hown8, hb8⟩
      obtain ⟨hoY, kR, hbE⟩ := HST3.out
      have hb8' := ((Below.refl wr.heap.size wr).alloc (Nat.le_refl _) (.cells #[.int .i64 (m : Nat)] 2)).trans (hb8.mono (by simp))
      have hs8 : w0.heap.size ≤ wr.heap.size := by have := hbE.size; omega
      have kR12 := kR.under hb8'
      have hb12 := hbE.trans (hb8'.mono hs8)
      have ho12 : OwnY w0.heap.size w12 C8 f8 (acc ++ [((m : Nat) : Int)].flatMap vbI) := OwnY.low hown8 (by simp; omega)
      clear hown8 hb8 hoY kR hbE hb8' HPL HST3 c0 c1 c2 c3 c4 c5 c6
      generalize acc ++ [((m : Nat) : Int)].flatMap vbI = acc4 at *
      have HX := hid (show OwnY w0.heap.size (w12.alloc (.cells #[.int .i64 0, .int .i64 0] 47)) C8 f8 acc4 ∧ Blk (w12.alloc (.cells #[.int .i64 0, .int .i64 0] 47)) w.heap.size 42 (aR nm ep fl la sc (.slice ea k ec) (.slice oa m oc)) ∧ Blk (w12.alloc (.cells #[.int .i64 0, .int .i64 0] 47)) w12.heap.size 47 #[.int .i64 0, .int .i64 0] ∧ Below w0.heap.size w (w12.alloc (.cells #[.int .i64 0, .int .i64 0] 47)) from
        ⟨ho12.alloc _, kR12.alloc _, Blk.new _ _ _, hb12.alloc (by have := hb12.size; omega) _⟩)
      obtain ⟨c0, c1, c2, c3, c4, c5, c6⟩ := kR12.seven
      have hwl : w.heap.size < w12.heap.size := kR12.lt
      clear ho12 hb12 kR12
      go_wp2_with fail
      clear c0 c1 c2 c3 c4 c5 c6
      go_loopw [0, 89] (fun u0 u89 wr => ∃ (j : Nat) (C : Option Addr) (f : Nat) (acc : List Nat) (T V : Int), j ≤ m ∧ u89 = .int .i64 (j : Nat) ∧ u0 = .slice C acc.length f ∧ Hid (OwnY w0.heap.size wr C f acc ∧ Blk wr w12.heap.size 47 #[.int .i64 T, .int .i64 V] ∧ Below w0.heap.size w wr) ∧ Hid (tot = acc ++ ptsB2 (T, V) (op.drop j) ∧ FitP (T, V) (op.drop j))) (fun _ u89 _ => m - (intOf u89).toNat)
      case atStart => exact ⟨0, C8, f8, acc4, 0, 0, Nat.zero_le _, rfl, rfl, hid ⟨HX.out.1, HX.out.2.2.1, HX.out.2.2.2⟩, hid ⟨HT6.out, HFP.out⟩⟩
      case round =>
        obtain ⟨j, C9, f9, acc5, T, V, hj, rfl, rfl, hst, hrl⟩ := hrel
        by_cases hjm : j < m
        · have hbw0 : Below w0.heap.size w0 wr := HB0.out.trans hst.out.2.2
          obtain ⟨pd, rfl, d0, d1⟩ := pts_at (HOP.out.below hbw0) hjm
          replace d1 : wr.cell? ⟨(pd.add (j * 2)).block, (pd.add (j * 2)).off + 1, none⟩ = _ := d1
          have hjl : j < op.length := by rw [← HES.out.2.2]; exact hjm
          have hdr : op.drop j = (op.getD j (0, 0)) :: op.drop (j + 1) := by
            rw [List.drop_eq_getElem_cons hjl, List.getD_eq_getElem?_getD, List.getElem?_eq_getElem hjl]; rfl
          have hrl2 := hrl.out
          rw [hdr] at hrl2
          generalize op.getD j (0, 0) = q at *
          obtain ⟨T2, V2⟩ := q
          obtain ⟨ht, ⟨g1, g2⟩, hfp⟩ := hrl2
          simp only at d0 d1 g1 g2
          have ht2 : tot = (acc5 ++ [T2 - T].flatMap vbI) ++ (vb (fold64 (V2 - V)) ++ ptsB2 (T2, V2) (op.drop (j + 1))) := by
            rw [ht]
            show acc5 ++ (ptB2 (T, V) (T2, V2) ++ ptsB2 (T2, V2) (op.drop (j + 1))) = _
            unfold ptB2
            simp only [List.append_assoc]
          have hw1 : IntKind.i64.wrap (T2 - T) = T2 - T := by have := g1.1; have := g1.2; rw [IntKind.wrap_i64]; omega
          have hw2 : IntKind.i64.wrap (V2 - V) = V2 - V := by have := g2.1; have := g2.2; rw [IntKind.wrap_i64]; omega
          obtain ⟨wp, hwp⟩ : ∃ wp, wp = wr.alloc (.cells #[.int .i64 T2, .int .i64 V2] 47) := ⟨_, rfl⟩
          have kP : Blk wp wr.heap.size 47 #[.int .i64 T2, .int .i64 V2] := by rw [hwp]; exact Blk.new _ _ _
          have kW : Blk wp w12.heap.size 47 #[.int .i64 T, .int .i64 V] := by rw [hwp]; exact hst.out.2.1.alloc _
          have hbP : Below w0.heap.size w wp := by rw [hwp]; exact hst.out.2.2.alloc (by have := hst.out.2.2.size; omega) _
          have hoP : OwnY w0.heap.size wp C9 f9 acc5 := by rw [hwp]; exact hst.out.1.alloc _
          have hs8 : w0.heap.size ≤ wp.heap.size := by have := hbP.size; omega
          have hwl2 : w12.heap.size < wr.heap.size := hst.out.2.1.lt
          have hw0l : w0.heap.size ≤ w12.heap.size := by omega
          have HPL := hid (plainM_c C9 acc5.length f9 acc5 (some ⟨wp.heap.size, 0, none⟩) 1 1 [T2 - T] (wp.alloc (.cells #[.int .i64 (T2 - T)] 2)).drew ((hoP.reads.alloc _).drew) (one_reads wp 2 _) (by omega) (by omega) (by intro z hz; rw [List.mem_singleton] at hz; rw [hz]; exact g1) (by have := le_tot ht HLEN.out; omega))
          have HT7 := hid (And.intro ht2 (And.intro g2 hfp))
          have HSP := hid (And.intro kP (And.intro kW hbP))
          have hji : (j : Int) < (m : Int) := by omega
          have hj0 : (0 : Int) ≤ (j : Int) := by omega
          have HRN := hid (show ∀ W, Below wp.heap.size wp W → (W.cell? ⟨wr.heap.size, 0, none⟩ = some (.int .i64 T2) ∧ W.cell? ⟨wr.heap.size, 1, none⟩ = some (.int .i64 V2)) ∧ (W.cell? ⟨w12.heap.size, 0, none⟩ = some (.int .i64 T) ∧ W.cell? ⟨w12.heap.size, 1, none⟩ = some (.int .i64 V)) from fun W hb => ⟨⟨(kP.under hb).cell 0, (kP.under hb).cell 1⟩, (kW.under hb).cell 0, (kW.under hb).cell 1⟩)
          clear hjl hdr ht g1 g2 hfp ht2 kP kW hbP hoP hbw0 hst hrl
          go_upto_region 21 with fail
          rw [← hwp]
          clear hwp d0 d1
          refine wp_region_noPanic ?_
          refine wp_region_held_drew (S := fun W => (W.cell? ⟨wr.heap.size, 0, none⟩ = some (.int .i64 T2) ∧ W.cell? ⟨wr.heap.size, 1, none⟩ = some (.int .i64 V2)) ∧ (W.cell? ⟨w12.heap.size, 0, none⟩ = some (.int .i64 T) ∧ W.cell? ⟨w12.heap.size, 1, none⟩ = some (.int .i64 V))) (by kernel_rfl) (HRN.out _ ((Below.refl _ _).drew)) (fun hHeld => ?_)
          refine wpAnyH_take (i := 0) (v := ?_) rfl (by kernel_rfl) (by kernel_rfl) (by kernel_rfl) (fun _ _ _ h => h) (Or.inl ⟨by rfl, ?_⟩) (by assumption) ?_
          rotate_left
          · intro W hW
            go_simp
            try rfl
          simp only [List.getElem_toArray, List.getElem_cons_zero, Act.put, List.setIfInBounds_toArray, List.set_cons_zero, List.set_cons_succ]
          refine wpAnyH_take (i := 1) (v := ?_) rfl (by kernel_rfl) (by kernel_rfl) (by kernel_rfl) (fun _ _ _ h => h) (Or.inl ⟨by rfl, ?_⟩) (by assumption) ?_
          rotate_left
          · intro W hW
            go_simp
            try rfl
          simp only [List.getElem_toArray, List.getElem_cons_succ, List.getElem_cons_zero, Act.put, List.setIfInBounds_toArray, List.set_cons_zero, List.set_cons_succ]
          refine wpAnyH_take (i := 2) (v := ?_) rfl (by kernel_rfl) (by kernel_rfl) (by kernel_rfl) (fun _ _ _ h => h) (Or.inl ⟨by rfl, ?_⟩) (by assumption) ?_
          rotate_left
          · intro W hW
            go_simp
            try rfl
          simp only [List.getElem_toArray, List.getElem_cons_succ, List.getElem_cons_zero, Act.put, List.setIfInBounds_toArray, List.set_cons_zero, List.set_cons_succ]
          refine wpAnyH_take (i := 3) (v := ?_) rfl (by kernel_rfl) (by kernel_rfl) (by kernel_rfl) (fun _ _ _ h => h) (Or.inl ⟨by rfl, ?_⟩) (by assumption) ?_
          rotate_left
          · intro W hW
            go_simp
            try rfl
          simp only [List.getElem_toArray, List.getElem_cons_succ, List.getElem_cons_zero, Act.put, List.setIfInBounds_toArray, List.set_cons_zero, List.set_cons_succ]
          refine wpAnyH_take (i := 4) (v := ?_) rfl (by kernel_rfl) (by kernel_rfl) (by kernel_rfl) (fun _ _ _ h => h) (Or.inl ⟨by rfl, ?_⟩) (by assumption) ?_
          rotate_left
          · intro W hW
            go_simp
            try rfl
          simp only [List.getElem_toArray, List.getElem_cons_succ, List.getElem_cons_zero, Act.put, List.setIfInBounds_toArray, List.set_cons_zero, List.set_cons_succ]
          refine wpAnyH_take (i := 5) (v := ?_) rfl (by kernel_rfl) (by kernel_rfl) (by kernel_rfl) (fun _ _ _ h => h) (Or.inl ⟨by rfl, ?_⟩) (by assumption) ?_
          rotate_left
          · intro W hW
            go_simp
            try rfl
          simp only [List.getElem_toArray, List.getElem_cons_succ, List.getElem_cons_zero, Act.put, List.setIfInBounds_toArray, List.set_cons_zero, List.set_cons_succ]
          refine wpAnyH_take (i := 8) (v := ?_) rfl (by kernel_rfl) (by kernel_rfl) (by kernel_rfl) (fun _ _ _ h => h) (Or.inl ⟨by rfl, ?_⟩) (by assumption) ?_
          rotate_left
          · intro W hW
            go_simp
            try rfl
          simp only [List.getElem_toArray, List.getElem_cons_succ, List.getElem_cons_zero, Act.put, List.setIfInBounds_toArray, List.set_cons_zero, List.set_cons_succ]
          refine wpAnyH_take (i := 9) (v := ?_) rfl (by kernel_rfl) (by kernel_rfl) (by kernel_rfl) (fun _ _ _ h => h) (Or.inl ⟨by rfl, ?_⟩) (by assumption) ?_
          rotate_left
          · intro W hW
            go_simp
            try rfl
          simp only [List.getElem_toArray, List.getElem_cons_succ, List.getElem_cons_zero, Act.put, List.setIfInBounds_toArray, List.set_cons_zero, List.set_cons_succ]
          refine wpAnyH_take (i := 10) (v := ?_) rfl (by kernel_rfl) (by kernel_rfl) (by kernel_rfl) (fun _ _ _ h => h) (Or.inl ⟨by rfl, ?_⟩) (by assumption) ?_
          rotate_left
          · intro W hW
            go_simp
            try rfl
          simp only [List.getElem_toArray, List.getElem_cons_succ, List.getElem_cons_zero, Act.put, List.setIfInBounds_toArray, List.set_cons_zero, List.set_cons_succ]
          refine wpAnyH_take (i := 11) (v := ?_) rfl (by kernel_rfl) (by kernel_rfl) (by kernel_rfl) (fun _ _ _ h => h) (Or.inl ⟨by rfl, ?_⟩) (by assumption) ?_
          rotate_left
          · intro W hW
            go_simp
            try rfl
          simp only [List.getElem_toArray, List.getElem_cons_succ, List.getElem_cons_zero, Act.put, List.setIfInBounds_toArray, List.set_cons_zero, List.set_cons_succ]
          refine wpAnyH_take (i := 12) (v := ?_) rfl (by kernel_rfl) (by kernel_rfl) (by kernel_rfl) (fun _ _ _ h => h) (Or.inl ⟨by rfl, ?_⟩) (by assumption) ?_
          rotate_left
          · intro W hW
            go_simp
            try rfl
          simp only [List.getElem_toArray, List.getElem_cons_succ, List.getElem_cons_zero, Act.put, List.setIfInBounds_toArray, List.set_cons_zero, List.set_cons_succ]
          refine wpAnyH_ready (rs := [6]) (by kernel_rfl) (by simp) ?_
          refine AllReadyH.cons rfl (fun K hK => ?_) AllReadyH.nil
          go_simp
          refine hK.out _ _ (HRN.out _ (((Below.refl _ _).alloc (Nat.le_refl _) _).drew)) (fun hHeld => ?_)
          clear hK K
          try simp only [List.getElem_toArray, List.getElem_cons_succ, List.getElem_cons_zero, Act.put, List.setIfInBounds_toArray, List.set_cons_zero, List.set_cons_succ]
          have hbA : Below wp.heap.size wp (wp.alloc (.cells #[.int .i64 (T2 - T)] 2)).drew := ((Below.refl _ _).alloc (Nat.le_refl _) _).drew
          have hsA : wp.heap.size ≤ (wp.alloc (.cells #[.int .i64 (T2 - T)] 2)).drew.heap.size := by simp
          generalize (wp.alloc (.cells #[.int .i64 (T2 - T)] 2)).drew = wq at *
          refine wpAnyH_ready (rs := [7]) (by kernel_rfl) (by simp) ?_
          refine AllReadyH.cons rfl (fun K hK => ?_) AllReadyH.nil
          go_simp
          refine HPL.out.mono ?_
          rintro e w13 ⟨C10, f10, rfl, hown10, hb10⟩
          refine hK.out _ _ (HRN.out _ (hbA.trans (hb10.mono hsA))) (fun hHeld => ?_)
          clear hK K
          try simp only [List.getElem_toArray, List.getElem_cons_succ, List.getElem_cons_zero, Act.put, List.setIfInBounds_toArray, List.set_cons_zero, List.set_cons_succ]
          have hb13 := hbA.trans (hb10.mono hsA)
          have ho13 : OwnY w0.heap.size w13 C10 f10 (acc5 ++ [T2 - T].flatMap vbI) := OwnY.low hown10 (by omega)
          obtain ⟨ht2, g2, hfp⟩ := HT7.out
          clear HPL hown10 hb10 hbA hsA HT7 hHeld
          generalize acc5 ++ [T2 - T].flatMap vbI = acc6 at *
          have HPT := hid (Put_c C10 acc6.length f10 acc6 (V2 - V) w13 ho13.reads (by have := le_tot ht2 HLEN.out; omega) g2.1 g2.2)
          have HT8 := hid (show tot = (acc6 ++ vb (fold64 (V2 - V))) ++ ptsB2 (T2, V2) (op.drop (j + 1)) by rw [ht2, List.append_assoc])
          have HFP8 := hid hfp
          clear ht2 g2 hfp
          refine wpAnyH_ready (rs := [13]) (by kernel_rfl) (by simp) ?_
          refine AllReadyH.cons rfl (fun K hK => ?_) AllReadyH.nil
          go_simp
          refine HPT.out.mono ?_
          rintro e w14 ⟨C11, f11, rfl, hown11, hb11⟩
          refine hK.out _ _ (HRN.out _ (hb13.trans (hb11.mono hb13.size))) (fun hHeld => ?_)
          clear hK K
          try simp only [List.getElem_toArray, List.getElem_cons_succ, List.getElem_cons_zero, Act.put, List.setIfInBounds_toArray, List.set_cons_zero, List.set_cons_succ]
          have hb14 := hb13.trans (hb11.mono hb13.size)
          have ho14 : OwnY w0.heap.size w14 C11 f11 (acc6 ++ vb (fold64 (V2 - V))) := OwnY.low hown11 (by have := hb13.size; omega)
          clear HPT hown11 hb11 ho13 hb13
          generalize acc6 ++ vb (fold64 (V2 - V)) = acc7 at *
          refine wpAnyH_take (i := 14) (v := ?_) rfl (by kernel_rfl) (by kernel_rfl) (by kernel_rfl) (fun _ _ _ h => h) (Or.inl ⟨by rfl, ?_⟩) (by assumption) ?_
          rotate_left
          · intro W hW
            go_simp
            try rfl
          simp only [List.getElem_toArray, List.getElem_cons_succ, List.getElem_cons_zero, Act.put, List.setIfInBounds_toArray, List.set_cons_zero, List.set_cons_succ]
          refine wpAnyH_done (by kernel_rfl) ?_ _
          refine NoPanic.normal ?_
          have kP := HSP.out.1.under hb14
          have kW := HSP.out.2.1.under hb14
          have hbX := HSP.out.2.2.trans (hb14.mono hs8)
          obtain ⟨x0, x1, x2, x3, x4⟩ := kP.two
          obtain ⟨y0, y1, y2, y3, y4⟩ := kW.two
          have HN := hid (show OwnY w0.heap.size ((w14.setCell ⟨w12.heap.size, 0, none⟩ (.int .i64 T2)).setCell ⟨w12.heap.size, 1, none⟩ (.int .i64 V2)) C11 f11 acc7 ∧ Blk ((w14.setCell ⟨w12.heap.size, 0, none⟩ (.int .i64 T2)).setCell ⟨w12.heap.size, 1, none⟩ (.int .i64 V2)) w12.heap.size 47 #[.int .i64 T2, .int .i64 V2] ∧ Below w0.heap.size w ((w14.setCell ⟨w12.heap.size, 0, none⟩ (.int .i64 T2)).setCell ⟨w12.heap.size, 1, none⟩ (.int .i64 V2)) from
            ⟨own_but ho14 (((But.refl w12.heap.size w14).setg 0 _).setg 1 _) kW.typed (by decide), kW.set2 _ _, (hbX.setCell (p := ⟨w12.heap.size, 0, none⟩) hw0l _).setCell (p := ⟨w12.heap.size, 1, none⟩) hw0l _⟩)
          clear kP kW hbX hb14 ho14 HSP HRN hHeld
          go_wp2_with fail
          go_roundw
          case rel => exact ⟨j + 1, C11, f11, acc7, T2, V2, by omega, by go_num, rfl, HN, hid ⟨HT8.out, HFP8.out⟩⟩
          case measure => simp [intOf]; omega
        · have hjl : op.length ≤ j := by rw [← HES.out.2.2]; omega
          have HF := hid (show RetL tot w0.heap.size w (.returned (.slice C9 acc5.length f9)) wr by
            have ht := hrl.out.1
            rw [List.drop_of_length_le hjl] at ht
            have ht : tot = acc5 := by rw [ht]; simp [ptsB2]
            rw [ht]
            exact ⟨C9, f9, rfl, hst.out.1, hst.out.2.2⟩)
          clear hjl hst hrl
          go_wp2_with fail
          go_ret
          exact HF.out

end Go.Proofs.Ytgdnpmjmkcccoaa
