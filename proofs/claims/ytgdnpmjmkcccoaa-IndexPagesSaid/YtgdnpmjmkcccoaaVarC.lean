/- Contracts of vary: puts, PutU, Put, PutRow. -/
import Derived.Test.YtgdnpmjmkcccoaaVarB
import Derived.Test.YtgdnpmjmkcccoaaMemC
namespace Go.Proofs.Ytgdnpmjmkcccoaa
open Go.RowKit Go.Shelf VB
set_option linter.unusedVariables false
attribute [local go_sem] Oper.semAt_some
/-- bytes, as cells -/
def bsV (l : List Nat) : List Value := l.map fun x => .int .u8 (x : Nat)
theorem bsV_len (l : List Nat) : (bsV l).length = l.length := by simp [bsV]
theorem bsV_app (l m : List Nat) : bsV (l ++ m) = bsV l ++ bsV m := by simp [bsV]
theorem bsV_one (l : List Nat) : ∀ v ∈ bsV l, v.oneCell' = true := by simp [bsV, Value.oneCell']
theorem u8_info : (Try.prog.info? 5).map (fun i => (i.zero, i.size, i.bytes)) = some (some (.int .u8 0), 1, 1) := by kernel_rfl
theorem u8_size : (Try.prog.info? 5).map (·.size) = some 1 := by kernel_rfl
/-- what a function hands back that hands back bytes in memory of their own -/
def RetB (l : List Nat) (w : World) (e : Ending) (w' : World) : Prop := ∃ C f, e = .returned (.slice C l.length f) ∧ w'.ownsRow w.heap.size 5 1 (.slice C l.length f) l.length (bsV l) ∧ Below w.heap.size w w'
theorem take_flat {vs : List Nat} {i : Nat} (h : i < vs.length) : (vs.take (i + 1)).flatMap vb = (vs.take i).flatMap vb ++ vb (vs.getD i 0) := by
  rw [List.take_succ_eq_append_getElem h, List.flatMap_append, List.getD_eq_getElem?_getD, List.getElem?_eq_getElem h]
  simp
theorem flat_len (vs : List Nat) (h : ∀ v ∈ vs, v < 18446744073709551616) : (vs.flatMap vb).length ≤ 10 * vs.length := by
  induction vs with
  | nil => simp
  | cons v vs ih =>
    rw [List.flatMap_cons, List.length_append, List.length_cons]
    have h1 := vb_len10 (h v List.mem_cons_self)
    have h2 := ih (fun x hx => h x (List.mem_cons_of_mem _ hx))
    omega
theorem zip_wp {F : Fence} {n : Nat} {P : Program} {c : Code} {Q : Exit → Act → World → Prop} {t : Array Value} {p : Tmp} {v : Value} {ds : List Deferred} {W : World} (h : c.wpIn F n P Q { tmps := t.setIfInBounds p v, defers := ds } W) :
    c.wpIn F n P Q { tmps := (#[p].zip #[v]).foldl (fun t (p, v) => t.setIfInBounds p v) t, defers := ds } W := by
  have e : (#[p].zip #[v]).foldl (fun t (p, v) => t.setIfInBounds p v) t = t.setIfInBounds p v := by simp
  rw [e]; exact h
theorem box_ne {w : World} {b0 base n z : Nat} {T e : TypeId} {v u : Value} {xs : List Value} (h : w.ownsRow base e z v n xs) (hb : Boxed w b0 T u) (hne : e ≠ T) : v.ownBlock ≠ some b0 := by
  rcases h.2 with ⟨rfl, _⟩ | ⟨g, cap, cur, rfl, _, hg, _⟩
  · simp [Value.ownBlock]
  · intro he
    simp [Value.ownBlock] at he
    subst he
    rw [show w.heap[g]? = _ from hb] at hg
    cases hg
    exact hne rfl
theorem obj_ne {w : World} {base n z r : Nat} {e : TypeId} {v : Value} {xs : List Value} {o : Obj} (h : w.ownsRow base e z v n xs) (hr : w.heap[r]? = some o) (ho : o.isCells = false) : v.ownBlock ≠ some r := by
  rcases h.2 with ⟨rfl, _⟩ | ⟨g, cap, cur, rfl, _, hg, _⟩
  · simp [Value.ownBlock]
  · intro he
    simp [Value.ownBlock] at he
    subst he
    rw [hr] at hg
    cases hg
    cases ho
theorem own_cells {w w' : World} {base n z : Nat} {e : TypeId} {v : Value} {xs : List Value} (h : w.ownsRow base e z v n xs) (hc : ∀ (k : Nat) (o : Obj), w.heap[k]? = some o → o.isCells = true → w'.heap[k]? = some o) : w'.ownsRow base e z v n xs := by
  refine ⟨h.1, ?_⟩
  rcases h.2 with h2 | ⟨g, cap, cur, rfl, hb, hg, rest⟩
  · exact .inl h2
  · exact .inr ⟨g, cap, cur, rfl, hb, hc _ _ hg rfl, rest⟩
theorem bsV_snoc (l m : List Nat) (x : Nat) : bsV (l ++ (m ++ [x])) = bsV (l ++ m) ++ [.int .u8 (x : Nat)] := by simp [bsV]
theorem len_snoc {l m : List Nat} {k : Nat} (x : Nat) (h : k = (l ++ m).length) : (l ++ (m ++ [x])).length = k + 1 := by rw [h]; simp; omega
theorem below_of' {w w1 w2 : World} (h : Below w.heap.size w w1) (h2 : Below w1.heap.size w1 w2) : Below w.heap.size w w2 := h.trans (h2.mono h.size)

set_option maxRecDepth 100000 in
set_option maxHeartbeats 2000000 in
theorem puts_u (A L : Option Addr) (n c k cl : Nat) (bs : List Nat) (zs : List Int) (w : World) (hb : Reads w 5 1 A n (bsV bs)) (hbl : bs.length = n) (hn : n ≤ 1000000)
    (hz : Reads w 94 1 L k (zs.map (Value.int .u64))) (hzl : zs.length = k) (hk : k ≤ 1000) (hr : ∀ z ∈ zs, 0 ≤ z ∧ z ≤ 18446744073709551615) :
    Calls Try.prog 106 #[.slice A n c, .func (.func 107) #[] #[], .slice L k cl] w (RetB (bs ++ (zs.map Int.toNat).flatMap vb) w) := by
  have HB := Lib.hid hb
  have HZ := Lib.hid hz
  have HBL := Lib.hid hbl
  have HZL := Lib.hid hzl
  have HR := Lib.hid hr
  clear hb hz hbl hzl hr
  refine (callsIn_wide (n := 9)).1 (callsIn_of_wp_marks Try.func106 rfl trivial (wpIn_wide.2 ?_) rfl)
  simp only [Try.ntmps106, List.size_toArray, List.length_cons, List.length_nil, Nat.reduceAdd, Nat.reduceSub, Array.replicate_succ, Array.replicate_zero, List.push_toArray, List.append_toArray, List.nil_append, List.cons_append]
  go_wp2_with (first | (at_make; refine wpList_make_len rfl _ _ 31 rfl 5 (.int .u8 0) 1 Try.underlying31 u8_info _ _ n (n + k + 8) _ _ rfl rfl rfl (by omega) (by omega) (by omega) (by omega) ?_; intro cur hcur) | (refine wpList_copy_head (o := ⟨some 23, _, _, _, _, _⟩) rfl (.tmp 21) (.tmp 22) 31 31 rfl 5 Try.underlying31 u8_size w.heap.size n (n + k + 8) A c rfl rfl cur ((Below.heap_alloc _ _ _ (by simp)).trans (heap_alloc_new w _)) hcur (by omega) (by simp only [maxLen]; omega) w.heap.size (Nat.le_refl _) (bsV bs) ((HB.out.alloc _).alloc _) (bsV_one bs) ?_; intro w1 hown hgr))
  have hbox : Boxed w1 (w.heap.size + 1) 31 (.slice (some ⟨w.heap.size, 0, none⟩) n (n + k + 8)) := by
    have h0 := Boxed.new (w.alloc (.cells cur.toArray 5)) 31 (.slice (some ⟨w.heap.size, 0, none⟩) n (n + k + 8))
    rw [World.size_alloc] at h0
    exact h0.kept hgr (fun e => by injection e with e; omega)
  have hbw : Below w.heap.size w w1 := (((Below.refl _ _).alloc (Nat.le_refl _) _).alloc (by simp) _).grown hgr (by simp; omega) (fun k hk => by cases hk; exact Nat.le_refl _)
  clear hgr hcur
  obtain ⟨vs, hvs⟩ : ∃ vs : List Nat, vs = zs.map Int.toNat := ⟨_, rfl⟩
  rw [← hvs]
  have hvl : vs.length = k := by rw [hvs, List.length_map]; exact HZL.out
  have hvb : ∀ v ∈ vs, v < 18446744073709551616 := by
    rw [hvs]
    intro v hv
    obtain ⟨z, hz, rfl⟩ := List.mem_map.1 hv
    have := HR.out z hz
    omega
  have HVS := Lib.hid hvs
  have HVL := Lib.hid hvl
  have HVB := Lib.hid hvb
  clear hvs hvl hvb
  refine wp_loop (fun a wr => ∃ (i : Nat) (C : Option Addr) (f : Nat) (ds : List Deferred) (u9 u10 u11 u27 u28 u29 u30 u31 u32 u33 u34 u35 u36 u37 u38 u39 u40 u41 : Value), i ≤ k ∧ a = ⟨#[.slice A n c, .func (.func 107) #[] #[], .slice L k cl, undef, undef, undef, .slice none 0 0, .pointer (some ⟨w.heap.size + 1, 0, none⟩), undef, u9, u10, u11, .slice A n c, .int .i64 n, .slice A n c, .int .i64 n, .slice L k cl, .int .i64 k, .int .i64 ((n : Int) + k), .int .i64 ((n : Int) + k + 8), .slice (some ⟨w.heap.size, 0, none⟩) n (n + k + 8), .slice (some ⟨w.heap.size, 0, none⟩) n (n + k + 8), .slice A n c, .int .i64 n, .slice L k cl, .int .i64 k, .int .i64 (i : Nat), u27, u28, u29, u30, u31, u32, u33, u34, u35, u36, u37, u38, u39, u40, u41, undef], ds⟩ ∧
      Boxed wr (w.heap.size + 1) 31 (.slice C (bs ++ (vs.take i).flatMap vb).length f) ∧ wr.ownsRow w.heap.size 5 1 (.slice C (bs ++ (vs.take i).flatMap vb).length f) (bs ++ (vs.take i).flatMap vb).length (bsV (bs ++ (vs.take i).flatMap vb)) ∧ Below w.heap.size w wr ∧ Marks w.heap.size wr ds)
    (fun a _ => k - (intOf (a.tmps.getD 26 undef)).toNat) ?start ?round
  case start =>
    refine ⟨0, some ⟨w.heap.size, 0, none⟩, n + k + 8, [], undef, undef, undef, undef, undef, undef, undef, undef, undef, undef, undef, undef, undef, undef, undef, undef, undef, undef, Nat.zero_le _, rfl, ?_, ?_, hbw, trivial⟩
    · simpa [HBL.out] using hbox
    · simpa [HBL.out] using hown
  case round =>
    rintro a wr ⟨i, C, f, ds, u9, u10, u11, u27, u28, u29, u30, u31, u32, u33, u34, u35, u36, u37, u38, u39, u40, u41, hi, rfl, hbx, hrow, hB, hM⟩
    clear hbox hown hbw cur w1
    have hacc : (bs ++ (vs.take i).flatMap vb).length ≤ 1010000 := by
      rw [List.length_append, HBL.out]
      have h1 := flat_len (vs.take i) (fun v hv => HVB.out v (List.mem_of_mem_take hv))
      rw [List.length_take] at h1
      omega
    by_cases hlt : i < k
    · have hgb : w.heap.size + 1 < wr.heap.size := hbx.lt
      obtain ⟨ad, u, rfl, hx1, cx⟩ := (HZ.out.below hB).at_ hlt
      obtain ⟨z, hz0⟩ : ∃ z, z = zs.getD i 0 := ⟨_, rfl⟩
      have hx2 : u = .int .u64 z := by
        rw [List.getElem?_map, List.getElem?_eq_getElem (by rw [HZL.out]; exact hlt)] at hx1
        rw [hz0, List.getD_eq_getElem?_getD, List.getElem?_eq_getElem (by rw [HZL.out]; exact hlt)]
        cases hx1
        rfl
      subst hx2
      have hzr := HR.out z (by rw [hz0, List.getD_eq_getElem?_getD, List.getElem?_eq_getElem (by rw [HZL.out]; exact hlt)]; exact List.getElem_mem _)
      obtain ⟨q, hq⟩ : ∃ q, q = vs.getD i 0 := ⟨_, rfl⟩
      have hqz : q = Int.toNat z := by
        rw [hq, hz0, HVS.out, List.getD_eq_getElem?_getD, List.getD_eq_getElem?_getD, List.getElem?_map, List.getElem?_eq_getElem (by rw [HZL.out]; exact hlt)]
        rfl
      have hq64 : q < 18446744073709551616 := by rw [hqz]; omega
      have htk := take_flat (vs := vs) (i := i) (by rw [HVL.out]; exact hlt)
      rw [← hq] at htk
      obtain ⟨acc, ha⟩ : ∃ acc, acc = bs ++ (vs.take i).flatMap vb := ⟨_, rfl⟩
      have hnx : bs ++ (vs.take (i + 1)).flatMap vb = acc ++ vb q := by rw [htk, ha, List.append_assoc]
      rw [← ha] at hbx hrow hacc
      have HNX := Lib.hid hnx
      have HM := Lib.hid hM
      have HROW := Lib.hid hrow
      have HBX := Lib.hid hbx
      have HC := Lib.hid (show ∀ W, Calls Try.prog 107 #[.int .u64 z] W fun e w' => e = .returned (.int .u64 (q : Nat)) ∧ W = w' from fun W => by rw [hqz, Int.toNat_of_nonneg hzr.1]; exact plain_c z W)
      have hq10 := vb_len10 hq64
      clear hx1 hz0 hq hqz htk ha hnx hM hrow hbx
      go_wp2_with fail
      refine (HC.out _).mono ?_; rintro e w' ⟨rfl, rfl⟩
      go_wp2_with fail
      refine (bytes_c _ _).mono ?_; rintro e w' ⟨rfl, rfl⟩
      go_wp2_with fail
      have hb0 : Boxed (wr.alloc (.cells #[.int .u64 (q : Nat)] 147)) wr.heap.size 147 (.int .u64 (q : Nat)) := Boxed.new _ _ _
      have hsz : (wr.alloc (.cells #[.int .u64 (q : Nat)] 147)).heap.size = wr.heap.size + 1 := by simp
      have hbx0 := HBX.out.alloc (.cells #[.int .u64 (q : Nat)] 147)
      have hrow0 := HROW.out.alloc (.cells #[.int .u64 (q : Nat)] 147)
      have hB0 := hB.alloc hB.size (.cells #[.int .u64 (q : Nat)] 147)
      have hM0 : Marks w.heap.size (wr.alloc (.cells #[.int .u64 (q : Nat)] 147)) ds := HM.out.keep fun D hD hh => (Below.heap_alloc _ _ _ (HM.out.lt D hD).1).trans hh
      generalize wr.alloc (.cells #[.int .u64 (q : Nat)] 147) = W0 at *
      refine wpIn_wide.1 (wpIn_rangeFunc_cellE (n := 9) (F := Fence.wide) rfl (fun h => absurd h (by simp [Fence.wide])) (gf := 145) (lb := #[.pointer (some ⟨wr.heap.size, 0, none⟩)]) rfl trivial enters46 hb0 (bytes_seq 8 q _ hq64) (fun _ => rfl)
        (fun pre W => ∃ C f, Boxed W (w.heap.size + 1) 31 (.slice C (acc ++ pre).length f) ∧ W.ownsRow w.heap.size 5 1 (.slice C (acc ++ pre).length f) (acc ++ pre).length (bsV (acc ++ pre)) ∧ Below w.heap.size w W ∧ Marks w.heap.size W ds) ?own ⟨C, f, by simpa using hbx0, by simpa using hrow0, hB0, hM0⟩ ?rnd ?done)
      case own =>
        rintro s A B row ⟨C2, f2, h1, h2, h3, h4⟩ hg hr
        refine ⟨C2, f2, h1.kept hg (fun e => ?_), h2.kept hg ?_, h3.grown hg h3.size (fun k e => ?_), h4.keep fun D hD hh => (hg.block D (Array.getElem?_eq_some_iff.1 hh).1 (fun e => ?_)).trans hh⟩
        · rcases hr _ e.symm with ⟨h, _⟩ | ⟨h, _⟩ <;> omega
        · by_cases hn : (Value.slice C2 (acc ++ s).length f2).ownBlock = none
          · exact .inl hn
          · refine .inr fun e => ?_
            cases hrow' : row with
            | none => rw [hrow'] at e; exact hn e
            | some r =>
              rw [hrow'] at e
              rcases hr r hrow' with ⟨h, v, hv⟩ | ⟨h, o, ho, hc⟩
              · subst h; exact box_ne h2 hv (by decide) e
              · exact obj_ne h2 ho hc e
        · rcases hr _ e with ⟨h, _⟩ | ⟨h, _⟩ <;> omega
        · have hDl := (HM.out.lt D hD).1
          rcases hr _ e.symm with ⟨h, _⟩ | ⟨h, _⟩ <;> omega
      case rnd =>
        apply Exists.intro
        apply And.intro
        · intro l x W K hK
          refine zip_wp ?_
          gi_wp2
          exact hK
        · rintro l pre x W v ⟨C2, f2, h1, h2, h3, h4⟩ hbv hpre hsz2
          have hlen := prefix_len hpre
          obtain ⟨m, hm⟩ : ∃ m, m = (acc ++ pre).length := ⟨_, rfl⟩
          rw [← hm] at h1 h2
          have hmb : m ≤ 1010020 := by rw [hm, List.length_append]; omega
          have hBs := h3.size
          have hc := h1.cell
          have hf := h1.frozen
          have HMM := Lib.hid hm
          have H1 := Lib.hid h1
          have H2 := Lib.hid h2
          have HBV := Lib.hid hbv
          obtain ⟨i0, hi0, hz1, hz2, hz3⟩ := info_parts u8_info
          clear hm h1 h2 hbv hbx0 hrow0 hb0
          gi_wp2_with (gi_at_builtin; refine wpListIn_append_own _ rfl (.tmp 37) (.tmp 39) 31 rfl w.heap.size 5 i0 (.int .u8 0) 1 1 Try.underlying31 hi0 hz1 hz2 hz3 rfl (by decide) _ _ _ rfl (H2.out.alloc _) ⟨W.heap.size, 0, none⟩ 1 1 [.int .u8 (x : Nat)] rfl rfl (cell_one_new _ _ _) (by simp [Value.oneCell']) (by simp only [maxLen]; omega) (by omega) (by simp; omega) ?_; intro v' w1 hown' hgrow _; obtain ⟨g', cap', rfl⟩ := ownsRow_succ hown'; obtain ⟨hv1, hv2, hr2, hk2, hb2⟩ := H1.out.appended (by decide) H2.out hBs (Nat.le_succ _) hown' hgrow; have hc1 := hv1.cell; have hf1 := hv1.frozen)
          refine ⟨hk2.from _, ?_, some ⟨g', 0, none⟩, cap', ?_, ?_, h3.trans hb2, h4.keep fun D hD hh => hk2.same D _ hh rfl⟩
          · exact (Below.heap_setCell _ _ _ _ (by dsimp only; omega)).trans ((hgrow.block wr.heap.size (by simp; omega) (fun e => box_ne H2.out HBV.out (by decide) e.symm)).trans (Below.heap_alloc _ _ _ HBV.out.lt))
          · rw [len_snoc x HMM.out]; exact hv2
          · rw [len_snoc x HMM.out, bsV_snoc]; exact hr2
      case done =>
        rintro D W hD ⟨C2, f2, h1, h2, h3, h4⟩ hK
        have hM2 := hM0.cons h4 hD (Nat.le_trans hB0.size hD) hK
        rw [← HNX.out] at h1 h2
        have HX1 := Lib.hid h1
        have HX2 := Lib.hid h2
        have HX3 := Lib.hid hM2
        clear h1 h2 h4 hM2 hM0 hrow0 hbx0 hb0 hK
        go_wp2
        exact ⟨⟨i + 1, C2, f2, _, _, _, _, _, _, _, _, _, _, _, _, _, _, _, _, _, _, _, by omega, rfl, HX1.out, HX2.out, h3, HX3.out⟩, by simp [intOf]; omega⟩
    · obtain rfl : i = k := by omega
      have hc := hbx.cell
      have htk : vs.take i = vs := List.take_of_length_le (by rw [HVL.out]; exact Nat.le_refl _)
      rw [htk] at hc hrow
      obtain ⟨acc, ha⟩ : ∃ acc, acc = bs ++ vs.flatMap vb := ⟨_, rfl⟩
      rw [← ha] at hc hrow
      have HE := Lib.hid (show bs ++ (zs.map Int.toNat).flatMap vb = acc by rw [ha, HVS.out])
      have HM := Lib.hid hM
      have HROW := Lib.hid hrow
      clear hM hrow htk ha hbx hacc
      go_wp2
      exact leaves_marks ds wr HM.out hB.size fun w' hb' hc' => ⟨_, results_tmp rfl _ _ _, by rw [HE.out]; exact ⟨C, f, rfl, own_cells HROW.out hc', hB.trans hb'⟩⟩

set_option maxRecDepth 100000 in
set_option maxHeartbeats 2000000 in
theorem puts_i (A L : Option Addr) (n c k cl : Nat) (bs : List Nat) (zs : List Int) (w : World) (hb : Reads w 5 1 A n (bsV bs)) (hbl : bs.length = n) (hn : n ≤ 1000000)
    (hz : Reads w 2 1 L k (zs.map (Value.int .i64))) (hzl : zs.length = k) (hk : k ≤ 1000) (hr : ∀ z ∈ zs, -9223372036854775808 ≤ z ∧ z ≤ 9223372036854775807) :
    Calls Try.prog 108 #[.slice A n c, .func (.func 109) #[] #[], .slice L k cl] w (RetB (bs ++ (zs.map fold64).flatMap vb) w) := by
  have HB := Lib.hid hb
  have HZ := Lib.hid hz
  have HBL := Lib.hid hbl
  have HZL := Lib.hid hzl
  have HR := Lib.hid hr
  clear hb hz hbl hzl hr
  refine (callsIn_wide (n := 9)).1 (callsIn_of_wp_marks Try.func108 rfl trivial (wpIn_wide.2 ?_) rfl)
  simp only [Try.ntmps108, List.size_toArray, List.length_cons, List.length_nil, Nat.reduceAdd, Nat.reduceSub, Array.replicate_succ, Array.replicate_zero, List.push_toArray, List.append_toArray, List.nil_append, List.cons_append]
  go_wp2_with (first | (at_make; refine wpList_make_len rfl _ _ 31 rfl 5 (.int .u8 0) 1 Try.underlying31 u8_info _ _ n (n + k + 8) _ _ rfl rfl rfl (by omega) (by omega) (by omega) (by omega) ?_; intro cur hcur) | (refine wpList_copy_head (o := ⟨some 23, _, _, _, _, _⟩) rfl (.tmp 21) (.tmp 22) 31 31 rfl 5 Try.underlying31 u8_size w.heap.size n (n + k + 8) A c rfl rfl cur ((Below.heap_alloc _ _ _ (by simp)).trans (heap_alloc_new w _)) hcur (by omega) (by simp only [maxLen]; omega) w.heap.size (Nat.le_refl _) (bsV bs) ((HB.out.alloc _).alloc _) (bsV_one bs) ?_; intro w1 hown hgr))
  have hbox : Boxed w1 (w.heap.size + 1) 31 (.slice (some ⟨w.heap.size, 0, none⟩) n (n + k + 8)) := by
    have h0 := Boxed.new (w.alloc (.cells cur.toArray 5)) 31 (.slice (some ⟨w.heap.size, 0, none⟩) n (n + k + 8))
    rw [World.size_alloc] at h0
    exact h0.kept hgr (fun e => by injection e with e; omega)
  have hbw : Below w.heap.size w w1 := (((Below.refl _ _).alloc (Nat.le_refl _) _).alloc (by simp) _).grown hgr (by simp; omega) (fun k hk => by cases hk; exact Nat.le_refl _)
  clear hgr hcur
  obtain ⟨vs, hvs⟩ : ∃ vs : List Nat, vs = zs.map fold64 := ⟨_, rfl⟩
  rw [← hvs]
  have hvl : vs.length = k := by rw [hvs, List.length_map]; exact HZL.out
  have hvb : ∀ v ∈ vs, v < 18446744073709551616 := by
    rw [hvs]
    intro v hv
    obtain ⟨z, hz, rfl⟩ := List.mem_map.1 hv
    have := HR.out z hz
    exact fold64_lt (by omega) (by omega)
  have HVS := Lib.hid hvs
  have HVL := Lib.hid hvl
  have HVB := Lib.hid hvb
  clear hvs hvl hvb
  refine wp_loop (fun a wr => ∃ (i : Nat) (C : Option Addr) (f : Nat) (ds : List Deferred) (u9 u10 u11 u27 u28 u29 u30 u31 u32 u33 u34 u35 u36 u37 u38 u39 u40 u41 : Value), i ≤ k ∧ a = ⟨#[.slice A n c, .func (.func 109) #[] #[], .slice L k cl, undef, undef, undef, .slice none 0 0, .pointer (some ⟨w.heap.size + 1, 0, none⟩), undef, u9, u10, u11, .slice A n c, .int .i64 n, .slice A n c, .int .i64 n, .slice L k cl, .int .i64 k, .int .i64 ((n : Int) + k), .int .i64 ((n : Int) + k + 8), .slice (some ⟨w.heap.size, 0, none⟩) n (n + k + 8), .slice (some ⟨w.heap.size, 0, none⟩) n (n + k + 8), .slice A n c, .int .i64 n, .slice L k cl, .int .i64 k, .int .i64 (i : Nat), u27, u28, u29, u30, u31, u32, u33, u34, u35, u36, u37, u38, u39, u40, u41, undef], ds⟩ ∧
      Boxed wr (w.heap.size + 1) 31 (.slice C (bs ++ (vs.take i).flatMap vb).length f) ∧ wr.ownsRow w.heap.size 5 1 (.slice C (bs ++ (vs.take i).flatMap vb).length f) (bs ++ (vs.take i).flatMap vb).length (bsV (bs ++ (vs.take i).flatMap vb)) ∧ Below w.heap.size w wr ∧ Marks w.heap.size wr ds)
    (fun a _ => k - (intOf (a.tmps.getD 26 undef)).toNat) ?start ?round
  case start =>
    refine ⟨0, some ⟨w.heap.size, 0, none⟩, n + k + 8, [], undef, undef, undef, undef, undef, undef, undef, undef, undef, undef, undef, undef, undef, undef, undef, undef, undef, undef, Nat.zero_le _, rfl, ?_, ?_, hbw, trivial⟩
    · simpa [HBL.out] using hbox
    · simpa [HBL.out] using hown
  case round =>
    rintro a wr ⟨i, C, f, ds, u9, u10, u11, u27, u28, u29, u30, u31, u32, u33, u34, u35, u36, u37, u38, u39, u40, u41, hi, rfl, hbx, hrow, hB, hM⟩
    clear hbox hown hbw cur w1
    have hacc : (bs ++ (vs.take i).flatMap vb).length ≤ 1010000 := by
      rw [List.length_append, HBL.out]
      have h1 := flat_len (vs.take i) (fun v hv => HVB.out v (List.mem_of_mem_take hv))
      rw [List.length_take] at h1
      omega
    by_cases hlt : i < k
    · have hgb : w.heap.size + 1 < wr.heap.size := hbx.lt
      obtain ⟨ad, u, rfl, hx1, cx⟩ := (HZ.out.below hB).at_ hlt
      obtain ⟨z, hz0⟩ : ∃ z, z = zs.getD i 0 := ⟨_, rfl⟩
      have hx2 : u = .int .i64 z := by
        rw [List.getElem?_map, List.getElem?_eq_getElem (by rw [HZL.out]; exact hlt)] at hx1
        rw [hz0, List.getD_eq_getElem?_getD, List.getElem?_eq_getElem (by rw [HZL.out]; exact hlt)]
        cases hx1
        rfl
      subst hx2
      have hzr := HR.out z (by rw [hz0, List.getD_eq_getElem?_getD, List.getElem?_eq_getElem (by rw [HZL.out]; exact hlt)]; exact List.getElem_mem _)
      obtain ⟨q, hq⟩ : ∃ q, q = vs.getD i 0 := ⟨_, rfl⟩
      have hqz : q = fold64 z := by
        rw [hq, hz0, HVS.out, List.getD_eq_getElem?_getD, List.getD_eq_getElem?_getD, List.getElem?_map, List.getElem?_eq_getElem (by rw [HZL.out]; exact hlt)]
        rfl
      have hq64 : q < 18446744073709551616 := by rw [hqz]; exact fold64_lt (by omega) (by omega)
      have htk := take_flat (vs := vs) (i := i) (by rw [HVL.out]; exact hlt)
      rw [← hq] at htk
      obtain ⟨acc, ha⟩ : ∃ acc, acc = bs ++ (vs.take i).flatMap vb := ⟨_, rfl⟩
      have hnx : bs ++ (vs.take (i + 1)).flatMap vb = acc ++ vb q := by rw [htk, ha, List.append_assoc]
      rw [← ha] at hbx hrow hacc
      have HNX := Lib.hid hnx
      have HM := Lib.hid hM
      have HROW := Lib.hid hrow
      have HBX := Lib.hid hbx
      have HC := Lib.hid (show ∀ W, Calls Try.prog 109 #[.int .i64 z] W fun e w' => e = .returned (.int .u64 (q : Nat)) ∧ W = w' from fun W => by rw [hqz]; exact folded_c z hzr.1 hzr.2 W)
      have hq10 := vb_len10 hq64
      clear hx1 hz0 hq hqz htk ha hnx hM hrow hbx
      go_wp2_with fail
      refine (HC.out _).mono ?_; rintro e w' ⟨rfl, rfl⟩
      go_wp2_with fail
      refine (bytes_c _ _).mono ?_; rintro e w' ⟨rfl, rfl⟩
      go_wp2_with fail
      have hb0 : Boxed (wr.alloc (.cells #[.int .u64 (q : Nat)] 147)) wr.heap.size 147 (.int .u64 (q : Nat)) := Boxed.new _ _ _
      have hsz : (wr.alloc (.cells #[.int .u64 (q : Nat)] 147)).heap.size = wr.heap.size + 1 := by simp
      have hbx0 := HBX.out.alloc (.cells #[.int .u64 (q : Nat)] 147)
      have hrow0 := HROW.out.alloc (.cells #[.int .u64 (q : Nat)] 147)
      have hB0 := hB.alloc hB.size (.cells #[.int .u64 (q : Nat)] 147)
      have hM0 : Marks w.heap.size (wr.alloc (.cells #[.int .u64 (q : Nat)] 147)) ds := HM.out.keep fun D hD hh => (Below.heap_alloc _ _ _ (HM.out.lt D hD).1).trans hh
      generalize wr.alloc (.cells #[.int .u64 (q : Nat)] 147) = W0 at *
      refine wpIn_wide.1 (wpIn_rangeFunc_cellE (n := 9) (F := Fence.wide) rfl (fun h => absurd h (by simp [Fence.wide])) (gf := 145) (lb := #[.pointer (some ⟨wr.heap.size, 0, none⟩)]) rfl trivial enters46 hb0 (bytes_seq 8 q _ hq64) (fun _ => rfl)
        (fun pre W => ∃ C f, Boxed W (w.heap.size + 1) 31 (.slice C (acc ++ pre).length f) ∧ W.ownsRow w.heap.size 5 1 (.slice C (acc ++ pre).length f) (acc ++ pre).length (bsV (acc ++ pre)) ∧ Below w.heap.size w W ∧ Marks w.heap.size W ds) ?own ⟨C, f, by simpa using hbx0, by simpa using hrow0, hB0, hM0⟩ ?rnd ?done)
      case own =>
        rintro s A B row ⟨C2, f2, h1, h2, h3, h4⟩ hg hr
        refine ⟨C2, f2, h1.kept hg (fun e => ?_), h2.kept hg ?_, h3.grown hg h3.size (fun k e => ?_), h4.keep fun D hD hh => (hg.block D (Array.getElem?_eq_some_iff.1 hh).1 (fun e => ?_)).trans hh⟩
        · rcases hr _ e.symm with ⟨h, _⟩ | ⟨h, _⟩ <;> omega
        · by_cases hn : (Value.slice C2 (acc ++ s).length f2).ownBlock = none
          · exact .inl hn
          · refine .inr fun e => ?_
            cases hrow' : row with
            | none => rw [hrow'] at e; exact hn e
            | some r =>
              rw [hrow'] at e
              rcases hr r hrow' with ⟨h, v, hv⟩ | ⟨h, o, ho, hc⟩
              · subst h; exact box_ne h2 hv (by decide) e
              · exact obj_ne h2 ho hc e
        · rcases hr _ e with ⟨h, _⟩ | ⟨h, _⟩ <;> omega
        · have hDl := (HM.out.lt D hD).1
          rcases hr _ e.symm with ⟨h, _⟩ | ⟨h, _⟩ <;> omega
      case rnd =>
        apply Exists.intro
        apply And.intro
        · intro l x W K hK
          refine zip_wp ?_
          gi_wp2
          exact hK
        · rintro l pre x W v ⟨C2, f2, h1, h2, h3, h4⟩ hbv hpre hsz2
          have hlen := prefix_len hpre
          obtain ⟨m, hm⟩ : ∃ m, m = (acc ++ pre).length := ⟨_, rfl⟩
          rw [← hm] at h1 h2
          have hmb : m ≤ 1010020 := by rw [hm, List.length_append]; omega
          have hBs := h3.size
          have hc := h1.cell
          have hf := h1.frozen
          have HMM := Lib.hid hm
          have H1 := Lib.hid h1
          have H2 := Lib.hid h2
          have HBV := Lib.hid hbv
          obtain ⟨i0, hi0, hz1, hz2, hz3⟩ := info_parts u8_info
          clear hm h1 h2 hbv hbx0 hrow0 hb0
          gi_wp2_with (gi_at_builtin; refine wpListIn_append_own _ rfl (.tmp 37) (.tmp 39) 31 rfl w.heap.size 5 i0 (.int .u8 0) 1 1 Try.underlying31 hi0 hz1 hz2 hz3 rfl (by decide) _ _ _ rfl (H2.out.alloc _) ⟨W.heap.size, 0, none⟩ 1 1 [.int .u8 (x : Nat)] rfl rfl (cell_one_new _ _ _) (by simp [Value.oneCell']) (by simp only [maxLen]; omega) (by omega) (by simp; omega) ?_; intro v' w1 hown' hgrow _; obtain ⟨g', cap', rfl⟩ := ownsRow_succ hown'; obtain ⟨hv1, hv2, hr2, hk2, hb2⟩ := H1.out.appended (by decide) H2.out hBs (Nat.le_succ _) hown' hgrow; have hc1 := hv1.cell; have hf1 := hv1.frozen)
          refine ⟨hk2.from _, ?_, some ⟨g', 0, none⟩, cap', ?_, ?_, h3.trans hb2, h4.keep fun D hD hh => hk2.same D _ hh rfl⟩
          · exact (Below.heap_setCell _ _ _ _ (by dsimp only; omega)).trans ((hgrow.block wr.heap.size (by simp; omega) (fun e => box_ne H2.out HBV.out (by decide) e.symm)).trans (Below.heap_alloc _ _ _ HBV.out.lt))
          · rw [len_snoc x HMM.out]; exact hv2
          · rw [len_snoc x HMM.out, bsV_snoc]; exact hr2
      case done =>
        rintro D W hD ⟨C2, f2, h1, h2, h3, h4⟩ hK
        have hM2 := hM0.cons h4 hD (Nat.le_trans hB0.size hD) hK
        rw [← HNX.out] at h1 h2
        have HX1 := Lib.hid h1
        have HX2 := Lib.hid h2
        have HX3 := Lib.hid hM2
        clear h1 h2 h4 hM2 hM0 hrow0 hbx0 hb0 hK
        go_wp2
        exact ⟨⟨i + 1, C2, f2, _, _, _, _, _, _, _, _, _, _, _, _, _, _, _, _, _, _, _, by omega, rfl, HX1.out, HX2.out, h3, HX3.out⟩, by simp [intOf]; omega⟩
    · obtain rfl : i = k := by omega
      have hc := hbx.cell
      have htk : vs.take i = vs := List.take_of_length_le (by rw [HVL.out]; exact Nat.le_refl _)
      rw [htk] at hc hrow
      obtain ⟨acc, ha⟩ : ∃ acc, acc = bs ++ vs.flatMap vb := ⟨_, rfl⟩
      rw [← ha] at hc hrow
      have HE := Lib.hid (show bs ++ (zs.map fold64).flatMap vb = acc by rw [ha, HVS.out])
      have HM := Lib.hid hM
      have HROW := Lib.hid hrow
      clear hM hrow htk ha hbx hacc
      go_wp2
      exact leaves_marks ds wr HM.out hB.size fun w' hb' hc' => ⟨_, results_tmp rfl _ _ _, by rw [HE.out]; exact ⟨C, f, rfl, own_cells HROW.out hc', hB.trans hb'⟩⟩
end Go.Proofs.Ytgdnpmjmkcccoaa
