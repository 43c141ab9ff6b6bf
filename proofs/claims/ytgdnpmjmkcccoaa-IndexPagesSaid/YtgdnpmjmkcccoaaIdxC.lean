/- Entries in rows; contracts of index: may, Check (seats Index, Manifest). -/
import Derived.Test.YtgdnpmjmkcccoaaIdxB
namespace Go.Proofs.Ytgdnpmjmkcccoaa
open Go.RowKit Go.Shelf
open Go.Lib (hid)
set_option linter.unusedVariables false
set_option linter.unusedSimpArgs false
theorem recs_len {α : Type} {cf : α → List Value} {sz : Nat} (hs : ∀ x, (cf x).length = sz) : ∀ l : List α, (l.flatMap cf).length = l.length * sz
  | [] => by simp
  | x :: l => by rw [List.flatMap_cons, List.length_append, hs, recs_len hs l, List.length_cons, Nat.succ_mul, Nat.add_comm]
theorem recs_at {α : Type} {cf : α → List Value} {sz : Nat} (hs : ∀ x, (cf x).length = sz) : ∀ (l : List α) (i : Nat) (x : α), l[i]? = some x → ∀ j, j < sz → (l.flatMap cf)[i * sz + j]? = (cf x)[j]?
  | [], i, x, h, _, _ => by simp at h
  | y :: l, 0, x, h, j, hj => by
    simp at h
    subst h
    rw [List.flatMap_cons, Nat.zero_mul, Nat.zero_add, List.getElem?_append_left (by rw [hs]; exact hj)]
  | y :: l, i + 1, x, h, j, hj => by
    have ih := recs_at hs l i x (by simpa using h) j hj
    rw [List.flatMap_cons]
    have e1 : (i + 1) * sz + j = (cf y).length + (i * sz + j) := by rw [hs, Nat.succ_mul]; omega
    rw [e1, List.getElem?_append_right (by omega), Nat.add_sub_cancel_left, ih]
/-- the cells of a row's i-th member -/
theorem rec_at {α : Type} {cf : α → List Value} {sz : Nat} (hs : ∀ x, (cf x).length = sz) {w : World} {e : TypeId} {A : Option Addr} {n : Nat} {l : List α} (h : Reads w e sz A n (l.flatMap cf)) (h0 : 0 < sz) {i : Nat} (hi : i < n) :
    ∃ ad x, A = some ad ∧ l[i]? = some x ∧ i < l.length ∧ ∀ j v, (cf x)[j]? = some v → w.cell? ((ad.add (i * sz)).add j) = some v := by
  have hl : l.length = n := by have := h.1; rw [recs_len hs] at this; exact Nat.eq_of_mul_eq_mul_right h0 this
  obtain ⟨ad, e1, _, hc⟩ := h.2 (by omega)
  have hil : i < l.length := by omega
  refine ⟨ad, l[i], e1, List.getElem?_eq_getElem hil, hil, fun j v hv => ?_⟩
  have hj : j < sz := by rw [← hs l[i]]; exact (List.getElem?_eq_some_iff.1 hv).1
  rw [add_of_add]
  exact hc _ _ ((recs_at hs l i _ (List.getElem?_eq_getElem hil) j hj).trans hv)
/-- an entry -/
structure En where
  fs : Int
  ls : Int
  ct : Int
  by_ : Int
  ps : List Int
abbrev EnA := En × Option Addr × Nat
def cellsN (x : EnA) : List Value := [.int .i64 x.1.fs, .int .i64 x.1.ls, .int .i64 x.1.ct, .slice x.2.1 x.1.ps.length x.2.2, .int .i64 x.1.by_]
theorem cellsN_len (x : EnA) : (cellsN x).length = 5 := rfl
def EnIn (w : World) (x : EnA) : Prop := (∃ e, Reads w e 1 x.2.1 x.1.ps.length (x.1.ps.map (Value.int .i64))) ∧ x.1.ps.length ≤ 100000
def EnsIn (w : World) (l : List EnA) : Prop := ∀ x ∈ l, EnIn w x
theorem EnIn.below {w w' : World} {x : EnA} (h : EnIn w x) (hb : Below w.heap.size w w') : EnIn w' x := ⟨h.1.elim fun e k => ⟨e, k.below hb⟩, h.2⟩
theorem EnsIn.below {w w' : World} {l : List EnA} (h : EnsIn w l) (hb : Below w.heap.size w w') : EnsIn w' l := fun x hx => (h x hx).below hb
abbrev enB (x : En) (L : List Int) : Bool := isB x.fs x.ls x.ct x.by_ x.ps L
def behindB (pr : Option Int) (t : Int) : Bool :=
  match pr with
  | none => true
  | some s => decide (s < t)
/-- whether an index may be, some pages having been met, behind a time -/
def mayB : List En → List Int → Option Int → Bool
  | [], _, _ => true
  | x :: l, L, pr => enB x L && (behindB pr x.fs && mayB l (x.ps.reverse ++ L) (some x.ls))
theorem en_at {w : World} {e : TypeId} {A : Option Addr} {n : Nat} {l : List EnA} (h : Reads w e 5 A n (l.flatMap cellsN)) {i : Nat} (hi : i < n) :
    ∃ ad x, A = some ad ∧ l[i]? = some x ∧ i < l.length ∧ w.cell? (ad.add (i * 5)) = some (.int .i64 x.1.fs) ∧ w.cell? ⟨(ad.add (i * 5)).block, (ad.add (i * 5)).off + 1, none⟩ = some (.int .i64 x.1.ls) ∧ w.cell? ⟨(ad.add (i * 5)).block, (ad.add (i * 5)).off + 2, none⟩ = some (.int .i64 x.1.ct) ∧
      w.cell? ⟨(ad.add (i * 5)).block, (ad.add (i * 5)).off + 3, none⟩ = some (.slice x.2.1 x.1.ps.length x.2.2) ∧ w.cell? ⟨(ad.add (i * 5)).block, (ad.add (i * 5)).off + 4, none⟩ = some (.int .i64 x.1.by_) := by
  obtain ⟨ad, x, h1, h2, h3, h4⟩ := rec_at cellsN_len h (by omega) hi
  exact ⟨ad, x, h1, h2, h3, h4 0 _ rfl, h4 1 _ rfl, h4 2 _ rfl, h4 3 _ rfl, h4 4 _ rfl⟩
theorem met_new (w : World) : MetAt (w.alloc (.map #[] 0)) w.heap.size [] :=
  ⟨#[], 0, [], heap_alloc_new w _, rfl, by simp, by simp, by simp⟩
set_option maxRecDepth 100000 in
set_option maxHeartbeats 4000000 in
theorem may_c {e1 : TypeId} {w : World} {A : Option Addr} {n c : Nat} {l : List EnA} (hl : Reads w e1 5 A n (l.flatMap cellsN)) (hin : EnsIn w l) (hn : n ≤ 100000) (hs : (l.flatMap (fun x => x.1.ps)).length ≤ 900000) :
    Calls Try.prog 67 #[.slice A n c] w fun e w' => e = .returned (.bool (mayB (l.map Prod.fst) [] none)) ∧ Below w.heap.size w w' := by
  have hln : l.length = n := by have := hl.1; rw [recs_len cellsN_len] at this; omega
  have HL := hid hl
  have HI := hid hin
  have HS := hid hs
  have HN := hid hln
  clear hl hin hs hln
  have hmm : ∀ (t : TypeId) (w : World), (Instr.makeMap t none).run Try.prog w = .ok (.map (some w.heap.size)) (w.alloc (.map #[] 0)) := fun _ _ => rfl
  obtain ⟨b, hb⟩ : ∃ b, b = mayB (l.map Prod.fst) [] none := ⟨_, rfl⟩
  rw [← hb]
  have HBE := hid hb
  clear hb
  go_enter Try.func67, Try.ntmps67
  go_wp2_with fail
  go_loopw [10] (fun v wr => ∃ (k : Nat) (L : List Int), k ≤ n ∧ v = .int .i64 (k : Nat) ∧ Below w.heap.size w wr ∧ MetAt wr w.heap.size L ∧ Hid (b = mayB ((l.drop k).map Prod.fst) L (if k = 0 then none else (l[k-1]?).map fun x => x.1.ls) ∧ L.length = ((l.take k).flatMap (fun x => x.1.ps)).length)) (fun v _ => n - (intOf v).toNat)
  case atStart => exact ⟨0, [], Nat.zero_le _, rfl, (Below.refl _ _).alloc (Nat.le_refl _) _, met_new w, hid ⟨by rw [HBE.out]; rfl, rfl⟩⟩
  case round =>
    obtain ⟨k, L, hk, rfl, hbl, hmt, hbe⟩ := hrel
    by_cases hlt : k < n
    · obtain ⟨ad, x, rfl, hx, hxl, c0, c1, c2, c3, c4⟩ := en_at (HL.out.below hbl) hlt
      have hltI : (k : Int) < (n : Int) := by omega
      have h0I : (0 : Int) ≤ (k : Int) := by omega
      obtain ⟨e2, hr2⟩ := (HI.out x (List.mem_of_getElem? hx)).1
      have hxn := (HI.out x (List.mem_of_getElem? hx)).2
      obtain ⟨o5, ho5⟩ : ∃ o, o = Obj.cells #[.int .i64 x.1.fs, .int .i64 x.1.ls, .int .i64 x.1.ct, .slice x.2.1 x.1.ps.length x.2.2, .int .i64 x.1.by_] 45 := ⟨_, rfl⟩
      obtain ⟨o6, ho6⟩ : ∃ o, o = Obj.cells (ckC x.1.fs x.1.ls x.1.ct x.2.1 x.1.ps.length x.2.2 x.1.by_ w.heap.size) 139 := ⟨_, rfl⟩
      obtain ⟨W6, hW6⟩ : ∃ W, W = (wr.alloc o5).alloc o6 := ⟨_, rfl⟩
      have hmem : x ∈ l := List.mem_of_getElem? hx
      have hsum : ((l.take k).flatMap (fun x => x.1.ps)).length ≤ 900000 := Nat.le_trans (by
        have h := congrArg (fun t : List EnA => (t.flatMap (fun x => x.1.ps)).length) (List.take_append_drop k l)
        simp only [List.flatMap_append, List.length_append] at h
        omega) HS.out
      have hkc : Blk W6 (wr.heap.size + 1) 139 (ckC x.1.fs x.1.ls x.1.ct x.2.1 x.1.ps.length x.2.2 x.1.by_ w.heap.size) := by
        rw [hW6, ho6]; exact Blk.new_at (wr.alloc o5) _ _ (by simp)
      have hke : Blk W6 wr.heap.size 45 #[.int .i64 x.1.fs, .int .i64 x.1.ls, .int .i64 x.1.ct, .slice x.2.1 x.1.ps.length x.2.2, .int .i64 x.1.by_] := by
        rw [hW6, ho5]; exact (Blk.new _ _ _).alloc _
      have hmt6 : MetAt W6 w.heap.size L := by
        rw [hW6]; exact hmt.keep ((Below.heap_alloc _ _ _ (by have := hmt.lt; simp; omega)).trans (Below.heap_alloc _ _ _ hmt.lt))
      have hbl6 : Below w.heap.size w W6 := by
        rw [hW6]; exact (hbl.alloc hbl.size _).alloc (by have := hbl.size; simp; omega) _
      have HIS := hid (is_c (w := W6.drew) (e1 := e2) hkc.drew (hmt6.keep rfl) (hr2.below hbl6.drew) (by rw [hbe.out.2]; exact hsum) hxn)
      have HLE := hid (HL.out.below hbl6)
      have HKE := hid hke
      have HB6 := hid hbl6
      have HX := hid hx
      have HMT := hid hmt6
      have HSZ0 := hid hmt.lt
      clear hr2 hmem hsum hkc hke hmt6 hbl6 hmt hbl hx
      subst ho5
      subst ho6
      go_upto_region 6 with fail
      rw [← hW6]
      have hdr : l.drop k = x :: l.drop (k + 1) := by
        have h := List.drop_eq_getElem_cons hxl
        rw [show l[k] = x from Option.some.inj ((List.getElem?_eq_getElem hxl).symm.trans HX.out)] at h
        exact h
      have htk : l.take (k + 1) = l.take k ++ [x] := by
        rw [List.take_add_one, HX.out]; rfl
      have hlen : (x.1.ps.reverse ++ L).length = ((l.take (k + 1)).flatMap (fun x => x.1.ps)).length := by
        rw [htk, List.flatMap_append, List.length_append, List.length_append, List.length_reverse, hbe.out.2]; simp [Nat.add_comm]
      have hbx := hbe.out.1
      rw [hdr, List.map_cons, mayB] at hbx
      have HLN := hid hlen
      have HSZ := hid (show w.heap.size ≤ W6.heap.size ∧ w.heap.size < wr.heap.size from ⟨HB6.out.size, HSZ0.out⟩)
      clear hdr htk hlen hbe
      cases hen : enB x.1 L with
      | false =>
        rw [hen, Bool.false_and] at hbx
        rw [show isB x.1.fs x.1.ls x.1.ct x.1.by_ x.1.ps L = false from hen] at HIS
        have HBX := hid hbx
        clear hbx hen hW6
        have HF := hid (fun (w2 : World) (h : But w.heap.size W6.drew w2) => (show Ending.returned (.bool false) = .returned (.bool b) ∧ Below w.heap.size w w2 from ⟨by rw [HBX.out], h.undrew.below HB6.out (Nat.le_refl _) HB6.out.size⟩))
        refine wp_region_noPanic ?_
        refine wp_region_held_drew (S := fun _ => True) (by kernel_rfl) trivial (fun hHeld => ?_)
        refine wpAnyH_ready (rs := [0]) (by kernel_rfl) (by simp) ?_
        refine AllReadyH.cons rfl (fun K hK => ?_) AllReadyH.nil
        go_simp
        refine HIS.out.mono ?_
        rintro e w2 ⟨rfl, hb2, L', hm2, hL2⟩
        refine hK.out _ _ trivial (fun hHeld => ?_)
        clear hK K
        try simp only [List.getElem_toArray, List.getElem_cons_succ, List.getElem_cons_zero, Act.put, List.setIfInBounds_toArray, List.set_cons_zero, List.set_cons_succ]
        refine wpAnyH_take (i := 1) (v := ?_) rfl (by kernel_rfl) (by kernel_rfl) (by kernel_rfl) (fun _ _ _ h => h) (Or.inl ⟨by rfl, ?_⟩) (by assumption) ?_
        rotate_left
        · intro W hW
          go_simp
          try rfl
        simp only [List.getElem_toArray, List.getElem_cons_succ, List.getElem_cons_zero, Act.put, List.setIfInBounds_toArray, List.set_cons_zero, List.set_cons_succ]
        refine wpAnyH_take (i := 2) (v := ?_) rfl (by kernel_rfl) (by kernel_rfl) (by kernel_rfl) (fun _ _ _ h => h) (Or.inl ⟨by rfl, ?_⟩) (by assumption) ?_
        rotate_left
        · intro W hW
          go_simp
          try rfl
        simp only [List.getElem_toArray, List.getElem_cons_succ, List.getElem_cons_zero, Act.put, List.setIfInBounds_toArray, List.set_cons_zero, List.set_cons_succ]
        refine wpAnyH_take (i := 3) (v := undef) rfl (by kernel_rfl) (by kernel_rfl) (by kernel_rfl) (fun _ _ _ h => h) (Or.inr ⟨by rfl, rfl⟩) (by assumption) ?_
        simp only [List.getElem_toArray, List.getElem_cons_succ, List.getElem_cons_zero, Act.put, List.setIfInBounds_toArray, List.set_cons_zero, List.set_cons_succ]
        refine wpAnyH_take (i := 4) (v := undef) rfl (by kernel_rfl) (by kernel_rfl) (by kernel_rfl) (fun _ _ _ h => h) (Or.inr ⟨by rfl, rfl⟩) (by assumption) ?_
        simp only [List.getElem_toArray, List.getElem_cons_succ, List.getElem_cons_zero, Act.put, List.setIfInBounds_toArray, List.set_cons_zero, List.set_cons_succ]
        refine wpAnyH_take (i := 5) (v := undef) rfl (by kernel_rfl) (by kernel_rfl) (by kernel_rfl) (fun _ _ _ h => h) (Or.inr ⟨by rfl, rfl⟩) (by assumption) ?_
        simp only [List.getElem_toArray, List.getElem_cons_succ, List.getElem_cons_zero, Act.put, List.setIfInBounds_toArray, List.set_cons_zero, List.set_cons_succ]
        refine wpAnyH_take (i := 6) (v := undef) rfl (by kernel_rfl) (by kernel_rfl) (by kernel_rfl) (fun _ _ _ h => h) (Or.inr ⟨by rfl, rfl⟩) (by assumption) ?_
        simp only [List.getElem_toArray, List.getElem_cons_succ, List.getElem_cons_zero, Act.put, List.setIfInBounds_toArray, List.set_cons_zero, List.set_cons_succ]
        refine wpAnyH_take (i := 7) (v := undef) rfl (by kernel_rfl) (by kernel_rfl) (by kernel_rfl) (fun _ _ _ h => h) (Or.inr ⟨by rfl, rfl⟩) (by assumption) ?_
        simp only [List.getElem_toArray, List.getElem_cons_succ, List.getElem_cons_zero, Act.put, List.setIfInBounds_toArray, List.set_cons_zero, List.set_cons_succ]
        refine wpAnyH_take (i := 8) (v := undef) rfl (by kernel_rfl) (by kernel_rfl) (by kernel_rfl) (fun _ _ _ h => h) (Or.inr ⟨by rfl, rfl⟩) (by assumption) ?_
        simp only [List.getElem_toArray, List.getElem_cons_succ, List.getElem_cons_zero, Act.put, List.setIfInBounds_toArray, List.set_cons_zero, List.set_cons_succ]
        refine wpAnyH_take (i := 9) (v := undef) rfl (by kernel_rfl) (by kernel_rfl) (by kernel_rfl) (fun _ _ _ h => h) (Or.inr ⟨by rfl, rfl⟩) (by assumption) ?_
        simp only [List.getElem_toArray, List.getElem_cons_succ, List.getElem_cons_zero, Act.put, List.setIfInBounds_toArray, List.set_cons_zero, List.set_cons_succ]
        refine wpAnyH_take (i := 10) (v := undef) rfl (by kernel_rfl) (by kernel_rfl) (by kernel_rfl) (fun _ _ _ h => h) (Or.inr ⟨by rfl, rfl⟩) (by assumption) ?_
        simp only [List.getElem_toArray, List.getElem_cons_succ, List.getElem_cons_zero, Act.put, List.setIfInBounds_toArray, List.set_cons_zero, List.set_cons_succ]
        refine wpAnyH_take (i := 11) (v := undef) rfl (by kernel_rfl) (by kernel_rfl) (by kernel_rfl) (fun _ _ _ h => h) (Or.inr ⟨by rfl, rfl⟩) (by assumption) ?_
        simp only [List.getElem_toArray, List.getElem_cons_succ, List.getElem_cons_zero, Act.put, List.setIfInBounds_toArray, List.set_cons_zero, List.set_cons_succ]
        refine wpAnyH_take (i := 12) (v := undef) rfl (by kernel_rfl) (by kernel_rfl) (by kernel_rfl) (fun _ _ _ h => h) (Or.inr ⟨by rfl, rfl⟩) (by assumption) ?_
        simp only [List.getElem_toArray, List.getElem_cons_succ, List.getElem_cons_zero, Act.put, List.setIfInBounds_toArray, List.set_cons_zero, List.set_cons_succ]
        refine wpAnyH_take (i := 13) (v := undef) rfl (by kernel_rfl) (by kernel_rfl) (by kernel_rfl) (fun _ _ _ h => h) (Or.inr ⟨by rfl, rfl⟩) (by assumption) ?_
        simp only [List.getElem_toArray, List.getElem_cons_succ, List.getElem_cons_zero, Act.put, List.setIfInBounds_toArray, List.set_cons_zero, List.set_cons_succ]
        refine wpAnyH_take (i := 14) (v := undef) rfl (by kernel_rfl) (by kernel_rfl) (by kernel_rfl) (fun _ _ _ h => h) (Or.inr ⟨by rfl, rfl⟩) (by assumption) ?_
        simp only [List.getElem_toArray, List.getElem_cons_succ, List.getElem_cons_zero, Act.put, List.setIfInBounds_toArray, List.set_cons_zero, List.set_cons_succ]
        refine wpAnyH_take (i := 15) (v := undef) rfl (by kernel_rfl) (by kernel_rfl) (by kernel_rfl) (fun _ _ _ h => h) (Or.inr ⟨by rfl, rfl⟩) (by assumption) ?_
        simp only [List.getElem_toArray, List.getElem_cons_succ, List.getElem_cons_zero, Act.put, List.setIfInBounds_toArray, List.set_cons_zero, List.set_cons_succ]
        refine wpAnyH_take (i := 16) (v := ?_) rfl (by kernel_rfl) (by kernel_rfl) (by kernel_rfl) (fun _ _ _ h => h) (Or.inl ⟨by rfl, ?_⟩) (by assumption) ?_
        rotate_left
        · intro W hW
          go_simp
          try rfl
        simp only [List.getElem_toArray, List.getElem_cons_succ, List.getElem_cons_zero, Act.put, List.setIfInBounds_toArray, List.set_cons_zero, List.set_cons_succ]
        refine wpAnyH_done (by kernel_rfl) ?_ _
        refine NoPanic.normal ?_
        go_wp2_with fail
        go_ret
        exact HF.out _ (by assumption)
      | true =>
        rw [hen, Bool.true_and] at hbx
        rw [show isB x.1.fs x.1.ls x.1.ct x.1.by_ x.1.ps L = true from hen] at HIS
        have HBX := hid hbx
        clear hbx hen hW6
        by_cases hk0 : k = 0
        · have hk0I : decide (0 < k) = false := decide_eq_false (by omega)
          have HBY := hid (show b = mayB ((l.drop (k + 1)).map Prod.fst) (x.1.ps.reverse ++ L) (some x.1.ls) by
            have h := HBX.out
            rw [if_pos hk0] at h
            exact h)
          clear HBX hk0
          refine wp_region_noPanic ?_
          refine wp_region_held_drew (S := fun _ => True) (by kernel_rfl) trivial (fun hHeld => ?_)
          refine wpAnyH_ready (rs := [0]) (by kernel_rfl) (by simp) ?_
          refine AllReadyH.cons rfl (fun K hK => ?_) AllReadyH.nil
          go_simp
          refine HIS.out.mono ?_
          rintro e w2 ⟨rfl, hb2, L', hm2, hL2⟩
          refine hK.out _ _ trivial (fun hHeld => ?_)
          clear hK K
          try simp only [List.getElem_toArray, List.getElem_cons_succ, List.getElem_cons_zero, Act.put, List.setIfInBounds_toArray, List.set_cons_zero, List.set_cons_succ]
          refine wpAnyH_take (i := 1) (v := ?_) rfl (by kernel_rfl) (by kernel_rfl) (by kernel_rfl) (fun _ _ _ h => h) (Or.inl ⟨by rfl, ?_⟩) (by assumption) ?_
          rotate_left
          · intro W hW
            go_simp
            try rfl
          simp only [List.getElem_toArray, List.getElem_cons_succ, List.getElem_cons_zero, Act.put, List.setIfInBounds_toArray, List.set_cons_zero, List.set_cons_succ]
          refine wpAnyH_take (i := 2) (v := ?_) rfl (by kernel_rfl) (by kernel_rfl) (by kernel_rfl) (fun _ _ _ h => h) (Or.inl ⟨by rfl, ?_⟩) (by assumption) ?_
          rotate_left
          · intro W hW
            go_simp
            try rfl
          simp only [List.getElem_toArray, List.getElem_cons_succ, List.getElem_cons_zero, Act.put, List.setIfInBounds_toArray, List.set_cons_zero, List.set_cons_succ]
          refine wpAnyH_take (i := 3) (v := ?_) rfl (by kernel_rfl) (by kernel_rfl) (by kernel_rfl) (fun _ _ _ h => h) (Or.inl ⟨by rfl, ?_⟩) (by assumption) ?_
          rotate_left
          · intro W hW
            go_simp
            try rfl
          simp only [List.getElem_toArray, List.getElem_cons_succ, List.getElem_cons_zero, Act.put, List.setIfInBounds_toArray, List.set_cons_zero, List.set_cons_succ]
          refine wpAnyH_take (i := 4) (v := ?_) rfl (by kernel_rfl) (by kernel_rfl) (by kernel_rfl) (fun _ _ _ h => h) (Or.inl ⟨by rfl, ?_⟩) (by assumption) ?_
          rotate_left
          · intro W hW
            go_simp
            try rfl
          simp only [List.getElem_toArray, List.getElem_cons_succ, List.getElem_cons_zero, Act.put, List.setIfInBounds_toArray, List.set_cons_zero, List.set_cons_succ]
          refine wpAnyH_take (i := 5) (v := ?_) rfl (by kernel_rfl) (by kernel_rfl) (by kernel_rfl) (fun _ _ _ h => h) (Or.inl ⟨by rfl, ?_⟩) (by assumption) ?_
          rotate_left
          · intro W hW
            go_simp
            try rfl
          simp only [List.getElem_toArray, List.getElem_cons_succ, List.getElem_cons_zero, Act.put, List.setIfInBounds_toArray, List.set_cons_zero, List.set_cons_succ]
          refine wpAnyH_take (i := 6) (v := undef) rfl (by kernel_rfl) (by kernel_rfl) (by kernel_rfl) (fun _ _ _ h => h) (Or.inr ⟨by rfl, rfl⟩) (by assumption) ?_
          simp only [List.getElem_toArray, List.getElem_cons_succ, List.getElem_cons_zero, Act.put, List.setIfInBounds_toArray, List.set_cons_zero, List.set_cons_succ]
          refine wpAnyH_take (i := 7) (v := undef) rfl (by kernel_rfl) (by kernel_rfl) (by kernel_rfl) (fun _ _ _ h => h) (Or.inr ⟨by rfl, rfl⟩) (by assumption) ?_
          simp only [List.getElem_toArray, List.getElem_cons_succ, List.getElem_cons_zero, Act.put, List.setIfInBounds_toArray, List.set_cons_zero, List.set_cons_succ]
          refine wpAnyH_take (i := 8) (v := undef) rfl (by kernel_rfl) (by kernel_rfl) (by kernel_rfl) (fun _ _ _ h => h) (Or.inr ⟨by rfl, rfl⟩) (by assumption) ?_
          simp only [List.getElem_toArray, List.getElem_cons_succ, List.getElem_cons_zero, Act.put, List.setIfInBounds_toArray, List.set_cons_zero, List.set_cons_succ]
          refine wpAnyH_take (i := 9) (v := undef) rfl (by kernel_rfl) (by kernel_rfl) (by kernel_rfl) (fun _ _ _ h => h) (Or.inr ⟨by rfl, rfl⟩) (by assumption) ?_
          simp only [List.getElem_toArray, List.getElem_cons_succ, List.getElem_cons_zero, Act.put, List.setIfInBounds_toArray, List.set_cons_zero, List.set_cons_succ]
          refine wpAnyH_take (i := 10) (v := undef) rfl (by kernel_rfl) (by kernel_rfl) (by kernel_rfl) (fun _ _ _ h => h) (Or.inr ⟨by rfl, rfl⟩) (by assumption) ?_
          simp only [List.getElem_toArray, List.getElem_cons_succ, List.getElem_cons_zero, Act.put, List.setIfInBounds_toArray, List.set_cons_zero, List.set_cons_succ]
          refine wpAnyH_take (i := 11) (v := undef) rfl (by kernel_rfl) (by kernel_rfl) (by kernel_rfl) (fun _ _ _ h => h) (Or.inr ⟨by rfl, rfl⟩) (by assumption) ?_
          simp only [List.getElem_toArray, List.getElem_cons_succ, List.getElem_cons_zero, Act.put, List.setIfInBounds_toArray, List.set_cons_zero, List.set_cons_succ]
          refine wpAnyH_take (i := 12) (v := undef) rfl (by kernel_rfl) (by kernel_rfl) (by kernel_rfl) (fun _ _ _ h => h) (Or.inr ⟨by rfl, rfl⟩) (by assumption) ?_
          simp only [List.getElem_toArray, List.getElem_cons_succ, List.getElem_cons_zero, Act.put, List.setIfInBounds_toArray, List.set_cons_zero, List.set_cons_succ]
          refine wpAnyH_take (i := 13) (v := undef) rfl (by kernel_rfl) (by kernel_rfl) (by kernel_rfl) (fun _ _ _ h => h) (Or.inr ⟨by rfl, rfl⟩) (by assumption) ?_
          simp only [List.getElem_toArray, List.getElem_cons_succ, List.getElem_cons_zero, Act.put, List.setIfInBounds_toArray, List.set_cons_zero, List.set_cons_succ]
          refine wpAnyH_take (i := 14) (v := undef) rfl (by kernel_rfl) (by kernel_rfl) (by kernel_rfl) (fun _ _ _ h => h) (Or.inr ⟨by rfl, rfl⟩) (by assumption) ?_
          simp only [List.getElem_toArray, List.getElem_cons_succ, List.getElem_cons_zero, Act.put, List.setIfInBounds_toArray, List.set_cons_zero, List.set_cons_succ]
          refine wpAnyH_take (i := 15) (v := ?_) rfl (by kernel_rfl) (by kernel_rfl) (by kernel_rfl) (fun _ _ _ h => h) (Or.inl ⟨by rfl, ?_⟩) (by assumption) ?_
          rotate_left
          · intro W hW
            go_simp
            try rfl
          simp only [List.getElem_toArray, List.getElem_cons_succ, List.getElem_cons_zero, Act.put, List.setIfInBounds_toArray, List.set_cons_zero, List.set_cons_succ]
          refine wpAnyH_take (i := 16) (v := ?_) rfl (by kernel_rfl) (by kernel_rfl) (by kernel_rfl) (fun _ _ _ h => h) (Or.inl ⟨by rfl, ?_⟩) (by assumption) ?_
          rotate_left
          · intro W hW
            go_simp
            try rfl
          simp only [List.getElem_toArray, List.getElem_cons_succ, List.getElem_cons_zero, Act.put, List.setIfInBounds_toArray, List.set_cons_zero, List.set_cons_succ]
          refine wpAnyH_done (by kernel_rfl) ?_ _
          refine NoPanic.normal ?_
          go_wp2_with fail
          have hb2 : But w.heap.size W6.drew w2 := by assumption
          have hm2 : MetAt w2 w.heap.size L' := by assumption
          have hL2 : true = true → L' = x.1.ps.reverse ++ L := by assumption
          go_roundw
          case rel => exact ⟨k + 1, L', by omega, by go_num, hb2.undrew.below HB6.out (Nat.le_refl _) HB6.out.size, hm2, hid ⟨by rw [HBY.out, hL2 rfl, if_neg (by omega), Nat.add_sub_cancel, HX.out]; rfl, by rw [hL2 rfl]; exact HLN.out⟩⟩
          case measure => simp [intOf]; omega
        · obtain ⟨j, hj⟩ : ∃ j, k = j + 1 := ⟨k - 1, by omega⟩
          have hk0I : decide (0 < k) = true := decide_eq_true (by omega)
          have hjw : IntKind.i64.wrap ((k : Int) - 1) = (j : Int) := by rw [IntKind.wrap_i64]; omega
          have hj0 : (0 : Int) ≤ (j : Int) := by omega
          have hjn : (j : Int) < (n : Int) := by omega
          obtain ⟨ad2, y, h2, hy, _, _, d1, _⟩ := en_at HLE.out (show j < n by omega)
          cases h2
          have HD := hid (fun (w2 : World) (h : Reads w2 e1 5 (some ad) n (l.flatMap cellsN)) => (show w2.cell? ⟨(ad.add (j * 5)).block, (ad.add (j * 5)).off + 1, none⟩ = some (.int .i64 y.1.ls) by
            obtain ⟨ad2, y2, h2, hy2, _, _, d1, _⟩ := en_at h (show j < n by omega)
            cases h2
            rw [hy] at hy2
            cases hy2
            exact d1))
          have HBY := hid (show b = (decide (y.1.ls < x.1.fs) && mayB ((l.drop (k + 1)).map Prod.fst) (x.1.ps.reverse ++ L) (some x.1.ls)) by
            have h := HBX.out
            rw [if_neg hk0, show k - 1 = j by omega, hy] at h
            exact h)
          have HS2 := hid (fun (w2 : World) (h : But w.heap.size W6.drew w2) => (show w2.cell? ⟨(ad.add (j * 5)).block, (ad.add (j * 5)).off + 1, none⟩ = some (.int .i64 y.1.ls) ∧ w2.cell? ⟨wr.heap.size, 0, none⟩ = some (.int .i64 x.1.fs) from
            ⟨HD.out w2 (HLE.out.met h.undrew HMT.out), (HKE.out.but h.undrew (Nat.ne_of_gt HSZ0.out)).cell 0⟩))
          clear HBX hk0 hj d1 hy HD
          by_cases hys : y.1.ls < x.1.fs
          · have hysI : ¬ x.1.fs ≤ y.1.ls := by omega
            have HBZ := hid (show b = mayB ((l.drop (k + 1)).map Prod.fst) (x.1.ps.reverse ++ L) (some x.1.ls) by
              rw [HBY.out, decide_eq_true hys]; rfl)
            clear hys HBY
            refine wp_region_noPanic ?_
            refine wp_region_held_drew (S := fun w' => w'.cell? ⟨(ad.add (j * 5)).block, (ad.add (j * 5)).off + 1, none⟩ = some (.int .i64 y.1.ls) ∧ w'.cell? ⟨wr.heap.size, 0, none⟩ = some (.int .i64 x.1.fs)) (by kernel_rfl) (HS2.out _ (But.refl _ _)) (fun hHeld => ?_)
            refine wpAnyH_ready (rs := [0]) (by kernel_rfl) (by simp) ?_
            refine AllReadyH.cons rfl (fun K hK => ?_) AllReadyH.nil
            go_simp
            refine HIS.out.mono ?_
            rintro e w2 ⟨rfl, hb2, L', hm2, hL2⟩
            refine hK.out _ _ (HS2.out _ hb2) (fun hHeld => ?_)
            clear hK K
            try simp only [List.getElem_toArray, List.getElem_cons_succ, List.getElem_cons_zero, Act.put, List.setIfInBounds_toArray, List.set_cons_zero, List.set_cons_succ]
            have d1 := hHeld.1
            have d2 := hHeld.2
            refine wpAnyH_take (i := 1) (v := ?_) rfl (by kernel_rfl) (by kernel_rfl) (by kernel_rfl) (fun _ _ _ h => h) (Or.inl ⟨by rfl, ?_⟩) (by assumption) ?_
            rotate_left
            · intro W hW
              go_simp
              try rfl
            simp only [List.getElem_toArray, List.getElem_cons_succ, List.getElem_cons_zero, Act.put, List.setIfInBounds_toArray, List.set_cons_zero, List.set_cons_succ]
            refine wpAnyH_take (i := 2) (v := ?_) rfl (by kernel_rfl) (by kernel_rfl) (by kernel_rfl) (fun _ _ _ h => h) (Or.inl ⟨by rfl, ?_⟩) (by assumption) ?_
            rotate_left
            · intro W hW
              go_simp
              try rfl
            simp only [List.getElem_toArray, List.getElem_cons_succ, List.getElem_cons_zero, Act.put, List.setIfInBounds_toArray, List.set_cons_zero, List.set_cons_succ]
            refine wpAnyH_take (i := 3) (v := ?_) rfl (by kernel_rfl) (by kernel_rfl) (by kernel_rfl) (fun _ _ _ h => h) (Or.inl ⟨by rfl, ?_⟩) (by assumption) ?_
            rotate_left
            · intro W hW
              go_simp
              try rfl
            simp only [List.getElem_toArray, List.getElem_cons_succ, List.getElem_cons_zero, Act.put, List.setIfInBounds_toArray, List.set_cons_zero, List.set_cons_succ]
            refine wpAnyH_take (i := 4) (v := ?_) rfl (by kernel_rfl) (by kernel_rfl) (by kernel_rfl) (fun _ _ _ h => h) (Or.inl ⟨by rfl, ?_⟩) (by assumption) ?_
            rotate_left
            · intro W hW
              go_simp
              try rfl
            simp only [List.getElem_toArray, List.getElem_cons_succ, List.getElem_cons_zero, Act.put, List.setIfInBounds_toArray, List.set_cons_zero, List.set_cons_succ]
            refine wpAnyH_take (i := 5) (v := ?_) rfl (by kernel_rfl) (by kernel_rfl) (by kernel_rfl) (fun _ _ _ h => h) (Or.inl ⟨by rfl, ?_⟩) (by assumption) ?_
            rotate_left
            · intro W hW
              go_simp
              try rfl
            simp only [List.getElem_toArray, List.getElem_cons_succ, List.getElem_cons_zero, Act.put, List.setIfInBounds_toArray, List.set_cons_zero, List.set_cons_succ]
            refine wpAnyH_take (i := 6) (v := ?_) rfl (by kernel_rfl) (by kernel_rfl) (by kernel_rfl) (fun _ _ _ h => h) (Or.inl ⟨by rfl, ?_⟩) (by assumption) ?_
            rotate_left
            · intro W hW
              go_simp
              try rfl
            simp only [List.getElem_toArray, List.getElem_cons_succ, List.getElem_cons_zero, Act.put, List.setIfInBounds_toArray, List.set_cons_zero, List.set_cons_succ]
            refine wpAnyH_take (i := 7) (v := ?_) rfl (by kernel_rfl) (by kernel_rfl) (by kernel_rfl) (fun _ _ _ h => h) (Or.inl ⟨by rfl, ?_⟩) (by assumption) ?_
            rotate_left
            · intro W hW
              go_simp
              try rfl
            simp only [List.getElem_toArray, List.getElem_cons_succ, List.getElem_cons_zero, Act.put, List.setIfInBounds_toArray, List.set_cons_zero, List.set_cons_succ]
            refine wpAnyH_take (i := 8) (v := ?_) rfl (by kernel_rfl) (by kernel_rfl) (by kernel_rfl) (fun _ _ _ h => h) (Or.inl ⟨by rfl, ?_⟩) (by assumption) ?_
            rotate_left
            · intro W hW
              go_simp
              try rfl
            simp only [List.getElem_toArray, List.getElem_cons_succ, List.getElem_cons_zero, Act.put, List.setIfInBounds_toArray, List.set_cons_zero, List.set_cons_succ]
            refine wpAnyH_take (i := 9) (v := ?_) rfl (by kernel_rfl) (by kernel_rfl) (by kernel_rfl) (fun _ _ _ h => h) (Or.inl ⟨by rfl, ?_⟩) (by assumption) ?_
            rotate_left
            · intro W hW
              go_simp
              try rfl
            simp only [List.getElem_toArray, List.getElem_cons_succ, List.getElem_cons_zero, Act.put, List.setIfInBounds_toArray, List.set_cons_zero, List.set_cons_succ]
            refine wpAnyH_take (i := 10) (v := ?_) rfl (by kernel_rfl) (by kernel_rfl) (by kernel_rfl) (fun _ _ _ h => h) (Or.inl ⟨by rfl, ?_⟩) (by assumption) ?_
            rotate_left
            · intro W hW
              go_simp
              try rfl
            simp only [List.getElem_toArray, List.getElem_cons_succ, List.getElem_cons_zero, Act.put, List.setIfInBounds_toArray, List.set_cons_zero, List.set_cons_succ]
            refine wpAnyH_take (i := 11) (v := ?_) rfl (by kernel_rfl) (by kernel_rfl) (by kernel_rfl) (fun _ _ _ h => h) (Or.inl ⟨by rfl, ?_⟩) (by assumption) ?_
            rotate_left
            · intro W hW
              go_simp
              try rfl
            simp only [List.getElem_toArray, List.getElem_cons_succ, List.getElem_cons_zero, Act.put, List.setIfInBounds_toArray, List.set_cons_zero, List.set_cons_succ]
            refine wpAnyH_take (i := 12) (v := ?_) rfl (by kernel_rfl) (by kernel_rfl) (by kernel_rfl) (fun _ _ _ h => h) (Or.inl ⟨by rfl, ?_⟩) (by assumption) ?_
            rotate_left
            · intro W hW
              go_simp
              try rfl
            simp only [List.getElem_toArray, List.getElem_cons_succ, List.getElem_cons_zero, Act.put, List.setIfInBounds_toArray, List.set_cons_zero, List.set_cons_succ]
            refine wpAnyH_take (i := 13) (v := ?_) rfl (by kernel_rfl) (by kernel_rfl) (by kernel_rfl) (fun _ _ _ h => h) (Or.inl ⟨by rfl, ?_⟩) (by assumption) ?_
            rotate_left
            · intro W hW
              go_simp
              try rfl
            simp only [List.getElem_toArray, List.getElem_cons_succ, List.getElem_cons_zero, Act.put, List.setIfInBounds_toArray, List.set_cons_zero, List.set_cons_succ]
            refine wpAnyH_take (i := 14) (v := ?_) rfl (by kernel_rfl) (by kernel_rfl) (by kernel_rfl) (fun _ _ _ h => h) (Or.inl ⟨by rfl, ?_⟩) (by assumption) ?_
            rotate_left
            · intro W hW
              go_simp
              try rfl
            simp only [List.getElem_toArray, List.getElem_cons_succ, List.getElem_cons_zero, Act.put, List.setIfInBounds_toArray, List.set_cons_zero, List.set_cons_succ]
            refine wpAnyH_take (i := 15) (v := ?_) rfl (by kernel_rfl) (by kernel_rfl) (by kernel_rfl) (fun _ _ _ h => h) (Or.inl ⟨by rfl, ?_⟩) (by assumption) ?_
            rotate_left
            · intro W hW
              go_simp
              try rfl
            simp only [List.getElem_toArray, List.getElem_cons_succ, List.getElem_cons_zero, Act.put, List.setIfInBounds_toArray, List.set_cons_zero, List.set_cons_succ]
            refine wpAnyH_take (i := 16) (v := ?_) rfl (by kernel_rfl) (by kernel_rfl) (by kernel_rfl) (fun _ _ _ h => h) (Or.inl ⟨by rfl, ?_⟩) (by assumption) ?_
            rotate_left
            · intro W hW
              go_simp
              try rfl
            simp only [List.getElem_toArray, List.getElem_cons_succ, List.getElem_cons_zero, Act.put, List.setIfInBounds_toArray, List.set_cons_zero, List.set_cons_succ]
            refine wpAnyH_done (by kernel_rfl) ?_ _
            refine NoPanic.normal ?_
            go_wp2_with fail
            have hb2 : But w.heap.size W6.drew w2 := by assumption
            have hm2 : MetAt w2 w.heap.size L' := by assumption
            have hL2 : true = true → L' = x.1.ps.reverse ++ L := by assumption
            go_roundw
            case rel => exact ⟨k + 1, L', by omega, by go_num, hb2.undrew.below HB6.out (Nat.le_refl _) HB6.out.size, hm2, hid ⟨by rw [HBZ.out, hL2 rfl, if_neg (by omega), Nat.add_sub_cancel, HX.out]; rfl, by rw [hL2 rfl]; exact HLN.out⟩⟩
            case measure => simp [intOf]; omega
          · have hysI : x.1.fs ≤ y.1.ls := by omega
            have HBZ := hid (show b = false by
              rw [HBY.out, decide_eq_false hys]; rfl)
            have HF := hid (fun (w2 : World) (h : But w.heap.size W6.drew w2) => (show Ending.returned (.bool false) = .returned (.bool b) ∧ Below w.heap.size w w2 from ⟨by rw [HBZ.out], h.undrew.below HB6.out (Nat.le_refl _) HB6.out.size⟩))
            clear hys HBY
            refine wp_region_noPanic ?_
            refine wp_region_held_drew (S := fun w' => w'.cell? ⟨(ad.add (j * 5)).block, (ad.add (j * 5)).off + 1, none⟩ = some (.int .i64 y.1.ls) ∧ w'.cell? ⟨wr.heap.size, 0, none⟩ = some (.int .i64 x.1.fs)) (by kernel_rfl) (HS2.out _ (But.refl _ _)) (fun hHeld => ?_)
            refine wpAnyH_ready (rs := [0]) (by kernel_rfl) (by simp) ?_
            refine AllReadyH.cons rfl (fun K hK => ?_) AllReadyH.nil
            go_simp
            refine HIS.out.mono ?_
            rintro e w2 ⟨rfl, hb2, L', hm2, hL2⟩
            refine hK.out _ _ (HS2.out _ hb2) (fun hHeld => ?_)
            clear hK K
            try simp only [List.getElem_toArray, List.getElem_cons_succ, List.getElem_cons_zero, Act.put, List.setIfInBounds_toArray, List.set_cons_zero, List.set_cons_succ]
            have d1 := hHeld.1
            have d2 := hHeld.2
            refine wpAnyH_take (i := 1) (v := ?_) rfl (by kernel_rfl) (by kernel_rfl) (by kernel_rfl) (fun _ _ _ h => h) (Or.inl ⟨by rfl, ?_⟩) (by assumption) ?_
            rotate_left
            · intro W hW
              go_simp
              try rfl
            simp only [List.getElem_toArray, List.getElem_cons_succ, List.getElem_cons_zero, Act.put, List.setIfInBounds_toArray, List.set_cons_zero, List.set_cons_succ]
            refine wpAnyH_take (i := 2) (v := ?_) rfl (by kernel_rfl) (by kernel_rfl) (by kernel_rfl) (fun _ _ _ h => h) (Or.inl ⟨by rfl, ?_⟩) (by assumption) ?_
            rotate_left
            · intro W hW
              go_simp
              try rfl
            simp only [List.getElem_toArray, List.getElem_cons_succ, List.getElem_cons_zero, Act.put, List.setIfInBounds_toArray, List.set_cons_zero, List.set_cons_succ]
            refine wpAnyH_take (i := 3) (v := ?_) rfl (by kernel_rfl) (by kernel_rfl) (by kernel_rfl) (fun _ _ _ h => h) (Or.inl ⟨by rfl, ?_⟩) (by assumption) ?_
            rotate_left
            · intro W hW
              go_simp
              try rfl
            simp only [List.getElem_toArray, List.getElem_cons_succ, List.getElem_cons_zero, Act.put, List.setIfInBounds_toArray, List.set_cons_zero, List.set_cons_succ]
            refine wpAnyH_take (i := 4) (v := ?_) rfl (by kernel_rfl) (by kernel_rfl) (by kernel_rfl) (fun _ _ _ h => h) (Or.inl ⟨by rfl, ?_⟩) (by assumption) ?_
            rotate_left
            · intro W hW
              go_simp
              try rfl
            simp only [List.getElem_toArray, List.getElem_cons_succ, List.getElem_cons_zero, Act.put, List.setIfInBounds_toArray, List.set_cons_zero, List.set_cons_succ]
            refine wpAnyH_take (i := 5) (v := ?_) rfl (by kernel_rfl) (by kernel_rfl) (by kernel_rfl) (fun _ _ _ h => h) (Or.inl ⟨by rfl, ?_⟩) (by assumption) ?_
            rotate_left
            · intro W hW
              go_simp
              try rfl
            simp only [List.getElem_toArray, List.getElem_cons_succ, List.getElem_cons_zero, Act.put, List.setIfInBounds_toArray, List.set_cons_zero, List.set_cons_succ]
            refine wpAnyH_take (i := 6) (v := ?_) rfl (by kernel_rfl) (by kernel_rfl) (by kernel_rfl) (fun _ _ _ h => h) (Or.inl ⟨by rfl, ?_⟩) (by assumption) ?_
            rotate_left
            · intro W hW
              go_simp
              try rfl
            simp only [List.getElem_toArray, List.getElem_cons_succ, List.getElem_cons_zero, Act.put, List.setIfInBounds_toArray, List.set_cons_zero, List.set_cons_succ]
            refine wpAnyH_take (i := 7) (v := ?_) rfl (by kernel_rfl) (by kernel_rfl) (by kernel_rfl) (fun _ _ _ h => h) (Or.inl ⟨by rfl, ?_⟩) (by assumption) ?_
            rotate_left
            · intro W hW
              go_simp
              try rfl
            simp only [List.getElem_toArray, List.getElem_cons_succ, List.getElem_cons_zero, Act.put, List.setIfInBounds_toArray, List.set_cons_zero, List.set_cons_succ]
            refine wpAnyH_take (i := 8) (v := ?_) rfl (by kernel_rfl) (by kernel_rfl) (by kernel_rfl) (fun _ _ _ h => h) (Or.inl ⟨by rfl, ?_⟩) (by assumption) ?_
            rotate_left
            · intro W hW
              go_simp
              try rfl
            simp only [List.getElem_toArray, List.getElem_cons_succ, List.getElem_cons_zero, Act.put, List.setIfInBounds_toArray, List.set_cons_zero, List.set_cons_succ]
            refine wpAnyH_take (i := 9) (v := ?_) rfl (by kernel_rfl) (by kernel_rfl) (by kernel_rfl) (fun _ _ _ h => h) (Or.inl ⟨by rfl, ?_⟩) (by assumption) ?_
            rotate_left
            · intro W hW
              go_simp
              try rfl
            simp only [List.getElem_toArray, List.getElem_cons_succ, List.getElem_cons_zero, Act.put, List.setIfInBounds_toArray, List.set_cons_zero, List.set_cons_succ]
            refine wpAnyH_take (i := 10) (v := ?_) rfl (by kernel_rfl) (by kernel_rfl) (by kernel_rfl) (fun _ _ _ h => h) (Or.inl ⟨by rfl, ?_⟩) (by assumption) ?_
            rotate_left
            · intro W hW
              go_simp
              try rfl
            simp only [List.getElem_toArray, List.getElem_cons_succ, List.getElem_cons_zero, Act.put, List.setIfInBounds_toArray, List.set_cons_zero, List.set_cons_succ]
            refine wpAnyH_take (i := 11) (v := ?_) rfl (by kernel_rfl) (by kernel_rfl) (by kernel_rfl) (fun _ _ _ h => h) (Or.inl ⟨by rfl, ?_⟩) (by assumption) ?_
            rotate_left
            · intro W hW
              go_simp
              try rfl
            simp only [List.getElem_toArray, List.getElem_cons_succ, List.getElem_cons_zero, Act.put, List.setIfInBounds_toArray, List.set_cons_zero, List.set_cons_succ]
            refine wpAnyH_take (i := 12) (v := ?_) rfl (by kernel_rfl) (by kernel_rfl) (by kernel_rfl) (fun _ _ _ h => h) (Or.inl ⟨by rfl, ?_⟩) (by assumption) ?_
            rotate_left
            · intro W hW
              go_simp
              try rfl
            simp only [List.getElem_toArray, List.getElem_cons_succ, List.getElem_cons_zero, Act.put, List.setIfInBounds_toArray, List.set_cons_zero, List.set_cons_succ]
            refine wpAnyH_take (i := 13) (v := ?_) rfl (by kernel_rfl) (by kernel_rfl) (by kernel_rfl) (fun _ _ _ h => h) (Or.inl ⟨by rfl, ?_⟩) (by assumption) ?_
            rotate_left
            · intro W hW
              go_simp
              try rfl
            simp only [List.getElem_toArray, List.getElem_cons_succ, List.getElem_cons_zero, Act.put, List.setIfInBounds_toArray, List.set_cons_zero, List.set_cons_succ]
            refine wpAnyH_take (i := 14) (v := ?_) rfl (by kernel_rfl) (by kernel_rfl) (by kernel_rfl) (fun _ _ _ h => h) (Or.inl ⟨by rfl, ?_⟩) (by assumption) ?_
            rotate_left
            · intro W hW
              go_simp
              try rfl
            simp only [List.getElem_toArray, List.getElem_cons_succ, List.getElem_cons_zero, Act.put, List.setIfInBounds_toArray, List.set_cons_zero, List.set_cons_succ]
            refine wpAnyH_take (i := 15) (v := ?_) rfl (by kernel_rfl) (by kernel_rfl) (by kernel_rfl) (fun _ _ _ h => h) (Or.inl ⟨by rfl, ?_⟩) (by assumption) ?_
            rotate_left
            · intro W hW
              go_simp
              try rfl
            simp only [List.getElem_toArray, List.getElem_cons_succ, List.getElem_cons_zero, Act.put, List.setIfInBounds_toArray, List.set_cons_zero, List.set_cons_succ]
            refine wpAnyH_take (i := 16) (v := ?_) rfl (by kernel_rfl) (by kernel_rfl) (by kernel_rfl) (fun _ _ _ h => h) (Or.inl ⟨by rfl, ?_⟩) (by assumption) ?_
            rotate_left
            · intro W hW
              go_simp
              try rfl
            simp only [List.getElem_toArray, List.getElem_cons_succ, List.getElem_cons_zero, Act.put, List.setIfInBounds_toArray, List.set_cons_zero, List.set_cons_succ]
            refine wpAnyH_done (by kernel_rfl) ?_ _
            refine NoPanic.normal ?_
            go_wp2_with fail
            go_ret
            exact HF.out _ (by assumption)
    · obtain rfl : k = n := by omega
      have hbt2 : b = true := by
        rw [hbe.out.1, List.drop_of_length_le (by rw [HN.out]; exact Nat.le_refl _)]; rfl
      have HF := hid (show Ending.returned (.bool true) = .returned (.bool b) ∧ Below w.heap.size w wr from ⟨by rw [hbt2], hbl⟩)
      clear hbe hmt hbl hbt2 hlt
      go_wp2_with fail
      go_ret
      exact HF.out
end Go.Proofs.Ytgdnpmjmkcccoaa
