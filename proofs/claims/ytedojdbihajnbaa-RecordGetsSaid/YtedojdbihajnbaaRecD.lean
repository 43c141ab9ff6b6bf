/- Contracts of record: getPoints (seat Record). -/
import Derived.Test.YtedojdbihajnbaaRecC
import Derived.Deep.DeepCutAuto
namespace Go.Proofs.Ytedojdbihajnbaa
open Go.RowKit Go.Shelf VB
open Go.Lib (hid)
set_option linter.unusedVariables false
set_option linter.unusedSimpArgs false
/-- a point's time: the first one plain, any other one by how much it is more -/
def timeS (bs : List Nat) (fst : Bool) (z : Nat) (T : Int) : Except Int (Int × Nat) :=
  if fst = true then (match plainS bs 281474976710656 z with | .error x => .error x | .ok (t, p) => .ok ((t : Int), p)) else (match signS bs z with | .error x => .error x | .ok (d, p) => .ok (IntKind.i64.wrap (T + d), p))
def ptL (bs : List Nat) : Nat → Bool → Nat → Int → Int → List (Int × Int) → Except Int (List (Int × Int) × Nat)
  | 0, _, z, _, _, acc => .ok (acc, z)
  | k + 1, fst, z, T, V, acc => match timeS bs fst z T with
    | .error x => .error x
    | .ok (t, p) => if timeB t = true then (match signS bs p with
      | .error x => .error x
      | .ok (d, q) => if valB (IntKind.i64.wrap (V + d)) = true then ptL bs k false q t (IntKind.i64.wrap (V + d)) (acc ++ [(t, IntKind.i64.wrap (V + d))]) else .error 7) else .error 7
def pointsS (bs : List Nat) (z : Nat) : Except Int (List (Int × Int) × Nat) :=
  match plainS bs 16 z with
  | .error x => .error x
  | .ok (m, p) => if 0 < m then ptL bs m true p 0 0 [] else .error 7
def cellsP (q : Int × Int) : List Value := [.int .i64 q.1, .int .i64 q.2]
theorem cellsP_snoc (l : List (Int × Int)) (q : Int × Int) : (l ++ [q]).flatMap cellsP = l.flatMap cellsP ++ [.int .i64 q.1, .int .i64 q.2] := by simp [cellsP]
theorem cellsP_len (l : List (Int × Int)) : (l.flatMap cellsP).length = l.length * 2 := by
  induction l with
  | nil => rfl
  | cons x l ih => rw [List.flatMap_cons, List.length_append, ih, List.length_cons]; simp only [cellsP, List.length_cons, List.length_nil]; omega
theorem point_info : (Try.prog.info? 51).map (fun i => (i.zero, i.size, i.bytes)) = some (some (.agg #[.int .i64 0, .int .i64 0]), 2, 16) := by kernel_rfl
theorem info_parts3 {P : Program} {e : TypeId} {z : Value} {s b : Nat} (h : (P.info? e).map (fun i => (i.zero, i.size, i.bytes)) = some (some z, s, b)) : ∃ i, P.info? e = some i ∧ i.zero = some z ∧ i.size = s ∧ i.bytes = b := by
  cases hi : P.info? e with
  | none => rw [hi] at h; simp at h
  | some i => rw [hi] at h; simp at h; exact ⟨i, rfl, h.1, h.2.1, h.2.2⟩
/-- what getPoints hands back, and leaves: the points lie in memory of its own -/
def RetPts (r : Except Int (List (Int × Int) × Nat)) (k : Int) (nm : ByteArray) (ep fl sc : Int) (B : Option Addr) (n c : Nat) (g : Nat) (w : World) (e : Ending) (w' : World) : Prop :=
  match r with
  | .ok (l, p) => ∃ C f, RetV (.tuple #[]) g (tapeC k nm ep fl sc (.slice C l.length f) B n c (p : Nat)) w e w' ∧ w'.ownsRow w.heap.size 51 2 (.slice C l.length f) l.length (l.flatMap cellsP)
  | .error x => RetX x g w e w'
theorem ptL_succ (bs : List Nat) (k : Nat) (fst : Bool) (z : Nat) (T V : Int) (acc : List (Int × Int)) : ptL bs (k + 1) fst z T V acc = (match timeS bs fst z T with | .error x => .error x | .ok (t, p) => if timeB t = true then (match signS bs p with | .error x => .error x | .ok (d, q) => if valB (IntKind.i64.wrap (V + d)) = true then ptL bs k false q t (IntKind.i64.wrap (V + d)) (acc ++ [(t, IntKind.i64.wrap (V + d))]) else .error 7) else .error 7) := rfl
theorem pair_new (w : World) (t v : Int) : Reads (w.alloc (.cells #[.int .i64 t, .int .i64 v] 51)) 51 2 (some ⟨w.heap.size, 0, none⟩) 1 [.int .i64 t, .int .i64 v] := by
  have k := Blk.new w 51 #[.int .i64 t, .int .i64 v]
  refine ⟨rfl, fun _ => ⟨_, rfl, k.typed, ?_⟩⟩
  intro j u hu
  match j, hu with
  | 0, hu => obtain rfl : Value.int .i64 t = u := by simpa using hu
             exact k.two.1
  | 1, hu => obtain rfl : Value.int .i64 v = u := by simpa using hu
             exact k.two.2.1
theorem own_drew {w : World} {base n size : Nat} {e : TypeId} {v : Value} {xs : List Value} (h : w.ownsRow base e size v n xs) : w.drew.ownsRow base e size v n xs := h
theorem own_far {w : World} {base n size : Nat} {e : TypeId} {v : Value} {xs : List Value} (h : w.ownsRow base e size v n xs) {a : Addr} (ha : a.block < base) (u : Value) : (w.setCell a u).ownsRow base e size v n xs := ownsRow_setCell_below h ha u
section
variable {w : World} {g : Nat} {k : Int} {nm : ByteArray} {ep fl sc : Int} {B : Option Addr} {n c : Nat} {bs : List Nat}
set_option maxRecDepth 100000 in
set_option maxHeartbeats 1000000 in
theorem getPoints_c {z : Nat} (kt : Blk w g 64 (tapeC k nm ep fl sc (.slice none 0 0) B n c z)) (hs : Src w B n c bs) :
    Calls Try.prog 60 #[.pointer (some ⟨g, 0, none⟩)] w (RetPts (pointsS bs z) k nm ep fl sc B n c g w) := by
  cases hp : plainS bs 16 z with
  | error x =>
    have e1 : pointsS bs z = .error x := by unfold pointsS; simp only [hp]
    rw [e1]
    show Calls _ _ _ w (RetX x g w)
    have HP := hid (plain_er kt hs hp)
    clear hp kt hs e1
    go_enter Try.func60, Try.ntmps60
    go_wp2_with fail
    refine HP.out.mono ?_
    rintro e w2 ⟨rfl, hb⟩
    exact ⟨rfl, rfl, hb⟩
  | ok r0 =>
  obtain ⟨m, p0⟩ := r0
  have HP := hid (plain_ok kt hs hp (by decide))
  have hm16 := (plainS_ok hp).2
  have HS := hid hs
  have HT := hid kt.typed
  have HG := hid kt.lt
  by_cases hm0 : 0 < m
  case neg =>
    have e1 : pointsS bs z = .error 7 := by unfold pointsS; simp only [hp]; rw [if_neg hm0]
    rw [e1]
    show Calls _ _ _ w (RetX 7 g w)
    obtain rfl : m = 0 := by omega
    clear hp kt hs e1 hm0 hm16
    go_enter Try.func60, Try.ntmps60
    go_wp2_with fail
    refine HP.out.mono ?_
    rintro e w2 ⟨rfl, hb, kt⟩
    go_wp2_with fail
    refine (need_f _ _).mono ?_
    rintro e w3 ⟨rfl, rfl⟩
    exact ⟨rfl, rfl, hb⟩
  have e1 : pointsS bs z = ptL bs m true p0 0 0 [] := by unfold pointsS; simp only [hp]; rw [if_pos hm0]
  rw [e1]
  obtain ⟨r, hr⟩ : ∃ r, r = ptL bs m true p0 0 0 [] := ⟨_, rfl⟩
  rw [← hr]
  have HR := hid hr
  have t1 : decide ((0 : Int) < (m : Int)) = true := decide_eq_true (by omega)
  have t2 : decide (0 < m) = true := decide_eq_true hm0
  obtain ⟨i0, hi0, hz0, hz1, hz2⟩ := info_parts3 point_info
  have HI := hid (And.intro hi0 (And.intro hz0 (And.intro hz1 hz2)))
  clear hp kt hs e1 hr hi0 hz0 hz1 hz2
  go_enter Try.func60, Try.ntmps60
  go_wp2_with fail
  refine HP.out.mono ?_
  rintro e w2 ⟨rfl, hb2, kt2⟩
  have HB2 := hid hb2
  have HK2 := hid kt2
  clear hb2 kt2
  go_wp2_with fail
  refine (need_t _ _).mono ?_
  rintro e w3 ⟨rfl, rfl⟩
  go_wp2_with fail
  go_loopw [11] (fun u11 wr => ∃ (i zi : Nat) (T V : Int) (acc : List (Int × Int)) (C : Option Addr) (f : Nat), i ≤ m ∧ u11 = .int .i64 (i : Nat) ∧ acc.length = i ∧ Hid (r = ptL bs (m - i) (decide (i = 0)) zi T V acc) ∧ wr.ownsRow (w2.heap.size + 1) 51 2 (.slice C i f) i (acc.flatMap cellsP) ∧
      Blk wr w2.heap.size 51 #[.int .i64 T, .int .i64 V] ∧ But g w wr ∧ Blk wr g 64 (tapeC k nm ep fl sc (.slice C i f) B n c (zi : Nat)))
    (fun u11 _ => m - (intOf u11).toNat)
  case atStart => exact ⟨0, p0, 0, 0, [], none, 0, Nat.zero_le _, rfl, rfl, by simpa using HR, World.ownsRow_nil _ _ _ _, Blk.new _ _ _, HB2.out.alloc _, HK2.out.alloc _⟩
  case round =>
    obtain ⟨i, zi, T, V, acc, C, f, hi, rfl, hal, hr, hown, kp, hb, kr⟩ := hrel
    have hgp : w.heap.size ≤ w2.heap.size := HB2.out.size
    have hgs := HG.out
    have hne : w2.heap.size ≠ g := by omega
    by_cases hlt : i < m
    · have hstep : m - i = (m - (i + 1)) + 1 := by omega
      rw [hstep] at hr
      obtain ⟨y0, y1, y2, y3, y4⟩ := kp.two
      go_upto_if 15 with fail
      clear y0 y1 y2 y3 y4
      go_cut [] (fun wx => ∃ (T' : Int) (p' : Nat), Hid (timeS bs (decide (i = 0)) zi T = .ok (T', p')) ∧ wx.ownsRow (w2.heap.size + 1) 51 2 (.slice C i f) i (acc.flatMap cellsP) ∧ Blk wx w2.heap.size 51 #[.int .i64 T', .int .i64 V] ∧ But g w wx ∧ Blk wx g 64 (tapeC k nm ep fl sc (.slice C i f) B n c (p' : Nat)))
      case first =>
        have hs2 := HS.out.but hb HT.out
        have KT0 := hid kr.typed
        by_cases hi0 : i = 0
        · subst hi0
          cases hpl : plainS bs 281474976710656 zi with
          | error x =>
            have HP2 := hid (plain_er kr hs2 hpl)
            have hr2 : r = .error x := by rw [hr.out]; rw [ptL_succ]; unfold timeS; rw [if_pos (by rfl)]; simp only [hpl]
            have HR2 := hid hr2
            have HBB := hid hb
            clear hr2 hpl hr hown hb kr kp hs2
            go_wp2_with fail
            refine HP2.out.mono ?_
            rintro e w4 ⟨rfl, hb4⟩
            exact ⟨rfl, by rw [HR2.out]; exact ⟨rfl, HBB.out.trans hb4⟩⟩
          | ok q =>
            obtain ⟨t, p⟩ := q
            have HP2 := hid (plain_ok kr hs2 hpl (by decide))
            have HTS := hid (show timeS bs (decide (0 = 0)) zi T = .ok ((t : Int), p) by unfold timeS; rw [if_pos (by rfl)]; simp only [hpl])
            have HOW := hid hown
            have HBB := hid hb
            clear hpl hr hown hb kr hs2
            go_wp2_with fail
            refine HP2.out.mono ?_
            rintro e w4 ⟨rfl, hb4, kt4⟩
            have kp4 := kp.but hb4 hne
            have HOW4 := hid (own_but HOW.out hb4 KT0.out (by decide))
            have HKT4 := hid kt4
            have HB4 := hid (HBB.out.trans hb4)
            clear kt4 hb4
            obtain ⟨y0, y1, y2, y3, y4⟩ := kp4.two
            go_wp2_with fail
            go_meet
            exact ⟨(t : Int), p, HTS, own_far HOW4.out (by simp) _, kp4.set_ 0 _, HB4.out.setn hgp _, HKT4.out.far (by simpa using hne.symm) _⟩
        · have ti1 : ((i : Int) == 0) = false := beq_eq_false_iff_ne.2 (by omega)
          have ti2 : decide ((i : Int) = 0) = false := decide_eq_false (by omega)
          have ti3 : ¬ (i : Int) = 0 := by omega
          have ti4 : (i == 0) = false := beq_eq_false_iff_ne.2 hi0
          have hd0 : decide (i = 0) = false := decide_eq_false hi0
          rw [hd0] at hr
          cases hpl : signS bs zi with
          | error x =>
            have HP2 := hid (fun w kr hs2 => signed_er (w := w) (g := g) (k := k) (nm := nm) (ep := ep) (fl := fl) (sc := sc) (P := .slice C i f) (B := B) (n := n) (c := c) kr hs2 hpl)
            have hr2 : r = .error x := by rw [hr.out]; rw [ptL_succ]; unfold timeS; rw [if_neg (by decide)]; simp only [hpl]
            have HR2 := hid hr2
            have HBB := hid hb
            clear hr2 hpl hr hown
            go_upto_region 8 with fail
            refine wp_region_held_drew (S := fun _ => True) (by kernel_rfl) trivial (fun hHeld => ?_)
            clear hHeld
            have hTr : True := trivial
            have kp := kp.drew
            have kr := kr.drew
            have hs2 := hs2.drew
            refine wpAnyH_take (i := 0) (v := ?_) rfl (by kernel_rfl) (by kernel_rfl) (by kernel_rfl) (fun _ _ _ h => h) (Or.inl ⟨by rfl, ?_⟩) (by assumption) ?_
            rotate_left
            · intro W hW
              go_simp
              try rfl
            simp only [List.getElem_toArray, List.getElem_cons_zero, Act.put, List.setIfInBounds_toArray, List.set_cons_zero, List.set_cons_succ]
            refine wpAnyH_take (i := 2) (v := ?_) rfl (by kernel_rfl) (by kernel_rfl) (by kernel_rfl) (fun _ _ _ h => h) (Or.inl ⟨by rfl, ?_⟩) (by assumption) ?_
            rotate_left
            · intro W hW
              go_simp
              try rfl
            simp only [List.getElem_toArray, List.getElem_cons_succ, List.getElem_cons_zero, Act.put, List.setIfInBounds_toArray, List.set_cons_zero, List.set_cons_succ]
            refine wpAnyH_ready (rs := [1, 3]) (by kernel_rfl) (by simp) ?_
            refine AllReadyH.cons rfl (fun K hK => ?_) (AllReadyH.cons rfl (fun K hK => ?_) AllReadyH.nil)
            · obtain ⟨y0, y1, y2, y3, y4⟩ := kp.two
              go_simp
              clear y0 y1 y2 y3 y4
              refine hK.out _ _ trivial (fun hHeld => ?_)
              clear hK K hHeld
              try simp only [List.getElem_toArray, List.getElem_cons_succ, List.getElem_cons_zero, Act.put, List.setIfInBounds_toArray, List.set_cons_zero, List.set_cons_succ]
              refine wpAnyH_ready (rs := [3]) (by kernel_rfl) (by simp) ?_
              refine AllReadyH.cons rfl (fun K hK => ?_) AllReadyH.nil
              go_simp
              refine (HP2.out _ kr hs2).mono ?_
              rintro e w4 ⟨rfl, hb4⟩
              exact ⟨rfl, by rw [HR2.out]; exact ⟨rfl, HBB.out.drew.trans hb4⟩⟩
            · go_simp
              refine (HP2.out _ kr hs2).mono ?_
              rintro e w4 ⟨rfl, hb4⟩
              exact ⟨rfl, by rw [HR2.out]; exact ⟨rfl, HBB.out.drew.trans hb4⟩⟩
          | ok q =>
            obtain ⟨d, p⟩ := q
            have HP2 := hid (fun w kr hs2 => signed_ok (w := w) (g := g) (k := k) (nm := nm) (ep := ep) (fl := fl) (sc := sc) (P := .slice C i f) (B := B) (n := n) (c := c) kr hs2 hpl)
            have HTS := hid (show timeS bs (decide (i = 0)) zi T = .ok (IntKind.i64.wrap (T + d), p) by rw [hd0]; unfold timeS; rw [if_neg (by decide)]; simp only [hpl])
            clear hpl hr
            go_upto_region 8 with fail
            refine wp_region_held_drew (S := fun _ => True) (by kernel_rfl) trivial (fun hHeld => ?_)
            clear hHeld
            have hTr : True := trivial
            have kp := kp.drew
            have kr := kr.drew
            have hs2 := hs2.drew
            have hown := own_drew hown
            have hb := hb.drew
            have KT0 := hid kr.typed
            refine wpAnyH_take (i := 0) (v := ?_) rfl (by kernel_rfl) (by kernel_rfl) (by kernel_rfl) (fun _ _ _ h => h) (Or.inl ⟨by rfl, ?_⟩) (by assumption) ?_
            rotate_left
            · intro W hW
              go_simp
              try rfl
            simp only [List.getElem_toArray, List.getElem_cons_zero, Act.put, List.setIfInBounds_toArray, List.set_cons_zero, List.set_cons_succ]
            refine wpAnyH_take (i := 2) (v := ?_) rfl (by kernel_rfl) (by kernel_rfl) (by kernel_rfl) (fun _ _ _ h => h) (Or.inl ⟨by rfl, ?_⟩) (by assumption) ?_
            rotate_left
            · intro W hW
              go_simp
              try rfl
            simp only [List.getElem_toArray, List.getElem_cons_succ, List.getElem_cons_zero, Act.put, List.setIfInBounds_toArray, List.set_cons_zero, List.set_cons_succ]
            refine wpAnyH_ready (rs := [1, 3]) (by kernel_rfl) (by simp) ?_
            refine AllReadyH.cons rfl (fun K hK => ?_) (AllReadyH.cons rfl (fun K hK => ?_) AllReadyH.nil)
            · obtain ⟨y0, y1, y2, y3, y4⟩ := kp.two
              go_simp
              clear y0 y1 y2 y3 y4
              refine hK.out _ _ trivial (fun hHeld => ?_)
              clear hK K hHeld
              try simp only [List.getElem_toArray, List.getElem_cons_succ, List.getElem_cons_zero, Act.put, List.setIfInBounds_toArray, List.set_cons_zero, List.set_cons_succ]
              refine wpAnyH_ready (rs := [3]) (by kernel_rfl) (by simp) ?_
              refine AllReadyH.cons rfl (fun K hK => ?_) AllReadyH.nil
              go_simp
              refine (HP2.out _ kr hs2).mono ?_
              rintro e w4 ⟨rfl, hb4, kt4⟩
              have kp := kp.but hb4 hne
              have hown := own_but hown hb4 KT0.out (by decide)
              have hb := hb.trans hb4
              clear kr hs2 hb4
              refine hK.out _ _ trivial (fun hHeld => ?_)
              clear hK K hHeld
              try simp only [List.getElem_toArray, List.getElem_cons_succ, List.getElem_cons_zero, Act.put, List.setIfInBounds_toArray, List.set_cons_zero, List.set_cons_succ]
              refine wpAnyH_take (i := 4) (v := ?_) rfl (by kernel_rfl) (by kernel_rfl) (by kernel_rfl) (fun _ _ _ h => h) (Or.inl ⟨by rfl, ?_⟩) (by assumption) ?_
              rotate_left
              · intro W hW
                go_simp
                try rfl
              simp only [List.getElem_toArray, List.getElem_cons_succ, List.getElem_cons_zero, Act.put, List.setIfInBounds_toArray, List.set_cons_zero, List.set_cons_succ]
              refine wpAnyH_take (i := 5) (v := ?_) rfl (by kernel_rfl) (by kernel_rfl) (by kernel_rfl) (fun _ _ _ h => h) (Or.inl ⟨by rfl, ?_⟩) (by assumption) ?_
              rotate_left
              · intro W hW
                go_simp
                try rfl
              simp only [List.getElem_toArray, List.getElem_cons_succ, List.getElem_cons_zero, Act.put, List.setIfInBounds_toArray, List.set_cons_zero, List.set_cons_succ]
              refine wpAnyH_ready (rs := [6]) (by kernel_rfl) (by simp) ?_
              refine AllReadyH.cons rfl (fun K hK => ?_) AllReadyH.nil
              obtain ⟨y0, y1, y2, y3, y4⟩ := kp.two
              go_simp
              clear y0 y1 y2 y3 y4
              refine hK.out _ _ trivial (fun hHeld => ?_)
              clear hK K hHeld
              try simp only [List.getElem_toArray, List.getElem_cons_succ, List.getElem_cons_zero, Act.put, List.setIfInBounds_toArray, List.set_cons_zero, List.set_cons_succ]
              refine wpAnyH_done (by kernel_rfl) ?_ _
              go_wp2_with fail
              go_meet
              exact ⟨_, p, HTS, own_far hown (by simp) _, kp.set_ 0 _, hb.setn hgp _, kt4.far (by simpa using hne.symm) _⟩
            · go_simp
              refine (HP2.out _ kr hs2).mono ?_
              rintro e w4 ⟨rfl, hb4, kt4⟩
              have kp := kp.but hb4 hne
              have hown := own_but hown hb4 KT0.out (by decide)
              have hb := hb.trans hb4
              clear kr hs2 hb4
              refine hK.out _ _ trivial (fun hHeld => ?_)
              clear hK K hHeld
              try simp only [List.getElem_toArray, List.getElem_cons_succ, List.getElem_cons_zero, Act.put, List.setIfInBounds_toArray, List.set_cons_zero, List.set_cons_succ]
              refine wpAnyH_ready (rs := [1]) (by kernel_rfl) (by simp) ?_
              refine AllReadyH.cons rfl (fun K hK => ?_) AllReadyH.nil
              obtain ⟨y0, y1, y2, y3, y4⟩ := kp.two
              go_simp
              clear y0 y1 y2 y3 y4
              refine hK.out _ _ trivial (fun hHeld => ?_)
              clear hK K hHeld
              try simp only [List.getElem_toArray, List.getElem_cons_succ, List.getElem_cons_zero, Act.put, List.setIfInBounds_toArray, List.set_cons_zero, List.set_cons_succ]
              refine wpAnyH_take (i := 4) (v := ?_) rfl (by kernel_rfl) (by kernel_rfl) (by kernel_rfl) (fun _ _ _ h => h) (Or.inl ⟨by rfl, ?_⟩) (by assumption) ?_
              rotate_left
              · intro W hW
                go_simp
                try rfl
              simp only [List.getElem_toArray, List.getElem_cons_succ, List.getElem_cons_zero, Act.put, List.setIfInBounds_toArray, List.set_cons_zero, List.set_cons_succ]
              refine wpAnyH_take (i := 5) (v := ?_) rfl (by kernel_rfl) (by kernel_rfl) (by kernel_rfl) (fun _ _ _ h => h) (Or.inl ⟨by rfl, ?_⟩) (by assumption) ?_
              rotate_left
              · intro W hW
                go_simp
                try rfl
              simp only [List.getElem_toArray, List.getElem_cons_succ, List.getElem_cons_zero, Act.put, List.setIfInBounds_toArray, List.set_cons_zero, List.set_cons_succ]
              refine wpAnyH_ready (rs := [6]) (by kernel_rfl) (by simp) ?_
              refine AllReadyH.cons rfl (fun K hK => ?_) AllReadyH.nil
              obtain ⟨y0, y1, y2, y3, y4⟩ := kp.two
              go_simp
              clear y0 y1 y2 y3 y4
              refine hK.out _ _ trivial (fun hHeld => ?_)
              clear hK K hHeld
              try simp only [List.getElem_toArray, List.getElem_cons_succ, List.getElem_cons_zero, Act.put, List.setIfInBounds_toArray, List.set_cons_zero, List.set_cons_succ]
              refine wpAnyH_done (by kernel_rfl) ?_ _
              go_wp2_with fail
              go_meet
              exact ⟨_, p, HTS, own_far hown (by simp) _, kp.set_ 0 _, hb.setn hgp _, kt4.far (by simpa using hne.symm) _⟩
      case rest =>
        obtain ⟨T', p', HTS, hown, kp, hb, kr⟩ := hcut
        have hr2 : r = if timeB T' = true then (match signS bs p' with | .error x => .error x | .ok (d, q) => if valB (IntKind.i64.wrap (V + d)) = true then ptL bs (m - (i + 1)) false q T' (IntKind.i64.wrap (V + d)) (acc ++ [(T', IntKind.i64.wrap (V + d))]) else .error 7) else .error 7 := by
          rw [hr.out, ptL_succ]; simp only [HTS.out]
        clear hr
        obtain ⟨y0, y1, y2, y3, y4⟩ := kp.two
        go_wp2_with fail
        refine (time_c _ _).mono ?_
        rintro e w5 ⟨rfl, rfl⟩
        by_cases htb : timeB T' = true
        case neg =>
          rw [if_neg htb] at hr2
          have HR2 := hid hr2
          have HBB := hid hb
          have htf : timeB T' = false := by simpa using htb
          rw [htf]
          clear hr2 hown hb kp kr y0 y1 y2 y3 y4
          go_wp2_with fail
          refine (need_f _ _).mono ?_
          rintro e w6 ⟨rfl, rfl⟩
          exact ⟨rfl, by rw [HR2.out]; exact ⟨rfl, HBB.out⟩⟩
        rw [if_pos htb] at hr2
        rw [htb]
        have hs2 := HS.out.but hb HT.out
        have KT0 := hid kr.typed
        clear htb
        go_wp2_with fail
        refine (need_t _ _).mono ?_
        rintro e w6 ⟨rfl, rfl⟩
        clear y0 y1 y2 y3 y4
        cases hpl : signS bs p' with
        | error x =>
          have HP2 := hid (fun w kr hs2 => signed_er (w := w) (g := g) (k := k) (nm := nm) (ep := ep) (fl := fl) (sc := sc) (P := .slice C i f) (B := B) (n := n) (c := c) kr hs2 hpl)
          simp only [hpl] at hr2
          have HR2 := hid hr2
          have HBB := hid hb
          clear hr2 hpl hown
          go_upto_region 10 with fail
          refine wp_region_held_drew (S := fun _ => True) (by kernel_rfl) trivial (fun hHeld => ?_)
          clear hHeld
          have hTr : True := trivial
          have kp := kp.drew
          have kr := kr.drew
          have hs2 := hs2.drew
          refine wpAnyH_take (i := 0) (v := ?_) rfl (by kernel_rfl) (by kernel_rfl) (by kernel_rfl) (fun _ _ _ h => h) (Or.inl ⟨by rfl, ?_⟩) (by assumption) ?_
          rotate_left
          · intro W hW
            go_simp
            try rfl
          simp only [List.getElem_toArray, List.getElem_cons_zero, Act.put, List.setIfInBounds_toArray, List.set_cons_zero, List.set_cons_succ]
          refine wpAnyH_take (i := 2) (v := ?_) rfl (by kernel_rfl) (by kernel_rfl) (by kernel_rfl) (fun _ _ _ h => h) (Or.inl ⟨by rfl, ?_⟩) (by assumption) ?_
          rotate_left
          · intro W hW
            go_simp
            try rfl
          simp only [List.getElem_toArray, List.getElem_cons_succ, List.getElem_cons_zero, Act.put, List.setIfInBounds_toArray, List.set_cons_zero, List.set_cons_succ]
          refine wpAnyH_ready (rs := [1, 3]) (by kernel_rfl) (by simp) ?_
          refine AllReadyH.cons rfl (fun K hK => ?_) (AllReadyH.cons rfl (fun K hK => ?_) AllReadyH.nil)
          · obtain ⟨y0, y1, y2, y3, y4⟩ := kp.two
            go_simp
            clear y0 y1 y2 y3 y4
            refine hK.out _ _ trivial (fun hHeld => ?_)
            clear hK K hHeld
            try simp only [List.getElem_toArray, List.getElem_cons_succ, List.getElem_cons_zero, Act.put, List.setIfInBounds_toArray, List.set_cons_zero, List.set_cons_succ]
            refine wpAnyH_ready (rs := [3]) (by kernel_rfl) (by simp) ?_
            refine AllReadyH.cons rfl (fun K hK => ?_) AllReadyH.nil
            go_simp
            refine (HP2.out _ kr hs2).mono ?_
            rintro e w4 ⟨rfl, hb4⟩
            exact ⟨rfl, by rw [HR2.out]; exact ⟨rfl, HBB.out.drew.trans hb4⟩⟩
          · go_simp
            refine (HP2.out _ kr hs2).mono ?_
            rintro e w4 ⟨rfl, hb4⟩
            exact ⟨rfl, by rw [HR2.out]; exact ⟨rfl, HBB.out.drew.trans hb4⟩⟩
        | ok q0 =>
          obtain ⟨d, q⟩ := q0
          have HP2 := hid (fun w kr hs2 => signed_ok (w := w) (g := g) (k := k) (nm := nm) (ep := ep) (fl := fl) (sc := sc) (P := .slice C i f) (B := B) (n := n) (c := c) kr hs2 hpl)
          simp only [hpl] at hr2
          have HR1 := hid hr2
          clear hr2 hpl
          go_upto_region 10 with fail
          go_cut [] (fun wx => wx.ownsRow (w2.heap.size + 1) 51 2 (.slice C i f) i (acc.flatMap cellsP) ∧ Blk wx w2.heap.size 51 #[.int .i64 T', .int .i64 (IntKind.i64.wrap (V + d))] ∧ But g w wx ∧ Blk wx g 64 (tapeC k nm ep fl sc (.slice C i f) B n c (q : Nat)))
          case first =>
            refine wp_region_held_drew (S := fun _ => True) (by kernel_rfl) trivial (fun hHeld => ?_)
            clear hHeld
            have hTr : True := trivial
            have kp := kp.drew
            have kr := kr.drew
            have hs2 := hs2.drew
            have hown := own_drew hown
            have hb := hb.drew
            have KT0 := hid kr.typed
            refine wpAnyH_take (i := 0) (v := ?_) rfl (by kernel_rfl) (by kernel_rfl) (by kernel_rfl) (fun _ _ _ h => h) (Or.inl ⟨by rfl, ?_⟩) (by assumption) ?_
            rotate_left
            · intro W hW
              go_simp
              try rfl
            simp only [List.getElem_toArray, List.getElem_cons_zero, Act.put, List.setIfInBounds_toArray, List.set_cons_zero, List.set_cons_succ]
            refine wpAnyH_take (i := 2) (v := ?_) rfl (by kernel_rfl) (by kernel_rfl) (by kernel_rfl) (fun _ _ _ h => h) (Or.inl ⟨by rfl, ?_⟩) (by assumption) ?_
            rotate_left
            · intro W hW
              go_simp
              try rfl
            simp only [List.getElem_toArray, List.getElem_cons_succ, List.getElem_cons_zero, Act.put, List.setIfInBounds_toArray, List.set_cons_zero, List.set_cons_succ]
            refine wpAnyH_ready (rs := [1, 3]) (by kernel_rfl) (by simp) ?_
            refine AllReadyH.cons rfl (fun K hK => ?_) (AllReadyH.cons rfl (fun K hK => ?_) AllReadyH.nil)
            · obtain ⟨y0, y1, y2, y3, y4⟩ := kp.two
              go_simp
              clear y0 y1 y2 y3 y4
              refine hK.out _ _ trivial (fun hHeld => ?_)
              clear hK K hHeld
              try simp only [List.getElem_toArray, List.getElem_cons_succ, List.getElem_cons_zero, Act.put, List.setIfInBounds_toArray, List.set_cons_zero, List.set_cons_succ]
              refine wpAnyH_ready (rs := [3]) (by kernel_rfl) (by simp) ?_
              refine AllReadyH.cons rfl (fun K hK => ?_) AllReadyH.nil
              go_simp
              refine (HP2.out _ kr hs2).mono ?_
              rintro e w4 ⟨rfl, hb4, kt4⟩
              have kp := kp.but hb4 hne
              have hown := own_but hown hb4 KT0.out (by decide)
              have hb := hb.trans hb4
              clear kr hs2 hb4
              refine hK.out _ _ trivial (fun hHeld => ?_)
              clear hK K hHeld
              try simp only [List.getElem_toArray, List.getElem_cons_succ, List.getElem_cons_zero, Act.put, List.setIfInBounds_toArray, List.set_cons_zero, List.set_cons_succ]
              refine wpAnyH_take (i := 4) (v := ?_) rfl (by kernel_rfl) (by kernel_rfl) (by kernel_rfl) (fun _ _ _ h => h) (Or.inl ⟨by rfl, ?_⟩) (by assumption) ?_
              rotate_left
              · intro W hW
                go_simp
                try rfl
              simp only [List.getElem_toArray, List.getElem_cons_succ, List.getElem_cons_zero, Act.put, List.setIfInBounds_toArray, List.set_cons_zero, List.set_cons_succ]
              refine wpAnyH_take (i := 5) (v := ?_) rfl (by kernel_rfl) (by kernel_rfl) (by kernel_rfl) (fun _ _ _ h => h) (Or.inl ⟨by rfl, ?_⟩) (by assumption) ?_
              rotate_left
              · intro W hW
                go_simp
                try rfl
              simp only [List.getElem_toArray, List.getElem_cons_succ, List.getElem_cons_zero, Act.put, List.setIfInBounds_toArray, List.set_cons_zero, List.set_cons_succ]
              refine wpAnyH_ready (rs := [6]) (by kernel_rfl) (by simp) ?_
              refine AllReadyH.cons rfl (fun K hK => ?_) AllReadyH.nil
              obtain ⟨y0, y1, y2, y3, y4⟩ := kp.two
              go_simp
              clear y0 y1 y2 y3 y4
              refine hK.out _ _ trivial (fun hHeld => ?_)
              clear hK K hHeld
              try simp only [List.getElem_toArray, List.getElem_cons_succ, List.getElem_cons_zero, Act.put, List.setIfInBounds_toArray, List.set_cons_zero, List.set_cons_succ]
              refine wpAnyH_done (by kernel_rfl) ?_ _
              go_wp2_with fail
              go_meet
              exact ⟨own_far hown (by simp) _, kp.set_ 1 _, hb.setn hgp _, kt4.far (by simpa using hne.symm) _⟩
            · go_simp
              refine (HP2.out _ kr hs2).mono ?_
              rintro e w4 ⟨rfl, hb4, kt4⟩
              have kp := kp.but hb4 hne
              have hown := own_but hown hb4 KT0.out (by decide)
              have hb := hb.trans hb4
              clear kr hs2 hb4
              refine hK.out _ _ trivial (fun hHeld => ?_)
              clear hK K hHeld
              try simp only [List.getElem_toArray, List.getElem_cons_succ, List.getElem_cons_zero, Act.put, List.setIfInBounds_toArray, List.set_cons_zero, List.set_cons_succ]
              refine wpAnyH_ready (rs := [1]) (by kernel_rfl) (by simp) ?_
              refine AllReadyH.cons rfl (fun K hK => ?_) AllReadyH.nil
              obtain ⟨y0, y1, y2, y3, y4⟩ := kp.two
              go_simp
              clear y0 y1 y2 y3 y4
              refine hK.out _ _ trivial (fun hHeld => ?_)
              clear hK K hHeld
              try simp only [List.getElem_toArray, List.getElem_cons_succ, List.getElem_cons_zero, Act.put, List.setIfInBounds_toArray, List.set_cons_zero, List.set_cons_succ]
              refine wpAnyH_take (i := 4) (v := ?_) rfl (by kernel_rfl) (by kernel_rfl) (by kernel_rfl) (fun _ _ _ h => h) (Or.inl ⟨by rfl, ?_⟩) (by assumption) ?_
              rotate_left
              · intro W hW
                go_simp
                try rfl
              simp only [List.getElem_toArray, List.getElem_cons_succ, List.getElem_cons_zero, Act.put, List.setIfInBounds_toArray, List.set_cons_zero, List.set_cons_succ]
              refine wpAnyH_take (i := 5) (v := ?_) rfl (by kernel_rfl) (by kernel_rfl) (by kernel_rfl) (fun _ _ _ h => h) (Or.inl ⟨by rfl, ?_⟩) (by assumption) ?_
              rotate_left
              · intro W hW
                go_simp
                try rfl
              simp only [List.getElem_toArray, List.getElem_cons_succ, List.getElem_cons_zero, Act.put, List.setIfInBounds_toArray, List.set_cons_zero, List.set_cons_succ]
              refine wpAnyH_ready (rs := [6]) (by kernel_rfl) (by simp) ?_
              refine AllReadyH.cons rfl (fun K hK => ?_) AllReadyH.nil
              obtain ⟨y0, y1, y2, y3, y4⟩ := kp.two
              go_simp
              clear y0 y1 y2 y3 y4
              refine hK.out _ _ trivial (fun hHeld => ?_)
              clear hK K hHeld
              try simp only [List.getElem_toArray, List.getElem_cons_succ, List.getElem_cons_zero, Act.put, List.setIfInBounds_toArray, List.set_cons_zero, List.set_cons_succ]
              refine wpAnyH_done (by kernel_rfl) ?_ _
              go_wp2_with fail
              go_meet
              exact ⟨own_far hown (by simp) _, kp.set_ 1 _, hb.setn hgp _, kt4.far (by simpa using hne.symm) _⟩
          case rest =>
            clear kp kr hown hb hs2 KT0 HP2
            obtain ⟨hown, kp, hb, kr⟩ := hcut
            generalize IntKind.i64.wrap (V + d) = V' at *
            obtain ⟨y0, y1, y2, y3, y4⟩ := kp.two
            go_wp2_with fail
            refine (value_c _ _).mono ?_
            rintro e w7 ⟨rfl, rfl⟩
            by_cases hvb : valB V' = true
            case neg =>
              have hr2 := HR1.out
              rw [if_neg hvb] at hr2
              have HR2 := hid hr2
              have HBB := hid hb
              have htf : valB V' = false := by simpa using hvb
              rw [htf]
              clear hr2 hown hb kp kr y0 y1 y2 y3 y4
              go_wp2_with fail
              refine (need_f _ _).mono ?_
              rintro e w6 ⟨rfl, rfl⟩
              exact ⟨rfl, by rw [HR2.out]; exact ⟨rfl, HBB.out⟩⟩
            have hr2 := HR1.out
            rw [if_pos hvb] at hr2
            have HR2 := hid hr2
            rw [hvb]
            clear hvb hr2 HR1
            go_wp2_with fail
            refine (need_t _ _).mono ?_
            rintro e w6 ⟨rfl, rfl⟩
            clear y0 y1 y2 y3 y4
            have HR3 := hid (show r = ptL bs (m - (i + 1)) (decide (i + 1 = 0)) q T' V' (acc ++ [(T', V')]) by rw [show decide (i + 1 = 0) = false from decide_eq_false (by omega)]; exact HR2.out)
            go_upto_region 12 with fail
            clear HR2
            refine wp_region_held_drew (S := fun _ => True) (by kernel_rfl) trivial (fun hHeld => ?_)
            clear hHeld
            have hTr : True := trivial
            have kp := kp.drew
            have kr := kr.drew
            have hown := own_drew hown
            have hb := hb.drew
            generalize wc.drew = wd at *
            refine wpAnyH_take (i := 0) (v := ?_) rfl (by kernel_rfl) (by kernel_rfl) (by kernel_rfl) (fun _ _ _ h => h) (Or.inl ⟨by rfl, ?_⟩) (by assumption) ?_
            rotate_left
            · intro W hW
              go_simp
              try rfl
            simp only [List.getElem_toArray, List.getElem_cons_zero, Act.put, List.setIfInBounds_toArray, List.set_cons_zero, List.set_cons_succ]
            refine wpAnyH_take (i := 1) (v := ?_) rfl (by kernel_rfl) (by kernel_rfl) (by kernel_rfl) (fun _ _ _ h => h) (Or.inl ⟨by rfl, ?_⟩) (by assumption) ?_
            rotate_left
            · intro W hW
              go_simp
              try rfl
            simp only [List.getElem_toArray, List.getElem_cons_succ, List.getElem_cons_zero, Act.put, List.setIfInBounds_toArray, List.set_cons_zero, List.set_cons_succ]
            refine wpAnyH_take (i := 2) (v := ?_) rfl (by kernel_rfl) (by kernel_rfl) (by kernel_rfl) (fun _ _ _ h => h) (Or.inl ⟨by rfl, ?_⟩) (by assumption) ?_
            rotate_left
            · intro W hW
              go_simp
              try rfl
            simp only [List.getElem_toArray, List.getElem_cons_succ, List.getElem_cons_zero, Act.put, List.setIfInBounds_toArray, List.set_cons_zero, List.set_cons_succ]
            refine wpAnyH_take (i := 3) (v := ?_) rfl (by kernel_rfl) (by kernel_rfl) (by kernel_rfl) (fun _ _ _ h => h) (Or.inl ⟨by rfl, ?_⟩) (by assumption) ?_
            rotate_left
            · intro W hW
              go_simp
              try rfl
            simp only [List.getElem_toArray, List.getElem_cons_succ, List.getElem_cons_zero, Act.put, List.setIfInBounds_toArray, List.set_cons_zero, List.set_cons_succ]
            refine wpAnyH_take (i := 4) (v := ?_) rfl (by kernel_rfl) (by kernel_rfl) (by kernel_rfl) (fun _ _ _ h => h) (Or.inl ⟨by rfl, ?_⟩) (by assumption) ?_
            rotate_left
            · intro W hW
              go_simp
              try rfl
            simp only [List.getElem_toArray, List.getElem_cons_succ, List.getElem_cons_zero, Act.put, List.setIfInBounds_toArray, List.set_cons_zero, List.set_cons_succ]
            refine wpAnyH_ready (rs := [5, 6]) (by kernel_rfl) (by simp) ?_
            refine AllReadyH.cons rfl (fun K hK => ?_) (AllReadyH.cons rfl (fun K hK => ?_) AllReadyH.nil)
            · obtain ⟨x0, x1, x2, x3, x4, x5, f0, f1, f2, f3, f4, f5⟩ := kr.tape5
              go_simp
              clear x0 x1 x2 x3 x4 x5 f0 f1 f2 f3 f4 f5
              refine hK.out _ _ trivial (fun hHeld => ?_)
              clear hK K hHeld
              try simp only [List.getElem_toArray, List.getElem_cons_succ, List.getElem_cons_zero, Act.put, List.setIfInBounds_toArray, List.set_cons_zero, List.set_cons_succ]
              refine wpAnyH_ready (rs := [6]) (by kernel_rfl) (by simp) ?_
              refine AllReadyH.cons rfl (fun K hK => ?_) AllReadyH.nil
              obtain ⟨y0, y1, y2, y3, y4⟩ := kp.two
              go_simp
              clear y0 y1 y2 y3 y4
              refine hK.out _ _ trivial (fun hHeld => ?_)
              clear hK K hHeld
              try simp only [List.getElem_toArray, List.getElem_cons_succ, List.getElem_cons_zero, Act.put, List.setIfInBounds_toArray, List.set_cons_zero, List.set_cons_succ]
              refine wpAnyH_ready (rs := [7]) (by kernel_rfl) (by simp) ?_
              refine AllReadyH.cons rfl (fun K hK => ?_) AllReadyH.nil
              go_simp
              have hnew := pair_new wd T' V'
              have kr := kr.alloc (.cells #[.int .i64 T', .int .i64 V'] 51)
              have hown := hown.alloc (.cells #[.int .i64 T', .int .i64 V'] 51)
              have hb := hb.alloc (.cells #[.int .i64 T', .int .i64 V'] 51)
              have hsz : w2.heap.size + 1 ≤ (wd.alloc (.cells #[.int .i64 T', .int .i64 V'] 51)).heap.size := by have := kp.lt; simp; omega
              have kp := kp.alloc (.cells #[.int .i64 T', .int .i64 V'] 51)
              generalize wd.alloc (.cells #[.int .i64 T', .int .i64 V'] 51) = wn1 at *
              generalize wd.heap.size = gn at *
              refine hK.out _ _ trivial (fun hHeld => ?_)
              clear hK K hHeld
              try simp only [List.getElem_toArray, List.getElem_cons_succ, List.getElem_cons_zero, Act.put, List.setIfInBounds_toArray, List.set_cons_zero, List.set_cons_succ]
              refine wpAnyH_ready (rs := [8]) (by kernel_rfl) (by simp) ?_
              refine AllReadyH.cons rfl (fun K hK => ?_) AllReadyH.nil
              rw [if_pos (by rfl)]
              refine wp_append_any _ (.tmp 44) (.tmp 46) 22 rfl (w2.heap.size + 1) 51 i0 (.agg #[.int .i64 0, .int .i64 0]) 2 16 Try.underlying22 HI.out.1 HI.out.2.1 HI.out.2.2.1 HI.out.2.2.2 rfl (by decide) _ i (acc.flatMap cellsP) rfl hown (some ⟨gn, 0, none⟩) 1 1 [.int .i64 T', .int .i64 V'] rfl hnew (by intro u hu; simp only [List.mem_cons, List.not_mem_nil, or_false] at hu; rcases hu with rfl | rfl <;> rfl) (by simp only [maxLen]; omega) (by omega) hsz ?_
              intro v' wa2 hown' hg' hv'
              obtain ⟨C', f', rfl, _, _⟩ := own_form hown'
              have hbl := (Below.refl (w2.heap.size + 1) _).grown hg' hsz (fun k hk => (hown.lt k hk).1)
              have kr := kr.below hbl (by omega)
              have hb := hb.then_ (hbl.mono (by omega))
              have kp := kp.below hbl (by omega)
              rw [← cellsP_snoc acc (T', V')] at hown'
              clear hg' hv' hbl hown hnew
              refine hK.out _ _ trivial (fun hHeld => ?_)
              clear hK K hHeld
              try simp only [List.getElem_toArray, List.getElem_cons_succ, List.getElem_cons_zero, Act.put, List.setIfInBounds_toArray, List.set_cons_zero, List.set_cons_succ]
              refine wpAnyH_take (i := 9) (v := ?_) rfl (by kernel_rfl) (by kernel_rfl) (by kernel_rfl) (fun _ _ _ h => h) (Or.inl ⟨by rfl, ?_⟩) (by assumption) ?_
              rotate_left
              · intro W hW
                go_simp
                try rfl
              simp only [List.getElem_toArray, List.getElem_cons_succ, List.getElem_cons_zero, Act.put, List.setIfInBounds_toArray, List.set_cons_zero, List.set_cons_succ]
              refine wpAnyH_take (i := 10) (v := ?_) rfl (by kernel_rfl) (by kernel_rfl) (by kernel_rfl) (fun _ _ _ h => h) (Or.inl ⟨by rfl, ?_⟩) (by assumption) ?_
              rotate_left
              · intro W hW
                go_simp
                try rfl
              simp only [List.getElem_toArray, List.getElem_cons_succ, List.getElem_cons_zero, Act.put, List.setIfInBounds_toArray, List.set_cons_zero, List.set_cons_succ]
              refine wpAnyH_take (i := 11) (v := ?_) rfl (by kernel_rfl) (by kernel_rfl) (by kernel_rfl) (fun _ _ _ h => h) (Or.inl ⟨by rfl, ?_⟩) (by assumption) ?_
              rotate_left
              · intro W hW
                go_simp
                try rfl
              simp only [List.getElem_toArray, List.getElem_cons_succ, List.getElem_cons_zero, Act.put, List.setIfInBounds_toArray, List.set_cons_zero, List.set_cons_succ]
              refine wpAnyH_ready (rs := [12]) (by kernel_rfl) (by simp) ?_
              refine AllReadyH.cons rfl (fun K hK => ?_) AllReadyH.nil
              obtain ⟨x0, x1, x2, x3, x4, x5, f0, f1, f2, f3, f4, f5⟩ := kr.tape5
              go_simp
              clear x0 x1 x2 x3 x4 x5 f0 f1 f2 f3 f4 f5
              refine hK.out _ _ trivial (fun hHeld => ?_)
              clear hK K hHeld
              try simp only [List.getElem_toArray, List.getElem_cons_succ, List.getElem_cons_zero, Act.put, List.setIfInBounds_toArray, List.set_cons_zero, List.set_cons_succ]
              refine wpAnyH_done (by kernel_rfl) ?_ _
              have hown9 := own_far hown' (a := ⟨g, 5, none⟩) (by simp; omega) (.slice C' (i + 1) f')
              have kp9 := kp.far (p := ⟨g, 5, none⟩) hne (.slice C' (i + 1) f')
              have hb9 := hb.setg 5 (.slice C' (i + 1) f')
              have kr9 := kr.set_ 5 (.slice C' (i + 1) f')
              clear hown' kp hb kr
              go_wp2_with fail
              exact ⟨⟨i + 1, q, T', V', acc ++ [(T', V')], C', f', by omega, by go_num, by simp [hal], HR3, hown9, kp9, hb9, kr9⟩, by simp [intOf]; omega⟩
            · obtain ⟨y0, y1, y2, y3, y4⟩ := kp.two
              go_simp
              clear y0 y1 y2 y3 y4
              refine hK.out _ _ trivial (fun hHeld => ?_)
              clear hK K hHeld
              try simp only [List.getElem_toArray, List.getElem_cons_succ, List.getElem_cons_zero, Act.put, List.setIfInBounds_toArray, List.set_cons_zero, List.set_cons_succ]
              refine wpAnyH_ready (rs := [5, 7]) (by kernel_rfl) (by simp) ?_
              refine AllReadyH.cons rfl (fun K hK => ?_) (AllReadyH.cons rfl (fun K hK => ?_) AllReadyH.nil)
              · obtain ⟨x0, x1, x2, x3, x4, x5, f0, f1, f2, f3, f4, f5⟩ := kr.tape5
                go_simp
                clear x0 x1 x2 x3 x4 x5 f0 f1 f2 f3 f4 f5
                refine hK.out _ _ trivial (fun hHeld => ?_)
                clear hK K hHeld
                try simp only [List.getElem_toArray, List.getElem_cons_succ, List.getElem_cons_zero, Act.put, List.setIfInBounds_toArray, List.set_cons_zero, List.set_cons_succ]
                refine wpAnyH_ready (rs := [7]) (by kernel_rfl) (by simp) ?_
                refine AllReadyH.cons rfl (fun K hK => ?_) AllReadyH.nil
                go_simp
                have hnew := pair_new wd T' V'
                have kr := kr.alloc (.cells #[.int .i64 T', .int .i64 V'] 51)
                have hown := hown.alloc (.cells #[.int .i64 T', .int .i64 V'] 51)
                have hb := hb.alloc (.cells #[.int .i64 T', .int .i64 V'] 51)
                have hsz : w2.heap.size + 1 ≤ (wd.alloc (.cells #[.int .i64 T', .int .i64 V'] 51)).heap.size := by have := kp.lt; simp; omega
                have kp := kp.alloc (.cells #[.int .i64 T', .int .i64 V'] 51)
                generalize wd.alloc (.cells #[.int .i64 T', .int .i64 V'] 51) = wn3 at *
                generalize wd.heap.size = gn at *
                refine hK.out _ _ trivial (fun hHeld => ?_)
                clear hK K hHeld
                try simp only [List.getElem_toArray, List.getElem_cons_succ, List.getElem_cons_zero, Act.put, List.setIfInBounds_toArray, List.set_cons_zero, List.set_cons_succ]
                refine wpAnyH_ready (rs := [8]) (by kernel_rfl) (by simp) ?_
                refine AllReadyH.cons rfl (fun K hK => ?_) AllReadyH.nil
                rw [if_pos (by rfl)]
                refine wp_append_any _ (.tmp 44) (.tmp 46) 22 rfl (w2.heap.size + 1) 51 i0 (.agg #[.int .i64 0, .int .i64 0]) 2 16 Try.underlying22 HI.out.1 HI.out.2.1 HI.out.2.2.1 HI.out.2.2.2 rfl (by decide) _ i (acc.flatMap cellsP) rfl hown (some ⟨gn, 0, none⟩) 1 1 [.int .i64 T', .int .i64 V'] rfl hnew (by intro u hu; simp only [List.mem_cons, List.not_mem_nil, or_false] at hu; rcases hu with rfl | rfl <;> rfl) (by simp only [maxLen]; omega) (by omega) hsz ?_
                intro v' wa4 hown' hg' hv'
                obtain ⟨C', f', rfl, _, _⟩ := own_form hown'
                have hbl := (Below.refl (w2.heap.size + 1) _).grown hg' hsz (fun k hk => (hown.lt k hk).1)
                have kr := kr.below hbl (by omega)
                have hb := hb.then_ (hbl.mono (by omega))
                have kp := kp.below hbl (by omega)
                rw [← cellsP_snoc acc (T', V')] at hown'
                clear hg' hv' hbl hown hnew
                refine hK.out _ _ trivial (fun hHeld => ?_)
                clear hK K hHeld
                try simp only [List.getElem_toArray, List.getElem_cons_succ, List.getElem_cons_zero, Act.put, List.setIfInBounds_toArray, List.set_cons_zero, List.set_cons_succ]
                refine wpAnyH_take (i := 9) (v := ?_) rfl (by kernel_rfl) (by kernel_rfl) (by kernel_rfl) (fun _ _ _ h => h) (Or.inl ⟨by rfl, ?_⟩) (by assumption) ?_
                rotate_left
                · intro W hW
                  go_simp
                  try rfl
                simp only [List.getElem_toArray, List.getElem_cons_succ, List.getElem_cons_zero, Act.put, List.setIfInBounds_toArray, List.set_cons_zero, List.set_cons_succ]
                refine wpAnyH_take (i := 10) (v := ?_) rfl (by kernel_rfl) (by kernel_rfl) (by kernel_rfl) (fun _ _ _ h => h) (Or.inl ⟨by rfl, ?_⟩) (by assumption) ?_
                rotate_left
                · intro W hW
                  go_simp
                  try rfl
                simp only [List.getElem_toArray, List.getElem_cons_succ, List.getElem_cons_zero, Act.put, List.setIfInBounds_toArray, List.set_cons_zero, List.set_cons_succ]
                refine wpAnyH_take (i := 11) (v := ?_) rfl (by kernel_rfl) (by kernel_rfl) (by kernel_rfl) (fun _ _ _ h => h) (Or.inl ⟨by rfl, ?_⟩) (by assumption) ?_
                rotate_left
                · intro W hW
                  go_simp
                  try rfl
                simp only [List.getElem_toArray, List.getElem_cons_succ, List.getElem_cons_zero, Act.put, List.setIfInBounds_toArray, List.set_cons_zero, List.set_cons_succ]
                refine wpAnyH_ready (rs := [12]) (by kernel_rfl) (by simp) ?_
                refine AllReadyH.cons rfl (fun K hK => ?_) AllReadyH.nil
                obtain ⟨x0, x1, x2, x3, x4, x5, f0, f1, f2, f3, f4, f5⟩ := kr.tape5
                go_simp
                clear x0 x1 x2 x3 x4 x5 f0 f1 f2 f3 f4 f5
                refine hK.out _ _ trivial (fun hHeld => ?_)
                clear hK K hHeld
                try simp only [List.getElem_toArray, List.getElem_cons_succ, List.getElem_cons_zero, Act.put, List.setIfInBounds_toArray, List.set_cons_zero, List.set_cons_succ]
                refine wpAnyH_done (by kernel_rfl) ?_ _
                have hown9 := own_far hown' (a := ⟨g, 5, none⟩) (by simp; omega) (.slice C' (i + 1) f')
                have kp9 := kp.far (p := ⟨g, 5, none⟩) hne (.slice C' (i + 1) f')
                have hb9 := hb.setg 5 (.slice C' (i + 1) f')
                have kr9 := kr.set_ 5 (.slice C' (i + 1) f')
                clear hown' kp hb kr
                go_wp2_with fail
                exact ⟨⟨i + 1, q, T', V', acc ++ [(T', V')], C', f', by omega, by go_num, by simp [hal], HR3, hown9, kp9, hb9, kr9⟩, by simp [intOf]; omega⟩
              · go_simp
                have hnew := pair_new wd T' V'
                have kr := kr.alloc (.cells #[.int .i64 T', .int .i64 V'] 51)
                have hown := hown.alloc (.cells #[.int .i64 T', .int .i64 V'] 51)
                have hb := hb.alloc (.cells #[.int .i64 T', .int .i64 V'] 51)
                have hsz : w2.heap.size + 1 ≤ (wd.alloc (.cells #[.int .i64 T', .int .i64 V'] 51)).heap.size := by have := kp.lt; simp; omega
                have kp := kp.alloc (.cells #[.int .i64 T', .int .i64 V'] 51)
                generalize wd.alloc (.cells #[.int .i64 T', .int .i64 V'] 51) = wn5 at *
                generalize wd.heap.size = gn at *
                refine hK.out _ _ trivial (fun hHeld => ?_)
                clear hK K hHeld
                try simp only [List.getElem_toArray, List.getElem_cons_succ, List.getElem_cons_zero, Act.put, List.setIfInBounds_toArray, List.set_cons_zero, List.set_cons_succ]
                refine wpAnyH_ready (rs := [5]) (by kernel_rfl) (by simp) ?_
                refine AllReadyH.cons rfl (fun K hK => ?_) AllReadyH.nil
                obtain ⟨x0, x1, x2, x3, x4, x5, f0, f1, f2, f3, f4, f5⟩ := kr.tape5
                go_simp
                clear x0 x1 x2 x3 x4 x5 f0 f1 f2 f3 f4 f5
                refine hK.out _ _ trivial (fun hHeld => ?_)
                clear hK K hHeld
                try simp only [List.getElem_toArray, List.getElem_cons_succ, List.getElem_cons_zero, Act.put, List.setIfInBounds_toArray, List.set_cons_zero, List.set_cons_succ]
                refine wpAnyH_ready (rs := [8]) (by kernel_rfl) (by simp) ?_
                refine AllReadyH.cons rfl (fun K hK => ?_) AllReadyH.nil
                rw [if_pos (by rfl)]
                refine wp_append_any _ (.tmp 44) (.tmp 46) 22 rfl (w2.heap.size + 1) 51 i0 (.agg #[.int .i64 0, .int .i64 0]) 2 16 Try.underlying22 HI.out.1 HI.out.2.1 HI.out.2.2.1 HI.out.2.2.2 rfl (by decide) _ i (acc.flatMap cellsP) rfl hown (some ⟨gn, 0, none⟩) 1 1 [.int .i64 T', .int .i64 V'] rfl hnew (by intro u hu; simp only [List.mem_cons, List.not_mem_nil, or_false] at hu; rcases hu with rfl | rfl <;> rfl) (by simp only [maxLen]; omega) (by omega) hsz ?_
                intro v' wa6 hown' hg' hv'
                obtain ⟨C', f', rfl, _, _⟩ := own_form hown'
                have hbl := (Below.refl (w2.heap.size + 1) _).grown hg' hsz (fun k hk => (hown.lt k hk).1)
                have kr := kr.below hbl (by omega)
                have hb := hb.then_ (hbl.mono (by omega))
                have kp := kp.below hbl (by omega)
                rw [← cellsP_snoc acc (T', V')] at hown'
                clear hg' hv' hbl hown hnew
                refine hK.out _ _ trivial (fun hHeld => ?_)
                clear hK K hHeld
                try simp only [List.getElem_toArray, List.getElem_cons_succ, List.getElem_cons_zero, Act.put, List.setIfInBounds_toArray, List.set_cons_zero, List.set_cons_succ]
                refine wpAnyH_take (i := 9) (v := ?_) rfl (by kernel_rfl) (by kernel_rfl) (by kernel_rfl) (fun _ _ _ h => h) (Or.inl ⟨by rfl, ?_⟩) (by assumption) ?_
                rotate_left
                · intro W hW
                  go_simp
                  try rfl
                simp only [List.getElem_toArray, List.getElem_cons_succ, List.getElem_cons_zero, Act.put, List.setIfInBounds_toArray, List.set_cons_zero, List.set_cons_succ]
                refine wpAnyH_take (i := 10) (v := ?_) rfl (by kernel_rfl) (by kernel_rfl) (by kernel_rfl) (fun _ _ _ h => h) (Or.inl ⟨by rfl, ?_⟩) (by assumption) ?_
                rotate_left
                · intro W hW
                  go_simp
                  try rfl
                simp only [List.getElem_toArray, List.getElem_cons_succ, List.getElem_cons_zero, Act.put, List.setIfInBounds_toArray, List.set_cons_zero, List.set_cons_succ]
                refine wpAnyH_take (i := 11) (v := ?_) rfl (by kernel_rfl) (by kernel_rfl) (by kernel_rfl) (fun _ _ _ h => h) (Or.inl ⟨by rfl, ?_⟩) (by assumption) ?_
                rotate_left
                · intro W hW
                  go_simp
                  try rfl
                simp only [List.getElem_toArray, List.getElem_cons_succ, List.getElem_cons_zero, Act.put, List.setIfInBounds_toArray, List.set_cons_zero, List.set_cons_succ]
                refine wpAnyH_ready (rs := [12]) (by kernel_rfl) (by simp) ?_
                refine AllReadyH.cons rfl (fun K hK => ?_) AllReadyH.nil
                obtain ⟨x0, x1, x2, x3, x4, x5, f0, f1, f2, f3, f4, f5⟩ := kr.tape5
                go_simp
                clear x0 x1 x2 x3 x4 x5 f0 f1 f2 f3 f4 f5
                refine hK.out _ _ trivial (fun hHeld => ?_)
                clear hK K hHeld
                try simp only [List.getElem_toArray, List.getElem_cons_succ, List.getElem_cons_zero, Act.put, List.setIfInBounds_toArray, List.set_cons_zero, List.set_cons_succ]
                refine wpAnyH_done (by kernel_rfl) ?_ _
                have hown9 := own_far hown' (a := ⟨g, 5, none⟩) (by simp; omega) (.slice C' (i + 1) f')
                have kp9 := kp.far (p := ⟨g, 5, none⟩) hne (.slice C' (i + 1) f')
                have hb9 := hb.setg 5 (.slice C' (i + 1) f')
                have kr9 := kr.set_ 5 (.slice C' (i + 1) f')
                clear hown' kp hb kr
                go_wp2_with fail
                exact ⟨⟨i + 1, q, T', V', acc ++ [(T', V')], C', f', by omega, by go_num, by simp [hal], HR3, hown9, kp9, hb9, kr9⟩, by simp [intOf]; omega⟩
    · obtain rfl : i = m := by omega
      have hr2 : r = .ok (acc, zi) := by rw [hr.out, Nat.sub_self]; rfl
      have HR2 := hid hr2
      have HOW := hid hown
      have HBB := hid hb
      have HKR := hid kr
      have HAL := hid hal
      clear hr2 hr hown hb kr kp hal
      go_wp2
      refine bodyPost_ret (results_none rfl _ _ _) rfl ?_
      rw [HR2.out]
      refine ⟨C, f, ?_, ?_⟩
      · rw [HAL.out]; exact ⟨rfl, HBB.out, HKR.out⟩
      · rw [HAL.out]; exact own_base HOW.out (by omega)
end
end Go.Proofs.Ytedojdbihajnbaa
