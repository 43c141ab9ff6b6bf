/- Contracts of record: Rows (seat Record). -/
import Derived.Test.YtedojdbihajnbaaRecH
namespace Go.Proofs.Ytedojdbihajnbaa
open Go.RowKit Go.Shelf VB
open Go.Lib (hid)
set_option linter.unusedVariables false
set_option linter.unusedSimpArgs false
theorem plainS_lt {bs : List Nat} {most z v p : Nat} (h : plainS bs most z = .ok (v, p)) : z < p ∧ p ≤ bs.length := by
  have h1 := (plainS_ok h).1
  obtain ⟨_, h2, h3⟩ := gotN_ok (bs := bs) (z := (z : Int)) (by rw [h1])
  rw [h1] at h2 h3
  exact ⟨by simpa using h2, h3⟩
theorem signS_lt {bs : List Nat} {z p : Nat} {v : Int} (h : signS bs z = .ok (v, p)) : z < p ∧ p ≤ bs.length := by
  obtain ⟨u, h1, _⟩ := signS_ok h
  obtain ⟨_, h2, h3⟩ := gotN_ok (bs := bs) (z := (z : Int)) (by rw [h1])
  rw [h1] at h2 h3
  exact ⟨by simpa using h2, h3⟩
theorem nameL_lt {bs l : List Nat} {p : Nat} : ∀ {k z : Nat} {acc : List Nat}, z ≤ bs.length → nameL bs k z acc = .ok (l, p) → z ≤ p ∧ p ≤ bs.length
  | 0, z, acc, hz, h => by
    injection h with h
    injection h with _ h
    omega
  | k + 1, z, acc, hz, h => by
    unfold nameL at h
    split at h
    · split at h
      · have := nameL_lt (by omega) h; omega
      · cases h
    · cases h
theorem nameS_lt {bs l : List Nat} {z p : Nat} (h : nameS bs z = .ok (l, p)) : z < p ∧ p ≤ bs.length := by
  unfold nameS at h
  split at h
  · split at h
    · have := nameL_lt (by omega) h; omega
    · cases h
  · cases h
theorem boundS_lt {bs : List Nat} {z p : Nat} {a : Nat × Int} (h : boundS bs z = .ok (a, p)) : z < p ∧ p ≤ bs.length := by
  unfold boundS at h
  split at h
  · cases h
  · rename_i h1
    split at h
    · cases h
    · rename_i h2
      split at h
      · injection h with h
        injection h with _ h
        have := plainS_lt h1
        have := signS_lt h2
        omega
      · cases h
theorem timeS_lt {bs : List Nat} {fst : Bool} {z p : Nat} {T t : Int} (h : timeS bs fst z T = .ok (t, p)) : z < p ∧ p ≤ bs.length := by
  unfold timeS at h
  split at h
  · split at h
    · cases h
    · rename_i h1
      injection h with h
      injection h with _ h
      have := plainS_lt h1; omega
  · split at h
    · cases h
    · rename_i h1
      injection h with h
      injection h with _ h
      have := signS_lt h1; omega
theorem ptL_lt {bs : List Nat} {l : List (Int × Int)} {p : Nat} : ∀ {k : Nat} {fst : Bool} {z : Nat} {T V : Int} {acc : List (Int × Int)}, z ≤ bs.length → ptL bs k fst z T V acc = .ok (l, p) → z ≤ p ∧ p ≤ bs.length
  | 0, _, z, _, _, _, hz, h => by
    injection h with h
    injection h with _ h
    omega
  | k + 1, fst, z, T, V, acc, hz, h => by
    rw [ptL_succ] at h
    split at h
    · cases h
    · rename_i h1
      have h1' := timeS_lt h1
      split at h
      · split at h
        · cases h
        · rename_i h2
          have h2' := signS_lt h2
          split at h
          · have := ptL_lt (by omega) h; omega
          · cases h
      · cases h
theorem pointsS_lt {bs : List Nat} {l : List (Int × Int)} {z p : Nat} (h : pointsS bs z = .ok (l, p)) : z < p ∧ p ≤ bs.length := by
  unfold pointsS at h
  split at h
  · cases h
  · rename_i h1
    have h1' := plainS_lt h1
    split at h
    · have := ptL_lt (by omega) h; omega
    · cases h
theorem bodyS_lt {bs : List Nat} {kd : Nat} {nm : List Nat} {z p : Nat} {m : Mu} (hz : z ≤ bs.length) (h : bodyS bs kd nm z = .ok (m, p)) : z ≤ p ∧ p ≤ bs.length := by
  unfold bodyS at h
  split at h
  · split at h
    · cases h
    · rename_i h1
      injection h with h
      injection h with _ h
      have := boundS_lt h1; omega
  · split at h
    · injection h with h
      injection h with _ h
      omega
    · split at h
      · split at h
        · cases h
        · rename_i h1
          injection h with h
          injection h with _ h
          have := pointsS_lt h1; omega
      · split at h
        · cases h
        · rename_i h1
          injection h with h
          injection h with _ h
          have := plainS_lt h1; omega
theorem mutS_lt {bs : List Nat} {z p : Nat} {m : Mu} (h : mutS bs z = .ok (m, p)) : z < p ∧ p ≤ bs.length := by
  unfold mutS at h
  split at h
  · split at h
    · split at h
      · cases h
      · rename_i h1
        have h1' := nameS_lt h1
        have := bodyS_lt h1'.2 h
        omega
    · cases h
  · cases h
def rowsL (bs : List Nat) : Nat → Nat → List Mu → Except Int (List Mu × Nat)
  | 0, z, acc => .ok (acc, z)
  | k + 1, z, acc => match mutS bs z with | .error x => .error x | .ok (m, p) => rowsL bs k p (acc ++ [m])
def endS (bs : List Nat) : Except Int (List Mu × Nat) → Except Int (List Mu)
  | .error x => .error x
  | .ok (l, z) => if z = bs.length then .ok l else .error 7
/-- the mutations of a row that has just some bytes -/
def rowsS (bs : List Nat) : Except Int (List Mu) :=
  if (gotN bs 0).2.2 = 0 then endS bs (rowsL bs (gotN bs 0).1 (gotN bs 0).2.1 []) else .error (gotN bs 0).2.2
/-- a mutation, and where its points lie -/
abbrev MuA := Mu × Option Addr × Nat
def cellsM (q : MuA) : List Value := [.int .i64 q.1.kind, .string q.1.name, .int .i64 q.1.eps, .int .i64 q.1.floor, .int .i64 q.1.scale, .slice q.2.1 q.1.pts.length q.2.2]
theorem cellsM_len (l : List MuA) : (l.flatMap cellsM).length = l.length * 6 := by
  induction l with
  | nil => rfl
  | cons x l ih => rw [List.flatMap_cons, List.length_append, ih, List.length_cons]; simp only [cellsM, List.length_cons, List.length_nil]; omega
theorem cellsM_snoc (l : List MuA) (q : MuA) : (l ++ [q]).flatMap cellsM = l.flatMap cellsM ++ cellsM q := by simp
/-- each one's points lie in memory of their own, in rising blocks -/
def OwnPts (w : World) : Nat → List MuA → Nat → Prop
  | B, [], E => B ≤ E
  | B, q :: l, E => ∃ B', B ≤ B' ∧ w.ownsRow B 51 2 (.slice q.2.1 q.1.pts.length q.2.2) q.1.pts.length (q.1.pts.flatMap cellsP) ∧ (∀ k, (Value.slice q.2.1 q.1.pts.length q.2.2).ownBlock = some k → k < B') ∧ OwnPts w B' l E
theorem OwnPts.snoc {w : World} {q : MuA} {E E' : Nat} : ∀ {B : Nat} {l : List MuA}, OwnPts w B l E → w.ownsRow E 51 2 (.slice q.2.1 q.1.pts.length q.2.2) q.1.pts.length (q.1.pts.flatMap cellsP) → (∀ k, (Value.slice q.2.1 q.1.pts.length q.2.2).ownBlock = some k → k < E') → E ≤ E' → OwnPts w B (l ++ [q]) E'
  | B, [], h, ho, hk, he => ⟨E', Nat.le_trans h he, own_base ho h, hk, Nat.le_refl _⟩
  | B, x :: l, ⟨B', h1, h2, h3, h4⟩, ho, hk, he => ⟨B', h1, h2, h3, OwnPts.snoc h4 ho hk he⟩
theorem own_keep {w w' : World} {base : Nat} {e : TypeId} {size n : Nat} {v : Value} {xs : List Value} (h : w.ownsRow base e size v n xs) (hk : ∀ b, Typed w b e → w'.heap[b]? = w.heap[b]?) : w'.ownsRow base e size v n xs := by
  obtain ⟨h1, h2⟩ := h
  refine ⟨h1, h2.imp id ?_⟩
  rintro ⟨b, cap, cs, hv, hb, hh, hr⟩
  exact ⟨b, cap, cs, hv, hb, (hk b ⟨_, _, hh⟩).trans hh, hr⟩
theorem OwnPts.keep {w w' : World} {E : Nat} (hk : ∀ b, Typed w b 51 → w'.heap[b]? = w.heap[b]?) : ∀ {B : Nat} {l : List MuA}, OwnPts w B l E → OwnPts w' B l E
  | B, [], h => h
  | B, x :: l, ⟨B', h1, h2, h3, h4⟩ => ⟨B', h1, own_keep h2 hk, h3, OwnPts.keep hk h4⟩
theorem OwnPts.drew {w : World} {E : Nat} {B : Nat} {l : List MuA} (h : OwnPts w B l E) : OwnPts w.drew B l E := OwnPts.keep (w := w) (w' := w.drew) (fun _ _ => rfl) h
theorem OwnPts.up {w : World} {E E' : Nat} (he : E ≤ E') : ∀ {B : Nat} {l : List MuA}, OwnPts w B l E → OwnPts w B l E'
  | B, [], h => Nat.le_trans h he
  | B, x :: l, ⟨B', h1, h2, h3, h4⟩ => ⟨B', h1, h2, h3, OwnPts.up he h4⟩
theorem OwnPts.but {w w' : World} {E g : Nat} {B : Nat} {l : List MuA} (h : OwnPts w B l E) (k : But g w w') (ht : Typed w g 64) : OwnPts w' B l E :=
  h.keep fun b hb => k.block b hb.lt (ne_typed hb ht (by decide))
theorem mut_info : (Try.prog.info? 24).map (fun i => (i.zero, i.size, i.bytes)) = some (some (.agg zMuC), 6, 72) := by kernel_rfl
/-- what the inner function of Rows hands back -/
def RetRs (r : Except Int (List Mu)) (g : Nat) (w : World) (e : Ending) (w' : World) : Prop :=
  match r with
  | .ok l => ∃ C f ms, ms.map Prod.fst = l ∧ e = .returned (.slice C l.length f) ∧ w'.ownsRow w.heap.size 24 6 (.slice C l.length f) l.length (ms.flatMap cellsM) ∧ OwnPts w' w.heap.size ms w'.heap.size ∧ But g w w'
  | .error x => RetX x g w e w'
theorem OwnPts.grown {w w' : World} {B E base n : Nat} {v : Value} {xs : List Value} {l : List MuA} (h : OwnPts w B l E) (hown : w.ownsRow base 24 6 v n xs) (hg : w.grownBy w' v.ownBlock) : OwnPts w' B l E := by
  refine h.keep fun b hb => hg.block b hb.lt ?_
  intro e
  obtain ⟨_, h2⟩ := hown
  rcases h2 with ⟨rfl, _⟩ | ⟨q, cap, cs, rfl, _, hh, _⟩
  · cases e
  · injection e with e
    subst e
    obtain ⟨c1, r1, h1⟩ := hb
    rw [h1] at hh
    injection hh with hh
    injection hh with _ h3
    exact absurd h3 (by decide)
theorem six_new (w : World) (q : MuA) : Reads (w.alloc (.cells #[.int .i64 q.1.kind, .string q.1.name, .int .i64 q.1.eps, .int .i64 q.1.floor, .int .i64 q.1.scale, .slice q.2.1 q.1.pts.length q.2.2] 24)) 24 6 (some ⟨w.heap.size, 0, none⟩) 1 (cellsM q) := by
  have k := Blk.new w 24 #[.int .i64 q.1.kind, .string q.1.name, .int .i64 q.1.eps, .int .i64 q.1.floor, .int .i64 q.1.scale, .slice q.2.1 q.1.pts.length q.2.2]
  refine ⟨rfl, fun _ => ⟨_, rfl, k.typed, ?_⟩⟩
  intro j u hu
  have h6 := k.six
  obtain ⟨c0, c1, c2, c3, c4, c5, _⟩ := h6
  match j, hu with
  | 0, hu => obtain rfl : Value.int .i64 q.1.kind = u := by simpa [cellsM] using hu
             exact c0
  | 1, hu => obtain rfl : Value.string q.1.name = u := by simpa [cellsM] using hu
             exact c1
  | 2, hu => obtain rfl : Value.int .i64 q.1.eps = u := by simpa [cellsM] using hu
             exact c2
  | 3, hu => obtain rfl : Value.int .i64 q.1.floor = u := by simpa [cellsM] using hu
             exact c3
  | 4, hu => obtain rfl : Value.int .i64 q.1.scale = u := by simpa [cellsM] using hu
             exact c4
  | 5, hu => obtain rfl : Value.slice q.2.1 q.1.pts.length q.2.2 = u := by simpa [cellsM] using hu
             exact c5
theorem cellsM_one (q : MuA) : ∀ u ∈ cellsM q, u.oneCell' = true := by
  intro u hu
  simp only [cellsM, List.mem_cons, List.not_mem_nil, or_false] at hu
  rcases hu with rfl | rfl | rfl | rfl | rfl | rfl <;> rfl
set_option maxRecDepth 100000 in
set_option maxHeartbeats 1000000 in
theorem rows1_c {B : Option Addr} {n c : Nat} {bs : List Nat} {w : World} {g gb gt : Nat} {k : Int} {nm : ByteArray} {ep fl sc : Int} {P : Value} {z0 : Nat} (hs : Src w B n c bs) (kb : Blk w gb 32 #[.slice B n c]) (kt : Blk w g 64 (tapeC k nm ep fl sc P B n c z0)) (kp : Blk w gt 62 #[.pointer (some ⟨g, 0, none⟩)]) (hgb : gb ≠ g) (hgt : gt ≠ g) :
    Calls Try.prog 49 #[.pointer (some ⟨gb, 0, none⟩), .pointer (some ⟨gt, 0, none⟩)] w (RetRs (rowsS bs) g w) := by
  have hl := hs.len
  obtain ⟨v, p0, x0, hg⟩ : ∃ v p x, gotN bs 0 = (v, p, x) := ⟨_, _, _, rfl⟩
  have hv64 := gotN_small bs 0
  rw [hg] at hv64
  have HGU := hid (fun w hs => GetU_s (w := w) (B := B) (n := n) (c := c) (z := 0) hs (show gotN bs ((0 : Nat) : Int) = (v, p0, x0) from hg))
  have HS := hid hs
  have HT := hid kt.typed
  have HG := hid kt.lt
  obtain ⟨b0, b1⟩ := (show w.cell? ⟨gb, 0, none⟩ = some (.slice B n c) ∧ gb < w.heap.size from ⟨kb.cell 0, kb.lt⟩)
  by_cases hx : x0 = 0
  case neg =>
    have e1 : rowsS bs = .error x0 := by unfold rowsS; rw [hg]; exact if_neg hx
    rw [e1]
    have hx1 : (x0 == 0) = false := beq_eq_false_iff_ne.2 hx
    have hx2 : decide (x0 = 0) = false := decide_eq_false hx
    clear e1 hx hg hv64 kt kp kb hs
    show Calls _ _ _ w (RetX x0 g w)
    go_enter Try.func49, Try.ntmps49
    go_wp2_with fail
    refine (HGU.out _ HS.out).mono ?_
    rintro e w2 ⟨rfl, rfl⟩
    go_wp2_with fail
    refine (need_f _ _).mono ?_
    rintro e w2 ⟨rfl, rfl⟩
    exact ⟨rfl, rfl, But.refl _ _⟩
  subst hx
  obtain ⟨r, hr⟩ : ∃ r, r = rowsL bs v p0 [] := ⟨_, rfl⟩
  have e1 : rowsS bs = endS bs r := by unfold rowsS; rw [hg, hr]; exact if_pos rfl
  obtain ⟨rs, hrs⟩ : ∃ rs, rs = rowsS bs := ⟨_, rfl⟩
  rw [← hrs] at e1 ⊢
  have HRS := hid e1
  have HR := hid hr
  have hp0 : p0 ≤ n := by
    obtain ⟨_, h2, h3⟩ := gotN_ok (bs := bs) (z := 0) (by rw [hg])
    rw [hg] at h3
    change p0 ≤ bs.length at h3
    omega
  obtain ⟨i0, hi0, hz0, hz1, hz2⟩ := info_parts3 mut_info
  have HI := hid (And.intro hi0 (And.intro hz0 (And.intro hz1 hz2)))
  have HKB := hid kb
  have HKP := hid kp
  have hn6 := hs.hn
  obtain ⟨d0, d1⟩ := (show w.cell? ⟨gt, 0, none⟩ = some (.pointer (some ⟨g, 0, none⟩)) ∧ gt < w.heap.size from ⟨kp.cell 0, kp.lt⟩)
  obtain ⟨c0, c1, f0, f1, hlt⟩ := kt.tape
  have HK0 := hid (tape_set kt (p0 : Nat))
  have HB0 := hid ((But.refl g w).setg 7 (.int .i64 (p0 : Nat)))
  clear e1 hg hr hrs kt kp kb hs hi0 hz0 hz1 hz2
  go_enter Try.func49, Try.ntmps49
  go_wp2_with fail
  refine (HGU.out _ HS.out).mono ?_
  rintro e w2 ⟨rfl, rfl⟩
  go_wp2_with fail
  refine (need_t _ _).mono ?_
  rintro e w2 ⟨rfl, rfl⟩
  go_wp2_with fail
  clear c0 c1 f0 f1 hlt b0 d0
  go_loopw [3, 22] (fun u3 u22 wr => ∃ (i z : Nat) (ms : List MuA) (C : Option Addr) (f : Nat) (k : Int) (nm : ByteArray) (ep fl sc : Int) (P : Value), i ≤ v ∧ u22 = .int .u64 (i : Nat) ∧ u3 = .slice C i f ∧ ms.length = i ∧ i ≤ z ∧ z ≤ n ∧ Hid (r = rowsL bs (v - i) z (ms.map Prod.fst)) ∧ wr.ownsRow w.heap.size 24 6 (.slice C i f) i (ms.flatMap cellsM) ∧
      OwnPts wr w.heap.size ms wr.heap.size ∧ But g w wr ∧ Blk wr g 64 (tapeC k nm ep fl sc P B n c z))
    (fun _ u22 _ => v - (intOf u22).toNat)
  case atStart => exact ⟨0, p0, [], none, 0, k, nm, ep, fl, sc, P, Nat.zero_le _, rfl, rfl, rfl, Nat.zero_le _, hp0, HR, World.ownsRow_nil _ _ _ _, by simp [OwnPts], HB0.out, HK0.out⟩
  case round =>
    obtain ⟨i, z, ms, C, f, k', nm', ep', fl', sc', P', hi, rfl, rfl, hml, hiz, hzn, hr, hown, hop, hb, kr⟩ := hrel
    have hs2 := HS.out.but hb HT.out
    have kp2 := HKP.out.but hb hgt
    have kb2 := HKB.out.but hb hgb
    obtain ⟨d0, d1', d2⟩ := (show wr.cell? ⟨gt, 0, none⟩ = some (.pointer (some ⟨g, 0, none⟩)) ∧ wr.frozen? ⟨gt, 0, none⟩ = false ∧ gt < wr.heap.size from ⟨kp2.cell 0, kp2.frozen 0, kp2.lt⟩)
    have hgs := HG.out
    by_cases hlt : i < v
    · have hstep : v - i = (v - (i + 1)) + 1 := by omega
      have hlt1 : (i : Int) < (v : Int) := by omega
      have HM := hid (mutation_c kr hs2)
      cases hm : mutS bs z with
      | error x =>
        have HR2 := hid (show rs = .error x by rw [HRS.out, hr.out, hstep]; unfold rowsL; simp only [hm, endS])
        rw [hm] at HM
        have HBB := hid hb
        clear hm hr hown hop hb kr hs2 kp2 kb2 hstep
        go_wp2_with fail
        refine HM.out.mono ?_
        rintro e w4 ⟨rfl, hb4⟩
        exact ⟨rfl, by rw [HR2.out]; exact ⟨rfl, HBB.out.trans hb4⟩⟩
      | ok q =>
        obtain ⟨m, p⟩ := q
        have hp := mutS_lt hm
        have HR2 := hid (show r = rowsL bs (v - (i + 1)) p (ms.map Prod.fst ++ [m]) by rw [hr.out, hstep]; conv => lhs; unfold rowsL
                                                                                       simp only [hm])
        rw [hm] at HM
        have KT := hid kr.typed
        have HOW := hid hown
        have HOP := hid hop
        have HBB := hid hb
        clear hm hr hown hop hb kr hs2 kp2 kb2 hstep
        go_wp2_with fail
        refine HM.out.mono ?_
        rintro e w4 ⟨A, f4, rfl, hb4, kt4, hown4⟩
        have hown5 := own_but HOW.out hb4 KT.out (by decide)
        have hop5 := (HOP.out.but hb4 KT.out).snoc (q := (m, A, f4)) hown4 (fun b hb => (hown4.lt b hb).2) hb4.size
        have hb5 := HBB.out.trans hb4
        have hnew := six_new w4 (m, A, f4)
        have hsz : w.heap.size ≤ (w4.alloc (.cells #[.int .i64 m.kind, .string m.name, .int .i64 m.eps, .int .i64 m.floor, .int .i64 m.scale, .slice A m.pts.length f4] 24)).heap.size := by have := hb5.size; simp; omega
        clear HOW HOP HBB HM hb4 hown4
        go_wp2_with (at_builtin; refine wpList_append_any _ rfl (.tmp 24) (.tmp 27) 38 rfl w.heap.size 24 i0 (.agg zMuC) 6 72 Try.underlying38 HI.out.1 HI.out.2.1 HI.out.2.2.1 HI.out.2.2.2 rfl (by decide) _ i (ms.flatMap cellsM) rfl (hown5.alloc _) (some ⟨w4.heap.size, 0, none⟩) 1 1 (cellsM (m, A, f4)) rfl hnew (cellsM_one _) (by simp only [maxLen]; omega) (by omega) hsz ?_; intro v' w' hown' hg' hv')
        obtain ⟨C', f', rfl, _, _⟩ := own_form hown'
        have hbl := (Below.refl w.heap.size _).grown hg' hsz (fun b hb => (hown5.lt b hb).1)
        have kr6 := (kt4.alloc (.cells #[.int .i64 m.kind, .string m.name, .int .i64 m.eps, .int .i64 m.floor, .int .i64 m.scale, .slice A m.pts.length f4] 24)).below hbl hgs
        have hb6 := (hb5.alloc (.cells #[.int .i64 m.kind, .string m.name, .int .i64 m.eps, .int .i64 m.floor, .int .i64 m.scale, .slice A m.pts.length f4] 24)).then_ hbl
        have hop6 := ((hop5.keep (w' := w4.alloc (.cells #[.int .i64 m.kind, .string m.name, .int .i64 m.eps, .int .i64 m.floor, .int .i64 m.scale, .slice A m.pts.length f4] 24)) fun b hb => Below.heap_alloc w4 _ b hb.lt).grown (hown5.alloc (.cells #[.int .i64 m.kind, .string m.name, .int .i64 m.eps, .int .i64 m.floor, .int .i64 m.scale, .slice A m.pts.length f4] 24)) hg').up (show w4.heap.size ≤ w'.heap.size by have := hbl.size; simp at this; omega)
        rw [← cellsM_snoc] at hown'
        have HR3 := hid (show r = rowsL bs (v - (i + 1)) p ((ms ++ [(m, A, f4)]).map Prod.fst) by rw [HR2.out, List.map_append]; rfl)
        clear hown5 hop5 hb5 hnew kt4 hg' hv' hbl HR2
        go_wp2_with fail
        exact ⟨⟨i + 1, p, ms ++ [(m, A, f4)], C', f', m.kind, m.name, m.eps, m.floor, m.scale, .slice A m.pts.length f4, by omega, by go_num, rfl, by simp [hml], by omega, by omega, HR3, hown', hop6, hb6, kr6⟩, by simp [intOf]; omega⟩
    · obtain rfl : i = v := by omega
      have hr1 : r = .ok (ms.map Prod.fst, z) := by rw [hr.out, Nat.sub_self]; rfl
      have hlm : (ms.map Prod.fst).length = i := by simp [hml]
      obtain ⟨c0, c1, f0, f1, hlt2⟩ := kr.tape
      have hb9 := kb2.cell 0
      simp only [List.getElem?_toArray, List.getElem?_cons_zero] at hb9
      have HOW := hid hown
      have HOP := hid hop
      have HBB := hid hb
      have HLM := hid hlm
      by_cases hz : z = n
      · subst hz
        have HR2 := hid (show rs = .ok (ms.map Prod.fst) by rw [HRS.out, hr1]; exact if_pos hl.symm)
        clear hr1 hr hown hop hb kr hs2 kp2 kb2 hlm
        go_wp2_with fail
        go_region_held3 (fun w' => w'.cell? ⟨gt, 0, none⟩ = some (.pointer (some ⟨g, 0, none⟩)) ∧ w'.cell? ⟨g, 7, none⟩ = some (.int .i64 z) ∧ w'.cell? ⟨gb, 0, none⟩ = some (.slice B z c))
          (exact ⟨d0, c1, hb9⟩)
          (first | (go_at_call 51; refine (need_t _ _).mono ?_; rintro e w2 ⟨rfl, rfl⟩))
        go_wp2
        go_ret
        rw [HR2.out]
        refine ⟨C, f, ms, rfl, ?_, ?_, by rw [World.size_drew]; exact OwnPts.drew HOP.out, HBB.out.drew⟩
        · rw [HLM.out]; rfl
        · rw [HLM.out]; exact HOW.out
      · have HR2 := hid (show rs = .error 7 by rw [HRS.out, hr1]; exact if_neg (by omega))
        have he1 : ((z : Int) == (n : Int)) = false := beq_eq_false_iff_ne.2 (by omega)
        have he2 : (z == n) = false := beq_eq_false_iff_ne.2 hz
        have he3 : decide ((z : Int) = (n : Int)) = false := decide_eq_false (by omega)
        have he4 : decide (z = n) = false := decide_eq_false hz
        clear hr1 hr hown hop hb kr hs2 kp2 kb2 hlm
        go_wp2_with fail
        refine wp_region_held_drew (S := (fun w' => w'.cell? ⟨gt, 0, none⟩ = some (.pointer (some ⟨g, 0, none⟩)) ∧ w'.cell? ⟨g, 7, none⟩ = some (.int .i64 z) ∧ w'.cell? ⟨gb, 0, none⟩ = some (.slice B n c))) (by kernel_rfl) ⟨d0, c1, hb9⟩ (fun hHeld => ?_)
        refine wpAnyH_take (i := 0) (v := ?_) rfl (by kernel_rfl) (by kernel_rfl) (by kernel_rfl) (fun _ _ _ h => h) (Or.inl ⟨by rfl, ?_⟩) (by assumption) ?_
        rotate_left
        · intro W hW
          obtain ⟨y0, y1, y2⟩ := hW
          go_simp
          try rfl
        simp only [List.getElem_toArray, List.getElem_cons_zero, Act.put, List.setIfInBounds_toArray, List.set_cons_zero, List.set_cons_succ]
        refine wpAnyH_take (i := 1) (v := ?_) rfl (by kernel_rfl) (by kernel_rfl) (by kernel_rfl) (fun _ _ _ h => h) (Or.inl ⟨by rfl, ?_⟩) (by assumption) ?_
        rotate_left
        · intro W hW
          obtain ⟨y0, y1, y2⟩ := hW
          go_simp
          try rfl
        simp only [List.getElem_toArray, List.getElem_cons_succ, List.getElem_cons_zero, Act.put, List.setIfInBounds_toArray, List.set_cons_zero, List.set_cons_succ]
        refine wpAnyH_take (i := 2) (v := ?_) rfl (by kernel_rfl) (by kernel_rfl) (by kernel_rfl) (fun _ _ _ h => h) (Or.inl ⟨by rfl, ?_⟩) (by assumption) ?_
        rotate_left
        · intro W hW
          obtain ⟨y0, y1, y2⟩ := hW
          go_simp
          try rfl
        simp only [List.getElem_toArray, List.getElem_cons_succ, List.getElem_cons_zero, Act.put, List.setIfInBounds_toArray, List.set_cons_zero, List.set_cons_succ]
        refine wpAnyH_take (i := 3) (v := ?_) rfl (by kernel_rfl) (by kernel_rfl) (by kernel_rfl) (fun _ _ _ h => h) (Or.inl ⟨by rfl, ?_⟩) (by assumption) ?_
        rotate_left
        · intro W hW
          obtain ⟨y0, y1, y2⟩ := hW
          go_simp
          try rfl
        simp only [List.getElem_toArray, List.getElem_cons_succ, List.getElem_cons_zero, Act.put, List.setIfInBounds_toArray, List.set_cons_zero, List.set_cons_succ]
        refine wpAnyH_take (i := 4) (v := ?_) rfl (by kernel_rfl) (by kernel_rfl) (by kernel_rfl) (fun _ _ _ h => h) (Or.inl ⟨by rfl, ?_⟩) (by assumption) ?_
        rotate_left
        · intro W hW
          obtain ⟨y0, y1, y2⟩ := hW
          go_simp
          try rfl
        simp only [List.getElem_toArray, List.getElem_cons_succ, List.getElem_cons_zero, Act.put, List.setIfInBounds_toArray, List.set_cons_zero, List.set_cons_succ]
        refine wpAnyH_take (i := 5) (v := ?_) rfl (by kernel_rfl) (by kernel_rfl) (by kernel_rfl) (fun _ _ _ h => h) (Or.inl ⟨by rfl, ?_⟩) (by assumption) ?_
        rotate_left
        · intro W hW
          obtain ⟨y0, y1, y2⟩ := hW
          go_simp
          try rfl
        simp only [List.getElem_toArray, List.getElem_cons_succ, List.getElem_cons_zero, Act.put, List.setIfInBounds_toArray, List.set_cons_zero, List.set_cons_succ]
        refine wpAnyH_take (i := 6) (v := ?_) rfl (by kernel_rfl) (by kernel_rfl) (by kernel_rfl) (fun _ _ _ h => h) (Or.inl ⟨by rfl, ?_⟩) (by assumption) ?_
        rotate_left
        · intro W hW
          obtain ⟨y0, y1, y2⟩ := hW
          go_simp
          try rfl
        simp only [List.getElem_toArray, List.getElem_cons_succ, List.getElem_cons_zero, Act.put, List.setIfInBounds_toArray, List.set_cons_zero, List.set_cons_succ]
        refine wpAnyH_ready (rs := [7]) (by kernel_rfl) (by simp) ?_
        refine AllReadyH.cons rfl (fun K hK => ?_) AllReadyH.nil
        go_simp
        refine (need_f _ _).mono ?_
        rintro e w2 ⟨rfl, rfl⟩
        exact ⟨rfl, by rw [HR2.out]; exact ⟨rfl, HBB.out.drew⟩⟩
end Go.Proofs.Ytedojdbihajnbaa
