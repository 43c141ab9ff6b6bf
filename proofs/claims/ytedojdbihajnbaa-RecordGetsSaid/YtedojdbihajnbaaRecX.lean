/- Plain laws of record: what was put is got; what is got was put; an error is never 0; what is cut off is told as such (seat Record). -/
import Derived.Test.YtedojdbihajnbaaRecW
import Derived.Test.YtedojdbihajnbaaVarX
import Derived.Test.YtedojdbihajnbaaVarS
import Derived.Test.YtedojdbihajnbaaVarY
namespace Go.Proofs.Ytedojdbihajnbaa
open Go.RowKit Go.Shelf VB
set_option linter.unusedVariables false
theorem unf_fold' {v : Int} (h : -9223372036854775808 ≤ v) (h2 : v ≤ 9223372036854775807) : unf (fold64 v) = v := by
  unfold unf fold64
  split <;> split <;> omega
theorem le_of_drop {bs l ys : List Nat} {z : Nat} (hl : l ≠ []) (h : bs.drop z = l ++ ys) : z + l.length ≤ bs.length := by
  have := congrArg List.length h
  rw [List.length_drop, List.length_append] at this
  have := List.length_pos_iff.2 hl
  omega
theorem drop_on {bs l ys : List Nat} {z : Nat} (h : bs.drop z = l ++ ys) : bs.drop (z + l.length) = ys := by
  rw [← List.drop_drop, h, List.drop_left]
theorem got_at {bs ys : List Nat} {z n : Nat} (h : bs.drop z = vb n ++ ys) (hn : n < 18446744073709551616) : gotN bs z = (n, z + (vb n).length, 0) := by
  have hl := le_of_drop (vb_ne n) h
  have hg := gv_vb n 0 0 ys (by omega) (by simpa using hn) (by omega)
  have hz : (0 : Int) ≤ (z : Int) ∧ (z : Int) ≤ bs.length := by omega
  unfold gotN
  rw [if_pos hz, Int.toNat_natCast, h, hg]
  simp
theorem plain_at {bs ys : List Nat} {z n most : Nat} (h : bs.drop z = vb n ++ ys) (hn : n ≤ most) (hm : most < 18446744073709551616) : plainS bs most z = .ok (n, z + (vb n).length) := by
  unfold plainS
  rw [got_at h (by omega)]
  simp [hn]
theorem sign_at {bs ys : List Nat} {z : Nat} {v : Int} (h : bs.drop z = vb (fold64 v) ++ ys) (h1 : -9223372036854775808 ≤ v) (h2 : v ≤ 9223372036854775807) : signS bs z = .ok (v, z + (vb (fold64 v)).length) := by
  unfold signS
  rw [got_at h (fold64_lt h1 h2)]
  simp [unf_fold' h1 h2]
theorem byte_here {bs ys : List Nat} {z x : Nat} (h : bs.drop z = x :: ys) : z < bs.length ∧ bs.getD z 0 = x ∧ bs.drop (z + 1) = ys := by
  have hl := le_of_drop (l := [x]) (by simp) h
  have hz : z < bs.length := by simp at hl; omega
  refine ⟨hz, ?_, drop_on (l := [x]) h⟩
  rw [List.drop_eq_getElem_cons hz] at h
  rw [List.getD_eq_getElem?_getD, List.getElem?_eq_getElem hz]
  injection h
theorem nameL_at (bs : List Nat) : ∀ (l ys acc : List Nat) (z : Nat), bs.drop z = l ++ ys → (∀ x ∈ l, letB (x : Nat) = true) → nameL bs l.length z acc = .ok (acc ++ l, z + l.length)
  | [], ys, acc, z, h, hl => by simp [nameL]
  | x :: l, ys, acc, z, h, hl => by
    obtain ⟨h1, h2, h3⟩ := byte_here h
    rw [List.length_cons]
    unfold nameL
    rw [if_pos h1, h2, if_pos (hl x List.mem_cons_self), nameL_at bs l ys (acc ++ [x]) (z + 1) h3 (fun y hy => hl y (List.mem_cons_of_mem _ hy))]
    rw [List.append_assoc]
    simp
    omega
theorem nmL_letters {s : ByteArray} (h : nameB s = true) : ∀ x ∈ nmL s, letB (x : Nat) = true := by
  unfold nameB at h
  simp only [Bool.and_eq_true] at h
  intro x hx
  unfold nmL at hx
  rw [List.mem_map] at hx
  obtain ⟨b, hb, rfl⟩ := hx
  exact List.all_eq_true.1 h.2 b hb
theorem nameS_at {bs ys : List Nat} {z : Nat} {s : ByteArray} (hs : nameB s = true) (h : bs.drop z = (s.size :: nmL s) ++ ys) : nameS bs z = .ok (nmL s, z + (s.size :: nmL s).length) := by
  obtain ⟨h1, h2, h3⟩ := byte_here h
  have hn := nameB_len hs
  unfold nameS
  rw [if_pos h1, h2, if_pos hn, ← nmL_len s, nameL_at bs (nmL s) ys [] (z + 1) h3 (nmL_letters hs)]
  simp
  omega
theorem strN_nmL (s : ByteArray) : strN (nmL s) = s := by
  have h : ((nmL s).map fun x : Nat => (x : Int)) = s.data.toList.map fun b => (b.toNat : Int) := by unfold nmL; rw [List.map_map]; rfl
  show strOfNums _ = s
  rw [h]
  unfold strOfNums
  apply ByteArray.ext
  apply Array.ext'
  simp only [List.map_map]
  rw [show ((fun n : Int => UInt8.ofNat n.toNat) ∘ fun b : UInt8 => (b.toNat : Int)) = id from funext fun b => by simp]
  simp
theorem boundS_at {bs ys : List Nat} {z : Nat} {e : Nat} {n : Int} (h : bs.drop z = (vb e ++ vb (fold64 n)) ++ ys) (he : e ≤ 1099511627776) (h1 : -40 ≤ n) (h2 : n ≤ 40) : boundS bs z = .ok ((e, n), z + (vb e ++ vb (fold64 n)).length) := by
  rw [List.append_assoc] at h
  unfold boundS
  rw [plain_at h he (by decide)]
  simp only
  rw [sign_at (drop_on h) (by omega) (by omega)]
  simp only
  rw [if_pos ⟨h1, h2⟩, List.length_append, Nat.add_assoc]
/-- the points behind the i-th -/
theorem ptL_at {bs : List Nat} {l : List (Int × Int)} (hall : ∀ i, i < l.length → ptB (l.getD i (0, 0)) = true) : ∀ (k i : Nat) (z : Nat) (T V : Int) (ys : List Nat), i + k = l.length → (0 < i → T = (l.getD (i - 1) (0, 0)).1 ∧ V = (l.getD (i - 1) (0, 0)).2) → (i = 0 → T = 0 ∧ V = 0) →
    bs.drop z = ((List.range' i k).flatMap (ptBy l)) ++ ys → ptL bs k (decide (i = 0)) z T V (l.take i) = .ok (l, z + ((List.range' i k).flatMap (ptBy l)).length)
  | 0, i, z, T, V, ys, hk, hT, h0, h => by
    unfold ptL
    rw [List.take_of_length_le (by omega)]
    simp
  | k + 1, i, z, T, V, ys, hk, hT, h0, h => by
    have hi : i < l.length := by omega
    obtain ⟨T', V', hq⟩ : ∃ T V, l.getD i (0, 0) = (T, V) := ⟨_, _, rfl⟩
    have hb := hall i hi
    rw [hq] at hb
    obtain ⟨b0, b1, b2, b3⟩ := pt_bounds hb
    have htb : timeB T' = true := by unfold ptB at hb; simp only [Bool.and_eq_true] at hb; exact hb.1
    have hvb : valB V' = true := by unfold ptB at hb; simp only [Bool.and_eq_true] at hb; exact hb.2
    have hacc : l.take i ++ [(T', V')] = l.take (i + 1) := by
      rw [List.take_succ_eq_append_getElem hi]
      rw [List.getD_eq_getElem?_getD, List.getElem?_eq_getElem hi] at hq
      simp only [Option.getD_some] at hq
      rw [hq]
    rw [List.range'_succ, List.flatMap_cons, List.append_assoc] at h
    obtain ⟨D, E, hD, hE, hpt, ht⟩ : ∃ (D : List Nat) (E : Int), -9223372036854775808 ≤ E ∧ E ≤ 9223372036854775807 ∧ ptBy l i = D ++ vb (fold64 E) ∧ (∀ zs, bs.drop z = D ++ zs → timeS bs (decide (i = 0)) z T = .ok (T', z + D.length)) ∧ IntKind.i64.wrap (V + E) = V' := by
      by_cases h0' : i = 0
      · subst h0'
        obtain ⟨rfl, rfl⟩ := h0 rfl
        refine ⟨vb T'.toNat, V', by omega, by omega, by unfold ptBy; rw [if_pos rfl, hq], fun zs hz => ?_, by rw [IntKind.wrap_i64]; omega⟩
        unfold timeS
        rw [if_pos (by rfl), plain_at hz (by omega) (by decide)]
        simp only
        rw [show ((T'.toNat : Nat) : Int) = T' by omega]
      · obtain ⟨rfl, rfl⟩ := hT (by omega)
        have hb' := hall (i - 1) (by omega)
        obtain ⟨a0, a1, a2, a3⟩ := pt_bounds (T := (l.getD (i - 1) (0, 0)).1) (V := (l.getD (i - 1) (0, 0)).2) hb'
        refine ⟨vb (fold64 (T' - (l.getD (i - 1) (0, 0)).1)), V' - (l.getD (i - 1) (0, 0)).2, by omega, by omega, by unfold ptBy; rw [if_neg h0', hq], fun zs hz => ?_, by rw [IntKind.wrap_i64]; omega⟩
        unfold timeS
        rw [if_neg (by simpa using h0'), sign_at hz (by omega) (by omega)]
        simp only
        rw [show IntKind.i64.wrap ((l.getD (i - 1) (0, 0)).1 + (T' - (l.getD (i - 1) (0, 0)).1)) = T' by rw [IntKind.wrap_i64]; omega]
    obtain ⟨ht, hw⟩ := ht
    rw [hpt, List.append_assoc] at h
    rw [ptL_succ, ht _ h]
    simp only
    rw [if_pos htb, sign_at (drop_on h) hD hE]
    simp only
    rw [hw, if_pos hvb, hacc]
    have hr := ptL_at hall k (i + 1) (z + D.length + (vb (fold64 E)).length) T' V' ys (by omega) (fun _ => by rw [Nat.add_sub_cancel, hq]; exact ⟨rfl, rfl⟩) (fun h => by omega) (drop_on (drop_on h))
    rw [show decide (i + 1 = 0) = false from decide_eq_false (by omega)] at hr
    rw [hr, List.range'_succ, List.flatMap_cons, hpt]
    simp [Nat.add_assoc]
theorem ptsBy_range (l : List (Int × Int)) : ptsBy l l.length = (List.range' 0 l.length).flatMap (ptBy l) := by unfold ptsBy; rw [List.range_eq_range']
theorem pointsS_at {bs ys : List Nat} {z : Nat} {l : List (Int × Int)} (hall : l.all ptB = true) (h1 : 1 ≤ l.length) (h2 : l.length ≤ 16) (h : bs.drop z = (vb l.length ++ ptsBy l l.length) ++ ys) : pointsS bs z = .ok (l, z + (vb l.length ++ ptsBy l l.length).length) := by
  rw [List.append_assoc] at h
  unfold pointsS
  rw [plain_at h h2 (by decide)]
  simp only
  rw [if_pos (by omega)]
  have hd := drop_on h
  rw [ptsBy_range] at hd
  have hp := ptL_at (all_at hall) l.length 0 (z + (vb l.length).length) 0 0 ys (by omega) (fun h => by omega) (fun _ => ⟨rfl, rfl⟩) hd
  rw [show decide (0 = 0) = true from rfl, List.take_zero] at hp
  rw [hp, ptsBy_range, List.length_append, Nat.add_assoc]
/-- WHAT WAS PUT IS GOT -/
theorem mutS_at {bs ys : List Nat} {z : Nat} {m : Mu} (hr : Right m) (h : bs.drop z = mutB m ++ ys) : mutS bs z = .ok (m, z + (mutB m).length) := by
  obtain ⟨kd, hkd⟩ := Int.eq_ofNat_of_zero_le (show 0 ≤ m.kind by have := hr.k1; omega)
  have hk : 1 ≤ kd ∧ kd ≤ 4 := by have := hr.k1; have := hr.k4; omega
  have hform : mutB m = kd :: ((m.name.size :: nmL m.name) ++ bodyB m) := by unfold mutB; rw [hkd]; rfl
  rw [hform] at h ⊢
  obtain ⟨h1, h2, h3⟩ := byte_here h
  have h3 : bs.drop (z + 1) = (m.name.size :: nmL m.name) ++ (bodyB m ++ ys) := by rw [h3]; simp
  have h4 := drop_on h3
  have hlen : z + (kd :: ((m.name.size :: nmL m.name) ++ bodyB m)).length = z + 1 + (m.name.size :: nmL m.name).length + (bodyB m).length := by simp only [List.length_cons, List.length_append]; omega
  unfold mutS
  rw [if_pos h1, h2, if_pos hk, nameS_at hr.name h3, hlen]
  simp only
  have hbare := hr.bare
  generalize z + 1 + (m.name.size :: nmL m.name).length = p at *
  unfold bodyS
  rw [strN_nmL]
  have hcs : kd = 1 ∨ kd = 2 ∨ kd = 3 ∨ kd = 4 := by omega
  rcases hcs with rfl | rfl | rfl | rfl
  · have hk' : m.kind = 1 := hkd
    have hb : bodyB m = vb m.eps.toNat ++ vb (fold64 m.scale) := by unfold bodyB; rw [if_pos hk']
    rw [hb] at h4 ⊢
    rw [if_pos rfl, boundS_at h4 (by have := hr.e1; omega) hr.s0 hr.s1]
    simp only
    rw [show ((m.eps.toNat : Nat) : Int) = m.eps by have := hr.e0; omega]
    have : m = ⟨1, m.name, m.eps, 0, m.scale, []⟩ := by
      conv => lhs; rw [hbare]
      unfold bareM; simp [hk']
    rw [← this]
  · have hk' : m.kind = 2 := hkd
    have hb : bodyB m = [] := by unfold bodyB; rw [if_neg (by omega), if_pos hk']
    rw [hb, if_neg (by omega), if_pos rfl]
    have : m = ⟨2, m.name, 0, 0, 0, []⟩ := by
      conv => lhs; rw [hbare]
      unfold bareM; simp [hk']
    rw [← this]; rfl
  · have hk' : m.kind = 3 := hkd
    have hb : bodyB m = vb m.pts.length ++ ptsBy m.pts m.pts.length := by unfold bodyB; rw [if_neg (by omega), if_neg (by omega), if_pos hk']
    rw [hb] at h4 ⊢
    rw [if_neg (by omega), if_neg (by omega), if_pos rfl, pointsS_at hr.pts (hr.len hk').1 (hr.len hk').2 h4]
    simp only
    have : m = ⟨3, m.name, 0, 0, 0, m.pts⟩ := by
      conv => lhs; rw [hbare]
      unfold bareM; simp [hk']
    rw [← this]
  · have hk' : m.kind = 4 := hkd
    have hb : bodyB m = vb m.floor.toNat := by unfold bodyB; rw [if_neg (by omega), if_neg (by omega), if_neg (by omega)]
    rw [hb] at h4 ⊢
    rw [if_neg (by omega), if_neg (by omega), if_neg (by omega), plain_at h4 (by have := hr.f1; omega) (by decide)]
    simp only
    rw [show ((m.floor.toNat : Nat) : Int) = m.floor by have := hr.f0; omega]
    have : m = ⟨4, m.name, 0, m.floor, 0, []⟩ := by
      conv => lhs; rw [hbare]
      unfold bareM; simp [hk']
    rw [← this]
/-- no mutation's bytes begin with another one's -/
theorem mutB_free {a b : Mu} {r : List Nat} (ha : Right a) (hb : Right b) (h : mutB b = mutB a ++ r) : a = b := by
  have h1 := mutS_at (bs := mutB b) (z := 0) (ys := r) ha (by simpa using h)
  have h2 := mutS_at (bs := mutB b) (z := 0) (ys := []) hb (by simp)
  rw [h1] at h2
  injection h2 with h2
  injection h2
end Go.Proofs.Ytedojdbihajnbaa
namespace Go.Proofs.Ytedojdbihajnbaa
open Go.RowKit Go.Shelf VB
set_option linter.unusedVariables false
theorem fold_unf {n : Nat} (h : n < 18446744073709551616) : fold64 (unf n) = n := by
  unfold unf fold64
  split <;> split <;> omega
theorem got_sound {bs : List Nat} {z n p : Nat} (hb : ∀ x ∈ bs, x < 256) (h : gotN bs z = (n, p, 0)) : bs.drop z = vb n ++ bs.drop p := by
  unfold gotN at h
  split at h
  · rename_i hz
    split at h
    · rename_i h0
      obtain ⟨v, q, e, hg⟩ : ∃ v q e, gv 0 0 (bs.drop (z : Int).toNat) = (v, q, e) := ⟨_, _, _, rfl⟩
      rw [hg] at h h0
      simp only at h0
      subst h0
      rw [Int.toNat_natCast] at hg h
      simp only [Prod.mk.injEq, and_true] at h
      obtain ⟨rfl, rfl⟩ := h
      obtain ⟨m, hm, ht, _⟩ := gv_sound _ 0 0 v q (fun x hx => hb x (List.mem_of_mem_drop hx)) hg
      obtain rfl : v = m := by simpa using hm
      rw [Nat.sub_zero] at ht
      rw [← ht, ← List.drop_drop, List.take_append_drop]
    · rename_i hne
      injection h with _ h
      injection h with _ h
      exact absurd h hne
  · simp at h
theorem plain_sound {bs : List Nat} {z n p most : Nat} (hb : ∀ x ∈ bs, x < 256) (h : plainS bs most z = .ok (n, p)) : bs.drop z = vb n ++ bs.drop p ∧ n ≤ most := by
  obtain ⟨h1, h2⟩ := plainS_ok h
  exact ⟨got_sound hb h1, h2⟩
theorem sign_sound {bs : List Nat} {z p : Nat} {v : Int} (hb : ∀ x ∈ bs, x < 256) (h : signS bs z = .ok (v, p)) : bs.drop z = vb (fold64 v) ++ bs.drop p := by
  unfold signS at h
  split at h
  · rename_i h0
    injection h with h
    injection h with h1 h2
    have hg : gotN bs z = ((gotN bs z).1, (gotN bs z).2.1, 0) := by rw [← h0]
    have hs := got_sound hb hg
    rw [h2] at hs
    rw [← h1, fold_unf (gotN_small bs z)]
    exact hs
  · cases h
theorem byte_sound {bs : List Nat} {z : Nat} (h : z < bs.length) : bs.drop z = bs.getD z 0 :: bs.drop (z + 1) := by
  rw [List.drop_eq_getElem_cons h, List.getD_eq_getElem?_getD, List.getElem?_eq_getElem h]
  rfl
theorem nameL_sound (bs : List Nat) : ∀ (k z : Nat) (acc l : List Nat) (p : Nat), nameL bs k z acc = .ok (l, p) → ∃ t, l = acc ++ t ∧ t.length = k ∧ (∀ x ∈ t, letB (x : Nat) = true) ∧ bs.drop z = t ++ bs.drop p
  | 0, z, acc, l, p, h => by
    unfold nameL at h
    injection h with h
    injection h with h1 h2
    subst h1 h2
    exact ⟨[], by simp, rfl, by simp, by simp⟩
  | k + 1, z, acc, l, p, h => by
    unfold nameL at h
    split at h
    · rename_i hz
      split at h
      · rename_i hl
        obtain ⟨t, h1, h2, h3, h4⟩ := nameL_sound bs k (z + 1) _ l p h
        refine ⟨bs.getD z 0 :: t, by rw [h1]; simp, by simp [h2], ?_, by rw [byte_sound hz, h4]; rfl⟩
        intro x hx
        rcases List.mem_cons.1 hx with rfl | hx
        · exact hl
        · exact h3 x hx
      · cases h
    · cases h
theorem nameS_sound {bs : List Nat} {z p : Nat} {l : List Nat} (h : nameS bs z = .ok (l, p)) : 1 ≤ l.length ∧ l.length ≤ 12 ∧ (∀ x ∈ l, letB (x : Nat) = true) ∧ bs.drop z = (l.length :: l) ++ bs.drop p := by
  unfold nameS at h
  split at h
  · rename_i hz
    split at h
    · rename_i hn
      obtain ⟨t, h1, h2, h3, h4⟩ := nameL_sound bs _ _ _ _ _ h
      rw [List.nil_append] at h1
      subst h1
      rw [h2]
      exact ⟨hn.1, hn.2, h3, by rw [byte_sound hz, h4]; rfl⟩
    · cases h
  · cases h
theorem boundS_sound {bs : List Nat} {z p e : Nat} {n : Int} (hb : ∀ x ∈ bs, x < 256) (h : boundS bs z = .ok ((e, n), p)) : bs.drop z = (vb e ++ vb (fold64 n)) ++ bs.drop p ∧ e ≤ 1099511627776 ∧ -40 ≤ n ∧ n ≤ 40 := by
  unfold boundS at h
  split at h
  · cases h
  · rename_i e' p' h1
    split at h
    · cases h
    · rename_i n' q h2
      split at h
      · rename_i hn
        injection h with h
        injection h with h3 h4
        injection h3 with h5 h6
        subst h4 h5 h6
        obtain ⟨a, b⟩ := plain_sound hb h1
        rw [a, sign_sound hb h2, List.append_assoc]
        exact ⟨rfl, b, hn⟩
      · cases h
theorem sign_bounds {bs : List Nat} {z p : Nat} {v : Int} (h : signS bs z = .ok (v, p)) : -9223372036854775808 ≤ v ∧ v ≤ 9223372036854775807 := by
  unfold signS at h
  split at h
  · injection h with h
    injection h with h1 h2
    have := gotN_small bs z
    rw [← h1]
    unfold unf
    split <;> omega
  · cases h
theorem tv_bounds {T V : Int} (h1 : timeB T = true) (h2 : valB V = true) : ptB (T, V) = true := by unfold ptB; simp [h1, h2]
theorem timeB_le {T : Int} (h : timeB T = true) : 0 ≤ T ∧ T ≤ 281474976710656 := by unfold timeB at h; simpa using h
theorem valB_le {V : Int} (h : valB V = true) : -2305843009213693952 ≤ V ∧ V ≤ 2305843009213693952 := by unfold valB at h; simpa using h
theorem getD_in (acc : List (Int × Int)) (q : Int × Int) (t : List (Int × Int)) : (acc ++ q :: t).getD acc.length (0, 0) = q := by
  rw [List.getD_eq_getElem?_getD, List.getElem?_append_right (Nat.le_refl _)]; simp
/-- one point's bytes, of the one ahead of it -/
theorem ptL_sound {bs : List Nat} (hb : ∀ x ∈ bs, x < 256) : ∀ (k z p : Nat) (T V : Int) (acc l : List (Int × Int)), (acc = [] → T = 0 ∧ V = 0) → (acc ≠ [] → acc.getD (acc.length - 1) (0, 0) = (T, V)) → 0 ≤ T → T ≤ 281474976710656 → -2305843009213693952 ≤ V → V ≤ 2305843009213693952 →
    ptL bs k (decide (acc.length = 0)) z T V acc = .ok (l, p) → ∃ t, l = acc ++ t ∧ t.length = k ∧ (∀ q ∈ t, ptB q = true) ∧ bs.drop z = (List.range' acc.length k).flatMap (ptBy l) ++ bs.drop p
  | 0, z, p, T, V, acc, l, h0, h1, _, _, _, _, h => by
    unfold ptL at h
    injection h with h
    injection h with h2 h3
    subst h2 h3
    exact ⟨[], by simp, rfl, by simp, by simp⟩
  | k + 1, z, p, T, V, acc, l, h0, h1, a0, a1, a2, a3, h => by
    rw [ptL_succ] at h
    split at h
    · cases h
    · rename_i T' z1 ht
      split at h
      · rename_i htb
        split at h
        · cases h
        · rename_i d z2 hd
          split at h
          · rename_i hvb
            obtain ⟨b0, b1⟩ := timeB_le htb
            obtain ⟨b2, b3⟩ := valB_le hvb
            obtain ⟨d0, d1⟩ := sign_bounds hd
            obtain ⟨V', hV⟩ : ∃ V', V' = IntKind.i64.wrap (V + d) := ⟨_, rfl⟩
            rw [← hV] at h hvb b2 b3
            have hV2 : V' - V = d := by rw [IntKind.wrap_i64] at hV; omega
            have hf : decide ((acc ++ [(T', V')]).length = 0) = false := by simp
            rw [← hf] at h
            obtain ⟨t, e1, e2, e3, e4⟩ := ptL_sound hb k z2 p T' V' _ l (by simp) (fun _ => by simp) b0 b1 b2 b3 h
            have e1' : l = acc ++ (T', V') :: t := by rw [e1]; simp
            refine ⟨(T', V') :: t, e1', by simp [e2], ?_, ?_⟩
            · intro q hq
              rcases List.mem_cons.1 hq with rfl | hq
              · exact tv_bounds htb hvb
              · exact e3 q hq
            · have hlen : (acc ++ [(T', V')]).length = acc.length + 1 := by simp
              rw [hlen] at e4
              rw [List.range'_succ, List.flatMap_cons, List.append_assoc, ← e4]
              have hq : l.getD acc.length (0, 0) = (T', V') := by rw [e1']; exact getD_in acc _ t
              have hs := sign_sound hb hd
              by_cases hn : acc.length = 0
              · have hnil : acc = [] := List.eq_nil_of_length_eq_zero hn
                obtain ⟨rfl, rfl⟩ := h0 hnil
                unfold timeS at ht
                rw [if_pos (decide_eq_true hn)] at ht
                split at ht
                · cases ht
                · rename_i n p1 hp
                  injection ht with ht
                  injection ht with ht1 ht2
                  subst ht2
                  rw [(plain_sound hb hp).1, hs]
                  have : ptBy l acc.length = vb n ++ vb (fold64 d) := by
                    unfold ptBy
                    rw [if_pos hn]
                    rw [hn] at hq
                    rw [hq, ← ht1, show V' = d by omega]; rfl
                  rw [this, List.append_assoc]
              · have hne : acc ≠ [] := fun e => hn (by rw [e]; rfl)
                have hprev : l.getD (acc.length - 1) (0, 0) = (T, V) := by
                  rw [← h1 hne, e1', List.getD_eq_getElem?_getD, List.getElem?_append_left (by omega), ← List.getD_eq_getElem?_getD]
                unfold timeS at ht
                rw [if_neg (by simpa using hn)] at ht
                split at ht
                · cases ht
                · rename_i n p1 hp
                  injection ht with ht
                  injection ht with ht1 ht2
                  subst ht2
                  obtain ⟨n0, n1⟩ := sign_bounds hp
                  have hT2 : T' - T = n := by rw [IntKind.wrap_i64] at ht1; omega
                  rw [sign_sound hb hp, hs]
                  have : ptBy l acc.length = vb (fold64 n) ++ vb (fold64 d) := by
                    unfold ptBy
                    rw [if_neg hn, hq, hprev, ← hT2, ← hV2]
                  rw [this, List.append_assoc]
          · cases h
      · cases h
theorem pointsS_sound {bs : List Nat} {z p : Nat} {l : List (Int × Int)} (hb : ∀ x ∈ bs, x < 256) (h : pointsS bs z = .ok (l, p)) : l.all ptB = true ∧ 1 ≤ l.length ∧ l.length ≤ 16 ∧ bs.drop z = (vb l.length ++ ptsBy l l.length) ++ bs.drop p := by
  unfold pointsS at h
  split at h
  · cases h
  · rename_i m q hm
    split at h
    · rename_i h0
      obtain ⟨t, e1, e2, e3, e4⟩ := ptL_sound hb m q p 0 0 [] l (fun _ => ⟨rfl, rfl⟩) (fun h => absurd rfl h) (by omega) (by omega) (by omega) (by omega) h
      rw [List.nil_append] at e1
      subst e1
      obtain ⟨a, b⟩ := plain_sound hb hm
      rw [ptsBy_range, e2, a, e4, List.append_assoc]
      exact ⟨List.all_eq_true.2 e3, h0, b, rfl⟩
    · cases h
theorem letB_lt {x : Nat} (h : letB (x : Nat) = true) : x < 256 := by
  unfold letB at h
  simp at h
  omega
theorem nmL_strN {l : List Nat} (h : ∀ x ∈ l, letB (x : Nat) = true) : nmL (strN l) = l := by
  unfold nmL
  show ((strOfNums (l.map fun x : Nat => (x : Int))).data.toList.map fun b => b.toNat) = l
  rw [strOfNums_data, List.map_map, List.map_map]
  conv => rhs; rw [← List.map_id l]
  apply List.map_congr_left
  intro x hx
  have := letB_lt (h x hx)
  simp
  omega
theorem strN_size (l : List Nat) : (strN l).size = l.length := by
  show (strOfNums _).size = _
  rw [strOfNums_size, List.length_map]
theorem nameB_strN {l : List Nat} (h : ∀ x ∈ l, letB (x : Nat) = true) (h1 : 1 ≤ l.length) (h2 : l.length ≤ 12) : nameB (strN l) = true := by
  unfold nameB
  rw [strN_size, decide_eq_true h1, decide_eq_true h2]
  simp only [Bool.true_and, List.all_eq_true]
  intro b hb
  have hm : b.toNat ∈ nmL (strN l) := by unfold nmL; exact List.mem_map.2 ⟨b, hb, rfl⟩
  rw [nmL_strN h] at hm
  exact h _ hm
/-- WHAT IS GOT WAS PUT: a mutation that may be, and just its bytes -/
theorem mutS_sound {bs : List Nat} {z p : Nat} {m : Mu} (hb : ∀ x ∈ bs, x < 256) (h : mutS bs z = .ok (m, p)) : Right m ∧ bs.drop z = mutB m ++ bs.drop p := by
  unfold mutS at h
  split at h
  · rename_i hz
    split at h
    · rename_i hk
      split at h
      · cases h
      · rename_i nm p1 hn
        obtain ⟨n1, n2, n3, n4⟩ := nameS_sound hn
        have hN := nameB_strN n3 n1 n2
        have hh := byte_sound hz
        have pre : ∀ (m : Mu) (body rest : List Nat), m.kind = (bs.getD z 0 : Nat) → m.name = strN nm → bodyB m = body → bs.drop p1 = body ++ rest → bs.drop z = mutB m ++ rest := by
          intro m body rest e1 e2 e3 e4
          rw [hh, n4, e4]
          unfold mutB
          rw [e1, e2, e3, strN_size, nmL_strN n3]
          simp [List.append_assoc]
        generalize bs.getD z 0 = kd at *
        unfold bodyS at h
        have hcs : kd = 1 ∨ kd = 2 ∨ kd = 3 ∨ kd = 4 := by omega
        rcases hcs with rfl | rfl | rfl | rfl
        · rw [if_pos rfl] at h
          split at h
          · cases h
          · rename_i a q hbd
            injection h with h
            injection h with h1 h2
            subst h1 h2
            obtain ⟨c1, c2, c3, c4⟩ := boundS_sound hb (e := a.1) (n := a.2) hbd
            refine ⟨⟨rfl, hN, by simp, by simp, by simp, by simp, by simp, by simp; omega, c3, c4, by simp, rfl⟩, pre _ _ _ rfl rfl ?_ c1⟩
            unfold bodyB; simp
        · rw [if_neg (by omega), if_pos rfl] at h
          injection h with h
          injection h with h1 h2
          subst h1 h2
          refine ⟨⟨rfl, hN, by simp, by simp, by simp, by simp, by simp, by simp, by simp, by simp, by simp, rfl⟩, pre _ [] _ rfl rfl ?_ (by simp)⟩
          unfold bodyB; simp
        · rw [if_neg (by omega), if_neg (by omega), if_pos rfl] at h
          split at h
          · cases h
          · rename_i l q hbd
            injection h with h
            injection h with h1 h2
            subst h1 h2
            obtain ⟨c1, c2, c3, c4⟩ := pointsS_sound hb hbd
            refine ⟨⟨rfl, hN, by simp, by simp, by simp, by simp, by simp, by simp, by simp, by simp, fun _ => ⟨c2, c3⟩, c1⟩, pre _ _ _ rfl rfl ?_ c4⟩
            unfold bodyB; simp
        · rw [if_neg (by omega), if_neg (by omega), if_neg (by omega)] at h
          split at h
          · cases h
          · rename_i f q hbd
            injection h with h
            injection h with h1 h2
            subst h1 h2
            obtain ⟨c1, c2⟩ := plain_sound hb hbd
            refine ⟨⟨rfl, hN, by simp, by simp, by simp, by simp; omega, by simp, by simp, by simp, by simp, by simp, rfl⟩, pre _ _ _ rfl rfl ?_ c1⟩
            unfold bodyB; simp
    · cases h
  · cases h
end Go.Proofs.Ytedojdbihajnbaa
namespace Go.Proofs.Ytedojdbihajnbaa
open Go.RowKit Go.Shelf VB
open Go.Lib (hid)
set_option linter.unusedVariables false
set_option linter.unusedSimpArgs false
theorem got_err {bs : List Nat} {z : Int} {n p : Nat} {e : Int} (h : gotN bs z = (n, p, e)) (he : e ≠ 0) : n = 0 ∧ p = 0 := by
  unfold gotN at h
  split at h
  · split at h
    · simp only [Prod.mk.injEq] at h; exact absurd h.2.2.symm he
    · simp only [Prod.mk.injEq] at h; exact ⟨h.1.symm, h.2.1.symm⟩
  · simp only [Prod.mk.injEq] at h; exact ⟨h.1.symm, h.2.1.symm⟩
theorem plain_err {bs : List Nat} {most z : Nat} {x : Int} (h : plainS bs most z = .error x) : x ≠ 0 := by
  unfold plainS at h
  split at h
  · split at h
    · cases h
    · injection h with h; omega
  · rename_i h0; injection h with h; rw [← h]; exact h0
theorem sign_err {bs : List Nat} {z : Nat} {x : Int} (h : signS bs z = .error x) : x ≠ 0 := by
  unfold signS at h
  split at h
  · cases h
  · rename_i h0; injection h with h; rw [← h]; exact h0
theorem nameL_err (bs : List Nat) : ∀ (k z : Nat) (acc : List Nat) (x : Int), nameL bs k z acc = .error x → x ≠ 0
  | 0, z, acc, x, h => by unfold nameL at h; cases h
  | k + 1, z, acc, x, h => by
    unfold nameL at h
    split at h
    · split at h
      · exact nameL_err bs k _ _ x h
      · injection h with h; omega
    · injection h with h; omega
theorem nameS_err {bs : List Nat} {z : Nat} {x : Int} (h : nameS bs z = .error x) : x ≠ 0 := by
  unfold nameS at h
  split at h
  · split at h
    · exact nameL_err _ _ _ _ _ h
    · injection h with h; omega
  · injection h with h; omega
theorem boundS_err {bs : List Nat} {z : Nat} {x : Int} (h : boundS bs z = .error x) : x ≠ 0 := by
  unfold boundS at h
  split at h
  · rename_i h1; injection h with h; subst h; exact plain_err h1
  · split at h
    · rename_i h1; injection h with h; subst h; exact sign_err h1
    · split at h
      · cases h
      · injection h with h; omega
theorem timeS_err {bs : List Nat} {f : Bool} {z : Nat} {T x : Int} (h : timeS bs f z T = .error x) : x ≠ 0 := by
  unfold timeS at h
  split at h
  · split at h
    · rename_i h1; injection h with h; subst h; exact plain_err h1
    · cases h
  · split at h
    · rename_i h1; injection h with h; subst h; exact sign_err h1
    · cases h
theorem ptL_err (bs : List Nat) : ∀ (k : Nat) (f : Bool) (z : Nat) (T V : Int) (acc : List (Int × Int)) (x : Int), ptL bs k f z T V acc = .error x → x ≠ 0
  | 0, f, z, T, V, acc, x, h => by unfold ptL at h; cases h
  | k + 1, f, z, T, V, acc, x, h => by
    rw [ptL_succ] at h
    split at h
    · rename_i h1; injection h with h; subst h; exact timeS_err h1
    · split at h
      · split at h
        · rename_i h1; injection h with h; subst h; exact sign_err h1
        · split at h
          · exact ptL_err bs k _ _ _ _ _ x h
          · injection h with h; omega
      · injection h with h; omega
theorem mutS_err {bs : List Nat} {z : Nat} {x : Int} (h : mutS bs z = .error x) : x ≠ 0 := by
  unfold mutS at h
  split at h
  · split at h
    · split at h
      · rename_i h1; injection h with h; subst h; exact nameS_err h1
      · unfold bodyS at h
        split at h
        · split at h
          · rename_i h1; injection h with h; subst h; exact boundS_err h1
          · cases h
        · split at h
          · cases h
          · split at h
            · split at h
              · rename_i h1
                injection h with h; subst h
                unfold pointsS at h1
                split at h1
                · rename_i h2; injection h1 with h1; subst h1; exact plain_err h2
                · split at h1
                  · exact ptL_err _ _ _ _ _ _ _ _ h1
                  · injection h1 with h1; omega
              · cases h
            · split at h
              · rename_i h1; injection h with h; subst h; exact plain_err h1
              · cases h
    · injection h with h; omega
  · injection h with h; omega
end Go.Proofs.Ytedojdbihajnbaa
namespace Go.Proofs.Ytedojdbihajnbaa
open Go.RowKit Go.Shelf VB
set_option linter.unusedVariables false
theorem gv_ext (ys : List Nat) : ∀ (l : List Nat) (i n : Nat), (gv i n l).2.2 = 6 ∨ gv i n (l ++ ys) = gv i n l
  | [], i, n => .inl rfl
  | x :: l, i, n => by
    rw [List.cons_append]
    unfold gv
    by_cases h1 : i = 9 ∧ 1 < x
    · rw [if_pos h1, if_pos h1]; exact .inr rfl
    · rw [if_neg h1, if_neg h1]
      by_cases h2 : x = 0 ∧ 0 < i
      · rw [if_pos h2, if_pos h2]; exact .inr rfl
      · rw [if_neg h2, if_neg h2]
        by_cases h3 : x < 128
        · rw [if_pos h3, if_pos h3]; exact .inr rfl
        · rw [if_neg h3, if_neg h3]
          exact gv_ext ys l (i + 1) _
theorem gotN_ext {bs : List Nat} (ys : List Nat) {z : Nat} (hz : z ≤ bs.length) : (gotN bs z).2.2 = 6 ∨ gotN (bs ++ ys) z = gotN bs z := by
  have h1 : (0 : Int) ≤ (z : Nat) ∧ ((z : Nat) : Int) ≤ bs.length := by omega
  have h2 : (0 : Int) ≤ (z : Nat) ∧ ((z : Nat) : Int) ≤ (bs ++ ys).length := by rw [List.length_append]; omega
  unfold gotN
  rw [if_pos h1, if_pos h2, Int.toNat_natCast, List.drop_append_of_le_length hz]
  rcases gv_ext ys (bs.drop z) 0 0 with h | h
  · rw [if_neg (by rw [h]; decide)]
    exact .inl h
  · rw [h]
    exact .inr rfl
theorem plain_ext {bs : List Nat} (ys : List Nat) {most z : Nat} (hz : z ≤ bs.length) : plainS bs most z = .error 6 ∨ plainS (bs ++ ys) most z = plainS bs most z := by
  rcases gotN_ext ys hz with h | h
  · left
    unfold plainS
    rw [if_neg (by rw [h]; decide), h]
  · right
    unfold plainS
    rw [h]
theorem sign_ext {bs : List Nat} (ys : List Nat) {z : Nat} (hz : z ≤ bs.length) : signS bs z = .error 6 ∨ signS (bs ++ ys) z = signS bs z := by
  rcases gotN_ext ys hz with h | h
  · left
    unfold signS
    rw [if_neg (by rw [h]; decide), h]
  · right
    unfold signS
    rw [h]
theorem getD_ext {bs : List Nat} (ys : List Nat) {z : Nat} (hz : z < bs.length) : (bs ++ ys).getD z 0 = bs.getD z 0 := by
  rw [List.getD_eq_getElem?_getD, List.getD_eq_getElem?_getD, List.getElem?_append_left hz]
theorem nameL_ext {bs : List Nat} (ys : List Nat) : ∀ (k z : Nat) (acc : List Nat), nameL bs k z acc = .error 6 ∨ nameL (bs ++ ys) k z acc = nameL bs k z acc
  | 0, z, acc => .inr rfl
  | k + 1, z, acc => by
    unfold nameL
    by_cases hz : z < bs.length
    · have hz' : z < (bs ++ ys).length := by rw [List.length_append]; omega
      rw [if_pos hz, if_pos hz', getD_ext ys hz]
      by_cases hl : letB (bs.getD z 0 : Nat) = true
      · rw [if_pos hl, if_pos hl]
        exact nameL_ext ys k _ _
      · rw [if_neg hl, if_neg hl]; exact .inr rfl
    · rw [if_neg hz]; exact .inl rfl
theorem nameS_ext {bs : List Nat} (ys : List Nat) (z : Nat) : nameS bs z = .error 6 ∨ nameS (bs ++ ys) z = nameS bs z := by
  unfold nameS
  by_cases hz : z < bs.length
  · have hz' : z < (bs ++ ys).length := by rw [List.length_append]; omega
    rw [if_pos hz, if_pos hz', getD_ext ys hz]
    by_cases hl : 1 ≤ bs.getD z 0 ∧ bs.getD z 0 ≤ 12
    · rw [if_pos hl, if_pos hl]
      exact nameL_ext ys _ _ _
    · rw [if_neg hl, if_neg hl]; exact .inr rfl
  · rw [if_neg hz]; exact .inl rfl
theorem bound_ext {bs : List Nat} (ys : List Nat) {z : Nat} (hz : z ≤ bs.length) : boundS bs z = .error 6 ∨ boundS (bs ++ ys) z = boundS bs z := by
  unfold boundS
  rcases plain_ext ys (most := 1099511627776) hz with h | h
  · rw [h]; exact .inl rfl
  · rw [h]
    cases hm : plainS bs 1099511627776 z with
    | error x => exact .inr rfl
    | ok r =>
      obtain ⟨e, p⟩ := r
      simp only
      rcases sign_ext ys (plainS_lt hm).2 with h2 | h2
      · rw [h2]; exact .inl rfl
      · rw [h2]; exact .inr rfl
theorem time_ext {bs : List Nat} (ys : List Nat) {f : Bool} {z : Nat} {T : Int} (hz : z ≤ bs.length) : timeS bs f z T = .error 6 ∨ timeS (bs ++ ys) f z T = timeS bs f z T := by
  unfold timeS
  cases f with
  | true =>
    rw [if_pos rfl, if_pos rfl]
    rcases plain_ext ys (most := 281474976710656) hz with h | h
    · rw [h]; exact .inl rfl
    · rw [h]; exact .inr rfl
  | false =>
    rw [if_neg (by decide), if_neg (by decide)]
    rcases sign_ext ys hz with h | h
    · rw [h]; exact .inl rfl
    · rw [h]; exact .inr rfl
theorem ptL_ext {bs : List Nat} (ys : List Nat) : ∀ (k : Nat) (f : Bool) (z : Nat) (T V : Int) (acc : List (Int × Int)), z ≤ bs.length → (ptL bs k f z T V acc = .error 6 ∨ ptL (bs ++ ys) k f z T V acc = ptL bs k f z T V acc)
  | 0, f, z, T, V, acc, _ => .inr rfl
  | k + 1, f, z, T, V, acc, hz => by
    unfold ptL
    rcases time_ext ys (f := f) (T := T) hz with h | h
    · rw [h]; exact .inl rfl
    · rw [h]
      cases hm : timeS bs f z T with
      | error x => exact .inr rfl
      | ok r =>
        obtain ⟨t, p⟩ := r
        simp only
        by_cases ht : timeB t = true
        · rw [if_pos ht, if_pos ht]
          rcases sign_ext ys (timeS_lt hm).2 with h2 | h2
          · rw [h2]; exact .inl rfl
          · rw [h2]
            cases hs : signS bs p with
            | error x => exact .inr rfl
            | ok r =>
              obtain ⟨d, q⟩ := r
              simp only
              by_cases hv : valB (IntKind.i64.wrap (V + d)) = true
              · rw [if_pos hv, if_pos hv]
                exact ptL_ext ys k _ _ _ _ _ (signS_lt hs).2
              · rw [if_neg hv, if_neg hv]; exact .inr rfl
        · rw [if_neg ht, if_neg ht]; exact .inr rfl
theorem points_ext {bs : List Nat} (ys : List Nat) {z : Nat} (hz : z ≤ bs.length) : pointsS bs z = .error 6 ∨ pointsS (bs ++ ys) z = pointsS bs z := by
  unfold pointsS
  rcases plain_ext ys (most := 16) hz with h | h
  · rw [h]; exact .inl rfl
  · rw [h]
    cases hm : plainS bs 16 z with
    | error x => exact .inr rfl
    | ok r =>
      obtain ⟨m, p⟩ := r
      simp only
      by_cases h0 : 0 < m
      · rw [if_pos h0, if_pos h0]
        exact ptL_ext ys _ _ _ _ _ _ (plainS_lt hm).2
      · rw [if_neg h0, if_neg h0]; exact .inr rfl
theorem body_ext {bs : List Nat} (ys : List Nat) {kd : Nat} {nm : List Nat} {z : Nat} (hz : z ≤ bs.length) : bodyS bs kd nm z = .error 6 ∨ bodyS (bs ++ ys) kd nm z = bodyS bs kd nm z := by
  unfold bodyS
  by_cases h1 : kd = 1
  · rw [if_pos h1, if_pos h1]
    rcases bound_ext ys hz with h | h
    · rw [h]; exact .inl rfl
    · rw [h]; exact .inr rfl
  · rw [if_neg h1, if_neg h1]
    by_cases h2 : kd = 2
    · rw [if_pos h2, if_pos h2]; exact .inr rfl
    · rw [if_neg h2, if_neg h2]
      by_cases h3 : kd = 3
      · rw [if_pos h3, if_pos h3]
        rcases points_ext ys hz with h | h
        · rw [h]; exact .inl rfl
        · rw [h]; exact .inr rfl
      · rw [if_neg h3, if_neg h3]
        rcases plain_ext ys (most := 281474976710656) hz with h | h
        · rw [h]; exact .inl rfl
        · rw [h]; exact .inr rfl
theorem mut_ext {bs : List Nat} (ys : List Nat) (z : Nat) : mutS bs z = .error 6 ∨ mutS (bs ++ ys) z = mutS bs z := by
  unfold mutS
  by_cases hz : z < bs.length
  · have hz' : z < (bs ++ ys).length := by rw [List.length_append]; omega
    rw [if_pos hz, if_pos hz', getD_ext ys hz]
    by_cases hl : 1 ≤ bs.getD z 0 ∧ bs.getD z 0 ≤ 4
    · rw [if_pos hl, if_pos hl]
      rcases nameS_ext ys (z + 1) with h | h
      · rw [h]; exact .inl rfl
      · rw [h]
        cases hm : nameS bs (z + 1) with
        | error x => exact .inr rfl
        | ok r => exact body_ext ys (nameS_lt hm).2
    · rw [if_neg hl, if_neg hl]; exact .inr rfl
  · rw [if_neg hz]; exact .inl rfl
/-- a mutation's bytes, cut off anywhere, are short -/
theorem mutS_cut {m : Mu} (hr : Right m) {k : Nat} (hk : k < (mutB m).length) : mutS ((mutB m).take k) 0 = .error 6 := by
  rcases mut_ext ((mutB m).drop k) 0 (bs := (mutB m).take k) with h | h
  · exact h
  · rw [List.take_append_drop] at h
    have h2 := mutS_at (bs := mutB m) (ys := []) (z := 0) hr (by simp)
    rw [h2] at h
    have h3 := mutS_lt h.symm
    rw [List.length_take] at h3
    omega
theorem rowsL_ext {bs : List Nat} (ys : List Nat) : ∀ (k z : Nat) (acc : List Mu), rowsL bs k z acc = .error 6 ∨ rowsL (bs ++ ys) k z acc = rowsL bs k z acc
  | 0, z, acc => .inr rfl
  | k + 1, z, acc => by
    unfold rowsL
    rcases mut_ext ys z (bs := bs) with h | h
    · rw [h]; exact .inl rfl
    · rw [h]
      cases hm : mutS bs z with
      | error x => exact .inr rfl
      | ok r => exact rowsL_ext ys k _ _
theorem rowsL_in {bs : List Nat} : ∀ (k z : Nat) (acc l : List Mu) (p : Nat), z ≤ bs.length → rowsL bs k z acc = .ok (l, p) → p ≤ bs.length
  | 0, z, acc, l, p, hz, h => by
    unfold rowsL at h
    injection h with h
    injection h with _ h
    omega
  | k + 1, z, acc, l, p, hz, h => by
    unfold rowsL at h
    cases hm : mutS bs z with
    | error x => rw [hm] at h; cases h
    | ok r =>
      obtain ⟨m, q⟩ := r
      rw [hm] at h
      exact rowsL_in k q _ l p (mutS_lt hm).2 h
theorem rowsL_at {bs : List Nat} : ∀ (l : List Mu) (ys : List Nat) (z : Nat) (acc : List Mu), (∀ m ∈ l, Right m) → bs.drop z = (l.flatMap mutB) ++ ys → rowsL bs l.length z acc = .ok (acc ++ l, z + (l.flatMap mutB).length)
  | [], ys, z, acc, _, h => by simp [rowsL]
  | m :: l, ys, z, acc, hr, h => by
    have h1 : bs.drop z = mutB m ++ (l.flatMap mutB ++ ys) := by rw [h, List.flatMap_cons, List.append_assoc]
    have h2 := mutS_at (hr m List.mem_cons_self) h1
    rw [List.length_cons]
    unfold rowsL
    rw [h2]
    simp only
    rw [rowsL_at l ys _ _ (fun x hx => hr x (List.mem_cons_of_mem _ hx)) (drop_on h1), List.flatMap_cons, List.length_append]
    simp [Nat.add_assoc]
/-- a row's bytes -/
def rowP (l : List Mu) : List Nat := vb l.length ++ l.flatMap mutB
theorem rowP_all {l : List Mu} {ys : List Nat} (hr : ∀ m ∈ l, Right m) (hl : l.length < 18446744073709551616) : (gotN (rowP l ++ ys) 0) = (l.length, (vb l.length).length, 0) ∧ rowsL (rowP l ++ ys) l.length (vb l.length).length [] = .ok (l, (rowP l).length) := by
  have h1 : (rowP l ++ ys).drop 0 = vb l.length ++ (l.flatMap mutB ++ ys) := by unfold rowP; rw [List.drop_zero, List.append_assoc]
  have h2 := got_at h1 hl
  rw [Nat.zero_add] at h2
  refine ⟨h2, ?_⟩
  have h3 := drop_on h1
  rw [Nat.zero_add] at h3
  have h4 := rowsL_at l ys _ [] hr h3
  rw [h4, List.nil_append]
  unfold rowP
  rw [List.length_append]
/-- what was laid is read -/
theorem rowsS_at {l : List Mu} (hr : ∀ m ∈ l, Right m) (hl : l.length < 18446744073709551616) : rowsS (rowP l) = .ok l := by
  obtain ⟨h1, h2⟩ := rowP_all (ys := []) hr hl
  rw [List.append_nil] at h1 h2
  unfold rowsS
  rw [h1]
  simp only
  rw [if_pos trivial, h2]
  unfold endS
  simp
theorem rowsS_more {l : List Mu} {ys : List Nat} (hr : ∀ m ∈ l, Right m) (hl : l.length < 18446744073709551616) (hy : ys ≠ []) : rowsS (rowP l ++ ys) = .error 7 := by
  obtain ⟨h1, h2⟩ := rowP_all (ys := ys) hr hl
  unfold rowsS
  rw [h1]
  simp only
  rw [if_pos trivial, h2]
  unfold endS
  have := List.length_pos_iff.2 hy
  rw [List.length_append]
  simp only
  rw [if_neg (by omega)]
theorem rowsS_cut {l : List Mu} (hr : ∀ m ∈ l, Right m) (hl : l.length < 18446744073709551616) {k : Nat} (hk : k < (rowP l).length) : rowsS ((rowP l).take k) = .error 6 := by
  obtain ⟨h1, h2⟩ := rowP_all (ys := []) hr hl
  rw [List.append_nil] at h1 h2
  unfold rowsS
  rcases gotN_ext ((rowP l).drop k) (z := 0) (bs := (rowP l).take k) (Nat.zero_le _) with h | h
  · have h : (gotN ((rowP l).take k) 0).2.2 = 6 := h
    rw [if_neg (by rw [h]; decide), h]
  · have h : gotN ((rowP l).take k ++ (rowP l).drop k) 0 = gotN ((rowP l).take k) 0 := h
    rw [List.take_append_drop, h1] at h
    rw [← h]
    simp only
    rw [if_pos trivial]
    have hp : (vb l.length).length ≤ ((rowP l).take k).length := by
      have h0 : gotN ((rowP l).take k) ((0 : Nat) : Int) = (l.length, (vb l.length).length, 0) := h.symm
      have := (plainS_lt (bs := (rowP l).take k) (most := l.length) (z := 0) (v := l.length) (p := (vb l.length).length) (by unfold plainS; rw [h0]; simp)).2
      exact this
    rcases rowsL_ext ((rowP l).drop k) l.length (vb l.length).length [] (bs := (rowP l).take k) with h3 | h3
    · rw [h3]; rfl
    · rw [List.take_append_drop, h2] at h3
      have := rowsL_in _ _ _ _ _ hp h3.symm
      rw [List.length_take] at this
      omega
end Go.Proofs.Ytedojdbihajnbaa
