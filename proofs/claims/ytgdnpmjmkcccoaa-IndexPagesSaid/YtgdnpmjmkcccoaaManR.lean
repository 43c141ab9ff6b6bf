/- Manifest: plain laws of the reader: what was put is got; what is got was put; what is cut off is told as such. -/
import Derived.Test.YtgdnpmjmkcccoaaManQ
import Derived.Test.YtgdnpmjmkcccoaaVarX
import Derived.Test.YtgdnpmjmkcccoaaVarS
import Derived.Test.YtgdnpmjmkcccoaaVarY
namespace Go.Proofs.Ytgdnpmjmkcccoaa
open Go.RowKit Go.Shelf VB
set_option linter.unusedVariables false
set_option linter.unusedSimpArgs false
theorem unf_fold' {v : Int} (h : -9223372036854775808 ≤ v) (h2 : v ≤ 9223372036854775807) : unf (fold64 v) = v := by
  unfold unf fold64
  split <;> split <;> omega
theorem le_of_drop {bs l ys : List Nat} {z : Nat} (hl : l ≠ []) (h : bs.drop z = l ++ ys) : z + l.length ≤ bs.length := by
  have := congrArg List.length h
  rw [List.length_drop, List.length_append] at this
  have := List.length_pos_iff.2 hl
  omega
theorem drop_on {bs l ys : List Nat} {z : Nat} (h : bs.drop z = l ++ ys) : bs.drop (z + l.length) = ys := by
  rw [← List.drop_drop, h, List.drop_left]
theorem got_at {bs ys : List Nat} {z n : Nat} (h : bs.drop z = vb n ++ ys) (hn : n < 18446744073709551616) : gotN bs z = (n, z + (vb n).length, 0) := by
  have hl := le_of_drop (vb_ne n) h
  have hg := gv_vb n 0 0 ys (by omega) (by simpa using hn) (by omega)
  have hz : (0 : Int) ≤ (z : Int) ∧ (z : Int) ≤ bs.length := by omega
  unfold gotN
  rw [if_pos hz, Int.toNat_natCast, h, hg]
  simp
theorem plain_at {bs ys : List Nat} {z n most : Nat} (h : bs.drop z = vb n ++ ys) (hn : n ≤ most) (hm : most < 18446744073709551616) : plainS bs most z = .ok (n, z + (vb n).length) := by
  unfold plainS
  rw [got_at h (by omega)]
  simp [hn]
theorem sign_at {bs ys : List Nat} {z : Nat} {v : Int} (h : bs.drop z = vb (fold64 v) ++ ys) (h1 : -9223372036854775808 ≤ v) (h2 : v ≤ 9223372036854775807) : signS bs z = .ok (v, z + (vb (fold64 v)).length) := by
  unfold signS
  rw [got_at h (fold64_lt h1 h2)]
  simp [unf_fold' h1 h2]
theorem byte_here {bs ys : List Nat} {z x : Nat} (h : bs.drop z = x :: ys) : z < bs.length ∧ bs.getD z 0 = x ∧ bs.drop (z + 1) = ys := by
  have hl := le_of_drop (l := [x]) (by simp) h
  have hz : z < bs.length := by simp at hl; omega
  refine ⟨hz, ?_, drop_on (l := [x]) h⟩
  rw [List.drop_eq_getElem_cons hz] at h
  rw [List.getD_eq_getElem?_getD, List.getElem?_eq_getElem hz]
  injection h
theorem nmL_letters {s : ByteArray} (h : nameB s = true) : ∀ x ∈ nmL s, letB (x : Nat) = true := by
  unfold nameB at h
  simp only [Bool.and_eq_true] at h
  intro x hx
  unfold nmL at hx
  rw [List.mem_map] at hx
  obtain ⟨b, hb, rfl⟩ := hx
  exact List.all_eq_true.1 h.2 b hb
theorem strN_nmL (s : ByteArray) : strN (nmL s) = s := by
  have h : ((nmL s).map fun x : Nat => (x : Int)) = s.data.toList.map fun b => (b.toNat : Int) := by unfold nmL; rw [List.map_map]; rfl
  show strOfNums _ = s
  rw [h]
  unfold strOfNums
  apply ByteArray.ext
  apply Array.ext'
  simp only [List.map_map]
  rw [show ((fun n : Int => UInt8.ofNat n.toNat) ∘ fun b : UInt8 => (b.toNat : Int)) = id from funext fun b => by simp]
  simp
theorem fold_unf {n : Nat} (h : n < 18446744073709551616) : fold64 (unf n) = n := by
  unfold unf fold64
  split <;> split <;> omega
theorem got_sound {bs : List Nat} {z n p : Nat} (hb : ∀ x ∈ bs, x < 256) (h : gotN bs z = (n, p, 0)) : bs.drop z = vb n ++ bs.drop p := by
  unfold gotN at h
  split at h
  · rename_i hz
    split at h
    · rename_i h0
      obtain ⟨v, q, e, hg⟩ : ∃ v q e, gv 0 0 (bs.drop (z : Int).toNat) = (v, q, e) := ⟨_, _, _, rfl⟩
      rw [hg] at h h0
      simp only at h0
      subst h0
      rw [Int.toNat_natCast] at hg h
      simp only [Prod.mk.injEq, and_true] at h
      obtain ⟨rfl, rfl⟩ := h
      obtain ⟨m, hm, ht, _⟩ := gv_sound _ 0 0 v q (fun x hx => hb x (List.mem_of_mem_drop hx)) hg
      obtain rfl : v = m := by simpa using hm
      rw [Nat.sub_zero] at ht
      rw [← ht, ← List.drop_drop, List.take_append_drop]
    · rename_i hne
      injection h with _ h
      injection h with _ h
      exact absurd h hne
  · simp at h
theorem plain_sound {bs : List Nat} {z n p most : Nat} (hb : ∀ x ∈ bs, x < 256) (h : plainS bs most z = .ok (n, p)) : bs.drop z = vb n ++ bs.drop p ∧ n ≤ most := by
  obtain ⟨h1, h2⟩ := plainS_ok h
  exact ⟨got_sound hb h1, h2⟩
theorem sign_sound {bs : List Nat} {z p : Nat} {v : Int} (hb : ∀ x ∈ bs, x < 256) (h : signS bs z = .ok (v, p)) : bs.drop z = vb (fold64 v) ++ bs.drop p := by
  unfold signS at h
  split at h
  · rename_i h0
    injection h with h
    injection h with h1 h2
    have hg : gotN bs z = ((gotN bs z).1, (gotN bs z).2.1, 0) := by rw [← h0]
    have hs := got_sound hb hg
    rw [h2] at hs
    rw [← h1, fold_unf (gotN_small bs z)]
    exact hs
  · cases h
theorem byte_sound {bs : List Nat} {z : Nat} (h : z < bs.length) : bs.drop z = bs.getD z 0 :: bs.drop (z + 1) := by
  rw [List.drop_eq_getElem_cons h, List.getD_eq_getElem?_getD, List.getElem?_eq_getElem h]
  rfl
theorem sign_bounds {bs : List Nat} {z p : Nat} {v : Int} (h : signS bs z = .ok (v, p)) : -9223372036854775808 ≤ v ∧ v ≤ 9223372036854775807 := by
  unfold signS at h
  split at h
  · injection h with h
    injection h with h1 h2
    have := gotN_small bs z
    rw [← h1]
    unfold unf
    split <;> omega
  · cases h
theorem letB_lt {x : Nat} (h : letB (x : Nat) = true) : x < 256 := by
  unfold letB at h
  simp at h
  omega
theorem nmL_strN {l : List Nat} (h : ∀ x ∈ l, letB (x : Nat) = true) : nmL (strN l) = l := by
  unfold nmL
  show ((strOfNums (l.map fun x : Nat => (x : Int))).data.toList.map fun b => b.toNat) = l
  rw [strOfNums_data, List.map_map, List.map_map]
  conv => rhs; rw [← List.map_id l]
  apply List.map_congr_left
  intro x hx
  have := letB_lt (h x hx)
  simp
  omega
theorem nameB_strN {l : List Nat} (h : ∀ x ∈ l, letB (x : Nat) = true) (h1 : 1 ≤ l.length) (h2 : l.length ≤ 12) : nameB (strN l) = true := by
  unfold nameB
  rw [strN_size, decide_eq_true h1, decide_eq_true h2]
  simp only [Bool.true_and, List.all_eq_true]
  intro b hb
  have hm : b.toNat ∈ nmL (strN l) := by unfold nmL; exact List.mem_map.2 ⟨b, hb, rfl⟩
  rw [nmL_strN h] at hm
  exact h _ hm
theorem got_err {bs : List Nat} {z : Int} {n p : Nat} {e : Int} (h : gotN bs z = (n, p, e)) (he : e ≠ 0) : n = 0 ∧ p = 0 := by
  unfold gotN at h
  split at h
  · split at h
    · simp only [Prod.mk.injEq] at h; exact absurd h.2.2.symm he
    · simp only [Prod.mk.injEq] at h; exact ⟨h.1.symm, h.2.1.symm⟩
  · simp only [Prod.mk.injEq] at h; exact ⟨h.1.symm, h.2.1.symm⟩
theorem plain_err {bs : List Nat} {most z : Nat} {x : Int} (h : plainS bs most z = .error x) : x ≠ 0 := by
  unfold plainS at h
  split at h
  · split at h
    · cases h
    · injection h with h; omega
  · rename_i h0; injection h with h; rw [← h]; exact h0
theorem sign_err {bs : List Nat} {z : Nat} {x : Int} (h : signS bs z = .error x) : x ≠ 0 := by
  unfold signS at h
  split at h
  · cases h
  · rename_i h0; injection h with h; rw [← h]; exact h0
theorem gv_ext (ys : List Nat) : ∀ (l : List Nat) (i n : Nat), (gv i n l).2.2 = 6 ∨ gv i n (l ++ ys) = gv i n l
  | [], i, n => .inl rfl
  | x :: l, i, n => by
    rw [List.cons_append]
    unfold gv
    by_cases h1 : i = 9 ∧ 1 < x
    · rw [if_pos h1, if_pos h1]; exact .inr rfl
    · rw [if_neg h1, if_neg h1]
      by_cases h2 : x = 0 ∧ 0 < i
      · rw [if_pos h2, if_pos h2]; exact .inr rfl
      · rw [if_neg h2, if_neg h2]
        by_cases h3 : x < 128
        · rw [if_pos h3, if_pos h3]; exact .inr rfl
        · rw [if_neg h3, if_neg h3]
          exact gv_ext ys l (i + 1) _
theorem gotN_ext {bs : List Nat} (ys : List Nat) {z : Nat} (hz : z ≤ bs.length) : (gotN bs z).2.2 = 6 ∨ gotN (bs ++ ys) z = gotN bs z := by
  have h1 : (0 : Int) ≤ (z : Nat) ∧ ((z : Nat) : Int) ≤ bs.length := by omega
  have h2 : (0 : Int) ≤ (z : Nat) ∧ ((z : Nat) : Int) ≤ (bs ++ ys).length := by rw [List.length_append]; omega
  unfold gotN
  rw [if_pos h1, if_pos h2, Int.toNat_natCast, List.drop_append_of_le_length hz]
  rcases gv_ext ys (bs.drop z) 0 0 with h | h
  · rw [if_neg (by rw [h]; decide)]
    exact .inl h
  · rw [h]
    exact .inr rfl
theorem plain_ext {bs : List Nat} (ys : List Nat) {most z : Nat} (hz : z ≤ bs.length) : plainS bs most z = .error 6 ∨ plainS (bs ++ ys) most z = plainS bs most z := by
  rcases gotN_ext ys hz with h | h
  · left
    unfold plainS
    rw [if_neg (by rw [h]; decide), h]
  · right
    unfold plainS
    rw [h]
theorem sign_ext {bs : List Nat} (ys : List Nat) {z : Nat} (hz : z ≤ bs.length) : signS bs z = .error 6 ∨ signS (bs ++ ys) z = signS bs z := by
  rcases gotN_ext ys hz with h | h
  · left
    unfold signS
    rw [if_neg (by rw [h]; decide), h]
  · right
    unfold signS
    rw [h]
theorem getD_ext {bs : List Nat} (ys : List Nat) {z : Nat} (hz : z < bs.length) : (bs ++ ys).getD z 0 = bs.getD z 0 := by
  rw [List.getD_eq_getElem?_getD, List.getD_eq_getElem?_getD, List.getElem?_append_left hz]
theorem one_at {bs ys : List Nat} {z x : Nat} (h : bs.drop z = x :: ys) : oneS bs z = .ok (x, z + 1) := by
  obtain ⟨h1, h2, _⟩ := byte_here h
  unfold oneS
  rw [if_pos h1, h2]
theorem one_ok {bs : List Nat} {z x p : Nat} (h : oneS bs z = .ok (x, p)) : bs.drop z = x :: bs.drop p ∧ p = z + 1 ∧ p ≤ bs.length := by
  unfold oneS at h
  split at h
  · rename_i hz
    injection h with h
    injection h with h1 h2
    subst h1 h2
    exact ⟨byte_sound hz, rfl, hz⟩
  · cases h
theorem one_ext {bs : List Nat} (ys : List Nat) (z : Nat) : oneS bs z = .error 6 ∨ oneS (bs ++ ys) z = oneS bs z := by
  unfold oneS
  by_cases hz : z < bs.length
  · rw [if_pos hz, if_pos (by rw [List.length_append]; omega), getD_ext ys hz]; exact .inr rfl
  · rw [if_neg hz]; exact .inl rfl
theorem got_in {bs : List Nat} {z n p : Nat} (hz : z ≤ bs.length) (h : gotN bs z = (n, p, 0)) : p ≤ bs.length := by
  unfold gotN at h
  split at h
  · split at h
    · rename_i h0
      obtain ⟨v, q, e, hg⟩ : ∃ v q e, gv 0 0 (bs.drop (z : Int).toNat) = (v, q, e) := ⟨_, _, _, rfl⟩
      rw [hg] at h h0
      simp only at h0
      subst h0
      rw [Int.toNat_natCast] at hg h
      simp only [Prod.mk.injEq, and_true] at h
      obtain ⟨rfl, rfl⟩ := h
      have := (gv_lt _ 0 0 v q hg).2
      rw [List.length_drop] at this
      omega
    · rename_i hne
      injection h with _ h
      injection h with _ h
      exact absurd h hne
  · simp at h
theorem plain_in {bs : List Nat} {z n p most : Nat} (hz : z ≤ bs.length) (h : plainS bs most z = .ok (n, p)) : p ≤ bs.length := got_in hz (plainS_ok h).1
theorem sign_in {bs : List Nat} {z p : Nat} {v : Int} (hz : z ≤ bs.length) (h : signS bs z = .ok (v, p)) : p ≤ bs.length := by
  obtain ⟨u, h, _⟩ := signS_ok h
  exact got_in hz h
/-! ### one behind the other -/
theorem bind_ok {α β : Type} {S : Except Int (α × Nat)} {F : α → Nat → Except Int (β × Nat)} {d : α} {z : Nat} (h : S = .ok (d, z)) : bindE S F = F d z := by unfold bindE; rw [h]
theorem bind_inv {α β : Type} {S : Except Int (α × Nat)} {F : α → Nat → Except Int (β × Nat)} {r : β × Nat} (h : bindE S F = .ok r) : ∃ d z, S = .ok (d, z) ∧ F d z = .ok r := by
  unfold bindE at h
  split at h
  · cases h
  · exact ⟨_, _, rfl, h⟩
theorem bind_ext {α β : Type} {S S' : Except Int (α × Nat)} {F F' : α → Nat → Except Int (β × Nat)} (h1 : S = .error 6 ∨ S' = S) (h2 : ∀ d z, S = .ok (d, z) → F d z = .error 6 ∨ F' d z = F d z) : bindE S F = .error 6 ∨ bindE S' F' = bindE S F := by
  rcases h1 with h | h
  · left; unfold bindE; rw [h]
  · rw [h]
    unfold bindE
    cases hs : S with
    | error x => exact .inr rfl
    | ok r => obtain ⟨d, z⟩ := r; exact h2 d z hs
theorem bind_err {α β : Type} {S : Except Int (α × Nat)} {F : α → Nat → Except Int (β × Nat)} {x : Int} (h : bindE S F = .error x) (h1 : ∀ x, S = .error x → x ≠ 0) (h2 : ∀ d z x, S = .ok (d, z) → F d z = .error x → x ≠ 0) : x ≠ 0 := by
  unfold bindE at h
  split at h
  · rename_i y
    injection h with h
    subst h
    exact h1 _ rfl
  · exact h2 _ _ _ rfl h
section
variable {D σ : Type}
def encL (en : σ → D → List Nat) (nx : σ → D → σ) : σ → List D → List Nat
  | _, [] => []
  | s, d :: l => en s d ++ encL en nx (nx s d) l
def allG (G : σ → D → Prop) (nx : σ → D → σ) : σ → List D → Prop
  | _, [] => True
  | s, d :: l => G s d ∧ allG G nx (nx s d) l
def lastS (nx : σ → D → σ) : σ → List D → σ
  | s, [] => s
  | s, d :: l => lastS nx (nx s d) l
theorem sev_cons {f : σ → Nat → Except Int ((D × σ) × Nat)} {k : Nat} {s s1 s2 : σ} {z p q : Nat} {d : D} {l : List D} (h1 : f s z = .ok ((d, s1), p)) (h2 : sevS f k s1 p = .ok ((l, s2), q)) : sevS f (k + 1) s z = .ok ((d :: l, s2), q) := by
  rw [sevS_succ, h1]
  simp only
  rw [h2]
theorem sev_inv {f : σ → Nat → Except Int ((D × σ) × Nat)} {k : Nat} {s s2 : σ} {z q : Nat} {l : List D} (h : sevS f (k + 1) s z = .ok ((l, s2), q)) : ∃ d s1 p t, f s z = .ok ((d, s1), p) ∧ sevS f k s1 p = .ok ((t, s2), q) ∧ l = d :: t := by
  rw [sevS_succ] at h
  split at h
  · cases h
  · rename_i d s1 p h1
    split at h
    · cases h
    · rename_i t s3 q2 h2
      injection h with h
      injection h with h3 h4
      injection h3 with h5 h6
      subst h4 h5 h6
      exact ⟨d, s1, p, t, h1, h2, rfl⟩
theorem sev_at {bs : List Nat} {f : σ → Nat → Except Int ((D × σ) × Nat)} {en : σ → D → List Nat} {nx : σ → D → σ} {G : σ → D → Prop} (hone : ∀ s d z ys, G s d → bs.drop z = en s d ++ ys → f s z = .ok ((d, nx s d), z + (en s d).length)) :
    ∀ (l : List D) (s : σ) (z : Nat) (ys : List Nat), allG G nx s l → bs.drop z = encL en nx s l ++ ys → sevS f l.length s z = .ok ((l, lastS nx s l), z + (encL en nx s l).length)
  | [], s, z, ys, _, h => by simp [sevS, lastS, encL]
  | d :: l, s, z, ys, ⟨hg, hl⟩, h => by
    unfold encL at h
    rw [List.append_assoc] at h
    have h1 := hone s d z _ hg h
    have h2 := sev_at hone l (nx s d) _ ys hl (drop_on h)
    rw [List.length_cons, sev_cons h1 h2, show encL en nx s (d :: l) = en s d ++ encL en nx (nx s d) l from rfl, show lastS nx s (d :: l) = lastS nx (nx s d) l from rfl, List.length_append, Nat.add_assoc]
theorem sev_sound {bs : List Nat} {f : σ → Nat → Except Int ((D × σ) × Nat)} {en : σ → D → List Nat} {nx : σ → D → σ} {G : σ → D → Prop} (hone : ∀ s d s' z p, f s z = .ok ((d, s'), p) → s' = nx s d ∧ (G s d → bs.drop z = en s d ++ bs.drop p)) :
    ∀ (k : Nat) (s : σ) (z : Nat) (l : List D) (s' : σ) (p : Nat), sevS f k s z = .ok ((l, s'), p) → l.length = k ∧ (allG G nx s l → bs.drop z = encL en nx s l ++ bs.drop p)
  | 0, s, z, l, s', p, h => by
    unfold sevS at h
    injection h with h
    injection h with h1 h2
    injection h1 with h3 h4
    subst h2 h3
    exact ⟨rfl, fun _ => rfl⟩
  | k + 1, s, z, l, s', p, h => by
    obtain ⟨d, s1, q, t, h1, h2, rfl⟩ := sev_inv h
    obtain ⟨e1, e2⟩ := hone _ _ _ _ _ h1
    obtain ⟨a1, a2⟩ := sev_sound hone k s1 q t s' p h2
    refine ⟨by rw [List.length_cons, a1], ?_⟩
    rintro ⟨g1, g2⟩
    rw [← e1] at g2
    unfold encL
    rw [e2 g1, a2 g2, ← e1, List.append_assoc]
theorem sev_all {f : σ → Nat → Except Int ((D × σ) × Nat)} {Q : D → Prop} (hone : ∀ s d s' z p, f s z = .ok ((d, s'), p) → Q d) :
    ∀ (k : Nat) (s : σ) (z : Nat) (l : List D) (s' : σ) (p : Nat), sevS f k s z = .ok ((l, s'), p) → ∀ d ∈ l, Q d
  | 0, s, z, l, s', p, h => by
    unfold sevS at h
    injection h with h
    injection h with h1 h2
    injection h1 with h3 h4
    subst h3
    simp
  | k + 1, s, z, l, s', p, h => by
    obtain ⟨d, s1, q, t, h1, h2, rfl⟩ := sev_inv h
    intro x hx
    rcases List.mem_cons.1 hx with rfl | hx
    · exact hone _ _ _ _ _ h1
    · exact sev_all hone k s1 q t s' p h2 x hx
theorem sev_in {n : Nat} {f : σ → Nat → Except Int ((D × σ) × Nat)} (hone : ∀ s d s' z p, z ≤ n → f s z = .ok ((d, s'), p) → p ≤ n) :
    ∀ (k : Nat) (s : σ) (z : Nat) (l : List D) (s' : σ) (p : Nat), z ≤ n → sevS f k s z = .ok ((l, s'), p) → p ≤ n
  | 0, s, z, l, s', p, hz, h => by
    unfold sevS at h
    injection h with h
    injection h with h1 h2
    subst h2
    exact hz
  | k + 1, s, z, l, s', p, hz, h => by
    obtain ⟨d, s1, q, t, h1, h2, rfl⟩ := sev_inv h
    exact sev_in hone k s1 q t s' p (hone _ _ _ _ _ hz h1) h2
theorem sev_ext {n : Nat} {f f' : σ → Nat → Except Int ((D × σ) × Nat)} (hin : ∀ s d s' z p, z ≤ n → f s z = .ok ((d, s'), p) → p ≤ n) (hone : ∀ s z, z ≤ n → f s z = .error 6 ∨ f' s z = f s z) :
    ∀ (k : Nat) (s : σ) (z : Nat), z ≤ n → sevS f k s z = .error 6 ∨ sevS f' k s z = sevS f k s z
  | 0, s, z, _ => .inr rfl
  | k + 1, s, z, hz => by
    rw [sevS_succ, sevS_succ]
    rcases hone s z hz with h | h
    · rw [h]; exact .inl rfl
    · rw [h]
      cases hf : f s z with
      | error x => exact .inr rfl
      | ok r =>
        obtain ⟨⟨d, s1⟩, p⟩ := r
        simp only
        rcases sev_ext hin hone k s1 p (hin _ _ _ _ _ hz hf) with h2 | h2
        · rw [h2]; exact .inl rfl
        · rw [h2]; exact .inr rfl
theorem sev_error {f : σ → Nat → Except Int ((D × σ) × Nat)} (hone : ∀ s z x, f s z = .error x → x ≠ 0) : ∀ (k : Nat) (s : σ) (z : Nat) (x : Int), sevS f k s z = .error x → x ≠ 0
  | 0, s, z, x, h => by unfold sevS at h; cases h
  | k + 1, s, z, x, h => by
    rw [sevS_succ] at h
    split at h
    · rename_i y h1
      injection h with h
      subst h
      exact hone _ _ _ h1
    · split at h
      · rename_i y h2
        injection h with h
        subst h
        exact sev_error hone k _ _ _ h2
      · cases h
end
/-! ### names -/
theorem let_ok {bs : List Nat} {s s' : Unit} {z c p : Nat} (h : fLet bs s z = .ok ((c, s'), p)) : oneS bs z = .ok (c, p) ∧ letB (c : Nat) = true := by
  unfold fLet at h
  split at h
  · cases h
  · rename_i c' z' h1
    split at h
    · rename_i hl
      injection h with h
      injection h with h2 h3
      injection h2 with h4 h5
      subst h3 h4
      exact ⟨h1, hl⟩
    · cases h
theorem let_ext {bs : List Nat} (ys : List Nat) (s : Unit) (z : Nat) : fLet bs s z = .error 6 ∨ fLet (bs ++ ys) s z = fLet bs s z := by
  unfold fLet
  rcases one_ext (bs := bs) ys z with h | h
  · rw [h]; exact .inl rfl
  · rw [h]; exact .inr rfl
theorem one_error {bs : List Nat} {z : Nat} {x : Int} (h : oneS bs z = .error x) : x ≠ 0 := by
  unfold oneS at h
  split at h
  · cases h
  · injection h with h; omega
theorem let_error {bs : List Nat} {s : Unit} {z : Nat} {x : Int} (h : fLet bs s z = .error x) : x ≠ 0 := by
  unfold fLet at h
  split at h
  · rename_i y h1; injection h with h; subst h; exact one_error h1
  · split at h
    · cases h
    · injection h with h; omega
theorem encL_let : ∀ (l : List Nat), encL (fun (_ : Unit) c => [c]) (fun _ _ => ()) () l = l
  | [] => rfl
  | x :: l => by unfold encL; rw [encL_let l]; rfl
theorem name_at {bs ys : List Nat} {z : Nat} {s : ByteArray} (hs : nameB s = true) (h : bs.drop z = (s.size :: nmL s) ++ ys) : nameM bs z = .ok (nmL s, z + (s.size :: nmL s).length) := by
  have hn : 1 ≤ s.size ∧ s.size ≤ 12 := by
    unfold nameB at hs
    simp only [Bool.and_eq_true, decide_eq_true_eq] at hs
    exact hs.1
  have h1 := one_at h
  have h2 := sev_at (bs := bs) (f := fLet bs) (en := fun (_ : Unit) c => [c]) (nx := fun _ _ => ()) (G := fun _ c => letB (c : Nat) = true) (fun s d z ys hg hd => by
    unfold fLet
    rw [one_at hd]
    simp only
    rw [if_pos hg]
    rfl) (nmL s) () (z + 1) ys (by
      have : ∀ l : List Nat, (∀ x ∈ l, letB (x : Nat) = true) → allG (fun (_ : Unit) c => letB (c : Nat) = true) (fun _ _ => ()) () l := by
        intro l
        induction l with
        | nil => intro _; trivial
        | cons x l ih => intro hh; exact ⟨hh x List.mem_cons_self, ih (fun y hy => hh y (List.mem_cons_of_mem _ hy))⟩
      exact this _ (nmL_letters hs)) (by rw [encL_let]; exact (byte_here h).2.2)
  rw [encL_let, nmL_len] at h2
  unfold nameM
  rw [h1]
  simp only
  rw [if_pos hn, h2]
  simp only
  rw [List.length_cons, nmL_len, show z + 1 + s.size = z + (s.size + 1) by omega]
theorem name_ok {bs : List Nat} {z p : Nat} {l : List Nat} (h : nameM bs z = .ok (l, p)) : 1 ≤ l.length ∧ l.length ≤ 12 ∧ (∀ x ∈ l, letB (x : Nat) = true) ∧ bs.drop z = (l.length :: l) ++ bs.drop p := by
  unfold nameM at h
  split at h
  · cases h
  · rename_i m z1 h1
    split at h
    · rename_i hm
      split at h
      · cases h
      · rename_i l2 u z2 h2
        injection h with h
        injection h with h3 h4
        subst h3 h4
        obtain ⟨a1, a2⟩ := sev_sound (bs := bs) (f := fLet bs) (en := fun (_ : Unit) c => [c]) (nx := fun _ _ => ()) (G := fun _ _ => True) (fun s d s' z p h => ⟨rfl, fun _ => (one_ok (let_ok h).1).1⟩) _ _ _ _ _ _ h2
        have a3 := sev_all (f := fLet bs) (Q := fun c => letB (c : Nat) = true) (fun s d s' z p h => (let_ok h).2) _ _ _ _ _ _ h2
        have a4 := a2 (by
          have : ∀ l : List Nat, allG (fun (_ : Unit) (_ : Nat) => True) (fun _ _ => ()) () l := by
            intro l
            induction l with
            | nil => trivial
            | cons x l ih => exact ⟨trivial, ih⟩
          exact this _)
        rw [encL_let] at a4
        rw [a1]
        exact ⟨hm.1, hm.2, a3, by rw [(one_ok h1).1, a4]; rfl⟩
    · cases h
theorem let_in {bs : List Nat} (s : Unit) (d : Nat) (s' : Unit) (z p : Nat) (h : fLet bs s z = .ok ((d, s'), p)) : p ≤ bs.length := (one_ok (let_ok h).1).2.2
theorem name_in {bs : List Nat} {z p : Nat} {l : List Nat} (h : nameM bs z = .ok (l, p)) : p ≤ bs.length := by
  unfold nameM at h
  split at h
  · cases h
  · rename_i m z1 h1
    split at h
    · split at h
      · cases h
      · rename_i l2 u z2 h2
        injection h with h
        injection h with h3 h4
        subst h4
        exact sev_in (fun s d s' z p _ h => let_in s d s' z p h) _ _ _ _ _ _ (one_ok h1).2.2 h2
    · cases h
theorem name_ext {bs : List Nat} (ys : List Nat) (z : Nat) : nameM bs z = .error 6 ∨ nameM (bs ++ ys) z = nameM bs z := by
  unfold nameM
  rcases one_ext (bs := bs) ys z with h | h
  · rw [h]; exact .inl rfl
  · rw [h]
    cases h1 : oneS bs z with
    | error x => exact .inr rfl
    | ok r =>
      obtain ⟨m, z1⟩ := r
      simp only
      by_cases hm : 1 ≤ m ∧ m ≤ 12
      · rw [if_pos hm, if_pos hm]
        rcases sev_ext (n := bs.length) (f := fLet bs) (f' := fLet (bs ++ ys)) (fun s d s' z p _ h => let_in s d s' z p h) (fun s z _ => let_ext ys s z) m () z1 (one_ok h1).2.2 with h2 | h2
        · rw [h2]; exact .inl rfl
        · rw [h2]; exact .inr rfl
      · rw [if_neg hm, if_neg hm]; exact .inr rfl
theorem name_error {bs : List Nat} {z : Nat} {x : Int} (h : nameM bs z = .error x) : x ≠ 0 := by
  unfold nameM at h
  split at h
  · rename_i y h1; injection h with h; subst h; exact one_error h1
  · split at h
    · split at h
      · rename_i y h2; injection h with h; subst h; exact sev_error (fun s z x h => let_error h) _ _ _ _ h2
      · cases h
    · injection h with h; omega
/-! ### pages, entries, points, rows -/
theorem plainI_at {bs ys : List Nat} {z most : Nat} {v : Int} (h : bs.drop z = vbI v ++ ys) (h0 : 0 ≤ v) (hn : v ≤ (most : Nat)) (hm : most < 18446744073709551616) : plainS bs most z = .ok (v.toNat, z + (vbI v).length) := plain_at h (by omega) hm
theorem pg_ok {bs : List Nat} {s s' : Unit} {z p : Nat} {v : Int} (h : fPg bs s z = .ok ((v, s'), p)) : ∃ n : Nat, v = (n : Int) ∧ plainS bs 255 z = .ok (n, p) := by
  unfold fPg at h
  split at h
  · cases h
  · rename_i n z1 h1
    injection h with h
    injection h with h2 h3
    injection h2 with h4 h5
    subst h3 h4
    exact ⟨n, rfl, h1⟩
theorem pg_ext {bs : List Nat} (ys : List Nat) (s : Unit) (z : Nat) (hz : z ≤ bs.length) : fPg bs s z = .error 6 ∨ fPg (bs ++ ys) s z = fPg bs s z := by
  unfold fPg
  rcases plain_ext ys (most := 255) hz with h | h
  · rw [h]; exact .inl rfl
  · rw [h]; exact .inr rfl
theorem pg_error {bs : List Nat} {s : Unit} {z : Nat} {x : Int} (h : fPg bs s z = .error x) : x ≠ 0 := by
  unfold fPg at h
  split at h
  · rename_i y h1; injection h with h; subst h; exact plain_err h1
  · cases h
theorem encL_pg : ∀ (l : List Int), encL (fun (_ : Unit) v => vbI v) (fun _ _ => ()) () l = l.flatMap vbI
  | [] => rfl
  | x :: l => by unfold encL; rw [encL_pg l]; rfl
theorem encL_ens : ∀ (ah : Int) (l : List En), encL entB (fun _ x => x.ls) ah l = ensB ah l
  | _, [] => rfl
  | ah, x :: l => by unfold encL ensB; rw [encL_ens x.ls l]
theorem encL_pts : ∀ (was : Int × Int) (l : List (Int × Int)), encL ptB2 (fun _ p => p) was l = ptsB2 was l
  | _, [] => rfl
  | was, p :: l => by unfold encL ptsB2; rw [encL_pts p l]
theorem encL_rows : ∀ (l : List Ro), encL (fun (_ : Unit) x => rowBy x) (fun _ _ => ()) () l = l.flatMap rowBy
  | [] => rfl
  | x :: l => by unfold encL; rw [encL_rows l]; rfl
theorem allG_unit {D : Type} {G : D → Prop} : ∀ (l : List D), (∀ x ∈ l, G x) → allG (fun (_ : Unit) d => G d) (fun _ _ => ()) () l
  | [], _ => trivial
  | x :: l, h => ⟨h x List.mem_cons_self, allG_unit l (fun y hy => h y (List.mem_cons_of_mem _ hy))⟩
/-- what is asked of an entry behind a time -/
structure EnG (ah : Int) (x : En) : Prop where
  ok : EnOk x
  a0 : 0 ≤ ah
  a1 : ah ≤ x.fs
  a2 : ah ≤ 281474976710656
theorem enG_of : ∀ (l : List En) (b ah : Int), ensOk b l → 0 ≤ ah → ah ≤ b + 1 → ah ≤ 281474976710656 → allG EnG (fun _ x => x.ls) ah l
  | [], _, _, _, _, _, _ => trivial
  | x :: l, b, ah, ⟨h1, h2, h3⟩, h4, h5, h6 => ⟨⟨h1, h4, by omega, h6⟩, enG_of l x.ls x.ls h3 (by have := h1.fs0; have := h1.le; omega) (by omega) h1.ls1⟩
theorem ent_at {bs ys : List Nat} {z : Nat} {ah : Int} {x : En} (h : EnG ah x) (hd : bs.drop z = entB ah x ++ ys) : fEnt bs ah z = .ok ((x, x.ls), z + (entB ah x).length) := by
  obtain ⟨ho, a0, a1, a2⟩ := h
  have b0 := ho.fs0; have b1 := ho.le; have b2 := ho.ls1; have b3 := ho.ct0; have b4 := ho.ct1; have b5 := ho.by0; have b6 := ho.by1; have b7 := ho.n0; have b8 := ho.n1
  unfold entB at hd
  simp only [List.flatMap_cons, List.flatMap_nil, List.append_nil, List.append_assoc] at hd
  have s1 := plainI_at (most := 281474976710656) hd (by omega) (by omega) (by decide)
  have d1 := drop_on hd
  have s2 := plainI_at (most := 281474976710656) d1 (by omega) (by omega) (by decide)
  have d2 := drop_on d1
  have s3 := plainI_at (most := 256) d2 (by omega) (by omega) (by decide)
  have d3 := drop_on d2
  have s4 := plainI_at (most := 30720) d3 (by omega) (by omega) (by decide)
  have d4 := drop_on d3
  have hk : (x.by_.toNat + 119) / 120 = x.ps.length := by omega
  have s5 := sev_at (bs := bs) (f := fPg bs) (en := fun (_ : Unit) v => vbI v) (nx := fun _ _ => ()) (G := fun _ v => 0 ≤ v ∧ v ≤ 255) (fun s d z ys hg hd => by
    unfold fPg
    rw [plainI_at (most := 255) hd hg.1 hg.2 (by decide)]
    simp only
    rw [Int.toNat_of_nonneg hg.1]) x.ps () _ ys (allG_unit _ (fun p hp => by have := ho.pg p hp; omega)) (by rw [encL_pg]; exact d4)
  rw [encL_pg] at s5
  unfold fEnt
  rw [bind_ok s1, bind_ok s2, bind_ok s3, bind_ok s4, hk, bind_ok s5]
  have w1 : IntKind.i64.wrap (ah + ((x.fs - ah).toNat : Nat)) = x.fs := by rw [IntKind.wrap_i64]; omega
  have w2 : IntKind.i64.wrap (x.fs + ((x.ls - x.fs).toNat : Nat)) = x.ls := by rw [IntKind.wrap_i64]; omega
  rw [w1, w2, Int.toNat_of_nonneg (by omega : 0 ≤ x.ct), Int.toNat_of_nonneg (by omega : 0 ≤ x.by_)]
  unfold entB
  simp only [List.flatMap_cons, List.flatMap_nil, List.append_nil, List.length_append]
  congr 2
  omega
theorem ent_sound {bs : List Nat} (hb : ∀ x ∈ bs, x < 256) {z p : Nat} {ah s' : Int} {x : En} (h : fEnt bs ah z = .ok ((x, s'), p)) : s' = x.ls ∧ (EnG ah x → bs.drop z = entB ah x ++ bs.drop p) := by
  unfold fEnt at h
  obtain ⟨a, z1, h1, h⟩ := bind_inv h
  obtain ⟨b, z2, h2, h⟩ := bind_inv h
  obtain ⟨ct, z3, h3, h⟩ := bind_inv h
  obtain ⟨by_, z4, h4, h⟩ := bind_inv h
  obtain ⟨⟨ps, u⟩, z5, h5, h⟩ := bind_inv h
  injection h with h
  injection h with e1 e2
  injection e1 with e3 e4
  subst e2
  refine ⟨by rw [← e4, ← e3], fun hg => ?_⟩
  obtain ⟨ho, a0, a1, a2⟩ := hg
  obtain ⟨p1, q1⟩ := plain_sound hb h1
  obtain ⟨p2, q2⟩ := plain_sound hb h2
  obtain ⟨p3, q3⟩ := plain_sound hb h3
  obtain ⟨p4, q4⟩ := plain_sound hb h4
  obtain ⟨_, p5⟩ := sev_sound (bs := bs) (f := fPg bs) (en := fun (_ : Unit) v => vbI v) (nx := fun _ _ => ()) (G := fun _ _ => True) (fun s d s' z p h => ⟨rfl, fun _ => by
    obtain ⟨n, rfl, hn⟩ := pg_ok h
    exact (plain_sound hb hn).1⟩) _ _ _ _ _ _ h5
  replace p5 := p5 (allG_unit (G := fun _ => True) _ (fun _ _ => trivial))
  rw [encL_pg] at p5
  have b0 := ho.fs0; have b1 := ho.le; have b2 := ho.ls1
  have w1 : IntKind.i64.wrap (ah + (a : Nat)) = ah + (a : Nat) := by rw [IntKind.wrap_i64]; omega
  rw [w1] at e3
  have w2 : IntKind.i64.wrap (ah + (a : Nat) + (b : Nat)) = ah + (a : Nat) + (b : Nat) := by rw [IntKind.wrap_i64]; omega
  rw [w2] at e3
  subst e3
  unfold entB
  simp only [List.flatMap_cons, List.flatMap_nil, List.append_nil, List.append_assoc]
  unfold vbI at p5 ⊢
  rw [show (ah + (a : Int) - ah).toNat = a by omega, show (ah + (a : Int) + (b : Int) - (ah + (a : Int))).toNat = b by omega, Int.toNat_natCast, Int.toNat_natCast, p1, p2, p3, p4, p5]
theorem ent_fs {bs : List Nat} {z p : Nat} {ah s' : Int} {x : En} (h : fEnt bs ah z = .ok ((x, s'), p)) : x.fs ≤ 9223372036854775807 := by
  unfold fEnt at h
  obtain ⟨a, z1, h1, h⟩ := bind_inv h
  obtain ⟨b, z2, h2, h⟩ := bind_inv h
  obtain ⟨ct, z3, h3, h⟩ := bind_inv h
  obtain ⟨by_, z4, h4, h⟩ := bind_inv h
  obtain ⟨⟨ps, u⟩, z5, h5, h⟩ := bind_inv h
  injection h with h
  injection h with e1 e2
  injection e1 with e3 e4
  rw [← e3]
  show IntKind.i64.wrap _ ≤ _
  rw [IntKind.wrap_i64]
  omega
theorem ent_in {bs : List Nat} {z p : Nat} {ah s' : Int} {x : En} (hz : z ≤ bs.length) (h : fEnt bs ah z = .ok ((x, s'), p)) : p ≤ bs.length := by
  unfold fEnt at h
  obtain ⟨a, z1, h1, h⟩ := bind_inv h
  obtain ⟨b, z2, h2, h⟩ := bind_inv h
  obtain ⟨ct, z3, h3, h⟩ := bind_inv h
  obtain ⟨by_, z4, h4, h⟩ := bind_inv h
  obtain ⟨⟨ps, u⟩, z5, h5, h⟩ := bind_inv h
  injection h with h
  injection h with e1 e2
  subst e2
  exact sev_in (fun s d s' z p hz h => by obtain ⟨n, _, hn⟩ := pg_ok h; exact plain_in hz hn) _ _ _ _ _ _ (plain_in (plain_in (plain_in (plain_in hz h1) h2) h3) h4) h5
theorem ent_ext {bs : List Nat} (ys : List Nat) (ah : Int) (z : Nat) (hz : z ≤ bs.length) : fEnt bs ah z = .error 6 ∨ fEnt (bs ++ ys) ah z = fEnt bs ah z := by
  unfold fEnt
  refine bind_ext (plain_ext ys hz) (fun a z1 h1 => ?_)
  have y1 := plain_in hz h1
  refine bind_ext (plain_ext ys y1) (fun b z2 h2 => ?_)
  have y2 := plain_in y1 h2
  refine bind_ext (plain_ext ys y2) (fun ct z3 h3 => ?_)
  have y3 := plain_in y2 h3
  refine bind_ext (plain_ext ys y3) (fun by_ z4 h4 => ?_)
  have y4 := plain_in y3 h4
  exact bind_ext (sev_ext (n := bs.length) (fun s d s' z p hz h => by obtain ⟨n, _, hn⟩ := pg_ok h; exact plain_in hz hn) (fun s z hz => pg_ext ys s z hz) _ _ _ y4) (fun _ _ _ => .inr rfl)
theorem ent_error {bs : List Nat} {z : Nat} {ah x : Int} (h : fEnt bs ah z = .error x) : x ≠ 0 := by
  unfold fEnt at h
  refine bind_err h (fun _ h => plain_err h) (fun _ _ _ _ h => ?_)
  refine bind_err h (fun _ h => plain_err h) (fun _ _ _ _ h => ?_)
  refine bind_err h (fun _ h => plain_err h) (fun _ _ _ _ h => ?_)
  refine bind_err h (fun _ h => plain_err h) (fun _ _ _ _ h => ?_)
  exact bind_err h (fun _ h => sev_error (fun _ _ _ h => pg_error h) _ _ _ _ h) (fun _ _ _ _ h => by cases h)
/-- what is asked of a point behind another one -/
structure PtG (s p : Int × Int) : Prop where
  t0 : 0 ≤ s.1
  t1 : s.1 ≤ p.1
  t2 : p.1 ≤ 281474976710656
  v0 : -2305843009213693952 ≤ s.2
  v1 : s.2 ≤ 2305843009213693952
  v2 : -2305843009213693952 ≤ p.2
  v3 : p.2 ≤ 2305843009213693952
theorem ptG_of : ∀ (l : List (Int × Int)) (b fl : Int) (was : Int × Int), ptsOk b fl l → 0 ≤ fl → 0 ≤ was.1 → was.1 ≤ 281474976710656 → (was.1 = 0 ∨ was.1 ≤ b) → -2305843009213693952 ≤ was.2 → was.2 ≤ 2305843009213693952 → allG PtG (fun _ p => p) was l
  | [], _, _, _, _, _, _, _, _, _, _ => trivial
  | p :: l, b, fl, was, ⟨⟨h1, h2, h3, h4, h5⟩, h6⟩, h0, a1, a2, a3, a4, a5 =>
    ⟨⟨a1, by omega, h3, a4, a5, h4, h5⟩, ptG_of l p.1 fl p h6 h0 (by omega) (by omega) (.inr (Int.le_refl _)) h4 h5⟩
theorem pt_at {bs ys : List Nat} {z : Nat} {s p : Int × Int} (h : PtG s p) (hd : bs.drop z = ptB2 s p ++ ys) : fPt bs s z = .ok ((p, p), z + (ptB2 s p).length) := by
  obtain ⟨t0, t1, t2, v0, v1, v2, v3⟩ := h
  unfold ptB2 at hd
  simp only [List.flatMap_cons, List.flatMap_nil, List.append_nil, List.append_assoc] at hd
  have s1 := plainI_at (most := 281474976710656) hd (by omega) (by omega) (by decide)
  have s2 := sign_at (drop_on hd) (by omega) (by omega)
  unfold fPt
  rw [bind_ok s1, bind_ok s2]
  have w1 : IntKind.i64.wrap (s.1 + ((p.1 - s.1).toNat : Nat)) = p.1 := by rw [IntKind.wrap_i64]; omega
  have w2 : IntKind.i64.wrap (s.2 + (p.2 - s.2)) = p.2 := by rw [IntKind.wrap_i64]; omega
  rw [w1, w2, if_pos (betB_iff.2 ⟨v2, v3⟩)]
  unfold ptB2
  simp only [List.flatMap_cons, List.flatMap_nil, List.append_nil, List.length_append]
  congr 2
  omega
theorem pt_sound {bs : List Nat} (hb : ∀ x ∈ bs, x < 256) {z q : Nat} {s p s' : Int × Int} (h : fPt bs s z = .ok ((p, s'), q)) : s' = p ∧ (PtG s p → bs.drop z = ptB2 s p ++ bs.drop q) := by
  unfold fPt at h
  obtain ⟨a, z1, h1, h⟩ := bind_inv h
  obtain ⟨d, z2, h2, h⟩ := bind_inv h
  split at h
  · injection h with h
    injection h with e1 e2
    injection e1 with e3 e4
    subst e2
    refine ⟨by rw [← e3, ← e4], fun hg => ?_⟩
    obtain ⟨t0, t1, t2, v0, v1, v2, v3⟩ := hg
    obtain ⟨p1, q1⟩ := plain_sound hb h1
    have p2 := sign_sound hb h2
    have b2 := sign_bounds h2
    subst e3
    simp only at t1 t2 v2 v3
    have w1 : IntKind.i64.wrap (s.1 + (a : Nat)) = s.1 + (a : Nat) := by rw [IntKind.wrap_i64]; omega
    have w2 : IntKind.i64.wrap (s.2 + d) = s.2 + d := by rw [IntKind.wrap_i64] at v2 v3 ⊢; omega
    rw [w1, w2]
    unfold ptB2
    simp only [List.flatMap_cons, List.flatMap_nil, List.append_nil, List.append_assoc]
    unfold vbI
    rw [show (s.1 + (a : Int) - s.1).toNat = a by omega, show s.2 + d - s.2 = d by omega, p1, p2]
  · cases h
theorem pt_in {bs : List Nat} {z q : Nat} {s p s' : Int × Int} (hz : z ≤ bs.length) (h : fPt bs s z = .ok ((p, s'), q)) : q ≤ bs.length := by
  unfold fPt at h
  obtain ⟨a, z1, h1, h⟩ := bind_inv h
  obtain ⟨d, z2, h2, h⟩ := bind_inv h
  split at h
  · injection h with h
    injection h with e1 e2
    subst e2
    exact sign_in (plain_in hz h1) h2
  · cases h
theorem pt_ext {bs : List Nat} (ys : List Nat) (s : Int × Int) (z : Nat) (hz : z ≤ bs.length) : fPt bs s z = .error 6 ∨ fPt (bs ++ ys) s z = fPt bs s z := by
  unfold fPt
  exact bind_ext (plain_ext ys hz) (fun a z1 h1 => bind_ext (sign_ext ys (plain_in hz h1)) (fun _ _ _ => .inr rfl))
theorem pt_error {bs : List Nat} {z : Nat} {s : Int × Int} {x : Int} (h : fPt bs s z = .error x) : x ≠ 0 := by
  unfold fPt at h
  refine bind_err h (fun _ h => plain_err h) (fun _ _ _ _ h => ?_)
  refine bind_err h (fun _ h => sign_err h) (fun _ _ _ _ h => ?_)
  split at h
  · cases h
  · injection h with h; omega
theorem ents_at {bs ys : List Nat} {z : Nat} {l : List En} (h : allG EnG (fun _ x => x.ls) 0 l) (hl : l.length ≤ 256) (hd : bs.drop z = (vbI (l.length : Nat) ++ ensB 0 l) ++ ys) : entsM bs z = .ok (l, z + (vbI (l.length : Nat) ++ ensB 0 l).length) := by
  rw [List.append_assoc] at hd
  have s1 := plainI_at (most := 256) hd (by omega) (by omega) (by decide)
  have s2 := sev_at (bs := bs) (f := fEnt bs) (en := entB) (nx := fun _ x => x.ls) (G := EnG) (fun s d z ys hg hd => ent_at hg hd) l 0 _ ys h (by rw [encL_ens]; exact drop_on hd)
  rw [encL_ens] at s2
  unfold entsM
  rw [bind_ok s1, Int.toNat_natCast, bind_ok s2, List.length_append, Nat.add_assoc]
theorem ents_sound {bs : List Nat} (hb : ∀ x ∈ bs, x < 256) {z p : Nat} {l : List En} (h : entsM bs z = .ok (l, p)) : (∀ x ∈ l, x.fs ≤ 9223372036854775807) ∧ (allG EnG (fun _ x => x.ls) 0 l → bs.drop z = (vbI (l.length : Nat) ++ ensB 0 l) ++ bs.drop p) := by
  unfold entsM at h
  obtain ⟨m, z1, h1, h⟩ := bind_inv h
  obtain ⟨⟨l2, u⟩, z2, h2, h⟩ := bind_inv h
  injection h with h
  injection h with e1 e2
  subst e1 e2
  obtain ⟨a1, a2⟩ := sev_sound (bs := bs) (f := fEnt bs) (en := entB) (nx := fun _ x => x.ls) (G := EnG) (fun s d s' z p h => ent_sound hb h) _ _ _ _ _ _ h2
  refine ⟨sev_all (f := fEnt bs) (Q := fun x => x.fs ≤ 9223372036854775807) (fun s d s' z p h => ent_fs h) _ _ _ _ _ _ h2, fun hg => ?_⟩
  have a3 := a2 hg
  rw [encL_ens] at a3
  simp only
  rw [a1, (plain_sound hb h1).1, a3, List.append_assoc]
  rfl
theorem ents_in {bs : List Nat} {z p : Nat} {l : List En} (hz : z ≤ bs.length) (h : entsM bs z = .ok (l, p)) : p ≤ bs.length := by
  unfold entsM at h
  obtain ⟨m, z1, h1, h⟩ := bind_inv h
  obtain ⟨⟨l2, u⟩, z2, h2, h⟩ := bind_inv h
  injection h with h
  injection h with e1 e2
  subst e2
  exact sev_in (fun _ _ _ _ _ hz h => ent_in hz h) _ _ _ _ _ _ (plain_in hz h1) h2
theorem ents_ext {bs : List Nat} (ys : List Nat) (z : Nat) (hz : z ≤ bs.length) : entsM bs z = .error 6 ∨ entsM (bs ++ ys) z = entsM bs z := by
  unfold entsM
  exact bind_ext (plain_ext ys hz) (fun a z1 h1 => bind_ext (sev_ext (n := bs.length) (fun _ _ _ _ _ hz h => ent_in hz h) (fun s z hz => ent_ext ys s z hz) _ _ _ (plain_in hz h1)) (fun _ _ _ => .inr rfl))
theorem ents_error {bs : List Nat} {z : Nat} {x : Int} (h : entsM bs z = .error x) : x ≠ 0 := by
  unfold entsM at h
  refine bind_err h (fun _ h => plain_err h) (fun _ _ _ _ h => ?_)
  exact bind_err h (fun _ h => sev_error (fun _ _ _ h => ent_error h) _ _ _ _ h) (fun _ _ _ _ h => by cases h)
theorem ptsM_at {bs ys : List Nat} {z : Nat} {l : List (Int × Int)} (h : allG PtG (fun _ p => p) (0, 0) l) (hl : l.length ≤ 31) (hd : bs.drop z = (vbI (l.length : Nat) ++ ptsB2 (0, 0) l) ++ ys) : ptsM bs z = .ok (l, z + (vbI (l.length : Nat) ++ ptsB2 (0, 0) l).length) := by
  rw [List.append_assoc] at hd
  have s1 := plainI_at (most := 31) hd (by omega) (by omega) (by decide)
  have s2 := sev_at (bs := bs) (f := fPt bs) (en := ptB2) (nx := fun _ p => p) (G := PtG) (fun s d z ys hg hd => pt_at hg hd) l (0, 0) _ ys h (by rw [encL_pts]; exact drop_on hd)
  rw [encL_pts] at s2
  unfold ptsM
  rw [bind_ok s1, Int.toNat_natCast, bind_ok s2, List.length_append, Nat.add_assoc]
theorem ptsM_sound {bs : List Nat} (hb : ∀ x ∈ bs, x < 256) {z p : Nat} {l : List (Int × Int)} (h : ptsM bs z = .ok (l, p)) : allG PtG (fun _ p => p) (0, 0) l → bs.drop z = (vbI (l.length : Nat) ++ ptsB2 (0, 0) l) ++ bs.drop p := by
  unfold ptsM at h
  obtain ⟨m, z1, h1, h⟩ := bind_inv h
  obtain ⟨⟨l2, u⟩, z2, h2, h⟩ := bind_inv h
  injection h with h
  injection h with e1 e2
  subst e1 e2
  obtain ⟨a1, a2⟩ := sev_sound (bs := bs) (f := fPt bs) (en := ptB2) (nx := fun _ p => p) (G := PtG) (fun s d s' z p h => pt_sound hb h) _ _ _ _ _ _ h2
  intro hg
  have a3 := a2 hg
  rw [encL_pts] at a3
  simp only
  rw [a1, (plain_sound hb h1).1, a3, List.append_assoc]
  rfl
theorem ptsM_in {bs : List Nat} {z p : Nat} {l : List (Int × Int)} (hz : z ≤ bs.length) (h : ptsM bs z = .ok (l, p)) : p ≤ bs.length := by
  unfold ptsM at h
  obtain ⟨m, z1, h1, h⟩ := bind_inv h
  obtain ⟨⟨l2, u⟩, z2, h2, h⟩ := bind_inv h
  injection h with h
  injection h with e1 e2
  subst e2
  exact sev_in (fun _ _ _ _ _ hz h => pt_in hz h) _ _ _ _ _ _ (plain_in hz h1) h2
theorem ptsM_ext {bs : List Nat} (ys : List Nat) (z : Nat) (hz : z ≤ bs.length) : ptsM bs z = .error 6 ∨ ptsM (bs ++ ys) z = ptsM bs z := by
  unfold ptsM
  exact bind_ext (plain_ext ys hz) (fun a z1 h1 => bind_ext (sev_ext (n := bs.length) (fun _ _ _ _ _ hz h => pt_in hz h) (fun s z hz => pt_ext ys s z hz) _ _ _ (plain_in hz h1)) (fun _ _ _ => .inr rfl))
theorem ptsM_error {bs : List Nat} {z : Nat} {x : Int} (h : ptsM bs z = .error x) : x ≠ 0 := by
  unfold ptsM at h
  refine bind_err h (fun _ h => plain_err h) (fun _ _ _ _ h => ?_)
  exact bind_err h (fun _ h => sev_error (fun _ _ _ h => pt_error h) _ _ _ _ h) (fun _ _ _ _ h => by cases h)
theorem rowM_at {bs ys : List Nat} {z : Nat} {x : Ro} (h : RowOk x) (hl : x.en.length ≤ 256) (hd : bs.drop z = rowBy x ++ ys) : rowM bs z = .ok (x, z + (rowBy x).length) := by
  have a1 := h.ep0; have a2 := h.ep1; have a3 := h.sc0; have a4 := h.sc1; have a5 := h.fl0; have a6 := h.fl1; have a7 := h.la0; have a8 := h.la1; have a9 := h.opl
  have hE := enG_of x.en (-1) 0 h.en (by omega) (by omega) (by omega)
  have hP := ptG_of x.op _ _ (0, 0) h.op h.fl0 (by decide) (by decide) (.inl rfl) (by decide) (by decide)
  unfold rowBy at hd
  simp only [List.flatMap_cons, List.flatMap_nil, List.append_nil, List.append_assoc] at hd
  have s1 := name_at h.nm hd
  have d1 := drop_on hd
  have s2 := plainI_at (most := 1099511627776) d1 (by omega) (by omega) (by decide)
  have d2 := drop_on d1
  have s3 := sign_at d2 (by omega) (by omega)
  have d3 := drop_on d2
  have s4 := plainI_at (most := 281474976710656) d3 (by omega) (by omega) (by decide)
  have d4 := drop_on d3
  have s5 := plainI_at (most := 281474976710657) d4 (by omega) (by omega) (by decide)
  have d5 := drop_on d4
  rw [← List.append_assoc] at d5
  have s6 := ents_at hE hl d5
  have d6 := drop_on d5
  rw [← List.append_assoc] at d6
  have s7 := ptsM_at hP (by omega) d6
  unfold rowM
  rw [bind_ok s1, bind_ok s2, bind_ok s3, if_pos (betB_iff.2 ⟨a3, a4⟩), bind_ok s4, bind_ok s5, bind_ok s6, bind_ok s7]
  have w1 : wrap64 (((x.la + 1).toNat : Nat) - 1) = x.la := by unfold wrap64; omega
  rw [w1, strN_nmL, Int.toNat_of_nonneg a1, Int.toNat_of_nonneg a5]
  unfold rowBy
  simp only [List.flatMap_cons, List.flatMap_nil, List.append_nil, List.length_append]
  congr 2
  omega
theorem rowM_sound {bs : List Nat} (hb : ∀ x ∈ bs, x < 256) {z p : Nat} {x : Ro} (h : rowM bs z = .ok (x, p)) : (∀ e ∈ x.en, e.fs ≤ 9223372036854775807) ∧ (RowOk x → bs.drop z = rowBy x ++ bs.drop p) := by
  unfold rowM at h
  obtain ⟨nm, z1, h1, h⟩ := bind_inv h
  obtain ⟨ep, z2, h2, h⟩ := bind_inv h
  obtain ⟨sc, z3, h3, h⟩ := bind_inv h
  split at h
  · rename_i hsc
    obtain ⟨fl, z4, h4, h⟩ := bind_inv h
    obtain ⟨la, z5, h5, h⟩ := bind_inv h
    obtain ⟨en, z6, h6, h⟩ := bind_inv h
    obtain ⟨op, z7, h7, h⟩ := bind_inv h
    injection h with h
    injection h with e1 e2
    subst e1 e2
    obtain ⟨c1, c2⟩ := ents_sound hb h6
    refine ⟨c1, fun ho => ?_⟩
    have hE := enG_of en (-1) 0 ho.en (by omega) (by omega) (by omega)
    have hP := ptG_of op _ _ (0, 0) ho.op ho.fl0 (by decide) (by decide) (.inl rfl) (by decide) (by decide)
    obtain ⟨_, _, n3, n4⟩ := name_ok h1
    obtain ⟨p5, q5⟩ := plain_sound hb h5
    have w1 : wrap64 ((la : Int) - 1) + 1 = (la : Int) := by unfold wrap64; omega
    unfold rowBy
    simp only [List.flatMap_cons, List.flatMap_nil, List.append_nil, List.append_assoc]
    rw [nmL_strN n3, strN_size, w1]
    unfold vbI
    rw [Int.toNat_natCast, Int.toNat_natCast, Int.toNat_natCast, n4, (plain_sound hb h2).1, sign_sound hb h3, (plain_sound hb h4).1, p5, c2 hE, ptsM_sound hb h7 hP]
    unfold vbI
    simp only [List.append_assoc]
  · cases h
theorem rowM_in {bs : List Nat} {z p : Nat} {x : Ro} (hz : z ≤ bs.length) (h : rowM bs z = .ok (x, p)) : p ≤ bs.length := by
  unfold rowM at h
  obtain ⟨nm, z1, h1, h⟩ := bind_inv h
  obtain ⟨ep, z2, h2, h⟩ := bind_inv h
  obtain ⟨sc, z3, h3, h⟩ := bind_inv h
  split at h
  · obtain ⟨fl, z4, h4, h⟩ := bind_inv h
    obtain ⟨la, z5, h5, h⟩ := bind_inv h
    obtain ⟨en, z6, h6, h⟩ := bind_inv h
    obtain ⟨op, z7, h7, h⟩ := bind_inv h
    injection h with h
    injection h with e1 e2
    subst e2
    exact ptsM_in (ents_in (plain_in (plain_in (sign_in (plain_in (name_in h1) h2) h3) h4) h5) h6) h7
  · cases h
theorem rowM_ext {bs : List Nat} (ys : List Nat) (z : Nat) : rowM bs z = .error 6 ∨ rowM (bs ++ ys) z = rowM bs z := by
  unfold rowM
  refine bind_ext (name_ext ys z) (fun nm z1 h1 => ?_)
  have y1 := name_in h1
  refine bind_ext (plain_ext ys y1) (fun ep z2 h2 => ?_)
  have y2 := plain_in y1 h2
  refine bind_ext (sign_ext ys y2) (fun sc z3 h3 => ?_)
  have y3 := sign_in y2 h3
  by_cases hsc : betB sc (-40) 40 = true
  · rw [if_pos hsc, if_pos hsc]
    refine bind_ext (plain_ext ys y3) (fun fl z4 h4 => ?_)
    have y4 := plain_in y3 h4
    refine bind_ext (plain_ext ys y4) (fun la z5 h5 => ?_)
    have y5 := plain_in y4 h5
    refine bind_ext (ents_ext ys z5 y5) (fun en z6 h6 => ?_)
    exact bind_ext (ptsM_ext ys z6 (ents_in y5 h6)) (fun _ _ _ => .inr rfl)
  · rw [if_neg hsc, if_neg hsc]; exact .inr rfl
theorem rowM_error {bs : List Nat} {z : Nat} {x : Int} (h : rowM bs z = .error x) : x ≠ 0 := by
  unfold rowM at h
  refine bind_err h (fun _ h => name_error h) (fun _ _ _ _ h => ?_)
  refine bind_err h (fun _ h => plain_err h) (fun _ _ _ _ h => ?_)
  refine bind_err h (fun _ h => sign_err h) (fun _ _ _ _ h => ?_)
  split at h
  · refine bind_err h (fun _ h => plain_err h) (fun _ _ _ _ h => ?_)
    refine bind_err h (fun _ h => plain_err h) (fun _ _ _ _ h => ?_)
    refine bind_err h (fun _ h => ents_error h) (fun _ _ _ _ h => ?_)
    exact bind_err h (fun _ h => ptsM_error h) (fun _ _ _ _ h => by cases h)
  · injection h with h; omega
/-! ### manifests -/
theorem fRow_ok {bs : List Nat} {s s' : Unit} {z p : Nat} {x : Ro} (h : fRow bs s z = .ok ((x, s'), p)) : rowM bs z = .ok (x, p) := by
  unfold fRow at h
  obtain ⟨d, z1, h1, h⟩ := bind_inv h
  injection h with h
  injection h with e1 e2
  injection e1 with e3 e4
  subst e2 e3
  exact h1
def rdM1 (bs : List Nat) : Except Int ((List Ro × Unit) × Nat) := bindE (plainS bs 8 0) fun m z => sevS (fRow bs) m () z
/-- what Decode answers -/
def decM (bs : List Nat) : Except Int (List Ro) :=
  match rdM1 bs with
  | .error x => .error x
  | .ok ((l, _), z) => if z = bs.length ∧ manOk l = true then .ok l else .error 7
theorem rd_at {l : List Ro} {ys : List Nat} (h : ManOk l) : rdM1 (manBy l ++ ys) = .ok ((l, ()), (manBy l).length) := by
  have h0 := h.len
  have hd : (manBy l ++ ys).drop 0 = vbI (l.length : Nat) ++ (l.flatMap rowBy ++ ys) := by
    unfold manBy; simp
  have s1 := plainI_at (most := 8) hd (by omega) (by omega) (by decide)
  have s2 := sev_at (bs := manBy l ++ ys) (f := fRow (manBy l ++ ys)) (en := fun (_ : Unit) x => rowBy x) (nx := fun _ _ => ()) (G := fun _ x => RowOk x ∧ x.en.length ≤ 256) (fun s d z ys hg hd => by
    unfold fRow
    rw [bind_ok (rowM_at hg.1 hg.2 hd)]) l () _ ys (allG_unit (G := fun x => RowOk x ∧ x.en.length ≤ 256) l (fun x hx => ⟨h.rows x hx, by
      have h1 := en_pages x.en (-1) (h.rows x hx).en
      have h2 : (x.en.flatMap En.ps).length ≤ (pgsR l).length := by
        have : ∀ l : List Ro, x ∈ l → (x.en.flatMap En.ps).length ≤ (pgsR l).length := by
          intro l
          induction l with
          | nil => intro hx; cases hx
          | cons y l ih =>
            intro hx
            unfold pgsR at ih ⊢
            rw [List.flatMap_cons, List.length_append]
            rcases List.mem_cons.1 hx with rfl | hx
            · omega
            · have := ih hx; omega
        exact this l hx
      have h3 := h.pages
      omega⟩)) (by rw [encL_rows]; exact drop_on hd)
  rw [encL_rows] at s2
  unfold rdM1
  rw [bind_ok s1, Int.toNat_natCast, s2]
  unfold manBy
  simp only [List.flatMap_cons, List.flatMap_nil, List.append_nil, List.length_append]
  rw [Nat.zero_add]
theorem rd_sound {bs : List Nat} (hb : ∀ x ∈ bs, x < 256) {l : List Ro} {u : Unit} {p : Nat} (h : rdM1 bs = .ok ((l, u), p)) : (∀ x ∈ l, ∀ e ∈ x.en, e.fs ≤ 9223372036854775807) ∧ ((∀ x ∈ l, RowOk x) → bs = manBy l ++ bs.drop p) ∧ p ≤ bs.length := by
  unfold rdM1 at h
  obtain ⟨m, z1, h1, h⟩ := bind_inv h
  obtain ⟨a1, a2⟩ := sev_sound (bs := bs) (f := fRow bs) (en := fun (_ : Unit) x => rowBy x) (nx := fun _ _ => ()) (G := fun _ x => RowOk x) (fun s d s' z p h => ⟨rfl, (rowM_sound hb (fRow_ok h)).2⟩) _ _ _ _ _ _ h
  refine ⟨sev_all (f := fRow bs) (Q := fun x => ∀ e ∈ x.en, e.fs ≤ 9223372036854775807) (fun s d s' z p h => (rowM_sound hb (fRow_ok h)).1) _ _ _ _ _ _ h, fun hg => ?_, sev_in (fun _ _ _ _ _ hz h => rowM_in hz (fRow_ok h)) _ _ _ _ _ _ (plain_in (Nat.zero_le _) h1) h⟩
  have a3 := a2 (allG_unit l hg)
  rw [encL_rows] at a3
  have a4 := (plain_sound hb h1).1
  rw [List.drop_zero, a3] at a4
  unfold manBy
  simp only [List.flatMap_cons, List.flatMap_nil, List.append_nil, List.append_assoc]
  unfold vbI
  rw [Int.toNat_natCast, a1]
  exact a4
theorem rd_ext {bs : List Nat} (ys : List Nat) : rdM1 bs = .error 6 ∨ rdM1 (bs ++ ys) = rdM1 bs := by
  unfold rdM1
  exact bind_ext (plain_ext ys (Nat.zero_le _)) (fun a z1 h1 => sev_ext (n := bs.length) (fun _ _ _ _ _ hz h => rowM_in hz (fRow_ok h)) (fun s z hz => by unfold fRow; exact bind_ext (rowM_ext ys z) (fun _ _ _ => .inr rfl)) _ _ _ (plain_in (Nat.zero_le _) h1))
theorem rd_error {bs : List Nat} {x : Int} (h : rdM1 bs = .error x) : x ≠ 0 := by
  unfold rdM1 at h
  exact bind_err h (fun _ h => plain_err h) (fun _ _ _ _ h => sev_error (fun _ _ _ h => by
    unfold fRow at h
    exact bind_err h (fun _ h => rowM_error h) (fun _ _ _ _ h => by cases h)) _ _ _ _ h)
theorem dec_error {bs : List Nat} {x : Int} (h : decM bs = .error x) : x ≠ 0 := by
  unfold decM at h
  split at h
  · rename_i y h1; injection h with h; subst h; exact rd_error h1
  · split at h
    · cases h
    · injection h with h; omega
/-- WHAT WAS ENCODED IS DECODED -/
theorem dec_at {l : List Ro} (h : ManOk l) (ho : manOk l = true) : decM (manBy l) = .ok l := by
  have h1 := rd_at (ys := []) h
  rw [List.append_nil] at h1
  unfold decM
  rw [h1]
  exact if_pos ⟨rfl, ho⟩
/-- WITH BYTES BEHIND IT IT IS REFUSED -/
theorem dec_more {l : List Ro} {ys : List Nat} (h : ManOk l) (hy : ys ≠ []) : decM (manBy l ++ ys) = .error 7 := by
  have h1 := rd_at (ys := ys) h
  have := List.length_pos_iff.2 hy
  unfold decM
  rw [h1]
  simp only
  rw [if_neg (fun h => by have := h.1; rw [List.length_append] at this; omega)]
/-- CUT OFF IT IS TOLD AS SUCH -/
theorem dec_cut {l : List Ro} {k : Nat} (h : ManOk l) (hb : ∀ x ∈ manBy l, x < 256) (hk : k < (manBy l).length) : decM ((manBy l).take k) = .error 6 := by
  have h1 := rd_at (ys := []) h
  rw [List.append_nil] at h1
  rcases rd_ext (bs := (manBy l).take k) ((manBy l).drop k) with h2 | h2
  · unfold decM; rw [h2]
  · rw [List.take_append_drop, h1] at h2
    have := (rd_sound (fun x hx => hb x (List.mem_of_mem_take hx)) h2.symm).2.2
    rw [List.length_take] at this
    omega
/-- WHAT IS DECODED HAS JUST THOSE BYTES -/
theorem dec_sound {bs : List Nat} (hb : ∀ x ∈ bs, x < 256) {l : List Ro} (h : decM bs = .ok l) : ManOk l ∧ manOk l = true ∧ bs = manBy l := by
  unfold decM at h
  split at h
  · cases h
  · rename_i l2 u z h1
    split at h
    · rename_i hc
      injection h with h
      subst h
      obtain ⟨a1, a2, _⟩ := rd_sound hb h1
      have ho := manOk_of hc.2 a1
      refine ⟨ho, hc.2, ?_⟩
      have a3 := a2 ho.rows
      rw [hc.1, List.drop_length, List.append_nil] at a3
      exact a3
    · cases h
/-- NO OTHER MANIFEST'S BYTES BEGIN WITH THEM -/
theorem man_free {a b : List Ro} {r : List Nat} (ha : ManOk a) (hb : ManOk b) (ob : manOk b = true) (h : manBy b = manBy a ++ r) : a = b := by
  have h2 := dec_at hb ob
  by_cases hr : r = []
  · have h1 := rd_at (ys := []) ha
    have h3 := rd_at (ys := []) hb
    rw [List.append_nil] at h1 h3
    rw [hr, List.append_nil] at h
    rw [h, h1] at h3
    injection h3 with h3
    injection h3 with h3 _
    injection h3
  · rw [h, dec_more ha hr] at h2
    cases h2
end Go.Proofs.Ytgdnpmjmkcccoaa
