/- The document's answer on names, points, entries, indexes (printed by gen_refn.py). -/
import Derived.Test.YtgdnpmjmkcccoaaZTill
namespace Go.Proofs.Ytgdnpmjmkcccoaa
open Go.RowKit Go.Shelf VB
open Go.Lib (hid)
set_option linter.unusedVariables false
set_option linter.unusedSimpArgs false
set_option maxHeartbeats 400000 in
theorem Letter_d (c : Nat) (w : World) : Calls Try.prog 93 #[.int .u8 (c : Nat)] w fun e w' => e = .returned (.bool (letB (c : Nat))) ∧ w = w' := by
  unfold letB
  by_cases h1 : (97 : Int) ≤ (c : Nat) <;> by_cases h2 : ((c : Nat) : Int) ≤ 122 <;> by_cases h3 : (48 : Int) ≤ (c : Nat) <;> by_cases h4 : ((c : Nat) : Int) ≤ 57 <;> simp only [h1, h2, h3, h4, decide_true, decide_false, Bool.and_true, Bool.and_false, Bool.true_and, Bool.false_and, Bool.or_true, Bool.or_false, Bool.true_or, Bool.false_or]
  all_goals
    go_enter Try.func93, Try.ntmps93
    go_wp2
    go_ret
    exact ⟨rfl, rfl⟩
set_option maxHeartbeats 400000 in
theorem Time_d (t : Int) (w : World) : Calls Try.prog 73 #[.int .i64 t] w fun e w' => e = .returned (.bool (timeB t)) ∧ w = w' := by
  unfold timeB
  by_cases h1 : 0 ≤ t <;> by_cases h2 : t ≤ 281474976710656 <;> simp only [h1, h2, decide_true, decide_false, Bool.and_true, Bool.and_false]
  all_goals
    go_enter Try.func73, Try.ntmps73
    go_wp2
    go_ret
    exact ⟨rfl, rfl⟩
set_option maxRecDepth 100000 in
set_option maxHeartbeats 1000000 in
theorem Name_d (s : ByteArray) (w : World) (hs : s.size ≤ 1000000) : Calls Try.prog 71 #[.string s] w fun e w' => e = .returned (.bool (nameB s)) ∧ w = w' := by
  obtain ⟨n, hn⟩ : ∃ n, n = s.size := ⟨_, rfl⟩
  go_enter Try.func71, Try.ntmps71
  go_wp2_with fail
  go_loopw [6] (fun u6 wr => ∃ i : Nat, i ≤ s.size ∧ u6 = .int .i64 (i : Nat) ∧ Hid (∀ j, (hj : j < s.size) → j < i → letB ((s[j]'hj).toNat : Nat) = true) ∧ w = wr) (fun u6 _ => s.size - (intOf u6).toNat)
  case atStart => exact ⟨0, Nat.zero_le _, rfl, hid (fun j hj h => absurd h (by omega)), rfl⟩
  case round =>
    obtain ⟨i, hi, rfl, hall, rfl⟩ := hrel
    by_cases hlt : i < s.size
    · have HL := hid (Letter_d (s[i]'hlt).toNat w)
      have hltI : (i : Int) < (s.size : Int) := by omega
      have HX := hid (fun (h : letB ((s[i]'hlt).toNat : Nat) = true) => (show ∀ j, (hj : j < s.size) → j < i + 1 → letB ((s[j]'hj).toNat : Nat) = true from fun j hj h2 => by
        by_cases e : j = i
        · subst e; exact h
        · exact hall.out j hj (by omega)))
      have HY := hid (fun (h : letB ((s[i]'hlt).toNat : Nat) = false) => all_break hlt h)
      go_wp2_with fail
      generalize (s[i]'hlt).toNat = x at *
      refine HL.out.mono ?_
      rintro e w2 ⟨rfl, rfl⟩
      cases hl : letB (x : Nat) with
      | true =>
        have HX2 := hid (HX.out hl)
        clear hl HX HY
        go_wp2_with fail
        go_roundw
        case rel => exact ⟨i + 1, by omega, by go_num, HX2, trivial⟩
        case measure => simp [intOf]; omega
      | false =>
        have HY2 := hid (HY.out hl)
        clear hl HX HY
        go_wp2_with fail
        go_ret
        exact ⟨ret_b HY2.out.symm, rfl⟩
    · have hi2 : i = s.size := by omega
      have HE := hid (all_end (s := s) (fun j hj => hall.out j hj (by omega)))
      clear hall
      have hcase : (s.size < 1) ∨ (1 ≤ s.size ∧ s.size ≤ 12) ∨ (1 ≤ s.size ∧ 12 < s.size) := by omega
      rcases hcase with h1 | ⟨h1, h2⟩ | ⟨h1, h2⟩
      · have t1 : decide ((1 : Int) ≤ (s.size : Int)) = false := decide_eq_false (by omega)
        have HF := hid (show nameB s = false by rw [HE.out, decide_eq_false (by omega)]; rfl)
        clear HE h1
        go_wp2_with fail
        go_ret
        exact ⟨ret_b HF.out.symm, rfl⟩
      · have t1 : decide ((1 : Int) ≤ (s.size : Int)) = true := decide_eq_true (by omega)
        have t2 : decide ((s.size : Int) ≤ 12) = true := decide_eq_true (by omega)
        have HF := hid (show nameB s = true by rw [HE.out, decide_eq_true h1, decide_eq_true h2]; rfl)
        clear HE h1 h2
        go_wp2_with fail
        go_ret
        exact ⟨ret_b HF.out.symm, rfl⟩
      · have t1 : decide ((1 : Int) ≤ (s.size : Int)) = true := decide_eq_true (by omega)
        have t2 : decide ((s.size : Int) ≤ 12) = false := decide_eq_false (by omega)
        have HF := hid (show nameB s = false by rw [HE.out, decide_eq_true h1, decide_eq_false (by omega)]; rfl)
        clear HE h1 h2
        go_wp2_with fail
        go_ret
        exact ⟨ret_b HF.out.symm, rfl⟩
/-- a function that hands back whether something holds -/
def RetIff (p : Prop) (w : World) (e : Ending) (w' : World) : Prop := ∃ b : Bool, e = .returned (.bool b) ∧ (b = true ↔ p) ∧ Below w.heap.size w w'
theorem RetIff.no {p : Prop} {w W : World} (hb : Below w.heap.size w W) (h : ¬ p) : RetIff p w (.returned (.bool false)) W := ⟨false, rfl, ⟨(fun h => by cases h), fun h2 => absurd h2 h⟩, hb⟩
theorem RetIff.yes {p : Prop} {w W : World} (hb : Below w.heap.size w W) (h : p) : RetIff p w (.returned (.bool true)) W := ⟨true, rfl, ⟨fun _ => h, fun _ => rfl⟩, hb⟩
set_option maxHeartbeats 400000 in
theorem Eps_d (t : Int) (w : World) : Calls Try.prog 72 #[.int .i64 t] w fun e w' => e = .returned (.bool (betB t 0 1099511627776)) ∧ w = w' := by
  unfold betB
  by_cases h1 : 0 ≤ t <;> by_cases h2 : t ≤ 1099511627776 <;> simp only [h1, h2, decide_true, decide_false, Bool.and_true, Bool.and_false]
  all_goals
    go_enter Try.func72, Try.ntmps72
    go_wp2
    go_ret
    exact ⟨rfl, rfl⟩
set_option maxHeartbeats 1000000 in
theorem Point_d (T V : Int) (w : World) : Calls Try.prog 75 #[.agg #[.int .i64 T, .int .i64 V]] w (RetIff ((0 ≤ T ∧ T ≤ 281474976710656) ∧ -2305843009213693952 ≤ V ∧ V ≤ 2305843009213693952) w) := by
  obtain ⟨R, hR⟩ : ∃ R : Prop, R = ((0 ≤ T ∧ T ≤ 281474976710656) ∧ -2305843009213693952 ≤ V ∧ V ≤ 2305843009213693952) := ⟨_, rfl⟩
  rw [← hR]
  have HR := hid (show R ↔ ((0 ≤ T ∧ T ≤ 281474976710656) ∧ -2305843009213693952 ≤ V ∧ V ≤ 2305843009213693952) by rw [hR])
  have hB := (Below.refl w.heap.size w).alloc (Nat.le_refl _) (.cells #[.int .i64 T, .int .i64 V] 47)
  have k0 : (w.alloc (.cells #[.int .i64 T, .int .i64 V] 47)).cell? ⟨w.heap.size, 0, none⟩ = some (.int .i64 T) := (Blk.new w _ _).cell 0
  have k1 : (w.alloc (.cells #[.int .i64 T, .int .i64 V] 47)).cell? ⟨w.heap.size, 1, none⟩ = some (.int .i64 V) := (Blk.new w 47 #[.int .i64 T, .int .i64 V]).cell 1
  have HF := hid (fun (h : ¬ R) => (show RetIff R w (.returned (.bool false)) (w.alloc (.cells #[.int .i64 T, .int .i64 V] 47)) from RetIff.no hB h))
  have HT := hid (fun (h : R) => (show RetIff R w (.returned (.bool true)) (w.alloc (.cells #[.int .i64 T, .int .i64 V] 47)) from RetIff.yes hB h))
  clear hR hB
  by_cases h1 : 0 ≤ T
  · by_cases h2 : T ≤ 281474976710656
    · by_cases h3 : -2305843009213693952 ≤ V
      · by_cases h4 : V ≤ 2305843009213693952
        · have HX := hid (HT.out (HR.out.2 ⟨⟨h1, h2⟩, h3, h4⟩))
          go_enter Try.func75, Try.ntmps75
          go_wp2_with fail
          go_ret
          exact HX.out
        · have HX := hid (HF.out (fun h => h4 (HR.out.1 h).2.2))
          go_enter Try.func75, Try.ntmps75
          go_wp2_with fail
          go_ret
          exact HX.out
      · have HX := hid (HF.out (fun h => h3 (HR.out.1 h).2.1))
        go_enter Try.func75, Try.ntmps75
        go_wp2_with fail
        go_ret
        exact HX.out
    · have HX := hid (HF.out (fun h => h2 (HR.out.1 h).1.2))
      go_enter Try.func75, Try.ntmps75
      go_wp2_with fail
      go_ret
      exact HX.out
  · have HX := hid (HF.out (fun h => h1 (HR.out.1 h).1.1))
    go_enter Try.func75, Try.ntmps75
    go_wp2_with fail
    go_ret
    exact HX.out
set_option maxHeartbeats 1000000 in
theorem has_d {e1 : TypeId} (A : Option Addr) (n c : Nat) (l : List Int) (x : Int) (w : World) (hl : Reads w e1 1 A n (l.map (Value.int .i64))) (hn : n ≤ 100000000) :
    Calls Try.prog 40 #[.slice A n c, .int .i64 x] w fun e w' => e = .returned (.bool (decide (x ∈ l))) ∧ w = w' := by
  have hll := ints_len hl
  have HL := hid hl
  have HLL := hid hll
  clear hl hll
  go_enter Try.func40, Try.ntmps40
  go_wp2_with fail
  go_loopw [5] (fun v wr => ∃ k : Nat, k ≤ n ∧ v = .int .i64 (k : Nat) ∧ w = wr ∧ Hid (x ∉ l.take k)) (fun v _ => n - (intOf v).toNat)
  case atStart => exact ⟨0, Nat.zero_le _, rfl, rfl, hid (by simp)⟩
  case round =>
    obtain ⟨k, hk, rfl, rfl, hx⟩ := hrel
    by_cases hlt : k < n
    · obtain ⟨ad, rfl, cx⟩ := ints_at HL.out hlt
      have hltI : (k : Int) < (n : Int) := by omega
      have h0I : (0 : Int) ≤ (k : Int) := by omega
      have hkl : k < l.length := by rw [HLL.out]; exact hlt
      have hge : l.getD k 0 = l[k] := by rw [List.getD_eq_getElem?_getD, List.getElem?_eq_getElem hkl]; rfl
      have HIN := hid (fun h : l.getD k 0 = x => (show x ∈ l by rw [← h, hge]; exact List.getElem_mem hkl))
      have HNX := hid (fun h : ¬ l.getD k 0 = x => (show x ∉ l.take (k + 1) by
        rw [List.take_succ_eq_append_getElem hkl, List.mem_append, List.mem_singleton, ← hge]
        exact fun h2 => h2.elim hx.out (fun h3 => h h3.symm)))
      clear hkl hge hx
      generalize l.getD k 0 = y at *
      by_cases hc : y = x
      · have t1 : (y == x) = true := by simp [hc]
        have HC := hid (HIN.out hc)
        clear hc
        go_wp2_with fail
        go_ret
        exact ⟨ret_b (by rw [eq_comm, decide_eq_true_iff]; exact HC.out), rfl⟩
      · have t1 : (y == x) = false := by simp [hc]
        have HC := hid (HNX.out hc)
        clear hc
        go_wp2_with fail
        go_roundw
        case rel => exact ⟨k + 1, by omega, by go_num, trivial, HC⟩
        case measure => simp [intOf]; omega
    · obtain rfl : k = n := by omega
      have HC := hid (show x ∉ l by have h := hx.out; rwa [List.take_of_length_le (by rw [HLL.out]; exact Nat.le_refl _)] at h)
      clear hlt hx
      go_wp2_with fail
      go_ret
      exact ⟨ret_b (by rw [eq_comm, decide_eq_false_iff_not]; exact HC.out), rfl⟩
def enR (x : En) : Prop := (0 ≤ x.fs ∧ x.fs ≤ 281474976710656 ∧ 0 ≤ x.ls ∧ x.ls ≤ 281474976710656 ∧ x.fs ≤ x.ls) ∧ (1 ≤ x.ct ∧ x.ct ≤ 256 ∧ x.ct ≤ x.ls - x.fs + 1 ∧ (x.fs = x.ls ↔ x.ct = 1)) ∧ (1 ≤ (x.ps.length : Int) ∧ (x.ps.length : Int) ≤ 256 ∧ 1 ≤ x.by_ ∧ x.by_ ≤ 120 * (x.ps.length : Int) ∧ 120 * (x.ps.length : Int) - 120 < x.by_) ∧ ((∀ p ∈ x.ps, 18 ≤ p ∧ p ≤ 255) ∧ x.ps.Nodup)
theorem nodup_snoc {l : List Int} {x : Int} : (l ++ [x]).Nodup ↔ l.Nodup ∧ x ∉ l := by
  rw [List.nodup_append]
  constructor
  · rintro ⟨h1, _, h3⟩
    exact ⟨h1, fun h => h3 x h x (by simp) rfl⟩
  · rintro ⟨h1, h2⟩
    refine ⟨h1, by simp, ?_⟩
    intro a ha b hb
    rw [List.mem_singleton] at hb
    rintro rfl
    exact h2 (hb ▸ ha)
set_option maxRecDepth 100000 in
set_option maxHeartbeats 4000000 in
theorem Entry_d {t0 : TypeId} (x : EnA) (w : World) (hp : Reads w t0 1 x.2.1 x.1.ps.length (x.1.ps.map (Value.int .i64))) (hc : x.1.ps.length ≤ x.2.2) (hn : x.1.ps.length ≤ 100000) :
    Calls Try.prog 104 #[vE x] w (RetIff (enR x.1) w) := by
  obtain ⟨⟨fs, ls, ct, by_, ps⟩, A, c⟩ := x
  obtain ⟨n, hnl⟩ : ∃ n, n = ps.length := ⟨_, rfl⟩
  simp only at hp hc hn
  obtain ⟨R, hR⟩ : ∃ R : Prop, R = enR ⟨fs, ls, ct, by_, ps⟩ := ⟨_, rfl⟩
  show Calls _ _ #[.agg (aE fs ls ct (.slice A ps.length c) by_)] _ (RetIff (enR ⟨fs, ls, ct, by_, ps⟩) w)
  rw [← hR]
  rw [← hnl] at hp hc hn ⊢
  have HR := hid (show R ↔ (0 ≤ fs ∧ fs ≤ 281474976710656 ∧ 0 ≤ ls ∧ ls ≤ 281474976710656 ∧ fs ≤ ls) ∧ (1 ≤ ct ∧ ct ≤ 256 ∧ ct ≤ ls - fs + 1 ∧ (fs = ls ↔ ct = 1)) ∧ (1 ≤ (n : Int) ∧ (n : Int) ≤ 256 ∧ 1 ≤ by_ ∧ by_ ≤ 120 * (n : Int) ∧ 120 * (n : Int) - 120 < by_) ∧ ((∀ p ∈ ps, 18 ≤ p ∧ p ≤ 255) ∧ ps.Nodup) by rw [hR, hnl]; exact Iff.rfl)
  obtain ⟨w1, hw1⟩ : ∃ w1, w1 = w.alloc (.cells (aE fs ls ct (.slice A n c) by_) 45) := ⟨_, rfl⟩
  have HB := hid (show Below w.heap.size w w1 by rw [hw1]; exact (Below.refl w.heap.size w).alloc (Nat.le_refl _) _)
  have K := hid (show Blk w1 w.heap.size 45 (aE fs ls ct (.slice A n c) by_) by rw [hw1]; exact Blk.new w _ _)
  have HF := hid (fun (W : World) (hW : Below w.heap.size w W) (h : ¬ R) => (show RetIff R w (.returned (.bool false)) W from RetIff.no hW h))
  have HT := hid (fun (W : World) (hW : Below w.heap.size w W) (h : R) => (show RetIff R w (.returned (.bool true)) W from RetIff.yes hW h))
  have HP := hid (hp.below HB.out)
  have HNL := hid hnl
  obtain ⟨x0, x1, x2, x3, x4⟩ := K.out.fivec
  clear hp hR hnl
  rw [hw1] at x0 x1 x2 x3 x4
  go_enter Try.func104, Try.ntmps104
  by_cases h0 : fs < 0
  · skip
    have HX := hid (HF.out _ HB.out (fun h => by have := HR.out.1 h; omega))
    rw [hw1] at HX
    go_wp2_with fail
    go_ret
    exact HX.out
  · skip
    by_cases h1 : 281474976710656 < fs
    · skip
      have HX := hid (HF.out _ HB.out (fun h => by have := HR.out.1 h; omega))
      rw [hw1] at HX
      go_wp2_with fail
      go_ret
      exact HX.out
    · skip
      by_cases h2 : ls < 0
      · skip
        have HX := hid (HF.out _ HB.out (fun h => by have := HR.out.1 h; omega))
        rw [hw1] at HX
        go_wp2_with fail
        go_ret
        exact HX.out
      · skip
        by_cases h3 : 281474976710656 < ls
        · skip
          have HX := hid (HF.out _ HB.out (fun h => by have := HR.out.1 h; omega))
          rw [hw1] at HX
          go_wp2_with fail
          go_ret
          exact HX.out
        · skip
          by_cases h4 : ls < fs
          · skip
            have HX := hid (HF.out _ HB.out (fun h => by have := HR.out.1 h; omega))
            rw [hw1] at HX
            go_wp2_with fail
            go_ret
            exact HX.out
          · skip
            have hv1 : wrap64 (ls - fs) = ls - fs := by unfold wrap64; omega
            have hv2 : wrap64 (ls - fs + 1) = ls - fs + 1 := by unfold wrap64; omega
            by_cases h6 : ct < 1
            · skip
              have HX := hid (HF.out _ HB.out (fun h => by have := HR.out.1 h; omega))
              rw [hw1] at HX
              go_wp2_with fail
              go_ret
              exact HX.out
            · skip
              by_cases h7 : 256 < ct
              · skip
                have HX := hid (HF.out _ HB.out (fun h => by have := HR.out.1 h; omega))
                rw [hw1] at HX
                go_wp2_with fail
                go_ret
                exact HX.out
              · skip
                by_cases h8 : ls - fs + 1 < ct
                · skip
                  have HX := hid (HF.out _ HB.out (fun h => by have := HR.out.1 h; omega))
                  rw [hw1] at HX
                  go_wp2_with fail
                  go_ret
                  exact HX.out
                · skip
                  obtain ⟨b1, r1⟩ : ∃ b1, (fs == ls) = b1 := ⟨_, rfl⟩
                  obtain ⟨b2, r2⟩ : ∃ b2, (ct == 1) = b2 := ⟨_, rfl⟩
                  have HBB := hid (show b1 = b2 ↔ (fs = ls ↔ ct = 1) by
                    rw [← r1, ← r2]
                    have e1 : ∀ a b : Int, (a == b) = decide (a = b) := fun a b => by by_cases h : a = b <;> simp [h]
                    rw [e1, e1]
                    by_cases q1 : fs = ls <;> by_cases q2 : ct = 1 <;> simp only [q1, q2, decide_true, decide_false, iff_self, iff_true, iff_false, not_true, not_false_eq_true] <;> simp)
                  by_cases hq : b1 = b2
                  · have r3 : (b1 == b2) = true := by simp [hq]
                    have HQ9 := hid (HBB.out.1 hq)
                    clear hq HBB
                    have hv3 : wrap64 (120 * (n : Int)) = 120 * (n : Int) := by unfold wrap64; omega
                    have hv4 : wrap64 (120 * (n : Int) - 120) = 120 * (n : Int) - 120 := by unfold wrap64; omega
                    by_cases h11 : (n : Int) < 1
                    · skip
                      have HX := hid (HF.out _ HB.out (fun h => by have := HR.out.1 h; omega))
                      rw [hw1] at HX
                      go_wp2_with fail
                      go_ret
                      exact HX.out
                    · skip
                      by_cases h12 : 256 < (n : Int)
                      · skip
                        have HX := hid (HF.out _ HB.out (fun h => by have := HR.out.1 h; omega))
                        rw [hw1] at HX
                        go_wp2_with fail
                        go_ret
                        exact HX.out
                      · skip
                        by_cases h13 : by_ < 1
                        · skip
                          have HX := hid (HF.out _ HB.out (fun h => by have := HR.out.1 h; omega))
                          rw [hw1] at HX
                          go_wp2_with fail
                          go_ret
                          exact HX.out
                        · skip
                          by_cases h14 : 120 * (n : Int) < by_
                          · skip
                            have HX := hid (HF.out _ HB.out (fun h => by have := HR.out.1 h; omega))
                            rw [hw1] at HX
                            go_wp2_with fail
                            go_ret
                            exact HX.out
                          · skip
                            by_cases h15 : by_ ≤ 120 * (n : Int) - 120
                            · skip
                              have HX := hid (HF.out _ HB.out (fun h => by have := HR.out.1 h; omega))
                              rw [hw1] at HX
                              go_wp2_with fail
                              go_ret
                              exact HX.out
                            · skip
                              have HALL := hid (fun h4 => HR.out.2 ⟨⟨by omega, by omega, by omega, by omega, by omega⟩, ⟨by omega, by omega, by omega, HQ9.out⟩, ⟨by omega, by omega, by omega, by omega, by omega⟩, h4⟩)
                              go_wp2_with fail
                              rw [← hw1]
                              clear hw1 x0 x1 x2 x3 x4 h0 h1 h2 h3 h4 h6 h7 h8 h11 h12 h13 h14 h15 hv1 hv2 hv3 hv4 r1 r2 r3
                              go_loopw [3] (fun u3 wr => ∃ k : Nat, k ≤ n ∧ u3 = .int .i64 (k : Nat) ∧ (∃ q, wr = w1.drewN q) ∧ Hid ((∀ p ∈ ps.take k, 18 ≤ p ∧ p ≤ 255) ∧ (ps.take k).Nodup)) (fun u3 _ => n - (intOf u3).toNat)
                              case atStart => exact ⟨0, Nat.zero_le _, rfl, ⟨0, rfl⟩, hid ⟨by simp, by simp⟩⟩
                              case round =>
                                obtain ⟨k, hk, rfl, ⟨q, rfl⟩, hst⟩ := hrel
                                by_cases hlt : k < n
                                · obtain ⟨ad, rfl, cx⟩ := ints_at (HP.out.drewN q) hlt
                                  have x3 : (w1.drewN q).cell? ⟨w.heap.size, 3, none⟩ = some (.slice (some ad) n c) := (K.out.drewN q).cell 3
                                  have hltI : (k : Int) < (n : Int) := by omega
                                  have h0I : (0 : Int) ≤ (k : Int) := by omega
                                  have g1 : ((k : Nat) : Int) ≤ (c : Nat) := by omega
                                  have g2 : k ≤ c := by omega
                                  have hkl : k < ps.length := by have := HNL.out; omega
                                  have hge : ps.getD k 0 = ps[k] := by rw [List.getD_eq_getElem?_getD, List.getElem?_eq_getElem hkl]; rfl
                                  have htk : ps.take (k + 1) = ps.take k ++ [ps.getD k 0] := by rw [List.take_succ_eq_append_getElem hkl, hge]
                                  have hmem : ps.getD k 0 ∈ ps := by rw [hge]; exact List.getElem_mem hkl
                                  obtain ⟨p, hp⟩ : ∃ p, p = ps.getD k 0 := ⟨_, rfl⟩
                                  rw [← hp] at cx htk hmem
                                  have HTK := hid (And.intro htk hmem)
                                  have HST := hid hst.out
                                  have HBQ := hid (below_dn HB.out q)
                                  have HHAS := hid (fun W (hW : Below w1.heap.size w1 W) => has_d (some ad) k c (ps.take k) p W (by
                                    have h := (HP.out.below hW).take (k := k) (by omega)
                                    rwa [Nat.mul_one, ← List.map_take] at h) (by omega))
                                  obtain ⟨bh, hbh⟩ : ∃ bh, bh = decide (p ∈ ps.take k) := ⟨_, rfl⟩
                                  rw [← hbh] at HHAS
                                  have HBH := hid hbh
                                  clear hbh
                                  have hWq : Below w1.heap.size w1 (w1.drewN q).drew := (below_dn (Below.refl _ _) q).drew
                                  clear hkl hge htk hmem hp hst
                                  by_cases hA : p < 18
                                  · have HX := hid (HF.out _ HBQ.out.drew (fun h => by have := ((HR.out.1 h).2.2.2.1 p HTK.out.2).1; omega))
                                    go_upto_region 10 with fail
                                    refine wp_region_noPanic ?_
                                    refine wp_region_held_drew (S := (fun W => W.cell? ⟨w.heap.size, 3, none⟩ = some (.slice (some ad) n c) ∧ W.cell? (ad.add k) = some (.int .i64 p))) (by kernel_rfl) ⟨x3, cx⟩ (fun hHeld => ?_)
                                    refine wpAnyH_take (i := 0) (v := ?_) rfl (by kernel_rfl) (by kernel_rfl) (by kernel_rfl) (fun _ _ _ h => h) (Or.inl ⟨by rfl, ?_⟩) (by assumption) ?_
                                    rotate_left
                                    · intro W hW
                                      obtain ⟨z3, zx⟩ := hW
                                      go_simp
                                      try rfl
                                    simp only [List.getElem_toArray, List.getElem_cons_zero, Act.put, List.setIfInBounds_toArray, List.set_cons_zero, List.set_cons_succ]
                                    refine wpAnyH_take (i := 1) (v := ?_) rfl (by kernel_rfl) (by kernel_rfl) (by kernel_rfl) (fun _ _ _ h => h) (Or.inl ⟨by rfl, ?_⟩) (by assumption) ?_
                                    rotate_left
                                    · intro W hW
                                      obtain ⟨z3, zx⟩ := hW
                                      go_simp
                                      try rfl
                                    simp only [List.getElem_toArray, List.getElem_cons_succ, List.getElem_cons_zero, Act.put, List.setIfInBounds_toArray, List.set_cons_zero, List.set_cons_succ]
                                    refine wpAnyH_take (i := 2) (v := ?_) rfl (by kernel_rfl) (by kernel_rfl) (by kernel_rfl) (fun _ _ _ h => h) (Or.inl ⟨by rfl, ?_⟩) (by assumption) ?_
                                    rotate_left
                                    · intro W hW
                                      obtain ⟨z3, zx⟩ := hW
                                      go_simp
                                      try rfl
                                    simp only [List.getElem_toArray, List.getElem_cons_succ, List.getElem_cons_zero, Act.put, List.setIfInBounds_toArray, List.set_cons_zero, List.set_cons_succ]
                                    refine wpAnyH_take (i := 3) (v := ?_) rfl (by kernel_rfl) (by kernel_rfl) (by kernel_rfl) (fun _ _ _ h => h) (Or.inl ⟨by rfl, ?_⟩) (by assumption) ?_
                                    rotate_left
                                    · intro W hW
                                      obtain ⟨z3, zx⟩ := hW
                                      go_simp
                                      try rfl
                                    simp only [List.getElem_toArray, List.getElem_cons_succ, List.getElem_cons_zero, Act.put, List.setIfInBounds_toArray, List.set_cons_zero, List.set_cons_succ]
                                    refine wpAnyH_take (i := 4) (v := ?_) rfl (by kernel_rfl) (by kernel_rfl) (by kernel_rfl) (fun _ _ _ h => h) (Or.inl ⟨by rfl, ?_⟩) (by assumption) ?_
                                    rotate_left
                                    · intro W hW
                                      obtain ⟨z3, zx⟩ := hW
                                      go_simp
                                      try rfl
                                    simp only [List.getElem_toArray, List.getElem_cons_succ, List.getElem_cons_zero, Act.put, List.setIfInBounds_toArray, List.set_cons_zero, List.set_cons_succ]
                                    refine wpAnyH_take (i := 5) (v := ?_) rfl (by kernel_rfl) (by kernel_rfl) (by kernel_rfl) (fun _ _ _ h => h) (Or.inl ⟨by rfl, ?_⟩) (by assumption) ?_
                                    rotate_left
                                    · intro W hW
                                      obtain ⟨z3, zx⟩ := hW
                                      go_simp
                                      try rfl
                                    simp only [List.getElem_toArray, List.getElem_cons_succ, List.getElem_cons_zero, Act.put, List.setIfInBounds_toArray, List.set_cons_zero, List.set_cons_succ]
                                    refine wpAnyH_take (i := 6) (v := ?_) rfl (by kernel_rfl) (by kernel_rfl) (by kernel_rfl) (fun _ _ _ h => h) (Or.inl ⟨by rfl, ?_⟩) (by assumption) ?_
                                    rotate_left
                                    · intro W hW
                                      obtain ⟨z3, zx⟩ := hW
                                      go_simp
                                      try rfl
                                    simp only [List.getElem_toArray, List.getElem_cons_succ, List.getElem_cons_zero, Act.put, List.setIfInBounds_toArray, List.set_cons_zero, List.set_cons_succ]
                                    refine wpAnyH_take (i := 7) (v := undef) rfl (by kernel_rfl) (by kernel_rfl) (by kernel_rfl) (fun _ _ _ h => h) (Or.inr ⟨by rfl, rfl⟩) (by assumption) ?_
                                    simp only [List.getElem_toArray, List.getElem_cons_succ, List.getElem_cons_zero, Act.put, List.setIfInBounds_toArray, List.set_cons_zero, List.set_cons_succ]
                                    refine wpAnyH_take (i := 8) (v := undef) rfl (by kernel_rfl) (by kernel_rfl) (by kernel_rfl) (fun _ _ _ h => h) (Or.inr ⟨by rfl, rfl⟩) (by assumption) ?_
                                    simp only [List.getElem_toArray, List.getElem_cons_succ, List.getElem_cons_zero, Act.put, List.setIfInBounds_toArray, List.set_cons_zero, List.set_cons_succ]
                                    refine wpAnyH_take (i := 9) (v := undef) rfl (by kernel_rfl) (by kernel_rfl) (by kernel_rfl) (fun _ _ _ h => h) (Or.inr ⟨by rfl, rfl⟩) (by assumption) ?_
                                    simp only [List.getElem_toArray, List.getElem_cons_succ, List.getElem_cons_zero, Act.put, List.setIfInBounds_toArray, List.set_cons_zero, List.set_cons_succ]
                                    refine wpAnyH_take (i := 10) (v := undef) rfl (by kernel_rfl) (by kernel_rfl) (by kernel_rfl) (fun _ _ _ h => h) (Or.inr ⟨by rfl, rfl⟩) (by assumption) ?_
                                    simp only [List.getElem_toArray, List.getElem_cons_succ, List.getElem_cons_zero, Act.put, List.setIfInBounds_toArray, List.set_cons_zero, List.set_cons_succ]
                                    refine wpAnyH_take (i := 11) (v := undef) rfl (by kernel_rfl) (by kernel_rfl) (by kernel_rfl) (fun _ _ _ h => h) (Or.inr ⟨by rfl, rfl⟩) (by assumption) ?_
                                    simp only [List.getElem_toArray, List.getElem_cons_succ, List.getElem_cons_zero, Act.put, List.setIfInBounds_toArray, List.set_cons_zero, List.set_cons_succ]
                                    refine wpAnyH_take (i := 12) (v := undef) rfl (by kernel_rfl) (by kernel_rfl) (by kernel_rfl) (fun _ _ _ h => h) (Or.inr ⟨by rfl, rfl⟩) (by assumption) ?_
                                    simp only [List.getElem_toArray, List.getElem_cons_succ, List.getElem_cons_zero, Act.put, List.setIfInBounds_toArray, List.set_cons_zero, List.set_cons_succ]
                                    refine wpAnyH_take (i := 13) (v := ?_) rfl (by kernel_rfl) (by kernel_rfl) (by kernel_rfl) (fun _ _ _ h => h) (Or.inl ⟨by rfl, ?_⟩) (by assumption) ?_
                                    rotate_left
                                    · intro W hW
                                      obtain ⟨z3, zx⟩ := hW
                                      go_simp
                                      try rfl
                                    simp only [List.getElem_toArray, List.getElem_cons_succ, List.getElem_cons_zero, Act.put, List.setIfInBounds_toArray, List.set_cons_zero, List.set_cons_succ]
                                    refine wpAnyH_take (i := 14) (v := ?_) rfl (by kernel_rfl) (by kernel_rfl) (by kernel_rfl) (fun _ _ _ h => h) (Or.inl ⟨by rfl, ?_⟩) (by assumption) ?_
                                    rotate_left
                                    · intro W hW
                                      obtain ⟨z3, zx⟩ := hW
                                      go_simp
                                      try rfl
                                    simp only [List.getElem_toArray, List.getElem_cons_succ, List.getElem_cons_zero, Act.put, List.setIfInBounds_toArray, List.set_cons_zero, List.set_cons_succ]
                                    refine wpAnyH_take (i := 15) (v := undef) rfl (by kernel_rfl) (by kernel_rfl) (by kernel_rfl) (fun _ _ _ h => h) (Or.inr ⟨by rfl, rfl⟩) (by assumption) ?_
                                    simp only [List.getElem_toArray, List.getElem_cons_succ, List.getElem_cons_zero, Act.put, List.setIfInBounds_toArray, List.set_cons_zero, List.set_cons_succ]
                                    refine wpAnyH_take (i := 16) (v := undef) rfl (by kernel_rfl) (by kernel_rfl) (by kernel_rfl) (fun _ _ _ h => h) (Or.inr ⟨by rfl, rfl⟩) (by assumption) ?_
                                    simp only [List.getElem_toArray, List.getElem_cons_succ, List.getElem_cons_zero, Act.put, List.setIfInBounds_toArray, List.set_cons_zero, List.set_cons_succ]
                                    refine wpAnyH_take (i := 17) (v := undef) rfl (by kernel_rfl) (by kernel_rfl) (by kernel_rfl) (fun _ _ _ h => h) (Or.inr ⟨by rfl, rfl⟩) (by assumption) ?_
                                    simp only [List.getElem_toArray, List.getElem_cons_succ, List.getElem_cons_zero, Act.put, List.setIfInBounds_toArray, List.set_cons_zero, List.set_cons_succ]
                                    refine wpAnyH_take (i := 18) (v := undef) rfl (by kernel_rfl) (by kernel_rfl) (by kernel_rfl) (fun _ _ _ h => h) (Or.inr ⟨by rfl, rfl⟩) (by assumption) ?_
                                    simp only [List.getElem_toArray, List.getElem_cons_succ, List.getElem_cons_zero, Act.put, List.setIfInBounds_toArray, List.set_cons_zero, List.set_cons_succ]
                                    refine wpAnyH_take (i := 19) (v := undef) rfl (by kernel_rfl) (by kernel_rfl) (by kernel_rfl) (fun _ _ _ h => h) (Or.inr ⟨by rfl, rfl⟩) (by assumption) ?_
                                    simp only [List.getElem_toArray, List.getElem_cons_succ, List.getElem_cons_zero, Act.put, List.setIfInBounds_toArray, List.set_cons_zero, List.set_cons_succ]
                                    refine wpAnyH_take (i := 20) (v := undef) rfl (by kernel_rfl) (by kernel_rfl) (by kernel_rfl) (fun _ _ _ h => h) (Or.inr ⟨by rfl, rfl⟩) (by assumption) ?_
                                    simp only [List.getElem_toArray, List.getElem_cons_succ, List.getElem_cons_zero, Act.put, List.setIfInBounds_toArray, List.set_cons_zero, List.set_cons_succ]
                                    refine wpAnyH_take (i := 21) (v := undef) rfl (by kernel_rfl) (by kernel_rfl) (by kernel_rfl) (fun _ _ _ h => h) (Or.inr ⟨by rfl, rfl⟩) (by assumption) ?_
                                    simp only [List.getElem_toArray, List.getElem_cons_succ, List.getElem_cons_zero, Act.put, List.setIfInBounds_toArray, List.set_cons_zero, List.set_cons_succ]
                                    refine wpAnyH_take (i := 22) (v := undef) rfl (by kernel_rfl) (by kernel_rfl) (by kernel_rfl) (fun _ _ _ h => h) (Or.inr ⟨by rfl, rfl⟩) (by assumption) ?_
                                    simp only [List.getElem_toArray, List.getElem_cons_succ, List.getElem_cons_zero, Act.put, List.setIfInBounds_toArray, List.set_cons_zero, List.set_cons_succ]
                                    refine wpAnyH_take (i := 23) (v := undef) rfl (by kernel_rfl) (by kernel_rfl) (by kernel_rfl) (fun _ _ _ h => h) (Or.inr ⟨by rfl, rfl⟩) (by assumption) ?_
                                    simp only [List.getElem_toArray, List.getElem_cons_succ, List.getElem_cons_zero, Act.put, List.setIfInBounds_toArray, List.set_cons_zero, List.set_cons_succ]
                                    refine wpAnyH_take (i := 24) (v := undef) rfl (by kernel_rfl) (by kernel_rfl) (by kernel_rfl) (fun _ _ _ h => h) (Or.inr ⟨by rfl, rfl⟩) (by assumption) ?_
                                    simp only [List.getElem_toArray, List.getElem_cons_succ, List.getElem_cons_zero, Act.put, List.setIfInBounds_toArray, List.set_cons_zero, List.set_cons_succ]
                                    refine wpAnyH_take (i := 25) (v := ?_) rfl (by kernel_rfl) (by kernel_rfl) (by kernel_rfl) (fun _ _ _ h => h) (Or.inl ⟨by rfl, ?_⟩) (by assumption) ?_
                                    rotate_left
                                    · intro W hW
                                      go_simp
                                      try rfl
                                    simp only [List.getElem_toArray, List.getElem_cons_succ, List.getElem_cons_zero, Act.put, List.setIfInBounds_toArray, List.set_cons_zero, List.set_cons_succ]
                                    refine wpAnyH_done (by kernel_rfl) ?_ _
                                    refine NoPanic.normal ?_
                                    clear hHeld
                                    go_wp2_with fail
                                    go_ret
                                    exact HX.out
                                  · by_cases hB : 255 < p
                                    · have HX := hid (HF.out _ HBQ.out.drew (fun h => by have := ((HR.out.1 h).2.2.2.1 p HTK.out.2).2; omega))
                                      go_upto_region 10 with fail
                                      refine wp_region_noPanic ?_
                                      refine wp_region_held_drew (S := (fun W => W.cell? ⟨w.heap.size, 3, none⟩ = some (.slice (some ad) n c) ∧ W.cell? (ad.add k) = some (.int .i64 p))) (by kernel_rfl) ⟨x3, cx⟩ (fun hHeld => ?_)
                                      refine wpAnyH_take (i := 0) (v := ?_) rfl (by kernel_rfl) (by kernel_rfl) (by kernel_rfl) (fun _ _ _ h => h) (Or.inl ⟨by rfl, ?_⟩) (by assumption) ?_
                                      rotate_left
                                      · intro W hW
                                        obtain ⟨z3, zx⟩ := hW
                                        go_simp
                                        try rfl
                                      simp only [List.getElem_toArray, List.getElem_cons_zero, Act.put, List.setIfInBounds_toArray, List.set_cons_zero, List.set_cons_succ]
                                      refine wpAnyH_take (i := 1) (v := ?_) rfl (by kernel_rfl) (by kernel_rfl) (by kernel_rfl) (fun _ _ _ h => h) (Or.inl ⟨by rfl, ?_⟩) (by assumption) ?_
                                      rotate_left
                                      · intro W hW
                                        obtain ⟨z3, zx⟩ := hW
                                        go_simp
                                        try rfl
                                      simp only [List.getElem_toArray, List.getElem_cons_succ, List.getElem_cons_zero, Act.put, List.setIfInBounds_toArray, List.set_cons_zero, List.set_cons_succ]
                                      refine wpAnyH_take (i := 2) (v := ?_) rfl (by kernel_rfl) (by kernel_rfl) (by kernel_rfl) (fun _ _ _ h => h) (Or.inl ⟨by rfl, ?_⟩) (by assumption) ?_
                                      rotate_left
                                      · intro W hW
                                        obtain ⟨z3, zx⟩ := hW
                                        go_simp
                                        try rfl
                                      simp only [List.getElem_toArray, List.getElem_cons_succ, List.getElem_cons_zero, Act.put, List.setIfInBounds_toArray, List.set_cons_zero, List.set_cons_succ]
                                      refine wpAnyH_take (i := 3) (v := ?_) rfl (by kernel_rfl) (by kernel_rfl) (by kernel_rfl) (fun _ _ _ h => h) (Or.inl ⟨by rfl, ?_⟩) (by assumption) ?_
                                      rotate_left
                                      · intro W hW
                                        obtain ⟨z3, zx⟩ := hW
                                        go_simp
                                        try rfl
                                      simp only [List.getElem_toArray, List.getElem_cons_succ, List.getElem_cons_zero, Act.put, List.setIfInBounds_toArray, List.set_cons_zero, List.set_cons_succ]
                                      refine wpAnyH_take (i := 4) (v := ?_) rfl (by kernel_rfl) (by kernel_rfl) (by kernel_rfl) (fun _ _ _ h => h) (Or.inl ⟨by rfl, ?_⟩) (by assumption) ?_
                                      rotate_left
                                      · intro W hW
                                        obtain ⟨z3, zx⟩ := hW
                                        go_simp
                                        try rfl
                                      simp only [List.getElem_toArray, List.getElem_cons_succ, List.getElem_cons_zero, Act.put, List.setIfInBounds_toArray, List.set_cons_zero, List.set_cons_succ]
                                      refine wpAnyH_take (i := 5) (v := ?_) rfl (by kernel_rfl) (by kernel_rfl) (by kernel_rfl) (fun _ _ _ h => h) (Or.inl ⟨by rfl, ?_⟩) (by assumption) ?_
                                      rotate_left
                                      · intro W hW
                                        obtain ⟨z3, zx⟩ := hW
                                        go_simp
                                        try rfl
                                      simp only [List.getElem_toArray, List.getElem_cons_succ, List.getElem_cons_zero, Act.put, List.setIfInBounds_toArray, List.set_cons_zero, List.set_cons_succ]
                                      refine wpAnyH_take (i := 6) (v := ?_) rfl (by kernel_rfl) (by kernel_rfl) (by kernel_rfl) (fun _ _ _ h => h) (Or.inl ⟨by rfl, ?_⟩) (by assumption) ?_
                                      rotate_left
                                      · intro W hW
                                        obtain ⟨z3, zx⟩ := hW
                                        go_simp
                                        try rfl
                                      simp only [List.getElem_toArray, List.getElem_cons_succ, List.getElem_cons_zero, Act.put, List.setIfInBounds_toArray, List.set_cons_zero, List.set_cons_succ]
                                      refine wpAnyH_take (i := 7) (v := ?_) rfl (by kernel_rfl) (by kernel_rfl) (by kernel_rfl) (fun _ _ _ h => h) (Or.inl ⟨by rfl, ?_⟩) (by assumption) ?_
                                      rotate_left
                                      · intro W hW
                                        obtain ⟨z3, zx⟩ := hW
                                        go_simp
                                        try rfl
                                      simp only [List.getElem_toArray, List.getElem_cons_succ, List.getElem_cons_zero, Act.put, List.setIfInBounds_toArray, List.set_cons_zero, List.set_cons_succ]
                                      refine wpAnyH_take (i := 8) (v := ?_) rfl (by kernel_rfl) (by kernel_rfl) (by kernel_rfl) (fun _ _ _ h => h) (Or.inl ⟨by rfl, ?_⟩) (by assumption) ?_
                                      rotate_left
                                      · intro W hW
                                        obtain ⟨z3, zx⟩ := hW
                                        go_simp
                                        try rfl
                                      simp only [List.getElem_toArray, List.getElem_cons_succ, List.getElem_cons_zero, Act.put, List.setIfInBounds_toArray, List.set_cons_zero, List.set_cons_succ]
                                      refine wpAnyH_take (i := 9) (v := ?_) rfl (by kernel_rfl) (by kernel_rfl) (by kernel_rfl) (fun _ _ _ h => h) (Or.inl ⟨by rfl, ?_⟩) (by assumption) ?_
                                      rotate_left
                                      · intro W hW
                                        obtain ⟨z3, zx⟩ := hW
                                        go_simp
                                        try rfl
                                      simp only [List.getElem_toArray, List.getElem_cons_succ, List.getElem_cons_zero, Act.put, List.setIfInBounds_toArray, List.set_cons_zero, List.set_cons_succ]
                                      refine wpAnyH_take (i := 10) (v := ?_) rfl (by kernel_rfl) (by kernel_rfl) (by kernel_rfl) (fun _ _ _ h => h) (Or.inl ⟨by rfl, ?_⟩) (by assumption) ?_
                                      rotate_left
                                      · intro W hW
                                        obtain ⟨z3, zx⟩ := hW
                                        go_simp
                                        try rfl
                                      simp only [List.getElem_toArray, List.getElem_cons_succ, List.getElem_cons_zero, Act.put, List.setIfInBounds_toArray, List.set_cons_zero, List.set_cons_succ]
                                      refine wpAnyH_take (i := 11) (v := ?_) rfl (by kernel_rfl) (by kernel_rfl) (by kernel_rfl) (fun _ _ _ h => h) (Or.inl ⟨by rfl, ?_⟩) (by assumption) ?_
                                      rotate_left
                                      · intro W hW
                                        obtain ⟨z3, zx⟩ := hW
                                        go_simp
                                        try rfl
                                      simp only [List.getElem_toArray, List.getElem_cons_succ, List.getElem_cons_zero, Act.put, List.setIfInBounds_toArray, List.set_cons_zero, List.set_cons_succ]
                                      refine wpAnyH_take (i := 12) (v := ?_) rfl (by kernel_rfl) (by kernel_rfl) (by kernel_rfl) (fun _ _ _ h => h) (Or.inl ⟨by rfl, ?_⟩) (by assumption) ?_
                                      rotate_left
                                      · intro W hW
                                        obtain ⟨z3, zx⟩ := hW
                                        go_simp
                                        try rfl
                                      simp only [List.getElem_toArray, List.getElem_cons_succ, List.getElem_cons_zero, Act.put, List.setIfInBounds_toArray, List.set_cons_zero, List.set_cons_succ]
                                      refine wpAnyH_take (i := 13) (v := ?_) rfl (by kernel_rfl) (by kernel_rfl) (by kernel_rfl) (fun _ _ _ h => h) (Or.inl ⟨by rfl, ?_⟩) (by assumption) ?_
                                      rotate_left
                                      · intro W hW
                                        obtain ⟨z3, zx⟩ := hW
                                        go_simp
                                        try rfl
                                      simp only [List.getElem_toArray, List.getElem_cons_succ, List.getElem_cons_zero, Act.put, List.setIfInBounds_toArray, List.set_cons_zero, List.set_cons_succ]
                                      refine wpAnyH_take (i := 14) (v := ?_) rfl (by kernel_rfl) (by kernel_rfl) (by kernel_rfl) (fun _ _ _ h => h) (Or.inl ⟨by rfl, ?_⟩) (by assumption) ?_
                                      rotate_left
                                      · intro W hW
                                        obtain ⟨z3, zx⟩ := hW
                                        go_simp
                                        try rfl
                                      simp only [List.getElem_toArray, List.getElem_cons_succ, List.getElem_cons_zero, Act.put, List.setIfInBounds_toArray, List.set_cons_zero, List.set_cons_succ]
                                      refine wpAnyH_take (i := 15) (v := undef) rfl (by kernel_rfl) (by kernel_rfl) (by kernel_rfl) (fun _ _ _ h => h) (Or.inr ⟨by rfl, rfl⟩) (by assumption) ?_
                                      simp only [List.getElem_toArray, List.getElem_cons_succ, List.getElem_cons_zero, Act.put, List.setIfInBounds_toArray, List.set_cons_zero, List.set_cons_succ]
                                      refine wpAnyH_take (i := 16) (v := undef) rfl (by kernel_rfl) (by kernel_rfl) (by kernel_rfl) (fun _ _ _ h => h) (Or.inr ⟨by rfl, rfl⟩) (by assumption) ?_
                                      simp only [List.getElem_toArray, List.getElem_cons_succ, List.getElem_cons_zero, Act.put, List.setIfInBounds_toArray, List.set_cons_zero, List.set_cons_succ]
                                      refine wpAnyH_take (i := 17) (v := undef) rfl (by kernel_rfl) (by kernel_rfl) (by kernel_rfl) (fun _ _ _ h => h) (Or.inr ⟨by rfl, rfl⟩) (by assumption) ?_
                                      simp only [List.getElem_toArray, List.getElem_cons_succ, List.getElem_cons_zero, Act.put, List.setIfInBounds_toArray, List.set_cons_zero, List.set_cons_succ]
                                      refine wpAnyH_take (i := 18) (v := undef) rfl (by kernel_rfl) (by kernel_rfl) (by kernel_rfl) (fun _ _ _ h => h) (Or.inr ⟨by rfl, rfl⟩) (by assumption) ?_
                                      simp only [List.getElem_toArray, List.getElem_cons_succ, List.getElem_cons_zero, Act.put, List.setIfInBounds_toArray, List.set_cons_zero, List.set_cons_succ]
                                      refine wpAnyH_take (i := 19) (v := undef) rfl (by kernel_rfl) (by kernel_rfl) (by kernel_rfl) (fun _ _ _ h => h) (Or.inr ⟨by rfl, rfl⟩) (by assumption) ?_
                                      simp only [List.getElem_toArray, List.getElem_cons_succ, List.getElem_cons_zero, Act.put, List.setIfInBounds_toArray, List.set_cons_zero, List.set_cons_succ]
                                      refine wpAnyH_take (i := 20) (v := undef) rfl (by kernel_rfl) (by kernel_rfl) (by kernel_rfl) (fun _ _ _ h => h) (Or.inr ⟨by rfl, rfl⟩) (by assumption) ?_
                                      simp only [List.getElem_toArray, List.getElem_cons_succ, List.getElem_cons_zero, Act.put, List.setIfInBounds_toArray, List.set_cons_zero, List.set_cons_succ]
                                      refine wpAnyH_take (i := 21) (v := undef) rfl (by kernel_rfl) (by kernel_rfl) (by kernel_rfl) (fun _ _ _ h => h) (Or.inr ⟨by rfl, rfl⟩) (by assumption) ?_
                                      simp only [List.getElem_toArray, List.getElem_cons_succ, List.getElem_cons_zero, Act.put, List.setIfInBounds_toArray, List.set_cons_zero, List.set_cons_succ]
                                      refine wpAnyH_take (i := 22) (v := undef) rfl (by kernel_rfl) (by kernel_rfl) (by kernel_rfl) (fun _ _ _ h => h) (Or.inr ⟨by rfl, rfl⟩) (by assumption) ?_
                                      simp only [List.getElem_toArray, List.getElem_cons_succ, List.getElem_cons_zero, Act.put, List.setIfInBounds_toArray, List.set_cons_zero, List.set_cons_succ]
                                      refine wpAnyH_take (i := 23) (v := undef) rfl (by kernel_rfl) (by kernel_rfl) (by kernel_rfl) (fun _ _ _ h => h) (Or.inr ⟨by rfl, rfl⟩) (by assumption) ?_
                                      simp only [List.getElem_toArray, List.getElem_cons_succ, List.getElem_cons_zero, Act.put, List.setIfInBounds_toArray, List.set_cons_zero, List.set_cons_succ]
                                      refine wpAnyH_take (i := 24) (v := undef) rfl (by kernel_rfl) (by kernel_rfl) (by kernel_rfl) (fun _ _ _ h => h) (Or.inr ⟨by rfl, rfl⟩) (by assumption) ?_
                                      simp only [List.getElem_toArray, List.getElem_cons_succ, List.getElem_cons_zero, Act.put, List.setIfInBounds_toArray, List.set_cons_zero, List.set_cons_succ]
                                      refine wpAnyH_take (i := 25) (v := ?_) rfl (by kernel_rfl) (by kernel_rfl) (by kernel_rfl) (fun _ _ _ h => h) (Or.inl ⟨by rfl, ?_⟩) (by assumption) ?_
                                      rotate_left
                                      · intro W hW
                                        go_simp
                                        try rfl
                                      simp only [List.getElem_toArray, List.getElem_cons_succ, List.getElem_cons_zero, Act.put, List.setIfInBounds_toArray, List.set_cons_zero, List.set_cons_succ]
                                      refine wpAnyH_done (by kernel_rfl) ?_ _
                                      refine NoPanic.normal ?_
                                      clear hHeld
                                      go_wp2_with fail
                                      go_ret
                                      exact HX.out
                                    · have HNX := hid (fun (h : p ∉ ps.take k) => (show (∀ p ∈ ps.take (k + 1), 18 ≤ p ∧ p ≤ 255) ∧ (ps.take (k + 1)).Nodup by
                                        rw [HTK.out.1]
                                        refine ⟨fun y hy => ?_, nodup_snoc.2 ⟨HST.out.2, h⟩⟩
                                        rcases List.mem_append.1 hy with hy | hy
                                        · exact HST.out.1 y hy
                                        · rw [List.mem_singleton] at hy
                                          omega))
                                      have HXX := hid (fun (h : p ∈ ps.take k) => HF.out _ HBQ.out.drew (fun h2 => by
                                        have h3 : (ps.take (k + 1)).Nodup := (HR.out.1 h2).2.2.2.2.sublist (List.take_sublist _ _)
                                        rw [HTK.out.1] at h3
                                        exact (nodup_snoc.1 h3).2 h))
                                      go_upto_region 10 with fail
                                      refine wp_region_noPanic ?_
                                      refine wp_region_held_drew (S := (fun W => W.cell? ⟨w.heap.size, 3, none⟩ = some (.slice (some ad) n c) ∧ W.cell? (ad.add k) = some (.int .i64 p))) (by kernel_rfl) ⟨x3, cx⟩ (fun hHeld => ?_)
                                      refine wpAnyH_take (i := 0) (v := ?_) rfl (by kernel_rfl) (by kernel_rfl) (by kernel_rfl) (fun _ _ _ h => h) (Or.inl ⟨by rfl, ?_⟩) (by assumption) ?_
                                      rotate_left
                                      · intro W hW
                                        obtain ⟨z3, zx⟩ := hW
                                        go_simp
                                        try rfl
                                      simp only [List.getElem_toArray, List.getElem_cons_zero, Act.put, List.setIfInBounds_toArray, List.set_cons_zero, List.set_cons_succ]
                                      refine wpAnyH_take (i := 1) (v := ?_) rfl (by kernel_rfl) (by kernel_rfl) (by kernel_rfl) (fun _ _ _ h => h) (Or.inl ⟨by rfl, ?_⟩) (by assumption) ?_
                                      rotate_left
                                      · intro W hW
                                        obtain ⟨z3, zx⟩ := hW
                                        go_simp
                                        try rfl
                                      simp only [List.getElem_toArray, List.getElem_cons_succ, List.getElem_cons_zero, Act.put, List.setIfInBounds_toArray, List.set_cons_zero, List.set_cons_succ]
                                      refine wpAnyH_take (i := 2) (v := ?_) rfl (by kernel_rfl) (by kernel_rfl) (by kernel_rfl) (fun _ _ _ h => h) (Or.inl ⟨by rfl, ?_⟩) (by assumption) ?_
                                      rotate_left
                                      · intro W hW
                                        obtain ⟨z3, zx⟩ := hW
                                        go_simp
                                        try rfl
                                      simp only [List.getElem_toArray, List.getElem_cons_succ, List.getElem_cons_zero, Act.put, List.setIfInBounds_toArray, List.set_cons_zero, List.set_cons_succ]
                                      refine wpAnyH_take (i := 3) (v := ?_) rfl (by kernel_rfl) (by kernel_rfl) (by kernel_rfl) (fun _ _ _ h => h) (Or.inl ⟨by rfl, ?_⟩) (by assumption) ?_
                                      rotate_left
                                      · intro W hW
                                        obtain ⟨z3, zx⟩ := hW
                                        go_simp
                                        try rfl
                                      simp only [List.getElem_toArray, List.getElem_cons_succ, List.getElem_cons_zero, Act.put, List.setIfInBounds_toArray, List.set_cons_zero, List.set_cons_succ]
                                      refine wpAnyH_take (i := 4) (v := ?_) rfl (by kernel_rfl) (by kernel_rfl) (by kernel_rfl) (fun _ _ _ h => h) (Or.inl ⟨by rfl, ?_⟩) (by assumption) ?_
                                      rotate_left
                                      · intro W hW
                                        obtain ⟨z3, zx⟩ := hW
                                        go_simp
                                        try rfl
                                      simp only [List.getElem_toArray, List.getElem_cons_succ, List.getElem_cons_zero, Act.put, List.setIfInBounds_toArray, List.set_cons_zero, List.set_cons_succ]
                                      refine wpAnyH_take (i := 5) (v := ?_) rfl (by kernel_rfl) (by kernel_rfl) (by kernel_rfl) (fun _ _ _ h => h) (Or.inl ⟨by rfl, ?_⟩) (by assumption) ?_
                                      rotate_left
                                      · intro W hW
                                        obtain ⟨z3, zx⟩ := hW
                                        go_simp
                                        try rfl
                                      simp only [List.getElem_toArray, List.getElem_cons_succ, List.getElem_cons_zero, Act.put, List.setIfInBounds_toArray, List.set_cons_zero, List.set_cons_succ]
                                      refine wpAnyH_take (i := 6) (v := ?_) rfl (by kernel_rfl) (by kernel_rfl) (by kernel_rfl) (fun _ _ _ h => h) (Or.inl ⟨by rfl, ?_⟩) (by assumption) ?_
                                      rotate_left
                                      · intro W hW
                                        obtain ⟨z3, zx⟩ := hW
                                        go_simp
                                        try rfl
                                      simp only [List.getElem_toArray, List.getElem_cons_succ, List.getElem_cons_zero, Act.put, List.setIfInBounds_toArray, List.set_cons_zero, List.set_cons_succ]
                                      refine wpAnyH_take (i := 7) (v := ?_) rfl (by kernel_rfl) (by kernel_rfl) (by kernel_rfl) (fun _ _ _ h => h) (Or.inl ⟨by rfl, ?_⟩) (by assumption) ?_
                                      rotate_left
                                      · intro W hW
                                        obtain ⟨z3, zx⟩ := hW
                                        go_simp
                                        try rfl
                                      simp only [List.getElem_toArray, List.getElem_cons_succ, List.getElem_cons_zero, Act.put, List.setIfInBounds_toArray, List.set_cons_zero, List.set_cons_succ]
                                      refine wpAnyH_take (i := 8) (v := ?_) rfl (by kernel_rfl) (by kernel_rfl) (by kernel_rfl) (fun _ _ _ h => h) (Or.inl ⟨by rfl, ?_⟩) (by assumption) ?_
                                      rotate_left
                                      · intro W hW
                                        obtain ⟨z3, zx⟩ := hW
                                        go_simp
                                        try rfl
                                      simp only [List.getElem_toArray, List.getElem_cons_succ, List.getElem_cons_zero, Act.put, List.setIfInBounds_toArray, List.set_cons_zero, List.set_cons_succ]
                                      refine wpAnyH_take (i := 9) (v := ?_) rfl (by kernel_rfl) (by kernel_rfl) (by kernel_rfl) (fun _ _ _ h => h) (Or.inl ⟨by rfl, ?_⟩) (by assumption) ?_
                                      rotate_left
                                      · intro W hW
                                        obtain ⟨z3, zx⟩ := hW
                                        go_simp
                                        try rfl
                                      simp only [List.getElem_toArray, List.getElem_cons_succ, List.getElem_cons_zero, Act.put, List.setIfInBounds_toArray, List.set_cons_zero, List.set_cons_succ]
                                      refine wpAnyH_take (i := 10) (v := ?_) rfl (by kernel_rfl) (by kernel_rfl) (by kernel_rfl) (fun _ _ _ h => h) (Or.inl ⟨by rfl, ?_⟩) (by assumption) ?_
                                      rotate_left
                                      · intro W hW
                                        obtain ⟨z3, zx⟩ := hW
                                        go_simp
                                        try rfl
                                      simp only [List.getElem_toArray, List.getElem_cons_succ, List.getElem_cons_zero, Act.put, List.setIfInBounds_toArray, List.set_cons_zero, List.set_cons_succ]
                                      refine wpAnyH_take (i := 11) (v := ?_) rfl (by kernel_rfl) (by kernel_rfl) (by kernel_rfl) (fun _ _ _ h => h) (Or.inl ⟨by rfl, ?_⟩) (by assumption) ?_
                                      rotate_left
                                      · intro W hW
                                        obtain ⟨z3, zx⟩ := hW
                                        go_simp
                                        try rfl
                                      simp only [List.getElem_toArray, List.getElem_cons_succ, List.getElem_cons_zero, Act.put, List.setIfInBounds_toArray, List.set_cons_zero, List.set_cons_succ]
                                      refine wpAnyH_take (i := 12) (v := ?_) rfl (by kernel_rfl) (by kernel_rfl) (by kernel_rfl) (fun _ _ _ h => h) (Or.inl ⟨by rfl, ?_⟩) (by assumption) ?_
                                      rotate_left
                                      · intro W hW
                                        obtain ⟨z3, zx⟩ := hW
                                        go_simp
                                        try rfl
                                      simp only [List.getElem_toArray, List.getElem_cons_succ, List.getElem_cons_zero, Act.put, List.setIfInBounds_toArray, List.set_cons_zero, List.set_cons_succ]
                                      refine wpAnyH_take (i := 13) (v := ?_) rfl (by kernel_rfl) (by kernel_rfl) (by kernel_rfl) (fun _ _ _ h => h) (Or.inl ⟨by rfl, ?_⟩) (by assumption) ?_
                                      rotate_left
                                      · intro W hW
                                        obtain ⟨z3, zx⟩ := hW
                                        go_simp
                                        try rfl
                                      simp only [List.getElem_toArray, List.getElem_cons_succ, List.getElem_cons_zero, Act.put, List.setIfInBounds_toArray, List.set_cons_zero, List.set_cons_succ]
                                      refine wpAnyH_take (i := 14) (v := ?_) rfl (by kernel_rfl) (by kernel_rfl) (by kernel_rfl) (fun _ _ _ h => h) (Or.inl ⟨by rfl, ?_⟩) (by assumption) ?_
                                      rotate_left
                                      · intro W hW
                                        obtain ⟨z3, zx⟩ := hW
                                        go_simp
                                        try rfl
                                      simp only [List.getElem_toArray, List.getElem_cons_succ, List.getElem_cons_zero, Act.put, List.setIfInBounds_toArray, List.set_cons_zero, List.set_cons_succ]
                                      refine wpAnyH_take (i := 15) (v := ?_) rfl (by kernel_rfl) (by kernel_rfl) (by kernel_rfl) (fun _ _ _ h => h) (Or.inl ⟨by rfl, ?_⟩) (by assumption) ?_
                                      rotate_left
                                      · intro W hW
                                        obtain ⟨z3, zx⟩ := hW
                                        go_simp
                                        try rfl
                                      simp only [List.getElem_toArray, List.getElem_cons_succ, List.getElem_cons_zero, Act.put, List.setIfInBounds_toArray, List.set_cons_zero, List.set_cons_succ]
                                      refine wpAnyH_take (i := 16) (v := ?_) rfl (by kernel_rfl) (by kernel_rfl) (by kernel_rfl) (fun _ _ _ h => h) (Or.inl ⟨by rfl, ?_⟩) (by assumption) ?_
                                      rotate_left
                                      · intro W hW
                                        obtain ⟨z3, zx⟩ := hW
                                        go_simp
                                        try rfl
                                      simp only [List.getElem_toArray, List.getElem_cons_succ, List.getElem_cons_zero, Act.put, List.setIfInBounds_toArray, List.set_cons_zero, List.set_cons_succ]
                                      refine wpAnyH_take (i := 17) (v := ?_) rfl (by kernel_rfl) (by kernel_rfl) (by kernel_rfl) (fun _ _ _ h => h) (Or.inl ⟨by rfl, ?_⟩) (by assumption) ?_
                                      rotate_left
                                      · intro W hW
                                        obtain ⟨z3, zx⟩ := hW
                                        go_simp
                                        try rfl
                                      simp only [List.getElem_toArray, List.getElem_cons_succ, List.getElem_cons_zero, Act.put, List.setIfInBounds_toArray, List.set_cons_zero, List.set_cons_succ]
                                      refine wpAnyH_take (i := 18) (v := ?_) rfl (by kernel_rfl) (by kernel_rfl) (by kernel_rfl) (fun _ _ _ h => h) (Or.inl ⟨by rfl, ?_⟩) (by assumption) ?_
                                      rotate_left
                                      · intro W hW
                                        obtain ⟨z3, zx⟩ := hW
                                        go_simp
                                        try rfl
                                      simp only [List.getElem_toArray, List.getElem_cons_succ, List.getElem_cons_zero, Act.put, List.setIfInBounds_toArray, List.set_cons_zero, List.set_cons_succ]
                                      refine wpAnyH_take (i := 19) (v := ?_) rfl (by kernel_rfl) (by kernel_rfl) (by kernel_rfl) (fun _ _ _ h => h) (Or.inl ⟨by rfl, ?_⟩) (by assumption) ?_
                                      rotate_left
                                      · intro W hW
                                        obtain ⟨z3, zx⟩ := hW
                                        go_simp
                                        try rfl
                                      simp only [List.getElem_toArray, List.getElem_cons_succ, List.getElem_cons_zero, Act.put, List.setIfInBounds_toArray, List.set_cons_zero, List.set_cons_succ]
                                      refine wpAnyH_take (i := 20) (v := ?_) rfl (by kernel_rfl) (by kernel_rfl) (by kernel_rfl) (fun _ _ _ h => h) (Or.inl ⟨by rfl, ?_⟩) (by assumption) ?_
                                      rotate_left
                                      · intro W hW
                                        obtain ⟨z3, zx⟩ := hW
                                        go_simp
                                        try rfl
                                      simp only [List.getElem_toArray, List.getElem_cons_succ, List.getElem_cons_zero, Act.put, List.setIfInBounds_toArray, List.set_cons_zero, List.set_cons_succ]
                                      refine wpAnyH_take (i := 21) (v := ?_) rfl (by kernel_rfl) (by kernel_rfl) (by kernel_rfl) (fun _ _ _ h => h) (Or.inl ⟨by rfl, ?_⟩) (by assumption) ?_
                                      rotate_left
                                      · intro W hW
                                        obtain ⟨z3, zx⟩ := hW
                                        go_simp
                                        try rfl
                                      simp only [List.getElem_toArray, List.getElem_cons_succ, List.getElem_cons_zero, Act.put, List.setIfInBounds_toArray, List.set_cons_zero, List.set_cons_succ]
                                      refine wpAnyH_take (i := 22) (v := ?_) rfl (by kernel_rfl) (by kernel_rfl) (by kernel_rfl) (fun _ _ _ h => h) (Or.inl ⟨by rfl, ?_⟩) (by assumption) ?_
                                      rotate_left
                                      · intro W hW
                                        obtain ⟨z3, zx⟩ := hW
                                        go_simp
                                        try rfl
                                      simp only [List.getElem_toArray, List.getElem_cons_succ, List.getElem_cons_zero, Act.put, List.setIfInBounds_toArray, List.set_cons_zero, List.set_cons_succ]
                                      refine wpAnyH_take (i := 23) (v := ?_) rfl (by kernel_rfl) (by kernel_rfl) (by kernel_rfl) (fun _ _ _ h => h) (Or.inl ⟨by rfl, ?_⟩) (by assumption) ?_
                                      rotate_left
                                      · intro W hW
                                        obtain ⟨z3, zx⟩ := hW
                                        go_simp
                                        try rfl
                                      simp only [List.getElem_toArray, List.getElem_cons_succ, List.getElem_cons_zero, Act.put, List.setIfInBounds_toArray, List.set_cons_zero, List.set_cons_succ]
                                      refine wpAnyH_ready (rs := [24]) (by kernel_rfl) (by simp) ?_
                                      refine AllReadyH.cons rfl (fun K hK => ?_) AllReadyH.nil
                                      go_simp
                                      refine (HHAS.out _ hWq).mono ?_
                                      rintro d w2 ⟨rfl, rfl⟩
                                      refine hK.out _ _ ⟨x3, cx⟩ (fun hHeld => ?_)
                                      clear hK K
                                      try simp only [List.getElem_toArray, List.getElem_cons_succ, List.getElem_cons_zero, Act.put, List.setIfInBounds_toArray, List.set_cons_zero, List.set_cons_succ]
                                      refine wpAnyH_take (i := 25) (v := ?_) rfl (by kernel_rfl) (by kernel_rfl) (by kernel_rfl) (fun _ _ _ h => h) (Or.inl ⟨by rfl, ?_⟩) (by assumption) ?_
                                      rotate_left
                                      · intro W hW
                                        go_simp
                                        try rfl
                                      simp only [List.getElem_toArray, List.getElem_cons_succ, List.getElem_cons_zero, Act.put, List.setIfInBounds_toArray, List.set_cons_zero, List.set_cons_succ]
                                      refine wpAnyH_done (by kernel_rfl) ?_ _
                                      refine NoPanic.normal ?_
                                      clear hHeld
                                      cases bh with
                                      | true =>
                                        have HX := hid (HXX.out (by simpa using HBH.out.symm))
                                        clear HBH
                                        go_wp2_with fail
                                        go_ret
                                        exact HX.out
                                      | false =>
                                        have HX := hid (HNX.out (by simpa using HBH.out.symm))
                                        clear HBH
                                        go_wp2_with fail
                                        go_roundw
                                        case rel => exact ⟨k + 1, by omega, by go_num, ⟨q + 1, rfl⟩, HX⟩
                                        case measure => simp [intOf]; omega
                                · obtain rfl : k = n := by omega
                                  have HX := hid (HT.out _ (below_dn HB.out q) (HALL.out (by
                                    have h := hst.out
                                    rwa [List.take_of_length_le (by rw [← HNL.out]; exact Nat.le_refl _)] at h)))
                                  have x3 : (w1.drewN q).cell? ⟨w.heap.size, 3, none⟩ = some (.slice A k c) := (K.out.drewN q).cell 3
                                  clear hlt hst
                                  go_wp2_with fail
                                  go_ret
                                  exact HX.out
                  · have r3 : (b1 == b2) = false := by simp [hq]
                    have HX := hid (HF.out _ HB.out (fun h => hq (HBB.out.2 (HR.out.1 h).2.1.2.2.2)))
                    rw [hw1] at HX
                    clear hq HBB
                    go_wp2_with fail
                    go_ret
                    exact HX.out
end Go.Proofs.Ytgdnpmjmkcccoaa
