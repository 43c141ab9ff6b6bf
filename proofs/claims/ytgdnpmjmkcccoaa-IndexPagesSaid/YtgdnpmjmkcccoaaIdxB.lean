/- Contracts of index: checked.is (seats Index, Manifest); under way. -/
import Derived.Test.YtgdnpmjmkcccoaaIdxA
import Derived.Lib.Walk
import Derived.Deep.Cut
import Derived.Deep.QuietTactic
import Derived.BigQuiet
namespace Go.Proofs.Ytgdnpmjmkcccoaa
open Go.RowKit Go.Shelf
open Go.Lib (hid)
set_option linter.unusedVariables false
set_option linter.unusedSimpArgs false
/-- what is wrong with an entry's times and count, its length being lg (as it is reckoned: it may have wrapped) -/
def wrongT (fs ls ct lg : Int) : Prop := fs < 0 ∨ 281474976710656 < ls ∨ lg < 0 ∨ ct < 1 ∨ 256 < ct ∨ lg < ct - 1 ∨ ¬ (lg = 0 ↔ ct = 1)
instance (fs ls ct lg : Int) : Decidable (wrongT fs ls ct lg) := by unfold wrongT; infer_instance
/-- what is wrong with its bytes and the number of its pages -/
def wrongP (n : Nat) (by_ : Int) : Prop := n = 0 ∨ 256 < n ∨ by_ ≤ 120 * ((n : Int) - 1) ∨ 120 * (n : Int) < by_
instance (n : Nat) (by_ : Int) : Decidable (wrongP n by_) := by unfold wrongP; infer_instance
def pagesB : List Int → List Int → Bool
  | [], _ => true
  | p :: ps, L => markB p L && pagesB ps (p :: L)
def isB (fs ls ct by_ : Int) (ps : List Int) (L : List Int) : Bool := decide (¬ wrongT fs ls ct (IntKind.i64.wrap (ls - fs))) && (decide (¬ wrongP ps.length by_) && pagesB ps L)
def RetIs (b : Bool) (ps : List Int) (L : List Int) (r : Nat) (w : World) (e : Ending) (w' : World) : Prop := e = .returned (.bool b) ∧ But r w w' ∧ ∃ L', MetAt w' r L' ∧ (b = true → L' = ps.reverse ++ L)
theorem Reads.met {w w' : World} {r n size : Nat} {A : Option Addr} {e : TypeId} {xs : List Value} {L : List Int} (h : Reads w e size A n xs) (hb : But r w w') (hm : MetAt w r L) : Reads w' e size A n xs :=
  h.keep fun b ht => hb.block b ht.lt (by
    obtain ⟨cs, fr, h1⟩ := ht
    obtain ⟨es, clock, M, h2, _⟩ := hm
    rintro rfl
    rw [h1] at h2
    cases h2)
set_option maxRecDepth 100000 in
set_option maxHeartbeats 4000000 in
theorem is_c {e1 : TypeId} {w : World} {g r : Nat} {fs ls ct by_ : Int} {A : Option Addr} {n c : Nat} {L ps : List Int} (kc : Blk w g 139 (ckC fs ls ct A n c by_ r)) (hm : MetAt w r L) (hp : Reads w e1 1 A n (ps.map (Value.int .i64))) (hL : L.length ≤ 900000) (hn : n ≤ 100000) :
    Calls Try.prog 102 #[.pointer (some ⟨g, 0, none⟩)] w (RetIs (isB fs ls ct by_ ps L) ps L r w) := by
  have hpl : ps.length = n := by have := hp.1; simpa using this
  obtain ⟨lg, hlg⟩ : ∃ lg, lg = IntKind.i64.wrap (ls - fs) := ⟨_, rfl⟩
  obtain ⟨b, hb⟩ : ∃ b, b = isB fs ls ct by_ ps L := ⟨_, rfl⟩
  rw [← hb]
  unfold isB at hb
  rw [← hlg, hpl] at hb
  have c0 : w.cell? ⟨g, 0, none⟩ = some (.int .i64 fs) := kc.cell 0
  have c1 : w.cell? ⟨g, 1, none⟩ = some (.int .i64 ls) := kc.cell 1
  have c2 : w.cell? ⟨g, 2, none⟩ = some (.int .i64 ct) := kc.cell 2
  have c3 : w.cell? ⟨g, 3, none⟩ = some (.slice A n c) := kc.cell 3
  have c4 : w.cell? ⟨g, 4, none⟩ = some (.int .i64 by_) := kc.cell 4
  have HK := hid kc
  have HM := hid hm
  have HP := hid hp
  have HBE := hid hb
  have HLN := hid (And.intro hL hpl)
  have hlg' : IntKind.i64.wrap (ls - fs) = lg := hlg.symm
  clear kc hm hp hb hL hpl hlg
  go_enter Try.func102, Try.ntmps102
  go_wp2_with fail
  go_region_held3 (fun w' => w'.cell? ⟨g, 0, none⟩ = some (.int .i64 fs) ∧ w'.cell? ⟨g, 1, none⟩ = some (.int .i64 ls)) (exact ⟨c0, c1⟩) (fail)
  clear hlg'
  by_cases hT : wrongT fs ls ct lg
  · have HF := hid (show RetIs b ps L r w (.returned (.bool false)) w.drew by
      have e : b = false := by rw [HBE.out, decide_eq_false (fun h => h hT)]; rfl
      rw [e]
      exact ⟨rfl, (But.refl _ _).drew, L, HM.out.keep rfl, fun h => by cases h⟩)
    have HT := hid hT
    clear hT
    go_upto_region 4 with fail
    all_goals first | (go_ret; exact HF.out) | skip
    have a1 : 0 ≤ fs := by assumption
    have a2 : ls ≤ 281474976710656 := by assumption
    have a3 : 0 ≤ lg := by assumption
    have a4 : 1 ≤ ct := by assumption
    have a5 : ct ≤ 256 := by assumption
    have a6 : ct - 1 ≤ lg := by assumption
    have hq : ((((((0 ≤ fs ∧ ls ≤ 281474976710656) ∧ 0 ≤ lg) ∧ 1 ≤ ct) ∧ ct ≤ 256) ∧ ct - 1 ≤ lg) ∧ (!(lg == 0) == (ct == 1)) = false) := by assumption
    have hq2 := hq.2
    refine absurd HT.out ?_
    rintro (h | h | h | h | h | h | h)
    · omega
    · omega
    · omega
    · omega
    · omega
    · omega
    · apply h
      by_cases x : lg = 0 <;> by_cases y : ct = 1 <;> simp [x, y] at hq2 ⊢
  · have a1 : ¬ fs < 0 := fun h => hT (.inl h)
    have a2 : ¬ 281474976710656 < ls := fun h => hT (.inr (.inl h))
    have a3 : ¬ lg < 0 := fun h => hT (.inr (.inr (.inl h)))
    have a4 : ¬ ct < 1 := fun h => hT (.inr (.inr (.inr (.inl h))))
    have a5 : ¬ 256 < ct := fun h => hT (.inr (.inr (.inr (.inr (.inl h)))))
    have a6 : ¬ lg < ct - 1 := fun h => hT (.inr (.inr (.inr (.inr (.inr (.inl h))))))
    have a7 : (!(lg == 0) == (ct == 1)) = false := by
      have h7 : lg = 0 ↔ ct = 1 := by
        rcases Classical.em (lg = 0 ↔ ct = 1) with h | h
        · exact h
        · exact absurd (.inr (.inr (.inr (.inr (.inr (.inr h)))))) hT
      by_cases x : lg = 0
      · simp [x, h7.1 x]
      · have y : ¬ ct = 1 := fun h => x (h7.2 h)
        rw [beq_eq_false_iff_ne.2 x, beq_eq_false_iff_ne.2 y]; rfl
    have hw1 : wrap64 (ct - 1) = ct - 1 := by unfold wrap64; omega
    have HT := hid hT
    clear hT
    go_upto_region 4 with fail
    clear a1 a2 a3 a4 a5 a6 a7 hw1
    have hw2 : wrap64 ((n : Int) - 1) = (n : Int) - 1 := by unfold wrap64; omega
    have hw3 : wrap64 (120 * ((n : Int) - 1)) = 120 * ((n : Int) - 1) := by unfold wrap64; omega
    have hw4 : wrap64 (120 * (n : Int)) = 120 * (n : Int) := by unfold wrap64; omega
    by_cases hQ : wrongP n by_
    · have HF := hid (show RetIs b ps L r w (.returned (.bool false)) w.drew by
        have e : b = false := by rw [HBE.out, decide_eq_false (fun h : ¬ wrongP n by_ => h hQ), Bool.false_and, Bool.and_false]
        rw [e]
        exact ⟨rfl, (But.refl _ _).drew, L, HM.out.keep rfl, fun h => by cases h⟩)
      have HQ := hid hQ
      clear hQ
      go_upto_region 7 with fail
      all_goals first | (go_ret; exact HF.out) | skip
      have b1 : ¬ n = 0 := by assumption
      have b2 : (n : Int) ≤ 256 := by assumption
      have b3 : 120 * ((n : Int) - 1) < by_ := by assumption
      have b4 := (show (((((n : Int) == 0) = false ∧ (n : Int) ≤ 256) ∧ 120 * ((n : Int) - 1) < by_) ∧ by_ ≤ 120 * (n : Int)) by assumption).2
      refine absurd HQ.out ?_
      rintro (h | h | h | h) <;> omega
    · have a1 : ((n : Int) == 0) = false := beq_eq_false_iff_ne.2 fun h => hQ (.inl (by omega))
      have a2 : ¬ (256 : Int) < n := fun h => hQ (.inr (.inl (by omega)))
      have a3 : ¬ by_ ≤ 120 * ((n : Int) - 1) := fun h => hQ (.inr (.inr (.inl h)))
      have a4 : ¬ 120 * (n : Int) < by_ := fun h => hQ (.inr (.inr (.inr h)))
      have HB := hid (show b = pagesB ps L by rw [HBE.out, decide_eq_true HT.out, decide_eq_true hQ]; rfl)
      clear hQ HBE
      go_upto_region 7 with fail
      clear a1 a2 a3 a4 hw2 hw3 hw4
      have hmf : ∀ (fn : Fn) (first cap : Array Value) (w : World), (Instr.makeFunc fn first cap).run Try.prog w = .ok (.func fn first cap) w := fun _ _ _ _ => rfl
      have hcf : ∀ (args : Array Value) (w : World), Sem.run Try.prog (callFunc 134 args) w = .ok (.enter 134 args) w := fun _ _ => rfl
      have hn0 : (0 : Int) ≤ n := by omega
      go_wp2_with fail
      go_loopw [115] (fun v wr => ∃ k : Nat, k ≤ n ∧ v = .int .i64 (k : Nat) ∧ But r w wr ∧ MetAt wr r ((ps.take k).reverse ++ L) ∧ b = pagesB (ps.drop k) ((ps.take k).reverse ++ L)) (fun v _ => n - (intOf v).toNat)
      case atStart => exact ⟨0, Nat.zero_le _, rfl, (But.refl _ _).drew, HM.out.keep rfl, HB.out⟩
      case round =>
        obtain ⟨k, hk, rfl, hbt, hmt, hbe⟩ := hrel
        have HK2 := hid (HK.out.but hbt (map_ne HK.out HM.out))
        have HP2 := hid (HP.out.met hbt HM.out)
        by_cases hlt : k < n
        · obtain ⟨ad, x, rfl, hx, cx⟩ := HP2.out.at_ hlt
          have hlt2 : k < ps.length := by rw [HLN.out.2]; exact hlt
          obtain ⟨pv, hpv⟩ : ∃ pv, pv = ps[k] := ⟨_, rfl⟩
          rw [List.getElem?_map, List.getElem?_eq_getElem hlt2] at hx
          cases hx
          rw [← hpv] at cx
          have hdr : ps.drop k = pv :: ps.drop (k + 1) := by rw [hpv]; exact List.drop_eq_getElem_cons hlt2
          have htk : (ps.take (k + 1)).reverse ++ L = pv :: ((ps.take k).reverse ++ L) := by
            rw [hpv, List.take_succ_eq_append_getElem hlt2, List.reverse_append]; rfl
          rw [hdr] at hbe
          have HE := hid hbe
          have HTK := hid htk
          have HC := hid (mark_c pv HK2.out hmt (by simp only [List.length_append, List.length_reverse, List.length_take]; have := HLN.out.1; omega))
          have HBT := hid hbt
          have hltI : (k : Int) < (n : Int) := by omega
          have h0I : (0 : Int) ≤ (k : Int) := by omega
          clear hpv hlt2 hdr htk hbe hmt hbt
          cases hmk : markB pv ((ps.take k).reverse ++ L) with
          | false =>
            have HN := hid hmk
            clear hmk
            go_wp2_with (go_at_call 134; refine HC.out.mono ?_; rintro e w2 ⟨rfl, hb2, hm2⟩; rw [HN.out])
            have hb2 : But r wr w2 := by assumption
            have hm2 : MetAt w2 r (pv :: ((ps.take k).reverse ++ L)) := by assumption
            have HF := hid (show RetIs b ps L r w (.returned (.bool false)) w2 from ⟨by rw [HE.out]; unfold pagesB; rw [HN.out]; rfl, HBT.out.trans hb2, _, hm2, fun h => by rw [HE.out] at h; unfold pagesB at h; rw [HN.out] at h; cases h⟩)
            go_ret
            exact HF.out
          | true =>
            have HN := hid hmk
            clear hmk
            go_wp2_with (go_at_call 134; refine HC.out.mono ?_; rintro e w2 ⟨rfl, hb2, hm2⟩; rw [HN.out])
            have hb2 : But r wr w2 := by assumption
            have hm2 : MetAt w2 r (pv :: ((ps.take k).reverse ++ L)) := by assumption
            go_roundw
            case rel => exact ⟨k + 1, by omega, by go_num, HBT.out.trans hb2, (by rw [HTK.out]; exact hm2), (by rw [HTK.out, HE.out, pagesB, HN.out, Bool.true_and])⟩
            case measure => simp [intOf]; omega
        · obtain rfl : k = n := by omega
          have hbt2 : b = true := by
            rw [hbe, List.drop_of_length_le (by rw [HLN.out.2]; exact Nat.le_refl _)]; rfl
          have HF := hid (show RetIs b ps L r w (.returned (.bool true)) wr from ⟨by rw [hbt2], hbt, _, hmt, fun _ => by rw [List.take_of_length_le (by rw [HLN.out.2]; exact Nat.le_refl _)]⟩)
          clear hbe hmt hbt hbt2 hlt
          go_wp2_with fail
          go_ret
          exact HF.out
end Go.Proofs.Ytgdnpmjmkcccoaa
