/- Memory words, third part: make with a length below the capacity; copy into the head of a block of the call's own. (run_make_rowN began as the kit's page of small lemmas, 6, meant for copying.) -/
import Derived.Test.YtgdnpmjmkcccoaaMemB
import Derived.Laws.MakeOwn
import Derived.Laws.Entries
import Derived.Laws.CopyOwn
namespace Go.Proofs.Ytgdnpmjmkcccoaa
open Go.RowKit
set_option linter.unusedVariables false
theorem run_make_rowN {P : Program} (t e : TypeId) (i : TypeInfo) (z : Value) (ht : P.underlying t = some (.slice e)) (hi : P.info? e = some i) (hz : i.zero = some z)
    (kl kc : IntKind) (n c : Nat) (hnc : n ≤ c) (hbytes : i.bytes * c ≤ 281474976710656) (h63 : c ≤ 9223372036854775807) (w : World) :
    (Instr.makeSlice t (.int kl (n : Int)) (.int kc (c : Int))).run P w = .ok (.slice (some ⟨w.heap.size, 0, none⟩) n c) (w.alloc (.cells (madeCells z.cells (c * i.size)) e)) := by
  have hb : (i.bytes : Int) * (c : Int) ≤ 281474976710656 := by
    have h : ((i.bytes * c : Nat) : Int) ≤ 281474976710656 := by omega
    rwa [Int.natCast_mul] at h
  have hr := run_make (P := P) w t e i z ht hi hz kl kc n c (by omega) (by omega) hb (by omega)
  simp only [Int.toNat_natCast] at hr
  exact hr
/-- 'make([]T, n, c)': a new block of c cells -/
theorem wpList_make_len {P : Program} {w : World} {ops : Array Oper} {rest : List Oper} {o : Oper} {a : Act} {Q : Exit → Act → World → Prop}
    (hg : o.guard = none) (l c : Operand) (t : TypeId) (hop : o.op = Op.makeSlice t l c)
    (e : TypeId) (z : Value) (bytes : Nat) (h1 : P.underlying t = some (.slice e)) (hi : (P.info? e).map (fun i => (i.zero, i.size, i.bytes)) = some (some z, 1, bytes))
    (kl kc : IntKind) (n m : Nat) (L C : Int) (hl : a.eval l = .int kl L) (hc : a.eval c = .int kc C) (hL : L = (n : Int)) (hC : C = (m : Int)) (hnm : n ≤ m) (b2 : bytes * m ≤ 281474976710656) (b3 : m ≤ 9223372036854775807)
    (hK : ∀ cur : List Value, cur.length = m → wpList P ops Q rest (a.put o.dst (.slice (some ⟨w.heap.size, 0, none⟩) n m)) (w.alloc (.cells cur.toArray e))) :
    wpList P ops Q (o :: rest) a w := by
  obtain ⟨i, hi0, hz0, hz1, hz2⟩ := info_parts hi
  refine wpList_plain hg fun K hK' => ?_
  subst hL hC
  have hrun := run_make_rowN t e i z h1 hi0 hz0 kl kc n m hnm (by rw [hz2]; exact b2) b3 w
  unfold Oper.wp
  simp [execOp, hop, hl, hc, hrun, Result.andThen]
  have := hK (madeCells z.cells (m * i.size)).toList (by rw [Array.length_toList, size_madeCells, hz1, Nat.mul_one])
  rw [Array.toArray_toList] at this
  exact hK' _ _ this
/-- copy of a whole row into the head of a block of the call's own -/
theorem wpList_copy_head {P : Program} {w : World} {ops : Array Oper} {rest : List Oper} {o : Oper} {a : Act} {Q : Exit → Act → World → Prop} (hgd : o.guard = none) (d s : Operand) (dT sT : TypeId)
    (ho : o.op = .call { callee := .builtin .copy, args := #[d, s], argTypes := #[dT, sT] }) (e : TypeId) (hu : P.underlying dT = some (.slice e)) (hsz : (P.info? e).map (·.size) = some 1)
    (g n c : Nat) (A : Option Addr) (sCap : Nat) (hd : a.eval d = .slice (some ⟨g, 0, none⟩) n c) (hs : a.eval s = .slice A n sCap)
    (cur : List Value) (hg : w.heap[g]? = some (.cells cur.toArray e (0, 0))) (hcl : cur.length = c) (hnc : n ≤ c) (hcm : c ≤ maxLen) (base : Nat) (hbase : base ≤ g) (xs : List Value) (hr : Reads w e 1 A n xs) (h1 : ∀ v ∈ xs, v.oneCell' = true)
    (h : ∀ w', w'.ownsRow base e 1 (.slice (some ⟨g, 0, none⟩) n c) n xs → w.grownBy w' (some g) → wpList P ops Q rest (a.put o.dst (goInt n)) w') :
    wpList P ops Q (o :: rest) a w := by
  have hl : xs.length = n := by simpa using hr.1
  by_cases h0 : n = 0
  · subst h0
    obtain rfl : xs = [] := List.eq_nil_of_length_eq_zero hl
    refine wpList_copy_nothing hgd d s dT sT ho e hu hsz _ A 0 c 0 sCap hd hs rfl ?_
    exact h w ⟨rfl, .inr ⟨g, c, cur.toArray, rfl, hbase, hg, hnc, hcm, by simpa using hcl, by simp⟩⟩ (World.grownBy.refl w _)
  · obtain ⟨ad, rfl, _, hsrc⟩ := hr.2 (by omega)
    refine wpList_copy_own hgd d s dT sT ho e hu hsz g 0 n c ad n sCap hd hs cur.toArray e hg xs (by rw [hl]; exact (Nat.min_self n).symm) hsrc (by simp; omega) h1 ?_
    rw [hl]
    have hlen : ((xs ++ cur.drop n).length) = c := by simp; omega
    refine h _ ⟨by simpa using hl, .inr ⟨g, c, (xs ++ cur.drop n).toArray, rfl, hbase, ?_, hnc, hcm, by simpa using hlen, ?_⟩⟩ ⟨rfl, rfl, rfl, by simp [World.setRow], fun k hk hne => setRow_other w g k _ (fun e => hne (by rw [e]))⟩
    · have := setRow_heap w g cur.toArray (cur.toArray.toList.take 0 ++ (xs ++ cur.toArray.toList.drop (0 + n))).toArray e (0, 0) hg
      simpa using this
    · simp
      rw [← hl]
      exact List.take_left
end Go.Proofs.Ytgdnpmjmkcccoaa
