/- Who is nearer to 0 has no more bytes; there are from 1 to 10 of them, and so many are put. Condition: none beyond the given statement. -/
import Derived.Test.YtcdkibpfgnmmfaaRows
import Derived.Test.YtcdkibpfgnmmfaaPost
import Derived.Test.YtcdkibpfgnmmfaaLawN
import Derived.WalkKit
import Derived.ProofKit
import Derived.OpenShut
import Derived.ShutString
import Derived.ChangeOld
import Derived.Below
import Derived.Lib.SmallJoins
namespace Go.Proofs.Ytcdkibpfgnmmfaa.varyShort
open Go.ChangeShapes Go.WideShapes Go.ChangeAt Go.RowKit
set_option linter.unusedVariables false

theorem own : ownKnob Try.prog.godebug = none := by kernel_rfl
theorem laidOut : laidOutB Try.prog = true := by kernel_rfl
theorem cells24 : Try.prog.cellsOf 24 = 4 := by kernel_rfl
/-! the walk: my core theorem -/
theorem walk (x0a x0b x0c x0d : Int) (w : World) (w0a : (Lit.int .u64 x0a).wf = true) (w0b : (Lit.int .u64 x0b).wf = true) (w0c : (Lit.int .i64 x0c).wf = true) (w0d : (Lit.int .i64 x0d).wf = true) :
    Calls Try.prog 3 #[.agg #[.int .u64 x0a, .int .u64 x0b, .int .i64 x0c, .int .i64 x0d]] w fun e w' => e = .returned (.bool true) ∧ Below w.heap.size w w' := vShort_core x0a x0b x0c x0d w w0a w0b w0c w0d

set_option maxRecDepth 100000 in
theorem lifted (os : Os) (started : os.Started) (H : Type) (enc : TypeId × Value → H) :
    ReturnsInHanded {} Try.checked os 3 .any (Rows.varyShortSpec.pre6 enc Try.prog Try.f3 Rows.varyShortRow.domain false) (Rows.varyShortSpec.post enc Try.prog Try.f3 false true false false) := by
  refine returnsInHanded_of_change (C := Try.checked) own started (by kernel_rfl) Try.func3
    (ChangeSpec.witness6 (enc := enc) (C := Try.checked) false ⟨#[], #[.agg #[.int .u64 0, .int .u64 0, .int .i64 0, .int .i64 0]], []⟩ 8 (by kernel_rfl) (by kernel_rfl) (by kernel_rfl) (by kernel_rfl)) ?_
  intro W base args ds gs before hval0 hW hcnd _
  have hval : ∀ (j : Nat) t v, Try.f3.params[j]? = some t → args[j]? = some v → Value.okWide Try.prog W .any base t v := hval0
  have hW' := hW
  obtain ⟨p, q, hA0, hV, rfl, hfz, hnd⟩ := hW
  have hA : DataW.TrodAll enc Try.prog W 0 (fun _ => true) true Try.f3.params.toList args.toList ds p := hA0
  rw [Try.params3] at hA hval
  obtain ⟨v0, vs0, d0, ds0, p0, q0, hargs, rfl, rfl, h0, r0⟩ := trodAll_cons hA
  obtain ⟨rfl, rfl, rfl⟩ := trodAll_nil r0
  obtain rfl : args = #[v0] := by cases args; simp_all
  obtain ⟨rfl, rfl⟩ := trodVars_none hV
  have k0 := h0
  have lt0 : ∀ x ∈ p0, x.block < W.heap.size := by obtain ⟨m, hm⟩ := k0; exact DataW.trod_lt m _ _ _ hm
  obtain ⟨c00, c01, c02, c03, y00, y01, y02, y03, m0, rfl, rfl, rfl, hy00, hy01, hy02, hy03⟩ := Go.Joins.open_agg4 Try.underlying24 (by kernel_rfl) cells24 (hval 0 24 v0 rfl rfl) h0
  obtain ⟨x0a, e00, rfl, w0a⟩ := DataW.trod_int Try.underlying22 hy00
  obtain ⟨x0b, e01, rfl, w0b⟩ := DataW.trod_int Try.underlying22 hy01
  obtain ⟨x0c, e02, rfl, w0c⟩ := DataW.trod_int Try.underlying2 hy02
  obtain ⟨x0d, e03, rfl, w0d⟩ := DataW.trod_int Try.underlying2 hy03
  simp at e00 e01 e02 e03
  subst e00 e01 e02 e03
  clear hA0 hval0
  refine (walk x0a x0b x0c x0d W w0a w0b w0c w0d).mono fun e W' ⟨he, bel⟩ => ?_
  subst he
  exact ⟨_, rfl, _, _, _, [], _, [], hW', trodAll_mk1 (shut_bool Try.underlying4 _), (trodAll_cons_mk (Below.trod laidOut (by kernel_rfl) (of_decide_eq_true (by kernel_rfl)) k0 bel lt0) trodAll_mk0), rfl, bel.frame _, fun h => by cases h⟩

theorem over : Rows.varyShortRow.holds Try.pinned (OpenSpec.ofChange Rows.varyShortSpec) :=
  OpenClaim.holds_of_wide 3 Try.f3 rfl rfl rfl rfl rfl rfl rfl ⟨rfl, rfl, rfl, rfl, rfl⟩ rfl rfl rfl rfl rfl (by kernel_rfl) Try.func3 (by kernel_rfl)
    (of_decide_eq_true (by kernel_rfl)) (by unfold Func.isWrapper; first | (rw [if_pos (by decide +kernel)]; kernel_rfl) | (rw [if_neg (by decide +kernel)]; exact ⟨rfl, rfl⟩))
    (fun os started H enc _ => lifted os started H enc)

/-- the statement -/
theorem proved : Rows.VaryShortSaid := over
#print axioms proved
end Go.Proofs.Ytcdkibpfgnmmfaa.varyShort
