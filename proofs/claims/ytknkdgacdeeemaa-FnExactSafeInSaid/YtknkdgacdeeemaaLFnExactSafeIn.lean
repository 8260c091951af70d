/- FnExactSafeIn: whatever the input, the law returns true and changes nothing. No conditions. -/
import Derived.Test.YtknkdgacdeeemaaFrame
import Derived.Test.YtknkdgacdeeemaaOpen
import Derived.Test.YtknkdgacdeeemaaWFnExactSafeIn
namespace Go.Proofs.Ytknkdgacdeeemaa.FnExactSafeIn
open Go.ChangeShapes Go.WideShapes Go.ChangeAt Go.RowKit
open Shp
set_option linter.unusedVariables false

set_option maxRecDepth 100000 in
theorem lifted (os : Os) (started : os.Started) (H : Type) (enc : TypeId × Value → H) :
    ReturnsInHanded {} Try.checked os 7 .any (Rows.fnExactSafeInSpec.pre6 enc Try.prog Try.f7 Rows.fnExactSafeInRow.domain false) (Rows.fnExactSafeInSpec.post enc Try.prog Try.f7 false true false false) := by
  refine law_lift (C := Try.checked) started own laidOut (by kernel_rfl) Try.func7 rfl (by kernel_rfl) Try.underlying4
    (of_decide_eq_true (by kernel_rfl)) ?_
    (ChangeSpec.witness6 (enc := enc) (C := Try.checked) false ⟨#[], #[.agg #[.int .i64 0, .slice none 0 0, .slice none 0 0]], []⟩ 8 (by kernel_rfl) (by kernel_rfl) (by kernel_rfl) (by kernel_rfl)) ?_
  · intro H ds h
    have h' : ds.length = 1 := h
    match ds, h' with
    | [_], _ => rfl
  · intro W base args ds ps hval0 hA0 hz
    have hval : ∀ (j : Nat) t v, Try.f7.params[j]? = some t → args[j]? = some v → Value.okWide Try.prog W .any base t v := hval0
    have hA : DataW.TrodAll enc Try.prog W 0 (fun _ => true) true Try.f7.params.toList args.toList ds ps := hA0
    rw [Try.params7] at hA hval
    obtain ⟨v0, vs0, d0, ds0, p0, q0, hargs0, rfl, rfl, h0, r0⟩ := trodAll_cons hA
    obtain ⟨hv, rfl, rfl⟩ := trodAll_nil r0
    obtain rfl : args = #[v0] := by cases args; simp_all
    obtain ⟨F0, c0, x0, rfl, e0⟩ := (o_clause).arg rfl (by intro n e; rw [Try.underlying34]; simp) (hval 0 34 v0 rfl rfl) h0 (noneFrozen_sub hz fun p hp => List.mem_append.2 (.inl hp))
    exact walk_FnExactSafeIn W F0 c0 x0 e0

theorem over : Rows.fnExactSafeInRow.holds Try.pinned (OpenSpec.ofChange Rows.fnExactSafeInSpec) :=
  OpenClaim.holds_of_wide 7 Try.f7 rfl rfl rfl rfl rfl rfl rfl ⟨rfl, rfl, rfl, rfl, rfl⟩ rfl rfl rfl rfl rfl (by kernel_rfl) Try.func7 (by kernel_rfl)
    (of_decide_eq_true (by kernel_rfl)) (by unfold Func.isWrapper; first | (rw [if_pos (by decide +kernel)]; kernel_rfl) | (rw [if_neg (by decide +kernel)]; exact ⟨rfl, rfl⟩))
    (fun os started H enc _ => lifted os started H enc)

/-- The statement. -/
theorem proved : Rows.FnExactSafeInSaid := over
#print axioms proved
end Go.Proofs.Ytknkdgacdeeemaa.FnExactSafeIn
