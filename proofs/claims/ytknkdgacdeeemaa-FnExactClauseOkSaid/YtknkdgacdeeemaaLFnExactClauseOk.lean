/- FnExactClauseOk: whatever the input, the law returns true and changes nothing. No conditions. -/
import Derived.Test.YtknkdgacdeeemaaFrame
import Derived.Test.YtknkdgacdeeemaaOpen
import Derived.Test.YtknkdgacdeeemaaWFnExactClauseOk
namespace Go.Proofs.Ytknkdgacdeeemaa.FnExactClauseOk
open Go.ChangeShapes Go.WideShapes Go.ChangeAt Go.RowKit
open Shp
set_option linter.unusedVariables false

set_option maxRecDepth 100000 in
theorem lifted (os : Os) (started : os.Started) (H : Type) (enc : TypeId × Value → H) :
    ReturnsInHanded {} Try.checked os 11 .any (Rows.fnExactClauseOkSpec.pre6 enc Try.prog Try.f11 Rows.fnExactClauseOkRow.domain false) (Rows.fnExactClauseOkSpec.post enc Try.prog Try.f11 false true false false) := by
  refine law_lift (C := Try.checked) started own laidOut (by kernel_rfl) Try.func11 rfl (by kernel_rfl) Try.underlying4
    (of_decide_eq_true (by kernel_rfl)) ?_
    (ChangeSpec.witness6 (enc := enc) (C := Try.checked) false ⟨#[], #[.agg #[.int .i64 0, .int .i64 0], .agg #[.int .i64 0, .slice none 0 0, .slice none 0 0]], []⟩ 8 (by kernel_rfl) (by kernel_rfl) (by kernel_rfl) (by kernel_rfl)) ?_
  · intro H ds h
    have h' : ds.length = 2 := h
    match ds, h' with
    | [_, _], _ => rfl
  · intro W base args ds ps hval0 hA0 hz
    have hval : ∀ (j : Nat) t v, Try.f11.params[j]? = some t → args[j]? = some v → Value.okWide Try.prog W .any base t v := hval0
    have hA : DataW.TrodAll enc Try.prog W 0 (fun _ => true) true Try.f11.params.toList args.toList ds ps := hA0
    rw [Try.params11] at hA hval
    obtain ⟨v0, vs0, d0, ds0, p0, q0, hargs0, rfl, rfl, h0, r0⟩ := trodAll_cons hA
    obtain ⟨v1, vs1, d1, ds1, p1, q1, hargs1, rfl, rfl, h1, r1⟩ := trodAll_cons r0
    obtain ⟨hv, rfl, rfl⟩ := trodAll_nil r1
    obtain rfl : args = #[v0, v1] := by cases args; simp_all
    obtain ⟨F0, c0, x0, rfl, e0⟩ := (o_sig).arg rfl (by intro n e; rw [Try.underlying23]; simp) (hval 0 23 v0 rfl rfl) h0 (noneFrozen_sub hz fun p hp => List.mem_append.2 (.inl hp))
    obtain ⟨F1, c1, x1, rfl, e1⟩ := (o_clause).arg rfl (by intro n e; rw [Try.underlying34]; simp) (hval 1 34 v1 rfl rfl) h1 (noneFrozen_sub hz fun p hp => List.mem_append.2 (.inr (List.mem_append.2 (.inl hp))))
    exact walk_FnExactClauseOk W F0 c0 x0 e0 F1 c1 x1 e1

theorem over : Rows.fnExactClauseOkRow.holds Try.pinned (OpenSpec.ofChange Rows.fnExactClauseOkSpec) :=
  OpenClaim.holds_of_wide 11 Try.f11 rfl rfl rfl rfl rfl rfl rfl ⟨rfl, rfl, rfl, rfl, rfl⟩ rfl rfl rfl rfl rfl (by kernel_rfl) Try.func11 (by kernel_rfl)
    (of_decide_eq_true (by kernel_rfl)) (by unfold Func.isWrapper; first | (rw [if_pos (by decide +kernel)]; kernel_rfl) | (rw [if_neg (by decide +kernel)]; exact ⟨rfl, rfl⟩))
    (fun os started H enc _ => lifted os started H enc)

/-- The statement. -/
theorem proved : Rows.FnExactClauseOkSaid := over
#print axioms proved
end Go.Proofs.Ytknkdgacdeeemaa.FnExactClauseOk
