/- FnExactLetterAt: whatever the input, the law returns true and changes nothing. No conditions. -/
import Derived.Test.YtknkdgacdeeemaaFrame
import Derived.Test.YtknkdgacdeeemaaOpen
import Derived.Test.YtknkdgacdeeemaaWFnExactLetterAt
namespace Go.Proofs.Ytknkdgacdeeemaa.FnExactLetterAt
open Go.ChangeShapes Go.WideShapes Go.ChangeAt Go.RowKit
open Shp
set_option linter.unusedVariables false

set_option maxRecDepth 100000 in
theorem lifted (os : Os) (started : os.Started) (H : Type) (enc : TypeId × Value → H) :
    ReturnsInHanded {} Try.checked os 10 .any (Rows.fnExactLetterAtSpec.pre6 enc Try.prog Try.f10 Rows.fnExactLetterAtRow.domain false) (Rows.fnExactLetterAtSpec.post enc Try.prog Try.f10 false true false false) := by
  refine law_lift (C := Try.checked) started own laidOut (by kernel_rfl) Try.func10 rfl (by kernel_rfl) Try.underlying4
    (of_decide_eq_true (by kernel_rfl)) ?_
    (ChangeSpec.witness6 (enc := enc) (C := Try.checked) false ⟨#[], #[.agg #[.slice none 0 0, .slice none 0 0], .int .i64 0], []⟩ 8 (by kernel_rfl) (by kernel_rfl) (by kernel_rfl) (by kernel_rfl)) ?_
  · intro H ds h
    have h' : ds.length = 2 := h
    match ds, h' with
    | [_, _], _ => rfl
  · intro W base args ds ps hval0 hA0 hz
    have hval : ∀ (j : Nat) t v, Try.f10.params[j]? = some t → args[j]? = some v → Value.okWide Try.prog W .any base t v := hval0
    have hA : DataW.TrodAll enc Try.prog W 0 (fun _ => true) true Try.f10.params.toList args.toList ds ps := hA0
    rw [Try.params10] at hA hval
    obtain ⟨v0, vs0, d0, ds0, p0, q0, hargs0, rfl, rfl, h0, r0⟩ := trodAll_cons hA
    obtain ⟨v1, vs1, d1, ds1, p1, q1, hargs1, rfl, rfl, h1, r1⟩ := trodAll_cons r0
    obtain ⟨hv, rfl, rfl⟩ := trodAll_nil r1
    obtain rfl : args = #[v0, v1] := by cases args; simp_all
    obtain ⟨F0, c0, x0, rfl, e0⟩ := (o_word).arg rfl (by intro n e; rw [Try.underlying46]; simp) (hval 0 46 v0 rfl rfl) h0 (noneFrozen_sub hz fun p hp => List.mem_append.2 (.inl hp))
    obtain ⟨F1, c1, x1, rfl, e1⟩ := (o_int64).arg rfl (by intro n e; rw [Try.underlying2]; simp) (hval 1 2 v1 rfl rfl) h1 (noneFrozen_sub hz fun p hp => List.mem_append.2 (.inr (List.mem_append.2 (.inl hp))))
    exact walk_FnExactLetterAt W F0 c0 x0 e0 F1 c1 x1 e1

theorem over : Rows.fnExactLetterAtRow.holds Try.pinned (OpenSpec.ofChange Rows.fnExactLetterAtSpec) :=
  OpenClaim.holds_of_wide 10 Try.f10 rfl rfl rfl rfl rfl rfl rfl ⟨rfl, rfl, rfl, rfl, rfl⟩ rfl rfl rfl rfl rfl (by kernel_rfl) Try.func10 (by kernel_rfl)
    (of_decide_eq_true (by kernel_rfl)) (by unfold Func.isWrapper; first | (rw [if_pos (by decide +kernel)]; kernel_rfl) | (rw [if_neg (by decide +kernel)]; exact ⟨rfl, rfl⟩))
    (fun os started H enc _ => lifted os started H enc)

/-- The statement. -/
theorem proved : Rows.FnExactLetterAtSaid := over
#print axioms proved
end Go.Proofs.Ytknkdgacdeeemaa.FnExactLetterAt
