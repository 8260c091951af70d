/- FnJoinedDets: the statement. No conditions but those that each theorem names. -/
import Derived.Test.YtnieejghoaccmaaGreatTab
import Derived.Test.YtnieejghoaccmaaGreatKG
import Derived.Test.YtnieejghoaccmaaGreatVFnJoinedDets
import Derived.Test.YtnieejghoaccmaaGreatChecked
set_option linter.unusedSimpArgs false
set_option linter.unusedVariables false
namespace Go.Proofs.YtnieejghoaccmaaGreat
open Go.RowKit
open Shp
end Go.Proofs.YtnieejghoaccmaaGreat
namespace Go.Proofs.YtnieejghoaccmaaGreat.FnJoinedDets
open Go.ChangeShapes Go.WideShapes Go.ChangeAt Go.RowKit
open Shp
set_option linter.unusedVariables false
set_option maxRecDepth 100000 in
theorem lifted (os : Os) (started : os.Started) (H : Type) (enc : TypeId × Value → H) :
  ReturnsInHanded {} Tryz.checked os 3 .any (Rows.fnJoinedDetsSpec.pre6 enc Tryz.prog Tryz.f3 Rows.fnJoinedDetsRow.domain false) (Rows.fnJoinedDetsSpec.post enc Tryz.prog Tryz.f3 false true false false) := by
 refine Zrq (C := Tryz.checked) started ZzZ ZyO (by kernel_rfl) Tryz.func3 rfl (by kernel_rfl) Tryz.underlying4
  (of_decide_eq_true (by kernel_rfl)) ?_
  (ChangeSpec.witness6 (enc := enc) (C := Tryz.checked) false ⟨#[], #[.slice none 0 0], []⟩ 8 (by kernel_rfl) (by kernel_rfl) (by kernel_rfl) (by kernel_rfl)) ?_
 ·intro H ds h
  have h' : ds.length = 1 := h
  match ds, h' with
  | [_], _ => rfl
 ·intro W base args ds ps hval0 hA0 hz
  have hval : ∀ (j : Nat) t v, Tryz.f3.params[j]? = some t → args[j]? = some v → Value.okWide Tryz.prog W .any base t v := hval0
  have hA : DataW.TrodAll enc Tryz.prog W 0 (fun _ => true) true Tryz.f3.params.toList args.toList ds ps := hA0
  rw [Tryz.params3] at hA hval
  obtain ⟨v0, vs0, d0, ds0, p0, q0, hargs0, rfl, rfl, h0, r0⟩ := trodAll_cons hA
  obtain ⟨hv, rfl, rfl⟩ := trodAll_nil r0
  obtain rfl : args = #[v0] := by cases args; simp_all
  obtain ⟨x0, V0, F0, e0⟩ := (Zrc).arg1 (by rw [Tryz.underlying22]; trivial) (hval 0 22 v0 rfl rfl) h0 (Zfw hz fun p hp => List.mem_append.2 (.inl hp))
  exact (law_FnJoinedDets (x0) V0).law rfl (fun i hi => by
   match i, hi with
   | 0, _ => exact ⟨F0, e0⟩)
theorem over : Rows.fnJoinedDetsRow.holds Tryz.pinned (OpenSpec.ofChange Rows.fnJoinedDetsSpec) :=
 OpenClaim.holds_of_wide 3 Tryz.f3 rfl rfl rfl rfl rfl rfl rfl ⟨rfl, rfl, rfl, rfl, rfl⟩ rfl rfl rfl rfl rfl (by kernel_rfl) Tryz.func3 (ZqC ZmQ ZtM Zq4 rfl rfl (by kernel_rfl))
  (of_decide_eq_true (by kernel_rfl)) (by unfold Func.isWrapper; first | (rw [if_pos (by decide +kernel)]; kernel_rfl) | (rw [if_neg (by decide +kernel)]; exact ⟨rfl, rfl⟩))
  (fun os started H enc _ => lifted os started H enc)
theorem proved : Rows.FnJoinedDetsSaid := over
#print axioms proved
end Go.Proofs.YtnieejghoaccmaaGreat.FnJoinedDets

