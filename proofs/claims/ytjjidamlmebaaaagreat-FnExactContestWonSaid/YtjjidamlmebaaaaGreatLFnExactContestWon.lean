/- FnExactContestWon: whatever the input, the law returns true and changes nothing. No conditions but those that each theorem names. -/
import Derived.Test.YtjjidamlmebaaaaGreatTab
import Derived.Test.YtjjidamlmebaaaaGreatKG
import Derived.Test.YtjjidamlmebaaaaGreatOG
import Derived.Test.YtjjidamlmebaaaaGreatQ9
import Derived.Test.YtjjidamlmebaaaaGreatChecked
set_option linter.unusedSimpArgs false
set_option linter.unusedVariables false
namespace Go.Proofs.YtjjidamlmebaaaaGreat
open Go.RowKit
open Shp
def Zdm : Nat → List Nat
 | 0 => [2, 3]
 | 1 => [2, 3, 5]
 | 2 => [2, 3, 5]
 | 3 => [2, 3, 13]
 | 4 => [4]
 | 5 => [2, 3, 6]
 | 6 => [2, 3, 6, 7]
 | 7 => [3, 6, 7, 8]
 | 8 => [3, 7, 27]
 | 9 => [4]
 | 10 => [32]
 | 11 => [4]
 | 12 => [4]
 | _ => []
theorem Zbm (args : Array Value) (w : World) : (callFunc 4 args).run Tryz.prog w = .ok (.enter 4 args) w := Zaa Tryz.func4 (by decide) rfl args w
set_option maxRecDepth 20000 in
set_option maxHeartbeats 8000000 in
theorem law_FnExactContestWon (inp : Int) (out : Int) (next1 : List (List Int)) (pairs1 : List (List Int × List Int)) : Con Tryz.prog 4 [.sig inp out, .det next1 pairs1] (.bool true) := by
 refine Con.fit Zbm fun hfit => ?_
 have hb_next1 : next1.length ≤ 9223372036854775807 := GFits.lenm (GFits.cell (show GFits (.det next1 pairs1) from hfit 1 (ZL rfl)) (.head _))
 have hr_next1 : ∀ r ∈ next1, r.length ≤ 9223372036854775807 := fun r hr => GFits.ints (GFits.elm (GFits.cell (show GFits (.det next1 pairs1) from hfit 1 (ZL rfl)) (.head _)) r hr)
 have hb_pairs1 : pairs1.length ≤ 9223372036854775807 := GFits.lenm (GFits.cell (show GFits (.det next1 pairs1) from hfit 1 (ZL rfl)) (.tail _ (.head _)))
 have hr_pairs1 : ∀ r ∈ pairs1, r.1.length ≤ 9223372036854775807 ∧ r.2.length ≤ 9223372036854775807 := fun r hr => ⟨GFits.ints (GFits.cell (GFits.elm (GFits.cell (show GFits (.det next1 pairs1) from hfit 1 (ZL rfl)) (.tail _ (.head _))) r hr) (.head _)), GFits.ints (GFits.cell (GFits.elm (GFits.cell (show GFits (.det next1 pairs1) from hfit 1 (ZL rfl)) (.tail _ (.head _))) r hr) (.tail _ (.head _)))⟩
 clear hfit
 refine gCon Zdm Zab (rs := [.tmp 4]) (sl := [(0, .g (.sig inp out)), (1, .g (.det next1 pairs1))]) Tryz.func4 rfl Tryz.ntmps4 rfl Zbm rfl (by repeat constructor) ?_
 (repeat' (first | ((with_reducible apply gLB.cagg); (. exact RF.mk ⟨rfl, rfl, rfl⟩)) | (with_reducible constructor) | exact Z3 | exact NU.mk (by first | exact ZO | (first | omega | (have z0 := Zni (next1, pairs1) (1048576) (by assumption) (by omega); omega))) | exact ZC | ((with_reducible apply Zaw); first | apply ZnG | apply Zns | apply Ziw | apply Zn0 | apply Zh1 | apply ZnD) | (with_reducible intro hc; (try simp only [HCs] at hc)) | exact OB_f | exact ZK | (with_reducible first | apply gNK | apply Zaj | apply Zae | apply Zar | apply Zag | apply ZaG | apply Zak | apply Zai | apply Zao) | apply Zaf Zab | apply Za4 Zab rfl | exact HY.mk (by have z0 := Zni (next1, pairs1) (1048576) (by assumption) (by omega); exact z0.1) | apply gSel.ccons))
 (all_goals (first | (((refine Zax ?_; simp_all)); done)))
end Go.Proofs.YtjjidamlmebaaaaGreat
namespace Go.Proofs.YtjjidamlmebaaaaGreat.FnExactContestWon
open Go.ChangeShapes Go.WideShapes Go.ChangeAt Go.RowKit
open Shp
set_option linter.unusedVariables false
set_option maxRecDepth 100000 in
theorem lifted (os : Os) (started : os.Started) (H : Type) (enc : TypeId × Value → H) :
  ReturnsInHanded {} Tryz.checked os 4 .any (Rows.fnExactContestWonSpec.pre6 enc Tryz.prog Tryz.f4 Rows.fnExactContestWonRow.domain false) (Rows.fnExactContestWonSpec.post enc Tryz.prog Tryz.f4 false true false false) := by
 refine ZrE (C := Tryz.checked) started ZyL ZxE (by kernel_rfl) Tryz.func4 rfl (by kernel_rfl) Tryz.underlying4
  (of_decide_eq_true (by kernel_rfl)) ?_
  (ChangeSpec.witness6 (enc := enc) (C := Tryz.checked) false ⟨#[], #[.agg #[.int .i64 0, .int .i64 0], .agg #[.slice none 0 0, .slice none 0 0]], []⟩ 8 (by kernel_rfl) (by kernel_rfl) (by kernel_rfl) (by kernel_rfl)) ?_
 ·intro H ds h
  have h' : ds.length = 2 := h
  match ds, h' with
  | [_, _], _ => rfl
 ·intro W base args ds ps hval0 hA0 hz
  have hval : ∀ (j : Nat) t v, Tryz.f4.params[j]? = some t → args[j]? = some v → Value.okWide Tryz.prog W .any base t v := hval0
  have hA : DataW.TrodAll enc Tryz.prog W 0 (fun _ => true) true Tryz.f4.params.toList args.toList ds ps := hA0
  rw [Tryz.params4] at hA hval
  obtain ⟨v0, vs0, d0, ds0, p0, q0, hargs0, rfl, rfl, h0, r0⟩ := trodAll_cons hA
  obtain ⟨v1, vs1, d1, ds1, p1, q1, hargs1, rfl, rfl, h1, r1⟩ := trodAll_cons r0
  obtain ⟨hv, rfl, rfl⟩ := trodAll_nil r1
  obtain rfl : args = #[v0, v1] := by cases args; simp_all
  obtain ⟨x0, V0, F0, e0⟩ := (Zv4).argS Tryz.underlying23 (hval 0 23 v0 rfl rfl) h0 (ZbD hz fun p hp => List.mem_append.2 (.inl hp))
  obtain ⟨x1, V1, F1, e1⟩ := (Zwp).argS Tryz.underlying36 (hval 1 36 v1 rfl rfl) h1 (ZbD hz fun p hp => List.mem_append.2 (.inr (List.mem_append.2 (.inl hp))))
  exact (law_FnExactContestWon (x0.1) (x0.2) (x1.1) (x1.2)).law rfl (fun i hi => by
   match i, hi with
   | 0, _ => exact ⟨F0, e0⟩
   | 1, _ => exact ⟨F1, e1⟩)
theorem over : Rows.fnExactContestWonRow.holds Tryz.pinned (OpenSpec.ofChange Rows.fnExactContestWonSpec) :=
 OpenClaim.holds_of_wide 4 Tryz.f4 rfl rfl rfl rfl rfl rfl rfl ⟨rfl, rfl, rfl, rfl, rfl⟩ rfl rfl rfl rfl rfl (by kernel_rfl) Tryz.func4 (ZpZ ZlT ZtU Zp9 rfl rfl (by kernel_rfl))
  (of_decide_eq_true (by kernel_rfl)) (by unfold Func.isWrapper; first | (rw [if_pos (by decide +kernel)]; kernel_rfl) | (rw [if_neg (by decide +kernel)]; exact ⟨rfl, rfl⟩))
  (fun os started H enc _ => lifted os started H enc)
theorem proved : Rows.FnExactContestWonSaid := over
#print axioms proved
end Go.Proofs.YtjjidamlmebaaaaGreat.FnExactContestWon

