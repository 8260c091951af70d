/- Contracts: monitors. No conditions but those that each theorem names. -/
import Derived.Test.YtjjidamlmebaaaaGreatTab
import Derived.Test.YtjjidamlmebaaaaGreatKG
import Derived.Test.YtjjidamlmebaaaaGreatM1
import Derived.Test.YtjjidamlmebaaaaGreatHM
import Derived.Test.YtjjidamlmebaaaaGreatChecked
import Derived.Test.YtjjidamlmebaaaaGreatJN
set_option linter.unusedSimpArgs false
set_option linter.unusedVariables false
namespace Go.Proofs.YtjjidamlmebaaaaGreat
open Go.RowKit
open Shp
def Ziu : Nat → List Nat
 | 0 => [0, 1]
 | 1 => [0, 1, 7, 8]
 | 2 => [0, 1, 7, 8, 9]
 | 3 => [0, 1, 5, 7, 8]
 | 4 => [0, 1, 5, 7, 8, 16]
 | 5 => [4]
 | 6 => [0, 1, 7, 8]
 | 7 => [4]
 | _ => []
theorem Zc1 (args : Array Value) (w : World) : (callFunc 122 args).run Tryz.prog w = .ok (.enter 122 args) w := Zaa Tryz.func122 (by decide) rfl args w
set_option maxHeartbeats 1000000 in
theorem Zk0 (xs : List Int) (x : Int) : Con Tryz.prog 122 [.ints xs, .i x] (.i (ZbG xs x)) := by
 refine Con.fit Zc1 fun hfit => ?_
 have hb_xs : xs.length ≤ 9223372036854775807 := GFits.ints (show GFits (.ints xs) from hfit 0 (ZL rfl))
 clear hfit
 refine gCon Ziu Zab (rs := [.tmp 4]) (sl := [(0, .g (.ints xs)), (1, .g (.i x))]) Tryz.func122 rfl Tryz.ntmps122 rfl Zc1 rfl (by repeat constructor) ?_
 (repeat' (first | ((with_reducible apply gLI.cone); (. exact RF.mk ⟨rfl, rfl⟩)) | (with_reducible constructor) | exact Z2 | exact ZN | exact ZS | (with_reducible intro hc; (try simp only [HCs] at hc)) | exact OB_f | (with_reducible first | apply gNK | apply Zaj | apply Zae | apply Zam | apply Zar | apply Zag | apply ZaG | apply Zak | apply Zai | apply Zas | apply Zal | apply Zau | apply ZaO | apply Zat | apply ZaR | apply Zao) | apply Zaf Zab | (apply ZaB; exact RF.mk rfl) | (refine Zah (id := 0) (ι := Nat) (fun i => ⟨[(0, .g (.ints xs)), (1, .g (.i x)), (7, .g (.i xs.length)), (8, .g (.i i))], []⟩) (fun i => (i ≤ xs.length) ∧ (∀ z, z < i → (fun i => nth xs i == x) z = false)) (fun i => xs.length - i) (0) ?_ ?_ ?_; (. (apply gLX0 <;> (repeat' (first | (with_reducible constructor) | exact Z5 | exact RF.mk (by decide) | (with_reducible apply Zad) | exact ZE)))); (. (exact ⟨by omega, Zdu⟩)); (rintro i ⟨h1, h2⟩; (show TX _ _ _ _ _ [(0, .g (.ints xs)), (1, .g (.i x)), (7, .g (.i xs.length)), (8, .g (.i i))] [] _))) | apply gSel.ccons))
 (all_goals (first | (refine ZaA (i + 1) ?_ ?_ ?_; (· (apply gLX0 <;> (repeat' (first | (with_reducible constructor) | exact Z5 | exact RF.mk (by decide) | (with_reducible apply Zad) | exact ZE)))); (· ((refine ⟨by omega, ZdC h2 ?_⟩; ((try simp only [BOa] at *); (first | omega | assumption | grind))))); (· exact ZW)) | (((refine Zad (EQ.mk ?_); (try unfold ZbG); first | exact Eq.symm (ZbX fun j hj => h2 j (by omega)) | (refine Eq.symm (ZdE i (by omega) ?_ h2); ((try simp only [BOa] at *); (first | omega | assumption | grind))))); done)))
def ZfW : Nat → List Nat
 | 0 => [0, 1]
 | 1 => [4]
 | _ => []
theorem Zca (args : Array Value) (w : World) : (callFunc 86 args).run Tryz.prog w = .ok (.enter 86 args) w := Zaa Tryz.func86 (by decide) rfl args w
set_option maxHeartbeats 1000000 in
theorem Zez (xs : List Int) (x : Int) : Con Tryz.prog 86 [.ints xs, .i x] (.bool (has xs x)) := by
 refine Con.fit Zca fun hfit => ?_
 have hb_xs : xs.length ≤ 9223372036854775807 := GFits.ints (show GFits (.ints xs) from hfit 0 (ZL rfl))
 clear hfit
 refine gCon ZfW Zab (rs := [.tmp 4]) (sl := [(0, .g (.ints xs)), (1, .g (.i x))]) Tryz.func86 rfl Tryz.ntmps86 rfl Zca rfl (by repeat constructor) ?_
 (repeat' (first | (with_reducible constructor) | exact Z2 | ((with_reducible apply Zaw); first | apply Zk0) | exact OB_f | (with_reducible first | apply gNK | apply Zaj | apply Zae | apply Zai | apply Zao) | apply Zaf Zab | apply gSel.ccons))
 (all_goals (first | (((refine Zax ?_; exact Zis)); done)))
end Go.Proofs.YtjjidamlmebaaaaGreat

namespace Go.Proofs.YtjjidamlmebaaaaGreat
open Go.RowKit
open Shp
def Zhu : Nat → List Nat
 | 0 => [1, 2, 3]
 | 1 => [1, 2, 3, 27]
 | 2 => [6]
 | 3 => [6]
 | _ => []
theorem Zfp (args : Array Value) (w : World) : (callFunc 124 args).run Tryz.prog w = .ok (.enter 124 args) w := Zaa Tryz.func124 (by decide) rfl args w
set_option maxHeartbeats 1000000 in
theorem Zkf (i o x y : Int) : Con Tryz.prog 124 [.sig i o, .i x, .i y] (.i (ZlU i o x y)) := by
 refine gCon Zhu Zab (rs := [.tmp 6]) (sl := [(0, .g (.sig i o)), (1, .g (.i x)), (2, .g (.i y))]) Tryz.func124 rfl Tryz.ntmps124 rfl Zfp rfl (by repeat constructor) ?_
 (repeat' (first | ((with_reducible apply gLB.cagg); (. exact RF.mk ⟨rfl, rfl, rfl⟩)) | ((with_reducible apply gLB.cone); (. exact RF.mk ⟨rfl, rfl⟩)) | (with_reducible constructor) | exact Z2 | exact NU.mk (by first | exact ZO | (first | omega | (have q := Zdx (by assumption); first | omega | (have q5 := Zsc (p := y) (w := pw i) (by omega) (by omega) (by omega) (by omega); omega)) | (have q := ZoN (by assumption); omega))) | exact ZF | ((with_reducible apply Zaw); first | apply Zgp | apply Zby | apply Zcp) | (with_reducible intro hc; (try simp only [HCs] at hc)) | exact OB_f | (with_reducible first | apply gNK | apply Zaj | apply Zae | apply Zar | apply Zag | apply CK_t | apply ZaG | apply Zak | apply Zai | apply Zao) | apply Zaf Zab | apply gSel.ccons))
 (all_goals (first | (((refine Zad (EQ.mk ?_); unfold ZlU; (repeat split) <;> (try simp only [BOa, Int.natCast_eq_zero, List.length_eq_zero_iff, Bool.true_eq_false, Bool.false_eq_true, true_iff, false_iff, iff_true, iff_false, true_and, and_true, false_and, and_false, not_and, not_or, Bool.not_eq_true, Bool.not_eq_false, Int.not_lt, Int.not_le] at *) <;> first | rfl | assumption | (exfalso; first | omega | (simp_all; done) | (simp_all; omega) | grind) | omega)); done)))
theorem Zmm (i o x y : Int) (hs : HY (sigB i o = true)) (hx : NU (0 ≤ x ∧ x < pw i ∧ 0 ≤ y ∧ y < pw o)) : Con Tryz.prog 124 [.sig i o, .i x, .i y] (.i (y * pw i + x)) := by
 have e : ZlU i o x y = y * pw i + x := if_pos ⟨hs.e, hx.e⟩
 rw [← e]; exact Zkf i o x y
end Go.Proofs.YtjjidamlmebaaaaGreat

namespace Go.Proofs.YtjjidamlmebaaaaGreat
open Go.RowKit
open Shp
def Zjc : Nat → List Nat
 | 0 => [0]
 | 1 => [3]
 | 2 => [2]
 | 3 => [2]
 | _ => []
theorem Zgs (args : Array Value) (w : World) : (callFunc 61 args).run Tryz.prog w = .ok (.enter 61 args) w := Zaa Tryz.func61 (by decide) rfl args w
set_option maxHeartbeats 1000000 in
theorem Zmh (b : Bool) : Con Tryz.prog 61 [.bool b] (.i (bit b)) := by
 refine gCon Zjc Zab (rs := [.tmp 2]) (sl := [(0, .g (.bool b))]) Tryz.func61 rfl Tryz.ntmps61 rfl Zgs rfl (by repeat constructor) ?_
 (repeat' (first | (with_reducible constructor) | exact Z2 | (with_reducible intro hc; (try simp only [HCs] at hc)) | exact OB_f | (with_reducible first | apply gNK | apply Zaj | apply Zae | apply Zar | apply Zag | apply ZaG | apply Zak | apply Zai | apply Zao) | apply Zaf Zab | apply gSel.ccons))
 (all_goals (first | (((refine Zad (EQ.mk ?_); unfold bit; simp_all)); done)))
end Go.Proofs.YtjjidamlmebaaaaGreat

