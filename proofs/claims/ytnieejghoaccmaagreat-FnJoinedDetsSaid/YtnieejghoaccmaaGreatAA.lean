/- Contracts: states of automata that are alike. No conditions but those that each theorem names. -/
import Derived.Test.YtnieejghoaccmaaGreatKG
import Derived.Test.YtnieejghoaccmaaGreatTab
import Derived.Test.YtnieejghoaccmaaGreatM2
import Derived.Test.YtnieejghoaccmaaGreatMS
import Derived.Test.YtnieejghoaccmaaGreatAI
import Derived.Test.YtnieejghoaccmaaGreatPK3
import Derived.Test.YtnieejghoaccmaaGreatPO
import Derived.Test.YtnieejghoaccmaaGreatChecked
namespace Go.Proofs.YtnieejghoaccmaaGreat
open Go.RowKit
open Shp
variable {fn : Func} {a b c d f y : Code} {dr : Bool}
def ZfM : Code → Code
 | .seq _ y => y
 | c => c
def ZjL (fn : Func) : Code := fn.body.getD default
theorem at_3  (h : fn.body = some (.seq a (.seq b (.seq c d)))) : ZfM (ZfM (ZfM (ZjL fn))) = d := by unfold ZjL; rw [h]; rfl
theorem at_4  {e : Code} (h : fn.body = some (.seq a (.seq b (.seq c (.seq d e))))) : ZfM (ZfM (ZfM (ZfM (ZjL fn)))) = e := by unfold ZjL; rw [h]; rfl
section
variable {lv : Nat → List Nat} {P : Program} {tab : Tab} {n : Nat} {sl : List (Nat × PV)} {hl : List (Nat × Block)} {Q : Exit → AState → Prop}
theorem ZwK {c' : Code} (e : c = c') (h : TX lv P tab c' n sl hl Q) : TX lv P tab c n sl hl Q := by subst e; exact h
theorem ZqA  {sl2 : List (Nat × PV)} {hl2 : List (Nat × Block)} (h : TX lv P tab c n sl2 hl2 Q) (hle : LX n sl hl ⟨sl2, hl2⟩) : TX lv P tab c n sl hl Q := T.le hle.le h.run
theorem ZzM (rid : Nat) {l : Array Oper}  {x : Code} (h : TX lv P tab (.seq (.seq (.region rid l dr) x) y) n sl hl Q) : TX lv P tab (.seq (.seq (.region rid l dr) x) y) n sl hl Q := h
theorem ZzB (rid : Nat) {l : Array Oper}   (h : TX lv P tab (.seq (.region rid l dr) y) n sl hl Q) : TX lv P tab (.seq (.region rid l dr) y) n sl hl Q := h
end
end Go.Proofs.YtnieejghoaccmaaGreat

namespace Go.Proofs.YtnieejghoaccmaaGreat
open Go.RowKit
open Shp
def ZhC : Nat → List Nat
 | 0 => [0, 1]
 | 1 => [0, 1, 7, 8]
 | 2 => [0, 1, 7, 8, 9]
 | 3 => [0, 1, 5, 7, 8]
 | 4 => [0, 1, 5, 7, 8, 16]
 | 5 => [4]
 | 6 => [0, 1, 7, 8]
 | 7 => [4]
 | _ => []
theorem Zc8 (args : Array Value) (w : World) : (callFunc 46 args).run Tryz.prog w = .ok (.enter 46 args) w := Zab Tryz.func46 (by decide) rfl args w
set_option maxHeartbeats 1000000 in
theorem Zgc (xs : List Bool) (x : Bool) : Con Tryz.prog 46 [.bools xs, .bool x] (.i (Zc4 xs.length fun i => nth xs i == x)) := by
 refine Con.fit Zc8 fun hfit => ?_
 have hb_xs : xs.length ≤ 9223372036854775807 := GFits.lenm (show GFits (.bools xs) from hfit 0 (ZL rfl))
 clear hfit
 refine gCon ZhC Zac (rs := [.tmp 4]) (sl := [(0, .g (.bools xs)), (1, .g (.bool x))]) Tryz.func46 rfl Tryz.ntmps46 rfl Zc8 rfl (by repeat constructor) ?_
 (repeat' (first | ((with_reducible apply gLI.cone); (. exact RF.mk ⟨rfl, rfl⟩)) | (with_reducible constructor) | exact Z2 | exact ZN | exact ZS | (with_reducible intro hc; (try simp only [HCs] at hc)) | exact OB_f | (with_reducible first | apply gNK | apply Zao | apply Zaf | apply Zal | apply Zan | apply Zai | apply ZaQ | apply Zam | apply Zap | apply Zau | apply Zak | apply Zas | apply ZaG | apply Zav | apply ZaM | apply Zat) | apply Zah Zac | (apply ZaD; exact RF.mk rfl) | (refine Zaq (id := 0) (ι := Nat) (fun i => ⟨[(0, .g (.bools xs)), (1, .g (.bool x)), (7, .g (.i xs.length)), (8, .g (.i i))], []⟩) (fun i => (i ≤ xs.length) ∧ (∀ z, z < i → (fun i => nth xs i == x) z = false)) (fun i => xs.length - i) (0) ?_ ?_ ?_; (. (apply gLX0 <;> (repeat' (first | (with_reducible constructor) | exact Z5 | exact RF.mk (by decide) | (with_reducible apply Zae) | exact ZE)))); (. (exact ⟨by omega, Zcp⟩)); (rintro i ⟨h1, h2⟩; (show TX _ _ _ _ _ [(0, .g (.bools xs)), (1, .g (.bool x)), (7, .g (.i xs.length)), (8, .g (.i i))] [] _))) | apply gSel.ccons))
 (all_goals (first | (refine ZaR (i + 1) ?_ ?_ ?_; (· (apply gLX0 <;> (repeat' (first | (with_reducible constructor) | exact Z5 | exact RF.mk (by decide) | (with_reducible apply Zae) | exact ZE)))); (· ((refine ⟨by omega, Zct h2 ?_⟩; ((try simp only [BOa] at *); (first | omega | assumption | grind))))); (· exact ZW)) | (((refine Zae (EQ.mk ?_); skip; first | exact Eq.symm (Zb4 fun j hj => h2 j (by omega)) | (refine Eq.symm (ZbW i (by omega) ?_ h2); ((try simp only [BOa] at *); (first | omega | assumption | grind))))); done)))
end Go.Proofs.YtnieejghoaccmaaGreat

