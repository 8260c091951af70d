/- A function's walk in parts: the code behind the first pieces of a body. Over any program; no conditions. -/
import Derived.Test.YtabfpoflhacknaaKG
set_option linter.unusedSimpArgs false
set_option linter.unusedVariables false
namespace Go.Proofs.Ytabfpoflhacknaa
open Go.RowKit
open Shp

/-- What follows a piece. -/
def codeR : Code → Code
  | .seq _ y => y
  | c => c
def bodyOf (fn : Func) : Code := fn.body.getD default
theorem at_3 {fn : Func} {a b c d : Code} (h : fn.body = some (.seq a (.seq b (.seq c d)))) : codeR (codeR (codeR (bodyOf fn))) = d := by unfold bodyOf; rw [h]; rfl
theorem at_4 {fn : Func} {a b c d e : Code} (h : fn.body = some (.seq a (.seq b (.seq c (.seq d e))))) : codeR (codeR (codeR (codeR (bodyOf fn)))) = e := by unfold bodyOf; rw [h]; rfl
section
variable {lv : Nat → List Nat} {P : Program} {tab : Tab} {n : Nat} {sl : List (Nat × PV)} {hl : List (Nat × Block)} {Q : Exit → AState → Prop}
theorem TX_eq {c c' : Code} (e : c = c') (h : TX lv P tab c' n sl hl Q) : TX lv P tab c n sl hl Q := by subst e; exact h
theorem TX_part {c : Code} {sl2 : List (Nat × PV)} {hl2 : List (Nat × Block)} (h : TX lv P tab c n sl2 hl2 Q) (hle : LX n sl hl ⟨sl2, hl2⟩) : TX lv P tab c n sl hl Q := T.le hle.le h.run
theorem TX_g2 (rid : Nat) {l : Array Oper} {dr : Bool} {x y : Code} (h : TX lv P tab (.seq (.seq (.region rid l dr) x) y) n sl hl Q) : TX lv P tab (.seq (.seq (.region rid l dr) x) y) n sl hl Q := h
theorem TX_g1 (rid : Nat) {l : Array Oper} {dr : Bool} {y : Code} (h : TX lv P tab (.seq (.region rid l dr) y) n sl hl Q) : TX lv P tab (.seq (.region rid l dr) y) n sl hl Q := h
end
end Go.Proofs.Ytabfpoflhacknaa

