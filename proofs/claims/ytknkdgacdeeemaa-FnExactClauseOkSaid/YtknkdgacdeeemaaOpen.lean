/- What the arguments' types read as, over this program. No conditions. -/
import Derived.Test.YtknkdgacdeeemaaFrame
import Derived.Test.YtknkdgacdeeemaaSig
namespace Go.Proofs.Ytknkdgacdeeemaa
open Go.ChangeShapes Go.WideShapes Go.ChangeAt Go.RowKit
open Shp

theorem own : ownKnob Try.prog.godebug = none := by kernel_rfl
theorem laidOut : laidOutB Try.prog = true := by kernel_rfl

def sigS : Shp SigT := (two int int).by_ fun s => (s.i, s.o)

theorem o_int64 : Opens Try.prog 2 int := opens_int Try.underlying2 (by kernel_rfl)
theorem o_ints : Opens Try.prog 32 (slice int) := opens_slice Try.underlying32 (by kernel_rfl) o_int64
theorem o_sig : Opens Try.prog 23 sigS :=
  Opens.by_ (opens_two Try.underlying23 (by kernel_rfl) rfl rfl o_int64 o_int64) _ (fun p => ⟨p.1, p.2⟩) (fun _ => rfl)

theorem sig_rep {w : World} {F : List Nat} {cs : List Value} {s : SigT} (h : sigS.rep w F cs s) : sigS.val cs = sigV s ∧ inI64 s.i ∧ inI64 s.o := by
  obtain ⟨c1, c2, F1, F2, rfl, rfl, ⟨_, rfl, h1⟩, ⟨_, rfl, h2⟩⟩ := h
  exact ⟨rfl, h1, h2⟩

theorem int_rep {w : World} {F : List Nat} {cs : List Value} {x : Int} (h : int.rep w F cs x) : int.val cs = .int .i64 x ∧ inI64 x := by
  obtain ⟨_, rfl, h1⟩ := h
  exact ⟨rfl, h1⟩

end Go.Proofs.Ytknkdgacdeeemaa
