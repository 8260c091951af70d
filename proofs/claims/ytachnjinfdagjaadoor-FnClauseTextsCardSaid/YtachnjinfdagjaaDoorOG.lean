/- What the types of the arguments of the statements read as. No conditions but those that each theorem names. -/
import Derived.Test.YtachnjinfdagjaaDoorTab
import Derived.Test.YtachnjinfdagjaaDoorKG
import Derived.Test.YtachnjinfdagjaaDoorGFrame
import Derived.Test.YtachnjinfdagjaaDoorTM
import Derived.Test.YtachnjinfdagjaaDoorChecked
set_option linter.unusedSimpArgs false
set_option linter.unusedVariables false
namespace Go.Proofs.YtachnjinfdagjaaDoor
open Go.RowKit
open Shp
theorem isOwn : ownKnob Tryd.prog.godebug = none := by kernel_rfl
theorem isLaid : laidOutB Tryd.prog = true := by kernel_rfl
theorem io : Tryd.prog.initOrder.toList = (([104, 97, 114, 110, 101, 115, 115] : List Nat).map Char.ofNat) ++ Char.ofNat 32 :: ((([56, 57, 53, 50, 50, 101, 99, 102, 57, 56, 97, 97, 56, 98, 56, 48, 100, 53, 102, 53, 102, 49, 54, 99, 49, 52, 51, 53, 48, 97, 49, 101, 52, 55, 100, 49, 56, 102, 54, 49, 55, 49, 54, 52, 53, 53, 100, 53, 51, 54, 101, 102, 57, 54, 98, 56, 55, 97, 52, 99, 99, 98, 98, 100] : List Nat).map Char.ofNat) ++ Char.ofNat 32 :: ((([99, 117, 116] : List Nat).map Char.ofNat) ++ Char.ofNat 32 :: (([97, 116, 32, 108, 111, 111, 112, 46, 101, 120, 97, 109, 112, 108, 101, 47, 103, 48, 48, 56, 54, 57, 47, 108, 97, 119, 115, 46, 70, 110, 69, 120, 97, 99, 116, 67, 108, 97, 117, 115, 101, 84, 101, 120, 116, 32, 108, 111, 111, 112, 46, 101, 120, 97, 109, 112, 108, 101, 47, 103, 48, 48, 56, 54, 57, 47, 108, 97, 119, 115, 46, 70, 110, 69, 120, 97, 99, 116, 84, 101, 120, 116, 67, 108, 97, 117, 115, 101, 32, 108, 111, 111, 112, 46, 101, 120, 97, 109, 112, 108, 101, 47, 103, 48, 48, 56, 54, 57, 47, 108, 97, 119, 115, 46, 70, 110, 67, 108, 97, 117, 115, 101, 84, 101, 120, 116, 115] : List Nat).map Char.ofNat))) :=
  (congrArg String.toList (by kernel_rfl : Tryd.prog.initOrder = String.ofList (([104, 97, 114, 110, 101, 115, 115, 32, 56, 57, 53, 50, 50, 101, 99, 102, 57, 56, 97, 97, 56, 98, 56, 48, 100, 53, 102, 53, 102, 49, 54, 99, 49, 52, 51, 53, 48, 97, 49, 101, 52, 55, 100, 49, 56, 102, 54, 49, 55, 49, 54, 52, 53, 53, 100, 53, 51, 54, 101, 102, 57, 54, 98, 56, 55, 97, 52, 99, 99, 98, 98, 100, 32, 99, 117, 116, 32, 97, 116, 32, 108, 111, 111, 112, 46, 101, 120, 97, 109, 112, 108, 101, 47, 103, 48, 48, 56, 54, 57, 47, 108, 97, 119, 115, 46, 70, 110, 69, 120, 97, 99, 116, 67, 108, 97, 117, 115, 101, 84, 101, 120, 116, 32, 108, 111, 111, 112, 46, 101, 120, 97, 109, 112, 108, 101, 47, 103, 48, 48, 56, 54, 57, 47, 108, 97, 119, 115, 46, 70, 110, 69, 120, 97, 99, 116, 84, 101, 120, 116, 67, 108, 97, 117, 115, 101, 32, 108, 111, 111, 112, 46, 101, 120, 97, 109, 112, 108, 101, 47, 103, 48, 48, 56, 54, 57, 47, 108, 97, 119, 115, 46, 70, 110, 67, 108, 97, 117, 115, 101, 84, 101, 120, 116, 115] : List Nat).map Char.ofNat))).trans (String.toList_ofList.trans (by kernel_rfl))
theorem ws : behindMainWord (wordsSigns Tryd.prog.initOrder.toList) = "cut".toList :: wordsSigns (([97, 116, 32, 108, 111, 111, 112, 46, 101, 120, 97, 109, 112, 108, 101, 47, 103, 48, 48, 56, 54, 57, 47, 108, 97, 119, 115, 46, 70, 110, 69, 120, 97, 99, 116, 67, 108, 97, 117, 115, 101, 84, 101, 120, 116, 32, 108, 111, 111, 112, 46, 101, 120, 97, 109, 112, 108, 101, 47, 103, 48, 48, 56, 54, 57, 47, 108, 97, 119, 115, 46, 70, 110, 69, 120, 97, 99, 116, 84, 101, 120, 116, 67, 108, 97, 117, 115, 101, 32, 108, 111, 111, 112, 46, 101, 120, 97, 109, 112, 108, 101, 47, 103, 48, 48, 56, 54, 57, 47, 108, 97, 119, 115, 46, 70, 110, 67, 108, 97, 117, 115, 101, 84, 101, 120, 116, 115] : List Nat).map Char.ofNat) := (words3 io (by kernel_rfl) (by kernel_rfl) (by kernel_rfl) (by kernel_rfl) (by kernel_rfl)).trans (by kernel_rfl)
theorem mayEnter_ok : Tryd.prog.mayEnter = true := mayEnter_of ws (by kernel_rfl) (by kernel_rfl) (by kernel_rfl)
theorem make_ok : Tryd.prog.make = some .cut := make_of ws
theorem lifts_ok : Tryd.prog.liftsFinal = false := lifts_of ws
theorem og_Bytes : OG Tryd.prog 35 (fun xs : List Int => [GV.sl 1 (xs.map (GV.int .u8))]) (fun xs => ∀ x ∈ xs, 0 ≤ x ∧ x ≤ 255) := OG_slice (sz := 1) (GV.int .u8) false (fun _ => rfl) Tryd.underlying35 (by kernel_rfl) (by kernel_rfl) (by decide) (OG_u8 Tryd.underlying5 (by kernel_rfl))
end Go.Proofs.YtachnjinfdagjaaDoor

