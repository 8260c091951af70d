/- What the types of the arguments of the statements read as. No conditions but those that each theorem names. -/
import Derived.Test.YtabfpoflhacknaaTab
import Derived.Test.YtabfpoflhacknaaKG
import Derived.Test.YtabfpoflhacknaaGFrame
import Derived.Test.YtabfpoflhacknaaTM
import Derived.Test.YtabfpoflhacknaaChecked
set_option linter.unusedSimpArgs false
set_option linter.unusedVariables false
namespace Go.Proofs.Ytabfpoflhacknaa
open Go.RowKit
open Shp

theorem OG.weaken {P : Program} {t : TypeId} {α : Type} {f : α → List GV} {V : α → Prop} (h : OG P t f V) : OG P t f (fun _ => True) := ⟨h.len, h.one, fun enc W fuel cs d ps hd hz => by obtain ⟨x, _, hx⟩ := h.op enc W fuel cs d ps hd hz; exact ⟨x, trivial, hx⟩⟩

theorem isOwn : ownKnob Try.prog.godebug = none := by kernel_rfl
theorem isLaid : laidOutB Try.prog = true := by kernel_rfl
theorem io : Try.prog.initOrder.toList = (([104, 97, 114, 110, 101, 115, 115] : List Nat).map Char.ofNat) ++ Char.ofNat 32 :: ((([98, 54, 98, 50, 54, 49, 100, 48, 53, 101, 56, 55, 48, 100, 51, 51, 48, 54, 53, 56, 99, 98, 97, 101, 57, 97, 54, 55, 99, 97, 55, 99, 52, 102, 97, 51, 97, 52, 100, 101, 48, 101, 54, 51, 53, 102, 97, 97, 57, 51, 98, 53, 97, 102, 99, 53, 53, 102, 52, 53, 56, 98, 48, 99] : List Nat).map Char.ofNat) ++ Char.ofNat 32 :: ((([99, 117, 116] : List Nat).map Char.ofNat) ++ Char.ofNat 32 :: (([97, 116, 32, 108, 111, 111, 112, 46, 101, 120, 97, 109, 112, 108, 101, 47, 103, 48, 48, 56, 54, 57, 47, 108, 97, 119, 115, 46, 70, 110, 69, 120, 97, 99, 116, 65, 108, 105, 107, 101, 73, 110, 32, 108, 111, 111, 112, 46, 101, 120, 97, 109, 112, 108, 101, 47, 103, 48, 48, 56, 54, 57, 47, 108, 97, 119, 115, 46, 70, 110, 69, 120, 97, 99, 116, 80, 114, 101, 115, 115, 101, 100, 68, 101, 116, 32, 108, 111, 111, 112, 46, 101, 120, 97, 109, 112, 108, 101, 47, 103, 48, 48, 56, 54, 57, 47, 108, 97, 119, 115, 46, 70, 110, 77, 101, 116, 32, 108, 111, 111, 112, 46, 101, 120, 97, 109, 112, 108, 101, 47, 103, 48, 48, 56, 54, 57, 47, 108, 97, 119, 115, 46, 70, 110, 82, 117, 110, 115] : List Nat).map Char.ofNat))) :=
  (congrArg String.toList (by kernel_rfl : Try.prog.initOrder = String.ofList (([104, 97, 114, 110, 101, 115, 115, 32, 98, 54, 98, 50, 54, 49, 100, 48, 53, 101, 56, 55, 48, 100, 51, 51, 48, 54, 53, 56, 99, 98, 97, 101, 57, 97, 54, 55, 99, 97, 55, 99, 52, 102, 97, 51, 97, 52, 100, 101, 48, 101, 54, 51, 53, 102, 97, 97, 57, 51, 98, 53, 97, 102, 99, 53, 53, 102, 52, 53, 56, 98, 48, 99, 32, 99, 117, 116, 32, 97, 116, 32, 108, 111, 111, 112, 46, 101, 120, 97, 109, 112, 108, 101, 47, 103, 48, 48, 56, 54, 57, 47, 108, 97, 119, 115, 46, 70, 110, 69, 120, 97, 99, 116, 65, 108, 105, 107, 101, 73, 110, 32, 108, 111, 111, 112, 46, 101, 120, 97, 109, 112, 108, 101, 47, 103, 48, 48, 56, 54, 57, 47, 108, 97, 119, 115, 46, 70, 110, 69, 120, 97, 99, 116, 80, 114, 101, 115, 115, 101, 100, 68, 101, 116, 32, 108, 111, 111, 112, 46, 101, 120, 97, 109, 112, 108, 101, 47, 103, 48, 48, 56, 54, 57, 47, 108, 97, 119, 115, 46, 70, 110, 77, 101, 116, 32, 108, 111, 111, 112, 46, 101, 120, 97, 109, 112, 108, 101, 47, 103, 48, 48, 56, 54, 57, 47, 108, 97, 119, 115, 46, 70, 110, 82, 117, 110, 115] : List Nat).map Char.ofNat))).trans (String.toList_ofList.trans (by kernel_rfl))
theorem ws : behindMainWord (wordsSigns Try.prog.initOrder.toList) = "cut".toList :: wordsSigns (([97, 116, 32, 108, 111, 111, 112, 46, 101, 120, 97, 109, 112, 108, 101, 47, 103, 48, 48, 56, 54, 57, 47, 108, 97, 119, 115, 46, 70, 110, 69, 120, 97, 99, 116, 65, 108, 105, 107, 101, 73, 110, 32, 108, 111, 111, 112, 46, 101, 120, 97, 109, 112, 108, 101, 47, 103, 48, 48, 56, 54, 57, 47, 108, 97, 119, 115, 46, 70, 110, 69, 120, 97, 99, 116, 80, 114, 101, 115, 115, 101, 100, 68, 101, 116, 32, 108, 111, 111, 112, 46, 101, 120, 97, 109, 112, 108, 101, 47, 103, 48, 48, 56, 54, 57, 47, 108, 97, 119, 115, 46, 70, 110, 77, 101, 116, 32, 108, 111, 111, 112, 46, 101, 120, 97, 109, 112, 108, 101, 47, 103, 48, 48, 56, 54, 57, 47, 108, 97, 119, 115, 46, 70, 110, 82, 117, 110, 115] : List Nat).map Char.ofNat) := (words3 io (by kernel_rfl) (by kernel_rfl) (by kernel_rfl) (by kernel_rfl) (by kernel_rfl)).trans (by kernel_rfl)
theorem mayEnter_ok : Try.prog.mayEnter = true := mayEnter_of ws (by kernel_rfl) (by kernel_rfl) (by kernel_rfl)
theorem make_ok : Try.prog.make = some .cut := make_of ws
theorem lifts_ok : Try.prog.liftsFinal = false := lifts_of ws
theorem og_int : OG Try.prog 2 (fun x : Int => [.i x]) (fun x => -9223372036854775808 ≤ x ∧ x ≤ 9223372036854775807) := OG_int Try.underlying2 (by kernel_rfl)
theorem og_Int64S : OG Try.prog 29 (fun xs : List Int => [GV.ints xs]) (fun _ => True) := OG.weaken (OG_slice (sz := 1) GV.i false (fun _ => rfl) Try.underlying29 (by kernel_rfl) (by kernel_rfl) (by decide) og_int)
set_option maxRecDepth 100000 in
theorem og_Int64SS : OG Try.prog 24 (fun xs : List (List Int) => [GV.rows xs]) (fun _ => True) := OG.weaken (OG_slice (sz := 1) GV.ints false (fun _ => rfl) Try.underlying24 (by kernel_rfl) (by kernel_rfl) (by decide) og_Int64S)
set_option maxRecDepth 100000 in
theorem og_Sig : OG Try.prog 23 (fun x : Int × Int => [.i x.1, .i x.2]) (fun _ => True) := OG.weaken (OG_st2 Try.underlying23 (by kernel_rfl) rfl rfl og_int og_int)
set_option maxRecDepth 100000 in
theorem og_Pair : OG Try.prog 107 (fun x : List Int × List Int => [.ints x.1, .ints x.2]) (fun _ => True) := OG.weaken (OG_st2 Try.underlying107 (by kernel_rfl) rfl rfl og_Int64S og_Int64S)
set_option maxRecDepth 100000 in
theorem og_PairS : OG Try.prog 25 (fun xs : List (List Int × List Int) => [GV.pairs xs]) (fun _ => True) := OG.weaken (OG_slice (sz := 2) GV.pairP true (fun _ => rfl) Try.underlying25 (by kernel_rfl) (by kernel_rfl) (by decide) og_Pair)
set_option maxRecDepth 100000 in
theorem og_Det : OG Try.prog 27 (fun x : List (List Int) × List (List Int × List Int) => [.rows x.1, .pairs x.2]) (fun _ => True) := OG.weaken (OG_st2 Try.underlying27 (by kernel_rfl) rfl rfl og_Int64SS og_PairS)


end Go.Proofs.Ytabfpoflhacknaa

