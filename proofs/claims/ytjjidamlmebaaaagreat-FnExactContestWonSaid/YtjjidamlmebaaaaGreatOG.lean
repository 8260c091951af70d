/- What the types of the arguments of the statements read as. No conditions but those that each theorem names. -/
import Derived.Test.YtjjidamlmebaaaaGreatTab
import Derived.Test.YtjjidamlmebaaaaGreatKG
import Derived.Test.YtjjidamlmebaaaaGreatGFrame
import Derived.Test.YtjjidamlmebaaaaGreatTM
import Derived.Test.YtjjidamlmebaaaaGreatChecked
set_option linter.unusedSimpArgs false
set_option linter.unusedVariables false
namespace Go.Proofs.YtjjidamlmebaaaaGreat
open Go.RowKit
open Shp
theorem OG.weaken {P : Program} {t : TypeId} {α : Type} {f : α → List GV} {V : α → Prop} (h : OG P t f V) : OG P t f (fun _ => True) := ⟨h.len, h.one, fun enc W fuel cs d ps hd hz => by obtain ⟨x, _, hx⟩ := h.op enc W fuel cs d ps hd hz; exact ⟨x, trivial, hx⟩⟩
theorem ZyL : ownKnob Tryz.prog.godebug = none := by kernel_rfl
theorem ZxE : laidOutB Tryz.prog = true := by kernel_rfl
theorem io : Tryz.prog.initOrder.toList = (([104, 97, 114, 110, 101, 115, 115] : List Nat).map Char.ofNat) ++ Char.ofNat 32 :: ((([97, 49, 51, 100, 98, 52, 48, 51, 102, 100, 102, 50, 101, 54, 101, 54, 53, 57, 53, 99, 54, 101, 98, 51, 100, 57, 102, 53, 50, 100, 52, 49, 97, 98, 56, 102, 101, 52, 49, 52, 55, 51, 50, 57, 49, 97, 53, 53, 51, 55, 55, 57, 53, 53, 55, 100, 50, 50, 102, 53, 54, 99, 55, 52] : List Nat).map Char.ofNat) ++ Char.ofNat 32 :: ((([99, 117, 116] : List Nat).map Char.ofNat) ++ Char.ofNat 32 :: (([97, 116, 32, 108, 111, 111, 112, 46, 101, 120, 97, 109, 112, 108, 101, 47, 103, 48, 48, 56, 54, 57, 47, 108, 97, 119, 115, 46, 70, 110, 69, 120, 97, 99, 116, 77, 97, 99, 104, 105, 110, 101, 87, 105, 110, 115, 32, 108, 111, 111, 112, 46, 101, 120, 97, 109, 112, 108, 101, 47, 103, 48, 48, 56, 54, 57, 47, 108, 97, 119, 115, 46, 70, 110, 69, 120, 97, 99, 116, 67, 111, 110, 116, 101, 115, 116, 87, 111, 110, 32, 108, 111, 111, 112, 46, 101, 120, 97, 109, 112, 108, 101, 47, 103, 48, 48, 56, 54, 57, 47, 108, 97, 119, 115, 46, 70, 110, 69, 120, 97, 99, 116, 87, 105, 110, 110, 105, 110, 103, 73, 110] : List Nat).map Char.ofNat))) :=
 (congrArg String.toList (by kernel_rfl : Tryz.prog.initOrder = String.ofList (([104, 97, 114, 110, 101, 115, 115, 32, 97, 49, 51, 100, 98, 52, 48, 51, 102, 100, 102, 50, 101, 54, 101, 54, 53, 57, 53, 99, 54, 101, 98, 51, 100, 57, 102, 53, 50, 100, 52, 49, 97, 98, 56, 102, 101, 52, 49, 52, 55, 51, 50, 57, 49, 97, 53, 53, 51, 55, 55, 57, 53, 53, 55, 100, 50, 50, 102, 53, 54, 99, 55, 52, 32, 99, 117, 116, 32, 97, 116, 32, 108, 111, 111, 112, 46, 101, 120, 97, 109, 112, 108, 101, 47, 103, 48, 48, 56, 54, 57, 47, 108, 97, 119, 115, 46, 70, 110, 69, 120, 97, 99, 116, 77, 97, 99, 104, 105, 110, 101, 87, 105, 110, 115, 32, 108, 111, 111, 112, 46, 101, 120, 97, 109, 112, 108, 101, 47, 103, 48, 48, 56, 54, 57, 47, 108, 97, 119, 115, 46, 70, 110, 69, 120, 97, 99, 116, 67, 111, 110, 116, 101, 115, 116, 87, 111, 110, 32, 108, 111, 111, 112, 46, 101, 120, 97, 109, 112, 108, 101, 47, 103, 48, 48, 56, 54, 57, 47, 108, 97, 119, 115, 46, 70, 110, 69, 120, 97, 99, 116, 87, 105, 110, 110, 105, 110, 103, 73, 110] : List Nat).map Char.ofNat))).trans (String.toList_ofList.trans (by kernel_rfl))
theorem ws : behindMainWord (wordsSigns Tryz.prog.initOrder.toList) = "cut".toList :: wordsSigns (([97, 116, 32, 108, 111, 111, 112, 46, 101, 120, 97, 109, 112, 108, 101, 47, 103, 48, 48, 56, 54, 57, 47, 108, 97, 119, 115, 46, 70, 110, 69, 120, 97, 99, 116, 77, 97, 99, 104, 105, 110, 101, 87, 105, 110, 115, 32, 108, 111, 111, 112, 46, 101, 120, 97, 109, 112, 108, 101, 47, 103, 48, 48, 56, 54, 57, 47, 108, 97, 119, 115, 46, 70, 110, 69, 120, 97, 99, 116, 67, 111, 110, 116, 101, 115, 116, 87, 111, 110, 32, 108, 111, 111, 112, 46, 101, 120, 97, 109, 112, 108, 101, 47, 103, 48, 48, 56, 54, 57, 47, 108, 97, 119, 115, 46, 70, 110, 69, 120, 97, 99, 116, 87, 105, 110, 110, 105, 110, 103, 73, 110] : List Nat).map Char.ofNat) := (ZwF io (by kernel_rfl) (by kernel_rfl) (by kernel_rfl) (by kernel_rfl) (by kernel_rfl)).trans (by kernel_rfl)
theorem ZlT : Tryz.prog.mayEnter = true := Zmc ws (by kernel_rfl) (by kernel_rfl) (by kernel_rfl)
theorem ZtU : Tryz.prog.make = some .cut := Zu2 ws
theorem Zp9 : Tryz.prog.liftsFinal = false := ZqY ws
theorem ZpB : OG Tryz.prog 2 (fun x : Int => [.i x]) (fun x => -9223372036854775808 ≤ x ∧ x ≤ 9223372036854775807) := ZvL Tryz.underlying2 (by kernel_rfl)
theorem ZhU : OG Tryz.prog 45 (fun xs : List Int => [GV.ints xs]) (fun _ => True) := OG.weaken (ZkF (sz := 1) GV.i false (fun _ => rfl) Tryz.underlying45 (by kernel_rfl) (by kernel_rfl) (by decide) ZpB)
set_option maxRecDepth 100000 in
theorem ZnM : OG Tryz.prog 33 (fun xs : List (List Int) => [GV.rows xs]) (fun _ => True) := OG.weaken (ZkF (sz := 1) GV.ints false (fun _ => rfl) Tryz.underlying33 (by kernel_rfl) (by kernel_rfl) (by decide) ZhU)
set_option maxRecDepth 100000 in
theorem Zv4 : OG Tryz.prog 23 (fun x : Int × Int => [.i x.1, .i x.2]) (fun _ => True) := OG.weaken (Zoe Tryz.underlying23 (by kernel_rfl) rfl rfl ZpB ZpB)
set_option maxRecDepth 100000 in
theorem ZuT : OG Tryz.prog 80 (fun x : List Int × List Int => [.ints x.1, .ints x.2]) (fun _ => True) := OG.weaken (Zoe Tryz.underlying80 (by kernel_rfl) rfl rfl ZhU ZhU)
set_option maxRecDepth 100000 in
theorem Zrr : OG Tryz.prog 34 (fun xs : List (List Int × List Int) => [GV.pairs xs]) (fun _ => True) := OG.weaken (ZkF (sz := 2) GV.pairP true (fun _ => rfl) Tryz.underlying34 (by kernel_rfl) (by kernel_rfl) (by decide) ZuT)
set_option maxRecDepth 100000 in
theorem Zwp : OG Tryz.prog 36 (fun x : List (List Int) × List (List Int × List Int) => [.rows x.1, .pairs x.2]) (fun _ => True) := OG.weaken (Zoe Tryz.underlying36 (by kernel_rfl) rfl rfl ZnM Zrr)
end Go.Proofs.YtjjidamlmebaaaaGreat

