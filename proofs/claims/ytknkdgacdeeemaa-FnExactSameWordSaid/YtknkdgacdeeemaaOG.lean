/- What the types of the arguments of the statements read as. No conditions but those that each theorem names. -/
import Derived.Test.YtknkdgacdeeemaaTab
import Derived.Test.YtknkdgacdeeemaaGD
import Derived.Test.YtknkdgacdeeemaaGFrame
import Derived.Test.YtknkdgacdeeemaaTM
import Derived.Test.YtknkdgacdeeemaaChecked
set_option linter.unusedSimpArgs false
set_option linter.unusedVariables false
namespace Go.Proofs.Ytknkdgacdeeemaa
open Go.RowKit
open Shp

theorem OG.weaken {P : Program} {t : TypeId} {α : Type} {f : α → List GV} {V : α → Prop} (h : OG P t f V) : OG P t f (fun _ => True) := ⟨h.len, h.one, fun enc W fuel cs d ps hd hz => by obtain ⟨x, _, hx⟩ := h.op enc W fuel cs d ps hd hz; exact ⟨x, trivial, hx⟩⟩

theorem isOwn : ownKnob Try.prog.godebug = none := by kernel_rfl
theorem isLaid : laidOutB Try.prog = true := by kernel_rfl
theorem og_int : OG Try.prog 2 (fun x : Int => [.i x]) (fun x => -9223372036854775808 ≤ x ∧ x ≤ 9223372036854775807) := OG_int Try.underlying2 (by kernel_rfl)
theorem og_Int64S : OG Try.prog 32 (fun xs : List Int => [GV.ints xs]) (fun _ => True) := OG.weaken (OG_slice (sz := 1) GV.i false (fun _ => rfl) Try.underlying32 (by kernel_rfl) (by kernel_rfl) (by decide) og_int)
set_option maxRecDepth 100000 in
theorem og_Sig : OG Try.prog 23 (fun x : Int × Int => [.i x.1, .i x.2]) (fun _ => True) := OG.weaken (OG_st2 Try.underlying23 (by kernel_rfl) rfl rfl og_int og_int)
set_option maxRecDepth 100000 in
theorem og_Word : OG Try.prog 46 (fun x : List Int × List Int => [.ints x.1, .ints x.2]) (fun _ => True) := OG.weaken (OG_st2 Try.underlying46 (by kernel_rfl) rfl rfl og_Int64S og_Int64S)
set_option maxRecDepth 100000 in
theorem og_Clause : OG Try.prog 34 (fun x : Int × List Int × List Int => [.i x.1, .ints x.2.1, .ints x.2.2]) (fun _ => True) := OG.weaken (OG_st3 Try.underlying34 (by kernel_rfl) rfl rfl rfl og_int og_Int64S og_Int64S)


end Go.Proofs.Ytknkdgacdeeemaa
