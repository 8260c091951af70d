/- Rows inside of data of the call's own that are appended to: the walk's rules. Over any program; the table is right ('TabOk'). -/
import Derived.Test.YtachnjinfdagjaaDoorKG
import Derived.Test.YtachnjinfdagjaaDoorPK3
set_option linter.unusedSimpArgs false
set_option linter.unusedVariables false
namespace Go.Proofs.YtachnjinfdagjaaDoor
open Go.RowKit
open Shp
theorem RelAt.lim {w0 : W0} {S : AState} {a : Act} {w : World} {μ : Lay} {who : Nat → Option Nat} (h : RelAt w0 S a w μ who) {i N : Nat} (hi : S.heap i = .free) (hN : N ≤ w0.w.heap.size) (hp : w0.p 70000 = none) : RelAt w0 (S.write i (.lim N)) a w (upd μ i none) who :=
  h.new hi (Keeps.refl _ _) (p := none) (fun b d e => by cases e) rfl fun _ => ⟨⟨hN, hp⟩, upd_same _ _ _⟩
section
variable {lv : Nat → List Nat} {P : Program} {tab : Tab} {n : Nat} {sl : List (Nat × PV)} {hl : List (Nat × Block)} {Q : Exit → AState → Prop}
end
end Go.Proofs.YtachnjinfdagjaaDoor

