/- The library's sort of no number. No conditions. -/
import Derived.Shelf.SortM.SortNone
import Derived.Test.YtbjonekgeidoiaaSO
set_option linter.unusedSimpArgs false
set_option linter.unusedVariables false
namespace Go.Proofs.Ytbjonekgeidoiaa
open Go.RowKit
open Shp

theorem sort_nil : Con Try.prog 153 [.ints []] (.tup []) :=
  ⟨enter_row_sort, fun w args hl hg => by
    match args, hl with
    | [v], _ =>
      obtain ⟨F, g0⟩ := hg 0 (by simp)
      simp only [List.getElem_cons_zero] at g0
      obtain ⟨a, cap, els, Fs, rfl, _, _⟩ := g0.slice
      refine (AnyM.slices_Sort_int_none Try.laysSort a cap w).mono fun e w' hq => ?_
      obtain ⟨rfl, rfl⟩ := hq
      exact ⟨_, [], rfl, .tup [] [] [] rfl rfl (fun i hi => by simp at hi), .tup [] [] rfl (fun i hi => by simp at hi), List.nodup_nil, by simp, Keeps.refl _ _⟩⟩
end Go.Proofs.Ytbjonekgeidoiaa

