/- The library's search in an ascending slice of numbers. No conditions but those that each theorem names. -/
import Derived.Test.YtbjonekgeidoiaaSO
import Derived.Test.YtbjonekgeidoiaaIN
import Derived.Deep.LoopGhost
set_option linter.unusedSimpArgs false
set_option linter.unusedVariables false
namespace Go.Proofs.Ytbjonekgeidoiaa
open Go.RowKit
open Shp

theorem enter_search (args : Array Value) (w : World) : (callFunc 188 args).run Try.prog w = .ok (.enter 188 args) w := callFunc_enter Try.func188 (by decide) rfl args w
set_option maxHeartbeats 2000000 in
set_option maxRecDepth 1000000 in
theorem search_none (a : Option Addr) (c : Nat) (x : Int) (w : World) :
    Calls Try.prog 188 #[.slice a 0 c, .int .i64 x] w fun e w' => e = .returned (.tuple #[.int .i64 0, .bool false]) ∧ w' = w := by
  go_enter Try.func188, Try.ntmps188
  go_wp2
  go_loopg [7, 8] 0 (fun _ s7 s8 wr => s7 = .int .i64 0 ∧ s8 = .int .i64 0 ∧ wr = w)
  case atStart => exact ⟨rfl, rfl, rfl⟩
  case round =>
    obtain ⟨rfl, rfl, rfl⟩ := hrel
    go_wp2
    go_ret2
    exact ⟨rfl, rfl⟩
/-- where it would stand -/
def posZ (xs : List Int) (x : Int) : Int := (xs.countP (· < x) : Nat)
theorem Keeps.ofDrewN (w : World) (q : Nat) : Keeps [] w (w.drewN q) := Keeps.drewN [] w q
theorem search_con (xs : List Int) (x : Int) (h : HY (Asc xs)) (hl : NU (xs.length ≤ 4611686018427387903)) : Con Try.prog 188 [.ints xs, .i x] (.tup [.i (posZ xs x), .bool (has xs x)]) := by
  have hl := hl.e
  have h := h.e
  refine ⟨enter_search, fun w args hlen hg => ?_⟩
  match args, hlen with
  | [v, u], _ =>
    obtain ⟨F, g0⟩ := hg 0 (by simp)
    obtain ⟨G, g1⟩ := hg 1 (by simp)
    simp only [List.getElem_cons_zero] at g0
    simp only [List.getElem_cons_succ, List.getElem_cons_zero] at g1
    obtain rfl := g1.int_inv
    obtain ⟨a, cap, rfl, hi⟩ := IntsV.of g0
    have fin : ∀ w', Keeps [] w w' → Gives w (.tup [.i (posZ xs x), .bool (has xs x)]) (.returned (.tuple #[.int .i64 (posZ xs x), .bool (has xs x)])) w' := fun w' hk =>
      ⟨_, [], rfl, .tup [.int .i64 (posZ xs x), .bool (has xs x)] [.i (posZ xs x), .bool (has xs x)] [[], []] rfl rfl (fun i hi => by
        match i, hi with
        | 0, _ => exact .atom (GV.i _) rfl
        | 1, _ => exact .atom (GV.bool _) rfl), .tup [.int .i64 (posZ xs x), .bool (has xs x)] [.i (posZ xs x), .bool (has xs x)] rfl (fun i hi => by
        match i, hi with
        | 0, _ => exact .atom (GV.i _) rfl
        | 1, _ => exact .atom (GV.bool _) rfl), List.nodup_nil, by simp, hk⟩
    by_cases h0 : xs.length = 0
    · have e0 : xs = [] := List.eq_nil_of_length_eq_zero h0
      subst e0
      exact (search_none a cap x w).mono fun e w' ⟨he, hw⟩ => by subst he; subst hw; exact fin _ (Keeps.refl _ _)
    · obtain ⟨b, o, rfl⟩ := hi.isSome (by omega)
      have hc : ∀ j, j < xs.length → w.cell? ⟨b, o + j, none⟩ = some (.int .i64 (xs.getD j 0)) := fun j hj => by
        have := hi.cell j hj
        rw [sAt_some] at this
        rw [this]; rfl
      have e1 : xs.take xs.length = xs := List.take_length
      have := AnyG.slices_BinarySearch_int Try.laysSearch b o xs.length cap xs x w (Nat.le_refl _) (by omega) hc (by rw [e1]; exact List.Pairwise.imp (fun h => by omega) h)
      rw [e1] at this
      refine this.mono fun e w' hq => ?_
      obtain ⟨rfl, q, rfl⟩ := hq
      have e2 : xs.contains x = has xs x := by
        rw [Bool.eq_iff_iff, has_iff]; simp
      rw [e2]
      exact fin _ (Keeps.ofDrewN w q)
end Go.Proofs.Ytbjonekgeidoiaa

