/- The library's strings.Split at one byte, as a contract. No conditions but those that each theorem names. -/
import Derived.Test.YtachnjinfdagjaaDoorTC
set_option linter.unusedSimpArgs false
set_option linter.unusedVariables false
namespace Go.Proofs.YtachnjinfdagjaaDoor
open Go.RowKit Go.Shelf Go.Lib
open Shp
section
variable {P : Program} {ρ : Ren}
theorem count_one' (s : ByteArray) (c : UInt8) : ((Lib.countByte s.data.toList c : Nat) : Int) = (Lib.countB s ⟨#[c]⟩ : Int) := by
  show _ = ((Lib.count s.data.toList [c] : Nat) : Int)
  rw [Lib.count_one]
  rfl
theorem gen_one (L : Lays.n221 P ρ) (hi9 : (P.info? (ρ.t 9)).map (fun i => (i.zero, i.size, i.bytes)) = some (some (.string ByteArray.empty), 1, 16)) (s : ByteArray) (c : UInt8) (w : World) (hs : s.size < 4294967281) :
    Calls P (ρ.f 221) #[.string s, .string ⟨#[c]⟩, .int .i64 0, .int .i64 (-1)] w fun e w' =>
      e = .returned (.slice (some ⟨w.heap.size, 0, none⟩) (Lib.countB s ⟨#[c]⟩ + 1) (Lib.countB s ⟨#[c]⟩ + 1)) ∧ w' = w.alloc (.cells ((Lib.splitB ⟨#[c]⟩ 0 (Lib.countB s ⟨#[c]⟩) s).map Value.string).toArray (ρ.t 9)) := by
  have hle := Lib.countB_le ⟨#[c]⟩ (Nat.le_refl _) s.size s (Nat.le_refl _)
  have hlen := Lib.splitB_all ⟨#[c]⟩ (Nat.le_refl _) 0 _ s rfl
  have k := Any.strings_genSplit_core L hi9 s ⟨#[c]⟩ 0 (-1) (Lib.countB s ⟨#[c]⟩ + 1) w hs (Nat.le_refl _) (Nat.zero_le _)
    (fun x d _ => (Any.strings_Index_one { L with } x c _).mono fun e w' ⟨he, hw⟩ => ⟨by rw [he, ← Lib.index_one], hw⟩)
    ((Any.strings_Count_one { L with } s c w).mono fun e w' ⟨he, hw⟩ => ⟨by rw [he, count_one'], hw⟩)
    (by decide) (by decide) (by rw [if_pos (by decide)]; omega)
  rw [Nat.add_sub_cancel, hlen] at k
  have e2 := Lib.cellsOf_full (Lib.splitB ⟨#[c]⟩ 0 (Lib.countB s ⟨#[c]⟩) s)
  rw [hlen] at e2
  rw [e2] at k
  exact k
set_option maxHeartbeats 1000000 in
theorem split_one (L : Lays.n146 P ρ) (hi9 : (P.info? (ρ.t 9)).map (fun i => (i.zero, i.size, i.bytes)) = some (some (.string ByteArray.empty), 1, 16)) (s : ByteArray) (c : UInt8) (w : World) (hs : s.size < 4294967281) :
    Calls P (ρ.f 146) #[.string s, .string ⟨#[c]⟩] w fun e w' =>
      e = .returned (.slice (some ⟨w.heap.size, 0, none⟩) (Lib.countB s ⟨#[c]⟩ + 1) (Lib.countB s ⟨#[c]⟩ + 1)) ∧ w' = w.alloc (.cells ((Lib.splitB ⟨#[c]⟩ 0 (Lib.countB s ⟨#[c]⟩) s).map Value.string).toArray (ρ.t 9)) := by
  have k := gen_one (P := P) (ρ := ρ) { L with } hi9 s c w hs
  have t3 := L.t3; have t9 := L.t9; have t31 := L.t31
  have a3 := L.a3; have a9 := L.a9; have a31 := L.a31
  have z3 := L.z3; have v3 := L.v3; have z9 := L.z9; have v9 := L.v9; have z31 := L.z31; have v31 := L.v31
  have e221 : ∀ args w, (callFunc (ρ.f 221) args).run P w = .ok (.enter (ρ.f 221) args) w := enters_of L.f221 (by kernel_rfl) rfl
  go_enter L.f146, Body.n146_ntmps ρ
  go_wp2_with (go_at_fn (ρ.f 221); refine k.mono ?_; rintro e w' ⟨rfl, hw⟩; rw [hw])
  go_ret
  exact ⟨rfl, rfl⟩
end
theorem gives_strs (w : World) (t : TypeId) (ys : List ByteArray) (h : ys.length ≤ 9223372036854775807) : Gives w (.sl 1 (ys.map GV.str)) (.returned (.slice (some ⟨w.heap.size, 0, none⟩) ys.length ys.length)) (w.alloc (.cells (ys.map Value.string).toArray t)) := by
  have hrow : (w.alloc (.cells (ys.map Value.string).toArray t)).heap[w.heap.size]? = some (.cells (ys.map Value.string).toArray t (0, 0)) := by
    show (w.heap.push _)[w.heap.size]? = some _
    simp
  have hcell : ∀ i, i < ys.length → ∃ x, ys[i]? = some x ∧ (w.alloc (.cells (ys.map Value.string).toArray t)).cell? (sAt (some ⟨w.heap.size, 0, none⟩) i) = some (.string x) ∧ (w.alloc (.cells (ys.map Value.string).toArray t)).frozen? (sAt (some ⟨w.heap.size, 0, none⟩) i) = false := fun i hi => by
    refine ⟨ys[i], List.getElem?_eq_getElem hi, ?_, ?_⟩
    · have : sAt (some ⟨w.heap.size, 0, none⟩) i = ⟨w.heap.size, i, none⟩ := by simp [sAt, Addr.add]; omega
      rw [this, cell_of_row _ _ _ _ _ _ hrow]
      simp [hi]
    · have : sAt (some ⟨w.heap.size, 0, none⟩) i = ⟨w.heap.size, i, none⟩ := by simp [sAt, Addr.add]; omega
      rw [this]
      exact frozen_of_row _ _ _ _ _ hrow
  have hG : GRep (w.alloc (.cells (ys.map Value.string).toArray t)) (own (some ⟨w.heap.size, 0, none⟩) ys.length ++ (List.replicate ys.length ([] : List Nat)).flatten) (.slice (some ⟨w.heap.size, 0, none⟩) (ys.map GV.str).length ys.length) (.sl 1 (ys.map GV.str)) :=
    GRep.sl (some ⟨w.heap.size, 0, none⟩) ys.length 1 (ys.map Value.string) (ys.map GV.str) (List.replicate ys.length []) (by simp) (by simp) (by omega) (by intro x hx; obtain ⟨y, _, rfl⟩ := List.mem_map.1 hx; rfl) (by simp) h (by intro e; cases e)
      (by rintro p e _; cases e; exact ⟨rfl, by simp⟩)
      (fun k hk => by
        have hk' : k < ys.length := by simpa using hk
        obtain ⟨x, e1, e2, e3⟩ := hcell k hk'
        have e4 : (ys.map Value.string)[k] = .string x := by
          have := List.getElem?_eq_some_iff.1 e1
          obtain ⟨h1, h2⟩ := this
          simp [h2]
        rw [e4]
        refine ⟨rfl, by simp [Value.cells, Value.oneCell'], fun j hj => ?_⟩
        have : j = 0 := by simp [Value.cells] at hj; omega
        subst this
        rw [Nat.mul_one, Nat.add_zero]
        exact ⟨e2, e3⟩)
      (fun i hi => by
        simp only [List.getElem_map, List.getElem_replicate]
        exact .atom (.str _) rfl)
      (fun i hi => by
        obtain ⟨x, _, e2, e3⟩ := hcell i (by omega)
        exact ⟨by rw [e2]; rfl, e3⟩)
  rw [List.length_map] at hG
  have hF : own (some ⟨w.heap.size, 0, none⟩) ys.length ++ (List.replicate ys.length ([] : List Nat)).flatten = own (some ⟨w.heap.size, 0, none⟩) ys.length := by simp
  rw [hF] at hG
  refine ⟨_, _, rfl, hG, ?_, ?_, fun b hb => ?_, Keeps.alloc _ _ _⟩
  · exact .sl w.heap.size 0 ys.length ys.length 1 _ (ys.map Value.string).toArray ⟨t, false⟩ hrow (by simp)
  · unfold own; split <;> simp
  · have : b = w.heap.size := by unfold own at hb; split at hb <;> simp at hb; exact hb
    subst this
    exact ⟨Nat.le_refl _, _, ⟨t, false⟩, hrow⟩
theorem enter_tc_split (args : Array Value) (w : World) : (callFunc 31 args).run Tryd.prog w = .ok (.enter 31 args) w := callFunc_enter Tryd.func31 (by decide) rfl args w
theorem hi_split : (Tryd.prog.info? (Tryd.lays146_ren.t 9)).map (fun i => (i.zero, i.size, i.bytes)) = some (some (.string ByteArray.empty), 1, 16) := by kernel_rfl
theorem con_split (s : ByteArray) (c : UInt8) (h : NU (s.size < 4294967281)) : Con Tryd.prog 31 [.str s, .str ⟨#[c]⟩] (.sl 1 ((Lib.splitB ⟨#[c]⟩ 0 (Lib.countB s ⟨#[c]⟩) s).map GV.str)) :=
  ⟨enter_tc_split, fun w args hl hg => by
    have hs := h.e
    obtain ⟨F0, g0⟩ := hg 0 (by simp)
    obtain ⟨F1, g1⟩ := hg 1 (by simp)
    match args, hl, g0, g1 with
    | [v, b], _, g0, g1 =>
      have ev : v = .string s := (PRep.g (μ := fun _ => none) (h := fun _ => .free) _ _ _ g0 (by rintro b _ ⟨id, d, h2, _⟩; cases h2)).str_inv
      have eb : b = .string ⟨#[c]⟩ := (PRep.g (μ := fun _ => none) (h := fun _ => .free) _ _ _ g1 (by rintro b _ ⟨id, d, h2, _⟩; cases h2)).str_inv
      subst ev; subst eb
      have hn := Lib.splitB_all ⟨#[c]⟩ (Nat.le_refl _) 0 _ s rfl
      have hle := Lib.countB_le ⟨#[c]⟩ (Nat.le_refl _) s.size s (Nat.le_refl _)
      refine (split_one Tryd.lays146 hi_split s c w hs).mono fun e w' ⟨he, hw⟩ => ?_
      subst he; subst hw
      rw [← hn]
      exact gives_strs _ _ _ (by omega)⟩
end Go.Proofs.YtachnjinfdagjaaDoor

