/- Abstract states: the operations on memory, one by one. Over any program; the table is right ('TabOk'). -/
import Derived.Test.YtdkjeodenbffnaaA8
namespace Go.Proofs.Ytdkjeodenbffnaa
open Go.RowKit
open Shp

section
variable {P : Program} {tab : Tab} {w0 : World} {S : AState} {a : Act} {w : World} {μ : Lay} {who : Nat → Option Nat}

/-! alloc, box -/

def aAlloc (tab : Tab) (nid : Nat) (h : Nat → Block) (elem : TypeId) : Option (PV × List (Nat × Block)) :=
  match tab elem with
  | some ti => if isFree (h nid) then some (.ptr nid 0, [(nid, .box ti.zero)]) else none
  | none => none

theorem op_alloc (ht : TabOk P tab) (h : RelAt w0 S a w μ who) {o : Oper} {elem : TypeId} (ho : o.op = .alloc elem) {nid : Nat} {pv : PV} {ws : List (Nat × Block)} (hx : aAlloc tab nid S.heap elem = some (pv, ws)) :
    Does P w0 a (S.writes ws) pv ((execOp a.eval o).run P w) := by
  unfold aAlloc at hx
  split at hx
  · rename_i ti hti
    split at hx
    · rename_i hf
      simp only [Option.some.injEq, Prod.mk.injEq] at hx
      obtain ⟨rfl, rfl⟩ := hx
      obtain ⟨inf, z, d, h1⟩ := ht elem ti hti
      obtain ⟨μ', r1, r2⟩ := h.newBox (isFree_iff hf) z.cells elem ti.zero (by rw [h1.zsize, h1.zlen]) (fun v hv => by
        obtain ⟨k, hk', rfl⟩ := List.getElem_of_mem hv
        have h6 := (h1.zok k (by rw [h1.zlen, ← h1.zsize]; simpa using hk')).1
        simpa [Array.getD, show k < z.cells.size by simpa using hk'] using h6) (fun i hi => (h1.zok i hi).2 w μ S.heap)
      have hrun : (execOp a.eval o).run P w = .ok (.value (.pointer (some ⟨w.heap.size, 0, none⟩))) (w.alloc (.cells z.cells elem)) := by
        unfold execOp; simp [ho, Instr.alloc, zeroValue, typeInfo, h1.info, h1.zero, newVar, newRow]
      rw [hrun]
      exact ⟨μ', who, r1, r2⟩
    · cases hx
  · cases hx

def aBox (tab : Tab) (nid : Nat) (h : Nat → Block) (elem : TypeId) (x : PV) : Option (PV × List (Nat × Block)) :=
  if isFree (h nid) && x.val then some (.ptr nid 0, [(nid, .box x.cells)]) else none

theorem op_box (h : RelAt w0 S a w μ who) {o : Oper} {elem : TypeId} {x : Operand} (ho : o.op = .box elem x) {nid : Nat} {pv : PV} {ws : List (Nat × Block)} (hx : aBox tab nid S.heap elem (S.ev tab elem x) = some (pv, ws)) :
    Does P w0 a (S.writes ws) pv ((execOp a.eval o).run P w) := by
  unfold aBox at hx
  split at hx
  · rename_i hf
    simp only [Bool.and_eq_true] at hf
    simp only [Option.some.injEq, Prod.mk.injEq] at hx
    obtain ⟨rfl, rfl⟩ := hx
    obtain ⟨c1, c2, c3⟩ := (h.ev tab elem x).cells hf.2
    obtain ⟨μ', r1, r2⟩ := h.newBox (isFree_iff hf.1) (a.eval x).cells elem _ c1 c2 c3
    have hrun : (execOp a.eval o).run P w = .ok (.value (.pointer (some ⟨w.heap.size, 0, none⟩))) (w.alloc (.cells (a.eval x).cells elem)) := by
      unfold execOp; simp [ho, Instr.box, newVar, newRow]
    rw [hrun]
    exact ⟨μ', who, r1, r2⟩
  · cases hx

/-! load -/

def aLoadBox (ti : TI) (off : Nat) (cs : List PV) : Option PV :=
  if ti.kind.agg then (if off + ti.size ≤ cs.length then some (.agg ((cs.drop off).take ti.size)) else none) else cs[off]?

def aLoadImm (ti : TI) (cs : List GV) : Option PV :=
  if ti.kind.agg then (if ti.size ≤ cs.length then some (.g (.agg (cs.take ti.size))) else none) else (cs[0]?).map .g

def GV.isTup : GV → Bool
  | .tup _ => true
  | _ => false

def aLoad (tab : Tab) (h : Nat → Block) (t : TypeId) (p : PV) : Option (PV × List (Nat × Block)) :=
  match tab t with
  | none => none
  | some ti => match p with
    | .ptr id off => match h id with
      | .box cs => (aLoadBox ti off cs).map fun v => (v, [])
      | _ => none
    | .eptr id k j => match h id with
      | .arr e _ xs => match xs[k]? with
        | some x => if x.isTup then none else (aLoadImm ti (x.cells.drop j)).map fun v => (v, [])
        | none => none
      | _ => none
    | .iptr cs => (aLoadImm ti cs).map fun v => (v, [])
    | .g (.box cs) => (aLoadImm ti cs).map fun v => (v, [])
    | _ => none

theorem run_load_agg (ht : TabOk P tab) {t : TypeId} {ti : TI} (hti : tab t = some ti) (hag : ti.kind.agg = true) (p : Addr) (cs : List Value) (hl : cs.length = ti.size) (hc : ∀ j v, cs[j]? = some v → w.cell? (p.add j) = some v) :
    (Instr.loadAt t (.pointer (some p))).run P w = .ok (.agg cs.toArray) w := by
  have h1 := run_loadCells_list (P := P) w p cs hc
  rw [hl] at h1
  simp [Instr.loadAt, Instr.sureAddr, loadVar, ht.agg hti, ht.sizeOf hti, hag, h1]

theorem run_load_one (ht : TabOk P tab) {t : TypeId} {ti : TI} (hti : tab t = some ti) (hag : ti.kind.agg = false) (p : Addr) (v : Value) (hc : w.cell? p = some v) :
    (Instr.loadAt t (.pointer (some p))).run P w = .ok v w := by
  simp [Instr.loadAt, Instr.sureAddr, loadVar, ht.agg hti, hag, run_load, hc]

/-- Immutable cells behind an address. -/
structure ImmAt (w : World) (μ : Lay) (h : Nat → Block) (p : Addr) (cs : List GV) (vs : List Value) (Fs : List (List Nat)) : Prop where
  hv : vs.length = cs.length
  hF : Fs.length = cs.length
  hc : ∀ i (hi : i < vs.length), w.cell? (p.add i) = some vs[i] ∧ (vs[i]).oneCell' = true
  hg : ∀ x ∈ cs, x.ncells = 1
  he : ∀ i (hi : i < cs.length), GRep w (Fs[i]'(hF ▸ hi)) (vs[i]'(hv ▸ hi)) cs[i]
  hd : ∀ b ∈ Fs.flatten, ¬ Root μ h b

theorem load_imm (ht : TabOk P tab) (h : RelAt w0 S a w μ who) {t : TypeId} {ti : TI} (hti : tab t = some ti) {p : Addr} {cs : List GV} {vs : List Value} {Fs : List (List Nat)} (hi : ImmAt w μ S.heap p cs vs Fs) {pv : PV} (hx : aLoadImm ti cs = some pv) :
    ∃ v, (Instr.loadAt t (.pointer (some p))).run P w = .ok v w ∧ PRep w μ S.heap v pv := by
  unfold aLoadImm at hx
  split at hx
  · rename_i hag
    split at hx
    · rename_i hle
      simp only [Option.some.injEq] at hx
      subst hx
      have hvl : (vs.take ti.size).length = ti.size := by rw [List.length_take, hi.hv]; omega
      refine ⟨_, run_load_agg ht hti hag p (vs.take ti.size) hvl (fun j v hj => ?_), .g _ _ (Fs.take ti.size).flatten (.agg (vs.take ti.size) (cs.take ti.size) (Fs.take ti.size) (by simp [hi.hv]) (by simp [hi.hF]) (fun v hv => ?_) (fun x hx => hi.hg x (List.mem_of_mem_take hx)) (fun k hk => ?_)) (fun b hb => hi.hd b ((sub_flat (List.take_sublist _ _)).subset hb))⟩
      · obtain ⟨hj', rfl⟩ := List.getElem?_eq_some_iff.1 hj
        rw [List.getElem_take]
        exact (hi.hc j (by simp at hj'; omega)).1
      · obtain ⟨k, hk, rfl⟩ := List.getElem_of_mem hv
        rw [List.getElem_take]
        exact (hi.hc k (by simp at hk; omega)).2
      · simp only [List.getElem_take]
        exact hi.he k (by simp at hk; omega)
    · cases hx
  · rename_i hag
    cases hc : cs[0]? with
    | none => simp [hc] at hx
    | some x =>
      simp only [hc, Option.map_some, Option.some.injEq] at hx
      subst hx
      obtain ⟨h0, rfl⟩ := List.getElem?_eq_some_iff.1 hc
      have h0' : 0 < vs.length := by rw [hi.hv]; exact h0
      have h1 := (hi.hc 0 h0').1
      have e0 : p.add 0 = p := by simp [Addr.add]
      rw [e0] at h1
      exact ⟨_, run_load_one ht hti (by simpa using hag) p _ h1, .g _ _ _ (hi.he 0 h0) fun b hb => hi.hd b (getElem_mem_flatten _ hb)⟩

theorem add_add (p : Addr) (hs : p.spot = none) (i j : Nat) : (p.add i).add j = p.add (i + j) := by
  obtain ⟨b, o, s⟩ := p
  simp only at hs
  subst hs
  rw [Addr.add_mid, Addr.add_mid, Addr.add_mid, Nat.add_assoc]

theorem ImmAt.drop {p : Addr} {cs : List GV} {vs : List Value} {Fs : List (List Nat)} {h : Nat → Block} (hi : ImmAt w μ h p cs vs Fs) (hs : p.spot = none) (n : Nat) : ImmAt w μ h (p.add n) (cs.drop n) (vs.drop n) (Fs.drop n) :=
  ⟨by simp [hi.hv], by simp [hi.hF], fun i hk => by
    rw [add_add p hs, List.getElem_drop]
    exact hi.hc (n + i) (by simp at hk; omega), fun x hx => hi.hg x (List.mem_of_mem_drop hx), fun i hk => by
    simp only [List.getElem_drop]
    exact hi.he (n + i) (by simp at hk; omega), fun b hb => hi.hd b ((sub_flat (List.drop_sublist _ _)).subset hb)⟩

/-- The cells of an element, where they lie. -/
theorem GRep.imm {F : List Nat} {v : Value} {x : GV} {h : Nat → Block} (hg : GRep w F v x) (hd : ∀ b ∈ F, ¬ Root μ h b) (ht : ∀ vs, x ≠ .tup vs) {p : Addr} (hc : ∀ j (hj : j < v.cells.size), w.cell? (p.add j) = some v.cells[j]) :
    ∃ vs Fs, ImmAt w μ h p x.cells vs Fs := by
  by_cases hs : x.scal = true
  · have h1 := hg.scal_one hs
    have h2 : x.cells = [x] := by cases x <;> simp_all [GV.cells, GV.scal]
    have h3 := hg.one_of hs
    refine ⟨[v], [F], by rw [h2]; rfl, by rw [h2]; rfl, fun i hi => ?_, by rw [h2]; simpa using h1.2, fun i hi => ?_, by simpa using hd⟩
    · have : i = 0 := by simp at hi; omega
      subst this
      have h4 := hc 0 (by rw [h3]; simp)
      simp only [h3] at h4
      exact ⟨by simpa using h4, h1.1⟩
    · have : i = 0 := by rw [h2] at hi; simp at hi; omega
      subst this
      have e2 : x.cells[0]'hi = x := by simp [h2]
      rw [e2]; exact hg
  · cases hg with
    | agg vs gs Fs hv hF h1 hg' hh =>
      refine ⟨vs, Fs, hv, hF, fun i hi => ⟨?_, h1 _ (List.getElem_mem _)⟩, hg', hh, hd⟩
      have := hc i (by simpa [Value.cells] using hi)
      simpa [Value.cells] using this
    | tup vs gs => exact absurd rfl (ht gs)
    | atom x hx => cases x <;> simp_all [GV.atom, GV.scal]
    | fn | box | sl => simp [GV.scal] at hs

end
end Go.Proofs.Ytdkjeodenbffnaa
