/- Abstract states: literals of structures and slices, make, conversions, length, append. Over any program; the table is right ('TabOk'). -/
import Derived.Test.YtdkjeodenbffnaaA12
namespace Go.Proofs.Ytdkjeodenbffnaa
open Go.RowKit
open Shp

section
variable {P : Program} {tab : Tab} {w0 : World} {S : AState} {a : Act} {w : World} {μ : Lay} {who : Nat → Option Nat}

/-! x.f of a value -/

def aPart (tab : Tab) (t : TypeId) (x : PV) (f : Nat) : Option (PV × List (Nat × Block)) :=
  match tab t with
  | none => none
  | some ti => match ti.kind with
    | .st fs => match fs[f]? with
      | none => none
      | some (off, ft) => match tab ft with
        | none => none
        | some fi => match x with
          | .agg cs => if fi.kind.agg then (if off + fi.size ≤ cs.length then some (.agg ((cs.drop off).take fi.size), []) else none) else (match cs[off]? with | some y => some (y, []) | none => none)
          | .g (.agg gs) => if fi.kind.agg then none else (match gs[off]? with | some y => some (.g y, []) | none => none)
          | _ => none
    | _ => none

theorem op_field (ht : TabOk P tab) (h : RelAt w0 S a w μ who) {o : Oper} {t : TypeId} {x : Operand} {f : Nat} (ho : o.op = .field t x f) {pv : PV} {ws : List (Nat × Block)} (hx : aPart tab t (S.ev tab 0 x) f = some (pv, ws)) :
    Does P w0 a (S.writes ws) pv ((execOp a.eval o).run P w) := by
  have h1 := h.ev tab 0 x
  unfold aPart at hx
  split at hx
  · cases hx
  rename_i ti hti
  split at hx
  · rename_i fs hk
    split at hx
    · cases hx
    rename_i off ft hf
    split at hx
    · cases hx
    rename_i fi hfi
    obtain ⟨inf, z, d, hto⟩ := ht t ti hti
    have hkd := hto.kind
    rw [hk] at hkd
    obtain ⟨fields, rfl, hfs⟩ := hkd
    have hfld : ∃ fd : Field, fields[f]? = some fd ∧ fd.offset = off ∧ fd.type = ft := by
      rw [← hfs] at hf
      simp only [List.getElem?_map, Option.map_eq_some_iff] at hf
      obtain ⟨fd, h2, h3⟩ := hf
      simp only [Prod.mk.injEq] at h3
      exact ⟨fd, by simpa using h2, h3.1, h3.2⟩
    obtain ⟨fd, hfd, rfl, rfl⟩ := hfld
    split at hx
    · rename_i cs e1
      rw [e1] at h1
      obtain ⟨vs, hv, hl, h2, h3⟩ := h1.agg_inv
      split at hx
      · rename_i hag
        split at hx
        · rename_i hle
          simp only [Option.some.injEq, Prod.mk.injEq] at hx
          obtain ⟨rfl, rfl⟩ := hx
          refine Does.pure h (v := .agg ((vs.drop fd.offset).take fi.size).toArray) ?_ (.agg _ _ (by simp; omega) (fun u hu => h2 u (List.mem_of_mem_drop (List.mem_of_mem_take hu))) (fun i hi => ?_))
          · unfold execOp
            have e5 : vs.toArray.extract fd.offset (fd.offset + fi.size) = ((vs.drop fd.offset).take fi.size).toArray := by
              apply Array.ext'; simp [Array.toList_extract, List.extract_eq_take_drop]
            simp [ho, hv, Instr.field, run_underlying hto.desc, hfd, asAgg, part, ht.agg hfi, hag, ht.sizeOf hfi, e5]
          · simp only [List.getElem_take, List.getElem_drop]
            exact h3 _ (by simp at hi; omega)
        · cases hx
      · rename_i hag
        split at hx
        · rename_i y hy
          simp only [Option.some.injEq, Prod.mk.injEq] at hx
          obtain ⟨rfl, rfl⟩ := hx
          obtain ⟨hi, rfl⟩ := List.getElem?_eq_some_iff.1 hy
          refine Does.pure h (v := vs[fd.offset]'(by omega)) ?_ (h3 _ hi)
          unfold execOp
          have hi' : fd.offset < vs.length := by omega
          simp [ho, hv, Instr.field, run_underlying hto.desc, hfd, asAgg, part, ht.agg hfi, hag, hi']
        · cases hx
    · rename_i gs e1
      rw [e1] at h1
      obtain ⟨F, hg, hd⟩ := h1.g_inv
      split at hx
      · cases hx
      · rename_i hag
        split at hx
        · rename_i y hy
          simp only [Option.some.injEq, Prod.mk.injEq] at hx
          obtain ⟨rfl, rfl⟩ := hx
          obtain ⟨hi, rfl⟩ := List.getElem?_eq_some_iff.1 hy
          generalize hu : a.eval x = u at hg
          cases hg with
          | atom x hx => simp [GV.atom] at hx
          | agg vs gs Fs hv hF h1' hg' hh =>
            have hi' : fd.offset < vs.length := by omega
            refine Does.pure h (v := vs[fd.offset]) ?_ (.g _ _ _ (hh _ hi) fun b hb => hd b (getElem_mem_flatten _ hb))
            unfold execOp
            simp [ho, hu, Instr.field, run_underlying hto.desc, hfd, asAgg, part, ht.agg hfi, hag, hi']
        · cases hx
    · cases hx
  · cases hx

/-! structures -/

def aFill (place : Nat → Option (Nat × Nat)) (cells : List PV) : List (Nat × PV) → Option (List PV)
  | [] => some cells
  | (i, p) :: rest => match place i with
    | none => none
    | some (off, size) => if p.val && p.cells.length == size && decide (off + size ≤ cells.length) then aFill place (setL cells off p.cells) rest else none

theorem foldl_set (off : Nat) : ∀ (vs : List Value) (k : Nat) (cells : Array Value), ((vs.zipIdx k).foldl (fun cs (x : Value × Nat) => cs.setIfInBounds (off + x.2) x.1) cells).size = cells.size ∧ ∀ i, i < cells.size → ((vs.zipIdx k).foldl (fun cs (x : Value × Nat) => cs.setIfInBounds (off + x.2) x.1) cells)[i]? = if off + k ≤ i ∧ i < off + k + vs.length then vs[i - (off + k)]? else cells[i]?
  | [], k, cells => by simp; omega
  | v :: vs, k, cells => by
    obtain ⟨h1, h2⟩ := foldl_set off vs (k + 1) (cells.setIfInBounds (off + k) v)
    simp only [List.zipIdx_cons, List.foldl_cons]
    refine ⟨by rw [h1]; simp, fun i hi => ?_⟩
    rw [h2 i (by simpa using hi)]
    by_cases e : i = off + k
    · subst e
      rw [if_neg (by omega), if_pos (by simp)]
      simp [hi]
    · by_cases h3 : off + (k + 1) ≤ i ∧ i < off + (k + 1) + vs.length
      · rw [if_pos h3, if_pos (by simp; omega)]
        have : i - (off + k) = (i - (off + (k + 1))) + 1 := by omega
        rw [this]; simp
      · rw [if_neg h3, if_neg (by simp; omega)]
        rw [Array.getElem?_setIfInBounds_ne (by omega)]

theorem fill_ok {place : Nat → Option (Nat × Nat)} : ∀ (ps : List (Nat × PV)) (vs : List (Nat × Value)) (hl : vs.length = ps.length), (∀ i (hi : i < ps.length), (vs[i]'(hl ▸ hi)).1 = ps[i].1 ∧ PRep w μ S.heap (vs[i]'(hl ▸ hi)).2 ps[i].2) →
    ∀ (cells : Array Value) (cs : List PV), cells.size = cs.length → (∀ v ∈ cells.toList, v.oneCell' = true) → (∀ i (hi : i < cs.length), PRep w μ S.heap (cells.getD i Go.undef) cs[i]) → ∀ {cs' : List PV}, aFill place cs ps = some cs' →
    ∃ cells', Instr.fill place cells vs = some cells' ∧ cells'.size = cs'.length ∧ (∀ v ∈ cells'.toList, v.oneCell' = true) ∧ (∀ i (hi : i < cs'.length), PRep w μ S.heap (cells'.getD i Go.undef) cs'[i])
  | [], vs, hl, _, cells, cs, h1, h2, h3, cs', hx => by
    simp only [aFill, Option.some.injEq] at hx
    subst hx
    have : vs = [] := List.eq_nil_of_length_eq_zero hl
    subst this
    exact ⟨cells, rfl, h1, h2, h3⟩
  | (i, p) :: ps, vs, hl, hp, cells, cs, h1, h2, h3, cs', hx => by
    cases vs with
    | nil => simp at hl
    | cons v vs =>
      obtain ⟨i', v⟩ := v
      obtain ⟨e1, hv⟩ := hp 0 (by simp)
      simp only [List.getElem_cons_zero] at e1 hv
      subst e1
      unfold aFill at hx
      cases hpl : place i' with
      | none => simp [hpl] at hx
      | some os =>
        obtain ⟨off, size⟩ := os
        simp only [hpl] at hx
        split at hx
        · rename_i hc
          simp only [Bool.and_eq_true, beq_iff_eq, decide_eq_true_eq] at hc
          obtain ⟨⟨c1, c2⟩, c3⟩ := hc
          obtain ⟨d1, d2, d3⟩ := hv.cells c1
          have hcl : off + p.cells.length ≤ cs.length := by omega
          obtain ⟨f1, f2⟩ := foldl_set off v.cells.toList 0 cells
          have hvl : v.cells.toList.length = size := by simpa using d1.trans c2
          have e5 : v.cells.zipIdx.foldl (fun cs (x : Value × Nat) => cs.setIfInBounds (off + x.2) x.1) cells = (v.cells.toList.zipIdx 0).foldl (fun cs (x : Value × Nat) => cs.setIfInBounds (off + x.2) x.1) cells := by
            rw [← Array.foldl_toList]; simp
          have t1 : (v.cells.zipIdx.foldl (fun cs (x : Value × Nat) => cs.setIfInBounds (off + x.2) x.1) cells).size = (setL cs off p.cells).length := by
            rw [e5, f1, setL_len hcl]; exact h1
          have t2 : ∀ u ∈ (v.cells.zipIdx.foldl (fun cs (x : Value × Nat) => cs.setIfInBounds (off + x.2) x.1) cells).toList, u.oneCell' = true := by
            intro u hu
            rw [e5] at hu
            obtain ⟨k, hk, rfl⟩ := List.getElem_of_mem hu
            have hk' : k < cells.size := by rw [Array.length_toList, f1] at hk; exact hk
            have := f2 k hk'
            rw [Array.getElem_toList]
            have hk2 : k < ((v.cells.toList.zipIdx 0).foldl (fun cs (x : Value × Nat) => cs.setIfInBounds (off + x.2) x.1) cells).size := by simpa using hk
            rw [Array.getElem?_eq_getElem hk2] at this
            split at this
            · have h9 := List.mem_of_getElem? this.symm
              exact d2 _ h9
            · rw [Array.getElem?_eq_getElem hk'] at this
              simp only [Option.some.injEq] at this
              rw [this]; exact h2 _ (by simp)
          have t3 : ∀ i (hi : i < (setL cs off p.cells).length), PRep w μ S.heap ((v.cells.zipIdx.foldl (fun cs (x : Value × Nat) => cs.setIfInBounds (off + x.2) x.1) cells).getD i Go.undef) (setL cs off p.cells)[i] := by
            intro k hk
            have hk0 : k < cs.length := by rw [setL_len hcl] at hk; exact hk
            have hk' : k < cells.size := by omega
            have hk2 : k < ((v.cells.toList.zipIdx 0).foldl (fun cs (x : Value × Nat) => cs.setIfInBounds (off + x.2) x.1) cells).size := by rw [f1]; exact hk'
            have := f2 k hk'
            rw [Array.getElem?_eq_getElem hk2] at this
            rw [e5, getD_lt hk2, setL_get hcl hk0]
            by_cases h' : off ≤ k ∧ k < off + p.cells.length
            · rw [dif_pos h']
              rw [if_pos (by omega)] at this
              have h8 := d3 (k - off) (by omega)
              have h9 : k - off < v.cells.size := by omega
              rw [getD_lt h9] at h8
              rw [Nat.add_zero] at this
              rw [List.getElem?_eq_getElem (by simpa using h9)] at this
              simp only [Option.some.injEq] at this
              rw [this]; simpa using h8
            · rw [dif_neg h']
              rw [if_neg (by omega)] at this
              rw [Array.getElem?_eq_getElem hk'] at this
              simp only [Option.some.injEq] at this
              have h8 := h3 k hk0
              rw [getD_lt hk'] at h8
              rw [this]; exact h8
          obtain ⟨c', g1, g2⟩ := fill_ok ps vs (by simpa using hl) (fun k hk => hp (k + 1) (by simpa using hk)) _ _ t1 t2 t3 hx
          refine ⟨c', ?_, g2⟩
          unfold Instr.fill
          simp only [hpl]
          rw [if_neg (by simp only [Bool.or_eq_true, decide_eq_true_eq, not_or]; exact ⟨by omega, by omega⟩)]
          exact g1
        · cases hx

/-- The type of a part. -/
def partTy (ti : TI) (i : Nat) : TypeId :=
  match ti.kind with
  | .st fs => (fs.getD i (0, 0)).2
  | .ar _ E => E
  | _ => 0

def placesOf (tab : Tab) : List (Nat × TypeId) → Option (List (Nat × Nat))
  | [] => some []
  | (off, ft) :: fs => match tab ft, placesOf tab fs with
    | some fi, some ps => some ((off, fi.size) :: ps)
    | _, _ => none

def aBuild (tab : Tab) (t : TypeId) (parts : List (Nat × PV)) : Option (PV × List (Nat × Block)) :=
  match tab t with
  | none => none
  | some ti => match ti.kind with
    | .st fs => match placesOf tab fs with
      | some ps => (match aFill (ps[·]?) ti.zero parts with
        | some cs => some (.agg cs, [])
        | none => none)
      | none => none
    | .ar _ E => match tab E with
      | some ei => (match aFill (fun i => some (i * ei.size, ei.size)) ti.zero parts with
        | some cs => some (.agg cs, [])
        | none => none)
      | none => none
    | _ => none

theorem places_ok (ht : TabOk P tab) : ∀ (fields : List Field) (fs : List (Nat × TypeId)), fields.map (fun f => (f.offset, f.type)) = fs → ∀ {ps : List (Nat × Nat)}, placesOf tab fs = some ps → fields.mapM (fun f => (P.info? f.type).map fun i => (f.offset, i.size)) = some ps
  | [], fs, h, ps, hx => by simp at h; subst h; simp [placesOf] at hx; subst hx; rfl
  | f :: fields, fs, h, ps, hx => by
    simp at h
    subst h
    unfold placesOf at hx
    cases hf : tab f.type with
    | none => simp [hf] at hx
    | some fi =>
      cases hr : placesOf tab (fields.map fun f => (f.offset, f.type)) with
      | none => simp [hf, hr] at hx
      | some rest =>
        simp [hf, hr] at hx
        subst hx
        obtain ⟨inf, z, d, h1⟩ := ht _ _ hf
        simp [List.mapM_cons, h1.info, places_ok ht fields _ rfl hr, h1.size]

theorem op_build (ht : TabOk P tab) (h : RelAt w0 S a w μ who) {o : Oper} {t : TypeId} {parts : Array (Nat × Operand)} (ho : o.op = .build t parts) {ti : TI} (hti : tab t = some ti) {pv : PV} {ws : List (Nat × Block)}
    (hx : aBuild tab t (parts.toList.map fun (i, x) => (i, S.ev tab (partTy ti i) x)) = some (pv, ws)) : Does P w0 a (S.writes ws) pv ((execOp a.eval o).run P w) := by
  obtain ⟨inf, z, d, hto⟩ := ht t ti hti
  have hz1 : ∀ v ∈ z.cells.toList, v.oneCell' = true := fun v hv => by
    obtain ⟨k, hk', rfl⟩ := List.getElem_of_mem hv
    have h6 := (hto.zok k (by rw [hto.zlen, ← hto.zsize]; simpa using hk')).1
    simpa [Array.getD, show k < z.cells.size by simpa using hk'] using h6
  have hz2 : ∀ i (hi : i < ti.zero.length), PRep w μ S.heap (z.cells.getD i Go.undef) ti.zero[i] := fun i hi => (hto.zok i hi).2 w μ S.heap
  have key : ∀ (place : Nat → Option (Nat × Nat)) cs', aFill place ti.zero (parts.toList.map fun (i, x) => (i, S.ev tab (partTy ti i) x)) = some cs' → (∀ cells, Instr.fill place z.cells (parts.toList.map fun (i, x) => (i, a.eval x)) = some cells → P.built t (parts.toList.map fun (i, x) => (i, a.eval x)) = some cells) → Does P w0 a (S.writes []) (.agg cs') ((execOp a.eval o).run P w) := by
    intro place cs' hfl hb
    obtain ⟨cells, g1, g2, g3, g4⟩ := fill_ok (w := w) (μ := μ) (S := S) _ (parts.toList.map fun (i, x) => (i, a.eval x)) (by simp) (fun i hi => by simp; exact h.ev tab _ _) z.cells ti.zero (by rw [hto.zsize, hto.zlen]) hz1 hz2 hfl
    have hrun := run_build (P := P) w t (parts.map fun (i, x) => (i, a.eval x)) cells (by simpa using hb cells g1)
    refine Does.pure h (v := .agg cells) ?_ ?_
    · unfold execOp; simp [ho, hrun]
    · have := PRep.agg (w := w) (μ := μ) (h := S.heap) cells.toList cs' (by simpa using g2) g3 (fun i hi => by
        have h8 := g4 i hi
        rw [getD_lt (by omega)] at h8
        simpa using h8)
      simpa using this
  unfold aBuild at hx
  simp only [hti] at hx
  have hkd := hto.kind
  split at hx
  · rename_i fs hk
    rw [hk] at hkd
    obtain ⟨fields, rfl, hfs⟩ := hkd
    split at hx
    · rename_i ps hps
      split at hx
      · rename_i cs' hfl
        simp only [Option.some.injEq, Prod.mk.injEq] at hx
        obtain ⟨rfl, rfl⟩ := hx
        refine key _ _ hfl fun cells hc => ?_
        unfold Program.built
        simp only [hto.info, hto.desc, hto.zero, places_ok ht _ _ hfs hps]
        simpa using hc
      · cases hx
    · cases hx
  · rename_i n E hk
    rw [hk] at hkd
    have hdd : d = .array n E := hkd
    subst hdd
    split at hx
    · rename_i ei hE
      split at hx
      · rename_i cs' hfl
        simp only [Option.some.injEq, Prod.mk.injEq] at hx
        obtain ⟨rfl, rfl⟩ := hx
        obtain ⟨inf', z', d', hto'⟩ := ht _ _ hE
        refine key _ _ hfl fun cells hc => ?_
        unfold Program.built
        simp only [hto.info, hto.desc, hto.zero, hto'.info, hto'.size]
        exact hc
      · cases hx
    · cases hx
  · cases hx

end
end Go.Proofs.Ytdkjeodenbffnaa
