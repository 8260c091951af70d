/- Abstract states: slice literals, make, conversions, length, append. Over any program; the table is right ('TabOk'). -/
import Derived.Test.YtdkjeodenbffnaaA13
namespace Go.Proofs.Ytdkjeodenbffnaa
open Go.RowKit
open Shp

section
variable {P : Program} {tab : Tab} {w0 : World} {S : AState} {a : Act} {w : World} {μ : Lay} {who : Nat → Option Nat}

def elemTy (tab : Tab) (t : TypeId) : Option (TypeId × Nat) :=
  match tab t with
  | none => none
  | some ti => match ti.kind with
    | .sl E => match tab E with
      | some ei => some (E, ei.size)
      | none => none
    | _ => none

theorem elemTy_ok (ht : TabOk P tab) {t E : TypeId} {e : Nat} (h : elemTy tab t = some (E, e)) (hpos : 0 < e) : ∃ i z, ElemOK P t E e i z := by
  unfold elemTy at h
  split at h
  · cases h
  · rename_i ti hti
    split at h
    · rename_i E' hk
      split at h
      · rename_i ei hE
        simp only [Option.some.injEq, Prod.mk.injEq] at h
        obtain ⟨rfl, rfl⟩ := h
        exact ht.elem hti hk hE hpos
      · cases h
    · cases h

/-! []T{..} -/

def aLit (tab : Tab) (nid : Nat) (h : Nat → Block) (t : TypeId) (len : Nat) (idx : List Nat) (ps : List PV) : Option (PV × List (Nat × Block)) :=
  match elemTy tab t with
  | none => none
  | some (_, e) => if isFree (h nid) ∧ idx = List.range len ∧ 0 < e ∧ len * e ≤ 16777216 then (match absL absE h ps with
    | some (gs, ks, d) => if gs.all (fun x => x.ncells == e && !x.isTup) then some (.own nid 0 len, kills ks ++ [(nid, .arr e d gs)]) else none
    | none => none) else none

theorem zip_range : ∀ (xs : List Value) (k : Nat), xs.zipIdx k = xs.zip (List.range' k xs.length)
  | [], _ => rfl
  | x :: xs, k => by simp [List.zipIdx_cons, List.range'_succ, zip_range xs (k + 1)]

theorem op_lit (ht : TabOk P tab) (h : RelAt w0 S a w μ who) {o : Oper} {t : TypeId} {len : Nat} {parts : Array (Nat × Operand)} (ho : o.op = .buildSlice t len parts) {E : TypeId} {e0 : Nat} (hE : elemTy tab t = some (E, e0)) {nid : Nat} {pv : PV} {ws : List (Nat × Block)}
    (hx : aLit tab nid S.heap t len (parts.toList.map (·.1)) (parts.toList.map fun (_, x) => S.ev tab E x) = some (pv, ws)) : Does P w0 a (S.writes ws) pv ((execOp a.eval o).run P w) := by
  unfold aLit at hx
  rw [hE] at hx
  simp only at hx
  split at hx
  · rename_i hc
    obtain ⟨c1, c2, c3, c4⟩ := hc
    split at hx
    · rename_i gs ks d hab
      split at hx
      · rename_i hall
        simp only [Option.some.injEq, Prod.mk.injEq] at hx
        obtain ⟨rfl, rfl⟩ := hx
        obtain ⟨i, z, hel⟩ := elemTy_ok ht hE c3
        have hnf := isFree_iff c1
        have hlp : parts.toList.length = len := by have := congrArg List.length c2; simpa using this
        obtain ⟨hk1, hk2⟩ := absL_ok absE_ok (nid := nid) _ h (parts.toList.map fun (_, x) => a.eval x) (by simp) (fun i hi => by simp; exact h.ev tab _ _) hab
        obtain ⟨who', Fs, r1, hg, hF, g1, n1, o1, _, _⟩ := hk2 (fun hm => hk1 nid hm hnf)
        have hgl : gs.length = len := by rw [← hg]; simpa using hlp
        simp only [List.all_eq_true, Bool.and_eq_true, beq_iff_eq, Bool.not_eq_true'] at hall
        have hels : ∀ v ∈ parts.toList.map (fun (x : Nat × Operand) => a.eval x.2), v.cells.size = e0 ∧ ∀ u ∈ v.cells.toList, u.oneCell' = true := by
          intro v hv
          obtain ⟨k, hk, rfl⟩ := List.getElem_of_mem hv
          have hk' : k < gs.length := by rw [← hg]; exact hk
          have h5 := (g1 k hk').one.resolve_right (by rintro ⟨us, e3⟩; have := (hall _ (List.getElem_mem hk')).2; rw [e3] at this; simp [GV.isTup] at this)
          exact ⟨by have h6 := h5.1; rw [(hall _ (List.getElem_mem hk')).1] at h6; exact h6, h5.2⟩
        have hnf' : (S.kill ks).heap nid = .free := (killL_free hk1).2 hnf
        have hrun : (Instr.buildSlice t len (parts.map fun (i, x) => (i, a.eval x))).run P w = .ok (.slice (some ⟨w.heap.size, 0, none⟩) len len) (w.alloc (.cells (flatC (parts.toList.map fun (x : Nat × Operand) => a.eval x.2)).toArray E)) := by
          by_cases h0 : len = 0
          · subst h0
            have hp : parts = #[] := by apply Array.ext'; exact List.eq_nil_of_length_eq_zero hlp
            subst hp
            simp [Instr.buildSlice, run_underlying hel.u, sizeOf, typeInfo, hel.inf, Instr.fill, newRow, flatC, Array.range_zero']
          · refine run_buildSlice w t E len _ _ i z hel.u hel.inf hel.zero (by rw [hel.sz]; omega) (by rw [hel.sz]; intro h9; rcases Nat.mul_eq_zero.1 h9 with h9 | h9 <;> omega) ?_
            have hf := Go.Great.fill_whole c3 (parts.toList.map fun (x : Nat × Operand) => a.eval x.2) ((Array.range (len * i.size)).map (z.cells[· % z.cells.size]!)) (fun v hv => (hels v hv).1) (by simp [hlp, hel.sz])
            rw [hel.sz] at hf ⊢
            have e6 : (parts.map fun (i, x) => (i, a.eval x)).toList = ((parts.toList.map fun (x : Nat × Operand) => a.eval x.2).zipIdx 0).map fun x => (x.2, x.1) := by
              rw [zip_range]
              simp only [Array.toList_map, List.length_map, hlp, ← List.range_eq_range', ← c2]
              apply List.ext_getElem
              · simp
              · intro k h1 h2; simp
            rw [e6]; exact hf
        have hrr : RowRep (w.alloc (.cells (flatC (parts.toList.map fun (x : Nat × Operand) => a.eval x.2)).toArray E)) (flatC (parts.toList.map fun (x : Nat × Operand) => a.eval x.2)).toArray 0 e0 gs Fs (parts.toList.map fun (x : Nat × Operand) => a.eval x.2) := by
          refine rowRep_new c3 hg hF (fun v hv => (hels v hv).1) (fun v hv => (hels v hv).2) (fun x hx => (hall x hx).1) (fun k hk => (g1 k hk).keeps0 (Keeps.alloc [] w _)) ?_ (fun k hk => ?_)
          · have := flatC_len (fun v hv => (hels v hv).1); rw [hg] at this; simp [this]
          · rw [Nat.zero_add]; simp
        obtain ⟨μ', q1, q2⟩ := r1.newArr (nid := nid) (cap := len) hnf' (Keeps.alloc [] w _) (Nat.le_refl _) c3 (box_new w _) hrr (fun c hc => ⟨n1 c hc, fun e => by
          obtain ⟨k, hk', hc'⟩ := mem_flatten_getElem hc
          have := (g1 k (by rw [← hF]; exact hk')).lt c hc'; omega⟩) o1 (by omega) (by
            have := flatC_len (fun v hv => (hels v hv).1)
            simp only [List.size_toArray, Nat.zero_add, this, List.length_map, hlp]; exact Nat.le_refl _) (by have : len * 1 ≤ len * e0 := Nat.mul_le_mul_left _ c3; omega)
        have hexec : (execOp a.eval o).run P w = .ok (.value (.slice (some ⟨w.heap.size, 0, none⟩) len len)) (w.alloc (.cells (flatC (parts.toList.map fun (x : Nat × Operand) => a.eval x.2)).toArray E)) := by
          unfold execOp; simp only [ho, Sem.run_bind, hrun, Result.andThen_ok, Sem.run_pure]
        rw [hexec, AState.writes_app, AState.writes_kills]
        rw [hgl] at q2
        exact ⟨μ', who', q1, q2⟩
      · cases hx
    · cases hx
  · cases hx

/-! make -/

def zeroLeaf : PV → Option GV
  | .g v => if v.atom then some v else none
  | .nils e => if 0 < e then some (.sl e []) else none
  | _ => none

def zeroG (ti : TI) : Option GV :=
  match ti.kind with
  | .base | .int _ | .str | .sl _ | .bool => match ti.zero with
    | [p] => zeroLeaf p
    | _ => none
  | _ => none

theorem zeroLeaf_ok {v : Value} {p : PV} {x : GV} (hz : ZeroOk v p) (h : zeroLeaf p = some x) (w : World) : GRep w [] v x ∧ x.ncells = 1 ∧ x.isTup = false := by
  have hv := hz.2 w (fun _ => none) (fun _ => .free)
  cases p <;> simp [zeroLeaf] at h
  · rename_i y
    obtain ⟨hy, rfl⟩ := h
    obtain ⟨F, hg, _⟩ := hv.g_inv
    have := hg.of_atom hy
    subst this
    exact ⟨hg, by cases y <;> simp_all [GV.atom, GV.ncells], by cases y <;> simp_all [GV.atom, GV.isTup]⟩
  · obtain ⟨he, rfl⟩ := h
    obtain ⟨rfl, _⟩ := hv.nils_inv
    have := GRep.sl (w := w) none 0 _ [] [] [] rfl rfl he (by simp) (by simp) (by simp) (by simp) (by simp) (by intro k hk; simp at hk) (by intro k hk; simp at hk)
    exact ⟨by simpa [Shp.own] using this, rfl, rfl⟩

def aMake (tab : Tab) (nid : Nat) (h : Nat → Block) (t : TypeId) (l c : PV) : Option (PV × List (Nat × Block)) :=
  match elemTy tab t, l, c with
  | some (E, e), .g (.int _ n), .g (.int _ m) => match tab E with
    | some ei => match zeroG ei with
      | some z => if isFree (h nid) ∧ e = 1 ∧ 0 ≤ n ∧ n ≤ m ∧ m ≤ 1099511627776 then some (.own nid 0 n.toNat, [(nid, .arr e true (List.replicate n.toNat z))]) else none
      | none => none
    | none => none
  | _, _, _ => none

theorem op_make (ht : TabOk P tab) (h : RelAt w0 S a w μ who) {o : Oper} {t : TypeId} {l c : Operand} (ho : o.op = .makeSlice t l c) {nid : Nat} {pv : PV} {ws : List (Nat × Block)} (hx : aMake tab nid S.heap t (S.ev tab 0 l) (S.ev tab 0 c) = some (pv, ws)) :
    Does P w0 a (S.writes ws) pv ((execOp a.eval o).run P w) := by
  have h1 := h.ev tab 0 l
  have h2 := h.ev tab 0 c
  unfold aMake at hx
  split at hx
  · rename_i E e k1 n k2 m hel e1 e2
    rw [e1] at h1; rw [e2] at h2
    split at hx
    · rename_i ei hE
      split at hx
      · rename_i z hz
        split at hx
        · rename_i hc
          obtain ⟨c1, rfl, c3, c4, c5⟩ := hc
          simp only [Option.some.injEq, Prod.mk.injEq] at hx
          obtain ⟨rfl, rfl⟩ := hx
          obtain ⟨i, zv, hok⟩ := elemTy_ok ht hel (by omega)
          obtain ⟨inf, zv', d, hto⟩ := ht _ _ hE
          have hinf : inf = i := by have := hto.info; rw [hok.inf] at this; cases this; rfl
          subst hinf
          have hzz : zv' = zv := by have := hto.zero; rw [hok.zero] at this; cases this; rfl
          subst hzz
          have hsz1 : zv'.cells.size = 1 := hok.zc
          obtain ⟨p, hp1, hp2⟩ : ∃ p, ei.zero = [p] ∧ zeroLeaf p = some z := by
            unfold zeroG at hz
            split at hz <;> first | (split at hz <;> first | (rename_i p hp; exact ⟨p, hp, hz⟩) | cases hz) | cases hz
          have hzo := hto.zok 0 (by rw [hp1]; simp)
          have e7 : ei.zero[0]'(by rw [hp1]; simp) = p := by simp [hp1]
          rw [e7, getD_lt (by omega)] at hzo
          have hmul : (inf.bytes : Int) * m ≤ 281474976710656 := by
            have h8 : (inf.bytes : Int) ≤ 128 := by have := hok.by_; omega
            have : (inf.bytes : Int) * m ≤ 128 * m := Int.mul_le_mul_of_nonneg_right h8 (by omega)
            omega
          have hrun := run_make (P := P) w t E inf zv' hok.u hok.inf hok.zero k1 k2 n m c3 c4 hmul (by omega)
          rw [hok.sz, Nat.mul_one] at hrun
          have hmc : ∀ i, i < m.toNat → (madeCells zv'.cells m.toNat)[i]? = some (zv'.cells[0]'(by omega)) := by
            intro i hi
            have hi2 : i < (madeCells zv'.cells m.toNat).size := by rw [size_madeCells]; exact hi
            rw [Array.getElem?_eq_getElem hi2]
            simp [madeCells, hsz1, Nat.mod_one]
          have hrr : RowRep (w.alloc (.cells (madeCells zv'.cells m.toNat) E)) (madeCells zv'.cells m.toNat) 0 1 (List.replicate n.toNat z) (List.replicate n.toNat []) (List.replicate n.toNat (zv'.cells[0]'(by omega))) := by
            have hone : (zv'.cells[0]'(by omega)).cells = #[zv'.cells[0]'(by omega)] := by
              have := hzo.1
              generalize zv'.cells[0]'(by omega) = u at *
              cases u <;> simp_all [Value.oneCell', Value.cells]
            refine ⟨by simp, by simp, by simp [size_madeCells]; omega, fun k hk => by simp; exact (zeroLeaf_ok hzo hp2 w).2.1, fun k hk => by simp; exact (zeroLeaf_ok hzo hp2 _).1, fun k hk => ?_, fun k hk j hj => ?_⟩
            · simp only [List.getElem_replicate]
              rw [hone]; simp; exact hzo.1
            · have hj0 : j = 0 := by omega
              subst hj0
              simp only [List.getElem_replicate]
              rw [hone]
              have hk' : k < n.toNat := by simpa using hk
              have := hmc k (by omega)
              simp only [Nat.zero_add, Nat.mul_one, Nat.add_zero]
              rw [this]; simp
          have hnil : (List.replicate n.toNat ([] : List Nat)).flatten = [] := flatten_nils (by simp)
          obtain ⟨μ', q1, q2⟩ := h.newArr (nid := nid) (cap := m.toNat) (dp := true) (isFree_iff c1) (Keeps.alloc [] w _) (Nat.le_refl _) (by omega) (box_new w _) hrr (by rw [hnil]; simp) (by rw [hnil]; simp) (by simp; omega) (by simp [size_madeCells]) (by omega)
          have hexec : (execOp a.eval o).run P w = .ok (.value (.slice (some ⟨w.heap.size, 0, none⟩) n.toNat m.toNat)) (w.alloc (.cells (madeCells zv'.cells m.toNat) E)) := by
            unfold execOp; simp only [ho, h1.int_inv, h2.int_inv, Sem.run_bind, hrun, Result.andThen_ok, Sem.run_pure]
          rw [hexec]
          simp only [List.length_replicate] at q2
          exact ⟨μ', who, q1, q2⟩
        · cases hx
      · cases hx
    · cases hx
  · cases hx

def zeroLs : List PV → Option (List GV)
  | [] => some []
  | p :: ps => match zeroLeaf p, zeroLs ps with
    | some x, some xs => some (x :: xs)
    | _, _ => none

theorem zeroLs_ok : ∀ {ps : List PV} {gs : List GV}, zeroLs ps = some gs → ps.length = gs.length ∧ ∀ i (h1 : i < ps.length) (h2 : i < gs.length), zeroLeaf ps[i] = some gs[i]
  | [], gs, h => by simp [zeroLs] at h; subst h; exact ⟨rfl, by intro i hi; simp at hi⟩
  | p :: ps, gs, h => by
    unfold zeroLs at h
    split at h
    · rename_i x xs e1 e2
      simp only [Option.some.injEq] at h
      subst h
      obtain ⟨h1, h2⟩ := zeroLs_ok e2
      refine ⟨by simp [h1], fun i hi hi2 => ?_⟩
      cases i with
      | zero => exact e1
      | succ i => exact h2 i (by simpa using hi) (by simpa using hi2)
    · cases h

/-- make, of structures -/
def aMakeS (tab : Tab) (nid : Nat) (h : Nat → Block) (t : TypeId) (l c : PV) : Option (PV × List (Nat × Block)) :=
  match elemTy tab t, l, c with
  | some (E, e), .g (.int _ n), .g (.int _ m) => match tab E with
    | some ei => match zeroLs ei.zero with
      | some gs => if isFree (h nid) ∧ gs.length = e ∧ 0 < e ∧ 0 ≤ n ∧ n ≤ m ∧ m ≤ 1099511627776 then some (.own nid 0 n.toNat, [(nid, .arr e true (List.replicate n.toNat (.agg gs)))]) else none
      | none => none
    | none => none
  | _, _, _ => none

theorem op_makeS (ht : TabOk P tab) (h : RelAt w0 S a w μ who) {o : Oper} {t : TypeId} {l c : Operand} (ho : o.op = .makeSlice t l c) {nid : Nat} {pv : PV} {ws : List (Nat × Block)} (hx : aMakeS tab nid S.heap t (S.ev tab 0 l) (S.ev tab 0 c) = some (pv, ws)) :
    Does P w0 a (S.writes ws) pv ((execOp a.eval o).run P w) := by
  have h1 := h.ev tab 0 l
  have h2 := h.ev tab 0 c
  unfold aMakeS at hx
  split at hx
  · rename_i E e k1 n k2 m hel e1 e2
    rw [e1] at h1; rw [e2] at h2
    split at hx
    · rename_i ei hE
      split at hx
      · rename_i gs hz
        split at hx
        · rename_i hc
          obtain ⟨c1, c2, c6, c3, c4, c5⟩ := hc
          simp only [Option.some.injEq, Prod.mk.injEq] at hx
          obtain ⟨rfl, rfl⟩ := hx
          obtain ⟨i, zv, hok⟩ := elemTy_ok ht hel c6
          obtain ⟨inf, zv', d, hto⟩ := ht _ _ hE
          have hinf : inf = i := by have := hto.info; rw [hok.inf] at this; cases this; rfl
          subst hinf
          have hzz : zv' = zv := by have := hto.zero; rw [hok.zero] at this; cases this; rfl
          subst hzz
          have hsz1 : zv'.cells.size = e := hok.zc
          obtain ⟨hl1, hl2⟩ := zeroLs_ok hz
          have hcell : ∀ j (hj : j < gs.length), (zv'.cells[j]'(by omega)).oneCell' = true ∧ (∀ w, GRep w [] (zv'.cells[j]'(by omega)) gs[j]) ∧ gs[j].ncells = 1 := by
            intro j hj
            have hzo := hto.zok j (by omega)
            rw [getD_lt (by omega)] at hzo
            exact ⟨hzo.1, fun w => (zeroLeaf_ok hzo (hl2 j (by omega) hj) w).1, (zeroLeaf_ok hzo (hl2 j (by omega) hj) w).2.1⟩
          have hmul : (inf.bytes : Int) * m ≤ 281474976710656 := by
            have h8 : (inf.bytes : Int) ≤ 128 := by have := hok.by_; omega
            have : (inf.bytes : Int) * m ≤ 128 * m := Int.mul_le_mul_of_nonneg_right h8 (by omega)
            omega
          have hrun := run_make (P := P) w t E inf zv' hok.u hok.inf hok.zero k1 k2 n m c3 c4 hmul (by omega)
          rw [hok.sz] at hrun
          have hone : ∀ v ∈ zv'.cells.toList, v.oneCell' = true := fun v hv => by
            obtain ⟨j, hj, rfl⟩ := List.getElem_of_mem hv
            have := (hcell j (by simp at hj; omega)).1
            simpa using this
          have hgr : ∀ w, GRep w [] (.agg zv'.cells) (.agg gs) := fun w => by
            have := GRep.agg (w := w) zv'.cells.toList gs (List.replicate gs.length []) (by simp; omega) (by simp) hone (fun x hx => by obtain ⟨j, hj, rfl⟩ := List.getElem_of_mem hx; exact (hcell j hj).2.2) (fun j hj => by simpa using (hcell j hj).2.1 w)
            rw [flatten_nils (by simp)] at this
            simpa using this
          have hrr : RowRep (w.alloc (.cells (madeCells zv'.cells (m.toNat * e)) E)) (madeCells zv'.cells (m.toNat * e)) 0 e (List.replicate n.toNat (.agg gs)) (List.replicate n.toNat []) (List.replicate n.toNat (.agg zv'.cells)) := by
            have hfit : n.toNat * e ≤ m.toNat * e := Nat.mul_le_mul_right _ (by omega)
            refine ⟨by simp, by simp, by rw [size_madeCells, List.length_replicate]; omega, fun k hk => by simp [GV.ncells, c2], fun k hk => by simp; exact hgr _, fun k hk => ?_, fun k hk j hj => ?_⟩
            · simp only [List.getElem_replicate]
              exact ⟨hsz1, hone⟩
            · simp only [List.getElem_replicate]
              have hk' : k < n.toNat := by simpa using hk
              have hlt : 0 + k * e + j < (madeCells zv'.cells (m.toNat * e)).size := by
                rw [size_madeCells]
                have : (k + 1) * e ≤ m.toNat * e := Nat.mul_le_mul_right _ (by omega)
                rw [Nat.add_mul] at this; omega
              rw [Array.getElem?_eq_getElem hlt]
              have hmod : (0 + k * e + j) % zv'.cells.size = j := by rw [hsz1, Nat.zero_add, Nat.add_comm, Nat.add_mul_mod_self_right, Nat.mod_eq_of_lt hj]
              have hj' : j < zv'.cells.size := by omega
              show some _ = (zv'.cells)[j]?
              rw [Array.getElem?_eq_getElem hj']
              rw [Nat.zero_add] at hmod
              simp [madeCells, hmod, hj']
          have hnil : (List.replicate n.toNat ([] : List Nat)).flatten = [] := flatten_nils (by simp)
          have hcm : (m.toNat : Int) = m := by omega
          obtain ⟨μ', q1, q2⟩ := h.newArr (nid := nid) (cap := m.toNat) (dp := true) (isFree_iff c1) (Keeps.alloc [] w _) (Nat.le_refl _) c6 (box_new w _) hrr (by rw [hnil]; simp) (by rw [hnil]; simp) (by simp; omega) (by rw [size_madeCells]; omega) (by omega)
          have hexec : (execOp a.eval o).run P w = .ok (.value (.slice (some ⟨w.heap.size, 0, none⟩) n.toNat m.toNat)) (w.alloc (.cells (madeCells zv'.cells (m.toNat * e)) E)) := by
            unfold execOp; simp only [ho, h1.int_inv, h2.int_inv, Sem.run_bind, hrun, Result.andThen_ok, Sem.run_pure]
          rw [hexec]
          simp only [List.length_replicate] at q2
          exact ⟨μ', who, q1, q2⟩
        · cases hx
      · cases hx
    · cases hx
  · cases hx

/-- make -/
def aMakeE (tab : Tab) (nid : Nat) (h : Nat → Block) (t : TypeId) (l c : PV) : Option (PV × List (Nat × Block)) :=
  match aMake tab nid h t l c with
  | some r => some r
  | none => aMakeS tab nid h t l c

theorem op_makeE (ht : TabOk P tab) (h : RelAt w0 S a w μ who) {o : Oper} {t : TypeId} {l c : Operand} (ho : o.op = .makeSlice t l c) {nid : Nat} {pv : PV} {ws : List (Nat × Block)} (hx : aMakeE tab nid S.heap t (S.ev tab 0 l) (S.ev tab 0 c) = some (pv, ws)) :
    Does P w0 a (S.writes ws) pv ((execOp a.eval o).run P w) := by
  unfold aMakeE at hx
  split at hx
  · rename_i r e; cases hx; exact op_make ht h ho e
  · exact op_makeS ht h ho hx

/-! conversions of numbers -/

def aConv (tab : Tab) (src dst : TypeId) (x : PV) : Option (PV × List (Nat × Block)) :=
  match tab src, tab dst, x with
  | some si, some di, .g (.int _ n) => match si.kind, di.kind with
    | .int _, .int k => some (.g (.int k (k.wrap n)), [])
    | _, _ => none
  | _, _, _ => none

theorem op_conv (ht : TabOk P tab) (h : RelAt w0 S a w μ who) {o : Oper} {src dst : TypeId} {x : Operand} (ho : o.op = .convert src dst x) {pv : PV} {ws : List (Nat × Block)} (hx : aConv tab src dst (S.ev tab 0 x) = some (pv, ws)) :
    Does P w0 a (S.writes ws) pv ((execOp a.eval o).run P w) := by
  have h1 := h.ev tab 0 x
  unfold aConv at hx
  split at hx
  · rename_i si di k n hsi hdi e1
    rw [e1] at h1
    split at hx
    · rename_i k1 k2 hk1 hk2
      simp only [Option.some.injEq, Prod.mk.injEq] at hx
      obtain ⟨rfl, rfl⟩ := hx
      obtain ⟨_, _, d1, t1⟩ := ht _ _ hsi
      obtain ⟨_, _, d2, t2⟩ := ht _ _ hdi
      have f1 := t1.kind; rw [hk1] at f1
      have f2 := t2.kind; rw [hk2] at f2
      simp only [DescOk] at f1 f2
      subst f1; subst f2
      refine Does.pure h (v := .int k2 (k2.wrap n)) ?_ (PRep.of_int _ _ _ _ _)
      unfold execOp
      simp [ho, h1.int_inv, convert, run_underlying t1.desc, run_underlying t2.desc, Conv.intToInt]
    · cases hx
  · cases hx

/-! function values -/

theorem op_makeFunc (h : RelAt w0 S a w μ who) {o : Oper} {f : FuncId} {caps : Array Operand} (ho : o.op = .makeFunc (.func f) #[] caps) : Does P w0 a (S.writes []) (.fn f (caps.toList.map (S.ev tab 0))) ((execOp a.eval o).run P w) := by
  refine Does.pure h (v := .func (.func f) #[] (caps.toList.map a.eval).toArray) ?_ (.fn f _ _ (by simp) (fun i hi => by simp; exact h.ev tab 0 _))
  unfold execOp
  simp [ho, Instr.makeFunc]
  apply Array.ext'; simp

/-! len -/

def aLen (tab : Tab) (h : Nat → Block) (t : TypeId) (x : PV) : Option (PV × List (Nat × Block)) :=
  match tab t with
  | none => none
  | some ti => match ti.kind, x with
    | .sl _, .own id _ len => (match h id with | .arr .. => some (.g (.int .i64 len), []) | _ => none)
    | .sl _, .g (.sl _ xs) => some (.g (.int .i64 xs.length), [])
    | .sl _, .nils _ => some (.g (.int .i64 0), [])
    | .str, .g (.str s) => some (.g (.int .i64 s.size), [])
    | _, _ => none

theorem op_len (ht : TabOk P tab) (h : RelAt w0 S a w μ who) {o : Oper} {t : TypeId} {x : Operand} (ho : o.op = .call { callee := .builtin .len, args := #[x], argTypes := #[t] }) {pv : PV} {ws : List (Nat × Block)} (hx : aLen tab S.heap t (S.ev tab 0 x) = some (pv, ws)) :
    Does P w0 a (S.writes ws) pv ((execOp a.eval o).run P w) := by
  have h1 := h.ev tab 0 x
  unfold aLen at hx
  split at hx
  · cases hx
  · rename_i ti hti
    obtain ⟨_, _, d, hto⟩ := ht _ _ hti
    have hkd := hto.kind
    have fin : ∀ n : Nat, (Builtin.len_ #[t] o.type #[a.eval x]).run P w = .ok (goInt n) w → Does P w0 a (S.writes []) (.g (.int .i64 n)) ((execOp a.eval o).run P w) := fun n hr => by
      refine Does.pure h (v := goInt n) ?_ (PRep.of_int _ _ _ _ _)
      unfold execOp
      simp only [ho, resolve, invoke, builtin, Sem.run_bind, Sem.run_pure, Result.andThen_ok, List.map_toArray, List.map_cons, List.map_nil, hr]
    split at hx
    · rename_i E id lo len hk e1
      rw [e1] at h1; rw [hk] at hkd
      obtain ⟨rfl, _⟩ := hkd
      split at hx
      · rename_i e dp xs hid
        simp only [Option.some.injEq, Prod.mk.injEq] at hx
        obtain ⟨rfl, rfl⟩ := hx
        have hoa := h1.own_inv.2.2 _ _ _ hid
        unfold OwnAt at hoa
        refine fin len ?_
        split at hoa
        · obtain ⟨cap, o', hv, _⟩ := hoa; simp [Builtin.len_, run_underlying hto.desc, hv]
        · obtain ⟨⟨ad0, e0⟩, _, e2⟩ := hoa; simp [Builtin.len_, run_underlying hto.desc, e0, e2]
      · cases hx
    · rename_i E e xs hk e1
      rw [e1] at h1; rw [hk] at hkd
      obtain ⟨rfl, _⟩ := hkd
      simp only [Option.some.injEq, Prod.mk.injEq] at hx
      obtain ⟨rfl, rfl⟩ := hx
      obtain ⟨F, hg, _⟩ := h1.g_inv
      obtain ⟨ad, cap, els, Fs, hv, _⟩ := hg.slice
      exact fin _ (by simp [Builtin.len_, run_underlying hto.desc, hv])
    · rename_i E e hk e1
      rw [e1] at h1; rw [hk] at hkd
      obtain ⟨rfl, _⟩ := hkd
      simp only [Option.some.injEq, Prod.mk.injEq] at hx
      obtain ⟨rfl, rfl⟩ := hx
      exact fin 0 (by simp [Builtin.len_, run_underlying hto.desc, h1.nils_inv.1])
    · rename_i s hk e1
      rw [e1] at h1; rw [hk] at hkd
      have hdd : d = .string := hkd
      subst hdd
      simp only [Option.some.injEq, Prod.mk.injEq] at hx
      obtain ⟨rfl, rfl⟩ := hx
      exact fin _ (by simp [Builtin.len_, run_underlying hto.desc, h1.str_inv])
    · cases hx

/-! append -/

def aApp (tab : Tab) (nid : Nat) (h : Nat → Block) (t : TypeId) (x y : PV) : Option (PV × List (Nat × Block)) :=
  match elemTy tab t with
  | none => none
  | some (_, e) => if isFree (h nid) ∧ 0 < e then (match srcE h e y with
    | some (ys, ks2, d2) => (match dstE (killL h ks2) e x with
      | some (xs, ks1, d1) => if xs.length + ys.length ≤ 1099511627776 then some (.own nid 0 (xs.length + ys.length), kills ks2 ++ (kills ks1 ++ [(nid, .arr e (d1 && d2) (xs ++ ys))])) else none
      | none => none)
    | none => none) else none

theorem op_append (ht : TabOk P tab) (h : RelAt w0 S a w μ who) {o : Oper} {t : TypeId} {x y : Operand} (ho : o.op = .call { callee := .builtin .append, args := #[x, y], argTypes := #[t, t] }) {nid : Nat} {pv : PV} {ws : List (Nat × Block)} (hx : aApp tab nid S.heap t (S.ev tab t x) (S.ev tab t y) = some (pv, ws)) :
    Does P w0 a (S.writes ws) pv ((execOp a.eval o).run P w) := by
  have h1 := h.ev tab t x
  have h2 := h.ev tab t y
  unfold aApp at hx
  split at hx
  · cases hx
  · rename_i E e hel
    split at hx
    · rename_i hc
      obtain ⟨i, z, hok⟩ := elemTy_ok ht hel hc.2
      split at hx
      · rename_i ys ks2 d2 e2
        split at hx
        · rename_i xs ks1 d1 e1
          split at hx
          · rename_i hlen
            simp only [Option.some.injEq, Prod.mk.injEq] at hx
            obtain ⟨rfl, rfl⟩ := hx
            obtain ⟨v', w', μ', who', q0, q1, q2⟩ := append_ok hok h (isFree_iff hc.1) o.type h1 h2 e2 e1 hlen
            have hexec : (execOp a.eval o).run P w = .ok (.value v') w' := by
              unfold execOp
              simp only [ho, resolve, invoke, builtin, Sem.run_bind, Sem.run_pure, Result.andThen_ok, List.map_toArray, List.map_cons, List.map_nil, q0]
            rw [hexec, AState.writes_app, AState.writes_app, AState.writes_kills, AState.writes_kills]
            rw [List.length_append] at q2
            exact ⟨μ', who', q1, q2⟩
          · cases hx
        · cases hx
      · cases hx
    · cases hx

end
end Go.Proofs.Ytdkjeodenbffnaa
