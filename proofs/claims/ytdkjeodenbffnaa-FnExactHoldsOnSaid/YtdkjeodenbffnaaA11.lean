/- Abstract states: store, addresses, slices. Over any program; the table is right ('TabOk'). -/
import Derived.Test.YtdkjeodenbffnaaA10
namespace Go.Proofs.Ytdkjeodenbffnaa
open Go.RowKit
open Shp

section
variable {P : Program} {tab : Tab} {w0 : World} {S : AState} {a : Act} {w : World} {μ : Lay} {who : Nat → Option Nat}

theorem Root.killL {h : Nat → Block} {ks : List Nat} {b : Nat} (hr : Root μ (killL h ks) b) : Root μ h b := by
  induction ks generalizing h with
  | nil => exact hr
  | cons k ks ih => exact (ih hr).kill

/-! store -/

def setL {α : Type} (cs : List α) (off : Nat) (ps : List α) : List α := cs.take off ++ ps ++ cs.drop (off + ps.length)

theorem setL_len {α : Type} {cs : List α} {off : Nat} {ps : List α} (h : off + ps.length ≤ cs.length) : (setL cs off ps).length = cs.length := by
  simp [setL]; omega

theorem setL_get {α : Type} {cs : List α} {off : Nat} {ps : List α} (h : off + ps.length ≤ cs.length) {i : Nat} (hi : i < cs.length) : (setL cs off ps)[i]'(by rw [setL_len h]; exact hi) = if h' : off ≤ i ∧ i < off + ps.length then ps[i - off]'(by omega) else cs[i] := by
  unfold setL
  by_cases h1 : i < off
  · rw [dif_neg (by omega), List.getElem_append_left (by simp; omega), List.getElem_append_left (by simp; omega)]; simp
  · by_cases h2 : i < off + ps.length
    · rw [dif_pos (by omega), List.getElem_append_left (by simp; omega), List.getElem_append_right (by simp; omega)]
      congr 1; simp; omega
    · rw [dif_neg (by omega), List.getElem_append_right (by simp; omega)]
      simp only [List.getElem_drop]
      congr 1; simp; omega

def aStore (tab : Tab) (nid : Nat) (h : Nat → Block) (t : TypeId) (p v : PV) : Option (PV × List (Nat × Block)) :=
  match tab t with
  | none => none
  | some ti => match p with
    | .ptr id off => match h id with
      | .box cs => if v.val && v.cells.length == ti.size && decide (off + ti.size ≤ cs.length) then some (.none_, [(id, .box (setL cs off v.cells))]) else none
      | _ => none
    | .eptr id k 0 => match h id with
      | .arr e dp xs => if e = ti.size ∧ k < xs.length ∧ isFree (h nid) then (match absE h v with
        | some (x, ks, d) => if x.ncells = e ∧ x.isTup = false ∧ id ∉ ks then some (.none_, kills ks ++ [(id, .arr e (dp && d) (xs.set k x))]) else none
        | none => none) else none
      | _ => none
    | _ => none

theorem run_store_row (ht : TabOk P tab) {t : TypeId} {ti : TI} (hti : tab t = some ti) {b off : Nat} {vs : Array Value} {t' : TypeId} (hrow : w.heap[b]? = some (.cells vs t' (0, 0))) {v : Value} (hsz : v.cells.size = ti.size) (h1 : ∀ u ∈ v.cells.toList, u.oneCell' = true) (hfit : off + ti.size ≤ vs.size) :
    (Instr.storeAt t (.pointer (some ⟨b, off, none⟩)) v).run P w = .ok () (w.setRow b (rowPut vs off v.cells.toList)) := by
  have hst := run_storeCells_at (P := P) b off t' v.cells.toList 0 vs w hrow (by simp [hsz]; omega) h1
  simp only [Nat.add_zero] at hst
  simp [Instr.storeAt, Instr.sureAddr, storeVar, ht.sizeOf hti, hsz, hst, rowPut]

theorem rowPut_get {vs : Array Value} {o : Nat} {news : List Value} (h : o + news.length ≤ vs.size) {i : Nat} (hi : i < vs.size) : (rowPut vs o news)[i]? = if o ≤ i ∧ i < o + news.length then news[i - o]? else vs[i]? := by
  split
  · rename_i h1
    have : i = o + (i - o) := by omega
    conv => lhs; rw [this]
    rw [rowPut_in (by omega) (by omega)]
  · rename_i h1
    by_cases h2 : i < o
    · exact rowPut_lt (by omega) h2
    · simp only [rowPut, List.getElem?_toArray]
      rw [List.getElem?_append_right (by simp; omega), List.getElem?_drop]
      have : o + news.length + (i - (vs.toList.take o ++ news).length) = i := by simp; omega
      rw [this]; simp

theorem set_nodup {Fs : List (List Nat)} {F : List Nat} {k : Nat} (h1 : Fs.flatten.Nodup) (h2 : F.Nodup) (h3 : ∀ b ∈ Fs.flatten, b ∉ F) : (Fs.set k F).flatten.Nodup := by
  by_cases hk : k < Fs.length
  · rw [List.set_eq_take_append_cons_drop, if_pos hk, List.flatten_append, List.flatten_cons]
    have e : Fs = Fs.take k ++ Fs[k] :: Fs.drop (k + 1) := by simp
    have hA : (Fs.take k).flatten.Sublist Fs.flatten := sub_flat (List.take_sublist _ _)
    have hB : (Fs.drop (k + 1)).flatten.Sublist Fs.flatten := sub_flat (List.drop_sublist _ _)
    have hAB : (Fs.take k).flatten.Nodup ∧ (Fs.drop (k + 1)).flatten.Nodup ∧ ∀ a ∈ (Fs.take k).flatten, ∀ b ∈ (Fs.drop (k + 1)).flatten, a ≠ b := by
      rw [e, List.flatten_append, List.flatten_cons] at h1
      have h4 := List.nodup_append.1 h1
      have h5 := List.nodup_append.1 h4.2.1
      exact ⟨h4.1, h5.2.1, fun a ha b hb => h4.2.2 a ha b (List.mem_append.2 (.inr hb))⟩
    refine List.nodup_append.2 ⟨hAB.1, List.nodup_append.2 ⟨h2, hAB.2.1, fun a ha b hb e => ?_⟩, fun a ha b hb e => ?_⟩
    · subst e; exact h3 a (hB.subset hb) ha
    · subst e
      rcases List.mem_append.1 hb with h | h
      · exact h3 a (hA.subset ha) h
      · exact hAB.2.2 a ha a h rfl
  · rw [List.set_eq_of_length_le (by omega)]; exact h1

theorem set_mem {Fs : List (List Nat)} {F : List Nat} {k b : Nat} (h : b ∈ (Fs.set k F).flatten) : b ∈ F ∨ b ∈ Fs.flatten := by
  simp only [List.mem_flatten] at h ⊢
  obtain ⟨l, hl, hb⟩ := h
  rcases List.mem_or_eq_of_mem_set hl with h1 | h1
  · exact .inr ⟨l, h1, hb⟩
  · rw [h1] at hb; exact .inl hb

theorem op_store (ht : TabOk P tab) (h : RelAt w0 S a w μ who) {o : Oper} {t : TypeId} {x y : Operand} (ho : o.op = .store t x y) {nid : Nat} {pv : PV} {ws : List (Nat × Block)} (hx : aStore tab nid S.heap t (S.ev tab 0 x) (S.ev tab t y) = some (pv, ws)) :
    Does P w0 a (S.writes ws) pv ((execOp a.eval o).run P w) := by
  have h1 := h.ev tab 0 x
  have h2 := h.ev tab t y
  have fin : ∀ w', (Instr.storeAt t (a.eval x) (a.eval y)).run P w = .ok () w' → (execOp a.eval o).run P w = .ok .skip w' := fun w' hr => by
    unfold execOp; simp [ho, hr]
  unfold aStore at hx
  split at hx
  · cases hx
  · rename_i ti hti
    split at hx
    · rename_i id off e1
      rw [e1] at h1
      split at hx
      · rename_i cs hid
        split at hx
        · rename_i hc
          simp only [Bool.and_eq_true, beq_iff_eq, decide_eq_true_eq] at hc
          obtain ⟨⟨c1, c2⟩, c3⟩ := hc
          simp only [Option.some.injEq, Prod.mk.injEq] at hx
          obtain ⟨rfl, rfl⟩ := hx
          obtain ⟨b, hμ, e2⟩ := h1.ptr_inv.2.2 cs hid
          obtain ⟨b', vs, t', q1, q2, q3, q4, q5, q6⟩ := box_cells h hid
          rw [hμ] at q1; simp at q1; subst q1
          obtain ⟨d1, d2, d3⟩ := h2.cells c1
          rw [e2] at fin
          have hrun := run_store_row ht hti q2 (v := a.eval y) (off := off) (by rw [d1, c2]) d2 (by omega)
          rw [fin _ hrun]
          have hlen : (a.eval y).cells.toList.length = (S.ev tab t y).cells.length := by simpa using d1
          have hfit : off + (a.eval y).cells.toList.length ≤ vs.size := by rw [hlen]; omega
          have hsz : (rowPut vs off (a.eval y).cells.toList).size = vs.size := rowPut_size hfit
          have hmod := h.mod (id := id) (b := b) (B := .box (setL cs off (S.ev tab t y).cells)) (by rw [hid]; rfl) hμ (Keeps.setRow w b _) q2 (setRow_heap w b vs (rowPut vs off (a.eval y).cells.toList) t' _ q2) hsz rfl (by simp) (by simp [hid]) (fun hm => ?_)
          · exact ⟨μ, who, hmod, .none_⟩
          · have hcl : off + (S.ev tab t y).cells.length ≤ cs.length := by omega
            refine ⟨b, _, t', hμ, setRow_heap w b vs _ t' _ q2, by rw [hsz, setL_len hcl]; exact q3, fun u hu => ?_, fun i hi => ?_⟩
            · simp only [rowPut, List.mem_append] at hu
              rcases hu with (hu | hu) | hu
              · exact q4 u (List.mem_of_mem_take hu)
              · exact d2 u hu
              · exact q4 u (List.mem_of_mem_drop hu)
            · have hi' : i < cs.length := by rw [setL_len hcl] at hi; exact hi
              have hg := rowPut_get hfit (i := i) (by omega)
              rw [setL_get hcl hi', getD_lt (by omega)]
              by_cases h' : off ≤ i ∧ i < off + (S.ev tab t y).cells.length
              · rw [dif_pos h']
                rw [if_pos (by rw [hlen]; exact h')] at hg
                have hi3 : i - off < (a.eval y).cells.size := by rw [d1]; omega
                have h3 := d3 (i - off) (by omega)
                rw [getD_lt hi3] at h3
                have : (rowPut vs off (a.eval y).cells.toList)[i]'(by omega) = (a.eval y).cells[i - off] := by
                  have h4 : i - off < (a.eval y).cells.toList.length := by simpa using hi3
                  rw [List.getElem?_eq_getElem h4] at hg
                  have := (Array.getElem?_eq_some_iff.1 hg).2
                  simpa using this
                rw [this]; exact h3.move hm
              · rw [dif_neg h']
                rw [if_neg (by rw [hlen]; exact h')] at hg
                have h3 := q5 i hi'
                rw [getD_lt (by omega)] at h3
                rw [Array.getElem?_eq_getElem (show i < vs.size by omega)] at hg
                have := (Array.getElem?_eq_some_iff.1 hg).2
                rw [this]; exact h3.move hm
        · cases hx
      · cases hx
    · rename_i id k e1
      rw [e1] at h1
      split at hx
      · rename_i e dp xs hid
        split at hx
        · rename_i hc
          obtain ⟨c1, c2, c3⟩ := hc
          split at hx
          · rename_i x' ks d hab
            split at hx
            · rename_i hc2
              obtain ⟨c4, c5, c6⟩ := hc2
              simp only [Option.some.injEq, Prod.mk.injEq] at hx
              obtain ⟨rfl, rfl⟩ := hx
              obtain ⟨hk1, hk2⟩ := absE_ok h (nid := id) h2 hab
              obtain ⟨who', F, r1, g1, n1, o1, m1, q1⟩ := hk2 c6
              have hid' : (S.kill ks).heap id = .arr e dp xs := by rw [← hid]; exact killL_ne c6
              obtain ⟨b, d', hμ, e2⟩ := h1.eptr_inv.2.2 _ _ _ hid
              have hB := h.blk id
              rw [hid] at hB
              obtain ⟨he, hB⟩ := hB
              simp only [hμ] at hB
              obtain ⟨vs, t', Fs, els, hrow, hr, hnr0, hdp0⟩ := hB
              have hnr : ∀ c ∈ Fs.flatten, ¬ Root μ (S.kill ks).heap c := fun c hc hr' => hnr0 c hc (Root.killL hr')
              have hdp : dp = true → Fs.flatten.Nodup ∧ ∀ c ∈ Fs.flatten, who' c = some id ∧ w0.heap.size ≤ c := fun hd => ⟨(hdp0 hd).1, fun c hc => ⟨m1 c ((hdp0 hd).2 c hc).1, ((hdp0 hd).2 c hc).2⟩⟩
              have hkel : k < els.length := by rw [hr.len]; exact c2
              have hone := g1.one.resolve_right (by rintro ⟨us, e3⟩; rw [e3] at c5; simp [GV.isTup] at c5)
              have hvsz : (a.eval y).cells.size = e := by rw [hone.1, c4]
              have hkn : (k + 1) * e ≤ xs.length * e := Nat.mul_le_mul_right _ c2
              rw [Nat.add_mul, Nat.one_mul] at hkn
              have hfit0 := hr.fit
              have hfit : d' + k * e + ti.size ≤ vs.size := by omega
              rw [e2] at fin
              have hrun := run_store_row ht hti hrow (v := a.eval y) (off := d' + k * e + 0) (by rw [hvsz, c1]) hone.2 (by omega)
              rw [fin _ hrun]
              simp only [Nat.add_zero]
              have hlen : (a.eval y).cells.toList.length = e := by simpa using hvsz
              have hfit2 : d' + k * e + (a.eval y).cells.toList.length ≤ vs.size := by omega
              have hsz : (rowPut vs (d' + k * e) (a.eval y).cells.toList).size = vs.size := rowPut_size hfit2
              have hbroot : Root μ (S.kill ks).heap b := ⟨id, d', by rw [hid']; rfl, hμ⟩
              have hmod := r1.mod (id := id) (b := b) (B := .arr e (dp && d) (xs.set k x')) (by rw [hid']; rfl) hμ (Keeps.setRow w b _) hrow (setRow_heap w b vs (rowPut vs (d' + k * e) (a.eval y).cells.toList) t' _ hrow) hsz rfl (by
                intro e1 dp1 xs1 h3
                simp only [Block.arr.injEq] at h3
                exact ⟨dp, xs, by rw [hid', h3.1]⟩) (by simp) (fun hm => ?_)
              · rw [AState.writes_app, AState.writes_kills]
                exact ⟨μ, who', hmod, .none_⟩
              · refine ⟨he, ?_⟩
                simp only [hμ]
                have hk' : Keeps [b] w (w.setRow b (rowPut vs (d' + k * e) (a.eval y).cells.toList)) := Keeps.setRow w b _
                refine ⟨_, t', Fs.set k F, els.set k (a.eval y), setRow_heap w b vs _ t' _ hrow, ⟨by simp [hr.len], by simp [hr.fl], by rw [hsz]; simpa using hr.fit, fun i hi => ?_, fun i hi => ?_, fun i hi => ?_, fun i hi j hj => ?_⟩, fun c hc => ?_, fun hd' => ?_⟩
                · rw [List.getElem_set]
                  split
                  · exact c4
                  · exact hr.nc i (by simpa using hi)
                · simp only [List.getElem_set]
                  split
                  · exact g1.keeps hk' (fun c hc hm' => by simp at hm'; subst hm'; exact n1 c hc hbroot)
                  · exact (hr.el i (by simpa using hi)).keeps hk' (fun c hc hm' => by simp at hm'; subst hm'; exact hnr c (getElem_mem_flatten _ hc) hbroot)
                · simp only [List.getElem_set]
                  split
                  · exact ⟨hvsz, hone.2⟩
                  · exact hr.sz i (by simpa using hi)
                · have hi' : i < els.length := by simpa using hi
                  have hie : (i + 1) * e ≤ xs.length * e := Nat.mul_le_mul_right _ (by rw [← hr.len]; exact hi')
                  rw [Nat.add_mul, Nat.one_mul] at hie
                  rw [rowPut_get hfit2 (by omega), hlen]
                  simp only [List.getElem_set]
                  by_cases hki : k = i
                  · subst hki
                    rw [if_pos (by omega), if_pos rfl]
                    have : d' + k * e + j - (d' + k * e) = j := by omega
                    rw [this]; simp
                  · rw [if_neg hki]
                    have hsep : ¬ (d' + k * e ≤ d' + i * e + j ∧ d' + i * e + j < d' + k * e + e) := by
                      rcases Nat.lt_or_ge i k with h4 | h4
                      · have : (i + 1) * e ≤ k * e := Nat.mul_le_mul_right _ h4
                        rw [Nat.add_mul, Nat.one_mul] at this; omega
                      · have : (k + 1) * e ≤ i * e := Nat.mul_le_mul_right _ (by omega)
                        rw [Nat.add_mul, Nat.one_mul] at this; omega
                    rw [if_neg hsep]
                    exact hr.cell i hi' j hj
                · intro hr'
                  have hr2 : Root μ (S.kill ks).heap c := hr'.mono fun i hi => by
                    unfold upd at hi; split at hi
                    · rename_i e4; rw [e4, hid']; rfl
                    · exact hi
                  rcases set_mem hc with h5 | h5
                  · exact n1 c h5 hr2
                  · exact hnr c h5 hr2
                · simp only [Bool.and_eq_true] at hd'
                  obtain ⟨o2, o3⟩ := o1 hd'.2
                  obtain ⟨o4, o5⟩ := hdp hd'.1
                  exact ⟨set_nodup o4 o2 (q1 Fs.flatten (fun c hc => ⟨hnr0 c hc, ((hdp0 hd'.1).2 c hc).1⟩) hd'.2), fun c hc => (set_mem hc).elim (o3 c) (o5 c)⟩
            · cases hx
          · cases hx
        · cases hx
      · cases hx
    · cases hx

/-! addresses -/

def PV.isPtr (h : Nat → Block) : PV → Bool
  | .ptr id _ => (match h id with | .box _ => true | _ => false)
  | .eptr id _ _ => (match h id with | .arr .. => true | _ => false)
  | .iptr _ | .g (.box _) | .fn _ _ => true
  | _ => false

def aNil (h : Nat → Block) (x : PV) : Option (PV × List (Nat × Block)) := if x.isPtr h then some (x, []) else none

theorem isPtr_ok {h : Nat → Block} {v : Value} {x : PV} (hv : PRep w μ h v x) (hx : x.isPtr h = true) : (∃ p, v = .pointer (some p)) ∨ ∃ f vs, v = .func (.func f) #[] vs := by
  cases x with
  | ptr id off =>
    obtain ⟨_, _, h3⟩ := hv.ptr_inv
    cases hid : h id <;> simp [PV.isPtr, hid] at hx
    obtain ⟨b, _, rfl⟩ := h3 _ hid
    exact .inl ⟨_, rfl⟩
  | eptr id k j =>
    obtain ⟨_, _, h3⟩ := hv.eptr_inv
    cases hid : h id <;> simp [PV.isPtr, hid] at hx
    obtain ⟨b, d, _, rfl⟩ := h3 _ _ _ hid
    exact .inl ⟨_, rfl⟩
  | iptr cs => obtain ⟨p, _, _, rfl, _⟩ := hv.iptr_inv; exact .inl ⟨_, rfl⟩
  | g x =>
    cases x <;> simp [PV.isPtr] at hx
    obtain ⟨b, _, _, rfl, _⟩ := hv.box_inv
    exact .inl ⟨_, rfl⟩
  | fn f cs => obtain ⟨vs, rfl, _⟩ := hv.fn_inv; exact .inr ⟨f, _, rfl⟩
  | _ => simp [PV.isPtr] at hx

theorem op_nil (h : RelAt w0 S a w μ who) {o : Oper} {x : Operand} (ho : o.op = .nilCheck x) {pv : PV} {ws : List (Nat × Block)} (hx : aNil S.heap (S.ev tab 0 x) = some (pv, ws)) :
    Does P w0 a (S.writes ws) pv ((execOp a.eval o).run P w) := by
  have h1 := h.ev tab 0 x
  unfold aNil at hx
  split at hx
  · rename_i hp
    simp only [Option.some.injEq, Prod.mk.injEq] at hx
    obtain ⟨rfl, rfl⟩ := hx
    refine Does.pure h (v := a.eval x) ?_ h1
    unfold execOp
    rcases isPtr_ok h1 hp with ⟨p, hv⟩ | ⟨f, vs, hv⟩ <;> simp [ho, hv]
  · cases hx

def aField (tab : Tab) (h : Nat → Block) (s : TypeId) (x : PV) (f : Nat) : Option (PV × List (Nat × Block)) :=
  match tab s with
  | none => none
  | some ti => match ti.kind with
    | .st fs => match fs[f]? with
      | none => none
      | some (off, ft) => match tab ft with
        | none => none
        | some fi => if fi.size = 0 then none else match x with
          | .ptr id o => if x.isPtr h then some (.ptr id (o + off), []) else none
          | .eptr id k j => if x.isPtr h then some (.eptr id k (j + off), []) else none
          | .iptr cs => some (.iptr (cs.drop off), [])
          | .g (.box cs) => some (.iptr (cs.drop off), [])
          | _ => none
    | _ => none

theorem op_fieldAddr (ht : TabOk P tab) (h : RelAt w0 S a w μ who) {o : Oper} {s : TypeId} {x : Operand} {f : Nat} (ho : o.op = .fieldAddr s x f) {pv : PV} {ws : List (Nat × Block)} (hx : aField tab S.heap s (S.ev tab 0 x) f = some (pv, ws)) :
    Does P w0 a (S.writes ws) pv ((execOp a.eval o).run P w) := by
  have h1 := h.ev tab 0 x
  unfold aField at hx
  split at hx
  · cases hx
  rename_i ti hti
  split at hx
  · rename_i fs hk
    split at hx
    · cases hx
    rename_i off ft hf
    split at hx
    · cases hx
    rename_i fi hfi
    split at hx
    · cases hx
    rename_i hsz
    obtain ⟨inf, z, d, hto⟩ := ht s ti hti
    have hkd := hto.kind
    rw [hk] at hkd
    obtain ⟨fields, rfl, hfs⟩ := hkd
    have hfld : ∃ fd : Field, fields[f]? = some fd ∧ fd.offset = off ∧ fd.type = ft := by
      rw [← hfs] at hf
      simp only [List.getElem?_map, Option.map_eq_some_iff] at hf
      obtain ⟨fd, h2, h3⟩ := hf
      simp only [Prod.mk.injEq] at h3
      exact ⟨fd, by simpa using h2, h3.1, h3.2⟩
    obtain ⟨fd, hfd, rfl, rfl⟩ := hfld
    have fin : ∀ p : Addr, a.eval x = .pointer (some p) → ∀ pv', PRep w μ S.heap (.pointer (some (p.add fd.offset))) pv' → Does P w0 a (S.writes []) pv' ((execOp a.eval o).run P w) := fun p e pv' hv => by
      refine Does.pure h (v := .pointer (some (p.add fd.offset))) ?_ hv
      unfold execOp
      simp [ho, e, Instr.fieldAt, run_underlying hto.desc, hfd, Instr.sureAddr, fieldPlace, ht.sizeOf hfi, hsz]
    split at hx
    · rename_i id off' e1
      rw [e1] at h1 hx
      split at hx
      · rename_i hp
        simp only [Option.some.injEq, Prod.mk.injEq] at hx
        obtain ⟨rfl, rfl⟩ := hx
        obtain ⟨q1, q2, q3⟩ := h1.ptr_inv
        cases hid : S.heap id <;> simp [PV.isPtr, hid] at hp
        rename_i cs
        obtain ⟨b, hμ, e2⟩ := q3 cs hid
        exact fin _ e2 _ (by rw [Addr.add_mid]; exact .ptr _ _ _ rfl q2 fun cs' hc => ⟨b, hμ, rfl⟩)
      · cases hx
    · rename_i id k j e1
      rw [e1] at h1 hx
      split at hx
      · rename_i hp
        simp only [Option.some.injEq, Prod.mk.injEq] at hx
        obtain ⟨rfl, rfl⟩ := hx
        obtain ⟨q1, q2, q3⟩ := h1.eptr_inv
        cases hid : S.heap id <;> simp [PV.isPtr, hid] at hp
        rename_i e dp xs
        obtain ⟨b, d, hμ, e2⟩ := q3 _ _ _ hid
        refine fin _ e2 _ (by
          rw [Addr.add_mid]
          exact .eptr _ _ _ _ rfl q2 fun e' dp' xs' hc => by
            rw [hid] at hc; cases hc
            exact ⟨b, d, hμ, by rw [Nat.add_assoc]⟩)
      · cases hx
    · rename_i cs e1
      rw [e1] at h1
      simp only [Option.some.injEq, Prod.mk.injEq] at hx
      obtain ⟨rfl, rfl⟩ := hx
      obtain ⟨p, vs, Fs, e2, hs, hb, hr, hi⟩ := h1.iptr_inv
      have hblk : (p.add fd.offset).block = p.block := by unfold Addr.add; split <;> rfl
      have hspt : (p.add fd.offset).spot = none := by unfold Addr.add; split <;> simp_all
      exact fin _ e2 _ (PRep.of_imm hspt (by rw [hblk]; exact hb) (by rw [hblk]; exact hr) (hi.drop hs _))
    · rename_i cs e1
      rw [e1] at h1
      simp only [Option.some.injEq, Prod.mk.injEq] at hx
      obtain ⟨rfl, rfl⟩ := hx
      obtain ⟨b, vs, Fs, e2, hb, hr, hi⟩ := h1.box_inv
      exact fin _ e2 _ (PRep.of_imm (by rw [Addr.add_mid]) (by rw [Addr.add_mid]; exact hb) (by rw [Addr.add_mid]; exact hr) (hi.drop rfl _))
    · cases hx
  · cases hx

end
end Go.Proofs.Ytdkjeodenbffnaa
