/- Abstract states: load, store, addresses. Over any program; the table is right ('TabOk'). -/
import Derived.Test.YtjjidamlmebaaaaGreatKA
import Derived.Great.BuildSlice
import Derived.Laws.MakeOwn
import Derived.Laws.StructEq
namespace Go.Proofs.YtjjidamlmebaaaaGreat
open Go.RowKit
open Shp
variable {v : Value} {cs : List PV} {id : Nat} {t : TypeId} {pv : PV}
section
variable {P : Program} {tab : Tab} {w0 : W0} {S : AState} {a : Act} {w : World} {μ : Lay} {who : Nat → Option Nat}
theorem PRep.iptr_inv {h : Nat → Block}  {cs : List GV} (hv : PRep w μ h v (.iptr cs)) : ∃ p vs Fs, v = .pointer (some p) ∧ p.spot = none ∧ p.block < w.heap.size ∧ ¬ Root μ h p.block ∧ ImmAt w μ h p cs vs Fs := by
 cases hv with
 | iptr v p cs vs Fs hp hs hv hF hb hr hc hg he hd => exact ⟨p, vs, Fs, hp, hs, hb, hr, hv, hF, hc, hg, he, hd⟩
theorem PRep.of_imm {h : Nat → Block} {p : Addr} {cs : List GV} {vs : List Value} {Fs : List (List Nat)} (hs : p.spot = none) (hb : p.block < w.heap.size) (hr : ¬ Root μ h p.block) (hi : ImmAt w μ h p cs vs Fs) : PRep w μ h (.pointer (some p)) (.iptr cs) :=
 .iptr _ p cs vs Fs rfl hs hi.hv hi.hF hb hr hi.hc hi.hg hi.he hi.hd
theorem PRep.box_inv {h : Nat → Block}  {cs : List GV} (hv : PRep w μ h v (.g (.box cs))) : ∃ b vs Fs, v = .pointer (some ⟨b, 0, none⟩) ∧ b < w.heap.size ∧ ¬ Root μ h b ∧ ImmAt w μ h ⟨b, 0, none⟩ cs vs Fs := by
 obtain ⟨F, hg, hd⟩ := hv.g_inv
 cases hg with
 | atom x hx => simp [GV.atom] at hx
 | box b vs gs Fs hb hv hF h1 hg hc hh =>
  refine ⟨b, vs, Fs, rfl, hb, hd b (by simp), hv, hF, fun i hi => ⟨?_, h1 _ (List.getElem_mem _)⟩, hg, hh, fun c hc' => hd c (List.mem_cons_of_mem _ hc')⟩
  rw [Addr.add_mid, Nat.zero_add]; exact hc i hi
theorem PRep.ptr_inv {h : Nat → Block}  {off : Nat} (hv : PRep w μ h v (.ptr id off)) : v.oneCell' = true ∧ h id ≠ .free ∧ ∀ cs, h id = .box cs → ∃ b, μ id = some (b, 0) ∧ v = .pointer (some ⟨b, off, none⟩) := by
 cases hv with | ptr v id off h1 h2 h3 => exact ⟨h1, h2, h3⟩
theorem PRep.own_inv {h : Nat → Block}  {lo len : Nat} (hv : PRep w μ h v (.own id lo len)) : v.oneCell' = true ∧ h id ≠ .free ∧ ∀ e dp xs, h id = .arr e dp xs → Zbp w μ id e lo len v := by
 cases hv with | own v id lo len h1 h2 h3 => exact ⟨h1, h2, h3⟩
theorem PRep.eptr_inv {h : Nat → Block}  {k j : Nat} (hv : PRep w μ h v (.eptr id k j)) : v.oneCell' = true ∧ h id ≠ .free ∧ ∀ e dp xs, h id = .arr e dp xs → ∃ b d, μ id = some (b, d) ∧ v = .pointer (some ⟨b, d + k * e + j, none⟩) := by
 cases hv with | eptr v id k j h1 h2 h3 => exact ⟨h1, h2, h3⟩
theorem PRep.agg_inv {h : Nat → Block}   (hv : PRep w μ h v (.agg cs)) : ∃ vs : List Value, v = .agg vs.toArray ∧ ∃ hl : vs.length = cs.length, (∀ u ∈ vs, u.oneCell' = true) ∧ ∀ i (hi : i < cs.length), PRep w μ h (vs[i]'(hl ▸ hi)) cs[i] := by
 cases hv with | agg vs cs hv h1 he => exact ⟨vs, rfl, hv, h1, he⟩
theorem PRep.nils_inv {h : Nat → Block}  {e : Nat} (hv : PRep w μ h v (.nils e)) : v = .slice none 0 0 ∧ 0 < e := by
 cases hv with | nils e he => exact ⟨rfl, he⟩
theorem PRep.fn_inv {h : Nat → Block}  {f : FuncId}  (hv : PRep w μ h v (.fn f cs)) : ∃ vs : List Value, v = .func (.func f) #[] vs.toArray ∧ ∃ hl : vs.length = cs.length, ∀ i (hi : i < cs.length), PRep w μ h (vs[i]'(hl ▸ hi)) cs[i] := by
 cases hv with | fn f vs cs hv he => exact ⟨vs, rfl, hv, he⟩
theorem PRep.tup_inv {h : Nat → Block}   (hv : PRep w μ h v (.tup cs)) : ∃ vs : List Value, v = .tuple vs.toArray ∧ ∃ hl : vs.length = cs.length, ∀ i (hi : i < cs.length), PRep w μ h (vs[i]'(hl ▸ hi)) cs[i] := by
 cases hv with | tup vs cs hv he => exact ⟨vs, rfl, hv, he⟩
theorem ZhW (h : RelAt w0 S a w μ who)   (hx : S.heap id = .box cs) : ∃ b vs t, μ id = some (b, 0) ∧ w.heap[b]? = some (.cells vs t (0, 0)) ∧ vs.size = cs.length ∧ (∀ v ∈ vs.toList, v.oneCell' = true) ∧ (∀ i (hi : i < cs.length), PRep w μ S.heap (vs.getD i Go.undef) cs[i]) ∧ ∀ i, w.cell? ⟨b, i, none⟩ = vs[i]? := by
 have hB := h.blk id
 rw [hx] at hB
 obtain ⟨b, vs, t, h1, h2, h3, h4, h5⟩ := hB
 exact ⟨b, vs, t, h1, h2, h3, h4, h5, fun i => cell_of_row w b i _ _ _ h2⟩
theorem Zbx {vs : Array Value} {i : Nat} (hi : i < vs.size) (u : Value) : vs.getD i u = vs[i] := by simp [Array.getD, hi]
theorem ZmX (ht : TabOk P tab) (h : RelAt w0 S a w μ who)  {u0 : Value} {p0 : PV} (h1 : PRep w μ S.heap u0 p0)  {ws : List (Nat × Block)} (hx : Zeb tab S.heap t p0 = some (pv, ws)) :
  ws = [] ∧ ∃ v, (Instr.loadAt t u0).run P w = .ok v w ∧ PRep w μ S.heap v pv := by
 have fin : ∀ v, (Instr.loadAt t u0).run P w = .ok v w → PRep w μ S.heap v pv → ([] : List (Nat × Block)) = [] ∧ ∃ v, (Instr.loadAt t u0).run P w = .ok v w ∧ PRep w μ S.heap v pv := fun v hr hv => ⟨rfl, v, hr, hv⟩
 unfold Zeb at hx
 split at hx
 ·cases hx
 ·rename_i ti hti
  split at hx
  ·-- a box
   rename_i id off
   split at hx
   ·rename_i cs hid
    ·obtain ⟨b, hμ, e2⟩ := h1.ptr_inv.2.2 cs hid
     obtain ⟨b', vs, t', q1, q2, q3, q4, q5, q6⟩ := ZhW h hid
     rw [hμ] at q1; simp at q1; subst q1
     subst e2
     unfold ZeL at hx
     split at hx
     ·rename_i hag
      split at hx
      ·rename_i hle
       simp only [Option.map_some, Option.some.injEq, Prod.mk.injEq] at hx
       obtain ⟨rfl, rfl⟩ := hx
       have hl : ((vs.toList.drop off).take ti.size).length = ti.size := by simp; omega
       refine fin _ (ZgU ht hti hag _ ((vs.toList.drop off).take ti.size) hl (fun j u hj => ?_)) (.agg _ _ (by simp; omega) (fun u hu => q4 u (List.mem_of_mem_drop (List.mem_of_mem_take hu))) (fun i hi => ?_))
       ·rw [Addr.add_mid, q6]
        obtain ⟨hj', rfl⟩ := List.getElem?_eq_some_iff.1 hj
        have hj2 : off + j < vs.size := by simp at hj'; omega
        simp [hj2]
       ·have hi' : i < ti.size ∧ off + i < cs.length := by simp at hi; omega
        have := q5 (off + i) hi'.2
        rw [Zbx (by omega)] at this
        simpa using this
      ·simp at hx
     ·rename_i hag
      cases hc : cs[off]? with
      | none => simp [hc] at hx
      | some y =>
       simp only [hc, Option.map_some, Option.some.injEq, Prod.mk.injEq] at hx
       obtain ⟨rfl, rfl⟩ := hx
       obtain ⟨ho', rfl⟩ := List.getElem?_eq_some_iff.1 hc
       have := q5 off ho'
       rw [Zbx (by omega)] at this
       exact fin _ (ZgK ht hti (by simpa using hag) _ _ (by rw [q6, Array.getElem?_eq_getElem (by omega)])) this
   ·cases hx
  ·-- an element of an array of one's own
   rename_i id k j
   split at hx
   ·rename_i e dp xs hid
    split at hx
    ·rename_i y hy
     obtain ⟨hk, rfl⟩ := List.getElem?_eq_some_iff.1 hy
     split at hx
     ·cases hx
     ·rename_i htu
      obtain ⟨b, d, hμ, e2⟩ := h1.eptr_inv.2.2 _ _ _ hid
      have hB := h.blk id
      rw [hid] at hB
      obtain ⟨he, hB⟩ := hB
      simp only [hμ] at hB
      obtain ⟨vs, t', Fs, els, hrow, hr, hnr, hdp⟩ := hB
      have hkel : k < els.length := by rw [hr.len]; exact hk
      have hg := hr.el k hk
      have hnc := hr.nc k hk
      have hsz := (hr.sz k hkel).1
      cases hl : Za9 ti ((xs[k]).cells.drop j) with
      | none => simp [hl] at hx
      | some y =>
       simp only [hl, Option.map_some, Option.some.injEq, Prod.mk.injEq] at hx
       obtain ⟨rfl, rfl⟩ := hx
       have htup : ∀ us, xs[k] ≠ .tup us := fun us e3 => htu (by rw [e3]; rfl)
       obtain ⟨vs2, Fs2, hi⟩ := GRep.imm (μ := μ) (h := S.heap) hg (fun c hc => hnr c (Zac _ hc)) htup (p := ⟨b, d + k * e, none⟩) (fun j hj => by
        rw [Addr.add_mid, cell_of_row w b _ _ _ _ hrow, hr.cell k hkel j (by rw [← hsz]; exact hj)]
        simp [hj])
       obtain ⟨v', q1, q2⟩ := Zkl ht h hti (hi.drop rfl j) hl
       subst e2
       exact fin v' (by rw [← Addr.add_mid]; exact q1) q2
    ·cases hx
   ·cases hx
  ·rename_i cs
   obtain ⟨p, vs, Fs, e2, _, _, _, hi⟩ := h1.iptr_inv
   cases hl : Za9 ti cs with
   | none => simp [hl] at hx
   | some y =>
    simp only [hl, Option.map_some, Option.some.injEq, Prod.mk.injEq] at hx
    obtain ⟨rfl, rfl⟩ := hx
    obtain ⟨v', q1, q2⟩ := Zkl ht h hti hi hl
    subst e2
    exact fin v' q1 q2
  ·rename_i cs
   obtain ⟨b, vs, Fs, e2, _, _, hi⟩ := h1.box_inv
   cases hl : Za9 ti cs with
   | none => simp [hl] at hx
   | some y =>
    simp only [hl, Option.map_some, Option.some.injEq, Prod.mk.injEq] at hx
    obtain ⟨rfl, rfl⟩ := hx
    obtain ⟨v', q1, q2⟩ := Zkl ht h hti hi hl
    subst e2
    exact fin v' q1 q2
  ·cases hx
theorem ZuQ (ht : TabOk P tab) (h : RelAt w0 S a w μ who) {o : Oper}  {x : Operand} (ho : o.op = .load t x)  {ws : List (Nat × Block)} (hx : Zeb tab S.heap t (S.ev tab 0 x) = some (pv, ws)) :
  Does P w0 a (S.writes ws) pv ((execOp a.eval o).run P w) := by
 obtain ⟨rfl, v, hr, hv⟩ := ZmX ht h (h.ev tab 0 x) hx
 refine Does.pure h (v := v) ?_ hv
 unfold execOp; simp [ho, hr]
end
end Go.Proofs.YtjjidamlmebaaaaGreat
namespace Go.Proofs.YtjjidamlmebaaaaGreat
open Go.RowKit
open Shp
variable {α : Type} {off b k : Nat} {t : TypeId} {vs : Array Value} {v : Value} {o : Oper} {Fs : List (List Nat)} {F : List Nat} {x : Operand} {pv : PV}
section
variable {P : Program} {tab : Tab} {w0 : W0} {S : AState} {a : Act} {w : World} {μ : Lay} {who : Nat → Option Nat}
theorem Root.killL {h : Nat → Block} {ks : List Nat} {b : Nat} (hr : Root μ (killL h ks) b) : Root μ h b := by
 induction ks generalizing h with
 | nil => exact hr
 | cons k ks ih => exact (ih hr).kill
def setL {α : Type} (cs : List α) (off : Nat) (ps : List α) : List α := cs.take off ++ ps ++ cs.drop (off + ps.length)
theorem ZfL  {cs : List α}  {ps : List α} (h : off + ps.length ≤ cs.length) : (setL cs off ps).length = cs.length := by
 simp [setL]; omega
theorem Znj  {cs : List α}  {ps : List α} (h : off + ps.length ≤ cs.length) {i : Nat} (hi : i < cs.length) : (setL cs off ps)[i]'(by rw [ZfL h]; exact hi) = if h' : off ≤ i ∧ i < off + ps.length then ps[i - off]'(by omega) else cs[i] := by
 unfold setL
 by_cases h1 : i < off
 ·rw [dif_neg (by omega), List.getElem_append_left (by simp; omega), List.getElem_append_left (by simp; omega)]; simp
 ·by_cases h2 : i < off + ps.length
  ·rw [dif_pos (by omega), List.getElem_append_left (by simp; omega), List.getElem_append_right (by simp; omega)]
   congr 1; simp; omega
  ·rw [dif_neg (by omega), List.getElem_append_right (by simp; omega)]
   simp only [List.getElem_drop]
   congr 1; simp; omega
def Zex (tab : Tab) (nid : Nat) (h : Nat → Block) (t : TypeId) (p v : PV) : Option (PV × List (Nat × Block)) :=
 match tab t with
 | none => none
 | some ti => match p with
  | .ptr id off => match h id with
   | .box cs => if v.val && v.cells.length == ti.size && decide (off + ti.size ≤ cs.length) then some (.none_, [(id, .box (setL cs off v.cells))]) else none
   | _ => none
  | .eptr id k 0 => match h id with
   | .arr e dp xs => if e = ti.size ∧ k < xs.length ∧ ZbU (h nid) then (match absE h v with
    | some (x, ks, d) => if x.ncells = e ∧ x.isTup = false ∧ id ∉ ks then some (.none_, Zco ks ++ [(id, .arr e (dp && d) (xs.set k x))]) else none
    | none => none) else none
   | _ => none
  | _ => none
theorem Zfv (ht : TabOk P tab)  {ti : TI} (hti : tab t = some ti)   {t' : FT} (hrow : w.heap[b]? = some (cel vs t'))  (hsz : v.cells.size = ti.size) (h1 : ∀ u ∈ v.cells.toList, u.oneCell' = true) (hfit : off + ti.size ≤ vs.size) :
  (Instr.storeAt t (.pointer (some ⟨b, off, none⟩)) v).run P w = .ok () (w.setRow b (Zbw vs off v.cells.toList)) := by
 have hst := ZbM (P := P) b off t' v.cells.toList 0 vs w hrow (by simp [hsz]; omega) h1
 simp only [Nat.add_zero] at hst
 simp [Instr.storeAt, Instr.sureAddr, storeVar, ht.sizeOf hti, hsz, hst, Zbw]
theorem ZjG  {o : Nat} {news : List Value} (h : o + news.length ≤ vs.size) {i : Nat} (hi : i < vs.size) : (Zbw vs o news)[i]? = if o ≤ i ∧ i < o + news.length then news[i - o]? else vs[i]? := by
 split
 ·rename_i h1
  have : i = o + (i - o) := by omega
  conv => lhs; rw [this]
  rw [ZlI (by omega) (by omega)]
 ·rename_i h1
  by_cases h2 : i < o
  ·exact ZlF (by omega) h2
  ·simp only [Zbw, List.getElem?_toArray]
   rw [List.getElem?_append_right (by simp; omega), List.getElem?_drop]
   have : o + news.length + (i - (vs.toList.take o ++ news).length) = i := by simp; omega
   rw [this]; simp
theorem Zpt  (h1 : Fs.flatten.Nodup) (h2 : F.Nodup) (h3 : ∀ b ∈ Fs.flatten, b ∉ F) : (Fs.set k F).flatten.Nodup := by
 by_cases hk : k < Fs.length
 ·rw [List.set_eq_take_append_cons_drop, if_pos hk, List.flatten_append, List.flatten_cons]
  have e : Fs = Fs.take k ++ Fs[k] :: Fs.drop (k + 1) := by simp
  have hA : (Fs.take k).flatten.Sublist Fs.flatten := ZdO (List.take_sublist _ _)
  have hB : (Fs.drop (k + 1)).flatten.Sublist Fs.flatten := ZdO (List.drop_sublist _ _)
  have hAB : (Fs.take k).flatten.Nodup ∧ (Fs.drop (k + 1)).flatten.Nodup ∧ ∀ a ∈ (Fs.take k).flatten, ∀ b ∈ (Fs.drop (k + 1)).flatten, a ≠ b := by
   rw [e, List.flatten_append, List.flatten_cons] at h1
   have h4 := List.nodup_append.1 h1
   have h5 := List.nodup_append.1 h4.2.1
   exact ⟨h4.1, h5.2.1, fun a ha b hb => h4.2.2 a ha b (List.mem_append.2 (.inr hb))⟩
  refine List.nodup_append.2 ⟨hAB.1, List.nodup_append.2 ⟨h2, hAB.2.1, fun a ha b hb e => ?_⟩, fun a ha b hb e => ?_⟩
  ·subst e; exact h3 a (hB.subset hb) ha
  ·subst e
   rcases List.mem_append.1 hb with h | h
   ·exact h3 a (hA.subset ha) h
   ·exact hAB.2.2 a ha a h rfl
 ·rw [List.set_eq_of_length_le (by omega)]; exact h1
theorem Zo7  (h : b ∈ (Fs.set k F).flatten) : b ∈ F ∨ b ∈ Fs.flatten := by
 simp only [List.mem_flatten] at h ⊢
 obtain ⟨l, hl, hb⟩ := h
 rcases List.mem_or_eq_of_mem_set hl with h1 | h1
 ·exact .inr ⟨l, h1, hb⟩
 ·rw [h1] at hb; exact .inl hb
theorem ZrN (ht : TabOk P tab) (h : RelAt w0 S a w μ who)   {y : Operand} (ho : o.op = .store t x y) {nid : Nat}  {ws : List (Nat × Block)} (hx : Zex tab nid S.heap t (S.ev tab 0 x) (S.ev tab t y) = some (pv, ws)) :
  Does P w0 a (S.writes ws) pv ((execOp a.eval o).run P w) := by
 have h1 := h.ev tab 0 x
 have h2 := h.ev tab t y
 have fin : ∀ w', (Instr.storeAt t (a.eval x) (a.eval y)).run P w = .ok () w' → (execOp a.eval o).run P w = .ok .skip w' := fun w' hr => by
  unfold execOp; simp [ho, hr]
 unfold Zex at hx
 split at hx
 ·cases hx
 ·rename_i ti hti
  split at hx
  ·rename_i id off e1
   rw [e1] at h1
   split at hx
   ·rename_i cs hid
    split at hx
    ·rename_i hc
     simp only [Bool.and_eq_true, beq_iff_eq, decide_eq_true_eq] at hc
     obtain ⟨⟨c1, c2⟩, c3⟩ := hc
     simp only [Option.some.injEq, Prod.mk.injEq] at hx
     obtain ⟨rfl, rfl⟩ := hx
     obtain ⟨b, hμ, e2⟩ := h1.ptr_inv.2.2 cs hid
     obtain ⟨b', vs, t', q1, q2, q3, q4, q5, q6⟩ := ZhW h hid
     rw [hμ] at q1; simp at q1; subst q1
     obtain ⟨d1, d2, d3⟩ := h2.cells c1
     rw [e2] at fin
     have hrun := Zfv (t' := ⟨t', false⟩) ht hti q2 (v := a.eval y) (off := off) (by rw [d1, c2]) d2 (by omega)
     rw [fin _ hrun]
     have hlen : (a.eval y).cells.toList.length = (S.ev tab t y).cells.length := by simpa using d1
     have hfit : off + (a.eval y).cells.toList.length ≤ vs.size := by rw [hlen]; omega
     have hsz : (Zbw vs off (a.eval y).cells.toList).size = vs.size := Zfj hfit
     have hmod := h.mod (id := id) (b := b) (B := .box (setL cs off (S.ev tab t y).cells)) (by rw [hid]; rfl) hμ (Keeps.setRow w b _) (t := ⟨t', false⟩) (t' := ⟨t', false⟩) q2 (setRow_heap w b vs (Zbw vs off (a.eval y).cells.toList) t' _ q2) hsz rfl (by simp) (by simp [hid]) (fun hm => ?_)
     ·exact ⟨μ, who, hmod, .none_⟩
     ·have hcl : off + (S.ev tab t y).cells.length ≤ cs.length := by omega
      refine ⟨b, _, t', hμ, setRow_heap w b vs _ t' _ q2, by rw [hsz, ZfL hcl]; exact q3, fun u hu => ?_, fun i hi => ?_⟩
      ·simp only [Zbw, List.mem_append] at hu
       rcases hu with (hu | hu) | hu
       ·exact q4 u (List.mem_of_mem_take hu)
       ·exact d2 u hu
       ·exact q4 u (List.mem_of_mem_drop hu)
      ·have hi' : i < cs.length := by rw [ZfL hcl] at hi; exact hi
       have hg := ZjG hfit (i := i) (by omega)
       rw [Znj hcl hi', Zbx (by omega)]
       by_cases h' : off ≤ i ∧ i < off + (S.ev tab t y).cells.length
       ·rw [dif_pos h']
        rw [if_pos (by rw [hlen]; exact h')] at hg
        have hi3 : i - off < (a.eval y).cells.size := by rw [d1]; omega
        have h3 := d3 (i - off) (by omega)
        rw [Zbx hi3] at h3
        have : (Zbw vs off (a.eval y).cells.toList)[i]'(by omega) = (a.eval y).cells[i - off] := by
         have h4 : i - off < (a.eval y).cells.toList.length := by simpa using hi3
         rw [List.getElem?_eq_getElem h4] at hg
         have := (Array.getElem?_eq_some_iff.1 hg).2
         simpa using this
        rw [this]; exact h3.move hm
       ·rw [dif_neg h']
        rw [if_neg (by rw [hlen]; exact h')] at hg
        have h3 := q5 i hi'
        rw [Zbx (by omega)] at h3
        rw [Array.getElem?_eq_getElem (show i < vs.size by omega)] at hg
        have := (Array.getElem?_eq_some_iff.1 hg).2
        rw [this]; exact h3.move hm
    ·cases hx
   ·cases hx
  ·rename_i id k e1
   rw [e1] at h1
   split at hx
   ·rename_i e dp xs hid
    split at hx
    ·rename_i hc
     obtain ⟨c1, c2, c3⟩ := hc
     split at hx
     ·rename_i x' ks d hab
      split at hx
      ·rename_i hc2
       obtain ⟨c4, c5, c6⟩ := hc2
       simp only [Option.some.injEq, Prod.mk.injEq] at hx
       obtain ⟨rfl, rfl⟩ := hx
       obtain ⟨hk1, hk2⟩ := ZiM h (nid := id) h2 hab
       obtain ⟨who', F, r1, g1, n1, o1, m1, q1⟩ := hk2 c6
       have hid' : (S.kill ks).heap id = .arr e dp xs := by rw [← hid]; exact Zky c6
       obtain ⟨b, d', hμ, e2⟩ := h1.eptr_inv.2.2 _ _ _ hid
       have hB := h.blk id
       rw [hid] at hB
       obtain ⟨he, hB⟩ := hB
       simp only [hμ] at hB
       obtain ⟨vs, t', Fs, els, hrow, hr, hnr0, hdp0⟩ := hB
       have hnr : ∀ c ∈ Fs.flatten, ¬ Root μ (S.kill ks).heap c := fun c hc hr' => hnr0 c hc (Root.killL hr')
       have hdp : dp = true → Fs.flatten.Nodup ∧ ∀ c ∈ Fs.flatten, who' c = some id ∧ NewB w0 w c := fun hd => ⟨(hdp0 hd).1, fun c hc => ⟨m1 c ((hdp0 hd).2 c hc).1, ((hdp0 hd).2 c hc).2⟩⟩
       have hkel : k < els.length := by rw [hr.len]; exact c2
       have hone := g1.one.resolve_right (by rintro ⟨us, e3⟩; rw [e3] at c5; simp [GV.isTup] at c5)
       have hvsz : (a.eval y).cells.size = e := by rw [hone.1, c4]
       have hkn : (k + 1) * e ≤ xs.length * e := Nat.mul_le_mul_right _ c2
       rw [Nat.add_mul, Nat.one_mul] at hkn
       have hfit0 := hr.fit
       have hfit : d' + k * e + ti.size ≤ vs.size := by omega
       rw [e2] at fin
       have hrun := Zfv ht hti hrow (v := a.eval y) (off := d' + k * e + 0) (by rw [hvsz, c1]) hone.2 (by omega)
       rw [fin _ hrun]
       simp only [Nat.add_zero]
       have hlen : (a.eval y).cells.toList.length = e := by simpa using hvsz
       have hfit2 : d' + k * e + (a.eval y).cells.toList.length ≤ vs.size := by omega
       have hsz : (Zbw vs (d' + k * e) (a.eval y).cells.toList).size = vs.size := Zfj hfit2
       have hbroot : Root μ (S.kill ks).heap b := ⟨id, d', by rw [hid']; rfl, hμ⟩
       have hmod := r1.mod (id := id) (b := b) (B := .arr e (dp && d) (xs.set k x')) (by rw [hid']; rfl) hμ (Keeps.setRow w b _) hrow (Zki hrow hsz) hsz rfl (by
        intro e1 dp1 xs1 h3
        simp only [Block.arr.injEq] at h3
        exact ⟨dp, xs, by rw [hid', h3.1]⟩) (by simp) (fun hm => ?_)
       ·rw [AState.writes_app, AState.writes_kills]
        exact ⟨μ, who', hmod, .none_⟩
       ·refine ⟨he, ?_⟩
        simp only [hμ]
        have hk' : Keeps [b] w (w.setRow b (Zbw vs (d' + k * e) (a.eval y).cells.toList)) := Keeps.setRow w b _
        refine ⟨_, t', Fs.set k F, els.set k (a.eval y), Zki hrow hsz, ⟨by simp [hr.len], by simp [hr.fl], by rw [hsz]; simpa using hr.fit, fun i hi => ?_, fun i hi => ?_, fun i hi => ?_, fun i hi j hj => ?_⟩, fun c hc => ?_, fun hd' => ?_⟩
        ·rw [List.getElem_set]
         split
         ·exact c4
         ·exact hr.nc i (by simpa using hi)
        ·simp only [List.getElem_set]
         split
         ·exact g1.keeps hk' (fun c hc hm' => by simp at hm'; subst hm'; exact n1 c hc hbroot)
         ·exact (hr.el i (by simpa using hi)).keeps hk' (fun c hc hm' => by simp at hm'; subst hm'; exact hnr c (Zac _ hc) hbroot)
        ·simp only [List.getElem_set]
         split
         ·exact ⟨hvsz, hone.2⟩
         ·exact hr.sz i (by simpa using hi)
        ·have hi' : i < els.length := by simpa using hi
         have hie : (i + 1) * e ≤ xs.length * e := Nat.mul_le_mul_right _ (by rw [← hr.len]; exact hi')
         rw [Nat.add_mul, Nat.one_mul] at hie
         rw [ZjG hfit2 (by omega), hlen]
         simp only [List.getElem_set]
         by_cases hki : k = i
         ·subst hki
          rw [if_pos (by omega), if_pos rfl]
          have : d' + k * e + j - (d' + k * e) = j := by omega
          rw [this]; simp
         ·rw [if_neg hki]
          have hsep : ¬ (d' + k * e ≤ d' + i * e + j ∧ d' + i * e + j < d' + k * e + e) := by
           rcases Nat.lt_or_ge i k with h4 | h4
           ·have : (i + 1) * e ≤ k * e := Nat.mul_le_mul_right _ h4
            rw [Nat.add_mul, Nat.one_mul] at this; omega
           ·have : (k + 1) * e ≤ i * e := Nat.mul_le_mul_right _ (by omega)
            rw [Nat.add_mul, Nat.one_mul] at this; omega
          rw [if_neg hsep]
          exact hr.cell i hi' j hj
        ·intro hr'
         have hr2 : Root μ (S.kill ks).heap c := hr'.mono fun i hi => by
          unfold upd at hi; split at hi
          ·rename_i e4; rw [e4, hid']; rfl
          ·exact hi
         rcases Zo7 hc with h5 | h5
         ·exact n1 c h5 hr2
         ·exact hnr c h5 hr2
        ·simp only [Bool.and_eq_true] at hd'
         obtain ⟨o2, o3⟩ := o1 hd'.2
         obtain ⟨o4, o5⟩ := hdp hd'.1
         exact ⟨Zpt o4 o2 (q1 Fs.flatten (fun c hc => ⟨hnr0 c hc, ((hdp0 hd'.1).2 c hc).1⟩) hd'.2), fun c hc => (Zo7 hc).elim (fun h => ⟨(o3 c h).1, (o3 c h).2.keeps hk' (fun hm' => by simp at hm'; subst hm'; exact n1 c h hbroot)⟩) (fun h => ⟨(o5 c h).1, (o5 c h).2.keeps hk' (fun hm' => by simp at hm'; subst hm'; exact hnr c h hbroot)⟩)⟩
      ·cases hx
     ·cases hx
    ·cases hx
   ·cases hx
  ·cases hx
def PV.isPtr (h : Nat → Block) : PV → Bool
 | .ptr id _ => (match h id with | .box _ => true | _ => false)
 | .eptr id _ _ => (match h id with | .arr .. => true | _ => false)
 | .iptr _ | .g (.box _) | .fn _ _ => true
 | _ => false
def aNil (h : Nat → Block) (x : PV) : Option (PV × List (Nat × Block)) := if x.isPtr h then some (x, []) else none
theorem ZrG {h : Nat → Block}  {x : PV} (hv : PRep w μ h v x) (hx : x.isPtr h = true) : (∃ p, v = .pointer (some p)) ∨ ∃ f vs, v = .func (.func f) #[] vs := by
 cases x with
 | ptr id off =>
  obtain ⟨_, _, h3⟩ := hv.ptr_inv
  cases hid : h id <;> simp [PV.isPtr, hid] at hx
  obtain ⟨b, _, rfl⟩ := h3 _ hid
  exact .inl ⟨_, rfl⟩
 | eptr id k j =>
  obtain ⟨_, _, h3⟩ := hv.eptr_inv
  cases hid : h id <;> simp [PV.isPtr, hid] at hx
  obtain ⟨b, d, _, rfl⟩ := h3 _ _ _ hid
  exact .inl ⟨_, rfl⟩
 | iptr cs => obtain ⟨p, _, _, rfl, _⟩ := hv.iptr_inv; exact .inl ⟨_, rfl⟩
 | g x =>
  cases x <;> simp [PV.isPtr] at hx
  obtain ⟨b, _, _, rfl, _⟩ := hv.box_inv
  exact .inl ⟨_, rfl⟩
 | fn f cs => obtain ⟨vs, rfl, _⟩ := hv.fn_inv; exact .inr ⟨f, _, rfl⟩
 | _ => simp [PV.isPtr] at hx
theorem ZxP (h : RelAt w0 S a w μ who)   (ho : o.op = .nilCheck x)  {ws : List (Nat × Block)} (hx : aNil S.heap (S.ev tab 0 x) = some (pv, ws)) :
  Does P w0 a (S.writes ws) pv ((execOp a.eval o).run P w) := by
 have h1 := h.ev tab 0 x
 unfold aNil at hx
 split at hx
 ·rename_i hp
  simp only [Option.some.injEq, Prod.mk.injEq] at hx
  obtain ⟨rfl, rfl⟩ := hx
  refine Does.pure h (v := a.eval x) ?_ h1
  unfold execOp
  rcases ZrG h1 hp with ⟨p, hv⟩ | ⟨f, vs, hv⟩ <;> simp [ho, hv]
 ·cases hx
def Zep (tab : Tab) (h : Nat → Block) (s : TypeId) (x : PV) (f : Nat) : Option (PV × List (Nat × Block)) :=
 match tab s with
 | none => none
 | some ti => match ti.kind with
  | .st fs => match fs[f]? with
   | none => none
   | some (off, ft) => match tab ft with
    | none => none
    | some fi => if fi.size = 0 then none else match x with
     | .ptr id o => if x.isPtr h then some (.ptr id (o + off), []) else none
     | .eptr id k j => if x.isPtr h then some (.eptr id k (j + off), []) else none
     | .iptr cs => some (.iptr (cs.drop off), [])
     | .g (.box cs) => some (.iptr (cs.drop off), [])
     | _ => none
  | _ => none
theorem ZkT (ht : TabOk P tab) (h : RelAt w0 S a w μ who)  {s : TypeId}  {f : Nat} (ho : o.op = .fieldAddr s x f)  {ws : List (Nat × Block)} (hx : Zep tab S.heap s (S.ev tab 0 x) f = some (pv, ws)) :
  Does P w0 a (S.writes ws) pv ((execOp a.eval o).run P w) := by
 have h1 := h.ev tab 0 x
 unfold Zep at hx
 split at hx
 ·cases hx
 rename_i ti hti
 split at hx
 ·rename_i fs hk
  split at hx
  ·cases hx
  rename_i off ft hf
  split at hx
  ·cases hx
  rename_i fi hfi
  split at hx
  ·cases hx
  rename_i hsz
  obtain ⟨inf, z, d, hto⟩ := ht s ti hti
  have hkd := hto.kind
  rw [hk] at hkd
  obtain ⟨fields, rfl, hfs⟩ := hkd
  have hfld : ∃ fd : Field, fields[f]? = some fd ∧ fd.offset = off ∧ fd.type = ft := by
   rw [← hfs] at hf
   simp only [List.getElem?_map, Option.map_eq_some_iff] at hf
   obtain ⟨fd, h2, h3⟩ := hf
   simp only [Prod.mk.injEq] at h3
   exact ⟨fd, by simpa using h2, h3.1, h3.2⟩
  obtain ⟨fd, hfd, rfl, rfl⟩ := hfld
  have fin : ∀ p : Addr, a.eval x = .pointer (some p) → ∀ pv', PRep w μ S.heap (.pointer (some (p.add fd.offset))) pv' → Does P w0 a (S.writes []) pv' ((execOp a.eval o).run P w) := fun p e pv' hv => by
   refine Does.pure h (v := .pointer (some (p.add fd.offset))) ?_ hv
   unfold execOp
   simp [ho, e, Instr.fieldAt, run_underlying hto.desc, hfd, Instr.sureAddr, fieldPlace, ht.sizeOf hfi, hsz]
  split at hx
  ·rename_i id off' e1
   rw [e1] at h1 hx
   split at hx
   ·rename_i hp
    simp only [Option.some.injEq, Prod.mk.injEq] at hx
    obtain ⟨rfl, rfl⟩ := hx
    obtain ⟨q1, q2, q3⟩ := h1.ptr_inv
    cases hid : S.heap id <;> simp [PV.isPtr, hid] at hp
    rename_i cs
    obtain ⟨b, hμ, e2⟩ := q3 cs hid
    exact fin _ e2 _ (by rw [Addr.add_mid]; exact .ptr _ _ _ rfl q2 fun cs' hc => ⟨b, hμ, rfl⟩)
   ·cases hx
  ·rename_i id k j e1
   rw [e1] at h1 hx
   split at hx
   ·rename_i hp
    simp only [Option.some.injEq, Prod.mk.injEq] at hx
    obtain ⟨rfl, rfl⟩ := hx
    obtain ⟨q1, q2, q3⟩ := h1.eptr_inv
    cases hid : S.heap id <;> simp [PV.isPtr, hid] at hp
    rename_i e dp xs
    obtain ⟨b, d, hμ, e2⟩ := q3 _ _ _ hid
    refine fin _ e2 _ (by
     rw [Addr.add_mid]
     exact .eptr _ _ _ _ rfl q2 fun e' dp' xs' hc => by
      rw [hid] at hc; cases hc
      exact ⟨b, d, hμ, by rw [Nat.add_assoc]⟩)
   ·cases hx
  ·rename_i cs e1
   rw [e1] at h1
   simp only [Option.some.injEq, Prod.mk.injEq] at hx
   obtain ⟨rfl, rfl⟩ := hx
   obtain ⟨p, vs, Fs, e2, hs, hb, hr, hi⟩ := h1.iptr_inv
   have hblk : (p.add fd.offset).block = p.block := by unfold Addr.add; split <;> rfl
   have hspt : (p.add fd.offset).spot = none := by unfold Addr.add; split <;> simp_all
   exact fin _ e2 _ (PRep.of_imm hspt (by rw [hblk]; exact hb) (by rw [hblk]; exact hr) (hi.drop hs _))
  ·rename_i cs e1
   rw [e1] at h1
   simp only [Option.some.injEq, Prod.mk.injEq] at hx
   obtain ⟨rfl, rfl⟩ := hx
   obtain ⟨b, vs, Fs, e2, hb, hr, hi⟩ := h1.box_inv
   exact fin _ e2 _ (PRep.of_imm (by rw [Addr.add_mid]) (by rw [Addr.add_mid]; exact hb) (by rw [Addr.add_mid]; exact hr) (hi.drop rfl _))
  ·cases hx
 ·cases hx
end
end Go.Proofs.YtjjidamlmebaaaaGreat
namespace Go.Proofs.YtjjidamlmebaaaaGreat
open Go.RowKit
open Shp
variable {o : Oper} {t : TypeId} {x : Operand} {pv : PV}
section
variable {P : Program} {tab : Tab} {w0 : W0} {S : AState} {a : Act} {w : World} {μ : Lay} {who : Nat → Option Nat}
def Zbz (tab : Tab) (h : Nat → Block) (t : TypeId) (x i : PV) : Option (PV × List (Nat × Block)) :=
 match tab t, i with
 | some ti, .g (.int _ n) => match ti.kind with
  | .sl E => match tab E with
   | none => none
   | some ei => match x with
    | .own id lo len => (match h id with
     | .arr e _ _ => if 0 ≤ n ∧ n < (len : Int) then (if e = ei.size then some (.eptr id (lo + n.toNat) 0, []) else none) else none
     | _ => none)
    | .g (.sl e xs) => if 0 ≤ n ∧ n < (xs.length : Int) then (if e = ei.size ∧ (xs.getD n.toNat default).isTup = false then some (.iptr (xs.getD n.toNat default).cells, []) else none) else none
    | .g (.ex _ e xs) => if 0 ≤ n ∧ n < (xs.length : Int) then (if e = ei.size ∧ (xs.getD n.toNat default).isTup = false then some (.iptr (xs.getD n.toNat default).cells, []) else none) else none
    | .g (.bd _ e xs) => if 0 ≤ n ∧ n < (xs.length : Int) then (if e = ei.size ∧ (xs.getD n.toNat default).isTup = false then some (.iptr (xs.getD n.toNat default).cells, []) else none) else none
    | _ => none
  | .ar m E => match tab E with
   | none => none
   | some ei => if 0 ≤ n ∧ n < (m : Int) then (match x with
    | .ptr id off => if x.isPtr h then some (.ptr id (off + n.toNat * ei.size), []) else none
    | .iptr cs => some (.iptr (cs.drop (n.toNat * ei.size)), [])
    | .g (.box cs) => some (.iptr (cs.drop (n.toNat * ei.size)), [])
    | .eptr id k j => if x.isPtr h then some (.eptr id k (j + n.toNat * ei.size), []) else none
    | _ => none) else none
  | _ => none
 | _, _ => none
theorem ZqX (ht : TabOk P tab) (h : RelAt w0 S a w μ who)   {i : Operand} (ho : o.op = .indexAddr t x i)  {ws : List (Nat × Block)} (hx : Zbz tab S.heap t (S.ev tab 0 x) (S.ev tab 0 i) = some (pv, ws)) :
  Does P w0 a (S.writes ws) pv ((execOp a.eval o).run P w) := by
 have h1 := h.ev tab 0 x
 have h2 := h.ev tab 0 i
 unfold Zbz at hx
 split at hx
 ·rename_i ti k n hti ei1
  rw [ei1] at h2
  have hiv := h2.int_inv
  split at hx
  ·rename_i E hk
   split at hx
   ·cases hx
   rename_i ei hE
   obtain ⟨inf, z, d, hto⟩ := ht t ti hti
   have hkd := hto.kind
   rw [hk] at hkd
   obtain ⟨rfl, _⟩ := hkd
   have fin : ∀ p len cap, a.eval x = .slice (some p) len cap → 0 ≤ n ∧ n < (len : Int) → ∀ pv', PRep w μ S.heap (.pointer (some (p.add (n.toNat * ei.size)))) pv' → Does P w0 a (S.writes []) pv' ((execOp a.eval o).run P w) := fun p len cap e hn pv' hv => by
    refine Does.pure h (v := .pointer (some (p.add (n.toNat * ei.size)))) ?_ hv
    unfold execOp
    simp [ho, e, hiv, Instr.indexAt, asIntOf, run_underlying hto.desc, hn.1, hn.2, ht.sizeOf hE]
   split at hx
   ·rename_i id lo len e1
    rw [e1] at h1
    split at hx
    ·rename_i e dp xs hid
     split at hx
     ·rename_i hn
      split at hx
      ·rename_i he
       simp only [Option.some.injEq, Prod.mk.injEq] at hx
       obtain ⟨rfl, rfl⟩ := hx
       obtain ⟨q1, q2, q3⟩ := h1.own_inv
       have hoa := q3 _ _ _ hid
       unfold Zbp at hoa
       cases hμ : μ id with
       | none => simp only [hμ] at hoa; omega
       | some bd =>
        obtain ⟨b, d⟩ := bd
        simp only [hμ] at hoa
        obtain ⟨cap, o', hv, hl, hm, vs, t', hrow, hoo, hfit⟩ := hoa
        refine fin _ _ _ hv hn _ ?_
        rw [Addr.add_mid]
        refine .eptr _ _ _ _ rfl q2 fun e' dp' xs' hc => ⟨b, d, hμ, ?_⟩
        rw [hid] at hc; cases hc
        rw [hoo (by omega), ← he, Nat.add_zero, Nat.add_mul, Nat.add_assoc]
      ·cases hx
     ·cases hx
    ·cases hx
   ·rename_i e xs e1
    rw [e1] at h1
    split at hx
    ·rename_i hn
     split at hx
     ·rename_i he
      simp only [Option.some.injEq, Prod.mk.injEq] at hx
      obtain ⟨rfl, rfl⟩ := hx
      obtain ⟨F, hg, hd⟩ := h1.g_inv
      obtain ⟨ad, cap, els, Fs, hv, hF, hs⟩ := hg.slice
      have hlt : n.toNat < xs.length := by omega
      cases ad with
      | none => have := hs.nil rfl; have := hs.le; omega
      | some p =>
       have hlt' : n.toNat < els.length := by rw [hs.hv]; exact hlt
       refine fin p _ _ hv (by exact hn) _ ?_
       have hcap0 : 0 < cap := by have := hs.le; omega
       have hpa := hs.ad p rfl hcap0
       have e3 : xs.getD n.toNat default = xs[n.toNat] := by simp [List.getD, hlt]
       have hblk : (p.add (n.toNat * ei.size)).block = p.block := by unfold Addr.add; split <;> rfl
       have hspt : (p.add (n.toNat * ei.size)).spot = none := by have := hpa.1; unfold Addr.add; split <;> simp_all
       obtain ⟨vs2, Fs2, hi⟩ := GRep.imm (μ := μ) (h := S.heap) (hs.h n.toNat hlt) (fun c hc => hd c (by rw [hF]; exact List.mem_append.2 (.inr (Zac _ hc)))) (fun us e4 => by rw [e3, e4] at he; simp [GV.isTup] at he) (p := p.add (n.toNat * ei.size)) (fun j hj => by
        have := ((hs.hc n.toNat hlt').2.2 j hj).1
        rw [add_add p hpa.1, ← he.1]
        exact this)
       rw [e3]
       exact PRep.of_imm hspt (by rw [hblk]; exact hpa.2) (by rw [hblk]; exact hd _ (by rw [hF]; exact List.mem_append.2 (.inl (Zce rfl hcap0)))) hi
     ·cases hx
    ·cases hx
   ·rename_i u e xs e1
    rw [e1] at h1
    split at hx
    ·rename_i hn
     split at hx
     ·rename_i he
      simp only [Option.some.injEq, Prod.mk.injEq] at hx
      obtain ⟨rfl, rfl⟩ := hx
      obtain ⟨F, hg, hd⟩ := h1.g_inv
      obtain ⟨ad, cap, els, Fs, hv, hF, hs⟩ := hg.unex.2.slice
      have hlt : n.toNat < xs.length := by omega
      cases ad with
      | none => have := hs.nil rfl; have := hs.le; omega
      | some p =>
       have hlt' : n.toNat < els.length := by rw [hs.hv]; exact hlt
       refine fin p _ _ hv (by exact hn) _ ?_
       have hcap0 : 0 < cap := by have := hs.le; omega
       have hpa := hs.ad p rfl hcap0
       have e3 : xs.getD n.toNat default = xs[n.toNat] := by simp [List.getD, hlt]
       have hblk : (p.add (n.toNat * ei.size)).block = p.block := by unfold Addr.add; split <;> rfl
       have hspt : (p.add (n.toNat * ei.size)).spot = none := by have := hpa.1; unfold Addr.add; split <;> simp_all
       obtain ⟨vs2, Fs2, hi⟩ := GRep.imm (μ := μ) (h := S.heap) (hs.h n.toNat hlt) (fun c hc => hd c (by rw [hF]; exact List.mem_append.2 (.inr (Zac _ hc)))) (fun us e4 => by rw [e3, e4] at he; simp [GV.isTup] at he) (p := p.add (n.toNat * ei.size)) (fun j hj => by
        have := ((hs.hc n.toNat hlt').2.2 j hj).1
        rw [add_add p hpa.1, ← he.1]
        exact this)
       rw [e3]
       exact PRep.of_imm hspt (by rw [hblk]; exact hpa.2) (by rw [hblk]; exact hd _ (by rw [hF]; exact List.mem_append.2 (.inl (Zce rfl hcap0)))) hi
     ·cases hx
    ·cases hx
   ·rename_i u e xs e1
    rw [e1] at h1
    split at hx
    ·rename_i hn
     split at hx
     ·rename_i he
      simp only [Option.some.injEq, Prod.mk.injEq] at hx
      obtain ⟨rfl, rfl⟩ := hx
      obtain ⟨F, hg, hd⟩ := h1.g_inv
      obtain ⟨ad, cap, els, Fs, hv, hF, hs⟩ := hg.unbd.1.slice
      have hlt : n.toNat < xs.length := by omega
      cases ad with
      | none => have := hs.nil rfl; have := hs.le; omega
      | some p =>
       have hlt' : n.toNat < els.length := by rw [hs.hv]; exact hlt
       refine fin p _ _ hv (by exact hn) _ ?_
       have hcap0 : 0 < cap := by have := hs.le; omega
       have hpa := hs.ad p rfl hcap0
       have e3 : xs.getD n.toNat default = xs[n.toNat] := by simp [List.getD, hlt]
       have hblk : (p.add (n.toNat * ei.size)).block = p.block := by unfold Addr.add; split <;> rfl
       have hspt : (p.add (n.toNat * ei.size)).spot = none := by have := hpa.1; unfold Addr.add; split <;> simp_all
       obtain ⟨vs2, Fs2, hi⟩ := GRep.imm (μ := μ) (h := S.heap) (hs.h n.toNat hlt) (fun c hc => hd c (by rw [hF]; exact List.mem_append.2 (.inr (Zac _ hc)))) (fun us e4 => by rw [e3, e4] at he; simp [GV.isTup] at he) (p := p.add (n.toNat * ei.size)) (fun j hj => by
        have := ((hs.hc n.toNat hlt').2.2 j hj).1
        rw [add_add p hpa.1, ← he.1]
        exact this)
       rw [e3]
       exact PRep.of_imm hspt (by rw [hblk]; exact hpa.2) (by rw [hblk]; exact hd _ (by rw [hF]; exact List.mem_append.2 (.inl (Zce rfl hcap0)))) hi
     ·cases hx
    ·cases hx
   ·cases hx
  ·rename_i m E hk
   split at hx
   ·cases hx
   rename_i ei hE
   obtain ⟨inf, z, d, hto⟩ := ht t ti hti
   have hkd := hto.kind
   rw [hk] at hkd
   have hdd : d = .array m E := hkd
   subst hdd
   split at hx
   ·rename_i hn
    have fin : ∀ p, a.eval x = .pointer (some p) → ∀ pv', PRep w μ S.heap (.pointer (some (p.add (n.toNat * ei.size)))) pv' → Does P w0 a (S.writes []) pv' ((execOp a.eval o).run P w) := fun p e pv' hv => by
     refine Does.pure h (v := .pointer (some (p.add (n.toNat * ei.size)))) ?_ hv
     unfold execOp
     simp [ho, e, hiv, Instr.indexAt, asIntOf, run_underlying hto.desc, hn.1, hn.2, ht.sizeOf hE, Instr.sureAddr]
    split at hx
    ·rename_i id off e1
     rw [e1] at h1 hx
     split at hx
     ·rename_i hp
      simp only [Option.some.injEq, Prod.mk.injEq] at hx
      obtain ⟨rfl, rfl⟩ := hx
      obtain ⟨q1, q2, q3⟩ := h1.ptr_inv
      cases hid : S.heap id <;> simp [PV.isPtr, hid] at hp
      rename_i cs
      obtain ⟨b, hμ, e2⟩ := q3 cs hid
      exact fin _ e2 _ (by rw [Addr.add_mid]; exact .ptr _ _ _ rfl q2 fun cs' hc => ⟨b, hμ, rfl⟩)
     ·cases hx
    ·rename_i cs e1
     rw [e1] at h1
     simp only [Option.some.injEq, Prod.mk.injEq] at hx
     obtain ⟨rfl, rfl⟩ := hx
     obtain ⟨p, vs, Fs, e2, hs, hb, hr, hi⟩ := h1.iptr_inv
     have hblk : (p.add (n.toNat * ei.size)).block = p.block := by unfold Addr.add; split <;> rfl
     have hspt : (p.add (n.toNat * ei.size)).spot = none := by unfold Addr.add; split <;> simp_all
     exact fin _ e2 _ (PRep.of_imm hspt (by rw [hblk]; exact hb) (by rw [hblk]; exact hr) (hi.drop hs _))
    ·rename_i cs e1
     rw [e1] at h1
     simp only [Option.some.injEq, Prod.mk.injEq] at hx
     obtain ⟨rfl, rfl⟩ := hx
     obtain ⟨b, vs, Fs, e2, hb, hr, hi⟩ := h1.box_inv
     exact fin _ e2 _ (PRep.of_imm (by rw [Addr.add_mid]) (by rw [Addr.add_mid]; exact hb) (by rw [Addr.add_mid]; exact hr) (hi.drop rfl _))
    ·rename_i id k' j e1
     rw [e1] at h1 hx
     split at hx
     ·rename_i hp
      simp only [Option.some.injEq, Prod.mk.injEq] at hx
      obtain ⟨rfl, rfl⟩ := hx
      obtain ⟨q1, q2, q3⟩ := h1.eptr_inv
      cases hid : S.heap id <;> simp [PV.isPtr, hid] at hp
      rename_i e dp xs
      obtain ⟨b, d, hμ, e2⟩ := q3 _ _ _ hid
      refine fin _ e2 _ (by
       rw [Addr.add_mid]
       exact .eptr _ _ _ _ rfl q2 fun e' dp' xs' hc => by
        rw [hid] at hc; cases hc
        exact ⟨b, d, hμ, by rw [Nat.add_assoc]⟩)
     ·cases hx
    ·cases hx
   ·cases hx
  ·cases hx
 ·cases hx
def bnd : Option PV → Nat → Option Int
 | none, d => some d
 | some (.g (.int _ n)), _ => some n
 | _, _ => none
def Ze7 (tab : Tab) (h : Nat → Block) (t : TypeId) (x : PV) (lo hi : Option PV) : Option (PV × List (Nat × Block)) :=
 match tab t with
 | none => none
 | some ti => match ti.kind with
  | .sl E => match tab E with
   | none => none
   | some ei => match x with
    | .own id l0 len => (match h id, bnd lo 0, bnd hi len with
     | .arr e _ _, some l, some u => if 0 ≤ l ∧ l ≤ u ∧ u ≤ (len : Int) then (if e = ei.size then some (.own id (l0 + l.toNat) (u.toNat - l.toNat), []) else none) else none
     | _, _, _ => none)
    | .g (.sl e xs) => (match bnd lo 0, bnd hi xs.length with
     | some l, some u => if 0 ≤ l ∧ l ≤ u ∧ u ≤ (xs.length : Int) then (if e = ei.size then some (.g (.sl e ((xs.drop l.toNat).take (u.toNat - l.toNat))), []) else none) else none
     | _, _ => none)
    | .nils e => (match bnd lo 0, bnd hi 0 with
     | some l, some u => if l = 0 ∧ u = 0 then some (.nils e, []) else none
     | _, _ => none)
    | _ => none
  | _ => none
theorem Zjl {isS : Bool} {lo hi : Option PV} {vlo vhi : Option Operand} {len cap : Nat} {l u : Int} (hlo : ∀ x, vlo = some x → ∃ p, lo = some p ∧ PRep w μ S.heap (a.eval x) p) (hlo' : vlo = none → lo = none) (hhi : ∀ x, vhi = some x → ∃ p, hi = some p ∧ PRep w μ S.heap (a.eval x) p) (hhi' : vhi = none → hi = none)
  (h1 : bnd lo 0 = some l) (h2 : bnd hi len = some u) (hc : len ≤ cap) (hb : 0 ≤ l ∧ l ≤ u ∧ u ≤ (len : Int)) :
  (Instr.sliceBounds isS len cap (vlo.map a.eval) (vhi.map a.eval) none).run P w = .ok (l.toNat, u.toNat, cap) w := by
 have key : ∀ (o : Option PV) (v : Option Operand) (d : Nat) (x : Int), (∀ y, v = some y → ∃ p, o = some p ∧ PRep w μ S.heap (a.eval y) p) → (v = none → o = none) → bnd o d = some x → (v = none ∧ x = d) ∨ ∃ y k, v = some y ∧ a.eval y = .int k x := by
  intro o v d x e1 e2 e3
  cases v with
  | none => rw [e2 rfl] at e3; simp [bnd] at e3; exact .inl ⟨rfl, e3.symm⟩
  | some y =>
   obtain ⟨p, rfl, hp⟩ := e1 y rfl
   cases p <;> simp [bnd] at e3
   rename_i g
   cases g <;> simp at e3
   subst e3
   exact .inr ⟨y, _, rfl, hp.int_inv⟩
 rcases key hi vhi len u hhi hhi' h2 with ⟨rfl, rfl⟩ | ⟨y, k, rfl, hy⟩
 ·rcases key lo vlo 0 l hlo hlo' h1 with ⟨rfl, rfl⟩ | ⟨y2, k2, rfl, hy2⟩
  ·simp [Instr.sliceBounds]
  ·simp [Instr.sliceBounds, Instr.sliceBound, hy2, asIntOf, hb.1, hb.2.1]
 ·rcases key lo vlo 0 l hlo hlo' h1 with ⟨rfl, rfl⟩ | ⟨y2, k2, rfl, hy2⟩
  ·have h3 : 0 ≤ u := by omega
   have h4 : u ≤ (cap : Int) := by omega
   simp [Instr.sliceBounds, Instr.sliceBound, hy, asIntOf, h3, h4]
  ·have h3 : 0 ≤ u := by omega
   have h4 : u ≤ (cap : Int) := by omega
   have h5 : l ≤ ((u.toNat : Nat) : Int) := by omega
   simp [Instr.sliceBounds, Instr.sliceBound, hy, hy2, asIntOf, h3, h4, hb.1, h5]
   intro hh
   exfalso; omega
theorem Zqf (ht : TabOk P tab) (h : RelAt w0 S a w μ who)    {lo hi : Option Operand} (ho : o.op = .slice t x lo hi none)  {ws : List (Nat × Block)} (hx : Ze7 tab S.heap t (S.ev tab 0 x) (lo.map (S.ev tab 0)) (hi.map (S.ev tab 0)) = some (pv, ws)) :
  Does P w0 a (S.writes ws) pv ((execOp a.eval o).run P w) := by
 have h1 := h.ev tab 0 x
 have blo : ∀ (v : Option Operand) y, v = some y → ∃ p, v.map (S.ev tab 0) = some p ∧ PRep w μ S.heap (a.eval y) p := by rintro v y rfl; exact ⟨_, rfl, h.ev tab 0 y⟩
 have bno : ∀ (v : Option Operand), v = none → v.map (S.ev tab 0) = none := by rintro v rfl; rfl
 unfold Ze7 at hx
 split at hx
 ·cases hx
 rename_i ti hti
 split at hx
 ·rename_i E hk
  split at hx
  ·cases hx
  rename_i ei hE
  obtain ⟨inf, z, d, hto⟩ := ht t ti hti
  have hkd := hto.kind
  rw [hk] at hkd
  obtain ⟨rfl, _⟩ := hkd
  have fin : ∀ ad len cap l u, a.eval x = .slice ad len cap → len ≤ cap → bnd (lo.map (S.ev tab 0)) 0 = some l → bnd (hi.map (S.ev tab 0)) len = some u → (0 ≤ l ∧ l ≤ u ∧ u ≤ (len : Int)) → ∀ pv', PRep w μ S.heap (.slice (if cap = l.toNat then ad else ad.map (·.add (l.toNat * ei.size))) (u.toNat - l.toNat) (cap - l.toNat)) pv' → Does P w0 a (S.writes []) pv' ((execOp a.eval o).run P w) := fun ad len cap l u e hc b1 b2 hb pv' hv => by
   refine Does.pure h (v := _) ?_ hv
   have hbb := Zjl (P := P) (isS := true) (blo lo) (bno lo) (blo hi) (bno hi) b1 b2 hc hb
   unfold execOp
   simp [ho, e, Instr.sliceAt, Instr.slice, run_underlying hto.desc, hbb, ht.sizeOf hE]
  split at hx
  ·rename_i id l0 len e1
   rw [e1] at h1
   split at hx
   ·rename_i e dp xs l u hid b1 b2
    split at hx
    ·rename_i hb
     split at hx
     ·rename_i he
      simp only [Option.some.injEq, Prod.mk.injEq] at hx
      obtain ⟨rfl, rfl⟩ := hx
      obtain ⟨q1, q2, q3⟩ := h1.own_inv
      have hoa := q3 _ _ _ hid
      unfold Zbp at hoa
      cases hμ : μ id with
      | none =>
       simp only [hμ] at hoa
       obtain ⟨⟨ad0, hv⟩, rfl, rfl⟩ := hoa
       have hl0 : l = 0 := by omega
       have hu0 : u = 0 := by omega
       subst hl0; subst hu0
       refine fin _ _ _ _ _ hv (Nat.le_refl _) b1 b2 hb _ ?_
       refine .own _ _ _ _ rfl q2 fun e' dp' xs' hc => ?_
       unfold Zbp; simp [hμ]
      | some bd =>
       obtain ⟨b, d⟩ := bd
       simp only [hμ] at hoa
       obtain ⟨cap, o', hv, hl, hm, vs, t', hrow, hoo, hfit⟩ := hoa
       refine fin _ _ _ _ _ hv hl b1 b2 hb _ ?_
       refine .own _ _ _ _ (by split <;> rfl) q2 fun e' dp' xs' hc => ?_
       rw [hid] at hc; cases hc
       unfold Zbp
       simp only [hμ]
       by_cases hcl : cap = l.toNat
       ·rw [if_pos hcl]
        refine ⟨cap - l.toNat, o', rfl, by omega, by omega, vs, t', hrow, fun h0 => by omega, ?_⟩
        have : cap - l.toNat = 0 := by omega
        rw [this]; omega
       ·rw [if_neg hcl]
        have hlt : l.toNat < cap := by omega
        refine ⟨cap - l.toNat, o' + l.toNat * ei.size, by rw [Option.map_some, Addr.add_mid], by omega, by omega, vs, t', hrow, fun h0 => ?_, ?_⟩
        ·rw [hoo (by omega), ← he, Nat.add_mul]; omega
        ·have h9 : l.toNat * e + (cap - l.toNat) * e = cap * e := by rw [← Nat.add_mul]; congr 1; omega
         rw [← he]; omega
     ·cases hx
    ·cases hx
   ·cases hx
  ·rename_i e xs e1
   rw [e1] at h1
   split at hx
   ·rename_i l u b1 b2
    split at hx
    ·rename_i hb
     split at hx
     ·rename_i he
      simp only [Option.some.injEq, Prod.mk.injEq] at hx
      obtain ⟨rfl, rfl⟩ := hx
      obtain ⟨F, hg, hd⟩ := h1.g_inv
      obtain ⟨ad, cap, els, Fs, hv, hF, hs⟩ := hg.slice
      refine fin _ _ _ _ _ hv hs.le b1 b2 hb _ ?_
      have hlen : ((xs.drop l.toNat).take (u.toNat - l.toNat)).length = u.toNat - l.toNat := by simp; omega
      have hgg := GRep.sl (w := w) (if cap = l.toNat then ad else ad.map (·.add (l.toNat * ei.size))) (cap - l.toNat) e ((els.drop l.toNat).take (u.toNat - l.toNat)) ((xs.drop l.toNat).take (u.toNat - l.toNat)) ((Fs.drop l.toNat).take (u.toNat - l.toNat))
       (by have := hs.hv; simp; omega) (by have := hs.hF; simp; omega) hs.he (fun y hy => hs.nc y (List.mem_of_mem_drop (List.mem_of_mem_take hy))) (by rw [hlen]; have := hs.le; omega) (by have := hs.max; omega) (fun e3 => by
        split at e3
        ·have := hs.nil e3; omega
        ·have : ad = none := by cases ad <;> simp_all
         have := hs.nil this; omega) (fun p e3 hc0 => by
        split at e3
        ·omega
        ·cases ad with
         | none => simp at e3
         | some q =>
          simp at e3
          subst e3
          have := hs.ad q rfl (by have := hs.le; omega)
          have hblk : (q.add (l.toNat * ei.size)).block = q.block := by unfold Addr.add; split <;> rfl
          have hspt : (q.add (l.toNat * ei.size)).spot = none := by unfold Addr.add; split <;> simp_all
          exact ⟨hspt, by rw [hblk]; exact this.2⟩)
       (fun k hk => by
        have hk' : k < u.toNat - l.toNat ∧ l.toNat + k < els.length := by simp at hk; omega
        have hcap : ¬ cap = l.toNat := by have := hs.le; omega
        have hge : ((els.drop l.toNat).take (u.toNat - l.toNat))[k]'hk = els[l.toNat + k]'hk'.2 := by simp
        rw [hge, if_neg hcap]
        refine ⟨(hs.hc _ hk'.2).1, (hs.hc _ hk'.2).2.1, fun j hj => ?_⟩
        have h5 := (hs.hc _ hk'.2).2.2 j hj
        cases ad with
        | none => have := hs.nil rfl; have := hs.le; omega
        | some q =>
         have hq := (hs.ad q rfl (by have := hs.le; have := hs.hv; omega)).1
         have e5 : sAt (Option.map (fun x => x.add (l.toNat * ei.size)) (some q)) (k * e + j) = sAt (some q) ((l.toNat + k) * e + j) := by
          have h6 : (l.toNat + k) * e + j = l.toNat * ei.size + (k * e + j) := by rw [← he, Nat.add_mul]; omega
          rw [h6]
          exact add_add q hq _ _
         rw [e5]; exact h5)
       (fun k hk => by
        have hk' : k < u.toNat - l.toNat ∧ l.toNat + k < xs.length := by simp at hk; omega
        simp only [List.getElem_take, List.getElem_drop]
        exact hs.h _ hk'.2)
       (fun i hi => by
        have hcap : ¬ cap = l.toNat := by intro e9; rw [e9, Nat.sub_self, Nat.zero_mul] at hi; omega
        rw [if_neg hcap]
        have hlt : l.toNat * e + i < cap * e := by
         rw [Nat.sub_mul] at hi
         have : l.toNat * e ≤ cap * e := Nat.mul_le_mul_right _ (by have := hs.le; omega)
         omega
        have h5 := hs.rm _ hlt
        cases ad with
        | none => have := hs.nil rfl; subst this; simp at hlt
        | some q =>
         have hc0 : 0 < cap := by
           apply Classical.byContradiction; intro h0; have : cap = 0 := by omega
           subst this; simp at hlt
         have hq := (hs.ad q rfl hc0).1
         have e5 : sAt (Option.map (fun x => x.add (l.toNat * ei.size)) (some q)) i = sAt (some q) (l.toNat * e + i) := by
          rw [← he]
          exact add_add q hq _ _
         rw [e5]; exact h5)
      rw [hlen] at hgg
      refine .g _ _ _ hgg fun c hc => hd c ?_
      rw [hF]
      rcases List.mem_append.1 hc with h7 | h7
      ·refine List.mem_append.2 (.inl ?_)
       obtain ⟨p, hp, hc0, rfl⟩ := own_inv h7
       rw [if_neg (by omega)] at hp
       cases ad with
       | none => simp at hp
       | some q =>
        have hblk : (q.add (l.toNat * ei.size)).block = q.block := by unfold Addr.add; split <;> rfl
        simp only [Option.map_some, Option.some.injEq] at hp
        rw [← hp, hblk]
        exact Zce rfl (by omega)
      ·exact List.mem_append.2 (.inr ((ZdO ((List.take_sublist _ _).trans (List.drop_sublist _ _))).subset h7))
     ·cases hx
    ·cases hx
   ·cases hx
  ·rename_i e e1
   rw [e1] at h1
   split at hx
   ·rename_i l u b1 b2
    split at hx
    ·rename_i hb
     obtain ⟨rfl, rfl⟩ := hb
     simp only [Option.some.injEq, Prod.mk.injEq] at hx
     obtain ⟨rfl, rfl⟩ := hx
     obtain ⟨hv, he⟩ := h1.nils_inv
     exact fin _ _ _ _ _ hv (Nat.le_refl _) b1 b2 (by simp) _ (.nils e he)
    ·cases hx
   ·cases hx
  ·cases hx
 ·cases hx
end
end Go.Proofs.YtjjidamlmebaaaaGreat
namespace Go.Proofs.YtjjidamlmebaaaaGreat
open Go.RowKit
open Shp
variable {o : Oper} {t : TypeId} {pv : PV}
section
variable {P : Program} {tab : Tab} {w0 : W0} {S : AState} {a : Act} {w : World} {μ : Lay} {who : Nat → Option Nat}
def Zn9 (tab : Tab) (t : TypeId) (x : PV) (f : Nat) : Option (PV × List (Nat × Block)) :=
 match tab t with
 | none => none
 | some ti => match ti.kind with
  | .st fs => match fs[f]? with
   | none => none
   | some (off, ft) => match tab ft with
    | none => none
    | some fi => match x with
     | .agg cs => if fi.kind.agg then (if off + fi.size ≤ cs.length then some (.agg ((cs.drop off).take fi.size), []) else none) else (match cs[off]? with | some y => some (y, []) | none => none)
     | .g (.agg gs) => if fi.kind.agg then none else (match gs[off]? with | some y => some (.g y, []) | none => none)
     | _ => none
  | _ => none
theorem ZrT (ht : TabOk P tab) (h : RelAt w0 S a w μ who)   {x : Operand} {f : Nat} (ho : o.op = .field t x f)  {ws : List (Nat × Block)} (hx : Zn9 tab t (S.ev tab 0 x) f = some (pv, ws)) :
  Does P w0 a (S.writes ws) pv ((execOp a.eval o).run P w) := by
 have h1 := h.ev tab 0 x
 unfold Zn9 at hx
 split at hx
 ·cases hx
 rename_i ti hti
 split at hx
 ·rename_i fs hk
  split at hx
  ·cases hx
  rename_i off ft hf
  split at hx
  ·cases hx
  rename_i fi hfi
  obtain ⟨inf, z, d, hto⟩ := ht t ti hti
  have hkd := hto.kind
  rw [hk] at hkd
  obtain ⟨fields, rfl, hfs⟩ := hkd
  have hfld : ∃ fd : Field, fields[f]? = some fd ∧ fd.offset = off ∧ fd.type = ft := by
   rw [← hfs] at hf
   simp only [List.getElem?_map, Option.map_eq_some_iff] at hf
   obtain ⟨fd, h2, h3⟩ := hf
   simp only [Prod.mk.injEq] at h3
   exact ⟨fd, by simpa using h2, h3.1, h3.2⟩
  obtain ⟨fd, hfd, rfl, rfl⟩ := hfld
  split at hx
  ·rename_i cs e1
   rw [e1] at h1
   obtain ⟨vs, hv, hl, h2, h3⟩ := h1.agg_inv
   split at hx
   ·rename_i hag
    split at hx
    ·rename_i hle
     simp only [Option.some.injEq, Prod.mk.injEq] at hx
     obtain ⟨rfl, rfl⟩ := hx
     refine Does.pure h (v := .agg ((vs.drop fd.offset).take fi.size).toArray) ?_ (.agg _ _ (by simp; omega) (fun u hu => h2 u (List.mem_of_mem_drop (List.mem_of_mem_take hu))) (fun i hi => ?_))
     ·unfold execOp
      have e5 : vs.toArray.extract fd.offset (fd.offset + fi.size) = ((vs.drop fd.offset).take fi.size).toArray := by
       apply Array.ext'; simp [Array.toList_extract, List.extract_eq_take_drop]
      simp [ho, hv, Instr.field, run_underlying hto.desc, hfd, asAgg, part, ht.agg hfi, hag, ht.sizeOf hfi, e5]
     ·simp only [List.getElem_take, List.getElem_drop]
      exact h3 _ (by simp at hi; omega)
    ·cases hx
   ·rename_i hag
    split at hx
    ·rename_i y hy
     simp only [Option.some.injEq, Prod.mk.injEq] at hx
     obtain ⟨rfl, rfl⟩ := hx
     obtain ⟨hi, rfl⟩ := List.getElem?_eq_some_iff.1 hy
     refine Does.pure h (v := vs[fd.offset]'(by omega)) ?_ (h3 _ hi)
     unfold execOp
     have hi' : fd.offset < vs.length := by omega
     simp [ho, hv, Instr.field, run_underlying hto.desc, hfd, asAgg, part, ht.agg hfi, hag, hi']
    ·cases hx
  ·rename_i gs e1
   rw [e1] at h1
   obtain ⟨F, hg, hd⟩ := h1.g_inv
   split at hx
   ·cases hx
   ·rename_i hag
    split at hx
    ·rename_i y hy
     simp only [Option.some.injEq, Prod.mk.injEq] at hx
     obtain ⟨rfl, rfl⟩ := hx
     obtain ⟨hi, rfl⟩ := List.getElem?_eq_some_iff.1 hy
     generalize hu : a.eval x = u at hg
     cases hg with
     | atom x hx => simp [GV.atom] at hx
     | agg vs gs Fs hv hF h1' hg' hh =>
      have hi' : fd.offset < vs.length := by omega
      refine Does.pure h (v := vs[fd.offset]) ?_ (.g _ _ _ (hh _ hi) fun b hb => hd b (Zac _ hb))
      unfold execOp
      simp [ho, hu, Instr.field, run_underlying hto.desc, hfd, asAgg, part, ht.agg hfi, hag, hi']
    ·cases hx
  ·cases hx
 ·cases hx
def ZjZ (ZbG : Nat → Option (Nat × Nat)) (cells : List PV) : List (Nat × PV) → Option (List PV)
 | [] => some cells
 | (i, p) :: rest => match ZbG i with
  | none => none
  | some (off, size) => if p.val && p.cells.length == size && decide (off + size ≤ cells.length) then ZjZ ZbG (setL cells off p.cells) rest else none
theorem ZlG (off : Nat) : ∀ (vs : List Value) (k : Nat) (cells : Array Value), ((vs.zipIdx k).foldl (fun cs (x : Value × Nat) => cs.setIfInBounds (off + x.2) x.1) cells).size = cells.size ∧ ∀ i, i < cells.size → ((vs.zipIdx k).foldl (fun cs (x : Value × Nat) => cs.setIfInBounds (off + x.2) x.1) cells)[i]? = if off + k ≤ i ∧ i < off + k + vs.length then vs[i - (off + k)]? else cells[i]?
 | [], k, cells => by simp; omega
 | v :: vs, k, cells => by
  obtain ⟨h1, h2⟩ := ZlG off vs (k + 1) (cells.setIfInBounds (off + k) v)
  simp only [List.zipIdx_cons, List.foldl_cons]
  refine ⟨by rw [h1]; simp, fun i hi => ?_⟩
  rw [h2 i (by simpa using hi)]
  by_cases e : i = off + k
  ·subst e
   rw [if_neg (by omega), if_pos (by simp)]
   simp [hi]
  ·by_cases h3 : off + (k + 1) ≤ i ∧ i < off + (k + 1) + vs.length
   ·rw [if_pos h3, if_pos (by simp; omega)]
    have : i - (off + k) = (i - (off + (k + 1))) + 1 := by omega
    rw [this]; simp
   ·rw [if_neg h3, if_neg (by simp; omega)]
    rw [Array.getElem?_setIfInBounds_ne (by omega)]
theorem Zo3 {ZbG : Nat → Option (Nat × Nat)} : ∀ (ps : List (Nat × PV)) (vs : List (Nat × Value)) (hl : vs.length = ps.length), (∀ i (hi : i < ps.length), (vs[i]'(hl ▸ hi)).1 = ps[i].1 ∧ PRep w μ S.heap (vs[i]'(hl ▸ hi)).2 ps[i].2) →
  ∀ (cells : Array Value) (cs : List PV), cells.size = cs.length → (∀ v ∈ cells.toList, v.oneCell' = true) → (∀ i (hi : i < cs.length), PRep w μ S.heap (cells.getD i Go.undef) cs[i]) → ∀ {cs' : List PV}, ZjZ ZbG cs ps = some cs' →
  ∃ cells', Instr.fill ZbG cells vs = some cells' ∧ cells'.size = cs'.length ∧ (∀ v ∈ cells'.toList, v.oneCell' = true) ∧ (∀ i (hi : i < cs'.length), PRep w μ S.heap (cells'.getD i Go.undef) cs'[i])
 | [], vs, hl, _, cells, cs, h1, h2, h3, cs', hx => by
  simp only [ZjZ, Option.some.injEq] at hx
  subst hx
  have : vs = [] := List.eq_nil_of_length_eq_zero hl
  subst this
  exact ⟨cells, rfl, h1, h2, h3⟩
 | (i, p) :: ps, vs, hl, hp, cells, cs, h1, h2, h3, cs', hx => by
  cases vs with
  | nil => simp at hl
  | cons v vs =>
   obtain ⟨i', v⟩ := v
   obtain ⟨e1, hv⟩ := hp 0 (by simp)
   simp only [List.getElem_cons_zero] at e1 hv
   subst e1
   unfold ZjZ at hx
   cases hpl : ZbG i' with
   | none => simp [hpl] at hx
   | some os =>
    obtain ⟨off, size⟩ := os
    simp only [hpl] at hx
    split at hx
    ·rename_i hc
     simp only [Bool.and_eq_true, beq_iff_eq, decide_eq_true_eq] at hc
     obtain ⟨⟨c1, c2⟩, c3⟩ := hc
     obtain ⟨d1, d2, d3⟩ := hv.cells c1
     have hcl : off + p.cells.length ≤ cs.length := by omega
     obtain ⟨f1, f2⟩ := ZlG off v.cells.toList 0 cells
     have hvl : v.cells.toList.length = size := by simpa using d1.trans c2
     have e5 : v.cells.zipIdx.foldl (fun cs (x : Value × Nat) => cs.setIfInBounds (off + x.2) x.1) cells = (v.cells.toList.zipIdx 0).foldl (fun cs (x : Value × Nat) => cs.setIfInBounds (off + x.2) x.1) cells := by
      rw [← Array.foldl_toList]; simp
     have t1 : (v.cells.zipIdx.foldl (fun cs (x : Value × Nat) => cs.setIfInBounds (off + x.2) x.1) cells).size = (setL cs off p.cells).length := by
      rw [e5, f1, ZfL hcl]; exact h1
     have t2 : ∀ u ∈ (v.cells.zipIdx.foldl (fun cs (x : Value × Nat) => cs.setIfInBounds (off + x.2) x.1) cells).toList, u.oneCell' = true := by
      intro u hu
      rw [e5] at hu
      obtain ⟨k, hk, rfl⟩ := List.getElem_of_mem hu
      have hk' : k < cells.size := by rw [Array.length_toList, f1] at hk; exact hk
      have := f2 k hk'
      rw [Array.getElem_toList]
      have hk2 : k < ((v.cells.toList.zipIdx 0).foldl (fun cs (x : Value × Nat) => cs.setIfInBounds (off + x.2) x.1) cells).size := by simpa using hk
      rw [Array.getElem?_eq_getElem hk2] at this
      split at this
      ·have h9 := List.mem_of_getElem? this.symm
       exact d2 _ h9
      ·rw [Array.getElem?_eq_getElem hk'] at this
       simp only [Option.some.injEq] at this
       rw [this]; exact h2 _ (by simp)
     have t3 : ∀ i (hi : i < (setL cs off p.cells).length), PRep w μ S.heap ((v.cells.zipIdx.foldl (fun cs (x : Value × Nat) => cs.setIfInBounds (off + x.2) x.1) cells).getD i Go.undef) (setL cs off p.cells)[i] := by
      intro k hk
      have hk0 : k < cs.length := by rw [ZfL hcl] at hk; exact hk
      have hk' : k < cells.size := by omega
      have hk2 : k < ((v.cells.toList.zipIdx 0).foldl (fun cs (x : Value × Nat) => cs.setIfInBounds (off + x.2) x.1) cells).size := by rw [f1]; exact hk'
      have := f2 k hk'
      rw [Array.getElem?_eq_getElem hk2] at this
      rw [e5, Zbx hk2, Znj hcl hk0]
      by_cases h' : off ≤ k ∧ k < off + p.cells.length
      ·rw [dif_pos h']
       rw [if_pos (by omega)] at this
       have h8 := d3 (k - off) (by omega)
       have h9 : k - off < v.cells.size := by omega
       rw [Zbx h9] at h8
       rw [Nat.add_zero] at this
       rw [List.getElem?_eq_getElem (by simpa using h9)] at this
       simp only [Option.some.injEq] at this
       rw [this]; simpa using h8
      ·rw [dif_neg h']
       rw [if_neg (by omega)] at this
       rw [Array.getElem?_eq_getElem hk'] at this
       simp only [Option.some.injEq] at this
       have h8 := h3 k hk0
       rw [Zbx hk'] at h8
       rw [this]; exact h8
     obtain ⟨c', g1, g2⟩ := Zo3 ps vs (by simpa using hl) (fun k hk => hp (k + 1) (by simpa using hk)) _ _ t1 t2 t3 hx
     refine ⟨c', ?_, g2⟩
     unfold Instr.fill
     simp only [hpl]
     rw [if_neg (by simp only [Bool.or_eq_true, decide_eq_true_eq, not_or]; exact ⟨by omega, by omega⟩)]
     exact g1
    ·cases hx
def ZfQ (ti : TI) (i : Nat) : TypeId :=
 match ti.kind with
 | .st fs => (fs.getD i (0, 0)).2
 | .ar _ E => E
 | _ => 0
def ZcV (tab : Tab) : List (Nat × TypeId) → Option (List (Nat × Nat))
 | [] => some []
 | (off, ft) :: fs => match tab ft, ZcV tab fs with
  | some fi, some ps => some ((off, fi.size) :: ps)
  | _, _ => none
def ZlC (tab : Tab) (t : TypeId) (parts : List (Nat × PV)) : Option (PV × List (Nat × Block)) :=
 match tab t with
 | none => none
 | some ti => match ti.kind with
  | .st fs => match ZcV tab fs with
   | some ps => (match ZjZ (ps[·]?) ti.zero parts with
    | some cs => some (.agg cs, [])
    | none => none)
   | none => none
  | .ar _ E => match tab E with
   | some ei => (match ZjZ (fun i => some (i * ei.size, ei.size)) ti.zero parts with
    | some cs => some (.agg cs, [])
    | none => none)
   | none => none
  | _ => none
theorem ZkO (ht : TabOk P tab) : ∀ (fields : List Field) (fs : List (Nat × TypeId)), fields.map (fun f => (f.offset, f.type)) = fs → ∀ {ps : List (Nat × Nat)}, ZcV tab fs = some ps → fields.mapM (fun f => (P.info? f.type).map fun i => (f.offset, i.size)) = some ps
 | [], fs, h, ps, hx => by simp at h; subst h; simp [ZcV] at hx; subst hx; rfl
 | f :: fields, fs, h, ps, hx => by
  simp at h
  subst h
  unfold ZcV at hx
  cases hf : tab f.type with
  | none => simp [hf] at hx
  | some fi =>
   cases hr : ZcV tab (fields.map fun f => (f.offset, f.type)) with
   | none => simp [hf, hr] at hx
   | some rest =>
    simp [hf, hr] at hx
    subst hx
    obtain ⟨inf, z, d, h1⟩ := ht _ _ hf
    simp [List.mapM_cons, h1.info, ZkO ht fields _ rfl hr, h1.size]
theorem Zqx (ht : TabOk P tab) (h : RelAt w0 S a w μ who)   {parts : Array (Nat × Operand)} (ho : o.op = .build t parts) {ti : TI} (hti : tab t = some ti)  {ws : List (Nat × Block)}
  (hx : ZlC tab t (parts.toList.map fun (i, x) => (i, S.ev tab (ZfQ ti i) x)) = some (pv, ws)) : Does P w0 a (S.writes ws) pv ((execOp a.eval o).run P w) := by
 obtain ⟨inf, z, d, hto⟩ := ht t ti hti
 have hz1 : ∀ v ∈ z.cells.toList, v.oneCell' = true := fun v hv => by
  obtain ⟨k, hk', rfl⟩ := List.getElem_of_mem hv
  have h6 := (hto.zok k (by rw [hto.zlen, ← hto.zsize]; simpa using hk')).1
  simpa [Array.getD, show k < z.cells.size by simpa using hk'] using h6
 have hz2 : ∀ i (hi : i < ti.zero.length), PRep w μ S.heap (z.cells.getD i Go.undef) ti.zero[i] := fun i hi => (hto.zok i hi).2 w μ S.heap
 have key : ∀ (ZbG : Nat → Option (Nat × Nat)) cs', ZjZ ZbG ti.zero (parts.toList.map fun (i, x) => (i, S.ev tab (ZfQ ti i) x)) = some cs' → (∀ cells, Instr.fill ZbG z.cells (parts.toList.map fun (i, x) => (i, a.eval x)) = some cells → P.built t (parts.toList.map fun (i, x) => (i, a.eval x)) = some cells) → Does P w0 a (S.writes []) (.agg cs') ((execOp a.eval o).run P w) := by
  intro ZbG cs' hfl hb
  obtain ⟨cells, g1, g2, g3, g4⟩ := Zo3 (w := w) (μ := μ) (S := S) _ (parts.toList.map fun (i, x) => (i, a.eval x)) (by simp) (fun i hi => by simp; exact h.ev tab _ _) z.cells ti.zero (by rw [hto.zsize, hto.zlen]) hz1 hz2 hfl
  have hrun := run_build (P := P) w t (parts.map fun (i, x) => (i, a.eval x)) cells (by simpa using hb cells g1)
  refine Does.pure h (v := .agg cells) ?_ ?_
  ·unfold execOp; simp [ho, hrun]
  ·have := PRep.agg (w := w) (μ := μ) (h := S.heap) cells.toList cs' (by simpa using g2) g3 (fun i hi => by
    have h8 := g4 i hi
    rw [Zbx (by omega)] at h8
    simpa using h8)
   simpa using this
 unfold ZlC at hx
 simp only [hti] at hx
 have hkd := hto.kind
 split at hx
 ·rename_i fs hk
  rw [hk] at hkd
  obtain ⟨fields, rfl, hfs⟩ := hkd
  split at hx
  ·rename_i ps hps
   split at hx
   ·rename_i cs' hfl
    simp only [Option.some.injEq, Prod.mk.injEq] at hx
    obtain ⟨rfl, rfl⟩ := hx
    refine key _ _ hfl fun cells hc => ?_
    unfold Program.built
    simp only [hto.info, hto.desc, hto.zero, ZkO ht _ _ hfs hps]
    simpa using hc
   ·cases hx
  ·cases hx
 ·rename_i n E hk
  rw [hk] at hkd
  have hdd : d = .array n E := hkd
  subst hdd
  split at hx
  ·rename_i ei hE
   split at hx
   ·rename_i cs' hfl
    simp only [Option.some.injEq, Prod.mk.injEq] at hx
    obtain ⟨rfl, rfl⟩ := hx
    obtain ⟨inf', z', d', hto'⟩ := ht _ _ hE
    refine key _ _ hfl fun cells hc => ?_
    unfold Program.built
    simp only [hto.info, hto.desc, hto.zero, hto'.info, hto'.size]
    exact hc
   ·cases hx
  ·cases hx
 ·cases hx
end
end Go.Proofs.YtjjidamlmebaaaaGreat
namespace Go.Proofs.YtjjidamlmebaaaaGreat
open Go.RowKit
open Shp
variable {t E : TypeId} {o : Oper} {nid : Nat} {pv : PV} {x c : Operand}
section
variable {P : Program} {tab : Tab} {w0 : W0} {S : AState} {a : Act} {w : World} {μ : Lay} {who : Nat → Option Nat}
def ZbO (tab : Tab) (t : TypeId) : Option (TypeId × Nat) :=
 match tab t with
 | none => none
 | some ti => match ti.kind with
  | .sl E => match tab E with
   | some ei => some (E, ei.size)
   | none => none
  | _ => none
theorem Zei (ht : TabOk P tab)  {e : Nat} (h : ZbO tab t = some (E, e)) (hpos : 0 < e) : ∃ i z, ZmU P t E e i z := by
 unfold ZbO at h
 split at h
 ·cases h
 ·rename_i ti hti
  split at h
  ·rename_i E' hk
   split at h
   ·rename_i ei hE
    simp only [Option.some.injEq, Prod.mk.injEq] at h
    obtain ⟨rfl, rfl⟩ := h
    exact ht.elem hti hk hE hpos
   ·cases h
  ·cases h
def aLit (tab : Tab) (nid : Nat) (h : Nat → Block) (t : TypeId) (len : Nat) (idx : List Nat) (ps : List PV) : Option (PV × List (Nat × Block)) :=
 match ZbO tab t with
 | none => none
 | some (_, e) => if ZbU (h nid) ∧ idx = List.range len ∧ 0 < e ∧ len * e ≤ 16777216 then (match absL absE h ps with
  | some (gs, ks, d) => if gs.all (fun x => x.ncells == e && !x.isTup) then some (.own nid 0 len, Zco ks ++ [(nid, .arr e d gs)]) else none
  | none => none) else none
theorem ZlQ : ∀ (xs : List Value) (k : Nat), xs.zipIdx k = xs.zip (List.range' k xs.length)
 | [], _ => rfl
 | x :: xs, k => by simp [List.zipIdx_cons, List.range'_succ, ZlQ xs (k + 1)]
theorem Zwg (ht : TabOk P tab) (h : RelAt w0 S a w μ who)   {len : Nat} {parts : Array (Nat × Operand)} (ho : o.op = .buildSlice t len parts)  {e0 : Nat} (hE : ZbO tab t = some (E, e0))   {ws : List (Nat × Block)}
  (hx : aLit tab nid S.heap t len (parts.toList.map (·.1)) (parts.toList.map fun (_, x) => S.ev tab E x) = some (pv, ws)) : Does P w0 a (S.writes ws) pv ((execOp a.eval o).run P w) := by
 unfold aLit at hx
 rw [hE] at hx
 simp only at hx
 split at hx
 ·rename_i hc
  obtain ⟨c1, c2, c3, c4⟩ := hc
  split at hx
  ·rename_i gs ks d hab
   split at hx
   ·rename_i hall
    simp only [Option.some.injEq, Prod.mk.injEq] at hx
    obtain ⟨rfl, rfl⟩ := hx
    obtain ⟨i, z, hel⟩ := Zei ht hE c3
    have hnf := ZbI c1
    have hlp : parts.toList.length = len := by have := congrArg List.length c2; simpa using this
    obtain ⟨hk1, hk2⟩ := ZhM ZiM (nid := nid) _ h (parts.toList.map fun (_, x) => a.eval x) (by simp) (fun i hi => by simp; exact h.ev tab _ _) hab
    obtain ⟨who', Fs, r1, hg, hF, g1, n1, o1, _, _⟩ := hk2 (fun hm => hk1 nid hm hnf)
    have hgl : gs.length = len := by rw [← hg]; simpa using hlp
    simp only [List.all_eq_true, Bool.and_eq_true, beq_iff_eq, Bool.not_eq_true'] at hall
    have hels : ∀ v ∈ parts.toList.map (fun (x : Nat × Operand) => a.eval x.2), v.cells.size = e0 ∧ ∀ u ∈ v.cells.toList, u.oneCell' = true := by
     intro v hv
     obtain ⟨k, hk, rfl⟩ := List.getElem_of_mem hv
     have hk' : k < gs.length := by rw [← hg]; exact hk
     have h5 := (g1 k hk').one.resolve_right (by rintro ⟨us, e3⟩; have := (hall _ (List.getElem_mem hk')).2; rw [e3] at this; simp [GV.isTup] at this)
     exact ⟨by have h6 := h5.1; rw [(hall _ (List.getElem_mem hk')).1] at h6; exact h6, h5.2⟩
    have hnf' : (S.kill ks).heap nid = .free := (ZeT hk1).2 hnf
    have hrun : (Instr.buildSlice t len (parts.map fun (i, x) => (i, a.eval x))).run P w = .ok (.slice (some ⟨w.heap.size, 0, none⟩) len len) (w.alloc (.cells (ZaS (parts.toList.map fun (x : Nat × Operand) => a.eval x.2)).toArray E)) := by
     by_cases h0 : len = 0
     ·subst h0
      have hp : parts = #[] := by apply Array.ext'; exact List.eq_nil_of_length_eq_zero hlp
      subst hp
      simp [Instr.buildSlice, run_underlying hel.u, sizeOf, typeInfo, hel.inf, Instr.fill, newRow, ZaS, Array.range_zero']
     ·refine run_buildSlice w t E len _ _ i z hel.u hel.inf hel.zero (by rw [hel.sz]; omega) (by rw [hel.sz]; intro h9; rcases Nat.mul_eq_zero.1 h9 with h9 | h9 <;> omega) ?_
      have hf := Go.Great.fill_whole c3 (parts.toList.map fun (x : Nat × Operand) => a.eval x.2) ((Array.range (len * i.size)).map (z.cells[· % z.cells.size]!)) (fun v hv => (hels v hv).1) (by simp [hlp, hel.sz])
      rw [hel.sz] at hf ⊢
      have e6 : (parts.map fun (i, x) => (i, a.eval x)).toList = ((parts.toList.map fun (x : Nat × Operand) => a.eval x.2).zipIdx 0).map fun x => (x.2, x.1) := by
       rw [ZlQ]
       simp only [Array.toList_map, List.length_map, hlp, ← List.range_eq_range', ← c2]
       apply List.ext_getElem
       ·simp
       ·intro k h1 h2; simp
      rw [e6]; exact hf
    have hrr : RowRep (w.alloc (.cells (ZaS (parts.toList.map fun (x : Nat × Operand) => a.eval x.2)).toArray E)) (ZaS (parts.toList.map fun (x : Nat × Operand) => a.eval x.2)).toArray 0 e0 gs Fs (parts.toList.map fun (x : Nat × Operand) => a.eval x.2) := by
     refine Zcr c3 hg hF (fun v hv => (hels v hv).1) (fun v hv => (hels v hv).2) (fun x hx => (hall x hx).1) (fun k hk => (g1 k hk).keeps0 (Keeps.alloc [] w _)) ?_ (fun k hk => ?_)
     ·have := Zds (fun v hv => (hels v hv).1); rw [hg] at this; simp [this]
     ·rw [Nat.zero_add]; simp
    obtain ⟨μ', q1, q2⟩ := r1.newArr (t := ⟨_, false⟩) (nid := nid) (cap := len) hnf' (Keeps.alloc [] w _) (Nat.le_refl _) c3 (ZiN w _) hrr (fun c hc => ⟨n1 c hc, fun e => by
     obtain ⟨k, hk', hc'⟩ := Zaq hc
     have := (g1 k (by rw [← hF]; exact hk')).lt c hc'; omega⟩) o1 (by omega) (by
      have := Zds (fun v hv => (hels v hv).1)
      simp only [List.size_toArray, Nat.zero_add, this, List.length_map, hlp]; exact Nat.le_refl _) (by have : len * 1 ≤ len * e0 := Nat.mul_le_mul_left _ c3; omega)
    have hexec : (execOp a.eval o).run P w = .ok (.value (.slice (some ⟨w.heap.size, 0, none⟩) len len)) (w.alloc (.cells (ZaS (parts.toList.map fun (x : Nat × Operand) => a.eval x.2)).toArray E)) := by
     unfold execOp; simp only [ho, Sem.run_bind, hrun, Result.andThen_ok, Sem.run_pure]
    rw [hexec, AState.writes_app, AState.writes_kills]
    rw [hgl] at q2
    exact ⟨μ', who', q1, q2⟩
   ·cases hx
  ·cases hx
 ·cases hx
def ZeQ : PV → Option GV
 | .g v => if v.atom then some v else none
 | .nils e => if 0 < e then some (.sl e []) else none
 | _ => none
def Zn8 (ti : TI) : Option GV :=
 match ti.kind with
 | .base | .int _ | .str | .sl _ | .bool => match ti.zero with
  | [p] => ZeQ p
  | _ => none
 | _ => none
theorem ZdR {v : Value} {p : PV} {x : GV} (hz : ZgT v p) (h : ZeQ p = some x) (w : World) : GRep w [] v x ∧ x.ncells = 1 ∧ x.isTup = false := by
 have hv := hz.2 w (fun _ => none) (fun _ => .free)
 cases p <;> simp [ZeQ] at h
 ·rename_i y
  obtain ⟨hy, rfl⟩ := h
  obtain ⟨F, hg, _⟩ := hv.g_inv
  have := hg.of_atom hy
  subst this
  exact ⟨hg, by cases y <;> simp_all [GV.atom, GV.ncells], by cases y <;> simp_all [GV.atom, GV.isTup]⟩
 ·obtain ⟨he, rfl⟩ := h
  obtain ⟨rfl, _⟩ := hv.nils_inv
  have := GRep.sl (w := w) none 0 _ [] [] [] rfl rfl he (by simp) (by simp) (by simp) (by simp) (by simp) (by intro k hk; simp at hk) (by intro k hk; simp at hk) (by intro k hk; simp at hk)
  exact ⟨by simpa [Shp.own] using this, rfl, rfl⟩
def Znw (tab : Tab) (nid : Nat) (h : Nat → Block) (t : TypeId) (l c : PV) : Option (PV × List (Nat × Block)) :=
 match ZbO tab t, l, c with
 | some (E, e), .g (.int _ n), .g (.int _ m) => match tab E with
  | some ei => match Zn8 ei with
   | some z => if ZbU (h nid) ∧ e = 1 ∧ 0 ≤ n ∧ n ≤ m ∧ m ≤ 1099511627776 then some (.own nid 0 n.toNat, [(nid, .arr e true (List.replicate n.toNat z))]) else none
   | none => none
  | none => none
 | _, _, _ => none
theorem ZuS (ht : TabOk P tab) (h : RelAt w0 S a w μ who)   {l : Operand} (ho : o.op = .makeSlice t l c)   {ws : List (Nat × Block)} (hx : Znw tab nid S.heap t (S.ev tab 0 l) (S.ev tab 0 c) = some (pv, ws)) :
  Does P w0 a (S.writes ws) pv ((execOp a.eval o).run P w) := by
 have h1 := h.ev tab 0 l
 have h2 := h.ev tab 0 c
 unfold Znw at hx
 split at hx
 ·rename_i E e k1 n k2 m hel e1 e2
  rw [e1] at h1; rw [e2] at h2
  split at hx
  ·rename_i ei hE
   split at hx
   ·rename_i z hz
    split at hx
    ·rename_i hc
     obtain ⟨c1, rfl, c3, c4, c5⟩ := hc
     simp only [Option.some.injEq, Prod.mk.injEq] at hx
     obtain ⟨rfl, rfl⟩ := hx
     obtain ⟨i, zv, hok⟩ := Zei ht hel (by omega)
     obtain ⟨inf, zv', d, hto⟩ := ht _ _ hE
     have hinf : inf = i := by have := hto.info; rw [hok.inf] at this; cases this; rfl
     subst hinf
     have hzz : zv' = zv := by have := hto.zero; rw [hok.zero] at this; cases this; rfl
     subst hzz
     have hsz1 : zv'.cells.size = 1 := hok.zc
     obtain ⟨p, hp1, hp2⟩ : ∃ p, ei.zero = [p] ∧ ZeQ p = some z := by
      unfold Zn8 at hz
      split at hz <;> first | (split at hz <;> first | (rename_i p hp; exact ⟨p, hp, hz⟩) | cases hz) | cases hz
     have hzo := hto.zok 0 (by rw [hp1]; simp)
     have e7 : ei.zero[0]'(by rw [hp1]; simp) = p := by simp [hp1]
     rw [e7, Zbx (by omega)] at hzo
     have hmul : (inf.bytes : Int) * m ≤ 281474976710656 := by
      have h8 : (inf.bytes : Int) ≤ 128 := by have := hok.by_; omega
      have : (inf.bytes : Int) * m ≤ 128 * m := Int.mul_le_mul_of_nonneg_right h8 (by omega)
      omega
     have hrun := run_make (P := P) w t E inf zv' hok.u hok.inf hok.zero k1 k2 n m c3 c4 hmul (by omega)
     rw [hok.sz, Nat.mul_one] at hrun
     have hmc : ∀ i, i < m.toNat → (madeCells zv'.cells m.toNat)[i]? = some (zv'.cells[0]'(by omega)) := by
      intro i hi
      have hi2 : i < (madeCells zv'.cells m.toNat).size := by rw [size_madeCells]; exact hi
      rw [Array.getElem?_eq_getElem hi2]
      simp [madeCells, hsz1, Nat.mod_one]
     have hrr : RowRep (w.alloc (.cells (madeCells zv'.cells m.toNat) E)) (madeCells zv'.cells m.toNat) 0 1 (List.replicate n.toNat z) (List.replicate n.toNat []) (List.replicate n.toNat (zv'.cells[0]'(by omega))) := by
      have hone : (zv'.cells[0]'(by omega)).cells = #[zv'.cells[0]'(by omega)] := by
       have := hzo.1
       generalize zv'.cells[0]'(by omega) = u at *
       cases u <;> simp_all [Value.oneCell', Value.cells]
      refine ⟨by simp, by simp, by simp [size_madeCells]; omega, fun k hk => by simp; exact (ZdR hzo hp2 w).2.1, fun k hk => by simp; exact (ZdR hzo hp2 _).1, fun k hk => ?_, fun k hk j hj => ?_⟩
      ·simp only [List.getElem_replicate]
       rw [hone]; simp; exact hzo.1
      ·have hj0 : j = 0 := by omega
       subst hj0
       simp only [List.getElem_replicate]
       rw [hone]
       have hk' : k < n.toNat := by simpa using hk
       have := hmc k (by omega)
       simp only [Nat.zero_add, Nat.mul_one, Nat.add_zero]
       rw [this]; simp
     have hnil : (List.replicate n.toNat ([] : List Nat)).flatten = [] := Za7 (by simp)
     obtain ⟨μ', q1, q2⟩ := h.newArr (t := ⟨_, false⟩) (nid := nid) (cap := m.toNat) (dp := true) (ZbI c1) (Keeps.alloc [] w _) (Nat.le_refl _) (by omega) (ZiN w _) hrr (by rw [hnil]; simp) (by rw [hnil]; simp) (by simp; omega) (by simp [size_madeCells]) (by omega)
     have hexec : (execOp a.eval o).run P w = .ok (.value (.slice (some ⟨w.heap.size, 0, none⟩) n.toNat m.toNat)) (w.alloc (.cells (madeCells zv'.cells m.toNat) E)) := by
      unfold execOp; simp only [ho, h1.int_inv, h2.int_inv, Sem.run_bind, hrun, Result.andThen_ok, Sem.run_pure]
     rw [hexec]
     simp only [List.length_replicate] at q2
     exact ⟨μ', who, q1, q2⟩
    ·cases hx
   ·cases hx
  ·cases hx
 ·cases hx
def ZhL : List PV → Option (List GV)
 | [] => some []
 | p :: ps => match ZeQ p, ZhL ps with
  | some x, some xs => some (x :: xs)
  | _, _ => none
theorem ZlM : ∀ {ps : List PV} {gs : List GV}, ZhL ps = some gs → ps.length = gs.length ∧ ∀ i (h1 : i < ps.length) (h2 : i < gs.length), ZeQ ps[i] = some gs[i]
 | [], gs, h => by simp [ZhL] at h; subst h; exact ⟨rfl, by intro i hi; simp at hi⟩
 | p :: ps, gs, h => by
  unfold ZhL at h
  split at h
  ·rename_i x xs e1 e2
   simp only [Option.some.injEq] at h
   subst h
   obtain ⟨h1, h2⟩ := ZlM e2
   refine ⟨by simp [h1], fun i hi hi2 => ?_⟩
   cases i with
   | zero => exact e1
   | succ i => exact h2 i (by simpa using hi) (by simpa using hi2)
  ·cases h
def ZlB (tab : Tab) (nid : Nat) (h : Nat → Block) (t : TypeId) (l c : PV) : Option (PV × List (Nat × Block)) :=
 match ZbO tab t, l, c with
 | some (E, e), .g (.int _ n), .g (.int _ m) => match tab E with
  | some ei => match ZhL ei.zero with
   | some gs => if ZbU (h nid) ∧ gs.length = e ∧ 0 < e ∧ 0 ≤ n ∧ n ≤ m ∧ m ≤ 1099511627776 then some (.own nid 0 n.toNat, [(nid, .arr e true (List.replicate n.toNat (.agg gs)))]) else none
   | none => none
  | none => none
 | _, _, _ => none
theorem ZrJ (ht : TabOk P tab) (h : RelAt w0 S a w μ who)   {l : Operand} (ho : o.op = .makeSlice t l c)   {ws : List (Nat × Block)} (hx : ZlB tab nid S.heap t (S.ev tab 0 l) (S.ev tab 0 c) = some (pv, ws)) :
  Does P w0 a (S.writes ws) pv ((execOp a.eval o).run P w) := by
 have h1 := h.ev tab 0 l
 have h2 := h.ev tab 0 c
 unfold ZlB at hx
 split at hx
 ·rename_i E e k1 n k2 m hel e1 e2
  rw [e1] at h1; rw [e2] at h2
  split at hx
  ·rename_i ei hE
   split at hx
   ·rename_i gs hz
    split at hx
    ·rename_i hc
     obtain ⟨c1, c2, c6, c3, c4, c5⟩ := hc
     simp only [Option.some.injEq, Prod.mk.injEq] at hx
     obtain ⟨rfl, rfl⟩ := hx
     obtain ⟨i, zv, hok⟩ := Zei ht hel c6
     obtain ⟨inf, zv', d, hto⟩ := ht _ _ hE
     have hinf : inf = i := by have := hto.info; rw [hok.inf] at this; cases this; rfl
     subst hinf
     have hzz : zv' = zv := by have := hto.zero; rw [hok.zero] at this; cases this; rfl
     subst hzz
     have hsz1 : zv'.cells.size = e := hok.zc
     obtain ⟨hl1, hl2⟩ := ZlM hz
     have hcell : ∀ j (hj : j < gs.length), (zv'.cells[j]'(by omega)).oneCell' = true ∧ (∀ w, GRep w [] (zv'.cells[j]'(by omega)) gs[j]) ∧ gs[j].ncells = 1 := by
      intro j hj
      have hzo := hto.zok j (by omega)
      rw [Zbx (by omega)] at hzo
      exact ⟨hzo.1, fun w => (ZdR hzo (hl2 j (by omega) hj) w).1, (ZdR hzo (hl2 j (by omega) hj) w).2.1⟩
     have hmul : (inf.bytes : Int) * m ≤ 281474976710656 := by
      have h8 : (inf.bytes : Int) ≤ 128 := by have := hok.by_; omega
      have : (inf.bytes : Int) * m ≤ 128 * m := Int.mul_le_mul_of_nonneg_right h8 (by omega)
      omega
     have hrun := run_make (P := P) w t E inf zv' hok.u hok.inf hok.zero k1 k2 n m c3 c4 hmul (by omega)
     rw [hok.sz] at hrun
     have hone : ∀ v ∈ zv'.cells.toList, v.oneCell' = true := fun v hv => by
      obtain ⟨j, hj, rfl⟩ := List.getElem_of_mem hv
      have := (hcell j (by simp at hj; omega)).1
      simpa using this
     have hgr : ∀ w, GRep w [] (.agg zv'.cells) (.agg gs) := fun w => by
      have := GRep.agg (w := w) zv'.cells.toList gs (List.replicate gs.length []) (by simp; omega) (by simp) hone (fun x hx => by obtain ⟨j, hj, rfl⟩ := List.getElem_of_mem hx; exact (hcell j hj).2.2) (fun j hj => by simpa using (hcell j hj).2.1 w)
      rw [Za7 (by simp)] at this
      simpa using this
     have hrr : RowRep (w.alloc (.cells (madeCells zv'.cells (m.toNat * e)) E)) (madeCells zv'.cells (m.toNat * e)) 0 e (List.replicate n.toNat (.agg gs)) (List.replicate n.toNat []) (List.replicate n.toNat (.agg zv'.cells)) := by
      have hfit : n.toNat * e ≤ m.toNat * e := Nat.mul_le_mul_right _ (by omega)
      refine ⟨by simp, by simp, by rw [size_madeCells, List.length_replicate]; omega, fun k hk => by simp [GV.ncells, c2], fun k hk => by simp; exact hgr _, fun k hk => ?_, fun k hk j hj => ?_⟩
      ·simp only [List.getElem_replicate]
       exact ⟨hsz1, hone⟩
      ·simp only [List.getElem_replicate]
       have hk' : k < n.toNat := by simpa using hk
       have hlt : 0 + k * e + j < (madeCells zv'.cells (m.toNat * e)).size := by
        rw [size_madeCells]
        have : (k + 1) * e ≤ m.toNat * e := Nat.mul_le_mul_right _ (by omega)
        rw [Nat.add_mul] at this; omega
       rw [Array.getElem?_eq_getElem hlt]
       have hmod : (0 + k * e + j) % zv'.cells.size = j := by rw [hsz1, Nat.zero_add, Nat.add_comm, Nat.add_mul_mod_self_right, Nat.mod_eq_of_lt hj]
       have hj' : j < zv'.cells.size := by omega
       show some _ = (zv'.cells)[j]?
       rw [Array.getElem?_eq_getElem hj']
       rw [Nat.zero_add] at hmod
       simp [madeCells, hmod, hj']
     have hnil : (List.replicate n.toNat ([] : List Nat)).flatten = [] := Za7 (by simp)
     have hcm : (m.toNat : Int) = m := by omega
     obtain ⟨μ', q1, q2⟩ := h.newArr (t := ⟨_, false⟩) (nid := nid) (cap := m.toNat) (dp := true) (ZbI c1) (Keeps.alloc [] w _) (Nat.le_refl _) c6 (ZiN w _) hrr (by rw [hnil]; simp) (by rw [hnil]; simp) (by simp; omega) (by rw [size_madeCells]; omega) (by omega)
     have hexec : (execOp a.eval o).run P w = .ok (.value (.slice (some ⟨w.heap.size, 0, none⟩) n.toNat m.toNat)) (w.alloc (.cells (madeCells zv'.cells (m.toNat * e)) E)) := by
      unfold execOp; simp only [ho, h1.int_inv, h2.int_inv, Sem.run_bind, hrun, Result.andThen_ok, Sem.run_pure]
     rw [hexec]
     simp only [List.length_replicate] at q2
     exact ⟨μ', who, q1, q2⟩
    ·cases hx
   ·cases hx
  ·cases hx
 ·cases hx
def Zjs (tab : Tab) (nid : Nat) (h : Nat → Block) (t : TypeId) (l c : PV) : Option (PV × List (Nat × Block)) :=
 match Znw tab nid h t l c with
 | some r => some r
 | none => ZlB tab nid h t l c
theorem Zrq (ht : TabOk P tab) (h : RelAt w0 S a w μ who)   {l : Operand} (ho : o.op = .makeSlice t l c)   {ws : List (Nat × Block)} (hx : Zjs tab nid S.heap t (S.ev tab 0 l) (S.ev tab 0 c) = some (pv, ws)) :
  Does P w0 a (S.writes ws) pv ((execOp a.eval o).run P w) := by
 unfold Zjs at hx
 split at hx
 ·rename_i r e; cases hx; exact ZuS ht h ho e
 ·exact ZrJ ht h ho hx
def ZlA (tab : Tab) (src dst : TypeId) (x : PV) : Option (PV × List (Nat × Block)) :=
 match tab src, tab dst, x with
 | some si, some di, .g (.int _ n) => match si.kind, di.kind with
  | .int _, .int k => some (.g (.int k (k.wrap n)), [])
  | _, _ => none
 | _, _, _ => none
theorem ZsQ (ht : TabOk P tab) (h : RelAt w0 S a w μ who)  {src dst : TypeId}  (ho : o.op = .convert src dst x)  {ws : List (Nat × Block)} (hx : ZlA tab src dst (S.ev tab 0 x) = some (pv, ws)) :
  Does P w0 a (S.writes ws) pv ((execOp a.eval o).run P w) := by
 have h1 := h.ev tab 0 x
 unfold ZlA at hx
 split at hx
 ·rename_i si di k n hsi hdi e1
  rw [e1] at h1
  split at hx
  ·rename_i k1 k2 hk1 hk2
   simp only [Option.some.injEq, Prod.mk.injEq] at hx
   obtain ⟨rfl, rfl⟩ := hx
   obtain ⟨_, _, d1, t1⟩ := ht _ _ hsi
   obtain ⟨_, _, d2, t2⟩ := ht _ _ hdi
   have f1 := t1.kind; rw [hk1] at f1
   have f2 := t2.kind; rw [hk2] at f2
   simp only [ZoX] at f1 f2
   subst f1; subst f2
   refine Does.pure h (v := .int k2 (k2.wrap n)) ?_ (PRep.of_int _ _ _ _ _)
   unfold execOp
   simp [ho, h1.int_inv, convert, run_underlying t1.desc, run_underlying t2.desc, Conv.intToInt]
  ·cases hx
 ·cases hx
theorem Zmg (h : RelAt w0 S a w μ who)  {f : FuncId} {caps : Array Operand} (ho : o.op = .makeFunc (.func f) #[] caps) : Does P w0 a (S.writes []) (.fn f (caps.toList.map (S.ev tab 0))) ((execOp a.eval o).run P w) := by
 refine Does.pure h (v := .func (.func f) #[] (caps.toList.map a.eval).toArray) ?_ (.fn f _ _ (by simp) (fun i hi => by simp; exact h.ev tab 0 _))
 unfold execOp
 simp [ho, Instr.makeFunc]
 apply Array.ext'; simp
def aLen (tab : Tab) (h : Nat → Block) (t : TypeId) (x : PV) : Option (PV × List (Nat × Block)) :=
 match tab t with
 | none => none
 | some ti => match ti.kind, x with
  | .sl _, .own id _ len => (match h id with | .arr .. => some (.g (.int .i64 len), []) | _ => none)
  | .sl _, .g (.sl _ xs) => some (.g (.int .i64 xs.length), [])
  | .sl _, .g (.ex _ _ xs) => some (.g (.int .i64 xs.length), [])
  | .sl _, .g (.bd _ _ xs) => some (.g (.int .i64 xs.length), [])
  | .sl _, .nils _ => some (.g (.int .i64 0), [])
  | .str, .g (.str s) => some (.g (.int .i64 s.size), [])
  | _, _ => none
theorem ZxV (ht : TabOk P tab) (h : RelAt w0 S a w μ who)    (ho : o.op = .call { callee := .builtin .len, args := #[x], argTypes := #[t] })  {ws : List (Nat × Block)} (hx : aLen tab S.heap t (S.ev tab 0 x) = some (pv, ws)) :
  Does P w0 a (S.writes ws) pv ((execOp a.eval o).run P w) := by
 have h1 := h.ev tab 0 x
 unfold aLen at hx
 split at hx
 ·cases hx
 ·rename_i ti hti
  obtain ⟨_, _, d, hto⟩ := ht _ _ hti
  have hkd := hto.kind
  have fin : ∀ n : Nat, (Builtin.len_ #[t] o.type #[a.eval x]).run P w = .ok (goInt n) w → Does P w0 a (S.writes []) (.g (.int .i64 n)) ((execOp a.eval o).run P w) := fun n hr => by
   refine Does.pure h (v := goInt n) ?_ (PRep.of_int _ _ _ _ _)
   unfold execOp
   simp only [ho, resolve, invoke, builtin, Sem.run_bind, Sem.run_pure, Result.andThen_ok, List.map_toArray, List.map_cons, List.map_nil, hr]
  split at hx
  ·rename_i E id lo len hk e1
   rw [e1] at h1; rw [hk] at hkd
   obtain ⟨rfl, _⟩ := hkd
   split at hx
   ·rename_i e dp xs hid
    simp only [Option.some.injEq, Prod.mk.injEq] at hx
    obtain ⟨rfl, rfl⟩ := hx
    have hoa := h1.own_inv.2.2 _ _ _ hid
    unfold Zbp at hoa
    refine fin len ?_
    split at hoa
    ·obtain ⟨cap, o', hv, _⟩ := hoa; simp [Builtin.len_, run_underlying hto.desc, hv]
    ·obtain ⟨⟨ad0, e0⟩, _, e2⟩ := hoa; simp [Builtin.len_, run_underlying hto.desc, e0, e2]
   ·cases hx
  ·rename_i E e xs hk e1
   rw [e1] at h1; rw [hk] at hkd
   obtain ⟨rfl, _⟩ := hkd
   simp only [Option.some.injEq, Prod.mk.injEq] at hx
   obtain ⟨rfl, rfl⟩ := hx
   obtain ⟨F, hg, _⟩ := h1.g_inv
   obtain ⟨ad, cap, els, Fs, hv, _⟩ := hg.slice
   exact fin _ (by simp [Builtin.len_, run_underlying hto.desc, hv])
  ·rename_i E u e xs hk e1
   rw [e1] at h1; rw [hk] at hkd
   obtain ⟨rfl, _⟩ := hkd
   simp only [Option.some.injEq, Prod.mk.injEq] at hx
   obtain ⟨rfl, rfl⟩ := hx
   obtain ⟨F, hg, _⟩ := h1.g_inv
   obtain ⟨ad, cap, els, Fs, hv, _⟩ := hg.unex.2.slice
   exact fin _ (by simp [Builtin.len_, run_underlying hto.desc, hv])
  ·rename_i E u e xs hk e1
   rw [e1] at h1; rw [hk] at hkd
   obtain ⟨rfl, _⟩ := hkd
   simp only [Option.some.injEq, Prod.mk.injEq] at hx
   obtain ⟨rfl, rfl⟩ := hx
   obtain ⟨F, hg, _⟩ := h1.g_inv
   obtain ⟨ad, cap, els, Fs, hv, _⟩ := hg.unbd.1.slice
   exact fin _ (by simp [Builtin.len_, run_underlying hto.desc, hv])
  ·rename_i E e hk e1
   rw [e1] at h1; rw [hk] at hkd
   obtain ⟨rfl, _⟩ := hkd
   simp only [Option.some.injEq, Prod.mk.injEq] at hx
   obtain ⟨rfl, rfl⟩ := hx
   exact fin 0 (by simp [Builtin.len_, run_underlying hto.desc, h1.nils_inv.1])
  ·rename_i s hk e1
   rw [e1] at h1; rw [hk] at hkd
   have hdd : d = .string := hkd
   subst hdd
   simp only [Option.some.injEq, Prod.mk.injEq] at hx
   obtain ⟨rfl, rfl⟩ := hx
   exact fin _ (by simp [Builtin.len_, run_underlying hto.desc, h1.str_inv])
  ·cases hx
def aApp (tab : Tab) (nid : Nat) (h : Nat → Block) (t : TypeId) (x y : PV) : Option (PV × List (Nat × Block)) :=
 match ZbO tab t with
 | none => none
 | some (_, e) => if ZbU (h nid) ∧ 0 < e then (match srcE h e y with
  | some (ys, ks2, d2) => (match dstE (killL h ks2) e x with
   | some (xs, ks1, d1) => if xs.length + ys.length ≤ 1099511627776 then some (.own nid 0 (xs.length + ys.length), Zco ks2 ++ (Zco ks1 ++ [(nid, .arr e (d1 && d2) (xs ++ ys))])) else none
   | none => none)
  | none => none) else none
theorem Zo2 (ht : TabOk P tab) (h : RelAt w0 S a w μ who)   {y : Operand} (ho : o.op = .call { callee := .builtin .append, args := #[x, y], argTypes := #[t, t] })   {ws : List (Nat × Block)} (hx : aApp tab nid S.heap t (S.ev tab t x) (S.ev tab t y) = some (pv, ws)) :
  Does P w0 a (S.writes ws) pv ((execOp a.eval o).run P w) := by
 have h1 := h.ev tab t x
 have h2 := h.ev tab t y
 unfold aApp at hx
 split at hx
 ·cases hx
 ·rename_i E e hel
  split at hx
  ·rename_i hc
   obtain ⟨i, z, hok⟩ := Zei ht hel hc.2
   split at hx
   ·rename_i ys ks2 d2 e2
    split at hx
    ·rename_i xs ks1 d1 e1
     split at hx
     ·rename_i hlen
      simp only [Option.some.injEq, Prod.mk.injEq] at hx
      obtain ⟨rfl, rfl⟩ := hx
      obtain ⟨v', w', μ', who', q0, q1, q2⟩ := ZkX hok h (ZbI hc.1) o.type h1 h2 e2 e1 hlen
      have hexec : (execOp a.eval o).run P w = .ok (.value v') w' := by
       unfold execOp
       simp only [ho, resolve, invoke, builtin, Sem.run_bind, Sem.run_pure, Result.andThen_ok, List.map_toArray, List.map_cons, List.map_nil, q0]
      rw [hexec, AState.writes_app, AState.writes_app, AState.writes_kills, AState.writes_kills]
      rw [List.length_append] at q2
      exact ⟨μ', who', q1, q2⟩
     ·cases hx
    ·cases hx
   ·cases hx
  ·cases hx
end
end Go.Proofs.YtjjidamlmebaaaaGreat
namespace Go.Proofs.YtjjidamlmebaaaaGreat
open Go.RowKit
open Shp
def Zbo (f : PV → Option GV) : List PV → Option (List GV)
 | [] => some []
 | p :: ps => match f p, Zbo f ps with
  | some x, some xs => some (x :: xs)
  | _, _ => none
def view (h : Nat → Block) : Nat → PV → Option GV
 | 0, _ => none
 | n + 1, p => match p with
  | .g v => some v
  | .nils e => if 0 < e then some (.sl e []) else none
  | .own id lo len => match h id with
   | .arr e _ xs => if lo + len ≤ xs.length then some (.sl e ((xs.drop lo).take len)) else none
   | _ => none
  | .ptr id 0 => match h id with
   | .box cs => match Zbo (view h n) cs with
    | some gs => if gs.all (fun x => x.ncells == 1) then some (.box gs) else none
    | none => none
   | _ => none
  | .agg cs => match Zbo (view h n) cs with
   | some gs => if gs.all (fun x => x.ncells == 1) then some (.agg gs) else none
   | none => none
  | .fn f cs => match Zbo (view h n) cs with
   | some gs => some (.fn f gs)
   | none => none
  | _ => none
theorem ZdH {w : World} {μ : Lay} {h : Nat → Block} {f : PV → Option GV} (hf : ∀ {v p x}, PRep w μ h v p → f p = some x → ∃ F, GRep w F v x) : ∀ (ps : List PV) (vs : List Value) (hl : vs.length = ps.length), (∀ i (hi : i < ps.length), PRep w μ h (vs[i]'(hl ▸ hi)) ps[i]) → ∀ {gs}, Zbo f ps = some gs →
  ∃ Fs : List (List Nat), ∃ (hv : vs.length = gs.length) (hF : Fs.length = gs.length), ∀ i (hi : i < gs.length), GRep w (Fs[i]'(hF ▸ hi)) (vs[i]'(hv ▸ hi)) gs[i]
 | [], vs, hl, _, gs, hx => by
  simp [Zbo] at hx; subst hx
  exact ⟨[], by simpa using hl, rfl, by intro i hi; simp at hi⟩
 | p :: ps, vs, hl, hp, gs, hx => by
  cases vs with
  | nil => simp at hl
  | cons v vs =>
   unfold Zbo at hx
   split at hx
   ·rename_i x xs e1 e2
    simp only [Option.some.injEq] at hx
    subst hx
    obtain ⟨F, hg⟩ := hf (hp 0 (by simp)) e1
    obtain ⟨Fs, hv, hF, hg2⟩ := ZdH hf ps vs (by simpa using hl) (fun i hi => hp (i + 1) (by simpa using hi)) e2
    refine ⟨F :: Fs, by simpa using hv, by simpa using hF, fun i hi => ?_⟩
    cases i with
    | zero => exact hg
    | succ i => exact hg2 i (by simpa using hi)
   ·cases hx
theorem ZkA {w0 : W0} {S : AState} {a : Act} {w : World} {μ : Lay} {who : Nat → Option Nat} (h : RelAt w0 S a w μ who) : ∀ (n : Nat) {v : Value} {p : PV} {x : GV}, PRep w μ S.heap v p → view S.heap n p = some x → ∃ F, GRep w F v x
 | 0, v, p, x, _, hx => by simp [view] at hx
 | n + 1, v, p, x, hv, hx => by
  have ih := fun {v p x} => ZkA h n (v := v) (p := p) (x := x)
  unfold view at hx
  split at hx
  ·simp only [Option.some.injEq] at hx; subst hx
   obtain ⟨F, hg, _⟩ := hv.g_inv
   exact ⟨F, hg⟩
  ·split at hx
   ·rename_i he
    simp only [Option.some.injEq] at hx; subst hx
    rw [hv.nils_inv.1]
    have := GRep.sl (w := w) none 0 _ [] [] [] rfl rfl he (by simp) (by simp) (by simp) (by simp) (by simp) (by intro k hk; simp at hk) (by intro k hk; simp at hk) (by intro k hk; simp at hk)
    exact ⟨[], by simpa [Shp.own] using this⟩
   ·cases hx
  ·split at hx
   ·rename_i e dp xs hid
    split at hx
    ·rename_i hle
     simp only [Option.some.injEq] at hx; subst hx
     obtain ⟨F, hg, _⟩ := h.view hid (hv.own_inv.2.2 _ _ _ hid) hle
     exact ⟨F, hg⟩
    ·cases hx
   ·cases hx
  ·split at hx
   ·rename_i cs hid
    split at hx
    ·rename_i gs hgs
     split at hx
     ·rename_i hall
      simp only [Option.some.injEq] at hx; subst hx
      obtain ⟨b, hμ, rfl⟩ := hv.ptr_inv.2.2 _ hid
      obtain ⟨b', vs, t', q1, q2, q3, q4, q5, q6⟩ := ZhW h hid
      rw [hμ] at q1; simp at q1; subst q1
      obtain ⟨Fs, hl, hF, hg⟩ := ZdH ih cs vs.toList (by simpa using q3) (fun i hi => by have := q5 i hi; rw [Zbx (by omega)] at this; simpa using this) hgs
      exact ⟨_, .box b vs.toList gs Fs (ZbJ q2) hl hF q4 (by simpa using hall) (fun i hi => by rw [q6]; simp at hi; simp [hi]) hg⟩
     ·cases hx
    ·cases hx
   ·cases hx
  ·rename_i cs
   split at hx
   ·rename_i gs hgs
    split at hx
    ·rename_i hall
     simp only [Option.some.injEq] at hx; subst hx
     obtain ⟨vs, rfl, hl, h1, h2⟩ := hv.agg_inv
     obtain ⟨Fs, hl', hF, hg⟩ := ZdH ih cs vs hl h2 hgs
     exact ⟨_, .agg vs gs Fs hl' hF h1 (by simpa using hall) hg⟩
    ·cases hx
   ·cases hx
  ·rename_i f cs
   split at hx
   ·rename_i gs hgs
    simp only [Option.some.injEq] at hx; subst hx
    obtain ⟨vs, rfl, hl, h2⟩ := hv.fn_inv
    obtain ⟨Fs, hl', hF, hg⟩ := ZdH ih cs vs hl h2 hgs
    exact ⟨_, .fn f vs gs Fs hl' hF hg⟩
   ·cases hx
  ·cases hx
inductive Top (w : World) : Value → GV → Prop
 | atom (x : GV) : x.atom = true → Top w (ZcL x) x
 | nil (a : Option Addr) (e : Nat) (xs : List GV) : Top w (.slice a 0 0) (.sl e xs)
 | sl (b o len cap e : Nat) (xs : List GV) (vs : Array Value) (t : FT) : w.heap[b]? = some (cel vs t) → o + cap * e ≤ vs.size → Top w (.slice (some ⟨b, o, none⟩) len cap) (.sl e xs)
 | agg (vs : List Value) (gs : List GV) (hl : vs.length = gs.length) (h : ∀ i (hi : i < gs.length), Top w (vs[i]'(hl ▸ hi)) gs[i]) : Top w (.agg vs.toArray) (.agg gs)
 | tup (vs : List Value) (gs : List GV) (hl : vs.length = gs.length) (h : ∀ i (hi : i < gs.length), Top w (vs[i]'(hl ▸ hi)) gs[i]) : Top w (.tuple vs.toArray) (.tup gs)
def Gives (w : World) (r : GV) (e : Ending) (w' : World) : Prop := ∃ v F, e = .returned v ∧ GRep w' F v r ∧ Top w' v r ∧ F.Nodup ∧ (∀ b ∈ F, w.heap.size ≤ b ∧ Plain w' b) ∧ Keeps [] w w'
structure Con (P : Program) (f : FuncId) (gs : List GV) (r : GV) : Prop where
 enter : ∀ args w, (callFunc f args).run P w = .ok (.enter f args) w
 calls : ∀ w (args : List Value) (hl : args.length = gs.length), (∀ i (hi : i < gs.length), ∃ F, GRep w F (args[i]'(hl ▸ hi)) gs[i]) → Calls P f args.toArray w (Gives w r)
structure ConG (P : Program) (f : FuncId) (cs gs : List GV) (r : GV) : Prop where
 enter : ∀ args w, (callFunc f args).run P w = .ok (.enter f args) w
 calls : ∀ w (args : List Value) (hl : args.length = gs.length), (∃ F, GRep w F (.pointer (some ⟨0, 0, none⟩)) (.box cs)) → (∀ i (hi : i < gs.length), ∃ F, GRep w F (args[i]'(hl ▸ hi)) gs[i]) → Calls P f args.toArray w (Gives w r)
def GV.leaf : GV → Bool
 | .sl .. => true
 | v => v.atom
def Zdf : GV → Option Block
 | .sl e xs => some (.arr e true xs)
 | _ => none
def Ze1 (k : Nat) : GV → PV
 | .sl _ xs => .own k 0 xs.length
 | v => .g v
theorem Zpv {x : GV} (h : x.leaf = true) (hB : Zdf x = none) (k : Nat) : x.atom = true ∧ Ze1 k x = .g x := by
 cases x <;> first | exact ⟨h, rfl⟩ | cases hB
def Zba (k : Nat) : List GV → List (Nat × Block)
 | [] => []
 | x :: xs => (match Zdf x with | some b => [(k, b)] | none => []) ++ Zba (k + 1) xs
theorem Zfg (h : Nat → Block) (ws vs : List (Nat × Block)) : ZaU h (ws ++ vs) = ZaU (ZaU h ws) vs := by
 induction ws generalizing h with
 | nil => rfl
 | cons k ws ih => obtain ⟨id, b⟩ := k; exact ih _
theorem Zna : ∀ (gs : List GV) (k : Nat) (h : Nat → Block) (id : Nat), ZaU h (Zba k gs) id = if hc : k ≤ id ∧ id < k + gs.length then ((Zdf (gs[id - k]'(by omega))).getD (h id)) else h id
 | [], k, h, id => by simp [Zba, ZaU]; omega
 | x :: xs, k, h, id => by
  unfold Zba
  rw [Zfg, Zna xs (k + 1)]
  have hh : ∀ j, ZaU h (match Zdf x with | some b => [(k, b)] | none => []) j = if j = k then (Zdf x).getD (h j) else h j := by
   intro j
   cases Zdf x <;> simp [ZaU, upd]
  by_cases e : id = k
  ·subst e
   rw [dif_neg (by omega), dif_pos (by simp), hh]
   simp
  ·by_cases hc : k + 1 ≤ id ∧ id < k + 1 + xs.length
   ·rw [dif_pos hc, dif_pos (by simp; omega), hh, if_neg e]
    have : (x :: xs)[id - k]'(by simp; omega) = xs[id - (k + 1)]'(by omega) := by
     have e2 : id - k = (id - (k + 1)) + 1 := by omega
     simp [e2]
    rw [this]
   ·rw [dif_neg hc, dif_neg (by simp; omega), hh, if_neg e]
def ZnZ : Value → Option (Nat × Nat)
 | .slice (some p) _ cap => if 0 < cap then some (p.block, p.off) else none
 | _ => none
set_option maxHeartbeats 1000000 in
theorem Zpe {w0 : W0} {S : AState} {a : Act} {w w' : World} {μ : Lay} {who : Nat → Option Nat} (h : RelAt w0 S a w μ who) (hk : Keeps [] w w') (k : Nat) (vs : List Value) (gs : List GV) (Fs : List (List Nat)) (hv : vs.length = gs.length) (hF : Fs.length = gs.length) (hfree : ∀ i, i < gs.length → S.heap (k + i) = .free)
  (hg : ∀ i (hi : i < gs.length), GRep w' (Fs[i]'(hF ▸ hi)) (vs[i]'(hv ▸ hi)) gs[i]) (ht : ∀ i (hi : i < gs.length), Top w' (vs[i]'(hv ▸ hi)) gs[i]) (hlf : ∀ x ∈ gs, x.leaf = true) (hnd : Fs.flatten.Nodup) (hnewp : ∀ b ∈ Fs.flatten, w.heap.size ≤ b ∧ Plain w' b) :
  ∃ μ' who', RelAt w0 (S.writes (Zba k gs)) a w' μ' who' ∧ ∀ i (hi : i < gs.length), PRep w' μ' (S.writes (Zba k gs)).heap (vs[i]'(hv ▸ hi)) (Ze1 (k + i) gs[i]) := by
 classical
 have hnew : ∀ b ∈ Fs.flatten, w.heap.size ≤ b := fun b hb => (hnewp b hb).1
 have huniq : ∀ i j (hi : i < Fs.length) (hj : j < Fs.length) b, b ∈ Fs[i] → b ∈ Fs[j] → i = j := by
  intro i j hi hj b hbi hbj
  apply Classical.byContradiction
  intro hne
  have key : ∀ (Fs : List (List Nat)), Fs.flatten.Nodup → ∀ i j (hi : i < Fs.length) (hj : j < Fs.length), i < j → b ∈ Fs[i] → b ∈ Fs[j] → False := by
   intro Fs
   induction Fs with
   | nil => intro _ i j hi; simp at hi
   | cons F Fs ih =>
    intro hn i j hi hj hij h1 h2
    rw [List.flatten_cons] at hn
    have hn' := List.nodup_append.1 hn
    cases j with
    | zero => omega
    | succ j =>
     cases i with
     | zero => exact hn'.2.2 b h1 b (Zac (by simpa using hj) (by simpa using h2)) rfl
     | succ i => exact ih hn'.2.1 i j (by simpa using hi) (by simpa using hj) (by omega) (by simpa using h1) (by simpa using h2)
  rcases Nat.lt_or_ge i j with h1 | h1
  ·exact key Fs hnd i j hi hj h1 hbi hbj
  ·exact key Fs hnd j i hj hi (by omega) hbj hbi
 let μ' : Lay := fun id => if hc : k ≤ id ∧ id < k + gs.length then (if (Zdf (gs[id - k]'(by omega))).isSome then ZnZ (vs[id - k]'(by omega)) else μ id) else μ id
 let who' : Nat → Option Nat := fun b => if hc : ∃ i, ∃ hi : i < Fs.length, b ∈ Fs[i] then some (k + hc.choose) else who b
 have hwho : ∀ i (hi : i < Fs.length) b, b ∈ Fs[i] → who' b = some (k + i) := by
  intro i hi b hb
  have hc : ∃ i, ∃ hi : i < Fs.length, b ∈ Fs[i] := ⟨i, hi, hb⟩
  simp only [who', dif_pos hc]
  obtain ⟨hi2, hb2⟩ := hc.choose_spec
  rw [huniq _ i hi2 hi b hb2 hb]
 have hheap : ∀ id, (S.writes (Zba k gs)).heap id = if hc : k ≤ id ∧ id < k + gs.length then ((Zdf (gs[id - k]'(by omega))).getD (S.heap id)) else S.heap id := fun id => Zna gs k S.heap id
 have hout : ∀ id, ¬ (k ≤ id ∧ id < k + gs.length) → (S.writes (Zba k gs)).heap id = S.heap id ∧ μ' id = μ id := fun id hc => ⟨by rw [hheap, dif_neg hc], by simp only [μ', dif_neg hc]⟩
 have hin : ∀ i (hi : i < gs.length), (S.writes (Zba k gs)).heap (k + i) = (Zdf gs[i]).getD .free ∧ ((Zdf gs[i]).isSome → μ' (k + i) = ZnZ (vs[i]'(hv ▸ hi))) := fun i hi => by
  have hc : k ≤ k + i ∧ k + i < k + gs.length := by omega
  have e : k + i - k = i := by omega
  refine ⟨?_, fun hs => ?_⟩
  ·rw [hheap, dif_pos hc]
   simp only [e]
   rw [hfree i hi]
  ·simp only [μ', dif_pos hc, e]
   rw [if_pos hs]
 have hidx : ∀ id, (k ≤ id ∧ id < k + gs.length) → ∃ i, ∃ hi : i < gs.length, id = k + i := fun id hc => ⟨id - k, by omega, by omega⟩
 have hsl : ∀ i (hi : i < gs.length) B, Zdf gs[i] = some B → ∃ e xs ad cap els Gs, gs[i] = .sl e xs ∧ B = .arr e true xs ∧ vs[i]'(hv ▸ hi) = .slice ad xs.length cap ∧ Fs[i]'(hF ▸ hi) = own ad cap ++ Gs.flatten ∧ SlAt w' ad xs.length cap e els xs Gs ∧ (cap = 0 → ZnZ (vs[i]'(hv ▸ hi)) = none) ∧
   ∀ p, ad = some p → 0 < cap → p = ⟨p.block, p.off, none⟩ ∧ ZnZ (vs[i]'(hv ▸ hi)) = some (p.block, p.off) ∧ ∃ ws t, w'.heap[p.block]? = some (cel ws t) ∧ p.off + cap * e ≤ ws.size := by
  intro i hi B hB
  cases hx : gs[i] <;> simp [hx, Zdf] at hB
  rename_i e xs
  subst hB
  have h1 := hg i hi
  have h2 := ht i hi
  rw [hx] at h1 h2
  obtain ⟨ad, cap, els, Gs, e1, e2, hs⟩ := h1.slice
  refine ⟨e, xs, ad, cap, els, Gs, rfl, rfl, e1, e2, hs, ?_, ?_⟩
  ·rintro rfl; rw [e1]; cases ad <;> simp [ZnZ]
  ·rintro p rfl hc0
   have hp := hs.ad p rfl hc0
   have e3 : p = ⟨p.block, p.off, none⟩ := by obtain ⟨b, o, s⟩ := p; simp at hp; simp [hp.1]
   refine ⟨e3, by rw [e1]; simp [ZnZ, hc0], ?_⟩
   rw [e1] at h2
   generalize hq : Value.slice (some p) xs.length cap = q at h2
   cases h2 with
   | atom y hy => simp [GV.atom] at hy
   | nil => simp at hq; omega
   | sl b o len cap' e xs ws t hr hf =>
    simp only [Value.slice.injEq, Option.some.injEq] at hq
    obtain ⟨rfl, _, rfl⟩ := hq
    exact ⟨ws, t, hr, hf⟩
 have hnewroot : ∀ id b d, ((S.writes (Zba k gs)).heap id).live = true → μ' id = some (b, d) → (k ≤ id ∧ id < k + gs.length) → ∃ i, ∃ hi : i < gs.length, id = k + i ∧ b ∈ Fs[i]'(hF ▸ hi) ∧ b < w'.heap.size := by
  intro id b d hl hm hc
  obtain ⟨i, hi, rfl⟩ := hidx id hc
  obtain ⟨q1, q2⟩ := hin i hi
  cases hB : Zdf gs[i] with
  | none => rw [q1, hB] at hl; simp [Block.live] at hl
  | some B =>
   obtain ⟨e, xs, ad, cap, els, Gs, _, _, _, e4, hs, hn, hp⟩ := hsl i hi B hB
   rw [q2 (by simp [hB])] at hm
   by_cases hc0 : cap = 0
   ·rw [hn hc0] at hm; cases hm
   ·cases ad with
    | none => exact absurd (hs.nil rfl) hc0
    | some p =>
     rw [(hp p rfl (by omega)).2.1] at hm
     simp at hm
     refine ⟨i, hi, rfl, by rw [e4, ← hm.1]; exact List.mem_append.2 (.inl (Zce rfl (by omega))), ?_⟩
     rw [← hm.1]; exact (hs.ad p rfl (by omega)).2
 have hroot : ∀ b, Root μ' (S.writes (Zba k gs)).heap b → Root μ S.heap b ∨ b ∈ Fs.flatten := by
  rintro b ⟨id, d, hl, hm⟩
  by_cases hc : k ≤ id ∧ id < k + gs.length
  ·obtain ⟨i, hi, _, hb, _⟩ := hnewroot id b d hl hm hc
   exact .inr (Zac _ hb)
  ·rw [(hout id hc).1] at hl
   rw [(hout id hc).2] at hm
   exact .inl ⟨id, d, hl, hm⟩
 have hm : Move w w' μ μ' S.heap (S.writes (Zba k gs)).heap := by
  have hfr : ∀ i, S.heap i ≠ .free → ¬ (k ≤ i ∧ i < k + gs.length) := fun i hf hc => by
   obtain ⟨j, hj, rfl⟩ := hidx i hc
   exact hf (hfree j hj)
  refine ⟨fun b hb hr => ⟨hk.block b hb (by simp), fun hr' => ?_⟩, fun i b d h1 h2 h3 h4 us t hw => ?_, fun i hi => ?_, fun i e dp xs hf hi => ?_, fun i cs hf hi => ?_⟩
  ·rcases hroot b hr' with h5 | h5
   ·exact hr h5
   ·have := hnew b h5; omega
  ·exact ⟨us, _, by rw [hk.block b (h.base i b d h2 h4).2 (by simp)]; exact hw, rfl⟩
  ·by_cases hc : k ≤ i ∧ i < k + gs.length
   ·obtain ⟨j, hj, rfl⟩ := hidx i hc; exact hfree j hj
   ·rw [(hout i hc).1] at hi; exact hi
  ·have hc := hfr i hf
   rw [(hout i hc).1] at hi
   exact ⟨(hout i hc).2, dp, xs, hi⟩
  ·have hc := hfr i hf
   rw [(hout i hc).1] at hi
   exact ⟨(hout i hc).2, cs, hi⟩
 refine ⟨μ', who', h.step (List.range' k gs.length) rfl rfl hm (h.keep.transL hk) (fun id hid => ?_) (fun id hid => ?_) (fun b j hlt _ hr hb => ?_) hk.size, fun i hi => ?_⟩
 ·have hc : ¬ (k ≤ id ∧ id < k + gs.length) := by simpa [List.mem_range'_1] using hid
  refine ⟨(hout id hc).1, fun hl => ⟨(hout id hc).2, fun b d hb => hk.block b (h.base id b d hl hb).2 (by simp)⟩⟩
 ·have hc : k ≤ id ∧ id < k + gs.length := by simpa [List.mem_range'_1] using hid
  obtain ⟨i, hi, rfl⟩ := hidx id hc
  obtain ⟨q1, q2⟩ := hin i hi
  refine ⟨?_, fun hl b d hb => ?_⟩
  ·cases hB : Zdf gs[i] with
   | none => rw [q1, hB]; trivial
   | some B =>
    obtain ⟨e, xs, ad, cap, els, Gs, _, rfl, _, e4, hs, hn, hp⟩ := hsl i hi B hB
    rw [q1, hB]
    refine ⟨hs.he, ?_⟩
    rw [q2 (by simp [hB])]
    by_cases hc0 : cap = 0
    ·rw [hn hc0]
     have := hs.le
     exact List.eq_nil_of_length_eq_zero (by omega)
    ·obtain ⟨p, rfl⟩ : ∃ p, ad = some p := by
      cases ad with
      | none => exact absurd (hs.nil rfl) hc0
      | some p => exact ⟨p, rfl⟩
     obtain ⟨e5, e6, ws, t, hrow, hfit⟩ := hp p rfl (by omega)
     rw [e6]
     have hsub : ∀ c ∈ Gs.flatten, c ∈ Fs[i]'(hF ▸ hi) := fun c hc' => by rw [e4]; exact List.mem_append.2 (.inr hc')
     have hle := hs.le
     have hfit2 : xs.length * e ≤ cap * e := Nat.mul_le_mul_right _ hle
     refine ⟨ws, t, Gs, els, hrow, Zcr hs.he hs.hv hs.hF hs.sizes (fun v hv' => ?_) hs.nc hs.h (by omega) (fun j hj => ?_), fun c hc' hr => ?_, fun _ => ⟨?_, fun c hc' => ⟨hwho i _ c (hsub c hc'), ?_⟩⟩⟩
     ·obtain ⟨j, hj, rfl⟩ := List.getElem_of_mem hv'; exact (hs.hc j hj).2.1
     ·have h9 := hs.cells rfl j _ (List.getElem?_eq_getElem hj)
      rw [e5, Addr.add_mid, cell_of_row w' p.block _ _ _ _ hrow] at h9
      rw [h9, List.getElem?_eq_getElem hj]
     ·rcases hroot c hr with h9 | h9
      ·obtain ⟨j, d', hl', hj'⟩ := h9
       have := (h.base j c d' hl' hj').2
       have := hnew c (Zac _ (hsub c hc'))
       omega
      ·obtain ⟨id2, d2, hl2, hm2⟩ := hr
       by_cases hc2 : k ≤ id2 ∧ id2 < k + gs.length
       ·obtain ⟨j, hj, e7, hb7, _⟩ := hnewroot id2 c d2 hl2 hm2 hc2
        have hij := huniq i j (hF ▸ hi) (hF ▸ hj) c (hsub c hc') hb7
        subst hij
        have hm3 := hm2
        rw [e7, q2 (by simp [hB]), e6] at hm3
        simp at hm3
        have hnd2 : (Fs[i]'(hF ▸ hi)).Nodup := by
         have : (Fs[i]'(hF ▸ hi)).Sublist Fs.flatten := List.sublist_flatten_of_mem (List.getElem_mem _)
         exact hnd.sublist this
        rw [e4] at hnd2
        exact (List.nodup_append.1 hnd2).2.2 _ (Zce rfl (by omega)) _ hc' hm3.1
       ·rw [(hout id2 hc2).1] at hl2
        rw [(hout id2 hc2).2] at hm2
        have := (h.base id2 c d2 hl2 hm2).2
        have := hnew c (Zac _ (hsub c hc'))
        omega
     ·have hnd2 : (Fs[i]'(hF ▸ hi)).Nodup := hnd.sublist (List.sublist_flatten_of_mem (List.getElem_mem _))
      rw [e4] at hnd2
      exact (List.nodup_append.1 hnd2).2.1
     ·exact ⟨.inl (Nat.le_trans h.keep.size (hnew c (Zac _ (hsub c hc')))), (hnewp c (Zac _ (hsub c hc'))).2⟩
  ·obtain ⟨i2, hi2, e7, hb9, hlt⟩ := hnewroot (k + i) b d hl hb hc
   have : i2 = i := by omega
   subst this
   have hge := hnew b (Zac _ hb9)
   refine ⟨fun j d' hj hlj hj' => ?_, fun j d' hj hlj hj' => ?_, .inl (.inl (Nat.le_trans h.keep.size hge)), hlt⟩
   ·have := (h.base j b d' hlj hj').2; omega
   ·have hcj : k ≤ j ∧ j < k + gs.length := by simpa [List.mem_range'_1] using hj
    obtain ⟨i3, hi3, rfl, hb3, _⟩ := hnewroot j b d' hlj hj' hcj
    rw [huniq i2 i3 (hF ▸ hi2) (hF ▸ hi3) b hb9 hb3]
 ·have hne : ¬ ∃ i, ∃ hi : i < Fs.length, b ∈ Fs[i] := by
   rintro ⟨i, hi, hb'⟩
   have := hnew b (Zac _ hb'); omega
  simp only [who', dif_neg hne]
  exact hb
 ·cases hB : Zdf gs[i] with
  | none =>
   obtain ⟨hat, e8⟩ := Zpv (hlf _ (List.getElem_mem hi)) hB (k + i)
   rw [e8]
   refine .g _ _ _ (hg i hi) ?_
   rw [(hg i hi).of_atom hat]; simp
  | some B =>
   obtain ⟨e, xs, ad, cap, els, Gs, e0, e1, e2, e4, hs, hn, hp⟩ := hsl i hi B hB
   have e8 : Ze1 (k + i) gs[i] = .own (k + i) 0 xs.length := by rw [e0]; rfl
   obtain ⟨q1, q2⟩ := hin i hi
   rw [e8, e2]
   refine .own _ _ _ _ rfl (by rw [q1, hB, e1]; simp) fun e' dp' xs' hx => ?_
   rw [q1, hB, e1] at hx
   simp only [Option.getD_some, Block.arr.injEq] at hx
   obtain ⟨rfl, _, rfl⟩ := hx
   unfold Zbp
   rw [q2 (by simp [hB])]
   by_cases hc0 : cap = 0
   ·rw [hn hc0]
    have := hs.le
    have h0 : xs.length = 0 := by omega
    rw [h0, hc0]; exact ⟨⟨ad, rfl⟩, rfl, rfl⟩
   ·obtain ⟨p, rfl⟩ : ∃ p, ad = some p := by
     cases ad with
     | none => exact absurd (hs.nil rfl) hc0
     | some p => exact ⟨p, rfl⟩
    obtain ⟨e5, e6, ws, t, hrow, hfit⟩ := hp p rfl (by omega)
    rw [e6]
    refine ⟨cap, p.off, by rw [← e5], hs.le, hs.max, ws, t, hrow, fun _ => by simp, hfit⟩
end Go.Proofs.YtjjidamlmebaaaaGreat
namespace Go.Proofs.YtjjidamlmebaaaaGreat
open Go.RowKit
open Shp
variable {v : Value} {gs : List GV} {F : List Nat} {r : GV} {f : Operand} {o : Oper} {tys : Array TypeId} {fid : FuncId} {caps : List PV} {nid : Nat}
def GV.leaves : GV → List GV
 | .agg gs => gs
 | v => [v]
def ZaM : List GV → List GV
 | [] => []
 | c :: cs => c.leaves ++ ZaM cs
def ZaC : GV → List GV
 | .tup vs => ZaM vs
 | v => v.leaves
def ZfO (k : Nat) : List GV → List PV
 | [] => []
 | x :: xs => Ze1 k x :: ZfO (k + 1) xs
def Zg0 (k : Nat) : GV → PV
 | .agg gs => .agg (ZfO k gs)
 | v => Ze1 k v
def Zlw (k : Nat) : List GV → List PV
 | [] => []
 | c :: cs => Zg0 k c :: Zlw (k + c.leaves.length) cs
def Ze2 (k : Nat) : GV → PV
 | .tup vs => .tup (Zlw k vs)
 | v => Zg0 k v
theorem ZeR : ∀ (gs : List GV) (k : Nat), (ZfO k gs).length = gs.length
 | [], _ => rfl
 | x :: xs, k => by simp [ZfO, ZeR xs]
theorem ZjB : ∀ (gs : List GV) (k i : Nat) (hi : i < gs.length), (ZfO k gs)[i]'(by rw [ZeR]; exact hi) = Ze1 (k + i) gs[i]
 | x :: xs, k, 0, _ => rfl
 | x :: xs, k, i + 1, hi => by
  simp only [ZfO, List.getElem_cons_succ]
  rw [ZjB xs (k + 1) i (by simpa using hi), Nat.add_right_comm, Nat.add_assoc]
theorem ZfT : ∀ (gs : List GV) (k : Nat), (Zlw k gs).length = gs.length
 | [], _ => rfl
 | x :: xs, k => by simp [Zlw, ZfT xs]
theorem Top.agg_inv {w : World}   (h : Top w v (.agg gs)) : ∃ vs : List Value, v = .agg vs.toArray ∧ ∃ hl : vs.length = gs.length, ∀ i (hi : i < gs.length), Top w (vs[i]'(hl ▸ hi)) gs[i] := by
 cases h with
 | atom x hx => simp [GV.atom] at hx
 | agg vs gs hl h => exact ⟨vs, rfl, hl, h⟩
theorem Top.tup_inv {w : World}   (h : Top w v (.tup gs)) : ∃ vs : List Value, v = .tuple vs.toArray ∧ ∃ hl : vs.length = gs.length, ∀ i (hi : i < gs.length), Top w (vs[i]'(hl ▸ hi)) gs[i] := by
 cases h with
 | atom x hx => simp [GV.atom] at hx
 | tup vs gs hl h => exact ⟨vs, rfl, hl, h⟩
theorem GRep.agg_inv {w : World}    (h : GRep w F v (.agg gs)) : ∃ (vs : List Value) (Fs : List (List Nat)), v = .agg vs.toArray ∧ F = Fs.flatten ∧ (∀ v ∈ vs, v.oneCell' = true) ∧ ∃ (hv : vs.length = gs.length) (hF : Fs.length = gs.length), ∀ i (hi : i < gs.length), GRep w (Fs[i]'(hF ▸ hi)) (vs[i]'(hv ▸ hi)) gs[i] := by
 cases h with
 | atom x hx => simp [GV.atom] at hx
 | agg vs gs Fs hv hF h1 hg h => exact ⟨vs, Fs, rfl, rfl, h1, hv, hF, h⟩
theorem GRep.tup_inv {w : World}    (h : GRep w F v (.tup gs)) : ∃ (vs : List Value) (Fs : List (List Nat)), v = .tuple vs.toArray ∧ F = Fs.flatten ∧ ∃ (hv : vs.length = gs.length) (hF : Fs.length = gs.length), ∀ i (hi : i < gs.length), GRep w (Fs[i]'(hF ▸ hi)) (vs[i]'(hv ▸ hi)) gs[i] := by
 cases h with
 | atom x hx => simp [GV.atom] at hx
 | tup vs gs Fs hv hF h => exact ⟨vs, Fs, rfl, rfl, hv, hF, h⟩
theorem ZiH {w : World}   {c : GV} (hg : GRep w F v c) (ht : Top w v c) : ∃ (us : List Value) (Gs : List (List Nat)) (hv : us.length = c.leaves.length) (hF : Gs.length = c.leaves.length), (∀ i (hi : i < c.leaves.length), GRep w (Gs[i]'(hF ▸ hi)) (us[i]'(hv ▸ hi)) c.leaves[i]) ∧
  (∀ i (hi : i < c.leaves.length), Top w (us[i]'(hv ▸ hi)) c.leaves[i]) ∧ Gs.flatten = F ∧ ∀ μ h k, (∀ i (hi : i < c.leaves.length), PRep w μ h (us[i]'(hv ▸ hi)) (Ze1 (k + i) c.leaves[i])) → PRep w μ h v (Zg0 k c) := by
 by_cases hc : ∃ gs, c = .agg gs
 ·obtain ⟨gs, rfl⟩ := hc
  obtain ⟨vs, Fs, rfl, rfl, h1, hv, hF, h2⟩ := hg.agg_inv
  obtain ⟨us, e, hl, h3⟩ := ht.agg_inv
  have e' : us = vs := by
   have := (Value.agg.injEq _ _).mp e
   simpa using this.symm
  subst e'
  refine ⟨us, Fs, hv, hF, h2, h3, rfl, fun μ h k hp => ?_⟩
  refine .agg us _ (by rw [ZeR]; exact hv) h1 fun i hi => ?_
  have hi' : i < gs.length := by rw [ZeR] at hi; exact hi
  rw [ZjB gs k i hi']
  exact hp i hi'
 ·have e1 : c.leaves = [c] := by cases c <;> first | rfl | exact absurd ⟨_, rfl⟩ hc
  have e2 : ∀ k, Zg0 k c = Ze1 k c := fun k => by cases c <;> first | rfl | exact absurd ⟨_, rfl⟩ hc
  have z : ∀ i, i < c.leaves.length → i = 0 := fun i hi => by rw [e1] at hi; simp at hi; exact hi
  refine ⟨[v], [F], by rw [e1]; rfl, by rw [e1]; rfl, fun i hi => ?_, fun i hi => ?_, by simp, fun μ h k hp => ?_⟩
  ·have := z i hi; subst this; simp only [e1]; exact hg
  ·have := z i hi; subst this; simp only [e1]; exact ht
  ·have := hp 0 (by rw [e1]; simp)
   simp only [e1] at this
   rw [e2]; exact this
theorem ZgQ {w : World} : ∀ (cs : List GV) (vs : List Value) (Fs : List (List Nat)) (hv : vs.length = cs.length) (hF : Fs.length = cs.length), (∀ i (hi : i < cs.length), GRep w (Fs[i]'(hF ▸ hi)) (vs[i]'(hv ▸ hi)) cs[i]) → (∀ i (hi : i < cs.length), Top w (vs[i]'(hv ▸ hi)) cs[i]) →
  ∃ (us : List Value) (Gs : List (List Nat)) (hu : us.length = (ZaM cs).length) (hG : Gs.length = (ZaM cs).length), (∀ i (hi : i < (ZaM cs).length), GRep w (Gs[i]'(hG ▸ hi)) (us[i]'(hu ▸ hi)) (ZaM cs)[i]) ∧
  (∀ i (hi : i < (ZaM cs).length), Top w (us[i]'(hu ▸ hi)) (ZaM cs)[i]) ∧ Gs.flatten = Fs.flatten ∧ ∀ μ h k, (∀ i (hi : i < (ZaM cs).length), PRep w μ h (us[i]'(hu ▸ hi)) (Ze1 (k + i) (ZaM cs)[i])) → ∀ j (hj : j < cs.length), PRep w μ h (vs[j]'(hv ▸ hj)) ((Zlw k cs)[j]'(by rw [ZfT]; exact hj))
 | [], vs, Fs, hv, hF, _, _ => by
  have : Fs = [] := List.eq_nil_of_length_eq_zero hF
  subst this
  exact ⟨[], [], rfl, rfl, by intro i hi; simp [ZaM] at hi, by intro i hi; simp [ZaM] at hi, rfl, by intro μ h k _ j hj; simp at hj⟩
 | c :: cs, vs, Fs, hv, hF, hg, ht => by
  cases vs with
  | nil => simp at hv
  | cons v vs =>
   cases Fs with
   | nil => simp at hF
   | cons F Fs =>
    obtain ⟨us1, Gs1, hu1, hG1, g1, t1, f1, p1⟩ := ZiH (hg 0 (by simp)) (ht 0 (by simp))
    obtain ⟨us2, Gs2, hu2, hG2, g2, t2, f2, p2⟩ := ZgQ cs vs Fs (by simpa using hv) (by simpa using hF) (fun i hi => hg (i + 1) (by simpa using hi)) (fun i hi => ht (i + 1) (by simpa using hi))
    simp only [List.getElem_cons_zero] at hu1 hG1 g1 t1 f1 p1
    refine ⟨us1 ++ us2, Gs1 ++ Gs2, by simp [ZaM, hu1, hu2], by simp [ZaM, hG1, hG2], fun i hi => ?_, fun i hi => ?_, by rw [List.flatten_append, f1, f2]; simp, fun μ h k hp j hj => ?_⟩
    ·simp only [ZaM] at hi ⊢
     simp only [Zbn, hu1, hG1]
     split
     ·exact g1 i (by assumption)
     ·exact g2 _ (by simp at hi; omega)
    ·simp only [ZaM] at hi ⊢
     simp only [Zbn, hu1]
     split
     ·exact t1 i (by assumption)
     ·exact t2 _ (by simp at hi; omega)
    ·cases j with
     | zero =>
      refine p1 μ h k fun i hi => ?_
      have := hp i (by simp [ZaM]; omega)
      simp only [ZaM, Zbn, hu1, hi, dif_pos] at this
      exact this
     | succ j =>
      simp only [Zlw, List.getElem_cons_succ]
      refine p2 μ h (k + c.leaves.length) (fun i hi => ?_) j (by simpa using hj)
      have := hp (c.leaves.length + i) (by simp [ZaM]; omega)
      simp only [ZaM, Zbn, hu1] at this
      rw [dif_neg (by omega), dif_neg (by omega)] at this
      simp only [Nat.add_sub_cancel_left] at this
      rw [Nat.add_assoc]; exact this
theorem Zkh {w0 : W0} {S : AState} {a : Act} {w w' : World} {μ : Lay} {who : Nat → Option Nat} (h : RelAt w0 S a w μ who)  (k : Nat) (hl : (ZaC r).all GV.leaf = true) (hfree : ∀ i, i < (ZaC r).length → S.heap (k + i) = .free)
  {e : Ending} (hg : Gives w r e w') : ∃ v, e = .returned v ∧ ∃ μ' who', RelAt w0 (S.writes (Zba k (ZaC r))) a w' μ' who' ∧ PRep w' μ' (S.writes (Zba k (ZaC r))).heap v (Ze2 k r) := by
 obtain ⟨v, F, rfl, g, t, nd, nw, hk⟩ := hg
 refine ⟨v, rfl, ?_⟩
 simp only [List.all_eq_true] at hl
 by_cases hc : ∃ vs, r = .tup vs
 ·obtain ⟨cs, rfl⟩ := hc
  obtain ⟨vs, Fs, rfl, rfl, hv, hF, g1⟩ := g.tup_inv
  obtain ⟨us, e, hlu, t1⟩ := t.tup_inv
  have e' : us = vs := by
   have := (Value.tuple.injEq _ _).mp e
   simpa using this.symm
  subst e'
  obtain ⟨us2, Gs, hu, hG, g2, t2, f2, p2⟩ := ZgQ cs us Fs hv hF g1 t1
  obtain ⟨μ', who', q1, q2⟩ := Zpe h hk k us2 (ZaM cs) Gs hu hG hfree g2 t2 hl (by rw [f2]; exact nd) (by rw [f2]; exact nw)
  exact ⟨μ', who', q1, .tup us _ (by rw [ZfT]; exact hv) fun i hi => p2 μ' _ k q2 i (by rw [ZfT] at hi; exact hi)⟩
 ·have e1 : ZaC r = r.leaves := by cases r <;> first | rfl | exact absurd ⟨_, rfl⟩ hc
  have e2 : Ze2 k r = Zg0 k r := by cases r <;> first | rfl | exact absurd ⟨_, rfl⟩ hc
  rw [e1] at hfree hl ⊢
  rw [e2]
  obtain ⟨us2, Gs, hu, hG, g2, t2, f2, p2⟩ := ZiH g t
  obtain ⟨μ', who', q1, q2⟩ := Zpe h hk k us2 r.leaves Gs hu hG hfree g2 t2 hl (by rw [f2]; exact nd) (by rw [f2]; exact nw)
  exact ⟨μ', who', q1, p2 μ' _ k q2⟩
section
variable {P : Program} {tab : Tab} {w0 : W0} {S : AState} {a : Act} {w : World} {μ : Lay} {who : Nat → Option Nat}
def AState.args (S : AState) (tab : Tab) : List Operand → List TypeId → List PV
 | x :: xs, t :: ts => S.ev tab t x :: S.args tab xs ts
 | x :: xs, [] => S.ev tab 0 x :: S.args tab xs []
 | [], _ => []
theorem ZdI (S : AState) (tab : Tab) : ∀ (xs : List Operand) (ts : List TypeId), (S.args tab xs ts).length = xs.length
 | [], ts => by cases ts <;> rfl
 | x :: xs, [] => by simp [AState.args, ZdI S tab xs []]
 | x :: xs, t :: ts => by simp [AState.args, ZdI S tab xs ts]
theorem Zkb (h : RelAt w0 S a w μ who) : ∀ (xs : List Operand) (ts : List TypeId) i (hi : i < xs.length), PRep w μ S.heap (a.eval xs[i]) ((S.args tab xs ts)[i]'(by rw [ZdI]; exact hi))
 | x :: xs, [], 0, _ => h.ev tab 0 x
 | x :: xs, t :: ts, 0, _ => h.ev tab t x
 | x :: xs, [], i + 1, hi => by simp only [AState.args, List.getElem_cons_succ]; exact Zkb h xs [] i (by simpa using hi)
 | x :: xs, t :: ts, i + 1, hi => by simp only [AState.args, List.getElem_cons_succ]; exact Zkb h xs ts i (by simpa using hi)
def asFn : PV → Option (FuncId × List PV)
 | .fn f cs => some (f, cs)
 | .g (.fn f gs) => some (f, gs.map .g)
 | _ => none
theorem Zc3 {w : World} {μ : Lay} {h : Nat → Block}  {p : PV} {f : FuncId} {cs : List PV} (hv : PRep w μ h v p) (he : asFn p = some (f, cs)) : ∃ vs : List Value, v = .func (.func f) #[] vs.toArray ∧ ∃ hl : vs.length = cs.length, ∀ i (hi : i < cs.length), PRep w μ h (vs[i]'(hl ▸ hi)) cs[i] := by
 unfold asFn at he
 split at he
 ·simp only [Option.some.injEq, Prod.mk.injEq] at he
  obtain ⟨rfl, rfl⟩ := he
  exact hv.fn_inv
 ·simp only [Option.some.injEq, Prod.mk.injEq] at he
  obtain ⟨rfl, rfl⟩ := he
  cases hv with
  | g v x F hg hd =>
   cases hg with
   | atom x hx => cases hx
   | fn f' vs gs' Fs hv' hF h =>
    refine ⟨vs, rfl, by simpa using hv', fun i hi => ?_⟩
    have hi' := hi
    rw [List.length_map] at hi'
    rw [List.getElem_map]
    exact .g _ _ _ (h i hi') fun b hb => hd b (Zac _ hb)
 ·cases he
theorem ZmO (h : RelAt w0 S a w μ who)   {args : Array Operand}  (ho : o.op = .call { callee := .value f, args := args, argTypes := tys })   (hf : asFn (S.ev tab 0 f) = some (fid, caps))
   (hgs : Zbo (view S.heap 6) (S.args tab args.toList tys.toList ++ caps) = some gs)  (he : ∀ args w, (callFunc fid args).run P w = .ok (.enter fid args) w) (hc : ∀ (args : List Value) (hl : args.length = gs.length), (∀ i (hi : i < gs.length), ∃ F, GRep w F (args[i]'(hl ▸ hi)) gs[i]) → Calls P fid args.toArray w (Gives w r))  (hl : (ZaC r).all GV.leaf = true) (hfree : ∀ i, i < (ZaC r).length → S.heap (nid + i) = .free) :
  Does P w0 a (S.writes (Zba nid (ZaC r))) (Ze2 nid r) ((execOp a.eval o).run P w) := by
 have h1 := h.ev tab 0 f
 obtain ⟨cvs, hv, hcl, hcp⟩ := Zc3 h1 hf
 have hal := ZdI S tab args.toList tys.toList
 obtain ⟨Fs, hvl, hF, hg⟩ := ZdH (w := w) (μ := μ) (h := S.heap) (fun {v p x} => ZkA h 6) (S.args tab args.toList tys.toList ++ caps) (args.toList.map a.eval ++ cvs) (by simp [hal, hcl]) (fun i hi => by
  simp only [Zbn, hal]
  by_cases hlt : i < args.toList.length
  ·rw [dif_pos (by simpa using hlt), dif_pos hlt]
   simp only [List.getElem_map]
   exact Zkb h args.toList tys.toList i hlt
  ·rw [dif_neg (by simpa using hlt), dif_neg hlt]
   simp only [List.length_map]
   exact hcp _ (by simp [hal] at hi; simp at hlt ⊢; omega)) hgs
 have hrun : (execOp a.eval o).run P w = .ok (.enter fid (args.toList.map a.eval ++ cvs).toArray) w := by
  have := he (args.toList.map a.eval ++ cvs).toArray w
  unfold execOp
  have e1 : (args.map a.eval ++ cvs.toArray) = (args.toList.map a.eval ++ cvs).toArray := by
   apply Array.ext'; simp
  simp only [ho, resolve, hv, Deferred.ofValue, Sem.run_bind, Sem.run_pure, Result.andThen_ok, invoke, Array.empty_append, e1, this]
 rw [hrun]
 refine (hc _ hvl (fun i hi => ⟨_, hg i hi⟩)).mono fun e w'' hgv => ?_
 exact Zkh h nid hl hfree hgv
theorem ZuW (h : RelAt w0 S a w μ who) {o : Oper} {f : Operand} {args : Array Operand} {tys : Array TypeId} (ho : o.op = .call { callee := .value f, args := args, argTypes := tys }) {fid : FuncId} {caps : List PV} (hf : asFn (S.ev tab 0 f) = some (fid, caps))
  {gs : List GV} (hgs : Zbo (view S.heap 6) (S.args tab args.toList tys.toList ++ caps) = some gs) {r : GV} (hc : Con P fid gs r) {nid : Nat} (hl : (ZaC r).all GV.leaf = true) (hfree : ∀ i, i < (ZaC r).length → S.heap (nid + i) = .free) :
  Does P w0 a (S.writes (Zba nid (ZaC r))) (Ze2 nid r) ((execOp a.eval o).run P w) :=
 ZmO h ho hf hgs hc.enter (fun args hl => hc.calls w args hl) hl hfree
theorem Zrm (h : RelAt w0 S a w μ who)   {args : Array Operand}  (ho : o.op = .call { callee := .value f, args := args, argTypes := tys })   (hf : asFn (S.ev tab 0 f) = some (fid, caps))
   (hgs : Zbo (view S.heap 6) (S.args tab args.toList tys.toList ++ caps) = some gs)  {cs : List GV} (hs : S.slots 65536 = .glob 0 cs) (hc : ConG P fid cs gs r)  (hl : (ZaC r).all GV.leaf = true) (hfree : ∀ i, i < (ZaC r).length → S.heap (nid + i) = .free) :
  Does P w0 a (S.writes (Zba nid (ZaC r))) (Ze2 nid r) ((execOp a.eval o).run P w) :=
 ZmO h ho hf hgs hc.enter (fun args hl => hc.calls w args hl (by
  have e := h.slot 65536
  rw [hs] at e
  obtain ⟨F, hg, _⟩ := e.glob_inv
  exact ⟨F, hg⟩)) hl hfree
end
end Go.Proofs.YtjjidamlmebaaaaGreat
namespace Go.Proofs.YtjjidamlmebaaaaGreat
open Go.RowKit
open Shp
variable {id b : Nat} {h' : Nat → Block} {Fs is : List (List Nat)} {vs : List Value} {gs gs' : List GV} {p : PV} {v : Value} {ps : List PV}
theorem ZbW {ws : List (Nat × Block)} {h : Nat → Block}  (hn : id ∉ ws.map (·.1)) : ZaU h ws id = h id := by
 induction ws generalizing h with
 | nil => rfl
 | cons k ws ih =>
  obtain ⟨i, b⟩ := k
  simp only [List.map_cons, List.mem_cons, not_or] at hn
  rw [ZaU, ih hn.2, Zay _ _ _ hn.1]
theorem ZiF {ws : List (Nat × Block)} {h : Nat → Block}  (hm : id ∈ ws.map (·.1)) : ZaU h ws id = ZaU h' ws id := by
 induction ws generalizing h h' with
 | nil => simp at hm
 | cons k ws ih =>
  obtain ⟨i, b⟩ := k
  by_cases h2 : id ∈ ws.map (·.1)
  ·exact ih h2
  ·simp only [List.map_cons, List.mem_cons] at hm
   have : id = i := hm.resolve_right h2
   subst this
   rw [ZaU, ZaU, ZbW h2, ZbW h2, Zan, Zan]
def SameRows (w w' : World) : Prop := ∀ (b : Nat) (vs : Array Value) (t : FT), w.heap[b]? = some (cel vs t) → ∃ vs' : Array Value, w'.heap[b]? = some (cel vs' t) ∧ vs'.size = vs.size
theorem SameRows.refl (w : World) : SameRows w w := fun _ vs _ h => ⟨vs, h, rfl⟩
theorem SameRows.trans {a b c : World} (h : SameRows a b) (k : SameRows b c) : SameRows a c := fun p vs t hp => by
 obtain ⟨vs1, h1, e1⟩ := h p vs t hp
 obtain ⟨vs2, h2, e2⟩ := k p vs1 t h1
 exact ⟨vs2, h2, e2.trans e1⟩
theorem SameRows.keeps {a b : World} (h : Keeps [] a b) : SameRows a b := fun p vs t hp => ⟨vs, by rw [h.block p (ZbJ hp) (by simp)]; exact hp, rfl⟩
theorem NewB.same {w0 : W0} {w w' : World}  (h : NewB w0 w b) (hs : SameRows w w') : NewB w0 w' b := by
 obtain ⟨h1, vs, t, h2⟩ := h
 obtain ⟨vs', h3, _⟩ := hs b vs t h2
 exact ⟨h1, vs', t, h3⟩
inductive GRL (w : World) : List (List Nat) → List Value → List GV → Prop
 | nil : GRL w [] [] []
 | cons {F : List Nat} {v : Value} {g : GV} {Fs : List (List Nat)} {vs : List Value} {gs : List GV} : GRep w F v g → GRL w Fs vs gs → GRL w (F :: Fs) (v :: vs) (g :: gs)
inductive PRL (w : World) (μ : Lay) (h : Nat → Block) : List Value → List PV → Prop
 | nil : PRL w μ h [] []
 | cons {v : Value} {p : PV} {vs : List Value} {ps : List PV} : PRep w μ h v p → PRL w μ h vs ps → PRL w μ h (v :: vs) (p :: ps)
theorem PRL.of {w : World} {μ : Lay} {h : Nat → Block} : ∀ (vs : List Value) (ps : List PV) (hl : vs.length = ps.length), (∀ i (hi : i < ps.length), PRep w μ h (vs[i]'(hl ▸ hi)) ps[i]) → PRL w μ h vs ps
 | [], [], _, _ => .nil
 | v :: vs, p :: ps, hl, hp => .cons (hp 0 (by simp)) (PRL.of vs ps (by simpa using hl) fun i hi => hp (i + 1) (by simpa using hi))
 | [], _ :: _, hl, _ => by simp at hl
 | _ :: _, [], hl, _ => by simp at hl
theorem GRL.of {w : World} : ∀ (Fs : List (List Nat)) (vs : List Value) (gs : List GV) (hv : vs.length = gs.length) (hF : Fs.length = gs.length), (∀ i (hi : i < gs.length), GRep w (Fs[i]'(hF ▸ hi)) (vs[i]'(hv ▸ hi)) gs[i]) → GRL w Fs vs gs
 | [], [], [], _, _, _ => .nil
 | F :: Fs, v :: vs, g :: gs, hv, hF, h => .cons (h 0 (by simp)) (GRL.of Fs vs gs (by simpa using hv) (by simpa using hF) fun i hi => h (i + 1) (by simpa using hi))
 | [], _ :: _, _, hv, hF, _ => by simp at hv hF; omega
 | _ :: _, [], _, hv, hF, _ => by simp at hv hF; omega
 | [], [], _ :: _, hv, _, _ => by simp at hv
 | _ :: _, _ :: _, [], hv, _, _ => by simp at hv
theorem GRL.get {w : World}    (h : GRL w Fs vs gs) : ∃ (hv : vs.length = gs.length) (hF : Fs.length = gs.length), ∀ i (hi : i < gs.length), GRep w (Fs[i]'(hF ▸ hi)) (vs[i]'(hv ▸ hi)) gs[i] := by
 induction h with
 | nil => exact ⟨rfl, rfl, by intro i hi; simp at hi⟩
 | cons h1 h2 ih =>
  obtain ⟨hv, hF, hh⟩ := ih
  refine ⟨by simp [hv], by simp [hF], fun i hi => ?_⟩
  cases i with
  | zero => exact h1
  | succ i => exact hh i (by simpa using hi)
structure MarkC (P : Program) (f : FuncId) (ag : Bool) (gs gs' : List GV) (k : Int) (c : Nat) : Prop where
 enter : ∀ args w, (callFunc f args).run P w = .ok (.enter f args) w
 calls : ∀ w Fs vs, GRL w Fs vs gs → Fs.flatten.Nodup → Calls P f #[if ag then .agg vs.toArray else vs.headD Go.undef, .int .i64 k] w (fun e w' => e = .returned (.int .i64 (k + c)) ∧ GRL w' Fs vs gs' ∧ Keeps Fs.flatten w w' ∧ SameRows w w')
inductive Wh (h : Nat → Block) : PV → GV → GV → List (Nat × Block) → Prop
 | atom (x : GV) : x.atom = true → Wh h (.g x) x x []
 | own (id e len : Nat) (xs ys : List GV) : h id = .arr e true xs → len = xs.length → ys.length = xs.length → Wh h (.own id 0 len) (.sl e xs) (.sl e ys) [(id, .arr e true ys)]
inductive WhL (h : Nat → Block) : List PV → List GV → List GV → List (Nat × Block) → List (List Nat) → Prop
 | nil : WhL h [] [] [] [] []
 | cons {p : PV} {g g' : GV} {w : List (Nat × Block)} {ps : List PV} {gs gs' : List GV} {ws : List (Nat × Block)} {is : List (List Nat)} : Wh h p g g' w → WhL h ps gs gs' ws is → (∀ x ∈ w, x.1 ∉ ws.map (·.1)) → WhL h (p :: ps) (g :: gs) (g' :: gs') (w ++ ws) (w.map (·.1) :: is)
inductive ML (Q : Nat → Nat → Prop) : List (List Nat) → List (List Nat) → Prop
 | nil : ML Q [] []
 | cons {F : List Nat} {i : List Nat} {Fs is : List (List Nat)} : (∀ b ∈ F, ∃ id ∈ i, Q b id) → ML Q Fs is → ML Q (F :: Fs) (i :: is)
def Mine (S : AState) (μ : Lay) (who : Nat → Option Nat) (b id : Nat) : Prop := (S.heap id).live = true ∧ ((∃ d, μ id = some (b, d)) ∨ (who b = some id ∧ ¬ Root μ S.heap b))
section
variable {w0 : W0} {S : AState} {a : Act} {w w' : World} {μ : Lay} {who : Nat → Option Nat}
theorem Mine.uniq (hr : RelAt w0 S a w μ who) {i j : Nat} (h1 : Mine S μ who b i) (h2 : Mine S μ who b j) : i = j := by
 obtain ⟨l1, h1⟩ := h1
 obtain ⟨l2, h2⟩ := h2
 rcases h1 with ⟨d1, h1⟩ | ⟨h1, n1⟩
 ·rcases h2 with ⟨d2, h2⟩ | ⟨h2, n2⟩
  ·exact hr.inj i j b d1 d2 l1 l2 h1 h2
  ·exact absurd ⟨i, d1, l1, h1⟩ n2
 ·rcases h2 with ⟨d2, h2⟩ | ⟨h2, n2⟩
  ·exact absurd ⟨j, d2, l2, h2⟩ n1
  ·rw [h1] at h2; exact Option.some.inj h2
theorem Zy4 (hr : RelAt w0 S a w μ who)  {g g' : GV} {ws : List (Nat × Block)} (hw : Wh S.heap p g g' ws)  (hv : PRep w μ S.heap v p) :
  ∃ F, GRep w F v g ∧ F.Nodup ∧ ∀ b ∈ F, NewB w0 w b ∧ ∃ id ∈ ws.map (·.1), Mine S μ who b id := by
 cases hw with
 | atom x hx =>
  obtain ⟨F, hF, _⟩ := hv.g_inv
  have := hF.of_atom hx
  subst this
  exact ⟨[], hF, List.nodup_nil, by simp⟩
 | own id e len xs ys hid hn hl =>
  subst hn
  obtain ⟨F, g1, g2, g3, _, _⟩ := hr.view hid (hv.own_inv.2.2 _ _ _ hid) (by omega : 0 + xs.length ≤ xs.length)
  refine ⟨F, by simpa using g1, (g3 rfl).1, fun b hb => ⟨((g3 rfl).2 b hb).2, id, by simp, by rw [hid]; rfl, ?_⟩⟩
  rcases g2 b hb with h1 | h1
  ·exact .inl h1
  ·rcases ((g3 rfl).2 b hb).1 with h2 | h2
   ·exact .inl h2
   ·exact .inr ⟨h2, h1⟩
theorem ML.mem {Q : Nat → Nat → Prop} {Fs is : List (List Nat)} (h : ML Q Fs is) : ∀ b ∈ Fs.flatten, ∃ id ∈ is.flatten, Q b id := by
 induction h with
 | nil => simp
 | cons h1 h2 ih =>
  intro b hb
  rw [List.flatten_cons] at hb ⊢
  rcases List.mem_append.1 hb with hb | hb
  ·obtain ⟨i, hi, q⟩ := h1 b hb; exact ⟨i, List.mem_append.2 (.inl hi), q⟩
  ·obtain ⟨i, hi, q⟩ := ih b hb; exact ⟨i, List.mem_append.2 (.inr hi), q⟩
theorem WhL.ids {h : Nat → Block}   {ws : List (Nat × Block)}  (hw : WhL h ps gs gs' ws is) : is.flatten = ws.map (·.1) := by
 induction hw with
 | nil => rfl
 | cons h1 h2 hne ih => rw [List.flatten_cons, List.map_append, ih]
theorem Zvz (hr : RelAt w0 S a w μ who)   {ws : List (Nat × Block)}  (hw : WhL S.heap ps gs gs' ws is) : ∀ {vs : List Value}, PRL w μ S.heap vs ps →
  ∃ Fs, GRL w Fs vs gs ∧ Fs.flatten.Nodup ∧ ML (fun b id => NewB w0 w b ∧ Mine S μ who b id) Fs is := by
 induction hw with
 | nil => intro vs hp; cases hp; exact ⟨[], .nil, by simp, .nil⟩
 | cons h1 h2 hne ih =>
  intro vs hp
  cases hp with
  | cons p1 p2 =>
   obtain ⟨F, a1, a2, a3⟩ := Zy4 hr h1 p1
   obtain ⟨Fs, b1, b2, b3⟩ := ih p2
   refine ⟨F :: Fs, .cons a1 b1, ?_, .cons (fun b hb => by obtain ⟨q, i, hi, m⟩ := a3 b hb; exact ⟨i, hi, q, m⟩) b3⟩
   rw [List.flatten_cons]
   refine List.nodup_append.2 ⟨a2, b2, fun x hx y hy e => ?_⟩
   subst e
   obtain ⟨_, i, hi, m1⟩ := a3 x hx
   obtain ⟨j, hj, _, m2⟩ := b3.mem x hy
   rw [h2.ids] at hj
   have := Mine.uniq hr m1 m2
   subst this
   obtain ⟨q, hq, rfl⟩ := List.mem_map.1 hi
   exact hne q hq hj
theorem ZxI {Q : Nat → Nat → Prop} {h : Nat → Block}   {ws : List (Nat × Block)}  (hw : WhL h ps gs gs' ws is) : ∀ {Fs : List (List Nat)} {vs : List Value}, GRL w' Fs vs gs' → PRL w μ h vs ps → Fs.flatten.Nodup → ML Q Fs is → ∀ {id : Nat}, id ∈ ws.map (·.1) →
  ∃ e xs ys v F, h id = .arr e true xs ∧ ys.length = xs.length ∧ (∀ h0, ZaU h0 ws id = .arr e true ys) ∧ PRep w μ h v (.own id 0 xs.length) ∧ GRep w' F v (.sl e ys) ∧ (∀ b ∈ F, Q b id) ∧ F.Nodup := by
 induction hw with
 | nil => intro Fs vs _ _ _ _ id hid; simp at hid
 | @cons p g g' wq ps gs gs' ws is h1 h2 hne ih =>
  intro Fs vs g2 hp hnd hml id hid
  cases g2 with
  | cons q1 q2 =>
   cases hp with
   | cons p1 p2 =>
    cases hml with
    | cons m1 m2 =>
     rw [List.flatten_cons] at hnd
     have hnd' := List.nodup_append.1 hnd
     rw [List.map_append] at hid
     by_cases hmem : id ∈ ws.map (·.1)
     ·obtain ⟨e, xs, ys, v, F, c1, c2, c3, c4, c5, c6, c7⟩ := ih q2 p2 hnd'.2.1 m2 hmem
      exact ⟨e, xs, ys, v, F, c1, c2, fun h0 => by rw [Zfg]; exact c3 _, c4, c5, c6, c7⟩
     ·have hid' := (List.mem_append.1 hid).resolve_right hmem
      cases h1 with
      | atom x hx => simp at hid'
      | own id' e len xs ys hh hn hl =>
       simp at hid'
       subst hid'; subst hn
       exact ⟨e, xs, ys, _, _, hh, hl, fun h0 => by rw [Zfg, ZbW hmem]; simp [ZaU, Zan], p1, q1, fun b hb => by obtain ⟨i, hi, q⟩ := m1 b hb; simp at hi; subst hi; exact q, hnd'.1⟩
def ok1 : PV → Bool
 | .g x => x.atom
 | .undef | .none_ | .nils _ | .own .. | .ptr .. | .eptr .. => true
 | _ => false
def ok0 : PV → Bool
 | .agg cs => cs.all ok1
 | .tup cs => cs.all ok1
 | p => ok1 p
def okS (n t : Nat) : PV → Bool
 | .g x => x.atom || pinned n t
 | p => ok0 p
def okB : Block → Bool
 | .free | .dead | .lim _ => true
 | .hd .. => false
 | .box cs => cs.all ok1
 | .arr _ dp _ => dp
def okG (h : Nat → Block) : PV → Bool
 | .glob k cs => cs.all GV.atom && (match h 1 with | .lim N => Nat.blt k N | _ => false)
 | _ => false
theorem ZsS {w : World} {F : List Nat} {k : Nat} {cs : List GV} (h : GRep w F (.pointer (some ⟨k, 0, none⟩)) (.box cs)) (hc : cs.all GV.atom = true) : ∀ b ∈ F, b = k := by
 generalize hv : Value.pointer (some ⟨k, 0, none⟩) = v at h
 cases h with
 | atom x hx => cases hx
 | box b vs gs Fs hb hl hF h1 hg hc' h =>
  simp only [Value.pointer.injEq, Option.some.injEq, Addr.mk.injEq] at hv
  intro x hx
  rcases List.mem_cons.1 hx with rfl | hx
  ·exact hv.1.symm
  ·obtain ⟨i, hi, hx⟩ := Zaq hx
   rw [(h i (hF ▸ hi)).of_atom (by simp only [List.all_eq_true] at hc; exact hc _ (List.getElem_mem _))] at hx
   cases hx
structure Zsi (w w' : World) (μ : Lay) (h h' : Nat → Block) : Prop where
 row : SameRows w w'
 free : ∀ id, h' id = .free → h id = .free
 arr : ∀ id e dp xs, h' id = .arr e dp xs → ∃ dp' xs', h id = .arr e dp' xs'
 box : ∀ id cs, h' id = .box cs → h id = .box cs
theorem PRep.moveC1 {h : Nat → Block} (hm : Zsi w w' μ h h')   (hv : PRep w μ h v p) (hp : ok1 p = true) : PRep w' μ h' v p := by
 cases hv with
 | g v x F hg hd =>
  have hx : x.atom = true := hp
  have := hg.of_atom hx
  subst this
  refine .g v x [] ?_ (by simp)
  exact hg.keep (by simp)
 | undef v => exact .undef v
 | none_ => exact .none_
 | nils e he => exact .nils e he
 | own v id lo len h1 hf ho =>
  refine .own v id lo len h1 (fun e => hf (hm.free id e)) fun e dp xs hx => ?_
  obtain ⟨dp', xs', e2⟩ := hm.arr id e dp xs hx
  have h3 := ho e dp' xs' e2
  unfold Zbp at *
  cases hμ : μ id with
  | none => simpa only [hμ] using h3
  | some bd =>
   obtain ⟨b, d⟩ := bd
   simp only [hμ] at h3 ⊢
   obtain ⟨cap, o, hv, hl, hc, vs, t, hw, ho2, hs⟩ := h3
   obtain ⟨vs', hw', hs'⟩ := hm.row b vs t hw
   exact ⟨cap, o, hv, hl, hc, vs', t, hw', ho2, by omega⟩
 | ptr v id off h1 hf ho => exact .ptr v id off h1 (fun e => hf (hm.free id e)) fun cs hx => ho cs (hm.box id cs hx)
 | eptr v id k j h1 hf ho =>
  refine .eptr v id k j h1 (fun e => hf (hm.free id e)) fun e dp xs hx => ?_
  obtain ⟨dp', xs', e2⟩ := hm.arr id e dp xs hx
  exact ho e dp' xs' e2
 | iptr | agg | tup | fn | glob => simp [ok1] at hp
theorem PRep.moveC {h h' : Nat → Block} (hm : Zsi w w' μ h h') {v : Value} {p : PV} (hv : PRep w μ h v p) (hp : ok0 p = true) : PRep w' μ h' v p := by
 cases p with
 | agg cs =>
  simp only [ok0, List.all_eq_true] at hp
  obtain ⟨vs, rfl, hl, h1, h2⟩ := hv.agg_inv
  exact .agg vs cs hl h1 fun i hi => (h2 i hi).moveC1 hm (hp _ (List.getElem_mem _))
 | tup cs =>
  simp only [ok0, List.all_eq_true] at hp
  obtain ⟨vs, rfl, hl, h2⟩ := hv.tup_inv
  exact .tup vs cs hl fun i hi => (h2 i hi).moveC1 hm (hp _ (List.getElem_mem _))
 | _ => exact hv.moveC1 hm hp
theorem Zq4 (hr : RelAt w0 S a w μ who) (hS : ∀ t, (okS S.n t (S.slots t) || okG S.heap (S.slots t)) = true) (hH : ∀ id, okB (S.heap id) = true)   {ws : List (Nat × Block)}  (hw : WhL S.heap ps gs gs' ws is)  (hp : PRL w μ S.heap vs ps)
   (hnd : Fs.flatten.Nodup) (hml : ML (fun b id => NewB w0 w b ∧ Mine S μ who b id) Fs is) (g2 : GRL w' Fs vs gs') (hk : Keeps Fs.flatten w w') (hsr : SameRows w w') : RelAt w0 (S.writes ws) a w' μ who := by
 have hat := fun {id} (hid : id ∈ ws.map (·.1)) => ZxI (h := S.heap) (w := w) (μ := μ) hw g2 hp hnd hml hid
 have hmine : ∀ b ∈ Fs.flatten, NewB w0 w b ∧ ∃ id ∈ ws.map (·.1), Mine S μ who b id := fun b hb => by
  obtain ⟨i, hi, q, m⟩ := hml.mem b hb
  exact ⟨q, i, by rw [← hw.ids]; exact hi, m⟩
 have hout : ∀ id, id ∉ ws.map (·.1) → (S.writes ws).heap id = S.heap id := fun id hid => ZbW hid
 have hlive : ∀ id, ((S.writes ws).heap id).live = (S.heap id).live := fun id => by
  by_cases hid : id ∈ ws.map (·.1)
  ·obtain ⟨e, xs, ys, v, F, c1, c2, c3, _⟩ := hat hid
   rw [show (S.writes ws).heap id = .arr e true ys from c3 S.heap, c1]; rfl
  ·rw [hout id hid]
 have hroot : ∀ b, Root μ (S.writes ws).heap b ↔ Root μ S.heap b := fun b => by
  constructor
  ·rintro ⟨id, d, h1, h2⟩; exact ⟨id, d, by rw [← hlive]; exact h1, h2⟩
  ·rintro ⟨id, d, h1, h2⟩; exact ⟨id, d, by rw [hlive]; exact h1, h2⟩
 have hm : Zsi w w' μ S.heap (S.writes ws).heap := by
  refine ⟨hsr, fun id h => ?_, fun id e dp xs h => ?_, fun id cs h => ?_⟩
  ·by_cases hid : id ∈ ws.map (·.1)
   ·obtain ⟨e, xs, ys, v, F, c1, c2, c3, _⟩ := hat hid
    rw [show (S.writes ws).heap id = .arr e true ys from c3 S.heap] at h; cases h
   ·rw [hout id hid] at h; exact h
  ·by_cases hid : id ∈ ws.map (·.1)
   ·obtain ⟨e', xs', ys, v, F, c1, c2, c3, _⟩ := hat hid
    rw [show (S.writes ws).heap id = .arr e' true ys from c3 S.heap] at h
    cases h; exact ⟨true, xs', c1⟩
   ·rw [hout id hid] at h; exact ⟨dp, xs, h⟩
  ·by_cases hid : id ∈ ws.map (·.1)
   ·obtain ⟨e', xs', ys, v, F, c1, c2, c3, _⟩ := hat hid
    rw [show (S.writes ws).heap id = .arr e' true ys from c3 S.heap] at h; cases h
   ·rw [hout id hid] at h; exact h
 have hk0 : Keeps w0.D w0.w w' := hr.keep.trans' hk fun b hb hlt => by
  rcases (hmine b hb).1 with h1 | h1
  ·omega
  ·exact h1.2
 have haway : ∀ id b, id ∉ ws.map (·.1) → Mine S μ who b id → b ∉ Fs.flatten := fun id b hid hmi hb => by
  obtain ⟨_, j, hj, hmj⟩ := hmine b hb
  have := Mine.uniq hr hmi hmj
  subst this; exact hid hj
 have hblk : ∀ id b, id ∉ ws.map (·.1) → Mine S μ who b id → b < w.heap.size → w'.heap[b]? = w.heap[b]? := fun id b hid hmi hlt => hk.block b hlt (haway id b hid hmi)
 refine ⟨hr.size, fun t => ?_, hr.dfr, fun id => ?_, fun i j b d d' hi hj => hr.inj i j b d d' (by rw [← hlive]; exact hi) (by rw [← hlive]; exact hj), fun i b d hi hb => ?_, hk0, hr.old⟩
 ·have h1 := hS t
  have h2 := hr.slot t
  show PRep w' μ (S.writes ws).heap _ (S.slots t)
  generalize hq : S.slots t = p at h1 h2
  cases p with
  | g x =>
   simp only [okS, okG, Bool.or_false, Bool.or_eq_true] at h1
   rcases h1 with h1 | h1
   ·exact h2.moveC hm h1
   ·obtain ⟨F, hF, hD⟩ := hr.old.1 t x h1 hq
    refine .g _ x F (hF.keeps hk0 hD) fun b hb => ?_
    rintro ⟨id, d, hl, hb2⟩
    rw [hlive] at hl
    rcases (hr.base id b d hl hb2).1 with (q | q) | q
    ·have := hF.lt b hb
     omega
    ·exact hD b hb q.2
    ·exact hD b hb q.1
  | glob k cs =>
   simp only [okS, ok0, ok1, okG, Bool.false_or, Bool.and_eq_true] at h1
   obtain ⟨h1, h3⟩ := h1
   obtain ⟨F, hF, hD⟩ := h2.glob_inv
   have hFk := ZsS hF h1
   have hlim := hr.blk 1
   split at h3
   ·rename_i N hN
    rw [hN] at hlim
    have hkN : k < N := by simpa using h3
    have hnk : k ∉ Fs.flatten := fun hk1 => by
     rcases (hmine k hk1).1.1 with q | q
     ·have := hlim.1.1; omega
     ·rw [hlim.1.2] at q; cases q.1
    refine .glob _ k cs F (hF.keep fun b hb => ?_) fun b hb => by rw [hroot]; exact hD b hb
    have e := hFk b hb
    subst e
    exact hk.block b (hF.lt b hb) hnk
   ·cases h3
  | _ => exact h2.moveC hm (by simp only [okG, Bool.or_false] at h1; exact h1)
 ·by_cases hid : id ∈ ws.map (·.1)
  ·obtain ⟨e, xs, ys, v, F, c1, c2, c3, c4, c5, c6, c7⟩ := hat hid
   have hlv : (S.heap id).live = true := by rw [c1]; rfl
   rw [show (S.writes ws).heap id = .arr e true ys from c3 S.heap]
   have hB := hr.blk id
   rw [c1] at hB
   obtain ⟨he, hB⟩ := hB
   have hoa := c4.own_inv.2.2 _ _ _ c1
   refine ⟨he, ?_⟩
   unfold Zbp at hoa
   cases hμ : μ id with
   | none =>
    simp only [hμ] at hB hoa ⊢
    subst hB
    exact List.eq_nil_of_length_eq_zero (by simpa using c2)
   | some bd =>
    obtain ⟨b, d⟩ := bd
    simp only [hμ] at hB hoa ⊢
    obtain ⟨cap, o, rfl, hlc, hcm, vs0, t0, hrow0, ho0, hfit0⟩ := hoa
    obtain ⟨vs1, t1, Fs1, els1, hrow1, hr1, _, _⟩ := hB
    obtain ⟨vs2, hrow2, hsz2⟩ := hsr b vs0 t0 hrow0
    have hsame : vs1.size = vs0.size := by
     rw [(Zl7 hrow0 hrow1).1]
    have hfit1 := hr1.fit
    rcases Nat.eq_zero_or_pos cap with hc0 | hc0
    ·have hx0 : xs.length = 0 := by omega
     have hy : ys = [] := List.eq_nil_of_length_eq_zero (by omega)
     subst hy
     refine ⟨vs2, t0, [], [], hrow2, ⟨rfl, rfl, by simp; omega, by intro k hk; simp at hk, by intro k hk; simp at hk, by intro k hk; simp at hk, by intro k hk; simp at hk⟩, by simp, fun _ => ⟨by simp, by simp⟩⟩
    ·obtain ⟨ad, cap', els, Gs, e1, e2, hs⟩ := c5.slice
     simp only [Value.slice.injEq] at e1
     obtain ⟨rfl, _, rfl⟩ := e1
     have hod := ho0 hc0
     rw [Nat.zero_mul, Nat.add_zero] at hod
     subst hod
     have hyl : ys.length * e ≤ cap * e := Nat.mul_le_mul_right _ hs.le
     have hsub : ∀ c ∈ Gs.flatten, c ∈ F := fun c hc => by rw [e2]; exact List.mem_append.2 (.inr hc)
     have hnb : b ∉ Gs.flatten := fun hb => by
      rw [e2] at c7
      exact (List.nodup_append.1 c7).2.2 b (Zce rfl hc0) b hb rfl
     have hG : ∀ c ∈ Gs.flatten, who c = some id ∧ ¬ Root μ S.heap c ∧ NewB w0 w c := fun c hc => by
      obtain ⟨q0, _, hmj⟩ := c6 c (hsub c hc)
      rcases hmj with ⟨dj, hmj⟩ | ⟨hmj, hnr⟩
      ·rw [hμ] at hmj
       simp only [Option.some.injEq, Prod.mk.injEq] at hmj
       obtain ⟨rfl, _⟩ := hmj
       exact absurd hc hnb
      ·exact ⟨hmj, hnr, q0⟩
     have hndG : Gs.flatten.Nodup := by rw [e2] at c7; exact (List.nodup_append.1 c7).2.1
     refine ⟨vs2, t0, Gs, els, hrow2, Zcr he hs.hv hs.hF hs.sizes (fun v hv' => ?_) hs.nc hs.h (by omega) (fun j hj => ?_), fun c hc hrt => (hG c hc).2.1 ((hroot c).1 hrt), fun _ => ⟨hndG, fun c hc => ⟨(hG c hc).1, (hG c hc).2.2.same hsr⟩⟩⟩
     ·obtain ⟨j, hj, rfl⟩ := List.getElem_of_mem hv'; exact (hs.hc j hj).2.1
     ·have h9 := hs.cells rfl j _ (List.getElem?_eq_getElem hj)
      rw [Addr.add_mid, cell_of_row w' b _ _ _ _ hrow2] at h9
      rw [h9, List.getElem?_eq_getElem hj]
  ·rw [hout id hid]
   have hB := hr.blk id
   have hok := hH id
   cases hb : S.heap id with
   | free => trivial
   | dead => trivial
   | hd v e xs => rw [hb] at hok; cases hok
   | lim N => rw [hb] at hB; exact hB
   | box cs =>
    rw [hb] at hB hok
    simp only [okB, List.all_eq_true] at hok
    obtain ⟨b, vs0, t, h1, h2, h3, h4, h5⟩ := hB
    have hlv : (S.heap id).live = true := by rw [hb]; rfl
    exact ⟨b, vs0, t, h1, by rw [hblk id b hid ⟨hlv, .inl ⟨0, h1⟩⟩ (ZbJ h2)]; exact h2, h3, h4, fun i hi => (h5 i hi).moveC1 hm (hok _ (List.getElem_mem _))⟩
   | arr e dp xs =>
    rw [hb] at hB hok
    have hdp : dp = true := hok
    subst hdp
    have hlv : (S.heap id).live = true := by rw [hb]; rfl
    obtain ⟨he, hB⟩ := hB
    refine ⟨he, ?_⟩
    cases hμ : μ id with
    | none => simpa only [hμ] using hB
    | some bd =>
     obtain ⟨b, d⟩ := bd
     simp only [hμ] at hB ⊢
     obtain ⟨vs0, t, Gs, els, h2, h3, h4, h5⟩ := hB
     have h5' : Gs.flatten.Nodup ∧ ∀ b ∈ Gs.flatten, who b = some id ∧ NewB w0 w b := by first | exact h5 | exact h5 trivial | exact h5 rfl
     have key : ∀ c ∈ Gs.flatten, w'.heap[c]? = w.heap[c]? := fun c hc => by
      obtain ⟨i, hi, hc'⟩ := Zaq hc
      exact hblk id c hid ⟨hlv, .inr ⟨(h5'.2 c hc).1, h4 c hc⟩⟩ ((h3.el i (h3.fl ▸ hi)).lt c hc')
     exact ⟨vs0, t, Gs, els, by rw [hblk id b hid ⟨hlv, .inl ⟨d, hμ⟩⟩ (ZbJ h2)]; exact h2, ⟨h3.len, h3.fl, h3.fit, h3.nc, fun k hk => (h3.el k hk).keep fun c hc => key c (Zac _ hc), h3.sz, h3.cell⟩, fun c hc hrt => h4 c hc ((hroot c).1 hrt), fun _ => ⟨h5'.1, fun c hc => ⟨(h5'.2 c hc).1, (h5'.2 c hc).2.same hsr⟩⟩⟩
 ·rw [hlive] at hi
  have hba := hr.base i b d hi hb
  refine ⟨?_, Nat.lt_of_lt_of_le hba.2 hk.size⟩
  by_cases hid : i ∈ ws.map (·.1)
  ·obtain ⟨e, xs, ys, v, F, c1, _⟩ := hat hid
   exact .inl (hba.1.arr c1)
  ·rw [hout i hid]; exact hba.1
end
end Go.Proofs.YtjjidamlmebaaaaGreat
namespace Go.Proofs.YtjjidamlmebaaaaGreat
open Go.RowKit
open Shp
variable {o : Oper} {t : TypeId} {x y : Operand} {pv : PV} {k : IntKind} {v : Value} {op : BinOp} {r : PV × List (Nat × Block)} {tys : Array TypeId}
section
variable {P : Program} {tab : Tab} {w0 : W0} {S : AState} {a : Act} {w : World} {μ : Lay} {who : Nat → Option Nat}
def aIdx (tab : Tab) (t : TypeId) (x i : PV) : Option (PV × List (Nat × Block)) :=
 match tab t, i with
 | some ti, .g (.int _ n) => match ti.kind with
  | .ar m E => match tab E with
   | none => none
   | some ei => if ei.kind.agg then none else if 0 ≤ n ∧ n < (m : Int) then (match x with
    | .agg cs => (match cs[n.toNat * ei.size]? with | some y => some (y, []) | none => none)
    | .g (.agg gs) => (match gs[n.toNat * ei.size]? with | some y => some (.g y, []) | none => none)
    | _ => none) else none
  | .str => match x with
   | .g (.str s) => if 0 ≤ n then (match s[n.toNat]? with | some b => some (.g (.int .u8 b.toNat), []) | none => none) else none
   | _ => none
  | _ => none
 | _, _ => none
theorem Zv9 (ht : TabOk P tab) (h : RelAt w0 S a w μ who)   {i : Operand} (ho : o.op = .index t x i)  {ws : List (Nat × Block)} (hx : aIdx tab t (S.ev tab 0 x) (S.ev tab 0 i) = some (pv, ws)) :
  Does P w0 a (S.writes ws) pv ((execOp a.eval o).run P w) := by
 have h1 := h.ev tab 0 x
 have h2 := h.ev tab 0 i
 unfold aIdx at hx
 split at hx
 ·rename_i ti k n hti ei1
  rw [ei1] at h2
  have hiv := h2.int_inv
  obtain ⟨inf, z, d, hto⟩ := ht t ti hti
  have hkd := hto.kind
  split at hx
  ·rename_i m E hk
   rw [hk] at hkd
   have hdd : d = .array m E := hkd
   subst hdd
   split at hx
   ·cases hx
   rename_i ei hE
   split at hx
   ·cases hx
   rename_i hag
   have hag' : ei.kind.agg = false := by simpa using hag
   split at hx
   ·rename_i hn
    split at hx
    ·rename_i cs e1
     rw [e1] at h1
     obtain ⟨vs, hv, hl, hone, he⟩ := h1.agg_inv
     split at hx
     ·rename_i y hy
      simp only [Option.some.injEq, Prod.mk.injEq] at hx
      obtain ⟨rfl, rfl⟩ := hx
      obtain ⟨hi, rfl⟩ := List.getElem?_eq_some_iff.1 hy
      have hi' : n.toNat * ei.size < vs.length := by omega
      refine Does.pure h (v := vs[n.toNat * ei.size]) ?_ (he _ hi)
      unfold execOp
      simp [ho, hv, hiv, Instr.index, asIntOf, run_underlying hto.desc, hn.1, hn.2, part, ht.agg hE, hag', ht.sizeOf hE, hi']
     ·cases hx
    ·rename_i gs e1
     rw [e1] at h1
     obtain ⟨F, hg, hd⟩ := h1.g_inv
     split at hx
     ·rename_i y hy
      simp only [Option.some.injEq, Prod.mk.injEq] at hx
      obtain ⟨rfl, rfl⟩ := hx
      obtain ⟨hi, rfl⟩ := List.getElem?_eq_some_iff.1 hy
      generalize hu : a.eval x = u at hg
      cases hg with
      | atom x hx => simp [GV.atom] at hx
      | agg vs gs Fs hv hF h1' hg' hh =>
       have hi' : n.toNat * ei.size < vs.length := by omega
       refine Does.pure h (v := vs[n.toNat * ei.size]) ?_ (.g _ _ _ (hh _ hi) fun b hb => hd b (Zac _ hb))
       unfold execOp
       simp [ho, hu, hiv, Instr.index, asIntOf, run_underlying hto.desc, hn.1, hn.2, part, ht.agg hE, hag', ht.sizeOf hE, hi']
     ·cases hx
    ·cases hx
   ·cases hx
  ·rename_i hk
   rw [hk] at hkd
   have hdd : d = .string := hkd
   subst hdd
   split at hx
   ·rename_i s e1
    rw [e1] at h1
    split at hx
    ·rename_i hn
     split at hx
     ·rename_i b hb
      simp only [Option.some.injEq, Prod.mk.injEq] at hx
      obtain ⟨rfl, rfl⟩ := hx
      have hv : a.eval x = .string s := by
       obtain ⟨F, hg, _⟩ := h1.g_inv
       generalize a.eval x = u at hg
       cases hg with
       | atom _ _ => rfl
      refine Does.pure h (v := .int .u8 b.toNat) ?_ (PRep.of_int _ _ _ _ _)
      unfold execOp
      simp [ho, hv, hiv, Instr.index, asIntOf, run_underlying hto.desc, hn, hb]
     ·cases hx
    ·cases hx
   ·cases hx
  ·cases hx
 ·cases hx
def ZiR (k : IntKind) : List GV → Option (List Int)
 | [] => some []
 | .int k' n :: gs => if k' = k then (match ZiR k gs with | some ns => some (n :: ns) | none => none) else none
 | _ => none
def Zin (k : IntKind) : List PV → Option (List Int)
 | [] => some []
 | .g (.int k' n) :: ps => if k' = k then (match Zin k ps with | some ns => some (n :: ns) | none => none) else none
 | _ => none
def Zbi (k : IntKind) : PV → Option (List Int)
 | .agg cs => Zin k cs
 | .g (.agg gs) => ZiR k gs
 | _ => none
def Zhv (tab : Tab) (t : TypeId) : Option (Nat × IntKind) :=
 match tab t with
 | some ti => match ti.kind with
  | .ar n E => match tab E with
   | some ei => match ei.kind with
    | .int k => if ei.size = 1 then some (n, k) else none
    | _ => none
   | none => none
  | _ => none
 | none => none
theorem Zp1 (ht : TabOk P tab)  {n : Nat}  (h : Zhv tab t = some (n, k)) : ∃ E, P.underlying t = some (.array n E) ∧ P.underlying E = some (.int k) ∧ ∀ w, (sizeOf E).run P w = .ok 1 w := by
 unfold Zhv at h
 split at h
 ·rename_i ti hti
  split at h
  ·rename_i m E hk
   split at h
   ·rename_i ei hE
    split at h
    ·rename_i k' hk'
     split at h
     ·rename_i hs
      simp only [Option.some.injEq, Prod.mk.injEq] at h
      obtain ⟨rfl, rfl⟩ := h
      obtain ⟨_, _, d, h1⟩ := ht t ti hti
      obtain ⟨_, _, d', h2⟩ := ht E ei hE
      have h3 := h1.kind; rw [hk] at h3
      have h4 := h2.kind; rw [hk'] at h4
      have h5 : d = .array m E := h3
      have h6 : d' = .int k' := h4
      exact ⟨E, by rw [← h5]; exact h1.desc, by rw [← h6]; exact h2.desc, fun w => by rw [ht.sizeOf hE, hs]⟩
     ·cases h
    ·cases h
   ·cases h
  ·cases h
 ·cases h
theorem ZjP {k : IntKind} : ∀ {gs : List GV} {ns : List Int}, ZiR k gs = some ns → gs = ns.map (GV.int k)
 | [], ns, h => by simp [ZiR] at h; subst h; rfl
 | .int k' n :: gs, ns, h => by
  unfold ZiR at h
  split at h
  ·rename_i e
   split at h
   ·rename_i ms hm
    simp only [Option.some.injEq] at h; subst h; subst e
    rw [List.map_cons, ZjP hm]
   ·cases h
  ·cases h
 | .bool _ :: _, _, h | .str _ :: _, _, h | .nilp :: _, _, h | .fn _ _ :: _, _, h | .box _ :: _, _, h | .sl _ _ :: _, _, h | .agg _ :: _, _, h | .tup _ :: _, _, h => by simp [ZiR] at h
theorem ZkI {k : IntKind} : ∀ {ps : List PV} {ns : List Int}, Zin k ps = some ns → ps = ns.map fun n => PV.g (.int k n)
 | [], ns, h => by simp [Zin] at h; subst h; rfl
 | .g (.int k' n) :: gs, ns, h => by
  unfold Zin at h
  split at h
  ·rename_i e
   split at h
   ·rename_i ms hm
    simp only [Option.some.injEq] at h; subst h; subst e
    rw [List.map_cons, ZkI hm]
   ·cases h
  ·cases h
 | .g (.bool _) :: _, _, h | .g (.str _) :: _, _, h | .g .nilp :: _, _, h | .g (.fn _ _) :: _, _, h | .g (.box _) :: _, _, h | .g (.sl _ _) :: _, _, h | .g (.agg _) :: _, _, h | .g (.tup _) :: _, _, h => by simp [Zin] at h
 | .undef :: _, _, h | .none_ :: _, _, h | .nils _ :: _, _, h | .own _ _ _ :: _, _, h | .ptr _ _ :: _, _, h | .eptr _ _ _ :: _, _, h | .iptr _ :: _, _, h | .agg _ :: _, _, h | .tup _ :: _, _, h | .fn _ _ :: _, _, h | .glob _ _ :: _, _, h => by simp [Zin] at h
theorem GRep.agg_inv' {w : World} {F : List Nat}  {gs : List GV} (h : GRep w F v (.agg gs)) : ∃ (vs : List Value) (Fs : List (List Nat)), v = .agg vs.toArray ∧ F = Fs.flatten ∧ (∀ v ∈ vs, v.oneCell' = true) ∧ ∃ (hv : vs.length = gs.length) (hF : Fs.length = gs.length), ∀ i (hi : i < gs.length), GRep w (Fs[i]'(hF ▸ hi)) (vs[i]'(hv ▸ hi)) gs[i] := by
 cases h with
 | atom x hx => simp [GV.atom] at hx
 | agg vs gs Fs hv hF h1 hg hh => exact ⟨vs, Fs, rfl, rfl, h1, hv, hF, hh⟩
theorem Zji {h : Nat → Block}  {p : PV}  {ns : List Int} (hv : PRep w μ h v p) (he : Zbi k p = some ns) : v = .agg (ns.map (Value.int k)).toArray := by
 unfold Zbi at he
 split at he
 ·have e := ZkI he
  obtain ⟨vs, rfl, hl, _, h3⟩ := hv.agg_inv
  congr 2
  apply List.ext_getElem
  ·rw [hl, e]; simp
  ·intro i h1 h2
   have h4 := h3 i (by omega)
   simp only [e, List.getElem_map] at h4
   rw [List.getElem_map]
   exact h4.int_inv
 ·have e := ZjP he
  obtain ⟨F, hg, _⟩ := hv.g_inv
  obtain ⟨vs, Fs, rfl, _, _, hl, hF, h3⟩ := hg.agg_inv'
  congr 2
  apply List.ext_getElem
  ·rw [hl, e]; simp
  ·intro i h1 h2
   have h4 := h3 i (by omega)
   simp only [e, List.getElem_map] at h4
   rw [List.getElem_map]
   exact h4.int_inv
 ·cases he
theorem Zfb : ∀ (xs ys : List Int), xs.length = ys.length → ((List.range xs.length).all fun i => xs.getD i 0 == ys.getD i 0) = (xs == ys)
 | [], [], _ => rfl
 | x :: xs, y :: ys, h => by
  have ih := Zfb xs ys (by simpa using h)
  rw [List.length_cons, List.range_succ_eq_map, List.all_cons, List.all_map]
  simp only [List.getD_cons_zero, Function.comp_def, List.getD_cons_succ, ih]
  simp [List.cons_beq_cons]
 | [], _ :: _, h => by simp at h
 | _ :: _, [], h => by simp at h
theorem Zha (w : World) (d : Nat) (t e : TypeId) (n : Nat) (k : IntKind) (ht : P.underlying t = some (.array n e)) (he : P.underlying e = some (.int k)) (hsz : ∀ w, (sizeOf e).run P w = .ok 1 w)
  (xs ys : List Int) (hx : xs.length = n) (hy : ys.length = n) :
  (Op.equalIn (d + 2) t (.agg (xs.map (Value.int k)).toArray) (.agg (ys.map (Value.int k)).toArray)).run P w = .ok (xs == ys) w := by
 rw [← Zfb xs ys (hx.trans hy.symm), hx, List.range_eq_range', Op.equalIn]
 simp only [Sem.run_bind, run_underlying ht, Result.andThen_ok, hsz, Std.Legacy.Range.forIn_eq_forIn_range', Std.Legacy.Range.size, Nat.sub_zero, Nat.add_sub_cancel, Nat.div_one]
 have hl : ∀ i ∈ List.range' 0 n 1, i < n := fun i hi => by simpa using (List.mem_range'_1.1 hi).2
 generalize List.range' 0 n 1 = l at hl ⊢
 induction l with
 | nil => simp
 | cons i l ih =>
  have hi : i < n := hl i (by simp)
  have px : (part e (xs.map (Value.int k)).toArray (i * 1)).run P w = .ok (.int k (xs.getD i 0)) w := by
   simp [part, isAgg, run_underlying he, List.getD, List.getElem?_eq_getElem (show i < xs.length by omega)]
  have py : (part e (ys.map (Value.int k)).toArray (i * 1)).run P w = .ok (.int k (ys.getD i 0)) w := by
   simp [part, isAgg, run_underlying he, List.getD, List.getElem?_eq_getElem (show i < ys.length by omega)]
  have pe : (Op.equalIn (d + 1) e (.int k (xs.getD i 0)) (.int k (ys.getD i 0))).run P w = .ok (xs.getD i 0 == ys.getD i 0) w := run_equalIn_int w d e k k _ _ he
  simp only [List.forIn_cons, Sem.run_bind, px, py, pe, Result.andThen_ok, List.all_cons]
  cases hb : (xs.getD i 0 == ys.getD i 0)
  ·simp
  ·simp only [Bool.not_true, Bool.false_eq_true, if_false, Sem.run_pure, Result.andThen_ok, Bool.true_and]
   exact ih fun j hj => hl j (by simp [hj])
theorem Zgc (w : World) (d : Nat) (t e : TypeId) (n : Nat) (k : IntKind) (ht : P.underlying t = some (.array n e)) (he : P.underlying e = some (.int k)) (hsz : ∀ w, (sizeOf e).run P w = .ok 1 w)
  (xs ys : List Int) (hx : xs.length = n) (hy : ys.length = n) :
  (Op.eqGuardIn (d + 2) t (.agg (xs.map (Value.int k)).toArray) (.agg (ys.map (Value.int k)).toArray)).run P w = .ok false w := by
 rw [Op.eqGuardIn]
 simp only [Sem.run_bind, run_underlying ht, Result.andThen_ok, hsz, Std.Legacy.Range.forIn_eq_forIn_range', Std.Legacy.Range.size, Nat.sub_zero, Nat.add_sub_cancel, Nat.div_one]
 have hl : ∀ i ∈ List.range' 0 n 1, i < n := fun i hi => by simpa using (List.mem_range'_1.1 hi).2
 generalize List.range' 0 n 1 = l at hl ⊢
 induction l with
 | nil => simp
 | cons i l ih =>
  have hi : i < n := hl i (by simp)
  have px : (part e (xs.map (Value.int k)).toArray (i * 1)).run P w = .ok (.int k (xs.getD i 0)) w := by
   simp [part, isAgg, run_underlying he, List.getD, List.getElem?_eq_getElem (show i < xs.length by omega)]
  have py : (part e (ys.map (Value.int k)).toArray (i * 1)).run P w = .ok (.int k (ys.getD i 0)) w := by
   simp [part, isAgg, run_underlying he, List.getD, List.getElem?_eq_getElem (show i < ys.length by omega)]
  have pe : (Op.eqGuardIn (d + 1) e (.int k (xs.getD i 0)) (.int k (ys.getD i 0))).run P w = .ok false w := by
   rw [Op.eqGuardIn]; simp [run_underlying he]
  simp only [List.forIn_cons, Sem.run_bind, px, py, pe, Result.andThen_ok]
  simp only [Bool.false_eq_true, if_false, Sem.run_pure, Result.andThen_ok]
  exact ih fun j hj => hl j (by simp [hj])
theorem Zg4 (w : World) (op : BinOp) (t e : TypeId) (x y : Operand) (n : Nat) (k : IntKind) (ht : P.underlying t = some (.array n e)) (he : P.underlying e = some (.int k)) (hsz : ∀ w, (sizeOf e).run P w = .ok 1 w)
  (xs ys : List Int) (hx : xs.length = n) (hy : ys.length = n) :
  (eqGuard op t x y (.agg (xs.map (Value.int k)).toArray) (.agg (ys.map (Value.int k)).toArray)).run P w = .ok () w := by
 have h := Zgc w 9998 t e n k ht he hsz xs ys hx hy
 have h' : (Op.eqGuardIn Op.maxDepth t (.agg (xs.map (Value.int k)).toArray) (.agg (ys.map (Value.int k)).toArray)).run P w = .ok false w := h
 have e0 : op = .eql ∨ op = .neq ∨ (op ≠ .eql ∧ op ≠ .neq) := by cases op <;> simp
 unfold eqGuard
 rcases e0 with rfl | rfl | ⟨e1, e2⟩
 ·simp only [Bool.not_true, Bool.false_eq_true, if_false, Sem.run_bind, run_program, Result.andThen_ok]
  simp only [Sem.run_ite, h', Result.andThen_ok, Bool.false_eq_true, if_false, Sem.run_pure, ite_self, Sem.run_bind]
 ·simp only [Bool.not_true, Bool.false_eq_true, if_false, Sem.run_bind, run_program, Result.andThen_ok]
  simp only [Sem.run_ite, h', Result.andThen_ok, Bool.false_eq_true, if_false, Sem.run_pure, ite_self, Sem.run_bind]
 ·cases op <;> first | exact absurd rfl e1 | exact absurd rfl e2 | simp
def ZnE (op : BinOp) (x y : ByteArray) : Option GV :=
 match op with
 | .eql => some (.bool (x.toList == y.toList))
 | .neq => some (.bool (!(x.toList == y.toList)))
 | .add => if x.size + y.size ≤ 9223372036854775807 then some (.str (x ++ y)) else none
 | _ => none
def Zi0 (tab : Tab) (op : BinOp) (t : TypeId) (x y : PV) : Option (PV × List (Nat × Block)) :=
 match Zhb tab op t x y with
 | some r => some r
 | none => match x, y with
  | .g (.str a), .g (.str b) => (match ZnE op a b with | some v => some (.g v, []) | none => none)
  | x, y => match Zhv tab t with
   | some (n, k) => match Zbi k x, Zbi k y with
    | some xs, some ys => if xs.length = n ∧ ys.length = n then (match op with | .eql => some (.g (.bool (xs == ys)), []) | .neq => some (.g (.bool (!(xs == ys))), []) | _ => none) else none
    | _, _ => none
   | none => none
theorem ZkC  {x y : PV}  (h : Zhb tab op t x y = some r) : Zi0 tab op t x y = some r := by
 unfold Zi0; rw [h]
theorem Ztn (ht : TabOk P tab) (h : RelAt w0 S a w μ who)   {t' : TypeId}  (ho : o.op = .binOp op t x y t')  {ws : List (Nat × Block)} (hx : Zi0 tab op t (S.ev tab 0 x) (S.ev tab 0 y) = some (pv, ws)) :
  Does P w0 a (S.writes ws) pv ((execOp a.eval o).run P w) := by
 have h1 := h.ev tab 0 x
 have h2 := h.ev tab 0 y
 unfold Zi0 at hx
 split at hx
 ·rename_i r hr
  cases hx
  exact ZsT ht h ho hr
 ·split at hx
  ·rename_i s1 s2 e1 e2
   rw [e1] at h1; rw [e2] at h2
   have v1 := h1.str_inv
   have v2 := h2.str_inv
   split at hx
   ·rename_i v hv
    simp only [Option.some.injEq, Prod.mk.injEq] at hx
    obtain ⟨rfl, rfl⟩ := hx
    have hg : (eqGuard op t x y (.string s1) (.string s2)).run P w = .ok () w := by unfold eqGuard; split <;> simp
    have hat : v.atom = true := by
     unfold ZnE at hv
     split at hv
     ·cases hv; rfl
     ·cases hv; rfl
     ·split at hv
      ·cases hv; rfl
      ·cases hv
     ·cases hv
    have hrun : (binOp op t (.string s1) (.string s2)).run P w = .ok (ZcL v) w := by
     unfold ZnE at hv
     split at hv
     ·cases hv; simp [binOp, Op.stringOp, ZcL]
     ·cases hv; simp [binOp, Op.stringOp, ZcL]
     ·split at hv
      ·rename_i hl
       cases hv
       have hl' : ¬ (((s1.size + s2.size : Nat) : Int) > IntKind.i64.max) := by
        have e : IntKind.i64.max = 9223372036854775807 := by decide
        rw [e]; omega
       simp only [binOp, Op.stringOp, if_neg hl', ZcL, Sem.run_pure]
      ·cases hv
     ·cases hv
    refine Does.pure h (v := ZcL v) ?_ (.g _ _ [] (.atom v hat) (by simp))
    unfold execOp; simp [ho, v1, v2, hg, hrun]
   ·cases hx
  ·split at hx
   ·rename_i n k hA
    obtain ⟨E, hu, hE, hsz⟩ := Zp1 ht hA
    split at hx
    ·rename_i xs ys ex ey
     have v1 := Zji h1 ex
     have v2 := Zji h2 ey
     split at hx
     ·rename_i hl
      have hg : ∀ op, (eqGuard op t x y (.agg (xs.map (Value.int k)).toArray) (.agg (ys.map (Value.int k)).toArray)).run P w = .ok () w := fun op => Zg4 w op t E x y n k hu hE hsz xs ys hl.1 hl.2
      have he := Zha w 9998 t E n k hu hE hsz xs ys hl.1 hl.2
      split at hx
      ·simp only [Option.some.injEq, Prod.mk.injEq] at hx
       obtain ⟨rfl, rfl⟩ := hx
       refine Does.pure h (v := .bool (xs == ys)) ?_ (PRep.of_bool _ _ _ _)
       unfold execOp
       simp only [ho, v1, v2, Sem.run_bind, hg, Result.andThen_ok, run_eql_struct, he, Sem.run_pure]
      ·simp only [Option.some.injEq, Prod.mk.injEq] at hx
       obtain ⟨rfl, rfl⟩ := hx
       refine Does.pure h (v := .bool (!(xs == ys))) ?_ (PRep.of_bool _ _ _ _)
       unfold execOp
       simp only [ho, v1, v2, Sem.run_bind, hg, Result.andThen_ok, run_neq_struct, he, Sem.run_pure]
      ·cases hx
     ·cases hx
    ·cases hx
   ·cases hx
def aMM (mx : Bool) (p q : PV) : Option (PV × List (Nat × Block)) :=
 match p, q with
 | .g (.int .i64 a), .g (.int .i64 b) => some (.g (.int .i64 (if mx then max a b else min a b)), [])
 | _, _ => none
theorem Zxk (h : RelAt w0 S a w μ who)    (ho : o.op = .call { callee := .builtin .max, args := #[x, y], argTypes := tys })  {ws : List (Nat × Block)} (hx : aMM true (S.ev tab 0 x) (S.ev tab 0 y) = some (pv, ws)) :
  Does P w0 a (S.writes ws) pv ((execOp a.eval o).run P w) := by
 have h1 := h.ev tab 0 x
 have h2 := h.ev tab 0 y
 unfold aMM at hx
 split at hx
 ·rename_i m n e1 e2
  rw [e1] at h1; rw [e2] at h2
  simp only [Option.some.injEq, Prod.mk.injEq] at hx
  obtain ⟨rfl, rfl⟩ := hx
  refine Does.pure h (v := .int .i64 (max m n)) ?_ (PRep.of_int _ _ _ _ _)
  have e : (if n > m then n else m) = max m n := by split <;> omega
  unfold execOp
  simp only [ho, resolve, invoke, builtin, Sem.run_bind, Sem.run_pure, Result.andThen_ok, List.map_toArray, List.map_cons, List.map_nil, h1.int_inv, h2.int_inv, run_max_int2, e]
 ·cases hx
theorem Zvd (h : RelAt w0 S a w μ who)    (ho : o.op = .call { callee := .builtin .min, args := #[x, y], argTypes := tys })  {ws : List (Nat × Block)} (hx : aMM false (S.ev tab 0 x) (S.ev tab 0 y) = some (pv, ws)) :
  Does P w0 a (S.writes ws) pv ((execOp a.eval o).run P w) := by
 have h1 := h.ev tab 0 x
 have h2 := h.ev tab 0 y
 unfold aMM at hx
 split at hx
 ·rename_i m n e1 e2
  rw [e1] at h1; rw [e2] at h2
  simp only [Option.some.injEq, Prod.mk.injEq] at hx
  obtain ⟨rfl, rfl⟩ := hx
  refine Does.pure h (v := .int .i64 (min m n)) ?_ (PRep.of_int _ _ _ _ _)
  have e : (if n < m then n else m) = min m n := by split <;> omega
  unfold execOp
  simp only [ho, resolve, invoke, builtin, Sem.run_bind, Sem.run_pure, Result.andThen_ok, List.map_toArray, List.map_cons, List.map_nil, h1.int_inv, h2.int_inv, run_min_int2, e]
 ·cases hx
def aSlc (tab : Tab) (h : Nat → Block) (t : TypeId) (x : PV) (lo hi : Option PV) : Option (PV × List (Nat × Block)) :=
 match Ze7 tab h t x lo hi with
 | some r => some r
 | none => match tab t, x with
  | some ti, .g (.str s) => (match ti.kind, bnd lo 0, bnd hi s.size with
   | .str, some l, some u => if 0 ≤ l ∧ l ≤ u ∧ u ≤ (s.size : Int) then some (.g (.str (s.extract l.toNat u.toNat)), []) else none
   | _, _, _ => none)
  | _, _ => none
theorem ZoU {h : Nat → Block}  {x : PV} {lo hi : Option PV}  (e : Ze7 tab h t x lo hi = some r) : aSlc tab h t x lo hi = some r := by unfold aSlc; rw [e]
theorem Zwy (ht : TabOk P tab) (h : RelAt w0 S a w μ who)    {lo hi : Option Operand} (ho : o.op = .slice t x lo hi none)  {ws : List (Nat × Block)} (hx : aSlc tab S.heap t (S.ev tab 0 x) (lo.map (S.ev tab 0)) (hi.map (S.ev tab 0)) = some (pv, ws)) :
  Does P w0 a (S.writes ws) pv ((execOp a.eval o).run P w) := by
 unfold aSlc at hx
 split at hx
 ·rename_i r hr
  cases hx
  exact Zqf ht h ho hr
 ·split at hx
  ·rename_i ti s hti e1
   split at hx
   ·rename_i l u hk b1 b2
    split at hx
    ·rename_i hb
     simp only [Option.some.injEq, Prod.mk.injEq] at hx
     obtain ⟨rfl, rfl⟩ := hx
     have h1 := h.ev tab 0 x
     rw [e1] at h1
     have hv := h1.str_inv
     obtain ⟨inf, z, d, hto⟩ := ht t ti hti
     have hkd := hto.kind
     rw [hk] at hkd
     have hkd : d = .string := hkd
     subst hkd
     have blo : ∀ (v : Option Operand) y, v = some y → ∃ p, v.map (S.ev tab 0) = some p ∧ PRep w μ S.heap (a.eval y) p := by rintro v y rfl; exact ⟨_, rfl, h.ev tab 0 y⟩
     have bno : ∀ (v : Option Operand), v = none → v.map (S.ev tab 0) = none := by rintro v rfl; rfl
     have hbb := Zjl (P := P) (isS := false) (blo lo) (bno lo) (blo hi) (bno hi) b1 b2 (Nat.le_refl _) hb
     refine Does.pure h (v := .string (s.extract l.toNat u.toNat)) ?_ (.g _ _ [] (.atom (.str _) rfl) (by simp))
     unfold execOp
     simp [ho, hv, Instr.sliceAt, Instr.slice, run_underlying hto.desc, hbb]
    ·cases hx
   ·cases hx
  ·cases hx
end
end Go.Proofs.YtjjidamlmebaaaaGreat

