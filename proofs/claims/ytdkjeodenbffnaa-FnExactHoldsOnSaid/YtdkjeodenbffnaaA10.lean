/- Abstract states: load, store, addresses. Over any program; the table is right ('TabOk'). -/
import Derived.Test.YtdkjeodenbffnaaA9
namespace Go.Proofs.Ytdkjeodenbffnaa
open Go.RowKit
open Shp

section
variable {P : Program} {tab : Tab} {w0 : World} {S : AState} {a : Act} {w : World} {μ : Lay} {who : Nat → Option Nat}

theorem PRep.iptr_inv {h : Nat → Block} {v : Value} {cs : List GV} (hv : PRep w μ h v (.iptr cs)) : ∃ p vs Fs, v = .pointer (some p) ∧ p.spot = none ∧ p.block < w.heap.size ∧ ¬ Root μ h p.block ∧ ImmAt w μ h p cs vs Fs := by
  cases hv with
  | iptr v p cs vs Fs hp hs hv hF hb hr hc hg he hd => exact ⟨p, vs, Fs, hp, hs, hb, hr, hv, hF, hc, hg, he, hd⟩

theorem PRep.of_imm {h : Nat → Block} {p : Addr} {cs : List GV} {vs : List Value} {Fs : List (List Nat)} (hs : p.spot = none) (hb : p.block < w.heap.size) (hr : ¬ Root μ h p.block) (hi : ImmAt w μ h p cs vs Fs) : PRep w μ h (.pointer (some p)) (.iptr cs) :=
  .iptr _ p cs vs Fs rfl hs hi.hv hi.hF hb hr hi.hc hi.hg hi.he hi.hd

theorem PRep.box_inv {h : Nat → Block} {v : Value} {cs : List GV} (hv : PRep w μ h v (.g (.box cs))) : ∃ b vs Fs, v = .pointer (some ⟨b, 0, none⟩) ∧ b < w.heap.size ∧ ¬ Root μ h b ∧ ImmAt w μ h ⟨b, 0, none⟩ cs vs Fs := by
  obtain ⟨F, hg, hd⟩ := hv.g_inv
  cases hg with
  | atom x hx => simp [GV.atom] at hx
  | box b vs gs Fs hb hv hF h1 hg hc hh =>
    refine ⟨b, vs, Fs, rfl, hb, hd b (by simp), hv, hF, fun i hi => ⟨?_, h1 _ (List.getElem_mem _)⟩, hg, hh, fun c hc' => hd c (List.mem_cons_of_mem _ hc')⟩
    rw [Addr.add_mid, Nat.zero_add]; exact hc i hi

theorem PRep.ptr_inv {h : Nat → Block} {v : Value} {id off : Nat} (hv : PRep w μ h v (.ptr id off)) : v.oneCell' = true ∧ h id ≠ .free ∧ ∀ cs, h id = .box cs → ∃ b, μ id = some (b, 0) ∧ v = .pointer (some ⟨b, off, none⟩) := by
  cases hv with | ptr v id off h1 h2 h3 => exact ⟨h1, h2, h3⟩
theorem PRep.own_inv {h : Nat → Block} {v : Value} {id lo len : Nat} (hv : PRep w μ h v (.own id lo len)) : v.oneCell' = true ∧ h id ≠ .free ∧ ∀ e dp xs, h id = .arr e dp xs → OwnAt w μ id e lo len v := by
  cases hv with | own v id lo len h1 h2 h3 => exact ⟨h1, h2, h3⟩
theorem PRep.eptr_inv {h : Nat → Block} {v : Value} {id k j : Nat} (hv : PRep w μ h v (.eptr id k j)) : v.oneCell' = true ∧ h id ≠ .free ∧ ∀ e dp xs, h id = .arr e dp xs → ∃ b d, μ id = some (b, d) ∧ v = .pointer (some ⟨b, d + k * e + j, none⟩) := by
  cases hv with | eptr v id k j h1 h2 h3 => exact ⟨h1, h2, h3⟩
theorem PRep.agg_inv {h : Nat → Block} {v : Value} {cs : List PV} (hv : PRep w μ h v (.agg cs)) : ∃ vs : List Value, v = .agg vs.toArray ∧ ∃ hl : vs.length = cs.length, (∀ u ∈ vs, u.oneCell' = true) ∧ ∀ i (hi : i < cs.length), PRep w μ h (vs[i]'(hl ▸ hi)) cs[i] := by
  cases hv with | agg vs cs hv h1 he => exact ⟨vs, rfl, hv, h1, he⟩
theorem PRep.nils_inv {h : Nat → Block} {v : Value} {e : Nat} (hv : PRep w μ h v (.nils e)) : v = .slice none 0 0 ∧ 0 < e := by
  cases hv with | nils e he => exact ⟨rfl, he⟩
theorem PRep.fn_inv {h : Nat → Block} {v : Value} {f : FuncId} {cs : List PV} (hv : PRep w μ h v (.fn f cs)) : ∃ vs : List Value, v = .func (.func f) #[] vs.toArray ∧ ∃ hl : vs.length = cs.length, ∀ i (hi : i < cs.length), PRep w μ h (vs[i]'(hl ▸ hi)) cs[i] := by
  cases hv with | fn f vs cs hv he => exact ⟨vs, rfl, hv, he⟩
theorem PRep.tup_inv {h : Nat → Block} {v : Value} {cs : List PV} (hv : PRep w μ h v (.tup cs)) : ∃ vs : List Value, v = .tuple vs.toArray ∧ ∃ hl : vs.length = cs.length, ∀ i (hi : i < cs.length), PRep w μ h (vs[i]'(hl ▸ hi)) cs[i] := by
  cases hv with | tup vs cs hv he => exact ⟨vs, rfl, hv, he⟩

/-- The cells of a row from a place on, in a box. -/
theorem box_cells (h : RelAt w0 S a w μ who) {id : Nat} {cs : List PV} (hx : S.heap id = .box cs) : ∃ b vs t, μ id = some (b, 0) ∧ w.heap[b]? = some (.cells vs t (0, 0)) ∧ vs.size = cs.length ∧ (∀ v ∈ vs.toList, v.oneCell' = true) ∧ (∀ i (hi : i < cs.length), PRep w μ S.heap (vs.getD i Go.undef) cs[i]) ∧ ∀ i, w.cell? ⟨b, i, none⟩ = vs[i]? := by
  have hB := h.blk id
  rw [hx] at hB
  obtain ⟨b, vs, t, h1, h2, h3, h4, h5⟩ := hB
  exact ⟨b, vs, t, h1, h2, h3, h4, h5, fun i => cell_of_row w b i _ _ _ h2⟩

theorem getD_lt {vs : Array Value} {i : Nat} (hi : i < vs.size) (u : Value) : vs.getD i u = vs[i] := by simp [Array.getD, hi]

theorem load_run (ht : TabOk P tab) (h : RelAt w0 S a w μ who) {t : TypeId} {u0 : Value} {p0 : PV} (h1 : PRep w μ S.heap u0 p0) {pv : PV} {ws : List (Nat × Block)} (hx : aLoad tab S.heap t p0 = some (pv, ws)) :
    ws = [] ∧ ∃ v, (Instr.loadAt t u0).run P w = .ok v w ∧ PRep w μ S.heap v pv := by
  have fin : ∀ v, (Instr.loadAt t u0).run P w = .ok v w → PRep w μ S.heap v pv → ([] : List (Nat × Block)) = [] ∧ ∃ v, (Instr.loadAt t u0).run P w = .ok v w ∧ PRep w μ S.heap v pv := fun v hr hv => ⟨rfl, v, hr, hv⟩
  unfold aLoad at hx
  split at hx
  · cases hx
  · rename_i ti hti
    split at hx
    · -- a box
      rename_i id off
      split at hx
      · rename_i cs hid
        · obtain ⟨b, hμ, e2⟩ := h1.ptr_inv.2.2 cs hid
          obtain ⟨b', vs, t', q1, q2, q3, q4, q5, q6⟩ := box_cells h hid
          rw [hμ] at q1; simp at q1; subst q1
          subst e2
          unfold aLoadBox at hx
          split at hx
          · rename_i hag
            split at hx
            · rename_i hle
              simp only [Option.map_some, Option.some.injEq, Prod.mk.injEq] at hx
              obtain ⟨rfl, rfl⟩ := hx
              have hl : ((vs.toList.drop off).take ti.size).length = ti.size := by simp; omega
              refine fin _ (run_load_agg ht hti hag _ ((vs.toList.drop off).take ti.size) hl (fun j u hj => ?_)) (.agg _ _ (by simp; omega) (fun u hu => q4 u (List.mem_of_mem_drop (List.mem_of_mem_take hu))) (fun i hi => ?_))
              · rw [Addr.add_mid, q6]
                obtain ⟨hj', rfl⟩ := List.getElem?_eq_some_iff.1 hj
                have hj2 : off + j < vs.size := by simp at hj'; omega
                simp [hj2]
              · have hi' : i < ti.size ∧ off + i < cs.length := by simp at hi; omega
                have := q5 (off + i) hi'.2
                rw [getD_lt (by omega)] at this
                simpa using this
            · simp at hx
          · rename_i hag
            cases hc : cs[off]? with
            | none => simp [hc] at hx
            | some y =>
              simp only [hc, Option.map_some, Option.some.injEq, Prod.mk.injEq] at hx
              obtain ⟨rfl, rfl⟩ := hx
              obtain ⟨ho', rfl⟩ := List.getElem?_eq_some_iff.1 hc
              have := q5 off ho'
              rw [getD_lt (by omega)] at this
              exact fin _ (run_load_one ht hti (by simpa using hag) _ _ (by rw [q6, Array.getElem?_eq_getElem (by omega)])) this
      · cases hx
    · -- an element of an array of one's own
      rename_i id k j
      split at hx
      · rename_i e dp xs hid
        split at hx
        · rename_i y hy
          obtain ⟨hk, rfl⟩ := List.getElem?_eq_some_iff.1 hy
          split at hx
          · cases hx
          · rename_i htu
            obtain ⟨b, d, hμ, e2⟩ := h1.eptr_inv.2.2 _ _ _ hid
            have hB := h.blk id
            rw [hid] at hB
            obtain ⟨he, hB⟩ := hB
            simp only [hμ] at hB
            obtain ⟨vs, t', Fs, els, hrow, hr, hnr, hdp⟩ := hB
            have hkel : k < els.length := by rw [hr.len]; exact hk
            have hg := hr.el k hk
            have hnc := hr.nc k hk
            have hsz := (hr.sz k hkel).1
            cases hl : aLoadImm ti ((xs[k]).cells.drop j) with
            | none => simp [hl] at hx
            | some y =>
              simp only [hl, Option.map_some, Option.some.injEq, Prod.mk.injEq] at hx
              obtain ⟨rfl, rfl⟩ := hx
              have htup : ∀ us, xs[k] ≠ .tup us := fun us e3 => htu (by rw [e3]; rfl)
              obtain ⟨vs2, Fs2, hi⟩ := GRep.imm (μ := μ) (h := S.heap) hg (fun c hc => hnr c (getElem_mem_flatten _ hc)) htup (p := ⟨b, d + k * e, none⟩) (fun j hj => by
                rw [Addr.add_mid, cell_of_row w b _ _ _ _ hrow, hr.cell k hkel j (by rw [← hsz]; exact hj)]
                simp [hj])
              obtain ⟨v', q1, q2⟩ := load_imm ht h hti (hi.drop rfl j) hl
              subst e2
              exact fin v' (by rw [← Addr.add_mid]; exact q1) q2
        · cases hx
      · cases hx
    · rename_i cs
      obtain ⟨p, vs, Fs, e2, _, _, _, hi⟩ := h1.iptr_inv
      cases hl : aLoadImm ti cs with
      | none => simp [hl] at hx
      | some y =>
        simp only [hl, Option.map_some, Option.some.injEq, Prod.mk.injEq] at hx
        obtain ⟨rfl, rfl⟩ := hx
        obtain ⟨v', q1, q2⟩ := load_imm ht h hti hi hl
        subst e2
        exact fin v' q1 q2
    · rename_i cs
      obtain ⟨b, vs, Fs, e2, _, _, hi⟩ := h1.box_inv
      cases hl : aLoadImm ti cs with
      | none => simp [hl] at hx
      | some y =>
        simp only [hl, Option.map_some, Option.some.injEq, Prod.mk.injEq] at hx
        obtain ⟨rfl, rfl⟩ := hx
        obtain ⟨v', q1, q2⟩ := load_imm ht h hti hi hl
        subst e2
        exact fin v' q1 q2
    · cases hx

theorem op_load (ht : TabOk P tab) (h : RelAt w0 S a w μ who) {o : Oper} {t : TypeId} {x : Operand} (ho : o.op = .load t x) {pv : PV} {ws : List (Nat × Block)} (hx : aLoad tab S.heap t (S.ev tab 0 x) = some (pv, ws)) :
    Does P w0 a (S.writes ws) pv ((execOp a.eval o).run P w) := by
  obtain ⟨rfl, v, hr, hv⟩ := load_run ht h (h.ev tab 0 x) hx
  refine Does.pure h (v := v) ?_ hv
  unfold execOp; simp [ho, hr]

end
end Go.Proofs.Ytdkjeodenbffnaa
