/- Abstract states: elements, parts of slices, structures, conversions. Over any program; the table is right ('TabOk'). -/
import Derived.Test.YtdkjeodenbffnaaA11
import Derived.Great.BuildSlice
import Derived.Laws.MakeOwn
namespace Go.Proofs.Ytdkjeodenbffnaa
open Go.RowKit
open Shp

section
variable {P : Program} {tab : Tab} {w0 : World} {S : AState} {a : Act} {w : World} {μ : Lay} {who : Nat → Option Nat}

/-! x[i] -/

def aIndex (tab : Tab) (h : Nat → Block) (t : TypeId) (x i : PV) : Option (PV × List (Nat × Block)) :=
  match tab t, i with
  | some ti, .g (.int _ n) => match ti.kind with
    | .sl E => match tab E with
      | none => none
      | some ei => match x with
        | .own id lo len => (match h id with
          | .arr e _ _ => if 0 ≤ n ∧ n < (len : Int) then (if e = ei.size then some (.eptr id (lo + n.toNat) 0, []) else none) else none
          | _ => none)
        | .g (.sl e xs) => if 0 ≤ n ∧ n < (xs.length : Int) then (if e = ei.size ∧ (xs.getD n.toNat default).isTup = false then some (.iptr (xs.getD n.toNat default).cells, []) else none) else none
        | _ => none
    | .ar m E => match tab E with
      | none => none
      | some ei => if 0 ≤ n ∧ n < (m : Int) then (match x with
        | .ptr id off => if x.isPtr h then some (.ptr id (off + n.toNat * ei.size), []) else none
        | .iptr cs => some (.iptr (cs.drop (n.toNat * ei.size)), [])
        | .g (.box cs) => some (.iptr (cs.drop (n.toNat * ei.size)), [])
        | .eptr id k j => if x.isPtr h then some (.eptr id k (j + n.toNat * ei.size), []) else none
        | _ => none) else none
    | _ => none
  | _, _ => none

theorem op_index (ht : TabOk P tab) (h : RelAt w0 S a w μ who) {o : Oper} {t : TypeId} {x i : Operand} (ho : o.op = .indexAddr t x i) {pv : PV} {ws : List (Nat × Block)} (hx : aIndex tab S.heap t (S.ev tab 0 x) (S.ev tab 0 i) = some (pv, ws)) :
    Does P w0 a (S.writes ws) pv ((execOp a.eval o).run P w) := by
  have h1 := h.ev tab 0 x
  have h2 := h.ev tab 0 i
  unfold aIndex at hx
  split at hx
  · rename_i ti k n hti ei1
    rw [ei1] at h2
    have hiv := h2.int_inv
    split at hx
    · rename_i E hk
      split at hx
      · cases hx
      rename_i ei hE
      obtain ⟨inf, z, d, hto⟩ := ht t ti hti
      have hkd := hto.kind
      rw [hk] at hkd
      obtain ⟨rfl, _⟩ := hkd
      have fin : ∀ p len cap, a.eval x = .slice (some p) len cap → 0 ≤ n ∧ n < (len : Int) → ∀ pv', PRep w μ S.heap (.pointer (some (p.add (n.toNat * ei.size)))) pv' → Does P w0 a (S.writes []) pv' ((execOp a.eval o).run P w) := fun p len cap e hn pv' hv => by
        refine Does.pure h (v := .pointer (some (p.add (n.toNat * ei.size)))) ?_ hv
        unfold execOp
        simp [ho, e, hiv, Instr.indexAt, asIntOf, run_underlying hto.desc, hn.1, hn.2, ht.sizeOf hE]
      split at hx
      · rename_i id lo len e1
        rw [e1] at h1
        split at hx
        · rename_i e dp xs hid
          split at hx
          · rename_i hn
            split at hx
            · rename_i he
              simp only [Option.some.injEq, Prod.mk.injEq] at hx
              obtain ⟨rfl, rfl⟩ := hx
              obtain ⟨q1, q2, q3⟩ := h1.own_inv
              have hoa := q3 _ _ _ hid
              unfold OwnAt at hoa
              cases hμ : μ id with
              | none => simp only [hμ] at hoa; omega
              | some bd =>
                obtain ⟨b, d⟩ := bd
                simp only [hμ] at hoa
                obtain ⟨cap, o', hv, hl, hm, vs, t', hrow, hoo, hfit⟩ := hoa
                refine fin _ _ _ hv hn _ ?_
                rw [Addr.add_mid]
                refine .eptr _ _ _ _ rfl q2 fun e' dp' xs' hc => ⟨b, d, hμ, ?_⟩
                rw [hid] at hc; cases hc
                rw [hoo (by omega), ← he, Nat.add_zero, Nat.add_mul, Nat.add_assoc]
            · cases hx
          · cases hx
        · cases hx
      · rename_i e xs e1
        rw [e1] at h1
        split at hx
        · rename_i hn
          split at hx
          · rename_i he
            simp only [Option.some.injEq, Prod.mk.injEq] at hx
            obtain ⟨rfl, rfl⟩ := hx
            obtain ⟨F, hg, hd⟩ := h1.g_inv
            obtain ⟨ad, cap, els, Fs, hv, hF, hs⟩ := hg.slice
            have hlt : n.toNat < xs.length := by omega
            cases ad with
            | none => have := hs.nil rfl; have := hs.le; omega
            | some p =>
              have hlt' : n.toNat < els.length := by rw [hs.hv]; exact hlt
              refine fin p _ _ hv (by exact hn) _ ?_
              have hcap0 : 0 < cap := by have := hs.le; omega
              have hpa := hs.ad p rfl hcap0
              have e3 : xs.getD n.toNat default = xs[n.toNat] := by simp [List.getD, hlt]
              have hblk : (p.add (n.toNat * ei.size)).block = p.block := by unfold Addr.add; split <;> rfl
              have hspt : (p.add (n.toNat * ei.size)).spot = none := by have := hpa.1; unfold Addr.add; split <;> simp_all
              obtain ⟨vs2, Fs2, hi⟩ := GRep.imm (μ := μ) (h := S.heap) (hs.h n.toNat hlt) (fun c hc => hd c (by rw [hF]; exact List.mem_append.2 (.inr (getElem_mem_flatten _ hc)))) (fun us e4 => by rw [e3, e4] at he; simp [GV.isTup] at he) (p := p.add (n.toNat * ei.size)) (fun j hj => by
                have := ((hs.hc n.toNat hlt').2.2 j hj).1
                rw [add_add p hpa.1, ← he.1]
                exact this)
              rw [e3]
              exact PRep.of_imm hspt (by rw [hblk]; exact hpa.2) (by rw [hblk]; exact hd _ (by rw [hF]; exact List.mem_append.2 (.inl (mem_own rfl hcap0)))) hi
          · cases hx
        · cases hx
      · cases hx
    · rename_i m E hk
      split at hx
      · cases hx
      rename_i ei hE
      obtain ⟨inf, z, d, hto⟩ := ht t ti hti
      have hkd := hto.kind
      rw [hk] at hkd
      have hdd : d = .array m E := hkd
      subst hdd
      split at hx
      · rename_i hn
        have fin : ∀ p, a.eval x = .pointer (some p) → ∀ pv', PRep w μ S.heap (.pointer (some (p.add (n.toNat * ei.size)))) pv' → Does P w0 a (S.writes []) pv' ((execOp a.eval o).run P w) := fun p e pv' hv => by
          refine Does.pure h (v := .pointer (some (p.add (n.toNat * ei.size)))) ?_ hv
          unfold execOp
          simp [ho, e, hiv, Instr.indexAt, asIntOf, run_underlying hto.desc, hn.1, hn.2, ht.sizeOf hE, Instr.sureAddr]
        split at hx
        · rename_i id off e1
          rw [e1] at h1 hx
          split at hx
          · rename_i hp
            simp only [Option.some.injEq, Prod.mk.injEq] at hx
            obtain ⟨rfl, rfl⟩ := hx
            obtain ⟨q1, q2, q3⟩ := h1.ptr_inv
            cases hid : S.heap id <;> simp [PV.isPtr, hid] at hp
            rename_i cs
            obtain ⟨b, hμ, e2⟩ := q3 cs hid
            exact fin _ e2 _ (by rw [Addr.add_mid]; exact .ptr _ _ _ rfl q2 fun cs' hc => ⟨b, hμ, rfl⟩)
          · cases hx
        · rename_i cs e1
          rw [e1] at h1
          simp only [Option.some.injEq, Prod.mk.injEq] at hx
          obtain ⟨rfl, rfl⟩ := hx
          obtain ⟨p, vs, Fs, e2, hs, hb, hr, hi⟩ := h1.iptr_inv
          have hblk : (p.add (n.toNat * ei.size)).block = p.block := by unfold Addr.add; split <;> rfl
          have hspt : (p.add (n.toNat * ei.size)).spot = none := by unfold Addr.add; split <;> simp_all
          exact fin _ e2 _ (PRep.of_imm hspt (by rw [hblk]; exact hb) (by rw [hblk]; exact hr) (hi.drop hs _))
        · rename_i cs e1
          rw [e1] at h1
          simp only [Option.some.injEq, Prod.mk.injEq] at hx
          obtain ⟨rfl, rfl⟩ := hx
          obtain ⟨b, vs, Fs, e2, hb, hr, hi⟩ := h1.box_inv
          exact fin _ e2 _ (PRep.of_imm (by rw [Addr.add_mid]) (by rw [Addr.add_mid]; exact hb) (by rw [Addr.add_mid]; exact hr) (hi.drop rfl _))
        · rename_i id k' j e1
          rw [e1] at h1 hx
          split at hx
          · rename_i hp
            simp only [Option.some.injEq, Prod.mk.injEq] at hx
            obtain ⟨rfl, rfl⟩ := hx
            obtain ⟨q1, q2, q3⟩ := h1.eptr_inv
            cases hid : S.heap id <;> simp [PV.isPtr, hid] at hp
            rename_i e dp xs
            obtain ⟨b, d, hμ, e2⟩ := q3 _ _ _ hid
            refine fin _ e2 _ (by
              rw [Addr.add_mid]
              exact .eptr _ _ _ _ rfl q2 fun e' dp' xs' hc => by
                rw [hid] at hc; cases hc
                exact ⟨b, d, hμ, by rw [Nat.add_assoc]⟩)
          · cases hx
        · cases hx
      · cases hx
    · cases hx
  · cases hx

/-! x[lo:hi] -/

/-- A bound of a slice: given, or not. -/
def bnd : Option PV → Nat → Option Int
  | none, d => some d
  | some (.g (.int _ n)), _ => some n
  | _, _ => none

def aSlice (tab : Tab) (h : Nat → Block) (t : TypeId) (x : PV) (lo hi : Option PV) : Option (PV × List (Nat × Block)) :=
  match tab t with
  | none => none
  | some ti => match ti.kind with
    | .sl E => match tab E with
      | none => none
      | some ei => match x with
        | .own id l0 len => (match h id, bnd lo 0, bnd hi len with
          | .arr e _ _, some l, some u => if 0 ≤ l ∧ l ≤ u ∧ u ≤ (len : Int) then (if e = ei.size then some (.own id (l0 + l.toNat) (u.toNat - l.toNat), []) else none) else none
          | _, _, _ => none)
        | .g (.sl e xs) => (match bnd lo 0, bnd hi xs.length with
          | some l, some u => if 0 ≤ l ∧ l ≤ u ∧ u ≤ (xs.length : Int) then (if e = ei.size then some (.g (.sl e ((xs.drop l.toNat).take (u.toNat - l.toNat))), []) else none) else none
          | _, _ => none)
        | .nils e => (match bnd lo 0, bnd hi 0 with
          | some l, some u => if l = 0 ∧ u = 0 then some (.nils e, []) else none
          | _, _ => none)
        | _ => none
    | _ => none

theorem run_bounds {lo hi : Option PV} {vlo vhi : Option Operand} {len cap : Nat} {l u : Int} (hlo : ∀ x, vlo = some x → ∃ p, lo = some p ∧ PRep w μ S.heap (a.eval x) p) (hlo' : vlo = none → lo = none) (hhi : ∀ x, vhi = some x → ∃ p, hi = some p ∧ PRep w μ S.heap (a.eval x) p) (hhi' : vhi = none → hi = none)
    (h1 : bnd lo 0 = some l) (h2 : bnd hi len = some u) (hc : len ≤ cap) (hb : 0 ≤ l ∧ l ≤ u ∧ u ≤ (len : Int)) :
    (Instr.sliceBounds true len cap (vlo.map a.eval) (vhi.map a.eval) none).run P w = .ok (l.toNat, u.toNat, cap) w := by
  have key : ∀ (o : Option PV) (v : Option Operand) (d : Nat) (x : Int), (∀ y, v = some y → ∃ p, o = some p ∧ PRep w μ S.heap (a.eval y) p) → (v = none → o = none) → bnd o d = some x → (v = none ∧ x = d) ∨ ∃ y k, v = some y ∧ a.eval y = .int k x := by
    intro o v d x e1 e2 e3
    cases v with
    | none => rw [e2 rfl] at e3; simp [bnd] at e3; exact .inl ⟨rfl, e3.symm⟩
    | some y =>
      obtain ⟨p, rfl, hp⟩ := e1 y rfl
      cases p <;> simp [bnd] at e3
      rename_i g
      cases g <;> simp at e3
      subst e3
      exact .inr ⟨y, _, rfl, hp.int_inv⟩
  rcases key hi vhi len u hhi hhi' h2 with ⟨rfl, rfl⟩ | ⟨y, k, rfl, hy⟩
  · rcases key lo vlo 0 l hlo hlo' h1 with ⟨rfl, rfl⟩ | ⟨y2, k2, rfl, hy2⟩
    · simp [Instr.sliceBounds]
    · simp [Instr.sliceBounds, Instr.sliceBound, hy2, asIntOf, hb.1, hb.2.1]
  · rcases key lo vlo 0 l hlo hlo' h1 with ⟨rfl, rfl⟩ | ⟨y2, k2, rfl, hy2⟩
    · have h3 : 0 ≤ u := by omega
      have h4 : u ≤ (cap : Int) := by omega
      simp [Instr.sliceBounds, Instr.sliceBound, hy, asIntOf, h3, h4]
    · have h3 : 0 ≤ u := by omega
      have h4 : u ≤ (cap : Int) := by omega
      have h5 : l ≤ ((u.toNat : Nat) : Int) := by omega
      simp [Instr.sliceBounds, Instr.sliceBound, hy, hy2, asIntOf, h3, h4, hb.1, h5]
      intro hh
      exfalso; omega

theorem op_slice (ht : TabOk P tab) (h : RelAt w0 S a w μ who) {o : Oper} {t : TypeId} {x : Operand} {lo hi : Option Operand} (ho : o.op = .slice t x lo hi none) {pv : PV} {ws : List (Nat × Block)} (hx : aSlice tab S.heap t (S.ev tab 0 x) (lo.map (S.ev tab 0)) (hi.map (S.ev tab 0)) = some (pv, ws)) :
    Does P w0 a (S.writes ws) pv ((execOp a.eval o).run P w) := by
  have h1 := h.ev tab 0 x
  have blo : ∀ (v : Option Operand) y, v = some y → ∃ p, v.map (S.ev tab 0) = some p ∧ PRep w μ S.heap (a.eval y) p := by rintro v y rfl; exact ⟨_, rfl, h.ev tab 0 y⟩
  have bno : ∀ (v : Option Operand), v = none → v.map (S.ev tab 0) = none := by rintro v rfl; rfl
  unfold aSlice at hx
  split at hx
  · cases hx
  rename_i ti hti
  split at hx
  · rename_i E hk
    split at hx
    · cases hx
    rename_i ei hE
    obtain ⟨inf, z, d, hto⟩ := ht t ti hti
    have hkd := hto.kind
    rw [hk] at hkd
    obtain ⟨rfl, _⟩ := hkd
    have fin : ∀ ad len cap l u, a.eval x = .slice ad len cap → len ≤ cap → bnd (lo.map (S.ev tab 0)) 0 = some l → bnd (hi.map (S.ev tab 0)) len = some u → (0 ≤ l ∧ l ≤ u ∧ u ≤ (len : Int)) → ∀ pv', PRep w μ S.heap (.slice (if cap = l.toNat then ad else ad.map (·.add (l.toNat * ei.size))) (u.toNat - l.toNat) (cap - l.toNat)) pv' → Does P w0 a (S.writes []) pv' ((execOp a.eval o).run P w) := fun ad len cap l u e hc b1 b2 hb pv' hv => by
      refine Does.pure h (v := _) ?_ hv
      have hbb := run_bounds (P := P) (blo lo) (bno lo) (blo hi) (bno hi) b1 b2 hc hb
      unfold execOp
      simp [ho, e, Instr.sliceAt, Instr.slice, run_underlying hto.desc, hbb, ht.sizeOf hE]
    split at hx
    · rename_i id l0 len e1
      rw [e1] at h1
      split at hx
      · rename_i e dp xs l u hid b1 b2
        split at hx
        · rename_i hb
          split at hx
          · rename_i he
            simp only [Option.some.injEq, Prod.mk.injEq] at hx
            obtain ⟨rfl, rfl⟩ := hx
            obtain ⟨q1, q2, q3⟩ := h1.own_inv
            have hoa := q3 _ _ _ hid
            unfold OwnAt at hoa
            cases hμ : μ id with
            | none =>
              simp only [hμ] at hoa
              obtain ⟨⟨ad0, hv⟩, rfl, rfl⟩ := hoa
              have hl0 : l = 0 := by omega
              have hu0 : u = 0 := by omega
              subst hl0; subst hu0
              refine fin _ _ _ _ _ hv (Nat.le_refl _) b1 b2 hb _ ?_
              refine .own _ _ _ _ rfl q2 fun e' dp' xs' hc => ?_
              unfold OwnAt; simp [hμ]
            | some bd =>
              obtain ⟨b, d⟩ := bd
              simp only [hμ] at hoa
              obtain ⟨cap, o', hv, hl, hm, vs, t', hrow, hoo, hfit⟩ := hoa
              refine fin _ _ _ _ _ hv hl b1 b2 hb _ ?_
              refine .own _ _ _ _ (by split <;> rfl) q2 fun e' dp' xs' hc => ?_
              rw [hid] at hc; cases hc
              unfold OwnAt
              simp only [hμ]
              by_cases hcl : cap = l.toNat
              · rw [if_pos hcl]
                refine ⟨cap - l.toNat, o', rfl, by omega, by omega, vs, t', hrow, fun h0 => by omega, ?_⟩
                have : cap - l.toNat = 0 := by omega
                rw [this]; omega
              · rw [if_neg hcl]
                have hlt : l.toNat < cap := by omega
                refine ⟨cap - l.toNat, o' + l.toNat * ei.size, by rw [Option.map_some, Addr.add_mid], by omega, by omega, vs, t', hrow, fun h0 => ?_, ?_⟩
                · rw [hoo (by omega), ← he, Nat.add_mul]; omega
                · have h9 : l.toNat * e + (cap - l.toNat) * e = cap * e := by rw [← Nat.add_mul]; congr 1; omega
                  rw [← he]; omega
          · cases hx
        · cases hx
      · cases hx
    · rename_i e xs e1
      rw [e1] at h1
      split at hx
      · rename_i l u b1 b2
        split at hx
        · rename_i hb
          split at hx
          · rename_i he
            simp only [Option.some.injEq, Prod.mk.injEq] at hx
            obtain ⟨rfl, rfl⟩ := hx
            obtain ⟨F, hg, hd⟩ := h1.g_inv
            obtain ⟨ad, cap, els, Fs, hv, hF, hs⟩ := hg.slice
            refine fin _ _ _ _ _ hv hs.le b1 b2 hb _ ?_
            have hlen : ((xs.drop l.toNat).take (u.toNat - l.toNat)).length = u.toNat - l.toNat := by simp; omega
            have hgg := GRep.sl (w := w) (if cap = l.toNat then ad else ad.map (·.add (l.toNat * ei.size))) (cap - l.toNat) e ((els.drop l.toNat).take (u.toNat - l.toNat)) ((xs.drop l.toNat).take (u.toNat - l.toNat)) ((Fs.drop l.toNat).take (u.toNat - l.toNat))
              (by have := hs.hv; simp; omega) (by have := hs.hF; simp; omega) hs.he (fun y hy => hs.nc y (List.mem_of_mem_drop (List.mem_of_mem_take hy))) (by rw [hlen]; have := hs.le; omega) (by have := hs.max; omega) (fun e3 => by
                split at e3
                · have := hs.nil e3; omega
                · have : ad = none := by cases ad <;> simp_all
                  have := hs.nil this; omega) (fun p e3 hc0 => by
                split at e3
                · omega
                · cases ad with
                  | none => simp at e3
                  | some q =>
                    simp at e3
                    subst e3
                    have := hs.ad q rfl (by have := hs.le; omega)
                    have hblk : (q.add (l.toNat * ei.size)).block = q.block := by unfold Addr.add; split <;> rfl
                    have hspt : (q.add (l.toNat * ei.size)).spot = none := by unfold Addr.add; split <;> simp_all
                    exact ⟨hspt, by rw [hblk]; exact this.2⟩)
              (fun k hk => by
                have hk' : k < u.toNat - l.toNat ∧ l.toNat + k < els.length := by simp at hk; omega
                have hcap : ¬ cap = l.toNat := by have := hs.le; omega
                have hge : ((els.drop l.toNat).take (u.toNat - l.toNat))[k]'hk = els[l.toNat + k]'hk'.2 := by simp
                rw [hge, if_neg hcap]
                refine ⟨(hs.hc _ hk'.2).1, (hs.hc _ hk'.2).2.1, fun j hj => ?_⟩
                have h5 := (hs.hc _ hk'.2).2.2 j hj
                cases ad with
                | none => have := hs.nil rfl; have := hs.le; omega
                | some q =>
                  have hq := (hs.ad q rfl (by have := hs.le; have := hs.hv; omega)).1
                  have e5 : sAt (Option.map (fun x => x.add (l.toNat * ei.size)) (some q)) (k * e + j) = sAt (some q) ((l.toNat + k) * e + j) := by
                    have h6 : (l.toNat + k) * e + j = l.toNat * ei.size + (k * e + j) := by rw [← he, Nat.add_mul]; omega
                    rw [h6]
                    exact add_add q hq _ _
                  rw [e5]; exact h5)
              (fun k hk => by
                have hk' : k < u.toNat - l.toNat ∧ l.toNat + k < xs.length := by simp at hk; omega
                simp only [List.getElem_take, List.getElem_drop]
                exact hs.h _ hk'.2)
            rw [hlen] at hgg
            refine .g _ _ _ hgg fun c hc => hd c ?_
            rw [hF]
            rcases List.mem_append.1 hc with h7 | h7
            · refine List.mem_append.2 (.inl ?_)
              obtain ⟨p, hp, hc0, rfl⟩ := own_inv h7
              rw [if_neg (by omega)] at hp
              cases ad with
              | none => simp at hp
              | some q =>
                have hblk : (q.add (l.toNat * ei.size)).block = q.block := by unfold Addr.add; split <;> rfl
                simp only [Option.map_some, Option.some.injEq] at hp
                rw [← hp, hblk]
                exact mem_own rfl (by omega)
            · exact List.mem_append.2 (.inr ((sub_flat ((List.take_sublist _ _).trans (List.drop_sublist _ _))).subset h7))
          · cases hx
        · cases hx
      · cases hx
    · rename_i e e1
      rw [e1] at h1
      split at hx
      · rename_i l u b1 b2
        split at hx
        · rename_i hb
          obtain ⟨rfl, rfl⟩ := hb
          simp only [Option.some.injEq, Prod.mk.injEq] at hx
          obtain ⟨rfl, rfl⟩ := hx
          obtain ⟨hv, he⟩ := h1.nils_inv
          exact fin _ _ _ _ _ hv (Nat.le_refl _) b1 b2 (by simp) _ (.nils e he)
        · cases hx
      · cases hx
    · cases hx
  · cases hx

end
end Go.Proofs.Ytdkjeodenbffnaa
