/- Abstract states: the rules of a walk, one for each kind of operation. Over any program; no conditions. -/
import Derived.Test.YtdkjeodenbffnaaA23
namespace Go.Proofs.Ytdkjeodenbffnaa
open Go.RowKit
open Shp

section
variable {S : AState} {t d j id : Nat} {v u : PV} {B B' : Block}

/-! slots and blocks of a state -/
theorem lk_same (S : AState) (d : Nat) (v : PV) : (S.put (some d) v).slots d = v := by simp [put_slots]
theorem lk_ne (h : Nat.beq t d = false) (h2 : S.slots t = u) : (S.put (some d) v).slots t = u := by
  rw [put_slots, if_neg (by intro e; subst e; simp at h)]; exact h2
theorem lk_w {ws : List (Nat × Block)} (h2 : S.slots t = u) : (S.writes ws).slots t = u := h2
theorem lk_on {n : Nat} (h2 : S.slots t = u) : (S.on n).slots t = u := h2
theorem lk_mk_same (n t : Nat) (v : PV) (sl : List (Nat × PV)) (bs : List Block) : (mkS n ((t, v) :: sl) bs).slots t = v := by simp [mk_slots]
theorem lk_mk_ne {n : Nat} {sl : List (Nat × PV)} {bs : List Block} (h : Nat.beq d t = false) (h2 : (mkS n sl bs).slots t = u) : (mkS n ((d, v) :: sl) bs).slots t = u := by
  have : (d == t) = false := by
    have : d ≠ t := by intro e; subst e; simp at h
    simpa using this
  simpa [mk_slots, List.find?_cons, this] using h2
theorem lk_start {n : Nat} {gs : List GV} {x : GV} (h : gs[t]? = some x) : (startA n gs).slots t = .g x := by simp [start_slots, h]
theorem lk_start0 {n : Nat} {gs : List GV} (h : gs[t]? = none) : (startA n gs).slots t = .none_ := by simp [start_slots, h]
theorem lh_put (h2 : S.heap j = B) : (S.put (some d) v).heap j = B := h2
theorem lh_on {n : Nat} (h2 : S.heap j = B) : (S.on n).heap j = B := h2
theorem lh_same (S : AState) (id : Nat) (b : Block) : (S.writes [(id, b)]).heap id = b := by simp [writes_heap]
theorem lh_ne (h : Nat.beq j id = false) (h2 : S.heap j = B) : (S.writes [(id, B')]).heap j = B := by
  rw [writes_heap, if_neg (by intro e; subst e; simp at h)]; exact h2
theorem lh_start (n : Nat) (gs : List GV) (j : Nat) : (startA n gs).heap j = .free := rfl
theorem lh_mk {n : Nat} {sl : List (Nat × PV)} {bs : List Block} (h : bs[j]? = some B) : (mkS n sl bs).heap j = B := by simp [mk_heap, h]
theorem lh_mk0 {n : Nat} {sl : List (Nat × PV)} {bs : List Block} (h : bs[j]? = none) : (mkS n sl bs).heap j = .free := by simp [mk_heap, h]

theorem lh_wnil (h : S.heap j = B) : (S.writes []).heap j = B := h
theorem lh_wapp {ws vs : List (Nat × Block)} (h : ((S.writes ws).writes vs).heap j = B) : (S.writes (ws ++ vs)).heap j = B := by rw [AState.writes_app]; exact h
theorem lh_wcons {b : Block} {y : Nat × Block} {ws : List (Nat × Block)} (h : ((S.writes [(id, b)]).writes (y :: ws)).heap j = B) : (S.writes ((id, b) :: y :: ws)).heap j = B := h
theorem lh_knil (h : S.heap j = B) : (S.writes (kills [])).heap j = B := h
theorem lh_kcons {k : Nat} {ks : List Nat} (h : ((S.writes [(k, .dead)]).writes (kills ks)).heap j = B) : (S.writes (kills (k :: ks))).heap j = B := h

/-! operands -/
theorem ev_tmp {tab : Tab} {ty : TypeId} (h : S.slots t = u) : S.ev tab ty (.tmp t) = u := h
theorem ev_int (S : AState) (tab : Tab) (ty : TypeId) (k : IntKind) (n : Int) : S.ev tab ty (.const (.int k n)) = .g (.int k n) := rfl
theorem ev_bool (S : AState) (tab : Tab) (ty : TypeId) (b : Bool) : S.ev tab ty (.const (.bool b)) = .g (.bool b) := rfl
theorem ev_str (S : AState) (tab : Tab) (ty : TypeId) (s : ByteArray) : S.ev tab ty (.const (.string s)) = .g (.str s) := rfl
theorem ev_nilp (S : AState) (tab : Tab) (ty : TypeId) : S.ev tab ty (.const (.pointer none)) = .g .nilp := rfl
theorem ev_func (S : AState) (tab : Tab) (ty : TypeId) (f : FuncId) : S.ev tab ty (.func f) = .fn f [] := rfl
theorem ev_nil {tab : Tab} {ty : TypeId} {ti ei : TI} {E : TypeId} (h1 : tab ty = some ti) (h2 : ti.kind = .sl E) (h3 : tab E = some ei) (h4 : Nat.ble 1 ei.size = true) : S.ev tab ty (.const (.slice none 0 0)) = .nils ei.size := by
  have h5 : 0 < ei.size := by have := Nat.le_of_ble_eq_true h4; omega
  simp [AState.ev, cst, h1, h2, h3, h5]
end

/-- What a region's walk needs of an operation: in the text's order, or in any. -/
structure Mode where
  any : Bool

/-- The walk, in one or the other mode. -/
structure AX (dr : Bool) (P : Program) (tab : Tab) (ops : Array Oper) (i : Nat) (os : List Oper) (S : AState) (acc : List (List Nat × List Nat)) (K : AState → List (List Nat × List Nat) → Prop) : Prop where
  run : if dr then AD P tab ops i os S acc K else AW P tab ops i os S (fun S' => K S' [])

section
variable {dr : Bool} {P : Program} {tab : Tab} {ops : Array Oper} {i : Nat} {os : List Oper} {S : AState} {acc : List (List Nat × List Nat)} {K : AState → List (List Nat × List Nat) → Prop}

theorem AX_nilW (h : K S []) : AX false P tab ops i [] S acc K := ⟨h⟩
theorem AX_nilD (h : K S acc) : AX true P tab ops i [] S acc K := ⟨h⟩

theorem AX_step {o : Oper} {pv : PV} {ws : List (Nat × Block)} (h1 : wantA ops o S = some true) (h2 : S.has o.dst = true) (h3 : StepsTo P tab (S.nx + 8 * i) o S pv ws) (h4 : AX dr P tab ops (i + 1) os ((S.writes ws).put o.dst pv) (acc ++ [(tch tab (S.nx + 8 * i) o S, ws.map (·.1))]) K) : AX dr P tab ops i (o :: os) S acc K := by
  cases dr
  · exact ⟨⟨true, h1, h2, fun _ => ⟨pv, ws, .inl h3, h4.run⟩, fun h => (by cases h)⟩⟩
  · exact ⟨⟨true, h1, h2, fun _ => ⟨pv, ws, h3, h4.run⟩, fun h => (by cases h)⟩⟩

theorem AX_mark {o : Oper} {pv : PV} {ws : List (Nat × Block)} (h1 : wantA ops o S = some true) (h2 : S.has o.dst = true) (h3 : MarkTo P tab o S pv ws) (h4 : AX false P tab ops (i + 1) os ((S.writes ws).put o.dst pv) (acc ++ [(tch tab (S.nx + 8 * i) o S, ws.map (·.1))]) K) : AX false P tab ops i (o :: os) S acc K :=
  ⟨⟨true, h1, h2, fun _ => ⟨pv, ws, .inr h3, h4.run⟩, fun h => (by cases h)⟩⟩

theorem AX_skip {o : Oper} (h1 : wantA ops o S = some false) (h2 : S.has o.dst = true) (h4 : AX dr P tab ops (i + 1) os (S.put o.dst .none_) (acc ++ [([], [])]) K) : AX dr P tab ops i (o :: os) S acc K := by
  cases dr
  · exact ⟨⟨false, h1, h2, fun h => (by cases h), fun _ => h4.run⟩⟩
  · exact ⟨⟨false, h1, h2, fun h => (by cases h), fun _ => h4.run⟩⟩

variable {d : Option Nat} {ty : TypeId} {pos : String} {af : Array Edge}

/-- In the text's order nothing is kept. -/
theorem AX_drop {x : List Nat × List Nat} (h : AX false P tab ops i os S [] K) : AX false P tab ops i os S (acc ++ [x]) K := ⟨h.run⟩

/-- An operation without a guard, by its value. -/
theorem AX_op {op : Op} {pv : PV} {ws : List (Nat × Block)} (h2 : S.has d = true) (h3 : aOp tab (S.nx + 8 * i) ⟨d, op, ty, pos, af, none⟩ S = some (pv, ws)) (h4 : AX dr P tab ops (i + 1) os ((S.writes ws).put d pv) (acc ++ [(tch tab (S.nx + 8 * i) ⟨d, op, ty, pos, af, none⟩ S, ws.map (·.1))]) K) : AX dr P tab ops i (⟨d, op, ty, pos, af, none⟩ :: os) S acc K :=
  AX_step rfl h2 (.inl h3) h4

/-- A guard that holds, or does not. -/
theorem AX_guard {op : Op} {g : Nat} {b c : Bool} {t : Nat} (hd : (ops[g]?).bind (·.dst) = some t) (hs : S.slots t = .g (.bool c)) (hcb : (c == b) = true) (h : AX dr P tab ops i (⟨d, op, ty, pos, af, none⟩ :: os) S acc K) : AX dr P tab ops i (⟨d, op, ty, pos, af, some (g, b)⟩ :: os) S acc K := by
  have hw : wantA ops ⟨d, op, ty, pos, af, some (g, b)⟩ S = some true := by simp only [wantA, hd, hs, hcb]
  cases dr
  · obtain ⟨⟨b', e1, h2, h3, _⟩⟩ := h
    simp only [wantA, Option.some.injEq] at e1
    exact ⟨⟨true, hw, h2, fun _ => h3 e1.symm, fun h => (by cases h)⟩⟩
  · obtain ⟨⟨b', e1, h2, h3, _⟩⟩ := h
    simp only [wantA, Option.some.injEq] at e1
    exact ⟨⟨true, hw, h2, fun _ => h3 e1.symm, fun h => (by cases h)⟩⟩

theorem AX_noguard {op : Op} {g : Nat} {b c : Bool} {t : Nat} (hd : (ops[g]?).bind (·.dst) = some t) (hs : S.slots t = .g (.bool c)) (hcb : (c == b) = false) (h2 : S.has d = true) (h : AX dr P tab ops (i + 1) os (S.put d .none_) (acc ++ [([], [])]) K) : AX dr P tab ops i (⟨d, op, ty, pos, af, some (g, b)⟩ :: os) S acc K :=
  AX_skip (by simp only [wantA, hd, hs, hcb]) h2 h

theorem AX_nonguard {op : Op} {g : Nat} {b : Bool} {t : Nat} (hd : (ops[g]?).bind (·.dst) = some t) (hs : S.slots t = .none_) (h2 : S.has d = true) (h : AX dr P tab ops (i + 1) os (S.put d .none_) (acc ++ [([], [])]) K) : AX dr P tab ops i (⟨d, op, ty, pos, af, some (g, b)⟩ :: os) S acc K :=
  AX_skip (by simp only [wantA, hd, hs]) h2 h

theorem put_self {t : Nat} {v : PV} (h : S.slots t = v) : S.put (some t) v = S :=
  AState.ext' rfl (fun x => by simp only [put_slots]; split
                               · rename_i e; rw [e, h]
                               · rfl) (fun _ => rfl) rfl

/-- A test that a guard asks: both ways. -/
theorem AX_split {op : Op} {g : Nat} {b c : Bool} {t : Nat} (hd : (ops[g]?).bind (·.dst) = some t) (hs : S.slots t = .g (.bool c)) (h1 : c = true → AX dr P tab ops i (⟨d, op, ty, pos, af, some (g, b)⟩ :: os) (S.put (some t) (.g (.bool true))) acc K) (h2 : c = false → AX dr P tab ops i (⟨d, op, ty, pos, af, some (g, b)⟩ :: os) (S.put (some t) (.g (.bool false))) acc K) :
    AX dr P tab ops i (⟨d, op, ty, pos, af, some (g, b)⟩ :: os) S acc K := by
  cases c
  · have := h2 rfl; rwa [put_self hs] at this
  · have := h1 rfl; rwa [put_self hs] at this

/-! moves -/
theorem AX_move {x : Operand} {v : PV} (h2 : S.has d = true) (hx : S.ev tab ty x = v) (h4 : AX dr P tab ops (i + 1) os (S.put d v) (acc ++ [(tch tab (S.nx + 8 * i) ⟨d, .move x, ty, pos, af, none⟩ S, [])]) K) : AX dr P tab ops i (⟨d, .move x, ty, pos, af, none⟩ :: os) S acc K :=
  AX_op (ws := []) h2 (by simp only [aOp, hx]) h4
theorem AX_assign {x : Operand} {v : PV} (h2 : S.has d = true) (hx : S.ev tab ty x = v) (h4 : AX dr P tab ops (i + 1) os (S.put d v) (acc ++ [(tch tab (S.nx + 8 * i) ⟨d, .assign x, ty, pos, af, none⟩ S, [])]) K) : AX dr P tab ops i (⟨d, .assign x, ty, pos, af, none⟩ :: os) S acc K :=
  AX_op (ws := []) h2 (by simp only [aOp, hx]) h4
theorem AX_pickT {c x y : Operand} {v : PV} (h2 : S.has d = true) (hc : S.ev tab 0 c = .g (.bool true)) (hx : S.ev tab ty x = v) (h4 : AX dr P tab ops (i + 1) os (S.put d v) (acc ++ [(tch tab (S.nx + 8 * i) ⟨d, .pick c x y, ty, pos, af, none⟩ S, [])]) K) : AX dr P tab ops i (⟨d, .pick c x y, ty, pos, af, none⟩ :: os) S acc K :=
  AX_op (ws := []) h2 (by simp only [aOp, hc, hx, aPick, cond_true]) h4
theorem AX_pickF {c x y : Operand} {v : PV} (h2 : S.has d = true) (hc : S.ev tab 0 c = .g (.bool false)) (hx : S.ev tab ty y = v) (h4 : AX dr P tab ops (i + 1) os (S.put d v) (acc ++ [(tch tab (S.nx + 8 * i) ⟨d, .pick c x y, ty, pos, af, none⟩ S, [])]) K) : AX dr P tab ops i (⟨d, .pick c x y, ty, pos, af, none⟩ :: os) S acc K :=
  AX_op (ws := []) h2 (by simp only [aOp, hc, hx, aPick, cond_false]) h4

/-! numbers -/
theorem wr64 {a : Int} (h1 : -9223372036854775808 ≤ a) (h2 : a ≤ 9223372036854775807) : IntKind.i64.wrap a = a := by rw [IntKind.wrap_i64]; omega

theorem AX_add {t t' : TypeId} {x y : Operand} {a b : Int} (h2 : S.has d = true) (hx : S.ev tab 0 x = .g (.int .i64 a)) (hy : S.ev tab 0 y = .g (.int .i64 b)) (hb : -9223372036854775808 ≤ a + b ∧ a + b ≤ 9223372036854775807) (h4 : AX dr P tab ops (i + 1) os (S.put d (.g (.int .i64 (a + b)))) (acc ++ [(tch tab (S.nx + 8 * i) ⟨d, .binOp .add t x y t', ty, pos, af, none⟩ S, [])]) K) : AX dr P tab ops i (⟨d, .binOp .add t x y t', ty, pos, af, none⟩ :: os) S acc K :=
  AX_op (ws := []) h2 (by simp [aOp, hx, hy, aBinF, aBinE, aBin, intOp, wr64 hb.1 hb.2]) h4
theorem AX_sub {t t' : TypeId} {x y : Operand} {a b : Int} (h2 : S.has d = true) (hx : S.ev tab 0 x = .g (.int .i64 a)) (hy : S.ev tab 0 y = .g (.int .i64 b)) (hb : -9223372036854775808 ≤ a - b ∧ a - b ≤ 9223372036854775807) (h4 : AX dr P tab ops (i + 1) os (S.put d (.g (.int .i64 (a - b)))) (acc ++ [(tch tab (S.nx + 8 * i) ⟨d, .binOp .sub t x y t', ty, pos, af, none⟩ S, [])]) K) : AX dr P tab ops i (⟨d, .binOp .sub t x y t', ty, pos, af, none⟩ :: os) S acc K :=
  AX_op (ws := []) h2 (by simp [aOp, hx, hy, aBinF, aBinE, aBin, intOp, wr64 hb.1 hb.2]) h4
theorem AX_mul {t t' : TypeId} {x y : Operand} {a b : Int} (h2 : S.has d = true) (hx : S.ev tab 0 x = .g (.int .i64 a)) (hy : S.ev tab 0 y = .g (.int .i64 b)) (hb : -9223372036854775808 ≤ a * b ∧ a * b ≤ 9223372036854775807) (h4 : AX dr P tab ops (i + 1) os (S.put d (.g (.int .i64 (a * b)))) (acc ++ [(tch tab (S.nx + 8 * i) ⟨d, .binOp .mul t x y t', ty, pos, af, none⟩ S, [])]) K) : AX dr P tab ops i (⟨d, .binOp .mul t x y t', ty, pos, af, none⟩ :: os) S acc K :=
  AX_op (ws := []) h2 (by simp [aOp, hx, hy, aBinF, aBinE, aBin, intOp, wr64 hb.1 hb.2]) h4
theorem AX_quo {t t' : TypeId} {x y : Operand} {a b : Int} (h2 : S.has d = true) (hx : S.ev tab 0 x = .g (.int .i64 a)) (hy : S.ev tab 0 y = .g (.int .i64 b)) (hb : 0 ≤ a ∧ a ≤ 9223372036854775807 ∧ 0 < b) (h4 : AX dr P tab ops (i + 1) os (S.put d (.g (.int .i64 (a / b)))) (acc ++ [(tch tab (S.nx + 8 * i) ⟨d, .binOp .quo t x y t', ty, pos, af, none⟩ S, [])]) K) : AX dr P tab ops i (⟨d, .binOp .quo t x y t', ty, pos, af, none⟩ :: os) S acc K :=
  AX_op (ws := []) h2 (by
    have e1 : a.tdiv b = a / b := Int.tdiv_eq_ediv_of_nonneg hb.1
    have e2 : 0 ≤ a / b := Int.ediv_nonneg hb.1 (by omega)
    have e3 : a / b ≤ a := Int.ediv_le_self b hb.1
    have e4 : ¬ b = 0 := by omega
    simp [aOp, hx, hy, aBinF, aBinE, aBin, intOp, e1, e4, wr64 (show -9223372036854775808 ≤ a / b by omega) (show a / b ≤ 9223372036854775807 by omega)]) h4
theorem AX_rem {t t' : TypeId} {x y : Operand} {a b : Int} (h2 : S.has d = true) (hx : S.ev tab 0 x = .g (.int .i64 a)) (hy : S.ev tab 0 y = .g (.int .i64 b)) (hb : 0 ≤ a ∧ 0 < b) (h4 : AX dr P tab ops (i + 1) os (S.put d (.g (.int .i64 (a % b)))) (acc ++ [(tch tab (S.nx + 8 * i) ⟨d, .binOp .rem t x y t', ty, pos, af, none⟩ S, [])]) K) : AX dr P tab ops i (⟨d, .binOp .rem t x y t', ty, pos, af, none⟩ :: os) S acc K :=
  AX_op (ws := []) h2 (by
    have e1 : a.tmod b = a % b := Int.tmod_eq_emod_of_nonneg hb.1
    have e4 : ¬ b = 0 := by omega
    simp [aOp, hx, hy, aBinF, aBinE, aBin, intOp, e1, e4]) h4
/-- a comparison -/
theorem AX_cmp {op : BinOp} {t t' : TypeId} {x y : Operand} {k : IntKind} {a b : Int} {c : Bool} (h2 : S.has d = true) (hx : S.ev tab 0 x = .g (.int k a)) (hy : S.ev tab 0 y = .g (.int k b)) (ho : op ≠ .shl ∧ op ≠ .shr) (hc : intOp op k a b = some (.bool c)) (h4 : AX dr P tab ops (i + 1) os (S.put d (.g (.bool c))) (acc ++ [(tch tab (S.nx + 8 * i) ⟨d, .binOp op t x y t', ty, pos, af, none⟩ S, [])]) K) : AX dr P tab ops i (⟨d, .binOp op t x y t', ty, pos, af, none⟩ :: os) S acc K :=
  AX_op (ws := []) h2 (by
    simp only [aOp, hx, hy]
    refine aBinF_of (aBinE_of ?_)
    unfold aBin
    split
    · exact absurd rfl ho.1
    · exact absurd rfl ho.2
    · rename_i e1 e2
      cases e1; cases e2
      rw [if_pos rfl, hc]
    · rename_i h _ _; exact absurd rfl (h _ _ _ _ rfl)) h4
theorem AX_not {t : TypeId} {x : Operand} {b : Bool} (h2 : S.has d = true) (hx : S.ev tab 0 x = .g (.bool b)) (h4 : AX dr P tab ops (i + 1) os (S.put d (.g (.bool (!b)))) (acc ++ [(tch tab (S.nx + 8 * i) ⟨d, .unOp .not t x, ty, pos, af, none⟩ S, [])]) K) : AX dr P tab ops i (⟨d, .unOp .not t x, ty, pos, af, none⟩ :: os) S acc K :=
  AX_op (ws := []) h2 (by simp [aOp, hx, aUn]) h4
theorem AX_conv {s t : TypeId} {x : Operand} {si di : TI} {k : IntKind} {a : Int} (h2 : S.has d = true) (hx : S.ev tab 0 x = .g (.int .i64 a)) (h5 : tab s = some si) (h6 : tab t = some di) (h7 : si.kind = .int k) (h8 : di.kind = .int .i64) (hb : -9223372036854775808 ≤ a ∧ a ≤ 9223372036854775807) (h4 : AX dr P tab ops (i + 1) os (S.put d (.g (.int .i64 a))) (acc ++ [(tch tab (S.nx + 8 * i) ⟨d, .convert s t x, ty, pos, af, none⟩ S, [])]) K) : AX dr P tab ops i (⟨d, .convert s t x, ty, pos, af, none⟩ :: os) S acc K :=
  AX_op (ws := []) h2 (by simp [aOp, hx, aConv, h5, h6, h7, h8, wr64 hb.1 hb.2]) h4
end

end Go.Proofs.Ytdkjeodenbffnaa
