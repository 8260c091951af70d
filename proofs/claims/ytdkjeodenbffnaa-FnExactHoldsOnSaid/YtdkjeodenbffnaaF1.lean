/- Abstract states as lists: lookups, constants, parts of lists; the judgements of a walk. Over any program; no conditions. -/
import Derived.Test.YtdkjeodenbffnaaA27
namespace Go.Proofs.Ytdkjeodenbffnaa
open Go.RowKit
open Shp

def lookS : List (Nat × PV) → Nat → PV
  | [], _ => .undef
  | (d, v) :: sl, t => if t = d then v else lookS sl t
def lookH : List (Nat × Block) → Nat → Block
  | [], _ => .free
  | (d, b) :: hl, j => if j = d then b else lookH hl j

/-- A state, by lists. -/
def mkX (n : Nat) (sl : List (Nat × PV)) (hl : List (Nat × Block)) (nx : Nat) : AState := ⟨n, lookS sl, lookH hl, nx⟩

structure SL (sl : List (Nat × PV)) (t : Nat) (v : PV) : Prop where
  e : lookS sl t = v
structure HL (hl : List (Nat × Block)) (j : Nat) (b : Block) : Prop where
  e : lookH hl j = b
structure EV (sl : List (Nat × PV)) (tab : Tab) (ty : TypeId) (x : Operand) (v : PV) : Prop where
  e : ∀ n hl nx, (mkX n sl hl nx).ev tab ty x = v
/-- literals differ -/
def NE (a b : Nat) : Prop := Nat.beq a b = false
theorem NE.mk {a b : Nat} (h : Nat.beq a b = false) : NE a b := h
theorem NE.e {a b : Nat} (h : NE a b) : Nat.beq a b = false := h
/-- a fact that computing shows -/
def RF (p : Prop) : Prop := p
theorem RF.mk {p : Prop} (h : p) : RF p := h
theorem RF.e {p : Prop} (h : RF p) : p := h
/-- a fact on numbers -/
def NU (p : Prop) : Prop := p
theorem NU.mk {p : Prop} (h : p) : NU p := h
theorem NU.e {p : Prop} (h : NU p) : p := h

section
variable {sl : List (Nat × PV)} {hl : List (Nat × Block)} {t d j n nx : Nat} {v u : PV} {B B' : Block}

theorem ne_of {a b : Nat} (h : NE a b) : a ≠ b := by intro e; subst e; have := h.e; simp at this

theorem SL_same (sl : List (Nat × PV)) (t : Nat) (v : PV) : SL ((t, v) :: sl) t v := ⟨by simp [lookS]⟩
theorem SL_ne (h : NE t d) (h2 : SL sl t u) : SL ((d, v) :: sl) t u := ⟨by simp [lookS, ne_of h, h2.e]⟩
theorem HL_same (hl : List (Nat × Block)) (j : Nat) (b : Block) : HL ((j, b) :: hl) j b := ⟨by simp [lookH]⟩
theorem HL_ne (h : NE j d) (h2 : HL hl j B) : HL ((d, B') :: hl) j B := ⟨by simp [lookH, ne_of h, h2.e]⟩
theorem HL_nil (j : Nat) : HL [] j .free := ⟨rfl⟩

theorem mkX_slots : (mkX n sl hl nx).slots t = lookS sl t := rfl
theorem mkX_heap : (mkX n sl hl nx).heap j = lookH hl j := rfl
theorem mkX_nx : (mkX n sl hl nx).nx = nx := rfl
theorem mkX_n : (mkX n sl hl nx).n = n := rfl

theorem put_X (v : PV) : (mkX n sl hl nx).put (some d) v = mkX n ((d, v) :: sl) hl nx :=
  AState.ext' rfl (fun t => by simp only [put_slots, mkX_slots, lookS]) (fun _ => rfl) rfl
theorem put_X0 (v : PV) : (mkX n sl hl nx).put none v = mkX n sl hl nx := rfl
theorem writes_X (id : Nat) (b : Block) : (mkX n sl hl nx).writes [(id, b)] = mkX n sl ((id, b) :: hl) nx :=
  AState.ext' rfl (fun _ => rfl) (fun j => by simp only [writes_heap, mkX_heap, lookH]) rfl

/-- Writes, one after the other. -/
def pushW : List (Nat × Block) → List (Nat × Block) → List (Nat × Block)
  | [], hl => hl
  | w :: ws, hl => pushW ws (w :: hl)
theorem writes_XL : ∀ (ws : List (Nat × Block)) (hl : List (Nat × Block)), (mkX n sl hl nx).writes ws = mkX n sl (pushW ws hl) nx
  | [], hl => rfl
  | (id, b) :: ws, hl => by
    rw [AState.writes_cons]
    have : (mkX n sl hl nx).write id b = mkX n sl ((id, b) :: hl) nx := writes_X id b
    rw [this, writes_XL ws]; rfl
/-- The slots' list behind an operation. -/
def putL (d : Option Nat) (v : PV) (sl : List (Nat × PV)) : List (Nat × PV) := match d with | some d => (d, v) :: sl | none => sl
theorem put_XL (d : Option Nat) (v : PV) : (mkX n sl hl nx).put d v = mkX n (putL d v sl) hl nx := by cases d; exact put_X0 v; exact put_X v
theorem pushW_app : ∀ (ws vs hl : List (Nat × Block)), pushW (ws ++ vs) hl = pushW vs (pushW ws hl)
  | [], _, _ => rfl
  | w :: ws, vs, hl => pushW_app ws vs (w :: hl)
def deadL : List Nat → List (Nat × Block) → List (Nat × Block)
  | [], hl => hl
  | k :: ks, hl => deadL ks ((k, .dead) :: hl)
theorem pushW_kills : ∀ (ks : List Nat) (hl : List (Nat × Block)), pushW (kills ks) hl = deadL ks hl
  | [], _ => rfl
  | k :: ks, hl => pushW_kills ks ((k, .dead) :: hl)
theorem lookH_dead : ∀ (ks : List Nat) (hl : List (Nat × Block)), lookH (deadL ks hl) = killL (lookH hl) ks
  | [], _ => rfl
  | k :: ks, hl => by
    rw [deadL, lookH_dead ks]
    show killL _ ks = killL (upd (lookH hl) k .dead) ks
    congr 1

/-! operands -/
theorem EV_tmp {tab : Tab} {ty : TypeId} (h : SL sl t u) : EV sl tab ty (.tmp t) u := ⟨fun _ _ _ => h.e⟩
theorem EV_int (sl : List (Nat × PV)) (tab : Tab) (ty : TypeId) (k : IntKind) (n : Int) : EV sl tab ty (.const (.int k n)) (.g (.int k n)) := ⟨fun _ _ _ => rfl⟩
theorem EV_bool (sl : List (Nat × PV)) (tab : Tab) (ty : TypeId) (b : Bool) : EV sl tab ty (.const (.bool b)) (.g (.bool b)) := ⟨fun _ _ _ => rfl⟩
theorem EV_str (sl : List (Nat × PV)) (tab : Tab) (ty : TypeId) (s : ByteArray) : EV sl tab ty (.const (.string s)) (.g (.str s)) := ⟨fun _ _ _ => rfl⟩
theorem EV_nilp (sl : List (Nat × PV)) (tab : Tab) (ty : TypeId) : EV sl tab ty (.const (.pointer none)) (.g .nilp) := ⟨fun _ _ _ => rfl⟩
theorem EV_func (sl : List (Nat × PV)) (tab : Tab) (ty : TypeId) (f : FuncId) : EV sl tab ty (.func f) (.fn f []) := ⟨fun _ _ _ => rfl⟩
theorem EV_nil {tab : Tab} {ty : TypeId} {E e : Nat} (h1 : RF (elemTy tab ty = some (E, e + 1))) : EV sl tab ty (.const (.slice none 0 0)) (.nils (e + 1)) := ⟨fun n hl nx => by
  have h := h1.e
  unfold elemTy at h
  simp only [AState.ev, cst]
  split at h
  · cases h
  · rename_i ti e1
    split at h
    · rename_i E' e2
      split at h
      · rename_i ei e3
        simp only [Option.some.injEq, Prod.mk.injEq] at h
        obtain ⟨rfl, h6⟩ := h
        simp only [e1, e2, e3, h6]
        rw [if_pos (by omega)]
      · cases h
    · cases h⟩

/-! live slots -/
structure Sel (sl : List (Nat × PV)) (L : List Nat) (sl' : List (Nat × PV)) : Prop where
  e : ∀ t, lookS sl' t = .undef ∨ lookS sl' t = lookS sl t
theorem Sel_nil (sl : List (Nat × PV)) : Sel sl [] [] := ⟨fun _ => .inl rfl⟩
theorem Sel_cons {L : List Nat} {sl' : List (Nat × PV)} (h : SL sl t v) (h2 : Sel sl L sl') : Sel sl (t :: L) ((t, v) :: sl') := ⟨fun s => by
  by_cases e : s = t
  · subst e; right; simp [lookS, h.e]
  · simpa [lookS, e] using h2.e s⟩

/-! parts of lists -/
structure Sub {α : Type} (cs : List α) (off n : Nat) (cs' : List α) : Prop where
  e : (cs.drop off).take n = cs'
  l : off + n ≤ cs.length
theorem Sub_nil {α : Type} (cs : List α) : Sub cs 0 0 [] := ⟨by simp, by simp⟩
theorem Sub_take {α : Type} {c : α} {cs cs' : List α} {n : Nat} (h : Sub cs 0 n cs') : Sub (c :: cs) 0 (n + 1) (c :: cs') := ⟨by simpa using h.e, by have := h.l; simp; omega⟩
theorem Sub_drop {α : Type} {c : α} {cs cs' : List α} {off n : Nat} (h : Sub cs off n cs') : Sub (c :: cs) (off + 1) n cs' := ⟨by simpa using h.e, by have := h.l; simp; omega⟩
structure Idx {α : Type} (cs : List α) (k : Nat) (c : α) : Prop where
  e : cs[k]? = some c
theorem Idx_zero {α : Type} (c : α) (cs : List α) : Idx (c :: cs) 0 c := ⟨rfl⟩
theorem Idx_succ {α : Type} {c d : α} {cs : List α} {k : Nat} (h : Idx cs k c) : Idx (d :: cs) (k + 1) c := ⟨by simpa using h.e⟩
structure Dr {α : Type} (cs : List α) (k : Nat) (cs' : List α) : Prop where
  e : cs.drop k = cs'
theorem Dr_zero {α : Type} (cs : List α) : Dr cs 0 cs := ⟨rfl⟩
theorem Dr_succ {α : Type} {d : α} {cs cs' : List α} {k : Nat} (h : Dr cs k cs') : Dr (d :: cs) (k + 1) cs' := ⟨by simpa using h.e⟩
structure SetL {α : Type} (cs : List α) (off : Nat) (ps cs' : List α) : Prop where
  e : setL cs off ps = cs'
  l : off + ps.length ≤ cs.length
theorem SetL_nil {α : Type} (cs : List α) : SetL cs 0 [] cs := ⟨by simp [setL], by simp⟩
theorem SetL_put {α : Type} {c p : α} {cs ps cs' : List α} (h : SetL cs 0 ps cs') : SetL (c :: cs) 0 (p :: ps) (p :: cs') := ⟨by have := h.e; simpa [setL] using this, by have := h.l; simp; omega⟩
theorem SetL_skip {α : Type} {c : α} {cs ps cs' : List α} {off : Nat} (h : SetL cs off ps cs') : SetL (c :: cs) (off + 1) ps (c :: cs') := ⟨by have := h.e; simp only [setL, List.take_succ_cons, List.cons_append] at *; rw [show off + 1 + ps.length = (off + ps.length) + 1 by omega, List.drop_succ_cons, this], by have := h.l; simp; omega⟩

/-! cells of values -/
structure MapG (gs : List GV) (ps : List PV) : Prop where
  e : gs.map PV.g = ps
theorem MapG_nil : MapG [] [] := ⟨rfl⟩
theorem MapG_cons {x : GV} {gs : List GV} {ps : List PV} (h : MapG gs ps) : MapG (x :: gs) (.g x :: ps) := ⟨by simp [h.e]⟩
structure CP (p : PV) (cs : List PV) : Prop where
  e : p.cells = cs
  v : p.val = true
theorem CP_agg (cs : List PV) : CP (.agg cs) cs := ⟨rfl, rfl⟩
theorem CP_own (id lo len : Nat) : CP (.own id lo len) [.own id lo len] := ⟨rfl, rfl⟩
theorem CP_nils (e : Nat) : CP (.nils e) [.nils e] := ⟨rfl, rfl⟩
theorem CP_ptr (id o : Nat) : CP (.ptr id o) [.ptr id o] := ⟨rfl, rfl⟩
theorem CP_fn (f : FuncId) (cs : List PV) : CP (.fn f cs) [.fn f cs] := ⟨rfl, rfl⟩
theorem CP_int (k : IntKind) (n : Int) : CP (.g (.int k n)) [.g (.int k n)] := ⟨rfl, rfl⟩
theorem CP_bool (b : Bool) : CP (.g (.bool b)) [.g (.bool b)] := ⟨rfl, rfl⟩
theorem CP_str (s : ByteArray) : CP (.g (.str s)) [.g (.str s)] := ⟨rfl, rfl⟩
theorem CP_nilp : CP (.g .nilp) [.g .nilp] := ⟨rfl, rfl⟩
theorem CP_sl (e : Nat) (xs : List GV) : CP (.g (.sl e xs)) [.g (.sl e xs)] := ⟨rfl, rfl⟩
theorem CP_gbox (cs : List GV) : CP (.g (.box cs)) [.g (.box cs)] := ⟨rfl, rfl⟩
theorem CP_gfn (f : FuncId) (cs : List GV) : CP (.g (.fn f cs)) [.g (.fn f cs)] := ⟨rfl, rfl⟩
theorem CP_gagg {gs : List GV} {ps : List PV} (h : MapG gs ps) : CP (.g (.agg gs)) ps := ⟨h.e, rfl⟩
structure CG (x : GV) (cs : List GV) : Prop where
  e : x.cells = cs
  t : x.isTup = false
theorem CG_int (k : IntKind) (n : Int) : CG (.int k n) [.int k n] := ⟨rfl, rfl⟩
theorem CG_bool (b : Bool) : CG (.bool b) [.bool b] := ⟨rfl, rfl⟩
theorem CG_str (s : ByteArray) : CG (.str s) [.str s] := ⟨rfl, rfl⟩
theorem CG_nilp : CG .nilp [.nilp] := ⟨rfl, rfl⟩
theorem CG_sl (e : Nat) (xs : List GV) : CG (.sl e xs) [.sl e xs] := ⟨rfl, rfl⟩
theorem CG_box (cs : List GV) : CG (.box cs) [.box cs] := ⟨rfl, rfl⟩
theorem CG_agg (cs : List GV) : CG (.agg cs) cs := ⟨rfl, rfl⟩

/-! lists of elements: lengths, parts, joins, items -/
structure LEN (xs : List GV) (n : Nat) : Prop where
  e : xs.length = n
theorem LEN_map {α : Type} (f : α → GV) (ys : List α) : LEN (ys.map f) ys.length := ⟨by simp⟩
theorem LEN_nil : LEN [] 0 := ⟨rfl⟩
theorem LEN_1 (x : GV) : LEN [x] 1 := ⟨rfl⟩
theorem LEN_2 (x y : GV) : LEN [x, y] 2 := ⟨rfl⟩
theorem LEN_any (xs : List GV) : LEN xs xs.length := ⟨rfl⟩
/-- a part of a list -/
structure CUT' (xs : List GV) (lo len : Nat) (ys : List GV) : Prop where
  e : (xs.drop lo).take len = ys
  l : lo + len ≤ xs.length
def CUT (xs : List GV) (lo len : Nat) (ys : List GV) : Prop := CUT' xs lo len ys
theorem CUT.mk {xs : List GV} {lo len : Nat} {ys : List GV} (h : CUT' xs lo len ys) : CUT xs lo len ys := h
theorem CUT.e {xs : List GV} {lo len : Nat} {ys : List GV} (h : CUT xs lo len ys) : (xs.drop lo).take len = ys := @CUT'.e _ _ _ _ h
theorem CUT.l {xs : List GV} {lo len : Nat} {ys : List GV} (h : CUT xs lo len ys) : lo + len ≤ xs.length := @CUT'.l _ _ _ _ h
theorem CUT_all {xs : List GV} {lo len n : Nat} (hn : LEN xs n) (h0 : lo = 0) (hl : len = n) : CUT xs lo len xs := CUT.mk ⟨by subst h0; subst hl; rw [← hn.e]; simp, by rw [hn.e]; omega⟩
theorem CUT_map {α : Type} {f : α → GV} {ys : List α} {lo len : Nat} (hl : NU (lo + len ≤ ys.length)) : CUT (ys.map f) lo len (((ys.drop lo).take len).map f) := CUT.mk ⟨by rw [List.map_take, List.map_drop], by simpa using hl.e⟩
theorem CUT_mapT {α : Type} {f : α → GV} {ys : List α} {lo len : Nat} (h0 : lo = 0) (hl : NU (len ≤ ys.length)) : CUT (ys.map f) lo len ((ys.take len).map f) := CUT.mk ⟨by subst h0; rw [List.map_take]; simp, by have := hl.e; simp; omega⟩
theorem CUT_mapD {α : Type} {f : α → GV} {ys : List α} {lo len : Nat} (hl : lo + len = ys.length) : CUT (ys.map f) lo len ((ys.drop lo).map f) := CUT.mk ⟨by rw [List.map_drop, List.take_of_length_le (by simp; omega)], by simp; omega⟩
theorem CUT_any {xs : List GV} {lo len : Nat} (hl : NU (lo + len ≤ xs.length)) : CUT xs lo len ((xs.drop lo).take len) := CUT.mk ⟨rfl, hl.e⟩
structure CAT (xs ys zs : List GV) : Prop where
  e : xs ++ ys = zs
theorem CAT_nil (ys : List GV) : CAT [] ys ys := ⟨rfl⟩
theorem CAT_map {α : Type} (f : α → GV) (xs ys : List α) : CAT (xs.map f) (ys.map f) ((xs ++ ys).map f) := ⟨by simp⟩
theorem CAT_one {α : Type} (f : α → GV) (xs : List α) (y : α) : CAT (xs.map f) [f y] ((xs ++ [y]).map f) := ⟨by simp⟩
theorem CAT_end {α : Type} (f : α → GV) (xs : List α) : CAT (xs.map f) [] (xs.map f) := ⟨by simp⟩
theorem CAT_cons {α : Type} (f : α → GV) (x : α) (ys : List α) : CAT [f x] (ys.map f) ((x :: ys).map f) := ⟨by simp⟩
theorem CAT_any (xs ys : List GV) : CAT xs ys (xs ++ ys) := ⟨rfl⟩
/-- an item of a list -/
structure ITM (xs : List GV) (n : Int) (x : GV) : Prop where
  e : xs[n.toNat]? = some x
  l : 0 ≤ n ∧ n < (xs.length : Int)
theorem ITM_mapN {α : Type} [Inhabited α] {f : α → GV} {ys : List α} {n : Nat} (h : NU (n < ys.length)) : ITM (ys.map f) (n : Int) (f (nth ys n)) := ⟨ix_mapN h.e, by have := h.e; simp; omega⟩
theorem ITM_mapL {α : Type} [Inhabited α] {f : α → GV} {ys : List α} (n : Nat) (h : NU (n < ys.length)) : ITM (ys.map f) (OfNat.ofNat n) (f (nth ys n)) := ⟨ix_mapN h.e, by have := h.e; constructor; exact Int.natCast_nonneg n; simp; exact Int.ofNat_lt.2 this⟩
theorem ITM_mapS {α : Type} [Inhabited α] {f : α → GV} {ys : List α} {n : Nat} (h : NU (n + 1 < ys.length)) : ITM (ys.map f) ((n : Int) + 1) (f (nth ys (n + 1))) := ⟨ix_mapN h.e, by have := h.e; simp; omega⟩
theorem ITM_mapP {α : Type} [Inhabited α] {f : α → GV} {ys : List α} {n : Nat} (h : NU (1 ≤ n ∧ n ≤ ys.length)) : ITM (ys.map f) ((n : Int) - 1) (f (nth ys (n - 1))) := by
  have h1 := h.e
  have e1 : (n : Int) - 1 = ((n - 1 : Nat) : Int) := by omega
  rw [e1]
  exact ITM_mapN (NU.mk (by omega))
theorem ITM_map {α : Type} [Inhabited α] {f : α → GV} {ys : List α} {n : Int} (h : NU (0 ≤ n ∧ n < (ys.length : Int))) : ITM (ys.map f) n (f (nth ys n.toNat)) := ⟨ix_map h.e, by have := h.e; simpa using this⟩
theorem ITM_lit {xs : List GV} {n : Nat} {x : GV} (h : RF (xs[n]? = some x)) : ITM xs (OfNat.ofNat n) x := ⟨h.e, by
  have := (List.getElem?_eq_some_iff.1 h.e).1
  constructor
  · exact Int.natCast_nonneg n
  · exact Int.ofNat_lt.2 this⟩
theorem ITM_litN {xs : List GV} {n : Nat} {x : GV} (h : RF (xs[n]? = some x)) : ITM xs (n : Int) x := ⟨by simpa using h.e, by
  have := (List.getElem?_eq_some_iff.1 h.e).1
  omega⟩
/-- an item put anew -/
structure PUT (xs : List GV) (k : Nat) (x : GV) (ys : List GV) : Prop where
  e : xs.set k x = ys
theorem PUT_map {α : Type} (f : α → GV) (ys : List α) (k : Nat) (y : α) : PUT (ys.map f) k (f y) ((ys.set k y).map f) := ⟨by rw [List.map_set]⟩
theorem PUT_any (xs : List GV) (k : Nat) (x : GV) : PUT xs k x (xs.set k x) := ⟨rfl⟩
structure FLT (xs : List GV) : Prop where
  e : xs.all GV.flat = true
theorem FLT_ints (k : IntKind) (ys : List Int) : FLT (ys.map (GV.int k)) := ⟨flat_ints k ys⟩
theorem FLT_bools (ys : List Bool) : FLT (ys.map GV.bool) := ⟨flat_map fun _ => rfl⟩
theorem FLT_strs (ys : List ByteArray) : FLT (ys.map GV.str) := ⟨flat_map fun _ => rfl⟩
theorem FLT_nil : FLT [] := ⟨rfl⟩
theorem FLT_consi {k : IntKind} {n : Int} {xs : List GV} (h : FLT xs) : FLT (.int k n :: xs) := ⟨by have := h.e; simpa [GV.flat, GV.atom] using this⟩
end

end Go.Proofs.Ytdkjeodenbffnaa
