/- Abstract states as lists: lookups, constants, parts of lists; the judgements of a walk. Over any program; no conditions. -/
import Derived.Test.YtachnjinfdagjaaDoorKC
set_option linter.unusedSimpArgs false
set_option linter.unusedVariables false
namespace Go.Proofs.YtachnjinfdagjaaDoor
open Go.RowKit
open Shp
def lookS : List (Nat × PV) → Nat → PV
  | [], _ => .undef
  | (d, v) :: sl, t => if t = d then v else lookS sl t
def lookH : List (Nat × Block) → Nat → Block
  | [], _ => .free
  | (d, b) :: hl, j => if j = d then b else lookH hl j
def mkX (n : Nat) (sl : List (Nat × PV)) (hl : List (Nat × Block)) (nx : Nat) : AState := ⟨n, lookS sl, lookH hl, nx⟩
structure SL (sl : List (Nat × PV)) (t : Nat) (v : PV) : Prop where
  e : lookS sl t = v
structure HL (hl : List (Nat × Block)) (j : Nat) (b : Block) : Prop where
  e : lookH hl j = b
structure EV (sl : List (Nat × PV)) (tab : Tab) (ty : TypeId) (x : Operand) (v : PV) : Prop where
  e : ∀ n hl nx, (mkX n sl hl nx).ev tab ty x = v
def NE (a b : Nat) : Prop := Nat.beq a b = false
theorem NE.mk {a b : Nat} (h : Nat.beq a b = false) : NE a b := h
theorem NE.e {a b : Nat} (h : NE a b) : Nat.beq a b = false := h
def RF (p : Prop) : Prop := p
theorem RF.mk {p : Prop} (h : p) : RF p := h
theorem RF.e {p : Prop} (h : RF p) : p := h
def NU (p : Prop) : Prop := p
theorem NU.mk {p : Prop} (h : p) : NU p := h
theorem NU.e {p : Prop} (h : NU p) : p := h
section
variable {sl : List (Nat × PV)} {hl : List (Nat × Block)} {t d j n nx : Nat} {v u : PV} {B B' : Block}
theorem ne_of {a b : Nat} (h : NE a b) : a ≠ b := by intro e; subst e; have := h.e; simp at this
theorem SL_same (sl : List (Nat × PV)) (t : Nat) (v : PV) : SL ((t, v) :: sl) t v := ⟨by simp [lookS]⟩
theorem SL_ne (h : NE t d) (h2 : SL sl t u) : SL ((d, v) :: sl) t u := ⟨by simp [lookS, ne_of h, h2.e]⟩
theorem HL_same (hl : List (Nat × Block)) (j : Nat) (b : Block) : HL ((j, b) :: hl) j b := ⟨by simp [lookH]⟩
theorem HL_ne (h : NE j d) (h2 : HL hl j B) : HL ((d, B') :: hl) j B := ⟨by simp [lookH, ne_of h, h2.e]⟩
theorem HL_nil (j : Nat) : HL [] j .free := ⟨rfl⟩
theorem mkX_slots : (mkX n sl hl nx).slots t = lookS sl t := rfl
theorem mkX_heap : (mkX n sl hl nx).heap j = lookH hl j := rfl
theorem mkX_nx : (mkX n sl hl nx).nx = nx := rfl
theorem mkX_n : (mkX n sl hl nx).n = n := rfl
theorem put_X (v : PV) : (mkX n sl hl nx).put (some d) v = mkX n ((d, v) :: sl) hl nx :=
  AState.ext' rfl (fun t => by simp only [put_slots, mkX_slots, lookS]) (fun _ => rfl) rfl
theorem put_X0 (v : PV) : (mkX n sl hl nx).put none v = mkX n sl hl nx := rfl
theorem writes_X (id : Nat) (b : Block) : (mkX n sl hl nx).writes [(id, b)] = mkX n sl ((id, b) :: hl) nx :=
  AState.ext' rfl (fun _ => rfl) (fun j => by simp only [writes_heap, mkX_heap, lookH]) rfl
def pushW : List (Nat × Block) → List (Nat × Block) → List (Nat × Block)
  | [], hl => hl
  | w :: ws, hl => pushW ws (w :: hl)
theorem writes_XL : ∀ (ws : List (Nat × Block)) (hl : List (Nat × Block)), (mkX n sl hl nx).writes ws = mkX n sl (pushW ws hl) nx
  | [], hl => rfl
  | (id, b) :: ws, hl => by
    rw [AState.writes_cons]
    have : (mkX n sl hl nx).write id b = mkX n sl ((id, b) :: hl) nx := writes_X id b
    rw [this, writes_XL ws]; rfl
def putL (d : Option Nat) (v : PV) (sl : List (Nat × PV)) : List (Nat × PV) := match d with | some d => (d, v) :: sl | none => sl
theorem put_XL (d : Option Nat) (v : PV) : (mkX n sl hl nx).put d v = mkX n (putL d v sl) hl nx := by cases d; exact put_X0 v; exact put_X v
theorem pushW_app : ∀ (ws vs hl : List (Nat × Block)), pushW (ws ++ vs) hl = pushW vs (pushW ws hl)
  | [], _, _ => rfl
  | w :: ws, vs, hl => pushW_app ws vs (w :: hl)
def deadL : List Nat → List (Nat × Block) → List (Nat × Block)
  | [], hl => hl
  | k :: ks, hl => deadL ks ((k, .dead) :: hl)
theorem pushW_kills : ∀ (ks : List Nat) (hl : List (Nat × Block)), pushW (kills ks) hl = deadL ks hl
  | [], _ => rfl
  | k :: ks, hl => pushW_kills ks ((k, .dead) :: hl)
theorem lookH_dead : ∀ (ks : List Nat) (hl : List (Nat × Block)), lookH (deadL ks hl) = killL (lookH hl) ks
  | [], _ => rfl
  | k :: ks, hl => by
    rw [deadL, lookH_dead ks]
    show killL _ ks = killL (upd (lookH hl) k .dead) ks
    congr 1
theorem EV_tmp {tab : Tab} {ty : TypeId} (h : SL sl t u) : EV sl tab ty (.tmp t) u := ⟨fun _ _ _ => h.e⟩
theorem EV_int (sl : List (Nat × PV)) (tab : Tab) (ty : TypeId) (k : IntKind) (n : Int) : EV sl tab ty (.const (.int k n)) (.g (.int k n)) := ⟨fun _ _ _ => rfl⟩
theorem EV_bool (sl : List (Nat × PV)) (tab : Tab) (ty : TypeId) (b : Bool) : EV sl tab ty (.const (.bool b)) (.g (.bool b)) := ⟨fun _ _ _ => rfl⟩
theorem EV_str (sl : List (Nat × PV)) (tab : Tab) (ty : TypeId) (s : ByteArray) : EV sl tab ty (.const (.string s)) (.g (.str s)) := ⟨fun _ _ _ => rfl⟩
theorem EV_nilp (sl : List (Nat × PV)) (tab : Tab) (ty : TypeId) : EV sl tab ty (.const (.pointer none)) (.g .nilp) := ⟨fun _ _ _ => rfl⟩
theorem EV_glob {tab : Tab} {ty : TypeId} {cs : List GV} (h : SL sl 65536 (.glob 0 cs)) : EV sl tab ty (.global 0) (.g (.box cs)) := ⟨fun n hl nx => by
  have e : (mkX n sl hl nx).slots (65536 + 0) = .glob 0 cs := h.e
  simp only [AState.ev, e, if_true]⟩
theorem EV_func (sl : List (Nat × PV)) (tab : Tab) (ty : TypeId) (f : FuncId) : EV sl tab ty (.func f) (.fn f []) := ⟨fun _ _ _ => rfl⟩
theorem EV_nil {tab : Tab} {ty : TypeId} {E e : Nat} (h1 : RF (elemTy tab ty = some (E, e + 1))) : EV sl tab ty (.const (.slice none 0 0)) (.nils (e + 1)) := ⟨fun n hl nx => by
  have h := h1.e
  unfold elemTy at h
  simp only [AState.ev, cst]
  split at h
  · cases h
  · rename_i ti e1
    split at h
    · rename_i E' e2
      split at h
      · rename_i ei e3
        simp only [Option.some.injEq, Prod.mk.injEq] at h
        obtain ⟨rfl, h6⟩ := h
        simp only [e1, e2, e3, h6]
        rw [if_pos (by omega)]
      · cases h
    · cases h⟩
structure Sel (sl : List (Nat × PV)) (L : List Nat) (sl' : List (Nat × PV)) : Prop where
  e : ∀ t, lookS sl' t = .undef ∨ lookS sl' t = lookS sl t
theorem Sel_nil (sl : List (Nat × PV)) : Sel sl [] [] := ⟨fun _ => .inl rfl⟩
theorem Sel_cons {L : List Nat} {sl' : List (Nat × PV)} (h : SL sl t v) (h2 : Sel sl L sl') : Sel sl (t :: L) ((t, v) :: sl') := ⟨fun s => by
  by_cases e : s = t
  · subst e; right; simp [lookS, h.e]
  · simpa [lookS, e] using h2.e s⟩
structure Sub {α : Type} (cs : List α) (off n : Nat) (cs' : List α) : Prop where
  e : (cs.drop off).take n = cs'
  l : off + n ≤ cs.length
theorem Sub_nil {α : Type} (cs : List α) : Sub cs 0 0 [] := ⟨by simp, by simp⟩
theorem Sub_take {α : Type} {c : α} {cs cs' : List α} {n : Nat} (h : Sub cs 0 n cs') : Sub (c :: cs) 0 (n + 1) (c :: cs') := ⟨by simpa using h.e, by have := h.l; simp; omega⟩
theorem Sub_drop {α : Type} {c : α} {cs cs' : List α} {off n : Nat} (h : Sub cs off n cs') : Sub (c :: cs) (off + 1) n cs' := ⟨by simpa using h.e, by have := h.l; simp; omega⟩
structure Idx {α : Type} (cs : List α) (k : Nat) (c : α) : Prop where
  e : cs[k]? = some c
theorem Idx_zero {α : Type} (c : α) (cs : List α) : Idx (c :: cs) 0 c := ⟨rfl⟩
theorem Idx_succ {α : Type} {c d : α} {cs : List α} {k : Nat} (h : Idx cs k c) : Idx (d :: cs) (k + 1) c := ⟨by simpa using h.e⟩
structure Dr {α : Type} (cs : List α) (k : Nat) (cs' : List α) : Prop where
  e : cs.drop k = cs'
theorem Dr_zero {α : Type} (cs : List α) : Dr cs 0 cs := ⟨rfl⟩
theorem Dr_succ {α : Type} {d : α} {cs cs' : List α} {k : Nat} (h : Dr cs k cs') : Dr (d :: cs) (k + 1) cs' := ⟨by simpa using h.e⟩
structure SetL {α : Type} (cs : List α) (off : Nat) (ps cs' : List α) : Prop where
  e : setL cs off ps = cs'
  l : off + ps.length ≤ cs.length
theorem SetL_nil {α : Type} (cs : List α) : SetL cs 0 [] cs := ⟨by simp [setL], by simp⟩
theorem SetL_put {α : Type} {c p : α} {cs ps cs' : List α} (h : SetL cs 0 ps cs') : SetL (c :: cs) 0 (p :: ps) (p :: cs') := ⟨by have := h.e; simpa [setL] using this, by have := h.l; simp; omega⟩
theorem SetL_skip {α : Type} {c : α} {cs ps cs' : List α} {off : Nat} (h : SetL cs off ps cs') : SetL (c :: cs) (off + 1) ps (c :: cs') := ⟨by have := h.e; simp only [setL, List.take_succ_cons, List.cons_append] at *; rw [show off + 1 + ps.length = (off + ps.length) + 1 by omega, List.drop_succ_cons, this], by have := h.l; simp; omega⟩
structure MapG (gs : List GV) (ps : List PV) : Prop where
  e : gs.map PV.g = ps
theorem MapG_nil : MapG [] [] := ⟨rfl⟩
theorem MapG_cons {x : GV} {gs : List GV} {ps : List PV} (h : MapG gs ps) : MapG (x :: gs) (.g x :: ps) := ⟨by simp [h.e]⟩
structure CP (p : PV) (cs : List PV) : Prop where
  e : p.cells = cs
  v : p.val = true
theorem CP_agg (cs : List PV) : CP (.agg cs) cs := ⟨rfl, rfl⟩
theorem CP_own (id lo len : Nat) : CP (.own id lo len) [.own id lo len] := ⟨rfl, rfl⟩
theorem CP_nils (e : Nat) : CP (.nils e) [.nils e] := ⟨rfl, rfl⟩
theorem CP_ptr (id o : Nat) : CP (.ptr id o) [.ptr id o] := ⟨rfl, rfl⟩
theorem CP_fn (f : FuncId) (cs : List PV) : CP (.fn f cs) [.fn f cs] := ⟨rfl, rfl⟩
theorem CP_int (k : IntKind) (n : Int) : CP (.g (.int k n)) [.g (.int k n)] := ⟨rfl, rfl⟩
theorem CP_bool (b : Bool) : CP (.g (.bool b)) [.g (.bool b)] := ⟨rfl, rfl⟩
theorem CP_str (s : ByteArray) : CP (.g (.str s)) [.g (.str s)] := ⟨rfl, rfl⟩
theorem CP_nilp : CP (.g .nilp) [.g .nilp] := ⟨rfl, rfl⟩
theorem CP_sl (e : Nat) (xs : List GV) : CP (.g (.sl e xs)) [.g (.sl e xs)] := ⟨rfl, rfl⟩
theorem CP_ex (v : Value) (e : Nat) (xs : List GV) : CP (.g (.ex v e xs)) [.g (.ex v e xs)] := ⟨rfl, rfl⟩
theorem CP_gbox (cs : List GV) : CP (.g (.box cs)) [.g (.box cs)] := ⟨rfl, rfl⟩
theorem CP_gfn (f : FuncId) (cs : List GV) : CP (.g (.fn f cs)) [.g (.fn f cs)] := ⟨rfl, rfl⟩
theorem CP_gagg {gs : List GV} {ps : List PV} (h : MapG gs ps) : CP (.g (.agg gs)) ps := ⟨h.e, rfl⟩
structure CG (x : GV) (cs : List GV) : Prop where
  e : x.cells = cs
  t : x.isTup = false
theorem CG_int (k : IntKind) (n : Int) : CG (.int k n) [.int k n] := ⟨rfl, rfl⟩
theorem CG_bool (b : Bool) : CG (.bool b) [.bool b] := ⟨rfl, rfl⟩
theorem CG_str (s : ByteArray) : CG (.str s) [.str s] := ⟨rfl, rfl⟩
theorem CG_nilp : CG .nilp [.nilp] := ⟨rfl, rfl⟩
theorem CG_sl (e : Nat) (xs : List GV) : CG (.sl e xs) [.sl e xs] := ⟨rfl, rfl⟩
theorem CG_ex (v : Value) (e : Nat) (xs : List GV) : CG (.ex v e xs) [.ex v e xs] := ⟨rfl, rfl⟩
theorem CG_raw (c : Nat) (v : Value) : CG (.raw c v) [.raw c v] := ⟨rfl, rfl⟩
theorem CG_box (cs : List GV) : CG (.box cs) [.box cs] := ⟨rfl, rfl⟩
theorem CG_agg (cs : List GV) : CG (.agg cs) cs := ⟨rfl, rfl⟩
structure LEN (xs : List GV) (n : Nat) : Prop where
  e : xs.length = n
theorem LEN_map {α : Type} (f : α → GV) (ys : List α) : LEN (ys.map f) ys.length := ⟨by simp⟩
theorem LEN_nil : LEN [] 0 := ⟨rfl⟩
theorem LEN_1 (x : GV) : LEN [x] 1 := ⟨rfl⟩
theorem LEN_2 (x y : GV) : LEN [x, y] 2 := ⟨rfl⟩
theorem LEN_any (xs : List GV) : LEN xs xs.length := ⟨rfl⟩
structure CUT' (xs : List GV) (lo len : Nat) (ys : List GV) : Prop where
  e : (xs.drop lo).take len = ys
  l : lo + len ≤ xs.length
def CUT (xs : List GV) (lo len : Nat) (ys : List GV) : Prop := CUT' xs lo len ys
theorem CUT.mk {xs : List GV} {lo len : Nat} {ys : List GV} (h : CUT' xs lo len ys) : CUT xs lo len ys := h
theorem CUT.e {xs : List GV} {lo len : Nat} {ys : List GV} (h : CUT xs lo len ys) : (xs.drop lo).take len = ys := @CUT'.e _ _ _ _ h
theorem CUT.l {xs : List GV} {lo len : Nat} {ys : List GV} (h : CUT xs lo len ys) : lo + len ≤ xs.length := @CUT'.l _ _ _ _ h
theorem CUT_all {xs : List GV} {lo len n : Nat} (hn : LEN xs n) (h0 : lo = 0) (hl : len = n) : CUT xs lo len xs := CUT.mk ⟨by subst h0; subst hl; rw [← hn.e]; simp, by rw [hn.e]; omega⟩
theorem CUT_map {α : Type} {f : α → GV} {ys : List α} {lo len : Nat} (hl : NU (lo + len ≤ ys.length)) : CUT (ys.map f) lo len (((ys.drop lo).take len).map f) := CUT.mk ⟨by rw [List.map_take, List.map_drop], by simpa using hl.e⟩
theorem CUT_mapT {α : Type} {f : α → GV} {ys : List α} {lo len : Nat} (h0 : lo = 0) (hl : NU (len ≤ ys.length)) : CUT (ys.map f) lo len ((ys.take len).map f) := CUT.mk ⟨by subst h0; rw [List.map_take]; simp, by have := hl.e; simp; omega⟩
theorem CUT_mapD {α : Type} {f : α → GV} {ys : List α} {lo len : Nat} (hl : lo + len = ys.length) : CUT (ys.map f) lo len ((ys.drop lo).map f) := CUT.mk ⟨by rw [List.map_drop, List.take_of_length_le (by simp; omega)], by simp; omega⟩
theorem CUT_any {xs : List GV} {lo len : Nat} (hl : NU (lo + len ≤ xs.length)) : CUT xs lo len ((xs.drop lo).take len) := CUT.mk ⟨rfl, hl.e⟩
structure CAT (xs ys zs : List GV) : Prop where
  e : xs ++ ys = zs
theorem CAT_nil (ys : List GV) : CAT [] ys ys := ⟨rfl⟩
theorem CAT_map {α : Type} (f : α → GV) (xs ys : List α) : CAT (xs.map f) (ys.map f) ((xs ++ ys).map f) := ⟨by simp⟩
theorem CAT_one {α : Type} (f : α → GV) (xs : List α) (y : α) : CAT (xs.map f) [f y] ((xs ++ [y]).map f) := ⟨by simp⟩
theorem CAT_end {α : Type} (f : α → GV) (xs : List α) : CAT (xs.map f) [] (xs.map f) := ⟨by simp⟩
theorem CAT_cons {α : Type} (f : α → GV) (x : α) (ys : List α) : CAT [f x] (ys.map f) ((x :: ys).map f) := ⟨by simp⟩
theorem CAT_any (xs ys : List GV) : CAT xs ys (xs ++ ys) := ⟨rfl⟩
structure ITM (xs : List GV) (n : Int) (x : GV) : Prop where
  e : xs[n.toNat]? = some x
  l : 0 ≤ n ∧ n < (xs.length : Int)
theorem ITM_mapN {α : Type} [Inhabited α] {f : α → GV} {ys : List α} {n : Nat} (h : NU (n < ys.length)) : ITM (ys.map f) (n : Int) (f (nth ys n)) := ⟨ix_mapN h.e, by have := h.e; simp; omega⟩
theorem ITM_of {ys : List Int} {xs : List GV} {n : Nat} (e : RF (xs = ys.map GV.i)) (h : NU (n < ys.length)) : ITM xs (n : Int) (GV.i (nth ys n)) := by
  have e1 := e.e
  subst e1
  exact ITM_mapN h
theorem ITM_mapL {α : Type} [Inhabited α] {f : α → GV} {ys : List α} (n : Nat) (h : NU (n < ys.length)) : ITM (ys.map f) (OfNat.ofNat n) (f (nth ys n)) := ⟨ix_mapN h.e, by have := h.e; constructor; exact Int.natCast_nonneg n; simp; exact Int.ofNat_lt.2 this⟩
theorem ITM_mapS {α : Type} [Inhabited α] {f : α → GV} {ys : List α} {n : Nat} (h : NU (n + 1 < ys.length)) : ITM (ys.map f) ((n : Int) + 1) (f (nth ys (n + 1))) := ⟨ix_mapN h.e, by have := h.e; simp; omega⟩
theorem ITM_mapP {α : Type} [Inhabited α] {f : α → GV} {ys : List α} {n : Nat} (h : NU (1 ≤ n ∧ n ≤ ys.length)) : ITM (ys.map f) ((n : Int) - 1) (f (nth ys (n - 1))) := by
  have h1 := h.e
  have e1 : (n : Int) - 1 = ((n - 1 : Nat) : Int) := by omega
  rw [e1]
  exact ITM_mapN (NU.mk (by omega))
theorem ITM_map {α : Type} [Inhabited α] {f : α → GV} {ys : List α} {n : Int} (h : NU (0 ≤ n ∧ n < (ys.length : Int))) : ITM (ys.map f) n (f (nth ys n.toNat)) := ⟨ix_map h.e, by have := h.e; simpa using this⟩
theorem ITM_lit {xs : List GV} {n : Nat} {x : GV} (h : RF (xs[n]? = some x)) : ITM xs (OfNat.ofNat n) x := ⟨h.e, by
  have := (List.getElem?_eq_some_iff.1 h.e).1
  constructor
  · exact Int.natCast_nonneg n
  · exact Int.ofNat_lt.2 this⟩
theorem ITM_litN {xs : List GV} {n : Nat} {x : GV} (h : RF (xs[n]? = some x)) : ITM xs (n : Int) x := ⟨by simpa using h.e, by
  have := (List.getElem?_eq_some_iff.1 h.e).1
  omega⟩
def rawL {α : Type} (f : α → GV) (A : List α) (kk c : Nat) (v : Value) : List GV := (A.map f).set kk (.raw c v)
@[simp] theorem rawL_len {α : Type} (f : α → GV) (A : List α) (kk c : Nat) (v : Value) : (rawL f A kk c v).length = A.length := by simp [rawL]
theorem ITM_raw {α : Type} {f : α → GV} {A : List α} {kk c : Nat} {v : Value} {n : Int} (h : NU (n = (kk : Int) ∧ kk < A.length)) : ITM (rawL f A kk c v) n (.raw c v) := by
  obtain ⟨h1, h2⟩ := h.e
  subst h1
  exact ⟨by simp [rawL, h2], by simp; omega⟩
structure PUT (xs : List GV) (k : Nat) (x : GV) (ys : List GV) : Prop where
  e : xs.set k x = ys
theorem PUT_map {α : Type} (f : α → GV) (ys : List α) (k : Nat) (y : α) : PUT (ys.map f) k (f y) ((ys.set k y).map f) := ⟨by rw [List.map_set]⟩
theorem PUT_raw {α : Type} (f : α → GV) (A : List α) (kk c k : Nat) (v : Value) (y : α) (h : NU (k = kk)) : PUT (rawL f A kk c v) k (f y) ((A.set kk y).map f) := ⟨by
  have := h.e
  subst this
  rw [rawL, List.set_set, List.map_set]⟩
theorem PUT_any (xs : List GV) (k : Nat) (x : GV) : PUT xs k x (xs.set k x) := ⟨rfl⟩
end
end Go.Proofs.YtachnjinfdagjaaDoor
namespace Go.Proofs.YtachnjinfdagjaaDoor
open Go.RowKit
open Shp
def NID (a k : Nat) : Prop := a = k
theorem NID.e {a k : Nat} (h : NID a k) : a = k := h
theorem NID_mk {a k : Nat} (h : a = k) : NID a k := h
structure SLT' (tab : Tab) (t E e : Nat) : Prop where
  h : ∃ ti ei, tab t = some ti ∧ ti.kind = .sl E ∧ tab E = some ei ∧ ei.size = e + 1
def SLT (tab : Tab) (t E e : Nat) : Prop := SLT' tab t E e
theorem SLT.mk {tab : Tab} {t E e : Nat} (h : SLT' tab t E e) : SLT tab t E e := h
theorem SLT.h {tab : Tab} {t E e : Nat} (h : SLT tab t E e) : ∃ ti ei, tab t = some ti ∧ ti.kind = .sl E ∧ tab E = some ei ∧ ei.size = e + 1 := @SLT'.h _ _ _ _ h
theorem SLT_mk {tab : Tab} {t E e : Nat} {ti ei : TI} (h1 : tab t = some ti) (h2 : ti.kind = .sl E) (h3 : tab E = some ei) (h4 : ei.size = e + 1) : SLT tab t E e := SLT.mk ⟨ti, ei, h1, h2, h3, h4⟩
theorem SLT.el {tab : Tab} {t E e : Nat} (h : SLT tab t E e) : elemTy tab t = some (E, e + 1) := by
  obtain ⟨ti, ei, h1, h2, h3, h4⟩ := h.h
  simp only [elemTy, h1, h2, h3, h4]
section
variable {dr : Bool} {P : Program} {tab : Tab} {ops : Array Oper} {i : Nat} {os : List Oper} {acc : List (List Nat × List Nat)} {K : AState → List (List Nat × List Nat) → Prop}
variable {ty : TypeId} {pos : String} {af : Array Edge} {n nx d : Nat} {sl : List (Nat × PV)} {hl : List (Nat × Block)}
def AF (dr : Bool) (P : Program) (tab : Tab) (ops : Array Oper) (i : Nat) (os : List Oper) (n : Nat) (sl : List (Nat × PV)) (hl : List (Nat × Block)) (nx : Nat) (acc : List (List Nat × List Nat)) (K : AState → List (List Nat × List Nat) → Prop) : Prop := AX dr P tab ops i os (mkX n sl hl nx) acc K
abbrev tcX (tab : Tab) (i n : Nat) (sl : List (Nat × PV)) (hl : List (Nat × Block)) (nx : Nat) (o : Oper) (ws : List Nat) : List Nat × List Nat := tcW tab i (mkX n sl hl nx) o ws
theorem X_any {dst : Option Nat} {op : Op} {pv : PV} {ws : List (Nat × Block)} (h2 : (mkX n sl hl nx).has dst = true) (h3 : aOp tab (nx + 8 * i) ⟨dst, op, ty, pos, af, none⟩ (mkX n sl hl nx) = some (pv, ws))
    (h4 : AF dr P tab ops (i + 1) os n (putL dst pv sl) (pushW ws hl) nx (acc ++ [tcX tab i n sl hl nx ⟨dst, op, ty, pos, af, none⟩ (ws.map (·.1))]) K) : AF dr P tab ops i (⟨dst, op, ty, pos, af, none⟩ :: os) n sl hl nx acc K :=
  AX_op h2 h3 (by rw [writes_XL, put_XL]; exact h4)
theorem has_X {d : Nat} (h : RF (hasB d n = true)) : (mkX n sl hl nx).has (some d) = true := by have := h.e; rw [has_some, mkX_n]; exact this
theorem X_move {x : Operand} {v : PV} (hd : RF (hasB d n = true)) (hx : EV sl tab ty x v) (h4 : AF dr P tab ops (i + 1) os n ((d, v) :: sl) hl nx (acc ++ [tcX tab i n sl hl nx ⟨some d, .move x, ty, pos, af, none⟩ []]) K) : AF dr P tab ops i (⟨some d, .move x, ty, pos, af, none⟩ :: os) n sl hl nx acc K :=
  X_any (ws := []) (has_X hd) (by simp only [aOp, hx.e]) h4
theorem X_assign {x : Operand} {v : PV} (hd : RF (hasB d n = true)) (hx : EV sl tab ty x v) (h4 : AF dr P tab ops (i + 1) os n ((d, v) :: sl) hl nx (acc ++ [tcX tab i n sl hl nx ⟨some d, .assign x, ty, pos, af, none⟩ []]) K) : AF dr P tab ops i (⟨some d, .assign x, ty, pos, af, none⟩ :: os) n sl hl nx acc K :=
  X_any (ws := []) (has_X hd) (by simp only [aOp, hx.e]) h4
structure PK (c p q v : PV) : Prop where
  e : aPick c p q = some (v, [])
theorem PK_t (p q : PV) : PK (.g (.bool true)) p q p := ⟨rfl⟩
theorem PK_f (p q : PV) : PK (.g (.bool false)) p q q := ⟨rfl⟩
theorem X_pick {c x y : Operand} {pc p q v : PV} (hd : RF (hasB d n = true)) (hc : EV sl tab 0 c pc) (hx : EV sl tab ty x p) (hy : EV sl tab ty y q) (hp : PK pc p q v) (h4 : AF dr P tab ops (i + 1) os n ((d, v) :: sl) hl nx (acc ++ [tcX tab i n sl hl nx ⟨some d, .pick c x y, ty, pos, af, none⟩ []]) K) : AF dr P tab ops i (⟨some d, .pick c x y, ty, pos, af, none⟩ :: os) n sl hl nx acc K :=
  X_any (ws := []) (has_X hd) (by simp only [aOp, hx.e, hy.e, hc.e, hp.e]) h4
structure BN (tab : Tab) (t : TypeId) (op : BinOp) (x y v : PV) : Prop where
  e : aBinF tab op t x y = some (v, [])
theorem BN_of {t : TypeId} {op : BinOp} {x y v : PV} (h : aBin op x y = some (v, [])) : BN tab t op x y v := ⟨aBinF_of (aBinE_of h)⟩
theorem BN_add {t : TypeId} {a b : Int} (hb : NU (-9223372036854775808 ≤ a + b ∧ a + b ≤ 9223372036854775807)) : BN tab t .add (.g (.int .i64 a)) (.g (.int .i64 b)) (.g (.int .i64 (a + b))) := BN_of (by simp [aBin, intOp, wr64 hb.e.1 hb.e.2])
theorem BN_sub {t : TypeId} {a b : Int} (hb : NU (-9223372036854775808 ≤ a - b ∧ a - b ≤ 9223372036854775807)) : BN tab t .sub (.g (.int .i64 a)) (.g (.int .i64 b)) (.g (.int .i64 (a - b))) := BN_of (by simp [aBin, intOp, wr64 hb.e.1 hb.e.2])
theorem BN_mul {t : TypeId} {a b : Int} (hb : NU (-9223372036854775808 ≤ a * b ∧ a * b ≤ 9223372036854775807)) : BN tab t .mul (.g (.int .i64 a)) (.g (.int .i64 b)) (.g (.int .i64 (a * b))) := BN_of (by simp [aBin, intOp, wr64 hb.e.1 hb.e.2])
theorem BN_quo {t : TypeId} {a b : Int} (hb : NU (0 ≤ a ∧ a ≤ 9223372036854775807 ∧ 0 < b)) : BN tab t .quo (.g (.int .i64 a)) (.g (.int .i64 b)) (.g (.int .i64 (a / b))) := BN_of (by
    have hb := hb.e
    have e1 : a.tdiv b = a / b := Int.tdiv_eq_ediv_of_nonneg hb.1
    have e2 : 0 ≤ a / b := Int.ediv_nonneg hb.1 (by omega)
    have e3 : a / b ≤ a := Int.ediv_le_self b hb.1
    have e4 : ¬ b = 0 := by omega
    simp [aBin, intOp, e1, e4, wr64 (show -9223372036854775808 ≤ a / b by omega) (show a / b ≤ 9223372036854775807 by omega)])
theorem BN_rem {t : TypeId} {a b : Int} (hb : NU (0 ≤ a ∧ 0 < b)) : BN tab t .rem (.g (.int .i64 a)) (.g (.int .i64 b)) (.g (.int .i64 (a % b))) := BN_of (by
    have hb := hb.e
    have e1 : a.tmod b = a % b := Int.tmod_eq_emod_of_nonneg hb.1
    have e4 : ¬ b = 0 := by omega
    simp [aBin, intOp, e1, e4])
theorem BN_shl {t : TypeId} {a b : Int} {k : IntKind} (hb : NU (0 ≤ a ∧ 0 ≤ b ∧ b ≤ 62 ∧ a * 2 ^ b.toNat ≤ 9223372036854775807)) : BN tab t .shl (.g (.int .i64 a)) (.g (.int k b)) (.g (.int .i64 (a * 2 ^ b.toNat))) := BN_of (by
    have hb := hb.e
    have h5 : 0 ≤ a * 2 ^ b.toNat := Int.mul_nonneg hb.1 (Int.pow_nonneg (by decide))
    have e1 : ¬ b < 0 := by omega
    have e2 : min b.toNat (IntKind.bits .i64) = b.toNat := Nat.min_eq_left (by show b.toNat ≤ 64; omega)
    simp only [aBin, e1, if_false, e2, wr64 (show -9223372036854775808 ≤ a * 2 ^ b.toNat by omega) hb.2.2.2])
theorem wrap8 {a : Int} (h1 : 0 ≤ a) (h2 : a < 256) : IntKind.u8.wrap a = a := by
  have e : a % 2 ^ 8 = a := Int.emod_eq_of_lt h1 (by omega)
  simp only [IntKind.wrap, IntKind.bits, IntKind.signed, e]
  rfl
theorem BN_sub8 {t : TypeId} {a b : Int} (h : NU (0 ≤ a - b ∧ a - b < 256)) : BN tab t .sub (.g (.int .u8 a)) (.g (.int .u8 b)) (.g (.int .u8 (a - b))) := BN_of (by
  have e := wrap8 h.e.1 h.e.2
  simp [aBin, intOp, e])
theorem BN_wadd {t : TypeId} (k : IntKind) (a b : Int) : BN tab t .add (.g (.int k a)) (.g (.int k b)) (.g (.int k (k.wrap (a + b)))) := BN_of (by simp [aBin, intOp])
theorem BN_wmul {t : TypeId} (k : IntKind) (a b : Int) : BN tab t .mul (.g (.int k a)) (.g (.int k b)) (.g (.int k (k.wrap (a * b)))) := BN_of (by simp [aBin, intOp])
theorem BN_and {t : TypeId} (k : IntKind) (a b : Int) : BN tab t .and (.g (.int k a)) (.g (.int k b)) (.g (.int k (bitsV .and k a b))) := BN_of (by simp [aBin, intOp])
theorem BN_xor {t : TypeId} (k : IntKind) (a b : Int) : BN tab t .xor (.g (.int k a)) (.g (.int k b)) (.g (.int k (bitsV .xor k a b))) := BN_of (by simp [aBin, intOp])
theorem BN_shr {t : TypeId} {k k' : IntKind} {a b : Int} (hb : NU (0 ≤ b)) : BN tab t .shr (.g (.int k a)) (.g (.int k' b)) (.g (.int k (a.fdiv (2 ^ min b.toNat k.bits)))) := BN_of (by have := hb.e; simp [aBin, show ¬ b < 0 by omega])
theorem BN_half {t : TypeId} {k' : IntKind} {a : Int} : BN tab t .shr (.g (.int .u64 a)) (.g (.int k' 1)) (.g (.int .u64 (a / 2))) := BN_of (by
  have e : a.fdiv (2 ^ min (Int.toNat 1) (IntKind.bits .u64)) = a / 2 := by
    show a.fdiv 2 = a / 2
    exact Int.fdiv_eq_ediv_of_nonneg a (by omega)
  simp only [aBin, show ¬ ((1 : Int) < 0) by omega, if_false, e])
theorem BN_eql {t : TypeId} (k : IntKind) (a b : Int) : BN tab t .eql (.g (.int k a)) (.g (.int k b)) (.g (.bool (a == b))) := BN_of (by simp [aBin, intOp])
theorem BN_neq {t : TypeId} (k : IntKind) (a b : Int) : BN tab t .neq (.g (.int k a)) (.g (.int k b)) (.g (.bool (a != b))) := BN_of (by simp [aBin, intOp])
theorem BN_lss {t : TypeId} (k : IntKind) (a b : Int) : BN tab t .lss (.g (.int k a)) (.g (.int k b)) (.g (.bool (decide (a < b)))) := BN_of (by simp [aBin, intOp])
theorem BN_leq {t : TypeId} (k : IntKind) (a b : Int) : BN tab t .leq (.g (.int k a)) (.g (.int k b)) (.g (.bool (decide (a ≤ b)))) := BN_of (by simp [aBin, intOp])
theorem BN_gtr {t : TypeId} (k : IntKind) (a b : Int) : BN tab t .gtr (.g (.int k a)) (.g (.int k b)) (.g (.bool (decide (a > b)))) := BN_of (by simp [aBin, intOp])
theorem BN_geq {t : TypeId} (k : IntKind) (a b : Int) : BN tab t .geq (.g (.int k a)) (.g (.int k b)) (.g (.bool (decide (a ≥ b)))) := BN_of (by simp [aBin, intOp])
theorem BN_beq {t : TypeId} {a b : Bool} (h : RF (isBoolT tab t = true)) : BN tab t .eql (.g (.bool a)) (.g (.bool b)) (.g (.bool (a == b))) := ⟨aBinF_of (by simp only [aBinE, h.e, if_true])⟩
theorem BN_bne {t : TypeId} {a b : Bool} (h : RF (isBoolT tab t = true)) : BN tab t .neq (.g (.bool a)) (.g (.bool b)) (.g (.bool (!(a == b)))) := ⟨aBinF_of (by simp only [aBinE, h.e, if_true])⟩
theorem pairEq (a b c d : Int) : ([a, b] == [c, d]) = decide ((a, b) = (c, d)) := by
  rw [Bool.eq_iff_iff]; simp
theorem arrE2 {a b : Int} {p : PV} (h : aggInts .i64 p = some [a, b]) : p = .agg [.g (.int .i64 a), .g (.int .i64 b)] ∨ p = .g (.agg [.int .i64 a, .int .i64 b]) := by
  unfold aggInts at h
  split at h
  · have := intsP_ok h; subst this; exact .inl rfl
  · have := intsG_ok h; subst this; exact .inr rfl
  · cases h
theorem aBinE_arr {t : TypeId} {op : BinOp} {p q : PV} {a b c d : Int} (hp : aggInts .i64 p = some [a, b]) (hq : aggInts .i64 q = some [c, d]) : aBinE tab op t p q = none := by
  rcases arrE2 hp with rfl | rfl <;> rcases arrE2 hq with rfl | rfl <;> cases op <;> rfl
theorem BN_ar {t : TypeId} {p q : PV} {a b c d : Int} (hp : aggInts .i64 p = some [a, b]) (hq : aggInts .i64 q = some [c, d]) (ht : RF (arrOf tab t = some (2, .i64))) : BN tab t .eql p q (.g (.bool (decide ((a, b) = (c, d))))) := ⟨by
  unfold aBinF
  rw [aBinE_arr hp hq]
  rcases arrE2 hp with rfl | rfl <;> rcases arrE2 hq with rfl | rfl <;> simp only [ht.e, hp, hq, pairEq, List.length_cons, List.length_nil, and_self, if_true]⟩
theorem BN_arvv {t : TypeId} {a b c d : Int} (ht : RF (arrOf tab t = some (2, .i64))) : BN tab t .eql (.agg [.g (.int .i64 a), .g (.int .i64 b)]) (.agg [.g (.int .i64 c), .g (.int .i64 d)]) (.g (.bool (decide ((a, b) = (c, d))))) := BN_ar (by simp [aggInts, intsP]) (by simp [aggInts, intsP]) ht
theorem BN_argv {t : TypeId} {a b c d : Int} (ht : RF (arrOf tab t = some (2, .i64))) : BN tab t .eql (.g (.agg [.int .i64 a, .int .i64 b])) (.agg [.g (.int .i64 c), .g (.int .i64 d)]) (.g (.bool (decide ((a, b) = (c, d))))) := BN_ar (by simp [aggInts, intsG]) (by simp [aggInts, intsP]) ht
theorem BN_arvg {t : TypeId} {a b c d : Int} (ht : RF (arrOf tab t = some (2, .i64))) : BN tab t .eql (.agg [.g (.int .i64 a), .g (.int .i64 b)]) (.g (.agg [.int .i64 c, .int .i64 d])) (.g (.bool (decide ((a, b) = (c, d))))) := BN_ar (by simp [aggInts, intsP]) (by simp [aggInts, intsG]) ht
theorem BN_argg {t : TypeId} {a b c d : Int} (ht : RF (arrOf tab t = some (2, .i64))) : BN tab t .eql (.g (.agg [.int .i64 a, .int .i64 b])) (.g (.agg [.int .i64 c, .int .i64 d])) (.g (.bool (decide ((a, b) = (c, d))))) := BN_ar (by simp [aggInts, intsG]) (by simp [aggInts, intsG]) ht
theorem BN_seq {t : TypeId} (a b : ByteArray) : BN tab t .eql (.g (.str a)) (.g (.str b)) (.g (.bool (a.toList == b.toList))) := ⟨by simp [aBinF, aBinE, aBin, strOp]⟩
theorem BN_sne {t : TypeId} (a b : ByteArray) : BN tab t .neq (.g (.str a)) (.g (.str b)) (.g (.bool (!(a.toList == b.toList)))) := ⟨by simp [aBinF, aBinE, aBin, strOp]⟩
theorem BN_sadd {t : TypeId} {a b : ByteArray} (h : NU (a.size + b.size ≤ 9223372036854775807)) : BN tab t .add (.g (.str a)) (.g (.str b)) (.g (.str (a ++ b))) := ⟨by have := h.e; simp [aBinF, aBinE, aBin, strOp, this]⟩
theorem X_bin {op : BinOp} {t t' : TypeId} {x y : Operand} {p q v : PV} (hd : RF (hasB d n = true)) (hx : EV sl tab 0 x p) (hy : EV sl tab 0 y q) (hv : BN tab t op p q v) (h4 : AF dr P tab ops (i + 1) os n ((d, v) :: sl) hl nx (acc ++ [tcX tab i n sl hl nx ⟨some d, .binOp op t x y t', ty, pos, af, none⟩ []]) K) : AF dr P tab ops i (⟨some d, .binOp op t x y t', ty, pos, af, none⟩ :: os) n sl hl nx acc K :=
  X_any (ws := []) (has_X hd) (by simp only [aOp, hx.e, hy.e, hv.e]) h4
structure UN (op : UnOp) (x v : PV) : Prop where
  e : aUn op x = some (v, [])
theorem UN_not (b : Bool) : UN .not (.g (.bool b)) (.g (.bool (!b))) := ⟨rfl⟩
theorem UN_neg {a : Int} (hb : NU (-9223372036854775807 ≤ a ∧ a ≤ 9223372036854775807)) : UN .neg (.g (.int .i64 a)) (.g (.int .i64 (0 - a))) := ⟨by have := hb.e; simp only [aUn]; rw [wr64 (by omega) (by omega)]⟩
theorem X_un {op : UnOp} {t : TypeId} {x : Operand} {p v : PV} (hd : RF (hasB d n = true)) (hx : EV sl tab 0 x p) (hv : UN op p v) (h4 : AF dr P tab ops (i + 1) os n ((d, v) :: sl) hl nx (acc ++ [tcX tab i n sl hl nx ⟨some d, .unOp op t x, ty, pos, af, none⟩ []]) K) : AF dr P tab ops i (⟨some d, .unOp op t x, ty, pos, af, none⟩ :: os) n sl hl nx acc K :=
  X_any (ws := []) (has_X hd) (by simp only [aOp, hx.e, hv.e]) h4
structure CV (tab : Tab) (s t : TypeId) (x v : PV) : Prop where
  e : aConv tab s t x = some (v, [])
theorem CV_int {s t : TypeId} {si di : TI} {k k' : IntKind} {a : Int} (h5 : RF (tab s = some si ∧ si.kind = .int k)) (h6 : RF (tab t = some di ∧ di.kind = .int .i64)) (hb : NU (-9223372036854775808 ≤ a ∧ a ≤ 9223372036854775807)) : CV tab s t (.g (.int k' a)) (.g (.int .i64 a)) := ⟨by simp [aConv, h5.e.1, h6.e.1, h5.e.2, h6.e.2, wr64 hb.e.1 hb.e.2]⟩
theorem wrU {a : Int} (h1 : 0 ≤ a) (h2 : a ≤ 9223372036854775807) : IntKind.u64.wrap a = a := by
  have e : a % 2 ^ 64 = a := Int.emod_eq_of_lt h1 (by omega)
  simp only [IntKind.wrap, IntKind.bits, IntKind.signed, e]
  rfl
theorem wr8 {a : Int} (h1 : 0 ≤ a) (h2 : a < 256) : IntKind.u8.wrap a = a := by
  have e : a % 2 ^ 8 = a := Int.emod_eq_of_lt h1 (by omega)
  simp only [IntKind.wrap, IntKind.bits, IntKind.signed, e]
  rfl
theorem CV_u8 {s t : TypeId} {si di : TI} {k k' : IntKind} {a : Int} (h5 : RF (tab s = some si ∧ si.kind = .int k)) (h6 : RF (tab t = some di ∧ di.kind = .int .u8)) (hb : NU (0 ≤ a ∧ a < 256)) : CV tab s t (.g (.int k' a)) (.g (.int .u8 a)) := ⟨by simp [aConv, h5.e.1, h6.e.1, h5.e.2, h6.e.2, wr8 hb.e.1 hb.e.2]⟩
theorem CV_u64 {s t : TypeId} {si di : TI} {k k' : IntKind} {a : Int} (h5 : RF (tab s = some si ∧ si.kind = .int k)) (h6 : RF (tab t = some di ∧ di.kind = .int .u64)) (hb : NU (0 ≤ a ∧ a ≤ 9223372036854775807)) : CV tab s t (.g (.int k' a)) (.g (.int .u64 a)) := ⟨by simp [aConv, h5.e.1, h6.e.1, h5.e.2, h6.e.2, wrU hb.e.1 hb.e.2]⟩
theorem CV_wide {s t : TypeId} {si di : TI} {k k2 k' : IntKind} {a : Int} (h5 : RF (tab s = some si ∧ si.kind = .int k)) (h6 : RF (tab t = some di ∧ di.kind = .int k2)) : CV tab s t (.g (.int k' a)) (.g (.int k2 (k2.wrap a))) := ⟨by simp [aConv, h5.e.1, h6.e.1, h5.e.2, h6.e.2]⟩
theorem X_conv {s t : TypeId} {x : Operand} {p v : PV} (hd : RF (hasB d n = true)) (hx : EV sl tab 0 x p) (hv : CV tab s t p v) (h4 : AF dr P tab ops (i + 1) os n ((d, v) :: sl) hl nx (acc ++ [tcX tab i n sl hl nx ⟨some d, .convert s t x, ty, pos, af, none⟩ []]) K) : AF dr P tab ops i (⟨some d, .convert s t x, ty, pos, af, none⟩ :: os) n sl hl nx acc K :=
  X_any (ws := []) (has_X hd) (by simp only [aOp, hx.e, hv.e]) h4
theorem X_alloc {elem : TypeId} {ti : TI} {k : Nat} {z : List PV} (hd : RF (hasB d n = true)) (ht : RF (tab elem = some ti ∧ ti.zero = z)) (hk : NID (nx + 8 * i) k) (hf : HL hl k .free) (h4 : AF dr P tab ops (i + 1) os n ((d, .ptr k 0) :: sl) ((k, .box z) :: hl) nx (acc ++ [tcX tab i n sl hl nx ⟨some d, .alloc elem, ty, pos, af, none⟩ [k]]) K) : AF dr P tab ops i (⟨some d, .alloc elem, ty, pos, af, none⟩ :: os) n sl hl nx acc K := by
  cases hk.e
  cases ht.e.2
  exact X_any (ws := [(nx + 8 * i, .box ti.zero)]) (has_X hd) (by simp only [aOp, aAlloc, ht.e.1, mkX_nx, mkX_heap, hf.e, isFree, if_true]) h4
theorem X_box {elem : TypeId} {x : Operand} {p : PV} {cs : List PV} {k : Nat} (hd : RF (hasB d n = true)) (hx : EV sl tab elem x p) (hp : CP p cs) (hk : NID (nx + 8 * i) k) (hf : HL hl k .free) (h4 : AF dr P tab ops (i + 1) os n ((d, .ptr k 0) :: sl) ((k, .box cs) :: hl) nx (acc ++ [tcX tab i n sl hl nx ⟨some d, .box elem x, ty, pos, af, none⟩ [k]]) K) : AF dr P tab ops i (⟨some d, .box elem x, ty, pos, af, none⟩ :: os) n sl hl nx acc K := by
  cases hk.e
  exact X_any (ws := [(nx + 8 * i, .box cs)]) (has_X hd) (by simp only [aOp, aBox, hx.e, hp.e, hp.v, mkX_heap, hf.e, isFree, Bool.and_self, if_true]) h4
structure LB (tab : Tab) (t : TypeId) (off : Nat) (cs : List PV) (v : PV) : Prop where
  e : ∃ ti, tab t = some ti ∧ aLoadBox ti off cs = some v
theorem LB_one {t : TypeId} {off : Nat} {cs : List PV} {v : PV} {ti : TI} (h : RF (tab t = some ti ∧ ti.kind.agg = false)) (h2 : Idx cs off v) : LB tab t off cs v := ⟨ti, h.e.1, by simp only [aLoadBox, h.e.2, Bool.false_eq_true, if_false, h2.e]⟩
theorem LB_agg {t : TypeId} {off : Nat} {cs cs' : List PV} {ti : TI} {sz : Nat} (h : RF (tab t = some ti ∧ ti.kind.agg = true ∧ ti.size = sz)) (h2 : Sub cs off sz cs') : LB tab t off cs (.agg cs') := ⟨ti, h.e.1, by
  obtain ⟨h3, h4, h5⟩ := h.e
  have := h2.l
  simp only [aLoadBox, h4, if_true, h5]
  rw [if_pos this, h2.e]⟩
def arK (tab : Tab) (t : TypeId) : Nat :=
  match tab t with
  | some ti => match ti.kind with
    | .ar m E => match tab E with
      | some ei => if ei.size = 1 ∧ ei.kind.agg = false ∧ ti.size = m then m else 0
      | none => 0
    | _ => 0
  | none => 0
theorem arK_inv {t : TypeId} {m : Nat} (h : arK tab t = m) (hm : 0 < m) : ∃ ti E ei, tab t = some ti ∧ ti.kind = .ar m E ∧ tab E = some ei ∧ ei.size = 1 ∧ ei.kind.agg = false ∧ ti.size = m := by
  unfold arK at h
  split at h
  · rename_i ti hti
    split at h
    · rename_i m' E hk
      split at h
      · rename_i ei hE
        split at h
        · rename_i hc
          subst h
          exact ⟨ti, E, ei, hti, hk, hE, hc.1, hc.2.1, hc.2.2⟩
        · omega
      · omega
    · omega
  · omega
structure LI (tab : Tab) (t : TypeId) (cs : List GV) (v : PV) : Prop where
  e : ∃ ti, tab t = some ti ∧ aLoadImm ti cs = some v
theorem LI_mapA {α : Type} {f : α → GV} {ys : List α} {t : TypeId} {m : Nat} (ht : RF (arK tab t = m)) (hn : NU (0 < m ∧ m = ys.length)) : LI tab t (ys.map f) (.g (.agg (ys.map f))) := by
  have hn := hn.e
  obtain ⟨ti, E, ei, h1, h2, _, _, _, h3⟩ := arK_inv ht.e hn.1
  have h4 : ti.kind.agg = true := by rw [h2]; rfl
  exact ⟨ti, h1, by simp [aLoadImm, h4, h3, hn.2, List.take_of_length_le]⟩
theorem LI_drop {α : Type} [Inhabited α] {f : α → GV} {ys : List α} {k : Nat} {t : TypeId} {ti : TI} (h : RF (tab t = some ti ∧ ti.kind.agg = false)) (hn : NU (k < ys.length)) : LI tab t ((ys.map f).drop k) (.g (f (nth ys k))) := ⟨ti, h.e.1, by
  have hn := hn.e
  simp [aLoadImm, h.e.2, List.getElem?_drop, nth_eq hn, hn]⟩
theorem LI_one {t : TypeId} {c : GV} {cs : List GV} {ti : TI} (h : RF (tab t = some ti ∧ ti.kind.agg = false)) : LI tab t (c :: cs) (.g c) := ⟨ti, h.e.1, by simp [aLoadImm, h.e.2]⟩
theorem LI_agg {t : TypeId} {cs cs' : List GV} {ti : TI} {sz : Nat} (h : RF (tab t = some ti ∧ ti.kind.agg = true ∧ ti.size = sz)) (h2 : Sub cs 0 sz cs') : LI tab t cs (.g (.agg cs')) := ⟨ti, h.e.1, by
  obtain ⟨h3, h4, h5⟩ := h.e
  have := h2.l
  have h6 := h2.e
  simp at h6
  simp only [aLoadImm, h4, if_true, h5]
  rw [if_pos (by omega), h6]⟩
structure LD (tab : Tab) (hl : List (Nat × Block)) (t : TypeId) (p v : PV) : Prop where
  e : aLoad tab (lookH hl) t p = some (v, [])
theorem LD_box {t : TypeId} {id off : Nat} {cs : List PV} {v : PV} (hb : HL hl id (.box cs)) (hv : LB tab t off cs v) : LD tab hl t (.ptr id off) v := ⟨by obtain ⟨ti, h1, h2⟩ := hv.e; exact ld_box h1 hb.e h2⟩
theorem LD_imm {t : TypeId} {cs : List GV} {v : PV} (hv : LI tab t cs v) : LD tab hl t (.iptr cs) v := ⟨by obtain ⟨ti, h1, h2⟩ := hv.e; exact ld_imm h1 h2⟩
theorem LD_ibox {t : TypeId} {cs : List GV} {v : PV} (hv : LI tab t cs v) : LD tab hl t (.g (.box cs)) v := ⟨by obtain ⟨ti, h1, h2⟩ := hv.e; exact ld_ibox h1 h2⟩
theorem LD_elt {t : TypeId} {id k j e : Nat} {dp : Bool} {xs : List GV} {x : GV} {cs cs' : List GV} {v : PV} (hb : HL hl id (.arr e dp xs)) (hx : ITM xs (k : Int) x) (hc : CG x cs) (hj : Dr cs j cs') (hv : LI tab t cs' v) : LD tab hl t (.eptr id k j) v := ⟨by
  obtain ⟨ti, h1, h2⟩ := hv.e
  have h3 := hx.e
  simp only [Int.toNat_natCast] at h3
  exact ld_elt h1 hb.e h3 hc.t (by rw [hc.e, hj.e]; exact h2)⟩
theorem X_load {t : TypeId} {x : Operand} {p v : PV} (hd : RF (hasB d n = true)) (hx : EV sl tab 0 x p) (hv : LD tab hl t p v) (h4 : AF dr P tab ops (i + 1) os n ((d, v) :: sl) hl nx (acc ++ [tcX tab i n sl hl nx ⟨some d, .load t x, ty, pos, af, none⟩ []]) K) : AF dr P tab ops i (⟨some d, .load t x, ty, pos, af, none⟩ :: os) n sl hl nx acc K :=
  X_any (ws := []) (has_X hd) (by simp only [aOp, hx.e]; exact hv.e) h4
structure ST (tab : Tab) (nid : Nat) (hl : List (Nat × Block)) (t : TypeId) (p v : PV) (ws : List (Nat × Block)) : Prop where
  e : aStore tab nid (lookH hl) t p v = some (.none_, ws)
theorem ST_box {nid : Nat} {t : TypeId} {ti : TI} {id off sz : Nat} {cs cs' ps : List PV} {p : PV} (hb : HL hl id (.box cs)) (hp : CP p ps) (ht : RF (tab t = some ti ∧ ti.size = sz)) (hs : RF (ps.length = sz)) (hc : SetL cs off ps cs') : ST tab nid hl t (.ptr id off) p [(id, .box cs')] := ⟨by
  obtain ⟨h1, h2⟩ := ht.e
  have h3 := hs.e
  have h4 := hc.l
  have h5 := hc.e
  subst h2
  simp only [aStore, h1, hb.e, hp.v, hp.e, h3, Bool.true_and, beq_self_eq_true, h5]
  rw [if_pos (by simpa using (by omega : off + ti.size ≤ cs.length))]⟩
theorem ST_arr {nid : Nat} {t : TypeId} {ti : TI} {id k : Nat} {dp : Bool} {xs ys : List GV} {g : GV} (hb : HL hl id (.arr 1 dp xs)) (ht : RF (tab t = some ti ∧ ti.size = 1)) (hg : RF (g.atom = true)) (hf : HL hl nid .free) (hy : PUT xs k g ys) (hk : NU (k < xs.length)) : ST tab nid hl t (.eptr id k 0) (.g g) [(id, .arr 1 dp ys)] := ⟨by
  obtain ⟨h1, h2⟩ := ht.e
  have hg := hg.e
  have e1 : g.ncells = 1 := by cases g <;> simp_all [GV.atom, GV.ncells]
  have e2 : g.isTup = false := by cases g <;> simp_all [GV.atom, GV.isTup]
  have e3 : g.flat = true := by cases g <;> simp_all [GV.atom, GV.flat]
  have e4 : absE (lookH hl) (.g g) = some (g, [], true) := by simp [absE, absorb, e3]
  have hk := hk.e
  have hy := hy.e
  subst hy
  simp only [aStore, h1, hb.e, h2, hk, hf.e, isFree, and_self, if_true, e4, e1, e2, List.not_mem_nil, not_false_eq_true, kills, List.map_nil, List.nil_append, Bool.and_true]⟩
structure NP (hl : List (Nat × Block)) (p : PV) : Prop where
  e : p.isPtr (lookH hl) = true
theorem NP_ptr {id o : Nat} {cs : List PV} (h : HL hl id (.box cs)) : NP hl (.ptr id o) := ⟨by simp only [PV.isPtr, h.e]⟩
theorem NP_eptr {id k j e : Nat} {dp : Bool} {xs : List GV} (h : HL hl id (.arr e dp xs)) : NP hl (.eptr id k j) := ⟨by simp only [PV.isPtr, h.e]⟩
theorem NP_iptr (cs : List GV) : NP hl (.iptr cs) := ⟨rfl⟩
theorem NP_gbox (cs : List GV) : NP hl (.g (.box cs)) := ⟨rfl⟩
theorem NP_fn (f : FuncId) (cs : List PV) : NP hl (.fn f cs) := ⟨rfl⟩
theorem X_nilc {x : Operand} {p : PV} (hd : RF (hasB d n = true)) (hx : EV sl tab 0 x p) (hp : NP hl p) (h4 : AF dr P tab ops (i + 1) os n ((d, p) :: sl) hl nx (acc ++ [tcX tab i n sl hl nx ⟨some d, .nilCheck x, ty, pos, af, none⟩ []]) K) : AF dr P tab ops i (⟨some d, .nilCheck x, ty, pos, af, none⟩ :: os) n sl hl nx acc K :=
  X_any (ws := []) (has_X hd) (by simp only [aOp, hx.e, aNil]; rw [if_pos]; exact hp.e) h4
structure FL (tab : Tab) (hl : List (Nat × Block)) (s : TypeId) (x : PV) (f : Nat) (v : PV) : Prop where
  e : aField tab (lookH hl) s x f = some (v, [])
structure FO' (tab : Tab) (s : TypeId) (f off : Nat) : Prop where
  e : ∃ ti fs ft fi, tab s = some ti ∧ ti.kind = .st fs ∧ fs[f]? = some (off, ft) ∧ tab ft = some fi ∧ Nat.beq fi.size 0 = false
def FO (tab : Tab) (s : TypeId) (f off : Nat) : Prop := FO' tab s f off
theorem FO.mk {tab : Tab} {s : TypeId} {f off : Nat} (h : FO' tab s f off) : FO tab s f off := h
theorem FO.e {tab : Tab} {s : TypeId} {f off : Nat} (h : FO tab s f off) : ∃ ti fs ft fi, tab s = some ti ∧ ti.kind = .st fs ∧ fs[f]? = some (off, ft) ∧ tab ft = some fi ∧ Nat.beq fi.size 0 = false := @FO'.e _ _ _ _ h
theorem FO_mk {s : TypeId} {f off : Nat} {ti fi : TI} {fs : List (Nat × TypeId)} {ft : TypeId} (h1 : tab s = some ti) (h2 : ti.kind = .st fs) (h3 : fs[f]? = some (off, ft)) (h4 : tab ft = some fi) (h5 : Nat.beq fi.size 0 = false) : FO tab s f off := FO.mk ⟨ti, fs, ft, fi, h1, h2, h3, h4, h5⟩
theorem FL_ptr {s : TypeId} {f off id o : Nat} {cs : List PV} (ho : FO tab s f off) (h : HL hl id (.box cs)) : FL tab hl s (.ptr id o) f (.ptr id (o + off)) := ⟨by
  obtain ⟨ti, fs, ft, fi, h1, h2, h3, h4, h5⟩ := ho.e
  have h6 : ¬ fi.size = 0 := by intro e; rw [e] at h5; simp at h5
  simp only [aField, h1, h2, h3, h4, h6, PV.isPtr, h.e, if_false, if_true]⟩
theorem FL_eptr {s : TypeId} {f off id k j e : Nat} {dp : Bool} {xs : List GV} (ho : FO tab s f off) (h : HL hl id (.arr e dp xs)) : FL tab hl s (.eptr id k j) f (.eptr id k (j + off)) := ⟨by
  obtain ⟨ti, fs, ft, fi, h1, h2, h3, h4, h5⟩ := ho.e
  have h6 : ¬ fi.size = 0 := by intro e; rw [e] at h5; simp at h5
  simp only [aField, h1, h2, h3, h4, h6, PV.isPtr, h.e, if_false, if_true]⟩
theorem FL_iptr {s : TypeId} {f off : Nat} {cs cs' : List GV} (ho : FO tab s f off) (h : Dr cs off cs') : FL tab hl s (.iptr cs) f (.iptr cs') := ⟨by
  obtain ⟨ti, fs, ft, fi, h1, h2, h3, h4, h5⟩ := ho.e
  have h6 : ¬ fi.size = 0 := by intro e; rw [e] at h5; simp at h5
  simp only [aField, h1, h2, h3, h4, h6, if_false, h.e]⟩
theorem FL_gbox {s : TypeId} {f off : Nat} {cs cs' : List GV} (ho : FO tab s f off) (h : Dr cs off cs') : FL tab hl s (.g (.box cs)) f (.iptr cs') := ⟨by
  obtain ⟨ti, fs, ft, fi, h1, h2, h3, h4, h5⟩ := ho.e
  have h6 : ¬ fi.size = 0 := by intro e; rw [e] at h5; simp at h5
  simp only [aField, h1, h2, h3, h4, h6, if_false, h.e]⟩
theorem X_fld {s : TypeId} {x : Operand} {f : Nat} {p v : PV} (hd : RF (hasB d n = true)) (hx : EV sl tab 0 x p) (hv : FL tab hl s p f v) (h4 : AF dr P tab ops (i + 1) os n ((d, v) :: sl) hl nx (acc ++ [tcX tab i n sl hl nx ⟨some d, .fieldAddr s x f, ty, pos, af, none⟩ []]) K) : AF dr P tab ops i (⟨some d, .fieldAddr s x f, ty, pos, af, none⟩ :: os) n sl hl nx acc K :=
  X_any (ws := []) (has_X hd) (by simp only [aOp, hx.e]; exact hv.e) h4
structure PT (tab : Tab) (t : TypeId) (x : PV) (f : Nat) (v : PV) : Prop where
  e : aPart tab t x f = some (v, [])
structure FO1' (tab : Tab) (s : TypeId) (f off : Nat) : Prop where
  e : ∃ ti fs ft fi, tab s = some ti ∧ ti.kind = .st fs ∧ fs[f]? = some (off, ft) ∧ tab ft = some fi ∧ fi.kind.agg = false
def FO1 (tab : Tab) (s : TypeId) (f off : Nat) : Prop := FO1' tab s f off
theorem FO1.mk {tab : Tab} {s : TypeId} {f off : Nat} (h : FO1' tab s f off) : FO1 tab s f off := h
theorem FO1.e {tab : Tab} {s : TypeId} {f off : Nat} (h : FO1 tab s f off) : ∃ ti fs ft fi, tab s = some ti ∧ ti.kind = .st fs ∧ fs[f]? = some (off, ft) ∧ tab ft = some fi ∧ fi.kind.agg = false := @FO1'.e _ _ _ _ h
theorem FO1_mk {s : TypeId} {f off : Nat} {ti fi : TI} {fs : List (Nat × TypeId)} {ft : TypeId} (h1 : tab s = some ti) (h2 : ti.kind = .st fs) (h3 : fs[f]? = some (off, ft)) (h4 : tab ft = some fi) (h5 : fi.kind.agg = false) : FO1 tab s f off := FO1.mk ⟨ti, fs, ft, fi, h1, h2, h3, h4, h5⟩
theorem PT_agg {t : TypeId} {f off : Nat} {cs : List PV} {v : PV} (ho : FO1 tab t f off) (h : Idx cs off v) : PT tab t (.agg cs) f v := ⟨by
  obtain ⟨ti, fs, ft, fi, h1, h2, h3, h4, h5⟩ := ho.e
  simp only [aPart, h1, h2, h3, h4, h5, Bool.false_eq_true, if_false, h.e]⟩
theorem PT_gagg {t : TypeId} {f off : Nat} {cs : List GV} {v : GV} (ho : FO1 tab t f off) (h : Idx cs off v) : PT tab t (.g (.agg cs)) f (.g v) := ⟨by
  obtain ⟨ti, fs, ft, fi, h1, h2, h3, h4, h5⟩ := ho.e
  simp only [aPart, h1, h2, h3, h4, h5, Bool.false_eq_true, if_false, h.e]⟩
theorem X_part {t : TypeId} {x : Operand} {f : Nat} {p v : PV} (hd : RF (hasB d n = true)) (hx : EV sl tab 0 x p) (hv : PT tab t p f v) (h4 : AF dr P tab ops (i + 1) os n ((d, v) :: sl) hl nx (acc ++ [tcX tab i n sl hl nx ⟨some d, .field t x f, ty, pos, af, none⟩ []]) K) : AF dr P tab ops i (⟨some d, .field t x f, ty, pos, af, none⟩ :: os) n sl hl nx acc K :=
  X_any (ws := []) (has_X hd) (by simp only [aOp, hx.e, hv.e]) h4
structure IX (tab : Tab) (hl : List (Nat × Block)) (t : TypeId) (x i v : PV) : Prop where
  e : aIndex tab (lookH hl) t x i = some (v, [])
theorem IX_own {t : TypeId} {E e : Nat} {id lo len : Nat} {dp : Bool} {xs : List GV} {k : IntKind} {m : Int} (ht : SLT tab t E e) (hb : HL hl id (.arr (e + 1) dp xs)) (hn : NU (0 ≤ m ∧ m < (len : Int))) : IX tab hl t (.own id lo len) (.g (.int k m)) (.eptr id (lo + m.toNat) 0) := ⟨by
  obtain ⟨ti, ei, h1, h2, h3, h4⟩ := ht.h
  simp only [aIndex, h1, h2, h3, h4, hb.e, hn.e, and_self, if_true]⟩
theorem IX_own0 {t : TypeId} {E e : Nat} {id len : Nat} {dp : Bool} {xs : List GV} {k : IntKind} {m : Nat} (ht : SLT tab t E e) (hb : HL hl id (.arr (e + 1) dp xs)) (hn : NU (m < len)) : IX tab hl t (.own id 0 len) (.g (.int k (m : Int))) (.eptr id m 0) := ⟨by
  have := (IX_own (k := k) (lo := 0) ht hb (len := len) (m := (m : Int)) (NU.mk (by have := hn.e; omega))).e
  simpa using this⟩
theorem IX_g {t : TypeId} {E e : Nat} {xs : List GV} {k : IntKind} {m : Int} {g : GV} {cs : List GV} (ht : SLT tab t E e) (hg : ITM xs m g) (hc : CG g cs) : IX tab hl t (.g (.sl (e + 1) xs)) (.g (.int k m)) (.iptr cs) := ⟨by
  obtain ⟨ti, ei, h1, h2, h3, h4⟩ := ht.h
  have hgd : xs.getD m.toNat default = g := by simp [List.getD, hg.e]
  simp only [aIndex, h1, h2, h3, h4, hg.l, hgd, hc.t, hc.e, and_self, if_true]⟩
theorem IX_ge {t : TypeId} {E e : Nat} {u : Value} {xs : List GV} {k : IntKind} {m : Int} {g : GV} {cs : List GV} (ht : SLT tab t E e) (hg : ITM xs m g) (hc : CG g cs) : IX tab hl t (.g (.ex u (e + 1) xs)) (.g (.int k m)) (.iptr cs) := ⟨by
  obtain ⟨ti, ei, h1, h2, h3, h4⟩ := ht.h
  have hgd : xs.getD m.toNat default = g := by simp [List.getD, hg.e]
  simp only [aIndex, h1, h2, h3, h4, hg.l, hgd, hc.t, hc.e, and_self, if_true]⟩
structure ART (tab : Tab) (t : TypeId) (m : Nat) : Prop where
  e : ∃ ti E ei, tab t = some ti ∧ ti.kind = .ar m E ∧ tab E = some ei ∧ ei.size = 1 ∧ ei.kind.agg = false
def arB (tab : Tab) (t : TypeId) (m : Nat) : Bool :=
  match tab t with
  | some ti => match ti.kind with
    | .ar m' E => match tab E with
      | some ei => Nat.beq m' m && Nat.beq ei.size 1 && !ei.kind.agg
      | none => false
    | _ => false
  | none => false
theorem ART.of {t : TypeId} {m : Nat} (h : RF (arB tab t m = true)) : ART tab t m := by
  have h := h.e
  unfold arB at h
  split at h
  · rename_i ti hti
    split at h
    · rename_i m' E hk
      split at h
      · rename_i ei hE
        simp only [Bool.and_eq_true, Bool.not_eq_true'] at h
        have h1 := Nat.eq_of_beq_eq_true h.1.1
        subst h1
        exact ⟨ti, E, ei, hti, hk, hE, Nat.eq_of_beq_eq_true h.1.2, h.2⟩
      · cases h
    · cases h
  · cases h
theorem IX_ae0 {t : TypeId} {id k j e : Nat} {dp : Bool} {xs : List GV} {kk : IntKind} (ht : RF (arB tab t 2 = true)) (hb : HL hl id (.arr e dp xs)) : IX tab hl t (.eptr id k j) (.g (.int kk 0)) (.eptr id k j) := ⟨by
  obtain ⟨ti, E, ei, h1, h2, h3, h4, _⟩ := (ART.of ht).e
  simp [aIndex, h1, h2, h3, h4, PV.isPtr, hb.e]⟩
theorem IX_ae1 {t : TypeId} {id k j e : Nat} {dp : Bool} {xs : List GV} {kk : IntKind} (ht : RF (arB tab t 2 = true)) (hb : HL hl id (.arr e dp xs)) : IX tab hl t (.eptr id k j) (.g (.int kk 1)) (.eptr id k (j + 1)) := ⟨by
  obtain ⟨ti, E, ei, h1, h2, h3, h4, _⟩ := (ART.of ht).e
  simp [aIndex, h1, h2, h3, h4, PV.isPtr, hb.e]⟩
theorem IX_ap0 {t : TypeId} {id j : Nat} {cs : List PV} {kk : IntKind} (ht : RF (arB tab t 2 = true)) (hb : HL hl id (.box cs)) : IX tab hl t (.ptr id j) (.g (.int kk 0)) (.ptr id j) := ⟨by
  obtain ⟨ti, E, ei, h1, h2, h3, h4, _⟩ := (ART.of ht).e
  simp [aIndex, h1, h2, h3, h4, PV.isPtr, hb.e]⟩
theorem IX_ap1 {t : TypeId} {id j : Nat} {cs : List PV} {kk : IntKind} (ht : RF (arB tab t 2 = true)) (hb : HL hl id (.box cs)) : IX tab hl t (.ptr id j) (.g (.int kk 1)) (.ptr id (j + 1)) := ⟨by
  obtain ⟨ti, E, ei, h1, h2, h3, h4, _⟩ := (ART.of ht).e
  simp [aIndex, h1, h2, h3, h4, PV.isPtr, hb.e]⟩
theorem IX_apn {t : TypeId} {id m : Nat} {cs : List PV} {kk : IntKind} (ht : RF (arB tab t 2 = true)) (hb : HL hl id (.box cs)) (hm : NU (m < 2)) : IX tab hl t (.ptr id 0) (.g (.int kk (m : Int))) (.ptr id m) := ⟨by
  obtain ⟨ti, E, ei, h1, h2, h3, h4, _⟩ := (ART.of ht).e
  have h5 := hb.e
  have h6 := hm.e
  have h7 : (0 : Int) ≤ (m : Int) ∧ (m : Int) < ((2 : Nat) : Int) := by omega
  simp only [aIndex, h1, h2, h3, h4, h7, and_self, if_true, PV.isPtr, h5, Int.toNat_natCast, Nat.zero_add, Nat.mul_one]⟩
theorem LD_ptn {t : TypeId} {id m : Nat} {cs : List PV} {a b : Int} (hb : HL hl id (.box cs)) (h0 : LB tab t 0 cs (.g (.int .i64 a))) (h1 : LB tab t 1 cs (.g (.int .i64 b))) (hm : NU (m < 2)) : LD tab hl t (.ptr id m) (.g (.int .i64 (if (m : Int) = 0 then a else b))) := by
  have h6 := hm.e
  have h : m = 0 ∨ m = 1 := by omega
  rcases h with rfl | rfl
  · exact LD_box hb h0
  · exact LD_box hb h1
theorem IX_ai0 {t : TypeId} {cs : List GV} {kk : IntKind} (ht : RF (arB tab t 2 = true)) : IX tab hl t (.iptr cs) (.g (.int kk 0)) (.iptr cs) := ⟨by
  obtain ⟨ti, E, ei, h1, h2, h3, h4, _⟩ := (ART.of ht).e
  simp [aIndex, h1, h2, h3, h4]⟩
theorem IX_ai1 {t : TypeId} {c : GV} {cs : List GV} {kk : IntKind} (ht : RF (arB tab t 2 = true)) : IX tab hl t (.iptr (c :: cs)) (.g (.int kk 1)) (.iptr cs) := ⟨by
  obtain ⟨ti, E, ei, h1, h2, h3, h4, _⟩ := (ART.of ht).e
  simp [aIndex, h1, h2, h3, h4]⟩
theorem IX_ab0 {t : TypeId} {cs : List GV} {kk : IntKind} (ht : RF (arB tab t 2 = true)) : IX tab hl t (.g (.box cs)) (.g (.int kk 0)) (.iptr cs) := ⟨by
  obtain ⟨ti, E, ei, h1, h2, h3, h4, _⟩ := (ART.of ht).e
  simp [aIndex, h1, h2, h3, h4]⟩
theorem IX_ab1 {t : TypeId} {c : GV} {cs : List GV} {kk : IntKind} (ht : RF (arB tab t 2 = true)) : IX tab hl t (.g (.box (c :: cs))) (.g (.int kk 1)) (.iptr cs) := ⟨by
  obtain ⟨ti, E, ei, h1, h2, h3, h4, _⟩ := (ART.of ht).e
  simp [aIndex, h1, h2, h3, h4]⟩
theorem IX_abm {α : Type} {f : α → GV} {ys : List α} {t : TypeId} {kk : IntKind} {n : Int} {m : Nat} (ht : RF (arK tab t = m)) (hn : NU (0 ≤ n ∧ n < (m : Int) ∧ m = ys.length)) : IX tab hl t (.g (.box (ys.map f))) (.g (.int kk n)) (.iptr ((ys.map f).drop n.toNat)) := ⟨by
  have hn := hn.e
  obtain ⟨ti, E, ei, h1, h2, h3, h4, h5, _⟩ := arK_inv ht.e (by omega)
  simp [aIndex, h1, h2, h3, h4, hn.1, hn.2.1]⟩
structure IDX (tab : Tab) (t : TypeId) (x i v : PV) : Prop where
  e : aIdx tab t x i = some (v, [])
theorem IDX_m {α : Type} [Inhabited α] {f : α → GV} {ys : List α} {t : TypeId} {kk : IntKind} {n : Int} {m : Nat} (ht : RF (arK tab t = m)) (hn : NU (0 ≤ n ∧ n < (m : Int) ∧ m = ys.length)) : IDX tab t (.g (.agg (ys.map f))) (.g (.int kk n)) (.g (f (nth ys n.toNat))) := ⟨by
  have hn := hn.e
  obtain ⟨ti, E, ei, h1, h2, h3, h4, h5, _⟩ := arK_inv ht.e (by omega)
  have h6 : n.toNat < ys.length := by omega
  simp [aIdx, h1, h2, h3, h4, h5, hn.1, hn.2.1, h6, nth_eq h6]⟩
def bat (s : ByteArray) (k : Nat) : Nat := (s.data.getD k 0).toNat
def strT (tab : Tab) (t : TypeId) : Bool := match tab t with
  | some ti => match ti.kind with
    | .str => true
    | _ => false
  | none => false
theorem strT_inv {t : TypeId} (h : strT tab t = true) : ∃ ti, tab t = some ti ∧ ti.kind = .str := by
  unfold strT at h
  split at h
  · rename_i ti hti
    split at h
    · rename_i hk; exact ⟨ti, hti, hk⟩
    · cases h
  · cases h
theorem IDX_s {s : ByteArray} {t : TypeId} {kk : IntKind} {n : Int} (ht : RF (strT tab t = true)) (hn : NU (0 ≤ n ∧ n < (s.size : Int))) : IDX tab t (.g (.str s)) (.g (.int kk n)) (.g (.int .u8 (bat s n.toNat))) := ⟨by
  have hn := hn.e
  obtain ⟨ti, h1, h2⟩ := strT_inv ht.e
  have h6 : n.toNat < s.size := by omega
  have h7 : s[n.toNat]? = some (s.data[n.toNat]'h6) := by
    rw [getElem?_pos s n.toNat h6]; rfl
  simp [aIdx, h1, h2, hn.1, h7, bat, Array.getD, h6]
  rfl⟩
theorem IDX_v0 {t : TypeId} {a b : PV} {kk : IntKind} (ht : RF (arB tab t 2 = true)) : IDX tab t (.agg [a, b]) (.g (.int kk 0)) a := ⟨by
  obtain ⟨ti, E, ei, h1, h2, h3, h4, h5⟩ := (ART.of ht).e
  simp [aIdx, h1, h2, h3, h4, h5]⟩
theorem IDX_v1 {t : TypeId} {a b : PV} {kk : IntKind} (ht : RF (arB tab t 2 = true)) : IDX tab t (.agg [a, b]) (.g (.int kk 1)) b := ⟨by
  obtain ⟨ti, E, ei, h1, h2, h3, h4, h5⟩ := (ART.of ht).e
  simp [aIdx, h1, h2, h3, h4, h5]⟩
theorem IDX_g0 {t : TypeId} {a b : GV} {kk : IntKind} (ht : RF (arB tab t 2 = true)) : IDX tab t (.g (.agg [a, b])) (.g (.int kk 0)) (.g a) := ⟨by
  obtain ⟨ti, E, ei, h1, h2, h3, h4, h5⟩ := (ART.of ht).e
  simp [aIdx, h1, h2, h3, h4, h5]⟩
theorem IDX_g1 {t : TypeId} {a b : GV} {kk : IntKind} (ht : RF (arB tab t 2 = true)) : IDX tab t (.g (.agg [a, b])) (.g (.int kk 1)) (.g b) := ⟨by
  obtain ⟨ti, E, ei, h1, h2, h3, h4, h5⟩ := (ART.of ht).e
  simp [aIdx, h1, h2, h3, h4, h5]⟩
theorem IDX_gn {t : TypeId} {a b : Int} {kk : IntKind} {m : Int} (ht : RF (arB tab t 2 = true)) (hm : NU (0 ≤ m ∧ m ≤ 1)) : IDX tab t (.g (.agg [.int .i64 a, .int .i64 b])) (.g (.int kk m)) (.g (.int .i64 (if m = 0 then a else b))) := ⟨by
  obtain ⟨ti, E, ei, h1, h2, h3, h4, h5⟩ := (ART.of ht).e
  have hm := hm.e
  have : m = 0 ∨ m = 1 := by omega
  rcases this with rfl | rfl <;> simp [aIdx, h1, h2, h3, h4, h5]⟩
theorem X_idx {t : TypeId} {x y : Operand} {p q v : PV} (hd : RF (hasB d n = true)) (hx : EV sl tab 0 x p) (hy : EV sl tab 0 y q) (hv : IDX tab t p q v) (h4 : AF dr P tab ops (i + 1) os n ((d, v) :: sl) hl nx (acc ++ [tcX tab i n sl hl nx ⟨some d, .index t x y, ty, pos, af, none⟩ []]) K) : AF dr P tab ops i (⟨some d, .index t x y, ty, pos, af, none⟩ :: os) n sl hl nx acc K :=
  X_any (ws := []) (has_X hd) (by simp only [aOp, hx.e, hy.e]; exact hv.e) h4
theorem X_ix {t : TypeId} {x y : Operand} {p q v : PV} (hd : RF (hasB d n = true)) (hx : EV sl tab 0 x p) (hy : EV sl tab 0 y q) (hv : IX tab hl t p q v) (h4 : AF dr P tab ops (i + 1) os n ((d, v) :: sl) hl nx (acc ++ [tcX tab i n sl hl nx ⟨some d, .indexAddr t x y, ty, pos, af, none⟩ []]) K) : AF dr P tab ops i (⟨some d, .indexAddr t x y, ty, pos, af, none⟩ :: os) n sl hl nx acc K :=
  X_any (ws := []) (has_X hd) (by simp only [aOp, hx.e, hy.e]; exact hv.e) h4
structure BD (sl : List (Nat × PV)) (tab : Tab) (x : Option Operand) (m : Nat) (v : Int) : Prop where
  e : ∀ n hl nx, bnd (x.map ((mkX n sl hl nx).ev tab 0)) m = some v
theorem BD_none (sl : List (Nat × PV)) (m : Nat) : BD sl tab none m (m : Int) := ⟨fun _ _ _ => rfl⟩
theorem BD_some {x : Operand} {m : Nat} {k : IntKind} {v : Int} (h : EV sl tab 0 x (.g (.int k v))) : BD sl tab (some x) m v := ⟨fun _ _ _ => by simp only [Option.map_some, h.e, bnd]⟩
structure SLI (sl : List (Nat × PV)) (tab : Tab) (hl : List (Nat × Block)) (t : TypeId) (x : PV) (lo hi : Option Operand) (v : PV) : Prop where
  e : ∀ n nx, aSlc tab (lookH hl) t x (lo.map ((mkX n sl hl nx).ev tab 0)) (hi.map ((mkX n sl hl nx).ev tab 0)) = some (v, [])
theorem SLI_own {t : TypeId} {E e : Nat} {id l0 len : Nat} {dp : Bool} {xs : List GV} {lo hi : Option Operand} {l u : Int} (ht : SLT tab t E e) (hb : HL hl id (.arr (e + 1) dp xs)) (h5 : BD sl tab lo 0 l) (h6 : BD sl tab hi len u) (hn : NU (0 ≤ l ∧ l ≤ u ∧ u ≤ (len : Int))) : SLI sl tab hl t (.own id l0 len) lo hi (.own id (l0 + l.toNat) (u.toNat - l.toNat)) := ⟨fun n nx => by
  obtain ⟨ti, ei, h1, h2, h3, h4⟩ := ht.h
  refine aSlc_of ?_
  simp only [aSlice, h1, h2, h3, h4, hb.e, h5.e n hl nx, h6.e n hl nx, hn.e, and_self, if_true]⟩
structure CUG' (xs : List GV) (l u : Int) (ys : List GV) : Prop where
  e : (xs.drop l.toNat).take (u.toNat - l.toNat) = ys
  l : 0 ≤ l ∧ l ≤ u ∧ u ≤ (xs.length : Int)
def CUG (xs : List GV) (l u : Int) (ys : List GV) : Prop := CUG' xs l u ys
theorem CUG.mk {xs : List GV} {l u : Int} {ys : List GV} (h : CUG' xs l u ys) : CUG xs l u ys := h
theorem CUG.e {xs : List GV} {l u : Int} {ys : List GV} (h : CUG xs l u ys) : (xs.drop l.toNat).take (u.toNat - l.toNat) = ys := @CUG'.e _ _ _ _ h
theorem CUG.l {xs : List GV} {l u : Int} {ys : List GV} (h : CUG xs l u ys) : 0 ≤ l ∧ l ≤ u ∧ u ≤ (xs.length : Int) := @CUG'.l _ _ _ _ h
theorem CUG_mapT {α : Type} {f : α → GV} {ys : List α} {u : Int} (h : NU (0 ≤ u ∧ u ≤ (ys.length : Int))) : CUG (ys.map f) 0 u ((ys.take u.toNat).map f) := CUG.mk ⟨by simp [List.map_take], by have := h.e; simp; omega⟩
theorem CUG_mapD {α : Type} {f : α → GV} {ys : List α} {l : Int} {u : Nat} (h : NU (0 ≤ l ∧ l ≤ (ys.length : Int))) (hu : u = (ys.map f).length) : CUG (ys.map f) l (u : Int) ((ys.drop l.toNat).map f) := CUG.mk ⟨by
  subst hu
  rw [List.map_drop, List.take_of_length_le (by simp)], by have := h.e; subst hu; simp; omega⟩
theorem CUG_map {α : Type} {f : α → GV} {ys : List α} {l u : Int} (h : NU (0 ≤ l ∧ l ≤ u ∧ u ≤ (ys.length : Int))) : CUG (ys.map f) l u (((ys.drop l.toNat).take (u.toNat - l.toNat)).map f) := CUG.mk ⟨by rw [List.map_take, List.map_drop], by have := h.e; simp; omega⟩
theorem CUG_any {xs : List GV} {l u : Int} (h : NU (0 ≤ l ∧ l ≤ u ∧ u ≤ (xs.length : Int))) : CUG xs l u ((xs.drop l.toNat).take (u.toNat - l.toNat)) := CUG.mk ⟨rfl, h.e⟩
theorem SLI_g {t : TypeId} {E e : Nat} {xs ys : List GV} {lo hi : Option Operand} {l u : Int} (ht : SLT tab t E e) (h5 : BD sl tab lo 0 l) (h6 : BD sl tab hi xs.length u) (hn : CUG xs l u ys) : SLI sl tab hl t (.g (.sl (e + 1) xs)) lo hi (.g (.sl (e + 1) ys)) := ⟨fun n nx => by
  obtain ⟨ti, ei, h1, h2, h3, h4⟩ := ht.h
  refine aSlc_of ?_
  simp only [aSlice, h1, h2, h3, h4, h5.e n hl nx, h6.e n hl nx, hn.l, and_self, if_true, hn.e]⟩
theorem SLI_s {t : TypeId} {s : ByteArray} {lo hi : Option Operand} {l u : Int} (ht : RF (strT tab t = true)) (h5 : BD sl tab lo 0 l) (h6 : BD sl tab hi s.size u) (hn : NU (0 ≤ l ∧ l ≤ u ∧ u ≤ (s.size : Int))) : SLI sl tab hl t (.g (.str s)) lo hi (.g (.str (s.extract l.toNat u.toNat))) := ⟨fun n nx => by
  obtain ⟨ti, h1, h2⟩ := strT_inv ht.e
  simp only [aSlc, aSlice, h1, h2, h5.e n hl nx, h6.e n hl nx, hn.e, and_self, if_true]⟩
theorem X_slice {t : TypeId} {x : Operand} {lo hi : Option Operand} {p v : PV} (hd : RF (hasB d n = true)) (hx : EV sl tab 0 x p) (hv : SLI sl tab hl t p lo hi v) (h4 : AF dr P tab ops (i + 1) os n ((d, v) :: sl) hl nx (acc ++ [tcX tab i n sl hl nx ⟨some d, .slice t x lo hi none, ty, pos, af, none⟩ []]) K) : AF dr P tab ops i (⟨some d, .slice t x lo hi none, ty, pos, af, none⟩ :: os) n sl hl nx acc K :=
  X_any (ws := []) (has_X hd) (by simp only [aOp, hx.e]; exact hv.e n nx) h4
end
end Go.Proofs.YtachnjinfdagjaaDoor
namespace Go.Proofs.YtachnjinfdagjaaDoor
open Go.RowKit
open Shp
section
variable {tab : Tab} {sl : List (Nat × PV)} {hl : List (Nat × Block)}
theorem HL_deadN {j : Nat} {B : Block} (h : HL hl j B) : HL (deadL [] hl) j B := h
theorem HL_deadC {k j : Nat} {ks : List Nat} {B : Block} (h : HL (deadL ks ((k, .dead) :: hl)) j B) : HL (deadL (k :: ks) hl) j B := h
theorem deadL_app : ∀ (ws vs : List Nat) (hl : List (Nat × Block)), deadL (ws ++ vs) hl = deadL vs (deadL ws hl)
  | [], _, _ => rfl
  | w :: ws, vs, hl => deadL_app ws vs ((w, .dead) :: hl)
theorem HL_deadA {j : Nat} {ws vs : List Nat} {B : Block} (h : HL (deadL vs (deadL ws hl)) j B) : HL (deadL (ws ++ vs) hl) j B := by rw [deadL_app]; exact h
structure AND (a b c : Bool) : Prop where
  e : (a && b) = c
theorem AND_tt : AND true true true := ⟨rfl⟩
theorem AND_f (b : Bool) : AND false b false := ⟨rfl⟩
theorem AND_tf : AND true false false := ⟨rfl⟩
theorem AND_t (b : Bool) : AND true b b := ⟨rfl⟩
structure AB (hl : List (Nat × Block)) (p : PV) (x : GV) (ks : List Nat) (d : Bool) : Prop where
  e : absorb (lookH hl) p = some (x, ks, d)
theorem AB_g {v : GV} {b : Bool} (hf : RF (v.flat = b)) : AB hl (.g v) v [] b := ⟨by simp only [absorb, hf.e]⟩
theorem AB_gi (k : IntKind) (n : Int) : AB hl (.g (.int k n)) (.int k n) [] true := AB_g (RF.mk rfl)
theorem AB_gb (b : Bool) : AB hl (.g (.bool b)) (.bool b) [] true := AB_g (RF.mk rfl)
theorem AB_gs (b : ByteArray) : AB hl (.g (.str b)) (.str b) [] true := AB_g (RF.mk rfl)
theorem AB_gl (e : Nat) (xs : List GV) : AB hl (.g (.sl e xs)) (.sl e xs) [] false := AB_g (RF.mk rfl)
theorem AB_nils (e : Nat) : AB hl (.nils (e + 1)) (.sl (e + 1) []) [] true := ⟨by simp [absorb]⟩
theorem AB_own {id lo len e : Nat} {dp : Bool} {xs ys : List GV} (hb : HL hl id (.arr e dp xs)) (hc : CUT xs lo len ys) : AB hl (.own id lo len) (.sl e ys) [id] dp := ⟨by
  have h1 := hc.l
  simp only [absorb, hb.e, h1, if_true, hc.e]⟩
structure ABL (hl : List (Nat × Block)) (ps : List PV) (gs : List GV) (ks : List Nat) (d : Bool) : Prop where
  e : absL absorb (lookH hl) ps = some (gs, ks, d)
theorem ABL_nil (hl : List (Nat × Block)) : ABL hl [] [] [] true := ⟨rfl⟩
theorem ABL_cons {p : PV} {ps : List PV} {x : GV} {xs : List GV} {k ks : List Nat} {d ds dd : Bool} (h1 : AB hl p x k d) (h2 : ABL (deadL k hl) ps xs ks ds) (h3 : AND d ds dd) : ABL hl (p :: ps) (x :: xs) (k ++ ks) dd := ⟨by
  have h4 := h2.e
  rw [lookH_dead] at h4
  simp only [absL, h1.e, h4, h3.e]⟩
structure AE (hl : List (Nat × Block)) (p : PV) (x : GV) (ks : List Nat) (d : Bool) : Prop where
  e : absE (lookH hl) p = some (x, ks, d)
theorem AE_g {v : GV} {b : Bool} (hf : RF (v.flat = b)) : AE hl (.g v) v [] b := ⟨(AB_g (hl := hl) hf).e⟩
theorem AE_gi (k : IntKind) (n : Int) : AE hl (.g (.int k n)) (.int k n) [] true := AE_g (RF.mk rfl)
theorem AE_gb (b : Bool) : AE hl (.g (.bool b)) (.bool b) [] true := AE_g (RF.mk rfl)
theorem AE_gs (b : ByteArray) : AE hl (.g (.str b)) (.str b) [] true := AE_g (RF.mk rfl)
theorem AE_gl (e : Nat) (xs : List GV) : AE hl (.g (.sl e xs)) (.sl e xs) [] false := AE_g (RF.mk rfl)
structure ALLA (gs : List GV) (b : Bool) : Prop where
  e : gs.all GV.atom = b
theorem ALLA_nil : ALLA [] true := ⟨rfl⟩
theorem ALLA_int {k : IntKind} {n : Int} {gs : List GV} {b : Bool} (h : ALLA gs b) : ALLA (.int k n :: gs) b := ⟨by have := h.e; simpa [GV.atom] using this⟩
theorem ALLA_bool {n : Bool} {gs : List GV} {b : Bool} (h : ALLA gs b) : ALLA (.bool n :: gs) b := ⟨by have := h.e; simpa [GV.atom] using this⟩
theorem ALLA_str {n : ByteArray} {gs : List GV} {b : Bool} (h : ALLA gs b) : ALLA (.str n :: gs) b := ⟨by have := h.e; simpa [GV.atom] using this⟩
theorem ALLA_sl {e : Nat} {xs gs : List GV} : ALLA (.sl e xs :: gs) false := ⟨by simp [GV.atom]⟩
theorem AE_ga {gs : List GV} {b : Bool} (h : ALLA gs b) : AE hl (.g (.agg gs)) (.agg gs) [] b := AE_g (RF.mk h.e)
theorem AE_nils (e : Nat) : AE hl (.nils (e + 1)) (.sl (e + 1) []) [] true := ⟨(AB_nils (hl := hl) e).e⟩
theorem AE_own {id lo len e : Nat} {dp : Bool} {xs ys : List GV} (hb : HL hl id (.arr e dp xs)) (hc : CUT xs lo len ys) : AE hl (.own id lo len) (.sl e ys) [id] dp := ⟨(AB_own hb hc).e⟩
theorem AE_agg {cs : List PV} {gs : List GV} {ks : List Nat} {d : Bool} (h : ABL hl cs gs ks d) (hn : RF ((gs.all fun x => x.ncells == 1) = true)) : AE hl (.agg cs) (.agg gs) ks d := ⟨by simp only [absE, h.e, hn.e, if_true]⟩
structure AEL (hl : List (Nat × Block)) (ps : List PV) (gs : List GV) (ks : List Nat) (d : Bool) : Prop where
  e : absL absE (lookH hl) ps = some (gs, ks, d)
theorem AEL_nil (hl : List (Nat × Block)) : AEL hl [] [] [] true := ⟨rfl⟩
theorem AEL_cons {p : PV} {ps : List PV} {x : GV} {xs : List GV} {k ks : List Nat} {d ds dd : Bool} (h1 : AE hl p x k d) (h2 : AEL (deadL k hl) ps xs ks ds) (h3 : AND d ds dd) : AEL hl (p :: ps) (x :: xs) (k ++ ks) dd := ⟨by
  have h4 := h2.e
  rw [lookH_dead] at h4
  simp only [absL, h1.e, h4, h3.e]⟩
structure EVP (sl : List (Nat × PV)) (tab : Tab) (E : TypeId) (xs : List (Nat × Operand)) (ps : List PV) : Prop where
  e : ∀ n hl nx, (xs.map fun (x : Nat × Operand) => (mkX n sl hl nx).ev tab E x.2) = ps
theorem EVP_nil (sl : List (Nat × PV)) (tab : Tab) (E : TypeId) : EVP sl tab E [] [] := ⟨fun _ _ _ => rfl⟩
theorem EVP_cons {E : TypeId} {j : Nat} {x : Operand} {xs : List (Nat × Operand)} {p : PV} {ps : List PV} (h1 : EV sl tab E x p) (h2 : EVP sl tab E xs ps) : EVP sl tab E ((j, x) :: xs) (p :: ps) := ⟨fun n hl nx => by simp only [List.map_cons, h1.e, h2.e]⟩
structure EVF (sl : List (Nat × PV)) (tab : Tab) (ti : TI) (xs : List (Nat × Operand)) (ps : List (Nat × PV)) : Prop where
  e : ∀ n hl nx, (xs.map fun (x : Nat × Operand) => (x.1, (mkX n sl hl nx).ev tab (partTy ti x.1) x.2)) = ps
theorem EVF_nil (sl : List (Nat × PV)) (tab : Tab) (ti : TI) : EVF sl tab ti [] [] := ⟨fun _ _ _ => rfl⟩
theorem EVF_cons {ti : TI} {j : Nat} {x : Operand} {xs : List (Nat × Operand)} {p : PV} {ps : List (Nat × PV)} (h1 : EV sl tab (partTy ti j) x p) (h2 : EVF sl tab ti xs ps) : EVF sl tab ti ((j, x) :: xs) ((j, p) :: ps) := ⟨fun n hl nx => by simp only [List.map_cons, h1.e, h2.e]⟩
structure ARG (sl : List (Nat × PV)) (tab : Tab) (xs : List Operand) (ts : List TypeId) (ps : List PV) : Prop where
  e : ∀ n hl nx, (mkX n sl hl nx).args tab xs ts = ps
theorem ARG_nil (sl : List (Nat × PV)) (tab : Tab) (ts : List TypeId) : ARG sl tab [] ts [] := ⟨fun _ _ _ => ag_nil _ _ _⟩
theorem ARG_cons {x : Operand} {xs : List Operand} {t : TypeId} {ts : List TypeId} {p : PV} {ps : List PV} (h1 : EV sl tab t x p) (h2 : ARG sl tab xs ts ps) : ARG sl tab (x :: xs) (t :: ts) (p :: ps) := ⟨fun _ _ _ => ag_cons (h1.e _ _ _) (h2.e _ _ _)⟩
theorem ARG_cons0 {x : Operand} {xs : List Operand} {p : PV} {ps : List PV} (h1 : EV sl tab 0 x p) (h2 : ARG sl tab xs [] ps) : ARG sl tab (x :: xs) [] (p :: ps) := ⟨fun _ _ _ => ag_cons0 (h1.e _ _ _) (h2.e _ _ _)⟩
structure VW (hl : List (Nat × Block)) (n : Nat) (p : PV) (x : GV) : Prop where
  e : view (lookH hl) n p = some x
structure VWL (hl : List (Nat × Block)) (n : Nat) (ps : List PV) (xs : List GV) : Prop where
  e : viewL (view (lookH hl) n) ps = some xs
theorem VWL_nil (hl : List (Nat × Block)) (n : Nat) : VWL hl n [] [] := ⟨rfl⟩
theorem VWL_cons {n : Nat} {p : PV} {ps : List PV} {x : GV} {xs : List GV} (h1 : VW hl n p x) (h2 : VWL hl n ps xs) : VWL hl n (p :: ps) (x :: xs) := ⟨vl_cons h1.e h2.e⟩
theorem VW_g (hl : List (Nat × Block)) (n : Nat) (v : GV) : VW hl (n + 1) (.g v) v := ⟨rfl⟩
theorem VW_nils (hl : List (Nat × Block)) (n e : Nat) : VW hl (n + 1) (.nils (e + 1)) (.sl (e + 1) []) := ⟨vw_nils rfl⟩
theorem VW_own {n id lo len e : Nat} {dp : Bool} {xs ys : List GV} (hb : HL hl id (.arr e dp xs)) (hc : CUT xs lo len ys) : VW hl (n + 1) (.own id lo len) (.sl e ys) := ⟨by rw [vw_own hb.e hc.l, hc.e]⟩
theorem VW_ptr {n id : Nat} {cs : List PV} {gs : List GV} (hb : HL hl id (.box cs)) (hv : VWL hl n cs gs) (ha : RF ((gs.all fun x => x.ncells == 1) = true)) : VW hl (n + 1) (.ptr id 0) (.box gs) := ⟨vw_ptr hb.e hv.e ha.e⟩
theorem VW_agg {n : Nat} {cs : List PV} {gs : List GV} (hv : VWL hl n cs gs) (ha : RF ((gs.all fun x => x.ncells == 1) = true)) : VW hl (n + 1) (.agg cs) (.agg gs) := ⟨vw_agg hv.e ha.e⟩
theorem VW_fn {n : Nat} {f : FuncId} {cs : List PV} {gs : List GV} (hv : VWL hl n cs gs) : VW hl (n + 1) (.fn f cs) (.fn f gs) := ⟨vw_fn hv.e⟩
structure FN (sl : List (Nat × PV)) (tab : Tab) (x : Operand) (f : FuncId) (caps : List PV) : Prop where
  e : ∀ n hl nx, asFn ((mkX n sl hl nx).ev tab 0 x) = some (f, caps)
theorem FN_func (sl : List (Nat × PV)) (tab : Tab) (f : FuncId) : FN sl tab (.func f) f [] := ⟨fun _ _ _ => rfl⟩
theorem FN_tmp {t : Nat} {f : FuncId} {cs : List PV} {p : PV} (h : SL sl t p) (hp : RF (asFn p = some (f, cs))) : FN sl tab (.tmp t) f cs := ⟨fun n hl nx => by
  have : (mkX n sl hl nx).ev tab 0 (.tmp t) = p := h.e
  rw [this]; exact hp.e⟩
structure FNV (p : PV) (f : FuncId) (caps : List PV) : Prop where
  e : asFn p = some (f, caps)
theorem FNV_fn (f : FuncId) (cs : List PV) : FNV (.fn f cs) f cs := ⟨rfl⟩
theorem FNV_gm (f : FuncId) (gs : List GV) : FNV (.g (.fn f gs)) f (gs.map .g) := ⟨rfl⟩
theorem FN_val {t : Nat} {f : FuncId} {cs : List PV} {p : PV} (h : SL sl t p) (hp : FNV p f cs) : FN sl tab (.tmp t) f cs := FN_tmp h (RF.mk hp.e)
structure RES (nid : Nat) (r : GV) (hl : List (Nat × Block)) (pv : PV) (hl' : List (Nat × Block)) : Prop where
  lf : (leavesR r).all GV.leaf = true
  l8 : (leavesR r).length ≤ 8
  fr : ∀ j, j < (leavesR r).length → lookH hl (nid + j) = .free
  pv : thawR nid r = pv
  hl : pushW (thawW nid (leavesR r)) hl = hl'
structure RSL (nid : Nat) (gs : List GV) (hl : List (Nat × Block)) (ps : List PV) (hl' : List (Nat × Block)) : Prop where
  lf : gs.all GV.leaf = true
  fr : ∀ j, j < gs.length → lookH hl (nid + j) = .free
  pv : thawPs nid gs = ps
  hl : pushW (thawW nid gs) hl = hl'
theorem RSL_nil (nid : Nat) (hl : List (Nat × Block)) : RSL nid [] hl [] hl := ⟨rfl, by simp, rfl, rfl⟩
theorem RSL_atom {nid : Nat} {x : GV} {gs : List GV} {ps : List PV} {hl' : List (Nat × Block)} (ha : x.atom = true) (hf : HL hl nid .free) (h : RSL (nid + 1) gs hl ps hl') : RSL nid (x :: gs) hl (.g x :: ps) hl' := by
  have e1 : thawP nid x = .g x := by cases x <;> simp_all [GV.atom, thawP]
  have e2 : thawB x = none := by cases x <;> simp_all [GV.atom, thawB]
  have e3 : x.leaf = true := by cases x <;> simp_all [GV.atom, GV.leaf]
  refine ⟨by simp [e3, h.lf], fun j hj => ?_, by simp [thawPs, e1, h.pv], by simp [thawW, e2, h.hl]⟩
  cases j with
  | zero => exact hf.e
  | succ j => have := h.fr j (by simpa using hj); rw [show nid + (j + 1) = nid + 1 + j by omega]; exact this
theorem RSL_int {nid : Nat} {k : IntKind} {m : Int} {gs : List GV} {ps : List PV} {hl' : List (Nat × Block)} (hf : HL hl nid .free) (h : RSL (nid + 1) gs hl ps hl') : RSL nid (.int k m :: gs) hl (.g (.int k m) :: ps) hl' := RSL_atom rfl hf h
theorem RSL_bool {nid : Nat} {b : Bool} {gs : List GV} {ps : List PV} {hl' : List (Nat × Block)} (hf : HL hl nid .free) (h : RSL (nid + 1) gs hl ps hl') : RSL nid (.bool b :: gs) hl (.g (.bool b) :: ps) hl' := RSL_atom rfl hf h
theorem RSL_str {nid : Nat} {s : ByteArray} {gs : List GV} {ps : List PV} {hl' : List (Nat × Block)} (hf : HL hl nid .free) (h : RSL (nid + 1) gs hl ps hl') : RSL nid (.str s :: gs) hl (.g (.str s) :: ps) hl' := RSL_atom rfl hf h
theorem RSL_sl {nid e m : Nat} {xs gs : List GV} {ps : List PV} {hl' : List (Nat × Block)} (hf : HL hl nid .free) (hm : LEN xs m) (h : RSL (nid + 1) gs ((nid, .arr e true xs) :: hl) ps hl') : RSL nid (.sl e xs :: gs) hl (.own nid 0 m :: ps) hl' := by
  refine ⟨by rw [List.all_cons, h.lf]; rfl, fun j hj => ?_, by simp [thawPs, thawP, h.pv, hm.e], by have := h.hl; simpa [thawW, thawB, pushW] using this⟩
  cases j with
  | zero => exact hf.e
  | succ j =>
    have := h.fr j (by simpa using hj)
    rw [show nid + (j + 1) = nid + 1 + j by omega]
    simp only [lookH] at this
    rwa [if_neg (by omega)] at this
theorem RES_atom {nid : Nat} {r : GV} (ha : r.atom = true) (hf : HL hl nid .free) : RES nid r hl (.g r) hl := by
  have e1 : leavesR r = [r] := by cases r <;> simp_all [GV.atom, leavesR, GV.leaves]
  have e2 : thawW nid (leavesR r) = [] := by rw [e1]; cases r <;> simp_all [GV.atom, thawW, thawB]
  have e3 : thawR nid r = .g r := by cases r <;> simp_all [GV.atom, thawR, thawC, thawP]
  have e4 : r.leaf = true := by cases r <;> simp_all [GV.atom, GV.leaf]
  refine ⟨by rw [e1]; simp [e4], by rw [e1]; simp, fun j hj => ?_, e3, by rw [e2]; rfl⟩
  rw [e1] at hj
  have : j = 0 := by simpa using hj
  subst this; exact hf.e
theorem RES_int {nid : Nat} {k : IntKind} {m : Int} (hf : HL hl nid .free) : RES nid (.int k m) hl (.g (.int k m)) hl := RES_atom rfl hf
theorem RES_bool {nid : Nat} {b : Bool} (hf : HL hl nid .free) : RES nid (.bool b) hl (.g (.bool b)) hl := RES_atom rfl hf
theorem RES_str {nid : Nat} {s : ByteArray} (hf : HL hl nid .free) : RES nid (.str s) hl (.g (.str s)) hl := RES_atom rfl hf
theorem RES_sl {nid e m : Nat} {xs : List GV} (hf : HL hl nid .free) (hm : LEN xs m) : RES nid (.sl e xs) hl (.own nid 0 m) ((nid, .arr e true xs) :: hl) := by
  refine ⟨rfl, by simp [leavesR, GV.leaves], fun j hj => ?_, by simp [thawR, thawC, thawP, hm.e], rfl⟩
  simp [leavesR, GV.leaves] at hj
  subst hj; exact hf.e
theorem RES_agg {nid : Nat} {gs : List GV} {ps : List PV} {hl' : List (Nat × Block)} (h : RSL nid gs hl ps hl') (h8 : RF (Nat.ble gs.length 8 = true)) : RES nid (.agg gs) hl (.agg ps) hl' :=
  ⟨h.lf, Nat.le_of_ble_eq_true h8.e, h.fr, by simp only [thawR, thawC, h.pv], h.hl⟩
structure RTL (nid : Nat) (cs : List GV) (hl : List (Nat × Block)) (ps : List PV) (hl' : List (Nat × Block)) : Prop where
  lf : (leavesL cs).all GV.leaf = true
  fr : ∀ j, j < (leavesL cs).length → lookH hl (nid + j) = .free
  pv : thawT nid cs = ps
  hl : pushW (thawW nid (leavesL cs)) hl = hl'
theorem thawW_app : ∀ (xs ys : List GV) (k : Nat), thawW k (xs ++ ys) = thawW k xs ++ thawW (k + xs.length) ys
  | [], ys, k => rfl
  | x :: xs, ys, k => by simp only [List.cons_append, thawW, thawW_app xs ys (k + 1), List.append_assoc, List.length_cons]; rw [Nat.add_assoc, Nat.add_comm 1]
theorem lookH_push_thaw : ∀ (gs : List GV) (k : Nat) (hl : List (Nat × Block)) (j : Nat), k + gs.length ≤ j → lookH (pushW (thawW k gs) hl) j = lookH hl j
  | [], _, _, _, _ => rfl
  | x :: xs, k, hl, j, hj => by
    simp only [List.length_cons] at hj
    simp only [thawW, pushW_app]
    rw [lookH_push_thaw xs (k + 1) _ j (by omega)]
    cases thawB x with
    | none => rfl
    | some b => simp only [pushW, lookH]; rw [if_neg (by omega)]
theorem RTL_nil (nid : Nat) (hl : List (Nat × Block)) : RTL nid [] hl [] hl := ⟨rfl, by simp [leavesL], rfl, rfl⟩
theorem RTL_comp {nid m : Nat} {c : GV} {gs cs : List GV} {p : PV} {qs ps : List PV} {hl1 hl' : List (Nat × Block)} (hc : c.leaves = gs) (hp : thawC nid c = p) (h1 : RSL nid gs hl qs hl1) (hm : gs.length = m) (h : RTL (nid + m) cs hl1 ps hl') : RTL nid (c :: cs) hl (p :: ps) hl' := by
  subst hm
  have h2 := h1.hl
  refine ⟨by simp only [leavesL, hc, List.all_append, h1.lf, h.lf, Bool.and_self], fun j hj => ?_, by simp only [thawT, hp, hc, h.pv], by simp only [leavesL, hc, thawW_app, pushW_app, h2, h.hl]⟩
  simp only [leavesL, hc, List.length_append] at hj
  by_cases hlt : j < gs.length
  · exact h1.fr j hlt
  · have := h.fr (j - gs.length) (by omega)
    rw [← h2, lookH_push_thaw _ _ _ _ (by omega)] at this
    rwa [show nid + gs.length + (j - gs.length) = nid + j by omega] at this
theorem RTL_int {nid : Nat} {k : IntKind} {m : Int} {gs : List GV} {ps : List PV} {hl' : List (Nat × Block)} (hf : HL hl nid .free) (h : RTL (nid + 1) gs hl ps hl') : RTL nid (.int k m :: gs) hl (.g (.int k m) :: ps) hl' :=
  RTL_comp (gs := [.int k m]) rfl rfl (RSL_int hf (RSL_nil _ _)) rfl h
theorem RTL_bool {nid : Nat} {b : Bool} {gs : List GV} {ps : List PV} {hl' : List (Nat × Block)} (hf : HL hl nid .free) (h : RTL (nid + 1) gs hl ps hl') : RTL nid (.bool b :: gs) hl (.g (.bool b) :: ps) hl' :=
  RTL_comp (gs := [.bool b]) rfl rfl (RSL_bool hf (RSL_nil _ _)) rfl h
theorem RTL_str {nid : Nat} {s : ByteArray} {gs : List GV} {ps : List PV} {hl' : List (Nat × Block)} (hf : HL hl nid .free) (h : RTL (nid + 1) gs hl ps hl') : RTL nid (.str s :: gs) hl (.g (.str s) :: ps) hl' :=
  RTL_comp (gs := [.str s]) rfl rfl (RSL_str hf (RSL_nil _ _)) rfl h
theorem RTL_sl {nid e m : Nat} {xs gs : List GV} {ps : List PV} {hl' : List (Nat × Block)} (hf : HL hl nid .free) (hm : LEN xs m) (h : RTL (nid + 1) gs ((nid, .arr e true xs) :: hl) ps hl') : RTL nid (.sl e xs :: gs) hl (.own nid 0 m :: ps) hl' :=
  RTL_comp (gs := [.sl e xs]) rfl (by simp [thawC, thawP, hm.e]) (RSL_sl hf hm (RSL_nil _ _)) rfl h
theorem RTL_agg {nid m : Nat} {xs gs : List GV} {qs ps : List PV} {hl1 hl' : List (Nat × Block)} (h1 : RSL nid xs hl qs hl1) (hm : RF (xs.length = m)) (h : RTL (nid + m) gs hl1 ps hl') : RTL nid (.agg xs :: gs) hl (.agg qs :: ps) hl' :=
  RTL_comp (gs := xs) rfl (by simp only [thawC, h1.pv]) h1 hm.e h
theorem RES_tup {nid : Nat} {cs : List GV} {ps : List PV} {hl' : List (Nat × Block)} (h : RTL nid cs hl ps hl') (h8 : RF (Nat.ble (leavesL cs).length 8 = true)) : RES nid (.tup cs) hl (.tup ps) hl' :=
  ⟨h.lf, Nat.le_of_ble_eq_true h8.e, h.fr, by simp only [thawR, h.pv], h.hl⟩
end
section
variable {dr : Bool} {P : Program} {tab : Tab} {ops : Array Oper} {i : Nat} {os : List Oper} {acc : List (List Nat × List Nat)} {K : AState → List (List Nat × List Nat) → Prop}
variable {ty : TypeId} {pos : String} {af : Array Edge} {n nx d : Nat} {sl : List (Nat × PV)} {hl : List (Nat × Block)}
def DEC (p : Prop) : Prop := p
theorem DEC.mk {p : Prop} (h : p) : DEC p := h
theorem DEC.e {p : Prop} (h : DEC p) : p := h
structure SW (tab : Tab) (nid : Nat) (hl : List (Nat × Block)) (t : TypeId) (p v : PV) (ws hl' : List (Nat × Block)) : Prop where
  e : aStore tab nid (lookH hl) t p v = some (.none_, ws)
  h : pushW ws hl = hl'
theorem SW_box {nid : Nat} {t : TypeId} {ti : TI} {id off sz : Nat} {cs cs' ps : List PV} {p : PV} (hb : HL hl id (.box cs)) (hp : CP p ps) (ht : RF (tab t = some ti ∧ ti.size = sz)) (hs : RF (ps.length = sz)) (hc : SetL cs off ps cs') : SW tab nid hl t (.ptr id off) p [(id, .box cs')] ((id, .box cs') :: hl) := ⟨(ST_box hb hp ht hs hc).e, rfl⟩
theorem SW_int {nid : Nat} {t : TypeId} {ti : TI} {id k : Nat} {dp : Bool} {xs ys : List GV} {kk : IntKind} {m : Int} (hb : HL hl id (.arr 1 dp xs)) (ht : RF (tab t = some ti ∧ ti.size = 1)) (hf : HL hl nid .free) (hy : PUT xs k (.int kk m) ys) (hk : NU (k < xs.length)) : SW tab nid hl t (.eptr id k 0) (.g (.int kk m)) [(id, .arr 1 dp ys)] ((id, .arr 1 dp ys) :: hl) := ⟨(ST_arr hb ht (RF.mk rfl) hf hy hk).e, rfl⟩
theorem SW_bool {nid : Nat} {t : TypeId} {ti : TI} {id k : Nat} {dp : Bool} {xs ys : List GV} {m : Bool} (hb : HL hl id (.arr 1 dp xs)) (ht : RF (tab t = some ti ∧ ti.size = 1)) (hf : HL hl nid .free) (hy : PUT xs k (.bool m) ys) (hk : NU (k < xs.length)) : SW tab nid hl t (.eptr id k 0) (.g (.bool m)) [(id, .arr 1 dp ys)] ((id, .arr 1 dp ys) :: hl) := ⟨(ST_arr hb ht (RF.mk rfl) hf hy hk).e, rfl⟩
theorem SW_abs {nid : Nat} {t : TypeId} {ti : TI} {id k e : Nat} {dp d dd : Bool} {xs ys : List GV} {q : PV} {x : GV} {ks : List Nat} (hb : HL hl id (.arr e dp xs)) (ht : RF (tab t = some ti ∧ ti.size = e)) (hf : HL hl nid .free) (ha : AE hl q x ks d) (hn : RF (x.ncells = e ∧ x.isTup = false)) (hks : DEC (id ∉ ks)) (hd : AND dp d dd) (hy : PUT xs k x ys) (hk : NU (k < xs.length)) : SW tab nid hl t (.eptr id k 0) q (kills ks ++ [(id, .arr e dd ys)]) ((id, .arr e dd ys) :: deadL ks hl) := ⟨by
  obtain ⟨h1, h2⟩ := ht.e
  obtain ⟨h3, h4⟩ := hn.e
  have h5 : k < xs.length := hk
  have h6 : id ∉ ks := hks
  subst h2
  simp only [aStore, h1, hb.e, h5, hf.e, isFree, and_self, if_true, ha.e, h3, h4, h6, not_false_eq_true, hd.e, hy.e], by rw [pushW_app, pushW_kills]; rfl⟩
theorem X_storeW {t : TypeId} {x y : Operand} {p q : PV} {k : Nat} {ws hl' : List (Nat × Block)} (hx : EV sl tab 0 x p) (hy : EV sl tab t y q) (hk : NID (nx + 8 * i) k) (hs : SW tab k hl t p q ws hl') (h4 : AF dr P tab ops (i + 1) os n sl hl' nx (acc ++ [tcX tab i n sl hl nx ⟨none, .store t x y, ty, pos, af, none⟩ (idsW ws)]) K) : AF dr P tab ops i (⟨none, .store t x y, ty, pos, af, none⟩ :: os) n sl hl nx acc K := by
  cases hk.e
  exact X_any (dst := none) (pv := .none_) rfl (by simp only [aOp, hx.e, hy.e, mkX_nx]; exact hs.e) (by rw [hs.h]; exact h4)
structure FIL (place : Nat → Option (Nat × Nat)) (cs : List PV) (ps : List (Nat × PV)) (cs' : List PV) : Prop where
  e : aFill place cs ps = some cs'
theorem FIL_nil (place : Nat → Option (Nat × Nat)) (cs : List PV) : FIL place cs [] cs := ⟨rfl⟩
theorem FIL_cons {place : Nat → Option (Nat × Nat)} {cs cs1 cs' qs : List PV} {j off sz : Nat} {p : PV} {ps : List (Nat × PV)} (h1 : RF (place j = some (off, sz))) (hp : CP p qs) (hs : RF (qs.length = sz)) (hc : SetL cs off qs cs1) (h : FIL place cs1 ps cs') : FIL place cs ((j, p) :: ps) cs' := ⟨by
  have h2 := hc.l
  rw [hs.e] at h2
  simp only [aFill, h1.e, hp.v, hp.e, hs.e, Bool.true_and, beq_self_eq_true]
  rw [if_pos (by simpa using h2), hc.e, h.e]⟩
theorem X_build {t : TypeId} {xs : List (Nat × Operand)} {ti : TI} {fs : List (Nat × TypeId)} {pl : List (Nat × Nat)} {vs : List (Nat × PV)} {cs' : List PV} (hd : RF (hasB d n = true)) (ht : RF (tab t = some ti ∧ ti.kind = .st fs ∧ placesOf tab fs = some pl)) (hx : EVF sl tab ti xs vs) (hv : FIL (pl[·]?) ti.zero vs cs')
    (h4 : AF dr P tab ops (i + 1) os n ((d, .agg cs') :: sl) hl nx (acc ++ [tcX tab i n sl hl nx ⟨some d, .build t xs.toArray, ty, pos, af, none⟩ []]) K) : AF dr P tab ops i (⟨some d, .build t xs.toArray, ty, pos, af, none⟩ :: os) n sl hl nx acc K :=
  X_any (ws := []) (has_X hd) (by
    obtain ⟨h1, h2, h3⟩ := ht.e
    have h5 := hx.e n hl nx
    simp only [aOp, h1, h5, aBuild, h2, h3, hv.e]) h4
theorem X_buildA {t : TypeId} {xs : List (Nat × Operand)} {ti ei : TI} {m E : Nat} {vs : List (Nat × PV)} {cs' : List PV} (hd : RF (hasB d n = true)) (ht : RF (tab t = some ti ∧ ti.kind = .ar m E ∧ tab E = some ei ∧ ei.size = 1)) (hx : EVF sl tab ti xs vs) (hv : FIL (fun i => some (i, 1)) ti.zero vs cs')
    (h4 : AF dr P tab ops (i + 1) os n ((d, .agg cs') :: sl) hl nx (acc ++ [tcX tab i n sl hl nx ⟨some d, .build t xs.toArray, ty, pos, af, none⟩ []]) K) : AF dr P tab ops i (⟨some d, .build t xs.toArray, ty, pos, af, none⟩ :: os) n sl hl nx acc K :=
  X_any (ws := []) (has_X hd) (by
    obtain ⟨h1, h2, h3, h6⟩ := ht.e
    have h5 := hx.e n hl nx
    simp only [aOp, h1, h5, aBuild, h2, h3, h6, Nat.mul_one, hv.e]) h4
theorem X_lit {k : Nat} {t : TypeId} {len : Nat} {xs : List (Nat × Operand)} {E e : Nat} {ps : List PV} {gs : List GV} {ks : List Nat} {dp : Bool} (hd : RF (hasB d n = true)) (hE : SLT tab t E e) (hk : NID (nx + 8 * i) k) (hf : HL hl k .free) (hi : RF (xs.map (·.1) = List.range len)) (hs : RF (Nat.ble (len * (e + 1)) 16777216 = true)) (hx : EVP sl tab E xs ps) (ha : AEL hl ps gs ks dp) (hg : RF ((gs.all (fun x => x.ncells == e + 1 && !x.isTup)) = true))
    (h4 : AF dr P tab ops (i + 1) os n ((d, .own k 0 len) :: sl) ((k, .arr (e + 1) dp gs) :: deadL ks hl) nx (acc ++ [tcX tab i n sl hl nx ⟨some d, .buildSlice t len xs.toArray, ty, pos, af, none⟩ (idsW (kills ks ++ [(k, .arr (e + 1) dp gs)]))]) K) : AF dr P tab ops i (⟨some d, .buildSlice t len xs.toArray, ty, pos, af, none⟩ :: os) n sl hl nx acc K := by
  cases hk.e
  exact X_any (pv := .own (nx + 8 * i) 0 len) (ws := kills ks ++ [(nx + 8 * i, .arr (e + 1) dp gs)]) (has_X hd) (by
    have hs' := Nat.le_of_ble_eq_true hs.e
    have hx' := hx.e n hl nx
    have hi' : xs.toArray.toList.map (·.1) = List.range len := hi.e
    have ha' : absL absE (lookH hl) ps = some (gs, ks, dp) := ha.e
    simp only [aOp, hE.el, aLit, mkX_heap, mkX_nx, hf.e, isFree, true_and]
    rw [if_pos ⟨hi', by omega, hs'⟩]
    show (match absL absE (lookH hl) (xs.map _) with | some (gs, ks, d) => _ | none => none) = _
    rw [show (xs.map fun (x : Nat × Operand) => (mkX n sl hl nx).ev tab E x.2) = ps from hx', ha']
    simp only [hg.e, if_true]) (by rw [pushW_app, pushW_kills]; exact h4)
structure RPL (k : Nat) (z : GV) (xs : List GV) : Prop where
  e : List.replicate k z = xs
theorem RPL_int (k : Nat) (kk : IntKind) (m : Int) : RPL k (.int kk m) ((List.replicate k m).map (GV.int kk)) := ⟨by simp⟩
theorem RPL_bool (k : Nat) (b : Bool) : RPL k (.bool b) ((List.replicate k b).map GV.bool) := ⟨by simp⟩
theorem RPL_sl (k : Nat) : RPL k (.sl 1 []) ((List.replicate k []).map GV.ints) := ⟨by simp⟩
theorem RPL_any (k : Nat) (z : GV) : RPL k z (List.replicate k z) := ⟨rfl⟩
def MZ (tab : Tab) (t e : Nat) (z : GV) : Prop := ∃ E ei, elemTy tab t = some (E, e) ∧ tab E = some ei ∧ ((e = 1 ∧ zeroG ei = some z) ∨ (zeroG ei = none ∧ ∃ gs, zeroLs ei.zero = some gs ∧ gs.length = e ∧ 0 < e ∧ z = .agg gs))
theorem MZ_one {t E : Nat} {ei : TI} {z : GV} (h1 : elemTy tab t = some (E, 1)) (h2 : tab E = some ei) (h3 : zeroG ei = some z) : MZ tab t 1 z := ⟨E, ei, h1, h2, .inl ⟨rfl, h3⟩⟩
theorem MZ_st {t E e : Nat} {ei : TI} {gs : List GV} (h1 : elemTy tab t = some (E, e + 1)) (h2 : tab E = some ei) (h3 : zeroG ei = none) (h4 : zeroLs ei.zero = some gs) (h5 : gs.length = e + 1) : MZ tab t (e + 1) (.agg gs) := ⟨E, ei, h1, h2, .inr ⟨h3, gs, h4, h5, by omega, rfl⟩⟩
theorem X_make {kk : Nat} {t : TypeId} {x y : Operand} {e : Nat} {z : GV} {k k' : IntKind} {a b : Int} {xs : List GV} (hd : RF (hasB d n = true)) (hx : EV sl tab 0 x (.g (.int k a))) (hy : EV sl tab 0 y (.g (.int k' b))) (hE : MZ tab t e z) (hk : NID (nx + 8 * i) kk) (hf : HL hl kk .free) (hz : RPL a.toNat z xs) (hn : NU (0 ≤ a ∧ a ≤ b ∧ b ≤ 1099511627776))
    (h4 : AF dr P tab ops (i + 1) os n ((d, .own kk 0 a.toNat) :: sl) ((kk, .arr e true xs) :: hl) nx (acc ++ [tcX tab i n sl hl nx ⟨some d, .makeSlice t x y, ty, pos, af, none⟩ [kk]]) K) : AF dr P tab ops i (⟨some d, .makeSlice t x y, ty, pos, af, none⟩ :: os) n sl hl nx acc K := by
  cases hk.e
  refine X_any (pv := .own (nx + 8 * i) 0 a.toNat) (ws := [(nx + 8 * i, .arr e true xs)]) (has_X hd) ?_ h4
  have h1 := hn.e
  have h2 := hz.e
  obtain ⟨E, ei, g1, g2, ⟨rfl, g3⟩ | ⟨g3, gs, g4, g5, g6, rfl⟩⟩ := hE
  · simp only [aOp, hx.e, hy.e, aMakeE, aMake, g1, g2, g3, mkX_heap, mkX_nx, hf.e, isFree, h1, and_self, if_true, h2]
  · simp only [aOp, hx.e, hy.e, aMakeE, aMake, aMakeS, g1, g2, g3, g4, g5, g6, mkX_heap, mkX_nx, hf.e, isFree, h1, and_self, if_true, h2]
structure LN (tab : Tab) (hl : List (Nat × Block)) (t : TypeId) (p : PV) (m : Int) : Prop where
  e : aLen tab (lookH hl) t p = some (.g (.int .i64 m), [])
theorem LN_own {t E e : Nat} {id lo len e' : Nat} {dp : Bool} {xs : List GV} (ht : SLT tab t E e) (hb : HL hl id (.arr e' dp xs)) : LN tab hl t (.own id lo len) (len : Int) := ⟨by obtain ⟨ti, ei, h1, h2, _⟩ := ht.h; exact ln_own h1 h2 hb.e⟩
theorem LN_g {t E e e' m : Nat} {xs : List GV} (ht : SLT tab t E e) (hm : LEN xs m) : LN tab hl t (.g (.sl e' xs)) (m : Int) := ⟨by obtain ⟨ti, ei, h1, h2, _⟩ := ht.h; rw [ln_g h1 h2, hm.e]⟩
theorem LN_ge {t E e e' m : Nat} {u : Value} {xs : List GV} (ht : SLT tab t E e) (hm : LEN xs m) : LN tab hl t (.g (.ex u e' xs)) (m : Int) := ⟨by obtain ⟨ti, ei, h1, h2, _⟩ := ht.h; simp only [aLen, h1, h2, ← hm.e]⟩
theorem LN_nils {t E e e' : Nat} (ht : SLT tab t E e) : LN tab hl t (.nils e') 0 := ⟨by obtain ⟨ti, ei, h1, h2, _⟩ := ht.h; exact ln_nil h1 h2⟩
theorem LN_str {t : Nat} {s : ByteArray} {ti : TI} (ht : RF (tab t = some ti ∧ ti.kind = .str)) : LN tab hl t (.g (.str s)) (s.size : Int) := ⟨by simp only [aLen, ht.e.1, ht.e.2]⟩
theorem X_max {tys : Array TypeId} {x y : Operand} {a b : Int} (hd : RF (hasB d n = true)) (hx : EV sl tab 0 x (.g (.int .i64 a))) (hy : EV sl tab 0 y (.g (.int .i64 b))) (h4 : AF dr P tab ops (i + 1) os n ((d, .g (.int .i64 (max a b))) :: sl) hl nx (acc ++ [tcX tab i n sl hl nx ⟨some d, .call { callee := .builtin .max, args := #[x, y], argTypes := tys }, ty, pos, af, none⟩ []]) K) : AF dr P tab ops i (⟨some d, .call { callee := .builtin .max, args := #[x, y], argTypes := tys }, ty, pos, af, none⟩ :: os) n sl hl nx acc K :=
  X_any (ws := []) (has_X hd) (by simp only [aOp, aCall, hx.e, hy.e, aMM, if_true]) h4
theorem X_min {tys : Array TypeId} {x y : Operand} {a b : Int} (hd : RF (hasB d n = true)) (hx : EV sl tab 0 x (.g (.int .i64 a))) (hy : EV sl tab 0 y (.g (.int .i64 b))) (h4 : AF dr P tab ops (i + 1) os n ((d, .g (.int .i64 (min a b))) :: sl) hl nx (acc ++ [tcX tab i n sl hl nx ⟨some d, .call { callee := .builtin .min, args := #[x, y], argTypes := tys }, ty, pos, af, none⟩ []]) K) : AF dr P tab ops i (⟨some d, .call { callee := .builtin .min, args := #[x, y], argTypes := tys }, ty, pos, af, none⟩ :: os) n sl hl nx acc K :=
  X_any (ws := []) (has_X hd) (by simp only [aOp, aCall, hx.e, hy.e, aMM, Bool.false_eq_true, if_false]) h4
theorem X_len {t : TypeId} {x : Operand} {p : PV} {m : Int} (hd : RF (hasB d n = true)) (hx : EV sl tab 0 x p) (hv : LN tab hl t p m) (h4 : AF dr P tab ops (i + 1) os n ((d, .g (.int .i64 m)) :: sl) hl nx (acc ++ [tcX tab i n sl hl nx ⟨some d, .call { callee := .builtin .len, args := #[x], argTypes := #[t] }, ty, pos, af, none⟩ []]) K) : AF dr P tab ops i (⟨some d, .call { callee := .builtin .len, args := #[x], argTypes := #[t] }, ty, pos, af, none⟩ :: os) n sl hl nx acc K :=
  X_any (ws := []) (has_X hd) (by simp only [aOp, aCall, hx.e]; exact hv.e) h4
structure SR (hl : List (Nat × Block)) (e : Nat) (p : PV) (ys : List GV) (ks : List Nat) (d : Bool) : Prop where
  e : srcE (lookH hl) e p = some (ys, ks, d)
theorem SR_nils (e e' : Nat) : SR hl e (.nils e') [] [] true := ⟨rfl⟩
structure FLB (ys : List GV) (b : Bool) : Prop where
  e : ys.all GV.flat = b
theorem FLB_ints (k : IntKind) (ys : List Int) : FLB (ys.map (GV.int k)) true := ⟨flat_ints k ys⟩
theorem FLB_bools (ys : List Bool) : FLB (ys.map GV.bool) true := ⟨flat_map fun _ => rfl⟩
theorem FLB_strs (ys : List ByteArray) : FLB (ys.map GV.str) true := ⟨flat_map fun _ => rfl⟩
theorem FLB_nil : FLB [] true := ⟨rfl⟩
theorem FLB_consi {k : IntKind} {n : Int} {xs : List GV} {b : Bool} (h : FLB xs b) : FLB (.int k n :: xs) b := ⟨by have := h.e; simpa [GV.flat, GV.atom] using this⟩
theorem FLB_any (ys : List GV) : FLB ys (ys.all GV.flat) := ⟨rfl⟩
theorem SR_gb {e : Nat} {ys : List GV} {b : Bool} (hf : FLB ys b) : SR hl e (.g (.sl e ys)) ys [] b := ⟨src_g hf.e⟩
structure FLK (ys : List GV) (b : Bool) : Prop where
  e : ys.all GV.flat = b
theorem FLK_ints (k : IntKind) (ys : List Int) : FLK (ys.map (GV.int k)) true := ⟨flat_ints k ys⟩
theorem FLK_bools (ys : List Bool) : FLK (ys.map GV.bool) true := ⟨flat_map fun _ => rfl⟩
theorem FLK_strs (ys : List ByteArray) : FLK (ys.map GV.str) true := ⟨flat_map fun _ => rfl⟩
theorem FLK_nil : FLK [] true := ⟨rfl⟩
theorem FLK_consi {k : IntKind} {n : Int} {xs : List GV} {b : Bool} (h : FLK xs b) : FLK (.int k n :: xs) b := ⟨by have := h.e; simpa [GV.flat, GV.atom] using this⟩
theorem FLK_consb {n : Bool} {xs : List GV} {b : Bool} (h : FLK xs b) : FLK (.bool n :: xs) b := ⟨by have := h.e; simpa [GV.flat, GV.atom] using this⟩
theorem FLK_conss {n : ByteArray} {xs : List GV} {b : Bool} (h : FLK xs b) : FLK (.str n :: xs) b := ⟨by have := h.e; simpa [GV.flat, GV.atom] using this⟩
theorem FLK_sl {e : Nat} {ys xs : List GV} : FLK (.sl e ys :: xs) false := ⟨by simp [GV.flat, GV.atom]⟩
theorem FLK_mnil {α : Type} {f : α → GV} : FLK (([] : List α).map f) true := ⟨rfl⟩
theorem FLK_mcons {α : Type} {f : α → GV} {x : α} {xs : List α} (h : RF ((f x).flat = false)) : FLK ((x :: xs).map f) false := ⟨by rw [List.map_cons, List.all_cons, h.e]; rfl⟩
theorem FLK_agg {ys : List GV} {b : Bool} (h : ALLA ys b) : FLK [.agg ys] b := ⟨by have := h.e; simpa [GV.flat] using this⟩
structure SK (id : Nat) (dp b : Bool) (ks : List Nat) (d : Bool) : Prop where
  e : (if b then (([] : List Nat), true) else ([id], dp)) = (ks, d)
theorem SK_t (id : Nat) (dp : Bool) : SK id dp true [] true := ⟨rfl⟩
theorem SK_f (id : Nat) (dp : Bool) : SK id dp false [id] dp := ⟨rfl⟩
theorem SR_own {id lo len e : Nat} {dp b d : Bool} {ks : List Nat} {xs ys : List GV} (hb : HL hl id (.arr e dp xs)) (hc : CUT xs lo len ys) (hf : FLK ys b) (hs : SK id dp b ks d) : SR hl e (.own id lo len) ys ks d := ⟨by
  have h1 := hc.l
  have h2 := hf.e
  have h3 := hs.e
  simp only [srcE, hb.e, h1, and_self, if_true, hc.e, h2]
  cases b
  · simp only [Bool.false_eq_true, if_false, Prod.mk.injEq] at h3 ⊢
    rw [h3.1, h3.2]
  · simp only [if_true, Prod.mk.injEq] at h3 ⊢
    rw [← h3.1, ← h3.2]⟩
structure DS (hl : List (Nat × Block)) (e : Nat) (p : PV) (xs : List GV) (ks : List Nat) (d : Bool) : Prop where
  e : dstE (lookH hl) e p = some (xs, ks, d)
theorem DS_nils (e : Nat) : DS hl e (.nils e) [] [] true := ⟨dst_nil _ _⟩
theorem DS_own {id lo len e : Nat} {dp : Bool} {xs ys : List GV} (hb : HL hl id (.arr e dp xs)) (hc : CUT xs lo len ys) : DS hl e (.own id lo len) ys [id] dp := ⟨by
  have h1 := dst_own hb.e hc.l
  rw [hc.e] at h1; exact h1⟩
theorem X_app {kk : Nat} {t : TypeId} {x y : Operand} {E e a b m : Nat} {px py : PV} {xs ys zs : List GV} {ks1 ks2 : List Nat} {d1 d2 dp : Bool} (hd : RF (hasB d n = true)) (hx : EV sl tab t x px) (hy : EV sl tab t y py) (hE : SLT tab t E e) (hk : NID (nx + 8 * i) kk) (hf : HL hl kk .free) (h5 : SR hl (e + 1) py ys ks2 d2) (h6 : DS (deadL ks2 hl) (e + 1) px xs ks1 d1) (hz : CAT xs ys zs) (hm : LEN zs m) (hdp : AND d1 d2 dp) (ha : LEN xs a) (hb : LEN ys b) (hl' : NU (a + b ≤ 1099511627776))
    (h4 : AF dr P tab ops (i + 1) os n ((d, .own kk 0 m) :: sl) ((kk, .arr (e + 1) dp zs) :: deadL ks1 (deadL ks2 hl)) nx (acc ++ [tcX tab i n sl hl nx ⟨some d, .call { callee := .builtin .append, args := #[x, y], argTypes := #[t, t] }, ty, pos, af, none⟩ (idsW (kills ks2 ++ (kills ks1 ++ [(kk, .arr (e + 1) dp zs)])))]) K) : AF dr P tab ops i (⟨some d, .call { callee := .builtin .append, args := #[x, y], argTypes := #[t, t] }, ty, pos, af, none⟩ :: os) n sl hl nx acc K := by
  cases hk.e
  have e1 : m = xs.length + ys.length := by rw [← hm.e, ← hz.e]; simp
  have e2 := hz.e
  subst e1
  refine X_any (ws := kills ks2 ++ (kills ks1 ++ [(nx + 8 * i, .arr (e + 1) dp zs)])) (pv := .own (nx + 8 * i) 0 (xs.length + ys.length)) (has_X hd) ?_ (by rw [pushW_app, pushW_kills, pushW_app, pushW_kills]; exact h4)
  have h7 : dstE (killL (lookH hl) ks2) (e + 1) px = some (xs, ks1, d1) := by rw [← lookH_dead]; exact h6.e
  have h8 := hl'.e
  have h9 : srcE (lookH hl) (e + 1) py = some (ys, ks2, d2) := h5.e
  rw [← ha.e, ← hb.e] at h8
  simp only [aOp, aCall, if_true, aApp, hx.e, hy.e, hE.el, mkX_heap, mkX_nx, hf.e, isFree]
  rw [if_pos ⟨trivial, by omega⟩]
  show (match srcE (lookH hl) (e + 1) py with | some (ys, ks2, d2) => _ | none => none) = _
  rw [h9]
  show (match dstE (killL (lookH hl) ks2) (e + 1) px with | some (xs, ks1, d1) => _ | none => none) = _
  rw [h7]
  simp only [h8, if_true, hdp.e, e2]
theorem X_appR {kk kk1 c : Nat} {t : TypeId} {x y : Operand} {E e a b m : Nat} {v : Value} {py : PV} {xs ys zs : List GV} {ks2 : List Nat} {d2 : Bool} (hd : RF (hasB d n = true)) (hx : EV sl tab t x (.g (.raw c v))) (hc : HL hl c (.hd v (e + 1) xs)) (hy : EV sl tab t y py) (hE : SLT tab t E e) (hk : NID (nx + 8 * i) kk) (hk1 : NID (nx + 8 * i + 1) kk1) (hf : HL hl kk .free) (hf1 : HL hl kk1 .free) (h5 : SR hl (e + 1) py ys ks2 d2) (hz : CAT xs ys zs) (hm : LEN zs m) (ha : LEN xs a) (hb : LEN ys b) (hl' : NU (a + b ≤ 1099511627776))
    (h4 : AF dr P tab ops (i + 1) os n ((d, .own kk 0 m) :: sl) ((kk, .arr (e + 1) d2 zs) :: (kk1, .dead) :: (c, .dead) :: deadL ks2 hl) nx (acc ++ [tcX tab i n sl hl nx ⟨some d, .call { callee := .builtin .append, args := #[x, y], argTypes := #[t, t] }, ty, pos, af, none⟩ (idsW (kills ks2 ++ [(c, .dead), (kk1, .dead), (kk, .arr (e + 1) d2 zs)]))]) K) (ht : TabOk P tab) : AF dr P tab ops i (⟨some d, .call { callee := .builtin .append, args := #[x, y], argTypes := #[t, t] }, ty, pos, af, none⟩ :: os) n sl hl nx acc K := by
  cases hk.e
  cases hk1.e
  have e1 : m = xs.length + ys.length := by rw [← hm.e, ← hz.e]; simp
  have e2 := hz.e
  subst e1
  subst e2
  have h8 := hl'.e
  rw [← ha.e, ← hb.e] at h8
  have h9 : srcE (lookH hl) (e + 1) py = some (ys, ks2, d2) := h5.e
  have key : EffTo P tab (nx + 8 * i) ⟨some d, .call { callee := .builtin .append, args := #[x, y], argTypes := #[t, t] }, ty, pos, af, none⟩ (mkX n sl hl nx) (.own (nx + 8 * i) 0 (xs.length + ys.length)) (kills ks2 ++ [(c, .dead), (nx + 8 * i + 1, .dead), (nx + 8 * i, .arr (e + 1) d2 (xs ++ ys))]) :=
    eff_appR (o := ⟨some d, .call { callee := .builtin .append, args := #[x, y], argTypes := #[t, t] }, ty, pos, af, none⟩) ht rfl (hx.e n hl nx) (hc.e : (mkX n sl hl nx).heap c = _) hE.el (by omega) (by rw [hy.e n hl nx]; exact h9) (hf.e : (mkX n sl hl nx).heap _ = _) (hf1.e : (mkX n sl hl nx).heap _ = _) h8
  refine AX_step (pv := .own (nx + 8 * i) 0 (xs.length + ys.length)) (ws := kills ks2 ++ [(c, Block.dead), (nx + 8 * i + 1, Block.dead), (nx + 8 * i, Block.arr (e + 1) d2 (xs ++ ys))]) rfl (has_X hd) (.inr (.inr key)) ?_
  rw [writes_XL, put_XL, pushW_app, pushW_kills]
  exact h4
structure EVL (sl : List (Nat × PV)) (tab : Tab) (xs : List Operand) (ps : List PV) : Prop where
  e : ∀ n hl nx, xs.map ((mkX n sl hl nx).ev tab 0) = ps
theorem EVL_nil (sl : List (Nat × PV)) (tab : Tab) : EVL sl tab [] [] := ⟨fun _ _ _ => rfl⟩
theorem EVL_cons {x : Operand} {xs : List Operand} {p : PV} {ps : List PV} (h1 : EV sl tab 0 x p) (h2 : EVL sl tab xs ps) : EVL sl tab (x :: xs) (p :: ps) := ⟨fun n hl nx => by simp only [List.map_cons, h1.e, h2.e]⟩
theorem X_mkf {f : FuncId} {cs : List Operand} {ps : List PV} (hd : RF (hasB d n = true)) (hx : EVL sl tab cs ps) (h4 : AF dr P tab ops (i + 1) os n ((d, .fn f ps) :: sl) hl nx (acc ++ [tcX tab i n sl hl nx ⟨some d, .makeFunc (.func f) #[] cs.toArray, ty, pos, af, none⟩ []]) K) : AF dr P tab ops i (⟨some d, .makeFunc (.func f) #[] cs.toArray, ty, pos, af, none⟩ :: os) n sl hl nx acc K :=
  X_any (ws := []) (pv := .fn f ps) (has_X hd) (by have := hx.e n hl nx; simp only [aOp, if_true, ← this]) h4
theorem X_ext {x : Operand} {k : Nat} {vs : List PV} {v : PV} (hd : RF (hasB d n = true)) (hx : EV sl tab 0 x (.tup vs)) (hv : Idx vs k v) (h4 : AF dr P tab ops (i + 1) os n ((d, v) :: sl) hl nx (acc ++ [tcX tab i n sl hl nx ⟨some d, .extract x k, ty, pos, af, none⟩ []]) K) : AF dr P tab ops i (⟨some d, .extract x k, ty, pos, af, none⟩ :: os) n sl hl nx acc K :=
  X_any (ws := []) (has_X hd) (by simp only [aOp, hx.e, aExtract, hv.e]) h4
def CON (P : Program) (f : FuncId) (gs : List GV) (r : GV) : Prop := Con P f gs r
theorem CON.e {P : Program} {f : FuncId} {gs : List GV} {r : GV} (h : CON P f gs r) : Con P f gs r := h
theorem CON_of {P : Program} {f : FuncId} {gs : List GV} {r : GV} (h : Con P f gs r) : CON P f gs r := h
def CONG (P : Program) (f : FuncId) (cs gs : List GV) (r : GV) : Prop := ConG P f cs gs r
theorem CONG_of {P : Program} {f : FuncId} {cs gs : List GV} {r : GV} (h : ConG P f cs gs r) : CONG P f cs gs r := h
theorem X_callS {kk : Nat} {dst : Option Nat} {f : Operand} {xs : List Operand} {ts : List TypeId} {fid : FuncId} {caps ps : List PV} {gs : List GV} {r : GV} {pv : PV} {hl' : List (Nat × Block)} (hd : (mkX n sl hl nx).has dst = true) (hf : FN sl tab f fid caps) (ha : ARG sl tab xs ts ps) (hg : VWL hl 6 (ps ++ caps) gs) (hc : ConS P (mkX n sl hl nx) fid gs r) (hk : NID (nx + 8 * i) kk) (hr : RES kk r hl pv hl')
    (h4 : AF dr P tab ops (i + 1) os n (putL dst pv sl) hl' nx (acc ++ [tcX tab i n sl hl nx ⟨dst, .call { callee := .value f, args := xs.toArray, argTypes := ts.toArray }, ty, pos, af, none⟩ (idsW (thawW kk (leavesR r)))]) K) : AF dr P tab ops i (⟨dst, .call { callee := .value f, args := xs.toArray, argTypes := ts.toArray }, ty, pos, af, none⟩ :: os) n sl hl nx acc K := by
  cases hk.e
  refine AX_step (pv := thawR (nx + 8 * i) r) (ws := thawW (nx + 8 * i) (leavesR r)) rfl hd (.inr (.inl ⟨fid, caps, hf.e n hl nx, gs, ?_, r, hc, hr.lf, hr.l8, ?_, rfl, rfl⟩)) ?_
  · show viewL (view (lookH hl) 6) ((mkX n sl hl nx).args tab xs ts ++ caps) = some gs
    rw [ha.e]; exact hg.e
  · simp only [List.all_eq_true, List.mem_range]
    intro j hj
    rw [mkX_nx, mkX_heap, hr.fr j hj]; rfl
  · rw [mkX_nx, writes_XL, put_XL, hr.pv, hr.hl]; exact h4
theorem X_callG {kk : Nat} {dst : Option Nat} {f : Operand} {xs : List Operand} {ts : List TypeId} {fid : FuncId} {caps ps : List PV} {gs : List GV} {r : GV} {pv : PV} {hl' : List (Nat × Block)} (hd : (mkX n sl hl nx).has dst = true) (hf : FN sl tab f fid caps) (ha : ARG sl tab xs ts ps) (hg : VWL hl 6 (ps ++ caps) gs) (hc : Con P fid gs r) (hk : NID (nx + 8 * i) kk) (hr : RES kk r hl pv hl')
    (h4 : AF dr P tab ops (i + 1) os n (putL dst pv sl) hl' nx (acc ++ [tcX tab i n sl hl nx ⟨dst, .call { callee := .value f, args := xs.toArray, argTypes := ts.toArray }, ty, pos, af, none⟩ (idsW (thawW kk (leavesR r)))]) K) : AF dr P tab ops i (⟨dst, .call { callee := .value f, args := xs.toArray, argTypes := ts.toArray }, ty, pos, af, none⟩ :: os) n sl hl nx acc K :=
  X_callS hd hf ha hg (.inl hc) hk hr h4
theorem X_callGl {kk : Nat} {f : Operand} {xs : List Operand} {ts : List TypeId} {fid : FuncId} {ps : List PV} {gs : List GV} {r : GV} {pv : PV} {hl' : List (Nat × Block)} (hd : RF (hasB d n = true)) (hf : FN sl tab f fid []) (ha : ARG sl tab xs ts ps) (hg : VWL hl 6 ps gs) {cs : List GV} (hs : SL sl 65536 (.glob 0 cs)) (hc : CONG P fid cs gs r) (hk : NID (nx + 8 * i) kk) (hr : RES kk r hl pv hl')
    (h4 : AF dr P tab ops (i + 1) os n ((d, pv) :: sl) hl' nx (acc ++ [tcX tab i n sl hl nx ⟨some d, .call { callee := .value f, args := xs.toArray, argTypes := ts.toArray }, ty, pos, af, none⟩ (idsW (thawW kk (leavesR r)))]) K) : AF dr P tab ops i (⟨some d, .call { callee := .value f, args := xs.toArray, argTypes := ts.toArray }, ty, pos, af, none⟩ :: os) n sl hl nx acc K :=
  X_callS (has_X hd) hf ha (by rw [List.append_nil]; exact hg) (.inr ⟨cs, hs.e, hc⟩) hk hr h4
theorem VWL_app : ∀ {m : Nat} {ps qs : List PV} {xs ys : List GV}, VWL hl m ps xs → VWL hl m qs ys → VWL hl m (ps ++ qs) (xs ++ ys) := fun h1 h2 => ⟨vl_app h1.e h2.e⟩
structure APP {α : Type} (xs ys zs : List α) : Prop where
  e : xs ++ ys = zs
theorem APP_nil {α : Type} (ys : List α) : APP [] ys ys := ⟨rfl⟩
theorem APP_cons {α : Type} {x : α} {xs ys zs : List α} (h : APP xs ys zs) : APP (x :: xs) ys (x :: zs) := ⟨by simp [h.e]⟩
theorem X_callC {kk : Nat} {f : Operand} {xs : List Operand} {ts : List TypeId} {fid : FuncId} {caps ps : List PV} {gs1 gs2 gs : List GV} {r : GV} {pv : PV} {hl' : List (Nat × Block)} (hd : RF (hasB d n = true)) (hf : FN sl tab f fid caps) (ha : ARG sl tab xs ts ps) (hg1 : VWL hl 6 ps gs1) (hg2 : VWL hl 6 caps gs2) (hgs : APP gs1 gs2 gs) (hc : CON P fid gs r) (hk : NID (nx + 8 * i) kk) (hr : RES kk r hl pv hl')
    (h4 : AF dr P tab ops (i + 1) os n ((d, pv) :: sl) hl' nx (acc ++ [tcX tab i n sl hl nx ⟨some d, .call { callee := .value f, args := xs.toArray, argTypes := ts.toArray }, ty, pos, af, none⟩ (idsW (thawW kk (leavesR r)))]) K) : AF dr P tab ops i (⟨some d, .call { callee := .value f, args := xs.toArray, argTypes := ts.toArray }, ty, pos, af, none⟩ :: os) n sl hl nx acc K :=
  X_callG (has_X hd) hf ha (by rw [← hgs.e]; exact VWL_app hg1 hg2) hc hk hr h4
structure LENQ (len : Nat) (xs ys : List GV) : Prop where
  a : len = xs.length
  b : ys.length = xs.length
def MRK (P : Program) (f : FuncId) (ag : Bool) (gs gs' : List GV) (k : Int) (c : Nat) : Prop := MarkC P f ag gs gs' k c
theorem MRK.e {P : Program} {f : FuncId} {ag : Bool} {gs gs' : List GV} {k : Int} {c : Nat} (h : MRK P f ag gs gs' k c) : MarkC P f ag gs gs' k c := h
structure CMP (p : PV) (ag : Bool) (ps : List PV) : Prop where
  e : p = (if ag then .agg ps else ps.headD .undef)
  l : ag = false → ps.length = 1
structure WG (hl : List (Nat × Block)) (ps : List PV) (gs : List GV) : Prop where
theorem WG_nil (hl : List (Nat × Block)) : WG hl [] [] := ⟨⟩
theorem WG_atom {x : GV} {ps : List PV} {gs : List GV} (h : WG hl ps gs) : WG hl (.g x :: ps) (x :: gs) := ⟨⟩
theorem WG_own {id e len : Nat} {xs : List GV} {ps : List PV} {gs : List GV} (hb : HL hl id (.arr e true xs)) (h : WG hl ps gs) : WG hl (.own id 0 len :: ps) (.sl e xs :: gs) := ⟨⟩
theorem CMP_agg (ps : List PV) : CMP (.agg ps) true ps := ⟨rfl, fun h => by cases h⟩
theorem CMP_own (id lo len : Nat) : CMP (.own id lo len) false [.own id lo len] := ⟨rfl, fun _ => rfl⟩
structure WW (h0 hl : List (Nat × Block)) (ps : List PV) (gs gs' : List GV) (ws : List (Nat × Block)) (is : List (List Nat)) (hl' : List (Nat × Block)) : Prop where
  e : WhL (lookH h0) ps gs gs' ws is
  p : pushW ws hl = hl'
theorem WW_nil (h0 hl : List (Nat × Block)) : WW h0 hl [] [] [] [] [] hl := ⟨.nil, rfl⟩
theorem WW_atom {h0 hl hl' : List (Nat × Block)} {x : GV} {ps : List PV} {gs gs' : List GV} {ws : List (Nat × Block)} {is : List (List Nat)} (hx : RF (x.atom = true)) (h : WW h0 hl ps gs gs' ws is hl') : WW h0 hl (.g x :: ps) (x :: gs) (x :: gs') ws ([] :: is) hl' :=
  ⟨.cons (w := []) (.atom x hx.e) h.e (by simp), h.p⟩
theorem WW_own {h0 hl hl' : List (Nat × Block)} {id e len : Nat} {xs ys : List GV} {ps : List PV} {gs gs' : List GV} {ws : List (Nat × Block)} {is : List (List Nat)} (hb : HL h0 id (.arr e true xs)) (hq : LENQ len xs ys) (h : WW h0 ((id, .arr e true ys) :: hl) ps gs gs' ws is hl') (hn : RF ((ws.all fun x => !(Nat.beq x.1 id)) = true)) :
    WW h0 hl (.own id 0 len :: ps) (.sl e xs :: gs) (.sl e ys :: gs') ((id, .arr e true ys) :: ws) ([id] :: is) hl' :=
  ⟨.cons (w := [(id, .arr e true ys)]) (.own id e len xs ys hb.e hq.a hq.b) h.e (fun x hx hm => by
    simp at hx; subst hx
    obtain ⟨y, hy, e⟩ := List.mem_map.1 hm
    have := List.all_eq_true.1 hn.e y hy
    rw [e, show Nat.beq id id = true from Nat.beq_refl id] at this; cases this), h.p⟩
def okSL (n : Nat) (hl : List (Nat × Block)) (sl : List (Nat × PV)) : Bool := sl.all fun x => okS n x.1 x.2 || okG (lookH hl) x.2
def okBL (hl : List (Nat × Block)) : Bool := hl.all fun x => okB x.2
theorem okSL_ok {n : Nat} {hl : List (Nat × Block)} : ∀ {sl : List (Nat × PV)}, okSL n hl sl = true → ∀ t, (okS n t (lookS sl t) || okG (lookH hl) (lookS sl t)) = true
  | [], _, _ => rfl
  | (d, v) :: sl, h, t => by
    simp only [okSL, List.all_cons, Bool.and_eq_true] at h
    unfold lookS
    split
    · rename_i e; subst e; exact h.1
    · exact okSL_ok (sl := sl) h.2 t
theorem okBL_ok : ∀ {hl : List (Nat × Block)}, okBL hl = true → ∀ id, okB (lookH hl id) = true
  | [], _, _ => rfl
  | (d, v) :: hl, h, t => by
    simp only [okBL, List.all_cons, Bool.and_eq_true] at h
    unfold lookH
    split
    · exact h.1
    · exact okBL_ok (hl := hl) h.2 t
theorem X_mark {f : FuncId} {x y : Operand} {tx t2 : TypeId} {ag : Bool} {p : PV} {ps : List PV} {gs gs' : List GV} {k : Int} {c : Nat} {ws : List (Nat × Block)} {is : List (List Nat)} {hl' : List (Nat × Block)} (hd : RF (hasB d n = true)) (hdr : RF (dr = false)) (hx : EV sl tab tx x p) (hy : EV sl tab t2 y (.g (.int .i64 k))) (hp : CMP p ag ps) (hg : WG hl ps gs) (hm : MRK P f ag gs gs' k c)
    (hw : WW hl hl ps gs gs' ws is hl') (hc : RF ((okSL n hl sl && okBL hl) = true)) (h4 : AF dr P tab ops (i + 1) os n ((d, .g (.int .i64 (k + c))) :: sl) hl' nx (acc ++ [tcX tab i n sl hl nx ⟨some d, .call { callee := .value (.func f), args := #[x, y], argTypes := #[tx, t2] }, ty, pos, af, none⟩ (idsW ws)]) K) : AF dr P tab ops i (⟨some d, .call { callee := .value (.func f), args := #[x, y], argTypes := #[tx, t2] }, ty, pos, af, none⟩ :: os) n sl hl nx acc K := by
  cases hdr.e
  have hc := hc.e
  rw [Bool.and_eq_true] at hc
  refine AX_mark (pv := .g (.int .i64 (k + c))) (ws := ws) rfl (has_X hd) ⟨f, x, y, tx, t2, ag, ps, gs, gs', k, c, is, rfl, ?_, hp.l, ?_, hw.e, hm.e, okSL_ok hc.1, okBL_ok hc.2, rfl⟩ ?_
  · rw [hx.e]; exact hp.e
  · rw [hy.e]
  · rw [writes_XL, put_XL, hw.p]; exact h4
structure RPV (id : Nat) (cut : Option Nat) (pv : PV) : Prop where
  e : rowPV id cut = pv
theorem RPV_none (id : Nat) : RPV id none .undef := ⟨rfl⟩
theorem RPV_some (id m : Nat) : RPV id (some m) (.own id 0 m) := ⟨rfl⟩
theorem X_row {f : FuncId} {x : Operand} {t : TypeId} {id len : Nat} {dp : Bool} {xs ys : List Int} {cut : Option Nat} {pv : PV} (hd : RF (hasB d n = true)) (hx : EV sl tab t x (.own id 0 len)) (hb : HL hl id (.arr 1 dp (xs.map GV.i))) (hl' : NU (len = xs.length)) (hc : ROW P f xs ys cut) (hp : RPV id cut pv)
    (h4 : AF dr P tab ops (i + 1) os n ((d, pv) :: sl) ((id, .arr 1 true (ys.map GV.i)) :: hl) nx (acc ++ [tcX tab i n sl hl nx ⟨some d, .call { callee := .value (.func f), args := #[x], argTypes := #[t] }, ty, pos, af, none⟩ (idsW [(id, .arr 1 true (ys.map GV.i))])]) K) : AF dr P tab ops i (⟨some d, .call { callee := .value (.func f), args := #[x], argTypes := #[t] }, ty, pos, af, none⟩ :: os) n sl hl nx acc K := by
  refine AX_step (pv := rowPV id cut) (ws := [(id, .arr 1 true (ys.map GV.i))]) rfl (has_X hd) (.inr (.inr (eff_row rfl rfl (hx.e n hl nx) (hb.e : (mkX n sl hl nx).heap id = _) hl'.e hc _))) ?_
  rw [writes_XL, put_XL, hp.e]; exact h4
def INTO (P : Program) (f : FuncId) (xs : List Int) (x : Int) (ys : List Int) : Prop := IntoC P f xs x ys
theorem X_into {kk : Nat} {f : FuncId} {x y : Operand} {tx t2 : TypeId} {id len : Nat} {m : Int} {xs ys : List Int} (hd : RF (hasB d n = true)) (hx : EV sl tab tx x (.own id 0 len)) (hy : EV sl tab t2 y (.g (.int .i64 m))) (hb : HL hl id (.arr 1 true (xs.map GV.i))) (hl' : NU (len = xs.length)) (hk : NID (nx + 8 * i) kk) (hf : HL hl kk .free) (hc : INTO P f xs m ys)
    (h4 : AF dr P tab ops (i + 1) os n ((d, .own kk 0 ys.length) :: sl) ((id, .dead) :: (kk, .arr 1 true (ys.map GV.i)) :: hl) nx (acc ++ [tcX tab i n sl hl nx ⟨some d, .call { callee := .value (.func f), args := #[x, y], argTypes := #[tx, t2] }, ty, pos, af, none⟩ (idsW [(kk, .arr 1 true (ys.map GV.i)), (id, .dead)])]) K) : AF dr P tab ops i (⟨some d, .call { callee := .value (.func f), args := #[x, y], argTypes := #[tx, t2] }, ty, pos, af, none⟩ :: os) n sl hl nx acc K := by
  cases hk.e
  refine AX_step (pv := .own (nx + 8 * i) 0 ys.length) (ws := [(nx + 8 * i, .arr 1 true (ys.map GV.i)), (id, .dead)]) rfl (has_X hd) (.inr (.inr (eff_into rfl rfl (hx.e n hl nx) (hy.e n hl nx) (hb.e : (mkX n sl hl nx).heap id = _) hl'.e (hf.e : (mkX n sl hl nx).heap _ = _) hc))) ?_
  rw [writes_XL, put_XL]; exact h4
def BOXC (P : Program) (f : FuncId) (cs gs : List GV) (r : GV) (cs' : List GV) : Prop := BoxC P f cs gs r cs'
theorem BOX_of {P : Program} {f : FuncId} {cs gs : List GV} {r : GV} {cs' : List GV} (h : BoxC P f cs gs r cs') : BOXC P f cs gs r cs' := h
theorem X_cbox {kk : Nat} {f : FuncId} {x : Operand} {xs : List Operand} {t : TypeId} {ts : List TypeId} {id : Nat} {B B' ps : List PV} {cs gs cs' : List GV} {r : GV} {pv : PV} {hl' : List (Nat × Block)} (hd : RF (hasB d n = true)) (hx : EV sl tab t x (.ptr id 0)) (hb : HL hl id (.box B)) (h1 : GL B cs) (ha : ARG sl tab xs ts ps) (hv : VWL hl 6 ps gs) (hn : RF (ps.all np = true)) (hc : BOXC P f cs gs r cs') (h2 : GL B' cs') (hk : NID (nx + 8 * i) kk) (hr : RES kk r ((id, .box B') :: hl) pv hl')
    (h4 : AF dr P tab ops (i + 1) os n ((d, pv) :: sl) hl' nx (acc ++ [tcX tab i n sl hl nx ⟨some d, .call { callee := .value (.func f), args := (x :: xs).toArray, argTypes := (t :: ts).toArray }, ty, pos, af, none⟩ (idsW ((id, .box B') :: thawW kk (leavesR r)))]) K) : AF dr P tab ops i (⟨some d, .call { callee := .value (.func f), args := (x :: xs).toArray, argTypes := (t :: ts).toArray }, ty, pos, af, none⟩ :: os) n sl hl nx acc K := by
  cases hk.e
  have e1 := h1.e
  have e2 := h2.e
  subst e1; subst e2
  refine AX_step (pv := thawR (nx + 8 * i) r) (ws := (id, .box (cs'.map PV.g)) :: thawW (nx + 8 * i) (leavesR r)) rfl (has_X hd) (.inr (.inr (eff_box rfl rfl (hx.e n hl nx) (hb.e : (mkX n sl hl nx).heap id = _) (ha.e n hl nx) (hv.e : viewL (view (mkX n sl hl nx).heap 6) ps = some gs) hn.e hc hr.lf (fun j hj => ?_) hr.l8))) ?_
  · have h5 := hr.fr j hj
    rw [mkX_nx, mkX_heap]
    simp only [lookH] at h5
    split at h5
    · cases h5
    · exact h5
  · rw [mkX_nx, writes_XL, put_XL, hr.pv]
    have h6 : pushW ((id, .box (cs'.map PV.g)) :: thawW (nx + 8 * i) (leavesR r)) hl = hl' := hr.hl
    rw [h6]; exact h4
def CLOC (P : Program) (f : FuncId) (g0 : GV) (c1 c2 : List GV) (L : List Int) (q : Int) (L' : List Int) (q' : Int) : Prop := CloC P f g0 c1 c2 L q L' q'
theorem X_clo {kk fo : Nat} {f0 : FuncId} {x : Operand} {tx : TypeId} {iL iA iQ i1 i2 m : Nat} {g0 : GV} {B1 B2 : List PV} {c1 c2 : List GV} {L L' : List Int} {q q' : Int} {dp : Bool} (hd : RF (hasB d n = true)) (hf : EV sl tab 0 (.tmp fo) (.fn f0 [.ptr iL 0, .ptr i1 0, .ptr iQ 0, .ptr i2 0])) (hx : EV sl tab tx x (.g g0)) (hL : HL hl iL (.box [.own iA 0 m])) (hA : HL hl iA (.arr 1 dp (L.map GV.i))) (hQ : HL hl iQ (.box [.g (.int .i64 q)])) (h1 : HL hl i1 (.box B1)) (hB1 : GL B1 c1) (h2 : HL hl i2 (.box B2)) (hB2 : GL B2 c2)
    (hn : RF ([iL, iA, iQ, i1, i2].Nodup)) (hm : NU (m = L.length)) (hk : NID (nx + 8 * i) kk) (hfr : HL hl kk .free) (hc : CLOC P f0 g0 c1 c2 L q L' q')
    (h4 : AF dr P tab ops (i + 1) os n ((d, .tup []) :: sl) ((iQ, .box [.g (.int .i64 q')]) :: (kk, .arr 1 true (L'.map GV.i)) :: (iA, .dead) :: (iL, .box [.own kk 0 L'.length]) :: hl) nx (acc ++ [tcX tab i n sl hl nx ⟨some d, .call { callee := .value (.tmp fo), args := #[x], argTypes := #[tx] }, ty, pos, af, none⟩ (idsW [(iL, .box [.own kk 0 L'.length]), (iA, .dead), (kk, .arr 1 true (L'.map GV.i)), (iQ, .box [.g (.int .i64 q')])])]) K) :
    AF dr P tab ops i (⟨some d, .call { callee := .value (.tmp fo), args := #[x], argTypes := #[tx] }, ty, pos, af, none⟩ :: os) n sl hl nx acc K := by
  cases hk.e
  have e1 := hB1.e
  have e2 := hB2.e
  have em := hm.e
  subst e1; subst e2; subst em
  refine AX_step (pv := .tup []) (ws := [(iL, .box [.own (nx + 8 * i) 0 L'.length]), (iA, .dead), (nx + 8 * i, .arr 1 true (L'.map GV.i)), (iQ, .box [.g (.int .i64 q')])]) rfl (has_X hd) (.inr (.inr (eff_clo rfl (hf.e n hl nx) (hx.e n hl nx) (hL.e : (mkX n sl hl nx).heap iL = _) (hA.e : (mkX n sl hl nx).heap iA = _) (hQ.e : (mkX n sl hl nx).heap iQ = _) (h1.e : (mkX n sl hl nx).heap i1 = _) (h2.e : (mkX n sl hl nx).heap i2 = _) hn.e (hfr.e : (mkX n sl hl nx).heap _ = _) hc))) ?_
  rw [writes_XL, put_XL]; exact h4
def NEWC (P : Program) (f : FuncId) (gs cs : List GV) : Prop := NewC P f gs cs
theorem NEW_of {P : Program} {f : FuncId} {gs cs : List GV} (h : NewC P f gs cs) : NEWC P f gs cs := h
theorem X_cnew {kk : Nat} {f : FuncId} {xs : List Operand} {ts : List TypeId} {B ps : List PV} {gs cs : List GV} (hd : RF (hasB d n = true)) (ha : ARG sl tab xs ts ps) (hv : GL ps gs) (hc : NEWC P f gs cs) (h2 : GL B cs) (hk : NID (nx + 8 * i) kk) (hf : HL hl kk .free)
    (h4 : AF dr P tab ops (i + 1) os n ((d, .ptr kk 0) :: sl) ((kk, .box B) :: hl) nx (acc ++ [tcX tab i n sl hl nx ⟨some d, .call { callee := .value (.func f), args := xs.toArray, argTypes := ts.toArray }, ty, pos, af, none⟩ (idsW [(kk, .box B)])]) K) : AF dr P tab ops i (⟨some d, .call { callee := .value (.func f), args := xs.toArray, argTypes := ts.toArray }, ty, pos, af, none⟩ :: os) n sl hl nx acc K := by
  cases hk.e
  have e2 := h2.e
  subst e2
  refine AX_step (pv := .ptr (nx + 8 * i) 0) (ws := [(nx + 8 * i, .box (cs.map PV.g))]) rfl (has_X hd) (.inr (.inr (eff_new rfl rfl (ha.e n hl nx) hv hc (hf.e : (mkX n sl hl nx).heap _ = _)))) ?_
  rw [writes_XL, put_XL]; exact h4
theorem AF_guard {op : Op} {dst : Option Nat} {g : Nat} {b c : Bool} {t : Nat} (hd : (ops[g]?).bind (·.dst) = some t) (hs : SL sl t (.g (.bool c))) (hcb : (c == b) = true) (h : AF dr P tab ops i (⟨dst, op, ty, pos, af, none⟩ :: os) n sl hl nx acc K) : AF dr P tab ops i (⟨dst, op, ty, pos, af, some (g, b)⟩ :: os) n sl hl nx acc K := AX_guard hd hs.e hcb h
theorem AF_noguard {op : Op} {d : Nat} {g : Nat} {b c : Bool} {t : Nat} (hd : (ops[g]?).bind (·.dst) = some t) (hs : SL sl t (.g (.bool c))) (hcb : (c == b) = false) (h2 : RF (hasB d n = true)) (h : AF dr P tab ops (i + 1) os n ((d, .none_) :: sl) hl nx (acc ++ [([], [])]) K) : AF dr P tab ops i (⟨some d, op, ty, pos, af, some (g, b)⟩ :: os) n sl hl nx acc K := AX_noguard hd hs.e hcb (has_X h2) (by rw [put_X]; exact h)
theorem AF_nonguard {op : Op} {d : Nat} {g : Nat} {b : Bool} {t : Nat} (hd : (ops[g]?).bind (·.dst) = some t) (hs : SL sl t .none_) (h2 : RF (hasB d n = true)) (h : AF dr P tab ops (i + 1) os n ((d, .none_) :: sl) hl nx (acc ++ [([], [])]) K) : AF dr P tab ops i (⟨some d, op, ty, pos, af, some (g, b)⟩ :: os) n sl hl nx acc K := AX_nonguard hd hs.e (has_X h2) (by rw [put_X]; exact h)
theorem AF_split {op : Op} {dst : Option Nat} {g : Nat} {b c : Bool} {t : Nat} (hd : (ops[g]?).bind (·.dst) = some t) (hs : SL sl t (.g (.bool c))) (h1 : c = true → AF dr P tab ops i (⟨dst, op, ty, pos, af, some (g, b)⟩ :: os) n ((t, .g (.bool true)) :: sl) hl nx acc K) (h2 : c = false → AF dr P tab ops i (⟨dst, op, ty, pos, af, some (g, b)⟩ :: os) n ((t, .g (.bool false)) :: sl) hl nx acc K) : AF dr P tab ops i (⟨dst, op, ty, pos, af, some (g, b)⟩ :: os) n sl hl nx acc K :=
  AX_split hd hs.e (fun e => by rw [put_X]; exact h1 e) (fun e => by rw [put_X]; exact h2 e)
structure GD (dr : Bool) (P : Program) (tab : Tab) (ops : Array Oper) (i : Nat) (o : Oper) (os : List Oper) (n : Nat) (sl : List (Nat × PV)) (hl : List (Nat × Block)) (nx : Nat) (acc : List (List Nat × List Nat)) (K : AState → List (List Nat × List Nat) → Prop) (t : Nat) (p : PV) : Prop where
  e : SL sl t p → AF dr P tab ops i (o :: os) n sl hl nx acc K
theorem X_guard {op : Op} {dst : Option Nat} {g : Nat} {b : Bool} {t : Nat} {p : PV} (hd : RF ((ops[g]?).bind (·.dst) = some t)) (hs : SL sl t p) (h : GD dr P tab ops i ⟨dst, op, ty, pos, af, some (g, b)⟩ os n sl hl nx acc K t p) : AF dr P tab ops i (⟨dst, op, ty, pos, af, some (g, b)⟩ :: os) n sl hl nx acc K := h.e hs
theorem GD_tt {op : Op} {dst : Option Nat} {g t : Nat} (hd : RF ((ops[g]?).bind (·.dst) = some t)) (h : AF dr P tab ops i (⟨dst, op, ty, pos, af, none⟩ :: os) n sl hl nx acc K) : GD dr P tab ops i ⟨dst, op, ty, pos, af, some (g, true)⟩ os n sl hl nx acc K t (.g (.bool true)) := ⟨fun hs => AF_guard hd.e hs rfl h⟩
theorem GD_ff {op : Op} {dst : Option Nat} {g t : Nat} (hd : RF ((ops[g]?).bind (·.dst) = some t)) (h : AF dr P tab ops i (⟨dst, op, ty, pos, af, none⟩ :: os) n sl hl nx acc K) : GD dr P tab ops i ⟨dst, op, ty, pos, af, some (g, false)⟩ os n sl hl nx acc K t (.g (.bool false)) := ⟨fun hs => AF_guard hd.e hs rfl h⟩
theorem GD_tf {op : Op} {d : Nat} {g t : Nat} (hd : RF ((ops[g]?).bind (·.dst) = some t)) (h2 : RF (hasB d n = true)) (h : AF dr P tab ops (i + 1) os n ((d, .none_) :: sl) hl nx (acc ++ [([], [])]) K) : GD dr P tab ops i ⟨some d, op, ty, pos, af, some (g, false)⟩ os n sl hl nx acc K t (.g (.bool true)) := ⟨fun hs => AF_noguard hd.e hs rfl h2 h⟩
theorem GD_ft {op : Op} {d : Nat} {g t : Nat} (hd : RF ((ops[g]?).bind (·.dst) = some t)) (h2 : RF (hasB d n = true)) (h : AF dr P tab ops (i + 1) os n ((d, .none_) :: sl) hl nx (acc ++ [([], [])]) K) : GD dr P tab ops i ⟨some d, op, ty, pos, af, some (g, true)⟩ os n sl hl nx acc K t (.g (.bool false)) := ⟨fun hs => AF_noguard hd.e hs rfl h2 h⟩
theorem GD_none {op : Op} {d : Nat} {g t : Nat} {b : Bool} (hd : RF ((ops[g]?).bind (·.dst) = some t)) (h2 : RF (hasB d n = true)) (h : AF dr P tab ops (i + 1) os n ((d, .none_) :: sl) hl nx (acc ++ [([], [])]) K) : GD dr P tab ops i ⟨some d, op, ty, pos, af, some (g, b)⟩ os n sl hl nx acc K t .none_ := ⟨fun hs => AF_nonguard hd.e hs h2 h⟩
theorem GD_split {op : Op} {dst : Option Nat} {g t : Nat} {b c : Bool} (hd : RF ((ops[g]?).bind (·.dst) = some t)) (h1 : c = true → AF dr P tab ops i (⟨dst, op, ty, pos, af, some (g, b)⟩ :: os) n ((t, .g (.bool true)) :: sl) hl nx acc K) (h2 : c = false → AF dr P tab ops i (⟨dst, op, ty, pos, af, some (g, b)⟩ :: os) n ((t, .g (.bool false)) :: sl) hl nx acc K) : GD dr P tab ops i ⟨dst, op, ty, pos, af, some (g, b)⟩ os n sl hl nx acc K t (.g (.bool c)) := ⟨fun hs => AF_split hd.e hs h1 h2⟩
end
end Go.Proofs.YtachnjinfdagjaaDoor
namespace Go.Proofs.YtachnjinfdagjaaDoor
open Go.RowKit
open Shp
theorem Rel.nx {w0 : W0} {S : AState} {a : Act} {w : World} (h : Rel w0 S a w) (k : Nat) : Rel w0 { S with nx := k } a w := by
  obtain ⟨μ, who, h⟩ := h
  exact ⟨μ, who, h.size, h.slot, h.dfr, h.blk, h.inj, h.base, h.keep, h.old⟩
theorem Le_nx {n nx nx' : Nat} {sl : List (Nat × PV)} {hl : List (Nat × Block)} : Le (mkX n sl hl nx) (mkX n sl hl nx') := fun _ _ _ h => h.nx nx'
theorem Le.trans {S S' S'' : AState} (h : Le S S') (h' : Le S' S'') : Le S S'' := fun w0 a w hr => h' w0 a w (h w0 a w hr)
theorem Le_slots {S S' : AState} (hn : S'.n = S.n) (hh : S'.heap = S.heap) (hs : ∀ t, S'.slots t = .undef ∨ S'.slots t = S.slots t) : Le S S' := by
  rintro w0 a w ⟨μ, who, h⟩
  refine ⟨μ, who, by rw [hn]; exact h.size, fun t => ?_, h.dfr, fun i => by rw [hh]; exact h.blk i, by rw [hh]; exact h.inj, by rw [hh]; exact h.base, h.keep, fun t x hp hx => (by
    rcases hs t with e | e
    · rw [e] at hx; cases hx
    · rw [e] at hx; exact h.old.1 t x (by rw [← hn]; exact hp) hx), fun t v hv ht => by rw [hn]; exact h.old.2 t v hv ht⟩
  rcases hs t with e | e
  · rw [e]; exact .undef _
  · rw [e, hh]; exact h.slot t
def TX (lv : Nat → List Nat) (P : Program) (tab : Tab) (c : Code) (n : Nat) (sl : List (Nat × PV)) (hl : List (Nat × Block)) (Q : Exit → AState → Prop) : Prop := T P c (mkX n sl hl 0) Q
theorem TX.run {lv : Nat → List Nat} {P : Program} {tab : Tab} {c : Code} {n : Nat} {sl : List (Nat × PV)} {hl : List (Nat × Block)} {Q : Exit → AState → Prop} (h : TX lv P tab c n sl hl Q) : T P c (mkX n sl hl 0) Q := h
def QA (Q : Exit → AState → Prop) (e : Exit) (n : Nat) (sl : List (Nat × PV)) (hl : List (Nat × Block)) : Prop := Q e (mkX n sl hl 0)
theorem QA.run {Q : Exit → AState → Prop} {e : Exit} {n : Nat} {sl : List (Nat × PV)} {hl : List (Nat × Block)} (h : QA Q e n sl hl) : Q e (mkX n sl hl 0) := h
def upQ (Q : Exit → AState → Prop) : Exit → AState → Prop := fun e S => ∃ S', Q e S' ∧ Le S S'
theorem T_upQ {P : Program} {c : Code} {S : AState} {Q : Exit → AState → Prop} (h : T P c S (upQ Q)) : T P c S Q := fun w0 a w hr => by
  refine wp_mono (h w0 a w hr) ?_
  rintro e a' w' ⟨S', ⟨S2, h1, h2⟩, h3⟩
  exact ⟨S2, h1, h2 _ _ _ h3⟩
def NK (L : List Nat) (Q : Exit → AState → Prop) (S : AState) : Prop := upQ Q .normal S
theorem NK.run {L : List Nat} {Q : Exit → AState → Prop} {S : AState} (h : NK L Q S) : upQ Q .normal S := h
theorem NK_mk {L : List Nat} {Q : Exit → AState → Prop} {n nx : Nat} {sl sl' : List (Nat × PV)} {hl : List (Nat × Block)} (hs : Sel sl L sl') (h : QA Q .normal n sl' hl) : NK L Q (mkX n sl hl nx) :=
  ⟨_, h.run, Le_slots (S := mkX n sl hl nx) (S' := mkX n sl' hl 0) rfl rfl hs.e⟩
section
variable {lv : Nat → List Nat} {P : Program} {tab : Tab} {n : Nat} {sl : List (Nat × PV)} {hl : List (Nat × Block)} {Q : Exit → AState → Prop} {x y c : Code}
theorem AW_K {ops : Array Oper} {K K' : AState → Prop} (hk : ∀ S, K S → K' S) : ∀ {os : List Oper} {i : Nat} {S : AState}, AW P tab ops i os S K → AW P tab ops i os S K'
  | [], _, _, h => hk _ h
  | o :: os, i, S, h => by
    obtain ⟨b, h1, h2, h3, h4⟩ := h
    refine ⟨b, h1, h2, fun hb => ?_, fun hb => AW_K hk (h4 hb)⟩
    obtain ⟨pv, ws, h5, h6⟩ := h3 hb
    exact ⟨pv, ws, h5, AW_K hk h6⟩
theorem AD_K {ops : Array Oper} {K K' : AState → List (List Nat × List Nat) → Prop} (hk : ∀ S tw, K S tw → K' S tw) : ∀ {os : List Oper} {i : Nat} {S : AState} {acc : List (List Nat × List Nat)}, AD P tab ops i os S acc K → AD P tab ops i os S acc K'
  | [], _, _, _, h => hk _ _ h
  | o :: os, i, S, acc, h => by
    obtain ⟨b, h1, h2, h3, h4⟩ := h
    refine ⟨b, h1, h2, fun hb => ?_, fun hb => AD_K hk (h4 hb)⟩
    obtain ⟨pv, ws, h5, h6⟩ := h3 hb
    exact ⟨pv, ws, h5, AD_K hk h6⟩
theorem NK.on {L : List Nat} {S : AState} (h : NK L Q S) : upQ Q .normal (S.on 512) := by
  obtain ⟨S', h1, h2⟩ := h.run
  refine ⟨S', h1, fun w0 a w hr => h2 _ _ _ ?_⟩
  obtain ⟨μ, who, h⟩ := hr
  exact ⟨μ, who, h.size, h.slot, h.dfr, h.blk, h.inj, h.base, h.keep, h.old⟩
theorem TX_rgW (ht : TabOk P tab) {id : Nat} {l : List Oper} {L : List Nat} (hL : RF (lv id = L)) (h : AF false P tab l.toArray 0 l n sl hl (4096 * id + 4096) [] (fun S' _ => NK L Q S')) : TX lv P tab (.region id l.toArray false) n sl hl Q :=
  (T_upQ (T.le Le_nx (T_region ht 512 (AW_K (fun S hS => NK.on hS) h.run))))
theorem TX_rgD (ht : TabOk P tab) (hm : P.follows .mixedOrders = true) {id : Nat} {l : List Oper} {L : List Nat} (hL : RF (lv id = L)) (h : AF true P tab l.toArray 0 l n sl hl (4096 * id + 4096) [] (fun S' tw => ordB l tw = true ∧ NK L Q S')) : TX lv P tab (.region id l.toArray true) n sl hl Q :=
  (T_upQ (T.le Le_nx (T_drawn ht 512 hm (AD_K (fun S tw hS => ⟨hS.1, NK.on hS.2⟩) h.run))))
theorem AF_nilD {ops : Array Oper} {i nx : Nat} {l : List Oper} {L : List Nat} {acc : List (List Nat × List Nat)} (h : NK L Q (mkX n sl hl nx)) (ho : ordB l acc = true) : AF true P tab ops i [] n sl hl nx acc (fun S' tw => ordB l tw = true ∧ NK L Q S') := ⟨ho, h⟩
theorem AF_nilK {ops : Array Oper} {i nx : Nat} {L : List Nat} {acc : List (List Nat × List Nat)} (h : NK L Q (mkX n sl hl nx)) : AF false P tab ops i [] n sl hl nx acc (fun S' _ => NK L Q S') := ⟨h⟩
def andX (lv : Nat → List Nat) (P : Program) (tab : Tab) (c : Code) (Q : Exit → AState → Prop) : Exit → AState → Prop
  | .normal, S => ∃ n sl hl, S = mkX n sl hl 0 ∧ TX lv P tab c n sl hl Q
  | e, S => Q e S
theorem TX_seq (h : TX lv P tab x n sl hl (andX lv P tab y Q)) : TX lv P tab (.seq x y) n sl hl Q := T_seq (h.run.mono fun e S h => by
  cases e with
  | normal => obtain ⟨n, sl, hl, rfl, h⟩ := h; exact h.run
  | _ => exact h)
theorem TX_block {id : Nat} (h : TX lv P tab c n sl hl (inT id Q)) : TX lv P tab (.block id c) n sl hl Q := T_block h.run
def notLoop : Code → Bool
  | .loop _ => false
  | _ => true
theorem TX_blk {id : Nat} (hn : RF (notLoop c = true)) (h : TX lv P tab c n sl hl (inT id Q)) : TX lv P tab (.block id c) n sl hl Q := TX_block h
theorem TX_skip (h : QA Q .normal n sl hl) : TX lv P tab .skip n sl hl Q := T_skip h.run
theorem TX_label {l : Nat} (h : QA Q .normal n sl hl) : TX lv P tab (.label l) n sl hl Q := T_label h.run
theorem TX_ret (h : QA Q .ret n sl hl) : TX lv P tab .ret n sl hl Q := T_ret h.run
theorem TX_exit {id : Nat} (h : QA Q (.exit id) n sl hl) : TX lv P tab (.exit id) n sl hl Q := T_exit h.run
structure CK' (lv : Nat → List Nat) (P : Program) (tab : Tab) (x y : Code) (n : Nat) (sl : List (Nat × PV)) (hl : List (Nat × Block)) (Q : Exit → AState → Prop) (p : PV) : Prop where
  e : ∃ b, p = .g (.bool b) ∧ (b = true → TX lv P tab x n sl hl Q) ∧ (b = false → TX lv P tab y n sl hl Q)
def CK (lv : Nat → List Nat) (P : Program) (tab : Tab) (x y : Code) (n : Nat) (sl : List (Nat × PV)) (hl : List (Nat × Block)) (Q : Exit → AState → Prop) (p : PV) : Prop := CK' lv P tab x y n sl hl Q p
theorem CK.mk {lv : Nat → List Nat} {P : Program} {tab : Tab} {x y : Code} {n : Nat} {sl : List (Nat × PV)} {hl : List (Nat × Block)} {Q : Exit → AState → Prop} {p : PV} (h : CK' lv P tab x y n sl hl Q p) : CK lv P tab x y n sl hl Q p := h
theorem CK.e {lv : Nat → List Nat} {P : Program} {tab : Tab} {x y : Code} {n : Nat} {sl : List (Nat × PV)} {hl : List (Nat × Block)} {Q : Exit → AState → Prop} {p : PV} (h : CK lv P tab x y n sl hl Q p) : ∃ b, p = .g (.bool b) ∧ (b = true → TX lv P tab x n sl hl Q) ∧ (b = false → TX lv P tab y n sl hl Q) := @CK'.e _ _ _ _ _ _ _ _ _ _ h
theorem TX_cond {o : Operand} {p : PV} (hb : EV sl tab 0 o p) (h : CK lv P tab x y n sl hl Q p) : TX lv P tab (.cond o x y) n sl hl Q := by
  obtain ⟨b, rfl, h1, h2⟩ := h.e
  exact T_cond (hb.e _ _ _) (fun e => (h1 e).run) (fun e => (h2 e).run)
theorem CK_t (h : TX lv P tab x n sl hl Q) : CK lv P tab x y n sl hl Q (.g (.bool true)) := CK.mk ⟨_, rfl, fun _ => h, fun e => by cases e⟩
theorem CK_f (h : TX lv P tab y n sl hl Q) : CK lv P tab x y n sl hl Q (.g (.bool false)) := CK.mk ⟨_, rfl, (fun e => by cases e), fun _ => h⟩
theorem CK_if {b : Bool} (h1 : b = true → TX lv P tab x n sl hl Q) (h2 : b = false → TX lv P tab y n sl hl Q) : CK lv P tab x y n sl hl Q (.g (.bool b)) := CK.mk ⟨_, rfl, h1, h2⟩
theorem QA_and_n (h : TX lv P tab c n sl hl Q) : QA (andX lv P tab c Q) .normal n sl hl := ⟨_, _, _, rfl, h⟩
theorem QA_and_e {id : Nat} (h : QA Q (.exit id) n sl hl) : QA (andX lv P tab c Q) (.exit id) n sl hl := h.run
theorem QA_and_r (h : QA Q .ret n sl hl) : QA (andX lv P tab c Q) .ret n sl hl := h.run
theorem QA_in_eq {id : Nat} (h : QA Q .normal n sl hl) : QA (inT id Q) (.exit id) n sl hl := inT_eq h.run
theorem QA_in_ne {id j : Nat} (hn : NE j id) (h : QA Q (.exit j) n sl hl) : QA (inT id Q) (.exit j) n sl hl := inT_ne hn.e h.run
theorem QA_in_n {id : Nat} (h : QA Q .normal n sl hl) : QA (inT id Q) .normal n sl hl := inT_n h.run
theorem QA_in_r {id : Nat} (h : QA Q .ret n sl hl) : QA (inT id Q) .ret n sl hl := inT_r h.run
structure HD where
  sl : List (Nat × PV)
  hl : List (Nat × Block)
def LX (n : Nat) (sl : List (Nat × PV)) (hl : List (Nat × Block)) (H : HD) : Prop := Le (mkX n sl hl 0) (mkX n H.sl H.hl 0)
theorem LX.le {n : Nat} {sl : List (Nat × PV)} {hl : List (Nat × Block)} {H : HD} (h : LX n sl hl H) : Le (mkX n sl hl 0) (mkX n H.sl H.hl 0) := h
def loopX {ι : Type} (n0 : Nat) (I : ι → HD) (ok : ι → Prop) (m : ι → Nat) (i : ι) (Q : Exit → AState → Prop) : Exit → AState → Prop
  | .normal, S' => ∃ j, ok j ∧ m j < m i ∧ Le S' (mkX n0 (I j).sl (I j).hl 0)
  | e, S' => Q e S'
theorem TX_loop {id : Nat} {ι : Type} (I : ι → HD) (ok : ι → Prop) (m : ι → Nat) (i0 : ι) (h0 : LX n sl hl (I i0)) (k0 : ok i0) (round : ∀ i, ok i → TX lv P tab c n (I i).sl (I i).hl (loopX n I ok m i (inT id Q))) : TX lv P tab (.block id (.loop c)) n sl hl Q :=
  (T_block (T_loop (fun i => mkX n (I i).sl (I i).hl 0) ok m i0 h0.le k0 fun i k => (round i k).run.mono fun e S h => by cases e <;> exact h))
theorem QA_lp_e {ι : Type} {n0 : Nat} {I : ι → HD} {ok : ι → Prop} {m : ι → Nat} {i : ι} {id : Nat} (h : QA Q (.exit id) n sl hl) : QA (loopX n0 I ok m i Q) (.exit id) n sl hl := h.run
theorem QA_lp_r {ι : Type} {n0 : Nat} {I : ι → HD} {ok : ι → Prop} {m : ι → Nat} {i : ι} (h : QA Q .ret n sl hl) : QA (loopX n0 I ok m i Q) .ret n sl hl := h.run
theorem QA_lp {ι : Type} {I : ι → HD} {ok : ι → Prop} {m : ι → Nat} {i : ι} (j : ι) (h3 : LX n sl hl (I j)) (h1 : ok j) (h2 : m j < m i) : QA (loopX n I ok m i Q) .normal n sl hl := ⟨j, h1, h2, h3.le⟩
def cutX {ι : Type} (n0 : Nat) (I : ι → HD) (ok : ι → Prop) (Q : Exit → AState → Prop) : Exit → AState → Prop
  | .normal, S' => ∃ j, ok j ∧ Le S' (mkX n0 (I j).sl (I j).hl 0)
  | e, S' => Q e S'
theorem QA_ct_e {ι : Type} {n0 : Nat} {I : ι → HD} {ok : ι → Prop} {id : Nat} (h : QA Q (.exit id) n sl hl) : QA (cutX n0 I ok Q) (.exit id) n sl hl := h.run
theorem QA_ct_r {ι : Type} {n0 : Nat} {I : ι → HD} {ok : ι → Prop} (h : QA Q .ret n sl hl) : QA (cutX n0 I ok Q) .ret n sl hl := h.run
def EQ {α : Type} (a b : α) : Prop := a = b
theorem EQ.mk {α : Type} {a b : α} (h : a = b) : EQ a b := h
theorem EQ.e {α : Type} {a b : α} (h : EQ a b) : a = b := h
theorem EQ_int {k : IntKind} {a b : Int} (h : EQ a b) : EQ (GV.int k a) (.int k b) := EQ.mk (by rw [h.e])
theorem EQ_bool {a b : Bool} (h : a = b) : EQ (GV.bool a) (.bool b) := EQ.mk (by rw [h])
theorem EQ_sl {e : Nat} {xs ys : List GV} (h : EQ xs ys) : EQ (GV.sl e xs) (.sl e ys) := EQ.mk (by rw [h.e])
theorem EQ_map {α : Type} {f : α → GV} {xs ys : List α} (h : EQ xs ys) : EQ (xs.map f) (ys.map f) := EQ.mk (by rw [h.e])
theorem EQ_agg {xs ys : List GV} (h : EQ xs ys) : EQ (GV.agg xs) (.agg ys) := EQ.mk (by rw [h.e])
theorem EQ_tup {xs ys : List GV} (h : EQ xs ys) : EQ (GV.tup xs) (.tup ys) := EQ.mk (by rw [h.e])
theorem EQ_cons {x y : GV} {xs ys : List GV} (h : EQ x y) (h2 : EQ xs ys) : EQ (x :: xs) (y :: ys) := EQ.mk (by rw [h.e, h2.e])
def HY (p : Prop) : Prop := p
theorem HY.mk {p : Prop} (h : p) : HY p := h
theorem HY.e {p : Prop} (h : HY p) : p := h
structure RN (ρ : List Nat) (p v : PV) : Prop where
  e : ρ.Nodup → v = ren0 ρ p ∧ v = ren1 ρ p
theorem idx_of {ρ : List Nat} (hn : ρ.Nodup) {j id : Nat} (h : ρ[j]? = some id) : ρ.idxOf? id = some j := by
  obtain ⟨hj, h1⟩ := List.getElem?_eq_some_iff.1 h
  cases hx : ρ.idxOf? id with
  | none => exact absurd (h1 ▸ List.getElem_mem hj) (List.idxOf?_eq_none_iff.1 hx)
  | some k =>
    obtain ⟨hk, h2⟩ := List.getElem?_eq_some_iff.1 (idx_some hx)
    rw [nodup_inj hn hk hj (h2.trans h1.symm)]
theorem RN_g {ρ : List Nat} {a b : GV} (h : EQ a b) : RN ρ (.g a) (.g b) := ⟨fun _ => by cases h.e; exact ⟨rfl, rfl⟩⟩
theorem RN_none {ρ : List Nat} : RN ρ .none_ .none_ := ⟨fun _ => ⟨rfl, rfl⟩⟩
theorem RN_nils {ρ : List Nat} (e : Nat) : RN ρ (.nils e) (.nils e) := ⟨fun _ => ⟨rfl, rfl⟩⟩
theorem RN_iptr {ρ : List Nat} (cs : List GV) : RN ρ (.iptr cs) (.iptr cs) := ⟨fun _ => ⟨rfl, rfl⟩⟩
theorem RN_own {ρ : List Nat} {id j lo lo' len len' : Nat} (h : RF (ρ[j]? = some id)) (h1 : EQ lo lo') (h2 : EQ len len') : RN ρ (.own id lo len) (.own j lo' len') := ⟨fun hn => by
  cases h1.e; cases h2.e
  simp only [ren1, ren0, idx_of hn h.e, and_self]⟩
theorem RN_ptr {ρ : List Nat} {id j o : Nat} (h : RF (ρ[j]? = some id)) : RN ρ (.ptr id o) (.ptr j o) := ⟨fun hn => by
  simp only [ren1, ren0, idx_of hn h.e, and_self]⟩
theorem RN_eptr {ρ : List Nat} {id j k k' i : Nat} (h : RF (ρ[j]? = some id)) (h1 : EQ k k') : RN ρ (.eptr id k i) (.eptr j k' i) := ⟨fun hn => by
  cases h1.e
  simp only [ren1, ren0, idx_of hn h.e, and_self]⟩
structure RV (ρ : List Nat) (p v : PV) : Prop where
  e : ρ.Nodup → v = ren1 ρ p
theorem RV_0 {ρ : List Nat} {p v : PV} (h : RN ρ p v) : RV ρ p v := ⟨fun hn => (h.e hn).2⟩
structure RNL (ρ : List Nat) (ps vs : List PV) : Prop where
  e : ρ.Nodup → vs = ps.map (ren0 ρ)
theorem RNL_nil {ρ : List Nat} : RNL ρ [] [] := ⟨fun _ => rfl⟩
theorem RNL_cons {ρ : List Nat} {p v : PV} {ps vs : List PV} (h : RN ρ p v) (h2 : RNL ρ ps vs) : RNL ρ (p :: ps) (v :: vs) := ⟨fun hn => by rw [List.map_cons, ← (h.e hn).1, ← h2.e hn]⟩
theorem RV_agg {ρ : List Nat} {ps vs : List PV} (h : RNL ρ ps vs) : RV ρ (.agg ps) (.agg vs) := ⟨fun hn => by simp only [ren1, ← h.e hn]⟩
theorem RV_fn {ρ : List Nat} {f : FuncId} {ps vs : List PV} (h : RNL ρ ps vs) : RV ρ (.fn f ps) (.fn f vs) := ⟨fun hn => by simp only [ren1, ← h.e hn]⟩
structure RVL (ρ : List Nat) (ps vs : List PV) : Prop where
  e : ρ.Nodup → vs = ps.map (ren1 ρ)
theorem RVL_nil {ρ : List Nat} : RVL ρ [] [] := ⟨fun _ => rfl⟩
theorem RVL_cons {ρ : List Nat} {p v : PV} {ps vs : List PV} (h : RV ρ p v) (h2 : RVL ρ ps vs) : RVL ρ (p :: ps) (v :: vs) := ⟨fun hn => by rw [List.map_cons, ← h.e hn, ← h2.e hn]⟩
structure RB (ρ : List Nat) (b b' : Block) : Prop where
  e : ρ.Nodup → b' = renB ρ b
  l : b.live = true
theorem RB_arr {ρ : List Nat} {e : Nat} {dp : Bool} {xs ys : List GV} (h : EQ xs ys) : RB ρ (.arr e dp xs) (.arr e dp ys) := ⟨fun _ => by cases h.e; rfl, rfl⟩
theorem RB_box {ρ : List Nat} {cs cs' : List PV} (h : RVL ρ cs cs') : RB ρ (.box cs) (.box cs') := ⟨fun hn => by simp only [renB, ← h.e hn], rfl⟩
structure HS (ρ : List Nat) (sl sl' : List (Nat × PV)) : Prop where
  e : ρ.Nodup → ∀ t, lookS sl' t = .undef ∨ lookS sl' t = ren1 ρ (lookS sl t)
theorem HS_nil {ρ : List Nat} (sl : List (Nat × PV)) : HS ρ sl [] := ⟨fun _ _ => .inl rfl⟩
theorem HS_cons {ρ : List Nat} {t : Nat} {p v : PV} {sl sl' : List (Nat × PV)} (h1 : SL sl t p) (h2 : RV ρ p v) (h3 : HS ρ sl sl') : HS ρ sl ((t, v) :: sl') := ⟨fun hn s => by
  by_cases e : s = t
  · subst e; right; rw [h1.e]; simp only [lookS, if_true]; exact h2.e hn
  · simpa [lookS, e] using h3.e hn s⟩
structure HB (ρ : List Nat) (hl : List (Nat × Block)) (is : List Nat) (k : Nat) (hl' : List (Nat × Block)) : Prop where
  e : ρ.Nodup → ∀ j, lookH hl' (k + j) = match is[j]? with | some i => renB ρ (lookH hl i) | none => .free
  lo : ∀ j, j < k → lookH hl' j = .free
  l : ∀ i ∈ is, (lookH hl i).live = true
theorem HB_nil {ρ : List Nat} (hl : List (Nat × Block)) (k : Nat) : HB ρ hl [] k [] := ⟨fun _ _ => by simp [lookH], fun _ _ => rfl, by simp⟩
theorem HB_cons {ρ is : List Nat} {i k : Nat} {B B' : Block} {hl hl' : List (Nat × Block)} (h1 : HL hl i B) (h2 : RB ρ B B') (h3 : HB ρ hl is (k + 1) hl') : HB ρ hl (i :: is) k ((k, B') :: hl') := ⟨fun hn j => by
  cases j with
  | zero => simp only [Nat.add_zero, lookH, if_true, List.getElem?_cons_zero]; rw [h1.e]; exact h2.e hn
  | succ j =>
    have := h3.e hn j
    rw [show k + 1 + j = k + (j + 1) by omega] at this
    simp only [lookH, List.getElem?_cons_succ]
    rw [if_neg (by omega)]; exact this, fun j hj => by
    have := h3.lo j (by omega)
    simp only [lookH]; rw [if_neg (by omega)]; exact this, fun x hx => by
    rcases List.mem_cons.1 hx with rfl | hx
    · rw [h1.e]; exact h2.l
    · exact h3.l x hx⟩
theorem LX_mk {ρ : List Nat} {sl' : List (Nat × PV)} {hl' : List (Nat × Block)} (hs : HS ρ sl sl') (hb : HB ρ hl ρ 0 hl') (hn : RF (ρ.Nodup)) : LX n sl hl ⟨sl', hl'⟩ :=
  (Le_norm ρ hn.e rfl (fun i hi => hb.l i hi) (fun j => by have := hb.e hn.e j; rw [Nat.zero_add] at this; exact this) (fun t => hs.e hn.e t))
theorem LX0 {sl' : List (Nat × PV)} (hs : HS [] sl sl') : LX n sl hl ⟨sl', []⟩ := LX_mk hs (HB_nil _ _) (RF.mk (by simp))
theorem LX1 {r0 : Nat} {b0 : Block} {sl' : List (Nat × PV)} (hs : HS [r0] sl sl') (hb : HB [r0] hl [r0] 0 [(0, b0)]) : LX n sl hl ⟨sl', [(0, b0)]⟩ := LX_mk hs hb (RF.mk (by simp))
theorem LX2 {r0 r1 : Nat} {b0 b1 : Block} {sl' : List (Nat × PV)} (hs : HS [r0, r1] sl sl') (hb : HB [r0, r1] hl [r0, r1] 0 [(0, b0), (1, b1)]) (hn : RF ([r0, r1].Nodup)) : LX n sl hl ⟨sl', [(0, b0), (1, b1)]⟩ := LX_mk hs hb hn
theorem LX3 {r0 r1 r2 : Nat} {b0 b1 b2 : Block} {sl' : List (Nat × PV)} (hs : HS [r0, r1, r2] sl sl') (hb : HB [r0, r1, r2] hl [r0, r1, r2] 0 [(0, b0), (1, b1), (2, b2)]) (hn : RF ([r0, r1, r2].Nodup)) : LX n sl hl ⟨sl', [(0, b0), (1, b1), (2, b2)]⟩ := LX_mk hs hb hn
structure RL (tab : Tab) (sl : List (Nat × PV)) (hl : List (Nat × Block)) (rs : List ResultVar) (ps : List PV) : Prop where
  e : ∀ n, resL tab (mkX n sl hl 0) rs = some ps
theorem RL_nil (sl : List (Nat × PV)) (hl : List (Nat × Block)) : RL tab sl hl [] [] := ⟨fun _ => rfl⟩
theorem RL_tmp {t : Nat} {rs : List ResultVar} {p : PV} {ps : List PV} (h1 : SL sl t p) (h2 : RL tab sl hl rs ps) : RL tab sl hl (.tmp t :: rs) (p :: ps) := ⟨fun n => rl_tmp h1.e (h2.e n)⟩
theorem RL_cell {a : Nat} {t : TypeId} {rs : List ResultVar} {q p : PV} {ps : List PV} (h1 : SL sl a q) (h3 : LD tab hl t q p) (h2 : RL tab sl hl rs ps) : RL tab sl hl (.cell a t :: rs) (p :: ps) := ⟨fun n => rl_cell h1.e h3.e (h2.e n)⟩
theorem END_1 {r0 : ResultVar} {p : PV} {x r : GV} {ks : List Nat} (h1 : RL tab sl hl [r0] [p]) (h2 : AE hl p x ks true) (h3 : RF (x.isTup = false)) (h4 : EQ x r) : QA (EndR tab [r0] r) .ret n sl hl := er_ret (out1 (h1.e n) h2.e h3.e h4.e)
theorem END_N {r0 r1 : ResultVar} {rs : List ResultVar} {p q : PV} {ps : List PV} {gs : List GV} {r : GV} {ks : List Nat} (h1 : RL tab sl hl (r0 :: r1 :: rs) (p :: q :: ps)) (h2 : AEL hl (p :: q :: ps) gs ks true) (h4 : EQ (.tup gs) r) : QA (EndR tab (r0 :: r1 :: rs) r) .ret n sl hl := er_ret (outN (h1.e n) h2.e h4.e)
theorem END_0 {r : GV} (h4 : EQ (.tup []) r) : QA (EndR tab [] r) .ret n sl hl := by
  cases h4.e
  show outR tab _ [] = some (.tup [])
  simp [outR, resL, absL]
theorem QA_nr {r : GV} {rs : List ResultVar} (h : QA (EndR tab rs r) .ret n sl hl) : QA (EndR tab rs r) .normal n sl hl := h.run
structure SG (gs : List GV) (k : Nat) (sl : List (Nat × PV)) : Prop where
  e : ∀ t, lookS sl t = .undef ∨ ∃ x, (t - k < gs.length ∧ k ≤ t) ∧ gs[t - k]? = some x ∧ lookS sl t = .g x
theorem SG_nil (k : Nat) : SG [] k [] := ⟨fun _ => .inl rfl⟩
theorem SG_cons {g : GV} {gs : List GV} {k : Nat} {sl : List (Nat × PV)} (h : SG gs (k + 1) sl) : SG (g :: gs) k ((k, .g g) :: sl) := ⟨fun t => by
  by_cases e : t = k
  · subst e; exact .inr ⟨g, by simp, by simp, by simp [lookS]⟩
  · rcases h.e t with h1 | ⟨x, h1, h2, h3⟩
    · left; simp [lookS, e, h1]
    · right
      refine ⟨x, by simp; omega, ?_, by simp [lookS, e, h3]⟩
      rw [show t - k = (t - (k + 1)) + 1 by omega]; simpa using h2⟩
theorem Con_of_TX (lv : Nat → List Nat) (ht : TabOk P tab) {f : FuncId} {fn : Func} {c : Code} {m : Nat} {rs : List ResultVar} {gs : List GV} {r : GV} {sl : List (Nat × PV)} (hf : P.funcs[f]? = some fn) (hb : fn.body = some c) (hn : fn.ntmps = m) (hrs : fn.results.toList = rs) (he : ∀ args w, (callFunc f args).run P w = .ok (.enter f args) w) (hl : (Nat.ble gs.length m && Nat.blt m 65536) = true)
    (hs : SG gs 0 sl) (h : TX lv P tab c m sl [] (EndR tab rs r)) : Con P f gs r := by
  rw [Bool.and_eq_true] at hl
  have hm : m < 65536 := Nat.le_of_ble_eq_true hl.2
  refine Con_of_T' ht hf hb hn hrs he (Nat.le_of_ble_eq_true hl.1) hm (T.le ?_ h.run)
  rintro w0 a w ⟨μ, who, h⟩
  refine ⟨μ, who, h.size, fun t => ?_, h.dfr, fun i => h.blk i, fun i j b d d' hi => by simp [mkX, lookH, Block.live] at hi, fun i b d hi => by simp [mkX, lookH, Block.live] at hi, h.keep, fun t x hp => (by rw [show pinned (mkX m sl [] 0).n t = false from pinned_lt hm t] at hp; cases hp), fun t v hv ht => h.old.2 t v hv ht⟩
  rcases hs.e t with e | ⟨x, h1, h2, h3⟩
  · have : (mkX m sl [] 0).slots t = .undef := e
    rw [this]; exact .undef _
  · have h4 : (mkX m sl [] 0).slots t = .g x := h3
    have h5 := h.slot t
    simp only [startA, Nat.sub_zero] at h5 h2
    rw [h2] at h5
    rw [h4]; exact h5
end
theorem Gives.base {w w1 w2 : World} {r : GV} {e : Ending} (hk : Keeps [] w w1) (h : Gives w1 r e w2) : Gives w r e w2 := by
  obtain ⟨v, F, h1, h2, h3, h4, h5, h6⟩ := h
  exact ⟨v, F, h1, h2, h3, h4, fun b hb => ⟨Nat.le_trans hk.size (h5 b hb).1, (h5 b hb).2⟩, hk.trans h6⟩
def startL (b : Nat) : Lay := fun id => if id = 0 then some (b, 0) else none
def EndB (tab : Tab) (rs : List ResultVar) (r : GV) (cs' : List GV) : Exit → AState → Prop
  | .normal, S => outR tab S rs = some r ∧ ∃ id, S.slots 0 = .ptr id 0 ∧ S.heap id = .box (cs'.map PV.g)
  | .ret, S => outR tab S rs = some r ∧ ∃ id, S.slots 0 = .ptr id 0 ∧ S.heap id = .box (cs'.map PV.g)
  | _, _ => False
def p0 (v : Value) : Nat → Option Value := fun t => if t = 0 then some v else none
theorem pin0 {m : Nat} (hm : m < 65536) : pinned (m + 65536) 0 = true := by
  have : (m + 65536) / 2 ^ (16 + 0) = 1 := by omega
  unfold pinned; rw [this]; rfl
set_option maxHeartbeats 2000000 in
theorem BoxC_of_TX (lv : Nat → List Nat) {P : Program} {tab : Tab} (ht : TabOk P tab) {f : FuncId} {fn : Func} {c : Code} {m : Nat} {rs : List ResultVar} {cs gs : List GV} {r : GV} {cs' : List GV} {sl : List (Nat × PV)} {B : List PV} (hf : P.funcs[f]? = some fn) (hb : fn.body = some c) (hn : fn.ntmps = m) (hrs : fn.results.toList = rs) (he : ∀ args w, (callFunc f args).run P w = .ok (.enter f args) w) (hl : (Nat.ble (gs.length + 1) m && Nat.blt m 65536) = true)
    (hok : cs.all exOk = true) (hok' : cs'.all exOk = true) (hlen : cs'.length = cs.length) (hsub : ∀ c ∈ cs', c.atom = true ∨ c ∈ cs) (hB : GL B cs)
    (hs : SG gs 1 sl) (h : TX lv P tab c (m + 65536) ((0, .ptr 0 0) :: sl) [(0, .box B)] (EndB tab rs r cs')) : BoxC P f cs gs r cs' := by
  rw [Bool.and_eq_true] at hl
  have hm : m < 65536 := Nat.le_of_ble_eq_true hl.2
  have hle := Nat.le_of_ble_eq_true hl.1
  subst hn; subst hrs
  have eB := hB.e
  subst eB
  simp only [List.all_eq_true] at hok hok'
  refine ⟨he, hok, hok', hlen, hsub, fun w b t args hal hrow hrep hg => calls_of_wp hf hb ?_⟩
  have hbl : b < w.heap.size := by
    rcases Nat.lt_or_ge b w.heap.size with h3 | h3
    · exact h3
    · rw [Array.getElem?_eq_none h3] at hrow; cases hrow
  have hroot : ∀ x, Root (startL b) (lookH [(0, Block.box (cs.map PV.g))]) x → x = b := by
    rintro x ⟨id, d, h1, h2⟩
    unfold startL at h2
    split at h2
    · simp only [Option.some.injEq, Prod.mk.injEq] at h2; exact h2.1.symm
    · cases h2
  have hasz : (Value.pointer (some ⟨b, 0, none⟩) :: args).toArray.size = gs.length + 1 := by simp [hal]
  have hget : ∀ t, ((Value.pointer (some ⟨b, 0, none⟩) :: args).toArray ++ Array.replicate (fn.ntmps - (Value.pointer (some ⟨b, 0, none⟩) :: args).toArray.size) Go.undef).getD t Go.undef = (Value.pointer (some ⟨b, 0, none⟩) :: args).getD t Go.undef := fun t => by
    by_cases h1 : t < gs.length + 1
    · rw [getD_lt (by simp; omega), Array.getElem_append_left (by rw [hasz]; exact h1)]
      simp [List.getD, List.getElem?_eq_getElem (show t < (Value.pointer (some ⟨b, 0, none⟩) :: args).length by simp; omega)]
    · have e1 : (Value.pointer (some ⟨b, 0, none⟩) :: args).getD t Go.undef = Go.undef := by
        simp [List.getD, List.getElem?_eq_none (show (Value.pointer (some ⟨b, 0, none⟩) :: args).length ≤ t by simp; omega)]
      rw [e1]
      by_cases h2 : t < ((Value.pointer (some ⟨b, 0, none⟩) :: args).toArray ++ Array.replicate (fn.ntmps - (Value.pointer (some ⟨b, 0, none⟩) :: args).toArray.size) Go.undef).size
      · rw [getD_lt h2, Array.getElem_append_right (by rw [hasz]; omega)]; simp
      · simp only [Array.getD, dif_neg h2]
  have hrel : RelAt ⟨w, [b], p0 (.pointer (some ⟨b, 0, none⟩))⟩ (mkX (fn.ntmps + 65536) ((0, .ptr 0 0) :: sl) [(0, .box (cs.map PV.g))] 0) { tmps := (Value.pointer (some ⟨b, 0, none⟩) :: args).toArray ++ Array.replicate (fn.ntmps - (Value.pointer (some ⟨b, 0, none⟩) :: args).toArray.size) Go.undef, defers := [] } w (startL b) (fun _ => none) := by
    refine ⟨?_, fun t => ?_, rfl, fun id => ?_, fun i j b1 d d' hi hj hi2 hj2 => ?_, fun i b1 d hi hi2 => ?_, Keeps.refl _ _, fun t x hp hx => ?_, fun t v hv ht0 => ?_⟩
    · show _ = (fn.ntmps + 65536) % 65536
      rw [Nat.add_mod_right, Nat.mod_eq_of_lt hm, Array.size_append, Array.size_replicate, hasz]; omega
    · show PRep w (startL b) (lookH [(0, Block.box (cs.map PV.g))]) _ (lookS ((0, .ptr 0 0) :: sl) t)
      rw [hget t]
      simp only [lookS]
      split
      · rename_i e
        subst e
        exact .ptr _ 0 0 rfl (by simp [lookH]) fun _ _ => ⟨b, rfl, rfl⟩
      · rename_i e
        rcases hs.e t with e1 | ⟨x, ⟨h1, h1'⟩, h2, h3⟩
        · rw [e1]; exact .undef _
        · rw [h3]
          obtain ⟨k, rfl⟩ : ∃ k, t = k + 1 := ⟨t - 1, by omega⟩
          have hk : k < gs.length := by omega
          rw [show k + 1 - 1 = k by omega, List.getElem?_eq_getElem hk] at h2
          cases h2
          obtain ⟨Fk, hgk, hbk⟩ := hg k hk
          have e4 : (Value.pointer (some ⟨b, 0, none⟩) :: args).getD (k + 1) Go.undef = args[k]'(hal ▸ hk) := by simp [List.getD, List.getElem?_eq_getElem (hal ▸ hk)]
          rw [e4]
          exact .g _ _ Fk hgk fun c hc hr => hbk (hroot c hr ▸ hc)
    · show BRep _ w (startL b) (lookH [(0, Block.box (cs.map PV.g))]) (fun _ => none) id (lookH [(0, Block.box (cs.map PV.g))] id)
      simp only [lookH]
      split
      · rename_i e
        subst e
        refine ⟨b, _, t, rfl, hrow, by simp, fun v hv => ?_, fun i hi => ?_⟩
        · simp only [List.mem_map] at hv
          obtain ⟨c, hm2, rfl⟩ := hv
          obtain ⟨F, hg2, _⟩ := hrep c hm2
          exact (hg2.exv (hok c hm2)).2
        · have hi' : i < cs.length := by simpa using hi
          have e1 : (cs.map exV).toArray.getD i Go.undef = exV cs[i] := by simp [Array.getD, hi']
          have e2 : (cs.map PV.g)[i] = .g cs[i] := by simp
          rw [e1, e2]
          obtain ⟨F, hg2, hd⟩ := hrep _ (List.getElem_mem hi')
          exact .g _ _ F hg2 fun x hx hr => hd (hroot x hr ▸ hx)
      · trivial
    · have key : ∀ k, (lookH [(0, Block.box (cs.map PV.g))] k).live = true → k = 0 := fun k hk => by
        simp only [lookH] at hk; split at hk
        · assumption
        · cases hk
      rw [key i hi, key j hj]
    · have : i = 0 := by
        simp only [mkX, lookH] at hi; split at hi
        · assumption
        · cases hi
      subst this
      cases hi2
      exact ⟨.inr ⟨by simp, _, rfl⟩, hbl⟩
    · exfalso
      simp only [mkX, lookS] at hx
      by_cases e : t = 0
      · subst e; simp at hx
      · have : pinned (fn.ntmps + 65536) t = false := by
          have : (fn.ntmps + 65536) / 2 ^ (16 + t) = 0 := Nat.div_eq_of_lt (Nat.lt_of_lt_of_le (by omega : fn.ntmps + 65536 < 2 ^ 17) (Nat.pow_le_pow_right (by omega) (by omega)))
          unfold pinned; rw [this]; rfl
        rw [show (mkX (fn.ntmps + 65536) ((0, .ptr 0 0) :: sl) [(0, .box (cs.map PV.g))] 0).n = fn.ntmps + 65536 from rfl, this] at hp
        cases hp
    · have e : t = 0 := by
        simp only [p0] at hv; split at hv
        · assumption
        · cases hv
      subst e
      simp only [p0, if_true, Option.some.injEq] at hv
      subst hv
      exact ⟨pin0 hm, by rw [hget 0]; rfl⟩
  have fin : ∀ {S' : AState} {a' : Act} {w' : World} {μ' : Lay} {who' : Nat → Option Nat}, (outR tab S' fn.results.toList = some r ∧ ∃ id, S'.slots 0 = .ptr id 0 ∧ S'.heap id = .box (cs'.map PV.g)) → RelAt ⟨w, [b], p0 (.pointer (some ⟨b, 0, none⟩))⟩ S' a' w' μ' who' →
      a'.defers = [] ∧ ∃ v, (results fn a'.tmps).run P w' = .ok v w' ∧ (GivesW ⟨w, [b], np0⟩ r (.returned v) w' ∧ ∃ t', w'.heap[b]? = some (.cells (cs'.map exV).toArray t' (0, 0))) := by
    rintro S' a' w' μ' who' ⟨q1, id, q2, q3⟩ h2
    obtain ⟨v, r1, r2⟩ := out_ok ht h2 q1
    refine ⟨h2.dfr, v, r1, r2, ?_⟩
    have h3 := h2.slot 0
    rw [q2] at h3
    obtain ⟨_, _, h4⟩ := h3.ptr_inv
    obtain ⟨b', h5, h6⟩ := h4 _ q3
    have h7 := (h2.old.2 0 _ rfl (by omega)).2
    rw [h6] at h7
    have hbb : b' = b := by simpa using h7
    rw [hbb] at h5
    have h8 := h2.blk id
    rw [q3] at h8
    obtain ⟨b2, vs, t', h9, h10, h11, h12, h13⟩ := h8
    rw [h5] at h9
    have hb2 : b = b2 := by simpa using h9
    rw [← hb2] at h10
    refine ⟨t', ?_⟩
    rw [h10]
    have : vs = (cs'.map exV).toArray := by
      apply Array.ext
      · simpa using h11
      · intro i h3 h4
        have hi : i < cs'.length := by simpa using h4
        have h14 := h13 i (by simpa using hi)
        simp only [List.getElem_map] at h14
        obtain ⟨F, hg2, _⟩ := h14.g_inv
        have := (hg2.exv (hok' _ (List.getElem_mem hi))).1
        simp only [Array.getD, dif_pos h3, Array.getInternal_eq_getElem] at this
        simpa using this
    rw [this]
  refine wp_mono (h.run ⟨w, [b], p0 (.pointer (some ⟨b, 0, none⟩))⟩ _ w ⟨_, _, hrel⟩) fun e a' w' ⟨S', h1, μ', who', h2⟩ => ?_
  cases e with
  | normal => exact fin h1 h2
  | ret => exact fin h1 h2
  | exit | goto | panic | outgrown => exact h1.elim
def EndN (rs : List ResultVar) (cs : List GV) : Exit → AState → Prop
  | .normal, S => ∃ t id, rs = [.tmp t] ∧ S.slots t = .ptr id 0 ∧ S.heap id = .box (cs.map PV.g)
  | .ret, S => ∃ t id, rs = [.tmp t] ∧ S.slots t = .ptr id 0 ∧ S.heap id = .box (cs.map PV.g)
  | _, _ => False
set_option maxHeartbeats 2000000 in
theorem NewC_of_TX (lv : Nat → List Nat) {P : Program} {tab : Tab} (ht : TabOk P tab) {f : FuncId} {fn : Func} {c : Code} {m : Nat} {rs : List ResultVar} {gs cs : List GV} {sl : List (Nat × PV)} (hf : P.funcs[f]? = some fn) (hb : fn.body = some c) (hn : fn.ntmps = m) (hrs : fn.results.toList = rs) (he : ∀ args w, (callFunc f args).run P w = .ok (.enter f args) w) (hl : (Nat.ble gs.length m && Nat.blt m 65536) = true)
    (hok : cs.all exOk = true) (hsub : ∀ c ∈ cs, c.atom = true ∨ c ∈ gs) (hs : SG gs 0 sl) (h : TX lv P tab c m sl [] (EndN rs cs)) : NewC P f gs cs := by
  rw [Bool.and_eq_true] at hl
  have hm : m < 65536 := Nat.le_of_ble_eq_true hl.2
  have hle := Nat.le_of_ble_eq_true hl.1
  subst hn; subst hrs
  simp only [List.all_eq_true] at hok
  refine ⟨he, hok, hsub, fun w args hal hg => calls_of_wp hf hb ?_⟩
  have hrel0 := start_rel hle hm w args hal hg
  have hrel : RelAt ⟨w, [], np0⟩ (mkX fn.ntmps sl [] 0) { tmps := args.toArray ++ Array.replicate (fn.ntmps - args.toArray.size) Go.undef, defers := [] } w (fun _ => none) (fun _ => none) := by
    refine ⟨hrel0.size, fun t => ?_, hrel0.dfr, fun i => hrel0.blk i, fun i j b d d' hi => by simp [mkX, lookH, Block.live] at hi, fun i b d hi => by simp [mkX, lookH, Block.live] at hi, hrel0.keep, fun t x hp => (by rw [show pinned (mkX fn.ntmps sl [] 0).n t = false from pinned_lt hm t] at hp; cases hp), fun t v hv ht => hrel0.old.2 t v hv ht⟩
    rcases hs.e t with e | ⟨x, h1, h2, h3⟩
    · have : (mkX fn.ntmps sl [] 0).slots t = .undef := e
      rw [this]; exact .undef _
    · have h4 : (mkX fn.ntmps sl [] 0).slots t = .g x := h3
      have h5 := hrel0.slot t
      simp only [startA, Nat.sub_zero] at h5 h2
      rw [h2] at h5
      rw [h4]; exact h5
  have fin : ∀ {S' : AState} {a' : Act} {w' : World} {μ' : Lay} {who' : Nat → Option Nat}, (∃ t id, fn.results.toList = [.tmp t] ∧ S'.slots t = .ptr id 0 ∧ S'.heap id = .box (cs.map PV.g)) → RelAt ⟨w, [], np0⟩ S' a' w' μ' who' →
      a'.defers = [] ∧ ∃ v, (results fn a'.tmps).run P w' = .ok v w' ∧ ∃ b t, Ending.returned v = .returned (.pointer (some ⟨b, 0, none⟩)) ∧ w.heap.size ≤ b ∧ w'.heap[b]? = some (.cells (cs.map exV).toArray t (0, 0)) ∧ Keeps [] w w' := by
    rintro S' a' w' μ' who' ⟨t0, id, q1, q2, q3⟩ h2
    have h3 := h2.slot t0
    rw [q2] at h3
    obtain ⟨_, _, h4⟩ := h3.ptr_inv
    obtain ⟨b, h5, h6⟩ := h4 _ q3
    have hlv : (S'.heap id).live = true := by rw [q3]; rfl
    have h8 := h2.blk id
    rw [q3] at h8
    obtain ⟨b2, vs, t', h9, h10, h11, h12, h13⟩ := h8
    rw [h5] at h9
    have hb2 : b = b2 := by simpa using h9
    rw [← hb2] at h10
    have hbase := (h2.base id b 0 hlv h5).1
    have hnew : w.heap.size ≤ b := by
      rcases hbase with h | ⟨h, _⟩
      · exact h.old rfl
      · simp at h
    refine ⟨h2.dfr, a'.tmps.getD t0 Go.undef, ?_, b, t', by rw [h6], hnew, ?_, h2.keep⟩
    · have e0 : results fn a'.tmps = (do let vs ← fn.results.mapM (resVal a'.tmps); Pure.pure (if h : vs.size = 1 then vs[0] else .tuple vs)) := rfl
      rw [e0, Array.mapM_eq_mapM_toList, q1]
      simp [resVal]
    · rw [h10]
      have : vs = (cs.map exV).toArray := by
        apply Array.ext
        · simpa using h11
        · intro i h3 h4
          have hi : i < cs.length := by simpa using h4
          have h14 := h13 i (by simpa using hi)
          simp only [List.getElem_map] at h14
          obtain ⟨F, hg2, _⟩ := h14.g_inv
          have := (hg2.exv (hok _ (List.getElem_mem hi))).1
          simp only [Array.getD, dif_pos h3, Array.getInternal_eq_getElem] at this
          simpa using this
      rw [this]
  refine wp_mono (h.run ⟨w, [], np0⟩ _ w ⟨_, _, hrel⟩) fun e a' w' ⟨S', h1, μ', who', h2⟩ => ?_
  cases e with
  | normal => exact fin h1 h2
  | ret => exact fin h1 h2
  | exit | goto | panic | outgrown => exact h1.elim
theorem Con.unex {P : Program} {f : FuncId} {e : Nat} {xs : List GV} {r : GV} (he : ∀ args w, (callFunc f args).run P w = .ok (.enter f args) w) (h : ∀ v, Con P f [.ex v e xs] r) : Con P f [.sl e xs] r :=
  ⟨he, fun w args hl hg => by
    obtain ⟨F, h0⟩ := hg 0 (by simp)
    refine (h (args[0]'(by rw [hl]; simp))).calls w args hl fun i hi => ?_
    have : i = 0 := by simpa using hi
    subst this
    exact ⟨F, .ex _ _ _ F h0⟩⟩
end Go.Proofs.YtachnjinfdagjaaDoor

