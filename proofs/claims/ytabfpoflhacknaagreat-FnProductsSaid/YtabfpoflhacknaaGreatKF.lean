/- Abstract states as lists: lookups, constants, parts of lists; the judgements of a walk. Over any program; no conditions. -/
import Derived.Test.YtabfpoflhacknaaGreatKC
namespace Go.Proofs.YtabfpoflhacknaaGreat
open Go.RowKit
open Shp
variable {a b off k lo : Nat} {p : Prop} {ty : TypeId} {α : Type} {x : GV} {gs xs : List GV} {ps : List PV}
def Zb4 : List (Nat × PV) → Nat → PV
 | [], _ => .undef
 | (d, v) :: sl, t => if t = d then v else Zb4 sl t
def ZaZ : List (Nat × Block) → Nat → Block
 | [], _ => .free
 | (d, b) :: hl, j => if j = d then b else ZaZ hl j
def mkX (n : Nat) (sl : List (Nat × PV)) (hl : List (Nat × Block)) (nx : Nat) : AState := ⟨n, Zb4 sl, ZaZ hl, nx⟩
structure SL (sl : List (Nat × PV)) (t : Nat) (v : PV) : Prop where
 e : Zb4 sl t = v
structure HL (hl : List (Nat × Block)) (j : Nat) (b : Block) : Prop where
 e : ZaZ hl j = b
structure EV (sl : List (Nat × PV)) (tab : Tab) (ty : TypeId) (x : Operand) (v : PV) : Prop where
 e : ∀ n hl nx, (mkX n sl hl nx).ev tab ty x = v
def NE (a b : Nat) : Prop := Nat.beq a b = false
theorem NE.mk  (h : Nat.beq a b = false) : NE a b := h
theorem NE.e  (h : NE a b) : Nat.beq a b = false := h
def RF (p : Prop) : Prop := p
theorem RF.mk  (h : p) : RF p := h
theorem RF.e  (h : RF p) : p := h
def NU (p : Prop) : Prop := p
theorem NU.mk  (h : p) : NU p := h
theorem NU.e  (h : NU p) : p := h
section
variable {sl : List (Nat × PV)} {hl : List (Nat × Block)} {t d j n nx : Nat} {v u : PV} {B B' : Block}
theorem ZzQ  (h : NE a b) : a ≠ b := by intro e; subst e; have := h.e; simp at this
theorem ZvI (sl : List (Nat × PV)) (t : Nat) (v : PV) : SL ((t, v) :: sl) t v := ⟨by simp [Zb4]⟩
theorem ZAL (h : NE t d) (h2 : SL sl t u) : SL ((d, v) :: sl) t u := ⟨by simp [Zb4, ZzQ h, h2.e]⟩
theorem ZvX (hl : List (Nat × Block)) (j : Nat) (b : Block) : HL ((j, b) :: hl) j b := ⟨by simp [ZaZ]⟩
theorem ZA1 (h : NE j d) (h2 : HL hl j B) : HL ((d, B') :: hl) j B := ⟨by simp [ZaZ, ZzQ h, h2.e]⟩
theorem ZxS (j : Nat) : HL [] j .free := ⟨rfl⟩
theorem Zqi : (mkX n sl hl nx).slots t = Zb4 sl t := rfl
theorem Zc5 : (mkX n sl hl nx).heap j = ZaZ hl j := rfl
theorem ZfS : (mkX n sl hl nx).nx = nx := rfl
theorem ZA7 : (mkX n sl hl nx).n = n := rfl
theorem ZnB (v : PV) : (mkX n sl hl nx).put (some d) v = mkX n ((d, v) :: sl) hl nx :=
 AState.ext' rfl (fun t => by simp only [Zjr, Zqi, Zb4]) (fun _ => rfl) rfl
theorem Zy3 (v : PV) : (mkX n sl hl nx).put none v = mkX n sl hl nx := rfl
theorem ZlC (id : Nat) (b : Block) : (mkX n sl hl nx).writes [(id, b)] = mkX n sl ((id, b) :: hl) nx :=
 AState.ext' rfl (fun _ => rfl) (fun j => by simp only [Zjp, Zc5, ZaZ]) rfl
def ZfG : List (Nat × Block) → List (Nat × Block) → List (Nat × Block)
 | [], hl => hl
 | w :: ws, hl => ZfG ws (w :: hl)
theorem Zci : ∀ (ws : List (Nat × Block)) (hl : List (Nat × Block)), (mkX n sl hl nx).writes ws = mkX n sl (ZfG ws hl) nx
 | [], hl => rfl
 | (id, b) :: ws, hl => by
  rw [AState.writes_cons]
  have : (mkX n sl hl nx).write id b = mkX n sl ((id, b) :: hl) nx := ZlC id b
  rw [this, Zci ws]; rfl
def putL (d : Option Nat) (v : PV) (sl : List (Nat × PV)) : List (Nat × PV) := match d with | some d => (d, v) :: sl | none => sl
theorem Zjb (d : Option Nat) (v : PV) : (mkX n sl hl nx).put d v = mkX n (putL d v sl) hl nx := by cases d; exact Zy3 v; exact ZnB v
theorem Zdl : ∀ (ws vs hl : List (Nat × Block)), ZfG (ws ++ vs) hl = ZfG vs (ZfG ws hl)
 | [], _, _ => rfl
 | w :: ws, vs, hl => Zdl ws vs (w :: hl)
def ZbO : List Nat → List (Nat × Block) → List (Nat × Block)
 | [], hl => hl
 | k :: ks, hl => ZbO ks ((k, .dead) :: hl)
theorem Zdm : ∀ (ks : List Nat) (hl : List (Nat × Block)), ZfG (ZeS ks) hl = ZbO ks hl
 | [], _ => rfl
 | k :: ks, hl => Zdm ks ((k, .dead) :: hl)
theorem Zfu : ∀ (ks : List Nat) (hl : List (Nat × Block)), ZaZ (ZbO ks hl) = killL (ZaZ hl) ks
 | [], _ => rfl
 | k :: ks, hl => by
  rw [ZbO, Zfu ks]
  show killL _ ks = killL (upd (ZaZ hl) k .dead) ks
  congr 1
theorem Zy9 {tab : Tab}  (h : SL sl t u) : EV sl tab ty (.tmp t) u := ⟨fun _ _ _ => h.e⟩
theorem ZxC (sl : List (Nat × PV)) (tab : Tab) (ty : TypeId) (k : IntKind) (n : Int) : EV sl tab ty (.const (.int k n)) (.g (.int k n)) := ⟨fun _ _ _ => rfl⟩
theorem ZuC (sl : List (Nat × PV)) (tab : Tab) (ty : TypeId) (b : Bool) : EV sl tab ty (.const (.bool b)) (.g (.bool b)) := ⟨fun _ _ _ => rfl⟩
theorem Zyz (sl : List (Nat × PV)) (tab : Tab) (ty : TypeId) (s : ByteArray) : EV sl tab ty (.const (.string s)) (.g (.str s)) := ⟨fun _ _ _ => rfl⟩
theorem ZuH (sl : List (Nat × PV)) (tab : Tab) (ty : TypeId) : EV sl tab ty (.const (.pointer none)) (.g .nilp) := ⟨fun _ _ _ => rfl⟩
theorem ZwA (sl : List (Nat × PV)) (tab : Tab) (ty : TypeId) (f : FuncId) : EV sl tab ty (.func f) (.fn f []) := ⟨fun _ _ _ => rfl⟩
theorem ZyC {tab : Tab}  {E e : Nat} (h1 : RF (Zcz tab ty = some (E, e + 1))) : EV sl tab ty (.const (.slice none 0 0)) (.nils (e + 1)) := ⟨fun n hl nx => by
 have h := h1.e
 unfold Zcz at h
 simp only [AState.ev, cst]
 split at h
 ·cases h
 ·rename_i ti e1
  split at h
  ·rename_i E' e2
   split at h
   ·rename_i ei e3
    simp only [Option.some.injEq, Prod.mk.injEq] at h
    obtain ⟨rfl, h6⟩ := h
    simp only [e1, e2, e3, h6]
    rw [if_pos (by omega)]
   ·cases h
  ·cases h⟩
structure Sel (sl : List (Nat × PV)) (L : List Nat) (sl' : List (Nat × PV)) : Prop where
 e : ∀ t, Zb4 sl' t = .undef ∨ Zb4 sl' t = Zb4 sl t
theorem Zvo (sl : List (Nat × PV)) : Sel sl [] [] := ⟨fun _ => .inl rfl⟩
theorem Zr4 {L : List Nat} {sl' : List (Nat × PV)} (h : SL sl t v) (h2 : Sel sl L sl') : Sel sl (t :: L) ((t, v) :: sl') := ⟨fun s => by
 by_cases e : s = t
 ·subst e; right; simp [Zb4, h.e]
 ·simpa [Zb4, e] using h2.e s⟩
structure Sub {α : Type} (cs : List α) (off n : Nat) (cs' : List α) : Prop where
 e : (cs.drop off).take n = cs'
 l : off + n ≤ cs.length
theorem ZuO  (cs : List α) : Sub cs 0 0 [] := ⟨by simp, by simp⟩
theorem ZsF  {c : α} {cs cs' : List α} {n : Nat} (h : Sub cs 0 n cs') : Sub (c :: cs) 0 (n + 1) (c :: cs') := ⟨by simpa using h.e, by have := h.l; simp; omega⟩
theorem Zss  {c : α} {cs cs' : List α} {n : Nat} (h : Sub cs off n cs') : Sub (c :: cs) (off + 1) n cs' := ⟨by simpa using h.e, by have := h.l; simp; omega⟩
structure Idx {α : Type} (cs : List α) (k : Nat) (c : α) : Prop where
 e : cs[k]? = some c
theorem ZtU  (c : α) (cs : List α) : Idx (c :: cs) 0 c := ⟨rfl⟩
theorem Ztn  {c d : α} {cs : List α}  (h : Idx cs k c) : Idx (d :: cs) (k + 1) c := ⟨by simpa using h.e⟩
structure Dr {α : Type} (cs : List α) (k : Nat) (cs' : List α) : Prop where
 e : cs.drop k = cs'
theorem Zux  (cs : List α) : Dr cs 0 cs := ⟨rfl⟩
theorem Zwi  {d : α} {cs cs' : List α}  (h : Dr cs k cs') : Dr (d :: cs) (k + 1) cs' := ⟨by simpa using h.e⟩
structure SetL {α : Type} (cs : List α) (off : Nat) (ps cs' : List α) : Prop where
 e : setL cs off ps = cs'
 l : off + ps.length ≤ cs.length
theorem ZsT  (cs : List α) : SetL cs 0 [] cs := ⟨by simp [setL], by simp⟩
theorem ZtP  {c p : α} {cs ps cs' : List α} (h : SetL cs 0 ps cs') : SetL (c :: cs) 0 (p :: ps) (p :: cs') := ⟨by have := h.e; simpa [setL] using this, by have := h.l; simp; omega⟩
theorem Zp5  {c : α} {cs ps cs' : List α}  (h : SetL cs off ps cs') : SetL (c :: cs) (off + 1) ps (c :: cs') := ⟨by have := h.e; simp only [setL, List.take_succ_cons, List.cons_append] at *; rw [show off + 1 + ps.length = (off + ps.length) + 1 by omega, List.drop_succ_cons, this], by have := h.l; simp; omega⟩
structure MapG (gs : List GV) (ps : List PV) : Prop where
 e : gs.map PV.g = ps
theorem ZsG : MapG [] [] := ⟨rfl⟩
theorem Zrd  (h : MapG gs ps) : MapG (x :: gs) (.g x :: ps) := ⟨by simp [h.e]⟩
structure CP (p : PV) (cs : List PV) : Prop where
 e : p.cells = cs
 v : p.val = true
theorem Zz6 (cs : List PV) : CP (.agg cs) cs := ⟨rfl, rfl⟩
theorem Zzu (id lo len : Nat) : CP (.own id lo len) [.own id lo len] := ⟨rfl, rfl⟩
theorem ZuZ (e : Nat) : CP (.nils e) [.nils e] := ⟨rfl, rfl⟩
theorem Zzz (id o : Nat) : CP (.ptr id o) [.ptr id o] := ⟨rfl, rfl⟩
theorem ZA9 (f : FuncId) (cs : List PV) : CP (.fn f cs) [.fn f cs] := ⟨rfl, rfl⟩
theorem ZyT (k : IntKind) (n : Int) : CP (.g (.int k n)) [.g (.int k n)] := ⟨rfl, rfl⟩
theorem Zxd (b : Bool) : CP (.g (.bool b)) [.g (.bool b)] := ⟨rfl, rfl⟩
theorem ZAp (s : ByteArray) : CP (.g (.str s)) [.g (.str s)] := ⟨rfl, rfl⟩
theorem Zwe : CP (.g .nilp) [.g .nilp] := ⟨rfl, rfl⟩
theorem ZAS (e : Nat) (xs : List GV) : CP (.g (.sl e xs)) [.g (.sl e xs)] := ⟨rfl, rfl⟩
theorem ZBp (v : Value) (e : Nat) (xs : List GV) : CP (.g (.ex v e xs)) [.g (.ex v e xs)] := ⟨rfl, rfl⟩
theorem Zw5 (cs : List GV) : CP (.g (.box cs)) [.g (.box cs)] := ⟨rfl, rfl⟩
theorem Zxt (f : FuncId) (cs : List GV) : CP (.g (.fn f cs)) [.g (.fn f cs)] := ⟨rfl, rfl⟩
theorem Zvd  (h : MapG gs ps) : CP (.g (.agg gs)) ps := ⟨h.e, rfl⟩
structure CG (x : GV) (cs : List GV) : Prop where
 e : x.cells = cs
 t : x.isTup = false
theorem ZyO (k : IntKind) (n : Int) : CG (.int k n) [.int k n] := ⟨rfl, rfl⟩
theorem ZvQ (b : Bool) : CG (.bool b) [.bool b] := ⟨rfl, rfl⟩
theorem Zyp (s : ByteArray) : CG (.str s) [.str s] := ⟨rfl, rfl⟩
theorem ZwE : CG .nilp [.nilp] := ⟨rfl, rfl⟩
theorem ZBx (e : Nat) (xs : List GV) : CG (.sl e xs) [.sl e xs] := ⟨rfl, rfl⟩
theorem ZBy (v : Value) (e : Nat) (xs : List GV) : CG (.ex v e xs) [.ex v e xs] := ⟨rfl, rfl⟩
theorem ZzI (cs : List GV) : CG (.box cs) [.box cs] := ⟨rfl, rfl⟩
theorem ZzP (cs : List GV) : CG (.agg cs) cs := ⟨rfl, rfl⟩
structure LEN (xs : List GV) (n : Nat) : Prop where
 e : xs.length = n
theorem ZpM  (f : α → GV) (ys : List α) : LEN (ys.map f) ys.length := ⟨by simp⟩
theorem ZqP : LEN [] 0 := ⟨rfl⟩
theorem Zyb (x : GV) : LEN [x] 1 := ⟨rfl⟩
theorem ZzK (x y : GV) : LEN [x, y] 2 := ⟨rfl⟩
theorem Zqg (xs : List GV) : LEN xs xs.length := ⟨rfl⟩
structure CUT' (xs : List GV) (lo len : Nat) (ys : List GV) : Prop where
 e : (xs.drop lo).take len = ys
 l : lo + len ≤ xs.length
def CUT (xs : List GV) (lo len : Nat) (ys : List GV) : Prop := CUT' xs lo len ys
theorem CUT.mk  {len : Nat} {ys : List GV} (h : CUT' xs lo len ys) : CUT xs lo len ys := h
theorem CUT.e {xs : List GV} {lo len : Nat} {ys : List GV} (h : CUT xs lo len ys) : (xs.drop lo).take len = ys := @CUT'.e _ _ _ _ h
theorem CUT.l {xs : List GV} {lo len : Nat} {ys : List GV} (h : CUT xs lo len ys) : lo + len ≤ xs.length := @CUT'.l _ _ _ _ h
theorem ZwO  {len n : Nat} (hn : LEN xs n) (h0 : lo = 0) (hl : len = n) : CUT xs lo len xs := CUT.mk ⟨by subst h0; subst hl; rw [← hn.e]; simp, by rw [hn.e]; omega⟩
theorem ZnD  {f : α → GV} {ys : List α} {len : Nat} (hl : NU (lo + len ≤ ys.length)) : CUT (ys.map f) lo len (((ys.drop lo).take len).map f) := CUT.mk ⟨by rw [List.map_take, List.map_drop], by simpa using hl.e⟩
theorem Zbv  {f : α → GV} {ys : List α} {len : Nat} (h0 : lo = 0) (hl : NU (len ≤ ys.length)) : CUT (ys.map f) lo len ((ys.take len).map f) := CUT.mk ⟨by subst h0; rw [List.map_take]; simp, by have := hl.e; simp; omega⟩
theorem ZsO  {f : α → GV} {ys : List α} {len : Nat} (hl : lo + len = ys.length) : CUT (ys.map f) lo len ((ys.drop lo).map f) := CUT.mk ⟨by rw [List.map_drop, List.take_of_length_le (by simp; omega)], by simp; omega⟩
theorem ZuY  {len : Nat} (hl : NU (lo + len ≤ xs.length)) : CUT xs lo len ((xs.drop lo).take len) := CUT.mk ⟨rfl, hl.e⟩
structure CAT (xs ys zs : List GV) : Prop where
 e : xs ++ ys = zs
theorem ZvK (ys : List GV) : CAT [] ys ys := ⟨rfl⟩
theorem Zw9  (f : α → GV) (xs ys : List α) : CAT (xs.map f) (ys.map f) ((xs ++ ys).map f) := ⟨by simp⟩
theorem Zvp  (f : α → GV) (xs : List α) (y : α) : CAT (xs.map f) [f y] ((xs ++ [y]).map f) := ⟨by simp⟩
theorem Zw4  (f : α → GV) (xs : List α) : CAT (xs.map f) [] (xs.map f) := ⟨by simp⟩
theorem Zsh  (f : α → GV) (x : α) (ys : List α) : CAT [f x] (ys.map f) ((x :: ys).map f) := ⟨by simp⟩
theorem ZvY (xs ys : List GV) : CAT xs ys (xs ++ ys) := ⟨rfl⟩
structure ITM (xs : List GV) (n : Int) (x : GV) : Prop where
 e : xs[n.toNat]? = some x
 l : 0 ≤ n ∧ n < (xs.length : Int)
theorem Zk4  [Inhabited α] {f : α → GV} {ys : List α} {n : Nat} (h : NU (n < ys.length)) : ITM (ys.map f) (n : Int) (f (nth ys n)) := ⟨ZnE h.e, by have := h.e; simp; omega⟩
theorem ZAr {ys : List Int}  {n : Nat} (e : RF (xs = ys.map GV.i)) (h : NU (n < ys.length)) : ITM xs (n : Int) (GV.i (nth ys n)) := by
 have e1 := e.e
 subst e1
 exact Zk4 h
theorem Ztl  [Inhabited α] {f : α → GV} {ys : List α} (n : Nat) (h : NU (n < ys.length)) : ITM (ys.map f) (OfNat.ofNat n) (f (nth ys n)) := ⟨ZnE h.e, by have := h.e; constructor; exact Int.natCast_nonneg n; simp; exact Int.ofNat_lt.2 this⟩
theorem ZsN  [Inhabited α] {f : α → GV} {ys : List α} {n : Nat} (h : NU (n + 1 < ys.length)) : ITM (ys.map f) ((n : Int) + 1) (f (nth ys (n + 1))) := ⟨ZnE h.e, by have := h.e; simp; omega⟩
theorem Ztq  [Inhabited α] {f : α → GV} {ys : List α} {n : Nat} (h : NU (1 ≤ n ∧ n ≤ ys.length)) : ITM (ys.map f) ((n : Int) - 1) (f (nth ys (n - 1))) := by
 have h1 := h.e
 have e1 : (n : Int) - 1 = ((n - 1 : Nat) : Int) := by omega
 rw [e1]
 exact Zk4 (NU.mk (by omega))
theorem ZvS  [Inhabited α] {f : α → GV} {ys : List α} {n : Int} (h : NU (0 ≤ n ∧ n < (ys.length : Int))) : ITM (ys.map f) n (f (nth ys n.toNat)) := ⟨Zxl h.e, by have := h.e; simpa using this⟩
theorem Zxh  {n : Nat}  (h : RF (xs[n]? = some x)) : ITM xs (OfNat.ofNat n) x := ⟨h.e, by
 have := (List.getElem?_eq_some_iff.1 h.e).1
 constructor
 ·exact Int.natCast_nonneg n
 ·exact Int.ofNat_lt.2 this⟩
theorem Zr9  {n : Nat}  (h : RF (xs[n]? = some x)) : ITM xs (n : Int) x := ⟨by simpa using h.e, by
 have := (List.getElem?_eq_some_iff.1 h.e).1
 omega⟩
structure PUT (xs : List GV) (k : Nat) (x : GV) (ys : List GV) : Prop where
 e : xs.set k x = ys
theorem ZvF  (f : α → GV) (ys : List α) (k : Nat) (y : α) : PUT (ys.map f) k (f y) ((ys.set k y).map f) := ⟨by rw [List.map_set]⟩
theorem ZwK (xs : List GV) (k : Nat) (x : GV) : PUT xs k x (xs.set k x) := ⟨rfl⟩
end
end Go.Proofs.YtabfpoflhacknaaGreat
namespace Go.Proofs.YtabfpoflhacknaaGreat
open Go.RowKit
open Shp
variable {a c b u : Int} {k E off id j nid o f m : Nat} {t ft : TypeId} {ti si di fi : TI} {op : BinOp} {x y : Operand} {v p q : PV} {k' kk : IntKind} {cs cs' xs ys : List GV} {dp : Bool} {g : GV} {fs : List (Nat × TypeId)} {lo hi : Option Operand} {α : Type}
def NID (a k : Nat) : Prop := a = k
theorem NID.e {a : Nat} (h : NID a k) : a = k := h
theorem Zyl {a : Nat} (h : a = k) : NID a k := h
structure SLT' (tab : Tab) (t E e : Nat) : Prop where
 h : ∃ ti ei, tab t = some ti ∧ ti.kind = .sl E ∧ tab E = some ei ∧ ei.size = e + 1
def SLT (tab : Tab) (t E e : Nat) : Prop := SLT' tab t E e
theorem SLT.mk {tab : Tab} {t e : Nat} (h : SLT' tab t E e) : SLT tab t E e := h
theorem SLT.h {tab : Tab} {t E e : Nat} (h : SLT tab t E e) : ∃ ti ei, tab t = some ti ∧ ti.kind = .sl E ∧ tab E = some ei ∧ ei.size = e + 1 := @SLT'.h _ _ _ _ h
theorem Zzc {tab : Tab} {t e : Nat} {ei : TI} (h1 : tab t = some ti) (h2 : ti.kind = .sl E) (h3 : tab E = some ei) (h4 : ei.size = e + 1) : SLT tab t E e := SLT.mk ⟨ti, ei, h1, h2, h3, h4⟩
theorem SLT.el {tab : Tab} {t e : Nat} (h : SLT tab t E e) : Zcz tab t = some (E, e + 1) := by
 obtain ⟨ti, ei, h1, h2, h3, h4⟩ := h.h
 simp only [Zcz, h1, h2, h3, h4]
section
variable {dr : Bool} {P : Program} {tab : Tab} {ops : Array Oper} {i : Nat} {os : List Oper} {acc : List (List Nat × List Nat)} {K : AState → List (List Nat × List Nat) → Prop}
variable {ty : TypeId} {pos : String} {af : Array Edge} {n nx d : Nat} {sl : List (Nat × PV)} {hl : List (Nat × Block)}
def AF (dr : Bool) (P : Program) (tab : Tab) (ops : Array Oper) (i : Nat) (os : List Oper) (n : Nat) (sl : List (Nat × PV)) (hl : List (Nat × Block)) (nx : Nat) (acc : List (List Nat × List Nat)) (K : AState → List (List Nat × List Nat) → Prop) : Prop := AX dr P tab ops i os (mkX n sl hl nx) acc K
abbrev tcX (tab : Tab) (i n : Nat) (sl : List (Nat × PV)) (hl : List (Nat × Block)) (nx : Nat) (o : Oper) (ws : List Nat) : List Nat × List Nat := tcW tab i (mkX n sl hl nx) o ws
theorem ZcQ {dst : Option Nat} {op : Op} {pv : PV} {ws : List (Nat × Block)} (h2 : (mkX n sl hl nx).has dst = true) (h3 : aOp tab (nx + 8 * i) ⟨dst, op, ty, pos, af, none⟩ (mkX n sl hl nx) = some (pv, ws))
  (h4 : AF dr P tab ops (i + 1) os n (putL dst pv sl) (ZfG ws hl) nx (acc ++ [tcX tab i n sl hl nx ⟨dst, op, ty, pos, af, none⟩ (ws.map (·.1))]) K) : AF dr P tab ops i (⟨dst, op, ty, pos, af, none⟩ :: os) n sl hl nx acc K :=
 ZAH h2 h3 (by rw [Zci, Zjb]; exact h4)
theorem Zb3 {d : Nat} (h : RF (hasB d n = true)) : (mkX n sl hl nx).has (some d) = true := by have := h.e; rw [Zod, ZA7]; exact this
theorem Zye  (hd : RF (hasB d n = true)) (hx : EV sl tab ty x v) (h4 : AF dr P tab ops (i + 1) os n ((d, v) :: sl) hl nx (acc ++ [tcX tab i n sl hl nx ⟨some d, .move x, ty, pos, af, none⟩ []]) K) : AF dr P tab ops i (⟨some d, .move x, ty, pos, af, none⟩ :: os) n sl hl nx acc K :=
 ZcQ (ws := []) (Zb3 hd) (by simp only [aOp, hx.e]) h4
theorem Zs6  (hd : RF (hasB d n = true)) (hx : EV sl tab ty x v) (h4 : AF dr P tab ops (i + 1) os n ((d, v) :: sl) hl nx (acc ++ [tcX tab i n sl hl nx ⟨some d, .assign x, ty, pos, af, none⟩ []]) K) : AF dr P tab ops i (⟨some d, .assign x, ty, pos, af, none⟩ :: os) n sl hl nx acc K :=
 ZcQ (ws := []) (Zb3 hd) (by simp only [aOp, hx.e]) h4
structure PK (c p q v : PV) : Prop where
 e : Zt8 c p q = some (v, [])
theorem PK_t (p q : PV) : PK (.g (.bool true)) p q p := ⟨rfl⟩
theorem PK_f (p q : PV) : PK (.g (.bool false)) p q q := ⟨rfl⟩
theorem ZzZ {c : Operand} {pc : PV} (hd : RF (hasB d n = true)) (hc : EV sl tab 0 c pc) (hx : EV sl tab ty x p) (hy : EV sl tab ty y q) (hp : PK pc p q v) (h4 : AF dr P tab ops (i + 1) os n ((d, v) :: sl) hl nx (acc ++ [tcX tab i n sl hl nx ⟨some d, .pick c x y, ty, pos, af, none⟩ []]) K) : AF dr P tab ops i (⟨some d, .pick c x y, ty, pos, af, none⟩ :: os) n sl hl nx acc K :=
 ZcQ (ws := []) (Zb3 hd) (by simp only [aOp, hx.e, hy.e, hc.e, hp.e]) h4
structure BN (tab : Tab) (t : TypeId) (op : BinOp) (x y v : PV) : Prop where
 e : ZjH tab op t x y = some (v, [])
theorem ZeQ  {x y : PV} (h : aBin op x y = some (v, [])) : BN tab t op x y v := ⟨ZkN (ZsS h)⟩
theorem ZyB  (hb : NU (-9223372036854775808 ≤ a + b ∧ a + b ≤ 9223372036854775807)) : BN tab t .add (.g (.int .i64 a)) (.g (.int .i64 b)) (.g (.int .i64 (a + b))) := ZeQ (by simp [aBin, Zea, wr64 hb.e.1 hb.e.2])
theorem Zyx  (hb : NU (-9223372036854775808 ≤ a - b ∧ a - b ≤ 9223372036854775807)) : BN tab t .sub (.g (.int .i64 a)) (.g (.int .i64 b)) (.g (.int .i64 (a - b))) := ZeQ (by simp [aBin, Zea, wr64 hb.e.1 hb.e.2])
theorem Zy6  (hb : NU (-9223372036854775808 ≤ a * b ∧ a * b ≤ 9223372036854775807)) : BN tab t .mul (.g (.int .i64 a)) (.g (.int .i64 b)) (.g (.int .i64 (a * b))) := ZeQ (by simp [aBin, Zea, wr64 hb.e.1 hb.e.2])
theorem ZyN  (hb : NU (0 ≤ a ∧ a ≤ 9223372036854775807 ∧ 0 < b)) : BN tab t .quo (.g (.int .i64 a)) (.g (.int .i64 b)) (.g (.int .i64 (a / b))) := ZeQ (by
  have hb := hb.e
  have e1 : a.tdiv b = a / b := Int.tdiv_eq_ediv_of_nonneg hb.1
  have e2 : 0 ≤ a / b := Int.ediv_nonneg hb.1 (by omega)
  have e3 : a / b ≤ a := Int.ediv_le_self b hb.1
  have e4 : ¬ b = 0 := by omega
  simp [aBin, Zea, e1, e4, wr64 (show -9223372036854775808 ≤ a / b by omega) (show a / b ≤ 9223372036854775807 by omega)])
theorem Zz4  (hb : NU (0 ≤ a ∧ 0 < b)) : BN tab t .rem (.g (.int .i64 a)) (.g (.int .i64 b)) (.g (.int .i64 (a % b))) := ZeQ (by
  have hb := hb.e
  have e1 : a.tmod b = a % b := Int.tmod_eq_emod_of_nonneg hb.1
  have e4 : ¬ b = 0 := by omega
  simp [aBin, Zea, e1, e4])
theorem Zz0  {k : IntKind} (hb : NU (0 ≤ a ∧ 0 ≤ b ∧ b ≤ 62 ∧ a * 2 ^ b.toNat ≤ 9223372036854775807)) : BN tab t .shl (.g (.int .i64 a)) (.g (.int k b)) (.g (.int .i64 (a * 2 ^ b.toNat))) := ZeQ (by
  have hb := hb.e
  have h5 : 0 ≤ a * 2 ^ b.toNat := Int.mul_nonneg hb.1 (Int.pow_nonneg (by decide))
  have e1 : ¬ b < 0 := by omega
  have e2 : min b.toNat (IntKind.bits .i64) = b.toNat := Nat.min_eq_left (by show b.toNat ≤ 64; omega)
  simp only [aBin, e1, if_false, e2, wr64 (show -9223372036854775808 ≤ a * 2 ^ b.toNat by omega) hb.2.2.2])
theorem ZwC  (k : IntKind) (a b : Int) : BN tab t .add (.g (.int k a)) (.g (.int k b)) (.g (.int k (k.wrap (a + b)))) := ZeQ (by simp [aBin, Zea])
theorem ZvG  (k : IntKind) (a b : Int) : BN tab t .mul (.g (.int k a)) (.g (.int k b)) (.g (.int k (k.wrap (a * b)))) := ZeQ (by simp [aBin, Zea])
theorem ZzH  (k : IntKind) (a b : Int) : BN tab t .and (.g (.int k a)) (.g (.int k b)) (.g (.int k (Zj7 .and k a b))) := ZeQ (by simp [aBin, Zea])
theorem ZxP  (k : IntKind) (a b : Int) : BN tab t .xor (.g (.int k a)) (.g (.int k b)) (.g (.int k (Zj7 .xor k a b))) := ZeQ (by simp [aBin, Zea])
theorem ZyG  {k : IntKind}  (hb : NU (0 ≤ b)) : BN tab t .shr (.g (.int k a)) (.g (.int k' b)) (.g (.int k (a.fdiv (2 ^ min b.toNat k.bits)))) := ZeQ (by have := hb.e; simp [aBin, show ¬ b < 0 by omega])
theorem ZvT : BN tab t .shr (.g (.int .u64 a)) (.g (.int k' 1)) (.g (.int .u64 (a / 2))) := ZeQ (by
 have e : a.fdiv (2 ^ min (Int.toNat 1) (IntKind.bits .u64)) = a / 2 := by
  show a.fdiv 2 = a / 2
  exact Int.fdiv_eq_ediv_of_nonneg a (by omega)
 simp only [aBin, show ¬ ((1 : Int) < 0) by omega, if_false, e])
theorem Zx7  (k : IntKind) (a b : Int) : BN tab t .eql (.g (.int k a)) (.g (.int k b)) (.g (.bool (a == b))) := ZeQ (by simp [aBin, Zea])
theorem ZAj  (k : IntKind) (a b : Int) : BN tab t .neq (.g (.int k a)) (.g (.int k b)) (.g (.bool (a != b))) := ZeQ (by simp [aBin, Zea])
theorem Zy1  (k : IntKind) (a b : Int) : BN tab t .lss (.g (.int k a)) (.g (.int k b)) (.g (.bool (decide (a < b)))) := ZeQ (by simp [aBin, Zea])
theorem Zzl  (k : IntKind) (a b : Int) : BN tab t .leq (.g (.int k a)) (.g (.int k b)) (.g (.bool (decide (a ≤ b)))) := ZeQ (by simp [aBin, Zea])
theorem Zyg  (k : IntKind) (a b : Int) : BN tab t .gtr (.g (.int k a)) (.g (.int k b)) (.g (.bool (decide (a > b)))) := ZeQ (by simp [aBin, Zea])
theorem ZxV  (k : IntKind) (a b : Int) : BN tab t .geq (.g (.int k a)) (.g (.int k b)) (.g (.bool (decide (a ≥ b)))) := ZeQ (by simp [aBin, Zea])
theorem Zy0  {a b : Bool} (h : RF (Ze0 tab t = true)) : BN tab t .eql (.g (.bool a)) (.g (.bool b)) (.g (.bool (a == b))) := ⟨ZkN (by simp only [Zim, h.e, if_true])⟩
theorem Zxz  {a b : Bool} (h : RF (Ze0 tab t = true)) : BN tab t .neq (.g (.bool a)) (.g (.bool b)) (.g (.bool (!(a == b)))) := ⟨ZkN (by simp only [Zim, h.e, if_true])⟩
theorem ZxQ (a b c d : Int) : ([a, b] == [c, d]) = decide ((a, b) = (c, d)) := by
 rw [Bool.eq_iff_iff]; simp
theorem Zst  (h : ZbH .i64 p = some [a, b]) : p = .agg [.g (.int .i64 a), .g (.int .i64 b)] ∨ p = .g (.agg [.int .i64 a, .int .i64 b]) := by
 unfold ZbH at h
 split at h
 ·have := Zlc h; subst this; exact .inl rfl
 ·have := ZkQ h; subst this; exact .inr rfl
 ·cases h
theorem Zp8  {d : Int} (hp : ZbH .i64 p = some [a, b]) (hq : ZbH .i64 q = some [c, d]) : Zim tab op t p q = none := by
 rcases Zst hp with rfl | rfl <;> rcases Zst hq with rfl | rfl <;> cases op <;> rfl
theorem Zsl  {d : Int} (hp : ZbH .i64 p = some [a, b]) (hq : ZbH .i64 q = some [c, d]) (ht : RF (Zh2 tab t = some (2, .i64))) : BN tab t .eql p q (.g (.bool (decide ((a, b) = (c, d))))) := ⟨by
 unfold ZjH
 rw [Zp8 hp hq]
 rcases Zst hp with rfl | rfl <;> rcases Zst hq with rfl | rfl <;> simp only [ht.e, hp, hq, ZxQ, List.length_cons, List.length_nil, and_self, if_true]⟩
theorem Zvw  {d : Int} (ht : RF (Zh2 tab t = some (2, .i64))) : BN tab t .eql (.agg [.g (.int .i64 a), .g (.int .i64 b)]) (.agg [.g (.int .i64 c), .g (.int .i64 d)]) (.g (.bool (decide ((a, b) = (c, d))))) := Zsl (by simp [ZbH, ZiR]) (by simp [ZbH, ZiR]) ht
theorem Zu6  {d : Int} (ht : RF (Zh2 tab t = some (2, .i64))) : BN tab t .eql (.g (.agg [.int .i64 a, .int .i64 b])) (.agg [.g (.int .i64 c), .g (.int .i64 d)]) (.g (.bool (decide ((a, b) = (c, d))))) := Zsl (by simp [ZbH, ZjQ]) (by simp [ZbH, ZiR]) ht
theorem Zwg  {d : Int} (ht : RF (Zh2 tab t = some (2, .i64))) : BN tab t .eql (.agg [.g (.int .i64 a), .g (.int .i64 b)]) (.g (.agg [.int .i64 c, .int .i64 d])) (.g (.bool (decide ((a, b) = (c, d))))) := Zsl (by simp [ZbH, ZiR]) (by simp [ZbH, ZjQ]) ht
theorem ZwZ  {d : Int} (ht : RF (Zh2 tab t = some (2, .i64))) : BN tab t .eql (.g (.agg [.int .i64 a, .int .i64 b])) (.g (.agg [.int .i64 c, .int .i64 d])) (.g (.bool (decide ((a, b) = (c, d))))) := Zsl (by simp [ZbH, ZjQ]) (by simp [ZbH, ZjQ]) ht
theorem Zys  (a b : ByteArray) : BN tab t .eql (.g (.str a)) (.g (.str b)) (.g (.bool (a.toList == b.toList))) := ⟨by simp [ZjH, Zim, aBin, ZpE]⟩
theorem ZAq  (a b : ByteArray) : BN tab t .neq (.g (.str a)) (.g (.str b)) (.g (.bool (!(a.toList == b.toList)))) := ⟨by simp [ZjH, Zim, aBin, ZpE]⟩
theorem ZwM  {a b : ByteArray} (h : NU (a.size + b.size ≤ 9223372036854775807)) : BN tab t .add (.g (.str a)) (.g (.str b)) (.g (.str (a ++ b))) := ⟨by have := h.e; simp [ZjH, Zim, aBin, ZpE, this]⟩
theorem ZBC  {t' : TypeId}   (hd : RF (hasB d n = true)) (hx : EV sl tab 0 x p) (hy : EV sl tab 0 y q) (hv : BN tab t op p q v) (h4 : AF dr P tab ops (i + 1) os n ((d, v) :: sl) hl nx (acc ++ [tcX tab i n sl hl nx ⟨some d, .binOp op t x y t', ty, pos, af, none⟩ []]) K) : AF dr P tab ops i (⟨some d, .binOp op t x y t', ty, pos, af, none⟩ :: os) n sl hl nx acc K :=
 ZcQ (ws := []) (Zb3 hd) (by simp only [aOp, hx.e, hy.e, hv.e]) h4
structure UN (op : UnOp) (x v : PV) : Prop where
 e : aUn op x = some (v, [])
theorem ZxY (b : Bool) : UN .not (.g (.bool b)) (.g (.bool (!b))) := ⟨rfl⟩
theorem ZxL  (hb : NU (-9223372036854775807 ≤ a ∧ a ≤ 9223372036854775807)) : UN .neg (.g (.int .i64 a)) (.g (.int .i64 (0 - a))) := ⟨by have := hb.e; simp only [aUn]; rw [wr64 (by omega) (by omega)]⟩
theorem X_un {op : UnOp}    (hd : RF (hasB d n = true)) (hx : EV sl tab 0 x p) (hv : UN op p v) (h4 : AF dr P tab ops (i + 1) os n ((d, v) :: sl) hl nx (acc ++ [tcX tab i n sl hl nx ⟨some d, .unOp op t x, ty, pos, af, none⟩ []]) K) : AF dr P tab ops i (⟨some d, .unOp op t x, ty, pos, af, none⟩ :: os) n sl hl nx acc K :=
 ZcQ (ws := []) (Zb3 hd) (by simp only [aOp, hx.e, hv.e]) h4
structure CV (tab : Tab) (s t : TypeId) (x v : PV) : Prop where
 e : ZnC tab s t x = some (v, [])
theorem Zyw {s : TypeId}  {k : IntKind}  (h5 : RF (tab s = some si ∧ si.kind = .int k)) (h6 : RF (tab t = some di ∧ di.kind = .int .i64)) (hb : NU (-9223372036854775808 ≤ a ∧ a ≤ 9223372036854775807)) : CV tab s t (.g (.int k' a)) (.g (.int .i64 a)) := ⟨by simp [ZnC, h5.e.1, h6.e.1, h5.e.2, h6.e.2, wr64 hb.e.1 hb.e.2]⟩
theorem wrU  (h1 : 0 ≤ a) (h2 : a ≤ 9223372036854775807) : IntKind.u64.wrap a = a := by
 have e : a % 2 ^ 64 = a := Int.emod_eq_of_lt h1 (by omega)
 simp only [IntKind.wrap, IntKind.bits, IntKind.signed, e]
 rfl
theorem ZyZ {s : TypeId}  {k : IntKind}  (h5 : RF (tab s = some si ∧ si.kind = .int k)) (h6 : RF (tab t = some di ∧ di.kind = .int .u64)) (hb : NU (0 ≤ a ∧ a ≤ 9223372036854775807)) : CV tab s t (.g (.int k' a)) (.g (.int .u64 a)) := ⟨by simp [ZnC, h5.e.1, h6.e.1, h5.e.2, h6.e.2, wrU hb.e.1 hb.e.2]⟩
theorem Zwm {s : TypeId}  {k k2 : IntKind}  (h5 : RF (tab s = some si ∧ si.kind = .int k)) (h6 : RF (tab t = some di ∧ di.kind = .int k2)) : CV tab s t (.g (.int k' a)) (.g (.int k2 (k2.wrap a))) := ⟨by simp [ZnC, h5.e.1, h6.e.1, h5.e.2, h6.e.2]⟩
theorem Zzs {s : TypeId}   (hd : RF (hasB d n = true)) (hx : EV sl tab 0 x p) (hv : CV tab s t p v) (h4 : AF dr P tab ops (i + 1) os n ((d, v) :: sl) hl nx (acc ++ [tcX tab i n sl hl nx ⟨some d, .convert s t x, ty, pos, af, none⟩ []]) K) : AF dr P tab ops i (⟨some d, .convert s t x, ty, pos, af, none⟩ :: os) n sl hl nx acc K :=
 ZcQ (ws := []) (Zb3 hd) (by simp only [aOp, hx.e, hv.e]) h4
theorem Zv8 {elem : TypeId}   {z : List PV} (hd : RF (hasB d n = true)) (ht : RF (tab elem = some ti ∧ ti.zero = z)) (hk : NID (nx + 8 * i) k) (hf : HL hl k .free) (h4 : AF dr P tab ops (i + 1) os n ((d, .ptr k 0) :: sl) ((k, .box z) :: hl) nx (acc ++ [tcX tab i n sl hl nx ⟨some d, .alloc elem, ty, pos, af, none⟩ [k]]) K) : AF dr P tab ops i (⟨some d, .alloc elem, ty, pos, af, none⟩ :: os) n sl hl nx acc K := by
 cases hk.e
 cases ht.e.2
 exact ZcQ (ws := [(nx + 8 * i, .box ti.zero)]) (Zb3 hd) (by simp only [aOp, ZlX, ht.e.1, ZfS, Zc5, hf.e, Zcy, if_true]) h4
theorem ZAP {elem : TypeId}   {cs : List PV}  (hd : RF (hasB d n = true)) (hx : EV sl tab elem x p) (hp : CP p cs) (hk : NID (nx + 8 * i) k) (hf : HL hl k .free) (h4 : AF dr P tab ops (i + 1) os n ((d, .ptr k 0) :: sl) ((k, .box cs) :: hl) nx (acc ++ [tcX tab i n sl hl nx ⟨some d, .box elem x, ty, pos, af, none⟩ [k]]) K) : AF dr P tab ops i (⟨some d, .box elem x, ty, pos, af, none⟩ :: os) n sl hl nx acc K := by
 cases hk.e
 exact ZcQ (ws := [(nx + 8 * i, .box cs)]) (Zb3 hd) (by simp only [aOp, aBox, hx.e, hp.e, hp.v, Zc5, hf.e, Zcy, Bool.and_self, if_true]) h4
structure LB (tab : Tab) (t : TypeId) (off : Nat) (cs : List PV) (v : PV) : Prop where
 e : ∃ ti, tab t = some ti ∧ Zfz ti off cs = some v
theorem ZzL  {cs : List PV}   (h : RF (tab t = some ti ∧ ti.kind.agg = false)) (h2 : Idx cs off v) : LB tab t off cs v := ⟨ti, h.e.1, by simp only [Zfz, h.e.2, Bool.false_eq_true, if_false, h2.e]⟩
theorem Zx5  {cs cs' : List PV}  {sz : Nat} (h : RF (tab t = some ti ∧ ti.kind.agg = true ∧ ti.size = sz)) (h2 : Sub cs off sz cs') : LB tab t off cs (.agg cs') := ⟨ti, h.e.1, by
 obtain ⟨h3, h4, h5⟩ := h.e
 have := h2.l
 simp only [Zfz, h4, if_true, h5]
 rw [if_pos this, h2.e]⟩
structure LI (tab : Tab) (t : TypeId) (cs : List GV) (v : PV) : Prop where
 e : ∃ ti, tab t = some ti ∧ ZbJ ti cs = some v
theorem ZAd  {c : GV}   (h : RF (tab t = some ti ∧ ti.kind.agg = false)) : LI tab t (c :: cs) (.g c) := ⟨ti, h.e.1, by simp [ZbJ, h.e.2]⟩
theorem Zxp  {sz : Nat} (h : RF (tab t = some ti ∧ ti.kind.agg = true ∧ ti.size = sz)) (h2 : Sub cs 0 sz cs') : LI tab t cs (.g (.agg cs')) := ⟨ti, h.e.1, by
 obtain ⟨h3, h4, h5⟩ := h.e
 have := h2.l
 have h6 := h2.e
 simp at h6
 simp only [ZbJ, h4, if_true, h5]
 rw [if_pos (by omega), h6]⟩
structure LD (tab : Tab) (hl : List (Nat × Block)) (t : TypeId) (p v : PV) : Prop where
 e : ZeT tab (ZaZ hl) t p = some (v, [])
theorem ZrC  {cs : List PV}  (hb : HL hl id (.box cs)) (hv : LB tab t off cs v) : LD tab hl t (.ptr id off) v := ⟨by obtain ⟨ti, h1, h2⟩ := hv.e; exact ZzT h1 hb.e h2⟩
theorem ZzR  (hv : LI tab t cs v) : LD tab hl t (.iptr cs) v := ⟨by obtain ⟨ti, h1, h2⟩ := hv.e; exact ZxH h1 h2⟩
theorem ZwN  (hv : LI tab t cs v) : LD tab hl t (.g (.box cs)) v := ⟨by obtain ⟨ti, h1, h2⟩ := hv.e; exact ZwX h1 h2⟩
theorem Zza  {e : Nat}   {x : GV}   (hb : HL hl id (.arr e dp xs)) (hx : ITM xs (k : Int) x) (hc : CG x cs) (hj : Dr cs j cs') (hv : LI tab t cs' v) : LD tab hl t (.eptr id k j) v := ⟨by
 obtain ⟨ti, h1, h2⟩ := hv.e
 have h3 := hx.e
 simp only [Int.toNat_natCast] at h3
 exact Zzf h1 hb.e h3 hc.t (by rw [hc.e, hj.e]; exact h2)⟩
theorem Zyj  (hd : RF (hasB d n = true)) (hx : EV sl tab 0 x p) (hv : LD tab hl t p v) (h4 : AF dr P tab ops (i + 1) os n ((d, v) :: sl) hl nx (acc ++ [tcX tab i n sl hl nx ⟨some d, .load t x, ty, pos, af, none⟩ []]) K) : AF dr P tab ops i (⟨some d, .load t x, ty, pos, af, none⟩ :: os) n sl hl nx acc K :=
 ZcQ (ws := []) (Zb3 hd) (by simp only [aOp, hx.e]; exact hv.e) h4
structure ST (tab : Tab) (nid : Nat) (hl : List (Nat × Block)) (t : TypeId) (p v : PV) (ws : List (Nat × Block)) : Prop where
 e : ZeZ tab nid (ZaZ hl) t p v = some (.none_, ws)
theorem Zzj  {sz : Nat} {cs cs' ps : List PV}  (hb : HL hl id (.box cs)) (hp : CP p ps) (ht : RF (tab t = some ti ∧ ti.size = sz)) (hs : RF (ps.length = sz)) (hc : SetL cs off ps cs') : ST tab nid hl t (.ptr id off) p [(id, .box cs')] := ⟨by
 obtain ⟨h1, h2⟩ := ht.e
 have h3 := hs.e
 have h4 := hc.l
 have h5 := hc.e
 subst h2
 simp only [ZeZ, h1, hb.e, hp.v, hp.e, h3, Bool.true_and, beq_self_eq_true, h5]
 rw [if_pos (by simpa using (by omega : off + ti.size ≤ cs.length))]⟩
theorem Zun  (hb : HL hl id (.arr 1 dp xs)) (ht : RF (tab t = some ti ∧ ti.size = 1)) (hg : RF (g.atom = true)) (hf : HL hl nid .free) (hy : PUT xs k g ys) (hk : NU (k < xs.length)) : ST tab nid hl t (.eptr id k 0) (.g g) [(id, .arr 1 dp ys)] := ⟨by
 obtain ⟨h1, h2⟩ := ht.e
 have hg := hg.e
 have e1 : g.ncells = 1 := by cases g <;> simp_all [GV.atom, GV.ncells]
 have e2 : g.isTup = false := by cases g <;> simp_all [GV.atom, GV.isTup]
 have e3 : g.flat = true := by cases g <;> simp_all [GV.atom, GV.flat]
 have e4 : absE (ZaZ hl) (.g g) = some (g, [], true) := by simp [absE, Zbq, e3]
 have hk := hk.e
 have hy := hy.e
 subst hy
 simp only [ZeZ, h1, hb.e, h2, hk, hf.e, Zcy, and_self, if_true, e4, e1, e2, List.not_mem_nil, not_false_eq_true, ZeS, List.map_nil, List.nil_append, Bool.and_true]⟩
structure NP (hl : List (Nat × Block)) (p : PV) : Prop where
 e : p.isPtr (ZaZ hl) = true
theorem Zyq  {cs : List PV} (h : HL hl id (.box cs)) : NP hl (.ptr id o) := ⟨by simp only [PV.isPtr, h.e]⟩
theorem ZwD {e : Nat}   (h : HL hl id (.arr e dp xs)) : NP hl (.eptr id k j) := ⟨by simp only [PV.isPtr, h.e]⟩
theorem ZwF (cs : List GV) : NP hl (.iptr cs) := ⟨rfl⟩
theorem ZvE (cs : List GV) : NP hl (.g (.box cs)) := ⟨rfl⟩
theorem ZAA (f : FuncId) (cs : List PV) : NP hl (.fn f cs) := ⟨rfl⟩
theorem Zy2  (hd : RF (hasB d n = true)) (hx : EV sl tab 0 x p) (hp : NP hl p) (h4 : AF dr P tab ops (i + 1) os n ((d, p) :: sl) hl nx (acc ++ [tcX tab i n sl hl nx ⟨some d, .nilCheck x, ty, pos, af, none⟩ []]) K) : AF dr P tab ops i (⟨some d, .nilCheck x, ty, pos, af, none⟩ :: os) n sl hl nx acc K :=
 ZcQ (ws := []) (Zb3 hd) (by simp only [aOp, hx.e, aNil]; rw [if_pos]; exact hp.e) h4
structure FL (tab : Tab) (hl : List (Nat × Block)) (s : TypeId) (x : PV) (f : Nat) (v : PV) : Prop where
 e : Zfb tab (ZaZ hl) s x f = some (v, [])
structure FO' (tab : Tab) (s : TypeId) (f off : Nat) : Prop where
 e : ∃ ti fs ft fi, tab s = some ti ∧ ti.kind = .st fs ∧ fs[f]? = some (off, ft) ∧ tab ft = some fi ∧ Nat.beq fi.size 0 = false
def FO (tab : Tab) (s : TypeId) (f off : Nat) : Prop := FO' tab s f off
theorem FO.mk {tab : Tab} {s : TypeId}  (h : FO' tab s f off) : FO tab s f off := h
theorem FO.e {tab : Tab} {s : TypeId} {f off : Nat} (h : FO tab s f off) : ∃ ti fs ft fi, tab s = some ti ∧ ti.kind = .st fs ∧ fs[f]? = some (off, ft) ∧ tab ft = some fi ∧ Nat.beq fi.size 0 = false := @FO'.e _ _ _ _ h
theorem ZBm {s : TypeId}     (h1 : tab s = some ti) (h2 : ti.kind = .st fs) (h3 : fs[f]? = some (off, ft)) (h4 : tab ft = some fi) (h5 : Nat.beq fi.size 0 = false) : FO tab s f off := FO.mk ⟨ti, fs, ft, fi, h1, h2, h3, h4, h5⟩
theorem Zzv {s : TypeId}  {cs : List PV} (ho : FO tab s f off) (h : HL hl id (.box cs)) : FL tab hl s (.ptr id o) f (.ptr id (o + off)) := ⟨by
 obtain ⟨ti, fs, ft, fi, h1, h2, h3, h4, h5⟩ := ho.e
 have h6 : ¬ fi.size = 0 := by intro e; rw [e] at h5; simp at h5
 simp only [Zfb, h1, h2, h3, h4, h6, PV.isPtr, h.e, if_false, if_true]⟩
theorem ZwP {s : TypeId} {e : Nat}   (ho : FO tab s f off) (h : HL hl id (.arr e dp xs)) : FL tab hl s (.eptr id k j) f (.eptr id k (j + off)) := ⟨by
 obtain ⟨ti, fs, ft, fi, h1, h2, h3, h4, h5⟩ := ho.e
 have h6 : ¬ fi.size = 0 := by intro e; rw [e] at h5; simp at h5
 simp only [Zfb, h1, h2, h3, h4, h6, PV.isPtr, h.e, if_false, if_true]⟩
theorem ZwW {s : TypeId}   (ho : FO tab s f off) (h : Dr cs off cs') : FL tab hl s (.iptr cs) f (.iptr cs') := ⟨by
 obtain ⟨ti, fs, ft, fi, h1, h2, h3, h4, h5⟩ := ho.e
 have h6 : ¬ fi.size = 0 := by intro e; rw [e] at h5; simp at h5
 simp only [Zfb, h1, h2, h3, h4, h6, if_false, h.e]⟩
theorem Zvl {s : TypeId}   (ho : FO tab s f off) (h : Dr cs off cs') : FL tab hl s (.g (.box cs)) f (.iptr cs') := ⟨by
 obtain ⟨ti, fs, ft, fi, h1, h2, h3, h4, h5⟩ := ho.e
 have h6 : ¬ fi.size = 0 := by intro e; rw [e] at h5; simp at h5
 simp only [Zfb, h1, h2, h3, h4, h6, if_false, h.e]⟩
theorem ZBs {s : TypeId}    (hd : RF (hasB d n = true)) (hx : EV sl tab 0 x p) (hv : FL tab hl s p f v) (h4 : AF dr P tab ops (i + 1) os n ((d, v) :: sl) hl nx (acc ++ [tcX tab i n sl hl nx ⟨some d, .fieldAddr s x f, ty, pos, af, none⟩ []]) K) : AF dr P tab ops i (⟨some d, .fieldAddr s x f, ty, pos, af, none⟩ :: os) n sl hl nx acc K :=
 ZcQ (ws := []) (Zb3 hd) (by simp only [aOp, hx.e]; exact hv.e) h4
structure PT (tab : Tab) (t : TypeId) (x : PV) (f : Nat) (v : PV) : Prop where
 e : Zo2 tab t x f = some (v, [])
structure FO1' (tab : Tab) (s : TypeId) (f off : Nat) : Prop where
 e : ∃ ti fs ft fi, tab s = some ti ∧ ti.kind = .st fs ∧ fs[f]? = some (off, ft) ∧ tab ft = some fi ∧ fi.kind.agg = false
def FO1 (tab : Tab) (s : TypeId) (f off : Nat) : Prop := FO1' tab s f off
theorem FO1.mk {tab : Tab} {s : TypeId}  (h : FO1' tab s f off) : FO1 tab s f off := h
theorem FO1.e {tab : Tab} {s : TypeId} {f off : Nat} (h : FO1 tab s f off) : ∃ ti fs ft fi, tab s = some ti ∧ ti.kind = .st fs ∧ fs[f]? = some (off, ft) ∧ tab ft = some fi ∧ fi.kind.agg = false := @FO1'.e _ _ _ _ h
theorem Zxx {s : TypeId}     (h1 : tab s = some ti) (h2 : ti.kind = .st fs) (h3 : fs[f]? = some (off, ft)) (h4 : tab ft = some fi) (h5 : fi.kind.agg = false) : FO1 tab s f off := FO1.mk ⟨ti, fs, ft, fi, h1, h2, h3, h4, h5⟩
theorem ZAb  {cs : List PV}  (ho : FO1 tab t f off) (h : Idx cs off v) : PT tab t (.agg cs) f v := ⟨by
 obtain ⟨ti, fs, ft, fi, h1, h2, h3, h4, h5⟩ := ho.e
 simp only [Zo2, h1, h2, h3, h4, h5, Bool.false_eq_true, if_false, h.e]⟩
theorem ZvZ  {v : GV} (ho : FO1 tab t f off) (h : Idx cs off v) : PT tab t (.g (.agg cs)) f (.g v) := ⟨by
 obtain ⟨ti, fs, ft, fi, h1, h2, h3, h4, h5⟩ := ho.e
 simp only [Zo2, h1, h2, h3, h4, h5, Bool.false_eq_true, if_false, h.e]⟩
theorem Zx6  (hd : RF (hasB d n = true)) (hx : EV sl tab 0 x p) (hv : PT tab t p f v) (h4 : AF dr P tab ops (i + 1) os n ((d, v) :: sl) hl nx (acc ++ [tcX tab i n sl hl nx ⟨some d, .field t x f, ty, pos, af, none⟩ []]) K) : AF dr P tab ops i (⟨some d, .field t x f, ty, pos, af, none⟩ :: os) n sl hl nx acc K :=
 ZcQ (ws := []) (Zb3 hd) (by simp only [aOp, hx.e, hv.e]) h4
structure IX (tab : Tab) (hl : List (Nat × Block)) (t : TypeId) (x i v : PV) : Prop where
 e : Zcp tab (ZaZ hl) t x i = some (v, [])
theorem Zug  {e : Nat} {lo len : Nat}   {k : IntKind} {m : Int} (ht : SLT tab t E e) (hb : HL hl id (.arr (e + 1) dp xs)) (hn : NU (0 ≤ m ∧ m < (len : Int))) : IX tab hl t (.own id lo len) (.g (.int k m)) (.eptr id (lo + m.toNat) 0) := ⟨by
 obtain ⟨ti, ei, h1, h2, h3, h4⟩ := ht.h
 simp only [Zcp, h1, h2, h3, h4, hb.e, hn.e, and_self, if_true]⟩
theorem ZuA  {e : Nat} {len : Nat}   {k : IntKind}  (ht : SLT tab t E e) (hb : HL hl id (.arr (e + 1) dp xs)) (hn : NU (m < len)) : IX tab hl t (.own id 0 len) (.g (.int k (m : Int))) (.eptr id m 0) := ⟨by
 have := (Zug (k := k) (lo := 0) ht hb (len := len) (m := (m : Int)) (NU.mk (by have := hn.e; omega))).e
 simpa using this⟩
theorem IX_g  {e : Nat}  {k : IntKind} {m : Int}   (ht : SLT tab t E e) (hg : ITM xs m g) (hc : CG g cs) : IX tab hl t (.g (.sl (e + 1) xs)) (.g (.int k m)) (.iptr cs) := ⟨by
 obtain ⟨ti, ei, h1, h2, h3, h4⟩ := ht.h
 have hgd : xs.getD m.toNat default = g := by simp [List.getD, hg.e]
 simp only [Zcp, h1, h2, h3, h4, hg.l, hgd, hc.t, hc.e, and_self, if_true]⟩
theorem ZAB  {e : Nat} {u : Value}  {k : IntKind} {m : Int}   (ht : SLT tab t E e) (hg : ITM xs m g) (hc : CG g cs) : IX tab hl t (.g (.ex u (e + 1) xs)) (.g (.int k m)) (.iptr cs) := ⟨by
 obtain ⟨ti, ei, h1, h2, h3, h4⟩ := ht.h
 have hgd : xs.getD m.toNat default = g := by simp [List.getD, hg.e]
 simp only [Zcp, h1, h2, h3, h4, hg.l, hgd, hc.t, hc.e, and_self, if_true]⟩
structure ART (tab : Tab) (t : TypeId) (m : Nat) : Prop where
 e : ∃ ti E ei, tab t = some ti ∧ ti.kind = .ar m E ∧ tab E = some ei ∧ ei.size = 1 ∧ ei.kind.agg = false
def arB (tab : Tab) (t : TypeId) (m : Nat) : Bool :=
 match tab t with
 | some ti => match ti.kind with
  | .ar m' E => match tab E with
   | some ei => Nat.beq m' m && Nat.beq ei.size 1 && !ei.kind.agg
   | none => false
  | _ => false
 | none => false
theorem ART.of  (h : RF (arB tab t m = true)) : ART tab t m := by
 have h := h.e
 unfold arB at h
 split at h
 ·rename_i ti hti
  split at h
  ·rename_i m' E hk
   split at h
   ·rename_i ei hE
    simp only [Bool.and_eq_true, Bool.not_eq_true'] at h
    have h1 := Nat.eq_of_beq_eq_true h.1.1
    subst h1
    exact ⟨ti, E, ei, hti, hk, hE, Nat.eq_of_beq_eq_true h.1.2, h.2⟩
   ·cases h
  ·cases h
 ·cases h
theorem Zzm  {e : Nat}    (ht : RF (arB tab t 2 = true)) (hb : HL hl id (.arr e dp xs)) : IX tab hl t (.eptr id k j) (.g (.int kk 0)) (.eptr id k j) := ⟨by
 obtain ⟨ti, E, ei, h1, h2, h3, h4, _⟩ := (ART.of ht).e
 simp [Zcp, h1, h2, h3, h4, PV.isPtr, hb.e]⟩
theorem ZzA  {e : Nat}    (ht : RF (arB tab t 2 = true)) (hb : HL hl id (.arr e dp xs)) : IX tab hl t (.eptr id k j) (.g (.int kk 1)) (.eptr id k (j + 1)) := ⟨by
 obtain ⟨ti, E, ei, h1, h2, h3, h4, _⟩ := (ART.of ht).e
 simp [Zcp, h1, h2, h3, h4, PV.isPtr, hb.e]⟩
theorem ZyF  {cs : List PV}  (ht : RF (arB tab t 2 = true)) (hb : HL hl id (.box cs)) : IX tab hl t (.ptr id j) (.g (.int kk 0)) (.ptr id j) := ⟨by
 obtain ⟨ti, E, ei, h1, h2, h3, h4, _⟩ := (ART.of ht).e
 simp [Zcp, h1, h2, h3, h4, PV.isPtr, hb.e]⟩
theorem Zz9  {cs : List PV}  (ht : RF (arB tab t 2 = true)) (hb : HL hl id (.box cs)) : IX tab hl t (.ptr id j) (.g (.int kk 1)) (.ptr id (j + 1)) := ⟨by
 obtain ⟨ti, E, ei, h1, h2, h3, h4, _⟩ := (ART.of ht).e
 simp [Zcp, h1, h2, h3, h4, PV.isPtr, hb.e]⟩
theorem ZyI  {cs : List PV}  (ht : RF (arB tab t 2 = true)) (hb : HL hl id (.box cs)) (hm : NU (m < 2)) : IX tab hl t (.ptr id 0) (.g (.int kk (m : Int))) (.ptr id m) := ⟨by
 obtain ⟨ti, E, ei, h1, h2, h3, h4, _⟩ := (ART.of ht).e
 have h5 := hb.e
 have h6 := hm.e
 have h7 : (0 : Int) ≤ (m : Int) ∧ (m : Int) < ((2 : Nat) : Int) := by omega
 simp only [Zcp, h1, h2, h3, h4, h7, and_self, if_true, PV.isPtr, h5, Int.toNat_natCast, Nat.zero_add, Nat.mul_one]⟩
theorem Zzd  {cs : List PV}  (hb : HL hl id (.box cs)) (h0 : LB tab t 0 cs (.g (.int .i64 a))) (h1 : LB tab t 1 cs (.g (.int .i64 b))) (hm : NU (m < 2)) : LD tab hl t (.ptr id m) (.g (.int .i64 (if (m : Int) = 0 then a else b))) := by
 have h6 := hm.e
 have h : m = 0 ∨ m = 1 := by omega
 rcases h with rfl | rfl
 ·exact ZrC hb h0
 ·exact ZrC hb h1
theorem ZAc  (ht : RF (arB tab t 2 = true)) : IX tab hl t (.iptr cs) (.g (.int kk 0)) (.iptr cs) := ⟨by
 obtain ⟨ti, E, ei, h1, h2, h3, h4, _⟩ := (ART.of ht).e
 simp [Zcp, h1, h2, h3, h4]⟩
theorem Zx0  {c : GV}   (ht : RF (arB tab t 2 = true)) : IX tab hl t (.iptr (c :: cs)) (.g (.int kk 1)) (.iptr cs) := ⟨by
 obtain ⟨ti, E, ei, h1, h2, h3, h4, _⟩ := (ART.of ht).e
 simp [Zcp, h1, h2, h3, h4]⟩
theorem ZyQ  (ht : RF (arB tab t 2 = true)) : IX tab hl t (.g (.box cs)) (.g (.int kk 0)) (.iptr cs) := ⟨by
 obtain ⟨ti, E, ei, h1, h2, h3, h4, _⟩ := (ART.of ht).e
 simp [Zcp, h1, h2, h3, h4]⟩
theorem Zzo  {c : GV}   (ht : RF (arB tab t 2 = true)) : IX tab hl t (.g (.box (c :: cs))) (.g (.int kk 1)) (.iptr cs) := ⟨by
 obtain ⟨ti, E, ei, h1, h2, h3, h4, _⟩ := (ART.of ht).e
 simp [Zcp, h1, h2, h3, h4]⟩
structure IDX (tab : Tab) (t : TypeId) (x i v : PV) : Prop where
 e : aIdx tab t x i = some (v, [])
theorem ZxD  {a b : PV}  (ht : RF (arB tab t 2 = true)) : IDX tab t (.agg [a, b]) (.g (.int kk 0)) a := ⟨by
 obtain ⟨ti, E, ei, h1, h2, h3, h4, h5⟩ := (ART.of ht).e
 simp [aIdx, h1, h2, h3, h4, h5]⟩
theorem Zz7  {a b : PV}  (ht : RF (arB tab t 2 = true)) : IDX tab t (.agg [a, b]) (.g (.int kk 1)) b := ⟨by
 obtain ⟨ti, E, ei, h1, h2, h3, h4, h5⟩ := (ART.of ht).e
 simp [aIdx, h1, h2, h3, h4, h5]⟩
theorem ZxW  {a b : GV}  (ht : RF (arB tab t 2 = true)) : IDX tab t (.g (.agg [a, b])) (.g (.int kk 0)) (.g a) := ⟨by
 obtain ⟨ti, E, ei, h1, h2, h3, h4, h5⟩ := (ART.of ht).e
 simp [aIdx, h1, h2, h3, h4, h5]⟩
theorem ZxE  {a b : GV}  (ht : RF (arB tab t 2 = true)) : IDX tab t (.g (.agg [a, b])) (.g (.int kk 1)) (.g b) := ⟨by
 obtain ⟨ti, E, ei, h1, h2, h3, h4, h5⟩ := (ART.of ht).e
 simp [aIdx, h1, h2, h3, h4, h5]⟩
theorem ZzC  {m : Int} (ht : RF (arB tab t 2 = true)) (hm : NU (0 ≤ m ∧ m ≤ 1)) : IDX tab t (.g (.agg [.int .i64 a, .int .i64 b])) (.g (.int kk m)) (.g (.int .i64 (if m = 0 then a else b))) := ⟨by
 obtain ⟨ti, E, ei, h1, h2, h3, h4, h5⟩ := (ART.of ht).e
 have hm := hm.e
 have : m = 0 ∨ m = 1 := by omega
 rcases this with rfl | rfl <;> simp [aIdx, h1, h2, h3, h4, h5]⟩
theorem ZA4  (hd : RF (hasB d n = true)) (hx : EV sl tab 0 x p) (hy : EV sl tab 0 y q) (hv : IDX tab t p q v) (h4 : AF dr P tab ops (i + 1) os n ((d, v) :: sl) hl nx (acc ++ [tcX tab i n sl hl nx ⟨some d, .index t x y, ty, pos, af, none⟩ []]) K) : AF dr P tab ops i (⟨some d, .index t x y, ty, pos, af, none⟩ :: os) n sl hl nx acc K :=
 ZcQ (ws := []) (Zb3 hd) (by simp only [aOp, hx.e, hy.e]; exact hv.e) h4
theorem X_ix  (hd : RF (hasB d n = true)) (hx : EV sl tab 0 x p) (hy : EV sl tab 0 y q) (hv : IX tab hl t p q v) (h4 : AF dr P tab ops (i + 1) os n ((d, v) :: sl) hl nx (acc ++ [tcX tab i n sl hl nx ⟨some d, .indexAddr t x y, ty, pos, af, none⟩ []]) K) : AF dr P tab ops i (⟨some d, .indexAddr t x y, ty, pos, af, none⟩ :: os) n sl hl nx acc K :=
 ZcQ (ws := []) (Zb3 hd) (by simp only [aOp, hx.e, hy.e]; exact hv.e) h4
structure BD (sl : List (Nat × PV)) (tab : Tab) (x : Option Operand) (m : Nat) (v : Int) : Prop where
 e : ∀ n hl nx, bnd (x.map ((mkX n sl hl nx).ev tab 0)) m = some v
theorem Zvt (sl : List (Nat × PV)) (m : Nat) : BD sl tab none m (m : Int) := ⟨fun _ _ _ => rfl⟩
theorem Zwh  {k : IntKind} {v : Int} (h : EV sl tab 0 x (.g (.int k v))) : BD sl tab (some x) m v := ⟨fun _ _ _ => by simp only [Option.map_some, h.e, bnd]⟩
structure SLI (sl : List (Nat × PV)) (tab : Tab) (hl : List (Nat × Block)) (t : TypeId) (x : PV) (lo hi : Option Operand) (v : PV) : Prop where
 e : ∀ n nx, Zgl tab (ZaZ hl) t x (lo.map ((mkX n sl hl nx).ev tab 0)) (hi.map ((mkX n sl hl nx).ev tab 0)) = some (v, [])
theorem ZuF  {e : Nat} {l0 len : Nat}    {l : Int} (ht : SLT tab t E e) (hb : HL hl id (.arr (e + 1) dp xs)) (h5 : BD sl tab lo 0 l) (h6 : BD sl tab hi len u) (hn : NU (0 ≤ l ∧ l ≤ u ∧ u ≤ (len : Int))) : SLI sl tab hl t (.own id l0 len) lo hi (.own id (l0 + l.toNat) (u.toNat - l.toNat)) := ⟨fun n nx => by
 obtain ⟨ti, ei, h1, h2, h3, h4⟩ := ht.h
 simp only [Zgl, h1, h2, h3, h4, hb.e, h5.e n hl nx, h6.e n hl nx, hn.e, and_self, if_true]⟩
structure CUG' (xs : List GV) (l u : Int) (ys : List GV) : Prop where
 e : (xs.drop l.toNat).take (u.toNat - l.toNat) = ys
 l : 0 ≤ l ∧ l ≤ u ∧ u ≤ (xs.length : Int)
def CUG (xs : List GV) (l u : Int) (ys : List GV) : Prop := CUG' xs l u ys
theorem CUG.mk  {l : Int}  (h : CUG' xs l u ys) : CUG xs l u ys := h
theorem CUG.e {xs : List GV} {l u : Int} {ys : List GV} (h : CUG xs l u ys) : (xs.drop l.toNat).take (u.toNat - l.toNat) = ys := @CUG'.e _ _ _ _ h
theorem CUG.l {xs : List GV} {l u : Int} {ys : List GV} (h : CUG xs l u ys) : 0 ≤ l ∧ l ≤ u ∧ u ≤ (xs.length : Int) := @CUG'.l _ _ _ _ h
theorem ZsH  {f : α → GV} {ys : List α}  (h : NU (0 ≤ u ∧ u ≤ (ys.length : Int))) : CUG (ys.map f) 0 u ((ys.take u.toNat).map f) := CUG.mk ⟨by simp [List.map_take], by have := h.e; simp; omega⟩
theorem ZlT  {f : α → GV} {ys : List α} {l : Int} {u : Nat} (h : NU (0 ≤ l ∧ l ≤ (ys.length : Int))) (hu : u = (ys.map f).length) : CUG (ys.map f) l (u : Int) ((ys.drop l.toNat).map f) := CUG.mk ⟨by
 subst hu
 rw [List.map_drop, List.take_of_length_le (by simp)], by have := h.e; subst hu; simp; omega⟩
theorem ZqY  {f : α → GV} {ys : List α} {l : Int} (h : NU (0 ≤ l ∧ l ≤ u ∧ u ≤ (ys.length : Int))) : CUG (ys.map f) l u (((ys.drop l.toNat).take (u.toNat - l.toNat)).map f) := CUG.mk ⟨by rw [List.map_take, List.map_drop], by have := h.e; simp; omega⟩
theorem Zw6  {l : Int} (h : NU (0 ≤ l ∧ l ≤ u ∧ u ≤ (xs.length : Int))) : CUG xs l u ((xs.drop l.toNat).take (u.toNat - l.toNat)) := CUG.mk ⟨rfl, h.e⟩
theorem ZAF  {e : Nat}   {l : Int} (ht : SLT tab t E e) (h5 : BD sl tab lo 0 l) (h6 : BD sl tab hi xs.length u) (hn : CUG xs l u ys) : SLI sl tab hl t (.g (.sl (e + 1) xs)) lo hi (.g (.sl (e + 1) ys)) := ⟨fun n nx => by
 obtain ⟨ti, ei, h1, h2, h3, h4⟩ := ht.h
 simp only [Zgl, h1, h2, h3, h4, h5.e n hl nx, h6.e n hl nx, hn.l, and_self, if_true, hn.e]⟩
theorem ZuG  (hd : RF (hasB d n = true)) (hx : EV sl tab 0 x p) (hv : SLI sl tab hl t p lo hi v) (h4 : AF dr P tab ops (i + 1) os n ((d, v) :: sl) hl nx (acc ++ [tcX tab i n sl hl nx ⟨some d, .slice t x lo hi none, ty, pos, af, none⟩ []]) K) : AF dr P tab ops i (⟨some d, .slice t x lo hi none, ty, pos, af, none⟩ :: os) n sl hl nx acc K :=
 ZcQ (ws := []) (Zb3 hd) (by simp only [aOp, hx.e]; exact hv.e n nx) h4
end
end Go.Proofs.YtabfpoflhacknaaGreat
namespace Go.Proofs.YtabfpoflhacknaaGreat
open Go.RowKit
open Shp
variable {j k id lo E t nid m off kk e' g : Nat} {B : Block} {ks : List Nat} {vs : List (Nat × PV)} {v r z : GV} {dp ds dd c ag : Bool} {xs ys gs gs' : List GV} {ps cs qs cs' caps : List PV} {x y : Operand} {ti ei : TI} {ts : List TypeId} {f fid : FuncId} {hl' hl1 h0 : List (Nat × Block)} {q : PV} {tys : Array TypeId} {α : Type} {dst : Option Nat} {is : List (List Nat)} {op : Op}
section
variable {tab : Tab} {sl : List (Nat × PV)} {hl : List (Nat × Block)}
theorem Zt2  (h : HL hl j B) : HL (ZbO [] hl) j B := h
theorem Zsb  (h : HL (ZbO ks ((k, .dead) :: hl)) j B) : HL (ZbO (k :: ks) hl) j B := h
theorem Zmc : ∀ (ws vs : List Nat) (hl : List (Nat × Block)), ZbO (ws ++ vs) hl = ZbO vs (ZbO ws hl)
 | [], _, _ => rfl
 | w :: ws, vs, hl => Zmc ws vs ((w, .dead) :: hl)
theorem ZsW  {ws vs : List Nat}  (h : HL (ZbO vs (ZbO ws hl)) j B) : HL (ZbO (ws ++ vs) hl) j B := by rw [Zmc]; exact h
structure AND (a b c : Bool) : Prop where
 e : (a && b) = c
theorem ZyH : AND true true true := ⟨rfl⟩
theorem ZAJ (b : Bool) : AND false b false := ⟨rfl⟩
theorem ZyW : AND true false false := ⟨rfl⟩
theorem ZBz (b : Bool) : AND true b b := ⟨rfl⟩
structure AB (hl : List (Nat × Block)) (p : PV) (x : GV) (ks : List Nat) (d : Bool) : Prop where
 e : Zbq (ZaZ hl) p = some (x, ks, d)
theorem AB_g  {b : Bool} (hf : RF (v.flat = b)) : AB hl (.g v) v [] b := ⟨by simp only [Zbq, hf.e]⟩
theorem ZBn (k : IntKind) (n : Int) : AB hl (.g (.int k n)) (.int k n) [] true := AB_g (RF.mk rfl)
theorem ZBu (b : Bool) : AB hl (.g (.bool b)) (.bool b) [] true := AB_g (RF.mk rfl)
theorem ZAw (b : ByteArray) : AB hl (.g (.str b)) (.str b) [] true := AB_g (RF.mk rfl)
theorem ZBq (e : Nat) (xs : List GV) : AB hl (.g (.sl e xs)) (.sl e xs) [] false := AB_g (RF.mk rfl)
theorem Zql (e : Nat) : AB hl (.nils (e + 1)) (.sl (e + 1) []) [] true := ⟨by simp [Zbq]⟩
theorem Zuf {len e : Nat}   (hb : HL hl id (.arr e dp xs)) (hc : CUT xs lo len ys) : AB hl (.own id lo len) (.sl e ys) [id] dp := ⟨by
 have h1 := hc.l
 simp only [Zbq, hb.e, h1, if_true, hc.e]⟩
structure ABL (hl : List (Nat × Block)) (ps : List PV) (gs : List GV) (ks : List Nat) (d : Bool) : Prop where
 e : absL Zbq (ZaZ hl) ps = some (gs, ks, d)
theorem Zwu (hl : List (Nat × Block)) : ABL hl [] [] [] true := ⟨rfl⟩
theorem Zsg {p : PV}  {x : GV}  {k : List Nat} {d : Bool} (h1 : AB hl p x k d) (h2 : ABL (ZbO k hl) ps xs ks ds) (h3 : AND d ds dd) : ABL hl (p :: ps) (x :: xs) (k ++ ks) dd := ⟨by
 have h4 := h2.e
 rw [Zfu] at h4
 simp only [absL, h1.e, h4, h3.e]⟩
structure AE (hl : List (Nat × Block)) (p : PV) (x : GV) (ks : List Nat) (d : Bool) : Prop where
 e : absE (ZaZ hl) p = some (x, ks, d)
theorem AE_g  {b : Bool} (hf : RF (v.flat = b)) : AE hl (.g v) v [] b := ⟨(AB_g (hl := hl) hf).e⟩
theorem ZAC (k : IntKind) (n : Int) : AE hl (.g (.int k n)) (.int k n) [] true := AE_g (RF.mk rfl)
theorem ZBl (b : Bool) : AE hl (.g (.bool b)) (.bool b) [] true := AE_g (RF.mk rfl)
theorem ZAx (b : ByteArray) : AE hl (.g (.str b)) (.str b) [] true := AE_g (RF.mk rfl)
theorem ZAG (e : Nat) (xs : List GV) : AE hl (.g (.sl e xs)) (.sl e xs) [] false := AE_g (RF.mk rfl)
structure ALLA (gs : List GV) (b : Bool) : Prop where
 e : gs.all GV.atom = b
theorem Zso : ALLA [] true := ⟨rfl⟩
theorem ZtA {k : IntKind} {n : Int}  {b : Bool} (h : ALLA gs b) : ALLA (.int k n :: gs) b := ⟨by have := h.e; simpa [GV.atom] using this⟩
theorem ZqM {n : Bool}  {b : Bool} (h : ALLA gs b) : ALLA (.bool n :: gs) b := ⟨by have := h.e; simpa [GV.atom] using this⟩
theorem Zs3 {n : ByteArray}  {b : Bool} (h : ALLA gs b) : ALLA (.str n :: gs) b := ⟨by have := h.e; simpa [GV.atom] using this⟩
theorem Zxk {e : Nat}  : ALLA (.sl e xs :: gs) false := ⟨by simp [GV.atom]⟩
theorem ZAN  {b : Bool} (h : ALLA gs b) : AE hl (.g (.agg gs)) (.agg gs) [] b := AE_g (RF.mk h.e)
theorem Zww (e : Nat) : AE hl (.nils (e + 1)) (.sl (e + 1) []) [] true := ⟨(Zql (hl := hl) e).e⟩
theorem ZAf {len e : Nat}   (hb : HL hl id (.arr e dp xs)) (hc : CUT xs lo len ys) : AE hl (.own id lo len) (.sl e ys) [id] dp := ⟨(Zuf hb hc).e⟩
theorem ZAk  {d : Bool} (h : ABL hl cs gs ks d) (hn : RF ((gs.all fun x => x.ncells == 1) = true)) : AE hl (.agg cs) (.agg gs) ks d := ⟨by simp only [absE, h.e, hn.e, if_true]⟩
structure AEL (hl : List (Nat × Block)) (ps : List PV) (gs : List GV) (ks : List Nat) (d : Bool) : Prop where
 e : absL absE (ZaZ hl) ps = some (gs, ks, d)
theorem Zvg (hl : List (Nat × Block)) : AEL hl [] [] [] true := ⟨rfl⟩
theorem Ztk {p : PV}  {x : GV}  {k : List Nat} {d : Bool} (h1 : AE hl p x k d) (h2 : AEL (ZbO k hl) ps xs ks ds) (h3 : AND d ds dd) : AEL hl (p :: ps) (x :: xs) (k ++ ks) dd := ⟨by
 have h4 := h2.e
 rw [Zfu] at h4
 simp only [absL, h1.e, h4, h3.e]⟩
structure EVP (sl : List (Nat × PV)) (tab : Tab) (E : TypeId) (xs : List (Nat × Operand)) (ps : List PV) : Prop where
 e : ∀ n hl nx, (xs.map fun (x : Nat × Operand) => (mkX n sl hl nx).ev tab E x.2) = ps
theorem Zw2 (sl : List (Nat × PV)) (tab : Tab) (E : TypeId) : EVP sl tab E [] [] := ⟨fun _ _ _ => rfl⟩
theorem Zt3 {E : TypeId}   {xs : List (Nat × Operand)} {p : PV}  (h1 : EV sl tab E x p) (h2 : EVP sl tab E xs ps) : EVP sl tab E ((j, x) :: xs) (p :: ps) := ⟨fun n hl nx => by simp only [List.map_cons, h1.e, h2.e]⟩
structure EVF (sl : List (Nat × PV)) (tab : Tab) (ti : TI) (xs : List (Nat × Operand)) (ps : List (Nat × PV)) : Prop where
 e : ∀ n hl nx, (xs.map fun (x : Nat × Operand) => (x.1, (mkX n sl hl nx).ev tab (Zgy ti x.1) x.2)) = ps
theorem Zvh (sl : List (Nat × PV)) (tab : Tab) (ti : TI) : EVF sl tab ti [] [] := ⟨fun _ _ _ => rfl⟩
theorem ZsJ  {xs : List (Nat × Operand)} {p : PV} {ps : List (Nat × PV)} (h1 : EV sl tab (Zgy ti j) x p) (h2 : EVF sl tab ti xs ps) : EVF sl tab ti ((j, x) :: xs) ((j, p) :: ps) := ⟨fun n hl nx => by simp only [List.map_cons, h1.e, h2.e]⟩
structure ARG (sl : List (Nat × PV)) (tab : Tab) (xs : List Operand) (ts : List TypeId) (ps : List PV) : Prop where
 e : ∀ n hl nx, (mkX n sl hl nx).args tab xs ts = ps
theorem ZvJ (sl : List (Nat × PV)) (tab : Tab) (ts : List TypeId) : ARG sl tab [] ts [] := ⟨fun _ _ _ => ZxX _ _ _⟩
theorem Ztg  {xs : List Operand} {t : TypeId}  {p : PV}  (h1 : EV sl tab t x p) (h2 : ARG sl tab xs ts ps) : ARG sl tab (x :: xs) (t :: ts) (p :: ps) := ⟨fun _ _ _ => ZuR (h1.e _ _ _) (h2.e _ _ _)⟩
theorem Zr2  {xs : List Operand} {p : PV}  (h1 : EV sl tab 0 x p) (h2 : ARG sl tab xs [] ps) : ARG sl tab (x :: xs) [] (p :: ps) := ⟨fun _ _ _ => Zsc (h1.e _ _ _) (h2.e _ _ _)⟩
structure VW (hl : List (Nat × Block)) (n : Nat) (p : PV) (x : GV) : Prop where
 e : view (ZaZ hl) n p = some x
structure VWL (hl : List (Nat × Block)) (n : Nat) (ps : List PV) (xs : List GV) : Prop where
 e : ZbN (view (ZaZ hl) n) ps = some xs
theorem Zwa (hl : List (Nat × Block)) (n : Nat) : VWL hl n [] [] := ⟨rfl⟩
theorem Zsy {n : Nat} {p : PV}  {x : GV}  (h1 : VW hl n p x) (h2 : VWL hl n ps xs) : VWL hl n (p :: ps) (x :: xs) := ⟨ZnI h1.e h2.e⟩
theorem VW_g (hl : List (Nat × Block)) (n : Nat) (v : GV) : VW hl (n + 1) (.g v) v := ⟨rfl⟩
theorem Zvi (hl : List (Nat × Block)) (n e : Nat) : VW hl (n + 1) (.nils (e + 1)) (.sl (e + 1) []) := ⟨Zwq rfl⟩
theorem Zzt {n len e : Nat}   (hb : HL hl id (.arr e dp xs)) (hc : CUT xs lo len ys) : VW hl (n + 1) (.own id lo len) (.sl e ys) := ⟨by rw [ZxG hb.e hc.l, hc.e]⟩
theorem Zyo {n : Nat}   (hb : HL hl id (.box cs)) (hv : VWL hl n cs gs) (ha : RF ((gs.all fun x => x.ncells == 1) = true)) : VW hl (n + 1) (.ptr id 0) (.box gs) := ⟨Zy7 hb.e hv.e ha.e⟩
theorem Zxm {n : Nat}   (hv : VWL hl n cs gs) (ha : RF ((gs.all fun x => x.ncells == 1) = true)) : VW hl (n + 1) (.agg cs) (.agg gs) := ⟨Zzq hv.e ha.e⟩
theorem ZAV {n : Nat}    (hv : VWL hl n cs gs) : VW hl (n + 1) (.fn f cs) (.fn f gs) := ⟨ZBj hv.e⟩
structure FN (sl : List (Nat × PV)) (tab : Tab) (x : Operand) (f : FuncId) (caps : List PV) : Prop where
 e : ∀ n hl nx, asFn ((mkX n sl hl nx).ev tab 0 x) = some (f, caps)
theorem Zwx (sl : List (Nat × PV)) (tab : Tab) (f : FuncId) : FN sl tab (.func f) f [] := ⟨fun _ _ _ => rfl⟩
theorem ZyL  {p : PV} (h : SL sl t p) (hp : RF (asFn p = some (f, cs))) : FN sl tab (.tmp t) f cs := ⟨fun n hl nx => by
 have : (mkX n sl hl nx).ev tab 0 (.tmp t) = p := h.e
 rw [this]; exact hp.e⟩
structure FNV (p : PV) (f : FuncId) (caps : List PV) : Prop where
 e : asFn p = some (f, caps)
theorem ZAe (f : FuncId) (cs : List PV) : FNV (.fn f cs) f cs := ⟨rfl⟩
theorem Zzw (f : FuncId) (gs : List GV) : FNV (.g (.fn f gs)) f (gs.map .g) := ⟨rfl⟩
theorem ZzX  {p : PV} (h : SL sl t p) (hp : FNV p f cs) : FN sl tab (.tmp t) f cs := ZyL h (RF.mk hp.e)
structure RES (nid : Nat) (r : GV) (hl : List (Nat × Block)) (pv : PV) (hl' : List (Nat × Block)) : Prop where
 lf : (ZaP r).all GV.leaf = true
 l8 : (ZaP r).length ≤ 8
 fr : ∀ j, j < (ZaP r).length → ZaZ hl (nid + j) = .free
 pv : Zf9 nid r = pv
 hl : ZfG (ZbD nid (ZaP r)) hl = hl'
structure RSL (nid : Nat) (gs : List GV) (hl : List (Nat × Block)) (ps : List PV) (hl' : List (Nat × Block)) : Prop where
 lf : gs.all GV.leaf = true
 fr : ∀ j, j < gs.length → ZaZ hl (nid + j) = .free
 pv : ZgD nid gs = ps
 hl : ZfG (ZbD nid gs) hl = hl'
theorem Zjw (nid : Nat) (hl : List (Nat × Block)) : RSL nid [] hl [] hl := ⟨rfl, by simp, rfl, rfl⟩
theorem Zll  {x : GV}    (ha : x.atom = true) (hf : HL hl nid .free) (h : RSL (nid + 1) gs hl ps hl') : RSL nid (x :: gs) hl (.g x :: ps) hl' := by
 have e1 : ZfK nid x = .g x := by cases x <;> simp_all [GV.atom, ZfK]
 have e2 : Zd2 x = none := by cases x <;> simp_all [GV.atom, Zd2]
 have e3 : x.leaf = true := by cases x <;> simp_all [GV.atom, GV.leaf]
 refine ⟨by simp [e3, h.lf], fun j hj => ?_, by simp [ZgD, e1, h.pv], by simp [ZbD, e2, h.hl]⟩
 cases j with
 | zero => exact hf.e
 | succ j => have := h.fr j (by simpa using hj); rw [show nid + (j + 1) = nid + 1 + j by omega]; exact this
theorem Zqn  {k : IntKind} {m : Int}    (hf : HL hl nid .free) (h : RSL (nid + 1) gs hl ps hl') : RSL nid (.int k m :: gs) hl (.g (.int k m) :: ps) hl' := Zll rfl hf h
theorem Zoe  {b : Bool}    (hf : HL hl nid .free) (h : RSL (nid + 1) gs hl ps hl') : RSL nid (.bool b :: gs) hl (.g (.bool b) :: ps) hl' := Zll rfl hf h
theorem Zqo  {s : ByteArray}    (hf : HL hl nid .free) (h : RSL (nid + 1) gs hl ps hl') : RSL nid (.str s :: gs) hl (.g (.str s) :: ps) hl' := Zll rfl hf h
theorem Zuo {e : Nat}    (hf : HL hl nid .free) (hm : LEN xs m) (h : RSL (nid + 1) gs ((nid, .arr e true xs) :: hl) ps hl') : RSL nid (.sl e xs :: gs) hl (.own nid 0 m :: ps) hl' := by
 refine ⟨by rw [List.all_cons, h.lf]; rfl, fun j hj => ?_, by simp [ZgD, ZfK, h.pv, hm.e], by have := h.hl; simpa [ZbD, Zd2, ZfG] using this⟩
 cases j with
 | zero => exact hf.e
 | succ j =>
  have := h.fr j (by simpa using hj)
  rw [show nid + (j + 1) = nid + 1 + j by omega]
  simp only [ZaZ] at this
  rwa [if_neg (by omega)] at this
theorem Zk1  (ha : r.atom = true) (hf : HL hl nid .free) : RES nid r hl (.g r) hl := by
 have e1 : ZaP r = [r] := by cases r <;> simp_all [GV.atom, ZaP, GV.leaves]
 have e2 : ZbD nid (ZaP r) = [] := by rw [e1]; cases r <;> simp_all [GV.atom, ZbD, Zd2]
 have e3 : Zf9 nid r = .g r := by cases r <;> simp_all [GV.atom, Zf9, Zic, ZfK]
 have e4 : r.leaf = true := by cases r <;> simp_all [GV.atom, GV.leaf]
 refine ⟨by rw [e1]; simp [e4], by rw [e1]; simp, fun j hj => ?_, e3, by rw [e2]; rfl⟩
 rw [e1] at hj
 have : j = 0 := by simpa using hj
 subst this; exact hf.e
theorem Zxc  {k : IntKind} {m : Int} (hf : HL hl nid .free) : RES nid (.int k m) hl (.g (.int k m)) hl := Zk1 rfl hf
theorem ZtB  {b : Bool} (hf : HL hl nid .free) : RES nid (.bool b) hl (.g (.bool b)) hl := Zk1 rfl hf
theorem ZvO  {s : ByteArray} (hf : HL hl nid .free) : RES nid (.str s) hl (.g (.str s)) hl := Zk1 rfl hf
theorem ZzW {e : Nat}  (hf : HL hl nid .free) (hm : LEN xs m) : RES nid (.sl e xs) hl (.own nid 0 m) ((nid, .arr e true xs) :: hl) := by
 refine ⟨rfl, by simp [ZaP, GV.leaves], fun j hj => ?_, by simp [Zf9, Zic, ZfK, hm.e], rfl⟩
 simp [ZaP, GV.leaves] at hj
 subst hj; exact hf.e
theorem Zvm  (h : RSL nid gs hl ps hl') (h8 : RF (Nat.ble gs.length 8 = true)) : RES nid (.agg gs) hl (.agg ps) hl' :=
 ⟨h.lf, Nat.le_of_ble_eq_true h8.e, h.fr, by simp only [Zf9, Zic, h.pv], h.hl⟩
structure RTL (nid : Nat) (cs : List GV) (hl : List (Nat × Block)) (ps : List PV) (hl' : List (Nat × Block)) : Prop where
 lf : (Za8 cs).all GV.leaf = true
 fr : ∀ j, j < (Za8 cs).length → ZaZ hl (nid + j) = .free
 pv : Zmz nid cs = ps
 hl : ZfG (ZbD nid (Za8 cs)) hl = hl'
theorem Zmt : ∀ (xs ys : List GV) (k : Nat), ZbD k (xs ++ ys) = ZbD k xs ++ ZbD (k + xs.length) ys
 | [], ys, k => rfl
 | x :: xs, ys, k => by simp only [List.cons_append, ZbD, Zmt xs ys (k + 1), List.append_assoc, List.length_cons]; rw [Nat.add_assoc, Nat.add_comm 1]
theorem Zff : ∀ (gs : List GV) (k : Nat) (hl : List (Nat × Block)) (j : Nat), k + gs.length ≤ j → ZaZ (ZfG (ZbD k gs) hl) j = ZaZ hl j
 | [], _, _, _, _ => rfl
 | x :: xs, k, hl, j, hj => by
  simp only [List.length_cons] at hj
  simp only [ZbD, Zdl]
  rw [Zff xs (k + 1) _ j (by omega)]
  cases Zd2 x with
  | none => rfl
  | some b => simp only [ZfG, ZaZ]; rw [if_neg (by omega)]
theorem Zwc (nid : Nat) (hl : List (Nat × Block)) : RTL nid [] hl [] hl := ⟨rfl, by simp [Za8], rfl, rfl⟩
theorem ZgE  {c : GV} {cs : List GV} {p : PV}   (hc : c.leaves = gs) (hp : Zic nid c = p) (h1 : RSL nid gs hl qs hl1) (hm : gs.length = m) (h : RTL (nid + m) cs hl1 ps hl') : RTL nid (c :: cs) hl (p :: ps) hl' := by
 subst hm
 have h2 := h1.hl
 refine ⟨by simp only [Za8, hc, List.all_append, h1.lf, h.lf, Bool.and_self], fun j hj => ?_, by simp only [Zmz, hp, hc, h.pv], by simp only [Za8, hc, Zmt, Zdl, h2, h.hl]⟩
 simp only [Za8, hc, List.length_append] at hj
 by_cases hlt : j < gs.length
 ·exact h1.fr j hlt
 ·have := h.fr (j - gs.length) (by omega)
  rw [← h2, Zff _ _ _ _ (by omega)] at this
  rwa [show nid + gs.length + (j - gs.length) = nid + j by omega] at this
theorem Zw1  {k : IntKind} {m : Int}    (hf : HL hl nid .free) (h : RTL (nid + 1) gs hl ps hl') : RTL nid (.int k m :: gs) hl (.g (.int k m) :: ps) hl' :=
 ZgE (gs := [.int k m]) rfl rfl (Zqn hf (Zjw _ _)) rfl h
theorem ZtT  {b : Bool}    (hf : HL hl nid .free) (h : RTL (nid + 1) gs hl ps hl') : RTL nid (.bool b :: gs) hl (.g (.bool b) :: ps) hl' :=
 ZgE (gs := [.bool b]) rfl rfl (Zoe hf (Zjw _ _)) rfl h
theorem Zwt  {s : ByteArray}    (hf : HL hl nid .free) (h : RTL (nid + 1) gs hl ps hl') : RTL nid (.str s :: gs) hl (.g (.str s) :: ps) hl' :=
 ZgE (gs := [.str s]) rfl rfl (Zqo hf (Zjw _ _)) rfl h
theorem ZyS {e : Nat}    (hf : HL hl nid .free) (hm : LEN xs m) (h : RTL (nid + 1) gs ((nid, .arr e true xs) :: hl) ps hl') : RTL nid (.sl e xs :: gs) hl (.own nid 0 m :: ps) hl' :=
 ZgE (gs := [.sl e xs]) rfl (by simp [Zic, ZfK, hm.e]) (Zuo hf hm (Zjw _ _)) rfl h
theorem ZwI  (h1 : RSL nid xs hl qs hl1) (hm : RF (xs.length = m)) (h : RTL (nid + m) gs hl1 ps hl') : RTL nid (.agg xs :: gs) hl (.agg qs :: ps) hl' :=
 ZgE (gs := xs) rfl (by simp only [Zic, h1.pv]) h1 hm.e h
theorem ZuV  {cs : List GV}   (h : RTL nid cs hl ps hl') (h8 : RF (Nat.ble (Za8 cs).length 8 = true)) : RES nid (.tup cs) hl (.tup ps) hl' :=
 ⟨h.lf, Nat.le_of_ble_eq_true h8.e, h.fr, by simp only [Zf9, h.pv], h.hl⟩
end
section
variable {dr : Bool} {P : Program} {tab : Tab} {ops : Array Oper} {i : Nat} {os : List Oper} {acc : List (List Nat × List Nat)} {K : AState → List (List Nat × List Nat) → Prop}
variable {ty : TypeId} {pos : String} {af : Array Edge} {n nx d : Nat} {sl : List (Nat × PV)} {hl : List (Nat × Block)}
def DEC (p : Prop) : Prop := p
theorem DEC.mk {p : Prop} (h : p) : DEC p := h
theorem DEC.e {p : Prop} (h : DEC p) : p := h
structure SW (tab : Tab) (nid : Nat) (hl : List (Nat × Block)) (t : TypeId) (p v : PV) (ws hl' : List (Nat × Block)) : Prop where
 e : ZeZ tab nid (ZaZ hl) t p v = some (.none_, ws)
 h : ZfG ws hl = hl'
theorem Zx1  {t : TypeId}  {sz : Nat}  {p : PV} (hb : HL hl id (.box cs)) (hp : CP p ps) (ht : RF (tab t = some ti ∧ ti.size = sz)) (hs : RF (ps.length = sz)) (hc : SetL cs off ps cs') : SW tab nid hl t (.ptr id off) p [(id, .box cs')] ((id, .box cs') :: hl) := ⟨(Zzj hb hp ht hs hc).e, rfl⟩
theorem ZzV  {t : TypeId}     {kk : IntKind} {m : Int} (hb : HL hl id (.arr 1 dp xs)) (ht : RF (tab t = some ti ∧ ti.size = 1)) (hf : HL hl nid .free) (hy : PUT xs k (.int kk m) ys) (hk : NU (k < xs.length)) : SW tab nid hl t (.eptr id k 0) (.g (.int kk m)) [(id, .arr 1 dp ys)] ((id, .arr 1 dp ys) :: hl) := ⟨(Zun hb ht (RF.mk rfl) hf hy hk).e, rfl⟩
theorem ZvB  {t : TypeId}     {m : Bool} (hb : HL hl id (.arr 1 dp xs)) (ht : RF (tab t = some ti ∧ ti.size = 1)) (hf : HL hl nid .free) (hy : PUT xs k (.bool m) ys) (hk : NU (k < xs.length)) : SW tab nid hl t (.eptr id k 0) (.g (.bool m)) [(id, .arr 1 dp ys)] ((id, .arr 1 dp ys) :: hl) := ⟨(Zun hb ht (RF.mk rfl) hf hy hk).e, rfl⟩
theorem Zzr  {t : TypeId}  {e : Nat} {d : Bool}   {x : GV}  (hb : HL hl id (.arr e dp xs)) (ht : RF (tab t = some ti ∧ ti.size = e)) (hf : HL hl nid .free) (ha : AE hl q x ks d) (hn : RF (x.ncells = e ∧ x.isTup = false)) (hks : DEC (id ∉ ks)) (hd : AND dp d dd) (hy : PUT xs k x ys) (hk : NU (k < xs.length)) : SW tab nid hl t (.eptr id k 0) q (ZeS ks ++ [(id, .arr e dd ys)]) ((id, .arr e dd ys) :: ZbO ks hl) := ⟨by
 obtain ⟨h1, h2⟩ := ht.e
 obtain ⟨h3, h4⟩ := hn.e
 have h5 : k < xs.length := hk
 have h6 : id ∉ ks := hks
 subst h2
 simp only [ZeZ, h1, hb.e, h5, hf.e, Zcy, and_self, if_true, ha.e, h3, h4, h6, not_false_eq_true, hd.e, hy.e], by rw [Zdl, Zdm]; rfl⟩
theorem Zth {t : TypeId}  {p : PV}  {ws : List (Nat × Block)} (hx : EV sl tab 0 x p) (hy : EV sl tab t y q) (hk : NID (nx + 8 * i) k) (hs : SW tab k hl t p q ws hl') (h4 : AF dr P tab ops (i + 1) os n sl hl' nx (acc ++ [tcX tab i n sl hl nx ⟨none, .store t x y, ty, pos, af, none⟩ (idsW ws)]) K) : AF dr P tab ops i (⟨none, .store t x y, ty, pos, af, none⟩ :: os) n sl hl nx acc K := by
 cases hk.e
 exact ZcQ (dst := none) (pv := .none_) rfl (by simp only [aOp, hx.e, hy.e, ZfS]; exact hs.e) (by rw [hs.h]; exact h4)
structure FIL (Za5 : Nat → Option (Nat × Nat)) (cs : List PV) (ps : List (Nat × PV)) (cs' : List PV) : Prop where
 e : ZkJ Za5 cs ps = some cs'
theorem Zvj (Za5 : Nat → Option (Nat × Nat)) (cs : List PV) : FIL Za5 cs [] cs := ⟨rfl⟩
theorem Zt9 {Za5 : Nat → Option (Nat × Nat)} {cs1 : List PV} {sz : Nat} {p : PV} {ps : List (Nat × PV)} (h1 : RF (Za5 j = some (off, sz))) (hp : CP p qs) (hs : RF (qs.length = sz)) (hc : SetL cs off qs cs1) (h : FIL Za5 cs1 ps cs') : FIL Za5 cs ((j, p) :: ps) cs' := ⟨by
 have h2 := hc.l
 rw [hs.e] at h2
 simp only [ZkJ, h1.e, hp.v, hp.e, hs.e, Bool.true_and, beq_self_eq_true]
 rw [if_pos (by simpa using h2), hc.e, h.e]⟩
theorem Zvv {t : TypeId} {xs : List (Nat × Operand)}  {fs : List (Nat × TypeId)} {pl : List (Nat × Nat)}   (hd : RF (hasB d n = true)) (ht : RF (tab t = some ti ∧ ti.kind = .st fs ∧ ZdH tab fs = some pl)) (hx : EVF sl tab ti xs vs) (hv : FIL (pl[·]?) ti.zero vs cs')
  (h4 : AF dr P tab ops (i + 1) os n ((d, .agg cs') :: sl) hl nx (acc ++ [tcX tab i n sl hl nx ⟨some d, .build t xs.toArray, ty, pos, af, none⟩ []]) K) : AF dr P tab ops i (⟨some d, .build t xs.toArray, ty, pos, af, none⟩ :: os) n sl hl nx acc K :=
 ZcQ (ws := []) (Zb3 hd) (by
  obtain ⟨h1, h2, h3⟩ := ht.e
  have h5 := hx.e n hl nx
  simp only [aOp, h1, h5, Zmy, h2, h3, hv.e]) h4
theorem ZtF {t : TypeId} {xs : List (Nat × Operand)}     (hd : RF (hasB d n = true)) (ht : RF (tab t = some ti ∧ ti.kind = .ar m E ∧ tab E = some ei ∧ ei.size = 1)) (hx : EVF sl tab ti xs vs) (hv : FIL (fun i => some (i, 1)) ti.zero vs cs')
  (h4 : AF dr P tab ops (i + 1) os n ((d, .agg cs') :: sl) hl nx (acc ++ [tcX tab i n sl hl nx ⟨some d, .build t xs.toArray, ty, pos, af, none⟩ []]) K) : AF dr P tab ops i (⟨some d, .build t xs.toArray, ty, pos, af, none⟩ :: os) n sl hl nx acc K :=
 ZcQ (ws := []) (Zb3 hd) (by
  obtain ⟨h1, h2, h3, h6⟩ := ht.e
  have h5 := hx.e n hl nx
  simp only [aOp, h1, h5, Zmy, h2, h3, h6, Nat.mul_one, hv.e]) h4
theorem ZBh  {t : TypeId} {len : Nat} {xs : List (Nat × Operand)} {e : Nat}     (hd : RF (hasB d n = true)) (hE : SLT tab t E e) (hk : NID (nx + 8 * i) k) (hf : HL hl k .free) (hi : RF (xs.map (·.1) = List.range len)) (hs : RF (Nat.ble (len * (e + 1)) 16777216 = true)) (hx : EVP sl tab E xs ps) (ha : AEL hl ps gs ks dp) (hg : RF ((gs.all (fun x => x.ncells == e + 1 && !x.isTup)) = true))
  (h4 : AF dr P tab ops (i + 1) os n ((d, .own k 0 len) :: sl) ((k, .arr (e + 1) dp gs) :: ZbO ks hl) nx (acc ++ [tcX tab i n sl hl nx ⟨some d, .buildSlice t len xs.toArray, ty, pos, af, none⟩ (idsW (ZeS ks ++ [(k, .arr (e + 1) dp gs)]))]) K) : AF dr P tab ops i (⟨some d, .buildSlice t len xs.toArray, ty, pos, af, none⟩ :: os) n sl hl nx acc K := by
 cases hk.e
 exact ZcQ (pv := .own (nx + 8 * i) 0 len) (ws := ZeS ks ++ [(nx + 8 * i, .arr (e + 1) dp gs)]) (Zb3 hd) (by
  have hs' := Nat.le_of_ble_eq_true hs.e
  have hx' := hx.e n hl nx
  have hi' : xs.toArray.toList.map (·.1) = List.range len := hi.e
  have ha' : absL absE (ZaZ hl) ps = some (gs, ks, dp) := ha.e
  simp only [aOp, hE.el, aLit, Zc5, ZfS, hf.e, Zcy, true_and]
  rw [if_pos ⟨hi', by omega, hs'⟩]
  show (match absL absE (ZaZ hl) (xs.map _) with | some (gs, ks, d) => _ | none => none) = _
  rw [show (xs.map fun (x : Nat × Operand) => (mkX n sl hl nx).ev tab E x.2) = ps from hx', ha']
  simp only [hg.e, if_true]) (by rw [Zdl, Zdm]; exact h4)
structure RPL (k : Nat) (z : GV) (xs : List GV) : Prop where
 e : List.replicate k z = xs
theorem Zv7 (k : Nat) (kk : IntKind) (m : Int) : RPL k (.int kk m) ((List.replicate k m).map (GV.int kk)) := ⟨by simp⟩
theorem ZtN (k : Nat) (b : Bool) : RPL k (.bool b) ((List.replicate k b).map GV.bool) := ⟨by simp⟩
theorem Zyn (k : Nat) : RPL k (.sl 1 []) ((List.replicate k []).map GV.ints) := ⟨by simp⟩
theorem ZwS (k : Nat) (z : GV) : RPL k z (List.replicate k z) := ⟨rfl⟩
def MZ (tab : Tab) (t e : Nat) (z : GV) : Prop := ∃ E ei, Zcz tab t = some (E, e) ∧ tab E = some ei ∧ ((e = 1 ∧ Zpa ei = some z) ∨ (Zpa ei = none ∧ ∃ gs, Zju ei.zero = some gs ∧ gs.length = e ∧ 0 < e ∧ z = .agg gs))
theorem ZyR  (h1 : Zcz tab t = some (E, 1)) (h2 : tab E = some ei) (h3 : Zpa ei = some z) : MZ tab t 1 z := ⟨E, ei, h1, h2, .inl ⟨rfl, h3⟩⟩
theorem ZBd {e : Nat}   (h1 : Zcz tab t = some (E, e + 1)) (h2 : tab E = some ei) (h3 : Zpa ei = none) (h4 : Zju ei.zero = some gs) (h5 : gs.length = e + 1) : MZ tab t (e + 1) (.agg gs) := ⟨E, ei, h1, h2, .inr ⟨h3, gs, h4, h5, by omega, rfl⟩⟩
theorem ZzD  {t : TypeId}  {e : Nat}  {k k' : IntKind} {a b : Int}  (hd : RF (hasB d n = true)) (hx : EV sl tab 0 x (.g (.int k a))) (hy : EV sl tab 0 y (.g (.int k' b))) (hE : MZ tab t e z) (hk : NID (nx + 8 * i) kk) (hf : HL hl kk .free) (hz : RPL a.toNat z xs) (hn : NU (0 ≤ a ∧ a ≤ b ∧ b ≤ 1099511627776))
  (h4 : AF dr P tab ops (i + 1) os n ((d, .own kk 0 a.toNat) :: sl) ((kk, .arr e true xs) :: hl) nx (acc ++ [tcX tab i n sl hl nx ⟨some d, .makeSlice t x y, ty, pos, af, none⟩ [kk]]) K) : AF dr P tab ops i (⟨some d, .makeSlice t x y, ty, pos, af, none⟩ :: os) n sl hl nx acc K := by
 cases hk.e
 refine ZcQ (pv := .own (nx + 8 * i) 0 a.toNat) (ws := [(nx + 8 * i, .arr e true xs)]) (Zb3 hd) ?_ h4
 have h1 := hn.e
 have h2 := hz.e
 obtain ⟨E, ei, g1, g2, ⟨rfl, g3⟩ | ⟨g3, gs, g4, g5, g6, rfl⟩⟩ := hE
 ·simp only [aOp, hx.e, hy.e, Zkm, Zo8, g1, g2, g3, Zc5, ZfS, hf.e, Zcy, h1, and_self, if_true, h2]
 ·simp only [aOp, hx.e, hy.e, Zkm, Zo8, ZmX, g1, g2, g3, g4, g5, g6, Zc5, ZfS, hf.e, Zcy, h1, and_self, if_true, h2]
structure LN (tab : Tab) (hl : List (Nat × Block)) (t : TypeId) (p : PV) (m : Int) : Prop where
 e : aLen tab (ZaZ hl) t p = some (.g (.int .i64 m), [])
theorem ZAn {e : Nat} {len : Nat}   (ht : SLT tab t E e) (hb : HL hl id (.arr e' dp xs)) : LN tab hl t (.own id lo len) (len : Int) := ⟨by obtain ⟨ti, ei, h1, h2, _⟩ := ht.h; exact Zyd h1 h2 hb.e⟩
theorem LN_g {e : Nat}  (ht : SLT tab t E e) (hm : LEN xs m) : LN tab hl t (.g (.sl e' xs)) (m : Int) := ⟨by obtain ⟨ti, ei, h1, h2, _⟩ := ht.h; rw [ln_g h1 h2, hm.e]⟩
theorem ZAU {e : Nat} {u : Value}  (ht : SLT tab t E e) (hm : LEN xs m) : LN tab hl t (.g (.ex u e' xs)) (m : Int) := ⟨by obtain ⟨ti, ei, h1, h2, _⟩ := ht.h; simp only [aLen, h1, h2, ← hm.e]⟩
theorem Zv0 {e : Nat} (ht : SLT tab t E e) : LN tab hl t (.nils e') 0 := ⟨by obtain ⟨ti, ei, h1, h2, _⟩ := ht.h; exact Zx9 h1 h2⟩
theorem ZAt  {s : ByteArray}  (ht : RF (tab t = some ti ∧ ti.kind = .str)) : LN tab hl t (.g (.str s)) (s.size : Int) := ⟨by simp only [aLen, ht.e.1, ht.e.2]⟩
theorem ZAZ  {a b : Int} (hd : RF (hasB d n = true)) (hx : EV sl tab 0 x (.g (.int .i64 a))) (hy : EV sl tab 0 y (.g (.int .i64 b))) (h4 : AF dr P tab ops (i + 1) os n ((d, .g (.int .i64 (max a b))) :: sl) hl nx (acc ++ [tcX tab i n sl hl nx ⟨some d, .call { callee := .builtin .max, args := #[x, y], argTypes := tys }, ty, pos, af, none⟩ []]) K) : AF dr P tab ops i (⟨some d, .call { callee := .builtin .max, args := #[x, y], argTypes := tys }, ty, pos, af, none⟩ :: os) n sl hl nx acc K :=
 ZcQ (ws := []) (Zb3 hd) (by simp only [aOp, Zmo, hx.e, hy.e, aMM, if_true]) h4
theorem ZBB  {a b : Int} (hd : RF (hasB d n = true)) (hx : EV sl tab 0 x (.g (.int .i64 a))) (hy : EV sl tab 0 y (.g (.int .i64 b))) (h4 : AF dr P tab ops (i + 1) os n ((d, .g (.int .i64 (min a b))) :: sl) hl nx (acc ++ [tcX tab i n sl hl nx ⟨some d, .call { callee := .builtin .min, args := #[x, y], argTypes := tys }, ty, pos, af, none⟩ []]) K) : AF dr P tab ops i (⟨some d, .call { callee := .builtin .min, args := #[x, y], argTypes := tys }, ty, pos, af, none⟩ :: os) n sl hl nx acc K :=
 ZcQ (ws := []) (Zb3 hd) (by simp only [aOp, Zmo, hx.e, hy.e, aMM, Bool.false_eq_true, if_false]) h4
theorem ZA3 {t : TypeId}  {p : PV} {m : Int} (hd : RF (hasB d n = true)) (hx : EV sl tab 0 x p) (hv : LN tab hl t p m) (h4 : AF dr P tab ops (i + 1) os n ((d, .g (.int .i64 m)) :: sl) hl nx (acc ++ [tcX tab i n sl hl nx ⟨some d, .call { callee := .builtin .len, args := #[x], argTypes := #[t] }, ty, pos, af, none⟩ []]) K) : AF dr P tab ops i (⟨some d, .call { callee := .builtin .len, args := #[x], argTypes := #[t] }, ty, pos, af, none⟩ :: os) n sl hl nx acc K :=
 ZcQ (ws := []) (Zb3 hd) (by simp only [aOp, Zmo, hx.e]; exact hv.e) h4
structure SR (hl : List (Nat × Block)) (e : Nat) (p : PV) (ys : List GV) (ks : List Nat) (d : Bool) : Prop where
 e : srcE (ZaZ hl) e p = some (ys, ks, d)
theorem ZvN (e e' : Nat) : SR hl e (.nils e') [] [] true := ⟨rfl⟩
structure FLB (ys : List GV) (b : Bool) : Prop where
 e : ys.all GV.flat = b
theorem Zt7 (k : IntKind) (ys : List Int) : FLB (ys.map (GV.int k)) true := ⟨ZmL k ys⟩
theorem Zrt (ys : List Bool) : FLB (ys.map GV.bool) true := ⟨Zgt fun _ => rfl⟩
theorem ZtD (ys : List ByteArray) : FLB (ys.map GV.str) true := ⟨Zgt fun _ => rfl⟩
theorem ZvW : FLB [] true := ⟨rfl⟩
theorem ZqI {k : IntKind} {n : Int}  {b : Bool} (h : FLB xs b) : FLB (.int k n :: xs) b := ⟨by have := h.e; simpa [GV.flat, GV.atom] using this⟩
theorem Zvr (ys : List GV) : FLB ys (ys.all GV.flat) := ⟨rfl⟩
theorem ZBg {e : Nat}  {b : Bool} (hf : FLB ys b) : SR hl e (.g (.sl e ys)) ys [] b := ⟨ZAD hf.e⟩
structure FLK (ys : List GV) (b : Bool) : Prop where
 e : ys.all GV.flat = b
theorem ZtJ (k : IntKind) (ys : List Int) : FLK (ys.map (GV.int k)) true := ⟨ZmL k ys⟩
theorem Zp0 (ys : List Bool) : FLK (ys.map GV.bool) true := ⟨Zgt fun _ => rfl⟩
theorem ZsV (ys : List ByteArray) : FLK (ys.map GV.str) true := ⟨Zgt fun _ => rfl⟩
theorem Zxg : FLK [] true := ⟨rfl⟩
theorem Zrj {k : IntKind} {n : Int}  {b : Bool} (h : FLK xs b) : FLK (.int k n :: xs) b := ⟨by have := h.e; simpa [GV.flat, GV.atom] using this⟩
theorem Zqe {n : Bool}  {b : Bool} (h : FLK xs b) : FLK (.bool n :: xs) b := ⟨by have := h.e; simpa [GV.flat, GV.atom] using this⟩
theorem Zqr {n : ByteArray}  {b : Bool} (h : FLK xs b) : FLK (.str n :: xs) b := ⟨by have := h.e; simpa [GV.flat, GV.atom] using this⟩
theorem ZyE {e : Nat}  : FLK (.sl e ys :: xs) false := ⟨by simp [GV.flat, GV.atom]⟩
theorem ZtV  {f : α → GV} : FLK (([] : List α).map f) true := ⟨rfl⟩
theorem Zqw  {f : α → GV} {x : α} {xs : List α} (h : RF ((f x).flat = false)) : FLK ((x :: xs).map f) false := ⟨by rw [List.map_cons, List.all_cons, h.e]; rfl⟩
theorem ZwJ  {b : Bool} (h : ALLA ys b) : FLK [.agg ys] b := ⟨by have := h.e; simpa [GV.flat] using this⟩
structure SK (id : Nat) (dp b : Bool) (ks : List Nat) (d : Bool) : Prop where
 e : (if b then (([] : List Nat), true) else ([id], dp)) = (ks, d)
theorem SK_t (id : Nat) (dp : Bool) : SK id dp true [] true := ⟨rfl⟩
theorem SK_f (id : Nat) (dp : Bool) : SK id dp false [id] dp := ⟨rfl⟩
theorem Zyh {len e : Nat} {b d : Bool}   (hb : HL hl id (.arr e dp xs)) (hc : CUT xs lo len ys) (hf : FLK ys b) (hs : SK id dp b ks d) : SR hl e (.own id lo len) ys ks d := ⟨by
 have h1 := hc.l
 have h2 := hf.e
 have h3 := hs.e
 simp only [srcE, hb.e, h1, and_self, if_true, hc.e, h2]
 cases b
 ·simp only [Bool.false_eq_true, if_false, Prod.mk.injEq] at h3 ⊢
  rw [h3.1, h3.2]
 ·simp only [if_true, Prod.mk.injEq] at h3 ⊢
  rw [← h3.1, ← h3.2]⟩
structure DS (hl : List (Nat × Block)) (e : Nat) (p : PV) (xs : List GV) (ks : List Nat) (d : Bool) : Prop where
 e : dstE (ZaZ hl) e p = some (xs, ks, d)
theorem ZvV (e : Nat) : DS hl e (.nils e) [] [] true := ⟨Zvq _ _⟩
theorem ZzY {len e : Nat}   (hb : HL hl id (.arr e dp xs)) (hc : CUT xs lo len ys) : DS hl e (.own id lo len) ys [id] dp := ⟨by
 have h1 := ZwQ hb.e hc.l
 rw [hc.e] at h1; exact h1⟩
theorem ZBo  {t : TypeId}  {e a b : Nat} {px py : PV} {zs : List GV} {ks1 ks2 : List Nat} {d1 d2 : Bool} (hd : RF (hasB d n = true)) (hx : EV sl tab t x px) (hy : EV sl tab t y py) (hE : SLT tab t E e) (hk : NID (nx + 8 * i) kk) (hf : HL hl kk .free) (h5 : SR hl (e + 1) py ys ks2 d2) (h6 : DS (ZbO ks2 hl) (e + 1) px xs ks1 d1) (hz : CAT xs ys zs) (hm : LEN zs m) (hdp : AND d1 d2 dp) (ha : LEN xs a) (hb : LEN ys b) (hl' : NU (a + b ≤ 1099511627776))
  (h4 : AF dr P tab ops (i + 1) os n ((d, .own kk 0 m) :: sl) ((kk, .arr (e + 1) dp zs) :: ZbO ks1 (ZbO ks2 hl)) nx (acc ++ [tcX tab i n sl hl nx ⟨some d, .call { callee := .builtin .append, args := #[x, y], argTypes := #[t, t] }, ty, pos, af, none⟩ (idsW (ZeS ks2 ++ (ZeS ks1 ++ [(kk, .arr (e + 1) dp zs)])))]) K) : AF dr P tab ops i (⟨some d, .call { callee := .builtin .append, args := #[x, y], argTypes := #[t, t] }, ty, pos, af, none⟩ :: os) n sl hl nx acc K := by
 cases hk.e
 have e1 : m = xs.length + ys.length := by rw [← hm.e, ← hz.e]; simp
 have e2 := hz.e
 subst e1
 refine ZcQ (ws := ZeS ks2 ++ (ZeS ks1 ++ [(nx + 8 * i, .arr (e + 1) dp zs)])) (pv := .own (nx + 8 * i) 0 (xs.length + ys.length)) (Zb3 hd) ?_ (by rw [Zdl, Zdm, Zdl, Zdm]; exact h4)
 have h7 : dstE (killL (ZaZ hl) ks2) (e + 1) px = some (xs, ks1, d1) := by rw [← Zfu]; exact h6.e
 have h8 := hl'.e
 have h9 : srcE (ZaZ hl) (e + 1) py = some (ys, ks2, d2) := h5.e
 rw [← ha.e, ← hb.e] at h8
 simp only [aOp, Zmo, if_true, aApp, hx.e, hy.e, hE.el, Zc5, ZfS, hf.e, Zcy]
 rw [if_pos ⟨trivial, by omega⟩]
 show (match srcE (ZaZ hl) (e + 1) py with | some (ys, ks2, d2) => _ | none => none) = _
 rw [h9]
 show (match dstE (killL (ZaZ hl) ks2) (e + 1) px with | some (xs, ks1, d1) => _ | none => none) = _
 rw [h7]
 simp only [h8, if_true, hdp.e, e2]
structure EVL (sl : List (Nat × PV)) (tab : Tab) (xs : List Operand) (ps : List PV) : Prop where
 e : ∀ n hl nx, xs.map ((mkX n sl hl nx).ev tab 0) = ps
theorem ZwR (sl : List (Nat × PV)) (tab : Tab) : EVL sl tab [] [] := ⟨fun _ _ _ => rfl⟩
theorem Zua  {xs : List Operand} {p : PV}  (h1 : EV sl tab 0 x p) (h2 : EVL sl tab xs ps) : EVL sl tab (x :: xs) (p :: ps) := ⟨fun n hl nx => by simp only [List.map_cons, h1.e, h2.e]⟩
theorem ZA5  {cs : List Operand}  (hd : RF (hasB d n = true)) (hx : EVL sl tab cs ps) (h4 : AF dr P tab ops (i + 1) os n ((d, .fn f ps) :: sl) hl nx (acc ++ [tcX tab i n sl hl nx ⟨some d, .makeFunc (.func f) #[] cs.toArray, ty, pos, af, none⟩ []]) K) : AF dr P tab ops i (⟨some d, .makeFunc (.func f) #[] cs.toArray, ty, pos, af, none⟩ :: os) n sl hl nx acc K :=
 ZcQ (ws := []) (pv := .fn f ps) (Zb3 hd) (by have := hx.e n hl nx; simp only [aOp, if_true, ← this]) h4
theorem ZA6  {vs : List PV} {v : PV} (hd : RF (hasB d n = true)) (hx : EV sl tab 0 x (.tup vs)) (hv : Idx vs k v) (h4 : AF dr P tab ops (i + 1) os n ((d, v) :: sl) hl nx (acc ++ [tcX tab i n sl hl nx ⟨some d, .extract x k, ty, pos, af, none⟩ []]) K) : AF dr P tab ops i (⟨some d, .extract x k, ty, pos, af, none⟩ :: os) n sl hl nx acc K :=
 ZcQ (ws := []) (Zb3 hd) (by simp only [aOp, hx.e, Zin, hv.e]) h4
def CON (P : Program) (f : FuncId) (gs : List GV) (r : GV) : Prop := Con P f gs r
theorem CON.e {P : Program}    (h : CON P f gs r) : Con P f gs r := h
theorem ZaA {P : Program}    (h : Con P f gs r) : CON P f gs r := h
theorem ZwH  {f : Operand} {xs : List Operand}      {pv : PV}  (hd : (mkX n sl hl nx).has dst = true) (hf : FN sl tab f fid caps) (ha : ARG sl tab xs ts ps) (hg : VWL hl 6 (ps ++ caps) gs) (hc : Con P fid gs r) (hk : NID (nx + 8 * i) kk) (hr : RES kk r hl pv hl')
  (h4 : AF dr P tab ops (i + 1) os n (putL dst pv sl) hl' nx (acc ++ [tcX tab i n sl hl nx ⟨dst, .call { callee := .value f, args := xs.toArray, argTypes := ts.toArray }, ty, pos, af, none⟩ (idsW (ZbD kk (ZaP r)))]) K) : AF dr P tab ops i (⟨dst, .call { callee := .value f, args := xs.toArray, argTypes := ts.toArray }, ty, pos, af, none⟩ :: os) n sl hl nx acc K := by
 cases hk.e
 refine Zhf (pv := Zf9 (nx + 8 * i) r) (ws := ZbD (nx + 8 * i) (ZaP r)) rfl hd (.inr (.inl ⟨fid, caps, hf.e n hl nx, gs, ?_, r, hc, hr.lf, hr.l8, ?_, rfl, rfl⟩)) ?_
 ·show ZbN (view (ZaZ hl) 6) ((mkX n sl hl nx).args tab xs ts ++ caps) = some gs
  rw [ha.e]; exact hg.e
 ·simp only [List.all_eq_true, List.mem_range]
  intro j hj
  rw [ZfS, Zc5, hr.fr j hj]; rfl
 ·rw [ZfS, Zci, Zjb, hr.pv, hr.hl]; exact h4
theorem Zv2 : ∀ {m : Nat} {ps qs : List PV} {xs ys : List GV}, VWL hl m ps xs → VWL hl m qs ys → VWL hl m (ps ++ qs) (xs ++ ys) := fun h1 h2 => ⟨Zuh h1.e h2.e⟩
structure APP {α : Type} (xs ys zs : List α) : Prop where
 e : xs ++ ys = zs
theorem ZwG  (ys : List α) : APP [] ys ys := ⟨rfl⟩
theorem ZtK  {x : α} {xs ys zs : List α} (h : APP xs ys zs) : APP (x :: xs) ys (x :: zs) := ⟨by simp [h.e]⟩
theorem Zvf  {f : Operand} {xs : List Operand}    {gs1 gs2 : List GV}  {pv : PV}  (hd : RF (hasB d n = true)) (hf : FN sl tab f fid caps) (ha : ARG sl tab xs ts ps) (hg1 : VWL hl 6 ps gs1) (hg2 : VWL hl 6 caps gs2) (hgs : APP gs1 gs2 gs) (hc : CON P fid gs r) (hk : NID (nx + 8 * i) kk) (hr : RES kk r hl pv hl')
  (h4 : AF dr P tab ops (i + 1) os n ((d, pv) :: sl) hl' nx (acc ++ [tcX tab i n sl hl nx ⟨some d, .call { callee := .value f, args := xs.toArray, argTypes := ts.toArray }, ty, pos, af, none⟩ (idsW (ZbD kk (ZaP r)))]) K) : AF dr P tab ops i (⟨some d, .call { callee := .value f, args := xs.toArray, argTypes := ts.toArray }, ty, pos, af, none⟩ :: os) n sl hl nx acc K :=
 ZwH (Zb3 hd) hf ha (by rw [← hgs.e]; exact Zv2 hg1 hg2) hc hk hr h4
structure LENQ (len : Nat) (xs ys : List GV) : Prop where
 a : len = xs.length
 b : ys.length = xs.length
def MRK (P : Program) (f : FuncId) (ag : Bool) (gs gs' : List GV) (k : Int) (c : Nat) : Prop := MarkC P f ag gs gs' k c
theorem MRK.e {P : Program}    {k : Int} {c : Nat} (h : MRK P f ag gs gs' k c) : MarkC P f ag gs gs' k c := h
structure CMP (p : PV) (ag : Bool) (ps : List PV) : Prop where
 e : p = (if ag then .agg ps else ps.headD .undef)
 l : ag = false → ps.length = 1
structure WG (hl : List (Nat × Block)) (ps : List PV) (gs : List GV) : Prop where
theorem ZzE (hl : List (Nat × Block)) : WG hl [] [] := ⟨⟩
theorem Zxf {x : GV}   (h : WG hl ps gs) : WG hl (.g x :: ps) (x :: gs) := ⟨⟩
theorem ZxN {e len : Nat}    (hb : HL hl id (.arr e true xs)) (h : WG hl ps gs) : WG hl (.own id 0 len :: ps) (.sl e xs :: gs) := ⟨⟩
theorem Zw8 (ps : List PV) : CMP (.agg ps) true ps := ⟨rfl, fun h => by cases h⟩
theorem Zvu (id lo len : Nat) : CMP (.own id lo len) false [.own id lo len] := ⟨rfl, fun _ => rfl⟩
structure WW (h0 hl : List (Nat × Block)) (ps : List PV) (gs gs' : List GV) (ws : List (Nat × Block)) (is : List (List Nat)) (hl' : List (Nat × Block)) : Prop where
 e : WhL (ZaZ h0) ps gs gs' ws is
 p : ZfG ws hl = hl'
theorem ZzS (h0 hl : List (Nat × Block)) : WW h0 hl [] [] [] [] [] hl := ⟨.nil, rfl⟩
theorem ZuU {hl : List (Nat × Block)} {x : GV}   {ws : List (Nat × Block)}  (hx : RF (x.atom = true)) (h : WW h0 hl ps gs gs' ws is hl') : WW h0 hl (.g x :: ps) (x :: gs) (x :: gs') ws ([] :: is) hl' :=
 ⟨.cons (w := []) (.atom x hx.e) h.e (by simp), h.p⟩
theorem Zy8 {hl : List (Nat × Block)} {e len : Nat}    {ws : List (Nat × Block)}  (hb : HL h0 id (.arr e true xs)) (hq : LENQ len xs ys) (h : WW h0 ((id, .arr e true ys) :: hl) ps gs gs' ws is hl') (hn : RF ((ws.all fun x => !(Nat.beq x.1 id)) = true)) :
  WW h0 hl (.own id 0 len :: ps) (.sl e xs :: gs) (.sl e ys :: gs') ((id, .arr e true ys) :: ws) ([id] :: is) hl' :=
 ⟨.cons (w := [(id, .arr e true ys)]) (.own id e len xs ys hb.e hq.a hq.b) h.e (fun x hx hm => by
  simp at hx; subst hx
  obtain ⟨y, hy, e⟩ := List.mem_map.1 hm
  have := List.all_eq_true.1 hn.e y hy
  rw [e, show Nat.beq id id = true from Nat.beq_refl id] at this; cases this), h.p⟩
def okSL (n : Nat) (sl : List (Nat × PV)) : Bool := sl.all fun x => okS n x.1 x.2
def okBL (hl : List (Nat × Block)) : Bool := hl.all fun x => okB x.2
theorem Zqs {n : Nat} : ∀ {sl : List (Nat × PV)}, okSL n sl = true → ∀ t, okS n t (Zb4 sl t) = true
 | [], _, _ => rfl
 | (d, v) :: sl, h, t => by
  simp only [okSL, List.all_cons, Bool.and_eq_true] at h
  unfold Zb4
  split
  ·rename_i e; subst e; exact h.1
  ·exact Zqs (sl := sl) h.2 t
theorem Zrf : ∀ {hl : List (Nat × Block)}, okBL hl = true → ∀ id, okB (ZaZ hl id) = true
 | [], _, _ => rfl
 | (d, v) :: hl, h, t => by
  simp only [okBL, List.all_cons, Bool.and_eq_true] at h
  unfold ZaZ
  split
  ·exact h.1
  ·exact Zrf (hl := hl) h.2 t
theorem ZzJ {f : FuncId} {x y : Operand} {tx t2 : TypeId} {ag : Bool} {p : PV} {ps : List PV} {gs gs' : List GV} {k : Int} {c : Nat} {ws : List (Nat × Block)} {is : List (List Nat)} {hl' : List (Nat × Block)} (hd : RF (hasB d n = true)) (hdr : RF (dr = false)) (hx : EV sl tab tx x p) (hy : EV sl tab t2 y (.g (.int .i64 k))) (hp : CMP p ag ps) (hg : WG hl ps gs) (hm : MRK P f ag gs gs' k c)
  (hw : WW hl hl ps gs gs' ws is hl') (hc : RF ((okSL n sl && okBL hl) = true)) (h4 : AF dr P tab ops (i + 1) os n ((d, .g (.int .i64 (k + c))) :: sl) hl' nx (acc ++ [tcX tab i n sl hl nx ⟨some d, .call { callee := .value (.func f), args := #[x, y], argTypes := #[tx, t2] }, ty, pos, af, none⟩ (idsW ws)]) K) : AF dr P tab ops i (⟨some d, .call { callee := .value (.func f), args := #[x, y], argTypes := #[tx, t2] }, ty, pos, af, none⟩ :: os) n sl hl nx acc K := by
 cases hdr.e
 have hc := hc.e
 rw [Bool.and_eq_true] at hc
 refine ZvU (pv := .g (.int .i64 (k + c))) (ws := ws) rfl (Zb3 hd) ⟨f, x, y, tx, t2, ag, ps, gs, gs', k, c, is, rfl, ?_, hp.l, ?_, hw.e, hm.e, Zqs hc.1, Zrf hc.2, rfl⟩ ?_
 ·rw [hx.e]; exact hp.e
 ·rw [hy.e]
 ·rw [Zci, Zjb, hw.p]; exact h4
structure RPV (id : Nat) (cut : Option Nat) (pv : PV) : Prop where
 e : ZvH id cut = pv
theorem Zs2 (id : Nat) : RPV id none .undef := ⟨rfl⟩
theorem Ztu (id m : Nat) : RPV id (some m) (.own id 0 m) := ⟨rfl⟩
theorem ZA2  {t : TypeId} {len : Nat}  {xs ys : List Int} {cut : Option Nat} {pv : PV} (hd : RF (hasB d n = true)) (hx : EV sl tab t x (.own id 0 len)) (hb : HL hl id (.arr 1 dp (xs.map GV.i))) (hl' : NU (len = xs.length)) (hc : ROW P f xs ys cut) (hp : RPV id cut pv)
  (h4 : AF dr P tab ops (i + 1) os n ((d, pv) :: sl) ((id, .arr 1 true (ys.map GV.i)) :: hl) nx (acc ++ [tcX tab i n sl hl nx ⟨some d, .call { callee := .value (.func f), args := #[x], argTypes := #[t] }, ty, pos, af, none⟩ (idsW [(id, .arr 1 true (ys.map GV.i))])]) K) : AF dr P tab ops i (⟨some d, .call { callee := .value (.func f), args := #[x], argTypes := #[t] }, ty, pos, af, none⟩ :: os) n sl hl nx acc K := by
 refine Zhf (pv := ZvH id cut) (ws := [(id, .arr 1 true (ys.map GV.i))]) rfl (Zb3 hd) (.inr (.inr (Zw7 rfl rfl (hx.e n hl nx) (hb.e : (mkX n sl hl nx).heap id = _) hl'.e hc _))) ?_
 rw [Zci, Zjb, hp.e]; exact h4
def INTO (P : Program) (f : FuncId) (xs : List Int) (x : Int) (ys : List Int) : Prop := ZtH P f xs x ys
theorem Zrc {P : Program}  {xs : List Int} {x : Int} {ys : List Int} (h : ZtH P f xs x ys) : INTO P f xs x ys := h
theorem Zxn  {tx t2 : TypeId} {len : Nat} {m : Int} {xs ys : List Int} (hd : RF (hasB d n = true)) (hx : EV sl tab tx x (.own id 0 len)) (hy : EV sl tab t2 y (.g (.int .i64 m))) (hb : HL hl id (.arr 1 true (xs.map GV.i))) (hl' : NU (len = xs.length)) (hk : NID (nx + 8 * i) kk) (hf : HL hl kk .free) (hc : INTO P f xs m ys)
  (h4 : AF dr P tab ops (i + 1) os n ((d, .own kk 0 ys.length) :: sl) ((id, .dead) :: (kk, .arr 1 true (ys.map GV.i)) :: hl) nx (acc ++ [tcX tab i n sl hl nx ⟨some d, .call { callee := .value (.func f), args := #[x, y], argTypes := #[tx, t2] }, ty, pos, af, none⟩ (idsW [(kk, .arr 1 true (ys.map GV.i)), (id, .dead)])]) K) : AF dr P tab ops i (⟨some d, .call { callee := .value (.func f), args := #[x, y], argTypes := #[tx, t2] }, ty, pos, af, none⟩ :: os) n sl hl nx acc K := by
 cases hk.e
 refine Zhf (pv := .own (nx + 8 * i) 0 ys.length) (ws := [(nx + 8 * i, .arr 1 true (ys.map GV.i)), (id, .dead)]) rfl (Zb3 hd) (.inr (.inr (Ztz rfl rfl (hx.e n hl nx) (hy.e n hl nx) (hb.e : (mkX n sl hl nx).heap id = _) hl'.e (hf.e : (mkX n sl hl nx).heap _ = _) hc))) ?_
 rw [Zci, Zjb]; exact h4
def BOXC (P : Program) (f : FuncId) (cs gs : List GV) (r : GV) (cs' : List GV) : Prop := BoxC P f cs gs r cs'
theorem ZmN {P : Program}  {cs : List GV}  {cs' : List GV} (h : BoxC P f cs gs r cs') : BOXC P f cs gs r cs' := h
theorem Zya  {xs : List Operand} {t : TypeId}   {B B' : List PV} {cs cs' : List GV}  {pv : PV}  (hd : RF (hasB d n = true)) (hx : EV sl tab t x (.ptr id 0)) (hb : HL hl id (.box B)) (h1 : GL B cs) (ha : ARG sl tab xs ts ps) (hv : VWL hl 6 ps gs) (hn : RF (ps.all np = true)) (hc : BOXC P f cs gs r cs') (h2 : GL B' cs') (hk : NID (nx + 8 * i) kk) (hr : RES kk r ((id, .box B') :: hl) pv hl')
  (h4 : AF dr P tab ops (i + 1) os n ((d, pv) :: sl) hl' nx (acc ++ [tcX tab i n sl hl nx ⟨some d, .call { callee := .value (.func f), args := (x :: xs).toArray, argTypes := (t :: ts).toArray }, ty, pos, af, none⟩ (idsW ((id, .box B') :: ZbD kk (ZaP r)))]) K) : AF dr P tab ops i (⟨some d, .call { callee := .value (.func f), args := (x :: xs).toArray, argTypes := (t :: ts).toArray }, ty, pos, af, none⟩ :: os) n sl hl nx acc K := by
 cases hk.e
 have e1 := h1.e
 have e2 := h2.e
 subst e1; subst e2
 refine Zhf (pv := Zf9 (nx + 8 * i) r) (ws := (id, .box (cs'.map PV.g)) :: ZbD (nx + 8 * i) (ZaP r)) rfl (Zb3 hd) (.inr (.inr (Zv5 rfl rfl (hx.e n hl nx) (hb.e : (mkX n sl hl nx).heap id = _) (ha.e n hl nx) (hv.e : ZbN (view (mkX n sl hl nx).heap 6) ps = some gs) hn.e hc hr.lf (fun j hj => ?_) hr.l8))) ?_
 ·have h5 := hr.fr j hj
  rw [ZfS, Zc5]
  simp only [ZaZ] at h5
  split at h5
  ·cases h5
  ·exact h5
 ·rw [ZfS, Zci, Zjb, hr.pv]
  have h6 : ZfG ((id, .box (cs'.map PV.g)) :: ZbD (nx + 8 * i) (ZaP r)) hl = hl' := hr.hl
  rw [h6]; exact h4
def NEWC (P : Program) (f : FuncId) (gs cs : List GV) : Prop := NewC P f gs cs
theorem ZxJ {P : Program}  {cs : List GV} (h : NewC P f gs cs) : NEWC P f gs cs := h
theorem ZyJ  {xs : List Operand}  {B : List PV} {cs : List GV} (hd : RF (hasB d n = true)) (ha : ARG sl tab xs ts ps) (hv : GL ps gs) (hc : NEWC P f gs cs) (h2 : GL B cs) (hk : NID (nx + 8 * i) kk) (hf : HL hl kk .free)
  (h4 : AF dr P tab ops (i + 1) os n ((d, .ptr kk 0) :: sl) ((kk, .box B) :: hl) nx (acc ++ [tcX tab i n sl hl nx ⟨some d, .call { callee := .value (.func f), args := xs.toArray, argTypes := ts.toArray }, ty, pos, af, none⟩ (idsW [(kk, .box B)])]) K) : AF dr P tab ops i (⟨some d, .call { callee := .value (.func f), args := xs.toArray, argTypes := ts.toArray }, ty, pos, af, none⟩ :: os) n sl hl nx acc K := by
 cases hk.e
 have e2 := h2.e
 subst e2
 refine Zhf (pv := .ptr (nx + 8 * i) 0) (ws := [(nx + 8 * i, .box (cs.map PV.g))]) rfl (Zb3 hd) (.inr (.inr (ZuX rfl rfl (ha.e n hl nx) hv hc (hf.e : (mkX n sl hl nx).heap _ = _)))) ?_
 rw [Zci, Zjb]; exact h4
theorem Zou  {b : Bool}  (hd : (ops[g]?).bind (·.dst) = some t) (hs : SL sl t (.g (.bool c))) (hcb : (c == b) = true) (h : AF dr P tab ops i (⟨dst, op, ty, pos, af, none⟩ :: os) n sl hl nx acc K) : AF dr P tab ops i (⟨dst, op, ty, pos, af, some (g, b)⟩ :: os) n sl hl nx acc K := Zub hd hs.e hcb h
theorem Zkf  {d : Nat}  {b : Bool}  (hd : (ops[g]?).bind (·.dst) = some t) (hs : SL sl t (.g (.bool c))) (hcb : (c == b) = false) (h2 : RF (hasB d n = true)) (h : AF dr P tab ops (i + 1) os n ((d, .none_) :: sl) hl nx (acc ++ [([], [])]) K) : AF dr P tab ops i (⟨some d, op, ty, pos, af, some (g, b)⟩ :: os) n sl hl nx acc K := Zpd hd hs.e hcb (Zb3 h2) (by rw [ZnB]; exact h)
theorem ZnL  {d : Nat}  {b : Bool}  (hd : (ops[g]?).bind (·.dst) = some t) (hs : SL sl t .none_) (h2 : RF (hasB d n = true)) (h : AF dr P tab ops (i + 1) os n ((d, .none_) :: sl) hl nx (acc ++ [([], [])]) K) : AF dr P tab ops i (⟨some d, op, ty, pos, af, some (g, b)⟩ :: os) n sl hl nx acc K := Znq hd hs.e (Zb3 h2) (by rw [ZnB]; exact h)
theorem ZtY  {b : Bool}  (hd : (ops[g]?).bind (·.dst) = some t) (hs : SL sl t (.g (.bool c))) (h1 : c = true → AF dr P tab ops i (⟨dst, op, ty, pos, af, some (g, b)⟩ :: os) n ((t, .g (.bool true)) :: sl) hl nx acc K) (h2 : c = false → AF dr P tab ops i (⟨dst, op, ty, pos, af, some (g, b)⟩ :: os) n ((t, .g (.bool false)) :: sl) hl nx acc K) : AF dr P tab ops i (⟨dst, op, ty, pos, af, some (g, b)⟩ :: os) n sl hl nx acc K :=
 Ztb hd hs.e (fun e => by rw [ZnB]; exact h1 e) (fun e => by rw [ZnB]; exact h2 e)
structure GD (dr : Bool) (P : Program) (tab : Tab) (ops : Array Oper) (i : Nat) (o : Oper) (os : List Oper) (n : Nat) (sl : List (Nat × PV)) (hl : List (Nat × Block)) (nx : Nat) (acc : List (List Nat × List Nat)) (K : AState → List (List Nat × List Nat) → Prop) (t : Nat) (p : PV) : Prop where
 e : SL sl t p → AF dr P tab ops i (o :: os) n sl hl nx acc K
theorem ZvC  {b : Bool}  {p : PV} (hd : RF ((ops[g]?).bind (·.dst) = some t)) (hs : SL sl t p) (h : GD dr P tab ops i ⟨dst, op, ty, pos, af, some (g, b)⟩ os n sl hl nx acc K t p) : AF dr P tab ops i (⟨dst, op, ty, pos, af, some (g, b)⟩ :: os) n sl hl nx acc K := h.e hs
theorem ZA0  (hd : RF ((ops[g]?).bind (·.dst) = some t)) (h : AF dr P tab ops i (⟨dst, op, ty, pos, af, none⟩ :: os) n sl hl nx acc K) : GD dr P tab ops i ⟨dst, op, ty, pos, af, some (g, true)⟩ os n sl hl nx acc K t (.g (.bool true)) := ⟨fun hs => Zou hd.e hs rfl h⟩
theorem ZAI  (hd : RF ((ops[g]?).bind (·.dst) = some t)) (h : AF dr P tab ops i (⟨dst, op, ty, pos, af, none⟩ :: os) n sl hl nx acc K) : GD dr P tab ops i ⟨dst, op, ty, pos, af, some (g, false)⟩ os n sl hl nx acc K t (.g (.bool false)) := ⟨fun hs => Zou hd.e hs rfl h⟩
theorem ZBf  {d : Nat}  (hd : RF ((ops[g]?).bind (·.dst) = some t)) (h2 : RF (hasB d n = true)) (h : AF dr P tab ops (i + 1) os n ((d, .none_) :: sl) hl nx (acc ++ [([], [])]) K) : GD dr P tab ops i ⟨some d, op, ty, pos, af, some (g, false)⟩ os n sl hl nx acc K t (.g (.bool true)) := ⟨fun hs => Zkf hd.e hs rfl h2 h⟩
theorem ZAE  {d : Nat}  (hd : RF ((ops[g]?).bind (·.dst) = some t)) (h2 : RF (hasB d n = true)) (h : AF dr P tab ops (i + 1) os n ((d, .none_) :: sl) hl nx (acc ++ [([], [])]) K) : GD dr P tab ops i ⟨some d, op, ty, pos, af, some (g, true)⟩ os n sl hl nx acc K t (.g (.bool false)) := ⟨fun hs => Zkf hd.e hs rfl h2 h⟩
theorem ZuT  {d : Nat}  {b : Bool} (hd : RF ((ops[g]?).bind (·.dst) = some t)) (h2 : RF (hasB d n = true)) (h : AF dr P tab ops (i + 1) os n ((d, .none_) :: sl) hl nx (acc ++ [([], [])]) K) : GD dr P tab ops i ⟨some d, op, ty, pos, af, some (g, b)⟩ os n sl hl nx acc K t .none_ := ⟨fun hs => ZnL hd.e hs h2 h⟩
theorem Zr6  {b : Bool} (hd : RF ((ops[g]?).bind (·.dst) = some t)) (h1 : c = true → AF dr P tab ops i (⟨dst, op, ty, pos, af, some (g, b)⟩ :: os) n ((t, .g (.bool true)) :: sl) hl nx acc K) (h2 : c = false → AF dr P tab ops i (⟨dst, op, ty, pos, af, some (g, b)⟩ :: os) n ((t, .g (.bool false)) :: sl) hl nx acc K) : GD dr P tab ops i ⟨dst, op, ty, pos, af, some (g, b)⟩ os n sl hl nx acc K t (.g (.bool c)) := ⟨fun hs => ZtY hd.e hs h1 h2⟩
end
end Go.Proofs.YtabfpoflhacknaaGreat
namespace Go.Proofs.YtabfpoflhacknaaGreat
open Go.RowKit
open Shp
variable {S S' : AState} {L ρ ks : List Nat} {sl' sl2 : List (Nat × PV)} {w : World} {id j n0 k t r0 r1 r2 r3 r4 r5 r6 r7 r8 m n2 : Nat} {ops : Array Oper} {acc : List (List Nat × List Nat)} {p v q : PV} {b : Bool} {ι α : Type} {xs ys gs : List GV} {ps vs cs cs' : List PV} {f : FuncId} {hl' : List (Nat × Block)} {b0 b1 b2 b3 b4 b5 b6 b7 b8 : Block} {rs : List ResultVar} {r : GV} {fn : Func}
theorem Rel.nx {w0 : W0} {S : AState} {a : Act} {w : World} (h : Rel w0 S a w) (k : Nat) : Rel w0 { S with nx := k } a w := by
 obtain ⟨μ, who, h⟩ := h
 exact ⟨μ, who, h.size, h.slot, h.dfr, h.blk, h.inj, h.base, h.keep, h.old⟩
theorem Zs1 {n nx nx' : Nat} {sl : List (Nat × PV)} {hl : List (Nat × Block)} : Le (mkX n sl hl nx) (mkX n sl hl nx') := fun _ _ _ h => h.nx nx'
theorem Le.trans {S'' : AState} (h : Le S S') (h' : Le S' S'') : Le S S'' := fun w0 a w hr => h' w0 a w (h w0 a w hr)
theorem ZsR  (hn : S'.n = S.n) (hh : S'.heap = S.heap) (hs : ∀ t, S'.slots t = .undef ∨ S'.slots t = S.slots t) : Le S S' := by
 rintro w0 a w ⟨μ, who, h⟩
 refine ⟨μ, who, by rw [hn]; exact h.size, fun t => ?_, h.dfr, fun i => by rw [hh]; exact h.blk i, by rw [hh]; exact h.inj, by rw [hh]; exact h.base, h.keep, fun t x hp hx => (by
  rcases hs t with e | e
  ·rw [e] at hx; cases hx
  ·rw [e] at hx; exact h.old.1 t x (by rw [← hn]; exact hp) hx), fun v hv => by rw [hn]; exact h.old.2 v hv⟩
 rcases hs t with e | e
 ·rw [e]; exact .undef _
 ·rw [e, hh]; exact h.slot t
def TX (lv : Nat → List Nat) (P : Program) (tab : Tab) (c : Code) (n : Nat) (sl : List (Nat × PV)) (hl : List (Nat × Block)) (Q : Exit → AState → Prop) : Prop := T P c (mkX n sl hl 0) Q
theorem TX.run {lv : Nat → List Nat} {P : Program} {tab : Tab} {c : Code} {n : Nat} {sl : List (Nat × PV)} {hl : List (Nat × Block)} {Q : Exit → AState → Prop} (h : TX lv P tab c n sl hl Q) : T P c (mkX n sl hl 0) Q := h
def QA (Q : Exit → AState → Prop) (e : Exit) (n : Nat) (sl : List (Nat × PV)) (hl : List (Nat × Block)) : Prop := Q e (mkX n sl hl 0)
theorem QA.run {Q : Exit → AState → Prop} {e : Exit} {n : Nat} {sl : List (Nat × PV)} {hl : List (Nat × Block)} (h : QA Q e n sl hl) : Q e (mkX n sl hl 0) := h
def upQ (Q : Exit → AState → Prop) : Exit → AState → Prop := fun e S => ∃ S', Q e S' ∧ Le S S'
theorem Zt6 {P : Program} {c : Code}  {Q : Exit → AState → Prop} (h : T P c S (upQ Q)) : T P c S Q := fun w0 a w hr => by
 refine wp_mono (h w0 a w hr) ?_
 rintro e a' w' ⟨S', ⟨S2, h1, h2⟩, h3⟩
 exact ⟨S2, h1, h2 _ _ _ h3⟩
def NK (L : List Nat) (Q : Exit → AState → Prop) (S : AState) : Prop := upQ Q .normal S
theorem NK.run  {Q : Exit → AState → Prop}  (h : NK L Q S) : upQ Q .normal S := h
theorem ZBD  {Q : Exit → AState → Prop} {n nx : Nat} {sl : List (Nat × PV)} {hl : List (Nat × Block)} (hs : Sel sl L sl') (h : QA Q .normal n sl' hl) : NK L Q (mkX n sl hl nx) :=
 ⟨_, h.run, ZsR (S := mkX n sl hl nx) (S' := mkX n sl' hl 0) rfl rfl hs.e⟩
section
variable {lv : Nat → List Nat} {P : Program} {tab : Tab} {n : Nat} {sl : List (Nat × PV)} {hl : List (Nat × Block)} {Q : Exit → AState → Prop} {x y c : Code}
theorem AW_K {ops : Array Oper} {K K' : AState → Prop} (hk : ∀ S, K S → K' S) : ∀ {os : List Oper} {i : Nat} {S : AState}, AW P tab ops i os S K → AW P tab ops i os S K'
 | [], _, _, h => hk _ h
 | o :: os, i, S, h => by
  obtain ⟨b, h1, h2, h3, h4⟩ := h
  refine ⟨b, h1, h2, fun hb => ?_, fun hb => AW_K hk (h4 hb)⟩
  obtain ⟨pv, ws, h5, h6⟩ := h3 hb
  exact ⟨pv, ws, h5, AW_K hk h6⟩
theorem AD_K {ops : Array Oper} {K K' : AState → List (List Nat × List Nat) → Prop} (hk : ∀ S tw, K S tw → K' S tw) : ∀ {os : List Oper} {i : Nat} {S : AState} {acc : List (List Nat × List Nat)}, AD P tab ops i os S acc K → AD P tab ops i os S acc K'
 | [], _, _, _, h => hk _ _ h
 | o :: os, i, S, acc, h => by
  obtain ⟨b, h1, h2, h3, h4⟩ := h
  refine ⟨b, h1, h2, fun hb => ?_, fun hb => AD_K hk (h4 hb)⟩
  obtain ⟨pv, ws, h5, h6⟩ := h3 hb
  exact ⟨pv, ws, h5, AD_K hk h6⟩
theorem NK.on {L : List Nat} {S : AState} (h : NK L Q S) : upQ Q .normal (S.on 512) := by
 obtain ⟨S', h1, h2⟩ := h.run
 refine ⟨S', h1, fun w0 a w hr => h2 _ _ _ ?_⟩
 obtain ⟨μ, who, h⟩ := hr
 exact ⟨μ, who, h.size, h.slot, h.dfr, h.blk, h.inj, h.base, h.keep, h.old⟩
theorem Zx2 (ht : TabOk P tab)  {l : List Oper}  (hL : RF (lv id = L)) (h : AF false P tab l.toArray 0 l n sl hl (4096 * id + 4096) [] (fun S' _ => NK L Q S')) : TX lv P tab (.region id l.toArray false) n sl hl Q :=
 (Zt6 (T.le Zs1 (Ztf ht 512 (AW_K (fun S hS => NK.on hS) h.run))))
theorem Zxv (ht : TabOk P tab) (hm : P.follows .mixedOrders = true)  {l : List Oper}  (hL : RF (lv id = L)) (h : AF true P tab l.toArray 0 l n sl hl (4096 * id + 4096) [] (fun S' tw => ordB l tw = true ∧ NK L Q S')) : TX lv P tab (.region id l.toArray true) n sl hl Q :=
 (Zt6 (T.le Zs1 (Zwd ht 512 hm (AD_K (fun S tw hS => ⟨hS.1, NK.on hS.2⟩) h.run))))
theorem Zv6  {i nx : Nat} {l : List Oper}   (h : NK L Q (mkX n sl hl nx)) (ho : ordB l acc = true) : AF true P tab ops i [] n sl hl nx acc (fun S' tw => ordB l tw = true ∧ NK L Q S') := ⟨ho, h⟩
theorem Zu8  {i nx : Nat}   (h : NK L Q (mkX n sl hl nx)) : AF false P tab ops i [] n sl hl nx acc (fun S' _ => NK L Q S') := ⟨h⟩
def andX (lv : Nat → List Nat) (P : Program) (tab : Tab) (c : Code) (Q : Exit → AState → Prop) : Exit → AState → Prop
 | .normal, S => ∃ n sl hl, S = mkX n sl hl 0 ∧ TX lv P tab c n sl hl Q
 | e, S => Q e S
theorem Zam (h : TX lv P tab x n sl hl (andX lv P tab y Q)) : TX lv P tab (.seq x y) n sl hl Q := ZBa (h.run.mono fun e S h => by
 cases e with
 | normal => obtain ⟨n, sl, hl, rfl, h⟩ := h; exact h.run
 | _ => exact h)
theorem Ztv  (h : TX lv P tab c n sl hl (inT id Q)) : TX lv P tab (.block id c) n sl hl Q := ZpT h.run
def Zv3 : Code → Bool
 | .loop _ => false
 | _ => true
theorem ZaF  (hn : RF (Zv3 c = true)) (h : TX lv P tab c n sl hl (inT id Q)) : TX lv P tab (.block id c) n sl hl Q := Ztv h
theorem Zar (h : QA Q .normal n sl hl) : TX lv P tab .skip n sl hl Q := ZxB h.run
theorem Zsw {l : Nat} (h : QA Q .normal n sl hl) : TX lv P tab (.label l) n sl hl Q := Zv9 h.run
theorem Zas (h : QA Q .ret n sl hl) : TX lv P tab .ret n sl hl Q := ZBF h.run
theorem Zay  (h : QA Q (.exit id) n sl hl) : TX lv P tab (.exit id) n sl hl Q := ZzU h.run
structure CK' (lv : Nat → List Nat) (P : Program) (tab : Tab) (x y : Code) (n : Nat) (sl : List (Nat × PV)) (hl : List (Nat × Block)) (Q : Exit → AState → Prop) (p : PV) : Prop where
 e : ∃ b, p = .g (.bool b) ∧ (b = true → TX lv P tab x n sl hl Q) ∧ (b = false → TX lv P tab y n sl hl Q)
def CK (lv : Nat → List Nat) (P : Program) (tab : Tab) (x y : Code) (n : Nat) (sl : List (Nat × PV)) (hl : List (Nat × Block)) (Q : Exit → AState → Prop) (p : PV) : Prop := CK' lv P tab x y n sl hl Q p
theorem CK.mk {lv : Nat → List Nat} {P : Program} {tab : Tab} {x y : Code} {n : Nat} {sl : List (Nat × PV)} {hl : List (Nat × Block)} {Q : Exit → AState → Prop}  (h : CK' lv P tab x y n sl hl Q p) : CK lv P tab x y n sl hl Q p := h
theorem CK.e {lv : Nat → List Nat} {P : Program} {tab : Tab} {x y : Code} {n : Nat} {sl : List (Nat × PV)} {hl : List (Nat × Block)} {Q : Exit → AState → Prop} {p : PV} (h : CK lv P tab x y n sl hl Q p) : ∃ b, p = .g (.bool b) ∧ (b = true → TX lv P tab x n sl hl Q) ∧ (b = false → TX lv P tab y n sl hl Q) := @CK'.e _ _ _ _ _ _ _ _ _ _ h
theorem ZuN {o : Operand}  (hb : EV sl tab 0 o p) (h : CK lv P tab x y n sl hl Q p) : TX lv P tab (.cond o x y) n sl hl Q := by
 obtain ⟨b, rfl, h1, h2⟩ := h.e
 exact Zyk (hb.e _ _ _) (fun e => (h1 e).run) (fun e => (h2 e).run)
theorem CK_t (h : TX lv P tab x n sl hl Q) : CK lv P tab x y n sl hl Q (.g (.bool true)) := CK.mk ⟨_, rfl, fun _ => h, fun e => by cases e⟩
theorem CK_f (h : TX lv P tab y n sl hl Q) : CK lv P tab x y n sl hl Q (.g (.bool false)) := CK.mk ⟨_, rfl, (fun e => by cases e), fun _ => h⟩
theorem ZaR  (h1 : b = true → TX lv P tab x n sl hl Q) (h2 : b = false → TX lv P tab y n sl hl Q) : CK lv P tab x y n sl hl Q (.g (.bool b)) := CK.mk ⟨_, rfl, h1, h2⟩
theorem Zaf (h : TX lv P tab c n sl hl Q) : QA (andX lv P tab c Q) .normal n sl hl := ⟨_, _, _, rfl, h⟩
theorem Zaq  (h : QA Q (.exit id) n sl hl) : QA (andX lv P tab c Q) (.exit id) n sl hl := h.run
theorem ZaC (h : QA Q .ret n sl hl) : QA (andX lv P tab c Q) .ret n sl hl := h.run
theorem Zap  (h : QA Q .normal n sl hl) : QA (inT id Q) (.exit id) n sl hl := Zz1 h.run
theorem Zn2  (hn : NE j id) (h : QA Q (.exit j) n sl hl) : QA (inT id Q) (.exit j) n sl hl := ZyK hn.e h.run
theorem Zaw  (h : QA Q .normal n sl hl) : QA (inT id Q) .normal n sl hl := ZBe h.run
theorem Za3  (h : QA Q .ret n sl hl) : QA (inT id Q) .ret n sl hl := ZAM h.run
structure HD where
 sl : List (Nat × PV)
 hl : List (Nat × Block)
def LX (n : Nat) (sl : List (Nat × PV)) (hl : List (Nat × Block)) (H : HD) : Prop := Le (mkX n sl hl 0) (mkX n H.sl H.hl 0)
theorem LX.le {n : Nat} {sl : List (Nat × PV)} {hl : List (Nat × Block)} {H : HD} (h : LX n sl hl H) : Le (mkX n sl hl 0) (mkX n H.sl H.hl 0) := h
def ZsL {ι : Type} (n0 : Nat) (I : ι → HD) (ok : ι → Prop) (m : ι → Nat) (i : ι) (Q : Exit → AState → Prop) : Exit → AState → Prop
 | .normal, S' => ∃ j, ok j ∧ m j < m i ∧ Le S' (mkX n0 (I j).sl (I j).hl 0)
 | e, S' => Q e S'
theorem Zak  (I : ι → HD) (ok : ι → Prop) (m : ι → Nat) (i0 : ι) (h0 : LX n sl hl (I i0)) (k0 : ok i0) (round : ∀ i, ok i → TX lv P tab c n (I i).sl (I i).hl (ZsL n I ok m i (inT id Q))) : TX lv P tab (.block id (.loop c)) n sl hl Q :=
 (ZpT (Zzn (fun i => mkX n (I i).sl (I i).hl 0) ok m i0 h0.le k0 fun i k => (round i k).run.mono fun e S h => by cases e <;> exact h))
theorem Zax  {I : ι → HD} {ok : ι → Prop} {m : ι → Nat} {i : ι}  (h : QA Q (.exit id) n sl hl) : QA (ZsL n0 I ok m i Q) (.exit id) n sl hl := h.run
theorem Za9  {I : ι → HD} {ok : ι → Prop} {m : ι → Nat} {i : ι} (h : QA Q .ret n sl hl) : QA (ZsL n0 I ok m i Q) .ret n sl hl := h.run
theorem ZaJ  {I : ι → HD} {ok : ι → Prop} {m : ι → Nat} {i : ι} (j : ι) (h3 : LX n sl hl (I j)) (h1 : ok j) (h2 : m j < m i) : QA (ZsL n I ok m i Q) .normal n sl hl := ⟨j, h1, h2, h3.le⟩
def cutX {ι : Type} (n0 : Nat) (I : ι → HD) (ok : ι → Prop) (Q : Exit → AState → Prop) : Exit → AState → Prop
 | .normal, S' => ∃ j, ok j ∧ Le S' (mkX n0 (I j).sl (I j).hl 0)
 | e, S' => Q e S'
theorem Zw3  {I : ι → HD} {ok : ι → Prop}  (h : QA Q (.exit id) n sl hl) : QA (cutX n0 I ok Q) (.exit id) n sl hl := h.run
theorem Zwz  {I : ι → HD} {ok : ι → Prop} (h : QA Q .ret n sl hl) : QA (cutX n0 I ok Q) .ret n sl hl := h.run
def EQ {α : Type} (a b : α) : Prop := a = b
theorem EQ.mk  {a b : α} (h : a = b) : EQ a b := h
theorem EQ.e  {a b : α} (h : EQ a b) : a = b := h
theorem Zae {k : IntKind} {a b : Int} (h : EQ a b) : EQ (GV.int k a) (.int k b) := EQ.mk (by rw [h.e])
theorem Zao {a : Bool} (h : a = b) : EQ (GV.bool a) (.bool b) := EQ.mk (by rw [h])
theorem Zby {e : Nat}  (h : EQ xs ys) : EQ (GV.sl e xs) (.sl e ys) := EQ.mk (by rw [h.e])
theorem Zau  {f : α → GV} {xs ys : List α} (h : EQ xs ys) : EQ (xs.map f) (ys.map f) := EQ.mk (by rw [h.e])
theorem ZbL  (h : EQ xs ys) : EQ (GV.agg xs) (.agg ys) := EQ.mk (by rw [h.e])
theorem ZkA  (h : EQ xs ys) : EQ (GV.tup xs) (.tup ys) := EQ.mk (by rw [h.e])
theorem Zbb {x y : GV}  (h : EQ x y) (h2 : EQ xs ys) : EQ (x :: xs) (y :: ys) := EQ.mk (by rw [h.e, h2.e])
def HY (p : Prop) : Prop := p
theorem HY.mk {p : Prop} (h : p) : HY p := h
theorem HY.e {p : Prop} (h : HY p) : p := h
structure RN (ρ : List Nat) (p v : PV) : Prop where
 e : ρ.Nodup → v = ren0 ρ p ∧ v = ren1 ρ p
theorem Zqm  (hn : ρ.Nodup)  (h : ρ[j]? = some id) : ρ.idxOf? id = some j := by
 obtain ⟨hj, h1⟩ := List.getElem?_eq_some_iff.1 h
 cases hx : ρ.idxOf? id with
 | none => exact absurd (h1 ▸ List.getElem_mem hj) (List.idxOf?_eq_none_iff.1 hx)
 | some k =>
  obtain ⟨hk, h2⟩ := List.getElem?_eq_some_iff.1 (ZlW hx)
  rw [ZgV hn hk hj (h2.trans h1.symm)]
theorem RN_g  {a b : GV} (h : EQ a b) : RN ρ (.g a) (.g b) := ⟨fun _ => by cases h.e; exact ⟨rfl, rfl⟩⟩
theorem Zv4 : RN ρ .none_ .none_ := ⟨fun _ => ⟨rfl, rfl⟩⟩
theorem Zvz  (e : Nat) : RN ρ (.nils e) (.nils e) := ⟨fun _ => ⟨rfl, rfl⟩⟩
theorem Zu2  (cs : List GV) : RN ρ (.iptr cs) (.iptr cs) := ⟨fun _ => ⟨rfl, rfl⟩⟩
theorem ZyV  {lo lo' len len' : Nat} (h : RF (ρ[j]? = some id)) (h1 : EQ lo lo') (h2 : EQ len len') : RN ρ (.own id lo len) (.own j lo' len') := ⟨fun hn => by
 cases h1.e; cases h2.e
 simp only [ren1, ren0, Zqm hn h.e, and_self]⟩
theorem Zyv  {o : Nat} (h : RF (ρ[j]? = some id)) : RN ρ (.ptr id o) (.ptr j o) := ⟨fun hn => by
 simp only [ren1, ren0, Zqm hn h.e, and_self]⟩
theorem ZwB  {k' i : Nat} (h : RF (ρ[j]? = some id)) (h1 : EQ k k') : RN ρ (.eptr id k i) (.eptr j k' i) := ⟨fun hn => by
 cases h1.e
 simp only [ren1, ren0, Zqm hn h.e, and_self]⟩
structure RV (ρ : List Nat) (p v : PV) : Prop where
 e : ρ.Nodup → v = ren1 ρ p
theorem RV_0  (h : RN ρ p v) : RV ρ p v := ⟨fun hn => (h.e hn).2⟩
structure RNL (ρ : List Nat) (ps vs : List PV) : Prop where
 e : ρ.Nodup → vs = ps.map (ren0 ρ)
theorem Zvs : RNL ρ [] [] := ⟨fun _ => rfl⟩
theorem Ztt  (h : RN ρ p v) (h2 : RNL ρ ps vs) : RNL ρ (p :: ps) (v :: vs) := ⟨fun hn => by rw [List.map_cons, ← (h.e hn).1, ← h2.e hn]⟩
theorem ZxR  (h : RNL ρ ps vs) : RV ρ (.agg ps) (.agg vs) := ⟨fun hn => by simp only [ren1, ← h.e hn]⟩
theorem ZAv  (h : RNL ρ ps vs) : RV ρ (.fn f ps) (.fn f vs) := ⟨fun hn => by simp only [ren1, ← h.e hn]⟩
structure RVL (ρ : List Nat) (ps vs : List PV) : Prop where
 e : ρ.Nodup → vs = ps.map (ren1 ρ)
theorem Zu0 : RVL ρ [] [] := ⟨fun _ => rfl⟩
theorem Zti  (h : RV ρ p v) (h2 : RVL ρ ps vs) : RVL ρ (p :: ps) (v :: vs) := ⟨fun hn => by rw [List.map_cons, ← h.e hn, ← h2.e hn]⟩
structure RB (ρ : List Nat) (b b' : Block) : Prop where
 e : ρ.Nodup → b' = renB ρ b
 l : b.live = true
theorem Zyt  {e : Nat} {dp : Bool}  (h : EQ xs ys) : RB ρ (.arr e dp xs) (.arr e dp ys) := ⟨fun _ => by cases h.e; rfl, rfl⟩
theorem Zxr  (h : RVL ρ cs cs') : RB ρ (.box cs) (.box cs') := ⟨fun hn => by simp only [renB, ← h.e hn], rfl⟩
structure HS (ρ : List Nat) (sl sl' : List (Nat × PV)) : Prop where
 e : ρ.Nodup → ∀ t, Zb4 sl' t = .undef ∨ Zb4 sl' t = ren1 ρ (Zb4 sl t)
theorem Zz2  (sl : List (Nat × PV)) : HS ρ sl [] := ⟨fun _ _ => .inl rfl⟩
theorem Zwn  {sl : List (Nat × PV)} (h1 : SL sl t p) (h2 : RV ρ p v) (h3 : HS ρ sl sl') : HS ρ sl ((t, v) :: sl') := ⟨fun hn s => by
 by_cases e : s = t
 ·subst e; right; rw [h1.e]; simp only [Zb4, if_true]; exact h2.e hn
 ·simpa [Zb4, e] using h3.e hn s⟩
structure HB (ρ : List Nat) (hl : List (Nat × Block)) (is : List Nat) (k : Nat) (hl' : List (Nat × Block)) : Prop where
 e : ρ.Nodup → ∀ j, ZaZ hl' (k + j) = match is[j]? with | some i => renB ρ (ZaZ hl i) | none => .free
 lo : ∀ j, j < k → ZaZ hl' j = .free
 l : ∀ i ∈ is, (ZaZ hl i).live = true
theorem Zuj  (hl : List (Nat × Block)) (k : Nat) : HB ρ hl [] k [] := ⟨fun _ _ => by simp [ZaZ], fun _ _ => rfl, by simp⟩
theorem ZuQ {is : List Nat} {i : Nat} {B B' : Block} {hl : List (Nat × Block)} (h1 : HL hl i B) (h2 : RB ρ B B') (h3 : HB ρ hl is (k + 1) hl') : HB ρ hl (i :: is) k ((k, B') :: hl') := ⟨fun hn j => by
 cases j with
 | zero => simp only [Nat.add_zero, ZaZ, if_true, List.getElem?_cons_zero]; rw [h1.e]; exact h2.e hn
 | succ j =>
  have := h3.e hn j
  rw [show k + 1 + j = k + (j + 1) by omega] at this
  simp only [ZaZ, List.getElem?_cons_succ]
  rw [if_neg (by omega)]; exact this, fun j hj => by
  have := h3.lo j (by omega)
  simp only [ZaZ]; rw [if_neg (by omega)]; exact this, fun x hx => by
  rcases List.mem_cons.1 hx with rfl | hx
  ·rw [h1.e]; exact h2.l
  ·exact h3.l x hx⟩
theorem Zjk  (hs : HS ρ sl sl') (hb : HB ρ hl ρ 0 hl') (hn : RF (ρ.Nodup)) : LX n sl hl ⟨sl', hl'⟩ :=
 (Zxj ρ hn.e rfl (fun i hi => hb.l i hi) (fun j => by have := hb.e hn.e j; rw [Nat.zero_add] at this; exact this) (fun t => hs.e hn.e t))
theorem LX0  (hs : HS [] sl sl') : LX n sl hl ⟨sl', []⟩ := Zjk hs (Zuj _ _) (RF.mk (by simp))
theorem LX1  (hs : HS [r0] sl sl') (hb : HB [r0] hl [r0] 0 [(0, b0)]) : LX n sl hl ⟨sl', [(0, b0)]⟩ := Zjk hs hb (RF.mk (by simp))
theorem LX2  (hs : HS [r0, r1] sl sl') (hb : HB [r0, r1] hl [r0, r1] 0 [(0, b0), (1, b1)]) (hn : RF ([r0, r1].Nodup)) : LX n sl hl ⟨sl', [(0, b0), (1, b1)]⟩ := Zjk hs hb hn
theorem LX3  (hs : HS [r0, r1, r2] sl sl') (hb : HB [r0, r1, r2] hl [r0, r1, r2] 0 [(0, b0), (1, b1), (2, b2)]) (hn : RF ([r0, r1, r2].Nodup)) : LX n sl hl ⟨sl', [(0, b0), (1, b1), (2, b2)]⟩ := Zjk hs hb hn
theorem LX4  (hs : HS [r0, r1, r2, r3] sl sl') (hb : HB [r0, r1, r2, r3] hl [r0, r1, r2, r3] 0 [(0, b0), (1, b1), (2, b2), (3, b3)]) (hn : RF ([r0, r1, r2, r3].Nodup)) : LX n sl hl ⟨sl', [(0, b0), (1, b1), (2, b2), (3, b3)]⟩ := Zjk hs hb hn
theorem LX5  (hs : HS [r0, r1, r2, r3, r4] sl sl') (hb : HB [r0, r1, r2, r3, r4] hl [r0, r1, r2, r3, r4] 0 [(0, b0), (1, b1), (2, b2), (3, b3), (4, b4)]) (hn : RF ([r0, r1, r2, r3, r4].Nodup)) : LX n sl hl ⟨sl', [(0, b0), (1, b1), (2, b2), (3, b3), (4, b4)]⟩ := Zjk hs hb hn
theorem LX6  (hs : HS [r0, r1, r2, r3, r4, r5] sl sl') (hb : HB [r0, r1, r2, r3, r4, r5] hl [r0, r1, r2, r3, r4, r5] 0 [(0, b0), (1, b1), (2, b2), (3, b3), (4, b4), (5, b5)]) (hn : RF ([r0, r1, r2, r3, r4, r5].Nodup)) : LX n sl hl ⟨sl', [(0, b0), (1, b1), (2, b2), (3, b3), (4, b4), (5, b5)]⟩ := Zjk hs hb hn
theorem LX7  (hs : HS [r0, r1, r2, r3, r4, r5, r6] sl sl') (hb : HB [r0, r1, r2, r3, r4, r5, r6] hl [r0, r1, r2, r3, r4, r5, r6] 0 [(0, b0), (1, b1), (2, b2), (3, b3), (4, b4), (5, b5), (6, b6)]) (hn : RF ([r0, r1, r2, r3, r4, r5, r6].Nodup)) : LX n sl hl ⟨sl', [(0, b0), (1, b1), (2, b2), (3, b3), (4, b4), (5, b5), (6, b6)]⟩ := Zjk hs hb hn
theorem LX8  (hs : HS [r0, r1, r2, r3, r4, r5, r6, r7] sl sl') (hb : HB [r0, r1, r2, r3, r4, r5, r6, r7] hl [r0, r1, r2, r3, r4, r5, r6, r7] 0 [(0, b0), (1, b1), (2, b2), (3, b3), (4, b4), (5, b5), (6, b6), (7, b7)]) (hn : RF ([r0, r1, r2, r3, r4, r5, r6, r7].Nodup)) : LX n sl hl ⟨sl', [(0, b0), (1, b1), (2, b2), (3, b3), (4, b4), (5, b5), (6, b6), (7, b7)]⟩ := Zjk hs hb hn
theorem LX9  (hs : HS [r0, r1, r2, r3, r4, r5, r6, r7, r8] sl sl') (hb : HB [r0, r1, r2, r3, r4, r5, r6, r7, r8] hl [r0, r1, r2, r3, r4, r5, r6, r7, r8] 0 [(0, b0), (1, b1), (2, b2), (3, b3), (4, b4), (5, b5), (6, b6), (7, b7), (8, b8)]) (hn : RF ([r0, r1, r2, r3, r4, r5, r6, r7, r8].Nodup)) : LX n sl hl ⟨sl', [(0, b0), (1, b1), (2, b2), (3, b3), (4, b4), (5, b5), (6, b6), (7, b7), (8, b8)]⟩ := Zjk hs hb hn
theorem LX10 {r9 : Nat} {b9 : Block}  (hs : HS [r0, r1, r2, r3, r4, r5, r6, r7, r8, r9] sl sl') (hb : HB [r0, r1, r2, r3, r4, r5, r6, r7, r8, r9] hl [r0, r1, r2, r3, r4, r5, r6, r7, r8, r9] 0 [(0, b0), (1, b1), (2, b2), (3, b3), (4, b4), (5, b5), (6, b6), (7, b7), (8, b8), (9, b9)]) (hn : RF ([r0, r1, r2, r3, r4, r5, r6, r7, r8, r9].Nodup)) : LX n sl hl ⟨sl', [(0, b0), (1, b1), (2, b2), (3, b3), (4, b4), (5, b5), (6, b6), (7, b7), (8, b8), (9, b9)]⟩ := Zjk hs hb hn
theorem Zqj  {c nid e : Nat}  (hb : S.heap id = .box cs) (hc : cs[c]? = some (.nils e)) (hf : S.heap nid = .free) : Le S ((S.write nid (.arr e true [])).write id (.box (cs.set c (.own nid 0 0)))) := by
 rintro w0 a w ⟨μ, who, h⟩
 obtain ⟨hlt, hce⟩ := List.getElem?_eq_some_iff.1 hc
 have hB := h.blk id
 rw [hb] at hB
 obtain ⟨b, vs, t, h1, h2, h3, h4, h5⟩ := hB
 have h6 := h5 c hlt
 rw [hce] at h6
 obtain ⟨hv, he⟩ := h6.nils_inv
 obtain ⟨μ', r1, p1⟩ := h.newNil hf (Keeps.refl [] w) he true none
 have hne : id ≠ nid := by intro q; subst q; rw [hb] at hf; cases hf
 have hb' : (S.write nid (.arr e true [])).heap id = .box cs := by simp only [AState.write]; rw [Zbp _ _ _ hne]; exact hb
 have hB' := r1.blk id
 rw [hb'] at hB'
 obtain ⟨b', vs', t', g1, g2, g3, g4, g5⟩ := hB'
 refine ⟨μ', who, r1.mod (id := id) (b := b') (d := 0) (B := .box (cs.set c (.own nid 0 0))) (by rw [hb']; rfl) g1 (Keeps.refl _ _) g2 g2 rfl rfl (by simp) (by simp [hb']) (fun hm => ⟨b', vs', t', g1, g2, by simpa using g3, g4, fun i hi => ?_⟩)⟩
 have hi' : i < cs.length := by simpa using hi
 by_cases e1 : i = c
 ·subst e1
  have h7 := g5 i hi'
  rw [hce] at h7
  rw [h7.nils_inv.1, List.getElem_set_self]
  exact p1.move hm
 ·rw [List.getElem_set_ne (fun q => e1 q.symm)]
  exact (g5 i hi').move hm
theorem ZxO {i c e : Nat}  {H : HD} (hs : SL sl t (.ptr i 0)) (hb : HL hl i (.box cs)) (hc : RF (cs[c]? = some (.nils e))) (hf : HL hl k .free) (hc' : RF (cs.set c (.own k 0 0) = cs')) (h : LX n sl ((i, .box cs') :: (k, .arr e true []) :: hl) H) : LX n sl hl H := by
 cases hc'.e
 intro w0 a w hr
 refine h w0 a w ?_
 have := Zqj (S := mkX n sl hl 0) (hb.e : (mkX n sl hl 0).heap i = _) hc.e (hf.e : (mkX n sl hl 0).heap k = _) w0 a w hr
 have e1 : ((mkX n sl hl 0).write k (.arr e true [])).write i (.box (cs.set c (.own k 0 0))) = mkX n sl ((i, .box (cs.set c (.own k 0 0))) :: (k, .arr e true []) :: hl) 0 := by
  have := Zci (n := n) (sl := sl) (nx := 0) [(k, .arr e true []), (i, .box (cs.set c (.own k 0 0)))] hl
  exact this
 rw [← e1]; exact this
structure RL (tab : Tab) (sl : List (Nat × PV)) (hl : List (Nat × Block)) (rs : List ResultVar) (ps : List PV) : Prop where
 e : ∀ n, resL tab (mkX n sl hl 0) rs = some ps
theorem ZyM (sl : List (Nat × PV)) (hl : List (Nat × Block)) : RL tab sl hl [] [] := ⟨fun _ => rfl⟩
theorem Zyi  (h1 : SL sl t p) (h2 : RL tab sl hl rs ps) : RL tab sl hl (.tmp t :: rs) (p :: ps) := ⟨fun n => Zy5 h1.e (h2.e n)⟩
theorem Zvc {a : Nat} {t : TypeId}    (h1 : SL sl a q) (h3 : LD tab hl t q p) (h2 : RL tab sl hl rs ps) : RL tab sl hl (.cell a t :: rs) (p :: ps) := ⟨fun n => Zws h1.e h3.e (h2.e n)⟩
theorem ZAY {r0 : ResultVar}  {x : GV}  (h1 : RL tab sl hl [r0] [p]) (h2 : AE hl p x ks true) (h3 : RF (x.isTup = false)) (h4 : EQ x r) : QA (EndR tab [r0] r) .ret n sl hl := Zud (out1 (h1.e n) h2.e h3.e h4.e)
theorem ZAu {r0 r1 : ResultVar}       (h1 : RL tab sl hl (r0 :: r1 :: rs) (p :: q :: ps)) (h2 : AEL hl (p :: q :: ps) gs ks true) (h4 : EQ (.tup gs) r) : QA (EndR tab (r0 :: r1 :: rs) r) .ret n sl hl := Zud (outN (h1.e n) h2.e h4.e)
theorem ZAO  (h4 : EQ (.tup []) r) : QA (EndR tab [] r) .ret n sl hl := by
 cases h4.e
 show outR tab _ [] = some (.tup [])
 simp [outR, resL, absL]
theorem ZAR  (h : QA (EndR tab rs r) .ret n sl hl) : QA (EndR tab rs r) .normal n sl hl := h.run
structure SG (gs : List GV) (k : Nat) (sl : List (Nat × PV)) : Prop where
 e : ∀ t, Zb4 sl t = .undef ∨ ∃ x, (t - k < gs.length ∧ k ≤ t) ∧ gs[t - k]? = some x ∧ Zb4 sl t = .g x
theorem ZzO (k : Nat) : SG [] k [] := ⟨fun _ => .inl rfl⟩
theorem ZuM {g : GV}   {sl : List (Nat × PV)} (h : SG gs (k + 1) sl) : SG (g :: gs) k ((k, .g g) :: sl) := ⟨fun t => by
 by_cases e : t = k
 ·subst e; exact .inr ⟨g, by simp, by simp, by simp [Zb4]⟩
 ·rcases h.e t with h1 | ⟨x, h1, h2, h3⟩
  ·left; simp [Zb4, e, h1]
  ·right
   refine ⟨x, by simp; omega, ?_, by simp [Zb4, e, h3]⟩
   rw [show t - k = (t - (k + 1)) + 1 by omega]; simpa using h2⟩
theorem Zqk (lv : Nat → List Nat) (ht : TabOk P tab)   {c : Code}     {sl : List (Nat × PV)} (hf : P.funcs[f]? = some fn) (hb : fn.body = some c) (hn : fn.ntmps = m) (hrs : fn.results.toList = rs) (he : ∀ args w, (callFunc f args).run P w = .ok (.enter f args) w) (hl : (Nat.ble gs.length m && Nat.blt m 65536) = true)
  (hs : SG gs 0 sl) (h : TX lv P tab c m sl [] (EndR tab rs r)) : Con P f gs r := by
 rw [Bool.and_eq_true] at hl
 have hm : m < 65536 := Nat.le_of_ble_eq_true hl.2
 refine ZrM ht hf hb hn hrs he (Nat.le_of_ble_eq_true hl.1) hm (T.le ?_ h.run)
 rintro w0 a w ⟨μ, who, h⟩
 refine ⟨μ, who, h.size, fun t => ?_, h.dfr, fun i => h.blk i, fun i j b d d' hi => by simp [mkX, ZaZ, Block.live] at hi, fun i b d hi => by simp [mkX, ZaZ, Block.live] at hi, h.keep, fun t x hp => (by rw [show pinned (mkX m sl [] 0).n t = false from ZjB hm t] at hp; cases hp), fun v hv => h.old.2 v hv⟩
 rcases hs.e t with e | ⟨x, h1, h2, h3⟩
 ·have : (mkX m sl [] 0).slots t = .undef := e
  rw [this]; exact .undef _
 ·have h4 : (mkX m sl [] 0).slots t = .g x := h3
  have h5 := h.slot t
  simp only [ZdA, Nat.sub_zero] at h5 h2
  rw [h2] at h5
  rw [h4]; exact h5
end
theorem Gives.base {w1 w2 : World}  {e : Ending} (hk : Keeps [] w w1) (h : Gives w1 r e w2) : Gives w r e w2 := by
 obtain ⟨v, F, h1, h2, h3, h4, h5, h6⟩ := h
 exact ⟨v, F, h1, h2, h3, h4, fun b hb => Nat.le_trans hk.size (h5 b hb), hk.trans h6⟩
def ZlZ (b : Nat) : Lay := fun id => if id = 0 then some (b, 0) else none
def EndB (tab : Tab) (rs : List ResultVar) (r : GV) (cs' : List GV) : Exit → AState → Prop
 | .normal, S => outR tab S rs = some r ∧ ∃ id, S.slots 0 = .ptr id 0 ∧ S.heap id = .box (cs'.map PV.g)
 | .ret, S => outR tab S rs = some r ∧ ∃ id, S.slots 0 = .ptr id 0 ∧ S.heap id = .box (cs'.map PV.g)
 | _, _ => False
theorem pin0  (hm : m < 65536) : pinned (m + 65536) 0 = true := by
 have : (m + 65536) / 2 ^ (16 + 0) = 1 := by omega
 unfold pinned; rw [this]; rfl
set_option maxHeartbeats 2000000 in
theorem ZpA (lv : Nat → List Nat) {P : Program} {tab : Tab} (ht : TabOk P tab)   {c : Code}   {cs : List GV}  {cs' : List GV} {sl : List (Nat × PV)} {B : List PV} (hf : P.funcs[f]? = some fn) (hb : fn.body = some c) (hn : fn.ntmps = m) (hrs : fn.results.toList = rs) (he : ∀ args w, (callFunc f args).run P w = .ok (.enter f args) w) (hl : (Nat.ble (gs.length + 1) m && Nat.blt m 65536) = true)
  (hok : cs.all exOk = true) (hok' : cs'.all exOk = true) (hlen : cs'.length = cs.length) (hsub : ∀ c ∈ cs', c.atom = true ∨ c ∈ cs) (hB : GL B cs)
  (hs : SG gs 1 sl) (h : TX lv P tab c (m + 65536) ((0, .ptr 0 0) :: sl) [(0, .box B)] (EndB tab rs r cs')) : BoxC P f cs gs r cs' := by
 rw [Bool.and_eq_true] at hl
 have hm : m < 65536 := Nat.le_of_ble_eq_true hl.2
 have hle := Nat.le_of_ble_eq_true hl.1
 subst hn; subst hrs
 have eB := hB.e
 subst eB
 simp only [List.all_eq_true] at hok hok'
 refine ⟨he, hok, hok', hlen, hsub, fun w b t args hal hrow hrep hg => calls_of_wp hf hb ?_⟩
 have hbl : b < w.heap.size := by
  rcases Nat.lt_or_ge b w.heap.size with h3 | h3
  ·exact h3
  ·rw [Array.getElem?_eq_none h3] at hrow; cases hrow
 have hroot : ∀ x, Root (ZlZ b) (ZaZ [(0, Block.box (cs.map PV.g))]) x → x = b := by
  rintro x ⟨id, d, h1, h2⟩
  unfold ZlZ at h2
  split at h2
  ·simp only [Option.some.injEq, Prod.mk.injEq] at h2; exact h2.1.symm
  ·cases h2
 have hasz : (Value.pointer (some ⟨b, 0, none⟩) :: args).toArray.size = gs.length + 1 := by simp [hal]
 have hget : ∀ t, ((Value.pointer (some ⟨b, 0, none⟩) :: args).toArray ++ Array.replicate (fn.ntmps - (Value.pointer (some ⟨b, 0, none⟩) :: args).toArray.size) Go.undef).getD t Go.undef = (Value.pointer (some ⟨b, 0, none⟩) :: args).getD t Go.undef := fun t => by
  by_cases h1 : t < gs.length + 1
  ·rw [Zb5 (by simp; omega), Array.getElem_append_left (by rw [hasz]; exact h1)]
   simp [List.getD, List.getElem?_eq_getElem (show t < (Value.pointer (some ⟨b, 0, none⟩) :: args).length by simp; omega)]
  ·have e1 : (Value.pointer (some ⟨b, 0, none⟩) :: args).getD t Go.undef = Go.undef := by
    simp [List.getD, List.getElem?_eq_none (show (Value.pointer (some ⟨b, 0, none⟩) :: args).length ≤ t by simp; omega)]
   rw [e1]
   by_cases h2 : t < ((Value.pointer (some ⟨b, 0, none⟩) :: args).toArray ++ Array.replicate (fn.ntmps - (Value.pointer (some ⟨b, 0, none⟩) :: args).toArray.size) Go.undef).size
   ·rw [Zb5 h2, Array.getElem_append_right (by rw [hasz]; omega)]; simp
   ·simp only [Array.getD, dif_neg h2]
 have hrel : RelAt ⟨w, [b], some (.pointer (some ⟨b, 0, none⟩))⟩ (mkX (fn.ntmps + 65536) ((0, .ptr 0 0) :: sl) [(0, .box (cs.map PV.g))] 0) { tmps := (Value.pointer (some ⟨b, 0, none⟩) :: args).toArray ++ Array.replicate (fn.ntmps - (Value.pointer (some ⟨b, 0, none⟩) :: args).toArray.size) Go.undef, defers := [] } w (ZlZ b) (fun _ => none) := by
  refine ⟨?_, fun t => ?_, rfl, fun id => ?_, fun i j b1 d d' hi hj hi2 hj2 => ?_, fun i b1 d hi hi2 => ?_, Keeps.refl _ _, fun t x hp hx => ?_, fun v hv => ?_⟩
  ·show _ = (fn.ntmps + 65536) % 65536
   rw [Nat.add_mod_right, Nat.mod_eq_of_lt hm, Array.size_append, Array.size_replicate, hasz]; omega
  ·show PRep w (ZlZ b) (ZaZ [(0, Block.box (cs.map PV.g))]) _ (Zb4 ((0, .ptr 0 0) :: sl) t)
   rw [hget t]
   simp only [Zb4]
   split
   ·rename_i e
    subst e
    exact .ptr _ 0 0 rfl (by simp [ZaZ]) fun _ _ => ⟨b, rfl, rfl⟩
   ·rename_i e
    rcases hs.e t with e1 | ⟨x, ⟨h1, h1'⟩, h2, h3⟩
    ·rw [e1]; exact .undef _
    ·rw [h3]
     obtain ⟨k, rfl⟩ : ∃ k, t = k + 1 := ⟨t - 1, by omega⟩
     have hk : k < gs.length := by omega
     rw [show k + 1 - 1 = k by omega, List.getElem?_eq_getElem hk] at h2
     cases h2
     obtain ⟨Fk, hgk, hbk⟩ := hg k hk
     have e4 : (Value.pointer (some ⟨b, 0, none⟩) :: args).getD (k + 1) Go.undef = args[k]'(hal ▸ hk) := by simp [List.getD, List.getElem?_eq_getElem (hal ▸ hk)]
     rw [e4]
     exact .g _ _ Fk hgk fun c hc hr => hbk (hroot c hr ▸ hc)
  ·show BRep _ w (ZlZ b) (ZaZ [(0, Block.box (cs.map PV.g))]) (fun _ => none) id (ZaZ [(0, Block.box (cs.map PV.g))] id)
   simp only [ZaZ]
   split
   ·rename_i e
    subst e
    refine ⟨b, _, t, rfl, hrow, by simp, fun v hv => ?_, fun i hi => ?_⟩
    ·simp only [List.mem_map] at hv
     obtain ⟨c, hm2, rfl⟩ := hv
     obtain ⟨F, hg2, _⟩ := hrep c hm2
     exact (hg2.exv (hok c hm2)).2
    ·have hi' : i < cs.length := by simpa using hi
     have e1 : (cs.map exV).toArray.getD i Go.undef = exV cs[i] := by simp [Array.getD, hi']
     have e2 : (cs.map PV.g)[i] = .g cs[i] := by simp
     rw [e1, e2]
     obtain ⟨F, hg2, hd⟩ := hrep _ (List.getElem_mem hi')
     exact .g _ _ F hg2 fun x hx hr => hd (hroot x hr ▸ hx)
   ·trivial
  ·have key : ∀ k, (ZaZ [(0, Block.box (cs.map PV.g))] k).live = true → k = 0 := fun k hk => by
    simp only [ZaZ] at hk; split at hk
    ·assumption
    ·cases hk
   rw [key i hi, key j hj]
  ·have : i = 0 := by
    simp only [mkX, ZaZ] at hi; split at hi
    ·assumption
    ·cases hi
   subst this
   cases hi2
   exact ⟨.inr ⟨by simp, _, rfl⟩, hbl⟩
  ·exfalso
   simp only [mkX, Zb4] at hx
   by_cases e : t = 0
   ·subst e; simp at hx
   ·have : pinned (fn.ntmps + 65536) t = false := by
     have : (fn.ntmps + 65536) / 2 ^ (16 + t) = 0 := Nat.div_eq_of_lt (Nat.lt_of_lt_of_le (by omega : fn.ntmps + 65536 < 2 ^ 17) (Nat.pow_le_pow_right (by omega) (by omega)))
     unfold pinned; rw [this]; rfl
    rw [show (mkX (fn.ntmps + 65536) ((0, .ptr 0 0) :: sl) [(0, .box (cs.map PV.g))] 0).n = fn.ntmps + 65536 from rfl, this] at hp
    cases hp
  ·cases hv
   exact ⟨pin0 hm, by rw [hget 0]; rfl⟩
 have fin : ∀ {S' : AState} {a' : Act} {w' : World} {μ' : Lay} {who' : Nat → Option Nat}, (outR tab S' fn.results.toList = some r ∧ ∃ id, S'.slots 0 = .ptr id 0 ∧ S'.heap id = .box (cs'.map PV.g)) → RelAt ⟨w, [b], some (.pointer (some ⟨b, 0, none⟩))⟩ S' a' w' μ' who' →
   a'.defers = [] ∧ ∃ v, (results fn a'.tmps).run P w' = .ok v w' ∧ (ZrK ⟨w, [b], none⟩ r (.returned v) w' ∧ ∃ t', w'.heap[b]? = some (.cells (cs'.map exV).toArray t' (0, 0))) := by
  rintro S' a' w' μ' who' ⟨q1, id, q2, q3⟩ h2
  obtain ⟨v, r1, r2⟩ := Zq5 ht h2 q1
  refine ⟨h2.dfr, v, r1, r2, ?_⟩
  have h3 := h2.slot 0
  rw [q2] at h3
  obtain ⟨_, _, h4⟩ := h3.ptr_inv
  obtain ⟨b', h5, h6⟩ := h4 _ q3
  have h7 := (h2.old.2 _ rfl).2
  rw [h6] at h7
  have hbb : b' = b := by simpa using h7
  rw [hbb] at h5
  have h8 := h2.blk id
  rw [q3] at h8
  obtain ⟨b2, vs, t', h9, h10, h11, h12, h13⟩ := h8
  rw [h5] at h9
  have hb2 : b = b2 := by simpa using h9
  rw [← hb2] at h10
  refine ⟨t', ?_⟩
  rw [h10]
  have : vs = (cs'.map exV).toArray := by
   apply Array.ext
   ·simpa using h11
   ·intro i h3 h4
    have hi : i < cs'.length := by simpa using h4
    have h14 := h13 i (by simpa using hi)
    simp only [List.getElem_map] at h14
    obtain ⟨F, hg2, _⟩ := h14.g_inv
    have := (hg2.exv (hok' _ (List.getElem_mem hi))).1
    simp only [Array.getD, dif_pos h3, Array.getInternal_eq_getElem] at this
    simpa using this
  rw [this]
 refine wp_mono (h.run ⟨w, [b], some (.pointer (some ⟨b, 0, none⟩))⟩ _ w ⟨_, _, hrel⟩) fun e a' w' ⟨S', h1, μ', who', h2⟩ => ?_
 cases e with
 | normal => exact fin h1 h2
 | ret => exact fin h1 h2
 | exit | goto | panic | outgrown => exact h1.elim
def EndN (rs : List ResultVar) (cs : List GV) : Exit → AState → Prop
 | .normal, S => ∃ t id, rs = [.tmp t] ∧ S.slots t = .ptr id 0 ∧ S.heap id = .box (cs.map PV.g)
 | .ret, S => ∃ t id, rs = [.tmp t] ∧ S.slots t = .ptr id 0 ∧ S.heap id = .box (cs.map PV.g)
 | _, _ => False
set_option maxHeartbeats 2000000 in
theorem Zpm (lv : Nat → List Nat) {P : Program} {tab : Tab} (ht : TabOk P tab)   {c : Code}   {cs : List GV} {sl : List (Nat × PV)} (hf : P.funcs[f]? = some fn) (hb : fn.body = some c) (hn : fn.ntmps = m) (hrs : fn.results.toList = rs) (he : ∀ args w, (callFunc f args).run P w = .ok (.enter f args) w) (hl : (Nat.ble gs.length m && Nat.blt m 65536) = true)
  (hok : cs.all exOk = true) (hsub : ∀ c ∈ cs, c.atom = true ∨ c ∈ gs) (hs : SG gs 0 sl) (h : TX lv P tab c m sl [] (EndN rs cs)) : NewC P f gs cs := by
 rw [Bool.and_eq_true] at hl
 have hm : m < 65536 := Nat.le_of_ble_eq_true hl.2
 have hle := Nat.le_of_ble_eq_true hl.1
 subst hn; subst hrs
 simp only [List.all_eq_true] at hok
 refine ⟨he, hok, hsub, fun w args hal hg => calls_of_wp hf hb ?_⟩
 have hrel0 := ZmV hle hm w args hal hg
 have hrel : RelAt ⟨w, [], none⟩ (mkX fn.ntmps sl [] 0) { tmps := args.toArray ++ Array.replicate (fn.ntmps - args.toArray.size) Go.undef, defers := [] } w (fun _ => none) (fun _ => none) := by
  refine ⟨hrel0.size, fun t => ?_, hrel0.dfr, fun i => hrel0.blk i, fun i j b d d' hi => by simp [mkX, ZaZ, Block.live] at hi, fun i b d hi => by simp [mkX, ZaZ, Block.live] at hi, hrel0.keep, fun t x hp => (by rw [show pinned (mkX fn.ntmps sl [] 0).n t = false from ZjB hm t] at hp; cases hp), fun v hv => hrel0.old.2 v hv⟩
  rcases hs.e t with e | ⟨x, h1, h2, h3⟩
  ·have : (mkX fn.ntmps sl [] 0).slots t = .undef := e
   rw [this]; exact .undef _
  ·have h4 : (mkX fn.ntmps sl [] 0).slots t = .g x := h3
   have h5 := hrel0.slot t
   simp only [ZdA, Nat.sub_zero] at h5 h2
   rw [h2] at h5
   rw [h4]; exact h5
 have fin : ∀ {S' : AState} {a' : Act} {w' : World} {μ' : Lay} {who' : Nat → Option Nat}, (∃ t id, fn.results.toList = [.tmp t] ∧ S'.slots t = .ptr id 0 ∧ S'.heap id = .box (cs.map PV.g)) → RelAt ⟨w, [], none⟩ S' a' w' μ' who' →
   a'.defers = [] ∧ ∃ v, (results fn a'.tmps).run P w' = .ok v w' ∧ ∃ b t, Ending.returned v = .returned (.pointer (some ⟨b, 0, none⟩)) ∧ w.heap.size ≤ b ∧ w'.heap[b]? = some (.cells (cs.map exV).toArray t (0, 0)) ∧ Keeps [] w w' := by
  rintro S' a' w' μ' who' ⟨t0, id, q1, q2, q3⟩ h2
  have h3 := h2.slot t0
  rw [q2] at h3
  obtain ⟨_, _, h4⟩ := h3.ptr_inv
  obtain ⟨b, h5, h6⟩ := h4 _ q3
  have hlv : (S'.heap id).live = true := by rw [q3]; rfl
  have h8 := h2.blk id
  rw [q3] at h8
  obtain ⟨b2, vs, t', h9, h10, h11, h12, h13⟩ := h8
  rw [h5] at h9
  have hb2 : b = b2 := by simpa using h9
  rw [← hb2] at h10
  have hbase := (h2.base id b 0 hlv h5).1
  have hnew : w.heap.size ≤ b := by
   rcases hbase with h | ⟨h, _⟩
   ·exact h
   ·simp at h
  refine ⟨h2.dfr, a'.tmps.getD t0 Go.undef, ?_, b, t', by rw [h6], hnew, ?_, h2.keep⟩
  ·have e0 : results fn a'.tmps = (do let vs ← fn.results.mapM (Zki a'.tmps); Pure.pure (if h : vs.size = 1 then vs[0] else .tuple vs)) := rfl
   rw [e0, Array.mapM_eq_mapM_toList, q1]
   simp [Zki]
  ·rw [h10]
   have : vs = (cs.map exV).toArray := by
    apply Array.ext
    ·simpa using h11
    ·intro i h3 h4
     have hi : i < cs.length := by simpa using h4
     have h14 := h13 i (by simpa using hi)
     simp only [List.getElem_map] at h14
     obtain ⟨F, hg2, _⟩ := h14.g_inv
     have := (hg2.exv (hok _ (List.getElem_mem hi))).1
     simp only [Array.getD, dif_pos h3, Array.getInternal_eq_getElem] at this
     simpa using this
   rw [this]
 refine wp_mono (h.run ⟨w, [], none⟩ _ w ⟨_, _, hrel⟩) fun e a' w' ⟨S', h1, μ', who', h2⟩ => ?_
 cases e with
 | normal => exact fin h1 h2
 | ret => exact fin h1 h2
 | exit | goto | panic | outgrown => exact h1.elim
theorem Con.unex {P : Program}  {e : Nat}   (he : ∀ args w, (callFunc f args).run P w = .ok (.enter f args) w) (h : ∀ v, Con P f [.ex v e xs] r) : Con P f [.sl e xs] r :=
 ⟨he, fun w args hl hg => by
  obtain ⟨F, h0⟩ := hg 0 (by simp)
  refine (h (args[0]'(by rw [hl]; simp))).calls w args hl fun i hi => ?_
  have : i = 0 := by simpa using hi
  subst this
  exact ⟨F, .ex _ _ _ F h0⟩⟩
end Go.Proofs.YtabfpoflhacknaaGreat

