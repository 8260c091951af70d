/- Abstract states as lists: lookups, constants, parts of lists; the judgements of a walk. Over any program; no conditions. -/
import Derived.Test.YtnieejghoaccmaaKC
namespace Go.Proofs.Ytnieejghoaccmaa
open Go.RowKit
open Shp
variable {a b off k lo : Nat} {p : Prop} {ty : TypeId} {α : Type} {x : GV} {gs xs : List GV} {ps : List PV}
def Zbg : List (Nat × PV) → Nat → PV
 | [], _ => .undef
 | (d, v) :: sl, t => if t = d then v else Zbg sl t
def ZaM : List (Nat × Block) → Nat → Block
 | [], _ => .free
 | (d, b) :: hl, j => if j = d then b else ZaM hl j
def mkX (n : Nat) (sl : List (Nat × PV)) (hl : List (Nat × Block)) (nx : Nat) : AState := ⟨n, Zbg sl, ZaM hl, nx⟩
structure SL (sl : List (Nat × PV)) (t : Nat) (v : PV) : Prop where
 e : Zbg sl t = v
structure HL (hl : List (Nat × Block)) (j : Nat) (b : Block) : Prop where
 e : ZaM hl j = b
structure EV (sl : List (Nat × PV)) (tab : Tab) (ty : TypeId) (x : Operand) (v : PV) : Prop where
 e : ∀ n hl nx, (mkX n sl hl nx).ev tab ty x = v
def NE (a b : Nat) : Prop := Nat.beq a b = false
theorem NE.mk  (h : Nat.beq a b = false) : NE a b := h
theorem NE.e  (h : NE a b) : Nat.beq a b = false := h
def RF (p : Prop) : Prop := p
theorem RF.mk  (h : p) : RF p := h
theorem RF.e  (h : RF p) : p := h
def NU (p : Prop) : Prop := p
theorem NU.mk  (h : p) : NU p := h
theorem NU.e  (h : NU p) : p := h
section
variable {sl : List (Nat × PV)} {hl : List (Nat × Block)} {t d j n nx : Nat} {v u : PV} {B B' : Block}
theorem Zvo  (h : NE a b) : a ≠ b := by intro e; subst e; have := h.e; simp at this
theorem Zru (sl : List (Nat × PV)) (t : Nat) (v : PV) : SL ((t, v) :: sl) t v := ⟨by simp [Zbg]⟩
theorem Zwv (h : NE t d) (h2 : SL sl t u) : SL ((d, v) :: sl) t u := ⟨by simp [Zbg, Zvo h, h2.e]⟩
theorem Zte (hl : List (Nat × Block)) (j : Nat) (b : Block) : HL ((j, b) :: hl) j b := ⟨by simp [ZaM]⟩
theorem Zwr (h : NE j d) (h2 : HL hl j B) : HL ((d, B') :: hl) j B := ⟨by simp [ZaM, Zvo h, h2.e]⟩
theorem Zue (j : Nat) : HL [] j .free := ⟨rfl⟩
theorem Znn : (mkX n sl hl nx).slots t = Zbg sl t := rfl
theorem Zcp : (mkX n sl hl nx).heap j = ZaM hl j := rfl
theorem ZeL : (mkX n sl hl nx).nx = nx := rfl
theorem Zw1 : (mkX n sl hl nx).n = n := rfl
theorem Zk3 (v : PV) : (mkX n sl hl nx).put (some d) v = mkX n ((d, v) :: sl) hl nx :=
 AState.ext' rfl (fun t => by simp only [Zg0, Znn, Zbg]) (fun _ => rfl) rfl
theorem ZuL (v : PV) : (mkX n sl hl nx).put none v = mkX n sl hl nx := rfl
theorem ZgP (id : Nat) (b : Block) : (mkX n sl hl nx).writes [(id, b)] = mkX n sl ((id, b) :: hl) nx :=
 AState.ext' rfl (fun _ => rfl) (fun j => by simp only [Zhh, Zcp, ZaM]) rfl
def ZeF : List (Nat × Block) → List (Nat × Block) → List (Nat × Block)
 | [], hl => hl
 | w :: ws, hl => ZeF ws (w :: hl)
theorem Zby : ∀ (ws : List (Nat × Block)) (hl : List (Nat × Block)), (mkX n sl hl nx).writes ws = mkX n sl (ZeF ws hl) nx
 | [], hl => rfl
 | (id, b) :: ws, hl => by
  rw [AState.writes_cons]
  have : (mkX n sl hl nx).write id b = mkX n sl ((id, b) :: hl) nx := ZgP id b
  rw [this, Zby ws]; rfl
def putL (d : Option Nat) (v : PV) (sl : List (Nat × PV)) : List (Nat × PV) := match d with | some d => (d, v) :: sl | none => sl
theorem Ze7 (d : Option Nat) (v : PV) : (mkX n sl hl nx).put d v = mkX n (putL d v sl) hl nx := by cases d; exact ZuL v; exact Zk3 v
theorem Zb9 : ∀ (ws vs hl : List (Nat × Block)), ZeF (ws ++ vs) hl = ZeF vs (ZeF ws hl)
 | [], _, _ => rfl
 | w :: ws, vs, hl => Zb9 ws vs (w :: hl)
def Zbl : List Nat → List (Nat × Block) → List (Nat × Block)
 | [], hl => hl
 | k :: ks, hl => Zbl ks ((k, .dead) :: hl)
theorem Zb1 : ∀ (ks : List Nat) (hl : List (Nat × Block)), ZeF (Zcq ks) hl = Zbl ks hl
 | [], _ => rfl
 | k :: ks, hl => Zb1 ks ((k, .dead) :: hl)
theorem Zeq : ∀ (ks : List Nat) (hl : List (Nat × Block)), ZaM (Zbl ks hl) = killL (ZaM hl) ks
 | [], _ => rfl
 | k :: ks, hl => by
  rw [Zbl, Zeq ks]
  show killL _ ks = killL (upd (ZaM hl) k .dead) ks
  congr 1
theorem ZvM {tab : Tab}  (h : SL sl t u) : EV sl tab ty (.tmp t) u := ⟨fun _ _ _ => h.e⟩
theorem ZvF (sl : List (Nat × PV)) (tab : Tab) (ty : TypeId) (k : IntKind) (n : Int) : EV sl tab ty (.const (.int k n)) (.g (.int k n)) := ⟨fun _ _ _ => rfl⟩
theorem ZqW (sl : List (Nat × PV)) (tab : Tab) (ty : TypeId) (b : Bool) : EV sl tab ty (.const (.bool b)) (.g (.bool b)) := ⟨fun _ _ _ => rfl⟩
theorem Zuc (sl : List (Nat × PV)) (tab : Tab) (ty : TypeId) (s : ByteArray) : EV sl tab ty (.const (.string s)) (.g (.str s)) := ⟨fun _ _ _ => rfl⟩
theorem Zrm (sl : List (Nat × PV)) (tab : Tab) (ty : TypeId) : EV sl tab ty (.const (.pointer none)) (.g .nilp) := ⟨fun _ _ _ => rfl⟩
theorem ZrT (sl : List (Nat × PV)) (tab : Tab) (ty : TypeId) (f : FuncId) : EV sl tab ty (.func f) (.fn f []) := ⟨fun _ _ _ => rfl⟩
theorem ZvJ {tab : Tab}  {E e : Nat} (h1 : RF (ZbU tab ty = some (E, e + 1))) : EV sl tab ty (.const (.slice none 0 0)) (.nils (e + 1)) := ⟨fun n hl nx => by
 have h := h1.e
 unfold ZbU at h
 simp only [AState.ev, cst]
 split at h
 ·cases h
 ·rename_i ti e1
  split at h
  ·rename_i E' e2
   split at h
   ·rename_i ei e3
    simp only [Option.some.injEq, Prod.mk.injEq] at h
    obtain ⟨rfl, h6⟩ := h
    simp only [e1, e2, e3, h6]
    rw [if_pos (by omega)]
   ·cases h
  ·cases h⟩
structure Sel (sl : List (Nat × PV)) (L : List Nat) (sl' : List (Nat × PV)) : Prop where
 e : ∀ t, Zbg sl' t = .undef ∨ Zbg sl' t = Zbg sl t
theorem Zsy (sl : List (Nat × PV)) : Sel sl [] [] := ⟨fun _ => .inl rfl⟩
theorem Zqp {L : List Nat} {sl' : List (Nat × PV)} (h : SL sl t v) (h2 : Sel sl L sl') : Sel sl (t :: L) ((t, v) :: sl') := ⟨fun s => by
 by_cases e : s = t
 ·subst e; right; simp [Zbg, h.e]
 ·simpa [Zbg, e] using h2.e s⟩
structure Sub {α : Type} (cs : List α) (off n : Nat) (cs' : List α) : Prop where
 e : (cs.drop off).take n = cs'
 l : off + n ≤ cs.length
theorem ZsH  (cs : List α) : Sub cs 0 0 [] := ⟨by simp, by simp⟩
theorem Zpz  {c : α} {cs cs' : List α} {n : Nat} (h : Sub cs 0 n cs') : Sub (c :: cs) 0 (n + 1) (c :: cs') := ⟨by simpa using h.e, by have := h.l; simp; omega⟩
theorem Zpa  {c : α} {cs cs' : List α} {n : Nat} (h : Sub cs off n cs') : Sub (c :: cs) (off + 1) n cs' := ⟨by simpa using h.e, by have := h.l; simp; omega⟩
structure Idx {α : Type} (cs : List α) (k : Nat) (c : α) : Prop where
 e : cs[k]? = some c
theorem ZoG  (c : α) (cs : List α) : Idx (c :: cs) 0 c := ⟨rfl⟩
theorem Zpk  {c d : α} {cs : List α}  (h : Idx cs k c) : Idx (d :: cs) (k + 1) c := ⟨by simpa using h.e⟩
structure Dr {α : Type} (cs : List α) (k : Nat) (cs' : List α) : Prop where
 e : cs.drop k = cs'
theorem ZqS  (cs : List α) : Dr cs 0 cs := ⟨rfl⟩
theorem ZsR  {d : α} {cs cs' : List α}  (h : Dr cs k cs') : Dr (d :: cs) (k + 1) cs' := ⟨by simpa using h.e⟩
structure SetL {α : Type} (cs : List α) (off : Nat) (ps cs' : List α) : Prop where
 e : setL cs off ps = cs'
 l : off + ps.length ≤ cs.length
theorem Zo0  (cs : List α) : SetL cs 0 [] cs := ⟨by simp [setL], by simp⟩
theorem ZoJ  {c p : α} {cs ps cs' : List α} (h : SetL cs 0 ps cs') : SetL (c :: cs) 0 (p :: ps) (p :: cs') := ⟨by have := h.e; simpa [setL] using this, by have := h.l; simp; omega⟩
theorem ZnX  {c : α} {cs ps cs' : List α}  (h : SetL cs off ps cs') : SetL (c :: cs) (off + 1) ps (c :: cs') := ⟨by have := h.e; simp only [setL, List.take_succ_cons, List.cons_append] at *; rw [show off + 1 + ps.length = (off + ps.length) + 1 by omega, List.drop_succ_cons, this], by have := h.l; simp; omega⟩
structure MapG (gs : List GV) (ps : List PV) : Prop where
 e : gs.map PV.g = ps
theorem Zpu : MapG [] [] := ⟨rfl⟩
theorem Zne  (h : MapG gs ps) : MapG (x :: gs) (.g x :: ps) := ⟨by simp [h.e]⟩
structure CP (p : PV) (cs : List PV) : Prop where
 e : p.cells = cs
 v : p.val = true
theorem Zt1 (cs : List PV) : CP (.agg cs) cs := ⟨rfl, rfl⟩
theorem ZtR (id lo len : Nat) : CP (.own id lo len) [.own id lo len] := ⟨rfl, rfl⟩
theorem ZrF (e : Nat) : CP (.nils e) [.nils e] := ⟨rfl, rfl⟩
theorem Zvl (id o : Nat) : CP (.ptr id o) [.ptr id o] := ⟨rfl, rfl⟩
theorem Zw8 (f : FuncId) (cs : List PV) : CP (.fn f cs) [.fn f cs] := ⟨rfl, rfl⟩
theorem ZuR (k : IntKind) (n : Int) : CP (.g (.int k n)) [.g (.int k n)] := ⟨rfl, rfl⟩
theorem ZsJ (b : Bool) : CP (.g (.bool b)) [.g (.bool b)] := ⟨rfl, rfl⟩
theorem ZvO (s : ByteArray) : CP (.g (.str s)) [.g (.str s)] := ⟨rfl, rfl⟩
theorem Zs2 : CP (.g .nilp) [.g .nilp] := ⟨rfl, rfl⟩
theorem ZwQ (e : Nat) (xs : List GV) : CP (.g (.sl e xs)) [.g (.sl e xs)] := ⟨rfl, rfl⟩
theorem Zwt (v : Value) (e : Nat) (xs : List GV) : CP (.g (.ex v e xs)) [.g (.ex v e xs)] := ⟨rfl, rfl⟩
theorem Zrw (cs : List GV) : CP (.g (.box cs)) [.g (.box cs)] := ⟨rfl, rfl⟩
theorem Zuk (f : FuncId) (cs : List GV) : CP (.g (.fn f cs)) [.g (.fn f cs)] := ⟨rfl, rfl⟩
theorem ZqQ  (h : MapG gs ps) : CP (.g (.agg gs)) ps := ⟨h.e, rfl⟩
structure CG (x : GV) (cs : List GV) : Prop where
 e : x.cells = cs
 t : x.isTup = false
theorem Zvf (k : IntKind) (n : Int) : CG (.int k n) [.int k n] := ⟨rfl, rfl⟩
theorem ZrV (b : Bool) : CG (.bool b) [.bool b] := ⟨rfl, rfl⟩
theorem Zwd (s : ByteArray) : CG (.str s) [.str s] := ⟨rfl, rfl⟩
theorem ZsD : CG .nilp [.nilp] := ⟨rfl, rfl⟩
theorem ZwU (e : Nat) (xs : List GV) : CG (.sl e xs) [.sl e xs] := ⟨rfl, rfl⟩
theorem ZwV (v : Value) (e : Nat) (xs : List GV) : CG (.ex v e xs) [.ex v e xs] := ⟨rfl, rfl⟩
theorem Ztk (c : Nat) (v : Value) : CG (.raw c v) [.raw c v] := ⟨rfl, rfl⟩
theorem ZtE (cs : List GV) : CG (.box cs) [.box cs] := ⟨rfl, rfl⟩
theorem Zvd (cs : List GV) : CG (.agg cs) cs := ⟨rfl, rfl⟩
structure LEN (xs : List GV) (n : Nat) : Prop where
 e : xs.length = n
theorem Zok  (f : α → GV) (ys : List α) : LEN (ys.map f) ys.length := ⟨by simp⟩
theorem Zm7 : LEN [] 0 := ⟨rfl⟩
theorem Zu9 (x : GV) : LEN [x] 1 := ⟨rfl⟩
theorem ZuT (x y : GV) : LEN [x, y] 2 := ⟨rfl⟩
theorem Zoa (xs : List GV) : LEN xs xs.length := ⟨rfl⟩
structure CUT' (xs : List GV) (lo len : Nat) (ys : List GV) : Prop where
 e : (xs.drop lo).take len = ys
 l : lo + len ≤ xs.length
def CUT (xs : List GV) (lo len : Nat) (ys : List GV) : Prop := CUT' xs lo len ys
theorem CUT.mk  {len : Nat} {ys : List GV} (h : CUT' xs lo len ys) : CUT xs lo len ys := h
theorem CUT.e {xs : List GV} {lo len : Nat} {ys : List GV} (h : CUT xs lo len ys) : (xs.drop lo).take len = ys := @CUT'.e _ _ _ _ h
theorem CUT.l {xs : List GV} {lo len : Nat} {ys : List GV} (h : CUT xs lo len ys) : lo + len ≤ xs.length := @CUT'.l _ _ _ _ h
theorem Zsr  {len n : Nat} (hn : LEN xs n) (h0 : lo = 0) (hl : len = n) : CUT xs lo len xs := CUT.mk ⟨by subst h0; subst hl; rw [← hn.e]; simp, by rw [hn.e]; omega⟩
theorem Zay  {f : α → GV} {ys : List α} {len : Nat} (hl : NU (lo + len ≤ ys.length)) : CUT (ys.map f) lo len (((ys.drop lo).take len).map f) := CUT.mk ⟨by rw [List.map_take, List.map_drop], by simpa using hl.e⟩
theorem ZaT  {f : α → GV} {ys : List α} {len : Nat} (h0 : lo = 0) (hl : NU (len ≤ ys.length)) : CUT (ys.map f) lo len ((ys.take len).map f) := CUT.mk ⟨by subst h0; rw [List.map_take]; simp, by have := hl.e; simp; omega⟩
theorem Zqo  {f : α → GV} {ys : List α} {len : Nat} (hl : lo + len = ys.length) : CUT (ys.map f) lo len ((ys.drop lo).map f) := CUT.mk ⟨by rw [List.map_drop, List.take_of_length_le (by simp; omega)], by simp; omega⟩
theorem ZaB  {len : Nat} (hl : NU (lo + len ≤ xs.length)) : CUT xs lo len ((xs.drop lo).take len) := CUT.mk ⟨rfl, hl.e⟩
structure CAT (xs ys zs : List GV) : Prop where
 e : xs ++ ys = zs
theorem Zq6 (ys : List GV) : CAT [] ys ys := ⟨rfl⟩
theorem Zs6  (f : α → GV) (xs ys : List α) : CAT (xs.map f) (ys.map f) ((xs ++ ys).map f) := ⟨by simp⟩
theorem ZrD  (f : α → GV) (xs : List α) (y : α) : CAT (xs.map f) [f y] ((xs ++ [y]).map f) := ⟨by simp⟩
theorem ZrS  (f : α → GV) (xs : List α) : CAT (xs.map f) [] (xs.map f) := ⟨by simp⟩
theorem ZpF  (f : α → GV) (x : α) (ys : List α) : CAT [f x] (ys.map f) ((x :: ys).map f) := ⟨by simp⟩
theorem Zst (xs ys : List GV) : CAT xs ys (xs ++ ys) := ⟨rfl⟩
structure ITM (xs : List GV) (n : Int) (x : GV) : Prop where
 e : xs[n.toNat]? = some x
 l : 0 ≤ n ∧ n < (xs.length : Int)
theorem Zje  [Inhabited α] {f : α → GV} {ys : List α} {n : Nat} (h : NU (n < ys.length)) : ITM (ys.map f) (n : Int) (f (nth ys n)) := ⟨ZkP h.e, by have := h.e; simp; omega⟩
theorem Ztv {ys : List Int}  {n : Nat} (e : RF (xs = ys.map GV.i)) (h : NU (n < ys.length)) : ITM xs (n : Int) (GV.i (nth ys n)) := by
 have e1 := e.e
 subst e1
 exact Zje h
theorem Zp4  [Inhabited α] {f : α → GV} {ys : List α} (n : Nat) (h : NU (n < ys.length)) : ITM (ys.map f) (OfNat.ofNat n) (f (nth ys n)) := ⟨ZkP h.e, by have := h.e; constructor; exact Int.natCast_nonneg n; simp; exact Int.ofNat_lt.2 this⟩
theorem Zp1  [Inhabited α] {f : α → GV} {ys : List α} {n : Nat} (h : NU (n + 1 < ys.length)) : ITM (ys.map f) ((n : Int) + 1) (f (nth ys (n + 1))) := ⟨ZkP h.e, by have := h.e; simp; omega⟩
theorem ZpT  [Inhabited α] {f : α → GV} {ys : List α} {n : Nat} (h : NU (1 ≤ n ∧ n ≤ ys.length)) : ITM (ys.map f) ((n : Int) - 1) (f (nth ys (n - 1))) := by
 have h1 := h.e
 have e1 : (n : Int) - 1 = ((n - 1 : Nat) : Int) := by omega
 rw [e1]
 exact Zje (NU.mk (by omega))
theorem Zsl  [Inhabited α] {f : α → GV} {ys : List α} {n : Int} (h : NU (0 ≤ n ∧ n < (ys.length : Int))) : ITM (ys.map f) n (f (nth ys n.toNat)) := ⟨Zvt h.e, by have := h.e; simpa using this⟩
theorem Zsz  {n : Nat}  (h : RF (xs[n]? = some x)) : ITM xs (OfNat.ofNat n) x := ⟨h.e, by
 have := (List.getElem?_eq_some_iff.1 h.e).1
 constructor
 ·exact Int.natCast_nonneg n
 ·exact Int.ofNat_lt.2 this⟩
theorem ZoA  {n : Nat}  (h : RF (xs[n]? = some x)) : ITM xs (n : Int) x := ⟨by simpa using h.e, by
 have := (List.getElem?_eq_some_iff.1 h.e).1
 omega⟩
def rawL {α : Type} (f : α → GV) (A : List α) (kk c : Nat) (v : Value) : List GV := (A.map f).set kk (.raw c v)
@[simp] theorem Zpv {α : Type} (f : α → GV) (A : List α) (kk c : Nat) (v : Value) : (rawL f A kk c v).length = A.length := by simp [rawL]
theorem Zta  {f : α → GV} {A : List α} {kk c : Nat} {v : Value} {n : Int} (h : NU (n = (kk : Int) ∧ kk < A.length)) : ITM (rawL f A kk c v) n (.raw c v) := by
 obtain ⟨h1, h2⟩ := h.e
 subst h1
 exact ⟨by simp [rawL, h2], by simp; omega⟩
structure PUT (xs : List GV) (k : Nat) (x : GV) (ys : List GV) : Prop where
 e : xs.set k x = ys
theorem Zrq  (f : α → GV) (ys : List α) (k : Nat) (y : α) : PUT (ys.map f) k (f y) ((ys.set k y).map f) := ⟨by rw [List.map_set]⟩
theorem Zre  (f : α → GV) (A : List α) (kk c k : Nat) (v : Value) (y : α) (h : NU (k = kk)) : PUT (rawL f A kk c v) k (f y) ((A.set kk y).map f) := ⟨by
 have := h.e
 subst this
 rw [rawL, List.set_set, List.map_set]⟩
theorem ZqV (xs : List GV) (k : Nat) (x : GV) : PUT xs k x (xs.set k x) := ⟨rfl⟩
end
end Go.Proofs.Ytnieejghoaccmaa
namespace Go.Proofs.Ytnieejghoaccmaa
open Go.RowKit
open Shp
variable {a c b u : Int} {k E off id j nid o f m : Nat} {t ft : TypeId} {ti si di fi : TI} {op : BinOp} {x y : Operand} {v p q : PV} {k' kk : IntKind} {cs cs' xs ys : List GV} {dp : Bool} {g : GV} {fs : List (Nat × TypeId)} {lo hi : Option Operand} {α : Type}
def NID (a k : Nat) : Prop := a = k
theorem NID.e {a : Nat} (h : NID a k) : a = k := h
theorem ZuJ {a : Nat} (h : a = k) : NID a k := h
structure SLT' (tab : Tab) (t E e : Nat) : Prop where
 h : ∃ ti ei, tab t = some ti ∧ ti.kind = .sl E ∧ tab E = some ei ∧ ei.size = e + 1
def SLT (tab : Tab) (t E e : Nat) : Prop := SLT' tab t E e
theorem SLT.mk {tab : Tab} {t e : Nat} (h : SLT' tab t E e) : SLT tab t E e := h
theorem SLT.h {tab : Tab} {t E e : Nat} (h : SLT tab t E e) : ∃ ti ei, tab t = some ti ∧ ti.kind = .sl E ∧ tab E = some ei ∧ ei.size = e + 1 := @SLT'.h _ _ _ _ h
theorem Zvj {tab : Tab} {t e : Nat} {ei : TI} (h1 : tab t = some ti) (h2 : ti.kind = .sl E) (h3 : tab E = some ei) (h4 : ei.size = e + 1) : SLT tab t E e := SLT.mk ⟨ti, ei, h1, h2, h3, h4⟩
theorem SLT.el {tab : Tab} {t e : Nat} (h : SLT tab t E e) : ZbU tab t = some (E, e + 1) := by
 obtain ⟨ti, ei, h1, h2, h3, h4⟩ := h.h
 simp only [ZbU, h1, h2, h3, h4]
section
variable {dr : Bool} {P : Program} {tab : Tab} {ops : Array Oper} {i : Nat} {os : List Oper} {acc : List (List Nat × List Nat)} {K : AState → List (List Nat × List Nat) → Prop}
variable {ty : TypeId} {pos : String} {af : Array Edge} {n nx d : Nat} {sl : List (Nat × PV)} {hl : List (Nat × Block)}
def AF (dr : Bool) (P : Program) (tab : Tab) (ops : Array Oper) (i : Nat) (os : List Oper) (n : Nat) (sl : List (Nat × PV)) (hl : List (Nat × Block)) (nx : Nat) (acc : List (List Nat × List Nat)) (K : AState → List (List Nat × List Nat) → Prop) : Prop := AX dr P tab ops i os (mkX n sl hl nx) acc K
abbrev tcX (tab : Tab) (i n : Nat) (sl : List (Nat × PV)) (hl : List (Nat × Block)) (nx : Nat) (o : Oper) (ws : List Nat) : List Nat × List Nat := tcW tab i (mkX n sl hl nx) o ws
theorem Zcc {dst : Option Nat} {op : Op} {pv : PV} {ws : List (Nat × Block)} (h2 : (mkX n sl hl nx).has dst = true) (h3 : aOp tab (nx + 8 * i) ⟨dst, op, ty, pos, af, none⟩ (mkX n sl hl nx) = some (pv, ws))
  (h4 : AF dr P tab ops (i + 1) os n (putL dst pv sl) (ZeF ws hl) nx (acc ++ [tcX tab i n sl hl nx ⟨dst, op, ty, pos, af, none⟩ (ws.map (·.1))]) K) : AF dr P tab ops i (⟨dst, op, ty, pos, af, none⟩ :: os) n sl hl nx acc K :=
 Zxi h2 h3 (by rw [Zby, Ze7]; exact h4)
theorem Zbz {d : Nat} (h : RF (hasB d n = true)) : (mkX n sl hl nx).has (some d) = true := by have := h.e; rw [ZlT, Zw1]; exact this
theorem Zvk  (hd : RF (hasB d n = true)) (hx : EV sl tab ty x v) (h4 : AF dr P tab ops (i + 1) os n ((d, v) :: sl) hl nx (acc ++ [tcX tab i n sl hl nx ⟨some d, .move x, ty, pos, af, none⟩ []]) K) : AF dr P tab ops i (⟨some d, .move x, ty, pos, af, none⟩ :: os) n sl hl nx acc K :=
 Zcc (ws := []) (Zbz hd) (by simp only [aOp, hx.e]) h4
theorem Zpj  (hd : RF (hasB d n = true)) (hx : EV sl tab ty x v) (h4 : AF dr P tab ops (i + 1) os n ((d, v) :: sl) hl nx (acc ++ [tcX tab i n sl hl nx ⟨some d, .assign x, ty, pos, af, none⟩ []]) K) : AF dr P tab ops i (⟨some d, .assign x, ty, pos, af, none⟩ :: os) n sl hl nx acc K :=
 Zcc (ws := []) (Zbz hd) (by simp only [aOp, hx.e]) h4
structure PK (c p q v : PV) : Prop where
 e : ZoR c p q = some (v, [])
theorem PK_t (p q : PV) : PK (.g (.bool true)) p q p := ⟨rfl⟩
theorem PK_f (p q : PV) : PK (.g (.bool false)) p q q := ⟨rfl⟩
theorem Zuu {c : Operand} {pc : PV} (hd : RF (hasB d n = true)) (hc : EV sl tab 0 c pc) (hx : EV sl tab ty x p) (hy : EV sl tab ty y q) (hp : PK pc p q v) (h4 : AF dr P tab ops (i + 1) os n ((d, v) :: sl) hl nx (acc ++ [tcX tab i n sl hl nx ⟨some d, .pick c x y, ty, pos, af, none⟩ []]) K) : AF dr P tab ops i (⟨some d, .pick c x y, ty, pos, af, none⟩ :: os) n sl hl nx acc K :=
 Zcc (ws := []) (Zbz hd) (by simp only [aOp, hx.e, hy.e, hc.e, hp.e]) h4
structure BN (tab : Tab) (t : TypeId) (op : BinOp) (x y v : PV) : Prop where
 e : ZhT tab op t x y = some (v, [])
theorem ZdP  {x y : PV} (h : aBin op x y = some (v, [])) : BN tab t op x y v := ⟨Zjj (ZpY h)⟩
theorem ZtT  (hb : NU (-9223372036854775808 ≤ a + b ∧ a + b ≤ 9223372036854775807)) : BN tab t .add (.g (.int .i64 a)) (.g (.int .i64 b)) (.g (.int .i64 (a + b))) := ZdP (by simp [aBin, Zde, wr64 hb.e.1 hb.e.2])
theorem Ztj  (hb : NU (-9223372036854775808 ≤ a - b ∧ a - b ≤ 9223372036854775807)) : BN tab t .sub (.g (.int .i64 a)) (.g (.int .i64 b)) (.g (.int .i64 (a - b))) := ZdP (by simp [aBin, Zde, wr64 hb.e.1 hb.e.2])
theorem Zuh  (hb : NU (-9223372036854775808 ≤ a * b ∧ a * b ≤ 9223372036854775807)) : BN tab t .mul (.g (.int .i64 a)) (.g (.int .i64 b)) (.g (.int .i64 (a * b))) := ZdP (by simp [aBin, Zde, wr64 hb.e.1 hb.e.2])
theorem Ztx  (hb : NU (0 ≤ a ∧ a ≤ 9223372036854775807 ∧ 0 < b)) : BN tab t .quo (.g (.int .i64 a)) (.g (.int .i64 b)) (.g (.int .i64 (a / b))) := ZdP (by
  have hb := hb.e
  have e1 : a.tdiv b = a / b := Int.tdiv_eq_ediv_of_nonneg hb.1
  have e2 : 0 ≤ a / b := Int.ediv_nonneg hb.1 (by omega)
  have e3 : a / b ≤ a := Int.ediv_le_self b hb.1
  have e4 : ¬ b = 0 := by omega
  simp [aBin, Zde, e1, e4, wr64 (show -9223372036854775808 ≤ a / b by omega) (show a / b ≤ 9223372036854775807 by omega)])
theorem ZvA  (hb : NU (0 ≤ a ∧ 0 < b)) : BN tab t .rem (.g (.int .i64 a)) (.g (.int .i64 b)) (.g (.int .i64 (a % b))) := ZdP (by
  have hb := hb.e
  have e1 : a.tmod b = a % b := Int.tmod_eq_emod_of_nonneg hb.1
  have e4 : ¬ b = 0 := by omega
  simp [aBin, Zde, e1, e4])
theorem Ztp  {k : IntKind} (hb : NU (0 ≤ a ∧ 0 ≤ b ∧ b ≤ 62 ∧ a * 2 ^ b.toNat ≤ 9223372036854775807)) : BN tab t .shl (.g (.int .i64 a)) (.g (.int k b)) (.g (.int .i64 (a * 2 ^ b.toNat))) := ZdP (by
  have hb := hb.e
  have h5 : 0 ≤ a * 2 ^ b.toNat := Int.mul_nonneg hb.1 (Int.pow_nonneg (by decide))
  have e1 : ¬ b < 0 := by omega
  have e2 : min b.toNat (IntKind.bits .i64) = b.toNat := Nat.min_eq_left (by show b.toNat ≤ 64; omega)
  simp only [aBin, e1, if_false, e2, wr64 (show -9223372036854775808 ≤ a * 2 ^ b.toNat by omega) hb.2.2.2])
theorem Zs3  (k : IntKind) (a b : Int) : BN tab t .add (.g (.int k a)) (.g (.int k b)) (.g (.int k (k.wrap (a + b)))) := ZdP (by simp [aBin, Zde])
theorem Zsc  (k : IntKind) (a b : Int) : BN tab t .mul (.g (.int k a)) (.g (.int k b)) (.g (.int k (k.wrap (a * b)))) := ZdP (by simp [aBin, Zde])
theorem Zua  (k : IntKind) (a b : Int) : BN tab t .and (.g (.int k a)) (.g (.int k b)) (.g (.int k (ZeT .and k a b))) := ZdP (by simp [aBin, Zde])
theorem ZvS  (k : IntKind) (a b : Int) : BN tab t .xor (.g (.int k a)) (.g (.int k b)) (.g (.int k (ZeT .xor k a b))) := ZdP (by simp [aBin, Zde])
theorem ZtF  {k : IntKind}  (hb : NU (0 ≤ b)) : BN tab t .shr (.g (.int k a)) (.g (.int k' b)) (.g (.int k (a.fdiv (2 ^ min b.toNat k.bits)))) := ZdP (by have := hb.e; simp [aBin, show ¬ b < 0 by omega])
theorem Zsg : BN tab t .shr (.g (.int .u64 a)) (.g (.int k' 1)) (.g (.int .u64 (a / 2))) := ZdP (by
 have e : a.fdiv (2 ^ min (Int.toNat 1) (IntKind.bits .u64)) = a / 2 := by
  show a.fdiv 2 = a / 2
  exact Int.fdiv_eq_ediv_of_nonneg a (by omega)
 simp only [aBin, show ¬ ((1 : Int) < 0) by omega, if_false, e])
theorem ZvK  (k : IntKind) (a b : Int) : BN tab t .eql (.g (.int k a)) (.g (.int k b)) (.g (.bool (a == b))) := ZdP (by simp [aBin, Zde])
theorem Zts  (k : IntKind) (a b : Int) : BN tab t .neq (.g (.int k a)) (.g (.int k b)) (.g (.bool (a != b))) := ZdP (by simp [aBin, Zde])
theorem Zux  (k : IntKind) (a b : Int) : BN tab t .lss (.g (.int k a)) (.g (.int k b)) (.g (.bool (decide (a < b)))) := ZdP (by simp [aBin, Zde])
theorem Zu7  (k : IntKind) (a b : Int) : BN tab t .leq (.g (.int k a)) (.g (.int k b)) (.g (.bool (decide (a ≤ b)))) := ZdP (by simp [aBin, Zde])
theorem ZvE  (k : IntKind) (a b : Int) : BN tab t .gtr (.g (.int k a)) (.g (.int k b)) (.g (.bool (decide (a > b)))) := ZdP (by simp [aBin, Zde])
theorem ZuS  (k : IntKind) (a b : Int) : BN tab t .geq (.g (.int k a)) (.g (.int k b)) (.g (.bool (decide (a ≥ b)))) := ZdP (by simp [aBin, Zde])
theorem Zt9  {a b : Bool} (h : RF (Zd5 tab t = true)) : BN tab t .eql (.g (.bool a)) (.g (.bool b)) (.g (.bool (a == b))) := ⟨Zjj (by simp only [Zgy, h.e, if_true])⟩
theorem ZvZ  {a b : Bool} (h : RF (Zd5 tab t = true)) : BN tab t .neq (.g (.bool a)) (.g (.bool b)) (.g (.bool (!(a == b)))) := ⟨Zjj (by simp only [Zgy, h.e, if_true])⟩
theorem Zwa (a b c d : Int) : ([a, b] == [c, d]) = decide ((a, b) = (c, d)) := by
 rw [Bool.eq_iff_iff]; simp
theorem ZpQ  (h : Zbr .i64 p = some [a, b]) : p = .agg [.g (.int .i64 a), .g (.int .i64 b)] ∨ p = .g (.agg [.int .i64 a, .int .i64 b]) := by
 unfold Zbr at h
 split at h
 ·have := ZiK h; subst this; exact .inl rfl
 ·have := Zji h; subst this; exact .inr rfl
 ·cases h
theorem ZnA  {d : Int} (hp : Zbr .i64 p = some [a, b]) (hq : Zbr .i64 q = some [c, d]) : Zgy tab op t p q = none := by
 rcases ZpQ hp with rfl | rfl <;> rcases ZpQ hq with rfl | rfl <;> cases op <;> rfl
theorem Zpo  {d : Int} (hp : Zbr .i64 p = some [a, b]) (hq : Zbr .i64 q = some [c, d]) (ht : RF (Zgl tab t = some (2, .i64))) : BN tab t .eql p q (.g (.bool (decide ((a, b) = (c, d))))) := ⟨by
 unfold ZhT
 rw [ZnA hp hq]
 rcases ZpQ hp with rfl | rfl <;> rcases ZpQ hq with rfl | rfl <;> simp only [ht.e, hp, hq, Zwa, List.length_cons, List.length_nil, and_self, if_true]⟩
theorem ZsQ  {d : Int} (ht : RF (Zgl tab t = some (2, .i64))) : BN tab t .eql (.agg [.g (.int .i64 a), .g (.int .i64 b)]) (.agg [.g (.int .i64 c), .g (.int .i64 d)]) (.g (.bool (decide ((a, b) = (c, d))))) := Zpo (by simp [Zbr, ZhH]) (by simp [Zbr, ZhH]) ht
theorem Zq7  {d : Int} (ht : RF (Zgl tab t = some (2, .i64))) : BN tab t .eql (.g (.agg [.int .i64 a, .int .i64 b])) (.agg [.g (.int .i64 c), .g (.int .i64 d)]) (.g (.bool (decide ((a, b) = (c, d))))) := Zpo (by simp [Zbr, ZhW]) (by simp [Zbr, ZhH]) ht
theorem Zq4  {d : Int} (ht : RF (Zgl tab t = some (2, .i64))) : BN tab t .eql (.agg [.g (.int .i64 a), .g (.int .i64 b)]) (.g (.agg [.int .i64 c, .int .i64 d])) (.g (.bool (decide ((a, b) = (c, d))))) := Zpo (by simp [Zbr, ZhH]) (by simp [Zbr, ZhW]) ht
theorem Zrk  {d : Int} (ht : RF (Zgl tab t = some (2, .i64))) : BN tab t .eql (.g (.agg [.int .i64 a, .int .i64 b])) (.g (.agg [.int .i64 c, .int .i64 d])) (.g (.bool (decide ((a, b) = (c, d))))) := Zpo (by simp [Zbr, ZhW]) (by simp [Zbr, ZhW]) ht
theorem ZtD  (a b : ByteArray) : BN tab t .eql (.g (.str a)) (.g (.str b)) (.g (.bool (a.toList == b.toList))) := ⟨by simp [ZhT, Zgy, aBin, Zmx]⟩
theorem Zu0  (a b : ByteArray) : BN tab t .neq (.g (.str a)) (.g (.str b)) (.g (.bool (!(a.toList == b.toList)))) := ⟨by simp [ZhT, Zgy, aBin, Zmx]⟩
theorem Zsa  {a b : ByteArray} (h : NU (a.size + b.size ≤ 9223372036854775807)) : BN tab t .add (.g (.str a)) (.g (.str b)) (.g (.str (a ++ b))) := ⟨by have := h.e; simp [ZhT, Zgy, aBin, Zmx, this]⟩
theorem Zxl  {t' : TypeId}   (hd : RF (hasB d n = true)) (hx : EV sl tab 0 x p) (hy : EV sl tab 0 y q) (hv : BN tab t op p q v) (h4 : AF dr P tab ops (i + 1) os n ((d, v) :: sl) hl nx (acc ++ [tcX tab i n sl hl nx ⟨some d, .binOp op t x y t', ty, pos, af, none⟩ []]) K) : AF dr P tab ops i (⟨some d, .binOp op t x y t', ty, pos, af, none⟩ :: os) n sl hl nx acc K :=
 Zcc (ws := []) (Zbz hd) (by simp only [aOp, hx.e, hy.e, hv.e]) h4
structure UN (op : UnOp) (x v : PV) : Prop where
 e : aUn op x = some (v, [])
theorem Zva (b : Bool) : UN .not (.g (.bool b)) (.g (.bool (!b))) := ⟨rfl⟩
theorem ZvR  (hb : NU (-9223372036854775807 ≤ a ∧ a ≤ 9223372036854775807)) : UN .neg (.g (.int .i64 a)) (.g (.int .i64 (0 - a))) := ⟨by have := hb.e; simp only [aUn]; rw [wr64 (by omega) (by omega)]⟩
theorem X_un {op : UnOp}    (hd : RF (hasB d n = true)) (hx : EV sl tab 0 x p) (hv : UN op p v) (h4 : AF dr P tab ops (i + 1) os n ((d, v) :: sl) hl nx (acc ++ [tcX tab i n sl hl nx ⟨some d, .unOp op t x, ty, pos, af, none⟩ []]) K) : AF dr P tab ops i (⟨some d, .unOp op t x, ty, pos, af, none⟩ :: os) n sl hl nx acc K :=
 Zcc (ws := []) (Zbz hd) (by simp only [aOp, hx.e, hv.e]) h4
structure CV (tab : Tab) (s t : TypeId) (x v : PV) : Prop where
 e : ZkH tab s t x = some (v, [])
theorem Zt2 {s : TypeId}  {k : IntKind}  (h5 : RF (tab s = some si ∧ si.kind = .int k)) (h6 : RF (tab t = some di ∧ di.kind = .int .i64)) (hb : NU (-9223372036854775808 ≤ a ∧ a ≤ 9223372036854775807)) : CV tab s t (.g (.int k' a)) (.g (.int .i64 a)) := ⟨by simp [ZkH, h5.e.1, h6.e.1, h5.e.2, h6.e.2, wr64 hb.e.1 hb.e.2]⟩
theorem wrU  (h1 : 0 ≤ a) (h2 : a ≤ 9223372036854775807) : IntKind.u64.wrap a = a := by
 have e : a % 2 ^ 64 = a := Int.emod_eq_of_lt h1 (by omega)
 simp only [IntKind.wrap, IntKind.bits, IntKind.signed, e]
 rfl
theorem ZvH {s : TypeId}  {k : IntKind}  (h5 : RF (tab s = some si ∧ si.kind = .int k)) (h6 : RF (tab t = some di ∧ di.kind = .int .u64)) (hb : NU (0 ≤ a ∧ a ≤ 9223372036854775807)) : CV tab s t (.g (.int k' a)) (.g (.int .u64 a)) := ⟨by simp [ZkH, h5.e.1, h6.e.1, h5.e.2, h6.e.2, wrU hb.e.1 hb.e.2]⟩
theorem ZsE {s : TypeId}  {k k2 : IntKind}  (h5 : RF (tab s = some si ∧ si.kind = .int k)) (h6 : RF (tab t = some di ∧ di.kind = .int k2)) : CV tab s t (.g (.int k' a)) (.g (.int k2 (k2.wrap a))) := ⟨by simp [ZkH, h5.e.1, h6.e.1, h5.e.2, h6.e.2]⟩
theorem ZuN {s : TypeId}   (hd : RF (hasB d n = true)) (hx : EV sl tab 0 x p) (hv : CV tab s t p v) (h4 : AF dr P tab ops (i + 1) os n ((d, v) :: sl) hl nx (acc ++ [tcX tab i n sl hl nx ⟨some d, .convert s t x, ty, pos, af, none⟩ []]) K) : AF dr P tab ops i (⟨some d, .convert s t x, ty, pos, af, none⟩ :: os) n sl hl nx acc K :=
 Zcc (ws := []) (Zbz hd) (by simp only [aOp, hx.e, hv.e]) h4
theorem ZqO {elem : TypeId}   {z : List PV} (hd : RF (hasB d n = true)) (ht : RF (tab elem = some ti ∧ ti.zero = z)) (hk : NID (nx + 8 * i) k) (hf : HL hl k .free) (h4 : AF dr P tab ops (i + 1) os n ((d, .ptr k 0) :: sl) ((k, .box z) :: hl) nx (acc ++ [tcX tab i n sl hl nx ⟨some d, .alloc elem, ty, pos, af, none⟩ [k]]) K) : AF dr P tab ops i (⟨some d, .alloc elem, ty, pos, af, none⟩ :: os) n sl hl nx acc K := by
 cases hk.e
 cases ht.e.2
 exact Zcc (ws := [(nx + 8 * i, .box ti.zero)]) (Zbz hd) (by simp only [aOp, ZjX, ht.e.1, ZeL, Zcp, hf.e, ZbZ, if_true]) h4
theorem Zwx {elem : TypeId}   {cs : List PV}  (hd : RF (hasB d n = true)) (hx : EV sl tab elem x p) (hp : CP p cs) (hk : NID (nx + 8 * i) k) (hf : HL hl k .free) (h4 : AF dr P tab ops (i + 1) os n ((d, .ptr k 0) :: sl) ((k, .box cs) :: hl) nx (acc ++ [tcX tab i n sl hl nx ⟨some d, .box elem x, ty, pos, af, none⟩ [k]]) K) : AF dr P tab ops i (⟨some d, .box elem x, ty, pos, af, none⟩ :: os) n sl hl nx acc K := by
 cases hk.e
 exact Zcc (ws := [(nx + 8 * i, .box cs)]) (Zbz hd) (by simp only [aOp, aBox, hx.e, hp.e, hp.v, Zcp, hf.e, ZbZ, Bool.and_self, if_true]) h4
structure LB (tab : Tab) (t : TypeId) (off : Nat) (cs : List PV) (v : PV) : Prop where
 e : ∃ ti, tab t = some ti ∧ Zel ti off cs = some v
theorem Zus  {cs : List PV}   (h : RF (tab t = some ti ∧ ti.kind.agg = false)) (h2 : Idx cs off v) : LB tab t off cs v := ⟨ti, h.e.1, by simp only [Zel, h.e.2, Bool.false_eq_true, if_false, h2.e]⟩
theorem ZtQ  {cs cs' : List PV}  {sz : Nat} (h : RF (tab t = some ti ∧ ti.kind.agg = true ∧ ti.size = sz)) (h2 : Sub cs off sz cs') : LB tab t off cs (.agg cs') := ⟨ti, h.e.1, by
 obtain ⟨h3, h4, h5⟩ := h.e
 have := h2.l
 simp only [Zel, h4, if_true, h5]
 rw [if_pos this, h2.e]⟩
structure LI (tab : Tab) (t : TypeId) (cs : List GV) (v : PV) : Prop where
 e : ∃ ti, tab t = some ti ∧ Zbs ti cs = some v
theorem Ztw  {c : GV}   (h : RF (tab t = some ti ∧ ti.kind.agg = false)) : LI tab t (c :: cs) (.g c) := ⟨ti, h.e.1, by simp [Zbs, h.e.2]⟩
theorem Zuf  {sz : Nat} (h : RF (tab t = some ti ∧ ti.kind.agg = true ∧ ti.size = sz)) (h2 : Sub cs 0 sz cs') : LI tab t cs (.g (.agg cs')) := ⟨ti, h.e.1, by
 obtain ⟨h3, h4, h5⟩ := h.e
 have := h2.l
 have h6 := h2.e
 simp at h6
 simp only [Zbs, h4, if_true, h5]
 rw [if_pos (by omega), h6]⟩
structure LD (tab : Tab) (hl : List (Nat × Block)) (t : TypeId) (p v : PV) : Prop where
 e : ZdQ tab (ZaM hl) t p = some (v, [])
theorem Zm6  {cs : List PV}  (hb : HL hl id (.box cs)) (hv : LB tab t off cs v) : LD tab hl t (.ptr id off) v := ⟨by obtain ⟨ti, h1, h2⟩ := hv.e; exact Zvq h1 hb.e h2⟩
theorem Zu1  (hv : LI tab t cs v) : LD tab hl t (.iptr cs) v := ⟨by obtain ⟨ti, h1, h2⟩ := hv.e; exact Zto h1 h2⟩
theorem Zr4  (hv : LI tab t cs v) : LD tab hl t (.g (.box cs)) v := ⟨by obtain ⟨ti, h1, h2⟩ := hv.e; exact ZsP h1 h2⟩
theorem ZvP  {e : Nat}   {x : GV}   (hb : HL hl id (.arr e dp xs)) (hx : ITM xs (k : Int) x) (hc : CG x cs) (hj : Dr cs j cs') (hv : LI tab t cs' v) : LD tab hl t (.eptr id k j) v := ⟨by
 obtain ⟨ti, h1, h2⟩ := hv.e
 have h3 := hx.e
 simp only [Int.toNat_natCast] at h3
 exact Zvy h1 hb.e h3 hc.t (by rw [hc.e, hj.e]; exact h2)⟩
theorem ZtL  (hd : RF (hasB d n = true)) (hx : EV sl tab 0 x p) (hv : LD tab hl t p v) (h4 : AF dr P tab ops (i + 1) os n ((d, v) :: sl) hl nx (acc ++ [tcX tab i n sl hl nx ⟨some d, .load t x, ty, pos, af, none⟩ []]) K) : AF dr P tab ops i (⟨some d, .load t x, ty, pos, af, none⟩ :: os) n sl hl nx acc K :=
 Zcc (ws := []) (Zbz hd) (by simp only [aOp, hx.e]; exact hv.e) h4
structure ST (tab : Tab) (nid : Nat) (hl : List (Nat × Block)) (t : TypeId) (p v : PV) (ws : List (Nat × Block)) : Prop where
 e : ZdU tab nid (ZaM hl) t p v = some (.none_, ws)
theorem ZvY  {sz : Nat} {cs cs' ps : List PV}  (hb : HL hl id (.box cs)) (hp : CP p ps) (ht : RF (tab t = some ti ∧ ti.size = sz)) (hs : RF (ps.length = sz)) (hc : SetL cs off ps cs') : ST tab nid hl t (.ptr id off) p [(id, .box cs')] := ⟨by
 obtain ⟨h1, h2⟩ := ht.e
 have h3 := hs.e
 have h4 := hc.l
 have h5 := hc.e
 subst h2
 simp only [ZdU, h1, hb.e, hp.v, hp.e, h3, Bool.true_and, beq_self_eq_true, h5]
 rw [if_pos (by simpa using (by omega : off + ti.size ≤ cs.length))]⟩
theorem ZqA  (hb : HL hl id (.arr 1 dp xs)) (ht : RF (tab t = some ti ∧ ti.size = 1)) (hg : RF (g.atom = true)) (hf : HL hl nid .free) (hy : PUT xs k g ys) (hk : NU (k < xs.length)) : ST tab nid hl t (.eptr id k 0) (.g g) [(id, .arr 1 dp ys)] := ⟨by
 obtain ⟨h1, h2⟩ := ht.e
 have hg := hg.e
 have e1 : g.ncells = 1 := by cases g <;> simp_all [GV.atom, GV.ncells]
 have e2 : g.isTup = false := by cases g <;> simp_all [GV.atom, GV.isTup]
 have e3 : g.flat = true := by cases g <;> simp_all [GV.atom, GV.flat]
 have e4 : absE (ZaM hl) (.g g) = some (g, [], true) := by simp [absE, Zbc, e3]
 have hk := hk.e
 have hy := hy.e
 subst hy
 simp only [ZdU, h1, hb.e, h2, hk, hf.e, ZbZ, and_self, if_true, e4, e1, e2, List.not_mem_nil, not_false_eq_true, Zcq, List.map_nil, List.nil_append, Bool.and_true]⟩
structure NP (hl : List (Nat × Block)) (p : PV) : Prop where
 e : p.isPtr (ZaM hl) = true
theorem Zv6  {cs : List PV} (h : HL hl id (.box cs)) : NP hl (.ptr id o) := ⟨by simp only [PV.isPtr, h.e]⟩
theorem ZsY {e : Nat}   (h : HL hl id (.arr e dp xs)) : NP hl (.eptr id k j) := ⟨by simp only [PV.isPtr, h.e]⟩
theorem ZrO (cs : List GV) : NP hl (.iptr cs) := ⟨rfl⟩
theorem Zsu (cs : List GV) : NP hl (.g (.box cs)) := ⟨rfl⟩
theorem ZwO (f : FuncId) (cs : List PV) : NP hl (.fn f cs) := ⟨rfl⟩
theorem ZtI  (hd : RF (hasB d n = true)) (hx : EV sl tab 0 x p) (hp : NP hl p) (h4 : AF dr P tab ops (i + 1) os n ((d, p) :: sl) hl nx (acc ++ [tcX tab i n sl hl nx ⟨some d, .nilCheck x, ty, pos, af, none⟩ []]) K) : AF dr P tab ops i (⟨some d, .nilCheck x, ty, pos, af, none⟩ :: os) n sl hl nx acc K :=
 Zcc (ws := []) (Zbz hd) (by simp only [aOp, hx.e, aNil]; rw [if_pos]; exact hp.e) h4
structure FL (tab : Tab) (hl : List (Nat × Block)) (s : TypeId) (x : PV) (f : Nat) (v : PV) : Prop where
 e : Zef tab (ZaM hl) s x f = some (v, [])
structure FO' (tab : Tab) (s : TypeId) (f off : Nat) : Prop where
 e : ∃ ti fs ft fi, tab s = some ti ∧ ti.kind = .st fs ∧ fs[f]? = some (off, ft) ∧ tab ft = some fi ∧ Nat.beq fi.size 0 = false
def FO (tab : Tab) (s : TypeId) (f off : Nat) : Prop := FO' tab s f off
theorem FO.mk {tab : Tab} {s : TypeId}  (h : FO' tab s f off) : FO tab s f off := h
theorem FO.e {tab : Tab} {s : TypeId} {f off : Nat} (h : FO tab s f off) : ∃ ti fs ft fi, tab s = some ti ∧ ti.kind = .st fs ∧ fs[f]? = some (off, ft) ∧ tab ft = some fi ∧ Nat.beq fi.size 0 = false := @FO'.e _ _ _ _ h
theorem Zwj {s : TypeId}     (h1 : tab s = some ti) (h2 : ti.kind = .st fs) (h3 : fs[f]? = some (off, ft)) (h4 : tab ft = some fi) (h5 : Nat.beq fi.size 0 = false) : FO tab s f off := FO.mk ⟨ti, fs, ft, fi, h1, h2, h3, h4, h5⟩
theorem ZuW {s : TypeId}  {cs : List PV} (ho : FO tab s f off) (h : HL hl id (.box cs)) : FL tab hl s (.ptr id o) f (.ptr id (o + off)) := ⟨by
 obtain ⟨ti, fs, ft, fi, h1, h2, h3, h4, h5⟩ := ho.e
 have h6 : ¬ fi.size = 0 := by intro e; rw [e] at h5; simp at h5
 simp only [Zef, h1, h2, h3, h4, h6, PV.isPtr, h.e, if_false, if_true]⟩
theorem Zri {s : TypeId} {e : Nat}   (ho : FO tab s f off) (h : HL hl id (.arr e dp xs)) : FL tab hl s (.eptr id k j) f (.eptr id k (j + off)) := ⟨by
 obtain ⟨ti, fs, ft, fi, h1, h2, h3, h4, h5⟩ := ho.e
 have h6 : ¬ fi.size = 0 := by intro e; rw [e] at h5; simp at h5
 simp only [Zef, h1, h2, h3, h4, h6, PV.isPtr, h.e, if_false, if_true]⟩
theorem Zs8 {s : TypeId}   (ho : FO tab s f off) (h : Dr cs off cs') : FL tab hl s (.iptr cs) f (.iptr cs') := ⟨by
 obtain ⟨ti, fs, ft, fi, h1, h2, h3, h4, h5⟩ := ho.e
 have h6 : ¬ fi.size = 0 := by intro e; rw [e] at h5; simp at h5
 simp only [Zef, h1, h2, h3, h4, h6, if_false, h.e]⟩
theorem Zq0 {s : TypeId}   (ho : FO tab s f off) (h : Dr cs off cs') : FL tab hl s (.g (.box cs)) f (.iptr cs') := ⟨by
 obtain ⟨ti, fs, ft, fi, h1, h2, h3, h4, h5⟩ := ho.e
 have h6 : ¬ fi.size = 0 := by intro e; rw [e] at h5; simp at h5
 simp only [Zef, h1, h2, h3, h4, h6, if_false, h.e]⟩
theorem Zwn {s : TypeId}    (hd : RF (hasB d n = true)) (hx : EV sl tab 0 x p) (hv : FL tab hl s p f v) (h4 : AF dr P tab ops (i + 1) os n ((d, v) :: sl) hl nx (acc ++ [tcX tab i n sl hl nx ⟨some d, .fieldAddr s x f, ty, pos, af, none⟩ []]) K) : AF dr P tab ops i (⟨some d, .fieldAddr s x f, ty, pos, af, none⟩ :: os) n sl hl nx acc K :=
 Zcc (ws := []) (Zbz hd) (by simp only [aOp, hx.e]; exact hv.e) h4
structure PT (tab : Tab) (t : TypeId) (x : PV) (f : Nat) (v : PV) : Prop where
 e : Zl2 tab t x f = some (v, [])
structure FO1' (tab : Tab) (s : TypeId) (f off : Nat) : Prop where
 e : ∃ ti fs ft fi, tab s = some ti ∧ ti.kind = .st fs ∧ fs[f]? = some (off, ft) ∧ tab ft = some fi ∧ fi.kind.agg = false
def FO1 (tab : Tab) (s : TypeId) (f off : Nat) : Prop := FO1' tab s f off
theorem FO1.mk {tab : Tab} {s : TypeId}  (h : FO1' tab s f off) : FO1 tab s f off := h
theorem FO1.e {tab : Tab} {s : TypeId} {f off : Nat} (h : FO1 tab s f off) : ∃ ti fs ft fi, tab s = some ti ∧ ti.kind = .st fs ∧ fs[f]? = some (off, ft) ∧ tab ft = some fi ∧ fi.kind.agg = false := @FO1'.e _ _ _ _ h
theorem ZuU {s : TypeId}     (h1 : tab s = some ti) (h2 : ti.kind = .st fs) (h3 : fs[f]? = some (off, ft)) (h4 : tab ft = some fi) (h5 : fi.kind.agg = false) : FO1 tab s f off := FO1.mk ⟨ti, fs, ft, fi, h1, h2, h3, h4, h5⟩
theorem ZtP  {cs : List PV}  (ho : FO1 tab t f off) (h : Idx cs off v) : PT tab t (.agg cs) f v := ⟨by
 obtain ⟨ti, fs, ft, fi, h1, h2, h3, h4, h5⟩ := ho.e
 simp only [Zl2, h1, h2, h3, h4, h5, Bool.false_eq_true, if_false, h.e]⟩
theorem Zro  {v : GV} (ho : FO1 tab t f off) (h : Idx cs off v) : PT tab t (.g (.agg cs)) f (.g v) := ⟨by
 obtain ⟨ti, fs, ft, fi, h1, h2, h3, h4, h5⟩ := ho.e
 simp only [Zl2, h1, h2, h3, h4, h5, Bool.false_eq_true, if_false, h.e]⟩
theorem Zvz  (hd : RF (hasB d n = true)) (hx : EV sl tab 0 x p) (hv : PT tab t p f v) (h4 : AF dr P tab ops (i + 1) os n ((d, v) :: sl) hl nx (acc ++ [tcX tab i n sl hl nx ⟨some d, .field t x f, ty, pos, af, none⟩ []]) K) : AF dr P tab ops i (⟨some d, .field t x f, ty, pos, af, none⟩ :: os) n sl hl nx acc K :=
 Zcc (ws := []) (Zbz hd) (by simp only [aOp, hx.e, hv.e]) h4
structure IX (tab : Tab) (hl : List (Nat × Block)) (t : TypeId) (x i v : PV) : Prop where
 e : ZbS tab (ZaM hl) t x i = some (v, [])
theorem Zqv  {e : Nat} {lo len : Nat}   {k : IntKind} {m : Int} (ht : SLT tab t E e) (hb : HL hl id (.arr (e + 1) dp xs)) (hn : NU (0 ≤ m ∧ m < (len : Int))) : IX tab hl t (.own id lo len) (.g (.int k m)) (.eptr id (lo + m.toNat) 0) := ⟨by
 obtain ⟨ti, ei, h1, h2, h3, h4⟩ := ht.h
 simp only [ZbS, h1, h2, h3, h4, hb.e, hn.e, and_self, if_true]⟩
theorem ZrC  {e : Nat} {len : Nat}   {k : IntKind}  (ht : SLT tab t E e) (hb : HL hl id (.arr (e + 1) dp xs)) (hn : NU (m < len)) : IX tab hl t (.own id 0 len) (.g (.int k (m : Int))) (.eptr id m 0) := ⟨by
 have := (Zqv (k := k) (lo := 0) ht hb (len := len) (m := (m : Int)) (NU.mk (by have := hn.e; omega))).e
 simpa using this⟩
theorem IX_g  {e : Nat}  {k : IntKind} {m : Int}   (ht : SLT tab t E e) (hg : ITM xs m g) (hc : CG g cs) : IX tab hl t (.g (.sl (e + 1) xs)) (.g (.int k m)) (.iptr cs) := ⟨by
 obtain ⟨ti, ei, h1, h2, h3, h4⟩ := ht.h
 have hgd : xs.getD m.toNat default = g := by simp [List.getD, hg.e]
 simp only [ZbS, h1, h2, h3, h4, hg.l, hgd, hc.t, hc.e, and_self, if_true]⟩
theorem Zwz  {e : Nat} {u : Value}  {k : IntKind} {m : Int}   (ht : SLT tab t E e) (hg : ITM xs m g) (hc : CG g cs) : IX tab hl t (.g (.ex u (e + 1) xs)) (.g (.int k m)) (.iptr cs) := ⟨by
 obtain ⟨ti, ei, h1, h2, h3, h4⟩ := ht.h
 have hgd : xs.getD m.toNat default = g := by simp [List.getD, hg.e]
 simp only [ZbS, h1, h2, h3, h4, hg.l, hgd, hc.t, hc.e, and_self, if_true]⟩
structure ART (tab : Tab) (t : TypeId) (m : Nat) : Prop where
 e : ∃ ti E ei, tab t = some ti ∧ ti.kind = .ar m E ∧ tab E = some ei ∧ ei.size = 1 ∧ ei.kind.agg = false
def arB (tab : Tab) (t : TypeId) (m : Nat) : Bool :=
 match tab t with
 | some ti => match ti.kind with
  | .ar m' E => match tab E with
   | some ei => Nat.beq m' m && Nat.beq ei.size 1 && !ei.kind.agg
   | none => false
  | _ => false
 | none => false
theorem ART.of  (h : RF (arB tab t m = true)) : ART tab t m := by
 have h := h.e
 unfold arB at h
 split at h
 ·rename_i ti hti
  split at h
  ·rename_i m' E hk
   split at h
   ·rename_i ei hE
    simp only [Bool.and_eq_true, Bool.not_eq_true'] at h
    have h1 := Nat.eq_of_beq_eq_true h.1.1
    subst h1
    exact ⟨ti, E, ei, hti, hk, hE, Nat.eq_of_beq_eq_true h.1.2, h.2⟩
   ·cases h
  ·cases h
 ·cases h
theorem Ztz  {e : Nat}    (ht : RF (arB tab t 2 = true)) (hb : HL hl id (.arr e dp xs)) : IX tab hl t (.eptr id k j) (.g (.int kk 0)) (.eptr id k j) := ⟨by
 obtain ⟨ti, E, ei, h1, h2, h3, h4, _⟩ := (ART.of ht).e
 simp [ZbS, h1, h2, h3, h4, PV.isPtr, hb.e]⟩
theorem Zt0  {e : Nat}    (ht : RF (arB tab t 2 = true)) (hb : HL hl id (.arr e dp xs)) : IX tab hl t (.eptr id k j) (.g (.int kk 1)) (.eptr id k (j + 1)) := ⟨by
 obtain ⟨ti, E, ei, h1, h2, h3, h4, _⟩ := (ART.of ht).e
 simp [ZbS, h1, h2, h3, h4, PV.isPtr, hb.e]⟩
theorem Zul  {cs : List PV}  (ht : RF (arB tab t 2 = true)) (hb : HL hl id (.box cs)) : IX tab hl t (.ptr id j) (.g (.int kk 0)) (.ptr id j) := ⟨by
 obtain ⟨ti, E, ei, h1, h2, h3, h4, _⟩ := (ART.of ht).e
 simp [ZbS, h1, h2, h3, h4, PV.isPtr, hb.e]⟩
theorem ZtM  {cs : List PV}  (ht : RF (arB tab t 2 = true)) (hb : HL hl id (.box cs)) : IX tab hl t (.ptr id j) (.g (.int kk 1)) (.ptr id (j + 1)) := ⟨by
 obtain ⟨ti, E, ei, h1, h2, h3, h4, _⟩ := (ART.of ht).e
 simp [ZbS, h1, h2, h3, h4, PV.isPtr, hb.e]⟩
theorem Zv7  {cs : List PV}  (ht : RF (arB tab t 2 = true)) (hb : HL hl id (.box cs)) (hm : NU (m < 2)) : IX tab hl t (.ptr id 0) (.g (.int kk (m : Int))) (.ptr id m) := ⟨by
 obtain ⟨ti, E, ei, h1, h2, h3, h4, _⟩ := (ART.of ht).e
 have h5 := hb.e
 have h6 := hm.e
 have h7 : (0 : Int) ≤ (m : Int) ∧ (m : Int) < ((2 : Nat) : Int) := by omega
 simp only [ZbS, h1, h2, h3, h4, h7, and_self, if_true, PV.isPtr, h5, Int.toNat_natCast, Nat.zero_add, Nat.mul_one]⟩
theorem Zuz  {cs : List PV}  (hb : HL hl id (.box cs)) (h0 : LB tab t 0 cs (.g (.int .i64 a))) (h1 : LB tab t 1 cs (.g (.int .i64 b))) (hm : NU (m < 2)) : LD tab hl t (.ptr id m) (.g (.int .i64 (if (m : Int) = 0 then a else b))) := by
 have h6 := hm.e
 have h : m = 0 ∨ m = 1 := by omega
 rcases h with rfl | rfl
 ·exact Zm6 hb h0
 ·exact Zm6 hb h1
theorem Zu3  (ht : RF (arB tab t 2 = true)) : IX tab hl t (.iptr cs) (.g (.int kk 0)) (.iptr cs) := ⟨by
 obtain ⟨ti, E, ei, h1, h2, h3, h4, _⟩ := (ART.of ht).e
 simp [ZbS, h1, h2, h3, h4]⟩
theorem ZuK  {c : GV}   (ht : RF (arB tab t 2 = true)) : IX tab hl t (.iptr (c :: cs)) (.g (.int kk 1)) (.iptr cs) := ⟨by
 obtain ⟨ti, E, ei, h1, h2, h3, h4, _⟩ := (ART.of ht).e
 simp [ZbS, h1, h2, h3, h4]⟩
theorem Zui  (ht : RF (arB tab t 2 = true)) : IX tab hl t (.g (.box cs)) (.g (.int kk 0)) (.iptr cs) := ⟨by
 obtain ⟨ti, E, ei, h1, h2, h3, h4, _⟩ := (ART.of ht).e
 simp [ZbS, h1, h2, h3, h4]⟩
theorem Zvu  {c : GV}   (ht : RF (arB tab t 2 = true)) : IX tab hl t (.g (.box (c :: cs))) (.g (.int kk 1)) (.iptr cs) := ⟨by
 obtain ⟨ti, E, ei, h1, h2, h3, h4, _⟩ := (ART.of ht).e
 simp [ZbS, h1, h2, h3, h4]⟩
structure IDX (tab : Tab) (t : TypeId) (x i v : PV) : Prop where
 e : aIdx tab t x i = some (v, [])
theorem Zwc  {a b : PV}  (ht : RF (arB tab t 2 = true)) : IDX tab t (.agg [a, b]) (.g (.int kk 0)) a := ⟨by
 obtain ⟨ti, E, ei, h1, h2, h3, h4, h5⟩ := (ART.of ht).e
 simp [aIdx, h1, h2, h3, h4, h5]⟩
theorem Zu5  {a b : PV}  (ht : RF (arB tab t 2 = true)) : IDX tab t (.agg [a, b]) (.g (.int kk 1)) b := ⟨by
 obtain ⟨ti, E, ei, h1, h2, h3, h4, h5⟩ := (ART.of ht).e
 simp [aIdx, h1, h2, h3, h4, h5]⟩
theorem Zvh  {a b : GV}  (ht : RF (arB tab t 2 = true)) : IDX tab t (.g (.agg [a, b])) (.g (.int kk 0)) (.g a) := ⟨by
 obtain ⟨ti, E, ei, h1, h2, h3, h4, h5⟩ := (ART.of ht).e
 simp [aIdx, h1, h2, h3, h4, h5]⟩
theorem ZtB  {a b : GV}  (ht : RF (arB tab t 2 = true)) : IDX tab t (.g (.agg [a, b])) (.g (.int kk 1)) (.g b) := ⟨by
 obtain ⟨ti, E, ei, h1, h2, h3, h4, h5⟩ := (ART.of ht).e
 simp [aIdx, h1, h2, h3, h4, h5]⟩
theorem Zuo  {m : Int} (ht : RF (arB tab t 2 = true)) (hm : NU (0 ≤ m ∧ m ≤ 1)) : IDX tab t (.g (.agg [.int .i64 a, .int .i64 b])) (.g (.int kk m)) (.g (.int .i64 (if m = 0 then a else b))) := ⟨by
 obtain ⟨ti, E, ei, h1, h2, h3, h4, h5⟩ := (ART.of ht).e
 have hm := hm.e
 have : m = 0 ∨ m = 1 := by omega
 rcases this with rfl | rfl <;> simp [aIdx, h1, h2, h3, h4, h5]⟩
theorem ZwF  (hd : RF (hasB d n = true)) (hx : EV sl tab 0 x p) (hy : EV sl tab 0 y q) (hv : IDX tab t p q v) (h4 : AF dr P tab ops (i + 1) os n ((d, v) :: sl) hl nx (acc ++ [tcX tab i n sl hl nx ⟨some d, .index t x y, ty, pos, af, none⟩ []]) K) : AF dr P tab ops i (⟨some d, .index t x y, ty, pos, af, none⟩ :: os) n sl hl nx acc K :=
 Zcc (ws := []) (Zbz hd) (by simp only [aOp, hx.e, hy.e]; exact hv.e) h4
theorem X_ix  (hd : RF (hasB d n = true)) (hx : EV sl tab 0 x p) (hy : EV sl tab 0 y q) (hv : IX tab hl t p q v) (h4 : AF dr P tab ops (i + 1) os n ((d, v) :: sl) hl nx (acc ++ [tcX tab i n sl hl nx ⟨some d, .indexAddr t x y, ty, pos, af, none⟩ []]) K) : AF dr P tab ops i (⟨some d, .indexAddr t x y, ty, pos, af, none⟩ :: os) n sl hl nx acc K :=
 Zcc (ws := []) (Zbz hd) (by simp only [aOp, hx.e, hy.e]; exact hv.e) h4
structure BD (sl : List (Nat × PV)) (tab : Tab) (x : Option Operand) (m : Nat) (v : Int) : Prop where
 e : ∀ n hl nx, bnd (x.map ((mkX n sl hl nx).ev tab 0)) m = some v
theorem Zsm (sl : List (Nat × PV)) (m : Nat) : BD sl tab none m (m : Int) := ⟨fun _ _ _ => rfl⟩
theorem Zrj  {k : IntKind} {v : Int} (h : EV sl tab 0 x (.g (.int k v))) : BD sl tab (some x) m v := ⟨fun _ _ _ => by simp only [Option.map_some, h.e, bnd]⟩
structure SLI (sl : List (Nat × PV)) (tab : Tab) (hl : List (Nat × Block)) (t : TypeId) (x : PV) (lo hi : Option Operand) (v : PV) : Prop where
 e : ∀ n nx, Zfd tab (ZaM hl) t x (lo.map ((mkX n sl hl nx).ev tab 0)) (hi.map ((mkX n sl hl nx).ev tab 0)) = some (v, [])
theorem Zsh  {e : Nat} {l0 len : Nat}    {l : Int} (ht : SLT tab t E e) (hb : HL hl id (.arr (e + 1) dp xs)) (h5 : BD sl tab lo 0 l) (h6 : BD sl tab hi len u) (hn : NU (0 ≤ l ∧ l ≤ u ∧ u ≤ (len : Int))) : SLI sl tab hl t (.own id l0 len) lo hi (.own id (l0 + l.toNat) (u.toNat - l.toNat)) := ⟨fun n nx => by
 obtain ⟨ti, ei, h1, h2, h3, h4⟩ := ht.h
 simp only [Zfd, h1, h2, h3, h4, hb.e, h5.e n hl nx, h6.e n hl nx, hn.e, and_self, if_true]⟩
structure CUG' (xs : List GV) (l u : Int) (ys : List GV) : Prop where
 e : (xs.drop l.toNat).take (u.toNat - l.toNat) = ys
 l : 0 ≤ l ∧ l ≤ u ∧ u ≤ (xs.length : Int)
def CUG (xs : List GV) (l u : Int) (ys : List GV) : Prop := CUG' xs l u ys
theorem CUG.mk  {l : Int}  (h : CUG' xs l u ys) : CUG xs l u ys := h
theorem CUG.e {xs : List GV} {l u : Int} {ys : List GV} (h : CUG xs l u ys) : (xs.drop l.toNat).take (u.toNat - l.toNat) = ys := @CUG'.e _ _ _ _ h
theorem CUG.l {xs : List GV} {l u : Int} {ys : List GV} (h : CUG xs l u ys) : 0 ≤ l ∧ l ≤ u ∧ u ≤ (xs.length : Int) := @CUG'.l _ _ _ _ h
theorem Zaf  {f : α → GV} {ys : List α}  (h : NU (0 ≤ u ∧ u ≤ (ys.length : Int))) : CUG (ys.map f) 0 u ((ys.take u.toNat).map f) := CUG.mk ⟨by simp [List.map_take], by have := h.e; simp; omega⟩
theorem ZaU  {f : α → GV} {ys : List α} {l : Int} {u : Nat} (h : NU (0 ≤ l ∧ l ≤ (ys.length : Int))) (hu : u = (ys.map f).length) : CUG (ys.map f) l (u : Int) ((ys.drop l.toNat).map f) := CUG.mk ⟨by
 subst hu
 rw [List.map_drop, List.take_of_length_le (by simp)], by have := h.e; subst hu; simp; omega⟩
theorem ZaC  {f : α → GV} {ys : List α} {l : Int} (h : NU (0 ≤ l ∧ l ≤ u ∧ u ≤ (ys.length : Int))) : CUG (ys.map f) l u (((ys.drop l.toNat).take (u.toNat - l.toNat)).map f) := CUG.mk ⟨by rw [List.map_take, List.map_drop], by have := h.e; simp; omega⟩
theorem Zaw  {l : Int} (h : NU (0 ≤ l ∧ l ≤ u ∧ u ≤ (xs.length : Int))) : CUG xs l u ((xs.drop l.toNat).take (u.toNat - l.toNat)) := CUG.mk ⟨rfl, h.e⟩
theorem Zxj  {e : Nat}   {l : Int} (ht : SLT tab t E e) (h5 : BD sl tab lo 0 l) (h6 : BD sl tab hi xs.length u) (hn : CUG xs l u ys) : SLI sl tab hl t (.g (.sl (e + 1) xs)) lo hi (.g (.sl (e + 1) ys)) := ⟨fun n nx => by
 obtain ⟨ti, ei, h1, h2, h3, h4⟩ := ht.h
 simp only [Zfd, h1, h2, h3, h4, h5.e n hl nx, h6.e n hl nx, hn.l, and_self, if_true, hn.e]⟩
theorem Zs1  (hd : RF (hasB d n = true)) (hx : EV sl tab 0 x p) (hv : SLI sl tab hl t p lo hi v) (h4 : AF dr P tab ops (i + 1) os n ((d, v) :: sl) hl nx (acc ++ [tcX tab i n sl hl nx ⟨some d, .slice t x lo hi none, ty, pos, af, none⟩ []]) K) : AF dr P tab ops i (⟨some d, .slice t x lo hi none, ty, pos, af, none⟩ :: os) n sl hl nx acc K :=
 Zcc (ws := []) (Zbz hd) (by simp only [aOp, hx.e]; exact hv.e n nx) h4
end
end Go.Proofs.Ytnieejghoaccmaa
namespace Go.Proofs.Ytnieejghoaccmaa
open Go.RowKit
open Shp
variable {j k id lo E t nid m off kk e' g : Nat} {B : Block} {ks ks2 : List Nat} {vs : List (Nat × PV)} {v r z g0 : GV} {dp ds dd c d2 ag : Bool} {xs ys gs zs gs' c1 c2 : List GV} {ps cs qs cs' caps : List PV} {x y : Operand} {ti ei : TI} {ts : List TypeId} {f fid : FuncId} {hl' hl1 h0 : List (Nat × Block)} {q py : PV} {tys : Array TypeId} {α : Type} {dst : Option Nat} {is : List (List Nat)} {tx : TypeId} {L L' : List Int} {q' : Int} {op : Op}
section
variable {tab : Tab} {sl : List (Nat × PV)} {hl : List (Nat × Block)}
theorem Zqs  (h : HL hl j B) : HL (Zbl [] hl) j B := h
theorem Zpb  (h : HL (Zbl ks ((k, .dead) :: hl)) j B) : HL (Zbl (k :: ks) hl) j B := h
theorem Zkq : ∀ (ws vs : List Nat) (hl : List (Nat × Block)), Zbl (ws ++ vs) hl = Zbl vs (Zbl ws hl)
 | [], _, _ => rfl
 | w :: ws, vs, hl => Zkq ws vs ((w, .dead) :: hl)
theorem Zox  {ws vs : List Nat}  (h : HL (Zbl vs (Zbl ws hl)) j B) : HL (Zbl (ws ++ vs) hl) j B := by rw [Zkq]; exact h
structure AND (a b c : Bool) : Prop where
 e : (a && b) = c
theorem Zub : AND true true true := ⟨rfl⟩
theorem Zwi (b : Bool) : AND false b false := ⟨rfl⟩
theorem Zvv : AND true false false := ⟨rfl⟩
theorem Zxn (b : Bool) : AND true b b := ⟨rfl⟩
structure AB (hl : List (Nat × Block)) (p : PV) (x : GV) (ks : List Nat) (d : Bool) : Prop where
 e : Zbc (ZaM hl) p = some (x, ks, d)
theorem AB_g  {b : Bool} (hf : RF (v.flat = b)) : AB hl (.g v) v [] b := ⟨by simp only [Zbc, hf.e]⟩
theorem Zw9 (k : IntKind) (n : Int) : AB hl (.g (.int k n)) (.int k n) [] true := AB_g (RF.mk rfl)
theorem Zwy (b : Bool) : AB hl (.g (.bool b)) (.bool b) [] true := AB_g (RF.mk rfl)
theorem ZwD (b : ByteArray) : AB hl (.g (.str b)) (.str b) [] true := AB_g (RF.mk rfl)
theorem Zw4 (e : Nat) (xs : List GV) : AB hl (.g (.sl e xs)) (.sl e xs) [] false := AB_g (RF.mk rfl)
theorem Znm (e : Nat) : AB hl (.nils (e + 1)) (.sl (e + 1) []) [] true := ⟨by simp [Zbc]⟩
theorem Zqw {len e : Nat}   (hb : HL hl id (.arr e dp xs)) (hc : CUT xs lo len ys) : AB hl (.own id lo len) (.sl e ys) [id] dp := ⟨by
 have h1 := hc.l
 simp only [Zbc, hb.e, h1, if_true, hc.e]⟩
structure ABL (hl : List (Nat × Block)) (ps : List PV) (gs : List GV) (ks : List Nat) (d : Bool) : Prop where
 e : absL Zbc (ZaM hl) ps = some (gs, ks, d)
theorem ZqZ (hl : List (Nat × Block)) : ABL hl [] [] [] true := ⟨rfl⟩
theorem Zqr {p : PV}  {x : GV}  {k : List Nat} {d : Bool} (h1 : AB hl p x k d) (h2 : ABL (Zbl k hl) ps xs ks ds) (h3 : AND d ds dd) : ABL hl (p :: ps) (x :: xs) (k ++ ks) dd := ⟨by
 have h4 := h2.e
 rw [Zeq] at h4
 simp only [absL, h1.e, h4, h3.e]⟩
structure AE (hl : List (Nat × Block)) (p : PV) (x : GV) (ks : List Nat) (d : Bool) : Prop where
 e : absE (ZaM hl) p = some (x, ks, d)
theorem AE_g  {b : Bool} (hf : RF (v.flat = b)) : AE hl (.g v) v [] b := ⟨(AB_g (hl := hl) hf).e⟩
theorem ZwI (k : IntKind) (n : Int) : AE hl (.g (.int k n)) (.int k n) [] true := AE_g (RF.mk rfl)
theorem ZwJ (b : Bool) : AE hl (.g (.bool b)) (.bool b) [] true := AE_g (RF.mk rfl)
theorem Zwg (b : ByteArray) : AE hl (.g (.str b)) (.str b) [] true := AE_g (RF.mk rfl)
theorem ZwP (e : Nat) (xs : List GV) : AE hl (.g (.sl e xs)) (.sl e xs) [] false := AE_g (RF.mk rfl)
structure ALLA (gs : List GV) (b : Bool) : Prop where
 e : gs.all GV.atom = b
theorem Zp5 : ALLA [] true := ⟨rfl⟩
theorem Zql {k : IntKind} {n : Int}  {b : Bool} (h : ALLA gs b) : ALLA (.int k n :: gs) b := ⟨by have := h.e; simpa [GV.atom] using this⟩
theorem Zol {n : Bool}  {b : Bool} (h : ALLA gs b) : ALLA (.bool n :: gs) b := ⟨by have := h.e; simpa [GV.atom] using this⟩
theorem ZoE {n : ByteArray}  {b : Bool} (h : ALLA gs b) : ALLA (.str n :: gs) b := ⟨by have := h.e; simpa [GV.atom] using this⟩
theorem ZrA {e : Nat}  : ALLA (.sl e xs :: gs) false := ⟨by simp [GV.atom]⟩
theorem Zww  {b : Bool} (h : ALLA gs b) : AE hl (.g (.agg gs)) (.agg gs) [] b := AE_g (RF.mk h.e)
theorem ZqX (e : Nat) : AE hl (.nils (e + 1)) (.sl (e + 1) []) [] true := ⟨(Znm (hl := hl) e).e⟩
theorem ZvI {len e : Nat}   (hb : HL hl id (.arr e dp xs)) (hc : CUT xs lo len ys) : AE hl (.own id lo len) (.sl e ys) [id] dp := ⟨(Zqw hb hc).e⟩
theorem Ztr  {d : Bool} (h : ABL hl cs gs ks d) (hn : RF ((gs.all fun x => x.ncells == 1) = true)) : AE hl (.agg cs) (.agg gs) ks d := ⟨by simp only [absE, h.e, hn.e, if_true]⟩
structure AEL (hl : List (Nat × Block)) (ps : List PV) (gs : List GV) (ks : List Nat) (d : Bool) : Prop where
 e : absL absE (ZaM hl) ps = some (gs, ks, d)
theorem ZsC (hl : List (Nat × Block)) : AEL hl [] [] [] true := ⟨rfl⟩
theorem Zqq {p : PV}  {x : GV}  {k : List Nat} {d : Bool} (h1 : AE hl p x k d) (h2 : AEL (Zbl k hl) ps xs ks ds) (h3 : AND d ds dd) : AEL hl (p :: ps) (x :: xs) (k ++ ks) dd := ⟨by
 have h4 := h2.e
 rw [Zeq] at h4
 simp only [absL, h1.e, h4, h3.e]⟩
structure EVP (sl : List (Nat × PV)) (tab : Tab) (E : TypeId) (xs : List (Nat × Operand)) (ps : List PV) : Prop where
 e : ∀ n hl nx, (xs.map fun (x : Nat × Operand) => (mkX n sl hl nx).ev tab E x.2) = ps
theorem Zrl (sl : List (Nat × PV)) (tab : Tab) (E : TypeId) : EVP sl tab E [] [] := ⟨fun _ _ _ => rfl⟩
theorem ZoM {E : TypeId}   {xs : List (Nat × Operand)} {p : PV}  (h1 : EV sl tab E x p) (h2 : EVP sl tab E xs ps) : EVP sl tab E ((j, x) :: xs) (p :: ps) := ⟨fun n hl nx => by simp only [List.map_cons, h1.e, h2.e]⟩
structure EVF (sl : List (Nat × PV)) (tab : Tab) (ti : TI) (xs : List (Nat × Operand)) (ps : List (Nat × PV)) : Prop where
 e : ∀ n hl nx, (xs.map fun (x : Nat × Operand) => (x.1, (mkX n sl hl nx).ev tab (ZfC ti x.1) x.2)) = ps
theorem ZqP (sl : List (Nat × PV)) (tab : Tab) (ti : TI) : EVF sl tab ti [] [] := ⟨fun _ _ _ => rfl⟩
theorem ZpU  {xs : List (Nat × Operand)} {p : PV} {ps : List (Nat × PV)} (h1 : EV sl tab (ZfC ti j) x p) (h2 : EVF sl tab ti xs ps) : EVF sl tab ti ((j, x) :: xs) ((j, p) :: ps) := ⟨fun n hl nx => by simp only [List.map_cons, h1.e, h2.e]⟩
structure ARG (sl : List (Nat × PV)) (tab : Tab) (xs : List Operand) (ts : List TypeId) (ps : List PV) : Prop where
 e : ∀ n hl nx, (mkX n sl hl nx).args tab xs ts = ps
theorem Zr1 (sl : List (Nat × PV)) (tab : Tab) (ts : List TypeId) : ARG sl tab [] ts [] := ⟨fun _ _ _ => Zu4 _ _ _⟩
theorem Zp9  {xs : List Operand} {t : TypeId}  {p : PV}  (h1 : EV sl tab t x p) (h2 : ARG sl tab xs ts ps) : ARG sl tab (x :: xs) (t :: ts) (p :: ps) := ⟨fun _ _ _ => ZsI (h1.e _ _ _) (h2.e _ _ _)⟩
theorem Zm8  {xs : List Operand} {p : PV}  (h1 : EV sl tab 0 x p) (h2 : ARG sl tab xs [] ps) : ARG sl tab (x :: xs) [] (p :: ps) := ⟨fun _ _ _ => ZpK (h1.e _ _ _) (h2.e _ _ _)⟩
structure VW (hl : List (Nat × Block)) (n : Nat) (p : PV) (x : GV) : Prop where
 e : view (ZaM hl) n p = some x
structure VWL (hl : List (Nat × Block)) (n : Nat) (ps : List PV) (xs : List GV) : Prop where
 e : Zbv (view (ZaM hl) n) ps = some xs
theorem ZsL (hl : List (Nat × Block)) (n : Nat) : VWL hl n [] [] := ⟨rfl⟩
theorem Zqh {n : Nat} {p : PV}  {x : GV}  (h1 : VW hl n p x) (h2 : VWL hl n ps xs) : VWL hl n (p :: ps) (x :: xs) := ⟨Zk1 h1.e h2.e⟩
theorem VW_g (hl : List (Nat × Block)) (n : Nat) (v : GV) : VW hl (n + 1) (.g v) v := ⟨rfl⟩
theorem ZsB (hl : List (Nat × Block)) (n e : Nat) : VW hl (n + 1) (.nils (e + 1)) (.sl (e + 1) []) := ⟨Zq8 rfl⟩
theorem ZuI {n len e : Nat}   (hb : HL hl id (.arr e dp xs)) (hc : CUT xs lo len ys) : VW hl (n + 1) (.own id lo len) (.sl e ys) := ⟨by rw [Ztm hb.e hc.l, hc.e]⟩
theorem Zv4 {n : Nat}   (hb : HL hl id (.box cs)) (hv : VWL hl n cs gs) (ha : RF ((gs.all fun x => x.ncells == 1) = true)) : VW hl (n + 1) (.ptr id 0) (.box gs) := ⟨ZvL hb.e hv.e ha.e⟩
theorem Zt4 {n : Nat}   (hv : VWL hl n cs gs) (ha : RF ((gs.all fun x => x.ncells == 1) = true)) : VW hl (n + 1) (.agg cs) (.agg gs) := ⟨ZtH hv.e ha.e⟩
theorem Zwm {n : Nat}    (hv : VWL hl n cs gs) : VW hl (n + 1) (.fn f cs) (.fn f gs) := ⟨ZwS hv.e⟩
structure FN (sl : List (Nat × PV)) (tab : Tab) (x : Operand) (f : FuncId) (caps : List PV) : Prop where
 e : ∀ n hl nx, asFn ((mkX n sl hl nx).ev tab 0 x) = some (f, caps)
theorem Zsk (sl : List (Nat × PV)) (tab : Tab) (f : FuncId) : FN sl tab (.func f) f [] := ⟨fun _ _ _ => rfl⟩
theorem ZtA  {p : PV} (h : SL sl t p) (hp : RF (asFn p = some (f, cs))) : FN sl tab (.tmp t) f cs := ⟨fun n hl nx => by
 have : (mkX n sl hl nx).ev tab 0 (.tmp t) = p := h.e
 rw [this]; exact hp.e⟩
structure FNV (p : PV) (f : FuncId) (caps : List PV) : Prop where
 e : asFn p = some (f, caps)
theorem ZuB (f : FuncId) (cs : List PV) : FNV (.fn f cs) f cs := ⟨rfl⟩
theorem Ztt (f : FuncId) (gs : List GV) : FNV (.g (.fn f gs)) f (gs.map .g) := ⟨rfl⟩
theorem Zv1  {p : PV} (h : SL sl t p) (hp : FNV p f cs) : FN sl tab (.tmp t) f cs := ZtA h (RF.mk hp.e)
structure RES (nid : Nat) (r : GV) (hl : List (Nat × Block)) (pv : PV) (hl' : List (Nat × Block)) : Prop where
 lf : (ZaO r).all GV.leaf = true
 l8 : (ZaO r).length ≤ 8
 fr : ∀ j, j < (ZaO r).length → ZaM hl (nid + j) = .free
 pv : ZeU nid r = pv
 hl : ZeF (Zbn nid (ZaO r)) hl = hl'
structure RSL (nid : Nat) (gs : List GV) (hl : List (Nat × Block)) (ps : List PV) (hl' : List (Nat × Block)) : Prop where
 lf : gs.all GV.leaf = true
 fr : ∀ j, j < gs.length → ZaM hl (nid + j) = .free
 pv : ZfE nid gs = ps
 hl : ZeF (Zbn nid gs) hl = hl'
theorem Zhv (nid : Nat) (hl : List (Nat × Block)) : RSL nid [] hl [] hl := ⟨rfl, by simp, rfl, rfl⟩
theorem ZiE  {x : GV}    (ha : x.atom = true) (hf : HL hl nid .free) (h : RSL (nid + 1) gs hl ps hl') : RSL nid (x :: gs) hl (.g x :: ps) hl' := by
 have e1 : ZeH nid x = .g x := by cases x <;> simp_all [GV.atom, ZeH]
 have e2 : Zc9 x = none := by cases x <;> simp_all [GV.atom, Zc9]
 have e3 : x.leaf = true := by cases x <;> simp_all [GV.atom, GV.leaf]
 refine ⟨by simp [e3, h.lf], fun j hj => ?_, by simp [ZfE, e1, h.pv], by simp [Zbn, e2, h.hl]⟩
 cases j with
 | zero => exact hf.e
 | succ j => have := h.fr j (by simpa using hj); rw [show nid + (j + 1) = nid + 1 + j by omega]; exact this
theorem ZnJ  {k : IntKind} {m : Int}    (hf : HL hl nid .free) (h : RSL (nid + 1) gs hl ps hl') : RSL nid (.int k m :: gs) hl (.g (.int k m) :: ps) hl' := ZiE rfl hf h
theorem Zlf  {b : Bool}    (hf : HL hl nid .free) (h : RSL (nid + 1) gs hl ps hl') : RSL nid (.bool b :: gs) hl (.g (.bool b) :: ps) hl' := ZiE rfl hf h
theorem Zn3  {s : ByteArray}    (hf : HL hl nid .free) (h : RSL (nid + 1) gs hl ps hl') : RSL nid (.str s :: gs) hl (.g (.str s) :: ps) hl' := ZiE rfl hf h
theorem ZqC {e : Nat}    (hf : HL hl nid .free) (hm : LEN xs m) (h : RSL (nid + 1) gs ((nid, .arr e true xs) :: hl) ps hl') : RSL nid (.sl e xs :: gs) hl (.own nid 0 m :: ps) hl' := by
 refine ⟨by rw [List.all_cons, h.lf]; rfl, fun j hj => ?_, by simp [ZfE, ZeH, h.pv, hm.e], by have := h.hl; simpa [Zbn, Zc9, ZeF] using this⟩
 cases j with
 | zero => exact hf.e
 | succ j =>
  have := h.fr j (by simpa using hj)
  rw [show nid + (j + 1) = nid + 1 + j by omega]
  simp only [ZaM] at this
  rwa [if_neg (by omega)] at this
theorem Zjw  (ha : r.atom = true) (hf : HL hl nid .free) : RES nid r hl (.g r) hl := by
 have e1 : ZaO r = [r] := by cases r <;> simp_all [GV.atom, ZaO, GV.leaves]
 have e2 : Zbn nid (ZaO r) = [] := by rw [e1]; cases r <;> simp_all [GV.atom, Zbn, Zc9]
 have e3 : ZeU nid r = .g r := by cases r <;> simp_all [GV.atom, ZeU, ZgA, ZeH]
 have e4 : r.leaf = true := by cases r <;> simp_all [GV.atom, GV.leaf]
 refine ⟨by rw [e1]; simp [e4], by rw [e1]; simp, fun j hj => ?_, e3, by rw [e2]; rfl⟩
 rw [e1] at hj
 have : j = 0 := by simpa using hj
 subst this; exact hf.e
theorem Ztg  {k : IntKind} {m : Int} (hf : HL hl nid .free) : RES nid (.int k m) hl (.g (.int k m)) hl := Zjw rfl hf
theorem Zpr  {b : Bool} (hf : HL hl nid .free) : RES nid (.bool b) hl (.g (.bool b)) hl := Zjw rfl hf
theorem ZsV  {s : ByteArray} (hf : HL hl nid .free) : RES nid (.str s) hl (.g (.str s)) hl := Zjw rfl hf
theorem Zvw {e : Nat}  (hf : HL hl nid .free) (hm : LEN xs m) : RES nid (.sl e xs) hl (.own nid 0 m) ((nid, .arr e true xs) :: hl) := by
 refine ⟨rfl, by simp [ZaO, GV.leaves], fun j hj => ?_, by simp [ZeU, ZgA, ZeH, hm.e], rfl⟩
 simp [ZaO, GV.leaves] at hj
 subst hj; exact hf.e
theorem Zso  (h : RSL nid gs hl ps hl') (h8 : RF (Nat.ble gs.length 8 = true)) : RES nid (.agg gs) hl (.agg ps) hl' :=
 ⟨h.lf, Nat.le_of_ble_eq_true h8.e, h.fr, by simp only [ZeU, ZgA, h.pv], h.hl⟩
structure RTL (nid : Nat) (cs : List GV) (hl : List (Nat × Block)) (ps : List PV) (hl' : List (Nat × Block)) : Prop where
 lf : (Za1 cs).all GV.leaf = true
 fr : ∀ j, j < (Za1 cs).length → ZaM hl (nid + j) = .free
 pv : ZjZ nid cs = ps
 hl : ZeF (Zbn nid (Za1 cs)) hl = hl'
theorem ZjY : ∀ (xs ys : List GV) (k : Nat), Zbn k (xs ++ ys) = Zbn k xs ++ Zbn (k + xs.length) ys
 | [], ys, k => rfl
 | x :: xs, ys, k => by simp only [List.cons_append, Zbn, ZjY xs ys (k + 1), List.append_assoc, List.length_cons]; rw [Nat.add_assoc, Nat.add_comm 1]
theorem Zeb : ∀ (gs : List GV) (k : Nat) (hl : List (Nat × Block)) (j : Nat), k + gs.length ≤ j → ZaM (ZeF (Zbn k gs) hl) j = ZaM hl j
 | [], _, _, _, _ => rfl
 | x :: xs, k, hl, j, hj => by
  simp only [List.length_cons] at hj
  simp only [Zbn, Zb9]
  rw [Zeb xs (k + 1) _ j (by omega)]
  cases Zc9 x with
  | none => rfl
  | some b => simp only [ZeF, ZaM]; rw [if_neg (by omega)]
theorem Zsi (nid : Nat) (hl : List (Nat × Block)) : RTL nid [] hl [] hl := ⟨rfl, by simp [Za1], rfl, rfl⟩
theorem Zfh  {c : GV} {cs : List GV} {p : PV}   (hc : c.leaves = gs) (hp : ZgA nid c = p) (h1 : RSL nid gs hl qs hl1) (hm : gs.length = m) (h : RTL (nid + m) cs hl1 ps hl') : RTL nid (c :: cs) hl (p :: ps) hl' := by
 subst hm
 have h2 := h1.hl
 refine ⟨by simp only [Za1, hc, List.all_append, h1.lf, h.lf, Bool.and_self], fun j hj => ?_, by simp only [ZjZ, hp, hc, h.pv], by simp only [Za1, hc, ZjY, Zb9, h2, h.hl]⟩
 simp only [Za1, hc, List.length_append] at hj
 by_cases hlt : j < gs.length
 ·exact h1.fr j hlt
 ·have := h.fr (j - gs.length) (by omega)
  rw [← h2, Zeb _ _ _ _ (by omega)] at this
  rwa [show nid + gs.length + (j - gs.length) = nid + j by omega] at this
theorem Zra  {k : IntKind} {m : Int}    (hf : HL hl nid .free) (h : RTL (nid + 1) gs hl ps hl') : RTL nid (.int k m :: gs) hl (.g (.int k m) :: ps) hl' :=
 Zfh (gs := [.int k m]) rfl rfl (ZnJ hf (Zhv _ _)) rfl h
theorem Zpp  {b : Bool}    (hf : HL hl nid .free) (h : RTL (nid + 1) gs hl ps hl') : RTL nid (.bool b :: gs) hl (.g (.bool b) :: ps) hl' :=
 Zfh (gs := [.bool b]) rfl rfl (Zlf hf (Zhv _ _)) rfl h
theorem Zsj  {s : ByteArray}    (hf : HL hl nid .free) (h : RTL (nid + 1) gs hl ps hl') : RTL nid (.str s :: gs) hl (.g (.str s) :: ps) hl' :=
 Zfh (gs := [.str s]) rfl rfl (Zn3 hf (Zhv _ _)) rfl h
theorem ZvD {e : Nat}    (hf : HL hl nid .free) (hm : LEN xs m) (h : RTL (nid + 1) gs ((nid, .arr e true xs) :: hl) ps hl') : RTL nid (.sl e xs :: gs) hl (.own nid 0 m :: ps) hl' :=
 Zfh (gs := [.sl e xs]) rfl (by simp [ZgA, ZeH, hm.e]) (ZqC hf hm (Zhv _ _)) rfl h
theorem ZsN  (h1 : RSL nid xs hl qs hl1) (hm : RF (xs.length = m)) (h : RTL (nid + m) gs hl1 ps hl') : RTL nid (.agg xs :: gs) hl (.agg qs :: ps) hl' :=
 Zfh (gs := xs) rfl (by simp only [ZgA, h1.pv]) h1 hm.e h
theorem Zq5  {cs : List GV}   (h : RTL nid cs hl ps hl') (h8 : RF (Nat.ble (Za1 cs).length 8 = true)) : RES nid (.tup cs) hl (.tup ps) hl' :=
 ⟨h.lf, Nat.le_of_ble_eq_true h8.e, h.fr, by simp only [ZeU, h.pv], h.hl⟩
end
section
variable {dr : Bool} {P : Program} {tab : Tab} {ops : Array Oper} {i : Nat} {os : List Oper} {acc : List (List Nat × List Nat)} {K : AState → List (List Nat × List Nat) → Prop}
variable {ty : TypeId} {pos : String} {af : Array Edge} {n nx d : Nat} {sl : List (Nat × PV)} {hl : List (Nat × Block)}
def DEC (p : Prop) : Prop := p
theorem DEC.mk {p : Prop} (h : p) : DEC p := h
theorem DEC.e {p : Prop} (h : DEC p) : p := h
structure SW (tab : Tab) (nid : Nat) (hl : List (Nat × Block)) (t : TypeId) (p v : PV) (ws hl' : List (Nat × Block)) : Prop where
 e : ZdU tab nid (ZaM hl) t p v = some (.none_, ws)
 h : ZeF ws hl = hl'
theorem ZuY  {t : TypeId}  {sz : Nat}  {p : PV} (hb : HL hl id (.box cs)) (hp : CP p ps) (ht : RF (tab t = some ti ∧ ti.size = sz)) (hs : RF (ps.length = sz)) (hc : SetL cs off ps cs') : SW tab nid hl t (.ptr id off) p [(id, .box cs')] ((id, .box cs') :: hl) := ⟨(ZvY hb hp ht hs hc).e, rfl⟩
theorem Zt8  {t : TypeId}     {kk : IntKind} {m : Int} (hb : HL hl id (.arr 1 dp xs)) (ht : RF (tab t = some ti ∧ ti.size = 1)) (hf : HL hl nid .free) (hy : PUT xs k (.int kk m) ys) (hk : NU (k < xs.length)) : SW tab nid hl t (.eptr id k 0) (.g (.int kk m)) [(id, .arr 1 dp ys)] ((id, .arr 1 dp ys) :: hl) := ⟨(ZqA hb ht (RF.mk rfl) hf hy hk).e, rfl⟩
theorem ZrK  {t : TypeId}     {m : Bool} (hb : HL hl id (.arr 1 dp xs)) (ht : RF (tab t = some ti ∧ ti.size = 1)) (hf : HL hl nid .free) (hy : PUT xs k (.bool m) ys) (hk : NU (k < xs.length)) : SW tab nid hl t (.eptr id k 0) (.g (.bool m)) [(id, .arr 1 dp ys)] ((id, .arr 1 dp ys) :: hl) := ⟨(ZqA hb ht (RF.mk rfl) hf hy hk).e, rfl⟩
theorem Zuj  {t : TypeId}  {e : Nat} {d : Bool}   {x : GV}  (hb : HL hl id (.arr e dp xs)) (ht : RF (tab t = some ti ∧ ti.size = e)) (hf : HL hl nid .free) (ha : AE hl q x ks d) (hn : RF (x.ncells = e ∧ x.isTup = false)) (hks : DEC (id ∉ ks)) (hd : AND dp d dd) (hy : PUT xs k x ys) (hk : NU (k < xs.length)) : SW tab nid hl t (.eptr id k 0) q (Zcq ks ++ [(id, .arr e dd ys)]) ((id, .arr e dd ys) :: Zbl ks hl) := ⟨by
 obtain ⟨h1, h2⟩ := ht.e
 obtain ⟨h3, h4⟩ := hn.e
 have h5 : k < xs.length := hk
 have h6 : id ∉ ks := hks
 subst h2
 simp only [ZdU, h1, hb.e, h5, hf.e, ZbZ, and_self, if_true, ha.e, h3, h4, h6, not_false_eq_true, hd.e, hy.e], by rw [Zb9, Zb1]; rfl⟩
theorem ZoU {t : TypeId}  {p : PV}  {ws : List (Nat × Block)} (hx : EV sl tab 0 x p) (hy : EV sl tab t y q) (hk : NID (nx + 8 * i) k) (hs : SW tab k hl t p q ws hl') (h4 : AF dr P tab ops (i + 1) os n sl hl' nx (acc ++ [tcX tab i n sl hl nx ⟨none, .store t x y, ty, pos, af, none⟩ (idsW ws)]) K) : AF dr P tab ops i (⟨none, .store t x y, ty, pos, af, none⟩ :: os) n sl hl nx acc K := by
 cases hk.e
 exact Zcc (dst := none) (pv := .none_) rfl (by simp only [aOp, hx.e, hy.e, ZeL]; exact hs.e) (by rw [hs.h]; exact h4)
structure FIL (ZbE : Nat → Option (Nat × Nat)) (cs : List PV) (ps : List (Nat × PV)) (cs' : List PV) : Prop where
 e : Zi1 ZbE cs ps = some cs'
theorem Ztd (ZbE : Nat → Option (Nat × Nat)) (cs : List PV) : FIL ZbE cs [] cs := ⟨rfl⟩
theorem ZpS {ZbE : Nat → Option (Nat × Nat)} {cs1 : List PV} {sz : Nat} {p : PV} {ps : List (Nat × PV)} (h1 : RF (ZbE j = some (off, sz))) (hp : CP p qs) (hs : RF (qs.length = sz)) (hc : SetL cs off qs cs1) (h : FIL ZbE cs1 ps cs') : FIL ZbE cs ((j, p) :: ps) cs' := ⟨by
 have h2 := hc.l
 rw [hs.e] at h2
 simp only [Zi1, h1.e, hp.v, hp.e, hs.e, Bool.true_and, beq_self_eq_true]
 rw [if_pos (by simpa using h2), hc.e, h.e]⟩
theorem Ztf {t : TypeId} {xs : List (Nat × Operand)}  {fs : List (Nat × TypeId)} {pl : List (Nat × Nat)}   (hd : RF (hasB d n = true)) (ht : RF (tab t = some ti ∧ ti.kind = .st fs ∧ ZcN tab fs = some pl)) (hx : EVF sl tab ti xs vs) (hv : FIL (pl[·]?) ti.zero vs cs')
  (h4 : AF dr P tab ops (i + 1) os n ((d, .agg cs') :: sl) hl nx (acc ++ [tcX tab i n sl hl nx ⟨some d, .build t xs.toArray, ty, pos, af, none⟩ []]) K) : AF dr P tab ops i (⟨some d, .build t xs.toArray, ty, pos, af, none⟩ :: os) n sl hl nx acc K :=
 Zcc (ws := []) (Zbz hd) (by
  obtain ⟨h1, h2, h3⟩ := ht.e
  have h5 := hx.e n hl nx
  simp only [aOp, h1, h5, Zkc, h2, h3, hv.e]) h4
theorem Zpy {t : TypeId} {xs : List (Nat × Operand)}     (hd : RF (hasB d n = true)) (ht : RF (tab t = some ti ∧ ti.kind = .ar m E ∧ tab E = some ei ∧ ei.size = 1)) (hx : EVF sl tab ti xs vs) (hv : FIL (fun i => some (i, 1)) ti.zero vs cs')
  (h4 : AF dr P tab ops (i + 1) os n ((d, .agg cs') :: sl) hl nx (acc ++ [tcX tab i n sl hl nx ⟨some d, .build t xs.toArray, ty, pos, af, none⟩ []]) K) : AF dr P tab ops i (⟨some d, .build t xs.toArray, ty, pos, af, none⟩ :: os) n sl hl nx acc K :=
 Zcc (ws := []) (Zbz hd) (by
  obtain ⟨h1, h2, h3, h6⟩ := ht.e
  have h5 := hx.e n hl nx
  simp only [aOp, h1, h5, Zkc, h2, h3, h6, Nat.mul_one, hv.e]) h4
theorem ZwM  {t : TypeId} {len : Nat} {xs : List (Nat × Operand)} {e : Nat}     (hd : RF (hasB d n = true)) (hE : SLT tab t E e) (hk : NID (nx + 8 * i) k) (hf : HL hl k .free) (hi : RF (xs.map (·.1) = List.range len)) (hs : RF (Nat.ble (len * (e + 1)) 16777216 = true)) (hx : EVP sl tab E xs ps) (ha : AEL hl ps gs ks dp) (hg : RF ((gs.all (fun x => x.ncells == e + 1 && !x.isTup)) = true))
  (h4 : AF dr P tab ops (i + 1) os n ((d, .own k 0 len) :: sl) ((k, .arr (e + 1) dp gs) :: Zbl ks hl) nx (acc ++ [tcX tab i n sl hl nx ⟨some d, .buildSlice t len xs.toArray, ty, pos, af, none⟩ (idsW (Zcq ks ++ [(k, .arr (e + 1) dp gs)]))]) K) : AF dr P tab ops i (⟨some d, .buildSlice t len xs.toArray, ty, pos, af, none⟩ :: os) n sl hl nx acc K := by
 cases hk.e
 exact Zcc (pv := .own (nx + 8 * i) 0 len) (ws := Zcq ks ++ [(nx + 8 * i, .arr (e + 1) dp gs)]) (Zbz hd) (by
  have hs' := Nat.le_of_ble_eq_true hs.e
  have hx' := hx.e n hl nx
  have hi' : xs.toArray.toList.map (·.1) = List.range len := hi.e
  have ha' : absL absE (ZaM hl) ps = some (gs, ks, dp) := ha.e
  simp only [aOp, hE.el, aLit, Zcp, ZeL, hf.e, ZbZ, true_and]
  rw [if_pos ⟨hi', by omega, hs'⟩]
  show (match absL absE (ZaM hl) (xs.map _) with | some (gs, ks, d) => _ | none => none) = _
  rw [show (xs.map fun (x : Nat × Operand) => (mkX n sl hl nx).ev tab E x.2) = ps from hx', ha']
  simp only [hg.e, if_true]) (by rw [Zb9, Zb1]; exact h4)
structure RPL (k : Nat) (z : GV) (xs : List GV) : Prop where
 e : List.replicate k z = xs
theorem Zrr (k : Nat) (kk : IntKind) (m : Int) : RPL k (.int kk m) ((List.replicate k m).map (GV.int kk)) := ⟨by simp⟩
theorem ZoW (k : Nat) (b : Bool) : RPL k (.bool b) ((List.replicate k b).map GV.bool) := ⟨by simp⟩
theorem ZuP (k : Nat) : RPL k (.sl 1 []) ((List.replicate k []).map GV.ints) := ⟨by simp⟩
theorem Zss (k : Nat) (z : GV) : RPL k z (List.replicate k z) := ⟨rfl⟩
def MZ (tab : Tab) (t e : Nat) (z : GV) : Prop := ∃ E ei, ZbU tab t = some (E, e) ∧ tab E = some ei ∧ ((e = 1 ∧ Zmf ei = some z) ∨ (Zmf ei = none ∧ ∃ gs, Zhr ei.zero = some gs ∧ gs.length = e ∧ 0 < e ∧ z = .agg gs))
theorem ZtW  (h1 : ZbU tab t = some (E, 1)) (h2 : tab E = some ei) (h3 : Zmf ei = some z) : MZ tab t 1 z := ⟨E, ei, h1, h2, .inl ⟨rfl, h3⟩⟩
theorem ZwC {e : Nat}   (h1 : ZbU tab t = some (E, e + 1)) (h2 : tab E = some ei) (h3 : Zmf ei = none) (h4 : Zhr ei.zero = some gs) (h5 : gs.length = e + 1) : MZ tab t (e + 1) (.agg gs) := ⟨E, ei, h1, h2, .inr ⟨h3, gs, h4, h5, by omega, rfl⟩⟩
theorem ZtO  {t : TypeId}  {e : Nat}  {k k' : IntKind} {a b : Int}  (hd : RF (hasB d n = true)) (hx : EV sl tab 0 x (.g (.int k a))) (hy : EV sl tab 0 y (.g (.int k' b))) (hE : MZ tab t e z) (hk : NID (nx + 8 * i) kk) (hf : HL hl kk .free) (hz : RPL a.toNat z xs) (hn : NU (0 ≤ a ∧ a ≤ b ∧ b ≤ 1099511627776))
  (h4 : AF dr P tab ops (i + 1) os n ((d, .own kk 0 a.toNat) :: sl) ((kk, .arr e true xs) :: hl) nx (acc ++ [tcX tab i n sl hl nx ⟨some d, .makeSlice t x y, ty, pos, af, none⟩ [kk]]) K) : AF dr P tab ops i (⟨some d, .makeSlice t x y, ty, pos, af, none⟩ :: os) n sl hl nx acc K := by
 cases hk.e
 refine Zcc (pv := .own (nx + 8 * i) 0 a.toNat) (ws := [(nx + 8 * i, .arr e true xs)]) (Zbz hd) ?_ h4
 have h1 := hn.e
 have h2 := hz.e
 obtain ⟨E, ei, g1, g2, ⟨rfl, g3⟩ | ⟨g3, gs, g4, g5, g6, rfl⟩⟩ := hE
 ·simp only [aOp, hx.e, hy.e, Zix, Zmy, g1, g2, g3, Zcp, ZeL, hf.e, ZbZ, h1, and_self, if_true, h2]
 ·simp only [aOp, hx.e, hy.e, Zix, Zmy, Zkf, g1, g2, g3, g4, g5, g6, Zcp, ZeL, hf.e, ZbZ, h1, and_self, if_true, h2]
structure LN (tab : Tab) (hl : List (Nat × Block)) (t : TypeId) (p : PV) (m : Int) : Prop where
 e : aLen tab (ZaM hl) t p = some (.g (.int .i64 m), [])
theorem Ztu {e : Nat} {len : Nat}   (ht : SLT tab t E e) (hb : HL hl id (.arr e' dp xs)) : LN tab hl t (.own id lo len) (len : Int) := ⟨by obtain ⟨ti, ei, h1, h2, _⟩ := ht.h; exact ZvB h1 h2 hb.e⟩
theorem LN_g {e : Nat}  (ht : SLT tab t E e) (hm : LEN xs m) : LN tab hl t (.g (.sl e' xs)) (m : Int) := ⟨by obtain ⟨ti, ei, h1, h2, _⟩ := ht.h; rw [ln_g h1 h2, hm.e]⟩
theorem ZwG {e : Nat} {u : Value}  (ht : SLT tab t E e) (hm : LEN xs m) : LN tab hl t (.g (.ex u e' xs)) (m : Int) := ⟨by obtain ⟨ti, ei, h1, h2, _⟩ := ht.h; simp only [aLen, h1, h2, ← hm.e]⟩
theorem Zrh {e : Nat} (ht : SLT tab t E e) : LN tab hl t (.nils e') 0 := ⟨by obtain ⟨ti, ei, h1, h2, _⟩ := ht.h; exact ZvT h1 h2⟩
theorem ZuE  {s : ByteArray}  (ht : RF (tab t = some ti ∧ ti.kind = .str)) : LN tab hl t (.g (.str s)) (s.size : Int) := ⟨by simp only [aLen, ht.e.1, ht.e.2]⟩
theorem Zxa  {a b : Int} (hd : RF (hasB d n = true)) (hx : EV sl tab 0 x (.g (.int .i64 a))) (hy : EV sl tab 0 y (.g (.int .i64 b))) (h4 : AF dr P tab ops (i + 1) os n ((d, .g (.int .i64 (max a b))) :: sl) hl nx (acc ++ [tcX tab i n sl hl nx ⟨some d, .call { callee := .builtin .max, args := #[x, y], argTypes := tys }, ty, pos, af, none⟩ []]) K) : AF dr P tab ops i (⟨some d, .call { callee := .builtin .max, args := #[x, y], argTypes := tys }, ty, pos, af, none⟩ :: os) n sl hl nx acc K :=
 Zcc (ws := []) (Zbz hd) (by simp only [aOp, Zkk, hx.e, hy.e, aMM, if_true]) h4
theorem Zxe  {a b : Int} (hd : RF (hasB d n = true)) (hx : EV sl tab 0 x (.g (.int .i64 a))) (hy : EV sl tab 0 y (.g (.int .i64 b))) (h4 : AF dr P tab ops (i + 1) os n ((d, .g (.int .i64 (min a b))) :: sl) hl nx (acc ++ [tcX tab i n sl hl nx ⟨some d, .call { callee := .builtin .min, args := #[x, y], argTypes := tys }, ty, pos, af, none⟩ []]) K) : AF dr P tab ops i (⟨some d, .call { callee := .builtin .min, args := #[x, y], argTypes := tys }, ty, pos, af, none⟩ :: os) n sl hl nx acc K :=
 Zcc (ws := []) (Zbz hd) (by simp only [aOp, Zkk, hx.e, hy.e, aMM, Bool.false_eq_true, if_false]) h4
theorem ZwT {t : TypeId}  {p : PV} {m : Int} (hd : RF (hasB d n = true)) (hx : EV sl tab 0 x p) (hv : LN tab hl t p m) (h4 : AF dr P tab ops (i + 1) os n ((d, .g (.int .i64 m)) :: sl) hl nx (acc ++ [tcX tab i n sl hl nx ⟨some d, .call { callee := .builtin .len, args := #[x], argTypes := #[t] }, ty, pos, af, none⟩ []]) K) : AF dr P tab ops i (⟨some d, .call { callee := .builtin .len, args := #[x], argTypes := #[t] }, ty, pos, af, none⟩ :: os) n sl hl nx acc K :=
 Zcc (ws := []) (Zbz hd) (by simp only [aOp, Zkk, hx.e]; exact hv.e) h4
structure SR (hl : List (Nat × Block)) (e : Nat) (p : PV) (ys : List GV) (ks : List Nat) (d : Bool) : Prop where
 e : srcE (ZaM hl) e p = some (ys, ks, d)
theorem ZrR (e e' : Nat) : SR hl e (.nils e') [] [] true := ⟨rfl⟩
structure FLB (ys : List GV) (b : Bool) : Prop where
 e : ys.all GV.flat = b
theorem Zpn (k : IntKind) (ys : List Int) : FLB (ys.map (GV.int k)) true := ⟨Zkd k ys⟩
theorem ZnB (ys : List Bool) : FLB (ys.map GV.bool) true := ⟨ZfI fun _ => rfl⟩
theorem Zqi (ys : List ByteArray) : FLB (ys.map GV.str) true := ⟨ZfI fun _ => rfl⟩
theorem ZrZ : FLB [] true := ⟨rfl⟩
theorem Znd {k : IntKind} {n : Int}  {b : Bool} (h : FLB xs b) : FLB (.int k n :: xs) b := ⟨by have := h.e; simpa [GV.flat, GV.atom] using this⟩
theorem ZsZ (ys : List GV) : FLB ys (ys.all GV.flat) := ⟨rfl⟩
theorem Zw5 {e : Nat}  {b : Bool} (hf : FLB ys b) : SR hl e (.g (.sl e ys)) ys [] b := ⟨Zw0 hf.e⟩
structure FLK (ys : List GV) (b : Bool) : Prop where
 e : ys.all GV.flat = b
theorem ZoO (k : IntKind) (ys : List Int) : FLK (ys.map (GV.int k)) true := ⟨Zkd k ys⟩
theorem Znx (ys : List Bool) : FLK (ys.map GV.bool) true := ⟨ZfI fun _ => rfl⟩
theorem Zpm (ys : List ByteArray) : FLK (ys.map GV.str) true := ⟨ZfI fun _ => rfl⟩
theorem Zrs : FLK [] true := ⟨rfl⟩
theorem Zn6 {k : IntKind} {n : Int}  {b : Bool} (h : FLK xs b) : FLK (.int k n :: xs) b := ⟨by have := h.e; simpa [GV.flat, GV.atom] using this⟩
theorem ZmU {n : Bool}  {b : Bool} (h : FLK xs b) : FLK (.bool n :: xs) b := ⟨by have := h.e; simpa [GV.flat, GV.atom] using this⟩
theorem ZnG {n : ByteArray}  {b : Bool} (h : FLK xs b) : FLK (.str n :: xs) b := ⟨by have := h.e; simpa [GV.flat, GV.atom] using this⟩
theorem Zvx {e : Nat}  : FLK (.sl e ys :: xs) false := ⟨by simp [GV.flat, GV.atom]⟩
theorem ZpO  {f : α → GV} : FLK (([] : List α).map f) true := ⟨rfl⟩
theorem ZmV  {f : α → GV} {x : α} {xs : List α} (h : RF ((f x).flat = false)) : FLK ((x :: xs).map f) false := ⟨by rw [List.map_cons, List.all_cons, h.e]; rfl⟩
theorem ZrB  {b : Bool} (h : ALLA ys b) : FLK [.agg ys] b := ⟨by have := h.e; simpa [GV.flat] using this⟩
structure SK (id : Nat) (dp b : Bool) (ks : List Nat) (d : Bool) : Prop where
 e : (if b then (([] : List Nat), true) else ([id], dp)) = (ks, d)
theorem SK_t (id : Nat) (dp : Bool) : SK id dp true [] true := ⟨rfl⟩
theorem SK_f (id : Nat) (dp : Bool) : SK id dp false [id] dp := ⟨rfl⟩
theorem Zv9 {len e : Nat} {b d : Bool}   (hb : HL hl id (.arr e dp xs)) (hc : CUT xs lo len ys) (hf : FLK ys b) (hs : SK id dp b ks d) : SR hl e (.own id lo len) ys ks d := ⟨by
 have h1 := hc.l
 have h2 := hf.e
 have h3 := hs.e
 simp only [srcE, hb.e, h1, and_self, if_true, hc.e, h2]
 cases b
 ·simp only [Bool.false_eq_true, if_false, Prod.mk.injEq] at h3 ⊢
  rw [h3.1, h3.2]
 ·simp only [if_true, Prod.mk.injEq] at h3 ⊢
  rw [← h3.1, ← h3.2]⟩
structure DS (hl : List (Nat × Block)) (e : Nat) (p : PV) (xs : List GV) (ks : List Nat) (d : Bool) : Prop where
 e : dstE (ZaM hl) e p = some (xs, ks, d)
theorem Zrz (e : Nat) : DS hl e (.nils e) [] [] true := ⟨Zrt _ _⟩
theorem ZvW {len e : Nat}   (hb : HL hl id (.arr e dp xs)) (hc : CUT xs lo len ys) : DS hl e (.own id lo len) ys [id] dp := ⟨by
 have h1 := ZqR hb.e hc.l
 rw [hc.e] at h1; exact h1⟩
theorem Zxd  {t : TypeId}  {e a b : Nat} {px : PV}  {ks1 : List Nat} {d1 : Bool} (hd : RF (hasB d n = true)) (hx : EV sl tab t x px) (hy : EV sl tab t y py) (hE : SLT tab t E e) (hk : NID (nx + 8 * i) kk) (hf : HL hl kk .free) (h5 : SR hl (e + 1) py ys ks2 d2) (h6 : DS (Zbl ks2 hl) (e + 1) px xs ks1 d1) (hz : CAT xs ys zs) (hm : LEN zs m) (hdp : AND d1 d2 dp) (ha : LEN xs a) (hb : LEN ys b) (hl' : NU (a + b ≤ 1099511627776))
  (h4 : AF dr P tab ops (i + 1) os n ((d, .own kk 0 m) :: sl) ((kk, .arr (e + 1) dp zs) :: Zbl ks1 (Zbl ks2 hl)) nx (acc ++ [tcX tab i n sl hl nx ⟨some d, .call { callee := .builtin .append, args := #[x, y], argTypes := #[t, t] }, ty, pos, af, none⟩ (idsW (Zcq ks2 ++ (Zcq ks1 ++ [(kk, .arr (e + 1) dp zs)])))]) K) : AF dr P tab ops i (⟨some d, .call { callee := .builtin .append, args := #[x, y], argTypes := #[t, t] }, ty, pos, af, none⟩ :: os) n sl hl nx acc K := by
 cases hk.e
 have e1 : m = xs.length + ys.length := by rw [← hm.e, ← hz.e]; simp
 have e2 := hz.e
 subst e1
 refine Zcc (ws := Zcq ks2 ++ (Zcq ks1 ++ [(nx + 8 * i, .arr (e + 1) dp zs)])) (pv := .own (nx + 8 * i) 0 (xs.length + ys.length)) (Zbz hd) ?_ (by rw [Zb9, Zb1, Zb9, Zb1]; exact h4)
 have h7 : dstE (killL (ZaM hl) ks2) (e + 1) px = some (xs, ks1, d1) := by rw [← Zeq]; exact h6.e
 have h8 := hl'.e
 have h9 : srcE (ZaM hl) (e + 1) py = some (ys, ks2, d2) := h5.e
 rw [← ha.e, ← hb.e] at h8
 simp only [aOp, Zkk, if_true, aApp, hx.e, hy.e, hE.el, Zcp, ZeL, hf.e, ZbZ]
 rw [if_pos ⟨trivial, by omega⟩]
 show (match srcE (ZaM hl) (e + 1) py with | some (ys, ks2, d2) => _ | none => none) = _
 rw [h9]
 show (match dstE (killL (ZaM hl) ks2) (e + 1) px with | some (xs, ks1, d1) => _ | none => none) = _
 rw [h7]
 simp only [h8, if_true, hdp.e, e2]
theorem ZtS {kk1 c : Nat} {t : TypeId}  {e a b : Nat} {v : Value}     (hd : RF (hasB d n = true)) (hx : EV sl tab t x (.g (.raw c v))) (hc : HL hl c (.hd v (e + 1) xs)) (hy : EV sl tab t y py) (hE : SLT tab t E e) (hk : NID (nx + 8 * i) kk) (hk1 : NID (nx + 8 * i + 1) kk1) (hf : HL hl kk .free) (hf1 : HL hl kk1 .free) (h5 : SR hl (e + 1) py ys ks2 d2) (hz : CAT xs ys zs) (hm : LEN zs m) (ha : LEN xs a) (hb : LEN ys b) (hl' : NU (a + b ≤ 1099511627776))
  (h4 : AF dr P tab ops (i + 1) os n ((d, .own kk 0 m) :: sl) ((kk, .arr (e + 1) d2 zs) :: (kk1, .dead) :: (c, .dead) :: Zbl ks2 hl) nx (acc ++ [tcX tab i n sl hl nx ⟨some d, .call { callee := .builtin .append, args := #[x, y], argTypes := #[t, t] }, ty, pos, af, none⟩ (idsW (Zcq ks2 ++ [(c, .dead), (kk1, .dead), (kk, .arr (e + 1) d2 zs)]))]) K) (ht : TabOk P tab) : AF dr P tab ops i (⟨some d, .call { callee := .builtin .append, args := #[x, y], argTypes := #[t, t] }, ty, pos, af, none⟩ :: os) n sl hl nx acc K := by
 cases hk.e
 cases hk1.e
 have e1 : m = xs.length + ys.length := by rw [← hm.e, ← hz.e]; simp
 have e2 := hz.e
 subst e1
 subst e2
 have h8 := hl'.e
 rw [← ha.e, ← hb.e] at h8
 have h9 : srcE (ZaM hl) (e + 1) py = some (ys, ks2, d2) := h5.e
 have key : ZjI P tab (nx + 8 * i) ⟨some d, .call { callee := .builtin .append, args := #[x, y], argTypes := #[t, t] }, ty, pos, af, none⟩ (mkX n sl hl nx) (.own (nx + 8 * i) 0 (xs.length + ys.length)) (Zcq ks2 ++ [(c, .dead), (nx + 8 * i + 1, .dead), (nx + 8 * i, .arr (e + 1) d2 (xs ++ ys))]) :=
  Zoz (o := ⟨some d, .call { callee := .builtin .append, args := #[x, y], argTypes := #[t, t] }, ty, pos, af, none⟩) ht rfl (hx.e n hl nx) (hc.e : (mkX n sl hl nx).heap c = _) hE.el (by omega) (by rw [hy.e n hl nx]; exact h9) (hf.e : (mkX n sl hl nx).heap _ = _) (hf1.e : (mkX n sl hl nx).heap _ = _) h8
 refine Zee (pv := .own (nx + 8 * i) 0 (xs.length + ys.length)) (ws := Zcq ks2 ++ [(c, Block.dead), (nx + 8 * i + 1, Block.dead), (nx + 8 * i, Block.arr (e + 1) d2 (xs ++ ys))]) rfl (Zbz hd) (.inr (.inr key)) ?_
 rw [Zby, Ze7, Zb9, Zb1]
 exact h4
structure EVL (sl : List (Nat × PV)) (tab : Tab) (xs : List Operand) (ps : List PV) : Prop where
 e : ∀ n hl nx, xs.map ((mkX n sl hl nx).ev tab 0) = ps
theorem Zrb (sl : List (Nat × PV)) (tab : Tab) : EVL sl tab [] [] := ⟨fun _ _ _ => rfl⟩
theorem ZpN  {xs : List Operand} {p : PV}  (h1 : EV sl tab 0 x p) (h2 : EVL sl tab xs ps) : EVL sl tab (x :: xs) (p :: ps) := ⟨fun n hl nx => by simp only [List.map_cons, h1.e, h2.e]⟩
theorem Zxh  {cs : List Operand}  (hd : RF (hasB d n = true)) (hx : EVL sl tab cs ps) (h4 : AF dr P tab ops (i + 1) os n ((d, .fn f ps) :: sl) hl nx (acc ++ [tcX tab i n sl hl nx ⟨some d, .makeFunc (.func f) #[] cs.toArray, ty, pos, af, none⟩ []]) K) : AF dr P tab ops i (⟨some d, .makeFunc (.func f) #[] cs.toArray, ty, pos, af, none⟩ :: os) n sl hl nx acc K :=
 Zcc (ws := []) (pv := .fn f ps) (Zbz hd) (by have := hx.e n hl nx; simp only [aOp, if_true, ← this]) h4
theorem ZwK  {vs : List PV} {v : PV} (hd : RF (hasB d n = true)) (hx : EV sl tab 0 x (.tup vs)) (hv : Idx vs k v) (h4 : AF dr P tab ops (i + 1) os n ((d, v) :: sl) hl nx (acc ++ [tcX tab i n sl hl nx ⟨some d, .extract x k, ty, pos, af, none⟩ []]) K) : AF dr P tab ops i (⟨some d, .extract x k, ty, pos, af, none⟩ :: os) n sl hl nx acc K :=
 Zcc (ws := []) (Zbz hd) (by simp only [aOp, hx.e, ZgL, hv.e]) h4
def CON (P : Program) (f : FuncId) (gs : List GV) (r : GV) : Prop := Con P f gs r
theorem CON.e {P : Program}    (h : CON P f gs r) : Con P f gs r := h
theorem Za0 {P : Program}    (h : Con P f gs r) : CON P f gs r := h
theorem Zse  {f : Operand} {xs : List Operand}      {pv : PV}  (hd : (mkX n sl hl nx).has dst = true) (hf : FN sl tab f fid caps) (ha : ARG sl tab xs ts ps) (hg : VWL hl 6 (ps ++ caps) gs) (hc : Con P fid gs r) (hk : NID (nx + 8 * i) kk) (hr : RES kk r hl pv hl')
  (h4 : AF dr P tab ops (i + 1) os n (putL dst pv sl) hl' nx (acc ++ [tcX tab i n sl hl nx ⟨dst, .call { callee := .value f, args := xs.toArray, argTypes := ts.toArray }, ty, pos, af, none⟩ (idsW (Zbn kk (ZaO r)))]) K) : AF dr P tab ops i (⟨dst, .call { callee := .value f, args := xs.toArray, argTypes := ts.toArray }, ty, pos, af, none⟩ :: os) n sl hl nx acc K := by
 cases hk.e
 refine Zee (pv := ZeU (nx + 8 * i) r) (ws := Zbn (nx + 8 * i) (ZaO r)) rfl hd (.inr (.inl ⟨fid, caps, hf.e n hl nx, gs, ?_, r, hc, hr.lf, hr.l8, ?_, rfl, rfl⟩)) ?_
 ·show Zbv (view (ZaM hl) 6) ((mkX n sl hl nx).args tab xs ts ++ caps) = some gs
  rw [ha.e]; exact hg.e
 ·simp only [List.all_eq_true, List.mem_range]
  intro j hj
  rw [ZeL, Zcp, hr.fr j hj]; rfl
 ·rw [ZeL, Zby, Ze7, hr.pv, hr.hl]; exact h4
theorem ZrQ : ∀ {m : Nat} {ps qs : List PV} {xs ys : List GV}, VWL hl m ps xs → VWL hl m qs ys → VWL hl m (ps ++ qs) (xs ++ ys) := fun h1 h2 => ⟨ZqI h1.e h2.e⟩
structure APP {α : Type} (xs ys zs : List α) : Prop where
 e : xs ++ ys = zs
theorem Zrn  (ys : List α) : APP [] ys ys := ⟨rfl⟩
theorem ZoP  {x : α} {xs ys zs : List α} (h : APP xs ys zs) : APP (x :: xs) ys (x :: zs) := ⟨by simp [h.e]⟩
theorem ZsA  {f : Operand} {xs : List Operand}    {gs1 gs2 : List GV}  {pv : PV}  (hd : RF (hasB d n = true)) (hf : FN sl tab f fid caps) (ha : ARG sl tab xs ts ps) (hg1 : VWL hl 6 ps gs1) (hg2 : VWL hl 6 caps gs2) (hgs : APP gs1 gs2 gs) (hc : CON P fid gs r) (hk : NID (nx + 8 * i) kk) (hr : RES kk r hl pv hl')
  (h4 : AF dr P tab ops (i + 1) os n ((d, pv) :: sl) hl' nx (acc ++ [tcX tab i n sl hl nx ⟨some d, .call { callee := .value f, args := xs.toArray, argTypes := ts.toArray }, ty, pos, af, none⟩ (idsW (Zbn kk (ZaO r)))]) K) : AF dr P tab ops i (⟨some d, .call { callee := .value f, args := xs.toArray, argTypes := ts.toArray }, ty, pos, af, none⟩ :: os) n sl hl nx acc K :=
 Zse (Zbz hd) hf ha (by rw [← hgs.e]; exact ZrQ hg1 hg2) hc hk hr h4
structure LENQ (len : Nat) (xs ys : List GV) : Prop where
 a : len = xs.length
 b : ys.length = xs.length
def MRK (P : Program) (f : FuncId) (ag : Bool) (gs gs' : List GV) (k : Int) (c : Nat) : Prop := MarkC P f ag gs gs' k c
theorem MRK.e {P : Program}    {k : Int} {c : Nat} (h : MRK P f ag gs gs' k c) : MarkC P f ag gs gs' k c := h
structure CMP (p : PV) (ag : Bool) (ps : List PV) : Prop where
 e : p = (if ag then .agg ps else ps.headD .undef)
 l : ag = false → ps.length = 1
structure WG (hl : List (Nat × Block)) (ps : List PV) (gs : List GV) : Prop where
theorem Zuw (hl : List (Nat × Block)) : WG hl [] [] := ⟨⟩
theorem Zr6 {x : GV}   (h : WG hl ps gs) : WG hl (.g x :: ps) (x :: gs) := ⟨⟩
theorem Zvi {e len : Nat}    (hb : HL hl id (.arr e true xs)) (h : WG hl ps gs) : WG hl (.own id 0 len :: ps) (.sl e xs :: gs) := ⟨⟩
theorem Zrc (ps : List PV) : CMP (.agg ps) true ps := ⟨rfl, fun h => by cases h⟩
theorem Zsp (id lo len : Nat) : CMP (.own id lo len) false [.own id lo len] := ⟨rfl, fun _ => rfl⟩
structure WW (h0 hl : List (Nat × Block)) (ps : List PV) (gs gs' : List GV) (ws : List (Nat × Block)) (is : List (List Nat)) (hl' : List (Nat × Block)) : Prop where
 e : WhL (ZaM h0) ps gs gs' ws is
 p : ZeF ws hl = hl'
theorem Zv5 (h0 hl : List (Nat × Block)) : WW h0 hl [] [] [] [] [] hl := ⟨.nil, rfl⟩
theorem ZrY {hl : List (Nat × Block)} {x : GV}   {ws : List (Nat × Block)}  (hx : RF (x.atom = true)) (h : WW h0 hl ps gs gs' ws is hl') : WW h0 hl (.g x :: ps) (x :: gs) (x :: gs') ws ([] :: is) hl' :=
 ⟨.cons (w := []) (.atom x hx.e) h.e (by simp), h.p⟩
theorem Zvm {hl : List (Nat × Block)} {e len : Nat}    {ws : List (Nat × Block)}  (hb : HL h0 id (.arr e true xs)) (hq : LENQ len xs ys) (h : WW h0 ((id, .arr e true ys) :: hl) ps gs gs' ws is hl') (hn : RF ((ws.all fun x => !(Nat.beq x.1 id)) = true)) :
  WW h0 hl (.own id 0 len :: ps) (.sl e xs :: gs) (.sl e ys :: gs') ((id, .arr e true ys) :: ws) ([id] :: is) hl' :=
 ⟨.cons (w := [(id, .arr e true ys)]) (.own id e len xs ys hb.e hq.a hq.b) h.e (fun x hx hm => by
  simp at hx; subst hx
  obtain ⟨y, hy, e⟩ := List.mem_map.1 hm
  have := List.all_eq_true.1 hn.e y hy
  rw [e, show Nat.beq id id = true from Nat.beq_refl id] at this; cases this), h.p⟩
def okSL (n : Nat) (sl : List (Nat × PV)) : Bool := sl.all fun x => okS n x.1 x.2
def okBL (hl : List (Nat × Block)) : Bool := hl.all fun x => okB x.2
theorem Znk {n : Nat} : ∀ {sl : List (Nat × PV)}, okSL n sl = true → ∀ t, okS n t (Zbg sl t) = true
 | [], _, _ => rfl
 | (d, v) :: sl, h, t => by
  simp only [okSL, List.all_cons, Bool.and_eq_true] at h
  unfold Zbg
  split
  ·rename_i e; subst e; exact h.1
  ·exact Znk (sl := sl) h.2 t
theorem Zny : ∀ {hl : List (Nat × Block)}, okBL hl = true → ∀ id, okB (ZaM hl id) = true
 | [], _, _ => rfl
 | (d, v) :: hl, h, t => by
  simp only [okBL, List.all_cons, Bool.and_eq_true] at h
  unfold ZaM
  split
  ·exact h.1
  ·exact Zny (hl := hl) h.2 t
theorem ZuQ {f : FuncId} {x y : Operand} {tx t2 : TypeId} {ag : Bool} {p : PV} {ps : List PV} {gs gs' : List GV} {k : Int} {c : Nat} {ws : List (Nat × Block)} {is : List (List Nat)} {hl' : List (Nat × Block)} (hd : RF (hasB d n = true)) (hdr : RF (dr = false)) (hx : EV sl tab tx x p) (hy : EV sl tab t2 y (.g (.int .i64 k))) (hp : CMP p ag ps) (hg : WG hl ps gs) (hm : MRK P f ag gs gs' k c)
  (hw : WW hl hl ps gs gs' ws is hl') (hc : RF ((okSL n sl && okBL hl) = true)) (h4 : AF dr P tab ops (i + 1) os n ((d, .g (.int .i64 (k + c))) :: sl) hl' nx (acc ++ [tcX tab i n sl hl nx ⟨some d, .call { callee := .value (.func f), args := #[x, y], argTypes := #[tx, t2] }, ty, pos, af, none⟩ (idsW ws)]) K) : AF dr P tab ops i (⟨some d, .call { callee := .value (.func f), args := #[x, y], argTypes := #[tx, t2] }, ty, pos, af, none⟩ :: os) n sl hl nx acc K := by
 cases hdr.e
 have hc := hc.e
 rw [Bool.and_eq_true] at hc
 refine Zr5 (pv := .g (.int .i64 (k + c))) (ws := ws) rfl (Zbz hd) ⟨f, x, y, tx, t2, ag, ps, gs, gs', k, c, is, rfl, ?_, hp.l, ?_, hw.e, hm.e, Znk hc.1, Zny hc.2, rfl⟩ ?_
 ·rw [hx.e]; exact hp.e
 ·rw [hy.e]
 ·rw [Zby, Ze7, hw.p]; exact h4
structure RPV (id : Nat) (cut : Option Nat) (pv : PV) : Prop where
 e : Zrd id cut = pv
theorem Zqu (id : Nat) : RPV id none .undef := ⟨rfl⟩
theorem Zo9 (id m : Nat) : RPV id (some m) (.own id 0 m) := ⟨rfl⟩
theorem Zxg  {t : TypeId} {len : Nat}  {xs ys : List Int} {cut : Option Nat} {pv : PV} (hd : RF (hasB d n = true)) (hx : EV sl tab t x (.own id 0 len)) (hb : HL hl id (.arr 1 dp (xs.map GV.i))) (hl' : NU (len = xs.length)) (hc : ROW P f xs ys cut) (hp : RPV id cut pv)
  (h4 : AF dr P tab ops (i + 1) os n ((d, pv) :: sl) ((id, .arr 1 true (ys.map GV.i)) :: hl) nx (acc ++ [tcX tab i n sl hl nx ⟨some d, .call { callee := .value (.func f), args := #[x], argTypes := #[t] }, ty, pos, af, none⟩ (idsW [(id, .arr 1 true (ys.map GV.i))])]) K) : AF dr P tab ops i (⟨some d, .call { callee := .value (.func f), args := #[x], argTypes := #[t] }, ty, pos, af, none⟩ :: os) n sl hl nx acc K := by
 refine Zee (pv := Zrd id cut) (ws := [(id, .arr 1 true (ys.map GV.i))]) rfl (Zbz hd) (.inr (.inr (ZrL rfl rfl (hx.e n hl nx) (hb.e : (mkX n sl hl nx).heap id = _) hl'.e hc _))) ?_
 rw [Zby, Ze7, hp.e]; exact h4
def INTO (P : Program) (f : FuncId) (xs : List Int) (x : Int) (ys : List Int) : Prop := Zo7 P f xs x ys
theorem Zot {P : Program}  {xs : List Int} {x : Int} {ys : List Int} (h : Zo7 P f xs x ys) : INTO P f xs x ys := h
theorem Zuq  {t2 : TypeId} {len : Nat} {m : Int} {xs ys : List Int} (hd : RF (hasB d n = true)) (hx : EV sl tab tx x (.own id 0 len)) (hy : EV sl tab t2 y (.g (.int .i64 m))) (hb : HL hl id (.arr 1 true (xs.map GV.i))) (hl' : NU (len = xs.length)) (hk : NID (nx + 8 * i) kk) (hf : HL hl kk .free) (hc : INTO P f xs m ys)
  (h4 : AF dr P tab ops (i + 1) os n ((d, .own kk 0 ys.length) :: sl) ((id, .dead) :: (kk, .arr 1 true (ys.map GV.i)) :: hl) nx (acc ++ [tcX tab i n sl hl nx ⟨some d, .call { callee := .value (.func f), args := #[x, y], argTypes := #[tx, t2] }, ty, pos, af, none⟩ (idsW [(kk, .arr 1 true (ys.map GV.i)), (id, .dead)])]) K) : AF dr P tab ops i (⟨some d, .call { callee := .value (.func f), args := #[x, y], argTypes := #[tx, t2] }, ty, pos, af, none⟩ :: os) n sl hl nx acc K := by
 cases hk.e
 refine Zee (pv := .own (nx + 8 * i) 0 ys.length) (ws := [(nx + 8 * i, .arr 1 true (ys.map GV.i)), (id, .dead)]) rfl (Zbz hd) (.inr (.inr (Zpc rfl rfl (hx.e n hl nx) (hy.e n hl nx) (hb.e : (mkX n sl hl nx).heap id = _) hl'.e (hf.e : (mkX n sl hl nx).heap _ = _) hc))) ?_
 rw [Zby, Ze7]; exact h4
def BOXC (P : Program) (f : FuncId) (cs gs : List GV) (r : GV) (cs' : List GV) : Prop := BoxC P f cs gs r cs'
theorem ZcI {P : Program}  {cs : List GV}  {cs' : List GV} (h : BoxC P f cs gs r cs') : BOXC P f cs gs r cs' := h
theorem ZtV  {xs : List Operand} {t : TypeId}   {B B' : List PV} {cs cs' : List GV}  {pv : PV}  (hd : RF (hasB d n = true)) (hx : EV sl tab t x (.ptr id 0)) (hb : HL hl id (.box B)) (h1 : GL B cs) (ha : ARG sl tab xs ts ps) (hv : VWL hl 6 ps gs) (hn : RF (ps.all np = true)) (hc : BOXC P f cs gs r cs') (h2 : GL B' cs') (hk : NID (nx + 8 * i) kk) (hr : RES kk r ((id, .box B') :: hl) pv hl')
  (h4 : AF dr P tab ops (i + 1) os n ((d, pv) :: sl) hl' nx (acc ++ [tcX tab i n sl hl nx ⟨some d, .call { callee := .value (.func f), args := (x :: xs).toArray, argTypes := (t :: ts).toArray }, ty, pos, af, none⟩ (idsW ((id, .box B') :: Zbn kk (ZaO r)))]) K) : AF dr P tab ops i (⟨some d, .call { callee := .value (.func f), args := (x :: xs).toArray, argTypes := (t :: ts).toArray }, ty, pos, af, none⟩ :: os) n sl hl nx acc K := by
 cases hk.e
 have e1 := h1.e
 have e2 := h2.e
 subst e1; subst e2
 refine Zee (pv := ZeU (nx + 8 * i) r) (ws := (id, .box (cs'.map PV.g)) :: Zbn (nx + 8 * i) (ZaO r)) rfl (Zbz hd) (.inr (.inr (Zr8 rfl rfl (hx.e n hl nx) (hb.e : (mkX n sl hl nx).heap id = _) (ha.e n hl nx) (hv.e : Zbv (view (mkX n sl hl nx).heap 6) ps = some gs) hn.e hc hr.lf (fun j hj => ?_) hr.l8))) ?_
 ·have h5 := hr.fr j hj
  rw [ZeL, Zcp]
  simp only [ZaM] at h5
  split at h5
  ·cases h5
  ·exact h5
 ·rw [ZeL, Zby, Ze7, hr.pv]
  have h6 : ZeF ((id, .box (cs'.map PV.g)) :: Zbn (nx + 8 * i) (ZaO r)) hl = hl' := hr.hl
  rw [h6]; exact h4
def CLOC (P : Program) (f : FuncId) (g0 : GV) (c1 c2 : List GV) (L : List Int) (q : Int) (L' : List Int) (q' : Int) : Prop := CloC P f g0 c1 c2 L q L' q'
theorem ZwL {fo : Nat} {f0 : FuncId}   {iL iA iQ i1 i2 : Nat}  {B1 B2 : List PV}   {q : Int}  (hd : RF (hasB d n = true)) (hf : EV sl tab 0 (.tmp fo) (.fn f0 [.ptr iL 0, .ptr i1 0, .ptr iQ 0, .ptr i2 0])) (hx : EV sl tab tx x (.g g0)) (hL : HL hl iL (.box [.own iA 0 m])) (hA : HL hl iA (.arr 1 dp (L.map GV.i))) (hQ : HL hl iQ (.box [.g (.int .i64 q)])) (h1 : HL hl i1 (.box B1)) (hB1 : GL B1 c1) (h2 : HL hl i2 (.box B2)) (hB2 : GL B2 c2)
  (hn : RF ([iL, iA, iQ, i1, i2].Nodup)) (hm : NU (m = L.length)) (hk : NID (nx + 8 * i) kk) (hfr : HL hl kk .free) (hc : CLOC P f0 g0 c1 c2 L q L' q')
  (h4 : AF dr P tab ops (i + 1) os n ((d, .tup []) :: sl) ((iQ, .box [.g (.int .i64 q')]) :: (kk, .arr 1 true (L'.map GV.i)) :: (iA, .dead) :: (iL, .box [.own kk 0 L'.length]) :: hl) nx (acc ++ [tcX tab i n sl hl nx ⟨some d, .call { callee := .value (.tmp fo), args := #[x], argTypes := #[tx] }, ty, pos, af, none⟩ (idsW [(iL, .box [.own kk 0 L'.length]), (iA, .dead), (kk, .arr 1 true (L'.map GV.i)), (iQ, .box [.g (.int .i64 q')])])]) K) :
  AF dr P tab ops i (⟨some d, .call { callee := .value (.tmp fo), args := #[x], argTypes := #[tx] }, ty, pos, af, none⟩ :: os) n sl hl nx acc K := by
 cases hk.e
 have e1 := hB1.e
 have e2 := hB2.e
 have em := hm.e
 subst e1; subst e2; subst em
 refine Zee (pv := .tup []) (ws := [(iL, .box [.own (nx + 8 * i) 0 L'.length]), (iA, .dead), (nx + 8 * i, .arr 1 true (L'.map GV.i)), (iQ, .box [.g (.int .i64 q')])]) rfl (Zbz hd) (.inr (.inr (ZrJ rfl (hf.e n hl nx) (hx.e n hl nx) (hL.e : (mkX n sl hl nx).heap iL = _) (hA.e : (mkX n sl hl nx).heap iA = _) (hQ.e : (mkX n sl hl nx).heap iQ = _) (h1.e : (mkX n sl hl nx).heap i1 = _) (h2.e : (mkX n sl hl nx).heap i2 = _) hn.e (hfr.e : (mkX n sl hl nx).heap _ = _) hc))) ?_
 rw [Zby, Ze7]; exact h4
def NEWC (P : Program) (f : FuncId) (gs cs : List GV) : Prop := NewC P f gs cs
theorem ZuZ {P : Program}  {cs : List GV} (h : NewC P f gs cs) : NEWC P f gs cs := h
theorem Zv8  {xs : List Operand}  {B : List PV} {cs : List GV} (hd : RF (hasB d n = true)) (ha : ARG sl tab xs ts ps) (hv : GL ps gs) (hc : NEWC P f gs cs) (h2 : GL B cs) (hk : NID (nx + 8 * i) kk) (hf : HL hl kk .free)
  (h4 : AF dr P tab ops (i + 1) os n ((d, .ptr kk 0) :: sl) ((kk, .box B) :: hl) nx (acc ++ [tcX tab i n sl hl nx ⟨some d, .call { callee := .value (.func f), args := xs.toArray, argTypes := ts.toArray }, ty, pos, af, none⟩ (idsW [(kk, .box B)])]) K) : AF dr P tab ops i (⟨some d, .call { callee := .value (.func f), args := xs.toArray, argTypes := ts.toArray }, ty, pos, af, none⟩ :: os) n sl hl nx acc K := by
 cases hk.e
 have e2 := h2.e
 subst e2
 refine Zee (pv := .ptr (nx + 8 * i) 0) (ws := [(nx + 8 * i, .box (cs.map PV.g))]) rfl (Zbz hd) (.inr (.inr (ZqT rfl rfl (ha.e n hl nx) hv hc (hf.e : (mkX n sl hl nx).heap _ = _)))) ?_
 rw [Zby, Ze7]; exact h4
theorem Zlu  {b : Bool}  (hd : (ops[g]?).bind (·.dst) = some t) (hs : SL sl t (.g (.bool c))) (hcb : (c == b) = true) (h : AF dr P tab ops i (⟨dst, op, ty, pos, af, none⟩ :: os) n sl hl nx acc K) : AF dr P tab ops i (⟨dst, op, ty, pos, af, some (g, b)⟩ :: os) n sl hl nx acc K := ZoX hd hs.e hcb h
theorem Zim  {d : Nat}  {b : Bool}  (hd : (ops[g]?).bind (·.dst) = some t) (hs : SL sl t (.g (.bool c))) (hcb : (c == b) = false) (h2 : RF (hasB d n = true)) (h : AF dr P tab ops (i + 1) os n ((d, .none_) :: sl) hl nx (acc ++ [([], [])]) K) : AF dr P tab ops i (⟨some d, op, ty, pos, af, some (g, b)⟩ :: os) n sl hl nx acc K := Zmq hd hs.e hcb (Zbz h2) (by rw [Zk3]; exact h)
theorem ZkO  {d : Nat}  {b : Bool}  (hd : (ops[g]?).bind (·.dst) = some t) (hs : SL sl t .none_) (h2 : RF (hasB d n = true)) (h : AF dr P tab ops (i + 1) os n ((d, .none_) :: sl) hl nx (acc ++ [([], [])]) K) : AF dr P tab ops i (⟨some d, op, ty, pos, af, some (g, b)⟩ :: os) n sl hl nx acc K := ZkQ hd hs.e (Zbz h2) (by rw [Zk3]; exact h)
theorem Zqt  {b : Bool}  (hd : (ops[g]?).bind (·.dst) = some t) (hs : SL sl t (.g (.bool c))) (h1 : c = true → AF dr P tab ops i (⟨dst, op, ty, pos, af, some (g, b)⟩ :: os) n ((t, .g (.bool true)) :: sl) hl nx acc K) (h2 : c = false → AF dr P tab ops i (⟨dst, op, ty, pos, af, some (g, b)⟩ :: os) n ((t, .g (.bool false)) :: sl) hl nx acc K) : AF dr P tab ops i (⟨dst, op, ty, pos, af, some (g, b)⟩ :: os) n sl hl nx acc K :=
 Zp2 hd hs.e (fun e => by rw [Zk3]; exact h1 e) (fun e => by rw [Zk3]; exact h2 e)
structure GD (dr : Bool) (P : Program) (tab : Tab) (ops : Array Oper) (i : Nat) (o : Oper) (os : List Oper) (n : Nat) (sl : List (Nat × PV)) (hl : List (Nat × Block)) (nx : Nat) (acc : List (List Nat × List Nat)) (K : AState → List (List Nat × List Nat) → Prop) (t : Nat) (p : PV) : Prop where
 e : SL sl t p → AF dr P tab ops i (o :: os) n sl hl nx acc K
theorem Zq3  {b : Bool}  {p : PV} (hd : RF ((ops[g]?).bind (·.dst) = some t)) (hs : SL sl t p) (h : GD dr P tab ops i ⟨dst, op, ty, pos, af, some (g, b)⟩ os n sl hl nx acc K t p) : AF dr P tab ops i (⟨dst, op, ty, pos, af, some (g, b)⟩ :: os) n sl hl nx acc K := h.e hs
theorem ZwZ  (hd : RF ((ops[g]?).bind (·.dst) = some t)) (h : AF dr P tab ops i (⟨dst, op, ty, pos, af, none⟩ :: os) n sl hl nx acc K) : GD dr P tab ops i ⟨dst, op, ty, pos, af, some (g, true)⟩ os n sl hl nx acc K t (.g (.bool true)) := ⟨fun hs => Zlu hd.e hs rfl h⟩
theorem Zwq  (hd : RF ((ops[g]?).bind (·.dst) = some t)) (h : AF dr P tab ops i (⟨dst, op, ty, pos, af, none⟩ :: os) n sl hl nx acc K) : GD dr P tab ops i ⟨dst, op, ty, pos, af, some (g, false)⟩ os n sl hl nx acc K t (.g (.bool false)) := ⟨fun hs => Zlu hd.e hs rfl h⟩
theorem Zws  {d : Nat}  (hd : RF ((ops[g]?).bind (·.dst) = some t)) (h2 : RF (hasB d n = true)) (h : AF dr P tab ops (i + 1) os n ((d, .none_) :: sl) hl nx (acc ++ [([], [])]) K) : GD dr P tab ops i ⟨some d, op, ty, pos, af, some (g, false)⟩ os n sl hl nx acc K t (.g (.bool true)) := ⟨fun hs => Zim hd.e hs rfl h2 h⟩
theorem Zxk  {d : Nat}  (hd : RF ((ops[g]?).bind (·.dst) = some t)) (h2 : RF (hasB d n = true)) (h : AF dr P tab ops (i + 1) os n ((d, .none_) :: sl) hl nx (acc ++ [([], [])]) K) : GD dr P tab ops i ⟨some d, op, ty, pos, af, some (g, true)⟩ os n sl hl nx acc K t (.g (.bool false)) := ⟨fun hs => Zim hd.e hs rfl h2 h⟩
theorem Zs0  {d : Nat}  {b : Bool} (hd : RF ((ops[g]?).bind (·.dst) = some t)) (h2 : RF (hasB d n = true)) (h : AF dr P tab ops (i + 1) os n ((d, .none_) :: sl) hl nx (acc ++ [([], [])]) K) : GD dr P tab ops i ⟨some d, op, ty, pos, af, some (g, b)⟩ os n sl hl nx acc K t .none_ := ⟨fun hs => ZkO hd.e hs h2 h⟩
theorem ZoD  {b : Bool} (hd : RF ((ops[g]?).bind (·.dst) = some t)) (h1 : c = true → AF dr P tab ops i (⟨dst, op, ty, pos, af, some (g, b)⟩ :: os) n ((t, .g (.bool true)) :: sl) hl nx acc K) (h2 : c = false → AF dr P tab ops i (⟨dst, op, ty, pos, af, some (g, b)⟩ :: os) n ((t, .g (.bool false)) :: sl) hl nx acc K) : GD dr P tab ops i ⟨dst, op, ty, pos, af, some (g, b)⟩ os n sl hl nx acc K t (.g (.bool c)) := ⟨fun hs => Zqt hd.e hs h1 h2⟩
end
end Go.Proofs.Ytnieejghoaccmaa
namespace Go.Proofs.Ytnieejghoaccmaa
open Go.RowKit
open Shp
variable {S S' : AState} {L ρ ks : List Nat} {sl' sl2 : List (Nat × PV)} {w : World} {id j n0 k t r0 r1 r2 r3 r4 r5 r6 r7 r8 m n2 : Nat} {ops : Array Oper} {acc : List (List Nat × List Nat)} {p v q : PV} {b : Bool} {ι α : Type} {xs ys gs : List GV} {ps vs cs cs' : List PV} {f : FuncId} {hl' : List (Nat × Block)} {b0 b1 b2 b3 b4 b5 b6 b7 b8 : Block} {rs : List ResultVar} {r : GV} {fn : Func}
theorem Rel.nx {w0 : W0} {S : AState} {a : Act} {w : World} (h : Rel w0 S a w) (k : Nat) : Rel w0 { S with nx := k } a w := by
 obtain ⟨μ, who, h⟩ := h
 exact ⟨μ, who, h.size, h.slot, h.dfr, h.blk, h.inj, h.base, h.keep, h.old⟩
theorem ZpX {n nx nx' : Nat} {sl : List (Nat × PV)} {hl : List (Nat × Block)} : Le (mkX n sl hl nx) (mkX n sl hl nx') := fun _ _ _ h => h.nx nx'
theorem Le.trans {S'' : AState} (h : Le S S') (h' : Le S' S'') : Le S S'' := fun w0 a w hr => h' w0 a w (h w0 a w hr)
theorem Zo3  (hn : S'.n = S.n) (hh : S'.heap = S.heap) (hs : ∀ t, S'.slots t = .undef ∨ S'.slots t = S.slots t) : Le S S' := by
 rintro w0 a w ⟨μ, who, h⟩
 refine ⟨μ, who, by rw [hn]; exact h.size, fun t => ?_, h.dfr, fun i => by rw [hh]; exact h.blk i, by rw [hh]; exact h.inj, by rw [hh]; exact h.base, h.keep, fun t x hp hx => (by
  rcases hs t with e | e
  ·rw [e] at hx; cases hx
  ·rw [e] at hx; exact h.old.1 t x (by rw [← hn]; exact hp) hx), fun t v hv ht => by rw [hn]; exact h.old.2 t v hv ht⟩
 rcases hs t with e | e
 ·rw [e]; exact .undef _
 ·rw [e, hh]; exact h.slot t
def TX (lv : Nat → List Nat) (P : Program) (tab : Tab) (c : Code) (n : Nat) (sl : List (Nat × PV)) (hl : List (Nat × Block)) (Q : Exit → AState → Prop) : Prop := T P c (mkX n sl hl 0) Q
theorem TX.run {lv : Nat → List Nat} {P : Program} {tab : Tab} {c : Code} {n : Nat} {sl : List (Nat × PV)} {hl : List (Nat × Block)} {Q : Exit → AState → Prop} (h : TX lv P tab c n sl hl Q) : T P c (mkX n sl hl 0) Q := h
def QA (Q : Exit → AState → Prop) (e : Exit) (n : Nat) (sl : List (Nat × PV)) (hl : List (Nat × Block)) : Prop := Q e (mkX n sl hl 0)
theorem QA.run {Q : Exit → AState → Prop} {e : Exit} {n : Nat} {sl : List (Nat × PV)} {hl : List (Nat × Block)} (h : QA Q e n sl hl) : Q e (mkX n sl hl 0) := h
def upQ (Q : Exit → AState → Prop) : Exit → AState → Prop := fun e S => ∃ S', Q e S' ∧ Le S S'
theorem Zph {P : Program} {c : Code}  {Q : Exit → AState → Prop} (h : T P c S (upQ Q)) : T P c S Q := fun w0 a w hr => by
 refine wp_mono (h w0 a w hr) ?_
 rintro e a' w' ⟨S', ⟨S2, h1, h2⟩, h3⟩
 exact ⟨S2, h1, h2 _ _ _ h3⟩
def NK (L : List Nat) (Q : Exit → AState → Prop) (S : AState) : Prop := upQ Q .normal S
theorem NK.run  {Q : Exit → AState → Prop}  (h : NK L Q S) : upQ Q .normal S := h
theorem Zxb  {Q : Exit → AState → Prop} {n nx : Nat} {sl : List (Nat × PV)} {hl : List (Nat × Block)} (hs : Sel sl L sl') (h : QA Q .normal n sl' hl) : NK L Q (mkX n sl hl nx) :=
 ⟨_, h.run, Zo3 (S := mkX n sl hl nx) (S' := mkX n sl' hl 0) rfl rfl hs.e⟩
section
variable {lv : Nat → List Nat} {P : Program} {tab : Tab} {n : Nat} {sl : List (Nat × PV)} {hl : List (Nat × Block)} {Q : Exit → AState → Prop} {x y c : Code}
theorem AW_K {ops : Array Oper} {K K' : AState → Prop} (hk : ∀ S, K S → K' S) : ∀ {os : List Oper} {i : Nat} {S : AState}, AW P tab ops i os S K → AW P tab ops i os S K'
 | [], _, _, h => hk _ h
 | o :: os, i, S, h => by
  obtain ⟨b, h1, h2, h3, h4⟩ := h
  refine ⟨b, h1, h2, fun hb => ?_, fun hb => AW_K hk (h4 hb)⟩
  obtain ⟨pv, ws, h5, h6⟩ := h3 hb
  exact ⟨pv, ws, h5, AW_K hk h6⟩
theorem AD_K {ops : Array Oper} {K K' : AState → List (List Nat × List Nat) → Prop} (hk : ∀ S tw, K S tw → K' S tw) : ∀ {os : List Oper} {i : Nat} {S : AState} {acc : List (List Nat × List Nat)}, AD P tab ops i os S acc K → AD P tab ops i os S acc K'
 | [], _, _, _, h => hk _ _ h
 | o :: os, i, S, acc, h => by
  obtain ⟨b, h1, h2, h3, h4⟩ := h
  refine ⟨b, h1, h2, fun hb => ?_, fun hb => AD_K hk (h4 hb)⟩
  obtain ⟨pv, ws, h5, h6⟩ := h3 hb
  exact ⟨pv, ws, h5, AD_K hk h6⟩
theorem NK.on {L : List Nat} {S : AState} (h : NK L Q S) : upQ Q .normal (S.on 512) := by
 obtain ⟨S', h1, h2⟩ := h.run
 refine ⟨S', h1, fun w0 a w hr => h2 _ _ _ ?_⟩
 obtain ⟨μ, who, h⟩ := hr
 exact ⟨μ, who, h.size, h.slot, h.dfr, h.blk, h.inj, h.base, h.keep, h.old⟩
theorem ZtN (ht : TabOk P tab)  {l : List Oper}  (hL : RF (lv id = L)) (h : AF false P tab l.toArray 0 l n sl hl (4096 * id + 4096) [] (fun S' _ => NK L Q S')) : TX lv P tab (.region id l.toArray false) n sl hl Q :=
 (Zph (T.le ZpX (ZpA ht 512 (AW_K (fun S hS => NK.on hS) h.run))))
theorem Zun (ht : TabOk P tab) (hm : P.follows .mixedOrders = true)  {l : List Oper}  (hL : RF (lv id = L)) (h : AF true P tab l.toArray 0 l n sl hl (4096 * id + 4096) [] (fun S' tw => ordB l tw = true ∧ NK L Q S')) : TX lv P tab (.region id l.toArray true) n sl hl Q :=
 (Zph (T.le ZpX (ZrP ht 512 hm (AD_K (fun S tw hS => ⟨hS.1, NK.on hS.2⟩) h.run))))
theorem Ztb  {i nx : Nat} {l : List Oper}   (h : NK L Q (mkX n sl hl nx)) (ho : ordB l acc = true) : AF true P tab ops i [] n sl hl nx acc (fun S' tw => ordB l tw = true ∧ NK L Q S') := ⟨ho, h⟩
theorem Zs5  {i nx : Nat}   (h : NK L Q (mkX n sl hl nx)) : AF false P tab ops i [] n sl hl nx acc (fun S' _ => NK L Q S') := ⟨h⟩
def andX (lv : Nat → List Nat) (P : Program) (tab : Tab) (c : Code) (Q : Exit → AState → Prop) : Exit → AState → Prop
 | .normal, S => ∃ n sl hl, S = mkX n sl hl 0 ∧ TX lv P tab c n sl hl Q
 | e, S => Q e S
theorem ZaH (h : TX lv P tab x n sl hl (andX lv P tab y Q)) : TX lv P tab (.seq x y) n sl hl Q := Zxm (h.run.mono fun e S h => by
 cases e with
 | normal => obtain ⟨n, sl, hl, rfl, h⟩ := h; exact h.run
 | _ => exact h)
theorem ZoH  (h : TX lv P tab c n sl hl (inT id Q)) : TX lv P tab (.block id c) n sl hl Q := ZmT h.run
def ZrG : Code → Bool
 | .loop _ => false
 | _ => true
theorem ZaD  (hn : RF (ZrG c = true)) (h : TX lv P tab c n sl hl (inT id Q)) : TX lv P tab (.block id c) n sl hl Q := ZoH h
theorem Zar (h : QA Q .normal n sl hl) : TX lv P tab .skip n sl hl Q := ZuH h.run
theorem Zah {l : Nat} (h : QA Q .normal n sl hl) : TX lv P tab (.label l) n sl hl Q := Zry h.run
theorem ZaF (h : QA Q .ret n sl hl) : TX lv P tab .ret n sl hl Q := ZwX h.run
theorem Zau  (h : QA Q (.exit id) n sl hl) : TX lv P tab (.exit id) n sl hl Q := ZuO h.run
structure CK' (lv : Nat → List Nat) (P : Program) (tab : Tab) (x y : Code) (n : Nat) (sl : List (Nat × PV)) (hl : List (Nat × Block)) (Q : Exit → AState → Prop) (p : PV) : Prop where
 e : ∃ b, p = .g (.bool b) ∧ (b = true → TX lv P tab x n sl hl Q) ∧ (b = false → TX lv P tab y n sl hl Q)
def CK (lv : Nat → List Nat) (P : Program) (tab : Tab) (x y : Code) (n : Nat) (sl : List (Nat × PV)) (hl : List (Nat × Block)) (Q : Exit → AState → Prop) (p : PV) : Prop := CK' lv P tab x y n sl hl Q p
theorem CK.mk {lv : Nat → List Nat} {P : Program} {tab : Tab} {x y : Code} {n : Nat} {sl : List (Nat × PV)} {hl : List (Nat × Block)} {Q : Exit → AState → Prop}  (h : CK' lv P tab x y n sl hl Q p) : CK lv P tab x y n sl hl Q p := h
theorem CK.e {lv : Nat → List Nat} {P : Program} {tab : Tab} {x y : Code} {n : Nat} {sl : List (Nat × PV)} {hl : List (Nat × Block)} {Q : Exit → AState → Prop} {p : PV} (h : CK lv P tab x y n sl hl Q p) : ∃ b, p = .g (.bool b) ∧ (b = true → TX lv P tab x n sl hl Q) ∧ (b = false → TX lv P tab y n sl hl Q) := @CK'.e _ _ _ _ _ _ _ _ _ _ h
theorem Zsv {o : Operand}  (hb : EV sl tab 0 o p) (h : CK lv P tab x y n sl hl Q p) : TX lv P tab (.cond o x y) n sl hl Q := by
 obtain ⟨b, rfl, h1, h2⟩ := h.e
 exact ZtK (hb.e _ _ _) (fun e => (h1 e).run) (fun e => (h2 e).run)
theorem CK_t (h : TX lv P tab x n sl hl Q) : CK lv P tab x y n sl hl Q (.g (.bool true)) := CK.mk ⟨_, rfl, fun _ => h, fun e => by cases e⟩
theorem CK_f (h : TX lv P tab y n sl hl Q) : CK lv P tab x y n sl hl Q (.g (.bool false)) := CK.mk ⟨_, rfl, (fun e => by cases e), fun _ => h⟩
theorem ZaQ  (h1 : b = true → TX lv P tab x n sl hl Q) (h2 : b = false → TX lv P tab y n sl hl Q) : CK lv P tab x y n sl hl Q (.g (.bool b)) := CK.mk ⟨_, rfl, h1, h2⟩
theorem Zal (h : TX lv P tab c n sl hl Q) : QA (andX lv P tab c Q) .normal n sl hl := ⟨_, _, _, rfl, h⟩
theorem Zaj  (h : QA Q (.exit id) n sl hl) : QA (andX lv P tab c Q) (.exit id) n sl hl := h.run
theorem Zai (h : QA Q .ret n sl hl) : QA (andX lv P tab c Q) .ret n sl hl := h.run
theorem Zag  (h : QA Q .normal n sl hl) : QA (inT id Q) (.exit id) n sl hl := Zty h.run
theorem Zak  (hn : NE j id) (h : QA Q (.exit j) n sl hl) : QA (inT id Q) (.exit j) n sl hl := ZtU hn.e h.run
theorem Zav  (h : QA Q .normal n sl hl) : QA (inT id Q) .normal n sl hl := ZwW h.run
theorem ZaA  (h : QA Q .ret n sl hl) : QA (inT id Q) .ret n sl hl := Zwo h.run
structure HD where
 sl : List (Nat × PV)
 hl : List (Nat × Block)
def LX (n : Nat) (sl : List (Nat × PV)) (hl : List (Nat × Block)) (H : HD) : Prop := Le (mkX n sl hl 0) (mkX n H.sl H.hl 0)
theorem LX.le {n : Nat} {sl : List (Nat × PV)} {hl : List (Nat × Block)} {H : HD} (h : LX n sl hl H) : Le (mkX n sl hl 0) (mkX n H.sl H.hl 0) := h
def Zpx {ι : Type} (n0 : Nat) (I : ι → HD) (ok : ι → Prop) (m : ι → Nat) (i : ι) (Q : Exit → AState → Prop) : Exit → AState → Prop
 | .normal, S' => ∃ j, ok j ∧ m j < m i ∧ Le S' (mkX n0 (I j).sl (I j).hl 0)
 | e, S' => Q e S'
theorem ZaN  (I : ι → HD) (ok : ι → Prop) (m : ι → Nat) (i0 : ι) (h0 : LX n sl hl (I i0)) (k0 : ok i0) (round : ∀ i, ok i → TX lv P tab c n (I i).sl (I i).hl (Zpx n I ok m i (inT id Q))) : TX lv P tab (.block id (.loop c)) n sl hl Q :=
 (ZmT (Zwb (fun i => mkX n (I i).sl (I i).hl 0) ok m i0 h0.le k0 fun i k => (round i k).run.mono fun e S h => by cases e <;> exact h))
theorem Zax  {I : ι → HD} {ok : ι → Prop} {m : ι → Nat} {i : ι}  (h : QA Q (.exit id) n sl hl) : QA (Zpx n0 I ok m i Q) (.exit id) n sl hl := h.run
theorem Zaz  {I : ι → HD} {ok : ι → Prop} {m : ι → Nat} {i : ι} (h : QA Q .ret n sl hl) : QA (Zpx n0 I ok m i Q) .ret n sl hl := h.run
theorem Zbf  {I : ι → HD} {ok : ι → Prop} {m : ι → Nat} {i : ι} (j : ι) (h3 : LX n sl hl (I j)) (h1 : ok j) (h2 : m j < m i) : QA (Zpx n I ok m i Q) .normal n sl hl := ⟨j, h1, h2, h3.le⟩
def cutX {ι : Type} (n0 : Nat) (I : ι → HD) (ok : ι → Prop) (Q : Exit → AState → Prop) : Exit → AState → Prop
 | .normal, S' => ∃ j, ok j ∧ Le S' (mkX n0 (I j).sl (I j).hl 0)
 | e, S' => Q e S'
theorem Zat  {I : ι → HD} {ok : ι → Prop}  (h : QA Q (.exit id) n sl hl) : QA (cutX n0 I ok Q) (.exit id) n sl hl := h.run
theorem Zas  {I : ι → HD} {ok : ι → Prop} (h : QA Q .ret n sl hl) : QA (cutX n0 I ok Q) .ret n sl hl := h.run
def EQ {α : Type} (a b : α) : Prop := a = b
theorem EQ.mk  {a b : α} (h : a = b) : EQ a b := h
theorem EQ.e  {a b : α} (h : EQ a b) : a = b := h
theorem Zan {k : IntKind} {a b : Int} (h : EQ a b) : EQ (GV.int k a) (.int k b) := EQ.mk (by rw [h.e])
theorem ZaY {a : Bool} (h : a = b) : EQ (GV.bool a) (.bool b) := EQ.mk (by rw [h])
theorem ZbY {e : Nat}  (h : EQ xs ys) : EQ (GV.sl e xs) (.sl e ys) := EQ.mk (by rw [h.e])
theorem ZaS  {f : α → GV} {xs ys : List α} (h : EQ xs ys) : EQ (xs.map f) (ys.map f) := EQ.mk (by rw [h.e])
theorem Zcn  (h : EQ xs ys) : EQ (GV.agg xs) (.agg ys) := EQ.mk (by rw [h.e])
theorem Zfv  (h : EQ xs ys) : EQ (GV.tup xs) (.tup ys) := EQ.mk (by rw [h.e])
theorem Zbd {x y : GV}  (h : EQ x y) (h2 : EQ xs ys) : EQ (x :: xs) (y :: ys) := EQ.mk (by rw [h.e, h2.e])
def HY (p : Prop) : Prop := p
theorem HY.mk {p : Prop} (h : p) : HY p := h
theorem HY.e {p : Prop} (h : HY p) : p := h
structure RN (ρ : List Nat) (p v : PV) : Prop where
 e : ρ.Nodup → v = ren0 ρ p ∧ v = ren1 ρ p
theorem ZmP  (hn : ρ.Nodup)  (h : ρ[j]? = some id) : ρ.idxOf? id = some j := by
 obtain ⟨hj, h1⟩ := List.getElem?_eq_some_iff.1 h
 cases hx : ρ.idxOf? id with
 | none => exact absurd (h1 ▸ List.getElem_mem hj) (List.idxOf?_eq_none_iff.1 hx)
 | some k =>
  obtain ⟨hk, h2⟩ := List.getElem?_eq_some_iff.1 (ZgO hx)
  rw [ZdV hn hk hj (h2.trans h1.symm)]
theorem RN_g  {a b : GV} (h : EQ a b) : RN ρ (.g a) (.g b) := ⟨fun _ => by cases h.e; exact ⟨rfl, rfl⟩⟩
theorem ZrH : RN ρ .none_ .none_ := ⟨fun _ => ⟨rfl, rfl⟩⟩
theorem ZqU  (e : Nat) : RN ρ (.nils e) (.nils e) := ⟨fun _ => ⟨rfl, rfl⟩⟩
theorem Zr2  (cs : List GV) : RN ρ (.iptr cs) (.iptr cs) := ⟨fun _ => ⟨rfl, rfl⟩⟩
theorem ZtY  {lo lo' len len' : Nat} (h : RF (ρ[j]? = some id)) (h1 : EQ lo lo') (h2 : EQ len len') : RN ρ (.own id lo len) (.own j lo' len') := ⟨fun hn => by
 cases h1.e; cases h2.e
 simp only [ren1, ren0, ZmP hn h.e, and_self]⟩
theorem Ztn  {o : Nat} (h : RF (ρ[j]? = some id)) : RN ρ (.ptr id o) (.ptr j o) := ⟨fun hn => by
 simp only [ren1, ren0, ZmP hn h.e, and_self]⟩
theorem ZsM  {k' i : Nat} (h : RF (ρ[j]? = some id)) (h1 : EQ k k') : RN ρ (.eptr id k i) (.eptr j k' i) := ⟨fun hn => by
 cases h1.e
 simp only [ren1, ren0, ZmP hn h.e, and_self]⟩
structure RV (ρ : List Nat) (p v : PV) : Prop where
 e : ρ.Nodup → v = ren1 ρ p
theorem RV_0  (h : RN ρ p v) : RV ρ p v := ⟨fun hn => (h.e hn).2⟩
structure RNL (ρ : List Nat) (ps vs : List PV) : Prop where
 e : ρ.Nodup → vs = ps.map (ren0 ρ)
theorem Zrv : RNL ρ [] [] := ⟨fun _ => rfl⟩
theorem ZoC  (h : RN ρ p v) (h2 : RNL ρ ps vs) : RNL ρ (p :: ps) (v :: vs) := ⟨fun hn => by rw [List.map_cons, ← (h.e hn).1, ← h2.e hn]⟩
theorem Zvp  (h : RNL ρ ps vs) : RV ρ (.agg ps) (.agg vs) := ⟨fun hn => by simp only [ren1, ← h.e hn]⟩
theorem Zwf  (h : RNL ρ ps vs) : RV ρ (.fn f ps) (.fn f vs) := ⟨fun hn => by simp only [ren1, ← h.e hn]⟩
structure RVL (ρ : List Nat) (ps vs : List PV) : Prop where
 e : ρ.Nodup → vs = ps.map (ren1 ρ)
theorem Zsq : RVL ρ [] [] := ⟨fun _ => rfl⟩
theorem ZpG  (h : RV ρ p v) (h2 : RVL ρ ps vs) : RVL ρ (p :: ps) (v :: vs) := ⟨fun hn => by rw [List.map_cons, ← h.e hn, ← h2.e hn]⟩
structure RB (ρ : List Nat) (b b' : Block) : Prop where
 e : ρ.Nodup → b' = renB ρ b
 l : b.live = true
theorem Zv3  {e : Nat} {dp : Bool}  (h : EQ xs ys) : RB ρ (.arr e dp xs) (.arr e dp ys) := ⟨fun _ => by cases h.e; rfl, rfl⟩
theorem ZtC  (h : RVL ρ cs cs') : RB ρ (.box cs) (.box cs') := ⟨fun hn => by simp only [renB, ← h.e hn], rfl⟩
structure HS (ρ : List Nat) (sl sl' : List (Nat × PV)) : Prop where
 e : ρ.Nodup → ∀ t, Zbg sl' t = .undef ∨ Zbg sl' t = ren1 ρ (Zbg sl t)
theorem Zu2  (sl : List (Nat × PV)) : HS ρ sl [] := ⟨fun _ _ => .inl rfl⟩
theorem ZrI  {sl : List (Nat × PV)} (h1 : SL sl t p) (h2 : RV ρ p v) (h3 : HS ρ sl sl') : HS ρ sl ((t, v) :: sl') := ⟨fun hn s => by
 by_cases e : s = t
 ·subst e; right; rw [h1.e]; simp only [Zbg, if_true]; exact h2.e hn
 ·simpa [Zbg, e] using h3.e hn s⟩
structure HB (ρ : List Nat) (hl : List (Nat × Block)) (is : List Nat) (k : Nat) (hl' : List (Nat × Block)) : Prop where
 e : ρ.Nodup → ∀ j, ZaM hl' (k + j) = match is[j]? with | some i => renB ρ (ZaM hl i) | none => .free
 lo : ∀ j, j < k → ZaM hl' j = .free
 l : ∀ i ∈ is, (ZaM hl i).live = true
theorem ZqE  (hl : List (Nat × Block)) (k : Nat) : HB ρ hl [] k [] := ⟨fun _ _ => by simp [ZaM], fun _ _ => rfl, by simp⟩
theorem ZsT {is : List Nat} {i : Nat} {B B' : Block} {hl : List (Nat × Block)} (h1 : HL hl i B) (h2 : RB ρ B B') (h3 : HB ρ hl is (k + 1) hl') : HB ρ hl (i :: is) k ((k, B') :: hl') := ⟨fun hn j => by
 cases j with
 | zero => simp only [Nat.add_zero, ZaM, if_true, List.getElem?_cons_zero]; rw [h1.e]; exact h2.e hn
 | succ j =>
  have := h3.e hn j
  rw [show k + 1 + j = k + (j + 1) by omega] at this
  simp only [ZaM, List.getElem?_cons_succ]
  rw [if_neg (by omega)]; exact this, fun j hj => by
  have := h3.lo j (by omega)
  simp only [ZaM]; rw [if_neg (by omega)]; exact this, fun x hx => by
  rcases List.mem_cons.1 hx with rfl | hx
  ·rw [h1.e]; exact h2.l
  ·exact h3.l x hx⟩
theorem ZhB  (hs : HS ρ sl sl') (hb : HB ρ hl ρ 0 hl') (hn : RF (ρ.Nodup)) : LX n sl hl ⟨sl', hl'⟩ :=
 (Zrg ρ hn.e rfl (fun i hi => hb.l i hi) (fun j => by have := hb.e hn.e j; rw [Nat.zero_add] at this; exact this) (fun t => hs.e hn.e t))
theorem LX0  (hs : HS [] sl sl') : LX n sl hl ⟨sl', []⟩ := ZhB hs (ZqE _ _) (RF.mk (by simp))
theorem LX1  (hs : HS [r0] sl sl') (hb : HB [r0] hl [r0] 0 [(0, b0)]) : LX n sl hl ⟨sl', [(0, b0)]⟩ := ZhB hs hb (RF.mk (by simp))
theorem LX2  (hs : HS [r0, r1] sl sl') (hb : HB [r0, r1] hl [r0, r1] 0 [(0, b0), (1, b1)]) (hn : RF ([r0, r1].Nodup)) : LX n sl hl ⟨sl', [(0, b0), (1, b1)]⟩ := ZhB hs hb hn
theorem LX3  (hs : HS [r0, r1, r2] sl sl') (hb : HB [r0, r1, r2] hl [r0, r1, r2] 0 [(0, b0), (1, b1), (2, b2)]) (hn : RF ([r0, r1, r2].Nodup)) : LX n sl hl ⟨sl', [(0, b0), (1, b1), (2, b2)]⟩ := ZhB hs hb hn
theorem LX4  (hs : HS [r0, r1, r2, r3] sl sl') (hb : HB [r0, r1, r2, r3] hl [r0, r1, r2, r3] 0 [(0, b0), (1, b1), (2, b2), (3, b3)]) (hn : RF ([r0, r1, r2, r3].Nodup)) : LX n sl hl ⟨sl', [(0, b0), (1, b1), (2, b2), (3, b3)]⟩ := ZhB hs hb hn
theorem LX5  (hs : HS [r0, r1, r2, r3, r4] sl sl') (hb : HB [r0, r1, r2, r3, r4] hl [r0, r1, r2, r3, r4] 0 [(0, b0), (1, b1), (2, b2), (3, b3), (4, b4)]) (hn : RF ([r0, r1, r2, r3, r4].Nodup)) : LX n sl hl ⟨sl', [(0, b0), (1, b1), (2, b2), (3, b3), (4, b4)]⟩ := ZhB hs hb hn
theorem LX6  (hs : HS [r0, r1, r2, r3, r4, r5] sl sl') (hb : HB [r0, r1, r2, r3, r4, r5] hl [r0, r1, r2, r3, r4, r5] 0 [(0, b0), (1, b1), (2, b2), (3, b3), (4, b4), (5, b5)]) (hn : RF ([r0, r1, r2, r3, r4, r5].Nodup)) : LX n sl hl ⟨sl', [(0, b0), (1, b1), (2, b2), (3, b3), (4, b4), (5, b5)]⟩ := ZhB hs hb hn
theorem LX7  (hs : HS [r0, r1, r2, r3, r4, r5, r6] sl sl') (hb : HB [r0, r1, r2, r3, r4, r5, r6] hl [r0, r1, r2, r3, r4, r5, r6] 0 [(0, b0), (1, b1), (2, b2), (3, b3), (4, b4), (5, b5), (6, b6)]) (hn : RF ([r0, r1, r2, r3, r4, r5, r6].Nodup)) : LX n sl hl ⟨sl', [(0, b0), (1, b1), (2, b2), (3, b3), (4, b4), (5, b5), (6, b6)]⟩ := ZhB hs hb hn
theorem LX8  (hs : HS [r0, r1, r2, r3, r4, r5, r6, r7] sl sl') (hb : HB [r0, r1, r2, r3, r4, r5, r6, r7] hl [r0, r1, r2, r3, r4, r5, r6, r7] 0 [(0, b0), (1, b1), (2, b2), (3, b3), (4, b4), (5, b5), (6, b6), (7, b7)]) (hn : RF ([r0, r1, r2, r3, r4, r5, r6, r7].Nodup)) : LX n sl hl ⟨sl', [(0, b0), (1, b1), (2, b2), (3, b3), (4, b4), (5, b5), (6, b6), (7, b7)]⟩ := ZhB hs hb hn
theorem LX9  (hs : HS [r0, r1, r2, r3, r4, r5, r6, r7, r8] sl sl') (hb : HB [r0, r1, r2, r3, r4, r5, r6, r7, r8] hl [r0, r1, r2, r3, r4, r5, r6, r7, r8] 0 [(0, b0), (1, b1), (2, b2), (3, b3), (4, b4), (5, b5), (6, b6), (7, b7), (8, b8)]) (hn : RF ([r0, r1, r2, r3, r4, r5, r6, r7, r8].Nodup)) : LX n sl hl ⟨sl', [(0, b0), (1, b1), (2, b2), (3, b3), (4, b4), (5, b5), (6, b6), (7, b7), (8, b8)]⟩ := ZhB hs hb hn
theorem LX10 {r9 : Nat} {b9 : Block}  (hs : HS [r0, r1, r2, r3, r4, r5, r6, r7, r8, r9] sl sl') (hb : HB [r0, r1, r2, r3, r4, r5, r6, r7, r8, r9] hl [r0, r1, r2, r3, r4, r5, r6, r7, r8, r9] 0 [(0, b0), (1, b1), (2, b2), (3, b3), (4, b4), (5, b5), (6, b6), (7, b7), (8, b8), (9, b9)]) (hn : RF ([r0, r1, r2, r3, r4, r5, r6, r7, r8, r9].Nodup)) : LX n sl hl ⟨sl', [(0, b0), (1, b1), (2, b2), (3, b3), (4, b4), (5, b5), (6, b6), (7, b7), (8, b8), (9, b9)]⟩ := ZhB hs hb hn
theorem ZnT  {c nid e : Nat}  (hb : S.heap id = .box cs) (hc : cs[c]? = some (.nils e)) (hf : S.heap nid = .free) : Le S ((S.write nid (.arr e true [])).write id (.box (cs.set c (.own nid 0 0)))) := by
 rintro w0 a w ⟨μ, who, h⟩
 obtain ⟨hlt, hce⟩ := List.getElem?_eq_some_iff.1 hc
 have hB := h.blk id
 rw [hb] at hB
 obtain ⟨b, vs, t, h1, h2, h3, h4, h5⟩ := hB
 have h6 := h5 c hlt
 rw [hce] at h6
 obtain ⟨hv, he⟩ := h6.nils_inv
 obtain ⟨μ', r1, p1⟩ := h.newNil hf (Keeps.refl [] w) he true none
 have hne : id ≠ nid := by intro q; subst q; rw [hb] at hf; cases hf
 have hb' : (S.write nid (.arr e true [])).heap id = .box cs := by simp only [AState.write]; rw [ZaK _ _ _ hne]; exact hb
 have hB' := r1.blk id
 rw [hb'] at hB'
 obtain ⟨b', vs', t', g1, g2, g3, g4, g5⟩ := hB'
 refine ⟨μ', who, r1.mod (id := id) (b := b') (d := 0) (B := .box (cs.set c (.own nid 0 0))) (by rw [hb']; rfl) g1 (Keeps.refl _ _) g2 g2 rfl rfl (by simp) (by simp [hb']) (fun hm => ⟨b', vs', t', g1, g2, by simpa using g3, g4, fun i hi => ?_⟩)⟩
 have hi' : i < cs.length := by simpa using hi
 by_cases e1 : i = c
 ·subst e1
  have h7 := g5 i hi'
  rw [hce] at h7
  rw [h7.nils_inv.1, List.getElem_set_self]
  exact p1.move hm
 ·rw [List.getElem_set_ne (fun q => e1 q.symm)]
  exact (g5 i hi').move hm
theorem ZvG {i c e : Nat}  {H : HD} (hs : SL sl t (.ptr i 0)) (hb : HL hl i (.box cs)) (hc : RF (cs[c]? = some (.nils e))) (hf : HL hl k .free) (hc' : RF (cs.set c (.own k 0 0) = cs')) (h : LX n sl ((i, .box cs') :: (k, .arr e true []) :: hl) H) : LX n sl hl H := by
 cases hc'.e
 intro w0 a w hr
 refine h w0 a w ?_
 have := ZnT (S := mkX n sl hl 0) (hb.e : (mkX n sl hl 0).heap i = _) hc.e (hf.e : (mkX n sl hl 0).heap k = _) w0 a w hr
 have e1 : ((mkX n sl hl 0).write k (.arr e true [])).write i (.box (cs.set c (.own k 0 0))) = mkX n sl ((i, .box (cs.set c (.own k 0 0))) :: (k, .arr e true []) :: hl) 0 := by
  have := Zby (n := n) (sl := sl) (nx := 0) [(k, .arr e true []), (i, .box (cs.set c (.own k 0 0)))] hl
  exact this
 rw [← e1]; exact this
structure RL (tab : Tab) (sl : List (Nat × PV)) (hl : List (Nat × Block)) (rs : List ResultVar) (ps : List PV) : Prop where
 e : ∀ n, resL tab (mkX n sl hl 0) rs = some ps
theorem Zth (sl : List (Nat × PV)) (hl : List (Nat × Block)) : RL tab sl hl [] [] := ⟨fun _ => rfl⟩
theorem ZuF  (h1 : SL sl t p) (h2 : RL tab sl hl rs ps) : RL tab sl hl (.tmp t :: rs) (p :: ps) := ⟨fun n => Zug h1.e (h2.e n)⟩
theorem Zrf {a : Nat} {t : TypeId}    (h1 : SL sl a q) (h3 : LD tab hl t q p) (h2 : RL tab sl hl rs ps) : RL tab sl hl (.cell a t :: rs) (p :: ps) := ⟨fun n => ZrW h1.e h3.e (h2.e n)⟩
theorem Zwl {r0 : ResultVar}  {x : GV}  (h1 : RL tab sl hl [r0] [p]) (h2 : AE hl p x ks true) (h3 : RF (x.isTup = false)) (h4 : EQ x r) : QA (EndR tab [r0] r) .ret n sl hl := ZqK (out1 (h1.e n) h2.e h3.e h4.e)
theorem ZwY {r0 r1 : ResultVar}       (h1 : RL tab sl hl (r0 :: r1 :: rs) (p :: q :: ps)) (h2 : AEL hl (p :: q :: ps) gs ks true) (h4 : EQ (.tup gs) r) : QA (EndR tab (r0 :: r1 :: rs) r) .ret n sl hl := ZqK (outN (h1.e n) h2.e h4.e)
theorem ZaP  (h4 : EQ (.tup []) r) : QA (EndR tab [] r) .ret n sl hl := by
 cases h4.e
 show outR tab _ [] = some (.tup [])
 simp [outR, resL, absL]
theorem ZaR  (h : QA (EndR tab rs r) .ret n sl hl) : QA (EndR tab rs r) .normal n sl hl := h.run
structure SG (gs : List GV) (k : Nat) (sl : List (Nat × PV)) : Prop where
 e : ∀ t, Zbg sl t = .undef ∨ ∃ x, (t - k < gs.length ∧ k ≤ t) ∧ gs[t - k]? = some x ∧ Zbg sl t = .g x
theorem Zt5 (k : Nat) : SG [] k [] := ⟨fun _ => .inl rfl⟩
theorem Zr9 {g : GV}   {sl : List (Nat × PV)} (h : SG gs (k + 1) sl) : SG (g :: gs) k ((k, .g g) :: sl) := ⟨fun t => by
 by_cases e : t = k
 ·subst e; exact .inr ⟨g, by simp, by simp, by simp [Zbg]⟩
 ·rcases h.e t with h1 | ⟨x, h1, h2, h3⟩
  ·left; simp [Zbg, e, h1]
  ·right
   refine ⟨x, by simp; omega, ?_, by simp [Zbg, e, h3]⟩
   rw [show t - k = (t - (k + 1)) + 1 by omega]; simpa using h2⟩
theorem ZmY (lv : Nat → List Nat) (ht : TabOk P tab)   {c : Code}     {sl : List (Nat × PV)} (hf : P.funcs[f]? = some fn) (hb : fn.body = some c) (hn : fn.ntmps = m) (hrs : fn.results.toList = rs) (he : ∀ args w, (callFunc f args).run P w = .ok (.enter f args) w) (hl : (Nat.ble gs.length m && Nat.blt m 65536) = true)
  (hs : SG gs 0 sl) (h : TX lv P tab c m sl [] (EndR tab rs r)) : Con P f gs r := by
 rw [Bool.and_eq_true] at hl
 have hm : m < 65536 := Nat.le_of_ble_eq_true hl.2
 refine Znp ht hf hb hn hrs he (Nat.le_of_ble_eq_true hl.1) hm (T.le ?_ h.run)
 rintro w0 a w ⟨μ, who, h⟩
 refine ⟨μ, who, h.size, fun t => ?_, h.dfr, fun i => h.blk i, fun i j b d d' hi => by simp [mkX, ZaM, Block.live] at hi, fun i b d hi => by simp [mkX, ZaM, Block.live] at hi, h.keep, fun t x hp => (by rw [show pinned (mkX m sl [] 0).n t = false from Zhn hm t] at hp; cases hp), fun t v hv ht => h.old.2 t v hv ht⟩
 rcases hs.e t with e | ⟨x, h1, h2, h3⟩
 ·have : (mkX m sl [] 0).slots t = .undef := e
  rw [this]; exact .undef _
 ·have h4 : (mkX m sl [] 0).slots t = .g x := h3
  have h5 := h.slot t
  simp only [Zc1, Nat.sub_zero] at h5 h2
  rw [h2] at h5
  rw [h4]; exact h5
end
theorem Gives.base {w1 w2 : World}  {e : Ending} (hk : Keeps [] w w1) (h : Gives w1 r e w2) : Gives w r e w2 := by
 obtain ⟨v, F, h1, h2, h3, h4, h5, h6⟩ := h
 exact ⟨v, F, h1, h2, h3, h4, fun b hb => ⟨Nat.le_trans hk.size (h5 b hb).1, (h5 b hb).2⟩, hk.trans h6⟩
def ZeM (b : Nat) : Lay := fun id => if id = 0 then some (b, 0) else none
def EndB (tab : Tab) (rs : List ResultVar) (r : GV) (cs' : List GV) : Exit → AState → Prop
 | .normal, S => outR tab S rs = some r ∧ ∃ id, S.slots 0 = .ptr id 0 ∧ S.heap id = .box (cs'.map PV.g)
 | .ret, S => outR tab S rs = some r ∧ ∃ id, S.slots 0 = .ptr id 0 ∧ S.heap id = .box (cs'.map PV.g)
 | _, _ => False
def p0 (v : Value) : Nat → Option Value := fun t => if t = 0 then some v else none
theorem pin0  (hm : m < 65536) : pinned (m + 65536) 0 = true := by
 have : (m + 65536) / 2 ^ (16 + 0) = 1 := by omega
 unfold pinned; rw [this]; rfl
set_option maxHeartbeats 2000000 in
theorem ZmH (lv : Nat → List Nat) {P : Program} {tab : Tab} (ht : TabOk P tab)   {c : Code}   {cs : List GV}  {cs' : List GV} {sl : List (Nat × PV)} {B : List PV} (hf : P.funcs[f]? = some fn) (hb : fn.body = some c) (hn : fn.ntmps = m) (hrs : fn.results.toList = rs) (he : ∀ args w, (callFunc f args).run P w = .ok (.enter f args) w) (hl : (Nat.ble (gs.length + 1) m && Nat.blt m 65536) = true)
  (hok : cs.all exOk = true) (hok' : cs'.all exOk = true) (hlen : cs'.length = cs.length) (hsub : ∀ c ∈ cs', c.atom = true ∨ c ∈ cs) (hB : GL B cs)
  (hs : SG gs 1 sl) (h : TX lv P tab c (m + 65536) ((0, .ptr 0 0) :: sl) [(0, .box B)] (EndB tab rs r cs')) : BoxC P f cs gs r cs' := by
 rw [Bool.and_eq_true] at hl
 have hm : m < 65536 := Nat.le_of_ble_eq_true hl.2
 have hle := Nat.le_of_ble_eq_true hl.1
 subst hn; subst hrs
 have eB := hB.e
 subst eB
 simp only [List.all_eq_true] at hok hok'
 refine ⟨he, hok, hok', hlen, hsub, fun w b t args hal hrow hrep hg => calls_of_wp hf hb ?_⟩
 have hbl : b < w.heap.size := by
  rcases Nat.lt_or_ge b w.heap.size with h3 | h3
  ·exact h3
  ·rw [Array.getElem?_eq_none h3] at hrow; cases hrow
 have hroot : ∀ x, Root (ZeM b) (ZaM [(0, Block.box (cs.map PV.g))]) x → x = b := by
  rintro x ⟨id, d, h1, h2⟩
  unfold ZeM at h2
  split at h2
  ·simp only [Option.some.injEq, Prod.mk.injEq] at h2; exact h2.1.symm
  ·cases h2
 have hasz : (Value.pointer (some ⟨b, 0, none⟩) :: args).toArray.size = gs.length + 1 := by simp [hal]
 have hget : ∀ t, ((Value.pointer (some ⟨b, 0, none⟩) :: args).toArray ++ Array.replicate (fn.ntmps - (Value.pointer (some ⟨b, 0, none⟩) :: args).toArray.size) Go.undef).getD t Go.undef = (Value.pointer (some ⟨b, 0, none⟩) :: args).getD t Go.undef := fun t => by
  by_cases h1 : t < gs.length + 1
  ·rw [Zbq (by simp; omega), Array.getElem_append_left (by rw [hasz]; exact h1)]
   simp [List.getD, List.getElem?_eq_getElem (show t < (Value.pointer (some ⟨b, 0, none⟩) :: args).length by simp; omega)]
  ·have e1 : (Value.pointer (some ⟨b, 0, none⟩) :: args).getD t Go.undef = Go.undef := by
    simp [List.getD, List.getElem?_eq_none (show (Value.pointer (some ⟨b, 0, none⟩) :: args).length ≤ t by simp; omega)]
   rw [e1]
   by_cases h2 : t < ((Value.pointer (some ⟨b, 0, none⟩) :: args).toArray ++ Array.replicate (fn.ntmps - (Value.pointer (some ⟨b, 0, none⟩) :: args).toArray.size) Go.undef).size
   ·rw [Zbq h2, Array.getElem_append_right (by rw [hasz]; omega)]; simp
   ·simp only [Array.getD, dif_neg h2]
 have hrel : RelAt ⟨w, [b], p0 (.pointer (some ⟨b, 0, none⟩))⟩ (mkX (fn.ntmps + 65536) ((0, .ptr 0 0) :: sl) [(0, .box (cs.map PV.g))] 0) { tmps := (Value.pointer (some ⟨b, 0, none⟩) :: args).toArray ++ Array.replicate (fn.ntmps - (Value.pointer (some ⟨b, 0, none⟩) :: args).toArray.size) Go.undef, defers := [] } w (ZeM b) (fun _ => none) := by
  refine ⟨?_, fun t => ?_, rfl, fun id => ?_, fun i j b1 d d' hi hj hi2 hj2 => ?_, fun i b1 d hi hi2 => ?_, Keeps.refl _ _, fun t x hp hx => ?_, fun t v hv ht0 => ?_⟩
  ·show _ = (fn.ntmps + 65536) % 65536
   rw [Nat.add_mod_right, Nat.mod_eq_of_lt hm, Array.size_append, Array.size_replicate, hasz]; omega
  ·show PRep w (ZeM b) (ZaM [(0, Block.box (cs.map PV.g))]) _ (Zbg ((0, .ptr 0 0) :: sl) t)
   rw [hget t]
   simp only [Zbg]
   split
   ·rename_i e
    subst e
    exact .ptr _ 0 0 rfl (by simp [ZaM]) fun _ _ => ⟨b, rfl, rfl⟩
   ·rename_i e
    rcases hs.e t with e1 | ⟨x, ⟨h1, h1'⟩, h2, h3⟩
    ·rw [e1]; exact .undef _
    ·rw [h3]
     obtain ⟨k, rfl⟩ : ∃ k, t = k + 1 := ⟨t - 1, by omega⟩
     have hk : k < gs.length := by omega
     rw [show k + 1 - 1 = k by omega, List.getElem?_eq_getElem hk] at h2
     cases h2
     obtain ⟨Fk, hgk, hbk⟩ := hg k hk
     have e4 : (Value.pointer (some ⟨b, 0, none⟩) :: args).getD (k + 1) Go.undef = args[k]'(hal ▸ hk) := by simp [List.getD, List.getElem?_eq_getElem (hal ▸ hk)]
     rw [e4]
     exact .g _ _ Fk hgk fun c hc hr => hbk (hroot c hr ▸ hc)
  ·show BRep _ w (ZeM b) (ZaM [(0, Block.box (cs.map PV.g))]) (fun _ => none) id (ZaM [(0, Block.box (cs.map PV.g))] id)
   simp only [ZaM]
   split
   ·rename_i e
    subst e
    refine ⟨b, _, t, rfl, hrow, by simp, fun v hv => ?_, fun i hi => ?_⟩
    ·simp only [List.mem_map] at hv
     obtain ⟨c, hm2, rfl⟩ := hv
     obtain ⟨F, hg2, _⟩ := hrep c hm2
     exact (hg2.exv (hok c hm2)).2
    ·have hi' : i < cs.length := by simpa using hi
     have e1 : (cs.map exV).toArray.getD i Go.undef = exV cs[i] := by simp [Array.getD, hi']
     have e2 : (cs.map PV.g)[i] = .g cs[i] := by simp
     rw [e1, e2]
     obtain ⟨F, hg2, hd⟩ := hrep _ (List.getElem_mem hi')
     exact .g _ _ F hg2 fun x hx hr => hd (hroot x hr ▸ hx)
   ·trivial
  ·have key : ∀ k, (ZaM [(0, Block.box (cs.map PV.g))] k).live = true → k = 0 := fun k hk => by
    simp only [ZaM] at hk; split at hk
    ·assumption
    ·cases hk
   rw [key i hi, key j hj]
  ·have : i = 0 := by
    simp only [mkX, ZaM] at hi; split at hi
    ·assumption
    ·cases hi
   subst this
   cases hi2
   exact ⟨.inr ⟨by simp, _, rfl⟩, hbl⟩
  ·exfalso
   simp only [mkX, Zbg] at hx
   by_cases e : t = 0
   ·subst e; simp at hx
   ·have : pinned (fn.ntmps + 65536) t = false := by
     have : (fn.ntmps + 65536) / 2 ^ (16 + t) = 0 := Nat.div_eq_of_lt (Nat.lt_of_lt_of_le (by omega : fn.ntmps + 65536 < 2 ^ 17) (Nat.pow_le_pow_right (by omega) (by omega)))
     unfold pinned; rw [this]; rfl
    rw [show (mkX (fn.ntmps + 65536) ((0, .ptr 0 0) :: sl) [(0, .box (cs.map PV.g))] 0).n = fn.ntmps + 65536 from rfl, this] at hp
    cases hp
  ·have e : t = 0 := by
    simp only [p0] at hv; split at hv
    ·assumption
    ·cases hv
   subst e
   simp only [p0, if_true, Option.some.injEq] at hv
   subst hv
   exact ⟨pin0 hm, by rw [hget 0]; rfl⟩
 have fin : ∀ {S' : AState} {a' : Act} {w' : World} {μ' : Lay} {who' : Nat → Option Nat}, (outR tab S' fn.results.toList = some r ∧ ∃ id, S'.slots 0 = .ptr id 0 ∧ S'.heap id = .box (cs'.map PV.g)) → RelAt ⟨w, [b], p0 (.pointer (some ⟨b, 0, none⟩))⟩ S' a' w' μ' who' →
   a'.defers = [] ∧ ∃ v, (results fn a'.tmps).run P w' = .ok v w' ∧ (GivesW ⟨w, [b], np0⟩ r (.returned v) w' ∧ ∃ t', w'.heap[b]? = some (.cells (cs'.map exV).toArray t' (0, 0))) := by
  rintro S' a' w' μ' who' ⟨q1, id, q2, q3⟩ h2
  obtain ⟨v, r1, r2⟩ := Zln ht h2 q1
  refine ⟨h2.dfr, v, r1, r2, ?_⟩
  have h3 := h2.slot 0
  rw [q2] at h3
  obtain ⟨_, _, h4⟩ := h3.ptr_inv
  obtain ⟨b', h5, h6⟩ := h4 _ q3
  have h7 := (h2.old.2 0 _ rfl (by omega)).2
  rw [h6] at h7
  have hbb : b' = b := by simpa using h7
  rw [hbb] at h5
  have h8 := h2.blk id
  rw [q3] at h8
  obtain ⟨b2, vs, t', h9, h10, h11, h12, h13⟩ := h8
  rw [h5] at h9
  have hb2 : b = b2 := by simpa using h9
  rw [← hb2] at h10
  refine ⟨t', ?_⟩
  rw [h10]
  have : vs = (cs'.map exV).toArray := by
   apply Array.ext
   ·simpa using h11
   ·intro i h3 h4
    have hi : i < cs'.length := by simpa using h4
    have h14 := h13 i (by simpa using hi)
    simp only [List.getElem_map] at h14
    obtain ⟨F, hg2, _⟩ := h14.g_inv
    have := (hg2.exv (hok' _ (List.getElem_mem hi))).1
    simp only [Array.getD, dif_pos h3, Array.getInternal_eq_getElem] at this
    simpa using this
  rw [this]
 refine wp_mono (h.run ⟨w, [b], p0 (.pointer (some ⟨b, 0, none⟩))⟩ _ w ⟨_, _, hrel⟩) fun e a' w' ⟨S', h1, μ', who', h2⟩ => ?_
 cases e with
 | normal => exact fin h1 h2
 | ret => exact fin h1 h2
 | exit | goto | panic | outgrown => exact h1.elim
def EndN (rs : List ResultVar) (cs : List GV) : Exit → AState → Prop
 | .normal, S => ∃ t id, rs = [.tmp t] ∧ S.slots t = .ptr id 0 ∧ S.heap id = .box (cs.map PV.g)
 | .ret, S => ∃ t id, rs = [.tmp t] ∧ S.slots t = .ptr id 0 ∧ S.heap id = .box (cs.map PV.g)
 | _, _ => False
set_option maxHeartbeats 2000000 in
theorem Zmo (lv : Nat → List Nat) {P : Program} {tab : Tab} (ht : TabOk P tab)   {c : Code}   {cs : List GV} {sl : List (Nat × PV)} (hf : P.funcs[f]? = some fn) (hb : fn.body = some c) (hn : fn.ntmps = m) (hrs : fn.results.toList = rs) (he : ∀ args w, (callFunc f args).run P w = .ok (.enter f args) w) (hl : (Nat.ble gs.length m && Nat.blt m 65536) = true)
  (hok : cs.all exOk = true) (hsub : ∀ c ∈ cs, c.atom = true ∨ c ∈ gs) (hs : SG gs 0 sl) (h : TX lv P tab c m sl [] (EndN rs cs)) : NewC P f gs cs := by
 rw [Bool.and_eq_true] at hl
 have hm : m < 65536 := Nat.le_of_ble_eq_true hl.2
 have hle := Nat.le_of_ble_eq_true hl.1
 subst hn; subst hrs
 simp only [List.all_eq_true] at hok
 refine ⟨he, hok, hsub, fun w args hal hg => calls_of_wp hf hb ?_⟩
 have hrel0 := Zks hle hm w args hal hg
 have hrel : RelAt ⟨w, [], np0⟩ (mkX fn.ntmps sl [] 0) { tmps := args.toArray ++ Array.replicate (fn.ntmps - args.toArray.size) Go.undef, defers := [] } w (fun _ => none) (fun _ => none) := by
  refine ⟨hrel0.size, fun t => ?_, hrel0.dfr, fun i => hrel0.blk i, fun i j b d d' hi => by simp [mkX, ZaM, Block.live] at hi, fun i b d hi => by simp [mkX, ZaM, Block.live] at hi, hrel0.keep, fun t x hp => (by rw [show pinned (mkX fn.ntmps sl [] 0).n t = false from Zhn hm t] at hp; cases hp), fun t v hv ht => hrel0.old.2 t v hv ht⟩
  rcases hs.e t with e | ⟨x, h1, h2, h3⟩
  ·have : (mkX fn.ntmps sl [] 0).slots t = .undef := e
   rw [this]; exact .undef _
  ·have h4 : (mkX fn.ntmps sl [] 0).slots t = .g x := h3
   have h5 := hrel0.slot t
   simp only [Zc1, Nat.sub_zero] at h5 h2
   rw [h2] at h5
   rw [h4]; exact h5
 have fin : ∀ {S' : AState} {a' : Act} {w' : World} {μ' : Lay} {who' : Nat → Option Nat}, (∃ t id, fn.results.toList = [.tmp t] ∧ S'.slots t = .ptr id 0 ∧ S'.heap id = .box (cs.map PV.g)) → RelAt ⟨w, [], np0⟩ S' a' w' μ' who' →
   a'.defers = [] ∧ ∃ v, (results fn a'.tmps).run P w' = .ok v w' ∧ ∃ b t, Ending.returned v = .returned (.pointer (some ⟨b, 0, none⟩)) ∧ w.heap.size ≤ b ∧ w'.heap[b]? = some (.cells (cs.map exV).toArray t (0, 0)) ∧ Keeps [] w w' := by
  rintro S' a' w' μ' who' ⟨t0, id, q1, q2, q3⟩ h2
  have h3 := h2.slot t0
  rw [q2] at h3
  obtain ⟨_, _, h4⟩ := h3.ptr_inv
  obtain ⟨b, h5, h6⟩ := h4 _ q3
  have hlv : (S'.heap id).live = true := by rw [q3]; rfl
  have h8 := h2.blk id
  rw [q3] at h8
  obtain ⟨b2, vs, t', h9, h10, h11, h12, h13⟩ := h8
  rw [h5] at h9
  have hb2 : b = b2 := by simpa using h9
  rw [← hb2] at h10
  have hbase := (h2.base id b 0 hlv h5).1
  have hnew : w.heap.size ≤ b := by
   rcases hbase with h | ⟨h, _⟩
   ·exact h.old rfl
   ·simp at h
  refine ⟨h2.dfr, a'.tmps.getD t0 Go.undef, ?_, b, t', by rw [h6], hnew, ?_, h2.keep⟩
  ·have e0 : results fn a'.tmps = (do let vs ← fn.results.mapM (Ziq a'.tmps); Pure.pure (if h : vs.size = 1 then vs[0] else .tuple vs)) := rfl
   rw [e0, Array.mapM_eq_mapM_toList, q1]
   simp [Ziq]
  ·rw [h10]
   have : vs = (cs.map exV).toArray := by
    apply Array.ext
    ·simpa using h11
    ·intro i h3 h4
     have hi : i < cs.length := by simpa using h4
     have h14 := h13 i (by simpa using hi)
     simp only [List.getElem_map] at h14
     obtain ⟨F, hg2, _⟩ := h14.g_inv
     have := (hg2.exv (hok _ (List.getElem_mem hi))).1
     simp only [Array.getD, dif_pos h3, Array.getInternal_eq_getElem] at this
     simpa using this
   rw [this]
 refine wp_mono (h.run ⟨w, [], np0⟩ _ w ⟨_, _, hrel⟩) fun e a' w' ⟨S', h1, μ', who', h2⟩ => ?_
 cases e with
 | normal => exact fin h1 h2
 | ret => exact fin h1 h2
 | exit | goto | panic | outgrown => exact h1.elim
theorem Con.unex {P : Program}  {e : Nat}   (he : ∀ args w, (callFunc f args).run P w = .ok (.enter f args) w) (h : ∀ v, Con P f [.ex v e xs] r) : Con P f [.sl e xs] r :=
 ⟨he, fun w args hl hg => by
  obtain ⟨F, h0⟩ := hg 0 (by simp)
  refine (h (args[0]'(by rw [hl]; simp))).calls w args hl fun i hi => ?_
  have : i = 0 := by simpa using hi
  subst this
  exact ⟨F, .ex _ _ _ F h0⟩⟩
end Go.Proofs.Ytnieejghoaccmaa

