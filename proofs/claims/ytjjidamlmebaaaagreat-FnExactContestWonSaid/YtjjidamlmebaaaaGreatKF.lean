/- Abstract states as lists: lookups, constants, parts of lists; the judgements of a walk. Over any program; no conditions. -/
import Derived.Test.YtjjidamlmebaaaaGreatKC
namespace Go.Proofs.YtjjidamlmebaaaaGreat
open Go.RowKit
open Shp
variable {a b off k lo : Nat} {p : Prop} {ty : TypeId} {α : Type} {x : GV} {gs xs : List GV} {ps : List PV}
def Zbs : List (Nat × PV) → Nat → PV
 | [], _ => .undef
 | (d, v) :: sl, t => if t = d then v else Zbs sl t
def ZaH : List (Nat × Block) → Nat → Block
 | [], _ => .free
 | (d, b) :: hl, j => if j = d then b else ZaH hl j
def mkX (n : Nat) (sl : List (Nat × PV)) (hl : List (Nat × Block)) (nx : Nat) : AState := ⟨n, Zbs sl, ZaH hl, nx⟩
structure SL (sl : List (Nat × PV)) (t : Nat) (v : PV) : Prop where
 e : Zbs sl t = v
structure HL (hl : List (Nat × Block)) (j : Nat) (b : Block) : Prop where
 e : ZaH hl j = b
structure EV (sl : List (Nat × PV)) (tab : Tab) (ty : TypeId) (x : Operand) (v : PV) : Prop where
 e : ∀ n hl nx, (mkX n sl hl nx).ev tab ty x = v
def NE (a b : Nat) : Prop := Nat.beq a b = false
theorem NE.mk  (h : Nat.beq a b = false) : NE a b := h
theorem NE.e  (h : NE a b) : Nat.beq a b = false := h
def RF (p : Prop) : Prop := p
theorem RF.mk  (h : p) : RF p := h
theorem RF.e  (h : RF p) : p := h
def NU (p : Prop) : Prop := p
theorem NU.mk  (h : p) : NU p := h
theorem NU.e  (h : NU p) : p := h
section
variable {sl : List (Nat × PV)} {hl : List (Nat × Block)} {t d j n nx : Nat} {v u : PV} {B B' : Block}
theorem Zvc  (h : NE a b) : a ≠ b := by intro e; subst e; have := h.e; simp at this
theorem ZtW (sl : List (Nat × PV)) (t : Nat) (v : PV) : SL ((t, v) :: sl) t v := ⟨by simp [Zbs]⟩
theorem Zyr (h : NE t d) (h2 : SL sl t u) : SL ((d, v) :: sl) t u := ⟨by simp [Zbs, Zvc h, h2.e]⟩
theorem ZuF (hl : List (Nat × Block)) (j : Nat) (b : Block) : HL ((j, b) :: hl) j b := ⟨by simp [ZaH]⟩
theorem ZyM (h : NE j d) (h2 : HL hl j B) : HL ((d, B') :: hl) j B := ⟨by simp [ZaH, Zvc h, h2.e]⟩
theorem Zxs (j : Nat) : HL [] j .free := ⟨rfl⟩
theorem Zo8 : (mkX n sl hl nx).slots t = Zbs sl t := rfl
theorem Zcn : (mkX n sl hl nx).heap j = ZaH hl j := rfl
theorem Zfa : (mkX n sl hl nx).nx = nx := rfl
theorem Zyp : (mkX n sl hl nx).n = n := rfl
theorem Zot (v : PV) : (mkX n sl hl nx).put (some d) v = mkX n ((d, v) :: sl) hl nx :=
 AState.ext' rfl (fun t => by simp only [ZhN, Zo8, Zbs]) (fun _ => rfl) rfl
theorem Zv2 (v : PV) : (mkX n sl hl nx).put none v = mkX n sl hl nx := rfl
theorem ZmD (id : Nat) (b : Block) : (mkX n sl hl nx).writes [(id, b)] = mkX n sl ((id, b) :: hl) nx :=
 AState.ext' rfl (fun _ => rfl) (fun j => by simp only [Zh4, Zcn, ZaH]) rfl
def Zfs : List (Nat × Block) → List (Nat × Block) → List (Nat × Block)
 | [], hl => hl
 | w :: ws, hl => Zfs ws (w :: hl)
theorem Zbg : ∀ (ws : List (Nat × Block)) (hl : List (Nat × Block)), (mkX n sl hl nx).writes ws = mkX n sl (Zfs ws hl) nx
 | [], hl => rfl
 | (id, b) :: ws, hl => by
  rw [AState.writes_cons]
  have : (mkX n sl hl nx).write id b = mkX n sl ((id, b) :: hl) nx := ZmD id b
  rw [this, Zbg ws]; rfl
def putL (d : Option Nat) (v : PV) (sl : List (Nat × PV)) : List (Nat × PV) := match d with | some d => (d, v) :: sl | none => sl
theorem Ze5 (d : Option Nat) (v : PV) : (mkX n sl hl nx).put d v = mkX n (putL d v sl) hl nx := by cases d; exact Zv2 v; exact Zot v
theorem Zb5 : ∀ (ws vs hl : List (Nat × Block)), Zfs (ws ++ vs) hl = Zfs vs (Zfs ws hl)
 | [], _, _ => rfl
 | w :: ws, vs, hl => Zb5 ws vs (w :: hl)
def Zbe : List Nat → List (Nat × Block) → List (Nat × Block)
 | [], hl => hl
 | k :: ks, hl => Zbe ks ((k, .dead) :: hl)
theorem ZbV : ∀ (ks : List Nat) (hl : List (Nat × Block)), Zfs (Zco ks) hl = Zbe ks hl
 | [], _ => rfl
 | k :: ks, hl => ZbV ks ((k, .dead) :: hl)
theorem ZeG : ∀ (ks : List Nat) (hl : List (Nat × Block)), ZaH (Zbe ks hl) = killL (ZaH hl) ks
 | [], _ => rfl
 | k :: ks, hl => by
  rw [Zbe, ZeG ks]
  show killL _ ks = killL (upd (ZaH hl) k .dead) ks
  congr 1
theorem Zwr {tab : Tab}  (h : SL sl t u) : EV sl tab ty (.tmp t) u := ⟨fun _ _ _ => h.e⟩
theorem Zxq (sl : List (Nat × PV)) (tab : Tab) (ty : TypeId) (k : IntKind) (n : Int) : EV sl tab ty (.const (.int k n)) (.g (.int k n)) := ⟨fun _ _ _ => rfl⟩
theorem Zul (sl : List (Nat × PV)) (tab : Tab) (ty : TypeId) (b : Bool) : EV sl tab ty (.const (.bool b)) (.g (.bool b)) := ⟨fun _ _ _ => rfl⟩
theorem ZvU (sl : List (Nat × PV)) (tab : Tab) (ty : TypeId) (s : ByteArray) : EV sl tab ty (.const (.string s)) (.g (.str s)) := ⟨fun _ _ _ => rfl⟩
theorem Ztc (sl : List (Nat × PV)) (tab : Tab) (ty : TypeId) : EV sl tab ty (.const (.pointer none)) (.g .nilp) := ⟨fun _ _ _ => rfl⟩
theorem Ztv {tab : Tab}  {cs : List GV} (h : SL sl 65536 (.glob 0 cs)) : EV sl tab ty (.global 0) (.g (.box cs)) := ⟨fun n hl nx => by
 have e : (mkX n sl hl nx).slots (65536 + 0) = .glob 0 cs := h.e
 simp only [AState.ev, e, if_true]⟩
theorem ZsJ (sl : List (Nat × PV)) (tab : Tab) (ty : TypeId) (f : FuncId) : EV sl tab ty (.func f) (.fn f []) := ⟨fun _ _ _ => rfl⟩
theorem Zvf {tab : Tab}  {E e : Nat} (h1 : RF (ZbO tab ty = some (E, e + 1))) : EV sl tab ty (.const (.slice none 0 0)) (.nils (e + 1)) := ⟨fun n hl nx => by
 have h := h1.e
 unfold ZbO at h
 simp only [AState.ev, cst]
 split at h
 ·cases h
 ·rename_i ti e1
  split at h
  ·rename_i E' e2
   split at h
   ·rename_i ei e3
    simp only [Option.some.injEq, Prod.mk.injEq] at h
    obtain ⟨rfl, h6⟩ := h
    simp only [e1, e2, e3, h6]
    rw [if_pos (by omega)]
   ·cases h
  ·cases h⟩
structure Sel (sl : List (Nat × PV)) (L : List Nat) (sl' : List (Nat × PV)) : Prop where
 e : ∀ t, Zbs sl' t = .undef ∨ Zbs sl' t = Zbs sl t
theorem ZtH (sl : List (Nat × PV)) : Sel sl [] [] := ⟨fun _ => .inl rfl⟩
theorem ZqZ {L : List Nat} {sl' : List (Nat × PV)} (h : SL sl t v) (h2 : Sel sl L sl') : Sel sl (t :: L) ((t, v) :: sl') := ⟨fun s => by
 by_cases e : s = t
 ·subst e; right; simp [Zbs, h.e]
 ·simpa [Zbs, e] using h2.e s⟩
structure Sub {α : Type} (cs : List α) (off n : Nat) (cs' : List α) : Prop where
 e : (cs.drop off).take n = cs'
 l : off + n ≤ cs.length
theorem Zuv  (cs : List α) : Sub cs 0 0 [] := ⟨by simp, by simp⟩
theorem Zq0  {c : α} {cs cs' : List α} {n : Nat} (h : Sub cs 0 n cs') : Sub (c :: cs) 0 (n + 1) (c :: cs') := ⟨by simpa using h.e, by have := h.l; simp; omega⟩
theorem Zrd  {c : α} {cs cs' : List α} {n : Nat} (h : Sub cs off n cs') : Sub (c :: cs) (off + 1) n cs' := ⟨by simpa using h.e, by have := h.l; simp; omega⟩
structure Idx {α : Type} (cs : List α) (k : Nat) (c : α) : Prop where
 e : cs[k]? = some c
theorem ZqR  (c : α) (cs : List α) : Idx (c :: cs) 0 c := ⟨rfl⟩
theorem Zqb  {c d : α} {cs : List α}  (h : Idx cs k c) : Idx (d :: cs) (k + 1) c := ⟨by simpa using h.e⟩
structure Dr {α : Type} (cs : List α) (k : Nat) (cs' : List α) : Prop where
 e : cs.drop k = cs'
theorem Zsv  (cs : List α) : Dr cs 0 cs := ⟨rfl⟩
theorem Zuy  {d : α} {cs cs' : List α}  (h : Dr cs k cs') : Dr (d :: cs) (k + 1) cs' := ⟨by simpa using h.e⟩
structure SetL {α : Type} (cs : List α) (off : Nat) (ps cs' : List α) : Prop where
 e : setL cs off ps = cs'
 l : off + ps.length ≤ cs.length
theorem ZrC  (cs : List α) : SetL cs 0 [] cs := ⟨by simp [setL], by simp⟩
theorem ZqM  {c p : α} {cs ps cs' : List α} (h : SetL cs 0 ps cs') : SetL (c :: cs) 0 (p :: ps) (p :: cs') := ⟨by have := h.e; simpa [setL] using this, by have := h.l; simp; omega⟩
theorem ZoD  {c : α} {cs ps cs' : List α}  (h : SetL cs off ps cs') : SetL (c :: cs) (off + 1) ps (c :: cs') := ⟨by have := h.e; simp only [setL, List.take_succ_cons, List.cons_append] at *; rw [show off + 1 + ps.length = (off + ps.length) + 1 by omega, List.drop_succ_cons, this], by have := h.l; simp; omega⟩
structure MapG (gs : List GV) (ps : List PV) : Prop where
 e : gs.map PV.g = ps
theorem ZrS : MapG [] [] := ⟨rfl⟩
theorem ZoT  (h : MapG gs ps) : MapG (x :: gs) (.g x :: ps) := ⟨by simp [h.e]⟩
structure CP (p : PV) (cs : List PV) : Prop where
 e : p.cells = cs
 v : p.val = true
theorem Zww (cs : List PV) : CP (.agg cs) cs := ⟨rfl, rfl⟩
theorem Zxp (id lo len : Nat) : CP (.own id lo len) [.own id lo len] := ⟨rfl, rfl⟩
theorem ZuL (e : Nat) : CP (.nils e) [.nils e] := ⟨rfl, rfl⟩
theorem Zxx (id o : Nat) : CP (.ptr id o) [.ptr id o] := ⟨rfl, rfl⟩
theorem Zyj (f : FuncId) (cs : List PV) : CP (.fn f cs) [.fn f cs] := ⟨rfl, rfl⟩
theorem Zw2 (k : IntKind) (n : Int) : CP (.g (.int k n)) [.g (.int k n)] := ⟨rfl, rfl⟩
theorem Zug (b : Bool) : CP (.g (.bool b)) [.g (.bool b)] := ⟨rfl, rfl⟩
theorem Zvj (s : ByteArray) : CP (.g (.str s)) [.g (.str s)] := ⟨rfl, rfl⟩
theorem ZsP : CP (.g .nilp) [.g .nilp] := ⟨rfl, rfl⟩
theorem Zy9 (e : Nat) (xs : List GV) : CP (.g (.sl e xs)) [.g (.sl e xs)] := ⟨rfl, rfl⟩
theorem ZyF (v : Value) (e : Nat) (xs : List GV) : CP (.g (.ex v e xs)) [.g (.ex v e xs)] := ⟨rfl, rfl⟩
theorem Zyc (N e : Nat) (xs : List GV) : CP (.g (.bd N e xs)) [.g (.bd N e xs)] := ⟨rfl, rfl⟩
theorem Zth (cs : List GV) : CP (.g (.box cs)) [.g (.box cs)] := ⟨rfl, rfl⟩
theorem Zvb (f : FuncId) (cs : List GV) : CP (.g (.fn f cs)) [.g (.fn f cs)] := ⟨rfl, rfl⟩
theorem Zu4  (h : MapG gs ps) : CP (.g (.agg gs)) ps := ⟨h.e, rfl⟩
structure CG (x : GV) (cs : List GV) : Prop where
 e : x.cells = cs
 t : x.isTup = false
theorem Zx6 (k : IntKind) (n : Int) : CG (.int k n) [.int k n] := ⟨rfl, rfl⟩
theorem Zuc (b : Bool) : CG (.bool b) [.bool b] := ⟨rfl, rfl⟩
theorem Zwb (s : ByteArray) : CG (.str s) [.str s] := ⟨rfl, rfl⟩
theorem Zuq : CG .nilp [.nilp] := ⟨rfl, rfl⟩
theorem Zyk (e : Nat) (xs : List GV) : CG (.sl e xs) [.sl e xs] := ⟨rfl, rfl⟩
theorem Zym (v : Value) (e : Nat) (xs : List GV) : CG (.ex v e xs) [.ex v e xs] := ⟨rfl, rfl⟩
theorem Zzh (N e : Nat) (xs : List GV) : CG (.bd N e xs) [.bd N e xs] := ⟨rfl, rfl⟩
theorem Zva (c : Nat) (v : Value) : CG (.raw c v) [.raw c v] := ⟨rfl, rfl⟩
theorem Zws (cs : List GV) : CG (.box cs) [.box cs] := ⟨rfl, rfl⟩
theorem ZvK (cs : List GV) : CG (.agg cs) cs := ⟨rfl, rfl⟩
structure LEN (xs : List GV) (n : Nat) : Prop where
 e : xs.length = n
theorem ZpR  (f : α → GV) (ys : List α) : LEN (ys.map f) ys.length := ⟨by simp⟩
theorem Zpb : LEN [] 0 := ⟨rfl⟩
theorem ZvY (x : GV) : LEN [x] 1 := ⟨rfl⟩
theorem Zwq (x y : GV) : LEN [x, y] 2 := ⟨rfl⟩
theorem Zo4 (xs : List GV) : LEN xs xs.length := ⟨rfl⟩
structure CUT' (xs : List GV) (lo len : Nat) (ys : List GV) : Prop where
 e : (xs.drop lo).take len = ys
 l : lo + len ≤ xs.length
def CUT (xs : List GV) (lo len : Nat) (ys : List GV) : Prop := CUT' xs lo len ys
theorem CUT.mk  {len : Nat} {ys : List GV} (h : CUT' xs lo len ys) : CUT xs lo len ys := h
theorem CUT.e {xs : List GV} {lo len : Nat} {ys : List GV} (h : CUT xs lo len ys) : (xs.drop lo).take len = ys := @CUT'.e _ _ _ _ h
theorem CUT.l {xs : List GV} {lo len : Nat} {ys : List GV} (h : CUT xs lo len ys) : lo + len ≤ xs.length := @CUT'.l _ _ _ _ h
theorem ZtI  {len n : Nat} (hn : LEN xs n) (h0 : lo = 0) (hl : len = n) : CUT xs lo len xs := CUT.mk ⟨by subst h0; subst hl; rw [← hn.e]; simp, by rw [hn.e]; omega⟩
theorem ZoP  {f : α → GV} {ys : List α} {len : Nat} (hl : NU (lo + len ≤ ys.length)) : CUT (ys.map f) lo len (((ys.drop lo).take len).map f) := CUT.mk ⟨by rw [List.map_take, List.map_drop], by simpa using hl.e⟩
theorem Zbk  {f : α → GV} {ys : List α} {len : Nat} (h0 : lo = 0) (hl : NU (len ≤ ys.length)) : CUT (ys.map f) lo len ((ys.take len).map f) := CUT.mk ⟨by subst h0; rw [List.map_take]; simp, by have := hl.e; simp; omega⟩
theorem Zqk  {f : α → GV} {ys : List α} {len : Nat} (hl : lo + len = ys.length) : CUT (ys.map f) lo len ((ys.drop lo).map f) := CUT.mk ⟨by rw [List.map_drop, List.take_of_length_le (by simp; omega)], by simp; omega⟩
structure CAT (xs ys zs : List GV) : Prop where
 e : xs ++ ys = zs
theorem Zu0 (ys : List GV) : CAT [] ys ys := ⟨rfl⟩
theorem Zsu  (f : α → GV) (xs ys : List α) : CAT (xs.map f) (ys.map f) ((xs ++ ys).map f) := ⟨by simp⟩
theorem Zuh  (f : α → GV) (xs : List α) (y : α) : CAT (xs.map f) [f y] ((xs ++ [y]).map f) := ⟨by simp⟩
theorem Zso  (f : α → GV) (xs : List α) : CAT (xs.map f) [] (xs.map f) := ⟨by simp⟩
theorem ZrP  (f : α → GV) (x : α) (ys : List α) : CAT [f x] (ys.map f) ((x :: ys).map f) := ⟨by simp⟩
theorem ZtJ (xs ys : List GV) : CAT xs ys (xs ++ ys) := ⟨rfl⟩
structure ITM (xs : List GV) (n : Int) (x : GV) : Prop where
 e : xs[n.toNat]? = some x
 l : 0 ≤ n ∧ n < (xs.length : Int)
theorem ZkE  [Inhabited α] {f : α → GV} {ys : List α} {n : Nat} (h : NU (n < ys.length)) : ITM (ys.map f) (n : Int) (f (nth ys n)) := ⟨Zl5 h.e, by have := h.e; simp; omega⟩
theorem Zxd {ys : List Int}  {n : Nat} (e : RF (xs = ys.map GV.i)) (h : NU (n < ys.length)) : ITM xs (n : Int) (GV.i (nth ys n)) := by
 have e1 := e.e
 subst e1
 exact ZkE h
theorem Zrv  [Inhabited α] {f : α → GV} {ys : List α} (n : Nat) (h : NU (n < ys.length)) : ITM (ys.map f) (OfNat.ofNat n) (f (nth ys n)) := ⟨Zl5 h.e, by have := h.e; constructor; exact Int.natCast_nonneg n; simp; exact Int.ofNat_lt.2 this⟩
theorem Zrx  [Inhabited α] {f : α → GV} {ys : List α} {n : Nat} (h : NU (n + 1 < ys.length)) : ITM (ys.map f) ((n : Int) + 1) (f (nth ys (n + 1))) := ⟨Zl5 h.e, by have := h.e; simp; omega⟩
theorem ZrA  [Inhabited α] {f : α → GV} {ys : List α} {n : Nat} (h : NU (1 ≤ n ∧ n ≤ ys.length)) : ITM (ys.map f) ((n : Int) - 1) (f (nth ys (n - 1))) := by
 have h1 := h.e
 have e1 : (n : Int) - 1 = ((n - 1 : Nat) : Int) := by omega
 rw [e1]
 exact ZkE (NU.mk (by omega))
theorem Zsw  [Inhabited α] {f : α → GV} {ys : List α} {n : Int} (h : NU (0 ≤ n ∧ n < (ys.length : Int))) : ITM (ys.map f) n (f (nth ys n.toNat)) := ⟨Zvg h.e, by have := h.e; simpa using this⟩
theorem Zse  {n : Nat}  (h : RF (xs[n]? = some x)) : ITM xs (OfNat.ofNat n) x := ⟨h.e, by
 have := (List.getElem?_eq_some_iff.1 h.e).1
 constructor
 ·exact Int.natCast_nonneg n
 ·exact Int.ofNat_lt.2 this⟩
theorem Zqp  {n : Nat}  (h : RF (xs[n]? = some x)) : ITM xs (n : Int) x := ⟨by simpa using h.e, by
 have := (List.getElem?_eq_some_iff.1 h.e).1
 omega⟩
def rawL {α : Type} (f : α → GV) (A : List α) (kk c : Nat) (v : Value) : List GV := (A.map f).set kk (.raw c v)
@[simp] theorem ZhB {α : Type} (f : α → GV) (A : List α) (kk c : Nat) (v : Value) : (rawL f A kk c v).length = A.length := by simp [rawL]
theorem Zto  {f : α → GV} {A : List α} {kk c : Nat} {v : Value} {n : Int} (h : NU (n = (kk : Int) ∧ kk < A.length)) : ITM (rawL f A kk c v) n (.raw c v) := by
 obtain ⟨h1, h2⟩ := h.e
 subst h1
 exact ⟨by simp [rawL, h2], by simp; omega⟩
structure PUT (xs : List GV) (k : Nat) (x : GV) (ys : List GV) : Prop where
 e : xs.set k x = ys
theorem ZuV  (f : α → GV) (ys : List α) (k : Nat) (y : α) : PUT (ys.map f) k (f y) ((ys.set k y).map f) := ⟨by rw [List.map_set]⟩
theorem Zsh  (f : α → GV) (A : List α) (kk c k : Nat) (v : Value) (y : α) (h : NU (k = kk)) : PUT (rawL f A kk c v) k (f y) ((A.set kk y).map f) := ⟨by
 have := h.e
 subst this
 rw [rawL, List.set_set, List.map_set]⟩
theorem ZuH (xs : List GV) (k : Nat) (x : GV) : PUT xs k x (xs.set k x) := ⟨rfl⟩
end
end Go.Proofs.YtjjidamlmebaaaaGreat
namespace Go.Proofs.YtjjidamlmebaaaaGreat
open Go.RowKit
open Shp
variable {a c b u : Int} {k E off m id j nid o f : Nat} {t ft : TypeId} {ti si di fi : TI} {op : BinOp} {x y : Operand} {v p q : PV} {k' kk : IntKind} {cs cs' xs ys : List GV} {α : Type} {dp : Bool} {fs : List (Nat × TypeId)} {lo hi : Option Operand}
def NID (a k : Nat) : Prop := a = k
theorem NID.e {a : Nat} (h : NID a k) : a = k := h
theorem ZxF {a : Nat} (h : a = k) : NID a k := h
structure SLT' (tab : Tab) (t E e : Nat) : Prop where
 h : ∃ ti ei, tab t = some ti ∧ ti.kind = .sl E ∧ tab E = some ei ∧ ei.size = e + 1
def SLT (tab : Tab) (t E e : Nat) : Prop := SLT' tab t E e
theorem SLT.mk {tab : Tab} {t e : Nat} (h : SLT' tab t E e) : SLT tab t E e := h
theorem SLT.h {tab : Tab} {t E e : Nat} (h : SLT tab t E e) : ∃ ti ei, tab t = some ti ∧ ti.kind = .sl E ∧ tab E = some ei ∧ ei.size = e + 1 := @SLT'.h _ _ _ _ h
theorem ZwW {tab : Tab} {t e : Nat} {ei : TI} (h1 : tab t = some ti) (h2 : ti.kind = .sl E) (h3 : tab E = some ei) (h4 : ei.size = e + 1) : SLT tab t E e := SLT.mk ⟨ti, ei, h1, h2, h3, h4⟩
theorem SLT.el {tab : Tab} {t e : Nat} (h : SLT tab t E e) : ZbO tab t = some (E, e + 1) := by
 obtain ⟨ti, ei, h1, h2, h3, h4⟩ := h.h
 simp only [ZbO, h1, h2, h3, h4]
section
variable {dr : Bool} {P : Program} {tab : Tab} {ops : Array Oper} {i : Nat} {os : List Oper} {acc : List (List Nat × List Nat)} {K : AState → List (List Nat × List Nat) → Prop}
variable {ty : TypeId} {pos : String} {af : Array Edge} {n nx d : Nat} {sl : List (Nat × PV)} {hl : List (Nat × Block)}
def AF (dr : Bool) (P : Program) (tab : Tab) (ops : Array Oper) (i : Nat) (os : List Oper) (n : Nat) (sl : List (Nat × PV)) (hl : List (Nat × Block)) (nx : Nat) (acc : List (List Nat × List Nat)) (K : AState → List (List Nat × List Nat) → Prop) : Prop := AX dr P tab ops i os (mkX n sl hl nx) acc K
abbrev tcX (tab : Tab) (i n : Nat) (sl : List (Nat × PV)) (hl : List (Nat × Block)) (nx : Nat) (o : Oper) (ws : List Nat) : List Nat × List Nat := tcW tab i (mkX n sl hl nx) o ws
theorem Zcc {dst : Option Nat} {op : Op} {pv : PV} {ws : List (Nat × Block)} (h2 : (mkX n sl hl nx).has dst = true) (h3 : aOp tab (nx + 8 * i) ⟨dst, op, ty, pos, af, none⟩ (mkX n sl hl nx) = some (pv, ws))
  (h4 : AF dr P tab ops (i + 1) os n (putL dst pv sl) (Zfs ws hl) nx (acc ++ [tcX tab i n sl hl nx ⟨dst, op, ty, pos, af, none⟩ (ws.map (·.1))]) K) : AF dr P tab ops i (⟨dst, op, ty, pos, af, none⟩ :: os) n sl hl nx acc K :=
 Zzp h2 h3 (by rw [Zbg, Ze5]; exact h4)
theorem Zbl {d : Nat} (h : RF (hasB d n = true)) : (mkX n sl hl nx).has (some d) = true := by have := h.e; rw [Zm9, Zyp]; exact this
theorem Zvm  (hd : RF (hasB d n = true)) (hx : EV sl tab ty x v) (h4 : AF dr P tab ops (i + 1) os n ((d, v) :: sl) hl nx (acc ++ [tcX tab i n sl hl nx ⟨some d, .move x, ty, pos, af, none⟩ []]) K) : AF dr P tab ops i (⟨some d, .move x, ty, pos, af, none⟩ :: os) n sl hl nx acc K :=
 Zcc (ws := []) (Zbl hd) (by simp only [aOp, hx.e]) h4
theorem Zrc  (hd : RF (hasB d n = true)) (hx : EV sl tab ty x v) (h4 : AF dr P tab ops (i + 1) os n ((d, v) :: sl) hl nx (acc ++ [tcX tab i n sl hl nx ⟨some d, .assign x, ty, pos, af, none⟩ []]) K) : AF dr P tab ops i (⟨some d, .assign x, ty, pos, af, none⟩ :: os) n sl hl nx acc K :=
 Zcc (ws := []) (Zbl hd) (by simp only [aOp, hx.e]) h4
structure PK (c p q v : PV) : Prop where
 e : ZqQ c p q = some (v, [])
theorem PK_t (p q : PV) : PK (.g (.bool true)) p q p := ⟨rfl⟩
theorem PK_f (p q : PV) : PK (.g (.bool false)) p q q := ⟨rfl⟩
theorem ZwQ {c : Operand} {pc : PV} (hd : RF (hasB d n = true)) (hc : EV sl tab 0 c pc) (hx : EV sl tab ty x p) (hy : EV sl tab ty y q) (hp : PK pc p q v) (h4 : AF dr P tab ops (i + 1) os n ((d, v) :: sl) hl nx (acc ++ [tcX tab i n sl hl nx ⟨some d, .pick c x y, ty, pos, af, none⟩ []]) K) : AF dr P tab ops i (⟨some d, .pick c x y, ty, pos, af, none⟩ :: os) n sl hl nx acc K :=
 Zcc (ws := []) (Zbl hd) (by simp only [aOp, hx.e, hy.e, hc.e, hp.e]) h4
structure BN (tab : Tab) (t : TypeId) (op : BinOp) (x y v : PV) : Prop where
 e : Zi0 tab op t x y = some (v, [])
theorem ZdJ  {x y : PV} (h : aBin op x y = some (v, [])) : BN tab t op x y v := ⟨ZkC (Zqq h)⟩
theorem ZwB  (hb : NU (-9223372036854775808 ≤ a + b ∧ a + b ≤ 9223372036854775807)) : BN tab t .add (.g (.int .i64 a)) (.g (.int .i64 b)) (.g (.int .i64 (a + b))) := ZdJ (by simp [aBin, Zde, wr64 hb.e.1 hb.e.2])
theorem Zvp  (hb : NU (-9223372036854775808 ≤ a - b ∧ a - b ≤ 9223372036854775807)) : BN tab t .sub (.g (.int .i64 a)) (.g (.int .i64 b)) (.g (.int .i64 (a - b))) := ZdJ (by simp [aBin, Zde, wr64 hb.e.1 hb.e.2])
theorem ZwA  (hb : NU (-9223372036854775808 ≤ a * b ∧ a * b ≤ 9223372036854775807)) : BN tab t .mul (.g (.int .i64 a)) (.g (.int .i64 b)) (.g (.int .i64 (a * b))) := ZdJ (by simp [aBin, Zde, wr64 hb.e.1 hb.e.2])
theorem ZvO  (hb : NU (0 ≤ a ∧ a ≤ 9223372036854775807 ∧ 0 < b)) : BN tab t .quo (.g (.int .i64 a)) (.g (.int .i64 b)) (.g (.int .i64 (a / b))) := ZdJ (by
  have hb := hb.e
  have e1 : a.tdiv b = a / b := Int.tdiv_eq_ediv_of_nonneg hb.1
  have e2 : 0 ≤ a / b := Int.ediv_nonneg hb.1 (by omega)
  have e3 : a / b ≤ a := Int.ediv_le_self b hb.1
  have e4 : ¬ b = 0 := by omega
  simp [aBin, Zde, e1, e4, wr64 (show -9223372036854775808 ≤ a / b by omega) (show a / b ≤ 9223372036854775807 by omega)])
theorem Zu7  (hb : NU (0 ≤ a ∧ 0 < b)) : BN tab t .rem (.g (.int .i64 a)) (.g (.int .i64 b)) (.g (.int .i64 (a % b))) := ZdJ (by
  have hb := hb.e
  have e1 : a.tmod b = a % b := Int.tmod_eq_emod_of_nonneg hb.1
  have e4 : ¬ b = 0 := by omega
  simp [aBin, Zde, e1, e4])
theorem Zv1  {k : IntKind} (hb : NU (0 ≤ a ∧ 0 ≤ b ∧ b ≤ 62 ∧ a * 2 ^ b.toNat ≤ 9223372036854775807)) : BN tab t .shl (.g (.int .i64 a)) (.g (.int k b)) (.g (.int .i64 (a * 2 ^ b.toNat))) := ZdJ (by
  have hb := hb.e
  have h5 : 0 ≤ a * 2 ^ b.toNat := Int.mul_nonneg hb.1 (Int.pow_nonneg (by decide))
  have e1 : ¬ b < 0 := by omega
  have e2 : min b.toNat (IntKind.bits .i64) = b.toNat := Nat.min_eq_left (by show b.toNat ≤ 64; omega)
  simp only [aBin, e1, if_false, e2, wr64 (show -9223372036854775808 ≤ a * 2 ^ b.toNat by omega) hb.2.2.2])
theorem Zyn  (h1 : 0 ≤ a) (h2 : a < 256) : IntKind.u8.wrap a = a := by
 have e : a % 2 ^ 8 = a := Int.emod_eq_of_lt h1 (by omega)
 simp only [IntKind.wrap, IntKind.bits, IntKind.signed, e]
 rfl
theorem Ztj  (h : NU (0 ≤ a - b ∧ a - b < 256)) : BN tab t .sub (.g (.int .u8 a)) (.g (.int .u8 b)) (.g (.int .u8 (a - b))) := ZdJ (by
 have e := Zyn h.e.1 h.e.2
 simp [aBin, Zde, e])
theorem Zuu  (k : IntKind) (a b : Int) : BN tab t .add (.g (.int k a)) (.g (.int k b)) (.g (.int k (k.wrap (a + b)))) := ZdJ (by simp [aBin, Zde])
theorem ZsA  (k : IntKind) (a b : Int) : BN tab t .mul (.g (.int k a)) (.g (.int k b)) (.g (.int k (k.wrap (a * b)))) := ZdJ (by simp [aBin, Zde])
theorem Zwx  (k : IntKind) (a b : Int) : BN tab t .and (.g (.int k a)) (.g (.int k b)) (.g (.int k (Zl3 .and k a b))) := ZdJ (by simp [aBin, Zde])
theorem Zvw  (k : IntKind) (a b : Int) : BN tab t .xor (.g (.int k a)) (.g (.int k b)) (.g (.int k (Zl3 .xor k a b))) := ZdJ (by simp [aBin, Zde])
theorem ZwH  {k : IntKind}  (hb : NU (0 ≤ b)) : BN tab t .shr (.g (.int k a)) (.g (.int k' b)) (.g (.int k (a.fdiv (2 ^ min b.toNat k.bits)))) := ZdJ (by have := hb.e; simp [aBin, show ¬ b < 0 by omega])
theorem Zub : BN tab t .shr (.g (.int .u64 a)) (.g (.int k' 1)) (.g (.int .u64 (a / 2))) := ZdJ (by
 have e : a.fdiv (2 ^ min (Int.toNat 1) (IntKind.bits .u64)) = a / 2 := by
  show a.fdiv 2 = a / 2
  exact Int.fdiv_eq_ediv_of_nonneg a (by omega)
 simp only [aBin, show ¬ ((1 : Int) < 0) by omega, if_false, e])
theorem Zvh  (k : IntKind) (a b : Int) : BN tab t .eql (.g (.int k a)) (.g (.int k b)) (.g (.bool (a == b))) := ZdJ (by simp [aBin, Zde])
theorem Zxv  (k : IntKind) (a b : Int) : BN tab t .neq (.g (.int k a)) (.g (.int k b)) (.g (.bool (a != b))) := ZdJ (by simp [aBin, Zde])
theorem Zw4  (k : IntKind) (a b : Int) : BN tab t .lss (.g (.int k a)) (.g (.int k b)) (.g (.bool (decide (a < b)))) := ZdJ (by simp [aBin, Zde])
theorem ZwZ  (k : IntKind) (a b : Int) : BN tab t .leq (.g (.int k a)) (.g (.int k b)) (.g (.bool (decide (a ≤ b)))) := ZdJ (by simp [aBin, Zde])
theorem Zwa  (k : IntKind) (a b : Int) : BN tab t .gtr (.g (.int k a)) (.g (.int k b)) (.g (.bool (decide (a > b)))) := ZdJ (by simp [aBin, Zde])
theorem Zx3  (k : IntKind) (a b : Int) : BN tab t .geq (.g (.int k a)) (.g (.int k b)) (.g (.bool (decide (a ≥ b)))) := ZdJ (by simp [aBin, Zde])
theorem ZwY  {a b : Bool} (h : RF (Zer tab t = true)) : BN tab t .eql (.g (.bool a)) (.g (.bool b)) (.g (.bool (a == b))) := ⟨ZkC (by simp only [Zhb, h.e, if_true])⟩
theorem ZxK  {a b : Bool} (h : RF (Zer tab t = true)) : BN tab t .neq (.g (.bool a)) (.g (.bool b)) (.g (.bool (!(a == b)))) := ⟨ZkC (by simp only [Zhb, h.e, if_true])⟩
theorem Zx1 (a b c d : Int) : ([a, b] == [c, d]) = decide ((a, b) = (c, d)) := by
 rw [Bool.eq_iff_iff]; simp
theorem ZqT  (h : Zbi .i64 p = some [a, b]) : p = .agg [.g (.int .i64 a), .g (.int .i64 b)] ∨ p = .g (.agg [.int .i64 a, .int .i64 b]) := by
 unfold Zbi at h
 split at h
 ·have := ZkI h; subst this; exact .inl rfl
 ·have := ZjP h; subst this; exact .inr rfl
 ·cases h
theorem Zom  {d : Int} (hp : Zbi .i64 p = some [a, b]) (hq : Zbi .i64 q = some [c, d]) : Zhb tab op t p q = none := by
 rcases ZqT hp with rfl | rfl <;> rcases ZqT hq with rfl | rfl <;> cases op <;> rfl
theorem Zrj  {d : Int} (hp : Zbi .i64 p = some [a, b]) (hq : Zbi .i64 q = some [c, d]) (ht : RF (Zhv tab t = some (2, .i64))) : BN tab t .eql p q (.g (.bool (decide ((a, b) = (c, d))))) := ⟨by
 unfold Zi0
 rw [Zom hp hq]
 rcases ZqT hp with rfl | rfl <;> rcases ZqT hq with rfl | rfl <;> simp only [ht.e, hp, hq, Zx1, List.length_cons, List.length_nil, and_self, if_true]⟩
theorem Zum  {d : Int} (ht : RF (Zhv tab t = some (2, .i64))) : BN tab t .eql (.agg [.g (.int .i64 a), .g (.int .i64 b)]) (.agg [.g (.int .i64 c), .g (.int .i64 d)]) (.g (.bool (decide ((a, b) = (c, d))))) := Zrj (by simp [Zbi, Zin]) (by simp [Zbi, Zin]) ht
theorem Zux  {d : Int} (ht : RF (Zhv tab t = some (2, .i64))) : BN tab t .eql (.g (.agg [.int .i64 a, .int .i64 b])) (.agg [.g (.int .i64 c), .g (.int .i64 d)]) (.g (.bool (decide ((a, b) = (c, d))))) := Zrj (by simp [Zbi, ZiR]) (by simp [Zbi, Zin]) ht
theorem Zsm  {d : Int} (ht : RF (Zhv tab t = some (2, .i64))) : BN tab t .eql (.agg [.g (.int .i64 a), .g (.int .i64 b)]) (.g (.agg [.int .i64 c, .int .i64 d])) (.g (.bool (decide ((a, b) = (c, d))))) := Zrj (by simp [Zbi, Zin]) (by simp [Zbi, ZiR]) ht
theorem Zs9  {d : Int} (ht : RF (Zhv tab t = some (2, .i64))) : BN tab t .eql (.g (.agg [.int .i64 a, .int .i64 b])) (.g (.agg [.int .i64 c, .int .i64 d])) (.g (.bool (decide ((a, b) = (c, d))))) := Zrj (by simp [Zbi, ZiR]) (by simp [Zbi, ZiR]) ht
theorem ZxG  (a b : ByteArray) : BN tab t .eql (.g (.str a)) (.g (.str b)) (.g (.bool (a.toList == b.toList))) := ⟨by simp [Zi0, Zhb, aBin, ZnE]⟩
theorem Zwi  (a b : ByteArray) : BN tab t .neq (.g (.str a)) (.g (.str b)) (.g (.bool (!(a.toList == b.toList)))) := ⟨by simp [Zi0, Zhb, aBin, ZnE]⟩
theorem Zt5  {a b : ByteArray} (h : NU (a.size + b.size ≤ 9223372036854775807)) : BN tab t .add (.g (.str a)) (.g (.str b)) (.g (.str (a ++ b))) := ⟨by have := h.e; simp [Zi0, Zhb, aBin, ZnE, this]⟩
theorem Zzl  {t' : TypeId}   (hd : RF (hasB d n = true)) (hx : EV sl tab 0 x p) (hy : EV sl tab 0 y q) (hv : BN tab t op p q v) (h4 : AF dr P tab ops (i + 1) os n ((d, v) :: sl) hl nx (acc ++ [tcX tab i n sl hl nx ⟨some d, .binOp op t x y t', ty, pos, af, none⟩ []]) K) : AF dr P tab ops i (⟨some d, .binOp op t x y t', ty, pos, af, none⟩ :: os) n sl hl nx acc K :=
 Zcc (ws := []) (Zbl hd) (by simp only [aOp, hx.e, hy.e, hv.e]) h4
structure UN (op : UnOp) (x v : PV) : Prop where
 e : aUn op x = some (v, [])
theorem Zv6 (b : Bool) : UN .not (.g (.bool b)) (.g (.bool (!b))) := ⟨rfl⟩
theorem Zxu  (hb : NU (-9223372036854775807 ≤ a ∧ a ≤ 9223372036854775807)) : UN .neg (.g (.int .i64 a)) (.g (.int .i64 (0 - a))) := ⟨by have := hb.e; simp only [aUn]; rw [wr64 (by omega) (by omega)]⟩
theorem X_un {op : UnOp}    (hd : RF (hasB d n = true)) (hx : EV sl tab 0 x p) (hv : UN op p v) (h4 : AF dr P tab ops (i + 1) os n ((d, v) :: sl) hl nx (acc ++ [tcX tab i n sl hl nx ⟨some d, .unOp op t x, ty, pos, af, none⟩ []]) K) : AF dr P tab ops i (⟨some d, .unOp op t x, ty, pos, af, none⟩ :: os) n sl hl nx acc K :=
 Zcc (ws := []) (Zbl hd) (by simp only [aOp, hx.e, hv.e]) h4
structure CV (tab : Tab) (s t : TypeId) (x v : PV) : Prop where
 e : ZlA tab s t x = some (v, [])
theorem ZvZ {s : TypeId}  {k : IntKind}  (h5 : RF (tab s = some si ∧ si.kind = .int k)) (h6 : RF (tab t = some di ∧ di.kind = .int .i64)) (hb : NU (-9223372036854775808 ≤ a ∧ a ≤ 9223372036854775807)) : CV tab s t (.g (.int k' a)) (.g (.int .i64 a)) := ⟨by simp [ZlA, h5.e.1, h6.e.1, h5.e.2, h6.e.2, wr64 hb.e.1 hb.e.2]⟩
theorem wrU  (h1 : 0 ≤ a) (h2 : a ≤ 9223372036854775807) : IntKind.u64.wrap a = a := by
 have e : a % 2 ^ 64 = a := Int.emod_eq_of_lt h1 (by omega)
 simp only [IntKind.wrap, IntKind.bits, IntKind.signed, e]
 rfl
theorem wr8  (h1 : 0 ≤ a) (h2 : a < 256) : IntKind.u8.wrap a = a := by
 have e : a % 2 ^ 8 = a := Int.emod_eq_of_lt h1 (by omega)
 simp only [IntKind.wrap, IntKind.bits, IntKind.signed, e]
 rfl
theorem Zy0 {s : TypeId}  {k : IntKind}  (h5 : RF (tab s = some si ∧ si.kind = .int k)) (h6 : RF (tab t = some di ∧ di.kind = .int .u8)) (hb : NU (0 ≤ a ∧ a < 256)) : CV tab s t (.g (.int k' a)) (.g (.int .u8 a)) := ⟨by simp [ZlA, h5.e.1, h6.e.1, h5.e.2, h6.e.2, wr8 hb.e.1 hb.e.2]⟩
theorem Zv7 {s : TypeId}  {k : IntKind}  (h5 : RF (tab s = some si ∧ si.kind = .int k)) (h6 : RF (tab t = some di ∧ di.kind = .int .u64)) (hb : NU (0 ≤ a ∧ a ≤ 9223372036854775807)) : CV tab s t (.g (.int k' a)) (.g (.int .u64 a)) := ⟨by simp [ZlA, h5.e.1, h6.e.1, h5.e.2, h6.e.2, wrU hb.e.1 hb.e.2]⟩
theorem ZsH {s : TypeId}  {k k2 : IntKind}  (h5 : RF (tab s = some si ∧ si.kind = .int k)) (h6 : RF (tab t = some di ∧ di.kind = .int k2)) : CV tab s t (.g (.int k' a)) (.g (.int k2 (k2.wrap a))) := ⟨by simp [ZlA, h5.e.1, h6.e.1, h5.e.2, h6.e.2]⟩
theorem Zxc {s : TypeId}   (hd : RF (hasB d n = true)) (hx : EV sl tab 0 x p) (hv : CV tab s t p v) (h4 : AF dr P tab ops (i + 1) os n ((d, v) :: sl) hl nx (acc ++ [tcX tab i n sl hl nx ⟨some d, .convert s t x, ty, pos, af, none⟩ []]) K) : AF dr P tab ops i (⟨some d, .convert s t x, ty, pos, af, none⟩ :: os) n sl hl nx acc K :=
 Zcc (ws := []) (Zbl hd) (by simp only [aOp, hx.e, hv.e]) h4
theorem Zsp {elem : TypeId}   {z : List PV} (hd : RF (hasB d n = true)) (ht : RF (tab elem = some ti ∧ ti.zero = z)) (hk : NID (nx + 8 * i) k) (hf : HL hl k .free) (h4 : AF dr P tab ops (i + 1) os n ((d, .ptr k 0) :: sl) ((k, .box z) :: hl) nx (acc ++ [tcX tab i n sl hl nx ⟨some d, .alloc elem, ty, pos, af, none⟩ [k]]) K) : AF dr P tab ops i (⟨some d, .alloc elem, ty, pos, af, none⟩ :: os) n sl hl nx acc K := by
 cases hk.e
 cases ht.e.2
 exact Zcc (ws := [(nx + 8 * i, .box ti.zero)]) (Zbl hd) (by simp only [aOp, ZlL, ht.e.1, Zfa, Zcn, hf.e, ZbU, if_true]) h4
theorem ZyG {elem : TypeId}   {cs : List PV}  (hd : RF (hasB d n = true)) (hx : EV sl tab elem x p) (hp : CP p cs) (hk : NID (nx + 8 * i) k) (hf : HL hl k .free) (h4 : AF dr P tab ops (i + 1) os n ((d, .ptr k 0) :: sl) ((k, .box cs) :: hl) nx (acc ++ [tcX tab i n sl hl nx ⟨some d, .box elem x, ty, pos, af, none⟩ [k]]) K) : AF dr P tab ops i (⟨some d, .box elem x, ty, pos, af, none⟩ :: os) n sl hl nx acc K := by
 cases hk.e
 exact Zcc (ws := [(nx + 8 * i, .box cs)]) (Zbl hd) (by simp only [aOp, aBox, hx.e, hp.e, hp.v, Zcn, hf.e, ZbU, Bool.and_self, if_true]) h4
structure LB (tab : Tab) (t : TypeId) (off : Nat) (cs : List PV) (v : PV) : Prop where
 e : ∃ ti, tab t = some ti ∧ ZeL ti off cs = some v
theorem Zxw  {cs : List PV}   (h : RF (tab t = some ti ∧ ti.kind.agg = false)) (h2 : Idx cs off v) : LB tab t off cs v := ⟨ti, h.e.1, by simp only [ZeL, h.e.2, Bool.false_eq_true, if_false, h2.e]⟩
theorem ZvF  {cs cs' : List PV}  {sz : Nat} (h : RF (tab t = some ti ∧ ti.kind.agg = true ∧ ti.size = sz)) (h2 : Sub cs off sz cs') : LB tab t off cs (.agg cs') := ⟨ti, h.e.1, by
 obtain ⟨h3, h4, h5⟩ := h.e
 have := h2.l
 simp only [ZeL, h4, if_true, h5]
 rw [if_pos this, h2.e]⟩
def arK (tab : Tab) (t : TypeId) : Nat :=
 match tab t with
 | some ti => match ti.kind with
  | .ar m E => match tab E with
   | some ei => if ei.size = 1 ∧ ei.kind.agg = false ∧ ti.size = m then m else 0
   | none => 0
  | _ => 0
 | none => 0
theorem Zmz  (h : arK tab t = m) (hm : 0 < m) : ∃ ti E ei, tab t = some ti ∧ ti.kind = .ar m E ∧ tab E = some ei ∧ ei.size = 1 ∧ ei.kind.agg = false ∧ ti.size = m := by
 unfold arK at h
 split at h
 ·rename_i ti hti
  split at h
  ·rename_i m' E hk
   split at h
   ·rename_i ei hE
    split at h
    ·rename_i hc
     subst h
     exact ⟨ti, E, ei, hti, hk, hE, hc.1, hc.2.1, hc.2.2⟩
    ·omega
   ·omega
  ·omega
 ·omega
structure LI (tab : Tab) (t : TypeId) (cs : List GV) (v : PV) : Prop where
 e : ∃ ti, tab t = some ti ∧ Za9 ti cs = some v
theorem ZuP  {f : α → GV} {ys : List α}   (ht : RF (arK tab t = m)) (hn : NU (0 < m ∧ m = ys.length)) : LI tab t (ys.map f) (.g (.agg (ys.map f))) := by
 have hn := hn.e
 obtain ⟨ti, E, ei, h1, h2, _, _, _, h3⟩ := Zmz ht.e hn.1
 have h4 : ti.kind.agg = true := by rw [h2]; rfl
 exact ⟨ti, h1, by simp [Za9, h4, h3, hn.2, List.take_of_length_le]⟩
theorem ZtB  [Inhabited α] {f : α → GV} {ys : List α}    (h : RF (tab t = some ti ∧ ti.kind.agg = false)) (hn : NU (k < ys.length)) : LI tab t ((ys.map f).drop k) (.g (f (nth ys k))) := ⟨ti, h.e.1, by
 have hn := hn.e
 simp [Za9, h.e.2, List.getElem?_drop, Zaz hn, hn]⟩
theorem Zw6  {c : GV}   (h : RF (tab t = some ti ∧ ti.kind.agg = false)) : LI tab t (c :: cs) (.g c) := ⟨ti, h.e.1, by simp [Za9, h.e.2]⟩
theorem Zw0  {sz : Nat} (h : RF (tab t = some ti ∧ ti.kind.agg = true ∧ ti.size = sz)) (h2 : Sub cs 0 sz cs') : LI tab t cs (.g (.agg cs')) := ⟨ti, h.e.1, by
 obtain ⟨h3, h4, h5⟩ := h.e
 have := h2.l
 have h6 := h2.e
 simp at h6
 simp only [Za9, h4, if_true, h5]
 rw [if_pos (by omega), h6]⟩
structure LD (tab : Tab) (hl : List (Nat × Block)) (t : TypeId) (p v : PV) : Prop where
 e : Zeb tab (ZaH hl) t p = some (v, [])
theorem ZpK  {cs : List PV}  (hb : HL hl id (.box cs)) (hv : LB tab t off cs v) : LD tab hl t (.ptr id off) v := ⟨by obtain ⟨ti, h1, h2⟩ := hv.e; exact Zwk h1 hb.e h2⟩
theorem Zv3  (hv : LI tab t cs v) : LD tab hl t (.iptr cs) v := ⟨by obtain ⟨ti, h1, h2⟩ := hv.e; exact ZxJ h1 h2⟩
theorem Zsg  (hv : LI tab t cs v) : LD tab hl t (.g (.box cs)) v := ⟨by obtain ⟨ti, h1, h2⟩ := hv.e; exact Zt1 h1 h2⟩
theorem Zxm  {e : Nat}   {x : GV}   (hb : HL hl id (.arr e dp xs)) (hx : ITM xs (k : Int) x) (hc : CG x cs) (hj : Dr cs j cs') (hv : LI tab t cs' v) : LD tab hl t (.eptr id k j) v := ⟨by
 obtain ⟨ti, h1, h2⟩ := hv.e
 have h3 := hx.e
 simp only [Int.toNat_natCast] at h3
 exact ZxA h1 hb.e h3 hc.t (by rw [hc.e, hj.e]; exact h2)⟩
theorem Zxn  (hd : RF (hasB d n = true)) (hx : EV sl tab 0 x p) (hv : LD tab hl t p v) (h4 : AF dr P tab ops (i + 1) os n ((d, v) :: sl) hl nx (acc ++ [tcX tab i n sl hl nx ⟨some d, .load t x, ty, pos, af, none⟩ []]) K) : AF dr P tab ops i (⟨some d, .load t x, ty, pos, af, none⟩ :: os) n sl hl nx acc K :=
 Zcc (ws := []) (Zbl hd) (by simp only [aOp, hx.e]; exact hv.e) h4
structure ST (tab : Tab) (nid : Nat) (hl : List (Nat × Block)) (t : TypeId) (p v : PV) (ws : List (Nat × Block)) : Prop where
 e : Zex tab nid (ZaH hl) t p v = some (.none_, ws)
theorem ZwU  {sz : Nat} {cs cs' ps : List PV}  (hb : HL hl id (.box cs)) (hp : CP p ps) (ht : RF (tab t = some ti ∧ ti.size = sz)) (hs : RF (ps.length = sz)) (hc : SetL cs off ps cs') : ST tab nid hl t (.ptr id off) p [(id, .box cs')] := ⟨by
 obtain ⟨h1, h2⟩ := ht.e
 have h3 := hs.e
 have h4 := hc.l
 have h5 := hc.e
 subst h2
 simp only [Zex, h1, hb.e, hp.v, hp.e, h3, Bool.true_and, beq_self_eq_true, h5]
 rw [if_pos (by simpa using (by omega : off + ti.size ≤ cs.length))]⟩
theorem ZrZ  {g : GV} (hb : HL hl id (.arr 1 dp xs)) (ht : RF (tab t = some ti ∧ ti.size = 1)) (hg : RF (g.atom = true)) (hf : HL hl nid .free) (hy : PUT xs k g ys) (hk : NU (k < xs.length)) : ST tab nid hl t (.eptr id k 0) (.g g) [(id, .arr 1 dp ys)] := ⟨by
 obtain ⟨h1, h2⟩ := ht.e
 have hg := hg.e
 have e1 : g.ncells = 1 := by cases g <;> simp_all [GV.atom, GV.ncells]
 have e2 : g.isTup = false := by cases g <;> simp_all [GV.atom, GV.isTup]
 have e3 : g.flat = true := by cases g <;> simp_all [GV.atom, GV.flat]
 have e4 : absE (ZaH hl) (.g g) = some (g, [], true) := by simp [absE, Za2, e3]
 have hk := hk.e
 have hy := hy.e
 subst hy
 simp only [Zex, h1, hb.e, h2, hk, hf.e, ZbU, and_self, if_true, e4, e1, e2, List.not_mem_nil, not_false_eq_true, Zco, List.map_nil, List.nil_append, Bool.and_true]⟩
structure NP (hl : List (Nat × Block)) (p : PV) : Prop where
 e : p.isPtr (ZaH hl) = true
theorem Zxz  {cs : List PV} (h : HL hl id (.box cs)) : NP hl (.ptr id o) := ⟨by simp only [PV.isPtr, h.e]⟩
theorem ZsW {e : Nat}   (h : HL hl id (.arr e dp xs)) : NP hl (.eptr id k j) := ⟨by simp only [PV.isPtr, h.e]⟩
theorem Ztr (cs : List GV) : NP hl (.iptr cs) := ⟨rfl⟩
theorem Zs5 (cs : List GV) : NP hl (.g (.box cs)) := ⟨rfl⟩
theorem Zzr (f : FuncId) (cs : List PV) : NP hl (.fn f cs) := ⟨rfl⟩
theorem Zwh  (hd : RF (hasB d n = true)) (hx : EV sl tab 0 x p) (hp : NP hl p) (h4 : AF dr P tab ops (i + 1) os n ((d, p) :: sl) hl nx (acc ++ [tcX tab i n sl hl nx ⟨some d, .nilCheck x, ty, pos, af, none⟩ []]) K) : AF dr P tab ops i (⟨some d, .nilCheck x, ty, pos, af, none⟩ :: os) n sl hl nx acc K :=
 Zcc (ws := []) (Zbl hd) (by simp only [aOp, hx.e, aNil]; rw [if_pos]; exact hp.e) h4
structure FL (tab : Tab) (hl : List (Nat × Block)) (s : TypeId) (x : PV) (f : Nat) (v : PV) : Prop where
 e : Zep tab (ZaH hl) s x f = some (v, [])
structure FO' (tab : Tab) (s : TypeId) (f off : Nat) : Prop where
 e : ∃ ti fs ft fi, tab s = some ti ∧ ti.kind = .st fs ∧ fs[f]? = some (off, ft) ∧ tab ft = some fi ∧ Nat.beq fi.size 0 = false
def FO (tab : Tab) (s : TypeId) (f off : Nat) : Prop := FO' tab s f off
theorem FO.mk {tab : Tab} {s : TypeId}  (h : FO' tab s f off) : FO tab s f off := h
theorem FO.e {tab : Tab} {s : TypeId} {f off : Nat} (h : FO tab s f off) : ∃ ti fs ft fi, tab s = some ti ∧ ti.kind = .st fs ∧ fs[f]? = some (off, ft) ∧ tab ft = some fi ∧ Nat.beq fi.size 0 = false := @FO'.e _ _ _ _ h
theorem ZyE {s : TypeId}     (h1 : tab s = some ti) (h2 : ti.kind = .st fs) (h3 : fs[f]? = some (off, ft)) (h4 : tab ft = some fi) (h5 : Nat.beq fi.size 0 = false) : FO tab s f off := FO.mk ⟨ti, fs, ft, fi, h1, h2, h3, h4, h5⟩
theorem Zx2 {s : TypeId}  {cs : List PV} (ho : FO tab s f off) (h : HL hl id (.box cs)) : FL tab hl s (.ptr id o) f (.ptr id (o + off)) := ⟨by
 obtain ⟨ti, fs, ft, fi, h1, h2, h3, h4, h5⟩ := ho.e
 have h6 : ¬ fi.size = 0 := by intro e; rw [e] at h5; simp at h5
 simp only [Zep, h1, h2, h3, h4, h6, PV.isPtr, h.e, if_false, if_true]⟩
theorem Zsk {s : TypeId} {e : Nat}   (ho : FO tab s f off) (h : HL hl id (.arr e dp xs)) : FL tab hl s (.eptr id k j) f (.eptr id k (j + off)) := ⟨by
 obtain ⟨ti, fs, ft, fi, h1, h2, h3, h4, h5⟩ := ho.e
 have h6 : ¬ fi.size = 0 := by intro e; rw [e] at h5; simp at h5
 simp only [Zep, h1, h2, h3, h4, h6, PV.isPtr, h.e, if_false, if_true]⟩
theorem ZsV {s : TypeId}   (ho : FO tab s f off) (h : Dr cs off cs') : FL tab hl s (.iptr cs) f (.iptr cs') := ⟨by
 obtain ⟨ti, fs, ft, fi, h1, h2, h3, h4, h5⟩ := ho.e
 have h6 : ¬ fi.size = 0 := by intro e; rw [e] at h5; simp at h5
 simp only [Zep, h1, h2, h3, h4, h6, if_false, h.e]⟩
theorem ZuG {s : TypeId}   (ho : FO tab s f off) (h : Dr cs off cs') : FL tab hl s (.g (.box cs)) f (.iptr cs') := ⟨by
 obtain ⟨ti, fs, ft, fi, h1, h2, h3, h4, h5⟩ := ho.e
 have h6 : ¬ fi.size = 0 := by intro e; rw [e] at h5; simp at h5
 simp only [Zep, h1, h2, h3, h4, h6, if_false, h.e]⟩
theorem Zy8 {s : TypeId}    (hd : RF (hasB d n = true)) (hx : EV sl tab 0 x p) (hv : FL tab hl s p f v) (h4 : AF dr P tab ops (i + 1) os n ((d, v) :: sl) hl nx (acc ++ [tcX tab i n sl hl nx ⟨some d, .fieldAddr s x f, ty, pos, af, none⟩ []]) K) : AF dr P tab ops i (⟨some d, .fieldAddr s x f, ty, pos, af, none⟩ :: os) n sl hl nx acc K :=
 Zcc (ws := []) (Zbl hd) (by simp only [aOp, hx.e]; exact hv.e) h4
structure PT (tab : Tab) (t : TypeId) (x : PV) (f : Nat) (v : PV) : Prop where
 e : Zn9 tab t x f = some (v, [])
structure FO1' (tab : Tab) (s : TypeId) (f off : Nat) : Prop where
 e : ∃ ti fs ft fi, tab s = some ti ∧ ti.kind = .st fs ∧ fs[f]? = some (off, ft) ∧ tab ft = some fi ∧ fi.kind.agg = false
def FO1 (tab : Tab) (s : TypeId) (f off : Nat) : Prop := FO1' tab s f off
theorem FO1.mk {tab : Tab} {s : TypeId}  (h : FO1' tab s f off) : FO1 tab s f off := h
theorem FO1.e {tab : Tab} {s : TypeId} {f off : Nat} (h : FO1 tab s f off) : ∃ ti fs ft fi, tab s = some ti ∧ ti.kind = .st fs ∧ fs[f]? = some (off, ft) ∧ tab ft = some fi ∧ fi.kind.agg = false := @FO1'.e _ _ _ _ h
theorem Zw3 {s : TypeId}     (h1 : tab s = some ti) (h2 : ti.kind = .st fs) (h3 : fs[f]? = some (off, ft)) (h4 : tab ft = some fi) (h5 : fi.kind.agg = false) : FO1 tab s f off := FO1.mk ⟨ti, fs, ft, fi, h1, h2, h3, h4, h5⟩
theorem ZxY  {cs : List PV}  (ho : FO1 tab t f off) (h : Idx cs off v) : PT tab t (.agg cs) f v := ⟨by
 obtain ⟨ti, fs, ft, fi, h1, h2, h3, h4, h5⟩ := ho.e
 simp only [Zn9, h1, h2, h3, h4, h5, Bool.false_eq_true, if_false, h.e]⟩
theorem ZuZ  {v : GV} (ho : FO1 tab t f off) (h : Idx cs off v) : PT tab t (.g (.agg cs)) f (.g v) := ⟨by
 obtain ⟨ti, fs, ft, fi, h1, h2, h3, h4, h5⟩ := ho.e
 simp only [Zn9, h1, h2, h3, h4, h5, Bool.false_eq_true, if_false, h.e]⟩
theorem Zwt  (hd : RF (hasB d n = true)) (hx : EV sl tab 0 x p) (hv : PT tab t p f v) (h4 : AF dr P tab ops (i + 1) os n ((d, v) :: sl) hl nx (acc ++ [tcX tab i n sl hl nx ⟨some d, .field t x f, ty, pos, af, none⟩ []]) K) : AF dr P tab ops i (⟨some d, .field t x f, ty, pos, af, none⟩ :: os) n sl hl nx acc K :=
 Zcc (ws := []) (Zbl hd) (by simp only [aOp, hx.e, hv.e]) h4
structure IX (tab : Tab) (hl : List (Nat × Block)) (t : TypeId) (x i v : PV) : Prop where
 e : Zbz tab (ZaH hl) t x i = some (v, [])
theorem ZrY  {e : Nat} {lo len : Nat}   {k : IntKind} {m : Int} (ht : SLT tab t E e) (hb : HL hl id (.arr (e + 1) dp xs)) (hn : NU (0 ≤ m ∧ m < (len : Int))) : IX tab hl t (.own id lo len) (.g (.int k m)) (.eptr id (lo + m.toNat) 0) := ⟨by
 obtain ⟨ti, ei, h1, h2, h3, h4⟩ := ht.h
 simp only [Zbz, h1, h2, h3, h4, hb.e, hn.e, and_self, if_true]⟩
theorem ZsI  {e : Nat} {len : Nat}   {k : IntKind}  (ht : SLT tab t E e) (hb : HL hl id (.arr (e + 1) dp xs)) (hn : NU (m < len)) : IX tab hl t (.own id 0 len) (.g (.int k (m : Int))) (.eptr id m 0) := ⟨by
 have := (ZrY (k := k) (lo := 0) ht hb (len := len) (m := (m : Int)) (NU.mk (by have := hn.e; omega))).e
 simpa using this⟩
theorem IX_g  {e : Nat}  {k : IntKind} {m : Int} {g : GV}  (ht : SLT tab t E e) (hg : ITM xs m g) (hc : CG g cs) : IX tab hl t (.g (.sl (e + 1) xs)) (.g (.int k m)) (.iptr cs) := ⟨by
 obtain ⟨ti, ei, h1, h2, h3, h4⟩ := ht.h
 have hgd : xs.getD m.toNat default = g := by simp [List.getD, hg.e]
 simp only [Zbz, h1, h2, h3, h4, hg.l, hgd, hc.t, hc.e, and_self, if_true]⟩
theorem Zzi  {e : Nat} {u : Value}  {k : IntKind} {m : Int} {g : GV}  (ht : SLT tab t E e) (hg : ITM xs m g) (hc : CG g cs) : IX tab hl t (.g (.ex u (e + 1) xs)) (.g (.int k m)) (.iptr cs) := ⟨by
 obtain ⟨ti, ei, h1, h2, h3, h4⟩ := ht.h
 have hgd : xs.getD m.toNat default = g := by simp [List.getD, hg.e]
 simp only [Zbz, h1, h2, h3, h4, hg.l, hgd, hc.t, hc.e, and_self, if_true]⟩
theorem Zzf  {e : Nat} {u : Nat}  {k : IntKind} {m : Int} {g : GV}  (ht : SLT tab t E e) (hg : ITM xs m g) (hc : CG g cs) : IX tab hl t (.g (.bd u (e + 1) xs)) (.g (.int k m)) (.iptr cs) := ⟨by
 obtain ⟨ti, ei, h1, h2, h3, h4⟩ := ht.h
 have hgd : xs.getD m.toNat default = g := by simp [List.getD, hg.e]
 simp only [Zbz, h1, h2, h3, h4, hg.l, hgd, hc.t, hc.e, and_self, if_true]⟩
structure ART (tab : Tab) (t : TypeId) (m : Nat) : Prop where
 e : ∃ ti E ei, tab t = some ti ∧ ti.kind = .ar m E ∧ tab E = some ei ∧ ei.size = 1 ∧ ei.kind.agg = false
def arB (tab : Tab) (t : TypeId) (m : Nat) : Bool :=
 match tab t with
 | some ti => match ti.kind with
  | .ar m' E => match tab E with
   | some ei => Nat.beq m' m && Nat.beq ei.size 1 && !ei.kind.agg
   | none => false
  | _ => false
 | none => false
theorem ART.of  (h : RF (arB tab t m = true)) : ART tab t m := by
 have h := h.e
 unfold arB at h
 split at h
 ·rename_i ti hti
  split at h
  ·rename_i m' E hk
   split at h
   ·rename_i ei hE
    simp only [Bool.and_eq_true, Bool.not_eq_true'] at h
    have h1 := Nat.eq_of_beq_eq_true h.1.1
    subst h1
    exact ⟨ti, E, ei, hti, hk, hE, Nat.eq_of_beq_eq_true h.1.2, h.2⟩
   ·cases h
  ·cases h
 ·cases h
theorem Zvq  {e : Nat}    (ht : RF (arB tab t 2 = true)) (hb : HL hl id (.arr e dp xs)) : IX tab hl t (.eptr id k j) (.g (.int kk 0)) (.eptr id k j) := ⟨by
 obtain ⟨ti, E, ei, h1, h2, h3, h4, _⟩ := (ART.of ht).e
 simp [Zbz, h1, h2, h3, h4, PV.isPtr, hb.e]⟩
theorem ZxS  {e : Nat}    (ht : RF (arB tab t 2 = true)) (hb : HL hl id (.arr e dp xs)) : IX tab hl t (.eptr id k j) (.g (.int kk 1)) (.eptr id k (j + 1)) := ⟨by
 obtain ⟨ti, E, ei, h1, h2, h3, h4, _⟩ := (ART.of ht).e
 simp [Zbz, h1, h2, h3, h4, PV.isPtr, hb.e]⟩
theorem ZxO  {cs : List PV}  (ht : RF (arB tab t 2 = true)) (hb : HL hl id (.box cs)) : IX tab hl t (.ptr id j) (.g (.int kk 0)) (.ptr id j) := ⟨by
 obtain ⟨ti, E, ei, h1, h2, h3, h4, _⟩ := (ART.of ht).e
 simp [Zbz, h1, h2, h3, h4, PV.isPtr, hb.e]⟩
theorem ZvV  {cs : List PV}  (ht : RF (arB tab t 2 = true)) (hb : HL hl id (.box cs)) : IX tab hl t (.ptr id j) (.g (.int kk 1)) (.ptr id (j + 1)) := ⟨by
 obtain ⟨ti, E, ei, h1, h2, h3, h4, _⟩ := (ART.of ht).e
 simp [Zbz, h1, h2, h3, h4, PV.isPtr, hb.e]⟩
theorem ZvM  {cs : List PV}  (ht : RF (arB tab t 2 = true)) (hb : HL hl id (.box cs)) (hm : NU (m < 2)) : IX tab hl t (.ptr id 0) (.g (.int kk (m : Int))) (.ptr id m) := ⟨by
 obtain ⟨ti, E, ei, h1, h2, h3, h4, _⟩ := (ART.of ht).e
 have h5 := hb.e
 have h6 := hm.e
 have h7 : (0 : Int) ≤ (m : Int) ∧ (m : Int) < ((2 : Nat) : Int) := by omega
 simp only [Zbz, h1, h2, h3, h4, h7, and_self, if_true, PV.isPtr, h5, Int.toNat_natCast, Nat.zero_add, Nat.mul_one]⟩
theorem ZvC  {cs : List PV}  (hb : HL hl id (.box cs)) (h0 : LB tab t 0 cs (.g (.int .i64 a))) (h1 : LB tab t 1 cs (.g (.int .i64 b))) (hm : NU (m < 2)) : LD tab hl t (.ptr id m) (.g (.int .i64 (if (m : Int) = 0 then a else b))) := by
 have h6 := hm.e
 have h : m = 0 ∨ m = 1 := by omega
 rcases h with rfl | rfl
 ·exact ZpK hb h0
 ·exact ZpK hb h1
theorem Zwz  (ht : RF (arB tab t 2 = true)) : IX tab hl t (.iptr cs) (.g (.int kk 0)) (.iptr cs) := ⟨by
 obtain ⟨ti, E, ei, h1, h2, h3, h4, _⟩ := (ART.of ht).e
 simp [Zbz, h1, h2, h3, h4]⟩
theorem ZwS  {c : GV}   (ht : RF (arB tab t 2 = true)) : IX tab hl t (.iptr (c :: cs)) (.g (.int kk 1)) (.iptr cs) := ⟨by
 obtain ⟨ti, E, ei, h1, h2, h3, h4, _⟩ := (ART.of ht).e
 simp [Zbz, h1, h2, h3, h4]⟩
theorem Zxb  (ht : RF (arB tab t 2 = true)) : IX tab hl t (.g (.box cs)) (.g (.int kk 0)) (.iptr cs) := ⟨by
 obtain ⟨ti, E, ei, h1, h2, h3, h4, _⟩ := (ART.of ht).e
 simp [Zbz, h1, h2, h3, h4]⟩
theorem Zxh  {c : GV}   (ht : RF (arB tab t 2 = true)) : IX tab hl t (.g (.box (c :: cs))) (.g (.int kk 1)) (.iptr cs) := ⟨by
 obtain ⟨ti, E, ei, h1, h2, h3, h4, _⟩ := (ART.of ht).e
 simp [Zbz, h1, h2, h3, h4]⟩
theorem ZvH  {f : α → GV} {ys : List α}   {n : Int}  (ht : RF (arK tab t = m)) (hn : NU (0 ≤ n ∧ n < (m : Int) ∧ m = ys.length)) : IX tab hl t (.g (.box (ys.map f))) (.g (.int kk n)) (.iptr ((ys.map f).drop n.toNat)) := ⟨by
 have hn := hn.e
 obtain ⟨ti, E, ei, h1, h2, h3, h4, h5, _⟩ := Zmz ht.e (by omega)
 simp [Zbz, h1, h2, h3, h4, hn.1, hn.2.1]⟩
structure IDX (tab : Tab) (t : TypeId) (x i v : PV) : Prop where
 e : aIdx tab t x i = some (v, [])
theorem ZyD  [Inhabited α] {f : α → GV} {ys : List α}   {n : Int}  (ht : RF (arK tab t = m)) (hn : NU (0 ≤ n ∧ n < (m : Int) ∧ m = ys.length)) : IDX tab t (.g (.agg (ys.map f))) (.g (.int kk n)) (.g (f (nth ys n.toNat))) := ⟨by
 have hn := hn.e
 obtain ⟨ti, E, ei, h1, h2, h3, h4, h5, _⟩ := Zmz ht.e (by omega)
 have h6 : n.toNat < ys.length := by omega
 simp [aIdx, h1, h2, h3, h4, h5, hn.1, hn.2.1, h6, Zaz h6]⟩
def bat (s : ByteArray) (k : Nat) : Nat := (s.data.getD k 0).toNat
def strT (tab : Tab) (t : TypeId) : Bool := match tab t with
 | some ti => match ti.kind with
  | .str => true
  | _ => false
 | none => false
theorem Znk  (h : strT tab t = true) : ∃ ti, tab t = some ti ∧ ti.kind = .str := by
 unfold strT at h
 split at h
 ·rename_i ti hti
  split at h
  ·rename_i hk; exact ⟨ti, hti, hk⟩
  ·cases h
 ·cases h
theorem ZyY {s : ByteArray}   {n : Int} (ht : RF (strT tab t = true)) (hn : NU (0 ≤ n ∧ n < (s.size : Int))) : IDX tab t (.g (.str s)) (.g (.int kk n)) (.g (.int .u8 (bat s n.toNat))) := ⟨by
 have hn := hn.e
 obtain ⟨ti, h1, h2⟩ := Znk ht.e
 have h6 : n.toNat < s.size := by omega
 have h7 : s[n.toNat]? = some (s.data[n.toNat]'h6) := by
  rw [getElem?_pos s n.toNat h6]; rfl
 simp [aIdx, h1, h2, hn.1, h7, bat, Array.getD, h6]
 rfl⟩
theorem ZwJ  {a b : PV}  (ht : RF (arB tab t 2 = true)) : IDX tab t (.agg [a, b]) (.g (.int kk 0)) a := ⟨by
 obtain ⟨ti, E, ei, h1, h2, h3, h4, h5⟩ := (ART.of ht).e
 simp [aIdx, h1, h2, h3, h4, h5]⟩
theorem ZxQ  {a b : PV}  (ht : RF (arB tab t 2 = true)) : IDX tab t (.agg [a, b]) (.g (.int kk 1)) b := ⟨by
 obtain ⟨ti, E, ei, h1, h2, h3, h4, h5⟩ := (ART.of ht).e
 simp [aIdx, h1, h2, h3, h4, h5]⟩
theorem ZvT  {a b : GV}  (ht : RF (arB tab t 2 = true)) : IDX tab t (.g (.agg [a, b])) (.g (.int kk 0)) (.g a) := ⟨by
 obtain ⟨ti, E, ei, h1, h2, h3, h4, h5⟩ := (ART.of ht).e
 simp [aIdx, h1, h2, h3, h4, h5]⟩
theorem ZwK  {a b : GV}  (ht : RF (arB tab t 2 = true)) : IDX tab t (.g (.agg [a, b])) (.g (.int kk 1)) (.g b) := ⟨by
 obtain ⟨ti, E, ei, h1, h2, h3, h4, h5⟩ := (ART.of ht).e
 simp [aIdx, h1, h2, h3, h4, h5]⟩
theorem ZvB  {m : Int} (ht : RF (arB tab t 2 = true)) (hm : NU (0 ≤ m ∧ m ≤ 1)) : IDX tab t (.g (.agg [.int .i64 a, .int .i64 b])) (.g (.int kk m)) (.g (.int .i64 (if m = 0 then a else b))) := ⟨by
 obtain ⟨ti, E, ei, h1, h2, h3, h4, h5⟩ := (ART.of ht).e
 have hm := hm.e
 have : m = 0 ∨ m = 1 := by omega
 rcases this with rfl | rfl <;> simp [aIdx, h1, h2, h3, h4, h5]⟩
theorem Zys  (hd : RF (hasB d n = true)) (hx : EV sl tab 0 x p) (hy : EV sl tab 0 y q) (hv : IDX tab t p q v) (h4 : AF dr P tab ops (i + 1) os n ((d, v) :: sl) hl nx (acc ++ [tcX tab i n sl hl nx ⟨some d, .index t x y, ty, pos, af, none⟩ []]) K) : AF dr P tab ops i (⟨some d, .index t x y, ty, pos, af, none⟩ :: os) n sl hl nx acc K :=
 Zcc (ws := []) (Zbl hd) (by simp only [aOp, hx.e, hy.e]; exact hv.e) h4
theorem X_ix  (hd : RF (hasB d n = true)) (hx : EV sl tab 0 x p) (hy : EV sl tab 0 y q) (hv : IX tab hl t p q v) (h4 : AF dr P tab ops (i + 1) os n ((d, v) :: sl) hl nx (acc ++ [tcX tab i n sl hl nx ⟨some d, .indexAddr t x y, ty, pos, af, none⟩ []]) K) : AF dr P tab ops i (⟨some d, .indexAddr t x y, ty, pos, af, none⟩ :: os) n sl hl nx acc K :=
 Zcc (ws := []) (Zbl hd) (by simp only [aOp, hx.e, hy.e]; exact hv.e) h4
structure BD (sl : List (Nat × PV)) (tab : Tab) (x : Option Operand) (m : Nat) (v : Int) : Prop where
 e : ∀ n hl nx, bnd (x.map ((mkX n sl hl nx).ev tab 0)) m = some v
theorem Zs6 (sl : List (Nat × PV)) (m : Nat) : BD sl tab none m (m : Int) := ⟨fun _ _ _ => rfl⟩
theorem ZtK  {k : IntKind} {v : Int} (h : EV sl tab 0 x (.g (.int k v))) : BD sl tab (some x) m v := ⟨fun _ _ _ => by simp only [Option.map_some, h.e, bnd]⟩
structure SLI (sl : List (Nat × PV)) (tab : Tab) (hl : List (Nat × Block)) (t : TypeId) (x : PV) (lo hi : Option Operand) (v : PV) : Prop where
 e : ∀ n nx, aSlc tab (ZaH hl) t x (lo.map ((mkX n sl hl nx).ev tab 0)) (hi.map ((mkX n sl hl nx).ev tab 0)) = some (v, [])
theorem Zuw  {e : Nat} {l0 len : Nat}    {l : Int} (ht : SLT tab t E e) (hb : HL hl id (.arr (e + 1) dp xs)) (h5 : BD sl tab lo 0 l) (h6 : BD sl tab hi len u) (hn : NU (0 ≤ l ∧ l ≤ u ∧ u ≤ (len : Int))) : SLI sl tab hl t (.own id l0 len) lo hi (.own id (l0 + l.toNat) (u.toNat - l.toNat)) := ⟨fun n nx => by
 obtain ⟨ti, ei, h1, h2, h3, h4⟩ := ht.h
 refine ZoU ?_
 simp only [Ze7, h1, h2, h3, h4, hb.e, h5.e n hl nx, h6.e n hl nx, hn.e, and_self, if_true]⟩
structure CUG' (xs : List GV) (l u : Int) (ys : List GV) : Prop where
 e : (xs.drop l.toNat).take (u.toNat - l.toNat) = ys
 l : 0 ≤ l ∧ l ≤ u ∧ u ≤ (xs.length : Int)
def CUG (xs : List GV) (l u : Int) (ys : List GV) : Prop := CUG' xs l u ys
theorem CUG.mk  {l : Int}  (h : CUG' xs l u ys) : CUG xs l u ys := h
theorem CUG.e {xs : List GV} {l u : Int} {ys : List GV} (h : CUG xs l u ys) : (xs.drop l.toNat).take (u.toNat - l.toNat) = ys := @CUG'.e _ _ _ _ h
theorem CUG.l {xs : List GV} {l u : Int} {ys : List GV} (h : CUG xs l u ys) : 0 ≤ l ∧ l ≤ u ∧ u ≤ (xs.length : Int) := @CUG'.l _ _ _ _ h
theorem ZmE  {f : α → GV} {ys : List α} {l : Int} {u : Nat} (h : NU (0 ≤ l ∧ l ≤ (ys.length : Int))) (hu : u = (ys.map f).length) : CUG (ys.map f) l (u : Int) ((ys.drop l.toNat).map f) := CUG.mk ⟨by
 subst hu
 rw [List.map_drop, List.take_of_length_le (by simp)], by have := h.e; subst hu; simp; omega⟩
theorem Zus  {f : α → GV} {ys : List α} {l : Int} (h : NU (0 ≤ l ∧ l ≤ u ∧ u ≤ (ys.length : Int))) : CUG (ys.map f) l u (((ys.drop l.toNat).take (u.toNat - l.toNat)).map f) := CUG.mk ⟨by rw [List.map_take, List.map_drop], by have := h.e; simp; omega⟩
theorem Zyw  {e : Nat}   {l : Int} (ht : SLT tab t E e) (h5 : BD sl tab lo 0 l) (h6 : BD sl tab hi xs.length u) (hn : CUG xs l u ys) : SLI sl tab hl t (.g (.sl (e + 1) xs)) lo hi (.g (.sl (e + 1) ys)) := ⟨fun n nx => by
 obtain ⟨ti, ei, h1, h2, h3, h4⟩ := ht.h
 refine ZoU ?_
 simp only [Ze7, h1, h2, h3, h4, h5.e n hl nx, h6.e n hl nx, hn.l, and_self, if_true, hn.e]⟩
theorem ZyZ  {s : ByteArray}  {l : Int} (ht : RF (strT tab t = true)) (h5 : BD sl tab lo 0 l) (h6 : BD sl tab hi s.size u) (hn : NU (0 ≤ l ∧ l ≤ u ∧ u ≤ (s.size : Int))) : SLI sl tab hl t (.g (.str s)) lo hi (.g (.str (s.extract l.toNat u.toNat))) := ⟨fun n nx => by
 obtain ⟨ti, h1, h2⟩ := Znk ht.e
 simp only [aSlc, Ze7, h1, h2, h5.e n hl nx, h6.e n hl nx, hn.e, and_self, if_true]⟩
theorem ZtD  (hd : RF (hasB d n = true)) (hx : EV sl tab 0 x p) (hv : SLI sl tab hl t p lo hi v) (h4 : AF dr P tab ops (i + 1) os n ((d, v) :: sl) hl nx (acc ++ [tcX tab i n sl hl nx ⟨some d, .slice t x lo hi none, ty, pos, af, none⟩ []]) K) : AF dr P tab ops i (⟨some d, .slice t x lo hi none, ty, pos, af, none⟩ :: os) n sl hl nx acc K :=
 Zcc (ws := []) (Zbl hd) (by simp only [aOp, hx.e]; exact hv.e n nx) h4
end
end Go.Proofs.YtjjidamlmebaaaaGreat
namespace Go.Proofs.YtjjidamlmebaaaaGreat
open Go.RowKit
open Shp
variable {j k id lo E t nid m c off kk e' i1 i2 : Nat} {B : Block} {ks ks2 : List Nat} {vs : List (Nat × PV)} {v r g0 g1 g2 : GV} {dp ds dd d2 ag : Bool} {xs ys gs zs gs' c1 c2 : List GV} {ps cs qs cs' caps : List PV} {x y : Operand} {ti ei : TI} {ts : List TypeId} {f fid : FuncId} {hl' hl1 h0 : List (Nat × Block)} {q py : PV} {tys : Array TypeId} {α : Type} {dst : Option Nat} {is : List (List Nat)} {tx ty' : TypeId} {L L' : List Int} {q' : Int} {op : Op}
section
variable {tab : Tab} {sl : List (Nat × PV)} {hl : List (Nat × Block)}
theorem Zp4  (h : HL hl j B) : HL (Zbe [] hl) j B := h
theorem ZqE  (h : HL (Zbe ks ((k, .dead) :: hl)) j B) : HL (Zbe (k :: ks) hl) j B := h
theorem ZkZ : ∀ (ws vs : List Nat) (hl : List (Nat × Block)), Zbe (ws ++ vs) hl = Zbe vs (Zbe ws hl)
 | [], _, _ => rfl
 | w :: ws, vs, hl => ZkZ ws vs ((w, .dead) :: hl)
theorem Zp8  {ws vs : List Nat}  (h : HL (Zbe vs (Zbe ws hl)) j B) : HL (Zbe (ws ++ vs) hl) j B := by rw [ZkZ]; exact h
structure AND (a b c : Bool) : Prop where
 e : (a && b) = c
theorem Zw5 : AND true true true := ⟨rfl⟩
theorem Zzb (b : Bool) : AND false b false := ⟨rfl⟩
theorem ZwL : AND true false false := ⟨rfl⟩
theorem ZyI (b : Bool) : AND true b b := ⟨rfl⟩
structure AB (hl : List (Nat × Block)) (p : PV) (x : GV) (ks : List Nat) (d : Bool) : Prop where
 e : Za2 (ZaH hl) p = some (x, ks, d)
theorem AB_g  {b : Bool} (hf : RF (v.flat = b)) : AB hl (.g v) v [] b := ⟨by simp only [Za2, hf.e]⟩
theorem Zyh (k : IntKind) (n : Int) : AB hl (.g (.int k n)) (.int k n) [] true := AB_g (RF.mk rfl)
theorem ZyQ (b : Bool) : AB hl (.g (.bool b)) (.bool b) [] true := AB_g (RF.mk rfl)
theorem Zyl (b : ByteArray) : AB hl (.g (.str b)) (.str b) [] true := AB_g (RF.mk rfl)
theorem Zx9 (e : Nat) (xs : List GV) : AB hl (.g (.sl e xs)) (.sl e xs) [] false := AB_g (RF.mk rfl)
theorem Zok (e : Nat) : AB hl (.nils (e + 1)) (.sl (e + 1) []) [] true := ⟨by simp [Za2]⟩
theorem ZrW {len e : Nat}   (hb : HL hl id (.arr e dp xs)) (hc : CUT xs lo len ys) : AB hl (.own id lo len) (.sl e ys) [id] dp := ⟨by
 have h1 := hc.l
 simp only [Za2, hb.e, h1, if_true, hc.e]⟩
structure ABL (hl : List (Nat × Block)) (ps : List PV) (gs : List GV) (ks : List Nat) (d : Bool) : Prop where
 e : absL Za2 (ZaH hl) ps = some (gs, ks, d)
theorem Zss (hl : List (Nat × Block)) : ABL hl [] [] [] true := ⟨rfl⟩
theorem Zra {p : PV}  {x : GV}  {k : List Nat} {d : Bool} (h1 : AB hl p x k d) (h2 : ABL (Zbe k hl) ps xs ks ds) (h3 : AND d ds dd) : ABL hl (p :: ps) (x :: xs) (k ++ ks) dd := ⟨by
 have h4 := h2.e
 rw [ZeG] at h4
 simp only [absL, h1.e, h4, h3.e]⟩
structure AE (hl : List (Nat × Block)) (p : PV) (x : GV) (ks : List Nat) (d : Bool) : Prop where
 e : absE (ZaH hl) p = some (x, ks, d)
theorem AE_g  {b : Bool} (hf : RF (v.flat = b)) : AE hl (.g v) v [] b := ⟨(AB_g (hl := hl) hf).e⟩
theorem Zvu (c : Nat) (v : Value) : AE hl (.g (.raw c v)) (.raw c v) [] false := AE_g (RF.mk rfl)
theorem Zyv (k : IntKind) (n : Int) : AE hl (.g (.int k n)) (.int k n) [] true := AE_g (RF.mk rfl)
theorem ZyB (b : Bool) : AE hl (.g (.bool b)) (.bool b) [] true := AE_g (RF.mk rfl)
theorem Zzj (b : ByteArray) : AE hl (.g (.str b)) (.str b) [] true := AE_g (RF.mk rfl)
theorem ZyC (e : Nat) (xs : List GV) : AE hl (.g (.sl e xs)) (.sl e xs) [] false := AE_g (RF.mk rfl)
structure ALLA (gs : List GV) (b : Bool) : Prop where
 e : gs.all GV.atom = b
theorem Zrb : ALLA [] true := ⟨rfl⟩
theorem Zrg {k : IntKind} {n : Int}  {b : Bool} (h : ALLA gs b) : ALLA (.int k n :: gs) b := ⟨by have := h.e; simpa [GV.atom] using this⟩
theorem Zpu {n : Bool}  {b : Bool} (h : ALLA gs b) : ALLA (.bool n :: gs) b := ⟨by have := h.e; simpa [GV.atom] using this⟩
theorem ZrM {n : ByteArray}  {b : Bool} (h : ALLA gs b) : ALLA (.str n :: gs) b := ⟨by have := h.e; simpa [GV.atom] using this⟩
theorem Ztz {e : Nat}  : ALLA (.sl e xs :: gs) false := ⟨by simp [GV.atom]⟩
theorem ZyV  {b : Bool} (h : ALLA gs b) : AE hl (.g (.agg gs)) (.agg gs) [] b := AE_g (RF.mk h.e)
theorem Zty (e : Nat) : AE hl (.nils (e + 1)) (.sl (e + 1) []) [] true := ⟨(Zok (hl := hl) e).e⟩
theorem ZxD {len e : Nat}   (hb : HL hl id (.arr e dp xs)) (hc : CUT xs lo len ys) : AE hl (.own id lo len) (.sl e ys) [id] dp := ⟨(ZrW hb hc).e⟩
theorem Zvr  {d : Bool} (h : ABL hl cs gs ks d) (hn : RF ((gs.all fun x => x.ncells == 1) = true)) : AE hl (.agg cs) (.agg gs) ks d := ⟨by simp only [absE, h.e, hn.e, if_true]⟩
structure AEL (hl : List (Nat × Block)) (ps : List PV) (gs : List GV) (ks : List Nat) (d : Bool) : Prop where
 e : absL absE (ZaH hl) ps = some (gs, ks, d)
theorem ZsR (hl : List (Nat × Block)) : AEL hl [] [] [] true := ⟨rfl⟩
theorem Zqv {p : PV}  {x : GV}  {k : List Nat} {d : Bool} (h1 : AE hl p x k d) (h2 : AEL (Zbe k hl) ps xs ks ds) (h3 : AND d ds dd) : AEL hl (p :: ps) (x :: xs) (k ++ ks) dd := ⟨by
 have h4 := h2.e
 rw [ZeG] at h4
 simp only [absL, h1.e, h4, h3.e]⟩
structure EVP (sl : List (Nat × PV)) (tab : Tab) (E : TypeId) (xs : List (Nat × Operand)) (ps : List PV) : Prop where
 e : ∀ n hl nx, (xs.map fun (x : Nat × Operand) => (mkX n sl hl nx).ev tab E x.2) = ps
theorem ZsN (sl : List (Nat × PV)) (tab : Tab) (E : TypeId) : EVP sl tab E [] [] := ⟨fun _ _ _ => rfl⟩
theorem ZqH {E : TypeId}   {xs : List (Nat × Operand)} {p : PV}  (h1 : EV sl tab E x p) (h2 : EVP sl tab E xs ps) : EVP sl tab E ((j, x) :: xs) (p :: ps) := ⟨fun n hl nx => by simp only [List.map_cons, h1.e, h2.e]⟩
structure EVF (sl : List (Nat × PV)) (tab : Tab) (ti : TI) (xs : List (Nat × Operand)) (ps : List (Nat × PV)) : Prop where
 e : ∀ n hl nx, (xs.map fun (x : Nat × Operand) => (x.1, (mkX n sl hl nx).ev tab (ZfQ ti x.1) x.2)) = ps
theorem Zuj (sl : List (Nat × PV)) (tab : Tab) (ti : TI) : EVF sl tab ti [] [] := ⟨fun _ _ _ => rfl⟩
theorem Zq1  {xs : List (Nat × Operand)} {p : PV} {ps : List (Nat × PV)} (h1 : EV sl tab (ZfQ ti j) x p) (h2 : EVF sl tab ti xs ps) : EVF sl tab ti ((j, x) :: xs) ((j, p) :: ps) := ⟨fun n hl nx => by simp only [List.map_cons, h1.e, h2.e]⟩
structure ARG (sl : List (Nat × PV)) (tab : Tab) (xs : List Operand) (ts : List TypeId) (ps : List PV) : Prop where
 e : ∀ n hl nx, (mkX n sl hl nx).args tab xs ts = ps
theorem Zuo (sl : List (Nat × PV)) (tab : Tab) (ts : List TypeId) : ARG sl tab [] ts [] := ⟨fun _ _ _ => ZwP _ _ _⟩
theorem Zqj  {xs : List Operand} {t : TypeId}  {p : PV}  (h1 : EV sl tab t x p) (h2 : ARG sl tab xs ts ps) : ARG sl tab (x :: xs) (t :: ts) (p :: ps) := ⟨fun _ _ _ => Zta (h1.e _ _ _) (h2.e _ _ _)⟩
theorem Zo0  {xs : List Operand} {p : PV}  (h1 : EV sl tab 0 x p) (h2 : ARG sl tab xs [] ps) : ARG sl tab (x :: xs) [] (p :: ps) := ⟨fun _ _ _ => ZqC (h1.e _ _ _) (h2.e _ _ _)⟩
structure VW (hl : List (Nat × Block)) (n : Nat) (p : PV) (x : GV) : Prop where
 e : view (ZaH hl) n p = some x
structure VWL (hl : List (Nat × Block)) (n : Nat) (ps : List PV) (xs : List GV) : Prop where
 e : Zbo (view (ZaH hl) n) ps = some xs
theorem Zt7 (hl : List (Nat × Block)) (n : Nat) : VWL hl n [] [] := ⟨rfl⟩
theorem Zql {n : Nat} {p : PV}  {x : GV}  (h1 : VW hl n p x) (h2 : VWL hl n ps xs) : VWL hl n (p :: ps) (x :: xs) := ⟨ZlY h1.e h2.e⟩
theorem VW_g (hl : List (Nat × Block)) (n : Nat) (v : GV) : VW hl (n + 1) (.g v) v := ⟨rfl⟩
theorem ZuB (hl : List (Nat × Block)) (n e : Nat) : VW hl (n + 1) (.nils (e + 1)) (.sl (e + 1) []) := ⟨Ztw rfl⟩
theorem Zwf {n len e : Nat}   (hb : HL hl id (.arr e dp xs)) (hc : CUT xs lo len ys) : VW hl (n + 1) (.own id lo len) (.sl e ys) := ⟨by rw [Zwm hb.e hc.l, hc.e]⟩
theorem Zxi {n : Nat}   (hb : HL hl id (.box cs)) (hv : VWL hl n cs gs) (ha : RF ((gs.all fun x => x.ncells == 1) = true)) : VW hl (n + 1) (.ptr id 0) (.box gs) := ⟨ZwV hb.e hv.e ha.e⟩
theorem Zw1 {n : Nat}   (hv : VWL hl n cs gs) (ha : RF ((gs.all fun x => x.ncells == 1) = true)) : VW hl (n + 1) (.agg cs) (.agg gs) := ⟨ZwC hv.e ha.e⟩
theorem Zzc {n : Nat}    (hv : VWL hl n cs gs) : VW hl (n + 1) (.fn f cs) (.fn f gs) := ⟨Zyi hv.e⟩
structure FN (sl : List (Nat × PV)) (tab : Tab) (x : Operand) (f : FuncId) (caps : List PV) : Prop where
 e : ∀ n hl nx, asFn ((mkX n sl hl nx).ev tab 0 x) = some (f, caps)
theorem Zts (sl : List (Nat × PV)) (tab : Tab) (f : FuncId) : FN sl tab (.func f) f [] := ⟨fun _ _ _ => rfl⟩
theorem Zx4  {p : PV} (h : SL sl t p) (hp : RF (asFn p = some (f, cs))) : FN sl tab (.tmp t) f cs := ⟨fun n hl nx => by
 have : (mkX n sl hl nx).ev tab 0 (.tmp t) = p := h.e
 rw [this]; exact hp.e⟩
structure FNV (p : PV) (f : FuncId) (caps : List PV) : Prop where
 e : asFn p = some (f, caps)
theorem Zvi (f : FuncId) (cs : List PV) : FNV (.fn f cs) f cs := ⟨rfl⟩
theorem Zvv (f : FuncId) (gs : List GV) : FNV (.g (.fn f gs)) f (gs.map .g) := ⟨rfl⟩
theorem ZvR  {p : PV} (h : SL sl t p) (hp : FNV p f cs) : FN sl tab (.tmp t) f cs := Zx4 h (RF.mk hp.e)
structure RES (nid : Nat) (r : GV) (hl : List (Nat × Block)) (pv : PV) (hl' : List (Nat × Block)) : Prop where
 lf : (ZaC r).all GV.leaf = true
 l8 : (ZaC r).length ≤ 8
 fr : ∀ j, j < (ZaC r).length → ZaH hl (nid + j) = .free
 pv : Ze2 nid r = pv
 hl : Zfs (Zba nid (ZaC r)) hl = hl'
structure RSL (nid : Nat) (gs : List GV) (hl : List (Nat × Block)) (ps : List PV) (hl' : List (Nat × Block)) : Prop where
 lf : gs.all GV.leaf = true
 fr : ∀ j, j < gs.length → ZaH hl (nid + j) = .free
 pv : ZfO nid gs = ps
 hl : Zfs (Zba nid gs) hl = hl'
theorem ZhJ (nid : Nat) (hl : List (Nat × Block)) : RSL nid [] hl [] hl := ⟨rfl, by simp, rfl, rfl⟩
theorem Zkm  {x : GV}    (ha : x.atom = true) (hf : HL hl nid .free) (h : RSL (nid + 1) gs hl ps hl') : RSL nid (x :: gs) hl (.g x :: ps) hl' := by
 have e1 : Ze1 nid x = .g x := by cases x <;> simp_all [GV.atom, Ze1]
 have e2 : Zdf x = none := by cases x <;> simp_all [GV.atom, Zdf]
 have e3 : x.leaf = true := by cases x <;> simp_all [GV.atom, GV.leaf]
 refine ⟨by simp [e3, h.lf], fun j hj => ?_, by simp [ZfO, e1, h.pv], by simp [Zba, e2, h.hl]⟩
 cases j with
 | zero => exact hf.e
 | succ j => have := h.fr j (by simpa using hj); rw [show nid + (j + 1) = nid + 1 + j by omega]; exact this
theorem ZoZ  {k : IntKind} {m : Int}    (hf : HL hl nid .free) (h : RSL (nid + 1) gs hl ps hl') : RSL nid (.int k m :: gs) hl (.g (.int k m) :: ps) hl' := Zkm rfl hf h
theorem Zm2  {b : Bool}    (hf : HL hl nid .free) (h : RSL (nid + 1) gs hl ps hl') : RSL nid (.bool b :: gs) hl (.g (.bool b) :: ps) hl' := Zkm rfl hf h
theorem ZoY  {s : ByteArray}    (hf : HL hl nid .free) (h : RSL (nid + 1) gs hl ps hl') : RSL nid (.str s :: gs) hl (.g (.str s) :: ps) hl' := Zkm rfl hf h
theorem ZrX {e : Nat}    (hf : HL hl nid .free) (hm : LEN xs m) (h : RSL (nid + 1) gs ((nid, .arr e true xs) :: hl) ps hl') : RSL nid (.sl e xs :: gs) hl (.own nid 0 m :: ps) hl' := by
 refine ⟨by rw [List.all_cons, h.lf]; rfl, fun j hj => ?_, by simp [ZfO, Ze1, h.pv, hm.e], by have := h.hl; simpa [Zba, Zdf, Zfs] using this⟩
 cases j with
 | zero => exact hf.e
 | succ j =>
  have := h.fr j (by simpa using hj)
  rw [show nid + (j + 1) = nid + 1 + j by omega]
  simp only [ZaH] at this
  rwa [if_neg (by omega)] at this
theorem Zkr  (ha : r.atom = true) (hf : HL hl nid .free) : RES nid r hl (.g r) hl := by
 have e1 : ZaC r = [r] := by cases r <;> simp_all [GV.atom, ZaC, GV.leaves]
 have e2 : Zba nid (ZaC r) = [] := by rw [e1]; cases r <;> simp_all [GV.atom, Zba, Zdf]
 have e3 : Ze2 nid r = .g r := by cases r <;> simp_all [GV.atom, Ze2, Zg0, Ze1]
 have e4 : r.leaf = true := by cases r <;> simp_all [GV.atom, GV.leaf]
 refine ⟨by rw [e1]; simp [e4], by rw [e1]; simp, fun j hj => ?_, e3, by rw [e2]; rfl⟩
 rw [e1] at hj
 have : j = 0 := by simpa using hj
 subst this; exact hf.e
theorem Zsn  {k : IntKind} {m : Int} (hf : HL hl nid .free) : RES nid (.int k m) hl (.g (.int k m)) hl := Zkr rfl hf
theorem ZqU  {b : Bool} (hf : HL hl nid .free) : RES nid (.bool b) hl (.g (.bool b)) hl := Zkr rfl hf
theorem ZtX  {s : ByteArray} (hf : HL hl nid .free) : RES nid (.str s) hl (.g (.str s)) hl := Zkr rfl hf
theorem ZxW {e : Nat}  (hf : HL hl nid .free) (hm : LEN xs m) : RES nid (.sl e xs) hl (.own nid 0 m) ((nid, .arr e true xs) :: hl) := by
 refine ⟨rfl, by simp [ZaC, GV.leaves], fun j hj => ?_, by simp [Ze2, Zg0, Ze1, hm.e], rfl⟩
 simp [ZaC, GV.leaves] at hj
 subst hj; exact hf.e
theorem ZsY  (h : RSL nid gs hl ps hl') (h8 : RF (Nat.ble gs.length 8 = true)) : RES nid (.agg gs) hl (.agg ps) hl' :=
 ⟨h.lf, Nat.le_of_ble_eq_true h8.e, h.fr, by simp only [Ze2, Zg0, h.pv], h.hl⟩
structure RTL (nid : Nat) (cs : List GV) (hl : List (Nat × Block)) (ps : List PV) (hl' : List (Nat × Block)) : Prop where
 lf : (ZaM cs).all GV.leaf = true
 fr : ∀ j, j < (ZaM cs).length → ZaH hl (nid + j) = .free
 pv : Zlw nid cs = ps
 hl : Zfs (Zba nid (ZaM cs)) hl = hl'
theorem Zlq : ∀ (xs ys : List GV) (k : Nat), Zba k (xs ++ ys) = Zba k xs ++ Zba (k + xs.length) ys
 | [], ys, k => rfl
 | x :: xs, ys, k => by simp only [List.cons_append, Zba, Zlq xs ys (k + 1), List.append_assoc, List.length_cons]; rw [Nat.add_assoc, Nat.add_comm 1]
theorem Zew : ∀ (gs : List GV) (k : Nat) (hl : List (Nat × Block)) (j : Nat), k + gs.length ≤ j → ZaH (Zfs (Zba k gs) hl) j = ZaH hl j
 | [], _, _, _, _ => rfl
 | x :: xs, k, hl, j, hj => by
  simp only [List.length_cons] at hj
  simp only [Zba, Zb5]
  rw [Zew xs (k + 1) _ j (by omega)]
  cases Zdf x with
  | none => rfl
  | some b => simp only [Zfs, ZaH]; rw [if_neg (by omega)]
theorem ZuM (nid : Nat) (hl : List (Nat × Block)) : RTL nid [] hl [] hl := ⟨rfl, by simp [ZaM], rfl, rfl⟩
theorem ZfM  {c : GV} {cs : List GV} {p : PV}   (hc : c.leaves = gs) (hp : Zg0 nid c = p) (h1 : RSL nid gs hl qs hl1) (hm : gs.length = m) (h : RTL (nid + m) cs hl1 ps hl') : RTL nid (c :: cs) hl (p :: ps) hl' := by
 subst hm
 have h2 := h1.hl
 refine ⟨by simp only [ZaM, hc, List.all_append, h1.lf, h.lf, Bool.and_self], fun j hj => ?_, by simp only [Zlw, hp, hc, h.pv], by simp only [ZaM, hc, Zlq, Zb5, h2, h.hl]⟩
 simp only [ZaM, hc, List.length_append] at hj
 by_cases hlt : j < gs.length
 ·exact h1.fr j hlt
 ·have := h.fr (j - gs.length) (by omega)
  rw [← h2, Zew _ _ _ _ (by omega)] at this
  rwa [show nid + gs.length + (j - gs.length) = nid + j by omega] at this
theorem ZtF  {k : IntKind} {m : Int}    (hf : HL hl nid .free) (h : RTL (nid + 1) gs hl ps hl') : RTL nid (.int k m :: gs) hl (.g (.int k m) :: ps) hl' :=
 ZfM (gs := [.int k m]) rfl rfl (ZoZ hf (ZhJ _ _)) rfl h
theorem Zp2  {b : Bool}    (hf : HL hl nid .free) (h : RTL (nid + 1) gs hl ps hl') : RTL nid (.bool b :: gs) hl (.g (.bool b) :: ps) hl' :=
 ZfM (gs := [.bool b]) rfl rfl (Zm2 hf (ZhJ _ _)) rfl h
theorem ZtM  {s : ByteArray}    (hf : HL hl nid .free) (h : RTL (nid + 1) gs hl ps hl') : RTL nid (.str s :: gs) hl (.g (.str s) :: ps) hl' :=
 ZfM (gs := [.str s]) rfl rfl (ZoY hf (ZhJ _ _)) rfl h
theorem ZwM {e : Nat}    (hf : HL hl nid .free) (hm : LEN xs m) (h : RTL (nid + 1) gs ((nid, .arr e true xs) :: hl) ps hl') : RTL nid (.sl e xs :: gs) hl (.own nid 0 m :: ps) hl' :=
 ZfM (gs := [.sl e xs]) rfl (by simp [Zg0, Ze1, hm.e]) (ZrX hf hm (ZhJ _ _)) rfl h
theorem Ztd  (h1 : RSL nid xs hl qs hl1) (hm : RF (xs.length = m)) (h : RTL (nid + m) gs hl1 ps hl') : RTL nid (.agg xs :: gs) hl (.agg qs :: ps) hl' :=
 ZfM (gs := xs) rfl (by simp only [Zg0, h1.pv]) h1 hm.e h
theorem Zs4  {cs : List GV}   (h : RTL nid cs hl ps hl') (h8 : RF (Nat.ble (ZaM cs).length 8 = true)) : RES nid (.tup cs) hl (.tup ps) hl' :=
 ⟨h.lf, Nat.le_of_ble_eq_true h8.e, h.fr, by simp only [Ze2, h.pv], h.hl⟩
end
section
variable {dr : Bool} {P : Program} {tab : Tab} {ops : Array Oper} {i : Nat} {os : List Oper} {acc : List (List Nat × List Nat)} {K : AState → List (List Nat × List Nat) → Prop}
variable {ty : TypeId} {pos : String} {af : Array Edge} {n nx d : Nat} {sl : List (Nat × PV)} {hl : List (Nat × Block)}
def DEC (p : Prop) : Prop := p
theorem DEC.mk {p : Prop} (h : p) : DEC p := h
theorem DEC.e {p : Prop} (h : DEC p) : p := h
structure SW (tab : Tab) (nid : Nat) (hl : List (Nat × Block)) (t : TypeId) (p v : PV) (ws hl' : List (Nat × Block)) : Prop where
 e : Zex tab nid (ZaH hl) t p v = some (.none_, ws)
 h : Zfs ws hl = hl'
theorem Zvx  {t : TypeId}  {sz : Nat}  {p : PV} (hb : HL hl id (.box cs)) (hp : CP p ps) (ht : RF (tab t = some ti ∧ ti.size = sz)) (hs : RF (ps.length = sz)) (hc : SetL cs off ps cs') : SW tab nid hl t (.ptr id off) p [(id, .box cs')] ((id, .box cs') :: hl) := ⟨(ZwU hb hp ht hs hc).e, rfl⟩
theorem ZwR  {t : TypeId}     {kk : IntKind} {m : Int} (hb : HL hl id (.arr 1 dp xs)) (ht : RF (tab t = some ti ∧ ti.size = 1)) (hf : HL hl nid .free) (hy : PUT xs k (.int kk m) ys) (hk : NU (k < xs.length)) : SW tab nid hl t (.eptr id k 0) (.g (.int kk m)) [(id, .arr 1 dp ys)] ((id, .arr 1 dp ys) :: hl) := ⟨(ZrZ hb ht (RF.mk rfl) hf hy hk).e, rfl⟩
theorem ZtG  {t : TypeId}     {m : Bool} (hb : HL hl id (.arr 1 dp xs)) (ht : RF (tab t = some ti ∧ ti.size = 1)) (hf : HL hl nid .free) (hy : PUT xs k (.bool m) ys) (hk : NU (k < xs.length)) : SW tab nid hl t (.eptr id k 0) (.g (.bool m)) [(id, .arr 1 dp ys)] ((id, .arr 1 dp ys) :: hl) := ⟨(ZrZ hb ht (RF.mk rfl) hf hy hk).e, rfl⟩
theorem Zxo  {t : TypeId}  {e : Nat} {d : Bool}   {x : GV}  (hb : HL hl id (.arr e dp xs)) (ht : RF (tab t = some ti ∧ ti.size = e)) (hf : HL hl nid .free) (ha : AE hl q x ks d) (hn : RF (x.ncells = e ∧ x.isTup = false)) (hks : DEC (id ∉ ks)) (hd : AND dp d dd) (hy : PUT xs k x ys) (hk : NU (k < xs.length)) : SW tab nid hl t (.eptr id k 0) q (Zco ks ++ [(id, .arr e dd ys)]) ((id, .arr e dd ys) :: Zbe ks hl) := ⟨by
 obtain ⟨h1, h2⟩ := ht.e
 obtain ⟨h3, h4⟩ := hn.e
 have h5 : k < xs.length := hk
 have h6 : id ∉ ks := hks
 subst h2
 simp only [Zex, h1, hb.e, h5, hf.e, ZbU, and_self, if_true, ha.e, h3, h4, h6, not_false_eq_true, hd.e, hy.e], by rw [Zb5, ZbV]; rfl⟩
theorem ZqJ {t : TypeId}  {p : PV}  {ws : List (Nat × Block)} (hx : EV sl tab 0 x p) (hy : EV sl tab t y q) (hk : NID (nx + 8 * i) k) (hs : SW tab k hl t p q ws hl') (h4 : AF dr P tab ops (i + 1) os n sl hl' nx (acc ++ [tcX tab i n sl hl nx ⟨none, .store t x y, ty, pos, af, none⟩ (idsW ws)]) K) : AF dr P tab ops i (⟨none, .store t x y, ty, pos, af, none⟩ :: os) n sl hl nx acc K := by
 cases hk.e
 exact Zcc (dst := none) (pv := .none_) rfl (by simp only [aOp, hx.e, hy.e, Zfa]; exact hs.e) (by rw [hs.h]; exact h4)
structure FIL (ZbG : Nat → Option (Nat × Nat)) (cs : List PV) (ps : List (Nat × PV)) (cs' : List PV) : Prop where
 e : ZjZ ZbG cs ps = some cs'
theorem Zt6 (ZbG : Nat → Option (Nat × Nat)) (cs : List PV) : FIL ZbG cs [] cs := ⟨rfl⟩
theorem ZrR {ZbG : Nat → Option (Nat × Nat)} {cs1 : List PV} {sz : Nat} {p : PV} {ps : List (Nat × PV)} (h1 : RF (ZbG j = some (off, sz))) (hp : CP p qs) (hs : RF (qs.length = sz)) (hc : SetL cs off qs cs1) (h : FIL ZbG cs1 ps cs') : FIL ZbG cs ((j, p) :: ps) cs' := ⟨by
 have h2 := hc.l
 rw [hs.e] at h2
 simp only [ZjZ, h1.e, hp.v, hp.e, hs.e, Bool.true_and, beq_self_eq_true]
 rw [if_pos (by simpa using h2), hc.e, h.e]⟩
theorem Ztg {t : TypeId} {xs : List (Nat × Operand)}  {fs : List (Nat × TypeId)} {pl : List (Nat × Nat)}   (hd : RF (hasB d n = true)) (ht : RF (tab t = some ti ∧ ti.kind = .st fs ∧ ZcV tab fs = some pl)) (hx : EVF sl tab ti xs vs) (hv : FIL (pl[·]?) ti.zero vs cs')
  (h4 : AF dr P tab ops (i + 1) os n ((d, .agg cs') :: sl) hl nx (acc ++ [tcX tab i n sl hl nx ⟨some d, .build t xs.toArray, ty, pos, af, none⟩ []]) K) : AF dr P tab ops i (⟨some d, .build t xs.toArray, ty, pos, af, none⟩ :: os) n sl hl nx acc K :=
 Zcc (ws := []) (Zbl hd) (by
  obtain ⟨h1, h2, h3⟩ := ht.e
  have h5 := hx.e n hl nx
  simp only [aOp, h1, h5, ZlC, h2, h3, hv.e]) h4
theorem Zqy {t : TypeId} {xs : List (Nat × Operand)}     (hd : RF (hasB d n = true)) (ht : RF (tab t = some ti ∧ ti.kind = .ar m E ∧ tab E = some ei ∧ ei.size = 1)) (hx : EVF sl tab ti xs vs) (hv : FIL (fun i => some (i, 1)) ti.zero vs cs')
  (h4 : AF dr P tab ops (i + 1) os n ((d, .agg cs') :: sl) hl nx (acc ++ [tcX tab i n sl hl nx ⟨some d, .build t xs.toArray, ty, pos, af, none⟩ []]) K) : AF dr P tab ops i (⟨some d, .build t xs.toArray, ty, pos, af, none⟩ :: os) n sl hl nx acc K :=
 Zcc (ws := []) (Zbl hd) (by
  obtain ⟨h1, h2, h3, h6⟩ := ht.e
  have h5 := hx.e n hl nx
  simp only [aOp, h1, h5, ZlC, h2, h3, h6, Nat.mul_one, hv.e]) h4
theorem Zzm  {t : TypeId} {len : Nat} {xs : List (Nat × Operand)} {e : Nat}     (hd : RF (hasB d n = true)) (hE : SLT tab t E e) (hk : NID (nx + 8 * i) k) (hf : HL hl k .free) (hi : RF (xs.map (·.1) = List.range len)) (hs : RF (Nat.ble (len * (e + 1)) 16777216 = true)) (hx : EVP sl tab E xs ps) (ha : AEL hl ps gs ks dp) (hg : RF ((gs.all (fun x => x.ncells == e + 1 && !x.isTup)) = true))
  (h4 : AF dr P tab ops (i + 1) os n ((d, .own k 0 len) :: sl) ((k, .arr (e + 1) dp gs) :: Zbe ks hl) nx (acc ++ [tcX tab i n sl hl nx ⟨some d, .buildSlice t len xs.toArray, ty, pos, af, none⟩ (idsW (Zco ks ++ [(k, .arr (e + 1) dp gs)]))]) K) : AF dr P tab ops i (⟨some d, .buildSlice t len xs.toArray, ty, pos, af, none⟩ :: os) n sl hl nx acc K := by
 cases hk.e
 exact Zcc (pv := .own (nx + 8 * i) 0 len) (ws := Zco ks ++ [(nx + 8 * i, .arr (e + 1) dp gs)]) (Zbl hd) (by
  have hs' := Nat.le_of_ble_eq_true hs.e
  have hx' := hx.e n hl nx
  have hi' : xs.toArray.toList.map (·.1) = List.range len := hi.e
  have ha' : absL absE (ZaH hl) ps = some (gs, ks, dp) := ha.e
  simp only [aOp, hE.el, aLit, Zcn, Zfa, hf.e, ZbU, true_and]
  rw [if_pos ⟨hi', by omega, hs'⟩]
  show (match absL absE (ZaH hl) (xs.map _) with | some (gs, ks, d) => _ | none => none) = _
  rw [show (xs.map fun (x : Nat × Operand) => (mkX n sl hl nx).ev tab E x.2) = ps from hx', ha']
  simp only [hg.e, if_true]) (by rw [Zb5, ZbV]; exact h4)
structure RPL (k : Nat) (z : GV) (xs : List GV) : Prop where
 e : List.replicate k z = xs
theorem ZsZ (k : Nat) (kk : IntKind) (m : Int) : RPL k (.int kk m) ((List.replicate k m).map (GV.int kk)) := ⟨by simp⟩
theorem Zqd (k : Nat) (b : Bool) : RPL k (.bool b) ((List.replicate k b).map GV.bool) := ⟨by simp⟩
theorem ZwE (k : Nat) : RPL k (.sl 1 []) ((List.replicate k []).map GV.ints) := ⟨by simp⟩
theorem Zue (k : Nat) (z : GV) : RPL k z (List.replicate k z) := ⟨rfl⟩
def MZ (tab : Tab) (t e : Nat) (z : GV) : Prop := ∃ E ei, ZbO tab t = some (E, e) ∧ tab E = some ei ∧ ((e = 1 ∧ Zn8 ei = some z) ∨ (Zn8 ei = none ∧ ∃ gs, ZhL ei.zero = some gs ∧ gs.length = e ∧ 0 < e ∧ z = .agg gs))
theorem ZxU  {z : GV} (h1 : ZbO tab t = some (E, 1)) (h2 : tab E = some ei) (h3 : Zn8 ei = some z) : MZ tab t 1 z := ⟨E, ei, h1, h2, .inl ⟨rfl, h3⟩⟩
theorem ZyP {e : Nat}   (h1 : ZbO tab t = some (E, e + 1)) (h2 : tab E = some ei) (h3 : Zn8 ei = none) (h4 : ZhL ei.zero = some gs) (h5 : gs.length = e + 1) : MZ tab t (e + 1) (.agg gs) := ⟨E, ei, h1, h2, .inr ⟨h3, gs, h4, h5, by omega, rfl⟩⟩
theorem Zu8  {t : TypeId}  {e : Nat} {z : GV} {k k' : IntKind} {a b : Int}  (hd : RF (hasB d n = true)) (hx : EV sl tab 0 x (.g (.int k a))) (hy : EV sl tab 0 y (.g (.int k' b))) (hE : MZ tab t e z) (hk : NID (nx + 8 * i) kk) (hf : HL hl kk .free) (hz : RPL a.toNat z xs) (hn : NU (0 ≤ a ∧ a ≤ b ∧ b ≤ 1099511627776))
  (h4 : AF dr P tab ops (i + 1) os n ((d, .own kk 0 a.toNat) :: sl) ((kk, .arr e true xs) :: hl) nx (acc ++ [tcX tab i n sl hl nx ⟨some d, .makeSlice t x y, ty, pos, af, none⟩ [kk]]) K) : AF dr P tab ops i (⟨some d, .makeSlice t x y, ty, pos, af, none⟩ :: os) n sl hl nx acc K := by
 cases hk.e
 refine Zcc (pv := .own (nx + 8 * i) 0 a.toNat) (ws := [(nx + 8 * i, .arr e true xs)]) (Zbl hd) ?_ h4
 have h1 := hn.e
 have h2 := hz.e
 obtain ⟨E, ei, g1, g2, ⟨rfl, g3⟩ | ⟨g3, gs, g4, g5, g6, rfl⟩⟩ := hE
 ·simp only [aOp, hx.e, hy.e, Zjs, Znw, g1, g2, g3, Zcn, Zfa, hf.e, ZbU, h1, and_self, if_true, h2]
 ·simp only [aOp, hx.e, hy.e, Zjs, Znw, ZlB, g1, g2, g3, g4, g5, g6, Zcn, Zfa, hf.e, ZbU, h1, and_self, if_true, h2]
structure LN (tab : Tab) (hl : List (Nat × Block)) (t : TypeId) (p : PV) (m : Int) : Prop where
 e : aLen tab (ZaH hl) t p = some (.g (.int .i64 m), [])
theorem Zu6 {e : Nat} {len : Nat}   (ht : SLT tab t E e) (hb : HL hl id (.arr e' dp xs)) : LN tab hl t (.own id lo len) (len : Int) := ⟨by obtain ⟨ti, ei, h1, h2, _⟩ := ht.h; exact Zxf h1 h2 hb.e⟩
theorem LN_g {e : Nat}  (ht : SLT tab t E e) (hm : LEN xs m) : LN tab hl t (.g (.sl e' xs)) (m : Int) := ⟨by obtain ⟨ti, ei, h1, h2, _⟩ := ht.h; rw [ln_g h1 h2, hm.e]⟩
theorem Zzn {e : Nat} {u : Value}  (ht : SLT tab t E e) (hm : LEN xs m) : LN tab hl t (.g (.ex u e' xs)) (m : Int) := ⟨by obtain ⟨ti, ei, h1, h2, _⟩ := ht.h; simp only [aLen, h1, h2, ← hm.e]⟩
theorem ZyJ {e : Nat} {u : Nat}  (ht : SLT tab t E e) (hm : LEN xs m) : LN tab hl t (.g (.bd u e' xs)) (m : Int) := ⟨by obtain ⟨ti, ei, h1, h2, _⟩ := ht.h; simp only [aLen, h1, h2, ← hm.e]⟩
theorem ZtL {e : Nat} (ht : SLT tab t E e) : LN tab hl t (.nils e') 0 := ⟨by obtain ⟨ti, ei, h1, h2, _⟩ := ht.h; exact ZvQ h1 h2⟩
theorem Zvo  {s : ByteArray}  (ht : RF (tab t = some ti ∧ ti.kind = .str)) : LN tab hl t (.g (.str s)) (s.size : Int) := ⟨by simp only [aLen, ht.e.1, ht.e.2]⟩
theorem Zy3  {a b : Int} (hd : RF (hasB d n = true)) (hx : EV sl tab 0 x (.g (.int .i64 a))) (hy : EV sl tab 0 y (.g (.int .i64 b))) (h4 : AF dr P tab ops (i + 1) os n ((d, .g (.int .i64 (max a b))) :: sl) hl nx (acc ++ [tcX tab i n sl hl nx ⟨some d, .call { callee := .builtin .max, args := #[x, y], argTypes := tys }, ty, pos, af, none⟩ []]) K) : AF dr P tab ops i (⟨some d, .call { callee := .builtin .max, args := #[x, y], argTypes := tys }, ty, pos, af, none⟩ :: os) n sl hl nx acc K :=
 Zcc (ws := []) (Zbl hd) (by simp only [aOp, ZkR, hx.e, hy.e, aMM, if_true]) h4
theorem Zy5  {a b : Int} (hd : RF (hasB d n = true)) (hx : EV sl tab 0 x (.g (.int .i64 a))) (hy : EV sl tab 0 y (.g (.int .i64 b))) (h4 : AF dr P tab ops (i + 1) os n ((d, .g (.int .i64 (min a b))) :: sl) hl nx (acc ++ [tcX tab i n sl hl nx ⟨some d, .call { callee := .builtin .min, args := #[x, y], argTypes := tys }, ty, pos, af, none⟩ []]) K) : AF dr P tab ops i (⟨some d, .call { callee := .builtin .min, args := #[x, y], argTypes := tys }, ty, pos, af, none⟩ :: os) n sl hl nx acc K :=
 Zcc (ws := []) (Zbl hd) (by simp only [aOp, ZkR, hx.e, hy.e, aMM, Bool.false_eq_true, if_false]) h4
theorem Zzd {t : TypeId}  {p : PV} {m : Int} (hd : RF (hasB d n = true)) (hx : EV sl tab 0 x p) (hv : LN tab hl t p m) (h4 : AF dr P tab ops (i + 1) os n ((d, .g (.int .i64 m)) :: sl) hl nx (acc ++ [tcX tab i n sl hl nx ⟨some d, .call { callee := .builtin .len, args := #[x], argTypes := #[t] }, ty, pos, af, none⟩ []]) K) : AF dr P tab ops i (⟨some d, .call { callee := .builtin .len, args := #[x], argTypes := #[t] }, ty, pos, af, none⟩ :: os) n sl hl nx acc K :=
 Zcc (ws := []) (Zbl hd) (by simp only [aOp, ZkR, hx.e]; exact hv.e) h4
structure SR (hl : List (Nat × Block)) (e : Nat) (p : PV) (ys : List GV) (ks : List Nat) (d : Bool) : Prop where
 e : srcE (ZaH hl) e p = some (ys, ks, d)
theorem Zsy (e e' : Nat) : SR hl e (.nils e') [] [] true := ⟨rfl⟩
structure FLB (ys : List GV) (b : Bool) : Prop where
 e : ys.all GV.flat = b
theorem Zrh (k : IntKind) (ys : List Int) : FLB (ys.map (GV.int k)) true := ⟨Zk8 k ys⟩
theorem Zo5 (ys : List Bool) : FLB (ys.map GV.bool) true := ⟨ZfJ fun _ => rfl⟩
theorem ZrQ (ys : List ByteArray) : FLB (ys.map GV.str) true := ⟨ZfJ fun _ => rfl⟩
theorem ZtR : FLB [] true := ⟨rfl⟩
theorem ZoO {k : IntKind} {n : Int}  {b : Bool} (h : FLB xs b) : FLB (.int k n :: xs) b := ⟨by have := h.e; simpa [GV.flat, GV.atom] using this⟩
theorem ZuC (ys : List GV) : FLB ys (ys.all GV.flat) := ⟨rfl⟩
theorem ZyO {e : Nat}  {b : Bool} (hf : FLB ys b) : SR hl e (.g (.sl e ys)) ys [] b := ⟨Zyt hf.e⟩
structure FLK (ys : List GV) (b : Bool) : Prop where
 e : ys.all GV.flat = b
theorem Zq6 (k : IntKind) (ys : List Int) : FLK (ys.map (GV.int k)) true := ⟨Zk8 k ys⟩
theorem Zod (ys : List Bool) : FLK (ys.map GV.bool) true := ⟨ZfJ fun _ => rfl⟩
theorem ZqW (ys : List ByteArray) : FLK (ys.map GV.str) true := ⟨ZfJ fun _ => rfl⟩
theorem Zsl : FLK [] true := ⟨rfl⟩
theorem ZoH {k : IntKind} {n : Int}  {b : Bool} (h : FLK xs b) : FLK (.int k n :: xs) b := ⟨by have := h.e; simpa [GV.flat, GV.atom] using this⟩
theorem ZoM {n : Bool}  {b : Bool} (h : FLK xs b) : FLK (.bool n :: xs) b := ⟨by have := h.e; simpa [GV.flat, GV.atom] using this⟩
theorem ZpU {n : ByteArray}  {b : Bool} (h : FLK xs b) : FLK (.str n :: xs) b := ⟨by have := h.e; simpa [GV.flat, GV.atom] using this⟩
theorem Zxa {e : Nat}  : FLK (.sl e ys :: xs) false := ⟨by simp [GV.flat, GV.atom]⟩
theorem Zro  {f : α → GV} : FLK (([] : List α).map f) true := ⟨rfl⟩
theorem Zph  {f : α → GV} {x : α} {xs : List α} (h : RF ((f x).flat = false)) : FLK ((x :: xs).map f) false := ⟨by rw [List.map_cons, List.all_cons, h.e]; rfl⟩
theorem ZuO  {v : Value}  : FLK (.raw c v :: xs) false := ⟨by simp [GV.flat, GV.atom]⟩
theorem Ztx  {b : Bool} (h : ALLA ys b) : FLK [.agg ys] b := ⟨by have := h.e; simpa [GV.flat] using this⟩
structure SK (id : Nat) (dp b : Bool) (ks : List Nat) (d : Bool) : Prop where
 e : (if b then (([] : List Nat), true) else ([id], dp)) = (ks, d)
theorem SK_t (id : Nat) (dp : Bool) : SK id dp true [] true := ⟨rfl⟩
theorem SK_f (id : Nat) (dp : Bool) : SK id dp false [id] dp := ⟨rfl⟩
theorem ZxN {len e : Nat} {b d : Bool}   (hb : HL hl id (.arr e dp xs)) (hc : CUT xs lo len ys) (hf : FLK ys b) (hs : SK id dp b ks d) : SR hl e (.own id lo len) ys ks d := ⟨by
 have h1 := hc.l
 have h2 := hf.e
 have h3 := hs.e
 simp only [srcE, hb.e, h1, and_self, if_true, hc.e, h2]
 cases b
 ·simp only [Bool.false_eq_true, if_false, Prod.mk.injEq] at h3 ⊢
  rw [h3.1, h3.2]
 ·simp only [if_true, Prod.mk.injEq] at h3 ⊢
  rw [← h3.1, ← h3.2]⟩
structure DS (hl : List (Nat × Block)) (e : Nat) (p : PV) (xs : List GV) (ks : List Nat) (d : Bool) : Prop where
 e : dstE (ZaH hl) e p = some (xs, ks, d)
theorem Zsr (e : Nat) : DS hl e (.nils e) [] [] true := ⟨ZtQ _ _⟩
theorem ZwI {len e : Nat}   (hb : HL hl id (.arr e dp xs)) (hc : CUT xs lo len ys) : DS hl e (.own id lo len) ys [id] dp := ⟨by
 have h1 := Zst hb.e hc.l
 rw [hc.e] at h1; exact h1⟩
theorem Zy7  {t : TypeId}  {e a b : Nat} {px : PV}  {ks1 : List Nat} {d1 : Bool} (hd : RF (hasB d n = true)) (hx : EV sl tab t x px) (hy : EV sl tab t y py) (hE : SLT tab t E e) (hk : NID (nx + 8 * i) kk) (hf : HL hl kk .free) (h5 : SR hl (e + 1) py ys ks2 d2) (h6 : DS (Zbe ks2 hl) (e + 1) px xs ks1 d1) (hz : CAT xs ys zs) (hm : LEN zs m) (hdp : AND d1 d2 dp) (ha : LEN xs a) (hb : LEN ys b) (hl' : NU (a + b ≤ 1099511627776))
  (h4 : AF dr P tab ops (i + 1) os n ((d, .own kk 0 m) :: sl) ((kk, .arr (e + 1) dp zs) :: Zbe ks1 (Zbe ks2 hl)) nx (acc ++ [tcX tab i n sl hl nx ⟨some d, .call { callee := .builtin .append, args := #[x, y], argTypes := #[t, t] }, ty, pos, af, none⟩ (idsW (Zco ks2 ++ (Zco ks1 ++ [(kk, .arr (e + 1) dp zs)])))]) K) : AF dr P tab ops i (⟨some d, .call { callee := .builtin .append, args := #[x, y], argTypes := #[t, t] }, ty, pos, af, none⟩ :: os) n sl hl nx acc K := by
 cases hk.e
 have e1 : m = xs.length + ys.length := by rw [← hm.e, ← hz.e]; simp
 have e2 := hz.e
 subst e1
 refine Zcc (ws := Zco ks2 ++ (Zco ks1 ++ [(nx + 8 * i, .arr (e + 1) dp zs)])) (pv := .own (nx + 8 * i) 0 (xs.length + ys.length)) (Zbl hd) ?_ (by rw [Zb5, ZbV, Zb5, ZbV]; exact h4)
 have h7 : dstE (killL (ZaH hl) ks2) (e + 1) px = some (xs, ks1, d1) := by rw [← ZeG]; exact h6.e
 have h8 := hl'.e
 have h9 : srcE (ZaH hl) (e + 1) py = some (ys, ks2, d2) := h5.e
 rw [← ha.e, ← hb.e] at h8
 simp only [aOp, ZkR, if_true, aApp, hx.e, hy.e, hE.el, Zcn, Zfa, hf.e, ZbU]
 rw [if_pos ⟨trivial, by omega⟩]
 show (match srcE (ZaH hl) (e + 1) py with | some (ys, ks2, d2) => _ | none => none) = _
 rw [h9]
 show (match dstE (killL (ZaH hl) ks2) (e + 1) px with | some (xs, ks1, d1) => _ | none => none) = _
 rw [h7]
 simp only [h8, if_true, hdp.e, e2]
theorem Zxr {kk1 : Nat} {t : TypeId}  {e a b : Nat} {v : Value}     (hd : RF (hasB d n = true)) (hx : EV sl tab t x (.g (.raw c v))) (hc : HL hl c (.hd v (e + 1) xs)) (hy : EV sl tab t y py) (hE : SLT tab t E e) (hk : NID (nx + 8 * i) kk) (hk1 : NID (nx + 8 * i + 1) kk1) (hf : HL hl kk .free) (hf1 : HL hl kk1 .free) (h5 : SR hl (e + 1) py ys ks2 d2) (hz : CAT xs ys zs) (hm : LEN zs m) (ha : LEN xs a) (hb : LEN ys b) (hl' : NU (a + b ≤ 1099511627776))
  (h4 : AF dr P tab ops (i + 1) os n ((d, .own kk 0 m) :: sl) ((kk, .arr (e + 1) d2 zs) :: (kk1, .dead) :: (c, .dead) :: Zbe ks2 hl) nx (acc ++ [tcX tab i n sl hl nx ⟨some d, .call { callee := .builtin .append, args := #[x, y], argTypes := #[t, t] }, ty, pos, af, none⟩ (idsW (Zco ks2 ++ [(c, .dead), (kk1, .dead), (kk, .arr (e + 1) d2 zs)]))]) K) (ht : TabOk P tab) : AF dr P tab ops i (⟨some d, .call { callee := .builtin .append, args := #[x, y], argTypes := #[t, t] }, ty, pos, af, none⟩ :: os) n sl hl nx acc K := by
 cases hk.e
 cases hk1.e
 have e1 : m = xs.length + ys.length := by rw [← hm.e, ← hz.e]; simp
 have e2 := hz.e
 subst e1
 subst e2
 have h8 := hl'.e
 rw [← ha.e, ← hb.e] at h8
 have h9 : srcE (ZaH hl) (e + 1) py = some (ys, ks2, d2) := h5.e
 have key : Zkn P tab (nx + 8 * i) ⟨some d, .call { callee := .builtin .append, args := #[x, y], argTypes := #[t, t] }, ty, pos, af, none⟩ (mkX n sl hl nx) (.own (nx + 8 * i) 0 (xs.length + ys.length)) (Zco ks2 ++ [(c, .dead), (nx + 8 * i + 1, .dead), (nx + 8 * i, .arr (e + 1) d2 (xs ++ ys))]) :=
  Zqz (o := ⟨some d, .call { callee := .builtin .append, args := #[x, y], argTypes := #[t, t] }, ty, pos, af, none⟩) ht rfl (hx.e n hl nx) (hc.e : (mkX n sl hl nx).heap c = _) hE.el (by omega) (by rw [hy.e n hl nx]; exact h9) (hf.e : (mkX n sl hl nx).heap _ = _) (hf1.e : (mkX n sl hl nx).heap _ = _) h8
 refine ZdG (pv := .own (nx + 8 * i) 0 (xs.length + ys.length)) (ws := Zco ks2 ++ [(c, Block.dead), (nx + 8 * i + 1, Block.dead), (nx + 8 * i, Block.arr (e + 1) d2 (xs ++ ys))]) rfl (Zbl hd) (.inr (.inr key)) ?_
 rw [Zbg, Ze5, Zb5, ZbV]
 exact h4
structure EVL (sl : List (Nat × PV)) (tab : Tab) (xs : List Operand) (ps : List PV) : Prop where
 e : ∀ n hl nx, xs.map ((mkX n sl hl nx).ev tab 0) = ps
theorem ZsD (sl : List (Nat × PV)) (tab : Tab) : EVL sl tab [] [] := ⟨fun _ _ _ => rfl⟩
theorem ZrB  {xs : List Operand} {p : PV}  (h1 : EV sl tab 0 x p) (h2 : EVL sl tab xs ps) : EVL sl tab (x :: xs) (p :: ps) := ⟨fun n hl nx => by simp only [List.map_cons, h1.e, h2.e]⟩
theorem Zy1  {cs : List Operand}  (hd : RF (hasB d n = true)) (hx : EVL sl tab cs ps) (h4 : AF dr P tab ops (i + 1) os n ((d, .fn f ps) :: sl) hl nx (acc ++ [tcX tab i n sl hl nx ⟨some d, .makeFunc (.func f) #[] cs.toArray, ty, pos, af, none⟩ []]) K) : AF dr P tab ops i (⟨some d, .makeFunc (.func f) #[] cs.toArray, ty, pos, af, none⟩ :: os) n sl hl nx acc K :=
 Zcc (ws := []) (pv := .fn f ps) (Zbl hd) (by have := hx.e n hl nx; simp only [aOp, if_true, ← this]) h4
theorem Zzo  {vs : List PV} {v : PV} (hd : RF (hasB d n = true)) (hx : EV sl tab 0 x (.tup vs)) (hv : Idx vs k v) (h4 : AF dr P tab ops (i + 1) os n ((d, v) :: sl) hl nx (acc ++ [tcX tab i n sl hl nx ⟨some d, .extract x k, ty, pos, af, none⟩ []]) K) : AF dr P tab ops i (⟨some d, .extract x k, ty, pos, af, none⟩ :: os) n sl hl nx acc K :=
 Zcc (ws := []) (Zbl hd) (by simp only [aOp, hx.e, Zhy, hv.e]) h4
def CON (P : Program) (f : FuncId) (gs : List GV) (r : GV) : Prop := Con P f gs r
theorem CON.e {P : Program}    (h : CON P f gs r) : Con P f gs r := h
theorem Zaw {P : Program}    (h : Con P f gs r) : CON P f gs r := h
theorem Ztt  {f : Operand} {xs : List Operand}      {pv : PV}  (hd : (mkX n sl hl nx).has dst = true) (hf : FN sl tab f fid caps) (ha : ARG sl tab xs ts ps) (hg : VWL hl 6 (ps ++ caps) gs) (hc : ConS P (mkX n sl hl nx) fid gs r) (hk : NID (nx + 8 * i) kk) (hr : RES kk r hl pv hl')
  (h4 : AF dr P tab ops (i + 1) os n (putL dst pv sl) hl' nx (acc ++ [tcX tab i n sl hl nx ⟨dst, .call { callee := .value f, args := xs.toArray, argTypes := ts.toArray }, ty, pos, af, none⟩ (idsW (Zba kk (ZaC r)))]) K) : AF dr P tab ops i (⟨dst, .call { callee := .value f, args := xs.toArray, argTypes := ts.toArray }, ty, pos, af, none⟩ :: os) n sl hl nx acc K := by
 cases hk.e
 refine ZdG (pv := Ze2 (nx + 8 * i) r) (ws := Zba (nx + 8 * i) (ZaC r)) rfl hd (.inr (.inl ⟨fid, caps, hf.e n hl nx, gs, ?_, r, hc, hr.lf, hr.l8, ?_, rfl, rfl⟩)) ?_
 ·show Zbo (view (ZaH hl) 6) ((mkX n sl hl nx).args tab xs ts ++ caps) = some gs
  rw [ha.e]; exact hg.e
 ·simp only [List.all_eq_true, List.mem_range]
  intro j hj
  rw [Zfa, Zcn, hr.fr j hj]; rfl
 ·rw [Zfa, Zbg, Ze5, hr.pv, hr.hl]; exact h4
theorem ZsC  {f : Operand} {xs : List Operand}      {pv : PV}  (hd : (mkX n sl hl nx).has dst = true) (hf : FN sl tab f fid caps) (ha : ARG sl tab xs ts ps) (hg : VWL hl 6 (ps ++ caps) gs) (hc : Con P fid gs r) (hk : NID (nx + 8 * i) kk) (hr : RES kk r hl pv hl')
  (h4 : AF dr P tab ops (i + 1) os n (putL dst pv sl) hl' nx (acc ++ [tcX tab i n sl hl nx ⟨dst, .call { callee := .value f, args := xs.toArray, argTypes := ts.toArray }, ty, pos, af, none⟩ (idsW (Zba kk (ZaC r)))]) K) : AF dr P tab ops i (⟨dst, .call { callee := .value f, args := xs.toArray, argTypes := ts.toArray }, ty, pos, af, none⟩ :: os) n sl hl nx acc K :=
 Ztt hd hf ha hg (.inl hc) hk hr h4
theorem ZtY : ∀ {m : Nat} {ps qs : List PV} {xs ys : List GV}, VWL hl m ps xs → VWL hl m qs ys → VWL hl m (ps ++ qs) (xs ++ ys) := fun h1 h2 => ⟨Zr9 h1.e h2.e⟩
structure APP {α : Type} (xs ys zs : List α) : Prop where
 e : xs ++ ys = zs
theorem ZtS  (ys : List α) : APP [] ys ys := ⟨rfl⟩
theorem Zp0  {x : α} {xs ys zs : List α} (h : APP xs ys zs) : APP (x :: xs) ys (x :: zs) := ⟨by simp [h.e]⟩
theorem ZtV  {f : Operand} {xs : List Operand}    {gs1 gs2 : List GV}  {pv : PV}  (hd : RF (hasB d n = true)) (hf : FN sl tab f fid caps) (ha : ARG sl tab xs ts ps) (hg1 : VWL hl 6 ps gs1) (hg2 : VWL hl 6 caps gs2) (hgs : APP gs1 gs2 gs) (hc : CON P fid gs r) (hk : NID (nx + 8 * i) kk) (hr : RES kk r hl pv hl')
  (h4 : AF dr P tab ops (i + 1) os n ((d, pv) :: sl) hl' nx (acc ++ [tcX tab i n sl hl nx ⟨some d, .call { callee := .value f, args := xs.toArray, argTypes := ts.toArray }, ty, pos, af, none⟩ (idsW (Zba kk (ZaC r)))]) K) : AF dr P tab ops i (⟨some d, .call { callee := .value f, args := xs.toArray, argTypes := ts.toArray }, ty, pos, af, none⟩ :: os) n sl hl nx acc K :=
 ZsC (Zbl hd) hf ha (by rw [← hgs.e]; exact ZtY hg1 hg2) hc hk hr h4
structure LENQ (len : Nat) (xs ys : List GV) : Prop where
 a : len = xs.length
 b : ys.length = xs.length
def MRK (P : Program) (f : FuncId) (ag : Bool) (gs gs' : List GV) (k : Int) (c : Nat) : Prop := MarkC P f ag gs gs' k c
theorem MRK.e {P : Program}    {k : Int}  (h : MRK P f ag gs gs' k c) : MarkC P f ag gs gs' k c := h
structure CMP (p : PV) (ag : Bool) (ps : List PV) : Prop where
 e : p = (if ag then .agg ps else ps.headD .undef)
 l : ag = false → ps.length = 1
structure WG (hl : List (Nat × Block)) (ps : List PV) (gs : List GV) : Prop where
theorem ZvP (hl : List (Nat × Block)) : WG hl [] [] := ⟨⟩
theorem ZuJ {x : GV}   (h : WG hl ps gs) : WG hl (.g x :: ps) (x :: gs) := ⟨⟩
theorem ZvJ {e len : Nat}    (hb : HL hl id (.arr e true xs)) (h : WG hl ps gs) : WG hl (.own id 0 len :: ps) (.sl e xs :: gs) := ⟨⟩
theorem ZtC (ps : List PV) : CMP (.agg ps) true ps := ⟨rfl, fun h => by cases h⟩
theorem Zu5 (id lo len : Nat) : CMP (.own id lo len) false [.own id lo len] := ⟨rfl, fun _ => rfl⟩
structure WW (h0 hl : List (Nat × Block)) (ps : List PV) (gs gs' : List GV) (ws : List (Nat × Block)) (is : List (List Nat)) (hl' : List (Nat × Block)) : Prop where
 e : WhL (ZaH h0) ps gs gs' ws is
 p : Zfs ws hl = hl'
theorem ZxC (h0 hl : List (Nat × Block)) : WW h0 hl [] [] [] [] [] hl := ⟨.nil, rfl⟩
theorem ZtT {hl : List (Nat × Block)} {x : GV}   {ws : List (Nat × Block)}  (hx : RF (x.atom = true)) (h : WW h0 hl ps gs gs' ws is hl') : WW h0 hl (.g x :: ps) (x :: gs) (x :: gs') ws ([] :: is) hl' :=
 ⟨.cons (w := []) (.atom x hx.e) h.e (by simp), h.p⟩
theorem Zvs {hl : List (Nat × Block)} {e len : Nat}    {ws : List (Nat × Block)}  (hb : HL h0 id (.arr e true xs)) (hq : LENQ len xs ys) (h : WW h0 ((id, .arr e true ys) :: hl) ps gs gs' ws is hl') (hn : RF ((ws.all fun x => !(Nat.beq x.1 id)) = true)) :
  WW h0 hl (.own id 0 len :: ps) (.sl e xs :: gs) (.sl e ys :: gs') ((id, .arr e true ys) :: ws) ([id] :: is) hl' :=
 ⟨.cons (w := [(id, .arr e true ys)]) (.own id e len xs ys hb.e hq.a hq.b) h.e (fun x hx hm => by
  simp at hx; subst hx
  obtain ⟨y, hy, e⟩ := List.mem_map.1 hm
  have := List.all_eq_true.1 hn.e y hy
  rw [e, show Nat.beq id id = true from Nat.beq_refl id] at this; cases this), h.p⟩
def okSL (n : Nat) (hl : List (Nat × Block)) (sl : List (Nat × PV)) : Bool := sl.all fun x => okS n x.1 x.2 || okG (ZaH hl) x.2
def okBL (hl : List (Nat × Block)) : Bool := hl.all fun x => okB x.2
theorem ZoR {n : Nat} {hl : List (Nat × Block)} : ∀ {sl : List (Nat × PV)}, okSL n hl sl = true → ∀ t, (okS n t (Zbs sl t) || okG (ZaH hl) (Zbs sl t)) = true
 | [], _, _ => rfl
 | (d, v) :: sl, h, t => by
  simp only [okSL, List.all_cons, Bool.and_eq_true] at h
  unfold Zbs
  split
  ·rename_i e; subst e; exact h.1
  ·exact ZoR (sl := sl) h.2 t
theorem Zou : ∀ {hl : List (Nat × Block)}, okBL hl = true → ∀ id, okB (ZaH hl id) = true
 | [], _, _ => rfl
 | (d, v) :: hl, h, t => by
  simp only [okBL, List.all_cons, Bool.and_eq_true] at h
  unfold ZaH
  split
  ·exact h.1
  ·exact Zou (hl := hl) h.2 t
theorem Zvn {f : FuncId} {x y : Operand} {tx t2 : TypeId} {ag : Bool} {p : PV} {ps : List PV} {gs gs' : List GV} {k : Int} {c : Nat} {ws : List (Nat × Block)} {is : List (List Nat)} {hl' : List (Nat × Block)} (hd : RF (hasB d n = true)) (hdr : RF (dr = false)) (hx : EV sl tab tx x p) (hy : EV sl tab t2 y (.g (.int .i64 k))) (hp : CMP p ag ps) (hg : WG hl ps gs) (hm : MRK P f ag gs gs' k c)
  (hw : WW hl hl ps gs gs' ws is hl') (hc : RF ((okSL n hl sl && okBL hl) = true)) (h4 : AF dr P tab ops (i + 1) os n ((d, .g (.int .i64 (k + c))) :: sl) hl' nx (acc ++ [tcX tab i n sl hl nx ⟨some d, .call { callee := .value (.func f), args := #[x, y], argTypes := #[tx, t2] }, ty, pos, af, none⟩ (idsW ws)]) K) : AF dr P tab ops i (⟨some d, .call { callee := .value (.func f), args := #[x, y], argTypes := #[tx, t2] }, ty, pos, af, none⟩ :: os) n sl hl nx acc K := by
 cases hdr.e
 have hc := hc.e
 rw [Bool.and_eq_true] at hc
 refine Zs3 (pv := .g (.int .i64 (k + c))) (ws := ws) rfl (Zbl hd) ⟨f, x, y, tx, t2, ag, ps, gs, gs', k, c, is, rfl, ?_, hp.l, ?_, hw.e, hm.e, ZoR hc.1, Zou hc.2, rfl⟩ ?_
 ·rw [hx.e]; exact hp.e
 ·rw [hy.e]
 ·rw [Zbg, Ze5, hw.p]; exact h4
structure RPV (id : Nat) (cut : Option Nat) (pv : PV) : Prop where
 e : Zui id cut = pv
theorem Zp7 (id : Nat) : RPV id none .undef := ⟨rfl⟩
theorem Zrl (id m : Nat) : RPV id (some m) (.own id 0 m) := ⟨rfl⟩
theorem Zyg  {t : TypeId} {len : Nat}  {xs ys : List Int} {cut : Option Nat} {pv : PV} (hd : RF (hasB d n = true)) (hx : EV sl tab t x (.own id 0 len)) (hb : HL hl id (.arr 1 dp (xs.map GV.i))) (hl' : NU (len = xs.length)) (hc : ROW P f xs ys cut) (hp : RPV id cut pv)
  (h4 : AF dr P tab ops (i + 1) os n ((d, pv) :: sl) ((id, .arr 1 true (ys.map GV.i)) :: hl) nx (acc ++ [tcX tab i n sl hl nx ⟨some d, .call { callee := .value (.func f), args := #[x], argTypes := #[t] }, ty, pos, af, none⟩ (idsW [(id, .arr 1 true (ys.map GV.i))])]) K) : AF dr P tab ops i (⟨some d, .call { callee := .value (.func f), args := #[x], argTypes := #[t] }, ty, pos, af, none⟩ :: os) n sl hl nx acc K := by
 refine ZdG (pv := Zui id cut) (ws := [(id, .arr 1 true (ys.map GV.i))]) rfl (Zbl hd) (.inr (.inr (ZuE rfl rfl (hx.e n hl nx) (hb.e : (mkX n sl hl nx).heap id = _) hl'.e hc _))) ?_
 rw [Zbg, Ze5, hp.e]; exact h4
def INTO (P : Program) (f : FuncId) (xs : List Int) (x : Int) (ys : List Int) : Prop := Zq3 P f xs x ys
theorem ZsF {P : Program}  {xs : List Int} {x : Int} {ys : List Int} (h : Zq3 P f xs x ys) : INTO P f xs x ys := h
theorem ZxH  {t2 : TypeId} {len : Nat} {m : Int} {xs ys : List Int} (hd : RF (hasB d n = true)) (hx : EV sl tab tx x (.own id 0 len)) (hy : EV sl tab t2 y (.g (.int .i64 m))) (hb : HL hl id (.arr 1 true (xs.map GV.i))) (hl' : NU (len = xs.length)) (hk : NID (nx + 8 * i) kk) (hf : HL hl kk .free) (hc : INTO P f xs m ys)
  (h4 : AF dr P tab ops (i + 1) os n ((d, .own kk 0 ys.length) :: sl) ((id, .dead) :: (kk, .arr 1 true (ys.map GV.i)) :: hl) nx (acc ++ [tcX tab i n sl hl nx ⟨some d, .call { callee := .value (.func f), args := #[x, y], argTypes := #[tx, t2] }, ty, pos, af, none⟩ (idsW [(kk, .arr 1 true (ys.map GV.i)), (id, .dead)])]) K) : AF dr P tab ops i (⟨some d, .call { callee := .value (.func f), args := #[x, y], argTypes := #[tx, t2] }, ty, pos, af, none⟩ :: os) n sl hl nx acc K := by
 cases hk.e
 refine ZdG (pv := .own (nx + 8 * i) 0 ys.length) (ws := [(nx + 8 * i, .arr 1 true (ys.map GV.i)), (id, .dead)]) rfl (Zbl hd) (.inr (.inr (Zqh rfl rfl (hx.e n hl nx) (hy.e n hl nx) (hb.e : (mkX n sl hl nx).heap id = _) hl'.e (hf.e : (mkX n sl hl nx).heap _ = _) hc))) ?_
 rw [Zbg, Ze5]; exact h4
def Ztm (P : Program) (f : FuncId) (g r : GV) : Prop := ConV P f g r
theorem Ztk {P : Program}  {g : GV} (h : ConV P f g r) : Ztm P f g r := h
theorem Zt9  {t : TypeId}    (hd : RF (hasB d n = true)) (ha : EV sl tab t x (.agg ps)) (hv : GL ps gs) (h1 : RF (gs.all (fun x => x.ncells == 1) = true)) (hc : Ztm P f (.agg gs) r)
  (h4 : AF dr P tab ops (i + 1) os n ((d, .g r) :: sl) hl nx (acc ++ [tcX tab i n sl hl nx ⟨some d, .call { callee := .value (.func f), args := #[x], argTypes := #[t] }, ty, pos, af, none⟩ []]) K) : AF dr P tab ops i (⟨some d, .call { callee := .value (.func f), args := #[x], argTypes := #[t] }, ty, pos, af, none⟩ :: os) n sl hl nx acc K := by
 refine ZdG (pv := .g r) (ws := []) rfl (Zbl hd) (.inr (.inr (ZrF rfl rfl (ha.e n hl nx) hv.e h1.e hc))) ?_
 rw [Zbg, Ze5]; exact h4
def VTXC (P : Program) (f : FuncId) : Prop := VtxC P f
theorem ZxZ {P : Program}  (h : VtxC P f) : VTXC P f := h
theorem ZvA  {z r : Operand} {tz tr : TypeId} {i0 i3 m0 m1 m2 m3 : Nat} {o p : Int} {d0 : Bool} {ow pr row : List Int} {nw : List (List Int)} (hd : RF (hasB d n = true)) (hx : EV sl tab tx x (.agg [.own i0 0 m0, .own i1 0 m1, .own i2 0 m2])) (hy : EV sl tab ty' y (.g (.int .i64 o))) (hz : EV sl tab tz z (.g (.int .i64 p))) (hr : EV sl tab tr r (.own i3 0 m3))
  (b0 : HL hl i0 (.arr 1 d0 (ow.map GV.i))) (b1 : HL hl i1 (.arr 1 true (nw.map GV.ints))) (b2 : HL hl i2 (.arr 1 d2 (pr.map GV.i))) (b3 : HL hl i3 (.arr 1 true (row.map GV.i))) (hn : RF ([i0, i1, i2, i3].Nodup)) (hk : NID (nx + 8 * i) kk) (hf0 : HL hl kk .free) (hf1 : HL hl (kk + 1) .free) (hf2 : HL hl (kk + 2) .free)
  (hm : NU (m0 = ow.length ∧ m1 = nw.length ∧ m2 = pr.length ∧ m3 = row.length)) (hs : NU (ow.length ≤ 1000 ∧ nw.length ≤ 1000 ∧ pr.length ≤ 1000)) (hc : VTXC P f)
  (h4 : AF dr P tab ops (i + 1) os n ((d, .agg [.own kk 0 (ow.length + 1), .own (kk + 1) 0 (nw.length + 1), .own (kk + 2) 0 (pr.length + 1)]) :: sl) ((kk + 2, .arr 1 true ((pr ++ [p]).map GV.i)) :: (kk + 1, .arr 1 true ((nw ++ [row]).map GV.ints)) :: (kk, .arr 1 true ((ow ++ [o]).map GV.i)) :: (i3, .dead) :: (i2, .dead) :: (i1, .dead) :: (i0, .dead) :: hl) nx (acc ++ [tcX tab i n sl hl nx ⟨some d, .call { callee := .value (.func f), args := #[x, y, z, r], argTypes := #[tx, ty', tz, tr] }, ty, pos, af, none⟩ (idsW (vtxW i0 i1 i2 i3 kk ((ow ++ [o]).map GV.i) ((pr ++ [p]).map GV.i) ((nw ++ [row]).map GV.ints)))]) K) :
  AF dr P tab ops i (⟨some d, .call { callee := .value (.func f), args := #[x, y, z, r], argTypes := #[tx, ty', tz, tr] }, ty, pos, af, none⟩ :: os) n sl hl nx acc K := by
 cases hk.e
 refine ZdG (pv := .agg [.own (nx + 8 * i) 0 (ow.length + 1), .own (nx + 8 * i + 1) 0 (nw.length + 1), .own (nx + 8 * i + 2) 0 (pr.length + 1)]) (ws := vtxW i0 i1 i2 i3 (nx + 8 * i) ((ow ++ [o]).map GV.i) ((pr ++ [p]).map GV.i) ((nw ++ [row]).map GV.ints)) rfl (Zbl hd) (.inr (.inr (ZsM rfl rfl (hx.e n hl nx) (hy.e n hl nx) (hz.e n hl nx) (hr.e n hl nx) (b0.e : (mkX n sl hl nx).heap i0 = _) (b1.e : (mkX n sl hl nx).heap i1 = _) (b2.e : (mkX n sl hl nx).heap i2 = _) (b3.e : (mkX n sl hl nx).heap i3 = _) hn.e (fun k hk => ?_) hm.e hs.e hc))) ?_
 ·match k, hk with
  | 0, _ => exact hf0.e
  | 1, _ => exact hf1.e
  | 2, _ => exact hf2.e
 ·rw [Zbg, Ze5]; exact h4
def Zt4 (P : Program) (f : FuncId) (g0 g1 : GV) : Prop := Zoo P f g0 g1
theorem Zsx {P : Program}   (h : Zoo P f g0 g1) : Zt4 P f g0 g1 := h
theorem Zut  {t : TypeId} {p : PV}  (hd : RF (hasB d n = true)) (ha : EV sl tab t x p) (hb : EV sl tab ty' y q) (hv : VWL hl 6 [p, q] [g0, g1]) (hc : Zt4 P f g0 g1)
  (h4 : AF dr P tab ops (i + 1) os n ((d, .tup [q, .g (.int .i64 0)]) :: sl) hl nx (acc ++ [tcX tab i n sl hl nx ⟨some d, .call { callee := .value (.func f), args := #[x, y], argTypes := #[t, ty'] }, ty, pos, af, none⟩ []]) K) : AF dr P tab ops i (⟨some d, .call { callee := .value (.func f), args := #[x, y], argTypes := #[t, ty'] }, ty, pos, af, none⟩ :: os) n sl hl nx acc K := by
 refine ZdG (pv := .tup [q, .g (.int .i64 0)]) (ws := []) rfl (Zbl hd) (.inr (.inr (Zrp rfl rfl (ha.e n hl nx) (hb.e n hl nx) (hv.e : Zbo (view (mkX n sl hl nx).heap 6) [p, q] = some [g0, g1]) hc))) ?_
 rw [Zbg, Ze5]; exact h4
def UNKC (P : Program) (f : FuncId) (gs : List GV) (g0 g2 : GV) : Prop := ConU P f gs g0 g2
theorem Zr4 {P : Program}    (h : ConU P f gs g0 g2) : UNKC P f gs g0 g2 := h
theorem Zxy  {xs : List Operand}     {p0 p2 : PV}  (hd : RF (hasB d n = true)) (ha : ARG sl tab xs ts ps) (hg : VWL hl 6 ps gs) (hc : UNKC P f gs g0 g2) (hk : NID (nx + 8 * i) kk) (hr : RES kk (.tup [g0, g2]) hl (.tup [p0, p2]) hl')
  (h4 : AF dr P tab ops (i + 1) os n ((d, .tup [p0, .undef, p2]) :: sl) hl' nx (acc ++ [tcX tab i n sl hl nx ⟨some d, .call { callee := .value (.func f), args := xs.toArray, argTypes := ts.toArray }, ty, pos, af, none⟩ (idsW (Zba kk (ZaC (.tup [g0, g2]))))]) K) : AF dr P tab ops i (⟨some d, .call { callee := .value (.func f), args := xs.toArray, argTypes := ts.toArray }, ty, pos, af, none⟩ :: os) n sl hl nx acc K := by
 cases hk.e
 refine ZdG (pv := .tup [p0, .undef, p2]) (ws := Zba (nx + 8 * i) (ZaC (.tup [g0, g2]))) rfl (Zbl hd) (.inr (.inr (Zu3 rfl rfl (ha.e n hl nx) (hg.e : Zbo (view (mkX n sl hl nx).heap 6) ps = some gs) hc hr.lf hr.l8 (fun j hj => ?_) hr.pv))) ?_
 ·rw [Zfa, Zcn]; exact hr.fr j hj
 ·rw [Zfa, Zbg, Ze5, hr.hl]; exact h4
theorem ZmV  {g : Nat} {b c : Bool}  (hd : (ops[g]?).bind (·.dst) = some t) (hs : SL sl t (.g (.bool c))) (hcb : (c == b) = true) (h : AF dr P tab ops i (⟨dst, op, ty, pos, af, none⟩ :: os) n sl hl nx acc K) : AF dr P tab ops i (⟨dst, op, ty, pos, af, some (g, b)⟩ :: os) n sl hl nx acc K := ZqG hd hs.e hcb h
theorem Zjt  {d : Nat} {g : Nat} {b c : Bool}  (hd : (ops[g]?).bind (·.dst) = some t) (hs : SL sl t (.g (.bool c))) (hcb : (c == b) = false) (h2 : RF (hasB d n = true)) (h : AF dr P tab ops (i + 1) os n ((d, .none_) :: sl) hl nx (acc ++ [([], [])]) K) : AF dr P tab ops i (⟨some d, op, ty, pos, af, some (g, b)⟩ :: os) n sl hl nx acc K := Znp hd hs.e hcb (Zbl h2) (by rw [Zot]; exact h)
theorem ZlZ  {d : Nat} {g : Nat} {b : Bool}  (hd : (ops[g]?).bind (·.dst) = some t) (hs : SL sl t .none_) (h2 : RF (hasB d n = true)) (h : AF dr P tab ops (i + 1) os n ((d, .none_) :: sl) hl nx (acc ++ [([], [])]) K) : AF dr P tab ops i (⟨some d, op, ty, pos, af, some (g, b)⟩ :: os) n sl hl nx acc K := Zmr hd hs.e (Zbl h2) (by rw [Zot]; exact h)
theorem Zqg  {g : Nat} {b c : Bool}  (hd : (ops[g]?).bind (·.dst) = some t) (hs : SL sl t (.g (.bool c))) (h1 : c = true → AF dr P tab ops i (⟨dst, op, ty, pos, af, some (g, b)⟩ :: os) n ((t, .g (.bool true)) :: sl) hl nx acc K) (h2 : c = false → AF dr P tab ops i (⟨dst, op, ty, pos, af, some (g, b)⟩ :: os) n ((t, .g (.bool false)) :: sl) hl nx acc K) : AF dr P tab ops i (⟨dst, op, ty, pos, af, some (g, b)⟩ :: os) n sl hl nx acc K :=
 ZqL hd hs.e (fun e => by rw [Zot]; exact h1 e) (fun e => by rw [Zot]; exact h2 e)
structure GD (dr : Bool) (P : Program) (tab : Tab) (ops : Array Oper) (i : Nat) (o : Oper) (os : List Oper) (n : Nat) (sl : List (Nat × PV)) (hl : List (Nat × Block)) (nx : Nat) (acc : List (List Nat × List Nat)) (K : AState → List (List Nat × List Nat) → Prop) (t : Nat) (p : PV) : Prop where
 e : SL sl t p → AF dr P tab ops i (o :: os) n sl hl nx acc K
theorem Zt0  {g : Nat} {b : Bool}  {p : PV} (hd : RF ((ops[g]?).bind (·.dst) = some t)) (hs : SL sl t p) (h : GD dr P tab ops i ⟨dst, op, ty, pos, af, some (g, b)⟩ os n sl hl nx acc K t p) : AF dr P tab ops i (⟨dst, op, ty, pos, af, some (g, b)⟩ :: os) n sl hl nx acc K := h.e hs
theorem Zyb  {g : Nat} (hd : RF ((ops[g]?).bind (·.dst) = some t)) (h : AF dr P tab ops i (⟨dst, op, ty, pos, af, none⟩ :: os) n sl hl nx acc K) : GD dr P tab ops i ⟨dst, op, ty, pos, af, some (g, true)⟩ os n sl hl nx acc K t (.g (.bool true)) := ⟨fun hs => ZmV hd.e hs rfl h⟩
theorem ZyA  {g : Nat} (hd : RF ((ops[g]?).bind (·.dst) = some t)) (h : AF dr P tab ops i (⟨dst, op, ty, pos, af, none⟩ :: os) n sl hl nx acc K) : GD dr P tab ops i ⟨dst, op, ty, pos, af, some (g, false)⟩ os n sl hl nx acc K t (.g (.bool false)) := ⟨fun hs => ZmV hd.e hs rfl h⟩
theorem Zyf  {d : Nat} {g : Nat} (hd : RF ((ops[g]?).bind (·.dst) = some t)) (h2 : RF (hasB d n = true)) (h : AF dr P tab ops (i + 1) os n ((d, .none_) :: sl) hl nx (acc ++ [([], [])]) K) : GD dr P tab ops i ⟨some d, op, ty, pos, af, some (g, false)⟩ os n sl hl nx acc K t (.g (.bool true)) := ⟨fun hs => Zjt hd.e hs rfl h2 h⟩
theorem Zy2  {d : Nat} {g : Nat} (hd : RF ((ops[g]?).bind (·.dst) = some t)) (h2 : RF (hasB d n = true)) (h : AF dr P tab ops (i + 1) os n ((d, .none_) :: sl) hl nx (acc ++ [([], [])]) K) : GD dr P tab ops i ⟨some d, op, ty, pos, af, some (g, true)⟩ os n sl hl nx acc K t (.g (.bool false)) := ⟨fun hs => Zjt hd.e hs rfl h2 h⟩
theorem Zu1  {d : Nat} {g : Nat} {b : Bool} (hd : RF ((ops[g]?).bind (·.dst) = some t)) (h2 : RF (hasB d n = true)) (h : AF dr P tab ops (i + 1) os n ((d, .none_) :: sl) hl nx (acc ++ [([], [])]) K) : GD dr P tab ops i ⟨some d, op, ty, pos, af, some (g, b)⟩ os n sl hl nx acc K t .none_ := ⟨fun hs => ZlZ hd.e hs h2 h⟩
theorem Zq5  {g : Nat} {b c : Bool} (hd : RF ((ops[g]?).bind (·.dst) = some t)) (h1 : c = true → AF dr P tab ops i (⟨dst, op, ty, pos, af, some (g, b)⟩ :: os) n ((t, .g (.bool true)) :: sl) hl nx acc K) (h2 : c = false → AF dr P tab ops i (⟨dst, op, ty, pos, af, some (g, b)⟩ :: os) n ((t, .g (.bool false)) :: sl) hl nx acc K) : GD dr P tab ops i ⟨dst, op, ty, pos, af, some (g, b)⟩ os n sl hl nx acc K t (.g (.bool c)) := ⟨fun hs => Zqg hd.e hs h1 h2⟩
end
end Go.Proofs.YtjjidamlmebaaaaGreat
namespace Go.Proofs.YtjjidamlmebaaaaGreat
open Go.RowKit
open Shp
variable {S S' : AState} {L ρ ks : List Nat} {sl' sl2 : List (Nat × PV)} {w : World} {id j n0 k t r0 r1 r2 r3 r4 r5 r6 r7 r8 m n2 : Nat} {ops : Array Oper} {acc : List (List Nat × List Nat)} {p v q : PV} {b : Bool} {ι α : Type} {xs ys gs : List GV} {ps vs cs cs' : List PV} {f : FuncId} {hl' : List (Nat × Block)} {b0 b1 b2 b3 b4 b5 b6 b7 b8 : Block} {rs : List ResultVar} {r : GV} {fn : Func}
theorem Rel.nx {w0 : W0} {S : AState} {a : Act} {w : World} (h : Rel w0 S a w) (k : Nat) : Rel w0 { S with nx := k } a w := by
 obtain ⟨μ, who, h⟩ := h
 exact ⟨μ, who, h.size, h.slot, h.dfr, h.blk, h.inj, h.base, h.keep, h.old⟩
theorem Zwu {n nx nx' : Nat} {sl : List (Nat × PV)} {hl : List (Nat × Block)} : Le (mkX n sl hl nx) (mkX n sl hl nx') := fun _ _ _ h => h.nx nx'
theorem Le.trans {S'' : AState} (h : Le S S') (h' : Le S' S'') : Le S S'' := fun w0 a w hr => h' w0 a w (h w0 a w hr)
theorem Zqe  (hn : S'.n = S.n) (hh : S'.heap = S.heap) (hs : ∀ t, S'.slots t = .undef ∨ S'.slots t = S.slots t) : Le S S' := by
 rintro w0 a w ⟨μ, who, h⟩
 refine ⟨μ, who, by rw [hn]; exact h.size, fun t => ?_, h.dfr, fun i => by rw [hh]; exact h.blk i, by rw [hh]; exact h.inj, by rw [hh]; exact h.base, h.keep, fun t x hp hx => (by
  rcases hs t with e | e
  ·rw [e] at hx; cases hx
  ·rw [e] at hx; exact h.old.1 t x (by rw [← hn]; exact hp) hx), fun t v hv ht => by rw [hn]; exact h.old.2 t v hv ht⟩
 rcases hs t with e | e
 ·rw [e]; exact .undef _
 ·rw [e, hh]; exact h.slot t
def TX (lv : Nat → List Nat) (P : Program) (tab : Tab) (c : Code) (n : Nat) (sl : List (Nat × PV)) (hl : List (Nat × Block)) (Q : Exit → AState → Prop) : Prop := T P c (mkX n sl hl 0) Q
theorem TX.run {lv : Nat → List Nat} {P : Program} {tab : Tab} {c : Code} {n : Nat} {sl : List (Nat × PV)} {hl : List (Nat × Block)} {Q : Exit → AState → Prop} (h : TX lv P tab c n sl hl Q) : T P c (mkX n sl hl 0) Q := h
def QA (Q : Exit → AState → Prop) (e : Exit) (n : Nat) (sl : List (Nat × PV)) (hl : List (Nat × Block)) : Prop := Q e (mkX n sl hl 0)
theorem QA.run {Q : Exit → AState → Prop} {e : Exit} {n : Nat} {sl : List (Nat × PV)} {hl : List (Nat × Block)} (h : QA Q e n sl hl) : Q e (mkX n sl hl 0) := h
def upQ (Q : Exit → AState → Prop) : Exit → AState → Prop := fun e S => ∃ S', Q e S' ∧ Le S S'
theorem ZwO {P : Program} {c : Code}  {Q : Exit → AState → Prop} (h : T P c S (upQ Q)) : T P c S Q := fun w0 a w hr => by
 refine wp_mono (h w0 a w hr) ?_
 rintro e a' w' ⟨S', ⟨S2, h1, h2⟩, h3⟩
 exact ⟨S2, h1, h2 _ _ _ h3⟩
def NK (L : List Nat) (Q : Exit → AState → Prop) (S : AState) : Prop := upQ Q .normal S
theorem NK.run  {Q : Exit → AState → Prop}  (h : NK L Q S) : upQ Q .normal S := h
theorem Zyd  {Q : Exit → AState → Prop} {n nx : Nat} {sl : List (Nat × PV)} {hl : List (Nat × Block)} (hs : Sel sl L sl') (h : QA Q .normal n sl' hl) : NK L Q (mkX n sl hl nx) :=
 ⟨_, h.run, Zqe (S := mkX n sl hl nx) (S' := mkX n sl' hl 0) rfl rfl hs.e⟩
section
variable {lv : Nat → List Nat} {P : Program} {tab : Tab} {n : Nat} {sl : List (Nat × PV)} {hl : List (Nat × Block)} {Q : Exit → AState → Prop} {x y c : Code}
theorem AW_K {ops : Array Oper} {K K' : AState → Prop} (hk : ∀ S, K S → K' S) : ∀ {os : List Oper} {i : Nat} {S : AState}, AW P tab ops i os S K → AW P tab ops i os S K'
 | [], _, _, h => hk _ h
 | o :: os, i, S, h => by
  obtain ⟨b, h1, h2, h3, h4⟩ := h
  refine ⟨b, h1, h2, fun hb => ?_, fun hb => AW_K hk (h4 hb)⟩
  obtain ⟨pv, ws, h5, h6⟩ := h3 hb
  exact ⟨pv, ws, h5, AW_K hk h6⟩
theorem AD_K {ops : Array Oper} {K K' : AState → List (List Nat × List Nat) → Prop} (hk : ∀ S tw, K S tw → K' S tw) : ∀ {os : List Oper} {i : Nat} {S : AState} {acc : List (List Nat × List Nat)}, AD P tab ops i os S acc K → AD P tab ops i os S acc K'
 | [], _, _, _, h => hk _ _ h
 | o :: os, i, S, acc, h => by
  obtain ⟨b, h1, h2, h3, h4⟩ := h
  refine ⟨b, h1, h2, fun hb => ?_, fun hb => AD_K hk (h4 hb)⟩
  obtain ⟨pv, ws, h5, h6⟩ := h3 hb
  exact ⟨pv, ws, h5, AD_K hk h6⟩
theorem NK.on {L : List Nat} {S : AState} (h : NK L Q S) : upQ Q .normal (S.on 512) := by
 obtain ⟨S', h1, h2⟩ := h.run
 refine ⟨S', h1, fun w0 a w hr => h2 _ _ _ ?_⟩
 obtain ⟨μ, who, h⟩ := hr
 exact ⟨μ, who, h.size, h.slot, h.dfr, h.blk, h.inj, h.base, h.keep, h.old⟩
theorem Zxg (ht : TabOk P tab)  {l : List Oper}  (hL : RF (lv id = L)) (h : AF false P tab l.toArray 0 l n sl hl (4096 * id + 4096) [] (fun S' _ => NK L Q S')) : TX lv P tab (.region id l.toArray false) n sl hl Q :=
 (ZwO (T.le Zwu (Zp3 ht 512 (AW_K (fun S hS => NK.on hS) h.run))))
theorem Zxj (ht : TabOk P tab) (hm : P.follows .mixedOrders = true)  {l : List Oper}  (hL : RF (lv id = L)) (h : AF true P tab l.toArray 0 l n sl hl (4096 * id + 4096) [] (fun S' tw => ordB l tw = true ∧ NK L Q S')) : TX lv P tab (.region id l.toArray true) n sl hl Q :=
 (ZwO (T.le Zwu (Zs2 ht 512 hm (AD_K (fun S tw hS => ⟨hS.1, NK.on hS.2⟩) h.run))))
theorem ZuK  {i nx : Nat} {l : List Oper}   (h : NK L Q (mkX n sl hl nx)) (ho : ordB l acc = true) : AF true P tab ops i [] n sl hl nx acc (fun S' tw => ordB l tw = true ∧ NK L Q S') := ⟨ho, h⟩
theorem ZuX  {i nx : Nat}   (h : NK L Q (mkX n sl hl nx)) : AF false P tab ops i [] n sl hl nx acc (fun S' _ => NK L Q S') := ⟨h⟩
def andX (lv : Nat → List Nat) (P : Program) (tab : Tab) (c : Code) (Q : Exit → AState → Prop) : Exit → AState → Prop
 | .normal, S => ∃ n sl hl, S = mkX n sl hl 0 ∧ TX lv P tab c n sl hl Q
 | e, S => Q e S
theorem Zaj (h : TX lv P tab x n sl hl (andX lv P tab y Q)) : TX lv P tab (.seq x y) n sl hl Q := ZyN (h.run.mono fun e S h => by
 cases e with
 | normal => obtain ⟨n, sl, hl, rfl, h⟩ := h; exact h.run
 | _ => exact h)
theorem Zrs  (h : TX lv P tab c n sl hl (inT id Q)) : TX lv P tab (.block id c) n sl hl Q := Zoq h.run
def Zti : Code → Bool
 | .loop _ => false
 | _ => true
theorem ZaB  (hn : RF (Zti c = true)) (h : TX lv P tab c n sl hl (inT id Q)) : TX lv P tab (.block id c) n sl hl Q := Zrs h
theorem Zak (h : QA Q .normal n sl hl) : TX lv P tab .skip n sl hl Q := ZvN h.run
theorem Zai (h : QA Q .ret n sl hl) : TX lv P tab .ret n sl hl Q := ZyR h.run
theorem Zas  (h : QA Q (.exit id) n sl hl) : TX lv P tab (.exit id) n sl hl Q := Zwc h.run
structure CK' (lv : Nat → List Nat) (P : Program) (tab : Tab) (x y : Code) (n : Nat) (sl : List (Nat × PV)) (hl : List (Nat × Block)) (Q : Exit → AState → Prop) (p : PV) : Prop where
 e : ∃ b, p = .g (.bool b) ∧ (b = true → TX lv P tab x n sl hl Q) ∧ (b = false → TX lv P tab y n sl hl Q)
def CK (lv : Nat → List Nat) (P : Program) (tab : Tab) (x y : Code) (n : Nat) (sl : List (Nat × PV)) (hl : List (Nat × Block)) (Q : Exit → AState → Prop) (p : PV) : Prop := CK' lv P tab x y n sl hl Q p
theorem CK.mk {lv : Nat → List Nat} {P : Program} {tab : Tab} {x y : Code} {n : Nat} {sl : List (Nat × PV)} {hl : List (Nat × Block)} {Q : Exit → AState → Prop}  (h : CK' lv P tab x y n sl hl Q p) : CK lv P tab x y n sl hl Q p := h
theorem CK.e {lv : Nat → List Nat} {P : Program} {tab : Tab} {x y : Code} {n : Nat} {sl : List (Nat × PV)} {hl : List (Nat × Block)} {Q : Exit → AState → Prop} {p : PV} (h : CK lv P tab x y n sl hl Q p) : ∃ b, p = .g (.bool b) ∧ (b = true → TX lv P tab x n sl hl Q) ∧ (b = false → TX lv P tab y n sl hl Q) := @CK'.e _ _ _ _ _ _ _ _ _ _ h
theorem ZsL {o : Operand}  (hb : EV sl tab 0 o p) (h : CK lv P tab x y n sl hl Q p) : TX lv P tab (.cond o x y) n sl hl Q := by
 obtain ⟨b, rfl, h1, h2⟩ := h.e
 exact Zxl (hb.e _ _ _) (fun e => (h1 e).run) (fun e => (h2 e).run)
theorem CK_t (h : TX lv P tab x n sl hl Q) : CK lv P tab x y n sl hl Q (.g (.bool true)) := CK.mk ⟨_, rfl, fun _ => h, fun e => by cases e⟩
theorem CK_f (h : TX lv P tab y n sl hl Q) : CK lv P tab x y n sl hl Q (.g (.bool false)) := CK.mk ⟨_, rfl, (fun e => by cases e), fun _ => h⟩
theorem ZaG  (h1 : b = true → TX lv P tab x n sl hl Q) (h2 : b = false → TX lv P tab y n sl hl Q) : CK lv P tab x y n sl hl Q (.g (.bool b)) := CK.mk ⟨_, rfl, h1, h2⟩
theorem Zae (h : TX lv P tab c n sl hl Q) : QA (andX lv P tab c Q) .normal n sl hl := ⟨_, _, _, rfl, h⟩
theorem Zam  (h : QA Q (.exit id) n sl hl) : QA (andX lv P tab c Q) (.exit id) n sl hl := h.run
theorem Zar (h : QA Q .ret n sl hl) : QA (andX lv P tab c Q) .ret n sl hl := h.run
theorem Zal  (h : QA Q .normal n sl hl) : QA (inT id Q) (.exit id) n sl hl := Zx0 h.run
theorem Zau  (h : QA Q .normal n sl hl) : QA (inT id Q) .normal n sl hl := Zyy h.run
theorem ZaO  (h : QA Q .ret n sl hl) : QA (inT id Q) .ret n sl hl := Zyu h.run
structure HD where
 sl : List (Nat × PV)
 hl : List (Nat × Block)
def LX (n : Nat) (sl : List (Nat × PV)) (hl : List (Nat × Block)) (H : HD) : Prop := Le (mkX n sl hl 0) (mkX n H.sl H.hl 0)
theorem LX.le {n : Nat} {sl : List (Nat × PV)} {hl : List (Nat × Block)} {H : HD} (h : LX n sl hl H) : Le (mkX n sl hl 0) (mkX n H.sl H.hl 0) := h
def Zre {ι : Type} (n0 : Nat) (I : ι → HD) (ok : ι → Prop) (m : ι → Nat) (i : ι) (Q : Exit → AState → Prop) : Exit → AState → Prop
 | .normal, S' => ∃ j, ok j ∧ m j < m i ∧ Le S' (mkX n0 (I j).sl (I j).hl 0)
 | e, S' => Q e S'
theorem Zah  (I : ι → HD) (ok : ι → Prop) (m : ι → Nat) (i0 : ι) (h0 : LX n sl hl (I i0)) (k0 : ok i0) (round : ∀ i, ok i → TX lv P tab c n (I i).sl (I i).hl (Zre n I ok m i (inT id Q))) : TX lv P tab (.block id (.loop c)) n sl hl Q :=
 (Zoq (ZwX (fun i => mkX n (I i).sl (I i).hl 0) ok m i0 h0.le k0 fun i k => (round i k).run.mono fun e S h => by cases e <;> exact h))
theorem Zat  {I : ι → HD} {ok : ι → Prop} {m : ι → Nat} {i : ι}  (h : QA Q (.exit id) n sl hl) : QA (Zre n0 I ok m i Q) (.exit id) n sl hl := h.run
theorem ZaR  {I : ι → HD} {ok : ι → Prop} {m : ι → Nat} {i : ι} (h : QA Q .ret n sl hl) : QA (Zre n0 I ok m i Q) .ret n sl hl := h.run
theorem ZaA  {I : ι → HD} {ok : ι → Prop} {m : ι → Nat} {i : ι} (j : ι) (h3 : LX n sl hl (I j)) (h1 : ok j) (h2 : m j < m i) : QA (Zre n I ok m i Q) .normal n sl hl := ⟨j, h1, h2, h3.le⟩
def EQ {α : Type} (a b : α) : Prop := a = b
theorem EQ.mk  {a b : α} (h : a = b) : EQ a b := h
theorem EQ.e  {a b : α} (h : EQ a b) : a = b := h
theorem Zad {k : IntKind} {a b : Int} (h : EQ a b) : EQ (GV.int k a) (.int k b) := EQ.mk (by rw [h.e])
theorem Zax {a : Bool} (h : a = b) : EQ (GV.bool a) (.bool b) := EQ.mk (by rw [h])
theorem Za1 {e : Nat}  (h : EQ xs ys) : EQ (GV.sl e xs) (.sl e ys) := EQ.mk (by rw [h.e])
theorem Zap  {f : α → GV} {xs ys : List α} (h : EQ xs ys) : EQ (xs.map f) (ys.map f) := EQ.mk (by rw [h.e])
theorem ZbT  (h : EQ xs ys) : EQ (GV.agg xs) (.agg ys) := EQ.mk (by rw [h.e])
theorem ZbK  (h : EQ xs ys) : EQ (GV.tup xs) (.tup ys) := EQ.mk (by rw [h.e])
theorem ZaP {x y : GV}  (h : EQ x y) (h2 : EQ xs ys) : EQ (x :: xs) (y :: ys) := EQ.mk (by rw [h.e, h2.e])
def HY (p : Prop) : Prop := p
theorem HY.mk {p : Prop} (h : p) : HY p := h
theorem HY.e {p : Prop} (h : HY p) : p := h
structure RN (ρ : List Nat) (p v : PV) : Prop where
 e : ρ.Nodup → v = ren0 ρ p ∧ v = ren1 ρ p
theorem Zo1  (hn : ρ.Nodup)  (h : ρ[j]? = some id) : ρ.idxOf? id = some j := by
 obtain ⟨hj, h1⟩ := List.getElem?_eq_some_iff.1 h
 cases hx : ρ.idxOf? id with
 | none => exact absurd (h1 ▸ List.getElem_mem hj) (List.idxOf?_eq_none_iff.1 hx)
 | some k =>
  obtain ⟨hk, h2⟩ := List.getElem?_eq_some_iff.1 (ZhE hx)
  rw [Zeu hn hk hj (h2.trans h1.symm)]
theorem RN_g  {a b : GV} (h : EQ a b) : RN ρ (.g a) (.g b) := ⟨fun _ => by cases h.e; exact ⟨rfl, rfl⟩⟩
theorem Zsj : RN ρ .none_ .none_ := ⟨fun _ => ⟨rfl, rfl⟩⟩
theorem Zud  (e : Nat) : RN ρ (.nils e) (.nils e) := ⟨fun _ => ⟨rfl, rfl⟩⟩
theorem ZsX  (cs : List GV) : RN ρ (.iptr cs) (.iptr cs) := ⟨fun _ => ⟨rfl, rfl⟩⟩
theorem ZxM  {lo lo' len len' : Nat} (h : RF (ρ[j]? = some id)) (h1 : EQ lo lo') (h2 : EQ len len') : RN ρ (.own id lo len) (.own j lo' len') := ⟨fun hn => by
 cases h1.e; cases h2.e
 simp only [ren1, ren0, Zo1 hn h.e, and_self]⟩
theorem ZxL  {o : Nat} (h : RF (ρ[j]? = some id)) : RN ρ (.ptr id o) (.ptr j o) := ⟨fun hn => by
 simp only [ren1, ren0, Zo1 hn h.e, and_self]⟩
theorem Zs1  {k' i : Nat} (h : RF (ρ[j]? = some id)) (h1 : EQ k k') : RN ρ (.eptr id k i) (.eptr j k' i) := ⟨fun hn => by
 cases h1.e
 simp only [ren1, ren0, Zo1 hn h.e, and_self]⟩
structure RV (ρ : List Nat) (p v : PV) : Prop where
 e : ρ.Nodup → v = ren1 ρ p
theorem RV_0  (h : RN ρ p v) : RV ρ p v := ⟨fun hn => (h.e hn).2⟩
structure RNL (ρ : List Nat) (ps vs : List PV) : Prop where
 e : ρ.Nodup → vs = ps.map (ren0 ρ)
theorem Zun : RNL ρ [] [] := ⟨fun _ => rfl⟩
theorem ZrK  (h : RN ρ p v) (h2 : RNL ρ ps vs) : RNL ρ (p :: ps) (v :: vs) := ⟨fun hn => by rw [List.map_cons, ← (h.e hn).1, ← h2.e hn]⟩
theorem ZvE  (h : RNL ρ ps vs) : RV ρ (.agg ps) (.agg vs) := ⟨fun hn => by simp only [ren1, ← h.e hn]⟩
theorem Zya  (h : RNL ρ ps vs) : RV ρ (.fn f ps) (.fn f vs) := ⟨fun hn => by simp only [ren1, ← h.e hn]⟩
structure RVL (ρ : List Nat) (ps vs : List PV) : Prop where
 e : ρ.Nodup → vs = ps.map (ren1 ρ)
theorem ZsE : RVL ρ [] [] := ⟨fun _ => rfl⟩
theorem Zqs  (h : RV ρ p v) (h2 : RVL ρ ps vs) : RVL ρ (p :: ps) (v :: vs) := ⟨fun hn => by rw [List.map_cons, ← h.e hn, ← h2.e hn]⟩
structure RB (ρ : List Nat) (b b' : Block) : Prop where
 e : ρ.Nodup → b' = renB ρ b
 l : b.live = true
theorem ZxT  {e : Nat} {dp : Bool}  (h : EQ xs ys) : RB ρ (.arr e dp xs) (.arr e dp ys) := ⟨fun _ => by cases h.e; rfl, rfl⟩
theorem Zv8  (h : RVL ρ cs cs') : RB ρ (.box cs) (.box cs') := ⟨fun hn => by simp only [renB, ← h.e hn], rfl⟩
theorem Zw9  {N : Nat} : RB ρ (.lim N) (.lim N) := ⟨fun _ => rfl, rfl⟩
structure HS (ρ : List Nat) (sl sl' : List (Nat × PV)) : Prop where
 e : ρ.Nodup → ∀ t, Zbs sl' t = .undef ∨ Zbs sl' t = ren1 ρ (Zbs sl t)
theorem ZvD  (sl : List (Nat × PV)) : HS ρ sl [] := ⟨fun _ _ => .inl rfl⟩
theorem Ztu  {sl : List (Nat × PV)} (h1 : SL sl t p) (h2 : RV ρ p v) (h3 : HS ρ sl sl') : HS ρ sl ((t, v) :: sl') := ⟨fun hn s => by
 by_cases e : s = t
 ·subst e; right; rw [h1.e]; simp only [Zbs, if_true]; exact h2.e hn
 ·simpa [Zbs, e] using h3.e hn s⟩
structure HB (ρ : List Nat) (hl : List (Nat × Block)) (is : List Nat) (k : Nat) (hl' : List (Nat × Block)) : Prop where
 e : ρ.Nodup → ∀ j, ZaH hl' (k + j) = match is[j]? with | some i => renB ρ (ZaH hl i) | none => .free
 lo : ∀ j, j < k → ZaH hl' j = .free
 l : ∀ i ∈ is, (ZaH hl i).live = true
theorem ZrU  (hl : List (Nat × Block)) (k : Nat) : HB ρ hl [] k [] := ⟨fun _ _ => by simp [ZaH], fun _ _ => rfl, by simp⟩
theorem Zsd {is : List Nat} {i : Nat} {B B' : Block} {hl : List (Nat × Block)} (h1 : HL hl i B) (h2 : RB ρ B B') (h3 : HB ρ hl is (k + 1) hl') : HB ρ hl (i :: is) k ((k, B') :: hl') := ⟨fun hn j => by
 cases j with
 | zero => simp only [Nat.add_zero, ZaH, if_true, List.getElem?_cons_zero]; rw [h1.e]; exact h2.e hn
 | succ j =>
  have := h3.e hn j
  rw [show k + 1 + j = k + (j + 1) by omega] at this
  simp only [ZaH, List.getElem?_cons_succ]
  rw [if_neg (by omega)]; exact this, fun j hj => by
  have := h3.lo j (by omega)
  simp only [ZaH]; rw [if_neg (by omega)]; exact this, fun x hx => by
  rcases List.mem_cons.1 hx with rfl | hx
  ·rw [h1.e]; exact h2.l
  ·exact h3.l x hx⟩
theorem Zkp  (hs : HS ρ sl sl') (hb : HB ρ hl ρ 0 hl') (hn : RF (ρ.Nodup)) : LX n sl hl ⟨sl', hl'⟩ :=
 (ZuU ρ hn.e rfl (fun i hi => hb.l i hi) (fun j => by have := hb.e hn.e j; rw [Nat.zero_add] at this; exact this) (fun t => hs.e hn.e t))
theorem LX0  (hs : HS [] sl sl') : LX n sl hl ⟨sl', []⟩ := Zkp hs (ZrU _ _) (RF.mk (by simp))
theorem LX1  (hs : HS [r0] sl sl') (hb : HB [r0] hl [r0] 0 [(0, b0)]) : LX n sl hl ⟨sl', [(0, b0)]⟩ := Zkp hs hb (RF.mk (by simp))
theorem LX2  (hs : HS [r0, r1] sl sl') (hb : HB [r0, r1] hl [r0, r1] 0 [(0, b0), (1, b1)]) (hn : RF ([r0, r1].Nodup)) : LX n sl hl ⟨sl', [(0, b0), (1, b1)]⟩ := Zkp hs hb hn
theorem LX3  (hs : HS [r0, r1, r2] sl sl') (hb : HB [r0, r1, r2] hl [r0, r1, r2] 0 [(0, b0), (1, b1), (2, b2)]) (hn : RF ([r0, r1, r2].Nodup)) : LX n sl hl ⟨sl', [(0, b0), (1, b1), (2, b2)]⟩ := Zkp hs hb hn
theorem LX4  (hs : HS [r0, r1, r2, r3] sl sl') (hb : HB [r0, r1, r2, r3] hl [r0, r1, r2, r3] 0 [(0, b0), (1, b1), (2, b2), (3, b3)]) (hn : RF ([r0, r1, r2, r3].Nodup)) : LX n sl hl ⟨sl', [(0, b0), (1, b1), (2, b2), (3, b3)]⟩ := Zkp hs hb hn
theorem LX5  (hs : HS [r0, r1, r2, r3, r4] sl sl') (hb : HB [r0, r1, r2, r3, r4] hl [r0, r1, r2, r3, r4] 0 [(0, b0), (1, b1), (2, b2), (3, b3), (4, b4)]) (hn : RF ([r0, r1, r2, r3, r4].Nodup)) : LX n sl hl ⟨sl', [(0, b0), (1, b1), (2, b2), (3, b3), (4, b4)]⟩ := Zkp hs hb hn
theorem LX6  (hs : HS [r0, r1, r2, r3, r4, r5] sl sl') (hb : HB [r0, r1, r2, r3, r4, r5] hl [r0, r1, r2, r3, r4, r5] 0 [(0, b0), (1, b1), (2, b2), (3, b3), (4, b4), (5, b5)]) (hn : RF ([r0, r1, r2, r3, r4, r5].Nodup)) : LX n sl hl ⟨sl', [(0, b0), (1, b1), (2, b2), (3, b3), (4, b4), (5, b5)]⟩ := Zkp hs hb hn
theorem LX7  (hs : HS [r0, r1, r2, r3, r4, r5, r6] sl sl') (hb : HB [r0, r1, r2, r3, r4, r5, r6] hl [r0, r1, r2, r3, r4, r5, r6] 0 [(0, b0), (1, b1), (2, b2), (3, b3), (4, b4), (5, b5), (6, b6)]) (hn : RF ([r0, r1, r2, r3, r4, r5, r6].Nodup)) : LX n sl hl ⟨sl', [(0, b0), (1, b1), (2, b2), (3, b3), (4, b4), (5, b5), (6, b6)]⟩ := Zkp hs hb hn
theorem LX10 {r9 : Nat} {b9 : Block}  (hs : HS [r0, r1, r2, r3, r4, r5, r6, r7, r8, r9] sl sl') (hb : HB [r0, r1, r2, r3, r4, r5, r6, r7, r8, r9] hl [r0, r1, r2, r3, r4, r5, r6, r7, r8, r9] 0 [(0, b0), (1, b1), (2, b2), (3, b3), (4, b4), (5, b5), (6, b6), (7, b7), (8, b8), (9, b9)]) (hn : RF ([r0, r1, r2, r3, r4, r5, r6, r7, r8, r9].Nodup)) : LX n sl hl ⟨sl', [(0, b0), (1, b1), (2, b2), (3, b3), (4, b4), (5, b5), (6, b6), (7, b7), (8, b8), (9, b9)]⟩ := Zkp hs hb hn
theorem Zoj  {c nid e : Nat}  (hb : S.heap id = .box cs) (hc : cs[c]? = some (.nils e)) (hf : S.heap nid = .free) : Le S ((S.write nid (.arr e true [])).write id (.box (cs.set c (.own nid 0 0)))) := by
 rintro w0 a w ⟨μ, who, h⟩
 obtain ⟨hlt, hce⟩ := List.getElem?_eq_some_iff.1 hc
 have hB := h.blk id
 rw [hb] at hB
 obtain ⟨b, vs, t, h1, h2, h3, h4, h5⟩ := hB
 have h6 := h5 c hlt
 rw [hce] at h6
 obtain ⟨hv, he⟩ := h6.nils_inv
 obtain ⟨μ', r1, p1⟩ := h.newNil hf (Keeps.refl [] w) he true none
 have hne : id ≠ nid := by intro q; subst q; rw [hb] at hf; cases hf
 have hb' : (S.write nid (.arr e true [])).heap id = .box cs := by simp only [AState.write]; rw [Zay _ _ _ hne]; exact hb
 have hB' := r1.blk id
 rw [hb'] at hB'
 obtain ⟨b', vs', t', g1, g2, g3, g4, g5⟩ := hB'
 refine ⟨μ', who, r1.mod (id := id) (b := b') (d := 0) (B := .box (cs.set c (.own nid 0 0))) (by rw [hb']; rfl) g1 (Keeps.refl _ _) (t := ⟨_, false⟩) (t' := ⟨_, false⟩) g2 g2 rfl rfl (by simp) (by simp [hb']) (fun hm => ⟨b', vs', t', g1, g2, by simpa using g3, g4, fun i hi => ?_⟩)⟩
 have hi' : i < cs.length := by simpa using hi
 by_cases e1 : i = c
 ·subst e1
  have h7 := g5 i hi'
  rw [hce] at h7
  rw [h7.nils_inv.1, List.getElem_set_self]
  exact p1.move hm
 ·rw [List.getElem_set_ne (fun q => e1 q.symm)]
  exact (g5 i hi').move hm
theorem ZvW {i c e : Nat}  {H : HD} (hs : SL sl t (.ptr i 0)) (hb : HL hl i (.box cs)) (hc : RF (cs[c]? = some (.nils e))) (hf : HL hl k .free) (hc' : RF (cs.set c (.own k 0 0) = cs')) (h : LX n sl ((i, .box cs') :: (k, .arr e true []) :: hl) H) : LX n sl hl H := by
 cases hc'.e
 intro w0 a w hr
 refine h w0 a w ?_
 have := Zoj (S := mkX n sl hl 0) (hb.e : (mkX n sl hl 0).heap i = _) hc.e (hf.e : (mkX n sl hl 0).heap k = _) w0 a w hr
 have e1 : ((mkX n sl hl 0).write k (.arr e true [])).write i (.box (cs.set c (.own k 0 0))) = mkX n sl ((i, .box (cs.set c (.own k 0 0))) :: (k, .arr e true []) :: hl) 0 := by
  have := Zbg (n := n) (sl := sl) (nx := 0) [(k, .arr e true []), (i, .box (cs.set c (.own k 0 0)))] hl
  exact this
 rw [← e1]; exact this
structure RL (tab : Tab) (sl : List (Nat × PV)) (hl : List (Nat × Block)) (rs : List ResultVar) (ps : List PV) : Prop where
 e : ∀ n, resL tab (mkX n sl hl 0) rs = some ps
theorem Zv0 (sl : List (Nat × PV)) (hl : List (Nat × Block)) : RL tab sl hl [] [] := ⟨fun _ => rfl⟩
theorem ZxR  (h1 : SL sl t p) (h2 : RL tab sl hl rs ps) : RL tab sl hl (.tmp t :: rs) (p :: ps) := ⟨fun n => ZvX h1.e (h2.e n)⟩
theorem Zur {a : Nat} {t : TypeId}    (h1 : SL sl a q) (h3 : LD tab hl t q p) (h2 : RL tab sl hl rs ps) : RL tab sl hl (.cell a t :: rs) (p :: ps) := ⟨fun n => Zup h1.e h3.e (h2.e n)⟩
theorem Zy6 {r0 : ResultVar}  {x : GV}  (h1 : RL tab sl hl [r0] [p]) (h2 : AE hl p x ks true) (h3 : RF (x.isTup = false)) (h4 : EQ x r) : QA (EndR tab [r0] r) .ret n sl hl := Zr8 (out1 (h1.e n) h2.e h3.e h4.e)
theorem ZyK {r0 r1 : ResultVar}       (h1 : RL tab sl hl (r0 :: r1 :: rs) (p :: q :: ps)) (h2 : AEL hl (p :: q :: ps) gs ks true) (h4 : EQ (.tup gs) r) : QA (EndR tab (r0 :: r1 :: rs) r) .ret n sl hl := Zr8 (outN (h1.e n) h2.e h4.e)
structure SG (gs : List GV) (k : Nat) (sl : List (Nat × PV)) : Prop where
 e : ∀ t, Zbs sl t = .undef ∨ ∃ x, (t - k < gs.length ∧ k ≤ t) ∧ gs[t - k]? = some x ∧ Zbs sl t = .g x
theorem Zvy (k : Nat) : SG [] k [] := ⟨fun _ => .inl rfl⟩
theorem Ztq {g : GV}   {sl : List (Nat × PV)} (h : SG gs (k + 1) sl) : SG (g :: gs) k ((k, .g g) :: sl) := ⟨fun t => by
 by_cases e : t = k
 ·subst e; exact .inr ⟨g, by simp, by simp, by simp [Zbs]⟩
 ·rcases h.e t with h1 | ⟨x, h1, h2, h3⟩
  ·left; simp [Zbs, e, h1]
  ·right
   refine ⟨x, by simp; omega, ?_, by simp [Zbs, e, h3]⟩
   rw [show t - k = (t - (k + 1)) + 1 by omega]; simpa using h2⟩
theorem Zpa (lv : Nat → List Nat) (ht : TabOk P tab)   {c : Code}     {sl : List (Nat × PV)} (hf : P.funcs[f]? = some fn) (hb : fn.body = some c) (hn : fn.ntmps = m) (hrs : fn.results.toList = rs) (he : ∀ args w, (callFunc f args).run P w = .ok (.enter f args) w) (hl : (Nat.ble gs.length m && Nat.blt m 65536) = true)
  (hs : SG gs 0 sl) (h : TX lv P tab c m sl [] (EndR tab rs r)) : Con P f gs r := by
 rw [Bool.and_eq_true] at hl
 have hm : m < 65536 := Nat.le_of_ble_eq_true hl.2
 refine Zo6 ht hf hb hn hrs he (Nat.le_of_ble_eq_true hl.1) hm (T.le ?_ h.run)
 rintro w0 a w ⟨μ, who, h⟩
 refine ⟨μ, who, h.size, fun t => ?_, h.dfr, fun i => h.blk i, fun i j b d d' hi => by simp [mkX, ZaH, Block.live] at hi, fun i b d hi => by simp [mkX, ZaH, Block.live] at hi, h.keep, fun t x hp => (by rw [show pinned (mkX m sl [] 0).n t = false from ZdB hm t] at hp; cases hp), fun t v hv ht => h.old.2 t v hv ht⟩
 rcases hs.e t with e | ⟨x, h1, h2, h3⟩
 ·have : (mkX m sl [] 0).slots t = .undef := e
  rw [this]; exact .undef _
 ·have h4 : (mkX m sl [] 0).slots t = .g x := h3
  have h5 := h.slot t
  simp only [Zc2, Nat.sub_zero] at h5 h2
  rw [h2] at h5
  rw [h4]; exact h5
end
theorem Gives.base {w1 w2 : World}  {e : Ending} (hk : Keeps [] w w1) (h : Gives w1 r e w2) : Gives w r e w2 := by
 obtain ⟨v, F, h1, h2, h3, h4, h5, h6⟩ := h
 exact ⟨v, F, h1, h2, h3, h4, fun b hb => ⟨Nat.le_trans hk.size (h5 b hb).1, (h5 b hb).2⟩, hk.trans h6⟩
def p0 (v : Value) : Nat → Option Value := fun t => if t = 0 then some v else none
theorem Con.unex {P : Program}  {e : Nat}   (he : ∀ args w, (callFunc f args).run P w = .ok (.enter f args) w) (h : ∀ v, Con P f [.ex v e xs] r) : Con P f [.sl e xs] r :=
 ⟨he, fun w args hl hg => by
  obtain ⟨F, h0⟩ := hg 0 (by simp)
  refine (h (args[0]'(by rw [hl]; simp))).calls w args hl fun i hi => ?_
  have : i = 0 := by simpa using hi
  subst this
  exact ⟨F, .ex _ _ _ F h0⟩⟩
end Go.Proofs.YtjjidamlmebaaaaGreat

