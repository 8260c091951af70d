/- The judgements of a walk as inductive predicates, and that they are right. Over any program; no conditions. -/
import Derived.Test.YtjjidamlmebaaaaGreatKF
import Derived.Test.YtjjidamlmebaaaaGreatST
namespace Go.Proofs.YtjjidamlmebaaaaGreat
open Go.RowKit
open Shp
inductive gSL  : (List (Nat × PV)) → (Nat) → (PV) → Prop where
 | csame (sl : List (Nat × PV)) (t : Nat) (v : PV) : gSL ((t, v) :: sl) t v
 | cne {sl : List (Nat × PV)} {t : Nat} {d : Nat} {v : PV} {u : PV} (h : NE t d) (h2 : gSL sl t u) : gSL ((d, v) :: sl) t u
theorem gSL.s {sl : List (Nat × PV)} {t : Nat} {v : PV} (h : gSL sl t v) : SL sl t v := by
 induction h
 ·apply ZtW <;> (first | assumption)
 ·apply Zyr <;> (first | assumption)
inductive gHL  : (List (Nat × Block)) → (Nat) → (Block) → Prop where
 | csame (hl : List (Nat × Block)) (j : Nat) (b : Block) : gHL ((j, b) :: hl) j b
 | cne {hl : List (Nat × Block)} {d : Nat} {j : Nat} {B : Block} {B' : Block} (h : NE j d) (h2 : gHL hl j B) : gHL ((d, B') :: hl) j B
 | cnil (j : Nat) : gHL [] j .free
 | cdeadN {hl : List (Nat × Block)} {j : Nat} {B : Block} (h : gHL hl j B) : gHL (Zbe [] hl) j B
 | cdeadC {hl : List (Nat × Block)} {k j : Nat} {ks : List Nat} {B : Block} (h : gHL (Zbe ks ((k, .dead) :: hl)) j B) : gHL (Zbe (k :: ks) hl) j B
 | cdeadA {hl : List (Nat × Block)} {j : Nat} {ws vs : List Nat} {B : Block} (h : gHL (Zbe vs (Zbe ws hl)) j B) : gHL (Zbe (ws ++ vs) hl) j B
theorem gHL.s {hl : List (Nat × Block)} {j : Nat} {b : Block} (h : gHL hl j b) : HL hl j b := by
 induction h
 ·apply ZuF <;> (first | assumption)
 ·apply ZyM <;> (first | assumption)
 ·apply Zxs <;> (first | assumption)
 ·apply Zp4 <;> (first | assumption)
 ·apply ZqE <;> (first | assumption)
 ·apply Zp8 <;> (first | assumption)
inductive gEV  : (List (Nat × PV)) → (Tab) → (TypeId) → (Operand) → (PV) → Prop where
 | ctmp {sl : List (Nat × PV)} {t : Nat} {u : PV} {tab : Tab} {ty : TypeId} (h : gSL sl t u) : gEV sl tab ty (.tmp t) u
 | cint (sl : List (Nat × PV)) (tab : Tab) (ty : TypeId) (k : IntKind) (n : Int) : gEV sl tab ty (.const (.int k n)) (.g (.int k n))
 | cbool (sl : List (Nat × PV)) (tab : Tab) (ty : TypeId) (b : Bool) : gEV sl tab ty (.const (.bool b)) (.g (.bool b))
 | cstr (sl : List (Nat × PV)) (tab : Tab) (ty : TypeId) (s : ByteArray) : gEV sl tab ty (.const (.string s)) (.g (.str s))
 | cnilp (sl : List (Nat × PV)) (tab : Tab) (ty : TypeId) : gEV sl tab ty (.const (.pointer none)) (.g .nilp)
 | cfunc (sl : List (Nat × PV)) (tab : Tab) (ty : TypeId) (f : FuncId) : gEV sl tab ty (.func f) (.fn f [])
 | cglob {sl : List (Nat × PV)} {tab : Tab} {ty : TypeId} {cs : List GV} (h : gSL sl 65536 (.glob 0 cs)) : gEV sl tab ty (.global 0) (.g (.box cs))
 | cnil {sl : List (Nat × PV)} {tab : Tab} {ty : TypeId} {E e : Nat} (h1 : RF (ZbO tab ty = some (E, e + 1))) : gEV sl tab ty (.const (.slice none 0 0)) (.nils (e + 1))
theorem gEV.s {sl : List (Nat × PV)} {tab : Tab} {ty : TypeId} {x : Operand} {v : PV} (h : gEV sl tab ty x v) : EV sl tab ty x v := by
 induction h
 ·apply Zwr <;> (first | assumption | exact gSL.s (by assumption))
 ·apply Zxq <;> (first | assumption | exact gSL.s (by assumption))
 ·apply Zul <;> (first | assumption | exact gSL.s (by assumption))
 ·apply ZvU <;> (first | assumption | exact gSL.s (by assumption))
 ·apply Ztc <;> (first | assumption | exact gSL.s (by assumption))
 ·apply ZsJ <;> (first | assumption | exact gSL.s (by assumption))
 ·apply Ztv <;> (first | assumption | exact gSL.s (by assumption))
 ·apply Zvf <;> (first | assumption | exact gSL.s (by assumption))
inductive gSel  : (List (Nat × PV)) → (List Nat) → (List (Nat × PV)) → Prop where
 | cnil (sl : List (Nat × PV)) : gSel sl [] []
 | ccons {sl : List (Nat × PV)} {t : Nat} {v : PV} {L : List Nat} {sl' : List (Nat × PV)} (h : gSL sl t v) (h2 : gSel sl L sl') : gSel sl (t :: L) ((t, v) :: sl')
theorem gSel.s {sl : List (Nat × PV)} {L : List Nat} {sl' : List (Nat × PV)} (h : gSel sl L sl') : Sel sl L sl' := by
 induction h
 ·apply ZtH <;> (first | assumption | exact gSL.s (by assumption))
 ·apply ZqZ <;> (first | assumption | exact gSL.s (by assumption))
inductive gSub {α : Type} : (List α) → (Nat) → (Nat) → (List α) → Prop where
 | cnil (cs : List α) : gSub cs 0 0 []
 | ctake {c : α} {cs cs' : List α} {n : Nat} (h : gSub cs 0 n cs') : gSub (c :: cs) 0 (n + 1) (c :: cs')
 | cdrop {c : α} {cs cs' : List α} {off n : Nat} (h : gSub cs off n cs') : gSub (c :: cs) (off + 1) n cs'
theorem gSub.s {α : Type} {cs : List α} {off n : Nat} {cs' : List α} (h : gSub cs off n cs') : Sub cs off n cs' := by
 induction h
 ·apply Zuv <;> (first | assumption)
 ·apply Zq0 <;> (first | assumption)
 ·apply Zrd <;> (first | assumption)
inductive gIdx {α : Type} : (List α) → (Nat) → (α) → Prop where
 | czero (c : α) (cs : List α) : gIdx (c :: cs) 0 c
 | csucc {c d : α} {cs : List α} {k : Nat} (h : gIdx cs k c) : gIdx (d :: cs) (k + 1) c
theorem gIdx.s {α : Type} {cs : List α} {k : Nat} {c : α} (h : gIdx cs k c) : Idx cs k c := by
 induction h
 ·apply ZqR <;> (first | assumption)
 ·apply Zqb <;> (first | assumption)
inductive gDr {α : Type} : (List α) → (Nat) → (List α) → Prop where
 | czero (cs : List α) : gDr cs 0 cs
 | csucc {d : α} {cs cs' : List α} {k : Nat} (h : gDr cs k cs') : gDr (d :: cs) (k + 1) cs'
theorem gDr.s {α : Type} {cs : List α} {k : Nat} {cs' : List α} (h : gDr cs k cs') : Dr cs k cs' := by
 induction h
 ·apply Zsv <;> (first | assumption)
 ·apply Zuy <;> (first | assumption)
inductive gSetL {α : Type} : (List α) → (Nat) → (List α) → (List α) → Prop where
 | cnil (cs : List α) : gSetL cs 0 [] cs
 | cput {c p : α} {cs ps cs' : List α} (h : gSetL cs 0 ps cs') : gSetL (c :: cs) 0 (p :: ps) (p :: cs')
 | cskip {c : α} {cs ps cs' : List α} {off : Nat} (h : gSetL cs off ps cs') : gSetL (c :: cs) (off + 1) ps (c :: cs')
theorem gSetL.s {α : Type} {cs : List α} {off : Nat} {ps cs' : List α} (h : gSetL cs off ps cs') : SetL cs off ps cs' := by
 induction h
 ·apply ZrC <;> (first | assumption)
 ·apply ZqM <;> (first | assumption)
 ·apply ZoD <;> (first | assumption)
inductive gMapG  : (List GV) → (List PV) → Prop where
 | cnil  : gMapG [] []
 | ccons {x : GV} {gs : List GV} {ps : List PV} (h : gMapG gs ps) : gMapG (x :: gs) (.g x :: ps)
theorem gMapG.s {gs : List GV} {ps : List PV} (h : gMapG gs ps) : MapG gs ps := by
 induction h
 ·apply ZrS <;> (first | assumption)
 ·apply ZoT <;> (first | assumption)
inductive gCP  : (PV) → (List PV) → Prop where
 | cagg (cs : List PV) : gCP (.agg cs) cs
 | cown (id lo len : Nat) : gCP (.own id lo len) [.own id lo len]
 | cnils (e : Nat) : gCP (.nils e) [.nils e]
 | cptr (id o : Nat) : gCP (.ptr id o) [.ptr id o]
 | cfn (f : FuncId) (cs : List PV) : gCP (.fn f cs) [.fn f cs]
 | cint (k : IntKind) (n : Int) : gCP (.g (.int k n)) [.g (.int k n)]
 | cbool (b : Bool) : gCP (.g (.bool b)) [.g (.bool b)]
 | cstr (s : ByteArray) : gCP (.g (.str s)) [.g (.str s)]
 | cnilp  : gCP (.g .nilp) [.g .nilp]
 | csl (e : Nat) (xs : List GV) : gCP (.g (.sl e xs)) [.g (.sl e xs)]
 | cex (v : Value) (e : Nat) (xs : List GV) : gCP (.g (.ex v e xs)) [.g (.ex v e xs)]
 | cbd (N e : Nat) (xs : List GV) : gCP (.g (.bd N e xs)) [.g (.bd N e xs)]
 | cgbox (cs : List GV) : gCP (.g (.box cs)) [.g (.box cs)]
 | cgfn (f : FuncId) (cs : List GV) : gCP (.g (.fn f cs)) [.g (.fn f cs)]
 | cgagg {gs : List GV} {ps : List PV} (h : gMapG gs ps) : gCP (.g (.agg gs)) ps
theorem gCP.s {p : PV} {cs : List PV} (h : gCP p cs) : CP p cs := by
 induction h
 ·apply Zww <;> (first | assumption | exact gMapG.s (by assumption))
 ·apply Zxp <;> (first | assumption | exact gMapG.s (by assumption))
 ·apply ZuL <;> (first | assumption | exact gMapG.s (by assumption))
 ·apply Zxx <;> (first | assumption | exact gMapG.s (by assumption))
 ·apply Zyj <;> (first | assumption | exact gMapG.s (by assumption))
 ·apply Zw2 <;> (first | assumption | exact gMapG.s (by assumption))
 ·apply Zug <;> (first | assumption | exact gMapG.s (by assumption))
 ·apply Zvj <;> (first | assumption | exact gMapG.s (by assumption))
 ·apply ZsP <;> (first | assumption | exact gMapG.s (by assumption))
 ·apply Zy9 <;> (first | assumption | exact gMapG.s (by assumption))
 ·apply ZyF <;> (first | assumption)
 ·exact Zyc _ _ _
 ·apply Zth <;> (first | assumption | exact gMapG.s (by assumption))
 ·apply Zvb <;> (first | assumption | exact gMapG.s (by assumption))
 ·apply Zu4 <;> (first | assumption | exact gMapG.s (by assumption))
inductive gCG  : (GV) → (List GV) → Prop where
 | cint (k : IntKind) (n : Int) : gCG (.int k n) [.int k n]
 | cbool (b : Bool) : gCG (.bool b) [.bool b]
 | cstr (s : ByteArray) : gCG (.str s) [.str s]
 | cnilp  : gCG .nilp [.nilp]
 | csl (e : Nat) (xs : List GV) : gCG (.sl e xs) [.sl e xs]
 | cex (v : Value) (e : Nat) (xs : List GV) : gCG (.ex v e xs) [.ex v e xs]
 | cbd (N e : Nat) (xs : List GV) : gCG (.bd N e xs) [.bd N e xs]
 | craw (c : Nat) (v : Value) : gCG (.raw c v) [.raw c v]
 | cbox (cs : List GV) : gCG (.box cs) [.box cs]
 | cagg (cs : List GV) : gCG (.agg cs) cs
theorem gCG.s {x : GV} {cs : List GV} (h : gCG x cs) : CG x cs := by
 induction h
 ·apply Zx6 <;> (first | assumption)
 ·apply Zuc <;> (first | assumption)
 ·apply Zwb <;> (first | assumption)
 ·apply Zuq <;> (first | assumption)
 ·apply Zyk <;> (first | assumption)
 ·apply Zym <;> (first | assumption)
 ·exact Zzh _ _ _
 ·apply Zva <;> (first | assumption)
 ·apply Zws <;> (first | assumption)
 ·apply ZvK <;> (first | assumption)
inductive gLEN  : (List GV) → (Nat) → Prop where
 | cmap {α : Type} (f : α → GV) (ys : List α) : gLEN (ys.map f) ys.length
 | cnil  : gLEN [] 0
 | c1 (x : GV) : gLEN [x] 1
 | c2 (x y : GV) : gLEN [x, y] 2
 | cany (xs : List GV) : gLEN xs xs.length
theorem gLEN.s {xs : List GV} {n : Nat} (h : gLEN xs n) : LEN xs n := by
 induction h
 ·apply ZpR <;> (first | assumption)
 ·apply Zpb <;> (first | assumption)
 ·apply ZvY <;> (first | assumption)
 ·apply Zwq <;> (first | assumption)
 ·apply Zo4 <;> (first | assumption)
inductive gCAT  : (List GV) → (List GV) → (List GV) → Prop where
 | cnil (ys : List GV) : gCAT [] ys ys
 | cone {α : Type} (f : α → GV) (xs : List α) (y : α) : gCAT (xs.map f) [f y] ((xs ++ [y]).map f)
 | cmap {α : Type} (f : α → GV) (xs ys : List α) : gCAT (xs.map f) (ys.map f) ((xs ++ ys).map f)
 | ccons {α : Type} (f : α → GV) (x : α) (ys : List α) : gCAT [f x] (ys.map f) ((x :: ys).map f)
 | cend {α : Type} (f : α → GV) (xs : List α) : gCAT (xs.map f) [] (xs.map f)
 | cany (xs ys : List GV) : gCAT xs ys (xs ++ ys)
theorem gCAT.s {xs ys zs : List GV} (h : gCAT xs ys zs) : CAT xs ys zs := by
 induction h
 ·apply Zu0 <;> (first | assumption)
 ·apply Zuh <;> (first | assumption)
 ·apply Zsu <;> (first | assumption)
 ·apply ZrP <;> (first | assumption)
 ·apply Zso <;> (first | assumption)
 ·apply ZtJ <;> (first | assumption)
inductive gITM  : (List GV) → (Int) → (GV) → Prop where
 | cmapN {α : Type} [Inhabited α] {f : α → GV} {ys : List α} {n : Nat} (h : NU (n < ys.length)) : gITM (ys.map f) (n : Int) (f (nth ys n))
 | cmapS {α : Type} [Inhabited α] {f : α → GV} {ys : List α} {n : Nat} (h : NU (n + 1 < ys.length)) : gITM (ys.map f) ((n : Int) + 1) (f (nth ys (n + 1)))
 | cmapP {α : Type} [Inhabited α] {f : α → GV} {ys : List α} {n : Nat} (h : NU (1 ≤ n ∧ n ≤ ys.length)) : gITM (ys.map f) ((n : Int) - 1) (f (nth ys (n - 1)))
 | cmapL {α : Type} [Inhabited α] {f : α → GV} {ys : List α} (n : Nat) (h : NU (n < ys.length)) : gITM (ys.map f) (OfNat.ofNat n) (f (nth ys n))
 | cmap {α : Type} [Inhabited α] {f : α → GV} {ys : List α} {n : Int} (h : NU (0 ≤ n ∧ n < (ys.length : Int))) : gITM (ys.map f) n (f (nth ys n.toNat))
 | clit {xs : List GV} {n : Nat} {x : GV} (h : RF (xs[n]? = some x)) : gITM xs (OfNat.ofNat n) x
 | clitN {xs : List GV} {n : Nat} {x : GV} (h : RF (xs[n]? = some x)) : gITM xs (n : Int) x
 | craw {α : Type} {f : α → GV} {A : List α} {kk c : Nat} {v : Value} {n : Int} (h : NU (n = (kk : Int) ∧ kk < A.length)) : gITM (rawL f A kk c v) n (.raw c v)
 | cof {ys : List Int} {xs : List GV} {n : Nat} (e : RF (xs = ys.map GV.i)) (h : NU (n < ys.length)) : gITM xs (n : Int) (GV.i (nth ys n))
theorem gITM.s {xs : List GV} {n : Int} {x : GV} (h : gITM xs n x) : ITM xs n x := by
 induction h
 ·apply ZkE <;> (first | assumption)
 ·apply Zrx <;> (first | assumption)
 ·apply ZrA <;> (first | assumption)
 ·apply Zrv <;> (first | assumption)
 ·apply Zsw <;> (first | assumption)
 ·apply Zse <;> (first | assumption)
 ·apply Zqp <;> (first | assumption)
 ·apply Zto <;> (first | assumption)
 ·apply Zxd <;> (first | assumption)
inductive gPUT  : (List GV) → (Nat) → (GV) → (List GV) → Prop where
 | cmap {α : Type} (f : α → GV) (ys : List α) (k : Nat) (y : α) : gPUT (ys.map f) k (f y) ((ys.set k y).map f)
 | craw {α : Type} (f : α → GV) (A : List α) (kk c k : Nat) (v : Value) (y : α) (h : NU (k = kk)) : gPUT (rawL f A kk c v) k (f y) ((A.set kk y).map f)
 | cany (xs : List GV) (k : Nat) (x : GV) : gPUT xs k x (xs.set k x)
theorem gPUT.s {xs : List GV} {k : Nat} {x : GV} {ys : List GV} (h : gPUT xs k x ys) : PUT xs k x ys := by
 induction h
 ·apply ZuV <;> (first | assumption)
 ·apply Zsh <;> (first | assumption)
 ·apply ZuH <;> (first | assumption)
inductive gFLB  : (List GV) → (Bool) → Prop where
 | cints (k : IntKind) (ys : List Int) : gFLB (ys.map (GV.int k)) true
 | cbools (ys : List Bool) : gFLB (ys.map GV.bool) true
 | cstrs (ys : List ByteArray) : gFLB (ys.map GV.str) true
 | cnil  : gFLB [] true
 | cconsi {k : IntKind} {n : Int} {xs : List GV} {b : Bool} (h : gFLB xs b) : gFLB (.int k n :: xs) b
 | cany (ys : List GV) : gFLB ys (ys.all GV.flat)
theorem gFLB.s {ys : List GV} {b : Bool} (h : gFLB ys b) : FLB ys b := by
 induction h
 ·apply Zrh <;> (first | assumption)
 ·apply Zo5 <;> (first | assumption)
 ·apply ZrQ <;> (first | assumption)
 ·apply ZtR <;> (first | assumption)
 ·apply ZoO <;> (first | assumption)
 ·apply ZuC <;> (first | assumption)
inductive gPK  : (PV) → (PV) → (PV) → (PV) → Prop where
 | ct (p q : PV) : gPK (.g (.bool true)) p q p
 | cf (p q : PV) : gPK (.g (.bool false)) p q q
theorem gPK.s {c p q v : PV} (h : gPK c p q v) : PK c p q v := by
 induction h
 ·apply PK_t <;> (first | assumption)
 ·apply PK_f <;> (first | assumption)
inductive gBN  : (Tab) → (TypeId) → (BinOp) → (PV) → (PV) → (PV) → Prop where
 | cadd {tab : Tab} {t : TypeId} {a b : Int} (hb : NU (-9223372036854775808 ≤ a + b ∧ a + b ≤ 9223372036854775807)) : gBN tab t .add (.g (.int .i64 a)) (.g (.int .i64 b)) (.g (.int .i64 (a + b)))
 | csub {tab : Tab} {t : TypeId} {a b : Int} (hb : NU (-9223372036854775808 ≤ a - b ∧ a - b ≤ 9223372036854775807)) : gBN tab t .sub (.g (.int .i64 a)) (.g (.int .i64 b)) (.g (.int .i64 (a - b)))
 | cmul {tab : Tab} {t : TypeId} {a b : Int} (hb : NU (-9223372036854775808 ≤ a * b ∧ a * b ≤ 9223372036854775807)) : gBN tab t .mul (.g (.int .i64 a)) (.g (.int .i64 b)) (.g (.int .i64 (a * b)))
 | cquo {tab : Tab} {t : TypeId} {a b : Int} (hb : NU (0 ≤ a ∧ a ≤ 9223372036854775807 ∧ 0 < b)) : gBN tab t .quo (.g (.int .i64 a)) (.g (.int .i64 b)) (.g (.int .i64 (a / b)))
 | crem {tab : Tab} {t : TypeId} {a b : Int} (hb : NU (0 ≤ a ∧ 0 < b)) : gBN tab t .rem (.g (.int .i64 a)) (.g (.int .i64 b)) (.g (.int .i64 (a % b)))
 | cshl {tab : Tab} {t : TypeId} {a b : Int} {k : IntKind} (hb : NU (0 ≤ a ∧ 0 ≤ b ∧ b ≤ 62 ∧ a * 2 ^ b.toNat ≤ 9223372036854775807)) : gBN tab t .shl (.g (.int .i64 a)) (.g (.int k b)) (.g (.int .i64 (a * 2 ^ b.toNat)))
 | ceql {tab : Tab} {t : TypeId} (k : IntKind) (a b : Int) : gBN tab t .eql (.g (.int k a)) (.g (.int k b)) (.g (.bool (a == b)))
 | cneq {tab : Tab} {t : TypeId} (k : IntKind) (a b : Int) : gBN tab t .neq (.g (.int k a)) (.g (.int k b)) (.g (.bool (a != b)))
 | clss {tab : Tab} {t : TypeId} (k : IntKind) (a b : Int) : gBN tab t .lss (.g (.int k a)) (.g (.int k b)) (.g (.bool (decide (a < b))))
 | cleq {tab : Tab} {t : TypeId} (k : IntKind) (a b : Int) : gBN tab t .leq (.g (.int k a)) (.g (.int k b)) (.g (.bool (decide (a ≤ b))))
 | cgtr {tab : Tab} {t : TypeId} (k : IntKind) (a b : Int) : gBN tab t .gtr (.g (.int k a)) (.g (.int k b)) (.g (.bool (decide (a > b))))
 | cgeq {tab : Tab} {t : TypeId} (k : IntKind) (a b : Int) : gBN tab t .geq (.g (.int k a)) (.g (.int k b)) (.g (.bool (decide (a ≥ b))))
 | cbeq {tab : Tab} {t : TypeId} {a b : Bool} (h : RF (Zer tab t = true)) : gBN tab t .eql (.g (.bool a)) (.g (.bool b)) (.g (.bool (a == b)))
 | cbne {tab : Tab} {t : TypeId} {a b : Bool} (h : RF (Zer tab t = true)) : gBN tab t .neq (.g (.bool a)) (.g (.bool b)) (.g (.bool (!(a == b))))
 | carvv {tab : Tab} {t : TypeId} {a b c d : Int} (ht : RF (Zhv tab t = some (2, .i64))) : gBN tab t .eql (.agg [.g (.int .i64 a), .g (.int .i64 b)]) (.agg [.g (.int .i64 c), .g (.int .i64 d)]) (.g (.bool (decide ((a, b) = (c, d)))))
 | cargv {tab : Tab} {t : TypeId} {a b c d : Int} (ht : RF (Zhv tab t = some (2, .i64))) : gBN tab t .eql (.g (.agg [.int .i64 a, .int .i64 b])) (.agg [.g (.int .i64 c), .g (.int .i64 d)]) (.g (.bool (decide ((a, b) = (c, d)))))
 | carvg {tab : Tab} {t : TypeId} {a b c d : Int} (ht : RF (Zhv tab t = some (2, .i64))) : gBN tab t .eql (.agg [.g (.int .i64 a), .g (.int .i64 b)]) (.g (.agg [.int .i64 c, .int .i64 d])) (.g (.bool (decide ((a, b) = (c, d)))))
 | cargg {tab : Tab} {t : TypeId} {a b c d : Int} (ht : RF (Zhv tab t = some (2, .i64))) : gBN tab t .eql (.g (.agg [.int .i64 a, .int .i64 b])) (.g (.agg [.int .i64 c, .int .i64 d])) (.g (.bool (decide ((a, b) = (c, d)))))
 | cseq {tab : Tab} {t : TypeId} (a b : ByteArray) : gBN tab t .eql (.g (.str a)) (.g (.str b)) (.g (.bool (a.toList == b.toList)))
 | csne {tab : Tab} {t : TypeId} (a b : ByteArray) : gBN tab t .neq (.g (.str a)) (.g (.str b)) (.g (.bool (!(a.toList == b.toList))))
 | csadd {tab : Tab} {t : TypeId} {a b : ByteArray} (h : NU (a.size + b.size ≤ 9223372036854775807)) : gBN tab t .add (.g (.str a)) (.g (.str b)) (.g (.str (a ++ b)))
 | cwadd {tab : Tab} {t : TypeId} (k : IntKind) (a b : Int) : gBN tab t .add (.g (.int k a)) (.g (.int k b)) (.g (.int k (k.wrap (a + b))))
 | cwmul {tab : Tab} {t : TypeId} (k : IntKind) (a b : Int) : gBN tab t .mul (.g (.int k a)) (.g (.int k b)) (.g (.int k (k.wrap (a * b))))
 | cand {tab : Tab} {t : TypeId} (k : IntKind) (a b : Int) : gBN tab t .and (.g (.int k a)) (.g (.int k b)) (.g (.int k (Zl3 .and k a b)))
 | cxor {tab : Tab} {t : TypeId} (k : IntKind) (a b : Int) : gBN tab t .xor (.g (.int k a)) (.g (.int k b)) (.g (.int k (Zl3 .xor k a b)))
 | cshr {tab : Tab} {t : TypeId} {k k' : IntKind} {a b : Int} (hb : NU (0 ≤ b)) : gBN tab t .shr (.g (.int k a)) (.g (.int k' b)) (.g (.int k (a.fdiv (2 ^ min b.toNat k.bits))))
 | chalf {tab : Tab} {t : TypeId} {k' : IntKind} {a : Int} : gBN tab t .shr (.g (.int .u64 a)) (.g (.int k' 1)) (.g (.int .u64 (a / 2)))
 | csub8 {tab : Tab} {t : TypeId} {a b : Int} (h : NU (0 ≤ a - b ∧ a - b < 256)) : gBN tab t .sub (.g (.int .u8 a)) (.g (.int .u8 b)) (.g (.int .u8 (a - b)))
theorem gBN.s {tab : Tab} {t : TypeId} {op : BinOp} {x y v : PV} (h : gBN tab t op x y v) : BN tab t op x y v := by
 induction h
 ·apply ZwB <;> (first | assumption)
 ·apply Zvp <;> (first | assumption)
 ·apply ZwA <;> (first | assumption)
 ·apply ZvO <;> (first | assumption)
 ·apply Zu7 <;> (first | assumption)
 ·apply Zv1 <;> (first | assumption)
 ·apply Zvh <;> (first | assumption)
 ·apply Zxv <;> (first | assumption)
 ·apply Zw4 <;> (first | assumption)
 ·apply ZwZ <;> (first | assumption)
 ·apply Zwa <;> (first | assumption)
 ·apply Zx3 <;> (first | assumption)
 ·apply ZwY <;> (first | assumption)
 ·apply ZxK <;> (first | assumption)
 ·apply Zum <;> (first | assumption)
 ·apply Zux <;> (first | assumption)
 ·apply Zsm <;> (first | assumption)
 ·apply Zs9 <;> (first | assumption)
 ·apply ZxG <;> (first | assumption)
 ·apply Zwi <;> (first | assumption)
 ·apply Zt5 <;> (first | assumption)
 ·apply Zuu
 ·apply ZsA
 ·apply Zwx
 ·apply Zvw
 ·apply ZwH <;> (first | assumption)
 ·apply Zub
 ·apply Ztj <;> (first | assumption)
inductive gUN  : (UnOp) → (PV) → (PV) → Prop where
 | cnot (b : Bool) : gUN .not (.g (.bool b)) (.g (.bool (!b)))
 | cneg {a : Int} (hb : NU (-9223372036854775807 ≤ a ∧ a ≤ 9223372036854775807)) : gUN .neg (.g (.int .i64 a)) (.g (.int .i64 (0 - a)))
theorem gUN.s {op : UnOp} {x v : PV} (h : gUN op x v) : UN op x v := by
 induction h
 ·apply Zv6 <;> (first | assumption)
 ·apply Zxu <;> (first | assumption)
inductive gCV  : (Tab) → (TypeId) → (TypeId) → (PV) → (PV) → Prop where
 | cint {tab : Tab} {s t : TypeId} {si di : TI} {k k' : IntKind} {a : Int} (h5 : RF (tab s = some si ∧ si.kind = .int k)) (h6 : RF (tab t = some di ∧ di.kind = .int .i64)) (hb : NU (-9223372036854775808 ≤ a ∧ a ≤ 9223372036854775807)) : gCV tab s t (.g (.int k' a)) (.g (.int .i64 a))
 | cwide {tab : Tab} {s t : TypeId} {si di : TI} {k k2 k' : IntKind} {a : Int} (h5 : RF (tab s = some si ∧ si.kind = .int k)) (h6 : RF (tab t = some di ∧ di.kind = .int k2)) : gCV tab s t (.g (.int k' a)) (.g (.int k2 (k2.wrap a)))
 | cu64 {tab : Tab} {s t : TypeId} {si di : TI} {k k' : IntKind} {a : Int} (h5 : RF (tab s = some si ∧ si.kind = .int k)) (h6 : RF (tab t = some di ∧ di.kind = .int .u64)) (hb : NU (0 ≤ a ∧ a ≤ 9223372036854775807)) : gCV tab s t (.g (.int k' a)) (.g (.int .u64 a))
 | cu8 {tab : Tab} {s t : TypeId} {si di : TI} {k k' : IntKind} {a : Int} (h5 : RF (tab s = some si ∧ si.kind = .int k)) (h6 : RF (tab t = some di ∧ di.kind = .int .u8)) (hb : NU (0 ≤ a ∧ a < 256)) : gCV tab s t (.g (.int k' a)) (.g (.int .u8 a))
theorem gCV.s {tab : Tab} {s t : TypeId} {x v : PV} (h : gCV tab s t x v) : CV tab s t x v := by
 induction h
 ·apply ZvZ <;> (first | assumption)
 ·apply ZsH <;> (first | assumption)
 ·apply Zv7 <;> (first | assumption)
 ·apply Zy0 <;> assumption
inductive gLB  : (Tab) → (TypeId) → (Nat) → (List PV) → (PV) → Prop where
 | cone {tab : Tab} {t : TypeId} {off : Nat} {cs : List PV} {v : PV} {ti : TI} (h : RF (tab t = some ti ∧ ti.kind.agg = false)) (h2 : gIdx cs off v) : gLB tab t off cs v
 | cagg {tab : Tab} {t : TypeId} {off : Nat} {cs cs' : List PV} {ti : TI} {sz : Nat} (h : RF (tab t = some ti ∧ ti.kind.agg = true ∧ ti.size = sz)) (h2 : gSub cs off sz cs') : gLB tab t off cs (.agg cs')
theorem gLB.s {tab : Tab} {t : TypeId} {off : Nat} {cs : List PV} {v : PV} (h : gLB tab t off cs v) : LB tab t off cs v := by
 induction h
 ·apply Zxw <;> (first | assumption | exact gIdx.s (by assumption) | exact gSub.s (by assumption))
 ·apply ZvF <;> (first | assumption | exact gIdx.s (by assumption) | exact gSub.s (by assumption))
inductive gLI  : (Tab) → (TypeId) → (List GV) → (PV) → Prop where
 | cone {tab : Tab} {t : TypeId} {c : GV} {cs : List GV} {ti : TI} (h : RF (tab t = some ti ∧ ti.kind.agg = false)) : gLI tab t (c :: cs) (.g c)
 | cmapA {α : Type} {f : α → GV} {ys : List α} {tab : Tab} {t : TypeId} {m : Nat} (ht : RF (arK tab t = m)) (hn : NU (0 < m ∧ m = ys.length)) : gLI tab t (ys.map f) (.g (.agg (ys.map f)))
 | cdrop {α : Type} [Inhabited α] {f : α → GV} {ys : List α} {k : Nat} {tab : Tab} {t : TypeId} {ti : TI} (h : RF (tab t = some ti ∧ ti.kind.agg = false)) (hn : NU (k < ys.length)) : gLI tab t ((ys.map f).drop k) (.g (f (nth ys k)))
 | cagg {tab : Tab} {t : TypeId} {cs cs' : List GV} {ti : TI} {sz : Nat} (h : RF (tab t = some ti ∧ ti.kind.agg = true ∧ ti.size = sz)) (h2 : gSub cs 0 sz cs') : gLI tab t cs (.g (.agg cs'))
theorem gLI.s {tab : Tab} {t : TypeId} {cs : List GV} {v : PV} (h : gLI tab t cs v) : LI tab t cs v := by
 induction h
 ·apply Zw6 <;> (first | assumption | exact gSub.s (by assumption))
 ·apply ZuP <;> assumption
 ·apply ZtB <;> assumption
 ·apply Zw0 <;> (first | assumption | exact gSub.s (by assumption))
inductive gLD  : (Tab) → (List (Nat × Block)) → (TypeId) → (PV) → (PV) → Prop where
 | cbox {hl : List (Nat × Block)} {tab : Tab} {t : TypeId} {id off : Nat} {cs : List PV} {v : PV} (hb : gHL hl id (.box cs)) (hv : gLB tab t off cs v) : gLD tab hl t (.ptr id off) v
 | cimm {hl : List (Nat × Block)} {tab : Tab} {t : TypeId} {cs : List GV} {v : PV} (hv : gLI tab t cs v) : gLD tab hl t (.iptr cs) v
 | cibox {hl : List (Nat × Block)} {tab : Tab} {t : TypeId} {cs : List GV} {v : PV} (hv : gLI tab t cs v) : gLD tab hl t (.g (.box cs)) v
 | celt {hl : List (Nat × Block)} {tab : Tab} {t : TypeId} {id k j e : Nat} {dp : Bool} {xs : List GV} {x : GV} {cs cs' : List GV} {v : PV} (hb : gHL hl id (.arr e dp xs)) (hx : gITM xs (k : Int) x) (hc : gCG x cs) (hj : gDr cs j cs') (hv : gLI tab t cs' v) : gLD tab hl t (.eptr id k j) v
 | cptn {hl : List (Nat × Block)} {tab : Tab} {t : TypeId} {id m : Nat} {cs : List PV} {a b : Int} (hb : gHL hl id (.box cs)) (h0 : gLB tab t 0 cs (.g (.int .i64 a))) (h1 : gLB tab t 1 cs (.g (.int .i64 b))) (hm : NU (m < 2)) : gLD tab hl t (.ptr id m) (.g (.int .i64 (if (m : Int) = 0 then a else b)))
theorem gLD.s {tab : Tab} {hl : List (Nat × Block)} {t : TypeId} {p v : PV} (h : gLD tab hl t p v) : LD tab hl t p v := by
 induction h
 ·apply ZpK <;> (first | assumption | exact gCG.s (by assumption) | exact gDr.s (by assumption) | exact gHL.s (by assumption) | exact gITM.s (by assumption) | exact gLB.s (by assumption) | exact gLI.s (by assumption))
 ·apply Zv3 <;> (first | assumption | exact gCG.s (by assumption) | exact gDr.s (by assumption) | exact gHL.s (by assumption) | exact gITM.s (by assumption) | exact gLB.s (by assumption) | exact gLI.s (by assumption))
 ·apply Zsg <;> (first | assumption | exact gCG.s (by assumption) | exact gDr.s (by assumption) | exact gHL.s (by assumption) | exact gITM.s (by assumption) | exact gLB.s (by assumption) | exact gLI.s (by assumption))
 ·apply Zxm <;> (first | assumption | exact gCG.s (by assumption) | exact gDr.s (by assumption) | exact gHL.s (by assumption) | exact gITM.s (by assumption) | exact gLB.s (by assumption) | exact gLI.s (by assumption))
 ·apply ZvC <;> (first | assumption | exact gCG.s (by assumption) | exact gDr.s (by assumption) | exact gHL.s (by assumption) | exact gITM.s (by assumption) | exact gLB.s (by assumption) | exact gLI.s (by assumption))
inductive gNP  : (List (Nat × Block)) → (PV) → Prop where
 | cptr {hl : List (Nat × Block)} {id o : Nat} {cs : List PV} (h : gHL hl id (.box cs)) : gNP hl (.ptr id o)
 | ceptr {hl : List (Nat × Block)} {id k j e : Nat} {dp : Bool} {xs : List GV} (h : gHL hl id (.arr e dp xs)) : gNP hl (.eptr id k j)
 | ciptr {hl : List (Nat × Block)} (cs : List GV) : gNP hl (.iptr cs)
 | cgbox {hl : List (Nat × Block)} (cs : List GV) : gNP hl (.g (.box cs))
 | cfn {hl : List (Nat × Block)} (f : FuncId) (cs : List PV) : gNP hl (.fn f cs)
theorem gNP.s {hl : List (Nat × Block)} {p : PV} (h : gNP hl p) : NP hl p := by
 induction h
 ·apply Zxz <;> (first | assumption | exact gHL.s (by assumption))
 ·apply ZsW <;> (first | assumption | exact gHL.s (by assumption))
 ·apply Ztr <;> (first | assumption | exact gHL.s (by assumption))
 ·apply Zs5 <;> (first | assumption | exact gHL.s (by assumption))
 ·apply Zzr <;> (first | assumption | exact gHL.s (by assumption))
inductive gFL  : (Tab) → (List (Nat × Block)) → (TypeId) → (PV) → (Nat) → (PV) → Prop where
 | cptr {hl : List (Nat × Block)} {tab : Tab} {s : TypeId} {f off id o : Nat} {cs : List PV} (ho : FO tab s f off) (h : gHL hl id (.box cs)) : gFL tab hl s (.ptr id o) f (.ptr id (o + off))
 | ceptr {hl : List (Nat × Block)} {tab : Tab} {s : TypeId} {f off id k j e : Nat} {dp : Bool} {xs : List GV} (ho : FO tab s f off) (h : gHL hl id (.arr e dp xs)) : gFL tab hl s (.eptr id k j) f (.eptr id k (j + off))
 | ciptr {hl : List (Nat × Block)} {tab : Tab} {s : TypeId} {f off : Nat} {cs cs' : List GV} (ho : FO tab s f off) (h : gDr cs off cs') : gFL tab hl s (.iptr cs) f (.iptr cs')
 | cgbox {hl : List (Nat × Block)} {tab : Tab} {s : TypeId} {f off : Nat} {cs cs' : List GV} (ho : FO tab s f off) (h : gDr cs off cs') : gFL tab hl s (.g (.box cs)) f (.iptr cs')
theorem gFL.s {tab : Tab} {hl : List (Nat × Block)} {s : TypeId} {x : PV} {f : Nat} {v : PV} (h : gFL tab hl s x f v) : FL tab hl s x f v := by
 induction h
 ·apply Zx2 <;> (first | assumption | exact gDr.s (by assumption) | exact gHL.s (by assumption))
 ·apply Zsk <;> (first | assumption | exact gDr.s (by assumption) | exact gHL.s (by assumption))
 ·apply ZsV <;> (first | assumption | exact gDr.s (by assumption) | exact gHL.s (by assumption))
 ·apply ZuG <;> (first | assumption | exact gDr.s (by assumption) | exact gHL.s (by assumption))
inductive gPT  : (Tab) → (TypeId) → (PV) → (Nat) → (PV) → Prop where
 | cagg {tab : Tab} {t : TypeId} {f off : Nat} {cs : List PV} {v : PV} (ho : FO1 tab t f off) (h : gIdx cs off v) : gPT tab t (.agg cs) f v
 | cgagg {tab : Tab} {t : TypeId} {f off : Nat} {cs : List GV} {v : GV} (ho : FO1 tab t f off) (h : gIdx cs off v) : gPT tab t (.g (.agg cs)) f (.g v)
theorem gPT.s {tab : Tab} {t : TypeId} {x : PV} {f : Nat} {v : PV} (h : gPT tab t x f v) : PT tab t x f v := by
 induction h
 ·apply ZxY <;> (first | assumption | exact gIdx.s (by assumption))
 ·apply ZuZ <;> (first | assumption | exact gIdx.s (by assumption))
inductive gIX  : (Tab) → (List (Nat × Block)) → (TypeId) → (PV) → (PV) → (PV) → Prop where
 | cown0 {hl : List (Nat × Block)} {tab : Tab} {t : TypeId} {E e : Nat} {id len : Nat} {dp : Bool} {xs : List GV} {k : IntKind} {m : Nat} (ht : SLT tab t E e) (hb : gHL hl id (.arr (e + 1) dp xs)) (hn : NU (m < len)) : gIX tab hl t (.own id 0 len) (.g (.int k (m : Int))) (.eptr id m 0)
 | cown {hl : List (Nat × Block)} {tab : Tab} {t : TypeId} {E e : Nat} {id lo len : Nat} {dp : Bool} {xs : List GV} {k : IntKind} {m : Int} (ht : SLT tab t E e) (hb : gHL hl id (.arr (e + 1) dp xs)) (hn : NU (0 ≤ m ∧ m < (len : Int))) : gIX tab hl t (.own id lo len) (.g (.int k m)) (.eptr id (lo + m.toNat) 0)
 | cg {hl : List (Nat × Block)} {tab : Tab} {t : TypeId} {E e : Nat} {xs : List GV} {k : IntKind} {m : Int} {g : GV} {cs : List GV} (ht : SLT tab t E e) (hg : gITM xs m g) (hc : gCG g cs) : gIX tab hl t (.g (.sl (e + 1) xs)) (.g (.int k m)) (.iptr cs)
 | cae0 {hl : List (Nat × Block)} {tab : Tab} {t : TypeId} {id k j e : Nat} {dp : Bool} {xs : List GV} {kk : IntKind} (ht : RF (arB tab t 2 = true)) (hb : gHL hl id (.arr e dp xs)) : gIX tab hl t (.eptr id k j) (.g (.int kk 0)) (.eptr id k j)
 | cae1 {hl : List (Nat × Block)} {tab : Tab} {t : TypeId} {id k j e : Nat} {dp : Bool} {xs : List GV} {kk : IntKind} (ht : RF (arB tab t 2 = true)) (hb : gHL hl id (.arr e dp xs)) : gIX tab hl t (.eptr id k j) (.g (.int kk 1)) (.eptr id k (j + 1))
 | cap0 {hl : List (Nat × Block)} {tab : Tab} {t : TypeId} {id j : Nat} {cs : List PV} {kk : IntKind} (ht : RF (arB tab t 2 = true)) (hb : gHL hl id (.box cs)) : gIX tab hl t (.ptr id j) (.g (.int kk 0)) (.ptr id j)
 | cap1 {hl : List (Nat × Block)} {tab : Tab} {t : TypeId} {id j : Nat} {cs : List PV} {kk : IntKind} (ht : RF (arB tab t 2 = true)) (hb : gHL hl id (.box cs)) : gIX tab hl t (.ptr id j) (.g (.int kk 1)) (.ptr id (j + 1))
 | cai0 {hl : List (Nat × Block)} {tab : Tab} {t : TypeId} {cs : List GV} {kk : IntKind} (ht : RF (arB tab t 2 = true)) : gIX tab hl t (.iptr cs) (.g (.int kk 0)) (.iptr cs)
 | cai1 {hl : List (Nat × Block)} {tab : Tab} {t : TypeId} {c : GV} {cs : List GV} {kk : IntKind} (ht : RF (arB tab t 2 = true)) : gIX tab hl t (.iptr (c :: cs)) (.g (.int kk 1)) (.iptr cs)
 | cab0 {hl : List (Nat × Block)} {tab : Tab} {t : TypeId} {cs : List GV} {kk : IntKind} (ht : RF (arB tab t 2 = true)) : gIX tab hl t (.g (.box cs)) (.g (.int kk 0)) (.iptr cs)
 | cab1 {hl : List (Nat × Block)} {tab : Tab} {t : TypeId} {c : GV} {cs : List GV} {kk : IntKind} (ht : RF (arB tab t 2 = true)) : gIX tab hl t (.g (.box (c :: cs))) (.g (.int kk 1)) (.iptr cs)
 | capn {hl : List (Nat × Block)} {tab : Tab} {t : TypeId} {id m : Nat} {cs : List PV} {kk : IntKind} (ht : RF (arB tab t 2 = true)) (hb : gHL hl id (.box cs)) (hm : NU (m < 2)) : gIX tab hl t (.ptr id 0) (.g (.int kk (m : Int))) (.ptr id m)
 | cge {hl : List (Nat × Block)} {tab : Tab} {t : TypeId} {E e : Nat} {u : Value} {xs : List GV} {k : IntKind} {m : Int} {g : GV} {cs : List GV} (ht : SLT tab t E e) (hg : gITM xs m g) (hc : gCG g cs) : gIX tab hl t (.g (.ex u (e + 1) xs)) (.g (.int k m)) (.iptr cs)
 | cgb {hl : List (Nat × Block)} {tab : Tab} {t : TypeId} {E e : Nat} {u : Nat} {xs : List GV} {k : IntKind} {m : Int} {g : GV} {cs : List GV} (ht : SLT tab t E e) (hg : gITM xs m g) (hc : gCG g cs) : gIX tab hl t (.g (.bd u (e + 1) xs)) (.g (.int k m)) (.iptr cs)
 | cabm {α : Type} {f : α → GV} {ys : List α} {hl : List (Nat × Block)} {tab : Tab} {t : TypeId} {kk : IntKind} {n : Int} {m : Nat} (ht : RF (arK tab t = m)) (hn : NU (0 ≤ n ∧ n < (m : Int) ∧ m = ys.length)) : gIX tab hl t (.g (.box (ys.map f))) (.g (.int kk n)) (.iptr ((ys.map f).drop n.toNat))
theorem gIX.s {tab : Tab} {hl : List (Nat × Block)} {t : TypeId} {x i v : PV} (h : gIX tab hl t x i v) : IX tab hl t x i v := by
 induction h
 ·apply ZsI <;> (first | assumption | exact gCG.s (by assumption) | exact gHL.s (by assumption) | exact gITM.s (by assumption))
 ·apply ZrY <;> (first | assumption | exact gCG.s (by assumption) | exact gHL.s (by assumption) | exact gITM.s (by assumption))
 ·apply IX_g <;> (first | assumption | exact gCG.s (by assumption) | exact gHL.s (by assumption) | exact gITM.s (by assumption))
 ·apply Zvq <;> (first | assumption | exact gCG.s (by assumption) | exact gHL.s (by assumption) | exact gITM.s (by assumption))
 ·apply ZxS <;> (first | assumption | exact gCG.s (by assumption) | exact gHL.s (by assumption) | exact gITM.s (by assumption))
 ·apply ZxO <;> (first | assumption | exact gCG.s (by assumption) | exact gHL.s (by assumption) | exact gITM.s (by assumption))
 ·apply ZvV <;> (first | assumption | exact gCG.s (by assumption) | exact gHL.s (by assumption) | exact gITM.s (by assumption))
 ·apply Zwz <;> (first | assumption | exact gCG.s (by assumption) | exact gHL.s (by assumption) | exact gITM.s (by assumption))
 ·apply ZwS <;> (first | assumption | exact gCG.s (by assumption) | exact gHL.s (by assumption) | exact gITM.s (by assumption))
 ·apply Zxb <;> (first | assumption | exact gCG.s (by assumption) | exact gHL.s (by assumption) | exact gITM.s (by assumption))
 ·apply Zxh <;> (first | assumption | exact gCG.s (by assumption) | exact gHL.s (by assumption) | exact gITM.s (by assumption))
 ·apply ZvM <;> (first | assumption | exact gCG.s (by assumption) | exact gHL.s (by assumption) | exact gITM.s (by assumption))
 ·apply Zzi <;> (first | assumption | exact gCG.s (by assumption) | exact gHL.s (by assumption) | exact gITM.s (by assumption))
 ·apply Zzf <;> (first | assumption | exact gCG.s (by assumption) | exact gHL.s (by assumption) | exact gITM.s (by assumption))
 ·apply ZvH <;> assumption
inductive gIDX  : (Tab) → (TypeId) → (PV) → (PV) → (PV) → Prop where
 | cv0 {tab : Tab} {t : TypeId} {a b : PV} {kk : IntKind} (ht : RF (arB tab t 2 = true)) : gIDX tab t (.agg [a, b]) (.g (.int kk 0)) a
 | cv1 {tab : Tab} {t : TypeId} {a b : PV} {kk : IntKind} (ht : RF (arB tab t 2 = true)) : gIDX tab t (.agg [a, b]) (.g (.int kk 1)) b
 | cg0 {tab : Tab} {t : TypeId} {a b : GV} {kk : IntKind} (ht : RF (arB tab t 2 = true)) : gIDX tab t (.g (.agg [a, b])) (.g (.int kk 0)) (.g a)
 | cg1 {tab : Tab} {t : TypeId} {a b : GV} {kk : IntKind} (ht : RF (arB tab t 2 = true)) : gIDX tab t (.g (.agg [a, b])) (.g (.int kk 1)) (.g b)
 | cgn {tab : Tab} {t : TypeId} {a b : Int} {kk : IntKind} {m : Int} (ht : RF (arB tab t 2 = true)) (hm : NU (0 ≤ m ∧ m ≤ 1)) : gIDX tab t (.g (.agg [.int .i64 a, .int .i64 b])) (.g (.int kk m)) (.g (.int .i64 (if m = 0 then a else b)))
 | cm {α : Type} [Inhabited α] {f : α → GV} {ys : List α} {tab : Tab} {t : TypeId} {kk : IntKind} {n : Int} {m : Nat} (ht : RF (arK tab t = m)) (hn : NU (0 ≤ n ∧ n < (m : Int) ∧ m = ys.length)) : gIDX tab t (.g (.agg (ys.map f))) (.g (.int kk n)) (.g (f (nth ys n.toNat)))
 | cs {s : ByteArray} {tab : Tab} {t : TypeId} {kk : IntKind} {n : Int} (ht : RF (strT tab t = true)) (hn : NU (0 ≤ n ∧ n < (s.size : Int))) : gIDX tab t (.g (.str s)) (.g (.int kk n)) (.g (.int .u8 (bat s n.toNat)))
theorem gIDX.s {tab : Tab} {t : TypeId} {x i v : PV} (h : gIDX tab t x i v) : IDX tab t x i v := by
 induction h
 ·apply ZwJ <;> (first | assumption)
 ·apply ZxQ <;> (first | assumption)
 ·apply ZvT <;> (first | assumption)
 ·apply ZwK <;> (first | assumption)
 ·apply ZvB <;> (first | assumption)
 ·apply ZyD <;> assumption
 ·apply ZyY <;> assumption
inductive gBD  : (List (Nat × PV)) → (Tab) → (Option Operand) → (Nat) → (Int) → Prop where
 | cnone {tab : Tab} (sl : List (Nat × PV)) (m : Nat) : gBD sl tab none m (m : Int)
 | csome {sl : List (Nat × PV)} {tab : Tab} {x : Operand} {m : Nat} {k : IntKind} {v : Int} (h : gEV sl tab 0 x (.g (.int k v))) : gBD sl tab (some x) m v
theorem gBD.s {sl : List (Nat × PV)} {tab : Tab} {x : Option Operand} {m : Nat} {v : Int} (h : gBD sl tab x m v) : BD sl tab x m v := by
 induction h
 ·apply Zs6 <;> (first | assumption | exact gEV.s (by assumption))
 ·apply ZtK <;> (first | assumption | exact gEV.s (by assumption))
inductive gSLI  : (List (Nat × PV)) → (Tab) → (List (Nat × Block)) → (TypeId) → (PV) → (Option Operand) → (Option Operand) → (PV) → Prop where
 | cown {sl : List (Nat × PV)} {hl : List (Nat × Block)} {tab : Tab} {t : TypeId} {E e : Nat} {id l0 len : Nat} {dp : Bool} {xs : List GV} {lo hi : Option Operand} {l u : Int} (ht : SLT tab t E e) (hb : gHL hl id (.arr (e + 1) dp xs)) (h5 : gBD sl tab lo 0 l) (h6 : gBD sl tab hi len u) (hn : NU (0 ≤ l ∧ l ≤ u ∧ u ≤ (len : Int))) : gSLI sl tab hl t (.own id l0 len) lo hi (.own id (l0 + l.toNat) (u.toNat - l.toNat))
 | cg {sl : List (Nat × PV)} {hl : List (Nat × Block)} {tab : Tab} {t : TypeId} {E e : Nat} {xs ys : List GV} {lo hi : Option Operand} {l u : Int} (ht : SLT tab t E e) (h5 : gBD sl tab lo 0 l) (h6 : gBD sl tab hi xs.length u) (hn : CUG xs l u ys) : gSLI sl tab hl t (.g (.sl (e + 1) xs)) lo hi (.g (.sl (e + 1) ys))
 | cs {sl : List (Nat × PV)} {hl : List (Nat × Block)} {tab : Tab} {t : TypeId} {s : ByteArray} {lo hi : Option Operand} {l u : Int} (ht : RF (strT tab t = true)) (h5 : gBD sl tab lo 0 l) (h6 : gBD sl tab hi s.size u) (hn : NU (0 ≤ l ∧ l ≤ u ∧ u ≤ (s.size : Int))) : gSLI sl tab hl t (.g (.str s)) lo hi (.g (.str (s.extract l.toNat u.toNat)))
theorem gSLI.s {sl : List (Nat × PV)} {tab : Tab} {hl : List (Nat × Block)} {t : TypeId} {x : PV} {lo hi : Option Operand} {v : PV} (h : gSLI sl tab hl t x lo hi v) : SLI sl tab hl t x lo hi v := by
 induction h
 ·apply Zuw <;> (first | assumption | exact gBD.s (by assumption) | exact gHL.s (by assumption))
 ·apply Zyw <;> (first | assumption | exact gBD.s (by assumption) | exact gHL.s (by assumption))
 ·apply ZyZ <;> (first | assumption | exact gBD.s (by assumption))
inductive gAND  : (Bool) → (Bool) → (Bool) → Prop where
 | ctt  : gAND true true true
 | cf (b : Bool) : gAND false b false
 | ctf  : gAND true false false
 | ct (b : Bool) : gAND true b b
theorem gAND.s {a b c : Bool} (h : gAND a b c) : AND a b c := by
 induction h
 ·apply Zw5 <;> (first | assumption)
 ·apply Zzb <;> (first | assumption)
 ·apply ZwL <;> (first | assumption)
 ·apply ZyI <;> (first | assumption)
inductive gAB  : (List (Nat × Block)) → (PV) → (GV) → (List Nat) → (Bool) → Prop where
 | cgi {hl : List (Nat × Block)} (k : IntKind) (n : Int) : gAB hl (.g (.int k n)) (.int k n) [] true
 | cgb {hl : List (Nat × Block)} (b : Bool) : gAB hl (.g (.bool b)) (.bool b) [] true
 | cgs {hl : List (Nat × Block)} (b : ByteArray) : gAB hl (.g (.str b)) (.str b) [] true
 | cgl {hl : List (Nat × Block)} (e : Nat) (xs : List GV) : gAB hl (.g (.sl e xs)) (.sl e xs) [] false
 | cnils {hl : List (Nat × Block)} (e : Nat) : gAB hl (.nils (e + 1)) (.sl (e + 1) []) [] true
 | cown {hl : List (Nat × Block)} {id lo len e : Nat} {dp : Bool} {xs ys : List GV} (hb : gHL hl id (.arr e dp xs)) (hc : CUT xs lo len ys) : gAB hl (.own id lo len) (.sl e ys) [id] dp
theorem gAB.s {hl : List (Nat × Block)} {p : PV} {x : GV} {ks : List Nat} {d : Bool} (h : gAB hl p x ks d) : AB hl p x ks d := by
 induction h
 ·apply Zyh <;> (first | assumption | exact gHL.s (by assumption))
 ·apply ZyQ <;> (first | assumption | exact gHL.s (by assumption))
 ·apply Zyl <;> (first | assumption | exact gHL.s (by assumption))
 ·apply Zx9 <;> (first | assumption | exact gHL.s (by assumption))
 ·apply Zok <;> (first | assumption | exact gHL.s (by assumption))
 ·apply ZrW <;> (first | assumption | exact gHL.s (by assumption))
inductive gABL  : (List (Nat × Block)) → (List PV) → (List GV) → (List Nat) → (Bool) → Prop where
 | cnil (hl : List (Nat × Block)) : gABL hl [] [] [] true
 | ccons {hl : List (Nat × Block)} {p : PV} {ps : List PV} {x : GV} {xs : List GV} {k ks : List Nat} {d ds dd : Bool} (h1 : gAB hl p x k d) (h2 : gABL (Zbe k hl) ps xs ks ds) (h3 : gAND d ds dd) : gABL hl (p :: ps) (x :: xs) (k ++ ks) dd
theorem gABL.s {hl : List (Nat × Block)} {ps : List PV} {gs : List GV} {ks : List Nat} {d : Bool} (h : gABL hl ps gs ks d) : ABL hl ps gs ks d := by
 induction h
 ·apply Zss <;> (first | assumption | exact gAB.s (by assumption) | exact gAND.s (by assumption))
 ·apply Zra <;> (first | assumption | exact gAB.s (by assumption) | exact gAND.s (by assumption))
inductive gALLA  : (List GV) → (Bool) → Prop where
 | cnil  : gALLA [] true
 | cint {k : IntKind} {n : Int} {gs : List GV} {b : Bool} (h : gALLA gs b) : gALLA (.int k n :: gs) b
 | cbool {n : Bool} {gs : List GV} {b : Bool} (h : gALLA gs b) : gALLA (.bool n :: gs) b
 | cstr {n : ByteArray} {gs : List GV} {b : Bool} (h : gALLA gs b) : gALLA (.str n :: gs) b
 | csl {e : Nat} {xs gs : List GV} : gALLA (.sl e xs :: gs) false
theorem gALLA.s {gs : List GV} {b : Bool} (h : gALLA gs b) : ALLA gs b := by
 induction h
 ·apply Zrb <;> (first | assumption)
 ·apply Zrg <;> (first | assumption)
 ·apply Zpu <;> (first | assumption)
 ·apply ZrM <;> (first | assumption)
 ·apply Ztz <;> (first | assumption)
inductive gAE  : (List (Nat × Block)) → (PV) → (GV) → (List Nat) → (Bool) → Prop where
 | cgi {hl : List (Nat × Block)} (k : IntKind) (n : Int) : gAE hl (.g (.int k n)) (.int k n) [] true
 | cgb {hl : List (Nat × Block)} (b : Bool) : gAE hl (.g (.bool b)) (.bool b) [] true
 | cgs {hl : List (Nat × Block)} (b : ByteArray) : gAE hl (.g (.str b)) (.str b) [] true
 | cgl {hl : List (Nat × Block)} (e : Nat) (xs : List GV) : gAE hl (.g (.sl e xs)) (.sl e xs) [] false
 | cga {hl : List (Nat × Block)} {gs : List GV} {b : Bool} (h : gALLA gs b) : gAE hl (.g (.agg gs)) (.agg gs) [] b
 | cnils {hl : List (Nat × Block)} (e : Nat) : gAE hl (.nils (e + 1)) (.sl (e + 1) []) [] true
 | cown {hl : List (Nat × Block)} {id lo len e : Nat} {dp : Bool} {xs ys : List GV} (hb : gHL hl id (.arr e dp xs)) (hc : CUT xs lo len ys) : gAE hl (.own id lo len) (.sl e ys) [id] dp
 | cagg {hl : List (Nat × Block)} {cs : List PV} {gs : List GV} {ks : List Nat} {d : Bool} (h : gABL hl cs gs ks d) (hn : RF ((gs.all fun x => x.ncells == 1) = true)) : gAE hl (.agg cs) (.agg gs) ks d
 | craw {hl : List (Nat × Block)} (c : Nat) (v : Value) : gAE hl (.g (.raw c v)) (.raw c v) [] false
theorem gAE.s {hl : List (Nat × Block)} {p : PV} {x : GV} {ks : List Nat} {d : Bool} (h : gAE hl p x ks d) : AE hl p x ks d := by
 induction h
 ·apply Zyv <;> (first | assumption | exact gABL.s (by assumption) | exact gALLA.s (by assumption) | exact gHL.s (by assumption))
 ·apply ZyB <;> (first | assumption | exact gABL.s (by assumption) | exact gALLA.s (by assumption) | exact gHL.s (by assumption))
 ·apply Zzj <;> (first | assumption | exact gABL.s (by assumption) | exact gALLA.s (by assumption) | exact gHL.s (by assumption))
 ·apply ZyC <;> (first | assumption | exact gABL.s (by assumption) | exact gALLA.s (by assumption) | exact gHL.s (by assumption))
 ·apply ZyV <;> (first | assumption | exact gABL.s (by assumption) | exact gALLA.s (by assumption) | exact gHL.s (by assumption))
 ·apply Zty <;> (first | assumption | exact gABL.s (by assumption) | exact gALLA.s (by assumption) | exact gHL.s (by assumption))
 ·apply ZxD <;> (first | assumption | exact gABL.s (by assumption) | exact gALLA.s (by assumption) | exact gHL.s (by assumption))
 ·apply Zvr <;> (first | assumption | exact gABL.s (by assumption) | exact gALLA.s (by assumption) | exact gHL.s (by assumption))
 ·exact Zvu _ _
inductive gAEL  : (List (Nat × Block)) → (List PV) → (List GV) → (List Nat) → (Bool) → Prop where
 | cnil (hl : List (Nat × Block)) : gAEL hl [] [] [] true
 | ccons {hl : List (Nat × Block)} {p : PV} {ps : List PV} {x : GV} {xs : List GV} {k ks : List Nat} {d ds dd : Bool} (h1 : gAE hl p x k d) (h2 : gAEL (Zbe k hl) ps xs ks ds) (h3 : gAND d ds dd) : gAEL hl (p :: ps) (x :: xs) (k ++ ks) dd
theorem gAEL.s {hl : List (Nat × Block)} {ps : List PV} {gs : List GV} {ks : List Nat} {d : Bool} (h : gAEL hl ps gs ks d) : AEL hl ps gs ks d := by
 induction h
 ·apply ZsR <;> (first | assumption | exact gAE.s (by assumption) | exact gAND.s (by assumption))
 ·apply Zqv <;> (first | assumption | exact gAE.s (by assumption) | exact gAND.s (by assumption))
inductive gSW  : (Tab) → (Nat) → (List (Nat × Block)) → (TypeId) → (PV) → (PV) → (List (Nat × Block)) → (List (Nat × Block)) → Prop where
 | cbox {hl : List (Nat × Block)} {tab : Tab} {nid : Nat} {t : TypeId} {ti : TI} {id off sz : Nat} {cs cs' ps : List PV} {p : PV} (hb : gHL hl id (.box cs)) (hp : gCP p ps) (ht : RF (tab t = some ti ∧ ti.size = sz)) (hs : RF (ps.length = sz)) (hc : gSetL cs off ps cs') : gSW tab nid hl t (.ptr id off) p [(id, .box cs')] ((id, .box cs') :: hl)
 | cint {hl : List (Nat × Block)} {tab : Tab} {nid : Nat} {t : TypeId} {ti : TI} {id k : Nat} {dp : Bool} {xs ys : List GV} {kk : IntKind} {m : Int} (hb : gHL hl id (.arr 1 dp xs)) (ht : RF (tab t = some ti ∧ ti.size = 1)) (hf : gHL hl nid .free) (hy : gPUT xs k (.int kk m) ys) (hk : NU (k < xs.length)) : gSW tab nid hl t (.eptr id k 0) (.g (.int kk m)) [(id, .arr 1 dp ys)] ((id, .arr 1 dp ys) :: hl)
 | cbool {hl : List (Nat × Block)} {tab : Tab} {nid : Nat} {t : TypeId} {ti : TI} {id k : Nat} {dp : Bool} {xs ys : List GV} {m : Bool} (hb : gHL hl id (.arr 1 dp xs)) (ht : RF (tab t = some ti ∧ ti.size = 1)) (hf : gHL hl nid .free) (hy : gPUT xs k (.bool m) ys) (hk : NU (k < xs.length)) : gSW tab nid hl t (.eptr id k 0) (.g (.bool m)) [(id, .arr 1 dp ys)] ((id, .arr 1 dp ys) :: hl)
 | cabs {hl : List (Nat × Block)} {tab : Tab} {nid : Nat} {t : TypeId} {ti : TI} {id k e : Nat} {dp d dd : Bool} {xs ys : List GV} {q : PV} {x : GV} {ks : List Nat} (hb : gHL hl id (.arr e dp xs)) (ht : RF (tab t = some ti ∧ ti.size = e)) (hf : gHL hl nid .free) (ha : gAE hl q x ks d) (hn : RF (x.ncells = e ∧ x.isTup = false)) (hks : DEC (id ∉ ks)) (hd : gAND dp d dd) (hy : gPUT xs k x ys) (hk : NU (k < xs.length)) : gSW tab nid hl t (.eptr id k 0) q (Zco ks ++ [(id, .arr e dd ys)]) ((id, .arr e dd ys) :: Zbe ks hl)
theorem gSW.s {tab : Tab} {nid : Nat} {hl : List (Nat × Block)} {t : TypeId} {p v : PV} {ws hl' : List (Nat × Block)} (h : gSW tab nid hl t p v ws hl') : SW tab nid hl t p v ws hl' := by
 induction h
 ·apply Zvx <;> (first | assumption | exact gAE.s (by assumption) | exact gAND.s (by assumption) | exact gCP.s (by assumption) | exact gHL.s (by assumption) | exact gPUT.s (by assumption) | exact gSetL.s (by assumption))
 ·apply ZwR <;> (first | assumption | exact gAE.s (by assumption) | exact gAND.s (by assumption) | exact gCP.s (by assumption) | exact gHL.s (by assumption) | exact gPUT.s (by assumption) | exact gSetL.s (by assumption))
 ·apply ZtG <;> (first | assumption | exact gAE.s (by assumption) | exact gAND.s (by assumption) | exact gCP.s (by assumption) | exact gHL.s (by assumption) | exact gPUT.s (by assumption) | exact gSetL.s (by assumption))
 ·apply Zxo <;> (first | assumption | exact gAE.s (by assumption) | exact gAND.s (by assumption) | exact gCP.s (by assumption) | exact gHL.s (by assumption) | exact gPUT.s (by assumption) | exact gSetL.s (by assumption))
inductive gEVP  : (List (Nat × PV)) → (Tab) → (TypeId) → (List (Nat × Operand)) → (List PV) → Prop where
 | cnil (sl : List (Nat × PV)) (tab : Tab) (E : TypeId) : gEVP sl tab E [] []
 | ccons {sl : List (Nat × PV)} {tab : Tab} {E : TypeId} {j : Nat} {x : Operand} {xs : List (Nat × Operand)} {p : PV} {ps : List PV} (h1 : gEV sl tab E x p) (h2 : gEVP sl tab E xs ps) : gEVP sl tab E ((j, x) :: xs) (p :: ps)
theorem gEVP.s {sl : List (Nat × PV)} {tab : Tab} {E : TypeId} {xs : List (Nat × Operand)} {ps : List PV} (h : gEVP sl tab E xs ps) : EVP sl tab E xs ps := by
 induction h
 ·apply ZsN <;> (first | assumption | exact gEV.s (by assumption))
 ·apply ZqH <;> (first | assumption | exact gEV.s (by assumption))
inductive gEVF  : (List (Nat × PV)) → (Tab) → (TI) → (List (Nat × Operand)) → (List (Nat × PV)) → Prop where
 | cnil (sl : List (Nat × PV)) (tab : Tab) (ti : TI) : gEVF sl tab ti [] []
 | ccons {sl : List (Nat × PV)} {tab : Tab} {ti : TI} {j : Nat} {x : Operand} {xs : List (Nat × Operand)} {p : PV} {ps : List (Nat × PV)} (h1 : gEV sl tab (ZfQ ti j) x p) (h2 : gEVF sl tab ti xs ps) : gEVF sl tab ti ((j, x) :: xs) ((j, p) :: ps)
theorem gEVF.s {sl : List (Nat × PV)} {tab : Tab} {ti : TI} {xs : List (Nat × Operand)} {ps : List (Nat × PV)} (h : gEVF sl tab ti xs ps) : EVF sl tab ti xs ps := by
 induction h
 ·apply Zuj <;> (first | assumption | exact gEV.s (by assumption))
 ·apply Zq1 <;> (first | assumption | exact gEV.s (by assumption))
inductive gEVL  : (List (Nat × PV)) → (Tab) → (List Operand) → (List PV) → Prop where
 | cnil (sl : List (Nat × PV)) (tab : Tab) : gEVL sl tab [] []
 | ccons {sl : List (Nat × PV)} {tab : Tab} {x : Operand} {xs : List Operand} {p : PV} {ps : List PV} (h1 : gEV sl tab 0 x p) (h2 : gEVL sl tab xs ps) : gEVL sl tab (x :: xs) (p :: ps)
theorem gEVL.s {sl : List (Nat × PV)} {tab : Tab} {xs : List Operand} {ps : List PV} (h : gEVL sl tab xs ps) : EVL sl tab xs ps := by
 induction h
 ·apply ZsD <;> (first | assumption | exact gEV.s (by assumption))
 ·apply ZrB <;> (first | assumption | exact gEV.s (by assumption))
inductive gARG  : (List (Nat × PV)) → (Tab) → (List Operand) → (List TypeId) → (List PV) → Prop where
 | cnil (sl : List (Nat × PV)) (tab : Tab) (ts : List TypeId) : gARG sl tab [] ts []
 | ccons {sl : List (Nat × PV)} {tab : Tab} {x : Operand} {xs : List Operand} {t : TypeId} {ts : List TypeId} {p : PV} {ps : List PV} (h1 : gEV sl tab t x p) (h2 : gARG sl tab xs ts ps) : gARG sl tab (x :: xs) (t :: ts) (p :: ps)
 | ccons0 {sl : List (Nat × PV)} {tab : Tab} {x : Operand} {xs : List Operand} {p : PV} {ps : List PV} (h1 : gEV sl tab 0 x p) (h2 : gARG sl tab xs [] ps) : gARG sl tab (x :: xs) [] (p :: ps)
theorem gARG.s {sl : List (Nat × PV)} {tab : Tab} {xs : List Operand} {ts : List TypeId} {ps : List PV} (h : gARG sl tab xs ts ps) : ARG sl tab xs ts ps := by
 induction h
 ·apply Zuo <;> (first | assumption | exact gEV.s (by assumption))
 ·apply Zqj <;> (first | assumption | exact gEV.s (by assumption))
 ·apply Zo0 <;> (first | assumption | exact gEV.s (by assumption))
inductive gFNV  : (PV) → (FuncId) → (List PV) → Prop where
 | cfn (f : FuncId) (cs : List PV) : gFNV (.fn f cs) f cs
 | cgm (f : FuncId) (gs : List GV) : gFNV (.g (.fn f gs)) f (gs.map .g)
theorem gFNV.s {p : PV} {f : FuncId} {caps : List PV} (h : gFNV p f caps) : FNV p f caps := by
 induction h
 ·apply Zvi <;> (first | assumption)
 ·apply Zvv <;> (first | assumption)
inductive gFN  : (List (Nat × PV)) → (Tab) → (Operand) → (FuncId) → (List PV) → Prop where
 | cfunc (sl : List (Nat × PV)) (tab : Tab) (f : FuncId) : gFN sl tab (.func f) f []
 | cval {sl : List (Nat × PV)} {tab : Tab} {t : Nat} {f : FuncId} {cs : List PV} {p : PV} (h : gSL sl t p) (hp : gFNV p f cs) : gFN sl tab (.tmp t) f cs
theorem gFN.s {sl : List (Nat × PV)} {tab : Tab} {x : Operand} {f : FuncId} {caps : List PV} (h : gFN sl tab x f caps) : FN sl tab x f caps := by
 induction h
 ·apply Zts <;> (first | assumption | exact gFNV.s (by assumption) | exact gSL.s (by assumption))
 ·apply ZvR <;> (first | assumption | exact gFNV.s (by assumption) | exact gSL.s (by assumption))
inductive gRSL  : (Nat) → (List GV) → (List (Nat × Block)) → (List PV) → (List (Nat × Block)) → Prop where
 | cnil (nid : Nat) (hl : List (Nat × Block)) : gRSL nid [] hl [] hl
 | cint {hl : List (Nat × Block)} {nid : Nat} {k : IntKind} {m : Int} {gs : List GV} {ps : List PV} {hl' : List (Nat × Block)} (hf : gHL hl nid .free) (h : gRSL (nid + 1) gs hl ps hl') : gRSL nid (.int k m :: gs) hl (.g (.int k m) :: ps) hl'
 | cbool {hl : List (Nat × Block)} {nid : Nat} {b : Bool} {gs : List GV} {ps : List PV} {hl' : List (Nat × Block)} (hf : gHL hl nid .free) (h : gRSL (nid + 1) gs hl ps hl') : gRSL nid (.bool b :: gs) hl (.g (.bool b) :: ps) hl'
 | cstr {hl : List (Nat × Block)} {nid : Nat} {s : ByteArray} {gs : List GV} {ps : List PV} {hl' : List (Nat × Block)} (hf : gHL hl nid .free) (h : gRSL (nid + 1) gs hl ps hl') : gRSL nid (.str s :: gs) hl (.g (.str s) :: ps) hl'
 | csl {hl : List (Nat × Block)} {nid e m : Nat} {xs gs : List GV} {ps : List PV} {hl' : List (Nat × Block)} (hf : gHL hl nid .free) (hm : gLEN xs m) (h : gRSL (nid + 1) gs ((nid, .arr e true xs) :: hl) ps hl') : gRSL nid (.sl e xs :: gs) hl (.own nid 0 m :: ps) hl'
theorem gRSL.s {nid : Nat} {gs : List GV} {hl : List (Nat × Block)} {ps : List PV} {hl' : List (Nat × Block)} (h : gRSL nid gs hl ps hl') : RSL nid gs hl ps hl' := by
 induction h
 ·apply ZhJ <;> (first | assumption | exact gHL.s (by assumption) | exact gLEN.s (by assumption))
 ·apply ZoZ <;> (first | assumption | exact gHL.s (by assumption) | exact gLEN.s (by assumption))
 ·apply Zm2 <;> (first | assumption | exact gHL.s (by assumption) | exact gLEN.s (by assumption))
 ·apply ZoY <;> (first | assumption | exact gHL.s (by assumption) | exact gLEN.s (by assumption))
 ·apply ZrX <;> (first | assumption | exact gHL.s (by assumption) | exact gLEN.s (by assumption))
inductive gRTL  : (Nat) → (List GV) → (List (Nat × Block)) → (List PV) → (List (Nat × Block)) → Prop where
 | cnil (nid : Nat) (hl : List (Nat × Block)) : gRTL nid [] hl [] hl
 | cint {hl : List (Nat × Block)} {nid : Nat} {k : IntKind} {m : Int} {gs : List GV} {ps : List PV} {hl' : List (Nat × Block)} (hf : gHL hl nid .free) (h : gRTL (nid + 1) gs hl ps hl') : gRTL nid (.int k m :: gs) hl (.g (.int k m) :: ps) hl'
 | cbool {hl : List (Nat × Block)} {nid : Nat} {b : Bool} {gs : List GV} {ps : List PV} {hl' : List (Nat × Block)} (hf : gHL hl nid .free) (h : gRTL (nid + 1) gs hl ps hl') : gRTL nid (.bool b :: gs) hl (.g (.bool b) :: ps) hl'
 | cstr {hl : List (Nat × Block)} {nid : Nat} {s : ByteArray} {gs : List GV} {ps : List PV} {hl' : List (Nat × Block)} (hf : gHL hl nid .free) (h : gRTL (nid + 1) gs hl ps hl') : gRTL nid (.str s :: gs) hl (.g (.str s) :: ps) hl'
 | csl {hl : List (Nat × Block)} {nid e m : Nat} {xs gs : List GV} {ps : List PV} {hl' : List (Nat × Block)} (hf : gHL hl nid .free) (hm : gLEN xs m) (h : gRTL (nid + 1) gs ((nid, .arr e true xs) :: hl) ps hl') : gRTL nid (.sl e xs :: gs) hl (.own nid 0 m :: ps) hl'
 | cagg {hl : List (Nat × Block)} {nid m : Nat} {xs gs : List GV} {qs ps : List PV} {hl1 hl' : List (Nat × Block)} (h1 : gRSL nid xs hl qs hl1) (hm : RF (xs.length = m)) (h : gRTL (nid + m) gs hl1 ps hl') : gRTL nid (.agg xs :: gs) hl (.agg qs :: ps) hl'
theorem gRTL.s {nid : Nat} {cs : List GV} {hl : List (Nat × Block)} {ps : List PV} {hl' : List (Nat × Block)} (h : gRTL nid cs hl ps hl') : RTL nid cs hl ps hl' := by
 induction h
 ·apply ZuM <;> (first | assumption | exact gHL.s (by assumption) | exact gLEN.s (by assumption) | exact gRSL.s (by assumption))
 ·apply ZtF <;> (first | assumption | exact gHL.s (by assumption) | exact gLEN.s (by assumption) | exact gRSL.s (by assumption))
 ·apply Zp2 <;> (first | assumption | exact gHL.s (by assumption) | exact gLEN.s (by assumption) | exact gRSL.s (by assumption))
 ·apply ZtM <;> (first | assumption | exact gHL.s (by assumption) | exact gLEN.s (by assumption) | exact gRSL.s (by assumption))
 ·apply ZwM <;> (first | assumption | exact gHL.s (by assumption) | exact gLEN.s (by assumption) | exact gRSL.s (by assumption))
 ·apply Ztd <;> (first | assumption | exact gHL.s (by assumption) | exact gLEN.s (by assumption) | exact gRSL.s (by assumption))
inductive gRES  : (Nat) → (GV) → (List (Nat × Block)) → (PV) → (List (Nat × Block)) → Prop where
 | cint {hl : List (Nat × Block)} {nid : Nat} {k : IntKind} {m : Int} (hf : gHL hl nid .free) : gRES nid (.int k m) hl (.g (.int k m)) hl
 | cbool {hl : List (Nat × Block)} {nid : Nat} {b : Bool} (hf : gHL hl nid .free) : gRES nid (.bool b) hl (.g (.bool b)) hl
 | cstr {hl : List (Nat × Block)} {nid : Nat} {s : ByteArray} (hf : gHL hl nid .free) : gRES nid (.str s) hl (.g (.str s)) hl
 | csl {hl : List (Nat × Block)} {nid e m : Nat} {xs : List GV} (hf : gHL hl nid .free) (hm : gLEN xs m) : gRES nid (.sl e xs) hl (.own nid 0 m) ((nid, .arr e true xs) :: hl)
 | cagg {hl : List (Nat × Block)} {nid : Nat} {gs : List GV} {ps : List PV} {hl' : List (Nat × Block)} (h : gRSL nid gs hl ps hl') (h8 : RF (Nat.ble gs.length 8 = true)) : gRES nid (.agg gs) hl (.agg ps) hl'
 | ctup {hl : List (Nat × Block)} {nid : Nat} {cs : List GV} {ps : List PV} {hl' : List (Nat × Block)} (h : gRTL nid cs hl ps hl') (h8 : RF (Nat.ble (ZaM cs).length 8 = true)) : gRES nid (.tup cs) hl (.tup ps) hl'
theorem gRES.s {nid : Nat} {r : GV} {hl : List (Nat × Block)} {pv : PV} {hl' : List (Nat × Block)} (h : gRES nid r hl pv hl') : RES nid r hl pv hl' := by
 induction h
 ·apply Zsn <;> (first | assumption | exact gHL.s (by assumption) | exact gLEN.s (by assumption) | exact gRSL.s (by assumption) | exact gRTL.s (by assumption))
 ·apply ZqU <;> (first | assumption | exact gHL.s (by assumption) | exact gLEN.s (by assumption) | exact gRSL.s (by assumption) | exact gRTL.s (by assumption))
 ·apply ZtX <;> (first | assumption | exact gHL.s (by assumption) | exact gLEN.s (by assumption) | exact gRSL.s (by assumption) | exact gRTL.s (by assumption))
 ·apply ZxW <;> (first | assumption | exact gHL.s (by assumption) | exact gLEN.s (by assumption) | exact gRSL.s (by assumption) | exact gRTL.s (by assumption))
 ·apply ZsY <;> (first | assumption | exact gHL.s (by assumption) | exact gLEN.s (by assumption) | exact gRSL.s (by assumption) | exact gRTL.s (by assumption))
 ·apply Zs4 <;> (first | assumption | exact gHL.s (by assumption) | exact gLEN.s (by assumption) | exact gRSL.s (by assumption) | exact gRTL.s (by assumption))
inductive gFIL  : (Nat → Option (Nat × Nat)) → (List PV) → (List (Nat × PV)) → (List PV) → Prop where
 | cnil (ZbG : Nat → Option (Nat × Nat)) (cs : List PV) : gFIL ZbG cs [] cs
 | ccons {ZbG : Nat → Option (Nat × Nat)} {cs cs1 cs' qs : List PV} {j off sz : Nat} {p : PV} {ps : List (Nat × PV)} (h1 : RF (ZbG j = some (off, sz))) (hp : gCP p qs) (hs : RF (qs.length = sz)) (hc : gSetL cs off qs cs1) (h : gFIL ZbG cs1 ps cs') : gFIL ZbG cs ((j, p) :: ps) cs'
theorem gFIL.s {ZbG : Nat → Option (Nat × Nat)} {cs : List PV} {ps : List (Nat × PV)} {cs' : List PV} (h : gFIL ZbG cs ps cs') : FIL ZbG cs ps cs' := by
 induction h
 ·apply Zt6 <;> (first | assumption | exact gCP.s (by assumption) | exact gSetL.s (by assumption))
 ·apply ZrR <;> (first | assumption | exact gCP.s (by assumption) | exact gSetL.s (by assumption))
inductive gRPL  : (Nat) → (GV) → (List GV) → Prop where
 | cint (k : Nat) (kk : IntKind) (m : Int) : gRPL k (.int kk m) ((List.replicate k m).map (GV.int kk))
 | cbool (k : Nat) (b : Bool) : gRPL k (.bool b) ((List.replicate k b).map GV.bool)
 | csl (k : Nat) : gRPL k (.sl 1 []) ((List.replicate k []).map GV.ints)
 | cany (k : Nat) (z : GV) : gRPL k z (List.replicate k z)
theorem gRPL.s {k : Nat} {z : GV} {xs : List GV} (h : gRPL k z xs) : RPL k z xs := by
 induction h
 ·apply ZsZ <;> (first | assumption)
 ·apply Zqd <;> (first | assumption)
 ·apply ZwE <;> (first | assumption)
 ·apply Zue <;> (first | assumption)
inductive gLN  : (Tab) → (List (Nat × Block)) → (TypeId) → (PV) → (Int) → Prop where
 | cown {hl : List (Nat × Block)} {tab : Tab} {t E e : Nat} {id lo len e' : Nat} {dp : Bool} {xs : List GV} (ht : SLT tab t E e) (hb : gHL hl id (.arr e' dp xs)) : gLN tab hl t (.own id lo len) (len : Int)
 | cg {hl : List (Nat × Block)} {tab : Tab} {t E e e' m : Nat} {xs : List GV} (ht : SLT tab t E e) (hm : gLEN xs m) : gLN tab hl t (.g (.sl e' xs)) (m : Int)
 | cnils {hl : List (Nat × Block)} {tab : Tab} {t E e e' : Nat} (ht : SLT tab t E e) : gLN tab hl t (.nils e') 0
 | cstr {hl : List (Nat × Block)} {tab : Tab} {t : Nat} {s : ByteArray} {ti : TI} (ht : RF (tab t = some ti ∧ ti.kind = .str)) : gLN tab hl t (.g (.str s)) (s.size : Int)
 | cge {hl : List (Nat × Block)} {tab : Tab} {t E e e' m : Nat} {u : Value} {xs : List GV} (ht : SLT tab t E e) (hm : gLEN xs m) : gLN tab hl t (.g (.ex u e' xs)) (m : Int)
 | cgb {hl : List (Nat × Block)} {tab : Tab} {t E e e' m : Nat} {u : Nat} {xs : List GV} (ht : SLT tab t E e) (hm : gLEN xs m) : gLN tab hl t (.g (.bd u e' xs)) (m : Int)
theorem gLN.s {tab : Tab} {hl : List (Nat × Block)} {t : TypeId} {p : PV} {m : Int} (h : gLN tab hl t p m) : LN tab hl t p m := by
 induction h
 ·apply Zu6 <;> (first | assumption | exact gHL.s (by assumption) | exact gLEN.s (by assumption))
 ·apply LN_g <;> (first | assumption | exact gHL.s (by assumption) | exact gLEN.s (by assumption))
 ·apply ZtL <;> (first | assumption | exact gHL.s (by assumption) | exact gLEN.s (by assumption))
 ·apply Zvo <;> (first | assumption | exact gHL.s (by assumption) | exact gLEN.s (by assumption))
 ·apply Zzn <;> (first | assumption | exact gHL.s (by assumption) | exact gLEN.s (by assumption))
 ·apply ZyJ <;> (first | assumption | exact gHL.s (by assumption) | exact gLEN.s (by assumption))
inductive gFLK  : (List GV) → (Bool) → Prop where
 | cints (k : IntKind) (ys : List Int) : gFLK (ys.map (GV.int k)) true
 | cbools (ys : List Bool) : gFLK (ys.map GV.bool) true
 | cstrs (ys : List ByteArray) : gFLK (ys.map GV.str) true
 | cnil  : gFLK [] true
 | cconsi {k : IntKind} {n : Int} {xs : List GV} {b : Bool} (h : gFLK xs b) : gFLK (.int k n :: xs) b
 | cconsb {n : Bool} {xs : List GV} {b : Bool} (h : gFLK xs b) : gFLK (.bool n :: xs) b
 | cconss {n : ByteArray} {xs : List GV} {b : Bool} (h : gFLK xs b) : gFLK (.str n :: xs) b
 | csl {e : Nat} {ys xs : List GV} : gFLK (.sl e ys :: xs) false
 | cagg {ys : List GV} {b : Bool} (h : gALLA ys b) : gFLK [.agg ys] b
 | cmnil {α : Type} {f : α → GV} : gFLK (([] : List α).map f) true
 | cmcons {α : Type} {f : α → GV} {x : α} {xs : List α} (h : RF ((f x).flat = false)) : gFLK ((x :: xs).map f) false
 | craw {c : Nat} {v : Value} {xs : List GV} : gFLK (.raw c v :: xs) false
theorem gFLK.s {ys : List GV} {b : Bool} (h : gFLK ys b) : FLK ys b := by
 induction h
 ·apply Zq6 <;> (first | assumption | exact gALLA.s (by assumption))
 ·apply Zod <;> (first | assumption | exact gALLA.s (by assumption))
 ·apply ZqW <;> (first | assumption | exact gALLA.s (by assumption))
 ·apply Zsl <;> (first | assumption | exact gALLA.s (by assumption))
 ·apply ZoH <;> (first | assumption | exact gALLA.s (by assumption))
 ·apply ZoM <;> (first | assumption | exact gALLA.s (by assumption))
 ·apply ZpU <;> (first | assumption | exact gALLA.s (by assumption))
 ·apply Zxa <;> (first | assumption | exact gALLA.s (by assumption))
 ·apply Ztx <;> (first | assumption | exact gALLA.s (by assumption))
 ·apply Zro <;> (first | assumption | exact gALLA.s (by assumption))
 ·apply Zph <;> (first | assumption | exact gALLA.s (by assumption))
 ·exact ZuO
inductive gSK  : (Nat) → (Bool) → (Bool) → (List Nat) → (Bool) → Prop where
 | ct (id : Nat) (dp : Bool) : gSK id dp true [] true
 | cf (id : Nat) (dp : Bool) : gSK id dp false [id] dp
theorem gSK.s {id : Nat} {dp b : Bool} {ks : List Nat} {d : Bool} (h : gSK id dp b ks d) : SK id dp b ks d := by
 induction h
 ·apply SK_t <;> (first | assumption)
 ·apply SK_f <;> (first | assumption)
inductive gSR  : (List (Nat × Block)) → (Nat) → (PV) → (List GV) → (List Nat) → (Bool) → Prop where
 | cnils {hl : List (Nat × Block)} (e e' : Nat) : gSR hl e (.nils e') [] [] true
 | cgb {hl : List (Nat × Block)} {e : Nat} {ys : List GV} {b : Bool} (hf : gFLB ys b) : gSR hl e (.g (.sl e ys)) ys [] b
 | cown {hl : List (Nat × Block)} {id lo len e : Nat} {dp b d : Bool} {ks : List Nat} {xs ys : List GV} (hb : gHL hl id (.arr e dp xs)) (hc : CUT xs lo len ys) (hf : gFLK ys b) (hs : gSK id dp b ks d) : gSR hl e (.own id lo len) ys ks d
theorem gSR.s {hl : List (Nat × Block)} {e : Nat} {p : PV} {ys : List GV} {ks : List Nat} {d : Bool} (h : gSR hl e p ys ks d) : SR hl e p ys ks d := by
 induction h
 ·apply Zsy <;> (first | assumption | exact gFLB.s (by assumption) | exact gFLK.s (by assumption) | exact gHL.s (by assumption) | exact gSK.s (by assumption))
 ·apply ZyO <;> (first | assumption | exact gFLB.s (by assumption) | exact gFLK.s (by assumption) | exact gHL.s (by assumption) | exact gSK.s (by assumption))
 ·apply ZxN <;> (first | assumption | exact gFLB.s (by assumption) | exact gFLK.s (by assumption) | exact gHL.s (by assumption) | exact gSK.s (by assumption))
inductive gDS  : (List (Nat × Block)) → (Nat) → (PV) → (List GV) → (List Nat) → (Bool) → Prop where
 | cnils {hl : List (Nat × Block)} (e : Nat) : gDS hl e (.nils e) [] [] true
 | cown {hl : List (Nat × Block)} {id lo len e : Nat} {dp : Bool} {xs ys : List GV} (hb : gHL hl id (.arr e dp xs)) (hc : CUT xs lo len ys) : gDS hl e (.own id lo len) ys [id] dp
theorem gDS.s {hl : List (Nat × Block)} {e : Nat} {p : PV} {xs : List GV} {ks : List Nat} {d : Bool} (h : gDS hl e p xs ks d) : DS hl e p xs ks d := by
 induction h
 ·apply Zsr <;> (first | assumption | exact gHL.s (by assumption))
 ·apply ZwI <;> (first | assumption | exact gHL.s (by assumption))
inductive gAPP {α : Type} : (List α) → (List α) → (List α) → Prop where
 | cnil (ys : List α) : gAPP [] ys ys
 | ccons {x : α} {xs ys zs : List α} (h : gAPP xs ys zs) : gAPP (x :: xs) ys (x :: zs)
theorem gAPP.s {α : Type} {xs ys zs : List α} (h : gAPP xs ys zs) : APP xs ys zs := by
 induction h
 ·apply ZtS <;> (first | assumption)
 ·apply Zp0 <;> (first | assumption)
inductive gCMP  : (PV) → (Bool) → (List PV) → Prop where
 | cagg (ps : List PV) : gCMP (.agg ps) true ps
 | cown (id lo len : Nat) : gCMP (.own id lo len) false [.own id lo len]
theorem gCMP.s {p : PV} {ag : Bool} {ps : List PV} (h : gCMP p ag ps) : CMP p ag ps := by
 induction h
 ·apply ZtC <;> (first | assumption)
 ·apply Zu5 <;> (first | assumption)
inductive gWG  : (List (Nat × Block)) → (List PV) → (List GV) → Prop where
 | cnil (hl : List (Nat × Block)) : gWG hl [] []
 | catom {hl : List (Nat × Block)} {x : GV} {ps : List PV} {gs : List GV} (h : gWG hl ps gs) : gWG hl (.g x :: ps) (x :: gs)
 | cown {hl : List (Nat × Block)} {id e len : Nat} {xs : List GV} {ps : List PV} {gs : List GV} (hb : gHL hl id (.arr e true xs)) (h : gWG hl ps gs) : gWG hl (.own id 0 len :: ps) (.sl e xs :: gs)
theorem gWG.s {hl : List (Nat × Block)} {ps : List PV} {gs : List GV} (h : gWG hl ps gs) : WG hl ps gs := by
 induction h
 ·apply ZvP <;> (first | assumption | exact gHL.s (by assumption))
 ·apply ZuJ <;> (first | assumption | exact gHL.s (by assumption))
 ·apply ZvJ <;> (first | assumption | exact gHL.s (by assumption))
inductive gRPV  : (Nat) → (Option Nat) → (PV) → Prop where
 | cnone (id : Nat) : gRPV id none .undef
 | csome (id m : Nat) : gRPV id (some m) (.own id 0 m)
theorem gRPV.s {id : Nat} {cut : Option Nat} {pv : PV} (h : gRPV id cut pv) : RPV id cut pv := by
 induction h
 ·apply Zp7 <;> (first | assumption)
 ·apply Zrl <;> (first | assumption)
inductive gWW  : (List (Nat × Block)) → (List (Nat × Block)) → (List PV) → (List GV) → (List GV) → (List (Nat × Block)) → (List (List Nat)) → (List (Nat × Block)) → Prop where
 | cnil (h0 hl : List (Nat × Block)) : gWW h0 hl [] [] [] [] [] hl
 | catom {h0 hl hl' : List (Nat × Block)} {x : GV} {ps : List PV} {gs gs' : List GV} {ws : List (Nat × Block)} {is : List (List Nat)} (hx : RF (x.atom = true)) (h : gWW h0 hl ps gs gs' ws is hl') : gWW h0 hl (.g x :: ps) (x :: gs) (x :: gs') ws ([] :: is) hl'
 | cown {h0 hl hl' : List (Nat × Block)} {id e len : Nat} {xs ys : List GV} {ps : List PV} {gs gs' : List GV} {ws : List (Nat × Block)} {is : List (List Nat)} (hb : gHL h0 id (.arr e true xs)) (hq : LENQ len xs ys) (h : gWW h0 ((id, .arr e true ys) :: hl) ps gs gs' ws is hl') (hn : RF ((ws.all fun x => !(Nat.beq x.1 id)) = true)) : gWW h0 hl (.own id 0 len :: ps) (.sl e xs :: gs) (.sl e ys :: gs') ((id, .arr e true ys) :: ws) ([id] :: is) hl'
theorem gWW.s {h0 hl : List (Nat × Block)} {ps : List PV} {gs gs' : List GV} {ws : List (Nat × Block)} {is : List (List Nat)} {hl' : List (Nat × Block)} (h : gWW h0 hl ps gs gs' ws is hl') : WW h0 hl ps gs gs' ws is hl' := by
 induction h
 ·apply ZxC <;> (first | assumption | exact gHL.s (by assumption))
 ·apply ZtT <;> (first | assumption | exact gHL.s (by assumption))
 ·apply Zvs <;> (first | assumption | exact gHL.s (by assumption))
inductive gRN  : (List Nat) → (PV) → (PV) → Prop where
 | cg {ρ : List Nat} {a b : GV} (h : EQ a b) : gRN ρ (.g a) (.g b)
 | cnone {ρ : List Nat} : gRN ρ .none_ .none_
 | cnils {ρ : List Nat} (e : Nat) : gRN ρ (.nils e) (.nils e)
 | ciptr {ρ : List Nat} (cs : List GV) : gRN ρ (.iptr cs) (.iptr cs)
 | cown {ρ : List Nat} {id j lo lo' len len' : Nat} (h : RF (ρ[j]? = some id)) (h1 : EQ lo lo') (h2 : EQ len len') : gRN ρ (.own id lo len) (.own j lo' len')
 | cptr {ρ : List Nat} {id j o : Nat} (h : RF (ρ[j]? = some id)) : gRN ρ (.ptr id o) (.ptr j o)
 | ceptr {ρ : List Nat} {id j k k' i : Nat} (h : RF (ρ[j]? = some id)) (h1 : EQ k k') : gRN ρ (.eptr id k i) (.eptr j k' i)
theorem gRN.s {ρ : List Nat} {p v : PV} (h : gRN ρ p v) : RN ρ p v := by
 induction h
 ·apply RN_g <;> (first | assumption)
 ·apply Zsj <;> (first | assumption)
 ·apply Zud <;> (first | assumption)
 ·apply ZsX <;> (first | assumption)
 ·apply ZxM <;> (first | assumption)
 ·apply ZxL <;> (first | assumption)
 ·apply Zs1 <;> (first | assumption)
inductive gRNL  : (List Nat) → (List PV) → (List PV) → Prop where
 | cnil {ρ : List Nat} : gRNL ρ [] []
 | ccons {ρ : List Nat} {p v : PV} {ps vs : List PV} (h : gRN ρ p v) (h2 : gRNL ρ ps vs) : gRNL ρ (p :: ps) (v :: vs)
theorem gRNL.s {ρ : List Nat} {ps vs : List PV} (h : gRNL ρ ps vs) : RNL ρ ps vs := by
 induction h
 ·apply Zun <;> (first | assumption | exact gRN.s (by assumption))
 ·apply ZrK <;> (first | assumption | exact gRN.s (by assumption))
inductive gRV  : (List Nat) → (PV) → (PV) → Prop where
 | cagg {ρ : List Nat} {ps vs : List PV} (h : gRNL ρ ps vs) : gRV ρ (.agg ps) (.agg vs)
 | cfn {ρ : List Nat} {f : FuncId} {ps vs : List PV} (h : gRNL ρ ps vs) : gRV ρ (.fn f ps) (.fn f vs)
 | c0 {ρ : List Nat} {p v : PV} (h : gRN ρ p v) : gRV ρ p v
theorem gRV.s {ρ : List Nat} {p v : PV} (h : gRV ρ p v) : RV ρ p v := by
 induction h
 ·apply ZvE <;> (first | assumption | exact gRN.s (by assumption) | exact gRNL.s (by assumption))
 ·apply Zya <;> (first | assumption | exact gRN.s (by assumption) | exact gRNL.s (by assumption))
 ·apply RV_0 <;> (first | assumption | exact gRN.s (by assumption) | exact gRNL.s (by assumption))
inductive gRVL  : (List Nat) → (List PV) → (List PV) → Prop where
 | cnil {ρ : List Nat} : gRVL ρ [] []
 | ccons {ρ : List Nat} {p v : PV} {ps vs : List PV} (h : gRV ρ p v) (h2 : gRVL ρ ps vs) : gRVL ρ (p :: ps) (v :: vs)
theorem gRVL.s {ρ : List Nat} {ps vs : List PV} (h : gRVL ρ ps vs) : RVL ρ ps vs := by
 induction h
 ·apply ZsE <;> (first | assumption | exact gRV.s (by assumption))
 ·apply Zqs <;> (first | assumption | exact gRV.s (by assumption))
inductive gRB  : (List Nat) → (Block) → (Block) → Prop where
 | carr {ρ : List Nat} {e : Nat} {dp : Bool} {xs ys : List GV} (h : EQ xs ys) : gRB ρ (.arr e dp xs) (.arr e dp ys)
 | cbox {ρ : List Nat} {cs cs' : List PV} (h : gRVL ρ cs cs') : gRB ρ (.box cs) (.box cs')
 | clim {ρ : List Nat} (N : Nat) : gRB ρ (.lim N) (.lim N)
theorem gRB.s {ρ : List Nat} {b b' : Block} (h : gRB ρ b b') : RB ρ b b' := by
 induction h
 ·apply ZxT <;> (first | assumption | exact gRVL.s (by assumption))
 ·apply Zv8 <;> (first | assumption | exact gRVL.s (by assumption))
 ·exact Zw9
inductive gHS  : (List Nat) → (List (Nat × PV)) → (List (Nat × PV)) → Prop where
 | cnil {ρ : List Nat} (sl : List (Nat × PV)) : gHS ρ sl []
 | ccons {ρ : List Nat} {t : Nat} {p v : PV} {sl sl' : List (Nat × PV)} (h1 : gSL sl t p) (h2 : gRV ρ p v) (h3 : gHS ρ sl sl') : gHS ρ sl ((t, v) :: sl')
theorem gHS.s {ρ : List Nat} {sl sl' : List (Nat × PV)} (h : gHS ρ sl sl') : HS ρ sl sl' := by
 induction h
 ·apply ZvD <;> (first | assumption | exact gRV.s (by assumption) | exact gSL.s (by assumption))
 ·apply Ztu <;> (first | assumption | exact gRV.s (by assumption) | exact gSL.s (by assumption))
inductive gHB  : (List Nat) → (List (Nat × Block)) → (List Nat) → (Nat) → (List (Nat × Block)) → Prop where
 | cnil {ρ : List Nat} (hl : List (Nat × Block)) (k : Nat) : gHB ρ hl [] k []
 | ccons {ρ is : List Nat} {i k : Nat} {B B' : Block} {hl hl' : List (Nat × Block)} (h1 : gHL hl i B) (h2 : gRB ρ B B') (h3 : gHB ρ hl is (k + 1) hl') : gHB ρ hl (i :: is) k ((k, B') :: hl')
theorem gHB.s {ρ : List Nat} {hl : List (Nat × Block)} {is : List Nat} {k : Nat} {hl' : List (Nat × Block)} (h : gHB ρ hl is k hl') : HB ρ hl is k hl' := by
 induction h
 ·apply ZrU <;> (first | assumption | exact gHL.s (by assumption) | exact gRB.s (by assumption))
 ·apply Zsd <;> (first | assumption | exact gHL.s (by assumption) | exact gRB.s (by assumption))
inductive gRL  : (Tab) → (List (Nat × PV)) → (List (Nat × Block)) → (List ResultVar) → (List PV) → Prop where
 | cnil {tab : Tab} (sl : List (Nat × PV)) (hl : List (Nat × Block)) : gRL tab sl hl [] []
 | ctmp {sl : List (Nat × PV)} {hl : List (Nat × Block)} {tab : Tab} {t : Nat} {rs : List ResultVar} {p : PV} {ps : List PV} (h1 : gSL sl t p) (h2 : gRL tab sl hl rs ps) : gRL tab sl hl (.tmp t :: rs) (p :: ps)
 | ccell {sl : List (Nat × PV)} {hl : List (Nat × Block)} {tab : Tab} {a : Nat} {t : TypeId} {rs : List ResultVar} {q p : PV} {ps : List PV} (h1 : gSL sl a q) (h3 : gLD tab hl t q p) (h2 : gRL tab sl hl rs ps) : gRL tab sl hl (.cell a t :: rs) (p :: ps)
theorem gRL.s {tab : Tab} {sl : List (Nat × PV)} {hl : List (Nat × Block)} {rs : List ResultVar} {ps : List PV} (h : gRL tab sl hl rs ps) : RL tab sl hl rs ps := by
 induction h
 ·apply Zv0 <;> (first | assumption | exact gLD.s (by assumption) | exact gSL.s (by assumption))
 ·apply ZxR <;> (first | assumption | exact gLD.s (by assumption) | exact gSL.s (by assumption))
 ·apply Zur <;> (first | assumption | exact gLD.s (by assumption) | exact gSL.s (by assumption))
inductive gSG  : (List GV) → (Nat) → (List (Nat × PV)) → Prop where
 | cnil (k : Nat) : gSG [] k []
 | ccons {g : GV} {gs : List GV} {k : Nat} {sl : List (Nat × PV)} (h : gSG gs (k + 1) sl) : gSG (g :: gs) k ((k, .g g) :: sl)
theorem gSG.s {gs : List GV} {k : Nat} {sl : List (Nat × PV)} (h : gSG gs k sl) : SG gs k sl := by
 induction h
 ·apply Zvy <;> (first | assumption)
 ·apply Ztq <;> (first | assumption)
mutual
inductive gVW : List (Nat × Block) → Nat → PV → GV → Prop where
 | cg (hl : List (Nat × Block)) (n : Nat) (v : GV) : gVW hl (n + 1) (.g v) v
 | cnils (hl : List (Nat × Block)) (n e : Nat) : gVW hl (n + 1) (.nils (e + 1)) (.sl (e + 1) [])
 | cown {hl : List (Nat × Block)} {n id lo len e : Nat} {dp : Bool} {xs ys : List GV} (hb : gHL hl id (.arr e dp xs)) (hc : CUT xs lo len ys) : gVW hl (n + 1) (.own id lo len) (.sl e ys)
 | cptr {hl : List (Nat × Block)} {n id : Nat} {cs : List PV} {gs : List GV} (hb : gHL hl id (.box cs)) (hv : gVWL hl n cs gs) (ha : RF ((gs.all fun x => x.ncells == 1) = true)) : gVW hl (n + 1) (.ptr id 0) (.box gs)
 | cagg {hl : List (Nat × Block)} {n : Nat} {cs : List PV} {gs : List GV} (hv : gVWL hl n cs gs) (ha : RF ((gs.all fun x => x.ncells == 1) = true)) : gVW hl (n + 1) (.agg cs) (.agg gs)
 | cfn {hl : List (Nat × Block)} {n : Nat} {f : FuncId} {cs : List PV} {gs : List GV} (hv : gVWL hl n cs gs) : gVW hl (n + 1) (.fn f cs) (.fn f gs)
inductive gVWL : List (Nat × Block) → Nat → List PV → List GV → Prop where
 | cnil (hl : List (Nat × Block)) (n : Nat) : gVWL hl n [] []
 | ccons {hl : List (Nat × Block)} {n : Nat} {p : PV} {ps : List PV} {x : GV} {xs : List GV} (h1 : gVW hl n p x) (h2 : gVWL hl n ps xs) : gVWL hl n (p :: ps) (x :: xs)
 | cmap (hl : List (Nat × Block)) (n : Nat) (gs : List GV) : gVWL hl (n + 1) (gs.map .g) gs
end
mutual
theorem gVW.s {hl : List (Nat × Block)} {n : Nat} {p : PV} {x : GV} : gVW hl n p x → VW hl n p x
 | .cg _ _ _ => VW_g _ _ _
 | .cnils _ _ _ => ZuB _ _ _
 | .cown hb hc => Zwf hb.s hc
 | .cptr hb hv ha => Zxi hb.s hv.s ha
 | .cagg hv ha => Zw1 hv.s ha
 | .cfn hv => Zzc hv.s
theorem gVWL.s {hl : List (Nat × Block)} {n : Nat} {ps : List PV} {xs : List GV} : gVWL hl n ps xs → VWL hl n ps xs
 | .cnil _ _ => Zt7 _ _
 | .ccons h1 h2 => Zql h1.s h2.s
 | .cmap _ _ _ => ⟨ZsG _ _⟩
end
def OB (dr : Bool) (l : List Oper) (acc : List (List Nat × List Nat)) : Prop := dr = true → ordB l acc = true
theorem OB_f {l : List Oper} {acc : List (List Nat × List Nat)} : OB false l acc := fun h => by cases h
theorem OB_t {l : List Oper} {acc : List (List Nat × List Nat)} (h : ordB l acc = true) : OB true l acc := fun _ => h
mutual
inductive gAF (dr : Bool) (P : Program) (tab : Tab) (ops : Array Oper) (n nx : Nat) (l : List Oper) (L : List Nat) (Q : Exit → AState → Prop) : Nat → List Oper → List (Nat × PV) → List (Nat × Block) → List (List Nat × List Nat) → Prop where
 | cnil {i : Nat} {sl : List (Nat × PV)} {hl : List (Nat × Block)} {acc : List (List Nat × List Nat)} (h : NK L Q (mkX n sl hl nx)) (ho : OB dr l acc) : gAF dr P tab ops n nx l L Q i [] sl hl acc
 | cmove {sl : List (Nat × PV)} {hl : List (Nat × Block)} {d : Nat} {i : Nat} {os : List Oper} {acc : List (List Nat × List Nat)} {ty : TypeId} {pos : String} {af : Array Edge} {x : Operand} {v : PV} (hd : RF (hasB d n = true)) (hx : gEV sl tab ty x v) (h4 : gAF dr P tab ops n nx l L Q (i + 1) os ((d, v) :: sl) hl (acc ++ [tcX tab i n sl hl nx ⟨some d, .move x, ty, pos, af, none⟩ []])) : gAF dr P tab ops n nx l L Q i (⟨some d, .move x, ty, pos, af, none⟩ :: os) sl hl acc
 | cassign {sl : List (Nat × PV)} {hl : List (Nat × Block)} {d : Nat} {i : Nat} {os : List Oper} {acc : List (List Nat × List Nat)} {ty : TypeId} {pos : String} {af : Array Edge} {x : Operand} {v : PV} (hd : RF (hasB d n = true)) (hx : gEV sl tab ty x v) (h4 : gAF dr P tab ops n nx l L Q (i + 1) os ((d, v) :: sl) hl (acc ++ [tcX tab i n sl hl nx ⟨some d, .assign x, ty, pos, af, none⟩ []])) : gAF dr P tab ops n nx l L Q i (⟨some d, .assign x, ty, pos, af, none⟩ :: os) sl hl acc
 | cbin {sl : List (Nat × PV)} {hl : List (Nat × Block)} {d : Nat} {i : Nat} {os : List Oper} {acc : List (List Nat × List Nat)} {ty : TypeId} {pos : String} {af : Array Edge} {op : BinOp} {t t' : TypeId} {x y : Operand} {p q v : PV} (hd : RF (hasB d n = true)) (hx : gEV sl tab 0 x p) (hy : gEV sl tab 0 y q) (hv : gBN tab t op p q v) (h4 : gAF dr P tab ops n nx l L Q (i + 1) os ((d, v) :: sl) hl (acc ++ [tcX tab i n sl hl nx ⟨some d, .binOp op t x y t', ty, pos, af, none⟩ []])) : gAF dr P tab ops n nx l L Q i (⟨some d, .binOp op t x y t', ty, pos, af, none⟩ :: os) sl hl acc
 | cload {sl : List (Nat × PV)} {hl : List (Nat × Block)} {d : Nat} {i : Nat} {os : List Oper} {acc : List (List Nat × List Nat)} {ty : TypeId} {pos : String} {af : Array Edge} {t : TypeId} {x : Operand} {p v : PV} (hd : RF (hasB d n = true)) (hx : gEV sl tab 0 x p) (hv : gLD tab hl t p v) (h4 : gAF dr P tab ops n nx l L Q (i + 1) os ((d, v) :: sl) hl (acc ++ [tcX tab i n sl hl nx ⟨some d, .load t x, ty, pos, af, none⟩ []])) : gAF dr P tab ops n nx l L Q i (⟨some d, .load t x, ty, pos, af, none⟩ :: os) sl hl acc
 | cfld {sl : List (Nat × PV)} {hl : List (Nat × Block)} {d : Nat} {i : Nat} {os : List Oper} {acc : List (List Nat × List Nat)} {ty : TypeId} {pos : String} {af : Array Edge} {s : TypeId} {x : Operand} {f : Nat} {p v : PV} (hd : RF (hasB d n = true)) (hx : gEV sl tab 0 x p) (hv : gFL tab hl s p f v) (h4 : gAF dr P tab ops n nx l L Q (i + 1) os ((d, v) :: sl) hl (acc ++ [tcX tab i n sl hl nx ⟨some d, .fieldAddr s x f, ty, pos, af, none⟩ []])) : gAF dr P tab ops n nx l L Q i (⟨some d, .fieldAddr s x f, ty, pos, af, none⟩ :: os) sl hl acc
 | ccallC {sl : List (Nat × PV)} {hl : List (Nat × Block)} {d : Nat} {i : Nat} {os : List Oper} {acc : List (List Nat × List Nat)} {ty : TypeId} {pos : String} {af : Array Edge} {kk : Nat} {f : Operand} {xs : List Operand} {ts : List TypeId} {fid : FuncId} {caps ps : List PV} {gs1 gs2 gs : List GV} {r : GV} {pv : PV} {hl' : List (Nat × Block)} (hd : RF (hasB d n = true)) (hf : gFN sl tab f fid caps) (ha : gARG sl tab xs ts ps) (hg1 : gVWL hl 6 ps gs1) (hg2 : gVWL hl 6 caps gs2) (hgs : gAPP gs1 gs2 gs) (hc : CON P fid gs r) (hk : NID (nx + 8 * i) kk) (hr : gRES kk r hl pv hl') (h4 : gAF dr P tab ops n nx l L Q (i + 1) os ((d, pv) :: sl) hl' (acc ++ [tcX tab i n sl hl nx ⟨some d, .call { callee := .value f, args := xs.toArray, argTypes := ts.toArray }, ty, pos, af, none⟩ (idsW (Zba kk (ZaC r)))])) : gAF dr P tab ops n nx l L Q i (⟨some d, .call { callee := .value f, args := xs.toArray, argTypes := ts.toArray }, ty, pos, af, none⟩ :: os) sl hl acc
 | cix {sl : List (Nat × PV)} {hl : List (Nat × Block)} {d : Nat} {i : Nat} {os : List Oper} {acc : List (List Nat × List Nat)} {ty : TypeId} {pos : String} {af : Array Edge} {t : TypeId} {x y : Operand} {p q v : PV} (hd : RF (hasB d n = true)) (hx : gEV sl tab 0 x p) (hy : gEV sl tab 0 y q) (hv : gIX tab hl t p q v) (h4 : gAF dr P tab ops n nx l L Q (i + 1) os ((d, v) :: sl) hl (acc ++ [tcX tab i n sl hl nx ⟨some d, .indexAddr t x y, ty, pos, af, none⟩ []])) : gAF dr P tab ops n nx l L Q i (⟨some d, .indexAddr t x y, ty, pos, af, none⟩ :: os) sl hl acc
 | cidx {sl : List (Nat × PV)} {hl : List (Nat × Block)} {d : Nat} {i : Nat} {os : List Oper} {acc : List (List Nat × List Nat)} {ty : TypeId} {pos : String} {af : Array Edge} {t : TypeId} {x y : Operand} {p q v : PV} (hd : RF (hasB d n = true)) (hx : gEV sl tab 0 x p) (hy : gEV sl tab 0 y q) (hv : gIDX tab t p q v) (h4 : gAF dr P tab ops n nx l L Q (i + 1) os ((d, v) :: sl) hl (acc ++ [tcX tab i n sl hl nx ⟨some d, .index t x y, ty, pos, af, none⟩ []])) : gAF dr P tab ops n nx l L Q i (⟨some d, .index t x y, ty, pos, af, none⟩ :: os) sl hl acc
 | cmax {sl : List (Nat × PV)} {hl : List (Nat × Block)} {d : Nat} {i : Nat} {os : List Oper} {acc : List (List Nat × List Nat)} {ty : TypeId} {pos : String} {af : Array Edge} {tys : Array TypeId} {x y : Operand} {a b : Int} (hd : RF (hasB d n = true)) (hx : gEV sl tab 0 x (.g (.int .i64 a))) (hy : gEV sl tab 0 y (.g (.int .i64 b))) (h4 : gAF dr P tab ops n nx l L Q (i + 1) os ((d, .g (.int .i64 (max a b))) :: sl) hl (acc ++ [tcX tab i n sl hl nx ⟨some d, .call { callee := .builtin .max, args := #[x, y], argTypes := tys }, ty, pos, af, none⟩ []])) : gAF dr P tab ops n nx l L Q i (⟨some d, .call { callee := .builtin .max, args := #[x, y], argTypes := tys }, ty, pos, af, none⟩ :: os) sl hl acc
 | cmin {sl : List (Nat × PV)} {hl : List (Nat × Block)} {d : Nat} {i : Nat} {os : List Oper} {acc : List (List Nat × List Nat)} {ty : TypeId} {pos : String} {af : Array Edge} {tys : Array TypeId} {x y : Operand} {a b : Int} (hd : RF (hasB d n = true)) (hx : gEV sl tab 0 x (.g (.int .i64 a))) (hy : gEV sl tab 0 y (.g (.int .i64 b))) (h4 : gAF dr P tab ops n nx l L Q (i + 1) os ((d, .g (.int .i64 (min a b))) :: sl) hl (acc ++ [tcX tab i n sl hl nx ⟨some d, .call { callee := .builtin .min, args := #[x, y], argTypes := tys }, ty, pos, af, none⟩ []])) : gAF dr P tab ops n nx l L Q i (⟨some d, .call { callee := .builtin .min, args := #[x, y], argTypes := tys }, ty, pos, af, none⟩ :: os) sl hl acc
 | clen {sl : List (Nat × PV)} {hl : List (Nat × Block)} {d : Nat} {i : Nat} {os : List Oper} {acc : List (List Nat × List Nat)} {ty : TypeId} {pos : String} {af : Array Edge} {t : TypeId} {x : Operand} {p : PV} {m : Int} (hd : RF (hasB d n = true)) (hx : gEV sl tab 0 x p) (hv : gLN tab hl t p m) (h4 : gAF dr P tab ops n nx l L Q (i + 1) os ((d, .g (.int .i64 m)) :: sl) hl (acc ++ [tcX tab i n sl hl nx ⟨some d, .call { callee := .builtin .len, args := #[x], argTypes := #[t] }, ty, pos, af, none⟩ []])) : gAF dr P tab ops n nx l L Q i (⟨some d, .call { callee := .builtin .len, args := #[x], argTypes := #[t] }, ty, pos, af, none⟩ :: os) sl hl acc
 | cun {sl : List (Nat × PV)} {hl : List (Nat × Block)} {d : Nat} {i : Nat} {os : List Oper} {acc : List (List Nat × List Nat)} {ty : TypeId} {pos : String} {af : Array Edge} {op : UnOp} {t : TypeId} {x : Operand} {p v : PV} (hd : RF (hasB d n = true)) (hx : gEV sl tab 0 x p) (hv : gUN op p v) (h4 : gAF dr P tab ops n nx l L Q (i + 1) os ((d, v) :: sl) hl (acc ++ [tcX tab i n sl hl nx ⟨some d, .unOp op t x, ty, pos, af, none⟩ []])) : gAF dr P tab ops n nx l L Q i (⟨some d, .unOp op t x, ty, pos, af, none⟩ :: os) sl hl acc
 | cpick {sl : List (Nat × PV)} {hl : List (Nat × Block)} {d : Nat} {i : Nat} {os : List Oper} {acc : List (List Nat × List Nat)} {ty : TypeId} {pos : String} {af : Array Edge} {c x y : Operand} {pc p q v : PV} (hd : RF (hasB d n = true)) (hc : gEV sl tab 0 c pc) (hx : gEV sl tab ty x p) (hy : gEV sl tab ty y q) (hp : gPK pc p q v) (h4 : gAF dr P tab ops n nx l L Q (i + 1) os ((d, v) :: sl) hl (acc ++ [tcX tab i n sl hl nx ⟨some d, .pick c x y, ty, pos, af, none⟩ []])) : gAF dr P tab ops n nx l L Q i (⟨some d, .pick c x y, ty, pos, af, none⟩ :: os) sl hl acc
 | cbox {sl : List (Nat × PV)} {hl : List (Nat × Block)} {d : Nat} {i : Nat} {os : List Oper} {acc : List (List Nat × List Nat)} {ty : TypeId} {pos : String} {af : Array Edge} {elem : TypeId} {x : Operand} {p : PV} {cs : List PV} {k : Nat} (hd : RF (hasB d n = true)) (hx : gEV sl tab elem x p) (hp : gCP p cs) (hk : NID (nx + 8 * i) k) (hf : gHL hl k .free) (h4 : gAF dr P tab ops n nx l L Q (i + 1) os ((d, .ptr k 0) :: sl) ((k, .box cs) :: hl) (acc ++ [tcX tab i n sl hl nx ⟨some d, .box elem x, ty, pos, af, none⟩ [k]])) : gAF dr P tab ops n nx l L Q i (⟨some d, .box elem x, ty, pos, af, none⟩ :: os) sl hl acc
 | calloc {sl : List (Nat × PV)} {hl : List (Nat × Block)} {d : Nat} {i : Nat} {os : List Oper} {acc : List (List Nat × List Nat)} {ty : TypeId} {pos : String} {af : Array Edge} {elem : TypeId} {ti : TI} {k : Nat} {z : List PV} (hd : RF (hasB d n = true)) (ht : RF (tab elem = some ti ∧ ti.zero = z)) (hk : NID (nx + 8 * i) k) (hf : gHL hl k .free) (h4 : gAF dr P tab ops n nx l L Q (i + 1) os ((d, .ptr k 0) :: sl) ((k, .box z) :: hl) (acc ++ [tcX tab i n sl hl nx ⟨some d, .alloc elem, ty, pos, af, none⟩ [k]])) : gAF dr P tab ops n nx l L Q i (⟨some d, .alloc elem, ty, pos, af, none⟩ :: os) sl hl acc
 | cstoreW {sl : List (Nat × PV)} {hl : List (Nat × Block)} {i : Nat} {os : List Oper} {acc : List (List Nat × List Nat)} {ty : TypeId} {pos : String} {af : Array Edge} {t : TypeId} {x y : Operand} {p q : PV} {k : Nat} {ws hl' : List (Nat × Block)} (hx : gEV sl tab 0 x p) (hy : gEV sl tab t y q) (hk : NID (nx + 8 * i) k) (hs : gSW tab k hl t p q ws hl') (h4 : gAF dr P tab ops n nx l L Q (i + 1) os sl hl' (acc ++ [tcX tab i n sl hl nx ⟨none, .store t x y, ty, pos, af, none⟩ (idsW ws)])) : gAF dr P tab ops n nx l L Q i (⟨none, .store t x y, ty, pos, af, none⟩ :: os) sl hl acc
 | cnilc {sl : List (Nat × PV)} {hl : List (Nat × Block)} {d : Nat} {i : Nat} {os : List Oper} {acc : List (List Nat × List Nat)} {ty : TypeId} {pos : String} {af : Array Edge} {x : Operand} {p : PV} (hd : RF (hasB d n = true)) (hx : gEV sl tab 0 x p) (hp : gNP hl p) (h4 : gAF dr P tab ops n nx l L Q (i + 1) os ((d, p) :: sl) hl (acc ++ [tcX tab i n sl hl nx ⟨some d, .nilCheck x, ty, pos, af, none⟩ []])) : gAF dr P tab ops n nx l L Q i (⟨some d, .nilCheck x, ty, pos, af, none⟩ :: os) sl hl acc
 | cpart {sl : List (Nat × PV)} {hl : List (Nat × Block)} {d : Nat} {i : Nat} {os : List Oper} {acc : List (List Nat × List Nat)} {ty : TypeId} {pos : String} {af : Array Edge} {t : TypeId} {x : Operand} {f : Nat} {p v : PV} (hd : RF (hasB d n = true)) (hx : gEV sl tab 0 x p) (hv : gPT tab t p f v) (h4 : gAF dr P tab ops n nx l L Q (i + 1) os ((d, v) :: sl) hl (acc ++ [tcX tab i n sl hl nx ⟨some d, .field t x f, ty, pos, af, none⟩ []])) : gAF dr P tab ops n nx l L Q i (⟨some d, .field t x f, ty, pos, af, none⟩ :: os) sl hl acc
 | cslice {sl : List (Nat × PV)} {hl : List (Nat × Block)} {d : Nat} {i : Nat} {os : List Oper} {acc : List (List Nat × List Nat)} {ty : TypeId} {pos : String} {af : Array Edge} {t : TypeId} {x : Operand} {lo hi : Option Operand} {p v : PV} (hd : RF (hasB d n = true)) (hx : gEV sl tab 0 x p) (hv : gSLI sl tab hl t p lo hi v) (h4 : gAF dr P tab ops n nx l L Q (i + 1) os ((d, v) :: sl) hl (acc ++ [tcX tab i n sl hl nx ⟨some d, .slice t x lo hi none, ty, pos, af, none⟩ []])) : gAF dr P tab ops n nx l L Q i (⟨some d, .slice t x lo hi none, ty, pos, af, none⟩ :: os) sl hl acc
 | cconv {sl : List (Nat × PV)} {hl : List (Nat × Block)} {d : Nat} {i : Nat} {os : List Oper} {acc : List (List Nat × List Nat)} {ty : TypeId} {pos : String} {af : Array Edge} {s t : TypeId} {x : Operand} {p v : PV} (hd : RF (hasB d n = true)) (hx : gEV sl tab 0 x p) (hv : gCV tab s t p v) (h4 : gAF dr P tab ops n nx l L Q (i + 1) os ((d, v) :: sl) hl (acc ++ [tcX tab i n sl hl nx ⟨some d, .convert s t x, ty, pos, af, none⟩ []])) : gAF dr P tab ops n nx l L Q i (⟨some d, .convert s t x, ty, pos, af, none⟩ :: os) sl hl acc
 | cbuild {sl : List (Nat × PV)} {hl : List (Nat × Block)} {d : Nat} {i : Nat} {os : List Oper} {acc : List (List Nat × List Nat)} {ty : TypeId} {pos : String} {af : Array Edge} {t : TypeId} {xs : List (Nat × Operand)} {ti : TI} {fs : List (Nat × TypeId)} {pl : List (Nat × Nat)} {vs : List (Nat × PV)} {cs' : List PV} (hd : RF (hasB d n = true)) (ht : RF (tab t = some ti ∧ ti.kind = .st fs ∧ ZcV tab fs = some pl)) (hx : gEVF sl tab ti xs vs) (hv : gFIL (pl[·]?) ti.zero vs cs') (h4 : gAF dr P tab ops n nx l L Q (i + 1) os ((d, .agg cs') :: sl) hl (acc ++ [tcX tab i n sl hl nx ⟨some d, .build t xs.toArray, ty, pos, af, none⟩ []])) : gAF dr P tab ops n nx l L Q i (⟨some d, .build t xs.toArray, ty, pos, af, none⟩ :: os) sl hl acc
 | cbuildA {sl : List (Nat × PV)} {hl : List (Nat × Block)} {d : Nat} {i : Nat} {os : List Oper} {acc : List (List Nat × List Nat)} {ty : TypeId} {pos : String} {af : Array Edge} {t : TypeId} {xs : List (Nat × Operand)} {ti ei : TI} {m E : Nat} {vs : List (Nat × PV)} {cs' : List PV} (hd : RF (hasB d n = true)) (ht : RF (tab t = some ti ∧ ti.kind = .ar m E ∧ tab E = some ei ∧ ei.size = 1)) (hx : gEVF sl tab ti xs vs) (hv : gFIL (fun i => some (i, 1)) ti.zero vs cs') (h4 : gAF dr P tab ops n nx l L Q (i + 1) os ((d, .agg cs') :: sl) hl (acc ++ [tcX tab i n sl hl nx ⟨some d, .build t xs.toArray, ty, pos, af, none⟩ []])) : gAF dr P tab ops n nx l L Q i (⟨some d, .build t xs.toArray, ty, pos, af, none⟩ :: os) sl hl acc
 | clit {sl : List (Nat × PV)} {hl : List (Nat × Block)} {d : Nat} {i : Nat} {os : List Oper} {acc : List (List Nat × List Nat)} {ty : TypeId} {pos : String} {af : Array Edge} {k : Nat} {t : TypeId} {len : Nat} {xs : List (Nat × Operand)} {E e : Nat} {ps : List PV} {gs : List GV} {ks : List Nat} {dp : Bool} (hd : RF (hasB d n = true)) (hE : SLT tab t E e) (hk : NID (nx + 8 * i) k) (hf : gHL hl k .free) (hi : RF (xs.map (·.1) = List.range len)) (hs : RF (Nat.ble (len * (e + 1)) 16777216 = true)) (hx : gEVP sl tab E xs ps) (ha : gAEL hl ps gs ks dp) (hg : RF ((gs.all (fun x => x.ncells == e + 1 && !x.isTup)) = true)) (h4 : gAF dr P tab ops n nx l L Q (i + 1) os ((d, .own k 0 len) :: sl) ((k, .arr (e + 1) dp gs) :: Zbe ks hl) (acc ++ [tcX tab i n sl hl nx ⟨some d, .buildSlice t len xs.toArray, ty, pos, af, none⟩ (idsW (Zco ks ++ [(k, .arr (e + 1) dp gs)]))])) : gAF dr P tab ops n nx l L Q i (⟨some d, .buildSlice t len xs.toArray, ty, pos, af, none⟩ :: os) sl hl acc
 | cmake {sl : List (Nat × PV)} {hl : List (Nat × Block)} {d : Nat} {i : Nat} {os : List Oper} {acc : List (List Nat × List Nat)} {ty : TypeId} {pos : String} {af : Array Edge} {kk : Nat} {t : TypeId} {x y : Operand} {e : Nat} {z : GV} {k k' : IntKind} {a b : Int} {xs : List GV} (hd : RF (hasB d n = true)) (hx : gEV sl tab 0 x (.g (.int k a))) (hy : gEV sl tab 0 y (.g (.int k' b))) (hE : MZ tab t e z) (hk : NID (nx + 8 * i) kk) (hf : gHL hl kk .free) (hz : gRPL a.toNat z xs) (hn : NU (0 ≤ a ∧ a ≤ b ∧ b ≤ 1099511627776)) (h4 : gAF dr P tab ops n nx l L Q (i + 1) os ((d, .own kk 0 a.toNat) :: sl) ((kk, .arr e true xs) :: hl) (acc ++ [tcX tab i n sl hl nx ⟨some d, .makeSlice t x y, ty, pos, af, none⟩ [kk]])) : gAF dr P tab ops n nx l L Q i (⟨some d, .makeSlice t x y, ty, pos, af, none⟩ :: os) sl hl acc
 | capp {sl : List (Nat × PV)} {hl : List (Nat × Block)} {d : Nat} {i : Nat} {os : List Oper} {acc : List (List Nat × List Nat)} {ty : TypeId} {pos : String} {af : Array Edge} {kk : Nat} {t : TypeId} {x y : Operand} {E e a b m : Nat} {px py : PV} {xs ys zs : List GV} {ks1 ks2 : List Nat} {d1 d2 dp : Bool} (hd : RF (hasB d n = true)) (hx : gEV sl tab t x px) (hy : gEV sl tab t y py) (hE : SLT tab t E e) (hk : NID (nx + 8 * i) kk) (hf : gHL hl kk .free) (h5 : gSR hl (e + 1) py ys ks2 d2) (h6 : gDS (Zbe ks2 hl) (e + 1) px xs ks1 d1) (hz : gCAT xs ys zs) (hm : gLEN zs m) (hdp : gAND d1 d2 dp) (ha : gLEN xs a) (hb : gLEN ys b) (hl' : NU (a + b ≤ 1099511627776)) (h4 : gAF dr P tab ops n nx l L Q (i + 1) os ((d, .own kk 0 m) :: sl) ((kk, .arr (e + 1) dp zs) :: Zbe ks1 (Zbe ks2 hl)) (acc ++ [tcX tab i n sl hl nx ⟨some d, .call { callee := .builtin .append, args := #[x, y], argTypes := #[t, t] }, ty, pos, af, none⟩ (idsW (Zco ks2 ++ (Zco ks1 ++ [(kk, .arr (e + 1) dp zs)])))])) : gAF dr P tab ops n nx l L Q i (⟨some d, .call { callee := .builtin .append, args := #[x, y], argTypes := #[t, t] }, ty, pos, af, none⟩ :: os) sl hl acc
 | cappR {sl : List (Nat × PV)} {hl : List (Nat × Block)} {d : Nat} {i : Nat} {os : List Oper} {acc : List (List Nat × List Nat)} {ty : TypeId} {pos : String} {af : Array Edge} {kk kk1 c : Nat} {t : TypeId} {x y : Operand} {E e a b m : Nat} {v : Value} {py : PV} {xs ys zs : List GV} {ks2 : List Nat} {d2 : Bool} (ht : TabOk P tab) (hd : RF (hasB d n = true)) (hx : gEV sl tab t x (.g (.raw c v))) (hc : gHL hl c (.hd v (e + 1) xs)) (hy : gEV sl tab t y py) (hE : SLT tab t E e) (hk : NID (nx + 8 * i) kk) (hk1 : NID (nx + 8 * i + 1) kk1) (hf : gHL hl kk .free) (hf1 : gHL hl kk1 .free) (h5 : gSR hl (e + 1) py ys ks2 d2) (hz : gCAT xs ys zs) (hm : gLEN zs m) (ha : gLEN xs a) (hb : gLEN ys b) (hl' : NU (a + b ≤ 1099511627776)) (h4 : gAF dr P tab ops n nx l L Q (i + 1) os ((d, .own kk 0 m) :: sl) ((kk, .arr (e + 1) d2 zs) :: (kk1, .dead) :: (c, .dead) :: Zbe ks2 hl) (acc ++ [tcX tab i n sl hl nx ⟨some d, .call { callee := .builtin .append, args := #[x, y], argTypes := #[t, t] }, ty, pos, af, none⟩ (idsW (Zco ks2 ++ [(c, .dead), (kk1, .dead), (kk, .arr (e + 1) d2 zs)]))])) : gAF dr P tab ops n nx l L Q i (⟨some d, .call { callee := .builtin .append, args := #[x, y], argTypes := #[t, t] }, ty, pos, af, none⟩ :: os) sl hl acc
 | cmkf {sl : List (Nat × PV)} {hl : List (Nat × Block)} {d : Nat} {i : Nat} {os : List Oper} {acc : List (List Nat × List Nat)} {ty : TypeId} {pos : String} {af : Array Edge} {f : FuncId} {cs : List Operand} {ps : List PV} (hd : RF (hasB d n = true)) (hx : gEVL sl tab cs ps) (h4 : gAF dr P tab ops n nx l L Q (i + 1) os ((d, .fn f ps) :: sl) hl (acc ++ [tcX tab i n sl hl nx ⟨some d, .makeFunc (.func f) #[] cs.toArray, ty, pos, af, none⟩ []])) : gAF dr P tab ops n nx l L Q i (⟨some d, .makeFunc (.func f) #[] cs.toArray, ty, pos, af, none⟩ :: os) sl hl acc
 | cext {sl : List (Nat × PV)} {hl : List (Nat × Block)} {d : Nat} {i : Nat} {os : List Oper} {acc : List (List Nat × List Nat)} {ty : TypeId} {pos : String} {af : Array Edge} {x : Operand} {k : Nat} {vs : List PV} {v : PV} (hd : RF (hasB d n = true)) (hx : gEV sl tab 0 x (.tup vs)) (hv : gIdx vs k v) (h4 : gAF dr P tab ops n nx l L Q (i + 1) os ((d, v) :: sl) hl (acc ++ [tcX tab i n sl hl nx ⟨some d, .extract x k, ty, pos, af, none⟩ []])) : gAF dr P tab ops n nx l L Q i (⟨some d, .extract x k, ty, pos, af, none⟩ :: os) sl hl acc
 | cmark {sl : List (Nat × PV)} {hl : List (Nat × Block)} {d : Nat} {i : Nat} {os : List Oper} {acc : List (List Nat × List Nat)} {ty : TypeId} {pos : String} {af : Array Edge} {f : FuncId} {x y : Operand} {tx t2 : TypeId} {ag : Bool} {p : PV} {ps : List PV} {gs gs' : List GV} {k : Int} {c : Nat} {ws : List (Nat × Block)} {is : List (List Nat)} {hl' : List (Nat × Block)} (hd : RF (hasB d n = true)) (hdr : RF (dr = false)) (hx : gEV sl tab tx x p) (hy : gEV sl tab t2 y (.g (.int .i64 k))) (hp : gCMP p ag ps) (hg : gWG hl ps gs) (hm : MRK P f ag gs gs' k c) (hw : gWW hl hl ps gs gs' ws is hl') (hc : RF ((okSL n hl sl && okBL hl) = true)) (h4 : gAF dr P tab ops n nx l L Q (i + 1) os ((d, .g (.int .i64 (k + c))) :: sl) hl' (acc ++ [tcX tab i n sl hl nx ⟨some d, .call { callee := .value (.func f), args := #[x, y], argTypes := #[tx, t2] }, ty, pos, af, none⟩ (idsW ws)])) : gAF dr P tab ops n nx l L Q i (⟨some d, .call { callee := .value (.func f), args := #[x, y], argTypes := #[tx, t2] }, ty, pos, af, none⟩ :: os) sl hl acc
 | crow {sl : List (Nat × PV)} {hl : List (Nat × Block)} {d : Nat} {i : Nat} {os : List Oper} {acc : List (List Nat × List Nat)} {ty : TypeId} {pos : String} {af : Array Edge} {f : FuncId} {x : Operand} {t : TypeId} {id len : Nat} {dp : Bool} {xs ys : List Int} {cut : Option Nat} {pv : PV} (hd : RF (hasB d n = true)) (hx : gEV sl tab t x (.own id 0 len)) (hb : gHL hl id (.arr 1 dp (xs.map GV.i))) (hl' : NU (len = xs.length)) (hc : ROW P f xs ys cut) (hp : gRPV id cut pv) (h4 : gAF dr P tab ops n nx l L Q (i + 1) os ((d, pv) :: sl) ((id, .arr 1 true (ys.map GV.i)) :: hl) (acc ++ [tcX tab i n sl hl nx ⟨some d, .call { callee := .value (.func f), args := #[x], argTypes := #[t] }, ty, pos, af, none⟩ (idsW [(id, .arr 1 true (ys.map GV.i))])])) : gAF dr P tab ops n nx l L Q i (⟨some d, .call { callee := .value (.func f), args := #[x], argTypes := #[t] }, ty, pos, af, none⟩ :: os) sl hl acc
 | cinto {sl : List (Nat × PV)} {hl : List (Nat × Block)} {d : Nat} {i : Nat} {os : List Oper} {acc : List (List Nat × List Nat)} {ty : TypeId} {pos : String} {af : Array Edge} {kk : Nat} {f : FuncId} {x y : Operand} {tx t2 : TypeId} {id len : Nat} {m : Int} {xs ys : List Int} (hd : RF (hasB d n = true)) (hx : gEV sl tab tx x (.own id 0 len)) (hy : gEV sl tab t2 y (.g (.int .i64 m))) (hb : gHL hl id (.arr 1 true (xs.map GV.i))) (hl' : NU (len = xs.length)) (hk : NID (nx + 8 * i) kk) (hf : gHL hl kk .free) (hc : INTO P f xs m ys) (h4 : gAF dr P tab ops n nx l L Q (i + 1) os ((d, .own kk 0 ys.length) :: sl) ((id, .dead) :: (kk, .arr 1 true (ys.map GV.i)) :: hl) (acc ++ [tcX tab i n sl hl nx ⟨some d, .call { callee := .value (.func f), args := #[x, y], argTypes := #[tx, t2] }, ty, pos, af, none⟩ (idsW [(kk, .arr 1 true (ys.map GV.i)), (id, .dead)])])) : gAF dr P tab ops n nx l L Q i (⟨some d, .call { callee := .value (.func f), args := #[x, y], argTypes := #[tx, t2] }, ty, pos, af, none⟩ :: os) sl hl acc
 | cview {sl : List (Nat × PV)} {hl : List (Nat × Block)} {d : Nat} {i : Nat} {os : List Oper} {acc : List (List Nat × List Nat)} {ty : TypeId} {pos : String} {af : Array Edge} {f : FuncId} {x : Operand} {t : TypeId} {ps : List PV} {gs : List GV} {r : GV} (hd : RF (hasB d n = true)) (ha : gEV sl tab t x (.agg ps)) (hv : GL ps gs) (h1 : RF (gs.all (fun x => x.ncells == 1) = true)) (hc : Ztm P f (.agg gs) r) (h4 : gAF dr P tab ops n nx l L Q (i + 1) os ((d, .g r) :: sl) hl (acc ++ [tcX tab i n sl hl nx ⟨some d, .call { callee := .value (.func f), args := #[x], argTypes := #[t] }, ty, pos, af, none⟩ []])) : gAF dr P tab ops n nx l L Q i (⟨some d, .call { callee := .value (.func f), args := #[x], argTypes := #[t] }, ty, pos, af, none⟩ :: os) sl hl acc
 | cunk {sl : List (Nat × PV)} {hl : List (Nat × Block)} {d : Nat} {i : Nat} {os : List Oper} {acc : List (List Nat × List Nat)} {ty : TypeId} {pos : String} {af : Array Edge} {kk : Nat} {f : FuncId} {xs : List Operand} {ts : List TypeId} {ps : List PV} {gs : List GV} {g0 g2 : GV} {p0 p2 : PV} {hl' : List (Nat × Block)} (hd : RF (hasB d n = true)) (ha : gARG sl tab xs ts ps) (hg : gVWL hl 6 ps gs) (hc : UNKC P f gs g0 g2) (hk : NID (nx + 8 * i) kk) (hr : gRES kk (.tup [g0, g2]) hl (.tup [p0, p2]) hl') (h4 : gAF dr P tab ops n nx l L Q (i + 1) os ((d, .tup [p0, .undef, p2]) :: sl) hl' (acc ++ [tcX tab i n sl hl nx ⟨some d, .call { callee := .value (.func f), args := xs.toArray, argTypes := ts.toArray }, ty, pos, af, none⟩ (idsW (Zba kk (ZaC (.tup [g0, g2]))))])) : gAF dr P tab ops n nx l L Q i (⟨some d, .call { callee := .value (.func f), args := xs.toArray, argTypes := ts.toArray }, ty, pos, af, none⟩ :: os) sl hl acc
 | cself {sl : List (Nat × PV)} {hl : List (Nat × Block)} {d : Nat} {i : Nat} {os : List Oper} {acc : List (List Nat × List Nat)} {ty : TypeId} {pos : String} {af : Array Edge} {f : FuncId} {x y : Operand} {t ty' : TypeId} {p q : PV} {g0 g1 : GV} (hd : RF (hasB d n = true)) (ha : gEV sl tab t x p) (hb : gEV sl tab ty' y q) (hv : gVWL hl 6 [p, q] [g0, g1]) (hc : Zt4 P f g0 g1) (h4 : gAF dr P tab ops n nx l L Q (i + 1) os ((d, .tup [q, .g (.int .i64 0)]) :: sl) hl (acc ++ [tcX tab i n sl hl nx ⟨some d, .call { callee := .value (.func f), args := #[x, y], argTypes := #[t, ty'] }, ty, pos, af, none⟩ []])) : gAF dr P tab ops n nx l L Q i (⟨some d, .call { callee := .value (.func f), args := #[x, y], argTypes := #[t, ty'] }, ty, pos, af, none⟩ :: os) sl hl acc
 | cvtx {sl : List (Nat × PV)} {hl : List (Nat × Block)} {d : Nat} {i : Nat} {os : List Oper} {acc : List (List Nat × List Nat)} {ty : TypeId} {pos : String} {af : Array Edge} {kk : Nat} {f : FuncId} {x y z r : Operand} {tx ty' tz tr : TypeId} {i0 i1 i2 i3 m0 m1 m2 m3 : Nat} {o p : Int} {d0 d2 : Bool} {ow pr row : List Int} {nw : List (List Int)} (hd : RF (hasB d n = true)) (hx : gEV sl tab tx x (.agg [.own i0 0 m0, .own i1 0 m1, .own i2 0 m2])) (hy : gEV sl tab ty' y (.g (.int .i64 o))) (hz : gEV sl tab tz z (.g (.int .i64 p))) (hr : gEV sl tab tr r (.own i3 0 m3)) (b0 : gHL hl i0 (.arr 1 d0 (ow.map GV.i))) (b1 : gHL hl i1 (.arr 1 true (nw.map GV.ints))) (b2 : gHL hl i2 (.arr 1 d2 (pr.map GV.i))) (b3 : gHL hl i3 (.arr 1 true (row.map GV.i))) (hn : RF ([i0, i1, i2, i3].Nodup)) (hk : NID (nx + 8 * i) kk) (hf0 : gHL hl kk .free) (hf1 : gHL hl (kk + 1) .free) (hf2 : gHL hl (kk + 2) .free) (hm : NU (m0 = ow.length ∧ m1 = nw.length ∧ m2 = pr.length ∧ m3 = row.length)) (hs : NU (ow.length ≤ 1000 ∧ nw.length ≤ 1000 ∧ pr.length ≤ 1000)) (hc : VTXC P f) (h4 : gAF dr P tab ops n nx l L Q (i + 1) os ((d, .agg [.own kk 0 (ow.length + 1), .own (kk + 1) 0 (nw.length + 1), .own (kk + 2) 0 (pr.length + 1)]) :: sl) ((kk + 2, .arr 1 true ((pr ++ [p]).map GV.i)) :: (kk + 1, .arr 1 true ((nw ++ [row]).map GV.ints)) :: (kk, .arr 1 true ((ow ++ [o]).map GV.i)) :: (i3, .dead) :: (i2, .dead) :: (i1, .dead) :: (i0, .dead) :: hl) (acc ++ [tcX tab i n sl hl nx ⟨some d, .call { callee := .value (.func f), args := #[x, y, z, r], argTypes := #[tx, ty', tz, tr] }, ty, pos, af, none⟩ (idsW (vtxW i0 i1 i2 i3 kk ((ow ++ [o]).map GV.i) ((pr ++ [p]).map GV.i) ((nw ++ [row]).map GV.ints)))])) : gAF dr P tab ops n nx l L Q i (⟨some d, .call { callee := .value (.func f), args := #[x, y, z, r], argTypes := #[tx, ty', tz, tr] }, ty, pos, af, none⟩ :: os) sl hl acc
 | cguard {sl : List (Nat × PV)} {hl : List (Nat × Block)} {i : Nat} {os : List Oper} {acc : List (List Nat × List Nat)} {ty : TypeId} {pos : String} {af : Array Edge} {op : Op} {dst : Option Nat} {g : Nat} {b : Bool} {t : Nat} {p : PV} (hd : RF ((ops[g]?).bind (·.dst) = some t)) (hs : gSL sl t p) (h : gGD dr P tab ops n nx l L Q i ⟨dst, op, ty, pos, af, some (g, b)⟩ os sl hl acc t p) : gAF dr P tab ops n nx l L Q i (⟨dst, op, ty, pos, af, some (g, b)⟩ :: os) sl hl acc
inductive gGD (dr : Bool) (P : Program) (tab : Tab) (ops : Array Oper) (n nx : Nat) (l : List Oper) (L : List Nat) (Q : Exit → AState → Prop) : Nat → Oper → List Oper → List (Nat × PV) → List (Nat × Block) → List (List Nat × List Nat) → Nat → PV → Prop where
 | ctt {sl : List (Nat × PV)} {hl : List (Nat × Block)} {i : Nat} {os : List Oper} {acc : List (List Nat × List Nat)} {ty : TypeId} {pos : String} {af : Array Edge} {op : Op} {dst : Option Nat} {g t : Nat} (hd : RF ((ops[g]?).bind (·.dst) = some t)) (h : gAF dr P tab ops n nx l L Q i (⟨dst, op, ty, pos, af, none⟩ :: os) sl hl acc) : gGD dr P tab ops n nx l L Q i ⟨dst, op, ty, pos, af, some (g, true)⟩ os sl hl acc t (.g (.bool true))
 | cff {sl : List (Nat × PV)} {hl : List (Nat × Block)} {i : Nat} {os : List Oper} {acc : List (List Nat × List Nat)} {ty : TypeId} {pos : String} {af : Array Edge} {op : Op} {dst : Option Nat} {g t : Nat} (hd : RF ((ops[g]?).bind (·.dst) = some t)) (h : gAF dr P tab ops n nx l L Q i (⟨dst, op, ty, pos, af, none⟩ :: os) sl hl acc) : gGD dr P tab ops n nx l L Q i ⟨dst, op, ty, pos, af, some (g, false)⟩ os sl hl acc t (.g (.bool false))
 | ctf {sl : List (Nat × PV)} {hl : List (Nat × Block)} {i : Nat} {os : List Oper} {acc : List (List Nat × List Nat)} {ty : TypeId} {pos : String} {af : Array Edge} {op : Op} {d : Nat} {g t : Nat} (hd : RF ((ops[g]?).bind (·.dst) = some t)) (h2 : RF (hasB d n = true)) (h : gAF dr P tab ops n nx l L Q (i + 1) os ((d, .none_) :: sl) hl (acc ++ [([], [])])) : gGD dr P tab ops n nx l L Q i ⟨some d, op, ty, pos, af, some (g, false)⟩ os sl hl acc t (.g (.bool true))
 | cft {sl : List (Nat × PV)} {hl : List (Nat × Block)} {i : Nat} {os : List Oper} {acc : List (List Nat × List Nat)} {ty : TypeId} {pos : String} {af : Array Edge} {op : Op} {d : Nat} {g t : Nat} (hd : RF ((ops[g]?).bind (·.dst) = some t)) (h2 : RF (hasB d n = true)) (h : gAF dr P tab ops n nx l L Q (i + 1) os ((d, .none_) :: sl) hl (acc ++ [([], [])])) : gGD dr P tab ops n nx l L Q i ⟨some d, op, ty, pos, af, some (g, true)⟩ os sl hl acc t (.g (.bool false))
 | cnone {sl : List (Nat × PV)} {hl : List (Nat × Block)} {i : Nat} {os : List Oper} {acc : List (List Nat × List Nat)} {ty : TypeId} {pos : String} {af : Array Edge} {op : Op} {d : Nat} {g t : Nat} {b : Bool} (hd : RF ((ops[g]?).bind (·.dst) = some t)) (h2 : RF (hasB d n = true)) (h : gAF dr P tab ops n nx l L Q (i + 1) os ((d, .none_) :: sl) hl (acc ++ [([], [])])) : gGD dr P tab ops n nx l L Q i ⟨some d, op, ty, pos, af, some (g, b)⟩ os sl hl acc t .none_
 | csplit {sl : List (Nat × PV)} {hl : List (Nat × Block)} {i : Nat} {os : List Oper} {acc : List (List Nat × List Nat)} {ty : TypeId} {pos : String} {af : Array Edge} {op : Op} {dst : Option Nat} {g t : Nat} {b c : Bool} (hd : RF ((ops[g]?).bind (·.dst) = some t)) (h1 : c = true → gAF dr P tab ops n nx l L Q i (⟨dst, op, ty, pos, af, some (g, b)⟩ :: os) ((t, .g (.bool true)) :: sl) hl acc) (h2 : c = false → gAF dr P tab ops n nx l L Q i (⟨dst, op, ty, pos, af, some (g, b)⟩ :: os) ((t, .g (.bool false)) :: sl) hl acc) : gGD dr P tab ops n nx l L Q i ⟨dst, op, ty, pos, af, some (g, b)⟩ os sl hl acc t (.g (.bool c))
end
section
variable {dr : Bool} {P : Program} {tab : Tab} {ops : Array Oper} {n nx : Nat} {l : List Oper} {L : List Nat} {Q : Exit → AState → Prop}
def endK (dr : Bool) (l : List Oper) (L : List Nat) (Q : Exit → AState → Prop) : AState → List (List Nat × List Nat) → Prop := if dr then (fun S' tw => ordB l tw = true ∧ NK L Q S') else (fun S' _ => NK L Q S')
theorem Zxe {i : Nat} {sl : List (Nat × PV)} {hl : List (Nat × Block)} {acc : List (List Nat × List Nat)} (h : NK L Q (mkX n sl hl nx)) (ho : OB dr l acc) : AF dr P tab ops i [] n sl hl nx acc (endK dr l L Q) := by
 cases dr
 ·exact ZuX h
 ·exact ZuK h (ho rfl)
mutual
theorem gAF.s {i : Nat} {os : List Oper} {sl : List (Nat × PV)} {hl : List (Nat × Block)} {acc : List (List Nat × List Nat)} : gAF dr P tab ops n nx l L Q i os sl hl acc → AF dr P tab ops i os n sl hl nx acc (endK dr l L Q)
 | .cnil h ho => Zxe h ho
 | .cmove hd hx h4 => Zvm hd hx.s h4.s
 | .cassign hd hx h4 => Zrc hd hx.s h4.s
 | .cbin hd hx hy hv h4 => Zzl hd hx.s hy.s hv.s h4.s
 | .cload hd hx hv h4 => Zxn hd hx.s hv.s h4.s
 | .cfld hd hx hv h4 => Zy8 hd hx.s hv.s h4.s
 | .ccallC hd hf ha hg1 hg2 hgs hc hk hr h4 => ZtV hd hf.s ha.s hg1.s hg2.s hgs.s hc hk hr.s h4.s
 | .cix hd hx hy hv h4 => X_ix hd hx.s hy.s hv.s h4.s
 | .cidx hd hx hy hv h4 => Zys hd hx.s hy.s hv.s h4.s
 | .cmax hd hx hy h4 => Zy3 hd hx.s hy.s h4.s
 | .cmin hd hx hy h4 => Zy5 hd hx.s hy.s h4.s
 | .clen hd hx hv h4 => Zzd hd hx.s hv.s h4.s
 | .cun hd hx hv h4 => X_un hd hx.s hv.s h4.s
 | .cpick hd hc hx hy hp h4 => ZwQ hd hc.s hx.s hy.s hp.s h4.s
 | .cbox hd hx hp hk hf h4 => ZyG hd hx.s hp.s hk hf.s h4.s
 | .calloc hd ht hk hf h4 => Zsp hd ht hk hf.s h4.s
 | .cstoreW hx hy hk hs h4 => ZqJ hx.s hy.s hk hs.s h4.s
 | .cnilc hd hx hp h4 => Zwh hd hx.s hp.s h4.s
 | .cpart hd hx hv h4 => Zwt hd hx.s hv.s h4.s
 | .cslice hd hx hv h4 => ZtD hd hx.s hv.s h4.s
 | .cconv hd hx hv h4 => Zxc hd hx.s hv.s h4.s
 | .cbuild hd ht hx hv h4 => Ztg hd ht hx.s hv.s h4.s
 | .cbuildA hd ht hx hv h4 => Zqy hd ht hx.s hv.s h4.s
 | .clit hd hE hk hf hi hs hx ha hg h4 => Zzm hd hE hk hf.s hi hs hx.s ha.s hg h4.s
 | .cmake hd hx hy hE hk hf hz hn h4 => Zu8 hd hx.s hy.s hE hk hf.s hz.s hn h4.s
 | .capp hd hx hy hE hk hf h5 h6 hz hm hdp ha hb hl' h4 => Zy7 hd hx.s hy.s hE hk hf.s h5.s h6.s hz.s hm.s hdp.s ha.s hb.s hl' h4.s
 | .cappR ht hd hx hc hy hE hk hk1 hf hf1 h5 hz hm ha hb hl' h4 => Zxr hd hx.s hc.s hy.s hE hk hk1 hf.s hf1.s h5.s hz.s hm.s ha.s hb.s hl' h4.s ht
 | .cmkf hd hx h4 => Zy1 hd hx.s h4.s
 | .cext hd hx hv h4 => Zzo hd hx.s hv.s h4.s
 | .cmark hd hdr hx hy hp hg hm hw hc h4 => Zvn hd hdr hx.s hy.s hp.s hg.s hm hw.s hc h4.s
 | .crow hd hx hb hl' hc hp h4 => Zyg hd hx.s hb.s hl' hc hp.s h4.s
 | .cinto hd hx hy hb hl' hk hf hc h4 => ZxH hd hx.s hy.s hb.s hl' hk hf.s hc h4.s
 | .cview hd ha hv h1 hc h4 => Zt9 hd ha.s hv h1 hc h4.s
 | .cunk hd ha hg hc hk hr h4 => Zxy hd ha.s hg.s hc hk hr.s h4.s
 | .cself hd ha hb hv hc h4 => Zut hd ha.s hb.s hv.s hc h4.s
 | .cvtx hd hx hy hz hr b0 b1 b2 b3 hn hk hf0 hf1 hf2 hm hs hc h4 => ZvA hd hx.s hy.s hz.s hr.s b0.s b1.s b2.s b3.s hn hk hf0.s hf1.s hf2.s hm hs hc h4.s
 | .cguard hd hs h => Zt0 hd hs.s h.s
theorem gGD.s {i : Nat} {o : Oper} {os : List Oper} {sl : List (Nat × PV)} {hl : List (Nat × Block)} {acc : List (List Nat × List Nat)} {t : Nat} {p : PV} : gGD dr P tab ops n nx l L Q i o os sl hl acc t p → GD dr P tab ops i o os n sl hl nx acc (endK dr l L Q) t p
 | .ctt hd h => Zyb hd h.s
 | .cff hd h => ZyA hd h.s
 | .ctf hd h2 h => Zyf hd h2 h.s
 | .cft hd h2 h => Zy2 hd h2 h.s
 | .cnone hd h2 h => Zu1 hd h2 h.s
 | .csplit hd h1 h2 => Zq5 hd (fun e => gAF.s (h1 e)) (fun e => gAF.s (h2 e))
end
end
section
variable {lv : Nat → List Nat} {P : Program} {tab : Tab} {n : Nat} {sl : List (Nat × PV)} {hl : List (Nat × Block)} {Q : Exit → AState → Prop} {x y c : Code}
theorem Zaf (ht : TabOk P tab) {id : Nat} {l : List Oper} (h : gAF false P tab l.toArray n (4096 * id + 4096) l (lv id) Q 0 l sl hl []) : TX lv P tab (.region id l.toArray false) n sl hl Q := Zxg ht (RF.mk rfl) h.s
theorem Za4 (ht : TabOk P tab) (hm : P.follows .mixedOrders = true) {id : Nat} {l : List Oper} (h : gAF true P tab l.toArray n (4096 * id + 4096) l (lv id) Q 0 l sl hl []) : TX lv P tab (.region id l.toArray true) n sl hl Q := Zxj ht hm (RF.mk rfl) h.s
theorem gNK {L : List Nat} {nx : Nat} {sl' : List (Nat × PV)} (hs : gSel sl L sl') (h : QA Q .normal n sl' hl) : NK L Q (mkX n sl hl nx) := Zyd hs.s h
theorem Zag {o : Operand} {p : PV} (hb : gEV sl tab 0 o p) (h : CK lv P tab x y n sl hl Q p) : TX lv P tab (.cond o x y) n sl hl Q := ZsL hb.s h
theorem Zcx {t i c k e : Nat} {cs cs' : List PV} {H : HD} (hs : gSL sl t (.ptr i 0)) (hb : gHL hl i (.box cs)) (hc : RF (cs[c]? = some (.nils e))) (hf : gHL hl k .free) (hc' : RF (cs.set c (.own k 0 0) = cs')) (h : LX n sl ((i, .box cs') :: (k, .arr e true []) :: hl) H) : LX n sl hl H := ZvW hs.s hb.s hc hf.s hc' h
theorem gLX0 {sl' : List (Nat × PV)} (hs : gHS [] sl sl') : LX n sl hl ⟨sl', []⟩ := LX0 hs.s
theorem gLX1 {r0 : Nat} {b0 : Block} {sl' : List (Nat × PV)} (hs : gHS [r0] sl sl') (hb : gHB [r0] hl [r0] 0 [(0, b0)]) : LX n sl hl ⟨sl', [(0, b0)]⟩ := LX1 hs.s hb.s
theorem gLX2 {r0 r1 : Nat} {b0 b1 : Block} {sl' : List (Nat × PV)} (hs : gHS [r0, r1] sl sl') (hb : gHB [r0, r1] hl [r0, r1] 0 [(0, b0), (1, b1)]) (hn : RF ([r0, r1].Nodup)) : LX n sl hl ⟨sl', [(0, b0), (1, b1)]⟩ := LX2 hs.s hb.s hn
theorem gLX3 {r0 r1 r2 : Nat} {b0 b1 b2 : Block} {sl' : List (Nat × PV)} (hs : gHS [r0, r1, r2] sl sl') (hb : gHB [r0, r1, r2] hl [r0, r1, r2] 0 [(0, b0), (1, b1), (2, b2)]) (hn : RF ([r0, r1, r2].Nodup)) : LX n sl hl ⟨sl', [(0, b0), (1, b1), (2, b2)]⟩ := LX3 hs.s hb.s hn
theorem gLX4 {r0 r1 r2 r3 : Nat} {b0 b1 b2 b3 : Block} {sl' : List (Nat × PV)} (hs : gHS [r0, r1, r2, r3] sl sl') (hb : gHB [r0, r1, r2, r3] hl [r0, r1, r2, r3] 0 [(0, b0), (1, b1), (2, b2), (3, b3)]) (hn : RF ([r0, r1, r2, r3].Nodup)) : LX n sl hl ⟨sl', [(0, b0), (1, b1), (2, b2), (3, b3)]⟩ := LX4 hs.s hb.s hn
theorem gLX5 {r0 r1 r2 r3 r4 : Nat} {b0 b1 b2 b3 b4 : Block} {sl' : List (Nat × PV)} (hs : gHS [r0, r1, r2, r3, r4] sl sl') (hb : gHB [r0, r1, r2, r3, r4] hl [r0, r1, r2, r3, r4] 0 [(0, b0), (1, b1), (2, b2), (3, b3), (4, b4)]) (hn : RF ([r0, r1, r2, r3, r4].Nodup)) : LX n sl hl ⟨sl', [(0, b0), (1, b1), (2, b2), (3, b3), (4, b4)]⟩ := LX5 hs.s hb.s hn
theorem gLX6 {r0 r1 r2 r3 r4 r5 : Nat} {b0 b1 b2 b3 b4 b5 : Block} {sl' : List (Nat × PV)} (hs : gHS [r0, r1, r2, r3, r4, r5] sl sl') (hb : gHB [r0, r1, r2, r3, r4, r5] hl [r0, r1, r2, r3, r4, r5] 0 [(0, b0), (1, b1), (2, b2), (3, b3), (4, b4), (5, b5)]) (hn : RF ([r0, r1, r2, r3, r4, r5].Nodup)) : LX n sl hl ⟨sl', [(0, b0), (1, b1), (2, b2), (3, b3), (4, b4), (5, b5)]⟩ := LX6 hs.s hb.s hn
theorem gLX7 {r0 r1 r2 r3 r4 r5 r6 : Nat} {b0 b1 b2 b3 b4 b5 b6 : Block} {sl' : List (Nat × PV)} (hs : gHS [r0, r1, r2, r3, r4, r5, r6] sl sl') (hb : gHB [r0, r1, r2, r3, r4, r5, r6] hl [r0, r1, r2, r3, r4, r5, r6] 0 [(0, b0), (1, b1), (2, b2), (3, b3), (4, b4), (5, b5), (6, b6)]) (hn : RF ([r0, r1, r2, r3, r4, r5, r6].Nodup)) : LX n sl hl ⟨sl', [(0, b0), (1, b1), (2, b2), (3, b3), (4, b4), (5, b5), (6, b6)]⟩ := LX7 hs.s hb.s hn
theorem Zqr {r0 r1 r2 r3 r4 r5 r6 r7 r8 r9 : Nat} {b0 b1 b2 b3 b4 b5 b6 b7 b8 b9 : Block} {sl' : List (Nat × PV)} (hs : gHS [r0, r1, r2, r3, r4, r5, r6, r7, r8, r9] sl sl') (hb : gHB [r0, r1, r2, r3, r4, r5, r6, r7, r8, r9] hl [r0, r1, r2, r3, r4, r5, r6, r7, r8, r9] 0 [(0, b0), (1, b1), (2, b2), (3, b3), (4, b4), (5, b5), (6, b6), (7, b7), (8, b8), (9, b9)]) (hn : RF ([r0, r1, r2, r3, r4, r5, r6, r7, r8, r9].Nodup)) : LX n sl hl ⟨sl', [(0, b0), (1, b1), (2, b2), (3, b3), (4, b4), (5, b5), (6, b6), (7, b7), (8, b8), (9, b9)]⟩ := LX10 hs.s hb.s hn
theorem Zao {r0 : ResultVar} {p : PV} {x r : GV} {ks : List Nat} (h1 : gRL tab sl hl [r0] [p]) (h2 : gAE hl p x ks true) (h3 : RF (x.isTup = false)) (h4 : EQ x r) : QA (EndR tab [r0] r) .ret n sl hl := Zy6 h1.s h2.s h3 h4
theorem Zjk {r0 r1 : ResultVar} {rs : List ResultVar} {p q : PV} {ps : List PV} {gs : List GV} {r : GV} {ks : List Nat} (h1 : gRL tab sl hl (r0 :: r1 :: rs) (p :: q :: ps)) (h2 : gAEL hl (p :: q :: ps) gs ks true) (h4 : EQ (.tup gs) r) : QA (EndR tab (r0 :: r1 :: rs) r) .ret n sl hl := ZyK h1.s h2.s h4
theorem gCon (lv : Nat → List Nat) (ht : TabOk P tab) {f : FuncId} {fn : Func} {c : Code} {m : Nat} {rs : List ResultVar} {gs : List GV} {r : GV} {sl : List (Nat × PV)} (hf : P.funcs[f]? = some fn) (hb : fn.body = some c) (hn : fn.ntmps = m) (hrs : fn.results.toList = rs) (he : ∀ args w, (callFunc f args).run P w = .ok (.enter f args) w) (hl : (Nat.ble gs.length m && Nat.blt m 65536) = true) (hs : gSG gs 0 sl) (h : TX lv P tab c m sl [] (EndR tab rs r)) : Con P f gs r := Zpa lv ht hf hb hn hrs he hl hs.s h
end
end Go.Proofs.YtjjidamlmebaaaaGreat
namespace Go.Proofs.YtjjidamlmebaaaaGreat
open Go.RowKit
open Shp
variable {x : GV} {xs : List GV} {α : Type} {p : Prop}
inductive GFits : GV → Prop where
 | atom (x : GV) : x.atom = true → GFits x
 | sl (e : Nat) (xs : List GV) : xs.length ≤ 9223372036854775807 → (∀ i (hi : i < xs.length), GFits xs[i]) → GFits (.sl e xs)
 | agg (xs : List GV) : (∀ i (hi : i < xs.length), GFits xs[i]) → GFits (.agg xs)
 | tup (xs : List GV) : (∀ i (hi : i < xs.length), GFits xs[i]) → GFits (.tup xs)
 | box (xs : List GV) : (∀ i (hi : i < xs.length), GFits xs[i]) → GFits (.box xs)
 | fn (f : FuncId) (xs : List GV) : (∀ i (hi : i < xs.length), GFits xs[i]) → GFits (.fn f xs)
 | ex (v : Value) (e : Nat) (xs : List GV) : GFits (.sl e xs) → GFits (.ex v e xs)
 | raw (c : Nat) (v : Value) : GFits (.raw c v)
 | bd (N e : Nat) (xs : List GV) : GFits (.sl e xs) → GFits (.bd N e xs)
theorem GRep.fits {w : World} {F : List Nat} {v : Value}  (h : GRep w F v x) : GFits x := by
 induction h with
 | atom x hx => exact .atom x hx
 | fn f vs gs Fs hv hF h ih => exact .fn f gs ih
 | agg vs gs Fs hv hF h1 hg h ih => exact .agg gs ih
 | tup vs gs Fs hv hF h ih => exact .tup gs ih
 | box b vs gs Fs hb hv hF h1 hg hc h ih => exact .box gs ih
 | sl a cap e vs gs Fs hv hF he hg le max nil ad hc h rm ih => exact .sl e gs (by omega) ih
 | ex v e xs F h ih => exact .ex v e xs ih
 | raw c v h => exact .raw c v
 | bd v N e xs F h hN ih => exact .bd N e xs ih
theorem GFits.len {e : Nat} {xs : List GV} (h : GFits (.sl e xs)) : xs.length ≤ 9223372036854775807 := by
 cases h with
 | atom x hx => simp [GV.atom] at hx
 | sl _ _ h1 h2 => exact h1
theorem GFits.el {e : Nat}  (h : GFits (.sl e xs))  (hx : x ∈ xs) : GFits x := by
 obtain ⟨i, hi, rfl⟩ := List.getElem_of_mem hx
 cases h with
 | atom x hx => simp [GV.atom] at hx
 | sl _ _ h1 h2 => exact h2 i hi
theorem GFits.cell  (h : GFits (.agg xs))  (hx : x ∈ xs) : GFits x := by
 obtain ⟨i, hi, rfl⟩ := List.getElem_of_mem hx
 cases h with
 | atom x hx => simp [GV.atom] at hx
 | agg _ h2 => exact h2 i hi
theorem GFits.ints {xs : List Int} (h : GFits (GV.ints xs)) : xs.length ≤ 9223372036854775807 := by simpa using h.len
theorem GFits.lenm  {f : α → GV} {e : Nat} {xs : List α} (h : GFits (.sl e (xs.map f))) : xs.length ≤ 9223372036854775807 := by simpa using h.len
theorem GFits.elm  {f : α → GV} {e : Nat} {xs : List α} (h : GFits (.sl e (xs.map f))) : ∀ x ∈ xs, GFits (f x) := fun x hx => h.el (List.mem_map_of_mem hx)
theorem Zaa {P : Program} {F : FuncId} {fn : Func} (hf : P.funcs[F]? = some fn) (hn : (fn.name == "runtime.NumGoroutine") = false) (hb : fn.body.isNone = false) (args : Array Value) (w : World) : (callFunc F args).run P w = .ok (.enter F args) w := by
 have hn2 : ¬ fn.name = "runtime.NumGoroutine" := by simpa using hn
 have hb2 : ¬ fn.body = none := fun e => by rw [e] at hb; cases hb
 unfold callFunc
 simp [hf, hn2, hb2]
theorem Con.fit {P : Program} {f : FuncId} {gs : List GV} {r : GV} (he : ∀ args w, (callFunc f args).run P w = .ok (.enter f args) w) (h : (∀ i (hi : i < gs.length), GFits gs[i]) → Con P f gs r) : Con P f gs r :=
 ⟨he, fun w args hl hg => (h fun i hi => by obtain ⟨F, h1⟩ := hg i hi; exact h1.fits).calls w args hl hg⟩
theorem LNs : (∀ {α : Type} {i : Nat} {l : List α}, (l.take i).length = min i l.length) ∧ (∀ {α : Type} {i : Nat} {l : List α}, (l.drop i).length = l.length - i) ∧ (∀ {α β : Type} {l : List α} (f : α → β), (l.map f).length = l.length) ∧ (∀ {α : Type} {l t : List α}, (l ++ t).length = l.length + t.length) ∧ (∀ {α : Type} {n : Nat} {a : α}, (List.replicate n a).length = n) ∧ (∀ {α : Type} {l : List α} {i : Nat} {a : α}, (l.set i a).length = l.length) ∧ (∀ {α : Type} {a : α} {l : List α}, (a :: l).length = l.length + 1) ∧ (∀ {α : Type}, ([] : List α).length = 0) :=
 ⟨List.length_take, List.length_drop, List.length_map, List.length_append, List.length_replicate, List.length_set, List.length_cons, List.length_nil⟩
theorem HCs : (∀ (a b : Bool), ((a && b) = true) = (a = true ∧ b = true)) ∧ (∀ (a b : Bool), ((a || b) = true) = (a = true ∨ b = true)) ∧ (∀ (a b : Bool), ((a && b) = false) = (a = false ∨ b = false)) ∧ (∀ (a b : Bool), ((a || b) = false) = (a = false ∧ b = false))
 ∧ (∀ {p : Prop} [Decidable p], (decide p = true) = p) ∧ (∀ {p : Prop} [Decidable p], (decide p = false) = ¬ p) ∧ (∀ (b : Bool), (¬ b = true) = (b = false)) ∧ (∀ (b : Bool), (¬ b = false) = (b = true)) ∧ (∀ (a b : Bool), ((!a) = b) = (a = !b)) ∧ ((!true) = false) ∧ ((!false) = true)
 ∧ (∀ {α : Type} [BEq α] [LawfulBEq α] {a b : α}, ((a != b) = true) = (a ≠ b)) ∧ (∀ {α : Type} [BEq α] [LawfulBEq α] {a b : α}, ((a == b) = true) = (a = b)) ∧ (∀ {α : Type} (a b : α), (a ≠ b) = ¬ a = b) ∧ (∀ {α : Type} [BEq α] [LawfulBEq α] {a b : α}, ((a == b) = false) = (a ≠ b)) ∧ (∀ {α : Type} [BEq α] [LawfulBEq α] {a b : α}, ((a != b) = false) = (a = b))
 ∧ (∀ {a b : Int}, (¬ a < b) = (b ≤ a)) ∧ (∀ {a b : Int}, (¬ a ≤ b) = (b < a)) ∧ (∀ {a b : Int}, (a ≥ b) = (b ≤ a)) ∧ (∀ {a b : Int}, (a > b) = (b < a)) ∧ (∀ {a b : Nat}, (a ≥ b) = (b ≤ a)) ∧ (∀ {a b : Nat}, (a > b) = (b < a)) ∧ (∀ {p : Prop} [Decidable p], (¬ ¬ p) = p) ∧ ((¬ True) = False) ∧ ((¬ False) = True) := by
 refine ⟨?_, ?_, ?_, ?_, ?_, ?_, ?_, ?_, ?_, rfl, rfl, ?_, ?_, ?_, ?_, ?_, ?_, ?_, ?_, ?_, ?_, ?_, ?_, ?_, ?_⟩
 all_goals (intros; simp only [Bool.and_eq_true, Bool.or_eq_true, Bool.and_eq_false_iff, Bool.or_eq_false_iff, decide_eq_true_eq, decide_eq_false_iff_not, Bool.not_eq_true, Bool.not_eq_false, Bool.not_eq_eq_eq_not, bne_iff_ne, beq_iff_eq, ne_eq, beq_eq_false_iff_ne, bne_eq_false_iff_eq, Int.not_lt, Int.not_le, ge_iff_le, gt_iff_lt, Decidable.not_not, not_true_eq_false, not_false_eq_true])
theorem ZL {i n : Nat} (h : Nat.ble (i + 1) n = true) : i < n := Nat.le_of_ble_eq_true h
theorem ZS  (h : p := by ((with_reducible apply ZwW); (· rfl); (· rfl); (· rfl); (· rfl))) : p := h
theorem ZF  (h : p := by ((with_reducible apply ZyE); (· rfl); (· rfl); (· rfl); (· rfl); (· rfl))) : p := h
theorem ZG  (h : p := by ((with_reducible apply Zw3); (· rfl); (· rfl); (· rfl); (· rfl); (· rfl))) : p := h
theorem ZI  (h : p := by ((with_reducible apply ZxF); (try simp only [Nat.reduceAdd, Nat.reduceMul]); exact rfl)) : p := h
theorem ZM  (h : p := by ((with_reducible apply ZxU); (· rfl); (· rfl); (· rfl))) : p := h
theorem ZT  (h : p := by ((with_reducible apply ZyP); (· rfl); (· rfl); (· rfl); (· rfl); (· rfl))) : p := h
theorem Z5  (h : p := by first | exact NE.mk rfl | exact RF.mk rfl | exact RF.mk ⟨rfl, rfl⟩ | exact RF.mk ⟨rfl, rfl, rfl⟩ | exact EQ.mk rfl) : p := h
theorem Z4  (h : p := by first | exact NE.mk rfl | exact RF.mk rfl | exact RF.mk ⟨rfl, rfl⟩ | exact RF.mk ⟨rfl, rfl, rfl⟩) : p := h
theorem Z3  (h : p := by first | exact NE.mk rfl | exact RF.mk rfl | exact RF.mk ⟨rfl, rfl⟩) : p := h
theorem Z2  (h : p := by first | exact NE.mk rfl | exact RF.mk rfl) : p := h
theorem ZN  (h : p := by exact NU.mk (by first | omega | (simp only [LNs]; omega))) : p := h
theorem ZE  (h : p := by exact EQ.mk (by first | omega | (simp only [LNs]; omega))) : p := h
theorem ZC  (h : p := by ((with_reducible apply ZtI); (· with_reducible first | exact ZpR _ _ | exact Zpb | exact ZvY _ | exact Zwq _ _ | exact Zo4 _); (· first | rfl | omega); (· first | rfl | omega))) : p := h
theorem ZP  (h : p := by ((with_reducible apply Zbk); (· first | rfl | omega); (· exact NU.mk (by first | omega | (simp only [LNs]; omega))))) : p := h
theorem ZQ  (h : p := by ((with_reducible apply Zqk); (· first | rfl | omega))) : p := h
theorem ZU  (h : p := by ((with_reducible apply ZmE); (· exact NU.mk (by first | omega | (simp only [LNs]; omega))); (· rfl))) : p := h
theorem ZK  (h : p := by ((with_reducible apply OB_t); kernel_rfl)) : p := h
theorem ZA  (h : p := by first | rfl | omega) : p := h
theorem ZO  (h : p := by first | omega | (simp only [LNs]; omega)) : p := h
theorem ZW  (h : p := by (try dsimp only); omega) : p := h
theorem BOa : (∀ (a b : Bool), ((a && b) = true) = (a = true ∧ b = true)) ∧ (∀ (a b : Bool), ((a || b) = true) = (a = true ∨ b = true)) ∧ (∀ {a b : Bool}, (a && b) = false ↔ a = false ∨ b = false) ∧ (∀ {a b : Bool}, (a || b) = false ↔ a = false ∧ b = false) ∧ (∀ {p : Prop} [Decidable p], (decide p = true) = p) ∧ (∀ {p : Prop} [Decidable p], decide p = false ↔ ¬ p) ∧ (∀ (b : Bool), ((!b) = true) = (b = false)) ∧ (∀ (b : Bool), ((!b) = false) = (b = true))
 ∧ (∀ {α : Type} [BEq α] [LawfulBEq α] {a b : α}, (a == b) = true ↔ a = b) ∧ (∀ {α : Type} [BEq α] [LawfulBEq α] {a b : α}, (a != b) = true ↔ a ≠ b) ∧ (∀ {α : Type} (a b : α), (a ≠ b) = ¬ a = b) ∧ (∀ {α : Type} [BEq α] [LawfulBEq α] {a b : α}, (a == b) = false ↔ a ≠ b) ∧ (∀ {α : Type} [BEq α] [LawfulBEq α] {a b : α}, (a != b) = false ↔ a = b) :=
 ⟨Bool.and_eq_true, Bool.or_eq_true, Bool.and_eq_false_iff, Bool.or_eq_false_iff, decide_eq_true_eq, decide_eq_false_iff_not, Bool.not_eq_true', Bool.not_eq_false', beq_iff_eq, bne_iff_ne, ne_eq, beq_eq_false_iff_ne, bne_eq_false_iff_eq⟩
end Go.Proofs.YtjjidamlmebaaaaGreat
namespace Go.Proofs.YtjjidamlmebaaaaGreat
open Go.RowKit
open Shp
variable {n : Nat} {p : Nat → Bool} {α : Type} {xs : List Int}
inductive Tg (n : Nat) : Type where
 | t
def allN (n : Nat) (p : Nat → Bool) : Bool := (List.range n).all p
theorem allN_iff : allN n p = true ↔ ∀ j, j < n → p j = true := by simp [allN]
theorem ZaV  (h : ∀ j, j < n → p j = true) : allN n p = true := allN_iff.2 h
theorem Za5  (i : Nat) (hi : i < n) (h : p i = false) : allN n p = false := by
 cases e : allN n p
 ·rfl
 ·rw [allN_iff.1 e i hi] at h; cases h
theorem Znx  {q : Nat → Bool} (h : ∀ j, j < n → p j = q j) : allN n p = allN n q := by
 rw [Bool.eq_iff_iff, allN_iff, allN_iff]
 exact ⟨fun a j hj => by rw [← h j hj]; exact a j hj, fun a j hj => by rw [h j hj]; exact a j hj⟩
theorem Za8 {i : Nat}  (h : ∀ j, j < i → p j = true) (hi : p i = true) : ∀ j, j < i + 1 → p j = true := fun j hj => by
 rcases Nat.lt_or_ge j i with h1 | h1
 ·exact h j h1
 ·have : j = i := by omega
  subst this; exact hi
theorem Za6 : ∀ j, j < 0 → p j = true := fun j hj => by omega
def Zdk (n : Nat) (p : Nat → Bool) : Int := match (List.range n).find? p with | some i => (i : Int) | none => -1
theorem ZdE  (i : Nat) (hi : i < n) (h : p i = true) (hb : ∀ j, j < i → p j = false) : Zdk n p = (i : Int) := by
 unfold Zdk
 have : (List.range n).find? p = some i := by
  rw [List.find?_eq_some_iff_getElem]
  refine ⟨h, i, by simpa using hi, by simp, fun j hj => ?_⟩
  simpa using hb j hj
 rw [this]
theorem ZbX  (hb : ∀ j, j < n → p j = false) : Zdk n p = -1 := by
 unfold Zdk
 have : (List.range n).find? p = none := by
  rw [List.find?_eq_none]
  intro j hj
  simpa using hb j (by simpa using hj)
 rw [this]
theorem ZgJ (n : Nat) (p : Nat → Bool) : (Zdk n p = -1 ∧ ∀ j, j < n → p j = false) ∨ ∃ i : Nat, i < n ∧ Zdk n p = (i : Int) ∧ p i = true ∧ ∀ j, j < i → p j = false := by
 rcases Classical.em (∃ i, i < n ∧ p i = true) with h | h
 ·right
  have hex : ∃ i, (i < n ∧ p i = true) ∧ ∀ j, j < i → ¬ (j < n ∧ p j = true) := by
   obtain ⟨i, hi⟩ := h
   induction i using Nat.strongRecOn with
   | _ i ih =>
    rcases Classical.em (∃ j, j < i ∧ (j < n ∧ p j = true)) with h2 | h2
    ·obtain ⟨j, hj, hp⟩ := h2; exact ih j hj hp
    ·exact ⟨i, hi, fun j hj hp => h2 ⟨j, hj, hp⟩⟩
  obtain ⟨i, ⟨h1, h2⟩, h3⟩ := hex
  have h4 : ∀ j, j < i → p j = false := fun j hj => by
   cases e : p j
   ·rfl
   ·exact absurd ⟨by omega, e⟩ (h3 j hj)
  exact ⟨i, h1, ZdE i h1 h2 h4, h2, h4⟩
 ·left
  have h4 : ∀ j, j < n → p j = false := fun j hj => by
   cases e : p j
   ·rfl
   ·exact absurd ⟨j, hj, e⟩ h
  exact ⟨ZbX h4, h4⟩
theorem Zis : decide (Zdk n p ≥ 0) = !allN n (fun j => !p j) := by
 rcases ZgJ n p with ⟨h1, h2⟩ | ⟨i, h1, h2, h3, h4⟩
 ·rw [h1, ZaV (fun j hj => by rw [h2 j hj]; rfl)]; rfl
 ·rw [h2, Za5 i h1 (by rw [h3]; rfl)]; simp
theorem ZdC {i : Nat}  (h : ∀ j, j < i → p j = false) (hi : p i = false) : ∀ j, j < i + 1 → p j = false := fun j hj => by
 rcases Nat.lt_or_ge j i with h1 | h1
 ·exact h j h1
 ·have : j = i := by omega
  subst this; exact hi
theorem Zdu : ∀ j, j < 0 → p j = false := fun j hj => by omega
theorem Zga  [Inhabited α] {xs : List α} {i : Nat} (h : i < xs.length) : xs.drop i = nth xs i :: xs.drop (i + 1) := by
 rw [Zaz h]; exact List.drop_eq_getElem_cons h
theorem ZaF  [Inhabited α] {xs : List α} {i : Nat} (h : i < xs.length) : xs.take (i + 1) = xs.take i ++ [nth xs i] := by
 rw [Zaz h, List.take_append_getElem]
theorem Zq8  [Inhabited α] {xs ys : List α} (hl : xs.length = ys.length) (h : ∀ i, i < xs.length → nth xs i = nth ys i) : xs = ys := by
 refine List.ext_getElem hl fun i h1 h2 => ?_
 have := h i h1
 rwa [Zaz h1, Zaz h2] at this
theorem Zke  [Inhabited α] {xs : List α} {x : α} (h : x ∈ xs) : ∃ i, i < xs.length ∧ nth xs i = x := by
 obtain ⟨i, hi, rfl⟩ := List.getElem_of_mem h
 exact ⟨i, hi, Zaz hi⟩
theorem ZkG {α : Type} {xs : List α} {i : Nat} {x : α} (h : i < xs.length) : (xs.set i x).take (i + 1) = xs.take i ++ [x] := by
 have h1 : i < (xs.set i x).length := by simpa using h
 rw [← List.take_append_getElem h1]
 simp [List.take_set_of_le]
def below (xs : List Int) (n : Int) : Bool := allN xs.length fun i => decide (0 ≤ nth xs i) && decide (nth xs i < n)
theorem below_iff  {n : Int} : below xs n = true ↔ ∀ j, j < xs.length → 0 ≤ nth xs j ∧ nth xs j < n := by
 unfold below; rw [allN_iff]; simp
def Zbc (xs : List Int) (n : Int) : Bool := allN xs.length fun i => decide (0 ≤ nth xs i) && decide (nth xs i < n) && (decide (i = 0) || decide (nth xs (i - 1) < nth xs i))
theorem Zmb  {n : Int} (h : Zbc xs n = true) : below xs n = true := by
 unfold Zbc at h; unfold below
 rw [allN_iff] at *
 intro j hj
 have := h j hj
 simp only [Bool.and_eq_true] at this ⊢
 exact this.1
def has (xs : List Int) (v : Int) : Bool := !allN xs.length fun i => !(nth xs i == v)
theorem Zsz  {v : Int} : has xs v = true ↔ v ∈ xs := by
 unfold has
 constructor
 ·intro h
  apply Classical.byContradiction
  intro hn
  rw [ZaV (fun j hj => by
   have : nth xs j ≠ v := fun e => hn (by rw [← e]; exact ZaE hj)
   simpa using this)] at h
  cases h
 ·intro h
  obtain ⟨i, hi, e⟩ := Zke h
  rw [Za5 i hi (by simp [e])]; rfl
def ZbG (xs : List Int) (v : Int) : Int := Zdk xs.length fun i => nth xs i == v
end Go.Proofs.YtjjidamlmebaaaaGreat
namespace Go.Proofs.YtjjidamlmebaaaaGreat
open Go.RowKit
open Shp
abbrev GV.sig (i o : Int) : GV := .agg [.i i, .i o]
abbrev GV.rows (xs : List (List Int)) : GV := .sl 1 (xs.map GV.ints)
abbrev GV.pair (a b : List Int) : GV := .agg [.ints a, .ints b]
abbrev GV.pairP (p : List Int × List Int) : GV := .pair p.1 p.2
abbrev GV.pairs (ps : List (List Int × List Int)) : GV := .sl 2 (ps.map GV.pairP)
abbrev GV.det (n : List (List Int)) (p : List (List Int × List Int)) : GV := .agg [.rows n, .pairs p]
abbrev GV.clause (k : Int) (a b : List Int) : GV := .agg [.i k, .ints a, .ints b]
abbrev GV.clauseP (c : Int × List Int × List Int) : GV := .clause c.1 c.2.1 c.2.2
abbrev GV.clauses (cs : List (Int × List Int × List Int)) : GV := .sl 3 (cs.map GV.clauseP)
end Go.Proofs.YtjjidamlmebaaaaGreat

