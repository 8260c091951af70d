/- Abstract states as lists: the rules of a walk, one for each kind of operation. Over any program; no conditions. -/
import Derived.Test.YtdkjeodenbffnaaF1
namespace Go.Proofs.Ytdkjeodenbffnaa
open Go.RowKit
open Shp

/-- a number, computed -/
def NID (a k : Nat) : Prop := a = k
theorem NID.e {a k : Nat} (h : NID a k) : a = k := h
theorem NID_mk {a k : Nat} (h : a = k) : NID a k := h

/-! types -/
structure SLT' (tab : Tab) (t E e : Nat) : Prop where
  h : ∃ ti ei, tab t = some ti ∧ ti.kind = .sl E ∧ tab E = some ei ∧ ei.size = e + 1
def SLT (tab : Tab) (t E e : Nat) : Prop := SLT' tab t E e
theorem SLT.mk {tab : Tab} {t E e : Nat} (h : SLT' tab t E e) : SLT tab t E e := h
theorem SLT.h {tab : Tab} {t E e : Nat} (h : SLT tab t E e) : ∃ ti ei, tab t = some ti ∧ ti.kind = .sl E ∧ tab E = some ei ∧ ei.size = e + 1 := @SLT'.h _ _ _ _ h
theorem SLT_mk {tab : Tab} {t E e : Nat} {ti ei : TI} (h1 : tab t = some ti) (h2 : ti.kind = .sl E) (h3 : tab E = some ei) (h4 : ei.size = e + 1) : SLT tab t E e := SLT.mk ⟨ti, ei, h1, h2, h3, h4⟩
theorem SLT.el {tab : Tab} {t E e : Nat} (h : SLT tab t E e) : elemTy tab t = some (E, e + 1) := by
  obtain ⟨ti, ei, h1, h2, h3, h4⟩ := h.h
  simp only [elemTy, h1, h2, h3, h4]

section
variable {dr : Bool} {P : Program} {tab : Tab} {ops : Array Oper} {i : Nat} {os : List Oper} {acc : List (List Nat × List Nat)} {K : AState → List (List Nat × List Nat) → Prop}
variable {ty : TypeId} {pos : String} {af : Array Edge} {n nx d : Nat} {sl : List (Nat × PV)} {hl : List (Nat × Block)}

/-- The rest of the region. -/
def AF (dr : Bool) (P : Program) (tab : Tab) (ops : Array Oper) (i : Nat) (os : List Oper) (n : Nat) (sl : List (Nat × PV)) (hl : List (Nat × Block)) (nx : Nat) (acc : List (List Nat × List Nat)) (K : AState → List (List Nat × List Nat) → Prop) : Prop := AX dr P tab ops i os (mkX n sl hl nx) acc K
abbrev tcX (tab : Tab) (i n : Nat) (sl : List (Nat × PV)) (hl : List (Nat × Block)) (nx : Nat) (o : Oper) (ws : List Nat) : List Nat × List Nat := tcW tab i (mkX n sl hl nx) o ws

theorem X_any {dst : Option Nat} {op : Op} {pv : PV} {ws : List (Nat × Block)} (h2 : (mkX n sl hl nx).has dst = true) (h3 : aOp tab (nx + 8 * i) ⟨dst, op, ty, pos, af, none⟩ (mkX n sl hl nx) = some (pv, ws))
    (h4 : AF dr P tab ops (i + 1) os n (putL dst pv sl) (pushW ws hl) nx (acc ++ [tcX tab i n sl hl nx ⟨dst, op, ty, pos, af, none⟩ (ws.map (·.1))]) K) : AF dr P tab ops i (⟨dst, op, ty, pos, af, none⟩ :: os) n sl hl nx acc K :=
  AX_op h2 h3 (by rw [writes_XL, put_XL]; exact h4)

theorem has_X {d : Nat} (h : RF (hasB d n = true)) : (mkX n sl hl nx).has (some d) = true := by have := h.e; rw [has_some, mkX_n]; exact this

theorem X_move {x : Operand} {v : PV} (hd : RF (hasB d n = true)) (hx : EV sl tab ty x v) (h4 : AF dr P tab ops (i + 1) os n ((d, v) :: sl) hl nx (acc ++ [tcX tab i n sl hl nx ⟨some d, .move x, ty, pos, af, none⟩ []]) K) : AF dr P tab ops i (⟨some d, .move x, ty, pos, af, none⟩ :: os) n sl hl nx acc K :=
  X_any (ws := []) (has_X hd) (by simp only [aOp, hx.e]) h4
theorem X_assign {x : Operand} {v : PV} (hd : RF (hasB d n = true)) (hx : EV sl tab ty x v) (h4 : AF dr P tab ops (i + 1) os n ((d, v) :: sl) hl nx (acc ++ [tcX tab i n sl hl nx ⟨some d, .assign x, ty, pos, af, none⟩ []]) K) : AF dr P tab ops i (⟨some d, .assign x, ty, pos, af, none⟩ :: os) n sl hl nx acc K :=
  X_any (ws := []) (has_X hd) (by simp only [aOp, hx.e]) h4
/-- what a choice picks -/
structure PK (c p q v : PV) : Prop where
  e : aPick c p q = some (v, [])
theorem PK_t (p q : PV) : PK (.g (.bool true)) p q p := ⟨rfl⟩
theorem PK_f (p q : PV) : PK (.g (.bool false)) p q q := ⟨rfl⟩
theorem X_pick {c x y : Operand} {pc p q v : PV} (hd : RF (hasB d n = true)) (hc : EV sl tab 0 c pc) (hx : EV sl tab ty x p) (hy : EV sl tab ty y q) (hp : PK pc p q v) (h4 : AF dr P tab ops (i + 1) os n ((d, v) :: sl) hl nx (acc ++ [tcX tab i n sl hl nx ⟨some d, .pick c x y, ty, pos, af, none⟩ []]) K) : AF dr P tab ops i (⟨some d, .pick c x y, ty, pos, af, none⟩ :: os) n sl hl nx acc K :=
  X_any (ws := []) (has_X hd) (by simp only [aOp, hx.e, hy.e, hc.e, hp.e]) h4

/-! numbers and truths -/
structure BN (tab : Tab) (t : TypeId) (op : BinOp) (x y v : PV) : Prop where
  e : aBinF tab op t x y = some (v, [])
theorem BN_of {t : TypeId} {op : BinOp} {x y v : PV} (h : aBin op x y = some (v, [])) : BN tab t op x y v := ⟨aBinF_of (aBinE_of h)⟩
theorem BN_add {t : TypeId} {a b : Int} (hb : NU (-9223372036854775808 ≤ a + b ∧ a + b ≤ 9223372036854775807)) : BN tab t .add (.g (.int .i64 a)) (.g (.int .i64 b)) (.g (.int .i64 (a + b))) := BN_of (by simp [aBin, intOp, wr64 hb.e.1 hb.e.2])
theorem BN_sub {t : TypeId} {a b : Int} (hb : NU (-9223372036854775808 ≤ a - b ∧ a - b ≤ 9223372036854775807)) : BN tab t .sub (.g (.int .i64 a)) (.g (.int .i64 b)) (.g (.int .i64 (a - b))) := BN_of (by simp [aBin, intOp, wr64 hb.e.1 hb.e.2])
theorem BN_mul {t : TypeId} {a b : Int} (hb : NU (-9223372036854775808 ≤ a * b ∧ a * b ≤ 9223372036854775807)) : BN tab t .mul (.g (.int .i64 a)) (.g (.int .i64 b)) (.g (.int .i64 (a * b))) := BN_of (by simp [aBin, intOp, wr64 hb.e.1 hb.e.2])
theorem BN_quo {t : TypeId} {a b : Int} (hb : NU (0 ≤ a ∧ a ≤ 9223372036854775807 ∧ 0 < b)) : BN tab t .quo (.g (.int .i64 a)) (.g (.int .i64 b)) (.g (.int .i64 (a / b))) := BN_of (by
    have hb := hb.e
    have e1 : a.tdiv b = a / b := Int.tdiv_eq_ediv_of_nonneg hb.1
    have e2 : 0 ≤ a / b := Int.ediv_nonneg hb.1 (by omega)
    have e3 : a / b ≤ a := Int.ediv_le_self b hb.1
    have e4 : ¬ b = 0 := by omega
    simp [aBin, intOp, e1, e4, wr64 (show -9223372036854775808 ≤ a / b by omega) (show a / b ≤ 9223372036854775807 by omega)])
theorem BN_rem {t : TypeId} {a b : Int} (hb : NU (0 ≤ a ∧ 0 < b)) : BN tab t .rem (.g (.int .i64 a)) (.g (.int .i64 b)) (.g (.int .i64 (a % b))) := BN_of (by
    have hb := hb.e
    have e1 : a.tmod b = a % b := Int.tmod_eq_emod_of_nonneg hb.1
    have e4 : ¬ b = 0 := by omega
    simp [aBin, intOp, e1, e4])
theorem BN_shl {t : TypeId} {a b : Int} {k : IntKind} (hb : NU (0 ≤ a ∧ 0 ≤ b ∧ b ≤ 62 ∧ a * 2 ^ b.toNat ≤ 9223372036854775807)) : BN tab t .shl (.g (.int .i64 a)) (.g (.int k b)) (.g (.int .i64 (a * 2 ^ b.toNat))) := BN_of (by
    have hb := hb.e
    have h5 : 0 ≤ a * 2 ^ b.toNat := Int.mul_nonneg hb.1 (Int.pow_nonneg (by decide))
    have e1 : ¬ b < 0 := by omega
    have e2 : min b.toNat (IntKind.bits .i64) = b.toNat := Nat.min_eq_left (by show b.toNat ≤ 64; omega)
    simp only [aBin, e1, if_false, e2, wr64 (show -9223372036854775808 ≤ a * 2 ^ b.toNat by omega) hb.2.2.2])
theorem BN_eql {t : TypeId} (k : IntKind) (a b : Int) : BN tab t .eql (.g (.int k a)) (.g (.int k b)) (.g (.bool (a == b))) := BN_of (by simp [aBin, intOp])
theorem BN_neq {t : TypeId} (k : IntKind) (a b : Int) : BN tab t .neq (.g (.int k a)) (.g (.int k b)) (.g (.bool (a != b))) := BN_of (by simp [aBin, intOp])
theorem BN_lss {t : TypeId} (k : IntKind) (a b : Int) : BN tab t .lss (.g (.int k a)) (.g (.int k b)) (.g (.bool (decide (a < b)))) := BN_of (by simp [aBin, intOp])
theorem BN_leq {t : TypeId} (k : IntKind) (a b : Int) : BN tab t .leq (.g (.int k a)) (.g (.int k b)) (.g (.bool (decide (a ≤ b)))) := BN_of (by simp [aBin, intOp])
theorem BN_gtr {t : TypeId} (k : IntKind) (a b : Int) : BN tab t .gtr (.g (.int k a)) (.g (.int k b)) (.g (.bool (decide (a > b)))) := BN_of (by simp [aBin, intOp])
theorem BN_geq {t : TypeId} (k : IntKind) (a b : Int) : BN tab t .geq (.g (.int k a)) (.g (.int k b)) (.g (.bool (decide (a ≥ b)))) := BN_of (by simp [aBin, intOp])
theorem BN_beq {t : TypeId} {a b : Bool} (h : RF (isBoolT tab t = true)) : BN tab t .eql (.g (.bool a)) (.g (.bool b)) (.g (.bool (a == b))) := ⟨aBinF_of (by simp only [aBinE, h.e, if_true])⟩
theorem BN_bne {t : TypeId} {a b : Bool} (h : RF (isBoolT tab t = true)) : BN tab t .neq (.g (.bool a)) (.g (.bool b)) (.g (.bool (!(a == b)))) := ⟨aBinF_of (by simp only [aBinE, h.e, if_true])⟩
theorem pairEq (a b c d : Int) : ([a, b] == [c, d]) = decide ((a, b) = (c, d)) := by
  rw [Bool.eq_iff_iff]; simp
theorem arrE2 {a b : Int} {p : PV} (h : aggInts .i64 p = some [a, b]) : p = .agg [.g (.int .i64 a), .g (.int .i64 b)] ∨ p = .g (.agg [.int .i64 a, .int .i64 b]) := by
  unfold aggInts at h
  split at h
  · have := intsP_ok h; subst this; exact .inl rfl
  · have := intsG_ok h; subst this; exact .inr rfl
  · cases h
theorem aBinE_arr {t : TypeId} {op : BinOp} {p q : PV} {a b c d : Int} (hp : aggInts .i64 p = some [a, b]) (hq : aggInts .i64 q = some [c, d]) : aBinE tab op t p q = none := by
  rcases arrE2 hp with rfl | rfl <;> rcases arrE2 hq with rfl | rfl <;> cases op <;> rfl
theorem BN_ar {t : TypeId} {p q : PV} {a b c d : Int} (hp : aggInts .i64 p = some [a, b]) (hq : aggInts .i64 q = some [c, d]) (ht : RF (arrOf tab t = some (2, .i64))) : BN tab t .eql p q (.g (.bool (decide ((a, b) = (c, d))))) := ⟨by
  unfold aBinF
  rw [aBinE_arr hp hq]
  rcases arrE2 hp with rfl | rfl <;> rcases arrE2 hq with rfl | rfl <;> simp only [ht.e, hp, hq, pairEq, List.length_cons, List.length_nil, and_self, if_true]⟩
theorem BN_arvv {t : TypeId} {a b c d : Int} (ht : RF (arrOf tab t = some (2, .i64))) : BN tab t .eql (.agg [.g (.int .i64 a), .g (.int .i64 b)]) (.agg [.g (.int .i64 c), .g (.int .i64 d)]) (.g (.bool (decide ((a, b) = (c, d))))) := BN_ar (by simp [aggInts, intsP]) (by simp [aggInts, intsP]) ht
theorem BN_argv {t : TypeId} {a b c d : Int} (ht : RF (arrOf tab t = some (2, .i64))) : BN tab t .eql (.g (.agg [.int .i64 a, .int .i64 b])) (.agg [.g (.int .i64 c), .g (.int .i64 d)]) (.g (.bool (decide ((a, b) = (c, d))))) := BN_ar (by simp [aggInts, intsG]) (by simp [aggInts, intsP]) ht
theorem BN_arvg {t : TypeId} {a b c d : Int} (ht : RF (arrOf tab t = some (2, .i64))) : BN tab t .eql (.agg [.g (.int .i64 a), .g (.int .i64 b)]) (.g (.agg [.int .i64 c, .int .i64 d])) (.g (.bool (decide ((a, b) = (c, d))))) := BN_ar (by simp [aggInts, intsP]) (by simp [aggInts, intsG]) ht
theorem BN_argg {t : TypeId} {a b c d : Int} (ht : RF (arrOf tab t = some (2, .i64))) : BN tab t .eql (.g (.agg [.int .i64 a, .int .i64 b])) (.g (.agg [.int .i64 c, .int .i64 d])) (.g (.bool (decide ((a, b) = (c, d))))) := BN_ar (by simp [aggInts, intsG]) (by simp [aggInts, intsG]) ht
theorem BN_seq {t : TypeId} (a b : ByteArray) : BN tab t .eql (.g (.str a)) (.g (.str b)) (.g (.bool (a.toList == b.toList))) := ⟨by simp [aBinF, aBinE, aBin, strOp]⟩
theorem BN_sne {t : TypeId} (a b : ByteArray) : BN tab t .neq (.g (.str a)) (.g (.str b)) (.g (.bool (!(a.toList == b.toList)))) := ⟨by simp [aBinF, aBinE, aBin, strOp]⟩
theorem BN_sadd {t : TypeId} {a b : ByteArray} (h : NU (a.size + b.size ≤ 9223372036854775807)) : BN tab t .add (.g (.str a)) (.g (.str b)) (.g (.str (a ++ b))) := ⟨by have := h.e; simp [aBinF, aBinE, aBin, strOp, this]⟩
theorem X_bin {op : BinOp} {t t' : TypeId} {x y : Operand} {p q v : PV} (hd : RF (hasB d n = true)) (hx : EV sl tab 0 x p) (hy : EV sl tab 0 y q) (hv : BN tab t op p q v) (h4 : AF dr P tab ops (i + 1) os n ((d, v) :: sl) hl nx (acc ++ [tcX tab i n sl hl nx ⟨some d, .binOp op t x y t', ty, pos, af, none⟩ []]) K) : AF dr P tab ops i (⟨some d, .binOp op t x y t', ty, pos, af, none⟩ :: os) n sl hl nx acc K :=
  X_any (ws := []) (has_X hd) (by simp only [aOp, hx.e, hy.e, hv.e]) h4
structure UN (op : UnOp) (x v : PV) : Prop where
  e : aUn op x = some (v, [])
theorem UN_not (b : Bool) : UN .not (.g (.bool b)) (.g (.bool (!b))) := ⟨rfl⟩
theorem UN_neg {a : Int} (hb : NU (-9223372036854775807 ≤ a ∧ a ≤ 9223372036854775807)) : UN .neg (.g (.int .i64 a)) (.g (.int .i64 (0 - a))) := ⟨by have := hb.e; simp only [aUn]; rw [wr64 (by omega) (by omega)]⟩
theorem X_un {op : UnOp} {t : TypeId} {x : Operand} {p v : PV} (hd : RF (hasB d n = true)) (hx : EV sl tab 0 x p) (hv : UN op p v) (h4 : AF dr P tab ops (i + 1) os n ((d, v) :: sl) hl nx (acc ++ [tcX tab i n sl hl nx ⟨some d, .unOp op t x, ty, pos, af, none⟩ []]) K) : AF dr P tab ops i (⟨some d, .unOp op t x, ty, pos, af, none⟩ :: os) n sl hl nx acc K :=
  X_any (ws := []) (has_X hd) (by simp only [aOp, hx.e, hv.e]) h4
/-- a conversion between integer types -/
structure CV (tab : Tab) (s t : TypeId) (x v : PV) : Prop where
  e : aConv tab s t x = some (v, [])
theorem CV_int {s t : TypeId} {si di : TI} {k k' : IntKind} {a : Int} (h5 : RF (tab s = some si ∧ si.kind = .int k)) (h6 : RF (tab t = some di ∧ di.kind = .int .i64)) (hb : NU (-9223372036854775808 ≤ a ∧ a ≤ 9223372036854775807)) : CV tab s t (.g (.int k' a)) (.g (.int .i64 a)) := ⟨by simp [aConv, h5.e.1, h6.e.1, h5.e.2, h6.e.2, wr64 hb.e.1 hb.e.2]⟩
theorem X_conv {s t : TypeId} {x : Operand} {p v : PV} (hd : RF (hasB d n = true)) (hx : EV sl tab 0 x p) (hv : CV tab s t p v) (h4 : AF dr P tab ops (i + 1) os n ((d, v) :: sl) hl nx (acc ++ [tcX tab i n sl hl nx ⟨some d, .convert s t x, ty, pos, af, none⟩ []]) K) : AF dr P tab ops i (⟨some d, .convert s t x, ty, pos, af, none⟩ :: os) n sl hl nx acc K :=
  X_any (ws := []) (has_X hd) (by simp only [aOp, hx.e, hv.e]) h4

/-! boxes -/
theorem X_alloc {elem : TypeId} {ti : TI} {k : Nat} {z : List PV} (hd : RF (hasB d n = true)) (ht : RF (tab elem = some ti ∧ ti.zero = z)) (hk : NID (nx + 8 * i) k) (hf : HL hl k .free) (h4 : AF dr P tab ops (i + 1) os n ((d, .ptr k 0) :: sl) ((k, .box z) :: hl) nx (acc ++ [tcX tab i n sl hl nx ⟨some d, .alloc elem, ty, pos, af, none⟩ [k]]) K) : AF dr P tab ops i (⟨some d, .alloc elem, ty, pos, af, none⟩ :: os) n sl hl nx acc K := by
  cases hk.e
  cases ht.e.2
  exact X_any (ws := [(nx + 8 * i, .box ti.zero)]) (has_X hd) (by simp only [aOp, aAlloc, ht.e.1, mkX_nx, mkX_heap, hf.e, isFree, if_true]) h4
theorem X_box {elem : TypeId} {x : Operand} {p : PV} {cs : List PV} {k : Nat} (hd : RF (hasB d n = true)) (hx : EV sl tab elem x p) (hp : CP p cs) (hk : NID (nx + 8 * i) k) (hf : HL hl k .free) (h4 : AF dr P tab ops (i + 1) os n ((d, .ptr k 0) :: sl) ((k, .box cs) :: hl) nx (acc ++ [tcX tab i n sl hl nx ⟨some d, .box elem x, ty, pos, af, none⟩ [k]]) K) : AF dr P tab ops i (⟨some d, .box elem x, ty, pos, af, none⟩ :: os) n sl hl nx acc K := by
  cases hk.e
  exact X_any (ws := [(nx + 8 * i, .box cs)]) (has_X hd) (by simp only [aOp, aBox, hx.e, hp.e, hp.v, mkX_heap, hf.e, isFree, Bool.and_self, if_true]) h4

/-! loads -/
/-- a value out of cells -/
structure LB (tab : Tab) (t : TypeId) (off : Nat) (cs : List PV) (v : PV) : Prop where
  e : ∃ ti, tab t = some ti ∧ aLoadBox ti off cs = some v
theorem LB_one {t : TypeId} {off : Nat} {cs : List PV} {v : PV} {ti : TI} (h : RF (tab t = some ti ∧ ti.kind.agg = false)) (h2 : Idx cs off v) : LB tab t off cs v := ⟨ti, h.e.1, by simp only [aLoadBox, h.e.2, Bool.false_eq_true, if_false, h2.e]⟩
theorem LB_agg {t : TypeId} {off : Nat} {cs cs' : List PV} {ti : TI} {sz : Nat} (h : RF (tab t = some ti ∧ ti.kind.agg = true ∧ ti.size = sz)) (h2 : Sub cs off sz cs') : LB tab t off cs (.agg cs') := ⟨ti, h.e.1, by
  obtain ⟨h3, h4, h5⟩ := h.e
  have := h2.l
  simp only [aLoadBox, h4, if_true, h5]
  rw [if_pos this, h2.e]⟩
structure LI (tab : Tab) (t : TypeId) (cs : List GV) (v : PV) : Prop where
  e : ∃ ti, tab t = some ti ∧ aLoadImm ti cs = some v
theorem LI_one {t : TypeId} {c : GV} {cs : List GV} {ti : TI} (h : RF (tab t = some ti ∧ ti.kind.agg = false)) : LI tab t (c :: cs) (.g c) := ⟨ti, h.e.1, by simp [aLoadImm, h.e.2]⟩
theorem LI_agg {t : TypeId} {cs cs' : List GV} {ti : TI} {sz : Nat} (h : RF (tab t = some ti ∧ ti.kind.agg = true ∧ ti.size = sz)) (h2 : Sub cs 0 sz cs') : LI tab t cs (.g (.agg cs')) := ⟨ti, h.e.1, by
  obtain ⟨h3, h4, h5⟩ := h.e
  have := h2.l
  have h6 := h2.e
  simp at h6
  simp only [aLoadImm, h4, if_true, h5]
  rw [if_pos (by omega), h6]⟩
structure LD (tab : Tab) (hl : List (Nat × Block)) (t : TypeId) (p v : PV) : Prop where
  e : aLoad tab (lookH hl) t p = some (v, [])
theorem LD_box {t : TypeId} {id off : Nat} {cs : List PV} {v : PV} (hb : HL hl id (.box cs)) (hv : LB tab t off cs v) : LD tab hl t (.ptr id off) v := ⟨by obtain ⟨ti, h1, h2⟩ := hv.e; exact ld_box h1 hb.e h2⟩
theorem LD_imm {t : TypeId} {cs : List GV} {v : PV} (hv : LI tab t cs v) : LD tab hl t (.iptr cs) v := ⟨by obtain ⟨ti, h1, h2⟩ := hv.e; exact ld_imm h1 h2⟩
theorem LD_ibox {t : TypeId} {cs : List GV} {v : PV} (hv : LI tab t cs v) : LD tab hl t (.g (.box cs)) v := ⟨by obtain ⟨ti, h1, h2⟩ := hv.e; exact ld_ibox h1 h2⟩
theorem LD_elt {t : TypeId} {id k j e : Nat} {dp : Bool} {xs : List GV} {x : GV} {cs cs' : List GV} {v : PV} (hb : HL hl id (.arr e dp xs)) (hx : ITM xs (k : Int) x) (hc : CG x cs) (hj : Dr cs j cs') (hv : LI tab t cs' v) : LD tab hl t (.eptr id k j) v := ⟨by
  obtain ⟨ti, h1, h2⟩ := hv.e
  have h3 := hx.e
  simp only [Int.toNat_natCast] at h3
  exact ld_elt h1 hb.e h3 hc.t (by rw [hc.e, hj.e]; exact h2)⟩
theorem X_load {t : TypeId} {x : Operand} {p v : PV} (hd : RF (hasB d n = true)) (hx : EV sl tab 0 x p) (hv : LD tab hl t p v) (h4 : AF dr P tab ops (i + 1) os n ((d, v) :: sl) hl nx (acc ++ [tcX tab i n sl hl nx ⟨some d, .load t x, ty, pos, af, none⟩ []]) K) : AF dr P tab ops i (⟨some d, .load t x, ty, pos, af, none⟩ :: os) n sl hl nx acc K :=
  X_any (ws := []) (has_X hd) (by simp only [aOp, hx.e]; exact hv.e) h4

/-! stores -/
/-- what a store writes -/
structure ST (tab : Tab) (nid : Nat) (hl : List (Nat × Block)) (t : TypeId) (p v : PV) (ws : List (Nat × Block)) : Prop where
  e : aStore tab nid (lookH hl) t p v = some (.none_, ws)
theorem ST_box {nid : Nat} {t : TypeId} {ti : TI} {id off sz : Nat} {cs cs' ps : List PV} {p : PV} (hb : HL hl id (.box cs)) (hp : CP p ps) (ht : RF (tab t = some ti ∧ ti.size = sz)) (hs : RF (ps.length = sz)) (hc : SetL cs off ps cs') : ST tab nid hl t (.ptr id off) p [(id, .box cs')] := ⟨by
  obtain ⟨h1, h2⟩ := ht.e
  have h3 := hs.e
  have h4 := hc.l
  have h5 := hc.e
  subst h2
  simp only [aStore, h1, hb.e, hp.v, hp.e, h3, Bool.true_and, beq_self_eq_true, h5]
  rw [if_pos (by simpa using (by omega : off + ti.size ≤ cs.length))]⟩
/-- an item that is a cell -/
theorem ST_arr {nid : Nat} {t : TypeId} {ti : TI} {id k : Nat} {dp : Bool} {xs ys : List GV} {g : GV} (hb : HL hl id (.arr 1 dp xs)) (ht : RF (tab t = some ti ∧ ti.size = 1)) (hg : RF (g.atom = true)) (hf : HL hl nid .free) (hy : PUT xs k g ys) (hk : NU (k < xs.length)) : ST tab nid hl t (.eptr id k 0) (.g g) [(id, .arr 1 dp ys)] := ⟨by
  obtain ⟨h1, h2⟩ := ht.e
  have hg := hg.e
  have e1 : g.ncells = 1 := by cases g <;> simp_all [GV.atom, GV.ncells]
  have e2 : g.isTup = false := by cases g <;> simp_all [GV.atom, GV.isTup]
  have e3 : g.flat = true := by cases g <;> simp_all [GV.atom, GV.flat]
  have e4 : absE (lookH hl) (.g g) = some (g, [], true) := by simp [absE, absorb, e3]
  have hk := hk.e
  have hy := hy.e
  subst hy
  simp only [aStore, h1, hb.e, h2, hk, hf.e, isFree, and_self, if_true, e4, e1, e2, List.not_mem_nil, not_false_eq_true, kills, List.map_nil, List.nil_append, Bool.and_true]⟩
theorem X_store {t : TypeId} {x y : Operand} {p q : PV} {ws : List (Nat × Block)} {k : Nat} (hx : EV sl tab 0 x p) (hy : EV sl tab t y q) (hk : NID (nx + 8 * i) k) (hs : ST tab k hl t p q ws) (h4 : AF dr P tab ops (i + 1) os n sl (pushW ws hl) nx (acc ++ [tcX tab i n sl hl nx ⟨none, .store t x y, ty, pos, af, none⟩ (idsW ws)]) K) : AF dr P tab ops i (⟨none, .store t x y, ty, pos, af, none⟩ :: os) n sl hl nx acc K := by
  cases hk.e
  exact X_any (dst := none) (pv := .none_) rfl (by simp only [aOp, hx.e, hy.e, mkX_nx]; exact hs.e) h4
theorem X_store1 {t : TypeId} {x y : Operand} {p q : PV} {id : Nat} {b : Block} {k : Nat} (hx : EV sl tab 0 x p) (hy : EV sl tab t y q) (hk : NID (nx + 8 * i) k) (hs : ST tab k hl t p q [(id, b)]) (h4 : AF dr P tab ops (i + 1) os n sl ((id, b) :: hl) nx (acc ++ [tcX tab i n sl hl nx ⟨none, .store t x y, ty, pos, af, none⟩ (idsW [(id, b)])]) K) : AF dr P tab ops i (⟨none, .store t x y, ty, pos, af, none⟩ :: os) n sl hl nx acc K := X_store hx hy hk hs h4
/-- the writes, put in order -/
theorem AF_push1 {w : Nat × Block} (h : AF dr P tab ops i os n sl (w :: hl) nx acc K) : AF dr P tab ops i os n sl (pushW [w] hl) nx acc K := h

/-! addresses -/
structure NP (hl : List (Nat × Block)) (p : PV) : Prop where
  e : p.isPtr (lookH hl) = true
theorem NP_ptr {id o : Nat} {cs : List PV} (h : HL hl id (.box cs)) : NP hl (.ptr id o) := ⟨by simp only [PV.isPtr, h.e]⟩
theorem NP_eptr {id k j e : Nat} {dp : Bool} {xs : List GV} (h : HL hl id (.arr e dp xs)) : NP hl (.eptr id k j) := ⟨by simp only [PV.isPtr, h.e]⟩
theorem NP_iptr (cs : List GV) : NP hl (.iptr cs) := ⟨rfl⟩
theorem NP_gbox (cs : List GV) : NP hl (.g (.box cs)) := ⟨rfl⟩
theorem NP_fn (f : FuncId) (cs : List PV) : NP hl (.fn f cs) := ⟨rfl⟩
theorem X_nilc {x : Operand} {p : PV} (hd : RF (hasB d n = true)) (hx : EV sl tab 0 x p) (hp : NP hl p) (h4 : AF dr P tab ops (i + 1) os n ((d, p) :: sl) hl nx (acc ++ [tcX tab i n sl hl nx ⟨some d, .nilCheck x, ty, pos, af, none⟩ []]) K) : AF dr P tab ops i (⟨some d, .nilCheck x, ty, pos, af, none⟩ :: os) n sl hl nx acc K :=
  X_any (ws := []) (has_X hd) (by simp only [aOp, hx.e, aNil]; rw [if_pos]; exact hp.e) h4
structure FL (tab : Tab) (hl : List (Nat × Block)) (s : TypeId) (x : PV) (f : Nat) (v : PV) : Prop where
  e : aField tab (lookH hl) s x f = some (v, [])
/-- where a field lies -/
structure FO' (tab : Tab) (s : TypeId) (f off : Nat) : Prop where
  e : ∃ ti fs ft fi, tab s = some ti ∧ ti.kind = .st fs ∧ fs[f]? = some (off, ft) ∧ tab ft = some fi ∧ Nat.beq fi.size 0 = false
def FO (tab : Tab) (s : TypeId) (f off : Nat) : Prop := FO' tab s f off
theorem FO.mk {tab : Tab} {s : TypeId} {f off : Nat} (h : FO' tab s f off) : FO tab s f off := h
theorem FO.e {tab : Tab} {s : TypeId} {f off : Nat} (h : FO tab s f off) : ∃ ti fs ft fi, tab s = some ti ∧ ti.kind = .st fs ∧ fs[f]? = some (off, ft) ∧ tab ft = some fi ∧ Nat.beq fi.size 0 = false := @FO'.e _ _ _ _ h
theorem FO_mk {s : TypeId} {f off : Nat} {ti fi : TI} {fs : List (Nat × TypeId)} {ft : TypeId} (h1 : tab s = some ti) (h2 : ti.kind = .st fs) (h3 : fs[f]? = some (off, ft)) (h4 : tab ft = some fi) (h5 : Nat.beq fi.size 0 = false) : FO tab s f off := FO.mk ⟨ti, fs, ft, fi, h1, h2, h3, h4, h5⟩
theorem FL_ptr {s : TypeId} {f off id o : Nat} {cs : List PV} (ho : FO tab s f off) (h : HL hl id (.box cs)) : FL tab hl s (.ptr id o) f (.ptr id (o + off)) := ⟨by
  obtain ⟨ti, fs, ft, fi, h1, h2, h3, h4, h5⟩ := ho.e
  have h6 : ¬ fi.size = 0 := by intro e; rw [e] at h5; simp at h5
  simp only [aField, h1, h2, h3, h4, h6, PV.isPtr, h.e, if_false, if_true]⟩
theorem FL_eptr {s : TypeId} {f off id k j e : Nat} {dp : Bool} {xs : List GV} (ho : FO tab s f off) (h : HL hl id (.arr e dp xs)) : FL tab hl s (.eptr id k j) f (.eptr id k (j + off)) := ⟨by
  obtain ⟨ti, fs, ft, fi, h1, h2, h3, h4, h5⟩ := ho.e
  have h6 : ¬ fi.size = 0 := by intro e; rw [e] at h5; simp at h5
  simp only [aField, h1, h2, h3, h4, h6, PV.isPtr, h.e, if_false, if_true]⟩
theorem FL_iptr {s : TypeId} {f off : Nat} {cs cs' : List GV} (ho : FO tab s f off) (h : Dr cs off cs') : FL tab hl s (.iptr cs) f (.iptr cs') := ⟨by
  obtain ⟨ti, fs, ft, fi, h1, h2, h3, h4, h5⟩ := ho.e
  have h6 : ¬ fi.size = 0 := by intro e; rw [e] at h5; simp at h5
  simp only [aField, h1, h2, h3, h4, h6, if_false, h.e]⟩
theorem FL_gbox {s : TypeId} {f off : Nat} {cs cs' : List GV} (ho : FO tab s f off) (h : Dr cs off cs') : FL tab hl s (.g (.box cs)) f (.iptr cs') := ⟨by
  obtain ⟨ti, fs, ft, fi, h1, h2, h3, h4, h5⟩ := ho.e
  have h6 : ¬ fi.size = 0 := by intro e; rw [e] at h5; simp at h5
  simp only [aField, h1, h2, h3, h4, h6, if_false, h.e]⟩
theorem X_fld {s : TypeId} {x : Operand} {f : Nat} {p v : PV} (hd : RF (hasB d n = true)) (hx : EV sl tab 0 x p) (hv : FL tab hl s p f v) (h4 : AF dr P tab ops (i + 1) os n ((d, v) :: sl) hl nx (acc ++ [tcX tab i n sl hl nx ⟨some d, .fieldAddr s x f, ty, pos, af, none⟩ []]) K) : AF dr P tab ops i (⟨some d, .fieldAddr s x f, ty, pos, af, none⟩ :: os) n sl hl nx acc K :=
  X_any (ws := []) (has_X hd) (by simp only [aOp, hx.e]; exact hv.e) h4
/-- a part of a structure's value -/
structure PT (tab : Tab) (t : TypeId) (x : PV) (f : Nat) (v : PV) : Prop where
  e : aPart tab t x f = some (v, [])
structure FO1' (tab : Tab) (s : TypeId) (f off : Nat) : Prop where
  e : ∃ ti fs ft fi, tab s = some ti ∧ ti.kind = .st fs ∧ fs[f]? = some (off, ft) ∧ tab ft = some fi ∧ fi.kind.agg = false
def FO1 (tab : Tab) (s : TypeId) (f off : Nat) : Prop := FO1' tab s f off
theorem FO1.mk {tab : Tab} {s : TypeId} {f off : Nat} (h : FO1' tab s f off) : FO1 tab s f off := h
theorem FO1.e {tab : Tab} {s : TypeId} {f off : Nat} (h : FO1 tab s f off) : ∃ ti fs ft fi, tab s = some ti ∧ ti.kind = .st fs ∧ fs[f]? = some (off, ft) ∧ tab ft = some fi ∧ fi.kind.agg = false := @FO1'.e _ _ _ _ h
theorem FO1_mk {s : TypeId} {f off : Nat} {ti fi : TI} {fs : List (Nat × TypeId)} {ft : TypeId} (h1 : tab s = some ti) (h2 : ti.kind = .st fs) (h3 : fs[f]? = some (off, ft)) (h4 : tab ft = some fi) (h5 : fi.kind.agg = false) : FO1 tab s f off := FO1.mk ⟨ti, fs, ft, fi, h1, h2, h3, h4, h5⟩
theorem PT_agg {t : TypeId} {f off : Nat} {cs : List PV} {v : PV} (ho : FO1 tab t f off) (h : Idx cs off v) : PT tab t (.agg cs) f v := ⟨by
  obtain ⟨ti, fs, ft, fi, h1, h2, h3, h4, h5⟩ := ho.e
  simp only [aPart, h1, h2, h3, h4, h5, Bool.false_eq_true, if_false, h.e]⟩
theorem PT_gagg {t : TypeId} {f off : Nat} {cs : List GV} {v : GV} (ho : FO1 tab t f off) (h : Idx cs off v) : PT tab t (.g (.agg cs)) f (.g v) := ⟨by
  obtain ⟨ti, fs, ft, fi, h1, h2, h3, h4, h5⟩ := ho.e
  simp only [aPart, h1, h2, h3, h4, h5, Bool.false_eq_true, if_false, h.e]⟩
theorem X_part {t : TypeId} {x : Operand} {f : Nat} {p v : PV} (hd : RF (hasB d n = true)) (hx : EV sl tab 0 x p) (hv : PT tab t p f v) (h4 : AF dr P tab ops (i + 1) os n ((d, v) :: sl) hl nx (acc ++ [tcX tab i n sl hl nx ⟨some d, .field t x f, ty, pos, af, none⟩ []]) K) : AF dr P tab ops i (⟨some d, .field t x f, ty, pos, af, none⟩ :: os) n sl hl nx acc K :=
  X_any (ws := []) (has_X hd) (by simp only [aOp, hx.e, hv.e]) h4
structure IX (tab : Tab) (hl : List (Nat × Block)) (t : TypeId) (x i v : PV) : Prop where
  e : aIndex tab (lookH hl) t x i = some (v, [])
theorem IX_own {t : TypeId} {E e : Nat} {id lo len : Nat} {dp : Bool} {xs : List GV} {k : IntKind} {m : Int} (ht : SLT tab t E e) (hb : HL hl id (.arr (e + 1) dp xs)) (hn : NU (0 ≤ m ∧ m < (len : Int))) : IX tab hl t (.own id lo len) (.g (.int k m)) (.eptr id (lo + m.toNat) 0) := ⟨by
  obtain ⟨ti, ei, h1, h2, h3, h4⟩ := ht.h
  simp only [aIndex, h1, h2, h3, h4, hb.e, hn.e, and_self, if_true]⟩
theorem IX_own0 {t : TypeId} {E e : Nat} {id len : Nat} {dp : Bool} {xs : List GV} {k : IntKind} {m : Nat} (ht : SLT tab t E e) (hb : HL hl id (.arr (e + 1) dp xs)) (hn : NU (m < len)) : IX tab hl t (.own id 0 len) (.g (.int k (m : Int))) (.eptr id m 0) := ⟨by
  have := (IX_own (k := k) (lo := 0) ht hb (len := len) (m := (m : Int)) (NU.mk (by have := hn.e; omega))).e
  simpa using this⟩
theorem IX_g {t : TypeId} {E e : Nat} {xs : List GV} {k : IntKind} {m : Int} {g : GV} {cs : List GV} (ht : SLT tab t E e) (hg : ITM xs m g) (hc : CG g cs) : IX tab hl t (.g (.sl (e + 1) xs)) (.g (.int k m)) (.iptr cs) := ⟨by
  obtain ⟨ti, ei, h1, h2, h3, h4⟩ := ht.h
  have hgd : xs.getD m.toNat default = g := by simp [List.getD, hg.e]
  simp only [aIndex, h1, h2, h3, h4, hg.l, hgd, hc.t, hc.e, and_self, if_true]⟩
/-- an array's type: so many elements of one cell -/
structure ART (tab : Tab) (t : TypeId) (m : Nat) : Prop where
  e : ∃ ti E ei, tab t = some ti ∧ ti.kind = .ar m E ∧ tab E = some ei ∧ ei.size = 1 ∧ ei.kind.agg = false
def arB (tab : Tab) (t : TypeId) (m : Nat) : Bool :=
  match tab t with
  | some ti => match ti.kind with
    | .ar m' E => match tab E with
      | some ei => Nat.beq m' m && Nat.beq ei.size 1 && !ei.kind.agg
      | none => false
    | _ => false
  | none => false
theorem ART.of {t : TypeId} {m : Nat} (h : RF (arB tab t m = true)) : ART tab t m := by
  have h := h.e
  unfold arB at h
  split at h
  · rename_i ti hti
    split at h
    · rename_i m' E hk
      split at h
      · rename_i ei hE
        simp only [Bool.and_eq_true, Bool.not_eq_true'] at h
        have h1 := Nat.eq_of_beq_eq_true h.1.1
        subst h1
        exact ⟨ti, E, ei, hti, hk, hE, Nat.eq_of_beq_eq_true h.1.2, h.2⟩
      · cases h
    · cases h
  · cases h
theorem IX_ae0 {t : TypeId} {id k j e : Nat} {dp : Bool} {xs : List GV} {kk : IntKind} (ht : RF (arB tab t 2 = true)) (hb : HL hl id (.arr e dp xs)) : IX tab hl t (.eptr id k j) (.g (.int kk 0)) (.eptr id k j) := ⟨by
  obtain ⟨ti, E, ei, h1, h2, h3, h4, _⟩ := (ART.of ht).e
  simp [aIndex, h1, h2, h3, h4, PV.isPtr, hb.e]⟩
theorem IX_ae1 {t : TypeId} {id k j e : Nat} {dp : Bool} {xs : List GV} {kk : IntKind} (ht : RF (arB tab t 2 = true)) (hb : HL hl id (.arr e dp xs)) : IX tab hl t (.eptr id k j) (.g (.int kk 1)) (.eptr id k (j + 1)) := ⟨by
  obtain ⟨ti, E, ei, h1, h2, h3, h4, _⟩ := (ART.of ht).e
  simp [aIndex, h1, h2, h3, h4, PV.isPtr, hb.e]⟩
theorem IX_ap0 {t : TypeId} {id j : Nat} {cs : List PV} {kk : IntKind} (ht : RF (arB tab t 2 = true)) (hb : HL hl id (.box cs)) : IX tab hl t (.ptr id j) (.g (.int kk 0)) (.ptr id j) := ⟨by
  obtain ⟨ti, E, ei, h1, h2, h3, h4, _⟩ := (ART.of ht).e
  simp [aIndex, h1, h2, h3, h4, PV.isPtr, hb.e]⟩
theorem IX_ap1 {t : TypeId} {id j : Nat} {cs : List PV} {kk : IntKind} (ht : RF (arB tab t 2 = true)) (hb : HL hl id (.box cs)) : IX tab hl t (.ptr id j) (.g (.int kk 1)) (.ptr id (j + 1)) := ⟨by
  obtain ⟨ti, E, ei, h1, h2, h3, h4, _⟩ := (ART.of ht).e
  simp [aIndex, h1, h2, h3, h4, PV.isPtr, hb.e]⟩
theorem IX_ai0 {t : TypeId} {cs : List GV} {kk : IntKind} (ht : RF (arB tab t 2 = true)) : IX tab hl t (.iptr cs) (.g (.int kk 0)) (.iptr cs) := ⟨by
  obtain ⟨ti, E, ei, h1, h2, h3, h4, _⟩ := (ART.of ht).e
  simp [aIndex, h1, h2, h3, h4]⟩
theorem IX_ai1 {t : TypeId} {c : GV} {cs : List GV} {kk : IntKind} (ht : RF (arB tab t 2 = true)) : IX tab hl t (.iptr (c :: cs)) (.g (.int kk 1)) (.iptr cs) := ⟨by
  obtain ⟨ti, E, ei, h1, h2, h3, h4, _⟩ := (ART.of ht).e
  simp [aIndex, h1, h2, h3, h4]⟩
theorem IX_ab0 {t : TypeId} {cs : List GV} {kk : IntKind} (ht : RF (arB tab t 2 = true)) : IX tab hl t (.g (.box cs)) (.g (.int kk 0)) (.iptr cs) := ⟨by
  obtain ⟨ti, E, ei, h1, h2, h3, h4, _⟩ := (ART.of ht).e
  simp [aIndex, h1, h2, h3, h4]⟩
theorem IX_ab1 {t : TypeId} {c : GV} {cs : List GV} {kk : IntKind} (ht : RF (arB tab t 2 = true)) : IX tab hl t (.g (.box (c :: cs))) (.g (.int kk 1)) (.iptr cs) := ⟨by
  obtain ⟨ti, E, ei, h1, h2, h3, h4, _⟩ := (ART.of ht).e
  simp [aIndex, h1, h2, h3, h4]⟩
/-- an element of an array's value -/
structure IDX (tab : Tab) (t : TypeId) (x i v : PV) : Prop where
  e : aIdx tab t x i = some (v, [])
theorem IDX_v0 {t : TypeId} {a b : PV} {kk : IntKind} (ht : RF (arB tab t 2 = true)) : IDX tab t (.agg [a, b]) (.g (.int kk 0)) a := ⟨by
  obtain ⟨ti, E, ei, h1, h2, h3, h4, h5⟩ := (ART.of ht).e
  simp [aIdx, h1, h2, h3, h4, h5]⟩
theorem IDX_v1 {t : TypeId} {a b : PV} {kk : IntKind} (ht : RF (arB tab t 2 = true)) : IDX tab t (.agg [a, b]) (.g (.int kk 1)) b := ⟨by
  obtain ⟨ti, E, ei, h1, h2, h3, h4, h5⟩ := (ART.of ht).e
  simp [aIdx, h1, h2, h3, h4, h5]⟩
theorem IDX_g0 {t : TypeId} {a b : GV} {kk : IntKind} (ht : RF (arB tab t 2 = true)) : IDX tab t (.g (.agg [a, b])) (.g (.int kk 0)) (.g a) := ⟨by
  obtain ⟨ti, E, ei, h1, h2, h3, h4, h5⟩ := (ART.of ht).e
  simp [aIdx, h1, h2, h3, h4, h5]⟩
theorem IDX_g1 {t : TypeId} {a b : GV} {kk : IntKind} (ht : RF (arB tab t 2 = true)) : IDX tab t (.g (.agg [a, b])) (.g (.int kk 1)) (.g b) := ⟨by
  obtain ⟨ti, E, ei, h1, h2, h3, h4, h5⟩ := (ART.of ht).e
  simp [aIdx, h1, h2, h3, h4, h5]⟩
theorem IDX_gn {t : TypeId} {a b : Int} {kk : IntKind} {m : Int} (ht : RF (arB tab t 2 = true)) (hm : NU (0 ≤ m ∧ m ≤ 1)) : IDX tab t (.g (.agg [.int .i64 a, .int .i64 b])) (.g (.int kk m)) (.g (.int .i64 (if m = 0 then a else b))) := ⟨by
  obtain ⟨ti, E, ei, h1, h2, h3, h4, h5⟩ := (ART.of ht).e
  have hm := hm.e
  have : m = 0 ∨ m = 1 := by omega
  rcases this with rfl | rfl <;> simp [aIdx, h1, h2, h3, h4, h5]⟩
theorem X_idx {t : TypeId} {x y : Operand} {p q v : PV} (hd : RF (hasB d n = true)) (hx : EV sl tab 0 x p) (hy : EV sl tab 0 y q) (hv : IDX tab t p q v) (h4 : AF dr P tab ops (i + 1) os n ((d, v) :: sl) hl nx (acc ++ [tcX tab i n sl hl nx ⟨some d, .index t x y, ty, pos, af, none⟩ []]) K) : AF dr P tab ops i (⟨some d, .index t x y, ty, pos, af, none⟩ :: os) n sl hl nx acc K :=
  X_any (ws := []) (has_X hd) (by simp only [aOp, hx.e, hy.e]; exact hv.e) h4
theorem X_ix {t : TypeId} {x y : Operand} {p q v : PV} (hd : RF (hasB d n = true)) (hx : EV sl tab 0 x p) (hy : EV sl tab 0 y q) (hv : IX tab hl t p q v) (h4 : AF dr P tab ops (i + 1) os n ((d, v) :: sl) hl nx (acc ++ [tcX tab i n sl hl nx ⟨some d, .indexAddr t x y, ty, pos, af, none⟩ []]) K) : AF dr P tab ops i (⟨some d, .indexAddr t x y, ty, pos, af, none⟩ :: os) n sl hl nx acc K :=
  X_any (ws := []) (has_X hd) (by simp only [aOp, hx.e, hy.e]; exact hv.e) h4
/-- bounds of a slice -/
structure BD (sl : List (Nat × PV)) (tab : Tab) (x : Option Operand) (m : Nat) (v : Int) : Prop where
  e : ∀ n hl nx, bnd (x.map ((mkX n sl hl nx).ev tab 0)) m = some v
theorem BD_none (sl : List (Nat × PV)) (m : Nat) : BD sl tab none m (m : Int) := ⟨fun _ _ _ => rfl⟩
theorem BD_some {x : Operand} {m : Nat} {k : IntKind} {v : Int} (h : EV sl tab 0 x (.g (.int k v))) : BD sl tab (some x) m v := ⟨fun _ _ _ => by simp only [Option.map_some, h.e, bnd]⟩
structure SLI (sl : List (Nat × PV)) (tab : Tab) (hl : List (Nat × Block)) (t : TypeId) (x : PV) (lo hi : Option Operand) (v : PV) : Prop where
  e : ∀ n nx, aSlice tab (lookH hl) t x (lo.map ((mkX n sl hl nx).ev tab 0)) (hi.map ((mkX n sl hl nx).ev tab 0)) = some (v, [])
theorem SLI_own {t : TypeId} {E e : Nat} {id l0 len : Nat} {dp : Bool} {xs : List GV} {lo hi : Option Operand} {l u : Int} (ht : SLT tab t E e) (hb : HL hl id (.arr (e + 1) dp xs)) (h5 : BD sl tab lo 0 l) (h6 : BD sl tab hi len u) (hn : NU (0 ≤ l ∧ l ≤ u ∧ u ≤ (len : Int))) : SLI sl tab hl t (.own id l0 len) lo hi (.own id (l0 + l.toNat) (u.toNat - l.toNat)) := ⟨fun n nx => by
  obtain ⟨ti, ei, h1, h2, h3, h4⟩ := ht.h
  simp only [aSlice, h1, h2, h3, h4, hb.e, h5.e n hl nx, h6.e n hl nx, hn.e, and_self, if_true]⟩
/-- a part of data, by its bounds -/
structure CUG' (xs : List GV) (l u : Int) (ys : List GV) : Prop where
  e : (xs.drop l.toNat).take (u.toNat - l.toNat) = ys
  l : 0 ≤ l ∧ l ≤ u ∧ u ≤ (xs.length : Int)
def CUG (xs : List GV) (l u : Int) (ys : List GV) : Prop := CUG' xs l u ys
theorem CUG.mk {xs : List GV} {l u : Int} {ys : List GV} (h : CUG' xs l u ys) : CUG xs l u ys := h
theorem CUG.e {xs : List GV} {l u : Int} {ys : List GV} (h : CUG xs l u ys) : (xs.drop l.toNat).take (u.toNat - l.toNat) = ys := @CUG'.e _ _ _ _ h
theorem CUG.l {xs : List GV} {l u : Int} {ys : List GV} (h : CUG xs l u ys) : 0 ≤ l ∧ l ≤ u ∧ u ≤ (xs.length : Int) := @CUG'.l _ _ _ _ h
theorem CUG_mapT {α : Type} {f : α → GV} {ys : List α} {u : Int} (h : NU (0 ≤ u ∧ u ≤ (ys.length : Int))) : CUG (ys.map f) 0 u ((ys.take u.toNat).map f) := CUG.mk ⟨by simp [List.map_take], by have := h.e; simp; omega⟩
theorem CUG_mapD {α : Type} {f : α → GV} {ys : List α} {l : Int} {u : Nat} (h : NU (0 ≤ l ∧ l ≤ (ys.length : Int))) (hu : u = (ys.map f).length) : CUG (ys.map f) l (u : Int) ((ys.drop l.toNat).map f) := CUG.mk ⟨by
  subst hu
  rw [List.map_drop, List.take_of_length_le (by simp)], by have := h.e; subst hu; simp; omega⟩
theorem CUG_map {α : Type} {f : α → GV} {ys : List α} {l u : Int} (h : NU (0 ≤ l ∧ l ≤ u ∧ u ≤ (ys.length : Int))) : CUG (ys.map f) l u (((ys.drop l.toNat).take (u.toNat - l.toNat)).map f) := CUG.mk ⟨by rw [List.map_take, List.map_drop], by have := h.e; simp; omega⟩
theorem CUG_any {xs : List GV} {l u : Int} (h : NU (0 ≤ l ∧ l ≤ u ∧ u ≤ (xs.length : Int))) : CUG xs l u ((xs.drop l.toNat).take (u.toNat - l.toNat)) := CUG.mk ⟨rfl, h.e⟩
theorem SLI_g {t : TypeId} {E e : Nat} {xs ys : List GV} {lo hi : Option Operand} {l u : Int} (ht : SLT tab t E e) (h5 : BD sl tab lo 0 l) (h6 : BD sl tab hi xs.length u) (hn : CUG xs l u ys) : SLI sl tab hl t (.g (.sl (e + 1) xs)) lo hi (.g (.sl (e + 1) ys)) := ⟨fun n nx => by
  obtain ⟨ti, ei, h1, h2, h3, h4⟩ := ht.h
  simp only [aSlice, h1, h2, h3, h4, h5.e n hl nx, h6.e n hl nx, hn.l, and_self, if_true, hn.e]⟩
theorem X_slice {t : TypeId} {x : Operand} {lo hi : Option Operand} {p v : PV} (hd : RF (hasB d n = true)) (hx : EV sl tab 0 x p) (hv : SLI sl tab hl t p lo hi v) (h4 : AF dr P tab ops (i + 1) os n ((d, v) :: sl) hl nx (acc ++ [tcX tab i n sl hl nx ⟨some d, .slice t x lo hi none, ty, pos, af, none⟩ []]) K) : AF dr P tab ops i (⟨some d, .slice t x lo hi none, ty, pos, af, none⟩ :: os) n sl hl nx acc K :=
  X_any (ws := []) (has_X hd) (by simp only [aOp, hx.e]; exact hv.e n nx) h4
end

end Go.Proofs.Ytdkjeodenbffnaa
