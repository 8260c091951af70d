/- Abstract states: the operations, one by one. Over any program; the table is right ('TabOk'). -/
import Derived.Test.YtdkjeodenbffnaaA7
namespace Go.Proofs.Ytdkjeodenbffnaa
open Go.RowKit
open Shp

section
variable {P : Program} {tab : Tab} {w0 : World} {S : AState} {a : Act} {w : World} {μ : Lay} {who : Nat → Option Nat}

def isFree : Block → Bool
  | .free => true
  | _ => false
theorem isFree_iff {b : Block} (h : isFree b = true) : b = .free := by cases b <;> simp_all [isFree]

/-! move, assign, pick -/

theorem op_move (h : RelAt w0 S a w μ who) {o : Oper} {x : Operand} (ho : o.op = .move x ∨ o.op = .assign x) : Does P w0 a (S.writes []) (S.ev tab o.type x) ((execOp a.eval o).run P w) := by
  refine Does.pure h (v := a.eval x) ?_ (h.ev tab o.type x)
  unfold execOp
  rcases ho with ho | ho <;> simp [ho]

def aPick (c p q : PV) : Option (PV × List (Nat × Block)) :=
  match c with
  | .g (.bool b) => some (bif b then p else q, [])
  | _ => none

theorem GRep.bool_inv {w : World} {F : List Nat} {v : Value} {b : Bool} (h : GRep w F v (.bool b)) : v = .bool b := by
  cases h with | atom x hx => rfl
theorem GRep.int_inv {w : World} {F : List Nat} {v : Value} {k : IntKind} {n : Int} (h : GRep w F v (.int k n)) : v = .int k n := by
  cases h with | atom x hx => rfl
theorem GRep.str_inv {w : World} {F : List Nat} {v : Value} {s : ByteArray} (h : GRep w F v (.str s)) : v = .string s := by
  cases h with | atom x hx => rfl
theorem PRep.g_inv {w : World} {μ : Lay} {h : Nat → Block} {v : Value} {x : GV} (hv : PRep w μ h v (.g x)) : ∃ F, GRep w F v x ∧ ∀ b ∈ F, ¬ Root μ h b := by
  cases hv with | g v x F hg hd => exact ⟨F, hg, hd⟩
theorem PRep.bool_inv {w : World} {μ : Lay} {h : Nat → Block} {v : Value} {b : Bool} (hv : PRep w μ h v (.g (.bool b))) : v = .bool b := by
  obtain ⟨F, hg, _⟩ := hv.g_inv; exact hg.bool_inv
theorem PRep.int_inv {w : World} {μ : Lay} {h : Nat → Block} {v : Value} {k : IntKind} {n : Int} (hv : PRep w μ h v (.g (.int k n))) : v = .int k n := by
  obtain ⟨F, hg, _⟩ := hv.g_inv; exact hg.int_inv
theorem PRep.str_inv {w : World} {μ : Lay} {h : Nat → Block} {v : Value} {s : ByteArray} (hv : PRep w μ h v (.g (.str s))) : v = .string s := by
  obtain ⟨F, hg, _⟩ := hv.g_inv; exact hg.str_inv
theorem PRep.of_bool (w : World) (μ : Lay) (h : Nat → Block) (b : Bool) : PRep w μ h (.bool b) (.g (.bool b)) := .g _ _ [] (.atom (.bool b) rfl) (by simp)
theorem PRep.of_int (w : World) (μ : Lay) (h : Nat → Block) (k : IntKind) (n : Int) : PRep w μ h (.int k n) (.g (.int k n)) := .g _ _ [] (.atom (.int k n) rfl) (by simp)

theorem op_pick (h : RelAt w0 S a w μ who) {o : Oper} {c x y : Operand} (ho : o.op = .pick c x y) {pv : PV} {ws : List (Nat × Block)} (hx : aPick (S.ev tab 0 c) (S.ev tab o.type x) (S.ev tab o.type y) = some (pv, ws)) :
    Does P w0 a (S.writes ws) pv ((execOp a.eval o).run P w) := by
  unfold aPick at hx
  split at hx
  · rename_i b hb
    simp only [Option.some.injEq, Prod.mk.injEq] at hx
    obtain ⟨rfl, rfl⟩ := hx
    have h1 := h.ev tab 0 c
    rw [hb] at h1
    have h2 := h1.bool_inv
    refine Does.pure h (v := if b then a.eval x else a.eval y) ?_ ?_
    · unfold execOp; simp [ho, h2, asBool]
    · cases b
      · exact h.ev tab o.type y
      · exact h.ev tab o.type x
  · cases hx

/-! numbers -/

def intOp (op : BinOp) (k : IntKind) (x y : Int) : Option GV :=
  match op with
  | .add => some (.int k (k.wrap (x + y)))
  | .sub => some (.int k (k.wrap (x - y)))
  | .mul => some (.int k (k.wrap (x * y)))
  | .quo => if y = 0 then none else some (.int k (k.wrap (x.tdiv y)))
  | .rem => if y = 0 then none else some (.int k (x.tmod y))
  | .eql => some (.bool (x == y))
  | .neq => some (.bool (x != y))
  | .lss => some (.bool (decide (x < y)))
  | .leq => some (.bool (decide (x ≤ y)))
  | .gtr => some (.bool (decide (x > y)))
  | .geq => some (.bool (decide (x ≥ y)))
  | _ => none

def aBin (op : BinOp) (x y : PV) : Option (PV × List (Nat × Block)) :=
  match op, x, y with
  | .shl, .g (.int k x), .g (.int _ y) => if y < 0 then none else some (.g (.int k (k.wrap (x * 2 ^ min y.toNat k.bits))), [])
  | .shr, .g (.int k x), .g (.int _ y) => if y < 0 then none else some (.g (.int k (x.fdiv (2 ^ min y.toNat k.bits))), [])
  | op, .g (.int k x), .g (.int k' y) => if k = k' then (match intOp op k x y with | some v => some (.g v, []) | none => none) else none
  | _, _, _ => none

theorem intOp_atom {op : BinOp} {k : IntKind} {x y : Int} {v : GV} (h : intOp op k x y = some v) : v.atom = true := by
  unfold intOp at h
  split at h <;> first | (simp at h; subst h; rfl) | (split at h <;> simp at h; subst h; rfl) | cases h

theorem run_intOp {op : BinOp} {k : IntKind} {x y : Int} {v : GV} (h : intOp op k x y = some v) (hs : op ≠ .shl) (hr : op ≠ .shr) (t : TypeId) (w : World) : (binOp op t (.int k x) (.int k y)).run P w = .ok (ofAtom v) w := by
  unfold intOp at h
  split at h <;> first | (simp at h; subst h; simp [binOp, Op.intArith, Op.intCmp, ofAtom]; done) | skip
  · split at h
    · cases h
    · rename_i hy; simp at h; subst h; simp [binOp, Op.intDiv, ofAtom, hy]
  · split at h
    · cases h
    · rename_i hy; simp at h; subst h; simp [binOp, Op.intDiv, ofAtom, hy]
  · cases h

theorem op_bin (h : RelAt w0 S a w μ who) {o : Oper} {op : BinOp} {t t' : TypeId} {x y : Operand} (ho : o.op = .binOp op t x y t') {pv : PV} {ws : List (Nat × Block)} (hx : aBin op (S.ev tab 0 x) (S.ev tab 0 y) = some (pv, ws)) :
    Does P w0 a (S.writes ws) pv ((execOp a.eval o).run P w) := by
  have h1 := h.ev tab 0 x
  have h2 := h.ev tab 0 y
  unfold aBin at hx
  split at hx
  · rename_i k m k' n e1 e2
    rw [e1] at h1; rw [e2] at h2
    split at hx
    · cases hx
    · rename_i hn
      simp only [Option.some.injEq, Prod.mk.injEq] at hx
      obtain ⟨rfl, rfl⟩ := hx
      refine Does.pure h (v := .int k (k.wrap (m * 2 ^ min n.toNat k.bits))) ?_ (PRep.of_int _ _ _ _ _)
      unfold execOp; simp [ho, h1.int_inv, h2.int_inv, eqGuard, binOp, Op.shift, hn]
  · rename_i k m k' n e1 e2
    rw [e1] at h1; rw [e2] at h2
    split at hx
    · cases hx
    · rename_i hn
      simp only [Option.some.injEq, Prod.mk.injEq] at hx
      obtain ⟨rfl, rfl⟩ := hx
      refine Does.pure h (v := .int k (m.fdiv (2 ^ min n.toNat k.bits))) ?_ (PRep.of_int _ _ _ _ _)
      unfold execOp; simp [ho, h1.int_inv, h2.int_inv, eqGuard, binOp, Op.shift, hn]
  · rename_i k m k' n hs hr e1 e2
    rw [e1] at h1; rw [e2] at h2
    split at hx
    · rename_i hk
      subst hk
      split at hx
      · rename_i v hv
        simp only [Option.some.injEq, Prod.mk.injEq] at hx
        obtain ⟨rfl, rfl⟩ := hx
        have hrun := run_intOp (P := P) hv (fun e => hs e) (fun e => hr e) t w
        refine Does.pure h (v := ofAtom v) ?_ (.g _ _ [] (.atom v (intOp_atom hv)) (by simp))
        have hg : ∀ op, (eqGuard op t x y (.int k m) (.int k n)).run P w = .ok () w := by
          intro op
          unfold eqGuard
          split <;> simp
        unfold execOp; simp [ho, h1.int_inv, h2.int_inv, hg, hrun]
      · cases hx
    · cases hx
  · cases hx

def isBoolT (tab : Tab) (t : TypeId) : Bool := match tab t with | some ti => (match ti.kind with | .bool => true | _ => false) | none => false
theorem isBoolT_ok (ht : TabOk P tab) {t : TypeId} (h : isBoolT tab t = true) : P.underlying t = some .bool := by
  unfold isBoolT at h
  split at h
  · rename_i ti hti
    obtain ⟨_, _, d, h1⟩ := ht t ti hti
    have h2 := h1.kind
    split at h
    · rename_i hk
      rw [hk] at h2
      have h3 : d = .bool := h2
      rw [← h3]; exact h1.desc
    · cases h
  · cases h
/-- the same, with tests of truths and texts -/
def aBinE (tab : Tab) (op : BinOp) (t : TypeId) (x y : PV) : Option (PV × List (Nat × Block)) :=
  match op, x, y with
  | .eql, .g (.bool a), .g (.bool b) => if isBoolT tab t then some (.g (.bool (a == b)), []) else none
  | .neq, .g (.bool a), .g (.bool b) => if isBoolT tab t then some (.g (.bool (!(a == b))), []) else none
  | op, x, y => aBin op x y
theorem aBinE_of {op : BinOp} {t : TypeId} {x y : PV} {r : PV × List (Nat × Block)} (h : aBin op x y = some r) : aBinE tab op t x y = some r := by
  unfold aBinE
  split
  · simp [aBin] at h
  · simp [aBin] at h
  · exact h
theorem op_binE (ht : TabOk P tab) (h : RelAt w0 S a w μ who) {o : Oper} {op : BinOp} {t t' : TypeId} {x y : Operand} (ho : o.op = .binOp op t x y t') {pv : PV} {ws : List (Nat × Block)} (hx : aBinE tab op t (S.ev tab 0 x) (S.ev tab 0 y) = some (pv, ws)) :
    Does P w0 a (S.writes ws) pv ((execOp a.eval o).run P w) := by
  have h1 := h.ev tab 0 x
  have h2 := h.ev tab 0 y
  unfold aBinE at hx
  split at hx
  · rename_i m n e1 e2
    rw [e1] at h1; rw [e2] at h2
    split at hx
    · rename_i hb
      simp only [Option.some.injEq, Prod.mk.injEq] at hx
      obtain ⟨rfl, rfl⟩ := hx
      have hu := isBoolT_ok ht hb
      refine Does.pure h (v := .bool (m == n)) ?_ (PRep.of_bool _ _ _ _)
      have hg : (eqGuard .eql t x y (.bool m) (.bool n)).run P w = .ok () w := by unfold eqGuard; split <;> simp
      unfold execOp; simp [ho, h1.bool_inv, h2.bool_inv, hg, binOp, run_equal_bool w t m n hu]
    · cases hx
  · rename_i m n e1 e2
    rw [e1] at h1; rw [e2] at h2
    split at hx
    · rename_i hb
      simp only [Option.some.injEq, Prod.mk.injEq] at hx
      obtain ⟨rfl, rfl⟩ := hx
      have hu := isBoolT_ok ht hb
      refine Does.pure h (v := .bool (!(m == n))) ?_ (PRep.of_bool _ _ _ _)
      have hg : (eqGuard .neq t x y (.bool m) (.bool n)).run P w = .ok () w := by unfold eqGuard; split <;> simp
      unfold execOp; simp [ho, h1.bool_inv, h2.bool_inv, hg, binOp, run_equal_bool w t m n hu]
    · cases hx
  · exact op_bin h ho hx

def aUn (op : UnOp) (x : PV) : Option (PV × List (Nat × Block)) :=
  match op, x with
  | .not, .g (.bool b) => some (.g (.bool (!b)), [])
  | .neg, .g (.int k n) => some (.g (.int k (k.wrap (0 - n))), [])
  | _, _ => none

theorem op_un (h : RelAt w0 S a w μ who) {o : Oper} {op : UnOp} {t : TypeId} {x : Operand} (ho : o.op = .unOp op t x) {pv : PV} {ws : List (Nat × Block)} (hx : aUn op (S.ev tab 0 x) = some (pv, ws)) :
    Does P w0 a (S.writes ws) pv ((execOp a.eval o).run P w) := by
  have h1 := h.ev tab 0 x
  unfold aUn at hx
  split at hx
  · rename_i b e1
    rw [e1] at h1
    simp only [Option.some.injEq, Prod.mk.injEq] at hx
    obtain ⟨rfl, rfl⟩ := hx
    refine Does.pure h (v := .bool (!b)) ?_ (PRep.of_bool _ _ _ _)
    unfold execOp; simp [ho, h1.bool_inv, Op.unary]
  · rename_i k n e1
    rw [e1] at h1
    simp only [Option.some.injEq, Prod.mk.injEq] at hx
    obtain ⟨rfl, rfl⟩ := hx
    refine Does.pure h (v := .int k (k.wrap (0 - n))) ?_ (PRep.of_int _ _ _ _ _)
    unfold execOp; simp [ho, h1.int_inv, Op.unary, Op.intArith]
  · cases hx

/-! extract, makeFunc -/

def aExtract (i : Nat) (x : PV) : Option (PV × List (Nat × Block)) :=
  match x with
  | .tup vs => match vs[i]? with
    | some v => some (v, [])
    | none => none
  | _ => none

theorem op_extract (h : RelAt w0 S a w μ who) {o : Oper} {x : Operand} {i : Nat} (ho : o.op = .extract x i) {pv : PV} {ws : List (Nat × Block)} (hx : aExtract i (S.ev tab 0 x) = some (pv, ws)) :
    Does P w0 a (S.writes ws) pv ((execOp a.eval o).run P w) := by
  have h1 := h.ev tab 0 x
  unfold aExtract at hx
  split at hx
  · rename_i vs e1
    rw [e1] at h1
    split at hx
    · rename_i v hv
      simp only [Option.some.injEq, Prod.mk.injEq] at hx
      obtain ⟨rfl, rfl⟩ := hx
      obtain ⟨hi, rfl⟩ := List.getElem?_eq_some_iff.1 hv
      cases h1' : a.eval x <;> rw [h1'] at h1 <;> cases h1
      rename_i us hl he
      refine Does.pure h (v := us[i]'(by rw [hl]; exact hi)) ?_ (he i hi)
      unfold execOp
      simp [ho, h1', Instr.extract, hl, hi]
    · cases hx
  · cases hx

end
end Go.Proofs.Ytdkjeodenbffnaa
