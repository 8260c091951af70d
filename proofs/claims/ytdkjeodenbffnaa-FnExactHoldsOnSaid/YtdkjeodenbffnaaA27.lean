/- Abstract states: more rules (data by mapped lists, shifts). Over any program; no conditions. -/
import Derived.Test.YtdkjeodenbffnaaA26
namespace Go.Proofs.Ytdkjeodenbffnaa
open Go.RowKit
open Shp

/-- numbers, by value -/
abbrev GV.i (n : Int) : GV := .int .i64 n
abbrev GV.ints (xs : List Int) : GV := .sl 1 (xs.map GV.i)

theorem cut_all {α : Type} {xs : List α} {lo len : Nat} (h0 : lo = 0) (hl : len = xs.length) : (xs.drop lo).take len = xs := by subst h0 hl; simp
theorem cut_map {α β : Type} {f : α → β} {ys : List α} {lo len : Nat} : ((ys.map f).drop lo).take len = ((ys.drop lo).take len).map f := by rw [List.map_take, List.map_drop]

section
variable {h : Nat → Block}
theorem vw_allm {α : Type} {f : α → GV} {n id lo len e : Nat} {dp : Bool} {ys : List α} (hb : h id = .arr e dp (ys.map f)) (h0 : lo = 0) (hl : len = ys.length) : view h (n + 1) (.own id lo len) = some (.sl e (ys.map f)) := by
  rw [vw_own hb (by simp; omega), cut_all h0 (by simp [hl])]
theorem vw_ownm {α : Type} {f : α → GV} {n id lo len e : Nat} {dp : Bool} {ys : List α} (hb : h id = .arr e dp (ys.map f)) (hl : lo + len ≤ ys.length) : view h (n + 1) (.own id lo len) = some (.sl e (((ys.drop lo).take len).map f)) := by
  rw [vw_own hb (by simp; omega), cut_map]
theorem vw_all {n id lo len e : Nat} {dp : Bool} {ys : List GV} (hb : h id = .arr e dp ys) (h0 : lo = 0) (hl : len = ys.length) : view h (n + 1) (.own id lo len) = some (.sl e ys) := by
  rw [vw_own hb (by omega), cut_all h0 hl]
theorem vw_ptr {n id : Nat} {cs : List PV} {gs : List GV} (hb : h id = .box cs) (hv : viewL (view h n) cs = some gs) (ha : (gs.all fun x => x.ncells == 1) = true) : view h (n + 1) (.ptr id 0) = some (.box gs) := by
  simp only [view, hb, hv, ha, if_true]
theorem vw_agg {n : Nat} {cs : List PV} {gs : List GV} (hv : viewL (view h n) cs = some gs) (ha : (gs.all fun x => x.ncells == 1) = true) : view h (n + 1) (.agg cs) = some (.agg gs) := by
  simp only [view, hv, ha, if_true]
theorem vw_fn {n : Nat} {f : FuncId} {cs : List PV} {gs : List GV} (hv : viewL (view h n) cs = some gs) : view h (n + 1) (.fn f cs) = some (.fn f gs) := by
  simp only [view, hv]
theorem vl_mapg (n : Nat) (gs : List GV) : viewL (view h (n + 1)) (gs.map .g) = some gs := by
  induction gs with
  | nil => rfl
  | cons x xs ih => exact vl_cons (vw_g h n x) ih
theorem vl_app {f : PV → Option GV} : ∀ {ps qs : List PV} {xs ys : List GV}, viewL f ps = some xs → viewL f qs = some ys → viewL f (ps ++ qs) = some (xs ++ ys)
  | [], qs, xs, ys, h1, h2 => by simp [viewL] at h1; subst h1; exact h2
  | p :: ps, qs, xs, ys, h1, h2 => by
    unfold viewL at h1
    cases e1 : f p with
    | none => simp [e1] at h1
    | some x =>
      cases e2 : viewL f ps with
      | none => simp [e1, e2] at h1
      | some zs =>
        simp only [e1, e2, Option.some.injEq] at h1
        subst h1
        exact vl_cons e1 (vl_app e2 h2)
theorem vl_argsG {S : AState} {tab : Tab} {xs : List Operand} {ts : List TypeId} {cs gs : List GV} {ps : List PV} (h1 : S.args tab xs ts = ps) (h3 : viewL (view h 6) ps = some gs) : viewL (view h 6) (S.args tab xs ts ++ cs.map .g) = some (gs ++ cs) := by
  rw [h1]; exact vl_app h3 (vl_mapg 5 cs)

theorem ae_allm {α : Type} {f : α → GV} {id lo len e : Nat} {dp : Bool} {ys : List α} (hb : h id = .arr e dp (ys.map f)) (h0 : lo = 0) (hl : len = ys.length) : absE h (.own id lo len) = some (.sl e (ys.map f), [id], dp) := by
  rw [ae_own hb (by simp; omega), cut_all h0 (by simp [hl])]
theorem ae_ownm {α : Type} {f : α → GV} {id lo len e : Nat} {dp : Bool} {ys : List α} (hb : h id = .arr e dp (ys.map f)) (hl : lo + len ≤ ys.length) : absE h (.own id lo len) = some (.sl e (((ys.drop lo).take len).map f), [id], dp) := by
  rw [ae_own hb (by simp; omega), cut_map]
theorem ab_allm {α : Type} {f : α → GV} {id lo len e : Nat} {dp : Bool} {ys : List α} (hb : h id = .arr e dp (ys.map f)) (h0 : lo = 0) (hl : len = ys.length) : absorb h (.own id lo len) = some (.sl e (ys.map f), [id], dp) := by
  rw [ab_own hb (by simp; omega), cut_all h0 (by simp [hl])]
theorem ab_ownm {α : Type} {f : α → GV} {id lo len e : Nat} {dp : Bool} {ys : List α} (hb : h id = .arr e dp (ys.map f)) (hl : lo + len ≤ ys.length) : absorb h (.own id lo len) = some (.sl e (((ys.drop lo).take len).map f), [id], dp) := by
  rw [ab_own hb (by simp; omega), cut_map]
end

section
variable {dr : Bool} {P : Program} {tab : Tab} {ops : Array Oper} {i : Nat} {os : List Oper} {S : AState} {acc : List (List Nat × List Nat)} {K : AState → List (List Nat × List Nat) → Prop}
variable {d : Option Nat} {ty : TypeId} {pos : String} {af : Array Edge}

theorem AX_shl {t t' : TypeId} {x y : Operand} {a b : Int} {k : IntKind} (h2 : S.has d = true) (hx : S.ev tab 0 x = .g (.int .i64 a)) (hy : S.ev tab 0 y = .g (.int k b)) (hb : 0 ≤ a ∧ 0 ≤ b ∧ b ≤ 62 ∧ a * 2 ^ b.toNat ≤ 9223372036854775807) (h4 : AX dr P tab ops (i + 1) os (S.put d (.g (.int .i64 (a * 2 ^ b.toNat)))) (acc ++ [tcW tab i S ⟨d, .binOp .shl t x y t', ty, pos, af, none⟩ []]) K) : AX dr P tab ops i (⟨d, .binOp .shl t x y t', ty, pos, af, none⟩ :: os) S acc K :=
  AX_op (ws := []) h2 (by
    have h5 : 0 ≤ a * 2 ^ b.toNat := Int.mul_nonneg hb.1 (Int.pow_nonneg (by decide))
    have e1 : ¬ b < 0 := by omega
    have e2 : min b.toNat (IntKind.bits .i64) = b.toNat := Nat.min_eq_left (by show b.toNat ≤ 64; omega)
    simp only [aOp, hx, hy, aBinF, aBinE, aBin, e1, if_false, e2, wr64 (show -9223372036854775808 ≤ a * 2 ^ b.toNat by omega) hb.2.2.2]) h4
end

end Go.Proofs.Ytdkjeodenbffnaa
