/- Draws: how long the code is. No conditions but those that each theorem names. -/
import Derived.Test.YtabfpoflhacknaaGreatOG
import Derived.Test.YtabfpoflhacknaaGreatKA
import Derived.Test.YtabfpoflhacknaaGreatTab
import Derived.Test.YtabfpoflhacknaaGreatKG
import Derived.Test.YtabfpoflhacknaaGreatChecked
namespace Go.Proofs.YtabfpoflhacknaaGreat
open Go.RowKit
open Shp
variable {p o W q : Int} {n out : List (List Int)} {ps : List (List Int × List Int)} {xs : List Int}
theorem ZkF {i : Int} (h : sigB i o = true) : 1 ≤ i ∧ i ≤ 2 ∧ 1 ≤ o ∧ o ≤ 2 ∧ 2 ≤ pw i ∧ pw i ≤ 4 ∧ 2 ≤ pw o ∧ pw o ≤ 4 ∧ 4 ≤ pw (i + o) ∧ pw (i + o) ≤ 16 ∧ Zaa i o = pw (i + o) ∧ pw (i + o) = pw i * pw o ∧ pw i = 2 ^ i.toNat ∧ pw o = 2 ^ o.toNat ∧ pw (i + o) = 2 ^ (i + o).toNat := by
 obtain ⟨h1, h2, h3, h4⟩ := Zks h
 have e := ZaW h
 obtain ⟨p1, p2, p3, p4, _⟩ := ZpJ
 have a : i = 1 ∨ i = 2 := by omega
 have b : o = 1 ∨ o = 2 := by omega
 refine ⟨h1, h2, h3, h4, ?_, ?_, ?_, ?_, ?_, ?_, e, ?_, rfl, rfl, rfl⟩ <;> rcases a with rfl | rfl <;> rcases b with rfl | rfl <;> simp_all
def setN (s : List Int) (n : Int) : Bool := decide (0 ≤ n) && decide (n ≤ 256) && setB s n
theorem Zkq {s : List Int} {n : Int} (h0 : 0 ≤ n) (h1 : n ≤ 256) : setN s n = Zbx s n := by unfold setN; rw [Zkz h0]; simp [h0, h1]
def Zfe (ps : List (List Int × List Int)) (n : Int) (k : Nat) : Bool := Zbx (nth ps k).1 n && Zbx (nth ps k).2 n
def ZeG (ps : List (List Int × List Int)) (n : Int) : Bool := decide (ps.length ≤ 4) && allN ps.length (Zfe ps n)
def ZhP (i o : Int) (n : List (List Int)) (q : Nat) : Bool := decide (((nth n q).length : Int) = Zaa i o) && below (nth n q) n.length
def detB (i o : Int) (n : List (List Int)) (ps : List (List Int × List Int)) : Bool := sigB i o && decide (1 ≤ n.length) && decide (n.length ≤ 48) && ZeG ps n.length && allN n.length (ZhP i o n)
theorem ZeI {i : Int}   (h : detB i o n ps = true) : sigB i o = true ∧ 1 ≤ n.length ∧ n.length ≤ 48 ∧ ZeG ps n.length = true ∧ ∀ q, q < n.length → ((nth n q).length : Int) = Zaa i o ∧ below (nth n q) n.length = true := by
 unfold detB at h
 simp only [Bool.and_eq_true, decide_eq_true_eq, allN_iff, ZhP] at h
 obtain ⟨⟨⟨⟨h1, h2⟩, h3⟩, h4⟩, h5⟩ := h
 exact ⟨h1, h2, h3, h4, h5⟩
def ZcV (n : Int) (cs : List (Int × List Int × List Int)) (k : Nat) : Bool := ZbR n (nth cs k).1 (nth cs k).2.1 (nth cs k).2.2
def ZaB (i o : Int) (cs : List (Int × List Int × List Int)) : Bool := sigB i o && decide (cs.length ≤ 3) && allN cs.length (ZcV (Zaa i o) cs)
def goN (n : List (List Int)) : Int → List Int → Int
 | q, [] => q
 | q, x :: xs => goN n (nth (nth n q.toNat) x.toNat) xs
def GoOk (n : List (List Int)) (W : Int) : Prop := ∀ q, q < n.length → ((nth n q).length : Int) = W ∧ below (nth n q) n.length = true
theorem GoOk.row  (h : GoOk n W)  (h1 : 0 ≤ q) (h2 : q < n.length) : ((nth n q.toNat).length : Int) = W := (h q.toNat (by omega)).1
theorem GoOk.step  (h : GoOk n W) {x : Int} (h1 : 0 ≤ q ∧ q < n.length) (h2 : 0 ≤ x ∧ x < W) : 0 ≤ nth (nth n q.toNat) x.toNat ∧ nth (nth n q.toNat) x.toNat < n.length := by
 have a := h q.toNat (by omega)
 exact below_iff.1 a.2 x.toNat (by omega)
theorem ZoP  {i : Nat} (h : i < xs.length) : goN n p (xs.drop i) = goN n (nth (nth n p.toNat) (nth xs i).toNat) (xs.drop (i + 1)) := by rw [ZfB h]; rfl
theorem ZqU  {i : Nat} (h : xs.length ≤ i) : goN n p (xs.drop i) = p := by rw [List.drop_eq_nil_of_le h]; rfl
theorem ZbU {n : List (List Int)} {W : Int} (h : GoOk n W) : ∀ {xs : List Int} {q : Int}, below xs W = true → 0 ≤ q ∧ q < n.length → 0 ≤ goN n q xs ∧ goN n q xs < n.length
 | [], q, _, hq => hq
 | x :: xs, q, hb, hq => by
  rw [below_iff] at hb
  refine ZbU h (xs := xs) (below_iff.2 fun j hj => ?_) (h.step hq ?_)
  ·have := hb (j + 1) (by simpa using hj); simpa [nth] using this
  ·have := hb 0 (by simp); simpa [nth] using this
theorem Zcr {i : Int}   (h : detB i o n ps = true) : GoOk n (Zaa i o) := (ZeI h).2.2.2.2
end Go.Proofs.YtabfpoflhacknaaGreat

namespace Go.Proofs.YtabfpoflhacknaaGreat
open Go.RowKit
open Shp
variable {n o out : List (List Int)} {p W x : Int} {xs : List Int}
end Go.Proofs.YtabfpoflhacknaaGreat

namespace Go.Proofs.YtabfpoflhacknaaGreat
open Go.RowKit
open Shp
variable {n : Int} {bs : List Int}
theorem Zfr {k : IntKind}  (h1 : 0 ≤ n) (h2 : n < 2 ^ 63) (hk : k = .i64 ∨ k = .u64) : k.wrap n = n := by
 have e : n % 2 ^ 64 = n := Int.emod_eq_of_lt h1 (by omega)
 rcases hk with rfl | rfl <;> simp only [IntKind.wrap, IntKind.bits, IntKind.signed, e]
 ·rw [if_neg]; simp; omega
 ·rfl
theorem Zxq {k : IntKind} (hk : k = .i64 ∨ k = .u64) (x : Int) {m : Nat} (hm : m < 2 ^ 63) : 0 ≤ Zj7 .and k x m ∧ Zj7 .and k x m ≤ m := by
 have h1 : (BitVec.ofInt k.bits x &&& BitVec.ofInt k.bits (m : Int)).toNat ≤ m := by
  rw [BitVec.toNat_and]
  refine Nat.le_trans Nat.and_le_right ?_
  rw [BitVec.ofInt_natCast, BitVec.toNat_ofNat]
  exact Nat.mod_le _ _
 show 0 ≤ k.wrap _ ∧ k.wrap _ ≤ _
 rw [Zfr (by omega) (by omega) hk]
 omega
def ZnG : List Int → Int → Int
 | [], h => h
 | b :: bs, h => ZnG bs (IntKind.wrap .u64 (IntKind.wrap .u64 (IntKind.wrap .u64 (h * 1099511628211) + IntKind.wrap .u64 b) + 3))
def Zb0 (bs : List Int) (k : Int) : Nat × Int := (0, ZnG bs (IntKind.wrap .u64 (IntKind.wrap .u64 (k * 7919) + IntKind.wrap .u64 bs.length)))
theorem Zpu  {i : Nat} {h : Int} (hi : i < bs.length) : ZnG (bs.drop i) h = ZnG (bs.drop (i + 1)) (IntKind.wrap .u64 (IntKind.wrap .u64 (IntKind.wrap .u64 (h * 1099511628211) + IntKind.wrap .u64 (nth bs i)) + 3)) := by rw [ZfB hi]; rfl
theorem Zrm  {i : Nat} {h : Int} (hi : bs.length ≤ i) : ZnG (bs.drop i) h = h := by rw [List.drop_eq_nil_of_le hi]; rfl
def bytesB (bs : List Int) : Prop := ∀ b ∈ bs, 0 ≤ b ∧ b ≤ 255
theorem bytesB.at  (h : bytesB bs) {i : Nat} (hi : i < bs.length) : 0 ≤ nth bs i ∧ nth bs i ≤ 255 := h _ (Zal hi)
def dieH (h : Int) : Int := IntKind.wrap .u64 (IntKind.wrap .u64 (h * 6364136223846793005) + 1442695040888963407)
def dieX (h : Int) : Int := IntKind.wrap .i64 (Zj7 .and .u64 ((dieH h).fdiv (2 ^ min (Int.toNat 33) (IntKind.bits .u64))) 16777215)
theorem ZtG (h : Int) : 0 ≤ dieX h ∧ dieX h ≤ 16777215 := by
 unfold dieX
 have h1 := Zxq (m := 16777215) (.inr rfl : IntKind.u64 = .i64 ∨ IntKind.u64 = .u64) ((dieH h).fdiv (2 ^ min (Int.toNat 33) (IntKind.bits .u64))) (by decide)
 have h2 := Zfr (k := .i64) h1.1 (by omega) (.inl rfl)
 rw [show ((16777215 : Nat) : Int) = 16777215 from rfl] at h1 h2
 rw [h2]; exact h1
def rawX (bs : List Int) (s : Nat × Int) : Int := if s.1 < bs.length then IntKind.wrap .i64 (dieX s.2 + IntKind.wrap .i64 (nth bs s.1)) else dieX s.2
theorem ZuL  (hb : bytesB bs) (s : Nat × Int) : 0 ≤ rawX bs s := by
 unfold rawX
 have h1 := ZtG s.2
 split
 ·rename_i h
  have h2 := hb.at h
  rw [Zfr (k := .i64) h2.1 (by omega) (.inl rfl), Zfr (k := .i64) (by omega) (by omega) (.inl rfl)]
  omega
 ·exact h1.1
def dieS (bs : List Int) (s : Nat × Int) : Nat × Int := (if s.1 < bs.length then s.1 + 1 else s.1, dieH s.2)
def ZdY (bs : List Int) (n : Int) (s : Nat × Int) : Int := rawX bs s % n
theorem Zct  (hn : 0 < n) (s : Nat × Int) : 0 ≤ ZdY bs n s ∧ ZdY bs n s < n := ⟨Int.emod_nonneg _ (by omega), Int.emod_lt_of_pos _ hn⟩
end Go.Proofs.YtabfpoflhacknaaGreat

namespace Go.Proofs.YtabfpoflhacknaaGreat
open Go.RowKit
open Shp
def Zns : Nat → List Nat
 | 0 => [0]
 | 1 => [2]
 | _ => []
theorem ZjJ (args : Array Value) (w : World) : (callFunc 5 args).run Tryz.prog w = .ok (.enter 5 args) w := Zab Tryz.func5 (by decide) rfl args w
set_option maxHeartbeats 1000000 in
theorem Zs4 (v : Value) (bs : List Int) : Con Tryz.prog 5 [.ex v 1 (bs.map (GV.int .u8))] (.bool (decide (4096 < bs.length))) := by
 refine gCon Zns Zad (rs := [.tmp 2]) (sl := [(0, .g (.ex v 1 (bs.map (GV.int .u8))))]) Tryz.func5 rfl Tryz.ntmps5 rfl ZjJ rfl (by repeat constructor) ?_
 (repeat' (first | (with_reducible constructor) | exact Z2 | exact ZS | exact OB_f | (with_reducible first | apply gNK | apply Zam | apply Zaf | apply Zas | apply Zav) | apply Zah Zad | apply gSel.ccons))
 (all_goals (first | (((first | (refine Zao ?_; first | (simp_all; done) | (rw [Bool.eq_iff_iff]; simp only [Bool.and_eq_true, Bool.or_eq_true, decide_eq_true_eq, Bool.false_eq_true, false_iff, true_iff, iff_false, iff_true, not_and, not_or, Bool.not_eq_true, decide_eq_false_iff_not, beq_iff_eq, bne_iff_ne, ne_eq, Bool.not_eq_true', Bool.not_eq_false', Int.not_le, Int.not_lt]; omega)) | ((repeat (first | apply ZkA | apply Zbb | apply ZbL | apply Zby | apply Zau)); all_goals (first | exact EQ.mk rfl | exact EQ.mk (by first | (simp; done) | fail) | exact EQ.mk (by first | (simp_all; done) | fail))))); done)))
end Go.Proofs.YtabfpoflhacknaaGreat

