/- Draws: how long the code is. No conditions but those that each theorem names. -/
import Derived.Test.YtnieejghoaccmaaGreatMG
import Derived.Test.YtnieejghoaccmaaGreatKA
import Derived.Test.YtnieejghoaccmaaGreatTab
import Derived.Test.YtnieejghoaccmaaGreatKG
import Derived.Test.YtnieejghoaccmaaGreatChecked
namespace Go.Proofs.YtnieejghoaccmaaGreat
open Go.RowKit
open Shp
variable {n : Int} {bs : List Int}
theorem Zfc {k : IntKind}  (h1 : 0 ≤ n) (h2 : n < 2 ^ 63) (hk : k = .i64 ∨ k = .u64) : k.wrap n = n := by
 have e : n % 2 ^ 64 = n := Int.emod_eq_of_lt h1 (by omega)
 rcases hk with rfl | rfl <;> simp only [IntKind.wrap, IntKind.bits, IntKind.signed, e]
 ·rw [if_neg]; simp; omega
 ·rfl
theorem Ztk {k : IntKind} (hk : k = .i64 ∨ k = .u64) (x : Int) {m : Nat} (hm : m < 2 ^ 63) : 0 ≤ Zfo .and k x m ∧ Zfo .and k x m ≤ m := by
 have h1 : (BitVec.ofInt k.bits x &&& BitVec.ofInt k.bits (m : Int)).toNat ≤ m := by
  rw [BitVec.toNat_and]
  refine Nat.le_trans Nat.and_le_right ?_
  rw [BitVec.ofInt_natCast, BitVec.toNat_ofNat]
  exact Nat.mod_le _ _
 show 0 ≤ k.wrap _ ∧ k.wrap _ ≤ _
 rw [Zfc (by omega) (by omega) hk]
 omega
def curH (h : Int) : Int := IntKind.wrap .i64 (IntKind.wrap .i64 (h * 6364136223846793005) + 1442695040888963407)
def curX (h : Int) : Int := Zfo .and .i64 (Zfo .xor .i64 ((curH h).fdiv (2 ^ min (Int.toNat 33) (IntKind.bits .i64))) ((curH h).fdiv (2 ^ min (Int.toNat 45) (IntKind.bits .i64)))) 255
def Zjw (bs : List Int) (s : Nat × Int) : Int := if s.1 < bs.length then Zfo .and .i64 (IntKind.wrap .i64 (curX s.2 + IntKind.wrap .i64 (nth bs s.1))) 255 else curX s.2
def ZdV (bs : List Int) (s : Nat × Int) : Nat × Int := (if s.1 < bs.length then s.1 + 1 else s.1, curH s.2)
theorem Zgn (bs : List Int) (s : Nat × Int) : 0 ≤ Zjw bs s ∧ Zjw bs s ≤ 255 := by
 unfold Zjw curX
 split <;> exact Ztk (m := 255) (.inl rfl) _ (by decide)
def Zyf (bs : List Int) (s : Nat × Int) : Int := Zjw bs s * 16777216 + Zjw bs (ZdV bs s) * 65536 + Zjw bs (ZdV bs (ZdV bs s)) * 256 + Zjw bs (ZdV bs (ZdV bs (ZdV bs s)))
def ZaH (bs : List Int) (n : Int) (s : Nat × Int) : Int := if n ≤ 0 then 0 else if n ≤ 256 then Zjw bs s % n else Zyf bs s % n
def Zag (bs : List Int) (n : Int) (s : Nat × Int) : Nat × Int := if n ≤ 0 then s else if n ≤ 256 then ZdV bs s else ZdV bs (ZdV bs (ZdV bs (ZdV bs s)))
theorem Za9 (bs : List Int) (n : Int) (s : Nat × Int) : 0 ≤ ZaH bs n s ∧ (0 < n → ZaH bs n s < n) := by
 unfold ZaH
 split
 ·omega
 ·have h : ∀ x : Int, 0 ≤ x % n ∧ x % n < n := fun x => ⟨Int.emod_nonneg _ (by omega), Int.emod_lt_of_pos _ (by omega)⟩
  split
  ·exact ⟨(h _).1, fun _ => (h _).2⟩
  ·exact ⟨(h _).1, fun _ => (h _).2⟩
def ZiQ (bs : List Int) (n : Int) (s : Nat × Int) : Bool := ZaH bs n s == 0
def Zqi (bs : List Int) (lo hi : Int) (s : Nat × Int) : Int := lo + ZaH bs (hi - lo + 1) s
def Zol (bs : List Int) (lo hi : Int) (s : Nat × Int) : Nat × Int := Zag bs (hi - lo + 1) s
def sigA (bs : List Int) (s : Nat × Int) : (Int × Int) × (Nat × Int) :=
 if ZiQ bs 4 s = true then ((1 + ZaH bs 2 (Zag bs 4 s), 1 + ZaH bs 2 (Zag bs 2 (Zag bs 4 s))), Zag bs 2 (Zag bs 2 (Zag bs 4 s))) else ((1, 1), Zag bs 4 s)
def sigP (bs : List Int) (s : Nat × Int) : (Int × Int) × (Nat × Int) :=
 if ZiQ bs 20 (sigA bs s).2 = true then (((sigA bs s).1.1, Zqi bs 0 3 (Zag bs 20 (sigA bs s).2)), Zol bs 0 3 (Zag bs 20 (sigA bs s).2)) else ((sigA bs s).1, Zag bs 20 (sigA bs s).2)
def newH : List Int → Int → Int
 | [], h => h
 | b :: bs, h => newH bs (Zfo .and .i64 (IntKind.wrap .i64 (IntKind.wrap .i64 (IntKind.wrap .i64 (h * 313) + IntKind.wrap .i64 b) + 11)) 1073741823)
def newS (bs : List Int) : Nat × Int := (0, newH bs (560017 + bs.length))
theorem Zqx  {i : Nat} {h : Int} (hi : i < bs.length) : newH (bs.drop i) h = newH (bs.drop (i + 1)) (Zfo .and .i64 (IntKind.wrap .i64 (IntKind.wrap .i64 (IntKind.wrap .i64 (h * 313) + IntKind.wrap .i64 (nth bs i)) + 11)) 1073741823) := by rw [Ze2 hi]; rfl
theorem ZsS  {i : Nat} {h : Int} (hi : bs.length ≤ i) : newH (bs.drop i) h = h := by rw [List.drop_eq_nil_of_le hi]; rfl
def Zms : List Int → Int → Int
 | [], h => h
 | b :: bs, h => Zms bs (IntKind.wrap .u64 (IntKind.wrap .u64 (IntKind.wrap .u64 (h * 1099511628211) + IntKind.wrap .u64 b) + 3))
def Zi8 (bs : List Int) (k : Int) : Nat × Int := (0, Zms bs (IntKind.wrap .u64 (IntKind.wrap .u64 (k * 7919) + IntKind.wrap .u64 bs.length)))
theorem ZoS  {i : Nat} {h : Int} (hi : i < bs.length) : Zms (bs.drop i) h = Zms (bs.drop (i + 1)) (IntKind.wrap .u64 (IntKind.wrap .u64 (IntKind.wrap .u64 (h * 1099511628211) + IntKind.wrap .u64 (nth bs i)) + 3)) := by rw [Ze2 hi]; rfl
theorem Zpc  {i : Nat} {h : Int} (hi : bs.length ≤ i) : Zms (bs.drop i) h = h := by rw [List.drop_eq_nil_of_le hi]; rfl
def bytesB (bs : List Int) : Prop := ∀ b ∈ bs, 0 ≤ b ∧ b ≤ 255
theorem bytesB.at  (h : bytesB bs) {i : Nat} (hi : i < bs.length) : 0 ≤ nth bs i ∧ nth bs i ≤ 255 := h _ (Zaz hi)
def dieH (h : Int) : Int := IntKind.wrap .u64 (IntKind.wrap .u64 (h * 6364136223846793005) + 1442695040888963407)
def dieX (h : Int) : Int := IntKind.wrap .i64 (Zfo .and .u64 ((dieH h).fdiv (2 ^ min (Int.toNat 33) (IntKind.bits .u64))) 16777215)
theorem Zsy (h : Int) : 0 ≤ dieX h ∧ dieX h ≤ 16777215 := by
 unfold dieX
 have h1 := Ztk (m := 16777215) (.inr rfl : IntKind.u64 = .i64 ∨ IntKind.u64 = .u64) ((dieH h).fdiv (2 ^ min (Int.toNat 33) (IntKind.bits .u64))) (by decide)
 have h2 := Zfc (k := .i64) h1.1 (by omega) (.inl rfl)
 rw [show ((16777215 : Nat) : Int) = 16777215 from rfl] at h1 h2
 rw [h2]; exact h1
def rawX (bs : List Int) (s : Nat × Int) : Int := if s.1 < bs.length then IntKind.wrap .i64 (dieX s.2 + IntKind.wrap .i64 (nth bs s.1)) else dieX s.2
theorem Ztw  (hb : bytesB bs) (s : Nat × Int) : 0 ≤ rawX bs s := by
 unfold rawX
 have h1 := Zsy s.2
 split
 ·rename_i h
  have h2 := hb.at h
  rw [Zfc (k := .i64) h2.1 (by omega) (.inl rfl), Zfc (k := .i64) (by omega) (by omega) (.inl rfl)]
  omega
 ·exact h1.1
def dieS (bs : List Int) (s : Nat × Int) : Nat × Int := (if s.1 < bs.length then s.1 + 1 else s.1, dieH s.2)
def ZgE (bs : List Int) (n : Int) (s : Nat × Int) : Int := rawX bs s % n
theorem ZeO  (hn : 0 < n) (s : Nat × Int) : 0 ≤ ZgE bs n s ∧ ZgE bs n s < n := ⟨Int.emod_nonneg _ (by omega), Int.emod_lt_of_pos _ hn⟩
end Go.Proofs.YtnieejghoaccmaaGreat

namespace Go.Proofs.YtnieejghoaccmaaGreat
open Go.RowKit
open Shp
def Zm2 : Nat → List Nat
 | 0 => [0]
 | 1 => [2]
 | _ => []
theorem ZjE (args : Array Value) (w : World) : (callFunc 4 args).run Tryz.prog w = .ok (.enter 4 args) w := Zab Tryz.func4 (by decide) rfl args w
set_option maxHeartbeats 1000000 in
theorem ZsF (v : Value) (bs : List Int) : Con Tryz.prog 4 [.ex v 1 (bs.map (GV.int .u8))] (.bool (decide (4096 < bs.length))) := by
 refine gCon Zm2 Zac (rs := [.tmp 2]) (sl := [(0, .g (.ex v 1 (bs.map (GV.int .u8))))]) Tryz.func4 rfl Tryz.ntmps4 rfl ZjE rfl (by repeat constructor) ?_
 (repeat' (first | (with_reducible constructor) | exact Z2 | exact ZS | exact OB_f | (with_reducible first | apply gNK | apply Zao | apply Zaf | apply Zap | apply Zat) | apply Zah Zac | apply gSel.ccons))
 (all_goals (first | (((first | (refine Zar ?_; first | (simp_all; done) | (rw [Bool.eq_iff_iff]; simp only [Bool.and_eq_true, Bool.or_eq_true, decide_eq_true_eq, Bool.false_eq_true, false_iff, true_iff, iff_false, iff_true, not_and, not_or, Bool.not_eq_true, decide_eq_false_iff_not, beq_iff_eq, bne_iff_ne, ne_eq, Bool.not_eq_true', Bool.not_eq_false', Int.not_le, Int.not_lt]; omega)) | ((repeat (first | apply Zft | apply Za6 | apply ZcF | apply ZbV | apply Zax)); all_goals (first | exact EQ.mk rfl | exact EQ.mk (by first | (simp; done) | fail) | exact EQ.mk (by first | (simp_all; done) | fail))))); done)))
end Go.Proofs.YtnieejghoaccmaaGreat

