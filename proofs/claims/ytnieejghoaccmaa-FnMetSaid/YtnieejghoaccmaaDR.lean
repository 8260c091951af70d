/- Draws of the statements: what a cursor hands back. No program in sight; no conditions. -/
import Derived.Test.YtnieejghoaccmaaMM
import Derived.Test.YtnieejghoaccmaaKA
namespace Go.Proofs.Ytnieejghoaccmaa
open Go.RowKit
open Shp
variable {n : Int} {bs : List Int}
theorem Zmc {k : IntKind}  (h1 : 0 ≤ n) (h2 : n < 2 ^ 63) (hk : k = .i64 ∨ k = .u64) : k.wrap n = n := by
 have e : n % 2 ^ 64 = n := Int.emod_eq_of_lt h1 (by omega)
 rcases hk with rfl | rfl <;> simp only [IntKind.wrap, IntKind.bits, IntKind.signed, e]
 ·rw [if_neg]; simp; omega
 ·rfl
theorem ZtZ {k : IntKind} (hk : k = .i64 ∨ k = .u64) (x : Int) {m : Nat} (hm : m < 2 ^ 63) : 0 ≤ ZeT .and k x m ∧ ZeT .and k x m ≤ m := by
 have h1 : (BitVec.ofInt k.bits x &&& BitVec.ofInt k.bits (m : Int)).toNat ≤ m := by
  rw [BitVec.toNat_and]
  refine Nat.le_trans Nat.and_le_right ?_
  rw [BitVec.ofInt_natCast, BitVec.toNat_ofNat]
  exact Nat.mod_le _ _
 show 0 ≤ k.wrap _ ∧ k.wrap _ ≤ _
 rw [Zmc (by omega) (by omega) hk]
 omega
def curH (h : Int) : Int := IntKind.wrap .i64 (IntKind.wrap .i64 (h * 6364136223846793005) + 1442695040888963407)
def curX (h : Int) : Int := ZeT .and .i64 (ZeT .xor .i64 ((curH h).fdiv (2 ^ min (Int.toNat 33) (IntKind.bits .i64))) ((curH h).fdiv (2 ^ min (Int.toNat 45) (IntKind.bits .i64)))) 255
def ZhU (bs : List Int) (s : Nat × Int) : Int := if s.1 < bs.length then ZeT .and .i64 (IntKind.wrap .i64 (curX s.2 + IntKind.wrap .i64 (nth bs s.1))) 255 else curX s.2
def Zdj (bs : List Int) (s : Nat × Int) : Nat × Int := (if s.1 < bs.length then s.1 + 1 else s.1, curH s.2)
theorem Ze6 (bs : List Int) (s : Nat × Int) : 0 ≤ ZhU bs s ∧ ZhU bs s ≤ 255 := by
 unfold ZhU curX
 split <;> exact ZtZ (m := 255) (.inl rfl) _ (by decide)
def Zv0 (bs : List Int) (s : Nat × Int) : Int := ZhU bs s * 16777216 + ZhU bs (Zdj bs s) * 65536 + ZhU bs (Zdj bs (Zdj bs s)) * 256 + ZhU bs (Zdj bs (Zdj bs (Zdj bs s)))
def ZaL (bs : List Int) (n : Int) (s : Nat × Int) : Int := if n ≤ 0 then 0 else if n ≤ 256 then ZhU bs s % n else Zv0 bs s % n
def Zae (bs : List Int) (n : Int) (s : Nat × Int) : Nat × Int := if n ≤ 0 then s else if n ≤ 256 then Zdj bs s else Zdj bs (Zdj bs (Zdj bs (Zdj bs s)))
theorem ZaW (bs : List Int) (n : Int) (s : Nat × Int) : 0 ≤ ZaL bs n s ∧ (0 < n → ZaL bs n s < n) := by
 unfold ZaL
 split
 ·omega
 ·have h : ∀ x : Int, 0 ≤ x % n ∧ x % n < n := fun x => ⟨Int.emod_nonneg _ (by omega), Int.emod_lt_of_pos _ (by omega)⟩
  split
  ·exact ⟨(h _).1, fun _ => (h _).2⟩
  ·exact ⟨(h _).1, fun _ => (h _).2⟩
def ZgH (bs : List Int) (n : Int) (s : Nat × Int) : Bool := ZaL bs n s == 0
def Zoo (bs : List Int) (lo hi : Int) (s : Nat × Int) : Int := lo + ZaL bs (hi - lo + 1) s
def Zl5 (bs : List Int) (lo hi : Int) (s : Nat × Int) : Nat × Int := Zae bs (hi - lo + 1) s
def sigA (bs : List Int) (s : Nat × Int) : (Int × Int) × (Nat × Int) :=
 if ZgH bs 4 s = true then ((1 + ZaL bs 2 (Zae bs 4 s), 1 + ZaL bs 2 (Zae bs 2 (Zae bs 4 s))), Zae bs 2 (Zae bs 2 (Zae bs 4 s))) else ((1, 1), Zae bs 4 s)
def sigP (bs : List Int) (s : Nat × Int) : (Int × Int) × (Nat × Int) :=
 if ZgH bs 20 (sigA bs s).2 = true then (((sigA bs s).1.1, Zoo bs 0 3 (Zae bs 20 (sigA bs s).2)), Zl5 bs 0 3 (Zae bs 20 (sigA bs s).2)) else ((sigA bs s).1, Zae bs 20 (sigA bs s).2)
def newH : List Int → Int → Int
 | [], h => h
 | b :: bs, h => newH bs (ZeT .and .i64 (IntKind.wrap .i64 (IntKind.wrap .i64 (IntKind.wrap .i64 (h * 313) + IntKind.wrap .i64 b) + 11)) 1073741823)
def newS (bs : List Int) : Nat × Int := (0, newH bs (560017 + bs.length))
theorem Znz  {i : Nat} {h : Int} (hi : i < bs.length) : newH (bs.drop i) h = newH (bs.drop (i + 1)) (ZeT .and .i64 (IntKind.wrap .i64 (IntKind.wrap .i64 (IntKind.wrap .i64 (h * 313) + IntKind.wrap .i64 (nth bs i)) + 11)) 1073741823) := by rw [Zfj hi]; rfl
theorem ZoN  {i : Nat} {h : Int} (hi : bs.length ≤ i) : newH (bs.drop i) h = h := by rw [List.drop_eq_nil_of_le hi]; rfl
def bytesB (bs : List Int) : Prop := ∀ b ∈ bs, 0 ≤ b ∧ b ≤ 255
theorem bytesB.at  (h : bytesB bs) {i : Nat} (hi : i < bs.length) : 0 ≤ nth bs i ∧ nth bs i ≤ 255 := h _ (Zbk hi)
end Go.Proofs.Ytnieejghoaccmaa

