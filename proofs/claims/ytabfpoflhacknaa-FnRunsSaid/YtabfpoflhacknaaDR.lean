/- Draws of the statements: what a cursor hands back. No program in sight; no conditions. -/
import Derived.Test.YtabfpoflhacknaaMM
import Derived.Test.YtabfpoflhacknaaKA
set_option linter.unusedSimpArgs false
set_option linter.unusedVariables false
namespace Go.Proofs.Ytabfpoflhacknaa
open Go.RowKit
open Shp
theorem wrap_small {k : IntKind} {n : Int} (h1 : 0 ≤ n) (h2 : n < 2 ^ 63) (hk : k = .i64 ∨ k = .u64) : k.wrap n = n := by
  have e : n % 2 ^ 64 = n := Int.emod_eq_of_lt h1 (by omega)
  rcases hk with rfl | rfl <;> simp only [IntKind.wrap, IntKind.bits, IntKind.signed, e]
  · rw [if_neg]; simp; omega
  · rfl
theorem and_le {k : IntKind} (hk : k = .i64 ∨ k = .u64) (x : Int) {m : Nat} (hm : m < 2 ^ 63) : 0 ≤ bitsV .and k x m ∧ bitsV .and k x m ≤ m := by
  have h1 : (BitVec.ofInt k.bits x &&& BitVec.ofInt k.bits (m : Int)).toNat ≤ m := by
    rw [BitVec.toNat_and]
    refine Nat.le_trans Nat.and_le_right ?_
    rw [BitVec.ofInt_natCast, BitVec.toNat_ofNat]
    exact Nat.mod_le _ _
  show 0 ≤ k.wrap _ ∧ k.wrap _ ≤ _
  rw [wrap_small (by omega) (by omega) hk]
  omega
def rollH : List Int → Int → Int
  | [], h => h
  | b :: bs, h => rollH bs (IntKind.wrap .u64 (IntKind.wrap .u64 (IntKind.wrap .u64 (h * 1099511628211) + IntKind.wrap .u64 b) + 3))
def rollS (bs : List Int) (k : Int) : Nat × Int := (0, rollH bs (IntKind.wrap .u64 (IntKind.wrap .u64 (k * 7919) + IntKind.wrap .u64 bs.length)))
theorem rollH_step {bs : List Int} {i : Nat} {h : Int} (hi : i < bs.length) : rollH (bs.drop i) h = rollH (bs.drop (i + 1)) (IntKind.wrap .u64 (IntKind.wrap .u64 (IntKind.wrap .u64 (h * 1099511628211) + IntKind.wrap .u64 (nth bs i)) + 3)) := by rw [drop_nth hi]; rfl
theorem rollH_end {bs : List Int} {i : Nat} {h : Int} (hi : bs.length ≤ i) : rollH (bs.drop i) h = h := by rw [List.drop_eq_nil_of_le hi]; rfl
def bytesB (bs : List Int) : Prop := ∀ b ∈ bs, 0 ≤ b ∧ b ≤ 255
theorem bytesB.at {bs : List Int} (h : bytesB bs) {i : Nat} (hi : i < bs.length) : 0 ≤ nth bs i ∧ nth bs i ≤ 255 := h _ (nth_mem hi)
def dieH (h : Int) : Int := IntKind.wrap .u64 (IntKind.wrap .u64 (h * 6364136223846793005) + 1442695040888963407)
def dieX (h : Int) : Int := IntKind.wrap .i64 (bitsV .and .u64 ((dieH h).fdiv (2 ^ min (Int.toNat 33) (IntKind.bits .u64))) 16777215)
theorem dieX_rng (h : Int) : 0 ≤ dieX h ∧ dieX h ≤ 16777215 := by
  unfold dieX
  have h1 := and_le (m := 16777215) (.inr rfl : IntKind.u64 = .i64 ∨ IntKind.u64 = .u64) ((dieH h).fdiv (2 ^ min (Int.toNat 33) (IntKind.bits .u64))) (by decide)
  have h2 := wrap_small (k := .i64) h1.1 (by omega) (.inl rfl)
  rw [show ((16777215 : Nat) : Int) = 16777215 from rfl] at h1 h2
  rw [h2]; exact h1
def rawX (bs : List Int) (s : Nat × Int) : Int := if s.1 < bs.length then IntKind.wrap .i64 (dieX s.2 + IntKind.wrap .i64 (nth bs s.1)) else dieX s.2
theorem rawX_nn {bs : List Int} (hb : bytesB bs) (s : Nat × Int) : 0 ≤ rawX bs s := by
  unfold rawX
  have h1 := dieX_rng s.2
  split
  · rename_i h
    have h2 := hb.at h
    rw [wrap_small (k := .i64) h2.1 (by omega) (.inl rfl), wrap_small (k := .i64) (by omega) (by omega) (.inl rfl)]
    omega
  · exact h1.1
def dieS (bs : List Int) (s : Nat × Int) : Nat × Int := (if s.1 < bs.length then s.1 + 1 else s.1, dieH s.2)
def rollX (bs : List Int) (n : Int) (s : Nat × Int) : Int := rawX bs s % n
theorem rollX_rng {bs : List Int} {n : Int} (hn : 0 < n) (s : Nat × Int) : 0 ≤ rollX bs n s ∧ rollX bs n s < n := ⟨Int.emod_nonneg _ (by omega), Int.emod_lt_of_pos _ hn⟩
end Go.Proofs.Ytabfpoflhacknaa

