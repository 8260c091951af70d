/- Draws of the statements: what a cursor hands back. No program in sight; no conditions. -/
import Derived.Test.YtachnjinfdagjaaDoorMS
import Derived.Test.YtachnjinfdagjaaDoorKA
set_option linter.unusedSimpArgs false
set_option linter.unusedVariables false
namespace Go.Proofs.YtachnjinfdagjaaDoor
open Go.RowKit
open Shp
theorem wrap_small {k : IntKind} {n : Int} (h1 : 0 ≤ n) (h2 : n < 2 ^ 63) (hk : k = .i64 ∨ k = .u64) : k.wrap n = n := by
  have e : n % 2 ^ 64 = n := Int.emod_eq_of_lt h1 (by omega)
  rcases hk with rfl | rfl <;> simp only [IntKind.wrap, IntKind.bits, IntKind.signed, e]
  · rw [if_neg]; simp; omega
  · rfl
theorem and_le {k : IntKind} (hk : k = .i64 ∨ k = .u64) (x : Int) {m : Nat} (hm : m < 2 ^ 63) : 0 ≤ bitsV .and k x m ∧ bitsV .and k x m ≤ m := by
  have h1 : (BitVec.ofInt k.bits x &&& BitVec.ofInt k.bits (m : Int)).toNat ≤ m := by
    rw [BitVec.toNat_and]
    refine Nat.le_trans Nat.and_le_right ?_
    rw [BitVec.ofInt_natCast, BitVec.toNat_ofNat]
    exact Nat.mod_le _ _
  show 0 ≤ k.wrap _ ∧ k.wrap _ ≤ _
  rw [wrap_small (by omega) (by omega) hk]
  omega
def curH (h : Int) : Int := IntKind.wrap .i64 (IntKind.wrap .i64 (h * 6364136223846793005) + 1442695040888963407)
def curX (h : Int) : Int := bitsV .and .i64 (bitsV .xor .i64 ((curH h).fdiv (2 ^ min (Int.toNat 33) (IntKind.bits .i64))) ((curH h).fdiv (2 ^ min (Int.toNat 45) (IntKind.bits .i64)))) 255
def byteX (bs : List Int) (s : Nat × Int) : Int := if s.1 < bs.length then bitsV .and .i64 (IntKind.wrap .i64 (curX s.2 + IntKind.wrap .i64 (nth bs s.1))) 255 else curX s.2
def byteS (bs : List Int) (s : Nat × Int) : Nat × Int := (if s.1 < bs.length then s.1 + 1 else s.1, curH s.2)
theorem byteX_rng (bs : List Int) (s : Nat × Int) : 0 ≤ byteX bs s ∧ byteX bs s ≤ 255 := by
  unfold byteX curX
  split <;> exact and_le (m := 255) (.inl rfl) _ (by decide)
def fourX (bs : List Int) (s : Nat × Int) : Int := byteX bs s * 16777216 + byteX bs (byteS bs s) * 65536 + byteX bs (byteS bs (byteS bs s)) * 256 + byteX bs (byteS bs (byteS bs (byteS bs s)))
def belowX (bs : List Int) (n : Int) (s : Nat × Int) : Int := if n ≤ 0 then 0 else if n ≤ 256 then byteX bs s % n else fourX bs s % n
def belowS (bs : List Int) (n : Int) (s : Nat × Int) : Nat × Int := if n ≤ 0 then s else if n ≤ 256 then byteS bs s else byteS bs (byteS bs (byteS bs (byteS bs s)))
theorem belowX_rng (bs : List Int) (n : Int) (s : Nat × Int) : 0 ≤ belowX bs n s ∧ (0 < n → belowX bs n s < n) := by
  unfold belowX
  split
  · omega
  · have h : ∀ x : Int, 0 ≤ x % n ∧ x % n < n := fun x => ⟨Int.emod_nonneg _ (by omega), Int.emod_lt_of_pos _ (by omega)⟩
    split
    · exact ⟨(h _).1, fun _ => (h _).2⟩
    · exact ⟨(h _).1, fun _ => (h _).2⟩
def onceB (bs : List Int) (n : Int) (s : Nat × Int) : Bool := belowX bs n s == 0
def fromX (bs : List Int) (lo hi : Int) (s : Nat × Int) : Int := lo + belowX bs (hi - lo + 1) s
def fromS (bs : List Int) (lo hi : Int) (s : Nat × Int) : Nat × Int := belowS bs (hi - lo + 1) s
def newH : List Int → Int → Int
  | [], h => h
  | b :: bs, h => newH bs (bitsV .and .i64 (IntKind.wrap .i64 (IntKind.wrap .i64 (IntKind.wrap .i64 (h * 313) + IntKind.wrap .i64 b) + 11)) 1073741823)
def newS (bs : List Int) : Nat × Int := (0, newH bs (560017 + bs.length))
theorem newH_step {bs : List Int} {i : Nat} {h : Int} (hi : i < bs.length) : newH (bs.drop i) h = newH (bs.drop (i + 1)) (bitsV .and .i64 (IntKind.wrap .i64 (IntKind.wrap .i64 (IntKind.wrap .i64 (h * 313) + IntKind.wrap .i64 (nth bs i)) + 11)) 1073741823) := by rw [drop_nth hi]; rfl
theorem newH_end {bs : List Int} {i : Nat} {h : Int} (hi : bs.length ≤ i) : newH (bs.drop i) h = h := by rw [List.drop_eq_nil_of_le hi]; rfl
def bytesB (bs : List Int) : Prop := ∀ b ∈ bs, 0 ≤ b ∧ b ≤ 255
theorem bytesB.at {bs : List Int} (h : bytesB bs) {i : Nat} (hi : i < bs.length) : 0 ≤ nth bs i ∧ nth bs i ≤ 255 := h _ (nth_mem hi)
end Go.Proofs.YtachnjinfdagjaaDoor

