/- Two automata joined: pairs as rows, parts of pairs, what the product is. No program in sight; no conditions. -/
import Derived.Test.YtjjidamlmebaaaaGreatHM
import Derived.Test.YtjjidamlmebaaaaGreatMK0
namespace Go.Proofs.YtjjidamlmebaaaaGreat
open Go.RowKit
open Shp
variable {n o out : List (List Int)} {p W x : Int} {xs : List Int}
end Go.Proofs.YtjjidamlmebaaaaGreat

namespace Go.Proofs.YtjjidamlmebaaaaGreat
open Go.RowKit
open Shp
theorem Zik : ∀ (N : Nat) (xs : List Int), xs.Nodup → (∀ x ∈ xs, 0 ≤ x ∧ x < (N : Int)) → xs.length ≤ N
 | 0, xs, _, h => by
  cases xs with
  | nil => simp
  | cons x xs => have := h x (.head _); omega
 | N + 1, xs, hn, h => by
  by_cases hm : (N : Int) ∈ xs
  ·have h1 := Zik N (xs.erase N) (hn.erase _) fun x hx => by
    have a := List.mem_of_mem_erase hx
    have b := (hn.mem_erase_iff.1 hx).1
    have c := h x a
    omega
   rw [List.length_erase_of_mem hm] at h1
   omega
  ·have h1 := Zik N xs hn fun x hx => by
    have c := h x hx
    have : x ≠ N := fun e => hm (e ▸ hx)
    omega
   omega
section
variable {α : Type} [DecidableEq α]
variable [Inhabited α]
end
section
variable {α β : Type} [DecidableEq α] [DecidableEq β] [Inhabited α] [Inhabited β]
end
end Go.Proofs.YtjjidamlmebaaaaGreat

namespace Go.Proofs.YtjjidamlmebaaaaGreat
open Go.RowKit
open Shp
variable {N k j p q W : Nat} {out n : List (List Int)} {x v : Int} {xs c : List Int} {α : Type} {near : Nat → Nat → Bool}
def it {α : Type} (f : α → α) : Nat → α → α
 | 0, c => c
 | j + 1, c => it f j (f c)
end Go.Proofs.YtjjidamlmebaaaaGreat

namespace Go.Proofs.YtjjidamlmebaaaaGreat
open Go.RowKit
open Shp
variable {α : Type} {o q k t W : Int} {m L : Nat} {a : List Int} {b : Bool}
def bit (b : Bool) : Int := if b then 1 else 0
def ZlU (i o x y : Int) : Int := if sigB i o = true ∧ 0 ≤ x ∧ x < pw i ∧ 0 ≤ y ∧ y < pw o then y * pw i + x else -1
theorem ZmL {i m : Int} {row : List Int} (hp : 1 ≤ i ∧ i ≤ 2 ∧ 1 ≤ o ∧ o ≤ 2 ∧ 2 ≤ pw i ∧ pw i ≤ 4 ∧ 2 ≤ pw o ∧ pw o ≤ 4 ∧ 4 ≤ pw (i + o) ∧ pw (i + o) ≤ 16 ∧ Zbv i o = pw (i + o) ∧ pw (i + o) = pw i * pw o ∧ pw i = 2 ^ i.toNat ∧ pw o = 2 ^ o.toNat ∧ pw (i + o) = 2 ^ (i + o).toNat) (hm : 0 ≤ m ∧ m < pw o) (hk : 0 ≤ k ∧ k < pw i) (hr : (row.length : Int) = Zbv i o) : 0 ≤ m * pw i ∧ m * pw i + k < row.length := by
 have e : Zbv i o = pw i * pw o := by omega
 have h1 : m * pw i ≤ (pw o - 1) * pw i := Int.mul_le_mul_of_nonneg_right (by omega) (by omega)
 have h2 : (pw o - 1) * pw i = pw i * pw o - pw i := by rw [Int.sub_mul, Int.mul_comm]; omega
 have h3 : 0 ≤ m * pw i := Int.mul_nonneg (by omega) (by omega)
 omega
end Go.Proofs.YtjjidamlmebaaaaGreat

namespace Go.Proofs.YtjjidamlmebaaaaGreat
open Go.RowKit
open Shp
variable {q p N r : Nat} {x : Int} {xs c : List Int} {al : Bool}
section
variable {n out : List (List Int)} {W : Nat}
end
section
variable {a oa b ob : List (List Int)} {W : Nat}
end
end Go.Proofs.YtjjidamlmebaaaaGreat

namespace Go.Proofs.YtjjidamlmebaaaaGreat
open Go.RowKit
open Shp
variable {n out : List (List Int)} {o k j : Int} {a b : List Int}
end Go.Proofs.YtjjidamlmebaaaaGreat

namespace Go.Proofs.YtjjidamlmebaaaaGreat
open Go.RowKit
open Shp
variable {v q o : Int} {α : Type} {n2 out2 : List (List Int)}
def placeP (xs : List (Int × Int)) (x : Int × Int) : Int := Zdk xs.length fun i => decide (nth xs i = x)
section
variable {a oa b ob : List (List Int)} {W : Nat} {os ps : List (Int × Int)} {k x f : Nat}
end
section
variable {n out : List (List Int)} {os ps : List Int} {k x f : Nat}
end
section
variable {n out : List (List Int)} {os ps : List Int} {k x f : Nat}
end
end Go.Proofs.YtjjidamlmebaaaaGreat

namespace Go.Proofs.YtjjidamlmebaaaaGreat
open Go.RowKit
open Shp
variable {xs t os : List (Int × Int)} {v : Int × Int} {a b n n2 : List (List Int)} {k : Nat} {ps ps2 : List (List Int × List Int)}
def ZmP (s : List Int) (xs : List Int) : Nat → List Int
 | 0 => []
 | i + 1 => if has s (nth xs i) = true then ZmP s xs i ++ [(i : Int)] else ZmP s xs i
def pairP (xs : List Int) (p : List Int × List Int) : List Int × List Int := (ZmP p.1 xs xs.length, ZmP p.2 xs xs.length)
end Go.Proofs.YtjjidamlmebaaaaGreat

namespace Go.Proofs.YtjjidamlmebaaaaGreat
open Go.RowKit
open Shp
variable {ms n n2 : List (List Int)} {t w : Nat} {xs : List Int} {q : Int × Int} {p : Int} {ps2 : List (List Int × List Int)} {L : List (Int × Int)}
section
variable {a b : List (List Int)} {os ps : List (Int × Int)} {k x : Nat}
end
end Go.Proofs.YtjjidamlmebaaaaGreat

