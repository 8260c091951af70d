/- Search in breadth, over data of any kind. No program in sight; no conditions. -/
import Derived.Test.YtnieejghoaccmaaGreatOG
import Derived.Test.YtnieejghoaccmaaGreatTab
import Derived.Test.YtnieejghoaccmaaGreatKG
import Derived.Test.YtnieejghoaccmaaGreatC1
import Derived.Test.YtnieejghoaccmaaGreatChecked
namespace Go.Proofs.YtnieejghoaccmaaGreat
open Go.RowKit
open Shp
variable {α : Type} {k n m : Nat} {r : List Int × List Int} {s2 l2 : List Int}
theorem Zrf  [Inhabited α] (xs : List α) (n i : Nat) (h : i < n) : nth (xs.take n) i = nth xs i := by
 unfold nth; simp [List.getElem?_take, h]
def letN (s l : List Int) (i : Nat) : Int := if i < s.length then nth s i else nth l ((i - s.length) % l.length)
end Go.Proofs.YtnieejghoaccmaaGreat

namespace Go.Proofs.YtnieejghoaccmaaGreat
open Go.RowKit
open Shp
variable {f : Nat → Int} {n p : Nat} {s2 l2 : List Int}
end Go.Proofs.YtnieejghoaccmaaGreat

namespace Go.Proofs.YtnieejghoaccmaaGreat
open Go.RowKit
open Shp
end Go.Proofs.YtnieejghoaccmaaGreat

namespace Go.Proofs.YtnieejghoaccmaaGreat
open Go.RowKit
open Shp
variable {k : Int} {q : Nat}
end Go.Proofs.YtnieejghoaccmaaGreat

namespace Go.Proofs.YtnieejghoaccmaaGreat
open Go.RowKit
open Shp
end Go.Proofs.YtnieejghoaccmaaGreat

namespace Go.Proofs.YtnieejghoaccmaaGreat
open Go.RowKit
open Shp
variable {p o W q : Int} {n out : List (List Int)} {ps : List (List Int × List Int)} {xs : List Int}
theorem Zj2 {i : Int} (h : sigB i o = true) : 1 ≤ i ∧ i ≤ 2 ∧ 1 ≤ o ∧ o ≤ 2 ∧ 2 ≤ pw i ∧ pw i ≤ 4 ∧ 2 ≤ pw o ∧ pw o ≤ 4 ∧ 4 ≤ pw (i + o) ∧ pw (i + o) ≤ 16 ∧ Zaa i o = pw (i + o) ∧ pw (i + o) = pw i * pw o ∧ pw i = 2 ^ i.toNat ∧ pw o = 2 ^ o.toNat ∧ pw (i + o) = 2 ^ (i + o).toNat := by
 obtain ⟨h1, h2, h3, h4⟩ := Zqe h
 have e := Zcz h
 obtain ⟨p1, p2, p3, p4, _⟩ := Zqa
 have a : i = 1 ∨ i = 2 := by omega
 have b : o = 1 ∨ o = 2 := by omega
 refine ⟨h1, h2, h3, h4, ?_, ?_, ?_, ?_, ?_, ?_, e, ?_, rfl, rfl, rfl⟩ <;> rcases a with rfl | rfl <;> rcases b with rfl | rfl <;> simp_all
def setN (s : List Int) (n : Int) : Bool := decide (0 ≤ n) && decide (n ≤ 256) && setB s n
theorem ZjT {s : List Int} {n : Int} (h0 : 0 ≤ n) (h1 : n ≤ 256) : setN s n = ZbS s n := by unfold setN; rw [ZjU h0]; simp [h0, h1]
def ZeW (ps : List (List Int × List Int)) (n : Int) (k : Nat) : Bool := ZbS (nth ps k).1 n && ZbS (nth ps k).2 n
def Zei (ps : List (List Int × List Int)) (n : Int) : Bool := decide (ps.length ≤ 4) && allN ps.length (ZeW ps n)
def Zhf (i o : Int) (n : List (List Int)) (q : Nat) : Bool := decide (((nth n q).length : Int) = Zaa i o) && below (nth n q) n.length
def detB (i o : Int) (n : List (List Int)) (ps : List (List Int × List Int)) : Bool := sigB i o && decide (1 ≤ n.length) && decide (n.length ≤ 48) && Zei ps n.length && allN n.length (Zhf i o n)
theorem Zdy {i : Int}   (h : detB i o n ps = true) : sigB i o = true ∧ 1 ≤ n.length ∧ n.length ≤ 48 ∧ Zei ps n.length = true ∧ ∀ q, q < n.length → ((nth n q).length : Int) = Zaa i o ∧ below (nth n q) n.length = true := by
 unfold detB at h
 simp only [Bool.and_eq_true, decide_eq_true_eq, allN_iff, Zhf] at h
 obtain ⟨⟨⟨⟨h1, h2⟩, h3⟩, h4⟩, h5⟩ := h
 exact ⟨h1, h2, h3, h4, h5⟩
def Zed (n : Int) (cs : List (Int × List Int × List Int)) (k : Nat) : Bool := ZdE n (nth cs k).1 (nth cs k).2.1 (nth cs k).2.2
def ZaV (i o : Int) (cs : List (Int × List Int × List Int)) : Bool := sigB i o && decide (cs.length ≤ 3) && allN cs.length (Zed (Zaa i o) cs)
def goN (n : List (List Int)) : Int → List Int → Int
 | q, [] => q
 | q, x :: xs => goN n (nth (nth n q.toNat) x.toNat) xs
def GoOk (n : List (List Int)) (W : Int) : Prop := ∀ q, q < n.length → ((nth n q).length : Int) = W ∧ below (nth n q) n.length = true
theorem GoOk.row  (h : GoOk n W)  (h1 : 0 ≤ q) (h2 : q < n.length) : ((nth n q.toNat).length : Int) = W := (h q.toNat (by omega)).1
theorem GoOk.step  (h : GoOk n W) {x : Int} (h1 : 0 ≤ q ∧ q < n.length) (h2 : 0 ≤ x ∧ x < W) : 0 ≤ nth (nth n q.toNat) x.toNat ∧ nth (nth n q.toNat) x.toNat < n.length := by
 have a := h q.toNat (by omega)
 exact below_iff.1 a.2 x.toNat (by omega)
theorem Znh  {i : Nat} (h : i < xs.length) : goN n p (xs.drop i) = goN n (nth (nth n p.toNat) (nth xs i).toNat) (xs.drop (i + 1)) := by rw [Ze2 h]; rfl
theorem ZqB  {i : Nat} (h : xs.length ≤ i) : goN n p (xs.drop i) = p := by rw [List.drop_eq_nil_of_le h]; rfl
theorem ZbP {n : List (List Int)} {W : Int} (h : GoOk n W) : ∀ {xs : List Int} {q : Int}, below xs W = true → 0 ≤ q ∧ q < n.length → 0 ≤ goN n q xs ∧ goN n q xs < n.length
 | [], q, _, hq => hq
 | x :: xs, q, hb, hq => by
  rw [below_iff] at hb
  refine ZbP h (xs := xs) (below_iff.2 fun j hj => ?_) (h.step hq ?_)
  ·have := hb (j + 1) (by simpa using hj); simpa [nth] using this
  ·have := hb 0 (by simp); simpa [nth] using this
theorem Zcc {i : Int}   (h : detB i o n ps = true) : GoOk n (Zaa i o) := (Zdy h).2.2.2.2
end Go.Proofs.YtnieejghoaccmaaGreat

namespace Go.Proofs.YtnieejghoaccmaaGreat
open Go.RowKit
open Shp
variable {n o out : List (List Int)} {p W x : Int} {xs : List Int}
end Go.Proofs.YtnieejghoaccmaaGreat

namespace Go.Proofs.YtnieejghoaccmaaGreat
open Go.RowKit
open Shp
theorem ZeU : ∀ (N : Nat) (xs : List Int), xs.Nodup → (∀ x ∈ xs, 0 ≤ x ∧ x < (N : Int)) → xs.length ≤ N
 | 0, xs, _, h => by
  cases xs with
  | nil => simp
  | cons x xs => have := h x (.head _); omega
 | N + 1, xs, hn, h => by
  by_cases hm : (N : Int) ∈ xs
  ·have h1 := ZeU N (xs.erase N) (hn.erase _) fun x hx => by
    have a := List.mem_of_mem_erase hx
    have b := (hn.mem_erase_iff.1 hx).1
    have c := h x a
    omega
   rw [List.length_erase_of_mem hm] at h1
   omega
  ·have h1 := ZeU N xs hn fun x hx => by
    have c := h x hx
    have : x ≠ N := fun e => hm (e ▸ hx)
    omega
   omega
theorem Zh6 {α β : Type} {f : α → β} : ∀ {xs : List α}, xs.Nodup → (∀ x ∈ xs, ∀ y ∈ xs, f x = f y → x = y) → (xs.map f).Nodup
 | [], _, _ => by simp
 | x :: xs, hn, h => by
  rw [List.map_cons, List.nodup_cons]
  rw [List.nodup_cons] at hn
  refine ⟨fun hm => ?_, Zh6 hn.2 fun a ha b hb => h a (.tail _ ha) b (.tail _ hb)⟩
  obtain ⟨y, hy, e⟩ := List.mem_map.1 hm
  have := h y (.tail _ hy) x (.head _) e
  subst this
  exact hn.1 hy
section
variable {α : Type} [DecidableEq α]
def addG (out : List α) : List α → List α
 | [] => out
 | x :: xs => addG (if x ∈ out then out else out ++ [x]) xs
theorem ZkH : ∀ (xs out : List α), ∃ t, addG out xs = out ++ t
 | [], out => ⟨[], by simp [addG]⟩
 | x :: xs, out => by
  simp only [addG]
  obtain ⟨t, ht⟩ := ZkH xs (if x ∈ out then out else out ++ [x])
  rw [ht]
  split
  ·exact ⟨t, rfl⟩
  ·exact ⟨x :: t, by simp⟩
theorem ZkW : ∀ (xs out : List α) (y : α), y ∈ addG out xs ↔ y ∈ out ∨ y ∈ xs
 | [], out, y => by simp [addG]
 | x :: xs, out, y => by
  simp only [addG]
  rw [ZkW xs]
  split
  ·rename_i h
   simp only [List.mem_cons]
   constructor
   ·rintro (a | a)
    ·exact .inl a
    ·exact .inr (.inr a)
   ·rintro (a | rfl | a)
    ·exact .inl a
    ·exact .inl h
    ·exact .inr a
  ·simp only [List.mem_append, List.mem_cons, List.not_mem_nil, or_false]
   constructor
   ·rintro ((a | a) | a)
    ·exact .inl a
    ·exact .inr (.inl a)
    ·exact .inr (.inr a)
   ·rintro (a | a | a)
    ·exact .inl (.inl a)
    ·exact .inl (.inr a)
    ·exact .inr a
theorem ZjN {β : Type} {out : List β} {x : β} (h : out.Nodup) (hx : x ∉ out) : (out ++ [x]).Nodup := by
 rw [List.nodup_append]
 refine ⟨h, by simp, fun a ha b hb e => ?_⟩
 simp only [List.mem_singleton] at hb
 subst hb; subst e; exact hx ha
theorem Zj5 : ∀ (xs out : List α), out.Nodup → (addG out xs).Nodup
 | [], out, h => h
 | x :: xs, out, h => by
  simp only [addG]
  refine Zj5 xs _ ?_
  split
  ·exact h
  ·rename_i h2; exact ZjN h h2
variable [Inhabited α]
theorem ZlR {out xs : List α} {i : Nat} (h : i < xs.length) : addG out (xs.drop i) = addG (if nth xs i ∈ out then out else out ++ [nth xs i]) (xs.drop (i + 1)) := by rw [Ze2 h]; rfl
theorem ZsK {β : Type} [DecidableEq β] {out xs : List β} {i : Nat} (h : xs.length ≤ i) : addG out (xs.drop i) = out := by rw [List.drop_eq_nil_of_le h]; rfl
end
section
variable {α β : Type} [DecidableEq α] [DecidableEq β] [Inhabited α] [Inhabited β]
theorem Zmk {α : Type} [Inhabited α] {xs ys : List α} {i : Nat} (h : i < xs.length) : nth (xs ++ ys) i = nth xs i := by unfold nth; simp only [List.getD_eq_getElem?_getD]; rw [List.getElem?_append_left h]
theorem Zx4 {α : Type} [Inhabited α] {xs ys : List α} {i : Nat} (h : xs.length ≤ i) : nth (xs ++ ys) i = nth ys (i - xs.length) := by unfold nth; simp only [List.getD_eq_getElem?_getD]; rw [List.getElem?_append_right h]
end
end Go.Proofs.YtnieejghoaccmaaGreat

