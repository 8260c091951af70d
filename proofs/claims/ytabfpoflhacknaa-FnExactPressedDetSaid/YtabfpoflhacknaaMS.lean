/- Machines that answer alike have one least machine. No program in sight; no conditions. -/
import Derived.Test.YtabfpoflhacknaaMF
set_option linter.unusedSimpArgs false
set_option linter.unusedVariables false
namespace Go.Proofs.Ytabfpoflhacknaa
open Go.RowKit
open Shp

def MOk (n out : List (List Int)) (W : Nat) : Prop := (1 ≤ n.length ∧ n.length ≤ 48) ∧ GoOk n (W : Int) ∧ RowsW n out W
theorem it_stops {n : List (List Int)} : ∀ (m : Nat) (c : List Int), ClOk n.length c → msrN n.length c ≤ m → ∃ j, stepI n (it (stepI n) j c) = it (stepI n) j c
  | m, c, hc, hm => by
    by_cases e : stepI n c = c
    · exact ⟨0, e⟩
    · have h1 := stepI_lt hc e
      match m, hm with
      | 0, hm => omega
      | m + 1, hm =>
        obtain ⟨j, hj⟩ := it_stops m (stepI n c) stepI_ok (by omega)
        exact ⟨j + 1, hj⟩
def clsAt (c : List Int) (q : Int) : Int := nth c q.toNat
def inN (N : Nat) (q : Int) : Prop := 0 ≤ q ∧ q < (N : Int)
section
variable {n out : List (List Int)} {W : Nat}
theorem MOk.row (h : MOk n out W) {q : Int} (hq : inN n.length q) : (rowN n q).length = W ∧ (rowN out q).length = W := h.2.2 q.toNat (by unfold inN at hq; omega)
theorem MOk.step (h : MOk n out W) {q : Int} (hq : inN n.length q) {i : Nat} (hi : i < W) : inN n.length (nth (rowN n q) i) := by
  have := h.2.1.step (x := (i : Int)) hq (by omega)
  rwa [Int.toNat_natCast] at this
theorem cls_same {N : Nat} {near : Nat → Nat → Bool} {p q : Nat} (hp : p < N) (hq : q < N) (rp : near p p = true) (rq : near q q = true) (h : ∀ z, z < N → near z p = near z q) : nth (clsN N near) p = nth (clsN N near) q := by
  obtain ⟨r, h1, h2, h3, h4⟩ := clsN_spec hp rp
  obtain ⟨r2, g1, g2, g3, g4⟩ := clsN_spec hq rq
  have a : ¬ r < r2 := fun hl => by have := g4 r hl; rw [← h r (by omega), h3] at this; cases this
  have b : ¬ r2 < r := fun hl => by have := h4 r2 hl; rw [h r2 (by omega), g3] at this; cases this
  omega
/-- rows of classes -/
def cT (n : List (List Int)) (c : List Int) (q : Int) : List Int := (rowN n q).map (clsAt c)
theorem cT_len {c : List Int} {q : Int} : (cT n c q).length = (rowN n q).length := by simp [cT]
theorem nth_map {α β : Type} [Inhabited α] [Inhabited β] {f : α → β} {xs : List α} {i : Nat} (h : i < xs.length) : nth (xs.map f) i = f (nth xs i) := by
  rw [nth_eq (by simpa using h), nth_eq h, List.getElem_map]
end
/-- pairs of states -/
def succP (a b : List (List Int)) (x : Int × Int) : List (Int × Int) := (List.range (rowN a x.1).length).map fun i => (nth (rowN a x.1) i, nth (rowN b x.2) i)
theorem succP_len {a b : List (List Int)} {x : Int × Int} : (succP a b x).length = (rowN a x.1).length := by simp [succP]
theorem succP_nth {a b : List (List Int)} {x : Int × Int} {i : Nat} (h : i < (rowN a x.1).length) : nth (succP a b x) i = (nth (rowN a x.1) i, nth (rowN b x.2) i) := by
  rw [nth_eq (by rw [succP_len]; exact h)]; simp [succP]
def VP (A B : Nat) (x : Int × Int) : Prop := inN A x.1 ∧ inN B x.2
theorem pairs_len {A B : Nat} (ha : A ≤ 48) (hb : B ≤ 48) (xs : List (Int × Int)) (hn : xs.Nodup) (hv : ∀ x ∈ xs, VP A B x) : xs.length ≤ 2304 := by
  have h1 : (xs.map fun x => x.1 * 48 + x.2).Nodup := nodup_map hn fun x hx y hy e => by
    have a := hv x hx; have b := hv y hy
    unfold VP inN at a b
    refine Prod.ext ?_ ?_ <;> omega
  have h2 := nodup_len 2304 _ h1 fun x hx => by
    obtain ⟨y, hy, rfl⟩ := List.mem_map.1 hx
    have a := hv y hy
    unfold VP inN at a
    omega
  simpa using h2
section
variable {a oa b ob : List (List Int)} {W : Nat}
theorem vp_zero (ha : MOk a oa W) (hb : MOk b ob W) : VP a.length b.length (0, 0) := ⟨⟨by simp, by have := ha.1; simp; omega⟩, ⟨by simp, by have := hb.1; simp; omega⟩⟩
end
theorem take_all {xs : List Int} {q : Nat} (h : xs.length ≤ q) : (xs.take q).take q = xs := by
  rw [List.take_take, Nat.min_self, List.take_of_length_le h]
theorem take_dta {xs : List Int} {q : Nat} (h : xs.length ≤ q) : ((xs.take q).drop 0).take q = xs := by
  rw [List.drop_zero, take_all h]
end Go.Proofs.Ytabfpoflhacknaa

