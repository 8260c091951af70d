/- Machines that answer alike have one least machine. No program in sight; no conditions. -/
import Derived.Test.YtbjonekgeidoiaaMF
set_option linter.unusedSimpArgs false
set_option linter.unusedVariables false
namespace Go.Proofs.Ytbjonekgeidoiaa
open Go.RowKit
open Shp

def MOk (n out : List (List Int)) (W : Nat) : Prop := (1 ≤ n.length ∧ n.length ≤ 48) ∧ GoOk n (W : Int) ∧ RowsW n out W
theorem machB_ok {i o : Int} {n out : List (List Int)} (h : machB i o n out = true) : MOk n out (pw i).toNat := by
  have a := machB_r h
  have b := sig_pw a.1
  refine ⟨⟨a.2.1, a.2.2.1⟩, ?_, machB_rows h⟩
  rw [show (((pw i).toNat : Nat) : Int) = pw i by omega]; exact machB_go h
theorem it_stops {n : List (List Int)} : ∀ (m : Nat) (c : List Int), ClOk n.length c → msrN n.length c ≤ m → ∃ j, stepI n (it (stepI n) j c) = it (stepI n) j c
  | m, c, hc, hm => by
    by_cases e : stepI n c = c
    · exact ⟨0, e⟩
    · have h1 := stepI_lt hc e
      match m, hm with
      | 0, hm => omega
      | m + 1, hm =>
        obtain ⟨j, hj⟩ := it_stops m (stepI n c) stepI_ok (by omega)
        exact ⟨j + 1, hj⟩
theorem itI_ok {n out : List (List Int)} : ∀ (j : Nat), ClOk n.length (it (stepI n) j (cls0 n out))
  | 0 => cls0_ok
  | j + 1 => by rw [it_succ]; exact stepI_ok
/-- the classes -/
theorem alike_spec (n out : List (List Int)) : ClOk n.length (alikeN n out) ∧ stepI n (alikeN n out) = alikeN n out ∧ Finer out n.length (alikeN n out) ∧ ∃ j, alikeN n out = it (stepI n) j (cls0 n out) := by
  obtain ⟨j, hj⟩ := it_stops (n := n) _ (cls0 n out) cls0_ok (Nat.le_refl _)
  have e : alikeN n out = it (stepI n) j (cls0 n out) := limF_eq hj
  rw [e]
  exact ⟨itI_ok j, hj, itI_finer j, j, rfl⟩
def clsAt (c : List Int) (q : Int) : Int := nth c q.toNat
def inN (N : Nat) (q : Int) : Prop := 0 ≤ q ∧ q < (N : Int)
section
variable {n out : List (List Int)} {W : Nat}
theorem MOk.row (h : MOk n out W) {q : Int} (hq : inN n.length q) : (rowN n q).length = W ∧ (rowN out q).length = W := h.2.2 q.toNat (by unfold inN at hq; omega)
theorem MOk.step (h : MOk n out W) {q : Int} (hq : inN n.length q) {i : Nat} (hi : i < W) : inN n.length (nth (rowN n q) i) := by
  have := h.2.1.step (x := (i : Int)) hq (by omega)
  rwa [Int.toNat_natCast] at this
theorem alike_at (c : List Int) (hc : ClOk n.length c) (hs : stepI n c = c) {q : Nat} (hq : q < n.length) : ∃ r : Nat, r ≤ q ∧ nth c q = (r : Int) ∧ nearI n c r q = true := by
  obtain ⟨r, h1, h2, h3, _⟩ := clsN_spec (near := nearI n c) hq nearI_refl
  have e : clsN n.length (nearI n c) = c := hs
  rw [e] at h2
  exact ⟨r, h1, h2, h3⟩
theorem alike_idem (h : MOk n out W) {q : Int} (hq : inN n.length q) : clsAt (alikeN n out) (clsAt (alikeN n out) q) = clsAt (alikeN n out) q := by
  obtain ⟨hc, hs, _⟩ := alike_spec n out
  obtain ⟨r, h1, h2, h3⟩ := alike_at _ hc hs (q := q.toNat) (by unfold inN at hq; omega)
  unfold clsAt
  rw [h2, Int.toNat_natCast]
  have := nearI_c h3; omega
theorem alike_out (h : MOk n out W) {p q : Int} (hp : inN n.length p) (hq : inN n.length q) (e : clsAt (alikeN n out) p = clsAt (alikeN n out) q) : rowN out p = rowN out q := by
  obtain ⟨_, _, hf, _⟩ := alike_spec n out
  unfold inN at *
  exact hf _ _ (by omega) (by omega) e
theorem alike_step (h : MOk n out W) {p q : Int} (hp : inN n.length p) (hq : inN n.length q) (e : clsAt (alikeN n out) p = clsAt (alikeN n out) q) {i : Nat} (hi : i < W) : clsAt (alikeN n out) (nth (rowN n p) i) = clsAt (alikeN n out) (nth (rowN n q) i) := by
  obtain ⟨hc, hs, _⟩ := alike_spec n out
  obtain ⟨r, h1, h2, h3⟩ := alike_at _ hc hs (q := p.toNat) (by unfold inN at hp; omega)
  obtain ⟨r2, g1, g2, g3⟩ := alike_at _ hc hs (q := q.toNat) (by unfold inN at hq; omega)
  have e2 : r = r2 := by unfold clsAt at e; omega
  subst e2
  unfold nearI at h3 g3
  simp only [Bool.and_eq_true, decide_eq_true_eq, allN_iff] at h3 g3
  have a := h3.2 i (by have := (h.row hp).1; unfold rowN at this; omega)
  have b := g3.2 i (by have := (h.row hq).1; unfold rowN at this; omega)
  unfold clsAt rowN
  rw [a, b]
end
section
variable {a oa b ob : List (List Int)} {W : Nat}
end
theorem fillN_len {c : List Int} {q N : Nat} (h : c.length = N ∧ q ≤ N) : (fillN c q N).length = N := by
  unfold fillN; rw [List.length_append, List.length_take, List.length_replicate]; omega
theorem fill_dt {c : List Int} {q N : Nat} (h : c.length = N ∧ N ≤ q) : ((fillN c q N).drop 0).take N = c := by
  rw [fill_all ⟨by omega, h.2⟩, List.drop_zero, List.take_of_length_le (by omega)]
theorem nearI_of {n : List (List Int)} {c : List Int} {q r i : Nat} {al : Bool} (m2 : al = (decide (nth c q = nth c r) && allN i fun i => decide (nth c (nth (nth n q) i).toNat = nth c (nth (nth n r) i).toNat))) (ha : al = true) (hi : (nth n q).length ≤ i ∧ i ≤ (nth n q).length) : nearI n c r q = true := by
  have e : i = (nth n q).length := by omega
  subst e; rw [ha] at m2; exact m2.symm
theorem nearI_not {n : List (List Int)} {c : List Int} {q r i : Nat} {al : Bool} (m2 : al = (decide (nth c q = nth c r) && allN i fun i => decide (nth c (nth (nth n q) i).toNat = nth c (nth (nth n r) i).toNat))) (ha : al = false) (hi : (nth n q).length ≤ i ∧ i ≤ (nth n q).length) : nearI n c r q = false := by
  have e : i = (nth n q).length := by omega
  subst e; rw [ha] at m2; exact m2.symm
theorem fill_t {c : List Int} {q N : Nat} (h : c.length = N ∧ N ≤ q) : (fillN c q N).take N = c := by
  rw [fill_all ⟨by omega, h.2⟩, List.take_of_length_le (by omega)]
end Go.Proofs.Ytbjonekgeidoiaa

