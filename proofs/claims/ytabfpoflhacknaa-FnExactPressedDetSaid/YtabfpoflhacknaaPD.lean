/- The quotient of an automaton: the classes found, the rows by their places. No program in sight; no conditions. -/
import Derived.Test.YtabfpoflhacknaaAI
import Derived.Test.YtabfpoflhacknaaPO
set_option linter.unusedSimpArgs false
set_option linter.unusedVariables false
namespace Go.Proofs.Ytabfpoflhacknaa
open Go.RowKit
open Shp

def pdN (n : List (List Int)) (cl : List Int) : List Int := bfsG (cT n cl) 48 0 [nth cl 0]
def pdR (n : List (List Int)) (cl : List Int) (q : Int) : List Int := (cT n cl q).map (place (pdN n cl))
def pressN (n : List (List Int)) (cl : List Int) : List (List Int) := (pdN n cl).map (pdR n cl)
def pressP (n : List (List Int)) (ps : List (List Int × List Int)) (cl : List Int) : List (List Int × List Int) := pairsP ps (pdN n cl)
section
variable {n : List (List Int)} {cl : List Int} {os ps : List Int} {k x f : Nat}
theorem cT_at {q : Int} (hx : x < (nth n q.toNat).length) : nth (cT n cl q) x = nth cl (nth (nth n q.toNat) x).toNat := nth_map hx
theorem pr_in (h : pdN n cl = bfsG (cT n cl) (48 - k) k os) (hk : k < os.length) (hl : os.length ≤ 48) : pdN n cl = bfsG (cT n cl) (48 - (k + 1)) (k + 1) (addG os ((cT n cl (nth os k)).drop 0)) := by
  rw [h, List.drop_zero]; exact bfsG_step hk hl
theorem pr_yes {q : Int} (hx : x < (nth n q.toNat).length) (h : pdN n cl = bfsG (cT n cl) f k (addG ps ((cT n cl q).drop x))) (hh : ¬ place ps (nth cl (nth (nth n q.toNat) x).toNat) < 0) : pdN n cl = bfsG (cT n cl) f k (addG ps ((cT n cl q).drop (x + 1))) := by
  have hx' : x < (cT n cl q).length := by rw [cT_len]; exact hx
  rw [h, addG_drop hx', if_pos (by rw [cT_at hx]; exact has_iff.1 (place_ge hh))]
theorem pr_no {q : Int} (hx : x < (nth n q.toNat).length) (h : pdN n cl = bfsG (cT n cl) f k (addG ps ((cT n cl q).drop x))) (hh : place ps (nth cl (nth (nth n q.toNat) x).toNat) < 0) : pdN n cl = bfsG (cT n cl) f k (addG (ps ++ [nth cl (nth (nth n q.toNat) x).toNat]) ((cT n cl q).drop (x + 1))) := by
  have hx' : x < (cT n cl q).length := by rw [cT_len]; exact hx
  rw [h, addG_drop hx', if_neg (by rw [cT_at hx]; exact fun m => by have := place_lt hh; rw [has_iff.2 m] at this; cases this), cT_at hx]
theorem pr_out {q : Int} (h : pdN n cl = bfsG (cT n cl) f k (addG ps ((cT n cl q).drop x))) (hx : (nth n q.toNat).length ≤ x) : pdN n cl = bfsG (cT n cl) f k ps := by
  rw [h, addG_end (by rw [cT_len]; exact hx)]
theorem pr_place {ys : List Int} (h : pdN n cl = bfsG (cT n cl) f k (addG ps ys)) {v : Int} (hv : v ∈ ps) : place (pdN n cl) v = place ps v := by
  obtain ⟨t, ht⟩ := bfsG_ext (next := cT n cl) f k (addG ps ys)
  obtain ⟨t2, ht2⟩ := addG_ext ys ps
  rw [h, ht, ht2, List.append_assoc]; exact place_ext hv
theorem pdR_mem {q : Int} (hx : x < (nth n q.toNat).length) : nth (pdR n cl q) x = place (pdN n cl) (nth cl (nth (nth n q.toNat) x).toNat) := by
  unfold pdR; rw [nth_map (by rw [cT_len]; exact hx), cT_at hx]
theorem pdR_len {q : Int} : (pdR n cl q).length = (nth n q.toNat).length := by unfold pdR; rw [List.length_map, cT_len]; rfl
theorem prr_yes {q : Int} (hx : x < (nth n q.toNat).length) (h : pdN n cl = bfsG (cT n cl) f k (addG ps ((cT n cl q).drop x))) (hh : ¬ place ps (nth cl (nth (nth n q.toNat) x).toNat) < 0) : (pdR n cl q).take x ++ [place ps (nth cl (nth (nth n q.toNat) x).toNat)] = (pdR n cl q).take (x + 1) := by
  rw [take_nth (by rw [pdR_len]; exact hx), pdR_mem hx, pr_place h (has_iff.1 (place_ge hh))]
theorem place_new {v : Int} (h : place ps v < 0) : place (ps ++ [v]) v = (ps.length : Int) := by
  unfold place
  refine firstN_at ps.length (by simp) (by rw [nthA2 (by omega)]; simp [nth]) fun j hj => ?_
  rw [nthA1 hj, beq_eq_false_iff_ne]
  intro e
  have := place_lt h
  rw [has_iff.2 (by rw [← e]; exact nth_mem hj)] at this; cases this
theorem prr_no {q : Int} (hx : x < (nth n q.toNat).length) (h : pdN n cl = bfsG (cT n cl) f k (addG ps ((cT n cl q).drop x))) (hh : place ps (nth cl (nth (nth n q.toNat) x).toNat) < 0) : (pdR n cl q).take x ++ [(ps.length : Int)] = (pdR n cl q).take (x + 1) := by
  rw [take_nth (by rw [pdR_len]; exact hx), pdR_mem hx, pr_place (pr_no hx h hh) (by simp), place_new hh]
theorem pdN_nth (h : pdN n cl = bfsG (cT n cl) f k os) (hk : k < os.length) : k < (pdN n cl).length ∧ nth (pdN n cl) k = nth os k := by
  obtain ⟨t, ht⟩ := bfsG_ext (next := cT n cl) f k os
  rw [h, ht]; exact ⟨by rw [List.length_append]; omega, nthA1 hk⟩
theorem press_take (h : pdN n cl = bfsG (cT n cl) f k os) (hk : k < os.length) : (pressN n cl).take k ++ [pdR n cl (nth os k)] = (pressN n cl).take (k + 1) := by
  obtain ⟨h1, h2⟩ := pdN_nth h hk
  rw [← h2]; exact map_take_snoc (g := pdR n cl) h1
theorem pr_end (h : pdN n cl = bfsG (cT n cl) f k os) (hk : os.length ≤ k) : pdN n cl = os := by rw [h, bfsG_end hk]
theorem pressN_len : (pressN n cl).length = (pdN n cl).length := by unfold pressN; rw [List.length_map]
theorem press_len (h : pdN n cl = bfsG (cT n cl) f k os) (hk : k ≤ os.length) : k ≤ (pressN n cl).length := by
  obtain ⟨t, ht⟩ := bfsG_ext (next := cT n cl) f k os
  rw [pressN_len, h, ht, List.length_append]; omega
/-- singles as rows -/
def oneR (os : List Int) : List (List Int) := os.map fun x => [x]
theorem oneR_len : (oneR os).length = os.length := by simp [oneR]
theorem oneR_snoc {x : Int} : oneR os ++ [[x]] = oneR (os ++ [x]) := by simp [oneR]
theorem oneR_w {k : Nat} (h : k < os.length) : (nth (oneR os) k).length = 1 := by unfold oneR; rw [nth_map h]; rfl
theorem colR_one : colR (oneR os) 0 = os := by
  unfold colR oneR; rw [List.map_map]
  conv => rhs; rw [← List.map_id os]
  rfl
theorem press_pairs {qs : List (List Int × List Int)} (h : pdN n cl = os) : pairsM qs (oneR os) 0 = pressP n qs cl := by unfold pairsM pressP; rw [colR_one, h]
end
/-- classes are states -/
theorem a26_in {n : List (List Int)} {ps : List (List Int × List Int)} {q : Int} (h : 0 ≤ q ∧ q < (n.length : Int)) : 0 ≤ nth (alike26 n ps) q.toNat ∧ nth (alike26 n ps) q.toNat < (n.length : Int) := by
  have := (a26_spec n ps).1.2 q.toNat (by omega); omega
theorem a26_zero {n : List (List Int)} {ps : List (List Int × List Int)} (h : 1 ≤ n.length) : nth (alike26 n ps) 0 = 0 := by
  have := (a26_spec n ps).1.2 0 (by omega); omega
noncomputable def pressB (i o : Int) (n : List (List Int)) (ps : List (List Int × List Int)) : List (List Int) × List (List Int × List Int) := if detB i o n ps = true then (pressN n (alike26 n ps), pressP n ps (alike26 n ps)) else ([], [])
theorem pressB_y {i o : Int} {n : List (List Int)} {ps : List (List Int × List Int)} (h : detB i o n ps = true) : pressB i o n ps = (pressN n (alike26 n ps), pressP n ps (alike26 n ps)) := by unfold pressB; rw [if_pos h]
theorem pressB_n {i o : Int} {n : List (List Int)} {ps : List (List Int × List Int)} (h : detB i o n ps = false) : pressB i o n ps = ([], []) := by unfold pressB; rw [if_neg (by rw [h]; simp)]
theorem det_go {i o : Int} {n : List (List Int)} {ps : List (List Int × List Int)} (h : detB i o n ps = true) : GoOk n ((lettersB i o).toNat : Int) ∧ 1 ≤ n.length ∧ n.length ≤ 48 ∧ ps.length ≤ 4 ∧ (lettersB i o).toNat ≤ 16 := by
  obtain ⟨a1, ⟨a2, a3⟩, a4, a5⟩ := detB_iff.1 h
  have hL := lettersB_range i o
  exact ⟨by rw [letters_nat]; exact a5, a2, a3, pairs4 h, by omega⟩
theorem cT_in {n : List (List Int)} {ps : List (List Int × List Int)} {W : Nat} (hg : GoOk n (W : Int)) (q : Int) (hq : 0 ≤ q ∧ q < (n.length : Int)) (y : Int) (hy : y ∈ cT n (alike26 n ps) q) : 0 ≤ y ∧ y < (n.length : Int) := by
  unfold cT at hy
  obtain ⟨z, hz, rfl⟩ := List.mem_map.1 hy
  obtain ⟨j, hj, rfl⟩ := mem_nth hz
  have h1 := hg.row hq.1 hq.2
  have h2 := hg.step (x := (j : Int)) hq (by unfold rowN at hj; omega)
  rw [Int.toNat_natCast] at h2
  exact a26_in h2
theorem pdN_ok {n : List (List Int)} {ps : List (List Int × List Int)} {W : Nat} (hg : GoOk n (W : Int)) (h1 : 1 ≤ n.length) : (pdN n (alike26 n ps)).Nodup ∧ (∀ q ∈ pdN n (alike26 n ps), 0 ≤ q ∧ q < (n.length : Int)) := by
  have h0 : ∀ x ∈ [nth (alike26 n ps) 0], 0 ≤ x ∧ x < (n.length : Int) := fun x hx => by
    simp only [List.mem_singleton] at hx; subst hx; rw [a26_zero h1]; omega
  exact ⟨bfsG_nodup _ _ _ (by simp), bfsG_ind (P := fun q => 0 ≤ q ∧ q < (n.length : Int)) (fun q hq y hy => cT_in hg q hq y hy) _ _ _ h0⟩
theorem pdN_len {n : List (List Int)} {ps : List (List Int × List Int)} {W : Nat} (hg : GoOk n (W : Int)) (h1 : 1 ≤ n.length) : (pdN n (alike26 n ps)).length ≤ n.length := by
  have h := pdN_ok (ps := ps) hg h1
  exact FdOk.len (N := n.length) ⟨h.1, h.2⟩
theorem FdOk.one26 {n : List (List Int)} {ps : List (List Int × List Int)} (h : 1 ≤ n.length) : FdOk n.length [nth (alike26 n ps) 0] := by rw [a26_zero h]; exact FdOk.one h
theorem pressB_cnt {i o : Int} {n : List (List Int)} {ps : List (List Int × List Int)} : cntR (pressB i o n ps).1 ≤ 1000 ∧ cntPs (pressB i o n ps).2 ≤ 1000 := by
  unfold pressB
  split
  · rename_i h
    obtain ⟨hg, g1, g2, g3, g4⟩ := det_go h
    have hl := pdN_len (ps := ps) hg g1
    have hok := pdN_ok (ps := ps) hg g1
    constructor
    · refine Nat.le_trans (cntG_bound (m := 16) fun x hx => ?_) (by simp only [pressN_len]; omega)
      obtain ⟨q, hq, rfl⟩ := List.mem_map.1 hx
      have := hok.2 q hq
      have h5 := hg.row this.1 this.2
      rw [pdR_len]; omega
    · refine Nat.le_trans (cntG_bound (m := 96) fun x hx => ?_) (by simp only [pressP, pairsP_len]; omega)
      obtain ⟨p0, _, rfl⟩ := List.mem_map.1 hx
      have q1 := inPart_len2 (s := p0.1) (xs := pdN n (alike26 n ps))
      have q2 := inPart_len2 (s := p0.2) (xs := pdN n (alike26 n ps))
      unfold cntP pairP; simp only; omega
  · simp [cntR, cntPs, cntG]
end Go.Proofs.Ytabfpoflhacknaa

