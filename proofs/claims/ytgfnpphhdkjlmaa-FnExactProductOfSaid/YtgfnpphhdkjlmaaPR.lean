/- Products of clauses, step by step. No program in sight; no conditions. -/
import Derived.Test.YtgfnpphhdkjlmaaPO
set_option linter.unusedSimpArgs false
set_option linter.unusedVariables false
namespace Go.Proofs.Ytgfnpphhdkjlmaa
open Go.RowKit
open Shp
section
variable {i o : Int} {cs : List (Int × List Int × List Int)} {j : Nat} {x : List (List Int) × List (List Int × List Int)}
def prodX (i o : Int) (cs : List (Int × List Int × List Int)) (j : Nat) (x : List (List Int) × List (List Int × List Int)) : (List (List Int) × List (List Int × List Int)) × Bool :=
  joinD i o x.1 x.2 (monN (nth cs j).1 (nth cs j).2.1 (nth cs j).2.2 (lettersB i o).toNat) [monP (nth cs j).1]
theorem monB_y {k : Int} {a b : List Int} (hs : sigB i o = true) (h : clauseB (lettersB i o) k a b = true) : monB i o k a b = (monN k a b (lettersB i o).toNat, [monP k]) := by
  unfold monB; rw [if_pos (by rw [hs, h]; rfl)]
theorem prod_mon (hc : clausesB i o cs = true) (hj : j < cs.length) : detB i o (monN (nth cs j).1 (nth cs j).2.1 (nth cs j).2.2 (lettersB i o).toNat) [monP (nth cs j).1] = true := by
  obtain ⟨h1, _, h3⟩ := clauses_k hc
  exact mon_ok h1 (clauseB_k (h3 j hj))
theorem prodX_eq (hc : clausesB i o cs = true) (hj : j < cs.length) (hx : detB i o x.1 x.2 = true) : prodX i o cs j x = joinO x.1 x.2 (monN (nth cs j).1 (nth cs j).2.1 (nth cs j).2.2 (lettersB i o).toNat) [monP (nth cs j).1] := joinD_yes hx (prod_mon hc hj)
theorem prodX_ok (hc : clausesB i o cs = true) (hj : j < cs.length) (hx : detB i o x.1 x.2 = true) (h : (prodX i o cs j x).2 = true) : detB i o (prodX i o cs j x).1.1 (prodX i o cs j x).1.2 = true := by
  rw [prodX_eq hc hj hx] at h ⊢
  exact joinO_ok hx (prod_mon hc hj) h
theorem prod_yes (hc : clausesB i o cs = true) (hj : j < cs.length) (hx : detB i o x.1 x.2 = true) (h : (prodX i o cs j x).2 = true) {r : (List (List Int) × List (List Int × List Int)) × Bool} (hr : prodN (lettersB i o).toNat (cs.drop j) x.1 x.2 = r) : prodN (lettersB i o).toNat (cs.drop (j + 1)) (prodX i o cs j x).1.1 (prodX i o cs j x).1.2 = r := by
  rw [← hr, prod_step hj, ← prodX_eq hc hj hx, if_pos h]
theorem prod_no (hc : clausesB i o cs = true) (hj : j < cs.length) (hx : detB i o x.1 x.2 = true) (h : (prodX i o cs j x).2 = false) (hr : prodN (lettersB i o).toNat (cs.drop j) x.1 x.2 = prodN (lettersB i o).toNat cs [List.replicate (lettersB i o).toNat 0] []) : prodB i o cs = (([], []), false) := by
  unfold prodB
  rw [if_pos hc, ← hr, prod_step hj, ← prodX_eq hc hj hx, if_neg (by rw [h]; simp)]
theorem prod_end (hc : clausesB i o cs = true) (hj : cs.length ≤ j) (hr : prodN (lettersB i o).toNat (cs.drop j) x.1 x.2 = prodN (lettersB i o).toNat cs [List.replicate (lettersB i o).toNat 0] []) : prodB i o cs = ((x.1, x.2), true) := by
  unfold prodB
  rw [if_pos hc, ← hr, List.drop_eq_nil_of_le hj]; rfl
theorem prodB_n (h : clausesB i o cs = false) : prodB i o cs = (([], []), false) := by unfold prodB; rw [if_neg (by rw [h]; simp)]
theorem prodB_n1 (h : sigB i o = false) : prodB i o cs = (([], []), false) := prodB_n (by unfold clausesB; rw [h]; rfl)
theorem prodB_n2 (h : (decide (cs.length ≤ 3) && allN cs.length (clauseR (lettersB i o) cs)) = false) : prodB i o cs = (([], []), false) := prodB_n (by unfold clausesB; rw [Bool.and_assoc, h]; simp)
theorem clausesB_y (h : sigB i o = true) (h2 : (decide (cs.length ≤ 3) && allN cs.length (clauseR (lettersB i o) cs)) = true) : clausesB i o cs = true := by unfold clausesB; rw [Bool.and_assoc, h, h2]; rfl
theorem clausesB_y2 (h : sigB i o = true) (h2 : cs.length ≤ 3 ∧ allN cs.length (clauseR (lettersB i o) cs) = true) : clausesB i o cs = true := clausesB_y h (by rw [h2.2]; simpa using h2.1)
theorem prodB_n3 (h2 : ¬ cs.length ≤ 3 ∨ allN cs.length (clauseR (lettersB i o) cs) = false) : prodB i o cs = (([], []), false) := prodB_n2 (by rcases h2 with h | h <;> simp [h])
theorem prodN_cnt {L : Nat} : ∀ {cs : List (Int × List Int × List Int)} {n : List (List Int)} {ps : List (List Int × List Int)}, L = (lettersB i o).toNat → detB i o n ps = true → cntR n ≤ 1000 → cntPs ps ≤ 1000 → (∀ c ∈ cs, 1 ≤ c.1 ∧ c.1 ≤ 7) → cntR (prodN L cs n ps).1.1 ≤ 1000 ∧ cntPs (prodN L cs n ps).1.2 ≤ 1000
  | [], n, ps, _, _, h1, h2, _ => ⟨h1, h2⟩
  | c :: cs, n, ps, hL, hd, h1, h2, hk => by
    simp only [prodN]
    subst hL
    have hs := (detB_iff.1 hd).1
    have hm := mon_ok (a := c.2.1) (b := c.2.2) hs (hk c (.head _))
    split
    · rename_i h
      have h3 := joinO_cnt hd hm
      exact prodN_cnt rfl (joinO_ok hd hm h) h3.1 h3.2 fun d hd => hk d (.tail _ hd)
    · simp [cntR, cntPs, cntG]
theorem prodB_cnt : cntR (prodB i o cs).1.1 ≤ 1000 ∧ cntPs (prodB i o cs).1.2 ≤ 1000 := by
  cases h : clausesB i o cs
  · rw [prodB_n h]; simp [cntR, cntPs, cntG]
  · obtain ⟨h1, h2, h3⟩ := clauses_k h
    have hL := lettersB_range i o
    unfold prodB; rw [if_pos h]
    refine prodN_cnt (i := i) (o := o) rfl (zero_ok h1) ?_ (by simp [cntPs, cntG]) fun c hc => ?_
    · simp only [cntR, cntG, List.length_replicate]; omega
    · obtain ⟨k, hk, rfl⟩ := mem_nth hc
      exact clauseB_k (h3 k hk)
end
end Go.Proofs.Ytgfnpphhdkjlmaa

