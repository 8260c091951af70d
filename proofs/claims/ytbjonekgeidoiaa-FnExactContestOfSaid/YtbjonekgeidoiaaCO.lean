/- The contest's arena of an automaton. No program in sight; no conditions. -/
import Derived.Test.YtbjonekgeidoiaaPB
set_option linter.unusedSimpArgs false
set_option linter.unusedVariables false
namespace Go.Proofs.Ytbjonekgeidoiaa
open Go.RowKit
open Shp
def rowA (N I : Nat) (q : Nat) : List Int := (List.range I).map fun (k : Nat) => (N : Int) + (q : Int) * (I : Int) + (k : Int)
theorem rowA_len {N I q : Nat} : (rowA N I q).length = I := by simp [rowA]
theorem rowA_take {N I q k : Nat} (h : k < I) : (rowA N I q).take k ++ [(N : Int) + (q : Int) * (I : Int) + (k : Int)] = (rowA N I q).take (k + 1) := by
  rw [take_nth (by rw [rowA_len]; exact h), nth_eq (by rw [rowA_len]; exact h)]; simp [rowA]
def outL (row : List Int) (I O : Nat) (k : Nat) : List Int := (List.range O).map fun (m : Nat) => nth row (m * I + k)
theorem outL_len {row : List Int} {I O k : Nat} : (outL row I O k).length = O := by simp [outL]
theorem outL_nth {row : List Int} {I O k m : Nat} (h : m < O) : nth (outL row I O k) m = nth row (m * I + k) := by
  rw [nth_eq (by rw [outL_len]; exact h)]; simp [outL]
theorem outL_take {row : List Int} {I O k m : Nat} (h : m < O) : (outL row I O k).take m ++ [nth row (m * I + k)] = (outL row I O k).take (m + 1) := by
  rw [take_nth (by rw [outL_len]; exact h), outL_nth h]
def rowB (n : List (List Int)) (I O t : Nat) : List Int := setZ (outL (nth n (t / I)) I O (t % I))
def rowsA (N I q : Nat) : List (List Int) := (List.range q).map (rowA N I)
def rowsB (n : List (List Int)) (I O j : Nat) : List (List Int) := (List.range j).map (rowB n I O)
theorem rowsA_len {N I q : Nat} : (rowsA N I q).length = q := by simp [rowsA]
theorem rowsB_len {n : List (List Int)} {I O j : Nat} : (rowsB n I O j).length = j := by simp [rowsB]
theorem rowsA_succ {N I q : Nat} : rowsA N I q ++ [rowA N I q] = rowsA N I (q + 1) := by simp [rowsA, List.range_succ]
theorem rowsB_succ {n : List (List Int)} {I O q k : Nat} (hk : k < I) : rowsB n I O (q * I + k) ++ [setZ (outL (nth n q) I O k)] = rowsB n I O (q * I + (k + 1)) := by
  have e1 : (q * I + k) / I = q := by rw [Nat.mul_comm, Nat.mul_add_div (by omega), Nat.div_eq_of_lt hk]; rfl
  have e2 : (q * I + k) % I = k := by rw [Nat.mul_comm, Nat.mul_add_mod, Nat.mod_eq_of_lt hk]
  rw [← Nat.add_assoc]
  simp only [rowsB, List.range_succ, List.map_append, List.map_cons, List.map_nil, rowB, e1, e2]
theorem insL_set {xs : List Int} : insL [] xs = setZ xs :=
  (setZ_eq (insL_asc (by simp [Asc])) fun v => by rw [insL_mem]; simp).symm
theorem setZ_len {xs : List Int} : (setZ xs).length ≤ xs.length := Nat.le_trans cmpZ_len (by rw [sortZ_len]; exact Nat.le_refl _)
def ones (a b : Nat) : List Int := List.replicate a 1 ++ List.replicate b 0
theorem ones_len {a b : Nat} : (ones a b).length = a + b := by simp [ones]
theorem ones_1 {a : Nat} : ones a 0 ++ [(1 : Int)] = ones (a + 1) 0 := by simp [ones, List.replicate_succ']
theorem ones_0 {a b : Nat} : ones a b ++ [(0 : Int)] = ones a (b + 1) := by simp [ones, List.replicate_succ']
def contB (i o : Int) (n : List (List Int)) (ps : List (List Int × List Int)) : (List Int × List (List Int)) × List (List Int × List Int) × Bool :=
  if detB i o n ps = true then ((ones n.length (n.length * (pw i).toNat), rowsA n.length (pw i).toNat n.length ++ rowsB n (pw i).toNat (pw o).toNat (n.length * (pw i).toNat)), ps, true) else (([], []), [], false)
theorem contB_y {i o : Int} {n : List (List Int)} {ps : List (List Int × List Int)} (h : detB i o n ps = true) : contB i o n ps = ((ones n.length (n.length * (pw i).toNat), rowsA n.length (pw i).toNat n.length ++ rowsB n (pw i).toNat (pw o).toNat (n.length * (pw i).toNat)), ps, true) := if_pos h
theorem contB_n {i o : Int} {n : List (List Int)} {ps : List (List Int × List Int)} (h : detB i o n ps = false) : contB i o n ps = (([], []), [], false) := if_neg (by rw [h]; simp)
theorem contB_s {i o : Int} {n : List (List Int)} {ps : List (List Int × List Int)} (h : sigB i o = false) : contB i o n ps = (([], []), [], false) := contB_n (by unfold detB; rw [h]; rfl)
theorem cntPs_pairs {i o : Int} {n : List (List Int)} {ps : List (List Int × List Int)} (h : detB i o n ps = true) : cntPs ps ≤ 1000 := by
  obtain ⟨_, ⟨_, h1⟩, h2, _⟩ := detB_iff.1 h
  obtain ⟨h3, h4⟩ := pairsB_iff.1 h2
  refine Nat.le_trans (cntG_bound (m := 96) fun x hx => ?_) (by omega)
  have key : ∀ {xs : List Int}, rises xs n.length = true → xs.length ≤ 48 := fun {xs} hr => asc_len (N := 48) (rises_asc hr) fun v hv => by
    obtain ⟨k, hk, rfl⟩ := mem_nth hv
    have := below_iff.1 (rises_below hr) k hk; omega
  have a := key (h4 x hx).1
  have b := key (h4 x hx).2
  unfold cntP; omega
theorem contB_cnt {i o : Int} {n : List (List Int)} {ps : List (List Int × List Int)} : (contB i o n ps).1.1.length ≤ 1000 ∧ cntR (contB i o n ps).1.2 ≤ 10000 ∧ cntPs (contB i o n ps).2.1 ≤ 1000 := by
  cases h : detB i o n ps
  · rw [contB_n h]; simp [cntR, cntPs, cntG]
  · rw [contB_y h]
    have hd := detB_r h
    have hp := sig_pw hd.1
    have hI : n.length * (pw i).toNat ≤ 48 * 4 := Nat.mul_le_mul hd.2.2.1 (by omega)
    refine ⟨by simp only [ones_len]; omega, ?_, cntPs_pairs h⟩
    refine Nat.le_trans (cntG_bound (m := 4) fun x hx => ?_) (by rw [List.length_append, rowsA_len, rowsB_len]; omega)
    rcases List.mem_append.1 hx with hx | hx
    · obtain ⟨q, _, rfl⟩ := List.mem_map.1 hx
      rw [rowA_len]; omega
    · obtain ⟨t, _, rfl⟩ := List.mem_map.1 hx
      have := setZ_len (xs := outL (nth n (t / (pw i).toNat)) (pw i).toNat (pw o).toNat (t % (pw i).toNat))
      rw [outL_len] at this
      have e : rowB n (pw i).toNat (pw o).toNat t = setZ (outL (nth n (t / (pw i).toNat)) (pw i).toNat (pw o).toNat (t % (pw i).toNat)) := rfl
      rw [e]; omega
theorem idx_nat {m k I : Nat} {w : Int} (h : (I : Int) = w) : ((m : Int) * w + (k : Int)).toNat = m * I + k := by
  subst h
  have : ((m : Int) * (I : Int) + (k : Int)) = ((m * I + k : Nat) : Int) := by rw [Int.natCast_add, Int.natCast_mul]
  rw [this, Int.toNat_natCast]
theorem rowA_take2 {N I q k : Nat} {w : Int} (hw : (I : Int) = w) (h : k < I) : ((rowA N I q).take k).take k ++ [(N : Int) + (q : Int) * w + (k : Int)] = (rowA N I q).take (k + 1) := by
  subst hw
  rw [List.take_take, Nat.min_self]; exact rowA_take h
theorem outL_take2 {row : List Int} {I O k m : Nat} {w : Int} (hw : (I : Int) = w) (h : m < O) : ((outL row I O k).take m).take m ++ [nth row ((m : Int) * w + (k : Int)).toNat] = (outL row I O k).take (m + 1) := by
  rw [List.take_take, Nat.min_self, idx_nat hw]; exact outL_take h
theorem rowsB_app {n : List (List Int)} {I O q k m : Nat} {X : List (List Int)} {ys : List Int} (hk : k < I) (hm : O ≤ m) :
    X ++ rowsB n I O (q * I + k) ++ [((cmpZ (sortZ ((outL (nth n q) I O k).take m))) ++ ys).take (cmpZ (sortZ ((outL (nth n q) I O k).take m))).length] = X ++ rowsB n I O (q * I + (k + 1)) := by
  rw [List.take_of_length_le (l := outL (nth n q) I O k) (by rw [outL_len]; omega), List.take_left, List.append_assoc, ← rowsB_succ hk]; rfl
theorem mul_le {a b c d : Nat} (h : a ≤ b) (h2 : c ≤ d) : a * c ≤ b * d := Nat.mul_le_mul h h2
theorem pairs_snoc {ps : List (List Int × List Int)} {k : Nat} (h : k < ps.length) : ps.take k ++ [((nth ps k).1, (nth ps k).2)] = ps.take (k + 1) := by rw [take_nth h]
end Go.Proofs.Ytbjonekgeidoiaa

