/- The contest's arena of an automaton. No program in sight; no conditions. -/
import Derived.Test.YtjjidamlmebaaaaGreatJN
import Derived.Test.YtjjidamlmebaaaaGreatME
namespace Go.Proofs.YtjjidamlmebaaaaGreat
open Go.RowKit
open Shp
variable {a b n n2 : List (List Int)} {W : Nat} {os : List (Int × Int)} {xs : List Int} {ps ps2 : List (List Int × List Int)} {o k : Int} {cs : List (Int × List Int × List Int)}
theorem pairsB_iff  {n : Int} : ZbR ps n = true ↔ ps.length ≤ 4 ∧ ∀ p ∈ ps, Zbc p.1 n = true ∧ Zbc p.2 n = true := by
 unfold ZbR
 rw [Bool.and_eq_true, decide_eq_true_eq, allN_iff]
 refine and_congr_right fun _ => ⟨fun h p hp => ?_, fun h k hk => ?_⟩
 ·obtain ⟨k, hk, rfl⟩ := Zke hp
  have := h k hk
  unfold ZdQ at this; rwa [Bool.and_eq_true] at this
 ·unfold ZdQ; rw [Bool.and_eq_true]; exact h _ (ZaE hk)
theorem detB_iff {i : Int}   : detB i o n ps = true ↔ sigB i o = true ∧ (1 ≤ n.length ∧ n.length ≤ 48) ∧ ZbR ps n.length = true ∧ GoOk n (Zbv i o) := by
 unfold detB GoOk
 simp only [Bool.and_eq_true, decide_eq_true_eq, allN_iff, ZgL]
 constructor
 ·rintro ⟨⟨⟨⟨h1, h2⟩, h3⟩, h4⟩, h5⟩; exact ⟨h1, ⟨h2, h3⟩, h4, h5⟩
 ·rintro ⟨h1, ⟨h2, h3⟩, h4, h5⟩; exact ⟨⟨⟨⟨h1, h2⟩, h3⟩, h4⟩, h5⟩
theorem ZrV {i : Int}   (h : detB i o n ps = true) : ps.length ≤ 4 := (pairsB_iff.1 (detB_iff.1 h).2.2.1).1
end Go.Proofs.YtjjidamlmebaaaaGreat

namespace Go.Proofs.YtjjidamlmebaaaaGreat
open Go.RowKit
open Shp
variable {xs ys : List Int}
section
variable {ps : List (List Int × List Int)} {met : List Int} {k : Nat}
end
theorem Zjy  {n m : Int} (h : Zbc xs n = true) (hm : n ≤ m) : Zbc xs m = true := by
 unfold Zbc at *
 rw [allN_iff] at h ⊢
 intro j hj
 have := h j hj
 simp only [Bool.and_eq_true, Bool.or_eq_true, decide_eq_true_eq] at this ⊢
 exact ⟨⟨this.1.1, by omega⟩, this.2⟩
theorem ZrL {i o : Int} {n : List (List Int)} {ps : List (List Int × List Int)} (h : detB i o n ps = true) : ZbR ps 256 = true := by
 obtain ⟨_, ⟨_, h1⟩, h2, _⟩ := detB_iff.1 h
 obtain ⟨h3, h4⟩ := pairsB_iff.1 h2
 exact pairsB_iff.2 ⟨h3, fun p hp => ⟨Zjy (h4 p hp).1 (by omega), Zjy (h4 p hp).2 (by omega)⟩⟩
theorem Zjn  {n : Int} (h : Zbc xs n = true) (h0 : n ≤ 600) : xs.length ≤ 600 := by
 have hb := below_iff.1 (Zmb h)
 exact Zsq (N := 600) (Zdt h) fun v hv => by
  obtain ⟨k, hk, rfl⟩ := Zke hv
  have := hb k hk; omega
theorem Zlh {i o : Int} {n : List (List Int)} {ps : List (List Int × List Int)} (h : detB i o n ps = true) : ∀ k, k < ps.length → (Asc (nth ps k).1 ∧ (nth ps k).1.length ≤ 600) ∧ Asc (nth ps k).2 ∧ (nth ps k).2.length ≤ 600 := fun k hk => by
 have := (pairsB_iff.1 (ZrL h)).2 _ (ZaE hk)
 exact ⟨⟨Zdt this.1, Zjn this.1 (by omega)⟩, Zdt this.2, Zjn this.2 (by omega)⟩
section
variable {i o : Int} {n : List (List Int)} {ps : List (List Int × List Int)} {s l : List Int}
end
end Go.Proofs.YtjjidamlmebaaaaGreat

namespace Go.Proofs.YtjjidamlmebaaaaGreat
open Go.RowKit
open Shp
variable {N I q k O m a b : Nat} {n : List (List Int)} {xs : List Int} {o w : Int} {ps : List (List Int × List Int)}
def rowA (N I : Nat) (q : Nat) : List Int := (List.range I).map fun (k : Nat) => (N : Int) + (q : Int) * (I : Int) + (k : Int)
theorem Zbu : (rowA N I q).length = I := by simp [rowA]
theorem ZoA  (h : k < I) : (rowA N I q).take k ++ [(N : Int) + (q : Int) * (I : Int) + (k : Int)] = (rowA N I q).take (k + 1) := by
 rw [ZaF (by rw [Zbu]; exact h), Zaz (by rw [Zbu]; exact h)]; simp [rowA]
def outL (row : List Int) (I O : Nat) (k : Nat) : List Int := (List.range O).map fun (m : Nat) => nth row (m * I + k)
theorem ZcZ {row : List Int}  : (outL row I O k).length = O := by simp [outL]
theorem ZmC {row : List Int}  (h : m < O) : nth (outL row I O k) m = nth row (m * I + k) := by
 rw [Zaz (by rw [ZcZ]; exact h)]; simp [outL]
theorem Zon {row : List Int}  (h : m < O) : (outL row I O k).take m ++ [nth row (m * I + k)] = (outL row I O k).take (m + 1) := by
 rw [ZaF (by rw [ZcZ]; exact h), ZmC h]
def rowB (n : List (List Int)) (I O t : Nat) : List Int := setZ (outL (nth n (t / I)) I O (t % I))
def ZaL (N I q : Nat) : List (List Int) := (List.range q).map (rowA N I)
def ZaY (n : List (List Int)) (I O j : Nat) : List (List Int) := (List.range j).map (rowB n I O)
theorem ZaW : (ZaL N I q).length = q := by simp [ZaL]
theorem Zbf  {j : Nat} : (ZaY n I O j).length = j := by simp [ZaY]
theorem Zju : ZaL N I q ++ [rowA N I q] = ZaL N I (q + 1) := by simp [ZaL, List.range_succ]
theorem ZgA  (hk : k < I) : ZaY n I O (q * I + k) ++ [setZ (outL (nth n q) I O k)] = ZaY n I O (q * I + (k + 1)) := by
 have e1 : (q * I + k) / I = q := by rw [Nat.mul_comm, Nat.mul_add_div (by omega), Nat.div_eq_of_lt hk]; rfl
 have e2 : (q * I + k) % I = k := by rw [Nat.mul_comm, Nat.mul_add_mod, Nat.mod_eq_of_lt hk]
 rw [← Nat.add_assoc]
 simp only [ZaY, List.range_succ, List.map_append, List.map_cons, List.map_nil, rowB, e1, e2]
theorem Znl : insL [] xs = setZ xs :=
 (ZsK (ZmS (by simp [Asc])) fun v => by rw [Znb]; simp).symm
theorem Zqa : (setZ xs).length ≤ xs.length := Nat.le_trans ZhH (by rw [sortZ_len]; exact Nat.le_refl _)
def ones (a b : Nat) : List Int := List.replicate a 1 ++ List.replicate b 0
theorem Zbj : (ones a b).length = a + b := by simp [ones]
theorem Zvt : ones a 0 ++ [(1 : Int)] = ones (a + 1) 0 := by simp [ones, List.replicate_succ']
theorem Zxt : ones a b ++ [(0 : Int)] = ones a (b + 1) := by simp [ones, List.replicate_succ']
def ZlX (i o : Int) (n : List (List Int)) (ps : List (List Int × List Int)) : (List Int × List (List Int)) × List (List Int × List Int) × Bool :=
 if detB i o n ps = true then ((ones n.length (n.length * (pw i).toNat), ZaL n.length (pw i).toNat n.length ++ ZaY n (pw i).toNat (pw o).toNat (n.length * (pw i).toNat)), ps, true) else (([], []), [], false)
theorem Zop {i : Int}   (h : detB i o n ps = true) : ZlX i o n ps = ((ones n.length (n.length * (pw i).toNat), ZaL n.length (pw i).toNat n.length ++ ZaY n (pw i).toNat (pw o).toNat (n.length * (pw i).toNat)), ps, true) := if_pos h
theorem Zl8 {i : Int}   (h : detB i o n ps = false) : ZlX i o n ps = (([], []), [], false) := if_neg (by rw [h]; simp)
theorem Zps {i : Int}   (h : sigB i o = false) : ZlX i o n ps = (([], []), [], false) := Zl8 (by unfold detB; rw [h]; rfl)
theorem Zl1  (h : (I : Int) = w) : ((m : Int) * w + (k : Int)).toNat = m * I + k := by
 subst h
 have : ((m : Int) * (I : Int) + (k : Int)) = ((m * I + k : Nat) : Int) := by rw [Int.natCast_add, Int.natCast_mul]
 rw [this, Int.toNat_natCast]
theorem ZnR  (hw : (I : Int) = w) (h : k < I) : ((rowA N I q).take k).take k ++ [(N : Int) + (q : Int) * w + (k : Int)] = (rowA N I q).take (k + 1) := by
 subst hw
 rw [List.take_take, Nat.min_self]; exact ZoA h
theorem ZnW {row : List Int}   (hw : (I : Int) = w) (h : m < O) : ((outL row I O k).take m).take m ++ [nth row ((m : Int) * w + (k : Int)).toNat] = (outL row I O k).take (m + 1) := by
 rw [List.take_take, Nat.min_self, Zl1 hw]; exact Zon h
theorem ZkN  {X : List (List Int)} {ys : List Int} (hk : k < I) (hm : O ≤ m) :
  X ++ ZaY n I O (q * I + k) ++ [((cmpZ (Zev ((outL (nth n q) I O k).take m))) ++ ys).take (cmpZ (Zev ((outL (nth n q) I O k).take m))).length] = X ++ ZaY n I O (q * I + (k + 1)) := by
 rw [List.take_of_length_le (l := outL (nth n q) I O k) (by rw [ZcZ]; omega), List.take_left, List.append_assoc, ← ZgA hk]; rfl
theorem Zm6 {a b c d : Nat} (h : a ≤ b) (h2 : c ≤ d) : a * c ≤ b * d := Nat.mul_le_mul h h2
theorem Znq  (h : k < ps.length) : ps.take k ++ [((nth ps k).1, (nth ps k).2)] = ps.take (k + 1) := by rw [ZaF h]
end Go.Proofs.YtjjidamlmebaaaaGreat

