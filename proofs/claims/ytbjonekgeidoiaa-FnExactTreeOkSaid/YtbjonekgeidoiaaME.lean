/- Sets as ascending lists; the states that are met again and again. No program in sight; no conditions. -/
import Derived.Test.YtbjonekgeidoiaaMS
import Derived.Lib.SlicesCompact
set_option linter.unusedSimpArgs false
set_option linter.unusedVariables false
namespace Go.Proofs.Ytbjonekgeidoiaa
open Go.RowKit
open Shp

/-- ascending -/
def Asc (xs : List Int) : Prop := xs.Pairwise (· < ·)
theorem asc_eq : ∀ {xs ys : List Int}, Asc xs → Asc ys → (∀ v, v ∈ xs ↔ v ∈ ys) → xs = ys
  | [], [], _, _, _ => rfl
  | [], y :: ys, _, _, h => by have := (h y).2 (by simp); simp at this
  | x :: xs, [], _, _, h => by have := (h x).1 (by simp); simp at this
  | x :: xs, y :: ys, hx, hy, h => by
    have hx' := List.pairwise_cons.1 hx
    have hy' := List.pairwise_cons.1 hy
    have e : x = y := by
      have h1 := (h x).1 (by simp)
      have h2 := (h y).2 (by simp)
      rcases List.mem_cons.1 h1 with h1 | h1
      · exact h1
      · rcases List.mem_cons.1 h2 with h2 | h2
        · exact h2.symm
        · have a := hy'.1 x h1; have b := hx'.1 y h2; omega
    subst e
    rw [asc_eq hx'.2 hy'.2 fun v => ?_]
    have h3 := h v
    simp only [List.mem_cons] at h3
    constructor
    · intro hv
      rcases h3.1 (.inr hv) with h4 | h4
      · have := hx'.1 v hv; omega
      · exact h4
    · intro hv
      rcases h3.2 (.inr hv) with h4 | h4
      · have := hy'.1 v hv; omega
      · exact h4
/-- one more -/
def insZ (x : Int) : List Int → List Int
  | [] => [x]
  | y :: ys => if y < x then y :: insZ x ys else if y = x then y :: ys else x :: y :: ys
theorem insZ_mem {x : Int} : ∀ {ys : List Int} {v : Int}, v ∈ insZ x ys ↔ v = x ∨ v ∈ ys
  | [], v => by simp [insZ]
  | y :: ys, v => by
    unfold insZ
    split
    · rw [List.mem_cons, insZ_mem, List.mem_cons]
      constructor
      · rintro (h | h | h)
        · exact .inr (.inl h)
        · exact .inl h
        · exact .inr (.inr h)
      · rintro (h | h | h)
        · exact .inr (.inl h)
        · exact .inl h
        · exact .inr (.inr h)
    · split
      · rename_i h; subst h
        simp only [List.mem_cons]
        constructor
        · exact fun h => .inr h
        · rintro (h | h)
          · exact .inl h
          · exact h
      · simp only [List.mem_cons]
theorem insZ_asc {x : Int} : ∀ {ys : List Int}, Asc ys → Asc (insZ x ys)
  | [], _ => by simp [insZ, Asc]
  | y :: ys, h => by
    have h' := List.pairwise_cons.1 h
    unfold insZ
    split
    · rename_i hlt
      refine List.pairwise_cons.2 ⟨fun v hv => ?_, insZ_asc h'.2⟩
      rcases insZ_mem.1 hv with rfl | hv
      · exact hlt
      · exact h'.1 v hv
    · split
      · exact h
      · rename_i h1 h2
        refine List.pairwise_cons.2 ⟨fun v hv => ?_, h⟩
        rcases List.mem_cons.1 hv with rfl | hv
        · omega
        · have := h'.1 v hv; omega
theorem insZ_at {x : Int} : ∀ {ys : List Int} (k : Nat), k ≤ ys.length → (∀ z, z < k → nth ys z < x) → (k < ys.length → x < nth ys k) → insZ x ys = ys.take k ++ [x] ++ ys.drop k
  | [], k, hk, _, _ => by
    have : k = 0 := by simpa using hk
    subst this; rfl
  | y :: ys, 0, _, _, h => by
    have h' : x < y := h (by simp)
    unfold insZ
    rw [if_neg (by omega), if_neg (by omega)]; rfl
  | y :: ys, k + 1, hk, hb, h => by
    have h0 : y < x := hb 0 (by omega)
    unfold insZ
    rw [if_pos h0, insZ_at (ys := ys) k (by simpa using hk) (fun z hz => hb (z + 1) (by omega)) (fun hlt => h (by simpa using hlt))]
    rfl
theorem insZ_same {x : Int} : ∀ {ys : List Int} (k : Nat), k < ys.length → (∀ z, z < k → nth ys z < x) → nth ys k = x → insZ x ys = ys
  | [], k, hk, _, _ => by simp at hk
  | y :: ys, 0, _, _, h => by
    have h' : y = x := h
    unfold insZ
    rw [if_neg (by omega), if_pos h']
  | y :: ys, k + 1, hk, hb, h => by
    have h0 : y < x := hb 0 (by omega)
    unfold insZ
    rw [if_pos h0, insZ_same (ys := ys) k (by simpa using hk) (fun z hz => hb (z + 1) (by omega)) h]
/-- many more, one after the other -/
def insL (xs : List Int) : List Int → List Int
  | [] => xs
  | y :: ys => insL (insZ y xs) ys
theorem insL_mem : ∀ {ys xs : List Int} {v : Int}, v ∈ insL xs ys ↔ v ∈ xs ∨ v ∈ ys
  | [], xs, v => by simp [insL]
  | y :: ys, xs, v => by
    simp only [insL]
    rw [insL_mem, insZ_mem, List.mem_cons]
    constructor
    · rintro ((h | h) | h)
      · exact .inr (.inl h)
      · exact .inl h
      · exact .inr (.inr h)
    · rintro (h | h | h)
      · exact .inl (.inr h)
      · exact .inl (.inl h)
      · exact .inr h
theorem insL_asc : ∀ {ys xs : List Int}, Asc xs → Asc (insL xs ys)
  | [], _, h => h
  | _ :: ys, _, h => insL_asc (ys := ys) (insZ_asc h)
theorem insZ_len {x : Int} : ∀ {ys : List Int}, (insZ x ys).length ≤ ys.length + 1
  | [] => by simp [insZ]
  | y :: ys => by
    have := insZ_len (x := x) (ys := ys)
    unfold insZ
    split
    · simp only [List.length_cons]; omega
    · split
      · simp
      · simp
theorem insL_drop {xs ys : List Int} {i : Nat} (h : i < ys.length) : insL xs (ys.drop i) = insL (insZ (nth ys i) xs) (ys.drop (i + 1)) := by rw [drop_nth h]; rfl
theorem insL_end {xs ys : List Int} {i : Nat} (h : ys.length ≤ i) : insL xs (ys.drop i) = xs := by rw [List.drop_eq_nil_of_le h]; rfl
theorem asc_rises {n : Int} : ∀ {xs : List Int}, Asc xs → (∀ v ∈ xs, 0 ≤ v ∧ v < n) → rises xs n = true := fun {xs} h hv => by
  unfold rises
  rw [allN_iff]
  intro j hj
  have h1 := hv _ (nth_mem hj)
  simp only [Bool.and_eq_true, Bool.or_eq_true, decide_eq_true_eq]
  refine ⟨⟨h1.1, h1.2⟩, ?_⟩
  rcases Nat.eq_zero_or_pos j with h2 | h2
  · exact .inl h2
  · right
    rw [nth_eq hj, nth_eq (show j - 1 < xs.length by omega)]
    exact List.pairwise_iff_getElem.1 h (j - 1) j (by omega) hj (by omega)
theorem rises_asc {n : Int} {xs : List Int} (h : rises xs n = true) : Asc xs := by
  unfold rises at h
  rw [allN_iff] at h
  have key : ∀ i d, i + d + 1 < xs.length → nth xs i < nth xs (i + d + 1) := by
    intro i d
    induction d with
    | zero =>
      intro hd
      have := h (i + 1) hd
      simp only [Bool.and_eq_true, Bool.or_eq_true, decide_eq_true_eq] at this
      rcases this.2 with q | q
      · omega
      · exact q
    | succ d ih =>
      intro hd
      have h1 := ih (by omega)
      have h2 := h (i + (d + 1) + 1) hd
      simp only [Bool.and_eq_true, Bool.or_eq_true, decide_eq_true_eq] at h2
      rcases h2.2 with q | q
      · omega
      · rw [show i + (d + 1) + 1 - 1 = i + d + 1 by omega] at q; omega
  refine List.pairwise_iff_getElem.2 fun i j hi hj hij => ?_
  rw [← nth_eq hi, ← nth_eq hj, show j = i + (j - i - 1) + 1 by omega]
  exact key i (j - i - 1) (by omega)
theorem asc_len {N : Nat} {xs : List Int} (h : Asc xs) (hv : ∀ v ∈ xs, 0 ≤ v ∧ v < (N : Int)) : xs.length ≤ N :=
  nodup_len N xs (List.Pairwise.imp (fun h => by omega) h) hv
/-! ### Sorted and without repetitions -/
def sortZ (xs : List Int) : List Int := xs.mergeSort fun x y => decide (x ≤ y)
theorem sortZ_len {xs : List Int} : (sortZ xs).length = xs.length := List.length_mergeSort xs
theorem sortZ_mem {xs : List Int} {v : Int} : v ∈ sortZ xs ↔ v ∈ xs := List.mem_mergeSort
theorem sortZ_le {xs : List Int} : (sortZ xs).Pairwise (· ≤ ·) := by
  have := List.pairwise_mergeSort (le := fun x y : Int => decide (x ≤ y)) (fun a b c h1 h2 => by simp at *; omega) (fun a b => by simp; omega) xs
  exact List.Pairwise.imp (fun h => by simpa using h) this
/-! ### States met again and again -/
section
variable {n : List (List Int)} {W : Int} {l : List Int}
end
section
variable {n : List (List Int)} {W : Int} {s l : List Int}
end
theorem setN_asc {xs : List Int} (h : Asc xs) (hv : ∀ v ∈ xs, 0 ≤ v ∧ v < 48) : setN xs 256 = true ∧ xs.length ≤ 256 := by
  have hl := asc_len (N := 48) h (fun v hm => by have := hv v hm; omega)
  refine ⟨?_, by omega⟩
  rw [setN_rises (by omega) (by omega)]
  exact asc_rises h fun v hm => by have := hv v hm; omega
end Go.Proofs.Ytbjonekgeidoiaa

