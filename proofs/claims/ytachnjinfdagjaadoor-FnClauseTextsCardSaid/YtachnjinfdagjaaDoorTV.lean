/- Clauses and their texts: reading is the inverse of writing; both readers agree. No program in sight; no conditions. -/
import Derived.Test.YtachnjinfdagjaaDoorTZ
set_option linter.unusedSimpArgs false
set_option linter.unusedVariables false
namespace Go.Proofs.YtachnjinfdagjaaDoor
open Go.RowKit
open Shp
theorem join_no {c d : UInt8} (hcd : c ≠ d) : ∀ {ws : List (List UInt8)}, (∀ w ∈ ws, c ∉ w) → c ∉ joinL d ws
  | [], _ => by simp [joinL]
  | [x], h => h x (by simp)
  | x :: y :: r, h => by
    have ih := join_no hcd (ws := y :: r) fun w hw => h w (List.mem_cons_of_mem _ hw)
    simp only [joinL, List.mem_append, List.mem_cons, not_or]
    exact ⟨h x (by simp), hcd, ih⟩
theorem set_no {xs : List Int} (h : ∀ x ∈ xs, 0 ≤ x ∧ x < 100) {c : UInt8} (hc : c.toNat < 44) : c ∉ (setT xs).data.toList := by
  unfold setT
  split
  · intro e
    simp only [List.mem_singleton] at e
    subst e
    exact absurd hc (by decide)
  · have e := joinW_list 44 (xs.map decT)
    rw [List.length_map] at e
    rw [e]
    refine join_no (fun e => by subst e; exact absurd hc (by decide)) fun w hw => ?_
    obtain ⟨x, hx, rfl⟩ := List.mem_map.1 hw
    obtain ⟨y, hy, rfl⟩ := List.mem_map.1 hx
    exact dec_no (h y hy) (by omega)
theorem names_no {i : Nat} (h : i < 7) : (32 : UInt8) ∉ (nth clNames i).data.toList := by
  match i, h with
  | 0, _ | 1, _ | 2, _ | 3, _ | 4, _ | 5, _ | 6, _ => decide
theorem kind_name {i : Nat} (h : i < 7) : kindW (nth clNames i) 7 = (i : Int) + 1 := by
  match i, h with
  | 0, _ | 1, _ | 2, _ | 3, _ | 4, _ | 5, _ | 6, _ => decide +kernel
theorem name_kind (w : ByteArray) : ∀ i, kindW w i ≠ 0 → w = nth clNames (kindW w i - 1).toNat
  | 0, h => absurd rfl h
  | i + 1, h => by
    by_cases e : w = nth clNames i
    · rw [kindW_yes e] at h ⊢
      rw [show ((i : Int) + 1 - 1).toNat = i by omega]; exact e
    · rw [kindW_no e] at h ⊢
      exact name_kind w i h
theorem two_words {x y : ByteArray} (h1 : (32 : UInt8) ∉ x.data.toList) (h2 : (32 : UInt8) ∉ y.data.toList) : splitW 32 (x ++ ⟨#[32]⟩ ++ y) = [x, y] := by
  unfold splitW
  rw [show (x ++ ⟨#[32]⟩ ++ y).data.toList = x.data.toList ++ 32 :: y.data.toList by rw [app_list, app_list]; simp, splitL_app h1, splitL_no h2]
  simp [mkB_data]
theorem three_words {x y z : ByteArray} (h1 : (32 : UInt8) ∉ x.data.toList) (h2 : (32 : UInt8) ∉ y.data.toList) (h3 : (32 : UInt8) ∉ z.data.toList) : splitW 32 (x ++ ⟨#[32]⟩ ++ y ++ (⟨#[32]⟩ ++ z)) = [x, y, z] := by
  unfold splitW
  rw [show (x ++ ⟨#[32]⟩ ++ y ++ (⟨#[32]⟩ ++ z)).data.toList = x.data.toList ++ 32 :: (y.data.toList ++ 32 :: z.data.toList) by simp only [app_list]; simp, splitL_app h1, splitL_app h2, splitL_no h3]
  simp [mkB_data]
theorem cl_parts {k : Int} {a b : List Int} (h : clauseB 16 k a b = true) : 1 ≤ k ∧ k ≤ 7 ∧ rises a 16 = true ∧ rises b 16 = true ∧ (secondB k = true ∨ b = []) := by
  unfold clauseB at h
  simp only [Bool.and_eq_true, Bool.or_eq_true, decide_eq_true_eq] at h
  exact ⟨h.1.1.1.1, h.1.1.1.2, h.1.1.2, h.1.2, h.2⟩
theorem rises_in {xs : List Int} {n : Int} (h : rises xs n = true) : ∀ x ∈ xs, 0 ≤ x ∧ x < n := fun x hx => by
  have h1 := rises_below h
  unfold below at h1
  rw [allN_iff] at h1
  obtain ⟨j, hj, rfl⟩ := List.getElem_of_mem hx
  have h2 := h1 j hj
  rw [nth_eq hj] at h2
  simpa using h2
theorem okI_dec {n : Int} (h : 0 ≤ n ∧ n < 16) : okI (decT n) = true := by
  have e := dec_ok (n := n) (by omega)
  unfold okI
  rw [e.1, e.2, Bool.true_and, decide_eq_true_eq]
  exact h.2
theorem set_readI {xs : List Int} (h : rises xs 16 = true) : rdG okI (setT xs) = (xs, true) :=
  set_read (fun x hx => by have := rises_in h x hx; omega) fun x hx => okI_dec (rises_in h x hx)
theorem read_text {k : Int} {a b : List Int} (h : clauseB 16 k a b = true) : txI (clText k a b) = ((k, a, b), true) := by
  obtain ⟨h1, h2, ha, hb, hk⟩ := cl_parts h
  have sa := set_no (xs := a) (c := 32) (fun x hx => by have := rises_in ha x hx; omega) (by decide)
  have sb := set_no (xs := b) (c := 32) (fun x hx => by have := rises_in hb x hx; omega) (by decide)
  have hn := names_no (i := (k - 1).toNat) (by omega)
  have hkn : kindW (nth clNames (k - 1).toNat) 7 = k := by rw [kind_name (by omega)]; omega
  unfold clText
  rw [if_pos h]
  split
  · rename_i hs
    have e := three_words hn sa sb
    have e0 : nth [nth clNames (k - 1).toNat, setT a, setT b] 0 = nth clNames (k - 1).toNat := rfl
    have e1 : nth [nth clNames (k - 1).toNat, setT a, setT b] 1 = setT a := rfl
    have e2 : nth [nth clNames (k - 1).toNat, setT a, setT b] 2 = setT b := rfl
    rw [txI_two (by rw [e, e0, hkn]; exact hs), e, e0, e1, e2, hkn, set_readI ha, set_readI hb, if_pos ⟨by omega, rfl, rfl, rfl, h⟩]
  · rename_i hs
    have hb0 : b = [] := hk.resolve_left hs
    subst hb0
    have e := two_words hn sa
    have e0 : nth [nth clNames (k - 1).toNat, setT a] 0 = nth clNames (k - 1).toNat := rfl
    have e1 : nth [nth clNames (k - 1).toNat, setT a] 1 = setT a := rfl
    rw [txI_one (by rw [e, e0, hkn]; simpa using hs), e, e0, e1, hkn, set_readI ha, if_pos ⟨by omega, rfl, rfl, h⟩]
theorem list2 {α : Type} [Inhabited α] {l : List α} (h : l.length = 2) : l = [nth l 0, nth l 1] := by
  match l, h with
  | [x, y], _ => rfl
theorem list3 {α : Type} [Inhabited α] {l : List α} (h : l.length = 3) : l = [nth l 0, nth l 1, nth l 2] := by
  match l, h with
  | [x, y, z], _ => rfl
theorem join2 {s : ByteArray} {x y : ByteArray} (h : splitW 32 s = [x, y]) : x ++ ⟨#[32]⟩ ++ y = s := by
  have e := join_split 32 s
  rw [h] at e
  apply ba_list
  rw [← e, joinW_list, app_list, app_list]
  simp [joinL]
theorem join3 {s : ByteArray} {x y z : ByteArray} (h : splitW 32 s = [x, y, z]) : x ++ ⟨#[32]⟩ ++ y ++ (⟨#[32]⟩ ++ z) = s := by
  have e := join_split 32 s
  rw [h] at e
  apply ba_list
  rw [← e, joinW_list]
  simp only [app_list]
  simp [joinL]
theorem text_read {s : ByteArray} (h : (txI s).2 = true) : clauseB 16 (txI s).1.1 (txI s).1.2.1 (txI s).1.2.2 = true ∧ clText (txI s).1.1 (txI s).1.2.1 (txI s).1.2.2 = s := by
  cases hs : secondB (kindW (nth (splitW 32 s) 0) 7) with
  | true =>
    rw [txI_two hs] at h ⊢
    split at h
    · rename_i hc
      rw [if_pos hc]
      obtain ⟨c1, c2, c3, c4, c5⟩ := hc
      refine ⟨c5, ?_⟩
      dsimp only
      unfold clText
      rw [if_pos c5, if_pos hs, ← name_kind _ _ c1]
      obtain ⟨_, _, ha, hb, _⟩ := cl_parts c5
      rw [read_set (s := nth (splitW 32 s) 1) (fun w => okI_D) (fun x hx => by have := rises_in ha x hx; omega) (Prod.ext rfl c3), read_set (s := nth (splitW 32 s) 2) (fun w => okI_D) (fun x hx => by have := rises_in hb x hx; omega) (Prod.ext rfl c4)]
      exact join3 (list3 c2)
    · cases h
  | false =>
    rw [txI_one hs] at h ⊢
    split at h
    · rename_i hc
      rw [if_pos hc]
      obtain ⟨c1, c2, c3, c5⟩ := hc
      refine ⟨c5, ?_⟩
      dsimp only
      unfold clText
      rw [if_pos c5, if_neg (by rw [hs]; simp), ← name_kind _ _ c1]
      obtain ⟨_, _, ha, _, _⟩ := cl_parts c5
      rw [read_set (s := nth (splitW 32 s) 1) (fun w => okI_D) (fun x hx => by have := rises_in ha x hx; omega) (Prod.ext rfl c3)]
      exact join2 (list2 c2)
    · cases h
def gSz (n : Int) : Int := if n ≤ 10 then 2 * n else 3 * n - 10
theorem join_sz {xs : List Int} (h : rises xs 16 = true) : ∀ {i : Nat}, i < xs.length → ((joinW ⟨#[44]⟩ (xs.map decT) (i + 1)).size : Int) + 1 ≤ gSz (nth xs i + 1)
  | 0, hi => by
    have hr := rises_in h _ (nth_mem hi)
    have hd := dec_ok (n := nth xs 0) (by omega)
    have hd2 := dec_num hd.1 (by omega)
    rw [hd.2] at hd2
    simp only [joinW]
    rw [if_neg (by omega), nth_map' _ hi, ByteArray.size_append]
    have e0 : (⟨#[]⟩ : ByteArray).size = 0 := rfl
    rw [e0]
    unfold gSz
    by_cases h1 : nth xs 0 < 10
    · have := hd2.2.2.1 h1
      rw [if_pos (by omega)]; omega
    · have := hd2.2.1
      rw [if_neg (by omega)]; omega
  | i + 1, hi => by
    have ih := join_sz h (i := i) (by omega)
    have hr := rises_in h _ (nth_mem hi)
    have hr0 := rises_in h _ (nth_mem (show i < xs.length by omega))
    have hd := dec_ok (n := nth xs (i + 1)) (by omega)
    have hd2 := dec_num hd.1 (by omega)
    rw [hd.2] at hd2
    have hlt : nth xs i < nth xs (i + 1) := by
      unfold rises at h
      rw [allN_iff] at h
      have := h (i + 1) hi
      simp only [Bool.and_eq_true, Bool.or_eq_true, decide_eq_true_eq] at this
      rcases this.2 with h1 | h1
      · omega
      · simpa using h1
    rw [joinW]
    rw [if_pos (by omega), nth_map' _ hi, ByteArray.size_append, ByteArray.size_append]
    have e1 : (⟨#[44]⟩ : ByteArray).size = 1 := rfl
    rw [e1]
    unfold gSz at ih ⊢
    by_cases h1 : nth xs (i + 1) < 10
    · have := hd2.2.2.1 h1
      rw [if_pos (by omega)]
      rw [if_pos (by omega)] at ih
      omega
    · have := hd2.2.1
      rw [if_neg (by omega)]
      split at ih <;> omega
theorem set_sz {xs : List Int} (h : rises xs 16 = true) : (setT xs).size ≤ 37 := by
  unfold setT
  split
  · show 1 ≤ 37; omega
  · have h1 := join_sz h (i := xs.length - 1) (by omega)
    have hr := rises_in h _ (nth_mem (show xs.length - 1 < xs.length by omega))
    rw [show xs.length - 1 + 1 = xs.length by omega] at h1
    unfold gSz at h1
    split at h1 <;> omega
theorem text_sz {k : Int} {a b : List Int} (h : clauseB 16 k a b = true) : (clText k a b).size ≤ 82 := by
  obtain ⟨h1, h2, ha, hb, hk⟩ := cl_parts h
  have hn := nm_size (i := (k - 1).toNat) (by omega)
  have sa := set_sz ha
  have sb := set_sz hb
  have e0 : (⟨#[32]⟩ : ByteArray).size = 1 := rfl
  unfold clText
  rw [if_pos h]
  split <;> simp only [ByteArray.size_append, e0] <;> omega
theorem txI_txS (s : ByteArray) : txI s = txS s := by
  by_cases hI : (txI s).2 = true
  · obtain ⟨hc, ht⟩ := text_read hI
    have hz : s.size ≤ 100 := by
      have h1 := text_sz hc
      rw [ht] at h1; omega
    cases hs : secondB (kindW (nth (splitW 32 s) 0) 7) with
    | true =>
      rw [txI_two hs] at hI ⊢
      split at hI
      · rename_i h
        rw [if_pos h]
        obtain ⟨c1, c2, c3, c4, c5⟩ := h
        rw [txS_two (by omega) (by omega), rdD_of_I c3, rdD_of_I c4, if_pos ⟨c3, c4, hs, c5⟩]
      · cases hI
    | false =>
      rw [txI_one hs] at hI ⊢
      split at hI
      · rename_i h
        rw [if_pos h]
        obtain ⟨c1, c2, c3, c5⟩ := h
        rw [txS_one (by omega) (by omega) (by omega) (by omega), rdD_of_I c3, if_pos ⟨c3, hs, c5⟩]
      · cases hI
  · have hI0 : txI s = zeroC := by
      cases hs : secondB (kindW (nth (splitW 32 s) 0) 7) with
      | true =>
        rw [txI_two hs] at hI ⊢
        split at hI
        · exact absurd rfl hI
        · rename_i h; rw [if_neg h]
      | false =>
        rw [txI_one hs] at hI ⊢
        split at hI
        · exact absurd rfl hI
        · rename_i h; rw [if_neg h]
    rw [hI0]
    by_cases hz : s.size ≤ 100
    · by_cases hl : (splitW 32 s).length = 3
      · rw [txS_two (by omega) (by omega)]
        split
        · rename_i h
          obtain ⟨c1, c2, c3, c4⟩ := h
          obtain ⟨k1, k2, ra, rb, _⟩ := cl_parts c4
          have eA := rdI_of_D c1 fun x hx => (rises_in ra x hx).2
          have eB := rdI_of_D c2 fun x hx => (rises_in rb x hx).2
          refine absurd ?_ hI
          rw [txI_two c3, eA, eB, if_pos ⟨by omega, hl, c1, c2, c4⟩]
        · rfl
      · by_cases hl2 : (splitW 32 s).length = 2
        · rw [txS_one (by omega) (by omega) (by omega) (by omega)]
          split
          · rename_i h
            obtain ⟨c1, c3, c4⟩ := h
            obtain ⟨k1, k2, ra, _, _⟩ := cl_parts c4
            have eA := rdI_of_D c1 fun x hx => (rises_in ra x hx).2
            refine absurd ?_ hI
            rw [txI_one c3, eA, if_pos ⟨by omega, hl2, c1, c4⟩]
          · rfl
        · rw [txS_off (by omega)]
    · rw [txS_big (by omega)]
end Go.Proofs.YtachnjinfdagjaaDoor

