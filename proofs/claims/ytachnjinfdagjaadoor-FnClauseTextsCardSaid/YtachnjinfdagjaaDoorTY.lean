/- Texts split at a sign, numerals and sets read, clauses read. No program in sight; no conditions. -/
import Derived.Test.YtachnjinfdagjaaDoorTX
import Derived.Test.YtachnjinfdagjaaDoorKG
import Derived.Lib.SplitLaws
import Derived.Lib.IndexLaws
import Derived.Lib.CutLaws
set_option linter.unusedSimpArgs false
set_option linter.unusedVariables false
namespace Go.Proofs.YtachnjinfdagjaaDoor
open Go.RowKit
open Shp
def splitL (c : UInt8) : List UInt8 → List (List UInt8)
  | [] => [[]]
  | x :: xs => if x = c then [] :: splitL c xs else match splitL c xs with | [] => [[x]] | y :: ys => (x :: y) :: ys
def mkB (l : List UInt8) : ByteArray := ⟨l.toArray⟩
def splitW (c : UInt8) (s : ByteArray) : List ByteArray := (splitL c s.data.toList).map mkB
def cutS (c : UInt8) (s : ByteArray) : Nat → List ByteArray × Nat
  | 0 => ([], 0)
  | i + 1 => if i = s.size ∨ bat s i = c.toNat then ((cutS c s i).1 ++ [s.extract (cutS c s i).2 i], i + 1) else cutS c s i
theorem cutS_yes {c : UInt8} {s : ByteArray} {i : Nat} (h : i = s.size ∨ bat s i = c.toNat) : cutS c s (i + 1) = ((cutS c s i).1 ++ [s.extract (cutS c s i).2 i], i + 1) := if_pos h
theorem cutS_no {c : UInt8} {s : ByteArray} {i : Nat} (h : ¬ (i = s.size ∨ bat s i = c.toNat)) : cutS c s (i + 1) = cutS c s i := if_neg h
theorem cutS_le (c : UInt8) (s : ByteArray) : ∀ i, (cutS c s i).2 ≤ i ∧ (cutS c s i).1.length ≤ i
  | 0 => ⟨Nat.le_refl _, Nat.le_refl _⟩
  | i + 1 => by
    have h := cutS_le c s i
    simp only [cutS]
    split
    · exact ⟨Nat.le_refl _, by rw [List.length_append, List.length_singleton]; omega⟩
    · omega
theorem mkB_data (b : ByteArray) : mkB b.data.toList = b := by apply ByteArray.ext; rfl
theorem splitL_ne (c : UInt8) : ∀ l, splitL c l ≠ []
  | [] => by simp [splitL]
  | x :: xs => by
    unfold splitL
    split
    · simp
    · split <;> simp
def glueL (p : List UInt8) : List (List UInt8) → List (List UInt8)
  | [] => [p]
  | y :: ys => (p ++ y) :: ys
theorem glue_nil {r : List (List UInt8)} (h : r ≠ []) : glueL [] r = r := by
  cases r with
  | nil => exact absurd rfl h
  | cons y ys => rfl
theorem splitL_eq {c x : UInt8} {xs p : List UInt8} (h : x = c) : glueL p (splitL c (x :: xs)) = p :: splitL c xs := by
  rw [splitL, if_pos h]
  simp [glueL]
theorem splitL_neq {c x : UInt8} {xs p : List UInt8} (h : x ≠ c) : glueL p (splitL c (x :: xs)) = glueL (p ++ [x]) (splitL c xs) := by
  have hn := splitL_ne c xs
  rw [splitL, if_neg h]
  cases e : splitL c xs with
  | nil => exact absurd e hn
  | cons y ys => simp [glueL]
theorem bat_at {s : ByteArray} {i : Nat} (h : i < s.data.toList.length) : bat s i = (s.data.toList[i]).toNat := by
  unfold bat
  have h' : i < s.data.size := by simpa using h
  rw [Array.getD, dif_pos h']
  simp
theorem ext_list (s : ByteArray) (a b : Nat) : (s.extract a b).data.toList = (s.data.toList.drop a).take (b - a) := by
  rw [ByteArray.data_extract, Array.toList_extract, List.extract_eq_take_drop]
theorem cut_glue (c : UInt8) (s : ByteArray) : ∀ i, i ≤ s.size → (cutS c s i).2 ≤ i ∧ splitL c s.data.toList = (cutS c s i).1.map (·.data.toList) ++ glueL ((s.data.toList.drop (cutS c s i).2).take (i - (cutS c s i).2)) (splitL c (s.data.toList.drop i))
  | 0, _ => ⟨Nat.le_refl _, by simp [cutS, glue_nil (splitL_ne c _)]⟩
  | i + 1, hi => by
    obtain ⟨h0, ih⟩ := cut_glue c s i (by omega)
    have hsz : s.data.toList.length = s.size := Array.length_toList
    have hl : i < s.data.toList.length := by omega
    have hd : s.data.toList.drop i = s.data.toList[i] :: s.data.toList.drop (i + 1) := List.drop_eq_getElem_cons hl
    by_cases hc : bat s i = c.toNat
    · rw [cutS_yes (.inr hc)]
      have hx : s.data.toList[i] = c := by rw [bat_at hl] at hc; exact UInt8.toNat_inj.1 hc
      refine ⟨Nat.le_refl _, ?_⟩
      rw [ih, hd, splitL_eq hx, List.map_append]
      simp only [Nat.sub_self, List.take_zero, List.map_cons, List.map_nil, List.append_assoc, List.singleton_append, glue_nil (splitL_ne c _), ext_list]
    · rw [cutS_no (by omega)]
      have hx : s.data.toList[i] ≠ c := fun e => hc (by rw [bat_at hl, e])
      refine ⟨by omega, ?_⟩
      rw [ih, hd, splitL_neq hx]
      congr 2
      rw [show i + 1 - (cutS c s i).2 = (i - (cutS c s i).2) + 1 by omega, List.take_add_one]
      congr 1
      rw [List.getElem?_drop, show (cutS c s i).2 + (i - (cutS c s i).2) = i by omega, List.getElem?_eq_getElem hl]
      rfl
theorem cutS_splitW (c : UInt8) (s : ByteArray) : (cutS c s (s.size + 1)).1 = splitW c s := by
  have hsz : s.data.toList.length = s.size := Array.length_toList
  obtain ⟨h0, h⟩ := cut_glue c s s.size (Nat.le_refl _)
  rw [cutS_yes (.inl rfl)]
  unfold splitW
  rw [h, List.drop_of_length_le (Nat.le_of_eq hsz), List.map_append, List.map_map]
  have e1 : ((mkB ∘ fun x : ByteArray => x.data.toList)) = id := by funext b; exact mkB_data b
  rw [e1, List.map_id]
  simp only [splitL, glueL, List.append_nil, List.map_cons, List.map_nil]
  rw [← ext_list, mkB_data]
theorem splitL_miss {c : UInt8} : ∀ {l : List UInt8}, (∀ k : Nat, l[k]? ≠ some c) → splitL c l = [l]
  | [], _ => rfl
  | x :: xs, h => by
    have h0 : x ≠ c := fun e => h 0 (by rw [e]; rfl)
    rw [splitL, if_neg h0, splitL_miss (l := xs) fun k => h (k + 1)]
theorem splitL_hit {c : UInt8} : ∀ {l : List UInt8} {o : Nat}, l[o]? = some c → (∀ k : Nat, k < o → l[k]? ≠ some c) → splitL c l = l.take o :: splitL c (l.drop (o + 1))
  | [], o, h, _ => by simp at h
  | x :: xs, 0, h, _ => by
    have : x = c := by simpa using h
    rw [splitL, if_pos this]; rfl
  | x :: xs, o + 1, h, hn => by
    have h0 : x ≠ c := fun e => hn 0 (by omega) (by rw [e]; rfl)
    rw [splitL, if_neg h0, splitL_hit (l := xs) (o := o) h fun k hk => hn (k + 1) (by omega)]
    rfl
theorem indexB_one (s : ByteArray) (c : UInt8) : Lib.indexB s ⟨#[c]⟩ = Lib.indexByte s.data.toList c := Lib.index_one s.data.toList c
theorem splitB_splitW (c : UInt8) : ∀ (n : Nat) (s : ByteArray), Lib.countB s ⟨#[c]⟩ = n → Lib.splitB ⟨#[c]⟩ 0 n s = splitW c s
  | n, s, h => by
    rcases Lib.indexB_cases s ⟨#[c]⟩ with e | ⟨i, e, hi⟩
    · rw [Lib.splitB_miss _ _ _ _ e]
      rw [indexB_one] at e
      unfold splitW
      rw [splitL_miss (Lib.indexByte_none e), List.map_singleton, mkB_data]
    · have hc := Lib.countB_hit s ⟨#[c]⟩ i (Nat.le_refl _) e
      have h1 : (⟨#[c]⟩ : ByteArray).size = 1 := rfl
      rw [h1] at hc hi
      match n, h with
      | 0, h => omega
      | n + 1, h =>
        rw [Lib.splitB_hit _ _ _ _ i e, h1, splitB_splitW c n (s.extract (i + 1) s.size) (by omega)]
        rw [indexB_one] at e
        obtain ⟨e1, e2⟩ := Lib.indexByte_some e
        have hsz : s.data.toList.length = s.size := Array.length_toList
        unfold splitW
        rw [splitL_hit e1 e2, List.map_cons, ext_list, Nat.add_zero]
        congr 1
        · rw [← mkB_data (s.extract 0 i), ext_list]; simp
        · rw [List.take_of_length_le (by rw [List.length_drop]; omega)]
theorem splitL_len (c : UInt8) : ∀ l : List UInt8, (splitL c l).length ≤ l.length + 1
  | [] => Nat.le_refl _
  | x :: xs => by
    have h := splitL_len c xs
    rw [splitL]
    split
    · simp only [List.length_cons]; omega
    · cases e : splitL c xs with
      | nil => simp
      | cons y ys => rw [e] at h; simp only [List.length_cons] at h ⊢; omega
theorem splitW_len (c : UInt8) (s : ByteArray) : 1 ≤ (splitW c s).length ∧ (splitW c s).length ≤ s.size + 1 := by
  unfold splitW
  rw [List.length_map]
  have h := splitL_len c s.data.toList
  have hsz : s.data.toList.length = s.size := Array.length_toList
  have h2 := List.length_pos_iff.2 (splitL_ne c s.data.toList)
  omega
theorem ba_eq {a b : ByteArray} : a.toList = b.toList ↔ a = b := by
  rw [Lib.toList_data, Lib.toList_data]
  constructor
  · intro h; apply ByteArray.ext; exact Array.toList_inj.1 h
  · rintro rfl; rfl
theorem splitL_part (c : UInt8) : ∀ (l : List UInt8) (i : Nat), i < (splitL c l).length → ((splitL c l).map List.length).sum + (splitL c l).length = l.length + 1
  | [], i, _ => rfl
  | x :: xs, i, hi => by
    have h := splitL_part c xs 0 (List.length_pos_iff.2 (splitL_ne c xs))
    rw [splitL]
    split
    · simp only [List.map_cons, List.sum_cons, List.length_cons, List.length_nil]; omega
    · cases e : splitL c xs with
      | nil => exact absurd e (splitL_ne c xs)
      | cons y ys => rw [e] at h; simp only [List.map_cons, List.sum_cons, List.length_cons] at h ⊢; omega
theorem mkB_size (l : List UInt8) : (mkB l).size = l.length := by show l.toArray.size = l.length; simp
theorem splitW_sum (c : UInt8) (s : ByteArray) : ((splitW c s).map ByteArray.size).sum + (splitW c s).length = s.size + 1 := by
  have h := splitL_part c s.data.toList 0 (List.length_pos_iff.2 (splitL_ne c _))
  have hsz : s.data.toList.length = s.size := Array.length_toList
  unfold splitW
  rw [List.map_map, List.length_map, show (ByteArray.size ∘ mkB) = List.length from funext mkB_size]
  omega
theorem le_sum {l : List Nat} {x : Nat} (h : x ∈ l) : x ≤ l.sum := by
  induction l with
  | nil => cases h
  | cons y ys ih =>
    rw [List.sum_cons]
    rcases List.mem_cons.1 h with rfl | h
    · omega
    · have := ih h; omega
theorem splitW_part (c : UInt8) (s : ByteArray) (i : Nat) : i < (splitW c s).length → (nth (splitW c s) i).size ≤ s.size := fun hi => by
  have h := splitW_sum c s
  have h1 := le_sum (List.mem_map_of_mem (f := ByteArray.size) (nth_mem hi))
  omega
def okD (s : ByteArray) : Bool := decide (1 ≤ s.size) && decide (s.size ≤ 9) && (decide (bat s 0 ≠ 48) || decide (s.size ≤ 1)) && allN s.size fun k => decide (48 ≤ bat s k) && decide (bat s k ≤ 57)
theorem okD_iff {s : ByteArray} : okD s = true ↔ 1 ≤ s.size ∧ s.size ≤ 9 ∧ (bat s 0 ≠ 48 ∨ s.size ≤ 1) ∧ ∀ z, z < s.size → 48 ≤ bat s z ∧ bat s z ≤ 57 := by
  unfold okD
  simp only [Bool.and_eq_true, Bool.or_eq_true, decide_eq_true_eq, allN_iff, and_assoc]
theorem okD_no {s : ByteArray} (h : s.size < 1 ∨ 9 < s.size ∨ (bat s 0 = 48 ∧ 1 < s.size) ∨ ∃ k, k < s.size ∧ (bat s k < 48 ∨ 57 < bat s k)) : okD s = false := by
  rw [Bool.eq_false_iff]
  intro e
  obtain ⟨h1, h2, h3, h4⟩ := okD_iff.1 e
  rcases h with h | h | h | ⟨k, h, h'⟩
  · omega
  · omega
  · omega
  · have := h4 k h; omega
theorem okD_yes {s : ByteArray} {k : Nat} (h1 : 1 ≤ s.size) (h2 : s.size ≤ 9) (h3 : bat s 0 ≠ 48 ∨ s.size ≤ 1) (hk : s.size ≤ k) (h4 : ∀ z, z < k → (decide (48 ≤ bat s z) && decide (bat s z ≤ 57)) = true) : okD s = true :=
  okD_iff.2 ⟨h1, h2, h3, fun z hz => by have := h4 z (by omega); simpa using this⟩
theorem sz_pos {s : ByteArray} (h : ¬ s.toList = (⟨#[]⟩ : ByteArray).toList) : 1 ≤ s.size := by
  rcases Nat.lt_or_ge 0 s.size with e | e
  · omega
  · refine absurd ?_ h
    rw [Lib.toList_data, Lib.toList_data]
    have : s.data.toList.length = 0 := by rw [Array.length_toList]; exact Nat.le_zero.1 e
    rw [List.eq_nil_of_length_eq_zero this]
def numN (s : ByteArray) : Nat → Int
  | 0 => 0
  | k + 1 => numN s k * 10 + ((bat s k : Int) - 48)
def numW (s : ByteArray) : Int := numN s s.size
theorem numN_range {s : ByteArray} : ∀ {k : Nat}, (∀ z, z < k → 48 ≤ bat s z ∧ bat s z ≤ 57) → 0 ≤ numN s k ∧ numN s k < 10 ^ k
  | 0, _ => by simp [numN]
  | k + 1, h => by
    have h1 := numN_range (k := k) fun z hz => h z (by omega)
    have h2 := h k (by omega)
    simp only [numN]
    rw [Int.pow_succ]
    omega
theorem numN_9 {s : ByteArray} {k : Nat} (h : ∀ z, z < k → 48 ≤ bat s z ∧ bat s z ≤ 57) (hk : k ≤ 9) : 0 ≤ numN s k ∧ numN s k < 1000000000 := by
  have h1 := numN_range h
  have h2 : (10 : Int) ^ k ≤ 1000000000 := (by decide : ∀ k : Fin 10, (10 : Int) ^ k.val ≤ 1000000000) ⟨k, by omega⟩
  omega
def okI (s : ByteArray) : Bool := okD s && decide (numW s < 16)
def rdG (ok : ByteArray → Bool) (s : ByteArray) : List Int × Bool :=
  if s = ⟨#[45]⟩ then ([], true)
  else if allN (splitW 44 s).length (fun i => ok (nth (splitW 44 s) i)) = true then ((splitW 44 s).map numW, true) else ([], false)
theorem rdG_dash {ok : ByteArray → Bool} {s : ByteArray} (h : s.toList = (⟨#[45]⟩ : ByteArray).toList) : rdG ok s = ([], true) := if_pos (ba_eq.1 h)
theorem rdG_bad {ok : ByteArray → Bool} {s : ByteArray} {i : Nat} (h : ¬ s.toList = (⟨#[45]⟩ : ByteArray).toList) (hi : i < (splitW 44 s).length) (hb : ok (nth (splitW 44 s) i) = false) : rdG ok s = ([], false) := by
  unfold rdG
  rw [if_neg (fun e => h (by rw [e])), if_neg (fun e => by rw [allN_iff] at e; rw [e i hi] at hb; cases hb)]
theorem rdG_good {ok : ByteArray → Bool} {s : ByteArray} {i : Nat} (h : ¬ s.toList = (⟨#[45]⟩ : ByteArray).toList) (hi : (splitW 44 s).length ≤ i) (hb : ∀ z, z < i → ok (nth (splitW 44 s) z) = true) : rdG ok s = ((splitW 44 s).map numW, true) := by
  unfold rdG
  rw [if_neg (fun e => h (by rw [e])), if_pos (by rw [allN_iff]; exact fun j hj => hb j (by omega))]
def kindW (w : ByteArray) : Nat → Int
  | 0 => 0
  | i + 1 => if w = nth clNames i then (i : Int) + 1 else kindW w i
theorem kindW_yes {w : ByteArray} {i : Nat} (h : w = nth clNames i) : kindW w (i + 1) = (i : Int) + 1 := if_pos h
theorem kindW_no {w : ByteArray} {i : Nat} (h : ¬ w = nth clNames i) : kindW w (i + 1) = kindW w i := if_neg h
def zeroC : (Int × List Int × List Int) × Bool := ((0, [], []), false)
def fineS (k : Int) (l : Nat) (a b : List Int × Bool) : Bool := a.2 && b.2 && (secondB k == decide (l = 3)) && clauseB 16 k a.1 (if l = 3 then b.1 else [])
def txS (s : ByteArray) : (Int × List Int × List Int) × Bool :=
  if s.size ≤ 100 ∧ 2 ≤ (splitW 32 s).length ∧ (splitW 32 s).length ≤ 3 ∧ fineS (kindW (nth (splitW 32 s) 0) 7) (splitW 32 s).length (rdG okD (nth (splitW 32 s) 1)) (rdG okD (nth (splitW 32 s) ((splitW 32 s).length - 1))) = true then
    ((kindW (nth (splitW 32 s) 0) 7, (rdG okD (nth (splitW 32 s) 1)).1, if (splitW 32 s).length = 3 then (rdG okD (nth (splitW 32 s) ((splitW 32 s).length - 1))).1 else []), true)
  else zeroC
def wantK (k : Int) : Nat := if secondB k = true then 3 else 2
def secI (k : Int) (w : ByteArray) : List Int × Bool := if secondB k = true then rdG okI w else ([], true)
def txI (s : ByteArray) : (Int × List Int × List Int) × Bool :=
  if kindW (nth (splitW 32 s) 0) 7 ≠ 0 ∧ (splitW 32 s).length = wantK (kindW (nth (splitW 32 s) 0) 7) ∧ (rdG okI (nth (splitW 32 s) 1)).2 = true ∧ (secI (kindW (nth (splitW 32 s) 0) 7) (nth (splitW 32 s) 2)).2 = true ∧
    clauseB 16 (kindW (nth (splitW 32 s) 0) 7) (rdG okI (nth (splitW 32 s) 1)).1 (secI (kindW (nth (splitW 32 s) 0) 7) (nth (splitW 32 s) 2)).1 = true then
    ((kindW (nth (splitW 32 s) 0) 7, (rdG okI (nth (splitW 32 s) 1)).1, (secI (kindW (nth (splitW 32 s) 0) 7) (nth (splitW 32 s) 2)).1), true)
  else zeroC
theorem txI_two {s : ByteArray} (h : secondB (kindW (nth (splitW 32 s) 0) 7) = true) : txI s =
    if kindW (nth (splitW 32 s) 0) 7 ≠ 0 ∧ (splitW 32 s).length = 3 ∧ (rdG okI (nth (splitW 32 s) 1)).2 = true ∧ (rdG okI (nth (splitW 32 s) 2)).2 = true ∧ clauseB 16 (kindW (nth (splitW 32 s) 0) 7) (rdG okI (nth (splitW 32 s) 1)).1 (rdG okI (nth (splitW 32 s) 2)).1 = true
    then ((kindW (nth (splitW 32 s) 0) 7, (rdG okI (nth (splitW 32 s) 1)).1, (rdG okI (nth (splitW 32 s) 2)).1), true) else zeroC := by
  have e1 : wantK (kindW (nth (splitW 32 s) 0) 7) = 3 := if_pos h
  have e2 : ∀ w, secI (kindW (nth (splitW 32 s) 0) 7) w = rdG okI w := fun w => if_pos h
  unfold txI
  rw [e1, e2]
theorem txI_one {s : ByteArray} (h : secondB (kindW (nth (splitW 32 s) 0) 7) = false) : txI s =
    if kindW (nth (splitW 32 s) 0) 7 ≠ 0 ∧ (splitW 32 s).length = 2 ∧ (rdG okI (nth (splitW 32 s) 1)).2 = true ∧ clauseB 16 (kindW (nth (splitW 32 s) 0) 7) (rdG okI (nth (splitW 32 s) 1)).1 [] = true
    then ((kindW (nth (splitW 32 s) 0) 7, (rdG okI (nth (splitW 32 s) 1)).1, []), true) else zeroC := by
  have e1 : wantK (kindW (nth (splitW 32 s) 0) 7) = 2 := if_neg (by rw [h]; simp)
  have e2 : ∀ w, secI (kindW (nth (splitW 32 s) 0) 7) w = ([], true) := fun w => if_neg (by rw [h]; simp)
  unfold txI
  rw [e1, e2]
  simp only [true_and]
theorem txS_big {s : ByteArray} (h : (100 : Int) < s.size) : txS s = zeroC := if_neg fun e => by omega
theorem txS_off {s : ByteArray} (h : ((splitW 32 s).length : Int) < 2 ∨ (3 : Int) < (splitW 32 s).length) : txS s = zeroC := if_neg fun e => by omega
theorem txS_two {s : ByteArray} (h0 : (s.size : Int) ≤ 100) (h : ((splitW 32 s).length : Int) = 3) : txS s =
    if (rdG okD (nth (splitW 32 s) 1)).2 = true ∧ (rdG okD (nth (splitW 32 s) 2)).2 = true ∧ secondB (kindW (nth (splitW 32 s) 0) 7) = true ∧ clauseB 16 (kindW (nth (splitW 32 s) 0) 7) (rdG okD (nth (splitW 32 s) 1)).1 (rdG okD (nth (splitW 32 s) 2)).1 = true
    then ((kindW (nth (splitW 32 s) 0) 7, (rdG okD (nth (splitW 32 s) 1)).1, (rdG okD (nth (splitW 32 s) 2)).1), true) else zeroC := by
  have h' : (splitW 32 s).length = 3 := by omega
  unfold txS fineS
  rw [h']
  have e1 : s.size ≤ 100 := by omega
  simp [e1, and_assoc]
theorem txS_one {s : ByteArray} (h0 : (s.size : Int) ≤ 100) (h : (2 : Int) ≤ (splitW 32 s).length) (h1 : ((splitW 32 s).length : Int) ≤ 3) (h2 : ¬ ((splitW 32 s).length : Int) = 3) : txS s =
    if (rdG okD (nth (splitW 32 s) 1)).2 = true ∧ secondB (kindW (nth (splitW 32 s) 0) 7) = false ∧ clauseB 16 (kindW (nth (splitW 32 s) 0) 7) (rdG okD (nth (splitW 32 s) 1)).1 [] = true
    then ((kindW (nth (splitW 32 s) 0) 7, (rdG okD (nth (splitW 32 s) 1)).1, []), true) else zeroC := by
  have h' : (splitW 32 s).length = 2 := by omega
  unfold txS fineS
  rw [h']
  have e1 : s.size ≤ 100 := by omega
  simp [e1, and_assoc]
theorem gSub_names : gSub (clNames.map GV.str) 0 7 (clNames.map GV.str) := .ctake (.ctake (.ctake (.ctake (.ctake (.ctake (.ctake (.cnil _)))))))
end Go.Proofs.YtachnjinfdagjaaDoor

