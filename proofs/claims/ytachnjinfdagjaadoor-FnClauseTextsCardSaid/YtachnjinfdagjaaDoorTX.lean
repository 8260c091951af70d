/- Numerals and words as texts. No program in sight; no conditions. -/
import Derived.Test.YtachnjinfdagjaaDoorWM
import Derived.Lib.ItoaNum
import Derived.Shelf.Strings.OnBuilder
set_option linter.unusedSimpArgs false
set_option linter.unusedVariables false
namespace Go.Proofs.YtachnjinfdagjaaDoor
open Go.RowKit
open Shp
def decT (n : Int) : ByteArray := ⟨(Lib.decDigits n.toNat).toArray⟩
theorem ba_assoc (a b c : ByteArray) : a ++ (b ++ c) = a ++ b ++ c := by apply ByteArray.ext; simp [ByteArray.data_append]
theorem decT_small {n : Int} (h : 0 ≤ n ∧ n < 10) : decT n = ⟨[UInt8.ofNat (48 + n).toNat].toArray⟩ := by
  unfold decT
  rw [Lib.decDigits, dif_pos (by omega)]
  rw [show (48 + n).toNat = 48 + n.toNat by omega]
theorem decT_big {n : Int} (h : 10 ≤ n) : decT n = decT (n / 10) ++ ⟨[UInt8.ofNat (48 + n % 10).toNat].toArray⟩ := by
  unfold decT
  rw [Lib.decDigits, dif_neg (by omega)]
  apply ByteArray.ext
  rw [show (48 + n % 10).toNat = 48 + n.toNat % 10 by omega, show (n / 10).toNat = n.toNat / 10 by omega]
  simp [ByteArray.data_append]
theorem e_nil : (⟨#[]⟩ : ByteArray).toList = [] := by rw [Lib.toList_data]
theorem sz_nil {s : ByteArray} (e : s.toList = []) : s.size = 0 := by
  rw [Lib.toList_data] at e
  show s.data.size = 0
  rw [← Array.length_toList, e]; rfl
def Dec (n m : Int) (s : ByteArray) : Prop := (s = ⟨#[]⟩ ∧ m = n) ∨ (s.toList ≠ [] ∧ (if m = 0 then s else decT m ++ s) = decT n)
theorem dec_step {n m : Int} {s : ByteArray} (hm : 0 ≤ m) (h : Dec n m s) (hc : s.toList = [] ∨ m ≠ 0) : Dec n (m / 10) (⟨[UInt8.ofNat (48 + m % 10).toNat].toArray⟩ ++ s) := by
  refine .inr ⟨?_, ?_⟩
  · rw [Lib.toList_data]; simp [ByteArray.data_append]
  · rcases h with ⟨rfl, rfl⟩ | ⟨h1, h2⟩
    · have e0 : ∀ x : ByteArray, x ++ ⟨#[]⟩ = x := fun x => by apply ByteArray.ext; simp [ByteArray.data_append]
      rw [e0]
      split
      · rw [decT_small (by omega), show m % 10 = m by omega]
      · rw [decT_big (n := m) (by omega)]
    · have hm0 : m ≠ 0 := hc.resolve_left h1
      rw [if_neg hm0] at h2
      rw [← h2]
      split
      · rw [decT_small (n := m) (by omega), show m % 10 = m by omega]
      · rw [ba_assoc, decT_big (n := m) (by omega)]
theorem dec_end {n m : Int} {s : ByteArray} (h : Dec n m s) (h1 : s.toList ≠ []) (h2 : m = 0) : s = decT n := by
  rcases h with ⟨rfl, _⟩ | ⟨_, h⟩
  · rw [Lib.toList_data] at h1; exact absurd rfl h1
  · rw [if_pos h2] at h; exact h
def clNames : List ByteArray := [⟨#[97, 108, 119, 97, 121, 115]⟩, ⟨#[110, 101, 120, 116]⟩, ⟨#[97, 110, 115, 119, 101, 114]⟩, ⟨#[111, 102, 116, 101, 110]⟩, ⟨#[115, 116, 97, 121, 115]⟩, ⟨#[111, 110, 99, 101]⟩, ⟨#[102, 97, 105, 114]⟩]
def joinW (by_ : ByteArray) (ws : List ByteArray) : Nat → ByteArray
  | 0 => ⟨#[]⟩
  | i + 1 => (if i > 0 then joinW by_ ws i ++ by_ else joinW by_ ws i) ++ nth ws i
theorem joinW_size {by_ : ByteArray} {ws : List ByteArray} {m : Nat} (h : ∀ w ∈ ws, w.size ≤ m) : ∀ {i : Nat}, i ≤ ws.length → (joinW by_ ws i).size ≤ i * (m + by_.size)
  | 0, _ => by show 0 ≤ _; omega
  | i + 1, hi => by
    have h1 := joinW_size (by_ := by_) h (i := i) (by omega)
    have h2 : (nth ws i).size ≤ m := h _ (by rw [nth_eq (by omega)]; exact List.getElem_mem _)
    simp only [joinW]
    rw [ByteArray.size_append, Nat.add_mul]
    split
    · rw [ByteArray.size_append]; omega
    · omega
theorem decT_len {n : Int} (h : 0 ≤ n ∧ n < 100) : (decT n).size ≤ 2 := by
  by_cases h1 : n < 10
  · rw [decT_small (by omega)]; show 1 ≤ 2; omega
  · rw [decT_big (by omega), decT_small (n := n / 10) (by omega), ByteArray.size_append]
    show 1 + 1 ≤ 2; omega
theorem dec_sizes {xs : List Int} (h : ∀ x ∈ xs, 0 ≤ x ∧ x < 100) : ∀ w ∈ xs.map decT, w.size ≤ 1000 := fun w hw => by
  obtain ⟨x, hx, rfl⟩ := List.mem_map.1 hw
  have := decT_len (h x hx); omega
def setT (xs : List Int) : ByteArray := if xs.length = 0 then ⟨#[45]⟩ else joinW ⟨#[44]⟩ (xs.map decT) xs.length
theorem inter_app (sep : List UInt8) : ∀ (xs : List (List UInt8)) (x : List UInt8), xs ≠ [] → sep.intercalate (xs ++ [x]) = sep.intercalate xs ++ sep ++ x
  | [], _, h => absurd rfl h
  | [y], x, _ => by simp [List.intercalate, List.intersperse]
  | y :: z :: xs, x, _ => by
    have h := inter_app sep (z :: xs) x (by simp)
    simp only [List.intercalate, List.cons_append, List.intersperse, List.flatten_cons] at h ⊢
    rw [h]; simp
theorem joinW_eq {sep : ByteArray} {ws : List ByteArray} : ∀ {i : Nat}, i ≤ ws.length → (⟨(Lib.join ((ws.take i).map (·.data.toList)) sep.data.toList).toArray⟩ : ByteArray) = joinW sep ws i
  | 0, _ => rfl
  | i + 1, hi => by
    have ih := joinW_eq (sep := sep) (ws := ws) (i := i) (by omega)
    rw [take_nth (by omega), List.map_append]
    simp only [joinW]
    rw [← ih]
    unfold Lib.join
    by_cases h : i = 0
    · subst h
      rw [if_neg (by omega)]
      apply ByteArray.ext
      simp [ByteArray.data_append, List.intercalate]
    · rw [if_pos (by omega)]
      have hne : (ws.take i).map (·.data.toList) ≠ [] := by
        intro e
        have := congrArg List.length e
        rw [List.length_map, List.length_take, List.length_nil] at this; omega
      rw [List.map_singleton, inter_app _ _ _ hne]
      apply ByteArray.ext
      simp [ByteArray.data_append]
theorem nm_size {i : Nat} (h : i < 7) : (nth clNames i).size ≤ 6 := by
  match i, h with
  | 0, _ | 1, _ | 2, _ | 3, _ | 4, _ | 5, _ | 6, _ => exact of_decide_eq_true rfl
theorem setT_size {xs : List Int} (h : ∀ x ∈ xs, 0 ≤ x ∧ x < 100) (hl : xs.length ≤ 1000) : (setT xs).size ≤ 1001000 := by
  unfold setT
  split
  · show 1 ≤ 1001000; omega
  · have q := joinW_size (by_ := (⟨#[44]⟩ : ByteArray)) (dec_sizes h) (i := xs.length) (by simp)
    have e : (1000 + (⟨#[44]⟩ : ByteArray).size) = 1001 := rfl
    rw [e] at q
    omega
def clText (k : Int) (a b : List Int) : ByteArray :=
  if clauseB 16 k a b = true then
    (if secondB k = true then nth clNames (k - 1).toNat ++ ⟨#[32]⟩ ++ setT a ++ (⟨#[32]⟩ ++ setT b) else nth clNames (k - 1).toNat ++ ⟨#[32]⟩ ++ setT a)
  else ⟨#[]⟩
end Go.Proofs.YtachnjinfdagjaaDoor

