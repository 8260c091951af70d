/- The types of the laws: sizes, equality. No program in sight; no conditions. -/
import Derived.Test.YtjjidamlmebaaaaGreatHM
namespace Go.Proofs.YtjjidamlmebaaaaGreat
open Go.RowKit
open Shp
abbrev GV.arena (o : List Int) (n : List (List Int)) : GV := .agg [.ints o, .rows n]
def Zbt (l : Int) (k : Int → Int) : Int := if l < 0 then -1 else k l
theorem Zb2 {l : Int} {k : Int → Int} (h : 0 ≤ Zbt l k) : 0 ≤ l ∧ Zbt l k = k l := by
 unfold Zbt at *
 split at h
 ·omega
 ·rename_i h1; exact ⟨by omega, by rw [if_neg h1]⟩
def szGo {α : Type} (f : α → Int → Int) : List α → Int → Int
 | [], l => l
 | x :: xs, l => Zbt (f x l) (szGo f xs)
theorem Zmv {α : Type} {f : α → Int → Int} {sm : α → Prop} (hf : ∀ x l, 0 ≤ f x l → l ≤ 1048576 → sm x ∧ f x l ≤ l) : ∀ (xs : List α) (l : Int), 0 ≤ l → 0 ≤ szGo f xs l → l ≤ 1048576 → (∀ x ∈ xs, sm x) ∧ szGo f xs l ≤ l
 | [], l, _, _, _ => ⟨by simp, by simp [szGo]⟩
 | x :: xs, l, h0, h, hl => by
  obtain ⟨h1, h2⟩ := Zb2 h
  obtain ⟨h3, h4⟩ := hf x l h1 hl
  have h5 := Zmv hf xs (f x l) h1 (by rw [← h2]; exact h) (by omega)
  have h6 : szGo f (x :: xs) l = szGo f xs (f x l) := h2
  refine ⟨fun y hy => ?_, by omega⟩
  rcases List.mem_cons.1 hy with rfl | hy
  ·exact h3
  ·exact h5.1 y hy
def Zbd (xs : List Int) (l : Int) : Int := Zbt (l - xs.length) fun l => l
def ZeP (xs : List Int) : Prop := xs.length ≤ 1048576
theorem ZbY (xs : List Int) (l : Int) (h : 0 ≤ Zbd xs l) (hl : l ≤ 1048576) : ZeP xs ∧ Zbd xs l ≤ l := by
 obtain ⟨h1, h2⟩ := Zb2 h
 unfold ZeP Zbd
 exact ⟨by omega, by rw [show Zbt (l - ↑xs.length) (fun l => l) = l - xs.length from h2]; omega⟩
def ZbA (xs : List (List Int)) (l : Int) : Int := Zbt (l - xs.length) (szGo Zbd xs)
def ZhS (xs : List (List Int)) : Prop := xs.length ≤ 1048576 ∧ ∀ x ∈ xs, ZeP x
theorem ZgR (xs : List (List Int)) (l : Int) (h : 0 ≤ ZbA xs l) (hl : l ≤ 1048576) : ZhS xs ∧ ZbA xs l ≤ l := by
 obtain ⟨h1, h2⟩ := Zb2 h
 have h3 := Zmv ZbY xs (l - xs.length) h1 (by rw [← h2]; exact h) (by omega)
 refine ⟨⟨by omega, h3.1⟩, ?_⟩
 have h4 : ZbA xs l = szGo Zbd xs (l - xs.length) := h2
 omega
def Zet (x : List Int × List Int) (l : Int) : Int := Zbt (Zbd x.1 l) fun l => Zbt (Zbd x.2 l) fun l => l
def Zpo (x : List Int × List Int) : Prop := ZeP x.1 ∧ ZeP x.2
theorem Zk6 (x : List Int × List Int) (l : Int) (h : 0 ≤ Zet x l) (hl : l ≤ 1048576) : Zpo x ∧ Zet x l ≤ l := by
 unfold Zet at *
 obtain ⟨a0, b0⟩ := Zb2 h
 obtain ⟨c0, d0⟩ := ZbY x.1 (l) a0 (by omega)
 rw [b0] at h ⊢
 obtain ⟨a1, b1⟩ := Zb2 h
 obtain ⟨c1, d1⟩ := ZbY x.2 (Zbd x.1 (l)) a1 (by omega)
 rw [b1] at h ⊢
 exact ⟨⟨c0, c1⟩, by omega⟩
def Zef (xs : List (List Int × List Int)) (l : Int) : Int := Zbt (l - xs.length) (szGo Zet xs)
def Zmo (xs : List (List Int × List Int)) : Prop := xs.length ≤ 1048576 ∧ ∀ x ∈ xs, Zpo x
theorem Zjq (xs : List (List Int × List Int)) (l : Int) (h : 0 ≤ Zef xs l) (hl : l ≤ 1048576) : Zmo xs ∧ Zef xs l ≤ l := by
 obtain ⟨h1, h2⟩ := Zb2 h
 have h3 := Zmv Zk6 xs (l - xs.length) h1 (by rw [← h2]; exact h) (by omega)
 refine ⟨⟨by omega, h3.1⟩, ?_⟩
 have h4 : Zef xs l = szGo Zet xs (l - xs.length) := h2
 omega
def Zpy (x : List (List Int) × List (List Int × List Int)) (l : Int) : Int := Zbt (ZbA x.1 l) fun l => Zbt (Zef x.2 l) fun l => l
def Zw7 (x : List (List Int) × List (List Int × List Int)) : Prop := ZhS x.1 ∧ Zmo x.2
theorem Zni (x : List (List Int) × List (List Int × List Int)) (l : Int) (h : 0 ≤ Zpy x l) (hl : l ≤ 1048576) : Zw7 x ∧ Zpy x l ≤ l := by
 unfold Zpy at *
 obtain ⟨a0, b0⟩ := Zb2 h
 obtain ⟨c0, d0⟩ := ZgR x.1 (l) a0 (by omega)
 rw [b0] at h ⊢
 obtain ⟨a1, b1⟩ := Zb2 h
 obtain ⟨c1, d1⟩ := Zjq x.2 (ZbA x.1 (l)) a1 (by omega)
 rw [b1] at h ⊢
 exact ⟨⟨c0, c1⟩, by omega⟩
theorem ZcA {α : Type} [Inhabited α] [DecidableEq α] {xs ys : List α} (hl : xs.length = ys.length) : (allN xs.length fun i => decide (nth xs i = nth ys i)) = decide (xs = ys) := by
 rw [Bool.eq_iff_iff, allN_iff, decide_eq_true_eq]
 constructor
 ·intro h; exact Zq8 hl fun i hi => by simpa using h i hi
 ·rintro rfl; intro j hj; simp
end Go.Proofs.YtjjidamlmebaaaaGreat

