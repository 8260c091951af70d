/- Sizes of results. No program in sight; no conditions. -/
import Derived.Test.YtnieejghoaccmaaGreatBase
import Derived.Test.YtnieejghoaccmaaGreatKG
import Derived.Test.YtnieejghoaccmaaGreatMS
import Derived.Test.YtnieejghoaccmaaGreatTab
import Derived.Test.YtnieejghoaccmaaGreatM2
import Derived.Test.YtnieejghoaccmaaGreatChecked
namespace Go.Proofs.YtnieejghoaccmaaGreat
variable {α : Type} {k n j : Nat}
def marks (k : Int) (n : Nat) : List Int := (List.range n).map fun (i : Nat) => k + (i : Int)
def sz (n : Nat) (left : Int) : Int := if left - n < 0 then -1 else left - n
end Go.Proofs.YtnieejghoaccmaaGreat

namespace Go.Proofs.YtnieejghoaccmaaGreat
open Go.RowKit
open Shp
variable {w w' : World} {F : List Nat} {v : Value} {xs : List Int} {a : Option Addr} {cap j : Nat} {Fs : List (List Nat)} {vs els : List Value} {gs : List GV} {g : GV} {α : Type} {P : Program} {k : Int}
theorem SameRows.setCell {w : World} {p : Addr} {v : Value} (hp : p.spot = none) : SameRows w (w.setCell p v) := fun b vs t hb => by
 obtain ⟨pb, o, s⟩ := p
 simp only at hp
 subst hp
 by_cases e : pb = b
 ·subst e
  exact ⟨_, ZpX hb, by simp⟩
 ·exact ⟨vs, Zqk hb e, rfl⟩
theorem GRL.len {w : World} {Fs : List (List Nat)} {vs : List Value} {gs : List GV} (h : GRL w Fs vs gs) : vs.length = gs.length ∧ Fs.length = gs.length := by obtain ⟨a, b, _⟩ := h.get; exact ⟨a, b⟩
theorem GRL.keeps {L : List Nat} {w w' : World} {Fs : List (List Nat)} {vs : List Value} {gs : List GV} (h : GRL w Fs vs gs) (hk : Keeps L w w') (hd : ∀ b ∈ Fs.flatten, b ∉ L) : GRL w' Fs vs gs := by
 induction h with
 | nil => exact .nil
 | cons h1 h2 ih =>
  simp only [List.flatten_cons, List.mem_append] at hd
  exact .cons (h1.keeps hk fun b hb => hd b (.inl hb)) (ih fun b hb => hd b (.inr hb))
theorem GRL.keeps0  (h : GRL w Fs vs gs) (hk : Keeps [] w w') : GRL w' Fs vs gs := h.keeps hk (by simp)
theorem GRL.set {w w' : World} {Fs : List (List Nat)} {vs : List Value} {gs : List GV} (h : GRL w Fs vs gs) (hnd : Fs.flatten.Nodup) {j : Nat} {F : List Nat} {v : Value} {g : GV} (hF : Fs[j]? = some F) (hv : vs[j]? = some v) (hg : GRep w' F v g) (hk : Keeps F w w') : GRL w' Fs vs (gs.set j g) := by
 induction h generalizing j with
 | nil => exact .nil
 | @cons F0 v0 g0 Fs vs gs h1 h2 ih =>
  rw [List.flatten_cons] at hnd
  have hnd' := List.nodup_append.1 hnd
  cases j with
  | zero =>
   simp at hF hv
   subst hF; subst hv
   exact .cons hg (h2.keeps hk fun b hb hb2 => hnd'.2.2 b hb2 b hb rfl)
  | succ j =>
   simp at hF hv
   obtain ⟨hj, rfl⟩ := List.getElem?_eq_some_iff.1 hF
   exact .cons (h1.keeps hk fun b hb hb2 => hnd'.2.2 b hb b (Zad hj hb2) rfl) (ih hnd'.2.1 hF hv)
theorem GRL.at  (h : GRL w Fs vs gs)   (hg : gs[j]? = some g) : ∃ F v, Fs[j]? = some F ∧ vs[j]? = some v ∧ GRep w F v g ∧ ∀ b ∈ F, b ∈ Fs.flatten := by
 obtain ⟨hv, hF, hh⟩ := h.get
 obtain ⟨hj, rfl⟩ := List.getElem?_eq_some_iff.1 hg
 refine ⟨_, _, List.getElem?_eq_getElem (by omega), List.getElem?_eq_getElem (by omega), hh j hj, fun b hb => Zad _ hb⟩
theorem GRL.cons_inv  (h : GRL w Fs vs (g :: gs)) : ∃ v F vs' Fs', vs = v :: vs' ∧ Fs = F :: Fs' ∧ GRep w F v g ∧ GRL w Fs' vs' gs := by
 cases h with
 | cons h1 h2 => exact ⟨_, _, _, _, rfl, rfl, h1, h2⟩
theorem MarkC.one  {f : FuncId} {x x' : GV}  {c : Nat} (h : MarkC P f false [x] [x'] k c)    (hg : GRep w F v x) (hnd : F.Nodup) :
  Calls P f #[v, .int .i64 k] w (fun e w' => e = .returned (.int .i64 (k + c)) ∧ GRep w' F v x' ∧ Keeps F w w' ∧ SameRows w w') := by
 refine (h.calls w [F] [v] (.cons hg .nil) (by simpa using hnd)).mono ?_
 rintro e w' ⟨h1, h2, h3, h4⟩
 obtain ⟨v', F', vs', Fs', e1, e2, g1, _⟩ := h2.cons_inv
 cases e1; cases e2
 exact ⟨h1, g1, by simpa using h3, h4⟩
def cntG {α : Type} (cn : α → Nat) : List α → Nat
 | [] => 0
 | x :: xs => cn x + cntG cn xs
abbrev cntR : List (List Int) → Nat := cntG List.length
def cntP (p : List Int × List Int) : Nat := p.1.length + p.2.length
abbrev Zis : List (List Int × List Int) → Nat := cntG cntP
end Go.Proofs.YtnieejghoaccmaaGreat

namespace Go.Proofs.YtnieejghoaccmaaGreat
open Go.RowKit
open Shp
variable {α : Type} {o q k t W : Int} {m L : Nat} {a : List Int} {b : Bool}
def bit (b : Bool) : Int := if b then 1 else 0
def Zcq (k q : Int) (a b : Bool) : Int :=
 if k = 1 then max q (1 - bit a) else if k = 2 then (if q = 2 ∨ (q = 1 ∧ b = false) then 2 else bit a) else if k = 3 then (if b = true then 0 else max q (bit a))
 else if k = 4 then bit a else if k = 5 then 1 - bit a else if k = 6 then max q (bit a) else 2 * bit a + bit b
def Zbz (k : Int) : Nat := if k = 2 then 3 else if k = 7 then 4 else 2
def ZcN (k : Int) (a b : List Int) (L : Nat) (q : Int) : List Int := (List.range L).map fun (x : Nat) => Zcq k q (has a x) (has b x)
def monN (k : Int) (a b : List Int) (L : Nat) : List (List Int) := (List.range (Zbz k)).map fun (q : Nat) => ZcN k a b L q
def monP (k : Int) : List Int × List Int := if k = 1 ∨ k = 5 then ([1], []) else if k = 2 then ([2], []) else if k = 3 then ([1], [0]) else if k = 4 then ([0, 1], [1]) else if k = 6 then ([0], []) else ([2, 3], [1, 3])
def monB (i o k : Int) (a b : List Int) : List (List Int) × List (List Int × List Int) := if (sigB i o && ZdE (Zaa i o) k a b) = true then (monN k a b (Zaa i o).toNat, [monP k]) else ([], [])
theorem Zbo  {b : List Int}   : (ZcN k a b L q).length = L := by simp [ZcN]
theorem ZiV  {b : List Int}   {x : Nat} (h : x < L) : (ZcN k a b L q).take x ++ [Zcq k q (has a x) (has b x)] = (ZcN k a b L q).take (x + 1) := by
 rw [Zce (by rw [Zbo]; exact h), Zbu (by rw [Zbo]; exact h)]; simp [ZcN]
theorem ZbY  {b : List Int}  : (monN k a b L).length = Zbz k := by simp [monN]
theorem ZiB  {b : List Int}  {q : Nat} (h : q < Zbz k) : (monN k a b L).take q ++ [ZcN k a b L q] = (monN k a b L).take (q + 1) := by
 rw [Zce (by rw [ZbY]; exact h), Zbu (by rw [ZbY]; exact h)]; simp [monN]
theorem Zmd (k : Int) : 2 ≤ Zbz k ∧ Zbz k ≤ 4 := by unfold Zbz; split; omega; split <;> omega
theorem ZfQ {n : Int} {b : List Int} (h : ZdE n k a b = true) : 1 ≤ k ∧ k ≤ 7 := by
 unfold ZdE at h; simp only [Bool.and_eq_true, decide_eq_true_eq] at h; omega
theorem bit0 : bit b = 0 ↔ b = false := by cases b <;> decide
theorem bit1 : bit b = 1 ↔ b = true := by cases b <;> decide
theorem ZzG  {a : Bool} (hk : k = 2) (hq : q = 1) (hb : bit b = 0) : 2 = Zcq k q a b := by
 subst hk hq; rw [bit0.1 hb]; rfl
theorem Zzr  {a : Bool} (hk : k = 2) (h2 : ¬ q = 2) (hq : q = 1) (hb : ¬ bit b = 0) : bit a = Zcq k q a b := by
 subst hk hq; cases b
 ·exact absurd rfl hb
 ·rfl
theorem Zzb  {a : Bool} (hk : k = 3) (hb : bit b = 1) : 0 = Zcq k q a b := by
 subst hk; rw [bit1.1 hb]; rfl
theorem ZAn  {a : Bool} (hk : k = 3) (hb : ¬ bit b = 1) : max q (bit a) = Zcq k q a b := by
 subst hk; cases b
 ·rfl
 ·exact absurd rfl hb
theorem Zoa  (hk : 1 ≤ k ∧ k ≤ 7) : (k = 2 → Zbz k = 3) ∧ (k = 7 → Zbz k = 4) ∧ (¬ k = 2 → ¬ k = 7 → Zbz k = 2) := by
 unfold Zbz
 refine ⟨fun h => by rw [if_pos h], fun h => ?_, fun h h2 => by rw [if_neg h, if_neg h2]⟩
 subst h; rfl
theorem Zqt  {xs : List α} {q : Nat} (h : xs.length ≤ q) : (xs.take q).take q = xs := by
 rw [List.take_take, Nat.min_self, List.take_of_length_le h]
end Go.Proofs.YtnieejghoaccmaaGreat

namespace Go.Proofs.YtnieejghoaccmaaGreat
open Go.RowKit
open Shp
end Go.Proofs.YtnieejghoaccmaaGreat

namespace Go.Proofs.YtnieejghoaccmaaGreat
open Go.RowKit
open Shp
variable {n out : List (List Int)} {o k j : Int} {a b : List Int}
theorem ZgQ {α : Type} {cn : α → Nat} {m : Nat} : ∀ {xs : List α}, (∀ x ∈ xs, cn x ≤ m) → cntG cn xs ≤ xs.length * m
 | [], _ => by simp [cntG]
 | x :: xs, h => by
  have h1 := h x (.head _)
  have h2 := ZgQ (xs := xs) fun y hy => h y (.tail _ hy)
  simp only [cntG, List.length_cons, Nat.add_mul, Nat.one_mul]; omega
end Go.Proofs.YtnieejghoaccmaaGreat

