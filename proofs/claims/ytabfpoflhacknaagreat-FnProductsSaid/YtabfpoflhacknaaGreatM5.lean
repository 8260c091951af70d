/- Contracts: machines side by side. No conditions but those that each theorem names. -/
import Derived.Test.YtabfpoflhacknaaGreatBase
import Derived.Test.YtabfpoflhacknaaGreatKG
import Derived.Test.YtabfpoflhacknaaGreatMF
import Derived.Test.YtabfpoflhacknaaGreatMT
import Derived.Test.YtabfpoflhacknaaGreatTab
import Derived.Test.YtabfpoflhacknaaGreatM2
import Derived.Test.YtabfpoflhacknaaGreatChecked
namespace Go.Proofs.YtabfpoflhacknaaGreat
variable {α : Type} {k n j : Nat}
def marks (k : Int) (n : Nat) : List Int := (List.range n).map fun (i : Nat) => k + (i : Int)
def sz (n : Nat) (left : Int) : Int := if left - n < 0 then -1 else left - n
end Go.Proofs.YtabfpoflhacknaaGreat

namespace Go.Proofs.YtabfpoflhacknaaGreat
open Go.RowKit
open Shp
variable {w w' : World} {F : List Nat} {v : Value} {xs : List Int} {a : Option Addr} {cap j : Nat} {Fs : List (List Nat)} {vs els : List Value} {gs : List GV} {g : GV} {α : Type} {P : Program} {k : Int}
theorem SameRows.setCell {w : World} {p : Addr} {v : Value} (hp : p.spot = none) : SameRows w (w.setCell p v) := fun b vs t hb => by
 obtain ⟨pb, o, s⟩ := p
 simp only at hp
 subst hp
 by_cases e : pb = b
 ·subst e
  exact ⟨_, Zxe hb, by simp⟩
 ·exact ⟨vs, ZqA hb e, rfl⟩
theorem GRL.len {w : World} {Fs : List (List Nat)} {vs : List Value} {gs : List GV} (h : GRL w Fs vs gs) : vs.length = gs.length ∧ Fs.length = gs.length := by obtain ⟨a, b, _⟩ := h.get; exact ⟨a, b⟩
theorem GRL.keeps {L : List Nat} {w w' : World} {Fs : List (List Nat)} {vs : List Value} {gs : List GV} (h : GRL w Fs vs gs) (hk : Keeps L w w') (hd : ∀ b ∈ Fs.flatten, b ∉ L) : GRL w' Fs vs gs := by
 induction h with
 | nil => exact .nil
 | cons h1 h2 ih =>
  simp only [List.flatten_cons, List.mem_append] at hd
  exact .cons (h1.keeps hk fun b hb => hd b (.inl hb)) (ih fun b hb => hd b (.inr hb))
theorem GRL.keeps0  (h : GRL w Fs vs gs) (hk : Keeps [] w w') : GRL w' Fs vs gs := h.keeps hk (by simp)
theorem GRL.set {w w' : World} {Fs : List (List Nat)} {vs : List Value} {gs : List GV} (h : GRL w Fs vs gs) (hnd : Fs.flatten.Nodup) {j : Nat} {F : List Nat} {v : Value} {g : GV} (hF : Fs[j]? = some F) (hv : vs[j]? = some v) (hg : GRep w' F v g) (hk : Keeps F w w') : GRL w' Fs vs (gs.set j g) := by
 induction h generalizing j with
 | nil => exact .nil
 | @cons F0 v0 g0 Fs vs gs h1 h2 ih =>
  rw [List.flatten_cons] at hnd
  have hnd' := List.nodup_append.1 hnd
  cases j with
  | zero =>
   simp at hF hv
   subst hF; subst hv
   exact .cons hg (h2.keeps hk fun b hb hb2 => hnd'.2.2 b hb2 b hb rfl)
  | succ j =>
   simp at hF hv
   obtain ⟨hj, rfl⟩ := List.getElem?_eq_some_iff.1 hF
   exact .cons (h1.keeps hk fun b hb hb2 => hnd'.2.2 b hb b (Zag hj hb2) rfl) (ih hnd'.2.1 hF hv)
theorem GRL.at  (h : GRL w Fs vs gs)   (hg : gs[j]? = some g) : ∃ F v, Fs[j]? = some F ∧ vs[j]? = some v ∧ GRep w F v g ∧ ∀ b ∈ F, b ∈ Fs.flatten := by
 obtain ⟨hv, hF, hh⟩ := h.get
 obtain ⟨hj, rfl⟩ := List.getElem?_eq_some_iff.1 hg
 refine ⟨_, _, List.getElem?_eq_getElem (by omega), List.getElem?_eq_getElem (by omega), hh j hj, fun b hb => Zag _ hb⟩
theorem GRL.cons_inv  (h : GRL w Fs vs (g :: gs)) : ∃ v F vs' Fs', vs = v :: vs' ∧ Fs = F :: Fs' ∧ GRep w F v g ∧ GRL w Fs' vs' gs := by
 cases h with
 | cons h1 h2 => exact ⟨_, _, _, _, rfl, rfl, h1, h2⟩
theorem MarkC.one  {f : FuncId} {x x' : GV}  {c : Nat} (h : MarkC P f false [x] [x'] k c)    (hg : GRep w F v x) (hnd : F.Nodup) :
  Calls P f #[v, .int .i64 k] w (fun e w' => e = .returned (.int .i64 (k + c)) ∧ GRep w' F v x' ∧ Keeps F w w' ∧ SameRows w w') := by
 refine (h.calls w [F] [v] (.cons hg .nil) (by simpa using hnd)).mono ?_
 rintro e w' ⟨h1, h2, h3, h4⟩
 obtain ⟨v', F', vs', Fs', e1, e2, g1, _⟩ := h2.cons_inv
 cases e1; cases e2
 exact ⟨h1, g1, by simpa using h3, h4⟩
end Go.Proofs.YtabfpoflhacknaaGreat

namespace Go.Proofs.YtabfpoflhacknaaGreat
open Go.RowKit
open Shp
variable {α : Type} {o q k t W : Int} {m L : Nat} {a : List Int} {b : Bool}
def bit (b : Bool) : Int := if b then 1 else 0
def ZbT (k q : Int) (a b : Bool) : Int :=
 if k = 1 then max q (1 - bit a) else if k = 2 then (if q = 2 ∨ (q = 1 ∧ b = false) then 2 else bit a) else if k = 3 then (if b = true then 0 else max q (bit a))
 else if k = 4 then bit a else if k = 5 then 1 - bit a else if k = 6 then max q (bit a) else 2 * bit a + bit b
def Zaj (k : Int) : Nat := if k = 2 then 3 else if k = 7 then 4 else 2
def ZaL (k : Int) (a b : List Int) (L : Nat) (q : Int) : List Int := (List.range L).map fun (x : Nat) => ZbT k q (has a x) (has b x)
def monN (k : Int) (a b : List Int) (L : Nat) : List (List Int) := (List.range (Zaj k)).map fun (q : Nat) => ZaL k a b L q
def monP (k : Int) : List Int × List Int := if k = 1 ∨ k = 5 then ([1], []) else if k = 2 then ([2], []) else if k = 3 then ([1], [0]) else if k = 4 then ([0, 1], [1]) else if k = 6 then ([0], []) else ([2, 3], [1, 3])
theorem Zat  {b : List Int}   : (ZaL k a b L q).length = L := by simp [ZaL]
theorem Zey  {b : List Int}   {x : Nat} (h : x < L) : (ZaL k a b L q).take x ++ [ZbT k q (has a x) (has b x)] = (ZaL k a b L q).take (x + 1) := by
 rw [ZbX (by rw [Zat]; exact h), Zbi (by rw [Zat]; exact h)]; simp [ZaL]
theorem Zan  {b : List Int}  : (monN k a b L).length = Zaj k := by simp [monN]
theorem Za4  {b : List Int}  {q : Nat} (h : q < Zaj k) : (monN k a b L).take q ++ [ZaL k a b L q] = (monN k a b L).take (q + 1) := by
 rw [ZbX (by rw [Zan]; exact h), Zbi (by rw [Zan]; exact h)]; simp [monN]
theorem Zbl (k : Int) : 2 ≤ Zaj k ∧ Zaj k ≤ 4 := by unfold Zaj; split; omega; split <;> omega
theorem Ze1 {n : Int} {b : List Int} (h : ZbR n k a b = true) : 1 ≤ k ∧ k ≤ 7 := by
 unfold ZbR at h; simp only [Bool.and_eq_true, decide_eq_true_eq] at h; omega
theorem bit1 : bit b = 1 ↔ b = true := by cases b <;> decide
theorem Zbf  (hk : 1 ≤ k ∧ k ≤ 7) : (k = 2 → Zaj k = 3) ∧ (k = 7 → Zaj k = 4) ∧ (¬ k = 2 → ¬ k = 7 → Zaj k = 2) := by
 unfold Zaj
 refine ⟨fun h => by rw [if_pos h], fun h => ?_, fun h h2 => by rw [if_neg h, if_neg h2]⟩
 subst h; rfl
theorem Zbk  {xs : List α} {q : Nat} (h : xs.length ≤ q) : (xs.take q).take q = xs := by
 rw [List.take_take, Nat.min_self, List.take_of_length_le h]
theorem Zgh  (hk : 1 ≤ k ∧ k ≤ 7) : (k = 1 ∨ k = 5 → monP k = ([1], [])) ∧ (k = 2 → monP k = ([2], [])) ∧ (k = 3 → monP k = ([1], [0])) ∧ (k = 4 → monP k = ([0, 1], [1])) ∧ (k = 6 → monP k = ([0], [])) ∧ (k = 7 → monP k = ([2, 3], [1, 3])) := by
 refine ⟨?_, ?_, ?_, ?_, ?_, ?_⟩
 ·rintro (rfl | rfl) <;> rfl
 all_goals (rintro rfl; rfl)
end Go.Proofs.YtabfpoflhacknaaGreat

namespace Go.Proofs.YtabfpoflhacknaaGreat
open Go.RowKit
open Shp
variable {n out : List (List Int)} {o k j : Int} {a b : List Int}
end Go.Proofs.YtabfpoflhacknaaGreat

namespace Go.Proofs.YtabfpoflhacknaaGreat
open Go.RowKit
open Shp
end Go.Proofs.YtabfpoflhacknaaGreat

namespace Go.Proofs.YtabfpoflhacknaaGreat
open Go.RowKit
open Shp
abbrev GV.pr (p : Int × Int) : GV := .agg [.i p.1, .i p.2]
abbrev GV.prs (ps : List (Int × Int)) : GV := .sl 2 (ps.map GV.pr)
abbrev GV.detP (d : List (List Int) × List (List Int × List Int)) : GV := .det d.1 d.2
end Go.Proofs.YtabfpoflhacknaaGreat

namespace Go.Proofs.YtabfpoflhacknaaGreat
open Go.RowKit
open Shp
end Go.Proofs.YtabfpoflhacknaaGreat

namespace Go.Proofs.YtabfpoflhacknaaGreat
open Go.RowKit
open Shp
def Zh6 : Nat → List Nat
 | 0 => [0, 3]
 | 1 => [0, 3, 7, 8]
 | 2 => [0, 3, 7, 8, 9]
 | 3 => [0, 3, 5, 7, 8]
 | 4 => [0, 3, 5, 7, 8, 16]
 | 5 => [4]
 | 6 => [0, 3, 7, 8]
 | 7 => [4]
 | _ => []
theorem Zdo (args : Array Value) (w : World) : (callFunc 57 args).run Tryz.prog w = .ok (.enter 57 args) w := Zab Tryz.func57 (by decide) rfl args w
set_option maxHeartbeats 1000000 in
theorem Zlo (xs : List (Int × Int)) (x : Int × Int) : Con Tryz.prog 57 [.prs xs, .pr x] (.i (ZbS xs x)) := by
 refine Con.fit Zdo fun hfit => ?_
 have hb_xs : xs.length ≤ 9223372036854775807 := GFits.lenm (show GFits (.prs xs) from hfit 0 (ZL rfl))
 clear hfit
 refine gCon Zh6 Zad (rs := [.tmp 4]) (sl := [(0, .g (.prs xs)), (1, .g (.pr x))]) Tryz.func57 rfl Tryz.ntmps57 rfl Zdo rfl (by repeat constructor) ?_
 (repeat' (first | ((with_reducible apply gLB.cagg); (. exact RF.mk ⟨rfl, rfl, rfl⟩)) | ((with_reducible apply gLI.cagg); (. exact RF.mk ⟨rfl, rfl, rfl⟩)) | (with_reducible constructor) | exact Z2 | exact ZN | exact ZS | (with_reducible intro hc; (try simp only [HCs] at hc)) | exact OB_f | exact ZK | (with_reducible first | apply gNK | apply Zam | apply Zaf | apply Zaq | apply ZaC | apply Zai | apply ZaR | apply Zar | apply Zas | apply Zay | apply Zap | apply Zaw | apply Za3 | apply Zax | apply Za9 | apply Zav) | apply Zah Zad | apply ZaQ Zad rfl | (apply ZaF; exact RF.mk rfl) | (refine Zak (id := 0) (ι := Nat) (fun i => ⟨[(0, .g (.prs xs)), (3, .ptr 0 0), (7, .g (.i xs.length)), (8, .g (.i i))], [(0, .box [.g (.i x.1), .g (.i x.2)])]⟩) (fun i => (i ≤ xs.length) ∧ (∀ z, z < i → (fun i => decide (nth xs i = x)) z = false)) (fun i => xs.length - i) (0) ?_ ?_ ?_; (. (apply gLX1 <;> (repeat' (first | (with_reducible constructor) | exact Z5 | exact RF.mk (by decide) | (with_reducible apply Zae) | exact ZE)))); (. (exact ⟨by omega, Zcd⟩)); (rintro i ⟨h1, h2⟩; (show TX _ _ _ _ _ [(0, .g (.prs xs)), (3, .ptr 0 0), (7, .g (.i xs.length)), (8, .g (.i i))] [(0, .box [.g (.i x.1), .g (.i x.2)])] _))) | apply gSel.ccons))
 (all_goals (first | (refine ZaJ (i + 1) ?_ ?_ ?_; (· (apply gLX1 <;> (repeat' (first | (with_reducible constructor) | exact Z5 | exact RF.mk (by decide) | (with_reducible apply Zae) | exact ZE)))); (· ((refine ⟨by omega, Zcf h2 ?_⟩; exact decide_eq_false fun e => hc e.symm))); (· exact ZW)) | (((refine Zae (EQ.mk ?_); unfold ZbS; first | exact Eq.symm (ZbW fun j hj => h2 j (by omega)) | (refine Eq.symm (Zbn i (by omega) ?_ h2); exact decide_eq_true hc.symm))); done)))
end Go.Proofs.YtabfpoflhacknaaGreat

