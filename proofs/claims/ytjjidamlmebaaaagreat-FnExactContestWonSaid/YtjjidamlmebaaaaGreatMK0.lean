/- Numbers written into data in memory: the plain laws of Zye. No program in sight; no conditions. -/
import Derived.Test.YtjjidamlmebaaaaGreatBase
import Derived.Test.YtjjidamlmebaaaaGreatKG
namespace Go.Proofs.YtjjidamlmebaaaaGreat
variable {α : Type} {k n j : Nat}
def Zye (k : Int) (n : Nat) : List Int := (List.range n).map fun (i : Nat) => k + (i : Int)
def sz (n : Nat) (left : Int) : Int := if left - n < 0 then -1 else left - n
end Go.Proofs.YtjjidamlmebaaaaGreat

namespace Go.Proofs.YtjjidamlmebaaaaGreat
open Go.RowKit
open Shp
variable {w w' : World} {F : List Nat} {v : Value} {xs : List Int} {a : Option Addr} {cap j : Nat} {Fs : List (List Nat)} {vs els : List Value} {gs : List GV} {α : Type} {P : Program} {k : Int}
theorem SameRows.setCell {w : World} {p : Addr} {v : Value} (hp : p.spot = none) : SameRows w (w.setCell p v) := fun b vs t hb => by
 obtain ⟨pb, o, s⟩ := p
 simp only at hp
 subst hp
 by_cases e : pb = b
 ·subst e
  exact ⟨_, ZtO hb, by simp⟩
 ·exact ⟨vs, ZpJ hb e, rfl⟩
theorem GRL.len {w : World} {Fs : List (List Nat)} {vs : List Value} {gs : List GV} (h : GRL w Fs vs gs) : vs.length = gs.length ∧ Fs.length = gs.length := by obtain ⟨a, b, _⟩ := h.get; exact ⟨a, b⟩
theorem GRL.keeps {L : List Nat} {w w' : World} {Fs : List (List Nat)} {vs : List Value} {gs : List GV} (h : GRL w Fs vs gs) (hk : Keeps L w w') (hd : ∀ b ∈ Fs.flatten, b ∉ L) : GRL w' Fs vs gs := by
 induction h with
 | nil => exact .nil
 | cons h1 h2 ih =>
  simp only [List.flatten_cons, List.mem_append] at hd
  exact .cons (h1.keeps hk fun b hb => hd b (.inl hb)) (ih fun b hb => hd b (.inr hb))
theorem GRL.keeps0  (h : GRL w Fs vs gs) (hk : Keeps [] w w') : GRL w' Fs vs gs := h.keeps hk (by simp)
theorem GRL.set {w w' : World} {Fs : List (List Nat)} {vs : List Value} {gs : List GV} (h : GRL w Fs vs gs) (hnd : Fs.flatten.Nodup) {j : Nat} {F : List Nat} {v : Value} {g : GV} (hF : Fs[j]? = some F) (hv : vs[j]? = some v) (hg : GRep w' F v g) (hk : Keeps F w w') : GRL w' Fs vs (gs.set j g) := by
 induction h generalizing j with
 | nil => exact .nil
 | @cons F0 v0 g0 Fs vs gs h1 h2 ih =>
  rw [List.flatten_cons] at hnd
  have hnd' := List.nodup_append.1 hnd
  cases j with
  | zero =>
   simp at hF hv
   subst hF; subst hv
   exact .cons hg (h2.keeps hk fun b hb hb2 => hnd'.2.2 b hb2 b hb rfl)
  | succ j =>
   simp at hF hv
   obtain ⟨hj, rfl⟩ := List.getElem?_eq_some_iff.1 hF
   exact .cons (h1.keeps hk fun b hb hb2 => hnd'.2.2 b hb b (Zac hj hb2) rfl) (ih hnd'.2.1 hF hv)
theorem GRL.at  (h : GRL w Fs vs gs)  {g : GV} (hg : gs[j]? = some g) : ∃ F v, Fs[j]? = some F ∧ vs[j]? = some v ∧ GRep w F v g ∧ ∀ b ∈ F, b ∈ Fs.flatten := by
 obtain ⟨hv, hF, hh⟩ := h.get
 obtain ⟨hj, rfl⟩ := List.getElem?_eq_some_iff.1 hg
 refine ⟨_, _, List.getElem?_eq_getElem (by omega), List.getElem?_eq_getElem (by omega), hh j hj, fun b hb => Zac _ hb⟩
theorem GRL.nodup  (_ : GRL w Fs vs gs) (hnd : Fs.flatten.Nodup)   (hF : Fs[j]? = some F) : F.Nodup := by
 obtain ⟨hj, rfl⟩ := List.getElem?_eq_some_iff.1 hF
 exact hnd.sublist (List.sublist_flatten_of_mem (List.getElem_mem _))
theorem GRL.cons_inv  {g : GV}  (h : GRL w Fs vs (g :: gs)) : ∃ v F vs' Fs', vs = v :: vs' ∧ Fs = F :: Fs' ∧ GRep w F v g ∧ GRL w Fs' vs' gs := by
 cases h with
 | cons h1 h2 => exact ⟨_, _, _, _, rfl, rfl, h1, h2⟩
theorem MarkC.one  {f : FuncId} {x x' : GV}  {c : Nat} (h : MarkC P f false [x] [x'] k c)    (hg : GRep w F v x) (hnd : F.Nodup) :
  Calls P f #[v, .int .i64 k] w (fun e w' => e = .returned (.int .i64 (k + c)) ∧ GRep w' F v x' ∧ Keeps F w w' ∧ SameRows w w') := by
 refine (h.calls w [F] [v] (.cons hg .nil) (by simpa using hnd)).mono ?_
 rintro e w' ⟨h1, h2, h3, h4⟩
 obtain ⟨v', F', vs', Fs', e1, e2, g1, _⟩ := h2.cons_inv
 cases e1; cases e2
 exact ⟨h1, g1, by simpa using h3, h4⟩
end Go.Proofs.YtjjidamlmebaaaaGreat

