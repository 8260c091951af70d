/- Lists in memory are not longer than a slice can be. Over any program; no conditions. -/
import Derived.Test.YtdkjeodenbffnaaG1
namespace Go.Proofs.Ytdkjeodenbffnaa
open Go.RowKit
open Shp

/-- Lengths that slices can have. -/
inductive GFits : GV → Prop where
  | atom (x : GV) : x.atom = true → GFits x
  | sl (e : Nat) (xs : List GV) : xs.length ≤ 9223372036854775807 → (∀ i (hi : i < xs.length), GFits xs[i]) → GFits (.sl e xs)
  | agg (xs : List GV) : (∀ i (hi : i < xs.length), GFits xs[i]) → GFits (.agg xs)
  | tup (xs : List GV) : (∀ i (hi : i < xs.length), GFits xs[i]) → GFits (.tup xs)
  | box (xs : List GV) : (∀ i (hi : i < xs.length), GFits xs[i]) → GFits (.box xs)
  | fn (f : FuncId) (xs : List GV) : (∀ i (hi : i < xs.length), GFits xs[i]) → GFits (.fn f xs)

theorem GRep.fits {w : World} {F : List Nat} {v : Value} {x : GV} (h : GRep w F v x) : GFits x := by
  induction h with
  | atom x hx => exact .atom x hx
  | fn f vs gs Fs hv hF h ih => exact .fn f gs ih
  | agg vs gs Fs hv hF h1 hg h ih => exact .agg gs ih
  | tup vs gs Fs hv hF h ih => exact .tup gs ih
  | box b vs gs Fs hb hv hF h1 hg hc h ih => exact .box gs ih
  | sl a cap e vs gs Fs hv hF he hg le max nil ad hc h ih => exact .sl e gs (by omega) ih

theorem GFits.len {e : Nat} {xs : List GV} (h : GFits (.sl e xs)) : xs.length ≤ 9223372036854775807 := by
  cases h with
  | atom x hx => simp [GV.atom] at hx
  | sl _ _ h1 h2 => exact h1
theorem GFits.el {e : Nat} {xs : List GV} (h : GFits (.sl e xs)) {x : GV} (hx : x ∈ xs) : GFits x := by
  obtain ⟨i, hi, rfl⟩ := List.getElem_of_mem hx
  cases h with
  | atom x hx => simp [GV.atom] at hx
  | sl _ _ h1 h2 => exact h2 i hi
theorem GFits.cell {xs : List GV} (h : GFits (.agg xs)) {x : GV} (hx : x ∈ xs) : GFits x := by
  obtain ⟨i, hi, rfl⟩ := List.getElem_of_mem hx
  cases h with
  | atom x hx => simp [GV.atom] at hx
  | agg _ h2 => exact h2 i hi
theorem GFits.ints {xs : List Int} (h : GFits (GV.ints xs)) : xs.length ≤ 9223372036854775807 := by simpa using h.len
theorem GFits.lenm {α : Type} {f : α → GV} {e : Nat} {xs : List α} (h : GFits (.sl e (xs.map f))) : xs.length ≤ 9223372036854775807 := by simpa using h.len
theorem GFits.elm {α : Type} {f : α → GV} {e : Nat} {xs : List α} (h : GFits (.sl e (xs.map f))) : ∀ x ∈ xs, GFits (f x) := fun x hx => h.el (List.mem_map_of_mem hx)

theorem callFunc_enter {P : Program} {F : FuncId} {fn : Func} (hf : P.funcs[F]? = some fn) (hn : (fn.name == "runtime.NumGoroutine") = false) (hb : fn.body.isNone = false) (args : Array Value) (w : World) : (callFunc F args).run P w = .ok (.enter F args) w := by
  have hn2 : ¬ fn.name = "runtime.NumGoroutine" := by simpa using hn
  have hb2 : ¬ fn.body = none := fun e => by rw [e] at hb; cases hb
  unfold callFunc
  simp [hf, hn2, hb2]
/-- The arguments' lengths may be used. -/
theorem Con.fit {P : Program} {f : FuncId} {gs : List GV} {r : GV} (he : ∀ args w, (callFunc f args).run P w = .ok (.enter f args) w) (h : (∀ i (hi : i < gs.length), GFits gs[i]) → Con P f gs r) : Con P f gs r :=
  ⟨he, fun w args hl hg => (h fun i hi => by obtain ⟨F, h1⟩ := hg i hi; exact h1.fits).calls w args hl hg⟩

end Go.Proofs.Ytdkjeodenbffnaa
