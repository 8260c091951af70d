/- The contracts on words once more, over the shape of a word. Conditions: the word lies in memory. -/
import Derived.Test.YtknkdgacdeeemaaWord5
import Derived.Test.YtknkdgacdeeemaaOpen
import Derived.Test.YtknkdgacdeeemaaRegion
namespace Go.Proofs.Ytknkdgacdeeemaa
open Go.RowKit
open Shp

theorem o_word : Opens Try.prog 46 wordS :=
  Opens.by_ (opens_two Try.underlying46 (by kernel_rfl) rfl rfl o_ints o_ints) _ (fun p => ⟨p.1, p.2⟩) (fun _ => rfl)

theorem wordS_open {w : World} {F : List Nat} {cs : List Value} {x : WordT} (h : wordS.rep w F cs x) : ∃ a ca b cb, cs = [.slice a x.stem.length ca, .slice b x.loop.length cb] := by
  obtain ⟨a, ca, F1, b, cb, F2, rfl, _⟩ := wordS_iff.1 h
  exact ⟨a, ca, b, cb, rfl⟩

def wordSmall (x : WordT) : Prop := x.stem.length ≤ 1048576 ∧ x.loop.length ≤ 1048576

theorem szWord_small {x : WordT} {l : Int} (h : ¬ szWord x l < 0) (hl : l ≤ 1048576 := by omega) : wordSmall x ∧ (0 ≤ szWord x l ∧ szWord x l ≤ 1048576) := by
  have h1 := szWord_ok h
  refine ⟨⟨by omega, by omega⟩, by omega, ?_⟩
  unfold szWord at h ⊢
  split
  · omega
  · rename_i h2
    rw [if_neg h2] at h
    have := (sz_ok h).2
    have := (sz_ok h2).2
    omega

section
variable {w : World} {F : List Nat} {cs : List Value} {x : WordT}

theorem Word_to (h : wordS.rep w F cs x) (hs : wordSmall x) : Calls Try.prog 33 #[wordS.val cs] w (wordS.Ret w x) := by
  obtain ⟨a, ca, F1, b, cb, F2, rfl, rfl, hx, hy⟩ := wordS_iff.1 h
  obtain ⟨xs, ys⟩ := x
  obtain ⟨h1, h2⟩ := hs
  simp only at h1 h2
  exact toWord_any hx hy (Nat.le_trans h1 (by omega)) (Nat.le_trans h2 (by omega))

theorem Word_sz (h : wordS.rep w F cs x) (l : Int) (h0 : 0 ≤ l) (h1 : l ≤ 1048576) : Calls Try.prog 31 #[wordS.val cs, .int .i64 l] w (Pure w (.int .i64 (szWord x l))) := by
  obtain ⟨a, ca, F1, b, cb, F2, rfl, rfl, hx, hy⟩ := wordS_iff.1 h
  obtain ⟨xs, ys⟩ := x
  exact szWord_any hx hy l h0 h1

def wordEq (x y : WordT) : Bool := eqL x.stem y.stem && eqL x.loop y.loop
theorem Word_eq_refl (x : WordT) : wordEq x x = true := by unfold wordEq; rw [eqL_refl, eqL_refl]; rfl

theorem Word_eq {G : List Nat} {ds : List Value} {y : WordT} (h : wordS.rep w F cs x) (k : wordS.rep w G ds y) : Calls Try.prog 35 #[wordS.val cs, wordS.val ds] w (Pure w (.bool (wordEq x y))) := by
  obtain ⟨a, ca, F1, b, cb, F2, rfl, rfl, hx, hy⟩ := wordS_iff.1 h
  obtain ⟨a', ca', F1', b', cb', F2', rfl, rfl, hx', hy'⟩ := wordS_iff.1 k
  exact eqWord_any hx hy hx' hy'

theorem specWordOk_rep (h : wordS.rep w F cs x) (s : SigT) : Calls Try.prog 32 #[sigV s, wordS.val cs] w (Pure w (.bool (wordOkS s x))) := by
  obtain ⟨a, ca, F1, b, cb, F2, rfl, rfl, hx, hy⟩ := wordS_iff.1 h
  exact specWordOk_any hx hy s
theorem implWordOk_rep (h : wordS.rep w F cs x) (s : SigT) : Calls Try.prog 34 #[sigV s, wordS.val cs] w (Pure w (.bool (wordOkS s x))) := by
  obtain ⟨a, ca, F1, b, cb, F2, rfl, rfl, hx, hy⟩ := wordS_iff.1 h
  exact implWordOk_any hx hy s
theorem specLetterAt_rep (h : wordS.rep w F cs x) (i : Int) (hi : i ≤ 9223372036854775807) : Calls Try.prog 36 #[wordS.val cs, .int .i64 i] w (Pure w (.int .i64 (letterAt x i))) := by
  obtain ⟨a, ca, F1, b, cb, F2, rfl, rfl, hx, hy⟩ := wordS_iff.1 h
  exact specLetterAt_any hx hy i hi
theorem implLetterAt_rep (h : wordS.rep w F cs x) (i : Int) (hi : i ≤ 9223372036854775807) : Calls Try.prog 37 #[wordS.val cs, .int .i64 i] w (Pure w (.int .i64 (letterAt x i))) := by
  obtain ⟨a, ca, F1, b, cb, F2, rfl, rfl, hx, hy⟩ := wordS_iff.1 h
  exact implLetterAt_any hx hy i hi
end
end Go.Proofs.Ytknkdgacdeeemaa
