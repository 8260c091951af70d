/- The laws' own functions on words (copy, measure, equality, marks), and the reference's and the program's listed functions WordOk and LetterAt. Conditions: the slices lie in memory; integers fit int64. -/
import Derived.Test.YtknkdgacdeeemaaWord2
namespace Go.Proofs.Ytknkdgacdeeemaa
open Go.RowKit
open Shp

def wordS : Shp WordT := (two (slice int) (slice int)).by_ fun x => (x.stem, x.loop)

theorem wordS_iff {w : World} {F : List Nat} {cs : List Value} {x : WordT} : wordS.rep w F cs x ↔ ∃ a ca F1 b cb F2, cs = [.slice a x.stem.length ca, .slice b x.loop.length cb] ∧ F = F1 ++ F2 ∧ Ints w F1 a ca x.stem ∧ Ints w F2 b cb x.loop := by
  constructor
  · rintro ⟨c1, c2, F1, F2, rfl, rfl, h1, h2⟩
    obtain ⟨a, ca, rfl, k1⟩ := (ints_iff (xs := x.stem)).1 h1
    obtain ⟨b, cb, rfl, k2⟩ := (ints_iff (xs := x.loop)).1 h2
    exact ⟨a, ca, F1, b, cb, F2, rfl, rfl, k1, k2⟩
  · rintro ⟨a, ca, F1, b, cb, F2, rfl, rfl, h1, h2⟩
    exact ⟨_, _, F1, F2, rfl, rfl, ints_iff.2 ⟨a, ca, rfl, h1⟩, ints_iff.2 ⟨b, cb, rfl, h2⟩⟩

theorem wordS_val (u v : Value) : wordS.val [u, v] = .agg #[u, v] := rfl
attribute [go_sem] wordS_val

set_option maxHeartbeats 1000000 in
theorem toWord_any {w : World} {F G : List Nat} {a b : Option Addr} {ca cb : Nat} {xs ys : List Int} (hx : Ints w F a ca xs) (hy : Ints w G b cb ys) (n1 : xs.length ≤ 1073741824) (n2 : ys.length ≤ 1073741824) :
    Calls Try.prog 33 #[.agg #[.slice a xs.length ca, .slice b ys.length cb]] w (wordS.Ret w ⟨xs, ys⟩) := by
  go_enter Try.func33, Try.ntmps33
  go_wp2_with fail
  refine (toInt64S_any (hx.keeps0 (by repeat (first | exact Keeps.refl _ _ | assumption | apply Keeps.alloc0 | apply Keeps.drew0 | apply Keeps.drewN0 | (refine Keeps.set0 ?_ (by simp <;> omega) _) | (refine Keeps.trans0 ?_ (by assumption))))) n1).mono ?_
  rintro e w1 ⟨F1, a1, c1, rfl, hI1, hf1, hk1⟩
  have A1 : w1.heap[w.heap.size]? = some (.cells #[.slice a xs.length ca, .slice b ys.length cb] 46 (0, 0)) := hk1.box_ (box_alloc (box_alloc (box_new _ _))) (by simp)
  have R1 : w1.heap[w.heap.size + 1]? = some (.cells #[.slice none 0 0, .slice none 0 0] 49 (0, 0)) := hk1.box_ (box_alloc (by simpa using box_new (w.alloc _) _)) (by simp)
  have B1 : w1.heap[w.heap.size + 1 + 1]? = some (.cells #[.slice none 0 0, .slice none 0 0] 49 (0, 0)) := hk1.box_ (by simpa using box_new ((w.alloc _).alloc _) _) (by simp)
  have fA1 := box2 A1
  have fB1 := box2 B1
  go_wp2_with fail
  refine (toInt64S_any (hy.keeps0 (by repeat (first | exact Keeps.refl _ _ | assumption | apply Keeps.alloc0 | apply Keeps.drew0 | apply Keeps.drewN0 | (refine Keeps.set0 ?_ (by simp <;> omega) _) | (refine Keeps.trans0 ?_ (by assumption))))) n2).mono ?_
  rintro e w2 ⟨F2, a2, c2, rfl, hI2, hf2, hk2⟩
  have R2 := hk2.box_ (box_other R1 (by simp)) (by simp)
  have B2 := hk2.box_ (box_set B1) (by simp)
  simp at B2
  have fR2 := box2 R2
  have fB2 := box2 B2
  clear A1 R1 B1 R2 B2 fA1 fB1
  go_wp2_with fail
  simp at hf1 hf2
  have l1 := hk1.size
  simp at l1
  refine bodyPost_ret (v := .agg #[.slice a1 xs.length c1, .slice a2 ys.length c2]) (by simp [results, Try.results33, go_sem, fR2, fB2]) rfl ⟨_, F1 ++ F2, rfl, wordS_iff.2 ⟨a1, c1, F1, a2, c2, F2, rfl, rfl, ?_, ?_⟩, ?_, ?_, ?_⟩
  · exact hI1.keeps (L := [w.heap.size + 1 + 1, w.heap.size + 1]) (by repeat (first | exact Keeps.refl _ _ | assumption | apply Keeps.alloc0 | apply Keeps.drew0 | apply Keeps.drewN0 | (refine Keeps.setL ?_ (by simp) _) | (refine Keeps.transL ?_ (by assumption)))) (fun b hb => by have := hf1 b hb; simp; omega)
  · exact hI2.keeps (L := [w.heap.size + 1 + 1, w.heap.size + 1]) (by repeat (first | exact Keeps.refl _ _ | assumption | apply Keeps.alloc0 | apply Keeps.drew0 | apply Keeps.drewN0 | (refine Keeps.setL ?_ (by simp) _) | (refine Keeps.transL ?_ (by assumption)))) (fun b hb => by have := hf2 b hb; simp; omega)
  · exact nodup_app hI1.nodup hI2.nodup hI1.lt hf2
  · intro b hb
    rcases List.mem_append.1 hb with h | h
    · have := hf1 b h; omega
    · have := hf2 b h; omega
  · exact (by repeat (first | exact Keeps.refl _ _ | assumption | apply Keeps.alloc0 | apply Keeps.drew0 | apply Keeps.drewN0 | (refine Keeps.set0 ?_ (by simp <;> omega) _) | (refine Keeps.trans0 ?_ (by assumption))))

end Go.Proofs.Ytknkdgacdeeemaa
