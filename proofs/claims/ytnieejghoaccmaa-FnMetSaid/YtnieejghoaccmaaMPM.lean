/- States that are met again and again: the law of FnMet. No program in sight; no conditions. -/
import Derived.Test.YtnieejghoaccmaaMX
import Derived.Test.YtnieejghoaccmaaDM
namespace Go.Proofs.Ytnieejghoaccmaa
open Go.RowKit
open Shp
theorem ZkG (xs : List Int) : ZlL xs xs = true := by
 unfold ZlL
 rw [Zba (fun j hj => by simp)]; simp
section
variable {i o : Int} {n : List (List Int)} {ps : List (List Int × List Int)} {s l : List Int}
theorem Zqj (hd : detB i o n ps = true) (hw : ZaX s l (Zaa i o) = true) : 1 ≤ (metB i o n ps s l).length := by
 rw [Zj8 hd hw]
 have hg := ZbT hd
 obtain ⟨hs, hl⟩ := Zbh hw
 have hn := (ZfL hd).2.1
 have hl0 := (ZiH hw).1
 have h0 : 0 < (trN n (it (lapN n l) n.length (goN n 0 s)) l).length := by rw [Zch]; omega
 have hm : nth (trN n (it (lapN n l) n.length (goN n 0 s)) l) 0 ∈ metN n s l := (ZgU hg hs hl hn).2 ⟨n.length, Nat.le_refl _, Zbk h0⟩
 rcases Nat.eq_zero_or_pos (metN n s l).length with h | h
 ·rw [List.eq_nil_of_length_eq_zero h] at hm; cases hm
 ·exact h
theorem Zqk (h : (metB i o n ps s l).length = 0) : detB i o n ps = false ∨ ZaX s l (Zaa i o) = false := by
 cases hd : detB i o n ps with
 | false => exact .inl rfl
 | true =>
  cases hw : ZaX s l (Zaa i o) with
  | false => exact .inr rfl
  | true => have := Zqj hd hw; omega
theorem Zpe (h : (metB i o n ps s l).length ≠ 0) (hx : ZaX (s ++ l) l (Zaa i o) = true) : metB i o n ps (s ++ l) l = metB i o n ps s l := by
 cases hd : detB i o n ps with
 | false => rw [Zd2 hd] at h; simp at h
 | true =>
  cases hw : ZaX s l (Zaa i o) with
  | false => rw [Zdp hw] at h; simp at h
  | true =>
   rw [Zj8 hd hw, Zj8 hd hx]
   have hg := ZbT hd
   obtain ⟨hs, hl⟩ := Zbh hw
   exact Zqg hg hs hl (ZfL hd).2.1 (ZiH hw).1
end
end Go.Proofs.Ytnieejghoaccmaa

