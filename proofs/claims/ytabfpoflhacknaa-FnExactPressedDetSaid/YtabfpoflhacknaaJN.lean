/- Two automata joined: pairs as rows, parts of pairs, what the product is. No program in sight; no conditions. -/
import Derived.Test.YtabfpoflhacknaaJM
set_option linter.unusedSimpArgs false
set_option linter.unusedVariables false
namespace Go.Proofs.Ytabfpoflhacknaa
open Go.RowKit
open Shp

/-- a part of each row -/
def colR (ms : List (List Int)) (t : Nat) : List Int := ms.map fun r => nth r t
theorem colR_len {ms : List (List Int)} {t : Nat} : (colR ms t).length = ms.length := by simp [colR]
theorem colR_nth {ms : List (List Int)} {t k : Nat} (h : k < ms.length) : nth (colR ms t) k = nth (nth ms k) t := nth_map h
def pairsM (ps : List (List Int × List Int)) (ms : List (List Int)) (t : Nat) : List (List Int × List Int) := pairsP ps (colR ms t)
theorem pairsP_len {ps : List (List Int × List Int)} {xs : List Int} : (pairsP ps xs).length = ps.length := by simp [pairsP]
theorem pairsP_take {ps : List (List Int × List Int)} {xs : List Int} {q : Nat} (h : q < ps.length) : (pairsP ps xs).take q ++ [(inPart (nth ps q).1 xs xs.length, inPart (nth ps q).2 xs xs.length)] = (pairsP ps xs).take (q + 1) := map_take_snoc (g := pairP xs) h
theorem pairsM_len {ps : List (List Int × List Int)} {ms : List (List Int)} {t : Nat} : (pairsM ps ms t).length = ps.length := pairsP_len
theorem pairsM_take {ps : List (List Int × List Int)} {ms : List (List Int)} {t q : Nat} (h : q < ps.length) : (pairsM ps ms t).take q ++ [(inPart (nth ps q).1 (colR ms t) (colR ms t).length, inPart (nth ps q).2 (colR ms t) (colR ms t).length)] = (pairsM ps ms t).take (q + 1) := pairsP_take h
theorem inPart_yesM {s : List Int} {ms : List (List Int)} {t x : Nat} (hx : x < ms.length) (h : has s (nth (nth ms x) t) = true) : inPart s (colR ms t) x ++ [(x : Int)] = inPart s (colR ms t) (x + 1) := inPart_yes (by rw [colR_nth hx]; exact h)
theorem inPart_noM {s : List Int} {ms : List (List Int)} {t x : Nat} (hx : x < ms.length) (h : has s (nth (nth ms x) t) = false) : inPart s (colR ms t) x = inPart s (colR ms t) (x + 1) := inPart_no (by rw [colR_nth hx]; exact h)
/-! both automata, one after the other -/
/-! the search: one letter more -/
section
variable {a b : List (List Int)} {os ps : List (Int × Int)} {k x : Nat}
/-- all letters before have been met -/
def Seen (a b : List (List Int)) (ps : List (Int × Int)) (q : Int × Int) (x : Nat) : Prop := ∀ y ∈ (succP a b q).take x, y ∈ ps
theorem Seen.zero {q : Int × Int} : Seen a b ps q 0 := fun y hy => by simp at hy
theorem Seen.no {q : Int × Int} (h : Seen a b ps q x) (hx : x < (nth a q.1.toNat).length) : Seen a b (ps ++ [(nth (nth a q.1.toNat) x, nth (nth b q.2.toNat) x)]) q (x + 1) := fun y hy => by
  have hx' : x < (rowN a q.1).length := hx
  rw [take_nth (by rw [succP_len]; exact hx'), succP_nth hx'] at hy
  rcases List.mem_append.1 hy with h1 | h1
  · exact List.mem_append.2 (.inl (h y h1))
  · simp only [List.mem_singleton] at h1; subst h1; exact List.mem_append.2 (.inr (by simp [rowN]))
theorem Seen.all {q : Int × Int} (h : Seen a b ps q x) (hx : (nth a q.1.toNat).length ≤ x) : ∀ y ∈ succP a b q, y ∈ ps := fun y hy => by
  have hx' : (rowN a q.1).length ≤ x := hx
  exact h y (by rw [List.take_of_length_le (by rw [succP_len]; exact hx')]; exact hy)
theorem Clo.step (hc : Clo a b os k) (g4 : Ext os ps) (hk : k < os.length) (h : ∀ y ∈ succP a b (nth os k), y ∈ ps) : Clo a b ps (k + 1) := (hc.ext g4 (by omega)).next (by rw [g4.nth hk]; exact h)
end
end Go.Proofs.Ytabfpoflhacknaa

