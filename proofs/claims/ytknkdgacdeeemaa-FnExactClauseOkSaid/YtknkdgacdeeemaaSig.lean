/- The functions of an interface, the program's and the reference's: each returns the plain number of 'SigM'. Conditions: integers fit int64. -/
import Derived.Test.YtknkdgacdeeemaaBase
import Derived.Test.YtknkdgacdeeemaaSigM
namespace Go.Proofs.Ytknkdgacdeeemaa
open Go.RowKit
open Shp

def sigV (s : SigT) : Value := .agg #[.int .i64 s.i, .int .i64 s.o]


set_option maxHeartbeats 400000 in
theorem l1In_any (x lo hi : Int) (w : World) :
    Calls Try.prog 49 #[.int .i64 x, .int .i64 lo, .int .i64 hi] w fun e w' => e = .returned (.bool (inR x lo hi)) ∧ w = w' := by
  by_cases h : lo ≤ x
  · go_enter Try.func49, Try.ntmps49
    go_wp2
    go_ret
    exact ⟨ret_bool (by unfold inR; simp [h]), rfl⟩
  · go_enter Try.func49, Try.ntmps49
    go_wp2
    go_ret
    exact ⟨ret_bool (by unfold inR; simp; omega), rfl⟩

set_option maxHeartbeats 400000 in
theorem isSig_any (s : SigT) (w : World) :
    Calls Try.prog 51 #[sigV s] w (Pure w (.bool (sigOk s))) := by
  obtain ⟨x, y⟩ := s
  unfold sigV Pure
  by_cases h1 : 1 ≤ x
  · by_cases h2 : x ≤ 2
    · by_cases h3 : 1 ≤ y
      · by_cases h4 : y ≤ 2
        · rw [sig_mk (s := ⟨x, y⟩) h1 h2 h3 h4]
          go_enter Try.func51, Try.ntmps51
          go_wp2
          go_ret
          exact ⟨rfl, (Keeps.refl _ _).alloc0 _⟩
        · rw [sig_no (s := ⟨x, y⟩) (by simp; omega)]
          go_enter Try.func51, Try.ntmps51
          go_wp2
          go_ret
          exact ⟨rfl, (Keeps.refl _ _).alloc0 _⟩
      · rw [sig_no (s := ⟨x, y⟩) (by simp; omega)]
        go_enter Try.func51, Try.ntmps51
        go_wp2
        go_ret
        exact ⟨rfl, (Keeps.refl _ _).alloc0 _⟩
    · rw [sig_no (s := ⟨x, y⟩) (by simp; omega)]
      go_enter Try.func51, Try.ntmps51
      go_wp2
      go_ret
      exact ⟨rfl, (Keeps.refl _ _).alloc0 _⟩
  · rw [sig_no (s := ⟨x, y⟩) (by simp; omega)]
    go_enter Try.func51, Try.ntmps51
    go_wp2
    go_ret
    exact ⟨rfl, (Keeps.refl _ _).alloc0 _⟩

set_option maxHeartbeats 400000 in
theorem SigOk_any (s : SigT) (w : World) :
    Calls Try.prog 48 #[sigV s] w (Pure w (.bool (sigOk s))) := by
  obtain ⟨x, y⟩ := s
  unfold sigV Pure
  cases h1 : inR x 1 2
  · go_enter Try.func48, Try.ntmps48
    go_wp2_with (go_at_call 49; refine (l1In_any _ _ _ _).mono ?_; rintro e w' ⟨rfl, rfl⟩)
    go_ret
    exact ⟨ret_bool (by unfold inR at h1; unfold sigOk; simp at h1 ⊢; omega), (Keeps.refl _ _).alloc0 _⟩
  · go_enter Try.func48, Try.ntmps48
    go_wp2_with (go_at_call 49; refine (l1In_any _ _ _ _).mono ?_; rintro e w' ⟨rfl, rfl⟩)
    go_ret
    exact ⟨ret_bool (by unfold inR at *; unfold sigOk; rw [Bool.eq_iff_iff]; simp at h1 ⊢; omega), (Keeps.refl _ _).alloc0 _⟩

set_option maxHeartbeats 400000 in
theorem l23Power_any (n : Int) (h0 : 0 ≤ n) (h4 : n ≤ 4) (w : World) :
    Calls Try.prog 50 #[.int .i64 n] w fun e w' => e = .returned (.int .i64 (p2 n)) ∧ w = w' := by
  have h : n = 0 ∨ n = 1 ∨ n = 2 ∨ n = 3 ∨ n = 4 := by omega
  rcases h with rfl | rfl | rfl | rfl | rfl
  all_goals
    go_enter Try.func50, Try.ntmps50
    go_wp2
    refine wp_loop_rounds 5 ?_
    repeat any_goals (rw [rounds_succ]; go_wp2)
    go_ret
    exact ⟨rfl, rfl⟩

set_option maxHeartbeats 400000 in
theorem inputsOf_any (s : SigT) (h : sigOk s = true) (w : World) :
    Calls Try.prog 52 #[sigV s] w (Pure w (.int .i64 (p2 s.i))) := by
  obtain ⟨x, y⟩ := s
  obtain ⟨h1, _⟩ := sig_cases h
  simp only at h1
  unfold sigV Pure
  rcases h1 with rfl | rfl
  all_goals
    go_enter Try.func52, Try.ntmps52
    go_wp2
    go_ret
    exact ⟨rfl, (Keeps.refl _ _).alloc0 _⟩

set_option maxHeartbeats 400000 in
theorem lettersOf_any (s : SigT) (h : sigOk s = true) (w : World) :
    Calls Try.prog 53 #[sigV s] w (Pure w (.int .i64 (letters s))) := by
  obtain ⟨x, y⟩ := s
  rw [letters_ok h]
  obtain ⟨h1, h2⟩ := sig_cases h
  simp only at h1 h2
  unfold sigV Pure
  rcases h1 with rfl | rfl <;> rcases h2 with rfl | rfl
  all_goals
    go_enter Try.func53, Try.ntmps53
    go_wp2
    go_ret
    exact ⟨rfl, (Keeps.refl _ _).alloc0 _⟩

end Go.Proofs.Ytknkdgacdeeemaa
