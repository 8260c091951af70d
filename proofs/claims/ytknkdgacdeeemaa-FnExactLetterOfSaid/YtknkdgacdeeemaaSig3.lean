/- InOf and OutOf, and the reference's LetterOf: each returns the plain number of 'SigM'. Conditions: integers fit int64. -/
import Derived.Test.YtknkdgacdeeemaaSig2
namespace Go.Proofs.Ytknkdgacdeeemaa
open Go.RowKit
open Shp

theorem inOf_no {s : SigT} {k : Int} (h : sigOk s = false ∨ k < 0 ∨ letters s ≤ k) : inOf s k = -1 := by
  unfold inOf; rw [if_neg]
  rintro ⟨h0, h1, h2⟩
  rcases h with h | h | h
  · rw [h0] at h; cases h
  all_goals omega
theorem inOf_ok {s : SigT} {k : Int} (h : sigOk s = true) (h1 : 0 ≤ k) (h2 : k < letters s) : inOf s k = k % p2 s.i := by
  unfold inOf; rw [if_pos ⟨h, h1, h2⟩]
theorem outOf_no {s : SigT} {k : Int} (h : sigOk s = false ∨ k < 0 ∨ letters s ≤ k) : outOf s k = -1 := by
  unfold outOf; rw [if_neg]
  rintro ⟨h0, h1, h2⟩
  rcases h with h | h | h
  · rw [h0] at h; cases h
  all_goals omega
theorem outOf_ok {s : SigT} {k : Int} (h : sigOk s = true) (h1 : 0 ≤ k) (h2 : k < letters s) : outOf s k = k / p2 s.i := by
  unfold outOf; rw [if_pos ⟨h, h1, h2⟩]

set_option maxHeartbeats 1000000 in
theorem implInOf_any (s : SigT) (k : Int) (w : World) :
    Calls Try.prog 21 #[sigV s, .int .i64 k] w (Pure w (.int .i64 (inOf s k))) := by
  obtain ⟨x, y⟩ := s
  unfold sigV Pure
  have hk : Keeps [] (w.alloc (.cells #[.int .i64 x, .int .i64 y] 25) ) (w.alloc (.cells #[.int .i64 x, .int .i64 y] 25) ) := Keeps.refl _ _; have hc : True := trivial
  have hlb := letters_bd ⟨x, y⟩
  cases h : sigOk ⟨x, y⟩
  · rw [inOf_no (.inl h)]
    go_enter Try.func21, Try.ntmps21
    go_wp2_with (go_at_call 51; refine (isSig_any ⟨x, y⟩ _).mono ?_; rintro e w1 ⟨rfl, hq⟩; replace hk := hk.trans hq; clear hq hc; have hc := hk.bc.1)
    go_ret
    exact ⟨rfl, hk.box⟩
  · have hpi := p2_i h
    simp only at hpi
    by_cases h1 : k < 0
    · rw [inOf_no (.inr (.inl h1))]
      go_enter Try.func21, Try.ntmps21
      go_wp2_with (go_at_call 51; refine (isSig_any ⟨x, y⟩ _).mono ?_; rintro e w1 ⟨rfl, hq⟩; replace hk := hk.trans hq; clear hq hc; have hc := hk.bc.1)
      go_ret
      exact ⟨rfl, hk.box⟩
    · by_cases h2 : letters ⟨x, y⟩ ≤ k
      · rw [inOf_no (.inr (.inr h2))]
        go_enter Try.func21, Try.ntmps21
        go_wp2_with (first | (go_at_call 51; refine (isSig_any ⟨x, y⟩ _).mono ?_; rintro e w1 ⟨rfl, hq⟩; replace hk := hk.trans hq; clear hq hc; have hc := hk.bc.1) | (go_at_call 53; refine (lettersOf_any ⟨x, y⟩ h _).mono ?_; rintro e w1 ⟨rfl, hq⟩; replace hk := hk.trans hq; clear hq hc; have hc := hk.bc.1))
        go_ret
        exact ⟨rfl, hk.box⟩
      · rw [inOf_ok h (by omega) (by omega)]
        show Calls _ _ _ _ fun e w' => e = .returned (.int .i64 (k % p2 x)) ∧ _
        have hp1 : 1 ≤ p2 x := by omega
        have hpb : p2 x ≤ 4 := by omega
        have hpz : ((p2 x) == 0) = false := by simp; omega
        go_enter Try.func21, Try.ntmps21
        go_wp2_with (first | (go_at_call 51; refine (isSig_any ⟨x, y⟩ _).mono ?_; rintro e w1 ⟨rfl, hq⟩; replace hk := hk.trans hq; clear hq hc; have hc := hk.bc.1) | (go_at_call 53; refine (lettersOf_any ⟨x, y⟩ h _).mono ?_; rintro e w1 ⟨rfl, hq⟩; replace hk := hk.trans hq; clear hq hc; have hc := hk.bc.1) | (go_at_call 52; refine (inputsOf_any ⟨x, y⟩ h _).mono ?_; rintro e w1 ⟨rfl, hq⟩; replace hk := hk.trans hq; clear hq hc; have hc := hk.bc.1))
        go_ret
        exact ⟨rfl, hk.box⟩

set_option maxHeartbeats 1000000 in
theorem specInOf_any (s : SigT) (k : Int) (w : World) :
    Calls Try.prog 20 #[sigV s, .int .i64 k] w (Pure w (.int .i64 (inOf s k))) := by
  obtain ⟨x, y⟩ := s
  unfold sigV Pure
  have hk : Keeps [] (w.alloc (.cells #[.int .i64 x, .int .i64 y] 25) ) (w.alloc (.cells #[.int .i64 x, .int .i64 y] 25) ) := Keeps.refl _ _; have hc : True := trivial
  have hlb := letters_bd ⟨x, y⟩
  cases h : inR k 0 (letters ⟨x, y⟩ - 1)
  · have hno : inOf ⟨x, y⟩ k = -1 := inOf_no (by unfold inR at h; simp at h; omega)
    rw [hno]
    go_enter Try.func20, Try.ntmps20
    go_wp2_with (first | (go_at_call 18; refine (specLettersOf_any ⟨x, y⟩ _).mono ?_; rintro e w1 ⟨rfl, hq⟩; replace hk := hk.trans hq; clear hq hc; have hc := hk.bc.1) | (go_at_call 49; refine (l1In_any _ _ _ _).mono ?_; rintro e w1 ⟨rfl, rfl⟩))
    go_ret
    exact ⟨rfl, hk.box⟩
  · have hb : 0 ≤ k ∧ k ≤ letters ⟨x, y⟩ - 1 := by unfold inR at h; simpa using h
    have hs : sigOk ⟨x, y⟩ = true := by
      cases hs : sigOk ⟨x, y⟩
      · rw [letters_no hs] at hb; omega
      · rfl
    have hpi := p2_i hs
    have hx := (sig_cases hs).1
    simp only at hpi hx
    rw [inOf_ok hs (by omega) (by omega)]
    show Calls _ _ _ _ fun e w' => e = .returned (.int .i64 (k % p2 x)) ∧ _
    have hp1 : 1 ≤ p2 x := by omega
    have hpb : p2 x ≤ 4 := by omega
    have hpz : ((p2 x) == 0) = false := by simp; omega
    have hx0 : 0 ≤ x := by omega
    have hx4 : x ≤ 4 := by omega
    go_enter Try.func20, Try.ntmps20
    go_wp2_with (first | (go_at_call 18; refine (specLettersOf_any ⟨x, y⟩ _).mono ?_; rintro e w1 ⟨rfl, hq⟩; replace hk := hk.trans hq; clear hq hc; have hc := hk.bc.1) | (go_at_call 49; refine (l1In_any _ _ _ _).mono ?_; rintro e w1 ⟨rfl, rfl⟩) | (go_at_call 50; refine (l23Power_any _ hx0 hx4 _).mono ?_; rintro e w1 ⟨rfl, rfl⟩))
    go_ret
    exact ⟨rfl, hk.box⟩

set_option maxHeartbeats 1000000 in
theorem implOutOf_any (s : SigT) (k : Int) (w : World) :
    Calls Try.prog 23 #[sigV s, .int .i64 k] w (Pure w (.int .i64 (outOf s k))) := by
  obtain ⟨x, y⟩ := s
  unfold sigV Pure
  have hk : Keeps [] (w.alloc (.cells #[.int .i64 x, .int .i64 y] 25) ) (w.alloc (.cells #[.int .i64 x, .int .i64 y] 25) ) := Keeps.refl _ _; have hc : True := trivial
  have hlb := letters_bd ⟨x, y⟩
  cases h : sigOk ⟨x, y⟩
  · rw [outOf_no (.inl h)]
    go_enter Try.func23, Try.ntmps23
    go_wp2_with (go_at_call 51; refine (isSig_any ⟨x, y⟩ _).mono ?_; rintro e w1 ⟨rfl, hq⟩; replace hk := hk.trans hq; clear hq hc; have hc := hk.bc.1)
    go_ret
    exact ⟨rfl, hk.box⟩
  · have hpi := p2_i h
    simp only at hpi
    by_cases h1 : k < 0
    · rw [outOf_no (.inr (.inl h1))]
      go_enter Try.func23, Try.ntmps23
      go_wp2_with (go_at_call 51; refine (isSig_any ⟨x, y⟩ _).mono ?_; rintro e w1 ⟨rfl, hq⟩; replace hk := hk.trans hq; clear hq hc; have hc := hk.bc.1)
      go_ret
      exact ⟨rfl, hk.box⟩
    · by_cases h2 : letters ⟨x, y⟩ ≤ k
      · rw [outOf_no (.inr (.inr h2))]
        go_enter Try.func23, Try.ntmps23
        go_wp2_with (first | (go_at_call 51; refine (isSig_any ⟨x, y⟩ _).mono ?_; rintro e w1 ⟨rfl, hq⟩; replace hk := hk.trans hq; clear hq hc; have hc := hk.bc.1) | (go_at_call 53; refine (lettersOf_any ⟨x, y⟩ h _).mono ?_; rintro e w1 ⟨rfl, hq⟩; replace hk := hk.trans hq; clear hq hc; have hc := hk.bc.1))
        go_ret
        exact ⟨rfl, hk.box⟩
      · rw [outOf_ok h (by omega) (by omega)]
        show Calls _ _ _ _ fun e w' => e = .returned (.int .i64 (k / p2 x)) ∧ _
        have hp1 : 1 ≤ p2 x := by omega
        have hpb : p2 x ≤ 4 := by omega
        have hpz : ((p2 x) == 0) = false := by simp; omega
        go_enter Try.func23, Try.ntmps23
        go_wp2_with (first | (go_at_call 51; refine (isSig_any ⟨x, y⟩ _).mono ?_; rintro e w1 ⟨rfl, hq⟩; replace hk := hk.trans hq; clear hq hc; have hc := hk.bc.1) | (go_at_call 53; refine (lettersOf_any ⟨x, y⟩ h _).mono ?_; rintro e w1 ⟨rfl, hq⟩; replace hk := hk.trans hq; clear hq hc; have hc := hk.bc.1) | (go_at_call 52; refine (inputsOf_any ⟨x, y⟩ h _).mono ?_; rintro e w1 ⟨rfl, hq⟩; replace hk := hk.trans hq; clear hq hc; have hc := hk.bc.1))
        go_ret
        exact ⟨rfl, hk.box⟩

set_option maxHeartbeats 1000000 in
theorem specOutOf_any (s : SigT) (k : Int) (w : World) :
    Calls Try.prog 22 #[sigV s, .int .i64 k] w (Pure w (.int .i64 (outOf s k))) := by
  obtain ⟨x, y⟩ := s
  unfold sigV Pure
  have hk : Keeps [] (w.alloc (.cells #[.int .i64 x, .int .i64 y] 25) ) (w.alloc (.cells #[.int .i64 x, .int .i64 y] 25) ) := Keeps.refl _ _; have hc : True := trivial
  have hlb := letters_bd ⟨x, y⟩
  cases h : inR k 0 (letters ⟨x, y⟩ - 1)
  · have hno : outOf ⟨x, y⟩ k = -1 := outOf_no (by unfold inR at h; simp at h; omega)
    rw [hno]
    go_enter Try.func22, Try.ntmps22
    go_wp2_with (first | (go_at_call 18; refine (specLettersOf_any ⟨x, y⟩ _).mono ?_; rintro e w1 ⟨rfl, hq⟩; replace hk := hk.trans hq; clear hq hc; have hc := hk.bc.1) | (go_at_call 49; refine (l1In_any _ _ _ _).mono ?_; rintro e w1 ⟨rfl, rfl⟩))
    go_ret
    exact ⟨rfl, hk.box⟩
  · have hb : 0 ≤ k ∧ k ≤ letters ⟨x, y⟩ - 1 := by unfold inR at h; simpa using h
    have hs : sigOk ⟨x, y⟩ = true := by
      cases hs : sigOk ⟨x, y⟩
      · rw [letters_no hs] at hb; omega
      · rfl
    have hpi := p2_i hs
    have hx := (sig_cases hs).1
    simp only at hpi hx
    rw [outOf_ok hs (by omega) (by omega)]
    show Calls _ _ _ _ fun e w' => e = .returned (.int .i64 (k / p2 x)) ∧ _
    have hp1 : 1 ≤ p2 x := by omega
    have hpb : p2 x ≤ 4 := by omega
    have hpz : ((p2 x) == 0) = false := by simp; omega
    have hx0 : 0 ≤ x := by omega
    have hx4 : x ≤ 4 := by omega
    go_enter Try.func22, Try.ntmps22
    go_wp2_with (first | (go_at_call 18; refine (specLettersOf_any ⟨x, y⟩ _).mono ?_; rintro e w1 ⟨rfl, hq⟩; replace hk := hk.trans hq; clear hq hc; have hc := hk.bc.1) | (go_at_call 49; refine (l1In_any _ _ _ _).mono ?_; rintro e w1 ⟨rfl, rfl⟩) | (go_at_call 50; refine (l23Power_any _ hx0 hx4 _).mono ?_; rintro e w1 ⟨rfl, rfl⟩))
    go_ret
    exact ⟨rfl, hk.box⟩

set_option maxHeartbeats 1000000 in
theorem specLetterOf_any (s : SigT) (i o : Int) (w : World) :
    Calls Try.prog 15 #[sigV s, .int .i64 i, .int .i64 o] w (Pure w (.int .i64 (letterOf s i o))) := by
  obtain ⟨x, y⟩ := s
  unfold sigV Pure
  have hk : Keeps [] (w.alloc (.cells #[.int .i64 x, .int .i64 y] 25) ) (w.alloc (.cells #[.int .i64 x, .int .i64 y] 25) ) := Keeps.refl _ _; have hc : True := trivial
  cases h : sigOk ⟨x, y⟩
  · rw [letterOf_no (.inl h)]
    go_enter Try.func15, Try.ntmps15
    go_wp2_with (go_at_call 48; refine (SigOk_any ⟨x, y⟩ _).mono ?_; rintro e w1 ⟨rfl, hq⟩; replace hk := hk.trans hq; clear hq hc; have hc := hk.bc.1)
    go_ret
    exact ⟨rfl, hk.box⟩
  · have hpi := p2_i h
    have hpo := p2_o h
    have hx := sig_cases h
    simp only at hpi hpo hx
    have hx0 : 0 ≤ x := by omega
    have hx4 : x ≤ 4 := by omega
    have hy0 : 0 ≤ y := by omega
    have hy4 : y ≤ 4 := by omega
    clear hx
    cases h1 : inR i 0 (p2 x - 1)
    · rw [letterOf_no (by unfold inR at h1; simp at h1; simp only; omega)]
      go_enter Try.func15, Try.ntmps15
      go_wp2_with (first | (go_at_call 48; refine (SigOk_any ⟨x, y⟩ _).mono ?_; rintro e w1 ⟨rfl, hq⟩; replace hk := hk.trans hq; clear hq hc; have hc := hk.bc.1) | (go_at_call 49; refine (l1In_any _ _ _ _).mono ?_; rintro e w1 ⟨rfl, rfl⟩) | (go_at_call 50; refine (l23Power_any _ (by omega) (by omega) _).mono ?_; rintro e w1 ⟨rfl, rfl⟩))
      go_ret
      exact ⟨rfl, hk.box⟩
    · cases h2 : inR o 0 (p2 y - 1)
      · rw [letterOf_no (by unfold inR at h2; simp at h2; simp only; omega)]
        go_enter Try.func15, Try.ntmps15
        go_wp2_with (first | (go_at_call 48; refine (SigOk_any ⟨x, y⟩ _).mono ?_; rintro e w1 ⟨rfl, hq⟩; replace hk := hk.trans hq; clear hq hc; have hc := hk.bc.1) | (go_at_call 49; refine (l1In_any _ _ _ _).mono ?_; rintro e w1 ⟨rfl, rfl⟩) | (go_at_call 50; refine (l23Power_any _ (by omega) (by omega) _).mono ?_; rintro e w1 ⟨rfl, rfl⟩))
        go_ret
        exact ⟨rfl, hk.box⟩
      · have hi : 0 ≤ i ∧ i ≤ p2 x - 1 := by unfold inR at h1; simpa using h1
        have ho : 0 ≤ o ∧ o ≤ p2 y - 1 := by unfold inR at h2; simpa using h2
        rw [letterOf_ok h (by omega) (by show i < p2 x; omega) (by omega) (by show o < p2 y; omega)]
        have hb : -9223372036854775808 ≤ o * p2 x ∧ o * p2 x ≤ 9223372036854775000 := by
          rcases hpi with h | h <;> rw [h] <;> omega
        show Calls _ _ _ _ fun e w' => e = .returned (.int .i64 (o * p2 x + i)) ∧ _
        go_enter Try.func15, Try.ntmps15
        go_wp2_with (first | (go_at_call 48; refine (SigOk_any ⟨x, y⟩ _).mono ?_; rintro e w1 ⟨rfl, hq⟩; replace hk := hk.trans hq; clear hq hc; have hc := hk.bc.1) | (go_at_call 49; refine (l1In_any _ _ _ _).mono ?_; rintro e w1 ⟨rfl, rfl⟩) | (go_at_call 50; refine (l23Power_any _ (by omega) (by omega) _).mono ?_; rintro e w1 ⟨rfl, rfl⟩))
        go_ret
        exact ⟨rfl, hk.box⟩

end Go.Proofs.Ytknkdgacdeeemaa
