/- The listed functions of an interface (LettersOf, LetterOf, InOf, OutOf), the program's and the reference's: both return the plain number of 'SigM'. Conditions: integers fit int64. -/
import Derived.Test.YtknkdgacdeeemaaSig
namespace Go.Proofs.Ytknkdgacdeeemaa
open Go.RowKit
open Shp

theorem Pure.mk {w w' : World} {v : Value} {e : Ending} (h : e = .returned v) (hk : Keeps [] w w') : Pure w v e w' := ⟨h, hk⟩

set_option maxHeartbeats 400000 in
theorem toSig_any (s : SigT) (w : World) :
    Calls Try.prog 16 #[sigV s] w (Pure w (sigV s)) := by
  obtain ⟨x, y⟩ := s
  unfold sigV Pure
  go_enter Try.func16, Try.ntmps16
  go_wp2
  exact bodyPost_ret (v := .agg #[.int .i64 x, .int .i64 y]) (by simp [results, Try.results16, go_sem]) rfl ⟨rfl, by repeat (first | exact Keeps.refl _ _ | apply Keeps.alloc0)⟩

set_option maxHeartbeats 400000 in
theorem specLettersOf_any (s : SigT) (w : World) :
    Calls Try.prog 18 #[sigV s] w (Pure w (.int .i64 (letters s))) := by
  obtain ⟨x, y⟩ := s
  cases h : sigOk ⟨x, y⟩
  · rw [letters_no h]
    unfold sigV Pure
    go_enter Try.func18, Try.ntmps18
    go_wp2_with (go_at_call 48; refine (SigOk_any ⟨x, y⟩ _).mono ?_; rintro e w1 ⟨rfl, hk1⟩)
    go_ret
    exact ⟨rfl, ((Keeps.refl _ _).alloc0 _).trans' hk1 (by simp)⟩
  · have hb := sig_cases h
    simp only at hb
    rw [letters_ok h]
    have hb1 : 0 ≤ x + y := by omega
    have hb2 : x + y ≤ 4 := by omega
    unfold sigV Pure
    go_enter Try.func18, Try.ntmps18
    go_wp2_with (first | (go_at_call 48; refine (SigOk_any ⟨x, y⟩ _).mono ?_; rintro e w1 ⟨rfl, hk1⟩; have hc1 := hk1.bc.1) | (go_at_call 50; refine (l23Power_any _ hb1 hb2 _).mono ?_; rintro e w' ⟨rfl, rfl⟩))
    go_ret
    exact ⟨rfl, ((Keeps.refl _ _).alloc0 _).trans' hk1 (by simp)⟩

set_option maxHeartbeats 400000 in
theorem implLettersOf_any (s : SigT) (w : World) :
    Calls Try.prog 19 #[sigV s] w (Pure w (.int .i64 (letters s))) := by
  obtain ⟨x, y⟩ := s
  cases h : sigOk ⟨x, y⟩
  · rw [letters_no h]
    unfold sigV Pure
    go_enter Try.func19, Try.ntmps19
    go_wp2_with (go_at_call 51; refine (isSig_any ⟨x, y⟩ _).mono ?_; rintro e w1 ⟨rfl, hk1⟩; have hc1 := hk1.bc.1)
    go_ret
    exact ⟨rfl, ((Keeps.refl _ _).alloc0 _).trans' hk1 (by simp)⟩
  · unfold sigV Pure
    go_enter Try.func19, Try.ntmps19
    go_wp2_with (first | (go_at_call 51; refine (isSig_any ⟨x, y⟩ _).mono ?_; rintro e w1 ⟨rfl, hk1⟩; have hc1 := hk1.bc.1) | (go_at_call 53; refine (lettersOf_any ⟨x, y⟩ h _).mono ?_; rintro e w2 ⟨rfl, hk2⟩; replace hk2 := hk1.trans hk2; have hc2 := hk2.bc.1))
    go_ret
    exact ⟨rfl, (((Keeps.refl _ _).alloc0 _).trans' hk2 (by simp))⟩

theorem letterOf_ok {s : SigT} {i o : Int} (h : sigOk s = true) (h1 : 0 ≤ i) (h2 : i < p2 s.i) (h3 : 0 ≤ o) (h4 : o < p2 s.o) : letterOf s i o = o * p2 s.i + i := by
  unfold letterOf; rw [if_pos ⟨h, ⟨h1, h2⟩, h3, h4⟩]

theorem letterOf_no {s : SigT} {i o : Int} (h : sigOk s = false ∨ i < 0 ∨ p2 s.i ≤ i ∨ o < 0 ∨ p2 s.o ≤ o) : letterOf s i o = -1 := by
  unfold letterOf; rw [if_neg]
  rintro ⟨h0, ⟨h1, h2⟩, h3, h4⟩
  rcases h with h | h | h | h | h
  · rw [h0] at h; cases h
  all_goals omega

set_option maxHeartbeats 1000000 in
theorem implLetterOf_any (s : SigT) (i o : Int) (w : World) :
    Calls Try.prog 17 #[sigV s, .int .i64 i, .int .i64 o] w (Pure w (.int .i64 (letterOf s i o))) := by
  obtain ⟨x, y⟩ := s
  unfold sigV Pure
  have hk : Keeps [] (w.alloc (.cells #[.int .i64 x, .int .i64 y] 25) ) (w.alloc (.cells #[.int .i64 x, .int .i64 y] 25) ) := Keeps.refl _ _; have hc : True := trivial; have kz : True := trivial; have ks : True := trivial; have ka : True := trivial
  cases h : sigOk ⟨x, y⟩
  · rw [letterOf_no (.inl h)]
    go_enter Try.func17, Try.ntmps17
    go_wp2_with (go_at_call 51; refine (isSig_any ⟨x, y⟩ _).mono ?_; rintro e w1 ⟨rfl, hq⟩; replace hk := hk.trans hq; clear hq hc kz ks ka; obtain ⟨hc, kz, ks⟩ := hk.bd; have ka := hk.aft)
    go_ret
    exact ⟨rfl, hk.box⟩
  · have hy := (sig_cases h).2
    simp only at hy
    have hpi := p2_i h
    simp only at hpi
    by_cases h1 : i < 0
    · rw [letterOf_no (.inr (.inl h1))]
      go_enter Try.func17, Try.ntmps17
      go_wp2_with (go_at_call 51; refine (isSig_any ⟨x, y⟩ _).mono ?_; rintro e w1 ⟨rfl, hq⟩; replace hk := hk.trans hq; clear hq hc kz ks ka; obtain ⟨hc, kz, ks⟩ := hk.bd; have ka := hk.aft)
      go_ret
      exact ⟨rfl, hk.box⟩
    · by_cases h2 : p2 x ≤ i
      · rw [letterOf_no (.inr (.inr (.inl h2)))]
        go_enter Try.func17, Try.ntmps17
        go_wp2_with (first | (go_at_call 51; refine (isSig_any ⟨x, y⟩ _).mono ?_; rintro e w1 ⟨rfl, hq⟩; replace hk := hk.trans hq; clear hq hc kz ks ka; obtain ⟨hc, kz, ks⟩ := hk.bd; have ka := hk.aft) | (go_at_call 52; refine (inputsOf_any ⟨x, y⟩ h _).mono ?_; rintro e w1 ⟨rfl, hq⟩; replace hk := hk.trans hq; clear hq hc kz ks ka; obtain ⟨hc, kz, ks⟩ := hk.bd; have ka := hk.aft))
        go_ret
        exact ⟨rfl, hk.box⟩
      · by_cases h3 : o < 0
        · rw [letterOf_no (.inr (.inr (.inr (.inl h3))))]
          go_enter Try.func17, Try.ntmps17
          go_wp2_with (first | (go_at_call 51; refine (isSig_any ⟨x, y⟩ _).mono ?_; rintro e w1 ⟨rfl, hq⟩; replace hk := hk.trans hq; clear hq hc kz ks ka; obtain ⟨hc, kz, ks⟩ := hk.bd; have ka := hk.aft) | (go_at_call 52; refine (inputsOf_any ⟨x, y⟩ h _).mono ?_; rintro e w1 ⟨rfl, hq⟩; replace hk := hk.trans hq; clear hq hc kz ks ka; obtain ⟨hc, kz, ks⟩ := hk.bd; have ka := hk.aft))
          go_ret
          exact ⟨rfl, hk.box⟩
        · by_cases h4 : p2 y ≤ o
          · rw [letterOf_no (.inr (.inr (.inr (.inr h4))))]
            rcases hy with rfl | rfl
            all_goals
              simp only [p2_1, p2_2] at h4
              go_enter Try.func17, Try.ntmps17
              go_wp2_with (first | (go_at_call 51; refine (isSig_any ⟨x, _⟩ _).mono ?_; rintro e w1 ⟨rfl, hq⟩; replace hk := hk.trans hq; clear hq hc kz ks ka; obtain ⟨hc, kz, ks⟩ := hk.bd; have ka := hk.aft) | (go_at_call 52; refine (inputsOf_any ⟨x, _⟩ h _).mono ?_; rintro e w1 ⟨rfl, hq⟩; replace hk := hk.trans hq; clear hq hc kz ks ka; obtain ⟨hc, kz, ks⟩ := hk.bd; have ka := hk.aft))
              go_ret
              exact ⟨rfl, hk.box⟩
          · rw [letterOf_ok h (by omega) (by show i < p2 x; omega) (by omega) (by show o < p2 y; omega)]
            have hb : -9223372036854775808 ≤ o * p2 x ∧ o * p2 x ≤ 9223372036854775000 := by
              have hq : p2 y ≤ 4 := by rcases hy with rfl | rfl <;> decide
              rcases hpi with h | h <;> rw [h] <;> omega
            show Calls _ _ _ _ fun e w' => e = .returned (.int .i64 (o * p2 x + i)) ∧ _
            rcases hy with rfl | rfl
            all_goals
              simp only [p2_1, p2_2] at h4
              go_enter Try.func17, Try.ntmps17
              go_wp2_with (first | (go_at_call 51; refine (isSig_any ⟨x, _⟩ _).mono ?_; rintro e w1 ⟨rfl, hq⟩; replace hk := hk.trans hq; clear hq hc kz ks ka; obtain ⟨hc, kz, ks⟩ := hk.bd; have ka := hk.aft) | (go_at_call 52; refine (inputsOf_any ⟨x, _⟩ h _).mono ?_; rintro e w1 ⟨rfl, hq⟩; replace hk := hk.trans hq; clear hq hc kz ks ka; obtain ⟨hc, kz, ks⟩ := hk.bd; have ka := hk.aft))
              go_ret
              exact ⟨rfl, hk.box⟩

end Go.Proofs.Ytknkdgacdeeemaa
