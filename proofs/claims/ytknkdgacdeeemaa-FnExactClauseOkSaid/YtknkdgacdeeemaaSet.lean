/- Sets: the program's isSet and the reference's l1Rises, l1Set. Conditions: the slice lies in memory, 0 ≤ n. -/
import Derived.Test.YtknkdgacdeeemaaWord
import Derived.Test.YtknkdgacdeeemaaSetM
namespace Go.Proofs.Ytknkdgacdeeemaa
open Go.RowKit
open Shp

set_option maxHeartbeats 4000000 in
theorem isSet_any {w : World} {F : List Nat} {a : Option Addr} {cap : Nat} {xs : List Int} (hx : Ints w F a cap xs) (n : Int) (hn0 : 0 ≤ n) (hn : n ≤ 9223372036854775807) :
    Calls Try.prog 80 #[.slice a xs.length cap, .int .i64 n] w (Pure w (.bool (isSet n xs))) := by
  unfold Pure
  have m1 := hx.le
  have m2 := hx.max
  go_enter Try.func80, Try.ntmps80
  go_wp2
  go_loopw [9] (fun i wr => ∃ j : Nat, j ≤ xs.length ∧ i = .int .i64 j ∧ Keeps [] w wr ∧ Hid (∀ k, k < j → setAt n xs k)) (fun i _ => xs.length - (intOf i).toNat)
  case atStart => exact ⟨0, Nat.zero_le _, rfl, Keeps.refl _ _, fun k hk => by omega⟩
  case round =>
    obtain ⟨k, hk, rfl, hkp, HT⟩ := hrel
    by_cases hlt : k < xs.length
    · obtain ⟨i1, c1⟩ := ints_at (hx.keeps0 hkp) hlt
      by_cases h1 : nth xs k < 0
      · have hno : isSet n xs = false := isSet_no hlt (fun h => by have := h.1; omega)
        go_wp2
        go_ret
        exact ⟨ret_bool (by simp [hno]), hkp⟩
      · by_cases h2 : n ≤ nth xs k
        · have hno : isSet n xs = false := isSet_no hlt (fun h => by have := h.2.1; omega)
          go_wp2
          go_ret
          exact ⟨ret_bool (by simp [hno]), hkp⟩
        · rcases Nat.eq_zero_or_pos k with h0 | h0
          · subst h0
            rw [show ((0 : Nat) : Int) = 0 from rfl] at i1
            have hnew : setAt n xs 0 := ⟨by omega, by omega, fun h => by omega⟩
            go_wp2
            go_roundw
            case rel => exact ⟨1, by omega, by first | rfl | go_num, hkp, fun i hi => by
              by_cases e : i = 0
              · subst e; exact hnew
              · exact HT i (by omega)⟩
            case measure => simp [intOf]; omega
          · obtain ⟨j, rfl⟩ : ∃ j, k = j + 1 := ⟨k - 1, by omega⟩
            obtain ⟨i2, c2⟩ := ints_at (hx.keeps0 hkp) (show j < xs.length by omega)
            simp only [Int.natCast_add, Int.natCast_one] at i1
            by_cases h3 : nth xs (j + 1) ≤ nth xs j
            · have hno : isSet n xs = false := isSet_no hlt (fun h => by have := h.2.2 (by omega); simp at this; omega)
              go_wp2
              go_ret
              exact ⟨ret_bool (by simp [hno]), hkp⟩
            · have hnew : setAt n xs (j + 1) := ⟨by omega, by omega, fun h => by simp; omega⟩
              go_wp2
              go_roundw
              case rel => exact ⟨j + 1 + 1, by omega, by first | rfl | go_num, hkp, fun i hi => by
                by_cases e : i = j + 1
                · subst e; exact hnew
                · exact HT i (by omega)⟩
              case measure => simp [intOf]; omega
    · have hyes : isSet n xs = true := isSet_iff.2 fun i hi => HT i (by omega)
      go_wp2
      go_ret
      exact ⟨ret_bool hyes.symm, hkp⟩

set_option maxHeartbeats 4000000 in
theorem l1Rises_any {w : World} {F : List Nat} {a : Option Addr} {cap : Nat} {xs : List Int} (hx : Ints w F a cap xs) (n : Int) (hn0 : 0 ≤ n) (hn : n ≤ 9223372036854775807) :
    Calls Try.prog 79 #[.slice a xs.length cap, .int .i64 n] w (Pure w (.bool (isSet n xs))) := by
  unfold Pure
  have m1 := hx.le
  have m2 := hx.max
  go_enter Try.func79, Try.ntmps79
  go_wp2
  go_loopw [5] (fun i wr => ∃ j : Nat, j ≤ xs.length ∧ i = .int .i64 j ∧ Keeps [] w wr ∧ Hid (∀ k, k < j → setAt n xs k)) (fun i _ => xs.length - (intOf i).toNat)
  case atStart => exact ⟨0, Nat.zero_le _, rfl, Keeps.refl _ _, fun k hk => by omega⟩
  case round =>
    obtain ⟨k, hk, rfl, hkp, HT⟩ := hrel
    by_cases hlt : k < xs.length
    · obtain ⟨i1, c1⟩ := ints_at (hx.keeps0 hkp) hlt
      by_cases h1 : nth xs k < 0
      · have hno : isSet n xs = false := isSet_no hlt (fun h => by have := h.1; omega)
        have t1 : inR (nth xs k) 0 (n - 1) = false := inR_no (by omega)
        have x1 : ∀ (x : After wr), x.w.cell? (sAt a k) = some (.int .i64 (nth xs k)) := fun x => (hx.keeps0 (hkp.trans x.k)).cell _ (by omega)
        go_wp2
        (refine wp_region_after (by kernel_rfl) (by kernel_rfl) ?_; (repeat (first | go_big_quiet_skip | (go_big_quiet_want; go_big_quiet_op; (first | go_big_quiet_on | (apply Exists.intro; refine ⟨fun xw => ?_, ?_⟩; (focus ((go_at_call 49; have hh := l1In_any (nth xs k) 0 (n - 1) xw.w; rw [t1] at hh; exact hh.mono (fun e w1 h => ⟨h.1, ⟨⟨w1, by rw [← h.2]; exact xw.k⟩, rfl⟩⟩)))); go_big_quiet_on))))); refine wpQuiet_nil ?_; intro _ hw; obtain ⟨⟨wq, hkq⟩, rfl⟩ := hw; try dsimp only)
        go_wp2
        go_ret
        exact ⟨ret_bool (by simp [hno]), hkp.trans hkq⟩
      · by_cases h2 : n ≤ nth xs k
        · have hno : isSet n xs = false := isSet_no hlt (fun h => by have := h.2.1; omega)
          have t1 : inR (nth xs k) 0 (n - 1) = false := inR_no (by omega)
          have x1 : ∀ (x : After wr), x.w.cell? (sAt a k) = some (.int .i64 (nth xs k)) := fun x => (hx.keeps0 (hkp.trans x.k)).cell _ (by omega)
          go_wp2
          (refine wp_region_after (by kernel_rfl) (by kernel_rfl) ?_; (repeat (first | go_big_quiet_skip | (go_big_quiet_want; go_big_quiet_op; (first | go_big_quiet_on | (apply Exists.intro; refine ⟨fun xw => ?_, ?_⟩; (focus ((go_at_call 49; have hh := l1In_any (nth xs k) 0 (n - 1) xw.w; rw [t1] at hh; exact hh.mono (fun e w1 h => ⟨h.1, ⟨⟨w1, by rw [← h.2]; exact xw.k⟩, rfl⟩⟩)))); go_big_quiet_on))))); refine wpQuiet_nil ?_; intro _ hw; obtain ⟨⟨wq, hkq⟩, rfl⟩ := hw; try dsimp only)
          go_wp2
          go_ret
          exact ⟨ret_bool (by simp [hno]), hkp.trans hkq⟩
        · rcases Nat.eq_zero_or_pos k with h0 | h0
          · subst h0
            rw [show ((0 : Nat) : Int) = 0 from rfl] at i1
            have hnew : setAt n xs 0 := ⟨by omega, by omega, fun h => by omega⟩
            have t1 : inR (nth xs 0) 0 (n - 1) = true := inR_yes (by omega)
            have x1 : ∀ (x : After wr), x.w.cell? (sAt a 0) = some (.int .i64 (nth xs 0)) := fun x => (hx.keeps0 (hkp.trans x.k)).cell _ (by omega)
            go_wp2
            (refine wp_region_after (by kernel_rfl) (by kernel_rfl) ?_; (repeat (first | go_big_quiet_skip | (go_big_quiet_want; go_big_quiet_op; (first | go_big_quiet_on | (apply Exists.intro; refine ⟨fun xw => ?_, ?_⟩; (focus ((go_at_call 49; have hh := l1In_any (nth xs 0) 0 (n - 1) xw.w; rw [t1] at hh; exact hh.mono (fun e w1 h => ⟨h.1, ⟨⟨w1, by rw [← h.2]; exact xw.k⟩, rfl⟩⟩)))); go_big_quiet_on))))); refine wpQuiet_nil ?_; intro _ hw; obtain ⟨⟨wq, hkq⟩, rfl⟩ := hw; try dsimp only)
            go_wp2
            go_roundw
            case rel => exact ⟨1, by omega, by first | rfl | go_num, hkp.trans hkq, fun i hi => by
              by_cases e : i = 0
              · subst e; exact hnew
              · exact HT i (by omega)⟩
            case measure => simp [intOf]; omega
          · obtain ⟨j, rfl⟩ : ∃ j, k = j + 1 := ⟨k - 1, by omega⟩
            obtain ⟨i2, c2⟩ := ints_at (hx.keeps0 hkp) (show j < xs.length by omega)
            simp only [Int.natCast_add, Int.natCast_one] at i1
            by_cases h3 : nth xs (j + 1) ≤ nth xs j
            · have hno : isSet n xs = false := isSet_no hlt (fun h => by have := h.2.2 (by omega); simp at this; omega)
              have t1 : inR (nth xs (j + 1)) 0 (n - 1) = true := inR_yes (by omega)
              have x1 : ∀ (x : After wr), x.w.cell? (sAt a (j + 1)) = some (.int .i64 (nth xs (j + 1))) := fun x => (hx.keeps0 (hkp.trans x.k)).cell _ (by omega)
              have x2 : ∀ (x : After wr), x.w.cell? (sAt a j) = some (.int .i64 (nth xs j)) := fun x => (hx.keeps0 (hkp.trans x.k)).cell _ (by omega)
              have tg : decide ((0 : Int) < (j : Int) + 1) = true := by simp <;> omega
              have t3 : decide (nth xs (j + 1) ≤ nth xs j) = true := by simpa using h3
              go_wp2
              (refine wp_region_after (by kernel_rfl) (by kernel_rfl) ?_; (repeat (first | go_big_quiet_skip | (go_big_quiet_want; go_big_quiet_op; (first | go_big_quiet_on | (apply Exists.intro; refine ⟨fun xw => ?_, ?_⟩; (focus ((go_at_call 49; have hh := l1In_any (nth xs (j + 1)) 0 (n - 1) xw.w; rw [t1] at hh; exact hh.mono (fun e w1 h => ⟨h.1, ⟨⟨w1, by rw [← h.2]; exact xw.k⟩, rfl⟩⟩)))); go_big_quiet_on))))); refine wpQuiet_nil ?_; intro _ hw; obtain ⟨⟨wq, hkq⟩, rfl⟩ := hw; try dsimp only)
              go_wp2
              go_ret
              exact ⟨ret_bool (by simp [hno]), hkp.trans hkq⟩
            · have hnew : setAt n xs (j + 1) := ⟨by omega, by omega, fun h => by simp; omega⟩
              have t1 : inR (nth xs (j + 1)) 0 (n - 1) = true := inR_yes (by omega)
              have x1 : ∀ (x : After wr), x.w.cell? (sAt a (j + 1)) = some (.int .i64 (nth xs (j + 1))) := fun x => (hx.keeps0 (hkp.trans x.k)).cell _ (by omega)
              have x2 : ∀ (x : After wr), x.w.cell? (sAt a j) = some (.int .i64 (nth xs j)) := fun x => (hx.keeps0 (hkp.trans x.k)).cell _ (by omega)
              have tg : decide ((0 : Int) < (j : Int) + 1) = true := by simp <;> omega
              have t3 : decide (nth xs (j + 1) ≤ nth xs j) = false := by simpa using h3
              go_wp2
              (refine wp_region_after (by kernel_rfl) (by kernel_rfl) ?_; (repeat (first | go_big_quiet_skip | (go_big_quiet_want; go_big_quiet_op; (first | go_big_quiet_on | (apply Exists.intro; refine ⟨fun xw => ?_, ?_⟩; (focus ((go_at_call 49; have hh := l1In_any (nth xs (j + 1)) 0 (n - 1) xw.w; rw [t1] at hh; exact hh.mono (fun e w1 h => ⟨h.1, ⟨⟨w1, by rw [← h.2]; exact xw.k⟩, rfl⟩⟩)))); go_big_quiet_on))))); refine wpQuiet_nil ?_; intro _ hw; obtain ⟨⟨wq, hkq⟩, rfl⟩ := hw; try dsimp only)
              go_wp2
              go_roundw
              case rel => exact ⟨j + 1 + 1, by omega, by first | rfl | go_num, hkp.trans hkq, fun i hi => by
                by_cases e : i = j + 1
                · subst e; exact hnew
                · exact HT i (by omega)⟩
              case measure => simp [intOf]; omega
    · have hyes : isSet n xs = true := isSet_iff.2 fun i hi => HT i (by omega)
      go_wp2
      go_ret
      exact ⟨ret_bool hyes.symm, hkp⟩

set_option maxHeartbeats 1000000 in
theorem l1Set_any {w : World} {F : List Nat} {a : Option Addr} {cap : Nat} {xs : List Int} (hx : Ints w F a cap xs) (n : Int) (hn0 : 0 ≤ n) (hn : n ≤ 9223372036854775807) :
    Calls Try.prog 65 #[.slice a xs.length cap, .int .i64 n] w (Pure w (.bool (isSet n xs))) := by
  unfold Pure
  have m1 := hx.le
  have m2 := hx.max
  by_cases h : (xs.length : Int) ≤ n
  · go_enter Try.func65, Try.ntmps65
    go_wp2_with (go_at_call 79; refine (l1Rises_any hx n hn0 hn).mono ?_; rintro e w1 ⟨rfl, hq⟩)
    go_ret
    exact ⟨rfl, hq⟩
  · have hno : isSet n xs = false := by
      cases hb : isSet n xs
      · rfl
      · exact absurd (isSet_len hn0 hb) h
    rw [hno]
    go_enter Try.func65, Try.ntmps65
    go_wp2
    go_ret
    exact ⟨rfl, Keeps.refl _ _⟩

end Go.Proofs.Ytknkdgacdeeemaa
