/- WordOk and LetterAt, the program's and the reference's. Conditions: the slices lie in memory; integers fit int64. -/
import Derived.Test.YtknkdgacdeeemaaWord4
namespace Go.Proofs.Ytknkdgacdeeemaa
open Go.RowKit
open Shp

set_option maxHeartbeats 1000000 in
theorem l23At_any {w : World} {F G : List Nat} {a b : Option Addr} {ca cb : Nat} {xs ys : List Int} (hx : Ints w F a ca xs) (hy : Ints w G b cb ys) (i : Int) (h0 : 0 ≤ i) (hi : i ≤ 9223372036854775807) (hl : 0 < ys.length) :
    Calls Try.prog 63 #[.agg #[.slice a xs.length ca, .slice b ys.length cb], .int .i64 i] w (Pure w (.int .i64 (at_ ⟨xs, ys⟩ i))) := by
  unfold Pure
  have m1 : xs.length ≤ 9223372036854775807 := Nat.le_trans hx.le hx.max
  have m2 : ys.length ≤ 9223372036854775807 := Nat.le_trans hy.le hy.max
  by_cases h1 : i < xs.length
  · have hr : at_ ⟨xs, ys⟩ i = nth xs i.toNat := by unfold at_; rw [if_pos h1]
    obtain ⟨k, rfl⟩ := Int.eq_ofNat_of_zero_le h0
    have hk : k < xs.length := by omega
    obtain ⟨i1, c1⟩ := ints_at (hx.keeps0 (Keeps.alloc [] w (.cells #[.slice a xs.length ca, .slice b ys.length cb] 49))) hk
    rw [Int.toNat_natCast] at hr
    rw [hr]
    go_enter Try.func63, Try.ntmps63
    go_wp2
    go_ret
    exact ⟨rfl, (by repeat (first | exact Keeps.refl _ _ | assumption | apply Keeps.alloc0 | apply Keeps.drew0 | apply Keeps.drewN0 | (refine Keeps.set0 ?_ (by simp <;> omega) _) | (refine Keeps.trans0 ?_ (by assumption))))⟩
  · have hm : 0 < (ys.length : Int) := by omega
    have hq0 : 0 ≤ (i - xs.length) % ys.length := Int.emod_nonneg _ (by omega)
    have hq1 : (i - xs.length) % ys.length < ys.length := Int.emod_lt_of_pos _ hm
    obtain ⟨k, hk⟩ := Int.eq_ofNat_of_zero_le hq0
    have hr : at_ ⟨xs, ys⟩ i = nth ys k := by unfold at_; rw [if_neg h1]; simp only; rw [hk]; rfl
    have hk' : k < ys.length := by omega
    obtain ⟨i1, c1⟩ := ints_at (hy.keeps0 (Keeps.alloc [] w (.cells #[.slice a xs.length ca, .slice b ys.length cb] 49))) hk'
    rw [← hk] at i1
    rw [hr]
    have hmz : ((ys.length : Int) == 0) = false := by simp; intro e; rw [e] at hl; simp at hl
    clear hk hr hq0 hq1 hm
    go_enter Try.func63, Try.ntmps63
    go_wp2
    go_quiet (fail)
    go_wp2
    go_ret
    exact ⟨rfl, (by repeat (first | exact Keeps.refl _ _ | assumption | apply Keeps.alloc0 | apply Keeps.drew0 | apply Keeps.drewN0 | (refine Keeps.set0 ?_ (by simp <;> omega) _) | (refine Keeps.trans0 ?_ (by assumption))))⟩

set_option maxHeartbeats 1000000 in
theorem letterAt_any {w : World} {F G : List Nat} {a b : Option Addr} {ca cb : Nat} {xs ys : List Int} (hx : Ints w F a ca xs) (hy : Ints w G b cb ys) (i : Int) (h0 : 0 ≤ i) (hi : i ≤ 9223372036854775807) (hl : 0 < ys.length) :
    Calls Try.prog 64 #[.agg #[.slice a xs.length ca, .slice b ys.length cb], .int .i64 i] w (Pure w (.int .i64 (at_ ⟨xs, ys⟩ i))) := by
  unfold Pure
  have m1 : xs.length ≤ 9223372036854775807 := Nat.le_trans hx.le hx.max
  have m2 : ys.length ≤ 9223372036854775807 := Nat.le_trans hy.le hy.max
  by_cases h1 : i < xs.length
  · have hr : at_ ⟨xs, ys⟩ i = nth xs i.toNat := by unfold at_; rw [if_pos h1]
    obtain ⟨k, rfl⟩ := Int.eq_ofNat_of_zero_le h0
    have hk : k < xs.length := by omega
    obtain ⟨i1, c1⟩ := ints_at (hx.keeps0 (Keeps.alloc [] w (.cells #[.slice a xs.length ca, .slice b ys.length cb] 49))) hk
    rw [Int.toNat_natCast] at hr
    rw [hr]
    go_enter Try.func64, Try.ntmps64
    go_wp2
    go_ret
    exact ⟨rfl, (by repeat (first | exact Keeps.refl _ _ | assumption | apply Keeps.alloc0 | apply Keeps.drew0 | apply Keeps.drewN0 | (refine Keeps.set0 ?_ (by simp <;> omega) _) | (refine Keeps.trans0 ?_ (by assumption))))⟩
  · have hm : 0 < (ys.length : Int) := by omega
    have hq0 : 0 ≤ (i - xs.length) % ys.length := Int.emod_nonneg _ (by omega)
    have hq1 : (i - xs.length) % ys.length < ys.length := Int.emod_lt_of_pos _ hm
    obtain ⟨k, hk⟩ := Int.eq_ofNat_of_zero_le hq0
    have hr : at_ ⟨xs, ys⟩ i = nth ys k := by unfold at_; rw [if_neg h1]; simp only; rw [hk]; rfl
    have hk' : k < ys.length := by omega
    obtain ⟨i1, c1⟩ := ints_at (hy.keeps0 (Keeps.alloc [] w (.cells #[.slice a xs.length ca, .slice b ys.length cb] 49))) hk'
    rw [← hk] at i1
    rw [hr]
    have hmz : ((ys.length : Int) == 0) = false := by simp; intro e; rw [e] at hl; simp at hl
    clear hk hr hq0 hq1 hm
    go_enter Try.func64, Try.ntmps64
    go_wp2
    go_quiet (fail)
    go_wp2
    go_ret
    exact ⟨rfl, (by repeat (first | exact Keeps.refl _ _ | assumption | apply Keeps.alloc0 | apply Keeps.drew0 | apply Keeps.drewN0 | (refine Keeps.set0 ?_ (by simp <;> omega) _) | (refine Keeps.trans0 ?_ (by assumption))))⟩

set_option maxHeartbeats 1000000 in
theorem l23Fine_any {w : World} {F G : List Nat} {a b : Option Addr} {ca cb : Nat} {xs ys : List Int} (hx : Ints w F a ca xs) (hy : Ints w G b cb ys) :
    Calls Try.prog 62 #[.agg #[.slice a xs.length ca, .slice b ys.length cb]] w (Pure w (.bool (wordOk 16 ⟨xs, ys⟩))) := by
  unfold Pure
  have hk : Keeps [] (w.alloc (.cells #[.slice a xs.length ca, .slice b ys.length cb] 49) ) (w.alloc (.cells #[.slice a xs.length ca, .slice b ys.length cb] 49) ) := Keeps.refl _ _; have hc : True := trivial; have kz : True := trivial; have ks : True := trivial; have ka : True := trivial
  go_enter Try.func62, Try.ntmps62
  go_wp2_with (go_at_call 60; refine (l23Word_any (hx.keeps0 hk.box) (hy.keeps0 hk.box) 16 (by omega) (by omega)).mono ?_; rintro e w1 ⟨rfl, hq⟩; replace hk := hk.trans hq; clear hq hc kz ks ka; obtain ⟨hc, kz, ks⟩ := hk.bd; have ka := hk.aft)
  go_ret
  exact ⟨rfl, hk.box⟩

theorem letterAt_no {x : WordT} {i : Int} (h : wordOk 16 x = false ∨ i < 0) : letterAt x i = -1 := by
  unfold letterAt; rw [if_neg]; rintro ⟨h1, h2⟩
  rcases h with h | h
  · rw [h] at h1; cases h1
  · omega
theorem letterAt_ok {x : WordT} {i : Int} (h : wordOk 16 x = true) (h0 : 0 ≤ i) : letterAt x i = at_ x i := by unfold letterAt; rw [if_pos ⟨h, h0⟩]

set_option maxHeartbeats 1000000 in
theorem specLetterAt_any {w : World} {F G : List Nat} {a b : Option Addr} {ca cb : Nat} {xs ys : List Int} (hx : Ints w F a ca xs) (hy : Ints w G b cb ys) (i : Int) (hi : i ≤ 9223372036854775807) :
    Calls Try.prog 36 #[.agg #[.slice a xs.length ca, .slice b ys.length cb], .int .i64 i] w (Pure w (.int .i64 (letterAt ⟨xs, ys⟩ i))) := by
  unfold Pure
  have hk : Keeps [] (w.alloc (.cells #[.slice a xs.length ca, .slice b ys.length cb] 49) ) (w.alloc (.cells #[.slice a xs.length ca, .slice b ys.length cb] 49) ) := Keeps.refl _ _; have hc : True := trivial; have kz : True := trivial; have ks : True := trivial; have ka : True := trivial
  cases h : wordOk 16 ⟨xs, ys⟩
  · rw [letterAt_no (.inl h)]
    go_enter Try.func36, Try.ntmps36
    go_wp2_with (go_at_call 62; refine (l23Fine_any (hx.keeps0 hk.box) (hy.keeps0 hk.box)).mono ?_; rintro e w1 ⟨rfl, hq⟩; replace hk := hk.trans hq; clear hq hc kz ks ka; obtain ⟨hc, kz, ks⟩ := hk.bd; have ka := hk.aft)
    go_ret
    exact ⟨rfl, hk.box⟩
  · by_cases h0 : i < 0
    · rw [letterAt_no (.inr h0)]
      go_enter Try.func36, Try.ntmps36
      go_wp2_with (go_at_call 62; refine (l23Fine_any (hx.keeps0 hk.box) (hy.keeps0 hk.box)).mono ?_; rintro e w1 ⟨rfl, hq⟩; replace hk := hk.trans hq; clear hq hc kz ks ka; obtain ⟨hc, kz, ks⟩ := hk.bd; have ka := hk.aft)
      go_ret
      exact ⟨rfl, hk.box⟩
    · rw [letterAt_ok h (by omega)]
      have hl : 0 < ys.length := (wordOk_iff.1 h).2.1
      have h0' : 0 ≤ i := by omega
      go_enter Try.func36, Try.ntmps36
      go_wp2_with (first | (go_at_call 62; refine (l23Fine_any (hx.keeps0 hk.box) (hy.keeps0 hk.box)).mono ?_; rintro e w1 ⟨rfl, hq⟩; replace hk := hk.trans hq; clear hq hc kz ks ka; obtain ⟨hc, kz, ks⟩ := hk.bd; have ka := hk.aft) | (go_at_call 63; refine (l23At_any (hx.keeps0 hk.box) (hy.keeps0 hk.box) i h0' hi hl).mono ?_; rintro e w1 ⟨rfl, hq⟩; replace hk := hk.trans hq; clear hq hc kz ks ka; obtain ⟨hc, kz, ks⟩ := hk.bd; have ka := hk.aft))
      go_ret
      exact ⟨rfl, hk.box⟩

set_option maxHeartbeats 1000000 in
theorem implLetterAt_any {w : World} {F G : List Nat} {a b : Option Addr} {ca cb : Nat} {xs ys : List Int} (hx : Ints w F a ca xs) (hy : Ints w G b cb ys) (i : Int) (hi : i ≤ 9223372036854775807) :
    Calls Try.prog 37 #[.agg #[.slice a xs.length ca, .slice b ys.length cb], .int .i64 i] w (Pure w (.int .i64 (letterAt ⟨xs, ys⟩ i))) := by
  unfold Pure
  have hk : Keeps [] (w.alloc (.cells #[.slice a xs.length ca, .slice b ys.length cb] 49) ) (w.alloc (.cells #[.slice a xs.length ca, .slice b ys.length cb] 49) ) := Keeps.refl _ _; have hc : True := trivial; have kz : True := trivial; have ks : True := trivial; have ka : True := trivial
  cases h : wordOk 16 ⟨xs, ys⟩
  · rw [letterAt_no (.inl h)]
    go_enter Try.func37, Try.ntmps37
    go_wp2_with (go_at_call 61; refine (isWord_any (hx.keeps0 hk.box) (hy.keeps0 hk.box) 16).mono ?_; rintro e w1 ⟨rfl, hq⟩; replace hk := hk.trans hq; clear hq hc kz ks ka; obtain ⟨hc, kz, ks⟩ := hk.bd; have ka := hk.aft)
    go_ret
    exact ⟨rfl, hk.box⟩
  · by_cases h0 : i < 0
    · rw [letterAt_no (.inr h0)]
      go_enter Try.func37, Try.ntmps37
      go_wp2_with (go_at_call 61; refine (isWord_any (hx.keeps0 hk.box) (hy.keeps0 hk.box) 16).mono ?_; rintro e w1 ⟨rfl, hq⟩; replace hk := hk.trans hq; clear hq hc kz ks ka; obtain ⟨hc, kz, ks⟩ := hk.bd; have ka := hk.aft)
      go_ret
      exact ⟨rfl, hk.box⟩
    · rw [letterAt_ok h (by omega)]
      have hl : 0 < ys.length := (wordOk_iff.1 h).2.1
      have h0' : 0 ≤ i := by omega
      go_enter Try.func37, Try.ntmps37
      go_wp2_with (first | (go_at_call 61; refine (isWord_any (hx.keeps0 hk.box) (hy.keeps0 hk.box) 16).mono ?_; rintro e w1 ⟨rfl, hq⟩; replace hk := hk.trans hq; clear hq hc kz ks ka; obtain ⟨hc, kz, ks⟩ := hk.bd; have ka := hk.aft) | (go_at_call 64; refine (letterAt_any (hx.keeps0 hk.box) (hy.keeps0 hk.box) i h0' hi hl).mono ?_; rintro e w1 ⟨rfl, hq⟩; replace hk := hk.trans hq; clear hq hc kz ks ka; obtain ⟨hc, kz, ks⟩ := hk.bd; have ka := hk.aft))
      go_ret
      exact ⟨rfl, hk.box⟩

def wordOkS (s : SigT) (x : WordT) : Bool := sigOk s && wordOk (letters s) x

set_option maxHeartbeats 1000000 in
theorem specWordOk_any {w : World} {F G : List Nat} {a b : Option Addr} {ca cb : Nat} {xs ys : List Int} (hx : Ints w F a ca xs) (hy : Ints w G b cb ys) (s : SigT) :
    Calls Try.prog 32 #[sigV s, .agg #[.slice a xs.length ca, .slice b ys.length cb]] w (Pure w (.bool (wordOkS s ⟨xs, ys⟩))) := by
  obtain ⟨x, y⟩ := s
  unfold Pure sigV
  have hlb := letters_bd ⟨x, y⟩
  have hk : Keeps [] ((w.alloc (.cells #[.int .i64 x, .int .i64 y] 25)).alloc (.cells #[.slice a xs.length ca, .slice b ys.length cb] 49) ) ((w.alloc (.cells #[.int .i64 x, .int .i64 y] 25)).alloc (.cells #[.slice a xs.length ca, .slice b ys.length cb] 49) ) := Keeps.refl _ _; have hc : True := trivial; have kz : True := trivial; have ks : True := trivial; have ka : True := trivial
  cases h : sigOk ⟨x, y⟩
  · go_enter Try.func32, Try.ntmps32
    go_wp2
    (refine wp_region_after (by kernel_rfl) (by kernel_rfl) ?_; (repeat (first | go_big_quiet_skip | (go_big_quiet_want; go_big_quiet_op; (first | go_big_quiet_on | (apply Exists.intro; refine ⟨fun xw => ?_, ?_⟩; (focus ((first | (go_at_call 48; have hh := SigOk_any ⟨x, y⟩ xw.w; simp only [h] at hh; exact Calls.after hh) | (go_at_call 18; exact Calls.after (specLettersOf_any ⟨x, y⟩ _)) | (go_at_call 60; exact Calls.after (l23Word_any (hx.keeps0 (hk.box.box.trans xw.k)) (hy.keeps0 (hk.box.box.trans xw.k)) _ (by omega) (by omega)))))); go_big_quiet_on))))); refine wpQuiet_nil ?_; intro _ hw; obtain ⟨⟨wq, hkq⟩, rfl⟩ := hw; try dsimp only)
    go_wp2
    go_ret
    exact ⟨ret_bool (by unfold wordOkS; simp [h]), (hk.trans hkq).box.box⟩
  · go_enter Try.func32, Try.ntmps32
    go_wp2
    (refine wp_region_after (by kernel_rfl) (by kernel_rfl) ?_; (repeat (first | go_big_quiet_skip | (go_big_quiet_want; go_big_quiet_op; (first | go_big_quiet_on | (apply Exists.intro; refine ⟨fun xw => ?_, ?_⟩; (focus ((first | (go_at_call 48; have hh := SigOk_any ⟨x, y⟩ xw.w; simp only [h] at hh; exact Calls.after hh) | (go_at_call 18; exact Calls.after (specLettersOf_any ⟨x, y⟩ _)) | (go_at_call 60; exact Calls.after (l23Word_any (hx.keeps0 (hk.box.box.trans xw.k)) (hy.keeps0 (hk.box.box.trans xw.k)) _ (by omega) (by omega)))))); go_big_quiet_on))))); refine wpQuiet_nil ?_; intro _ hw; obtain ⟨⟨wq, hkq⟩, rfl⟩ := hw; try dsimp only)
    go_wp2
    go_ret
    exact ⟨ret_bool (by unfold wordOkS; simp [h]), (hk.trans hkq).box.box⟩

set_option maxHeartbeats 1000000 in
theorem implWordOk_any {w : World} {F G : List Nat} {a b : Option Addr} {ca cb : Nat} {xs ys : List Int} (hx : Ints w F a ca xs) (hy : Ints w G b cb ys) (s : SigT) :
    Calls Try.prog 34 #[sigV s, .agg #[.slice a xs.length ca, .slice b ys.length cb]] w (Pure w (.bool (wordOkS s ⟨xs, ys⟩))) := by
  obtain ⟨x, y⟩ := s
  unfold Pure sigV
  have hlb := letters_bd ⟨x, y⟩
  have hk : Keeps [] ((w.alloc (.cells #[.int .i64 x, .int .i64 y] 25)).alloc (.cells #[.slice a xs.length ca, .slice b ys.length cb] 49) ) ((w.alloc (.cells #[.int .i64 x, .int .i64 y] 25)).alloc (.cells #[.slice a xs.length ca, .slice b ys.length cb] 49) ) := Keeps.refl _ _; have hc : True := trivial; have kz : True := trivial; have ks : True := trivial; have ka : True := trivial
  cases h : sigOk ⟨x, y⟩
  · go_enter Try.func34, Try.ntmps34
    go_wp2
    (refine wp_region_after (by kernel_rfl) (by kernel_rfl) ?_; (repeat (first | go_big_quiet_skip | (go_big_quiet_want; go_big_quiet_op; (first | go_big_quiet_on | (apply Exists.intro; refine ⟨fun xw => ?_, ?_⟩; (focus ((first | (go_at_call 51; have hh := isSig_any ⟨x, y⟩ xw.w; simp only [h] at hh; exact Calls.after hh) | (go_at_call 53; exact Calls.after (lettersOf_any ⟨x, y⟩ h _)) | (go_at_call 61; exact Calls.after (isWord_any (hx.keeps0 (hk.box.box.trans xw.k)) (hy.keeps0 (hk.box.box.trans xw.k)) _))))); go_big_quiet_on))))); refine wpQuiet_nil ?_; intro _ hw; obtain ⟨⟨wq, hkq⟩, rfl⟩ := hw; try dsimp only)
    go_wp2
    go_ret
    exact ⟨ret_bool (by unfold wordOkS; simp [h]), (hk.trans hkq).box.box⟩
  · go_enter Try.func34, Try.ntmps34
    go_wp2
    (refine wp_region_after (by kernel_rfl) (by kernel_rfl) ?_; (repeat (first | go_big_quiet_skip | (go_big_quiet_want; go_big_quiet_op; (first | go_big_quiet_on | (apply Exists.intro; refine ⟨fun xw => ?_, ?_⟩; (focus ((first | (go_at_call 51; have hh := isSig_any ⟨x, y⟩ xw.w; simp only [h] at hh; exact Calls.after hh) | (go_at_call 53; exact Calls.after (lettersOf_any ⟨x, y⟩ h _)) | (go_at_call 61; exact Calls.after (isWord_any (hx.keeps0 (hk.box.box.trans xw.k)) (hy.keeps0 (hk.box.box.trans xw.k)) _))))); go_big_quiet_on))))); refine wpQuiet_nil ?_; intro _ hw; obtain ⟨⟨wq, hkq⟩, rfl⟩ := hw; try dsimp only)
    go_wp2
    go_ret
    exact ⟨ret_bool (by unfold wordOkS; simp [h]), (hk.trans hkq).box.box⟩

end Go.Proofs.Ytknkdgacdeeemaa
