/- Validity of words and lists of letters, the program's and the reference's. Conditions: the slices lie in memory; integers fit int64. -/
import Derived.Test.YtknkdgacdeeemaaWord
namespace Go.Proofs.Ytknkdgacdeeemaa
open Go.RowKit
open Shp

theorem callee_are (vs : Array Value) (wr : World) : Sem.run Try.prog (callFunc 84 vs) wr = .ok (.enter 84 vs) wr := by kernel_rfl

set_option maxHeartbeats 1000000 in
theorem are1_any {w : World} {b : Nat} (n x : Int) (hc : w.cell? ⟨b, 0, none⟩ = some (.int .i64 n)) :
    Calls Try.prog 84 (#[.int .i64 x] ++ #[.pointer (some ⟨b, 0, none⟩)]) w (Pure w (.bool (outOf_ n x))) := by
  unfold Pure
  by_cases h : x < 0
  · go_enter Try.func84, Try.ntmps84
    go_wp2
    go_ret
    exact ⟨ret_bool (by unfold outOf_; simp [h]), Keeps.refl _ _⟩
  · go_enter Try.func84, Try.ntmps84
    go_wp2
    go_ret
    exact ⟨ret_bool (by unfold outOf_; rw [Bool.eq_iff_iff]; simp; omega), Keeps.refl _ _⟩

set_option maxHeartbeats 1000000 in
theorem areLetters_any {w : World} {F : List Nat} {a : Option Addr} {cap : Nat} {xs : List Int} (hx : Ints w F a cap xs) (n : Int) :
    Calls Try.prog 78 #[.slice a xs.length cap, .int .i64 n] w (Pure w (.bool (below n xs))) := by
  unfold Pure
  have hso := some_out n xs
  have HS := Lib.hid hso
  clear hso
  go_enter Try.func78, Try.ntmps78
  go_wp2_with (go_at_call 83; refine (ContainsFunc_any (hx.keeps0 (Keeps.alloc [] w _)) 84 #[.pointer (some ⟨w.heap.size, 0, none⟩)] (outOf_ n) callee_are (fun x _ wr hk => are1_any n x (by rw [hk.cell (by simp) (by simp)]; simp [go_sem]))).mono ?_; rintro e w1 ⟨rfl, hk1⟩)
  go_ret
  exact ⟨ret_bool HS.out, hk1.box⟩

set_option maxHeartbeats 1000000 in
theorem isWord_any {w : World} {F G : List Nat} {a b : Option Addr} {ca cb : Nat} {xs ys : List Int} (hx : Ints w F a ca xs) (hy : Ints w G b cb ys) (n : Int) :
    Calls Try.prog 61 #[.agg #[.slice a xs.length ca, .slice b ys.length cb], .int .i64 n] w (Pure w (.bool (wordOk n ⟨xs, ys⟩))) := by
  unfold Pure
  have m1 := hx.le
  have m2 := hx.max
  have m3 := hy.le
  have m4 := hy.max
  have hk : Keeps [] (w.alloc (.cells #[.slice a xs.length ca, .slice b ys.length cb] 49) ) (w.alloc (.cells #[.slice a xs.length ca, .slice b ys.length cb] 49) ) := Keeps.refl _ _; have hc : True := trivial; have kz : True := trivial; have ks : True := trivial; have ka : True := trivial
  by_cases h1 : xs.length ≤ 600
  · by_cases h2 : 1 ≤ ys.length
    · by_cases h3 : ys.length ≤ 600
      · cases h4 : below n xs
        · rw [wordOk_no (by simp [h4])]
          go_enter Try.func61, Try.ntmps61
          go_wp2_with (first | (go_at_call_of 78 (Value.slice a xs.length ca); refine (areLetters_any (hx.keeps0 hk.box) n).mono ?_; rintro e w1 ⟨rfl, hq⟩; replace hk := hk.trans hq; clear hq hc; have hc := hk.bc.1) | (go_at_call_of 78 (Value.slice b ys.length cb); refine (areLetters_any (hy.keeps0 hk.box) n).mono ?_; rintro e w1 ⟨rfl, hq⟩; replace hk := hk.trans hq; clear hq hc; have hc := hk.bc.1))
          go_ret
          exact ⟨rfl, hk.box⟩
        · cases h5 : below n ys
          · rw [wordOk_no (by simp [h5])]
            go_enter Try.func61, Try.ntmps61
            go_wp2_with (first | (go_at_call_of 78 (Value.slice a xs.length ca); refine (areLetters_any (hx.keeps0 hk.box) n).mono ?_; rintro e w1 ⟨rfl, hq⟩; replace hk := hk.trans hq; clear hq hc; have hc := hk.bc.1) | (go_at_call_of 78 (Value.slice b ys.length cb); refine (areLetters_any (hy.keeps0 hk.box) n).mono ?_; rintro e w1 ⟨rfl, hq⟩; replace hk := hk.trans hq; clear hq hc; have hc := hk.bc.1))
            go_ret
            exact ⟨rfl, hk.box⟩
          · rw [wordOk_iff.2 ⟨h1, h2, h3, h4, h5⟩]
            go_enter Try.func61, Try.ntmps61
            go_wp2_with (first | (go_at_call_of 78 (Value.slice a xs.length ca); refine (areLetters_any (hx.keeps0 hk.box) n).mono ?_; rintro e w1 ⟨rfl, hq⟩; replace hk := hk.trans hq; clear hq hc; have hc := hk.bc.1) | (go_at_call_of 78 (Value.slice b ys.length cb); refine (areLetters_any (hy.keeps0 hk.box) n).mono ?_; rintro e w1 ⟨rfl, hq⟩; replace hk := hk.trans hq; clear hq hc; have hc := hk.bc.1))
            go_ret
            exact ⟨rfl, hk.box⟩
      · rw [wordOk_no (by simp only; omega)]
        go_enter Try.func61, Try.ntmps61
        go_wp2
        go_ret
        exact ⟨rfl, hk.box⟩
    · rw [wordOk_no (by simp only; omega)]
      have h2' : ys.length = 0 := by omega
      have hz : ((ys.length : Int) == 0) = true := by simp [h2']
      clear h2'
      go_enter Try.func61, Try.ntmps61
      go_wp2
      go_ret
      exact ⟨rfl, hk.box⟩
  · rw [wordOk_no (by simp only; omega)]
    go_enter Try.func61, Try.ntmps61
    go_wp2
    go_ret
    exact ⟨rfl, hk.box⟩

set_option maxHeartbeats 1000000 in
theorem l23Word_any {w : World} {F G : List Nat} {a b : Option Addr} {ca cb : Nat} {xs ys : List Int} (hx : Ints w F a ca xs) (hy : Ints w G b cb ys) (n : Int) (hn0 : -9223372036854775807 ≤ n) (hn : n ≤ 9223372036854775807) :
    Calls Try.prog 60 #[.agg #[.slice a xs.length ca, .slice b ys.length cb], .int .i64 n] w (Pure w (.bool (wordOk n ⟨xs, ys⟩))) := by
  unfold Pure
  have m1 := hx.le
  have m2 := hx.max
  have m3 := hy.le
  have m4 := hy.max
  have hk : Keeps [] (w.alloc (.cells #[.slice a xs.length ca, .slice b ys.length cb] 49) ) (w.alloc (.cells #[.slice a xs.length ca, .slice b ys.length cb] 49) ) := Keeps.refl _ _; have hc : True := trivial; have kz : True := trivial; have ks : True := trivial; have ka : True := trivial
  by_cases h1 : xs.length ≤ 600
  · by_cases h2 : 1 ≤ ys.length
    · have hz : ((ys.length : Int) == 0) = false := by simp; intro e; rw [e] at h2; simp at h2
      by_cases h3 : ys.length ≤ 600
      · cases h4 : below n xs
        · rw [wordOk_no (by simp [h4])]
          go_enter Try.func60, Try.ntmps60
          go_wp2_with (first | (go_at_call_of 77 (Value.slice a xs.length ca); refine (l23Below_any (hx.keeps0 hk.box) n hn0 hn).mono ?_; rintro e w1 ⟨rfl, hq⟩; replace hk := hk.trans hq; clear hq hc; have hc := hk.bc.1) | (go_at_call_of 77 (Value.slice b ys.length cb); refine (l23Below_any (hy.keeps0 hk.box) n hn0 hn).mono ?_; rintro e w1 ⟨rfl, hq⟩; replace hk := hk.trans hq; clear hq hc; have hc := hk.bc.1))
          go_ret
          exact ⟨rfl, hk.box⟩
        · cases h5 : below n ys
          · rw [wordOk_no (by simp [h5])]
            go_enter Try.func60, Try.ntmps60
            go_wp2_with (first | (go_at_call_of 77 (Value.slice a xs.length ca); refine (l23Below_any (hx.keeps0 hk.box) n hn0 hn).mono ?_; rintro e w1 ⟨rfl, hq⟩; replace hk := hk.trans hq; clear hq hc; have hc := hk.bc.1) | (go_at_call_of 77 (Value.slice b ys.length cb); refine (l23Below_any (hy.keeps0 hk.box) n hn0 hn).mono ?_; rintro e w1 ⟨rfl, hq⟩; replace hk := hk.trans hq; clear hq hc; have hc := hk.bc.1))
            go_ret
            exact ⟨rfl, hk.box⟩
          · rw [wordOk_iff.2 ⟨h1, h2, h3, h4, h5⟩]
            go_enter Try.func60, Try.ntmps60
            go_wp2_with (first | (go_at_call_of 77 (Value.slice a xs.length ca); refine (l23Below_any (hx.keeps0 hk.box) n hn0 hn).mono ?_; rintro e w1 ⟨rfl, hq⟩; replace hk := hk.trans hq; clear hq hc; have hc := hk.bc.1) | (go_at_call_of 77 (Value.slice b ys.length cb); refine (l23Below_any (hy.keeps0 hk.box) n hn0 hn).mono ?_; rintro e w1 ⟨rfl, hq⟩; replace hk := hk.trans hq; clear hq hc; have hc := hk.bc.1))
            go_ret
            exact ⟨rfl, hk.box⟩
      · rw [wordOk_no (by simp only; omega)]
        go_enter Try.func60, Try.ntmps60
        go_wp2
        go_ret
        exact ⟨rfl, hk.box⟩
    · rw [wordOk_no (by simp only; omega)]
      have h2' : ys.length = 0 := by omega
      have hz : ((ys.length : Int) == 0) = true := by simp [h2']
      clear h2'
      go_enter Try.func60, Try.ntmps60
      go_wp2
      go_ret
      exact ⟨rfl, hk.box⟩
  · rw [wordOk_no (by simp only; omega)]
    go_enter Try.func60, Try.ntmps60
    go_wp2
    go_ret
    exact ⟨rfl, hk.box⟩

end Go.Proofs.Ytknkdgacdeeemaa
