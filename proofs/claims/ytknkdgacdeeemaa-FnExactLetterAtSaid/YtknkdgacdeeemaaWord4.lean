/- Measure, equality and marks of words; WordOk and LetterAt of both sides. Conditions: the slices lie in memory; integers fit int64. -/
import Derived.Test.YtknkdgacdeeemaaWord3
namespace Go.Proofs.Ytknkdgacdeeemaa
open Go.RowKit
open Shp

set_option maxHeartbeats 1000000 in
theorem eqWord_any {w : World} {F G F' G' : List Nat} {a b a' b' : Option Addr} {ca cb ca' cb' : Nat} {xs ys xs' ys' : List Int} (hx : Ints w F a ca xs) (hy : Ints w G b cb ys) (hx' : Ints w F' a' ca' xs') (hy' : Ints w G' b' cb' ys') :
    Calls Try.prog 35 #[.agg #[.slice a xs.length ca, .slice b ys.length cb], .agg #[.slice a' xs'.length ca', .slice b' ys'.length cb']] w (Pure w (.bool (eqL xs xs' && eqL ys ys'))) := by
  unfold Pure
  have hk : Keeps [] ((w.alloc (.cells #[.slice a xs.length ca, .slice b ys.length cb] 49)).alloc (.cells #[.slice a' xs'.length ca', .slice b' ys'.length cb'] 49) ) ((w.alloc (.cells #[.slice a xs.length ca, .slice b ys.length cb] 49)).alloc (.cells #[.slice a' xs'.length ca', .slice b' ys'.length cb'] 49) ) := Keeps.refl _ _; have hc : True := trivial; have kz : True := trivial; have ks : True := trivial; have ka : True := trivial
  cases h1 : eqL xs xs'
  · go_enter Try.func35, Try.ntmps35
    go_wp2_with (go_at_call 56; refine (eqInt64S_any (hx.keeps0 hk.box.box) (hx'.keeps0 hk.box.box)).mono ?_; rintro e w1 ⟨rfl, hq⟩; replace hk := hk.trans hq; clear hq hc kz ks ka; obtain ⟨hc, kz, ks⟩ := hk.bd; have ka := hk.aft)
    go_ret
    exact ⟨ret_bool (by simp [*]), hk.box.box⟩
  · go_enter Try.func35, Try.ntmps35
    go_wp2_with fail
    refine (eqInt64S_any (hx.keeps0 hk.box.box) (hx'.keeps0 hk.box.box)).mono ?_
    rintro e w1 ⟨rfl, hq⟩
    replace hk := hk.trans hq
    clear hq hc
    have hc := hk.bc.1
    cases h2 : eqL ys ys'
    · go_wp2_with (go_at_call 56; refine (eqInt64S_any (hy.keeps0 hk.box.box) (hy'.keeps0 hk.box.box)).mono ?_; rintro e w1 ⟨rfl, hq⟩; replace hk := hk.trans hq; clear hq hc kz ks ka; obtain ⟨hc, kz, ks⟩ := hk.bd; have ka := hk.aft)
      go_ret
      exact ⟨ret_bool (by simp [*]), hk.box.box⟩
    · go_wp2_with (go_at_call 56; refine (eqInt64S_any (hy.keeps0 hk.box.box) (hy'.keeps0 hk.box.box)).mono ?_; rintro e w1 ⟨rfl, hq⟩; replace hk := hk.trans hq; clear hq hc kz ks ka; obtain ⟨hc, kz, ks⟩ := hk.bd; have ka := hk.aft)
      go_ret
      exact ⟨ret_bool (by simp [*]), hk.box.box⟩

def szWord (x : WordT) (left : Int) : Int := if sz x.stem.length left < 0 then -1 else sz x.loop.length (sz x.stem.length left)

theorem sz_cases (n : Nat) (l : Int) : (l - n < 0 ∧ sz n l = -1) ∨ (0 ≤ l - n ∧ sz n l = l - n) := by
  unfold sz
  by_cases h : l - (n : Int) < 0
  · exact .inl ⟨h, if_pos h⟩
  · exact .inr ⟨by omega, if_neg h⟩
theorem sz_bd (n : Nat) (l : Int) : sz n l ≤ l ∨ sz n l = -1 := by rcases sz_cases n l with h | h <;> omega
theorem sz_ok {n : Nat} {l : Int} (h : ¬ sz n l < 0) : (n : Int) ≤ l ∧ sz n l = l - n := by rcases sz_cases n l with h' | h' <;> omega
theorem sz_neg {n : Nat} {l : Int} (h : sz n l < 0) : sz n l = -1 := by rcases sz_cases n l with h' | h' <;> omega

theorem szWord_ok {x : WordT} {l : Int} (h : ¬ szWord x l < 0) : (x.stem.length : Int) ≤ l ∧ (x.loop.length : Int) ≤ l := by
  unfold szWord at h
  split at h
  · omega
  · rename_i h1
    have e1 := sz_ok h1
    have e2 := sz_ok h
    omega

set_option maxHeartbeats 1000000 in
theorem szWord_any {w : World} {F G : List Nat} {a b : Option Addr} {ca cb : Nat} {xs ys : List Int} (hx : Ints w F a ca xs) (hy : Ints w G b cb ys) (left : Int) (hl0 : 0 ≤ left) (hl : left ≤ 1048576) :
    Calls Try.prog 31 #[.agg #[.slice a xs.length ca, .slice b ys.length cb], .int .i64 left] w (Pure w (.int .i64 (szWord ⟨xs, ys⟩ left))) := by
  unfold Pure
  have m1 : xs.length ≤ 9223372036854775807 := Nat.le_trans hx.le hx.max
  have m2 : ys.length ≤ 9223372036854775807 := Nat.le_trans hy.le hy.max
  by_cases h1 : sz xs.length left < 0
  · have hr : szWord ⟨xs, ys⟩ left = -1 := by unfold szWord; rw [if_pos h1]
    rw [hr]
    go_enter Try.func31, Try.ntmps31
    go_wp2_with (go_at_call 54; refine (szInt64S_any _ _ _ _ m1 hl0 hl _).mono ?_; rintro e w1 ⟨rfl, rfl⟩)
    go_ret
    exact ⟨rfl, (by repeat (first | exact Keeps.refl _ _ | assumption | apply Keeps.alloc0 | apply Keeps.drew0 | apply Keeps.drewN0 | (refine Keeps.set0 ?_ (by simp <;> omega) _) | (refine Keeps.trans0 ?_ (by assumption))))⟩
  · have hr : szWord ⟨xs, ys⟩ left = sz ys.length (sz xs.length left) := by unfold szWord; rw [if_neg h1]
    rw [hr]
    have e1 := (sz_ok h1).1
    have e3 : 0 ≤ sz xs.length left := by omega
    have e4 : sz xs.length left ≤ 1048576 := by have := sz_bd xs.length left; omega
    by_cases h2 : sz ys.length (sz xs.length left) < 0
    · have hm : sz ys.length (sz xs.length left) = -1 := sz_neg h2
      have HM := Lib.hid hm
      clear hm
      go_enter Try.func31, Try.ntmps31
      go_wp2_with fail
      refine (szInt64S_any _ xs.length _ _ m1 hl0 hl _).mono ?_
      rintro e w1 ⟨rfl, rfl⟩
      go_wp2_with fail
      refine (szInt64S_any _ ys.length _ _ m2 e3 e4 _).mono ?_
      rintro e w1 ⟨rfl, rfl⟩
      go_wp2
      go_ret
      exact ⟨ret_int HM.out.symm, (by repeat (first | exact Keeps.refl _ _ | assumption | apply Keeps.alloc0 | apply Keeps.drew0 | apply Keeps.drewN0 | (refine Keeps.set0 ?_ (by simp <;> omega) _) | (refine Keeps.trans0 ?_ (by assumption))))⟩
    · go_enter Try.func31, Try.ntmps31
      go_wp2_with fail
      refine (szInt64S_any _ xs.length _ _ m1 hl0 hl _).mono ?_
      rintro e w1 ⟨rfl, rfl⟩
      go_wp2_with fail
      refine (szInt64S_any _ ys.length _ _ m2 e3 e4 _).mono ?_
      rintro e w1 ⟨rfl, rfl⟩
      go_wp2
      go_ret
      exact ⟨rfl, (by repeat (first | exact Keeps.refl _ _ | assumption | apply Keeps.alloc0 | apply Keeps.drew0 | apply Keeps.drewN0 | (refine Keeps.set0 ?_ (by simp <;> omega) _) | (refine Keeps.trans0 ?_ (by assumption))))⟩

set_option maxHeartbeats 1000000 in
theorem markWord_any {w : World} {F G : List Nat} {a b : Option Addr} {ca cb : Nat} {xs ys : List Int} (hx : Ints w F a ca xs) (hy : Ints w G b cb ys) (hd : ∀ k ∈ F, k ∉ G) (k0 : Int) (h0 : 0 ≤ k0) (h1 : k0 + xs.length + ys.length ≤ 1099511627776) :
    Calls Try.prog 44 #[.agg #[.slice a xs.length ca, .slice b ys.length cb], .int .i64 k0] w fun e w' => e = .returned (.int .i64 (k0 + xs.length + ys.length)) ∧ Ints w' F a ca (marks k0 xs.length) ∧ Ints w' G b cb (marks (k0 + xs.length) ys.length) ∧ Keeps (F ++ G) w w' := by
  have l1 := hx.lt
  have l2 := hy.lt
  have L1 := Lib.hid l1
  have L2 := Lib.hid l2
  have HD := Lib.hid hd
  clear l1 l2 hd
  go_enter Try.func44, Try.ntmps44
  go_wp2_with fail
  refine (markInt64S_any (hx.keeps0 (by repeat (first | exact Keeps.refl _ _ | assumption | apply Keeps.alloc0 | apply Keeps.drew0 | apply Keeps.drewN0 | (refine Keeps.set0 ?_ (by simp <;> omega) _) | (refine Keeps.trans0 ?_ (by assumption))))) k0 h0 (by omega)).mono ?_
  rintro e w1 ⟨rfl, hI1, hk1⟩
  have A1 := hk1.box_ (box_new _ _) (fun h => by have := L1.out _ h; omega)
  have fA := box2 A1
  go_wp2_with fail
  have hy1 : Ints w1 G b cb ys := (hy.keeps0 (Keeps.alloc [] w _)).keeps hk1 (fun b hb h => HD.out b h hb)
  refine (markInt64S_any hy1 _ (by omega) (by omega)).mono ?_
  rintro e w2 ⟨rfl, hI2, hk2⟩
  go_wp2
  go_ret
  refine ⟨rfl, hI1.keeps hk2 (fun b hb h => HD.out b hb h), hI2, ?_⟩
  exact ((Keeps.alloc (F ++ G) w _).trans' (hk1.mono (M := F ++ G) (fun i hi => List.mem_append.2 (.inl hi))) (fun i hi _ => hi)).trans (hk2.mono (fun i hi => List.mem_append.2 (.inr hi)))

set_option maxHeartbeats 1000000 in
theorem heldWord_any {w : World} {F G : List Nat} {a b : Option Addr} {ca cb : Nat} {xs ys : List Int} (hx : Ints w F a ca xs) (hy : Ints w G b cb ys) (k0 : Int) (h0 : 0 ≤ k0) (h1 : k0 + xs.length + ys.length ≤ 1099511627776) (e1 : xs = marks k0 xs.length) (e2 : ys = marks (k0 + xs.length) ys.length) :
    Calls Try.prog 45 #[.agg #[.slice a xs.length ca, .slice b ys.length cb], .int .i64 k0] w (Pure w (.int .i64 (k0 + xs.length + ys.length))) := by
  unfold Pure
  have hh1 := held_yes _ _ e1
  have hh2 := held_yes _ _ e2
  have H1 := Lib.hid hh1
  have H2 := Lib.hid hh2
  clear e1 e2 hh1 hh2
  have hk : Keeps [] (w.alloc (.cells #[.slice a xs.length ca, .slice b ys.length cb] 49) ) (w.alloc (.cells #[.slice a xs.length ca, .slice b ys.length cb] 49) ) := Keeps.refl _ _; have hc : True := trivial; have kz : True := trivial; have ks : True := trivial; have ka : True := trivial
  go_enter Try.func45, Try.ntmps45
  go_wp2_with fail
  refine (heldInt64S_any (hx.keeps0 hk.box) k0 h0 (by omega)).mono ?_
  rintro e w1 ⟨rfl, hq⟩
  replace hk := hk.trans hq
  clear hq hc
  have hc := hk.bc.1
  rw [H1.out]
  go_wp2_with fail
  refine (heldInt64S_any (hy.keeps0 hk.box) _ (by omega) (by omega)).mono ?_
  rintro e w2 ⟨rfl, hq⟩
  replace hk := hk.trans hq
  clear hq hc
  rw [H2.out]
  go_wp2
  go_ret
  exact ⟨rfl, hk.box⟩

end Go.Proofs.Ytknkdgacdeeemaa
