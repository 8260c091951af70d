/- Clauses: SafeIn, ClauseOk, the program's and the reference's. Conditions: the clause lies in memory. -/
import Derived.Test.YtknkdgacdeeemaaTClause
import Derived.Test.YtknkdgacdeeemaaSet
import Derived.Test.YtknkdgacdeeemaaSig2
import Derived.Test.YtknkdgacdeeemaaOpen
import Derived.Test.YtknkdgacdeeemaaRegion
namespace Go.Proofs.Ytknkdgacdeeemaa
open Go.RowKit
open Shp

def second (k : Int) : Bool := decide (k = 2 ∨ k = 3 ∨ k = 7)
def safe (k : Int) : Bool := decide (k = 1 ∨ k = 2)
def kindOk (k : Int) : Bool := decide (1 ≤ k ∧ k ≤ 7)
def clauseOk (n : Int) (c : ClauseT) : Bool := kindOk c.kind && (isSet n c.A && (isSet n c.B && (second c.kind || decide (c.B.length = 0))))
def clauseOkS (s : SigT) (c : ClauseT) : Bool := sigOk s && clauseOk (letters s) c

theorem o_clause : Opens Try.prog 34 clauseS :=
  Opens.by_ (opens_three Try.underlying34 (by kernel_rfl) rfl rfl rfl o_int64 o_ints o_ints) _ (fun p => ⟨p.1, p.2.1, p.2.2⟩) (fun _ => rfl)

set_option maxHeartbeats 400000 in
theorem hasSecond_any (k : Int) (w : World) : Calls Try.prog 81 #[.int .i64 k] w (Pure w (.bool (second k))) := by
  unfold Pure
  have e2 := Lib.hid (show second k = decide (k = 2 ∨ k = 3 ∨ k = 7) from rfl)
  cases h1 : (k == 2)
  · cases h2 : (k == 3)
    · go_enter Try.func81, Try.ntmps81
      go_wp2
      go_ret
      exact ⟨ret_bool (by rw [e2.out]; rw [Bool.eq_iff_iff]; simp at *; omega), Keeps.refl _ _⟩
    · go_enter Try.func81, Try.ntmps81
      go_wp2
      go_ret
      exact ⟨ret_bool (by rw [e2.out]; simp at *; omega), Keeps.refl _ _⟩
  · go_enter Try.func81, Try.ntmps81
    go_wp2
    go_ret
    exact ⟨ret_bool (by rw [e2.out]; simp at *; omega), Keeps.refl _ _⟩

set_option maxHeartbeats 400000 in
theorem l24Both_any (k : Int) (w : World) : Calls Try.prog 66 #[.int .i64 k] w (Pure w (.bool (second k))) := by
  unfold Pure
  have e2 := Lib.hid (show second k = decide (k = 2 ∨ k = 3 ∨ k = 7) from rfl)
  cases h1 : (k == 2)
  · cases h2 : (k == 3)
    · go_enter Try.func66, Try.ntmps66
      go_wp2
      go_ret
      exact ⟨ret_bool (by rw [e2.out]; rw [Bool.eq_iff_iff]; simp at *; omega), Keeps.refl _ _⟩
    · go_enter Try.func66, Try.ntmps66
      go_wp2
      go_ret
      exact ⟨ret_bool (by rw [e2.out]; simp at *; omega), Keeps.refl _ _⟩
  · go_enter Try.func66, Try.ntmps66
    go_wp2
    go_ret
    exact ⟨ret_bool (by rw [e2.out]; simp at *; omega), Keeps.refl _ _⟩

set_option maxHeartbeats 400000 in
theorem implSafeIn_rep {w : World} {F : List Nat} {cs : List Value} {x : ClauseT} (h : clauseS.rep w F cs x) : Calls Try.prog 27 #[clauseS.val cs] w (Pure w (.bool (safe x.kind))) := by
  obtain ⟨a1, n1, F1, a2, n2, F2, rfl, rfl, h0, h1, h2⟩ := clauseS_iff.1 h
  obtain ⟨x0, x1, x2⟩ := x
  simp only at h0 h1 h2
  show Calls _ _ #[.agg #[.int .i64 x0, .slice a1 x1.length n1, .slice a2 x2.length n2]] _ _
  unfold Pure
  have e2 := Lib.hid (show safe x0 = decide (x0 = 1 ∨ x0 = 2) from rfl)
  show Calls _ _ _ _ fun e w' => e = .returned (.bool (safe x0)) ∧ _
  cases g1 : (x0 == 1)
  · go_enter Try.func27, Try.ntmps27
    go_wp2
    go_ret
    exact ⟨ret_bool (by rw [e2.out]; rw [Bool.eq_iff_iff]; simp at *; omega), (Keeps.refl _ _).alloc0 _⟩
  · go_enter Try.func27, Try.ntmps27
    go_wp2
    go_ret
    exact ⟨ret_bool (by rw [e2.out]; simp at *; omega), (Keeps.refl _ _).alloc0 _⟩

set_option maxHeartbeats 400000 in
theorem specSafeIn_rep {w : World} {F : List Nat} {cs : List Value} {x : ClauseT} (h : clauseS.rep w F cs x) : Calls Try.prog 25 #[clauseS.val cs] w (Pure w (.bool (safe x.kind))) := by
  obtain ⟨a1, n1, F1, a2, n2, F2, rfl, rfl, h0, h1, h2⟩ := clauseS_iff.1 h
  obtain ⟨x0, x1, x2⟩ := x
  simp only at h0 h1 h2
  show Calls _ _ #[.agg #[.int .i64 x0, .slice a1 x1.length n1, .slice a2 x2.length n2]] _ _
  unfold Pure
  have e2 := Lib.hid (show safe x0 = decide (x0 = 1 ∨ x0 = 2) from rfl)
  show Calls _ _ _ _ fun e w' => e = .returned (.bool (safe x0)) ∧ _
  cases g1 : (x0 == 1)
  · go_enter Try.func25, Try.ntmps25
    go_wp2
    go_ret
    exact ⟨ret_bool (by rw [e2.out]; rw [Bool.eq_iff_iff]; simp at *; omega), (Keeps.refl _ _).alloc0 _⟩
  · go_enter Try.func25, Try.ntmps25
    go_wp2
    go_ret
    exact ⟨ret_bool (by rw [e2.out]; simp at *; omega), (Keeps.refl _ _).alloc0 _⟩

set_option maxHeartbeats 4000000 in
theorem isClause_any {w : World} {F : List Nat} {cs : List Value} {x : ClauseT} (h : clauseS.rep w F cs x) (s : SigT) (hs : sigOk s = true) : Calls Try.prog 67 #[sigV s, clauseS.val cs] w (Pure w (.bool (clauseOk (letters s) x))) := by
  obtain ⟨a1, n1, F1, a2, n2, F2, rfl, rfl, h0, h1, h2⟩ := clauseS_iff.1 h
  obtain ⟨x0, x1, x2⟩ := x
  simp only at h0 h1 h2
  obtain ⟨x, y⟩ := s
  obtain ⟨_, _, he1, i1⟩ := ints_iff.1 h1
  obtain ⟨_, _, he2, i2⟩ := ints_iff.1 h2
  simp at he1 he2
  obtain ⟨rfl, rfl⟩ := he1
  obtain ⟨rfl, rfl⟩ := he2
  show Calls _ _ #[.agg #[.int .i64 x, .int .i64 y], .agg #[.int .i64 x0, .slice a1 x1.length n1, .slice a2 x2.length n2]] _ _
  unfold Pure
  have hlb := letters_bd ⟨x, y⟩
  have ecl := Lib.hid (show clauseOk (letters ⟨x, y⟩) ⟨x0, x1, x2⟩ = (kindOk x0 && (isSet (letters ⟨x, y⟩) x1 && (isSet (letters ⟨x, y⟩) x2 && (second x0 || decide (x2.length = 0))))) from rfl)
  have hk : Keeps [] ((w.alloc (.cells #[.int .i64 x, .int .i64 y] 25)).alloc (.cells #[.int .i64 x0, .slice a1 x1.length n1, .slice a2 x2.length n2] 37) ) ((w.alloc (.cells #[.int .i64 x, .int .i64 y] 25)).alloc (.cells #[.int .i64 x0, .slice a1 x1.length n1, .slice a2 x2.length n2] 37) ) := Keeps.refl _ _; have hc : True := trivial; have kz : True := trivial; have ks : True := trivial; have ka : True := trivial
  have m1 := i2.le
  have m2 := i2.max
  by_cases k1 : x0 < 1
  · have kk : kindOk x0 = false := by unfold kindOk; simp; omega
    have d1 : decide (x0 < 1) = true := by simpa using k1
    go_enter Try.func67, Try.ntmps67
    go_wp2
    (refine wp_region_after (by kernel_rfl) (by kernel_rfl) ?_; (repeat (first | go_big_quiet_skip | (go_big_quiet_want; go_big_quiet_op; (first | go_big_quiet_on | (apply Exists.intro; refine ⟨fun xw => ?_, ?_⟩; (focus ((first | (go_at_call 53; exact Calls.after (lettersOf_any ⟨x, y⟩ hs _)) | (go_at_call_of 80 (Value.slice a1 x1.length n1); have hh := isSet_any (i1.keeps0 (hk.box.box.trans xw.k)) (letters ⟨x, y⟩) hlb.1 (by omega);  exact Calls.after hh) | (go_at_call_of 80 (Value.slice a2 x2.length n2); have hh := isSet_any (i2.keeps0 (hk.box.box.trans xw.k)) (letters ⟨x, y⟩) hlb.1 (by omega);  exact Calls.after hh)))); go_big_quiet_on))))); refine wpQuiet_nil ?_; intro _ hw; obtain ⟨⟨wq, hkq⟩, rfl⟩ := hw; try dsimp only)
    go_wp2
    go_ret
    exact ⟨ret_bool (by rw [ecl.out]; simp [kk]), (hk.trans hkq).box.box⟩
  · have d1 : decide (x0 < 1) = false := by simpa using k1
    by_cases k2 : 7 < x0
    · have kk : kindOk x0 = false := by unfold kindOk; simp; omega
      have d2 : decide (7 < x0) = true := by simpa using k2
      go_enter Try.func67, Try.ntmps67
      go_wp2
      (refine wp_region_after (by kernel_rfl) (by kernel_rfl) ?_; (repeat (first | go_big_quiet_skip | (go_big_quiet_want; go_big_quiet_op; (first | go_big_quiet_on | (apply Exists.intro; refine ⟨fun xw => ?_, ?_⟩; (focus ((first | (go_at_call 53; exact Calls.after (lettersOf_any ⟨x, y⟩ hs _)) | (go_at_call_of 80 (Value.slice a1 x1.length n1); have hh := isSet_any (i1.keeps0 (hk.box.box.trans xw.k)) (letters ⟨x, y⟩) hlb.1 (by omega);  exact Calls.after hh) | (go_at_call_of 80 (Value.slice a2 x2.length n2); have hh := isSet_any (i2.keeps0 (hk.box.box.trans xw.k)) (letters ⟨x, y⟩) hlb.1 (by omega);  exact Calls.after hh)))); go_big_quiet_on))))); refine wpQuiet_nil ?_; intro _ hw; obtain ⟨⟨wq, hkq⟩, rfl⟩ := hw; try dsimp only)
      go_wp2
      go_ret
      exact ⟨ret_bool (by rw [ecl.out]; simp [kk]), (hk.trans hkq).box.box⟩
    · have kk : kindOk x0 = true := by unfold kindOk; simp; omega
      have d2 : decide (7 < x0) = false := by simpa using k2
      cases g1 : isSet (letters ⟨x, y⟩) x1
      case false =>
        go_enter Try.func67, Try.ntmps67
        go_wp2
        (refine wp_region_after (by kernel_rfl) (by kernel_rfl) ?_; (repeat (first | go_big_quiet_skip | (go_big_quiet_want; go_big_quiet_op; (first | go_big_quiet_on | (apply Exists.intro; refine ⟨fun xw => ?_, ?_⟩; (focus ((first | (go_at_call 53; exact Calls.after (lettersOf_any ⟨x, y⟩ hs _)) | (go_at_call_of 80 (Value.slice a1 x1.length n1); have hh := isSet_any (i1.keeps0 (hk.box.box.trans xw.k)) (letters ⟨x, y⟩) hlb.1 (by omega); rw [g1] at hh; exact Calls.after hh) | (go_at_call_of 80 (Value.slice a2 x2.length n2); have hh := isSet_any (i2.keeps0 (hk.box.box.trans xw.k)) (letters ⟨x, y⟩) hlb.1 (by omega);  exact Calls.after hh)))); go_big_quiet_on))))); refine wpQuiet_nil ?_; intro _ hw; obtain ⟨⟨wq, hkq⟩, rfl⟩ := hw; try dsimp only)
        go_wp2
        go_ret
        exact ⟨ret_bool (by rw [ecl.out]; simp [kk, g1]), (hk.trans hkq).box.box⟩
      case true =>
        cases g2 : isSet (letters ⟨x, y⟩) x2
        case false =>
          go_enter Try.func67, Try.ntmps67
          go_wp2
          (refine wp_region_after (by kernel_rfl) (by kernel_rfl) ?_; (repeat (first | go_big_quiet_skip | (go_big_quiet_want; go_big_quiet_op; (first | go_big_quiet_on | (apply Exists.intro; refine ⟨fun xw => ?_, ?_⟩; (focus ((first | (go_at_call 53; exact Calls.after (lettersOf_any ⟨x, y⟩ hs _)) | (go_at_call_of 80 (Value.slice a1 x1.length n1); have hh := isSet_any (i1.keeps0 (hk.box.box.trans xw.k)) (letters ⟨x, y⟩) hlb.1 (by omega); rw [g1] at hh; exact Calls.after hh) | (go_at_call_of 80 (Value.slice a2 x2.length n2); have hh := isSet_any (i2.keeps0 (hk.box.box.trans xw.k)) (letters ⟨x, y⟩) hlb.1 (by omega); rw [g2] at hh; exact Calls.after hh)))); go_big_quiet_on))))); refine wpQuiet_nil ?_; intro _ hw; obtain ⟨⟨wq, hkq⟩, rfl⟩ := hw; try dsimp only)
          go_wp2
          go_ret
          exact ⟨ret_bool (by rw [ecl.out]; simp [kk, g1, g2]), (hk.trans hkq).box.box⟩
        case true =>
          have efin : clauseOk (letters ⟨x, y⟩) ⟨x0, x1, x2⟩ = (second x0 || decide (x2.length = 0)) := by rw [ecl.out]; simp [kk, g1, g2]
          have E := Lib.hid efin
          clear efin
          go_enter Try.func67, Try.ntmps67
          go_wp2
          (refine wp_region_after (by kernel_rfl) (by kernel_rfl) ?_; (repeat (first | go_big_quiet_skip | (go_big_quiet_want; go_big_quiet_op; (first | go_big_quiet_on | (apply Exists.intro; refine ⟨fun xw => ?_, ?_⟩; (focus ((first | (go_at_call 53; exact Calls.after (lettersOf_any ⟨x, y⟩ hs _)) | (go_at_call_of 80 (Value.slice a1 x1.length n1); have hh := isSet_any (i1.keeps0 (hk.box.box.trans xw.k)) (letters ⟨x, y⟩) hlb.1 (by omega); rw [g1] at hh; exact Calls.after hh) | (go_at_call_of 80 (Value.slice a2 x2.length n2); have hh := isSet_any (i2.keeps0 (hk.box.box.trans xw.k)) (letters ⟨x, y⟩) hlb.1 (by omega); rw [g2] at hh; exact Calls.after hh)))); go_big_quiet_on))))); refine wpQuiet_nil ?_; intro _ hw; obtain ⟨⟨wq, hkq⟩, rfl⟩ := hw; try dsimp only)
          replace hk := hk.trans hkq
          clear hc kz ks ka
          obtain ⟨hc, kz, ks⟩ := hk.bd
          go_wp2_with fail
          cases g3 : second x0
          case false =>
            refine (hasSecond_any x0 _).mono ?_
            rintro e w1 ⟨rfl, hq⟩
            rw [g3]
            replace hk := hk.trans hq
            clear hq hc kz ks
            obtain ⟨hc, kz, ks⟩ := hk.bd
            go_wp2
            go_ret
            exact ⟨ret_bool (by rw [E.out, g3, Bool.eq_iff_iff]; simp <;> omega), hk.box.box⟩
          case true =>
            refine (hasSecond_any x0 _).mono ?_
            rintro e w1 ⟨rfl, hq⟩
            rw [g3]
            replace hk := hk.trans hq
            clear hq hc kz ks
            obtain ⟨hc, kz, ks⟩ := hk.bd
            go_wp2
            go_ret
            exact ⟨ret_bool (by rw [E.out, g3]; simp), hk.box.box⟩

set_option maxHeartbeats 4000000 in
theorem implClauseOk_rep {w : World} {F : List Nat} {cs : List Value} {x : ClauseT} (h : clauseS.rep w F cs x) (s : SigT) : Calls Try.prog 39 #[sigV s, clauseS.val cs] w (Pure w (.bool (clauseOkS s x))) := by
  obtain ⟨a1, n1, F1, a2, n2, F2, rfl, rfl, h0, h1, h2⟩ := clauseS_iff.1 h
  obtain ⟨x0, x1, x2⟩ := x
  obtain ⟨x, y⟩ := s
  simp only at h0 h1 h2
  show Calls _ _ #[.agg #[.int .i64 x, .int .i64 y], .agg #[.int .i64 x0, .slice a1 x1.length n1, .slice a2 x2.length n2]] _ _
  unfold Pure clauseOkS
  have hk : Keeps [] ((w.alloc (.cells #[.int .i64 x, .int .i64 y] 25)).alloc (.cells #[.int .i64 x0, .slice a1 x1.length n1, .slice a2 x2.length n2] 37) ) ((w.alloc (.cells #[.int .i64 x, .int .i64 y] 25)).alloc (.cells #[.int .i64 x0, .slice a1 x1.length n1, .slice a2 x2.length n2] 37) ) := Keeps.refl _ _; have hc : True := trivial; have kz : True := trivial; have ks : True := trivial; have ka : True := trivial
  have E := Lib.hid (rfl : clauseOk (letters ⟨x, y⟩) ⟨x0, x1, x2⟩ = clauseOk (letters ⟨x, y⟩) ⟨x0, x1, x2⟩)
  cases hs : sigOk ⟨x, y⟩
  · go_enter Try.func39, Try.ntmps39
    go_wp2_with (go_at_call 51; refine (isSig_any ⟨x, y⟩ _).mono ?_; rintro e w1 ⟨rfl, hq⟩; replace hk := hk.trans hq; clear hq hc kz ks ka; obtain ⟨hc, kz, ks⟩ := hk.bd; have ka := hk.aft)
    go_ret
    exact ⟨rfl, hk.box.box⟩
  · go_enter Try.func39, Try.ntmps39
    go_wp2_with (first | (go_at_call 51; refine (isSig_any ⟨x, y⟩ _).mono ?_; rintro e w1 ⟨rfl, hq⟩; replace hk := hk.trans hq; clear hq hc kz ks ka; obtain ⟨hc, kz, ks⟩ := hk.bd; have ka := hk.aft) | (go_at_call 67; refine (isClause_any (clauseS.keeps0 h hk.box.box) ⟨x, y⟩ hs).mono ?_; rintro e w1 ⟨rfl, hq⟩; replace hk := hk.trans hq; clear hq hc kz ks ka; obtain ⟨hc, kz, ks⟩ := hk.bd; have ka := hk.aft))
    go_ret
    exact ⟨ret_bool (by simp), hk.box.box⟩

set_option maxHeartbeats 4000000 in
theorem specClauseOk_rep {w : World} {F : List Nat} {cs : List Value} {x : ClauseT} (h : clauseS.rep w F cs x) (s : SigT) : Calls Try.prog 38 #[sigV s, clauseS.val cs] w (Pure w (.bool (clauseOkS s x))) := by
  obtain ⟨a1, n1, F1, a2, n2, F2, rfl, rfl, h0, h1, h2⟩ := clauseS_iff.1 h
  obtain ⟨x0, x1, x2⟩ := x
  obtain ⟨x, y⟩ := s
  simp only at h0 h1 h2
  obtain ⟨_, _, he1, i1⟩ := ints_iff.1 h1
  obtain ⟨_, _, he2, i2⟩ := ints_iff.1 h2
  simp at he1 he2
  obtain ⟨rfl, rfl⟩ := he1
  obtain ⟨rfl, rfl⟩ := he2
  show Calls _ _ #[.agg #[.int .i64 x, .int .i64 y], .agg #[.int .i64 x0, .slice a1 x1.length n1, .slice a2 x2.length n2]] _ _
  unfold Pure
  have hlb := letters_bd ⟨x, y⟩
  have m1 := i2.le
  have m2 := i2.max
  have ecl := Lib.hid (show clauseOkS ⟨x, y⟩ ⟨x0, x1, x2⟩ = (sigOk ⟨x, y⟩ && (kindOk x0 && (isSet (letters ⟨x, y⟩) x1 && (isSet (letters ⟨x, y⟩) x2 && (second x0 || decide (x2.length = 0)))))) from rfl)
  have hk : Keeps [] ((w.alloc (.cells #[.int .i64 x, .int .i64 y] 25)).alloc (.cells #[.int .i64 x0, .slice a1 x1.length n1, .slice a2 x2.length n2] 37) ) ((w.alloc (.cells #[.int .i64 x, .int .i64 y] 25)).alloc (.cells #[.int .i64 x0, .slice a1 x1.length n1, .slice a2 x2.length n2] 37) ) := Keeps.refl _ _; have hc : True := trivial; have kz : True := trivial; have ks : True := trivial; have ka : True := trivial
  cases hs : sigOk ⟨x, y⟩
  · go_enter Try.func38, Try.ntmps38
    go_wp2_with (go_at_call 48; refine (SigOk_any ⟨x, y⟩ _).mono ?_; rintro e w1 ⟨rfl, hq⟩; replace hk := hk.trans hq; clear hq hc kz ks ka; obtain ⟨hc, kz, ks⟩ := hk.bd; have ka := hk.aft)
    go_ret
    exact ⟨ret_bool (by rw [ecl.out]; simp [hs]), hk.box.box⟩
  · cases k1 : inR x0 1 7
    · have kk : kindOk x0 = false := by unfold kindOk inR at *; exact k1
      go_enter Try.func38, Try.ntmps38
      go_wp2_with (first | (go_at_call 48; refine (SigOk_any ⟨x, y⟩ _).mono ?_; rintro e w1 ⟨rfl, hq⟩; replace hk := hk.trans hq; clear hq hc kz ks ka; obtain ⟨hc, kz, ks⟩ := hk.bd; have ka := hk.aft) | (go_at_call 49; refine (l1In_any _ _ _ _).mono ?_; rintro e w1 ⟨rfl, rfl⟩))
      go_ret
      exact ⟨ret_bool (by rw [ecl.out]; simp [hs, kk]), hk.box.box⟩
    · have kk : kindOk x0 = true := by unfold kindOk inR at *; exact k1
      cases g1 : isSet (letters ⟨x, y⟩) x1
      case false =>
        go_enter Try.func38, Try.ntmps38
        go_wp2_with (first | (go_at_call 48; refine (SigOk_any ⟨x, y⟩ _).mono ?_; rintro e w1 ⟨rfl, hq⟩; replace hk := hk.trans hq; clear hq hc kz ks ka; obtain ⟨hc, kz, ks⟩ := hk.bd; have ka := hk.aft) | (go_at_call 49; refine (l1In_any _ _ _ _).mono ?_; rintro e w1 ⟨rfl, rfl⟩) | (go_at_call 18; refine (specLettersOf_any ⟨x, y⟩ _).mono ?_; rintro e w1 ⟨rfl, hq⟩; replace hk := hk.trans hq; clear hq hc kz ks ka; obtain ⟨hc, kz, ks⟩ := hk.bd; have ka := hk.aft) | (go_at_call_of 65 (Value.slice a1 x1.length n1); refine (l1Set_any (i1.keeps0 hk.box.box) (letters ⟨x, y⟩) hlb.1 (by omega)).mono ?_; rintro e w1 ⟨rfl, hq⟩; replace hk := hk.trans hq; clear hq hc kz ks ka; obtain ⟨hc, kz, ks⟩ := hk.bd; have ka := hk.aft))
        go_ret
        exact ⟨ret_bool (by rw [ecl.out]; simp [hs, kk, g1]), hk.box.box⟩
      case true =>
        cases g2 : isSet (letters ⟨x, y⟩) x2
        case false =>
          go_enter Try.func38, Try.ntmps38
          go_wp2_with (first | (go_at_call 48; refine (SigOk_any ⟨x, y⟩ _).mono ?_; rintro e w1 ⟨rfl, hq⟩; replace hk := hk.trans hq; clear hq hc kz ks ka; obtain ⟨hc, kz, ks⟩ := hk.bd; have ka := hk.aft) | (go_at_call 49; refine (l1In_any _ _ _ _).mono ?_; rintro e w1 ⟨rfl, rfl⟩) | (go_at_call 18; refine (specLettersOf_any ⟨x, y⟩ _).mono ?_; rintro e w1 ⟨rfl, hq⟩; replace hk := hk.trans hq; clear hq hc kz ks ka; obtain ⟨hc, kz, ks⟩ := hk.bd; have ka := hk.aft) | (go_at_call_of 65 (Value.slice a1 x1.length n1); refine (l1Set_any (i1.keeps0 hk.box.box) (letters ⟨x, y⟩) hlb.1 (by omega)).mono ?_; rintro e w1 ⟨rfl, hq⟩; replace hk := hk.trans hq; clear hq hc kz ks ka; obtain ⟨hc, kz, ks⟩ := hk.bd; have ka := hk.aft) | (go_at_call_of 65 (Value.slice a2 x2.length n2); refine (l1Set_any (i2.keeps0 hk.box.box) (letters ⟨x, y⟩) hlb.1 (by omega)).mono ?_; rintro e w1 ⟨rfl, hq⟩; replace hk := hk.trans hq; clear hq hc kz ks ka; obtain ⟨hc, kz, ks⟩ := hk.bd; have ka := hk.aft))
          go_ret
          exact ⟨ret_bool (by rw [ecl.out]; simp [hs, kk, g1, g2]), hk.box.box⟩
        case true =>
          cases g3 : second x0
          all_goals
            go_enter Try.func38, Try.ntmps38
            go_wp2_with (first | (go_at_call 48; refine (SigOk_any ⟨x, y⟩ _).mono ?_; rintro e w1 ⟨rfl, hq⟩; replace hk := hk.trans hq; clear hq hc kz ks ka; obtain ⟨hc, kz, ks⟩ := hk.bd; have ka := hk.aft) | (go_at_call 49; refine (l1In_any _ _ _ _).mono ?_; rintro e w1 ⟨rfl, rfl⟩) | (go_at_call 18; refine (specLettersOf_any ⟨x, y⟩ _).mono ?_; rintro e w1 ⟨rfl, hq⟩; replace hk := hk.trans hq; clear hq hc kz ks ka; obtain ⟨hc, kz, ks⟩ := hk.bd; have ka := hk.aft) | (go_at_call_of 65 (Value.slice a1 x1.length n1); refine (l1Set_any (i1.keeps0 hk.box.box) (letters ⟨x, y⟩) hlb.1 (by omega)).mono ?_; rintro e w1 ⟨rfl, hq⟩; replace hk := hk.trans hq; clear hq hc kz ks ka; obtain ⟨hc, kz, ks⟩ := hk.bd; have ka := hk.aft) | (go_at_call_of 65 (Value.slice a2 x2.length n2); refine (l1Set_any (i2.keeps0 hk.box.box) (letters ⟨x, y⟩) hlb.1 (by omega)).mono ?_; rintro e w1 ⟨rfl, hq⟩; replace hk := hk.trans hq; clear hq hc kz ks ka; obtain ⟨hc, kz, ks⟩ := hk.bd; have ka := hk.aft) | (go_at_call 66; refine (l24Both_any x0 _).mono ?_; rintro e w1 ⟨rfl, hq⟩; replace hk := hk.trans hq; clear hq hc kz ks ka; obtain ⟨hc, kz, ks⟩ := hk.bd; have ka := hk.aft))
            go_ret
            exact ⟨ret_bool (by rw [ecl.out, Bool.eq_iff_iff]; simp [hs, kk, g1, g2, g3] <;> omega), by first | exact hk.box.box | (rename_i hkx _ _ _; exact hkx.box.box)⟩

end Go.Proofs.Ytknkdgacdeeemaa
