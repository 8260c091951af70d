/- The walks of the laws on an interface's functions: each returns true. No conditions. -/
import Derived.Test.YtknkdgacdeeemaaOpen
import Derived.Test.YtknkdgacdeeemaaSig3
namespace Go.Proofs.Ytknkdgacdeeemaa
open Go.RowKit
open Shp

set_option maxHeartbeats 1000000 in
theorem FnExactLetterOf.walk_FnExactLetterOf (w : World) (F0 : List Nat) (c0 : List Value) (s : SigT) (e0 : sigS.rep w F0 c0 s) (F1 : List Nat) (c1 : List Value) (i : Int) (e1 : int.rep w F1 c1 i) (F2 : List Nat) (c2 : List Value) (o : Int) (e2 : int.rep w F2 c2 o) :
    Calls Try.prog 3 #[sigS.val c0, int.val c1, int.val c2] w (Pure w (.bool true)) := by
  rw [(sig_rep e0).1, (int_rep e1).1, (int_rep e2).1]
  obtain ⟨x, y⟩ := s
  clear e0 e1 e2
  unfold sigV Pure
  have hk : Keeps [] (w.alloc (.cells #[.int .i64 x, .int .i64 y] 23) ) (w.alloc (.cells #[.int .i64 x, .int .i64 y] 23) ) := Keeps.refl _ _; have hc : True := trivial
  go_enter Try.func3, Try.ntmps3
  go_wp2_with (first | (go_at_call 16; refine (toSig_any ⟨x, y⟩ _).mono ?_; rintro e w1 ⟨rfl, hq⟩; replace hk := hk.trans hq; clear hq hc; have hc := hk.bc.1) | (go_at_call 15; refine (specLetterOf_any ⟨x, y⟩ _ _ _).mono ?_; rintro e w1 ⟨rfl, hq⟩; replace hk := hk.trans hq; clear hq hc; have hc := hk.bc.1) | (go_at_call 17; refine (implLetterOf_any ⟨x, y⟩ _ _ _).mono ?_; rintro e w1 ⟨rfl, hq⟩; replace hk := hk.trans hq; clear hq hc; have hc := hk.bc.1))
  go_ret
  exact ⟨rfl, hk.box⟩

set_option maxHeartbeats 1000000 in
theorem FnExactInOf.walk_FnExactInOf (w : World) (F0 : List Nat) (c0 : List Value) (s : SigT) (e0 : sigS.rep w F0 c0 s) (F1 : List Nat) (c1 : List Value) (i : Int) (e1 : int.rep w F1 c1 i) :
    Calls Try.prog 5 #[sigS.val c0, int.val c1] w (Pure w (.bool true)) := by
  rw [(sig_rep e0).1, (int_rep e1).1]
  obtain ⟨x, y⟩ := s
  clear e0 e1
  unfold sigV Pure
  have hk : Keeps [] (w.alloc (.cells #[.int .i64 x, .int .i64 y] 23) ) (w.alloc (.cells #[.int .i64 x, .int .i64 y] 23) ) := Keeps.refl _ _; have hc : True := trivial
  go_enter Try.func5, Try.ntmps5
  go_wp2_with (first | (go_at_call 16; refine (toSig_any ⟨x, y⟩ _).mono ?_; rintro e w1 ⟨rfl, hq⟩; replace hk := hk.trans hq; clear hq hc; have hc := hk.bc.1) | (go_at_call 20; refine (specInOf_any ⟨x, y⟩ _ _).mono ?_; rintro e w1 ⟨rfl, hq⟩; replace hk := hk.trans hq; clear hq hc; have hc := hk.bc.1) | (go_at_call 21; refine (implInOf_any ⟨x, y⟩ _ _).mono ?_; rintro e w1 ⟨rfl, hq⟩; replace hk := hk.trans hq; clear hq hc; have hc := hk.bc.1))
  go_ret
  exact ⟨rfl, hk.box⟩

set_option maxHeartbeats 1000000 in
theorem FnExactOutOf.walk_FnExactOutOf (w : World) (F0 : List Nat) (c0 : List Value) (s : SigT) (e0 : sigS.rep w F0 c0 s) (F1 : List Nat) (c1 : List Value) (i : Int) (e1 : int.rep w F1 c1 i) :
    Calls Try.prog 6 #[sigS.val c0, int.val c1] w (Pure w (.bool true)) := by
  rw [(sig_rep e0).1, (int_rep e1).1]
  obtain ⟨x, y⟩ := s
  clear e0 e1
  unfold sigV Pure
  have hk : Keeps [] (w.alloc (.cells #[.int .i64 x, .int .i64 y] 23) ) (w.alloc (.cells #[.int .i64 x, .int .i64 y] 23) ) := Keeps.refl _ _; have hc : True := trivial
  go_enter Try.func6, Try.ntmps6
  go_wp2_with (first | (go_at_call 16; refine (toSig_any ⟨x, y⟩ _).mono ?_; rintro e w1 ⟨rfl, hq⟩; replace hk := hk.trans hq; clear hq hc; have hc := hk.bc.1) | (go_at_call 22; refine (specOutOf_any ⟨x, y⟩ _ _).mono ?_; rintro e w1 ⟨rfl, hq⟩; replace hk := hk.trans hq; clear hq hc; have hc := hk.bc.1) | (go_at_call 23; refine (implOutOf_any ⟨x, y⟩ _ _).mono ?_; rintro e w1 ⟨rfl, hq⟩; replace hk := hk.trans hq; clear hq hc; have hc := hk.bc.1))
  go_ret
  exact ⟨rfl, hk.box⟩

set_option maxHeartbeats 1000000 in
theorem FnExactLettersOf.walk_FnExactLettersOf (w : World) (F0 : List Nat) (c0 : List Value) (s : SigT) (e0 : sigS.rep w F0 c0 s) :
    Calls Try.prog 4 #[sigS.val c0] w (Pure w (.bool true)) := by
  rw [(sig_rep e0).1]
  obtain ⟨x, y⟩ := s
  clear e0
  unfold sigV Pure
  have hk : Keeps [] (w.alloc (.cells #[.int .i64 x, .int .i64 y] 23) ) (w.alloc (.cells #[.int .i64 x, .int .i64 y] 23) ) := Keeps.refl _ _; have hc : True := trivial
  go_enter Try.func4, Try.ntmps4
  go_wp2_with (first | (go_at_call 16; refine (toSig_any ⟨x, y⟩ _).mono ?_; rintro e w1 ⟨rfl, hq⟩; replace hk := hk.trans hq; clear hq hc; have hc := hk.bc.1) | (go_at_call 18; refine (specLettersOf_any ⟨x, y⟩ _).mono ?_; rintro e w1 ⟨rfl, hq⟩; replace hk := hk.trans hq; clear hq hc; have hc := hk.bc.1) | (go_at_call 19; refine (implLettersOf_any ⟨x, y⟩ _).mono ?_; rintro e w1 ⟨rfl, hq⟩; replace hk := hk.trans hq; clear hq hc; have hc := hk.bc.1))
  go_ret
  exact ⟨rfl, hk.box⟩

end Go.Proofs.Ytknkdgacdeeemaa
