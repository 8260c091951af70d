/- The functions on words, the program's and the reference's: validity and the letter at an index. Conditions: the slices lie in memory; integers fit int64. -/
import Derived.Test.YtknkdgacdeeemaaMake
import Derived.Test.YtknkdgacdeeemaaWordM
import Derived.Test.YtknkdgacdeeemaaSig2
namespace Go.Proofs.Ytknkdgacdeeemaa
open Go.RowKit
open Shp

set_option maxHeartbeats 1000000 in
theorem l23Below_any {w : World} {F : List Nat} {a : Option Addr} {cap : Nat} {xs : List Int} (hx : Ints w F a cap xs) (n : Int) (hn0 : -9223372036854775807 ≤ n) (hn : n ≤ 9223372036854775807) :
    Calls Try.prog 77 #[.slice a xs.length cap, .int .i64 n] w (Pure w (.bool (below n xs))) := by
  unfold Pure
  have m1 := hx.le
  have m2 := hx.max
  go_enter Try.func77, Try.ntmps77
  go_wp2
  go_loopw [5] (fun i wr => ∃ j : Nat, j ≤ xs.length ∧ i = .int .i64 j ∧ Keeps [] w wr ∧ Hid (∀ k, k < j → 0 ≤ nth xs k ∧ nth xs k < n)) (fun i _ => xs.length - (intOf i).toNat)
  case atStart => exact ⟨0, Nat.zero_le _, rfl, Keeps.refl _ _, fun k hk => by omega⟩
  case round =>
    obtain ⟨j, hj, rfl, hkp, HT⟩ := hrel
    by_cases hlt : j < xs.length
    · obtain ⟨i1, c1⟩ := ints_at (hx.keeps0 hkp) hlt
      cases he : inR (nth xs j) 0 (n - 1)
      · have hno : below n xs = false := below_no hlt (by unfold inR at he; simp at he; omega)
        go_wp2_with (go_at_call 49; refine (l1In_any _ _ _ _).mono ?_; rintro e w1 ⟨rfl, rfl⟩)
        go_ret
        exact ⟨ret_bool hno.symm, hkp⟩
      · go_wp2_with (go_at_call 49; refine (l1In_any _ _ _ _).mono ?_; rintro e w1 ⟨rfl, rfl⟩)
        go_roundw
        case rel => exact ⟨j + 1, by omega, by go_num, hkp, fun k hk => by
          by_cases e : k = j
          · subst e; unfold inR at he; simp at he; omega
          · exact HT k (by omega)⟩
        case measure => simp [intOf]; omega
    · have hyes : below n xs = true := below_yes fun k hk => HT k (by omega)
      go_wp2
      go_ret
      exact ⟨ret_bool hyes.symm, hkp⟩

set_option maxHeartbeats 1000000 in
theorem IndexFunc_any {w : World} {F : List Nat} {a : Option Addr} {cap : Nat} {xs : List Int} (hx : Ints w F a cap xs) (f : Nat) (caps : Array Value) (p : Int → Bool)
    (hf : ∀ vs wr, Sem.run Try.prog (callFunc f vs) wr = .ok (.enter f vs) wr)
    (hp : Hid (∀ x ∈ xs, ∀ wr, Keeps [] w wr → Calls Try.prog f (#[.int .i64 x] ++ caps) wr (Pure wr (.bool (p x))))) :
    Calls Try.prog 85 #[.slice a xs.length cap, .func (.func f) #[] caps] w (Pure w (.int .i64 (idx p xs))) := by
  unfold Pure
  have m1 := hx.le
  have m2 := hx.max
  go_enter Try.func85, Try.ntmps85
  go_wp2
  go_loopw [8] (fun i wr => ∃ j : Nat, j ≤ xs.length ∧ i = .int .i64 j ∧ Keeps [] w wr ∧ Hid (∀ k, k < j → p (nth xs k) = false)) (fun i _ => xs.length - (intOf i).toNat)
  case atStart => exact ⟨0, Nat.zero_le _, rfl, Keeps.refl _ _, fun k hk => by omega⟩
  case round =>
    obtain ⟨j, hj, rfl, hkp, HT⟩ := hrel
    by_cases hlt : j < xs.length
    · obtain ⟨i1, c1⟩ := ints_at (hx.keeps0 hkp) hlt
      cases he : p (nth xs j)
      · go_wp2_with fail
        refine (hp _ (nth_mem hlt) _ hkp).mono ?_
        rintro e w1 ⟨rfl, hk1⟩
        go_wp2
        go_roundw
        case rel => exact ⟨j + 1, by omega, by go_num, hkp.trans hk1, fun k hk => by
          by_cases e : k = j
          · subst e; exact he
          · exact HT k (by omega)⟩
        case measure => simp [intOf]; omega
      · have hfin : idx p xs = j := idx_at hlt he HT
        go_wp2_with fail
        refine (hp _ (nth_mem hlt) _ hkp).mono ?_
        rintro e w1 ⟨rfl, hk1⟩
        go_wp2
        go_ret
        exact ⟨ret_int hfin.symm, hkp.trans hk1⟩
    · have hfin : idx p xs = -1 := idx_no fun k hk => HT k (by omega)
      go_wp2
      go_ret
      exact ⟨ret_int hfin.symm, hkp⟩

set_option maxHeartbeats 1000000 in
theorem ContainsFunc_any {w : World} {F : List Nat} {a : Option Addr} {cap : Nat} {xs : List Int} (hx : Ints w F a cap xs) (f : Nat) (caps : Array Value) (p : Int → Bool)
    (hf : ∀ vs wr, Sem.run Try.prog (callFunc f vs) wr = .ok (.enter f vs) wr)
    (hp : Hid (∀ x ∈ xs, ∀ wr, Keeps [] w wr → Calls Try.prog f (#[.int .i64 x] ++ caps) wr (Pure wr (.bool (p x))))) :
    Calls Try.prog 83 #[.slice a xs.length cap, .func (.func f) #[] caps] w (Pure w (.bool (some_ p xs))) := by
  unfold Pure
  have hge := idx_ge p xs
  have hb := idx_bd p xs
  have HG := Lib.hid hge
  clear hge
  go_enter Try.func83, Try.ntmps83
  go_wp2_with (go_at_call 85; refine (IndexFunc_any hx f caps p hf hp).mono ?_; rintro e w1 ⟨rfl, hk1⟩)
  go_ret
  exact ⟨ret_bool (by have := HG.out; unfold some_; rw [← this]), hk1⟩

end Go.Proofs.Ytknkdgacdeeemaa
