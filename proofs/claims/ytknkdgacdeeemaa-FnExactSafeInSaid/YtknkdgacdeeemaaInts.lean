/- The laws' own functions on slices of numbers: measure, copy, equality, mark, held. Conditions: the slices lie in memory; lengths that are copied are at most 2^30. -/
import Derived.Test.YtknkdgacdeeemaaBase
import Derived.Test.YtknkdgacdeeemaaIntsM
import Derived.Deep.QuietTactic
import Derived.BigQuiet
import Derived.Lib.Hide
namespace Go.Proofs.Ytknkdgacdeeemaa
open Go.RowKit
open Shp

theorem ints_at {w : World} {F : List Nat} {a : Option Addr} {cap : Nat} {xs : List Int} (h : Ints w F a cap xs) {k : Nat} (hk : k < xs.length) :
    (∀ w0, Sem.run Try.prog (Instr.indexAt 32 (.slice a xs.length cap) (.int .i64 (k : Int))) w0 = .ok (.pointer (some (sAt a k))) w0) ∧ w.cell? (sAt a k) = some (.int .i64 (nth xs k)) :=
  ⟨fun w0 => run_at Try.underlying32 (by kernel_rfl) rfl hk (h.isSome (by omega)) _ w0, h.cell k hk⟩

set_option maxHeartbeats 400000 in
theorem szInt64S_any (a : Option Addr) (n cap : Nat) (left : Int) (hn : n ≤ 9223372036854775807) (hl0 : 0 ≤ left) (hl : left ≤ 1048576) (w : World) :
    Calls Try.prog 54 #[.slice a n cap, .int .i64 left] w fun e w' => e = .returned (.int .i64 (sz n left)) ∧ w = w' := by
  by_cases h : left - (n : Int) < 0
  · have hs : sz n left = -1 := by unfold sz; rw [if_pos h]
    rw [hs]
    go_enter Try.func54, Try.ntmps54
    go_wp2
    go_ret
    exact ⟨rfl, rfl⟩
  · have hs : sz n left = left - n := by unfold sz; rw [if_neg h]
    rw [hs]
    go_enter Try.func54, Try.ntmps54
    go_wp2
    go_ret
    exact ⟨rfl, rfl⟩

set_option maxHeartbeats 1000000 in
theorem eqInt64S_any {w : World} {F G : List Nat} {a b : Option Addr} {ca cb : Nat} {xs ys : List Int} (hx : Ints w F a ca xs) (hy : Ints w G b cb ys) :
    Calls Try.prog 56 #[.slice a xs.length ca, .slice b ys.length cb] w (Pure w (.bool (eqL xs ys))) := by
  unfold Pure
  have m1 := hx.le
  have m2 := hx.max
  by_cases hl : xs.length = ys.length
  · have hb : ((xs.length : Int) != ys.length) = false := by simp [hl]
    have HL := Lib.hid hl
    have m3 : xs.length ≤ ys.length := by omega
    clear hl
    go_enter Try.func56, Try.ntmps56
    go_wp2
    go_loopw [5] (fun i wr => ∃ k : Nat, k ≤ xs.length ∧ i = .int .i64 k ∧ Keeps [] w wr ∧ xs.take k = ys.take k) (fun i _ => xs.length - (intOf i).toNat)
    case atStart => exact ⟨0, Nat.zero_le _, rfl, Keeps.refl _ _, rfl⟩
    case round =>
      obtain ⟨k, hk, rfl, hkp, ht⟩ := hrel
      have HT := Lib.hid ht
      clear ht
      by_cases hlt : k < xs.length
      · have h2 : k < ys.length := by omega
        obtain ⟨i1, c1⟩ := ints_at (hx.keeps0 hkp) hlt
        obtain ⟨i2, c2⟩ := ints_at (hy.keeps0 hkp) h2
        cases he : (nth xs k != nth ys k)
        · have he' : nth xs k = nth ys k := by simpa using he
          have HE := Lib.hid he'
          clear he'
          go_wp2
          go_quiet (fail)
          go_wp2
          go_roundw
          case rel => exact ⟨k + 1, by omega, by go_num, hkp.trans (Keeps.drewN _ _ _), take_eq_succ HT.out hlt h2 HE.out⟩
          case measure => simp [intOf]; omega
        · have hno : eqL xs ys = false := eqL_no (by simpa using he)
          go_wp2
          go_quiet (fail)
          go_wp2
          go_ret
          exact ⟨ret_bool hno.symm, hkp.trans (Keeps.drewN _ _ _)⟩
      · have he : k = xs.length := by omega
        have hyes : eqL xs ys = true := eqL_take HL.out (by have := HT.out; rw [he] at this; exact this)
        clear he
        go_wp2
        go_ret
        exact ⟨ret_bool hyes.symm, hkp⟩
  · have hb : ((xs.length : Int) != ys.length) = true := by simp; omega
    have hno : eqL xs ys = false := eqL_len hl
    rw [hno]
    go_enter Try.func56, Try.ntmps56
    go_wp2
    go_ret
    exact ⟨rfl, Keeps.refl _ _⟩

theorem sAt_inj {b off i j : Nat} (h : sAt (some ⟨b, off, none⟩) i = sAt (some ⟨b, off, none⟩) j) : i = j := by
  rw [sAt_some, sAt_some] at h
  simp at h; exact h

theorem Ints.set {w : World} {F : List Nat} {a : Option Addr} {cap : Nat} {xs : List Int} (h : Ints w F a cap xs) {k : Nat} (hk : k < xs.length) {v : Int} (hv : inI64 v) :
    Ints (w.setCell (sAt a k) (.int .i64 v)) F a cap (xs.set k v) ∧ Keeps F w (w.setCell (sAt a k) (.int .i64 v)) := by
  obtain ⟨b, off, rfl⟩ := h.isSome (by omega)
  have hF := h.F
  rw [own, if_neg (by omega)] at hF
  simp at hF
  refine ⟨⟨by simpa using h.le, h.max, fun p hp h0 => ?_, h.nil, by simpa using h.F, fun i hi => ?_, fun i hi => ?_, fun x hx => ?_⟩, Keeps.setCell _ _ _ _ (by rw [hF, sAt_some]; simp)⟩
  · have := h.ad p hp (by simpa using h0)
    refine ⟨this.1, ?_⟩
    simp [World.setCell]; exact this.2
  · have hi' : i < xs.length := by simpa using hi
    by_cases e : i = k
    · subst e
      rw [World.cell?_setCell_same _ _ _ (h.cell i hk), nth_eq (by simpa using hk)]
      simp
    · rw [World.cell?_setCell_other _ _ _ _ (by rw [sAt_some, sAt_some]; simp <;> omega), h.cell i hi', nth_eq hi', nth_eq (by simpa using hi')]
      rw [List.getElem_set_ne (by omega)]
  · rw [World.frozen?_setCell]; exact h.free i (by simpa using hi)
  · rcases List.mem_or_eq_of_mem_set hx with h1 | h1
    · exact h.wf x h1
    · rw [h1]; exact hv

set_option maxHeartbeats 1000000 in
theorem markInt64S_any {w : World} {F : List Nat} {a : Option Addr} {cap : Nat} {xs : List Int} (hx : Ints w F a cap xs) (k0 : Int) (h0 : 0 ≤ k0) (h1 : k0 + xs.length ≤ 1099511627776) :
    Calls Try.prog 72 #[.slice a xs.length cap, .int .i64 k0] w fun e w' => e = .returned (.int .i64 (k0 + xs.length)) ∧ Ints w' F a cap (marks k0 xs.length) ∧ Keeps F w w' := by
  have m1 := hx.le
  have m2 := hx.max
  go_enter Try.func72, Try.ntmps72
  go_wp2
  go_loopw [1, 5] (fun kk i wr => ∃ j : Nat, j ≤ xs.length ∧ i = .int .i64 j ∧ kk = .int .i64 (k0 + j) ∧ Keeps F w wr ∧ ∃ ys : List Int, ys.length = xs.length ∧ ys.take j = marks k0 j ∧ Ints wr F a cap ys) (fun _ i _ => xs.length - (intOf i).toNat)
  case atStart => exact ⟨0, Nat.zero_le _, rfl, by simp, Keeps.refl _ _, xs, rfl, rfl, hx⟩
  case round =>
    obtain ⟨j, hj, rfl, rfl, hkp, ys, hyl, hyt, hys⟩ := hrel
    have HL := Lib.hid hyl
    have HT := Lib.hid hyt
    clear hyl hyt
    by_cases hlt : j < xs.length
    · have hly : j < ys.length := by have := HL.out; omega
      obtain ⟨i1, c1⟩ := ints_at hys hly
      have f1 := hys.free j hly
      rw [HL.out] at i1
      have hv : inI64 (k0 + j) := by unfold inI64; omega
      obtain ⟨s1, s2⟩ := hys.set hly hv
      clear hys
      go_wp2
      go_roundw
      case rel => exact ⟨j + 1, by omega, by go_num, by go_num, hkp.trans s2, _, by rw [List.length_set]; exact HL.out, by rw [take_set_succ _ _ _ hly, HT.out, marks_succ], s1⟩
      case measure => simp [intOf]; omega
    · have he : j = xs.length := by omega
      have hfin : ys = marks k0 xs.length := by
        have := HT.out
        rw [he, ← HL.out, List.take_length] at this
        rw [this, HL.out]
      have HE := Lib.hid he
      have HF := Lib.hid hfin
      clear he hfin
      go_wp2
      go_ret
      refine ⟨ret_int (by rw [HE.out]), ?_, hkp⟩
      rw [← HF.out]; exact hys

set_option maxHeartbeats 1000000 in
theorem heldInt64S_any {w : World} {F : List Nat} {a : Option Addr} {cap : Nat} {xs : List Int} (hx : Ints w F a cap xs) (k0 : Int) (h0 : 0 ≤ k0) (h1 : k0 + xs.length ≤ 1099511627776) :
    Calls Try.prog 73 #[.slice a xs.length cap, .int .i64 k0] w (Pure w (.int .i64 (held xs k0))) := by
  unfold Pure
  have m1 := hx.le
  have m2 := hx.max
  go_enter Try.func73, Try.ntmps73
  go_wp2
  go_loopw [1, 5] (fun kk i wr => ∃ j : Nat, j ≤ xs.length ∧ i = .int .i64 j ∧ kk = .int .i64 (k0 + j) ∧ Keeps [] w wr ∧ xs.take j = marks k0 j) (fun _ i _ => xs.length - (intOf i).toNat)
  case atStart => exact ⟨0, Nat.zero_le _, rfl, by simp, Keeps.refl _ _, rfl⟩
  case round =>
    obtain ⟨j, hj, rfl, rfl, hkp, hyt⟩ := hrel
    have HT := Lib.hid hyt
    clear hyt
    by_cases hlt : j < xs.length
    · obtain ⟨i1, c1⟩ := ints_at (hx.keeps0 hkp) hlt
      cases he : (nth xs j != k0 + (j : Int))
      · have he' : nth xs j = k0 + j := by simpa using he
        have HE := Lib.hid he'
        clear he'
        go_wp2
        go_roundw
        case rel => exact ⟨j + 1, by omega, by go_num, by go_num, hkp, by rw [take_succ_nth _ _ hlt, HT.out, HE.out, marks_succ]⟩
        case measure => simp [intOf]; omega
      · have hno : held xs k0 = -1 := held_no hlt (by simpa using he)
        go_wp2
        go_ret
        exact ⟨ret_int hno.symm, hkp⟩
    · have he : j = xs.length := by omega
      have hfin : held xs k0 = k0 + j := by
        rw [he]
        refine held_yes _ _ ?_
        have := HT.out
        rw [he, List.take_length] at this
        exact this
      clear he
      go_wp2
      go_ret
      exact ⟨ret_int hfin.symm, hkp⟩

end Go.Proofs.Ytknkdgacdeeemaa
