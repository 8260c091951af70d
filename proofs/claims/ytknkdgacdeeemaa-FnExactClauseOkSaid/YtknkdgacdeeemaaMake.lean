/- make([]int64, n), append to a slice of numbers of the call's own, and the laws' copy of a slice. Conditions: lengths at most 2^40. -/
import Derived.Test.YtknkdgacdeeemaaInts
namespace Go.Proofs.Ytknkdgacdeeemaa
open Go.RowKit
open Shp

theorem info_int64 : (Try.prog.info? 2).map (fun i => (i.zero, i.size, i.bytes)) = some (some (.int .i64 0), 1, 8) := by kernel_rfl

theorem Keeps.new {w0 w1 w2 : World} {F : List Nat} (h : Keeps [] w0 w1) (k : Keeps F w1 w2) (hF : ∀ b ∈ F, w0.heap.size ≤ b) : Keeps [] w0 w2 :=
  h.trans' k fun i hi hlt => absurd hlt (by have := hF i hi; omega)

/-- A row of the call's own that holds numbers. -/
theorem Ints.ofOwns {w : World} {base : Nat} {e : TypeId} {a : Option Addr} {n cap : Nat} {xs : List Int} (h : w.ownsRow base e 1 (.slice a n cap) n (xs.map (Value.int .i64))) (hwf : ∀ x ∈ xs, inI64 x) :
    xs.length = n ∧ Ints w (own a n) a cap xs ∧ ∀ b ∈ own a n, base ≤ b := by
  have hl : xs.length = n := by have := h.1; simpa using this
  refine ⟨hl, ?_⟩
  rcases h.2 with ⟨h1, h2⟩ | ⟨g, cap', cur, h1, hb, hg, hnc, hcm, hcs, ht⟩
  · simp at h1
    obtain ⟨rfl, rfl, rfl⟩ := h1
    have : xs = [] := List.eq_nil_of_length_eq_zero hl
    subst this
    exact ⟨⟨by simp, by simp, by simp, by simp, rfl, by simp, by simp, by simp⟩, by simp [own]⟩
  · simp at h1
    obtain ⟨rfl, rfl⟩ := h1
    have hlt : g < w.heap.size := by
      rcases Nat.lt_or_ge g w.heap.size with h' | h'
      · exact h'
      · rw [Array.getElem?_eq_none h'] at hg; simp at hg
    refine ⟨⟨by omega, by simpa [maxLen] using hcm, ?_, by simp, by rw [hl], fun k hk => ?_, fun k hk => ?_, hwf⟩, ?_⟩
    · rintro p hp _
      simp at hp; subst hp; exact ⟨rfl, hlt⟩
    · rw [sAt_some, Nat.zero_add, cell_of_row w g k cur e _ hg, nth_eq hk]
      have : (cur.toList.take (n * 1))[k]? = some (.int .i64 xs[k]) := by rw [ht]; simp [hk]
      rw [List.getElem?_take, if_pos (by omega)] at this
      simpa using this
    · rw [sAt_some]; exact frozen_of_row w g _ cur e hg
    · intro b hb'
      unfold own at hb'
      split at hb' <;> simp at hb'
      omega

theorem wp_make_ints (w : World) {ops : Array Oper} {rest : List Oper} {o : Oper} {a : Act} {Q : Exit → Act → World → Prop}
    (hg : o.guard = none) (l c : Operand) (hop : o.op = Op.makeSlice 32 l c)
    (n : Nat) (hl : a.eval l = .int .i64 (n : Int)) (hc : a.eval c = .int .i64 (n : Int)) (hn : n ≤ 1099511627776)
    (hK : ∀ w', Ints w' (own (some ⟨w.heap.size, 0, none⟩) n) (some ⟨w.heap.size, 0, none⟩) n (List.replicate n 0) → Keeps [] w w' → w'.heap.size = w.heap.size + 1 →
      wpList Try.prog ops Q rest (a.put o.dst (.slice (some ⟨w.heap.size, 0, none⟩) n n)) w') :
    wpList Try.prog ops Q (o :: rest) a w := by
  obtain ⟨i0, hi, hz0, hz1, hz2⟩ := info_parts info_int64
  refine wpList_plain hg fun K hK' => ?_
  have hr := run_make (P := Try.prog) w 32 2 i0 (.int .i64 0) Try.underlying32 hi hz0 .i64 .i64 (n : Int) (n : Int) (by omega) (Int.le_refl _) (by rw [hz2]; omega) (by omega)
  unfold Oper.wp
  simp only [execOp, hop, hl, hc, Sem.run_bind, hr, Result.andThen_ok, Sem.run_pure]
  refine hK' _ _ (hK _ ?_ ?_ ?_)
  · simp only [Int.toNat_natCast]
    rw [show (Value.int IntKind.i64 0).cells = #[Value.int .i64 0] from rfl]
    have := World.ownsRow_lit (base := w.heap.size) (e := 2) (size := 1) w (madeCells #[.int .i64 0] n) n (Nat.le_refl _) (by unfold maxLen; omega) (by simp [size_madeCells])
    rw [toList_madeCells_one] at this
    have h2 := Ints.ofOwns (xs := List.replicate n 0) (a := some ⟨w.heap.size, 0, none⟩) (cap := n) (by simpa using this) (by intro x hx; rw [(List.mem_replicate.1 hx).2]; unfold inI64; omega)
    have h3 := h2.2.1
    simp [hz1] at h3 ⊢
    exact h3
  · exact Keeps.alloc _ _ _
  · simp

/-- A call hands back a slice of numbers in new memory. -/
def RetInts (w : World) (xs : List Int) (e : Ending) (w' : World) : Prop :=
  ∃ F a cap, e = .returned (.slice a xs.length cap) ∧ Ints w' F a cap xs ∧ (∀ b ∈ F, w.heap.size ≤ b) ∧ Keeps [] w w'

theorem own_new {w : World} {n : Nat} : ∀ b ∈ own (some ⟨w.heap.size, 0, none⟩) n, w.heap.size ≤ b := by
  intro b hb; unfold own at hb; split at hb <;> simp at hb; omega

set_option maxHeartbeats 1000000 in
theorem toInt64S_any {w : World} {F : List Nat} {a : Option Addr} {cap : Nat} {xs : List Int} (hx : Ints w F a cap xs) (hn : xs.length ≤ 1073741824) :
    Calls Try.prog 55 #[.slice a xs.length cap] w (RetInts w xs) := by
  have m1 := hx.le
  have m2 := hx.max
  go_enter Try.func55, Try.ntmps55
  go_wp2_with (at_make; refine wp_make_ints _ rfl _ _ rfl xs.length rfl rfl (by omega) ?_; intro w1 hI hk1 _)
  have hI0 := hI
  go_loopw [4] (fun i wr => ∃ j : Nat, j ≤ xs.length ∧ i = .int .i64 j ∧ Keeps [] w wr ∧ ∃ ys : List Int, ys.length = xs.length ∧ ys.take j = xs.take j ∧ Ints wr (own (some ⟨w.heap.size, 0, none⟩) xs.length) (some ⟨w.heap.size, 0, none⟩) xs.length ys) (fun i _ => xs.length - (intOf i).toNat)
  case atStart => exact ⟨0, Nat.zero_le _, rfl, hk1, List.replicate xs.length 0, by simp, rfl, hI⟩
  case round =>
    clear hI0 hk1 hI
    obtain ⟨j, hj, rfl, hkp, ys, hyl, hyt, hys⟩ := hrel
    have HL := Lib.hid hyl
    have HT := Lib.hid hyt
    clear hyl hyt
    by_cases hlt : j < xs.length
    · have hly : j < ys.length := by have := HL.out; omega
      obtain ⟨i1, c1⟩ := ints_at (hx.keeps0 hkp) hlt
      obtain ⟨i2, c2⟩ := ints_at hys hly
      have f2 := hys.free j hly
      rw [HL.out] at i2
      obtain ⟨s1, s2⟩ := hys.set hly (hx.wf _ (nth_mem hlt))
      clear hys
      go_wp2
      go_roundw
      case rel => exact ⟨j + 1, by omega, by go_num, hkp.new s2 own_new, _, by rw [List.length_set]; exact HL.out, by rw [take_set_succ _ _ _ hly, HT.out, take_succ_nth _ _ hlt], s1⟩
      case measure => simp [intOf]; omega
    · have he : j = xs.length := by omega
      have hfin : ys = xs := by
        have := HT.out
        rw [he] at this
        rw [← HL.out, List.take_length, HL.out, List.take_length] at this
        exact this
      subst hfin
      clear he
      go_wp2
      go_ret
      exact ⟨_, _, _, rfl, hys, own_new, hkp⟩

end Go.Proofs.Ytknkdgacdeeemaa
