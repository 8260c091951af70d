/- The laws' functions that number what data hold: what they write. Conditions: the data lie in memory, apart; the numbers stay small. -/
import Derived.Test.YtachnjinfdagjaaDoorMK0
import Derived.Deep.QuietTactic
import Derived.BigQuiet
import Derived.Lib.Hide
set_option linter.unusedSimpArgs false
set_option linter.unusedVariables false
namespace Go.Proofs.YtachnjinfdagjaaDoor
open Go.RowKit
open Shp
theorem enterMk_Int64S (args : Array Value) (w : World) : (callFunc 33 args).run Tryd.prog w = .ok (.enter 33 args) w := callFunc_enter Tryd.func33 (by decide) rfl args w
set_option maxHeartbeats 1000000 in
theorem markInt64S_g {w : World} {a : Option Addr} {cap : Nat} {xs : List Int} (hx : IntsG w a cap xs) (k0 : Int) (h0 : 0 ≤ k0) (h1 : k0 + xs.length ≤ 1099511627776) :
    Calls Tryd.prog 33 #[.slice a xs.length cap, .int .i64 k0] w fun e w' => e = .returned (.int .i64 (k0 + xs.length)) ∧ IntsG w' a cap (marks k0 xs.length) ∧ Keeps (own a cap) w w' ∧ SameRows w w' := by
  have m1 := hx.le
  have m2 := hx.max
  go_enter Tryd.func33, Tryd.ntmps33
  go_wp2
  go_loopw [1, 5] (fun kk i wr => ∃ j : Nat, j ≤ xs.length ∧ i = .int .i64 j ∧ kk = .int .i64 (k0 + j) ∧ Keeps (own a cap) w wr ∧ SameRows w wr ∧ ∃ ys : List Int, ys.length = xs.length ∧ ys.take j = marks k0 j ∧ IntsG wr a cap ys) (fun _ i _ => xs.length - (intOf i).toNat)
  case atStart => exact ⟨0, Nat.zero_le _, rfl, by simp, Keeps.refl _ _, SameRows.refl _, xs, rfl, rfl, hx⟩
  case round =>
    obtain ⟨j, hj, rfl, rfl, hkp, hsr, ys, hyl, hyt, hys⟩ := hrel
    have HL := Lib.hid hyl
    have HT := Lib.hid hyt
    clear hyl hyt
    by_cases hlt : j < xs.length
    · have hly : j < ys.length := by have := HL.out; omega
      have i1 : ∀ w0, Sem.run Tryd.prog (Instr.indexAt 22 (.slice a xs.length cap) (.int .i64 (j : Int))) w0 = .ok (.pointer (some (sAt a j))) w0 := fun w0 => run_at Tryd.underlying22 (by kernel_rfl) rfl hlt (hx.isSome (by omega)) _ w0
      have c1 := hys.cell j hly
      have f1 := hys.free j hly
      obtain ⟨s1, s2, s3⟩ := hys.set hly (v := k0 + (j : Int))
      clear hys
      go_wp2
      go_roundw
      case rel => exact ⟨j + 1, by omega, by go_num, by go_num, hkp.trans s2, hsr.trans s3, _, by rw [List.length_set]; exact HL.out, by rw [take_set_succ _ _ _ hly, HT.out, marks_succ], s1⟩
      case measure => simp [intOf]; omega
    · have he : j = xs.length := by omega
      have hfin : ys = marks k0 xs.length := by
        have := HT.out
        rw [he, ← HL.out, List.take_length] at this
        rw [this, HL.out]
      have HE := Lib.hid he
      have HF := Lib.hid hfin
      clear he hfin
      go_wp2
      go_ret
      refine ⟨ret_int (by rw [HE.out]), ?_, hkp, hsr⟩
      rw [← HF.out]; exact hys
theorem mk_Int64S (xs : List Int) (k : Int) (hk : NU (0 ≤ k ∧ k + xs.length ≤ 1099511627776)) : MarkC Tryd.prog 33 false [.ints xs] [.ints (marks k xs.length)] k xs.length :=
  ⟨enterMk_Int64S, fun w Fs vs h hnd => by
    cases h with
    | @cons F v g Fs vs gs h1 h2 =>
      cases h2
      obtain ⟨a, cap, rfl, rfl, hi⟩ := grep_ints.1 h1
      refine (markInt64S_g hi k hk.e.1 hk.e.2).mono ?_
      rintro e w' ⟨he, hi', hk', hr'⟩
      exact ⟨he, .cons (grep_ints.2 ⟨a, cap, by rw [marks_len], rfl, hi'⟩) .nil, by simpa using hk', hr'⟩⟩
theorem enterMk_Clause (args : Array Value) (w : World) : (callFunc 13 args).run Tryd.prog w = .ok (.enter 13 args) w := callFunc_enter Tryd.func13 (by decide) rfl args w
set_option maxHeartbeats 2000000 in
theorem mk_Clause (k1 : Int) (x : List Int) (y : List Int) (k : Int) (hk : NU (0 ≤ k ∧ k + ((x.length + y.length : Nat) : Int) ≤ 1099511627776)) : MarkC Tryd.prog 13 true [.i k1, .ints x, .ints y] [.i k1, .ints (marks k x.length), .ints (marks (k + (x.length : Nat)) y.length)] k (x.length + y.length) :=
  ⟨enterMk_Clause, fun w Fs vs hgl hnd => by
    obtain ⟨h0, h1⟩ := hk.e
    obtain ⟨u0, F0, us0, Gs0, rfl, rfl, g0, hgl⟩ := hgl.cons_inv
    obtain ⟨u1, F1, us1, Gs1, rfl, rfl, g1, hgl⟩ := hgl.cons_inv
    obtain ⟨u2, F2, us2, Gs2, rfl, rfl, g2, hgl⟩ := hgl.cons_inv
    obtain ⟨rfl, rfl⟩ := hgl.nil_inv
    obtain ⟨rfl, rfl⟩ := grep_int g0
    obtain ⟨a1, c1, rfl⟩ := grep_map_v g1
    obtain ⟨a2, c2, rfl⟩ := grep_map_v g2
    have l1 := Lib.hid g1.lt
    have l2 := Lib.hid g2.lt
    simp only [List.flatten_cons, List.flatten_nil, List.append_nil, List.nil_append, ← List.append_assoc] at hnd
    have d1_2 : ∀ b, b ∈ F1 → b ∈ F2 → False := fun b h1 h2 => by simp only [List.nodup_append] at hnd; grind
    have nd1 : F1.Nodup := by simp only [List.nodup_append] at hnd; grind
    have nd2 : F2.Nodup := by simp only [List.nodup_append] at hnd; grind
    have g1 := g1.keeps0 (Keeps.alloc [] w (.cells #[.int .i64 k1, .slice a1 x.length c1, .slice a2 y.length c2] 27))
    have g2 := g2.keeps0 (Keeps.alloc [] w (.cells #[.int .i64 k1, .slice a1 x.length c1, .slice a2 y.length c2] 27))
    have HH : True := trivial
    show Calls _ _ #[.agg #[.int .i64 k1, .slice a1 x.length c1, .slice a2 y.length c2], _] _ _
    go_enter Tryd.func13, Tryd.ntmps13
    go_wp2_with fail
    refine ((mk_Int64S x k (NU.mk (by (try simp only [cntR, cntR3, cntPs, cntCls, Int.natCast_add] at *); omega))).one g1 nd1).mono ?_
    rintro e w1 ⟨rfl, hi1, hk1, hr1⟩
    have A1 := hk1.box_ (box_new _ _) (fun h => by have := l1.out _ h; omega)
    have fA1 := box3 A1
    go_wp2_with fail
    have g2 := g2.keeps hk1 (fun i hi hi2 => d1_2 i hi2 hi)
    refine ((mk_Int64S y (k + (x.length : Nat)) (NU.mk (by (try simp only [cntR, cntR3, cntPs, cntCls, Int.natCast_add] at *); omega))).one g2 nd2).mono ?_
    rintro e w2 ⟨rfl, hi2, hk2, hr2⟩
    go_wp2
    go_ret
    have hi1 := hi1.keeps hk2 (fun i hi hi2 => d1_2 i hi hi2)
    refine ⟨ret_int (by simp only [Int.natCast_add, Int.add_assoc]), (.cons (.atom (GV.i _) rfl) (.cons hi1 (.cons hi2 .nil))), ?_, ?_⟩
    · have hz : ∀ {L : List Nat} {x y : World}, Keeps L x y → (∀ i ∈ L, i ∈ F1 ++ F2) → Keeps (F1 ++ F2) x y := fun h hm => h.mono hm
      have := (((Keeps.alloc (F1 ++ F2) w _).trans (hz hk1 (by simp +contextual))).trans (hz hk2 (by simp +contextual)))
      simpa using this
    · exact (((SameRows.keeps (Keeps.alloc [] w _)).trans hr1).trans hr2)⟩
end Go.Proofs.YtachnjinfdagjaaDoor

