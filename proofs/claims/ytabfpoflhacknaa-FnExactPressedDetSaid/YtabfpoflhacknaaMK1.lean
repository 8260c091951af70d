/- The laws' functions that number what data hold: what they write. Conditions: the data lie in memory, apart; the numbers stay small. -/
import Derived.Test.YtabfpoflhacknaaMK0
import Derived.Deep.QuietTactic
import Derived.BigQuiet
import Derived.Lib.Hide
set_option linter.unusedSimpArgs false
set_option linter.unusedVariables false
namespace Go.Proofs.Ytabfpoflhacknaa
open Go.RowKit
open Shp

theorem enterMk_Int64S (args : Array Value) (w : World) : (callFunc 15 args).run Try.prog w = .ok (.enter 15 args) w := callFunc_enter Try.func15 (by decide) rfl args w
set_option maxHeartbeats 1000000 in
theorem markInt64S_g {w : World} {a : Option Addr} {cap : Nat} {xs : List Int} (hx : IntsG w a cap xs) (k0 : Int) (h0 : 0 ≤ k0) (h1 : k0 + xs.length ≤ 1099511627776) :
    Calls Try.prog 15 #[.slice a xs.length cap, .int .i64 k0] w fun e w' => e = .returned (.int .i64 (k0 + xs.length)) ∧ IntsG w' a cap (marks k0 xs.length) ∧ Keeps (own a cap) w w' ∧ SameRows w w' := by
  have m1 := hx.le
  have m2 := hx.max
  go_enter Try.func15, Try.ntmps15
  go_wp2
  go_loopw [1, 5] (fun kk i wr => ∃ j : Nat, j ≤ xs.length ∧ i = .int .i64 j ∧ kk = .int .i64 (k0 + j) ∧ Keeps (own a cap) w wr ∧ SameRows w wr ∧ ∃ ys : List Int, ys.length = xs.length ∧ ys.take j = marks k0 j ∧ IntsG wr a cap ys) (fun _ i _ => xs.length - (intOf i).toNat)
  case atStart => exact ⟨0, Nat.zero_le _, rfl, by simp, Keeps.refl _ _, SameRows.refl _, xs, rfl, rfl, hx⟩
  case round =>
    obtain ⟨j, hj, rfl, rfl, hkp, hsr, ys, hyl, hyt, hys⟩ := hrel
    have HL := Lib.hid hyl
    have HT := Lib.hid hyt
    clear hyl hyt
    by_cases hlt : j < xs.length
    · have hly : j < ys.length := by have := HL.out; omega
      have i1 : ∀ w0, Sem.run Try.prog (Instr.indexAt 29 (.slice a xs.length cap) (.int .i64 (j : Int))) w0 = .ok (.pointer (some (sAt a j))) w0 := fun w0 => run_at Try.underlying29 (by kernel_rfl) rfl hlt (hx.isSome (by omega)) _ w0
      have c1 := hys.cell j hly
      have f1 := hys.free j hly
      obtain ⟨s1, s2, s3⟩ := hys.set hly (v := k0 + (j : Int))
      clear hys
      go_wp2
      go_roundw
      case rel => exact ⟨j + 1, by omega, by go_num, by go_num, hkp.trans s2, hsr.trans s3, _, by rw [List.length_set]; exact HL.out, by rw [take_set_succ _ _ _ hly, HT.out, marks_succ], s1⟩
      case measure => simp [intOf]; omega
    · have he : j = xs.length := by omega
      have hfin : ys = marks k0 xs.length := by
        have := HT.out
        rw [he, ← HL.out, List.take_length] at this
        rw [this, HL.out]
      have HE := Lib.hid he
      have HF := Lib.hid hfin
      clear he hfin
      go_wp2
      go_ret
      refine ⟨ret_int (by rw [HE.out]), ?_, hkp, hsr⟩
      rw [← HF.out]; exact hys
theorem mk_Int64S (xs : List Int) (k : Int) (hk : NU (0 ≤ k ∧ k + xs.length ≤ 1099511627776)) : MarkC Try.prog 15 false [.ints xs] [.ints (marks k xs.length)] k xs.length :=
  ⟨enterMk_Int64S, fun w Fs vs h hnd => by
    cases h with
    | @cons F v g Fs vs gs h1 h2 =>
      cases h2
      obtain ⟨a, cap, rfl, rfl, hi⟩ := grep_ints.1 h1
      refine (markInt64S_g hi k hk.e.1 hk.e.2).mono ?_
      rintro e w' ⟨he, hi', hk', hr'⟩
      exact ⟨he, .cons (grep_ints.2 ⟨a, cap, by rw [marks_len], rfl, hi'⟩) .nil, by simpa using hk', hr'⟩⟩

theorem enterMk_Int64SS (args : Array Value) (w : World) : (callFunc 49 args).run Try.prog w = .ok (.enter 49 args) w := callFunc_enter Try.func49 (by decide) rfl args w
set_option maxHeartbeats 2000000 in
theorem markInt64SS_g {w : World} {a : Option Addr} {cap : Nat} {els : List Value} {xs : List (List Int)} {Fs : List (List Nat)} (hx : SliceG w a cap 1 els (xs.map GV.ints) Fs) (hnd : (own a cap ++ Fs.flatten).Nodup) (k0 : Int) (h0 : 0 ≤ k0) (h1 : k0 + cntG (List.length : List Int → Nat) xs ≤ 1099511627776) :
    Calls Try.prog 49 #[.slice a xs.length cap, .int .i64 k0] w fun e w' => e = .returned (.int .i64 (k0 + cntG (List.length : List Int → Nat) xs)) ∧ GRL w' Fs els ((markG (fun k (x : List Int) => marks k x.length) (List.length : List Int → Nat) k0 xs).map GV.ints) ∧ Keeps Fs.flatten w w' ∧ SameRows w w' := by
  have m1 := hx.le
  rw [List.length_map] at m1
  have m2 := hx.max
  have hndF : Fs.flatten.Nodup := (List.nodup_append.1 hnd).2.1
  go_enter Try.func49, Try.ntmps49
  go_wp2
  go_loopw [1, 5] (fun kk i wr => ∃ j : Nat, j ≤ xs.length ∧ i = .int .i64 j ∧ kk = .int .i64 (k0 + (cntG (List.length : List Int → Nat) (xs.take j) : Nat)) ∧ Keeps Fs.flatten w wr ∧ SameRows w wr ∧ GRL wr Fs els ((stG (fun k (x : List Int) => marks k x.length) (List.length : List Int → Nat) k0 xs j).map GV.ints)) (fun _ i _ => xs.length - (intOf i).toNat)
  case atStart => exact ⟨0, Nat.zero_le _, rfl, by simp [cntG], Keeps.refl _ _, SameRows.refl _, by rw [stG_zero]; exact hx.h⟩
  case round =>
    obtain ⟨j, hj, rfl, rfl, hkp, hsr, hg⟩ := hrel
    by_cases hlt : j < xs.length
    · have hb1 := cntG_le1 (cn := (List.length : List Int → Nat)) hlt
      obtain ⟨F, v, hF, hv, hgv, hsub⟩ := hg.at (j := j) (g := GV.ints (nth xs j)) (by rw [List.getElem?_map, stG_at k0 xs hlt]; rfl)
      have hndv : F.Nodup := hg.nodup hndF hF
      obtain ⟨b, o, rfl⟩ := hx.isSome (by omega)
      have hbn : b ∉ Fs.flatten := fun hb => (List.nodup_append.1 hnd).2.2 b (mem_own (a := some ⟨b, o, none⟩) (n := cap) (p := ⟨b, o, none⟩) rfl (by omega)) b hb rfl
      have i1 : ∀ w0, Sem.run Try.prog (Instr.indexAt 24 (.slice (some ⟨b, o, none⟩) xs.length cap) (.int .i64 (j : Int))) w0 = .ok (.pointer (some ⟨b, o + j, none⟩)) w0 := fun w0 => by simpa using run_atE (s := 1) Try.underlying24 (by kernel_rfl) rfl hlt .i64 w0
      obtain ⟨av, cv, rfl⟩ := grep_map_v hgv
      have c0 : wr.cell? ⟨b, o + j, none⟩ = some (.slice av (nth xs j).length cv) := by
        have q := ((hx.hc j _ hv).2.2 0 (by simp [Value.cells])).1
        rw [sAt_some] at q
        have q2 := hkp.cellSome q hbn
        rw [show o + j = o + (j * 1 + 0) by omega, q2]
        simp [Value.cells]
      have HF := Lib.hid hF
      have HV := Lib.hid hv
      have HB := Lib.hid hb1
      clear hF hv hb1
      go_wp2_with fail
      refine ((mk_Int64S (nth xs j) (k0 + (cntG (List.length : List Int → Nat) (xs.take j) : Nat)) (NU.mk (by have := HB.out; (try simp only [cntR, cntR3, cntPs, cntCls] at *); omega))).one hgv hndv).mono ?_
      rintro e w1 ⟨rfl, hi1, hk1, hr1⟩
      have hg2 := hg.set hndF HF.out HV.out hi1 hk1
      rw [← List.map_set, stG_next (mk := (fun k (x : List Int) => marks k x.length)) (cn := (List.length : List Int → Nat)) k0 xs hlt] at hg2
      go_wp2
      go_roundw
      case rel => exact ⟨j + 1, by omega, by go_num, by rw [cntG_take hlt]; simp only [cntP, cntCl, Int.natCast_add, Int.add_assoc], hkp.trans (hk1.mono hsub), hsr.trans hr1, hg2⟩
      case measure => simp [intOf]; omega
    · have he : xs.length ≤ j := by omega
      rw [stG_end k0 xs he] at hg
      have hc : cntG (List.length : List Int → Nat) (xs.take j) = cntG (List.length : List Int → Nat) xs := by rw [List.take_of_length_le he]
      have HC := Lib.hid hc
      clear hc
      go_wp2
      go_ret
      exact ⟨ret_int (by rw [HC.out]), hg, hkp, hsr⟩
theorem mk_Int64SS (xs : List (List Int)) (k : Int) (hk : NU (0 ≤ k ∧ k + cntG (List.length : List Int → Nat) xs ≤ 1099511627776)) : MarkC Try.prog 49 false [.rows xs] [.rows (markG (fun k (x : List Int) => marks k x.length) (List.length : List Int → Nat) k xs)] k (cntG (List.length : List Int → Nat) xs) :=
  ⟨enterMk_Int64SS, fun w Fs vs h hnd => by
    cases h with
    | @cons F v g Fs vs gs h1 h2 =>
      cases h2
      obtain ⟨a, cap, els, Gs, rfl, rfl, hi⟩ := grep_slice.1 h1
      have hnd' : (own a cap ++ Gs.flatten).Nodup := by simpa using hnd
      have hq := markInt64SS_g hi hnd' k hk.e.1 hk.e.2
      rw [show ((List.map GV.ints xs).length) = xs.length by simp]
      refine hq.mono ?_
      rintro e w' ⟨he, hi', hk', hr'⟩
      exact ⟨he, .cons (grep_slice.2 ⟨a, cap, els, Gs, by simp [markG_len], rfl, hi.move hk' hnd' hi' (by intro x hx; obtain ⟨y, _, rfl⟩ := List.mem_map.1 hx; rfl)⟩) .nil, by simpa using hk'.mono (fun i hi => List.mem_append.2 (.inr hi)), hr'⟩⟩
theorem enterMk_PairS (args : Array Value) (w : World) : (callFunc 50 args).run Try.prog w = .ok (.enter 50 args) w := callFunc_enter Try.func50 (by decide) rfl args w
set_option maxHeartbeats 2000000 in
theorem markPairS_g {w : World} {a : Option Addr} {cap : Nat} {els : List Value} {xs : List (List Int × List Int)} {Fs : List (List Nat)} (hx : SliceG w a cap 2 els (xs.map GV.pairP) Fs) (hnd : (own a cap ++ Fs.flatten).Nodup) (k0 : Int) (h0 : 0 ≤ k0) (h1 : k0 + cntG cntP xs ≤ 1099511627776) :
    Calls Try.prog 50 #[.slice a xs.length cap, .int .i64 k0] w fun e w' => e = .returned (.int .i64 (k0 + cntG cntP xs)) ∧ GRL w' Fs els ((markG markP cntP k0 xs).map GV.pairP) ∧ Keeps Fs.flatten w w' ∧ SameRows w w' := by
  have m1 := hx.le
  rw [List.length_map] at m1
  have m2 := hx.max
  have hndF : Fs.flatten.Nodup := (List.nodup_append.1 hnd).2.1
  go_enter Try.func50, Try.ntmps50
  go_wp2
  go_loopw [1, 5] (fun kk i wr => ∃ j : Nat, j ≤ xs.length ∧ i = .int .i64 j ∧ kk = .int .i64 (k0 + (cntG cntP (xs.take j) : Nat)) ∧ Keeps Fs.flatten w wr ∧ SameRows w wr ∧ GRL wr Fs els ((stG markP cntP k0 xs j).map GV.pairP)) (fun _ i _ => xs.length - (intOf i).toNat)
  case atStart => exact ⟨0, Nat.zero_le _, rfl, by simp [cntG], Keeps.refl _ _, SameRows.refl _, by rw [stG_zero]; exact hx.h⟩
  case round =>
    obtain ⟨j, hj, rfl, rfl, hkp, hsr, hg⟩ := hrel
    by_cases hlt : j < xs.length
    · have hb1 := cntG_le1 (cn := cntP) hlt
      obtain ⟨F, v, hF, hv, hgv, hsub⟩ := hg.at (j := j) (g := GV.pairP (nth xs j)) (by rw [List.getElem?_map, stG_at k0 xs hlt]; rfl)
      have hndv : F.Nodup := hg.nodup hndF hF
      obtain ⟨b, o, rfl⟩ := hx.isSome (by omega)
      have hbn : b ∉ Fs.flatten := fun hb => (List.nodup_append.1 hnd).2.2 b (mem_own (a := some ⟨b, o, none⟩) (n := cap) (p := ⟨b, o, none⟩) rfl (by omega)) b hb rfl
      have i1 : ∀ w0, Sem.run Try.prog (Instr.indexAt 25 (.slice (some ⟨b, o, none⟩) xs.length cap) (.int .i64 (j : Int))) w0 = .ok (.pointer (some ⟨b, o + j * 2, none⟩)) w0 := fun w0 => by simpa using run_atE (s := 2) Try.underlying25 (by kernel_rfl) rfl hlt .i64 w0
      obtain ⟨us, Gs, rfl, rfl, hone, hnc1, hgl⟩ := grep_agg.1 hgv
      obtain ⟨u0, F0, us, Gs, rfl, rfl, g0, hgl⟩ := hgl.cons_inv
      obtain ⟨u1, F1, us, Gs, rfl, rfl, g1, hgl⟩ := hgl.cons_inv
      obtain ⟨rfl, rfl⟩ := hgl.nil_inv
      obtain ⟨a0, c0, rfl⟩ := grep_map_v g0
      obtain ⟨a1, c1, rfl⟩ := grep_map_v g1
      have c0_ : wr.cell? ⟨b, o + j * 2, none⟩ = some (.slice a0 (nth xs j).1.length c0) := by
        have q := ((hx.hc j _ hv).2.2 0 (by simp [Value.cells])).1
        rw [sAt_some] at q
        have q2 := hkp.cellSome q hbn
        rw [show o + j * 2 = o + (j * 2 + 0) by omega, q2]
        simp [Value.cells]
      have c1_ : wr.cell? ⟨b, o + j * 2 + 1, none⟩ = some (.slice a1 (nth xs j).2.length c1) := by
        have q := ((hx.hc j _ hv).2.2 1 (by simp [Value.cells])).1
        rw [sAt_some] at q
        have q2 := hkp.cellSome q hbn
        rw [show o + j * 2 + 1 = o + (j * 2 + 1) by omega, q2]
        simp [Value.cells]
      simp only [List.flatten_cons, List.flatten_nil, List.append_nil, List.nil_append] at hndv hsub
      have HF := Lib.hid hF
      have HV := Lib.hid hv
      have HB := Lib.hid hb1
      clear hF hv hb1
      go_wp2_with fail
      refine ((mk_Int64S (nth xs j).1 (k0 + (cntG cntP (xs.take j) : Nat)) (NU.mk (by have := HB.out; simp only [cntP, cntCl] at this; omega))).one g0 (by first | exact (List.nodup_append.1 hndv).1 | exact (List.nodup_append.1 hndv).2.1)).mono ?_
      rintro e w1 ⟨rfl, hi1, hk1, hr1⟩
      have c1_ : w1.cell? ⟨b, o + j * 2 + 1, none⟩ = some (.slice a1 (nth xs j).2.length c1) := hk1.cellSome c1_ (fun hb => hbn (hsub _ (by simp [hb])))
      have g1 := g1.keeps hk1 (fun i hi hi2 => (List.nodup_append.1 hndv).2.2 i hi2 i hi rfl)
      go_wp2_with fail
      refine ((mk_Int64S (nth xs j).2 ((k0 + (cntG cntP (xs.take j) : Nat)) + ((nth xs j).1.length : Nat)) (NU.mk (by have := HB.out; simp only [cntP, cntCl] at this; omega))).one g1 (by first | exact (List.nodup_append.1 hndv).1 | exact (List.nodup_append.1 hndv).2.1)).mono ?_
      rintro e w2 ⟨rfl, hi2, hk2, hr2⟩
      have hi1 := hi1.keeps hk2 (fun i hi hi2 => (List.nodup_append.1 hndv).2.2 i hi i hi2 rfl)
      have hkk := (hk1.mono (M := F0 ++ F1) (fun i hi => List.mem_append.2 (.inl hi))).trans (hk2.mono (fun i hi => List.mem_append.2 (.inr hi)))
      have hgj : GRep w2 _ _ (GV.pairP (markP (k0 + (cntG cntP (xs.take j) : Nat)) (nth xs j))) := grep_agg.2 ⟨_, _, rfl, rfl, hone, by simp [GV.ncells], (.cons hi1 (.cons hi2 .nil))⟩
      have hg2 := hg.set hndF HF.out HV.out hgj (by simpa using hkk)
      rw [← List.map_set, stG_next k0 xs hlt] at hg2
      go_wp2
      go_roundw
      case rel => exact ⟨j + 1, by omega, by go_num, by rw [cntG_take hlt]; simp only [cntP, cntCl, Int.natCast_add, Int.add_assoc], hkp.trans (hkk.mono (fun i hi => hsub i (by simpa using hi))), hsr.trans (hr1.trans hr2), hg2⟩
      case measure => simp [intOf]; omega
    · have he : xs.length ≤ j := by omega
      rw [stG_end k0 xs he] at hg
      have hc : cntG cntP (xs.take j) = cntG cntP xs := by rw [List.take_of_length_le he]
      have HC := Lib.hid hc
      clear hc
      go_wp2
      go_ret
      exact ⟨ret_int (by rw [HC.out]), hg, hkp, hsr⟩
theorem mk_PairS (xs : List (List Int × List Int)) (k : Int) (hk : NU (0 ≤ k ∧ k + cntG cntP xs ≤ 1099511627776)) : MarkC Try.prog 50 false [.pairs xs] [.pairs (markG markP cntP k xs)] k (cntG cntP xs) :=
  ⟨enterMk_PairS, fun w Fs vs h hnd => by
    cases h with
    | @cons F v g Fs vs gs h1 h2 =>
      cases h2
      obtain ⟨a, cap, els, Gs, rfl, rfl, hi⟩ := grep_slice.1 h1
      have hnd' : (own a cap ++ Gs.flatten).Nodup := by simpa using hnd
      have hq := markPairS_g hi hnd' k hk.e.1 hk.e.2
      rw [show ((List.map GV.pairP xs).length) = xs.length by simp]
      refine hq.mono ?_
      rintro e w' ⟨he, hi', hk', hr'⟩
      exact ⟨he, .cons (grep_slice.2 ⟨a, cap, els, Gs, by simp [markG_len], rfl, hi.move hk' hnd' hi' (by intro x hx; obtain ⟨y, _, rfl⟩ := List.mem_map.1 hx; rfl)⟩) .nil, by simpa using hk'.mono (fun i hi => List.mem_append.2 (.inr hi)), hr'⟩⟩
theorem enterMk_Det (args : Array Value) (w : World) : (callFunc 14 args).run Try.prog w = .ok (.enter 14 args) w := callFunc_enter Try.func14 (by decide) rfl args w
set_option maxHeartbeats 2000000 in
theorem mk_Det (n : List (List Int)) (p : List (List Int × List Int)) (k : Int) (hk : NU (0 ≤ k ∧ k + ((cntR n + cntPs p : Nat) : Int) ≤ 1099511627776)) : MarkC Try.prog 14 true [.rows n, .pairs p] [.rows (markR k n), .pairs (markPs (k + (cntR n : Nat)) p)] k (cntR n + cntPs p) :=
  ⟨enterMk_Det, fun w Fs vs hgl hnd => by
    obtain ⟨h0, h1⟩ := hk.e
    obtain ⟨u0, F0, us0, Gs0, rfl, rfl, g0, hgl⟩ := hgl.cons_inv
    obtain ⟨u1, F1, us1, Gs1, rfl, rfl, g1, hgl⟩ := hgl.cons_inv
    obtain ⟨rfl, rfl⟩ := hgl.nil_inv
    obtain ⟨a0, c0, rfl⟩ := grep_map_v g0
    obtain ⟨a1, c1, rfl⟩ := grep_map_v g1
    have l0 := Lib.hid g0.lt
    have l1 := Lib.hid g1.lt
    simp only [List.flatten_cons, List.flatten_nil, List.append_nil, List.nil_append, ← List.append_assoc] at hnd
    have d0_1 : ∀ b, b ∈ F0 → b ∈ F1 → False := fun b h1 h2 => by simp only [List.nodup_append] at hnd; grind
    have nd0 : F0.Nodup := by simp only [List.nodup_append] at hnd; grind
    have nd1 : F1.Nodup := by simp only [List.nodup_append] at hnd; grind
    have g0 := g0.keeps0 (Keeps.alloc [] w (.cells #[.slice a0 n.length c0, .slice a1 p.length c1] 35))
    have g1 := g1.keeps0 (Keeps.alloc [] w (.cells #[.slice a0 n.length c0, .slice a1 p.length c1] 35))
    have HH : True := trivial
    show Calls _ _ #[.agg #[.slice a0 n.length c0, .slice a1 p.length c1], _] _ _
    go_enter Try.func14, Try.ntmps14
    go_wp2_with fail
    refine ((mk_Int64SS n k (NU.mk (by (try simp only [cntR, cntR3, cntPs, cntCls, Int.natCast_add] at *); omega))).one g0 nd0).mono ?_
    rintro e w1 ⟨rfl, hi0, hk1, hr1⟩
    have A1 := hk1.box_ (box_new _ _) (fun h => by have := l0.out _ h; omega)
    have fA1 := box2 A1
    go_wp2_with fail
    have g1 := g1.keeps hk1 (fun i hi hi2 => d0_1 i hi2 hi)
    refine ((mk_PairS p (k + (cntR n : Nat)) (NU.mk (by (try simp only [cntR, cntR3, cntPs, cntCls, Int.natCast_add] at *); omega))).one g1 nd1).mono ?_
    rintro e w2 ⟨rfl, hi1, hk2, hr2⟩
    go_wp2
    go_ret
    have hi0 := hi0.keeps hk2 (fun i hi hi2 => d0_1 i hi hi2)
    refine ⟨ret_int (by simp only [Int.natCast_add, Int.add_assoc]), (.cons hi0 (.cons hi1 .nil)), ?_, ?_⟩
    · have hz : ∀ {L : List Nat} {x y : World}, Keeps L x y → (∀ i ∈ L, i ∈ F0 ++ F1) → Keeps (F0 ++ F1) x y := fun h hm => h.mono hm
      have := (((Keeps.alloc (F0 ++ F1) w _).trans (hz hk1 (by simp +contextual))).trans (hz hk2 (by simp +contextual)))
      simpa using this
    · exact (((SameRows.keeps (Keeps.alloc [] w _)).trans hr1).trans hr2)⟩
end Go.Proofs.Ytabfpoflhacknaa

