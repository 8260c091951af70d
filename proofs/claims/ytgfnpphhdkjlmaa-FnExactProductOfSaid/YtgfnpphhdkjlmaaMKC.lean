/- The laws' functions that number clauses: what they write. Conditions: the data lie in memory, apart; the numbers stay small. -/
import Derived.Test.YtgfnpphhdkjlmaaMK1
set_option linter.unusedSimpArgs false
set_option linter.unusedVariables false
namespace Go.Proofs.Ytgfnpphhdkjlmaa
open Go.RowKit
open Shp
theorem GRL.setV {w : World} {Fs : List (List Nat)} {vs : List Value} {gs : List GV} (h : GRL w Fs vs gs) {j : Nat} {F : List Nat} {v : Value} {g : GV} (hF : Fs[j]? = some F) (hg : GRep w F v g) : GRL w Fs (vs.set j v) (gs.set j g) := by
  induction h generalizing j with
  | nil => simp at hF
  | @cons F0 v0 g0 Fs vs gs h1 h2 ih =>
    cases j with
    | zero =>
      simp at hF
      subst hF
      exact .cons hg h2
    | succ j =>
      simp at hF
      exact .cons h1 (ih hF)
theorem at_ne {k j q e : Nat} (hq : q < e) (h : k * e + q = j * e) : k = j ∧ q = 0 := by
  have he : 0 < e := by omega
  have h1 : (k * e + q) / e = k := by rw [Nat.mul_comm, Nat.mul_add_div he, Nat.div_eq_of_lt hq]; rfl
  have h2 : (j * e) / e = j := Nat.mul_div_cancel _ he
  rw [h, h2] at h1
  subst h1
  exact ⟨rfl, by omega⟩
theorem SliceG.put0 {w : World} {b o : Nat} {cap e : Nat} {els : List Value} {gs : List GV} {Fs : List (List Nat)} (h : SliceG w (some ⟨b, o, none⟩) cap e els gs Fs) (hnd : (own (some ⟨b, o, none⟩) cap ++ Fs.flatten).Nodup) {j : Nat} {F : List Nat} {m n : Int} {ut : List Value} {gt : List GV}
    (hF : Fs[j]? = some F) (hv : els[j]? = some (.agg (Value.int .i64 m :: ut).toArray)) (hg : gs[j]? = some (.agg (.i m :: gt))) :
    SliceG (w.setCell ⟨b, o + j * e, none⟩ (.int .i64 n)) (some ⟨b, o, none⟩) cap e (els.set j (.agg (Value.int .i64 n :: ut).toArray)) (gs.set j (.agg (.i n :: gt))) Fs ∧ Keeps (own (some ⟨b, o, none⟩) cap) w (w.setCell ⟨b, o + j * e, none⟩ (.int .i64 n)) ∧ SameRows w (w.setCell ⟨b, o + j * e, none⟩ (.int .i64 n)) := by
  have hjl := (List.getElem?_eq_some_iff.1 hg).1
  have hle := h.le
  have h0 : 0 < cap := by omega
  have hm := mem_own (a := some ⟨b, o, none⟩) (n := cap) (p := ⟨b, o, none⟩) rfl h0
  have hk : Keeps (own (some ⟨b, o, none⟩) cap) w (w.setCell ⟨b, o + j * e, none⟩ (.int .i64 n)) := Keeps.setCell _ _ _ _ (.inl hm)
  have hgl := h.h.keeps hk (fun x hx hx2 => (List.nodup_append.1 hnd).2.2 x hx2 x hx rfl)
  obtain ⟨F', v', hF', hv', hgr, _⟩ := hgl.at hg
  rw [hF] at hF'; cases hF'
  rw [hv] at hv'; cases hv'
  obtain ⟨vs, Gs, e1, e2, hone, hnc, hl⟩ := grep_agg.1 hgr
  have e3 : vs = Value.int .i64 m :: ut := by
    have := (Value.agg.inj e1)
    have := congrArg Array.toList this
    simpa using this.symm
  subst e3
  obtain ⟨u, G0, us, Gt, hu, hG, g0, hl'⟩ := hl.cons_inv
  cases hu
  subst hG
  obtain ⟨_, rfl⟩ := grep_int g0
  have hnew : GRep (w.setCell ⟨b, o + j * e, none⟩ (.int .i64 n)) F (.agg (Value.int .i64 n :: ut).toArray) (.agg (.i n :: gt)) :=
    grep_agg.2 ⟨_, _, rfl, e2, (by
      intro u hu
      rcases List.mem_cons.1 hu with rfl | hu
      · rfl
      · exact hone u (.tail _ hu)), (by
      intro x hx
      rcases List.mem_cons.1 hx with rfl | hx
      · rfl
      · exact hnc x (.tail _ hx)), .cons (.atom (GV.i n) rfl) hl'⟩
  have hj := h.hc j _ hv
  have hsz : (Value.agg (Value.int .i64 m :: ut).toArray).cells.size = e := hj.1
  have hsz' : ut.length + 1 = e := by simpa [Value.cells] using hsz
  refine ⟨⟨h.he, ?_, by simpa using h.le, h.max, h.nil, ?_, ?_, hgl.setV hF hnew⟩, hk, SameRows.setCell rfl⟩
  · intro x hx
    rcases List.mem_or_eq_of_mem_set hx with hx | rfl
    · exact h.nc x hx
    · have := h.nc _ (List.mem_of_getElem? hg)
      simpa [GV.ncells] using this
  · intro p hp h0
    have := h.ad p hp h0
    exact ⟨this.1, by simp [World.setCell]; exact this.2⟩
  · intro k v hk2
    by_cases ekj : k = j
    · subst ekj
      have hkl := (List.getElem?_eq_some_iff.1 hv).1
      rw [List.getElem?_set_self hkl] at hk2
      cases hk2
      refine ⟨by simpa [Value.cells] using hsz', ?_, fun q hq => ?_⟩
      · intro u hu
        simp [Value.cells] at hu
        rcases hu with rfl | hu
        · rfl
        · exact hone u (.tail _ hu)
      · have hq' : q < e := by simpa [Value.cells, hsz'] using hq
        cases q with
        | zero =>
          have hc := hj.2.2 0 (by rw [hsz]; exact h.he)
          simp only [sAt_some, Nat.add_zero] at hc ⊢
          exact ⟨by rw [World.cell?_setCell_same _ _ _ hc.1]; simp [Value.cells], by rw [World.frozen?_setCell]; exact hc.2⟩
        | succ q =>
          have hc := hj.2.2 (q + 1) (by rw [hsz]; exact hq')
          simp only [sAt_some] at hc ⊢
          refine ⟨?_, by rw [World.frozen?_setCell]; exact hc.2⟩
          rw [World.cell?_setCell_other _ _ _ _ (by simp; try omega), hc.1]
          simp [Value.cells]
    · rw [List.getElem?_set_ne (by omega)] at hk2
      have hc := h.hc k v hk2
      refine ⟨hc.1, hc.2.1, fun q hq => ?_⟩
      have hc2 := hc.2.2 q hq
      have hqe : q < e := by have := hc.1; omega
      simp only [sAt_some] at hc2 ⊢
      refine ⟨?_, by rw [World.frozen?_setCell]; exact hc2.2⟩
      rw [World.cell?_setCell_other _ _ _ _ (by
        intro e9
        have e10 : j * e = k * e + q := by simpa using e9
        exact ekj (at_ne hqe e10.symm).1), hc2.1]
theorem enterMk_ClauseS (args : Array Value) (w : World) : (callFunc 50 args).run Try.prog w = .ok (.enter 50 args) w := callFunc_enter Try.func50 (by decide) rfl args w
set_option maxHeartbeats 4000000 in
theorem markClauseS_g {w : World} {a : Option Addr} {cap : Nat} {els : List Value} {xs : List (Int × List Int × List Int)} {Fs : List (List Nat)} (hx : SliceG w a cap 3 els (xs.map GV.clauseP) Fs) (hnd : (own a cap ++ Fs.flatten).Nodup) (k0 : Int) (h0 : 0 ≤ k0) (h1 : k0 + cntG cntCl xs ≤ 1099511627776) :
    Calls Try.prog 50 #[.slice a xs.length cap, .int .i64 k0] w fun e w' => e = .returned (.int .i64 (k0 + cntG cntCl xs)) ∧ (∃ els', SliceG w' a cap 3 els' ((markG markCl cntCl k0 xs).map GV.clauseP) Fs) ∧ Keeps (own a cap ++ Fs.flatten) w w' ∧ SameRows w w' := by
  have m1 := hx.le
  rw [List.length_map] at m1
  have m2 := hx.max
  have hndF : Fs.flatten.Nodup := (List.nodup_append.1 hnd).2.1
  go_enter Try.func50, Try.ntmps50
  go_wp2
  go_loopw [1, 5] (fun kk i wr => ∃ j : Nat, j ≤ xs.length ∧ i = .int .i64 j ∧ kk = .int .i64 (k0 + (cntG cntCl (xs.take j) : Nat)) ∧ Keeps (own a cap ++ Fs.flatten) w wr ∧ SameRows w wr ∧ ∃ els', SliceG wr a cap 3 els' ((stG markCl cntCl k0 xs j).map GV.clauseP) Fs) (fun _ i _ => xs.length - (intOf i).toNat)
  case atStart => exact ⟨0, Nat.zero_le _, rfl, by simp [cntG], Keeps.refl _ _, SameRows.refl _, els, by rw [stG_zero]; exact hx⟩
  case round =>
    obtain ⟨j, hj, rfl, rfl, hkp, hsr, els', hs⟩ := hrel
    by_cases hlt : j < xs.length
    · have hb1 := cntG_le1 (cn := cntCl) hlt
      have hgj0 : ((stG markCl cntCl k0 xs j).map GV.clauseP)[j]? = some (GV.clauseP (nth xs j)) := by rw [List.getElem?_map, stG_at k0 xs hlt]; rfl
      obtain ⟨F, v, hF, hv, hgv, hsub⟩ := hs.h.at (j := j) (g := GV.clauseP (nth xs j)) hgj0
      have hndv : F.Nodup := hs.h.nodup hndF hF
      obtain ⟨b, o, rfl⟩ := hx.isSome (by omega)
      have hbn : b ∉ Fs.flatten := fun hb => (List.nodup_append.1 hnd).2.2 b (mem_own (a := some ⟨b, o, none⟩) (n := cap) (p := ⟨b, o, none⟩) rfl (by omega)) b hb rfl
      have i1 : ∀ w0, Sem.run Try.prog (Instr.indexAt 68 (.slice (some ⟨b, o, none⟩) xs.length cap) (.int .i64 (j : Int))) w0 = .ok (.pointer (some ⟨b, o + j * 3, none⟩)) w0 := fun w0 => by simpa using run_atE (s := 3) Try.underlying68 (by kernel_rfl) rfl hlt .i64 w0
      obtain ⟨us, Gs, rfl, rfl, hone, hnc1, hgl⟩ := grep_agg.1 hgv
      obtain ⟨u0, F0, us, Gs, rfl, rfl, g0, hgl⟩ := hgl.cons_inv
      obtain ⟨u1, F1, us, Gs, rfl, rfl, g1, hgl⟩ := hgl.cons_inv
      obtain ⟨u2, F2, us, Gs, rfl, rfl, g2, hgl⟩ := hgl.cons_inv
      obtain ⟨rfl, rfl⟩ := hgl.nil_inv
      obtain ⟨rfl, rfl⟩ := grep_int g0
      obtain ⟨a1, c1, rfl⟩ := grep_map_v g1
      obtain ⟨a2, c2, rfl⟩ := grep_map_v g2
      have c0_ : wr.cell? ⟨b, o + j * 3, none⟩ = some (.int .i64 (nth xs j).1) := by
        have q := ((hs.hc j _ hv).2.2 0 (by simp [Value.cells])).1
        rw [sAt_some] at q
        simpa [Value.cells] using q
      have f0_ : wr.frozen? ⟨b, o + j * 3, none⟩ = false := by
        have q := ((hs.hc j _ hv).2.2 0 (by simp [Value.cells])).2
        rw [sAt_some] at q
        simpa using q
      obtain ⟨p1, p2, p3⟩ := hs.put0 (n := k0 + (cntG cntCl (xs.take j) : Nat)) hnd hF hv hgj0
      have hv1 := List.getElem?_set_self (l := els') (i := j) (a := Value.agg (Value.int .i64 (k0 + (cntG cntCl (xs.take j) : Nat)) :: [Value.slice a1 (nth xs j).2.1.length c1, Value.slice a2 (nth xs j).2.2.length c2]).toArray) (List.getElem?_eq_some_iff.1 hv).1
      have c1_ : (wr.setCell ⟨b, o + j * 3, none⟩ (.int .i64 (k0 + (cntG cntCl (xs.take j) : Nat)))).cell? ⟨b, o + j * 3 + 1, none⟩ = some (.slice a1 (nth xs j).2.1.length c1) := by
        have q := ((p1.hc j _ hv1).2.2 1 (by simp [Value.cells])).1
        rw [sAt_some] at q
        rw [show o + j * 3 + 1 = o + (j * 3 + 1) by omega, q]
        simp [Value.cells]
      have c2_ : (wr.setCell ⟨b, o + j * 3, none⟩ (.int .i64 (k0 + (cntG cntCl (xs.take j) : Nat)))).cell? ⟨b, o + j * 3 + 2, none⟩ = some (.slice a2 (nth xs j).2.2.length c2) := by
        have q := ((p1.hc j _ hv1).2.2 2 (by simp [Value.cells])).1
        rw [sAt_some] at q
        rw [show o + j * 3 + 2 = o + (j * 3 + 2) by omega, q]
        simp [Value.cells]
      have hkb : ∀ x ∈ F1 ++ F2, x ∉ own (some ⟨b, o, none⟩) cap := fun x hx hx2 => (List.nodup_append.1 hnd).2.2 x hx2 x (hsub _ (by simpa using hx)) rfl
      have g1 := g1.keeps p2 (fun x hx => hkb x (List.mem_append.2 (.inl hx)))
      have g2 := g2.keeps p2 (fun x hx => hkb x (List.mem_append.2 (.inr hx)))
      simp only [List.flatten_cons, List.flatten_nil, List.append_nil, List.nil_append] at hndv hsub
      have hb2 : k0 + (cntG cntCl (xs.take j) : Nat) + 1 ≤ 1099511627776 := by have := hb1; simp only [cntCl] at this; omega
      have HF := Lib.hid hF
      have HV := Lib.hid hv1
      have HB := Lib.hid hb1
      have HP := Lib.hid p1
      have HQ := Lib.hid p2
      clear hF hv hb1 hs p1 p2 hv1 hgj0
      go_wp2_with fail
      refine ((mk_Int64S (nth xs j).2.1 (k0 + (cntG cntCl (xs.take j) : Nat) + 1) (NU.mk (by have := HB.out; simp only [cntP, cntCl] at this; omega))).one g1 (by first | exact (List.nodup_append.1 hndv).1 | exact (List.nodup_append.1 hndv).2.1)).mono ?_
      rintro e w1 ⟨rfl, hi1, hk1, hr1⟩
      have c2_ : w1.cell? ⟨b, o + j * 3 + 2, none⟩ = some (.slice a2 (nth xs j).2.2.length c2) := hk1.cellSome c2_ (fun hb => hbn (hsub _ (by simp [hb])))
      have g2 := g2.keeps hk1 (fun i hi hi2 => (List.nodup_append.1 hndv).2.2 i hi2 i hi rfl)
      go_wp2_with fail
      refine ((mk_Int64S (nth xs j).2.2 (k0 + (cntG cntCl (xs.take j) : Nat) + 1 + ((nth xs j).2.1.length : Nat)) (NU.mk (by have := HB.out; simp only [cntP, cntCl] at this; omega))).one g2 (by first | exact (List.nodup_append.1 hndv).1 | exact (List.nodup_append.1 hndv).2.1)).mono ?_
      rintro e w2 ⟨rfl, hi2, hk2, hr2⟩
      have hi1 := hi1.keeps hk2 (fun i hi hi2 => (List.nodup_append.1 hndv).2.2 i hi i hi2 rfl)
      have hkk := (hk1.mono (M := F1 ++ F2) (fun i hi => List.mem_append.2 (.inl hi))).trans (hk2.mono (fun i hi => List.mem_append.2 (.inr hi)))
      have hgj : GRep w2 _ _ (GV.clauseP (markCl (k0 + (cntG cntCl (xs.take j) : Nat)) (nth xs j))) := grep_agg.2 ⟨_, _, rfl, rfl, (by intro u hu; rcases List.mem_cons.1 hu with rfl | hu; rfl; exact hone u (.tail _ hu)), by simp [GV.ncells], (.cons (.atom (GV.i _) rfl) (.cons hi1 (.cons hi2 .nil)))⟩
      have hg2 := HP.out.h.set hndF HF.out HV.out hgj (by simpa using hkk)
      rw [List.set_set, ← List.map_set, stG_next k0 xs hlt] at hg2
      have hs2 := HP.out.move (hkk.mono (fun i hi => hsub i (by simpa using hi))) hnd hg2 (by intro x hx; obtain ⟨y, _, rfl⟩ := List.mem_map.1 hx; rfl)
      go_wp2
      go_roundw
      case rel => exact ⟨j + 1, by omega, by go_num, by rw [cntG_take hlt]; simp only [cntP, cntCl, Int.natCast_add]; congr 1; omega, (hkp.trans (HQ.out.mono (fun i hi => List.mem_append.2 (.inl hi)))).trans ((hkk.mono (fun i hi => hsub i (by simpa using hi))).mono (fun i hi => List.mem_append.2 (.inr hi))), (hsr.trans p3).trans (hr1.trans hr2), _, hs2⟩
      case measure => simp [intOf]; omega
    · have he : xs.length ≤ j := by omega
      rw [stG_end k0 xs he] at hs
      have hc : cntG cntCl (xs.take j) = cntG cntCl xs := by rw [List.take_of_length_le he]
      have HC := Lib.hid hc
      clear hc
      go_wp2
      go_ret
      exact ⟨ret_int (by rw [HC.out]), ⟨_, hs⟩, hkp, hsr⟩
theorem mk_ClauseS (xs : List (Int × List Int × List Int)) (k : Int) (hk : NU (0 ≤ k ∧ k + cntG cntCl xs ≤ 1099511627776)) : MarkC Try.prog 50 false [.clauses xs] [.clauses (markG markCl cntCl k xs)] k (cntG cntCl xs) :=
  ⟨enterMk_ClauseS, fun w Fs vs h hnd => by
    cases h with
    | @cons F v g Fs vs gs h1 h2 =>
      cases h2
      obtain ⟨a, cap, els, Gs, rfl, rfl, hi⟩ := grep_slice.1 h1
      have hnd' : (own a cap ++ Gs.flatten).Nodup := by simpa using hnd
      have hq := markClauseS_g hi hnd' k hk.e.1 hk.e.2
      rw [show ((List.map GV.clauseP xs).length) = xs.length by simp]
      refine hq.mono ?_
      rintro e w' ⟨he, ⟨els', hi'⟩, hk', hr'⟩
      exact ⟨he, .cons (grep_slice.2 ⟨a, cap, els', Gs, by simp [markG_len], rfl, hi'⟩) .nil, by simpa using hk', hr'⟩⟩
end Go.Proofs.Ytgfnpphhdkjlmaa

