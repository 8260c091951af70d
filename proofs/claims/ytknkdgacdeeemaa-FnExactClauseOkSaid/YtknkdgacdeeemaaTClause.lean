/- The structure Clause of the laws: its shape, its copy, its measure, its equality. Conditions: it lies in memory; what is copied is small. -/
import Derived.Test.YtknkdgacdeeemaaSlices
namespace Go.Proofs.Ytknkdgacdeeemaa
open Go.RowKit
open Shp

structure ClauseT where
  kind : Int
  A : List Int
  B : List Int

def clauseS : Shp ClauseT := (two int (two (slice int) (slice int))).by_ fun x => (x.kind, (x.A, x.B))

theorem clauseS_val (u0 u1 u2 : Value) : clauseS.val [u0, u1, u2] = .agg #[u0, u1, u2] := rfl
attribute [go_sem] clauseS_val

theorem clauseS_iff {w : World} {F : List Nat} {cs : List Value} {x : ClauseT} : clauseS.rep w F cs x ↔ ∃ a1 n1 F1 a2 n2 F2, cs = [.int .i64 x.kind, .slice a1 x.A.length n1, .slice a2 x.B.length n2] ∧ F = F1 ++ (F2) ∧ inI64 x.kind ∧ (slice int).rep w F1 [.slice a1 x.A.length n1] x.A ∧ (slice int).rep w F2 [.slice a2 x.B.length n2] x.B := by
  constructor
  · rintro ⟨c0, d0, G0, H0, rfl, rfl, ⟨rfl, rfl, h0⟩, ⟨c1, d1, G1, H1, rfl, rfl, h1, h2⟩⟩
    obtain ⟨a1, n1, rfl⟩ := slice_open h1
    obtain ⟨a2, n2, rfl⟩ := slice_open h2
    exact ⟨a1, n1, _, a2, n2, _, rfl, by simp, h0, h1, h2⟩
  · rintro ⟨a1, n1, F1, a2, n2, F2, rfl, rfl, h0, h1, h2⟩
    exact ⟨_, _, [], F1 ++ (F2), rfl, by simp, ⟨rfl, rfl, h0⟩, ⟨_, _, F1, F2, rfl, by simp, h1, h2⟩⟩

theorem clauseS_open {w : World} {F : List Nat} {cs : List Value} {x : ClauseT} (h : clauseS.rep w F cs x) : ∃ a1 n1 a2 n2, cs = [.int .i64 x.kind, .slice a1 x.A.length n1, .slice a2 x.B.length n2] := by
  obtain ⟨a1, n1, F1, a2, n2, F2, rfl, _⟩ := clauseS_iff.1 h
  exact ⟨a1, n1, a2, n2, rfl⟩

def clauseSmall (x : ClauseT) : Prop := smallL x.A ∧ smallL x.B
def szClause (x : ClauseT) (l : Int) : Int := if szL x.A l < 0 then -1 else szL x.B (szL x.A l)
def clauseEq (x y : ClauseT) : Bool := (x.kind == y.kind) && eqL x.A y.A && eqL x.B y.B
theorem Clause_eq_refl (x : ClauseT) : clauseEq x x = true := by unfold clauseEq; simp [ints_eq_refl]

theorem szClause_small {x : ClauseT} {l : Int} (h : ¬ szClause x l < 0) (hl : l ≤ 1048576 := by omega) : clauseSmall x ∧ (0 ≤ szClause x l ∧ szClause x l ≤ 1048576) := by
  unfold szClause at h ⊢
  by_cases g0 : szL x.A l < 0
  · rw [if_pos g0] at h; omega
  rw [if_neg g0] at h ⊢
  have s0 := szL_small g0 hl
  have s1 := szL_small h s0.2.2
  exact ⟨⟨s0.1, s1.1⟩, s1.2⟩

section
variable {w : World} {F : List Nat} {cs : List Value} {x : ClauseT}

set_option maxHeartbeats 4000000 in
theorem Clause_sz (h : clauseS.rep w F cs x) (l : Int) (l0 : 0 ≤ l) (l1 : l ≤ 1048576) : Calls Try.prog 24 #[clauseS.val cs, .int .i64 l] w (Pure w (.int .i64 (szClause x l))) := by
  obtain ⟨a1, n1, F1, a2, n2, F2, rfl, rfl, h0, h1, h2⟩ := clauseS_iff.1 h
  obtain ⟨x0, x1, x2⟩ := x
  simp only at h0 h1 h2
  show Calls _ _ #[.agg #[.int .i64 x0, .slice a1 x1.length n1, .slice a2 x2.length n2], _] _ _
  unfold Pure szClause
  simp only
  have hk : Keeps [] (w.alloc (.cells #[.int .i64 x0, .slice a1 x1.length n1, .slice a2 x2.length n2] 34)) (w.alloc (.cells #[.int .i64 x0, .slice a1 x1.length n1, .slice a2 x2.length n2] 34)) := Keeps.refl _ _
  have B := box_new w (.cells #[.int .i64 x0, .slice a1 x1.length n1, .slice a2 x2.length n2] 34)
  have f_B := box3 (hk.box_ B (by simp)); have g_B := fun (x : After _) => box3 ((hk.trans x.k).box_ B (by simp))
  by_cases g0 : szL x1 l < 0
  · have e0 := szL_neg g0
    rw [if_pos g0]
    have E := Lib.hid e0
    clear e0
    go_enter Try.func24, Try.ntmps24
    go_wp2_with fail
    refine (ints_sz ((slice int).keeps0 h1 hk.box) l l0 l1).mono ?_
    rintro e w1 ⟨rfl, hq⟩
    replace hk := hk.trans hq; clear hq; clear f_B g_B; have f_B := box3 (hk.box_ B (by simp)); have g_B := fun (x : After _) => box3 ((hk.trans x.k).box_ B (by simp))
    go_wp2
    go_ret
    exact ⟨rfl, hk.box⟩
  rw [if_neg g0]
  have t0 := (szL_small g0 l1).2
  by_cases g1 : szL x2 (szL x1 l) < 0
  · have e1 := szL_neg g1
    rw [e1]
    have E := Lib.hid e1
    clear e1
    go_enter Try.func24, Try.ntmps24
    go_wp2_with fail
    refine (ints_sz ((slice int).keeps0 h1 hk.box) l l0 l1).mono ?_
    rintro e w1 ⟨rfl, hq⟩
    replace hk := hk.trans hq; clear hq; clear f_B g_B; have f_B := box3 (hk.box_ B (by simp)); have g_B := fun (x : After _) => box3 ((hk.trans x.k).box_ B (by simp))
    go_wp2_with fail
    refine (ints_sz ((slice int).keeps0 h2 hk.box) (szL x1 l) t0.1 t0.2).mono ?_
    rintro e w1 ⟨rfl, hq⟩
    replace hk := hk.trans hq; clear hq; clear f_B g_B; have f_B := box3 (hk.box_ B (by simp)); have g_B := fun (x : After _) => box3 ((hk.trans x.k).box_ B (by simp))
    go_wp2
    go_ret
    exact ⟨rfl, hk.box⟩
  have t1 := (szL_small g1 t0.2).2
  go_enter Try.func24, Try.ntmps24
  go_wp2_with fail
  refine (ints_sz ((slice int).keeps0 h1 hk.box) l l0 l1).mono ?_
  rintro e w1 ⟨rfl, hq⟩
  replace hk := hk.trans hq; clear hq; clear f_B g_B; have f_B := box3 (hk.box_ B (by simp)); have g_B := fun (x : After _) => box3 ((hk.trans x.k).box_ B (by simp))
  go_wp2_with fail
  refine (ints_sz ((slice int).keeps0 h2 hk.box) (szL x1 l) t0.1 t0.2).mono ?_
  rintro e w1 ⟨rfl, hq⟩
  replace hk := hk.trans hq; clear hq; clear f_B g_B; have f_B := box3 (hk.box_ B (by simp)); have g_B := fun (x : After _) => box3 ((hk.trans x.k).box_ B (by simp))
  go_wp2
  go_ret
  exact ⟨rfl, hk.box⟩

set_option maxHeartbeats 4000000 in
theorem Clause_eq {G : List Nat} {ds : List Value} {y : ClauseT} (h : clauseS.rep w F cs x) (k : clauseS.rep w G ds y) : Calls Try.prog 28 #[clauseS.val cs, clauseS.val ds] w (Pure w (.bool (clauseEq x y))) := by
  obtain ⟨a1, n1, F1, a2, n2, F2, rfl, rfl, h0, h1, h2⟩ := clauseS_iff.1 h
  obtain ⟨x0, x1, x2⟩ := x
  simp only at h0 h1 h2
  obtain ⟨b1, m1, G1, b2, m2, G2, rfl, rfl, k0, k1, k2⟩ := clauseS_iff.1 k
  obtain ⟨y0, y1, y2⟩ := y
  simp only at k0 k1 k2
  show Calls _ _ #[.agg #[.int .i64 x0, .slice a1 x1.length n1, .slice a2 x2.length n2], .agg #[.int .i64 y0, .slice b1 y1.length m1, .slice b2 y2.length m2]] _ _
  unfold Pure clauseEq
  simp only
  have hk : Keeps [] ((w.alloc (.cells #[.int .i64 x0, .slice a1 x1.length n1, .slice a2 x2.length n2] 37)).alloc (.cells #[.int .i64 y0, .slice b1 y1.length m1, .slice b2 y2.length m2] 37)) ((w.alloc (.cells #[.int .i64 x0, .slice a1 x1.length n1, .slice a2 x2.length n2] 37)).alloc (.cells #[.int .i64 y0, .slice b1 y1.length m1, .slice b2 y2.length m2] 37)) := Keeps.refl _ _
  have B := box_alloc (o' := .cells #[.int .i64 y0, .slice b1 y1.length m1, .slice b2 y2.length m2] 37) (box_new w (.cells #[.int .i64 x0, .slice a1 x1.length n1, .slice a2 x2.length n2] 37))
  have C : ((w.alloc (.cells #[.int .i64 x0, .slice a1 x1.length n1, .slice a2 x2.length n2] 37)).alloc (.cells #[.int .i64 y0, .slice b1 y1.length m1, .slice b2 y2.length m2] 37)).heap[w.heap.size + 1]? = some (.cells #[.int .i64 y0, .slice b1 y1.length m1, .slice b2 y2.length m2] 37 (0, 0)) := by simpa using box_new (w.alloc (.cells #[.int .i64 x0, .slice a1 x1.length n1, .slice a2 x2.length n2] 37)) (.cells #[.int .i64 y0, .slice b1 y1.length m1, .slice b2 y2.length m2] 37)
  have f_B := box3 (hk.box_ B (by simp)); have g_B := fun (x : After _) => box3 ((hk.trans x.k).box_ B (by simp)); have f_C := box3 (hk.box_ C (by simp)); have g_C := fun (x : After _) => box3 ((hk.trans x.k).box_ C (by simp))
  cases g0 : (x0 != y0)
  case true =>
    have q0 : (x0 == y0) = false := by simpa using g0
    go_enter Try.func28, Try.ntmps28
    go_wp2
    go_ret
    exact ⟨ret_bool (by simp [*]), hk.box.box⟩
  case false =>
    have q0 : (x0 == y0) = true := by simpa using g0
    cases g1 : eqL x1 y1
    case false =>
      go_enter Try.func28, Try.ntmps28
      go_wp2_with fail
      refine (ints_eq ((slice int).keeps0 h1 hk.box.box) ((slice int).keeps0 k1 hk.box.box)).mono ?_
      rintro e w1 ⟨rfl, hq⟩
      replace hk := hk.trans hq; clear hq; clear f_B g_B f_C g_C; have f_B := box3 (hk.box_ B (by simp)); have g_B := fun (x : After _) => box3 ((hk.trans x.k).box_ B (by simp)); have f_C := box3 (hk.box_ C (by simp)); have g_C := fun (x : After _) => box3 ((hk.trans x.k).box_ C (by simp))
      rw [g1]
      go_wp2
      go_ret
      exact ⟨ret_bool (by simp [*]), hk.box.box⟩
    case true =>
      cases g2 : eqL x2 y2
      case false =>
        go_enter Try.func28, Try.ntmps28
        go_wp2_with fail
        refine (ints_eq ((slice int).keeps0 h1 hk.box.box) ((slice int).keeps0 k1 hk.box.box)).mono ?_
        rintro e w1 ⟨rfl, hq⟩
        replace hk := hk.trans hq; clear hq; clear f_B g_B f_C g_C; have f_B := box3 (hk.box_ B (by simp)); have g_B := fun (x : After _) => box3 ((hk.trans x.k).box_ B (by simp)); have f_C := box3 (hk.box_ C (by simp)); have g_C := fun (x : After _) => box3 ((hk.trans x.k).box_ C (by simp))
        rw [g1]
        go_wp2_with fail
        refine (ints_eq ((slice int).keeps0 h2 hk.box.box) ((slice int).keeps0 k2 hk.box.box)).mono ?_
        rintro e w1 ⟨rfl, hq⟩
        replace hk := hk.trans hq; clear hq; clear f_B g_B f_C g_C; have f_B := box3 (hk.box_ B (by simp)); have g_B := fun (x : After _) => box3 ((hk.trans x.k).box_ B (by simp)); have f_C := box3 (hk.box_ C (by simp)); have g_C := fun (x : After _) => box3 ((hk.trans x.k).box_ C (by simp))
        rw [g2]
        go_wp2
        go_ret
        exact ⟨ret_bool (by simp [*]), hk.box.box⟩
      case true =>
        go_enter Try.func28, Try.ntmps28
        go_wp2_with fail
        refine (ints_eq ((slice int).keeps0 h1 hk.box.box) ((slice int).keeps0 k1 hk.box.box)).mono ?_
        rintro e w1 ⟨rfl, hq⟩
        replace hk := hk.trans hq; clear hq; clear f_B g_B f_C g_C; have f_B := box3 (hk.box_ B (by simp)); have g_B := fun (x : After _) => box3 ((hk.trans x.k).box_ B (by simp)); have f_C := box3 (hk.box_ C (by simp)); have g_C := fun (x : After _) => box3 ((hk.trans x.k).box_ C (by simp))
        rw [g1]
        go_wp2_with fail
        refine (ints_eq ((slice int).keeps0 h2 hk.box.box) ((slice int).keeps0 k2 hk.box.box)).mono ?_
        rintro e w1 ⟨rfl, hq⟩
        replace hk := hk.trans hq; clear hq; clear f_B g_B f_C g_C; have f_B := box3 (hk.box_ B (by simp)); have g_B := fun (x : After _) => box3 ((hk.trans x.k).box_ B (by simp)); have f_C := box3 (hk.box_ C (by simp)); have g_C := fun (x : After _) => box3 ((hk.trans x.k).box_ C (by simp))
        rw [g2]
        go_wp2
        go_ret
        exact ⟨ret_bool (by simp [*]), hk.box.box⟩

set_option maxHeartbeats 4000000 in
theorem Clause_to (h : clauseS.rep w F cs x) (hs : clauseSmall x) : Calls Try.prog 26 #[clauseS.val cs] w (clauseS.Ret w x) := by
  obtain ⟨a1, n1, F1, a2, n2, F2, rfl, rfl, h0, h1, h2⟩ := clauseS_iff.1 h
  obtain ⟨x0, x1, x2⟩ := x
  simp only at h0 h1 h2
  unfold clauseSmall at hs
  simp only at hs
  show Calls _ _ #[.agg #[.int .i64 x0, .slice a1 x1.length n1, .slice a2 x2.length n2]] _ _
  go_enter Try.func26, Try.ntmps26
  go_wp2_with fail
  refine (ints_to ((slice int).keeps0 h1 (by repeat (first | exact Keeps.refl _ _ | assumption | apply Keeps.alloc0 | apply Keeps.drew0 | apply Keeps.drewN0 | (refine Keeps.set0 ?_ (by simp <;> omega) _) | (refine Keeps.trans0 ?_ (by assumption))))) hs.1).mono ?_
  rintro e w1 ⟨cs1, I1, rfl, R1, nd1, fr1, hk1⟩
  obtain ⟨p1, m1, rfl⟩ := slice_open R1
  rw [slice_val]
  have A1 : w1.heap[w.heap.size]? = some (.cells #[.int .i64 x0, .slice a1 x1.length n1, .slice a2 x2.length n2] 34 (0, 0)) := hk1.box_ (box_alloc (box_alloc (box_new _ _))) (by simp)
  have R_1 : w1.heap[w.heap.size + 1]? = some (.cells #[.int .i64 0, .slice none 0 0, .slice none 0 0] 37 (0, 0)) := hk1.box_ (box_alloc (by simpa using box_new (w.alloc _) _)) (by simp)
  have B1 : w1.heap[w.heap.size + 1 + 1]? = some (.cells #[.int .i64 x0, .slice none 0 0, .slice none 0 0] 37 (0, 0)) := hk1.box_ (by simpa using box_new ((w.alloc _).alloc _) _) (by simp)
  have fA := box3 A1
  have fR := box3 R_1
  have fB := box3 B1
  go_wp2_with fail
  refine (ints_to ((slice int).keeps0 h2 (by repeat (first | exact Keeps.refl _ _ | assumption | apply Keeps.alloc0 | apply Keeps.drew0 | apply Keeps.drewN0 | (refine Keeps.set0 ?_ (by simp <;> omega) _) | (refine Keeps.trans0 ?_ (by assumption))))) hs.2).mono ?_
  rintro e w2 ⟨cs2, I2, rfl, R2, nd2, fr2, hk2⟩
  obtain ⟨p2, m2, rfl⟩ := slice_open R2
  rw [slice_val]
  have A2 := hk2.box_ (box_other A1 (by simp <;> omega)) (by simp)
  have R_2 := hk2.box_ (box_other R_1 (by simp <;> omega)) (by simp)
  have B2 := hk2.box_ (box_set B1) (by simp)
  simp at B2
  clear fA fR fB A1 R_1 B1
  have fA := box3 A2
  have fR := box3 R_2
  have fB := box3 B2
  go_wp2_with fail
  simp at fr1 fr2
  have s1 := hk1.size
  simp at s1
  have s2 := hk2.size
  simp at s2
  refine bodyPost_ret (v := .agg #[.int .i64 x0, .slice p1 x1.length m1, .slice p2 x2.length m2]) (by simp [results, Try.results26, go_sem, fR, fB]) rfl ⟨_, I1 ++ (I2), rfl, clauseS_iff.2 ⟨p1, m1, I1, p2, m2, I2, rfl, rfl, h0, ?_, ?_⟩, ?_, ?_, ?_⟩
  · exact (slice int).keeps (L := [w.heap.size + 1 + 1, w.heap.size + 1]) R1 (by repeat (first | exact Keeps.refl _ _ | assumption | apply Keeps.alloc0 | apply Keeps.drew0 | apply Keeps.drewN0 | (refine Keeps.setL ?_ (by simp) _) | (refine Keeps.transL ?_ (by assumption)))) (fun b hb => by have := fr1 b hb; simp; omega)
  · exact (slice int).keeps (L := [w.heap.size + 1 + 1, w.heap.size + 1]) R2 (by repeat (first | exact Keeps.refl _ _ | assumption | apply Keeps.alloc0 | apply Keeps.drew0 | apply Keeps.drewN0 | (refine Keeps.setL ?_ (by simp) _) | (refine Keeps.transL ?_ (by assumption)))) (fun b hb => by have := fr2 b hb; simp; omega)
  · exact nodup_app (n := w1.heap.size) nd1 (nd2) ((slice int).lt R1) (fun b => fun hb => by have := fr2 b hb; omega)
  · exact fun b => fun hb => (List.mem_append.1 hb).elim (fun hb => by have := fr1 b hb; omega) (fun hb => by have := fr2 b hb; omega)
  · exact (by repeat (first | exact Keeps.refl _ _ | assumption | apply Keeps.alloc0 | apply Keeps.drew0 | apply Keeps.drewN0 | (refine Keeps.set0 ?_ (by simp <;> omega) _) | (refine Keeps.trans0 ?_ (by assumption))))
end
end Go.Proofs.Ytknkdgacdeeemaa
