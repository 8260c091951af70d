/- The walk of the law FnExactClauseOk: it returns true. No conditions. -/
import Derived.Test.YtknkdgacdeeemaaClause
namespace Go.Proofs.Ytknkdgacdeeemaa
open Go.RowKit
open Shp

set_option maxHeartbeats 4000000 in
theorem FnExactClauseOk.walk_FnExactClauseOk (w : World) (F0 : List Nat) (c0 : List Value) (s : SigT) (e0 : sigS.rep w F0 c0 s) (F1 : List Nat) (c1 : List Value) (x : ClauseT) (e1 : clauseS.rep w F1 c1 x) :
    Calls Try.prog 11 #[sigS.val c0, clauseS.val c1] w (Pure w (.bool true)) := by
  obtain ⟨hv0, -, -⟩ := sig_rep e0
  rw [hv0]
  clear e0 hv0
  obtain ⟨si, so⟩ := s
  obtain ⟨a1, n2, a3, n4, rfl⟩ := clauseS_open e1
  show Calls _ _ #[.agg #[.int .i64 si, .int .i64 so], .agg #[.int .i64 x.kind, .slice a1 x.A.length n2, .slice a3 x.B.length n4]] _ _
  unfold Pure
  obtain ⟨W0, hW0⟩ : ∃ W, W = ((w.alloc (.cells #[.int .i64 si, .int .i64 so] 23)).alloc (.cells #[.int .i64 x.kind, .slice a1 x.A.length n2, .slice a3 x.B.length n4] 34)) := ⟨_, rfl⟩
  have hkW : Keeps [] w W0 := by rw [hW0]; exact (by repeat (first | exact Keeps.refl _ _ | assumption | apply Keeps.alloc0 | apply Keeps.drew0 | apply Keeps.drewN0 | (refine Keeps.set0 ?_ (by simp <;> omega) _) | (refine Keeps.trans0 ?_ (by assumption))))
  have B0 : W0.heap[w.heap.size]? = some (.cells #[.int .i64 si, .int .i64 so] 23 (0, 0)) := by rw [hW0]; exact (box_alloc (box_new _ _))
  have B1 : W0.heap[w.heap.size + 1]? = some (.cells #[.int .i64 x.kind, .slice a1 x.A.length n2, .slice a3 x.B.length n4] 34 (0, 0)) := by rw [hW0]; exact (by simpa using box_new (w.alloc _) _)
  have hk : Keeps [] W0 W0 := Keeps.refl _ _
  have r5 : clauseS.rep W0 F1 [.int .i64 x.kind, .slice a1 x.A.length n2, .slice a3 x.B.length n4] x := clauseS.keeps0 e1 hkW
  have HW := Lib.hid hW0
  clear hW0
  have f_B0 := box2 (hk.box_ B0 (by simp)); have g_B0 := fun (x : After _) => box2 ((hk.trans x.k).box_ B0 (by simp)); have f_B1 := box3 (hk.box_ B1 (by simp)); have g_B1 := fun (x : After _) => box3 ((hk.trans x.k).box_ B1 (by simp))
  go_enter Try.func11, Try.ntmps11
  go_wp2_with fail
  rw [← HW.out]
  refine (Clause_sz (clauseS.keeps0 r5 hk) _ (by omega) (by omega)).mono ?_
  rintro e w1 ⟨rfl, hq⟩
  replace hk := hk.trans hq; clear hq; clear f_B0 g_B0 f_B1 g_B1; have f_B0 := box2 (hk.box_ B0 (by simp)); have g_B0 := fun (x : After _) => box2 ((hk.trans x.k).box_ B0 (by simp)); have f_B1 := box3 (hk.box_ B1 (by simp)); have g_B1 := fun (x : After _) => box3 ((hk.trans x.k).box_ B1 (by simp))
  by_cases hs1 : szClause x 1048576 < 0
  · go_wp2_with fail
    go_ret
    exact ⟨rfl, hkW.trans hk⟩
  have sm1 := szClause_small hs1
  go_wp2_with fail
  (refine wp_region_script [([0, 1, 2], 3)] [4, 5] (by kernel_rfl) (by kernel_rfl) ?_; intro wd hq; replace hk := hk.trans hq; clear hq; clear f_B0 g_B0 f_B1 g_B1; have f_B0 := box2 (hk.box_ B0 (by simp)); have g_B0 := fun (x : After _) => box2 ((hk.trans x.k).box_ B0 (by simp)); have f_B1 := box3 (hk.box_ B1 (by simp)); have g_B1 := fun (x : After _) => box3 ((hk.trans x.k).box_ B1 (by simp)); unfold wpScript; simp only [pickOps, List.getElem?_cons_zero, List.getElem?_cons_succ])
  ((repeat (refine wpHead_step (fun K hK => ?_); go_simp; (first | (refine hK _ ?_; clear hK K) | (apply Exists.intro; refine ⟨fun xw => ?_, hK _ ?_⟩; (focus ((first | (go_at_call 16; exact toSig_any ⟨si, so⟩ _)))); clear hK K)))); refine wpHead_nil ?_; intro wd hq; replace hk := hk.trans hq; clear hq; clear f_B0 g_B0 f_B1 g_B1; have f_B0 := box2 (hk.box_ B0 (by simp)); have g_B0 := fun (x : After _) => box2 ((hk.trans x.k).box_ B0 (by simp)); have f_B1 := box3 (hk.box_ B1 (by simp)); have g_B1 := fun (x : After _) => box3 ((hk.trans x.k).box_ B1 (by simp)))
  go_wp2_with fail
  refine (Clause_to (clauseS.keeps0 r5 hk) sm1.1).mono ?_
  rintro e w6 ⟨cs, F11, rfl, r12, ndF11, frF11, hq⟩
  obtain ⟨a7, n8, a9, n10, rfl⟩ := clauseS_open r12
  rw [clauseS_val]
  have hq2 := hq
  have hkn : Keeps [] _ w6 := hk.trans hq
  have r13 := clauseS.keeps0 r5 hkn
  clear r5
  have B14 := hkn.box_ B0 (by simp)
  clear B0 f_B0 g_B0
  have B15 := hkn.box_ B1 (by simp)
  clear B1 f_B1 g_B1
  replace hkW := hkW.trans hkn
  clear hkn hk
  have hk : Keeps [] w6 w6 := Keeps.refl _ _
  have f_B14 := box2 (hk.box_ B14 (by simp)); have g_B14 := fun (x : After _) => box2 ((hk.trans x.k).box_ B14 (by simp)); have f_B15 := box3 (hk.box_ B15 (by simp)); have g_B15 := fun (x : After _) => box3 ((hk.trans x.k).box_ B15 (by simp))
  clear hq
  go_wp2_with fail
  (unfold wpScript; simp only [pickOps, List.getElem?_cons_zero, List.getElem?_cons_succ])
  clear hq2
  ((repeat (refine wpHead_step (fun K hK => ?_); go_simp; (first | (refine hK _ ?_; clear hK K) | (apply Exists.intro; refine ⟨fun xw => ?_, hK _ ?_⟩; (focus ((first | (go_at_call 38; exact specClauseOk_rep (clauseS.keeps0 r12 (hk.trans xw.k)) ⟨si, so⟩)))); clear hK K)))); refine wpHead_nil ?_; intro wd hq; replace hk := hk.trans hq; clear hq; clear f_B14 g_B14 f_B15 g_B15; have f_B14 := box2 (hk.box_ B14 (by simp)); have g_B14 := fun (x : After _) => box2 ((hk.trans x.k).box_ B14 (by simp)); have f_B15 := box3 (hk.box_ B15 (by simp)); have g_B15 := fun (x : After _) => box3 ((hk.trans x.k).box_ B15 (by simp)))
  go_wp2_with fail
  refine (Clause_to (clauseS.keeps0 r13 hk) sm1.1).mono ?_
  rintro e w16 ⟨cs, F21, rfl, r22, ndF21, frF21, hq⟩
  obtain ⟨a17, n18, a19, n20, rfl⟩ := clauseS_open r22
  rw [clauseS_val]
  have hkn : Keeps [] _ w16 := hk.trans hq
  have r23 := clauseS.keeps0 r13 hkn
  clear r13
  have r24 := clauseS.keeps0 r12 hkn
  clear r12
  have B25 := hkn.box_ B14 (by simp)
  clear B14 f_B14 g_B14
  have B26 := hkn.box_ B15 (by simp)
  clear B15 f_B15 g_B15
  replace hkW := hkW.trans hkn
  clear hkn hk
  have hk : Keeps [] w16 w16 := Keeps.refl _ _
  have f_B25 := box2 (hk.box_ B25 (by simp)); have g_B25 := fun (x : After _) => box2 ((hk.trans x.k).box_ B25 (by simp)); have f_B26 := box3 (hk.box_ B26 (by simp)); have g_B26 := fun (x : After _) => box3 ((hk.trans x.k).box_ B26 (by simp))
  clear hq
  go_wp2_with fail
  obtain ⟨W27, hW27⟩ : ∃ W, W = w16.alloc (.cells #[.int .i64 x.kind, .slice a17 x.A.length n18, .slice a19 x.B.length n20] 37) := ⟨_, rfl⟩
  rw [← hW27]
  have B28 := box_new w16 (.cells #[.int .i64 x.kind, .slice a17 x.A.length n18, .slice a19 x.B.length n20] 37)
  rw [← hW27] at B28
  have hkn : Keeps [] _ W27 := hk.trans (by rw [hW27]; exact Keeps.alloc _ _ _)
  have r29 := clauseS.keeps0 r23 hkn
  clear r23
  have r30 := clauseS.keeps0 r24 hkn
  clear r24
  have r31 := clauseS.keeps0 r22 hkn
  clear r22
  have B32 := hkn.box_ B25 (by simp)
  clear B25 f_B25 g_B25
  have B33 := hkn.box_ B26 (by simp)
  clear B26 f_B26 g_B26
  replace hkW := hkW.trans hkn
  clear hkn hk
  have hk : Keeps [] W27 W27 := Keeps.refl _ _
  have f_B32 := box2 (hk.box_ B32 (by simp)); have g_B32 := fun (x : After _) => box2 ((hk.trans x.k).box_ B32 (by simp)); have f_B33 := box3 (hk.box_ B33 (by simp)); have g_B33 := fun (x : After _) => box3 ((hk.trans x.k).box_ B33 (by simp))
  clear hW27
  clear f_B32 g_B32 f_B33 g_B33
  have f_B32 := box2 (hk.box_ B32 (by simp)); have g_B32 := fun (x : After _) => box2 ((hk.trans x.k).box_ B32 (by simp)); have f_B33 := box3 (hk.box_ B33 (by simp)); have g_B33 := fun (x : After _) => box3 ((hk.trans x.k).box_ B33 (by simp)); have f_B28 := box3 (hk.box_ B28 (by simp)); have g_B28 := fun (x : After _) => box3 ((hk.trans x.k).box_ B28 (by simp))
  (refine wp_region_script [] [0, 1, 2, 3, 4] (by kernel_rfl) (by kernel_rfl) ?_; intro wd hq; replace hk := hk.trans hq; clear hq; clear f_B32 g_B32 f_B33 g_B33 f_B28 g_B28; have f_B32 := box2 (hk.box_ B32 (by simp)); have g_B32 := fun (x : After _) => box2 ((hk.trans x.k).box_ B32 (by simp)); have f_B33 := box3 (hk.box_ B33 (by simp)); have g_B33 := fun (x : After _) => box3 ((hk.trans x.k).box_ B33 (by simp)); have f_B28 := box3 (hk.box_ B28 (by simp)); have g_B28 := fun (x : After _) => box3 ((hk.trans x.k).box_ B28 (by simp)); unfold wpScript; simp only [pickOps, List.getElem?_cons_zero, List.getElem?_cons_succ])
  ((repeat (refine wpHead_step (fun K hK => ?_); go_simp; (first | (refine hK _ ?_; clear hK K) | (apply Exists.intro; refine ⟨fun xw => ?_, hK _ ?_⟩; (focus ((first | (go_at_call 16; exact toSig_any ⟨si, so⟩ _) | (go_at_call 39; exact implClauseOk_rep (clauseS.keeps0 r31 (hk.trans xw.k)) ⟨si, so⟩)))); clear hK K)))); refine wpHead_nil ?_; intro wd hq; replace hk := hk.trans hq; clear hq; clear f_B32 g_B32 f_B33 g_B33 f_B28 g_B28; have f_B32 := box2 (hk.box_ B32 (by simp)); have g_B32 := fun (x : After _) => box2 ((hk.trans x.k).box_ B32 (by simp)); have f_B33 := box3 (hk.box_ B33 (by simp)); have g_B33 := fun (x : After _) => box3 ((hk.trans x.k).box_ B33 (by simp)); have f_B28 := box3 (hk.box_ B28 (by simp)); have g_B28 := fun (x : After _) => box3 ((hk.trans x.k).box_ B28 (by simp)))
  go_wp2_with fail
  (refine wp_region_script [([0, 1], 2)] [3, 4] (by kernel_rfl) (by kernel_rfl) ?_; intro wd hq; replace hk := hk.trans hq; clear hq; clear f_B32 g_B32 f_B33 g_B33 f_B28 g_B28; have f_B32 := box2 (hk.box_ B32 (by simp)); have g_B32 := fun (x : After _) => box2 ((hk.trans x.k).box_ B32 (by simp)); have f_B33 := box3 (hk.box_ B33 (by simp)); have g_B33 := fun (x : After _) => box3 ((hk.trans x.k).box_ B33 (by simp)); have f_B28 := box3 (hk.box_ B28 (by simp)); have g_B28 := fun (x : After _) => box3 ((hk.trans x.k).box_ B28 (by simp)); unfold wpScript; simp only [pickOps, List.getElem?_cons_zero, List.getElem?_cons_succ])
  ((repeat (refine wpHead_step (fun K hK => ?_); go_simp; (first | (refine hK _ ?_; clear hK K) | (apply Exists.intro; refine ⟨fun xw => ?_, hK _ ?_⟩; (focus (fail)); clear hK K)))); refine wpHead_nil ?_; intro wd hq; replace hk := hk.trans hq; clear hq; clear f_B32 g_B32 f_B33 g_B33 f_B28 g_B28; have f_B32 := box2 (hk.box_ B32 (by simp)); have g_B32 := fun (x : After _) => box2 ((hk.trans x.k).box_ B32 (by simp)); have f_B33 := box3 (hk.box_ B33 (by simp)); have g_B33 := fun (x : After _) => box3 ((hk.trans x.k).box_ B33 (by simp)); have f_B28 := box3 (hk.box_ B28 (by simp)); have g_B28 := fun (x : After _) => box3 ((hk.trans x.k).box_ B28 (by simp)))
  go_wp2_with fail
  refine (Clause_to (clauseS.keeps0 r29 hk) sm1.1).mono ?_
  rintro e w34 ⟨cs, F39, rfl, r40, ndF39, frF39, hq⟩
  obtain ⟨a35, n36, a37, n38, rfl⟩ := clauseS_open r40
  rw [clauseS_val]
  have hq2 := hq
  have hkn : Keeps [] _ w34 := hk.trans hq
  have r41 := clauseS.keeps0 r29 hkn
  clear r29
  have r42 := clauseS.keeps0 r30 hkn
  clear r30
  have r43 := clauseS.keeps0 r31 hkn
  clear r31
  have B44 := hkn.box_ B32 (by simp)
  clear B32 f_B32 g_B32
  have B45 := hkn.box_ B33 (by simp)
  clear B33 f_B33 g_B33
  have B46 := hkn.box_ B28 (by simp)
  clear B28 f_B28 g_B28
  replace hkW := hkW.trans hkn
  clear hkn hk
  have hk : Keeps [] w34 w34 := Keeps.refl _ _
  have f_B44 := box2 (hk.box_ B44 (by simp)); have g_B44 := fun (x : After _) => box2 ((hk.trans x.k).box_ B44 (by simp)); have f_B45 := box3 (hk.box_ B45 (by simp)); have g_B45 := fun (x : After _) => box3 ((hk.trans x.k).box_ B45 (by simp)); have f_B46 := box3 (hk.box_ B46 (by simp)); have g_B46 := fun (x : After _) => box3 ((hk.trans x.k).box_ B46 (by simp))
  clear hq
  go_wp2_with fail
  (unfold wpScript; simp only [pickOps, List.getElem?_cons_zero, List.getElem?_cons_succ])
  clear hq2
  ((repeat (refine wpHead_step (fun K hK => ?_); go_simp; (first | (refine hK _ ?_; clear hK K) | (apply Exists.intro; refine ⟨fun xw => ?_, hK _ ?_⟩; (focus ((first | (go_at_call 28; exact Clause_eq (clauseS.keeps0 r43 (hk.trans xw.k)) (clauseS.keeps0 r40 (hk.trans xw.k)))))); clear hK K)))); refine wpHead_nil ?_; intro wd hq; replace hk := hk.trans hq; clear hq; clear f_B44 g_B44 f_B45 g_B45 f_B46 g_B46; have f_B44 := box2 (hk.box_ B44 (by simp)); have g_B44 := fun (x : After _) => box2 ((hk.trans x.k).box_ B44 (by simp)); have f_B45 := box3 (hk.box_ B45 (by simp)); have g_B45 := fun (x : After _) => box3 ((hk.trans x.k).box_ B45 (by simp)); have f_B46 := box3 (hk.box_ B46 (by simp)); have g_B46 := fun (x : After _) => box3 ((hk.trans x.k).box_ B46 (by simp)))
  rw [Clause_eq_refl]
  go_wp2_with fail
  go_ret
  exact ⟨rfl, hkW.trans hk⟩

end Go.Proofs.Ytknkdgacdeeemaa
