/- The walk of the law FnExactSafeIn: it returns true. No conditions. -/
import Derived.Test.YtknkdgacdeeemaaClause
namespace Go.Proofs.Ytknkdgacdeeemaa
open Go.RowKit
open Shp

set_option maxHeartbeats 4000000 in
theorem FnExactSafeIn.walk_FnExactSafeIn (w : World) (F0 : List Nat) (c0 : List Value) (x : ClauseT) (e0 : clauseS.rep w F0 c0 x) :
    Calls Try.prog 7 #[clauseS.val c0] w (Pure w (.bool true)) := by
  obtain ⟨a1, n2, a3, n4, rfl⟩ := clauseS_open e0
  show Calls _ _ #[.agg #[.int .i64 x.kind, .slice a1 x.A.length n2, .slice a3 x.B.length n4]] _ _
  unfold Pure
  obtain ⟨W0, hW0⟩ : ∃ W, W = (w.alloc (.cells #[.int .i64 x.kind, .slice a1 x.A.length n2, .slice a3 x.B.length n4] 34)) := ⟨_, rfl⟩
  have hkW : Keeps [] w W0 := by rw [hW0]; exact (by repeat (first | exact Keeps.refl _ _ | assumption | apply Keeps.alloc0 | apply Keeps.drew0 | apply Keeps.drewN0 | (refine Keeps.set0 ?_ (by simp <;> omega) _) | (refine Keeps.trans0 ?_ (by assumption))))
  have B0 : W0.heap[w.heap.size]? = some (.cells #[.int .i64 x.kind, .slice a1 x.A.length n2, .slice a3 x.B.length n4] 34 (0, 0)) := by rw [hW0]; exact (box_new _ _)
  have hk : Keeps [] W0 W0 := Keeps.refl _ _
  have r5 : clauseS.rep W0 F0 [.int .i64 x.kind, .slice a1 x.A.length n2, .slice a3 x.B.length n4] x := clauseS.keeps0 e0 hkW
  have HW := Lib.hid hW0
  clear hW0
  have f_B0 := box3 (hk.box_ B0 (by simp)); have g_B0 := fun (x : After _) => box3 ((hk.trans x.k).box_ B0 (by simp))
  go_enter Try.func7, Try.ntmps7
  go_wp2_with fail
  rw [← HW.out]
  refine (Clause_sz (clauseS.keeps0 r5 hk) _ (by omega) (by omega)).mono ?_
  rintro e w1 ⟨rfl, hq⟩
  replace hk := hk.trans hq; clear hq; clear f_B0 g_B0; have f_B0 := box3 (hk.box_ B0 (by simp)); have g_B0 := fun (x : After _) => box3 ((hk.trans x.k).box_ B0 (by simp))
  by_cases hs1 : szClause x 1048576 < 0
  · go_wp2_with fail
    go_ret
    exact ⟨rfl, hkW.trans hk⟩
  have sm1 := szClause_small hs1
  go_wp2_with fail
  refine (Clause_to (clauseS.keeps0 r5 hk) sm1.1).mono ?_
  rintro e w6 ⟨cs, F11, rfl, r12, ndF11, frF11, hq⟩
  obtain ⟨a7, n8, a9, n10, rfl⟩ := clauseS_open r12
  rw [clauseS_val]
  have hkn : Keeps [] _ w6 := hk.trans hq
  have r13 := clauseS.keeps0 r5 hkn
  clear r5
  have B14 := hkn.box_ B0 (by simp)
  clear B0 f_B0 g_B0
  replace hkW := hkW.trans hkn
  clear hkn hk
  have hk : Keeps [] w6 w6 := Keeps.refl _ _
  have f_B14 := box3 (hk.box_ B14 (by simp)); have g_B14 := fun (x : After _) => box3 ((hk.trans x.k).box_ B14 (by simp))
  clear hq
  go_wp2_with fail
  refine (specSafeIn_rep (clauseS.keeps0 r12 hk)).mono ?_
  rintro e w1 ⟨rfl, hq⟩
  replace hk := hk.trans hq; clear hq; clear f_B14 g_B14; have f_B14 := box3 (hk.box_ B14 (by simp)); have g_B14 := fun (x : After _) => box3 ((hk.trans x.k).box_ B14 (by simp))
  go_wp2_with fail
  refine (Clause_to (clauseS.keeps0 r13 hk) sm1.1).mono ?_
  rintro e w15 ⟨cs, F20, rfl, r21, ndF20, frF20, hq⟩
  obtain ⟨a16, n17, a18, n19, rfl⟩ := clauseS_open r21
  rw [clauseS_val]
  have hkn : Keeps [] _ w15 := hk.trans hq
  have r22 := clauseS.keeps0 r13 hkn
  clear r13
  have r23 := clauseS.keeps0 r12 hkn
  clear r12
  have B24 := hkn.box_ B14 (by simp)
  clear B14 f_B14 g_B14
  replace hkW := hkW.trans hkn
  clear hkn hk
  have hk : Keeps [] w15 w15 := Keeps.refl _ _
  have f_B24 := box3 (hk.box_ B24 (by simp)); have g_B24 := fun (x : After _) => box3 ((hk.trans x.k).box_ B24 (by simp))
  clear hq
  go_wp2_with fail
  obtain ⟨W25, hW25⟩ : ∃ W, W = w15.alloc (.cells #[.int .i64 x.kind, .slice a16 x.A.length n17, .slice a18 x.B.length n19] 37) := ⟨_, rfl⟩
  rw [← hW25]
  have B26 := box_new w15 (.cells #[.int .i64 x.kind, .slice a16 x.A.length n17, .slice a18 x.B.length n19] 37)
  rw [← hW25] at B26
  have hkn : Keeps [] _ W25 := hk.trans (by rw [hW25]; exact Keeps.alloc _ _ _)
  have r27 := clauseS.keeps0 r22 hkn
  clear r22
  have r28 := clauseS.keeps0 r23 hkn
  clear r23
  have r29 := clauseS.keeps0 r21 hkn
  clear r21
  have B30 := hkn.box_ B24 (by simp)
  clear B24 f_B24 g_B24
  replace hkW := hkW.trans hkn
  clear hkn hk
  have hk : Keeps [] W25 W25 := Keeps.refl _ _
  have f_B30 := box3 (hk.box_ B30 (by simp)); have g_B30 := fun (x : After _) => box3 ((hk.trans x.k).box_ B30 (by simp))
  clear hW25
  clear f_B30 g_B30
  have f_B30 := box3 (hk.box_ B30 (by simp)); have g_B30 := fun (x : After _) => box3 ((hk.trans x.k).box_ B30 (by simp)); have f_B26 := box3 (hk.box_ B26 (by simp)); have g_B26 := fun (x : After _) => box3 ((hk.trans x.k).box_ B26 (by simp))
  refine (implSafeIn_rep (clauseS.keeps0 r29 hk)).mono ?_
  rintro e w1 ⟨rfl, hq⟩
  replace hk := hk.trans hq; clear hq; clear f_B30 g_B30 f_B26 g_B26; have f_B30 := box3 (hk.box_ B30 (by simp)); have g_B30 := fun (x : After _) => box3 ((hk.trans x.k).box_ B30 (by simp)); have f_B26 := box3 (hk.box_ B26 (by simp)); have g_B26 := fun (x : After _) => box3 ((hk.trans x.k).box_ B26 (by simp))
  go_wp2_with fail
  (refine wp_region_script [([0, 1], 2)] [3, 4] (by kernel_rfl) (by kernel_rfl) ?_; intro wd hq; replace hk := hk.trans hq; clear hq; clear f_B30 g_B30 f_B26 g_B26; have f_B30 := box3 (hk.box_ B30 (by simp)); have g_B30 := fun (x : After _) => box3 ((hk.trans x.k).box_ B30 (by simp)); have f_B26 := box3 (hk.box_ B26 (by simp)); have g_B26 := fun (x : After _) => box3 ((hk.trans x.k).box_ B26 (by simp)); unfold wpScript; simp only [pickOps, List.getElem?_cons_zero, List.getElem?_cons_succ])
  ((repeat (refine wpHead_step (fun K hK => ?_); go_simp; (first | (refine hK _ ?_; clear hK K) | (apply Exists.intro; refine ⟨fun xw => ?_, hK _ ?_⟩; (focus (fail)); clear hK K)))); refine wpHead_nil ?_; intro wd hq; replace hk := hk.trans hq; clear hq; clear f_B30 g_B30 f_B26 g_B26; have f_B30 := box3 (hk.box_ B30 (by simp)); have g_B30 := fun (x : After _) => box3 ((hk.trans x.k).box_ B30 (by simp)); have f_B26 := box3 (hk.box_ B26 (by simp)); have g_B26 := fun (x : After _) => box3 ((hk.trans x.k).box_ B26 (by simp)))
  go_wp2_with fail
  refine (Clause_to (clauseS.keeps0 r27 hk) sm1.1).mono ?_
  rintro e w31 ⟨cs, F36, rfl, r37, ndF36, frF36, hq⟩
  obtain ⟨a32, n33, a34, n35, rfl⟩ := clauseS_open r37
  rw [clauseS_val]
  have hq2 := hq
  have hkn : Keeps [] _ w31 := hk.trans hq
  have r38 := clauseS.keeps0 r27 hkn
  clear r27
  have r39 := clauseS.keeps0 r28 hkn
  clear r28
  have r40 := clauseS.keeps0 r29 hkn
  clear r29
  have B41 := hkn.box_ B30 (by simp)
  clear B30 f_B30 g_B30
  have B42 := hkn.box_ B26 (by simp)
  clear B26 f_B26 g_B26
  replace hkW := hkW.trans hkn
  clear hkn hk
  have hk : Keeps [] w31 w31 := Keeps.refl _ _
  have f_B41 := box3 (hk.box_ B41 (by simp)); have g_B41 := fun (x : After _) => box3 ((hk.trans x.k).box_ B41 (by simp)); have f_B42 := box3 (hk.box_ B42 (by simp)); have g_B42 := fun (x : After _) => box3 ((hk.trans x.k).box_ B42 (by simp))
  clear hq
  go_wp2_with fail
  (unfold wpScript; simp only [pickOps, List.getElem?_cons_zero, List.getElem?_cons_succ])
  clear hq2
  ((repeat (refine wpHead_step (fun K hK => ?_); go_simp; (first | (refine hK _ ?_; clear hK K) | (apply Exists.intro; refine ⟨fun xw => ?_, hK _ ?_⟩; (focus ((first | (go_at_call 28; exact Clause_eq (clauseS.keeps0 r40 (hk.trans xw.k)) (clauseS.keeps0 r37 (hk.trans xw.k)))))); clear hK K)))); refine wpHead_nil ?_; intro wd hq; replace hk := hk.trans hq; clear hq; clear f_B41 g_B41 f_B42 g_B42; have f_B41 := box3 (hk.box_ B41 (by simp)); have g_B41 := fun (x : After _) => box3 ((hk.trans x.k).box_ B41 (by simp)); have f_B42 := box3 (hk.box_ B42 (by simp)); have g_B42 := fun (x : After _) => box3 ((hk.trans x.k).box_ B42 (by simp)))
  rw [Clause_eq_refl]
  go_wp2_with fail
  go_ret
  exact ⟨rfl, hkW.trans hk⟩

end Go.Proofs.Ytknkdgacdeeemaa
