/- The walk of the law FnExactLetterAt: it returns true. No conditions. -/
import Derived.Test.YtknkdgacdeeemaaWordApi
namespace Go.Proofs.Ytknkdgacdeeemaa
open Go.RowKit
open Shp

set_option maxHeartbeats 4000000 in
theorem FnExactLetterAt.walk_FnExactLetterAt (w : World) (F0 : List Nat) (c0 : List Value) (x : WordT) (e0 : wordS.rep w F0 c0 x) (F1 : List Nat) (c1 : List Value) (i : Int) (e1 : int.rep w F1 c1 i) :
    Calls Try.prog 10 #[wordS.val c0, int.val c1] w (Pure w (.bool true)) := by
  obtain ⟨a1, n2, a3, n4, rfl⟩ := wordS_open e0
  obtain ⟨hv1, hb1⟩ := int_rep e1
  rw [hv1]
  clear e1 hv1
  show Calls _ _ #[.agg #[.slice a1 x.stem.length n2, .slice a3 x.loop.length n4], .int .i64 i] _ _
  unfold Pure
  obtain ⟨W0, hW0⟩ : ∃ W, W = (w.alloc (.cells #[.slice a1 x.stem.length n2, .slice a3 x.loop.length n4] 46)) := ⟨_, rfl⟩
  have hkW : Keeps [] w W0 := by rw [hW0]; exact (by repeat (first | exact Keeps.refl _ _ | assumption | apply Keeps.alloc0 | apply Keeps.drew0 | apply Keeps.drewN0 | (refine Keeps.set0 ?_ (by simp <;> omega) _) | (refine Keeps.trans0 ?_ (by assumption))))
  have B0 : W0.heap[w.heap.size]? = some (.cells #[.slice a1 x.stem.length n2, .slice a3 x.loop.length n4] 46 (0, 0)) := by rw [hW0]; exact (box_new _ _)
  have hk : Keeps [] W0 W0 := Keeps.refl _ _
  have r5 : wordS.rep W0 F0 [.slice a1 x.stem.length n2, .slice a3 x.loop.length n4] x := wordS.keeps0 e0 hkW
  have HW := Lib.hid hW0
  clear hW0
  have f_B0 := box2 (hk.box_ B0 (by simp)); have g_B0 := fun (x : After _) => box2 ((hk.trans x.k).box_ B0 (by simp))
  go_enter Try.func10, Try.ntmps10
  go_wp2_with fail
  rw [← HW.out]
  refine (Word_sz (wordS.keeps0 r5 hk) _ (by omega) (by omega)).mono ?_
  rintro e w1 ⟨rfl, hq⟩
  replace hk := hk.trans hq; clear hq; clear f_B0 g_B0; have f_B0 := box2 (hk.box_ B0 (by simp)); have g_B0 := fun (x : After _) => box2 ((hk.trans x.k).box_ B0 (by simp))
  by_cases hs1 : szWord x 1048576 < 0
  · go_wp2_with fail
    go_ret
    exact ⟨rfl, hkW.trans hk⟩
  have sm1 := szWord_small hs1
  go_wp2_with fail
  refine (Word_to (wordS.keeps0 r5 hk) sm1.1).mono ?_
  rintro e w6 ⟨cs, F11, rfl, r12, ndF11, frF11, hq⟩
  obtain ⟨a7, n8, a9, n10, rfl⟩ := wordS_open r12
  rw [wordS_val]
  have hkn : Keeps [] _ w6 := hk.trans hq
  have r13 := wordS.keeps0 r5 hkn
  clear r5
  have B14 := hkn.box_ B0 (by simp)
  clear B0 f_B0 g_B0
  replace hkW := hkW.trans hkn
  clear hkn hk
  have hk : Keeps [] w6 w6 := Keeps.refl _ _
  have f_B14 := box2 (hk.box_ B14 (by simp)); have g_B14 := fun (x : After _) => box2 ((hk.trans x.k).box_ B14 (by simp))
  clear hq
  go_wp2_with fail
  refine (specLetterAt_rep (wordS.keeps0 r12 hk) i hb1.2).mono ?_
  rintro e w1 ⟨rfl, hq⟩
  replace hk := hk.trans hq; clear hq; clear f_B14 g_B14; have f_B14 := box2 (hk.box_ B14 (by simp)); have g_B14 := fun (x : After _) => box2 ((hk.trans x.k).box_ B14 (by simp))
  go_wp2_with fail
  refine (Word_to (wordS.keeps0 r13 hk) sm1.1).mono ?_
  rintro e w15 ⟨cs, F20, rfl, r21, ndF20, frF20, hq⟩
  obtain ⟨a16, n17, a18, n19, rfl⟩ := wordS_open r21
  rw [wordS_val]
  have hkn : Keeps [] _ w15 := hk.trans hq
  have r22 := wordS.keeps0 r13 hkn
  clear r13
  have r23 := wordS.keeps0 r12 hkn
  clear r12
  have B24 := hkn.box_ B14 (by simp)
  clear B14 f_B14 g_B14
  replace hkW := hkW.trans hkn
  clear hkn hk
  have hk : Keeps [] w15 w15 := Keeps.refl _ _
  have f_B24 := box2 (hk.box_ B24 (by simp)); have g_B24 := fun (x : After _) => box2 ((hk.trans x.k).box_ B24 (by simp))
  clear hq
  go_wp2_with fail
  obtain ⟨W25, hW25⟩ : ∃ W, W = w15.alloc (.cells #[.slice a16 x.stem.length n17, .slice a18 x.loop.length n19] 49) := ⟨_, rfl⟩
  rw [← hW25]
  have B26 := box_new w15 (.cells #[.slice a16 x.stem.length n17, .slice a18 x.loop.length n19] 49)
  rw [← hW25] at B26
  have hkn : Keeps [] _ W25 := hk.trans (by rw [hW25]; exact Keeps.alloc _ _ _)
  have r27 := wordS.keeps0 r22 hkn
  clear r22
  have r28 := wordS.keeps0 r23 hkn
  clear r23
  have r29 := wordS.keeps0 r21 hkn
  clear r21
  have B30 := hkn.box_ B24 (by simp)
  clear B24 f_B24 g_B24
  replace hkW := hkW.trans hkn
  clear hkn hk
  have hk : Keeps [] W25 W25 := Keeps.refl _ _
  have f_B30 := box2 (hk.box_ B30 (by simp)); have g_B30 := fun (x : After _) => box2 ((hk.trans x.k).box_ B30 (by simp))
  clear hW25
  clear f_B30 g_B30
  have f_B30 := box2 (hk.box_ B30 (by simp)); have g_B30 := fun (x : After _) => box2 ((hk.trans x.k).box_ B30 (by simp)); have f_B26 := box2 (hk.box_ B26 (by simp)); have g_B26 := fun (x : After _) => box2 ((hk.trans x.k).box_ B26 (by simp))
  refine (implLetterAt_rep (wordS.keeps0 r29 hk) i hb1.2).mono ?_
  rintro e w1 ⟨rfl, hq⟩
  replace hk := hk.trans hq; clear hq; clear f_B30 g_B30 f_B26 g_B26; have f_B30 := box2 (hk.box_ B30 (by simp)); have g_B30 := fun (x : After _) => box2 ((hk.trans x.k).box_ B30 (by simp)); have f_B26 := box2 (hk.box_ B26 (by simp)); have g_B26 := fun (x : After _) => box2 ((hk.trans x.k).box_ B26 (by simp))
  go_wp2_with fail
  (refine wp_region_script [([0, 1], 2)] [3, 4] (by kernel_rfl) (by kernel_rfl) ?_; intro wd hq; replace hk := hk.trans hq; clear hq; clear f_B30 g_B30 f_B26 g_B26; have f_B30 := box2 (hk.box_ B30 (by simp)); have g_B30 := fun (x : After _) => box2 ((hk.trans x.k).box_ B30 (by simp)); have f_B26 := box2 (hk.box_ B26 (by simp)); have g_B26 := fun (x : After _) => box2 ((hk.trans x.k).box_ B26 (by simp)); unfold wpScript; simp only [pickOps, List.getElem?_cons_zero, List.getElem?_cons_succ])
  ((repeat (refine wpHead_step (fun K hK => ?_); go_simp; (first | (refine hK _ ?_; clear hK K) | (apply Exists.intro; refine ⟨fun xw => ?_, hK _ ?_⟩; (focus (fail)); clear hK K)))); refine wpHead_nil ?_; intro wd hq; replace hk := hk.trans hq; clear hq; clear f_B30 g_B30 f_B26 g_B26; have f_B30 := box2 (hk.box_ B30 (by simp)); have g_B30 := fun (x : After _) => box2 ((hk.trans x.k).box_ B30 (by simp)); have f_B26 := box2 (hk.box_ B26 (by simp)); have g_B26 := fun (x : After _) => box2 ((hk.trans x.k).box_ B26 (by simp)))
  go_wp2_with fail
  refine (Word_to (wordS.keeps0 r27 hk) sm1.1).mono ?_
  rintro e w31 ⟨cs, F36, rfl, r37, ndF36, frF36, hq⟩
  obtain ⟨a32, n33, a34, n35, rfl⟩ := wordS_open r37
  rw [wordS_val]
  have hq2 := hq
  have hkn : Keeps [] _ w31 := hk.trans hq
  have r38 := wordS.keeps0 r27 hkn
  clear r27
  have r39 := wordS.keeps0 r28 hkn
  clear r28
  have r40 := wordS.keeps0 r29 hkn
  clear r29
  have B41 := hkn.box_ B30 (by simp)
  clear B30 f_B30 g_B30
  have B42 := hkn.box_ B26 (by simp)
  clear B26 f_B26 g_B26
  replace hkW := hkW.trans hkn
  clear hkn hk
  have hk : Keeps [] w31 w31 := Keeps.refl _ _
  have f_B41 := box2 (hk.box_ B41 (by simp)); have g_B41 := fun (x : After _) => box2 ((hk.trans x.k).box_ B41 (by simp)); have f_B42 := box2 (hk.box_ B42 (by simp)); have g_B42 := fun (x : After _) => box2 ((hk.trans x.k).box_ B42 (by simp))
  clear hq
  go_wp2_with fail
  (unfold wpScript; simp only [pickOps, List.getElem?_cons_zero, List.getElem?_cons_succ])
  clear hq2
  ((repeat (refine wpHead_step (fun K hK => ?_); go_simp; (first | (refine hK _ ?_; clear hK K) | (apply Exists.intro; refine ⟨fun xw => ?_, hK _ ?_⟩; (focus ((first | (go_at_call 35; exact Word_eq (wordS.keeps0 r40 (hk.trans xw.k)) (wordS.keeps0 r37 (hk.trans xw.k)))))); clear hK K)))); refine wpHead_nil ?_; intro wd hq; replace hk := hk.trans hq; clear hq; clear f_B41 g_B41 f_B42 g_B42; have f_B41 := box2 (hk.box_ B41 (by simp)); have g_B41 := fun (x : After _) => box2 ((hk.trans x.k).box_ B41 (by simp)); have f_B42 := box2 (hk.box_ B42 (by simp)); have g_B42 := fun (x : After _) => box2 ((hk.trans x.k).box_ B42 (by simp)))
  rw [Word_eq_refl]
  go_wp2_with fail
  go_ret
  exact ⟨rfl, hkW.trans hk⟩

end Go.Proofs.Ytknkdgacdeeemaa
