/- FnMonitors: whatever the input, the law returns true and changes nothing. No conditions but those that each theorem names. -/
import Derived.Test.YtbjonekgeidoiaaTab
import Derived.Test.YtbjonekgeidoiaaKG
import Derived.Test.YtbjonekgeidoiaaOG
import Derived.Test.YtbjonekgeidoiaaD2
import Derived.Test.YtbjonekgeidoiaaM7
import Derived.Test.YtbjonekgeidoiaaMA
import Derived.Test.YtbjonekgeidoiaaMX
import Derived.Test.YtbjonekgeidoiaaChecked
set_option linter.unusedSimpArgs false
set_option linter.unusedVariables false
namespace Go.Proofs.Ytbjonekgeidoiaa
open Go.RowKit
open Shp

def lv_lawx_FnMonitors : Nat → List Nat
  | 0 => [0]
  | 1 => [0, 10]
  | 2 => [2]
  | 3 => [3]
  | 4 => [3, 4]
  | 5 => [3, 4, 5]
  | 6 => [3, 4, 5, 15]
  | 7 => [3, 4, 5]
  | 8 => [3, 4, 5, 6]
  | 9 => [3, 4, 5, 6, 7]
  | 10 => [3, 4, 5, 6, 7, 8]
  | 11 => [3, 4, 5, 50]
  | 12 => [2]
  | 13 => [2]
  | _ => []
theorem enter_lawx_FnMonitors (args : Array Value) (w : World) : (callFunc 10 args).run Try.prog w = .ok (.enter 10 args) w := callFunc_enter Try.func10 (by decide) rfl args w
set_option maxHeartbeats 4000000 in
theorem lawx_FnMonitors (v : Value) (bs : List Int) (hB : HY (bytesB bs)) : Con Try.prog 10 [.ex v 1 (bs.map (GV.int .u8))] (.bool true) := by
  have hB := hB.e
  refine gCon lv_lawx_FnMonitors tab_ok (rs := [.tmp 2]) (sl := [(0, .g (.ex v 1 (bs.map (GV.int .u8))))]) Try.func10 rfl Try.ntmps10 rfl enter_lawx_FnMonitors rfl (by repeat constructor) ?_
  (repeat' (first | ((with_reducible apply gAF.cnew (f := 51))) | ((with_reducible apply gAF.ccur (f := 52))) | ((with_reducible apply gAF.ccur (f := 53))) | ((with_reducible apply BOX_of); first | apply laws_w5Clause | apply laws_w5Word) | ((with_reducible apply NEW_of); first | apply laws_roll) | ((with_reducible apply gLB.cagg); (. exact RF.mk ⟨rfl, rfl, rfl⟩)) | ((with_reducible apply gLB.cone); (. exact RF.mk ⟨rfl, rfl⟩)) | ((with_reducible apply gLI.cagg); (. exact RF.mk ⟨rfl, rfl, rfl⟩)) | ((with_reducible apply gLI.cone); (. exact RF.mk ⟨rfl, rfl⟩)) | ((with_reducible apply gAF.cbuildA); (. exact RF.mk rfl); (. exact RF.mk ⟨rfl, rfl, rfl, rfl⟩)) | (with_reducible constructor) | exact NE.mk rfl | exact RF.mk rfl | exact RF.mk ⟨rfl, rfl⟩ | exact RF.mk ⟨rfl, rfl, rfl⟩ | exact NU.mk (by first | omega | (simp only [LNs]; omega)) | ((with_reducible apply NID_mk); (try simp only [Nat.reduceAdd, Nat.reduceMul]); exact rfl) | ((with_reducible apply SLT_mk); (. rfl); (. rfl); (. rfl); (. rfl)) | ((with_reducible apply FO_mk); (. rfl); (. rfl); (. rfl); (. rfl); (. rfl)) | ((with_reducible apply FO1_mk); (. rfl); (. rfl); (. rfl); (. rfl); (. rfl)) | ((with_reducible apply CUT_all); (. with_reducible first | exact LEN_map _ _ | exact LEN_nil | exact LEN_1 _ | exact LEN_2 _ _ | exact LEN_any _); (. first | rfl | omega); (. first | rfl | omega)) | ((with_reducible apply CUT_mapT); (. first | rfl | omega); (. exact NU.mk (by first | omega | (simp only [LNs]; omega)))) | ((with_reducible apply CUT_mapD); (. first | rfl | omega)) | (with_reducible apply CUT_map) | (apply CUT_any) | (with_reducible apply CUG_mapT) | ((with_reducible apply CUG_mapD); (. exact NU.mk (by first | omega | (simp only [LNs]; omega))); (. rfl)) | (with_reducible apply CUG_map) | (apply CUG_any) | ((with_reducible apply CON_of); first | apply laws_big | apply spec_HoldsOn | apply impl_MonitorOf | apply impl_DetOk | apply impl_TakesIn | apply spec_TakesIn) | (with_reducible intro hc; (try simp only [HCs] at hc)) | exact OB_f | exact DEC.mk (by decide) | ((with_reducible apply MZ_one); (. rfl); (. rfl); (. rfl)) | ((with_reducible apply MZ_st); (. rfl); (. rfl); (. rfl); (. rfl); (. rfl)) | ((with_reducible apply OB_t); kernel_rfl) | (with_reducible first | apply gNK | apply TX_seq | apply QA_and_n | apply QA_and_e | apply QA_and_r | apply gTX_cond | apply CK_t | apply CK_f | apply CK_if | apply TX_skip | apply TX_ret | apply TX_exit | apply TX_label | apply QA_in_eq | apply QA_in_ne | apply QA_in_n | apply QA_in_r | apply QA_lp_e | apply QA_lp_r | apply QA_ct_e | apply QA_ct_r | apply QA_nr | apply gEND_1 | apply gEND_N | apply END_0) | apply gTX_rgW tab_ok | apply gTX_rgD tab_ok rfl | (apply TX_blk; exact RF.mk rfl) | exact EQ.mk rfl | exact HY.mk (by assumption) | (refine TX_loop (id := 0) (ι := Nat × (Nat × Int)) (fun ⟨k, t⟩ => ⟨[(3, .ptr 0 0), (4, .ptr 1 0), (5, .g (.i k))], [(0, .box [.g (.ex v 1 (bs.map (GV.int .u8))), .g (.int .i64 ((t).1 : Int)), .g (.int .u64 (t).2)]), (1, .box [.g (.i 1), .g (.i 1)])]⟩) (fun ⟨k, t⟩ => (k ≤ 4)) (fun ⟨k, t⟩ => 4 - k) (0, rollS bs 609) ?_ ?_ ?_; (. ((first | apply gLX0 | apply gLX1 | apply gLX2 | apply gLX3 | apply gLX4 | apply gLX5 | apply gLX6 | apply gLX7 | apply gLX8 | apply gLX9 | apply gLX10) <;> (repeat' (first | (with_reducible constructor) | exact NE.mk rfl | exact RF.mk rfl | exact RF.mk ⟨rfl, rfl⟩ | exact RF.mk ⟨rfl, rfl, rfl⟩ | exact EQ.mk rfl | exact RF.mk (by decide) | (with_reducible apply EQ_int) | exact EQ.mk (by first | omega | (simp only [LNs]; omega)))))); (. (omega)); (rintro ⟨k, t⟩ h1; have hk := clD_ok bs t; have hkl := clD_len bs t; have hw := wordD_ok (bs := bs) (n := 4) (by omega) (clD bs t).2; have hwl := wordD_len bs 4 (clD bs t).2; obtain ⟨md, mt⟩ := mon_law hk hw; (show TX _ _ _ _ _ [(3, .ptr 0 0), (4, .ptr 1 0), (5, .g (.i k))] [(0, .box [.g (.ex v 1 (bs.map (GV.int .u8))), .g (.int .i64 ((t).1 : Int)), .g (.int .u64 (t).2)]), (1, .box [.g (.i 1), .g (.i 1)])] _))) | exact gSel.cnil _ | apply gSel.ccons | apply gCG.cagg))
  (all_goals (first | (exfalso; simp_all; done) | (refine QA_lp (k + 1, (wordD bs 4 (clD bs t).2).2) ?_ ?_ ?_; (· ((first | apply gLX0 | apply gLX1 | apply gLX2 | apply gLX3 | apply gLX4 | apply gLX5 | apply gLX6 | apply gLX7 | apply gLX8 | apply gLX9 | apply gLX10) <;> (repeat' (first | (with_reducible constructor) | exact NE.mk rfl | exact RF.mk rfl | exact RF.mk ⟨rfl, rfl⟩ | exact RF.mk ⟨rfl, rfl, rfl⟩ | exact EQ.mk rfl | exact RF.mk (by decide) | (with_reducible apply EQ_int) | exact EQ.mk (by first | omega | (simp only [LNs]; omega)))))); (· (omega)); (· (((try dsimp only); omega)))) | (((refine EQ_bool ?_; first | rfl | (simp_all; done))); done)))

theorem law_FnMonitors (bs : List Int) (hB : bytesB bs) : Con Try.prog 10 [.sl 1 (bs.map (GV.int .u8))] (.bool true) := Con.unex enter_lawx_FnMonitors fun v => lawx_FnMonitors v bs (HY.mk hB)

end Go.Proofs.Ytbjonekgeidoiaa
namespace Go.Proofs.Ytbjonekgeidoiaa.FnMonitors
open Go.ChangeShapes Go.WideShapes Go.ChangeAt Go.RowKit
open Shp
set_option linter.unusedVariables false

set_option maxRecDepth 100000 in
theorem lifted (os : Os) (started : os.Started) (H : Type) (enc : TypeId × Value → H) :
    ReturnsInHanded {} Try.checked os 10 .any (Rows.fnMonitorsSpec.pre6 enc Try.prog Try.f10 Rows.fnMonitorsRow.domain false) (Rows.fnMonitorsSpec.post enc Try.prog Try.f10 false true false false) := by
  refine law_lift (C := Try.checked) started isOwn isLaid (by kernel_rfl) Try.func10 rfl (by kernel_rfl) Try.underlying4
    (of_decide_eq_true (by kernel_rfl)) ?_
    (ChangeSpec.witness6 (enc := enc) (C := Try.checked) false ⟨#[], #[.slice none 0 0], []⟩ 8 (by kernel_rfl) (by kernel_rfl) (by kernel_rfl) (by kernel_rfl)) ?_
  · intro H ds h
    have h' : ds.length = 1 := h
    match ds, h' with
    | [_], _ => rfl
  · intro W base args ds ps hval0 hA0 hz
    have hval : ∀ (j : Nat) t v, Try.f10.params[j]? = some t → args[j]? = some v → Value.okWide Try.prog W .any base t v := hval0
    have hA : DataW.TrodAll enc Try.prog W 0 (fun _ => true) true Try.f10.params.toList args.toList ds ps := hA0
    rw [Try.params10] at hA hval
    obtain ⟨v0, vs0, d0, ds0, p0, q0, hargs0, rfl, rfl, h0, r0⟩ := trodAll_cons hA
    obtain ⟨hv, rfl, rfl⟩ := trodAll_nil r0
    obtain rfl : args = #[v0] := by cases args; simp_all
    obtain ⟨x0, V0, F0, e0⟩ := (og_Bytes).arg1 (by rw [Try.underlying76]; trivial) (hval 0 76 v0 rfl rfl) h0 (noneFrozen_sub hz fun p hp => List.mem_append.2 (.inl hp))
    exact (law_FnMonitors (x0) V0).law rfl (fun i hi => by
      match i, hi with
      | 0, _ => exact ⟨F0, e0⟩)

theorem over : Rows.fnMonitorsRow.holds Try.pinned (OpenSpec.ofChange Rows.fnMonitorsSpec) :=
  OpenClaim.holds_of_wide 10 Try.f10 rfl rfl rfl rfl rfl rfl rfl ⟨rfl, rfl, rfl, rfl, rfl⟩ rfl rfl rfl rfl rfl (by kernel_rfl) Try.func10 (joined_of mayEnter_ok make_ok lifts_ok rfl rfl (by kernel_rfl))
    (of_decide_eq_true (by kernel_rfl)) (by unfold Func.isWrapper; first | (rw [if_pos (by decide +kernel)]; kernel_rfl) | (rw [if_neg (by decide +kernel)]; exact ⟨rfl, rfl⟩))
    (fun os started H enc _ => lifted os started H enc)

/-- The statement. -/
theorem proved : Rows.FnMonitorsSaid := over
#print axioms proved
end Go.Proofs.Ytbjonekgeidoiaa.FnMonitors

