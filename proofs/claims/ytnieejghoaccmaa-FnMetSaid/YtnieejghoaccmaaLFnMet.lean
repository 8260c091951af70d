/- FnMet: whatever the input, the law returns true and changes nothing. No conditions but those that each theorem names. -/
import Derived.Test.YtnieejghoaccmaaTab
import Derived.Test.YtnieejghoaccmaaKG
import Derived.Test.YtnieejghoaccmaaOG
import Derived.Test.YtnieejghoaccmaaD6d
import Derived.Test.YtnieejghoaccmaaM9
import Derived.Test.YtnieejghoaccmaaM2
import Derived.Test.YtnieejghoaccmaaM1
import Derived.Test.YtnieejghoaccmaaMPM
import Derived.Test.YtnieejghoaccmaaChecked
set_option linter.unusedSimpArgs false
set_option linter.unusedVariables false
namespace Go.Proofs.Ytnieejghoaccmaa
open Go.RowKit
open Shp
def ZiM : Nat → List Nat
 | 0 => [0]
 | 1 => [0, 9]
 | 2 => [2]
 | 3 => [3, 4, 5]
 | 4 => [3, 4, 5, 6]
 | 5 => [3, 4, 5, 6, 26]
 | 6 => [2]
 | 7 => [3, 4, 5, 6, 29]
 | 8 => [2]
 | 9 => [3, 4, 5, 6, 7]
 | 10 => [3, 4, 5, 6, 7, 53]
 | 11 => [2]
 | 12 => [2]
 | _ => []
theorem ZdN (args : Array Value) (w : World) : (callFunc 3 args).run Try.prog w = .ok (.enter 3 args) w := Zab Try.func3 (by decide) rfl args w
set_option maxHeartbeats 4000000 in
theorem ZmC (v : Value) (bs : List Int) (hB : HY (bytesB bs)) : Con Try.prog 3 [.ex v 1 (bs.map (GV.int .u8))] (.bool true) := by
 have hB := hB.e
 have h1 := @Zqk (sigP bs (newS bs)).1.1 (sigP bs (newS bs)).1.2 (detA bs (sigP bs (newS bs)).1.1 (sigP bs (newS bs)).1.2 (sigP bs (newS bs)).2).1.1 (detA bs (sigP bs (newS bs)).1.1 (sigP bs (newS bs)).1.2 (sigP bs (newS bs)).2).1.2 (wrdD bs (Zaa (sigP bs (newS bs)).1.1 (sigP bs (newS bs)).1.2) (detA bs (sigP bs (newS bs)).1.1 (sigP bs (newS bs)).1.2 (sigP bs (newS bs)).2).2).1.1 (wrdD bs (Zaa (sigP bs (newS bs)).1.1 (sigP bs (newS bs)).1.2) (detA bs (sigP bs (newS bs)).1.1 (sigP bs (newS bs)).1.2 (sigP bs (newS bs)).2).2).1.2
 have h2 := @Zpe (sigP bs (newS bs)).1.1 (sigP bs (newS bs)).1.2 (detA bs (sigP bs (newS bs)).1.1 (sigP bs (newS bs)).1.2 (sigP bs (newS bs)).2).1.1 (detA bs (sigP bs (newS bs)).1.1 (sigP bs (newS bs)).1.2 (sigP bs (newS bs)).2).1.2 (wrdD bs (Zaa (sigP bs (newS bs)).1.1 (sigP bs (newS bs)).1.2) (detA bs (sigP bs (newS bs)).1.1 (sigP bs (newS bs)).1.2 (sigP bs (newS bs)).2).2).1.1 (wrdD bs (Zaa (sigP bs (newS bs)).1.1 (sigP bs (newS bs)).1.2) (detA bs (sigP bs (newS bs)).1.1 (sigP bs (newS bs)).1.2 (sigP bs (newS bs)).2).2).1.2
 have h3 := ZoQ bs (Zaa (sigP bs (newS bs)).1.1 (sigP bs (newS bs)).1.2) (detA bs (sigP bs (newS bs)).1.1 (sigP bs (newS bs)).1.2 (sigP bs (newS bs)).2).2
 refine gCon ZiM Zac (rs := [.tmp 2]) (sl := [(0, .g (.ex v 1 (bs.map (GV.int .u8))))]) Try.func3 rfl Try.ntmps3 rfl ZdN rfl (by repeat constructor) ?_
 (repeat' (first | ((with_reducible apply gLB.cagg); (. exact RF.mk ⟨rfl, rfl, rfl⟩)) | ((with_reducible apply gLB.cone); (. exact RF.mk ⟨rfl, rfl⟩)) | ((with_reducible apply gLI.cagg); (. exact RF.mk ⟨rfl, rfl, rfl⟩)) | ((with_reducible apply gLI.cone); (. exact RF.mk ⟨rfl, rfl⟩)) | ((with_reducible apply gAF.cbuildA); (. exact RF.mk rfl); (. exact RF.mk ⟨rfl, rfl, rfl, rfl⟩)) | (with_reducible constructor) | exact Z4 | exact ZN | exact ZI | exact ZS | exact ZF | exact ZG | exact ZC | exact ZP | exact ZQ | (with_reducible apply Zay) | (apply ZaB) | (with_reducible apply Zaf) | exact ZU | (with_reducible apply ZaC) | (apply Zaw) | ((with_reducible apply Za0); first | apply Zp7 | apply Zh6 | apply Zmi | apply ZiN | apply Zmp | apply ZeA | apply Zhm | apply Zj9 | apply Zj4) | (with_reducible intro hc; (try simp only [HCs] at hc)) | exact OB_f | exact DEC.mk (by decide) | exact ZM | exact ZT | exact ZK | (with_reducible first | apply gNK | apply ZaH | apply Zal | apply Zaj | apply Zai | apply Zam | apply CK_t | apply CK_f | apply ZaQ | apply Zar | apply ZaF | apply Zau | apply Zah | apply Zag | apply Zak | apply Zav | apply ZaA | apply Zax | apply Zaz | apply Zat | apply Zas | apply ZaR | apply ZaG | apply ZaE | apply ZaP) | apply Zaq Zac | apply Zao Zac rfl | (apply ZaD; exact RF.mk rfl) | exact EQ.mk rfl | exact gSel.cnil _ | apply gSel.ccons | apply gCG.cagg))
 (all_goals (first | ((first | (exfalso; exact Bool.noConfusion (hc.symm.trans (ZkG _))) | (refine ZaY ?_; first | rfl | (simp_all; done))); done)))
theorem law_FnMet (bs : List Int) (hB : bytesB bs) : Con Try.prog 3 [.sl 1 (bs.map (GV.int .u8))] (.bool true) := Con.unex ZdN fun v => ZmC v bs (HY.mk hB)
end Go.Proofs.Ytnieejghoaccmaa
namespace Go.Proofs.Ytnieejghoaccmaa.FnMet
open Go.ChangeShapes Go.WideShapes Go.ChangeAt Go.RowKit
open Shp
set_option linter.unusedVariables false
set_option maxRecDepth 100000 in
theorem lifted (os : Os) (started : os.Started) (H : Type) (enc : TypeId × Value → H) :
  ReturnsInHanded {} Try.checked os 3 .any (Rows.fnMetSpec.pre6 enc Try.prog Try.f3 Rows.fnMetRow.domain false) (Rows.fnMetSpec.post enc Try.prog Try.f3 false true false false) := by
 refine ZoV (C := Try.checked) started Zwh Zvn (by kernel_rfl) Try.func3 rfl (by kernel_rfl) Try.underlying4
  (of_decide_eq_true (by kernel_rfl)) ?_
  (ChangeSpec.witness6 (enc := enc) (C := Try.checked) false ⟨#[], #[.slice none 0 0], []⟩ 8 (by kernel_rfl) (by kernel_rfl) (by kernel_rfl) (by kernel_rfl)) ?_
 ·intro H ds h
  have h' : ds.length = 1 := h
  match ds, h' with
  | [_], _ => rfl
 ·intro W base args ds ps hval0 hA0 hz
  have hval : ∀ (j : Nat) t v, Try.f3.params[j]? = some t → args[j]? = some v → Value.okWide Try.prog W .any base t v := hval0
  have hA : DataW.TrodAll enc Try.prog W 0 (fun _ => true) true Try.f3.params.toList args.toList ds ps := hA0
  rw [Try.params3] at hA hval
  obtain ⟨v0, vs0, d0, ds0, p0, q0, hargs0, rfl, rfl, h0, r0⟩ := trodAll_cons hA
  obtain ⟨hv, rfl, rfl⟩ := trodAll_nil r0
  obtain rfl : args = #[v0] := by cases args; simp_all
  obtain ⟨x0, V0, F0, e0⟩ := (Zqf).arg1 (by rw [Try.underlying22]; trivial) (hval 0 22 v0 rfl rfl) h0 (ZeK hz fun p hp => List.mem_append.2 (.inl hp))
  exact (law_FnMet (x0) V0).law rfl (fun i hi => by
   match i, hi with
   | 0, _ => exact ⟨F0, e0⟩)
theorem over : Rows.fnMetRow.holds Try.pinned (OpenSpec.ofChange Rows.fnMetSpec) :=
 OpenClaim.holds_of_wide 3 Try.f3 rfl rfl rfl rfl rfl rfl rfl ⟨rfl, rfl, rfl, rfl, rfl⟩ rfl rfl rfl rfl rfl (by kernel_rfl) Try.func3 (Zoi Zk8 Zr7 ZpM rfl rfl (by kernel_rfl))
  (of_decide_eq_true (by kernel_rfl)) (by unfold Func.isWrapper; first | (rw [if_pos (by decide +kernel)]; kernel_rfl) | (rw [if_neg (by decide +kernel)]; exact ⟨rfl, rfl⟩))
  (fun os started H enc _ => lifted os started H enc)
theorem proved : Rows.FnMetSaid := over
#print axioms proved
end Go.Proofs.Ytnieejghoaccmaa.FnMet

