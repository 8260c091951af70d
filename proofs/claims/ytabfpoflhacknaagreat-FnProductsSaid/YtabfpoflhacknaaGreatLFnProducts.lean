/- FnProducts: the statement. No conditions but those that each theorem names. -/
import Derived.Test.YtabfpoflhacknaaGreatTab
import Derived.Test.YtabfpoflhacknaaGreatKG
import Derived.Test.YtabfpoflhacknaaGreatOG
import Derived.Test.YtabfpoflhacknaaGreatD5
import Derived.Test.YtabfpoflhacknaaGreatMP
import Derived.Test.YtabfpoflhacknaaGreatMA
import Derived.Test.YtabfpoflhacknaaGreatAP
import Derived.Test.YtabfpoflhacknaaGreatQS
import Derived.Test.YtabfpoflhacknaaGreatM2
import Derived.Test.YtabfpoflhacknaaGreatChecked
set_option linter.unusedSimpArgs false
set_option linter.unusedVariables false
namespace Go.Proofs.YtabfpoflhacknaaGreat
open Go.RowKit
open Shp
theorem Zew {p : Prop} (h : p := by first | exact ZO | (first | omega | (have q := (ZfV p6).2.2.1; omega) | (have q := Zkj p6; omega))) : p := h
def ZgK : Nat → List Nat
 | 0 => [0]
 | 1 => [0, 13]
 | 2 => [2]
 | 3 => [3]
 | 4 => [3, 4]
 | 5 => [3, 4, 5]
 | 6 => [3, 4, 5, 6, 7]
 | 7 => [3, 4, 5, 6, 34]
 | 8 => [2]
 | 9 => [3, 4, 5, 6, 8]
 | 10 => [3, 4, 5, 6, 8, 9]
 | 11 => [3, 4, 5, 6, 8, 9, 39]
 | 12 => [3, 4, 5, 6, 8, 9]
 | 13 => [3, 4, 5, 6, 8, 9, 10]
 | 14 => [3, 4, 5, 6, 8, 9, 10, 11]
 | 15 => [3, 4, 5, 6, 8, 9, 69]
 | 16 => [2]
 | 17 => [2]
 | _ => []
theorem ZcP (args : Array Value) (w : World) : (callFunc 4 args).run Tryz.prog w = .ok (.enter 4 args) w := Zab Tryz.func4 (by decide) rfl args w
set_option maxHeartbeats 16000000 in
theorem Zjm (v : Value) (bs : List Int) (hB : HY (bytesB bs)) : Con Tryz.prog 4 [.ex v 1 (bs.map (GV.int .u8))] (.bool true) := by
 have hB := hB.e
 have hk := Zwy bs (m := 3) (by omega) (Zb0 bs 610)
 have hL : Zaa 1 1 = 4 := by decide
 have hcl := Zot bs (m := 3) (by omega) (Zb0 bs 610)
 obtain ⟨p1, p2, p3, p4, p5⟩ := ZsM hk (by rw [hL]; decide)
 rw [hL] at p3
 have p6 := Zl0 hk (by rw [hL]; decide)
 refine gCon ZgK Zad (rs := [.tmp 2]) (sl := [(0, .g (.ex v 1 (bs.map (GV.int .u8))))]) Tryz.func4 rfl Tryz.ntmps4 rfl ZcP rfl (by repeat constructor) ?_
 (repeat' (first | ((with_reducible apply gAF.cnew (f := 9))) | ((with_reducible apply gAF.ccur (f := 10))) | ((with_reducible apply gAF.ccur (f := 15))) | ((with_reducible apply ZmN); first | apply Znl | apply Zj5) | ((with_reducible apply ZxJ); first | apply Zqa) | ((with_reducible apply gLB.cagg); (. exact RF.mk ⟨rfl, rfl, rfl⟩)) | ((with_reducible apply gLB.cone); (. exact RF.mk ⟨rfl, rfl⟩)) | (with_reducible constructor) | exact Z4 | exact NU.mk Zew | exact ZS | exact ZF | exact ZC | ((with_reducible apply ZaA); first | apply Zs4 | apply Zmf | apply Znj | apply Zj9 | apply Zi3 | apply Zm7 | apply Zml | apply Zmr) | (with_reducible intro hc; (try simp only [HCs] at hc)) | exact OB_f | exact ZK | (with_reducible first | apply gNK | apply Zam | apply Zaf | apply Zaq | apply ZaC | apply Zai | apply CK_t | apply ZaR | apply Zar | apply Zas | apply Zay | apply Zap | apply Zaw | apply Za3 | apply Zax | apply Za9 | apply Zav) | apply Zah Zad | apply ZaQ Zad rfl | (apply ZaF; exact RF.mk rfl) | (refine Zak (id := 0) (ι := Nat × (Nat × Int)) (fun ⟨k, t⟩ => ⟨[(3, .ptr 0 0), (4, .ptr 1 0), (5, .own 2 0 (clsD bs 3 (Zb0 bs 610)).1.length), (6, .ptr 3 0), (8, .ptr 4 0), (9, .g (.i k))], [(0, .box [.g (.ex v 1 (bs.map (GV.int .u8))), .g (.int .i64 ((t).1 : Int)), .g (.int .u64 (t).2)]), (1, .box [.g (.i 1), .g (.i 1)]), (2, .arr 3 true ((clsD bs 3 (Zb0 bs 610)).1.map GV.clauseP)), (3, .box [.own 5 0 (ZaX 1 1 (clsD bs 3 (Zb0 bs 610)).1).1.1.length, .own 6 0 (ZaX 1 1 (clsD bs 3 (Zb0 bs 610)).1).1.2.length]), (4, .box [.own 7 0 (ZbB 1 1 (ZaX 1 1 (clsD bs 3 (Zb0 bs 610)).1).1.1 (ZaX 1 1 (clsD bs 3 (Zb0 bs 610)).1).1.2).1.length, .own 8 0 (ZbB 1 1 (ZaX 1 1 (clsD bs 3 (Zb0 bs 610)).1).1.1 (ZaX 1 1 (clsD bs 3 (Zb0 bs 610)).1).1.2).2.length]), (5, .arr 1 true ((ZaX 1 1 (clsD bs 3 (Zb0 bs 610)).1).1.1.map GV.ints)), (6, .arr 2 true ((ZaX 1 1 (clsD bs 3 (Zb0 bs 610)).1).1.2.map GV.pairP)), (7, .arr 1 true ((ZbB 1 1 (ZaX 1 1 (clsD bs 3 (Zb0 bs 610)).1).1.1 (ZaX 1 1 (clsD bs 3 (Zb0 bs 610)).1).1.2).1.map GV.ints)), (8, .arr 2 true ((ZbB 1 1 (ZaX 1 1 (clsD bs 3 (Zb0 bs 610)).1).1.1 (ZaX 1 1 (clsD bs 3 (Zb0 bs 610)).1).1.2).2.map GV.pairP))]⟩) (fun ⟨k, t⟩ => (k ≤ 4)) (fun ⟨k, t⟩ => 4 - k) (0, (clsD bs 3 (Zb0 bs 610)).2) ?_ ?_ ?_; (. (apply gLX9 <;> (repeat' (first | (with_reducible constructor) | exact Z5 | exact RF.mk (by decide) | (with_reducible apply Zae) | exact EQ.mk Zew)))); (. (omega)); (rintro ⟨k, t⟩ h1; have hw := Ztm (bs := bs) (n := 4) (by omega) t; have hwl := Zmk bs 4 t; obtain ⟨q1, q2⟩ := p3 _ _ hw; (show TX _ _ _ _ _ [(3, .ptr 0 0), (4, .ptr 1 0), (5, .own 2 0 (clsD bs 3 (Zb0 bs 610)).1.length), (6, .ptr 3 0), (8, .ptr 4 0), (9, .g (.i k))] [(0, .box [.g (.ex v 1 (bs.map (GV.int .u8))), .g (.int .i64 ((t).1 : Int)), .g (.int .u64 (t).2)]), (1, .box [.g (.i 1), .g (.i 1)]), (2, .arr 3 true ((clsD bs 3 (Zb0 bs 610)).1.map GV.clauseP)), (3, .box [.own 5 0 (ZaX 1 1 (clsD bs 3 (Zb0 bs 610)).1).1.1.length, .own 6 0 (ZaX 1 1 (clsD bs 3 (Zb0 bs 610)).1).1.2.length]), (4, .box [.own 7 0 (ZbB 1 1 (ZaX 1 1 (clsD bs 3 (Zb0 bs 610)).1).1.1 (ZaX 1 1 (clsD bs 3 (Zb0 bs 610)).1).1.2).1.length, .own 8 0 (ZbB 1 1 (ZaX 1 1 (clsD bs 3 (Zb0 bs 610)).1).1.1 (ZaX 1 1 (clsD bs 3 (Zb0 bs 610)).1).1.2).2.length]), (5, .arr 1 true ((ZaX 1 1 (clsD bs 3 (Zb0 bs 610)).1).1.1.map GV.ints)), (6, .arr 2 true ((ZaX 1 1 (clsD bs 3 (Zb0 bs 610)).1).1.2.map GV.pairP)), (7, .arr 1 true ((ZbB 1 1 (ZaX 1 1 (clsD bs 3 (Zb0 bs 610)).1).1.1 (ZaX 1 1 (clsD bs 3 (Zb0 bs 610)).1).1.2).1.map GV.ints)), (8, .arr 2 true ((ZbB 1 1 (ZaX 1 1 (clsD bs 3 (Zb0 bs 610)).1).1.1 (ZaX 1 1 (clsD bs 3 (Zb0 bs 610)).1).1.2).2.map GV.pairP))] _))) | apply gSel.ccons))
 (all_goals (first | (exfalso; simp_all; done) | (refine ZaJ (k + 1, (Zjt bs 4 t).2) ?_ ?_ ?_; (· (apply gLX9 <;> (repeat' (first | (with_reducible constructor) | exact Z5 | exact RF.mk (by decide) | (with_reducible apply Zae) | exact EQ.mk Zew)))); (· (omega)); (· exact ZW)) | (((refine Zao ?_; first | rfl | (simp_all; done))); done)))
theorem law_FnProducts (bs : List Int) (hB : bytesB bs) : Con Tryz.prog 4 [.sl 1 (bs.map (GV.int .u8))] (.bool true) := Con.unex ZcP fun v => Zjm v bs (HY.mk hB)
end Go.Proofs.YtabfpoflhacknaaGreat

namespace Go.Proofs.YtabfpoflhacknaaGreat
open Go.RowKit
open Shp
end Go.Proofs.YtabfpoflhacknaaGreat
namespace Go.Proofs.YtabfpoflhacknaaGreat.FnProducts
open Go.ChangeShapes Go.WideShapes Go.ChangeAt Go.RowKit
open Shp
set_option linter.unusedVariables false
set_option maxRecDepth 100000 in
theorem lifted (os : Os) (started : os.Started) (H : Type) (enc : TypeId × Value → H) :
  ReturnsInHanded {} Tryz.checked os 4 .any (Rows.fnProductsSpec.pre6 enc Tryz.prog Tryz.f4 Rows.fnProductsRow.domain false) (Rows.fnProductsSpec.post enc Tryz.prog Tryz.f4 false true false false) := by
 refine ZsP (C := Tryz.checked) started ZBr ZzB (by kernel_rfl) Tryz.func4 rfl (by kernel_rfl) Tryz.underlying4
  (of_decide_eq_true (by kernel_rfl)) ?_
  (ChangeSpec.witness6 (enc := enc) (C := Tryz.checked) false ⟨#[], #[.slice none 0 0], []⟩ 8 (by kernel_rfl) (by kernel_rfl) (by kernel_rfl) (by kernel_rfl)) ?_
 ·intro H ds h
  have h' : ds.length = 1 := h
  match ds, h' with
  | [_], _ => rfl
 ·intro W base args ds ps hval0 hA0 hz
  have hval : ∀ (j : Nat) t v, Tryz.f4.params[j]? = some t → args[j]? = some v → Value.okWide Tryz.prog W .any base t v := hval0
  have hA : DataW.TrodAll enc Tryz.prog W 0 (fun _ => true) true Tryz.f4.params.toList args.toList ds ps := hA0
  rw [Tryz.params4] at hA hval
  obtain ⟨v0, vs0, d0, ds0, p0, q0, hargs0, rfl, rfl, h0, r0⟩ := trodAll_cons hA
  obtain ⟨hv, rfl, rfl⟩ := trodAll_nil r0
  obtain rfl : args = #[v0] := by cases args; simp_all
  obtain ⟨x0, V0, F0, e0⟩ := (Zr7).arg1 (by rw [Tryz.underlying22]; trivial) (hval 0 22 v0 rfl rfl) h0 (ZfU hz fun p hp => List.mem_append.2 (.inl hp))
  exact (law_FnProducts (x0) V0).law rfl (fun i hi => by
   match i, hi with
   | 0, _ => exact ⟨F0, e0⟩)
theorem over : Rows.fnProductsRow.holds Tryz.pinned (OpenSpec.ofChange Rows.fnProductsSpec) :=
 OpenClaim.holds_of_wide 4 Tryz.f4 rfl rfl rfl rfl rfl rfl rfl ⟨rfl, rfl, rfl, rfl, rfl⟩ rfl rfl rfl rfl rfl (by kernel_rfl) Tryz.func4 (ZrL Znt Zwj Ztw rfl rfl (by kernel_rfl))
  (of_decide_eq_true (by kernel_rfl)) (by unfold Func.isWrapper; first | (rw [if_pos (by decide +kernel)]; kernel_rfl) | (rw [if_neg (by decide +kernel)]; exact ⟨rfl, rfl⟩))
  (fun os started H enc _ => lifted os started H enc)
theorem proved : Rows.FnProductsSaid := over
#print axioms proved
end Go.Proofs.YtabfpoflhacknaaGreat.FnProducts

