/- Contracts: predecessors of vertices. No conditions but those that each theorem names. -/
import Derived.Test.YtjjidamlmebaaaaGreatTab
import Derived.Test.YtjjidamlmebaaaaGreatKG
import Derived.Test.YtjjidamlmebaaaaGreatQ2
import Derived.Test.YtjjidamlmebaaaaGreatZQ
import Derived.Test.YtjjidamlmebaaaaGreatVX
import Derived.Test.YtjjidamlmebaaaaGreatChecked
set_option linter.unusedSimpArgs false
set_option linter.unusedVariables false
namespace Go.Proofs.YtjjidamlmebaaaaGreat
open Go.RowKit
open Shp
theorem QQ31 {p : Prop} (h : p := by ((first | exact EQ.mk rfl | (refine EQ.mk ?_; simp [ZaK, Za0]; done) | (refine EQ.mk ?_; omega) | (refine Zap (EQ.mk ?_); first | rfl | exact (ZjH (by omega)).symm | (rw [List.take_of_length_le (by omega)]; rfl) | (simp only [ZbL]; congr 1; omega) | (unfold ZbL; simp; done) | (rw [List.take_of_length_le (by omega)]; simp only [ZbL]; done))); done)) : p := h
theorem QQ30 {p : Prop} (h : p := by first | exact ZO | (first | omega | (have q := ha.rg v (by omega) _ (ZaE (show k < (nth nx v).length by omega)); first | omega | (rw [Za0, ZaK]; omega) | (rw [ZhB, Za0, ZaK]; omega) | (have q2 := ZfE ha (k := k) (show v < n by omega) (show (nth (nth nx v) k).toNat < n by omega); omega)) | (simp only [List.length_map, Za0, ZaK]; omega))) : p := h
def ZhR : Nat → List Nat
 | 0 => [1]
 | 1 => [1, 3]
 | 2 => [3, 13, 14, 15]
 | 3 => [3, 13, 14, 15, 16]
 | 4 => [3, 4, 5, 13, 14, 15]
 | 5 => [3, 4, 13, 14, 15, 20, 21, 22]
 | 6 => [3, 4, 13, 14, 15, 20, 21, 22, 23]
 | 7 => [3, 4, 7, 13, 14, 15, 20, 21, 22]
 | 8 => [3, 4, 13, 14, 15, 20, 21, 22]
 | 9 => [3, 4, 13, 14, 15, 20, 21, 22]
 | 10 => [3, 13, 14, 15]
 | 11 => [2]
 | _ => []
theorem Zf9 (args : Array Value) (w : World) : (callFunc 145 args).run Tryz.prog w = .ok (.enter 145 args) w := Zaa Tryz.func145 (by decide) rfl args w
set_option maxHeartbeats 1000000 in
theorem Zlm (n : Nat) (o : List Int) (nx : List (List Int)) (ha : HY (ARd n nx)) (hn : NU (o.length = n ∧ 1 ≤ n ∧ n ≤ 100000)) : Con Tryz.prog 145 [.arena o nx] (.rows (ZbL nx n n)) := by
 have ha := ha.e
 have hn := hn.e
 have hnl := ha.ln
 refine Zob ZhR Zab (rs := [.tmp 2]) Tryz.func145 rfl Tryz.ntmps145 rfl Zf9 rfl ?_
 intro N_ va_ vn_ hva_ hvn_
 (repeat' (first | ((with_reducible apply ZpN 8); apply ZmA (rid := 8) Zab 1 (nth (nth nx v) k).toNat 36768) | ((with_reducible apply gSepS.ckeep); (. first | exact gSepV.cown _ _ _ | exact gSepV.cptr _ _ | exact gSepV.cint _ _ | exact gSepV.cbool _ | exact gSepV.cnils _ | exact gSepV.ceptr _ _ _ | exact gSepV.craw _ _ | exact gSepV.cbd _ _ | exact gSepV.cex (HY.mk (by assumption)) | exact gSepV.cexi (HY.mk (by assumption)) | exact gSepV.cexb (HY.mk (by assumption)) | exact gSepV.cundef | exact gSepV.cnone | exact gSepV.cstr _)) | (with_reducible exact gSepS.cnil) | (with_reducible first | apply gSepH.cself | apply gSepH.ccons) | ((with_reducible apply gAF.cappR Zab); (. exact RF.mk rfl); (. ((repeat' (first | (with_reducible constructor) | exact NE.mk rfl)); done))) | ((with_reducible apply gBND.clim 0); (. with_reducible constructor)) | (with_reducible exact gCG.craw _ _) | (with_reducible intro (v_ : Value)) | (with_reducible exact RF.mk (ZlJ (by first | omega | (have q := ha.rg v (by omega) _ (ZaE (show k < (nth nx v).length by omega)); first | omega | (rw [Za0, ZaK]; omega) | (rw [ZhB, Za0, ZaK]; omega) | (have q2 := ZfE ha (k := k) (show v < n by omega) (show (nth (nth nx v) k).toNat < n by omega); omega)) | (simp only [List.length_map, Za0, ZaK]; omega)))) | (with_reducible exact gCG.cbd _ _ _) | (with_reducible first | apply gIX.cgb | apply gIX.cge | apply gLN.cgb | apply gLN.cge) | ((with_reducible apply gLB.cone); (. exact RF.mk ⟨rfl, rfl⟩)) | ((with_reducible apply gLI.cone); (. exact RF.mk ⟨rfl, rfl⟩)) | (with_reducible constructor) | exact Z3 | exact NU.mk QQ30 | exact ZS | exact ZF | exact ZC | ((with_reducible apply Zbk); (. exact ZA); (. exact NU.mk QQ30)) | (with_reducible intro hc; (try simp only [HCs] at hc)) | exact OB_f | exact DEC.mk (by decide) | exact ZM | (with_reducible first | apply gNK | apply Zaj | apply Zae | apply Zam | apply Zag | apply ZaG | apply Zak | apply Zai | apply Zas | apply Zal | apply Zau | apply Zat | apply Zao) | apply Zaf Zab | (apply ZaB; exact RF.mk rfl) | (refine Zah (id := 0) (ι := Nat × Tg 0) (fun ⟨v, _⟩ => ⟨[(3, .own 1 0 n), (13, .g (.ex vn_ 1 (nx.map (bdI N_)))), (14, .g (.i n)), (15, .g (.i v))], [(0, .lim N_), (1, .arr 1 true ((ZbL nx n v).map GV.ints))]⟩) (fun ⟨v, _⟩ => (v ≤ n)) (fun ⟨v, _⟩ => n - v) (0, (Tg.t : Tg 0)) ?_ ?_ ?_; (. (apply gLX2 (r0 := 0) <;> (repeat' (first | (with_reducible constructor) | exact Z5 | exact RF.mk (by decide) | (with_reducible apply Zad) | exact EQ.mk QQ30)); (all_goals exact QQ31))); (. (omega)); (rintro ⟨v, _⟩ h1; (try dsimp only at h1); (show TX _ _ _ _ _ [(3, .own 1 0 n), (13, .g (.ex vn_ 1 (nx.map (bdI N_)))), (14, .g (.i n)), (15, .g (.i v))] [(0, .lim N_), (1, .arr 1 true ((ZbL nx n v).map GV.ints))] _))) | (refine Zah (id := 2) (ι := Nat × Tg 2) (fun ⟨k, _⟩ => ⟨[(3, .own 1 0 n), (4, .g (.i v)), (13, .g (.ex vn_ 1 (nx.map (bdI N_)))), (14, .g (.i n)), (15, .g (.i v)), (20, .g (bdI N_ (nth nx v))), (21, .g (.i (nth nx v).length)), (22, .g (.i k))], [(0, .lim N_), (1, .arr 1 true ((ZfR v ((nth nx v).take k) (ZbL nx n v)).map GV.ints))]⟩) (fun ⟨k, _⟩ => (k ≤ (nth nx v).length)) (fun ⟨k, _⟩ => (nth nx v).length - k) (0, (Tg.t : Tg 2)) ?_ ?_ ?_; (. (apply gLX2 (r0 := 0) <;> (repeat' (first | (with_reducible constructor) | exact Z5 | exact RF.mk (by decide) | (with_reducible apply Zad) | exact EQ.mk QQ30)); (all_goals exact QQ31))); (. (omega)); (rintro ⟨k, _⟩ g1; (try dsimp only at g1); have q9 := Zbh (ha.nd v (by omega)) (ha.rg v (by omega)); (show TX _ _ _ _ _ [(3, .own 1 0 n), (4, .g (.i v)), (13, .g (.ex vn_ 1 (nx.map (bdI N_)))), (14, .g (.i n)), (15, .g (.i v)), (20, .g (bdI N_ (nth nx v))), (21, .g (.i (nth nx v).length)), (22, .g (.i k))] [(0, .lim N_), (1, .arr 1 true ((ZfR v ((nth nx v).take k) (ZbL nx n v)).map GV.ints))] _))) | apply gSel.ccons))
 (all_goals (first | (refine ZaA (v + 1, (Tg.t : Tg 0)) ?_ ?_ ?_; (· (apply gLX2 (r0 := 0) <;> (repeat' (first | (with_reducible constructor) | exact Z5 | exact RF.mk (by decide) | (with_reducible apply Zad) | exact EQ.mk QQ30)); (all_goals exact QQ31))); (· (omega)); (· exact ZW)) | (refine ZaA (k + 1, (Tg.t : Tg 2)) ?_ ?_ ?_; (· (apply gLX2 (r0 := 0) <;> (repeat' (first | (with_reducible constructor) | exact Z5 | exact RF.mk (by decide) | (with_reducible apply Zad) | exact EQ.mk QQ30)); (all_goals exact QQ31))); (· (omega)); (· exact ZW)) | (((refine Za1 (Zap (EQ.mk ?_)); (try rw [List.drop_zero]); rw [List.take_of_length_le (by rw [ZaK]; omega)]; rw [show v = n by omega])); done)))
end Go.Proofs.YtjjidamlmebaaaaGreat

