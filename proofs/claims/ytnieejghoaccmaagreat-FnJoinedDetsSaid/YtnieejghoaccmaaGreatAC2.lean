/- Contract: states of automata that are alike, as the program finds them. No conditions but those that each theorem names. -/
import Derived.Test.YtnieejghoaccmaaGreatTab
import Derived.Test.YtnieejghoaccmaaGreatKG
import Derived.Test.YtnieejghoaccmaaGreatAA
import Derived.Test.YtnieejghoaccmaaGreatChecked
set_option linter.unusedSimpArgs false
set_option linter.unusedVariables false
namespace Go.Proofs.YtnieejghoaccmaaGreat
open Go.RowKit
open Shp
def ZcZ : Nat → List Nat
 | 0 => [1]
 | 1 => [1, 3]
 | 2 => [1, 3, 21, 22]
 | 3 => [1, 3, 21, 22, 23]
 | 4 => [1, 3, 4, 21, 22]
 | 5 => [1, 3, 4, 21, 22]
 | 6 => [1, 3, 4, 21, 22, 36, 37]
 | 7 => [1, 3, 4, 21, 22, 36, 37, 38]
 | 8 => [1, 3, 4, 5, 21, 22, 36, 37]
 | 9 => [1, 3, 4, 5, 21, 22, 36, 37, 41, 42, 43]
 | 10 => [1, 3, 4, 5, 21, 22, 36, 37, 41, 42, 43, 44]
 | 11 => [1, 3, 4, 5, 7, 21, 22, 36, 37, 41, 42, 43]
 | 12 => [1, 3, 4, 5, 7, 8, 21, 22, 36, 37, 41, 42, 43]
 | 13 => [1, 3, 4, 5, 8, 9, 21, 22, 36, 37, 41, 42, 43]
 | 14 => [1, 3, 4, 5, 21, 22, 36, 37, 41, 42, 43, 68, 69, 82]
 | 15 => [1, 3, 4, 5, 21, 22, 36, 37, 41, 42, 43]
 | 16 => [1, 3, 4, 21, 22, 36, 37]
 | 17 => [1, 3, 21, 22]
 | 18 => [1, 3, 10]
 | 19 => [1, 3, 87]
 | 20 => [1, 3, 10]
 | 21 => [1, 3, 10, 89, 90]
 | 22 => [1, 3, 10, 89, 90, 91]
 | 23 => [1, 3, 10, 11, 89, 90]
 | 24 => [1, 3, 10, 11, 89, 90, 97, 98]
 | 25 => [1, 3, 10, 11, 89, 90, 97, 98, 99]
 | 26 => [1, 3, 10, 11, 12, 89, 90, 97, 98]
 | 27 => [1, 3, 10, 11, 12, 89, 90, 97, 98, 106, 107]
 | 28 => [1, 3, 10, 11, 12, 89, 90, 97, 98, 106, 107, 108]
 | 29 => [1, 3, 10, 11, 12, 13, 89, 90, 97, 98, 106, 107]
 | 30 => [1, 3, 10, 11, 12, 89, 90, 97, 98, 106, 107, 140]
 | 31 => [1, 3, 11, 12, 89, 90, 97, 98, 106, 107, 144, 145]
 | 32 => [1, 3, 10, 11, 12, 89, 90, 97, 98, 106, 107]
 | 33 => [1, 3, 10, 11, 12, 89, 90, 97, 98, 106, 107]
 | 34 => [1, 3, 10, 11, 89, 90, 97, 98]
 | 35 => [1, 3, 10, 89, 90]
 | 36 => [3, 14]
 | 37 => [3, 14, 152, 153]
 | 38 => [3, 14, 152, 153, 154]
 | 39 => [3, 14, 15, 152, 153]
 | 40 => [3, 14, 152, 153]
 | 41 => [3, 14, 152, 153]
 | 42 => [2]
 | _ => []
theorem ZdC (args : Array Value) (w : World) : (callFunc 25 args).run Tryz.prog w = .ok (.enter 25 args) w := Zab Tryz.func25 (by decide) rfl args w
set_option maxHeartbeats 40000000 in
theorem ZiP (n : List (List Int)) (ps : List (List Int × List Int)) (W : Nat) (hg : HY (GoOk n (W : Int))) (hn : NU (1 ≤ n.length ∧ n.length ≤ 48)) (hb_n : n.length ≤ 9223372036854775807) (hr_n : ∀ r ∈ n, r.length ≤ 9223372036854775807) (hb_ps : ps.length ≤ 9223372036854775807) (hr_ps : ∀ r ∈ ps, r.1.length ≤ 9223372036854775807 ∧ r.2.length ≤ 9223372036854775807) (A : List (List Bool)) (m1 : P2 n ps A) (m2 : Cl26 n W A n.length 0 0) : TX ZcZ Tryz.prog tab (ZfM (ZfM (ZfM (ZfM (ZjL Tryz.f25))))) 166 [(3, .own 0 0 n.length)] [(0, .arr 1 true (A.map GV.bools))] (EndR tab [.tmp 2] (.ints (ZaU n ps))) := by
 have hg := hg.e
 have hn := hn.e
 refine ZwK (at_4 (fn := Tryz.f25) rfl) ?_
 (repeat' (first | ((with_reducible apply Zjd 14); apply Ze3 (rid := 14) Zac rfl 0 q) | ((with_reducible apply Zjd 14); apply Ze5 (rid := 14) Zac 0 q) | (with_reducible apply ZiC) | ((with_reducible apply Zjd 31); apply Ze3 (rid := 31) Zac rfl 0 q) | ((with_reducible apply Zjd 31); apply Ze5 (rid := 31) Zac 0 q) | (with_reducible exact gCG.cex _ _ _) | (with_reducible exact gSPL.ctwo _ _) | (with_reducible apply gSPL.ccons) | ((with_reducible apply Zn5); (. rfl); (. rfl); (. rfl); (. rfl); (. rfl)) | ((with_reducible apply gITM.clitN); exact RF.mk (ZhP (by omega))) | ((with_reducible apply gKeep.ckeep); (. (first | exact SafeP.ptr _ _ | exact SafeP.own _ _ _ | exact SafeP.eptr _ _ _ | exact SafeP.nils _ | exact SafeP.flat _ rfl | exact SafeP.g _ ZaE | exact SafeP.g _ ZaA | exact SafeP.g _ ZaI | exact SafeP.g _ ZaB | exact SafeP.undef | exact SafeP.none_ | (with_reducible apply ZaY <;> (first | exact SafeP.ptr _ _ | exact SafeP.own _ _ _ | exact SafeP.eptr _ _ _ | exact SafeP.nils _ | exact SafeP.flat _ rfl | exact SafeP.g _ ZaE | exact SafeP.g _ ZaA | exact SafeP.g _ ZaI | exact SafeP.g _ ZaB | exact SafeP.undef | exact SafeP.none_))))) | (with_reducible apply gKeep.cdrop) | (with_reducible exact gKeep.cnil) | (with_reducible apply gSafeH.cself) | ((with_reducible apply gSafeH.ccons); (. first | exact SafeB.dead | exact SafeB.free | exact SafeB.deep _ _ | (with_reducible apply Zfa <;> (first | exact SafeP.ptr _ _ | exact SafeP.own _ _ _ | exact SafeP.eptr _ _ _ | exact SafeP.nils _ | exact SafeP.flat _ rfl | exact SafeP.g _ ZaE | exact SafeP.g _ ZaA | exact SafeP.g _ ZaI | exact SafeP.g _ ZaB | exact SafeP.undef | exact SafeP.none_ | (with_reducible apply ZaY <;> (first | exact SafeP.ptr _ _ | exact SafeP.own _ _ _ | exact SafeP.eptr _ _ _ | exact SafeP.nils _ | exact SafeP.flat _ rfl | exact SafeP.g _ ZaE | exact SafeP.g _ ZaA | exact SafeP.g _ ZaI | exact SafeP.g _ ZaB | exact SafeP.undef | exact SafeP.none_)))) | (with_reducible apply Ze9 <;> (first | exact SafeP.ptr _ _ | exact SafeP.own _ _ _ | exact SafeP.eptr _ _ _ | exact SafeP.nils _ | exact SafeP.flat _ rfl | exact SafeP.g _ ZaE | exact SafeP.g _ ZaA | exact SafeP.g _ ZaI | exact SafeP.g _ ZaB | exact SafeP.undef | exact SafeP.none_ | (with_reducible apply ZaY <;> (first | exact SafeP.ptr _ _ | exact SafeP.own _ _ _ | exact SafeP.eptr _ _ _ | exact SafeP.nils _ | exact SafeP.flat _ rfl | exact SafeP.g _ ZaE | exact SafeP.g _ ZaA | exact SafeP.g _ ZaI | exact SafeP.g _ ZaB | exact SafeP.undef | exact SafeP.none_)))) | (with_reducible apply Zfg <;> (first | exact SafeP.ptr _ _ | exact SafeP.own _ _ _ | exact SafeP.eptr _ _ _ | exact SafeP.nils _ | exact SafeP.flat _ rfl | exact SafeP.g _ ZaE | exact SafeP.g _ ZaA | exact SafeP.g _ ZaI | exact SafeP.g _ ZaB | exact SafeP.undef | exact SafeP.none_ | (with_reducible apply ZaY <;> (first | exact SafeP.ptr _ _ | exact SafeP.own _ _ _ | exact SafeP.eptr _ _ _ | exact SafeP.nils _ | exact SafeP.flat _ rfl | exact SafeP.g _ ZaE | exact SafeP.g _ ZaA | exact SafeP.g _ ZaI | exact SafeP.g _ ZaB | exact SafeP.undef | exact SafeP.none_)))))) | (with_reducible exact gSafeH.cnil) | (with_reducible first | apply gSafeH.cdeadN | apply gSafeH.cdeadC) | ((with_reducible apply ZmS); kernel_rfl) | ((with_reducible apply gLB.cagg); (. exact RF.mk ⟨rfl, rfl, rfl⟩)) | ((with_reducible apply gLB.cone); (. exact RF.mk ⟨rfl, rfl⟩)) | ((with_reducible apply gLI.cagg); (. exact RF.mk ⟨rfl, rfl, rfl⟩)) | ((with_reducible apply gLI.cone); (. exact RF.mk ⟨rfl, rfl⟩)) | ((with_reducible apply gAF.cbuildA); (. exact RF.mk rfl); (. exact RF.mk ⟨rfl, rfl, rfl, rfl⟩)) | (with_reducible constructor) | exact Z4 | exact NU.mk (by first | exact ZO | (first | omega | (have q := hr_n (nth n q) (Zaz (by omega)); omega) | (have q9 := m3.1.row q (by omega); omega) | (have q8 := hg.rowN (q := q) (by omega); omega) | (have q8 := hg.rowN (q := q) (by omega); have q7 := hg.rowN (q := r) (by omega); have q6 := hg.stepN (q := q) (x := x) (by omega) (by omega); have q5 := hg.stepN (q := r) (x := x) (by omega) (by omega); have q4 := m3.1.row (nth (nth n q) x).toNat (by omega); have q3 := m3.1.row q (by omega); omega) | (have q6 := p7 (by omega); have q5 := p8 (by omega); have q4 := p9 (by omega); simp only [Nat.zero_add]; omega))) | exact ZI | exact ZS | exact ZF | exact ZG | exact ZC | ((with_reducible apply Zch); (. exact ZA); (. exact NU.mk (by first | exact ZO | (first | omega | (have q := hr_n (nth n q) (Zaz (by omega)); omega) | (have q9 := m3.1.row q (by omega); omega) | (have q8 := hg.rowN (q := q) (by omega); omega) | (have q8 := hg.rowN (q := q) (by omega); have q7 := hg.rowN (q := r) (by omega); have q6 := hg.stepN (q := q) (x := x) (by omega) (by omega); have q5 := hg.stepN (q := r) (x := x) (by omega) (by omega); have q4 := m3.1.row (nth (nth n q) x).toNat (by omega); have q3 := m3.1.row q (by omega); omega) | (have q6 := p7 (by omega); have q5 := p8 (by omega); have q4 := p9 (by omega); simp only [Nat.zero_add]; omega))))) | exact ZQ | (with_reducible apply Zbp) | (apply ZbB) | (with_reducible apply Zbd) | ((with_reducible apply ZfS); (. exact NU.mk (by first | exact ZO | (first | omega | (have q := hr_n (nth n q) (Zaz (by omega)); omega) | (have q9 := m3.1.row q (by omega); omega) | (have q8 := hg.rowN (q := q) (by omega); omega) | (have q8 := hg.rowN (q := q) (by omega); have q7 := hg.rowN (q := r) (by omega); have q6 := hg.stepN (q := q) (x := x) (by omega) (by omega); have q5 := hg.stepN (q := r) (x := x) (by omega) (by omega); have q4 := m3.1.row (nth (nth n q) x).toNat (by omega); have q3 := m3.1.row q (by omega); omega) | (have q6 := p7 (by omega); have q5 := p8 (by omega); have q4 := p9 (by omega); simp only [Nat.zero_add]; omega)))); (. rfl)) | (with_reducible apply Zby) | (apply ZbD) | ((with_reducible apply ZaP); first | apply ZcY | apply Zgc) | (with_reducible intro hc; (try simp only [HCs] at hc)) | exact OB_f | exact DEC.mk (by decide) | exact ZM | exact ZT | exact ZK | (with_reducible first | apply gNK | apply Zao | apply Zaf | apply Zal | apply Zan | apply Zai | apply CK_t | apply CK_f | apply ZaQ | apply Zam | apply Zap | apply Zau | apply Zbe | apply Zak | apply Za7 | apply Zas | apply ZaG | apply Zav | apply ZaM | apply ZbE | apply ZbC | apply Zes | apply Zat | apply ZbH | apply Zeu) | apply Zah Zac | apply ZaK Zac rfl | (apply ZaD; exact RF.mk rfl) | exact EQ.mk rfl | (refine Zaq (id := 14) (ι := Nat) (fun q => ⟨[(3, .own 0 0 n.length), (14, .own 1 0 q), (152, .g (.i n.length)), (153, .g (.i q))], [(0, .arr 1 true (A.map GV.bools)), (1, .arr 1 true (((ZaU n ps).take q).map GV.i))]⟩) (fun q => (q ≤ n.length)) (fun q => n.length - q) (0) ?_ ?_ ?_; (. (apply gLX2 <;> (repeat' (first | (with_reducible constructor) | exact Z5 | exact RF.mk (by decide) | (with_reducible apply Zae) | exact EQ.mk (by first | exact ZO | (first | omega | (have q := hr_n (nth n q) (Zaz (by omega)); omega) | (have q9 := m3.1.row q (by omega); omega) | (have q8 := hg.rowN (q := q) (by omega); omega) | (have q8 := hg.rowN (q := q) (by omega); have q7 := hg.rowN (q := r) (by omega); have q6 := hg.stepN (q := q) (x := x) (by omega) (by omega); have q5 := hg.stepN (q := r) (x := x) (by omega) (by omega); have q4 := m3.1.row (nth (nth n q) x).toNat (by omega); have q3 := m3.1.row q (by omega); omega) | (have q6 := p7 (by omega); have q5 := p8 (by omega); have q4 := p9 (by omega); simp only [Nat.zero_add]; omega))))); (all_goals ((first | exact EQ.mk rfl | exact EQ.mk (by first | (simp; done) | fail) | (refine Zax (EQ.mk ?_); rw [Ze8 hg m1 m2 (by omega), Zdu (by omega)]; done) | (refine Zax (EQ.mk ?_); rw [Ze8 hg m1 m2 (by omega), Zdu (by omega), List.take_take, Nat.min_self]; done) | exact EQ.mk (by rw [List.length_append, List.length_take, List.length_singleton]; omega) | exact EQ.mk (by omega)); done)))); (. (omega)); (rintro q s1; have s2 := m1.len; have s3 := Zix (n := n) (ps := ps); (show TX _ _ _ _ _ [(3, .own 0 0 n.length), (14, .own 1 0 q), (152, .g (.i n.length)), (153, .g (.i q))] [(0, .arr 1 true (A.map GV.bools)), (1, .arr 1 true (((ZaU n ps).take q).map GV.i))] _))) | exact gSel.cnil _ | apply gSel.ccons | apply gCG.cagg))
 (all_goals (first | (refine ZaR (q + 1) ?_ ?_ ?_; (· (apply gLX2 <;> (repeat' (first | (with_reducible constructor) | exact Z5 | exact RF.mk (by decide) | (with_reducible apply Zae) | exact EQ.mk (by first | exact ZO | (first | omega | (have q := hr_n (nth n q) (Zaz (by omega)); omega) | (have q9 := m3.1.row q (by omega); omega) | (have q8 := hg.rowN (q := q) (by omega); omega) | (have q8 := hg.rowN (q := q) (by omega); have q7 := hg.rowN (q := r) (by omega); have q6 := hg.stepN (q := q) (x := x) (by omega) (by omega); have q5 := hg.stepN (q := r) (x := x) (by omega) (by omega); have q4 := m3.1.row (nth (nth n q) x).toNat (by omega); have q3 := m3.1.row q (by omega); omega) | (have q6 := p7 (by omega); have q5 := p8 (by omega); have q4 := p9 (by omega); simp only [Nat.zero_add]; omega))))); (all_goals ((first | exact EQ.mk rfl | exact EQ.mk (by first | (simp; done) | fail) | (refine Zax (EQ.mk ?_); rw [Ze8 hg m1 m2 (by omega), Zdu (by omega)]; done) | (refine Zax (EQ.mk ?_); rw [Ze8 hg m1 m2 (by omega), Zdu (by omega), List.take_take, Nat.min_self]; done) | exact EQ.mk (by rw [List.length_append, List.length_take, List.length_singleton]; omega) | exact EQ.mk (by omega)); done)))); (· (omega)); (· exact ZW)) | (((refine ZbV (Zax (EQ.mk ?_)); first | rw [List.take_of_length_le (by omega)] | rw [ZhY (by omega)] | rw [ZkQ (by omega)])); done)))
end Go.Proofs.YtnieejghoaccmaaGreat

