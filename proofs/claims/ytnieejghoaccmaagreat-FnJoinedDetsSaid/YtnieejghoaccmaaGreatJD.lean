/- Two automata joined: the law of FnJoinedDets. No program in sight; no conditions. -/
import Derived.Test.YtnieejghoaccmaaGreatAI
import Derived.Test.YtnieejghoaccmaaGreatPO
import Derived.Test.YtnieejghoaccmaaGreatTab
import Derived.Test.YtnieejghoaccmaaGreatKG
import Derived.Test.YtnieejghoaccmaaGreatAA
import Derived.Test.YtnieejghoaccmaaGreatAC
import Derived.Test.YtnieejghoaccmaaGreatChecked
import Derived.Test.YtnieejghoaccmaaGreatMX
import Derived.Test.YtnieejghoaccmaaGreatMP
namespace Go.Proofs.YtnieejghoaccmaaGreat
open Go.RowKit
open Shp
variable {q v o : Int} {W : Nat}
section
variable {n : List (List Int)} {cl : List Int} {os ps : List Int} {k x f : Nat}
end
theorem ZyS {i : Int} {n : List (List Int)} {ps : List (List Int × List Int)} (h : detB i o n ps = true) : GoOk n ((Zaa i o).toNat : Int) ∧ 1 ≤ n.length ∧ n.length ≤ 48 ∧ ps.length ≤ 4 ∧ (Zaa i o).toNat ≤ 16 := by
 obtain ⟨a1, ⟨a2, a3⟩, a4, a5⟩ := detB_iff.1 h
 have hL := Zaw i o
 exact ⟨by rw [Za0]; exact a5, a2, a3, ZeB h, by omega⟩
end Go.Proofs.YtnieejghoaccmaaGreat

namespace Go.Proofs.YtnieejghoaccmaaGreat
open Go.RowKit
open Shp
noncomputable def Zb2 (i o : Int) (n : List (List Int)) (ps : List (List Int × List Int)) : List Int := if detB i o n ps = true then ZaU n ps else []
def ZiE : Nat → List Nat
 | 0 => [2, 3]
 | 1 => [3, 13]
 | 2 => [4]
 | 3 => [4]
 | _ => []
theorem Zdv (args : Array Value) (w : World) : (callFunc 11 args).run Tryz.prog w = .ok (.enter 11 args) w := Zab Tryz.func11 (by decide) rfl args w
set_option maxHeartbeats 1000000 in
theorem Zmc (i o : Int) (n : List (List Int)) (ps : List (List Int × List Int)) : Con Tryz.prog 11 [.sig i o, .det n ps] (.ints (Zb2 i o n ps)) := by
 refine Con.fit Zdv fun hfit => ?_
 have hb_n : n.length ≤ 9223372036854775807 := GFits.lenm (GFits.cell (show GFits (.det n ps) from hfit 1 (ZL rfl)) (.head _))
 have hr_n : ∀ r ∈ n, r.length ≤ 9223372036854775807 := fun r hr => GFits.ints (GFits.elm (GFits.cell (show GFits (.det n ps) from hfit 1 (ZL rfl)) (.head _)) r hr)
 have hb_ps : ps.length ≤ 9223372036854775807 := GFits.lenm (GFits.cell (show GFits (.det n ps) from hfit 1 (ZL rfl)) (.tail _ (.head _)))
 have hr_ps : ∀ r ∈ ps, r.1.length ≤ 9223372036854775807 ∧ r.2.length ≤ 9223372036854775807 := fun r hr => ⟨GFits.ints (GFits.cell (GFits.elm (GFits.cell (show GFits (.det n ps) from hfit 1 (ZL rfl)) (.tail _ (.head _))) r hr) (.head _)), GFits.ints (GFits.cell (GFits.elm (GFits.cell (show GFits (.det n ps) from hfit 1 (ZL rfl)) (.tail _ (.head _))) r hr) (.tail _ (.head _)))⟩
 clear hfit
 refine gCon ZiE Zac (rs := [.tmp 4]) (sl := [(0, .g (.sig i o)), (1, .g (.det n ps))]) Tryz.func11 rfl Tryz.ntmps11 rfl Zdv rfl (by repeat constructor) ?_
 (repeat' (first | ((with_reducible apply gLB.cagg); (. exact RF.mk ⟨rfl, rfl, rfl⟩)) | (with_reducible constructor) | exact Z2 | exact ZN | exact ZC | ((with_reducible apply ZaP); first | (exact Zlj n ps (Zaa i o).toNat (HY.mk (by rw [Za0]; exact Zcc (by assumption))) (NU.mk ⟨(Zdy (show detB i o n ps = true by assumption)).2.1, (Zdy (show detB i o n ps = true by assumption)).2.2.1⟩)) | apply ZgV | apply ZgF) | (with_reducible intro hc; (try simp only [HCs] at hc)) | exact OB_f | (with_reducible first | apply gNK | apply Zao | apply Zaf | apply Zan | apply Zai | apply CK_t | apply ZaQ | apply Zam | apply Zap | apply Zat) | apply Zah Zac | apply gSel.ccons))
 (all_goals (first | (((unfold Zb2; first | (rw [if_pos (by assumption)]; exact EQ.mk rfl) | (rw [if_neg (by first | (simp_all; done) | fail)]; exact EQ.mk rfl) | (rw [if_neg (fun e => by rw [Zs2 e] at hc; cases hc)]; exact EQ.mk rfl))); done)))
end Go.Proofs.YtnieejghoaccmaaGreat

namespace Go.Proofs.YtnieejghoaccmaaGreat
open Go.RowKit
open Shp
theorem Zha {Q R : Nat → Int} {p p' : List Int × List Int} (h1 : ∀ i, Q i ∈ p.1 ↔ R i ∈ p'.1) (h2 : ∀ i, Q i ∈ p.2 ↔ R i ∈ p'.2) : Zgg Q p ↔ Zgg R p' := by
 unfold Zgg
 rw [show (fun i => Q i ∈ p.1) = fun i => R i ∈ p'.1 from funext fun i => propext (h1 i), show (fun i => Q i ∈ p.2) = fun i => R i ∈ p'.2 from funext fun i => propext (h2 i)]
theorem Znm {ps : List (List Int × List Int)} {met : List Int} : ∀ {k : Nat}, brkZ ps met k = [] ↔ ∀ j, j < k → (ZcJ met (nth ps j).1 = true → ZcJ met (nth ps j).2 = true)
 | 0 => by simp [brkZ]
 | k + 1 => by
  have ih := Znm (ps := ps) (met := met) (k := k)
  simp only [brkZ]
  constructor
  ·intro h j hj
   split at h
   ·simp at h
   ·rename_i hc
    by_cases e : j = k
    ·subst e
     intro h1
     cases h2 : ZcJ met (nth ps j).2 with
     | true => rfl
     | false => exact absurd ⟨h1, h2⟩ hc
    ·exact ih.1 h j (by omega)
  ·intro h
   rw [if_neg fun hc => by have := h k (by omega) hc.1; rw [hc.2] at this; cases this]
   exact ih.2 fun j hj => h j (by omega)
section
variable {n : List (List Int)} {s l : List Int}
theorem ZmT {i o : Int} {ps : List (List Int × List Int)} (hd : detB i o n ps = true) (hw : ZaN s l (Zaa i o) = true) : ZdU i o n ps s l = true ↔ ∀ p ∈ ps, Zgg (runQ n 0 (letN s l)) p := by
 obtain ⟨_, h1, _⟩ := Zdy hd
 have hg := Zcc hd
 obtain ⟨_, _, h4, h5, h6⟩ := wordB_parts.1 hw
 rw [← Zpg hd hw, ZqV hd hw, decide_eq_true_eq, Znm]
 unfold Zgg
 constructor
 ·intro h p hp
  obtain ⟨j, hj, rfl⟩ := Zbx hp
  rw [← Zky hg h5 h6 h1 h4, ← Zky hg h5 h6 h1 h4]
  exact h j hj
 ·intro h j hj
  rw [Zky hg h5 h6 h1 h4, Zky hg h5 h6 h1 h4]
  exact h _ (Zaz hj)
end
theorem ZjZ {s xs : List Int} {x : Int} : ∀ {i : Nat}, x ∈ ZaJ s xs i ↔ ∃ j : Nat, j < i ∧ x = (j : Int) ∧ has s (nth xs j) = true
 | 0 => by simp [ZaJ]
 | i + 1 => by
  have ih := ZjZ (s := s) (xs := xs) (x := x) (i := i)
  simp only [ZaJ]
  split
  ·rename_i hc
   rw [List.mem_append, ih, List.mem_singleton]
   constructor
   ·rintro (⟨j, h1, h2, h3⟩ | e)
    ·exact ⟨j, by omega, h2, h3⟩
    ·exact ⟨i, by omega, e, hc⟩
   ·rintro ⟨j, h1, h2, h3⟩
    by_cases e : j = i
    ·subst e; exact .inr h2
    ·exact .inl ⟨j, by omega, h2, h3⟩
  ·rename_i hc
   rw [ih]
   constructor
   ·rintro ⟨j, h1, h2, h3⟩; exact ⟨j, by omega, h2, h3⟩
   ·rintro ⟨j, h1, h2, h3⟩
    by_cases e : j = i
    ·subst e; exact absurd h3 hc
    ·exact ⟨j, by omega, h2, h3⟩
theorem Zmf {s xs : List Int} {j : Nat} (hj : j < xs.length) : (j : Int) ∈ ZaJ s xs xs.length ↔ nth xs j ∈ s := by
 rw [ZjZ, ← has_iff]
 constructor
 ·rintro ⟨k, _, h2, h3⟩
  have e : j = k := by omega
  subst e; exact h3
 ·intro h; exact ⟨j, hj, rfl, h⟩
theorem Zqy {a b : List (List Int)} : ∀ (f k : Nat) (os0 os : List (Int × Int)), jnG a b f k os0 = some os → Ext os0 os
 | 0, k, os0, os, e => by simp only [jnG, Option.some.injEq] at e; subst e; exact Ext.refl _
 | f + 1, k, os0, os, e => by
  simp only [jnG] at e
  split at e
  ·split at e
   ·cases e
   ·obtain ⟨t, ht⟩ := ZkH (Zbr a b (nth os0 k)) os0
    obtain ⟨t2, ht2⟩ := Zqy f (k + 1) _ os e
    exact ⟨t ++ t2, by rw [ht2, ht, List.append_assoc]⟩
  ·simp only [Option.some.injEq] at e; subst e; exact Ext.refl _
section
variable {n n2 : List (List Int)} {os : List (Int × Int)} {W : Nat}
theorem Zro (ha : GoOk n (W : Int)) (hb : GoOk n2 (W : Int)) (la : 1 ≤ n.length) (lb : 1 ≤ n2.length) (e : jnF n n2 = some os) {f : Nat → Int} (hf : ∀ i, 0 ≤ f i ∧ f i < (W : Int)) : ∀ i, ∃ j : Nat, j < os.length ∧ runQ (Za3 n n2 os os.length) 0 f i = (j : Int) ∧ nth os j = (runQ n 0 f i, runQ n2 0 f i) := by
 obtain ⟨h1, h2, h3, h4⟩ := ZpM ha hb la lb e
 intro i
 induction i with
 | zero =>
  obtain ⟨t, ht⟩ := Zqy _ _ _ _ e
  exact ⟨0, h2, rfl, by rw [ht]; rfl⟩
 | succ i ih =>
  obtain ⟨j, hj, r1, r2⟩ := ih
  have hv := h1.at hj
  have hr := ha.row hv.1.1 hv.1.2
  have hx := hf i
  have hxl : (f i).toNat < (rowN n (nth os j).1).length := by unfold rowN; omega
  have hm : (nth (nth n (nth os j).1.toNat) (f i).toNat, nth (nth n2 (nth os j).2.toNat) (f i).toNat) ∈ os := by
   have := h4 j hj _ (Zaz (xs := Zbr n n2 (nth os j)) (k := (f i).toNat) (by rw [Zbi]; exact hxl))
   rwa [Zcd hxl] at this
  obtain ⟨z, hz, e2, e3, _⟩ := Zd4 hm
  refine ⟨z, hz, ?_, ?_⟩
  ·show nth (nth (Za3 n n2 os os.length) (runQ (Za3 n n2 os os.length) 0 f i).toNat) (f i).toNat = _
   rw [r1, Int.toNat_natCast]
   have e5 : nth (Za3 n n2 os os.length) j = (Zbr n n2 (nth os j)).map (Zbv os) := by
    unfold Za3; rw [List.take_length]; exact ZdF hj
   rw [e5, ZdF (by rw [Zbi]; exact hxl), Zcd hxl]
   exact e2
  ·rw [e3, r2]; rfl
end
theorem ZtW {n n2 : List (List Int)} {ps ps2 : List (List Int × List Int)} (hj : (Zbs n ps n2 ps2).2 = true) : ∃ os, jnF n n2 = some os ∧ Zbs n ps n2 ps2 = ((Za3 n n2 os os.length, Zbn ps (os.map Prod.fst) ++ Zbn ps2 (os.map Prod.snd)), true) := by
 by_cases hl : ps.length + ps2.length ≤ 4
 ·cases e : jnF n n2 with
  | none => rw [Zcm e] at hj; cases hj
  | some os => exact ⟨os, rfl, Zcv hl e⟩
 ·rw [Zb7 hl] at hj; cases hj
theorem ZoN {i o : Int} {n n2 : List (List Int)} {ps ps2 : List (List Int × List Int)} {s l : List Int} (h : detB i o n ps = true) (h2 : detB i o n2 ps2 = true) (hj : (Zbs n ps n2 ps2).2 = true) (hw : ZaN s l (Zaa i o) = true) :
  ZdU i o (Zbs n ps n2 ps2).1.1 (Zbs n ps n2 ps2).1.2 s l = (ZdU i o n ps s l && ZdU i o n2 ps2 s l) := by
 have hd := Zfe h h2 hj
 obtain ⟨os, e, ej⟩ := ZtW hj
 obtain ⟨a1, ⟨a2, a3⟩, a4, a5⟩ := detB_iff.1 h
 obtain ⟨b1, ⟨b2, b3⟩, b4, b5⟩ := detB_iff.1 h2
 rw [← Za0] at a5 b5
 obtain ⟨_, _, h4, h5, h6⟩ := wordB_parts.1 hw
 have hf : ∀ k, 0 ≤ letN s l k ∧ letN s l k < ((Zaa i o).toNat : Int) := fun k => by rw [Za0]; exact ZqD h4 h5 h6 k
 have hr := Zro a5 b5 a2 b2 e hf
 rw [Bool.eq_iff_iff, Bool.and_eq_true, ZmT hd hw, ZmT h hw, ZmT h2 hw, ej]
 have k1 : ∀ p0, Zgg (runQ (Za3 n n2 os os.length) 0 (letN s l)) (pairP (os.map Prod.fst) p0) ↔ Zgg (runQ n 0 (letN s l)) p0 := fun p0 => by
  have key : ∀ (t : List Int) k, runQ (Za3 n n2 os os.length) 0 (letN s l) k ∈ ZaJ t (os.map Prod.fst) (os.map Prod.fst).length ↔ runQ n 0 (letN s l) k ∈ t := fun t k => by
   obtain ⟨j, j1, j2, j3⟩ := hr k
   rw [j2, Zmf (by simpa using j1), ZdF j1, j3]
  exact Zha (key _) (key _)
 have k2 : ∀ p0, Zgg (runQ (Za3 n n2 os os.length) 0 (letN s l)) (pairP (os.map Prod.snd) p0) ↔ Zgg (runQ n2 0 (letN s l)) p0 := fun p0 => by
  have key : ∀ (t : List Int) k, runQ (Za3 n n2 os os.length) 0 (letN s l) k ∈ ZaJ t (os.map Prod.snd) (os.map Prod.snd).length ↔ runQ n2 0 (letN s l) k ∈ t := fun t k => by
   obtain ⟨j, j1, j2, j3⟩ := hr k
   rw [j2, Zmf (by simpa using j1), ZdF j1, j3]
  exact Zha (key _) (key _)
 constructor
 ·intro hk
  exact ⟨fun p hp => (k1 p).1 (hk _ (List.mem_append.2 (.inl (List.mem_map_of_mem hp)))), fun p hp => (k2 p).1 (hk _ (List.mem_append.2 (.inr (List.mem_map_of_mem hp))))⟩
 ·rintro ⟨hk1, hk2⟩ p hp
  rcases List.mem_append.1 hp with hp | hp
  ·obtain ⟨p0, h0, rfl⟩ := List.mem_map.1 hp; exact (k1 p0).2 (hk1 p0 h0)
  ·obtain ⟨p0, h0, rfl⟩ := List.mem_map.1 hp; exact (k2 p0).2 (hk2 p0 h0)
section
variable {n : List (List Int)} {ps : List (List Int × List Int)} {W : Nat}
theorem Zry (hg : GoOk n (W : Int)) {q : Nat} (hq : q < n.length) : nth (ZaU n ps) (nth (ZaU n ps) q).toNat = nth (ZaU n ps) q := by
 obtain ⟨c1, c2, _, _⟩ := Zeb n ps
 obtain ⟨r, h1, h2, h3, _⟩ := ZfI hg c1 c2 hq
 rw [h2, Int.toNat_natCast, h3, h2]
end
end Go.Proofs.YtnieejghoaccmaaGreat

namespace Go.Proofs.YtnieejghoaccmaaGreat
open Go.RowKit
open Shp
section
variable {i o : Int} {n n2 : List (List Int)} {ps ps2 : List (List Int × List Int)}
theorem jd_y (h : (ZaX i o n ps n2 ps2).2 = true) : detB i o n ps = true ∧ detB i o n2 ps2 = true ∧ ZaX i o n ps n2 ps2 = Zbs n ps n2 ps2 := by
 cases e : detB i o n ps with
 | false => rw [Zc9 e] at h; cases h
 | true =>
  cases e2 : detB i o n2 ps2 with
  | false => rw [ZeT e2] at h; cases h
  | true => exact ⟨rfl, rfl, Zgi e e2⟩
theorem ZAh (h : (ZaX i o n ps n2 ps2).2 = false) : (ZaX i o n ps n2 ps2).1.1.length = 0 := by
 unfold ZaX at h ⊢
 split
 ·rename_i hd
  rw [if_pos hd] at h
  unfold Zbs at h ⊢
  split
  ·rename_i hl
   rw [if_pos hl] at h
   cases e : jnF n n2 with
   | none => rfl
   | some os => rw [e] at h; cases h
  ·rfl
 ·rfl
theorem Zs7 (h : (ZaX i o n ps n2 ps2).2 = true) : detB i o (ZaX i o n ps n2 ps2).1.1 (ZaX i o n ps n2 ps2).1.2 = true := by
 obtain ⟨h1, h2, e⟩ := jd_y h
 rw [e] at h ⊢
 exact Zfe h1 h2 h
theorem Zy6 (h : (ZaX i o n ps n2 ps2).2 = true) : 1 ≤ Zaa i o ∧ Zaa i o ≤ 16 := by
 have h1 := (Zdy (Zs7 h)).1
 have h3 := Zj2 h1
 omega
theorem Zq5 (h : (ZaX i o n ps n2 ps2).2 = true) {s l : List Int} (hw : ZaN s l (Zaa i o) = true) : ZdU i o (ZaX i o n ps n2 ps2).1.1 (ZaX i o n ps n2 ps2).1.2 s l = (ZdU i o n ps s l && ZdU i o n2 ps2 s l) := by
 obtain ⟨h1, h2, e⟩ := jd_y h
 rw [e] at h ⊢
 exact ZoN h1 h2 h hw
theorem Zrr (h : detB i o n ps = true) : (if detB i o n ps = true then ZaU n ps else []).length = n.length ∧ ∀ q, q < n.length → 0 ≤ nth (if detB i o n ps = true then ZaU n ps else []) q ∧ nth (if detB i o n ps = true then ZaU n ps else []) q ≤ (q : Int) ∧ nth (if detB i o n ps = true then ZaU n ps else []) (nth (if detB i o n ps = true then ZaU n ps else []) q).toNat = nth (if detB i o n ps = true then ZaU n ps else []) q := by
 rw [if_pos h]
 refine ⟨Zix, fun q hq => ?_⟩
 have hg := Zcc h
 rw [← Za0] at hg
 obtain ⟨c1, c2, _, _⟩ := Zeb n ps
 obtain ⟨r, h1, h2, _, _⟩ := ZfI hg c1 c2 hq
 exact ⟨by omega, by omega, Zry hg hq⟩
end
end Go.Proofs.YtnieejghoaccmaaGreat

