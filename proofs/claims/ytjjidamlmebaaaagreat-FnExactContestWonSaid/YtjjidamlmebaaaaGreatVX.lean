/- The beginning and the end of a call that takes over three rows. Over any program; the table is right ('TabOk'). -/
import Derived.Test.YtjjidamlmebaaaaGreatVW
namespace Go.Proofs.YtjjidamlmebaaaaGreat
open Go.RowKit
open Shp
variable {c : Code} {v : Value} {f : FuncId} {fn : Func} {m : Nat} {rs : List ResultVar} {r0 r1 : ResultVar} {xs : List GV} {g0 g2 : GV}
abbrev GV.par (o : List Int) (nx : List (List Int)) (p : List Int) : GV := .agg [.ints o, .rows nx, .ints p]
theorem ZlJ {α : Type} {f : α → GV} {A : List α} {kk c : Nat}  (h : kk < A.length) : (rawL f A kk c v)[0 + kk]? = some (.raw c v) := by
 rw [Nat.zero_add]; simp [rawL, h]
section
variable {P : Program} {tab : Tab} {sl : List (Nat × PV)} {hl : List (Nat × Block)} {n : Nat}
theorem gVtx (lv : Nat → List Nat) (ht : TabOk P tab)      (hf : P.funcs[f]? = some fn) (hb : fn.body = some c) (hn : fn.ntmps = m) (hrs : fn.results.toList = rs) (he : ∀ args w, (callFunc f args).run P w = .ok (.enter f args) w) (hl : (Nat.ble 4 m && Nat.blt m 65536) = true)
  (h : ∀ (ow pr : List Int) (hs : List Value) (o p : Int) (x : Value), NU (ow.length ≤ 1000 ∧ hs.length ≤ 1000 ∧ pr.length ≤ 1000) → TX lv P tab c m [(0, .agg [.own 0 0 ow.length, .own 1 0 hs.length, .own 2 0 pr.length]), (1, .g (.i o)), (2, .g (.i p)), (3, .g (.raw 0 x))] [(0, .arr 1 true (ow.map GV.i)), (1, .arr 1 true (hs.map (GV.raw 0))), (2, .arr 1 true (pr.map GV.i))] (EndM tab rs (ow ++ [o]) (pr ++ [p]) (hs ++ [x]))) : VtxC P f := by
 rw [Bool.and_eq_true] at hl
 subst hn; subst hrs
 exact Zox ht hf hb he (Nat.le_of_ble_eq_true hl.1) (Nat.le_of_ble_eq_true hl.2) fun ow pr hs o p x hsz => (h ow pr hs o p x (NU.mk hsz)).run
theorem Zwj  {k0 k1 k2 m0 m1 m2 : Nat} {d0 d1 d2 : Bool} {x0 x1 x2 : List GV} {ow pr : List Int} {hs : List Value} (h1 : gRL tab sl hl [r0] [.agg [.own k0 0 m0, .own k1 0 m1, .own k2 0 m2]]) (b0 : gHL hl k0 (.arr 1 d0 x0)) (b1 : gHL hl k1 (.arr 1 d1 x1)) (b2 : gHL hl k2 (.arr 1 d2 x2)) (hn : RF ([k0, k1, k2].Nodup))
  (e0 : EQ x0 (ow.map GV.i)) (e1 : EQ x1 (hs.map (GV.raw 0))) (e2 : EQ x2 (pr.map GV.i)) (hm : NU (m0 = ow.length ∧ m1 = hs.length ∧ m2 = pr.length)) : QA (EndM tab [r0] ow pr hs) .ret n sl hl := by
 obtain ⟨rfl, rfl, rfl⟩ := hm.e
 exact ⟨k0, k1, k2, d0, d1, d2, h1.s.e n, by rw [← e0.e]; exact b0.s.e, by rw [← e1.e]; exact b1.s.e, by rw [← e2.e]; exact b2.s.e, hn.e⟩
end
def EndS (tab : Tab) (rs : List ResultVar) (v : Value) : Exit → AState → Prop
 | .ret, S => ∃ e xs, resL tab S rs = some [.g (.ex v e xs), .g (.int .i64 0)]
 | _, _ => False
section
variable {P : Program} {tab : Tab} {sl : List (Nat × PV)} {hl : List (Nat × Block)} {n : Nat}
theorem ZwT  {e : Nat}  (h1 : gRL tab sl hl [r0, r1] [.g (.ex v e xs), .g (.int .i64 0)]) : QA (EndS tab [r0, r1] v) .ret n sl hl := ⟨e, xs, h1.s.e n⟩
theorem Zx7 (lv : Nat → List Nat) (ht : TabOk P tab)       {e : Nat}  (hf : P.funcs[f]? = some fn) (hb : fn.body = some c) (hn : fn.ntmps = m) (hrs : fn.results.toList = rs) (he : ∀ args w, (callFunc f args).run P w = .ok (.enter f args) w) (hl : (Nat.ble 2 m && Nat.blt m 65536) = true)
  (h : ∀ v, TX lv P tab c m [(0, .g g0), (1, .g (.ex v e xs))] [] (EndS tab rs v)) : Zoo P f g0 (.sl e xs) := by
 rw [Bool.and_eq_true] at hl
 subst hn; subst hrs
 have hm := Nat.le_of_ble_eq_true hl.2
 refine ⟨he, fun w v0 v1 h0 h1 => calls_of_wp hf hb ?_⟩
 obtain ⟨F1, h1⟩ := h1
 have hrel := ZhV (fn := fn) (gs := [g0, .ex v1 e xs]) (Nat.le_of_ble_eq_true hl.1) hm w [v0, v1] rfl (fun i hi => by
  match i, hi with
  | 0, _ => exact h0
  | 1, _ => exact ⟨F1, .ex v1 e xs F1 h1⟩)
 have hrel2 : Rel ⟨w, [], np0⟩ (mkX fn.ntmps [(0, .g g0), (1, .g (.ex v1 e xs))] [] 0) { tmps := [v0, v1].toArray ++ Array.replicate (fn.ntmps - [v0, v1].toArray.size) Go.undef, defers := [] } w := by
  refine ⟨_, _, hrel.size, fun t => ?_, hrel.dfr, fun i => hrel.blk i, fun i j b d d' hi => by simp [mkX, ZaH, Block.live] at hi, fun i b d hi => by simp [mkX, ZaH, Block.live] at hi, hrel.keep, fun t x hp => (by rw [show pinned (mkX fn.ntmps [(0, PV.g g0), (1, .g (.ex v1 e xs))] [] 0).n t = false from ZdB hm t] at hp; cases hp), fun t v hv ht => hrel.old.2 t v hv ht⟩
  show PRep w _ _ _ (Zbs [(0, .g g0), (1, .g (.ex v1 e xs))] t)
  simp only [Zbs]
  split
  ·rename_i e; subst e; exact hrel.slot 0
  split
  ·rename_i e; subst e; exact hrel.slot 1
  ·exact .undef _
 refine wp_mono ((h v1).run ⟨w, [], np0⟩ _ w hrel2) fun e' a' w' ⟨S', q, μ', who', h2⟩ => ?_
 cases e' with
 | normal | exit | goto | panic | outgrown => exact q.elim
 | ret =>
  obtain ⟨e2, x2, r1⟩ := q
  obtain ⟨vs, hvl, hrun, hp⟩ := Zfm ht h2 _ r1
  obtain ⟨u0, u1, rfl⟩ : ∃ u0 u1, vs = [u0, u1] := by
   match vs, hvl with
   | [a, b], _ => exact ⟨a, b, rfl⟩
  have z0 := hp 0 (by simp)
  have z1 := hp 1 (by simp)
  simp only [List.getElem_cons_zero, List.getElem_cons_succ] at z0 z1
  obtain ⟨_, z0, _⟩ := z0.g_inv
  obtain rfl := z0.unex.1
  obtain rfl := z1.int_inv
  have hres : (results fn a'.tmps).run P w' = .ok (.tuple #[u0, .int .i64 0]) w' := by
   have e0 : results fn a'.tmps = (do let vs ← fn.results.mapM (ZgY a'.tmps); Pure.pure (if h : vs.size = 1 then vs[0] else .tuple vs)) := rfl
   rw [e0, Array.mapM_eq_mapM_toList]
   simp [hrun]
  exact ⟨h2.dfr, _, hres, rfl, h2.keep⟩
variable {lv : Nat → List Nat} {Q : Exit → AState → Prop}
theorem ZtP (ht : TabOk P tab) (p : Prop) {rid : Nat} {l : List Oper} (h1 : p → gAF false P tab l.toArray n (4096 * rid + 4096) l (lv rid) Q 0 l sl hl []) (h2 : ¬ p → gAF false P tab l.toArray n (4096 * rid + 4096) l (lv rid) Q 0 l sl hl []) : TX lv P tab (.region rid l.toArray false) n sl hl Q :=
 (Classical.em p).elim (fun h => Zaf ht (h1 h)) fun h => Zaf ht (h2 h)
end
def EndU (tab : Tab) (rs : List ResultVar) (g0 g2 : GV) : Exit → AState → Prop
 | .ret, S => ∃ p0 p1 p2 ks, resL tab S rs = some [p0, p1, p2] ∧ absL absE S.heap [p0, p2] = some ([g0, g2], ks, true)
 | _, _ => False
section
variable {P : Program} {tab : Tab} {sl : List (Nat × PV)} {hl : List (Nat × Block)} {n : Nat}
theorem Zr0 {r2 : ResultVar} {p0 p1 p2 : PV} {x0 x2 : GV} {ks : List Nat} (h1 : gRL tab sl hl [r0, r1, r2] [p0, p1, p2]) (h2 : gAEL hl [p0, p2] [x0, x2] ks true) (h4 : EQ [x0, x2] [g0, g2]) : QA (EndU tab [r0, r1, r2] g0 g2) .ret n sl hl := ⟨p0, p1, p2, ks, h1.s.e n, by rw [← h4.e]; exact h2.s.e⟩
set_option maxHeartbeats 1000000 in
theorem Zx5 (lv : Nat → List Nat) (ht : TabOk P tab)      {gs : List GV}  {sl : List (Nat × PV)} (hf : P.funcs[f]? = some fn) (hb : fn.body = some c) (hn : fn.ntmps = m) (hrs : fn.results.toList = rs) (he : ∀ args w, (callFunc f args).run P w = .ok (.enter f args) w) (hl : (Nat.ble gs.length m && Nat.blt m 65536) = true)
  (hs' : gSG gs 0 sl) (h : TX lv P tab c m sl [] (EndU tab rs g0 g2)) : ConU P f gs g0 g2 := by
 have hs := hs'.s
 rw [Bool.and_eq_true] at hl
 subst hn; subst hrs
 have hm : fn.ntmps < 65536 := Nat.le_of_ble_eq_true hl.2
 refine ⟨he, fun w args hal hg => calls_of_wp hf hb ?_⟩
 have hrel := ZhV (Nat.le_of_ble_eq_true hl.1) hm w args hal hg
 have hrel2 : Rel ⟨w, [], np0⟩ (mkX fn.ntmps sl [] 0) { tmps := args.toArray ++ Array.replicate (fn.ntmps - args.toArray.size) Go.undef, defers := [] } w := by
  refine ⟨_, _, hrel.size, fun t => ?_, hrel.dfr, fun i => hrel.blk i, fun i j b d d' hi => by simp [mkX, ZaH, Block.live] at hi, fun i b d hi => by simp [mkX, ZaH, Block.live] at hi, hrel.keep, fun t x hp => (by rw [show pinned (mkX fn.ntmps sl [] 0).n t = false from ZdB hm t] at hp; cases hp), fun t v hv ht => hrel.old.2 t v hv ht⟩
  rcases hs.e t with e | ⟨x, h1, h2, h3⟩
  ·have : (mkX fn.ntmps sl [] 0).slots t = .undef := e
   rw [this]; exact .undef _
  ·have h4 : (mkX fn.ntmps sl [] 0).slots t = .g x := h3
   have h5 := hrel.slot t
   simp only [Zc2, Nat.sub_zero] at h5 h2
   rw [h2] at h5
   rw [h4]; exact h5
 refine wp_mono (h.run ⟨w, [], np0⟩ _ w hrel2) fun e' a' w' ⟨S', q, μ', who', h2⟩ => ?_
 cases e' with
 | normal | exit | goto | panic | outgrown => exact q.elim
 | ret =>
  obtain ⟨p0, p1, p2, ks, r1, r2⟩ := q
  obtain ⟨vs, hvl, hrun, hp⟩ := Zfm ht h2 _ r1
  obtain ⟨u0, u1, u2, rfl⟩ : ∃ u0 u1 u2, vs = [u0, u1, u2] := by
   match vs, hvl with
   | [a, b, c], _ => exact ⟨a, b, c, rfl⟩
  have z0 := hp 0 (by simp)
  have z2 := hp 2 (by simp)
  simp only [List.getElem_cons_zero, List.getElem_cons_succ] at z0 z2
  have hres : (results fn a'.tmps).run P w' = .ok (.tuple #[u0, u1, u2]) w' := by
   have e0 : results fn a'.tmps = (do let vs ← fn.results.mapM (ZgY a'.tmps); Pure.pure (if h : vs.size = 1 then vs[0] else .tuple vs)) := rfl
   rw [e0, Array.mapM_eq_mapM_toList]
   simp [hrun]
  have hpp : ∀ i (hi : i < [p0, p2].length), PRep w' μ' S'.heap (([u0, u2] : List Value)[i]'hi) ([p0, p2][i]) := fun i hi => by
   match i, hi with
   | 0, _ => exact z0
   | 1, _ => exact z2
  obtain ⟨hk1, hk2⟩ := ZhM ZiM (nid := ks.foldl max 0 + 1) [p0, p2] h2 [u0, u2] rfl hpp r2
  have hnk : ks.foldl max 0 + 1 ∉ ks := by
   intro hm
   have key : ∀ (l : List Nat) (m x : Nat), x ∈ l ∨ x ≤ m → x ≤ l.foldl max m := by
    intro l
    induction l with
    | nil => intro m x hx; simpa using hx
    | cons y l ihl =>
     intro m x hx
     simp only [List.foldl_cons]
     refine ihl (max m y) x ?_
     rcases hx with hx | hx
     ·rcases List.mem_cons.1 hx with rfl | hx
      ·exact .inr (Nat.le_max_right _ _)
      ·exact .inl hx
     ·exact .inr (Nat.le_trans hx (Nat.le_max_left _ _))
   have := key ks 0 _ (.inl hm); omega
  obtain ⟨who2, Gs, _, hg2, hG, g3, nc1, o1, _, _⟩ := hk2 hnk
  obtain ⟨o2, o3⟩ := o1 rfl
  obtain ⟨hgl, tops⟩ := ZhC (w := w') (μ := μ') (h := S'.heap) (fun {h'} hh {v p x ks} hv hx => Zm4 hh hv hx) [p0, p2] S'.heap (fun _ _ _ _ h => h) [u0, u2] rfl hpp r2
  refine ⟨h2.dfr, _, hres, u0, u1, u2, rfl, _, Gs.flatten, rfl, .tup [u0, u2] [g0, g2] Gs rfl hG g3, .tup [u0, u2] [g0, g2] rfl tops, o2, fun b hb => ⟨?_, (o3 b hb).2.2⟩, h2.keep⟩
  exact (o3 b hb).2.1.old rfl
end
end Go.Proofs.YtjjidamlmebaaaaGreat

