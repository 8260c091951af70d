/- Functions that look at what they were handed while they append to rows of their own, and functions whose result shares memory with it. Over any program; the table is right ('TabOk'). -/
import Derived.Test.YtjjidamlmebaaaaGreatPU3
namespace Go.Proofs.YtjjidamlmebaaaaGreat
open Go.RowKit
open Shp
variable {w : World} {F : List Nat} {v : Value} {xs : List GV} {o : List Int} {m : Nat} {a b g1 g2 : GV} {c : Code} {f : FuncId} {fn : Func} {rs : List ResultVar}
theorem GRep.sl_to  {e : Nat} {ys : List GV} (h : GRep w F v (.sl e xs)) (hl : ys.length = xs.length) (hn : ∀ x ∈ ys, x.ncells = e) (hk : ∀ i (hi : i < xs.length) (v : Value) (F : List Nat), GRep w F v xs[i] → GRep w F v (ys[i]'(hl ▸ hi))) : GRep w F v (.sl e ys) := by
 cases h with
 | atom x hx => simp [GV.atom] at hx
 | sl a cap e vs gs Fs hv hF he hg le max nil ad hc h rm =>
  have := GRep.sl (w := w) a cap e vs ys Fs (by omega) (by omega) he hn (by omega) max nil ad hc (fun i hi => hk i (by omega) _ _ (h i (by omega))) rm
  rw [hl] at this; exact this
theorem GRep.vbs  {e : Nat}  (h : GRep w F v (.sl e xs)) : VB w.heap.size v := (GRep.ex v e xs F h).vb rfl
theorem GRep.exi  (h : GRep w F v (.ints o)) : GRep w F v (.ex v 1 (o.map GV.i)) := .ex v 1 _ F h
theorem GRep.exb  {nx : List (List Int)} (h : GRep w F v (.rows nx)) : GRep w F v (.ex v 1 (nx.map (bdI w.heap.size))) := by
 refine .ex v 1 _ F (h.sl_to (by simp) (fun x hx => ?_) fun i hi u G hg => ?_)
 ·obtain ⟨y, _, rfl⟩ := List.mem_map.1 hx; rfl
 ·simp only [List.getElem_map] at hg ⊢
  exact .bd u _ _ _ G hg hg.lt
section
variable {P : Program} {tab : Tab}
theorem Zr1  {x : GV} (hl : (Nat.ble 1 m && Nat.blt m 65536) = true)    (hg : GRep w F v x) : Rel ⟨w, [], np0⟩ (mkX m [(0, .g x)] [(0, .lim w.heap.size)] 0) { tmps := #[v] ++ Array.replicate (m - (#[v] : Array Value).size) Go.undef, defers := [] } w := by
 rw [Bool.and_eq_true] at hl
 have hm : m < 65536 := Nat.le_of_ble_eq_true hl.2
 have h1 : 1 ≤ m := Nat.le_of_ble_eq_true hl.1
 have e0 : #[v] ++ Array.replicate (m - (#[v] : Array Value).size) Go.undef = ([v].toArray ++ Array.replicate (m - [v].toArray.size) Go.undef : Array Value) := rfl
 have hrel : RelAt ⟨w, [], np0⟩ (mkX m [(0, .g x)] [] 0) { tmps := #[v] ++ Array.replicate (m - (#[v] : Array Value).size) Go.undef, defers := [] } w (fun _ => none) (fun _ => none) := by
  refine ⟨?_, fun t => ?_, rfl, fun id => trivial, fun i j b d d' hi => (by simp [mkX, ZaH, Block.live] at hi), fun i b d hi => (by simp [mkX, ZaH, Block.live] at hi), Keeps.refl _ _, fun t y hp => (by rw [show pinned (mkX m [(0, PV.g x)] [] 0).n t = false from ZdB hm t] at hp; cases hp), fun t v hv ht => by simp [np0] at hv⟩
  ·show _ = m % 65536
   rw [Nat.mod_eq_of_lt hm]; simp; omega
  ·show PRep w (fun _ => none) (ZaH []) _ (Zbs [(0, .g x)] t)
   simp only [Zbs]
   split
   ·rename_i e
    subst e
    have : (#[v] ++ Array.replicate (m - (#[v] : Array Value).size) Go.undef).getD 0 Go.undef = v := by simp [Array.getD]
    rw [this]
    exact .g _ _ F hg (by rintro b _ ⟨id, d, hl, _⟩; simp [ZaH, Block.live] at hl)
   ·exact .undef _
 have h2 := hrel.lim (i := 0) (N := w.heap.size) (by simp [mkX, ZaH]) (Nat.le_refl _) rfl
 rw [show (mkX m [(0, PV.g x)] [] 0).write 0 (.lim w.heap.size) = mkX m [(0, .g x)] [(0, .lim w.heap.size)] 0 from ZmD 0 _] at h2
 exact ⟨_, _, h2⟩
theorem agg2  (h : GRep w F v (.agg [a, b])) : ∃ v0 v1 F0 F1, v = .agg #[v0, v1] ∧ F = F0 ++ F1 ∧ (v0.oneCell' = true ∧ v1.oneCell' = true) ∧ GRep w F0 v0 a ∧ GRep w F1 v1 b := by
 obtain ⟨vs, Fs, rfl, rfl, h1, hv, hF, h2⟩ := h.agg_inv
 match vs, Fs, hv, hF, h1, h2 with
 | [v0, v1], [F0, F1], hv, hF, h1, h2 => exact ⟨v0, v1, F0, F1, rfl, by simp, ⟨h1 v0 (by simp), h1 v1 (by simp)⟩, h2 0 (by simp), h2 1 (by simp)⟩
theorem agg3  {c : GV} (h : GRep w F v (.agg [a, b, c])) : ∃ v0 v1 v2 F0 F1 F2, v = .agg #[v0, v1, v2] ∧ F = F0 ++ (F1 ++ F2) ∧ (v0.oneCell' = true ∧ v1.oneCell' = true ∧ v2.oneCell' = true) ∧ GRep w F0 v0 a ∧ GRep w F1 v1 b ∧ GRep w F2 v2 c := by
 obtain ⟨vs, Fs, rfl, rfl, h1, hv, hF, h2⟩ := h.agg_inv
 match vs, Fs, hv, hF, h1, h2 with
 | [v0, v1, v2], [F0, F1, F2], hv, hF, h1, h2 => exact ⟨v0, v1, v2, F0, F1, F2, rfl, by simp, ⟨h1 v0 (by simp), h1 v1 (by simp), h1 v2 (by simp)⟩, h2 0 (by simp), h2 1 (by simp), h2 2 (by simp)⟩
theorem ZoG  (vs : List Value) (gs : List GV) (Fs : List (List Nat)) (hv : vs.length = gs.length) (hF : Fs.length = gs.length) (h1 : ∀ v ∈ vs, v.oneCell' = true) (hg : ∀ x ∈ gs, x.ncells = 1) (h : ∀ i (hi : i < gs.length), GRep w (Fs[i]'(hF ▸ hi)) (vs[i]'(hv ▸ hi)) gs[i]) : GRep w Fs.flatten (.agg vs.toArray) (.agg gs) := .agg vs gs Fs hv hF h1 hg h
theorem Zob (lv : Nat → List Nat) (ht : TabOk P tab)       {nx : List (List Int)} {r : GV} (hf : P.funcs[f]? = some fn) (hb : fn.body = some c) (hn : fn.ntmps = m) (hrs : fn.results.toList = rs) (he : ∀ args w, (callFunc f args).run P w = .ok (.enter f args) w) (hl : (Nat.ble 1 m && Nat.blt m 65536) = true)
  (h : ∀ N va vn, VB N va → VB N vn → TX lv P tab c m [(0, .g (.agg [.ex va 1 (o.map GV.i), .ex vn 1 (nx.map (bdI N))]))] [(0, .lim N)] (EndR tab rs r)) : Con P f [.agg [.ints o, .rows nx]] r := by
 subst hn; subst hrs
 refine ⟨he, fun w args hal hg => ?_⟩
 obtain ⟨v, rfl⟩ : ∃ v, args = [v] := by
  match args, hal with
  | [v], _ => exact ⟨v, rfl⟩
 obtain ⟨F, hg⟩ := hg 0 (by simp)
 obtain ⟨v0, v1, F0, F1, e, rfl, ⟨k0, k1⟩, h0, h1⟩ := agg2 hg
 have e' : v = .agg #[v0, v1] := e
 subst e'
 have hx : GRep w ([F0, F1].flatten) (.agg [v0, v1].toArray) (.agg [.ex v0 1 (o.map GV.i), .ex v1 1 (nx.map (bdI w.heap.size))]) := ZoG [v0, v1] _ [F0, F1] rfl rfl (by simp [k0, k1]) (by simp [GV.ncells]) fun i hi => by
  match i, hi with
  | 0, _ => exact h0.exi
  | 1, _ => exact h1.exb
 refine calls_of_wp hf hb ?_
 refine wp_mono ((h w.heap.size v0 v1 h0.vbs h1.vbs).run ⟨w, [], np0⟩ _ w (Zr1 hl hx)) fun e a' w' ⟨S', h1, μ', who', h2⟩ => ?_
 cases e with
 | normal => obtain ⟨v, q1, q2⟩ := ZmK ht h2 h1; exact ⟨h2.dfr, v, q1, q2.gives⟩
 | ret => obtain ⟨v, q1, q2⟩ := ZmK ht h2 h1; exact ⟨h2.dfr, v, q1, q2.gives⟩
 | exit | goto | panic | outgrown => exact h1.elim
def EndV (tab : Tab) (rs : List ResultVar) (v0 v1 v2 : Value) (g1 g2 : GV) : Exit → AState → Prop
 | .ret, S => ∃ e0 e1 e2 x0 x1 x2 q1 q2 ks, resL tab S rs = some [.agg [.g (.ex v0 e0 x0), .g (.ex v1 e1 x1), .g (.ex v2 e2 x2), q1, q2]] ∧ absL absE S.heap [q1, q2] = some ([g1, g2], ks, true)
 | _, _ => False
set_option maxHeartbeats 1000000 in
theorem ZnQ (lv : Nat → List Nat) (ht : TabOk P tab)      {p : List Int} {nx : List (List Int)}  (hf : P.funcs[f]? = some fn) (hb : fn.body = some c) (hn : fn.ntmps = m) (hrs : fn.results.toList = rs) (he : ∀ args w, (callFunc f args).run P w = .ok (.enter f args) w) (hl : (Nat.ble 1 m && Nat.blt m 65536) = true) (hc1 : g1.ncells = 1 ∧ g2.ncells = 1)
  (h : ∀ N va vn vp, VB N va → VB N vn → VB N vp → TX lv P tab c m [(0, .g (.agg [.ex va 1 (o.map GV.i), .ex vn 1 (nx.map (bdI N)), .ex vp 1 (p.map GV.i)]))] [(0, .lim N)] (EndV tab rs va vp vn g1 g2)) : ConV P f (.agg [.ints o, .rows nx, .ints p]) (.agg [.ints o, .ints p, .rows nx, g1, g2]) := by
 subst hn; subst hrs
 refine ⟨he, fun w v F hg => ?_⟩
 obtain ⟨v0, v1, v2, F0, F1, F2, rfl, rfl, ⟨k0, k1, k2⟩, h0, h1, h3⟩ := agg3 hg
 have hx : GRep w ([F0, F1, F2].flatten) (.agg [v0, v1, v2].toArray) (.agg [.ex v0 1 (o.map GV.i), .ex v1 1 (nx.map (bdI w.heap.size)), .ex v2 1 (p.map GV.i)]) := ZoG [v0, v1, v2] _ [F0, F1, F2] rfl rfl (by simp [k0, k1, k2]) (by simp [GV.ncells]) fun i hi => by
  match i, hi with
  | 0, _ => exact h0.exi
  | 1, _ => exact h1.exb
  | 2, _ => exact h3.exi
 refine calls_of_wp hf hb ?_
 refine wp_mono ((h w.heap.size v0 v1 v2 h0.vbs h1.vbs h3.vbs).run ⟨w, [], np0⟩ _ w (Zr1 hl hx)) fun e a' w' ⟨S', q, μ', who', h2⟩ => ?_
 cases e with
 | normal | exit | goto | panic | outgrown => exact q.elim
 | ret =>
  obtain ⟨e0, e1, e2, x0, x1, x2, q1, q2, ks, r1, r2⟩ := q
  obtain ⟨vs, hvl, hrun, hp⟩ := Zfm ht h2 _ r1
  obtain ⟨u, rfl⟩ : ∃ u, vs = [u] := by
   match vs, hvl with
   | [u], _ => exact ⟨u, rfl⟩
  have hres : (results fn a'.tmps).run P w' = .ok u w' := by
   have e0 : results fn a'.tmps = (do let vs ← fn.results.mapM (ZgY a'.tmps); Pure.pure (if h : vs.size = 1 then vs[0] else .tuple vs)) := rfl
   rw [e0, Array.mapM_eq_mapM_toList]
   simp [hrun]
  have hu := hp 0 (by simp)
  simp only [List.getElem_cons_zero] at hu
  obtain ⟨us, rfl, hul, hu1, hu2⟩ := hu.agg_inv
  obtain ⟨u0, u1, u2, u3, u4, rfl⟩ : ∃ u0 u1 u2 u3 u4, us = [u0, u1, u2, u3, u4] := by
   match us, hul with
   | [a, b, c, d, e], _ => exact ⟨a, b, c, d, e, rfl⟩
  have z0 := hu2 0 (by simp)
  have z1 := hu2 1 (by simp)
  have z2 := hu2 2 (by simp)
  have z3 := hu2 3 (by simp)
  have z4 := hu2 4 (by simp)
  simp only [List.getElem_cons_zero, List.getElem_cons_succ] at z0 z1 z2 z3 z4
  obtain ⟨_, z0, _⟩ := z0.g_inv
  obtain ⟨_, z1, _⟩ := z1.g_inv
  obtain ⟨_, z2, _⟩ := z2.g_inv
  obtain rfl := z0.unex.1
  obtain rfl := z1.unex.1
  obtain rfl := z2.unex.1
  obtain ⟨hk1, hk2⟩ := ZhM ZiM (nid := ks.foldl max 0 + 1) [q1, q2] h2 [u3, u4] rfl (fun i hi => by
   match i, hi with
   | 0, _ => exact z3
   | 1, _ => exact z4) r2
  have hnk : ks.foldl max 0 + 1 ∉ ks := by
   intro hm
   have key : ∀ (l : List Nat) (m x : Nat), x ∈ l ∨ x ≤ m → x ≤ l.foldl max m := by
    intro l
    induction l with
    | nil => intro m x hx; simpa using hx
    | cons y l ihl =>
     intro m x hx
     simp only [List.foldl_cons]
     refine ihl (max m y) x ?_
     rcases hx with hx | hx
     ·rcases List.mem_cons.1 hx with rfl | hx
      ·exact .inr (Nat.le_max_right _ _)
      ·exact .inl hx
     ·exact .inr (Nat.le_trans hx (Nat.le_max_left _ _))
   have := key ks 0 _ (.inl hm); omega
  obtain ⟨who2, Gs, _, hg2, hG, g3, _, o1, _, _⟩ := hk2 hnk
  obtain ⟨_, o3⟩ := o1 rfl
  obtain ⟨G0, G1, rfl⟩ : ∃ G0 G1, Gs = [G0, G1] := by
   match Gs, hG with
   | [a, b], _ => exact ⟨a, b, rfl⟩
  have hk := h2.keep
  have y0 := (h0.keeps0 hk)
  have y1 := (h1.keeps0 hk)
  have y2 := (h3.keeps0 hk)
  have y3 := g3 0 (by simp)
  have y4 := g3 1 (by simp)
  simp only [List.getElem_cons_zero, List.getElem_cons_succ] at y3 y4
  refine ⟨h2.dfr, _, hres, _, [F0, F2, F1, G0, G1].flatten, rfl, ZoG [u0, u1, u2, u3, u4] _ [F0, F2, F1, G0, G1] rfl rfl hu1 (fun x hx => by rcases List.mem_cons.1 hx with rfl | hx; rfl; rcases List.mem_cons.1 hx with rfl | hx; rfl; rcases List.mem_cons.1 hx with rfl | hx; rfl; rcases List.mem_cons.1 hx with rfl | hx; exact hc1.1; rw [List.mem_singleton.1 hx]; exact hc1.2) (fun i hi => ?_), fun b hb => ?_, hk⟩
  ·match i, hi with
   | 0, _ => exact y0
   | 1, _ => exact y2
   | 2, _ => exact y1
   | 3, _ => exact y3
   | 4, _ => exact y4
  ·have hnew : ∀ b ∈ [G0, G1].flatten, w.heap.size ≤ b := fun b hb => by simpa using (o3 b hb).2.1.old rfl
   simp only [List.flatten_cons, List.flatten_nil, List.append_nil, List.mem_append] at hb ⊢
   rcases hb with hb | hb | hb | hb | hb
   ·exact .inr (.inl hb)
   ·exact .inr (.inr (.inr hb))
   ·exact .inr (.inr (.inl hb))
   ·exact .inl (hnew b (by simp [hb]))
   ·exact .inl (hnew b (by simp [hb]))
variable {sl : List (Nat × PV)} {hl : List (Nat × Block)} {n : Nat}
theorem ZwG {r0 : ResultVar} {v0 v1 v2 : Value} {e0 e1 e2 : Nat} {x0 x1 x2 : List GV} {q1 q2 : PV} {y1 y2 : GV} {ks : List Nat} (h1 : gRL tab sl hl [r0] [.agg [.g (.ex v0 e0 x0), .g (.ex v1 e1 x1), .g (.ex v2 e2 x2), q1, q2]]) (h2 : gAEL hl [q1, q2] [y1, y2] ks true) (h4 : EQ [y1, y2] [g1, g2]) : QA (EndV tab [r0] v0 v1 v2 g1 g2) .ret n sl hl :=
 ⟨e0, e1, e2, x0, x1, x2, q1, q2, ks, h1.s.e n, by rw [← h4.e]; exact h2.s.e⟩
end
end Go.Proofs.YtjjidamlmebaaaaGreat

