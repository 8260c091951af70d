/- Abstract states as lists: the rules of a walk for literals, lengths, joins and calls. Over any program; no conditions. -/
import Derived.Test.YtdkjeodenbffnaaF2
namespace Go.Proofs.Ytdkjeodenbffnaa
open Go.RowKit
open Shp

section
variable {tab : Tab} {sl : List (Nat × PV)} {hl : List (Nat × Block)}

theorem HL_deadN {j : Nat} {B : Block} (h : HL hl j B) : HL (deadL [] hl) j B := h
theorem HL_deadC {k j : Nat} {ks : List Nat} {B : Block} (h : HL (deadL ks ((k, .dead) :: hl)) j B) : HL (deadL (k :: ks) hl) j B := h
theorem deadL_app : ∀ (ws vs : List Nat) (hl : List (Nat × Block)), deadL (ws ++ vs) hl = deadL vs (deadL ws hl)
  | [], _, _ => rfl
  | w :: ws, vs, hl => deadL_app ws vs ((w, .dead) :: hl)
theorem HL_deadA {j : Nat} {ws vs : List Nat} {B : Block} (h : HL (deadL vs (deadL ws hl)) j B) : HL (deadL (ws ++ vs) hl) j B := by rw [deadL_app]; exact h

structure AND (a b c : Bool) : Prop where
  e : (a && b) = c
theorem AND_tt : AND true true true := ⟨rfl⟩
theorem AND_f (b : Bool) : AND false b false := ⟨rfl⟩
theorem AND_tf : AND true false false := ⟨rfl⟩
theorem AND_t (b : Bool) : AND true b b := ⟨rfl⟩

/-! data taken over -/
structure AB (hl : List (Nat × Block)) (p : PV) (x : GV) (ks : List Nat) (d : Bool) : Prop where
  e : absorb (lookH hl) p = some (x, ks, d)
theorem AB_g {v : GV} {b : Bool} (hf : RF (v.flat = b)) : AB hl (.g v) v [] b := ⟨by simp only [absorb, hf.e]⟩
theorem AB_gi (k : IntKind) (n : Int) : AB hl (.g (.int k n)) (.int k n) [] true := AB_g (RF.mk rfl)
theorem AB_gb (b : Bool) : AB hl (.g (.bool b)) (.bool b) [] true := AB_g (RF.mk rfl)
theorem AB_gs (b : ByteArray) : AB hl (.g (.str b)) (.str b) [] true := AB_g (RF.mk rfl)
theorem AB_gl (e : Nat) (xs : List GV) : AB hl (.g (.sl e xs)) (.sl e xs) [] false := AB_g (RF.mk rfl)
theorem AB_nils (e : Nat) : AB hl (.nils (e + 1)) (.sl (e + 1) []) [] true := ⟨by simp [absorb]⟩
theorem AB_own {id lo len e : Nat} {dp : Bool} {xs ys : List GV} (hb : HL hl id (.arr e dp xs)) (hc : CUT xs lo len ys) : AB hl (.own id lo len) (.sl e ys) [id] dp := ⟨by
  have h1 := hc.l
  simp only [absorb, hb.e, h1, if_true, hc.e]⟩
structure ABL (hl : List (Nat × Block)) (ps : List PV) (gs : List GV) (ks : List Nat) (d : Bool) : Prop where
  e : absL absorb (lookH hl) ps = some (gs, ks, d)
theorem ABL_nil (hl : List (Nat × Block)) : ABL hl [] [] [] true := ⟨rfl⟩
theorem ABL_cons {p : PV} {ps : List PV} {x : GV} {xs : List GV} {k ks : List Nat} {d ds dd : Bool} (h1 : AB hl p x k d) (h2 : ABL (deadL k hl) ps xs ks ds) (h3 : AND d ds dd) : ABL hl (p :: ps) (x :: xs) (k ++ ks) dd := ⟨by
  have h4 := h2.e
  rw [lookH_dead] at h4
  simp only [absL, h1.e, h4, h3.e]⟩
structure AE (hl : List (Nat × Block)) (p : PV) (x : GV) (ks : List Nat) (d : Bool) : Prop where
  e : absE (lookH hl) p = some (x, ks, d)
theorem AE_g {v : GV} {b : Bool} (hf : RF (v.flat = b)) : AE hl (.g v) v [] b := ⟨(AB_g (hl := hl) hf).e⟩
theorem AE_gi (k : IntKind) (n : Int) : AE hl (.g (.int k n)) (.int k n) [] true := AE_g (RF.mk rfl)
theorem AE_gb (b : Bool) : AE hl (.g (.bool b)) (.bool b) [] true := AE_g (RF.mk rfl)
theorem AE_gs (b : ByteArray) : AE hl (.g (.str b)) (.str b) [] true := AE_g (RF.mk rfl)
theorem AE_gl (e : Nat) (xs : List GV) : AE hl (.g (.sl e xs)) (.sl e xs) [] false := AE_g (RF.mk rfl)
structure ALLA (gs : List GV) (b : Bool) : Prop where
  e : gs.all GV.atom = b
theorem ALLA_nil : ALLA [] true := ⟨rfl⟩
theorem ALLA_int {k : IntKind} {n : Int} {gs : List GV} {b : Bool} (h : ALLA gs b) : ALLA (.int k n :: gs) b := ⟨by have := h.e; simpa [GV.atom] using this⟩
theorem ALLA_bool {n : Bool} {gs : List GV} {b : Bool} (h : ALLA gs b) : ALLA (.bool n :: gs) b := ⟨by have := h.e; simpa [GV.atom] using this⟩
theorem ALLA_str {n : ByteArray} {gs : List GV} {b : Bool} (h : ALLA gs b) : ALLA (.str n :: gs) b := ⟨by have := h.e; simpa [GV.atom] using this⟩
theorem ALLA_sl {e : Nat} {xs gs : List GV} : ALLA (.sl e xs :: gs) false := ⟨by simp [GV.atom]⟩
theorem AE_ga {gs : List GV} {b : Bool} (h : ALLA gs b) : AE hl (.g (.agg gs)) (.agg gs) [] b := AE_g (RF.mk h.e)
theorem AE_nils (e : Nat) : AE hl (.nils (e + 1)) (.sl (e + 1) []) [] true := ⟨(AB_nils (hl := hl) e).e⟩
theorem AE_own {id lo len e : Nat} {dp : Bool} {xs ys : List GV} (hb : HL hl id (.arr e dp xs)) (hc : CUT xs lo len ys) : AE hl (.own id lo len) (.sl e ys) [id] dp := ⟨(AB_own hb hc).e⟩
theorem AE_agg {cs : List PV} {gs : List GV} {ks : List Nat} {d : Bool} (h : ABL hl cs gs ks d) (hn : RF ((gs.all fun x => x.ncells == 1) = true)) : AE hl (.agg cs) (.agg gs) ks d := ⟨by simp only [absE, h.e, hn.e, if_true]⟩
structure AEL (hl : List (Nat × Block)) (ps : List PV) (gs : List GV) (ks : List Nat) (d : Bool) : Prop where
  e : absL absE (lookH hl) ps = some (gs, ks, d)
theorem AEL_nil (hl : List (Nat × Block)) : AEL hl [] [] [] true := ⟨rfl⟩
theorem AEL_cons {p : PV} {ps : List PV} {x : GV} {xs : List GV} {k ks : List Nat} {d ds dd : Bool} (h1 : AE hl p x k d) (h2 : AEL (deadL k hl) ps xs ks ds) (h3 : AND d ds dd) : AEL hl (p :: ps) (x :: xs) (k ++ ks) dd := ⟨by
  have h4 := h2.e
  rw [lookH_dead] at h4
  simp only [absL, h1.e, h4, h3.e]⟩

/-! operands, many -/
structure EVP (sl : List (Nat × PV)) (tab : Tab) (E : TypeId) (xs : List (Nat × Operand)) (ps : List PV) : Prop where
  e : ∀ n hl nx, (xs.map fun (x : Nat × Operand) => (mkX n sl hl nx).ev tab E x.2) = ps
theorem EVP_nil (sl : List (Nat × PV)) (tab : Tab) (E : TypeId) : EVP sl tab E [] [] := ⟨fun _ _ _ => rfl⟩
theorem EVP_cons {E : TypeId} {j : Nat} {x : Operand} {xs : List (Nat × Operand)} {p : PV} {ps : List PV} (h1 : EV sl tab E x p) (h2 : EVP sl tab E xs ps) : EVP sl tab E ((j, x) :: xs) (p :: ps) := ⟨fun n hl nx => by simp only [List.map_cons, h1.e, h2.e]⟩
structure EVF (sl : List (Nat × PV)) (tab : Tab) (ti : TI) (xs : List (Nat × Operand)) (ps : List (Nat × PV)) : Prop where
  e : ∀ n hl nx, (xs.map fun (x : Nat × Operand) => (x.1, (mkX n sl hl nx).ev tab (partTy ti x.1) x.2)) = ps
theorem EVF_nil (sl : List (Nat × PV)) (tab : Tab) (ti : TI) : EVF sl tab ti [] [] := ⟨fun _ _ _ => rfl⟩
theorem EVF_cons {ti : TI} {j : Nat} {x : Operand} {xs : List (Nat × Operand)} {p : PV} {ps : List (Nat × PV)} (h1 : EV sl tab (partTy ti j) x p) (h2 : EVF sl tab ti xs ps) : EVF sl tab ti ((j, x) :: xs) ((j, p) :: ps) := ⟨fun n hl nx => by simp only [List.map_cons, h1.e, h2.e]⟩
structure ARG (sl : List (Nat × PV)) (tab : Tab) (xs : List Operand) (ts : List TypeId) (ps : List PV) : Prop where
  e : ∀ n hl nx, (mkX n sl hl nx).args tab xs ts = ps
theorem ARG_nil (sl : List (Nat × PV)) (tab : Tab) (ts : List TypeId) : ARG sl tab [] ts [] := ⟨fun _ _ _ => ag_nil _ _ _⟩
theorem ARG_cons {x : Operand} {xs : List Operand} {t : TypeId} {ts : List TypeId} {p : PV} {ps : List PV} (h1 : EV sl tab t x p) (h2 : ARG sl tab xs ts ps) : ARG sl tab (x :: xs) (t :: ts) (p :: ps) := ⟨fun _ _ _ => ag_cons (h1.e _ _ _) (h2.e _ _ _)⟩
theorem ARG_cons0 {x : Operand} {xs : List Operand} {p : PV} {ps : List PV} (h1 : EV sl tab 0 x p) (h2 : ARG sl tab xs [] ps) : ARG sl tab (x :: xs) [] (p :: ps) := ⟨fun _ _ _ => ag_cons0 (h1.e _ _ _) (h2.e _ _ _)⟩

/-! what callees are told -/
structure VW (hl : List (Nat × Block)) (n : Nat) (p : PV) (x : GV) : Prop where
  e : view (lookH hl) n p = some x
structure VWL (hl : List (Nat × Block)) (n : Nat) (ps : List PV) (xs : List GV) : Prop where
  e : viewL (view (lookH hl) n) ps = some xs
theorem VWL_nil (hl : List (Nat × Block)) (n : Nat) : VWL hl n [] [] := ⟨rfl⟩
theorem VWL_cons {n : Nat} {p : PV} {ps : List PV} {x : GV} {xs : List GV} (h1 : VW hl n p x) (h2 : VWL hl n ps xs) : VWL hl n (p :: ps) (x :: xs) := ⟨vl_cons h1.e h2.e⟩
theorem VW_g (hl : List (Nat × Block)) (n : Nat) (v : GV) : VW hl (n + 1) (.g v) v := ⟨rfl⟩
theorem VW_nils (hl : List (Nat × Block)) (n e : Nat) : VW hl (n + 1) (.nils (e + 1)) (.sl (e + 1) []) := ⟨vw_nils rfl⟩
theorem VW_own {n id lo len e : Nat} {dp : Bool} {xs ys : List GV} (hb : HL hl id (.arr e dp xs)) (hc : CUT xs lo len ys) : VW hl (n + 1) (.own id lo len) (.sl e ys) := ⟨by rw [vw_own hb.e hc.l, hc.e]⟩
theorem VW_ptr {n id : Nat} {cs : List PV} {gs : List GV} (hb : HL hl id (.box cs)) (hv : VWL hl n cs gs) (ha : RF ((gs.all fun x => x.ncells == 1) = true)) : VW hl (n + 1) (.ptr id 0) (.box gs) := ⟨vw_ptr hb.e hv.e ha.e⟩
theorem VW_agg {n : Nat} {cs : List PV} {gs : List GV} (hv : VWL hl n cs gs) (ha : RF ((gs.all fun x => x.ncells == 1) = true)) : VW hl (n + 1) (.agg cs) (.agg gs) := ⟨vw_agg hv.e ha.e⟩
theorem VW_fn {n : Nat} {f : FuncId} {cs : List PV} {gs : List GV} (hv : VWL hl n cs gs) : VW hl (n + 1) (.fn f cs) (.fn f gs) := ⟨vw_fn hv.e⟩
/-- which function is called -/
structure FN (sl : List (Nat × PV)) (tab : Tab) (x : Operand) (f : FuncId) (caps : List PV) : Prop where
  e : ∀ n hl nx, asFn ((mkX n sl hl nx).ev tab 0 x) = some (f, caps)
theorem FN_func (sl : List (Nat × PV)) (tab : Tab) (f : FuncId) : FN sl tab (.func f) f [] := ⟨fun _ _ _ => rfl⟩
theorem FN_fn {t : Nat} {f : FuncId} {cs : List PV} (h : SL sl t (.fn f cs)) : FN sl tab (.tmp t) f cs := ⟨fun _ _ _ => fn_tmp (h.e)⟩
theorem FN_g {t : Nat} {f : FuncId} {gs : List GV} {cs : List PV} (h : SL sl t (.g (.fn f gs))) (hm : MapG gs cs) : FN sl tab (.tmp t) f cs := ⟨fun n hl nx => by
  have : (mkX n sl hl nx).ev tab 0 (.tmp t) = .g (.fn f gs) := h.e
  rw [this, ← hm.e]; rfl⟩
theorem FN_tmp {t : Nat} {f : FuncId} {cs : List PV} {p : PV} (h : SL sl t p) (hp : RF (asFn p = some (f, cs))) : FN sl tab (.tmp t) f cs := ⟨fun n hl nx => by
  have : (mkX n sl hl nx).ev tab 0 (.tmp t) = p := h.e
  rw [this]; exact hp.e⟩

structure FNV (p : PV) (f : FuncId) (caps : List PV) : Prop where
  e : asFn p = some (f, caps)
theorem FNV_fn (f : FuncId) (cs : List PV) : FNV (.fn f cs) f cs := ⟨rfl⟩
theorem FNV_gm (f : FuncId) (gs : List GV) : FNV (.g (.fn f gs)) f (gs.map .g) := ⟨rfl⟩
theorem FNV_g {f : FuncId} {gs : List GV} {cs : List PV} (hm : MapG gs cs) : FNV (.g (.fn f gs)) f cs := ⟨by rw [← hm.e]; rfl⟩
theorem FN_val {t : Nat} {f : FuncId} {cs : List PV} {p : PV} (h : SL sl t p) (hp : FNV p f cs) : FN sl tab (.tmp t) f cs := FN_tmp h (RF.mk hp.e)
/-! what they hand back -/
structure RES (nid : Nat) (r : GV) (hl : List (Nat × Block)) (pv : PV) (hl' : List (Nat × Block)) : Prop where
  lf : (leavesR r).all GV.leaf = true
  l8 : (leavesR r).length ≤ 8
  fr : ∀ j, j < (leavesR r).length → lookH hl (nid + j) = .free
  pv : thawR nid r = pv
  hl : pushW (thawW nid (leavesR r)) hl = hl'
/-- leaves, one after the other -/
structure RSL (nid : Nat) (gs : List GV) (hl : List (Nat × Block)) (ps : List PV) (hl' : List (Nat × Block)) : Prop where
  lf : gs.all GV.leaf = true
  fr : ∀ j, j < gs.length → lookH hl (nid + j) = .free
  pv : thawPs nid gs = ps
  hl : pushW (thawW nid gs) hl = hl'
theorem RSL_nil (nid : Nat) (hl : List (Nat × Block)) : RSL nid [] hl [] hl := ⟨rfl, by simp, rfl, rfl⟩
theorem RSL_atom {nid : Nat} {x : GV} {gs : List GV} {ps : List PV} {hl' : List (Nat × Block)} (ha : x.atom = true) (hf : HL hl nid .free) (h : RSL (nid + 1) gs hl ps hl') : RSL nid (x :: gs) hl (.g x :: ps) hl' := by
  have e1 : thawP nid x = .g x := by cases x <;> simp_all [GV.atom, thawP]
  have e2 : thawB x = none := by cases x <;> simp_all [GV.atom, thawB]
  have e3 : x.leaf = true := by cases x <;> simp_all [GV.atom, GV.leaf]
  refine ⟨by simp [e3, h.lf], fun j hj => ?_, by simp [thawPs, e1, h.pv], by simp [thawW, e2, h.hl]⟩
  cases j with
  | zero => exact hf.e
  | succ j => have := h.fr j (by simpa using hj); rw [show nid + (j + 1) = nid + 1 + j by omega]; exact this
theorem RSL_int {nid : Nat} {k : IntKind} {m : Int} {gs : List GV} {ps : List PV} {hl' : List (Nat × Block)} (hf : HL hl nid .free) (h : RSL (nid + 1) gs hl ps hl') : RSL nid (.int k m :: gs) hl (.g (.int k m) :: ps) hl' := RSL_atom rfl hf h
theorem RSL_bool {nid : Nat} {b : Bool} {gs : List GV} {ps : List PV} {hl' : List (Nat × Block)} (hf : HL hl nid .free) (h : RSL (nid + 1) gs hl ps hl') : RSL nid (.bool b :: gs) hl (.g (.bool b) :: ps) hl' := RSL_atom rfl hf h
theorem RSL_str {nid : Nat} {s : ByteArray} {gs : List GV} {ps : List PV} {hl' : List (Nat × Block)} (hf : HL hl nid .free) (h : RSL (nid + 1) gs hl ps hl') : RSL nid (.str s :: gs) hl (.g (.str s) :: ps) hl' := RSL_atom rfl hf h
theorem RSL_sl {nid e m : Nat} {xs gs : List GV} {ps : List PV} {hl' : List (Nat × Block)} (hf : HL hl nid .free) (hm : LEN xs m) (h : RSL (nid + 1) gs ((nid, .arr e true xs) :: hl) ps hl') : RSL nid (.sl e xs :: gs) hl (.own nid 0 m :: ps) hl' := by
  refine ⟨by rw [List.all_cons, h.lf]; rfl, fun j hj => ?_, by simp [thawPs, thawP, h.pv, hm.e], by have := h.hl; simpa [thawW, thawB, pushW] using this⟩
  cases j with
  | zero => exact hf.e
  | succ j =>
    have := h.fr j (by simpa using hj)
    rw [show nid + (j + 1) = nid + 1 + j by omega]
    simp only [lookH] at this
    rwa [if_neg (by omega)] at this
theorem RES_atom {nid : Nat} {r : GV} (ha : r.atom = true) (hf : HL hl nid .free) : RES nid r hl (.g r) hl := by
  have e1 : leavesR r = [r] := by cases r <;> simp_all [GV.atom, leavesR, GV.leaves]
  have e2 : thawW nid (leavesR r) = [] := by rw [e1]; cases r <;> simp_all [GV.atom, thawW, thawB]
  have e3 : thawR nid r = .g r := by cases r <;> simp_all [GV.atom, thawR, thawC, thawP]
  have e4 : r.leaf = true := by cases r <;> simp_all [GV.atom, GV.leaf]
  refine ⟨by rw [e1]; simp [e4], by rw [e1]; simp, fun j hj => ?_, e3, by rw [e2]; rfl⟩
  rw [e1] at hj
  have : j = 0 := by simpa using hj
  subst this; exact hf.e
theorem RES_int {nid : Nat} {k : IntKind} {m : Int} (hf : HL hl nid .free) : RES nid (.int k m) hl (.g (.int k m)) hl := RES_atom rfl hf
theorem RES_bool {nid : Nat} {b : Bool} (hf : HL hl nid .free) : RES nid (.bool b) hl (.g (.bool b)) hl := RES_atom rfl hf
theorem RES_str {nid : Nat} {s : ByteArray} (hf : HL hl nid .free) : RES nid (.str s) hl (.g (.str s)) hl := RES_atom rfl hf
theorem RES_sl {nid e m : Nat} {xs : List GV} (hf : HL hl nid .free) (hm : LEN xs m) : RES nid (.sl e xs) hl (.own nid 0 m) ((nid, .arr e true xs) :: hl) := by
  refine ⟨rfl, by simp [leavesR, GV.leaves], fun j hj => ?_, by simp [thawR, thawC, thawP, hm.e], rfl⟩
  simp [leavesR, GV.leaves] at hj
  subst hj; exact hf.e
theorem RES_agg {nid : Nat} {gs : List GV} {ps : List PV} {hl' : List (Nat × Block)} (h : RSL nid gs hl ps hl') (h8 : RF (Nat.ble gs.length 8 = true)) : RES nid (.agg gs) hl (.agg ps) hl' :=
  ⟨h.lf, Nat.le_of_ble_eq_true h8.e, h.fr, by simp only [thawR, thawC, h.pv], h.hl⟩
/-- components, one after the other -/
structure RTL (nid : Nat) (cs : List GV) (hl : List (Nat × Block)) (ps : List PV) (hl' : List (Nat × Block)) : Prop where
  lf : (leavesL cs).all GV.leaf = true
  fr : ∀ j, j < (leavesL cs).length → lookH hl (nid + j) = .free
  pv : thawT nid cs = ps
  hl : pushW (thawW nid (leavesL cs)) hl = hl'
theorem thawW_app : ∀ (xs ys : List GV) (k : Nat), thawW k (xs ++ ys) = thawW k xs ++ thawW (k + xs.length) ys
  | [], ys, k => rfl
  | x :: xs, ys, k => by simp only [List.cons_append, thawW, thawW_app xs ys (k + 1), List.append_assoc, List.length_cons]; rw [Nat.add_assoc, Nat.add_comm 1]
theorem lookH_push_thaw : ∀ (gs : List GV) (k : Nat) (hl : List (Nat × Block)) (j : Nat), k + gs.length ≤ j → lookH (pushW (thawW k gs) hl) j = lookH hl j
  | [], _, _, _, _ => rfl
  | x :: xs, k, hl, j, hj => by
    simp only [List.length_cons] at hj
    simp only [thawW, pushW_app]
    rw [lookH_push_thaw xs (k + 1) _ j (by omega)]
    cases thawB x with
    | none => rfl
    | some b => simp only [pushW, lookH]; rw [if_neg (by omega)]
theorem RTL_nil (nid : Nat) (hl : List (Nat × Block)) : RTL nid [] hl [] hl := ⟨rfl, by simp [leavesL], rfl, rfl⟩
theorem RTL_comp {nid m : Nat} {c : GV} {gs cs : List GV} {p : PV} {qs ps : List PV} {hl1 hl' : List (Nat × Block)} (hc : c.leaves = gs) (hp : thawC nid c = p) (h1 : RSL nid gs hl qs hl1) (hm : gs.length = m) (h : RTL (nid + m) cs hl1 ps hl') : RTL nid (c :: cs) hl (p :: ps) hl' := by
  subst hm
  have h2 := h1.hl
  refine ⟨by simp only [leavesL, hc, List.all_append, h1.lf, h.lf, Bool.and_self], fun j hj => ?_, by simp only [thawT, hp, hc, h.pv], by simp only [leavesL, hc, thawW_app, pushW_app, h2, h.hl]⟩
  simp only [leavesL, hc, List.length_append] at hj
  by_cases hlt : j < gs.length
  · exact h1.fr j hlt
  · have := h.fr (j - gs.length) (by omega)
    rw [← h2, lookH_push_thaw _ _ _ _ (by omega)] at this
    rwa [show nid + gs.length + (j - gs.length) = nid + j by omega] at this
theorem RTL_int {nid : Nat} {k : IntKind} {m : Int} {gs : List GV} {ps : List PV} {hl' : List (Nat × Block)} (hf : HL hl nid .free) (h : RTL (nid + 1) gs hl ps hl') : RTL nid (.int k m :: gs) hl (.g (.int k m) :: ps) hl' :=
  RTL_comp (gs := [.int k m]) rfl rfl (RSL_int hf (RSL_nil _ _)) rfl h
theorem RTL_bool {nid : Nat} {b : Bool} {gs : List GV} {ps : List PV} {hl' : List (Nat × Block)} (hf : HL hl nid .free) (h : RTL (nid + 1) gs hl ps hl') : RTL nid (.bool b :: gs) hl (.g (.bool b) :: ps) hl' :=
  RTL_comp (gs := [.bool b]) rfl rfl (RSL_bool hf (RSL_nil _ _)) rfl h
theorem RTL_str {nid : Nat} {s : ByteArray} {gs : List GV} {ps : List PV} {hl' : List (Nat × Block)} (hf : HL hl nid .free) (h : RTL (nid + 1) gs hl ps hl') : RTL nid (.str s :: gs) hl (.g (.str s) :: ps) hl' :=
  RTL_comp (gs := [.str s]) rfl rfl (RSL_str hf (RSL_nil _ _)) rfl h
theorem RTL_sl {nid e m : Nat} {xs gs : List GV} {ps : List PV} {hl' : List (Nat × Block)} (hf : HL hl nid .free) (hm : LEN xs m) (h : RTL (nid + 1) gs ((nid, .arr e true xs) :: hl) ps hl') : RTL nid (.sl e xs :: gs) hl (.own nid 0 m :: ps) hl' :=
  RTL_comp (gs := [.sl e xs]) rfl (by simp [thawC, thawP, hm.e]) (RSL_sl hf hm (RSL_nil _ _)) rfl h
theorem RTL_agg {nid m : Nat} {xs gs : List GV} {qs ps : List PV} {hl1 hl' : List (Nat × Block)} (h1 : RSL nid xs hl qs hl1) (hm : RF (xs.length = m)) (h : RTL (nid + m) gs hl1 ps hl') : RTL nid (.agg xs :: gs) hl (.agg qs :: ps) hl' :=
  RTL_comp (gs := xs) rfl (by simp only [thawC, h1.pv]) h1 hm.e h
theorem RES_tup {nid : Nat} {cs : List GV} {ps : List PV} {hl' : List (Nat × Block)} (h : RTL nid cs hl ps hl') (h8 : RF (Nat.ble (leavesL cs).length 8 = true)) : RES nid (.tup cs) hl (.tup ps) hl' :=
  ⟨h.lf, Nat.le_of_ble_eq_true h8.e, h.fr, by simp only [thawR, h.pv], h.hl⟩
end

section
variable {dr : Bool} {P : Program} {tab : Tab} {ops : Array Oper} {i : Nat} {os : List Oper} {acc : List (List Nat × List Nat)} {K : AState → List (List Nat × List Nat) → Prop}
variable {ty : TypeId} {pos : String} {af : Array Edge} {n nx d : Nat} {sl : List (Nat × PV)} {hl : List (Nat × Block)}

/-! stores -/
/-- a fact that deciding shows -/
def DEC (p : Prop) : Prop := p
theorem DEC.mk {p : Prop} (h : p) : DEC p := h
theorem DEC.e {p : Prop} (h : DEC p) : p := h
structure SW (tab : Tab) (nid : Nat) (hl : List (Nat × Block)) (t : TypeId) (p v : PV) (ws hl' : List (Nat × Block)) : Prop where
  e : aStore tab nid (lookH hl) t p v = some (.none_, ws)
  h : pushW ws hl = hl'
theorem SW_box {nid : Nat} {t : TypeId} {ti : TI} {id off sz : Nat} {cs cs' ps : List PV} {p : PV} (hb : HL hl id (.box cs)) (hp : CP p ps) (ht : RF (tab t = some ti ∧ ti.size = sz)) (hs : RF (ps.length = sz)) (hc : SetL cs off ps cs') : SW tab nid hl t (.ptr id off) p [(id, .box cs')] ((id, .box cs') :: hl) := ⟨(ST_box hb hp ht hs hc).e, rfl⟩
theorem SW_int {nid : Nat} {t : TypeId} {ti : TI} {id k : Nat} {dp : Bool} {xs ys : List GV} {kk : IntKind} {m : Int} (hb : HL hl id (.arr 1 dp xs)) (ht : RF (tab t = some ti ∧ ti.size = 1)) (hf : HL hl nid .free) (hy : PUT xs k (.int kk m) ys) (hk : NU (k < xs.length)) : SW tab nid hl t (.eptr id k 0) (.g (.int kk m)) [(id, .arr 1 dp ys)] ((id, .arr 1 dp ys) :: hl) := ⟨(ST_arr hb ht (RF.mk rfl) hf hy hk).e, rfl⟩
theorem SW_bool {nid : Nat} {t : TypeId} {ti : TI} {id k : Nat} {dp : Bool} {xs ys : List GV} {m : Bool} (hb : HL hl id (.arr 1 dp xs)) (ht : RF (tab t = some ti ∧ ti.size = 1)) (hf : HL hl nid .free) (hy : PUT xs k (.bool m) ys) (hk : NU (k < xs.length)) : SW tab nid hl t (.eptr id k 0) (.g (.bool m)) [(id, .arr 1 dp ys)] ((id, .arr 1 dp ys) :: hl) := ⟨(ST_arr hb ht (RF.mk rfl) hf hy hk).e, rfl⟩
theorem SW_abs {nid : Nat} {t : TypeId} {ti : TI} {id k e : Nat} {dp d dd : Bool} {xs ys : List GV} {q : PV} {x : GV} {ks : List Nat} (hb : HL hl id (.arr e dp xs)) (ht : RF (tab t = some ti ∧ ti.size = e)) (hf : HL hl nid .free) (ha : AE hl q x ks d) (hn : RF (x.ncells = e ∧ x.isTup = false)) (hks : DEC (id ∉ ks)) (hd : AND dp d dd) (hy : PUT xs k x ys) (hk : NU (k < xs.length)) : SW tab nid hl t (.eptr id k 0) q (kills ks ++ [(id, .arr e dd ys)]) ((id, .arr e dd ys) :: deadL ks hl) := ⟨by
  obtain ⟨h1, h2⟩ := ht.e
  obtain ⟨h3, h4⟩ := hn.e
  have h5 : k < xs.length := hk
  have h6 : id ∉ ks := hks
  subst h2
  simp only [aStore, h1, hb.e, h5, hf.e, isFree, and_self, if_true, ha.e, h3, h4, h6, not_false_eq_true, hd.e, hy.e], by rw [pushW_app, pushW_kills]; rfl⟩
theorem X_storeW {t : TypeId} {x y : Operand} {p q : PV} {k : Nat} {ws hl' : List (Nat × Block)} (hx : EV sl tab 0 x p) (hy : EV sl tab t y q) (hk : NID (nx + 8 * i) k) (hs : SW tab k hl t p q ws hl') (h4 : AF dr P tab ops (i + 1) os n sl hl' nx (acc ++ [tcX tab i n sl hl nx ⟨none, .store t x y, ty, pos, af, none⟩ (idsW ws)]) K) : AF dr P tab ops i (⟨none, .store t x y, ty, pos, af, none⟩ :: os) n sl hl nx acc K := by
  cases hk.e
  exact X_any (dst := none) (pv := .none_) rfl (by simp only [aOp, hx.e, hy.e, mkX_nx]; exact hs.e) (by rw [hs.h]; exact h4)

/-! structures, literals -/
structure FIL (place : Nat → Option (Nat × Nat)) (cs : List PV) (ps : List (Nat × PV)) (cs' : List PV) : Prop where
  e : aFill place cs ps = some cs'
theorem FIL_nil (place : Nat → Option (Nat × Nat)) (cs : List PV) : FIL place cs [] cs := ⟨rfl⟩
theorem FIL_cons {place : Nat → Option (Nat × Nat)} {cs cs1 cs' qs : List PV} {j off sz : Nat} {p : PV} {ps : List (Nat × PV)} (h1 : RF (place j = some (off, sz))) (hp : CP p qs) (hs : RF (qs.length = sz)) (hc : SetL cs off qs cs1) (h : FIL place cs1 ps cs') : FIL place cs ((j, p) :: ps) cs' := ⟨by
  have h2 := hc.l
  rw [hs.e] at h2
  simp only [aFill, h1.e, hp.v, hp.e, hs.e, Bool.true_and, beq_self_eq_true]
  rw [if_pos (by simpa using h2), hc.e, h.e]⟩
theorem X_build {t : TypeId} {xs : List (Nat × Operand)} {ti : TI} {fs : List (Nat × TypeId)} {pl : List (Nat × Nat)} {vs : List (Nat × PV)} {cs' : List PV} (hd : RF (hasB d n = true)) (ht : RF (tab t = some ti ∧ ti.kind = .st fs ∧ placesOf tab fs = some pl)) (hx : EVF sl tab ti xs vs) (hv : FIL (pl[·]?) ti.zero vs cs')
    (h4 : AF dr P tab ops (i + 1) os n ((d, .agg cs') :: sl) hl nx (acc ++ [tcX tab i n sl hl nx ⟨some d, .build t xs.toArray, ty, pos, af, none⟩ []]) K) : AF dr P tab ops i (⟨some d, .build t xs.toArray, ty, pos, af, none⟩ :: os) n sl hl nx acc K :=
  X_any (ws := []) (has_X hd) (by
    obtain ⟨h1, h2, h3⟩ := ht.e
    have h5 := hx.e n hl nx
    simp only [aOp, h1, h5, aBuild, h2, h3, hv.e]) h4
theorem X_buildA {t : TypeId} {xs : List (Nat × Operand)} {ti ei : TI} {m E : Nat} {vs : List (Nat × PV)} {cs' : List PV} (hd : RF (hasB d n = true)) (ht : RF (tab t = some ti ∧ ti.kind = .ar m E ∧ tab E = some ei)) (hx : EVF sl tab ti xs vs) (hv : FIL (fun i => some (i * ei.size, ei.size)) ti.zero vs cs')
    (h4 : AF dr P tab ops (i + 1) os n ((d, .agg cs') :: sl) hl nx (acc ++ [tcX tab i n sl hl nx ⟨some d, .build t xs.toArray, ty, pos, af, none⟩ []]) K) : AF dr P tab ops i (⟨some d, .build t xs.toArray, ty, pos, af, none⟩ :: os) n sl hl nx acc K :=
  X_any (ws := []) (has_X hd) (by
    obtain ⟨h1, h2, h3⟩ := ht.e
    have h5 := hx.e n hl nx
    simp only [aOp, h1, h5, aBuild, h2, h3, hv.e]) h4
theorem X_lit {k : Nat} {t : TypeId} {len : Nat} {xs : List (Nat × Operand)} {E e : Nat} {ps : List PV} {gs : List GV} {ks : List Nat} {dp : Bool} (hd : RF (hasB d n = true)) (hE : SLT tab t E e) (hk : NID (nx + 8 * i) k) (hf : HL hl k .free) (hi : RF (xs.map (·.1) = List.range len)) (hs : RF (Nat.ble (len * (e + 1)) 16777216 = true)) (hx : EVP sl tab E xs ps) (ha : AEL hl ps gs ks dp) (hg : RF ((gs.all (fun x => x.ncells == e + 1 && !x.isTup)) = true))
    (h4 : AF dr P tab ops (i + 1) os n ((d, .own k 0 len) :: sl) ((k, .arr (e + 1) dp gs) :: deadL ks hl) nx (acc ++ [tcX tab i n sl hl nx ⟨some d, .buildSlice t len xs.toArray, ty, pos, af, none⟩ (idsW (kills ks ++ [(k, .arr (e + 1) dp gs)]))]) K) : AF dr P tab ops i (⟨some d, .buildSlice t len xs.toArray, ty, pos, af, none⟩ :: os) n sl hl nx acc K := by
  cases hk.e
  exact X_any (pv := .own (nx + 8 * i) 0 len) (ws := kills ks ++ [(nx + 8 * i, .arr (e + 1) dp gs)]) (has_X hd) (by
    have hs' := Nat.le_of_ble_eq_true hs.e
    have hx' := hx.e n hl nx
    have hi' : xs.toArray.toList.map (·.1) = List.range len := hi.e
    have ha' : absL absE (lookH hl) ps = some (gs, ks, dp) := ha.e
    simp only [aOp, hE.el, aLit, mkX_heap, mkX_nx, hf.e, isFree, true_and]
    rw [if_pos ⟨hi', by omega, hs'⟩]
    show (match absL absE (lookH hl) (xs.map _) with | some (gs, ks, d) => _ | none => none) = _
    rw [show (xs.map fun (x : Nat × Operand) => (mkX n sl hl nx).ev tab E x.2) = ps from hx', ha']
    simp only [hg.e, if_true]) (by rw [pushW_app, pushW_kills]; exact h4)
structure RPL (k : Nat) (z : GV) (xs : List GV) : Prop where
  e : List.replicate k z = xs
theorem RPL_int (k : Nat) (kk : IntKind) (m : Int) : RPL k (.int kk m) ((List.replicate k m).map (GV.int kk)) := ⟨by simp⟩
theorem RPL_bool (k : Nat) (b : Bool) : RPL k (.bool b) ((List.replicate k b).map GV.bool) := ⟨by simp⟩
theorem RPL_sl (k : Nat) : RPL k (.sl 1 []) ((List.replicate k []).map GV.ints) := ⟨by simp⟩
theorem RPL_any (k : Nat) (z : GV) : RPL k z (List.replicate k z) := ⟨rfl⟩
/-- what 'make' fills with -/
def MZ (tab : Tab) (t e : Nat) (z : GV) : Prop := ∃ E ei, elemTy tab t = some (E, e) ∧ tab E = some ei ∧ ((e = 1 ∧ zeroG ei = some z) ∨ (zeroG ei = none ∧ ∃ gs, zeroLs ei.zero = some gs ∧ gs.length = e ∧ 0 < e ∧ z = .agg gs))
theorem MZ_one {t E : Nat} {ei : TI} {z : GV} (h1 : elemTy tab t = some (E, 1)) (h2 : tab E = some ei) (h3 : zeroG ei = some z) : MZ tab t 1 z := ⟨E, ei, h1, h2, .inl ⟨rfl, h3⟩⟩
theorem MZ_st {t E e : Nat} {ei : TI} {gs : List GV} (h1 : elemTy tab t = some (E, e + 1)) (h2 : tab E = some ei) (h3 : zeroG ei = none) (h4 : zeroLs ei.zero = some gs) (h5 : gs.length = e + 1) : MZ tab t (e + 1) (.agg gs) := ⟨E, ei, h1, h2, .inr ⟨h3, gs, h4, h5, by omega, rfl⟩⟩
theorem X_make {kk : Nat} {t : TypeId} {x y : Operand} {e : Nat} {z : GV} {k k' : IntKind} {a b : Int} {xs : List GV} (hd : RF (hasB d n = true)) (hx : EV sl tab 0 x (.g (.int k a))) (hy : EV sl tab 0 y (.g (.int k' b))) (hE : MZ tab t e z) (hk : NID (nx + 8 * i) kk) (hf : HL hl kk .free) (hz : RPL a.toNat z xs) (hn : NU (0 ≤ a ∧ a ≤ b ∧ b ≤ 1099511627776))
    (h4 : AF dr P tab ops (i + 1) os n ((d, .own kk 0 a.toNat) :: sl) ((kk, .arr e true xs) :: hl) nx (acc ++ [tcX tab i n sl hl nx ⟨some d, .makeSlice t x y, ty, pos, af, none⟩ [kk]]) K) : AF dr P tab ops i (⟨some d, .makeSlice t x y, ty, pos, af, none⟩ :: os) n sl hl nx acc K := by
  cases hk.e
  refine X_any (pv := .own (nx + 8 * i) 0 a.toNat) (ws := [(nx + 8 * i, .arr e true xs)]) (has_X hd) ?_ h4
  have h1 := hn.e
  have h2 := hz.e
  obtain ⟨E, ei, g1, g2, ⟨rfl, g3⟩ | ⟨g3, gs, g4, g5, g6, rfl⟩⟩ := hE
  · simp only [aOp, hx.e, hy.e, aMakeE, aMake, g1, g2, g3, mkX_heap, mkX_nx, hf.e, isFree, h1, and_self, if_true, h2]
  · simp only [aOp, hx.e, hy.e, aMakeE, aMake, aMakeS, g1, g2, g3, g4, g5, g6, mkX_heap, mkX_nx, hf.e, isFree, h1, and_self, if_true, h2]
/-- a length -/
structure LN (tab : Tab) (hl : List (Nat × Block)) (t : TypeId) (p : PV) (m : Int) : Prop where
  e : aLen tab (lookH hl) t p = some (.g (.int .i64 m), [])
theorem LN_own {t E e : Nat} {id lo len e' : Nat} {dp : Bool} {xs : List GV} (ht : SLT tab t E e) (hb : HL hl id (.arr e' dp xs)) : LN tab hl t (.own id lo len) (len : Int) := ⟨by obtain ⟨ti, ei, h1, h2, _⟩ := ht.h; exact ln_own h1 h2 hb.e⟩
theorem LN_g {t E e e' m : Nat} {xs : List GV} (ht : SLT tab t E e) (hm : LEN xs m) : LN tab hl t (.g (.sl e' xs)) (m : Int) := ⟨by obtain ⟨ti, ei, h1, h2, _⟩ := ht.h; rw [ln_g h1 h2, hm.e]⟩
theorem LN_nils {t E e e' : Nat} (ht : SLT tab t E e) : LN tab hl t (.nils e') 0 := ⟨by obtain ⟨ti, ei, h1, h2, _⟩ := ht.h; exact ln_nil h1 h2⟩
theorem LN_str {t : Nat} {s : ByteArray} {ti : TI} (ht : RF (tab t = some ti ∧ ti.kind = .str)) : LN tab hl t (.g (.str s)) (s.size : Int) := ⟨by simp only [aLen, ht.e.1, ht.e.2]⟩
theorem X_max {tys : Array TypeId} {x y : Operand} {a b : Int} (hd : RF (hasB d n = true)) (hx : EV sl tab 0 x (.g (.int .i64 a))) (hy : EV sl tab 0 y (.g (.int .i64 b))) (h4 : AF dr P tab ops (i + 1) os n ((d, .g (.int .i64 (max a b))) :: sl) hl nx (acc ++ [tcX tab i n sl hl nx ⟨some d, .call { callee := .builtin .max, args := #[x, y], argTypes := tys }, ty, pos, af, none⟩ []]) K) : AF dr P tab ops i (⟨some d, .call { callee := .builtin .max, args := #[x, y], argTypes := tys }, ty, pos, af, none⟩ :: os) n sl hl nx acc K :=
  X_any (ws := []) (has_X hd) (by simp only [aOp, aCall, hx.e, hy.e, aMM, if_true]) h4
theorem X_min {tys : Array TypeId} {x y : Operand} {a b : Int} (hd : RF (hasB d n = true)) (hx : EV sl tab 0 x (.g (.int .i64 a))) (hy : EV sl tab 0 y (.g (.int .i64 b))) (h4 : AF dr P tab ops (i + 1) os n ((d, .g (.int .i64 (min a b))) :: sl) hl nx (acc ++ [tcX tab i n sl hl nx ⟨some d, .call { callee := .builtin .min, args := #[x, y], argTypes := tys }, ty, pos, af, none⟩ []]) K) : AF dr P tab ops i (⟨some d, .call { callee := .builtin .min, args := #[x, y], argTypes := tys }, ty, pos, af, none⟩ :: os) n sl hl nx acc K :=
  X_any (ws := []) (has_X hd) (by simp only [aOp, aCall, hx.e, hy.e, aMM, Bool.false_eq_true, if_false]) h4
theorem X_len {t : TypeId} {x : Operand} {p : PV} {m : Int} (hd : RF (hasB d n = true)) (hx : EV sl tab 0 x p) (hv : LN tab hl t p m) (h4 : AF dr P tab ops (i + 1) os n ((d, .g (.int .i64 m)) :: sl) hl nx (acc ++ [tcX tab i n sl hl nx ⟨some d, .call { callee := .builtin .len, args := #[x], argTypes := #[t] }, ty, pos, af, none⟩ []]) K) : AF dr P tab ops i (⟨some d, .call { callee := .builtin .len, args := #[x], argTypes := #[t] }, ty, pos, af, none⟩ :: os) n sl hl nx acc K :=
  X_any (ws := []) (has_X hd) (by simp only [aOp, aCall, hx.e]; exact hv.e) h4
/-- what is appended, and to what -/
structure SR (hl : List (Nat × Block)) (e : Nat) (p : PV) (ys : List GV) (ks : List Nat) (d : Bool) : Prop where
  e : srcE (lookH hl) e p = some (ys, ks, d)
theorem SR_nils (e e' : Nat) : SR hl e (.nils e') [] [] true := ⟨rfl⟩
theorem SR_g {e : Nat} {ys : List GV} (hf : FLT ys) : SR hl e (.g (.sl e ys)) ys [] true := ⟨src_g hf.e⟩
theorem SR_gn (e : Nat) (ys : List GV) : SR hl e (.g (.sl e ys)) ys [] (ys.all GV.flat) := ⟨src_g rfl⟩
structure FLB (ys : List GV) (b : Bool) : Prop where
  e : ys.all GV.flat = b
theorem FLB_ints (k : IntKind) (ys : List Int) : FLB (ys.map (GV.int k)) true := ⟨flat_ints k ys⟩
theorem FLB_bools (ys : List Bool) : FLB (ys.map GV.bool) true := ⟨flat_map fun _ => rfl⟩
theorem FLB_strs (ys : List ByteArray) : FLB (ys.map GV.str) true := ⟨flat_map fun _ => rfl⟩
theorem FLB_nil : FLB [] true := ⟨rfl⟩
theorem FLB_consi {k : IntKind} {n : Int} {xs : List GV} {b : Bool} (h : FLB xs b) : FLB (.int k n :: xs) b := ⟨by have := h.e; simpa [GV.flat, GV.atom] using this⟩
theorem FLB_any (ys : List GV) : FLB ys (ys.all GV.flat) := ⟨rfl⟩
theorem SR_gb {e : Nat} {ys : List GV} {b : Bool} (hf : FLB ys b) : SR hl e (.g (.sl e ys)) ys [] b := ⟨src_g hf.e⟩
/-- are all items flat? -/
structure FLK (ys : List GV) (b : Bool) : Prop where
  e : ys.all GV.flat = b
theorem FLK_ints (k : IntKind) (ys : List Int) : FLK (ys.map (GV.int k)) true := ⟨flat_ints k ys⟩
theorem FLK_bools (ys : List Bool) : FLK (ys.map GV.bool) true := ⟨flat_map fun _ => rfl⟩
theorem FLK_strs (ys : List ByteArray) : FLK (ys.map GV.str) true := ⟨flat_map fun _ => rfl⟩
theorem FLK_nil : FLK [] true := ⟨rfl⟩
theorem FLK_consi {k : IntKind} {n : Int} {xs : List GV} {b : Bool} (h : FLK xs b) : FLK (.int k n :: xs) b := ⟨by have := h.e; simpa [GV.flat, GV.atom] using this⟩
theorem FLK_consb {n : Bool} {xs : List GV} {b : Bool} (h : FLK xs b) : FLK (.bool n :: xs) b := ⟨by have := h.e; simpa [GV.flat, GV.atom] using this⟩
theorem FLK_conss {n : ByteArray} {xs : List GV} {b : Bool} (h : FLK xs b) : FLK (.str n :: xs) b := ⟨by have := h.e; simpa [GV.flat, GV.atom] using this⟩
theorem FLK_sl {e : Nat} {ys xs : List GV} : FLK (.sl e ys :: xs) false := ⟨by simp [GV.flat, GV.atom]⟩
theorem FLK_agg {ys : List GV} {b : Bool} (h : ALLA ys b) : FLK [.agg ys] b := ⟨by have := h.e; simpa [GV.flat] using this⟩
structure SK (id : Nat) (dp b : Bool) (ks : List Nat) (d : Bool) : Prop where
  e : (if b then (([] : List Nat), true) else ([id], dp)) = (ks, d)
theorem SK_t (id : Nat) (dp : Bool) : SK id dp true [] true := ⟨rfl⟩
theorem SK_f (id : Nat) (dp : Bool) : SK id dp false [id] dp := ⟨rfl⟩
theorem SR_own {id lo len e : Nat} {dp b d : Bool} {ks : List Nat} {xs ys : List GV} (hb : HL hl id (.arr e dp xs)) (hc : CUT xs lo len ys) (hf : FLK ys b) (hs : SK id dp b ks d) : SR hl e (.own id lo len) ys ks d := ⟨by
  have h1 := hc.l
  have h2 := hf.e
  have h3 := hs.e
  simp only [srcE, hb.e, h1, and_self, if_true, hc.e, h2]
  cases b
  · simp only [Bool.false_eq_true, if_false, Prod.mk.injEq] at h3 ⊢
    rw [h3.1, h3.2]
  · simp only [if_true, Prod.mk.injEq] at h3 ⊢
    rw [← h3.1, ← h3.2]⟩
structure DS (hl : List (Nat × Block)) (e : Nat) (p : PV) (xs : List GV) (ks : List Nat) (d : Bool) : Prop where
  e : dstE (lookH hl) e p = some (xs, ks, d)
theorem DS_nils (e : Nat) : DS hl e (.nils e) [] [] true := ⟨dst_nil _ _⟩
theorem DS_own {id lo len e : Nat} {dp : Bool} {xs ys : List GV} (hb : HL hl id (.arr e dp xs)) (hc : CUT xs lo len ys) : DS hl e (.own id lo len) ys [id] dp := ⟨by
  have h1 := dst_own hb.e hc.l
  rw [hc.e] at h1; exact h1⟩
theorem X_app {kk : Nat} {t : TypeId} {x y : Operand} {E e a b m : Nat} {px py : PV} {xs ys zs : List GV} {ks1 ks2 : List Nat} {d1 d2 dp : Bool} (hd : RF (hasB d n = true)) (hx : EV sl tab t x px) (hy : EV sl tab t y py) (hE : SLT tab t E e) (hk : NID (nx + 8 * i) kk) (hf : HL hl kk .free) (h5 : SR hl (e + 1) py ys ks2 d2) (h6 : DS (deadL ks2 hl) (e + 1) px xs ks1 d1) (hz : CAT xs ys zs) (hm : LEN zs m) (hdp : AND d1 d2 dp) (ha : LEN xs a) (hb : LEN ys b) (hl' : NU (a + b ≤ 1099511627776))
    (h4 : AF dr P tab ops (i + 1) os n ((d, .own kk 0 m) :: sl) ((kk, .arr (e + 1) dp zs) :: deadL ks1 (deadL ks2 hl)) nx (acc ++ [tcX tab i n sl hl nx ⟨some d, .call { callee := .builtin .append, args := #[x, y], argTypes := #[t, t] }, ty, pos, af, none⟩ (idsW (kills ks2 ++ (kills ks1 ++ [(kk, .arr (e + 1) dp zs)])))]) K) : AF dr P tab ops i (⟨some d, .call { callee := .builtin .append, args := #[x, y], argTypes := #[t, t] }, ty, pos, af, none⟩ :: os) n sl hl nx acc K := by
  cases hk.e
  have e1 : m = xs.length + ys.length := by rw [← hm.e, ← hz.e]; simp
  have e2 := hz.e
  subst e1
  refine X_any (ws := kills ks2 ++ (kills ks1 ++ [(nx + 8 * i, .arr (e + 1) dp zs)])) (pv := .own (nx + 8 * i) 0 (xs.length + ys.length)) (has_X hd) ?_ (by rw [pushW_app, pushW_kills, pushW_app, pushW_kills]; exact h4)
  have h7 : dstE (killL (lookH hl) ks2) (e + 1) px = some (xs, ks1, d1) := by rw [← lookH_dead]; exact h6.e
  have h8 := hl'.e
  have h9 : srcE (lookH hl) (e + 1) py = some (ys, ks2, d2) := h5.e
  rw [← ha.e, ← hb.e] at h8
  simp only [aOp, aCall, if_true, aApp, hx.e, hy.e, hE.el, mkX_heap, mkX_nx, hf.e, isFree]
  rw [if_pos ⟨trivial, by omega⟩]
  show (match srcE (lookH hl) (e + 1) py with | some (ys, ks2, d2) => _ | none => none) = _
  rw [h9]
  show (match dstE (killL (lookH hl) ks2) (e + 1) px with | some (xs, ks1, d1) => _ | none => none) = _
  rw [h7]
  simp only [h8, if_true, hdp.e, e2]
structure EVL (sl : List (Nat × PV)) (tab : Tab) (xs : List Operand) (ps : List PV) : Prop where
  e : ∀ n hl nx, xs.map ((mkX n sl hl nx).ev tab 0) = ps
theorem EVL_nil (sl : List (Nat × PV)) (tab : Tab) : EVL sl tab [] [] := ⟨fun _ _ _ => rfl⟩
theorem EVL_cons {x : Operand} {xs : List Operand} {p : PV} {ps : List PV} (h1 : EV sl tab 0 x p) (h2 : EVL sl tab xs ps) : EVL sl tab (x :: xs) (p :: ps) := ⟨fun n hl nx => by simp only [List.map_cons, h1.e, h2.e]⟩
theorem X_mkf {f : FuncId} {cs : List Operand} {ps : List PV} (hd : RF (hasB d n = true)) (hx : EVL sl tab cs ps) (h4 : AF dr P tab ops (i + 1) os n ((d, .fn f ps) :: sl) hl nx (acc ++ [tcX tab i n sl hl nx ⟨some d, .makeFunc (.func f) #[] cs.toArray, ty, pos, af, none⟩ []]) K) : AF dr P tab ops i (⟨some d, .makeFunc (.func f) #[] cs.toArray, ty, pos, af, none⟩ :: os) n sl hl nx acc K :=
  X_any (ws := []) (pv := .fn f ps) (has_X hd) (by have := hx.e n hl nx; simp only [aOp, if_true, ← this]) h4
theorem X_ext {x : Operand} {k : Nat} {vs : List PV} {v : PV} (hd : RF (hasB d n = true)) (hx : EV sl tab 0 x (.tup vs)) (hv : Idx vs k v) (h4 : AF dr P tab ops (i + 1) os n ((d, v) :: sl) hl nx (acc ++ [tcX tab i n sl hl nx ⟨some d, .extract x k, ty, pos, af, none⟩ []]) K) : AF dr P tab ops i (⟨some d, .extract x k, ty, pos, af, none⟩ :: os) n sl hl nx acc K :=
  X_any (ws := []) (has_X hd) (by simp only [aOp, hx.e, aExtract, hv.e]) h4

/-- a contract, closed to the tactics -/
def CON (P : Program) (f : FuncId) (gs : List GV) (r : GV) : Prop := Con P f gs r
theorem CON.e {P : Program} {f : FuncId} {gs : List GV} {r : GV} (h : CON P f gs r) : Con P f gs r := h
theorem CON_of {P : Program} {f : FuncId} {gs : List GV} {r : GV} (h : Con P f gs r) : CON P f gs r := h

/-! calls -/
theorem X_callG {kk : Nat} {dst : Option Nat} {f : Operand} {xs : List Operand} {ts : List TypeId} {fid : FuncId} {caps ps : List PV} {gs : List GV} {r : GV} {pv : PV} {hl' : List (Nat × Block)} (hd : (mkX n sl hl nx).has dst = true) (hf : FN sl tab f fid caps) (ha : ARG sl tab xs ts ps) (hg : VWL hl 6 (ps ++ caps) gs) (hc : Con P fid gs r) (hk : NID (nx + 8 * i) kk) (hr : RES kk r hl pv hl')
    (h4 : AF dr P tab ops (i + 1) os n (putL dst pv sl) hl' nx (acc ++ [tcX tab i n sl hl nx ⟨dst, .call { callee := .value f, args := xs.toArray, argTypes := ts.toArray }, ty, pos, af, none⟩ (idsW (thawW kk (leavesR r)))]) K) : AF dr P tab ops i (⟨dst, .call { callee := .value f, args := xs.toArray, argTypes := ts.toArray }, ty, pos, af, none⟩ :: os) n sl hl nx acc K := by
  cases hk.e
  refine AX_step (pv := thawR (nx + 8 * i) r) (ws := thawW (nx + 8 * i) (leavesR r)) rfl hd (.inr ⟨fid, caps, hf.e n hl nx, gs, ?_, r, hc, hr.lf, hr.l8, ?_, rfl, rfl⟩) ?_
  · show viewL (view (lookH hl) 6) ((mkX n sl hl nx).args tab xs ts ++ caps) = some gs
    rw [ha.e]; exact hg.e
  · simp only [List.all_eq_true, List.mem_range]
    intro j hj
    rw [mkX_nx, mkX_heap, hr.fr j hj]; rfl
  · rw [mkX_nx, writes_XL, put_XL, hr.pv, hr.hl]; exact h4
theorem X_call0 {kk : Nat} {f : Operand} {xs : List Operand} {ts : List TypeId} {fid : FuncId} {ps : List PV} {gs : List GV} {r : GV} {pv : PV} {hl' : List (Nat × Block)} (hd : RF (hasB d n = true)) (hf : FN sl tab f fid []) (ha : ARG sl tab xs ts ps) (hg : VWL hl 6 ps gs) (hc : CON P fid gs r) (hk : NID (nx + 8 * i) kk) (hr : RES kk r hl pv hl')
    (h4 : AF dr P tab ops (i + 1) os n ((d, pv) :: sl) hl' nx (acc ++ [tcX tab i n sl hl nx ⟨some d, .call { callee := .value f, args := xs.toArray, argTypes := ts.toArray }, ty, pos, af, none⟩ (idsW (thawW kk (leavesR r)))]) K) : AF dr P tab ops i (⟨some d, .call { callee := .value f, args := xs.toArray, argTypes := ts.toArray }, ty, pos, af, none⟩ :: os) n sl hl nx acc K :=
  X_callG (has_X hd) hf ha (by rw [List.append_nil]; exact hg) hc hk hr h4
theorem VWL_app : ∀ {m : Nat} {ps qs : List PV} {xs ys : List GV}, VWL hl m ps xs → VWL hl m qs ys → VWL hl m (ps ++ qs) (xs ++ ys) := fun h1 h2 => ⟨vl_app h1.e h2.e⟩
structure APP {α : Type} (xs ys zs : List α) : Prop where
  e : xs ++ ys = zs
theorem APP_nil {α : Type} (ys : List α) : APP [] ys ys := ⟨rfl⟩
theorem APP_cons {α : Type} {x : α} {xs ys zs : List α} (h : APP xs ys zs) : APP (x :: xs) ys (x :: zs) := ⟨by simp [h.e]⟩
theorem X_callC {kk : Nat} {f : Operand} {xs : List Operand} {ts : List TypeId} {fid : FuncId} {caps ps : List PV} {gs1 gs2 gs : List GV} {r : GV} {pv : PV} {hl' : List (Nat × Block)} (hd : RF (hasB d n = true)) (hf : FN sl tab f fid caps) (ha : ARG sl tab xs ts ps) (hg1 : VWL hl 6 ps gs1) (hg2 : VWL hl 6 caps gs2) (hgs : APP gs1 gs2 gs) (hc : CON P fid gs r) (hk : NID (nx + 8 * i) kk) (hr : RES kk r hl pv hl')
    (h4 : AF dr P tab ops (i + 1) os n ((d, pv) :: sl) hl' nx (acc ++ [tcX tab i n sl hl nx ⟨some d, .call { callee := .value f, args := xs.toArray, argTypes := ts.toArray }, ty, pos, af, none⟩ (idsW (thawW kk (leavesR r)))]) K) : AF dr P tab ops i (⟨some d, .call { callee := .value f, args := xs.toArray, argTypes := ts.toArray }, ty, pos, af, none⟩ :: os) n sl hl nx acc K :=
  X_callG (has_X hd) hf ha (by rw [← hgs.e]; exact VWL_app hg1 hg2) hc hk hr h4

/-! marks -/
structure LENQ (len : Nat) (xs ys : List GV) : Prop where
  a : len = xs.length
  b : ys.length = xs.length
def MRK (P : Program) (f : FuncId) (ag : Bool) (gs gs' : List GV) (k : Int) (c : Nat) : Prop := MarkC P f ag gs gs' k c
theorem MRK_of {P : Program} {f : FuncId} {ag : Bool} {gs gs' : List GV} {k : Int} {c : Nat} (h : MarkC P f ag gs gs' k c) : MRK P f ag gs gs' k c := h
theorem MRK.e {P : Program} {f : FuncId} {ag : Bool} {gs gs' : List GV} {k : Int} {c : Nat} (h : MRK P f ag gs gs' k c) : MarkC P f ag gs gs' k c := h
structure CMP (p : PV) (ag : Bool) (ps : List PV) : Prop where
  e : p = (if ag then .agg ps else ps.headD .undef)
  l : ag = false → ps.length = 1
/-- the data of whole blocks -/
structure WG (hl : List (Nat × Block)) (ps : List PV) (gs : List GV) : Prop where
theorem WG_nil (hl : List (Nat × Block)) : WG hl [] [] := ⟨⟩
theorem WG_atom {x : GV} {ps : List PV} {gs : List GV} (h : WG hl ps gs) : WG hl (.g x :: ps) (x :: gs) := ⟨⟩
theorem WG_own {id e len : Nat} {xs : List GV} {ps : List PV} {gs : List GV} (hb : HL hl id (.arr e true xs)) (h : WG hl ps gs) : WG hl (.own id 0 len :: ps) (.sl e xs :: gs) := ⟨⟩
theorem CMP_agg (ps : List PV) : CMP (.agg ps) true ps := ⟨rfl, fun h => by cases h⟩
theorem CMP_own (id lo len : Nat) : CMP (.own id lo len) false [.own id lo len] := ⟨rfl, fun _ => rfl⟩
structure WW (h0 hl : List (Nat × Block)) (ps : List PV) (gs gs' : List GV) (ws : List (Nat × Block)) (is : List (List Nat)) (hl' : List (Nat × Block)) : Prop where
  e : WhL (lookH h0) ps gs gs' ws is
  p : pushW ws hl = hl'
theorem WW_nil (h0 hl : List (Nat × Block)) : WW h0 hl [] [] [] [] [] hl := ⟨.nil, rfl⟩
theorem WW_atom {h0 hl hl' : List (Nat × Block)} {x : GV} {ps : List PV} {gs gs' : List GV} {ws : List (Nat × Block)} {is : List (List Nat)} (hx : RF (x.atom = true)) (h : WW h0 hl ps gs gs' ws is hl') : WW h0 hl (.g x :: ps) (x :: gs) (x :: gs') ws ([] :: is) hl' :=
  ⟨.cons (w := []) (.atom x hx.e) h.e (by simp), h.p⟩
theorem WW_own {h0 hl hl' : List (Nat × Block)} {id e len : Nat} {xs ys : List GV} {ps : List PV} {gs gs' : List GV} {ws : List (Nat × Block)} {is : List (List Nat)} (hb : HL h0 id (.arr e true xs)) (hq : LENQ len xs ys) (h : WW h0 ((id, .arr e true ys) :: hl) ps gs gs' ws is hl') (hn : RF ((ws.all fun x => !(Nat.beq x.1 id)) = true)) :
    WW h0 hl (.own id 0 len :: ps) (.sl e xs :: gs) (.sl e ys :: gs') ((id, .arr e true ys) :: ws) ([id] :: is) hl' :=
  ⟨.cons (w := [(id, .arr e true ys)]) (.own id e len xs ys hb.e hq.a hq.b) h.e (fun x hx hm => by
    simp at hx; subst hx
    obtain ⟨y, hy, e⟩ := List.mem_map.1 hm
    have := List.all_eq_true.1 hn.e y hy
    rw [e, show Nat.beq id id = true from Nat.beq_refl id] at this; cases this), h.p⟩
def okSL (n : Nat) (sl : List (Nat × PV)) : Bool := sl.all fun x => okS n x.1 x.2
def okBL (hl : List (Nat × Block)) : Bool := hl.all fun x => okB x.2
theorem okSL_ok {n : Nat} : ∀ {sl : List (Nat × PV)}, okSL n sl = true → ∀ t, okS n t (lookS sl t) = true
  | [], _, _ => rfl
  | (d, v) :: sl, h, t => by
    simp only [okSL, List.all_cons, Bool.and_eq_true] at h
    unfold lookS
    split
    · rename_i e; subst e; exact h.1
    · exact okSL_ok (sl := sl) h.2 t
theorem okBL_ok : ∀ {hl : List (Nat × Block)}, okBL hl = true → ∀ id, okB (lookH hl id) = true
  | [], _, _ => rfl
  | (d, v) :: hl, h, t => by
    simp only [okBL, List.all_cons, Bool.and_eq_true] at h
    unfold lookH
    split
    · exact h.1
    · exact okBL_ok (hl := hl) h.2 t
theorem X_mark {f : FuncId} {x y : Operand} {tx t2 : TypeId} {ag : Bool} {p : PV} {ps : List PV} {gs gs' : List GV} {k : Int} {c : Nat} {ws : List (Nat × Block)} {is : List (List Nat)} {hl' : List (Nat × Block)} (hd : RF (hasB d n = true)) (hdr : RF (dr = false)) (hx : EV sl tab tx x p) (hy : EV sl tab t2 y (.g (.int .i64 k))) (hp : CMP p ag ps) (hg : WG hl ps gs) (hm : MRK P f ag gs gs' k c)
    (hw : WW hl hl ps gs gs' ws is hl') (hc : RF ((okSL n sl && okBL hl) = true)) (h4 : AF dr P tab ops (i + 1) os n ((d, .g (.int .i64 (k + c))) :: sl) hl' nx (acc ++ [tcX tab i n sl hl nx ⟨some d, .call { callee := .value (.func f), args := #[x, y], argTypes := #[tx, t2] }, ty, pos, af, none⟩ (idsW ws)]) K) : AF dr P tab ops i (⟨some d, .call { callee := .value (.func f), args := #[x, y], argTypes := #[tx, t2] }, ty, pos, af, none⟩ :: os) n sl hl nx acc K := by
  cases hdr.e
  have hc := hc.e
  rw [Bool.and_eq_true] at hc
  refine AX_mark (pv := .g (.int .i64 (k + c))) (ws := ws) rfl (has_X hd) ⟨f, x, y, tx, t2, ag, ps, gs, gs', k, c, is, rfl, ?_, hp.l, ?_, hw.e, hm.e, okSL_ok hc.1, okBL_ok hc.2, rfl⟩ ?_
  · rw [hx.e]; exact hp.e
  · rw [hy.e]
  · rw [writes_XL, put_XL, hw.p]; exact h4

/-! guards -/
theorem AF_guard {op : Op} {dst : Option Nat} {g : Nat} {b c : Bool} {t : Nat} (hd : (ops[g]?).bind (·.dst) = some t) (hs : SL sl t (.g (.bool c))) (hcb : (c == b) = true) (h : AF dr P tab ops i (⟨dst, op, ty, pos, af, none⟩ :: os) n sl hl nx acc K) : AF dr P tab ops i (⟨dst, op, ty, pos, af, some (g, b)⟩ :: os) n sl hl nx acc K := AX_guard hd hs.e hcb h
theorem AF_noguard {op : Op} {d : Nat} {g : Nat} {b c : Bool} {t : Nat} (hd : (ops[g]?).bind (·.dst) = some t) (hs : SL sl t (.g (.bool c))) (hcb : (c == b) = false) (h2 : RF (hasB d n = true)) (h : AF dr P tab ops (i + 1) os n ((d, .none_) :: sl) hl nx (acc ++ [([], [])]) K) : AF dr P tab ops i (⟨some d, op, ty, pos, af, some (g, b)⟩ :: os) n sl hl nx acc K := AX_noguard hd hs.e hcb (has_X h2) (by rw [put_X]; exact h)
theorem AF_nonguard {op : Op} {d : Nat} {g : Nat} {b : Bool} {t : Nat} (hd : (ops[g]?).bind (·.dst) = some t) (hs : SL sl t .none_) (h2 : RF (hasB d n = true)) (h : AF dr P tab ops (i + 1) os n ((d, .none_) :: sl) hl nx (acc ++ [([], [])]) K) : AF dr P tab ops i (⟨some d, op, ty, pos, af, some (g, b)⟩ :: os) n sl hl nx acc K := AX_nonguard hd hs.e (has_X h2) (by rw [put_X]; exact h)
theorem AF_split {op : Op} {dst : Option Nat} {g : Nat} {b c : Bool} {t : Nat} (hd : (ops[g]?).bind (·.dst) = some t) (hs : SL sl t (.g (.bool c))) (h1 : c = true → AF dr P tab ops i (⟨dst, op, ty, pos, af, some (g, b)⟩ :: os) n ((t, .g (.bool true)) :: sl) hl nx acc K) (h2 : c = false → AF dr P tab ops i (⟨dst, op, ty, pos, af, some (g, b)⟩ :: os) n ((t, .g (.bool false)) :: sl) hl nx acc K) : AF dr P tab ops i (⟨dst, op, ty, pos, af, some (g, b)⟩ :: os) n sl hl nx acc K :=
  AX_split hd hs.e (fun e => by rw [put_X]; exact h1 e) (fun e => by rw [put_X]; exact h2 e)
/-- a guard, by what its test gave -/
structure GD (dr : Bool) (P : Program) (tab : Tab) (ops : Array Oper) (i : Nat) (o : Oper) (os : List Oper) (n : Nat) (sl : List (Nat × PV)) (hl : List (Nat × Block)) (nx : Nat) (acc : List (List Nat × List Nat)) (K : AState → List (List Nat × List Nat) → Prop) (t : Nat) (p : PV) : Prop where
  e : SL sl t p → AF dr P tab ops i (o :: os) n sl hl nx acc K
theorem X_guard {op : Op} {dst : Option Nat} {g : Nat} {b : Bool} {t : Nat} {p : PV} (hd : RF ((ops[g]?).bind (·.dst) = some t)) (hs : SL sl t p) (h : GD dr P tab ops i ⟨dst, op, ty, pos, af, some (g, b)⟩ os n sl hl nx acc K t p) : AF dr P tab ops i (⟨dst, op, ty, pos, af, some (g, b)⟩ :: os) n sl hl nx acc K := h.e hs
theorem GD_tt {op : Op} {dst : Option Nat} {g t : Nat} (hd : RF ((ops[g]?).bind (·.dst) = some t)) (h : AF dr P tab ops i (⟨dst, op, ty, pos, af, none⟩ :: os) n sl hl nx acc K) : GD dr P tab ops i ⟨dst, op, ty, pos, af, some (g, true)⟩ os n sl hl nx acc K t (.g (.bool true)) := ⟨fun hs => AF_guard hd.e hs rfl h⟩
theorem GD_ff {op : Op} {dst : Option Nat} {g t : Nat} (hd : RF ((ops[g]?).bind (·.dst) = some t)) (h : AF dr P tab ops i (⟨dst, op, ty, pos, af, none⟩ :: os) n sl hl nx acc K) : GD dr P tab ops i ⟨dst, op, ty, pos, af, some (g, false)⟩ os n sl hl nx acc K t (.g (.bool false)) := ⟨fun hs => AF_guard hd.e hs rfl h⟩
theorem GD_tf {op : Op} {d : Nat} {g t : Nat} (hd : RF ((ops[g]?).bind (·.dst) = some t)) (h2 : RF (hasB d n = true)) (h : AF dr P tab ops (i + 1) os n ((d, .none_) :: sl) hl nx (acc ++ [([], [])]) K) : GD dr P tab ops i ⟨some d, op, ty, pos, af, some (g, false)⟩ os n sl hl nx acc K t (.g (.bool true)) := ⟨fun hs => AF_noguard hd.e hs rfl h2 h⟩
theorem GD_ft {op : Op} {d : Nat} {g t : Nat} (hd : RF ((ops[g]?).bind (·.dst) = some t)) (h2 : RF (hasB d n = true)) (h : AF dr P tab ops (i + 1) os n ((d, .none_) :: sl) hl nx (acc ++ [([], [])]) K) : GD dr P tab ops i ⟨some d, op, ty, pos, af, some (g, true)⟩ os n sl hl nx acc K t (.g (.bool false)) := ⟨fun hs => AF_noguard hd.e hs rfl h2 h⟩
theorem GD_none {op : Op} {d : Nat} {g t : Nat} {b : Bool} (hd : RF ((ops[g]?).bind (·.dst) = some t)) (h2 : RF (hasB d n = true)) (h : AF dr P tab ops (i + 1) os n ((d, .none_) :: sl) hl nx (acc ++ [([], [])]) K) : GD dr P tab ops i ⟨some d, op, ty, pos, af, some (g, b)⟩ os n sl hl nx acc K t .none_ := ⟨fun hs => AF_nonguard hd.e hs h2 h⟩
theorem GD_split {op : Op} {dst : Option Nat} {g t : Nat} {b c : Bool} (hd : RF ((ops[g]?).bind (·.dst) = some t)) (h1 : c = true → AF dr P tab ops i (⟨dst, op, ty, pos, af, some (g, b)⟩ :: os) n ((t, .g (.bool true)) :: sl) hl nx acc K) (h2 : c = false → AF dr P tab ops i (⟨dst, op, ty, pos, af, some (g, b)⟩ :: os) n ((t, .g (.bool false)) :: sl) hl nx acc K) : GD dr P tab ops i ⟨dst, op, ty, pos, af, some (g, b)⟩ os n sl hl nx acc K t (.g (.bool c)) := ⟨fun hs => AF_split hd.e hs h1 h2⟩
end

end Go.Proofs.Ytdkjeodenbffnaa
