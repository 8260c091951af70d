/- Abstract states: a call by its contract. Over any program; no conditions. -/
import Derived.Test.YtdkjeodenbffnaaA15
namespace Go.Proofs.Ytdkjeodenbffnaa
open Go.RowKit
open Shp

def GV.leaves : GV → List GV
  | .agg gs => gs
  | v => [v]

def leavesL : List GV → List GV
  | [] => []
  | c :: cs => c.leaves ++ leavesL cs

def leavesR : GV → List GV
  | .tup vs => leavesL vs
  | v => v.leaves

def thawPs (k : Nat) : List GV → List PV
  | [] => []
  | x :: xs => thawP k x :: thawPs (k + 1) xs

def thawC (k : Nat) : GV → PV
  | .agg gs => .agg (thawPs k gs)
  | v => thawP k v

def thawT (k : Nat) : List GV → List PV
  | [] => []
  | c :: cs => thawC k c :: thawT (k + c.leaves.length) cs

def thawR (k : Nat) : GV → PV
  | .tup vs => .tup (thawT k vs)
  | v => thawC k v

theorem thawPs_len : ∀ (gs : List GV) (k : Nat), (thawPs k gs).length = gs.length
  | [], _ => rfl
  | x :: xs, k => by simp [thawPs, thawPs_len xs]
theorem thawPs_get : ∀ (gs : List GV) (k i : Nat) (hi : i < gs.length), (thawPs k gs)[i]'(by rw [thawPs_len]; exact hi) = thawP (k + i) gs[i]
  | x :: xs, k, 0, _ => rfl
  | x :: xs, k, i + 1, hi => by
    simp only [thawPs, List.getElem_cons_succ]
    rw [thawPs_get xs (k + 1) i (by simpa using hi), Nat.add_right_comm, Nat.add_assoc]
theorem thawT_len : ∀ (gs : List GV) (k : Nat), (thawT k gs).length = gs.length
  | [], _ => rfl
  | x :: xs, k => by simp [thawT, thawT_len xs]

theorem Top.agg_inv {w : World} {v : Value} {gs : List GV} (h : Top w v (.agg gs)) : ∃ vs : List Value, v = .agg vs.toArray ∧ ∃ hl : vs.length = gs.length, ∀ i (hi : i < gs.length), Top w (vs[i]'(hl ▸ hi)) gs[i] := by
  cases h with
  | atom x hx => simp [GV.atom] at hx
  | agg vs gs hl h => exact ⟨vs, rfl, hl, h⟩
theorem Top.tup_inv {w : World} {v : Value} {gs : List GV} (h : Top w v (.tup gs)) : ∃ vs : List Value, v = .tuple vs.toArray ∧ ∃ hl : vs.length = gs.length, ∀ i (hi : i < gs.length), Top w (vs[i]'(hl ▸ hi)) gs[i] := by
  cases h with
  | atom x hx => simp [GV.atom] at hx
  | tup vs gs hl h => exact ⟨vs, rfl, hl, h⟩
theorem GRep.agg_inv {w : World} {F : List Nat} {v : Value} {gs : List GV} (h : GRep w F v (.agg gs)) : ∃ (vs : List Value) (Fs : List (List Nat)), v = .agg vs.toArray ∧ F = Fs.flatten ∧ (∀ v ∈ vs, v.oneCell' = true) ∧ ∃ (hv : vs.length = gs.length) (hF : Fs.length = gs.length), ∀ i (hi : i < gs.length), GRep w (Fs[i]'(hF ▸ hi)) (vs[i]'(hv ▸ hi)) gs[i] := by
  cases h with
  | atom x hx => simp [GV.atom] at hx
  | agg vs gs Fs hv hF h1 hg h => exact ⟨vs, Fs, rfl, rfl, h1, hv, hF, h⟩
theorem GRep.tup_inv {w : World} {F : List Nat} {v : Value} {gs : List GV} (h : GRep w F v (.tup gs)) : ∃ (vs : List Value) (Fs : List (List Nat)), v = .tuple vs.toArray ∧ F = Fs.flatten ∧ ∃ (hv : vs.length = gs.length) (hF : Fs.length = gs.length), ∀ i (hi : i < gs.length), GRep w (Fs[i]'(hF ▸ hi)) (vs[i]'(hv ▸ hi)) gs[i] := by
  cases h with
  | atom x hx => simp [GV.atom] at hx
  | tup vs gs Fs hv hF h => exact ⟨vs, Fs, rfl, rfl, hv, hF, h⟩

theorem comp_leaves {w : World} {F : List Nat} {v : Value} {c : GV} (hg : GRep w F v c) (ht : Top w v c) : ∃ (us : List Value) (Gs : List (List Nat)) (hv : us.length = c.leaves.length) (hF : Gs.length = c.leaves.length), (∀ i (hi : i < c.leaves.length), GRep w (Gs[i]'(hF ▸ hi)) (us[i]'(hv ▸ hi)) c.leaves[i]) ∧
    (∀ i (hi : i < c.leaves.length), Top w (us[i]'(hv ▸ hi)) c.leaves[i]) ∧ Gs.flatten = F ∧ ∀ μ h k, (∀ i (hi : i < c.leaves.length), PRep w μ h (us[i]'(hv ▸ hi)) (thawP (k + i) c.leaves[i])) → PRep w μ h v (thawC k c) := by
  by_cases hc : ∃ gs, c = .agg gs
  · obtain ⟨gs, rfl⟩ := hc
    obtain ⟨vs, Fs, rfl, rfl, h1, hv, hF, h2⟩ := hg.agg_inv
    obtain ⟨us, e, hl, h3⟩ := ht.agg_inv
    have e' : us = vs := by
      have := (Value.agg.injEq _ _).mp e
      simpa using this.symm
    subst e'
    refine ⟨us, Fs, hv, hF, h2, h3, rfl, fun μ h k hp => ?_⟩
    refine .agg us _ (by rw [thawPs_len]; exact hv) h1 fun i hi => ?_
    have hi' : i < gs.length := by rw [thawPs_len] at hi; exact hi
    rw [thawPs_get gs k i hi']
    exact hp i hi'
  · have e1 : c.leaves = [c] := by cases c <;> first | rfl | exact absurd ⟨_, rfl⟩ hc
    have e2 : ∀ k, thawC k c = thawP k c := fun k => by cases c <;> first | rfl | exact absurd ⟨_, rfl⟩ hc
    have z : ∀ i, i < c.leaves.length → i = 0 := fun i hi => by rw [e1] at hi; simp at hi; exact hi
    refine ⟨[v], [F], by rw [e1]; rfl, by rw [e1]; rfl, fun i hi => ?_, fun i hi => ?_, by simp, fun μ h k hp => ?_⟩
    · have := z i hi; subst this; simp only [e1]; exact hg
    · have := z i hi; subst this; simp only [e1]; exact ht
    · have := hp 0 (by rw [e1]; simp)
      simp only [e1] at this
      rw [e2]; exact this

theorem comps_leaves {w : World} : ∀ (cs : List GV) (vs : List Value) (Fs : List (List Nat)) (hv : vs.length = cs.length) (hF : Fs.length = cs.length), (∀ i (hi : i < cs.length), GRep w (Fs[i]'(hF ▸ hi)) (vs[i]'(hv ▸ hi)) cs[i]) → (∀ i (hi : i < cs.length), Top w (vs[i]'(hv ▸ hi)) cs[i]) →
    ∃ (us : List Value) (Gs : List (List Nat)) (hu : us.length = (leavesL cs).length) (hG : Gs.length = (leavesL cs).length), (∀ i (hi : i < (leavesL cs).length), GRep w (Gs[i]'(hG ▸ hi)) (us[i]'(hu ▸ hi)) (leavesL cs)[i]) ∧
    (∀ i (hi : i < (leavesL cs).length), Top w (us[i]'(hu ▸ hi)) (leavesL cs)[i]) ∧ Gs.flatten = Fs.flatten ∧ ∀ μ h k, (∀ i (hi : i < (leavesL cs).length), PRep w μ h (us[i]'(hu ▸ hi)) (thawP (k + i) (leavesL cs)[i])) → ∀ j (hj : j < cs.length), PRep w μ h (vs[j]'(hv ▸ hj)) ((thawT k cs)[j]'(by rw [thawT_len]; exact hj))
  | [], vs, Fs, hv, hF, _, _ => by
    have : Fs = [] := List.eq_nil_of_length_eq_zero hF
    subst this
    exact ⟨[], [], rfl, rfl, by intro i hi; simp [leavesL] at hi, by intro i hi; simp [leavesL] at hi, rfl, by intro μ h k _ j hj; simp at hj⟩
  | c :: cs, vs, Fs, hv, hF, hg, ht => by
    cases vs with
    | nil => simp at hv
    | cons v vs =>
      cases Fs with
      | nil => simp at hF
      | cons F Fs =>
        obtain ⟨us1, Gs1, hu1, hG1, g1, t1, f1, p1⟩ := comp_leaves (hg 0 (by simp)) (ht 0 (by simp))
        obtain ⟨us2, Gs2, hu2, hG2, g2, t2, f2, p2⟩ := comps_leaves cs vs Fs (by simpa using hv) (by simpa using hF) (fun i hi => hg (i + 1) (by simpa using hi)) (fun i hi => ht (i + 1) (by simpa using hi))
        simp only [List.getElem_cons_zero] at hu1 hG1 g1 t1 f1 p1
        refine ⟨us1 ++ us2, Gs1 ++ Gs2, by simp [leavesL, hu1, hu2], by simp [leavesL, hG1, hG2], fun i hi => ?_, fun i hi => ?_, by rw [List.flatten_append, f1, f2]; simp, fun μ h k hp j hj => ?_⟩
        · simp only [leavesL] at hi ⊢
          simp only [getElem_app, hu1, hG1]
          split
          · exact g1 i (by assumption)
          · exact g2 _ (by simp at hi; omega)
        · simp only [leavesL] at hi ⊢
          simp only [getElem_app, hu1]
          split
          · exact t1 i (by assumption)
          · exact t2 _ (by simp at hi; omega)
        · cases j with
          | zero =>
            refine p1 μ h k fun i hi => ?_
            have := hp i (by simp [leavesL]; omega)
            simp only [leavesL, getElem_app, hu1, hi, dif_pos] at this
            exact this
          | succ j =>
            simp only [thawT, List.getElem_cons_succ]
            refine p2 μ h (k + c.leaves.length) (fun i hi => ?_) j (by simpa using hj)
            have := hp (c.leaves.length + i) (by simp [leavesL]; omega)
            simp only [leavesL, getElem_app, hu1] at this
            rw [dif_neg (by omega), dif_neg (by omega)] at this
            simp only [Nat.add_sub_cancel_left] at this
            rw [Nat.add_assoc]; exact this

/-- What a call hands back joins the state. -/
theorem gives_ok {w0 : World} {S : AState} {a : Act} {w w' : World} {μ : Lay} {who : Nat → Option Nat} (h : RelAt w0 S a w μ who) {r : GV} (k : Nat) (hl : (leavesR r).all GV.leaf = true) (hfree : ∀ i, i < (leavesR r).length → S.heap (k + i) = .free)
    {e : Ending} (hg : Gives w r e w') : ∃ v, e = .returned v ∧ ∃ μ' who', RelAt w0 (S.writes (thawW k (leavesR r))) a w' μ' who' ∧ PRep w' μ' (S.writes (thawW k (leavesR r))).heap v (thawR k r) := by
  obtain ⟨v, F, rfl, g, t, nd, nw, hk⟩ := hg
  refine ⟨v, rfl, ?_⟩
  simp only [List.all_eq_true] at hl
  by_cases hc : ∃ vs, r = .tup vs
  · obtain ⟨cs, rfl⟩ := hc
    obtain ⟨vs, Fs, rfl, rfl, hv, hF, g1⟩ := g.tup_inv
    obtain ⟨us, e, hlu, t1⟩ := t.tup_inv
    have e' : us = vs := by
      have := (Value.tuple.injEq _ _).mp e
      simpa using this.symm
    subst e'
    obtain ⟨us2, Gs, hu, hG, g2, t2, f2, p2⟩ := comps_leaves cs us Fs hv hF g1 t1
    obtain ⟨μ', who', q1, q2⟩ := thaw_ok h hk k us2 (leavesL cs) Gs hu hG hfree g2 t2 hl (by rw [f2]; exact nd) (by rw [f2]; exact nw)
    exact ⟨μ', who', q1, .tup us _ (by rw [thawT_len]; exact hv) fun i hi => p2 μ' _ k q2 i (by rw [thawT_len] at hi; exact hi)⟩
  · have e1 : leavesR r = r.leaves := by cases r <;> first | rfl | exact absurd ⟨_, rfl⟩ hc
    have e2 : thawR k r = thawC k r := by cases r <;> first | rfl | exact absurd ⟨_, rfl⟩ hc
    rw [e1] at hfree hl ⊢
    rw [e2]
    obtain ⟨us2, Gs, hu, hG, g2, t2, f2, p2⟩ := comp_leaves g t
    obtain ⟨μ', who', q1, q2⟩ := thaw_ok h hk k us2 r.leaves Gs hu hG hfree g2 t2 hl (by rw [f2]; exact nd) (by rw [f2]; exact nw)
    exact ⟨μ', who', q1, p2 μ' _ k q2⟩

section
variable {P : Program} {tab : Tab} {w0 : World} {S : AState} {a : Act} {w : World} {μ : Lay} {who : Nat → Option Nat}

def AState.args (S : AState) (tab : Tab) : List Operand → List TypeId → List PV
  | x :: xs, t :: ts => S.ev tab t x :: S.args tab xs ts
  | x :: xs, [] => S.ev tab 0 x :: S.args tab xs []
  | [], _ => []

theorem args_len (S : AState) (tab : Tab) : ∀ (xs : List Operand) (ts : List TypeId), (S.args tab xs ts).length = xs.length
  | [], ts => by cases ts <;> rfl
  | x :: xs, [] => by simp [AState.args, args_len S tab xs []]
  | x :: xs, t :: ts => by simp [AState.args, args_len S tab xs ts]

theorem args_ok (h : RelAt w0 S a w μ who) : ∀ (xs : List Operand) (ts : List TypeId) i (hi : i < xs.length), PRep w μ S.heap (a.eval xs[i]) ((S.args tab xs ts)[i]'(by rw [args_len]; exact hi))
  | x :: xs, [], 0, _ => h.ev tab 0 x
  | x :: xs, t :: ts, 0, _ => h.ev tab t x
  | x :: xs, [], i + 1, hi => by simp only [AState.args, List.getElem_cons_succ]; exact args_ok h xs [] i (by simpa using hi)
  | x :: xs, t :: ts, i + 1, hi => by simp only [AState.args, List.getElem_cons_succ]; exact args_ok h xs ts i (by simpa using hi)

/-- what a call through this would call -/
def asFn : PV → Option (FuncId × List PV)
  | .fn f cs => some (f, cs)
  | .g (.fn f gs) => some (f, gs.map .g)
  | _ => none

theorem asFn_inv {w : World} {μ : Lay} {h : Nat → Block} {v : Value} {p : PV} {f : FuncId} {cs : List PV} (hv : PRep w μ h v p) (he : asFn p = some (f, cs)) : ∃ vs : List Value, v = .func (.func f) #[] vs.toArray ∧ ∃ hl : vs.length = cs.length, ∀ i (hi : i < cs.length), PRep w μ h (vs[i]'(hl ▸ hi)) cs[i] := by
  unfold asFn at he
  split at he
  · simp only [Option.some.injEq, Prod.mk.injEq] at he
    obtain ⟨rfl, rfl⟩ := he
    exact hv.fn_inv
  · simp only [Option.some.injEq, Prod.mk.injEq] at he
    obtain ⟨rfl, rfl⟩ := he
    cases hv with
    | g v x F hg hd =>
      cases hg with
      | atom x hx => cases hx
      | fn f' vs gs' Fs hv' hF h =>
        refine ⟨vs, rfl, by simpa using hv', fun i hi => ?_⟩
        have hi' := hi
        rw [List.length_map] at hi'
        rw [List.getElem_map]
        exact .g _ _ _ (h i hi') fun b hb => hd b (getElem_mem_flatten _ hb)
  · cases he

theorem op_call (h : RelAt w0 S a w μ who) {o : Oper} {f : Operand} {args : Array Operand} {tys : Array TypeId} (ho : o.op = .call { callee := .value f, args := args, argTypes := tys }) {fid : FuncId} {caps : List PV} (hf : asFn (S.ev tab 0 f) = some (fid, caps))
    {gs : List GV} (hgs : viewL (view S.heap 6) (S.args tab args.toList tys.toList ++ caps) = some gs) {r : GV} (hc : Con P fid gs r) {nid : Nat} (hl : (leavesR r).all GV.leaf = true) (hfree : ∀ i, i < (leavesR r).length → S.heap (nid + i) = .free) :
    Does P w0 a (S.writes (thawW nid (leavesR r))) (thawR nid r) ((execOp a.eval o).run P w) := by
  have h1 := h.ev tab 0 f
  obtain ⟨cvs, hv, hcl, hcp⟩ := asFn_inv h1 hf
  have hal := args_len S tab args.toList tys.toList
  obtain ⟨Fs, hvl, hF, hg⟩ := viewL_ok (w := w) (μ := μ) (h := S.heap) (fun {v p x} => view_ok h 6) (S.args tab args.toList tys.toList ++ caps) (args.toList.map a.eval ++ cvs) (by simp [hal, hcl]) (fun i hi => by
    simp only [getElem_app, hal]
    by_cases hlt : i < args.toList.length
    · rw [dif_pos (by simpa using hlt), dif_pos hlt]
      simp only [List.getElem_map]
      exact args_ok h args.toList tys.toList i hlt
    · rw [dif_neg (by simpa using hlt), dif_neg hlt]
      simp only [List.length_map]
      exact hcp _ (by simp [hal] at hi; simp at hlt ⊢; omega)) hgs
  have hrun : (execOp a.eval o).run P w = .ok (.enter fid (args.toList.map a.eval ++ cvs).toArray) w := by
    have := hc.enter (args.toList.map a.eval ++ cvs).toArray w
    unfold execOp
    have e1 : (args.map a.eval ++ cvs.toArray) = (args.toList.map a.eval ++ cvs).toArray := by
      apply Array.ext'; simp
    simp only [ho, resolve, hv, Deferred.ofValue, Sem.run_bind, Sem.run_pure, Result.andThen_ok, invoke, Array.empty_append, e1, this]
  rw [hrun]
  refine (hc.calls w _ hvl (fun i hi => ⟨_, hg i hi⟩)).mono fun e w'' hgv => ?_
  exact gives_ok h nid hl hfree hgv

end
end Go.Proofs.Ytdkjeodenbffnaa
