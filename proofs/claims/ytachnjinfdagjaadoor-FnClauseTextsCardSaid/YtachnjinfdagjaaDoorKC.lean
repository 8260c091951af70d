/- Abstract states: all operations together; a region in the order of the text. Over any program; the table is right ('TabOk'). -/
import Derived.Test.YtachnjinfdagjaaDoorKB
import Derived.Test.YtachnjinfdagjaaDoorRegion
set_option linter.unusedSimpArgs false
set_option linter.unusedVariables false
namespace Go.Proofs.YtachnjinfdagjaaDoor
open Go.RowKit
open Shp
def aCall (tab : Tab) (nid : Nat) (c : Call) (S : AState) : Option (PV × List (Nat × Block)) :=
  match c.callee, c.args.toList, c.argTypes.toList with
  | .builtin .len, [x], [t] => aLen tab S.heap t (S.ev tab 0 x)
  | .builtin .append, [x, y], [t, t'] => if t = t' then aApp tab nid S.heap t (S.ev tab t x) (S.ev tab t y) else none
  | .builtin .max, [x, y], _ => aMM true (S.ev tab 0 x) (S.ev tab 0 y)
  | .builtin .min, [x, y], _ => aMM false (S.ev tab 0 x) (S.ev tab 0 y)
  | _, _, _ => none
def aOp (tab : Tab) (nid : Nat) (o : Oper) (S : AState) : Option (PV × List (Nat × Block)) :=
  match o.op with
  | .move x => some (S.ev tab o.type x, [])
  | .assign x => some (S.ev tab o.type x, [])
  | .pick c x y => aPick (S.ev tab 0 c) (S.ev tab o.type x) (S.ev tab o.type y)
  | .alloc elem => aAlloc tab nid S.heap elem
  | .box elem x => aBox tab nid S.heap elem (S.ev tab elem x)
  | .build t parts => match tab t with
    | some ti => aBuild tab t (parts.toList.map fun (i, x) => (i, S.ev tab (partTy ti i) x))
    | none => none
  | .buildSlice t len parts => match elemTy tab t with
    | some (E, _) => aLit tab nid S.heap t len (parts.toList.map (·.1)) (parts.toList.map fun (_, x) => S.ev tab E x)
    | none => none
  | .load t x => aLoad tab S.heap t (S.ev tab 0 x)
  | .store t x y => aStore tab nid S.heap t (S.ev tab 0 x) (S.ev tab t y)
  | .nilCheck x => aNil S.heap (S.ev tab 0 x)
  | .binOp op t x y _ => aBinF tab op t (S.ev tab 0 x) (S.ev tab 0 y)
  | .unOp op _ x => aUn op (S.ev tab 0 x)
  | .convert src dst x => aConv tab src dst (S.ev tab 0 x)
  | .makeFunc fn first caps => match fn with
    | .func f => if first.toList = [] then some (.fn f (caps.toList.map (S.ev tab 0)), []) else none
    | _ => none
  | .makeSlice t l c => aMakeE tab nid S.heap t (S.ev tab 0 l) (S.ev tab 0 c)
  | .slice t x lo hi mx => match mx with
    | none => aSlc tab S.heap t (S.ev tab 0 x) (lo.map (S.ev tab 0)) (hi.map (S.ev tab 0))
    | some _ => none
  | .fieldAddr s x f => aField tab S.heap s (S.ev tab 0 x) f
  | .field t x f => aPart tab t (S.ev tab 0 x) f
  | .indexAddr t x i => aIndex tab S.heap t (S.ev tab 0 x) (S.ev tab 0 i)
  | .index t x i => aIdx tab t (S.ev tab 0 x) (S.ev tab 0 i)
  | .extract x i => aExtract i (S.ev tab 0 x)
  | .call c => aCall tab nid c S
  | _ => none
theorem op_ok {P : Program} {tab : Tab} {w0 : W0} {S : AState} {a : Act} {w : World} {μ : Lay} {who : Nat → Option Nat} (ht : TabOk P tab) (h : RelAt w0 S a w μ who) {o : Oper} {nid : Nat} {pv : PV} {ws : List (Nat × Block)} (hx : aOp tab nid o S = some (pv, ws)) :
    Does P w0 a (S.writes ws) pv ((execOp a.eval o).run P w) := by
  unfold aOp at hx
  split at hx
  · rename_i x ho
    simp only [Option.some.injEq, Prod.mk.injEq] at hx; obtain ⟨rfl, rfl⟩ := hx
    exact op_move h (.inl ho)
  · rename_i x ho
    simp only [Option.some.injEq, Prod.mk.injEq] at hx; obtain ⟨rfl, rfl⟩ := hx
    exact op_move h (.inr ho)
  · exact op_pick h (by assumption) hx
  · exact op_alloc ht h (by assumption) hx
  · exact op_box h (by assumption) hx
  · split at hx
    · exact op_build ht h (by assumption) (by assumption) hx
    · cases hx
  · split at hx
    · exact op_lit ht h (by assumption) (by assumption) hx
    · cases hx
  · exact op_load ht h (by assumption) hx
  · exact op_store ht h (by assumption) hx
  · exact op_nil h (by assumption) hx
  · exact op_binF ht h (by assumption) hx
  · exact op_un h (by assumption) hx
  · exact op_conv ht h (by assumption) hx
  · rename_i fn first caps ho
    split at hx
    · rename_i f
      split at hx
      · rename_i hf
        simp only [Option.some.injEq, Prod.mk.injEq] at hx; obtain ⟨rfl, rfl⟩ := hx
        have : first = #[] := Array.ext' hf
        subst this
        exact op_makeFunc h ho
      · cases hx
    · cases hx
  · exact op_makeE ht h (by assumption) hx
  · split at hx
    · exact op_slc ht h (by assumption) hx
    · cases hx
  · exact op_fieldAddr ht h (by assumption) hx
  · exact op_field ht h (by assumption) hx
  · exact op_index ht h (by assumption) hx
  · exact op_idx ht h (by assumption) hx
  · exact op_extract h (by assumption) hx
  · rename_i c ho
    obtain ⟨callee, args, tys⟩ := c
    unfold aCall at hx
    simp only at hx
    split at hx
    · rename_i x t h1 h2
      have e1 : args = #[x] := Array.ext' h1
      have e2 : tys = #[t] := Array.ext' h2
      subst e1; subst e2
      exact op_len ht h ho hx
    · rename_i x y t t' h1 h2
      have e1 : args = #[x, y] := Array.ext' h1
      have e2 : tys = #[t, t'] := Array.ext' h2
      subst e1; subst e2
      split at hx
      · rename_i e; subst e; exact op_append ht h ho hx
      · cases hx
    · rename_i x y h1
      have e1 : args = #[x, y] := Array.ext' h1
      subst e1
      exact op_max h ho hx
    · rename_i x y h1
      have e1 : args = #[x, y] := Array.ext' h1
      subst e1
      exact op_min h ho hx
    · cases hx
  · cases hx
def dids1 : PV → List Nat
  | .own id _ _ => [id]
  | .ptr id _ => [id]
  | .eptr id _ _ => [id]
  | .g (.raw c _) => [c]
  | .agg cs => cs.flatMap fun | .own id _ _ => [id] | _ => []
  | _ => []
def vids (h : Nat → Block) : Nat → PV → List Nat
  | 0, _ => []
  | n + 1, p => match p with
    | .own id _ _ => [id]
    | .ptr id _ => id :: (match h id with | .box cs => cs.flatMap (vids h n) | _ => [])
    | .agg cs => cs.flatMap (vids h n)
    | .fn _ cs => cs.flatMap (vids h n)
    | _ => []
def tch (tab : Tab) (nid : Nat) (o : Oper) (S : AState) : List Nat :=
  (List.range 8).map (nid + ·) ++ match o.op with
  | .call { callee := .value f, args := args, argTypes := tys } => (S.args tab args.toList tys.toList).flatMap (vids S.heap 6) ++ (match asFn (S.ev tab 0 f) with | some (_, caps) => caps.flatMap (vids S.heap 6) | none => [])
  | .move _ | .assign _ => []
  | op => op.operands.toList.flatMap fun x => dids1 (S.ev tab 0 x)
def ConS (P : Program) (S : AState) (f : FuncId) (gs : List GV) (r : GV) : Prop := Con P f gs r ∨ ∃ cs, S.slots 65536 = .glob 0 cs ∧ ConG P f cs gs r
def CallTo (P : Program) (tab : Tab) (nid : Nat) (o : Oper) (S : AState) (pv : PV) (ws : List (Nat × Block)) : Prop :=
  match o.op with
  | .call { callee := .value f, args := args, argTypes := tys } => ∃ fid caps, asFn (S.ev tab 0 f) = some (fid, caps) ∧ ∃ gs, viewL (view S.heap 6) (S.args tab args.toList tys.toList ++ caps) = some gs ∧ ∃ r, ConS P S fid gs r ∧ (leavesR r).all GV.leaf = true ∧ (leavesR r).length ≤ 8 ∧
      ((List.range (leavesR r).length).all fun i => isFree (S.heap (nid + i))) = true ∧ pv = thawR nid r ∧ ws = thawW nid (leavesR r)
  | _ => False
def EffTo (P : Program) (tab : Tab) (nid : Nat) (o : Oper) (S : AState) (pv : PV) (ws : List (Nat × Block)) : Prop := ∀ S' : AState, (∀ x ∈ o.op.operands.toList, ∀ t, (x = .tmp t ∨ 65536 ≤ t) → S.slots t = S'.slots t) → (∀ id ∈ tch tab nid o S, S.heap id = S'.heap id) →
  ∀ w0 a w μ who, RelAt w0 S' a w μ who → Does P w0 a (S'.writes ws) pv ((execOp a.eval o).run P w)
def StepsTo (P : Program) (tab : Tab) (nid : Nat) (o : Oper) (S : AState) (pv : PV) (ws : List (Nat × Block)) : Prop := aOp tab nid o S = some (pv, ws) ∨ CallTo P tab nid o S pv ws ∨ EffTo P tab nid o S pv ws
theorem steps_ok {P : Program} {tab : Tab} {w0 : W0} {S : AState} {a : Act} {w : World} {μ : Lay} {who : Nat → Option Nat} (ht : TabOk P tab) (h : RelAt w0 S a w μ who) {o : Oper} {nid : Nat} {pv : PV} {ws : List (Nat × Block)} (hx : StepsTo P tab nid o S pv ws) :
    Does P w0 a (S.writes ws) pv ((execOp a.eval o).run P w) := by
  rcases hx with hx | hx | hx
  · exact op_ok ht h hx
  rotate_left
  · exact hx S (fun _ _ _ _ => rfl) (fun _ _ => rfl) _ _ _ _ _ h
  · unfold CallTo at hx
    split at hx
    · rename_i f args tys ho
      obtain ⟨fid, caps, h1, gs, h2, r, h3, h4, _, h5, rfl, rfl⟩ := hx
      simp only [List.all_eq_true, List.mem_range] at h5
      rcases h3 with h3 | ⟨cs, hs, h3⟩
      · exact op_call h ho h1 h2 h3 h4 fun i hi => isFree_iff (h5 i hi)
      · exact op_callG h ho h1 h2 hs h3 h4 fun i hi => isFree_iff (h5 i hi)
    · exact hx.elim
def wantA (ops : Array Oper) (o : Oper) (S : AState) : Option Bool :=
  match o.guard with
  | none => some true
  | some (g, b) => match (ops[g]?).bind (·.dst) with
    | some d => match S.slots d with
      | .g (.bool c) => some (c == b)
      | .none_ => some false
      | _ => none
    | none => none
theorem PRep.none_inv {w : World} {μ : Lay} {h : Nat → Block} {v : Value} (hv : PRep w μ h v .none_) : v = Go.undef := by cases hv; rfl
theorem want_ok {w0 : W0} {S : AState} {a : Act} {w : World} {μ : Lay} {who : Nat → Option Nat} (h : RelAt w0 S a w μ who) {ops : Array Oper} {o : Oper} {b : Bool} (hb : wantA ops o S = some b) : Region.wanted o (yielded ops a.tmps) = b := by
  unfold wantA at hb
  unfold Region.wanted
  split at hb
  · rename_i hg; simp at hb; simp [hg, hb]
  · rename_i g c hg
    simp only [hg]
    split at hb
    · rename_i d hd
      have h1 := h.slot d
      have hy : yielded ops a.tmps g = match a.tmps[d]? with | some (.bool b) => some b | _ => none := by unfold yielded; rw [hd]; rfl
      split at hb
      · rename_i x e1
        rw [e1] at h1
        have h2 := h1.bool_inv
        simp only [Option.some.injEq] at hb
        have h3 : a.tmps[d]? = some (.bool x) := by
          simp only [Array.getD_eq_getD_getElem?] at h2
          cases h4 : a.tmps[d]? <;> simp [h4, Go.undef] at h2 ⊢
          exact h2
        rw [hy, h3]
        rw [← hb]
        cases x <;> cases c <;> rfl
      · rename_i e1
        rw [e1] at h1
        have h2 := h1.none_inv
        simp only [Option.some.injEq] at hb
        have h3 : ∀ x, a.tmps[d]? ≠ some (.bool x) := by
          intro x h4
          simp only [Array.getD_eq_getD_getElem?] at h2
          rw [h4] at h2; simp [Go.undef] at h2
        rw [hy, ← hb]
        cases h4 : a.tmps[d]? with
        | none => rfl
        | some v => cases v <;> first | rfl | exact absurd h4 (h3 _)
      · cases hb
    · cases hb
def MarkTo (P : Program) (tab : Tab) (o : Oper) (S : AState) (pv : PV) (ws : List (Nat × Block)) : Prop := ∃ f x y tx ty ag ps gs gs' k c is, o.op = .call { callee := .value (.func f), args := #[x, y], argTypes := #[tx, ty] } ∧ S.ev tab tx x = (if ag then .agg ps else ps.headD .undef) ∧ (ag = false → ps.length = 1) ∧ S.ev tab ty y = .g (.int .i64 k) ∧
    WhL S.heap ps gs gs' ws is ∧ MarkC P f ag gs gs' k c ∧ (∀ t, (okS S.n t (S.slots t) || okG S.heap (S.slots t)) = true) ∧ (∀ id, okB (S.heap id) = true) ∧ pv = .g (.int .i64 (k + c))
theorem mark_ok {P : Program} {tab : Tab} {w0 : W0} {S : AState} {a : Act} {w : World} {μ : Lay} {who : Nat → Option Nat} (h : RelAt w0 S a w μ who) {o : Oper} {pv : PV} {ws : List (Nat × Block)} (hx : MarkTo P tab o S pv ws) :
    Does P w0 a (S.writes ws) pv ((execOp a.eval o).run P w) := by
  obtain ⟨f, x, y, tx, ty, ag, ps, gs, gs', k, c, is, ho, hp, h1, hk, hw, hc, hS, hH, rfl⟩ := hx
  have px := h.ev tab tx x
  have py := h.ev tab ty y
  rw [hk] at py
  have ey := py.int_inv
  obtain ⟨vs, hvx, hpl⟩ : ∃ vs : List Value, a.eval x = (if ag then .agg vs.toArray else vs.headD Go.undef) ∧ PRL w μ S.heap vs ps := by
    cases ag with
    | true =>
      rw [hp] at px
      obtain ⟨vs, e, hl, _, h2⟩ := PRep.agg_inv px
      exact ⟨vs, e, PRL.of vs ps hl h2⟩
    | false =>
      obtain ⟨p, rfl⟩ := List.length_eq_one_iff.1 (h1 rfl)
      rw [hp] at px
      exact ⟨[a.eval x], rfl, .cons px .nil⟩
  obtain ⟨Fs, g1, hnd, hml⟩ := whL_ok h hw hpl
  have hf := h.ev tab 0 (.func f)
  obtain ⟨cvs, hv, hcl, _⟩ := asFn_inv hf (rfl : asFn (S.ev tab 0 (.func f)) = some (f, []))
  have hc0 : cvs = [] := List.eq_nil_of_length_eq_zero (by simpa using hcl)
  subst hc0
  have hrun : (execOp a.eval o).run P w = .ok (.enter f #[if ag then .agg vs.toArray else vs.headD Go.undef, .int .i64 k]) w := by
    have := hc.enter #[if ag then .agg vs.toArray else vs.headD Go.undef, .int .i64 k] w
    unfold execOp
    simp only [ho, resolve, hv, Deferred.ofValue, Sem.run_bind, Sem.run_pure, Result.andThen_ok, invoke, Array.empty_append]
    have e1 : ((#[x, y] : Array Operand).map a.eval ++ ([] : List Value).toArray) = #[if ag then .agg vs.toArray else vs.headD Go.undef, .int .i64 k] := by
      rw [show ((#[x, y] : Array Operand).map a.eval ++ ([] : List Value).toArray) = #[a.eval x, a.eval y] by simp, hvx, ey]
    rw [e1, this]
  rw [hrun]
  refine (hc.calls w Fs vs g1 hnd).mono fun e w'' hq => ?_
  obtain ⟨he, g2, hkp, hsr⟩ := hq
  exact ⟨_, he, μ, who, mark_rel h hS hH hw hpl hnd hml g2 hkp hsr, .g _ _ [] (.atom (.int .i64 (k + c)) rfl) (by simp)⟩
def AW (P : Program) (tab : Tab) (ops : Array Oper) : Nat → List Oper → AState → (AState → Prop) → Prop
  | _, [], S, K => K S
  | i, o :: os, S, K => ∃ b, wantA ops o S = some b ∧ S.has o.dst = true ∧ (b = true → ∃ pv ws, (StepsTo P tab (S.nx + 8 * i) o S pv ws ∨ MarkTo P tab o S pv ws) ∧ AW P tab ops (i + 1) os ((S.writes ws).put o.dst pv) K) ∧ (b = false → AW P tab ops (i + 1) os (S.put o.dst .none_) K)
theorem has_writes (S : AState) (ws : List (Nat × Block)) (d : Option Nat) : (S.writes ws).has d = S.has d := by cases d <;> rfl
theorem AW_ok {P : Program} {tab : Tab} (ht : TabOk P tab) {ops : Array Oper} {Q : Exit → Act → World → Prop} {w0 : W0} {K : AState → Prop} (hQ : ∀ S a w μ who, K S → RelAt w0 S a w μ who → Q .normal a w) :
    ∀ (os : List Oper) (i : Nat) (S : AState) (a : Act) (w : World) (μ : Lay) (who : Nat → Option Nat), AW P tab ops i os S K → RelAt w0 S a w μ who → wpList P ops Q os a w
  | [], _, S, a, w, μ, who, h, hr => wpList_nil (hQ S a w μ who h hr)
  | o :: os, i, S, a, w, μ, who, h, hr => by
    obtain ⟨b, hb, hd, h1, h2⟩ := h
    have hw := want_ok hr hb
    unfold wpList
    cases b with
    | true =>
      simp only [hw, if_true]
      obtain ⟨pv, ws, hs, hn⟩ := h1 rfl
      refine .inl ((hs.elim (fun hs => steps_ok ht hr hs) fun hs => mark_ok hr hs).wp (by rw [has_writes]; exact hd) fun a' w' μ' who' hr' => ?_)
      exact AW_ok ht hQ os (i + 1) _ a' w' μ' who' hn hr'
    | false =>
      simp only [hw, Bool.false_eq_true, if_false]
      exact AW_ok ht hQ os (i + 1) _ _ w μ who (h2 rfl) (hr.put hd .none_)
def T (P : Program) (c : Code) (S : AState) (Q : Exit → AState → Prop) : Prop := ∀ w0 a w, Rel w0 S a w → c.wp P (fun e a' w' => ∃ S', Q e S' ∧ Rel w0 S' a' w') a w
theorem T.mono {P : Program} {c : Code} {S : AState} {Q Q' : Exit → AState → Prop} (h : T P c S Q) (hq : ∀ e S, Q e S → Q' e S) : T P c S Q' :=
  fun w0 a w hr => wp_mono (h w0 a w hr) fun e a w ⟨S', h1, h2⟩ => ⟨S', hq _ _ h1, h2⟩
theorem T_skip {P : Program} {S : AState} {Q : Exit → AState → Prop} (h : Q .normal S) : T P .skip S Q := fun w0 a w hr => wp_skip ⟨S, h, hr⟩
theorem T_label {P : Program} {l : Nat} {S : AState} {Q : Exit → AState → Prop} (h : Q .normal S) : T P (.label l) S Q := fun w0 a w hr => wp_label ⟨S, h, hr⟩
theorem T_ret {P : Program} {S : AState} {Q : Exit → AState → Prop} (h : Q .ret S) : T P .ret S Q := fun w0 a w hr => wp_ret ⟨S, h, hr⟩
theorem T_exit {P : Program} {id : Nat} {S : AState} {Q : Exit → AState → Prop} (h : Q (.exit id) S) : T P (.exit id) S Q := fun w0 a w hr => wp_exit ⟨S, h, hr⟩
def andT (P : Program) (c : Code) (Q : Exit → AState → Prop) : Exit → AState → Prop
  | .normal, S => T P c S Q
  | e, S => Q e S
theorem T_seq {P : Program} {x y : Code} {S : AState} {Q : Exit → AState → Prop} (h : T P x S (andT P y Q)) : T P (.seq x y) S Q :=
  fun w0 a w hr => wp_seq (wp_mono (h w0 a w hr) fun e a' w' ⟨S', h1, h2⟩ => by
    cases e with
    | normal => exact h1 w0 a' w' h2
    | exit | goto | ret | panic | outgrown => exact ⟨S', h1, h2⟩)
def inT (id : Nat) (Q : Exit → AState → Prop) : Exit → AState → Prop
  | .exit id', S => if id' = id then Q .normal S else Q (.exit id') S
  | e, S => Q e S
theorem T_block {P : Program} {id : Nat} {c : Code} {S : AState} {Q : Exit → AState → Prop} (h : T P c S (inT id Q)) : T P (.block id c) S Q :=
  fun w0 a w hr => wp_block (wp_mono (h w0 a w hr) fun e a' w' ⟨S', h1, h2⟩ => by
    cases e with
    | exit id' =>
      simp only [Exit.inBlock]
      simp only [inT] at h1
      split
      · rename_i e; rw [if_pos e] at h1; exact ⟨S', h1, h2⟩
      · rename_i e; rw [if_neg e] at h1; exact ⟨S', h1, h2⟩
    | normal | goto | ret | panic | outgrown => exact ⟨S', h1, h2⟩)
theorem T_cond {P : Program} {tab : Tab} {c : Operand} {x y : Code} {S : AState} {Q : Exit → AState → Prop} {b : Bool} (hb : S.ev tab 0 c = .g (.bool b)) (ht : b = true → T P x S Q) (hf : b = false → T P y S Q) : T P (.cond c x y) S Q :=
  fun w0 a w hr => by
    obtain ⟨μ, who, h⟩ := hr
    have h1 := h.ev tab 0 c
    rw [hb] at h1
    exact wp_cond_split h1.bool_inv (fun e => ht e w0 a w ⟨μ, who, h⟩) (fun e => hf e w0 a w ⟨μ, who, h⟩)
def AState.on (S : AState) (n : Nat) : AState := { S with nx := S.nx + 8 * n }
theorem Rel.on {w0 : W0} {S : AState} {a : Act} {w : World} (h : Rel w0 S a w) (n : Nat) : Rel w0 (S.on n) a w := by
  obtain ⟨μ, who, h⟩ := h
  exact ⟨μ, who, h.size, h.slot, h.dfr, h.blk, h.inj, h.base, h.keep, h.old⟩
theorem T_region {P : Program} {tab : Tab} (ht : TabOk P tab) (n : Nat) {id : Nat} {l : List Oper} {S : AState} {Q : Exit → AState → Prop} (h : AW P tab l.toArray 0 l S (fun S' => Q .normal (S'.on n))) : T P (.region id l.toArray false) S Q :=
  fun w0 a w hr => by
    obtain ⟨μ, who, hr⟩ := hr
    exact wp_region_lit (AW_ok ht (fun S' a' w' μ' who' hq hr' => ⟨_, hq, Rel.on ⟨μ', who', hr'⟩ _⟩) l 0 S a w μ who h hr)
def Le (S S' : AState) : Prop := ∀ w0 a w, Rel w0 S a w → Rel w0 S' a w
theorem T.le {P : Program} {c : Code} {S S' : AState} {Q : Exit → AState → Prop} (hl : Le S S') (h : T P c S' Q) : T P c S Q := fun w0 a w hr => h w0 a w (hl w0 a w hr)
theorem wp_loop_idx {P : Program} {c : Code} {Q : Exit → Act → World → Prop} {a : Act} {w : World} (I : Nat → Act → World → Prop) (n0 : Nat) (h0 : I n0 a w)
    (round : ∀ n a w, I n a w → c.wp P (Exit.then (fun a' w' => ∃ m, m < n ∧ I m a' w') Q) a w) : (Code.loop c).wp P Q a w := by
  intro b k cs
  have key : ∀ n a w, I n a w → ∃ e a' w', Q e a' w' ∧ Arrives P (lone (b.at a (.code c :: .inLoop c :: k)) cs w) b k cs e a' w' := by
    intro n
    induction n using Nat.strongRecOn with
    | _ n ih =>
      intro a w hI
      obtain ⟨e, a1, w1, hq, harr⟩ := round n a w hI b (.inLoop c :: k) cs
      cases e with
      | normal =>
        obtain ⟨m, hlt, hI1⟩ := hq
        obtain ⟨e2, a2, w2, hq2, harr2⟩ := ih m hlt a1 w1 hI1
        exact ⟨e2, a2, w2, hq2, .of_steps (Steps.trans harr (.one step_inLoop)) harr2⟩
      | exit | goto | ret | panic | outgrown => exact ⟨_, a1, w1, hq, .pass (x := .inLoop c) rfl (fun _ _ => .inl (by simp)) harr⟩
  obtain ⟨e, a', w', hq, harr⟩ := key n0 a w h0
  exact ⟨e, a', w', hq, .of_steps (.one step_loop) harr⟩
theorem T_loop {P : Program} {c : Code} {S : AState} {Q : Exit → AState → Prop} {ι : Type} (I : ι → AState) (ok : ι → Prop) (m : ι → Nat) (i0 : ι) (h0 : Le S (I i0)) (k0 : ok i0)
    (round : ∀ i, ok i → T P c (I i) (fun e S' => match e with | .normal => ∃ j, ok j ∧ m j < m i ∧ Le S' (I j) | e => Q e S')) : T P (.loop c) S Q :=
  fun w0 a w hr => by
    refine wp_loop_idx (fun n a' w' => ∃ i, ok i ∧ m i = n ∧ Rel w0 (I i) a' w') (m i0) ⟨i0, k0, rfl, h0 w0 a w hr⟩ ?_
    rintro n a' w' ⟨i, k, rfl, r⟩
    refine wp_mono (round i k w0 a' w' r) fun e a'' w'' ⟨S', h1, h2⟩ => ?_
    cases e with
    | normal =>
      obtain ⟨j, kj, hlt, hle⟩ := h1
      exact ⟨m j, hlt, j, kj, rfl, hle w0 a'' w'' h2⟩
    | exit | goto | ret | panic | outgrown => exact ⟨S', h1, h2⟩
end Go.Proofs.YtachnjinfdagjaaDoor
namespace Go.Proofs.YtachnjinfdagjaaDoor
open Go.RowKit
open Shp
section
variable {h h' : Nat → Block}
theorem killL_loc {ks : List Nat} {id : Nat} (e : h id = h' id) : killL h ks id = killL h' ks id := by
  induction ks generalizing h h' with
  | nil => exact e
  | cons k ks ih => exact ih (by unfold upd; split <;> simp [e])
theorem absorb_loc {p : PV} (e : ∀ id ∈ dids1 p, h id = h' id) : absorb h p = absorb h' p := by
  cases p with
  | own id lo len => simp only [absorb]; rw [e id (by simp [dids1])]
  | _ => rfl
theorem absL_loc {f : (Nat → Block) → PV → Option (GV × List Nat × Bool)} {D : PV → List Nat} (hf : ∀ {h h' p}, (∀ id ∈ D p, h id = h' id) → f h p = f h' p) : ∀ (ps : List PV) {h h' : Nat → Block}, (∀ p ∈ ps, ∀ id ∈ D p, h id = h' id) → absL f h ps = absL f h' ps
  | [], h, h', _ => rfl
  | p :: ps, h, h', e => by
    unfold absL
    rw [hf (e p (by simp))]
    cases f h' p with
    | none => rfl
    | some r =>
      obtain ⟨v, k, d⟩ := r
      simp only
      rw [absL_loc hf ps (h := killL h k) (h' := killL h' k) fun q hq id hid => killL_loc (e q (by simp [hq]) id hid)]
def dcell : PV → List Nat
  | .own id _ _ => [id]
  | _ => []
theorem absorb_locc {p : PV} (e : ∀ id ∈ dcell p, h id = h' id) : absorb h p = absorb h' p := by
  cases p with
  | own id lo len => simp only [absorb]; rw [e id (by simp [dcell])]
  | _ => rfl
theorem dids1_agg {cs : List PV} {q : PV} (hq : q ∈ cs) {id : Nat} (hid : id ∈ dcell q) : id ∈ dids1 (.agg cs) := by
  simp only [dids1, List.mem_flatMap]
  refine ⟨q, hq, ?_⟩
  cases q <;> simp_all [dcell]
theorem absE_loc {p : PV} (e : ∀ id ∈ dids1 p, h id = h' id) : absE h p = absE h' p := by
  cases p with
  | agg cs =>
    simp only [absE]
    rw [absL_loc (f := absorb) (h := h) (h' := h') (D := dcell) (fun e => absorb_locc e) cs (fun q hq id hid => e id (dids1_agg hq hid))]
  | own id lo len => exact absorb_loc e
  | _ => rfl
theorem srcE_loc {n : Nat} {p : PV} (e : ∀ id ∈ dids1 p, h id = h' id) : srcE h n p = srcE h' n p := by
  cases p with
  | own id lo len => simp only [srcE]; rw [e id (by simp [dids1])]
  | g v => cases v <;> rfl
  | _ => rfl
theorem dstE_loc {n : Nat} {p : PV} (e : ∀ id ∈ dids1 p, h id = h' id) : dstE h n p = dstE h' n p := by
  cases p with
  | own id lo len => simp only [dstE]; rw [e id (by simp [dids1])]
  | _ => rfl
theorem isPtr_loc {p : PV} (e : ∀ id ∈ dids1 p, h id = h' id) : p.isPtr h = p.isPtr h' := by
  cases p with
  | ptr id off => simp only [PV.isPtr]; rw [e id (by simp [dids1])]
  | eptr id k j => simp only [PV.isPtr]; rw [e id (by simp [dids1])]
  | g v => cases v <;> rfl
  | _ => rfl
theorem aLoad_loc {tab : Tab} {t : TypeId} {p : PV} (e : ∀ id ∈ dids1 p, h id = h' id) : aLoad tab h t p = aLoad tab h' t p := by
  unfold aLoad
  cases tab t with
  | none => rfl
  | some ti =>
    cases p with
    | ptr id off => simp only; rw [e id (by simp [dids1])]
    | eptr id k j => simp only; rw [e id (by simp [dids1])]
    | g v => cases v <;> rfl
    | _ => rfl
theorem aStore_loc {tab : Tab} {nid : Nat} {t : TypeId} {p v : PV} (e : ∀ id ∈ dids1 p, h id = h' id) (e2 : ∀ id ∈ dids1 v, h id = h' id) (e3 : h nid = h' nid) : aStore tab nid h t p v = aStore tab nid h' t p v := by
  unfold aStore
  cases tab t with
  | none => rfl
  | some ti =>
    cases p with
    | ptr id off => simp only; rw [e id (by simp [dids1])]
    | eptr id k j => cases j <;> simp only; rw [e id (by simp [dids1]), e3, absE_loc e2]
    | _ => rfl
theorem aSlice_loc {tab : Tab} {t : TypeId} {p : PV} {lo hi : Option PV} (e : ∀ id ∈ dids1 p, h id = h' id) : aSlice tab h t p lo hi = aSlice tab h' t p lo hi := by
  unfold aSlice
  cases p with
  | own id l0 len => simp only; rw [e id (by simp [dids1])]
  | g v => cases v <;> rfl
  | _ => rfl
theorem aSlc_loc {tab : Tab} {t : TypeId} {p : PV} {lo hi : Option PV} (e : ∀ id ∈ dids1 p, h id = h' id) : aSlc tab h t p lo hi = aSlc tab h' t p lo hi := by unfold aSlc; rw [aSlice_loc e]
theorem aField_loc {tab : Tab} {s : TypeId} {p : PV} {f : Nat} (e : ∀ id ∈ dids1 p, h id = h' id) : aField tab h s p f = aField tab h' s p f := by
  unfold aField
  rw [isPtr_loc e]
theorem aIndex_loc {tab : Tab} {t : TypeId} {p i : PV} (e : ∀ id ∈ dids1 p, h id = h' id) : aIndex tab h t p i = aIndex tab h' t p i := by
  unfold aIndex
  cases p with
  | own id l0 len => simp only; rw [e id (by simp [dids1])]
  | ptr id off => simp only; rw [isPtr_loc e]
  | eptr id k j => simp only; rw [isPtr_loc e]
  | g v => cases v <;> rfl
  | _ => rfl
theorem aLen_loc {tab : Tab} {t : TypeId} {p : PV} (e : ∀ id ∈ dids1 p, h id = h' id) : aLen tab h t p = aLen tab h' t p := by
  unfold aLen
  cases tab t with
  | none => rfl
  | some ti =>
    obtain ⟨sz, k, z⟩ := ti
    cases p with
    | own id l0 len => cases k <;> first | rfl | (simp only; rw [e id (by simp [dids1])])
    | g v => cases k <;> cases v <;> rfl
    | _ => cases k <;> rfl
theorem viewL_loc {f g : PV → Option GV} : ∀ (ps : List PV), (∀ p ∈ ps, f p = g p) → viewL f ps = viewL g ps
  | [], _ => rfl
  | p :: ps, e => by
    unfold viewL
    rw [e p (by simp), viewL_loc ps fun q hq => e q (by simp [hq])]
theorem view_loc : ∀ (n : Nat) (p : PV), (∀ id ∈ vids h n p, h id = h' id) → view h n p = view h' n p
  | 0, _, _ => rfl
  | n + 1, p, e => by
    unfold view
    cases p with
    | own id lo len => simp only; rw [e id (by simp [vids])]
    | ptr id off =>
      cases off with
      | zero =>
        have e1 : h id = h' id := e id (by simp [vids])
        simp only
        rw [← e1]
        cases hid : h id with
        | box cs =>
          simp only
          rw [viewL_loc cs fun q hq => view_loc n q fun j hj => e j (by simp only [vids, hid, List.mem_cons, List.mem_flatMap]; exact .inr ⟨q, hq, hj⟩)]
        | _ => rfl
      | succ k => rfl
    | agg cs => simp only; rw [viewL_loc cs fun q hq => view_loc n q fun j hj => e j (by simp only [vids, List.mem_flatMap]; exact ⟨q, hq, hj⟩)]
    | fn f cs => simp only; rw [viewL_loc cs fun q hq => view_loc n q fun j hj => e j (by simp only [vids, List.mem_flatMap]; exact ⟨q, hq, hj⟩)]
    | _ => rfl
end
theorem ev_loc {S S' : AState} {tab : Tab} {ty : TypeId} {x : Operand} (e : ∀ t, (x = .tmp t ∨ 65536 ≤ t) → S.slots t = S'.slots t) : S.ev tab ty x = S'.ev tab ty x := by
  cases x <;> simp only [AState.ev]
  · exact e _ (.inl rfl)
  · rename_i g; rw [e (65536 + g) (.inr (Nat.le_add_right _ _))]
theorem args_loc {S S' : AState} {tab : Tab} : ∀ (xs : List Operand) (ts : List TypeId), (∀ x ∈ xs, ∀ t, (x = .tmp t ∨ 65536 ≤ t) → S.slots t = S'.slots t) → S.args tab xs ts = S'.args tab xs ts
  | [], ts, _ => by cases ts <;> rfl
  | x :: xs, [], e => by simp only [AState.args]; rw [ev_loc (e x (by simp)), args_loc xs [] fun y hy => e y (by simp [hy])]
  | x :: xs, t :: ts, e => by simp only [AState.args]; rw [ev_loc (e x (by simp)), args_loc xs ts fun y hy => e y (by simp [hy])]
theorem ev_dids {S : AState} {tab : Tab} {ty : TypeId} {x : Operand} : ∀ id ∈ dids1 (S.ev tab ty x), id ∈ dids1 (S.ev tab 0 x) := by
  intro id hid
  cases x with
  | tmp t => exact hid
  | const v =>
    simp only [AState.ev] at hid
    unfold cst at hid
    split at hid <;> first | (simp [dids1] at hid; done) | skip
    split at hid <;> first | (simp [dids1] at hid; done) | skip
    split at hid <;> first | (simp [dids1] at hid; done) | skip
    split at hid <;> first | (simp [dids1] at hid; done) | skip
    split at hid <;> simp [dids1] at hid
  | global g => exact hid
  | func f => simp [AState.ev, dids1] at hid
theorem steps_loc {P : Program} {tab : Tab} {nid : Nat} {o : Oper} {S S' : AState} {pv : PV} {ws : List (Nat × Block)} (hs : aOp tab nid o S = some (pv, ws) ∨ CallTo P tab nid o S pv ws) (h1 : ∀ x ∈ o.op.operands.toList, ∀ t, (x = .tmp t ∨ 65536 ≤ t) → S.slots t = S'.slots t) (h2 : ∀ id ∈ tch tab nid o S, S.heap id = S'.heap id) : aOp tab nid o S' = some (pv, ws) ∨ CallTo P tab nid o S' pv ws := by
  have hnid : S.heap nid = S'.heap nid := h2 nid (by simp only [tch, List.mem_append, List.mem_map, List.mem_range]; exact .inl ⟨0, by omega, rfl⟩)
  have hev : ∀ ty x, x ∈ o.op.operands.toList → S.ev tab ty x = S'.ev tab ty x := fun ty x hx => ev_loc (h1 x hx)
  rcases hs with hs | hs
  · refine .inl ?_
    rw [← hs]
    by_cases hcall : ∃ f args tys, o.op = .call { callee := .value f, args := args, argTypes := tys }
    · obtain ⟨f, args, tys, ho⟩ := hcall
      unfold aOp
      simp only [ho, aCall]
    · by_cases hmv : ∃ x, o.op = .move x ∨ o.op = .assign x
      · obtain ⟨x, ho | ho⟩ := hmv
        · rw [ho] at hev
          unfold aOp
          simp only [ho]
          rw [hev o.type x (by simp [Op.operands])]
        · rw [ho] at hev
          unfold aOp
          simp only [ho]
          rw [hev o.type x (by simp [Op.operands])]
      have h3 : ∀ ty x, x ∈ o.op.operands.toList → ∀ id ∈ dids1 (S.ev tab ty x), S.heap id = S'.heap id := fun ty x hx id hid => h2 id (by
        unfold tch
        refine List.mem_append.2 (.inr ?_)
        split
        · rename_i f args tys ho; exact absurd ⟨f, args, tys, ho⟩ hcall
        · rename_i y ho; exact absurd ⟨y, .inl ho⟩ hmv
        · rename_i y ho; exact absurd ⟨y, .inr ho⟩ hmv
        · simp only [List.mem_flatMap]; exact ⟨x, hx, ev_dids id hid⟩)
      unfold aOp
      cases ho : o.op with
      | move x => rw [ho] at hev; simp only; rw [hev o.type x (by simp [Op.operands])]
      | assign x => rw [ho] at hev; simp only; rw [hev o.type x (by simp [Op.operands])]
      | pick c x y => rw [ho] at hev; simp only; rw [hev 0 c (by simp [Op.operands]), hev o.type x (by simp [Op.operands]), hev o.type y (by simp [Op.operands])]
      | alloc elem => simp only [aAlloc]; rw [hnid]
      | box elem x => rw [ho] at hev; simp only [aBox]; rw [hnid, hev elem x (by simp [Op.operands])]
      | build t parts =>
        rw [ho] at hev
        have e : ∀ ti : TI, (parts.toList.map fun (x : Nat × Operand) => (x.1, S.ev tab (partTy ti x.1) x.2)) = parts.toList.map fun (x : Nat × Operand) => (x.1, S'.ev tab (partTy ti x.1) x.2) := fun ti => List.map_congr_left fun x hx => by
          rw [hev (partTy ti x.1) x.2 (by simp only [Op.operands, List.toList_toArray]; exact List.mem_map.2 ⟨x, hx, rfl⟩)]
        simp only [e]
      | buildSlice t len parts =>
        rw [ho] at hev h3
        have hmem : ∀ x ∈ parts.toList, x.2 ∈ (Op.buildSlice t len parts).operands.toList := fun x hx => by simp only [Op.operands, List.toList_toArray]; exact List.mem_map.2 ⟨x, hx, rfl⟩
        have e : ∀ E : TypeId, (parts.toList.map fun (x : Nat × Operand) => S.ev tab E x.2) = parts.toList.map fun (x : Nat × Operand) => S'.ev tab E x.2 := fun E => List.map_congr_left fun x hx => hev E x.2 (hmem x hx)
        simp only [aLit]
        rw [hnid]
        cases elemTy tab t with
        | none => rfl
        | some Ee =>
          obtain ⟨E, n⟩ := Ee
          simp only
          rw [absL_loc (f := absE) (h := S.heap) (h' := S'.heap) (D := dids1) (fun e => absE_loc e) _ (fun q hq => by
            simp only [List.mem_map] at hq
            obtain ⟨x, hx, rfl⟩ := hq
            exact h3 E x.2 (hmem x hx)), e E]
      | load t x =>
        rw [ho] at hev h3
        have hm : x ∈ (Op.load t x).operands.toList := by simp [Op.operands]
        have h4 := h3 0 x hm
        simp only
        rw [← hev 0 x hm, aLoad_loc h4]
      | store t x y =>
        rw [ho] at hev h3
        have hm : x ∈ (Op.store t x y).operands.toList := by simp [Op.operands]
        have hm2 : y ∈ (Op.store t x y).operands.toList := by simp [Op.operands]
        have h4 := h3 0 x hm
        simp only
        rw [← hev 0 x hm, ← hev t y hm2, aStore_loc h4 (h3 t y hm2) hnid]
      | nilCheck x =>
        rw [ho] at hev h3
        have hm : x ∈ (Op.nilCheck x).operands.toList := by simp [Op.operands]
        simp only [aNil]
        rw [← hev 0 x hm, isPtr_loc (h3 0 x hm)]
      | binOp op t x y t' => rw [ho] at hev; simp only; rw [hev 0 x (by simp [Op.operands]), hev 0 y (by simp [Op.operands])]
      | unOp op t x => rw [ho] at hev; simp only; rw [hev 0 x (by simp [Op.operands])]
      | convert s d x => rw [ho] at hev; simp only; rw [hev 0 x (by simp [Op.operands])]
      | makeFunc fn first caps =>
        rw [ho] at hev
        cases fn with
        | func f =>
          simp only
          have e : caps.toList.map (S.ev tab 0) = caps.toList.map (S'.ev tab 0) := List.map_congr_left fun x hx => hev 0 x (by simp only [Op.operands, Array.toList_append]; exact List.mem_append.2 (.inr hx))
          rw [e]
        | _ => rfl
      | makeSlice t l c => rw [ho] at hev; simp only [aMakeE, aMake, aMakeS]; rw [hnid, hev 0 l (by simp [Op.operands]), hev 0 c (by simp [Op.operands])]
      | slice t x lo hi mx =>
        rw [ho] at hev h3
        have hm : x ∈ (Op.slice t x lo hi mx).operands.toList := by simp [Op.operands]
        have h4 := h3 0 x hm
        cases mx with
        | some m => rfl
        | none =>
          have e1 : lo.map (S.ev tab 0) = lo.map (S'.ev tab 0) := by
            cases lo with
            | none => rfl
            | some y => simp only [Option.map_some]; rw [hev 0 y (by simp [Op.operands])]
          have e2 : hi.map (S.ev tab 0) = hi.map (S'.ev tab 0) := by
            cases hi with
            | none => rfl
            | some y => simp only [Option.map_some]; rw [hev 0 y (by simp [Op.operands])]
          simp only
          rw [← e1, ← e2, ← hev 0 x hm, aSlc_loc h4]
      | fieldAddr s x f =>
        rw [ho] at hev h3
        have hm : x ∈ (Op.fieldAddr s x f).operands.toList := by simp [Op.operands]
        have h4 := h3 0 x hm
        simp only
        rw [← hev 0 x hm, aField_loc h4]
      | field t x f => rw [ho] at hev; simp only; rw [hev 0 x (by simp [Op.operands])]
      | indexAddr t x i =>
        rw [ho] at hev h3
        have hm : x ∈ (Op.indexAddr t x i).operands.toList := by simp [Op.operands]
        have h4 := h3 0 x hm
        simp only
        rw [← hev 0 x hm, ← hev 0 i (by simp [Op.operands]), aIndex_loc h4]
      | index t x i => rw [ho] at hev; simp only; rw [hev 0 x (by simp [Op.operands]), hev 0 i (by simp [Op.operands])]
      | extract x i => rw [ho] at hev; simp only; rw [hev 0 x (by simp [Op.operands])]
      | call c =>
        rw [ho] at hev h3
        obtain ⟨callee, args, tys⟩ := c
        simp only [aCall]
        split
        · rename_i x t h5 h6
          have hm : x ∈ (Op.call { callee := .builtin .len, args := args, argTypes := tys }).operands.toList := by simp only [Op.operands, Call.operands, Array.empty_append]; rw [h5]; simp
          have h4 := h3 0 x hm
          rw [← hev 0 x hm, aLen_loc h4]
        · rename_i x y t t' h5 h6
          have hm : x ∈ (Op.call { callee := .builtin .append, args := args, argTypes := tys }).operands.toList := by simp only [Op.operands, Call.operands, Array.empty_append]; rw [h5]; simp
          have hm2 : y ∈ (Op.call { callee := .builtin .append, args := args, argTypes := tys }).operands.toList := by simp only [Op.operands, Call.operands, Array.empty_append]; rw [h5]; simp
          split
          · simp only [aApp]
            rw [← hev t x hm, ← hev t y hm2, ← hnid]
            cases elemTy tab t with
            | none => rfl
            | some Ee =>
              obtain ⟨E, n⟩ := Ee
              simp only
              rw [srcE_loc (h := S.heap) (h' := S'.heap) (h3 t y hm2)]
              cases srcE S'.heap n (S.ev tab t y) with
              | none => rfl
              | some r =>
                obtain ⟨ys, ks2, d2⟩ := r
                simp only
                rw [dstE_loc (h := killL S.heap ks2) (h' := killL S'.heap ks2) fun id hid => killL_loc (h3 t x hm id hid)]
          · rfl
        · rename_i x y h5
          have hm : x ∈ (Op.call { callee := .builtin .max, args := args, argTypes := tys }).operands.toList := by simp only [Op.operands, Call.operands, Array.empty_append]; rw [h5]; simp
          have hm2 : y ∈ (Op.call { callee := .builtin .max, args := args, argTypes := tys }).operands.toList := by simp only [Op.operands, Call.operands, Array.empty_append]; rw [h5]; simp
          rw [← hev 0 x hm, ← hev 0 y hm2]
        · rename_i x y h5
          have hm : x ∈ (Op.call { callee := .builtin .min, args := args, argTypes := tys }).operands.toList := by simp only [Op.operands, Call.operands, Array.empty_append]; rw [h5]; simp
          have hm2 : y ∈ (Op.call { callee := .builtin .min, args := args, argTypes := tys }).operands.toList := by simp only [Op.operands, Call.operands, Array.empty_append]; rw [h5]; simp
          rw [← hev 0 x hm, ← hev 0 y hm2]
        · rfl
      | _ => rfl
  · refine .inr ?_
    unfold CallTo at hs ⊢
    split at hs
    · rename_i f args tys ho
      obtain ⟨fid, caps, q1, gs, q2, r, q3, q4, q8, q5, q6, q7⟩ := hs
      rw [ho] at hev h1
      have hmf : f ∈ (Op.call { callee := .value f, args := args, argTypes := tys }).operands.toList := by simp [Op.operands, Call.operands]
      have hma : ∀ x ∈ args.toList, x ∈ (Op.call { callee := .value f, args := args, argTypes := tys }).operands.toList := fun x hx => by simp only [Op.operands, Call.operands, Array.toList_append]; exact List.mem_append.2 (.inr hx)
      have ht : ∀ id, id ∈ (S.args tab args.toList tys.toList).flatMap (vids S.heap 6) ++ caps.flatMap (vids S.heap 6) → S.heap id = S'.heap id := fun id hid => h2 id (by
        unfold tch
        simp only [ho, q1]
        exact List.mem_append.2 (.inr hid))
      have hargs := args_loc (tab := tab) args.toList tys.toList (fun x hx => h1 x (hma x hx))
      refine ⟨fid, caps, by rw [← hev 0 f hmf]; exact q1, gs, ?_, r, q3.imp id fun ⟨cs, e, hc⟩ => ⟨cs, by rw [← h1 f hmf 65536 (.inr (Nat.le_refl _))]; exact e, hc⟩, q4, q8, ?_, q6, q7⟩
      · rw [← hargs, ← q2]
        refine (viewL_loc _ fun p hp => view_loc 6 p fun id hid => ht id ?_).symm
        rcases List.mem_append.1 hp with h5 | h5
        · exact List.mem_append.2 (.inl (List.mem_flatMap.2 ⟨p, h5, hid⟩))
        · exact List.mem_append.2 (.inr (List.mem_flatMap.2 ⟨p, h5, hid⟩))
      · simp only [List.all_eq_true, List.mem_range] at q5 ⊢
        intro i hi
        rw [← h2 (nid + i) (by simp only [tch, List.mem_append, List.mem_map, List.mem_range]; exact .inl ⟨i, by omega, rfl⟩)]
        exact q5 i hi
    · exact hs.elim
theorem steps_run {P : Program} {tab : Tab} (ht : TabOk P tab) {nid : Nat} {o : Oper} {S S' : AState} {pv : PV} {ws : List (Nat × Block)} (hs : StepsTo P tab nid o S pv ws) (h1 : ∀ x ∈ o.op.operands.toList, ∀ t, (x = .tmp t ∨ 65536 ≤ t) → S.slots t = S'.slots t) (h2 : ∀ id ∈ tch tab nid o S, S.heap id = S'.heap id)
    {w0 : W0} {a : Act} {w : World} {μ : Lay} {who : Nat → Option Nat} (hr : RelAt w0 S' a w μ who) : Does P w0 a (S'.writes ws) pv ((execOp a.eval o).run P w) := by
  rcases hs with hs | hs | hs
  · exact steps_ok ht hr ((steps_loc (.inl hs) h1 h2).elim .inl fun h => .inr (.inl h))
  · exact steps_ok ht hr ((steps_loc (.inr hs) h1 h2).elim .inl fun h => .inr (.inl h))
  · exact hs S' h1 h2 _ _ _ _ _ hr
end Go.Proofs.YtachnjinfdagjaaDoor
namespace Go.Proofs.YtachnjinfdagjaaDoor
open Go.RowKit
open Shp
structure Rec where
  on : Bool
  pv : PV
  ws : List (Nat × Block)
  deriving Inhabited
def Rec.app (r : Rec) (d : Option Nat) (S : AState) : AState := (S.writes r.ws).put d r.pv
def AD (P : Program) (tab : Tab) (ops : Array Oper) : Nat → List Oper → AState → List (List Nat × List Nat) → (AState → List (List Nat × List Nat) → Prop) → Prop
  | _, [], S, acc, K => K S acc
  | i, o :: os, S, acc, K => ∃ b, wantA ops o S = some b ∧ S.has o.dst = true ∧ (b = true → ∃ pv ws, StepsTo P tab (S.nx + 8 * i) o S pv ws ∧ AD P tab ops (i + 1) os ((S.writes ws).put o.dst pv) (acc ++ [(tch tab (S.nx + 8 * i) o S, ws.map (·.1))]) K) ∧
      (b = false → AD P tab ops (i + 1) os (S.put o.dst .none_) (acc ++ [([], [])]) K)
def RunR (P : Program) (tab : Tab) (ops : Array Oper) : Nat → List Oper → AState → List Rec → List (List Nat × List Nat) → AState → Prop
  | _, [], S, rs, tw, S' => rs = [] ∧ tw = [] ∧ S' = S
  | i, o :: os, S, rs, tw, S' => ∃ r rs' x tw', rs = r :: rs' ∧ tw = x :: tw' ∧ wantA ops o S = some r.on ∧ S.has o.dst = true ∧ (r.on = true → StepsTo P tab (S.nx + 8 * i) o S r.pv r.ws ∧ x = (tch tab (S.nx + 8 * i) o S, r.ws.map (·.1))) ∧ (r.on = false → r.pv = .none_ ∧ r.ws = [] ∧ x = ([], [])) ∧
      RunR P tab ops (i + 1) os (r.app o.dst S) rs' tw' S'
theorem AD_run {P : Program} {tab : Tab} {ops : Array Oper} {K : AState → List (List Nat × List Nat) → Prop} : ∀ (os : List Oper) (i : Nat) (S : AState) (acc : List (List Nat × List Nat)), AD P tab ops i os S acc K → ∃ rs tw S', RunR P tab ops i os S rs tw S' ∧ K S' (acc ++ tw)
  | [], i, S, acc, h => ⟨[], [], S, ⟨rfl, rfl, rfl⟩, by simpa [AD] using h⟩
  | o :: os, i, S, acc, h => by
    obtain ⟨b, hb, hd, h1, h2⟩ := h
    cases b with
    | true =>
      obtain ⟨pv, ws, hs, hn⟩ := h1 rfl
      obtain ⟨rs, tw, S', q1, q2⟩ := AD_run os _ _ _ hn
      exact ⟨⟨true, pv, ws⟩ :: rs, _ :: tw, S', ⟨⟨true, pv, ws⟩, rs, _, tw, rfl, rfl, hb, hd, fun _ => ⟨hs, rfl⟩, fun e => (by cases e), q1⟩, by simpa using q2⟩
    | false =>
      obtain ⟨rs, tw, S', q1, q2⟩ := AD_run os _ _ _ (h2 rfl)
      exact ⟨⟨false, .none_, []⟩ :: rs, _ :: tw, S', ⟨⟨false, .none_, []⟩, rs, _, tw, rfl, rfl, hb, hd, fun e => (by cases e), fun _ => ⟨rfl, rfl, rfl⟩, q1⟩, by simpa using q2⟩
def bmask (acc : List Nat) (o : Oper) : Nat := o.after.toList.foldl (fun s e => if Region.binds .any e then s ||| 2 ^ e.on ||| acc.getD e.on 0 else s) 0
def befs : List Oper → List Nat → List Nat
  | [], acc => acc
  | o :: os, acc => befs os (acc ++ [bmask acc o])
def confB (ops : Array Oper) (oi oj : Oper) (ti wi tj wj : List Nat) : Bool :=
  (match oi.dst with
   | some d => oj.dst == some d || (oj.looksAt ops).contains d
   | none => false) ||
  (match oj.dst with
   | some d => (oi.looksAt ops).contains d
   | none => false) ||
  wi.any (fun x => wj.contains x || tj.contains x) || wj.any (fun x => ti.contains x)
def ordB (l : List Oper) (tw : List (List Nat × List Nat)) : Bool :=
  let bs := befs l []
  (List.range l.length).all fun j => match l[j]? with
    | some oj => (oj.after.toList.all fun e => !Region.binds .any e || decide (e.on < j)) && (List.range j).all fun i => match l[i]? with
      | some oi => !confB l.toArray oi oj (tw.getD i ([], [])).1 (tw.getD i ([], [])).2 (tw.getD j ([], [])).1 (tw.getD j ([], [])).2 || (bs.getD j 0).testBit i
      | none => true
    | none => true
section
variable {l : List Oper}
def DownL (l : List Oper) (L : Nat → Bool) : Prop := ∀ j o, l[j]? = some o → L j = true → ∀ e ∈ o.after, Region.binds .any e = true → L e.on = true
def ReadyL (l : List Oper) (L : Nat → Bool) (j : Nat) : Prop := ∀ o, l[j]? = some o → ∀ e ∈ o.after, Region.binds .any e = true → L e.on = true
theorem testBit_pow_or {s n m i : Nat} (h : (s ||| 2 ^ n ||| m).testBit i = true) : s.testBit i = true ∨ n = i ∨ m.testBit i = true := by
  simp only [Nat.testBit_or, Nat.testBit_two_pow, Bool.or_eq_true, decide_eq_true_eq] at h
  rcases h with (h | h) | h
  · exact .inl h
  · exact .inr (.inl h)
  · exact .inr (.inr h)
theorem bmask_bit {acc : List Nat} {o : Oper} {i : Nat} (h : (bmask acc o).testBit i = true) : ∃ e ∈ o.after, Region.binds .any e = true ∧ (e.on = i ∨ (acc.getD e.on 0).testBit i = true) := by
  unfold bmask at h
  have key : ∀ (es : List Edge) (s : Nat), (es.foldl (fun s e => if Region.binds .any e then s ||| 2 ^ e.on ||| acc.getD e.on 0 else s) s).testBit i = true → s.testBit i = true ∨ ∃ e ∈ es, Region.binds .any e = true ∧ (e.on = i ∨ (acc.getD e.on 0).testBit i = true) := by
    intro es
    induction es with
    | nil => intro s h; exact .inl h
    | cons e es ih =>
      intro s h
      simp only [List.foldl_cons] at h
      rcases ih _ h with h1 | ⟨e', h1, h2⟩
      · split at h1
        · rename_i hb
          rcases testBit_pow_or h1 with h3 | h3 | h3
          · exact .inl h3
          · exact .inr ⟨e, by simp, hb, .inl h3⟩
          · exact .inr ⟨e, by simp, hb, .inr h3⟩
        · exact .inl h1
      · exact .inr ⟨e', by simp [h1], h2⟩
  rcases key _ _ h with h1 | ⟨e, h1, h2⟩
  · simp at h1
  · exact ⟨e, by simpa using h1, h2⟩
theorem befs_ok : ∀ (os : List Oper) (acc : List Nat) (pre : List Oper), acc.length = pre.length → pre ++ os = l → (∀ j, j < acc.length → ∀ i, (acc.getD j 0).testBit i = true → ∀ L, DownL l L → (L j = true ∨ ReadyL l L j) → L i = true) →
    ∀ j i, ((befs os acc).getD j 0).testBit i = true → ∀ L, DownL l L → (L j = true ∨ ReadyL l L j) → L i = true
  | [], acc, pre, hl, hp, h => fun j i hb L hd hr => by
    by_cases hj : j < acc.length
    · exact h j hj i hb L hd hr
    · simp only [befs, List.getD] at hb
      rw [List.getElem?_eq_none (by omega)] at hb
      simp at hb
  | o :: os, acc, pre, hl, hp, h => by
    refine befs_ok os (acc ++ [bmask acc o]) (pre ++ [o]) (by simp [hl]) (by simp [hp]) fun j hj i hb L hd hr => ?_
    by_cases hlt : j < acc.length
    · refine h j hlt i ?_ L hd hr
      simpa [List.getD, List.getElem?_append_left hlt] using hb
    · have hje : j = acc.length := by simp at hj; omega
      subst hje
      have hb' : (bmask acc o).testBit i = true := by simpa [List.getD] using hb
      have ho : l[acc.length]? = some o := by rw [← hp, hl]; simp
      obtain ⟨e, he, hbind, h2⟩ := bmask_bit hb'
      have hon : L e.on = true := by
        rcases hr with hr | hr
        · exact hd _ o ho hr e he hbind
        · exact hr o ho e he hbind
      rcases h2 with rfl | h2
      · exact hon
      · by_cases hlt2 : e.on < acc.length
        · exact h e.on hlt2 i h2 L hd (.inl hon)
        · simp only [List.getD] at h2
          rw [List.getElem?_eq_none (by omega)] at h2
          simp at h2
theorem ord_ok {tw : List (List Nat × List Nat)} (h : ordB l tw = true) {i j : Nat} {oi oj : Oper} (hi : l[i]? = some oi) (hj : l[j]? = some oj) (hij : i < j) (hc : confB l.toArray oi oj (tw.getD i ([], [])).1 (tw.getD i ([], [])).2 (tw.getD j ([], [])).1 (tw.getD j ([], [])).2 = true) {L : Nat → Bool} (hd : DownL l L) (hr : L j = true ∨ ReadyL l L j) : L i = true := by
  unfold ordB at h
  simp only [List.all_eq_true, List.mem_range] at h
  have hjl : j < l.length := (List.getElem?_eq_some_iff.1 hj).1
  have h1 := h j hjl
  simp only [hj, Bool.and_eq_true, List.all_eq_true, List.mem_range] at h1
  have h2 := h1.2 i hij
  simp only [hi, hc, Bool.not_true, Bool.false_or] at h2
  exact befs_ok l [] [] rfl rfl (by intro j hj; simp at hj) j i h2 L hd hr
theorem ord_back {tw : List (List Nat × List Nat)} (h : ordB l tw = true) {j : Nat} {oj : Oper} (hj : l[j]? = some oj) : ∀ e ∈ oj.after, Region.binds .any e = true → e.on < j := by
  unfold ordB at h
  simp only [List.all_eq_true, List.mem_range] at h
  have h1 := h j (List.getElem?_eq_some_iff.1 hj).1
  simp only [hj, Bool.and_eq_true, List.all_eq_true] at h1
  intro e he hb
  have := h1.1 e (by simpa using he)
  simpa [hb] using this
end
end Go.Proofs.YtachnjinfdagjaaDoor
namespace Go.Proofs.YtachnjinfdagjaaDoor
open Go.RowKit
open Shp
theorem AState.ext' {S S' : AState} (h1 : S.n = S'.n) (h2 : ∀ t, S.slots t = S'.slots t) (h3 : ∀ id, S.heap id = S'.heap id) (h4 : S.nx = S'.nx) : S = S' := by
  cases S; cases S'
  simp only at h1 h2 h3 h4
  subst h1; subst h4
  congr
  · exact funext h2
  · exact funext h3
def dstOf (l : List Oper) (k : Nat) : Option Nat := (l[k]?).bind (·.dst)
def runA (l : List Oper) (rec : Nat → Rec) (S0 : AState) (L : Nat → Bool) : Nat → AState
  | 0 => S0
  | k + 1 => if L k then (rec k).app (dstOf l k) (runA l rec S0 L k) else runA l rec S0 L k
theorem app_n (r : Rec) (d : Option Nat) (S : AState) : (r.app d S).n = S.n ∧ (r.app d S).nx = S.nx := by cases d <;> exact ⟨rfl, rfl⟩
theorem app_slots (r : Rec) (d : Option Nat) (S : AState) (t : Nat) : (r.app d S).slots t = if d = some t then r.pv else S.slots t := by
  cases d with
  | none => simp [Rec.app, AState.put, AState.writes]
  | some d =>
    simp only [Rec.app, AState.put, AState.writes, upd, Option.some.injEq]
    by_cases e : t = d
    · simp [e]
    · rw [if_neg e, if_neg (fun h => e h.symm)]
theorem app_heap (r : Rec) (d : Option Nat) (S : AState) : (r.app d S).heap = writesH S.heap r.ws := by cases d <;> rfl
section
variable {l : List Oper} {rec : Nat → Rec} {S0 : AState}
theorem runA_n (L : Nat → Bool) : ∀ k, (runA l rec S0 L k).n = S0.n ∧ (runA l rec S0 L k).nx = S0.nx
  | 0 => ⟨rfl, rfl⟩
  | k + 1 => by
    unfold runA
    split
    · rw [(app_n _ _ _).1, (app_n _ _ _).2]; exact runA_n L k
    · exact runA_n L k
theorem runA_slots {L L' : Nat → Bool} {t : Nat} : ∀ {k : Nat}, (∀ j, j < k → dstOf l j = some t → L j = L' j) → (runA l rec S0 L k).slots t = (runA l rec S0 L' k).slots t
  | 0, _ => rfl
  | k + 1, h => by
    have ih := runA_slots (k := k) fun j hj hd => h j (by omega) hd
    unfold runA
    by_cases hd : dstOf l k = some t
    · rw [h k (by omega) hd]
      split
      · rw [app_slots, app_slots, if_pos hd, if_pos hd]
      · exact ih
    · have e1 : ∀ b : Bool, (if b = true then (rec k).app (dstOf l k) (runA l rec S0 L k) else runA l rec S0 L k).slots t = (runA l rec S0 L k).slots t := fun b => by
        cases b
        · rfl
        · simp only [if_true]; rw [app_slots, if_neg hd]
      have e2 : ∀ b : Bool, (if b = true then (rec k).app (dstOf l k) (runA l rec S0 L' k) else runA l rec S0 L' k).slots t = (runA l rec S0 L' k).slots t := fun b => by
        cases b
        · rfl
        · simp only [if_true]; rw [app_slots, if_neg hd]
      rw [e1, e2]; exact ih
theorem runA_heap {L L' : Nat → Bool} {id : Nat} : ∀ {k : Nat}, (∀ j, j < k → id ∈ (rec j).ws.map (·.1) → L j = L' j) → (runA l rec S0 L k).heap id = (runA l rec S0 L' k).heap id
  | 0, _ => rfl
  | k + 1, h => by
    have ih := runA_heap (k := k) fun j hj hd => h j (by omega) hd
    unfold runA
    by_cases hd : id ∈ (rec k).ws.map (·.1)
    · rw [h k (by omega) hd]
      split
      · rw [app_heap, app_heap]; exact writesH_mem hd
      · exact ih
    · have e1 : ∀ (b : Bool) (M : Nat → Bool), (if b = true then (rec k).app (dstOf l k) (runA l rec S0 M k) else runA l rec S0 M k).heap id = (runA l rec S0 M k).heap id := fun b M => by
        cases b
        · rfl
        · simp only [if_true]; rw [app_heap, writesH_ne hd]
      rw [e1, e1]; exact ih
theorem runA_congr {L L' : Nat → Bool} {k : Nat} (h : ∀ j, j < k → L j = L' j) : runA l rec S0 L k = runA l rec S0 L' k :=
  AState.ext' (by rw [(runA_n L k).1, (runA_n L' k).1]) (fun t => runA_slots fun j hj _ => h j hj) (fun id => runA_heap fun j hj _ => h j hj) (by rw [(runA_n L k).2, (runA_n L' k).2])
theorem runA_cut (L : Nat → Bool) (i : Nat) : ∀ k, i ≤ k → runA l rec S0 (fun j => L j && decide (j < i)) k = runA l rec S0 L i
  | 0, h => by
    have : i = 0 := by omega
    subst this; rfl
  | k + 1, h => by
    by_cases e : i = k + 1
    · subst e
      exact runA_congr fun j hj => by simp [hj]
    · conv => lhs; unfold runA
      rw [if_neg (by simp; omega)]
      exact runA_cut L i k (by omega)
theorem runA_last {L : Nat → Bool} {i : Nat} (hi : L i = true) : ∀ {k : Nat}, i < k → (∀ t, dstOf l i = some t → (∀ j, j < k → i < j → L j = true → dstOf l j ≠ some t) → (runA l rec S0 L k).slots t = (rec i).pv) ∧
    (∀ id, id ∈ (rec i).ws.map (·.1) → (∀ j, j < k → i < j → L j = true → id ∉ (rec j).ws.map (·.1)) → ∀ h, (runA l rec S0 L k).heap id = writesH h (rec i).ws id)
  | 0, h => by omega
  | k + 1, h => by
    by_cases e : i = k
    · subst e
      unfold runA
      rw [if_pos hi]
      exact ⟨fun t ht _ => by rw [app_slots, if_pos ht], fun id hid _ h => by rw [app_heap]; exact writesH_mem hid⟩
    · obtain ⟨h1, h2⟩ := runA_last hi (k := k) (by omega)
      unfold runA
      refine ⟨fun t ht hj => ?_, fun id hid hj h => ?_⟩
      · have := h1 t ht fun j hjk => hj j (by omega)
        split
        · rename_i hk
          rw [app_slots, if_neg (hj k (by omega) (by omega) hk)]; exact this
        · exact this
      · have := h2 id hid (fun j hjk => hj j (by omega)) h
        split
        · rename_i hk
          rw [app_heap, writesH_ne (hj k (by omega) (by omega) hk)]; exact this
        · exact this
end
structure RunI (P : Program) (tab : Tab) (l : List Oper) (S0 : AState) (rec : Nat → Rec) (tw : List (List Nat × List Nat)) : Prop where
  all : ∀ k o, l[k]? = some o → wantA l.toArray o (runA l rec S0 (fun _ => true) k) = some (rec k).on ∧ S0.has o.dst = true ∧
    ((rec k).on = true → StepsTo P tab (S0.nx + 8 * k) o (runA l rec S0 (fun _ => true) k) (rec k).pv (rec k).ws ∧ tw.getD k ([], []) = (tch tab (S0.nx + 8 * k) o (runA l rec S0 (fun _ => true) k), (rec k).ws.map (·.1))) ∧
    ((rec k).on = false → (rec k).pv = .none_ ∧ (rec k).ws = [] ∧ tw.getD k ([], []) = ([], []))
theorem RunR_index {P : Program} {tab : Tab} {S0 : AState} : ∀ (os pre : List Oper) (rpre rs : List Rec) (tpre tw : List (List Nat × List Nat)) (S S' : AState), rpre.length = pre.length → tpre.length = pre.length → RunR P tab (pre ++ os).toArray pre.length os S rs tw S' →
    S = runA (pre ++ os) (fun k => (rpre ++ rs).getD k default) S0 (fun _ => true) pre.length →
    (∀ k o, pre.length ≤ k → (pre ++ os)[k]? = some o → wantA (pre ++ os).toArray o (runA (pre ++ os) (fun k => (rpre ++ rs).getD k default) S0 (fun _ => true) k) = some ((rpre ++ rs).getD k default).on ∧ S0.has o.dst = true ∧
      (((rpre ++ rs).getD k default).on = true → StepsTo P tab (S0.nx + 8 * k) o (runA (pre ++ os) (fun k => (rpre ++ rs).getD k default) S0 (fun _ => true) k) ((rpre ++ rs).getD k default).pv ((rpre ++ rs).getD k default).ws ∧ (tpre ++ tw).getD k ([], []) = (tch tab (S0.nx + 8 * k) o (runA (pre ++ os) (fun k => (rpre ++ rs).getD k default) S0 (fun _ => true) k), ((rpre ++ rs).getD k default).ws.map (·.1))) ∧
      (((rpre ++ rs).getD k default).on = false → ((rpre ++ rs).getD k default).pv = .none_ ∧ ((rpre ++ rs).getD k default).ws = [] ∧ (tpre ++ tw).getD k ([], []) = ([], []))) ∧
    S' = runA (pre ++ os) (fun k => (rpre ++ rs).getD k default) S0 (fun _ => true) (pre ++ os).length
  | [], pre, rpre, rs, tpre, tw, S, S', h1, h2, h, hS => by
    obtain ⟨rfl, rfl, rfl⟩ := h
    refine ⟨fun k o hk ho => ?_, by simpa using hS⟩
    have := (List.getElem?_eq_some_iff.1 ho).1
    simp at this; omega
  | o :: os, pre, rpre, rs, tpre, tw, S, S', h1, h2, h, hS => by
    obtain ⟨r, rs', x, tw', rfl, rfl, q1, q2, q3, q4, q5⟩ := h
    have e1 : pre ++ o :: os = (pre ++ [o]) ++ os := by simp
    have e2 : rpre ++ r :: rs' = (rpre ++ [r]) ++ rs' := by simp
    have e3 : tpre ++ x :: tw' = (tpre ++ [x]) ++ tw' := by simp
    have hr : (rpre ++ r :: rs').getD pre.length default = r := by rw [← h1]; simp [List.getD]
    have hx : (tpre ++ x :: tw').getD pre.length ([], []) = x := by rw [← h2]; simp [List.getD]
    have ho : (pre ++ o :: os)[pre.length]? = some o := by simp
    have hsn := runA_n (l := pre ++ o :: os) (rec := fun k => (rpre ++ r :: rs').getD k default) (S0 := S0) (fun _ => true) pre.length
    have hnx : S.nx = S0.nx := by rw [hS]; exact hsn.2
    have hn : S.n = S0.n := by rw [hS]; exact hsn.1
    have hlen : pre.length + 1 = (pre ++ [o]).length := by simp
    have hS2 : r.app o.dst S = runA ((pre ++ [o]) ++ os) (fun k => ((rpre ++ [r]) ++ rs').getD k default) S0 (fun _ => true) (pre ++ [o]).length := by
      rw [← e1, ← e2, ← hlen]
      conv => rhs; unfold runA
      rw [if_pos rfl, ← hS, hr]
      have : dstOf (pre ++ o :: os) pre.length = o.dst := by unfold dstOf; rw [ho]; rfl
      rw [this]
    rw [e1, hlen] at q5
    obtain ⟨f1, f2⟩ := RunR_index os (pre ++ [o]) (rpre ++ [r]) rs' (tpre ++ [x]) tw' _ S' (by simp [h1]) (by simp [h2]) q5 hS2
    rw [← e1, ← e2, ← e3] at f1
    rw [← e1, ← e2] at f2
    refine ⟨fun k o' hk ho' => ?_, f2⟩
    by_cases e : k = pre.length
    · subst e
      rw [ho] at ho'
      cases ho'
      rw [hr, hx, ← hS]
      refine ⟨q1, ?_, fun hon => ?_, fun hoff => q4 hoff⟩
      · cases hd : o.dst with
        | none => rfl
        | some d => rw [hd] at q2; simp only [AState.has] at q2 ⊢; rw [← hn]; exact q2
      · rw [← hnx]; exact q3 hon
    · exact f1 k o' (by simp; omega) ho'
section
variable {P : Program} {tab : Tab} {l : List Oper} {rec : Nat → Rec} {S0 : AState} {tw : List (List Nat × List Nat)}
theorem look_mem {o : Oper} {ops : Array Oper} {t : Nat} (h : ∃ x ∈ o.op.operands.toList, x = .tmp t) : t ∈ o.looksAt ops := by
  obtain ⟨x, hx, rfl⟩ := h
  unfold Oper.looksAt
  exact List.mem_append.2 (.inl (List.mem_filterMap.2 ⟨_, hx, rfl⟩))
theorem next_ok (hI : RunI P tab l S0 rec tw) (ho : ordB l tw = true) {L : Nat → Bool} (hd : DownL l L) {i : Nat} {o : Oper} (hi : l[i]? = some o) (hno : L i = false) (hr : ReadyL l L i) :
    (∀ t, t ∈ o.looksAt l.toArray → (runA l rec S0 (fun _ => true) i).slots t = (runA l rec S0 L l.length).slots t) ∧ (∀ id, id ∈ (tw.getD i ([], [])).1 → (runA l rec S0 (fun _ => true) i).heap id = (runA l rec S0 L l.length).heap id) ∧
    runA l rec S0 (fun j => if j = i then true else L j) l.length = (rec i).app o.dst (runA l rec S0 L l.length) := by
  have hil : i < l.length := (List.getElem?_eq_some_iff.1 hi).1
  have hdst : ∀ {j oj}, l[j]? = some oj → dstOf l j = oj.dst := fun h => by unfold dstOf; rw [h]; rfl
  have hws : ∀ {j oj}, l[j]? = some oj → (tw.getD j ([], [])).2 = (rec j).ws.map (·.1) := fun {j oj} h => by
    obtain ⟨_, _, h1, h2⟩ := hI.all j oj h
    cases hb : (rec j).on with
    | true => rw [(h1 hb).2]
    | false => rw [(h2 hb).2.2, (h2 hb).2.1]; rfl
  have hbefore : ∀ {j oj}, l[j]? = some oj → j < i → confB l.toArray oj o (tw.getD j ([], [])).1 (tw.getD j ([], [])).2 (tw.getD i ([], [])).1 (tw.getD i ([], [])).2 = true → L j = true := fun hj hlt hc => ord_ok ho hj hi hlt hc hd (.inr hr)
  have hafter : ∀ {j oj}, l[j]? = some oj → i < j → confB l.toArray o oj (tw.getD i ([], [])).1 (tw.getD i ([], [])).2 (tw.getD j ([], [])).1 (tw.getD j ([], [])).2 = true → L j = false := fun {j oj} hj hlt hc => by
    cases hL : L j with
    | false => rfl
    | true => have := ord_ok ho hi hj hlt hc hd (.inl hL); rw [hno] at this; cases this
  have hget : ∀ {j}, j < l.length → ∃ oj, l[j]? = some oj := fun h => ⟨_, List.getElem?_eq_getElem h⟩
  refine ⟨fun t ht => ?_, fun id hid => ?_, ?_⟩
  · rw [← runA_cut (fun _ => true) i l.length (by omega)]
    refine runA_slots fun j hj hdj => ?_
    obtain ⟨oj, hoj⟩ := hget hj
    rw [hdst hoj] at hdj
    simp only [Bool.true_and]
    rcases Nat.lt_trichotomy j i with h | h | h
    · rw [hbefore hoj h (by simp [confB, hdj, ht])]; simp [h]
    · subst h; rw [hno]; simp
    · rw [hafter hoj h (by simp [confB, hdj, ht])]; simp; omega
  · rw [← runA_cut (fun _ => true) i l.length (by omega)]
    refine runA_heap fun j hj hdj => ?_
    obtain ⟨oj, hoj⟩ := hget hj
    rw [← hws hoj] at hdj
    simp only [Bool.true_and]
    rcases Nat.lt_trichotomy j i with h | h | h
    · rw [hbefore hoj h (by
        simp only [confB, Bool.or_eq_true]
        refine .inl (.inr ?_)
        simp only [List.any_eq_true, Bool.or_eq_true, List.contains_iff_mem]
        exact ⟨id, hdj, .inr hid⟩)]
      simp [h]
    · subst h; rw [hno]; simp
    · rw [hafter hoj h (by
        simp only [confB, Bool.or_eq_true]
        refine .inr ?_
        simp only [List.any_eq_true, List.contains_iff_mem]
        exact ⟨id, hdj, hid⟩)]
      simp; omega
  · have hn1 := runA_n (l := l) (rec := rec) (S0 := S0) (fun j => if j = i then true else L j) l.length
    have hn2 := runA_n (l := l) (rec := rec) (S0 := S0) L l.length
    have hn3 := app_n (rec i) o.dst (runA l rec S0 L l.length)
    obtain ⟨la1, la2⟩ := runA_last (l := l) (rec := rec) (S0 := S0) (L := fun j => if j = i then true else L j) (i := i) (by simp) (k := l.length) hil
    refine AState.ext' (by rw [hn1.1, hn3.1, hn2.1]) (fun t => ?_) (fun id => ?_) (by rw [hn1.2, hn3.2, hn2.2])
    · rw [app_slots]
      by_cases hd' : o.dst = some t
      · rw [if_pos hd']
        refine la1 t (by rw [hdst hi]; exact hd') fun j hj hij hLj hdj => ?_
        obtain ⟨oj, hoj⟩ := hget hj
        rw [hdst hoj] at hdj
        rw [if_neg (by omega)] at hLj
        rw [hafter hoj hij (by simp [confB, hd', hdj])] at hLj
        cases hLj
      · rw [if_neg hd']
        refine runA_slots fun j hj hdj => ?_
        by_cases e : j = i
        · subst e; rw [hdst hi] at hdj; exact absurd hdj hd'
        · rw [if_neg e]
    · rw [app_heap]
      by_cases hid : id ∈ (rec i).ws.map (·.1)
      · refine la2 id hid (fun j hj hij hLj hdj => ?_) _
        obtain ⟨oj, hoj⟩ := hget hj
        rw [if_neg (by omega)] at hLj
        rw [← hws hoj] at hdj
        rw [← hws hi] at hid
        rw [hafter hoj hij (by
          simp only [confB, Bool.or_eq_true]
          refine .inl (.inr ?_)
          simp only [List.any_eq_true, Bool.or_eq_true, List.contains_iff_mem]
          exact ⟨id, hid, .inl hdj⟩)] at hLj
        cases hLj
      · rw [writesH_ne hid]
        refine runA_heap fun j hj hdj => ?_
        by_cases e : j = i
        · subst e; exact absurd hdj hid
        · rw [if_neg e]
theorem high_ok (hI : RunI P tab l S0 rec tw) {L : Nat → Bool} {i t : Nat} (hi : i ≤ l.length) (ht : 65536 ≤ t) : (runA l rec S0 (fun _ => true) i).slots t = (runA l rec S0 L l.length).slots t := by
  rw [← runA_cut (fun _ => true) i l.length hi]
  refine runA_slots fun j hj hdj => ?_
  exfalso
  have hoj : l[j]? = some l[j] := List.getElem?_eq_getElem hj
  obtain ⟨_, h2, _⟩ := hI.all j _ hoj
  unfold dstOf at hdj
  rw [hoj] at hdj
  have e : (l[j]).dst = some t := hdj
  rw [e] at h2
  have h3 : hasB t S0.n = true := h2
  unfold hasB at h3
  simp only [Bool.and_eq_true] at h3
  have h4 : t < S0.n % 65536 := Nat.le_of_ble_eq_true h3.1
  omega
theorem drawn_ok (ht : TabOk P tab) (hI : RunI P tab l S0 rec tw) (ho : ordB l tw = true) {Q : Exit → Act → World → Prop} {w0 : W0} (hQ : ∀ a w μ who, RelAt w0 (runA l rec S0 (fun _ => true) l.length) a w μ who → Q .normal a w) :
    ∀ (fuel : Nat) (listed : Array Bool) (U : List Nat) (a : Act) (w : World) (μ : Lay) (who : Nat → Option Nat), listed.size = l.length → U.Nodup → U.length = fuel → (∀ j, j ∈ U ↔ j < l.length ∧ listed.getD j false = false) → DownL l (fun j => listed.getD j false) → RelAt w0 (runA l rec S0 (fun j => listed.getD j false) l.length) a w μ who →
    wpAny P .any l.toArray Q fuel listed a w
  | 0, listed, U, a, w, μ, who, hs, hnd, hf, hU, hd, hr => by
    have hU0 : U = [] := List.eq_nil_of_length_eq_zero hf
    have hall : ∀ j, j < l.length → listed.getD j false = true := fun j hj => by
      cases h : listed.getD j false with
      | true => rfl
      | false => have := (hU j).2 ⟨hj, h⟩; rw [hU0] at this; simp at this
    refine ⟨?_, ?_⟩
    · rw [List.eq_nil_iff_forall_not_mem]
      intro j hj
      obtain ⟨h1, oj, hoj, _⟩ := mem_ready.1 hj
      have hjl : j < l.length := by have := (Array.getElem?_eq_some_iff.1 hoj).1; simpa using this
      have := hall j hjl
      rw [getD_both h1] at this; cases this
    · refine hQ a w μ who ?_
      rw [← runA_congr (L := fun j => listed.getD j false) (L' := fun _ => true) hall]; exact hr
  | fuel + 1, listed, U, a, w, μ, who, hs, hnd, hf, hU, hd, hr => by
    refine ⟨fun h0 => ?_, fun i hi => ?_⟩
    · exfalso
      have hne : ∃ j, j < l.length ∧ listed.getD j false = false := by
        cases U with
        | nil => simp at hf
        | cons j U => exact ⟨j, (hU j).1 (by simp)⟩
      have hmin : ∀ n, (∃ j, j < n ∧ j < l.length ∧ listed.getD j false = false) → ∃ j, j < l.length ∧ listed.getD j false = false ∧ ∀ i, i < j → listed.getD i false = true := by
        intro n
        induction n with
        | zero => rintro ⟨j, hj, _⟩; omega
        | succ n ih =>
          rintro ⟨j, hj, hjl, hjf⟩
          by_cases hex : ∃ j, j < n ∧ j < l.length ∧ listed.getD j false = false
          · exact ih hex
          · refine ⟨j, hjl, hjf, fun i hi => ?_⟩
            cases h : listed.getD i false with
            | true => rfl
            | false => exact absurd ⟨i, by omega, by omega, h⟩ hex
      obtain ⟨j, hj, hjf⟩ := hne
      obtain ⟨j, hjl, hjf, hlow⟩ := hmin (j + 1) ⟨j, by omega, hj, hjf⟩
      have hoj : l.toArray[j]? = some l[j] := by simp [hjl]
      have hmem : j ∈ Region.ready .any l.toArray listed := mem_ready.2 ⟨by
        have : j < listed.size := by omega
        simpa [Array.getD, this] using hjf, l[j], hoj, fun e he hb => hlow e.on (ord_back ho (by simp [hjl]) e he hb)⟩
      rw [h0] at hmem; simp at hmem
    · obtain ⟨h1, o, hoi, hall⟩ := mem_ready.1 hi
      have hoi' : l[i]? = some o := by simpa using hoi
      have hil : i < l.length := (List.getElem?_eq_some_iff.1 hoi').1
      have hno : listed.getD i false = false := getD_both h1
      have hrd : ReadyL l (fun j => listed.getD j false) i := fun o' ho' e he hb => by
        rw [hoi'] at ho'; cases ho'
        exact hall e he hb
      obtain ⟨c1, c2, c3⟩ := next_ok hI ho hd hoi' hno hrd
      obtain ⟨f1, f2, f3, f4⟩ := hI.all i o hoi'
      have hset : ∀ j, (listed.setIfInBounds i true).getD j false = if j = i then true else listed.getD j false := fun j => by
        have hlt : i < listed.size := by omega
        by_cases e : j = i
        · subst e; simp [Array.getD, hlt]
        · simp only [Array.getD, Array.size_setIfInBounds, e, if_false]
          split
          · rw [Array.getInternal_eq_getElem, Array.getInternal_eq_getElem, Array.getElem_setIfInBounds_ne _ (by omega)]
          · rfl
      have hL : (fun j => (listed.setIfInBounds i true).getD j false) = fun j => if j = i then true else listed.getD j false := funext hset
      have hwant : wantA l.toArray o (runA l rec S0 (fun j => listed.getD j false) l.length) = some (rec i).on := by
        rw [← f1]
        unfold wantA
        cases hg : o.guard with
        | none => rfl
        | some gb =>
          obtain ⟨g, b⟩ := gb
          simp only
          cases hgd : (l.toArray[g]?).bind (·.dst) with
          | none => rfl
          | some d =>
            simp only
            rw [c1 d (by unfold Oper.looksAt; simp only [hg, hgd]; exact List.mem_append.2 (.inr (by simp)))]
      have hw := want_ok hr hwant
      have hhas : (runA l rec S0 (fun j => listed.getD j false) l.length).has o.dst = true := by
        have := (runA_n (l := l) (rec := rec) (S0 := S0) (fun j => listed.getD j false) l.length).1
        cases hd' : o.dst with
        | none => rfl
        | some d => rw [hd'] at f2; simp only [AState.has] at f2 ⊢; rw [this]; exact f2
      have hU' : ∀ j, j ∈ U.erase i ↔ j < l.length ∧ (listed.setIfInBounds i true).getD j false = false := fun j => by
        rw [hnd.mem_erase_iff, hU, hset]
        by_cases e : j = i
        · subst e; simp
        · simp [e]
      have hiU : i ∈ U := (hU i).2 ⟨hil, hno⟩
      have hlen : (U.erase i).length = fuel := by rw [List.length_erase_of_mem hiU]; omega
      have hd2 : DownL l (fun j => (listed.setIfInBounds i true).getD j false) := by
        intro j oj hj hLj e he hb
        simp only [hset] at hLj ⊢
        by_cases e1 : e.on = i
        · simp [e1]
        · rw [if_neg e1]
          by_cases e2 : j = i
          · subst e2
            rw [hoi'] at hj; cases hj
            exact hall e he hb
          · rw [if_neg e2] at hLj
            exact hd j oj hj hLj e he hb
      have next : ∀ a' w' μ' who', RelAt w0 ((rec i).app o.dst (runA l rec S0 (fun j => listed.getD j false) l.length)) a' w' μ' who' → wpAny P .any l.toArray Q fuel (listed.setIfInBounds i true) a' w' := fun a' w' μ' who' hr' =>
        drawn_ok ht hI ho hQ fuel _ (U.erase i) a' w' μ' who' (by simpa using hs) (hnd.erase i) hlen hU' hd2 (by rw [hL, c3]; exact hr')
      unfold wpOp
      simp only [hoi]
      cases hon : (rec i).on with
      | true =>
        rw [hon] at hw
        simp only [hw, if_true]
        obtain ⟨s1, s2⟩ := f3 hon
        have hst := steps_run ht s1 (fun x hx t e => e.elim (fun e => c1 t (look_mem ⟨x, hx, e⟩)) fun e => high_ok hI (by omega) e) (fun id hid => c2 id (by rw [s2]; exact hid)) hr
        exact .inl (hst.wp (by rw [has_writes]; exact hhas) next)
      | false =>
        rw [hon] at hw
        simp only [hw, Bool.false_eq_true, if_false]
        obtain ⟨s1, s2, s3⟩ := f4 hon
        refine next _ w μ who ?_
        have e : (rec i).app o.dst (runA l rec S0 (fun j => listed.getD j false) l.length) = (runA l rec S0 (fun j => listed.getD j false) l.length).put o.dst .none_ := by
          unfold Rec.app; rw [s1, s2]; rfl
        rw [e]
        exact hr.put hhas .none_
end
theorem T_drawn {P : Program} {tab : Tab} (ht : TabOk P tab) (n : Nat) (hm : P.follows .mixedOrders = true) {id : Nat} {l : List Oper} {S : AState} {Q : Exit → AState → Prop} (h : AD P tab l.toArray 0 l S [] (fun S' tw => ordB l tw = true ∧ Q .normal (S'.on n))) : T P (.region id l.toArray true) S Q :=
  fun w0 a w hr => by
    obtain ⟨μ, who, hr⟩ := hr
    obtain ⟨rs, tw, S', h1, ho, hq⟩ := AD_run l 0 S [] h
    obtain ⟨f1, f2⟩ := RunR_index (S0 := S) l [] [] rs [] tw S S' rfl rfl h1 rfl
    simp only [List.nil_append] at f1 f2 ho
    have hI : RunI P tab l S (fun k => rs.getD k default) tw := ⟨fun k o hk => f1 k o (by simp) hk⟩
    refine wp_region_any hm ?_
    have hlis : ∀ j, (Array.replicate l.length false).getD j false = false := fun j => by simp [Array.getD]
    have hrun : ∀ k, runA l (fun k => rs.getD k default) S (fun j => (Array.replicate l.length false).getD j false) k = S := fun k => by
      induction k with
      | zero => rfl
      | succ k ih => unfold runA; rw [hlis]; simpa using ih
    have := drawn_ok (Q := fun e a' w' => ∃ S', Q e S' ∧ Rel w0 S' a' w') ht hI ho (w0 := w0) (fun a' w' μ' who' hr' => ⟨_, hq, by rw [f2]; exact Rel.on ⟨μ', who', hr'⟩ _⟩) l.length (Array.replicate l.length false) (List.range l.length) a { w with drawn := w.drawn + 1 } μ who (by simp) List.nodup_range (by simp) (fun j => by simp [hlis]) (fun j o hj hL => by have h9 : (Array.replicate l.length false).getD j false = true := hL; rw [hlis] at h9; cases h9) (by rw [hrun]; exact hr.keeps (Keeps.drew [] w))
    simpa using this
end Go.Proofs.YtachnjinfdagjaaDoor
namespace Go.Proofs.YtachnjinfdagjaaDoor
open Go.RowKit
open Shp
def resL (tab : Tab) (S : AState) : List ResultVar → Option (List PV)
  | [] => some []
  | .tmp t :: rs => match resL tab S rs with
    | some ps => some (S.slots t :: ps)
    | none => none
  | .cell a t :: rs => match aLoad tab S.heap t (S.slots a), resL tab S rs with
    | some (p, _), some ps => some (p :: ps)
    | _, _ => none
theorem run_loadVar {P : Program} {t : TypeId} {u v : Value} {w : World} (h : (Instr.loadAt t u).run P w = .ok v w) : (do loadVar t (← asAddr u) : Sem Value).run P w = .ok v w := by
  cases u with
  | pointer a =>
    cases a with
    | none => simp [Instr.loadAt, Instr.sureAddr] at h
    | some p => simpa [Instr.loadAt, Instr.sureAddr, asAddr] using h
  | _ => simp [Instr.loadAt, Instr.sureAddr] at h
def resVal (tmps : Array Value) : ResultVar → Sem Value
  | .tmp t => Pure.pure (tmps.getD t Go.undef)
  | .cell x t => do loadVar t (← asAddr (tmps.getD x Go.undef))
theorem resL_ok {P : Program} {tab : Tab} (ht : TabOk P tab) {w0 : W0} {S : AState} {a : Act} {w : World} {μ : Lay} {who : Nat → Option Nat} (h : RelAt w0 S a w μ who) : ∀ (rs : List ResultVar) {ps : List PV}, resL tab S rs = some ps →
    ∃ (vs : List Value) (hl : vs.length = ps.length), (rs.mapM (resVal a.tmps)).run P w = Result.ok vs w ∧ ∀ i (hi : i < ps.length), PRep w μ S.heap (vs[i]'(hl ▸ hi)) ps[i]
  | [], ps, hx => by
    simp [resL] at hx; subst hx
    exact ⟨[], rfl, by simp, by intro i hi; simp at hi⟩
  | .tmp t :: rs, ps, hx => by
    unfold resL at hx
    split at hx
    · rename_i ps' hps
      simp only [Option.some.injEq] at hx
      subst hx
      obtain ⟨vs, hl, h1, h2⟩ := resL_ok ht h rs hps
      refine ⟨a.tmps.getD t Go.undef :: vs, by simpa using hl, by simp [List.mapM_cons, resVal, h1], fun i hi => ?_⟩
      cases i with
      | zero => exact h.slot t
      | succ i => exact h2 i (by simpa using hi)
    · cases hx
  | .cell x t :: rs, ps, hx => by
    unfold resL at hx
    split at hx
    · rename_i p ws ps' hp hps
      simp only [Option.some.injEq] at hx
      subst hx
      obtain ⟨vs, hl, h1, h2⟩ := resL_ok ht h rs hps
      obtain ⟨_, v, hr, hv⟩ := load_run (P := P) ht h (h.slot x) hp
      have hr' := run_loadVar hr
      refine ⟨v :: vs, by simpa using hl, by simp only [List.mapM_cons, Sem.run_bind, show (resVal a.tmps (.cell x t)).run P w = .ok v w from hr', Result.andThen_ok, h1, Sem.run_pure], fun i hi => ?_⟩
      cases i with
      | zero => exact hv
      | succ i => exact h2 i (by simpa using hi)
    · cases hx
theorem killL_arr {h : Nat → Block} {ks : List Nat} {id : Nat} {B : Block} (e : killL h ks id = B) (hB : B.live = true) : h id = B := by
  induction ks generalizing h with
  | nil => exact e
  | cons k ks ih =>
    have := ih e
    unfold upd at this
    split at this
    · subst this; cases hB
    · exact this
theorem top_absorb {w : World} {μ : Lay} {h h' : Nat → Block} (hh : ∀ id e dp xs, h' id = .arr e dp xs → h id = .arr e dp xs) {v : Value} {p : PV} (hv : PRep w μ h v p) {x : GV} {ks : List Nat} (hx : absorb h' p = some (x, ks, true)) : Top w v x := by
  cases p with
  | g y =>
    simp only [absorb, Option.some.injEq, Prod.mk.injEq] at hx
    obtain ⟨rfl, _, hf⟩ := hx
    obtain ⟨F, hg, _⟩ := hv.g_inv
    by_cases ha : y.atom = true
    · cases hg with
      | atom x hx => exact .atom _ hx
      | fn | agg | tup | box | sl | ex | raw | bd => simp [GV.atom] at ha
    · cases y <;> simp [GV.flat, GV.atom] at hf ha
      rename_i cs
      obtain ⟨vs, Fs, rfl, rfl, h1, hl, hF, hh⟩ := hg.agg_inv
      refine .agg vs cs hl fun i hi => ?_
      have hai : (cs[i]).atom = true := by have := hf _ (List.getElem_mem hi); simpa [GV.atom] using this
      have hgi := hh i hi
      generalize cs[i] = c at *
      generalize vs[i]'(hl ▸ hi) = u at *
      generalize Fs[i]'(hF ▸ hi) = G at hgi
      cases hgi with
      | atom x hx => exact .atom _ hx
      | fn | agg | tup | box | sl | ex | raw | bd => simp [GV.atom] at hai
  | nils e =>
    simp only [absorb] at hx
    split at hx
    · simp only [Option.some.injEq, Prod.mk.injEq] at hx
      obtain ⟨rfl, _⟩ := hx
      rw [hv.nils_inv.1]; exact .nil _ _ _
    · cases hx
  | own id lo len =>
    simp only [absorb] at hx
    split at hx
    · rename_i e dp xs hid
      split at hx
      · simp only [Option.some.injEq, Prod.mk.injEq] at hx
        obtain ⟨rfl, _⟩ := hx
        have hoa := hv.own_inv.2.2 _ _ _ (hh _ _ _ _ hid)
        unfold OwnAt at hoa
        split at hoa
        · obtain ⟨cap, o, rfl, _, _, vs, t, hrow, _, hfit⟩ := hoa
          exact .sl _ _ _ _ _ _ vs t hrow hfit
        · obtain ⟨⟨ad0, e0⟩, _, e2⟩ := hoa; rw [e0, e2]; exact .nil _ _ _
      · cases hx
    · cases hx
  | _ => simp [absorb] at hx
theorem absL_top {f : (Nat → Block) → PV → Option (GV × List Nat × Bool)} {w : World} {μ : Lay} {h : Nat → Block} (hf : ∀ {h' : Nat → Block}, (∀ id e dp xs, h' id = .arr e dp xs → h id = .arr e dp xs) → ∀ {v p x ks}, PRep w μ h v p → f h' p = some (x, ks, true) → Top w v x) :
    ∀ (ps : List PV) (h' : Nat → Block), (∀ id e dp xs, h' id = .arr e dp xs → h id = .arr e dp xs) → ∀ (vs : List Value) (hl : vs.length = ps.length), (∀ i (hi : i < ps.length), PRep w μ h (vs[i]'(hl ▸ hi)) ps[i]) → ∀ {gs ks}, absL f h' ps = some (gs, ks, true) → ∃ hg : vs.length = gs.length, ∀ i (hi : i < gs.length), Top w (vs[i]'(hg ▸ hi)) gs[i]
  | [], h', hh, vs, hl, _, gs, ks, hx => by
    simp only [absL, Option.some.injEq, Prod.mk.injEq] at hx
    obtain ⟨rfl, _⟩ := hx
    exact ⟨by simpa using hl, by intro i hi; simp at hi⟩
  | p :: ps, h', hh, vs, hl, hp, gs, ks, hx => by
    cases vs with
    | nil => simp at hl
    | cons v vs =>
      unfold absL at hx
      cases h1 : f h' p with
      | none => simp [h1] at hx
      | some r =>
        obtain ⟨x, k, d1⟩ := r
        simp only [h1] at hx
        cases h2 : absL f (killL h' k) ps with
        | none => simp [h2] at hx
        | some r =>
          obtain ⟨xs, ks', d2⟩ := r
          simp only [h2, Option.some.injEq, Prod.mk.injEq, Bool.and_eq_true] at hx
          obtain ⟨rfl, _, rfl, rfl⟩ := hx
          have ht := hf hh (hp 0 (by simp)) h1
          obtain ⟨hg, h3⟩ := absL_top hf ps (killL h' k) (fun id e dp xs hid => hh id e dp xs (killL_arr hid rfl)) vs (by simpa using hl) (fun i hi => hp (i + 1) (by simpa using hi)) h2
          refine ⟨by simpa using hg, fun i hi => ?_⟩
          cases i with
          | zero => exact ht
          | succ i => exact h3 i (by simpa using hi)
theorem top_absE {w : World} {μ : Lay} {h h' : Nat → Block} (hh : ∀ id e dp xs, h' id = .arr e dp xs → h id = .arr e dp xs) {v : Value} {p : PV} (hv : PRep w μ h v p) {x : GV} {ks : List Nat} (hx : absE h' p = some (x, ks, true)) : Top w v x := by
  cases p with
  | agg cs =>
    obtain ⟨vs, rfl, hl, h1, h2⟩ := hv.agg_inv
    simp only [absE] at hx
    cases h3 : absL absorb h' cs with
    | none => simp [h3] at hx
    | some r =>
      obtain ⟨gs, ks', d⟩ := r
      simp only [h3] at hx
      split at hx
      · simp only [Option.some.injEq, Prod.mk.injEq] at hx
        obtain ⟨rfl, _, rfl⟩ := hx
        obtain ⟨hg, h4⟩ := absL_top (w := w) (μ := μ) (h := h) (fun {h'} hh {v p x ks} hv hx => top_absorb hh hv hx) cs h' hh vs hl h2 h3
        exact .agg vs gs hg h4
      · cases hx
  | _ => exact top_absorb hh hv hx
def outR (tab : Tab) (S : AState) (rs : List ResultVar) : Option GV :=
  match resL tab S rs with
  | some ps => match absL absE S.heap ps with
    | some ([x], _, true) => if x.isTup then none else some x
    | some (gs, _, true) => some (.tup gs)
    | _ => none
  | none => none
def startA (n : Nat) (gs : List GV) : AState := { n := n, slots := fun t => match gs[t]? with | some x => .g x | none => .none_, heap := fun _ => .free, nx := 0 }
def EndR (tab : Tab) (rs : List ResultVar) (r : GV) : Exit → AState → Prop
  | .normal, S => outR tab S rs = some r
  | .ret, S => outR tab S rs = some r
  | _, _ => False
def GivesW (w0 : W0) (r : GV) (e : Ending) (w' : World) : Prop := ∃ v F, e = .returned v ∧ GRep w' F v r ∧ Top w' v r ∧ F.Nodup ∧ (∀ b ∈ F, NewB w0 w' b) ∧ Keeps w0.D w0.w w'
theorem GivesW.gives {w w' : World} {r : GV} {e : Ending} (h : GivesW ⟨w, [], np0⟩ r e w') : Gives w r e w' := by
  obtain ⟨v, F, h1, h2, h3, h4, h5, h6⟩ := h
  exact ⟨v, F, h1, h2, h3, h4, fun b hb => ⟨(h5 b hb).1.old rfl, (h5 b hb).2⟩, h6⟩
theorem GivesW.np {w w' : World} {D : List Nat} {p : Nat → Option Value} (hp : p 70000 = none) {r : GV} {e : Ending} (h : GivesW ⟨w, D, p⟩ r e w') : GivesW ⟨w, D, np0⟩ r e w' := by
  obtain ⟨v, F, h1, h2, h3, h4, h5, h6⟩ := h
  exact ⟨v, F, h1, h2, h3, h4, fun b hb => ⟨.inl ((h5 b hb).1.old hp), (h5 b hb).2⟩, h6⟩
theorem out_ok {P : Program} {tab : Tab} (ht : TabOk P tab) {fn : Func} {w0 : W0} {S : AState} {a : Act} {w : World} {μ : Lay} {who : Nat → Option Nat} (h : RelAt w0 S a w μ who) {r : GV} (hr : outR tab S fn.results.toList = some r) : ∃ v, (results fn a.tmps).run P w = .ok v w ∧ GivesW w0 r (.returned v) w := by
  unfold outR at hr
  cases h1 : resL tab S fn.results.toList with
  | none => simp [h1] at hr
  | some ps =>
    simp only [h1] at hr
    obtain ⟨vs, hl, hrun, hp⟩ := resL_ok ht h _ h1
    cases h2 : absL absE S.heap ps with
    | none => simp [h2] at hr
    | some x =>
      obtain ⟨gs, ks, d⟩ := x
      have hd : d = true := by
        cases d with
        | true => rfl
        | false => rw [h2] at hr; simp at hr
      subst hd
      obtain ⟨hk1, hk2⟩ := absL_ok absE_ok (nid := ks.foldl max 0 + 1) ps h vs hl hp h2
      have hnk : ks.foldl max 0 + 1 ∉ ks := by
        intro hm
        have key : ∀ (l : List Nat) (m x : Nat), x ∈ l ∨ x ≤ m → x ≤ l.foldl max m := by
          intro l
          induction l with
          | nil => intro m x hx; simpa using hx
          | cons y l ihl =>
            intro m x hx
            simp only [List.foldl_cons]
            refine ihl (max m y) x ?_
            rcases hx with hx | hx
            · rcases List.mem_cons.1 hx with rfl | hx
              · exact .inr (Nat.le_max_right _ _)
              · exact .inl hx
            · exact .inr (Nat.le_trans hx (Nat.le_max_left _ _))
        have := key ks 0 _ (.inl hm); omega
      obtain ⟨who', Fs, r1, hg, hF, g1, n1, o1, _, _⟩ := hk2 hnk
      obtain ⟨o2, o3⟩ := o1 rfl
      obtain ⟨_, tops⟩ := absL_top (w := w) (μ := μ) (h := S.heap) (fun {h'} hh {v p x ks} hv hx => top_absE hh hv hx) ps S.heap (fun _ _ _ _ h => h) vs hl hp h2
      have hres : (results fn a.tmps).run P w = .ok (if h : vs.length = 1 then vs[0] else .tuple vs.toArray) w := by
        have e0 : results fn a.tmps = (do let vs ← fn.results.mapM (resVal a.tmps); Pure.pure (if h : vs.size = 1 then vs[0] else .tuple vs)) := rfl
        rw [e0, Array.mapM_eq_mapM_toList]
        simp [hrun]
      refine ⟨_, hres, ?_⟩
      by_cases h3 : vs.length = 1
      · have hgl : gs.length = 1 := by omega
        obtain ⟨x, rfl⟩ : ∃ x, gs = [x] := by
          cases gs with
          | nil => simp at hgl
          | cons x gs => cases gs <;> simp_all
        simp only [h2] at hr
        split at hr
        · cases hr
        · simp only [Option.some.injEq] at hr
          subst hr
          rw [dif_pos h3]
          have hF1 : Fs.flatten = Fs[0]'(by omega) := by
            cases Fs with
            | nil => simp at hF
            | cons F Fs =>
              have : Fs = [] := List.eq_nil_of_length_eq_zero (by simpa using hF)
              subst this; simp
          exact ⟨_, _, rfl, g1 0 (by simp), tops 0 (by simp), by rw [← hF1]; exact o2, fun b hb => (o3 b (by rw [hF1]; exact hb)).2, h.keep⟩
      · rw [dif_neg h3]
        have hr' : r = .tup gs := by
          rw [h2] at hr
          cases gs with
          | nil => simpa using hr.symm
          | cons x gs => cases gs with
            | nil => exact absurd hg h3
            | cons y gs => simpa using hr.symm
        subst hr'
        exact ⟨_, _, rfl, .tup vs gs Fs hg hF g1, .tup vs gs hg tops, o2, fun b hb => (o3 b hb).2, h.keep⟩
theorem start_rel {fn : Func} {gs : List GV} (hn : gs.length ≤ fn.ntmps) (hm : fn.ntmps < 65536) (w : World) (args : List Value) (hl : args.length = gs.length) (hg : ∀ i (hi : i < gs.length), ∃ F, GRep w F (args[i]'(hl ▸ hi)) gs[i]) :
    RelAt ⟨w, [], np0⟩ (startA fn.ntmps gs) { tmps := args.toArray ++ Array.replicate (fn.ntmps - args.toArray.size) Go.undef, defers := [] } w (fun _ => none) (fun _ => none) := by
  have hsz : args.toArray.size = gs.length := by simpa using hl
  refine ⟨by simp [startA]; rw [Nat.mod_eq_of_lt hm]; omega, fun t => ?_, rfl, fun id => trivial, fun i j b d d' hi => (by simp [startA, Block.live] at hi), fun i b d hi => (by simp [startA, Block.live] at hi), Keeps.refl _ _, fun t x hp => (by rw [show pinned (startA fn.ntmps gs).n t = false from pinned_lt hm t] at hp; cases hp), fun t v hv ht => by simp [np0] at hv⟩
  simp only [startA]
  by_cases hlt : t < gs.length
  · have e1 : gs[t]? = some gs[t] := List.getElem?_eq_getElem hlt
    have e2 : (args.toArray ++ Array.replicate (fn.ntmps - args.toArray.size) Go.undef).getD t Go.undef = args[t]'(by omega) := by
      have h1 : t < (args.toArray ++ Array.replicate (fn.ntmps - args.toArray.size) Go.undef).size := by simp; omega
      rw [getD_lt h1, Array.getElem_append_left (by simp; omega)]
      simp
    rw [e1, e2]
    obtain ⟨F, hF⟩ := hg t hlt
    exact .g _ _ F hF (by rintro b _ ⟨id, d, hl, _⟩; simp [Block.live] at hl)
  · have e1 : gs[t]? = none := List.getElem?_eq_none (by omega)
    have e2 : (args.toArray ++ Array.replicate (fn.ntmps - args.toArray.size) Go.undef).getD t Go.undef = Go.undef := by
      by_cases h1 : t < (args.toArray ++ Array.replicate (fn.ntmps - args.toArray.size) Go.undef).size
      · rw [getD_lt h1, Array.getElem_append_right (by simp; omega)]
        simp
      · simp only [Array.getD, dif_neg h1]
    rw [e1, e2]
    exact .none_
theorem Con_of_T {P : Program} {tab : Tab} (ht : TabOk P tab) {f : FuncId} {fn : Func} {c : Code} (hf : P.funcs[f]? = some fn) (hb : fn.body = some c) (he : ∀ args w, (callFunc f args).run P w = .ok (.enter f args) w) {gs : List GV} {r : GV} (hn : gs.length ≤ fn.ntmps) (hm : fn.ntmps < 65536)
    (h : T P c (startA fn.ntmps gs) (EndR tab fn.results.toList r)) : Con P f gs r := by
  refine ⟨he, fun w args hl hg => calls_of_wp hf hb ?_⟩
  have hrel := start_rel hn hm w args hl hg
  refine wp_mono (h ⟨w, [], np0⟩ _ w ⟨_, _, hrel⟩) fun e a' w' ⟨S', h1, μ', who', h2⟩ => ?_
  cases e with
  | normal => obtain ⟨v, q1, q2⟩ := out_ok ht h2 h1; exact ⟨h2.dfr, v, q1, q2.gives⟩
  | ret => obtain ⟨v, q1, q2⟩ := out_ok ht h2 h1; exact ⟨h2.dfr, v, q1, q2.gives⟩
  | exit | goto | panic | outgrown => exact h1.elim
end Go.Proofs.YtachnjinfdagjaaDoor
namespace Go.Proofs.YtachnjinfdagjaaDoor
open Go.RowKit
open Shp
theorem z_int (k : IntKind) : ZeroOk (.int k 0) (.g (.int k 0)) := ⟨rfl, fun w μ h => PRep.of_int w μ h k 0⟩
theorem z_bool : ZeroOk (.bool false) (.g (.bool false)) := ⟨rfl, fun w μ h => PRep.of_bool w μ h false⟩
theorem z_str : ZeroOk (.string ⟨#[]⟩) (.g (.str ⟨#[]⟩)) := ⟨rfl, fun _ _ _ => .g _ _ [] (.atom (.str _) rfl) (by simp)⟩
theorem z_nilp : ZeroOk (.pointer none) (.g .nilp) := ⟨rfl, fun _ _ _ => .g _ _ [] (.atom .nilp rfl) (by simp)⟩
theorem z_nils {e : Nat} (he : 0 < e) : ZeroOk (.slice none 0 0) (.nils e) := ⟨rfl, fun _ _ _ => .nils e he⟩
theorem z_undef {v : Value} (h : v.oneCell' = true) : ZeroOk v .undef := ⟨h, fun _ _ _ => .undef v⟩
def ren0 (ρ : List Nat) : PV → PV
  | .g v => .g v
  | .none_ => .none_
  | .nils e => .nils e
  | .iptr cs => .iptr cs
  | .glob k cs => .glob k cs
  | .own id lo len => match ρ.idxOf? id with | some j => .own j lo len | none => .undef
  | .ptr id off => match ρ.idxOf? id with | some j => .ptr j off | none => .undef
  | .eptr id k i => match ρ.idxOf? id with | some j => .eptr j k i | none => .undef
  | _ => .undef
def ren1 (ρ : List Nat) : PV → PV
  | .agg cs => .agg (cs.map (ren0 ρ))
  | .fn f cs => .fn f (cs.map (ren0 ρ))
  | p => ren0 ρ p
def renB (ρ : List Nat) : Block → Block
  | .box cs => .box (cs.map (ren1 ρ))
  | b => b
theorem idx_some {ρ : List Nat} {id j : Nat} (h : ρ.idxOf? id = some j) : ρ[j]? = some id := by
  have := List.findIdx?_eq_some_iff_getElem.1 h
  obtain ⟨hj, h1, _⟩ := this
  simp at h1
  rw [List.getElem?_eq_getElem hj, h1]
theorem renB_arr {ρ : List Nat} {b : Block} {e dp xs} (h : renB ρ b = .arr e dp xs) : b = .arr e dp xs := by cases b <;> simp_all [renB]
theorem renB_box {ρ : List Nat} {b : Block} {cs} (h : renB ρ b = .box cs) : ∃ cs', b = .box cs' ∧ cs = cs'.map (ren1 ρ) := by
  cases b <;> simp [renB] at h
  exact ⟨_, rfl, h.symm⟩
theorem renB_live {ρ : List Nat} {b : Block} : (renB ρ b).live = b.live := by cases b <;> rfl
section
variable {w : World} {μ : Lay} {h h' : Nat → Block} {ρ : List Nat}
def renLay (ρ : List Nat) (μ : Lay) : Lay := fun j => match ρ[j]? with | some i => μ i | none => none
theorem root_ren (hh : ∀ j, h' j = match ρ[j]? with | some i => renB ρ (h i) | none => .free) {b : Nat} (hr : Root (renLay ρ μ) h' b) : Root μ h b := by
  obtain ⟨j, d, hl, hm⟩ := hr
  rw [hh] at hl
  unfold renLay at hm
  cases hj : ρ[j]? with
  | none => rw [hj] at hl; simp [Block.live] at hl
  | some i =>
    rw [hj] at hl hm
    simp only [renB_live] at hl
    exact ⟨i, d, hl, hm⟩
theorem PRep.ren0 (hh : ∀ j, h' j = match ρ[j]? with | some i => renB ρ (h i) | none => .free) (hl : ∀ i ∈ ρ, (h i).live = true) {v : Value} {p : PV} (hv : PRep w μ h v p) : PRep w (renLay ρ μ) h' v (ren0 ρ p) := by
  have key : ∀ {id j}, ρ.idxOf? id = some j → h' j = renB ρ (h id) ∧ h' j ≠ .free ∧ renLay ρ μ j = μ id := fun {id j} hj => by
    have h1 := idx_some hj
    have h2 := hh j
    rw [h1] at h2
    refine ⟨h2, ?_, by unfold renLay; rw [h1]⟩
    have := hl id (List.mem_of_getElem? h1)
    rw [h2]
    cases hb : h id <;> simp_all [renB, Block.live]
  cases hv with
  | g v x F hg hd => exact .g v x F hg fun b hb hr => hd b hb (root_ren hh hr)
  | glob v k cs F hg hd => exact .glob v k cs F hg fun b hb hr => hd b hb (root_ren hh hr)
  | undef | agg | tup | fn => exact .undef _
  | none_ => exact .none_
  | nils e he => exact .nils e he
  | own v id lo len h1 hf ho =>
    simp only [Go.Proofs.YtachnjinfdagjaaDoor.ren0]
    cases hj : ρ.idxOf? id with
    | none => exact .undef _
    | some j =>
      obtain ⟨k1, k2, k3⟩ := key hj
      refine .own v j lo len h1 k2 fun e dp xs hx => ?_
      rw [k1] at hx
      have := ho e dp xs (renB_arr hx)
      unfold OwnAt at *
      rw [k3]; exact this
  | ptr v id off h1 hf ho =>
    simp only [Go.Proofs.YtachnjinfdagjaaDoor.ren0]
    cases hj : ρ.idxOf? id with
    | none => exact .undef _
    | some j =>
      obtain ⟨k1, k2, k3⟩ := key hj
      refine .ptr v j off h1 k2 fun cs hx => ?_
      rw [k1] at hx
      obtain ⟨cs', hx', _⟩ := renB_box hx
      rw [k3]; exact ho cs' hx'
  | eptr v id k i h1 hf ho =>
    simp only [Go.Proofs.YtachnjinfdagjaaDoor.ren0]
    cases hj : ρ.idxOf? id with
    | none => exact .undef _
    | some j =>
      obtain ⟨k1, k2, k3⟩ := key hj
      refine .eptr v j k i h1 k2 fun e dp xs hx => ?_
      rw [k1] at hx
      rw [k3]; exact ho e dp xs (renB_arr hx)
  | iptr v p cs vs Fs hp hs hv hF hb hr hc hg he hd => exact .iptr v p cs vs Fs hp hs hv hF hb (fun hr' => hr (root_ren hh hr')) hc hg he fun b hb hr' => hd b hb (root_ren hh hr')
theorem PRep.ren1 (hh : ∀ j, h' j = match ρ[j]? with | some i => renB ρ (h i) | none => .free) (hl : ∀ i ∈ ρ, (h i).live = true) {v : Value} {p : PV} (hv : PRep w μ h v p) : PRep w (renLay ρ μ) h' v (ren1 ρ p) := by
  cases p with
  | agg cs =>
    obtain ⟨vs, rfl, hlen, h1, h2⟩ := hv.agg_inv
    exact .agg vs _ (by simpa using hlen) h1 fun i hi => by simp only [List.getElem_map]; exact (h2 i (by simpa using hi)).ren0 hh hl
  | fn f cs =>
    obtain ⟨vs, rfl, hlen, h2⟩ := hv.fn_inv
    exact .fn f vs _ (by simpa using hlen) fun i hi => by simp only [List.getElem_map]; exact (h2 i (by simpa using hi)).ren0 hh hl
  | _ => exact hv.ren0 hh hl
end
theorem nodup_inj : ∀ {ρ : List Nat}, ρ.Nodup → ∀ {i j : Nat} (hi : i < ρ.length) (hj : j < ρ.length), ρ[i] = ρ[j] → i = j
  | [], _, i, j, hi, _, _ => by simp at hi
  | x :: ρ, h, i, j, hi, hj, e => by
    obtain ⟨h1, h2⟩ := List.nodup_cons.1 h
    cases i with
    | zero =>
      cases j with
      | zero => rfl
      | succ j => simp at e; exact absurd (e ▸ List.getElem_mem _) h1
    | succ i =>
      cases j with
      | zero => simp at e; exact absurd (e ▸ List.getElem_mem _) h1
      | succ j => simp at e; rw [nodup_inj h2 (by simpa using hi) (by simpa using hj) e]
theorem ren1_g {ρ : List Nat} {p : PV} {x : GV} (h : ren1 ρ p = .g x) : p = .g x := by
  cases p <;> simp [ren1, ren0] at h ⊢ <;> first | exact h | (split at h <;> cases h)
theorem Le_norm {S S' : AState} (ρ : List Nat) (hρ : ρ.Nodup) (hn : S'.n = S.n) (hl : ∀ i ∈ ρ, (S.heap i).live = true) (hh : ∀ j, S'.heap j = match ρ[j]? with | some i => renB ρ (S.heap i) | none => .free) (hs : ∀ t, S'.slots t = .undef ∨ S'.slots t = ren1 ρ (S.slots t)) : Le S S' := by
  rintro w0 a w ⟨μ, who, h⟩
  have inv : ∀ j b d, (S'.heap j).live = true → renLay ρ μ j = some (b, d) → ∃ i, ρ[j]? = some i ∧ (S.heap i).live = true ∧ μ i = some (b, d) := fun j b d h1 h2 => by
    rw [hh] at h1
    unfold renLay at h2
    cases hj : ρ[j]? with
    | none => rw [hj] at h1; simp [Block.live] at h1
    | some i =>
      rw [hj] at h1 h2
      simp only [renB_live] at h1
      exact ⟨i, rfl, h1, h2⟩
  refine ⟨renLay ρ μ, fun b => (who b).bind (fun i => ρ.idxOf? i), by rw [hn]; exact h.size, fun t => ?_, h.dfr, fun j => ?_, fun i j b d d' hi hj ei ej => ?_, fun i b d hi ei => ?_, h.keep, fun t x hp hx => h.old.1 t x (by rw [← hn]; exact hp) (by
    rcases hs t with e | e
    · rw [e] at hx; cases hx
    · rw [e] at hx; exact ren1_g hx), fun t v hv ht => by rw [hn]; exact h.old.2 t v hv ht⟩
  · rcases hs t with e | e
    · rw [e]; exact .undef _
    · rw [e]; exact (h.slot t).ren1 hh hl
  · rw [hh]
    cases hj : ρ[j]? with
    | none => trivial
    | some i =>
      have hB := h.blk i
      have hlay : renLay ρ μ j = μ i := by unfold renLay; rw [hj]
      show BRep w0 w (renLay ρ μ) S'.heap (fun b => (who b).bind (fun i => ρ.idxOf? i)) j (renB ρ (S.heap i))
      cases hb : S.heap i with
      | free => trivial
      | dead => trivial
      | box cs =>
        rw [hb] at hB
        obtain ⟨b, vs, t, h1, h2, h3, h4, h5⟩ := hB
        exact ⟨b, vs, t, by rw [hlay]; exact h1, h2, by simpa using h3, h4, fun k hk => by simp only [List.getElem_map]; exact (h5 k (by simpa using hk)).ren1 hh hl⟩
      | arr e dp xs =>
        rw [hb] at hB
        obtain ⟨he, hB⟩ := hB
        refine ⟨he, ?_⟩
        rw [hlay]
        cases hm : μ i with
        | none => simpa only [hm] using hB
        | some bd =>
          obtain ⟨b, d⟩ := bd
          simp only [hm] at hB ⊢
          obtain ⟨vs, t, Fs, els, h2, h3, h4, h5⟩ := hB
          refine ⟨vs, t, Fs, els, h2, h3, fun c hc hr => h4 c hc (root_ren hh hr), fun hd => ⟨(h5 hd).1, fun c hc => ⟨?_, ((h5 hd).2 c hc).2⟩⟩⟩
          rw [((h5 hd).2 c hc).1]
          simp only [Option.bind_some]
          have hjl : j < ρ.length := (List.getElem?_eq_some_iff.1 hj).1
          have hij : ρ[j] = i := (List.getElem?_eq_some_iff.1 hj).2
          cases hx : ρ.idxOf? i with
          | none =>
            have := List.idxOf?_eq_none_iff.1 hx
            exact absurd (hij ▸ List.getElem_mem hjl) this
          | some k =>
            have hk := idx_some hx
            have hkl : k < ρ.length := (List.getElem?_eq_some_iff.1 hk).1
            have hki : ρ[k] = i := (List.getElem?_eq_some_iff.1 hk).2
            have : k = j := nodup_inj hρ hkl hjl (hki.trans hij.symm)
            rw [this]
      | hd v e xs =>
        rw [hb] at hB
        obtain ⟨he, hv, ho, hB⟩ := hB
        refine ⟨he, hv, ?_, ?_⟩
        · unfold OwnAt at *; rw [hlay]; exact ho
        rw [hlay]
        cases hm : μ i with
        | none => simpa only [hm] using hB
        | some bd =>
          obtain ⟨b, d⟩ := bd
          simp only [hm] at hB ⊢
          obtain ⟨vs, t, Fs, els, h2, h3, h4, h5, h6⟩ := hB
          refine ⟨vs, t, Fs, els, h2, h3, fun c hc hr => h4 c hc (root_ren hh hr), h5, fun c hc => ⟨?_, (h6 c hc).2⟩⟩
          rw [(h6 c hc).1]
          simp only [Option.bind_some]
          have hjl : j < ρ.length := (List.getElem?_eq_some_iff.1 hj).1
          have hij : ρ[j] = i := (List.getElem?_eq_some_iff.1 hj).2
          cases hx : ρ.idxOf? i with
          | none =>
            have := List.idxOf?_eq_none_iff.1 hx
            exact absurd (hij ▸ List.getElem_mem hjl) this
          | some k =>
            have hk := idx_some hx
            have hkl : k < ρ.length := (List.getElem?_eq_some_iff.1 hk).1
            have hki : ρ[k] = i := (List.getElem?_eq_some_iff.1 hk).2
            have : k = j := nodup_inj hρ hkl hjl (hki.trans hij.symm)
            rw [this]
      | lim N => rw [hb] at hB; exact ⟨hB.1, by rw [hlay]; exact hB.2⟩
  · obtain ⟨i', h1, h2, h3⟩ := inv i b d hi ei
    obtain ⟨j', h4, h5, h6⟩ := inv j b d' hj ej
    have := h.inj i' j' b d d' h2 h5 h3 h6
    subst this
    obtain ⟨hi1, hi2⟩ := List.getElem?_eq_some_iff.1 h1
    obtain ⟨hj1, hj2⟩ := List.getElem?_eq_some_iff.1 h4
    exact nodup_inj hρ hi1 hj1 (hi2.trans hj2.symm)
  · obtain ⟨i', h1, h2, h3⟩ := inv i b d hi ei
    have hba := h.base i' b d h2 h3
    refine ⟨hba.1.kind fun ⟨cs, e⟩ => ?_, hba.2⟩
    rw [hh, h1]
    show ∃ cs', renB ρ (S.heap i') = .box cs'
    rw [e]
    exact ⟨_, rfl⟩
def mkS (n : Nat) (sl : List (Nat × PV)) (bs : List Block) : AState :=
  { n := n, slots := fun t => match sl.find? (fun x => x.1 == t) with | some x => x.2 | none => .undef, heap := fun j => (bs[j]?).getD .free, nx := bs.length }
end Go.Proofs.YtachnjinfdagjaaDoor
namespace Go.Proofs.YtachnjinfdagjaaDoor
open Go.RowKit
open Shp
theorem put_slots (S : AState) (d t : Nat) (v : PV) : (S.put (some d) v).slots t = if t = d then v else S.slots t := rfl
theorem put_slots0 (S : AState) (v : PV) : S.put none v = S := rfl
theorem put_heap (S : AState) (d : Nat) (v : PV) : (S.put (some d) v).heap = S.heap := rfl
theorem put_nx (S : AState) (d : Nat) (v : PV) : (S.put (some d) v).nx = S.nx := rfl
theorem put_n (S : AState) (d : Nat) (v : PV) : (S.put (some d) v).n = S.n := rfl
theorem writes_slots (S : AState) (ws : List (Nat × Block)) : (S.writes ws).slots = S.slots := rfl
theorem writes_nx (S : AState) (ws : List (Nat × Block)) : (S.writes ws).nx = S.nx := rfl
theorem writes_n (S : AState) (ws : List (Nat × Block)) : (S.writes ws).n = S.n := rfl
theorem writes_nil (S : AState) : S.writes [] = S := rfl
theorem writes_heap (S : AState) (id : Nat) (b : Block) (j : Nat) : (S.writes [(id, b)]).heap j = if j = id then b else S.heap j := rfl
theorem writes_cons2 (S : AState) (x y : Nat × Block) (ws : List (Nat × Block)) : S.writes (x :: y :: ws) = (S.writes [x]).writes (y :: ws) := rfl
theorem on_slots (S : AState) (n : Nat) : (S.on n).slots = S.slots := rfl
theorem on_heap (S : AState) (n : Nat) : (S.on n).heap = S.heap := rfl
theorem on_n (S : AState) (n : Nat) : (S.on n).n = S.n := rfl
theorem on_nx (S : AState) (n : Nat) : (S.on n).nx = S.nx + 8 * n := rfl
theorem start_slots (n : Nat) (gs : List GV) (t : Nat) : (startA n gs).slots t = match gs[t]? with | some x => .g x | none => .none_ := rfl
theorem start_heap (n : Nat) (gs : List GV) (j : Nat) : (startA n gs).heap j = .free := rfl
theorem start_n (n : Nat) (gs : List GV) : (startA n gs).n = n := rfl
theorem start_nx (n : Nat) (gs : List GV) : (startA n gs).nx = 0 := rfl
theorem mk_slots (n : Nat) (sl : List (Nat × PV)) (bs : List Block) (t : Nat) : (mkS n sl bs).slots t = match sl.find? (fun x => x.1 == t) with | some x => x.2 | none => .undef := rfl
theorem mk_heap (n : Nat) (sl : List (Nat × PV)) (bs : List Block) (j : Nat) : (mkS n sl bs).heap j = (bs[j]?).getD .free := rfl
theorem mk_n (n : Nat) (sl : List (Nat × PV)) (bs : List Block) : (mkS n sl bs).n = n := rfl
theorem mk_nx (n : Nat) (sl : List (Nat × PV)) (bs : List Block) : (mkS n sl bs).nx = bs.length := rfl
theorem has_some (S : AState) (d : Nat) : S.has (some d) = hasB d S.n := rfl
theorem has_none (S : AState) : S.has none = true := rfl
attribute [go_sem] put_slots put_slots0 put_heap put_nx put_n writes_slots writes_nx writes_n writes_nil writes_heap writes_cons2 on_slots on_heap on_n on_nx start_slots start_heap start_n start_nx mk_slots mk_heap mk_n mk_nx has_some has_none
theorem Con_of_T' {P : Program} {tab : Tab} (ht : TabOk P tab) {f : FuncId} {fn : Func} {c : Code} (hf : P.funcs[f]? = some fn) (hb : fn.body = some c) {n : Nat} (hn : fn.ntmps = n) {rs : List ResultVar} (hrs : fn.results.toList = rs) (he : ∀ args w, (callFunc f args).run P w = .ok (.enter f args) w) {gs : List GV} {r : GV} (hl : gs.length ≤ n) (hm : n < 65536)
    (h : T P c (startA n gs) (EndR tab rs r)) : Con P f gs r := by
  subst hn; subst hrs
  exact Con_of_T ht hf hb he hl hm h
end Go.Proofs.YtachnjinfdagjaaDoor
namespace Go.Proofs.YtachnjinfdagjaaDoor
open Go.RowKit
open Shp
section
variable {S : AState} {t d j id : Nat} {v u : PV} {B B' : Block}
end
structure Mode where
  any : Bool
structure AX (dr : Bool) (P : Program) (tab : Tab) (ops : Array Oper) (i : Nat) (os : List Oper) (S : AState) (acc : List (List Nat × List Nat)) (K : AState → List (List Nat × List Nat) → Prop) : Prop where
  run : if dr then AD P tab ops i os S acc K else AW P tab ops i os S (fun S' => K S' [])
section
variable {dr : Bool} {P : Program} {tab : Tab} {ops : Array Oper} {i : Nat} {os : List Oper} {S : AState} {acc : List (List Nat × List Nat)} {K : AState → List (List Nat × List Nat) → Prop}
theorem AX_step {o : Oper} {pv : PV} {ws : List (Nat × Block)} (h1 : wantA ops o S = some true) (h2 : S.has o.dst = true) (h3 : StepsTo P tab (S.nx + 8 * i) o S pv ws) (h4 : AX dr P tab ops (i + 1) os ((S.writes ws).put o.dst pv) (acc ++ [(tch tab (S.nx + 8 * i) o S, ws.map (·.1))]) K) : AX dr P tab ops i (o :: os) S acc K := by
  cases dr
  · exact ⟨⟨true, h1, h2, fun _ => ⟨pv, ws, .inl h3, h4.run⟩, fun h => (by cases h)⟩⟩
  · exact ⟨⟨true, h1, h2, fun _ => ⟨pv, ws, h3, h4.run⟩, fun h => (by cases h)⟩⟩
theorem AX_mark {o : Oper} {pv : PV} {ws : List (Nat × Block)} (h1 : wantA ops o S = some true) (h2 : S.has o.dst = true) (h3 : MarkTo P tab o S pv ws) (h4 : AX false P tab ops (i + 1) os ((S.writes ws).put o.dst pv) (acc ++ [(tch tab (S.nx + 8 * i) o S, ws.map (·.1))]) K) : AX false P tab ops i (o :: os) S acc K :=
  ⟨⟨true, h1, h2, fun _ => ⟨pv, ws, .inr h3, h4.run⟩, fun h => (by cases h)⟩⟩
theorem AX_skip {o : Oper} (h1 : wantA ops o S = some false) (h2 : S.has o.dst = true) (h4 : AX dr P tab ops (i + 1) os (S.put o.dst .none_) (acc ++ [([], [])]) K) : AX dr P tab ops i (o :: os) S acc K := by
  cases dr
  · exact ⟨⟨false, h1, h2, fun h => (by cases h), fun _ => h4.run⟩⟩
  · exact ⟨⟨false, h1, h2, fun h => (by cases h), fun _ => h4.run⟩⟩
variable {d : Option Nat} {ty : TypeId} {pos : String} {af : Array Edge}
theorem AX_op {op : Op} {pv : PV} {ws : List (Nat × Block)} (h2 : S.has d = true) (h3 : aOp tab (S.nx + 8 * i) ⟨d, op, ty, pos, af, none⟩ S = some (pv, ws)) (h4 : AX dr P tab ops (i + 1) os ((S.writes ws).put d pv) (acc ++ [(tch tab (S.nx + 8 * i) ⟨d, op, ty, pos, af, none⟩ S, ws.map (·.1))]) K) : AX dr P tab ops i (⟨d, op, ty, pos, af, none⟩ :: os) S acc K :=
  AX_step rfl h2 (.inl h3) h4
theorem AX_guard {op : Op} {g : Nat} {b c : Bool} {t : Nat} (hd : (ops[g]?).bind (·.dst) = some t) (hs : S.slots t = .g (.bool c)) (hcb : (c == b) = true) (h : AX dr P tab ops i (⟨d, op, ty, pos, af, none⟩ :: os) S acc K) : AX dr P tab ops i (⟨d, op, ty, pos, af, some (g, b)⟩ :: os) S acc K := by
  have hw : wantA ops ⟨d, op, ty, pos, af, some (g, b)⟩ S = some true := by simp only [wantA, hd, hs, hcb]
  cases dr
  · obtain ⟨⟨b', e1, h2, h3, _⟩⟩ := h
    simp only [wantA, Option.some.injEq] at e1
    exact ⟨⟨true, hw, h2, fun _ => h3 e1.symm, fun h => (by cases h)⟩⟩
  · obtain ⟨⟨b', e1, h2, h3, _⟩⟩ := h
    simp only [wantA, Option.some.injEq] at e1
    exact ⟨⟨true, hw, h2, fun _ => h3 e1.symm, fun h => (by cases h)⟩⟩
theorem AX_noguard {op : Op} {g : Nat} {b c : Bool} {t : Nat} (hd : (ops[g]?).bind (·.dst) = some t) (hs : S.slots t = .g (.bool c)) (hcb : (c == b) = false) (h2 : S.has d = true) (h : AX dr P tab ops (i + 1) os (S.put d .none_) (acc ++ [([], [])]) K) : AX dr P tab ops i (⟨d, op, ty, pos, af, some (g, b)⟩ :: os) S acc K :=
  AX_skip (by simp only [wantA, hd, hs, hcb]) h2 h
theorem AX_nonguard {op : Op} {g : Nat} {b : Bool} {t : Nat} (hd : (ops[g]?).bind (·.dst) = some t) (hs : S.slots t = .none_) (h2 : S.has d = true) (h : AX dr P tab ops (i + 1) os (S.put d .none_) (acc ++ [([], [])]) K) : AX dr P tab ops i (⟨d, op, ty, pos, af, some (g, b)⟩ :: os) S acc K :=
  AX_skip (by simp only [wantA, hd, hs]) h2 h
theorem put_self {t : Nat} {v : PV} (h : S.slots t = v) : S.put (some t) v = S :=
  AState.ext' rfl (fun x => by simp only [put_slots]; split
                               · rename_i e; rw [e, h]
                               · rfl) (fun _ => rfl) rfl
theorem AX_split {op : Op} {g : Nat} {b c : Bool} {t : Nat} (hd : (ops[g]?).bind (·.dst) = some t) (hs : S.slots t = .g (.bool c)) (h1 : c = true → AX dr P tab ops i (⟨d, op, ty, pos, af, some (g, b)⟩ :: os) (S.put (some t) (.g (.bool true))) acc K) (h2 : c = false → AX dr P tab ops i (⟨d, op, ty, pos, af, some (g, b)⟩ :: os) (S.put (some t) (.g (.bool false))) acc K) :
    AX dr P tab ops i (⟨d, op, ty, pos, af, some (g, b)⟩ :: os) S acc K := by
  cases c
  · have := h2 rfl; rwa [put_self hs] at this
  · have := h1 rfl; rwa [put_self hs] at this
theorem wr64 {a : Int} (h1 : -9223372036854775808 ≤ a) (h2 : a ≤ 9223372036854775807) : IntKind.i64.wrap a = a := by rw [IntKind.wrap_i64]; omega
end
end Go.Proofs.YtachnjinfdagjaaDoor
namespace Go.Proofs.YtachnjinfdagjaaDoor
open Go.RowKit
open Shp
section
variable {dr : Bool} {P : Program} {tab : Tab} {ops : Array Oper} {i : Nat} {os : List Oper} {S : AState} {acc : List (List Nat × List Nat)} {K : AState → List (List Nat × List Nat) → Prop}
variable {d : Option Nat} {ty : TypeId} {pos : String} {af : Array Edge}
abbrev idsW (ws : List (Nat × Block)) : List Nat := ws.map (·.1)
abbrev tcW (tab : Tab) (i : Nat) (S : AState) (o : Oper) (ws : List Nat) : List Nat × List Nat := (tch tab (S.nx + 8 * i) o S, ws)
theorem ld_box {h : Nat → Block} {t : TypeId} {ti : TI} {id off : Nat} {cs : List PV} {v : PV} (ht : tab t = some ti) (hb : h id = .box cs) (hv : aLoadBox ti off cs = some v) : aLoad tab h t (.ptr id off) = some (v, []) := by simp only [aLoad, ht, hb, hv, Option.map_some]
theorem ld_imm {h : Nat → Block} {t : TypeId} {ti : TI} {cs : List GV} {v : PV} (ht : tab t = some ti) (hv : aLoadImm ti cs = some v) : aLoad tab h t (.iptr cs) = some (v, []) := by simp only [aLoad, ht, hv, Option.map_some]
theorem ld_ibox {h : Nat → Block} {t : TypeId} {ti : TI} {cs : List GV} {v : PV} (ht : tab t = some ti) (hv : aLoadImm ti cs = some v) : aLoad tab h t (.g (.box cs)) = some (v, []) := by simp only [aLoad, ht, hv, Option.map_some]
theorem ld_elt {h : Nat → Block} {t : TypeId} {ti : TI} {id k j e : Nat} {dp : Bool} {xs : List GV} {x : GV} {v : PV} (ht : tab t = some ti) (hb : h id = .arr e dp xs) (hx : xs[k]? = some x) (hn : x.isTup = false) (hv : aLoadImm ti (x.cells.drop j) = some v) : aLoad tab h t (.eptr id k j) = some (v, []) := by simp only [aLoad, ht, hb, hx, hn, hv, Option.map_some, Bool.false_eq_true, if_false]
theorem ln_own {h : Nat → Block} {t : TypeId} {ti : TI} {E : TypeId} {id lo len e : Nat} {dp : Bool} {xs : List GV} (ht : tab t = some ti) (hk : ti.kind = .sl E) (hb : h id = .arr e dp xs) : aLen tab h t (.own id lo len) = some (.g (.int .i64 (len : Int)), []) := by simp only [aLen, ht, hk, hb]
theorem ln_g {h : Nat → Block} {t : TypeId} {ti : TI} {E : TypeId} {e : Nat} {xs : List GV} (ht : tab t = some ti) (hk : ti.kind = .sl E) : aLen tab h t (.g (.sl e xs)) = some (.g (.int .i64 (xs.length : Int)), []) := by simp only [aLen, ht, hk]
theorem ln_nil {h : Nat → Block} {t : TypeId} {ti : TI} {E : TypeId} {e : Nat} (ht : tab t = some ti) (hk : ti.kind = .sl E) : aLen tab h t (.nils e) = some (.g (.int .i64 0), []) := by simp only [aLen, ht, hk]
end
theorem src_g {h : Nat → Block} {e : Nat} {ys : List GV} {f : Bool} (hf : ys.all GV.flat = f) : srcE h e (.g (.sl e ys)) = some (ys, [], f) := by simp only [srcE, if_true, hf]
theorem dst_nil (h : Nat → Block) (e : Nat) : dstE h e (.nils e) = some ([], [], true) := by simp only [dstE, if_true]
theorem dst_own {h : Nat → Block} {id lo len e : Nat} {dp : Bool} {xs : List GV} (hb : h id = .arr e dp xs) (hl : lo + len ≤ xs.length) : dstE h e (.own id lo len) = some ((xs.drop lo).take len, [id], dp) := by simp only [dstE, hb, hl, and_self, if_true]
theorem vl_cons {f : PV → Option GV} {p : PV} {ps : List PV} {x : GV} {xs : List GV} (h1 : f p = some x) (h2 : viewL f ps = some xs) : viewL f (p :: ps) = some (x :: xs) := by simp only [viewL, h1, h2]
theorem vw_g (h : Nat → Block) (n : Nat) (v : GV) : view h (n + 1) (.g v) = some v := rfl
theorem vw_nils {h : Nat → Block} {n e : Nat} (he : Nat.ble 1 e = true) : view h (n + 1) (.nils e) = some (.sl e []) := by
  have : 0 < e := by have := Nat.le_of_ble_eq_true he; omega
  simp only [view, this, if_true]
theorem vw_own {h : Nat → Block} {n id lo len e : Nat} {dp : Bool} {xs : List GV} (hb : h id = .arr e dp xs) (hl : lo + len ≤ xs.length) : view h (n + 1) (.own id lo len) = some (.sl e ((xs.drop lo).take len)) := by simp only [view, hb, hl, if_true]
theorem ag_nil (S : AState) (tab : Tab) (ts : List TypeId) : S.args tab [] ts = [] := by cases ts <;> rfl
theorem ag_cons {S : AState} {tab : Tab} {x : Operand} {xs : List Operand} {t : TypeId} {ts : List TypeId} {p : PV} {ps : List PV} (h1 : S.ev tab t x = p) (h2 : S.args tab xs ts = ps) : S.args tab (x :: xs) (t :: ts) = p :: ps := by simp only [AState.args, h1, h2]
theorem ag_cons0 {S : AState} {tab : Tab} {x : Operand} {xs : List Operand} {p : PV} {ps : List PV} (h1 : S.ev tab 0 x = p) (h2 : S.args tab xs [] = ps) : S.args tab (x :: xs) [] = p :: ps := by simp only [AState.args, h1, h2]
theorem ix_map {α : Type} [Inhabited α] {f : α → GV} {ys : List α} {n : Int} (h : 0 ≤ n ∧ n < (ys.length : Int)) : (ys.map f)[n.toNat]? = some (f (nth ys n.toNat)) := by
  have h1 : n.toNat < ys.length := by omega
  rw [List.getElem?_map, List.getElem?_eq_getElem h1, nth_eq h1]; rfl
theorem ix_mapN {α : Type} [Inhabited α] {f : α → GV} {ys : List α} {n : Nat} (h : n < ys.length) : (ys.map f)[((n : Nat) : Int).toNat]? = some (f (nth ys n)) := by
  rw [List.getElem?_map, Int.toNat_natCast, List.getElem?_eq_getElem h, nth_eq h]; rfl
theorem inT_eq {id : Nat} {S : AState} {Q : Exit → AState → Prop} (h : Q .normal S) : inT id Q (.exit id) S := by simp [inT, h]
theorem inT_ne {id j : Nat} {S : AState} {Q : Exit → AState → Prop} (hn : Nat.beq j id = false) (h : Q (.exit j) S) : inT id Q (.exit j) S := by
  simp only [inT]; rw [if_neg (by intro e; subst e; simp at hn)]; exact h
theorem inT_n {id : Nat} {S : AState} {Q : Exit → AState → Prop} (h : Q .normal S) : inT id Q .normal S := h
theorem inT_r {id : Nat} {S : AState} {Q : Exit → AState → Prop} (h : Q .ret S) : inT id Q .ret S := h
end Go.Proofs.YtachnjinfdagjaaDoor
namespace Go.Proofs.YtachnjinfdagjaaDoor
open Go.RowKit
open Shp
section
variable {tab : Tab} {S : AState}
theorem er_ret {rs : List ResultVar} {r : GV} (h : outR tab S rs = some r) : EndR tab rs r .ret S := h
theorem out1 {rs : List ResultVar} {p : PV} {x r : GV} {ks : List Nat} (h1 : resL tab S rs = some [p]) (h2 : absE S.heap p = some (x, ks, true)) (h3 : x.isTup = false) (h4 : x = r) : outR tab S rs = some r := by
  subst h4
  unfold outR
  simp only [h1, absL, h2, Bool.and_true, h3, Bool.false_eq_true, if_false]
theorem outN {rs : List ResultVar} {p q : PV} {ps : List PV} {gs : List GV} {r : GV} {ks : List Nat} (h1 : resL tab S rs = some (p :: q :: ps)) (h2 : absL absE S.heap (p :: q :: ps) = some (gs, ks, true)) (h4 : .tup gs = r) : outR tab S rs = some r := by
  have h3 : ∃ a b cs, gs = a :: b :: cs := by
    unfold absL at h2
    cases e1 : absE S.heap p with
    | none => simp [e1] at h2
    | some x =>
      obtain ⟨x, k, d⟩ := x
      simp only [e1] at h2
      unfold absL at h2
      cases e2 : absE (killL S.heap k) q with
      | none => simp [e2] at h2
      | some y =>
        obtain ⟨y, k', d'⟩ := y
        simp only [e2] at h2
        cases e3 : absL absE (killL (killL S.heap k) k') ps with
        | none => simp [e3] at h2
        | some z =>
          obtain ⟨z, k2, d2⟩ := z
          simp only [e3, Option.some.injEq, Prod.mk.injEq] at h2
          exact ⟨x, y, z, h2.1.symm⟩
  obtain ⟨a, b, cs, rfl⟩ := h3
  unfold outR
  simp only [h1, h2, h4]
theorem rl_tmp {t : Nat} {rs : List ResultVar} {p : PV} {ps : List PV} (h1 : S.slots t = p) (h2 : resL tab S rs = some ps) : resL tab S (.tmp t :: rs) = some (p :: ps) := by simp only [resL, h2, h1]
theorem rl_cell {a : Nat} {t : TypeId} {rs : List ResultVar} {q p : PV} {ps : List PV} (h1 : S.slots a = q) (h3 : aLoad tab S.heap t q = some (p, [])) (h2 : resL tab S rs = some ps) : resL tab S (.cell a t :: rs) = some (p :: ps) := by simp only [resL, h2, h1, h3]
theorem flat_map {α : Type} {f : α → GV} {ys : List α} (hf : ∀ y, (f y).flat = true) : (ys.map f).all GV.flat = true := by simp [hf]
theorem flat_ints (k : IntKind) (ys : List Int) : (ys.map (GV.int k)).all GV.flat = true := flat_map fun _ => rfl
end
end Go.Proofs.YtachnjinfdagjaaDoor
namespace Go.Proofs.YtachnjinfdagjaaDoor
open Go.RowKit
open Shp
abbrev GV.i (n : Int) : GV := .int .i64 n
abbrev GV.ints (xs : List Int) : GV := .sl 1 (xs.map GV.i)
section
variable {h : Nat → Block}
theorem vw_ptr {n id : Nat} {cs : List PV} {gs : List GV} (hb : h id = .box cs) (hv : viewL (view h n) cs = some gs) (ha : (gs.all fun x => x.ncells == 1) = true) : view h (n + 1) (.ptr id 0) = some (.box gs) := by
  simp only [view, hb, hv, ha, if_true]
theorem vw_agg {n : Nat} {cs : List PV} {gs : List GV} (hv : viewL (view h n) cs = some gs) (ha : (gs.all fun x => x.ncells == 1) = true) : view h (n + 1) (.agg cs) = some (.agg gs) := by
  simp only [view, hv, ha, if_true]
theorem vw_fn {n : Nat} {f : FuncId} {cs : List PV} {gs : List GV} (hv : viewL (view h n) cs = some gs) : view h (n + 1) (.fn f cs) = some (.fn f gs) := by
  simp only [view, hv]
theorem vl_mapg (n : Nat) (gs : List GV) : viewL (view h (n + 1)) (gs.map .g) = some gs := by
  induction gs with
  | nil => rfl
  | cons x xs ih => exact vl_cons (vw_g h n x) ih
theorem vl_app {f : PV → Option GV} : ∀ {ps qs : List PV} {xs ys : List GV}, viewL f ps = some xs → viewL f qs = some ys → viewL f (ps ++ qs) = some (xs ++ ys)
  | [], qs, xs, ys, h1, h2 => by simp [viewL] at h1; subst h1; exact h2
  | p :: ps, qs, xs, ys, h1, h2 => by
    unfold viewL at h1
    cases e1 : f p with
    | none => simp [e1] at h1
    | some x =>
      cases e2 : viewL f ps with
      | none => simp [e1, e2] at h1
      | some zs =>
        simp only [e1, e2, Option.some.injEq] at h1
        subst h1
        exact vl_cons e1 (vl_app e2 h2)
end
section
variable {dr : Bool} {P : Program} {tab : Tab} {ops : Array Oper} {i : Nat} {os : List Oper} {S : AState} {acc : List (List Nat × List Nat)} {K : AState → List (List Nat × List Nat) → Prop}
variable {d : Option Nat} {ty : TypeId} {pos : String} {af : Array Edge}
end
end Go.Proofs.YtachnjinfdagjaaDoor
namespace Go.Proofs.YtachnjinfdagjaaDoor
open Go.RowKit
open Shp
def rowRet (b o cap : Nat) : Option Nat → Value
  | none => .tuple #[]
  | some n => .slice (some ⟨b, o, none⟩) n cap
structure RowC (P : Program) (f : FuncId) (xs ys : List Int) (cut : Option Nat) : Prop where
  enter : ∀ args w, (callFunc f args).run P w = .ok (.enter f args) w
  ne : 1 ≤ xs.length
  len : ys.length = xs.length
  cutl : ∀ n, cut = some n → n ≤ xs.length
  calls : ∀ (w : World) (b o cap : Nat) (vs : Array Value) (t : FT), w.heap[b]? = some (cel vs t) → xs.length ≤ cap → cap ≤ 9223372036854775807 → o + cap ≤ vs.size → (∀ k (hk : k < xs.length), vs[o + k]? = some (.int .i64 xs[k])) →
    Calls P f #[.slice (some ⟨b, o, none⟩) xs.length cap] w fun e w' => e = .returned (rowRet b o cap cut) ∧ Keeps [b] w w' ∧ ∃ vs', w'.heap[b]? = some (cel vs' t) ∧ vs'.size = vs.size ∧ ∀ k (hk : k < ys.length), vs'[o + k]? = some (.int .i64 ys[k])
def rowPV (id : Nat) : Option Nat → PV
  | none => .undef
  | some n => .own id 0 n
theorem nth_cells_int {n : Int} {F : List Nat} {w : World} {v : Value} (h : GRep w F v (GV.i n)) : v.cells[0]? = some (.int .i64 n) := by rw [h.int_inv]; rfl
theorem flat_nilsI : ∀ {ys : List Int}, (ys.map fun _ => ([] : List Nat)).flatten = []
  | [] => rfl
  | y :: ys => by rw [List.map_cons, List.flatten_cons, flat_nilsI]; rfl
set_option maxHeartbeats 1000000 in
theorem eff_row {P : Program} {tab : Tab} {S : AState} {o : Oper} {f x : Operand} {t : TypeId} (ho : o.op = .call { callee := .value f, args := #[x], argTypes := #[t] }) {fid : FuncId} (hf : asFn (S.ev tab 0 f) = some (fid, [])) {id len : Nat} (hx : S.ev tab t x = .own id 0 len)
    {dp : Bool} {xs ys : List Int} {cut : Option Nat} (hb : S.heap id = .arr 1 dp (xs.map GV.i)) (hlen : len = xs.length) (hc : RowC P fid xs ys cut) (nid : Nat) : EffTo P tab nid o S (rowPV id cut) [(id, .arr 1 true (ys.map GV.i))] := by
  intro S' h1 h2 w0 a w μ who hr
  rw [ho] at h1
  have mf : f ∈ (Op.call { callee := .value f, args := #[x], argTypes := #[t] }).operands.toList := by simp [Op.operands, Call.operands]
  have mx : x ∈ (Op.call { callee := .value f, args := #[x], argTypes := #[t] }).operands.toList := by simp [Op.operands, Call.operands]
  have hf' : asFn (S'.ev tab 0 f) = some (fid, []) := by rw [← ev_loc (h1 f mf)]; exact hf
  have hx' : S'.ev tab t x = .own id 0 len := by rw [← ev_loc (h1 x mx)]; exact hx
  have hb' : S'.heap id = .arr 1 dp (xs.map GV.i) := by
    rw [← h2 id (by unfold tch; rw [ho]; simp [AState.args, hx, vids])]; exact hb
  obtain ⟨cvs, hv, hcl, _⟩ := asFn_inv (hr.ev tab 0 f) hf'
  have hc0 : cvs = [] := List.eq_nil_of_length_eq_zero (by simpa using hcl)
  subst hc0
  have px := hr.ev tab t x
  rw [hx'] at px
  obtain ⟨_, hnf, hown⟩ := px.own_inv
  have hoa := hown _ _ _ hb'
  have hB := hr.blk id
  rw [hb'] at hB
  obtain ⟨_, hB⟩ := hB
  unfold OwnAt at hoa
  cases hμ : μ id with
  | none =>
    rw [hμ] at hB
    have h9 := congrArg List.length (show xs.map GV.i = [] from hB)
    rw [List.length_map, List.length_nil] at h9
    have := hc.ne
    omega
  | some bd =>
    obtain ⟨b, d⟩ := bd
    rw [hμ] at hB
    simp only [hμ] at hoa
    obtain ⟨cap, off, hva, hle, hmax, vs, ty, hrow, hoff, hfit⟩ := hoa
    obtain ⟨vs2, ty2, Fs, els, hrow2, rr, _, _⟩ := hB
    obtain ⟨rfl, rfl⟩ := cel_inj hrow hrow2
    have hne := hc.ne
    have hoff' : off = d := by have := hoff (by omega); omega
    subst hoff'
    subst hlen
    have hcell : ∀ k (hk : k < xs.length), vs[off + k]? = some (.int .i64 xs[k]) := fun k hk => by
      have hk2 : k < (xs.map GV.i).length := by simpa using hk
      have e1 := rr.cell k (by rw [rr.len]; exact hk2) 0 (by omega)
      have e2 := rr.el k hk2
      rw [show ((xs.map GV.i)[k]'hk2) = GV.i xs[k] by simp] at e2
      have e3 := nth_cells_int e2
      rw [show off + k * 1 + 0 = off + k by omega] at e1
      rw [e1, e3]
    have hrun : (execOp a.eval o).run P w = .ok (.enter fid #[.slice (some ⟨b, off, none⟩) xs.length cap]) w := by
      have := hc.enter #[.slice (some ⟨b, off, none⟩) xs.length cap] w
      unfold execOp
      simp only [ho, resolve, hv, Deferred.ofValue, Sem.run_bind, Sem.run_pure, Result.andThen_ok, invoke, Array.empty_append]
      have e1 : ((#[x] : Array Operand).map a.eval ++ ([] : List Value).toArray) = #[.slice (some ⟨b, off, none⟩) xs.length cap] := by
        rw [show ((#[x] : Array Operand).map a.eval ++ ([] : List Value).toArray) = #[a.eval x] by simp, hva]
      rw [e1, this]
    rw [hrun]
    refine (hc.calls w b off cap vs ty hrow hle hmax (by omega) hcell).mono fun e w' hq => ?_
    obtain ⟨he, hk, vs', hrow', hsz, hys⟩ := hq
    have hlv : (S'.heap id).live = true := by rw [hb']; rfl
    have hmod := hr.mod (id := id) (b := b) (d := off) (B := .arr 1 true (ys.map GV.i)) hlv hμ hk hrow hrow' hsz rfl (fun e dp' xs' hB => by
      cases hB; exact ⟨_, _, hb'⟩) (by simp) (fun hm => by
      refine ⟨by omega, ?_⟩
      rw [hμ]
      have hyl := hc.len
      refine ⟨vs', ty, ys.map fun _ => [], ys.map fun y => .int .i64 y, hrow', ⟨by simp, by simp, by simp; omega, fun k hk => by simp [GV.ncells], fun k hk => ?_, fun k hk => ?_, fun k hk j hj => ?_⟩, ?_, fun _ => ⟨?_, ?_⟩⟩
      · simp only [List.getElem_map]; exact .atom (.int .i64 _) rfl
      · simp only [List.getElem_map]
        exact ⟨rfl, fun v hv => by simp [Value.cells] at hv; subst hv; rfl⟩
      · have : j = 0 := by omega
        subst this
        simp only [List.length_map] at hk
        simp only [List.getElem_map]
        rw [show off + k * 1 + 0 = off + k by omega, hys k hk]; rfl
      · intro c hc'; rw [flat_nilsI] at hc'; cases hc'
      · rw [flat_nilsI]; exact List.nodup_nil
      · intro c hc'; rw [flat_nilsI] at hc'; cases hc')
    refine ⟨_, he, μ, who, hmod, ?_⟩
    cases hcut : cut with
    | none => exact .undef _
    | some n =>
      have hn := hc.cutl n hcut
      refine .own _ id 0 n rfl (by simp [AState.writes, writesH, upd_same]) fun e dp' xs' hx2 => ?_
      have he1 : e = 1 := by
        simp only [AState.writes, writesH, upd_same] at hx2
        cases hx2; rfl
      subst he1
      unfold OwnAt
      rw [hμ]
      exact ⟨cap, off, rfl, by omega, hmax, vs', ty, hrow', fun _ => by omega, by omega⟩
def ROW (P : Program) (f : FuncId) (xs ys : List Int) (cut : Option Nat) : Prop := RowC P f xs ys cut
end Go.Proofs.YtachnjinfdagjaaDoor
namespace Go.Proofs.YtachnjinfdagjaaDoor
open Go.RowKit
open Shp
structure IntoC (P : Program) (f : FuncId) (xs : List Int) (x : Int) (ys : List Int) : Prop where
  enter : ∀ args w, (callFunc f args).run P w = .ok (.enter f args) w
  calls : ∀ (w : World) (F : List Nat) (v : Value), GRep w F v (.sl 1 (xs.map GV.i)) → Calls P f #[v, .int .i64 x] w fun e w' => (xs = ys ∧ e = .returned v ∧ Keeps [] w w') ∨ Gives w (.sl 1 (ys.map GV.i)) e w'
theorem fl_nil {w : World} {xs : List Int} {Fs : List (List Nat)} {els : List Value} (hl : Fs.length = (xs.map GV.i).length) (hv : els.length = (xs.map GV.i).length) (h : ∀ k (hk : k < (xs.map GV.i).length), GRep w (Fs[k]'(hl ▸ hk)) (els[k]'(hv ▸ hk)) (xs.map GV.i)[k]) : Fs.flatten = [] := by
  refine flatten_nils fun k hk => ?_
  exact (h k (hl ▸ hk)).of_atom (by simp [GV.atom])
set_option maxHeartbeats 2000000 in
theorem RelAt.rename {w0 : W0} {S : AState} {a : Act} {w w' : World} {μ : Lay} {who : Nat → Option Nat} (h : RelAt w0 S a w μ who) (hk : Keeps [] w w') {id nid : Nat} {dp : Bool} {xs : List Int} (hid : S.heap id = .arr 1 dp (xs.map GV.i)) (hn : S.heap nid = .free) {v : Value} (hv : PRep w μ S.heap v (.own id 0 xs.length)) :
    ∃ μ', RelAt w0 (S.writes [(nid, .arr 1 true (xs.map GV.i)), (id, .dead)]) a w' μ' who ∧ PRep w' μ' (S.writes [(nid, .arr 1 true (xs.map GV.i)), (id, .dead)]).heap v (.own nid 0 xs.length) := by
  have hne : id ≠ nid := by intro e; subst e; rw [hid] at hn; cases hn
  have hlv : (S.heap id).live = true := by rw [hid]; rfl
  have e1 : (S.writes [(nid, .arr 1 true (xs.map GV.i)), (id, .dead)]).heap nid = .arr 1 true (xs.map GV.i) := by
    simp only [AState.writes, writesH]; rw [upd_ne _ _ _ hne.symm, upd_same]
  have e2 : (S.writes [(nid, .arr 1 true (xs.map GV.i)), (id, .dead)]).heap id = .dead := by simp only [AState.writes, writesH]; rw [upd_same]
  have e3 : ∀ j, j ≠ id → j ≠ nid → (S.writes [(nid, .arr 1 true (xs.map GV.i)), (id, .dead)]).heap j = S.heap j := fun j h1 h2 => by
    simp only [AState.writes, writesH]; rw [upd_ne _ _ _ h1, upd_ne _ _ _ h2]
  have hroot : ∀ b, Root (upd μ nid (μ id)) (S.writes [(nid, .arr 1 true (xs.map GV.i)), (id, .dead)]).heap b → Root μ S.heap b := by
    rintro b ⟨j, d, h1, h2⟩
    by_cases hj : j = nid
    · subst hj; rw [upd_same] at h2; exact ⟨id, d, hlv, h2⟩
    · rw [upd_ne _ _ _ hj] at h2
      by_cases hj2 : j = id
      · subst hj2; rw [e2] at h1; cases h1
      · rw [e3 j hj2 hj] at h1; exact ⟨j, d, h1, h2⟩
  have hm : Move w w' μ (upd μ nid (μ id)) S.heap (S.writes [(nid, .arr 1 true (xs.map GV.i)), (id, .dead)]).heap := by
    refine ⟨fun b hb hr => ⟨hk.block b hb (by simp), fun hr' => hr (hroot b hr')⟩, fun i b d h1 h2 h3 h4 vs t hw => ⟨vs, t, by rw [hk.block b (h.base i b d h2 h4).2 (by simp)]; exact hw, rfl⟩, fun i hi => ?_, fun i e dp' xs' hf hi => ?_, fun i cs hf hi => ?_⟩
    · by_cases h1 : i = nid
      · subst h1; exact hn
      · by_cases h2 : i = id
        · subst h2; rw [e2] at hi; cases hi
        · rw [e3 i h2 h1] at hi; exact hi
    · by_cases h1 : i = nid
      · subst h1; exact absurd hn hf
      · by_cases h2 : i = id
        · subst h2; rw [e2] at hi; cases hi
        · rw [e3 i h2 h1] at hi; exact ⟨upd_ne _ _ _ h1, dp', xs', hi⟩
    · by_cases h1 : i = nid
      · subst h1; rw [e1] at hi; cases hi
      · by_cases h2 : i = id
        · subst h2; rw [e2] at hi; cases hi
        · rw [e3 i h2 h1] at hi; exact ⟨upd_ne _ _ _ h1, cs, hi⟩
  obtain ⟨hoc, _, hown⟩ := hv.own_inv
  have hoa := hown _ _ _ hid
  have hB := h.blk id
  rw [hid] at hB
  refine ⟨upd μ nid (μ id), h.step [nid, id] rfl rfl hm (h.keep.transL hk) (fun j hj => ?_) (fun j hj => ?_) (fun b j _ _ _ hb => hb) hk.size, ?_⟩
  · simp only [List.mem_cons, List.not_mem_nil, or_false, not_or] at hj
    exact ⟨e3 j hj.2 hj.1, fun hl => ⟨upd_ne _ _ _ hj.1, fun b d hb => hk.block b (h.base j b d hl hb).2 (by simp)⟩⟩
  · simp only [List.mem_cons, List.not_mem_nil, or_false] at hj
    rcases hj with rfl | rfl
    · rw [e1]
      refine ⟨?_, fun _ b d hb => ?_⟩
      · obtain ⟨he, hB⟩ := hB
        refine ⟨he, ?_⟩
        rw [upd_same]
        cases hμ : μ id with
        | none => rw [hμ] at hB; exact hB
        | some bd =>
          obtain ⟨b, d⟩ := bd
          rw [hμ] at hB
          obtain ⟨vs, t, Fs, els, h1, h2, h3, h4⟩ := hB
          have hfl := fl_nil h2.fl h2.len h2.el
          obtain ⟨h5, h6⟩ := h2.move hm h3
          exact ⟨vs, t, Fs, els, by rw [hk.block b (h.base id b d hlv hμ).2 (by simp)]; exact h1, h5, (by rw [hμ] at h6; exact h6), fun _ => ⟨by rw [hfl]; exact List.nodup_nil, fun c hc => by rw [hfl] at hc; cases hc⟩⟩
      · rw [upd_same] at hb
        have hb' := h.base id b d hlv hb
        refine ⟨fun i d' hi hli hi' => hi (by have := h.inj i id b d' d hli hlv hi' hb; subst this; simp), fun i d' hi hli hi' => ?_, ?_, Nat.lt_of_lt_of_le hb'.2 hk.size⟩
        · simp only [List.mem_cons, List.not_mem_nil, or_false] at hi
          rcases hi with rfl | rfl
          · rfl
          · rw [e2] at hli; cases hli
        · exact hb'.1.kind (by rw [hid]; rintro ⟨cs, hc⟩; cases hc)
    · rw [e2]; exact ⟨trivial, fun hl => by cases hl⟩
  · refine .own _ nid 0 _ hoc (by rw [e1]; simp) fun e dp' xs' hx => ?_
    rw [e1] at hx
    cases hx
    unfold OwnAt at hoa ⊢
    rw [upd_same]
    cases hμ : μ id with
    | none => rw [hμ] at hoa; exact hoa
    | some bd =>
      obtain ⟨b, d⟩ := bd
      simp only [hμ] at hoa ⊢
      obtain ⟨cap, o, q1, q2, q3, vs, t, q4, q5, q6⟩ := hoa
      exact ⟨cap, o, q1, q2, q3, vs, t, by rw [hk.block b (h.base id b d hlv hμ).2 (by simp)]; exact q4, q5, q6⟩
set_option maxHeartbeats 1000000 in
theorem eff_into {P : Program} {tab : Tab} {S : AState} {o : Oper} {f x y : Operand} {tx ty : TypeId} (ho : o.op = .call { callee := .value f, args := #[x, y], argTypes := #[tx, ty] }) {fid : FuncId} (hf : asFn (S.ev tab 0 f) = some (fid, [])) {id len : Nat} (hx : S.ev tab tx x = .own id 0 len) {m : Int} (hy : S.ev tab ty y = .g (.int .i64 m))
    {xs ys : List Int} (hb : S.heap id = .arr 1 true (xs.map GV.i)) (hlen : len = xs.length) {nid : Nat} (hn : S.heap nid = .free) (hc : IntoC P fid xs m ys) : EffTo P tab nid o S (.own nid 0 ys.length) [(nid, .arr 1 true (ys.map GV.i)), (id, .dead)] := by
  intro S' h1 h2 w0 a w μ who hr
  rw [ho] at h1
  have mf : f ∈ (Op.call { callee := .value f, args := #[x, y], argTypes := #[tx, ty] }).operands.toList := by simp [Op.operands, Call.operands]
  have mx : x ∈ (Op.call { callee := .value f, args := #[x, y], argTypes := #[tx, ty] }).operands.toList := by simp [Op.operands, Call.operands]
  have my : y ∈ (Op.call { callee := .value f, args := #[x, y], argTypes := #[tx, ty] }).operands.toList := by simp [Op.operands, Call.operands]
  have hf' : asFn (S'.ev tab 0 f) = some (fid, []) := by rw [← ev_loc (h1 f mf)]; exact hf
  have hx' : S'.ev tab tx x = .own id 0 len := by rw [← ev_loc (h1 x mx)]; exact hx
  have hy' : S'.ev tab ty y = .g (.int .i64 m) := by rw [← ev_loc (h1 y my)]; exact hy
  have hb' : S'.heap id = .arr 1 true (xs.map GV.i) := by
    rw [← h2 id (by unfold tch; rw [ho]; simp [AState.args, hx, vids])]; exact hb
  have hn' : S'.heap nid = .free := by
    rw [← h2 nid (by unfold tch; rw [ho]; exact List.mem_append.2 (.inl (List.mem_map.2 ⟨0, by simp, rfl⟩)))]; exact hn
  obtain ⟨cvs, hv, hcl, _⟩ := asFn_inv (hr.ev tab 0 f) hf'
  have hc0 : cvs = [] := List.eq_nil_of_length_eq_zero (by simpa using hcl)
  subst hc0
  have px := hr.ev tab tx x
  have py := hr.ev tab ty y
  rw [hx'] at px
  rw [hy'] at py
  have ey := py.int_inv
  subst hlen
  obtain ⟨_, _, hown⟩ := px.own_inv
  obtain ⟨F, hg, _⟩ := hr.view hb' (hown _ _ _ hb') (by simp)
  rw [List.drop_zero, List.take_of_length_le (by simp)] at hg
  have hrun : (execOp a.eval o).run P w = .ok (.enter fid #[a.eval x, .int .i64 m]) w := by
    have := hc.enter #[a.eval x, .int .i64 m] w
    unfold execOp
    simp only [ho, resolve, hv, Deferred.ofValue, Sem.run_bind, Sem.run_pure, Result.andThen_ok, invoke, Array.empty_append]
    have e1 : ((#[x, y] : Array Operand).map a.eval ++ ([] : List Value).toArray) = #[a.eval x, .int .i64 m] := by
      rw [show ((#[x, y] : Array Operand).map a.eval ++ ([] : List Value).toArray) = #[a.eval x, a.eval y] by simp, ey]
    rw [e1, this]
  rw [hrun]
  refine (hc.calls w F _ hg).mono fun e w' hq => ?_
  rcases hq with ⟨rfl, rfl, hk⟩ | hq
  · obtain ⟨μ', r1, r2⟩ := hr.rename hk hb' hn' px
    exact ⟨_, rfl, μ', who, r1, r2⟩
  · obtain ⟨v, rfl, μ', who', r1, r2⟩ := gives_ok hr (r := .sl 1 (ys.map GV.i)) nid rfl (fun i hi => by
      have : i = 0 := by simpa [leavesR, GV.leaves] using hi
      subst this; exact hn') hq
    have e3 : S'.writes (thawW nid (leavesR (.sl 1 (ys.map GV.i)))) = S'.writes [(nid, .arr 1 true (ys.map GV.i))] := rfl
    rw [e3] at r1 r2
    have hr2 : PRep w' μ' (S'.writes [(nid, .arr 1 true (ys.map GV.i))]).heap v (.own nid 0 ys.length) := by
      have : thawR nid (.sl 1 (ys.map GV.i)) = .own nid 0 ys.length := by simp [thawR, thawC, thawP]
      rw [← this]; exact r2
    have hne : id ≠ nid := by intro e; subst e; rw [hb'] at hn'; cases hn'
    have hnf : (S'.writes [(nid, .arr 1 true (ys.map GV.i))]).heap id ≠ .free := by simp only [AState.writes, writesH]; rw [upd_ne _ _ _ hne, hb']; simp
    exact ⟨v, rfl, μ', who', r1.kill hnf (fun _ _ _ _ h => h), hr2.move (Move.kill w' μ' _ hnf)⟩
end Go.Proofs.YtachnjinfdagjaaDoor
namespace Go.Proofs.YtachnjinfdagjaaDoor
open Go.RowKit
open Shp
def exV : GV → Value
  | .ex v _ _ => v
  | x => ofAtom x
def exOk : GV → Bool
  | .ex _ _ _ => true
  | x => x.atom
theorem exOk_atom {x : GV} (h : x.atom = true) : exOk x = true := by cases x <;> simp_all [exOk, GV.atom]
theorem exV_atom {x : GV} (h : x.atom = true) : exV x = ofAtom x := by cases x <;> simp_all [exV, GV.atom]
theorem GRep.exv {w : World} {F : List Nat} {v : Value} {x : GV} (h : GRep w F v x) (hx : exOk x = true) : v = exV x ∧ v.oneCell' = true := by
  cases h with
  | atom x hx2 => cases x <;> simp [GV.atom] at hx2 <;> exact ⟨rfl, rfl⟩
  | ex v e xs F h =>
    cases h with
    | atom x hx2 => simp [GV.atom] at hx2
    | sl => exact ⟨rfl, rfl⟩
  | fn | agg | tup | box | sl | raw | bd => simp [exOk, GV.atom] at hx
structure BoxC (P : Program) (f : FuncId) (cs gs : List GV) (r : GV) (cs' : List GV) : Prop where
  enter : ∀ args w, (callFunc f args).run P w = .ok (.enter f args) w
  ok : ∀ c ∈ cs, exOk c = true
  ok' : ∀ c ∈ cs', exOk c = true
  len : cs'.length = cs.length
  sub : ∀ c ∈ cs', c.atom = true ∨ c ∈ cs
  calls : ∀ (w : World) (b : Nat) (t : TypeId) (args : List Value) (hl : args.length = gs.length), w.heap[b]? = some (.cells (cs.map exV).toArray t (0, 0)) → (∀ c ∈ cs, ∃ F, GRep w F (exV c) c ∧ b ∉ F) → (∀ i (hi : i < gs.length), ∃ F, GRep w F (args[i]'(hl ▸ hi)) gs[i] ∧ b ∉ F) →
    Calls P f (Value.pointer (some ⟨b, 0, none⟩) :: args).toArray w fun e w' => GivesW ⟨w, [b], np0⟩ r e w' ∧ ∃ t', w'.heap[b]? = some (.cells (cs'.map exV).toArray t' (0, 0))
inductive GL : List PV → List GV → Prop
  | nil : GL [] []
  | cons {c : GV} {ps : List PV} {cs : List GV} : GL ps cs → GL (.g c :: ps) (c :: cs)
theorem GL.e {ps : List PV} {cs : List GV} (h : GL ps cs) : ps = cs.map PV.g := by
  induction h with
  | nil => rfl
  | cons _ ih => rw [ih]; rfl
def np1 : PV → Bool
  | .g _ => true
  | .own .. => true
  | .nils _ => true
  | _ => false
def np : PV → Bool
  | .agg cs => cs.all np1
  | p => np1 p
def NoBox (S : AState) (μ : Lay) (F : List Nat) : Prop := ∀ c ∈ F, (∃ id d e dp xs, S.heap id = .arr e dp xs ∧ μ id = some (c, d)) ∨ ¬ Root μ S.heap c
theorem view_np1 {w0 : W0} {S : AState} {a : Act} {w : World} {μ : Lay} {who : Nat → Option Nat} (h : RelAt w0 S a w μ who) {n : Nat} {v : Value} {p : PV} {x : GV} (hv : PRep w μ S.heap v p) (hn : np1 p = true) (hx : view S.heap (n + 1) p = some x) : ∃ F, GRep w F v x ∧ NoBox S μ F := by
  unfold view at hx
  cases p with
  | g y =>
    simp only [Option.some.injEq] at hx; subst hx
    obtain ⟨F, hg, hd⟩ := hv.g_inv
    exact ⟨F, hg, fun c hc => .inr (hd c hc)⟩
  | nils e =>
    simp only at hx
    split at hx
    · rename_i he
      simp only [Option.some.injEq] at hx; subst hx
      rw [hv.nils_inv.1]
      have := GRep.sl (w := w) none 0 _ [] [] [] rfl rfl he (by simp) (by simp) (by simp) (by simp) (by simp) (by intro k hk; simp at hk) (by intro k hk; simp at hk) (by intro k hk; simp at hk)
      exact ⟨[], by simpa [Shp.own] using this, fun c hc => by simp at hc⟩
    · cases hx
  | own id lo len =>
    simp only at hx
    split at hx
    · rename_i e dp xs hid
      split at hx
      · rename_i hle
        simp only [Option.some.injEq] at hx; subst hx
        obtain ⟨F, hg, hF, _⟩ := h.view hid (hv.own_inv.2.2 _ _ _ hid) hle
        refine ⟨F, hg, fun c hc => ?_⟩
        rcases hF c hc with ⟨d, h1⟩ | h1
        · exact .inl ⟨id, d, e, dp, xs, hid, h1⟩
        · exact .inr h1
      · cases hx
    · cases hx
  | _ => simp [np1] at hn
theorem viewL_np {w0 : W0} {S : AState} {a : Act} {w : World} {μ : Lay} {who : Nat → Option Nat} (h : RelAt w0 S a w μ who) {n : Nat} : ∀ (ps : List PV) (vs : List Value) (hl : vs.length = ps.length), (∀ i (hi : i < ps.length), PRep w μ S.heap (vs[i]'(hl ▸ hi)) ps[i]) → ps.all np1 = true → ∀ {gs}, viewL (view S.heap (n + 1)) ps = some gs →
    ∃ Fs : List (List Nat), ∃ (hv : vs.length = gs.length) (hF : Fs.length = gs.length), (∀ i (hi : i < gs.length), GRep w (Fs[i]'(hF ▸ hi)) (vs[i]'(hv ▸ hi)) gs[i]) ∧ NoBox S μ Fs.flatten
  | [], vs, hl, _, _, gs, hx => by
    simp [viewL] at hx; subst hx
    exact ⟨[], by simpa using hl, rfl, by intro i hi; simp at hi, fun c hc => by simp at hc⟩
  | p :: ps, vs, hl, hp, hn, gs, hx => by
    cases vs with
    | nil => simp at hl
    | cons v vs =>
      simp only [List.all_cons, Bool.and_eq_true] at hn
      unfold viewL at hx
      split at hx
      · rename_i x xs e1 e2
        simp only [Option.some.injEq] at hx
        subst hx
        obtain ⟨F, hg, hb⟩ := view_np1 h (hp 0 (by simp)) hn.1 e1
        obtain ⟨Fs, hv, hF, hg2, hb2⟩ := viewL_np h ps vs (by simpa using hl) (fun i hi => hp (i + 1) (by simpa using hi)) hn.2 e2
        refine ⟨F :: Fs, by simpa using hv, by simpa using hF, fun i hi => ?_, fun c hc => ?_⟩
        · cases i with
          | zero => exact hg
          | succ i => exact hg2 i (by simpa using hi)
        · rw [List.flatten_cons] at hc
          rcases List.mem_append.1 hc with hc | hc
          · exact hb c hc
          · exact hb2 c hc
      · cases hx
theorem view_np {w0 : W0} {S : AState} {a : Act} {w : World} {μ : Lay} {who : Nat → Option Nat} (h : RelAt w0 S a w μ who) {n : Nat} {v : Value} {p : PV} {x : GV} (hv : PRep w μ S.heap v p) (hn : np p = true) (hx : view S.heap (n + 2) p = some x) : ∃ F, GRep w F v x ∧ NoBox S μ F := by
  by_cases hc : ∃ cs, p = .agg cs
  · obtain ⟨cs, rfl⟩ := hc
    unfold view at hx
    simp only at hx
    split at hx
    · rename_i gs hgs
      split at hx
      · rename_i hall
        simp only [Option.some.injEq] at hx; subst hx
        obtain ⟨vs, rfl, hl, h1, h2⟩ := hv.agg_inv
        obtain ⟨Fs, hl', hF, hg, hb⟩ := viewL_np h cs vs hl h2 hn hgs
        exact ⟨_, .agg vs gs Fs hl' hF h1 (by simpa using hall) hg, hb⟩
      · cases hx
    · cases hx
  · exact view_np1 h hv (by cases p <;> first | exact hn | exact absurd ⟨_, rfl⟩ hc) hx
theorem viewL_get {f : PV → Option GV} : ∀ {ps : List PV} {gs : List GV}, viewL f ps = some gs → ∃ hl : ps.length = gs.length, ∀ i (hi : i < gs.length), f (ps[i]'(hl ▸ hi)) = some gs[i]
  | [], gs, h => by
    simp [viewL] at h; subst h
    exact ⟨rfl, fun i hi => by simp at hi⟩
  | p :: ps, gs, h => by
    unfold viewL at h
    split at h
    · rename_i x xs e1 e2
      simp only [Option.some.injEq] at h; subst h
      obtain ⟨hl, h2⟩ := viewL_get e2
      refine ⟨by simp [hl], fun i hi => ?_⟩
      cases i with
      | zero => exact e1
      | succ i => exact h2 i (by simpa using hi)
    · cases h
theorem keeps_row {w : World} {b : Nat} {o : Obj} : Keeps [b] w { w with heap := w.heap.setIfInBounds b o } :=
  ⟨rfl, rfl, rfl, by simp, fun k hk hn => by
    have : k ≠ b := fun e => hn (by simp [e])
    simp only []
    rw [Array.getElem?_setIfInBounds_ne (by omega)]⟩
set_option maxHeartbeats 2000000 in
theorem eff_box {P : Program} {tab : Tab} {S : AState} {o : Oper} {f p : Operand} {xs : List Operand} {tp : TypeId} {ts : List TypeId} (ho : o.op = .call { callee := .value f, args := (p :: xs).toArray, argTypes := (tp :: ts).toArray }) {fid : FuncId} (hf : asFn (S.ev tab 0 f) = some (fid, [])) {id : Nat} (hp : S.ev tab tp p = .ptr id 0)
    {cs cs' gs : List GV} {ps : List PV} {r : GV} (hb : S.heap id = .box (cs.map PV.g)) (ha : S.args tab xs ts = ps) (hv : viewL (view S.heap 6) ps = some gs) (hn : ps.all np = true) (hc : BoxC P fid cs gs r cs') {nid : Nat} (hlf : (leavesR r).all GV.leaf = true) (hfree : ∀ i, i < (leavesR r).length → S.heap (nid + i) = .free) (h8 : (leavesR r).length ≤ 8) :
    EffTo P tab nid o S (thawR nid r) ((id, .box (cs'.map PV.g)) :: thawW nid (leavesR r)) := by
  intro S' h1 h2 w0 a w μ who hr
  rw [ho] at h1
  have mf : f ∈ (Op.call { callee := .value f, args := (p :: xs).toArray, argTypes := (tp :: ts).toArray }).operands.toList := by simp [Op.operands, Call.operands]
  have mp : p ∈ (Op.call { callee := .value f, args := (p :: xs).toArray, argTypes := (tp :: ts).toArray }).operands.toList := by simp [Op.operands, Call.operands]
  have mx : ∀ x ∈ xs, x ∈ (Op.call { callee := .value f, args := (p :: xs).toArray, argTypes := (tp :: ts).toArray }).operands.toList := fun x hx => by simp [Op.operands, Call.operands, hx]
  have hf' : asFn (S'.ev tab 0 f) = some (fid, []) := by rw [← ev_loc (h1 f mf)]; exact hf
  have hp' : S'.ev tab tp p = .ptr id 0 := by rw [← ev_loc (h1 p mp)]; exact hp
  have hag : ∀ (xs : List Operand) (ts : List TypeId), (∀ x ∈ xs, ∀ t, (x = .tmp t ∨ 65536 ≤ t) → S.slots t = S'.slots t) → S'.args tab xs ts = S.args tab xs ts := by
    intro xs
    induction xs with
    | nil => intro ts _; cases ts <;> rfl
    | cons x xs ih =>
      intro ts hx
      cases ts with
      | nil => simp only [AState.args]; rw [ih [] (fun y hy => hx y (.tail _ hy)), ← ev_loc (hx x (.head _))]
      | cons t ts => simp only [AState.args]; rw [ih ts (fun y hy => hx y (.tail _ hy)), ← ev_loc (hx x (.head _))]
  have ha' : S'.args tab xs ts = ps := by rw [hag xs ts (fun x hx => h1 x (mx x hx))]; exact ha
  have hb' : S'.heap id = .box (cs.map PV.g) := by
    rw [← h2 id (by unfold tch; rw [ho]; simp [AState.args, hp, vids])]; exact hb
  have hfree' : ∀ i, i < (leavesR r).length → S'.heap (nid + i) = .free := fun i hi => by
    rw [← h2 (nid + i) (by unfold tch; exact List.mem_append.2 (.inl (List.mem_map.2 ⟨i, by simp; omega, rfl⟩)))]; exact hfree i hi
  obtain ⟨cvs, hvf, hcl, _⟩ := asFn_inv (hr.ev tab 0 f) hf'
  have hc0 : cvs = [] := List.eq_nil_of_length_eq_zero (by simpa using hcl)
  subst hc0
  have px := hr.ev tab tp p
  rw [hp'] at px
  obtain ⟨_, _, hptr⟩ := px.ptr_inv
  obtain ⟨b, hμ, hpv⟩ := hptr _ hb'
  have hB := hr.blk id
  rw [hb'] at hB
  obtain ⟨b2, vs, t, hμ2, hrow, hsz, hone, hcell⟩ := hB
  rw [hμ] at hμ2
  obtain ⟨rfl⟩ : b = b2 := by simpa using hμ2
  have hlv : (S'.heap id).live = true := by rw [hb']; rfl
  have hroot : Root μ S'.heap b := ⟨id, 0, hlv, hμ⟩
  have hcg : ∀ i (hi : i < cs.length), ∃ F, GRep w F (vs.getD i Go.undef) cs[i] ∧ ∀ c ∈ F, ¬ Root μ S'.heap c := fun i hi => by
    have := hcell i (by simpa using hi)
    simp only [List.getElem_map] at this
    exact this.g_inv
  have hvs : vs = (cs.map exV).toArray := by
    apply Array.ext
    · simpa using hsz
    · intro i h3 h4
      have hi : i < cs.length := by simpa using h4
      obtain ⟨F, hg, _⟩ := hcg i hi
      have := (hg.exv (hc.ok _ (List.getElem_mem _))).1
      simp only [Array.getD, dif_pos h3, Array.getInternal_eq_getElem] at this
      simpa using this
  subst hvs
  have hrep : ∀ c ∈ cs, ∃ F, GRep w F (exV c) c ∧ ∀ x ∈ F, ¬ Root μ S'.heap x := fun c hm => by
    obtain ⟨i, hi, rfl⟩ := List.getElem_of_mem hm
    obtain ⟨F, hg, hd⟩ := hcg i hi
    have := (hg.exv (hc.ok _ (List.getElem_mem _))).1
    rw [this] at hg
    exact ⟨F, hg, hd⟩
  have hv' : viewL (view S'.heap 6) ps = some gs := by
    rw [← viewL_loc ps (fun q hq => view_loc 6 q fun id' hid' => h2 id' ?_)]; exact hv
    unfold tch; rw [ho]
    refine List.mem_append.2 (.inr (List.mem_append.2 (.inl (List.mem_flatMap.2 ⟨q, ?_, hid'⟩))))
    simp [AState.args, ha, hq]
  obtain ⟨hpl, hvw⟩ := viewL_get hv'
  simp only [List.all_eq_true] at hn
  have hal : (xs.map a.eval).length = gs.length := by
    rw [List.length_map, ← hpl, ← ha', args_len]
  have hrun : (execOp a.eval o).run P w = .ok (.enter fid (Value.pointer (some ⟨b, 0, none⟩) :: xs.map a.eval).toArray) w := by
    have := hc.enter (Value.pointer (some ⟨b, 0, none⟩) :: xs.map a.eval).toArray w
    unfold execOp
    simp only [ho, resolve, hvf, Deferred.ofValue, Sem.run_bind, Sem.run_pure, Result.andThen_ok, invoke, Array.empty_append]
    have e1 : ((p :: xs).toArray.map a.eval ++ ([] : List Value).toArray) = (Value.pointer (some ⟨b, 0, none⟩) :: xs.map a.eval).toArray := by
      rw [← hpv]; simp
    rw [e1, this]
  rw [hrun]
  refine (hc.calls w b t (xs.map a.eval) hal hrow (fun c hm => ?_) (fun i hi => ?_)).mono fun e w' hq => ?_
  · obtain ⟨F, hg, hd⟩ := hrep c hm
    exact ⟨F, hg, fun hb => hd b hb hroot⟩
  · have hxl : (xs.map a.eval).length = xs.length := by simp
    have hix : i < xs.length := by omega
    have hip : i < ps.length := by omega
    have h3 := args_ok (tab := tab) hr xs ts i hix
    have h4 : ((S'.args tab xs ts)[i]'(by rw [args_len]; exact hix)) = ps[i]'hip := by simp only [ha']
    rw [h4] at h3
    obtain ⟨F, hg, hnb⟩ := view_np hr h3 (hn _ (List.getElem_mem hip)) (hvw i hi)
    refine ⟨F, by simpa using hg, fun hbF => ?_⟩
    rcases hnb b hbF with ⟨id2, d2, e2, dp2, xs2, k1, k2⟩ | k1
    · have := hr.inj id2 id b d2 0 (by rw [k1]; rfl) hlv k2 hμ
      rw [this, hb'] at k1; cases k1
    · exact k1 hroot
  · obtain ⟨hgv, t', hrow'⟩ := hq
    obtain ⟨v, F, rfl, g1, g2, g3, g4, hk⟩ := hgv
    have hbl : b < w.heap.size := (hr.base id b 0 hlv hμ).2
    have hmod := hr.mod (w' := { w with heap := w.heap.setIfInBounds b (.cells (cs'.map exV).toArray t' (0, 0)) }) (id := id) (b := b) (d := 0) (B := .box (cs'.map PV.g)) hlv hμ keeps_row (t := ⟨t, false⟩) hrow (vs' := (cs'.map exV).toArray) (t' := ⟨t', false⟩) (by show _ = some (Obj.cells (cs'.map exV).toArray t' (0, 0)); simp only []; rw [Array.getElem?_setIfInBounds_self_of_lt hbl]) (by simp [hc.len]) rfl (fun e dp xs hB => by cases hB) (fun cs2 _ => ⟨_, hb'⟩) (fun hm => by
      refine ⟨b, _, t', hμ, (by simp only []; rw [Array.getElem?_setIfInBounds_self_of_lt hbl]), by simp, fun u hu => ?_, fun i hi => ?_⟩
      · simp only [List.mem_map] at hu
        obtain ⟨c, hm2, rfl⟩ := hu
        rcases hc.sub c hm2 with hat | hmem
        · have := (GRep.atom (w := w) c hat).exv (exOk_atom hat)
          rw [← this.1]; exact this.2
        · obtain ⟨F2, hg, _⟩ := hrep c hmem
          exact (hg.exv (hc.ok c hmem)).2
      · have hi' : i < cs'.length := by simpa using hi
        have e1 : (cs'.map exV).toArray.getD i Go.undef = exV cs'[i] := by simp [Array.getD, hi']
        have e2 : (cs'.map PV.g)[i] = .g cs'[i] := by simp
        rw [e1, e2]
        rcases hc.sub _ (List.getElem_mem hi') with hat | hmem
        · rw [exV_atom hat]
          exact .g _ _ [] (.atom _ hat) (by simp)
        · obtain ⟨F2, hg, hd⟩ := hrep _ hmem
          exact (PRep.g (μ := μ) (h := S'.heap) _ _ F2 hg hd).move hm)
    have hk1 : Keeps [] { w with heap := w.heap.setIfInBounds b (.cells (cs'.map exV).toArray t' (0, 0)) } w' := by
      refine ⟨hk.os, hk.tape, hk.output, by simpa using hk.size, fun k hk2 _ => ?_⟩
      by_cases e : k = b
      · subst e; simp only []; rw [Array.getElem?_setIfInBounds_self_of_lt hbl]; exact hrow'
      · simp only []; rw [Array.getElem?_setIfInBounds_ne (by omega)]; exact hk.block k (by simpa using hk2) (by simpa using e)
    have hne : ∀ i, i < (leavesR r).length → (S'.write id (.box (cs'.map PV.g))).heap (nid + i) = .free := fun i hi => by
      have : nid + i ≠ id := by intro e; have := hfree' i hi; rw [e, hb'] at this; cases this
      simp only [AState.write]; rw [upd_ne _ _ _ this]; exact hfree' i hi
    obtain ⟨v', e', μ', who', r1, r2⟩ := gives_ok hmod nid hlf hne (e := .returned v) (w' := w') ⟨v, F, rfl, g1, g2, g3, (fun b hb => ⟨by simpa using (g4 b hb).1.old rfl, (g4 b hb).2⟩), hk1⟩
    exact ⟨v', e', μ', who', r1, r2⟩
structure NewC (P : Program) (f : FuncId) (gs cs : List GV) : Prop where
  enter : ∀ args w, (callFunc f args).run P w = .ok (.enter f args) w
  ok : ∀ c ∈ cs, exOk c = true
  sub : ∀ c ∈ cs, c.atom = true ∨ c ∈ gs
  calls : ∀ (w : World) (args : List Value) (hl : args.length = gs.length), (∀ i (hi : i < gs.length), ∃ F, GRep w F (args[i]'(hl ▸ hi)) gs[i]) →
    Calls P f args.toArray w fun e w' => ∃ b t, e = .returned (.pointer (some ⟨b, 0, none⟩)) ∧ w.heap.size ≤ b ∧ w'.heap[b]? = some (.cells (cs.map exV).toArray t (0, 0)) ∧ Keeps [] w w'
set_option maxHeartbeats 2000000 in
theorem eff_new {P : Program} {tab : Tab} {S : AState} {o : Oper} {f : Operand} {xs : List Operand} {ts : List TypeId} (ho : o.op = .call { callee := .value f, args := xs.toArray, argTypes := ts.toArray }) {fid : FuncId} (hf : asFn (S.ev tab 0 f) = some (fid, []))
    {cs gs : List GV} {ps : List PV} (ha : S.args tab xs ts = ps) (hv : GL ps gs) (hc : NewC P fid gs cs) {nid : Nat} (hfree : S.heap nid = .free) : EffTo P tab nid o S (.ptr nid 0) [(nid, .box (cs.map PV.g))] := by
  intro S' h1 h2 w0 a w μ who hr
  rw [ho] at h1
  have mf : f ∈ (Op.call { callee := .value f, args := xs.toArray, argTypes := ts.toArray }).operands.toList := by simp [Op.operands, Call.operands]
  have mx : ∀ x ∈ xs, x ∈ (Op.call { callee := .value f, args := xs.toArray, argTypes := ts.toArray }).operands.toList := fun x hx => by simp [Op.operands, Call.operands, hx]
  have hf' : asFn (S'.ev tab 0 f) = some (fid, []) := by rw [← ev_loc (h1 f mf)]; exact hf
  have hag : ∀ (xs : List Operand) (ts : List TypeId), (∀ x ∈ xs, ∀ t, (x = .tmp t ∨ 65536 ≤ t) → S.slots t = S'.slots t) → S'.args tab xs ts = S.args tab xs ts := by
    intro xs
    induction xs with
    | nil => intro ts _; cases ts <;> rfl
    | cons x xs ih =>
      intro ts hx
      cases ts with
      | nil => simp only [AState.args]; rw [ih [] (fun y hy => hx y (.tail _ hy)), ← ev_loc (hx x (.head _))]
      | cons t ts => simp only [AState.args]; rw [ih ts (fun y hy => hx y (.tail _ hy)), ← ev_loc (hx x (.head _))]
  have ha' : S'.args tab xs ts = ps := by rw [hag xs ts (fun x hx => h1 x (mx x hx))]; exact ha
  have hfree' : S'.heap nid = .free := by
    rw [← h2 nid (by unfold tch; exact List.mem_append.2 (.inl (List.mem_map.2 ⟨0, by simp, rfl⟩)))]; exact hfree
  obtain ⟨cvs, hvf, hcl, _⟩ := asFn_inv (hr.ev tab 0 f) hf'
  have hc0 : cvs = [] := List.eq_nil_of_length_eq_zero (by simpa using hcl)
  subst hc0
  have e0 := hv.e
  have hpl : ps.length = gs.length := by rw [e0, List.length_map]
  have hxl : (xs.map a.eval).length = xs.length := by simp
  have hal : (xs.map a.eval).length = gs.length := by rw [List.length_map, ← hpl, ← ha', args_len]
  have hpr : ∀ i (hi : i < gs.length), PRep w μ S'.heap ((xs.map a.eval)[i]'(hal ▸ hi)) (.g gs[i]) := fun i hi => by
    have hix : i < xs.length := by omega
    have hip : i < ps.length := by omega
    have h3 := args_ok (tab := tab) hr xs ts i hix
    have h4 : ((S'.args tab xs ts)[i]'(by rw [args_len]; exact hix)) = .g gs[i] := by simp only [ha', e0, List.getElem_map]
    rw [h4] at h3
    simpa using h3
  have hrun : (execOp a.eval o).run P w = .ok (.enter fid (xs.map a.eval).toArray) w := by
    have := hc.enter (xs.map a.eval).toArray w
    unfold execOp
    simp only [ho, resolve, hvf, Deferred.ofValue, Sem.run_bind, Sem.run_pure, Result.andThen_ok, invoke, Array.empty_append]
    have e1 : (xs.toArray.map a.eval ++ ([] : List Value).toArray) = (xs.map a.eval).toArray := by simp
    rw [e1, this]
  rw [hrun]
  refine (hc.calls w (xs.map a.eval) hal (fun i hi => (hpr i hi).g_inv.imp fun F h => h.1)).mono fun e w' hq => ?_
  obtain ⟨b, t, rfl, hb, hrow, hk⟩ := hq
  have hbl : b < w'.heap.size := lt_of_heap hrow
  have hcell : ∀ c ∈ cs, ∃ F, GRep w F (exV c) c ∧ ∀ x ∈ F, ¬ Root μ S'.heap x := fun c hm => by
    rcases hc.sub c hm with hat | hmem
    · exact ⟨[], by rw [exV_atom hat]; exact .atom _ hat, by simp⟩
    · obtain ⟨i, hi, rfl⟩ := List.getElem_of_mem hmem
      obtain ⟨F, hg, hd⟩ := (hpr i hi).g_inv
      have := (hg.exv (hc.ok _ hm)).1
      rw [this] at hg
      exact ⟨F, hg, hd⟩
  have hnew := hr.new (w' := w') hfree' hk (p := some (b, 0)) (B := .box (cs.map PV.g)) (fun b' d e => by simp at e; obtain ⟨rfl, rfl⟩ := e; exact ⟨hb, hbl⟩) rfl (fun hm => by
    refine ⟨b, _, t, upd_same _ _ _, hrow, by simp, fun u hu => ?_, fun i hi => ?_⟩
    · simp only [List.mem_map] at hu
      obtain ⟨c, hm2, rfl⟩ := hu
      obtain ⟨F, hg, _⟩ := hcell c hm2
      exact (hg.exv (hc.ok c hm2)).2
    · have hi' : i < cs.length := by simpa using hi
      have e1 : (cs.map exV).toArray.getD i Go.undef = exV cs[i] := by simp [Array.getD, hi']
      have e2 : (cs.map PV.g)[i] = .g cs[i] := by simp
      rw [e1, e2]
      obtain ⟨F, hg, hd⟩ := hcell _ (List.getElem_mem hi')
      exact (PRep.g (μ := μ) (h := S'.heap) _ _ F hg hd).move hm)
  exact ⟨_, rfl, _, who, hnew, .ptr _ nid 0 rfl (by simp [AState.writes, writesH, upd_same]) fun cs' _ => ⟨b, upd_same _ _ _, rfl⟩⟩
theorem Con.ex {P : Program} {f : FuncId} {v : Value} {e : Nat} {xs : List GV} {gs : List GV} {r : GV} (h : Con P f (.sl e xs :: gs) r) : Con P f (.ex v e xs :: gs) r :=
  ⟨h.enter, fun w args hl hg => h.calls w args hl fun i hi => by
    cases i with
    | zero =>
      obtain ⟨F, h1⟩ := hg 0 (by simp)
      exact ⟨F, h1.unex.2⟩
    | succ i => exact hg (i + 1) hi⟩
end Go.Proofs.YtachnjinfdagjaaDoor
namespace Go.Proofs.YtachnjinfdagjaaDoor
open Go.RowKit
open Shp
structure CloC (P : Program) (f : FuncId) (g0 : GV) (c1 c2 : List GV) (L : List Int) (q : Int) (L' : List Int) (q' : Int) : Prop where
  enter : ∀ args w, (callFunc f args).run P w = .ok (.enter f args) w
  calls : ∀ {w0 : W0} {S : AState} {a : Act} {w : World} {μ : Lay} {who : Nat → Option Nat}, RelAt w0 S a w μ who → ∀ {iL iA iQ i1 i2 nid : Nat} {dp : Bool} {v0 vL v1 vQ v2 : Value}, (∃ F, GRep w F v0 g0 ∧ ∀ b ∈ F, ¬ Root μ S.heap b) →
    PRep w μ S.heap vL (.ptr iL 0) → PRep w μ S.heap v1 (.ptr i1 0) → PRep w μ S.heap vQ (.ptr iQ 0) → PRep w μ S.heap v2 (.ptr i2 0) →
    S.heap iL = .box [.own iA 0 L.length] → S.heap iA = .arr 1 dp (L.map GV.i) → S.heap iQ = .box [.g (.i q)] → S.heap i1 = .box (c1.map PV.g) → S.heap i2 = .box (c2.map PV.g) → [iL, iA, iQ, i1, i2].Nodup → S.heap nid = .free →
    Calls P f #[v0, vL, v1, vQ, v2] w fun e w' => e = .returned (.tuple #[]) ∧ ∃ μ' who', RelAt w0 (S.writes [(iL, .box [.own nid 0 L'.length]), (iA, .dead), (nid, .arr 1 true (L'.map GV.i)), (iQ, .box [.g (.i q')])]) a w' μ' who'
set_option maxHeartbeats 2000000 in
theorem eff_clo {P : Program} {tab : Tab} {S : AState} {o : Oper} {fo x : Operand} {tx : TypeId} (ho : o.op = .call { callee := .value fo, args := #[x], argTypes := #[tx] }) {fid : FuncId} {iL iA iQ i1 i2 nid : Nat} (hf : S.ev tab 0 fo = .fn fid [.ptr iL 0, .ptr i1 0, .ptr iQ 0, .ptr i2 0]) {g0 : GV} (hx : S.ev tab tx x = .g g0)
    {c1 c2 : List GV} {L L' : List Int} {q q' : Int} {dp : Bool} (hL : S.heap iL = .box [.own iA 0 L.length]) (hA : S.heap iA = .arr 1 dp (L.map GV.i)) (hQ : S.heap iQ = .box [.g (.i q)]) (h1 : S.heap i1 = .box (c1.map PV.g)) (h2 : S.heap i2 = .box (c2.map PV.g)) (hnd : [iL, iA, iQ, i1, i2].Nodup) (hfree : S.heap nid = .free) (hc : CloC P fid g0 c1 c2 L q L' q') :
    EffTo P tab nid o S (.tup []) [(iL, .box [.own nid 0 L'.length]), (iA, .dead), (nid, .arr 1 true (L'.map GV.i)), (iQ, .box [.g (.i q')])] := by
  intro S' g1 g2 w0 a w μ who hr
  rw [ho] at g1
  have hf' : S'.ev tab 0 fo = .fn fid [.ptr iL 0, .ptr i1 0, .ptr iQ 0, .ptr i2 0] := by rw [← ev_loc (g1 fo (by simp [Op.operands, Call.operands]))]; exact hf
  have hx' : S'.ev tab tx x = .g g0 := by rw [← ev_loc (g1 x (by simp [Op.operands, Call.operands]))]; exact hx
  have hin : ∀ id, id ∈ [iL, iA, iQ, i1, i2, nid] → S.heap id = S'.heap id := fun id hid => g2 id (by
    unfold tch; rw [ho]
    simp only [List.mem_cons, List.not_mem_nil, or_false] at hid
    rcases hid with rfl | rfl | rfl | rfl | rfl | rfl
    · refine List.mem_append.2 (.inr (List.mem_append.2 (.inr ?_)))
      simp [hf, asFn, vids]
    · refine List.mem_append.2 (.inr (List.mem_append.2 (.inr ?_)))
      simp [hf, asFn, vids, hL]
    · refine List.mem_append.2 (.inr (List.mem_append.2 (.inr ?_)))
      simp [hf, asFn, vids]
    · refine List.mem_append.2 (.inr (List.mem_append.2 (.inr ?_)))
      simp [hf, asFn, vids]
    · refine List.mem_append.2 (.inr (List.mem_append.2 (.inr ?_)))
      simp [hf, asFn, vids]
    · exact List.mem_append.2 (.inl (List.mem_map.2 ⟨0, by simp, rfl⟩)))
  have kL := hin iL (by simp)
  have kA := hin iA (by simp)
  have kQ := hin iQ (by simp)
  have k1 := hin i1 (by simp)
  have k2 := hin i2 (by simp)
  have kN := hin nid (by simp)
  rw [kL] at hL; rw [kA] at hA; rw [kQ] at hQ; rw [k1] at h1; rw [k2] at h2; rw [kN] at hfree
  obtain ⟨cvs, hvf, hcl, hcv⟩ := asFn_inv (hr.ev tab 0 fo) (show asFn (S'.ev tab 0 fo) = some (fid, _) by rw [hf']; rfl)
  match cvs, hcl, hcv, hvf with
  | [vL, v1, vQ, v2], _, hcv, hvf =>
    have pL := hcv 0 (by simp)
    have p1 := hcv 1 (by simp)
    have pQ := hcv 2 (by simp)
    have p2 := hcv 3 (by simp)
    have px := hr.ev tab tx x
    rw [hx'] at px
    obtain ⟨F, gF, dF⟩ := px.g_inv
    have hrun : (execOp a.eval o).run P w = .ok (.enter fid #[a.eval x, vL, v1, vQ, v2]) w := by
      have := hc.enter #[a.eval x, vL, v1, vQ, v2] w
      unfold execOp
      simp only [ho, resolve, hvf, Deferred.ofValue, Sem.run_bind, Sem.run_pure, Result.andThen_ok, invoke, Array.empty_append]
      have e1 : ((#[x] : Array Operand).map a.eval ++ [vL, v1, vQ, v2].toArray) = #[a.eval x, vL, v1, vQ, v2] := by simp
      rw [e1, this]
    rw [hrun]
    refine (hc.calls hr ⟨F, gF, dF⟩ pL p1 pQ p2 hL hA hQ h1 h2 hnd hfree).mono fun e w' hq => ?_
    obtain ⟨rfl, μ', who', hr'⟩ := hq
    exact ⟨_, rfl, μ', who', hr', .tup [] [] rfl (by simp)⟩
end Go.Proofs.YtachnjinfdagjaaDoor
namespace Go.Proofs.YtachnjinfdagjaaDoor
open Go.RowKit
open Shp
def VB (N : Nat) (v : Value) : Prop := ∀ p n cap, v = .slice (some p) n cap → 0 < cap → p.block < N
inductive SepG (N : Nat) : GV → Prop
  | flat (x : GV) : x.flat = true → SepG N x
  | raw (c : Nat) (v : Value) : SepG N (.raw c v)
  | bd (M e : Nat) (xs : List GV) : M ≤ N → SepG N (.bd M e xs)
  | ex (v : Value) (e : Nat) (xs : List GV) : VB N v → (∀ x ∈ xs, x.flat = true) → SepG N (.ex v e xs)
inductive Sep (N : Nat) : PV → Prop
  | g (x : GV) : SepG N x → Sep N (.g x)
  | undef : Sep N .undef
  | none_ : Sep N .none_
  | nils (e : Nat) : Sep N (.nils e)
  | own (id lo len : Nat) : Sep N (.own id lo len)
  | ptr (id off : Nat) : Sep N (.ptr id off)
  | eptr (id i j : Nat) : Sep N (.eptr id i j)
  | agg (cs : List PV) : (∀ x ∈ cs, Sep N x) → Sep N (.agg cs)
  | tup (cs : List PV) : (∀ x ∈ cs, Sep N x) → Sep N (.tup cs)
  | fn (f : FuncId) (cs : List PV) : (∀ x ∈ cs, Sep N x) → Sep N (.fn f cs)
inductive SepB (N : Nat) : Block → Prop
  | free : SepB N .free
  | dead : SepB N .dead
  | lim (M : Nat) : SepB N (.lim M)
  | box (cs : List PV) : (∀ x ∈ cs, Sep N x) → SepB N (.box cs)
  | deep (e : Nat) (xs : List GV) : SepB N (.arr e true xs)
  | arr (e : Nat) (dp : Bool) (xs : List GV) : (∀ x ∈ xs, SepG N x) → SepB N (.arr e dp xs)
  | hd (v : Value) (e : Nat) (xs : List GV) : SepB N (.hd v e xs)
theorem GRep.sep {N : Nat} {w : World} {F : List Nat} {v : Value} {x : GV} (h : GRep w F v x) (hx : SepG N x) : ∀ b ∈ F, b < N := by
  cases hx with
  | flat _ hf => rw [h.of_flat hf]; simp
  | raw c v =>
    cases h with
    | atom x hx => simp [GV.atom] at hx
    | raw => simp
  | bd M e xs hM =>
    cases h with
    | atom x hx => simp [GV.atom] at hx
    | bd v N' e xs F h1 h2 => exact fun b hb => Nat.lt_of_lt_of_le (h2 b hb) hM
  | ex v0 e xs hv hfl =>
    obtain ⟨e0, h2⟩ := h.unex
    obtain ⟨a, cap, els, Fs, e1, e2, hs⟩ := h2.slice
    have hnil : Fs.flatten = [] := flatten_nils fun k hk => (hs.h k (by rw [← hs.hF]; exact hk)).of_flat (hfl _ (List.getElem_mem _))
    rw [e2, hnil, List.append_nil]
    intro b hb
    obtain ⟨p, hp, hc, rfl⟩ := own_inv hb
    exact hv p xs.length cap (by rw [← e0, e1, hp]) hc
structure Sp (N : Nat) (μ μ' : Lay) (h h' : Nat → Block) : Prop where
  root : ∀ b, b < N → Root μ' h' b → Root μ h b
  free : ∀ id, h' id = .free → h id = .free
  arr : ∀ id e dp xs, h id ≠ .free → h' id = .arr e dp xs → μ' id = μ id ∧ ∃ dp' xs', h id = .arr e dp' xs'
  box : ∀ id cs, h id ≠ .free → h' id = .box cs → μ' id = μ id ∧ h id = .box cs
theorem PRep.sep {N : Nat} {w : World} {μ μ' : Lay} {h h' : Nat → Block} (hm : Sp N μ μ' h h') {v : Value} {x : PV} (hr : PRep w μ h v x) (hx : Sep N x) : PRep w μ' h' v x := by
  induction hr with
  | g v x F hg hd =>
    have h1 : SepG N x := by cases hx; assumption
    exact .g v x F hg fun b hb hr => hd b hb (hm.root b (hg.sep h1 b hb) hr)
  | undef v => exact .undef v
  | none_ => exact .none_
  | nils e he => exact .nils e he
  | own v id lo len h1 hf ho =>
    refine .own v id lo len h1 (fun e => hf (hm.free id e)) fun e dp xs hx => ?_
    obtain ⟨e1, dp', xs', e2⟩ := hm.arr id e dp xs hf hx
    have h3 := ho e dp' xs' e2
    unfold OwnAt at *
    rw [e1]; exact h3
  | ptr v id off h1 hf ho =>
    refine .ptr v id off h1 (fun e => hf (hm.free id e)) fun cs hx => ?_
    obtain ⟨e1, e2⟩ := hm.box id cs hf hx
    rw [e1]; exact ho cs e2
  | eptr v id i j h1 hf ho =>
    refine .eptr v id i j h1 (fun e => hf (hm.free id e)) fun e dp xs hx => ?_
    obtain ⟨e1, dp', xs', e2⟩ := hm.arr id e dp xs hf hx
    rw [e1]; exact ho e dp' xs' e2
  | iptr | glob => cases hx
  | agg vs cs hv h1 he ih =>
    have h2 : ∀ x ∈ cs, Sep N x := by cases hx; assumption
    exact .agg vs cs hv h1 fun i hi => ih i hi (h2 _ (List.getElem_mem _))
  | tup vs cs hv he ih =>
    have h2 : ∀ x ∈ cs, Sep N x := by cases hx; assumption
    exact .tup vs cs hv fun i hi => ih i hi (h2 _ (List.getElem_mem _))
  | fn f vs cs hv he ih =>
    have h2 : ∀ x ∈ cs, Sep N x := by cases hx; assumption
    exact .fn f vs cs hv fun i hi => ih i hi (h2 _ (List.getElem_mem _))
theorem flatten_set_nil {Fs : List (List Nat)} {k b : Nat} (h : b ∈ (Fs.set k []).flatten) : ∃ n, ∃ hn : n < Fs.length, n ≠ k ∧ b ∈ Fs[n] := by
  obtain ⟨n, hn, hb⟩ := mem_flatten_getElem h
  have hn' : n < Fs.length := by simpa using hn
  rw [List.getElem_set] at hb
  split at hb
  · simp at hb
  · exact ⟨n, hn', fun e => by omega, hb⟩
theorem flatten_set_nil_nodup {Fs : List (List Nat)} (k : Nat) (h : Fs.flatten.Nodup) : (Fs.set k []).flatten.Nodup := by
  induction Fs generalizing k with
  | nil => simp
  | cons F Fs ih =>
    rw [List.flatten_cons] at h
    have h' := List.nodup_append.1 h
    cases k with
    | zero => simpa using h'.2.1
    | succ k =>
      simp only [List.set_cons_succ, List.flatten_cons]
      refine List.nodup_append.2 ⟨h'.1, ih k h'.2.1, fun x hx y hy e => ?_⟩
      obtain ⟨n, hn, _, hb⟩ := flatten_set_nil hy
      exact h'.2.2 x hx y (getElem_mem_flatten hn hb) e
theorem flat_apart2 {Fs : List (List Nat)} (h : Fs.flatten.Nodup) {i k : Nat} (hi : i < Fs.length) (hk : k < Fs.length) (hne : i ≠ k) {b : Nat} (hb : b ∈ Fs[k]) : b ∉ Fs[i] := by
  have h2 := (List.pairwise_flatten.1 h).2
  rw [List.pairwise_iff_getElem] at h2
  intro hb'
  rcases Nat.lt_or_gt_of_ne hne with h3 | h3
  · exact h2 i k hi hk h3 b hb' b hb rfl
  · exact h2 k i hk hi h3 b hb b hb' rfl
theorem RelAt.split {w0 : W0} {S : AState} {a : Act} {w : World} {μ : Lay} {who : Nat → Option Nat} (h : RelAt w0 S a w μ who) {id c kk e N : Nat} {xs row : List GV} (hid : S.heap id = .arr 1 true xs) (hk : xs[kk]? = some (.sl e row)) (hc : S.heap c = .free) (hN : N = 0 ∨ (N ≤ w0.w.heap.size ∧ w0.p 70000 = none)) :
    ∃ v, ∀ S' : AState, S'.n = S.n → (∀ t, S'.slots t = .undef ∨ (S'.slots t = S.slots t ∧ Sep N (S.slots t))) → S'.heap id = .arr 1 true (xs.set kk (.raw c v)) → S'.heap c = .hd v e row → (∀ i, i ≠ id → i ≠ c → S'.heap i = S.heap i ∧ SepB N (S.heap i)) → ∃ μ' who', RelAt w0 S' a w μ' who' := by
  have hB := h.blk id
  rw [hid] at hB
  obtain ⟨he1, hB⟩ := hB
  have hkl : kk < xs.length := (List.getElem?_eq_some_iff.1 hk).1
  have hxk : xs[kk] = .sl e row := (List.getElem?_eq_some_iff.1 hk).2
  have hidc : id ≠ c := by rintro rfl; rw [hid] at hc; cases hc
  cases hμ : μ id with
  | none => simp only [hμ] at hB; subst hB; simp at hkl
  | some bd =>
  obtain ⟨b, d⟩ := bd
  simp only [hμ] at hB
  obtain ⟨vs, t, Fs, els, hrow, hr, hnr, hdp⟩ := hB
  obtain ⟨hnd, hwho⟩ := hdp trivial
  have hkF : kk < Fs.length := by rw [hr.fl]; exact hkl
  have hkE : kk < els.length := by rw [hr.len]; exact hkl
  have g0 := hr.el kk hkl
  rw [hxk] at g0
  obtain ⟨ad, cap, els', Fs', e2, e3, hs⟩ := g0.slice
  have hone : (els[kk]'hkE).oneCell' = true := by rw [e2]; rfl
  refine ⟨els[kk]'hkE, fun S' hn hsl hhid hhc ho => ?_⟩
  classical
  have hmid : ∀ p, ad = some p → 0 < cap → ∃ vq tq, p = ⟨p.block, p.off, none⟩ ∧ p.block ∈ Fs[kk]'hkF ∧ w.heap[p.block]? = some (cel vq tq) ∧ p.off + cap * e ≤ vq.size := fun p hp hc0 => by
    subst hp
    obtain ⟨h1, h2⟩ := hs.ad p rfl hc0
    have hin : p.block ∈ Fs[kk]'hkF := by rw [e3]; exact List.mem_append.2 (.inl (mem_own rfl hc0))
    obtain ⟨_, _, vq, tq, hq⟩ := hwho _ (getElem_mem_flatten _ hin)
    have hp2 : p = ⟨p.block, p.off, none⟩ := by obtain ⟨b, o, s⟩ := p; simp only at h1; rw [h1]
    refine ⟨vq, tq, hp2, hin, hq, ?_⟩
    have hce : 0 < cap * e := Nat.mul_pos hc0 hs.he
    have h3 := (hs.rm (cap * e - 1) (by omega)).1
    rw [hp2, sAt_some, cell_of_row w p.block _ _ _ _ hq] at h3
    obtain ⟨u, hu⟩ := Option.isSome_iff_exists.1 h3
    have := (Array.getElem?_eq_some_iff.1 hu).1
    omega
  let lay : Option (Nat × Nat) := match ad with
    | some p => if 0 < cap then some (p.block, p.off) else none
    | none => none
  have hlay : ∀ q o, lay = some (q, o) → ∃ p, ad = some p ∧ 0 < cap ∧ q = p.block ∧ o = p.off := fun q o hq => by
    simp only [lay] at hq
    cases ad with
    | none => cases hq
    | some p =>
      simp only at hq
      split at hq
      · simp only [Option.some.injEq, Prod.mk.injEq] at hq
        exact ⟨p, rfl, by assumption, hq.1.symm, hq.2.symm⟩
      · cases hq
  have hlayn : lay = none → cap = 0 := fun hq => by
    simp only [lay] at hq
    cases ad with
    | none => exact hs.nil rfl
    | some p =>
      simp only at hq
      split at hq
      · cases hq
      · omega
  have hlive : ∀ i, i ≠ c → (S'.heap i).live = (S.heap i).live := fun i hi => by
    by_cases e : i = id
    · subst e; rw [hhid, hid]; rfl
    · rw [(ho i e hi).1]
  have hroot : ∀ x, Root (upd μ c lay) S'.heap x → Root μ S.heap x ∨ (∃ o, lay = some (x, o)) := by
    rintro x ⟨i, d', h1, h2⟩
    by_cases ei : i = c
    · subst ei; rw [upd_same] at h2; exact .inr ⟨d', h2⟩
    · rw [upd_ne _ _ _ ei] at h2; rw [hlive i ei] at h1; exact .inl ⟨i, d', h1, h2⟩
  have hq : ∀ x o, lay = some (x, o) → x ∈ Fs[kk]'hkF ∧ x ∈ Fs.flatten := fun x o hx => by
    obtain ⟨p, hp, hc0, rfl, _⟩ := hlay x o hx
    obtain ⟨_, _, _, hin, _⟩ := hmid p hp hc0
    exact ⟨hin, getElem_mem_flatten _ hin⟩
  have hold : ∀ x, x < N → Root (upd μ c lay) S'.heap x → Root μ S.heap x := fun x hx hrt => (hroot x hrt).elim (fun h => h) fun ⟨o, hxo⟩ => by
    rcases hN with hN | ⟨hN, hp7⟩
    · omega
    · rcases (hwho x (hq x o hxo).2).2.1 with h9 | h9
      · omega
      · rw [hp7] at h9; simp at h9
  have hsp : Sp N μ (upd μ c lay) S.heap S'.heap := by
    refine ⟨hold, fun i hi => ?_, fun i e' dp ys hf hi => ?_, fun i cs hf hi => ?_⟩
    · by_cases ei : i = c
      · subst ei; exact hc
      · by_cases e : i = id
        · subst e; rw [hhid] at hi; cases hi
        · rw [(ho i e ei).1] at hi; exact hi
    · have ei : i ≠ c := by rintro rfl; exact hf hc
      refine ⟨upd_ne _ _ _ ei, ?_⟩
      by_cases e : i = id
      · subst e; rw [hhid] at hi; cases hi; exact ⟨true, xs, hid⟩
      · rw [(ho i e ei).1] at hi; exact ⟨dp, ys, hi⟩
    · have ei : i ≠ c := by rintro rfl; exact hf hc
      refine ⟨upd_ne _ _ _ ei, ?_⟩
      by_cases e : i = id
      · subst e; rw [hhid] at hi; cases hi
      · rw [(ho i e ei).1] at hi; exact hi
  have hsub : ∀ x ∈ Fs'.flatten, x ∈ Fs[kk]'hkF := fun x hx => by rw [e3]; exact List.mem_append.2 (.inr hx)
  have hndk : (Fs[kk]'hkF).Nodup := hnd.sublist (List.sublist_flatten_of_mem (List.getElem_mem _))
  let who' : Nat → Option Nat := fun x => if x ∈ Fs'.flatten then some c else who x
  have hw1 : ∀ x, who x ≠ some id → who' x = who x := fun x hx => by
    simp only [who']
    rw [if_neg fun hm => hx (hwho x (getElem_mem_flatten _ (hsub x hm))).1]
  refine ⟨upd μ c lay, who', by rw [hn]; exact h.size, fun s => ?_, h.dfr, fun i => ?_, fun i j x d1 d2 hi hj ei ej => ?_, fun i x d1 hi ei => ?_, h.keep, fun s x hp hx => ?_, fun s v hv ht => by rw [hn]; exact h.old.2 s v hv ht⟩
  · rcases hsl s with e | ⟨e, hsep⟩
    · rw [e]; exact .undef _
    · rw [e]; exact (h.slot s).sep hsp hsep
  · by_cases ei : i = c
    · subst ei
      rw [hhc]
      refine ⟨hs.he, hone, ?_, ?_⟩
      · unfold OwnAt
        rw [upd_same]
        cases hl : lay with
        | none =>
          have h0 := hlayn hl
          have := hs.le
          simp only
          refine ⟨⟨ad, ?_⟩, by first | trivial | rfl, by omega⟩
          rw [e2, h0, show row.length = 0 by omega]
        | some qo =>
          obtain ⟨q, o⟩ := qo
          obtain ⟨p, hp, hc0, rfl, rfl⟩ := hlay q o hl
          obtain ⟨vq, tq, hp2, _, hq1, hq2⟩ := hmid p hp hc0
          show ∃ cap o, _
          exact ⟨cap, p.off, by rw [e2, hp, ← hp2], hs.le, hs.max, vq, tq, hq1, fun _ => by simp, hq2⟩
      · rw [upd_same]
        cases hl : lay with
        | none =>
          have h0 := hlayn hl
          have := hs.le
          simp only
          exact List.eq_nil_of_length_eq_zero (by omega)
        | some qo =>
          obtain ⟨q, o⟩ := qo
          obtain ⟨p, hp, hc0, rfl, rfl⟩ := hlay q o hl
          obtain ⟨vq, tq, hp2, hin, hq1, hq2⟩ := hmid p hp hc0
          simp only
          have hfit : row.length * e ≤ cap * e := Nat.mul_le_mul_right _ hs.le
          refine ⟨vq, tq, Fs', els', hq1, rowRep_new hs.he hs.hv hs.hF hs.sizes (fun v hv' => ?_) hs.nc hs.h (by omega) (fun j hj => ?_), fun x hx hrt => ?_, ?_, fun x hx => ⟨by simp only [who']; rw [if_pos hx], (hwho x (getElem_mem_flatten _ (hsub x hx))).2⟩⟩
          · obtain ⟨j, hj, rfl⟩ := List.getElem_of_mem hv'; exact (hs.hc j hj).2.1
          · have h9 := hs.cells hp j _ (List.getElem?_eq_getElem hj)
            rw [hp2, Addr.add_mid, cell_of_row w p.block _ _ _ _ hq1] at h9
            rw [h9, List.getElem?_eq_getElem hj]
          · rw [← hl] at hrt
            rcases hroot x hrt with h5 | ⟨o', h5⟩
            · exact hnr x (getElem_mem_flatten _ (hsub x hx)) h5
            · rw [hl] at h5
              simp only [Option.some.injEq, Prod.mk.injEq] at h5
              rw [e3] at hndk
              exact (List.nodup_append.1 hndk).2.2 _ (mem_own hp hc0) _ hx h5.1
          · rw [e3] at hndk; exact (List.nodup_append.1 hndk).2.1
    · by_cases e : i = id
      · subst e
        rw [hhid]
        refine ⟨he1, ?_⟩
        rw [upd_ne _ _ _ ei]
        simp only [hμ]
        refine ⟨vs, t, Fs.set kk [], els, hrow, ⟨by simp [hr.len], by simp [hr.fl], by simpa using hr.fit, fun n hn' => ?_, fun n hn' => ?_, hr.sz, hr.cell⟩, fun x hx hrt => ?_, fun _ => ⟨flatten_set_nil_nodup kk hnd, fun x hx => ?_⟩⟩
        · rw [List.getElem_set]; split
          · rfl
          · exact hr.nc n (by simpa using hn')
        · have hn2 : n < xs.length := by simpa using hn'
          simp only [List.getElem_set]
          by_cases en : kk = n
          · subst en
            rw [if_pos rfl, if_pos rfl]
            exact .raw c _ hone
          · rw [if_neg en, if_neg en]; exact hr.el n hn2
        · obtain ⟨n, hn', hne, hb⟩ := flatten_set_nil hx
          rcases hroot x hrt with h5 | ⟨o', h5⟩
          · exact hnr x (getElem_mem_flatten _ hb) h5
          · exact flat_apart2 hnd hn' hkF hne (hq x o' h5).1 hb
        · obtain ⟨n, hn', hne, hb⟩ := flatten_set_nil hx
          have h5 : x ∉ Fs'.flatten := fun hm => flat_apart2 hnd hn' hkF hne (hsub x hm) hb
          simp only [who']
          rw [if_neg h5]
          exact hwho x (getElem_mem_flatten _ hb)
      · obtain ⟨h3, h4⟩ := ho i e ei
        rw [h3]
        have hb := h.blk i
        have hdeep : ∀ {Gs : List (List Nat)}, (∀ x ∈ Gs.flatten, ¬ Root μ S.heap x) → (∀ x ∈ Gs.flatten, who x = some i ∧ NewB w0 w x) → (∀ x ∈ Gs.flatten, ¬ Root (upd μ c lay) S'.heap x) ∧ ∀ x ∈ Gs.flatten, who' x = some i ∧ NewB w0 w x := fun {Gs} h7 h8 => by
          refine ⟨fun x hx hrt => ?_, fun x hx => ?_⟩
          · rcases hroot x hrt with h5 | ⟨o', h5⟩
            · exact h7 x hx h5
            · have h9 := (hwho x (hq x o' h5).2).1
              rw [(h8 x hx).1] at h9
              exact e (Option.some.inj h9)
          · rw [hw1 x (by rw [(h8 x hx).1]; intro h9; exact e (Option.some.inj h9))]
            exact h8 x hx
        revert hb h4
        cases hBi : S.heap i with
        | free => intros; trivial
        | dead => intros; trivial
        | lim M => intro _ hb; exact ⟨hb.1, by rw [upd_ne _ _ _ ei]; exact hb.2⟩
        | box cs =>
          intro h4 hb
          obtain ⟨x, us, t', h5, h6, h7, h8, h9⟩ := hb
          have h10 : ∀ x ∈ cs, Sep N x := by cases h4; assumption
          exact ⟨x, us, t', by rw [upd_ne _ _ _ ei]; exact h5, h6, h7, h8, fun n hn' => (h9 n hn').sep hsp (h10 _ (List.getElem_mem _))⟩
        | arr e' dp ys =>
          intro h4 hb
          obtain ⟨he', hb⟩ := hb
          refine ⟨he', ?_⟩
          rw [upd_ne _ _ _ ei]
          cases hμi : μ i with
          | none => simpa only [hμi] using hb
          | some cd =>
            obtain ⟨x, d'⟩ := cd
            simp only [hμi] at hb ⊢
            obtain ⟨us, t', Gs, els2, h5, h6, h7, h8⟩ := hb
            cases h4 with
            | deep =>
              obtain ⟨k1, k2⟩ := hdeep h7 (h8 rfl).2
              exact ⟨us, t', Gs, els2, h5, h6, k1, fun _ => ⟨(h8 rfl).1, k2⟩⟩
            | arr _ _ _ hno =>
              refine ⟨us, t', Gs, els2, h5, h6, fun z hz hrt => ?_, fun hd => ⟨(h8 hd).1, (hdeep h7 (h8 hd).2).2⟩⟩
              obtain ⟨n, hn', hz'⟩ := mem_flatten_getElem hz
              have hn2 : n < ys.length := by rw [← h6.fl]; exact hn'
              exact h7 z hz (hold z ((h6.el n hn2).sep (hno _ (List.getElem_mem _)) z hz') hrt)
        | hd v' e' ys =>
          intro h4 hb
          obtain ⟨he', hv', hoa, hb⟩ := hb
          refine ⟨he', hv', ?_, ?_⟩
          · unfold OwnAt at *; rw [upd_ne _ _ _ ei]; exact hoa
          rw [upd_ne _ _ _ ei]
          cases hμi : μ i with
          | none => simpa only [hμi] using hb
          | some cd =>
            obtain ⟨x, d'⟩ := cd
            simp only [hμi] at hb ⊢
            obtain ⟨us, t', Gs, els2, h5, h6, h7, h8, h9⟩ := hb
            obtain ⟨k1, k2⟩ := hdeep h7 h9
            exact ⟨us, t', Gs, els2, h5, h6, k1, h8, k2⟩
  · by_cases ci : i = c
    · by_cases cj : j = c
      · rw [ci, cj]
      · subst ci
        rw [upd_same] at ei
        rw [upd_ne _ _ _ cj] at ej
        rw [hlive j cj] at hj
        exact absurd ⟨j, d2, hj, ej⟩ (hnr x (hq x d1 ei).2)
    · by_cases cj : j = c
      · subst cj
        rw [upd_same] at ej
        rw [upd_ne _ _ _ ci] at ei
        rw [hlive i ci] at hi
        exact absurd ⟨i, d1, hi, ei⟩ (hnr x (hq x d2 ej).2)
      · rw [upd_ne _ _ _ ci] at ei
        rw [upd_ne _ _ _ cj] at ej
        exact h.inj i j x d1 d2 (by rw [← hlive i ci]; exact hi) (by rw [← hlive j cj]; exact hj) ei ej
  · by_cases ci : i = c
    · subst ci
      rw [upd_same] at ei
      have h9 := (hwho x (hq x d1 ei).2).2
      exact ⟨.inl h9.1, h9.2.lt⟩
    · rw [upd_ne _ _ _ ci] at ei
      have hb := h.base i x d1 (by rw [← hlive i ci]; exact hi) ei
      refine ⟨?_, hb.2⟩
      by_cases e : i = id
      · subst e; rw [hhid]; exact .inl (hb.1.arr hid)
      · rw [(ho i e ci).1]; exact hb.1
  · rcases hsl s with e | ⟨e, _⟩
    · rw [e] at hx; cases hx
    · rw [e] at hx; exact h.old.1 s x (by rw [← hn]; exact hp) hx
end Go.Proofs.YtachnjinfdagjaaDoor
namespace Go.Proofs.YtachnjinfdagjaaDoor
open Go.RowKit
open Shp
theorem RelAt.open_ {w0 : W0} {S : AState} {a : Act} {w : World} {μ : Lay} {who : Nat → Option Nat} (h : RelAt w0 S a w μ who) {c m e : Nat} {v : Value} {xs : List GV} (hc : S.heap c = .hd v e xs) (hm0 : S.heap m = .free) :
    ∃ who', RelAt w0 ((S.write c .dead).write m (.arr e true xs)) a w (upd μ m (μ c)) who' ∧ PRep w (upd μ m (μ c)) ((S.write c .dead).write m (.arr e true xs)).heap v (.own m 0 xs.length) ∧ Move w w μ (upd μ m (μ c)) S.heap ((S.write c .dead).write m (.arr e true xs)).heap := by
  have hne : c ≠ m := by rintro rfl; rw [hc] at hm0; cases hm0
  have hlv : (S.heap c).live = true := by rw [hc]; rfl
  have e1 : ((S.write c .dead).write m (.arr e true xs)).heap m = .arr e true xs := by simp only [AState.write]; rw [upd_same]
  have e2 : ((S.write c .dead).write m (.arr e true xs)).heap c = .dead := by simp only [AState.write]; rw [upd_ne _ _ _ hne, upd_same]
  have e3 : ∀ j, j ≠ c → j ≠ m → ((S.write c .dead).write m (.arr e true xs)).heap j = S.heap j := fun j h1 h2 => by
    simp only [AState.write]; rw [upd_ne _ _ _ h2, upd_ne _ _ _ h1]
  have hroot : ∀ b, Root (upd μ m (μ c)) ((S.write c .dead).write m (.arr e true xs)).heap b → Root μ S.heap b := by
    rintro b ⟨j, d, h1, h2⟩
    by_cases hj : j = m
    · subst hj; rw [upd_same] at h2; exact ⟨c, d, hlv, h2⟩
    · rw [upd_ne _ _ _ hj] at h2
      by_cases hj2 : j = c
      · subst hj2; rw [e2] at h1; cases h1
      · rw [e3 j hj2 hj] at h1; exact ⟨j, d, h1, h2⟩
  have hm : Move w w μ (upd μ m (μ c)) S.heap ((S.write c .dead).write m (.arr e true xs)).heap := by
    refine ⟨fun b hb hr => ⟨rfl, fun hr' => hr (hroot b hr')⟩, fun i b d h1 h2 h3 h4 vs t hw => ⟨vs, t, hw, rfl⟩, fun i hi => ?_, fun i e dp' xs' hf hi => ?_, fun i cs hf hi => ?_⟩
    · by_cases h1 : i = m
      · subst h1; exact hm0
      · by_cases h2 : i = c
        · subst h2; rw [e2] at hi; cases hi
        · rw [e3 i h2 h1] at hi; exact hi
    · by_cases h1 : i = m
      · subst h1; exact absurd hm0 hf
      · by_cases h2 : i = c
        · subst h2; rw [e2] at hi; cases hi
        · rw [e3 i h2 h1] at hi; exact ⟨upd_ne _ _ _ h1, dp', xs', hi⟩
    · by_cases h1 : i = m
      · subst h1; rw [e1] at hi; cases hi
      · by_cases h2 : i = c
        · subst h2; rw [e2] at hi; cases hi
        · rw [e3 i h2 h1] at hi; exact ⟨upd_ne _ _ _ h1, cs, hi⟩
  have hB := h.blk c
  rw [hc] at hB
  obtain ⟨he, hone, hoa, hB⟩ := hB
  refine ⟨fun b => if who b = some c then some m else who b, h.step [m, c] rfl rfl hm h.keep (fun j hj => ?_) (fun j hj => ?_) (fun b j _ hj _ hb => ?_) (Nat.le_refl _), ?_, hm⟩
  · simp only [List.mem_cons, List.not_mem_nil, or_false, not_or] at hj
    exact ⟨e3 j hj.2 hj.1, fun hl => ⟨upd_ne _ _ _ hj.1, fun b d hb => rfl⟩⟩
  · simp only [List.mem_cons, List.not_mem_nil, or_false] at hj
    rcases hj with rfl | rfl
    · rw [e1]
      refine ⟨?_, fun _ b d hb => ?_⟩
      · refine ⟨he, ?_⟩
        rw [upd_same]
        cases hμ : μ c with
        | none => rw [hμ] at hB; exact hB
        | some bd =>
          obtain ⟨b, d⟩ := bd
          rw [hμ] at hB
          obtain ⟨vs, t, Fs, els, h1, h2, h3, h4, h5⟩ := hB
          obtain ⟨h6, h7⟩ := h2.move hm h3
          exact ⟨vs, t, Fs, els, h1, h6, (by rw [hμ] at h7; exact h7), fun _ => ⟨h4, fun x hx => ⟨by simp only; rw [if_pos (h5 x hx).1], (h5 x hx).2⟩⟩⟩
      · rw [upd_same] at hb
        have hb' := h.base c b d hlv hb
        refine ⟨fun i d' hi hli hi' => hi (by have := h.inj i c b d' d hli hlv hi' hb; subst this; simp), fun i d' hi hli hi' => ?_, ?_, hb'.2⟩
        · simp only [List.mem_cons, List.not_mem_nil, or_false] at hi
          rcases hi with rfl | rfl
          · rfl
          · rw [e2] at hli; cases hli
        · exact hb'.1.kind (by rw [hc]; rintro ⟨cs, hc⟩; cases hc)
    · rw [e2]; exact ⟨trivial, fun hl => by cases hl⟩
  · simp only [List.mem_cons, List.not_mem_nil, or_false, not_or] at hj
    show (if who b = some c then some m else who b) = some j
    rw [if_neg (by rw [hb]; intro e; exact hj.2 (Option.some.inj e))]; exact hb
  · refine .own _ m 0 _ hone (by rw [e1]; simp) fun e' dp' xs' hx => ?_
    rw [e1] at hx
    cases hx
    unfold OwnAt at hoa ⊢
    rw [upd_same]
    exact hoa
theorem srcE_keep {h h' : Nat → Block} {e : Nat} {p : PV} {r : List GV × List Nat × Bool} (hs : srcE h e p = some r) (hk : ∀ id e dp xs, h id = .arr e dp xs → h' id = .arr e dp xs) : srcE h' e p = some r ∧ ∀ id ∈ r.2.1, ∃ e dp xs, h id = .arr e dp xs := by
  cases p with
  | own id lo len =>
    simp only [srcE] at hs ⊢
    cases hid : h id with
    | arr e' dp ys =>
      rw [hk id _ _ _ hid]
      rw [hid] at hs
      simp only at hs ⊢
      split at hs
      · split at hs
        · simp only [Option.some.injEq] at hs; subst hs
          rename_i h1 h2
          rw [if_pos h1, if_pos h2]; exact ⟨rfl, by simp⟩
        · simp only [Option.some.injEq] at hs; subst hs
          rename_i h1 h2
          rw [if_pos h1, if_neg h2]; exact ⟨rfl, fun i hi => by simp at hi; subst hi; exact ⟨_, _, _, hid⟩⟩
      · cases hs
    | _ => rw [hid] at hs; cases hs
  | g v =>
    cases v with
    | sl e' ys =>
      simp only [srcE] at hs ⊢
      refine ⟨hs, ?_⟩
      split at hs
      · simp only [Option.some.injEq] at hs; subst hs; simp
      · cases hs
    | _ => simp [srcE] at hs
  | nils e' => simp only [srcE, Option.some.injEq] at hs ⊢; subst hs; exact ⟨rfl, by simp⟩
  | _ => simp [srcE] at hs
theorem raw_val {w : World} {μ : Lay} {h : Nat → Block} {v u : Value} {c : Nat} (hv : PRep w μ h u (.g (.raw c v))) : u = v := by
  obtain ⟨F, hg, _⟩ := hv.g_inv
  cases hg with
  | atom x hx => simp [GV.atom] at hx
  | raw => rfl
set_option maxHeartbeats 1000000 in
theorem eff_appR {P : Program} {tab : Tab} (ht : TabOk P tab) {S : AState} {o : Oper} {t : TypeId} {x y : Operand} (ho : o.op = .call { callee := .builtin .append, args := #[x, y], argTypes := #[t, t] }) {c nid e : Nat} {v : Value} {xs : List GV} (hx : S.ev tab t x = .g (.raw c v)) (hc : S.heap c = .hd v e xs) {E : TypeId} (hE : elemTy tab t = some (E, e)) (he : 0 < e)
    {ys : List GV} {ks2 : List Nat} {d2 : Bool} (hy : srcE S.heap e (S.ev tab t y) = some (ys, ks2, d2)) (hn : S.heap nid = .free) (hn1 : S.heap (nid + 1) = .free) (hlen : xs.length + ys.length ≤ 1099511627776) :
    EffTo P tab nid o S (.own nid 0 (xs.length + ys.length)) (kills ks2 ++ [(c, .dead), (nid + 1, .dead), (nid, .arr e d2 (xs ++ ys))]) := by
  intro S' h1 h2 w0 a w μ who hr
  rw [ho] at h1
  have mx : x ∈ (Op.call { callee := .builtin .append, args := #[x, y], argTypes := #[t, t] }).operands.toList := by simp [Op.operands, Call.operands]
  have my : y ∈ (Op.call { callee := .builtin .append, args := #[x, y], argTypes := #[t, t] }).operands.toList := by simp [Op.operands, Call.operands]
  have hx' : S'.ev tab t x = .g (.raw c v) := by rw [← ev_loc (h1 x mx)]; exact hx
  have hin : ∀ (z : Operand), z ∈ (Op.call { callee := .builtin .append, args := #[x, y], argTypes := #[t, t] }).operands.toList → ∀ id ∈ dids1 (S.ev tab t z), S.heap id = S'.heap id := fun z hz id hid => h2 id (by
    unfold tch
    rw [ho]
    refine List.mem_append.2 (.inr ?_)
    simp only [List.mem_flatMap]
    exact ⟨z, hz, ev_dids id hid⟩)
  have hc' : S'.heap c = .hd v e xs := by rw [← hin x mx c (by rw [hx]; simp [dids1])]; exact hc
  have hfr : ∀ k, k < 8 → S.heap (nid + k) = S'.heap (nid + k) := fun k hk => h2 _ (by
    unfold tch
    exact List.mem_append.2 (.inl (List.mem_map.2 ⟨k, by simpa using hk, rfl⟩)))
  have hn' : S'.heap nid = .free := by have := hfr 0 (by omega); simp only [Nat.add_zero] at this; rw [← this]; exact hn
  have hn1' : S'.heap (nid + 1) = .free := by rw [← hfr 1 (by omega)]; exact hn1
  have hy' : srcE S'.heap e (S'.ev tab t y) = some (ys, ks2, d2) := by
    rw [← ev_loc (h1 y my), ← srcE_loc (h := S.heap) (h' := S'.heap) (hin y my)]; exact hy
  have px := hr.ev tab t x
  have py := hr.ev tab t y
  rw [hx'] at px
  have ex := raw_val px
  obtain ⟨who1, r1, p1, hmv⟩ := hr.open_ hc' hn1'
  have hcm : c ≠ nid + 1 := by rintro rfl; rw [hc'] at hn1'; cases hn1'
  have hcn : c ≠ nid := by rintro rfl; rw [hc'] at hn'; cases hn'
  have hk1 : ∀ id e' dp zs, S'.heap id = .arr e' dp zs → ((S'.write c .dead).write (nid + 1) (.arr e true xs)).heap id = .arr e' dp zs := fun id e' dp zs hid => by
    have a1 : id ≠ c := by rintro rfl; rw [hc'] at hid; cases hid
    have a2 : id ≠ nid + 1 := by rintro rfl; rw [hn1'] at hid; cases hid
    simp only [AState.write]; rw [upd_ne _ _ _ a2, upd_ne _ _ _ a1]; exact hid
  obtain ⟨hy2, hks⟩ := srcE_keep hy' hk1
  have hmk : nid + 1 ∉ ks2 := fun hm => by
    obtain ⟨_, _, _, h9⟩ := hks _ hm
    rw [hn1'] at h9; cases h9
  have hS1n : ((S'.write c .dead).write (nid + 1) (.arr e true xs)).heap nid = .free := by
    simp only [AState.write]; rw [upd_ne _ _ _ (by omega), upd_ne _ _ _ hcn.symm]; exact hn'
  have hd1 : dstE (killL ((S'.write c .dead).write (nid + 1) (.arr e true xs)).heap ks2) e (.own (nid + 1) 0 xs.length) = some (xs, [nid + 1], true) := by
    simp only [dstE]
    rw [killL_ne hmk]
    simp [AState.write, upd_same]
  obtain ⟨i, z, hok⟩ := elemTy_ok ht hE he
  rw [← ex] at p1
  obtain ⟨v', w', μ', who', q0, q1, q2⟩ := append_ok hok r1 hS1n o.type p1 (py.move hmv) hy2 hd1 hlen
  have hexec : (execOp a.eval o).run P w = .ok (.value v') w' := by
    unfold execOp
    simp only [ho, resolve, invoke, builtin, Sem.run_bind, Sem.run_pure, Result.andThen_ok, List.map_toArray, List.map_cons, List.map_nil, q0]
  rw [hexec]
  have hst : (((((S'.write c .dead).write (nid + 1) (.arr e true xs)).kill ks2).kill [nid + 1]).write nid (.arr e (true && d2) (xs ++ ys))) = S'.writes (kills ks2 ++ [(c, .dead), (nid + 1, .dead), (nid, .arr e d2 (xs ++ ys))]) := by
    rw [AState.writes_app, AState.writes_kills]
    refine AState.ext' rfl (fun _ => rfl) (fun id => ?_) rfl
    simp only [AState.writes, writesH, AState.write, AState.kill, killL, Bool.true_and]
    by_cases a1 : id = nid
    · subst a1; rw [upd_same, upd_same]
    · rw [upd_ne _ _ _ a1, upd_ne _ _ _ a1]
      by_cases a2 : id = nid + 1
      · subst a2; rw [upd_same, upd_same]
      · rw [upd_ne _ _ _ a2, upd_ne _ _ _ a2]
        by_cases a3 : id = c
        · subst a3
          rw [upd_same]
          by_cases a4 : id ∈ ks2
          · obtain ⟨_, _, _, h9⟩ := hks _ a4
            rw [hc'] at h9; cases h9
          · rw [killL_ne a4, upd_ne _ _ _ a2, upd_same]
        · rw [upd_ne _ _ _ a3]
          exact killL_loc (by rw [upd_ne _ _ _ a2, upd_ne _ _ _ a3])
  rw [← hst]
  rw [List.length_append] at q2
  exact ⟨μ', who', q1, q2⟩
end Go.Proofs.YtachnjinfdagjaaDoor

