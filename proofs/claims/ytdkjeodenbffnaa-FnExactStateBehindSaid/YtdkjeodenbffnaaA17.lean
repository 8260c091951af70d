/- Abstract states: all operations together; a region in the order of the text. Over any program; the table is right ('TabOk'). -/
import Derived.Test.YtdkjeodenbffnaaAM
import Derived.Test.YtdkjeodenbffnaaAE
namespace Go.Proofs.Ytdkjeodenbffnaa
open Go.RowKit
open Shp

/-- A builtin function. -/
def aCall (tab : Tab) (nid : Nat) (c : Call) (S : AState) : Option (PV × List (Nat × Block)) :=
  match c.callee, c.args.toList, c.argTypes.toList with
  | .builtin .len, [x], [t] => aLen tab S.heap t (S.ev tab 0 x)
  | .builtin .append, [x, y], [t, t'] => if t = t' then aApp tab nid S.heap t (S.ev tab t x) (S.ev tab t y) else none
  | .builtin .max, [x, y], _ => aMM true (S.ev tab 0 x) (S.ev tab 0 y)
  | .builtin .min, [x, y], _ => aMM false (S.ev tab 0 x) (S.ev tab 0 y)
  | _, _, _ => none

/-- An operation that is no call of a Go function. -/
def aOp (tab : Tab) (nid : Nat) (o : Oper) (S : AState) : Option (PV × List (Nat × Block)) :=
  match o.op with
  | .move x => some (S.ev tab o.type x, [])
  | .assign x => some (S.ev tab o.type x, [])
  | .pick c x y => aPick (S.ev tab 0 c) (S.ev tab o.type x) (S.ev tab o.type y)
  | .alloc elem => aAlloc tab nid S.heap elem
  | .box elem x => aBox tab nid S.heap elem (S.ev tab elem x)
  | .build t parts => match tab t with
    | some ti => aBuild tab t (parts.toList.map fun (i, x) => (i, S.ev tab (partTy ti i) x))
    | none => none
  | .buildSlice t len parts => match elemTy tab t with
    | some (E, _) => aLit tab nid S.heap t len (parts.toList.map (·.1)) (parts.toList.map fun (_, x) => S.ev tab E x)
    | none => none
  | .load t x => aLoad tab S.heap t (S.ev tab 0 x)
  | .store t x y => aStore tab nid S.heap t (S.ev tab 0 x) (S.ev tab t y)
  | .nilCheck x => aNil S.heap (S.ev tab 0 x)
  | .binOp op t x y _ => aBinF tab op t (S.ev tab 0 x) (S.ev tab 0 y)
  | .unOp op _ x => aUn op (S.ev tab 0 x)
  | .convert src dst x => aConv tab src dst (S.ev tab 0 x)
  | .makeFunc fn first caps => match fn with
    | .func f => if first.toList = [] then some (.fn f (caps.toList.map (S.ev tab 0)), []) else none
    | _ => none
  | .makeSlice t l c => aMakeE tab nid S.heap t (S.ev tab 0 l) (S.ev tab 0 c)
  | .slice t x lo hi mx => match mx with
    | none => aSlice tab S.heap t (S.ev tab 0 x) (lo.map (S.ev tab 0)) (hi.map (S.ev tab 0))
    | some _ => none
  | .fieldAddr s x f => aField tab S.heap s (S.ev tab 0 x) f
  | .field t x f => aPart tab t (S.ev tab 0 x) f
  | .indexAddr t x i => aIndex tab S.heap t (S.ev tab 0 x) (S.ev tab 0 i)
  | .index t x i => aIdx tab t (S.ev tab 0 x) (S.ev tab 0 i)
  | .extract x i => aExtract i (S.ev tab 0 x)
  | .call c => aCall tab nid c S
  | _ => none

theorem op_ok {P : Program} {tab : Tab} {w0 : World} {S : AState} {a : Act} {w : World} {μ : Lay} {who : Nat → Option Nat} (ht : TabOk P tab) (h : RelAt w0 S a w μ who) {o : Oper} {nid : Nat} {pv : PV} {ws : List (Nat × Block)} (hx : aOp tab nid o S = some (pv, ws)) :
    Does P w0 a (S.writes ws) pv ((execOp a.eval o).run P w) := by
  unfold aOp at hx
  split at hx
  · rename_i x ho
    simp only [Option.some.injEq, Prod.mk.injEq] at hx; obtain ⟨rfl, rfl⟩ := hx
    exact op_move h (.inl ho)
  · rename_i x ho
    simp only [Option.some.injEq, Prod.mk.injEq] at hx; obtain ⟨rfl, rfl⟩ := hx
    exact op_move h (.inr ho)
  · exact op_pick h (by assumption) hx
  · exact op_alloc ht h (by assumption) hx
  · exact op_box h (by assumption) hx
  · split at hx
    · exact op_build ht h (by assumption) (by assumption) hx
    · cases hx
  · split at hx
    · exact op_lit ht h (by assumption) (by assumption) hx
    · cases hx
  · exact op_load ht h (by assumption) hx
  · exact op_store ht h (by assumption) hx
  · exact op_nil h (by assumption) hx
  · exact op_binF ht h (by assumption) hx
  · exact op_un h (by assumption) hx
  · exact op_conv ht h (by assumption) hx
  · rename_i fn first caps ho
    split at hx
    · rename_i f
      split at hx
      · rename_i hf
        simp only [Option.some.injEq, Prod.mk.injEq] at hx; obtain ⟨rfl, rfl⟩ := hx
        have : first = #[] := Array.ext' hf
        subst this
        exact op_makeFunc h ho
      · cases hx
    · cases hx
  · exact op_makeE ht h (by assumption) hx
  · split at hx
    · exact op_slice ht h (by assumption) hx
    · cases hx
  · exact op_fieldAddr ht h (by assumption) hx
  · exact op_field ht h (by assumption) hx
  · exact op_index ht h (by assumption) hx
  · exact op_idx ht h (by assumption) hx
  · exact op_extract h (by assumption) hx
  · rename_i c ho
    obtain ⟨callee, args, tys⟩ := c
    unfold aCall at hx
    simp only at hx
    split at hx
    · rename_i x t h1 h2
      have e1 : args = #[x] := Array.ext' h1
      have e2 : tys = #[t] := Array.ext' h2
      subst e1; subst e2
      exact op_len ht h ho hx
    · rename_i x y t t' h1 h2
      have e1 : args = #[x, y] := Array.ext' h1
      have e2 : tys = #[t, t'] := Array.ext' h2
      subst e1; subst e2
      split at hx
      · rename_i e; subst e; exact op_append ht h ho hx
      · cases hx
    · rename_i x y h1
      have e1 : args = #[x, y] := Array.ext' h1
      subst e1
      exact op_max h ho hx
    · rename_i x y h1
      have e1 : args = #[x, y] := Array.ext' h1
      subst e1
      exact op_min h ho hx
    · cases hx
  · cases hx

/-- A call of a Go function, by its contract. -/
def CallTo (P : Program) (tab : Tab) (nid : Nat) (o : Oper) (S : AState) (pv : PV) (ws : List (Nat × Block)) : Prop :=
  match o.op with
  | .call { callee := .value f, args := args, argTypes := tys } => ∃ fid caps, asFn (S.ev tab 0 f) = some (fid, caps) ∧ ∃ gs, viewL (view S.heap 6) (S.args tab args.toList tys.toList ++ caps) = some gs ∧ ∃ r, Con P fid gs r ∧ (leavesR r).all GV.leaf = true ∧ (leavesR r).length ≤ 8 ∧
      ((List.range (leavesR r).length).all fun i => isFree (S.heap (nid + i))) = true ∧ pv = thawR nid r ∧ ws = thawW nid (leavesR r)
  | _ => False

def StepsTo (P : Program) (tab : Tab) (nid : Nat) (o : Oper) (S : AState) (pv : PV) (ws : List (Nat × Block)) : Prop := aOp tab nid o S = some (pv, ws) ∨ CallTo P tab nid o S pv ws

theorem steps_ok {P : Program} {tab : Tab} {w0 : World} {S : AState} {a : Act} {w : World} {μ : Lay} {who : Nat → Option Nat} (ht : TabOk P tab) (h : RelAt w0 S a w μ who) {o : Oper} {nid : Nat} {pv : PV} {ws : List (Nat × Block)} (hx : StepsTo P tab nid o S pv ws) :
    Does P w0 a (S.writes ws) pv ((execOp a.eval o).run P w) := by
  rcases hx with hx | hx
  · exact op_ok ht h hx
  · unfold CallTo at hx
    split at hx
    · rename_i f args tys ho
      obtain ⟨fid, caps, h1, gs, h2, r, h3, h4, _, h5, rfl, rfl⟩ := hx
      refine op_call h ho h1 h2 h3 h4 fun i hi => ?_
      simp only [List.all_eq_true, List.mem_range] at h5
      exact isFree_iff (h5 i hi)
    · exact hx.elim

/-- Is the operation wanted? -/
def wantA (ops : Array Oper) (o : Oper) (S : AState) : Option Bool :=
  match o.guard with
  | none => some true
  | some (g, b) => match (ops[g]?).bind (·.dst) with
    | some d => match S.slots d with
      | .g (.bool c) => some (c == b)
      | .none_ => some false
      | _ => none
    | none => none

theorem PRep.none_inv {w : World} {μ : Lay} {h : Nat → Block} {v : Value} (hv : PRep w μ h v .none_) : v = Go.undef := by cases hv; rfl

theorem want_ok {w0 : World} {S : AState} {a : Act} {w : World} {μ : Lay} {who : Nat → Option Nat} (h : RelAt w0 S a w μ who) {ops : Array Oper} {o : Oper} {b : Bool} (hb : wantA ops o S = some b) : Region.wanted o (yielded ops a.tmps) = b := by
  unfold wantA at hb
  unfold Region.wanted
  split at hb
  · rename_i hg; simp at hb; simp [hg, hb]
  · rename_i g c hg
    simp only [hg]
    split at hb
    · rename_i d hd
      have h1 := h.slot d
      have hy : yielded ops a.tmps g = match a.tmps[d]? with | some (.bool b) => some b | _ => none := by unfold yielded; rw [hd]; rfl
      split at hb
      · rename_i x e1
        rw [e1] at h1
        have h2 := h1.bool_inv
        simp only [Option.some.injEq] at hb
        have h3 : a.tmps[d]? = some (.bool x) := by
          simp only [Array.getD_eq_getD_getElem?] at h2
          cases h4 : a.tmps[d]? <;> simp [h4, Go.undef] at h2 ⊢
          exact h2
        rw [hy, h3]
        rw [← hb]
        cases x <;> cases c <;> rfl
      · rename_i e1
        rw [e1] at h1
        have h2 := h1.none_inv
        simp only [Option.some.injEq] at hb
        have h3 : ∀ x, a.tmps[d]? ≠ some (.bool x) := by
          intro x h4
          simp only [Array.getD_eq_getD_getElem?] at h2
          rw [h4] at h2; simp [Go.undef] at h2
        rw [hy, ← hb]
        cases h4 : a.tmps[d]? with
        | none => rfl
        | some v => cases v <;> first | rfl | exact absurd h4 (h3 _)
      · cases hb
    · cases hb

/-- A call of a function that numbers what its argument holds. -/
def MarkTo (P : Program) (tab : Tab) (o : Oper) (S : AState) (pv : PV) (ws : List (Nat × Block)) : Prop := ∃ f x y tx ty ag ps gs gs' k c is, o.op = .call { callee := .value (.func f), args := #[x, y], argTypes := #[tx, ty] } ∧ S.ev tab tx x = (if ag then .agg ps else ps.headD .undef) ∧ (ag = false → ps.length = 1) ∧ S.ev tab ty y = .g (.int .i64 k) ∧
    WhL S.heap ps gs gs' ws is ∧ MarkC P f ag gs gs' k c ∧ (∀ t, okS S.n t (S.slots t) = true) ∧ (∀ id, okB (S.heap id) = true) ∧ pv = .g (.int .i64 (k + c))

theorem mark_ok {P : Program} {tab : Tab} {w0 : World} {S : AState} {a : Act} {w : World} {μ : Lay} {who : Nat → Option Nat} (h : RelAt w0 S a w μ who) {o : Oper} {pv : PV} {ws : List (Nat × Block)} (hx : MarkTo P tab o S pv ws) :
    Does P w0 a (S.writes ws) pv ((execOp a.eval o).run P w) := by
  obtain ⟨f, x, y, tx, ty, ag, ps, gs, gs', k, c, is, ho, hp, h1, hk, hw, hc, hS, hH, rfl⟩ := hx
  have px := h.ev tab tx x
  have py := h.ev tab ty y
  rw [hk] at py
  have ey := py.int_inv
  obtain ⟨vs, hvx, hpl⟩ : ∃ vs : List Value, a.eval x = (if ag then .agg vs.toArray else vs.headD Go.undef) ∧ PRL w μ S.heap vs ps := by
    cases ag with
    | true =>
      rw [hp] at px
      obtain ⟨vs, e, hl, _, h2⟩ := PRep.agg_inv px
      exact ⟨vs, e, PRL.of vs ps hl h2⟩
    | false =>
      obtain ⟨p, rfl⟩ := List.length_eq_one_iff.1 (h1 rfl)
      rw [hp] at px
      exact ⟨[a.eval x], rfl, .cons px .nil⟩
  obtain ⟨Fs, g1, hnd, hml⟩ := whL_ok h hw hpl
  have hf := h.ev tab 0 (.func f)
  obtain ⟨cvs, hv, hcl, _⟩ := asFn_inv hf (rfl : asFn (S.ev tab 0 (.func f)) = some (f, []))
  have hc0 : cvs = [] := List.eq_nil_of_length_eq_zero (by simpa using hcl)
  subst hc0
  have hrun : (execOp a.eval o).run P w = .ok (.enter f #[if ag then .agg vs.toArray else vs.headD Go.undef, .int .i64 k]) w := by
    have := hc.enter #[if ag then .agg vs.toArray else vs.headD Go.undef, .int .i64 k] w
    unfold execOp
    simp only [ho, resolve, hv, Deferred.ofValue, Sem.run_bind, Sem.run_pure, Result.andThen_ok, invoke, Array.empty_append]
    have e1 : ((#[x, y] : Array Operand).map a.eval ++ ([] : List Value).toArray) = #[if ag then .agg vs.toArray else vs.headD Go.undef, .int .i64 k] := by
      rw [show ((#[x, y] : Array Operand).map a.eval ++ ([] : List Value).toArray) = #[a.eval x, a.eval y] by simp, hvx, ey]
    rw [e1, this]
  rw [hrun]
  refine (hc.calls w Fs vs g1 hnd).mono fun e w'' hq => ?_
  obtain ⟨he, g2, hkp, hsr⟩ := hq
  exact ⟨_, he, μ, who, mark_rel h hS hH hw hpl hnd hml g2 hkp hsr, .g _ _ [] (.atom (.int .i64 (k + c)) rfl) (by simp)⟩

/-! ### A region in the order of the text -/

/-- The walk of a region's operations, from the i-th on. -/
def AW (P : Program) (tab : Tab) (ops : Array Oper) : Nat → List Oper → AState → (AState → Prop) → Prop
  | _, [], S, K => K S
  | i, o :: os, S, K => ∃ b, wantA ops o S = some b ∧ S.has o.dst = true ∧ (b = true → ∃ pv ws, (StepsTo P tab (S.nx + 8 * i) o S pv ws ∨ MarkTo P tab o S pv ws) ∧ AW P tab ops (i + 1) os ((S.writes ws).put o.dst pv) K) ∧ (b = false → AW P tab ops (i + 1) os (S.put o.dst .none_) K)

theorem has_writes (S : AState) (ws : List (Nat × Block)) (d : Option Nat) : (S.writes ws).has d = S.has d := by cases d <;> rfl

theorem AW_ok {P : Program} {tab : Tab} (ht : TabOk P tab) {ops : Array Oper} {Q : Exit → Act → World → Prop} {w0 : World} {K : AState → Prop} (hQ : ∀ S a w μ who, K S → RelAt w0 S a w μ who → Q .normal a w) :
    ∀ (os : List Oper) (i : Nat) (S : AState) (a : Act) (w : World) (μ : Lay) (who : Nat → Option Nat), AW P tab ops i os S K → RelAt w0 S a w μ who → wpList P ops Q os a w
  | [], _, S, a, w, μ, who, h, hr => wpList_nil (hQ S a w μ who h hr)
  | o :: os, i, S, a, w, μ, who, h, hr => by
    obtain ⟨b, hb, hd, h1, h2⟩ := h
    have hw := want_ok hr hb
    unfold wpList
    cases b with
    | true =>
      simp only [hw, if_true]
      obtain ⟨pv, ws, hs, hn⟩ := h1 rfl
      refine .inl ((hs.elim (fun hs => steps_ok ht hr hs) fun hs => mark_ok hr hs).wp (by rw [has_writes]; exact hd) fun a' w' μ' who' hr' => ?_)
      exact AW_ok ht hQ os (i + 1) _ a' w' μ' who' hn hr'
    | false =>
      simp only [hw, Bool.false_eq_true, if_false]
      exact AW_ok ht hQ os (i + 1) _ _ w μ who (h2 rfl) (hr.put hd .none_)

/-! ### Triples -/

/-- The code leads from this state to one of these. -/
def T (P : Program) (c : Code) (S : AState) (Q : Exit → AState → Prop) : Prop := ∀ w0 a w, Rel w0 S a w → c.wp P (fun e a' w' => ∃ S', Q e S' ∧ Rel w0 S' a' w') a w

theorem T.mono {P : Program} {c : Code} {S : AState} {Q Q' : Exit → AState → Prop} (h : T P c S Q) (hq : ∀ e S, Q e S → Q' e S) : T P c S Q' :=
  fun w0 a w hr => wp_mono (h w0 a w hr) fun e a w ⟨S', h1, h2⟩ => ⟨S', hq _ _ h1, h2⟩

theorem T_skip {P : Program} {S : AState} {Q : Exit → AState → Prop} (h : Q .normal S) : T P .skip S Q := fun w0 a w hr => wp_skip ⟨S, h, hr⟩
theorem T_label {P : Program} {l : Nat} {S : AState} {Q : Exit → AState → Prop} (h : Q .normal S) : T P (.label l) S Q := fun w0 a w hr => wp_label ⟨S, h, hr⟩
theorem T_ret {P : Program} {S : AState} {Q : Exit → AState → Prop} (h : Q .ret S) : T P .ret S Q := fun w0 a w hr => wp_ret ⟨S, h, hr⟩
theorem T_exit {P : Program} {id : Nat} {S : AState} {Q : Exit → AState → Prop} (h : Q (.exit id) S) : T P (.exit id) S Q := fun w0 a w hr => wp_exit ⟨S, h, hr⟩

/-- Behind a piece: go on if it came to its end. -/
def andT (P : Program) (c : Code) (Q : Exit → AState → Prop) : Exit → AState → Prop
  | .normal, S => T P c S Q
  | e, S => Q e S

theorem T_seq {P : Program} {x y : Code} {S : AState} {Q : Exit → AState → Prop} (h : T P x S (andT P y Q)) : T P (.seq x y) S Q :=
  fun w0 a w hr => wp_seq (wp_mono (h w0 a w hr) fun e a' w' ⟨S', h1, h2⟩ => by
    cases e with
    | normal => exact h1 w0 a' w' h2
    | exit | goto | ret | panic | outgrown => exact ⟨S', h1, h2⟩)

def inT (id : Nat) (Q : Exit → AState → Prop) : Exit → AState → Prop
  | .exit id', S => if id' = id then Q .normal S else Q (.exit id') S
  | e, S => Q e S

theorem T_block {P : Program} {id : Nat} {c : Code} {S : AState} {Q : Exit → AState → Prop} (h : T P c S (inT id Q)) : T P (.block id c) S Q :=
  fun w0 a w hr => wp_block (wp_mono (h w0 a w hr) fun e a' w' ⟨S', h1, h2⟩ => by
    cases e with
    | exit id' =>
      simp only [Exit.inBlock]
      simp only [inT] at h1
      split
      · rename_i e; rw [if_pos e] at h1; exact ⟨S', h1, h2⟩
      · rename_i e; rw [if_neg e] at h1; exact ⟨S', h1, h2⟩
    | normal | goto | ret | panic | outgrown => exact ⟨S', h1, h2⟩)

theorem T_cond {P : Program} {tab : Tab} {c : Operand} {x y : Code} {S : AState} {Q : Exit → AState → Prop} {b : Bool} (hb : S.ev tab 0 c = .g (.bool b)) (ht : b = true → T P x S Q) (hf : b = false → T P y S Q) : T P (.cond c x y) S Q :=
  fun w0 a w hr => by
    obtain ⟨μ, who, h⟩ := hr
    have h1 := h.ev tab 0 c
    rw [hb] at h1
    exact wp_cond_split h1.bool_inv (fun e => ht e w0 a w ⟨μ, who, h⟩) (fun e => hf e w0 a w ⟨μ, who, h⟩)

/-- The next region's names. -/
def AState.on (S : AState) (n : Nat) : AState := { S with nx := S.nx + 8 * n }

theorem Rel.on {w0 : World} {S : AState} {a : Act} {w : World} (h : Rel w0 S a w) (n : Nat) : Rel w0 (S.on n) a w := by
  obtain ⟨μ, who, h⟩ := h
  exact ⟨μ, who, h.size, h.slot, h.dfr, h.blk, h.inj, h.base, h.keep, h.old⟩

theorem T_region {P : Program} {tab : Tab} (ht : TabOk P tab) (n : Nat) {id : Nat} {l : List Oper} {S : AState} {Q : Exit → AState → Prop} (h : AW P tab l.toArray 0 l S (fun S' => Q .normal (S'.on n))) : T P (.region id l.toArray false) S Q :=
  fun w0 a w hr => by
    obtain ⟨μ, who, hr⟩ := hr
    exact wp_region_lit (AW_ok ht (fun S' a' w' μ' who' hq hr' => ⟨_, hq, Rel.on ⟨μ', who', hr'⟩ _⟩) l 0 S a w μ who h hr)

/-- This state is no more than that one says. -/
def Le (S S' : AState) : Prop := ∀ w0 a w, Rel w0 S a w → Rel w0 S' a w

theorem T.le {P : Program} {c : Code} {S S' : AState} {Q : Exit → AState → Prop} (hl : Le S S') (h : T P c S' Q) : T P c S Q := fun w0 a w hr => h w0 a w (hl w0 a w hr)

theorem wp_loop_idx {P : Program} {c : Code} {Q : Exit → Act → World → Prop} {a : Act} {w : World} (I : Nat → Act → World → Prop) (n0 : Nat) (h0 : I n0 a w)
    (round : ∀ n a w, I n a w → c.wp P (Exit.then (fun a' w' => ∃ m, m < n ∧ I m a' w') Q) a w) : (Code.loop c).wp P Q a w := by
  intro b k cs
  have key : ∀ n a w, I n a w → ∃ e a' w', Q e a' w' ∧ Arrives P (lone (b.at a (.code c :: .inLoop c :: k)) cs w) b k cs e a' w' := by
    intro n
    induction n using Nat.strongRecOn with
    | _ n ih =>
      intro a w hI
      obtain ⟨e, a1, w1, hq, harr⟩ := round n a w hI b (.inLoop c :: k) cs
      cases e with
      | normal =>
        obtain ⟨m, hlt, hI1⟩ := hq
        obtain ⟨e2, a2, w2, hq2, harr2⟩ := ih m hlt a1 w1 hI1
        exact ⟨e2, a2, w2, hq2, .of_steps (Steps.trans harr (.one step_inLoop)) harr2⟩
      | exit | goto | ret | panic | outgrown => exact ⟨_, a1, w1, hq, .pass (x := .inLoop c) rfl (fun _ _ => .inl (by simp)) harr⟩
  obtain ⟨e, a', w', hq, harr⟩ := key n0 a w h0
  exact ⟨e, a', w', hq, .of_steps (.one step_loop) harr⟩

/-- A loop: the states at its head, by an index, and a measure. -/
theorem T_loop {P : Program} {c : Code} {S : AState} {Q : Exit → AState → Prop} {ι : Type} (I : ι → AState) (ok : ι → Prop) (m : ι → Nat) (i0 : ι) (h0 : Le S (I i0)) (k0 : ok i0)
    (round : ∀ i, ok i → T P c (I i) (fun e S' => match e with | .normal => ∃ j, ok j ∧ m j < m i ∧ Le S' (I j) | e => Q e S')) : T P (.loop c) S Q :=
  fun w0 a w hr => by
    refine wp_loop_idx (fun n a' w' => ∃ i, ok i ∧ m i = n ∧ Rel w0 (I i) a' w') (m i0) ⟨i0, k0, rfl, h0 w0 a w hr⟩ ?_
    rintro n a' w' ⟨i, k, rfl, r⟩
    refine wp_mono (round i k w0 a' w' r) fun e a'' w'' ⟨S', h1, h2⟩ => ?_
    cases e with
    | normal =>
      obtain ⟨j, kj, hlt, hle⟩ := h1
      exact ⟨m j, hlt, j, kj, rfl, hle w0 a'' w'' h2⟩
    | exit | goto | ret | panic | outgrown => exact ⟨S', h1, h2⟩

end Go.Proofs.Ytdkjeodenbffnaa
