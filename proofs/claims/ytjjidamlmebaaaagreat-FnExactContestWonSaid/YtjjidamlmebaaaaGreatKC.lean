/- Abstract states: all operations together; a region in the order of the text. Over any program; the table is right ('TabOk'). -/
import Derived.Test.YtjjidamlmebaaaaGreatKB
import Derived.Test.YtjjidamlmebaaaaGreatRegion
namespace Go.Proofs.YtjjidamlmebaaaaGreat
open Go.RowKit
open Shp
variable {P : Program} {w0 : W0} {S : AState} {a : Act} {w : World} {μ : Lay} {who : Nat → Option Nat} {o : Oper} {nid id : Nat} {pv : PV} {b : Bool} {c x y : Code} {Q : Exit → AState → Prop}
def ZkR (tab : Tab) (nid : Nat) (c : Call) (S : AState) : Option (PV × List (Nat × Block)) :=
 match c.callee, c.args.toList, c.argTypes.toList with
 | .builtin .len, [x], [t] => aLen tab S.heap t (S.ev tab 0 x)
 | .builtin .append, [x, y], [t, t'] => if t = t' then aApp tab nid S.heap t (S.ev tab t x) (S.ev tab t y) else none
 | .builtin .max, [x, y], _ => aMM true (S.ev tab 0 x) (S.ev tab 0 y)
 | .builtin .min, [x, y], _ => aMM false (S.ev tab 0 x) (S.ev tab 0 y)
 | _, _, _ => none
def aOp (tab : Tab) (nid : Nat) (o : Oper) (S : AState) : Option (PV × List (Nat × Block)) :=
 match o.op with
 | .move x => some (S.ev tab o.type x, [])
 | .assign x => some (S.ev tab o.type x, [])
 | .pick c x y => ZqQ (S.ev tab 0 c) (S.ev tab o.type x) (S.ev tab o.type y)
 | .alloc elem => ZlL tab nid S.heap elem
 | .box elem x => aBox tab nid S.heap elem (S.ev tab elem x)
 | .build t parts => match tab t with
  | some ti => ZlC tab t (parts.toList.map fun (i, x) => (i, S.ev tab (ZfQ ti i) x))
  | none => none
 | .buildSlice t len parts => match ZbO tab t with
  | some (E, _) => aLit tab nid S.heap t len (parts.toList.map (·.1)) (parts.toList.map fun (_, x) => S.ev tab E x)
  | none => none
 | .load t x => Zeb tab S.heap t (S.ev tab 0 x)
 | .store t x y => Zex tab nid S.heap t (S.ev tab 0 x) (S.ev tab t y)
 | .nilCheck x => aNil S.heap (S.ev tab 0 x)
 | .binOp op t x y _ => Zi0 tab op t (S.ev tab 0 x) (S.ev tab 0 y)
 | .unOp op _ x => aUn op (S.ev tab 0 x)
 | .convert src dst x => ZlA tab src dst (S.ev tab 0 x)
 | .makeFunc fn first caps => match fn with
  | .func f => if first.toList = [] then some (.fn f (caps.toList.map (S.ev tab 0)), []) else none
  | _ => none
 | .makeSlice t l c => Zjs tab nid S.heap t (S.ev tab 0 l) (S.ev tab 0 c)
 | .slice t x lo hi mx => match mx with
  | none => aSlc tab S.heap t (S.ev tab 0 x) (lo.map (S.ev tab 0)) (hi.map (S.ev tab 0))
  | some _ => none
 | .fieldAddr s x f => Zep tab S.heap s (S.ev tab 0 x) f
 | .field t x f => Zn9 tab t (S.ev tab 0 x) f
 | .indexAddr t x i => Zbz tab S.heap t (S.ev tab 0 x) (S.ev tab 0 i)
 | .index t x i => aIdx tab t (S.ev tab 0 x) (S.ev tab 0 i)
 | .extract x i => Zhy i (S.ev tab 0 x)
 | .call c => ZkR tab nid c S
 | _ => none
theorem Zza  {tab : Tab}       (ht : TabOk P tab) (h : RelAt w0 S a w μ who)    {ws : List (Nat × Block)} (hx : aOp tab nid o S = some (pv, ws)) :
  Does P w0 a (S.writes ws) pv ((execOp a.eval o).run P w) := by
 unfold aOp at hx
 split at hx
 ·rename_i x ho
  simp only [Option.some.injEq, Prod.mk.injEq] at hx; obtain ⟨rfl, rfl⟩ := hx
  exact Zof h (.inl ho)
 ·rename_i x ho
  simp only [Option.some.injEq, Prod.mk.injEq] at hx; obtain ⟨rfl, rfl⟩ := hx
  exact Zof h (.inr ho)
 ·exact ZsO h (by assumption) hx
 ·exact ZqK ht h (by assumption) hx
 ·exact Zwl h (by assumption) hx
 ·split at hx
  ·exact Zqx ht h (by assumption) (by assumption) hx
  ·cases hx
 ·split at hx
  ·exact Zwg ht h (by assumption) (by assumption) hx
  ·cases hx
 ·exact ZuQ ht h (by assumption) hx
 ·exact ZrN ht h (by assumption) hx
 ·exact ZxP h (by assumption) hx
 ·exact Ztn ht h (by assumption) hx
 ·exact Zze h (by assumption) hx
 ·exact ZsQ ht h (by assumption) hx
 ·rename_i fn first caps ho
  split at hx
  ·rename_i f
   split at hx
   ·rename_i hf
    simp only [Option.some.injEq, Prod.mk.injEq] at hx; obtain ⟨rfl, rfl⟩ := hx
    have : first = #[] := Array.ext' hf
    subst this
    exact Zmg h ho
   ·cases hx
  ·cases hx
 ·exact Zrq ht h (by assumption) hx
 ·split at hx
  ·exact Zwy ht h (by assumption) hx
  ·cases hx
 ·exact ZkT ht h (by assumption) hx
 ·exact ZrT ht h (by assumption) hx
 ·exact ZqX ht h (by assumption) hx
 ·exact Zv9 ht h (by assumption) hx
 ·exact ZnL h (by assumption) hx
 ·rename_i c ho
  obtain ⟨callee, args, tys⟩ := c
  unfold ZkR at hx
  simp only at hx
  split at hx
  ·rename_i x t h1 h2
   have e1 : args = #[x] := Array.ext' h1
   have e2 : tys = #[t] := Array.ext' h2
   subst e1; subst e2
   exact ZxV ht h ho hx
  ·rename_i x y t t' h1 h2
   have e1 : args = #[x, y] := Array.ext' h1
   have e2 : tys = #[t, t'] := Array.ext' h2
   subst e1; subst e2
   split at hx
   ·rename_i e; subst e; exact Zo2 ht h ho hx
   ·cases hx
  ·rename_i x y h1
   have e1 : args = #[x, y] := Array.ext' h1
   subst e1
   exact Zxk h ho hx
  ·rename_i x y h1
   have e1 : args = #[x, y] := Array.ext' h1
   subst e1
   exact Zvd h ho hx
  ·cases hx
 ·cases hx
def Zbb : PV → List Nat
 | .own id _ _ => [id]
 | .ptr id _ => [id]
 | .eptr id _ _ => [id]
 | .g (.raw c _) => [c]
 | .agg cs => cs.flatMap fun | .own id _ _ => [id] | _ => []
 | _ => []
def vids (h : Nat → Block) : Nat → PV → List Nat
 | 0, _ => []
 | n + 1, p => match p with
  | .own id _ _ => [id]
  | .ptr id _ => id :: (match h id with | .box cs => cs.flatMap (vids h n) | _ => [])
  | .agg cs => cs.flatMap (vids h n)
  | .fn _ cs => cs.flatMap (vids h n)
  | _ => []
def tch (tab : Tab) (nid : Nat) (o : Oper) (S : AState) : List Nat :=
 (List.range 8).map (nid + ·) ++ match o.op with
 | .call { callee := .value f, args := args, argTypes := tys } => (S.args tab args.toList tys.toList).flatMap (vids S.heap 6) ++ (match asFn (S.ev tab 0 f) with | some (_, caps) => caps.flatMap (vids S.heap 6) | none => [])
 | .move _ | .assign _ => []
 | op => op.operands.toList.flatMap fun x => Zbb (S.ev tab 0 x)
def ConS (P : Program) (S : AState) (f : FuncId) (gs : List GV) (r : GV) : Prop := Con P f gs r ∨ ∃ cs, S.slots 65536 = .glob 0 cs ∧ ConG P f cs gs r
def Zle (P : Program) (tab : Tab) (nid : Nat) (o : Oper) (S : AState) (pv : PV) (ws : List (Nat × Block)) : Prop :=
 match o.op with
 | .call { callee := .value f, args := args, argTypes := tys } => ∃ fid caps, asFn (S.ev tab 0 f) = some (fid, caps) ∧ ∃ gs, Zbo (view S.heap 6) (S.args tab args.toList tys.toList ++ caps) = some gs ∧ ∃ r, ConS P S fid gs r ∧ (ZaC r).all GV.leaf = true ∧ (ZaC r).length ≤ 8 ∧
   ((List.range (ZaC r).length).all fun i => ZbU (S.heap (nid + i))) = true ∧ pv = Ze2 nid r ∧ ws = Zba nid (ZaC r)
 | _ => False
def Zkn (P : Program) (tab : Tab) (nid : Nat) (o : Oper) (S : AState) (pv : PV) (ws : List (Nat × Block)) : Prop := ∀ S' : AState, (∀ x ∈ o.op.operands.toList, ∀ t, (x = .tmp t ∨ 65536 ≤ t) → S.slots t = S'.slots t) → (∀ id ∈ tch tab nid o S, S.heap id = S'.heap id) →
 ∀ w0 a w μ who, RelAt w0 S' a w μ who → Does P w0 a (S'.writes ws) pv ((execOp a.eval o).run P w)
def Zes (P : Program) (tab : Tab) (nid : Nat) (o : Oper) (S : AState) (pv : PV) (ws : List (Nat × Block)) : Prop := aOp tab nid o S = some (pv, ws) ∨ Zle P tab nid o S pv ws ∨ Zkn P tab nid o S pv ws
theorem Zj7  {tab : Tab}       (ht : TabOk P tab) (h : RelAt w0 S a w μ who)    {ws : List (Nat × Block)} (hx : Zes P tab nid o S pv ws) :
  Does P w0 a (S.writes ws) pv ((execOp a.eval o).run P w) := by
 rcases hx with hx | hx | hx
 ·exact Zza ht h hx
 rotate_left
 ·exact hx S (fun _ _ _ _ => rfl) (fun _ _ => rfl) _ _ _ _ _ h
 ·unfold Zle at hx
  split at hx
  ·rename_i f args tys ho
   obtain ⟨fid, caps, h1, gs, h2, r, h3, h4, _, h5, rfl, rfl⟩ := hx
   simp only [List.all_eq_true, List.mem_range] at h5
   rcases h3 with h3 | ⟨cs, hs, h3⟩
   ·exact ZuW h ho h1 h2 h3 h4 fun i hi => ZbI (h5 i hi)
   ·exact Zrm h ho h1 h2 hs h3 h4 fun i hi => ZbI (h5 i hi)
  ·exact hx.elim
def Zd7 (ops : Array Oper) (o : Oper) (S : AState) : Option Bool :=
 match o.guard with
 | none => some true
 | some (g, b) => match (ops[g]?).bind (·.dst) with
  | some d => match S.slots d with
   | .g (.bool c) => some (c == b)
   | .none_ => some false
   | _ => none
  | none => none
theorem PRep.none_inv  {h : Nat → Block} {v : Value} (hv : PRep w μ h v .none_) : v = Go.undef := by cases hv; rfl
theorem ZpL  (h : RelAt w0 S a w μ who) {ops : Array Oper}   (hb : Zd7 ops o S = some b) : Region.wanted o (yielded ops a.tmps) = b := by
 unfold Zd7 at hb
 unfold Region.wanted
 split at hb
 ·rename_i hg; simp at hb; simp [hg, hb]
 ·rename_i g c hg
  simp only [hg]
  split at hb
  ·rename_i d hd
   have h1 := h.slot d
   have hy : yielded ops a.tmps g = match a.tmps[d]? with | some (.bool b) => some b | _ => none := by unfold yielded; rw [hd]; rfl
   split at hb
   ·rename_i x e1
    rw [e1] at h1
    have h2 := h1.bool_inv
    simp only [Option.some.injEq] at hb
    have h3 : a.tmps[d]? = some (.bool x) := by
     simp only [Array.getD_eq_getD_getElem?] at h2
     cases h4 : a.tmps[d]? <;> simp [h4, Go.undef] at h2 ⊢
     exact h2
    rw [hy, h3]
    rw [← hb]
    cases x <;> cases c <;> rfl
   ·rename_i e1
    rw [e1] at h1
    have h2 := h1.none_inv
    simp only [Option.some.injEq] at hb
    have h3 : ∀ x, a.tmps[d]? ≠ some (.bool x) := by
     intro x h4
     simp only [Array.getD_eq_getD_getElem?] at h2
     rw [h4] at h2; simp [Go.undef] at h2
    rw [hy, ← hb]
    cases h4 : a.tmps[d]? with
    | none => rfl
    | some v => cases v <;> first | rfl | exact absurd h4 (h3 _)
   ·cases hb
  ·cases hb
def ZoS (P : Program) (tab : Tab) (o : Oper) (S : AState) (pv : PV) (ws : List (Nat × Block)) : Prop := ∃ f x y tx ty ag ps gs gs' k c is, o.op = .call { callee := .value (.func f), args := #[x, y], argTypes := #[tx, ty] } ∧ S.ev tab tx x = (if ag then .agg ps else ps.headD .undef) ∧ (ag = false → ps.length = 1) ∧ S.ev tab ty y = .g (.int .i64 k) ∧
  WhL S.heap ps gs gs' ws is ∧ MarkC P f ag gs gs' k c ∧ (∀ t, (okS S.n t (S.slots t) || okG S.heap (S.slots t)) = true) ∧ (∀ id, okB (S.heap id) = true) ∧ pv = .g (.int .i64 (k + c))
theorem Ztp  {tab : Tab}       (h : RelAt w0 S a w μ who)   {ws : List (Nat × Block)} (hx : ZoS P tab o S pv ws) :
  Does P w0 a (S.writes ws) pv ((execOp a.eval o).run P w) := by
 obtain ⟨f, x, y, tx, ty, ag, ps, gs, gs', k, c, is, ho, hp, h1, hk, hw, hc, hS, hH, rfl⟩ := hx
 have px := h.ev tab tx x
 have py := h.ev tab ty y
 rw [hk] at py
 have ey := py.int_inv
 obtain ⟨vs, hvx, hpl⟩ : ∃ vs : List Value, a.eval x = (if ag then .agg vs.toArray else vs.headD Go.undef) ∧ PRL w μ S.heap vs ps := by
  cases ag with
  | true =>
   rw [hp] at px
   obtain ⟨vs, e, hl, _, h2⟩ := PRep.agg_inv px
   exact ⟨vs, e, PRL.of vs ps hl h2⟩
  | false =>
   obtain ⟨p, rfl⟩ := List.length_eq_one_iff.1 (h1 rfl)
   rw [hp] at px
   exact ⟨[a.eval x], rfl, .cons px .nil⟩
 obtain ⟨Fs, g1, hnd, hml⟩ := Zvz h hw hpl
 have hf := h.ev tab 0 (.func f)
 obtain ⟨cvs, hv, hcl, _⟩ := Zc3 hf (rfl : asFn (S.ev tab 0 (.func f)) = some (f, []))
 have hc0 : cvs = [] := List.eq_nil_of_length_eq_zero (by simpa using hcl)
 subst hc0
 have hrun : (execOp a.eval o).run P w = .ok (.enter f #[if ag then .agg vs.toArray else vs.headD Go.undef, .int .i64 k]) w := by
  have := hc.enter #[if ag then .agg vs.toArray else vs.headD Go.undef, .int .i64 k] w
  unfold execOp
  simp only [ho, resolve, hv, Deferred.ofValue, Sem.run_bind, Sem.run_pure, Result.andThen_ok, invoke, Array.empty_append]
  have e1 : ((#[x, y] : Array Operand).map a.eval ++ ([] : List Value).toArray) = #[if ag then .agg vs.toArray else vs.headD Go.undef, .int .i64 k] := by
   rw [show ((#[x, y] : Array Operand).map a.eval ++ ([] : List Value).toArray) = #[a.eval x, a.eval y] by simp, hvx, ey]
  rw [e1, this]
 rw [hrun]
 refine (hc.calls w Fs vs g1 hnd).mono fun e w'' hq => ?_
 obtain ⟨he, g2, hkp, hsr⟩ := hq
 exact ⟨_, he, μ, who, Zq4 h hS hH hw hpl hnd hml g2 hkp hsr, .g _ _ [] (.atom (.int .i64 (k + c)) rfl) (by simp)⟩
def AW (P : Program) (tab : Tab) (ops : Array Oper) : Nat → List Oper → AState → (AState → Prop) → Prop
 | _, [], S, K => K S
 | i, o :: os, S, K => ∃ b, Zd7 ops o S = some b ∧ S.has o.dst = true ∧ (b = true → ∃ pv ws, (Zes P tab (S.nx + 8 * i) o S pv ws ∨ ZoS P tab o S pv ws) ∧ AW P tab ops (i + 1) os ((S.writes ws).put o.dst pv) K) ∧ (b = false → AW P tab ops (i + 1) os (S.put o.dst .none_) K)
theorem Zjp (S : AState) (ws : List (Nat × Block)) (d : Option Nat) : (S.writes ws).has d = S.has d := by cases d <;> rfl
theorem ZuY {P : Program} {tab : Tab} (ht : TabOk P tab) {ops : Array Oper} {Q : Exit → Act → World → Prop} {w0 : W0} {K : AState → Prop} (hQ : ∀ S a w μ who, K S → RelAt w0 S a w μ who → Q .normal a w) :
  ∀ (os : List Oper) (i : Nat) (S : AState) (a : Act) (w : World) (μ : Lay) (who : Nat → Option Nat), AW P tab ops i os S K → RelAt w0 S a w μ who → wpList P ops Q os a w
 | [], _, S, a, w, μ, who, h, hr => wpList_nil (hQ S a w μ who h hr)
 | o :: os, i, S, a, w, μ, who, h, hr => by
  obtain ⟨b, hb, hd, h1, h2⟩ := h
  have hw := ZpL hr hb
  unfold wpList
  cases b with
  | true =>
   simp only [hw, if_true]
   obtain ⟨pv, ws, hs, hn⟩ := h1 rfl
   refine .inl ((hs.elim (fun hs => Zj7 ht hr hs) fun hs => Ztp hr hs).wp (by rw [Zjp]; exact hd) fun a' w' μ' who' hr' => ?_)
   exact ZuY ht hQ os (i + 1) _ a' w' μ' who' hn hr'
  | false =>
   simp only [hw, Bool.false_eq_true, if_false]
   exact ZuY ht hQ os (i + 1) _ _ w μ who (h2 rfl) (hr.put hd .none_)
def T (P : Program) (c : Code) (S : AState) (Q : Exit → AState → Prop) : Prop := ∀ w0 a w, Rel w0 S a w → c.wp P (fun e a' w' => ∃ S', Q e S' ∧ Rel w0 S' a' w') a w
theorem T.mono  {Q' : Exit → AState → Prop} (h : T P c S Q) (hq : ∀ e S, Q e S → Q' e S) : T P c S Q' :=
 fun w0 a w hr => wp_mono (h w0 a w hr) fun e a w ⟨S', h1, h2⟩ => ⟨S', hq _ _ h1, h2⟩
theorem ZvN  (h : Q .normal S) : T P .skip S Q := fun w0 a w hr => wp_skip ⟨S, h, hr⟩
theorem ZyR  (h : Q .ret S) : T P .ret S Q := fun w0 a w hr => wp_ret ⟨S, h, hr⟩
theorem Zwc  (h : Q (.exit id) S) : T P (.exit id) S Q := fun w0 a w hr => wp_exit ⟨S, h, hr⟩
def andT (P : Program) (c : Code) (Q : Exit → AState → Prop) : Exit → AState → Prop
 | .normal, S => T P c S Q
 | e, S => Q e S
theorem ZyN  (h : T P x S (andT P y Q)) : T P (.seq x y) S Q :=
 fun w0 a w hr => wp_seq (wp_mono (h w0 a w hr) fun e a' w' ⟨S', h1, h2⟩ => by
  cases e with
  | normal => exact h1 w0 a' w' h2
  | exit | goto | ret | panic | outgrown => exact ⟨S', h1, h2⟩)
def inT (id : Nat) (Q : Exit → AState → Prop) : Exit → AState → Prop
 | .exit id', S => if id' = id then Q .normal S else Q (.exit id') S
 | e, S => Q e S
theorem Zoq  (h : T P c S (inT id Q)) : T P (.block id c) S Q :=
 fun w0 a w hr => wp_block (wp_mono (h w0 a w hr) fun e a' w' ⟨S', h1, h2⟩ => by
  cases e with
  | exit id' =>
   simp only [Exit.inBlock]
   simp only [inT] at h1
   split
   ·rename_i e; rw [if_pos e] at h1; exact ⟨S', h1, h2⟩
   ·rename_i e; rw [if_neg e] at h1; exact ⟨S', h1, h2⟩
  | normal | goto | ret | panic | outgrown => exact ⟨S', h1, h2⟩)
theorem Zxl  {tab : Tab} {c : Operand}     (hb : S.ev tab 0 c = .g (.bool b)) (ht : b = true → T P x S Q) (hf : b = false → T P y S Q) : T P (.cond c x y) S Q :=
 fun w0 a w hr => by
  obtain ⟨μ, who, h⟩ := hr
  have h1 := h.ev tab 0 c
  rw [hb] at h1
  exact wp_cond_split h1.bool_inv (fun e => ht e w0 a w ⟨μ, who, h⟩) (fun e => hf e w0 a w ⟨μ, who, h⟩)
def AState.on (S : AState) (n : Nat) : AState := { S with nx := S.nx + 8 * n }
theorem Rel.on {w0 : W0} {S : AState} {a : Act} {w : World} (h : Rel w0 S a w) (n : Nat) : Rel w0 (S.on n) a w := by
 obtain ⟨μ, who, h⟩ := h
 exact ⟨μ, who, h.size, h.slot, h.dfr, h.blk, h.inj, h.base, h.keep, h.old⟩
theorem Zp3  {tab : Tab} (ht : TabOk P tab) (n : Nat)  {l : List Oper}   (h : AW P tab l.toArray 0 l S (fun S' => Q .normal (S'.on n))) : T P (.region id l.toArray false) S Q :=
 fun w0 a w hr => by
  obtain ⟨μ, who, hr⟩ := hr
  exact wp_region_lit (ZuY ht (fun S' a' w' μ' who' hq hr' => ⟨_, hq, Rel.on ⟨μ', who', hr'⟩ _⟩) l 0 S a w μ who h hr)
def Le (S S' : AState) : Prop := ∀ w0 a w, Rel w0 S a w → Rel w0 S' a w
theorem T.le  {S' : AState}  (hl : Le S S') (h : T P c S' Q) : T P c S Q := fun w0 a w hr => h w0 a w (hl w0 a w hr)
theorem Zmx  {Q : Exit → Act → World → Prop}   (I : Nat → Act → World → Prop) (n0 : Nat) (h0 : I n0 a w)
  (round : ∀ n a w, I n a w → c.wp P (Exit.then (fun a' w' => ∃ m, m < n ∧ I m a' w') Q) a w) : (Code.loop c).wp P Q a w := by
 intro b k cs
 have key : ∀ n a w, I n a w → ∃ e a' w', Q e a' w' ∧ Arrives P (lone (b.at a (.code c :: .inLoop c :: k)) cs w) b k cs e a' w' := by
  intro n
  induction n using Nat.strongRecOn with
  | _ n ih =>
   intro a w hI
   obtain ⟨e, a1, w1, hq, harr⟩ := round n a w hI b (.inLoop c :: k) cs
   cases e with
   | normal =>
    obtain ⟨m, hlt, hI1⟩ := hq
    obtain ⟨e2, a2, w2, hq2, harr2⟩ := ih m hlt a1 w1 hI1
    exact ⟨e2, a2, w2, hq2, .of_steps (Steps.trans harr (.one step_inLoop)) harr2⟩
   | exit | goto | ret | panic | outgrown => exact ⟨_, a1, w1, hq, .pass (x := .inLoop c) rfl (fun _ _ => .inl (by simp)) harr⟩
 obtain ⟨e, a', w', hq, harr⟩ := key n0 a w h0
 exact ⟨e, a', w', hq, .of_steps (.one step_loop) harr⟩
theorem ZwX  {ι : Type} (I : ι → AState) (ok : ι → Prop) (m : ι → Nat) (i0 : ι) (h0 : Le S (I i0)) (k0 : ok i0)
  (round : ∀ i, ok i → T P c (I i) (fun e S' => match e with | .normal => ∃ j, ok j ∧ m j < m i ∧ Le S' (I j) | e => Q e S')) : T P (.loop c) S Q :=
 fun w0 a w hr => by
  refine Zmx (fun n a' w' => ∃ i, ok i ∧ m i = n ∧ Rel w0 (I i) a' w') (m i0) ⟨i0, k0, rfl, h0 w0 a w hr⟩ ?_
  rintro n a' w' ⟨i, k, rfl, r⟩
  refine wp_mono (round i k w0 a' w' r) fun e a'' w'' ⟨S', h1, h2⟩ => ?_
  cases e with
  | normal =>
   obtain ⟨j, kj, hlt, hle⟩ := h1
   exact ⟨m j, hlt, j, kj, rfl, hle w0 a'' w'' h2⟩
  | exit | goto | ret | panic | outgrown => exact ⟨S', h1, h2⟩
end Go.Proofs.YtjjidamlmebaaaaGreat
namespace Go.Proofs.YtjjidamlmebaaaaGreat
open Go.RowKit
open Shp
variable {id n nid : Nat} {p pv : PV} {t ty : TypeId} {lo hi : Option PV} {S S' : AState} {x : Operand} {P : Program} {o : Oper}
section
variable {h h' : Nat → Block}
theorem ZiG {ks : List Nat}  (e : h id = h' id) : killL h ks id = killL h' ks id := by
 induction ks generalizing h h' with
 | nil => exact e
 | cons k ks ih => exact ih (by unfold upd; split <;> simp [e])
theorem ZnJ  (e : ∀ id ∈ Zbb p, h id = h' id) : Za2 h p = Za2 h' p := by
 cases p with
 | own id lo len => simp only [Za2]; rw [e id (by simp [Zbb])]
 | _ => rfl
theorem ZkB {f : (Nat → Block) → PV → Option (GV × List Nat × Bool)} {D : PV → List Nat} (hf : ∀ {h h' p}, (∀ id ∈ D p, h id = h' id) → f h p = f h' p) : ∀ (ps : List PV) {h h' : Nat → Block}, (∀ p ∈ ps, ∀ id ∈ D p, h id = h' id) → absL f h ps = absL f h' ps
 | [], h, h', _ => rfl
 | p :: ps, h, h', e => by
  unfold absL
  rw [hf (e p (by simp))]
  cases f h' p with
  | none => rfl
  | some r =>
   obtain ⟨v, k, d⟩ := r
   simp only
   rw [ZkB hf ps (h := killL h k) (h' := killL h' k) fun q hq id hid => ZiG (e q (by simp [hq]) id hid)]
def ZpW : PV → List Nat
 | .own id _ _ => [id]
 | _ => []
theorem Zmj  (e : ∀ id ∈ ZpW p, h id = h' id) : Za2 h p = Za2 h' p := by
 cases p with
 | own id lo len => simp only [Za2]; rw [e id (by simp [ZpW])]
 | _ => rfl
theorem ZpV {cs : List PV} {q : PV} (hq : q ∈ cs)  (hid : id ∈ ZpW q) : id ∈ Zbb (.agg cs) := by
 simp only [Zbb, List.mem_flatMap]
 refine ⟨q, hq, ?_⟩
 cases q <;> simp_all [ZpW]
theorem ZmF  (e : ∀ id ∈ Zbb p, h id = h' id) : absE h p = absE h' p := by
 cases p with
 | agg cs =>
  simp only [absE]
  rw [ZkB (f := Za2) (h := h) (h' := h') (D := ZpW) (fun e => Zmj e) cs (fun q hq id hid => e id (ZpV hq hid))]
 | own id lo len => exact ZnJ e
 | _ => rfl
theorem Znf  (e : ∀ id ∈ Zbb p, h id = h' id) : srcE h n p = srcE h' n p := by
 cases p with
 | own id lo len => simp only [srcE]; rw [e id (by simp [Zbb])]
 | g v => cases v <;> rfl
 | _ => rfl
theorem Zru  (e : ∀ id ∈ Zbb p, h id = h' id) : dstE h n p = dstE h' n p := by
 cases p with
 | own id lo len => simp only [dstE]; rw [e id (by simp [Zbb])]
 | _ => rfl
theorem Zfw  (e : ∀ id ∈ Zbb p, h id = h' id) : p.isPtr h = p.isPtr h' := by
 cases p with
 | ptr id off => simp only [PV.isPtr]; rw [e id (by simp [Zbb])]
 | eptr id k j => simp only [PV.isPtr]; rw [e id (by simp [Zbb])]
 | g v => cases v <;> rfl
 | _ => rfl
theorem Zpq {tab : Tab}   (e : ∀ id ∈ Zbb p, h id = h' id) : Zeb tab h t p = Zeb tab h' t p := by
 unfold Zeb
 cases tab t with
 | none => rfl
 | some ti =>
  cases p with
  | ptr id off => simp only; rw [e id (by simp [Zbb])]
  | eptr id k j => simp only; rw [e id (by simp [Zbb])]
  | g v => cases v <;> rfl
  | _ => rfl
theorem ZnB {tab : Tab}   {v : PV} (e : ∀ id ∈ Zbb p, h id = h' id) (e2 : ∀ id ∈ Zbb v, h id = h' id) (e3 : h nid = h' nid) : Zex tab nid h t p v = Zex tab nid h' t p v := by
 unfold Zex
 cases tab t with
 | none => rfl
 | some ti =>
  cases p with
  | ptr id off => simp only; rw [e id (by simp [Zbb])]
  | eptr id k j => cases j <;> simp only; rw [e id (by simp [Zbb]), e3, ZmF e2]
  | _ => rfl
theorem Znz {tab : Tab}    (e : ∀ id ∈ Zbb p, h id = h' id) : Ze7 tab h t p lo hi = Ze7 tab h' t p lo hi := by
 unfold Ze7
 cases p with
 | own id l0 len => simp only; rw [e id (by simp [Zbb])]
 | g v => cases v <;> rfl
 | _ => rfl
theorem ZqI {tab : Tab}    (e : ∀ id ∈ Zbb p, h id = h' id) : aSlc tab h t p lo hi = aSlc tab h' t p lo hi := by unfold aSlc; rw [Znz e]
theorem Znr {tab : Tab} {s : TypeId}  {f : Nat} (e : ∀ id ∈ Zbb p, h id = h' id) : Zep tab h s p f = Zep tab h' s p f := by
 unfold Zep
 rw [Zfw e]
theorem ZnU {tab : Tab}  {i : PV} (e : ∀ id ∈ Zbb p, h id = h' id) : Zbz tab h t p i = Zbz tab h' t p i := by
 unfold Zbz
 cases p with
 | own id l0 len => simp only; rw [e id (by simp [Zbb])]
 | ptr id off => simp only; rw [Zfw e]
 | eptr id k j => simp only; rw [Zfw e]
 | g v => cases v <;> rfl
 | _ => rfl
theorem Zp6 {tab : Tab}   (e : ∀ id ∈ Zbb p, h id = h' id) : aLen tab h t p = aLen tab h' t p := by
 unfold aLen
 cases tab t with
 | none => rfl
 | some ti =>
  obtain ⟨sz, k, z⟩ := ti
  cases p with
  | own id l0 len => cases k <;> first | rfl | (simp only; rw [e id (by simp [Zbb])])
  | g v => cases k <;> cases v <;> rfl
  | _ => cases k <;> rfl
theorem ZcD {f g : PV → Option GV} : ∀ (ps : List PV), (∀ p ∈ ps, f p = g p) → Zbo f ps = Zbo g ps
 | [], _ => rfl
 | p :: ps, e => by
  unfold Zbo
  rw [e p (by simp), ZcD ps fun q hq => e q (by simp [hq])]
theorem ZeK : ∀ (n : Nat) (p : PV), (∀ id ∈ vids h n p, h id = h' id) → view h n p = view h' n p
 | 0, _, _ => rfl
 | n + 1, p, e => by
  unfold view
  cases p with
  | own id lo len => simp only; rw [e id (by simp [vids])]
  | ptr id off =>
   cases off with
   | zero =>
    have e1 : h id = h' id := e id (by simp [vids])
    simp only
    rw [← e1]
    cases hid : h id with
    | box cs =>
     simp only
     rw [ZcD cs fun q hq => ZeK n q fun j hj => e j (by simp only [vids, hid, List.mem_cons, List.mem_flatMap]; exact .inr ⟨q, hq, hj⟩)]
    | _ => rfl
   | succ k => rfl
  | agg cs => simp only; rw [ZcD cs fun q hq => ZeK n q fun j hj => e j (by simp only [vids, List.mem_flatMap]; exact ⟨q, hq, hj⟩)]
  | fn f cs => simp only; rw [ZcD cs fun q hq => ZeK n q fun j hj => e j (by simp only [vids, List.mem_flatMap]; exact ⟨q, hq, hj⟩)]
  | _ => rfl
end
theorem Zbq  {tab : Tab}   (e : ∀ t, (x = .tmp t ∨ 65536 ≤ t) → S.slots t = S'.slots t) : S.ev tab ty x = S'.ev tab ty x := by
 cases x <;> simp only [AState.ev]
 ·exact e _ (.inl rfl)
 ·rename_i g; rw [e (65536 + g) (.inr (Nat.le_add_right _ _))]
theorem Zks {S S' : AState} {tab : Tab} : ∀ (xs : List Operand) (ts : List TypeId), (∀ x ∈ xs, ∀ t, (x = .tmp t ∨ 65536 ≤ t) → S.slots t = S'.slots t) → S.args tab xs ts = S'.args tab xs ts
 | [], ts, _ => by cases ts <;> rfl
 | x :: xs, [], e => by simp only [AState.args]; rw [Zbq (e x (by simp)), Zks xs [] fun y hy => e y (by simp [hy])]
 | x :: xs, t :: ts, e => by simp only [AState.args]; rw [Zbq (e x (by simp)), Zks xs ts fun y hy => e y (by simp [hy])]
theorem Zoi  {tab : Tab}   : ∀ id ∈ Zbb (S.ev tab ty x), id ∈ Zbb (S.ev tab 0 x) := by
 intro id hid
 cases x with
 | tmp t => exact hid
 | const v =>
  simp only [AState.ev] at hid
  unfold cst at hid
  split at hid <;> first | (simp [Zbb] at hid; done) | skip
  split at hid <;> first | (simp [Zbb] at hid; done) | skip
  split at hid <;> first | (simp [Zbb] at hid; done) | skip
  split at hid <;> first | (simp [Zbb] at hid; done) | skip
  split at hid <;> simp [Zbb] at hid
 | global g => exact hid
 | func f => simp [AState.ev, Zbb] at hid
theorem Zls  {tab : Tab}     {ws : List (Nat × Block)} (hs : aOp tab nid o S = some (pv, ws) ∨ Zle P tab nid o S pv ws) (h1 : ∀ x ∈ o.op.operands.toList, ∀ t, (x = .tmp t ∨ 65536 ≤ t) → S.slots t = S'.slots t) (h2 : ∀ id ∈ tch tab nid o S, S.heap id = S'.heap id) : aOp tab nid o S' = some (pv, ws) ∨ Zle P tab nid o S' pv ws := by
 have hnid : S.heap nid = S'.heap nid := h2 nid (by simp only [tch, List.mem_append, List.mem_map, List.mem_range]; exact .inl ⟨0, by omega, rfl⟩)
 have hev : ∀ ty x, x ∈ o.op.operands.toList → S.ev tab ty x = S'.ev tab ty x := fun ty x hx => Zbq (h1 x hx)
 rcases hs with hs | hs
 ·refine .inl ?_
  rw [← hs]
  by_cases hcall : ∃ f args tys, o.op = .call { callee := .value f, args := args, argTypes := tys }
  ·obtain ⟨f, args, tys, ho⟩ := hcall
   unfold aOp
   simp only [ho, ZkR]
  ·by_cases hmv : ∃ x, o.op = .move x ∨ o.op = .assign x
   ·obtain ⟨x, ho | ho⟩ := hmv
    ·rw [ho] at hev
     unfold aOp
     simp only [ho]
     rw [hev o.type x (by simp [Op.operands])]
    ·rw [ho] at hev
     unfold aOp
     simp only [ho]
     rw [hev o.type x (by simp [Op.operands])]
   have h3 : ∀ ty x, x ∈ o.op.operands.toList → ∀ id ∈ Zbb (S.ev tab ty x), S.heap id = S'.heap id := fun ty x hx id hid => h2 id (by
    unfold tch
    refine List.mem_append.2 (.inr ?_)
    split
    ·rename_i f args tys ho; exact absurd ⟨f, args, tys, ho⟩ hcall
    ·rename_i y ho; exact absurd ⟨y, .inl ho⟩ hmv
    ·rename_i y ho; exact absurd ⟨y, .inr ho⟩ hmv
    ·simp only [List.mem_flatMap]; exact ⟨x, hx, Zoi id hid⟩)
   unfold aOp
   cases ho : o.op with
   | move x => rw [ho] at hev; simp only; rw [hev o.type x (by simp [Op.operands])]
   | assign x => rw [ho] at hev; simp only; rw [hev o.type x (by simp [Op.operands])]
   | pick c x y => rw [ho] at hev; simp only; rw [hev 0 c (by simp [Op.operands]), hev o.type x (by simp [Op.operands]), hev o.type y (by simp [Op.operands])]
   | alloc elem => simp only [ZlL]; rw [hnid]
   | box elem x => rw [ho] at hev; simp only [aBox]; rw [hnid, hev elem x (by simp [Op.operands])]
   | build t parts =>
    rw [ho] at hev
    have e : ∀ ti : TI, (parts.toList.map fun (x : Nat × Operand) => (x.1, S.ev tab (ZfQ ti x.1) x.2)) = parts.toList.map fun (x : Nat × Operand) => (x.1, S'.ev tab (ZfQ ti x.1) x.2) := fun ti => List.map_congr_left fun x hx => by
     rw [hev (ZfQ ti x.1) x.2 (by simp only [Op.operands, List.toList_toArray]; exact List.mem_map.2 ⟨x, hx, rfl⟩)]
    simp only [e]
   | buildSlice t len parts =>
    rw [ho] at hev h3
    have hmem : ∀ x ∈ parts.toList, x.2 ∈ (Op.buildSlice t len parts).operands.toList := fun x hx => by simp only [Op.operands, List.toList_toArray]; exact List.mem_map.2 ⟨x, hx, rfl⟩
    have e : ∀ E : TypeId, (parts.toList.map fun (x : Nat × Operand) => S.ev tab E x.2) = parts.toList.map fun (x : Nat × Operand) => S'.ev tab E x.2 := fun E => List.map_congr_left fun x hx => hev E x.2 (hmem x hx)
    simp only [aLit]
    rw [hnid]
    cases ZbO tab t with
    | none => rfl
    | some Ee =>
     obtain ⟨E, n⟩ := Ee
     simp only
     rw [ZkB (f := absE) (h := S.heap) (h' := S'.heap) (D := Zbb) (fun e => ZmF e) _ (fun q hq => by
      simp only [List.mem_map] at hq
      obtain ⟨x, hx, rfl⟩ := hq
      exact h3 E x.2 (hmem x hx)), e E]
   | load t x =>
    rw [ho] at hev h3
    have hm : x ∈ (Op.load t x).operands.toList := by simp [Op.operands]
    have h4 := h3 0 x hm
    simp only
    rw [← hev 0 x hm, Zpq h4]
   | store t x y =>
    rw [ho] at hev h3
    have hm : x ∈ (Op.store t x y).operands.toList := by simp [Op.operands]
    have hm2 : y ∈ (Op.store t x y).operands.toList := by simp [Op.operands]
    have h4 := h3 0 x hm
    simp only
    rw [← hev 0 x hm, ← hev t y hm2, ZnB h4 (h3 t y hm2) hnid]
   | nilCheck x =>
    rw [ho] at hev h3
    have hm : x ∈ (Op.nilCheck x).operands.toList := by simp [Op.operands]
    simp only [aNil]
    rw [← hev 0 x hm, Zfw (h3 0 x hm)]
   | binOp op t x y t' => rw [ho] at hev; simp only; rw [hev 0 x (by simp [Op.operands]), hev 0 y (by simp [Op.operands])]
   | unOp op t x => rw [ho] at hev; simp only; rw [hev 0 x (by simp [Op.operands])]
   | convert s d x => rw [ho] at hev; simp only; rw [hev 0 x (by simp [Op.operands])]
   | makeFunc fn first caps =>
    rw [ho] at hev
    cases fn with
    | func f =>
     simp only
     have e : caps.toList.map (S.ev tab 0) = caps.toList.map (S'.ev tab 0) := List.map_congr_left fun x hx => hev 0 x (by simp only [Op.operands, Array.toList_append]; exact List.mem_append.2 (.inr hx))
     rw [e]
    | _ => rfl
   | makeSlice t l c => rw [ho] at hev; simp only [Zjs, Znw, ZlB]; rw [hnid, hev 0 l (by simp [Op.operands]), hev 0 c (by simp [Op.operands])]
   | slice t x lo hi mx =>
    rw [ho] at hev h3
    have hm : x ∈ (Op.slice t x lo hi mx).operands.toList := by simp [Op.operands]
    have h4 := h3 0 x hm
    cases mx with
    | some m => rfl
    | none =>
     have e1 : lo.map (S.ev tab 0) = lo.map (S'.ev tab 0) := by
      cases lo with
      | none => rfl
      | some y => simp only [Option.map_some]; rw [hev 0 y (by simp [Op.operands])]
     have e2 : hi.map (S.ev tab 0) = hi.map (S'.ev tab 0) := by
      cases hi with
      | none => rfl
      | some y => simp only [Option.map_some]; rw [hev 0 y (by simp [Op.operands])]
     simp only
     rw [← e1, ← e2, ← hev 0 x hm, ZqI h4]
   | fieldAddr s x f =>
    rw [ho] at hev h3
    have hm : x ∈ (Op.fieldAddr s x f).operands.toList := by simp [Op.operands]
    have h4 := h3 0 x hm
    simp only
    rw [← hev 0 x hm, Znr h4]
   | field t x f => rw [ho] at hev; simp only; rw [hev 0 x (by simp [Op.operands])]
   | indexAddr t x i =>
    rw [ho] at hev h3
    have hm : x ∈ (Op.indexAddr t x i).operands.toList := by simp [Op.operands]
    have h4 := h3 0 x hm
    simp only
    rw [← hev 0 x hm, ← hev 0 i (by simp [Op.operands]), ZnU h4]
   | index t x i => rw [ho] at hev; simp only; rw [hev 0 x (by simp [Op.operands]), hev 0 i (by simp [Op.operands])]
   | extract x i => rw [ho] at hev; simp only; rw [hev 0 x (by simp [Op.operands])]
   | call c =>
    rw [ho] at hev h3
    obtain ⟨callee, args, tys⟩ := c
    simp only [ZkR]
    split
    ·rename_i x t h5 h6
     have hm : x ∈ (Op.call { callee := .builtin .len, args := args, argTypes := tys }).operands.toList := by simp only [Op.operands, Call.operands, Array.empty_append]; rw [h5]; simp
     have h4 := h3 0 x hm
     rw [← hev 0 x hm, Zp6 h4]
    ·rename_i x y t t' h5 h6
     have hm : x ∈ (Op.call { callee := .builtin .append, args := args, argTypes := tys }).operands.toList := by simp only [Op.operands, Call.operands, Array.empty_append]; rw [h5]; simp
     have hm2 : y ∈ (Op.call { callee := .builtin .append, args := args, argTypes := tys }).operands.toList := by simp only [Op.operands, Call.operands, Array.empty_append]; rw [h5]; simp
     split
     ·simp only [aApp]
      rw [← hev t x hm, ← hev t y hm2, ← hnid]
      cases ZbO tab t with
      | none => rfl
      | some Ee =>
       obtain ⟨E, n⟩ := Ee
       simp only
       rw [Znf (h := S.heap) (h' := S'.heap) (h3 t y hm2)]
       cases srcE S'.heap n (S.ev tab t y) with
       | none => rfl
       | some r =>
        obtain ⟨ys, ks2, d2⟩ := r
        simp only
        rw [Zru (h := killL S.heap ks2) (h' := killL S'.heap ks2) fun id hid => ZiG (h3 t x hm id hid)]
     ·rfl
    ·rename_i x y h5
     have hm : x ∈ (Op.call { callee := .builtin .max, args := args, argTypes := tys }).operands.toList := by simp only [Op.operands, Call.operands, Array.empty_append]; rw [h5]; simp
     have hm2 : y ∈ (Op.call { callee := .builtin .max, args := args, argTypes := tys }).operands.toList := by simp only [Op.operands, Call.operands, Array.empty_append]; rw [h5]; simp
     rw [← hev 0 x hm, ← hev 0 y hm2]
    ·rename_i x y h5
     have hm : x ∈ (Op.call { callee := .builtin .min, args := args, argTypes := tys }).operands.toList := by simp only [Op.operands, Call.operands, Array.empty_append]; rw [h5]; simp
     have hm2 : y ∈ (Op.call { callee := .builtin .min, args := args, argTypes := tys }).operands.toList := by simp only [Op.operands, Call.operands, Array.empty_append]; rw [h5]; simp
     rw [← hev 0 x hm, ← hev 0 y hm2]
    ·rfl
   | _ => rfl
 ·refine .inr ?_
  unfold Zle at hs ⊢
  split at hs
  ·rename_i f args tys ho
   obtain ⟨fid, caps, q1, gs, q2, r, q3, q4, q8, q5, q6, q7⟩ := hs
   rw [ho] at hev h1
   have hmf : f ∈ (Op.call { callee := .value f, args := args, argTypes := tys }).operands.toList := by simp [Op.operands, Call.operands]
   have hma : ∀ x ∈ args.toList, x ∈ (Op.call { callee := .value f, args := args, argTypes := tys }).operands.toList := fun x hx => by simp only [Op.operands, Call.operands, Array.toList_append]; exact List.mem_append.2 (.inr hx)
   have ht : ∀ id, id ∈ (S.args tab args.toList tys.toList).flatMap (vids S.heap 6) ++ caps.flatMap (vids S.heap 6) → S.heap id = S'.heap id := fun id hid => h2 id (by
    unfold tch
    simp only [ho, q1]
    exact List.mem_append.2 (.inr hid))
   have hargs := Zks (tab := tab) args.toList tys.toList (fun x hx => h1 x (hma x hx))
   refine ⟨fid, caps, by rw [← hev 0 f hmf]; exact q1, gs, ?_, r, q3.imp id fun ⟨cs, e, hc⟩ => ⟨cs, by rw [← h1 f hmf 65536 (.inr (Nat.le_refl _))]; exact e, hc⟩, q4, q8, ?_, q6, q7⟩
   ·rw [← hargs, ← q2]
    refine (ZcD _ fun p hp => ZeK 6 p fun id hid => ht id ?_).symm
    rcases List.mem_append.1 hp with h5 | h5
    ·exact List.mem_append.2 (.inl (List.mem_flatMap.2 ⟨p, h5, hid⟩))
    ·exact List.mem_append.2 (.inr (List.mem_flatMap.2 ⟨p, h5, hid⟩))
   ·simp only [List.all_eq_true, List.mem_range] at q5 ⊢
    intro i hi
    rw [← h2 (nid + i) (by simp only [tch, List.mem_append, List.mem_map, List.mem_range]; exact .inl ⟨i, by omega, rfl⟩)]
    exact q5 i hi
  ·exact hs.elim
theorem Zpg  {tab : Tab} (ht : TabOk P tab)     {ws : List (Nat × Block)} (hs : Zes P tab nid o S pv ws) (h1 : ∀ x ∈ o.op.operands.toList, ∀ t, (x = .tmp t ∨ 65536 ≤ t) → S.slots t = S'.slots t) (h2 : ∀ id ∈ tch tab nid o S, S.heap id = S'.heap id)
  {w0 : W0} {a : Act} {w : World} {μ : Lay} {who : Nat → Option Nat} (hr : RelAt w0 S' a w μ who) : Does P w0 a (S'.writes ws) pv ((execOp a.eval o).run P w) := by
 rcases hs with hs | hs | hs
 ·exact Zj7 ht hr ((Zls (.inl hs) h1 h2).elim .inl fun h => .inr (.inl h))
 ·exact Zj7 ht hr ((Zls (.inr hs) h1 h2).elim .inl fun h => .inr (.inl h))
 ·exact hs S' h1 h2 _ _ _ _ _ hr
end Go.Proofs.YtjjidamlmebaaaaGreat
namespace Go.Proofs.YtjjidamlmebaaaaGreat
open Go.RowKit
open Shp
variable {tw : List (List Nat × List Nat)} {j : Nat} {oj : Oper}
structure Rec where
 on : Bool
 pv : PV
 ws : List (Nat × Block)
 deriving Inhabited
def Rec.app (r : Rec) (d : Option Nat) (S : AState) : AState := (S.writes r.ws).put d r.pv
def AD (P : Program) (tab : Tab) (ops : Array Oper) : Nat → List Oper → AState → List (List Nat × List Nat) → (AState → List (List Nat × List Nat) → Prop) → Prop
 | _, [], S, acc, K => K S acc
 | i, o :: os, S, acc, K => ∃ b, Zd7 ops o S = some b ∧ S.has o.dst = true ∧ (b = true → ∃ pv ws, Zes P tab (S.nx + 8 * i) o S pv ws ∧ AD P tab ops (i + 1) os ((S.writes ws).put o.dst pv) (acc ++ [(tch tab (S.nx + 8 * i) o S, ws.map (·.1))]) K) ∧
   (b = false → AD P tab ops (i + 1) os (S.put o.dst .none_) (acc ++ [([], [])]) K)
def RunR (P : Program) (tab : Tab) (ops : Array Oper) : Nat → List Oper → AState → List Rec → List (List Nat × List Nat) → AState → Prop
 | _, [], S, rs, tw, S' => rs = [] ∧ tw = [] ∧ S' = S
 | i, o :: os, S, rs, tw, S' => ∃ r rs' x tw', rs = r :: rs' ∧ tw = x :: tw' ∧ Zd7 ops o S = some r.on ∧ S.has o.dst = true ∧ (r.on = true → Zes P tab (S.nx + 8 * i) o S r.pv r.ws ∧ x = (tch tab (S.nx + 8 * i) o S, r.ws.map (·.1))) ∧ (r.on = false → r.pv = .none_ ∧ r.ws = [] ∧ x = ([], [])) ∧
   RunR P tab ops (i + 1) os (r.app o.dst S) rs' tw' S'
theorem ZpE {P : Program} {tab : Tab} {ops : Array Oper} {K : AState → List (List Nat × List Nat) → Prop} : ∀ (os : List Oper) (i : Nat) (S : AState) (acc : List (List Nat × List Nat)), AD P tab ops i os S acc K → ∃ rs tw S', RunR P tab ops i os S rs tw S' ∧ K S' (acc ++ tw)
 | [], i, S, acc, h => ⟨[], [], S, ⟨rfl, rfl, rfl⟩, by simpa [AD] using h⟩
 | o :: os, i, S, acc, h => by
  obtain ⟨b, hb, hd, h1, h2⟩ := h
  cases b with
  | true =>
   obtain ⟨pv, ws, hs, hn⟩ := h1 rfl
   obtain ⟨rs, tw, S', q1, q2⟩ := ZpE os _ _ _ hn
   exact ⟨⟨true, pv, ws⟩ :: rs, _ :: tw, S', ⟨⟨true, pv, ws⟩, rs, _, tw, rfl, rfl, hb, hd, fun _ => ⟨hs, rfl⟩, fun e => (by cases e), q1⟩, by simpa using q2⟩
  | false =>
   obtain ⟨rs, tw, S', q1, q2⟩ := ZpE os _ _ _ (h2 rfl)
   exact ⟨⟨false, .none_, []⟩ :: rs, _ :: tw, S', ⟨⟨false, .none_, []⟩, rs, _, tw, rfl, rfl, hb, hd, fun e => (by cases e), fun _ => ⟨rfl, rfl, rfl⟩, q1⟩, by simpa using q2⟩
def Zo9 (acc : List Nat) (o : Oper) : Nat := o.after.toList.foldl (fun s e => if Region.binds .any e then s ||| 2 ^ e.on ||| acc.getD e.on 0 else s) 0
def befs : List Oper → List Nat → List Nat
 | [], acc => acc
 | o :: os, acc => befs os (acc ++ [Zo9 acc o])
def Zi8 (ops : Array Oper) (oi oj : Oper) (ti wi tj wj : List Nat) : Bool :=
 (match oi.dst with
  | some d => oj.dst == some d || (oj.looksAt ops).contains d
  | none => false) ||
 (match oj.dst with
  | some d => (oi.looksAt ops).contains d
  | none => false) ||
 wi.any (fun x => wj.contains x || tj.contains x) || wj.any (fun x => ti.contains x)
def ordB (l : List Oper) (tw : List (List Nat × List Nat)) : Bool :=
 let bs := befs l []
 (List.range l.length).all fun j => match l[j]? with
  | some oj => (oj.after.toList.all fun e => !Region.binds .any e || decide (e.on < j)) && (List.range j).all fun i => match l[i]? with
   | some oi => !Zi8 l.toArray oi oj (tw.getD i ([], [])).1 (tw.getD i ([], [])).2 (tw.getD j ([], [])).1 (tw.getD j ([], [])).2 || (bs.getD j 0).testBit i
   | none => true
  | none => true
section
variable {l : List Oper}
def ZnF (l : List Oper) (L : Nat → Bool) : Prop := ∀ j o, l[j]? = some o → L j = true → ∀ e ∈ o.after, Region.binds .any e = true → L e.on = true
def Zll (l : List Oper) (L : Nat → Bool) (j : Nat) : Prop := ∀ o, l[j]? = some o → ∀ e ∈ o.after, Region.binds .any e = true → L e.on = true
theorem ZiQ {s n m i : Nat} (h : (s ||| 2 ^ n ||| m).testBit i = true) : s.testBit i = true ∨ n = i ∨ m.testBit i = true := by
 simp only [Nat.testBit_or, Nat.testBit_two_pow, Bool.or_eq_true, decide_eq_true_eq] at h
 rcases h with (h | h) | h
 ·exact .inl h
 ·exact .inr (.inl h)
 ·exact .inr (.inr h)
theorem Zoc {acc : List Nat} {o : Oper} {i : Nat} (h : (Zo9 acc o).testBit i = true) : ∃ e ∈ o.after, Region.binds .any e = true ∧ (e.on = i ∨ (acc.getD e.on 0).testBit i = true) := by
 unfold Zo9 at h
 have key : ∀ (es : List Edge) (s : Nat), (es.foldl (fun s e => if Region.binds .any e then s ||| 2 ^ e.on ||| acc.getD e.on 0 else s) s).testBit i = true → s.testBit i = true ∨ ∃ e ∈ es, Region.binds .any e = true ∧ (e.on = i ∨ (acc.getD e.on 0).testBit i = true) := by
  intro es
  induction es with
  | nil => intro s h; exact .inl h
  | cons e es ih =>
   intro s h
   simp only [List.foldl_cons] at h
   rcases ih _ h with h1 | ⟨e', h1, h2⟩
   ·split at h1
    ·rename_i hb
     rcases ZiQ h1 with h3 | h3 | h3
     ·exact .inl h3
     ·exact .inr ⟨e, by simp, hb, .inl h3⟩
     ·exact .inr ⟨e, by simp, hb, .inr h3⟩
    ·exact .inl h1
   ·exact .inr ⟨e', by simp [h1], h2⟩
 rcases key _ _ h with h1 | ⟨e, h1, h2⟩
 ·simp at h1
 ·exact ⟨e, by simpa using h1, h2⟩
theorem ZoC : ∀ (os : List Oper) (acc : List Nat) (pre : List Oper), acc.length = pre.length → pre ++ os = l → (∀ j, j < acc.length → ∀ i, (acc.getD j 0).testBit i = true → ∀ L, ZnF l L → (L j = true ∨ Zll l L j) → L i = true) →
  ∀ j i, ((befs os acc).getD j 0).testBit i = true → ∀ L, ZnF l L → (L j = true ∨ Zll l L j) → L i = true
 | [], acc, pre, hl, hp, h => fun j i hb L hd hr => by
  by_cases hj : j < acc.length
  ·exact h j hj i hb L hd hr
  ·simp only [befs, List.getD] at hb
   rw [List.getElem?_eq_none (by omega)] at hb
   simp at hb
 | o :: os, acc, pre, hl, hp, h => by
  refine ZoC os (acc ++ [Zo9 acc o]) (pre ++ [o]) (by simp [hl]) (by simp [hp]) fun j hj i hb L hd hr => ?_
  by_cases hlt : j < acc.length
  ·refine h j hlt i ?_ L hd hr
   simpa [List.getD, List.getElem?_append_left hlt] using hb
  ·have hje : j = acc.length := by simp at hj; omega
   subst hje
   have hb' : (Zo9 acc o).testBit i = true := by simpa [List.getD] using hb
   have ho : l[acc.length]? = some o := by rw [← hp, hl]; simp
   obtain ⟨e, he, hbind, h2⟩ := Zoc hb'
   have hon : L e.on = true := by
    rcases hr with hr | hr
    ·exact hd _ o ho hr e he hbind
    ·exact hr o ho e he hbind
   rcases h2 with rfl | h2
   ·exact hon
   ·by_cases hlt2 : e.on < acc.length
    ·exact h e.on hlt2 i h2 L hd (.inl hon)
    ·simp only [List.getD] at h2
     rw [List.getElem?_eq_none (by omega)] at h2
     simp at h2
theorem Zr2  (h : ordB l tw = true) {i : Nat} {oi : Oper} (hi : l[i]? = some oi) (hj : l[j]? = some oj) (hij : i < j) (hc : Zi8 l.toArray oi oj (tw.getD i ([], [])).1 (tw.getD i ([], [])).2 (tw.getD j ([], [])).1 (tw.getD j ([], [])).2 = true) {L : Nat → Bool} (hd : ZnF l L) (hr : L j = true ∨ Zll l L j) : L i = true := by
 unfold ordB at h
 simp only [List.all_eq_true, List.mem_range] at h
 have hjl : j < l.length := (List.getElem?_eq_some_iff.1 hj).1
 have h1 := h j hjl
 simp only [hj, Bool.and_eq_true, List.all_eq_true, List.mem_range] at h1
 have h2 := h1.2 i hij
 simp only [hi, hc, Bool.not_true, Bool.false_or] at h2
 exact ZoC l [] [] rfl rfl (by intro j hj; simp at hj) j i h2 L hd hr
theorem Zrw  (h : ordB l tw = true)   (hj : l[j]? = some oj) : ∀ e ∈ oj.after, Region.binds .any e = true → e.on < j := by
 unfold ordB at h
 simp only [List.all_eq_true, List.mem_range] at h
 have h1 := h j (List.getElem?_eq_some_iff.1 hj).1
 simp only [hj, Bool.and_eq_true, List.all_eq_true] at h1
 intro e he hb
 have := h1.1 e (by simpa using he)
 simpa [hb] using this
end
end Go.Proofs.YtjjidamlmebaaaaGreat
namespace Go.Proofs.YtjjidamlmebaaaaGreat
open Go.RowKit
open Shp
variable {S : AState} {L : Nat → Bool} {o : Oper} {t : Nat}
theorem AState.ext' {S' : AState} (h1 : S.n = S'.n) (h2 : ∀ t, S.slots t = S'.slots t) (h3 : ∀ id, S.heap id = S'.heap id) (h4 : S.nx = S'.nx) : S = S' := by
 cases S; cases S'
 simp only at h1 h2 h3 h4
 subst h1; subst h4
 congr
 ·exact funext h2
 ·exact funext h3
def Zgt (l : List Oper) (k : Nat) : Option Nat := (l[k]?).bind (·.dst)
def runA (l : List Oper) (rec : Nat → Rec) (S0 : AState) (L : Nat → Bool) : Nat → AState
 | 0 => S0
 | k + 1 => if L k then (rec k).app (Zgt l k) (runA l rec S0 L k) else runA l rec S0 L k
theorem ZuI (r : Rec) (d : Option Nat) (S : AState) : (r.app d S).n = S.n ∧ (r.app d S).nx = S.nx := by cases d <;> exact ⟨rfl, rfl⟩
theorem Zct (r : Rec) (d : Option Nat) (S : AState) (t : Nat) : (r.app d S).slots t = if d = some t then r.pv else S.slots t := by
 cases d with
 | none => simp [Rec.app, AState.put, AState.writes]
 | some d =>
  simp only [Rec.app, AState.put, AState.writes, upd, Option.some.injEq]
  by_cases e : t = d
  ·simp [e]
  ·rw [if_neg e, if_neg (fun h => e h.symm)]
theorem ZeD (r : Rec) (d : Option Nat) (S : AState) : (r.app d S).heap = ZaU S.heap r.ws := by cases d <;> rfl
section
variable {l : List Oper} {rec : Nat → Rec} {S0 : AState}
theorem Ze4 (L : Nat → Bool) : ∀ k, (runA l rec S0 L k).n = S0.n ∧ (runA l rec S0 L k).nx = S0.nx
 | 0 => ⟨rfl, rfl⟩
 | k + 1 => by
  unfold runA
  split
  ·rw [(ZuI _ _ _).1, (ZuI _ _ _).2]; exact Ze4 L k
  ·exact Ze4 L k
theorem Zdj {L L' : Nat → Bool} {t : Nat} : ∀ {k : Nat}, (∀ j, j < k → Zgt l j = some t → L j = L' j) → (runA l rec S0 L k).slots t = (runA l rec S0 L' k).slots t
 | 0, _ => rfl
 | k + 1, h => by
  have ih := Zdj (k := k) fun j hj hd => h j (by omega) hd
  unfold runA
  by_cases hd : Zgt l k = some t
  ·rw [h k (by omega) hd]
   split
   ·rw [Zct, Zct, if_pos hd, if_pos hd]
   ·exact ih
  ·have e1 : ∀ b : Bool, (if b = true then (rec k).app (Zgt l k) (runA l rec S0 L k) else runA l rec S0 L k).slots t = (runA l rec S0 L k).slots t := fun b => by
    cases b
    ·rfl
    ·simp only [if_true]; rw [Zct, if_neg hd]
   have e2 : ∀ b : Bool, (if b = true then (rec k).app (Zgt l k) (runA l rec S0 L' k) else runA l rec S0 L' k).slots t = (runA l rec S0 L' k).slots t := fun b => by
    cases b
    ·rfl
    ·simp only [if_true]; rw [Zct, if_neg hd]
   rw [e1, e2]; exact ih
theorem ZfI {L L' : Nat → Bool} {id : Nat} : ∀ {k : Nat}, (∀ j, j < k → id ∈ (rec j).ws.map (·.1) → L j = L' j) → (runA l rec S0 L k).heap id = (runA l rec S0 L' k).heap id
 | 0, _ => rfl
 | k + 1, h => by
  have ih := ZfI (k := k) fun j hj hd => h j (by omega) hd
  unfold runA
  by_cases hd : id ∈ (rec k).ws.map (·.1)
  ·rw [h k (by omega) hd]
   split
   ·rw [ZeD, ZeD]; exact ZiF hd
   ·exact ih
  ·have e1 : ∀ (b : Bool) (M : Nat → Bool), (if b = true then (rec k).app (Zgt l k) (runA l rec S0 M k) else runA l rec S0 M k).heap id = (runA l rec S0 M k).heap id := fun b M => by
    cases b
    ·rfl
    ·simp only [if_true]; rw [ZeD, ZbW hd]
   rw [e1, e1]; exact ih
theorem ZjD {L' : Nat → Bool} {k : Nat} (h : ∀ j, j < k → L j = L' j) : runA l rec S0 L k = runA l rec S0 L' k :=
 AState.ext' (by rw [(Ze4 L k).1, (Ze4 L' k).1]) (fun t => Zdj fun j hj _ => h j hj) (fun id => ZfI fun j hj _ => h j hj) (by rw [(Ze4 L k).2, (Ze4 L' k).2])
theorem ZhA (L : Nat → Bool) (i : Nat) : ∀ k, i ≤ k → runA l rec S0 (fun j => L j && decide (j < i)) k = runA l rec S0 L i
 | 0, h => by
  have : i = 0 := by omega
  subst this; rfl
 | k + 1, h => by
  by_cases e : i = k + 1
  ·subst e
   exact ZjD fun j hj => by simp [hj]
  ·conv => lhs; unfold runA
   rw [if_neg (by simp; omega)]
   exact ZhA L i k (by omega)
theorem ZkQ {L : Nat → Bool} {i : Nat} (hi : L i = true) : ∀ {k : Nat}, i < k → (∀ t, Zgt l i = some t → (∀ j, j < k → i < j → L j = true → Zgt l j ≠ some t) → (runA l rec S0 L k).slots t = (rec i).pv) ∧
  (∀ id, id ∈ (rec i).ws.map (·.1) → (∀ j, j < k → i < j → L j = true → id ∉ (rec j).ws.map (·.1)) → ∀ h, (runA l rec S0 L k).heap id = ZaU h (rec i).ws id)
 | 0, h => by omega
 | k + 1, h => by
  by_cases e : i = k
  ·subst e
   unfold runA
   rw [if_pos hi]
   exact ⟨fun t ht _ => by rw [Zct, if_pos ht], fun id hid _ h => by rw [ZeD]; exact ZiF hid⟩
  ·obtain ⟨h1, h2⟩ := ZkQ hi (k := k) (by omega)
   unfold runA
   refine ⟨fun t ht hj => ?_, fun id hid hj h => ?_⟩
   ·have := h1 t ht fun j hjk => hj j (by omega)
    split
    ·rename_i hk
     rw [Zct, if_neg (hj k (by omega) (by omega) hk)]; exact this
    ·exact this
   ·have := h2 id hid (fun j hjk => hj j (by omega)) h
    split
    ·rename_i hk
     rw [ZeD, ZbW (hj k (by omega) (by omega) hk)]; exact this
    ·exact this
end
structure RunI (P : Program) (tab : Tab) (l : List Oper) (S0 : AState) (rec : Nat → Rec) (tw : List (List Nat × List Nat)) : Prop where
 all : ∀ k o, l[k]? = some o → Zd7 l.toArray o (runA l rec S0 (fun _ => true) k) = some (rec k).on ∧ S0.has o.dst = true ∧
  ((rec k).on = true → Zes P tab (S0.nx + 8 * k) o (runA l rec S0 (fun _ => true) k) (rec k).pv (rec k).ws ∧ tw.getD k ([], []) = (tch tab (S0.nx + 8 * k) o (runA l rec S0 (fun _ => true) k), (rec k).ws.map (·.1))) ∧
  ((rec k).on = false → (rec k).pv = .none_ ∧ (rec k).ws = [] ∧ tw.getD k ([], []) = ([], []))
theorem Zjx {P : Program} {tab : Tab} {S0 : AState} : ∀ (os pre : List Oper) (rpre rs : List Rec) (tpre tw : List (List Nat × List Nat)) (S S' : AState), rpre.length = pre.length → tpre.length = pre.length → RunR P tab (pre ++ os).toArray pre.length os S rs tw S' →
  S = runA (pre ++ os) (fun k => (rpre ++ rs).getD k default) S0 (fun _ => true) pre.length →
  (∀ k o, pre.length ≤ k → (pre ++ os)[k]? = some o → Zd7 (pre ++ os).toArray o (runA (pre ++ os) (fun k => (rpre ++ rs).getD k default) S0 (fun _ => true) k) = some ((rpre ++ rs).getD k default).on ∧ S0.has o.dst = true ∧
   (((rpre ++ rs).getD k default).on = true → Zes P tab (S0.nx + 8 * k) o (runA (pre ++ os) (fun k => (rpre ++ rs).getD k default) S0 (fun _ => true) k) ((rpre ++ rs).getD k default).pv ((rpre ++ rs).getD k default).ws ∧ (tpre ++ tw).getD k ([], []) = (tch tab (S0.nx + 8 * k) o (runA (pre ++ os) (fun k => (rpre ++ rs).getD k default) S0 (fun _ => true) k), ((rpre ++ rs).getD k default).ws.map (·.1))) ∧
   (((rpre ++ rs).getD k default).on = false → ((rpre ++ rs).getD k default).pv = .none_ ∧ ((rpre ++ rs).getD k default).ws = [] ∧ (tpre ++ tw).getD k ([], []) = ([], []))) ∧
  S' = runA (pre ++ os) (fun k => (rpre ++ rs).getD k default) S0 (fun _ => true) (pre ++ os).length
 | [], pre, rpre, rs, tpre, tw, S, S', h1, h2, h, hS => by
  obtain ⟨rfl, rfl, rfl⟩ := h
  refine ⟨fun k o hk ho => ?_, by simpa using hS⟩
  have := (List.getElem?_eq_some_iff.1 ho).1
  simp at this; omega
 | o :: os, pre, rpre, rs, tpre, tw, S, S', h1, h2, h, hS => by
  obtain ⟨r, rs', x, tw', rfl, rfl, q1, q2, q3, q4, q5⟩ := h
  have e1 : pre ++ o :: os = (pre ++ [o]) ++ os := by simp
  have e2 : rpre ++ r :: rs' = (rpre ++ [r]) ++ rs' := by simp
  have e3 : tpre ++ x :: tw' = (tpre ++ [x]) ++ tw' := by simp
  have hr : (rpre ++ r :: rs').getD pre.length default = r := by rw [← h1]; simp [List.getD]
  have hx : (tpre ++ x :: tw').getD pre.length ([], []) = x := by rw [← h2]; simp [List.getD]
  have ho : (pre ++ o :: os)[pre.length]? = some o := by simp
  have hsn := Ze4 (l := pre ++ o :: os) (rec := fun k => (rpre ++ r :: rs').getD k default) (S0 := S0) (fun _ => true) pre.length
  have hnx : S.nx = S0.nx := by rw [hS]; exact hsn.2
  have hn : S.n = S0.n := by rw [hS]; exact hsn.1
  have hlen : pre.length + 1 = (pre ++ [o]).length := by simp
  have hS2 : r.app o.dst S = runA ((pre ++ [o]) ++ os) (fun k => ((rpre ++ [r]) ++ rs').getD k default) S0 (fun _ => true) (pre ++ [o]).length := by
   rw [← e1, ← e2, ← hlen]
   conv => rhs; unfold runA
   rw [if_pos rfl, ← hS, hr]
   have : Zgt (pre ++ o :: os) pre.length = o.dst := by unfold Zgt; rw [ho]; rfl
   rw [this]
  rw [e1, hlen] at q5
  obtain ⟨f1, f2⟩ := Zjx os (pre ++ [o]) (rpre ++ [r]) rs' (tpre ++ [x]) tw' _ S' (by simp [h1]) (by simp [h2]) q5 hS2
  rw [← e1, ← e2, ← e3] at f1
  rw [← e1, ← e2] at f2
  refine ⟨fun k o' hk ho' => ?_, f2⟩
  by_cases e : k = pre.length
  ·subst e
   rw [ho] at ho'
   cases ho'
   rw [hr, hx, ← hS]
   refine ⟨q1, ?_, fun hon => ?_, fun hoff => q4 hoff⟩
   ·cases hd : o.dst with
    | none => rfl
    | some d => rw [hd] at q2; simp only [AState.has] at q2 ⊢; rw [← hn]; exact q2
   ·rw [← hnx]; exact q3 hon
  ·exact f1 k o' (by simp; omega) ho'
section
variable {P : Program} {tab : Tab} {l : List Oper} {rec : Nat → Rec} {S0 : AState} {tw : List (List Nat × List Nat)}
theorem Zrn  {ops : Array Oper}  (h : ∃ x ∈ o.op.operands.toList, x = .tmp t) : t ∈ o.looksAt ops := by
 obtain ⟨x, hx, rfl⟩ := h
 unfold Oper.looksAt
 exact List.mem_append.2 (.inl (List.mem_filterMap.2 ⟨_, hx, rfl⟩))
theorem Ztb (hI : RunI P tab l S0 rec tw) (ho : ordB l tw = true)  (hd : ZnF l L) {i : Nat}  (hi : l[i]? = some o) (hno : L i = false) (hr : Zll l L i) :
  (∀ t, t ∈ o.looksAt l.toArray → (runA l rec S0 (fun _ => true) i).slots t = (runA l rec S0 L l.length).slots t) ∧ (∀ id, id ∈ (tw.getD i ([], [])).1 → (runA l rec S0 (fun _ => true) i).heap id = (runA l rec S0 L l.length).heap id) ∧
  runA l rec S0 (fun j => if j = i then true else L j) l.length = (rec i).app o.dst (runA l rec S0 L l.length) := by
 have hil : i < l.length := (List.getElem?_eq_some_iff.1 hi).1
 have hdst : ∀ {j oj}, l[j]? = some oj → Zgt l j = oj.dst := fun h => by unfold Zgt; rw [h]; rfl
 have hws : ∀ {j oj}, l[j]? = some oj → (tw.getD j ([], [])).2 = (rec j).ws.map (·.1) := fun {j oj} h => by
  obtain ⟨_, _, h1, h2⟩ := hI.all j oj h
  cases hb : (rec j).on with
  | true => rw [(h1 hb).2]
  | false => rw [(h2 hb).2.2, (h2 hb).2.1]; rfl
 have hbefore : ∀ {j oj}, l[j]? = some oj → j < i → Zi8 l.toArray oj o (tw.getD j ([], [])).1 (tw.getD j ([], [])).2 (tw.getD i ([], [])).1 (tw.getD i ([], [])).2 = true → L j = true := fun hj hlt hc => Zr2 ho hj hi hlt hc hd (.inr hr)
 have hafter : ∀ {j oj}, l[j]? = some oj → i < j → Zi8 l.toArray o oj (tw.getD i ([], [])).1 (tw.getD i ([], [])).2 (tw.getD j ([], [])).1 (tw.getD j ([], [])).2 = true → L j = false := fun {j oj} hj hlt hc => by
  cases hL : L j with
  | false => rfl
  | true => have := Zr2 ho hi hj hlt hc hd (.inl hL); rw [hno] at this; cases this
 have hget : ∀ {j}, j < l.length → ∃ oj, l[j]? = some oj := fun h => ⟨_, List.getElem?_eq_getElem h⟩
 refine ⟨fun t ht => ?_, fun id hid => ?_, ?_⟩
 ·rw [← ZhA (fun _ => true) i l.length (by omega)]
  refine Zdj fun j hj hdj => ?_
  obtain ⟨oj, hoj⟩ := hget hj
  rw [hdst hoj] at hdj
  simp only [Bool.true_and]
  rcases Nat.lt_trichotomy j i with h | h | h
  ·rw [hbefore hoj h (by simp [Zi8, hdj, ht])]; simp [h]
  ·subst h; rw [hno]; simp
  ·rw [hafter hoj h (by simp [Zi8, hdj, ht])]; simp; omega
 ·rw [← ZhA (fun _ => true) i l.length (by omega)]
  refine ZfI fun j hj hdj => ?_
  obtain ⟨oj, hoj⟩ := hget hj
  rw [← hws hoj] at hdj
  simp only [Bool.true_and]
  rcases Nat.lt_trichotomy j i with h | h | h
  ·rw [hbefore hoj h (by
    simp only [Zi8, Bool.or_eq_true]
    refine .inl (.inr ?_)
    simp only [List.any_eq_true, Bool.or_eq_true, List.contains_iff_mem]
    exact ⟨id, hdj, .inr hid⟩)]
   simp [h]
  ·subst h; rw [hno]; simp
  ·rw [hafter hoj h (by
    simp only [Zi8, Bool.or_eq_true]
    refine .inr ?_
    simp only [List.any_eq_true, List.contains_iff_mem]
    exact ⟨id, hdj, hid⟩)]
   simp; omega
 ·have hn1 := Ze4 (l := l) (rec := rec) (S0 := S0) (fun j => if j = i then true else L j) l.length
  have hn2 := Ze4 (l := l) (rec := rec) (S0 := S0) L l.length
  have hn3 := ZuI (rec i) o.dst (runA l rec S0 L l.length)
  obtain ⟨la1, la2⟩ := ZkQ (l := l) (rec := rec) (S0 := S0) (L := fun j => if j = i then true else L j) (i := i) (by simp) (k := l.length) hil
  refine AState.ext' (by rw [hn1.1, hn3.1, hn2.1]) (fun t => ?_) (fun id => ?_) (by rw [hn1.2, hn3.2, hn2.2])
  ·rw [Zct]
   by_cases hd' : o.dst = some t
   ·rw [if_pos hd']
    refine la1 t (by rw [hdst hi]; exact hd') fun j hj hij hLj hdj => ?_
    obtain ⟨oj, hoj⟩ := hget hj
    rw [hdst hoj] at hdj
    rw [if_neg (by omega)] at hLj
    rw [hafter hoj hij (by simp [Zi8, hd', hdj])] at hLj
    cases hLj
   ·rw [if_neg hd']
    refine Zdj fun j hj hdj => ?_
    by_cases e : j = i
    ·subst e; rw [hdst hi] at hdj; exact absurd hdj hd'
    ·rw [if_neg e]
  ·rw [ZeD]
   by_cases hid : id ∈ (rec i).ws.map (·.1)
   ·refine la2 id hid (fun j hj hij hLj hdj => ?_) _
    obtain ⟨oj, hoj⟩ := hget hj
    rw [if_neg (by omega)] at hLj
    rw [← hws hoj] at hdj
    rw [← hws hi] at hid
    rw [hafter hoj hij (by
     simp only [Zi8, Bool.or_eq_true]
     refine .inl (.inr ?_)
     simp only [List.any_eq_true, Bool.or_eq_true, List.contains_iff_mem]
     exact ⟨id, hid, .inl hdj⟩)] at hLj
    cases hLj
   ·rw [ZbW hid]
    refine ZfI fun j hj hdj => ?_
    by_cases e : j = i
    ·subst e; exact absurd hdj hid
    ·rw [if_neg e]
theorem Zs8 (hI : RunI P tab l S0 rec tw)  {i : Nat} (hi : i ≤ l.length) (ht : 65536 ≤ t) : (runA l rec S0 (fun _ => true) i).slots t = (runA l rec S0 L l.length).slots t := by
 rw [← ZhA (fun _ => true) i l.length hi]
 refine Zdj fun j hj hdj => ?_
 exfalso
 have hoj : l[j]? = some l[j] := List.getElem?_eq_getElem hj
 obtain ⟨_, h2, _⟩ := hI.all j _ hoj
 unfold Zgt at hdj
 rw [hoj] at hdj
 have e : (l[j]).dst = some t := hdj
 rw [e] at h2
 have h3 : hasB t S0.n = true := h2
 unfold hasB at h3
 simp only [Bool.and_eq_true] at h3
 have h4 : t < S0.n % 65536 := Nat.le_of_ble_eq_true h3.1
 omega
theorem Znm (ht : TabOk P tab) (hI : RunI P tab l S0 rec tw) (ho : ordB l tw = true) {Q : Exit → Act → World → Prop} {w0 : W0} (hQ : ∀ a w μ who, RelAt w0 (runA l rec S0 (fun _ => true) l.length) a w μ who → Q .normal a w) :
  ∀ (fuel : Nat) (listed : Array Bool) (U : List Nat) (a : Act) (w : World) (μ : Lay) (who : Nat → Option Nat), listed.size = l.length → U.Nodup → U.length = fuel → (∀ j, j ∈ U ↔ j < l.length ∧ listed.getD j false = false) → ZnF l (fun j => listed.getD j false) → RelAt w0 (runA l rec S0 (fun j => listed.getD j false) l.length) a w μ who →
  wpAny P .any l.toArray Q fuel listed a w
 | 0, listed, U, a, w, μ, who, hs, hnd, hf, hU, hd, hr => by
  have hU0 : U = [] := List.eq_nil_of_length_eq_zero hf
  have hall : ∀ j, j < l.length → listed.getD j false = true := fun j hj => by
   cases h : listed.getD j false with
   | true => rfl
   | false => have := (hU j).2 ⟨hj, h⟩; rw [hU0] at this; simp at this
  refine ⟨?_, ?_⟩
  ·rw [List.eq_nil_iff_forall_not_mem]
   intro j hj
   obtain ⟨h1, oj, hoj, _⟩ := mem_ready.1 hj
   have hjl : j < l.length := by have := (Array.getElem?_eq_some_iff.1 hoj).1; simpa using this
   have := hall j hjl
   rw [Zlf h1] at this; cases this
  ·refine hQ a w μ who ?_
   rw [← ZjD (L := fun j => listed.getD j false) (L' := fun _ => true) hall]; exact hr
 | fuel + 1, listed, U, a, w, μ, who, hs, hnd, hf, hU, hd, hr => by
  refine ⟨fun h0 => ?_, fun i hi => ?_⟩
  ·exfalso
   have hne : ∃ j, j < l.length ∧ listed.getD j false = false := by
    cases U with
    | nil => simp at hf
    | cons j U => exact ⟨j, (hU j).1 (by simp)⟩
   have hmin : ∀ n, (∃ j, j < n ∧ j < l.length ∧ listed.getD j false = false) → ∃ j, j < l.length ∧ listed.getD j false = false ∧ ∀ i, i < j → listed.getD i false = true := by
    intro n
    induction n with
    | zero => rintro ⟨j, hj, _⟩; omega
    | succ n ih =>
     rintro ⟨j, hj, hjl, hjf⟩
     by_cases hex : ∃ j, j < n ∧ j < l.length ∧ listed.getD j false = false
     ·exact ih hex
     ·refine ⟨j, hjl, hjf, fun i hi => ?_⟩
      cases h : listed.getD i false with
      | true => rfl
      | false => exact absurd ⟨i, by omega, by omega, h⟩ hex
   obtain ⟨j, hj, hjf⟩ := hne
   obtain ⟨j, hjl, hjf, hlow⟩ := hmin (j + 1) ⟨j, by omega, hj, hjf⟩
   have hoj : l.toArray[j]? = some l[j] := by simp [hjl]
   have hmem : j ∈ Region.ready .any l.toArray listed := mem_ready.2 ⟨by
    have : j < listed.size := by omega
    simpa [Array.getD, this] using hjf, l[j], hoj, fun e he hb => hlow e.on (Zrw ho (by simp [hjl]) e he hb)⟩
   rw [h0] at hmem; simp at hmem
  ·obtain ⟨h1, o, hoi, hall⟩ := mem_ready.1 hi
   have hoi' : l[i]? = some o := by simpa using hoi
   have hil : i < l.length := (List.getElem?_eq_some_iff.1 hoi').1
   have hno : listed.getD i false = false := Zlf h1
   have hrd : Zll l (fun j => listed.getD j false) i := fun o' ho' e he hb => by
    rw [hoi'] at ho'; cases ho'
    exact hall e he hb
   obtain ⟨c1, c2, c3⟩ := Ztb hI ho hd hoi' hno hrd
   obtain ⟨f1, f2, f3, f4⟩ := hI.all i o hoi'
   have hset : ∀ j, (listed.setIfInBounds i true).getD j false = if j = i then true else listed.getD j false := fun j => by
    have hlt : i < listed.size := by omega
    by_cases e : j = i
    ·subst e; simp [Array.getD, hlt]
    ·simp only [Array.getD, Array.size_setIfInBounds, e, if_false]
     split
     ·rw [Array.getInternal_eq_getElem, Array.getInternal_eq_getElem, Array.getElem_setIfInBounds_ne _ (by omega)]
     ·rfl
   have hL : (fun j => (listed.setIfInBounds i true).getD j false) = fun j => if j = i then true else listed.getD j false := funext hset
   have hwant : Zd7 l.toArray o (runA l rec S0 (fun j => listed.getD j false) l.length) = some (rec i).on := by
    rw [← f1]
    unfold Zd7
    cases hg : o.guard with
    | none => rfl
    | some gb =>
     obtain ⟨g, b⟩ := gb
     simp only
     cases hgd : (l.toArray[g]?).bind (·.dst) with
     | none => rfl
     | some d =>
      simp only
      rw [c1 d (by unfold Oper.looksAt; simp only [hg, hgd]; exact List.mem_append.2 (.inr (by simp)))]
   have hw := ZpL hr hwant
   have hhas : (runA l rec S0 (fun j => listed.getD j false) l.length).has o.dst = true := by
    have := (Ze4 (l := l) (rec := rec) (S0 := S0) (fun j => listed.getD j false) l.length).1
    cases hd' : o.dst with
    | none => rfl
    | some d => rw [hd'] at f2; simp only [AState.has] at f2 ⊢; rw [this]; exact f2
   have hU' : ∀ j, j ∈ U.erase i ↔ j < l.length ∧ (listed.setIfInBounds i true).getD j false = false := fun j => by
    rw [hnd.mem_erase_iff, hU, hset]
    by_cases e : j = i
    ·subst e; simp
    ·simp [e]
   have hiU : i ∈ U := (hU i).2 ⟨hil, hno⟩
   have hlen : (U.erase i).length = fuel := by rw [List.length_erase_of_mem hiU]; omega
   have hd2 : ZnF l (fun j => (listed.setIfInBounds i true).getD j false) := by
    intro j oj hj hLj e he hb
    simp only [hset] at hLj ⊢
    by_cases e1 : e.on = i
    ·simp [e1]
    ·rw [if_neg e1]
     by_cases e2 : j = i
     ·subst e2
      rw [hoi'] at hj; cases hj
      exact hall e he hb
     ·rw [if_neg e2] at hLj
      exact hd j oj hj hLj e he hb
   have next : ∀ a' w' μ' who', RelAt w0 ((rec i).app o.dst (runA l rec S0 (fun j => listed.getD j false) l.length)) a' w' μ' who' → wpAny P .any l.toArray Q fuel (listed.setIfInBounds i true) a' w' := fun a' w' μ' who' hr' =>
    Znm ht hI ho hQ fuel _ (U.erase i) a' w' μ' who' (by simpa using hs) (hnd.erase i) hlen hU' hd2 (by rw [hL, c3]; exact hr')
   unfold wpOp
   simp only [hoi]
   cases hon : (rec i).on with
   | true =>
    rw [hon] at hw
    simp only [hw, if_true]
    obtain ⟨s1, s2⟩ := f3 hon
    have hst := Zpg ht s1 (fun x hx t e => e.elim (fun e => c1 t (Zrn ⟨x, hx, e⟩)) fun e => Zs8 hI (by omega) e) (fun id hid => c2 id (by rw [s2]; exact hid)) hr
    exact .inl (hst.wp (by rw [Zjp]; exact hhas) next)
   | false =>
    rw [hon] at hw
    simp only [hw, Bool.false_eq_true, if_false]
    obtain ⟨s1, s2, s3⟩ := f4 hon
    refine next _ w μ who ?_
    have e : (rec i).app o.dst (runA l rec S0 (fun j => listed.getD j false) l.length) = (runA l rec S0 (fun j => listed.getD j false) l.length).put o.dst .none_ := by
     unfold Rec.app; rw [s1, s2]; rfl
    rw [e]
    exact hr.put hhas .none_
end
theorem Zs2 {P : Program} {tab : Tab} (ht : TabOk P tab) (n : Nat) (hm : P.follows .mixedOrders = true) {id : Nat} {l : List Oper}  {Q : Exit → AState → Prop} (h : AD P tab l.toArray 0 l S [] (fun S' tw => ordB l tw = true ∧ Q .normal (S'.on n))) : T P (.region id l.toArray true) S Q :=
 fun w0 a w hr => by
  obtain ⟨μ, who, hr⟩ := hr
  obtain ⟨rs, tw, S', h1, ho, hq⟩ := ZpE l 0 S [] h
  obtain ⟨f1, f2⟩ := Zjx (S0 := S) l [] [] rs [] tw S S' rfl rfl h1 rfl
  simp only [List.nil_append] at f1 f2 ho
  have hI : RunI P tab l S (fun k => rs.getD k default) tw := ⟨fun k o hk => f1 k o (by simp) hk⟩
  refine wp_region_any hm ?_
  have hlis : ∀ j, (Array.replicate l.length false).getD j false = false := fun j => by simp [Array.getD]
  have hrun : ∀ k, runA l (fun k => rs.getD k default) S (fun j => (Array.replicate l.length false).getD j false) k = S := fun k => by
   induction k with
   | zero => rfl
   | succ k ih => unfold runA; rw [hlis]; simpa using ih
  have := Znm (Q := fun e a' w' => ∃ S', Q e S' ∧ Rel w0 S' a' w') ht hI ho (w0 := w0) (fun a' w' μ' who' hr' => ⟨_, hq, by rw [f2]; exact Rel.on ⟨μ', who', hr'⟩ _⟩) l.length (Array.replicate l.length false) (List.range l.length) a { w with drawn := w.drawn + 1 } μ who (by simp) List.nodup_range (by simp) (fun j => by simp [hlis]) (fun j o hj hL => by have h9 : (Array.replicate l.length false).getD j false = true := hL; rw [hlis] at h9; cases h9) (by rw [hrun]; exact hr.keeps (Keeps.drew [] w))
  simpa using this
end Go.Proofs.YtjjidamlmebaaaaGreat
namespace Go.Proofs.YtjjidamlmebaaaaGreat
open Go.RowKit
open Shp
variable {P : Program} {v : Value} {w w' : World} {ks : List Nat} {μ : Lay} {h' : Nat → Block} {p : PV} {x r : GV} {fn : Func} {gs : List GV}
def resL (tab : Tab) (S : AState) : List ResultVar → Option (List PV)
 | [] => some []
 | .tmp t :: rs => match resL tab S rs with
  | some ps => some (S.slots t :: ps)
  | none => none
 | .cell a t :: rs => match Zeb tab S.heap t (S.slots a), resL tab S rs with
  | some (p, _), some ps => some (p :: ps)
  | _, _ => none
theorem ZlV  {t : TypeId} {u : Value}  (h : (Instr.loadAt t u).run P w = .ok v w) : (do loadVar t (← asAddr u) : Sem Value).run P w = .ok v w := by
 cases u with
 | pointer a =>
  cases a with
  | none => simp [Instr.loadAt, Instr.sureAddr] at h
  | some p => simpa [Instr.loadAt, Instr.sureAddr, asAddr] using h
 | _ => simp [Instr.loadAt, Instr.sureAddr] at h
def ZgY (tmps : Array Value) : ResultVar → Sem Value
 | .tmp t => Pure.pure (tmps.getD t Go.undef)
 | .cell x t => do loadVar t (← asAddr (tmps.getD x Go.undef))
theorem Zfm {P : Program} {tab : Tab} (ht : TabOk P tab) {w0 : W0} {S : AState} {a : Act} {w : World} {μ : Lay} {who : Nat → Option Nat} (h : RelAt w0 S a w μ who) : ∀ (rs : List ResultVar) {ps : List PV}, resL tab S rs = some ps →
  ∃ (vs : List Value) (hl : vs.length = ps.length), (rs.mapM (ZgY a.tmps)).run P w = Result.ok vs w ∧ ∀ i (hi : i < ps.length), PRep w μ S.heap (vs[i]'(hl ▸ hi)) ps[i]
 | [], ps, hx => by
  simp [resL] at hx; subst hx
  exact ⟨[], rfl, by simp, by intro i hi; simp at hi⟩
 | .tmp t :: rs, ps, hx => by
  unfold resL at hx
  split at hx
  ·rename_i ps' hps
   simp only [Option.some.injEq] at hx
   subst hx
   obtain ⟨vs, hl, h1, h2⟩ := Zfm ht h rs hps
   refine ⟨a.tmps.getD t Go.undef :: vs, by simpa using hl, by simp [List.mapM_cons, ZgY, h1], fun i hi => ?_⟩
   cases i with
   | zero => exact h.slot t
   | succ i => exact h2 i (by simpa using hi)
  ·cases hx
 | .cell x t :: rs, ps, hx => by
  unfold resL at hx
  split at hx
  ·rename_i p ws ps' hp hps
   simp only [Option.some.injEq] at hx
   subst hx
   obtain ⟨vs, hl, h1, h2⟩ := Zfm ht h rs hps
   obtain ⟨_, v, hr, hv⟩ := ZmX (P := P) ht h (h.slot x) hp
   have hr' := ZlV hr
   refine ⟨v :: vs, by simpa using hl, by simp only [List.mapM_cons, Sem.run_bind, show (ZgY a.tmps (.cell x t)).run P w = .ok v w from hr', Result.andThen_ok, h1, Sem.run_pure], fun i hi => ?_⟩
   cases i with
   | zero => exact hv
   | succ i => exact h2 i (by simpa using hi)
  ·cases hx
theorem ZpX {h : Nat → Block}  {id : Nat} {B : Block} (e : killL h ks id = B) (hB : B.live = true) : h id = B := by
 induction ks generalizing h with
 | nil => exact e
 | cons k ks ih =>
  have := ih e
  unfold upd at this
  split at this
  ·subst this; cases hB
  ·exact this
theorem Zjj  {h : Nat → Block} (hh : ∀ id e dp xs, h' id = .arr e dp xs → h id = .arr e dp xs)   (hv : PRep w μ h v p)   (hx : Za2 h' p = some (x, ks, true)) : Top w v x := by
 cases p with
 | g y =>
  simp only [Za2, Option.some.injEq, Prod.mk.injEq] at hx
  obtain ⟨rfl, _, hf⟩ := hx
  obtain ⟨F, hg, _⟩ := hv.g_inv
  by_cases ha : y.atom = true
  ·cases hg with
   | atom x hx => exact .atom _ hx
   | fn | agg | tup | box | sl | ex | raw | bd => simp [GV.atom] at ha
  ·cases y <;> simp [GV.flat, GV.atom] at hf ha
   rename_i cs
   obtain ⟨vs, Fs, rfl, rfl, h1, hl, hF, hh⟩ := hg.agg_inv
   refine .agg vs cs hl fun i hi => ?_
   have hai : (cs[i]).atom = true := by have := hf _ (List.getElem_mem hi); simpa [GV.atom] using this
   have hgi := hh i hi
   generalize cs[i] = c at *
   generalize vs[i]'(hl ▸ hi) = u at *
   generalize Fs[i]'(hF ▸ hi) = G at hgi
   cases hgi with
   | atom x hx => exact .atom _ hx
   | fn | agg | tup | box | sl | ex | raw | bd => simp [GV.atom] at hai
 | nils e =>
  simp only [Za2] at hx
  split at hx
  ·simp only [Option.some.injEq, Prod.mk.injEq] at hx
   obtain ⟨rfl, _⟩ := hx
   rw [hv.nils_inv.1]; exact .nil _ _ _
  ·cases hx
 | own id lo len =>
  simp only [Za2] at hx
  split at hx
  ·rename_i e dp xs hid
   split at hx
   ·simp only [Option.some.injEq, Prod.mk.injEq] at hx
    obtain ⟨rfl, _⟩ := hx
    have hoa := hv.own_inv.2.2 _ _ _ (hh _ _ _ _ hid)
    unfold Zbp at hoa
    split at hoa
    ·obtain ⟨cap, o, rfl, _, _, vs, t, hrow, _, hfit⟩ := hoa
     exact .sl _ _ _ _ _ _ vs t hrow hfit
    ·obtain ⟨⟨ad0, e0⟩, _, e2⟩ := hoa; rw [e0, e2]; exact .nil _ _ _
   ·cases hx
  ·cases hx
 | _ => simp [Za2] at hx
theorem ZhC {f : (Nat → Block) → PV → Option (GV × List Nat × Bool)} {w : World} {μ : Lay} {h : Nat → Block} (hf : ∀ {h' : Nat → Block}, (∀ id e dp xs, h' id = .arr e dp xs → h id = .arr e dp xs) → ∀ {v p x ks}, PRep w μ h v p → f h' p = some (x, ks, true) → Top w v x) :
  ∀ (ps : List PV) (h' : Nat → Block), (∀ id e dp xs, h' id = .arr e dp xs → h id = .arr e dp xs) → ∀ (vs : List Value) (hl : vs.length = ps.length), (∀ i (hi : i < ps.length), PRep w μ h (vs[i]'(hl ▸ hi)) ps[i]) → ∀ {gs ks}, absL f h' ps = some (gs, ks, true) → ∃ hg : vs.length = gs.length, ∀ i (hi : i < gs.length), Top w (vs[i]'(hg ▸ hi)) gs[i]
 | [], h', hh, vs, hl, _, gs, ks, hx => by
  simp only [absL, Option.some.injEq, Prod.mk.injEq] at hx
  obtain ⟨rfl, _⟩ := hx
  exact ⟨by simpa using hl, by intro i hi; simp at hi⟩
 | p :: ps, h', hh, vs, hl, hp, gs, ks, hx => by
  cases vs with
  | nil => simp at hl
  | cons v vs =>
   unfold absL at hx
   cases h1 : f h' p with
   | none => simp [h1] at hx
   | some r =>
    obtain ⟨x, k, d1⟩ := r
    simp only [h1] at hx
    cases h2 : absL f (killL h' k) ps with
    | none => simp [h2] at hx
    | some r =>
     obtain ⟨xs, ks', d2⟩ := r
     simp only [h2, Option.some.injEq, Prod.mk.injEq, Bool.and_eq_true] at hx
     obtain ⟨rfl, _, rfl, rfl⟩ := hx
     have ht := hf hh (hp 0 (by simp)) h1
     obtain ⟨hg, h3⟩ := ZhC hf ps (killL h' k) (fun id e dp xs hid => hh id e dp xs (ZpX hid rfl)) vs (by simpa using hl) (fun i hi => hp (i + 1) (by simpa using hi)) h2
     refine ⟨by simpa using hg, fun i hi => ?_⟩
     cases i with
     | zero => exact ht
     | succ i => exact h3 i (by simpa using hi)
theorem Zm4  {h : Nat → Block} (hh : ∀ id e dp xs, h' id = .arr e dp xs → h id = .arr e dp xs)   (hv : PRep w μ h v p)   (hx : absE h' p = some (x, ks, true)) : Top w v x := by
 cases p with
 | agg cs =>
  obtain ⟨vs, rfl, hl, h1, h2⟩ := hv.agg_inv
  simp only [absE] at hx
  cases h3 : absL Za2 h' cs with
  | none => simp [h3] at hx
  | some r =>
   obtain ⟨gs, ks', d⟩ := r
   simp only [h3] at hx
   split at hx
   ·simp only [Option.some.injEq, Prod.mk.injEq] at hx
    obtain ⟨rfl, _, rfl⟩ := hx
    obtain ⟨hg, h4⟩ := ZhC (w := w) (μ := μ) (h := h) (fun {h'} hh {v p x ks} hv hx => Zjj hh hv hx) cs h' hh vs hl h2 h3
    exact .agg vs gs hg h4
   ·cases hx
 | _ => exact Zjj hh hv hx
def outR (tab : Tab) (S : AState) (rs : List ResultVar) : Option GV :=
 match resL tab S rs with
 | some ps => match absL absE S.heap ps with
  | some ([x], _, true) => if x.isTup then none else some x
  | some (gs, _, true) => some (.tup gs)
  | _ => none
 | none => none
def Zc2 (n : Nat) (gs : List GV) : AState := { n := n, slots := fun t => match gs[t]? with | some x => .g x | none => .none_, heap := fun _ => .free, nx := 0 }
def EndR (tab : Tab) (rs : List ResultVar) (r : GV) : Exit → AState → Prop
 | .normal, S => outR tab S rs = some r
 | .ret, S => outR tab S rs = some r
 | _, _ => False
def GivesW (w0 : W0) (r : GV) (e : Ending) (w' : World) : Prop := ∃ v F, e = .returned v ∧ GRep w' F v r ∧ Top w' v r ∧ F.Nodup ∧ (∀ b ∈ F, NewB w0 w' b) ∧ Keeps w0.D w0.w w'
theorem GivesW.gives  {e : Ending} (h : GivesW ⟨w, [], np0⟩ r e w') : Gives w r e w' := by
 obtain ⟨v, F, h1, h2, h3, h4, h5, h6⟩ := h
 exact ⟨v, F, h1, h2, h3, h4, fun b hb => ⟨(h5 b hb).1.old rfl, (h5 b hb).2⟩, h6⟩
theorem ZmK  {tab : Tab} (ht : TabOk P tab)  {w0 : W0} {S : AState} {a : Act}   {who : Nat → Option Nat} (h : RelAt w0 S a w μ who)  (hr : outR tab S fn.results.toList = some r) : ∃ v, (results fn a.tmps).run P w = .ok v w ∧ GivesW w0 r (.returned v) w := by
 unfold outR at hr
 cases h1 : resL tab S fn.results.toList with
 | none => simp [h1] at hr
 | some ps =>
  simp only [h1] at hr
  obtain ⟨vs, hl, hrun, hp⟩ := Zfm ht h _ h1
  cases h2 : absL absE S.heap ps with
  | none => simp [h2] at hr
  | some x =>
   obtain ⟨gs, ks, d⟩ := x
   have hd : d = true := by
    cases d with
    | true => rfl
    | false => rw [h2] at hr; simp at hr
   subst hd
   obtain ⟨hk1, hk2⟩ := ZhM ZiM (nid := ks.foldl max 0 + 1) ps h vs hl hp h2
   have hnk : ks.foldl max 0 + 1 ∉ ks := by
    intro hm
    have key : ∀ (l : List Nat) (m x : Nat), x ∈ l ∨ x ≤ m → x ≤ l.foldl max m := by
     intro l
     induction l with
     | nil => intro m x hx; simpa using hx
     | cons y l ihl =>
      intro m x hx
      simp only [List.foldl_cons]
      refine ihl (max m y) x ?_
      rcases hx with hx | hx
      ·rcases List.mem_cons.1 hx with rfl | hx
       ·exact .inr (Nat.le_max_right _ _)
       ·exact .inl hx
      ·exact .inr (Nat.le_trans hx (Nat.le_max_left _ _))
    have := key ks 0 _ (.inl hm); omega
   obtain ⟨who', Fs, r1, hg, hF, g1, n1, o1, _, _⟩ := hk2 hnk
   obtain ⟨o2, o3⟩ := o1 rfl
   obtain ⟨_, tops⟩ := ZhC (w := w) (μ := μ) (h := S.heap) (fun {h'} hh {v p x ks} hv hx => Zm4 hh hv hx) ps S.heap (fun _ _ _ _ h => h) vs hl hp h2
   have hres : (results fn a.tmps).run P w = .ok (if h : vs.length = 1 then vs[0] else .tuple vs.toArray) w := by
    have e0 : results fn a.tmps = (do let vs ← fn.results.mapM (ZgY a.tmps); Pure.pure (if h : vs.size = 1 then vs[0] else .tuple vs)) := rfl
    rw [e0, Array.mapM_eq_mapM_toList]
    simp [hrun]
   refine ⟨_, hres, ?_⟩
   by_cases h3 : vs.length = 1
   ·have hgl : gs.length = 1 := by omega
    obtain ⟨x, rfl⟩ : ∃ x, gs = [x] := by
     cases gs with
     | nil => simp at hgl
     | cons x gs => cases gs <;> simp_all
    simp only [h2] at hr
    split at hr
    ·cases hr
    ·simp only [Option.some.injEq] at hr
     subst hr
     rw [dif_pos h3]
     have hF1 : Fs.flatten = Fs[0]'(by omega) := by
      cases Fs with
      | nil => simp at hF
      | cons F Fs =>
       have : Fs = [] := List.eq_nil_of_length_eq_zero (by simpa using hF)
       subst this; simp
     exact ⟨_, _, rfl, g1 0 (by simp), tops 0 (by simp), by rw [← hF1]; exact o2, fun b hb => (o3 b (by rw [hF1]; exact hb)).2, h.keep⟩
   ·rw [dif_neg h3]
    have hr' : r = .tup gs := by
     rw [h2] at hr
     cases gs with
     | nil => simpa using hr.symm
     | cons x gs => cases gs with
      | nil => exact absurd hg h3
      | cons y gs => simpa using hr.symm
    subst hr'
    exact ⟨_, _, rfl, .tup vs gs Fs hg hF g1, .tup vs gs hg tops, o2, fun b hb => (o3 b hb).2, h.keep⟩
theorem ZhV  (hn : gs.length ≤ fn.ntmps) (hm : fn.ntmps < 65536) (w : World) (args : List Value) (hl : args.length = gs.length) (hg : ∀ i (hi : i < gs.length), ∃ F, GRep w F (args[i]'(hl ▸ hi)) gs[i]) :
  RelAt ⟨w, [], np0⟩ (Zc2 fn.ntmps gs) { tmps := args.toArray ++ Array.replicate (fn.ntmps - args.toArray.size) Go.undef, defers := [] } w (fun _ => none) (fun _ => none) := by
 have hsz : args.toArray.size = gs.length := by simpa using hl
 refine ⟨by simp [Zc2]; rw [Nat.mod_eq_of_lt hm]; omega, fun t => ?_, rfl, fun id => trivial, fun i j b d d' hi => (by simp [Zc2, Block.live] at hi), fun i b d hi => (by simp [Zc2, Block.live] at hi), Keeps.refl _ _, fun t x hp => (by rw [show pinned (Zc2 fn.ntmps gs).n t = false from ZdB hm t] at hp; cases hp), fun t v hv ht => by simp [np0] at hv⟩
 simp only [Zc2]
 by_cases hlt : t < gs.length
 ·have e1 : gs[t]? = some gs[t] := List.getElem?_eq_getElem hlt
  have e2 : (args.toArray ++ Array.replicate (fn.ntmps - args.toArray.size) Go.undef).getD t Go.undef = args[t]'(by omega) := by
   have h1 : t < (args.toArray ++ Array.replicate (fn.ntmps - args.toArray.size) Go.undef).size := by simp; omega
   rw [Zbx h1, Array.getElem_append_left (by simp; omega)]
   simp
  rw [e1, e2]
  obtain ⟨F, hF⟩ := hg t hlt
  exact .g _ _ F hF (by rintro b _ ⟨id, d, hl, _⟩; simp [Block.live] at hl)
 ·have e1 : gs[t]? = none := List.getElem?_eq_none (by omega)
  have e2 : (args.toArray ++ Array.replicate (fn.ntmps - args.toArray.size) Go.undef).getD t Go.undef = Go.undef := by
   by_cases h1 : t < (args.toArray ++ Array.replicate (fn.ntmps - args.toArray.size) Go.undef).size
   ·rw [Zbx h1, Array.getElem_append_right (by simp; omega)]
    simp
   ·simp only [Array.getD, dif_neg h1]
  rw [e1, e2]
  exact .none_
theorem Zqt  {tab : Tab} (ht : TabOk P tab) {f : FuncId}  {c : Code} (hf : P.funcs[f]? = some fn) (hb : fn.body = some c) (he : ∀ args w, (callFunc f args).run P w = .ok (.enter f args) w)   (hn : gs.length ≤ fn.ntmps) (hm : fn.ntmps < 65536)
  (h : T P c (Zc2 fn.ntmps gs) (EndR tab fn.results.toList r)) : Con P f gs r := by
 refine ⟨he, fun w args hl hg => calls_of_wp hf hb ?_⟩
 have hrel := ZhV hn hm w args hl hg
 refine wp_mono (h ⟨w, [], np0⟩ _ w ⟨_, _, hrel⟩) fun e a' w' ⟨S', h1, μ', who', h2⟩ => ?_
 cases e with
 | normal => obtain ⟨v, q1, q2⟩ := ZmK ht h2 h1; exact ⟨h2.dfr, v, q1, q2.gives⟩
 | ret => obtain ⟨v, q1, q2⟩ := ZmK ht h2 h1; exact ⟨h2.dfr, v, q1, q2.gives⟩
 | exit | goto | panic | outgrown => exact h1.elim
end Go.Proofs.YtjjidamlmebaaaaGreat
namespace Go.Proofs.YtjjidamlmebaaaaGreat
open Go.RowKit
open Shp
variable {b : Block} {S : AState}
theorem Zfd (k : IntKind) : ZgT (.int k 0) (.g (.int k 0)) := ⟨rfl, fun w μ h => PRep.of_int w μ h k 0⟩
theorem ZoV : ZgT (.bool false) (.g (.bool false)) := ⟨rfl, fun w μ h => PRep.of_bool w μ h false⟩
theorem ZvI : ZgT (.string ⟨#[]⟩) (.g (.str ⟨#[]⟩)) := ⟨rfl, fun _ _ _ => .g _ _ [] (.atom (.str _) rfl) (by simp)⟩
theorem Zvk : ZgT (.pointer none) (.g .nilp) := ⟨rfl, fun _ _ _ => .g _ _ [] (.atom .nilp rfl) (by simp)⟩
theorem Za3 {e : Nat} (he : 0 < e) : ZgT (.slice none 0 0) (.nils e) := ⟨rfl, fun _ _ _ => .nils e he⟩
theorem ZiL {v : Value} (h : v.oneCell' = true) : ZgT v .undef := ⟨h, fun _ _ _ => .undef v⟩
def ren0 (ρ : List Nat) : PV → PV
 | .g v => .g v
 | .none_ => .none_
 | .nils e => .nils e
 | .iptr cs => .iptr cs
 | .glob k cs => .glob k cs
 | .own id lo len => match ρ.idxOf? id with | some j => .own j lo len | none => .undef
 | .ptr id off => match ρ.idxOf? id with | some j => .ptr j off | none => .undef
 | .eptr id k i => match ρ.idxOf? id with | some j => .eptr j k i | none => .undef
 | _ => .undef
def ren1 (ρ : List Nat) : PV → PV
 | .agg cs => .agg (cs.map (ren0 ρ))
 | .fn f cs => .fn f (cs.map (ren0 ρ))
 | p => ren0 ρ p
def renB (ρ : List Nat) : Block → Block
 | .box cs => .box (cs.map (ren1 ρ))
 | b => b
theorem ZhE {ρ : List Nat} {id j : Nat} (h : ρ.idxOf? id = some j) : ρ[j]? = some id := by
 have := List.findIdx?_eq_some_iff_getElem.1 h
 obtain ⟨hj, h1, _⟩ := this
 simp at h1
 rw [List.getElem?_eq_getElem hj, h1]
theorem Zne {ρ : List Nat}  {e dp xs} (h : renB ρ b = .arr e dp xs) : b = .arr e dp xs := by cases b <;> simp_all [renB]
theorem Zq7 {ρ : List Nat}  {cs} (h : renB ρ b = .box cs) : ∃ cs', b = .box cs' ∧ cs = cs'.map (ren1 ρ) := by
 cases b <;> simp [renB] at h
 exact ⟨_, rfl, h.symm⟩
theorem ZkV {ρ : List Nat}  : (renB ρ b).live = b.live := by cases b <;> rfl
section
variable {w : World} {μ : Lay} {h h' : Nat → Block} {ρ : List Nat}
def ZdX (ρ : List Nat) (μ : Lay) : Lay := fun j => match ρ[j]? with | some i => μ i | none => none
theorem ZeE (hh : ∀ j, h' j = match ρ[j]? with | some i => renB ρ (h i) | none => .free) {b : Nat} (hr : Root (ZdX ρ μ) h' b) : Root μ h b := by
 obtain ⟨j, d, hl, hm⟩ := hr
 rw [hh] at hl
 unfold ZdX at hm
 cases hj : ρ[j]? with
 | none => rw [hj] at hl; simp [Block.live] at hl
 | some i =>
  rw [hj] at hl hm
  simp only [ZkV] at hl
  exact ⟨i, d, hl, hm⟩
theorem PRep.ren0 (hh : ∀ j, h' j = match ρ[j]? with | some i => renB ρ (h i) | none => .free) (hl : ∀ i ∈ ρ, (h i).live = true) {v : Value} {p : PV} (hv : PRep w μ h v p) : PRep w (ZdX ρ μ) h' v (ren0 ρ p) := by
 have key : ∀ {id j}, ρ.idxOf? id = some j → h' j = renB ρ (h id) ∧ h' j ≠ .free ∧ ZdX ρ μ j = μ id := fun {id j} hj => by
  have h1 := ZhE hj
  have h2 := hh j
  rw [h1] at h2
  refine ⟨h2, ?_, by unfold ZdX; rw [h1]⟩
  have := hl id (List.mem_of_getElem? h1)
  rw [h2]
  cases hb : h id <;> simp_all [renB, Block.live]
 cases hv with
 | g v x F hg hd => exact .g v x F hg fun b hb hr => hd b hb (ZeE hh hr)
 | glob v k cs F hg hd => exact .glob v k cs F hg fun b hb hr => hd b hb (ZeE hh hr)
 | undef | agg | tup | fn => exact .undef _
 | none_ => exact .none_
 | nils e he => exact .nils e he
 | own v id lo len h1 hf ho =>
  simp only [Go.Proofs.YtjjidamlmebaaaaGreat.ren0]
  cases hj : ρ.idxOf? id with
  | none => exact .undef _
  | some j =>
   obtain ⟨k1, k2, k3⟩ := key hj
   refine .own v j lo len h1 k2 fun e dp xs hx => ?_
   rw [k1] at hx
   have := ho e dp xs (Zne hx)
   unfold Zbp at *
   rw [k3]; exact this
 | ptr v id off h1 hf ho =>
  simp only [Go.Proofs.YtjjidamlmebaaaaGreat.ren0]
  cases hj : ρ.idxOf? id with
  | none => exact .undef _
  | some j =>
   obtain ⟨k1, k2, k3⟩ := key hj
   refine .ptr v j off h1 k2 fun cs hx => ?_
   rw [k1] at hx
   obtain ⟨cs', hx', _⟩ := Zq7 hx
   rw [k3]; exact ho cs' hx'
 | eptr v id k i h1 hf ho =>
  simp only [Go.Proofs.YtjjidamlmebaaaaGreat.ren0]
  cases hj : ρ.idxOf? id with
  | none => exact .undef _
  | some j =>
   obtain ⟨k1, k2, k3⟩ := key hj
   refine .eptr v j k i h1 k2 fun e dp xs hx => ?_
   rw [k1] at hx
   rw [k3]; exact ho e dp xs (Zne hx)
 | iptr v p cs vs Fs hp hs hv hF hb hr hc hg he hd => exact .iptr v p cs vs Fs hp hs hv hF hb (fun hr' => hr (ZeE hh hr')) hc hg he fun b hb hr' => hd b hb (ZeE hh hr')
theorem PRep.ren1 (hh : ∀ j, h' j = match ρ[j]? with | some i => renB ρ (h i) | none => .free) (hl : ∀ i ∈ ρ, (h i).live = true) {v : Value} {p : PV} (hv : PRep w μ h v p) : PRep w (ZdX ρ μ) h' v (ren1 ρ p) := by
 cases p with
 | agg cs =>
  obtain ⟨vs, rfl, hlen, h1, h2⟩ := hv.agg_inv
  exact .agg vs _ (by simpa using hlen) h1 fun i hi => by simp only [List.getElem_map]; exact (h2 i (by simpa using hi)).ren0 hh hl
 | fn f cs =>
  obtain ⟨vs, rfl, hlen, h2⟩ := hv.fn_inv
  exact .fn f vs _ (by simpa using hlen) fun i hi => by simp only [List.getElem_map]; exact (h2 i (by simpa using hi)).ren0 hh hl
 | _ => exact hv.ren0 hh hl
end
theorem Zeu : ∀ {ρ : List Nat}, ρ.Nodup → ∀ {i j : Nat} (hi : i < ρ.length) (hj : j < ρ.length), ρ[i] = ρ[j] → i = j
 | [], _, i, j, hi, _, _ => by simp at hi
 | x :: ρ, h, i, j, hi, hj, e => by
  obtain ⟨h1, h2⟩ := List.nodup_cons.1 h
  cases i with
  | zero =>
   cases j with
   | zero => rfl
   | succ j => simp at e; exact absurd (e ▸ List.getElem_mem _) h1
  | succ i =>
   cases j with
   | zero => simp at e; exact absurd (e ▸ List.getElem_mem _) h1
   | succ j => simp at e; rw [Zeu h2 (by simpa using hi) (by simpa using hj) e]
theorem Zwo {ρ : List Nat} {p : PV} {x : GV} (h : ren1 ρ p = .g x) : p = .g x := by
 cases p <;> simp [ren1, ren0] at h ⊢ <;> first | exact h | (split at h <;> cases h)
theorem ZuU {S' : AState} (ρ : List Nat) (hρ : ρ.Nodup) (hn : S'.n = S.n) (hl : ∀ i ∈ ρ, (S.heap i).live = true) (hh : ∀ j, S'.heap j = match ρ[j]? with | some i => renB ρ (S.heap i) | none => .free) (hs : ∀ t, S'.slots t = .undef ∨ S'.slots t = ren1 ρ (S.slots t)) : Le S S' := by
 rintro w0 a w ⟨μ, who, h⟩
 have inv : ∀ j b d, (S'.heap j).live = true → ZdX ρ μ j = some (b, d) → ∃ i, ρ[j]? = some i ∧ (S.heap i).live = true ∧ μ i = some (b, d) := fun j b d h1 h2 => by
  rw [hh] at h1
  unfold ZdX at h2
  cases hj : ρ[j]? with
  | none => rw [hj] at h1; simp [Block.live] at h1
  | some i =>
   rw [hj] at h1 h2
   simp only [ZkV] at h1
   exact ⟨i, rfl, h1, h2⟩
 refine ⟨ZdX ρ μ, fun b => (who b).bind (fun i => ρ.idxOf? i), by rw [hn]; exact h.size, fun t => ?_, h.dfr, fun j => ?_, fun i j b d d' hi hj ei ej => ?_, fun i b d hi ei => ?_, h.keep, fun t x hp hx => h.old.1 t x (by rw [← hn]; exact hp) (by
  rcases hs t with e | e
  ·rw [e] at hx; cases hx
  ·rw [e] at hx; exact Zwo hx), fun t v hv ht => by rw [hn]; exact h.old.2 t v hv ht⟩
 ·rcases hs t with e | e
  ·rw [e]; exact .undef _
  ·rw [e]; exact (h.slot t).ren1 hh hl
 ·rw [hh]
  cases hj : ρ[j]? with
  | none => trivial
  | some i =>
   have hB := h.blk i
   have hlay : ZdX ρ μ j = μ i := by unfold ZdX; rw [hj]
   show BRep w0 w (ZdX ρ μ) S'.heap (fun b => (who b).bind (fun i => ρ.idxOf? i)) j (renB ρ (S.heap i))
   cases hb : S.heap i with
   | free => trivial
   | dead => trivial
   | box cs =>
    rw [hb] at hB
    obtain ⟨b, vs, t, h1, h2, h3, h4, h5⟩ := hB
    exact ⟨b, vs, t, by rw [hlay]; exact h1, h2, by simpa using h3, h4, fun k hk => by simp only [List.getElem_map]; exact (h5 k (by simpa using hk)).ren1 hh hl⟩
   | arr e dp xs =>
    rw [hb] at hB
    obtain ⟨he, hB⟩ := hB
    refine ⟨he, ?_⟩
    rw [hlay]
    cases hm : μ i with
    | none => simpa only [hm] using hB
    | some bd =>
     obtain ⟨b, d⟩ := bd
     simp only [hm] at hB ⊢
     obtain ⟨vs, t, Fs, els, h2, h3, h4, h5⟩ := hB
     refine ⟨vs, t, Fs, els, h2, h3, fun c hc hr => h4 c hc (ZeE hh hr), fun hd => ⟨(h5 hd).1, fun c hc => ⟨?_, ((h5 hd).2 c hc).2⟩⟩⟩
     rw [((h5 hd).2 c hc).1]
     simp only [Option.bind_some]
     have hjl : j < ρ.length := (List.getElem?_eq_some_iff.1 hj).1
     have hij : ρ[j] = i := (List.getElem?_eq_some_iff.1 hj).2
     cases hx : ρ.idxOf? i with
     | none =>
      have := List.idxOf?_eq_none_iff.1 hx
      exact absurd (hij ▸ List.getElem_mem hjl) this
     | some k =>
      have hk := ZhE hx
      have hkl : k < ρ.length := (List.getElem?_eq_some_iff.1 hk).1
      have hki : ρ[k] = i := (List.getElem?_eq_some_iff.1 hk).2
      have : k = j := Zeu hρ hkl hjl (hki.trans hij.symm)
      rw [this]
   | hd v e xs =>
    rw [hb] at hB
    obtain ⟨he, hv, ho, hB⟩ := hB
    refine ⟨he, hv, ?_, ?_⟩
    ·unfold Zbp at *; rw [hlay]; exact ho
    rw [hlay]
    cases hm : μ i with
    | none => simpa only [hm] using hB
    | some bd =>
     obtain ⟨b, d⟩ := bd
     simp only [hm] at hB ⊢
     obtain ⟨vs, t, Fs, els, h2, h3, h4, h5, h6⟩ := hB
     refine ⟨vs, t, Fs, els, h2, h3, fun c hc hr => h4 c hc (ZeE hh hr), h5, fun c hc => ⟨?_, (h6 c hc).2⟩⟩
     rw [(h6 c hc).1]
     simp only [Option.bind_some]
     have hjl : j < ρ.length := (List.getElem?_eq_some_iff.1 hj).1
     have hij : ρ[j] = i := (List.getElem?_eq_some_iff.1 hj).2
     cases hx : ρ.idxOf? i with
     | none =>
      have := List.idxOf?_eq_none_iff.1 hx
      exact absurd (hij ▸ List.getElem_mem hjl) this
     | some k =>
      have hk := ZhE hx
      have hkl : k < ρ.length := (List.getElem?_eq_some_iff.1 hk).1
      have hki : ρ[k] = i := (List.getElem?_eq_some_iff.1 hk).2
      have : k = j := Zeu hρ hkl hjl (hki.trans hij.symm)
      rw [this]
   | lim N => rw [hb] at hB; exact ⟨hB.1, by rw [hlay]; exact hB.2⟩
 ·obtain ⟨i', h1, h2, h3⟩ := inv i b d hi ei
  obtain ⟨j', h4, h5, h6⟩ := inv j b d' hj ej
  have := h.inj i' j' b d d' h2 h5 h3 h6
  subst this
  obtain ⟨hi1, hi2⟩ := List.getElem?_eq_some_iff.1 h1
  obtain ⟨hj1, hj2⟩ := List.getElem?_eq_some_iff.1 h4
  exact Zeu hρ hi1 hj1 (hi2.trans hj2.symm)
 ·obtain ⟨i', h1, h2, h3⟩ := inv i b d hi ei
  have hba := h.base i' b d h2 h3
  refine ⟨hba.1.kind fun ⟨cs, e⟩ => ?_, hba.2⟩
  rw [hh, h1]
  show ∃ cs', renB ρ (S.heap i') = .box cs'
  rw [e]
  exact ⟨_, rfl⟩
def mkS (n : Nat) (sl : List (Nat × PV)) (bs : List Block) : AState :=
 { n := n, slots := fun t => match sl.find? (fun x => x.1 == t) with | some x => x.2 | none => .undef, heap := fun j => (bs[j]?).getD .free, nx := bs.length }
end Go.Proofs.YtjjidamlmebaaaaGreat
namespace Go.Proofs.YtjjidamlmebaaaaGreat
open Go.RowKit
open Shp
variable {P : Program} {ops : Array Oper} {o : Oper} {os : List Oper} {S : AState} {K : AState → Prop}
theorem ZhN (S : AState) (d t : Nat) (v : PV) : (S.put (some d) v).slots t = if t = d then v else S.slots t := rfl
theorem Zn4 (S : AState) (v : PV) : S.put none v = S := rfl
theorem ZqO (S : AState) (d : Nat) (v : PV) : (S.put (some d) v).heap = S.heap := rfl
theorem Zve (S : AState) (d : Nat) (v : PV) : (S.put (some d) v).nx = S.nx := rfl
theorem Zx8 (S : AState) (d : Nat) (v : PV) : (S.put (some d) v).n = S.n := rfl
theorem ZlS (S : AState) (ws : List (Nat × Block)) : (S.writes ws).slots = S.slots := rfl
theorem Zpj (S : AState) (ws : List (Nat × Block)) : (S.writes ws).nx = S.nx := rfl
theorem Zqi (S : AState) (ws : List (Nat × Block)) : (S.writes ws).n = S.n := rfl
theorem writes_nil (S : AState) : S.writes [] = S := rfl
theorem Zh4 (S : AState) (id : Nat) (b : Block) (j : Nat) : (S.writes [(id, b)]).heap j = if j = id then b else S.heap j := rfl
theorem ZlN (S : AState) (x y : Nat × Block) (ws : List (Nat × Block)) : S.writes (x :: y :: ws) = (S.writes [x]).writes (y :: ws) := rfl
theorem ZrH (S : AState) (n : Nat) : (S.on n).slots = S.slots := rfl
theorem ZuN (S : AState) (n : Nat) : (S.on n).heap = S.heap := rfl
theorem on_n (S : AState) (n : Nat) : (S.on n).n = S.n := rfl
theorem Zzg (S : AState) (n : Nat) : (S.on n).nx = S.nx + 8 * n := rfl
theorem Zl6 (n : Nat) (gs : List GV) (t : Nat) : (Zc2 n gs).slots t = match gs[t]? with | some x => .g x | none => .none_ := rfl
theorem Zn6 (n : Nat) (gs : List GV) (j : Nat) : (Zc2 n gs).heap j = .free := rfl
theorem Ztl (n : Nat) (gs : List GV) : (Zc2 n gs).n = n := rfl
theorem Zqw (n : Nat) (gs : List GV) : (Zc2 n gs).nx = 0 := rfl
theorem Zqc (n : Nat) (sl : List (Nat × PV)) (bs : List Block) (t : Nat) : (mkS n sl bs).slots t = match sl.find? (fun x => x.1 == t) with | some x => x.2 | none => .undef := rfl
theorem ZsU (n : Nat) (sl : List (Nat × PV)) (bs : List Block) (j : Nat) : (mkS n sl bs).heap j = (bs[j]?).getD .free := rfl
theorem mk_n (n : Nat) (sl : List (Nat × PV)) (bs : List Block) : (mkS n sl bs).n = n := rfl
theorem ZyT (n : Nat) (sl : List (Nat × PV)) (bs : List Block) : (mkS n sl bs).nx = bs.length := rfl
theorem Zm9 (S : AState) (d : Nat) : S.has (some d) = hasB d S.n := rfl
theorem Zqm (S : AState) : S.has none = true := rfl
attribute [go_sem] ZhN Zn4 ZqO Zve Zx8 ZlS Zpj Zqi writes_nil Zh4 ZlN ZrH ZuN on_n Zzg Zl6 Zn6 Ztl Zqw Zqc ZsU mk_n ZyT Zm9 Zqm
theorem Zo6  {tab : Tab} (ht : TabOk P tab) {f : FuncId} {fn : Func} {c : Code} (hf : P.funcs[f]? = some fn) (hb : fn.body = some c) {n : Nat} (hn : fn.ntmps = n) {rs : List ResultVar} (hrs : fn.results.toList = rs) (he : ∀ args w, (callFunc f args).run P w = .ok (.enter f args) w) {gs : List GV} {r : GV} (hl : gs.length ≤ n) (hm : n < 65536)
  (h : T P c (Zc2 n gs) (EndR tab rs r)) : Con P f gs r := by
 subst hn; subst hrs
 exact Zqt ht hf hb he hl hm h
end Go.Proofs.YtjjidamlmebaaaaGreat
namespace Go.Proofs.YtjjidamlmebaaaaGreat
open Go.RowKit
open Shp
variable {n : Nat} {sl : List (Nat × PV)} {bs : List Block} {gs : List GV} {x y : Operand} {b a : Int} {k : IntKind} {o : Oper} {pv : PV} {op : Op} {c : Bool} {t' : TypeId}
section
variable {S : AState} {t d j id : Nat} {v u : PV} {B B' : Block}
end
structure Mode where
 any : Bool
structure AX (dr : Bool) (P : Program) (tab : Tab) (ops : Array Oper) (i : Nat) (os : List Oper) (S : AState) (acc : List (List Nat × List Nat)) (K : AState → List (List Nat × List Nat) → Prop) : Prop where
 run : if dr then AD P tab ops i os S acc K else AW P tab ops i os S (fun S' => K S' [])
section
variable {dr : Bool} {P : Program} {tab : Tab} {ops : Array Oper} {i : Nat} {os : List Oper} {S : AState} {acc : List (List Nat × List Nat)} {K : AState → List (List Nat × List Nat) → Prop}
theorem ZdG  {ws : List (Nat × Block)} (h1 : Zd7 ops o S = some true) (h2 : S.has o.dst = true) (h3 : Zes P tab (S.nx + 8 * i) o S pv ws) (h4 : AX dr P tab ops (i + 1) os ((S.writes ws).put o.dst pv) (acc ++ [(tch tab (S.nx + 8 * i) o S, ws.map (·.1))]) K) : AX dr P tab ops i (o :: os) S acc K := by
 cases dr
 ·exact ⟨⟨true, h1, h2, fun _ => ⟨pv, ws, .inl h3, h4.run⟩, fun h => (by cases h)⟩⟩
 ·exact ⟨⟨true, h1, h2, fun _ => ⟨pv, ws, h3, h4.run⟩, fun h => (by cases h)⟩⟩
theorem Zs3  {ws : List (Nat × Block)} (h1 : Zd7 ops o S = some true) (h2 : S.has o.dst = true) (h3 : ZoS P tab o S pv ws) (h4 : AX false P tab ops (i + 1) os ((S.writes ws).put o.dst pv) (acc ++ [(tch tab (S.nx + 8 * i) o S, ws.map (·.1))]) K) : AX false P tab ops i (o :: os) S acc K :=
 ⟨⟨true, h1, h2, fun _ => ⟨pv, ws, .inr h3, h4.run⟩, fun h => (by cases h)⟩⟩
theorem ZoQ  (h1 : Zd7 ops o S = some false) (h2 : S.has o.dst = true) (h4 : AX dr P tab ops (i + 1) os (S.put o.dst .none_) (acc ++ [([], [])]) K) : AX dr P tab ops i (o :: os) S acc K := by
 cases dr
 ·exact ⟨⟨false, h1, h2, fun h => (by cases h), fun _ => h4.run⟩⟩
 ·exact ⟨⟨false, h1, h2, fun h => (by cases h), fun _ => h4.run⟩⟩
variable {d : Option Nat} {ty : TypeId} {pos : String} {af : Array Edge}
theorem Zzp  {ws : List (Nat × Block)} (h2 : S.has d = true) (h3 : aOp tab (S.nx + 8 * i) ⟨d, op, ty, pos, af, none⟩ S = some (pv, ws)) (h4 : AX dr P tab ops (i + 1) os ((S.writes ws).put d pv) (acc ++ [(tch tab (S.nx + 8 * i) ⟨d, op, ty, pos, af, none⟩ S, ws.map (·.1))]) K) : AX dr P tab ops i (⟨d, op, ty, pos, af, none⟩ :: os) S acc K :=
 ZdG rfl h2 (.inl h3) h4
theorem ZqG  {g : Nat} {b : Bool} {t : Nat} (hd : (ops[g]?).bind (·.dst) = some t) (hs : S.slots t = .g (.bool c)) (hcb : (c == b) = true) (h : AX dr P tab ops i (⟨d, op, ty, pos, af, none⟩ :: os) S acc K) : AX dr P tab ops i (⟨d, op, ty, pos, af, some (g, b)⟩ :: os) S acc K := by
 have hw : Zd7 ops ⟨d, op, ty, pos, af, some (g, b)⟩ S = some true := by simp only [Zd7, hd, hs, hcb]
 cases dr
 ·obtain ⟨⟨b', e1, h2, h3, _⟩⟩ := h
  simp only [Zd7, Option.some.injEq] at e1
  exact ⟨⟨true, hw, h2, fun _ => h3 e1.symm, fun h => (by cases h)⟩⟩
 ·obtain ⟨⟨b', e1, h2, h3, _⟩⟩ := h
  simp only [Zd7, Option.some.injEq] at e1
  exact ⟨⟨true, hw, h2, fun _ => h3 e1.symm, fun h => (by cases h)⟩⟩
theorem Znp  {g : Nat} {b : Bool} {t : Nat} (hd : (ops[g]?).bind (·.dst) = some t) (hs : S.slots t = .g (.bool c)) (hcb : (c == b) = false) (h2 : S.has d = true) (h : AX dr P tab ops (i + 1) os (S.put d .none_) (acc ++ [([], [])]) K) : AX dr P tab ops i (⟨d, op, ty, pos, af, some (g, b)⟩ :: os) S acc K :=
 ZoQ (by simp only [Zd7, hd, hs, hcb]) h2 h
theorem Zmr  {g : Nat} {b : Bool} {t : Nat} (hd : (ops[g]?).bind (·.dst) = some t) (hs : S.slots t = .none_) (h2 : S.has d = true) (h : AX dr P tab ops (i + 1) os (S.put d .none_) (acc ++ [([], [])]) K) : AX dr P tab ops i (⟨d, op, ty, pos, af, some (g, b)⟩ :: os) S acc K :=
 ZoQ (by simp only [Zd7, hd, hs]) h2 h
theorem ZmI {t : Nat} {v : PV} (h : S.slots t = v) : S.put (some t) v = S :=
 AState.ext' rfl (fun x => by
   simp only [ZhN]; split
   ·rename_i e; rw [e, h]
   ·rfl) (fun _ => rfl) rfl
theorem ZqL  {g : Nat} {b : Bool} {t : Nat} (hd : (ops[g]?).bind (·.dst) = some t) (hs : S.slots t = .g (.bool c)) (h1 : c = true → AX dr P tab ops i (⟨d, op, ty, pos, af, some (g, b)⟩ :: os) (S.put (some t) (.g (.bool true))) acc K) (h2 : c = false → AX dr P tab ops i (⟨d, op, ty, pos, af, some (g, b)⟩ :: os) (S.put (some t) (.g (.bool false))) acc K) :
  AX dr P tab ops i (⟨d, op, ty, pos, af, some (g, b)⟩ :: os) S acc K := by
 cases c
 ·have := h2 rfl; rwa [ZmI hs] at this
 ·have := h1 rfl; rwa [ZmI hs] at this
theorem wr64  (h1 : -9223372036854775808 ≤ a) (h2 : a ≤ 9223372036854775807) : IntKind.i64.wrap a = a := by rw [IntKind.wrap_i64]; omega
end
end Go.Proofs.YtjjidamlmebaaaaGreat
namespace Go.Proofs.YtjjidamlmebaaaaGreat
open Go.RowKit
open Shp
variable {ti fi ei : TI} {x y : Operand} {p v : PV} {t ft E : TypeId} {id off j lo : Nat} {cs caps ps : List PV} {k : IntKind} {dp : Bool} {xs gs ys : List GV} {f fid : FuncId} {fs : List (Nat × TypeId)} {n u : Int} {hi : Option Operand} {parts : Array (Nat × Operand)} {tys : Array TypeId} {r : GV} {ts : List TypeId} {α ι : Type} {Q : Exit → AState → Prop} {c : Code}
section
variable {dr : Bool} {P : Program} {tab : Tab} {ops : Array Oper} {i : Nat} {os : List Oper} {S : AState} {acc : List (List Nat × List Nat)} {K : AState → List (List Nat × List Nat) → Prop}
variable {d : Option Nat} {ty : TypeId} {pos : String} {af : Array Edge}
abbrev idsW (ws : List (Nat × Block)) : List Nat := ws.map (·.1)
abbrev tcW (tab : Tab) (i : Nat) (S : AState) (o : Oper) (ws : List Nat) : List Nat × List Nat := (tch tab (S.nx + 8 * i) o S, ws)
theorem Zwk {h : Nat → Block}      (ht : tab t = some ti) (hb : h id = .box cs) (hv : ZeL ti off cs = some v) : Zeb tab h t (.ptr id off) = some (v, []) := by simp only [Zeb, ht, hb, hv, Option.map_some]
theorem ZxJ {h : Nat → Block}   {cs : List GV}  (ht : tab t = some ti) (hv : Za9 ti cs = some v) : Zeb tab h t (.iptr cs) = some (v, []) := by simp only [Zeb, ht, hv, Option.map_some]
theorem Zt1 {h : Nat → Block}   {cs : List GV}  (ht : tab t = some ti) (hv : Za9 ti cs = some v) : Zeb tab h t (.g (.box cs)) = some (v, []) := by simp only [Zeb, ht, hv, Option.map_some]
theorem ZxA {h : Nat → Block}   {k e : Nat}   {x : GV}  (ht : tab t = some ti) (hb : h id = .arr e dp xs) (hx : xs[k]? = some x) (hn : x.isTup = false) (hv : Za9 ti (x.cells.drop j) = some v) : Zeb tab h t (.eptr id k j) = some (v, []) := by simp only [Zeb, ht, hb, hx, hn, hv, Option.map_some, Bool.false_eq_true, if_false]
theorem Zxf {h : Nat → Block}    {len e : Nat}   (ht : tab t = some ti) (hk : ti.kind = .sl E) (hb : h id = .arr e dp xs) : aLen tab h t (.own id lo len) = some (.g (.int .i64 (len : Int)), []) := by simp only [aLen, ht, hk, hb]
theorem ln_g {h : Nat → Block}    {e : Nat}  (ht : tab t = some ti) (hk : ti.kind = .sl E) : aLen tab h t (.g (.sl e xs)) = some (.g (.int .i64 (xs.length : Int)), []) := by simp only [aLen, ht, hk]
theorem ZvQ {h : Nat → Block}    {e : Nat} (ht : tab t = some ti) (hk : ti.kind = .sl E) : aLen tab h t (.nils e) = some (.g (.int .i64 0), []) := by simp only [aLen, ht, hk]
end
theorem Zyt {h : Nat → Block} {e : Nat}  {f : Bool} (hf : ys.all GV.flat = f) : srcE h e (.g (.sl e ys)) = some (ys, [], f) := by simp only [srcE, if_true, hf]
theorem ZtQ (h : Nat → Block) (e : Nat) : dstE h e (.nils e) = some ([], [], true) := by simp only [dstE, if_true]
theorem Zst {h : Nat → Block} {len e : Nat}   (hb : h id = .arr e dp xs) (hl : lo + len ≤ xs.length) : dstE h e (.own id lo len) = some ((xs.drop lo).take len, [id], dp) := by simp only [dstE, hb, hl, and_self, if_true]
theorem ZlY {f : PV → Option GV}   {x : GV}  (h1 : f p = some x) (h2 : Zbo f ps = some xs) : Zbo f (p :: ps) = some (x :: xs) := by simp only [Zbo, h1, h2]
theorem vw_g (h : Nat → Block) (n : Nat) (v : GV) : view h (n + 1) (.g v) = some v := rfl
theorem Ztw {h : Nat → Block} {n e : Nat} (he : Nat.ble 1 e = true) : view h (n + 1) (.nils e) = some (.sl e []) := by
 have : 0 < e := by have := Nat.le_of_ble_eq_true he; omega
 simp only [view, this, if_true]
theorem Zwm {h : Nat → Block} {n len e : Nat}   (hb : h id = .arr e dp xs) (hl : lo + len ≤ xs.length) : view h (n + 1) (.own id lo len) = some (.sl e ((xs.drop lo).take len)) := by simp only [view, hb, hl, if_true]
theorem ZwP (S : AState) (tab : Tab) (ts : List TypeId) : S.args tab [] ts = [] := by cases ts <;> rfl
theorem Zta {S : AState} {tab : Tab}  {xs : List Operand}     (h1 : S.ev tab t x = p) (h2 : S.args tab xs ts = ps) : S.args tab (x :: xs) (t :: ts) = p :: ps := by simp only [AState.args, h1, h2]
theorem ZqC {S : AState} {tab : Tab}  {xs : List Operand}   (h1 : S.ev tab 0 x = p) (h2 : S.args tab xs [] = ps) : S.args tab (x :: xs) [] = p :: ps := by simp only [AState.args, h1, h2]
theorem Zvg  [Inhabited α] {f : α → GV} {ys : List α}  (h : 0 ≤ n ∧ n < (ys.length : Int)) : (ys.map f)[n.toNat]? = some (f (nth ys n.toNat)) := by
 have h1 : n.toNat < ys.length := by omega
 rw [List.getElem?_map, List.getElem?_eq_getElem h1, Zaz h1]; rfl
theorem Zl5  [Inhabited α] {f : α → GV} {ys : List α} {n : Nat} (h : n < ys.length) : (ys.map f)[((n : Nat) : Int).toNat]? = some (f (nth ys n)) := by
 rw [List.getElem?_map, Int.toNat_natCast, List.getElem?_eq_getElem h, Zaz h]; rfl
theorem Zx0  {S : AState}  (h : Q .normal S) : inT id Q (.exit id) S := by simp [inT, h]
theorem Zyy  {S : AState}  (h : Q .normal S) : inT id Q .normal S := h
theorem Zyu  {S : AState}  (h : Q .ret S) : inT id Q .ret S := h
end Go.Proofs.YtjjidamlmebaaaaGreat
namespace Go.Proofs.YtjjidamlmebaaaaGreat
open Go.RowKit
open Shp
variable {rs : List ResultVar} {r x v : GV} {p q : PV} {ks ρ is : List Nat} {ps : List PV} {gs xs : List GV} {t id lo j : Nat} {b dp d : Bool} {B : Block}
section
variable {tab : Tab} {S : AState}
theorem Zr8  (h : outR tab S rs = some r) : EndR tab rs r .ret S := h
theorem out1  (h1 : resL tab S rs = some [p]) (h2 : absE S.heap p = some (x, ks, true)) (h3 : x.isTup = false) (h4 : x = r) : outR tab S rs = some r := by
 subst h4
 unfold outR
 simp only [h1, absL, h2, Bool.and_true, h3, Bool.false_eq_true, if_false]
theorem outN  (h1 : resL tab S rs = some (p :: q :: ps)) (h2 : absL absE S.heap (p :: q :: ps) = some (gs, ks, true)) (h4 : .tup gs = r) : outR tab S rs = some r := by
 have h3 : ∃ a b cs, gs = a :: b :: cs := by
  unfold absL at h2
  cases e1 : absE S.heap p with
  | none => simp [e1] at h2
  | some x =>
   obtain ⟨x, k, d⟩ := x
   simp only [e1] at h2
   unfold absL at h2
   cases e2 : absE (killL S.heap k) q with
   | none => simp [e2] at h2
   | some y =>
    obtain ⟨y, k', d'⟩ := y
    simp only [e2] at h2
    cases e3 : absL absE (killL (killL S.heap k) k') ps with
    | none => simp [e3] at h2
    | some z =>
     obtain ⟨z, k2, d2⟩ := z
     simp only [e3, Option.some.injEq, Prod.mk.injEq] at h2
     exact ⟨x, y, z, h2.1.symm⟩
 obtain ⟨a, b, cs, rfl⟩ := h3
 unfold outR
 simp only [h1, h2, h4]
theorem ZvX  (h1 : S.slots t = p) (h2 : resL tab S rs = some ps) : resL tab S (.tmp t :: rs) = some (p :: ps) := by simp only [resL, h2, h1]
theorem Zup {a : Nat} {t : TypeId}    (h1 : S.slots a = q) (h3 : Zeb tab S.heap t q = some (p, [])) (h2 : resL tab S rs = some ps) : resL tab S (.cell a t :: rs) = some (p :: ps) := by simp only [resL, h2, h1, h3]
theorem ZfJ {α : Type} {f : α → GV} {ys : List α} (hf : ∀ y, (f y).flat = true) : (ys.map f).all GV.flat = true := by simp [hf]
theorem Zk8 (k : IntKind) (ys : List Int) : (ys.map (GV.int k)).all GV.flat = true := ZfJ fun _ => rfl
end
end Go.Proofs.YtjjidamlmebaaaaGreat
namespace Go.Proofs.YtjjidamlmebaaaaGreat
open Go.RowKit
open Shp
variable {α : Type} {lo n id : Nat} {dp : Bool} {cs : List PV} {gs : List GV}
abbrev GV.i (n : Int) : GV := .int .i64 n
abbrev GV.ints (xs : List Int) : GV := .sl 1 (xs.map GV.i)
section
variable {h : Nat → Block}
theorem ZwV  (hb : h id = .box cs) (hv : Zbo (view h n) cs = some gs) (ha : (gs.all fun x => x.ncells == 1) = true) : view h (n + 1) (.ptr id 0) = some (.box gs) := by
 simp only [view, hb, hv, ha, if_true]
theorem ZwC  (hv : Zbo (view h n) cs = some gs) (ha : (gs.all fun x => x.ncells == 1) = true) : view h (n + 1) (.agg cs) = some (.agg gs) := by
 simp only [view, hv, ha, if_true]
theorem Zyi  {f : FuncId}   (hv : Zbo (view h n) cs = some gs) : view h (n + 1) (.fn f cs) = some (.fn f gs) := by
 simp only [view, hv]
theorem ZsG (n : Nat) (gs : List GV) : Zbo (view h (n + 1)) (gs.map .g) = some gs := by
 induction gs with
 | nil => rfl
 | cons x xs ih => exact ZlY (vw_g h n x) ih
theorem Zr9 {f : PV → Option GV} : ∀ {ps qs : List PV} {xs ys : List GV}, Zbo f ps = some xs → Zbo f qs = some ys → Zbo f (ps ++ qs) = some (xs ++ ys)
 | [], qs, xs, ys, h1, h2 => by simp [Zbo] at h1; subst h1; exact h2
 | p :: ps, qs, xs, ys, h1, h2 => by
  unfold Zbo at h1
  cases e1 : f p with
  | none => simp [e1] at h1
  | some x =>
   cases e2 : Zbo f ps with
   | none => simp [e1, e2] at h1
   | some zs =>
    simp only [e1, e2, Option.some.injEq] at h1
    subst h1
    exact ZlY e1 (Zr9 e2 h2)
end
section
variable {dr : Bool} {P : Program} {tab : Tab} {ops : Array Oper} {i : Nat} {os : List Oper} {S : AState} {acc : List (List Nat × List Nat)} {K : AState → List (List Nat × List Nat) → Prop}
variable {d : Option Nat} {ty : TypeId} {pos : String} {af : Array Edge}
end
end Go.Proofs.YtjjidamlmebaaaaGreat
namespace Go.Proofs.YtjjidamlmebaaaaGreat
open Go.RowKit
open Shp
variable {P : Program} {xs ys : List Int} {cut : Option Nat}
def ZvS (b o cap : Nat) : Option Nat → Value
 | none => .tuple #[]
 | some n => .slice (some ⟨b, o, none⟩) n cap
structure RowC (P : Program) (f : FuncId) (xs ys : List Int) (cut : Option Nat) : Prop where
 enter : ∀ args w, (callFunc f args).run P w = .ok (.enter f args) w
 ne : 1 ≤ xs.length
 len : ys.length = xs.length
 cutl : ∀ n, cut = some n → n ≤ xs.length
 calls : ∀ (w : World) (b o cap : Nat) (vs : Array Value) (t : FT), w.heap[b]? = some (cel vs t) → xs.length ≤ cap → cap ≤ 9223372036854775807 → o + cap ≤ vs.size → (∀ k (hk : k < xs.length), vs[o + k]? = some (.int .i64 xs[k])) →
  Calls P f #[.slice (some ⟨b, o, none⟩) xs.length cap] w fun e w' => e = .returned (ZvS b o cap cut) ∧ Keeps [b] w w' ∧ ∃ vs', w'.heap[b]? = some (cel vs' t) ∧ vs'.size = vs.size ∧ ∀ k (hk : k < ys.length), vs'[o + k]? = some (.int .i64 ys[k])
def Zui (id : Nat) : Option Nat → PV
 | none => .undef
 | some n => .own id 0 n
theorem ZfU {n : Int} {F : List Nat} {w : World} {v : Value} (h : GRep w F v (GV.i n)) : v.cells[0]? = some (.int .i64 n) := by rw [h.int_inv]; rfl
theorem ZeS : ∀ {ys : List Int}, (ys.map fun _ => ([] : List Nat)).flatten = []
 | [] => rfl
 | y :: ys => by rw [List.map_cons, List.flatten_cons, ZeS]; rfl
set_option maxHeartbeats 1000000 in
theorem ZuE  {tab : Tab} {S : AState} {o : Oper} {f x : Operand} {t : TypeId} (ho : o.op = .call { callee := .value f, args := #[x], argTypes := #[t] }) {fid : FuncId} (hf : asFn (S.ev tab 0 f) = some (fid, [])) {id len : Nat} (hx : S.ev tab t x = .own id 0 len)
  {dp : Bool}   (hb : S.heap id = .arr 1 dp (xs.map GV.i)) (hlen : len = xs.length) (hc : RowC P fid xs ys cut) (nid : Nat) : Zkn P tab nid o S (Zui id cut) [(id, .arr 1 true (ys.map GV.i))] := by
 intro S' h1 h2 w0 a w μ who hr
 rw [ho] at h1
 have mf : f ∈ (Op.call { callee := .value f, args := #[x], argTypes := #[t] }).operands.toList := by simp [Op.operands, Call.operands]
 have mx : x ∈ (Op.call { callee := .value f, args := #[x], argTypes := #[t] }).operands.toList := by simp [Op.operands, Call.operands]
 have hf' : asFn (S'.ev tab 0 f) = some (fid, []) := by rw [← Zbq (h1 f mf)]; exact hf
 have hx' : S'.ev tab t x = .own id 0 len := by rw [← Zbq (h1 x mx)]; exact hx
 have hb' : S'.heap id = .arr 1 dp (xs.map GV.i) := by
  rw [← h2 id (by unfold tch; rw [ho]; simp [AState.args, hx, vids])]; exact hb
 obtain ⟨cvs, hv, hcl, _⟩ := Zc3 (hr.ev tab 0 f) hf'
 have hc0 : cvs = [] := List.eq_nil_of_length_eq_zero (by simpa using hcl)
 subst hc0
 have px := hr.ev tab t x
 rw [hx'] at px
 obtain ⟨_, hnf, hown⟩ := px.own_inv
 have hoa := hown _ _ _ hb'
 have hB := hr.blk id
 rw [hb'] at hB
 obtain ⟨_, hB⟩ := hB
 unfold Zbp at hoa
 cases hμ : μ id with
 | none =>
  rw [hμ] at hB
  have h9 := congrArg List.length (show xs.map GV.i = [] from hB)
  rw [List.length_map, List.length_nil] at h9
  have := hc.ne
  omega
 | some bd =>
  obtain ⟨b, d⟩ := bd
  rw [hμ] at hB
  simp only [hμ] at hoa
  obtain ⟨cap, off, hva, hle, hmax, vs, ty, hrow, hoff, hfit⟩ := hoa
  obtain ⟨vs2, ty2, Fs, els, hrow2, rr, _, _⟩ := hB
  obtain ⟨rfl, rfl⟩ := Zl7 hrow hrow2
  have hne := hc.ne
  have hoff' : off = d := by have := hoff (by omega); omega
  subst hoff'
  subst hlen
  have hcell : ∀ k (hk : k < xs.length), vs[off + k]? = some (.int .i64 xs[k]) := fun k hk => by
   have hk2 : k < (xs.map GV.i).length := by simpa using hk
   have e1 := rr.cell k (by rw [rr.len]; exact hk2) 0 (by omega)
   have e2 := rr.el k hk2
   rw [show ((xs.map GV.i)[k]'hk2) = GV.i xs[k] by simp] at e2
   have e3 := ZfU e2
   rw [show off + k * 1 + 0 = off + k by omega] at e1
   rw [e1, e3]
  have hrun : (execOp a.eval o).run P w = .ok (.enter fid #[.slice (some ⟨b, off, none⟩) xs.length cap]) w := by
   have := hc.enter #[.slice (some ⟨b, off, none⟩) xs.length cap] w
   unfold execOp
   simp only [ho, resolve, hv, Deferred.ofValue, Sem.run_bind, Sem.run_pure, Result.andThen_ok, invoke, Array.empty_append]
   have e1 : ((#[x] : Array Operand).map a.eval ++ ([] : List Value).toArray) = #[.slice (some ⟨b, off, none⟩) xs.length cap] := by
    rw [show ((#[x] : Array Operand).map a.eval ++ ([] : List Value).toArray) = #[a.eval x] by simp, hva]
   rw [e1, this]
  rw [hrun]
  refine (hc.calls w b off cap vs ty hrow hle hmax (by omega) hcell).mono fun e w' hq => ?_
  obtain ⟨he, hk, vs', hrow', hsz, hys⟩ := hq
  have hlv : (S'.heap id).live = true := by rw [hb']; rfl
  have hmod := hr.mod (id := id) (b := b) (d := off) (B := .arr 1 true (ys.map GV.i)) hlv hμ hk hrow hrow' hsz rfl (fun e dp' xs' hB => by
   cases hB; exact ⟨_, _, hb'⟩) (by simp) (fun hm => by
   refine ⟨by omega, ?_⟩
   rw [hμ]
   have hyl := hc.len
   refine ⟨vs', ty, ys.map fun _ => [], ys.map fun y => .int .i64 y, hrow', ⟨by simp, by simp, by simp; omega, fun k hk => by simp [GV.ncells], fun k hk => ?_, fun k hk => ?_, fun k hk j hj => ?_⟩, ?_, fun _ => ⟨?_, ?_⟩⟩
   ·simp only [List.getElem_map]; exact .atom (.int .i64 _) rfl
   ·simp only [List.getElem_map]
    exact ⟨rfl, fun v hv => by simp [Value.cells] at hv; subst hv; rfl⟩
   ·have : j = 0 := by omega
    subst this
    simp only [List.length_map] at hk
    simp only [List.getElem_map]
    rw [show off + k * 1 + 0 = off + k by omega, hys k hk]; rfl
   ·intro c hc'; rw [ZeS] at hc'; cases hc'
   ·rw [ZeS]; exact List.nodup_nil
   ·intro c hc'; rw [ZeS] at hc'; cases hc')
  refine ⟨_, he, μ, who, hmod, ?_⟩
  cases hcut : cut with
  | none => exact .undef _
  | some n =>
   have hn := hc.cutl n hcut
   refine .own _ id 0 n rfl (by simp [AState.writes, ZaU, Zan]) fun e dp' xs' hx2 => ?_
   have he1 : e = 1 := by
    simp only [AState.writes, ZaU, Zan] at hx2
    cases hx2; rfl
   subst he1
   unfold Zbp
   rw [hμ]
   exact ⟨cap, off, rfl, by omega, hmax, vs', ty, hrow', fun _ => by omega, by omega⟩
def ROW (P : Program) (f : FuncId) (xs ys : List Int) (cut : Option Nat) : Prop := RowC P f xs ys cut
theorem Zr3  {f : FuncId}   (h : RowC P f xs ys cut) : ROW P f xs ys cut := h
end Go.Proofs.YtjjidamlmebaaaaGreat
namespace Go.Proofs.YtjjidamlmebaaaaGreat
open Go.RowKit
open Shp
variable {w : World} {xs : List Int} {S : AState} {id nid : Nat}
structure Zq3 (P : Program) (f : FuncId) (xs : List Int) (x : Int) (ys : List Int) : Prop where
 enter : ∀ args w, (callFunc f args).run P w = .ok (.enter f args) w
 calls : ∀ (w : World) (F : List Nat) (v : Value), GRep w F v (.sl 1 (xs.map GV.i)) → Calls P f #[v, .int .i64 x] w fun e w' => (xs = ys ∧ e = .returned v ∧ Keeps [] w w') ∨ Gives w (.sl 1 (ys.map GV.i)) e w'
theorem Zwd  {Fs : List (List Nat)} {els : List Value} (hl : Fs.length = (xs.map GV.i).length) (hv : els.length = (xs.map GV.i).length) (h : ∀ k (hk : k < (xs.map GV.i).length), GRep w (Fs[k]'(hl ▸ hk)) (els[k]'(hv ▸ hk)) (xs.map GV.i)[k]) : Fs.flatten = [] := by
 refine Za7 fun k hk => ?_
 exact (h k (hl ▸ hk)).of_atom (by simp [GV.atom])
set_option maxHeartbeats 2000000 in
theorem RelAt.rename {w0 : W0}  {a : Act} {w' : World} {μ : Lay} {who : Nat → Option Nat} (h : RelAt w0 S a w μ who) (hk : Keeps [] w w')  {dp : Bool}  (hid : S.heap id = .arr 1 dp (xs.map GV.i)) (hn : S.heap nid = .free) {v : Value} (hv : PRep w μ S.heap v (.own id 0 xs.length)) :
  ∃ μ', RelAt w0 (S.writes [(nid, .arr 1 true (xs.map GV.i)), (id, .dead)]) a w' μ' who ∧ PRep w' μ' (S.writes [(nid, .arr 1 true (xs.map GV.i)), (id, .dead)]).heap v (.own nid 0 xs.length) := by
 have hne : id ≠ nid := by intro e; subst e; rw [hid] at hn; cases hn
 have hlv : (S.heap id).live = true := by rw [hid]; rfl
 have e1 : (S.writes [(nid, .arr 1 true (xs.map GV.i)), (id, .dead)]).heap nid = .arr 1 true (xs.map GV.i) := by
  simp only [AState.writes, ZaU]; rw [Zay _ _ _ hne.symm, Zan]
 have e2 : (S.writes [(nid, .arr 1 true (xs.map GV.i)), (id, .dead)]).heap id = .dead := by simp only [AState.writes, ZaU]; rw [Zan]
 have e3 : ∀ j, j ≠ id → j ≠ nid → (S.writes [(nid, .arr 1 true (xs.map GV.i)), (id, .dead)]).heap j = S.heap j := fun j h1 h2 => by
  simp only [AState.writes, ZaU]; rw [Zay _ _ _ h1, Zay _ _ _ h2]
 have hroot : ∀ b, Root (upd μ nid (μ id)) (S.writes [(nid, .arr 1 true (xs.map GV.i)), (id, .dead)]).heap b → Root μ S.heap b := by
  rintro b ⟨j, d, h1, h2⟩
  by_cases hj : j = nid
  ·subst hj; rw [Zan] at h2; exact ⟨id, d, hlv, h2⟩
  ·rw [Zay _ _ _ hj] at h2
   by_cases hj2 : j = id
   ·subst hj2; rw [e2] at h1; cases h1
   ·rw [e3 j hj2 hj] at h1; exact ⟨j, d, h1, h2⟩
 have hm : Move w w' μ (upd μ nid (μ id)) S.heap (S.writes [(nid, .arr 1 true (xs.map GV.i)), (id, .dead)]).heap := by
  refine ⟨fun b hb hr => ⟨hk.block b hb (by simp), fun hr' => hr (hroot b hr')⟩, fun i b d h1 h2 h3 h4 vs t hw => ⟨vs, t, by rw [hk.block b (h.base i b d h2 h4).2 (by simp)]; exact hw, rfl⟩, fun i hi => ?_, fun i e dp' xs' hf hi => ?_, fun i cs hf hi => ?_⟩
  ·by_cases h1 : i = nid
   ·subst h1; exact hn
   ·by_cases h2 : i = id
    ·subst h2; rw [e2] at hi; cases hi
    ·rw [e3 i h2 h1] at hi; exact hi
  ·by_cases h1 : i = nid
   ·subst h1; exact absurd hn hf
   ·by_cases h2 : i = id
    ·subst h2; rw [e2] at hi; cases hi
    ·rw [e3 i h2 h1] at hi; exact ⟨Zay _ _ _ h1, dp', xs', hi⟩
  ·by_cases h1 : i = nid
   ·subst h1; rw [e1] at hi; cases hi
   ·by_cases h2 : i = id
    ·subst h2; rw [e2] at hi; cases hi
    ·rw [e3 i h2 h1] at hi; exact ⟨Zay _ _ _ h1, cs, hi⟩
 obtain ⟨hoc, _, hown⟩ := hv.own_inv
 have hoa := hown _ _ _ hid
 have hB := h.blk id
 rw [hid] at hB
 refine ⟨upd μ nid (μ id), h.step [nid, id] rfl rfl hm (h.keep.transL hk) (fun j hj => ?_) (fun j hj => ?_) (fun b j _ _ _ hb => hb) hk.size, ?_⟩
 ·simp only [List.mem_cons, List.not_mem_nil, or_false, not_or] at hj
  exact ⟨e3 j hj.2 hj.1, fun hl => ⟨Zay _ _ _ hj.1, fun b d hb => hk.block b (h.base j b d hl hb).2 (by simp)⟩⟩
 ·simp only [List.mem_cons, List.not_mem_nil, or_false] at hj
  rcases hj with rfl | rfl
  ·rw [e1]
   refine ⟨?_, fun _ b d hb => ?_⟩
   ·obtain ⟨he, hB⟩ := hB
    refine ⟨he, ?_⟩
    rw [Zan]
    cases hμ : μ id with
    | none => rw [hμ] at hB; exact hB
    | some bd =>
     obtain ⟨b, d⟩ := bd
     rw [hμ] at hB
     obtain ⟨vs, t, Fs, els, h1, h2, h3, h4⟩ := hB
     have hfl := Zwd h2.fl h2.len h2.el
     obtain ⟨h5, h6⟩ := h2.move hm h3
     exact ⟨vs, t, Fs, els, by rw [hk.block b (h.base id b d hlv hμ).2 (by simp)]; exact h1, h5, (by rw [hμ] at h6; exact h6), fun _ => ⟨by rw [hfl]; exact List.nodup_nil, fun c hc => by rw [hfl] at hc; cases hc⟩⟩
   ·rw [Zan] at hb
    have hb' := h.base id b d hlv hb
    refine ⟨fun i d' hi hli hi' => hi (by have := h.inj i id b d' d hli hlv hi' hb; subst this; simp), fun i d' hi hli hi' => ?_, ?_, Nat.lt_of_lt_of_le hb'.2 hk.size⟩
    ·simp only [List.mem_cons, List.not_mem_nil, or_false] at hi
     rcases hi with rfl | rfl
     ·rfl
     ·rw [e2] at hli; cases hli
    ·exact hb'.1.kind (by rw [hid]; rintro ⟨cs, hc⟩; cases hc)
  ·rw [e2]; exact ⟨trivial, fun hl => by cases hl⟩
 ·refine .own _ nid 0 _ hoc (by rw [e1]; simp) fun e dp' xs' hx => ?_
  rw [e1] at hx
  cases hx
  unfold Zbp at hoa ⊢
  rw [Zan]
  cases hμ : μ id with
  | none => rw [hμ] at hoa; exact hoa
  | some bd =>
   obtain ⟨b, d⟩ := bd
   simp only [hμ] at hoa ⊢
   obtain ⟨cap, o, q1, q2, q3, vs, t, q4, q5, q6⟩ := hoa
   exact ⟨cap, o, q1, q2, q3, vs, t, by rw [hk.block b (h.base id b d hlv hμ).2 (by simp)]; exact q4, q5, q6⟩
set_option maxHeartbeats 1000000 in
theorem Zqh {P : Program} {tab : Tab}  {o : Oper} {f x y : Operand} {tx ty : TypeId} (ho : o.op = .call { callee := .value f, args := #[x, y], argTypes := #[tx, ty] }) {fid : FuncId} (hf : asFn (S.ev tab 0 f) = some (fid, [])) {len : Nat} (hx : S.ev tab tx x = .own id 0 len) {m : Int} (hy : S.ev tab ty y = .g (.int .i64 m))
  {ys : List Int} (hb : S.heap id = .arr 1 true (xs.map GV.i)) (hlen : len = xs.length)  (hn : S.heap nid = .free) (hc : Zq3 P fid xs m ys) : Zkn P tab nid o S (.own nid 0 ys.length) [(nid, .arr 1 true (ys.map GV.i)), (id, .dead)] := by
 intro S' h1 h2 w0 a w μ who hr
 rw [ho] at h1
 have mf : f ∈ (Op.call { callee := .value f, args := #[x, y], argTypes := #[tx, ty] }).operands.toList := by simp [Op.operands, Call.operands]
 have mx : x ∈ (Op.call { callee := .value f, args := #[x, y], argTypes := #[tx, ty] }).operands.toList := by simp [Op.operands, Call.operands]
 have my : y ∈ (Op.call { callee := .value f, args := #[x, y], argTypes := #[tx, ty] }).operands.toList := by simp [Op.operands, Call.operands]
 have hf' : asFn (S'.ev tab 0 f) = some (fid, []) := by rw [← Zbq (h1 f mf)]; exact hf
 have hx' : S'.ev tab tx x = .own id 0 len := by rw [← Zbq (h1 x mx)]; exact hx
 have hy' : S'.ev tab ty y = .g (.int .i64 m) := by rw [← Zbq (h1 y my)]; exact hy
 have hb' : S'.heap id = .arr 1 true (xs.map GV.i) := by
  rw [← h2 id (by unfold tch; rw [ho]; simp [AState.args, hx, vids])]; exact hb
 have hn' : S'.heap nid = .free := by
  rw [← h2 nid (by unfold tch; rw [ho]; exact List.mem_append.2 (.inl (List.mem_map.2 ⟨0, by simp, rfl⟩)))]; exact hn
 obtain ⟨cvs, hv, hcl, _⟩ := Zc3 (hr.ev tab 0 f) hf'
 have hc0 : cvs = [] := List.eq_nil_of_length_eq_zero (by simpa using hcl)
 subst hc0
 have px := hr.ev tab tx x
 have py := hr.ev tab ty y
 rw [hx'] at px
 rw [hy'] at py
 have ey := py.int_inv
 subst hlen
 obtain ⟨_, _, hown⟩ := px.own_inv
 obtain ⟨F, hg, _⟩ := hr.view hb' (hown _ _ _ hb') (by simp)
 rw [List.drop_zero, List.take_of_length_le (by simp)] at hg
 have hrun : (execOp a.eval o).run P w = .ok (.enter fid #[a.eval x, .int .i64 m]) w := by
  have := hc.enter #[a.eval x, .int .i64 m] w
  unfold execOp
  simp only [ho, resolve, hv, Deferred.ofValue, Sem.run_bind, Sem.run_pure, Result.andThen_ok, invoke, Array.empty_append]
  have e1 : ((#[x, y] : Array Operand).map a.eval ++ ([] : List Value).toArray) = #[a.eval x, .int .i64 m] := by
   rw [show ((#[x, y] : Array Operand).map a.eval ++ ([] : List Value).toArray) = #[a.eval x, a.eval y] by simp, ey]
  rw [e1, this]
 rw [hrun]
 refine (hc.calls w F _ hg).mono fun e w' hq => ?_
 rcases hq with ⟨rfl, rfl, hk⟩ | hq
 ·obtain ⟨μ', r1, r2⟩ := hr.rename hk hb' hn' px
  exact ⟨_, rfl, μ', who, r1, r2⟩
 ·obtain ⟨v, rfl, μ', who', r1, r2⟩ := Zkh hr (r := .sl 1 (ys.map GV.i)) nid rfl (fun i hi => by
   have : i = 0 := by simpa [ZaC, GV.leaves] using hi
   subst this; exact hn') hq
  have e3 : S'.writes (Zba nid (ZaC (.sl 1 (ys.map GV.i)))) = S'.writes [(nid, .arr 1 true (ys.map GV.i))] := rfl
  rw [e3] at r1 r2
  have hr2 : PRep w' μ' (S'.writes [(nid, .arr 1 true (ys.map GV.i))]).heap v (.own nid 0 ys.length) := by
   have : Ze2 nid (.sl 1 (ys.map GV.i)) = .own nid 0 ys.length := by simp [Ze2, Zg0, Ze1]
   rw [← this]; exact r2
  have hne : id ≠ nid := by intro e; subst e; rw [hb'] at hn'; cases hn'
  have hnf : (S'.writes [(nid, .arr 1 true (ys.map GV.i))]).heap id ≠ .free := by simp only [AState.writes, ZaU]; rw [Zay _ _ _ hne, hb']; simp
  exact ⟨v, rfl, μ', who', r1.kill hnf (fun _ _ _ _ h => h), hr2.move (Move.kill w' μ' _ hnf)⟩
end Go.Proofs.YtjjidamlmebaaaaGreat
namespace Go.Proofs.YtjjidamlmebaaaaGreat
open Go.RowKit
open Shp
variable {x r g0 : GV} {w : World} {v : Value} {ps : List PV} {cs gs : List GV} {S : AState} {p : PV} {P : Program} {o : Oper} {f : Operand} {xs : List Operand} {ts : List TypeId} {fid : FuncId} {nid : Nat} {t : TypeId}
def exOk : GV → Bool
 | .ex _ _ _ => true
 | x => x.atom
inductive GL : List PV → List GV → Prop
 | nil : GL [] []
 | cons {c : GV} {ps : List PV} {cs : List GV} : GL ps cs → GL (.g c :: ps) (c :: cs)
theorem GL.e  (h : GL ps cs) : ps = cs.map PV.g := by
 induction h with
 | nil => rfl
 | cons _ ih => rw [ih]; rfl
structure ConV (P : Program) (f : FuncId) (g r : GV) : Prop where
 enter : ∀ args w, (callFunc f args).run P w = .ok (.enter f args) w
 calls : ∀ (w : World) (v : Value) (F : List Nat), GRep w F v g → Calls P f #[v] w fun e w' => ∃ u G, e = .returned u ∧ GRep w' G u r ∧ (∀ b ∈ G, w.heap.size ≤ b ∨ b ∈ F) ∧ Keeps [] w w'
theorem ZmY {w : World} {μ : Lay} {h : Nat → Block} : ∀ (gs : List GV) (vs : List Value) (hl : vs.length = gs.length), (∀ i (hi : i < gs.length), PRep w μ h (vs[i]'(hl ▸ hi)) (.g gs[i])) →
  ∃ Fs : List (List Nat), ∃ hF : Fs.length = gs.length, (∀ i (hi : i < gs.length), GRep w (Fs[i]'(hF ▸ hi)) (vs[i]'(hl ▸ hi)) gs[i]) ∧ ∀ b ∈ Fs.flatten, ¬ Root μ h b
 | [], vs, hl, _ => ⟨[], rfl, fun i hi => by simp at hi, by simp⟩
 | g :: gs, [], hl, _ => by simp at hl
 | g :: gs, v :: vs, hl, hp => by
  obtain ⟨F, h1, h2⟩ := (hp 0 (by simp)).g_inv
  obtain ⟨Fs, hF, h3, h4⟩ := ZmY gs vs (by simpa using hl) fun i hi => hp (i + 1) (by simpa using hi)
  refine ⟨F :: Fs, by simpa using hF, fun i hi => ?_, fun b hb => ?_⟩
  ·cases i with
   | zero => exact h1
   | succ i => exact h3 i (by simpa using hi)
  ·rw [List.flatten_cons] at hb
   rcases List.mem_append.1 hb with hb | hb
   ·exact h2 b hb
   ·exact h4 b hb
set_option maxHeartbeats 2000000 in
theorem ZrF  {tab : Tab}   {x : Operand}  (ho : o.op = .call { callee := .value f, args := #[x], argTypes := #[t] })  (hf : asFn (S.ev tab 0 f) = some (fid, []))
    (ha : S.ev tab t x = .agg ps) (hv : ps = gs.map PV.g) (hn : gs.all (fun x => x.ncells == 1) = true) (hc : ConV P fid (.agg gs) r)  : Zkn P tab nid o S (.g r) [] := by
 intro S' h1 h2 w0 a w μ who hr
 rw [ho] at h1
 have mf : f ∈ (Op.call { callee := .value f, args := #[x], argTypes := #[t] }).operands.toList := by simp [Op.operands, Call.operands]
 have mx : x ∈ (Op.call { callee := .value f, args := #[x], argTypes := #[t] }).operands.toList := by simp [Op.operands, Call.operands]
 have hf' : asFn (S'.ev tab 0 f) = some (fid, []) := by rw [← Zbq (h1 f mf)]; exact hf
 have ha' : S'.ev tab t x = .agg ps := by rw [← Zbq (h1 x mx)]; exact ha
 obtain ⟨cvs, hvf, hcl, _⟩ := Zc3 (hr.ev tab 0 f) hf'
 have hc0 : cvs = [] := List.eq_nil_of_length_eq_zero (by simpa using hcl)
 subst hc0
 have h3 := hr.ev tab t x
 rw [ha', hv] at h3
 obtain ⟨vs, e1, hl, k1, k2⟩ := h3.agg_inv
 have hl' : vs.length = gs.length := by simpa using hl
 obtain ⟨Fs, hF, k3, k4⟩ := ZmY gs vs hl' fun i hi => by have := k2 i (by simpa using hi); simpa using this
 have hg : GRep w Fs.flatten (a.eval x) (.agg gs) := by
  rw [e1]; exact .agg vs gs Fs hl' hF k1 (by simpa using hn) k3
 have hrun : (execOp a.eval o).run P w = .ok (.enter fid #[a.eval x]) w := by
  have := hc.enter #[a.eval x] w
  unfold execOp
  simp only [ho, resolve, hvf, Deferred.ofValue, Sem.run_bind, Sem.run_pure, Result.andThen_ok, invoke, Array.empty_append]
  have e1 : (#[x].map a.eval ++ ([] : List Value).toArray) = #[a.eval x] := by simp
  rw [e1, this]
 rw [hrun]
 refine (hc.calls w (a.eval x) _ hg).mono fun e w' hq => ?_
 obtain ⟨u, G, rfl, hG, hd, hk⟩ := hq
 refine ⟨u, rfl, μ, who, hr.keeps hk, .g _ _ G hG fun b hb hrt => ?_⟩
 rcases hd b hb with h5 | h5
 ·obtain ⟨id, d, q1, q2⟩ := hrt
  have := (hr.base id b d q1 q2).2
  omega
 ·exact k4 b h5 hrt
structure ConU (P : Program) (f : FuncId) (gs : List GV) (g0 g2 : GV) : Prop where
 enter : ∀ args w, (callFunc f args).run P w = .ok (.enter f args) w
 calls : ∀ w (args : List Value) (hl : args.length = gs.length), (∀ i (hi : i < gs.length), ∃ F, GRep w F (args[i]'(hl ▸ hi)) gs[i]) → Calls P f args.toArray w fun e w' => ∃ v0 v1 v2, e = .returned (.tuple #[v0, v1, v2]) ∧ Gives w (.tup [g0, g2]) (.returned (.tuple #[v0, v2])) w'
set_option maxHeartbeats 2000000 in
theorem Zu3  {tab : Tab}      (ho : o.op = .call { callee := .value f, args := xs.toArray, argTypes := ts.toArray })  (hf : asFn (S.ev tab 0 f) = some (fid, []))
   {g2 : GV} {p0 p2 : PV} (ha : S.args tab xs ts = ps) (hv : Zbo (view S.heap 6) ps = some gs) (hc : ConU P fid gs g0 g2)  (hlf : (ZaC (.tup [g0, g2])).all GV.leaf = true) (h8 : (ZaC (.tup [g0, g2])).length ≤ 8) (hfree : ∀ j, j < (ZaC (.tup [g0, g2])).length → S.heap (nid + j) = .free)
  (hp : Ze2 nid (.tup [g0, g2]) = .tup [p0, p2]) : Zkn P tab nid o S (.tup [p0, .undef, p2]) (Zba nid (ZaC (.tup [g0, g2]))) := by
 intro S' h1 h2 w0 a w μ who hr
 rw [ho] at h1
 have mf : f ∈ (Op.call { callee := .value f, args := xs.toArray, argTypes := ts.toArray }).operands.toList := by simp [Op.operands, Call.operands]
 have mx : ∀ x ∈ xs, x ∈ (Op.call { callee := .value f, args := xs.toArray, argTypes := ts.toArray }).operands.toList := fun x hx => by simp [Op.operands, Call.operands, hx]
 have hf' : asFn (S'.ev tab 0 f) = some (fid, []) := by rw [← Zbq (h1 f mf)]; exact hf
 have hag : ∀ (xs : List Operand) (ts : List TypeId), (∀ x ∈ xs, ∀ t, (x = .tmp t ∨ 65536 ≤ t) → S.slots t = S'.slots t) → S'.args tab xs ts = S.args tab xs ts := by
  intro xs
  induction xs with
  | nil => intro ts _; cases ts <;> rfl
  | cons x xs ih =>
   intro ts hx
   cases ts with
   | nil => simp only [AState.args]; rw [ih [] (fun y hy => hx y (.tail _ hy)), ← Zbq (hx x (.head _))]
   | cons t ts => simp only [AState.args]; rw [ih ts (fun y hy => hx y (.tail _ hy)), ← Zbq (hx x (.head _))]
 have ha' : S'.args tab xs ts = ps := by rw [hag xs ts (fun x hx => h1 x (mx x hx))]; exact ha
 have hfree' : ∀ j, j < (ZaC (.tup [g0, g2])).length → S'.heap (nid + j) = .free := fun j hj => by
  rw [← h2 (nid + j) (by unfold tch; exact List.mem_append.2 (.inl (List.mem_map.2 ⟨j, by simp; omega, rfl⟩)))]; exact hfree j hj
 have hv' : Zbo (view S'.heap 6) ps = some gs := by
  rw [← ZcD (f := view S.heap 6) (g := view S'.heap 6) ps fun p' hp' => ZeK 6 p' fun id hid => h2 id (by
   unfold tch; rw [ho]
   refine List.mem_append.2 (.inr (List.mem_append.2 (.inl ?_)))
   show id ∈ (S.args tab xs ts).flatMap (vids S.heap 6)
   rw [ha]; exact List.mem_flatMap.2 ⟨p', hp', hid⟩)]
  exact hv
 obtain ⟨cvs, hvf, hcl, _⟩ := Zc3 (hr.ev tab 0 f) hf'
 have hc0 : cvs = [] := List.eq_nil_of_length_eq_zero (by simpa using hcl)
 subst hc0
 have hal : (xs.map a.eval).length = ps.length := by rw [List.length_map, ← ha', ZdI]
 obtain ⟨Fs, hvl, hF, hg⟩ := ZdH (w := w) (μ := μ) (h := S'.heap) (fun {v p x} => ZkA hr 6) ps (xs.map a.eval) hal (fun i hi => by
  have hix : i < xs.length := by rw [← ha', ZdI] at hi; exact hi
  have h3 := Zkb (tab := tab) hr xs ts i hix
  have h4 : ((S'.args tab xs ts)[i]'(by rw [ZdI]; exact hix)) = ps[i] := by simp only [ha']
  rw [h4] at h3
  simpa using h3) hv'
 have hrun : (execOp a.eval o).run P w = .ok (.enter fid (xs.map a.eval).toArray) w := by
  have := hc.enter (xs.map a.eval).toArray w
  unfold execOp
  simp only [ho, resolve, hvf, Deferred.ofValue, Sem.run_bind, Sem.run_pure, Result.andThen_ok, invoke, Array.empty_append]
  have e1 : (xs.toArray.map a.eval ++ ([] : List Value).toArray) = (xs.map a.eval).toArray := by simp
  rw [e1, this]
 rw [hrun]
 refine (hc.calls w (xs.map a.eval) hvl (fun i hi => ⟨_, hg i hi⟩)).mono fun e w' hq => ?_
 obtain ⟨v0, v1, v2, rfl, hgv⟩ := hq
 obtain ⟨v, e1, μ', who', r1, r2⟩ := Zkh hr (r := .tup [g0, g2]) nid hlf hfree' hgv
 simp only [Ending.returned.injEq] at e1
 subst e1
 rw [hp] at r2
 obtain ⟨us, e2, hl2, h3⟩ := r2.tup_inv
 have e3 : us = [v0, v2] := by
  have := (Value.tuple.injEq _ _).mp e2
  simpa using this.symm
 subst e3
 refine ⟨_, rfl, μ', who', r1, .tup [v0, v1, v2] _ rfl fun i hi => ?_⟩
 match i, hi with
 | 0, _ => exact h3 0 (by simp)
 | 1, _ => exact .undef _
 | 2, _ => exact h3 1 (by simp)
structure Zoo (P : Program) (f : FuncId) (g0 g1 : GV) : Prop where
 enter : ∀ args w, (callFunc f args).run P w = .ok (.enter f args) w
 calls : ∀ (w : World) (v0 v1 : Value), (∃ F, GRep w F v0 g0) → (∃ F, GRep w F v1 g1) → Calls P f #[v0, v1] w fun e w' => e = .returned (.tuple #[v1, .int .i64 0]) ∧ Keeps [] w w'
set_option maxHeartbeats 2000000 in
theorem Zrp  {tab : Tab}   {x y : Operand} {ty : TypeId} (ho : o.op = .call { callee := .value f, args := #[x, y], argTypes := #[t, ty] })  (hf : asFn (S.ev tab 0 f) = some (fid, []))
  {q : PV} {g1 : GV} (ha : S.ev tab t x = p) (hb : S.ev tab ty y = q) (hv : Zbo (view S.heap 6) [p, q] = some [g0, g1]) (hc : Zoo P fid g0 g1)  : Zkn P tab nid o S (.tup [q, .g (.int .i64 0)]) [] := by
 intro S' h1 h2 w0 a w μ who hr
 have hargs : S.args tab [x, y] [t, ty] = [p, q] := by simp only [AState.args, ha, hb]
 have ht := h2
 rw [ho] at h1
 have mf : f ∈ (Op.call { callee := .value f, args := #[x, y], argTypes := #[t, ty] }).operands.toList := by simp [Op.operands, Call.operands]
 have mx : x ∈ (Op.call { callee := .value f, args := #[x, y], argTypes := #[t, ty] }).operands.toList := by simp [Op.operands, Call.operands]
 have my : y ∈ (Op.call { callee := .value f, args := #[x, y], argTypes := #[t, ty] }).operands.toList := by simp [Op.operands, Call.operands]
 have hf' : asFn (S'.ev tab 0 f) = some (fid, []) := by rw [← Zbq (h1 f mf)]; exact hf
 have ha' : S'.ev tab t x = p := by rw [← Zbq (h1 x mx)]; exact ha
 have hb' : S'.ev tab ty y = q := by rw [← Zbq (h1 y my)]; exact hb
 obtain ⟨cvs, hvf, hcl, _⟩ := Zc3 (hr.ev tab 0 f) hf'
 have hc0 : cvs = [] := List.eq_nil_of_length_eq_zero (by simpa using hcl)
 subst hc0
 have hv' : Zbo (view S'.heap 6) [p, q] = some [g0, g1] := by
  rw [← ZcD (f := view S.heap 6) (g := view S'.heap 6) [p, q] fun p' hp' => ZeK 6 p' fun id hid => h2 id (by
   unfold tch; rw [ho]
   refine List.mem_append.2 (.inr (List.mem_append.2 (.inl ?_)))
   show id ∈ (S.args tab [x, y] [t, ty]).flatMap (vids S.heap 6)
   rw [hargs]; exact List.mem_flatMap.2 ⟨p', hp', hid⟩)]
  exact hv
 have px := hr.ev tab t x
 have py := hr.ev tab ty y
 rw [ha'] at px
 rw [hb'] at py
 obtain ⟨Fs, hvl, hF, hg⟩ := ZdH (w := w) (μ := μ) (h := S'.heap) (fun {v p x} => ZkA hr 6) [p, q] [a.eval x, a.eval y] rfl (fun i hi => by
  match i, hi with
  | 0, _ => exact px
  | 1, _ => exact py) hv'
 have hrun : (execOp a.eval o).run P w = .ok (.enter fid #[a.eval x, a.eval y]) w := by
  have := hc.enter #[a.eval x, a.eval y] w
  unfold execOp
  simp only [ho, resolve, hvf, Deferred.ofValue, Sem.run_bind, Sem.run_pure, Result.andThen_ok, invoke, Array.empty_append]
  have e1 : (#[x, y].map a.eval ++ ([] : List Value).toArray) = #[a.eval x, a.eval y] := by simp
  rw [e1, this]
 rw [hrun]
 refine (hc.calls w (a.eval x) (a.eval y) ⟨_, hg 0 (by simp)⟩ ⟨_, hg 1 (by simp)⟩).mono fun e w' hq => ?_
 obtain ⟨rfl, hk⟩ := hq
 have hm : Move w w' μ μ S'.heap S'.heap := Move.keeps (fun i b d h1 h2 => (hr.base i b d h1 h2).2) hk
 refine ⟨_, rfl, μ, who, hr.keeps hk, .tup [a.eval y, .int .i64 0] _ rfl fun i hi => ?_⟩
 match i, hi with
 | 0, _ => exact py.move hm
 | 1, _ => exact PRep.of_int _ _ _ _ _
theorem Con.ex {P : Program} {f : FuncId} {v : Value} {e : Nat} {xs : List GV} {gs : List GV} {r : GV} (h : Con P f (.sl e xs :: gs) r) : Con P f (.ex v e xs :: gs) r :=
 ⟨h.enter, fun w args hl hg => h.calls w args hl fun i hi => by
  cases i with
  | zero =>
   obtain ⟨F, h1⟩ := hg 0 (by simp)
   exact ⟨F, h1.unex.2⟩
  | succ i => exact hg (i + 1) hi⟩
end Go.Proofs.YtjjidamlmebaaaaGreat
namespace Go.Proofs.YtjjidamlmebaaaaGreat
open Go.RowKit
open Shp
variable {w : World} {μ : Lay} {id : Nat} {dp : Bool} {L L' : List Int} {q q' : Int} {P : Program} {g0 : GV} {c1 c2 : List GV}
theorem ZhD {w0 w1 : W0}  {μ1 : Lay} {h h1 : Nat → Block} {who who1 : Nat → Option Nat} {id1 : Nat}   (hb : BRep w0 w μ h who id (.arr 1 dp (L.map GV.i))) (e : μ1 id1 = μ id) : BRep w1 w μ1 h1 who1 id1 (.arr 1 true (L.map GV.i)) := by
 obtain ⟨he, hb⟩ := hb
 refine ⟨he, ?_⟩
 rw [e]
 cases hμ : μ id with
 | none => simpa only [hμ] using hb
 | some bd =>
  obtain ⟨b, d⟩ := bd
  simp only [hμ] at hb ⊢
  obtain ⟨vs, t, Fs, els, h2, h3, h4, _⟩ := hb
  have hF : Fs.flatten = [] := by
   rw [List.flatten_eq_nil_iff]
   intro F hF
   obtain ⟨i, hi, rfl⟩ := List.getElem_of_mem hF
   have hi' : i < (L.map GV.i).length := by rw [← h3.fl]; exact hi
   have := h3.el i hi'
   have e5 : (L.map GV.i)[i] = .i (L[i]'(by simpa using hi')) := by simp
   rw [e5] at this
   revert this
   generalize Fs[i] = F
   generalize els[i]'(h3.len ▸ hi') = u
   intro this
   cases this
   rfl
  exact ⟨vs, t, Fs, els, h2, h3, by rw [hF]; simp, fun _ => by rw [hF]; simp⟩
end Go.Proofs.YtjjidamlmebaaaaGreat
namespace Go.Proofs.YtjjidamlmebaaaaGreat
open Go.RowKit
open Shp
variable {Fs : List (List Nat)} {k b : Nat}
def VB (N : Nat) (v : Value) : Prop := ∀ p n cap, v = .slice (some p) n cap → 0 < cap → p.block < N
inductive SepG (N : Nat) : GV → Prop
 | flat (x : GV) : x.flat = true → SepG N x
 | raw (c : Nat) (v : Value) : SepG N (.raw c v)
 | bd (M e : Nat) (xs : List GV) : M ≤ N → SepG N (.bd M e xs)
 | ex (v : Value) (e : Nat) (xs : List GV) : VB N v → (∀ x ∈ xs, SepG N x) → SepG N (.ex v e xs)
inductive Sep (N : Nat) : PV → Prop
 | g (x : GV) : SepG N x → Sep N (.g x)
 | undef : Sep N .undef
 | none_ : Sep N .none_
 | nils (e : Nat) : Sep N (.nils e)
 | own (id lo len : Nat) : Sep N (.own id lo len)
 | ptr (id off : Nat) : Sep N (.ptr id off)
 | eptr (id i j : Nat) : Sep N (.eptr id i j)
 | agg (cs : List PV) : (∀ x ∈ cs, Sep N x) → Sep N (.agg cs)
 | tup (cs : List PV) : (∀ x ∈ cs, Sep N x) → Sep N (.tup cs)
 | fn (f : FuncId) (cs : List PV) : (∀ x ∈ cs, Sep N x) → Sep N (.fn f cs)
inductive SepB (N : Nat) : Block → Prop
 | free : SepB N .free
 | dead : SepB N .dead
 | lim (M : Nat) : SepB N (.lim M)
 | box (cs : List PV) : (∀ x ∈ cs, Sep N x) → SepB N (.box cs)
 | deep (e : Nat) (xs : List GV) : SepB N (.arr e true xs)
 | arr (e : Nat) (dp : Bool) (xs : List GV) : (∀ x ∈ xs, SepG N x) → SepB N (.arr e dp xs)
 | hd (v : Value) (e : Nat) (xs : List GV) : SepB N (.hd v e xs)
theorem GRep.sep {N : Nat} {w : World} {F : List Nat} {v : Value} {x : GV} (h : GRep w F v x) (hx : SepG N x) : ∀ b ∈ F, b < N := by
 induction hx generalizing F v with
 | flat _ hf => rw [h.of_flat hf]; simp
 | raw c v =>
  cases h with
  | atom x hx => simp [GV.atom] at hx
  | raw => simp
 | bd M e xs hM => exact fun b hb => Nat.lt_of_lt_of_le (h.unbd.2 b hb) hM
 | ex v0 e xs hv hfl ih =>
  obtain ⟨e0, h2⟩ := h.unex
  obtain ⟨a, cap, els, Fs, e1, e2, hs⟩ := h2.slice
  rw [e2]
  intro b hb
  rcases List.mem_append.1 hb with hb | hb
  ·obtain ⟨p, hp, hc, rfl⟩ := own_inv hb
   exact hv p xs.length cap (by rw [← e0, e1, hp]) hc
  ·obtain ⟨k, hk, hb⟩ := Zaq hb
   have hk' : k < xs.length := by rw [← hs.hF]; exact hk
   exact ih _ (List.getElem_mem hk') (hs.h k hk') b hb
structure Sp (N : Nat) (μ μ' : Lay) (h h' : Nat → Block) : Prop where
 root : ∀ b, b < N → Root μ' h' b → Root μ h b
 free : ∀ id, h' id = .free → h id = .free
 arr : ∀ id e dp xs, h id ≠ .free → h' id = .arr e dp xs → μ' id = μ id ∧ ∃ dp' xs', h id = .arr e dp' xs'
 box : ∀ id cs, h id ≠ .free → h' id = .box cs → μ' id = μ id ∧ h id = .box cs
theorem PRep.sep {N : Nat} {w : World} {μ μ' : Lay} {h h' : Nat → Block} (hm : Sp N μ μ' h h') {v : Value} {x : PV} (hr : PRep w μ h v x) (hx : Sep N x) : PRep w μ' h' v x := by
 induction hr with
 | g v x F hg hd =>
  have h1 : SepG N x := by cases hx; assumption
  exact .g v x F hg fun b hb hr => hd b hb (hm.root b (hg.sep h1 b hb) hr)
 | undef v => exact .undef v
 | none_ => exact .none_
 | nils e he => exact .nils e he
 | own v id lo len h1 hf ho =>
  refine .own v id lo len h1 (fun e => hf (hm.free id e)) fun e dp xs hx => ?_
  obtain ⟨e1, dp', xs', e2⟩ := hm.arr id e dp xs hf hx
  have h3 := ho e dp' xs' e2
  unfold Zbp at *
  rw [e1]; exact h3
 | ptr v id off h1 hf ho =>
  refine .ptr v id off h1 (fun e => hf (hm.free id e)) fun cs hx => ?_
  obtain ⟨e1, e2⟩ := hm.box id cs hf hx
  rw [e1]; exact ho cs e2
 | eptr v id i j h1 hf ho =>
  refine .eptr v id i j h1 (fun e => hf (hm.free id e)) fun e dp xs hx => ?_
  obtain ⟨e1, dp', xs', e2⟩ := hm.arr id e dp xs hf hx
  rw [e1]; exact ho e dp' xs' e2
 | iptr | glob => cases hx
 | agg vs cs hv h1 he ih =>
  have h2 : ∀ x ∈ cs, Sep N x := by cases hx; assumption
  exact .agg vs cs hv h1 fun i hi => ih i hi (h2 _ (List.getElem_mem _))
 | tup vs cs hv he ih =>
  have h2 : ∀ x ∈ cs, Sep N x := by cases hx; assumption
  exact .tup vs cs hv fun i hi => ih i hi (h2 _ (List.getElem_mem _))
 | fn f vs cs hv he ih =>
  have h2 : ∀ x ∈ cs, Sep N x := by cases hx; assumption
  exact .fn f vs cs hv fun i hi => ih i hi (h2 _ (List.getElem_mem _))
theorem Zcs  (h : b ∈ (Fs.set k []).flatten) : ∃ n, ∃ hn : n < Fs.length, n ≠ k ∧ b ∈ Fs[n] := by
 obtain ⟨n, hn, hb⟩ := Zaq h
 have hn' : n < Fs.length := by simpa using hn
 rw [List.getElem_set] at hb
 split at hb
 ·simp at hb
 ·exact ⟨n, hn', fun e => by omega, hb⟩
theorem Zey  (k : Nat) (h : Fs.flatten.Nodup) : (Fs.set k []).flatten.Nodup := by
 induction Fs generalizing k with
 | nil => simp
 | cons F Fs ih =>
  rw [List.flatten_cons] at h
  have h' := List.nodup_append.1 h
  cases k with
  | zero => simpa using h'.2.1
  | succ k =>
   simp only [List.set_cons_succ, List.flatten_cons]
   refine List.nodup_append.2 ⟨h'.1, ih k h'.2.1, fun x hx y hy e => ?_⟩
   obtain ⟨n, hn, _, hb⟩ := Zcs hy
   exact h'.2.2 x hx y (Zac hn hb) e
theorem Zim  (h : Fs.flatten.Nodup) {i : Nat} (hi : i < Fs.length) (hk : k < Fs.length) (hne : i ≠ k)  (hb : b ∈ Fs[k]) : b ∉ Fs[i] := by
 have h2 := (List.pairwise_flatten.1 h).2
 rw [List.pairwise_iff_getElem] at h2
 intro hb'
 rcases Nat.lt_or_gt_of_ne hne with h3 | h3
 ·exact h2 i k hi hk h3 b hb' b hb rfl
 ·exact h2 k i hk hi h3 b hb b hb' rfl
theorem RelAt.split {w0 : W0} {S : AState} {a : Act} {w : World} {μ : Lay} {who : Nat → Option Nat} (h : RelAt w0 S a w μ who) {id c kk e N : Nat} {xs row : List GV} (hid : S.heap id = .arr 1 true xs) (hk : xs[kk]? = some (.sl e row)) (hc : S.heap c = .free) (hN : N = 0 ∨ (N ≤ w0.w.heap.size ∧ w0.p 70000 = none)) :
  ∃ v, ∀ S' : AState, S'.n = S.n → (∀ t, S'.slots t = .undef ∨ (S'.slots t = S.slots t ∧ Sep N (S.slots t))) → S'.heap id = .arr 1 true (xs.set kk (.raw c v)) → S'.heap c = .hd v e row → (∀ i, i ≠ id → i ≠ c → S'.heap i = S.heap i ∧ SepB N (S.heap i)) → ∃ μ' who', RelAt w0 S' a w μ' who' := by
 have hB := h.blk id
 rw [hid] at hB
 obtain ⟨he1, hB⟩ := hB
 have hkl : kk < xs.length := (List.getElem?_eq_some_iff.1 hk).1
 have hxk : xs[kk] = .sl e row := (List.getElem?_eq_some_iff.1 hk).2
 have hidc : id ≠ c := by rintro rfl; rw [hid] at hc; cases hc
 cases hμ : μ id with
 | none => simp only [hμ] at hB; subst hB; simp at hkl
 | some bd =>
 obtain ⟨b, d⟩ := bd
 simp only [hμ] at hB
 obtain ⟨vs, t, Fs, els, hrow, hr, hnr, hdp⟩ := hB
 obtain ⟨hnd, hwho⟩ := hdp trivial
 have hkF : kk < Fs.length := by rw [hr.fl]; exact hkl
 have hkE : kk < els.length := by rw [hr.len]; exact hkl
 have g0 := hr.el kk hkl
 rw [hxk] at g0
 obtain ⟨ad, cap, els', Fs', e2, e3, hs⟩ := g0.slice
 have hone : (els[kk]'hkE).oneCell' = true := by rw [e2]; rfl
 refine ⟨els[kk]'hkE, fun S' hn hsl hhid hhc ho => ?_⟩
 classical
 have hmid : ∀ p, ad = some p → 0 < cap → ∃ vq tq, p = ⟨p.block, p.off, none⟩ ∧ p.block ∈ Fs[kk]'hkF ∧ w.heap[p.block]? = some (cel vq tq) ∧ p.off + cap * e ≤ vq.size := fun p hp hc0 => by
  subst hp
  obtain ⟨h1, h2⟩ := hs.ad p rfl hc0
  have hin : p.block ∈ Fs[kk]'hkF := by rw [e3]; exact List.mem_append.2 (.inl (Zce rfl hc0))
  obtain ⟨_, _, vq, tq, hq⟩ := hwho _ (Zac _ hin)
  have hp2 : p = ⟨p.block, p.off, none⟩ := by obtain ⟨b, o, s⟩ := p; simp only at h1; rw [h1]
  refine ⟨vq, tq, hp2, hin, hq, ?_⟩
  have hce : 0 < cap * e := Nat.mul_pos hc0 hs.he
  have h3 := (hs.rm (cap * e - 1) (by omega)).1
  rw [hp2, ZfS, cell_of_row w p.block _ _ _ _ hq] at h3
  obtain ⟨u, hu⟩ := Option.isSome_iff_exists.1 h3
  have := (Array.getElem?_eq_some_iff.1 hu).1
  omega
 let lay : Option (Nat × Nat) := match ad with
  | some p => if 0 < cap then some (p.block, p.off) else none
  | none => none
 have hlay : ∀ q o, lay = some (q, o) → ∃ p, ad = some p ∧ 0 < cap ∧ q = p.block ∧ o = p.off := fun q o hq => by
  simp only [lay] at hq
  cases ad with
  | none => cases hq
  | some p =>
   simp only at hq
   split at hq
   ·simp only [Option.some.injEq, Prod.mk.injEq] at hq
    exact ⟨p, rfl, by assumption, hq.1.symm, hq.2.symm⟩
   ·cases hq
 have hlayn : lay = none → cap = 0 := fun hq => by
  simp only [lay] at hq
  cases ad with
  | none => exact hs.nil rfl
  | some p =>
   simp only at hq
   split at hq
   ·cases hq
   ·omega
 have hlive : ∀ i, i ≠ c → (S'.heap i).live = (S.heap i).live := fun i hi => by
  by_cases e : i = id
  ·subst e; rw [hhid, hid]; rfl
  ·rw [(ho i e hi).1]
 have hroot : ∀ x, Root (upd μ c lay) S'.heap x → Root μ S.heap x ∨ (∃ o, lay = some (x, o)) := by
  rintro x ⟨i, d', h1, h2⟩
  by_cases ei : i = c
  ·subst ei; rw [Zan] at h2; exact .inr ⟨d', h2⟩
  ·rw [Zay _ _ _ ei] at h2; rw [hlive i ei] at h1; exact .inl ⟨i, d', h1, h2⟩
 have hq : ∀ x o, lay = some (x, o) → x ∈ Fs[kk]'hkF ∧ x ∈ Fs.flatten := fun x o hx => by
  obtain ⟨p, hp, hc0, rfl, _⟩ := hlay x o hx
  obtain ⟨_, _, _, hin, _⟩ := hmid p hp hc0
  exact ⟨hin, Zac _ hin⟩
 have hold : ∀ x, x < N → Root (upd μ c lay) S'.heap x → Root μ S.heap x := fun x hx hrt => (hroot x hrt).elim (fun h => h) fun ⟨o, hxo⟩ => by
  rcases hN with hN | ⟨hN, hp7⟩
  ·omega
  ·rcases (hwho x (hq x o hxo).2).2.1 with h9 | h9
   ·omega
   ·rw [hp7] at h9; simp at h9
 have hsp : Sp N μ (upd μ c lay) S.heap S'.heap := by
  refine ⟨hold, fun i hi => ?_, fun i e' dp ys hf hi => ?_, fun i cs hf hi => ?_⟩
  ·by_cases ei : i = c
   ·subst ei; exact hc
   ·by_cases e : i = id
    ·subst e; rw [hhid] at hi; cases hi
    ·rw [(ho i e ei).1] at hi; exact hi
  ·have ei : i ≠ c := by rintro rfl; exact hf hc
   refine ⟨Zay _ _ _ ei, ?_⟩
   by_cases e : i = id
   ·subst e; rw [hhid] at hi; cases hi; exact ⟨true, xs, hid⟩
   ·rw [(ho i e ei).1] at hi; exact ⟨dp, ys, hi⟩
  ·have ei : i ≠ c := by rintro rfl; exact hf hc
   refine ⟨Zay _ _ _ ei, ?_⟩
   by_cases e : i = id
   ·subst e; rw [hhid] at hi; cases hi
   ·rw [(ho i e ei).1] at hi; exact hi
 have hsub : ∀ x ∈ Fs'.flatten, x ∈ Fs[kk]'hkF := fun x hx => by rw [e3]; exact List.mem_append.2 (.inr hx)
 have hndk : (Fs[kk]'hkF).Nodup := hnd.sublist (List.sublist_flatten_of_mem (List.getElem_mem _))
 let who' : Nat → Option Nat := fun x => if x ∈ Fs'.flatten then some c else who x
 have hw1 : ∀ x, who x ≠ some id → who' x = who x := fun x hx => by
  simp only [who']
  rw [if_neg fun hm => hx (hwho x (Zac _ (hsub x hm))).1]
 refine ⟨upd μ c lay, who', by rw [hn]; exact h.size, fun s => ?_, h.dfr, fun i => ?_, fun i j x d1 d2 hi hj ei ej => ?_, fun i x d1 hi ei => ?_, h.keep, fun s x hp hx => ?_, fun s v hv ht => by rw [hn]; exact h.old.2 s v hv ht⟩
 ·rcases hsl s with e | ⟨e, hsep⟩
  ·rw [e]; exact .undef _
  ·rw [e]; exact (h.slot s).sep hsp hsep
 ·by_cases ei : i = c
  ·subst ei
   rw [hhc]
   refine ⟨hs.he, hone, ?_, ?_⟩
   ·unfold Zbp
    rw [Zan]
    cases hl : lay with
    | none =>
     have h0 := hlayn hl
     have := hs.le
     simp only
     refine ⟨⟨ad, ?_⟩, by first | trivial | rfl, by omega⟩
     rw [e2, h0, show row.length = 0 by omega]
    | some qo =>
     obtain ⟨q, o⟩ := qo
     obtain ⟨p, hp, hc0, rfl, rfl⟩ := hlay q o hl
     obtain ⟨vq, tq, hp2, _, hq1, hq2⟩ := hmid p hp hc0
     show ∃ cap o, _
     exact ⟨cap, p.off, by rw [e2, hp, ← hp2], hs.le, hs.max, vq, tq, hq1, fun _ => by simp, hq2⟩
   ·rw [Zan]
    cases hl : lay with
    | none =>
     have h0 := hlayn hl
     have := hs.le
     simp only
     exact List.eq_nil_of_length_eq_zero (by omega)
    | some qo =>
     obtain ⟨q, o⟩ := qo
     obtain ⟨p, hp, hc0, rfl, rfl⟩ := hlay q o hl
     obtain ⟨vq, tq, hp2, hin, hq1, hq2⟩ := hmid p hp hc0
     simp only
     have hfit : row.length * e ≤ cap * e := Nat.mul_le_mul_right _ hs.le
     refine ⟨vq, tq, Fs', els', hq1, Zcr hs.he hs.hv hs.hF hs.sizes (fun v hv' => ?_) hs.nc hs.h (by omega) (fun j hj => ?_), fun x hx hrt => ?_, ?_, fun x hx => ⟨by simp only [who']; rw [if_pos hx], (hwho x (Zac _ (hsub x hx))).2⟩⟩
     ·obtain ⟨j, hj, rfl⟩ := List.getElem_of_mem hv'; exact (hs.hc j hj).2.1
     ·have h9 := hs.cells hp j _ (List.getElem?_eq_getElem hj)
      rw [hp2, Addr.add_mid, cell_of_row w p.block _ _ _ _ hq1] at h9
      rw [h9, List.getElem?_eq_getElem hj]
     ·rw [← hl] at hrt
      rcases hroot x hrt with h5 | ⟨o', h5⟩
      ·exact hnr x (Zac _ (hsub x hx)) h5
      ·rw [hl] at h5
       simp only [Option.some.injEq, Prod.mk.injEq] at h5
       rw [e3] at hndk
       exact (List.nodup_append.1 hndk).2.2 _ (Zce hp hc0) _ hx h5.1
     ·rw [e3] at hndk; exact (List.nodup_append.1 hndk).2.1
  ·by_cases e : i = id
   ·subst e
    rw [hhid]
    refine ⟨he1, ?_⟩
    rw [Zay _ _ _ ei]
    simp only [hμ]
    refine ⟨vs, t, Fs.set kk [], els, hrow, ⟨by simp [hr.len], by simp [hr.fl], by simpa using hr.fit, fun n hn' => ?_, fun n hn' => ?_, hr.sz, hr.cell⟩, fun x hx hrt => ?_, fun _ => ⟨Zey kk hnd, fun x hx => ?_⟩⟩
    ·rw [List.getElem_set]; split
     ·rfl
     ·exact hr.nc n (by simpa using hn')
    ·have hn2 : n < xs.length := by simpa using hn'
     simp only [List.getElem_set]
     by_cases en : kk = n
     ·subst en
      rw [if_pos rfl, if_pos rfl]
      exact .raw c _ hone
     ·rw [if_neg en, if_neg en]; exact hr.el n hn2
    ·obtain ⟨n, hn', hne, hb⟩ := Zcs hx
     rcases hroot x hrt with h5 | ⟨o', h5⟩
     ·exact hnr x (Zac _ hb) h5
     ·exact Zim hnd hn' hkF hne (hq x o' h5).1 hb
    ·obtain ⟨n, hn', hne, hb⟩ := Zcs hx
     have h5 : x ∉ Fs'.flatten := fun hm => Zim hnd hn' hkF hne (hsub x hm) hb
     simp only [who']
     rw [if_neg h5]
     exact hwho x (Zac _ hb)
   ·obtain ⟨h3, h4⟩ := ho i e ei
    rw [h3]
    have hb := h.blk i
    have hdeep : ∀ {Gs : List (List Nat)}, (∀ x ∈ Gs.flatten, ¬ Root μ S.heap x) → (∀ x ∈ Gs.flatten, who x = some i ∧ NewB w0 w x) → (∀ x ∈ Gs.flatten, ¬ Root (upd μ c lay) S'.heap x) ∧ ∀ x ∈ Gs.flatten, who' x = some i ∧ NewB w0 w x := fun {Gs} h7 h8 => by
     refine ⟨fun x hx hrt => ?_, fun x hx => ?_⟩
     ·rcases hroot x hrt with h5 | ⟨o', h5⟩
      ·exact h7 x hx h5
      ·have h9 := (hwho x (hq x o' h5).2).1
       rw [(h8 x hx).1] at h9
       exact e (Option.some.inj h9)
     ·rw [hw1 x (by rw [(h8 x hx).1]; intro h9; exact e (Option.some.inj h9))]
      exact h8 x hx
    revert hb h4
    cases hBi : S.heap i with
    | free => intros; trivial
    | dead => intros; trivial
    | lim M => intro _ hb; exact ⟨hb.1, by rw [Zay _ _ _ ei]; exact hb.2⟩
    | box cs =>
     intro h4 hb
     obtain ⟨x, us, t', h5, h6, h7, h8, h9⟩ := hb
     have h10 : ∀ x ∈ cs, Sep N x := by cases h4; assumption
     exact ⟨x, us, t', by rw [Zay _ _ _ ei]; exact h5, h6, h7, h8, fun n hn' => (h9 n hn').sep hsp (h10 _ (List.getElem_mem _))⟩
    | arr e' dp ys =>
     intro h4 hb
     obtain ⟨he', hb⟩ := hb
     refine ⟨he', ?_⟩
     rw [Zay _ _ _ ei]
     cases hμi : μ i with
     | none => simpa only [hμi] using hb
     | some cd =>
      obtain ⟨x, d'⟩ := cd
      simp only [hμi] at hb ⊢
      obtain ⟨us, t', Gs, els2, h5, h6, h7, h8⟩ := hb
      cases h4 with
      | deep =>
       obtain ⟨k1, k2⟩ := hdeep h7 (h8 rfl).2
       exact ⟨us, t', Gs, els2, h5, h6, k1, fun _ => ⟨(h8 rfl).1, k2⟩⟩
      | arr _ _ _ hno =>
       refine ⟨us, t', Gs, els2, h5, h6, fun z hz hrt => ?_, fun hd => ⟨(h8 hd).1, (hdeep h7 (h8 hd).2).2⟩⟩
       obtain ⟨n, hn', hz'⟩ := Zaq hz
       have hn2 : n < ys.length := by rw [← h6.fl]; exact hn'
       exact h7 z hz (hold z ((h6.el n hn2).sep (hno _ (List.getElem_mem _)) z hz') hrt)
    | hd v' e' ys =>
     intro h4 hb
     obtain ⟨he', hv', hoa, hb⟩ := hb
     refine ⟨he', hv', ?_, ?_⟩
     ·unfold Zbp at *; rw [Zay _ _ _ ei]; exact hoa
     rw [Zay _ _ _ ei]
     cases hμi : μ i with
     | none => simpa only [hμi] using hb
     | some cd =>
      obtain ⟨x, d'⟩ := cd
      simp only [hμi] at hb ⊢
      obtain ⟨us, t', Gs, els2, h5, h6, h7, h8, h9⟩ := hb
      obtain ⟨k1, k2⟩ := hdeep h7 h9
      exact ⟨us, t', Gs, els2, h5, h6, k1, h8, k2⟩
 ·by_cases ci : i = c
  ·by_cases cj : j = c
   ·rw [ci, cj]
   ·subst ci
    rw [Zan] at ei
    rw [Zay _ _ _ cj] at ej
    rw [hlive j cj] at hj
    exact absurd ⟨j, d2, hj, ej⟩ (hnr x (hq x d1 ei).2)
  ·by_cases cj : j = c
   ·subst cj
    rw [Zan] at ej
    rw [Zay _ _ _ ci] at ei
    rw [hlive i ci] at hi
    exact absurd ⟨i, d1, hi, ei⟩ (hnr x (hq x d2 ej).2)
   ·rw [Zay _ _ _ ci] at ei
    rw [Zay _ _ _ cj] at ej
    exact h.inj i j x d1 d2 (by rw [← hlive i ci]; exact hi) (by rw [← hlive j cj]; exact hj) ei ej
 ·by_cases ci : i = c
  ·subst ci
   rw [Zan] at ei
   have h9 := (hwho x (hq x d1 ei).2).2
   exact ⟨.inl h9.1, h9.2.lt⟩
  ·rw [Zay _ _ _ ci] at ei
   have hb := h.base i x d1 (by rw [← hlive i ci]; exact hi) ei
   refine ⟨?_, hb.2⟩
   by_cases e : i = id
   ·subst e; rw [hhid]; exact .inl (hb.1.arr hid)
   ·rw [(ho i e ci).1]; exact hb.1
 ·rcases hsl s with e | ⟨e, _⟩
  ·rw [e] at hx; cases hx
  ·rw [e] at hx; exact h.old.1 s x (by rw [← hn]; exact hp) hx
end Go.Proofs.YtjjidamlmebaaaaGreat
namespace Go.Proofs.YtjjidamlmebaaaaGreat
open Go.RowKit
open Shp
variable {S : AState} {w : World} {μ : Lay} {c : Nat} {v : Value} {xs : List GV}
theorem RelAt.open_ {w0 : W0}  {a : Act}   {who : Nat → Option Nat} (h : RelAt w0 S a w μ who) {m e : Nat}   (hc : S.heap c = .hd v e xs) (hm0 : S.heap m = .free) :
  ∃ who', RelAt w0 ((S.write c .dead).write m (.arr e true xs)) a w (upd μ m (μ c)) who' ∧ PRep w (upd μ m (μ c)) ((S.write c .dead).write m (.arr e true xs)).heap v (.own m 0 xs.length) ∧ Move w w μ (upd μ m (μ c)) S.heap ((S.write c .dead).write m (.arr e true xs)).heap := by
 have hne : c ≠ m := by rintro rfl; rw [hc] at hm0; cases hm0
 have hlv : (S.heap c).live = true := by rw [hc]; rfl
 have e1 : ((S.write c .dead).write m (.arr e true xs)).heap m = .arr e true xs := by simp only [AState.write]; rw [Zan]
 have e2 : ((S.write c .dead).write m (.arr e true xs)).heap c = .dead := by simp only [AState.write]; rw [Zay _ _ _ hne, Zan]
 have e3 : ∀ j, j ≠ c → j ≠ m → ((S.write c .dead).write m (.arr e true xs)).heap j = S.heap j := fun j h1 h2 => by
  simp only [AState.write]; rw [Zay _ _ _ h2, Zay _ _ _ h1]
 have hroot : ∀ b, Root (upd μ m (μ c)) ((S.write c .dead).write m (.arr e true xs)).heap b → Root μ S.heap b := by
  rintro b ⟨j, d, h1, h2⟩
  by_cases hj : j = m
  ·subst hj; rw [Zan] at h2; exact ⟨c, d, hlv, h2⟩
  ·rw [Zay _ _ _ hj] at h2
   by_cases hj2 : j = c
   ·subst hj2; rw [e2] at h1; cases h1
   ·rw [e3 j hj2 hj] at h1; exact ⟨j, d, h1, h2⟩
 have hm : Move w w μ (upd μ m (μ c)) S.heap ((S.write c .dead).write m (.arr e true xs)).heap := by
  refine ⟨fun b hb hr => ⟨rfl, fun hr' => hr (hroot b hr')⟩, fun i b d h1 h2 h3 h4 vs t hw => ⟨vs, t, hw, rfl⟩, fun i hi => ?_, fun i e dp' xs' hf hi => ?_, fun i cs hf hi => ?_⟩
  ·by_cases h1 : i = m
   ·subst h1; exact hm0
   ·by_cases h2 : i = c
    ·subst h2; rw [e2] at hi; cases hi
    ·rw [e3 i h2 h1] at hi; exact hi
  ·by_cases h1 : i = m
   ·subst h1; exact absurd hm0 hf
   ·by_cases h2 : i = c
    ·subst h2; rw [e2] at hi; cases hi
    ·rw [e3 i h2 h1] at hi; exact ⟨Zay _ _ _ h1, dp', xs', hi⟩
  ·by_cases h1 : i = m
   ·subst h1; rw [e1] at hi; cases hi
   ·by_cases h2 : i = c
    ·subst h2; rw [e2] at hi; cases hi
    ·rw [e3 i h2 h1] at hi; exact ⟨Zay _ _ _ h1, cs, hi⟩
 have hB := h.blk c
 rw [hc] at hB
 obtain ⟨he, hone, hoa, hB⟩ := hB
 refine ⟨fun b => if who b = some c then some m else who b, h.step [m, c] rfl rfl hm h.keep (fun j hj => ?_) (fun j hj => ?_) (fun b j _ hj _ hb => ?_) (Nat.le_refl _), ?_, hm⟩
 ·simp only [List.mem_cons, List.not_mem_nil, or_false, not_or] at hj
  exact ⟨e3 j hj.2 hj.1, fun hl => ⟨Zay _ _ _ hj.1, fun b d hb => rfl⟩⟩
 ·simp only [List.mem_cons, List.not_mem_nil, or_false] at hj
  rcases hj with rfl | rfl
  ·rw [e1]
   refine ⟨?_, fun _ b d hb => ?_⟩
   ·refine ⟨he, ?_⟩
    rw [Zan]
    cases hμ : μ c with
    | none => rw [hμ] at hB; exact hB
    | some bd =>
     obtain ⟨b, d⟩ := bd
     rw [hμ] at hB
     obtain ⟨vs, t, Fs, els, h1, h2, h3, h4, h5⟩ := hB
     obtain ⟨h6, h7⟩ := h2.move hm h3
     exact ⟨vs, t, Fs, els, h1, h6, (by rw [hμ] at h7; exact h7), fun _ => ⟨h4, fun x hx => ⟨by simp only; rw [if_pos (h5 x hx).1], (h5 x hx).2⟩⟩⟩
   ·rw [Zan] at hb
    have hb' := h.base c b d hlv hb
    refine ⟨fun i d' hi hli hi' => hi (by have := h.inj i c b d' d hli hlv hi' hb; subst this; simp), fun i d' hi hli hi' => ?_, ?_, hb'.2⟩
    ·simp only [List.mem_cons, List.not_mem_nil, or_false] at hi
     rcases hi with rfl | rfl
     ·rfl
     ·rw [e2] at hli; cases hli
    ·exact hb'.1.kind (by rw [hc]; rintro ⟨cs, hc⟩; cases hc)
  ·rw [e2]; exact ⟨trivial, fun hl => by cases hl⟩
 ·simp only [List.mem_cons, List.not_mem_nil, or_false, not_or] at hj
  show (if who b = some c then some m else who b) = some j
  rw [if_neg (by rw [hb]; intro e; exact hj.2 (Option.some.inj e))]; exact hb
 ·refine .own _ m 0 _ hone (by rw [e1]; simp) fun e' dp' xs' hx => ?_
  rw [e1] at hx
  cases hx
  unfold Zbp at hoa ⊢
  rw [Zan]
  exact hoa
theorem Zov {h h' : Nat → Block} {e : Nat} {p : PV} {r : List GV × List Nat × Bool} (hs : srcE h e p = some r) (hk : ∀ id e dp xs, h id = .arr e dp xs → h' id = .arr e dp xs) : srcE h' e p = some r ∧ ∀ id ∈ r.2.1, ∃ e dp xs, h id = .arr e dp xs := by
 cases p with
 | own id lo len =>
  simp only [srcE] at hs ⊢
  cases hid : h id with
  | arr e' dp ys =>
   rw [hk id _ _ _ hid]
   rw [hid] at hs
   simp only at hs ⊢
   split at hs
   ·split at hs
    ·simp only [Option.some.injEq] at hs; subst hs
     rename_i h1 h2
     rw [if_pos h1, if_pos h2]; exact ⟨rfl, by simp⟩
    ·simp only [Option.some.injEq] at hs; subst hs
     rename_i h1 h2
     rw [if_pos h1, if_neg h2]; exact ⟨rfl, fun i hi => by simp at hi; subst hi; exact ⟨_, _, _, hid⟩⟩
   ·cases hs
  | _ => rw [hid] at hs; cases hs
 | g v =>
  cases v with
  | sl e' ys =>
   simp only [srcE] at hs ⊢
   refine ⟨hs, ?_⟩
   split at hs
   ·simp only [Option.some.injEq] at hs; subst hs; simp
   ·cases hs
  | _ => simp [srcE] at hs
 | nils e' => simp only [srcE, Option.some.injEq] at hs ⊢; subst hs; exact ⟨rfl, by simp⟩
 | _ => simp [srcE] at hs
theorem Zsf  {h : Nat → Block} {u : Value}  (hv : PRep w μ h u (.g (.raw c v))) : u = v := by
 obtain ⟨F, hg, _⟩ := hv.g_inv
 cases hg with
 | atom x hx => simp [GV.atom] at hx
 | raw => rfl
set_option maxHeartbeats 1000000 in
theorem Zqz {P : Program} {tab : Tab} (ht : TabOk P tab)  {o : Oper} {t : TypeId} {x y : Operand} (ho : o.op = .call { callee := .builtin .append, args := #[x, y], argTypes := #[t, t] }) {nid e : Nat}   (hx : S.ev tab t x = .g (.raw c v)) (hc : S.heap c = .hd v e xs) {E : TypeId} (hE : ZbO tab t = some (E, e)) (he : 0 < e)
  {ys : List GV} {ks2 : List Nat} {d2 : Bool} (hy : srcE S.heap e (S.ev tab t y) = some (ys, ks2, d2)) (hn : S.heap nid = .free) (hn1 : S.heap (nid + 1) = .free) (hlen : xs.length + ys.length ≤ 1099511627776) :
  Zkn P tab nid o S (.own nid 0 (xs.length + ys.length)) (Zco ks2 ++ [(c, .dead), (nid + 1, .dead), (nid, .arr e d2 (xs ++ ys))]) := by
 intro S' h1 h2 w0 a w μ who hr
 rw [ho] at h1
 have mx : x ∈ (Op.call { callee := .builtin .append, args := #[x, y], argTypes := #[t, t] }).operands.toList := by simp [Op.operands, Call.operands]
 have my : y ∈ (Op.call { callee := .builtin .append, args := #[x, y], argTypes := #[t, t] }).operands.toList := by simp [Op.operands, Call.operands]
 have hx' : S'.ev tab t x = .g (.raw c v) := by rw [← Zbq (h1 x mx)]; exact hx
 have hin : ∀ (z : Operand), z ∈ (Op.call { callee := .builtin .append, args := #[x, y], argTypes := #[t, t] }).operands.toList → ∀ id ∈ Zbb (S.ev tab t z), S.heap id = S'.heap id := fun z hz id hid => h2 id (by
  unfold tch
  rw [ho]
  refine List.mem_append.2 (.inr ?_)
  simp only [List.mem_flatMap]
  exact ⟨z, hz, Zoi id hid⟩)
 have hc' : S'.heap c = .hd v e xs := by rw [← hin x mx c (by rw [hx]; simp [Zbb])]; exact hc
 have hfr : ∀ k, k < 8 → S.heap (nid + k) = S'.heap (nid + k) := fun k hk => h2 _ (by
  unfold tch
  exact List.mem_append.2 (.inl (List.mem_map.2 ⟨k, by simpa using hk, rfl⟩)))
 have hn' : S'.heap nid = .free := by have := hfr 0 (by omega); simp only [Nat.add_zero] at this; rw [← this]; exact hn
 have hn1' : S'.heap (nid + 1) = .free := by rw [← hfr 1 (by omega)]; exact hn1
 have hy' : srcE S'.heap e (S'.ev tab t y) = some (ys, ks2, d2) := by
  rw [← Zbq (h1 y my), ← Znf (h := S.heap) (h' := S'.heap) (hin y my)]; exact hy
 have px := hr.ev tab t x
 have py := hr.ev tab t y
 rw [hx'] at px
 have ex := Zsf px
 obtain ⟨who1, r1, p1, hmv⟩ := hr.open_ hc' hn1'
 have hcm : c ≠ nid + 1 := by rintro rfl; rw [hc'] at hn1'; cases hn1'
 have hcn : c ≠ nid := by rintro rfl; rw [hc'] at hn'; cases hn'
 have hk1 : ∀ id e' dp zs, S'.heap id = .arr e' dp zs → ((S'.write c .dead).write (nid + 1) (.arr e true xs)).heap id = .arr e' dp zs := fun id e' dp zs hid => by
  have a1 : id ≠ c := by rintro rfl; rw [hc'] at hid; cases hid
  have a2 : id ≠ nid + 1 := by rintro rfl; rw [hn1'] at hid; cases hid
  simp only [AState.write]; rw [Zay _ _ _ a2, Zay _ _ _ a1]; exact hid
 obtain ⟨hy2, hks⟩ := Zov hy' hk1
 have hmk : nid + 1 ∉ ks2 := fun hm => by
  obtain ⟨_, _, _, h9⟩ := hks _ hm
  rw [hn1'] at h9; cases h9
 have hS1n : ((S'.write c .dead).write (nid + 1) (.arr e true xs)).heap nid = .free := by
  simp only [AState.write]; rw [Zay _ _ _ (by omega), Zay _ _ _ hcn.symm]; exact hn'
 have hd1 : dstE (killL ((S'.write c .dead).write (nid + 1) (.arr e true xs)).heap ks2) e (.own (nid + 1) 0 xs.length) = some (xs, [nid + 1], true) := by
  simp only [dstE]
  rw [Zky hmk]
  simp [AState.write, Zan]
 obtain ⟨i, z, hok⟩ := Zei ht hE he
 rw [← ex] at p1
 obtain ⟨v', w', μ', who', q0, q1, q2⟩ := ZkX hok r1 hS1n o.type p1 (py.move hmv) hy2 hd1 hlen
 have hexec : (execOp a.eval o).run P w = .ok (.value v') w' := by
  unfold execOp
  simp only [ho, resolve, invoke, builtin, Sem.run_bind, Sem.run_pure, Result.andThen_ok, List.map_toArray, List.map_cons, List.map_nil, q0]
 rw [hexec]
 have hst : (((((S'.write c .dead).write (nid + 1) (.arr e true xs)).kill ks2).kill [nid + 1]).write nid (.arr e (true && d2) (xs ++ ys))) = S'.writes (Zco ks2 ++ [(c, .dead), (nid + 1, .dead), (nid, .arr e d2 (xs ++ ys))]) := by
  rw [AState.writes_app, AState.writes_kills]
  refine AState.ext' rfl (fun _ => rfl) (fun id => ?_) rfl
  simp only [AState.writes, ZaU, AState.write, AState.kill, killL, Bool.true_and]
  by_cases a1 : id = nid
  ·subst a1; rw [Zan, Zan]
  ·rw [Zay _ _ _ a1, Zay _ _ _ a1]
   by_cases a2 : id = nid + 1
   ·subst a2; rw [Zan, Zan]
   ·rw [Zay _ _ _ a2, Zay _ _ _ a2]
    by_cases a3 : id = c
    ·subst a3
     rw [Zan]
     by_cases a4 : id ∈ ks2
     ·obtain ⟨_, _, _, h9⟩ := hks _ a4
      rw [hc'] at h9; cases h9
     ·rw [Zky a4, Zay _ _ _ a2, Zan]
    ·rw [Zay _ _ _ a3]
     exact ZiG (by rw [Zay _ _ _ a2, Zay _ _ _ a3])
 rw [← hst]
 rw [List.length_append] at q2
 exact ⟨μ', who', q1, q2⟩
end Go.Proofs.YtjjidamlmebaaaaGreat
namespace Go.Proofs.YtjjidamlmebaaaaGreat
open Go.RowKit
open Shp
variable {ow : List Int} {id id1 : Nat} {w : World} {μ μ1 : Lay} {P : Program}
abbrev vtxW (i0 i1 i2 i3 nid : Nat) (ow pr : List GV) (nx : List GV) : List (Nat × Block) := [(i0, .dead), (i1, .dead), (i2, .dead), (i3, .dead), (nid, .arr 1 true ow), (nid + 1, .arr 1 true nx), (nid + 2, .arr 1 true pr)]
structure VtxC (P : Program) (f : FuncId) : Prop where
 enter : ∀ args w, (callFunc f args).run P w = .ok (.enter f args) w
 calls : ∀ {w0 : W0} {S : AState} {a : Act} {w : World} {μ : Lay} {who : Nat → Option Nat}, RelAt w0 S a w μ who → ∀ {i0 i1 i2 i3 nid : Nat} {d0 d2 : Bool} {ow pr row : List Int} {nx : List (List Int)} {o p : Int} {v0 v3 : Value},
  PRep w μ S.heap v0 (.agg [.own i0 0 ow.length, .own i1 0 nx.length, .own i2 0 pr.length]) → PRep w μ S.heap v3 (.own i3 0 row.length) →
  S.heap i0 = .arr 1 d0 (ow.map GV.i) → S.heap i1 = .arr 1 true (nx.map GV.ints) → S.heap i2 = .arr 1 d2 (pr.map GV.i) → S.heap i3 = .arr 1 true (row.map GV.i) → [i0, i1, i2, i3].Nodup → (∀ k, k < 3 → S.heap (nid + k) = .free) → (ow.length ≤ 1000 ∧ nx.length ≤ 1000 ∧ pr.length ≤ 1000) →
  Calls P f #[v0, .int .i64 o, .int .i64 p, v3] w fun e w' => ∃ v, e = .returned v ∧ ∃ μ' who', RelAt w0 (S.writes (vtxW i0 i1 i2 i3 nid ((ow ++ [o]).map GV.i) ((pr ++ [p]).map GV.i) ((nx ++ [row]).map GV.ints))) a w' μ' who' ∧
   PRep w' μ' (S.writes (vtxW i0 i1 i2 i3 nid ((ow ++ [o]).map GV.i) ((pr ++ [p]).map GV.i) ((nx ++ [row]).map GV.ints))).heap v (.agg [.own nid 0 (ow.length + 1), .own (nid + 1) 0 (nx.length + 1), .own (nid + 2) 0 (pr.length + 1)])
def Zt8 (ow pr : List Int) (hs : List Value) (o p : Int) (x : Value) : Nat → PV := fun t => if t = 0 then .agg [.own 0 0 ow.length, .own 1 0 hs.length, .own 2 0 pr.length] else if t = 1 then .g (.i o) else if t = 2 then .g (.i p) else if t = 3 then .g (.raw 0 x) else .undef
def Zf7 (ow pr : List Int) (hs : List Value) : Nat → Block := fun id => if id = 0 then .arr 1 true (ow.map GV.i) else if id = 1 then .arr 1 true (hs.map (GV.raw 0)) else if id = 2 then .arr 1 true (pr.map GV.i) else .free
def Zpf (m : Nat) (ow pr : List Int) (hs : List Value) (o p : Int) (x : Value) : AState := ⟨m, Zt8 ow pr hs o p x, Zf7 ow pr hs, 0⟩
def pM : Nat → Option Value := fun t => if t = 70000 then some Go.undef else none
def EndM (tab : Tab) (rs : List ResultVar) (ow pr : List Int) (hs : List Value) : Exit → AState → Prop
 | .ret, S => ∃ k0 k1 k2 d0 d1 d2, resL tab S rs = some [.agg [.own k0 0 ow.length, .own k1 0 hs.length, .own k2 0 pr.length]] ∧ S.heap k0 = .arr 1 d0 (ow.map GV.i) ∧ S.heap k1 = .arr 1 d1 (hs.map (GV.raw 0)) ∧ S.heap k2 = .arr 1 d2 (pr.map GV.i) ∧ [k0, k1, k2].Nodup
 | _, _ => False
theorem Zgy {pr : List Int} {hs : List Value}  (h : (Zf7 ow pr hs id).live = true) : id = 0 ∨ id = 1 ∨ id = 2 := by
 unfold Zf7 at h
 split at h
 ·exact .inl ‹_›
 ·split at h
  ·exact .inr (.inl ‹_›)
  ·split at h
   ·exact .inr (.inr ‹_›)
   ·cases h
theorem ZjI  {e lo len : Nat} {v : Value} (h : Zbp w μ id e lo len v) (e1 : μ1 id1 = μ id) : Zbp w μ1 id1 e lo len v := by
 unfold Zbp at *; rw [e1]; exact h
theorem Zsb {α : Type} {l : List α} (h : l.length = 3) : ∃ a b c, l = [a, b, c] := by
 match l, h with
 | [a, b, c], _ => exact ⟨a, b, c, rfl⟩
theorem ZuD {w0 w1 : W0}   {h h1 : Nat → Block} {who who1 : Nat → Option Nat}  {nx : List (List Int)} (hb : BRep w0 w μ h who id (.arr 1 true (nx.map GV.ints))) (e : μ1 id1 = μ id) : ∃ (hs : List Value) (Fs : List (List Nat)) (hl : hs.length = nx.length) (hF : Fs.length = nx.length), BRep w1 w μ1 h1 who1 id1 (.arr 1 true (hs.map (GV.raw 0))) ∧
  (∀ k (hk : k < nx.length), GRep w (Fs[k]'(hF ▸ hk)) (hs[k]'(hl ▸ hk)) (.ints nx[k])) ∧ (∀ b ∈ Fs.flatten, ¬ Root μ h b) ∧ Fs.flatten.Nodup ∧ (∀ b ∈ Fs.flatten, who b = some id ∧ NewB w0 w b) := by
 obtain ⟨he, hb⟩ := hb
 cases hμ : μ id with
 | none =>
  simp only [hμ] at hb
  have : nx = [] := by simpa using hb
  subst this
  refine ⟨[], [], rfl, rfl, ⟨he, ?_⟩, fun k hk => by simp at hk, by simp, by simp, by simp⟩
  rw [e, hμ]; rfl
 | some bd =>
  obtain ⟨b, d⟩ := bd
  simp only [hμ] at hb
  obtain ⟨vs, t, Fs, els, h2, h3, h4, h5⟩ := hb
  obtain ⟨h6, h7⟩ := h5 trivial
  have hel : ∀ k (hk : k < nx.length), GRep w (Fs[k]'(by rw [h3.fl, List.length_map]; exact hk)) (els[k]'(by rw [h3.len, List.length_map]; exact hk)) (.ints nx[k]) := fun k hk => by
   have := h3.el k (by rw [List.length_map]; exact hk)
   simpa using this
  have hone : ∀ k (hk : k < els.length), (els[k]).oneCell' = true := fun k hk => by
   have hk' : k < nx.length := by rw [h3.len, List.length_map] at hk; exact hk
   obtain ⟨ad, cap, _, _, e1, _⟩ := (hel k hk').slice
   rw [e1]; rfl
  have hfit := h3.fit
  rw [List.length_map] at hfit
  have hlen := h3.len
  rw [List.length_map] at hlen
  refine ⟨els, Fs, hlen, by rw [h3.fl, List.length_map], ⟨he, ?_⟩, hel, h4, h6, h7⟩
  rw [e, hμ]
  refine ⟨vs, t, els.map fun _ => [], els, h2, ⟨by simp, by simp, by rw [List.length_map, hlen]; exact hfit, fun k hk => ?_, fun k hk => ?_, h3.sz, h3.cell⟩, ?_, fun _ => ?_⟩
  ·simp [GV.ncells]
  ·simp only [List.getElem_map]
   exact .raw 0 _ (hone k (by simpa using hk))
  ·intro b hb
   obtain ⟨i, hi, hb⟩ := Zaq hb
   simp at hb
  ·have : (els.map fun _ => ([] : List Nat)).flatten = [] := Za7 fun k hk => by simp
   rw [this]; simp
set_option maxHeartbeats 8000000 in
theorem Zox  {tab : Tab} (ht : TabOk P tab) {f : FuncId} {fn : Func} {c : Code} (hf : P.funcs[f]? = some fn) (hb : fn.body = some c) (he : ∀ args w, (callFunc f args).run P w = .ok (.enter f args) w) (h5 : 4 ≤ fn.ntmps) (hm : fn.ntmps < 65536)
  (h : ∀ (ow pr : List Int) (hs : List Value) (o p : Int) (x : Value), ow.length ≤ 1000 ∧ hs.length ≤ 1000 ∧ pr.length ≤ 1000 → T P c (Zpf fn.ntmps ow pr hs o p x) (EndM tab fn.results.toList (ow ++ [o]) (pr ++ [p]) (hs ++ [x]))) : VtxC P f := by
 refine ⟨he, fun {w0 S a w μ who} hr {i0 i1 i2 i3 nid d0 d2 ow pr row nx o p v0 v3} p0 p3 b0 b1 b2 b3 hnd hfree hsz => calls_of_wp hf hb ?_⟩
 simp only [List.nodup_cons, List.mem_cons, List.not_mem_nil, or_false, not_or, List.nodup_nil, and_true] at hnd
 obtain ⟨⟨n1, n2, n3⟩, ⟨n4, n5⟩, n6, _⟩ := hnd
 obtain ⟨us, rfl, hul, hu1, hu2⟩ := p0.agg_inv
 obtain ⟨u0, u1, u2, rfl⟩ := Zsb hul
 have q0 := hu2 0 (by simp)
 have q1 := hu2 1 (by simp)
 have q2 := hu2 2 (by simp)
 simp only [List.getElem_cons_zero, List.getElem_cons_succ] at q0 q1 q2
 obtain ⟨o0, _, w0'⟩ := q0.own_inv
 obtain ⟨o1, _, w1'⟩ := q1.own_inv
 obtain ⟨o2, _, w2'⟩ := q2.own_inv
 obtain ⟨o3, _, w3'⟩ := p3.own_inv
 have a0 := w0' _ _ _ b0
 have a1 := w1' _ _ _ b1
 have a2 := w2' _ _ _ b2
 have a3 := w3' _ _ _ b3
 have l0 : (S.heap i0).live = true := by rw [b0]; rfl
 have l1 : (S.heap i1).live = true := by rw [b1]; rfl
 have l2 : (S.heap i2).live = true := by rw [b2]; rfl
 have l3 : (S.heap i3).live = true := by rw [b3]; rfl
 have hB0 := hr.blk i0
 rw [b0] at hB0
 have hB1 := hr.blk i1
 rw [b1] at hB1
 have hB2 := hr.blk i2
 rw [b2] at hB2
 obtain ⟨F3, g3, gr3, gd3, _, _⟩ := hr.view b3 a3 (by simp)
 rw [List.drop_zero, List.take_of_length_le (by simp)] at g3
 obtain ⟨nd3, gn3⟩ := gd3 rfl
 have hF3 : ∀ b ∈ F3, ∃ d, μ i3 = some (b, d) := fun b hb => by
  obtain ⟨ad, cap, els, Gs, e1, e2, hs⟩ := g3.slice
  have hG : Gs.flatten = [] := Za7 fun k hk => by
   have hk' : k < (row.map GV.i).length := by rw [← hs.hF]; exact hk
   exact (hs.h k hk').of_atom (by simp [GV.atom])
  rw [e2, hG, List.append_nil] at hb
  obtain ⟨q, hq, hc, rfl⟩ := own_inv hb
  unfold Zbp at a3
  cases hμ : μ i3 with
  | none =>
   simp only [hμ] at a3
   obtain ⟨⟨ad', e3⟩, _, _⟩ := a3
   rw [e1] at e3
   simp only [Value.slice.injEq] at e3
   omega
  | some bd =>
   obtain ⟨b, d⟩ := bd
   simp only [hμ] at a3
   obtain ⟨cap', o', e3, _⟩ := a3
   rw [e1, hq] at e3
   simp only [Value.slice.injEq, Option.some.injEq] at e3
   obtain ⟨rfl, _⟩ := e3
   exact ⟨d, rfl⟩
 have hD : ∃ D : List Nat, ∀ x, x ∈ D ↔ ((∃ d, μ i0 = some (x, d)) ∨ (∃ d, μ i1 = some (x, d)) ∨ ∃ d, μ i2 = some (x, d)) := by
  refine ⟨((μ i0).map (·.1)).toList ++ (((μ i1).map (·.1)).toList ++ ((μ i2).map (·.1)).toList), fun x => ?_⟩
  simp only [List.mem_append, Option.mem_toList, Option.map_eq_some_iff]
  refine or_congr ?_ (or_congr ?_ ?_)
  all_goals exact ⟨fun ⟨bd, h1, h2⟩ => ⟨bd.2, by rw [h1, ← h2]⟩, fun ⟨d, h1⟩ => ⟨(x, d), h1, rfl⟩⟩
 obtain ⟨D, hD⟩ := hD
 have hDr : ∀ x ∈ D, ∃ i d, (i = i0 ∨ i = i1 ∨ i = i2) ∧ (S.heap i).live = true ∧ μ i = some (x, d) := fun x hx => by
  rcases (hD x).1 hx with ⟨d, h⟩ | ⟨d, h⟩ | ⟨d, h⟩
  ·exact ⟨i0, d, .inl rfl, l0, h⟩
  ·exact ⟨i1, d, .inr (.inl rfl), l1, h⟩
  ·exact ⟨i2, d, .inr (.inr rfl), l2, h⟩
 have hnot : ∀ {j x d}, (S.heap j).live = true → μ j = some (x, d) → j ≠ i0 → j ≠ i1 → j ≠ i2 → x ∉ D := fun {j x d} hl hj g1 g2 g3 hx => by
  obtain ⟨i, d', hi, h1, h2⟩ := hDr x hx
  have := hr.inj i j x d' d h1 hl h2 hj
  subst this
  rcases hi with rfl | rfl | rfl <;> contradiction
 let μc : Lay := fun id => if id = 0 then μ i0 else if id = 1 then μ i1 else if id = 2 then μ i2 else none
 obtain ⟨hs, Fs, hhl, hFl, hBraw, hrows, hFr, hFn, hFw⟩ := ZuD (w1 := ⟨w, D, pM⟩) (μ1 := μc) (h1 := Zf7 ow pr (default : List Value)) (who1 := fun _ => none) (id1 := 1) hB1 rfl
 have hBraw : BRep ⟨w, D, pM⟩ w μc (Zf7 ow pr hs) (fun _ => none) 1 (.arr 1 true (hs.map (GV.raw 0))) := by
  obtain ⟨he, hb⟩ := hBraw
  refine ⟨he, ?_⟩
  cases hμ : μc 1 with
  | none => simpa only [hμ] using hb
  | some bd =>
   obtain ⟨b, d⟩ := bd
   simp only [hμ] at hb ⊢
   obtain ⟨vs, t, Gs, els, h2, h3, h4, h5⟩ := hb
   have hG : Gs.flatten = [] := Za7 fun k hk => by
    have hk' : k < (hs.map (GV.raw 0)).length := by rw [← h3.fl]; exact hk
    have := h3.el k hk'
    simp only [List.getElem_map] at this
    revert this
    generalize Gs[k] = G
    generalize els[k]'(h3.len ▸ hk') = u
    intro this
    cases this with
    | atom x hx => rfl
    | raw => rfl
   exact ⟨vs, t, Gs, els, h2, h3, by rw [hG]; simp, fun _ => by rw [hG]; simp⟩
 have hroot : ∀ x, Root μc (Zf7 ow pr hs) x → x ∈ D := by
  rintro x ⟨id, d, h1, h2⟩
  rcases Zgy h1 with rfl | rfl | rfl
  ·exact (hD x).2 (.inl ⟨d, h2⟩)
  ·exact (hD x).2 (.inr (.inl ⟨d, h2⟩))
  ·exact (hD x).2 (.inr (.inr ⟨d, h2⟩))
 have hget : ∀ t, (#[Value.agg [u0, u1, u2].toArray, .int .i64 o, .int .i64 p, v3] ++ Array.replicate (fn.ntmps - (#[Value.agg [u0, u1, u2].toArray, .int .i64 o, .int .i64 p, v3] : Array Value).size) Go.undef).getD t Go.undef = if t = 0 then .agg [u0, u1, u2].toArray else if t = 1 then .int .i64 o else if t = 2 then .int .i64 p else if t = 3 then v3 else Go.undef := fun t => by
  by_cases h5 : t < 4
  ·have : t = 0 ∨ t = 1 ∨ t = 2 ∨ t = 3 := by omega
   rcases this with rfl | rfl | rfl | rfl <;> rw [Zbx (by simp; omega), Array.getElem_append_left (by simp)] <;> rfl
  ·rw [if_neg (by omega), if_neg (by omega), if_neg (by omega), if_neg (by omega)]
   by_cases h6 : t < (#[Value.agg [u0, u1, u2].toArray, .int .i64 o, .int .i64 p, v3] ++ Array.replicate (fn.ntmps - (#[Value.agg [u0, u1, u2].toArray, .int .i64 o, .int .i64 p, v3] : Array Value).size) Go.undef).size
   ·rw [Zbx h6, Array.getElem_append_right (by simp; omega)]; simp
   ·simp only [Array.getD, dif_neg h6]
 have hhs : hs.length = nx.length := hhl
 have hstart : RelAt ⟨w, D, pM⟩ (Zpf fn.ntmps ow pr hs o p v3) { tmps := #[Value.agg [u0, u1, u2].toArray, .int .i64 o, .int .i64 p, v3] ++ Array.replicate (fn.ntmps - (#[Value.agg [u0, u1, u2].toArray, .int .i64 o, .int .i64 p, v3] : Array Value).size) Go.undef, defers := [] } w μc (fun _ => none) := by
  refine ⟨?_, fun t => ?_, rfl, fun id => ?_, fun i j b d d' hi hj ei ej => ?_, fun i b d hi ei => ?_, Keeps.refl _ _, fun t x hp hx => ?_, fun t v hv ht => ?_⟩
  ·show _ = fn.ntmps % 65536
   rw [Nat.mod_eq_of_lt hm]; simp; omega
  ·show PRep w μc (Zf7 ow pr hs) _ (Zt8 ow pr hs o p v3 t)
   rw [hget t]
   unfold Zt8
   split
   ·refine .agg [u0, u1, u2] _ rfl hu1 fun i hi => ?_
    match i, hi with
    | 0, _ =>
     exact .own _ 0 0 _ o0 (by simp [Zf7]) fun e dp xs hx => by
      have hx : Block.arr 1 true (ow.map GV.i) = .arr e dp xs := hx
      cases hx
      exact ZjI a0 rfl
    | 1, _ =>
     exact .own _ 1 0 _ o1 (by simp [Zf7]) fun e dp xs hx => by
      have hx : Block.arr 1 true (hs.map (GV.raw 0)) = .arr e dp xs := hx
      cases hx
      show Zbp w μc 1 1 0 hs.length u1
      rw [hhs]; exact ZjI a1 rfl
    | 2, _ =>
     exact .own _ 2 0 _ o2 (by simp [Zf7]) fun e dp xs hx => by
      have hx : Block.arr 1 true (pr.map GV.i) = .arr e dp xs := hx
      cases hx
      exact ZjI a2 rfl
   split
   ·exact PRep.of_int _ _ _ _ _
   split
   ·exact PRep.of_int _ _ _ _ _
   split
   ·exact .g _ _ [] (.raw 0 _ o3) (by simp)
   ·exact .undef _
  ·show BRep _ w μc (Zf7 ow pr hs) (fun _ => none) id (Zf7 ow pr hs id)
   by_cases g1 : id = 0
   ·subst g1; exact ZhD hB0 rfl
   ·by_cases g2 : id = 1
    ·subst g2; exact hBraw
    ·by_cases g3 : id = 2
     ·subst g3; exact ZhD hB2 rfl
     ·have : Zf7 ow pr hs id = .free := by unfold Zf7; rw [if_neg g1, if_neg g2, if_neg g3]
      rw [this]; trivial
  ·have i1' := Zgy hi
   have j1' := Zgy hj
   have key : ∀ {x y b d d'}, (S.heap x).live = true → (S.heap y).live = true → x ≠ y → μ x = some (b, d) → μ y = some (b, d') → False := fun hx hy hne h1 h2 => hne (hr.inj _ _ _ _ _ hx hy h1 h2)
   rcases i1' with rfl | rfl | rfl <;> rcases j1' with rfl | rfl | rfl
   ·rfl
   ·exact (key l0 l1 n1 ei ej).elim
   ·exact (key l0 l2 n2 ei ej).elim
   ·exact (key l0 l1 n1 ej ei).elim
   ·rfl
   ·exact (key l1 l2 n4 ei ej).elim
   ·exact (key l0 l2 n2 ej ei).elim
   ·exact (key l1 l2 n4 ej ei).elim
   ·rfl
  ·have hx := hroot b ⟨i, d, hi, ei⟩
   refine ⟨.inl (.inr ⟨rfl, hx⟩), ?_⟩
   obtain ⟨j, d', _, g1, g2⟩ := hDr b hx
   exact (hr.base j b d' g1 g2).2
  ·rw [show pinned (Zpf fn.ntmps ow pr hs o p v3).n t = false from ZdB hm t] at hp; cases hp
  ·have hv : pM t = some v := hv
   unfold pM at hv
   rw [if_neg (by omega)] at hv; cases hv
 refine wp_mono (h ow pr hs o p v3 (by rw [hhs]; exact hsz) ⟨w, D, pM⟩ _ w ⟨_, _, hstart⟩) fun e a' w' ⟨S2, q, μ2, who2, hr2⟩ => ?_
 cases e with
 | normal | exit | goto | panic | outgrown => exact q.elim
 | ret =>
 obtain ⟨k0, k1, k2, e0, e1, e2, z1, z2, z3, z4, z5⟩ := q
 simp only [List.nodup_cons, List.mem_cons, List.not_mem_nil, or_false, not_or, List.nodup_nil, and_true] at z5
 obtain ⟨⟨m1, m2⟩, m3, _⟩ := z5
 obtain ⟨vs, hvl, hrun, hp⟩ := Zfm ht hr2 _ z1
 obtain ⟨u, rfl⟩ : ∃ u, vs = [u] := by
  match vs, hvl with
  | [u], _ => exact ⟨u, rfl⟩
 have hres : (results fn a'.tmps).run P w' = .ok u w' := by
  have e0 : results fn a'.tmps = (do let vs ← fn.results.mapM (ZgY a'.tmps); Pure.pure (if h : vs.size = 1 then vs[0] else .tuple vs)) := rfl
  rw [e0, Array.mapM_eq_mapM_toList]
  simp [hrun]
 have hu := hp 0 (by simp)
 simp only [List.getElem_cons_zero] at hu
 obtain ⟨ys, rfl, hyl, hy1, hy2⟩ := hu.agg_inv
 obtain ⟨y0, y1, y2, rfl⟩ := Zsb hyl
 have x0 := hy2 0 (by simp)
 have x1 := hy2 1 (by simp)
 have x2 := hy2 2 (by simp)
 simp only [List.getElem_cons_zero, List.getElem_cons_succ] at x0 x1 x2
 obtain ⟨c0, _, x0⟩ := x0.own_inv
 obtain ⟨c1, _, x1⟩ := x1.own_inv
 obtain ⟨c2, _, x2⟩ := x2.own_inv
 have x0 := x0 _ _ _ z2
 have x1 := x1 _ _ _ z3
 have x2 := x2 _ _ _ z4
 have hk : Keeps D w w' := hr2.keep
 have lk0 : (S2.heap k0).live = true := by rw [z2]; rfl
 have lk1 : (S2.heap k1).live = true := by rw [z3]; rfl
 have lk2 : (S2.heap k2).live = true := by rw [z4]; rfl
 have hK0 := hr2.blk k0
 rw [z2] at hK0
 have hK1 := hr2.blk k1
 rw [z3] at hK1
 have hK2 := hr2.blk k2
 rw [z4] at hK2
 have hnew : ∀ k b d, (k = k0 ∨ k = k1 ∨ k = k2) → μ2 k = some (b, d) → b < w'.heap.size ∧ (w.heap.size ≤ b ∨ b ∈ D) := fun k b d hk' e => by
  have hl : (S2.heap k).live = true := by rcases hk' with rfl | rfl | rfl <;> assumption
  refine ⟨(hr2.base k b d hl e).2, ?_⟩
  have hn : New ⟨w, D, pM⟩ b := by
   rcases hk' with rfl | rfl | rfl
   ·exact (hr2.base _ b d hl e).1.arr z2
   ·exact (hr2.base _ b d hl e).1.arr z3
   ·exact (hr2.base _ b d hl e).1.arr z4
  exact hn.imp id fun h => h.2
 have nf : ∀ {i}, (S.heap i).live = true → i ≠ nid ∧ i ≠ nid + 1 ∧ i ≠ nid + 2 := fun {i} hi => by
  refine ⟨fun e => ?_, fun e => ?_, fun e => ?_⟩ <;> subst e
  ·have := hfree 0 (by omega); rw [Nat.add_zero] at this; rw [this] at hi; cases hi
  ·rw [hfree 1 (by omega)] at hi; cases hi
  ·rw [hfree 2 (by omega)] at hi; cases hi
 generalize hW : vtxW i0 i1 i2 i3 nid ((ow ++ [o]).map GV.i) ((pr ++ [p]).map GV.i) ((nx ++ [row]).map GV.ints) = W
 have hS : ∀ i, (S.writes W).heap i = if i = nid + 2 then .arr 1 true ((pr ++ [p]).map GV.i) else if i = nid + 1 then .arr 1 true ((nx ++ [row]).map GV.ints) else if i = nid then .arr 1 true ((ow ++ [o]).map GV.i) else if i = i3 then .dead else if i = i2 then .dead else if i = i1 then .dead else if i = i0 then .dead else S.heap i := fun i => by rw [← hW]; rfl
 have hsl : (S.writes W).slots = S.slots := rfl
 have hsn : (S.writes W).n = S.n := rfl
 generalize S.writes W = S3 at hS hsl hsn
 obtain ⟨f00, f01, f02⟩ := nf l0
 obtain ⟨f10, f11, f12⟩ := nf l1
 obtain ⟨f20, f21, f22⟩ := nf l2
 obtain ⟨f30, f31, f32⟩ := nf l3
 have hS0 : S3.heap i0 = .dead := by rw [hS, if_neg f02, if_neg f01, if_neg f00, if_neg n3, if_neg n2, if_neg n1, if_pos rfl]
 have hS1 : S3.heap i1 = .dead := by rw [hS, if_neg f12, if_neg f11, if_neg f10, if_neg n5, if_neg n4, if_pos rfl]
 have hS2 : S3.heap i2 = .dead := by rw [hS, if_neg f22, if_neg f21, if_neg f20, if_neg n6, if_pos rfl]
 have hS3 : S3.heap i3 = .dead := by rw [hS, if_neg f32, if_neg f31, if_neg f30, if_pos rfl]
 have hN0 : S3.heap nid = .arr 1 true ((ow ++ [o]).map GV.i) := by rw [hS, if_neg (by omega), if_neg (by omega), if_pos rfl]
 have hN1 : S3.heap (nid + 1) = .arr 1 true ((nx ++ [row]).map GV.ints) := by rw [hS, if_neg (by omega), if_pos rfl]
 have hN2 : S3.heap (nid + 2) = .arr 1 true ((pr ++ [p]).map GV.i) := by rw [hS, if_pos rfl]
 have hSo : ∀ {i}, i ≠ i0 → i ≠ i1 → i ≠ i2 → i ≠ i3 → i ≠ nid → i ≠ nid + 1 → i ≠ nid + 2 → S3.heap i = S.heap i := fun {i} g1 g2 g3 g4 g5 g6 g7 => by rw [hS, if_neg g7, if_neg g6, if_neg g5, if_neg g4, if_neg g3, if_neg g2, if_neg g1]
 let μ' : Lay := fun id => if id = nid then μ2 k0 else if id = nid + 1 then μ2 k1 else if id = nid + 2 then μ2 k2 else μ id
 have hm0 : μ' nid = μ2 k0 := by simp only [μ', if_pos]
 have hm1 : μ' (nid + 1) = μ2 k1 := by show (if nid + 1 = nid then μ2 k0 else if nid + 1 = nid + 1 then μ2 k1 else if nid + 1 = nid + 2 then μ2 k2 else μ (nid + 1)) = _; rw [if_neg (by omega), if_pos rfl]
 have hm2 : μ' (nid + 2) = μ2 k2 := by show (if nid + 2 = nid then μ2 k0 else if nid + 2 = nid + 1 then μ2 k1 else if nid + 2 = nid + 2 then μ2 k2 else μ (nid + 2)) = _; rw [if_neg (by omega), if_neg (by omega), if_pos rfl]
 have hmo : ∀ {i}, i ≠ nid → i ≠ nid + 1 → i ≠ nid + 2 → μ' i = μ i := fun {i} g1 g2 g3 => by simp only [μ']; rw [if_neg g1, if_neg g2, if_neg g3]
 have hnid : ∀ i, (i = nid ∨ i = nid + 1 ∨ i = nid + 2) → S.heap i = .free ∧ ∃ k, (k = k0 ∨ k = k1 ∨ k = k2) ∧ μ' i = μ2 k := fun i hi => by
  rcases hi with rfl | rfl | rfl
  ·exact ⟨hfree 0 (by omega), k0, .inl rfl, hm0⟩
  ·exact ⟨hfree 1 (by omega), k1, .inr (.inl rfl), hm1⟩
  ·exact ⟨hfree 2 (by omega), k2, .inr (.inr rfl), hm2⟩
 have hcase : ∀ i, (i = i0 ∨ i = i1 ∨ i = i2 ∨ i = i3) ∨ (i = nid ∨ i = nid + 1 ∨ i = nid + 2) ∨ (S3.heap i = S.heap i ∧ μ' i = μ i ∧ i ≠ i0 ∧ i ≠ i1 ∧ i ≠ i2 ∧ i ≠ i3) := fun i => by
  by_cases g1 : i = i0
  ·exact .inl (.inl g1)
  by_cases g2 : i = i1
  ·exact .inl (.inr (.inl g2))
  by_cases g3 : i = i2
  ·exact .inl (.inr (.inr (.inl g3)))
  by_cases g4 : i = i3
  ·exact .inl (.inr (.inr (.inr g4)))
  by_cases g5 : i = nid
  ·exact .inr (.inl (.inl g5))
  by_cases g6 : i = nid + 1
  ·exact .inr (.inl (.inr (.inl g6)))
  by_cases g7 : i = nid + 2
  ·exact .inr (.inl (.inr (.inr g7)))
  exact .inr (.inr ⟨hSo g1 g2 g3 g4 g5 g6 g7, hmo g5 g6 g7, g1, g2, g3, g4⟩)
 have hdead : ∀ i, (i = i0 ∨ i = i1 ∨ i = i2 ∨ i = i3) → S3.heap i = .dead := fun i hi => by rcases hi with rfl | rfl | rfl | rfl <;> assumption
 have hlivei : ∀ i, (i = i0 ∨ i = i1 ∨ i = i2 ∨ i = i3) → (S.heap i).live = true := fun i hi => by rcases hi with rfl | rfl | rfl | rfl <;> assumption
 have hblkD : ∀ {b}, b < w.heap.size → b ∉ D → w'.heap[b]? = w.heap[b]? := fun {b} hb hn => hk.block b hb hn
 have hnrD : ∀ {b}, ¬ Root μ S.heap b → b ∉ D := fun {b} hn hx => by
  obtain ⟨i, d, _, u1, u2⟩ := hDr b hx
  exact hn ⟨i, d, u1, u2⟩
 have hroot3 : ∀ b, Root μ' S3.heap b → (Root μ S.heap b ∨ w.heap.size ≤ b) := by
  rintro b ⟨i, d, u1, u2⟩
  rcases hcase i with g | g | ⟨g1, g2, _⟩
  ·rw [hdead i g] at u1; cases u1
  ·obtain ⟨_, k, hk', e⟩ := hnid i g
   rw [e] at u2
   rcases (hnew k b d hk' u2).2 with u3 | u3
   ·exact .inr u3
   ·obtain ⟨j, d', _, v1, v2⟩ := hDr b u3
    exact .inl ⟨j, d', v1, v2⟩
  ·rw [g1] at u1; rw [g2] at u2; exact .inl ⟨i, d, u1, u2⟩
 have hm3' : Move w w' μ μ' S.heap S3.heap := by
  refine ⟨fun b hlt hnr => ⟨hblkD hlt (hnrD hnr), fun hr' => ?_⟩, fun i b d g1 g2 g3 g4 vs t hw => ?_, fun i hi => ?_, fun i e dp xs hfr hi => ?_, fun i cs hfr hi => ?_⟩
  ·rcases hroot3 b hr' with u | u
   ·exact hnr u
   ·omega
  ·rcases hcase i with g | g | ⟨u1, u2, u3, u4, u5, u6⟩
   ·rw [hdead i g] at g1; cases g1
   ·rw [(hnid i g).1] at g2; cases g2
   ·exact ⟨vs, t, by rw [hblkD (hr.base i b d g2 g4).2 (hnot g2 g4 u3 u4 u5)]; exact hw, rfl⟩
  ·rcases hcase i with g | g | ⟨u1, _⟩
   ·rw [hdead i g] at hi; cases hi
   ·exact (hnid i g).1
   ·rw [u1] at hi; exact hi
  ·rcases hcase i with g | g | ⟨u1, u2, _⟩
   ·rw [hdead i g] at hi; cases hi
   ·exact absurd (hnid i g).1 hfr
   ·rw [u1] at hi; exact ⟨u2, dp, xs, hi⟩
  ·rcases hcase i with g | g | ⟨u1, u2, _⟩
   ·rw [hdead i g] at hi; cases hi
   ·exact absurd (hnid i g).1 hfr
   ·rw [u1] at hi; exact ⟨u2, cs, hi⟩
 classical
 let who3 : Nat → Option Nat := fun b => if b ∈ Fs.flatten ∨ b ∈ F3 then some (nid + 1) else who b
 have hF3D : ∀ b ∈ F3, b ∉ D := fun b hb hx => by
  obtain ⟨d, hd⟩ := hF3 b hb
  exact hnot l3 hd (fun e => n3 e.symm) (fun e => n5 e.symm) (fun e => n6 e.symm) hx
 have hFsD : ∀ b ∈ Fs.flatten, b ∉ D := fun b hb => hnrD (hFr b hb)
 have hFslt : ∀ b ∈ Fs.flatten, b < w.heap.size := fun b hb => (hFw b hb).2.2.lt
 have hF3lt : ∀ b ∈ F3, b < w.heap.size := fun b hb => (gn3 b hb).2.2.lt
 have hF3nr : ∀ b ∈ F3, ¬ Root μ' S3.heap b := by
  rintro b hb ⟨i, d, u1, u2⟩
  obtain ⟨d3, hd3⟩ := hF3 b hb
  rcases hcase i with g | g | ⟨g1, g2, _, _, _, g6⟩
  ·rw [hdead i g] at u1; cases u1
  ·obtain ⟨_, k, hk', e⟩ := hnid i g
   rw [e] at u2
   rcases (hnew k b d hk' u2).2 with u3 | u3
   ·have := hF3lt b hb; omega
   ·exact hF3D b hb u3
  ·rw [g1] at u1; rw [g2] at u2
   exact g6 (hr.inj i i3 b d d3 u1 l3 u2 hd3)
 have hFsnr : ∀ b ∈ Fs.flatten, ¬ Root μ' S3.heap b := fun b hb hr' => by
  rcases hroot3 b hr' with u | u
  ·exact hFr b hb u
  ·have := hFslt b hb; omega
 have hrel : RelAt w0 S3 a w' μ' who3 := by
  refine hr.step [i0, i1, i2, i3, nid, nid + 1, nid + 2] hsl hsn hm3' (hr.keep.trans' hk fun b hb hlt => ?_) (fun i hi => ?_) (fun i hi => ?_) (fun b j hlt hj hnr hw => ?_) hk.size
  ·obtain ⟨i, d, hi, u1, u2⟩ := hDr b hb
   rcases (hr.base i b d u1 u2).1 with (u3 | u3) | u3
   ·omega
   ·exact u3.2
   ·exact u3.1
  ·simp only [List.mem_cons, List.not_mem_nil, or_false, not_or] at hi
   obtain ⟨g1, g2, g3, g4, g5, g6, g7⟩ := hi
   exact ⟨hSo g1 g2 g3 g4 g5 g6 g7, fun hl => ⟨hmo g5 g6 g7, fun b d e => hblkD (hr.base i b d hl e).2 (hnot hl e g1 g2 g3)⟩⟩
  ·rcases hcase i with g | g | ⟨_, _, g1, g2, g3, g4⟩
   ·rw [hdead i g]; exact ⟨trivial, fun hl => by cases hl⟩
   ·have hBase : ∀ b d, μ' i = some (b, d) → (∀ j d', j ∉ [i0, i1, i2, i3, nid, nid + 1, nid + 2] → (S.heap j).live = true → μ j ≠ some (b, d')) ∧ (∀ j d', j ∈ [i0, i1, i2, i3, nid, nid + 1, nid + 2] → (S3.heap j).live = true → μ' j = some (b, d') → i = j) ∧ Base w0 (S3.heap i) b ∧ b < w'.heap.size := fun b d e => by
     obtain ⟨_, k, hk', e2⟩ := hnid i g
     rw [e2] at e
     have hb2 := hnew k b d hk' e
     refine ⟨fun j d' hj hlj hj' => ?_, fun j d' hj hlj hj' => ?_, ?_, hb2.1⟩
     ·rcases hb2.2 with u | u
      ·have := (hr.base j b d' hlj hj').2; omega
      ·simp only [List.mem_cons, List.not_mem_nil, or_false, not_or] at hj
       exact hnot hlj hj' hj.1 hj.2.1 hj.2.2.1 u
     ·rcases hcase j with g' | g' | ⟨u1, u2, u3, u4, u5, u6⟩
      ·rw [hdead j g'] at hlj; cases hlj
      ·have hkk : ∀ {x y : Nat}, (S2.heap x).live = true → (S2.heap y).live = true → x ≠ y → μ2 x = some (b, d) → μ2 y = some (b, d') → False := fun hx hy hne h1 h2 => hne (hr2.inj _ _ _ _ _ hx hy h1 h2)
       rcases g with rfl | rfl | rfl <;> rcases g' with rfl | rfl | rfl
       ·rfl
       ·rw [hm0] at e2; rw [hm1] at hj'; rw [← e2] at e; exact (hkk lk0 lk1 m1 e hj').elim
       ·rw [hm0] at e2; rw [hm2] at hj'; rw [← e2] at e; exact (hkk lk0 lk2 m2 e hj').elim
       ·rw [hm1] at e2; rw [hm0] at hj'; rw [← e2] at e; exact (hkk lk1 lk0 (fun h => m1 h.symm) e hj').elim
       ·rfl
       ·rw [hm1] at e2; rw [hm2] at hj'; rw [← e2] at e; exact (hkk lk1 lk2 m3 e hj').elim
       ·rw [hm2] at e2; rw [hm0] at hj'; rw [← e2] at e; exact (hkk lk2 lk0 (fun h => m2 h.symm) e hj').elim
       ·rw [hm2] at e2; rw [hm1] at hj'; rw [← e2] at e; exact (hkk lk2 lk1 (fun h => m3 h.symm) e hj').elim
       ·rfl
      ·exfalso
       have hj2 : j = nid ∨ j = nid + 1 ∨ j = nid + 2 := by
        simp only [List.mem_cons, List.not_mem_nil, or_false] at hj
        rcases hj with h | h | h | h | h | h | h
        ·exact absurd h u3
        ·exact absurd h u4
        ·exact absurd h u5
        ·exact absurd h u6
        ·exact .inl h
        ·exact .inr (.inl h)
        ·exact .inr (.inr h)
       rw [u1, (hnid j hj2).1] at hlj; cases hlj
     ·have hbase : New w0 b := by
       rcases hb2.2 with u | u
       ·exact .inl (Nat.le_trans hr.keep.size u)
       ·obtain ⟨j, d', hj, v1, v2⟩ := hDr b u
        rcases hj with rfl | rfl | rfl
        ·exact (hr.base _ b d' v1 v2).1.arr b0
        ·exact (hr.base _ b d' v1 v2).1.arr b1
        ·exact (hr.base _ b d' v1 v2).1.arr b2
      exact .inl hbase
    refine ⟨?_, fun _ b d e => hBase b d e⟩
    rcases g with rfl | rfl | rfl
    ·rw [hN0]; exact ZhD hK0 hm0
    ·rw [hN1]
     obtain ⟨he1, hK1⟩ := hK1
     refine ⟨he1, ?_⟩
     rw [hm1]
     cases hμ : μ2 k1 with
     | none =>
      simp only [hμ] at hK1
      simp at hK1
     | some bd =>
      obtain ⟨b, d⟩ := bd
      simp only [hμ] at hK1 ⊢
      obtain ⟨vs, t, Gs, els, r1, r2, _, _⟩ := hK1
      have hel : els = hs ++ [v3] := by
       apply List.ext_getElem
       ·rw [r2.len]; simp
       ·intro n g1 g2
        have g3 : n < ((hs ++ [v3]).map (GV.raw 0)).length := by rw [← r2.len]; exact g1
        have := r2.el n g3
        simp only [List.getElem_map] at this
        revert this
        generalize Gs[n]'(r2.fl ▸ g3) = G
        generalize els[n] = u
        intro this
        generalize (hs ++ [v3])[n] = y at this
        cases this with
        | atom x hx => simp [GV.atom] at hx
        | raw => rfl
      subst hel
      have hll : (nx ++ [row]).length = hs.length + 1 := by simp [hhs]
      refine ⟨vs, t, Fs ++ [F3], hs ++ [v3], r1, ⟨by simp [hhs], by simp [hFl], ?_, fun n hn => by rw [List.getElem_map]; rfl, fun n hn => ?_, r2.sz, r2.cell⟩, fun b' hb' => ?_, fun _ => ⟨?_, fun b' hb' => ?_⟩⟩
      ·have := r2.fit
       simpa [hhs] using this
      ·have hn2 : n < nx.length + 1 := by simpa using hn
       simp only [List.getElem_map]
       by_cases e : n < nx.length
       ·have e1 : (nx ++ [row])[n]'(by simp; omega) = nx[n] := List.getElem_append_left e
        have e2 : (hs ++ [v3])[n]'(by simp; omega) = hs[n]'(by omega) := List.getElem_append_left (by omega)
        have e3 : (Fs ++ [F3])[n]'(by simp; omega) = Fs[n]'(by omega) := List.getElem_append_left (by omega)
        rw [e1, e2, e3]
        exact (hrows n e).keep fun b' hb' => hblkD (hFslt b' (Zac (by omega) hb')) (hFsD b' (Zac (by omega) hb'))
       ·have e0 : n = nx.length := by omega
        subst e0
        have e1 : (nx ++ [row])[nx.length]'(by simp) = row := by simp
        have e2 : (hs ++ [v3])[nx.length]'(by simp; omega) = v3 := by simp [← hhs]
        have e3 : (Fs ++ [F3])[nx.length]'(by simp; omega) = F3 := by simp [← hFl]
        rw [e1, e2, e3]
        exact g3.keep fun b' hb' => hblkD (hF3lt b' hb') (hF3D b' hb')
      ·rw [List.flatten_append] at hb'
       rcases List.mem_append.1 hb' with hb' | hb'
       ·exact hFsnr b' hb'
       ·exact hF3nr b' (by simpa using hb')
      ·rw [List.flatten_append, List.nodup_append]
       refine ⟨hFn, by simpa using nd3, fun x hx y hy e => ?_⟩
       have hy' : y ∈ F3 := by simpa using hy
       subst e
       obtain ⟨d', hd'⟩ := hF3 x hy'
       exact hFr x hx ⟨i3, d', l3, hd'⟩
      ·rw [List.flatten_append] at hb'
       have hb2 : b' ∈ Fs.flatten ∨ b' ∈ F3 := by
        rcases List.mem_append.1 hb' with hb' | hb'
        ·exact .inl hb'
        ·exact .inr (by simpa using hb')
       refine ⟨by simp only [who3]; rw [if_pos hb2], ?_⟩
       rcases hb2 with hb2 | hb2
       ·exact (hFw b' hb2).2.keep (hblkD (hFslt b' hb2) (hFsD b' hb2))
       ·exact (gn3 b' hb2).2.keep (hblkD (hF3lt b' hb2) (hF3D b' hb2))
    ·rw [hN2]; exact ZhD hK2 hm2
   ·exfalso
    simp only [List.mem_cons, List.not_mem_nil, or_false] at hi
    rename_i u1 u2
    have hj2 : i = nid ∨ i = nid + 1 ∨ i = nid + 2 := by
     rcases hi with h | h | h | h | h | h | h
     ·exact absurd h g1
     ·exact absurd h g2
     ·exact absurd h g3
     ·exact absurd h g4
     ·exact .inl h
     ·exact .inr (.inl h)
     ·exact .inr (.inr h)
    rcases hj2 with rfl | rfl | rfl
    ·have h8 := hfree 0 (by omega)
     rw [Nat.add_zero] at h8
     rw [hN0, h8] at u1; cases u1
    ·rw [hN1, hfree 1 (by omega)] at u1; cases u1
    ·rw [hN2, hfree 2 (by omega)] at u1; cases u1
  ·simp only [who3]
   rw [if_neg ?_]
   ·exact hw
   ·rintro (h1 | h1)
    ·have := (hFw b h1).1
     rw [hw] at this
     simp only [Option.some.injEq] at this
     simp [this] at hj
    ·obtain ⟨d, hd⟩ := hF3 b h1
     exact hnr ⟨i3, d, l3, hd⟩
 refine ⟨hr2.dfr, _, hres, _, rfl, μ', who3, hrel, .agg [y0, y1, y2] _ rfl hy1 fun i hi => ?_⟩
 match i, hi with
 | 0, _ =>
  exact .own _ nid 0 _ c0 (by rw [hN0]; intro hx; cases hx) fun e dp xs hx => by
   rw [hN0] at hx; cases hx
   have := ZjI x0 hm0
   simpa using this
 | 1, _ =>
  exact .own _ (nid + 1) 0 _ c1 (by rw [hN1]; intro hx; cases hx) fun e dp xs hx => by
   rw [hN1] at hx; cases hx
   have := ZjI x1 hm1
   simpa [hhs] using this
 | 2, _ =>
  exact .own _ (nid + 2) 0 _ c2 (by rw [hN2]; intro hx; cases hx) fun e dp xs hx => by
   rw [hN2] at hx; cases hx
   have := ZjI x2 hm2
   simpa using this
set_option maxHeartbeats 2000000 in
theorem ZsM  {tab : Tab} {S : AState} {q : Oper} {f x y z r : Operand} {tx ty tz tr : TypeId} (ho : q.op = .call { callee := .value f, args := #[x, y, z, r], argTypes := #[tx, ty, tz, tr] }) {fid : FuncId} (hf : asFn (S.ev tab 0 f) = some (fid, [])) {i0 i1 i2 i3 m0 m1 m2 m3 : Nat}
  (hx : S.ev tab tx x = .agg [.own i0 0 m0, .own i1 0 m1, .own i2 0 m2]) {o p : Int} (hy : S.ev tab ty y = .g (.int .i64 o)) (hz : S.ev tab tz z = .g (.int .i64 p)) (hr3 : S.ev tab tr r = .own i3 0 m3) {d0 d2 : Bool} {pr row : List Int} {nx : List (List Int)}
  (b0 : S.heap i0 = .arr 1 d0 (ow.map GV.i)) (b1 : S.heap i1 = .arr 1 true (nx.map GV.ints)) (b2 : S.heap i2 = .arr 1 d2 (pr.map GV.i)) (b3 : S.heap i3 = .arr 1 true (row.map GV.i)) (hnd : [i0, i1, i2, i3].Nodup) {nid : Nat} (hfree : ∀ k, k < 3 → S.heap (nid + k) = .free)
  (hm : m0 = ow.length ∧ m1 = nx.length ∧ m2 = pr.length ∧ m3 = row.length) (hsz : ow.length ≤ 1000 ∧ nx.length ≤ 1000 ∧ pr.length ≤ 1000) (hc : VtxC P fid) :
  Zkn P tab nid q S (.agg [.own nid 0 (ow.length + 1), .own (nid + 1) 0 (nx.length + 1), .own (nid + 2) 0 (pr.length + 1)]) (vtxW i0 i1 i2 i3 nid ((ow ++ [o]).map GV.i) ((pr ++ [p]).map GV.i) ((nx ++ [row]).map GV.ints)) := by
 obtain ⟨rfl, rfl, rfl, rfl⟩ := hm
 intro S' h1 h2 w0 a w μ who hr
 rw [ho] at h1
 have mf : f ∈ (Op.call { callee := .value f, args := #[x, y, z, r], argTypes := #[tx, ty, tz, tr] }).operands.toList := by simp [Op.operands, Call.operands]
 have mx : x ∈ (Op.call { callee := .value f, args := #[x, y, z, r], argTypes := #[tx, ty, tz, tr] }).operands.toList := by simp [Op.operands, Call.operands]
 have my : y ∈ (Op.call { callee := .value f, args := #[x, y, z, r], argTypes := #[tx, ty, tz, tr] }).operands.toList := by simp [Op.operands, Call.operands]
 have mz : z ∈ (Op.call { callee := .value f, args := #[x, y, z, r], argTypes := #[tx, ty, tz, tr] }).operands.toList := by simp [Op.operands, Call.operands]
 have mr : r ∈ (Op.call { callee := .value f, args := #[x, y, z, r], argTypes := #[tx, ty, tz, tr] }).operands.toList := by simp [Op.operands, Call.operands]
 have hf' : asFn (S'.ev tab 0 f) = some (fid, []) := by rw [← Zbq (h1 f mf)]; exact hf
 have hx' := (Zbq (tab := tab) (ty := tx) (h1 x mx)).symm.trans hx
 have hy' := (Zbq (tab := tab) (ty := ty) (h1 y my)).symm.trans hy
 have hz' := (Zbq (tab := tab) (ty := tz) (h1 z mz)).symm.trans hz
 have hr' := (Zbq (tab := tab) (ty := tr) (h1 r mr)).symm.trans hr3
 have tin : ∀ i, (i = i0 ∨ i = i1 ∨ i = i2 ∨ i = i3) → S'.heap i = S.heap i := fun i hi => (h2 i (by
  unfold tch; rw [ho]
  refine List.mem_append.2 (.inr ?_)
  simp only [AState.args, hx, hy, hz, hr3]
  rcases hi with rfl | rfl | rfl | rfl <;> simp [vids])).symm
 have c0 := (tin i0 (.inl rfl)).trans b0
 have c1 := (tin i1 (.inr (.inl rfl))).trans b1
 have c2 := (tin i2 (.inr (.inr (.inl rfl)))).trans b2
 have c3 := (tin i3 (.inr (.inr (.inr rfl)))).trans b3
 have hfree' : ∀ k, k < 3 → S'.heap (nid + k) = .free := fun k hk => by
  rw [← h2 (nid + k) (by unfold tch; exact List.mem_append.2 (.inl (List.mem_map.2 ⟨k, by simp; omega, rfl⟩)))]; exact hfree k hk
 obtain ⟨cvs, hv, hcl, _⟩ := Zc3 (hr.ev tab 0 f) hf'
 have hc0 : cvs = [] := List.eq_nil_of_length_eq_zero (by simpa using hcl)
 subst hc0
 have px := hr.ev tab tx x
 have py := hr.ev tab ty y
 have pz := hr.ev tab tz z
 have pr' := hr.ev tab tr r
 rw [hx'] at px
 rw [hy'] at py
 rw [hz'] at pz
 rw [hr'] at pr'
 have ey := py.int_inv
 have ez := pz.int_inv
 have hrun : (execOp a.eval q).run P w = .ok (.enter fid #[a.eval x, .int .i64 o, .int .i64 p, a.eval r]) w := by
  have := hc.enter #[a.eval x, .int .i64 o, .int .i64 p, a.eval r] w
  unfold execOp
  simp only [ho, resolve, hv, Deferred.ofValue, Sem.run_bind, Sem.run_pure, Result.andThen_ok, invoke, Array.empty_append]
  have e1 : ((#[x, y, z, r] : Array Operand).map a.eval ++ ([] : List Value).toArray) = #[a.eval x, .int .i64 o, .int .i64 p, a.eval r] := by
   rw [show ((#[x, y, z, r] : Array Operand).map a.eval ++ ([] : List Value).toArray) = #[a.eval x, a.eval y, a.eval z, a.eval r] by simp, ey, ez]
  rw [e1, this]
 rw [hrun]
 refine (hc.calls hr px pr' c0 c1 c2 c3 hnd hfree' hsz).mono fun e w' hq => ?_
 obtain ⟨v, rfl, μ', who', r1, r2⟩ := hq
 exact ⟨v, rfl, μ', who', r1, r2⟩
end Go.Proofs.YtjjidamlmebaaaaGreat

