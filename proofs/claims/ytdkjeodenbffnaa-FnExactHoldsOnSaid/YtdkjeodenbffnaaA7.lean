/- Abstract states: tables of types, operands, and the operations that touch no memory. Over any program; the table is right ('TabOk'). -/
import Derived.Test.YtdkjeodenbffnaaA6
import Derived.Deep.MidRow
namespace Go.Proofs.Ytdkjeodenbffnaa
open Go.RowKit
open Shp

inductive TK where
  | base
  | int (k : IntKind)
  | str
  | sl (E : TypeId)
  | st (fs : List (Nat × TypeId))
  | ar (n : Nat) (E : TypeId)
  | bool

/-- What a walk knows of a type. -/
structure TI where
  size : Nat
  kind : TK
  zero : List PV

abbrev Tab := TypeId → Option TI

def TK.agg : TK → Bool
  | .st _ | .ar .. => true
  | _ => false

def ZeroOk (v : Value) (p : PV) : Prop := v.oneCell' = true ∧ ∀ w μ h, PRep w μ h v p

def DescOk (P : Program) (k : TK) (d : TypeDesc) : Prop :=
  match k with
  | .base => d.isRow = false
  | .int k => d = .int k
  | .str => d = .string
  | .sl E => d = .slice E ∧ ∃ i, P.info? E = some i ∧ i.bytes ≤ 128
  | .st fs => ∃ fields, d = .struct fields ∧ fields.toList.map (fun f => (f.offset, f.type)) = fs
  | .ar n E => d = .array n E
  | .bool => d = .bool

structure TypeOk (P : Program) (t : TypeId) (i : TI) (inf : TypeInfo) (z : Value) (d : TypeDesc) : Prop where
  info : P.info? t = some inf
  size : inf.size = i.size
  zero : inf.zero = some z
  zsize : z.cells.size = i.size
  zlen : i.zero.length = i.size
  zok : ∀ k (hk : k < i.zero.length), ZeroOk (z.cells.getD k undef) i.zero[k]
  desc : P.underlying t = some d
  kind : DescOk P i.kind d

def TabOk (P : Program) (tab : Tab) : Prop := ∀ t i, tab t = some i → ∃ inf z d, TypeOk P t i inf z d

theorem TabOk.elem {P : Program} {tab : Tab} (h : TabOk P tab) {t E : TypeId} {ti ei : TI} (ht : tab t = some ti) (hk : ti.kind = .sl E) (hE : tab E = some ei) (hpos : 0 < ei.size) : ∃ i z, ElemOK P t E ei.size i z := by
  obtain ⟨_, _, d, h1⟩ := h t ti ht
  obtain ⟨inf, z, _, h2⟩ := h E ei hE
  have h3 := h1.kind
  rw [hk] at h3
  obtain ⟨rfl, i, h4, h5⟩ := h3
  rw [h2.info] at h4
  cases h4
  refine ⟨inf, z, h1.desc, h2.info, h2.zero, h2.size, hpos, h5, h2.zsize, fun v hv => ?_⟩
  obtain ⟨k, hk', rfl⟩ := List.getElem_of_mem hv
  have h6 := (h2.zok k (by rw [h2.zlen, ← h2.zsize]; simpa using hk')).1
  simpa [Array.getD, show k < z.cells.size by simpa using hk'] using h6

theorem TabOk.agg {P : Program} {tab : Tab} (h : TabOk P tab) {t : TypeId} {ti : TI} (ht : tab t = some ti) (w : World) : (isAgg t).run P w = .ok ti.kind.agg w := by
  obtain ⟨_, _, d, h1⟩ := h t ti ht
  have h2 := h1.kind
  unfold isAgg
  rw [Sem.run_bind, run_underlying h1.desc w]
  cases hk : ti.kind <;> simp only [hk, DescOk] at h2
  · cases d <;> simp_all [TK.agg]
  · rw [h2]; rfl
  · rw [h2]; rfl
  · rw [h2.1]; rfl
  · obtain ⟨fs, rfl, _⟩ := h2; rfl
  · rw [h2]; rfl
  · rw [h2]; rfl

theorem TabOk.sizeOf {P : Program} {tab : Tab} (h : TabOk P tab) {t : TypeId} {ti : TI} (ht : tab t = some ti) (w : World) : (sizeOf t).run P w = .ok ti.size w := by
  obtain ⟨inf, _, d, h1⟩ := h t ti ht
  simp [Go.sizeOf, typeInfo, h1.info, h1.size]

/-! ### Operands -/

/-- A value that stands in the text. -/
def cst (tab : Tab) (ty : TypeId) : Value → PV
  | .bool b => .g (.bool b)
  | .int k n => .g (.int k n)
  | .string s => .g (.str s)
  | .pointer none => .g .nilp
  | .slice none 0 0 => match tab ty with
    | some ti => match ti.kind with
      | .sl E => match tab E with
        | some ei => if 0 < ei.size then .nils ei.size else .undef
        | none => .undef
      | _ => .undef
    | none => .undef
  | _ => .undef

def AState.ev (S : AState) (tab : Tab) (ty : TypeId) : Operand → PV
  | .tmp t => S.slots t
  | .const v => cst tab ty v
  | .func f => .fn f []
  | .global _ => .undef

theorem cst_ok (w : World) (μ : Lay) (h : Nat → Block) (tab : Tab) (ty : TypeId) (v : Value) : PRep w μ h v (cst tab ty v) := by
  unfold cst
  split
  · exact .g _ _ [] (.atom (.bool _) rfl) (by simp)
  · exact .g _ _ [] (.atom (.int _ _) rfl) (by simp)
  · exact .g _ _ [] (.atom (.str _) rfl) (by simp)
  · exact .g _ _ [] (.atom .nilp rfl) (by simp)
  · split
    · split
      · split
        · split
          · exact .nils _ (by assumption)
          · exact .undef _
        · exact .undef _
      · exact .undef _
    · exact .undef _
  · exact .undef _

theorem RelAt.ev {w0 : World} {S : AState} {a : Act} {w : World} {μ : Lay} {who : Nat → Option Nat} (h : RelAt w0 S a w μ who) (tab : Tab) (ty : TypeId) (x : Operand) : PRep w μ S.heap (a.eval x) (S.ev tab ty x) := by
  cases x with
  | tmp t => exact h.slot t
  | const v => exact cst_ok _ _ _ _ _ _
  | global g => exact .undef _
  | func f => exact .fn f [] [] rfl (by intro i hi; simp at hi)

/-! ### What an operation does -/

def writesH (h : Nat → Block) : List (Nat × Block) → Nat → Block
  | [] => h
  | (id, b) :: ws => writesH (upd h id b) ws

def AState.writes (S : AState) (ws : List (Nat × Block)) : AState := { S with heap := writesH S.heap ws }
theorem AState.writes_nil (S : AState) : S.writes [] = S := rfl
theorem AState.writes_cons (S : AState) (id : Nat) (b : Block) (ws : List (Nat × Block)) : S.writes ((id, b) :: ws) = (S.write id b).writes ws := rfl
theorem AState.writes_app (S : AState) (ws vs : List (Nat × Block)) : S.writes (ws ++ vs) = (S.writes ws).writes vs := by
  induction ws generalizing S with
  | nil => rfl
  | cons k ws ih => obtain ⟨id, b⟩ := k; rw [List.cons_append, AState.writes_cons, ih, AState.writes_cons]
def kills (ks : List Nat) : List (Nat × Block) := ks.map fun k => (k, .dead)
theorem AState.writes_kills (S : AState) (ks : List Nat) : S.writes (kills ks) = S.kill ks := by
  induction ks generalizing S with
  | nil => rfl
  | cons k ks ih => rw [AState.kill_cons, ← ih]; rfl

/-- The run comes to this value, in a world of this state. -/
def Does (P : Program) (w0 : World) (a : Act) (S' : AState) (pv : PV) : Result Next → Prop
  | .ok (.value v) w' => ∃ μ' who', RelAt w0 S' a w' μ' who' ∧ PRep w' μ' S'.heap v pv
  | .ok .skip w' => ∃ μ' who', RelAt w0 S' a w' μ' who' ∧ PRep w' μ' S'.heap undef pv
  | .ok (.enter f args) w' => Calls P f args w' fun e w'' => ∃ v, e = .returned v ∧ ∃ μ' who', RelAt w0 S' a w'' μ' who' ∧ PRep w'' μ' S'.heap v pv
  | _ => False

theorem Does.pure {P : Program} {w0 : World} {S : AState} {a : Act} {w : World} {μ : Lay} {who : Nat → Option Nat} (h : RelAt w0 S a w μ who) {r : Result Next} {v : Value} (hr : r = .ok (.value v) w) {pv : PV} (hv : PRep w μ S.heap v pv) : Does P w0 a (S.writes []) pv r := by
  subst hr; exact ⟨μ, who, h, hv⟩

theorem Does.wp {P : Program} {w0 : World} {S' : AState} {a : Act} {w : World} {o : Oper} {pv : PV} (h : Does P w0 a S' pv ((execOp a.eval o).run P w)) (hd : S'.has o.dst = true) {next : Act → World → Prop} {Q : Exit → Act → World → Prop}
    (hn : ∀ a' w' μ' who', RelAt w0 (S'.put o.dst pv) a' w' μ' who' → next a' w') : o.wp P a w next Q := by
  unfold Oper.wp
  generalize (execOp a.eval o).run P w = r at *
  cases r with
  | ok n w' =>
    cases n <;> simp only [Does] at h <;> simp only [Oper.upon]
    case value v => obtain ⟨μ', who', h1, h2⟩ := h; exact hn _ _ _ _ (h1.put hd h2)
    case skip => obtain ⟨μ', who', h1, h2⟩ := h; exact hn _ _ _ _ (h1.put hd h2)
    case enter f args =>
      refine h.mono ?_
      rintro e w'' ⟨v, rfl, μ', who', h1, h2⟩
      exact hn _ _ _ _ (h1.put hd h2)
  | halt x w' => simp only [Does] at h

/-! ### Values and their cells -/

def PV.cells : PV → List PV
  | .agg cs => cs
  | .g (.agg gs) => gs.map .g
  | p => [p]

/-- A value of a variable (no result list, nothing unknown). -/
def PV.val : PV → Bool
  | .undef | .none_ | .tup _ | .g (.tup _) => false
  | _ => true

theorem GRep.one_of {w : World} {F : List Nat} {v : Value} {x : GV} (h : GRep w F v x) (hx : x.scal = true) : v.cells = #[v] := by
  have := (h.scal_one hx).1
  cases v <;> simp_all [Value.oneCell', Value.cells]

theorem PRep.cells {w : World} {μ : Lay} {h : Nat → Block} {v : Value} {p : PV} (hv : PRep w μ h v p) (hp : p.val = true) :
    v.cells.size = p.cells.length ∧ (∀ u ∈ v.cells.toList, u.oneCell' = true) ∧ ∀ i (hi : i < p.cells.length), PRep w μ h (v.cells.getD i Go.undef) p.cells[i] := by
  have one : ∀ {u : Value}, u.oneCell' = true → u.cells = #[u] := fun {u} hu => by cases u <;> simp_all [Value.oneCell', Value.cells]
  have key : ∀ {v : Value} {p : PV}, v.oneCell' = true → PRep w μ h v p → v.cells.size = [p].length ∧ (∀ u ∈ v.cells.toList, u.oneCell' = true) ∧ ∀ i (hi : i < [p].length), PRep w μ h (v.cells.getD i Go.undef) [p][i] := by
    intro v p h1 h2
    rw [one h1]
    refine ⟨rfl, by simpa using h1, fun i hi => ?_⟩
    have : i = 0 := by simp at hi; omega
    subst this
    exact h2
  cases hv with
  | g v x F hg hd =>
    by_cases hs : x.scal = true
    · have h3 : (PV.g x).cells = [.g x] := by cases x <;> simp_all [PV.cells, GV.scal]
      have := key (hg.scal_one hs).1 (PRep.g (μ := μ) (h := h) v x F hg hd)
      rw [h3]; exact this
    · cases hg with
      | agg vs gs Fs hv hF h1 hg' hh =>
        refine ⟨by simp [Value.cells, PV.cells, hv], by simpa [Value.cells] using h1, fun i hi => ?_⟩
        have hi' : i < gs.length := by simpa [PV.cells] using hi
        have e1 : (Value.agg vs.toArray).cells.getD i Go.undef = vs[i]'(hv ▸ hi') := by simp [Value.cells, Array.getD, hv, hi']
        have e2 : (PV.g (.agg gs)).cells[i] = .g gs[i] := by simp [PV.cells]
        rw [e1, e2]
        exact .g _ _ _ (hh i hi') fun b hb => hd b (getElem_mem_flatten _ hb)
      | tup => simp [PV.val] at hp
      | atom x hx => cases x <;> simp_all [GV.atom, GV.scal]
      | fn | box | sl => simp [GV.scal] at hs
  | nils e he => exact key rfl (.nils e he)
  | own v id lo len h1 h2 h3 => exact key h1 (.own v id lo len h1 h2 h3)
  | ptr v id off h1 h2 h3 => exact key h1 (.ptr v id off h1 h2 h3)
  | eptr v id k j h1 h2 h3 => exact key h1 (.eptr v id k j h1 h2 h3)
  | iptr v p cs vs Fs hp' hs hv hF hb hr hc hg he hd => exact key (by rw [hp']; rfl) (.iptr v p cs vs Fs hp' hs hv hF hb hr hc hg he hd)
  | fn f vs cs hv he => exact key rfl (.fn f vs cs hv he)
  | agg vs cs hv h1 he =>
    refine ⟨by simp [Value.cells, PV.cells, hv], by simpa [Value.cells] using h1, fun i hi => ?_⟩
    have hi' : i < cs.length := by simpa [PV.cells] using hi
    have e1 : (Value.agg vs.toArray).cells.getD i Go.undef = vs[i]'(hv ▸ hi') := by simp [Value.cells, Array.getD, hv, hi']
    rw [e1]
    exact he i hi'
  | undef | none_ | tup => simp [PV.val] at hp

end Go.Proofs.Ytdkjeodenbffnaa
