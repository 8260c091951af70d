/- Abstract states: functions that write into their argument (marks). Over any program; no conditions but those that each theorem names. -/
import Derived.Test.YtdkjeodenbffnaaA16
namespace Go.Proofs.Ytdkjeodenbffnaa
open Go.RowKit
open Shp

theorem writesH_ne {ws : List (Nat × Block)} {h : Nat → Block} {id : Nat} (hn : id ∉ ws.map (·.1)) : writesH h ws id = h id := by
  induction ws generalizing h with
  | nil => rfl
  | cons k ws ih =>
    obtain ⟨i, b⟩ := k
    simp only [List.map_cons, List.mem_cons, not_or] at hn
    rw [writesH, ih hn.2, upd_ne _ _ _ hn.1]
theorem writesH_mem {ws : List (Nat × Block)} {h h' : Nat → Block} {id : Nat} (hm : id ∈ ws.map (·.1)) : writesH h ws id = writesH h' ws id := by
  induction ws generalizing h h' with
  | nil => simp at hm
  | cons k ws ih =>
    obtain ⟨i, b⟩ := k
    by_cases h2 : id ∈ ws.map (·.1)
    · exact ih h2
    · simp only [List.map_cons, List.mem_cons] at hm
      have : id = i := hm.resolve_right h2
      subst this
      rw [writesH, writesH, writesH_ne h2, writesH_ne h2, upd_same, upd_same]

/-- Rows keep their place and size. -/
def SameRows (w w' : World) : Prop := ∀ (b : Nat) (vs : Array Value) (t : TypeId), w.heap[b]? = some (.cells vs t (0, 0)) → ∃ vs' : Array Value, w'.heap[b]? = some (.cells vs' t (0, 0)) ∧ vs'.size = vs.size
theorem SameRows.refl (w : World) : SameRows w w := fun _ vs _ h => ⟨vs, h, rfl⟩
theorem SameRows.trans {a b c : World} (h : SameRows a b) (k : SameRows b c) : SameRows a c := fun p vs t hp => by
  obtain ⟨vs1, h1, e1⟩ := h p vs t hp
  obtain ⟨vs2, h2, e2⟩ := k p vs1 t h1
  exact ⟨vs2, h2, e2.trans e1⟩
theorem SameRows.keeps {a b : World} (h : Keeps [] a b) : SameRows a b := fun p vs t hp => ⟨vs, by rw [h.block p (lt_of_heap hp) (by simp)]; exact hp, rfl⟩

inductive GRL (w : World) : List (List Nat) → List Value → List GV → Prop
  | nil : GRL w [] [] []
  | cons {F : List Nat} {v : Value} {g : GV} {Fs : List (List Nat)} {vs : List Value} {gs : List GV} : GRep w F v g → GRL w Fs vs gs → GRL w (F :: Fs) (v :: vs) (g :: gs)
inductive PRL (w : World) (μ : Lay) (h : Nat → Block) : List Value → List PV → Prop
  | nil : PRL w μ h [] []
  | cons {v : Value} {p : PV} {vs : List Value} {ps : List PV} : PRep w μ h v p → PRL w μ h vs ps → PRL w μ h (v :: vs) (p :: ps)
theorem PRL.of {w : World} {μ : Lay} {h : Nat → Block} : ∀ (vs : List Value) (ps : List PV) (hl : vs.length = ps.length), (∀ i (hi : i < ps.length), PRep w μ h (vs[i]'(hl ▸ hi)) ps[i]) → PRL w μ h vs ps
  | [], [], _, _ => .nil
  | v :: vs, p :: ps, hl, hp => .cons (hp 0 (by simp)) (PRL.of vs ps (by simpa using hl) fun i hi => hp (i + 1) (by simpa using hi))
  | [], _ :: _, hl, _ => by simp at hl
  | _ :: _, [], hl, _ => by simp at hl
theorem GRL.of {w : World} : ∀ (Fs : List (List Nat)) (vs : List Value) (gs : List GV) (hv : vs.length = gs.length) (hF : Fs.length = gs.length), (∀ i (hi : i < gs.length), GRep w (Fs[i]'(hF ▸ hi)) (vs[i]'(hv ▸ hi)) gs[i]) → GRL w Fs vs gs
  | [], [], [], _, _, _ => .nil
  | F :: Fs, v :: vs, g :: gs, hv, hF, h => .cons (h 0 (by simp)) (GRL.of Fs vs gs (by simpa using hv) (by simpa using hF) fun i hi => h (i + 1) (by simpa using hi))
  | [], _ :: _, _, hv, hF, _ => by simp at hv hF; omega
  | _ :: _, [], _, hv, hF, _ => by simp at hv hF; omega
  | [], [], _ :: _, hv, _, _ => by simp at hv
  | _ :: _, _ :: _, [], hv, _, _ => by simp at hv
theorem GRL.get {w : World} {Fs : List (List Nat)} {vs : List Value} {gs : List GV} (h : GRL w Fs vs gs) : ∃ (hv : vs.length = gs.length) (hF : Fs.length = gs.length), ∀ i (hi : i < gs.length), GRep w (Fs[i]'(hF ▸ hi)) (vs[i]'(hv ▸ hi)) gs[i] := by
  induction h with
  | nil => exact ⟨rfl, rfl, by intro i hi; simp at hi⟩
  | cons h1 h2 ih =>
    obtain ⟨hv, hF, hh⟩ := ih
    refine ⟨by simp [hv], by simp [hF], fun i hi => ?_⟩
    cases i with
    | zero => exact h1
    | succ i => exact hh i (by simpa using hi)

/-- A function that numbers what its argument holds, from k on. -/
structure MarkC (P : Program) (f : FuncId) (ag : Bool) (gs gs' : List GV) (k : Int) (c : Nat) : Prop where
  enter : ∀ args w, (callFunc f args).run P w = .ok (.enter f args) w
  calls : ∀ w Fs vs, GRL w Fs vs gs → Fs.flatten.Nodup → Calls P f #[if ag then .agg vs.toArray else vs.headD Go.undef, .int .i64 k] w (fun e w' => e = .returned (.int .i64 (k + c)) ∧ GRL w' Fs vs gs' ∧ Keeps Fs.flatten w w' ∧ SameRows w w')

/-- Whole blocks of the call's own, and what is written there. -/
inductive Wh (h : Nat → Block) : PV → GV → GV → List (Nat × Block) → Prop
  | atom (x : GV) : x.atom = true → Wh h (.g x) x x []
  | own (id e len : Nat) (xs ys : List GV) : h id = .arr e true xs → len = xs.length → ys.length = xs.length → Wh h (.own id 0 len) (.sl e xs) (.sl e ys) [(id, .arr e true ys)]
inductive WhL (h : Nat → Block) : List PV → List GV → List GV → List (Nat × Block) → List (List Nat) → Prop
  | nil : WhL h [] [] [] [] []
  | cons {p : PV} {g g' : GV} {w : List (Nat × Block)} {ps : List PV} {gs gs' : List GV} {ws : List (Nat × Block)} {is : List (List Nat)} : Wh h p g g' w → WhL h ps gs gs' ws is → (∀ x ∈ w, x.1 ∉ ws.map (·.1)) → WhL h (p :: ps) (g :: gs) (g' :: gs') (w ++ ws) (w.map (·.1) :: is)
inductive ML (Q : Nat → Nat → Prop) : List (List Nat) → List (List Nat) → Prop
  | nil : ML Q [] []
  | cons {F : List Nat} {i : List Nat} {Fs is : List (List Nat)} : (∀ b ∈ F, ∃ id ∈ i, Q b id) → ML Q Fs is → ML Q (F :: Fs) (i :: is)

def Mine (S : AState) (μ : Lay) (who : Nat → Option Nat) (b id : Nat) : Prop := (S.heap id).live = true ∧ ((∃ d, μ id = some (b, d)) ∨ (who b = some id ∧ ¬ Root μ S.heap b))

section
variable {w0 : World} {S : AState} {a : Act} {w w' : World} {μ : Lay} {who : Nat → Option Nat}

theorem Mine.uniq (hr : RelAt w0 S a w μ who) {b i j : Nat} (h1 : Mine S μ who b i) (h2 : Mine S μ who b j) : i = j := by
  obtain ⟨l1, h1⟩ := h1
  obtain ⟨l2, h2⟩ := h2
  rcases h1 with ⟨d1, h1⟩ | ⟨h1, n1⟩
  · rcases h2 with ⟨d2, h2⟩ | ⟨h2, n2⟩
    · exact hr.inj i j b d1 d2 l1 l2 h1 h2
    · exact absurd ⟨i, d1, l1, h1⟩ n2
  · rcases h2 with ⟨d2, h2⟩ | ⟨h2, n2⟩
    · exact absurd ⟨j, d2, l2, h2⟩ n1
    · rw [h1] at h2; exact Option.some.inj h2

theorem wh_ok (hr : RelAt w0 S a w μ who) {p : PV} {g g' : GV} {ws : List (Nat × Block)} (hw : Wh S.heap p g g' ws) {v : Value} (hv : PRep w μ S.heap v p) :
    ∃ F, GRep w F v g ∧ F.Nodup ∧ ∀ b ∈ F, w0.heap.size ≤ b ∧ ∃ id ∈ ws.map (·.1), Mine S μ who b id := by
  cases hw with
  | atom x hx =>
    obtain ⟨F, hF, _⟩ := hv.g_inv
    have := hF.of_atom hx
    subst this
    exact ⟨[], hF, List.nodup_nil, by simp⟩
  | own id e len xs ys hid hn hl =>
    subst hn
    obtain ⟨F, g1, g2, g3, _, _⟩ := hr.view hid (hv.own_inv.2.2 _ _ _ hid) (by omega : 0 + xs.length ≤ xs.length)
    refine ⟨F, by simpa using g1, (g3 rfl).1, fun b hb => ⟨((g3 rfl).2 b hb).2, id, by simp, by rw [hid]; rfl, ?_⟩⟩
    rcases g2 b hb with h1 | h1
    · exact .inl h1
    · rcases ((g3 rfl).2 b hb).1 with h2 | h2
      · exact .inl h2
      · exact .inr ⟨h2, h1⟩

theorem ML.mem {Q : Nat → Nat → Prop} {Fs is : List (List Nat)} (h : ML Q Fs is) : ∀ b ∈ Fs.flatten, ∃ id ∈ is.flatten, Q b id := by
  induction h with
  | nil => simp
  | cons h1 h2 ih =>
    intro b hb
    rw [List.flatten_cons] at hb ⊢
    rcases List.mem_append.1 hb with hb | hb
    · obtain ⟨i, hi, q⟩ := h1 b hb; exact ⟨i, List.mem_append.2 (.inl hi), q⟩
    · obtain ⟨i, hi, q⟩ := ih b hb; exact ⟨i, List.mem_append.2 (.inr hi), q⟩
theorem WhL.ids {h : Nat → Block} {ps : List PV} {gs gs' : List GV} {ws : List (Nat × Block)} {is : List (List Nat)} (hw : WhL h ps gs gs' ws is) : is.flatten = ws.map (·.1) := by
  induction hw with
  | nil => rfl
  | cons h1 h2 hne ih => rw [List.flatten_cons, List.map_append, ih]

theorem whL_ok (hr : RelAt w0 S a w μ who) {ps : List PV} {gs gs' : List GV} {ws : List (Nat × Block)} {is : List (List Nat)} (hw : WhL S.heap ps gs gs' ws is) : ∀ {vs : List Value}, PRL w μ S.heap vs ps →
    ∃ Fs, GRL w Fs vs gs ∧ Fs.flatten.Nodup ∧ ML (fun b id => w0.heap.size ≤ b ∧ Mine S μ who b id) Fs is := by
  induction hw with
  | nil => intro vs hp; cases hp; exact ⟨[], .nil, by simp, .nil⟩
  | cons h1 h2 hne ih =>
    intro vs hp
    cases hp with
    | cons p1 p2 =>
      obtain ⟨F, a1, a2, a3⟩ := wh_ok hr h1 p1
      obtain ⟨Fs, b1, b2, b3⟩ := ih p2
      refine ⟨F :: Fs, .cons a1 b1, ?_, .cons (fun b hb => by obtain ⟨q, i, hi, m⟩ := a3 b hb; exact ⟨i, hi, q, m⟩) b3⟩
      rw [List.flatten_cons]
      refine List.nodup_append.2 ⟨a2, b2, fun x hx y hy e => ?_⟩
      subst e
      obtain ⟨_, i, hi, m1⟩ := a3 x hx
      obtain ⟨j, hj, _, m2⟩ := b3.mem x hy
      rw [h2.ids] at hj
      have := Mine.uniq hr m1 m2
      subst this
      obtain ⟨q, hq, rfl⟩ := List.mem_map.1 hi
      exact hne q hq hj

theorem whL_at {Q : Nat → Nat → Prop} {h : Nat → Block} {ps : List PV} {gs gs' : List GV} {ws : List (Nat × Block)} {is : List (List Nat)} (hw : WhL h ps gs gs' ws is) : ∀ {Fs : List (List Nat)} {vs : List Value}, GRL w' Fs vs gs' → PRL w μ h vs ps → Fs.flatten.Nodup → ML Q Fs is → ∀ {id : Nat}, id ∈ ws.map (·.1) →
    ∃ e xs ys v F, h id = .arr e true xs ∧ ys.length = xs.length ∧ (∀ h0, writesH h0 ws id = .arr e true ys) ∧ PRep w μ h v (.own id 0 xs.length) ∧ GRep w' F v (.sl e ys) ∧ (∀ b ∈ F, Q b id) ∧ F.Nodup := by
  induction hw with
  | nil => intro Fs vs _ _ _ _ id hid; simp at hid
  | @cons p g g' wq ps gs gs' ws is h1 h2 hne ih =>
    intro Fs vs g2 hp hnd hml id hid
    cases g2 with
    | cons q1 q2 =>
      cases hp with
      | cons p1 p2 =>
        cases hml with
        | cons m1 m2 =>
          rw [List.flatten_cons] at hnd
          have hnd' := List.nodup_append.1 hnd
          rw [List.map_append] at hid
          by_cases hmem : id ∈ ws.map (·.1)
          · obtain ⟨e, xs, ys, v, F, c1, c2, c3, c4, c5, c6, c7⟩ := ih q2 p2 hnd'.2.1 m2 hmem
            exact ⟨e, xs, ys, v, F, c1, c2, fun h0 => by rw [writesH_app]; exact c3 _, c4, c5, c6, c7⟩
          · have hid' := (List.mem_append.1 hid).resolve_right hmem
            cases h1 with
            | atom x hx => simp at hid'
            | own id' e len xs ys hh hn hl =>
              simp at hid'
              subst hid'; subst hn
              exact ⟨e, xs, ys, _, _, hh, hl, fun h0 => by rw [writesH_app, writesH_ne hmem]; simp [writesH, upd_same], p1, q1, fun b hb => by obtain ⟨i, hi, q⟩ := m1 b hb; simp at hi; subst hi; exact q, hnd'.1⟩

/-- Nothing in it that could lie in what is written. -/
def ok1 : PV → Bool
  | .g x => x.atom
  | .undef | .none_ | .nils _ | .own .. | .ptr .. | .eptr .. => true
  | _ => false
def ok0 : PV → Bool
  | .agg cs => cs.all ok1
  | .tup cs => cs.all ok1
  | p => ok1 p
def okS (n t : Nat) : PV → Bool
  | .g x => x.atom || pinned n t
  | p => ok0 p
def okB : Block → Bool
  | .free | .dead => true
  | .box cs => cs.all ok1
  | .arr _ dp _ => dp

structure MoveC (w w' : World) (μ : Lay) (h h' : Nat → Block) : Prop where
  row : SameRows w w'
  free : ∀ id, h' id = .free → h id = .free
  arr : ∀ id e dp xs, h' id = .arr e dp xs → ∃ dp' xs', h id = .arr e dp' xs'
  box : ∀ id cs, h' id = .box cs → h id = .box cs

theorem PRep.moveC1 {h h' : Nat → Block} (hm : MoveC w w' μ h h') {v : Value} {p : PV} (hv : PRep w μ h v p) (hp : ok1 p = true) : PRep w' μ h' v p := by
  cases hv with
  | g v x F hg hd =>
    have hx : x.atom = true := hp
    have := hg.of_atom hx
    subst this
    refine .g v x [] ?_ (by simp)
    exact hg.keep (by simp)
  | undef v => exact .undef v
  | none_ => exact .none_
  | nils e he => exact .nils e he
  | own v id lo len h1 hf ho =>
    refine .own v id lo len h1 (fun e => hf (hm.free id e)) fun e dp xs hx => ?_
    obtain ⟨dp', xs', e2⟩ := hm.arr id e dp xs hx
    have h3 := ho e dp' xs' e2
    unfold OwnAt at *
    cases hμ : μ id with
    | none => simpa only [hμ] using h3
    | some bd =>
      obtain ⟨b, d⟩ := bd
      simp only [hμ] at h3 ⊢
      obtain ⟨cap, o, hv, hl, hc, vs, t, hw, ho2, hs⟩ := h3
      obtain ⟨vs', hw', hs'⟩ := hm.row b vs t hw
      exact ⟨cap, o, hv, hl, hc, vs', t, hw', ho2, by omega⟩
  | ptr v id off h1 hf ho => exact .ptr v id off h1 (fun e => hf (hm.free id e)) fun cs hx => ho cs (hm.box id cs hx)
  | eptr v id k j h1 hf ho =>
    refine .eptr v id k j h1 (fun e => hf (hm.free id e)) fun e dp xs hx => ?_
    obtain ⟨dp', xs', e2⟩ := hm.arr id e dp xs hx
    exact ho e dp' xs' e2
  | iptr | agg | tup | fn => simp [ok1] at hp

theorem PRep.moveC {h h' : Nat → Block} (hm : MoveC w w' μ h h') {v : Value} {p : PV} (hv : PRep w μ h v p) (hp : ok0 p = true) : PRep w' μ h' v p := by
  cases p with
  | agg cs =>
    simp only [ok0, List.all_eq_true] at hp
    obtain ⟨vs, rfl, hl, h1, h2⟩ := hv.agg_inv
    exact .agg vs cs hl h1 fun i hi => (h2 i hi).moveC1 hm (hp _ (List.getElem_mem _))
  | tup cs =>
    simp only [ok0, List.all_eq_true] at hp
    obtain ⟨vs, rfl, hl, h2⟩ := hv.tup_inv
    exact .tup vs cs hl fun i hi => (h2 i hi).moveC1 hm (hp _ (List.getElem_mem _))
  | _ => exact hv.moveC1 hm hp

theorem mark_rel (hr : RelAt w0 S a w μ who) (hS : ∀ t, okS S.n t (S.slots t) = true) (hH : ∀ id, okB (S.heap id) = true) {ps : List PV} {gs gs' : List GV} {ws : List (Nat × Block)} {is : List (List Nat)} (hw : WhL S.heap ps gs gs' ws is) {vs : List Value} (hp : PRL w μ S.heap vs ps)
    {Fs : List (List Nat)} (hnd : Fs.flatten.Nodup) (hml : ML (fun b id => w0.heap.size ≤ b ∧ Mine S μ who b id) Fs is) (g2 : GRL w' Fs vs gs') (hk : Keeps Fs.flatten w w') (hsr : SameRows w w') : RelAt w0 (S.writes ws) a w' μ who := by
  have hat := fun {id} (hid : id ∈ ws.map (·.1)) => whL_at (h := S.heap) (w := w) (μ := μ) hw g2 hp hnd hml hid
  have hmine : ∀ b ∈ Fs.flatten, w0.heap.size ≤ b ∧ ∃ id ∈ ws.map (·.1), Mine S μ who b id := fun b hb => by
    obtain ⟨i, hi, q, m⟩ := hml.mem b hb
    exact ⟨q, i, by rw [← hw.ids]; exact hi, m⟩
  have hout : ∀ id, id ∉ ws.map (·.1) → (S.writes ws).heap id = S.heap id := fun id hid => writesH_ne hid
  have hlive : ∀ id, ((S.writes ws).heap id).live = (S.heap id).live := fun id => by
    by_cases hid : id ∈ ws.map (·.1)
    · obtain ⟨e, xs, ys, v, F, c1, c2, c3, _⟩ := hat hid
      rw [show (S.writes ws).heap id = .arr e true ys from c3 S.heap, c1]; rfl
    · rw [hout id hid]
  have hroot : ∀ b, Root μ (S.writes ws).heap b ↔ Root μ S.heap b := fun b => by
    constructor
    · rintro ⟨id, d, h1, h2⟩; exact ⟨id, d, by rw [← hlive]; exact h1, h2⟩
    · rintro ⟨id, d, h1, h2⟩; exact ⟨id, d, by rw [hlive]; exact h1, h2⟩
  have hm : MoveC w w' μ S.heap (S.writes ws).heap := by
    refine ⟨hsr, fun id h => ?_, fun id e dp xs h => ?_, fun id cs h => ?_⟩
    · by_cases hid : id ∈ ws.map (·.1)
      · obtain ⟨e, xs, ys, v, F, c1, c2, c3, _⟩ := hat hid
        rw [show (S.writes ws).heap id = .arr e true ys from c3 S.heap] at h; cases h
      · rw [hout id hid] at h; exact h
    · by_cases hid : id ∈ ws.map (·.1)
      · obtain ⟨e', xs', ys, v, F, c1, c2, c3, _⟩ := hat hid
        rw [show (S.writes ws).heap id = .arr e' true ys from c3 S.heap] at h
        cases h; exact ⟨true, xs', c1⟩
      · rw [hout id hid] at h; exact ⟨dp, xs, h⟩
    · by_cases hid : id ∈ ws.map (·.1)
      · obtain ⟨e', xs', ys, v, F, c1, c2, c3, _⟩ := hat hid
        rw [show (S.writes ws).heap id = .arr e' true ys from c3 S.heap] at h; cases h
      · rw [hout id hid] at h; exact h
  have hk0 : Keeps [] w0 w' := hr.keep.trans' hk fun b hb hlt => by have := (hmine b hb).1; omega
  -- what is another's is not written
  have haway : ∀ id b, id ∉ ws.map (·.1) → Mine S μ who b id → b ∉ Fs.flatten := fun id b hid hmi hb => by
    obtain ⟨_, j, hj, hmj⟩ := hmine b hb
    have := Mine.uniq hr hmi hmj
    subst this; exact hid hj
  have hblk : ∀ id b, id ∉ ws.map (·.1) → Mine S μ who b id → b < w.heap.size → w'.heap[b]? = w.heap[b]? := fun id b hid hmi hlt => hk.block b hlt (haway id b hid hmi)
  refine ⟨hr.size, fun t => ?_, hr.dfr, fun id => ?_, fun i j b d d' hi hj => hr.inj i j b d d' (by rw [← hlive]; exact hi) (by rw [← hlive]; exact hj), fun i b d hi hb => ?_, hk0, hr.old⟩
  · have h1 := hS t
    have h2 := hr.slot t
    show PRep w' μ (S.writes ws).heap _ (S.slots t)
    generalize hq : S.slots t = p at h1 h2
    cases p with
    | g x =>
      simp only [okS, Bool.or_eq_true] at h1
      rcases h1 with h1 | h1
      · exact h2.moveC hm h1
      · obtain ⟨F, hF⟩ := hr.old t x h1 hq
        refine .g _ x F (hF.keeps0 hk0) fun b hb => ?_
        rintro ⟨id, d, hl, hb2⟩
        rw [hlive] at hl
        have := (hr.base id b d hl hb2).1
        have := hF.lt b hb
        omega
    | _ => exact h2.moveC hm h1
  · by_cases hid : id ∈ ws.map (·.1)
    · obtain ⟨e, xs, ys, v, F, c1, c2, c3, c4, c5, c6, c7⟩ := hat hid
      have hlv : (S.heap id).live = true := by rw [c1]; rfl
      rw [show (S.writes ws).heap id = .arr e true ys from c3 S.heap]
      have hB := hr.blk id
      rw [c1] at hB
      obtain ⟨he, hB⟩ := hB
      have hoa := c4.own_inv.2.2 _ _ _ c1
      refine ⟨he, ?_⟩
      unfold OwnAt at hoa
      cases hμ : μ id with
      | none =>
        simp only [hμ] at hB hoa ⊢
        subst hB
        exact List.eq_nil_of_length_eq_zero (by simpa using c2)
      | some bd =>
        obtain ⟨b, d⟩ := bd
        simp only [hμ] at hB hoa ⊢
        obtain ⟨cap, o, rfl, hlc, hcm, vs0, t0, hrow0, ho0, hfit0⟩ := hoa
        obtain ⟨vs1, t1, Fs1, els1, hrow1, hr1, _, _⟩ := hB
        obtain ⟨vs2, hrow2, hsz2⟩ := hsr b vs0 t0 hrow0
        have hsame : vs1.size = vs0.size := by
          rw [hrow0] at hrow1
          simp only [Option.some.injEq] at hrow1
          cases hrow1; rfl
        have hfit1 := hr1.fit
        rcases Nat.eq_zero_or_pos cap with hc0 | hc0
        · have hx0 : xs.length = 0 := by omega
          have hy : ys = [] := List.eq_nil_of_length_eq_zero (by omega)
          subst hy
          refine ⟨vs2, t0, [], [], hrow2, ⟨rfl, rfl, by simp; omega, by intro k hk; simp at hk, by intro k hk; simp at hk, by intro k hk; simp at hk, by intro k hk; simp at hk⟩, by simp, fun _ => ⟨by simp, by simp⟩⟩
        · obtain ⟨ad, cap', els, Gs, e1, e2, hs⟩ := c5.slice
          simp only [Value.slice.injEq] at e1
          obtain ⟨rfl, _, rfl⟩ := e1
          have hod := ho0 hc0
          rw [Nat.zero_mul, Nat.add_zero] at hod
          subst hod
          have hyl : ys.length * e ≤ cap * e := Nat.mul_le_mul_right _ hs.le
          have hsub : ∀ c ∈ Gs.flatten, c ∈ F := fun c hc => by rw [e2]; exact List.mem_append.2 (.inr hc)
          have hnb : b ∉ Gs.flatten := fun hb => by
            rw [e2] at c7
            exact (List.nodup_append.1 c7).2.2 b (mem_own rfl hc0) b hb rfl
          have hG : ∀ c ∈ Gs.flatten, who c = some id ∧ ¬ Root μ S.heap c ∧ w0.heap.size ≤ c := fun c hc => by
            obtain ⟨q0, _, hmj⟩ := c6 c (hsub c hc)
            rcases hmj with ⟨dj, hmj⟩ | ⟨hmj, hnr⟩
            · rw [hμ] at hmj
              simp only [Option.some.injEq, Prod.mk.injEq] at hmj
              obtain ⟨rfl, _⟩ := hmj
              exact absurd hc hnb
            · exact ⟨hmj, hnr, q0⟩
          have hndG : Gs.flatten.Nodup := by rw [e2] at c7; exact (List.nodup_append.1 c7).2.1
          refine ⟨vs2, t0, Gs, els, hrow2, rowRep_new he hs.hv hs.hF hs.sizes (fun v hv' => ?_) hs.nc hs.h (by omega) (fun j hj => ?_), fun c hc hrt => (hG c hc).2.1 ((hroot c).1 hrt), fun _ => ⟨hndG, fun c hc => ⟨(hG c hc).1, (hG c hc).2.2⟩⟩⟩
          · obtain ⟨j, hj, rfl⟩ := List.getElem_of_mem hv'; exact (hs.hc j hj).2.1
          · have h9 := hs.cells rfl j _ (List.getElem?_eq_getElem hj)
            rw [Addr.add_mid, cell_of_row w' b _ _ _ _ hrow2] at h9
            rw [h9, List.getElem?_eq_getElem hj]
    · rw [hout id hid]
      have hB := hr.blk id
      have hok := hH id
      cases hb : S.heap id with
      | free => trivial
      | dead => trivial
      | box cs =>
        rw [hb] at hB hok
        simp only [okB, List.all_eq_true] at hok
        obtain ⟨b, vs0, t, h1, h2, h3, h4, h5⟩ := hB
        have hlv : (S.heap id).live = true := by rw [hb]; rfl
        exact ⟨b, vs0, t, h1, by rw [hblk id b hid ⟨hlv, .inl ⟨0, h1⟩⟩ (lt_of_heap h2)]; exact h2, h3, h4, fun i hi => (h5 i hi).moveC1 hm (hok _ (List.getElem_mem _))⟩
      | arr e dp xs =>
        rw [hb] at hB hok
        have hdp : dp = true := hok
        subst hdp
        have hlv : (S.heap id).live = true := by rw [hb]; rfl
        obtain ⟨he, hB⟩ := hB
        refine ⟨he, ?_⟩
        cases hμ : μ id with
        | none => simpa only [hμ] using hB
        | some bd =>
          obtain ⟨b, d⟩ := bd
          simp only [hμ] at hB ⊢
          obtain ⟨vs0, t, Gs, els, h2, h3, h4, h5⟩ := hB
          have h5' : Gs.flatten.Nodup ∧ ∀ b ∈ Gs.flatten, who b = some id ∧ w0.heap.size ≤ b := by first | exact h5 | exact h5 trivial | exact h5 rfl
          have key : ∀ c ∈ Gs.flatten, w'.heap[c]? = w.heap[c]? := fun c hc => by
            obtain ⟨i, hi, hc'⟩ := mem_flatten_getElem hc
            exact hblk id c hid ⟨hlv, .inr ⟨(h5'.2 c hc).1, h4 c hc⟩⟩ ((h3.el i (h3.fl ▸ hi)).lt c hc')
          exact ⟨vs0, t, Gs, els, by rw [hblk id b hid ⟨hlv, .inl ⟨d, hμ⟩⟩ (lt_of_heap h2)]; exact h2, ⟨h3.len, h3.fl, h3.fit, h3.nc, fun k hk => (h3.el k hk).keep fun c hc => key c (getElem_mem_flatten _ hc), h3.sz, h3.cell⟩, fun c hc hrt => h4 c hc ((hroot c).1 hrt), fun _ => h5'⟩
  · rw [hlive] at hi
    have := hr.base i b d hi hb
    exact ⟨this.1, Nat.lt_of_lt_of_le this.2 hk.size⟩

end
end Go.Proofs.Ytdkjeodenbffnaa
