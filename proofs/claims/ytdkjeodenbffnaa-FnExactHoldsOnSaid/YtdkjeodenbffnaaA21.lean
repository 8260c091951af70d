/- Abstract states: contracts out of triples; states forgotten and renamed. Over any program; the table is right ('TabOk'). -/
import Derived.Test.YtdkjeodenbffnaaA20
namespace Go.Proofs.Ytdkjeodenbffnaa
open Go.RowKit
open Shp

/-! ### The end of a call -/

def resL (tab : Tab) (S : AState) : List ResultVar → Option (List PV)
  | [] => some []
  | .tmp t :: rs => match resL tab S rs with
    | some ps => some (S.slots t :: ps)
    | none => none
  | .cell a t :: rs => match aLoad tab S.heap t (S.slots a), resL tab S rs with
    | some (p, _), some ps => some (p :: ps)
    | _, _ => none

theorem run_loadVar {P : Program} {t : TypeId} {u v : Value} {w : World} (h : (Instr.loadAt t u).run P w = .ok v w) : (do loadVar t (← asAddr u) : Sem Value).run P w = .ok v w := by
  cases u with
  | pointer a =>
    cases a with
    | none => simp [Instr.loadAt, Instr.sureAddr] at h
    | some p => simpa [Instr.loadAt, Instr.sureAddr, asAddr] using h
  | _ => simp [Instr.loadAt, Instr.sureAddr] at h

/-- One result. -/
def resVal (tmps : Array Value) : ResultVar → Sem Value
  | .tmp t => Pure.pure (tmps.getD t Go.undef)
  | .cell x t => do loadVar t (← asAddr (tmps.getD x Go.undef))

theorem resL_ok {P : Program} {tab : Tab} (ht : TabOk P tab) {w0 : World} {S : AState} {a : Act} {w : World} {μ : Lay} {who : Nat → Option Nat} (h : RelAt w0 S a w μ who) : ∀ (rs : List ResultVar) {ps : List PV}, resL tab S rs = some ps →
    ∃ (vs : List Value) (hl : vs.length = ps.length), (rs.mapM (resVal a.tmps)).run P w = Result.ok vs w ∧ ∀ i (hi : i < ps.length), PRep w μ S.heap (vs[i]'(hl ▸ hi)) ps[i]
  | [], ps, hx => by
    simp [resL] at hx; subst hx
    exact ⟨[], rfl, by simp, by intro i hi; simp at hi⟩
  | .tmp t :: rs, ps, hx => by
    unfold resL at hx
    split at hx
    · rename_i ps' hps
      simp only [Option.some.injEq] at hx
      subst hx
      obtain ⟨vs, hl, h1, h2⟩ := resL_ok ht h rs hps
      refine ⟨a.tmps.getD t Go.undef :: vs, by simpa using hl, by simp [List.mapM_cons, resVal, h1], fun i hi => ?_⟩
      cases i with
      | zero => exact h.slot t
      | succ i => exact h2 i (by simpa using hi)
    · cases hx
  | .cell x t :: rs, ps, hx => by
    unfold resL at hx
    split at hx
    · rename_i p ws ps' hp hps
      simp only [Option.some.injEq] at hx
      subst hx
      obtain ⟨vs, hl, h1, h2⟩ := resL_ok ht h rs hps
      obtain ⟨_, v, hr, hv⟩ := load_run (P := P) ht h (h.slot x) hp
      have hr' := run_loadVar hr
      refine ⟨v :: vs, by simpa using hl, by simp only [List.mapM_cons, Sem.run_bind, show (resVal a.tmps (.cell x t)).run P w = .ok v w from hr', Result.andThen_ok, h1, Sem.run_pure], fun i hi => ?_⟩
      cases i with
      | zero => exact hv
      | succ i => exact h2 i (by simpa using hi)
    · cases hx

theorem killL_arr {h : Nat → Block} {ks : List Nat} {id : Nat} {B : Block} (e : killL h ks id = B) (hB : B.live = true) : h id = B := by
  induction ks generalizing h with
  | nil => exact e
  | cons k ks ih =>
    have := ih e
    unfold upd at this
    split at this
    · subst this; cases hB
    · exact this

theorem top_absorb {w : World} {μ : Lay} {h h' : Nat → Block} (hh : ∀ id e dp xs, h' id = .arr e dp xs → h id = .arr e dp xs) {v : Value} {p : PV} (hv : PRep w μ h v p) {x : GV} {ks : List Nat} (hx : absorb h' p = some (x, ks, true)) : Top w v x := by
  cases p with
  | g y =>
    simp only [absorb, Option.some.injEq, Prod.mk.injEq] at hx
    obtain ⟨rfl, _, hf⟩ := hx
    obtain ⟨F, hg, _⟩ := hv.g_inv
    by_cases ha : y.atom = true
    · cases hg with
      | atom x hx => exact .atom _ hx
      | fn | agg | tup | box | sl => simp [GV.atom] at ha
    · cases y <;> simp [GV.flat, GV.atom] at hf ha
      rename_i cs
      obtain ⟨vs, Fs, rfl, rfl, h1, hl, hF, hh⟩ := hg.agg_inv
      refine .agg vs cs hl fun i hi => ?_
      have hai : (cs[i]).atom = true := by have := hf _ (List.getElem_mem hi); simpa [GV.atom] using this
      have hgi := hh i hi
      generalize cs[i] = c at *
      generalize vs[i]'(hl ▸ hi) = u at *
      generalize Fs[i]'(hF ▸ hi) = G at hgi
      cases hgi with
      | atom x hx => exact .atom _ hx
      | fn | agg | tup | box | sl => simp [GV.atom] at hai
  | nils e =>
    simp only [absorb] at hx
    split at hx
    · simp only [Option.some.injEq, Prod.mk.injEq] at hx
      obtain ⟨rfl, _⟩ := hx
      rw [hv.nils_inv.1]; exact .nil _ _ _
    · cases hx
  | own id lo len =>
    simp only [absorb] at hx
    split at hx
    · rename_i e dp xs hid
      split at hx
      · simp only [Option.some.injEq, Prod.mk.injEq] at hx
        obtain ⟨rfl, _⟩ := hx
        have hoa := hv.own_inv.2.2 _ _ _ (hh _ _ _ _ hid)
        unfold OwnAt at hoa
        split at hoa
        · obtain ⟨cap, o, rfl, _, _, vs, t, hrow, _, hfit⟩ := hoa
          exact .sl _ _ _ _ _ _ vs t hrow hfit
        · obtain ⟨⟨ad0, e0⟩, _, e2⟩ := hoa; rw [e0, e2]; exact .nil _ _ _
      · cases hx
    · cases hx
  | _ => simp [absorb] at hx

theorem absL_top {f : (Nat → Block) → PV → Option (GV × List Nat × Bool)} {w : World} {μ : Lay} {h : Nat → Block} (hf : ∀ {h' : Nat → Block}, (∀ id e dp xs, h' id = .arr e dp xs → h id = .arr e dp xs) → ∀ {v p x ks}, PRep w μ h v p → f h' p = some (x, ks, true) → Top w v x) :
    ∀ (ps : List PV) (h' : Nat → Block), (∀ id e dp xs, h' id = .arr e dp xs → h id = .arr e dp xs) → ∀ (vs : List Value) (hl : vs.length = ps.length), (∀ i (hi : i < ps.length), PRep w μ h (vs[i]'(hl ▸ hi)) ps[i]) → ∀ {gs ks}, absL f h' ps = some (gs, ks, true) → ∃ hg : vs.length = gs.length, ∀ i (hi : i < gs.length), Top w (vs[i]'(hg ▸ hi)) gs[i]
  | [], h', hh, vs, hl, _, gs, ks, hx => by
    simp only [absL, Option.some.injEq, Prod.mk.injEq] at hx
    obtain ⟨rfl, _⟩ := hx
    exact ⟨by simpa using hl, by intro i hi; simp at hi⟩
  | p :: ps, h', hh, vs, hl, hp, gs, ks, hx => by
    cases vs with
    | nil => simp at hl
    | cons v vs =>
      unfold absL at hx
      cases h1 : f h' p with
      | none => simp [h1] at hx
      | some r =>
        obtain ⟨x, k, d1⟩ := r
        simp only [h1] at hx
        cases h2 : absL f (killL h' k) ps with
        | none => simp [h2] at hx
        | some r =>
          obtain ⟨xs, ks', d2⟩ := r
          simp only [h2, Option.some.injEq, Prod.mk.injEq, Bool.and_eq_true] at hx
          obtain ⟨rfl, _, rfl, rfl⟩ := hx
          have ht := hf hh (hp 0 (by simp)) h1
          obtain ⟨hg, h3⟩ := absL_top hf ps (killL h' k) (fun id e dp xs hid => hh id e dp xs (killL_arr hid rfl)) vs (by simpa using hl) (fun i hi => hp (i + 1) (by simpa using hi)) h2
          refine ⟨by simpa using hg, fun i hi => ?_⟩
          cases i with
          | zero => exact ht
          | succ i => exact h3 i (by simpa using hi)

theorem top_absE {w : World} {μ : Lay} {h h' : Nat → Block} (hh : ∀ id e dp xs, h' id = .arr e dp xs → h id = .arr e dp xs) {v : Value} {p : PV} (hv : PRep w μ h v p) {x : GV} {ks : List Nat} (hx : absE h' p = some (x, ks, true)) : Top w v x := by
  cases p with
  | agg cs =>
    obtain ⟨vs, rfl, hl, h1, h2⟩ := hv.agg_inv
    simp only [absE] at hx
    cases h3 : absL absorb h' cs with
    | none => simp [h3] at hx
    | some r =>
      obtain ⟨gs, ks', d⟩ := r
      simp only [h3] at hx
      split at hx
      · simp only [Option.some.injEq, Prod.mk.injEq] at hx
        obtain ⟨rfl, _, rfl⟩ := hx
        obtain ⟨hg, h4⟩ := absL_top (w := w) (μ := μ) (h := h) (fun {h'} hh {v p x ks} hv hx => top_absorb hh hv hx) cs h' hh vs hl h2 h3
        exact .agg vs gs hg h4
      · cases hx
  | _ => exact top_absorb hh hv hx

/-- What a state hands back. -/
def outR (tab : Tab) (S : AState) (rs : List ResultVar) : Option GV :=
  match resL tab S rs with
  | some ps => match absL absE S.heap ps with
    | some ([x], _, true) => if x.isTup then none else some x
    | some (gs, _, true) => some (.tup gs)
    | _ => none
  | none => none

def startA (n : Nat) (gs : List GV) : AState := { n := n, slots := fun t => match gs[t]? with | some x => .g x | none => .none_, heap := fun _ => .free, nx := 0 }

/-- The call's end: it hands back this. -/
def EndR (tab : Tab) (rs : List ResultVar) (r : GV) : Exit → AState → Prop
  | .normal, S => outR tab S rs = some r
  | .ret, S => outR tab S rs = some r
  | _, _ => False

theorem out_ok {P : Program} {tab : Tab} (ht : TabOk P tab) {fn : Func} {w0 : World} {S : AState} {a : Act} {w : World} {μ : Lay} {who : Nat → Option Nat} (h : RelAt w0 S a w μ who) {r : GV} (hr : outR tab S fn.results.toList = some r) : ∃ v, (results fn a.tmps).run P w = .ok v w ∧ Gives w0 r (.returned v) w := by
  unfold outR at hr
  cases h1 : resL tab S fn.results.toList with
  | none => simp [h1] at hr
  | some ps =>
    simp only [h1] at hr
    obtain ⟨vs, hl, hrun, hp⟩ := resL_ok ht h _ h1
    cases h2 : absL absE S.heap ps with
    | none => simp [h2] at hr
    | some x =>
      obtain ⟨gs, ks, d⟩ := x
      have hd : d = true := by
        cases d with
        | true => rfl
        | false => rw [h2] at hr; simp at hr
      subst hd
      obtain ⟨hk1, hk2⟩ := absL_ok absE_ok (nid := ks.foldl max 0 + 1) ps h vs hl hp h2
      have hnk : ks.foldl max 0 + 1 ∉ ks := by
        intro hm
        have key : ∀ (l : List Nat) (m x : Nat), x ∈ l ∨ x ≤ m → x ≤ l.foldl max m := by
          intro l
          induction l with
          | nil => intro m x hx; simpa using hx
          | cons y l ihl =>
            intro m x hx
            simp only [List.foldl_cons]
            refine ihl (max m y) x ?_
            rcases hx with hx | hx
            · rcases List.mem_cons.1 hx with rfl | hx
              · exact .inr (Nat.le_max_right _ _)
              · exact .inl hx
            · exact .inr (Nat.le_trans hx (Nat.le_max_left _ _))
        have := key ks 0 _ (.inl hm); omega
      obtain ⟨who', Fs, r1, hg, hF, g1, n1, o1, _, _⟩ := hk2 hnk
      obtain ⟨o2, o3⟩ := o1 rfl
      obtain ⟨_, tops⟩ := absL_top (w := w) (μ := μ) (h := S.heap) (fun {h'} hh {v p x ks} hv hx => top_absE hh hv hx) ps S.heap (fun _ _ _ _ h => h) vs hl hp h2
      have hres : (results fn a.tmps).run P w = .ok (if h : vs.length = 1 then vs[0] else .tuple vs.toArray) w := by
        have e0 : results fn a.tmps = (do let vs ← fn.results.mapM (resVal a.tmps); Pure.pure (if h : vs.size = 1 then vs[0] else .tuple vs)) := rfl
        rw [e0, Array.mapM_eq_mapM_toList]
        simp [hrun]
      refine ⟨_, hres, ?_⟩
      by_cases h3 : vs.length = 1
      · have hgl : gs.length = 1 := by omega
        obtain ⟨x, rfl⟩ : ∃ x, gs = [x] := by
          cases gs with
          | nil => simp at hgl
          | cons x gs => cases gs <;> simp_all
        simp only [h2] at hr
        split at hr
        · cases hr
        · simp only [Option.some.injEq] at hr
          subst hr
          rw [dif_pos h3]
          have hF1 : Fs.flatten = Fs[0]'(by omega) := by
            cases Fs with
            | nil => simp at hF
            | cons F Fs =>
              have : Fs = [] := List.eq_nil_of_length_eq_zero (by simpa using hF)
              subst this; simp
          exact ⟨_, _, rfl, g1 0 (by simp), tops 0 (by simp), by rw [← hF1]; exact o2, fun b hb => (o3 b (by rw [hF1]; exact hb)).2, h.keep⟩
      · rw [dif_neg h3]
        have hr' : r = .tup gs := by
          rw [h2] at hr
          cases gs with
          | nil => simpa using hr.symm
          | cons x gs => cases gs with
            | nil => exact absurd hg h3
            | cons y gs => simpa using hr.symm
        subst hr'
        exact ⟨_, _, rfl, .tup vs gs Fs hg hF g1, .tup vs gs hg tops, o2, fun b hb => (o3 b hb).2, h.keep⟩

theorem start_rel {fn : Func} {gs : List GV} (hn : gs.length ≤ fn.ntmps) (hm : fn.ntmps < 65536) (w : World) (args : List Value) (hl : args.length = gs.length) (hg : ∀ i (hi : i < gs.length), ∃ F, GRep w F (args[i]'(hl ▸ hi)) gs[i]) :
    RelAt w (startA fn.ntmps gs) { tmps := args.toArray ++ Array.replicate (fn.ntmps - args.toArray.size) Go.undef, defers := [] } w (fun _ => none) (fun _ => none) := by
  have hsz : args.toArray.size = gs.length := by simpa using hl
  refine ⟨by simp [startA]; rw [Nat.mod_eq_of_lt hm]; omega, fun t => ?_, rfl, fun id => trivial, fun i j b d d' hi => (by simp [startA, Block.live] at hi), fun i b d hi => (by simp [startA, Block.live] at hi), Keeps.refl _ _, fun t x hp => (by rw [show pinned (startA fn.ntmps gs).n t = false from pinned_lt hm t] at hp; cases hp)⟩
  simp only [startA]
  by_cases hlt : t < gs.length
  · have e1 : gs[t]? = some gs[t] := List.getElem?_eq_getElem hlt
    have e2 : (args.toArray ++ Array.replicate (fn.ntmps - args.toArray.size) Go.undef).getD t Go.undef = args[t]'(by omega) := by
      have h1 : t < (args.toArray ++ Array.replicate (fn.ntmps - args.toArray.size) Go.undef).size := by simp; omega
      rw [getD_lt h1, Array.getElem_append_left (by simp; omega)]
      simp
    rw [e1, e2]
    obtain ⟨F, hF⟩ := hg t hlt
    exact .g _ _ F hF (by rintro b _ ⟨id, d, hl, _⟩; simp [Block.live] at hl)
  · have e1 : gs[t]? = none := List.getElem?_eq_none (by omega)
    have e2 : (args.toArray ++ Array.replicate (fn.ntmps - args.toArray.size) Go.undef).getD t Go.undef = Go.undef := by
      by_cases h1 : t < (args.toArray ++ Array.replicate (fn.ntmps - args.toArray.size) Go.undef).size
      · rw [getD_lt h1, Array.getElem_append_right (by simp; omega)]
        simp
      · simp only [Array.getD, dif_neg h1]
    rw [e1, e2]
    exact .none_

theorem Con_of_T {P : Program} {tab : Tab} (ht : TabOk P tab) {f : FuncId} {fn : Func} {c : Code} (hf : P.funcs[f]? = some fn) (hb : fn.body = some c) (he : ∀ args w, (callFunc f args).run P w = .ok (.enter f args) w) {gs : List GV} {r : GV} (hn : gs.length ≤ fn.ntmps) (hm : fn.ntmps < 65536)
    (h : T P c (startA fn.ntmps gs) (EndR tab fn.results.toList r)) : Con P f gs r := by
  refine ⟨he, fun w args hl hg => calls_of_wp hf hb ?_⟩
  have hrel := start_rel hn hm w args hl hg
  refine wp_mono (h w _ w ⟨_, _, hrel⟩) fun e a' w' ⟨S', h1, μ', who', h2⟩ => ?_
  cases e with
  | normal => obtain ⟨v, q1, q2⟩ := out_ok ht h2 h1; exact ⟨h2.dfr, v, q1, q2⟩
  | ret => obtain ⟨v, q1, q2⟩ := out_ok ht h2 h1; exact ⟨h2.dfr, v, q1, q2⟩
  | exit | goto | panic | outgrown => exact h1.elim

end Go.Proofs.Ytdkjeodenbffnaa
