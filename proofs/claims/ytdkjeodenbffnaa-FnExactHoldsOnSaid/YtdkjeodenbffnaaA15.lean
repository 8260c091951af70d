/- Abstract states: what a callee is told and what it hands back. Over any program; no conditions. -/
import Derived.Test.YtdkjeodenbffnaaA14
namespace Go.Proofs.Ytdkjeodenbffnaa
open Go.RowKit
open Shp

/-! ### What a callee is told -/

def viewL (f : PV → Option GV) : List PV → Option (List GV)
  | [] => some []
  | p :: ps => match f p, viewL f ps with
    | some x, some xs => some (x :: xs)
    | _, _ => none

def view (h : Nat → Block) : Nat → PV → Option GV
  | 0, _ => none
  | n + 1, p => match p with
    | .g v => some v
    | .nils e => if 0 < e then some (.sl e []) else none
    | .own id lo len => match h id with
      | .arr e _ xs => if lo + len ≤ xs.length then some (.sl e ((xs.drop lo).take len)) else none
      | _ => none
    | .ptr id 0 => match h id with
      | .box cs => match viewL (view h n) cs with
        | some gs => if gs.all (fun x => x.ncells == 1) then some (.box gs) else none
        | none => none
      | _ => none
    | .agg cs => match viewL (view h n) cs with
      | some gs => if gs.all (fun x => x.ncells == 1) then some (.agg gs) else none
      | none => none
    | .fn f cs => match viewL (view h n) cs with
      | some gs => some (.fn f gs)
      | none => none
    | _ => none

theorem viewL_ok {w : World} {μ : Lay} {h : Nat → Block} {f : PV → Option GV} (hf : ∀ {v p x}, PRep w μ h v p → f p = some x → ∃ F, GRep w F v x) : ∀ (ps : List PV) (vs : List Value) (hl : vs.length = ps.length), (∀ i (hi : i < ps.length), PRep w μ h (vs[i]'(hl ▸ hi)) ps[i]) → ∀ {gs}, viewL f ps = some gs →
    ∃ Fs : List (List Nat), ∃ (hv : vs.length = gs.length) (hF : Fs.length = gs.length), ∀ i (hi : i < gs.length), GRep w (Fs[i]'(hF ▸ hi)) (vs[i]'(hv ▸ hi)) gs[i]
  | [], vs, hl, _, gs, hx => by
    simp [viewL] at hx; subst hx
    exact ⟨[], by simpa using hl, rfl, by intro i hi; simp at hi⟩
  | p :: ps, vs, hl, hp, gs, hx => by
    cases vs with
    | nil => simp at hl
    | cons v vs =>
      unfold viewL at hx
      split at hx
      · rename_i x xs e1 e2
        simp only [Option.some.injEq] at hx
        subst hx
        obtain ⟨F, hg⟩ := hf (hp 0 (by simp)) e1
        obtain ⟨Fs, hv, hF, hg2⟩ := viewL_ok hf ps vs (by simpa using hl) (fun i hi => hp (i + 1) (by simpa using hi)) e2
        refine ⟨F :: Fs, by simpa using hv, by simpa using hF, fun i hi => ?_⟩
        cases i with
        | zero => exact hg
        | succ i => exact hg2 i (by simpa using hi)
      · cases hx

theorem view_ok {w0 : World} {S : AState} {a : Act} {w : World} {μ : Lay} {who : Nat → Option Nat} (h : RelAt w0 S a w μ who) : ∀ (n : Nat) {v : Value} {p : PV} {x : GV}, PRep w μ S.heap v p → view S.heap n p = some x → ∃ F, GRep w F v x
  | 0, v, p, x, _, hx => by simp [view] at hx
  | n + 1, v, p, x, hv, hx => by
    have ih := fun {v p x} => view_ok h n (v := v) (p := p) (x := x)
    unfold view at hx
    split at hx
    · simp only [Option.some.injEq] at hx; subst hx
      obtain ⟨F, hg, _⟩ := hv.g_inv
      exact ⟨F, hg⟩
    · split at hx
      · rename_i he
        simp only [Option.some.injEq] at hx; subst hx
        rw [hv.nils_inv.1]
        have := GRep.sl (w := w) none 0 _ [] [] [] rfl rfl he (by simp) (by simp) (by simp) (by simp) (by simp) (by intro k hk; simp at hk) (by intro k hk; simp at hk)
        exact ⟨[], by simpa [Shp.own] using this⟩
      · cases hx
    · split at hx
      · rename_i e dp xs hid
        split at hx
        · rename_i hle
          simp only [Option.some.injEq] at hx; subst hx
          obtain ⟨F, hg, _⟩ := h.view hid (hv.own_inv.2.2 _ _ _ hid) hle
          exact ⟨F, hg⟩
        · cases hx
      · cases hx
    · split at hx
      · rename_i cs hid
        split at hx
        · rename_i gs hgs
          split at hx
          · rename_i hall
            simp only [Option.some.injEq] at hx; subst hx
            obtain ⟨b, hμ, rfl⟩ := hv.ptr_inv.2.2 _ hid
            obtain ⟨b', vs, t', q1, q2, q3, q4, q5, q6⟩ := box_cells h hid
            rw [hμ] at q1; simp at q1; subst q1
            obtain ⟨Fs, hl, hF, hg⟩ := viewL_ok ih cs vs.toList (by simpa using q3) (fun i hi => by have := q5 i hi; rw [getD_lt (by omega)] at this; simpa using this) hgs
            exact ⟨_, .box b vs.toList gs Fs (lt_of_heap q2) hl hF q4 (by simpa using hall) (fun i hi => by rw [q6]; simp at hi; simp [hi]) hg⟩
          · cases hx
        · cases hx
      · cases hx
    · rename_i cs
      split at hx
      · rename_i gs hgs
        split at hx
        · rename_i hall
          simp only [Option.some.injEq] at hx; subst hx
          obtain ⟨vs, rfl, hl, h1, h2⟩ := hv.agg_inv
          obtain ⟨Fs, hl', hF, hg⟩ := viewL_ok ih cs vs hl h2 hgs
          exact ⟨_, .agg vs gs Fs hl' hF h1 (by simpa using hall) hg⟩
        · cases hx
      · cases hx
    · rename_i f cs
      split at hx
      · rename_i gs hgs
        simp only [Option.some.injEq] at hx; subst hx
        obtain ⟨vs, rfl, hl, h2⟩ := hv.fn_inv
        obtain ⟨Fs, hl', hF, hg⟩ := viewL_ok ih cs vs hl h2 hgs
        exact ⟨_, .fn f vs gs Fs hl' hF hg⟩
      · cases hx
    · cases hx

/-! ### What it hands back -/

/-- The slices at the head of a result own the cells up to their capacity. -/
inductive Top (w : World) : Value → GV → Prop
  | atom (x : GV) : x.atom = true → Top w (ofAtom x) x
  | nil (a : Option Addr) (e : Nat) (xs : List GV) : Top w (.slice a 0 0) (.sl e xs)
  | sl (b o len cap e : Nat) (xs : List GV) (vs : Array Value) (t : TypeId) : w.heap[b]? = some (.cells vs t (0, 0)) → o + cap * e ≤ vs.size → Top w (.slice (some ⟨b, o, none⟩) len cap) (.sl e xs)
  | agg (vs : List Value) (gs : List GV) (hl : vs.length = gs.length) (h : ∀ i (hi : i < gs.length), Top w (vs[i]'(hl ▸ hi)) gs[i]) : Top w (.agg vs.toArray) (.agg gs)
  | tup (vs : List Value) (gs : List GV) (hl : vs.length = gs.length) (h : ∀ i (hi : i < gs.length), Top w (vs[i]'(hl ▸ hi)) gs[i]) : Top w (.tuple vs.toArray) (.tup gs)

/-- A call's result: this data, in new memory of its own; nothing that was there has changed. -/
def Gives (w : World) (r : GV) (e : Ending) (w' : World) : Prop := ∃ v F, e = .returned v ∧ GRep w' F v r ∧ Top w' v r ∧ F.Nodup ∧ (∀ b ∈ F, w.heap.size ≤ b) ∧ Keeps [] w w'

/-- A function's contract: at these data it hands back this. -/
structure Con (P : Program) (f : FuncId) (gs : List GV) (r : GV) : Prop where
  enter : ∀ args w, (callFunc f args).run P w = .ok (.enter f args) w
  calls : ∀ w (args : List Value) (hl : args.length = gs.length), (∀ i (hi : i < gs.length), ∃ F, GRep w F (args[i]'(hl ▸ hi)) gs[i]) → Calls P f args.toArray w (Gives w r)

def GV.leaf : GV → Bool
  | .sl .. => true
  | v => v.atom

def thawB : GV → Option Block
  | .sl e xs => some (.arr e true xs)
  | _ => none

def thawP (k : Nat) : GV → PV
  | .sl _ xs => .own k 0 xs.length
  | v => .g v

theorem leaf_atom {x : GV} (h : x.leaf = true) (hB : thawB x = none) (k : Nat) : x.atom = true ∧ thawP k x = .g x := by
  cases x <;> first | exact ⟨h, rfl⟩ | cases hB

def thawW (k : Nat) : List GV → List (Nat × Block)
  | [] => []
  | x :: xs => (match thawB x with | some b => [(k, b)] | none => []) ++ thawW (k + 1) xs

theorem writesH_app (h : Nat → Block) (ws vs : List (Nat × Block)) : writesH h (ws ++ vs) = writesH (writesH h ws) vs := by
  induction ws generalizing h with
  | nil => rfl
  | cons k ws ih => obtain ⟨id, b⟩ := k; exact ih _

theorem thawW_at : ∀ (gs : List GV) (k : Nat) (h : Nat → Block) (id : Nat), writesH h (thawW k gs) id = if hc : k ≤ id ∧ id < k + gs.length then ((thawB (gs[id - k]'(by omega))).getD (h id)) else h id
  | [], k, h, id => by simp [thawW, writesH]; omega
  | x :: xs, k, h, id => by
    unfold thawW
    rw [writesH_app, thawW_at xs (k + 1)]
    have hh : ∀ j, writesH h (match thawB x with | some b => [(k, b)] | none => []) j = if j = k then (thawB x).getD (h j) else h j := by
      intro j
      cases thawB x <;> simp [writesH, upd]
    by_cases e : id = k
    · subst e
      rw [dif_neg (by omega), dif_pos (by simp), hh]
      simp
    · by_cases hc : k + 1 ≤ id ∧ id < k + 1 + xs.length
      · rw [dif_pos hc, dif_pos (by simp; omega), hh, if_neg e]
        have : (x :: xs)[id - k]'(by simp; omega) = xs[id - (k + 1)]'(by omega) := by
          have e2 : id - k = (id - (k + 1)) + 1 := by omega
          simp [e2]
        rw [this]
      · rw [dif_neg hc, dif_neg (by simp; omega), hh, if_neg e]

def layOf : Value → Option (Nat × Nat)
  | .slice (some p) _ cap => if 0 < cap then some (p.block, p.off) else none
  | _ => none

set_option maxHeartbeats 1000000 in
theorem thaw_ok {w0 : World} {S : AState} {a : Act} {w w' : World} {μ : Lay} {who : Nat → Option Nat} (h : RelAt w0 S a w μ who) (hk : Keeps [] w w') (k : Nat) (vs : List Value) (gs : List GV) (Fs : List (List Nat)) (hv : vs.length = gs.length) (hF : Fs.length = gs.length) (hfree : ∀ i, i < gs.length → S.heap (k + i) = .free)
    (hg : ∀ i (hi : i < gs.length), GRep w' (Fs[i]'(hF ▸ hi)) (vs[i]'(hv ▸ hi)) gs[i]) (ht : ∀ i (hi : i < gs.length), Top w' (vs[i]'(hv ▸ hi)) gs[i]) (hlf : ∀ x ∈ gs, x.leaf = true) (hnd : Fs.flatten.Nodup) (hnew : ∀ b ∈ Fs.flatten, w.heap.size ≤ b) :
    ∃ μ' who', RelAt w0 (S.writes (thawW k gs)) a w' μ' who' ∧ ∀ i (hi : i < gs.length), PRep w' μ' (S.writes (thawW k gs)).heap (vs[i]'(hv ▸ hi)) (thawP (k + i) gs[i]) := by
  classical
  -- which leaf a block belongs to
  have huniq : ∀ i j (hi : i < Fs.length) (hj : j < Fs.length) b, b ∈ Fs[i] → b ∈ Fs[j] → i = j := by
    intro i j hi hj b hbi hbj
    apply Classical.byContradiction
    intro hne
    have key : ∀ (Fs : List (List Nat)), Fs.flatten.Nodup → ∀ i j (hi : i < Fs.length) (hj : j < Fs.length), i < j → b ∈ Fs[i] → b ∈ Fs[j] → False := by
      intro Fs
      induction Fs with
      | nil => intro _ i j hi; simp at hi
      | cons F Fs ih =>
        intro hn i j hi hj hij h1 h2
        rw [List.flatten_cons] at hn
        have hn' := List.nodup_append.1 hn
        cases j with
        | zero => omega
        | succ j =>
          cases i with
          | zero => exact hn'.2.2 b h1 b (getElem_mem_flatten (by simpa using hj) (by simpa using h2)) rfl
          | succ i => exact ih hn'.2.1 i j (by simpa using hi) (by simpa using hj) (by omega) (by simpa using h1) (by simpa using h2)
    rcases Nat.lt_or_ge i j with h1 | h1
    · exact key Fs hnd i j hi hj h1 hbi hbj
    · exact key Fs hnd j i hj hi (by omega) hbj hbi
  let μ' : Lay := fun id => if hc : k ≤ id ∧ id < k + gs.length then (if (thawB (gs[id - k]'(by omega))).isSome then layOf (vs[id - k]'(by omega)) else μ id) else μ id
  let who' : Nat → Option Nat := fun b => if hc : ∃ i, ∃ hi : i < Fs.length, b ∈ Fs[i] then some (k + hc.choose) else who b
  have hwho : ∀ i (hi : i < Fs.length) b, b ∈ Fs[i] → who' b = some (k + i) := by
    intro i hi b hb
    have hc : ∃ i, ∃ hi : i < Fs.length, b ∈ Fs[i] := ⟨i, hi, hb⟩
    simp only [who', dif_pos hc]
    obtain ⟨hi2, hb2⟩ := hc.choose_spec
    rw [huniq _ i hi2 hi b hb2 hb]
  have hheap : ∀ id, (S.writes (thawW k gs)).heap id = if hc : k ≤ id ∧ id < k + gs.length then ((thawB (gs[id - k]'(by omega))).getD (S.heap id)) else S.heap id := fun id => thawW_at gs k S.heap id
  have hout : ∀ id, ¬ (k ≤ id ∧ id < k + gs.length) → (S.writes (thawW k gs)).heap id = S.heap id ∧ μ' id = μ id := fun id hc => ⟨by rw [hheap, dif_neg hc], by simp only [μ', dif_neg hc]⟩
  have hin : ∀ i (hi : i < gs.length), (S.writes (thawW k gs)).heap (k + i) = (thawB gs[i]).getD .free ∧ ((thawB gs[i]).isSome → μ' (k + i) = layOf (vs[i]'(hv ▸ hi))) := fun i hi => by
    have hc : k ≤ k + i ∧ k + i < k + gs.length := by omega
    have e : k + i - k = i := by omega
    refine ⟨?_, fun hs => ?_⟩
    · rw [hheap, dif_pos hc]
      simp only [e]
      rw [hfree i hi]
    · simp only [μ', dif_pos hc, e]
      rw [if_pos hs]
  have hidx : ∀ id, (k ≤ id ∧ id < k + gs.length) → ∃ i, ∃ hi : i < gs.length, id = k + i := fun id hc => ⟨id - k, by omega, by omega⟩
  -- a leaf that is a slice
  have hsl : ∀ i (hi : i < gs.length) B, thawB gs[i] = some B → ∃ e xs ad cap els Gs, gs[i] = .sl e xs ∧ B = .arr e true xs ∧ vs[i]'(hv ▸ hi) = .slice ad xs.length cap ∧ Fs[i]'(hF ▸ hi) = own ad cap ++ Gs.flatten ∧ SlAt w' ad xs.length cap e els xs Gs ∧ (cap = 0 → layOf (vs[i]'(hv ▸ hi)) = none) ∧
      ∀ p, ad = some p → 0 < cap → p = ⟨p.block, p.off, none⟩ ∧ layOf (vs[i]'(hv ▸ hi)) = some (p.block, p.off) ∧ ∃ ws t, w'.heap[p.block]? = some (.cells ws t (0, 0)) ∧ p.off + cap * e ≤ ws.size := by
    intro i hi B hB
    cases hx : gs[i] <;> simp [hx, thawB] at hB
    rename_i e xs
    subst hB
    have h1 := hg i hi
    have h2 := ht i hi
    rw [hx] at h1 h2
    obtain ⟨ad, cap, els, Gs, e1, e2, hs⟩ := h1.slice
    refine ⟨e, xs, ad, cap, els, Gs, rfl, rfl, e1, e2, hs, ?_, ?_⟩
    · rintro rfl; rw [e1]; cases ad <;> simp [layOf]
    · rintro p rfl hc0
      have hp := hs.ad p rfl hc0
      have e3 : p = ⟨p.block, p.off, none⟩ := by obtain ⟨b, o, s⟩ := p; simp at hp; simp [hp.1]
      refine ⟨e3, by rw [e1]; simp [layOf, hc0], ?_⟩
      rw [e1] at h2
      generalize hq : Value.slice (some p) xs.length cap = q at h2
      cases h2 with
      | atom y hy => simp [GV.atom] at hy
      | nil => simp at hq; omega
      | sl b o len cap' e xs ws t hr hf =>
        simp only [Value.slice.injEq, Option.some.injEq] at hq
        obtain ⟨rfl, _, rfl⟩ := hq
        exact ⟨ws, t, hr, hf⟩
  have hnewroot : ∀ id b d, ((S.writes (thawW k gs)).heap id).live = true → μ' id = some (b, d) → (k ≤ id ∧ id < k + gs.length) → ∃ i, ∃ hi : i < gs.length, id = k + i ∧ b ∈ Fs[i]'(hF ▸ hi) ∧ b < w'.heap.size := by
    intro id b d hl hm hc
    obtain ⟨i, hi, rfl⟩ := hidx id hc
    obtain ⟨q1, q2⟩ := hin i hi
    cases hB : thawB gs[i] with
    | none => rw [q1, hB] at hl; simp [Block.live] at hl
    | some B =>
      obtain ⟨e, xs, ad, cap, els, Gs, _, _, _, e4, hs, hn, hp⟩ := hsl i hi B hB
      rw [q2 (by simp [hB])] at hm
      by_cases hc0 : cap = 0
      · rw [hn hc0] at hm; cases hm
      · cases ad with
        | none => exact absurd (hs.nil rfl) hc0
        | some p =>
          rw [(hp p rfl (by omega)).2.1] at hm
          simp at hm
          refine ⟨i, hi, rfl, by rw [e4, ← hm.1]; exact List.mem_append.2 (.inl (mem_own rfl (by omega))), ?_⟩
          rw [← hm.1]; exact (hs.ad p rfl (by omega)).2
  have hroot : ∀ b, Root μ' (S.writes (thawW k gs)).heap b → Root μ S.heap b ∨ b ∈ Fs.flatten := by
    rintro b ⟨id, d, hl, hm⟩
    by_cases hc : k ≤ id ∧ id < k + gs.length
    · obtain ⟨i, hi, _, hb, _⟩ := hnewroot id b d hl hm hc
      exact .inr (getElem_mem_flatten _ hb)
    · rw [(hout id hc).1] at hl
      rw [(hout id hc).2] at hm
      exact .inl ⟨id, d, hl, hm⟩
  have hm : Move w w' μ μ' S.heap (S.writes (thawW k gs)).heap := by
    have hfr : ∀ i, S.heap i ≠ .free → ¬ (k ≤ i ∧ i < k + gs.length) := fun i hf hc => by
      obtain ⟨j, hj, rfl⟩ := hidx i hc
      exact hf (hfree j hj)
    refine ⟨fun b hb hr => ⟨hk.block b hb (by simp), fun hr' => ?_⟩, fun i b d h1 h2 h3 h4 us t hw => ?_, fun i hi => ?_, fun i e dp xs hf hi => ?_, fun i cs hf hi => ?_⟩
    · rcases hroot b hr' with h5 | h5
      · exact hr h5
      · have := hnew b h5; omega
    · exact ⟨us, by rw [hk.block b (h.base i b d h2 h4).2 (by simp)]; exact hw, rfl⟩
    · by_cases hc : k ≤ i ∧ i < k + gs.length
      · obtain ⟨j, hj, rfl⟩ := hidx i hc; exact hfree j hj
      · rw [(hout i hc).1] at hi; exact hi
    · have hc := hfr i hf
      rw [(hout i hc).1] at hi
      exact ⟨(hout i hc).2, dp, xs, hi⟩
    · have hc := hfr i hf
      rw [(hout i hc).1] at hi
      exact ⟨(hout i hc).2, cs, hi⟩
  refine ⟨μ', who', h.step (List.range' k gs.length) rfl rfl hm (h.keep.trans hk) (fun id hid => ?_) (fun id hid => ?_) (fun b j hlt _ hr hb => ?_) hk.size, fun i hi => ?_⟩
  · have hc : ¬ (k ≤ id ∧ id < k + gs.length) := by simpa [List.mem_range'_1] using hid
    refine ⟨(hout id hc).1, fun hl => ⟨(hout id hc).2, fun b d hb => hk.block b (h.base id b d hl hb).2 (by simp)⟩⟩
  · have hc : k ≤ id ∧ id < k + gs.length := by simpa [List.mem_range'_1] using hid
    obtain ⟨i, hi, rfl⟩ := hidx id hc
    obtain ⟨q1, q2⟩ := hin i hi
    refine ⟨?_, fun hl b d hb => ?_⟩
    · cases hB : thawB gs[i] with
      | none => rw [q1, hB]; trivial
      | some B =>
        obtain ⟨e, xs, ad, cap, els, Gs, _, rfl, _, e4, hs, hn, hp⟩ := hsl i hi B hB
        rw [q1, hB]
        refine ⟨hs.he, ?_⟩
        rw [q2 (by simp [hB])]
        by_cases hc0 : cap = 0
        · rw [hn hc0]
          have := hs.le
          exact List.eq_nil_of_length_eq_zero (by omega)
        · obtain ⟨p, rfl⟩ : ∃ p, ad = some p := by
            cases ad with
            | none => exact absurd (hs.nil rfl) hc0
            | some p => exact ⟨p, rfl⟩
          obtain ⟨e5, e6, ws, t, hrow, hfit⟩ := hp p rfl (by omega)
          rw [e6]
          have hsub : ∀ c ∈ Gs.flatten, c ∈ Fs[i]'(hF ▸ hi) := fun c hc' => by rw [e4]; exact List.mem_append.2 (.inr hc')
          have hle := hs.le
          have hfit2 : xs.length * e ≤ cap * e := Nat.mul_le_mul_right _ hle
          refine ⟨ws, t, Gs, els, hrow, rowRep_new hs.he hs.hv hs.hF hs.sizes (fun v hv' => ?_) hs.nc hs.h (by omega) (fun j hj => ?_), fun c hc' hr => ?_, fun _ => ⟨?_, fun c hc' => ⟨hwho i _ c (hsub c hc'), ?_⟩⟩⟩
          · obtain ⟨j, hj, rfl⟩ := List.getElem_of_mem hv'; exact (hs.hc j hj).2.1
          · have h9 := hs.cells rfl j _ (List.getElem?_eq_getElem hj)
            rw [e5, Addr.add_mid, cell_of_row w' p.block _ _ _ _ hrow] at h9
            rw [h9, List.getElem?_eq_getElem hj]
          · rcases hroot c hr with h9 | h9
            · obtain ⟨j, d', hl', hj'⟩ := h9
              have := (h.base j c d' hl' hj').2
              have := hnew c (getElem_mem_flatten _ (hsub c hc'))
              omega
            · obtain ⟨id2, d2, hl2, hm2⟩ := hr
              by_cases hc2 : k ≤ id2 ∧ id2 < k + gs.length
              · obtain ⟨j, hj, e7, hb7, _⟩ := hnewroot id2 c d2 hl2 hm2 hc2
                have hij := huniq i j (hF ▸ hi) (hF ▸ hj) c (hsub c hc') hb7
                subst hij
                have hm3 := hm2
                rw [e7, q2 (by simp [hB]), e6] at hm3
                simp at hm3
                have hnd2 : (Fs[i]'(hF ▸ hi)).Nodup := by
                  have : (Fs[i]'(hF ▸ hi)).Sublist Fs.flatten := List.sublist_flatten_of_mem (List.getElem_mem _)
                  exact hnd.sublist this
                rw [e4] at hnd2
                exact (List.nodup_append.1 hnd2).2.2 _ (mem_own rfl (by omega)) _ hc' hm3.1
              · rw [(hout id2 hc2).1] at hl2
                rw [(hout id2 hc2).2] at hm2
                have := (h.base id2 c d2 hl2 hm2).2
                have := hnew c (getElem_mem_flatten _ (hsub c hc'))
                omega
          · have hnd2 : (Fs[i]'(hF ▸ hi)).Nodup := hnd.sublist (List.sublist_flatten_of_mem (List.getElem_mem _))
            rw [e4] at hnd2
            exact (List.nodup_append.1 hnd2).2.1
          · exact Nat.le_trans h.keep.size (hnew c (getElem_mem_flatten _ (hsub c hc')))
    · obtain ⟨i2, hi2, e7, hb9, hlt⟩ := hnewroot (k + i) b d hl hb hc
      have : i2 = i := by omega
      subst this
      have hge := hnew b (getElem_mem_flatten _ hb9)
      refine ⟨fun j d' hj hlj hj' => ?_, fun j d' hj hlj hj' => ?_, Nat.le_trans h.keep.size hge, hlt⟩
      · have := (h.base j b d' hlj hj').2; omega
      · have hcj : k ≤ j ∧ j < k + gs.length := by simpa [List.mem_range'_1] using hj
        obtain ⟨i3, hi3, rfl, hb3, _⟩ := hnewroot j b d' hlj hj' hcj
        rw [huniq i2 i3 (hF ▸ hi2) (hF ▸ hi3) b hb9 hb3]
  · have hne : ¬ ∃ i, ∃ hi : i < Fs.length, b ∈ Fs[i] := by
      rintro ⟨i, hi, hb'⟩
      have := hnew b (getElem_mem_flatten _ hb'); omega
    simp only [who', dif_neg hne]
    exact hb
  · cases hB : thawB gs[i] with
    | none =>
      obtain ⟨hat, e8⟩ := leaf_atom (hlf _ (List.getElem_mem hi)) hB (k + i)
      rw [e8]
      refine .g _ _ _ (hg i hi) ?_
      rw [(hg i hi).of_atom hat]; simp
    | some B =>
      obtain ⟨e, xs, ad, cap, els, Gs, e0, e1, e2, e4, hs, hn, hp⟩ := hsl i hi B hB
      have e8 : thawP (k + i) gs[i] = .own (k + i) 0 xs.length := by rw [e0]; rfl
      obtain ⟨q1, q2⟩ := hin i hi
      rw [e8, e2]
      refine .own _ _ _ _ rfl (by rw [q1, hB, e1]; simp) fun e' dp' xs' hx => ?_
      rw [q1, hB, e1] at hx
      simp only [Option.getD_some, Block.arr.injEq] at hx
      obtain ⟨rfl, _, rfl⟩ := hx
      unfold OwnAt
      rw [q2 (by simp [hB])]
      by_cases hc0 : cap = 0
      · rw [hn hc0]
        have := hs.le
        have h0 : xs.length = 0 := by omega
        rw [h0, hc0]; exact ⟨⟨ad, rfl⟩, rfl, rfl⟩
      · obtain ⟨p, rfl⟩ : ∃ p, ad = some p := by
          cases ad with
          | none => exact absurd (hs.nil rfl) hc0
          | some p => exact ⟨p, rfl⟩
        obtain ⟨e5, e6, ws, t, hrow, hfit⟩ := hp p rfl (by omega)
        rw [e6]
        refine ⟨cap, p.off, by rw [← e5], hs.le, hs.max, ws, t, hrow, fun _ => by simp, hfit⟩

end Go.Proofs.Ytdkjeodenbffnaa
