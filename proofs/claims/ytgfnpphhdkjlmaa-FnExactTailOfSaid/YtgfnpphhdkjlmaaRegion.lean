/- A region that draws its order: operations that yield one value whatever has grown are taken first; the others come in a forced order, with growth allowed between them. No program in sight; no conditions. -/
import Derived.Test.YtgfnpphhdkjlmaaBase
set_option linter.unusedSimpArgs false
set_option linter.unusedVariables false
namespace Go.Proofs.Ytgfnpphhdkjlmaa
open Go.RowKit
section
variable {P : Program} {ops : Array Oper} {md : Region.Mode}
theorem getD_both {listed : Array Bool} {i : Nat} (h : listed.getD i true = false) : listed.getD i false = false := by
  rcases Nat.lt_or_ge i listed.size with h' | h'
  · simp [h'] at h ⊢; exact h
  · simp [Array.getElem?_eq_none h'] at h
theorem keeps_refl_iff {L : List Nat} {w : World} : Keeps L w w ↔ True := ⟨fun _ => trivial, fun _ => Keeps.refl _ _⟩
attribute [go_sem] keeps_refl_iff
def Oper.steadyUpon (P : Program) (w : World) (v : Value) : Result Next → Prop
  | .ok (.value u) w' => Keeps [] w w' ∧ u = v
  | .ok .skip w' => Keeps [] w w' ∧ v = undef
  | .ok (.enter f args) w' => w' = w ∧ Calls P f args w (fun e w'' => e = .returned v ∧ Keeps [] w w'')
  | _ => False
def Oper.steadyAt (P : Program) (o : Oper) (a : Act) (w0 : World) (v : Value) : Prop := ∀ x : After w0, Oper.steadyUpon P x.w v ((execOp a.eval o).run P x.w)
def Oper.steady (P : Program) (o : Oper) (a : Act) (w0 : World) (next : Act → Prop) : Prop := ∃ v, Oper.steadyAt P o a w0 v ∧ next (a.put o.dst v)
attribute [go_sem] Oper.steady Oper.steadyAt Oper.steadyUpon
def wpHead (P : Program) (ops : Array Oper) (w0 : World) (Q : Act → Prop) : List Oper → Act → Prop
  | [], a => Q a
  | o :: rest, a => if Region.wanted o (yielded ops a.tmps) then Oper.steady P o a w0 (wpHead P ops w0 Q rest) else wpHead P ops w0 Q rest (a.put o.dst undef)
theorem wpHead_nil {w0 : World} {Q : Act → Prop} {a : Act} (h : Q a) : wpHead P ops w0 Q [] a := h
theorem wpHead_step {w0 : World} {Q : Act → Prop} {a : Act} {o : Oper} {rest : List Oper}
    (h : ∀ K : Act → Prop, (∀ a, wpHead P ops w0 Q rest a → K a) → if Region.wanted o (yielded ops a.tmps) then Oper.steady P o a w0 K else K (a.put o.dst undef)) : wpHead P ops w0 Q (o :: rest) a :=
  h _ (fun _ h => h)
def gOp (P : Program) (ops : Array Oper) (i : Nat) (K : Act → World → Prop) (a : Act) (w : World) : Prop :=
  match ops[i]? with
  | none => K a w
  | some o => if Region.wanted o (yielded ops a.tmps) then o.wp P a w (fun a' w' => Keeps [] w w' ∧ K a' w') (fun _ _ _ => False) else K (a.put o.dst undef) w
def wpAnyG (P : Program) (md : Region.Mode) (ops : Array Oper) (Q : Act → World → Prop) : Nat → Array Bool → Act → World → Prop
  | 0, listed, a, w => ∀ w', Keeps [] w w' → Region.ready md ops listed = [] ∧ Q a w'
  | f + 1, listed, a, w => ∀ w', Keeps [] w w' → (Region.ready md ops listed = [] → Q a w') ∧ ∀ i ∈ Region.ready md ops listed, gOp P ops i (wpAnyG P md ops Q f (listed.setIfInBounds i true)) a w'
variable {Q : Act → World → Prop}
theorem wpAnyG_grow {f : Nat} {listed : Array Bool} {a : Act} {w w' : World} (h : wpAnyG P md ops Q f listed a w) (hk : Keeps [] w w') : wpAnyG P md ops Q f listed a w' := by
  cases f <;> exact fun w'' hk' => h w'' (hk.trans hk')
theorem wp_false {o : Oper} {a : Act} {w : World} {K K' : Act → World → Prop} {Q' : Exit → Act → World → Prop} (h : ∀ a w, K a w → K' a w) (hh : o.wp P a w K (fun _ _ _ => False)) : o.wp P a w K' Q' := by
  unfold Oper.wp at *
  generalize (execOp a.eval o).run P w = r at *
  cases r with
  | ok n w' =>
    cases n <;> simp only [Oper.upon] at hh ⊢
    case value u => exact h _ _ hh
    case skip => exact h _ _ hh
    case defer d => exact h _ _ hh
    case enter f args =>
      refine Calls.mono hh (fun e w'' he => ?_)
      cases e with
      | returned v => exact h _ _ he
      | panicked c => exact he.elim
      | outgrown => obtain ⟨_, _, hf⟩ := he; exact hf.elim
    case row r args => exact Rows.mono hh (fun _ _ he => h _ _ he)
  | halt x w' => cases x <;> simp only [Oper.upon] at hh
theorem wpAny_of_G {Q' : Exit → Act → World → Prop} (hQ : ∀ a w, Q a w → Q' .normal a w) : ∀ (f : Nat) (listed : Array Bool) (a : Act) (w : World), wpAnyG P md ops Q f listed a w → wpAny P md ops Q' f listed a w
  | 0, _, _, w, h => ⟨(h w (Keeps.refl _ _)).1, hQ _ _ (h w (Keeps.refl _ _)).2⟩
  | f + 1, listed, a, w, h => by
    obtain ⟨h1, h2⟩ := h w (Keeps.refl _ _)
    refine ⟨fun h0 => hQ _ _ (h1 h0), fun i hi => ?_⟩
    have h3 := h2 i hi
    unfold gOp at h3
    unfold wpOp
    split
    · rename_i ho; simp only [ho] at h3; exact wpAny_of_G hQ f _ _ _ h3
    · rename_i o ho
      simp only [ho] at h3
      split
      · rename_i hw; simp only [hw, if_true] at h3; exact .inl (wp_false (fun a' w' h' => wpAny_of_G hQ f _ _ _ h'.2) h3)
      · rename_i hw; simp only [hw] at h3; exact wpAny_of_G hQ f _ _ _ h3
def SteadyIn (P : Program) (ops : Array Oper) (o : Oper) (v : Value) (a : Act) (w : World) : Prop :=
  (Region.wanted o (yielded ops a.tmps) = true ∧ Oper.steadyAt P o a w v) ∨ (Region.wanted o (yielded ops a.tmps) = false ∧ v = undef)
theorem SteadyIn.grow {o : Oper} {v : Value} {a : Act} {w w' : World} (h : SteadyIn P ops o v a w) (hk : Keeps [] w w') : SteadyIn P ops o v a w' := by
  rcases h with ⟨h1, h2⟩ | h
  · exact .inl ⟨h1, fun x => h2 ⟨x.w, hk.trans x.k⟩⟩
  · exact .inr h
theorem SteadyIn.of_same {o : Oper} {v : Value} {a a' : Act} {w : World} (hy : SteadyIn P ops o v a w) (he : execOp a'.eval o = execOp a.eval o)
    (hw : Region.wanted o (yielded ops a'.tmps) = Region.wanted o (yielded ops a.tmps)) : SteadyIn P ops o v a' w := by
  unfold SteadyIn Oper.steadyAt at *
  rw [he, hw]
  exact hy
theorem wp_of_steady {o : Oper} {a : Act} {K : Act → World → Prop} {w : World} {v : Value} (h : Oper.steadyAt P o a w v) (hK : ∀ w', Keeps [] w w' → K (a.put o.dst v) w') :
    o.wp P a w (fun a' w' => Keeps [] w w' ∧ K a' w') (fun _ _ _ => False) := by
  have h3 := h ⟨w, Keeps.refl _ _⟩
  simp only at h3
  unfold Oper.wp
  generalize (execOp a.eval o).run P w = r at *
  cases r with
  | ok n w' =>
    cases n <;> simp only [Oper.steadyUpon] at h3 <;> simp only [Oper.upon]
    case value u =>
      obtain ⟨e1, e2⟩ := h3
      subst e2
      exact ⟨e1, hK _ e1⟩
    case skip =>
      obtain ⟨e1, e2⟩ := h3
      subst e2
      exact ⟨e1, hK _ e1⟩
    case enter f args =>
      obtain ⟨e1, hc⟩ := h3
      subst e1
      exact hc.mono fun e w'' ⟨he, hw''⟩ => by subst he; exact ⟨hw'', hK _ hw''⟩
  | halt x w' => simp only [Oper.steadyUpon] at h3
theorem SteadyIn.gOp {i : Nat} {o : Oper} {v : Value} {a : Act} {w : World} (hi : ops[i]? = some o) (hy : SteadyIn P ops o v a w) {K : Act → World → Prop} (h : ∀ w', Keeps [] w w' → K (a.put o.dst v) w') : gOp P ops i K a w := by
  unfold Go.Proofs.Ytgfnpphhdkjlmaa.gOp
  simp only [hi]
  rcases hy with ⟨hw, hv⟩ | ⟨hw, rfl⟩
  · simp only [hw, if_true]; exact wp_of_steady hv h
  · simp only [hw, Bool.false_eq_true, if_false]; exact h w (Keeps.refl _ _)
theorem wp_keep_and {o : Oper} {a : Act} {w : World} {K : Act → World → Prop} {oi : Oper} {dst : Option Tmp} {v : Value} {J : Act → World → Prop}
    (hcomm : ∀ u, (a.put o.dst u).put dst v = (a.put dst v).put o.dst u) (hdef : ∀ d : Deferred, ({ a with defers := d :: a.defers }.put o.dst undef).put dst v = { (a.put dst v) with defers := d :: (a.put dst v).defers }.put o.dst undef)
    (hex : (execOp (a.put dst v).eval o) = execOp a.eval o) (hJ : ∀ u w', Keeps [] w w' → J (a.put o.dst u) w') (hJd : ∀ (d : Deferred) w', Keeps [] w w' → J ({ a with defers := d :: a.defers }.put o.dst undef) w')
    (h : o.wp P (a.put dst v) w (fun a' w' => Keeps [] w w' ∧ K a' w') (fun _ _ _ => False)) : o.wp P a w (fun a' w' => Keeps [] w w' ∧ (J a' w' ∧ K (a'.put dst v) w')) (fun _ _ _ => False) := by
  unfold Oper.wp at *
  rw [hex] at h
  generalize (execOp a.eval o).run P w = r at *
  cases r with
  | ok n w' =>
    cases n <;> simp only [Oper.upon] at h ⊢
    case value u => exact ⟨h.1, hJ _ _ h.1, by rw [hcomm]; exact h.2⟩
    case skip => exact ⟨h.1, hJ _ _ h.1, by rw [hcomm]; exact h.2⟩
    case defer d => exact ⟨h.1, hJd _ _ h.1, by rw [hdef]; exact h.2⟩
    case enter f args =>
      refine Calls.mono h (fun e w'' he => ?_)
      cases e with
      | returned u => exact ⟨he.1, hJ _ _ he.1, by rw [hcomm]; exact he.2⟩
      | panicked c => exact he.elim
      | outgrown => exact he
    case row r args => exact Rows.mono h (fun u w'' he => ⟨he.1, hJ _ _ he.1, by rw [hcomm]; exact he.2⟩)
  | halt x w' => cases x <;> simp only [Oper.upon] at h ⊢
theorem put_defers (a : Act) (dst : Option Tmp) (v : Value) : (a.put dst v).defers = a.defers := by cases dst <;> rfl
theorem put_tmps (a a' : Act) (h : a.tmps = a'.tmps) (dst : Option Tmp) (v : Value) : (a.put dst v).tmps = (a'.put dst v).tmps := by cases dst <;> simp [Act.put, h]
theorem act_ext {a b : Act} (h1 : a.tmps = b.tmps) (h2 : a.defers = b.defers) : a = b := by cases a; cases b; simp_all
theorem eval_tmps {a a' : Act} (h : a.tmps = a'.tmps) : a.eval = a'.eval := by
  funext x; cases x <;> simp [Act.eval, h]
theorem gOp_put {j : Nat} {oi oj : Oper} {v : Value} {w : World} (hj : ops[j]? = some oj) (hap : oi.apart ops oj = true)
    (hsi : ∀ cs b, oi.op ≠ .select cs b) (hsj : ∀ cs b, oj.op ≠ .select cs b) {K : Act → World → Prop} {a : Act}
    (hy : SteadyIn P ops oi v a w) (h : gOp P ops j K (a.put oi.dst v) w) :
    gOp P ops j (fun a' w' => SteadyIn P ops oi v a' w' ∧ K (a'.put oi.dst v) w') a w := by
  obtain ⟨h1, h2, h3⟩ := Oper.apart_spec hap
  have keep : ∀ (a : Act) (w : World), SteadyIn P ops oi v a w → ∀ u, SteadyIn P ops oi v (a.put oj.dst u) w := fun a w hy u =>
    hy.of_same (execOp_put oi hsi a oj.dst u h3) (wanted_put oi a oj.dst u h3)
  unfold gOp at *
  simp only [hj] at *
  rw [wanted_put oj a oi.dst v h1] at h
  split
  · rename_i hw
    simp only [hw, if_true] at h
    refine wp_keep_and (oi := oi) (fun u => (Act.put_comm a v u h2).symm) (fun d => ?_) (execOp_put oj hsj a oi.dst v h1) (fun u w' hk => keep a w' (hy.grow hk) u) (fun d w' hk => ?_) h
    · refine act_ext ?_ ?_
      · have e := congrArg Act.tmps (Act.put_comm a v undef h2)
        exact (put_tmps _ (a.put oj.dst undef) (put_tmps { a with defers := d :: a.defers } a rfl _ _) oi.dst v).trans (e.symm.trans (put_tmps (a.put oi.dst v) { (a.put oi.dst v) with defers := d :: (a.put oi.dst v).defers } rfl _ _))
      · simp [put_defers]
    · refine (keep a w' (hy.grow hk) undef).of_same ?_ ?_
      · rw [eval_tmps (put_tmps { a with defers := d :: a.defers } a rfl oj.dst undef)]
      · rw [put_tmps { a with defers := d :: a.defers } a rfl oj.dst undef]
  · rename_i hw
    simp only [hw] at h
    exact ⟨keep a w hy _, by rw [← Act.put_comm a v undef h2]; exact h⟩
theorem gOp_mono {i : Nat} {a : Act} {w : World} {K K' : Act → World → Prop} (h : ∀ a w, K a w → K' a w) (hh : gOp P ops i K a w) : gOp P ops i K' a w := by
  unfold gOp at *
  split
  · exact h _ _ (by simpa [*] using hh)
  · rename_i o ho
    simp only [ho] at hh
    split
    · rename_i hw; simp only [hw, if_true] at hh; exact Oper.wp_mono (fun a' w' h' => ⟨h'.1, h _ _ h'.2⟩) hh
    · rename_i hw; simp only [hw] at hh; exact h _ _ hh
theorem wpAnyG_first {i : Nat} {oi : Oper} {v : Value} (hi : ops[i]? = some oi) (hsel : ∀ (j : Nat) (o : Oper) cs b, ops[j]? = some o → o.op ≠ .select cs b) :
    ∀ (f : Nat) (listed : Array Bool) (a : Act) (w : World),
      (∀ j oj, ops[j]? = some oj → j ≠ i → listed.getD j true = false → (∀ e ∈ oj.after, Region.binds md e = true → e.on ≠ i) → oi.apart ops oj = true) →
      i ∈ Region.ready md ops listed → SteadyIn P ops oi v a w →
      wpAnyG P md ops Q f (listed.setIfInBounds i true) (a.put oi.dst v) w → wpAnyG P md ops Q (f + 1) listed a w := by
  intro f
  induction f with
  | zero =>
    intro listed a w _ hr hy H w' hk
    refine ⟨fun h => (by rw [h] at hr; cases hr), fun j hj => ?_⟩
    by_cases hji : j = i
    · subst hji; exact (hy.grow hk).gOp hi fun w'' hk' => wpAnyG_grow H (hk.trans hk')
    · have := ready_mono hj hji
      rw [(H w' hk).1] at this
      cases this
  | succ f ih =>
    intro listed a w hfree hr hy H w' hk
    refine ⟨fun h => (by rw [h] at hr; cases hr), fun j hj => ?_⟩
    by_cases hji : j = i
    · subst hji; exact (hy.grow hk).gOp hi fun w'' hk' => wpAnyG_grow H (hk.trans hk')
    · have h1 := (H w' hk).2 j (ready_mono hj hji)
      obtain ⟨hjun, oj, hoj, hall⟩ := mem_ready.1 hj
      have hnot : ∀ e ∈ oj.after, Region.binds md e = true → e.on ≠ i := fun e he hb heq => by
        have h1 := hall e he hb
        have h0 := (mem_ready.1 hr).1
        rw [heq, getD_both h0] at h1
        cases h1
      have h2 := gOp_put hoj (hfree j oj hoj hji hjun hnot) (fun cs b => hsel i oi cs b hi) (fun cs b => hsel j oj cs b hoj) (hy.grow hk) h1
      have hfree' : ∀ k ok, ops[k]? = some ok → k ≠ i → (listed.setIfInBounds j true).getD k true = false →
          (∀ e ∈ ok.after, Region.binds md e = true → e.on ≠ i) → oi.apart ops ok = true := fun k ok hk hki hun hno => by
        refine hfree k ok hk hki ?_ hno
        by_cases hjk : j = k
        · subst hjk; exact hjun
        · rw [getD_set_ne true hjk] at hun; exact hun
      refine gOp_mono (fun a' w'' h3 => ih (listed.setIfInBounds j true) a' w'' hfree' (ready_mono hr (Ne.symm hji)) h3.1 ?_) h2
      rw [Array.setIfInBounds_comm _ _ hji]
      exact h3.2
def pickOps (l : List Oper) : List Nat → List Oper
  | [] => []
  | k :: ks => match l[k]? with
    | some o => o :: pickOps l ks
    | none => pickOps l ks
def headB (md : Region.Mode) (ops : Array Oper) : List Nat → Array Bool → Option (Array Bool)
  | [], listed => some listed
  | k :: ks, listed => if (Region.ready md ops listed).contains k && Region.free md ops listed k && (ops[k]?).isSome then headB md ops ks (listed.setIfInBounds k true) else none
def scriptB (md : Region.Mode) (ops : Array Oper) : List (List Nat × Nat) → List Nat → Array Bool → Bool
  | [], last, listed => match headB md ops last listed with
    | some l => (Region.ready md ops l).isEmpty
    | none => false
  | (hs, k) :: rest, last, listed => match headB md ops hs listed with
    | some l => decide (Region.ready md ops l = [k]) && scriptB md ops rest last (l.setIfInBounds k true)
    | none => false
def wpScript (P : Program) (l : List Oper) (Q : Exit → Act → World → Prop) : List (List Nat × Nat) → List Nat → Act → World → Prop
  | [], last, a, w => wpHead P l.toArray w (fun a' => ∀ w', Keeps [] w w' → Q .normal a' w') (pickOps l last) a
  | (hs, k) :: rest, last, a, w => wpHead P l.toArray w (fun a' => ∀ w', Keeps [] w w' → wpList P l.toArray (fun e a'' w'' => e = .normal ∧ Keeps [] w' w'' ∧ wpScript P l Q rest last a'' w'') (pickOps l [k]) a' w') (pickOps l hs) a
def scriptLen : List (List Nat × Nat) → List Nat → Nat
  | [], last => last.length
  | (hs, _) :: rest, last => hs.length + (scriptLen rest last + 1)
theorem wpHead_G {l : List Oper} (hs : Region.noSelect l.toArray = true) : ∀ (ks : List Nat) (listed listed' : Array Bool) (a : Act) (w : World) (n : Nat) (L : Act → Prop), headB md l.toArray ks listed = some listed' →
    wpHead P l.toArray w L (pickOps l ks) a → (∀ a', L a' → wpAnyG P md l.toArray Q n listed' a' w) → wpAnyG P md l.toArray Q (ks.length + n) listed a w
  | [], listed, listed', a, w, n, L, hB, h, hL => by
    simp only [headB, Option.some.injEq] at hB
    subst hB
    rw [List.length_nil, Nat.zero_add]
    exact hL _ h
  | k :: ks, listed, listed', a, w, n, L, hB, h, hL => by
    unfold headB at hB
    split at hB
    · rename_i hc
      simp only [Bool.and_eq_true] at hc
      obtain ⟨⟨hr, hf⟩, hso⟩ := hc
      obtain ⟨o, ho⟩ := Option.isSome_iff_exists.1 hso
      have ho' : l[k]? = some o := by simpa using ho
      simp only [pickOps, ho'] at h
      rw [List.length_cons, Nat.add_right_comm]
      unfold wpHead at h
      by_cases hw : Region.wanted o (yielded l.toArray a.tmps) = true
      · simp only [hw, if_true] at h
        obtain ⟨v, hv, hn⟩ := h
        exact wpAnyG_first ho (Region.noSelect_spec hs) _ listed a w (Region.free_spec ho hf) (by simpa using hr) (.inl ⟨hw, hv⟩) (wpHead_G hs ks _ listed' _ w n L hB hn hL)
      · simp only [hw] at h
        exact wpAnyG_first ho (Region.noSelect_spec hs) _ listed a w (Region.free_spec ho hf) (by simpa using hr) (.inr ⟨by simpa using hw, rfl⟩) (wpHead_G hs ks _ listed' _ w n L hB h hL)
    · cases hB
theorem gOp_of_list {l : List Oper} {k : Nat} {a : Act} {w : World} {K : Act → World → Prop} (h : wpList P l.toArray (fun e a'' w'' => e = .normal ∧ Keeps [] w w'' ∧ K a'' w'') (pickOps l [k]) a w) (hn : LetsOut (fun (e : Exit) (a'' : Act) (w'' : World) => e = .normal ∧ Keeps [] w w'' ∧ K a'' w'') → False) : gOp P l.toArray k K a w := by
  unfold gOp
  simp only [List.getElem?_toArray]
  cases ho : l[k]? with
  | none => simp only [pickOps, ho, wpList] at h; exact h.2.2
  | some o =>
    simp only [pickOps, ho] at h
    unfold wpList at h
    by_cases hw : Region.wanted o (yielded l.toArray a.tmps) = true
    · simp only [hw, if_true] at h ⊢
      rcases h with h | h
      · unfold Oper.wp at *
        generalize (execOp a.eval o).run P w = r at *
        cases r with
        | ok n w' =>
          cases n <;> simp only [Oper.upon] at h ⊢
          case value u => exact h.2
          case skip => exact h.2
          case defer d => exact h.2
          case enter f args =>
            refine Calls.mono h (fun e w'' he => ?_)
            cases e with
            | returned u => exact he.2
            | panicked c => cases he.1
            | outgrown => exact (hn he).elim
          case row r args => exact Rows.mono h (fun u w'' he => he.2)
        | halt x w' =>
          cases x <;> simp only [Oper.upon] at h ⊢
          cases h.1
      · exact (hn h.2).elim
    · simp only [hw] at h ⊢
      exact h.2.2
theorem not_out {w : World} {K : Act → World → Prop} : LetsOut (fun (e : Exit) (a'' : Act) (w'' : World) => e = .normal ∧ Keeps [] w w'' ∧ K a'' w'') → False := by
  rintro ⟨_, _, h, _⟩; cases h
theorem wpScript_G {l : List Oper} {Q' : Exit → Act → World → Prop} (hs : Region.noSelect l.toArray = true) : ∀ (sc : List (List Nat × Nat)) (last : List Nat) (listed : Array Bool) (a : Act) (w : World),
    scriptB md l.toArray sc last listed = true → wpScript P l Q' sc last a w → wpAnyG P md l.toArray (fun a w => Q' .normal a w) (scriptLen sc last) listed a w
  | [], last, listed, a, w, hB, h => by
    unfold scriptB at hB
    split at hB
    · rename_i l' hl
      have := wpHead_G (Q := fun a w => Q' .normal a w) (n := 0) hs last listed l' a w _ hl h (fun a' ha w' hk => ⟨by simpa using hB, ha w' hk⟩)
      exact this
    · cases hB
  | (hd, k) :: rest, last, listed, a, w, hB, h => by
    unfold scriptB at hB
    split at hB
    · rename_i l' hl
      simp only [Bool.and_eq_true, decide_eq_true_eq] at hB
      refine wpHead_G (n := scriptLen rest last + 1) hs hd listed l' a w _ hl h (fun a' ha w' hk => ⟨fun h0 => (by rw [hB.1] at h0; cases h0), fun i hi => ?_⟩)
      rw [hB.1] at hi
      have hik : i = k := by simpa using hi
      subst hik
      exact gOp_mono (fun a'' w'' h' => wpScript_G hs rest last _ a'' w'' hB.2 h') (gOp_of_list (ha w' hk) not_out)
    · cases hB
theorem wp_region_script {id : Nat} {Q : Exit → Act → World → Prop} {a : Act} {w : World} {l : List Oper} (sc : List (List Nat × Nat)) (last : List Nat) (hm : P.follows .mixedOrders = true)
    (hB : (Region.noSelect l.toArray && decide (scriptLen sc last = l.toArray.size) && scriptB .any l.toArray sc last (Array.replicate l.toArray.size false)) = true)
    (h : ∀ w', Keeps [] w w' → wpScript P l Q sc last a w') : (Code.region id l.toArray true).wp P Q a w := by
  simp only [Bool.and_eq_true, decide_eq_true_eq] at hB
  obtain ⟨⟨h1, h2⟩, h3⟩ := hB
  refine wp_region_any hm ?_
  have := wpAny_of_G (Q' := Q) (fun _ _ h => h) _ _ _ _ (wpScript_G (md := .any) h1 sc last _ a _ h3 (h { w with drawn := w.drawn + 1 } (Keeps.drew [] w)))
  rw [h2] at this
  exact this
end
end Go.Proofs.Ytgfnpphhdkjlmaa
