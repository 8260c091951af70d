/- Abstract states: giving blocks up, taking their data into other data. No program in sight; no conditions. -/
import Derived.Test.YtdkjeodenbffnaaA2
namespace Go.Proofs.Ytdkjeodenbffnaa
open Go.RowKit
open Shp

theorem Root.kill {μ : Lay} {h : Nat → Block} {id b : Nat} (hr : Root μ (upd h id .dead) b) : Root μ h b := by
  refine hr.mono fun i hi => ?_
  unfold upd at hi
  split at hi
  · cases hi
  · exact hi

theorem Move.kill (w : World) (μ : Lay) (h : Nat → Block) {id : Nat} (hid : h id ≠ .free) : Move w w μ μ h (upd h id .dead) := by
  refine ⟨fun _ _ hr => ⟨rfl, fun hr' => hr hr'.kill⟩, fun _ _ _ _ _ _ _ vs t hw => ⟨vs, hw, rfl⟩, fun i hi => ?_, fun i e dp xs hf hi => ⟨rfl, ?_⟩, fun i cs hf hi => ⟨rfl, ?_⟩⟩
  · unfold upd at hi; split at hi
    · cases hi
    · exact hi
  · unfold upd at hi; split at hi
    · cases hi
    · exact ⟨dp, xs, hi⟩
  · unfold upd at hi; split at hi
    · cases hi
    · exact ⟨cs, hi⟩

theorem RelAt.kill {w0 : World} {S : AState} {a : Act} {w : World} {μ : Lay} {who who' : Nat → Option Nat} (h : RelAt w0 S a w μ who) {id : Nat} (hid : S.heap id ≠ .free) (hw : ∀ b j, j ≠ id → ¬ Root μ S.heap b → who b = some j → who' b = some j) :
    RelAt w0 (S.write id .dead) a w μ who' := by
  have hm := Move.kill w μ S.heap hid
  have hl : ∀ i, ((S.write id .dead).heap i).live = true → i ≠ id ∧ (S.heap i).live = true := fun i hi => by
    simp only [AState.write, upd] at hi
    split at hi
    · cases hi
    · exact ⟨by assumption, hi⟩
  refine ⟨h.size, fun t => (h.slot t).move hm, h.dfr, fun i => ?_, fun i j b d d' hi hj => h.inj i j b d d' (hl i hi).2 (hl j hj).2, fun i b d hi => h.base i b d (hl i hi).2, h.keep, h.old⟩
  by_cases e : i = id
  · subst e; simp only [AState.write, upd_same]; trivial
  · have : (S.write id .dead).heap i = S.heap i := by simp [AState.write, upd_ne _ _ _ e]
    rw [this]
    exact (h.blk i).move hm (fun _ => rfl) (fun _ _ _ _ => rfl) (fun b _ => hw b i e)

theorem sub_flat {α : Type} {l l' : List (List α)} (h : l.Sublist l') : l.flatten.Sublist l'.flatten := by
  induction h with
  | slnil => exact List.Sublist.refl _
  | cons a h ih => rw [List.flatten_cons]; exact ih.trans (List.sublist_append_right _ _)
  | cons_cons a h ih => rw [List.flatten_cons, List.flatten_cons]; exact (List.Sublist.refl _).append ih

theorem sAt_add (b off n : Nat) : sAt (some ⟨b, off, none⟩) n = ⟨b, off + n, none⟩ := sAt_some b off n

/-- A slice of a block of the call's own reads as a part of the block. -/
theorem RelAt.view {w0 : World} {S : AState} {a : Act} {w : World} {μ : Lay} {who : Nat → Option Nat} (h : RelAt w0 S a w μ who) {id e lo len : Nat} {dp : Bool} {xs : List GV} (hx : S.heap id = .arr e dp xs)
    {v : Value} (hv : OwnAt w μ id e lo len v) (hle : lo + len ≤ xs.length) :
    ∃ F, GRep w F v (.sl e ((xs.drop lo).take len)) ∧ (∀ b ∈ F, (∃ d, μ id = some (b, d)) ∨ ¬ Root μ S.heap b) ∧ (dp = true → F.Nodup ∧ ∀ b ∈ F, ((∃ d, μ id = some (b, d)) ∨ who b = some id) ∧ w0.heap.size ≤ b) ∧ 0 < e ∧ ((∀ x ∈ xs, x.ncells = e)) := by
  have hB := h.blk id
  rw [hx] at hB
  obtain ⟨he, hB⟩ := hB
  unfold OwnAt at hv
  cases hμ : μ id with
  | none =>
    simp only [hμ] at hB hv
    obtain ⟨⟨a, rfl⟩, rfl, rfl⟩ := hv
    subst hB
    refine ⟨[], ?_, by simp, by simp, he, by simp⟩
    have := GRep.sl (w := w) a 0 e [] [] [] rfl rfl he (by simp) (by simp) (by simp) (by simp) (by simp) (by intro k hk; simp at hk) (by intro k hk; simp at hk)
    simpa [own] using this
  | some bd =>
    obtain ⟨b, d⟩ := bd
    simp only [hμ] at hB hv
    obtain ⟨cap, o, rfl, hlc, hcm, vs0, t0, hrow0, ho0, hfit0⟩ := hv
    obtain ⟨vs, t, Fs, els, hrow, hr, hnr, hdp⟩ := hB
    have hbl : b < w.heap.size := lt_of_heap hrow
    have hn : ((xs.drop lo).take len).length = len := by simp; omega
    have hg := GRep.sl (w := w) (some ⟨b, o, none⟩) cap e ((els.drop lo).take len) ((xs.drop lo).take len) ((Fs.drop lo).take len)
      (by have := hr.len; simp; omega) (by have := hr.fl; simp; omega) he (fun x hx' => by obtain ⟨k, hk, rfl⟩ := List.getElem_of_mem (List.mem_of_mem_drop (List.mem_of_mem_take hx')); exact hr.nc k hk) (by rw [hn]; exact hlc) hcm (by simp) (by rintro p ⟨rfl⟩ _; exact ⟨rfl, hbl⟩)
      (by
        intro k hk
        have hk' : k < len ∧ lo + k < els.length := by simp at hk; omega
        have hge : ((els.drop lo).take len)[k]'hk = els[lo + k]'hk'.2 := by simp
        rw [hge]
        refine ⟨(hr.sz (lo + k) hk'.2).1, (hr.sz (lo + k) hk'.2).2, fun j hj => ?_⟩
        have hje : j < e := by rw [(hr.sz (lo + k) hk'.2).1] at hj; exact hj
        have hc := hr.cell (lo + k) hk'.2 j hje
        rw [sAt_add]
        have ha : o + (k * e + j) = d + (lo + k) * e + j := by rw [ho0 (by omega), Nat.add_mul]; omega
        rw [ha]
        refine ⟨?_, frozen_of_row w b _ _ _ hrow⟩
        rw [cell_of_row w b _ _ _ _ hrow, hc]
        simp [hj])
      (by
        intro k hk
        have hk' : k < len ∧ lo + k < xs.length := by simp at hk; omega
        have e1 : ((xs.drop lo).take len)[k]'hk = xs[lo + k]'hk'.2 := by simp
        have e2 : ((els.drop lo).take len)[k]'(by simp; have := hr.len; omega) = els[lo + k]'(by have := hr.len; omega) := by simp
        have e3 : ((Fs.drop lo).take len)[k]'(by simp; have := hr.fl; omega) = Fs[lo + k]'(by have := hr.fl; omega) := by simp
        rw [e1, e2, e3]
        exact hr.el (lo + k) hk'.2)
    rw [hn] at hg
    have hsub : ((Fs.drop lo).take len).flatten.Sublist Fs.flatten := by
      exact sub_flat ((List.take_sublist _ _).trans (List.drop_sublist _ _))
    have hroot : Root μ S.heap b := ⟨id, d, by rw [hx]; rfl, hμ⟩
    refine ⟨_, hg, fun b' hb' => ?_, fun hd => ⟨?_, fun b' hb' => ?_⟩, he, fun x hx' => ?_⟩
    · rcases List.mem_append.1 hb' with hb' | hb'
      · obtain ⟨p, hp, _, rfl⟩ := own_inv hb'
        cases hp
        exact .inl ⟨d, rfl⟩
      · exact .inr (hnr b' (hsub.subset hb'))
    · refine List.nodup_append.2 ⟨own_nodup _ _, (hdp hd).1.sublist hsub, fun x hx' y hy e => ?_⟩
      obtain ⟨p, hp, _, rfl⟩ := own_inv hx'
      cases hp
      subst e
      exact hnr b (hsub.subset hy) hroot
    · rcases List.mem_append.1 hb' with hb' | hb'
      · obtain ⟨p, hp, _, rfl⟩ := own_inv hb'
        cases hp
        exact ⟨.inl ⟨d, rfl⟩, (h.base id b d (by rw [hx]; rfl) hμ).1⟩
      · exact ⟨.inr ((hdp hd).2 b' (hsub.subset hb')).1, ((hdp hd).2 b' (hsub.subset hb')).2⟩
    · obtain ⟨k, hk, rfl⟩ := List.getElem_of_mem hx'
      exact hr.nc k hk

def GV.flat : GV → Bool
  | .agg cs => cs.all GV.atom
  | v => v.atom

theorem GRep.of_atom {w : World} {F : List Nat} {v : Value} {x : GV} (h : GRep w F v x) (hx : x.atom = true) : F = [] := by
  cases h <;> simp [GV.atom] at hx <;> rfl

theorem GRep.of_flat {w : World} {F : List Nat} {v : Value} {x : GV} (h : GRep w F v x) (hx : x.flat = true) : F = [] := by
  cases h with
  | atom => rfl
  | agg vs gs Fs hv hF h1 hg h =>
    simp only [GV.flat, List.all_eq_true] at hx
    exact flatten_nils fun k hk => (h k (hF ▸ hk)).of_atom (hx _ (List.getElem_mem _))
  | fn | tup | box | sl => simp [GV.flat, GV.atom] at hx

/-- In one cell, outside of structures. -/
def GV.scal : GV → Bool
  | .agg _ | .tup _ => false
  | _ => true

theorem GRep.scal_one {w : World} {F : List Nat} {v : Value} {x : GV} (h : GRep w F v x) (hx : x.scal = true) : v.oneCell' = true ∧ x.ncells = 1 := by
  cases h with
  | atom x ha => cases x <;> simp [GV.atom] at ha <;> exact ⟨rfl, rfl⟩
  | agg | tup => simp [GV.scal] at hx
  | fn | box | sl => exact ⟨rfl, rfl⟩

def killL (h : Nat → Block) : List Nat → Nat → Block
  | [] => h
  | id :: ks => killL (upd h id .dead) ks

def AState.kill (S : AState) (ks : List Nat) : AState := { S with heap := killL S.heap ks }
theorem AState.kill_nil (S : AState) : S.kill [] = S := rfl
theorem AState.kill_cons (S : AState) (k : Nat) (ks : List Nat) : S.kill (k :: ks) = (S.write k .dead).kill ks := rfl
theorem AState.kill_app (S : AState) (ks ls : List Nat) : S.kill (ks ++ ls) = (S.kill ks).kill ls := by
  induction ks generalizing S with
  | nil => rfl
  | cons k ks ih => rw [List.cons_append, AState.kill_cons, ih, AState.kill_cons]
theorem killL_free {h : Nat → Block} {ks : List Nat} {id : Nat} (hk : ∀ k ∈ ks, h k ≠ .free) : killL h ks id = .free ↔ h id = .free := by
  induction ks generalizing h with
  | nil => rfl
  | cons k ks ih =>
    rw [killL, ih]
    · unfold upd; split
      · rename_i e; subst e; simp [hk id (by simp)]
      · rfl
    · intro j hj; unfold upd; split
      · simp
      · exact hk j (by simp [hj])

theorem Move.killL (w : World) (μ : Lay) (ks : List Nat) : ∀ (h : Nat → Block), (∀ k ∈ ks, h k ≠ .free) → Move w w μ μ h (killL h ks) := by
  induction ks with
  | nil => exact fun h _ => Move.refl w μ h
  | cons k ks ih =>
    intro h hk
    have h1 := Move.kill w μ h (hk k (by simp))
    have h2 := ih (upd h k .dead) (fun j hj => by
      unfold upd; split
      · simp
      · exact hk j (by simp [hj]))
    exact ⟨fun b hb hr => ⟨rfl, (h2.old b hb (h1.old b hb hr).2).2⟩, fun _ _ _ _ _ _ _ vs t hw => ⟨vs, hw, rfl⟩, fun i hi => h1.free i (h2.free i hi),
      fun i e dp xs hf hi => by
        obtain ⟨_, dp', xs', h3⟩ := h2.arr i e dp xs (fun e => hf (h1.free i e)) hi
        exact h1.arr i e dp' xs' hf h3,
      fun i cs hf hi => by
        obtain ⟨_, cs', h3⟩ := h2.box i cs (fun e => hf (h1.free i e)) hi
        exact h1.box i cs' hf h3⟩

/-- What a value becomes inside other data (data, blocks that are given up, is it all of one's own?). -/
def absorb (h : Nat → Block) : PV → Option (GV × List Nat × Bool)
  | .g v => some (v, [], v.flat)
  | .nils e => if 0 < e then some (.sl e [], [], true) else none
  | .own id lo len => match h id with
    | .arr e dp xs => if lo + len ≤ xs.length then some (.sl e ((xs.drop lo).take len), [id], dp) else none
    | _ => none
  | _ => none

def absL (f : (Nat → Block) → PV → Option (GV × List Nat × Bool)) (h : Nat → Block) : List PV → Option (List GV × List Nat × Bool)
  | [] => some ([], [], true)
  | p :: ps => match f h p with
    | some (v, k, d) => match absL f (killL h k) ps with
      | some (vs, ks, ds) => some (v :: vs, k ++ ks, d && ds)
      | none => none
    | none => none

/-- An element: a cell or a structure. -/
def absE (h : Nat → Block) : PV → Option (GV × List Nat × Bool)
  | .agg cs => match absL absorb h cs with
    | some (gs, ks, d) => if gs.all (fun x => x.ncells == 1) then some (.agg gs, ks, d) else none
    | none => none
  | p => absorb h p

def AbsOK (f : (Nat → Block) → PV → Option (GV × List Nat × Bool)) : Prop :=
  ∀ {w0 : World} {S : AState} {a : Act} {w : World} {μ : Lay} {who : Nat → Option Nat}, RelAt w0 S a w μ who → ∀ {nid : Nat} {v : Value} {p : PV}, PRep w μ S.heap v p →
    ∀ {x : GV} {ks : List Nat} {d : Bool}, f S.heap p = some (x, ks, d) →
    (∀ i ∈ ks, S.heap i ≠ .free) ∧ (nid ∉ ks → ∃ who' F, RelAt w0 (S.kill ks) a w μ who' ∧ GRep w F v x ∧ (∀ b ∈ F, ¬ Root μ (S.kill ks).heap b) ∧ (d = true → F.Nodup ∧ ∀ b ∈ F, who' b = some nid ∧ w0.heap.size ≤ b) ∧
      (∀ b, who b = some nid → who' b = some nid) ∧ (∀ G : List Nat, (∀ b ∈ G, ¬ Root μ S.heap b ∧ who b = some nid) → d = true → ∀ b ∈ G, b ∉ F))

theorem absorb_ok : AbsOK absorb := by
  intro w0 S a w μ who h nid v p hv x k d hx
  cases hv with
  | g v x' F hg hd =>
    simp only [absorb, Option.some.injEq, Prod.mk.injEq] at hx
    obtain ⟨rfl, rfl, rfl⟩ := hx
    refine ⟨by simp, fun _ => ⟨who, F, h, hg, hd, fun hf => ?_, fun _ h => h, fun G _ hf b hb hb' => ?_⟩⟩
    · rw [hg.of_flat hf]; simp
    · rw [hg.of_flat hf] at hb'; simp at hb'
  | nils e he =>
    simp only [absorb, he, if_true, Option.some.injEq, Prod.mk.injEq] at hx
    obtain ⟨rfl, rfl, rfl⟩ := hx
    have := GRep.sl (w := w) none 0 e [] [] [] rfl rfl he (by simp) (by simp) (by simp) (by simp) (by simp) (by intro k hk; simp at hk) (by intro k hk; simp at hk)
    exact ⟨by simp, fun _ => ⟨who, [], h, by simpa [Shp.own] using this, by simp, by simp, fun _ h => h, by simp⟩⟩
  | own v id lo len ho1 hf ho =>
    simp only [absorb] at hx
    split at hx
    · rename_i e dp xs hid
      split at hx
      · rename_i hle
        simp only [Option.some.injEq, Prod.mk.injEq] at hx
        obtain ⟨rfl, rfl, rfl⟩ := hx
        refine ⟨by simp [hid], fun hnk => ?_⟩
        have hoa := ho e dp xs hid
        obtain ⟨F, h1, h2, h3, h4, _⟩ := h.view hid hoa hle
        have hne : id ≠ nid := by intro e; subst e; simp at hnk
        have hlive : (S.heap id).live = true := by rw [hid]; rfl
        have hk1 : ∀ b, Root μ (S.kill [id]).heap b → Root μ S.heap b ∧ ¬ ∃ d, μ id = some (b, d) := fun b hb => by
          refine ⟨Root.kill hb, ?_⟩
          rintro ⟨d, hd⟩
          obtain ⟨i, d', hi, hi'⟩ := hb
          simp only [AState.kill, killL, upd] at hi
          split at hi
          · cases hi
          · rename_i hne'
            exact hne' (h.inj i id b d' d hi hlive hi' hd)
        obtain ⟨who', hw1, hw2, hw3⟩ : ∃ who' : Nat → Option Nat, (∀ b j, j ≠ id → ¬ Root μ S.heap b → who b = some j → who' b = some j) ∧ (∀ b, who b = some nid → who' b = some nid) ∧ (∀ b, ((∃ d, μ id = some (b, d)) ∨ who b = some id) → who' b = some nid) := by
          classical
          refine ⟨fun b => if who b = some id ∨ (∃ d, μ id = some (b, d)) then some nid else who b, fun b j hj hr hb => ?_, fun b hb => ?_, fun b hb => ?_⟩
          · dsimp only
            rw [if_neg ?_]
            · exact hb
            · rintro (h' | ⟨d, hd⟩)
              · rw [hb] at h'; cases h'; exact hj rfl
              · exact hr ⟨id, d, hlive, hd⟩
          · dsimp only; split
            · rfl
            · exact hb
          · dsimp only; rw [if_pos hb.symm]
        refine ⟨who', F, ?_, h1, fun b hb hr => ?_, fun hd => ⟨(h3 hd).1, fun b hb => ⟨hw3 b ((h3 hd).2 b hb).1, ((h3 hd).2 b hb).2⟩⟩, hw2, fun G hG hd b hb hb' => ?_⟩
        · exact h.kill hf hw1
        · rcases h2 b hb with h5 | h5
          · exact (hk1 b hr).2 h5
          · exact h5 (hk1 b hr).1
        · rcases ((h3 hd).2 b hb').1 with ⟨d, h5⟩ | h5
          · exact (hG b hb).1 ⟨id, d, hlive, h5⟩
          · rw [(hG b hb).2] at h5; cases h5; exact hne rfl
      · cases hx
    · cases hx
  | undef | none_ | ptr | eptr | iptr | agg | tup | fn => simp [absorb] at hx

theorem absL_ok {f : (Nat → Block) → PV → Option (GV × List Nat × Bool)} (hf : AbsOK f) {w0 : World} {a : Act} {w : World} {μ : Lay} {nid : Nat} : ∀ (ps : List PV) {S : AState} {who : Nat → Option Nat}, RelAt w0 S a w μ who →
    ∀ (vs : List Value) (hv : vs.length = ps.length), (∀ i (hi : i < ps.length), PRep w μ S.heap (vs[i]'(hv ▸ hi)) ps[i]) → ∀ {gs : List GV} {ks : List Nat} {d : Bool}, absL f S.heap ps = some (gs, ks, d) →
    (∀ i ∈ ks, S.heap i ≠ .free) ∧ (nid ∉ ks → ∃ who', ∃ Fs : List (List Nat), RelAt w0 (S.kill ks) a w μ who' ∧ ∃ (hg : vs.length = gs.length) (hF : Fs.length = gs.length), (∀ i (hi : i < gs.length), GRep w (Fs[i]'(hF ▸ hi)) (vs[i]'(hg ▸ hi)) gs[i]) ∧
      (∀ b ∈ Fs.flatten, ¬ Root μ (S.kill ks).heap b) ∧ (d = true → Fs.flatten.Nodup ∧ ∀ b ∈ Fs.flatten, who' b = some nid ∧ w0.heap.size ≤ b) ∧
      (∀ b, who b = some nid → who' b = some nid) ∧ (∀ G : List Nat, (∀ b ∈ G, ¬ Root μ S.heap b ∧ who b = some nid) → d = true → ∀ b ∈ G, b ∉ Fs.flatten)) := by
  intro ps
  induction ps with
  | nil =>
    intro S who h vs hv hps gs ks d hx
    simp only [absL, Option.some.injEq, Prod.mk.injEq] at hx
    obtain ⟨rfl, rfl, rfl⟩ := hx
    exact ⟨by simp, fun _ => ⟨who, [], h, by simpa using hv, rfl, by intro i hi; simp at hi, by simp, by simp, fun _ h => h, by simp⟩⟩
  | cons p ps ih =>
    intro S who h vs hv hps gs ks d hx
    cases vs with
    | nil => simp at hv
    | cons v vs =>
      have hp : PRep w μ S.heap v p := hps 0 (by simp)
      unfold absL at hx
      cases h1 : f S.heap p with
      | none => simp [h1] at hx
      | some r =>
        obtain ⟨x, k, d1⟩ := r
        simp only [h1] at hx
        obtain ⟨hk, hh1⟩ := hf h (nid := nid) hp h1
        cases h2 : absL f (killL S.heap k) ps with
        | none => simp [h2] at hx
        | some r =>
          obtain ⟨xs, ks', d2⟩ := r
          simp only [h2, Option.some.injEq, Prod.mk.injEq] at hx
          obtain ⟨rfl, rfl, rfl⟩ := hx
          have hmv := Move.killL w μ k S.heap hk
          have hk2 : ∀ i ∈ ks', (S.kill k).heap i ≠ .free := by
            have hpp : ∀ i (hi : i < ps.length), PRep w μ (S.kill k).heap (vs[i]'(by simp at hv; omega)) ps[i] := fun i hi => (hps (i + 1) (by simpa using hi)).move hmv
            by_cases hkn : nid ∈ k
            · obtain ⟨j, hj⟩ : ∃ j, j ∉ k := ⟨k.foldl max 0 + 1, fun hm => by
                have : ∀ (l : List Nat) (m x : Nat), x ∈ l ∨ x ≤ m → x ≤ l.foldl max m := by
                  intro l
                  induction l with
                  | nil => intro m x hx; simpa using hx
                  | cons y l ihl =>
                    intro m x hx
                    simp only [List.foldl_cons]
                    refine ihl (max m y) x ?_
                    rcases hx with hx | hx
                    · rcases List.mem_cons.1 hx with rfl | hx
                      · exact .inr (Nat.le_max_right _ _)
                      · exact .inl hx
                    · exact .inr (Nat.le_trans hx (Nat.le_max_left _ _))
                have := this k 0 _ (.inl hm); omega⟩
              obtain ⟨who1, F, r1, _⟩ := (hf h (nid := j) hp h1).2 hj
              exact (ih (S := S.kill k) r1 vs (by simpa using hv) hpp h2).1
            · obtain ⟨who1, F, r1, _⟩ := hh1 hkn
              exact (ih (S := S.kill k) r1 vs (by simpa using hv) hpp h2).1
          refine ⟨fun i hi => ?_, fun hnn => ?_⟩
          · rcases List.mem_append.1 hi with h3 | h3
            · exact hk i h3
            · exact fun e => hk2 i h3 ((killL_free hk).2 e)
          obtain ⟨who1, F, r1, g1, n1, o1, m1, q1⟩ := hh1 (fun hm => hnn (List.mem_append.2 (.inl hm)))
          obtain ⟨_, hh2⟩ := ih (S := S.kill k) r1 vs (by simpa using hv) (fun i hi => (hps (i + 1) (by simpa using hi)).move hmv) h2
          obtain ⟨who2, Fs, r2, hg, hF, g2, n2, o2, m2, q2⟩ := hh2 (fun hm => hnn (List.mem_append.2 (.inr hm)))
          have hroot : ∀ b, Root μ (S.kill (k ++ ks')).heap b → Root μ (S.kill k).heap b := by
            rw [AState.kill_app]
            intro b hb
            apply Classical.byContradiction
            intro hr
            rcases Nat.lt_or_ge b w.heap.size with hlt | hge
            · exact ((Move.killL w μ ks' (S.kill k).heap hk2).old b hlt hr).2 hb
            · obtain ⟨i, d', hi, hi'⟩ := hb
              have := (r2.base i b d' hi hi').2
              omega
          refine ⟨who2, F :: Fs, by rw [AState.kill_app]; exact r2, by simpa using hg, by simpa using hF, fun i hi => ?_, fun b hb => ?_, fun hd => ?_, fun b hb => m2 b (m1 b hb), fun G hG hd b hb hb' => ?_⟩
          · cases i with
            | zero => exact g1
            | succ i => exact g2 i (by simpa using hi)
          · rw [List.flatten_cons] at hb
            rcases List.mem_append.1 hb with h3 | h3
            · exact fun hr => n1 b h3 (hroot b hr)
            · rw [AState.kill_app]; exact n2 b h3
          · simp only [Bool.and_eq_true] at hd
            obtain ⟨o3, o4⟩ := o1 hd.1
            obtain ⟨o5, o6⟩ := o2 hd.2
            rw [List.flatten_cons]
            refine ⟨List.nodup_append.2 ⟨o3, o5, fun b hb c hc e => ?_⟩, fun b hb => ?_⟩
            · subst e
              exact q2 F (fun b hb => ⟨n1 b hb, (o4 b hb).1⟩) hd.2 b hb hc
            · rcases List.mem_append.1 hb with h3 | h3
              · exact ⟨m2 b (o4 b h3).1, (o4 b h3).2⟩
              · exact o6 b h3
          · simp only [Bool.and_eq_true] at hd
            rw [List.flatten_cons] at hb'
            rcases List.mem_append.1 hb' with h3 | h3
            · exact q1 G hG hd.1 b hb h3
            · refine q2 G (fun b hb => ⟨fun hr => (hG b hb).1 ?_, m1 b (hG b hb).2⟩) hd.2 b hb h3
              obtain ⟨i, d', hi, hi'⟩ := hr
              rcases Nat.lt_or_ge b w.heap.size with hlt | hge
              · apply Classical.byContradiction
                intro hr'
                exact (hmv.old b hlt hr').2 ⟨i, d', hi, hi'⟩
              · have := (r1.base i b d' hi hi').2
                omega

theorem absE_ok : AbsOK absE := by
  intro w0 S a w μ who h nid v p hv x ks d hx
  cases hv with
  | agg vs cs hl h1 he =>
    unfold absE at hx
    cases h2 : absL absorb S.heap cs with
    | none => simp [h2] at hx
    | some r =>
      obtain ⟨gs, ks', d'⟩ := r
      simp only [h2] at hx
      split at hx
      · rename_i hall
        simp only [Option.some.injEq, Prod.mk.injEq] at hx
        obtain ⟨rfl, rfl, rfl⟩ := hx
        obtain ⟨hk, hh⟩ := absL_ok absorb_ok (nid := nid) cs h vs hl he h2
        refine ⟨hk, fun hnk => ?_⟩
        obtain ⟨who', Fs, r1, hg, hF, g1, rest⟩ := hh hnk
        exact ⟨who', Fs.flatten, r1, .agg vs gs Fs hg hF h1 (by simpa using hall) g1, rest⟩
      · cases hx
  | g v x F hg hd => exact absorb_ok h (.g v x F hg hd) hx
  | nils e he => exact absorb_ok h (.nils e he) hx
  | own v id lo len ho1 hf ho => exact absorb_ok h (.own v id lo len ho1 hf ho) hx
  | undef | none_ | ptr | eptr | iptr | tup | fn => simp [absE, absorb] at hx

/-- The same, for a new name. -/
theorem AbsOK.free {f : (Nat → Block) → PV → Option (GV × List Nat × Bool)} (hf : AbsOK f) {w0 : World} {S : AState} {a : Act} {w : World} {μ : Lay} {who : Nat → Option Nat} (h : RelAt w0 S a w μ who) {nid : Nat} (hn : S.heap nid = .free) {v : Value} {p : PV} (hv : PRep w μ S.heap v p)
    {x : GV} {ks : List Nat} {d : Bool} (hx : f S.heap p = some (x, ks, d)) :
    (∀ i ∈ ks, S.heap i ≠ .free) ∧ ∃ who' F, RelAt w0 (S.kill ks) a w μ who' ∧ GRep w F v x ∧ (∀ b ∈ F, ¬ Root μ (S.kill ks).heap b) ∧ (d = true → F.Nodup ∧ ∀ b ∈ F, who' b = some nid ∧ w0.heap.size ≤ b) ∧
      (∀ b, who b = some nid → who' b = some nid) ∧ (∀ G : List Nat, (∀ b ∈ G, ¬ Root μ S.heap b ∧ who b = some nid) → d = true → ∀ b ∈ G, b ∉ F) := by
  obtain ⟨h1, h2⟩ := hf h (nid := nid) hv hx
  exact ⟨h1, h2 fun hm => h1 nid hm hn⟩

theorem killL_ne {h : Nat → Block} {ks : List Nat} {id : Nat} (hk : id ∉ ks) : killL h ks id = h id := by
  induction ks generalizing h with
  | nil => rfl
  | cons k ks ih =>
    simp only [List.mem_cons, not_or] at hk
    rw [killL, ih hk.2, upd_ne _ _ _ hk.1]

end Go.Proofs.Ytdkjeodenbffnaa
