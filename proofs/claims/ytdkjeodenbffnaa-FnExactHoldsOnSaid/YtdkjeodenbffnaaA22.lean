/- Abstract states: states forgotten and renamed; zero values. No program in sight; no conditions. -/
import Derived.Test.YtdkjeodenbffnaaA21
namespace Go.Proofs.Ytdkjeodenbffnaa
open Go.RowKit
open Shp

theorem z_int (k : IntKind) : ZeroOk (.int k 0) (.g (.int k 0)) := ⟨rfl, fun w μ h => PRep.of_int w μ h k 0⟩
theorem z_bool : ZeroOk (.bool false) (.g (.bool false)) := ⟨rfl, fun w μ h => PRep.of_bool w μ h false⟩
theorem z_str : ZeroOk (.string ⟨#[]⟩) (.g (.str ⟨#[]⟩)) := ⟨rfl, fun _ _ _ => .g _ _ [] (.atom (.str _) rfl) (by simp)⟩
theorem z_nilp : ZeroOk (.pointer none) (.g .nilp) := ⟨rfl, fun _ _ _ => .g _ _ [] (.atom .nilp rfl) (by simp)⟩
theorem z_nils {e : Nat} (he : 0 < e) : ZeroOk (.slice none 0 0) (.nils e) := ⟨rfl, fun _ _ _ => .nils e he⟩
theorem z_undef {v : Value} (h : v.oneCell' = true) : ZeroOk v .undef := ⟨h, fun _ _ _ => .undef v⟩

/-! ### Forgetting and renaming -/

def ren0 (ρ : List Nat) : PV → PV
  | .g v => .g v
  | .none_ => .none_
  | .nils e => .nils e
  | .iptr cs => .iptr cs
  | .own id lo len => match ρ.idxOf? id with | some j => .own j lo len | none => .undef
  | .ptr id off => match ρ.idxOf? id with | some j => .ptr j off | none => .undef
  | .eptr id k i => match ρ.idxOf? id with | some j => .eptr j k i | none => .undef
  | _ => .undef

def ren1 (ρ : List Nat) : PV → PV
  | .agg cs => .agg (cs.map (ren0 ρ))
  | .fn f cs => .fn f (cs.map (ren0 ρ))
  | p => ren0 ρ p

def renB (ρ : List Nat) : Block → Block
  | .box cs => .box (cs.map (ren1 ρ))
  | b => b

theorem idx_some {ρ : List Nat} {id j : Nat} (h : ρ.idxOf? id = some j) : ρ[j]? = some id := by
  have := List.findIdx?_eq_some_iff_getElem.1 h
  obtain ⟨hj, h1, _⟩ := this
  simp at h1
  rw [List.getElem?_eq_getElem hj, h1]

theorem renB_arr {ρ : List Nat} {b : Block} {e dp xs} (h : renB ρ b = .arr e dp xs) : b = .arr e dp xs := by cases b <;> simp_all [renB]
theorem renB_box {ρ : List Nat} {b : Block} {cs} (h : renB ρ b = .box cs) : ∃ cs', b = .box cs' ∧ cs = cs'.map (ren1 ρ) := by
  cases b <;> simp [renB] at h
  exact ⟨_, rfl, h.symm⟩
theorem renB_live {ρ : List Nat} {b : Block} : (renB ρ b).live = b.live := by cases b <;> rfl

section
variable {w : World} {μ : Lay} {h h' : Nat → Block} {ρ : List Nat}

def renLay (ρ : List Nat) (μ : Lay) : Lay := fun j => match ρ[j]? with | some i => μ i | none => none

theorem root_ren (hh : ∀ j, h' j = match ρ[j]? with | some i => renB ρ (h i) | none => .free) {b : Nat} (hr : Root (renLay ρ μ) h' b) : Root μ h b := by
  obtain ⟨j, d, hl, hm⟩ := hr
  rw [hh] at hl
  unfold renLay at hm
  cases hj : ρ[j]? with
  | none => rw [hj] at hl; simp [Block.live] at hl
  | some i =>
    rw [hj] at hl hm
    simp only [renB_live] at hl
    exact ⟨i, d, hl, hm⟩

theorem PRep.ren0 (hh : ∀ j, h' j = match ρ[j]? with | some i => renB ρ (h i) | none => .free) (hl : ∀ i ∈ ρ, (h i).live = true) {v : Value} {p : PV} (hv : PRep w μ h v p) : PRep w (renLay ρ μ) h' v (ren0 ρ p) := by
  have key : ∀ {id j}, ρ.idxOf? id = some j → h' j = renB ρ (h id) ∧ h' j ≠ .free ∧ renLay ρ μ j = μ id := fun {id j} hj => by
    have h1 := idx_some hj
    have h2 := hh j
    rw [h1] at h2
    refine ⟨h2, ?_, by unfold renLay; rw [h1]⟩
    have := hl id (List.mem_of_getElem? h1)
    rw [h2]
    cases hb : h id <;> simp_all [renB, Block.live]
  cases hv with
  | g v x F hg hd => exact .g v x F hg fun b hb hr => hd b hb (root_ren hh hr)
  | undef | agg | tup | fn => exact .undef _
  | none_ => exact .none_
  | nils e he => exact .nils e he
  | own v id lo len h1 hf ho =>
    simp only [Go.Proofs.Ytdkjeodenbffnaa.ren0]
    cases hj : ρ.idxOf? id with
    | none => exact .undef _
    | some j =>
      obtain ⟨k1, k2, k3⟩ := key hj
      refine .own v j lo len h1 k2 fun e dp xs hx => ?_
      rw [k1] at hx
      have := ho e dp xs (renB_arr hx)
      unfold OwnAt at *
      rw [k3]; exact this
  | ptr v id off h1 hf ho =>
    simp only [Go.Proofs.Ytdkjeodenbffnaa.ren0]
    cases hj : ρ.idxOf? id with
    | none => exact .undef _
    | some j =>
      obtain ⟨k1, k2, k3⟩ := key hj
      refine .ptr v j off h1 k2 fun cs hx => ?_
      rw [k1] at hx
      obtain ⟨cs', hx', _⟩ := renB_box hx
      rw [k3]; exact ho cs' hx'
  | eptr v id k i h1 hf ho =>
    simp only [Go.Proofs.Ytdkjeodenbffnaa.ren0]
    cases hj : ρ.idxOf? id with
    | none => exact .undef _
    | some j =>
      obtain ⟨k1, k2, k3⟩ := key hj
      refine .eptr v j k i h1 k2 fun e dp xs hx => ?_
      rw [k1] at hx
      rw [k3]; exact ho e dp xs (renB_arr hx)
  | iptr v p cs vs Fs hp hs hv hF hb hr hc hg he hd => exact .iptr v p cs vs Fs hp hs hv hF hb (fun hr' => hr (root_ren hh hr')) hc hg he fun b hb hr' => hd b hb (root_ren hh hr')

theorem PRep.ren1 (hh : ∀ j, h' j = match ρ[j]? with | some i => renB ρ (h i) | none => .free) (hl : ∀ i ∈ ρ, (h i).live = true) {v : Value} {p : PV} (hv : PRep w μ h v p) : PRep w (renLay ρ μ) h' v (ren1 ρ p) := by
  cases p with
  | agg cs =>
    obtain ⟨vs, rfl, hlen, h1, h2⟩ := hv.agg_inv
    exact .agg vs _ (by simpa using hlen) h1 fun i hi => by simp only [List.getElem_map]; exact (h2 i (by simpa using hi)).ren0 hh hl
  | fn f cs =>
    obtain ⟨vs, rfl, hlen, h2⟩ := hv.fn_inv
    exact .fn f vs _ (by simpa using hlen) fun i hi => by simp only [List.getElem_map]; exact (h2 i (by simpa using hi)).ren0 hh hl
  | _ => exact hv.ren0 hh hl
end

theorem nodup_inj : ∀ {ρ : List Nat}, ρ.Nodup → ∀ {i j : Nat} (hi : i < ρ.length) (hj : j < ρ.length), ρ[i] = ρ[j] → i = j
  | [], _, i, j, hi, _, _ => by simp at hi
  | x :: ρ, h, i, j, hi, hj, e => by
    obtain ⟨h1, h2⟩ := List.nodup_cons.1 h
    cases i with
    | zero =>
      cases j with
      | zero => rfl
      | succ j => simp at e; exact absurd (e ▸ List.getElem_mem _) h1
    | succ i =>
      cases j with
      | zero => simp at e; exact absurd (e ▸ List.getElem_mem _) h1
      | succ j => simp at e; rw [nodup_inj h2 (by simpa using hi) (by simpa using hj) e]

theorem ren1_g {ρ : List Nat} {p : PV} {x : GV} (h : ren1 ρ p = .g x) : p = .g x := by
  cases p <;> simp [ren1, ren0] at h ⊢ <;> first | exact h | (split at h <;> cases h)
/-- A state without what is not needed, its blocks numbered anew: the j-th was the ρ[j]-th. -/
theorem Le_norm {S S' : AState} (ρ : List Nat) (hρ : ρ.Nodup) (hn : S'.n = S.n) (hl : ∀ i ∈ ρ, (S.heap i).live = true) (hh : ∀ j, S'.heap j = match ρ[j]? with | some i => renB ρ (S.heap i) | none => .free) (hs : ∀ t, S'.slots t = .undef ∨ S'.slots t = ren1 ρ (S.slots t)) : Le S S' := by
  rintro w0 a w ⟨μ, who, h⟩
  have inv : ∀ j b d, (S'.heap j).live = true → renLay ρ μ j = some (b, d) → ∃ i, ρ[j]? = some i ∧ (S.heap i).live = true ∧ μ i = some (b, d) := fun j b d h1 h2 => by
    rw [hh] at h1
    unfold renLay at h2
    cases hj : ρ[j]? with
    | none => rw [hj] at h1; simp [Block.live] at h1
    | some i =>
      rw [hj] at h1 h2
      simp only [renB_live] at h1
      exact ⟨i, rfl, h1, h2⟩
  refine ⟨renLay ρ μ, fun b => (who b).bind (fun i => ρ.idxOf? i), by rw [hn]; exact h.size, fun t => ?_, h.dfr, fun j => ?_, fun i j b d d' hi hj ei ej => ?_, fun i b d hi ei => ?_, h.keep, fun t x hp hx => h.old t x (by rw [← hn]; exact hp) (by
    rcases hs t with e | e
    · rw [e] at hx; cases hx
    · rw [e] at hx; exact ren1_g hx)⟩
  · rcases hs t with e | e
    · rw [e]; exact .undef _
    · rw [e]; exact (h.slot t).ren1 hh hl
  · rw [hh]
    cases hj : ρ[j]? with
    | none => trivial
    | some i =>
      have hB := h.blk i
      have hlay : renLay ρ μ j = μ i := by unfold renLay; rw [hj]
      show BRep w0 w (renLay ρ μ) S'.heap (fun b => (who b).bind (fun i => ρ.idxOf? i)) j (renB ρ (S.heap i))
      cases hb : S.heap i with
      | free => trivial
      | dead => trivial
      | box cs =>
        rw [hb] at hB
        obtain ⟨b, vs, t, h1, h2, h3, h4, h5⟩ := hB
        exact ⟨b, vs, t, by rw [hlay]; exact h1, h2, by simpa using h3, h4, fun k hk => by simp only [List.getElem_map]; exact (h5 k (by simpa using hk)).ren1 hh hl⟩
      | arr e dp xs =>
        rw [hb] at hB
        obtain ⟨he, hB⟩ := hB
        refine ⟨he, ?_⟩
        rw [hlay]
        cases hm : μ i with
        | none => simpa only [hm] using hB
        | some bd =>
          obtain ⟨b, d⟩ := bd
          simp only [hm] at hB ⊢
          obtain ⟨vs, t, Fs, els, h2, h3, h4, h5⟩ := hB
          refine ⟨vs, t, Fs, els, h2, h3, fun c hc hr => h4 c hc (root_ren hh hr), fun hd => ⟨(h5 hd).1, fun c hc => ⟨?_, ((h5 hd).2 c hc).2⟩⟩⟩
          rw [((h5 hd).2 c hc).1]
          simp only [Option.bind_some]
          have hjl : j < ρ.length := (List.getElem?_eq_some_iff.1 hj).1
          have hij : ρ[j] = i := (List.getElem?_eq_some_iff.1 hj).2
          cases hx : ρ.idxOf? i with
          | none =>
            have := List.idxOf?_eq_none_iff.1 hx
            exact absurd (hij ▸ List.getElem_mem hjl) this
          | some k =>
            have hk := idx_some hx
            have hkl : k < ρ.length := (List.getElem?_eq_some_iff.1 hk).1
            have hki : ρ[k] = i := (List.getElem?_eq_some_iff.1 hk).2
            have : k = j := nodup_inj hρ hkl hjl (hki.trans hij.symm)
            rw [this]
  · obtain ⟨i', h1, h2, h3⟩ := inv i b d hi ei
    obtain ⟨j', h4, h5, h6⟩ := inv j b d' hj ej
    have := h.inj i' j' b d d' h2 h5 h3 h6
    subst this
    obtain ⟨hi1, hi2⟩ := List.getElem?_eq_some_iff.1 h1
    obtain ⟨hj1, hj2⟩ := List.getElem?_eq_some_iff.1 h4
    exact nodup_inj hρ hi1 hj1 (hi2.trans hj2.symm)
  · obtain ⟨i', h1, h2, h3⟩ := inv i b d hi ei
    exact h.base i' b d h2 h3

/-- A state, written out: its slots that are known, its blocks. -/
def mkS (n : Nat) (sl : List (Nat × PV)) (bs : List Block) : AState :=
  { n := n, slots := fun t => match sl.find? (fun x => x.1 == t) with | some x => x.2 | none => .undef, heap := fun j => (bs[j]?).getD .free, nx := bs.length }

theorem Le_mk {S : AState} {n : Nat} {sl : List (Nat × PV)} {bs : List Block} (ρ : List Nat) (hρ : ρ.Nodup) (hn : n = S.n) (hl : ∀ i ∈ ρ, (S.heap i).live = true) (hb : bs = ρ.map fun i => renB ρ (S.heap i)) (hs : ∀ x ∈ sl, x.2 = ren1 ρ (S.slots x.1)) : Le S (mkS n sl bs) := by
  refine Le_norm ρ hρ hn hl (fun j => ?_) fun t => ?_
  · subst hb
    simp only [mkS, List.getElem?_map]
    cases ρ[j]? <;> rfl
  · simp only [mkS]
    cases hf : sl.find? (fun x => x.1 == t) with
    | none => exact .inl rfl
    | some x =>
      have h1 := List.find?_some hf
      have h2 := hs x (List.mem_of_find?_eq_some hf)
      simp only [beq_iff_eq] at h1
      subst h1
      exact .inr h2

end Go.Proofs.Ytdkjeodenbffnaa
