/- Search in breadth, over data of any kind. No program in sight; no conditions. -/
import Derived.Test.YtabfpoflhacknaaMN
set_option linter.unusedSimpArgs false
set_option linter.unusedVariables false
namespace Go.Proofs.Ytabfpoflhacknaa
open Go.RowKit
open Shp

theorem nodup_len : ∀ (N : Nat) (xs : List Int), xs.Nodup → (∀ x ∈ xs, 0 ≤ x ∧ x < (N : Int)) → xs.length ≤ N
  | 0, xs, _, h => by
    cases xs with
    | nil => simp
    | cons x xs => have := h x (.head _); omega
  | N + 1, xs, hn, h => by
    by_cases hm : (N : Int) ∈ xs
    · have h1 := nodup_len N (xs.erase N) (hn.erase _) fun x hx => by
        have a := List.mem_of_mem_erase hx
        have b := (hn.mem_erase_iff.1 hx).1
        have c := h x a
        omega
      rw [List.length_erase_of_mem hm] at h1
      omega
    · have h1 := nodup_len N xs hn fun x hx => by
        have c := h x hx
        have : x ≠ N := fun e => hm (e ▸ hx)
        omega
      omega
theorem nodup_map {α β : Type} {f : α → β} : ∀ {xs : List α}, xs.Nodup → (∀ x ∈ xs, ∀ y ∈ xs, f x = f y → x = y) → (xs.map f).Nodup
  | [], _, _ => by simp
  | x :: xs, hn, h => by
    rw [List.map_cons, List.nodup_cons]
    rw [List.nodup_cons] at hn
    refine ⟨fun hm => ?_, nodup_map hn.2 fun a ha b hb => h a (.tail _ ha) b (.tail _ hb)⟩
    obtain ⟨y, hy, e⟩ := List.mem_map.1 hm
    have := h y (.tail _ hy) x (.head _) e
    subst this
    exact hn.1 hy
section
variable {α : Type} [DecidableEq α]
/-- add what is not there yet -/
def addG (out : List α) : List α → List α
  | [] => out
  | x :: xs => addG (if x ∈ out then out else out ++ [x]) xs
theorem addG_ext : ∀ (xs out : List α), ∃ t, addG out xs = out ++ t
  | [], out => ⟨[], by simp [addG]⟩
  | x :: xs, out => by
    simp only [addG]
    obtain ⟨t, ht⟩ := addG_ext xs (if x ∈ out then out else out ++ [x])
    rw [ht]
    split
    · exact ⟨t, rfl⟩
    · exact ⟨x :: t, by simp⟩
theorem addG_mem : ∀ (xs out : List α) (y : α), y ∈ addG out xs ↔ y ∈ out ∨ y ∈ xs
  | [], out, y => by simp [addG]
  | x :: xs, out, y => by
    simp only [addG]
    rw [addG_mem xs]
    split
    · rename_i h
      simp only [List.mem_cons]
      constructor
      · rintro (a | a)
        · exact .inl a
        · exact .inr (.inr a)
      · rintro (a | rfl | a)
        · exact .inl a
        · exact .inl h
        · exact .inr a
    · simp only [List.mem_append, List.mem_cons, List.not_mem_nil, or_false]
      constructor
      · rintro ((a | a) | a)
        · exact .inl a
        · exact .inr (.inl a)
        · exact .inr (.inr a)
      · rintro (a | a | a)
        · exact .inl (.inl a)
        · exact .inl (.inr a)
        · exact .inr a
theorem nodup_snoc {β : Type} {out : List β} {x : β} (h : out.Nodup) (hx : x ∉ out) : (out ++ [x]).Nodup := by
  rw [List.nodup_append]
  refine ⟨h, by simp, fun a ha b hb e => ?_⟩
  simp only [List.mem_singleton] at hb
  subst hb; subst e; exact hx ha
theorem addG_nodup : ∀ (xs out : List α), out.Nodup → (addG out xs).Nodup
  | [], out, h => h
  | x :: xs, out, h => by
    simp only [addG]
    refine addG_nodup xs _ ?_
    split
    · exact h
    · rename_i h2; exact nodup_snoc h h2
/-- what is found from place k on -/
def bfsG (next : α → List α) [Inhabited α] : Nat → Nat → List α → List α
  | 0, _, out => out
  | f + 1, k, out => if k < out.length then bfsG next f (k + 1) (addG out (next (nth out k))) else out
variable [Inhabited α]
theorem addG_drop {out xs : List α} {i : Nat} (h : i < xs.length) : addG out (xs.drop i) = addG (if nth xs i ∈ out then out else out ++ [nth xs i]) (xs.drop (i + 1)) := by rw [drop_nth h]; rfl
theorem addG_end {β : Type} [DecidableEq β] {out xs : List β} {i : Nat} (h : xs.length ≤ i) : addG out (xs.drop i) = out := by rw [List.drop_eq_nil_of_le h]; rfl
theorem bfsG_end {next : α → List α} {f k : Nat} {out : List α} (h : out.length ≤ k) : bfsG next f k out = out := by
  cases f with
  | zero => rfl
  | succ f => simp only [bfsG]; rw [if_neg (by omega)]
theorem bfsG_step {next : α → List α} {N k : Nat} {out : List α} (h : k < out.length) (h2 : out.length ≤ N) : bfsG next (N - k) k out = bfsG next (N - (k + 1)) (k + 1) (addG out (next (nth out k))) := by
  have : N - k = (N - (k + 1)) + 1 := by omega
  rw [this]; simp only [bfsG]; rw [if_pos h]
theorem bfsG_ext {next : α → List α} : ∀ (f k : Nat) (out : List α), ∃ t, bfsG next f k out = out ++ t
  | 0, _, out => ⟨[], by simp [bfsG]⟩
  | f + 1, k, out => by
    simp only [bfsG]
    split
    · obtain ⟨t, ht⟩ := bfsG_ext (next := next) f (k + 1) (addG out (next (nth out k)))
      obtain ⟨t2, h2⟩ := addG_ext (next (nth out k)) out
      exact ⟨t2 ++ t, by rw [ht, h2, List.append_assoc]⟩
    · exact ⟨[], by simp⟩
/-- what all have that are found -/
theorem bfsG_ind {next : α → List α} {P : α → Prop} (hp : ∀ x, P x → ∀ y ∈ next x, P y) : ∀ (f k : Nat) (out : List α), (∀ x ∈ out, P x) → ∀ x ∈ bfsG next f k out, P x
  | 0, _, out, h => h
  | f + 1, k, out, h => by
    simp only [bfsG]
    split
    · rename_i hk
      refine bfsG_ind hp f (k + 1) _ fun x hx => ?_
      rcases (addG_mem _ _ _).1 hx with a | a
      · exact h x a
      · exact hp _ (h _ (nth_mem hk)) x a
    · exact h
theorem bfsG_nodup {next : α → List α} : ∀ (f k : Nat) (out : List α), out.Nodup → (bfsG next f k out).Nodup
  | 0, _, out, h => h
  | f + 1, k, out, h => by
    simp only [bfsG]
    split
    · exact bfsG_nodup f (k + 1) _ (addG_nodup _ _ h)
    · exact h
end
/-! two searches, step by step -/
section
variable {α β : Type} [DecidableEq α] [DecidableEq β] [Inhabited α] [Inhabited β]
/-- place by place -/
def Ev (Z : α → β → Prop) (xs : List α) (ys : List β) : Prop := xs.length = ys.length ∧ ∀ i, i < xs.length → Z (nth xs i) (nth ys i)
def Bi (Z : α → β → Prop) : Prop := ∀ u v u2 v2, Z u v → Z u2 v2 → (u = u2 ↔ v = v2)
theorem nthA1 {α : Type} [Inhabited α] {xs ys : List α} {i : Nat} (h : i < xs.length) : nth (xs ++ ys) i = nth xs i := by unfold nth; simp only [List.getD_eq_getElem?_getD]; rw [List.getElem?_append_left h]
theorem nthA2 {α : Type} [Inhabited α] {xs ys : List α} {i : Nat} (h : xs.length ≤ i) : nth (xs ++ ys) i = nth ys (i - xs.length) := by unfold nth; simp only [List.getD_eq_getElem?_getD]; rw [List.getElem?_append_right h]
theorem Ev.snoc {γ δ : Type} [Inhabited γ] [Inhabited δ] {Z : γ → δ → Prop} {xs : List γ} {ys : List δ} (h : Ev Z xs ys) {x : γ} {y : δ} (hz : Z x y) : Ev Z (xs ++ [x]) (ys ++ [y]) := by
  refine ⟨by simp [h.1], fun i hi => ?_⟩
  rw [List.length_append, List.length_singleton] at hi
  by_cases e : i < xs.length
  · rw [nthA1 e, nthA1 (by rw [← h.1]; exact e)]; exact h.2 i e
  · obtain rfl : i = xs.length := by omega
    rw [nthA2 (by omega), nthA2 (by rw [h.1]; omega), h.1, Nat.sub_self]; exact hz
theorem Ev.mem {γ δ : Type} [Inhabited γ] [Inhabited δ] {Z : γ → δ → Prop} (hb : Bi Z) {xs : List γ} {ys : List δ} (h : Ev Z xs ys) {x : γ} {y : δ} (hz : Z x y) : x ∈ xs ↔ y ∈ ys := by
  constructor
  · intro hx
    obtain ⟨i, hi, rfl⟩ := mem_nth hx
    rw [(hb _ _ _ _ hz (h.2 i hi)).1 rfl]
    exact nth_mem (by rw [← h.1]; exact hi)
  · intro hy
    obtain ⟨i, hi, rfl⟩ := mem_nth hy
    rw [← h.1] at hi
    rw [(hb _ _ _ _ hz (h.2 i hi)).2 rfl]
    exact nth_mem hi
theorem Ev.addG {Z : α → β → Prop} (hb : Bi Z) : ∀ {rs : List α} {ss : List β} {xs : List α} {ys : List β}, Ev Z rs ss → Ev Z xs ys → Ev Z (addG xs rs) (addG ys ss)
  | [], [], xs, ys, _, h => h
  | r :: rs, s :: ss, xs, ys, hr, h => by
    have h0 := hr.2 0 (by simp)
    simp only [nth, List.getD_cons_zero] at h0
    have h1 : Ev Z rs ss := ⟨by simpa using hr.1, fun i hi => by have := hr.2 (i + 1) (by simpa using hi); simpa [nth] using this⟩
    unfold Go.Proofs.Ytabfpoflhacknaa.addG
    refine Ev.addG hb h1 ?_
    by_cases e : r ∈ xs
    · rw [if_pos e, if_pos ((h.mem hb h0).1 e)]; exact h
    · rw [if_neg e, if_neg fun x => e ((h.mem hb h0).2 x)]; exact h.snoc h0
  | [], s :: ss, _, _, hr, _ => by have := hr.1; simp at this
  | r :: rs, [], _, _, hr, _ => by have := hr.1; simp at this
theorem Ev.bfsG {Z : α → β → Prop} (hb : Bi Z) {na : α → List α} {nb : β → List β} (hs : ∀ u v, Z u v → Ev Z (na u) (nb v)) : ∀ (f k : Nat) {xs : List α} {ys : List β}, Ev Z xs ys → Ev Z (bfsG na f k xs) (bfsG nb f k ys)
  | 0, _, xs, ys, h => h
  | f + 1, k, xs, ys, h => by
    unfold Go.Proofs.Ytabfpoflhacknaa.bfsG
    by_cases e : k < xs.length
    · rw [if_pos e, if_pos (by rw [← h.1]; exact e)]
      exact Ev.bfsG hb hs f (k + 1) (Ev.addG hb (hs _ _ (h.2 k e)) h)
    · rw [if_neg e, if_neg (by rw [← h.1]; exact e)]; exact h
end
end Go.Proofs.Ytabfpoflhacknaa

