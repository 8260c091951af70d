/- Both programs' tests of trees say the same. No program in sight; no conditions. -/
import Derived.Test.YtbjonekgeidoiaaTR
set_option linter.unusedSimpArgs false
set_option linter.unusedVariables false
namespace Go.Proofs.Ytbjonekgeidoiaa
open Go.RowKit
open Shp

theorem asc_nodup {xs : List Int} (h : Asc xs) : xs.Nodup := List.Pairwise.imp (fun h => by omega) h
theorem lessZ_mem {xs ys : List Int} {v : Int} : v ∈ lessZ xs ys ↔ v ∈ xs ∧ v ∉ ys := by
  unfold lessZ; rw [List.mem_filter, Bool.not_eq_true', ← Bool.not_eq_true, has_iff]
theorem lessZ_nil {xs ys : List Int} : lessZ xs ys = [] ↔ ∀ v ∈ xs, v ∈ ys := by
  rw [List.eq_nil_iff_forall_not_mem]
  constructor
  · intro h v hv
    apply Classical.byContradiction; intro hn
    exact h v (lessZ_mem.2 ⟨hv, hn⟩)
  · intro h v hv
    have := lessZ_mem.1 hv
    exact this.2 (h v this.1)
theorem bothF_ins {u v : List Int} (hu : Asc u) (hv : Asc v) : bothF u v = insL u v := by
  unfold bothF
  rw [lessF_asc hu]
  have hn : (u ++ lessZ v u).Nodup := List.nodup_append.2 ⟨asc_nodup hu, (asc_nodup hv).sublist List.filter_sublist, fun a ha b hb e => by
    subst e; exact (lessZ_mem.1 hb).2 ha⟩
  have hp : (sortZ (u ++ lessZ v u)).Nodup := (List.mergeSort_perm _ _).nodup_iff.2 hn
  have ha : Asc (sortZ (u ++ lessZ v u)) := (List.Pairwise.and (sortZ_le (xs := u ++ lessZ v u)) hp).imp fun h => by omega
  refine asc_eq ha (insL_asc hu) fun x => ?_
  rw [sortZ_mem, insL_mem, List.mem_append, lessZ_mem]
  constructor
  · rintro (h | h)
    · exact .inl h
    · exact .inr h.1
  · rintro (h | h)
    · exact .inl h
    · by_cases e : x ∈ u
      · exact .inl e
      · exact .inr ⟨h, e⟩
theorem ins_len {u v : List Int} (hu : Asc u) (hv : Asc v) : (insL u v).length = u.length + (lessZ v u).length := by
  rw [← bothF_ins hu hv]; unfold bothF; rw [sortZ_len, List.length_append, lessF_asc hu]
theorem ins_swap {u v : List Int} (hu : Asc u) (hv : Asc v) : insL u v = insL v u := asc_eq (insL_asc hu) (insL_asc hv) fun x => by rw [insL_mem, insL_mem]; exact Or.comm
theorem sub_len {u v : List Int} (hu : Asc u) (hv : Asc v) (h : lessZ u v = []) : u.length ≤ v.length := by
  have h1 := ins_len hv hu
  have h2 := ins_len hu hv
  rw [ins_swap hv hu, h] at h1
  simp at h1; omega
theorem meet_len {u v : List Int} (hu : Asc u) (hv : Asc v) : meetF u v = true ↔ (insL u v).length < u.length + v.length := by
  rw [meetF_asc hv, ins_len hu hv, meetB_iff]
  have h := @meetB_of v u
  rw [Bool.eq_iff_iff, decide_eq_true_eq, meetB_iff] at h
  constructor
  · rintro ⟨x, h1, h2⟩
    have := h.2 ⟨x, h2, h1⟩
    omega
  · intro hl
    obtain ⟨x, h1, h2⟩ := h.1 (by omega)
    exact ⟨x, h2, h1⟩
section
variable {G : Int} {ps : List Int} {ls : List (List Int)} {ms : List Int} {i : Nat}
theorem manyK_add {a : Int} : ∀ (f k m : Nat), manyK ps ls a f k m = m + manyK ps ls a f k 0
  | 0, _, m => by simp [manyK]
  | f + 1, k, m => by
    simp only [manyK]
    rw [manyK_add f (k + 1) (if nth ps k = a then m + (nth ls k).length else m), manyK_add f (k + 1) (if nth ps k = a then 0 + (nth ls k).length else 0)]
    split <;> omega
theorem unK_le (hL : LabsOk G ls) {a : Int} : ∀ (f k : Nat) (u : List Int), k + f ≤ ls.length → SetOk48 u → (unK ps ls a f k u).length ≤ u.length + manyK ps ls a f k 0
  | 0, _, u, _, _ => by simp [unK, manyK]
  | f + 1, k, u, hk, hu => by
    simp only [unK, manyK]
    by_cases hp : nth ps k = a
    · rw [if_pos hp, if_pos hp, manyK_add]
      have h1 := unK_le hL (a := a) f (k + 1) _ (by omega) (hu.ins hL (k := k) (by omega))
      have h2 := ins_len hu.1 (hL.at (k := k) (by omega)).1
      have h3 := lessZ_len (xs := nth ls k) (ys := u)
      omega
    · rw [if_neg hp, if_neg hp]
      exact unK_le hL (a := a) f (k + 1) u (by omega) hu
theorem kid_iff (hL : LabsOk G ls) (hi : i < ls.length) : ∀ (f k : Nat) (u : List Int), k + f ≤ ls.length → SetOk48 u →
    (kidF ps ls ms i f k u = true ↔ (nth ms i = 1 → ∀ j, k ≤ j → j < k + f → nth ps j ≠ (i : Int)) ∧ u.length + manyK ps ls i f k 0 = (unK ps ls i f k u).length ∧ (∀ j, k ≤ j → j < k + f → nth ps j = (i : Int) → lessZ (nth ls j) (nth ls i) = []) ∧ (unK ps ls i f k u).length ≠ (nth ls i).length)
  | 0, k, u, _, _ => by
    simp only [kidF, unK, manyK, Bool.not_eq_true', decide_eq_false_iff_not]
    constructor
    · intro h; exact ⟨fun _ j h1 h2 => by omega, rfl, fun j h1 h2 => by omega, h⟩
    · rintro ⟨_, _, _, h⟩; exact h
  | f + 1, k, u, hk, hu => by
    have hak := hL.at (k := k) (by omega)
    have hai := hL.at hi
    simp only [kidF, unK, manyK]
    by_cases hp : nth ps k = (i : Int)
    · rw [if_pos hp, if_pos hp, if_pos hp, manyK_add]
      have hlen := unK_le hL (ps := ps) (a := (i : Int)) f (k + 1) _ (by omega) (hu.ins hL (k := k) (by omega))
      by_cases hbad : nth ms i = 1 ∨ meetF u (nth ls k) = true ∨ 0 < (lessF (nth ls k) (nth ls i)).length
      · rw [if_pos hbad]
        constructor
        · intro h; cases h
        · rintro ⟨h1, h2, h3, _⟩
          exfalso
          rcases hbad with h | h | h
          · exact h1 h k (Nat.le_refl _) (by omega) hp
          · have := (meet_len hu.1 hak.1).1 h
            omega
          · rw [lessF_asc hai.1, h3 k (Nat.le_refl _) (by omega) hp] at h
            simp at h
      · rw [if_neg hbad]
        have hb1 : ¬ nth ms i = 1 := fun h => hbad (.inl h)
        have hb2 : ¬ meetF u (nth ls k) = true := fun h => hbad (.inr (.inl h))
        have hb3 : lessZ (nth ls k) (nth ls i) = [] := by
          rw [← lessF_asc hai.1]
          apply List.eq_nil_of_length_eq_zero
          have : ¬ 0 < (lessF (nth ls k) (nth ls i)).length := fun h => hbad (.inr (.inr h))
          omega
        have h5 : (insL u (nth ls k)).length = u.length + (nth ls k).length := by
          have h6 := ins_len hu.1 hak.1
          have h7 := lessZ_len (xs := nth ls k) (ys := u)
          have h8 : ¬ (insL u (nth ls k)).length < u.length + (nth ls k).length := fun h => hb2 ((meet_len hu.1 hak.1).2 h)
          omega
        rw [bothF_ins hu.1 hak.1, kid_iff hL hi f (k + 1) _ (by omega) (hu.ins hL (k := k) (by omega))]
        constructor
        · rintro ⟨h1, h2, h3, h4⟩
          refine ⟨fun h => absurd h hb1, by omega, fun j hj1 hj2 hj3 => ?_, h4⟩
          by_cases e : j = k
          · rw [e]; exact hb3
          · exact h3 j (by omega) (by omega) hj3
        · rintro ⟨h1, h2, h3, h4⟩
          exact ⟨fun h => absurd h hb1, by omega, fun j hj1 hj2 hj3 => h3 j (by omega) (by omega) hj3, h4⟩
    · rw [if_neg hp, if_neg hp, if_neg hp, kid_iff hL hi f (k + 1) u (by omega) hu]
      constructor
      · rintro ⟨h1, h2, h3, h4⟩
        refine ⟨fun h j hj1 hj2 => ?_, h2, fun j hj1 hj2 hj3 => ?_, h4⟩
        · by_cases e : j = k
          · rw [e]; exact hp
          · exact h1 h j (by omega) (by omega)
        · by_cases e : j = k
          · rw [e] at hj3; exact absurd hj3 hp
          · exact h3 j (by omega) (by omega) hj3
      · rintro ⟨h1, h2, h3, h4⟩
        exact ⟨fun h j hj1 hj2 => h1 h j (by omega) (by omega), h2, fun j hj1 hj2 hj3 => h3 j (by omega) (by omega) hj3, h4⟩
theorem unK_skip {a : Int} : ∀ (d f k : Nat) (u : List Int), (∀ j, k ≤ j → j < k + d → nth ps j ≠ a) → unK ps ls a (d + f) k u = unK ps ls a f (k + d) u
  | 0, f, k, u, _ => by rw [Nat.zero_add, Nat.add_zero]
  | d + 1, f, k, u, h => by
    rw [show d + 1 + f = (d + f) + 1 by omega]
    simp only [unK]
    rw [if_neg (h k (Nat.le_refl _) (by omega)), unK_skip d f (k + 1) u fun j h1 h2 => h j (by omega) (by omega), show k + 1 + d = k + (d + 1) by omega]
theorem manyK_skip {a : Int} : ∀ (d f k m : Nat), (∀ j, k ≤ j → j < k + d → nth ps j ≠ a) → manyK ps ls a (d + f) k m = manyK ps ls a f (k + d) m
  | 0, f, k, u, _ => by rw [Nat.zero_add, Nat.add_zero]
  | d + 1, f, k, u, h => by
    rw [show d + 1 + f = (d + f) + 1 by omega]
    simp only [manyK]
    rw [if_neg (h k (Nat.le_refl _) (by omega)), manyK_skip d f (k + 1) u fun j h1 h2 => h j (by omega) (by omega), show k + 1 + d = k + (d + 1) by omega]
theorem unK_mem {a v : Int} : ∀ (f k : Nat) (u : List Int), v ∈ unK ps ls a f k u ↔ v ∈ u ∨ ∃ j, k ≤ j ∧ j < k + f ∧ nth ps j = a ∧ v ∈ nth ls j
  | 0, k, u => by
    simp only [unK]
    constructor
    · exact .inl
    · rintro (h | ⟨j, h1, h2, _⟩)
      · exact h
      · omega
  | f + 1, k, u => by
    simp only [unK]
    rw [unK_mem f (k + 1)]
    by_cases hp : nth ps k = a
    · rw [if_pos hp, insL_mem]
      constructor
      · rintro ((h | h) | ⟨j, h1, h2, h3, h4⟩)
        · exact .inl h
        · exact .inr ⟨k, Nat.le_refl _, by omega, hp, h⟩
        · exact .inr ⟨j, by omega, by omega, h3, h4⟩
      · rintro (h | ⟨j, h1, h2, h3, h4⟩)
        · exact .inl (.inl h)
        · by_cases e : j = k
          · subst e; exact .inl (.inr h4)
          · exact .inr ⟨j, by omega, by omega, h3, h4⟩
    · rw [if_neg hp]
      constructor
      · rintro (h | ⟨j, h1, h2, h3, h4⟩)
        · exact .inl h
        · exact .inr ⟨j, by omega, by omega, h3, h4⟩
      · rintro (h | ⟨j, h1, h2, h3, h4⟩)
        · exact .inl h
        · by_cases e : j = k
          · subst e; exact absurd h3 hp
          · exact .inr ⟨j, by omega, by omega, h3, h4⟩
theorem manyK_zero {a : Int} : ∀ (f k : Nat), (∀ j, k ≤ j → j < k + f → nth ps j = a → 1 ≤ (nth ls j).length) → (manyK ps ls a f k 0 = 0 ↔ ∀ j, k ≤ j → j < k + f → nth ps j ≠ a)
  | 0, k, _ => by
    simp only [manyK, true_iff]
    intro j h1 h2; omega
  | f + 1, k, h => by
    simp only [manyK]
    have ih := manyK_zero (a := a) f (k + 1) fun j h1 h2 h3 => h j (by omega) (by omega) h3
    by_cases hp : nth ps k = a
    · rw [if_pos hp, manyK_add]
      have := h k (Nat.le_refl _) (by omega) hp
      constructor
      · intro e; omega
      · intro hn; exact absurd hp (hn k (Nat.le_refl _) (by omega))
    · rw [if_neg hp, ih]
      constructor
      · intro hn j h1 h2
        by_cases e : j = k
        · rw [e]; exact hp
        · exact hn j (by omega) (by omega)
      · intro hn j h1 h2; exact hn j (by omega) (by omega)
/-- the node's sets, either way -/
theorem node_same (hL : LabsOk G ls) (hl : ls.length = ps.length) (hi : i < ps.length) (hp : ParOk ps ps.length) (h1 : ∀ k, k < ls.length → 1 ≤ (nth ls k).length) : kidF ps ls ms i (ps.length - (i + 1)) (i + 1) [] = nodeF ps ls ms i := by
  have hno : ∀ j, 0 ≤ j → j < 0 + (i + 1) → nth ps j ≠ (i : Int) := fun j _ hj e => by
    have := hp j (by omega); omega
  have eu := unK_skip (ps := ps) (ls := ls) (a := (i : Int)) (i + 1) (ps.length - (i + 1)) 0 [] hno
  have em := manyK_skip (ps := ps) (ls := ls) (a := (i : Int)) (i + 1) (ps.length - (i + 1)) 0 0 hno
  rw [show i + 1 + (ps.length - (i + 1)) = ps.length by omega, Nat.zero_add] at eu em
  have hU : SetOk48 (unK ps ls i ps.length 0 []) := unK_ok hL _ _ _ (by omega) nil48
  have hz := manyK_zero (ps := ps) (ls := ls) (a := (i : Int)) (ps.length - (i + 1)) (i + 1) fun j _ h2 _ => h1 j (by omega)
  have hai := hL.at (k := i) (by omega)
  rw [Bool.eq_iff_iff, kid_iff hL (by omega) _ _ _ (by omega) nil48, ← eu, ← em]
  rw [← em] at hz
  unfold nodeF
  simp only [Bool.and_eq_true, Bool.or_eq_true, decide_eq_true_eq, Bool.not_eq_true', Bool.and_eq_false_iff, decide_eq_false_iff_not, List.length_nil, Nat.zero_add]
  have hpart : (∀ j, i + 1 ≤ j → j < i + 1 + (ps.length - (i + 1)) → nth ps j = (i : Int) → lessZ (nth ls j) (nth ls i) = []) ↔ lessZ (unK ps ls i ps.length 0 []) (nth ls i) = [] := by
    rw [lessZ_nil, eu]
    constructor
    · intro h v hv
      rcases (unK_mem _ _ _).1 hv with hv | ⟨j, a1, a2, a3, a4⟩
      · simp at hv
      · exact lessZ_nil.1 (h j a1 a2 a3) v a4
    · intro h j a1 a2 a3
      exact lessZ_nil.2 fun v hv => h v ((unK_mem _ _ _).2 (.inr ⟨j, a1, a2, a3, hv⟩))
  rw [hpart]
  have hl1 := h1 i (by omega)
  constructor
  · rintro ⟨a, b, c, d⟩
    have hle := sub_len hU.1 hai.1 c
    refine ⟨⟨⟨b, c⟩, ?_⟩, .inr (by omega)⟩
    by_cases e : nth ms i = 1
    · have := hz.2 (a e); exact .inr (by omega)
    · exact .inl e
  · rintro ⟨⟨⟨b, c⟩, d⟩, e⟩
    refine ⟨fun hm => hz.1 ?_, b, c, fun hh => ?_⟩
    · rcases d with d | d
      · exact absurd hm d
      · omega
    · rcases e with e | e
      · rcases d with d | d
        · exact d e
        · omega
      · omega
end
section
variable {G : Int} {ns ps : List Int} {ls : List (List Int)} {ms : List Int}
theorem treeF_iff : treeF G ns ps ls ms = true ↔ (ps.length = ns.length ∧ ls.length = ns.length ∧ ms.length = ns.length) ∧ ∀ i, i < ns.length → rowF G ns ps ls ms i = true := by
  unfold treeF
  simp only [Bool.and_eq_true, decide_eq_true_eq, allN_iff, and_assoc]
theorem rowF_iff {i : Nat} : rowF G ns ps ls ms i = true ↔ (0 ≤ nth ns i ∧ nth ns i < 8) ∧ has (ns.take i) (nth ns i) = false ∧ (0 ≤ nth ms i ∧ nth ms i ≤ 1) ∧ rises (nth ls i) G = true ∧ 1 ≤ (nth ls i).length ∧ placedF ps i = true ∧ kidF ps ls ms i (ns.length - (i + 1)) (i + 1) [] = true := by
  unfold rowF
  simp only [Bool.and_eq_true, decide_eq_true_eq, Bool.not_eq_true', and_assoc]
theorem treeS_iff : treeS G ns ps ls ms = true ↔ (ns.length ≤ 8 ∧ ps.length = ns.length ∧ ls.length = ns.length ∧ ms.length = ns.length) ∧ (∀ i, i < ns.length → srowF ns ps ms i = true) ∧ (∀ i, i < ls.length → 1 ≤ (nth ls i).length ∧ rises (nth ls i) G = true) ∧ ∀ i, i < ls.length → nodeF ps ls ms i = true := by
  unfold treeS shapeF labF
  simp only [Bool.and_eq_true, decide_eq_true_eq, allN_iff, and_assoc]
theorem names_few (h : ∀ i, i < ns.length → (0 ≤ nth ns i ∧ nth ns i < 8) ∧ has (ns.take i) (nth ns i) = false) : ns.length ≤ 8 := by
  refine nodup_len 8 ns ?_ fun v hv => ?_
  · rw [List.nodup_iff_pairwise_ne, List.pairwise_iff_getElem]
    intro a b ha hb hab e
    have h2 := (h b hb).2
    rw [← Bool.not_eq_true, has_iff] at h2
    refine h2 ?_
    rw [nth_eq hb, ← e]
    exact List.mem_take_iff_getElem.2 ⟨a, by omega, rfl⟩
  · obtain ⟨j, hj, rfl⟩ := mem_nth hv
    have := (h j hj).1; omega
theorem tree_same (hG : 0 ≤ G ∧ G ≤ 48) : treeF G ns ps ls ms = treeS G ns ps ls ms := by
  rw [Bool.eq_iff_iff, treeF_iff, treeS_iff]
  constructor
  · rintro ⟨⟨h1, h2, h3⟩, hr⟩
    have hr' := fun i hi => rowF_iff.1 (hr i hi)
    have hpar : ∀ i, i ≤ ns.length → ParOk ps i := by
      intro i
      induction i with
      | zero => intro _ j hj; omega
      | succ i ih => intro hi; exact placed_par (ih (by omega)) (hr' i (by omega)).2.2.2.2.2.1
    have hL : LabsOk G ls := ⟨hG.1, hG.2, fun k hk => (hr' k (by omega)).2.2.2.1⟩
    refine ⟨⟨names_few fun i hi => ⟨(hr' i hi).1, (hr' i hi).2.1⟩, h1, h2, h3⟩, fun i hi => srow_iff.2 ?_, fun i hi => ⟨(hr' i (by omega)).2.2.2.2.1, (hr' i (by omega)).2.2.2.1⟩, fun i hi => ?_⟩
    · obtain ⟨a, b, c, _, _, p, _⟩ := hr' i hi
      have hp := hpar (i + 1) (by omega) i (by omega)
      refine ⟨by omega, c, by omega, ?_, ?_, b⟩
      · unfold placedF at p
        split at p
        · rename_i e; rw [decide_eq_true_eq] at p; subst e; omega
        · have := upF_in _ _ (fun j hj => hpar i (by omega) j (by omega)) p; omega
      · unfold placedF at p
        split at p
        · rename_i e; exact .inl e
        · exact .inr p
    · rw [← node_same hL (by omega) (by omega) (by rw [h1]; exact hpar _ (Nat.le_refl _)) fun k hk => (hr' k (by omega)).2.2.2.2.1, h1]
      exact (hr' i (by omega)).2.2.2.2.2.2
  · rintro ⟨⟨h0, h1, h2, h3⟩, hs, hlab, hn⟩
    have hpar : ∀ i, i ≤ ns.length → ParOk ps i := by
      intro i
      induction i with
      | zero => intro _ j hj; omega
      | succ i ih => intro hi; exact srow_par (ih (by omega)) (hs i (by omega))
    have hL : LabsOk G ls := ⟨hG.1, hG.2, fun k hk => (hlab k hk).2⟩
    refine ⟨⟨h1, h2, h3⟩, fun i hi => rowF_iff.2 ?_⟩
    obtain ⟨a, c, d, e, g, b⟩ := srow_iff.1 (hs i hi)
    refine ⟨by omega, b, c, (hlab i (by omega)).2, (hlab i (by omega)).1, ?_, ?_⟩
    · unfold placedF
      by_cases e0 : i = 0
      · rw [if_pos e0, decide_eq_true_eq]; subst e0; omega
      · rw [if_neg e0]
        rcases g with g | g
        · exact absurd g e0
        · exact g
    · have := node_same (ps := ps) (ms := ms) hL (by omega) (i := i) (by omega) (by rw [h1]; exact hpar _ (Nat.le_refl _)) fun k hk => (hlab k hk).1
      rw [h1] at this
      rw [this]; exact hn i (by omega)
end
end Go.Proofs.Ytbjonekgeidoiaa

