/- Trees: the tests of both programs. No program in sight; no conditions. -/
import Derived.Test.YtbjonekgeidoiaaPB
set_option linter.unusedSimpArgs false
set_option linter.unusedVariables false
namespace Go.Proofs.Ytbjonekgeidoiaa
open Go.RowKit
open Shp

/-- the library's search, whatever the order -/
def bsGo (xs : List Int) (x : Int) : Nat → Nat → Nat → Nat
  | 0, i, _ => i
  | f + 1, i, j => if i < j then (if nth xs ((i + j) / 2) < x then bsGo xs x f ((i + j) / 2 + 1) j else bsGo xs x f i ((i + j) / 2)) else i
theorem bsGo_more {xs : List Int} {x : Int} : ∀ (f i j : Nat), j ≤ i + f → bsGo xs x (f + 1) i j = bsGo xs x f i j
  | 0, i, j, h => by simp only [bsGo]; rw [if_neg (by omega)]
  | f + 1, i, j, h => by
    rw [bsGo]
    conv => rhs; rw [bsGo]
    split
    · split
      · exact bsGo_more f _ _ (by omega)
      · exact bsGo_more f _ _ (by omega)
    · rfl
theorem bsGo_lt {xs : List Int} {x : Int} {i j : Nat} (h : i < j) (hj : j ≤ xs.length) (hx : nth xs ((i + j) / 2) < x) : bsGo xs x xs.length i j = bsGo xs x xs.length ((i + j) / 2 + 1) j := by
  obtain ⟨f, hf⟩ : ∃ f, xs.length = f + 1 := ⟨xs.length - 1, by omega⟩
  rw [hf, bsGo_more f ((i + j) / 2 + 1) j (by omega)]
  conv => lhs; rw [bsGo]
  rw [if_pos h, if_pos hx]
theorem bsGo_ge {xs : List Int} {x : Int} {i j : Nat} (h : i < j) (hj : j ≤ xs.length) (hx : ¬ nth xs ((i + j) / 2) < x) : bsGo xs x xs.length i j = bsGo xs x xs.length i ((i + j) / 2) := by
  obtain ⟨f, hf⟩ : ∃ f, xs.length = f + 1 := ⟨xs.length - 1, by omega⟩
  rw [hf, bsGo_more f i ((i + j) / 2) (by omega)]
  conv => lhs; rw [bsGo]
  rw [if_pos h, if_neg hx]
theorem bsGo_end {xs : List Int} {x : Int} {f i j : Nat} (h : j ≤ i) : bsGo xs x f i j = i := by
  cases f with
  | zero => rfl
  | succ f => simp only [bsGo]; rw [if_neg (by omega)]
def bsI (xs : List Int) (x : Int) : Nat := bsGo xs x xs.length 0 xs.length
def bsB (xs : List Int) (x : Int) : Bool := decide (bsI xs x < xs.length) && decide (nth xs (bsI xs x) = x)
/-- in an ascending list it finds what is there -/
theorem bsGo_asc {xs : List Int} {x : Int} (h : Asc xs) : ∀ (f i j : Nat), j ≤ i + f → i ≤ j → j ≤ xs.length → (∀ k, k < i → nth xs k < x) → (∀ k, j ≤ k → k < xs.length → x ≤ nth xs k) → (∀ k, k < bsGo xs x f i j → nth xs k < x) ∧ (∀ k, bsGo xs x f i j ≤ k → k < xs.length → x ≤ nth xs k) ∧ bsGo xs x f i j ≤ xs.length
  | 0, i, j, h1, h2, h3, h4, h5 => by
    have : i = j := by omega
    subst this
    exact ⟨h4, h5, by show i ≤ _; omega⟩
  | f + 1, i, j, h1, h2, h3, h4, h5 => by
    have mono : ∀ a b, a ≤ b → b < xs.length → nth xs a ≤ nth xs b := fun a b hab hb => by
      rcases Nat.lt_or_ge a b with h6 | h6
      · have := List.pairwise_iff_getElem.1 h a b (by omega) hb h6
        rw [nth_eq (by omega), nth_eq hb]; omega
      · rw [show a = b by omega]; omega
    rw [bsGo]
    split
    · rename_i hij
      split
      · rename_i hx
        exact bsGo_asc h f _ _ (by omega) (by omega) h3 (fun k hk => by have := mono k ((i + j) / 2) (by omega) (by omega); omega) h5
      · rename_i hx
        exact bsGo_asc h f _ _ (by omega) (by omega) (by omega) h4 (fun k hk hk2 => by have := mono ((i + j) / 2) k hk hk2; omega)
    · have : i = j := by omega
      subst this
      exact ⟨h4, h5, by omega⟩
theorem bsB_asc {xs : List Int} {x : Int} (h : Asc xs) : bsB xs x = has xs x := by
  obtain ⟨h1, h2, h3⟩ := bsGo_asc (x := x) h xs.length 0 xs.length (by omega) (by omega) (Nat.le_refl _) (fun k hk => by omega) (fun k hk hk2 => by omega)
  change (∀ k, k < bsI xs x → _) at h1
  change (∀ k, bsI xs x ≤ k → _) at h2
  rw [Bool.eq_iff_iff, has_iff]
  unfold bsB
  rw [Bool.and_eq_true, decide_eq_true_eq, decide_eq_true_eq]
  constructor
  · rintro ⟨h4, h5⟩; rw [← h5]; exact nth_mem h4
  · intro hx
    obtain ⟨k, hk, rfl⟩ := mem_nth hx
    have h4 : bsI xs (nth xs k) ≤ k := by
      apply Classical.byContradiction; intro hn
      have := h1 k (by omega); omega
    refine ⟨by omega, ?_⟩
    have h5 := h2 _ (Nat.le_refl _) (by omega)
    rcases Nat.lt_or_ge (bsI xs (nth xs k)) k with h6 | h6
    · have := List.pairwise_iff_getElem.1 h _ k (by omega) hk h6
      rw [nth_eq (show bsI xs (nth xs k) < xs.length by omega)] at h5 ⊢
      have e := nth_eq hk
      omega
    · rw [show bsI xs (nth xs k) = k by omega]
/-- as the program takes less, meets and joins, whatever the lists -/
def lessF (xs ys : List Int) : List Int := xs.filter fun x => !bsB ys x
def meetF (xs ys : List Int) : Bool := decide ((lessF xs ys).length < xs.length)
def bothF (xs ys : List Int) : List Int := sortZ (xs ++ lessF ys xs)
theorem lessF_len {xs ys : List Int} : (lessF xs ys).length ≤ xs.length := List.length_filter_le _ _
theorem lessF_yes {xs ys : List Int} {i : Nat} (h : i < xs.length) (hh : bsB ys (nth xs i) = false) : lessF (xs.take (i + 1)) ys = lessF (xs.take i) ys ++ [nth xs i] := by
  unfold lessF; rw [take_nth h, List.filter_append]; simp [hh]
theorem lessF_no {xs ys : List Int} {i : Nat} (h : i < xs.length) (hh : bsB ys (nth xs i) = true) : lessF (xs.take (i + 1)) ys = lessF (xs.take i) ys := by
  unfold lessF; rw [take_nth h, List.filter_append]; simp [hh]
theorem bothF_len {xs ys : List Int} : (bothF xs ys).length ≤ xs.length + ys.length := by
  unfold bothF; rw [sortZ_len, List.length_append]; have := lessF_len (xs := ys) (ys := xs); omega
theorem lessF_asc {xs ys : List Int} (h : Asc ys) : lessF xs ys = lessZ xs ys := by
  unfold lessF lessZ; congr 1; funext x; rw [bsB_asc h]
theorem meetF_asc {xs ys : List Int} (h : Asc ys) : meetF xs ys = meetB xs ys := by
  unfold meetF; rw [lessF_asc h, ← meetB_of]; simp
/-! the parents, upwards -/
/-- does the way upwards from a node meet this one? -/
def upF (ps : List Int) (top : Int) : Nat → Int → Bool
  | 0, _ => false
  | f + 1, a => if a < 0 then false else if a = top then true else upF ps top f (nth ps a.toNat)
def placedF (ps : List Int) (i : Nat) : Bool := if i = 0 then decide (nth ps 0 = -1) else upF ps (nth ps i) i ((i : Int) - 1)
/-- parents stand before their nodes -/
def ParOk (ps : List Int) (i : Nat) : Prop := ∀ j, j < i → -1 ≤ nth ps j ∧ nth ps j < (j : Int)
theorem upF_in {ps : List Int} {top : Int} : ∀ (f : Nat) (a : Int), ParOk ps (a.toNat + 1) → upF ps top f a = true → 0 ≤ top ∧ top ≤ a
  | 0, a, _, h => by cases h
  | f + 1, a, hp, h => by
    simp only [upF] at h
    split at h
    · cases h
    · split at h
      · omega
      · have h1 := hp a.toNat (by omega)
        have := upF_in f _ (fun j hj => hp j (by omega)) h
        omega
theorem upF_more {ps : List Int} {top : Int} : ∀ (f : Nat) (a : Int), ParOk ps (a.toNat + 1) → a < (f : Int) → upF ps top (f + 1) a = upF ps top f a
  | 0, a, _, h => by simp only [upF]; rw [if_pos (by omega)]
  | f + 1, a, hp, h => by
    rw [upF]
    conv => rhs; rw [upF]
    split
    · rfl
    · split
      · rfl
      · have h1 := hp a.toNat (by omega)
        exact upF_more f _ (fun j hj => hp j (by omega)) (by omega)
theorem upF_step {ps : List Int} {top a : Int} {f : Nat} (hp : ParOk ps (a.toNat + 1)) (ha : 0 ≤ a) (hf : a < (f : Int)) (hn : a ≠ top) : upF ps top f a = upF ps top f (nth ps a.toNat) := by
  obtain ⟨g, rfl⟩ : ∃ g, f = g + 1 := ⟨f - 1, by omega⟩
  have h1 := hp a.toNat (by omega)
  rw [upF_more g (nth ps a.toNat) (fun j hj => hp j (by omega)) (by omega)]
  conv => lhs; rw [upF]
  rw [if_neg (by omega), if_neg hn]
theorem upF_neg {ps : List Int} {top a : Int} {f : Nat} (ha : a < 0) : upF ps top f a = false := by
  cases f with
  | zero => rfl
  | succ f => simp only [upF]; rw [if_pos ha]
theorem upF_hit {ps : List Int} {top : Int} {f : Nat} (ha : 0 ≤ top) (hf : 0 < f) : upF ps top f top = true := by
  obtain ⟨g, rfl⟩ : ∃ g, f = g + 1 := ⟨f - 1, by omega⟩
  rw [upF, if_neg (by omega), if_pos rfl]
theorem placed_par {ps : List Int} {i : Nat} (h : ParOk ps i) (hi : placedF ps i = true) : ParOk ps (i + 1) := fun j hj => by
  by_cases e : j < i
  · exact h j e
  · have : j = i := by omega
    subst this
    unfold placedF at hi
    split at hi
    · rename_i h0
      subst h0
      rw [decide_eq_true_eq] at hi; omega
    · have := upF_in _ _ (fun k hk => h k (by omega)) hi
      omega
/-! the first program's test -/
/-- the children of a node, one after another -/
def kidF (ps : List Int) (ls : List (List Int)) (ms : List Int) (i : Nat) : Nat → Nat → List Int → Bool
  | 0, _, u => !decide (u.length = (nth ls i).length)
  | f + 1, k, u => if nth ps k = (i : Int) then (if nth ms i = 1 ∨ meetF u (nth ls k) = true ∨ 0 < (lessF (nth ls k) (nth ls i)).length then false else kidF ps ls ms i f (k + 1) (bothF u (nth ls k))) else kidF ps ls ms i f (k + 1) u
def rowF (G : Int) (ns ps : List Int) (ls : List (List Int)) (ms : List Int) (i : Nat) : Bool :=
  decide (0 ≤ nth ns i) && decide (nth ns i < 8) && !has (ns.take i) (nth ns i) && decide (0 ≤ nth ms i) && decide (nth ms i ≤ 1) && rises (nth ls i) G && decide (1 ≤ (nth ls i).length) && placedF ps i && kidF ps ls ms i (ns.length - (i + 1)) (i + 1) []
def treeF (G : Int) (ns ps : List Int) (ls : List (List Int)) (ms : List Int) : Bool :=
  decide (ps.length = ns.length) && decide (ls.length = ns.length) && decide (ms.length = ns.length) && allN ns.length (rowF G ns ps ls ms)
theorem treeF_no {G : Int} {ns ps : List Int} {ls : List (List Int)} {ms : List Int} {i : Nat} (hi : i < ns.length) (h : rowF G ns ps ls ms i = false) : false = treeF G ns ps ls ms := by
  unfold treeF; rw [allN_false i hi h, Bool.and_false]
theorem treeF_yes {G : Int} {ns ps : List Int} {ls : List (List Int)} {ms : List Int} (h1 : ps.length = ns.length) (h2 : ls.length = ns.length) (h3 : ms.length = ns.length) (h : ∀ z, z < ns.length → rowF G ns ps ls ms z = true) : true = treeF G ns ps ls ms := by
  unfold treeF; rw [allN_true h, decide_eq_true h1, decide_eq_true h2, decide_eq_true h3]; rfl
theorem treeF_len {G : Int} {ns ps : List Int} {ls : List (List Int)} {ms : List Int} (h : ¬ ps.length = ns.length ∨ ¬ ls.length = ns.length ∨ ¬ ms.length = ns.length) : false = treeF G ns ps ls ms := by
  unfold treeF
  rcases h with h | h | h
  · rw [decide_eq_false h]; rfl
  · rw [decide_eq_false h]; simp
  · rw [decide_eq_false h]; simp
theorem row_name {G : Int} {ns ps : List Int} {ls : List (List Int)} {ms : List Int} {i : Nat} (h : nth ns i < 0 ∨ 8 ≤ nth ns i ∨ has (ns.take i) (nth ns i) = true ∨ nth ms i < 0 ∨ 1 < nth ms i ∨ rises (nth ls i) G = false ∨ (nth ls i).length = 0 ∨ placedF ps i = false ∨ kidF ps ls ms i (ns.length - (i + 1)) (i + 1) [] = false) : rowF G ns ps ls ms i = false := by
  unfold rowF
  simp only [Bool.and_eq_false_iff, decide_eq_false_iff_not, Bool.not_eq_false']
  rcases h with h | h | h | h | h | h | h | h | h
  all_goals first | omega | simp [h] | (simp; omega)
theorem row_yes {G : Int} {ns ps : List Int} {ls : List (List Int)} {ms : List Int} {i : Nat} (h1 : 0 ≤ nth ns i) (h2 : nth ns i < 8) (h3 : has (ns.take i) (nth ns i) = false) (h4 : 0 ≤ nth ms i) (h5 : nth ms i ≤ 1) (h6 : rises (nth ls i) G = true) (h7 : ¬ (nth ls i).length = 0) (h8 : placedF ps i = true) (h9 : kidF ps ls ms i (ns.length - (i + 1)) (i + 1) [] = true) : rowF G ns ps ls ms i = true := by
  unfold rowF
  rw [decide_eq_true h1, decide_eq_true h2, h3, decide_eq_true h4, decide_eq_true h5, h6, decide_eq_true (show 1 ≤ (nth ls i).length by omega), h8, h9]; rfl
theorem row_placed {G : Int} {ns ps : List Int} {ls : List (List Int)} {ms : List Int} {i : Nat} (h : rowF G ns ps ls ms i = true) : placedF ps i = true := by
  unfold rowF at h; simp only [Bool.and_eq_true] at h; exact h.1.2
theorem kid_skip {ps : List Int} {ls : List (List Int)} {ms : List Int} {i n k : Nat} {u : List Int} (hk : k < n) (h : ¬ nth ps k = (i : Int)) : kidF ps ls ms i (n - k) k u = kidF ps ls ms i (n - (k + 1)) (k + 1) u := by
  rw [show n - k = (n - (k + 1)) + 1 by omega]; simp only [kidF]; rw [if_neg h]
theorem kid_go {ps : List Int} {ls : List (List Int)} {ms : List Int} {i n k : Nat} {u : List Int} (hk : k < n) (h : nth ps k = (i : Int)) (h1 : ¬ nth ms i = 1) (h2 : meetF u (nth ls k) = false) (h3 : (lessF (nth ls k) (nth ls i)).length ≤ 0) : kidF ps ls ms i (n - k) k u = kidF ps ls ms i (n - (k + 1)) (k + 1) (bothF u (nth ls k)) := by
  rw [show n - k = (n - (k + 1)) + 1 by omega]; simp only [kidF]; rw [if_pos h, if_neg]
  rintro (h4 | h4 | h4)
  · exact h1 h4
  · rw [h2] at h4; cases h4
  · omega
theorem kid_bad {ps : List Int} {ls : List (List Int)} {ms : List Int} {i n k : Nat} {u : List Int} (hk : k < n) (h : nth ps k = (i : Int)) (h1 : nth ms i = 1 ∨ meetF u (nth ls k) = true ∨ 0 < (lessF (nth ls k) (nth ls i)).length) : kidF ps ls ms i (n - k) k u = false := by
  rw [show n - k = (n - (k + 1)) + 1 by omega]; simp only [kidF]; rw [if_pos h, if_pos h1]
theorem kid_end {ps : List Int} {ls : List (List Int)} {ms : List Int} {i n k : Nat} {u : List Int} (hk : n ≤ k) : kidF ps ls ms i (n - k) k u = !decide (u.length = (nth ls i).length) := by
  rw [show n - k = 0 by omega]; rfl
/-! the second program's tests -/
theorem upF_lt {ps : List Int} {top a : Int} {f : Nat} (hp : ParOk ps (a.toNat + 1)) (ha : a < top) : upF ps top f a = false := by
  cases e : upF ps top f a
  · rfl
  · have := upF_in f a hp e; omega
def srowF (ns ps ms : List Int) (i : Nat) : Bool :=
  decide (0 ≤ nth ns i) && decide (nth ns i ≤ 7) && decide (0 ≤ nth ms i) && decide (nth ms i ≤ 1) && decide (-1 ≤ nth ps i) && decide (nth ps i ≤ (i : Int) - 1) && (decide (nth ps i < 0) == decide (i = 0)) && (decide (i = 0) || upF ps (nth ps i) i ((i : Int) - 1)) && !has (ns.take i) (nth ns i)
def shapeF (ns ps : List Int) (ls : List (List Int)) (ms : List Int) : Bool := decide (ns.length ≤ 8) && decide (ps.length = ns.length) && decide (ls.length = ns.length) && decide (ms.length = ns.length) && allN ns.length (srowF ns ps ms)
theorem shapeF_no {ns ps : List Int} {ls : List (List Int)} {ms : List Int} {i : Nat} (hi : i < ns.length) (h : srowF ns ps ms i = false) : false = shapeF ns ps ls ms := by
  unfold shapeF; rw [allN_false i hi h, Bool.and_false]
theorem shapeF_yes {ns ps : List Int} {ls : List (List Int)} {ms : List Int} (h0 : ns.length ≤ 8) (h1 : ps.length = ns.length) (h2 : ls.length = ns.length) (h3 : ms.length = ns.length) (h : ∀ z, z < ns.length → srowF ns ps ms z = true) : true = shapeF ns ps ls ms := by
  unfold shapeF; rw [allN_true h, decide_eq_true h0, decide_eq_true h1, decide_eq_true h2, decide_eq_true h3]; rfl
theorem shapeF_len {ns ps : List Int} {ls : List (List Int)} {ms : List Int} (h : ¬ ns.length ≤ 8 ∨ ¬ ps.length = ns.length ∨ ¬ ls.length = ns.length ∨ ¬ ms.length = ns.length) : false = shapeF ns ps ls ms := by
  unfold shapeF
  rcases h with h | h | h | h <;> rw [decide_eq_false h] <;> simp
theorem srow_iff {ns ps ms : List Int} {i : Nat} : srowF ns ps ms i = true ↔ (0 ≤ nth ns i ∧ nth ns i ≤ 7) ∧ (0 ≤ nth ms i ∧ nth ms i ≤ 1) ∧ (-1 ≤ nth ps i ∧ nth ps i ≤ (i : Int) - 1) ∧ (nth ps i < 0 ↔ i = 0) ∧ (i = 0 ∨ upF ps (nth ps i) i ((i : Int) - 1) = true) ∧ has (ns.take i) (nth ns i) = false := by
  unfold srowF
  simp only [Bool.and_eq_true, decide_eq_true_eq, Bool.or_eq_true, Bool.not_eq_true', beq_iff_eq, decide_eq_decide, and_assoc]
theorem par_pos {x : Int} {i : Nat} (h4 : decide (x < 0) = ((i : Int) == 0)) (hi : 0 < i) : 0 ≤ x := by
  rw [Bool.eq_iff_iff, decide_eq_true_eq, beq_iff_eq] at h4
  omega
theorem srow_of {ns ps ms : List Int} {i : Nat} (h1 : 0 ≤ nth ns i ∧ nth ns i ≤ 7) (h2 : 0 ≤ nth ms i ∧ nth ms i ≤ 1) (h3 : -1 ≤ nth ps i ∧ nth ps i ≤ (i : Int) - 1) (h4 : decide (nth ps i < 0) = ((i : Int) == 0)) (h5 : i = 0 ∨ upF ps (nth ps i) i ((i : Int) - 1) = true) (h6 : has (ns.take i) (nth ns i) = false) : srowF ns ps ms i = true :=
  srow_iff.2 ⟨h1, h2, h3, by
    rw [Bool.eq_iff_iff, decide_eq_true_eq, beq_iff_eq] at h4
    rw [h4]; omega, h5, h6⟩
theorem srow_no {ns ps ms : List Int} {i : Nat} (h : (nth ns i < 0 ∨ 7 < nth ns i) ∨ (nth ms i < 0 ∨ 1 < nth ms i) ∨ (nth ps i < -1 ∨ (i : Int) - 1 < nth ps i) ∨ (¬ decide (nth ps i < 0) = ((i : Int) == 0)) ∨ (0 < i ∧ upF ps (nth ps i) i ((i : Int) - 1) = false) ∨ has (ns.take i) (nth ns i) = true) : srowF ns ps ms i = false := by
  rw [← Bool.not_eq_true, srow_iff]
  rintro ⟨a, b, c, d, e, g⟩
  rcases h with h | h | h | h | h | h
  · omega
  · omega
  · omega
  · refine h ?_
    rw [Bool.eq_iff_iff, decide_eq_true_eq, beq_iff_eq, d]; omega
  · rcases e with e | e
    · omega
    · rw [h.2] at e; cases e
  · rw [h] at g; cases g
theorem srow_par {ns ps ms : List Int} {i : Nat} (h : ParOk ps i) (hi : srowF ns ps ms i = true) : ParOk ps (i + 1) := fun j hj => by
  by_cases e : j < i
  · exact h j e
  · have := (srow_iff.1 hi).2.2.1
    rw [show j = i by omega]; omega
/-- labels in order -/
def LabsOk (G : Int) (ls : List (List Int)) : Prop := 0 ≤ G ∧ G ≤ 48 ∧ ∀ k, k < ls.length → rises (nth ls k) G = true
theorem LabsOk.at {G : Int} {ls : List (List Int)} (h : LabsOk G ls) {k : Nat} (hk : k < ls.length) : Asc (nth ls k) ∧ (∀ v ∈ nth ls k, 0 ≤ v ∧ v < G) := by
  refine ⟨rises_asc (h.2.2 k hk), fun v hv => ?_⟩
  obtain ⟨j, hj, rfl⟩ := mem_nth hv
  exact below_iff.1 (rises_below (h.2.2 k hk)) j hj
theorem LabsOk.set {G : Int} {ls : List (List Int)} (h : LabsOk G ls) {k : Nat} (hk : k < ls.length) : setN (nth ls k) 256 = true ∧ (nth ls k).length ≤ 256 := setN_asc (h.at hk).1 fun v hv => by have := (h.at hk).2 v hv; have := h.2.1; omega
/-- the union of the children's labels, from a node on -/
def unK (ps : List Int) (ls : List (List Int)) (at_ : Int) : Nat → Nat → List Int → List Int
  | 0, _, u => u
  | f + 1, k, u => unK ps ls at_ f (k + 1) (if nth ps k = at_ then insL u (nth ls k) else u)
def manyK (ps : List Int) (ls : List (List Int)) (at_ : Int) : Nat → Nat → Nat → Nat
  | 0, _, m => m
  | f + 1, k, m => manyK ps ls at_ f (k + 1) (if nth ps k = at_ then m + (nth ls k).length else m)
def SetOk48 (u : List Int) : Prop := Asc u ∧ ∀ v ∈ u, 0 ≤ v ∧ v < 48
theorem SetOk48.set {u : List Int} (h : SetOk48 u) : setN u 256 = true ∧ u.length ≤ 256 := setN_asc h.1 h.2
theorem SetOk48.ins {G : Int} {ls : List (List Int)} (h : LabsOk G ls) {u : List Int} (hu : SetOk48 u) {k : Nat} (hk : k < ls.length) : SetOk48 (insL u (nth ls k)) :=
  ⟨insL_asc hu.1, fun v hv => by
    rcases insL_mem.1 hv with h1 | h1
    · exact hu.2 v h1
    · have := (h.at hk).2 v h1; have := h.2.1; omega⟩
theorem unK_ok {G : Int} {ps : List Int} {ls : List (List Int)} {at_ : Int} (h : LabsOk G ls) : ∀ (f k : Nat) (u : List Int), k + f ≤ ls.length → SetOk48 u → SetOk48 (unK ps ls at_ f k u)
  | 0, _, u, _, hu => hu
  | f + 1, k, u, hk, hu => by
    simp only [unK]
    split
    · exact unK_ok h f _ _ (by omega) (hu.ins h (by omega))
    · exact unK_ok h f _ _ (by omega) hu
theorem nil48 : SetOk48 [] := ⟨List.Pairwise.nil, by simp⟩
def nodeF (ps : List Int) (ls : List (List Int)) (ms : List Int) (i : Nat) : Bool :=
  decide (manyK ps ls i ps.length 0 0 = (unK ps ls i ps.length 0 []).length) && decide (lessZ (unK ps ls i ps.length 0 []) (nth ls i) = []) && !(decide (nth ms i = 1) && decide (0 < manyK ps ls i ps.length 0 0)) && (decide (nth ms i = 1) || decide ((unK ps ls i ps.length 0 []).length < (nth ls i).length))
def labF (G : Int) (ls : List (List Int)) (i : Nat) : Bool := decide (1 ≤ (nth ls i).length) && rises (nth ls i) G
def treeS (G : Int) (ns ps : List Int) (ls : List (List Int)) (ms : List Int) : Bool := shapeF ns ps ls ms && allN ls.length (labF G ls) && allN ls.length (nodeF ps ls ms)
theorem guess_n {n : List (List (List Int))} {f : List Int} (h : guessB n f = true) : 1 ≤ n.length ∧ n.length ≤ 4 := by
  unfold guessB at h; simp only [Bool.and_eq_true, decide_eq_true_eq] at h; omega
theorem shape_len {ns ps : List Int} {ls : List (List Int)} {ms : List Int} (h : shapeF ns ps ls ms = true) : ns.length ≤ 8 ∧ ps.length = ns.length ∧ ls.length = ns.length ∧ ms.length = ns.length := by
  unfold shapeF at h; simp only [Bool.and_eq_true, decide_eq_true_eq] at h; omega
theorem rises_more {xs : List Int} {n m : Int} (h : rises xs n = true) (hn : n ≤ m) : rises xs m = true := by
  unfold rises at h ⊢
  rw [allN_iff] at h ⊢
  intro j hj
  have := h j hj
  simp only [Bool.and_eq_true, decide_eq_true_eq] at this ⊢
  exact ⟨⟨this.1.1, by omega⟩, this.2⟩
theorem labs_of {G : Nat} {ls : List (List Int)} (hG : 1 ≤ G ∧ G ≤ 4) (h : ∀ z, z < ls.length → labF G ls z = true) : LabsOk 4 ls :=
  ⟨by omega, by omega, fun k hk => by
    have := h k hk
    unfold labF at this
    rw [Bool.and_eq_true] at this
    exact rises_more this.2 (by omega)⟩
end Go.Proofs.Ytbjonekgeidoiaa

