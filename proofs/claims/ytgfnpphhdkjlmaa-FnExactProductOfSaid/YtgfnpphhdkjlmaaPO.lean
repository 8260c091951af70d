/- Products of monitors: a product of valid automata is valid. No program in sight; no conditions. -/
import Derived.Test.YtgfnpphhdkjlmaaJN
import Derived.Test.YtgfnpphhdkjlmaaMR
set_option linter.unusedSimpArgs false
set_option linter.unusedVariables false
namespace Go.Proofs.Ytgfnpphhdkjlmaa
open Go.RowKit
open Shp
theorem jnG_ok {a b : List (List Int)} (hv : ∀ x, VP a.length b.length x → ∀ y ∈ succP a b x, VP a.length b.length y) : ∀ (f k : Nat) (os0 os : List (Int × Int)), PsOk a b os0 → 1 ≤ os0.length → os0.length ≤ 48 → k ≤ os0.length → 48 ≤ f + k → Clo a b os0 k → jnG a b f k os0 = some os →
    PsOk a b os ∧ 1 ≤ os.length ∧ os.length ≤ 48 ∧ Clo a b os os.length
  | 0, k, os0, os, h1, h2, h3, h4, h5, h6, e => by
    simp only [jnG, Option.some.injEq] at e; subst e
    exact ⟨h1, h2, h3, by rw [show os0.length = k by omega]; exact h6⟩
  | f + 1, k, os0, os, h1, h2, h3, h4, h5, h6, e => by
    simp only [jnG] at e
    split at e
    · rename_i hk
      split at e
      · cases e
      · rename_i hl
        obtain ⟨t, ht⟩ := addG_ext (succP a b (nth os0 k)) os0
        have hx : Ext os0 (addG os0 (succP a b (nth os0 k))) := ⟨t, ht⟩
        have hlen := hx.len
        have hp : PsOk a b (addG os0 (succP a b (nth os0 k))) := ⟨addG_nodup _ _ h1.1, fun y hy => by
          rcases (addG_mem _ _ y).1 hy with h | h
          · exact h1.2 y h
          · exact hv _ (h1.2 _ (nth_mem hk)) y h⟩
        exact jnG_ok hv f (k + 1) _ os hp (by omega) (by omega) (by omega) (by omega) (h6.step hx hk fun y hy => (addG_mem _ _ y).2 (.inr hy)) e
    · simp only [Option.some.injEq] at e; subst e
      exact ⟨h1, h2, h3, by rw [show os0.length = k by omega]; exact h6⟩
theorem vp_go {a b : List (List Int)} {W : Nat} (ha : GoOk a (W : Int)) (hb : GoOk b (W : Int)) (x : Int × Int) (hx : VP a.length b.length x) (y : Int × Int) (hy : y ∈ succP a b x) : VP a.length b.length y := by
  obtain ⟨i, hi, rfl⟩ := mem_nth hy
  rw [succP_len] at hi
  have hr := ha.row hx.1.1 hx.1.2
  have hr' : (rowN a x.1).length = W := by unfold rowN; omega
  rw [succP_nth hi]
  have h1 := ha.step (x := (i : Int)) hx.1 (by omega)
  have h2 := hb.step (x := (i : Int)) hx.2 (by omega)
  rw [Int.toNat_natCast] at h1 h2
  exact ⟨h1, h2⟩
theorem jnF_ok {a b : List (List Int)} {W : Nat} (ha : GoOk a (W : Int)) (hb : GoOk b (W : Int)) (la : 1 ≤ a.length) (lb : 1 ≤ b.length) {os : List (Int × Int)} (e : jnF a b = some os) : PsOk a b os ∧ 1 ≤ os.length ∧ os.length ≤ 48 ∧ Clo a b os os.length :=
  jnG_ok (vp_go ha hb) 48 0 [(0, 0)] os ⟨by simp, fun y hy => by simp only [List.mem_singleton] at hy; subst hy; exact ⟨⟨by simp, by simp; omega⟩, ⟨by simp, by simp; omega⟩⟩⟩ (by simp) (by simp) (by simp) (by omega) (fun j hj => by omega) e
theorem rowsP_go {a b : List (List Int)} {W : Nat} (ha : GoOk a (W : Int)) {os : List (Int × Int)} (hp : PsOk a b os) (hc : Clo a b os os.length) : GoOk (rowsP a b os os.length) (W : Int) := fun q hq => by
  rw [rowsP_len (Nat.le_refl _)] at hq
  have e : nth (rowsP a b os os.length) q = (succP a b (nth os q)).map (placeP os) := by
    unfold rowsP; rw [List.take_length]; exact nth_map hq
  have hv := hp.at hq
  have hr := ha.row hv.1.1 hv.1.2
  have hl : (succP a b (nth os q)).length = W := by rw [succP_len]; unfold rowN; omega
  rw [e, rowsP_len (Nat.le_refl _)]
  refine ⟨by rw [List.length_map, hl], below_iff.2 fun j hj => ?_⟩
  rw [List.length_map] at hj
  rw [nth_map hj]
  obtain ⟨z, hz, e2, _⟩ := placeP_spec (hc q hq _ (nth_mem hj))
  rw [e2]; omega
theorem rises_snoc {xs : List Int} {n v : Int} (h : rises xs n = true) (h0 : 0 ≤ v ∧ v < n) (hl : ∀ x ∈ xs, x < v) : rises (xs ++ [v]) n = true := by
  unfold rises at *
  rw [allN_iff] at h ⊢
  intro j hj
  rw [List.length_append, List.length_singleton] at hj
  rcases Nat.lt_or_ge j xs.length with h1 | h1
  · have h2 := h j h1
    rw [nthA1 h1, nthA1 (by omega)]; exact h2
  · have e : j = xs.length := by omega
    subst e
    rw [nthA2 (Nat.le_refl _), Nat.sub_self]
    simp only [Bool.and_eq_true, Bool.or_eq_true, decide_eq_true_eq]
    refine ⟨⟨h0.1, h0.2⟩, ?_⟩
    rcases Nat.eq_zero_or_pos xs.length with h2 | h2
    · exact .inl h2
    · right; rw [nthA1 (by omega)]; exact hl _ (nth_mem (by omega))
theorem inPart_lt {s xs : List Int} : ∀ {i : Nat}, ∀ x ∈ inPart s xs i, 0 ≤ x ∧ x < (i : Int)
  | 0, x, h => by simp [inPart] at h
  | i + 1, x, h => by
    simp only [inPart] at h
    split at h
    · rcases List.mem_append.1 h with h | h
      · have := inPart_lt x h; omega
      · simp only [List.mem_singleton] at h; omega
    · have := inPart_lt x h; omega
theorem inPart_rises {s xs : List Int} {n : Int} : ∀ {i : Nat}, (i : Int) ≤ n → rises (inPart s xs i) n = true
  | 0, _ => rfl
  | i + 1, h => by
    simp only [inPart]
    split
    · exact rises_snoc (inPart_rises (by omega)) (by omega) fun x hx => (inPart_lt x hx).2
    · exact inPart_rises (by omega)
theorem pairsB_iff {ps : List (List Int × List Int)} {n : Int} : pairsB ps n = true ↔ ps.length ≤ 4 ∧ ∀ p ∈ ps, rises p.1 n = true ∧ rises p.2 n = true := by
  unfold pairsB
  rw [Bool.and_eq_true, decide_eq_true_eq, allN_iff]
  refine and_congr_right fun _ => ⟨fun h p hp => ?_, fun h k hk => ?_⟩
  · obtain ⟨k, hk, rfl⟩ := mem_nth hp
    have := h k hk
    unfold pairRow at this; rwa [Bool.and_eq_true] at this
  · unfold pairRow; rw [Bool.and_eq_true]; exact h _ (nth_mem hk)
theorem pairsP_mem {ps : List (List Int × List Int)} {xs : List Int} {n : Int} (hn : (xs.length : Int) ≤ n) : ∀ p ∈ pairsP ps xs, rises p.1 n = true ∧ rises p.2 n = true := fun p hp => by
  obtain ⟨p0, _, rfl⟩ := List.mem_map.1 hp
  exact ⟨inPart_rises hn, inPart_rises hn⟩
theorem detB_iff {i o : Int} {n : List (List Int)} {ps : List (List Int × List Int)} : detB i o n ps = true ↔ sigB i o = true ∧ (1 ≤ n.length ∧ n.length ≤ 48) ∧ pairsB ps n.length = true ∧ GoOk n (lettersB i o) := by
  unfold detB GoOk
  simp only [Bool.and_eq_true, decide_eq_true_eq, allN_iff, detRow]
  constructor
  · rintro ⟨⟨⟨⟨h1, h2⟩, h3⟩, h4⟩, h5⟩; exact ⟨h1, ⟨h2, h3⟩, h4, h5⟩
  · rintro ⟨h1, ⟨h2, h3⟩, h4, h5⟩; exact ⟨⟨⟨⟨h1, h2⟩, h3⟩, h4⟩, h5⟩
theorem letters_nat (i o : Int) : ((lettersB i o).toNat : Int) = lettersB i o := by have := lettersB_range i o; omega
theorem joinO_ok {i o : Int} {n n2 : List (List Int)} {ps ps2 : List (List Int × List Int)} (h : detB i o n ps = true) (h2 : detB i o n2 ps2 = true) (hj : (joinO n ps n2 ps2).2 = true) : detB i o (joinO n ps n2 ps2).1.1 (joinO n ps n2 ps2).1.2 = true := by
  obtain ⟨a1, ⟨a2, a3⟩, a4, a5⟩ := detB_iff.1 h
  obtain ⟨b1, ⟨b2, b3⟩, b4, b5⟩ := detB_iff.1 h2
  rw [← letters_nat] at a5 b5
  by_cases hl : ps.length + ps2.length ≤ 4
  · cases e : jnF n n2 with
    | none => rw [joinO_none e] at hj; cases hj
    | some os =>
      rw [joinO_some hl e]
      obtain ⟨c1, c2, c3, c4⟩ := jnF_ok a5 b5 a2 b2 e
      have hlen : (rowsP n n2 os os.length).length = os.length := rowsP_len (Nat.le_refl _)
      refine detB_iff.2 ⟨a1, ⟨by rw [hlen]; exact c2, by rw [hlen]; exact c3⟩, pairsB_iff.2 ⟨by rw [List.length_append, pairsP_len, pairsP_len]; exact hl, fun p hp => ?_⟩, by rw [← letters_nat]; exact rowsP_go a5 c1 c4⟩
      rw [hlen]
      rcases List.mem_append.1 hp with hp | hp
      · exact pairsP_mem (by simp) p hp
      · exact pairsP_mem (by simp) p hp
  · rw [joinO_many hl] at hj; cases hj
theorem monStep_r {k q : Int} {a b : Bool} (hk : 1 ≤ k ∧ k ≤ 7) (hq : 0 ≤ q ∧ q < monMany k) : 0 ≤ monStep k q a b ∧ monStep k q a b < monMany k := by
  have h : k = 1 ∨ k = 2 ∨ k = 3 ∨ k = 4 ∨ k = 5 ∨ k = 6 ∨ k = 7 := by omega
  rcases h with rfl | rfl | rfl | rfl | rfl | rfl | rfl <;> cases a <;> cases b <;> simp [monStep, monMany, bit] at * <;> omega
theorem monP_rises {k : Int} (hk : 1 ≤ k ∧ k ≤ 7) : rises (monP k).1 (monMany k) = true ∧ rises (monP k).2 (monMany k) = true := by
  have h : k = 1 ∨ k = 2 ∨ k = 3 ∨ k = 4 ∨ k = 5 ∨ k = 6 ∨ k = 7 := by omega
  rcases h with rfl | rfl | rfl | rfl | rfl | rfl | rfl <;> decide
theorem mon_ok {i o k : Int} {a b : List Int} (hs : sigB i o = true) (hk : 1 ≤ k ∧ k ≤ 7) : detB i o (monN k a b (lettersB i o).toNat) [monP k] = true := by
  have hm := monMany_r k
  refine detB_iff.2 ⟨hs, ⟨by rw [monN_len]; omega, by rw [monN_len]; omega⟩, pairsB_iff.2 ⟨by simp, fun p hp => ?_⟩, fun q hq => ?_⟩
  · simp only [List.mem_singleton] at hp; subst hp; rw [monN_len]; exact monP_rises hk
  · rw [monN_len] at hq
    have e : nth (monN k a b (lettersB i o).toNat) q = monRow k a b (lettersB i o).toNat q := by rw [nth_eq (by rw [monN_len]; exact hq)]; simp [monN]
    rw [e, monN_len, monRow_len]
    refine ⟨letters_nat i o, below_iff.2 fun j hj => ?_⟩
    rw [monRow_len] at hj
    have e2 : nth (monRow k a b (lettersB i o).toNat q) j = monStep k q (has a j) (has b j) := by rw [nth_eq (by rw [monRow_len]; exact hj)]; simp [monRow]
    rw [e2]; exact monStep_r hk (by omega)
theorem joinD_no1 {i o : Int} {n n2 : List (List Int)} {ps ps2 : List (List Int × List Int)} (h : detB i o n ps = false) : joinD i o n ps n2 ps2 = (([], []), false) := by unfold joinD; rw [if_neg (by rw [h]; simp)]
theorem joinD_no2 {i o : Int} {n n2 : List (List Int)} {ps ps2 : List (List Int × List Int)} (h : detB i o n2 ps2 = false) : joinD i o n ps n2 ps2 = (([], []), false) := by unfold joinD; rw [if_neg (by rw [h]; simp)]
theorem joinD_yes {i o : Int} {n n2 : List (List Int)} {ps ps2 : List (List Int × List Int)} (h : detB i o n ps = true) (h2 : detB i o n2 ps2 = true) : joinD i o n ps n2 ps2 = joinO n ps n2 ps2 := by unfold joinD; rw [if_pos ⟨h, h2⟩]
theorem joinD_many {i o : Int} {n n2 : List (List Int)} {ps ps2 : List (List Int × List Int)} (h : ¬ ps.length + ps2.length ≤ 4) : joinD i o n ps n2 ps2 = (([], []), false) := by
  unfold joinD; split
  · exact joinO_many h
  · rfl
theorem detB_sig0 {i o : Int} {n : List (List Int)} {ps : List (List Int × List Int)} (h : sigB i o = false) : detB i o n ps = false := by unfold detB; rw [h]; rfl
theorem pairs4 {i o : Int} {n : List (List Int)} {ps : List (List Int × List Int)} (h : detB i o n ps = true) : ps.length ≤ 4 := (pairsB_iff.1 (detB_iff.1 h).2.2.1).1
theorem inPart_len2 {s xs : List Int} : (inPart s xs xs.length).length ≤ xs.length := inPart_len
theorem joinO_cnt {i o : Int} {n n2 : List (List Int)} {ps ps2 : List (List Int × List Int)} (h : detB i o n ps = true) (h2 : detB i o n2 ps2 = true) : cntR (joinO n ps n2 ps2).1.1 ≤ 1000 ∧ cntPs (joinO n ps n2 ps2).1.2 ≤ 1000 := by
  by_cases hj : (joinO n ps n2 ps2).2 = true
  · obtain ⟨_, ⟨c1, c2⟩, c3, c4⟩ := detB_iff.1 (joinO_ok h h2 hj)
    have hL := lettersB_range i o
    obtain ⟨c5, c6⟩ := pairsB_iff.1 c3
    constructor
    · refine Nat.le_trans (cntG_bound (m := 16) fun x hx => ?_) (by omega)
      obtain ⟨q, hq, rfl⟩ := mem_nth hx
      have := (c4 q hq).1; omega
    · by_cases hl : ps.length + ps2.length ≤ 4
      · cases e : jnF n n2 with
        | none => rw [joinO_none e]; simp [cntPs, cntG]
        | some os =>
          obtain ⟨a1, ⟨a2, a3⟩, a4, a5⟩ := detB_iff.1 h
          obtain ⟨b1, ⟨b2, b3⟩, b4, b5⟩ := detB_iff.1 h2
          rw [← letters_nat] at a5 b5
          obtain ⟨_, _, c9, _⟩ := jnF_ok a5 b5 a2 b2 e
          rw [joinO_some hl e]
          refine Nat.le_trans (cntG_bound (m := 96) fun x hx => ?_) (by rw [List.length_append, pairsP_len, pairsP_len]; omega)
          have key : ∀ (ps : List (List Int × List Int)) (xs : List Int), xs.length ≤ 48 → x ∈ pairsP ps xs → cntP x ≤ 96 := fun ps xs hxs hx => by
            obtain ⟨p0, _, rfl⟩ := List.mem_map.1 hx
            have q1 := inPart_len2 (s := p0.1) (xs := xs)
            have q2 := inPart_len2 (s := p0.2) (xs := xs)
            unfold cntP pairP; simp only; omega
          rcases List.mem_append.1 hx with hx | hx
          · exact key _ _ (by simpa using c9) hx
          · exact key _ _ (by simpa using c9) hx
      · rw [joinO_many hl]; simp [cntR, cntPs, cntG]
  · by_cases hl : ps.length + ps2.length ≤ 4
    · cases e : jnF n n2 with
      | none => rw [joinO_none e]; simp [cntR, cntPs, cntG]
      | some os => rw [joinO_some hl e] at hj; exact absurd rfl hj
    · rw [joinO_many hl]; simp [cntR, cntPs, cntG]
def prodN (L : Nat) : List (Int × List Int × List Int) → List (List Int) → List (List Int × List Int) → (List (List Int) × List (List Int × List Int)) × Bool
  | [], n, ps => ((n, ps), true)
  | c :: cs, n, ps => if (joinO n ps (monN c.1 c.2.1 c.2.2 L) [monP c.1]).2 = true then prodN L cs (joinO n ps (monN c.1 c.2.1 c.2.2 L) [monP c.1]).1.1 (joinO n ps (monN c.1 c.2.1 c.2.2 L) [monP c.1]).1.2 else (([], []), false)
def prodB (i o : Int) (cs : List (Int × List Int × List Int)) : (List (List Int) × List (List Int × List Int)) × Bool :=
  if clausesB i o cs = true then prodN (lettersB i o).toNat cs [List.replicate (lettersB i o).toNat 0] [] else (([], []), false)
theorem zero_ok {i o : Int} (hs : sigB i o = true) : detB i o [List.replicate (lettersB i o).toNat 0] [] = true := by
  refine detB_iff.2 ⟨hs, by simp, rfl, fun q hq => ?_⟩
  have : q = 0 := by simpa using hq
  subst this
  have e : nth [List.replicate (lettersB i o).toNat (0 : Int)] 0 = List.replicate (lettersB i o).toNat 0 := rfl
  rw [e, List.length_replicate]
  refine ⟨letters_nat i o, below_iff.2 fun j hj => ?_⟩
  rw [List.length_replicate] at hj
  rw [nth_eq (by simpa using hj)]; simp
theorem prod_step {L : Nat} {cs : List (Int × List Int × List Int)} {j : Nat} (hj : j < cs.length) {n : List (List Int)} {ps : List (List Int × List Int)} : prodN L (cs.drop j) n ps = if (joinO n ps (monN (nth cs j).1 (nth cs j).2.1 (nth cs j).2.2 L) [monP (nth cs j).1]).2 = true then prodN L (cs.drop (j + 1)) (joinO n ps (monN (nth cs j).1 (nth cs j).2.1 (nth cs j).2.2 L) [monP (nth cs j).1]).1.1 (joinO n ps (monN (nth cs j).1 (nth cs j).2.1 (nth cs j).2.2 L) [monP (nth cs j).1]).1.2 else (([], []), false) := by
  rw [drop_nth hj]; rfl
theorem clauses_k {i o : Int} {cs : List (Int × List Int × List Int)} (h : clausesB i o cs = true) : sigB i o = true ∧ cs.length ≤ 3 ∧ ∀ j, j < cs.length → clauseB (lettersB i o) (nth cs j).1 (nth cs j).2.1 (nth cs j).2.2 = true := by
  unfold clausesB at h
  simp only [Bool.and_eq_true, decide_eq_true_eq, allN_iff, clauseR] at h
  exact ⟨h.1.1, h.1.2, h.2⟩
end Go.Proofs.Ytgfnpphhdkjlmaa

