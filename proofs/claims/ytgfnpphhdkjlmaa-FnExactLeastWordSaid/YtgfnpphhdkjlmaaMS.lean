/- Machines that answer alike have one least machine. No program in sight; no conditions. -/
import Derived.Test.YtgfnpphhdkjlmaaMF
set_option linter.unusedSimpArgs false
set_option linter.unusedVariables false
namespace Go.Proofs.Ytgfnpphhdkjlmaa
open Go.RowKit
open Shp
def MOk (n out : List (List Int)) (W : Nat) : Prop := (1 ≤ n.length ∧ n.length ≤ 48) ∧ GoOk n (W : Int) ∧ RowsW n out W
theorem machB_ok {i o : Int} {n out : List (List Int)} (h : machB i o n out = true) : MOk n out (pw i).toNat := by
  have a := machB_r h
  have b := sig_pw a.1
  refine ⟨⟨a.2.1, a.2.2.1⟩, ?_, machB_rows h⟩
  rw [show (((pw i).toNat : Nat) : Int) = pw i by omega]; exact machB_go h
theorem it_stops {n : List (List Int)} : ∀ (m : Nat) (c : List Int), ClOk n.length c → msrN n.length c ≤ m → ∃ j, stepI n (it (stepI n) j c) = it (stepI n) j c
  | m, c, hc, hm => by
    by_cases e : stepI n c = c
    · exact ⟨0, e⟩
    · have h1 := stepI_lt hc e
      match m, hm with
      | 0, hm => omega
      | m + 1, hm =>
        obtain ⟨j, hj⟩ := it_stops m (stepI n c) stepI_ok (by omega)
        exact ⟨j + 1, hj⟩
theorem itI_ok {n out : List (List Int)} : ∀ (j : Nat), ClOk n.length (it (stepI n) j (cls0 n out))
  | 0 => cls0_ok
  | j + 1 => by rw [it_succ]; exact stepI_ok
theorem alike_spec (n out : List (List Int)) : ClOk n.length (alikeN n out) ∧ stepI n (alikeN n out) = alikeN n out ∧ Finer out n.length (alikeN n out) ∧ ∃ j, alikeN n out = it (stepI n) j (cls0 n out) := by
  obtain ⟨j, hj⟩ := it_stops (n := n) _ (cls0 n out) cls0_ok (Nat.le_refl _)
  have e : alikeN n out = it (stepI n) j (cls0 n out) := limF_eq hj
  rw [e]
  exact ⟨itI_ok j, hj, itI_finer j, j, rfl⟩
def clsAt (c : List Int) (q : Int) : Int := nth c q.toNat
def inN (N : Nat) (q : Int) : Prop := 0 ≤ q ∧ q < (N : Int)
section
variable {n out : List (List Int)} {W : Nat}
theorem MOk.row (h : MOk n out W) {q : Int} (hq : inN n.length q) : (rowN n q).length = W ∧ (rowN out q).length = W := h.2.2 q.toNat (by unfold inN at hq; omega)
theorem MOk.step (h : MOk n out W) {q : Int} (hq : inN n.length q) {i : Nat} (hi : i < W) : inN n.length (nth (rowN n q) i) := by
  have := h.2.1.step (x := (i : Int)) hq (by omega)
  rwa [Int.toNat_natCast] at this
theorem alike_at (c : List Int) (hc : ClOk n.length c) (hs : stepI n c = c) {q : Nat} (hq : q < n.length) : ∃ r : Nat, r ≤ q ∧ nth c q = (r : Int) ∧ nearI n c r q = true := by
  obtain ⟨r, h1, h2, h3, _⟩ := clsN_spec (near := nearI n c) hq nearI_refl
  have e : clsN n.length (nearI n c) = c := hs
  rw [e] at h2
  exact ⟨r, h1, h2, h3⟩
theorem alike_in (h : MOk n out W) {q : Int} (hq : inN n.length q) : inN n.length (clsAt (alikeN n out) q) := by
  obtain ⟨hc, _⟩ := alike_spec n out
  unfold inN at *
  have := hc.2 q.toNat (by omega)
  unfold clsAt; omega
theorem alike_zero (h : MOk n out W) : clsAt (alikeN n out) 0 = 0 := by
  obtain ⟨hc, _⟩ := alike_spec n out
  have := hc.2 0 (by have := h.1; omega)
  unfold clsAt; simp only [Int.toNat_zero]; omega
theorem alike_idem (h : MOk n out W) {q : Int} (hq : inN n.length q) : clsAt (alikeN n out) (clsAt (alikeN n out) q) = clsAt (alikeN n out) q := by
  obtain ⟨hc, hs, _⟩ := alike_spec n out
  obtain ⟨r, h1, h2, h3⟩ := alike_at _ hc hs (q := q.toNat) (by unfold inN at hq; omega)
  unfold clsAt
  rw [h2, Int.toNat_natCast]
  have := nearI_c h3; omega
theorem alike_out (h : MOk n out W) {p q : Int} (hp : inN n.length p) (hq : inN n.length q) (e : clsAt (alikeN n out) p = clsAt (alikeN n out) q) : rowN out p = rowN out q := by
  obtain ⟨_, _, hf, _⟩ := alike_spec n out
  unfold inN at *
  exact hf _ _ (by omega) (by omega) e
theorem alike_step (h : MOk n out W) {p q : Int} (hp : inN n.length p) (hq : inN n.length q) (e : clsAt (alikeN n out) p = clsAt (alikeN n out) q) {i : Nat} (hi : i < W) : clsAt (alikeN n out) (nth (rowN n p) i) = clsAt (alikeN n out) (nth (rowN n q) i) := by
  obtain ⟨hc, hs, _⟩ := alike_spec n out
  obtain ⟨r, h1, h2, h3⟩ := alike_at _ hc hs (q := p.toNat) (by unfold inN at hp; omega)
  obtain ⟨r2, g1, g2, g3⟩ := alike_at _ hc hs (q := q.toNat) (by unfold inN at hq; omega)
  have e2 : r = r2 := by unfold clsAt at e; omega
  subst e2
  unfold nearI at h3 g3
  simp only [Bool.and_eq_true, decide_eq_true_eq, allN_iff] at h3 g3
  have a := h3.2 i (by have := (h.row hp).1; unfold rowN at this; omega)
  have b := g3.2 i (by have := (h.row hq).1; unfold rowN at this; omega)
  unfold clsAt rowN
  rw [a, b]
def behE (n out : List (List Int)) (W : Nat) (p q : Int) : Prop := ∀ w, below w (W : Int) = true → rowN out (goN n p w) = rowN out (goN n q w)
theorem below_cons {x : Int} {xs : List Int} {W : Int} : below (x :: xs) W = true ↔ (0 ≤ x ∧ x < W) ∧ below xs W = true := by
  rw [below_iff, below_iff]
  constructor
  · intro h
    refine ⟨by have := h 0 (by simp); simpa [nth] using this, fun j hj => by have := h (j + 1) (by simpa using hj); simpa [nth] using this⟩
  · rintro ⟨h1, h2⟩ j hj
    rcases j with _ | j
    · simpa [nth] using h1
    · have := h2 j (by simpa using hj); simpa [nth] using this
theorem cls_same {N : Nat} {near : Nat → Nat → Bool} {p q : Nat} (hp : p < N) (hq : q < N) (rp : near p p = true) (rq : near q q = true) (h : ∀ z, z < N → near z p = near z q) : nth (clsN N near) p = nth (clsN N near) q := by
  obtain ⟨r, h1, h2, h3, h4⟩ := clsN_spec hp rp
  obtain ⟨r2, g1, g2, g3, g4⟩ := clsN_spec hq rq
  have a : ¬ r < r2 := fun hl => by have := g4 r hl; rw [← h r (by omega), h3] at this; cases this
  have b : ¬ r2 < r := fun hl => by have := h4 r2 hl; rw [h r2 (by omega), g3] at this; cases this
  omega
theorem beh_step (h : MOk n out W) {p q : Int} (hb : behE n out W p q) {i : Nat} (hi : i < W) : behE n out W (nth (rowN n p) i) (nth (rowN n q) i) := fun w hw => by
  have := hb ((i : Int) :: w) (below_cons.2 ⟨by omega, hw⟩)
  simp only [goN, Int.toNat_natCast] at this
  exact this
theorem coarse (h : MOk n out W) : ∀ (j : Nat) {p q : Int}, inN n.length p → inN n.length q → behE n out W p q → clsAt (it (stepI n) j (cls0 n out)) p = clsAt (it (stepI n) j (cls0 n out)) q
  | 0, p, q, hp, hq, hb => by
    unfold inN at hp hq
    have e := hb [] (by rfl)
    simp only [goN, rowN] at e
    refine cls_same (near := fun p q => decide (nth out q = nth out p)) (by omega) (by omega) (by simp) (by simp) fun z _ => ?_
    show decide (nth out p.toNat = nth out z) = decide (nth out q.toNat = nth out z)
    rw [e]
  | j + 1, p, q, hp, hq, hb => by
    rw [it_succ]
    have e := coarse h j hp hq hb
    have rp := (h.row hp).1
    have rq := (h.row hq).1
    unfold rowN at rp rq
    refine cls_same (near := nearI n _) (by unfold inN at hp; omega) (by unfold inN at hq; omega) nearI_refl nearI_refl fun z hz => ?_
    unfold clsAt at e
    unfold nearI
    rw [e, rp, rq]
    congr 1
    refine allN_congr fun i hi => ?_
    have := coarse h j (h.step hp hi) (h.step hq hi) (beh_step h hb hi)
    unfold clsAt rowN at this
    rw [this]
theorem alike_coarse (h : MOk n out W) {p q : Int} (hp : inN n.length p) (hq : inN n.length q) (hb : behE n out W p q) : clsAt (alikeN n out) p = clsAt (alikeN n out) q := by
  obtain ⟨_, _, _, j, hj⟩ := alike_spec n out
  rw [hj]; exact coarse h j hp hq hb
theorem alike_beh (h : MOk n out W) : ∀ {w : List Int} {p q : Int}, inN n.length p → inN n.length q → clsAt (alikeN n out) p = clsAt (alikeN n out) q → below w (W : Int) = true → rowN out (goN n p w) = rowN out (goN n q w)
  | [], p, q, hp, hq, e, _ => alike_out h hp hq e
  | x :: w, p, q, hp, hq, e, hw => by
    obtain ⟨h1, h2⟩ := below_cons.1 hw
    have hx : x.toNat < W := by omega
    exact alike_beh h (w := w) (h.step hp hx) (h.step hq hx) (alike_step h hp hq e hx) h2
def cT (n : List (List Int)) (c : List Int) (q : Int) : List Int := (rowN n q).map (clsAt c)
def namesN (n : List (List Int)) (c : List Int) : List Int := bfsG (cT n c) 48 0 [0]
noncomputable def leastM (n out : List (List Int)) : List (List Int) × List (List Int) := ((namesN n (alikeN n out)).map fun q => (cT n (alikeN n out) q).map (place (namesN n (alikeN n out))), (namesN n (alikeN n out)).map (rowN out))
theorem cT_len {c : List Int} {q : Int} : (cT n c q).length = (rowN n q).length := by simp [cT]
theorem nth_map {α β : Type} [Inhabited α] [Inhabited β] {f : α → β} {xs : List α} {i : Nat} (h : i < xs.length) : nth (xs.map f) i = f (nth xs i) := by
  rw [nth_eq (by simpa using h), nth_eq h, List.getElem_map]
theorem place_spec {xs : List Int} {x : Int} (h : x ∈ xs) : ∃ j : Nat, j < xs.length ∧ place xs x = (j : Int) ∧ nth xs j = x := by
  unfold place
  rcases firstN_cases xs.length (fun i => nth xs i == x) with ⟨h1, h2⟩ | ⟨i, h1, h2, h3, _⟩
  · obtain ⟨i, hi, e⟩ := mem_nth h
    have := h2 i hi
    rw [e] at this; simp at this
  · exact ⟨i, h1, h2, by simpa using h3⟩
def Rep (n out : List (List Int)) (q : Int) : Prop := inN n.length q ∧ clsAt (alikeN n out) q = q
theorem rep_next (h : MOk n out W) (q : Int) (hq : Rep n out q) (y : Int) (hy : y ∈ cT n (alikeN n out) q) : Rep n out y := by
  obtain ⟨i, hi, rfl⟩ := mem_nth hy
  rw [cT_len, (h.row hq.1).1] at hi
  have e : nth (cT n (alikeN n out) q) i = clsAt (alikeN n out) (nth (rowN n q) i) := nth_map (by rw [(h.row hq.1).1]; exact hi)
  rw [e]
  exact ⟨alike_in h (h.step hq.1 hi), alike_idem h (h.step hq.1 hi)⟩
theorem rep_zero (h : MOk n out W) : Rep n out 0 := ⟨⟨by omega, by have := h.1; omega⟩, alike_zero h⟩
theorem names_rep (h : MOk n out W) : ∀ x ∈ namesN n (alikeN n out), Rep n out x := bfsG_ind (rep_next h) _ _ _ fun x hx => by
  simp only [List.mem_singleton] at hx; subst hx; exact rep_zero h
theorem rep_len (h : MOk n out W) (xs : List Int) (hn : xs.Nodup) (hx : ∀ x ∈ xs, Rep n out x) : xs.length ≤ 48 := by
  have := nodup_len n.length xs hn fun x hm => (hx x hm).1
  have := h.1; omega
theorem names_closed (h : MOk n out W) : ∀ x ∈ namesN n (alikeN n out), ∀ y ∈ cT n (alikeN n out) x, y ∈ namesN n (alikeN n out) :=
  bfsG_closed (rep_next h) (fun xs => rep_len h xs) 48 0 [0] (by simp) (fun x hx => by simp only [List.mem_singleton] at hx; subst hx; exact rep_zero h) (by omega) (fun j hj => by omega) (by simp)
theorem names_zero {c : List Int} : 0 < (namesN n c).length ∧ nth (namesN n c) 0 = 0 := by
  obtain ⟨t, ht⟩ := bfsG_ext (next := cT n c) 48 0 [0]
  unfold namesN; rw [ht]; exact ⟨by simp, rfl⟩
end
def succP (a b : List (List Int)) (x : Int × Int) : List (Int × Int) := (List.range (rowN a x.1).length).map fun i => (nth (rowN a x.1) i, nth (rowN b x.2) i)
def pairsF (a b : List (List Int)) : List (Int × Int) := bfsG (succP a b) 2304 0 [(0, 0)]
def sameB (a oa b ob : List (List Int)) : Bool := (pairsF a b).all fun x => decide (rowN oa x.1 = rowN ob x.2)
theorem succP_len {a b : List (List Int)} {x : Int × Int} : (succP a b x).length = (rowN a x.1).length := by simp [succP]
theorem succP_nth {a b : List (List Int)} {x : Int × Int} {i : Nat} (h : i < (rowN a x.1).length) : nth (succP a b x) i = (nth (rowN a x.1) i, nth (rowN b x.2) i) := by
  rw [nth_eq (by rw [succP_len]; exact h)]; simp [succP]
def VP (A B : Nat) (x : Int × Int) : Prop := inN A x.1 ∧ inN B x.2
theorem pairs_len {A B : Nat} (ha : A ≤ 48) (hb : B ≤ 48) (xs : List (Int × Int)) (hn : xs.Nodup) (hv : ∀ x ∈ xs, VP A B x) : xs.length ≤ 2304 := by
  have h1 : (xs.map fun x => x.1 * 48 + x.2).Nodup := nodup_map hn fun x hx y hy e => by
    have a := hv x hx; have b := hv y hy
    unfold VP inN at a b
    refine Prod.ext ?_ ?_ <;> omega
  have h2 := nodup_len 2304 _ h1 fun x hx => by
    obtain ⟨y, hy, rfl⟩ := List.mem_map.1 hx
    have a := hv y hy
    unfold VP inN at a
    omega
  simpa using h2
section
variable {a oa b ob : List (List Int)} {W : Nat}
theorem vp_next (ha : MOk a oa W) (hb : MOk b ob W) (x : Int × Int) (hx : VP a.length b.length x) (y : Int × Int) (hy : y ∈ succP a b x) : VP a.length b.length y := by
  obtain ⟨i, hi, rfl⟩ := mem_nth hy
  rw [succP_len] at hi
  rw [succP_nth hi]
  rw [(ha.row hx.1).1] at hi
  exact ⟨ha.step hx.1 hi, hb.step hx.2 hi⟩
theorem vp_zero (ha : MOk a oa W) (hb : MOk b ob W) : VP a.length b.length (0, 0) := ⟨⟨by simp, by have := ha.1; simp; omega⟩, ⟨by simp, by have := hb.1; simp; omega⟩⟩
theorem pairs_vp (ha : MOk a oa W) (hb : MOk b ob W) : ∀ x ∈ pairsF a b, VP a.length b.length x := bfsG_ind (vp_next ha hb) _ _ _ fun x hx => by
  simp only [List.mem_singleton] at hx; subst hx; exact vp_zero ha hb
theorem pairs_closed (ha : MOk a oa W) (hb : MOk b ob W) : ∀ x ∈ pairsF a b, ∀ y ∈ succP a b x, y ∈ pairsF a b :=
  bfsG_closed (vp_next ha hb) (fun xs => pairs_len ha.1.2 hb.1.2 xs) 2304 0 [(0, 0)] (by simp) (fun x hx => by simp only [List.mem_singleton] at hx; subst hx; exact vp_zero ha hb) (by omega) (fun j hj => by omega) (by simp)
theorem pairs_zero {a b : List (List Int)} : ((0, 0) : Int × Int) ∈ pairsF a b := by
  obtain ⟨t, ht⟩ := bfsG_ext (next := succP a b) 2304 0 [(0, 0)]
  unfold pairsF; rw [ht]; simp
theorem pairs_go (ha : MOk a oa W) (hb : MOk b ob W) : ∀ {w : List Int} {x : Int × Int}, x ∈ pairsF a b → below w (W : Int) = true → (goN a x.1 w, goN b x.2 w) ∈ pairsF a b
  | [], x, hx, _ => hx
  | y :: w, x, hx, hw => by
    obtain ⟨h1, h2⟩ := below_cons.1 hw
    have hv := pairs_vp ha hb x hx
    have hy : y.toNat < (rowN a x.1).length := by rw [(ha.row hv.1).1]; omega
    have := pairs_go ha hb (w := w) (x := (nth (rowN a x.1) y.toNat, nth (rowN b x.2) y.toNat)) (pairs_closed ha hb x hx _ (by rw [← succP_nth hy]; exact nth_mem (by rw [succP_len]; exact hy))) h2
    exact this
theorem same_of_least (ha : MOk a oa W) (hb : MOk b ob W) (h : leastM a oa = leastM b ob) : sameB a oa b ob = true := by
  unfold leastM at h
  rw [Prod.mk.injEq] at h
  obtain ⟨h1, h2⟩ := h
  have hl : (namesN a (alikeN a oa)).length = (namesN b (alikeN b ob)).length := by have := congrArg List.length h2; simpa using this
  have key : ∀ x ∈ pairsF a b, VP a.length b.length x ∧ ∃ k, k < (namesN a (alikeN a oa)).length ∧ clsAt (alikeN a oa) x.1 = nth (namesN a (alikeN a oa)) k ∧ clsAt (alikeN b ob) x.2 = nth (namesN b (alikeN b ob)) k := by
    refine bfsG_ind (P := fun x => VP a.length b.length x ∧ ∃ k, k < (namesN a (alikeN a oa)).length ∧ clsAt (alikeN a oa) x.1 = nth (namesN a (alikeN a oa)) k ∧ clsAt (alikeN b ob) x.2 = nth (namesN b (alikeN b ob)) k) ?_ _ _ _ ?_
    · rintro x ⟨hv, k, hk, e1, e2⟩ y hy
      refine ⟨vp_next ha hb x hv y hy, ?_⟩
      obtain ⟨i, hi, rfl⟩ := mem_nth hy
      rw [succP_len] at hi
      rw [succP_nth hi]
      rw [(ha.row hv.1).1] at hi
      have m1 := nth_mem hk
      have m2 := nth_mem (xs := namesN b (alikeN b ob)) (k := k) (by omega)
      have r1 := names_rep ha _ m1
      have r2 := names_rep hb _ m2
      have s1 := alike_step ha hv.1 r1.1 (e1.trans r1.2.symm) hi
      have s2 := alike_step hb hv.2 r2.1 (e2.trans r2.2.symm) hi
      have l1 := (ha.row r1.1).1
      have l2 := (hb.row r2.1).1
      have t1 : nth (cT a (alikeN a oa) (nth (namesN a (alikeN a oa)) k)) i = clsAt (alikeN a oa) (nth (rowN a (nth (namesN a (alikeN a oa)) k)) i) := nth_map (by omega)
      have t2 : nth (cT b (alikeN b ob) (nth (namesN b (alikeN b ob)) k)) i = clsAt (alikeN b ob) (nth (rowN b (nth (namesN b (alikeN b ob)) k)) i) := nth_map (by omega)
      have c1 := names_closed ha _ m1 _ (nth_mem (k := i) (by rw [cT_len]; omega))
      have c2 := names_closed hb _ m2 _ (nth_mem (k := i) (by rw [cT_len]; omega))
      obtain ⟨j, hj, p1, q1⟩ := place_spec c1
      obtain ⟨j2, hj2, p2, q2⟩ := place_spec c2
      have e := congrArg (fun rows => nth (nth rows k) i) h1
      try simp only at e
      rw [nth_map hk, nth_map (xs := namesN b (alikeN b ob)) (by omega), nth_map (by rw [cT_len]; omega), nth_map (by rw [cT_len]; omega), p1, p2] at e
      have e3 : j = j2 := by omega
      subst e3
      refine ⟨j, hj, ?_, ?_⟩
      · rw [q1, t1]; exact s1
      · rw [q2, t2]; exact s2
    · intro x hx
      simp only [List.mem_singleton] at hx; subst hx
      refine ⟨vp_zero ha hb, 0, names_zero.1, ?_, ?_⟩
      · rw [names_zero.2]; exact alike_zero ha
      · rw [names_zero.2]; exact alike_zero hb
  unfold sameB
  rw [List.all_eq_true]
  intro x hx
  obtain ⟨hv, k, hk, e1, e2⟩ := key x hx
  have r1 := names_rep ha _ (nth_mem hk)
  have r2 := names_rep hb _ (nth_mem (xs := namesN b (alikeN b ob)) (k := k) (by omega))
  have o1 := alike_out ha hv.1 r1.1 (e1.trans r1.2.symm)
  have o2 := alike_out hb hv.2 r2.1 (e2.trans r2.2.symm)
  have e := congrArg (fun rows => nth rows k) h2
  try simp only at e
  rw [nth_map hk, nth_map (by omega)] at e
  simp only [decide_eq_true_eq]
  rw [o1, o2, e]
theorem least_of_same (ha : MOk a oa W) (hb : MOk b ob W) (h : sameB a oa b ob = true) : leastM a oa = leastM b ob := by
  have ho : ∀ x ∈ pairsF a b, rowN oa x.1 = rowN ob x.2 := fun x hx => by
    unfold sameB at h
    rw [List.all_eq_true] at h
    simpa using h x hx
  let Z : Int → Int → Prop := fun u v => ∃ x ∈ pairsF a b, u = clsAt (alikeN a oa) x.1 ∧ v = clsAt (alikeN b ob) x.2
  have bi : Bi Z := by
    rintro u v u2 v2 ⟨x, hx, rfl, rfl⟩ ⟨y, hy, rfl, rfl⟩
    have vx := pairs_vp ha hb x hx
    have vy := pairs_vp ha hb y hy
    constructor
    · intro e
      refine alike_coarse hb vx.2 vy.2 fun w hw => ?_
      have := alike_beh ha vx.1 vy.1 e hw
      rw [← ho _ (pairs_go ha hb hx hw), ← ho _ (pairs_go ha hb hy hw), this]
    · intro e
      refine alike_coarse ha vx.1 vy.1 fun w hw => ?_
      have := alike_beh hb vx.2 vy.2 e hw
      rw [ho _ (pairs_go ha hb hx hw), ho _ (pairs_go ha hb hy hw), this]
  have ev : ∀ u v, Z u v → Ev Z (cT a (alikeN a oa) u) (cT b (alikeN b ob) v) := by
    rintro u v ⟨x, hx, rfl, rfl⟩
    have vx := pairs_vp ha hb x hx
    have i1 := alike_in ha vx.1
    have i2 := alike_in hb vx.2
    have l1 := (ha.row i1).1
    have l2 := (hb.row i2).1
    refine ⟨by rw [cT_len, cT_len, l1, l2], fun i hi => ?_⟩
    rw [cT_len, l1] at hi
    have hi2 : i < (rowN a x.1).length := by rw [(ha.row vx.1).1]; exact hi
    refine ⟨(nth (rowN a x.1) i, nth (rowN b x.2) i), pairs_closed ha hb x hx _ (by rw [← succP_nth hi2]; exact nth_mem (by rw [succP_len]; exact hi2)), ?_, ?_⟩
    · rw [show nth (cT a (alikeN a oa) (clsAt (alikeN a oa) x.1)) i = _ from nth_map (by omega)]
      exact alike_step ha i1 vx.1 (alike_idem ha vx.1) hi
    · rw [show nth (cT b (alikeN b ob) (clsAt (alikeN b ob) x.2)) i = _ from nth_map (by omega)]
      exact alike_step hb i2 vx.2 (alike_idem hb vx.2) hi
  have e0 : Ev Z [0] [0] := ⟨rfl, fun i hi => by
    obtain rfl : i = 0 := by simpa using hi
    exact ⟨(0, 0), pairs_zero, (alike_zero ha).symm, (alike_zero hb).symm⟩⟩
  have en : Ev Z (namesN a (alikeN a oa)) (namesN b (alikeN b ob)) := Ev.bfsG bi ev 48 0 e0
  have pl : ∀ u v, Z u v → place (namesN a (alikeN a oa)) u = place (namesN b (alikeN b ob)) v := fun u v hz => by
    unfold place
    rw [en.1]
    refine firstN_congr fun i hi => ?_
    rw [Bool.eq_iff_iff, beq_iff_eq, beq_iff_eq]
    exact bi _ _ _ _ (en.2 i (by rw [en.1]; exact hi)) hz
  have zo : ∀ u v, Z u v → rowN oa u = rowN ob v := by
    rintro u v ⟨x, hx, rfl, rfl⟩
    have vx := pairs_vp ha hb x hx
    rw [alike_out ha (alike_in ha vx.1) vx.1 (alike_idem ha vx.1), alike_out hb (alike_in hb vx.2) vx.2 (alike_idem hb vx.2)]
    exact ho x hx
  unfold leastM
  rw [Prod.mk.injEq]
  constructor
  · refine list_ext (by simp [en.1]) fun k hk => ?_
    rw [List.length_map] at hk
    have hk2 : k < (namesN b (alikeN b ob)).length := by rw [← en.1]; exact hk
    rw [nth_map hk, nth_map hk2]
    have e := ev _ _ (en.2 k hk)
    refine list_ext (by simp [e.1]) fun i hi => ?_
    rw [List.length_map] at hi
    rw [nth_map hi, nth_map (by rw [← e.1]; exact hi)]
    exact pl _ _ (e.2 i hi)
  · refine list_ext (by simp [en.1]) fun k hk => ?_
    rw [List.length_map] at hk
    have hk2 : k < (namesN b (alikeN b ob)).length := by rw [← en.1]; exact hk
    rw [nth_map hk, nth_map hk2]
    exact zo _ _ (en.2 k hk)
theorem same_iff (ha : MOk a oa W) (hb : MOk b ob W) : decide (leastM a oa = leastM b ob) = sameB a oa b ob := by
  rw [Bool.eq_iff_iff, decide_eq_true_eq]
  exact ⟨same_of_least ha hb, least_of_same ha hb⟩
end
theorem take_all {xs : List Int} {q : Nat} (h : xs.length ≤ q) : (xs.take q).take q = xs := by
  rw [List.take_take, Nat.min_self, List.take_of_length_le h]
theorem take_dta {xs : List Int} {q : Nat} (h : xs.length ≤ q) : ((xs.take q).drop 0).take q = xs := by
  rw [List.drop_zero, take_all h]
theorem nearS_no0 {n out : List (List Int)} {c : List Int} {p q : Nat} (h : ¬ nth c p = nth c q) : false = nearS n out c p q := by
  unfold nearS; rw [decide_eq_false h]; rfl
theorem nearS_no1 {n out : List (List Int)} {c : List Int} {p q i : Nat} (hi : i < (nth n p).length) (h : ¬ nth (nth out p) i = nth (nth out q) i) : false = nearS n out c p q := by
  unfold nearS; rw [allN_false i hi (by rw [decide_eq_false h]; rfl), Bool.and_false]
theorem nearS_no2 {n out : List (List Int)} {c : List Int} {p q i : Nat} (hi : i < (nth n p).length) (h : ¬ nth c (nth (nth n p) i).toNat = nth c (nth (nth n q) i).toNat) : false = nearS n out c p q := by
  unfold nearS; rw [allN_false i hi (by rw [decide_eq_false h, Bool.and_false]), Bool.and_false]
theorem nearS_yes {n out : List (List Int)} {c : List Int} {p q i : Nat} (h0 : nth c p = nth c q) (hi : (nth n p).length ≤ i) (h : ∀ z, z < i → (decide (nth (nth out p) z = nth (nth out q) z) && decide (nth c (nth (nth n p) z).toNat = nth c (nth (nth n q) z).toNat)) = true) : true = nearS n out c p q := by
  unfold nearS; rw [decide_eq_true h0, allN_true fun j hj => h j (by omega)]; rfl
theorem fillN_len {c : List Int} {q N : Nat} (h : c.length = N ∧ q ≤ N) : (fillN c q N).length = N := by
  unfold fillN; rw [List.length_append, List.length_take, List.length_replicate]; omega
theorem fill_dt {c : List Int} {q N : Nat} (h : c.length = N ∧ N ≤ q) : ((fillN c q N).drop 0).take N = c := by
  rw [fill_all ⟨by omega, h.2⟩, List.drop_zero, List.take_of_length_le (by omega)]
theorem nearI_of {n : List (List Int)} {c : List Int} {q r i : Nat} {al : Bool} (m2 : al = (decide (nth c q = nth c r) && allN i fun i => decide (nth c (nth (nth n q) i).toNat = nth c (nth (nth n r) i).toNat))) (ha : al = true) (hi : (nth n q).length ≤ i ∧ i ≤ (nth n q).length) : nearI n c r q = true := by
  have e : i = (nth n q).length := by omega
  subst e; rw [ha] at m2; exact m2.symm
theorem nearI_not {n : List (List Int)} {c : List Int} {q r i : Nat} {al : Bool} (m2 : al = (decide (nth c q = nth c r) && allN i fun i => decide (nth c (nth (nth n q) i).toNat = nth c (nth (nth n r) i).toNat))) (ha : al = false) (hi : (nth n q).length ≤ i ∧ i ≤ (nth n q).length) : nearI n c r q = false := by
  have e : i = (nth n q).length := by omega
  subst e; rw [ha] at m2; exact m2.symm
theorem fill_t {c : List Int} {q N : Nat} (h : c.length = N ∧ N ≤ q) : (fillN c q N).take N = c := by
  rw [fill_all ⟨by omega, h.2⟩, List.take_of_length_le (by omega)]
end Go.Proofs.Ytgfnpphhdkjlmaa
