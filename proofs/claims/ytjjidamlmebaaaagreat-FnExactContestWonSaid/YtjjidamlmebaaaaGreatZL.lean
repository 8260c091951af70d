/- Parity games: what a player holds by a plan; two players hold no vertex in common; each game can be solved. No program in sight; no conditions. -/
namespace Go.Proofs.YtjjidamlmebaaaaGreat
variable {S D B A L R S' : Nat → Prop} {σ p r τ : Nat → Nat} {v k n x : Nat} {W : Int → Nat → Prop}
structure PG where
 own : Nat → Int
 pr : Nat → Int
 E : Nat → Nat → Prop
section
variable (G : PG)
def Stp (i : Int) (S : Nat → Prop) (σ : Nat → Nat) (v u : Nat) : Prop := (G.own v = i → u = σ v) ∧ (G.own v ≠ i → S u ∧ G.E v u)
structure Dom (i : Int) (S D : Nat → Prop) (σ : Nat → Nat) : Prop where
 sub : ∀ v, D v → S v
 mine : ∀ v, D v → G.own v = i → G.E v (σ v) ∧ D (σ v)
 his : ∀ v, D v → G.own v ≠ i → ∀ u, S u → G.E v u → D u
 cyc : ∀ (p : Nat → Nat) (k : Nat), 0 < k → p k = p 0 → (∀ m, m < k → D (p m) ∧ Stp G i S σ (p m) (p (m + 1))) → ∃ m, m < k ∧ G.pr (p m) % 2 = i ∧ ∀ m', m' < k → G.pr (p m') ≤ G.pr (p m)
def Win (i : Int) (S : Nat → Prop) (v : Nat) : Prop := ∃ D σ, Dom G i S D σ ∧ D v
def Tot (S : Nat → Prop) : Prop := ∀ v, S v → ∃ u, S u ∧ G.E v u
structure Att (i : Int) (S T A : Nat → Prop) (r : Nat → Nat) : Prop where
 sub : ∀ v, A v → S v
 goal : ∀ v, S v → T v → A v
 mine : ∀ v, A v → ¬ T v → G.own v = i → ∃ u, A u ∧ G.E v u ∧ r u < r v
 his : ∀ v, A v → ¬ T v → G.own v ≠ i → ∀ u, S u → G.E v u → A u ∧ r u < r v
 cm : ∀ v, S v → G.own v = i → ∀ u, A u → G.E v u → A v
 ch : ∀ v, S v → G.own v ≠ i → (∀ u, S u → G.E v u → A u) → A v
end
variable {G : PG}
theorem Dom.next {i : Int}   (h : Dom G i S D σ) {u : Nat} (hv : D v) (hs : Stp G i S σ v u) : D u := by
 by_cases ho : G.own v = i
 ·rw [hs.1 ho]; exact (h.mine v hv ho).2
 ·exact h.his v hv ho u (hs.2 ho).1 (hs.2 ho).2
theorem Zog  (hk : p k = p 0) (hst : ∀ m, m < k → B (p m) → B (p (m + 1))) {m0 : Nat} (h0 : m0 < k) (hb : B (p m0)) : ∀ m, m < k → B (p m) := by
 have up : ∀ d, m0 + d ≤ k → B (p (m0 + d)) := by
  intro d
  induction d with
  | zero => intro _; exact hb
  | succ d ih => intro h; rw [← Nat.add_assoc]; exact hst _ (by omega) (ih (by omega))
 have hp0 : B (p 0) := by rw [← hk]; have := up (k - m0) (by omega); rwa [show m0 + (k - m0) = k by omega] at this
 intro m
 induction m with
 | zero => intro _; exact hp0
 | succ m ih => intro h; exact hst m (by omega) (ih (by omega))
theorem ZpO  (h0 : 0 < k) (hk : p k = p 0)  (h : ∀ m, m < k → r (p (m + 1)) < r (p m)) : False := by
 have : ∀ m, m ≤ k → r (p m) + m ≤ r (p 0) := by
  intro m
  induction m with
  | zero => intro _; omega
  | succ m ih => intro hm; have := ih (by omega); have := h m (by omega); omega
 have := this k (Nat.le_refl _)
 rw [hk] at this; omega
theorem pig : ∀ (n : Nat) (p : Nat → Nat), (∀ m, m ≤ n → p m < n) → ∃ a b, a < b ∧ b ≤ n ∧ p a = p b
 | 0, p, h => absurd (h 0 (Nat.le_refl _)) (by omega)
 | n + 1, p, h => by
  apply Classical.byContradiction
  intro hc
  have hne : ∀ m, m ≤ n → p m ≠ p (n + 1) := fun m hm e => hc ⟨m, n + 1, by omega, Nat.le_refl _, e⟩
  obtain ⟨a, b, h1, h2, h3⟩ := pig n (fun m => if p m = n then p (n + 1) else p m) fun m hm => by
   have := h m (by omega)
   have := h (n + 1) (Nat.le_refl _)
   have := hne m hm
   try dsimp only
   split <;> omega
  refine hc ⟨a, b, h1, by omega, ?_⟩
  have := hne a (by omega)
  have := hne b h2
  try dsimp only at h3
  split at h3 <;> split at h3 <;> omega
theorem ZjO  {i j : Int}  (hn : ∀ v, S v → v < n) (hij : i ≠ j) (ho : ∀ v, S v → G.own v = i ∨ G.own v = j)  (h1 : Win G i S v) (h2 : Win G j S v) : False := by
 obtain ⟨D, σ, hD, hv⟩ := h1
 obtain ⟨D', τ, hD', hv'⟩ := h2
 let f : Nat → Nat := fun x => by classical exact if G.own x = i then σ x else τ x
 let p : Nat → Nat := fun m => Nat.rec v (fun _ x => f x) m
 have hs : ∀ m, p (m + 1) = f (p m) := fun m => rfl
 have hfi : ∀ x, G.own x = i → f x = σ x := fun x h => by simp [f, h]
 have hfj : ∀ x, G.own x ≠ i → f x = τ x := fun x h => by simp [f, h]
 have hin : ∀ m, D (p m) ∧ D' (p m) := by
  intro m
  induction m with
  | zero => exact ⟨hv, hv'⟩
  | succ m ih =>
   rw [hs]
   have hS := hD.sub _ ih.1
   by_cases e : G.own (p m) = i
   ·have h3 := hD.mine _ ih.1 e
    rw [hfi _ e]
    exact ⟨h3.2, hD'.his _ ih.2 (by rw [e]; exact hij) _ (hD.sub _ h3.2) h3.1⟩
   ·have e' : G.own (p m) = j := (ho _ hS).resolve_left e
    have h3 := hD'.mine _ ih.2 e'
    rw [hfj _ e]
    exact ⟨hD.his _ ih.1 e _ (hD'.sub _ h3.2) h3.1, h3.2⟩
 have hpig : ∃ a b, a < b ∧ p a = p b := by
  obtain ⟨a, b, h, _, e⟩ := pig n p fun m _ => hn _ (hD.sub _ (hin m).1)
  exact ⟨a, b, h, e⟩
 obtain ⟨a, b, hab, e⟩ := hpig
 have q0 : (fun m => p (a + m)) (b - a) = (fun m => p (a + m)) 0 := by show p (a + (b - a)) = p (a + 0); rw [show a + (b - a) = b by omega, Nat.add_zero, e]
 obtain ⟨m, hm, e1, h1⟩ := hD.cyc (fun m => p (a + m)) (b - a) (by omega) q0 fun m _ => ⟨(hin _).1, fun ho' => by show p (a + (m + 1)) = _; rw [← Nat.add_assoc, hs, hfi _ ho'], fun ho' => by
  show S (p (a + (m + 1))) ∧ G.E (p (a + m)) (p (a + (m + 1)))
  rw [← Nat.add_assoc]
  refine ⟨hD.sub _ (hin (a + m + 1)).1, ?_⟩
  have h3 := hD'.mine _ (hin (a + m)).2 ((ho _ (hD.sub _ (hin _).1)).resolve_left ho')
  rw [hs, hfj _ ho']; exact h3.1⟩
 obtain ⟨m', hm', e1', h1'⟩ := hD'.cyc (fun m => p (a + m)) (b - a) (by omega) q0 fun m _ => ⟨(hin _).2, fun ho' => by
  show p (a + (m + 1)) = _
  rw [← Nat.add_assoc, hs, hfj _ (by rw [ho']; exact fun e => hij e.symm)], fun ho' => by
  show S (p (a + (m + 1))) ∧ G.E (p (a + m)) (p (a + (m + 1)))
  rw [← Nat.add_assoc]
  refine ⟨hD.sub _ (hin (a + m + 1)).1, ?_⟩
  have ho2 := (ho _ (hD.sub _ (hin (a + m)).1)).resolve_right ho'
  have h3 := hD.mine _ (hin (a + m)).1 ho2
  rw [hs, hfi _ ho2]; exact h3.1⟩
 have h2 := h1 m' hm'
 have h3 := h1' m hm
 have h4 : G.pr (p (a + m)) = G.pr (p (a + m')) := by
  omega
 rw [h4, e1'] at e1
 exact hij e1.symm
variable {G : PG}
noncomputable def both (B : Nat → Prop) (σ τ : Nat → Nat) (v : Nat) : Nat := by classical exact if B v then σ v else τ v
theorem Zdb  (h : B v) : both B σ τ v = σ v := by simp [both, h]
theorem ZdL  (h : ¬ B v) : both B σ τ v = τ v := by simp [both, h]
theorem Dom.join {i : Int} {V : Nat → Prop}  (hB : Dom G i S B σ) (hV : Dom G i (fun v => S v ∧ ¬ B v) V τ) : Dom G i S (fun v => B v ∨ V v) (both B σ τ) where
 sub := fun v h => h.elim (hB.sub v) fun h => (hV.sub v h).1
 mine := fun v h ho => by
  rcases Classical.em (B v) with hb | hb
  ·rw [Zdb hb]; exact ⟨(hB.mine v hb ho).1, .inl (hB.mine v hb ho).2⟩
  ·rw [ZdL hb]
   have hv := h.resolve_left hb
   exact ⟨(hV.mine v hv ho).1, .inr (hV.mine v hv ho).2⟩
 his := fun v h ho u hu he => by
  rcases h with h | h
  ·exact .inl (hB.his v h ho u hu he)
  ·rcases Classical.em (B u) with hb | hb
   ·exact .inl hb
   ·exact .inr (hV.his v h ho u ⟨hu, hb⟩ he)
 cyc := fun p k h0 hk hst => by
  rcases Classical.em (∃ m, m < k ∧ B (p m)) with ⟨m0, hm0, hb⟩ | hno
  ·have hall := Zog (B := B) hk (fun m hm hb => by
    have := (hst m hm).2
    refine hB.next hb ⟨fun ho => ?_, this.2⟩
    rw [this.1 ho, Zdb hb]) hm0 hb
   refine hB.cyc p k h0 hk fun m hm => ⟨hall m hm, fun ho => ?_, (hst m hm).2.2⟩
   rw [(hst m hm).2.1 ho, Zdb (hall m hm)]
  ·have hnb : ∀ m, m < k → ¬ B (p m) := fun m hm hb => hno ⟨m, hm, hb⟩
   have hv : ∀ m, m < k → V (p m) := fun m hm => (hst m hm).1.resolve_left (hnb m hm)
   have hnb2 : ∀ m, m < k → ¬ B (p (m + 1)) := fun m hm => by
    rcases Nat.lt_or_ge (m + 1) k with h | h
    ·exact hnb _ h
    ·rw [show m + 1 = k by omega, hk]; exact hnb 0 h0
   refine hV.cyc p k h0 hk fun m hm => ⟨hv m hm, fun ho => ?_, fun ho => ⟨⟨((hst m hm).2.2 ho).1, hnb2 m hm⟩, ((hst m hm).2.2 ho).2⟩⟩
   rw [(hst m hm).2.1 ho, ZdL (hnb m hm)]
noncomputable def pull (A : Nat → Prop) (r : Nat → Nat) (E : Nat → Nat → Prop) (v : Nat) : Nat := by classical exact if h : ∃ u, A u ∧ E v u ∧ r u < r v then h.choose else 0
theorem ZjY  {E : Nat → Nat → Prop}  (h : ∃ u, A u ∧ E v u ∧ r u < r v) : A (pull A r E v) ∧ E v (pull A r E v) ∧ r (pull A r E v) < r v := by
 unfold pull; rw [dif_pos h]; exact h.choose_spec
theorem Dom.draw {i : Int}    (hL : Dom G i S L σ) (hA : Att G i S L B r) : Dom G i S B (both L σ (pull B r G.E)) where
 sub := hA.sub
 mine := fun v h ho => by
  rcases Classical.em (L v) with hl | hl
  ·rw [Zdb hl]
   have := hL.mine v hl ho
   exact ⟨this.1, hA.goal _ (hL.sub _ this.2) this.2⟩
  ·rw [ZdL hl]
   have := ZjY (hA.mine v h hl ho)
   exact ⟨this.2.1, this.1⟩
 his := fun v h ho u hu he => by
  rcases Classical.em (L v) with hl | hl
  ·exact hA.goal u hu (hL.his v hl ho u hu he)
  ·exact (hA.his v h hl ho u hu he).1
 cyc := fun p k h0 hk hst => by
  rcases Classical.em (∃ m, m < k ∧ L (p m)) with ⟨m0, hm0, hb⟩ | hno
  ·have hall := Zog (B := L) hk (fun m hm hb => by
    have := (hst m hm).2
    refine hL.next hb ⟨fun ho => ?_, this.2⟩
    rw [this.1 ho, Zdb hb]) hm0 hb
   refine hL.cyc p k h0 hk fun m hm => ⟨hall m hm, fun ho => ?_, (hst m hm).2.2⟩
   rw [(hst m hm).2.1 ho, Zdb (hall m hm)]
  ·have hnb : ∀ m, m < k → ¬ L (p m) := fun m hm hb => hno ⟨m, hm, hb⟩
   refine (ZpO h0 hk (r := r) fun m hm => ?_).elim
   have hs := (hst m hm).2
   by_cases ho : G.own (p m) = i
   ·rw [hs.1 ho, ZdL (hnb m hm)]
    exact (ZjY (hA.mine _ (hst m hm).1 (hnb m hm) ho)).2.2
   ·exact (hA.his _ (hst m hm).1 (hnb m hm) ho _ (hs.2 ho).1 (hs.2 ho).2).2
theorem Dom.wide {i : Int}   (hsub : ∀ v, R v → S v) (hR : ∀ v, R v → G.own v ≠ i → ∀ u, S u → G.E v u → R u) (h : Dom G i R D σ) : Dom G i S D σ where
 sub := fun v hv => hsub v (h.sub v hv)
 mine := h.mine
 his := fun v hv ho u hu he => h.his v hv ho u (hR v (h.sub v hv) ho u hu he) he
 cyc := fun p k h0 hk hst => h.cyc p k h0 hk fun m hm => ⟨(hst m hm).1, (hst m hm).2.1, fun ho => ⟨hR _ (h.sub _ (hst m hm).1) ho _ ((hst m hm).2.2 ho).1 ((hst m hm).2.2 ho).2, ((hst m hm).2.2 ho).2⟩⟩
theorem Dom.top {i : Int} {S T A R : Nat → Prop} {r : Nat → Nat} {σ : Nat → Nat} {top : Int} (hS : Tot G S) (hi : top % 2 = i) (hle : ∀ v, S v → G.pr v ≤ top) (hT : ∀ v, T v → G.pr v = top) (hA : Att G i S T A r) (hRe : ∀ v, R v ↔ S v ∧ ¬ A v) (hR : Dom G i R R σ) : ∃ τ, Dom G i S S τ := by
 classical
 let any : Nat → Nat := fun v => if h : ∃ u, S u ∧ G.E v u then h.choose else 0
 have hany : ∀ v, S v → S (any v) ∧ G.E v (any v) := fun v hv => by
  have h := hS v hv
  have : any v = h.choose := by simp only [any]; rw [dif_pos h]
  rw [this]; exact h.choose_spec
 refine ⟨both R σ (both (fun v => A v ∧ ¬ T v) (pull A r G.E) any), fun v h => h, fun v h ho => ?_, fun v _ _ u hu _ => hu, fun p k h0 hk hst => ?_⟩
 ·rcases Classical.em (R v) with hr | hr
  ·rw [Zdb hr]
   have := hR.mine v hr ho
   exact ⟨this.1, ((hRe _).1 this.2).1⟩
  ·rw [ZdL hr]
   rcases Classical.em (A v ∧ ¬ T v) with ha | ha
   ·rw [Zdb (B := fun v => A v ∧ ¬ T v) ha]
    have := ZjY (hA.mine v ha.1 ha.2 ho)
    exact ⟨this.2.1, hA.sub _ this.1⟩
   ·rw [ZdL (B := fun v => A v ∧ ¬ T v) ha]
    exact ⟨(hany v h).2, (hany v h).1⟩
 ·rcases Classical.em (∃ m, m < k ∧ T (p m)) with ⟨m0, hm0, ht⟩ | hno
  ·exact ⟨m0, hm0, by rw [hT _ ht]; exact hi, fun m' hm' => by rw [hT _ ht]; exact hle _ (hst m' hm').1⟩
  ·have hnt : ∀ m, m < k → ¬ T (p m) := fun m hm ht => hno ⟨m, hm, ht⟩
   have hstep : ∀ m, m < k → A (p m) → A (p (m + 1)) ∧ r (p (m + 1)) < r (p m) := fun m hm ha => by
    have hs := (hst m hm).2
    by_cases ho : G.own (p m) = i
    ·have hr : ¬ R (p m) := fun hr => ((hRe _).1 hr).2 ha
     rw [hs.1 ho, ZdL hr, Zdb (B := fun v => A v ∧ ¬ T v) ⟨ha, hnt m hm⟩]
     have := ZjY (hA.mine _ ha (hnt m hm) ho)
     exact ⟨this.1, this.2.2⟩
    ·exact hA.his _ ha (hnt m hm) ho _ (hs.2 ho).1 (hs.2 ho).2
   have hna : ∀ m, m < k → ¬ A (p m) := fun m0 hm0 ha => by
    have hall := Zog (B := A) hk (fun m hm hb => (hstep m hm hb).1) hm0 ha
    exact ZpO h0 hk (r := r) fun m hm => (hstep m hm (hall m hm)).2
   have hr : ∀ m, m < k → R (p m) := fun m hm => (hRe _).2 ⟨(hst m hm).1, hna m hm⟩
   have hr2 : ∀ m, m < k → R (p (m + 1)) := fun m hm => by
    rcases Nat.lt_or_ge (m + 1) k with h | h
    ·exact hr _ h
    ·rw [show m + 1 = k by omega, hk]; exact hr 0 h0
   refine hR.cyc p k h0 hk fun m hm => ⟨hr m hm, fun ho => ?_, fun ho => ⟨hr2 m hm, ((hst m hm).2.2 ho).2⟩⟩
   rw [(hst m hm).2.1 ho, Zdb (hr m hm)]
theorem Att.rest {i : Int} {T : Nat → Prop}  (hS : Tot G S) (hA : Att G i S T A r) : Tot G fun v => S v ∧ ¬ A v := fun v ⟨hv, hn⟩ => by
 by_cases ho : G.own v = i
 ·obtain ⟨u, hu, he⟩ := hS v hv
  exact ⟨u, ⟨hu, fun ha => hn (hA.cm v hv ho u ha he)⟩, he⟩
 ·apply Classical.byContradiction
  intro hc
  refine hn (hA.ch v hv ho fun u hu he => ?_)
  apply Classical.byContradiction
  intro ha
  exact hc ⟨u, ⟨hu, ha⟩, he⟩
theorem Att.trap {i : Int} {T : Nat → Prop}  (hA : Att G i S T A r) : ∀ v, (S v ∧ ¬ A v) → G.own v = i → ∀ u, S u → G.E v u → S u ∧ ¬ A u := fun v ⟨hv, hn⟩ ho u hu he => ⟨hu, fun ha => hn (hA.cm v hv ho u ha he)⟩
theorem Win.all {i : Int}   (h : Dom G i S S σ)  (hv : S v) : Win G i S v := ⟨S, σ, h, hv⟩
variable {G : PG}
def AttN (G : PG) (i : Int) (S T : Nat → Prop) : Nat → Nat → Prop
 | 0, v => S v ∧ T v
 | k + 1, v => AttN G i S T k v ∨ (S v ∧ ((G.own v = i ∧ ∃ u, AttN G i S T k u ∧ G.E v u) ∨ (G.own v ≠ i ∧ ∀ u, S u → G.E v u → AttN G i S T k u)))
def AttR (G : PG) (i : Int) (S T : Nat → Prop) (v : Nat) : Prop := ∃ k, AttN G i S T k v
theorem AttN.sub {i : Int} {S T : Nat → Prop} : ∀ {k v}, AttN G i S T k v → S v
 | 0, _, h => h.1
 | k + 1, _, h => h.elim (AttN.sub (k := k)) fun h => h.1
theorem AttN.mono {i : Int} {S T : Nat → Prop} {k v : Nat} (h : AttN G i S T k v) : ∀ d, AttN G i S T (k + d) v
 | 0 => h
 | d + 1 => .inl (AttN.mono h d)
theorem AttN.le {i : Int} {T : Nat → Prop} {l : Nat} (h : AttN G i S T k v) (hl : k ≤ l) : AttN G i S T l v := by have := h.mono (l - k); rwa [show k + (l - k) = l by omega] at this
theorem ZqA {p : Nat → Prop} : ∀ {k : Nat}, p k → ∃ m, p m ∧ ∀ j, j < m → ¬ p j := by
 intro k
 induction k using Nat.strongRecOn with
 | ind k ih =>
  intro h
  rcases Classical.em (∃ j, j < k ∧ p j) with ⟨j, hj, hp⟩ | hn
  ·exact ih j hj hp
  ·exact ⟨k, h, fun j hj hp => hn ⟨j, hj, hp⟩⟩
noncomputable def rnk (G : PG) (i : Int) (S T : Nat → Prop) (v : Nat) : Nat := by classical exact if h : AttR G i S T v then (ZqA (p := fun k => AttN G i S T k v) h.choose_spec).choose else 0
theorem Zr7 {i : Int} {T : Nat → Prop}  (h : AttR G i S T v) : AttN G i S T (rnk G i S T v) v ∧ ∀ j, j < rnk G i S T v → ¬ AttN G i S T j v := by
 unfold rnk; rw [dif_pos h]; exact (ZqA (p := fun k => AttN G i S T k v) h.choose_spec).choose_spec
theorem Zr5 {i : Int} {T : Nat → Prop}  (h : AttN G i S T k v) : rnk G i S T v ≤ k := by
 rcases Nat.lt_or_ge k (rnk G i S T v) with h1 | h1
 ·exact absurd h ((Zr7 ⟨k, h⟩).2 k h1)
 ·exact h1
theorem Zoh {i : Int} {T : Nat → Prop}  (h : AttR G i S T v) (ht : ¬ T v) : ∃ k, rnk G i S T v = k + 1 ∧ S v ∧ ((G.own v = i ∧ ∃ u, AttN G i S T k u ∧ G.E v u) ∨ (G.own v ≠ i ∧ ∀ u, S u → G.E v u → AttN G i S T k u)) := by
 have h1 := Zr7 h
 cases hr : rnk G i S T v with
 | zero => rw [hr] at h1; exact absurd h1.1.2 ht
 | succ k =>
  rw [hr] at h1
  exact ⟨k, rfl, h1.1.resolve_left (h1.2 k (by omega))⟩
theorem Zly {i : Int} {S T : Nat → Prop} {Q : Nat → Prop} : ∀ n, (∀ u, u < n → Q u → AttR G i S T u) → ∃ k, ∀ u, u < n → Q u → AttN G i S T k u
 | 0, _ => ⟨0, fun u hu => by omega⟩
 | n + 1, h => by
  obtain ⟨k, hk⟩ := Zly n fun u hu hq => h u (by omega) hq
  rcases Classical.em (Q n) with hq | hq
  ·obtain ⟨l, hl⟩ := h n (by omega) hq
   refine ⟨k + l, fun u hu hq => ?_⟩
   rcases Nat.lt_or_ge u n with h1 | h1
   ·exact (hk u h1 hq).le (by omega)
   ·rw [show u = n by omega]; exact hl.le (by omega)
  ·refine ⟨k, fun u hu hq' => ?_⟩
   rcases Nat.lt_or_ge u n with h1 | h1
   ·exact hk u h1 hq'
   ·rw [show u = n by omega] at hq'; exact absurd hq' hq
theorem ZdS {i : Int} {T : Nat → Prop}  (hn : ∀ v, S v → v < n) : Att G i S T (AttR G i S T) (rnk G i S T) where
 sub := fun v ⟨k, h⟩ => h.sub
 goal := fun v hs ht => ⟨0, hs, ht⟩
 mine := fun v h ht ho => by
  obtain ⟨k, e, _, h1⟩ := Zoh h ht
  obtain ⟨_, u, hu, he⟩ := h1.resolve_right fun h2 => h2.1 ho
  exact ⟨u, ⟨k, hu⟩, he, by have := Zr5 hu; omega⟩
 his := fun v h ht ho u hs he => by
  obtain ⟨k, e, _, h1⟩ := Zoh h ht
  have hu := (h1.resolve_left fun h2 => ho h2.1).2 u hs he
  exact ⟨⟨k, hu⟩, by have := Zr5 hu; omega⟩
 cm := fun v hs ho u ⟨k, hu⟩ he => ⟨k + 1, .inr ⟨hs, .inl ⟨ho, u, hu, he⟩⟩⟩
 ch := fun v hs ho h => by
  obtain ⟨k, hk⟩ := Zly (G := G) (i := i) (S := S) (T := T) (Q := fun u => S u ∧ G.E v u) n fun u _ hq => h u hq.1 hq.2
  exact ⟨k + 1, .inr ⟨hs, .inr ⟨ho, fun u hu he => hk u (hn u hu) ⟨hu, he⟩⟩⟩⟩
theorem Zny {i : Int} {T : Nat → Prop} (h0 : ∀ v, S v → T v → B v) (cm : ∀ v, S v → G.own v = i → ∀ u, B u → G.E v u → B v) (ch : ∀ v, S v → G.own v ≠ i → (∀ u, S u → G.E v u → B u) → B v) : ∀ v, AttR G i S T v → B v := by
 have key : ∀ k v, AttN G i S T k v → B v := by
  intro k
  induction k with
  | zero => intro v h; exact h0 v h.1 h.2
  | succ k ih =>
   intro v h
   rcases h with h | ⟨hs, ⟨ho, u, hu, he⟩ | ⟨ho, hu⟩⟩
   ·exact ih v h
   ·exact cm v hs ho u (ih u hu) he
   ·exact ch v hs ho fun u hs' he => ih u (hu u hs' he)
 exact fun v ⟨k, h⟩ => key k v h
structure Sol (G : PG) (S : Nat → Prop) (W : Int → Nat → Prop) : Prop where
 cov : ∀ v, S v → W 0 v ∨ W 1 v
 d0 : ∃ σ, Dom G 0 S (W 0) σ
 d1 : ∃ σ, Dom G 1 S (W 1) σ
theorem Sol.dom  (h : Sol G S W) {i : Int} (hi : i = 0 ∨ i = 1) : ∃ σ, Dom G i S (W i) σ := by
 rcases hi with rfl | rfl
 ·exact h.d0
 ·exact h.d1
theorem Sol.mk2  {i : Int} (hi : i = 0 ∨ i = 1) (hc : ∀ v, S v → W i v ∨ W (1 - i) v) (h1 : ∃ σ, Dom G i S (W i) σ) (h2 : ∃ σ, Dom G (1 - i) S (W (1 - i)) σ) : Sol G S W := by
 rcases hi with rfl | rfl
 ·exact ⟨hc, h1, h2⟩
 ·exact ⟨fun v hv => (hc v hv).symm, h2, h1⟩
theorem Sol.win  (hn : ∀ v, S v → v < n) (ho : ∀ v, S v → G.own v = 0 ∨ G.own v = 1) (h : Sol G S W) {i : Int} (hi : i = 0 ∨ i = 1) (v : Nat) : W i v ↔ Win G i S v := by
 constructor
 ·intro hv
  obtain ⟨σ, hd⟩ := h.dom hi
  exact ⟨W i, σ, hd, hv⟩
 ·rintro ⟨D, σ, hd, hv⟩
  have hs := hd.sub v hv
  have hw : Win G i S v := ⟨D, σ, hd, hv⟩
  rcases hi with rfl | rfl
  ·rcases h.cov v hs with h1 | h1
   ·exact h1
   ·obtain ⟨τ, hd1⟩ := h.d1
    exact (ZjO hn (by decide) ho hw ⟨W 1, τ, hd1, h1⟩).elim
  ·rcases h.cov v hs with h1 | h1
   ·obtain ⟨τ, hd1⟩ := h.d0
    exact (ZjO hn (by decide) ho ⟨W 0, τ, hd1, h1⟩ hw).elim
   ·exact h1
theorem Dom.congr {i : Int} {D' : Nat → Prop}  (hS : ∀ v, S v ↔ S' v) (hD : ∀ v, D v ↔ D' v) (h : Dom G i S D σ) : Dom G i S' D' σ := by
 rw [show S' = S from funext fun v => propext (hS v).symm, show D' = D from funext fun v => propext (hD v).symm]; exact h
theorem Dom.none (i : Int) (S : Nat → Prop) (σ : Nat → Nat) : Dom G i S (fun _ => False) σ := ⟨fun _ h => h.elim, fun _ h => h.elim, fun _ h => h.elim, fun _ _ h0 _ h => ((h 0 h0).1).elim⟩
theorem Sol.all {T : Nat → Prop}   {top i : Int} (hi : i = 0 ∨ i = 1) (hS : Tot G S) (ht : top % 2 = i) (hle : ∀ v, S v → G.pr v ≤ top) (hT : ∀ v, T v → G.pr v = top) (hA : Att G i S T A r) (hR : ∀ v, R v ↔ S v ∧ ¬ A v) (hs : Sol G R W) (hno : ∀ v, ¬ W (1 - i) v) : Sol G S fun k v => k = i ∧ S v := by
 obtain ⟨σ, hd⟩ := hs.dom hi
 have hc : ∀ v, W i v ↔ R v := fun v => ⟨hd.sub v, fun hv => by
  rcases hi with rfl | rfl
  ·exact (hs.cov v hv).resolve_right (hno v)
  ·exact (hs.cov v hv).resolve_left (hno v)⟩
 obtain ⟨τ, h1⟩ := Dom.top hS ht hle hT hA hR (hd.congr (fun v => Iff.rfl) hc)
 refine Sol.mk2 hi (fun v hv => .inl ⟨rfl, hv⟩) ⟨τ, h1.congr (fun v => Iff.rfl) fun v => ⟨fun h => ⟨rfl, h⟩, fun h => h.2⟩⟩ ⟨σ, (Dom.none (1 - i) S σ).congr (fun v => Iff.rfl) fun v => ⟨False.elim, fun h => by have := h.1; omega⟩⟩
theorem Sol.lost {T : Nat → Prop} {r' : Nat → Nat} {V : Int → Nat → Prop} {i : Int} (hi : i = 0 ∨ i = 1) (ho : ∀ v, S v → G.own v = 0 ∨ G.own v = 1) (hA : Att G i S T A r) (hR : ∀ v, R v ↔ S v ∧ ¬ A v) (hs : Sol G R W) (hL : ∀ v, L v ↔ W (1 - i) v) (hB : Att G (1 - i) S L B r') (hS' : ∀ v, S' v ↔ S v ∧ ¬ B v) (hv : Sol G S' V) :
  Sol G S fun k v => if k = i then V i v else B v ∨ V (1 - i) v := by
 have hj : 1 - i = 0 ∨ 1 - i = 1 := by omega
 obtain ⟨σ, hd⟩ := hs.dom hj
 have hne : ∀ {v}, S v → G.own v ≠ 1 - i → G.own v = i := fun {v} hv h => by have := ho v hv; omega
 have hLd : Dom G (1 - i) S L σ := by
  refine Dom.wide (R := R) (fun v hv => ((hR v).1 hv).1) (fun v hv h u hu he => (hR u).2 (hA.trap v ((hR v).1 hv) (hne ((hR v).1 hv).1 h) u hu he)) (hd.congr (fun v => Iff.rfl) fun v => (hL v).symm)
 have hBd := hLd.draw hB
 obtain ⟨τj, hVj⟩ := hv.dom hj
 obtain ⟨τi, hVi⟩ := hv.dom hi
 have e1 : (1 - i = i) = False := by simp; omega
 refine Sol.mk2 hi (fun v hs' => ?_) ⟨τi, ?_⟩ ⟨both B (both L σ (pull B r' G.E)) τj, ?_⟩
 ·simp only [e1, if_true, if_false]
  rcases Classical.em (B v) with hb | hb
  ·exact .inr (.inl hb)
  ·have h4 : V i v ∨ V (1 - i) v := by
    have := hv.cov v ((hS' v).2 ⟨hs', hb⟩)
    rcases hi with rfl | rfl
    ·exact this
    ·exact this.symm
   exact h4.imp id .inr
 ·simp only [if_true]
  exact Dom.wide (R := S') (fun v hv => ((hS' v).1 hv).1) (fun v hv' h u hu he => (hS' u).2 (hB.trap v ((hS' v).1 hv') (by have := ho v ((hS' v).1 hv').1; omega) u hu he)) hVi
 ·simp only [e1, if_false]
  exact hBd.join (hVj.congr hS' fun v => Iff.rfl)
noncomputable def cnt (n : Nat) (S : Nat → Prop) : Nat := by classical exact (List.range n).countP fun v => decide (S v)
theorem Zlj {α : Type} {p q : α → Bool} : ∀ {l : List α}, (∀ x, x ∈ l → p x = true → q x = true) → (∃ x, x ∈ l ∧ q x = true ∧ p x = false) → l.countP p < l.countP q
 | [], _, ⟨x, h, _⟩ => by cases h
 | y :: l, hm, ⟨x, hx, h1, h2⟩ => by
  have hm' : ∀ x, x ∈ l → p x = true → q x = true := fun x h => hm x (List.mem_cons_of_mem _ h)
  rw [List.countP_cons, List.countP_cons]
  rcases List.mem_cons.1 hx with rfl | hx
  ·have := List.countP_mono_left hm'
   rw [h1, h2]; simp; omega
  ·have := Zlj hm' ⟨x, hx, h1, h2⟩
   have h3 := hm y (List.mem_cons_self ..)
   cases hp : p y
   ·simp; omega
   ·rw [h3 hp]; simp; omega
theorem ZlD  (h : ∀ v, S' v → S v)  (hx : x < n) (h1 : S x) (h2 : ¬ S' x) : cnt n S' < cnt n S := by
 classical
 unfold cnt
 exact Zlj (fun v _ hv => by simp at hv ⊢; exact h v hv) ⟨x, List.mem_range.2 hx, by simpa using h1, by simpa using h2⟩
theorem ZwD  (hn : ∀ v, S v → v < n)  (hx : S x) : ∃ m, S m ∧ ∀ v, S v → G.pr v ≤ G.pr m := by
 have key : ∀ k, (∃ v, S v ∧ v < k) → ∃ m, S m ∧ ∀ v, S v → v < k → G.pr v ≤ G.pr m := by
  intro k
  induction k with
  | zero => rintro ⟨v, _, h⟩; omega
  | succ k ih =>
   rintro ⟨v, hv, hk⟩
   rcases Classical.em (∃ v, S v ∧ v < k) with h | h
   ·obtain ⟨m, hm, h1⟩ := ih h
    rcases Classical.em (S k ∧ G.pr m < G.pr k) with h2 | h2
    ·refine ⟨k, h2.1, fun u hu huk => ?_⟩
     rcases Nat.lt_or_ge u k with h3 | h3
     ·have := h1 u hu h3; omega
     ·rw [show u = k by omega]; omega
    ·refine ⟨m, hm, fun u hu huk => ?_⟩
     rcases Nat.lt_or_ge u k with h3 | h3
     ·exact h1 u hu h3
     ·rw [show u = k by omega] at hu ⊢
      apply Classical.byContradiction
      intro hc
      exact h2 ⟨hu, by omega⟩
   ·refine ⟨v, hv, fun u hu huk => ?_⟩
    have h3 : ¬ u < k := fun h3 => h ⟨u, hu, h3⟩
    have h4 : ¬ v < k := fun h4 => h ⟨v, hv, h4⟩
    rw [show u = v by omega]; omega
 obtain ⟨m, hm, h⟩ := key n ⟨x, hx, hn x hx⟩
 exact ⟨m, hm, fun v hv => h v hv (hn v hv)⟩
theorem ZwN  (ho : ∀ v, v < n → G.own v = 0 ∨ G.own v = 1) : ∀ {S : Nat → Prop}, (∀ v, S v → v < n) → Tot G S → ∃ W, Sol G S W := by
 have key : ∀ c (S : Nat → Prop), cnt n S < c → (∀ v, S v → v < n) → Tot G S → ∃ W, Sol G S W := by
  intro c
  induction c with
  | zero => intro S h; omega
  | succ c ih =>
   intro S hc hn ht
   rcases Classical.em (∃ x, S x) with ⟨x, hx⟩ | hno
   ·obtain ⟨m, hm, htop⟩ := ZwD (G := G) hn hx
    have hoS : ∀ v, S v → G.own v = 0 ∨ G.own v = 1 := fun v hv => ho v (hn v hv)
    generalize hi0 : G.pr m % 2 = i
    have hi : i = 0 ∨ i = 1 := by omega
    let T : Nat → Prop := fun v => S v ∧ G.pr v = G.pr m
    have hA := ZdS (G := G) (i := i) (T := T) hn
    have hRt := hA.rest ht
    have hmA : AttR G i S T m := hA.goal m hm ⟨hm, rfl⟩
    obtain ⟨W, hW⟩ := ih (fun v => S v ∧ ¬ AttR G i S T v) (by have := ZlD (n := n) (S := S) (S' := fun v => S v ∧ ¬ AttR G i S T v) (fun v h => h.1) (hn m hm) hm (fun h => h.2 hmA); omega) (fun v h => hn v h.1) hRt
    rcases Classical.em (∃ v, W (1 - i) v) with ⟨l, hl⟩ | hnl
    ·have hj : 1 - i = 0 ∨ 1 - i = 1 := by omega
     obtain ⟨σ, hd⟩ := hW.dom hj
     have hls := (hd.sub l hl).1
     have hB := ZdS (G := G) (i := 1 - i) (T := W (1 - i)) hn
     obtain ⟨V, hV⟩ := ih (fun v => S v ∧ ¬ AttR G (1 - i) S (W (1 - i)) v) (by have := ZlD (n := n) (S := S) (S' := fun v => S v ∧ ¬ AttR G (1 - i) S (W (1 - i)) v) (fun v h => h.1) (hn l hls) hls (fun h => h.2 (hB.goal l hls hl)); omega) (fun v h => hn v h.1) (hB.rest ht)
     exact ⟨_, Sol.lost hi hoS hA (fun v => Iff.rfl) hW (fun v => Iff.rfl) hB (fun v => Iff.rfl) hV⟩
    ·exact ⟨_, Sol.all hi ht hi0 htop (fun v h => h.2) hA (fun v => Iff.rfl) hW fun v h => hnl ⟨v, h⟩⟩
   ·exact ⟨fun _ _ => False, ⟨fun v hv => (hno ⟨v, hv⟩).elim, ⟨id, Dom.none 0 S id⟩, ⟨id, Dom.none 1 S id⟩⟩⟩
 exact fun {S} hn ht => key (cnt n S + 1) S (by omega) hn ht
end Go.Proofs.YtjjidamlmebaaaaGreat

