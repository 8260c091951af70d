/- From a walk over every input to the given statement: what the arguments read as ('Opens'), and the frame of a law ('law_lift'). No conditions. -/
import Derived.Test.YtgfnpphhdkjlmaaBase
import Derived.OpenShut
import Derived.ChangeOld
import Derived.Below
import Derived.Deep.Slices
set_option linter.unusedSimpArgs false
set_option linter.unusedVariables false
namespace Go.Proofs.Ytgfnpphhdkjlmaa
open Go.ChangeShapes Go.WideShapes Go.ChangeAt Go.RowKit
open Shp
section
variable {P : Program}
def Opens {α : Type} (P : Program) (t : TypeId) (s : Shp α) : Prop :=
  P.cellsOf t = s.size ∧ ∀ {H : Type} (enc : TypeId × Value → H) (W : World) (fuel : Nat) (cs : List Value) (d : DataW H) (ps : List MemPlace),
    DataW.trod enc P W 0 (fun _ => true) true fuel t cs = some (d, ps) → W.noneFrozen ps → ∃ F x, s.rep W F cs x
theorem opens_int {t : TypeId} (ht : P.underlying t = some (.int .i64)) (hc : P.cellsOf t = 1) : Opens P t int := by
  refine ⟨hc, fun {H} enc W fuel cs d ps h _ => ?_⟩
  obtain ⟨n, rfl, _, hw⟩ := DataW.trod_int ht h
  refine ⟨[], n, rfl, rfl, ?_⟩
  simpa [Lit.wf, IntKind.min, IntKind.max, IntKind.signed, IntKind.bits, inI64] using hw
theorem noneFrozen_sub {W : World} {ps qs : List MemPlace} (h : W.noneFrozen ps) (hs : ∀ p ∈ qs, p ∈ ps) : W.noneFrozen qs := fun b off hb => h b off (hs _ hb)
theorem opens_slice {α : Type} {t e : TypeId} {s : Shp α} (ht : P.underlying t = some (.slice e)) (hc : P.cellsOf t = 1) (he : Opens P e s) : Opens P t (slice s) := by
  refine ⟨hc, fun {H} enc W fuel cs d ps h hz => ?_⟩
  rcases Deep.open_slice ht h with ⟨rfl, _⟩ | ⟨a, len, cap, m, n, D, Pl, rfl, _, hlc, hcm, hm, hx, hel⟩
  · exact ⟨[], [], none, 0, [], rfl, by simp [own], by simp, by simp, by simp, by simp, by simp, by simp⟩
  · simp only [if_true] at hm
    have hm' := hm.symm
    subst hm'
    simp only [Prod.mk.injEq] at hx
    obtain ⟨_, rfl⟩ := hx
    have hz1 : ∀ i, i < cap → ∀ j, j < P.cellsOf e → W.frozen? ⟨a.block, a.off + (i * P.cellsOf e + j), none⟩ = false := by
      intro i hi j hj
      refine hz _ _ (List.mem_append.2 (.inl ?_))
      have : i * P.cellsOf e + j < cap * P.cellsOf e := by
        have : (i + 1) * P.cellsOf e ≤ cap * P.cellsOf e := Nat.mul_le_mul_right _ hi
        rw [Nat.add_mul] at this; omega
      exact List.mem_map.2 ⟨_, List.mem_range.2 this, rfl⟩
    have hk : ∀ k : Nat, k < len → ∃ x : List Value × List Nat × α, (∀ j < s.size, W.cell? (sAt (some a) (k * s.size + j)) = x.1[j]?) ∧ (∀ j < s.size, W.frozen? (sAt (some a) (k * s.size + j)) = false) ∧ a.spot = none ∧ a.block < W.heap.size ∧ s.rep W x.2.1 x.1 x.2.2 := by
      intro k hk
      obtain ⟨cs', hcs, hr⟩ := hel k (by omega)
      obtain ⟨F, x, hrep⟩ := he.2 enc W n cs' _ _ hr (noneFrozen_sub hz fun p hp => List.mem_append.2 (.inr (List.mem_flatMap.2 ⟨k, List.mem_range.2 (by omega), hp⟩)))
      have hsz := he.1
      have hpos := s.pos
      have hcell : ∀ j < s.size, W.cell? (sAt (some a) (k * s.size + j)) = cs'[j]? := by
        intro j hj
        have := (World.cells?_some hcs).2.2 j (by omega)
        rw [Deep.add_add, hsz] at this
        exact this
      have hl := s.len hrep
      have hspot : a.spot = none ∧ a.block < W.heap.size := by
        have h0 := (hel 0 (by omega))
        obtain ⟨cs0, hcs0, hr0⟩ := h0
        have := (World.cells?_some hcs0).2.2 0 (by omega)
        rw [Nat.zero_mul] at this
        obtain ⟨F0, x0, hrep0⟩ := he.2 enc W n cs0 _ _ hr0 (noneFrozen_sub hz fun p hp => List.mem_append.2 (.inr (List.mem_flatMap.2 ⟨0, List.mem_range.2 (by omega), hp⟩)))
        have hl0 := s.len hrep0
        have hc0 : W.cell? a = some (cs0[0]'(by omega)) := by simpa [Addr.add, List.getElem?_eq_getElem (show 0 < cs0.length by omega)] using this
        exact ⟨World.cell?_spot hc0, World.block_lt_of_cell? W a hc0⟩
      refine ⟨(cs', F, x), hcell, fun j hj => ?_, hspot.1, hspot.2, hrep⟩
      have := hz1 k (by omega) j (by omega)
      rw [hsz] at this
      have e : sAt (some a) (k * s.size + j) = ⟨a.block, a.off + (k * s.size + j), none⟩ := by
        have : a = ⟨a.block, a.off, none⟩ := by rw [← hspot.1]
        rw [this, sAt_some]
      rw [e]; exact this
    classical
    let f : (k : Nat) → k < len → List Value × List Nat × α := fun k h => Classical.choose (hk k h)
    have hf : ∀ k (h : k < len), _ := fun k h => Classical.choose_spec (hk k h)
    refine ⟨_, (List.finRange len).map fun k => (f k.1 k.2).2.2, some a, cap, (List.finRange len).map fun k => (f k.1 k.2).2.1, by simp, rfl, by simpa using hlc, by simpa [maxLen] using hcm, by simp, ?_, by simp, fun k hk' => ?_⟩
    · rintro p hp h0
      simp at hp h0
      subst hp
      exact ⟨(hf 0 h0).2.2.1, (hf 0 h0).2.2.2.1⟩
    · have hk2 : k < len := by simpa using hk'
      refine ⟨(f k hk2).1, (hf k hk2).1, (hf k hk2).2.1, ?_⟩
      simpa using (hf k hk2).2.2.2.2
theorem mem_of_getElem? {α : Type} {l : List α} {i : Nat} {x : α} (h : l[i]? = some x) : x ∈ l := by
  obtain ⟨hi, rfl⟩ := List.getElem?_eq_some_iff.1 h
  exact List.getElem_mem hi
theorem opens_two {α β : Type} {t : TypeId} {s : Shp α} {u : Shp β} {f0 f1 : Field} (ht : P.underlying t = some (.struct #[f0, f1])) (hc : P.cellsOf t = s.size + u.size)
    (o0 : f0.offset = 0) (o1 : f1.offset = s.size) (h0 : Opens P f0.type s) (h1 : Opens P f1.type u) : Opens P t (two s u) := by
  refine ⟨hc, fun {H} enc W fuel cs d ps h hz => ?_⟩
  obtain ⟨xs, n, _, hx, hl, hxl, hf⟩ := DataW.trod_struct ht h
  simp only [Prod.mk.injEq] at hx
  obtain ⟨_, rfl⟩ := hx
  have e0 := hf 0 f0 rfl
  have e1 := hf 1 f1 rfl
  have hxl' : xs.length = 2 := hxl
  rw [List.getElem?_eq_getElem (by omega)] at e0 e1
  obtain ⟨F0, x0, r0⟩ := h0.2 enc W n _ _ _ e0 (noneFrozen_sub hz fun p hp => List.mem_flatMap.2 ⟨_, List.getElem_mem _, hp⟩)
  obtain ⟨F1, x1, r1⟩ := h1.2 enc W n _ _ _ e1 (noneFrozen_sub hz fun p hp => List.mem_flatMap.2 ⟨_, List.getElem_mem _, hp⟩)
  refine ⟨F0 ++ F1, (x0, x1), _, _, F0, F1, ?_, rfl, r0, r1⟩
  rw [o0, o1, h0.1, h1.1, List.drop_zero, List.take_of_length_le (l := cs.drop s.size) (by rw [List.length_drop]; omega), List.take_append_drop]
theorem opens_three {α β γ : Type} {t : TypeId} {s : Shp α} {u : Shp β} {v : Shp γ} {f0 f1 f2 : Field} (ht : P.underlying t = some (.struct #[f0, f1, f2])) (hc : P.cellsOf t = s.size + (u.size + v.size))
    (o0 : f0.offset = 0) (o1 : f1.offset = s.size) (o2 : f2.offset = s.size + u.size) (h0 : Opens P f0.type s) (h1 : Opens P f1.type u) (h2 : Opens P f2.type v) : Opens P t (two s (two u v)) := by
  refine ⟨hc, fun {H} enc W fuel cs d ps h hz => ?_⟩
  obtain ⟨xs, n, _, hx, hl, hxl, hf⟩ := DataW.trod_struct ht h
  simp only [Prod.mk.injEq] at hx
  obtain ⟨_, rfl⟩ := hx
  have e0 := hf 0 f0 rfl
  have e1 := hf 1 f1 rfl
  have e2 := hf 2 f2 rfl
  have hxl' : xs.length = 3 := hxl
  rw [List.getElem?_eq_getElem (by omega)] at e0 e1 e2
  obtain ⟨F0, x0, r0⟩ := h0.2 enc W n _ _ _ e0 (noneFrozen_sub hz fun p hp => List.mem_flatMap.2 ⟨_, List.getElem_mem _, hp⟩)
  obtain ⟨F1, x1, r1⟩ := h1.2 enc W n _ _ _ e1 (noneFrozen_sub hz fun p hp => List.mem_flatMap.2 ⟨_, List.getElem_mem _, hp⟩)
  obtain ⟨F2, x2, r2⟩ := h2.2 enc W n _ _ _ e2 (noneFrozen_sub hz fun p hp => List.mem_flatMap.2 ⟨_, List.getElem_mem _, hp⟩)
  refine ⟨F0 ++ (F1 ++ F2), (x0, x1, x2), _, _, F0, F1 ++ F2, ?_, rfl, r0, _, _, F1, F2, rfl, rfl, r1, r2⟩
  rw [o0, o1, o2, h0.1, h1.1, h2.1, List.drop_zero, ← List.drop_drop, List.take_of_length_le (l := (cs.drop s.size).drop u.size) (by rw [List.length_drop, List.length_drop]; omega), List.take_append_drop, List.take_append_drop]
theorem opens_four {α β γ δ : Type} {t : TypeId} {s : Shp α} {u : Shp β} {v : Shp γ} {y : Shp δ} {f0 f1 f2 f3 : Field} (ht : P.underlying t = some (.struct #[f0, f1, f2, f3])) (hc : P.cellsOf t = s.size + (u.size + (v.size + y.size)))
    (o0 : f0.offset = 0) (o1 : f1.offset = s.size) (o2 : f2.offset = s.size + u.size) (o3 : f3.offset = s.size + u.size + v.size) (h0 : Opens P f0.type s) (h1 : Opens P f1.type u) (h2 : Opens P f2.type v) (h3 : Opens P f3.type y) : Opens P t (two s (two u (two v y))) := by
  refine ⟨hc, fun {H} enc W fuel cs d ps h hz => ?_⟩
  obtain ⟨xs, n, _, hx, hl, hxl, hf⟩ := DataW.trod_struct ht h
  simp only [Prod.mk.injEq] at hx
  obtain ⟨_, rfl⟩ := hx
  have e0 := hf 0 f0 rfl
  have e1 := hf 1 f1 rfl
  have e2 := hf 2 f2 rfl
  have e3 := hf 3 f3 rfl
  have hxl' : xs.length = 4 := hxl
  rw [List.getElem?_eq_getElem (by omega)] at e0 e1 e2 e3
  obtain ⟨F0, x0, r0⟩ := h0.2 enc W n _ _ _ e0 (noneFrozen_sub hz fun p hp => List.mem_flatMap.2 ⟨_, List.getElem_mem _, hp⟩)
  obtain ⟨F1, x1, r1⟩ := h1.2 enc W n _ _ _ e1 (noneFrozen_sub hz fun p hp => List.mem_flatMap.2 ⟨_, List.getElem_mem _, hp⟩)
  obtain ⟨F2, x2, r2⟩ := h2.2 enc W n _ _ _ e2 (noneFrozen_sub hz fun p hp => List.mem_flatMap.2 ⟨_, List.getElem_mem _, hp⟩)
  obtain ⟨F3, x3, r3⟩ := h3.2 enc W n _ _ _ e3 (noneFrozen_sub hz fun p hp => List.mem_flatMap.2 ⟨_, List.getElem_mem _, hp⟩)
  refine ⟨F0 ++ (F1 ++ (F2 ++ F3)), (x0, x1, x2, x3), _, _, F0, F1 ++ (F2 ++ F3), ?_, rfl, r0, _, _, F1, F2 ++ F3, rfl, rfl, r1, _, _, F2, F3, rfl, rfl, r2, r3⟩
  rw [o0, o1, o2, o3, h0.1, h1.1, h2.1, h3.1, List.drop_zero, ← List.drop_drop, ← List.drop_drop, ← List.drop_drop, List.take_of_length_le (l := ((cs.drop s.size).drop u.size).drop v.size) (by simp only [List.length_drop]; omega), List.take_append_drop, List.take_append_drop, List.take_append_drop]
theorem Opens.by_ {α β : Type} {t : TypeId} {s : Shp α} (h : Opens P t s) (f : β → α) (g : α → β) (hg : ∀ a, f (g a) = a) : Opens P t (s.by_ f) := by
  refine ⟨h.1, fun {H} enc W fuel cs d ps h' hz => ?_⟩
  obtain ⟨F, x, r⟩ := h.2 enc W fuel cs d ps h' hz
  exact ⟨F, g x, by show s.rep W F cs (f (g x)); rw [hg]; exact r⟩
theorem Opens.arg {α : Type} {t : TypeId} {s : Shp α} (h : Opens P t s) (ha : s.agg = (match P.underlying t with | some (.struct _) => true | _ => false)) (harr : ∀ n e, P.underlying t ≠ some (.array n e)) {H : Type} {enc : TypeId × Value → H} {W : World} {base : Nat} {v : Value} {d : DataW H} {ps : List MemPlace}
    (hv : Value.okWide P W .any base t v) (hd : DataW.Trod enc P W 0 (fun _ => true) true t v d ps) (hz : W.noneFrozen ps) : ∃ F cs x, v = s.val cs ∧ s.rep W F cs x := by
  obtain ⟨fuel, hd⟩ := hd
  obtain ⟨F, x, hr⟩ := h.2 enc W fuel _ d ps hd hz
  refine ⟨F, v.cells.toList, x, ?_, hr⟩
  unfold Shp.val
  cases hs : s.agg with
  | true =>
    rw [hs] at ha
    split at ha
    · rename_i fs hu
      unfold Value.okWide at hv
      rw [hu] at hv
      obtain ⟨cs, rfl, _⟩ := hv
      simp [Value.cells]
    · simp at ha
  | false =>
    have h1 := s.len hr
    cases v <;> simp [Value.cells]
    rw [hs] at ha
    unfold Value.okWide at hv
    split at ha
    · simp at ha
    · rename_i hne
      split at hv
      · rename_i hu; exact absurd hu (by intro e; exact hne _ e)
      · rename_i hu; exact absurd hu (harr _ _)
      · exact absurd hv (by unfold Cell.okWide; split <;> simp_all [Cell.ok])
theorem Below.trodAll {H : Type} {enc : TypeId × Value → H} (hl : laidOutB P = true) {W W' : World} (hb : Below W.heap.size W W') :
    ∀ {ts : List TypeId} {vs : List Value} {ds : List (DataW H)} {ps : List MemPlace}, (∀ t ∈ ts, P.readableRec t = true ∧ t < P.types.size) →
      DataW.TrodAll enc P W 0 (fun _ => true) true ts vs ds ps → (∀ x ∈ ps, x.block < W.heap.size) → DataW.TrodAll enc P W' 0 (fun b => decide (b < W.heap.size)) true ts vs ds ps
  | [], [], [], _, _, h, _ => h
  | t :: ts, v :: vs, d :: ds, ps, hr, h, hlt => by
    obtain ⟨p, q, h1, h2, rfl⟩ := h
    exact ⟨p, q, Below.trod hl (hr t (by simp)).1 (hr t (by simp)).2 h1 hb (fun x hx => hlt x (List.mem_append.2 (.inl hx))),
      Below.trodAll hl hb (fun t ht => hr t (by simp [ht])) h2 (fun x hx => hlt x (List.mem_append.2 (.inr hx))), rfl⟩
  | [], _ :: _, _, _, _, h, _ => by simp [DataW.TrodAll] at h
  | [], [], _ :: _, _, _, h, _ => by simp [DataW.TrodAll] at h
  | _ :: _, [], _, _, _, h, _ => by simp [DataW.TrodAll] at h
  | _ :: _, _ :: _, [], _, _, h, _ => by simp [DataW.TrodAll] at h
theorem trodAll_len {H : Type} {enc : TypeId × Value → H} {W : World} : ∀ {ts : List TypeId} {vs : List Value} {ds : List (DataW H)} {ps : List MemPlace},
    DataW.TrodAll enc P W 0 (fun _ => true) true ts vs ds ps → vs.length = ts.length ∧ ds.length = ts.length
  | [], [], [], _, _ => ⟨rfl, rfl⟩
  | _ :: ts, _ :: vs, _ :: ds, _, h => by
    obtain ⟨p, q, _, h2, rfl⟩ := h
    have := trodAll_len h2
    simp [this]
  | [], _ :: _, _, _, h => by simp [DataW.TrodAll] at h
  | [], [], _ :: _, _, h => by simp [DataW.TrodAll] at h
  | _ :: _, [], _, _, h => by simp [DataW.TrodAll] at h
  | _ :: _, _ :: _, [], _, h => by simp [DataW.TrodAll] at h
end
theorem law_lift {C : Checked} {os : Os} (started : os.Started) {f : FuncId} {fn : Func} {s : ChangeSpec} {conds : List PathCond}
    (own : ownKnob C.prog.godebug = none) (hl : laidOutB C.prog = true) (noInit : C.prog.inits.idxOf? f = none) (hfn : C.prog.funcs[f]? = some fn)
    (hvars : s.vars = []) (hres : fn.resultTypes = #[4]) (hbool : C.prog.underlying 4 = some .bool)
    (hread : ∀ t ∈ fn.params.toList, C.prog.readableRec t = true ∧ t < C.prog.types.size)
    (hspec : ∀ (H : Type) (ds : List (DataW H)), ds.length = fn.params.toList.length → s.fn H ds = { results := [.lit (.bool true)], args := ds })
    {H : Type} {enc : TypeId × Value → H}
    (witness : ∃ (w : World) (tape : Tape) (i : Input), w.os = os ∧ (w.forCall tape i).Shaped C.prog ∧ i.vars = [] ∧ Input.okWide C.prog (w.forCall tape i) .any w.heap.size f i ∧
      s.pre6 enc C.prog fn conds false (w.forCall tape i).memory i.args ∧ ({} : Assume).holds C.prog (lone (Frame.enter C.prog f i.args .normal) [] (w.forCall tape i)))
    (walk : ∀ (W : World) (base : Nat) (args : Array Value) (ds : List (DataW H)) (ps : List MemPlace),
      (∀ (j : Nat) t v, fn.params[j]? = some t → args[j]? = some v → Value.okWide C.prog W .any base t v) →
      DataW.TrodAll enc C.prog W 0 (fun _ => true) true fn.params.toList args.toList ds ps → W.noneFrozen ps →
      Calls C.prog f args W (Pure W (.bool true))) :
    ReturnsInHanded {} C os f .any (s.pre6 enc C.prog fn conds false) (s.post enc C.prog fn false true false false) := by
  refine returnsInHanded_of_change own started noInit hfn witness ?_
  intro W base args ds gs before hval hW _ _
  have hW' := hW
  obtain ⟨p, q, hA, hV, rfl, hfz, hnd⟩ := hW
  rw [hvars] at hV
  obtain ⟨rfl, rfl⟩ := trodVars_none hV
  rw [List.append_nil] at hfz hW'
  refine (walk W base args ds p hval hA hfz).mono fun e W' ⟨he, hk⟩ => ?_
  subst he
  have hlen := trodAll_len hA
  have hsp := hspec H ds hlen.2
  have hlt : ∀ x ∈ p, x.block < W.heap.size := hA.lt
  refine ⟨_, rfl, ds, [], p, [], p, [], hW', ?_, ?_, ?_, hk.below.frame _, fun h => by cases h⟩
  · rw [List.append_nil, hsp, hres]
    exact trodAll_mk1 (shut_bool hbool _)
  · rw [List.append_nil, hsp]
    exact Below.trodAll hl hk.below hread hA hlt
  · rw [List.append_nil, hsp, hvars]
    rfl
end Go.Proofs.Ytgfnpphhdkjlmaa
