/- From contracts over abstract states to the given statements: what the arguments' types read as ('OG'). No program in sight; no conditions. -/
import Derived.Test.YtachnjinfdagjaaDoorFrame
import Derived.Test.YtachnjinfdagjaaDoorKG
set_option linter.unusedSimpArgs false
set_option linter.unusedVariables false
namespace Go.Proofs.YtachnjinfdagjaaDoor
open Go.ChangeShapes Go.WideShapes Go.ChangeAt Go.RowKit
open Shp
def CRep (w : World) (cs : List Value) (gs : List GV) : Prop :=
  ∃ (Fs : List (List Nat)) (hv : cs.length = gs.length) (hF : Fs.length = gs.length), (∀ v ∈ cs, v.oneCell' = true) ∧ ∀ i (hi : i < gs.length), GRep w (Fs[i]'(hF ▸ hi)) (cs[i]'(hv ▸ hi)) gs[i]
theorem CRep.one {w : World} {v : Value} {g : GV} {F : List Nat} (h1 : v.oneCell' = true) (h : GRep w F v g) : CRep w [v] [g] :=
  ⟨[F], rfl, rfl, by simpa using h1, fun i hi => by
    have : i = 0 := by simpa using hi
    subst this; exact h⟩
theorem CRep.app {w : World} {cs ds : List Value} {gs ks : List GV} (h : CRep w cs gs) (k : CRep w ds ks) : CRep w (cs ++ ds) (gs ++ ks) := by
  obtain ⟨Fs, hv, hF, h1, h2⟩ := h
  obtain ⟨Gs, kv, kF, k1, k2⟩ := k
  refine ⟨Fs ++ Gs, by simp [hv, kv], by simp [hF, kF], fun v hv' => (List.mem_append.1 hv').elim (h1 v) (k1 v), fun i hi => ?_⟩
  by_cases hlt : i < gs.length
  · have e1 : (gs ++ ks)[i]'hi = gs[i] := List.getElem_append_left hlt
    have e2 : (cs ++ ds)[i]'(by simp at hi ⊢; omega) = cs[i]'(by omega) := List.getElem_append_left (by omega)
    have e3 : (Fs ++ Gs)[i]'(by simp at hi ⊢; omega) = Fs[i]'(by omega) := List.getElem_append_left (by omega)
    rw [e1, e2, e3]
    exact h2 i hlt
  · have hi2 : i - gs.length < ks.length := by simp at hi; omega
    have e1 : (gs ++ ks)[i]'hi = ks[i - gs.length] := List.getElem_append_right (by omega)
    have e2 : (cs ++ ds)[i]'(by simp at hi ⊢; omega) = ds[i - gs.length]'(by omega) := by rw [List.getElem_append_right (by omega)]; simp only [hv]
    have e3 : (Fs ++ Gs)[i]'(by simp at hi ⊢; omega) = Gs[i - gs.length]'(by omega) := by rw [List.getElem_append_right (by omega)]; simp only [hF]
    rw [e1, e2, e3]
    exact k2 (i - gs.length) hi2
structure OG (P : Program) (t : TypeId) {α : Type} (f : α → List GV) (V : α → Prop) : Prop where
  len : ∀ x, (f x).length = P.cellsOf t
  one : ∀ x, ∀ g ∈ f x, g.ncells = 1
  op : ∀ {H : Type} (enc : TypeId × Value → H) (W : World) (fuel : Nat) (cs : List Value) (d : DataW H) (ps : List MemPlace),
    DataW.trod enc P W 0 (fun _ => true) true fuel t cs = some (d, ps) → W.noneFrozen ps → ∃ x, V x ∧ CRep W cs (f x)
section
variable {P : Program}
theorem OG.arg1 {t : TypeId} {α : Type} {g : α → GV} {V : α → Prop} (h : OG P t (fun x => [g x]) V) (hne : match P.underlying t with | some (.struct _) => False | some (.array _ _) => False | _ => True) {H : Type} {enc : TypeId × Value → H} {W : World} {base : Nat} {v : Value} {d : DataW H} {ps : List MemPlace}
    (hv : Value.okWide P W .any base t v) (hd : DataW.Trod enc P W 0 (fun _ => true) true t v d ps) (hz : W.noneFrozen ps) : ∃ x, V x ∧ ∃ F, GRep W F v (g x) := by
  obtain ⟨fuel, hd⟩ := hd
  obtain ⟨x, hx, Fs, hl, hF, h1, hr⟩ := h.op enc W fuel _ d ps hd hz
  refine ⟨x, hx, Fs[0]'(by rw [hF]; simp), ?_⟩
  have hr0 := hr 0 (by simp)
  simp only [List.getElem_cons_zero] at hr0
  have hcells : v.cells = #[v] := by
    cases hvv : v <;> simp [Value.cells]
    rename_i cs
    subst hvv
    unfold Value.okWide at hv
    split at hne
    · exact hne.elim
    · exact hne.elim
    · rename_i n1 n2
      split at hv
      · rename_i hu; exact absurd hu (by intro e; exact n1 _ e)
      · rename_i hu; exact absurd hu (by intro e; exact n2 _ _ e)
      · exact absurd hv (by unfold Cell.okWide; split <;> simp_all [Cell.ok])
  have : v.cells.toList[0]'(by rw [hl]; simp) = v := by simp [hcells]
  rw [this] at hr0
  exact hr0
theorem Con.law {f : FuncId} {gs : List GV} (h : Con P f gs (.bool true)) {W : World} {args : Array Value} (hl : args.size = gs.length) (hg : ∀ i (hi : i < gs.length), ∃ F, GRep W F (args[i]'(hl ▸ hi)) gs[i]) : Calls P f args W (Pure W (.bool true)) := by
  have h1 := h.calls W args.toList (by simpa using hl) (fun i hi => by simpa using hg i hi)
  rw [Array.toArray_toList] at h1
  refine h1.mono fun e W' hgv => ?_
  obtain ⟨v, F, rfl, hr, _, _, _, hk⟩ := hgv
  rw [hr.bool_inv]
  exact ⟨rfl, hk⟩
end
theorem wordsSigns_app : ∀ (w r : List Char), (w.all fun c => !(c == Char.ofNat 32)) = true → wordsSigns (w ++ Char.ofNat 32 :: r) = w :: wordsSigns r
  | [], r, _ => rfl
  | c :: w, r, h => by
    simp only [List.all_cons, Bool.and_eq_true, Bool.not_eq_true', beq_eq_false_iff_ne, ne_eq] at h
    have ih := wordsSigns_app w r (by simpa using h.2)
    rw [List.cons_append, wordsSigns.eq_3 _ _ (by intro e; exact h.1 e), ih]
theorem words3 {L A B C R : List Char} (h : L = A ++ Char.ofNat 32 :: (B ++ Char.ofNat 32 :: (C ++ Char.ofNat 32 :: R))) (h1 : (A.all fun c => !(c == Char.ofNat 32)) = true) (h2 : (B.all fun c => !(c == Char.ofNat 32)) = true) (h3 : (C.all fun c => !(c == Char.ofNat 32)) = true) (h4 : A = "harness".toList) (h5 : isSumSigns B = true) : behindMainWord (wordsSigns L) = C :: wordsSigns R := by
  subst h; subst h4
  rw [wordsSigns_app _ _ h1, wordsSigns_app _ _ h2, wordsSigns_app _ _ h3]
  simp only [behindMainWord, h5, Bool.and_true, beq_self_eq_true, Bool.true_or, if_true]
theorem strip_cut (X : List (List Char)) : stripLifts liftWords ("cut".toList :: X) = ([], "cut".toList :: X) := by kernel_rfl
theorem headLifts_of {P : Program} {X : List (List Char)} (h : behindMainWord (wordsSigns P.initOrder.toList) = "cut".toList :: X) : P.headLifts = [] := by
  unfold Program.headLifts
  rw [h]
  simp only [strip_cut]
  split <;> rfl
theorem cut_gc : ("cut".toList == "gc".toList) = false ∧ ("cut".toList == "spec".toList) = false ∧ ("cut".toList == "carried".toList) = false ∧ (some "cut".toList == some "cut".toList) = true ∧ ("cut".toList == "cut".toList) = true ∧ (some "cut".toList == some "carried".toList) = false := by
  refine ⟨?_, ?_, ?_, ?_, ?_, ?_⟩ <;> kernel_rfl
theorem mayEnter_of {P : Program} {X : List (List Char)} (h : behindMainWord (wordsSigns P.initOrder.toList) = "cut".toList :: X) (h1 : P.laysLater = false) (h2 : P.bearsReflect = false) (h3 : P.doorFits [] = true) : P.mayEnter = true := by
  unfold Program.mayEnter
  rw [h]
  simp only [strip_cut, h1, h2, h3, cut_gc, List.head?_cons, List.contains_nil, Bool.not_false, Bool.or_true, Bool.true_and, Bool.and_true, Bool.or_false, Bool.false_and, Bool.not_true]
theorem make_of {P : Program} {X : List (List Char)} (h : behindMainWord (wordsSigns P.initOrder.toList) = "cut".toList :: X) : P.make = some .cut := by
  unfold Program.make
  rw [h]
  simp only [cut_gc, Bool.or_false, Bool.false_eq_true, if_false, Bool.true_or, if_true]
theorem lifts_of {P : Program} {X : List (List Char)} (h : behindMainWord (wordsSigns P.initOrder.toList) = "cut".toList :: X) : P.liftsFinal = false := by
  unfold Program.liftsFinal
  rw [h, headLifts_of h]
  simp only [List.head?_cons, cut_gc, Bool.false_and, List.contains_nil, Bool.or_false]
theorem joined_of {P : Program} {f : FuncId} {fn : Func} {s : ChangeSpec} {c : OpenClaim} (h2 : P.mayEnter = true) (h3 : P.make = some .cut) (h4 : P.liftsFinal = false) (h5 : (c.make == .cut) = true) (h6 : c.lifted = false)
    (h1 : (c.wf (OpenSpec.ofChange s) && laidOutB P && mapsRowed P &&
  fn.params.all (P.readableRec ·) && namedTie P c.named s.vars &&
  (c.stops == []) && (P.stops == []) && (c.knobs == []) && (P.stopKnobs == []) &&
  (c.inPlace == P.inPlace f) && (c.unfollowed == P.unfollowed f) && (c.recurses == P.recurses f) && (c.named == P.varsNamed f) &&
  (c.maps == (fn.params.toList ++ s.plain.varTypes P).any (P.mapsRec ·)) && (c.ifaces == (fn.params.toList ++ s.plain.varTypes P).any (P.ifacesRec ·)) && (c.mapsOut == P.mapsAmong fn.resultTypes.toList) &&
  (c.loops == (fn.params.toList ++ s.plain.varTypes P).any (P.loopsFrom ·)) && (c.wideKeys == (fn.params.toList ++ s.plain.varTypes P ++ fn.resultTypes.toList).any (P.wideKeysFrom ·)) &&
  s.vars.all (P.varReadable ·) && fn.resultTypes.all (fun t => P.readableRec t && decide (t < P.types.size)) && (c.ifacesOut == fn.resultTypes.toList.any (P.ifacesRec ·)) && (c.loopsOut == fn.resultTypes.toList.any (P.loopsFrom ·)) && (c.plainKeys == P.plainKeys) && c.shortTexts.isNone && P.stopsHeard && (c.kinds == (if c.domain.isEmpty then [] else fn.params.toList.map fun t => match P.underlying t with | some (.int k) => some k | _ => none)) && (c.pinned == c.pinnedBy) &&
  (c.veiled == (fn.params.toList ++ s.plain.varTypes P ++ fn.resultTypes.toList).any (P.veiledRec ·)) && c.veiledFits P fn.params.toList (fn.params.toList ++ s.plain.varTypes P ++ fn.resultTypes.toList)) = true) : joinedFacts P f fn s c = true := by
  have e5 : c.make = .cut := by simpa using h5
  have e3 : (P.make == some c.make) = true := by rw [h3, e5]; rfl
  have e4 : (c.lifted == P.liftsFinal) = true := by rw [h4, h6]; rfl
  unfold joinedFacts
  rw [h2, e3, e4]
  simp only [Bool.and_eq_true, and_assoc] at h1 ⊢
  obtain ⟨k1, k2, k3, k4, k5, k6, k7, k8, k9, k10, k11, k12, k13, k14, k15, k16, k17, k18, k19, k20, k21, k22, k23, k24, k25, k26, k27, k28⟩ := h1
  repeat' apply And.intro
  all_goals first | assumption | rfl | trivial | exact k24 | exact k25 | exact k26 | exact k27 | exact k28.1 | exact k28.2
end Go.Proofs.YtachnjinfdagjaaDoor

