/- From contracts over abstract states to the given statements: what the arguments' types read as ('OG'). No program in sight; no conditions. -/
import Derived.Test.YtjjidamlmebaaaaGreatFrame
import Derived.Test.YtjjidamlmebaaaaGreatKG
namespace Go.Proofs.YtjjidamlmebaaaaGreat
open Go.ChangeShapes Go.WideShapes Go.ChangeAt Go.RowKit
open Shp
variable {gs : List GV} {t : TypeId} {α β γ H : Type} {W : World} {v : Value} {f : FuncId}
def CRep (w : World) (cs : List Value) (gs : List GV) : Prop :=
 ∃ (Fs : List (List Nat)) (hv : cs.length = gs.length) (hF : Fs.length = gs.length), (∀ v ∈ cs, v.oneCell' = true) ∧ ∀ i (hi : i < gs.length), GRep w (Fs[i]'(hF ▸ hi)) (cs[i]'(hv ▸ hi)) gs[i]
theorem CRep.one {w : World} {v : Value} {g : GV} {F : List Nat} (h1 : v.oneCell' = true) (h : GRep w F v g) : CRep w [v] [g] :=
 ⟨[F], rfl, rfl, by simpa using h1, fun i hi => by
  have : i = 0 := by simpa using hi
  subst this; exact h⟩
theorem CRep.app {w : World} {cs ds : List Value} {ks : List GV} (h : CRep w cs gs) (k : CRep w ds ks) : CRep w (cs ++ ds) (gs ++ ks) := by
 obtain ⟨Fs, hv, hF, h1, h2⟩ := h
 obtain ⟨Gs, kv, kF, k1, k2⟩ := k
 refine ⟨Fs ++ Gs, by simp [hv, kv], by simp [hF, kF], fun v hv' => (List.mem_append.1 hv').elim (h1 v) (k1 v), fun i hi => ?_⟩
 by_cases hlt : i < gs.length
 ·have e1 : (gs ++ ks)[i]'hi = gs[i] := List.getElem_append_left hlt
  have e2 : (cs ++ ds)[i]'(by simp at hi ⊢; omega) = cs[i]'(by omega) := List.getElem_append_left (by omega)
  have e3 : (Fs ++ Gs)[i]'(by simp at hi ⊢; omega) = Fs[i]'(by omega) := List.getElem_append_left (by omega)
  rw [e1, e2, e3]
  exact h2 i hlt
 ·have hi2 : i - gs.length < ks.length := by simp at hi; omega
  have e1 : (gs ++ ks)[i]'hi = ks[i - gs.length] := List.getElem_append_right (by omega)
  have e2 : (cs ++ ds)[i]'(by simp at hi ⊢; omega) = ds[i - gs.length]'(by omega) := by rw [List.getElem_append_right (by omega)]; simp only [hv]
  have e3 : (Fs ++ Gs)[i]'(by simp at hi ⊢; omega) = Gs[i - gs.length]'(by omega) := by rw [List.getElem_append_right (by omega)]; simp only [hF]
  rw [e1, e2, e3]
  exact k2 (i - gs.length) hi2
structure OG (P : Program) (t : TypeId) {α : Type} (f : α → List GV) (V : α → Prop) : Prop where
 len : ∀ x, (f x).length = P.cellsOf t
 one : ∀ x, ∀ g ∈ f x, g.ncells = 1
 op : ∀ {H : Type} (enc : TypeId × Value → H) (W : World) (fuel : Nat) (cs : List Value) (d : DataW H) (ps : List MemPlace),
  DataW.trod enc P W 0 (fun _ => true) true fuel t cs = some (d, ps) → W.noneFrozen ps → ∃ x, V x ∧ CRep W cs (f x)
section
variable {P : Program}
theorem ZvL  (ht : P.underlying t = some (.int .i64)) (hc : P.cellsOf t = 1) : OG P t (fun x : Int => [.i x]) (fun x => -9223372036854775808 ≤ x ∧ x ≤ 9223372036854775807) := by
 refine ⟨fun x => by simp [hc], fun x g hg => by simp at hg; subst hg; rfl, fun {H} enc W fuel cs d ps h _ => ?_⟩
 obtain ⟨n, rfl, _, hw⟩ := DataW.trod_int ht h
 refine ⟨n, ?_, .one rfl (.atom (.int .i64 n) rfl)⟩
 simpa [Lit.wf, IntKind.min, IntKind.max, IntKind.signed, IntKind.bits] using hw
theorem ZkF {e : TypeId}  {f : α → List GV} {V : α → Prop} (g : α → GV) (agg : Bool) (hg : ∀ x, if agg = true then g x = .agg (f x) else f x = [g x]) (ht : P.underlying t = some (.slice e)) (hc : P.cellsOf t = 1) {sz : Nat} (hsz : P.cellsOf e = sz) (hpos : 0 < sz) (he : OG P e f V) :
  OG P t (fun xs : List α => [.sl sz (xs.map g)]) (fun xs => ∀ x ∈ xs, V x) := by
 subst hsz
 have hgc : ∀ x, (g x).ncells = P.cellsOf e := fun x => by
  have h1 := hg x
  have h2 := he.len x
  split at h1
  ·rw [h1]; simpa [GV.ncells] using h2
  ·have := he.one x (g x) (by rw [h1]; simp)
   rw [h1] at h2
   rw [this]; simpa using h2
 refine ⟨fun x => by simp [hc], fun x y hy => by simp at hy; subst hy; rfl, fun {H} enc W fuel cs d ps h hz => ?_⟩
 rcases Deep.open_slice ht h with ⟨rfl, _⟩ | ⟨a, len, cap, m, n, D, Pl, rfl, _, hlc, hcm, hm, hx, hel⟩
 ·refine ⟨[], by simp, CRep.one (F := own none 0) rfl ?_⟩
  have := GRep.sl (w := W) none 0 (P.cellsOf e) [] [] [] rfl rfl hpos (by simp) (by simp) (by simp) (by simp) (by simp) (by intro k hk; simp at hk) (by intro k hk; simp at hk) (by intro k hk; simp at hk)
  simpa using this
 ·simp only [if_true] at hm
  have hm' := hm.symm
  subst hm'
  simp only [Prod.mk.injEq] at hx
  obtain ⟨_, rfl⟩ := hx
  have hz1 : ∀ i, i < cap → ∀ j, j < P.cellsOf e → W.frozen? ⟨a.block, a.off + (i * P.cellsOf e + j), none⟩ = false := by
   intro i hi j hj
   refine hz _ _ (List.mem_append.2 (.inl ?_))
   have : i * P.cellsOf e + j < cap * P.cellsOf e := by
    have : (i + 1) * P.cellsOf e ≤ cap * P.cellsOf e := Nat.mul_le_mul_right _ hi
    rw [Nat.add_mul] at this; omega
   exact List.mem_map.2 ⟨_, List.mem_range.2 this, rfl⟩
  have hcell : ∀ k : Nat, k < cap → ∃ cs', (∀ j < P.cellsOf e, W.cell? (sAt (some a) (k * P.cellsOf e + j)) = cs'[j]?) ∧ cs'.length = P.cellsOf e ∧ ∃ x, V x ∧ CRep W cs' (f x) := by
   intro k hk
   obtain ⟨cs', hcs, hr⟩ := hel k (by omega)
   obtain ⟨x, hv, hrep⟩ := he.op enc W n cs' _ _ hr (ZbD hz fun p hp => List.mem_append.2 (.inr (List.mem_flatMap.2 ⟨k, List.mem_range.2 (by omega), hp⟩)))
   have hl : cs'.length = P.cellsOf e := by obtain ⟨_, hv', _⟩ := hrep; rw [hv', he.len]
   refine ⟨cs', fun j hj => ?_, hl, x, hv, hrep⟩
   have := (World.cells?_some hcs).2.2 j (by omega)
   rw [Deep.add_add] at this
   exact this
  have had : 0 < cap → a.spot = none ∧ a.block < W.heap.size := by
   intro h0
   obtain ⟨cs0, h1, h2, _⟩ := hcell 0 h0
   have h3 := h1 0 hpos
   rw [Nat.zero_mul] at h3
   have hc0 : W.cell? a = some (cs0[0]'(by omega)) := by simpa [sAt, Addr.add, List.getElem?_eq_getElem (show 0 < cs0.length by omega)] using h3
   exact ⟨World.cell?_spot hc0, World.block_lt_of_cell? W a hc0⟩
  have hk : ∀ k : Nat, k < len → ∃ y : Value × List Nat × α, V y.2.2 ∧ GRep W y.2.1 y.1 (g y.2.2) ∧ y.1.cells.size = P.cellsOf e ∧ (∀ v ∈ y.1.cells.toList, v.oneCell' = true) ∧ ∀ j (hj : j < y.1.cells.size), W.cell? (sAt (some a) (k * P.cellsOf e + j)) = some y.1.cells[j] := by
   intro k hk
   obtain ⟨cs', h1, h2, x, hv, Fs, hlv, hF, hone, hrep⟩ := hcell k (by omega)
   have hgx := hg x
   cases hagg : agg with
   | true =>
    rw [hagg, if_pos rfl] at hgx
    refine ⟨(.agg cs'.toArray, Fs.flatten, x), hv, ?_, by simpa [Value.cells] using h2, by simpa [Value.cells] using hone, fun j hj => ?_⟩
    ·show GRep W Fs.flatten (.agg cs'.toArray) (g x)
     rw [hgx]
     exact .agg cs' (f x) Fs hlv hF hone (he.one x) hrep
    ·have hj' : j < cs'.length := by simpa [Value.cells] using hj
     have := h1 j (by omega)
     rw [this, List.getElem?_eq_getElem hj']; simp [Value.cells]
   | false =>
    rw [hagg, if_neg (by simp)] at hgx
    have h3 : cs'.length = 1 := by rw [hlv, hgx]; rfl
    obtain ⟨v, rfl⟩ : ∃ v, cs' = [v] := List.length_eq_one_iff.1 h3
    have h4 := hone v (by simp)
    have h5 : v.cells = #[v] := by cases v <;> simp_all [Value.oneCell', Value.cells]
    have h6 := hrep 0 (by rw [hgx]; simp)
    refine ⟨(v, Fs[0]'(by rw [hF, hgx]; simp), x), hv, ?_, by simp only [h5]; simpa using h2, by simpa [h5] using h4, fun j hj => ?_⟩
    ·simpa [hgx] using h6
    ·simp only [h5] at hj ⊢
     have hj0 : j = 0 := by simpa using hj
     subst hj0
     have := h1 0 hpos
     rw [this]; simp
  classical
  let F : (k : Nat) → k < len → Value × List Nat × α := fun k h => Classical.choose (hk k h)
  have hf : ∀ k (h : k < len), _ := fun k h => Classical.choose_spec (hk k h)
  refine ⟨(List.finRange len).map fun k => (F k.1 k.2).2.2, fun x hx => ?_, CRep.one (F := own (some a) cap ++ ((List.finRange len).map fun k => (F k.1 k.2).2.1).flatten) rfl ?_⟩
  ·simp only [List.mem_map] at hx
   obtain ⟨k, _, rfl⟩ := hx
   exact (hf k.1 k.2).1
  ·have hg2 := GRep.sl (w := W) (some a) cap (P.cellsOf e) ((List.finRange len).map fun k => (F k.1 k.2).1) (((List.finRange len).map fun k => (F k.1 k.2).2.2).map g) ((List.finRange len).map fun k => (F k.1 k.2).2.1)
    (by simp) (by simp) hpos (fun x hx => by simp only [List.mem_map] at hx; obtain ⟨y, _, rfl⟩ := hx; exact hgc y) (by simpa using hlc) (by simpa [maxLen] using hcm) (by simp) (fun p hp h0 => by cases hp; exact had h0)
    (fun k hk' => by
     have hk2 : k < len := by simpa using hk'
     simp only [List.getElem_map, List.getElem_finRange]
     refine ⟨(hf k hk2).2.2.1, (hf k hk2).2.2.2.1, fun j hj => ⟨(hf k hk2).2.2.2.2 j hj, ?_⟩⟩
     have e1 : sAt (some a) (k * P.cellsOf e + j) = ⟨a.block, a.off + (k * P.cellsOf e + j), none⟩ := by
      have h7 := (had (by omega)).1
      have : a = ⟨a.block, a.off, none⟩ := by rw [← h7]
      rw [this, ZfS]
     rw [e1]
     exact hz1 k (by omega) j (by have h8 : (F k hk2).1.cells.size = _ := (hf k hk2).2.2.1; rw [← h8]; exact hj))
    (fun k hk' => by
     have hk2 : k < len := by simpa using hk'
     simp only [List.getElem_map, List.getElem_finRange]
     exact (hf k hk2).2.1)
    (fun i hi => by
     have hc0 : 0 < cap := by
       apply Classical.byContradiction; intro h0; have : cap = 0 := by omega
       subst this; simp at hi
     have hkc : i / P.cellsOf e < cap := (Nat.div_lt_iff_lt_mul hpos).2 hi
     have hj : i % P.cellsOf e < P.cellsOf e := Nat.mod_lt _ hpos
     have hij : i / P.cellsOf e * P.cellsOf e + i % P.cellsOf e = i := Nat.div_add_mod' i _
     obtain ⟨cs', h1, h2, _⟩ := hcell _ hkc
     have h3 := h1 _ hj
     rw [hij] at h3
     refine ⟨by rw [h3, List.getElem?_eq_getElem (by omega)]; rfl, ?_⟩
     have e1 : sAt (some a) i = ⟨a.block, a.off + (i / P.cellsOf e * P.cellsOf e + i % P.cellsOf e), none⟩ := by
      have h7 := (had hc0).1
      have : a = ⟨a.block, a.off, none⟩ := by rw [← h7]
      rw [this, ZfS, hij]
     rw [e1]; exact hz1 _ hkc _ hj)
   simpa using hg2
theorem Zoe  {f : α → List GV} {g : β → List GV} {V : α → Prop} {U : β → Prop} {f0 f1 : Field} (ht : P.underlying t = some (.struct #[f0, f1])) (hc : P.cellsOf t = P.cellsOf f0.type + P.cellsOf f1.type)
  (o0 : f0.offset = 0) (o1 : f1.offset = P.cellsOf f0.type) (h0 : OG P f0.type f V) (h1 : OG P f1.type g U) : OG P t (fun x : α × β => f x.1 ++ g x.2) (fun x => V x.1 ∧ U x.2) := by
 refine ⟨fun x => by simp [h0.len, h1.len, hc], fun x y hy => (List.mem_append.1 hy).elim (h0.one _ y) (h1.one _ y), fun {H} enc W fuel cs d ps h hz => ?_⟩
 obtain ⟨xs, n, _, hx, hl, hxl, hf⟩ := DataW.trod_struct ht h
 simp only [Prod.mk.injEq] at hx
 obtain ⟨_, rfl⟩ := hx
 have e0 := hf 0 f0 rfl
 have e1 := hf 1 f1 rfl
 have hxl' : xs.length = 2 := hxl
 rw [List.getElem?_eq_getElem (by omega)] at e0 e1
 obtain ⟨x0, v0, r0⟩ := h0.op enc W n _ _ _ e0 (ZbD hz fun p hp => List.mem_flatMap.2 ⟨_, List.getElem_mem _, hp⟩)
 obtain ⟨x1, v1, r1⟩ := h1.op enc W n _ _ _ e1 (ZbD hz fun p hp => List.mem_flatMap.2 ⟨_, List.getElem_mem _, hp⟩)
 refine ⟨(x0, x1), ⟨v0, v1⟩, ?_⟩
 have r := r0.app r1
 rw [o0, o1, List.drop_zero, List.take_of_length_le (l := cs.drop _) (by rw [List.length_drop]; omega), List.take_append_drop] at r
 exact r
theorem OG.argS  {f : α → List GV} {V : α → Prop} (h : OG P t f V) {fs : Array Field} (hu : P.underlying t = some (.struct fs))  {enc : TypeId × Value → H}  {base : Nat}  {d : DataW H} {ps : List MemPlace}
  (hv : Value.okWide P W .any base t v) (hd : DataW.Trod enc P W 0 (fun _ => true) true t v d ps) (hz : W.noneFrozen ps) : ∃ x, V x ∧ ∃ F, GRep W F v (.agg (f x)) := by
 obtain ⟨fuel, hd⟩ := hd
 obtain ⟨x, hx, Fs, hl, hF, h1, hr⟩ := h.op enc W fuel _ d ps hd hz
 unfold Value.okWide at hv
 rw [hu] at hv
 obtain ⟨cs, rfl, _⟩ := hv
 refine ⟨x, hx, Fs.flatten, ?_⟩
 have := GRep.agg (w := W) cs.toList (f x) Fs (by simpa [Value.cells] using hl) hF (by simpa [Value.cells] using h1) (h.one x) (by simpa [Value.cells] using hr)
 simpa using this
theorem Con.law  (h : Con P f gs (.bool true))  {args : Array Value} (hl : args.size = gs.length) (hg : ∀ i (hi : i < gs.length), ∃ F, GRep W F (args[i]'(hl ▸ hi)) gs[i]) : Calls P f args W (Pure W (.bool true)) := by
 have h1 := h.calls W args.toList (by simpa using hl) (fun i hi => by simpa using hg i hi)
 rw [Array.toArray_toList] at h1
 refine h1.mono fun e W' hgv => ?_
 obtain ⟨v, F, rfl, hr, _, _, _, hk⟩ := hgv
 rw [hr.bool_inv]
 exact ⟨rfl, hk⟩
end
theorem Zb0 : ∀ (w r : List Char), (w.all fun c => !(c == Char.ofNat 32)) = true → wordsSigns (w ++ Char.ofNat 32 :: r) = w :: wordsSigns r
 | [], r, _ => rfl
 | c :: w, r, h => by
  simp only [List.all_cons, Bool.and_eq_true, Bool.not_eq_true', beq_eq_false_iff_ne, ne_eq] at h
  have ih := Zb0 w r (by simpa using h.2)
  rw [List.cons_append, wordsSigns.eq_3 _ _ (by intro e; exact h.1 e), ih]
theorem ZwF {L A B C R : List Char} (h : L = A ++ Char.ofNat 32 :: (B ++ Char.ofNat 32 :: (C ++ Char.ofNat 32 :: R))) (h1 : (A.all fun c => !(c == Char.ofNat 32)) = true) (h2 : (B.all fun c => !(c == Char.ofNat 32)) = true) (h3 : (C.all fun c => !(c == Char.ofNat 32)) = true) (h4 : A = "harness".toList) (h5 : isSumSigns B = true) : behindMainWord (wordsSigns L) = C :: wordsSigns R := by
 subst h; subst h4
 rw [Zb0 _ _ h1, Zb0 _ _ h2, Zb0 _ _ h3]
 simp only [behindMainWord, h5, Bool.and_true, beq_self_eq_true, Bool.true_or, if_true]
theorem Zli (X : List (List Char)) : stripLifts liftWords ("cut".toList :: X) = ([], "cut".toList :: X) := by kernel_rfl
theorem Zk5 {P : Program} {X : List (List Char)} (h : behindMainWord (wordsSigns P.initOrder.toList) = "cut".toList :: X) : P.headLifts = [] := by
 unfold Program.headLifts
 rw [h]
 simp only [Zli]
 split <;> rfl
theorem ZpG : ("cut".toList == "gc".toList) = false ∧ ("cut".toList == "spec".toList) = false ∧ ("cut".toList == "carried".toList) = false ∧ (some "cut".toList == some "cut".toList) = true ∧ ("cut".toList == "cut".toList) = true ∧ (some "cut".toList == some "carried".toList) = false := by
 refine ⟨?_, ?_, ?_, ?_, ?_, ?_⟩ <;> kernel_rfl
theorem Zmc {P : Program} {X : List (List Char)} (h : behindMainWord (wordsSigns P.initOrder.toList) = "cut".toList :: X) (h1 : P.laysLater = false) (h2 : P.bearsReflect = false) (h3 : P.doorFits [] = true) : P.mayEnter = true := by
 unfold Program.mayEnter
 rw [h]
 simp only [Zli, h1, h2, h3, ZpG, List.head?_cons, List.contains_nil, Bool.not_false, Bool.or_true, Bool.true_and, Bool.and_true, Bool.or_false, Bool.false_and, Bool.not_true]
theorem Zu2 {P : Program} {X : List (List Char)} (h : behindMainWord (wordsSigns P.initOrder.toList) = "cut".toList :: X) : P.make = some .cut := by
 unfold Program.make
 rw [h]
 simp only [ZpG, Bool.or_false, Bool.false_eq_true, if_false, Bool.true_or, if_true]
theorem ZqY {P : Program} {X : List (List Char)} (h : behindMainWord (wordsSigns P.initOrder.toList) = "cut".toList :: X) : P.liftsFinal = false := by
 unfold Program.liftsFinal
 rw [h, Zk5 h]
 simp only [List.head?_cons, ZpG, Bool.false_and, List.contains_nil, Bool.or_false]
theorem ZpZ {P : Program}  {fn : Func} {s : ChangeSpec} {c : OpenClaim} (h2 : P.mayEnter = true) (h3 : P.make = some .cut) (h4 : P.liftsFinal = false) (h5 : (c.make == .cut) = true) (h6 : c.lifted = false)
  (h1 : (c.wf (OpenSpec.ofChange s) && laidOutB P && mapsRowed P &&
 fn.params.all (P.readableRec ·) && namedTie P c.named s.vars &&
 (c.stops == []) && (P.stops == []) && (c.knobs == []) && (P.stopKnobs == []) &&
 (c.inPlace == P.inPlace f) && (c.unfollowed == P.unfollowed f) && (c.recurses == P.recurses f) && (c.named == P.varsNamed f) &&
 (c.maps == (fn.params.toList ++ s.plain.varTypes P).any (P.mapsRec ·)) && (c.ifaces == (fn.params.toList ++ s.plain.varTypes P).any (P.ifacesRec ·)) && (c.mapsOut == P.mapsAmong fn.resultTypes.toList) &&
 (c.loops == (fn.params.toList ++ s.plain.varTypes P).any (P.loopsFrom ·)) && (c.wideKeys == (fn.params.toList ++ s.plain.varTypes P ++ fn.resultTypes.toList).any (P.wideKeysFrom ·)) &&
 s.vars.all (P.varReadable ·) && fn.resultTypes.all (fun t => P.readableRec t && decide (t < P.types.size)) && (c.ifacesOut == fn.resultTypes.toList.any (P.ifacesRec ·)) && (c.loopsOut == fn.resultTypes.toList.any (P.loopsFrom ·)) && (c.plainKeys == P.plainKeys) && c.shortTexts.isNone && P.stopsHeard && (c.kinds == (if c.domain.isEmpty then [] else fn.params.toList.map fun t => match P.underlying t with | some (.int k) => some k | _ => none)) && (c.pinned == c.pinnedBy) &&
 (c.veiled == (fn.params.toList ++ s.plain.varTypes P ++ fn.resultTypes.toList).any (P.veiledRec ·)) && c.veiledFits P fn.params.toList (fn.params.toList ++ s.plain.varTypes P ++ fn.resultTypes.toList)) = true) : joinedFacts P f fn s c = true := by
 have e5 : c.make = .cut := by simpa using h5
 have e3 : (P.make == some c.make) = true := by rw [h3, e5]; rfl
 have e4 : (c.lifted == P.liftsFinal) = true := by rw [h4, h6]; rfl
 unfold joinedFacts
 rw [h2, e3, e4]
 simp only [Bool.and_eq_true, and_assoc] at h1 ⊢
 obtain ⟨k1, k2, k3, k4, k5, k6, k7, k8, k9, k10, k11, k12, k13, k14, k15, k16, k17, k18, k19, k20, k21, k22, k23, k24, k25, k26, k27, k28⟩ := h1
 repeat' apply And.intro
 all_goals first | assumption | rfl | trivial | exact k24 | exact k25 | exact k26 | exact k27 | exact k28.1 | exact k28.2
end Go.Proofs.YtjjidamlmebaaaaGreat

