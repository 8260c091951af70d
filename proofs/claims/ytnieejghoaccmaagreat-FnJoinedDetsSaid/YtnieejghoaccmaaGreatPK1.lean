/- One cell of a row inside of data of the call's own is written ('poke'). No program in sight; no conditions. -/
import Derived.Test.YtnieejghoaccmaaGreatKC
import Derived.Laws.IdiomCopy
namespace Go.Proofs.YtnieejghoaccmaaGreat
open Go.RowKit
open Shp
variable {k : Bool} {x : GV} {u v : Value} {w w' : World} {F : List Nat}
def kv (k : Bool) : Value → Bool
 | .bool _ => k
 | .int .i64 _ => !k
 | _ => false
def kg (k : Bool) : GV → Bool
 | .bool _ => k
 | .int .i64 _ => !k
 | .raw _ v => kv k v
 | _ => false
def GV.kids : GV → List GV
 | .fn _ cs => cs
 | .box cs => cs
 | .sl _ xs => xs
 | .agg cs => cs
 | .tup vs => vs
 | .ex _ _ xs => xs
 | .bd _ _ xs => xs
 | _ => []
inductive NoA (k : Bool) : GV → Prop
 | mk (x : GV) : kg k x = false → (∀ y ∈ x.kids, NoA k y) → NoA k x
theorem NoA.leaf  (h : NoA k x) : kg k x = false := by cases h; assumption
theorem NoA.kid {k : Bool} {x : GV} (h : NoA k x) : ∀ y ∈ x.kids, NoA k y := by cases h; assumption
theorem ZeH  (hu : u.oneCell' = true) : u.cells = #[u] := by cases u <;> simp_all [Value.oneCell', Value.cells]
theorem GRep.nokv  (h : GRep w F v x) (hx : NoA k x) : ∀ u ∈ v.cells.toList, kv k u = false := by
 induction h with
 | atom x ha =>
  have := hx.leaf
  cases x <;> simp [GV.atom] at ha
  case bool b => simpa [ZaS, Value.cells, kv, kg] using this
  case int q n => cases q <;> simp [ZaS, Value.cells, kv, kg] at this ⊢ <;> exact this
  case str s => simp [ZaS, Value.cells, kv]
  case nilp => simp [ZaS, Value.cells, kv]
 | fn => simp [Value.cells, kv]
 | agg vs gs Fs hv hF h1 hg h ih =>
  intro u hu
  have hu' : u ∈ vs := by simpa [Value.cells] using hu
  obtain ⟨i, hi, rfl⟩ := List.getElem_of_mem hu'
  refine ih i (hv ▸ hi) (hx.kid _ (List.getElem_mem _)) _ ?_
  rw [ZeH (h1 _ (List.getElem_mem _))]; simp
 | tup => simp [Value.cells, kv]
 | box => simp [Value.cells, kv]
 | sl => simp [Value.cells, kv]
 | ex v e xs F h ih => exact ih (.mk _ rfl hx.kid)
 | raw c v h => intro u hu; rw [ZeH h] at hu; simp at hu; subst hu; exact hx.leaf
 | bd v N e xs F h hN ih => exact ih (.mk _ rfl hx.kid)
theorem GRep.poke  (hc : ∀ p u, w.cell? p = some u → kv k u = false → w'.cell? p = some u) (his : ∀ p, (w.cell? p).isSome = true → (w'.cell? p).isSome = true) (hf : ∀ p, w'.frozen? p = w.frozen? p) (hs : w'.heap.size = w.heap.size)    (h : GRep w F v x) (hx : NoA k x) : GRep w' F v x := by
 induction h with
 | atom x h => exact .atom x h
 | fn f vs gs Fs hv hF h ih => exact .fn f vs gs Fs hv hF fun i hi => ih i hi (hx.kid _ (List.getElem_mem _))
 | agg vs gs Fs hv hF h1 hg h ih => exact .agg vs gs Fs hv hF h1 hg fun i hi => ih i hi (hx.kid _ (List.getElem_mem _))
 | tup vs gs Fs hv hF h ih => exact .tup vs gs Fs hv hF fun i hi => ih i hi (hx.kid _ (List.getElem_mem _))
 | box b vs gs Fs hb hv hF h1 hg hcl h ih =>
  refine .box b vs gs Fs (by rw [hs]; exact hb) hv hF h1 hg (fun i hi => hc _ _ (hcl i hi) ?_) fun i hi => ih i hi (hx.kid _ (List.getElem_mem _))
  refine (h i (hv ▸ hi)).nokv (hx.kid _ (List.getElem_mem _)) _ ?_
  rw [ZeH (h1 _ (List.getElem_mem _))]; simp
 | sl a cap e vs gs Fs hv hF he hg le max nil ad hcl h rm ih =>
  refine .sl a cap e vs gs Fs hv hF he hg le max nil (fun p hp h0 => ⟨(ad p hp h0).1, by rw [hs]; exact (ad p hp h0).2⟩) (fun i hi => ⟨(hcl i hi).1, (hcl i hi).2.1, fun j hj => ⟨hc _ _ ((hcl i hi).2.2 j hj).1 ?_, by rw [hf]; exact ((hcl i hi).2.2 j hj).2⟩⟩) (fun i hi => ih i hi (hx.kid _ (List.getElem_mem _))) fun i hi' => ⟨his _ (rm i hi').1, by rw [hf]; exact (rm i hi').2⟩
  exact (h i (hv ▸ hi)).nokv (hx.kid _ (List.getElem_mem _)) _ (by simp)
 | ex v e xs F h ih => exact .ex v e xs F (ih (.mk _ rfl hx.kid))
 | raw c v h => exact .raw c v h
 | bd v N e xs F h hN ih => exact .bd v N e xs F (ih (.mk _ rfl hx.kid)) hN
inductive SafeP (k : Bool) : PV → Prop
 | g (x : GV) : NoA k x → SafeP k (.g x)
 | flat (x : GV) : x.flat = true → SafeP k (.g x)
 | undef : SafeP k .undef
 | none_ : SafeP k .none_
 | nils (e : Nat) : SafeP k (.nils e)
 | own (id lo len : Nat) : SafeP k (.own id lo len)
 | ptr (id off : Nat) : SafeP k (.ptr id off)
 | eptr (id i j : Nat) : SafeP k (.eptr id i j)
 | iptr (cs : List GV) : (∀ x ∈ cs, NoA k x) → SafeP k (.iptr cs)
 | agg (cs : List PV) : (∀ x ∈ cs, SafeP k x) → SafeP k (.agg cs)
 | tup (cs : List PV) : (∀ x ∈ cs, SafeP k x) → SafeP k (.tup cs)
 | fn (f : FuncId) (cs : List PV) : (∀ x ∈ cs, SafeP k x) → SafeP k (.fn f cs)
inductive SafeB (k : Bool) : Block → Prop
 | free : SafeB k .free
 | dead : SafeB k .dead
 | lim (N : Nat) : SafeB k (.lim N)
 | box (cs : List PV) : (∀ x ∈ cs, SafeP k x) → SafeB k (.box cs)
 | deep (e : Nat) (xs : List GV) : SafeB k (.arr e true xs)
 | arr (e : Nat) (dp : Bool) (xs : List GV) : (∀ x ∈ xs, NoA k x) → SafeB k (.arr e dp xs)
theorem GRep.flat_any  (h : GRep w F v x) (hx : x.flat = true) : GRep w' F v x := by
 cases h with
 | atom x h => exact .atom x h
 | agg vs gs Fs hv hF h1 hg h =>
  simp only [GV.flat, List.all_eq_true] at hx
  refine .agg vs gs Fs hv hF h1 hg fun i hi => ?_
  have h2 := h i hi
  have ha := hx _ (List.getElem_mem hi)
  revert h2 ha
  generalize vs[i]'(hv ▸ hi) = u
  generalize Fs[i]'(hF ▸ hi) = G
  generalize gs[i] = g
  intro h2 ha
  cases h2 <;> simp [GV.atom] at ha
  exact .atom _ ‹_›
 | fn | tup | box | sl | ex | raw | bd => simp [GV.flat, GV.atom] at hx
structure Pk (k : Bool) (w w' : World) (μ : Lay) (h h' : Nat → Block) : Prop where
 c : ∀ p u, w.cell? p = some u → kv k u = false → w'.cell? p = some u
 i : ∀ p, (w.cell? p).isSome = true → (w'.cell? p).isSome = true
 f : ∀ p, w'.frozen? p = w.frozen? p
 s : w'.heap.size = w.heap.size
 pl : ∀ b, Plain w b → Plain w' b
 root : ∀ b, Root μ h b → w'.heap[b]? = w.heap[b]?
 sub : ∀ b, Root μ h' b → Root μ h b
 free : ∀ id, h' id = .free → h id = .free
 arr : ∀ id e dp xs, h' id = .arr e dp xs → ∃ dp' xs', h id = .arr e dp' xs'
 box : ∀ id cs, h' id = .box cs → ∃ cs', h id = .box cs'
theorem PRep.poke {k : Bool} {w w' : World} {μ : Lay} {h h' : Nat → Block} (hk : Pk k w w' μ h h') {v : Value} {x : PV} (hr : PRep w μ h v x) (hx : SafeP k x) : PRep w' μ h' v x := by
 induction hr with
 | g v x F hg hd =>
  refine .g v x F ?_ fun b hb hr' => hd b hb (hk.sub b hr')
  cases hx with
  | g _ h1 => exact hg.poke hk.c hk.i hk.f hk.s h1
  | flat _ h1 => exact hg.flat_any h1
 | undef v => exact .undef v
 | none_ => exact .none_
 | nils e he => exact .nils e he
 | own v id lo len h1 hf ho =>
  refine .own v id lo len h1 (fun e => hf (hk.free id e)) fun e dp xs hx => ?_
  obtain ⟨dp', xs', e2⟩ := hk.arr id e dp xs hx
  have h3 := ho e dp' xs' e2
  unfold Zb5 at *
  cases hμ : μ id with
  | none => simpa only [hμ] using h3
  | some bd =>
   obtain ⟨b, d⟩ := bd
   simp only [hμ] at h3 ⊢
   obtain ⟨cap, o, hv, hl, hc, vs, t, hw, ho2, hs⟩ := h3
   exact ⟨cap, o, hv, hl, hc, vs, t, by rw [hk.root b ⟨id, d, by rw [e2]; rfl, hμ⟩]; exact hw, ho2, hs⟩
 | ptr v id off h1 hf ho =>
  refine .ptr v id off h1 (fun e => hf (hk.free id e)) fun cs hx => ?_
  obtain ⟨cs', e2⟩ := hk.box id cs hx
  exact ho cs' e2
 | eptr v id i j h1 hf ho =>
  refine .eptr v id i j h1 (fun e => hf (hk.free id e)) fun e dp xs hx => ?_
  obtain ⟨dp', xs', e2⟩ := hk.arr id e dp xs hx
  exact ho e dp' xs' e2
 | iptr v p cs vs Fs hp hs hv hF hb hr hc hg he hd =>
  have h1 : ∀ x ∈ cs, NoA k x := by cases hx; assumption
  refine .iptr v p cs vs Fs hp hs hv hF (by rw [hk.s]; exact hb) (fun hr' => hr (hk.sub _ hr')) (fun i hi => ⟨hk.c _ _ (hc i hi).1 ?_, (hc i hi).2⟩) hg (fun i hi => (he i hi).poke hk.c hk.i hk.f hk.s (h1 _ (List.getElem_mem _))) fun b hb hr' => hd b hb (hk.sub b hr')
  refine (he i (hv ▸ hi)).nokv (h1 _ (List.getElem_mem _)) _ ?_
  rw [ZeH (hc i hi).2]; simp
 | agg vs cs hv h1 he ih =>
  have h2 : ∀ x ∈ cs, SafeP k x := by cases hx; assumption
  exact .agg vs cs hv h1 fun i hi => ih i hi (h2 _ (List.getElem_mem _))
 | tup vs cs hv he ih =>
  have h2 : ∀ x ∈ cs, SafeP k x := by cases hx; assumption
  exact .tup vs cs hv fun i hi => ih i hi (h2 _ (List.getElem_mem _))
 | fn f vs cs hv he ih =>
  have h2 : ∀ x ∈ cs, SafeP k x := by cases hx; assumption
  exact .fn f vs cs hv fun i hi => ih i hi (h2 _ (List.getElem_mem _))
theorem ZoP {Fs : List (List Nat)} (h : Fs.flatten.Nodup) {i k : Nat} (hi : i < Fs.length) (hk : k < Fs.length) (hne : i ≠ k) {b : Nat} (hb : b ∈ Fs[k]) : b ∉ Fs[i] := by
 have h2 := (List.pairwise_flatten.1 h).2
 rw [List.pairwise_iff_getElem] at h2
 intro hb'
 rcases Nat.lt_or_gt_of_ne hne with h3 | h3
 ·exact h2 i k hi hk h3 b hb' b hb rfl
 ·exact h2 k i hk hi h3 b hb b hb' rfl
theorem Zob  {a : Option Addr} {q : Nat}  {g : GV} (hu : u = ZaS g) (ha : g.atom = true) (hc : w.cell? (sAt a q) = some (ZaS g)) (hf : w.frozen? (sAt a q) = false) :
  u.cells.size = 1 ∧ (∀ v ∈ u.cells.toList, v.oneCell' = true) ∧ ∀ j (hj : j < u.cells.size), w.cell? (sAt a (q * 1 + j)) = some u.cells[j] ∧ w.frozen? (sAt a (q * 1 + j)) = false := by
 subst hu
 have h1 : (ZaS g).cells = #[ZaS g] ∧ (ZaS g).oneCell' = true := by cases g <;> simp [GV.atom] at ha <;> exact ⟨rfl, rfl⟩
 generalize ZaS g = u at *
 obtain ⟨h1, h2⟩ := h1
 refine ⟨by rw [h1]; rfl, by rw [h1]; simpa using h2, fun j hj => ?_⟩
 have hj0 : j = 0 := by rw [h1] at hj; simpa using hj
 subst hj0
 simp only [Nat.mul_one, Nat.add_zero]
 refine ⟨?_, hf⟩
 rw [hc]
 congr 1
 simp [h1]
theorem RelAt.poke {w0 : W0} {S S' : AState} {a : Act} {w : World} {μ : Lay} {who : Nat → Option Nat} (h : RelAt w0 S a w μ who) (k : Bool) {id kk j cap : Nat} {xs row : List GV} {ad : Addr} (hid : S.heap id = .arr 1 true xs)
  (hk : xs[kk]? = some (.ex (.slice (some ad) row.length cap) 1 row)) (hj : j < row.length) (hat : ∀ x ∈ row, x.atom = true) (hkg : kg k row[j] = true) {y : GV} (hy : y.atom = true) (hn : S'.n = S.n) (hs : ∀ t, S'.slots t = .undef ∨ (S'.slots t = S.slots t ∧ SafeP k (S.slots t)))
  (hh : S'.heap id = .arr 1 true (xs.set kk (.sl 1 (row.set j y)))) (ho : ∀ i, i ≠ id → (S'.heap i = S.heap i ∧ SafeB k (S.heap i)) ∨ (S'.heap i = .dead ∧ S.heap i ≠ .free)) :
  ad.spot = none ∧ (w.cell? (ad.add j)).isSome = true ∧ w.frozen? (ad.add j) = false ∧ RelAt w0 S' a (w.setCell (ad.add j) (ZaS y)) μ who := by
 have hB := h.blk id
 rw [hid] at hB
 obtain ⟨he, hB⟩ := hB
 have hkl : kk < xs.length := (List.getElem?_eq_some_iff.1 hk).1
 have hxk : xs[kk] = .ex (.slice (some ad) row.length cap) 1 row := (List.getElem?_eq_some_iff.1 hk).2
 cases hμ : μ id with
 | none => simp only [hμ] at hB; subst hB; simp at hkl
 | some bd =>
 obtain ⟨b, d⟩ := bd
 simp only [hμ] at hB
 obtain ⟨vs, t, Fs, els, hrow, hr, hnr, hdp⟩ := hB
 obtain ⟨hnd, hwho⟩ := hdp trivial
 have hkF : kk < Fs.length := by rw [hr.fl]; exact hkl
 have hkE : kk < els.length := by rw [hr.len]; exact hkl
 have g0 := hr.el kk hkl
 rw [hxk] at g0
 obtain ⟨e1, g1⟩ := g0.unex
 obtain ⟨ad', cap', els', Fs', e2, e3, hsl⟩ := g1.slice
 have e4 := e1.symm.trans e2
 simp only [Value.slice.injEq] at e4
 obtain ⟨rfl, _, rfl⟩ := e4
 have hcap : 0 < cap := by have := hsl.le; omega
 obtain ⟨hspot, hblk⟩ := hsl.ad ad rfl hcap
 have hqin : ad.block ∈ Fs[kk] := by rw [e3]; exact List.mem_append.2 (.inl (ZcI rfl hcap))
 have hqfl : ad.block ∈ Fs.flatten := Zad _ hqin
 have hadd : ∀ n, ad.add n = ⟨ad.block, ad.off + n, none⟩ := fun n => by obtain ⟨b, o, s⟩ := ad; simp only at hspot; subst hspot; exact Addr.add_mid ..
 have hsa : ∀ n, sAt (some ad) n = ad.add n := fun n => by obtain ⟨b, o, s⟩ := ad; simp only at hspot; subst hspot; rw [Zd7, Addr.add_mid]
 have hblkq : (ad.add j).block = ad.block := by rw [hadd]
 have hel : ∀ i (hi : i < row.length), els'[i]'(by rw [hsl.hv]; exact hi) = ZaS row[i] := fun i hi => by
  have h3 := hsl.h i hi
  have ha := hat _ (List.getElem_mem hi)
  revert h3 ha
  generalize els'[i]'(by rw [hsl.hv]; exact hi) = u
  generalize Fs'[i]'(by rw [hsl.hF]; exact hi) = G
  generalize row[i] = g
  intro h3 ha
  cases h3 <;> simp [GV.atom] at ha
  rfl
 have hofc : ∀ {g : GV}, g.atom = true → (ZaS g).cells = #[ZaS g] := fun {g} hg => by cases g <;> simp [GV.atom] at hg <;> rfl
 have hof1 : ∀ {g : GV}, g.atom = true → (ZaS g).oneCell' = true := fun {g} hg => by cases g <;> simp [GV.atom] at hg <;> rfl
 have hcell : ∀ i (hi : i < row.length), w.cell? (ad.add i) = some (ZaS row[i]) ∧ w.frozen? (ad.add i) = false := fun i hi => by
  have hi' : i < els'.length := by rw [hsl.hv]; exact hi
  have h3 := (hsl.hc i hi').2.2 0 (by rw [(hsl.hc i hi').1]; omega)
  simp only [Nat.mul_one, Nat.add_zero, hsa] at h3
  refine ⟨?_, h3.2⟩
  rw [h3.1]
  simp only [hel i hi, hofc (hat _ (List.getElem_mem hi))]
  rfl
 have hqc := hcell j hj
 have hkvq : kv k (ZaS row[j]) = true := by
  have ha := hat _ (List.getElem_mem hj)
  revert hkg ha
  generalize row[j] = g
  intro hkg ha
  cases g with
  | raw c v => simp [GV.atom] at ha
  | bool b => simpa [kv, kg, ZaS] using hkg
  | int q n => cases q <;> simp [kg] at hkg ⊢; simpa [kv, ZaS] using hkg
  | _ => simp [kg] at hkg
 have hother : ∀ c, c ≠ ad.block → (w.setCell (ad.add j) (ZaS y)).heap[c]? = w.heap[c]? := fun c hc => by
  rw [World.setCell, hblkq]
  simp only [Array.getElem?_modify]
  rw [if_neg (by omega)]
 have hpk : Pk k w (w.setCell (ad.add j) (ZaS y)) μ S.heap S'.heap := by
  refine ⟨fun p u hp hu => ?_, fun p hp => ?_, fun p => World.frozen?_setCell .., by simp [World.setCell], fun c hc => ?_, fun c hc => hother c fun e => hnr _ hqfl (e ▸ hc), fun c hc => ?_, fun i hi => ?_, fun i e dp ys hi => ?_, fun i cs hi => ?_⟩
  ·by_cases e : p = ad.add j
   ·subst e; rw [hqc.1] at hp; cases hp; rw [hkvq] at hu; cases hu
   ·rw [World.cell?_setCell_other _ _ _ _ (fun e' => e e'.symm)]; exact hp
  ·exact ZfW _ _ _ _ hp
  ·by_cases e : c = ad.block
   ·obtain ⟨us, t9, h9⟩ := hc
    have ea : ad.add j = ⟨c, ad.off + j, none⟩ := by rw [hadd, e]
    rw [ea]; exact ⟨_, t9, ZpX h9⟩
   ·exact hc.keep (hother c e)
  ·refine hc.mono fun i hi => ?_
   by_cases e : i = id
   ·subst e; rw [hid]; rfl
   ·rcases ho i e with h3 | h3
    ·rw [← h3.1]; exact hi
    ·rw [h3.1] at hi; cases hi
  ·by_cases e : i = id
   ·subst e; rw [hh] at hi; cases hi
   ·rcases ho i e with h3 | h3
    ·rw [← h3.1]; exact hi
    ·rw [h3.1] at hi; cases hi
  ·by_cases e' : i = id
   ·subst e'; rw [hh] at hi; cases hi; exact ⟨true, xs, hid⟩
   ·rcases ho i e' with h3 | h3
    ·exact ⟨dp, ys, by rw [← h3.1]; exact hi⟩
    ·rw [h3.1] at hi; cases hi
  ·by_cases e' : i = id
   ·subst e'; rw [hh] at hi; cases hi
   ·rcases ho i e' with h3 | h3
    ·exact ⟨cs, by rw [← h3.1]; exact hi⟩
    ·rw [h3.1] at hi; cases hi
 have hlive : ∀ i, (S'.heap i).live = true → (S.heap i).live = true := fun i hi => by
  by_cases e : i = id
  ·subst e; rw [hid]; rfl
  ·rcases ho i e with h3 | h3
   ·rw [← h3.1]; exact hi
   ·rw [h3.1] at hi; cases hi
 have hkeepq : Keeps [ad.block] w (w.setCell (ad.add j) (ZaS y)) := Keeps.setCell _ _ _ _ (.inl (by simp [hblkq]))
 have hnew : New w0 ad.block := (hwho _ hqfl).2.1
 refine ⟨hspot, by rw [hqc.1]; rfl, hqc.2, by rw [hn]; exact h.size, fun t => ?_, h.dfr, fun i => ?_, fun i j' c d1 d2 hi hj' => h.inj i j' c d1 d2 (hlive i hi) (hlive j' hj'), fun i c d1 hi hc => ?_, ?_, ⟨fun t x hp hx => ?_, fun t v hv ht => by rw [hn]; exact h.old.2 t v hv ht⟩⟩
 ·rcases hs t with e | ⟨e, hsafe⟩
  ·rw [e]; exact .undef _
  ·rw [e]; exact (h.slot t).poke hpk hsafe
 ·by_cases e : i = id
  ·subst e
   rw [hh]
   refine ⟨he, ?_⟩
   simp only [hμ]
   have hbq : b ≠ ad.block := fun e => hnr _ hqfl (e ▸ ⟨i, d, by rw [hid]; rfl, hμ⟩)
   refine ⟨vs, t, Fs, els, by rw [hother b hbq]; exact hrow, ⟨by simp [hr.len], by simp [hr.fl], by simpa using hr.fit, fun n hn' => ?_, fun n hn' => ?_, hr.sz, hr.cell⟩, fun c hc hr' => hnr c hc (hpk.sub c hr'), fun _ => ⟨hnd, fun c hc => ⟨(hwho c hc).1, (hwho c hc).2.1, hpk.pl c (hwho c hc).2.2⟩⟩⟩
   ·rw [List.getElem_set]; split
    ·rfl
    ·exact hr.nc n (by simpa using hn')
   ·have hn2 : n < xs.length := by simpa using hn'
    rw [List.getElem_set]
    by_cases en : kk = n
    ·subst en
     rw [if_pos rfl]
     rw [e2, e3]
     have hFn : Fs'.flatten = [] := Zbk fun q hq => (hsl.h q (by rw [← hsl.hF]; exact hq)).of_atom (hat _ (List.getElem_mem _))
     rw [hFn, List.append_nil]
     have hlen : (row.set j y).length = row.length := by simp
     have hg := GRep.sl (w := w.setCell (ad.add j) (ZaS y)) (some ad) cap 1 ((row.set j y).map ZaS) (row.set j y) ((row.set j y).map fun _ => []) (by simp) (by simp) (by omega) (fun x hx => by
       rcases List.mem_or_eq_of_mem_set hx with h5 | h5
       ·exact hsl.nc x h5
       ·rw [h5]; cases y <;> simp [GV.atom] at hy <;> rfl) (by rw [hlen]; exact hsl.le) hsl.max hsl.nil (fun p hp h0 => ⟨(hsl.ad p hp h0).1, by rw [hpk.s]; exact (hsl.ad p hp h0).2⟩)
      (fun q hq => by
       have hq' : q < row.length := by simpa using hq
       have hya : ((row.set j y)[q]'(by simpa using hq')).atom = true := by
        rw [List.getElem_set]; split
        ·exact hy
        ·exact hat _ (List.getElem_mem _)
       refine Zob (List.getElem_map _) hya ?_ (by rw [hpk.f, hsa]; exact (hcell q hq').2)
       rw [hsa]
       by_cases eq : j = q
       ·subst eq
        rw [World.cell?_setCell_same _ _ _ hqc.1, List.getElem_set_self]
       ·rw [World.cell?_setCell_other _ _ _ _ (fun e9 => by rw [hadd, hadd] at e9; injection e9 with _ e9 _; omega), (hcell q hq').1, List.getElem_set_ne eq])
      (fun q hq => by
       have hya : ((row.set j y)[q]'hq).atom = true := by
        rw [List.getElem_set]; split
        ·exact hy
        ·exact hat _ (List.getElem_mem _)
       simp only [List.getElem_map]; exact .atom _ hya)
      (fun i hi => ⟨ZfW _ _ _ _ (hsl.rm i hi).1, by rw [hpk.f]; exact (hsl.rm i hi).2⟩)
     have e5 : ((row.set j y).map fun _ => ([] : List Nat)).flatten = [] := Zbk fun q hq => List.getElem_map _
     rw [e5, List.append_nil, hlen] at hg
     exact hg
    ·rw [if_neg en]
     refine (hr.el n hn2).keeps hkeepq fun c hc hm => ?_
     simp at hm; subst hm
     exact ZoP hnd (by rw [hr.fl]; exact hn2) hkF (fun e => en e.symm) hqin hc
  ·rcases ho i e with ⟨h3, h4⟩ | ⟨h3, h4⟩
   ·rw [h3]
    have hb := h.blk i
    revert hb h4 
    cases hBi : S.heap i with
    | free => intros; trivial
    | dead => intros; trivial
    | hd v e xs => intro h4; cases h4
    | lim N => intro _ hb; exact hb
    | box cs =>
     intro h4 hb
     obtain ⟨c, us, t', h5, h6, h7, h8, h9⟩ := hb
     have h10 : ∀ x ∈ cs, SafeP k x := by cases h4; assumption
     exact ⟨c, us, t', h5, by rw [hpk.root c ⟨i, 0, by rw [hBi]; rfl, h5⟩]; exact h6, h7, h8, fun n hn' => (h9 n hn').poke hpk (h10 _ (List.getElem_mem _))⟩
    | arr e' dp ys =>
     intro h4 hb
     obtain ⟨he', hb⟩ := hb
     refine ⟨he', ?_⟩
     cases hμi : μ i with
     | none => simpa only [hμi] using hb
     | some cd =>
      obtain ⟨c, d'⟩ := cd
      simp only [hμi] at hb ⊢
      obtain ⟨us, t', Gs, els2, h5, h6, h7, h8⟩ := hb
      refine ⟨us, t', Gs, els2, by rw [hpk.root c ⟨i, d', by rw [hBi]; rfl, hμi⟩]; exact h5, ⟨h6.len, h6.fl, h6.fit, h6.nc, fun n hn' => ?_, h6.sz, h6.cell⟩, fun z hz hr' => h7 z hz (hpk.sub z hr'), fun hd => ⟨(h8 hd).1, fun z hz => ⟨((h8 hd).2 z hz).1, ((h8 hd).2 z hz).2.1, hpk.pl z ((h8 hd).2 z hz).2.2⟩⟩⟩
      cases h4 with
      | deep =>
       refine (h6.el n hn').keeps hkeepq fun z hz hm => ?_
       simp at hm; subst hm
       have h9 := ((h8 rfl).2 _ (Zad _ hz)).1
       rw [(hwho _ hqfl).1] at h9
       exact e (Option.some.inj h9).symm
      | arr _ _ _ hno => exact (h6.el n hn').poke hpk.c hpk.i hpk.f hpk.s (hno _ (List.getElem_mem _))
   ·rw [h3]; trivial
 ·have hbase := h.base i c d1 (hlive i hi) hc
  refine ⟨hbase.1.kind fun ⟨cs, hcs⟩ => ?_, by rw [hpk.s]; exact hbase.2⟩
  by_cases e : i = id
  ·subst e; rw [hid] at hcs; cases hcs
  ·rcases ho i e with h3 | h3
   ·exact ⟨cs, by rw [h3.1]; exact hcs⟩
   ·rw [h3.1] at hi; cases hi
 ·exact h.keep.none_of (B := .dead) (.inl hnew) hkeepq
 ·rcases hs t with e | ⟨e, _⟩
  ·rw [e] at hx; cases hx
  ·rw [e] at hx; exact h.old.1 t x (by rw [← hn]; exact hp) hx
end Go.Proofs.YtnieejghoaccmaaGreat

