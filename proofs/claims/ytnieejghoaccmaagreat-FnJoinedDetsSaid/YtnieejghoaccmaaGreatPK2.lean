/- A region that ends with x[i] and a store into it: the operations ahead of these two first, in whatever order. Over any program; the table is right ('TabOk'). -/
import Derived.Test.YtnieejghoaccmaaGreatPK1
namespace Go.Proofs.YtnieejghoaccmaaGreat
open Go.RowKit
open Shp
variable {w : World} {S : AState} {a : Act} {o1 o2 o : Oper} {Q : Exit → Act → World → Prop} {id : Nat} {l0 : List Oper}
section
variable {P : Program} {tab : Tab}
theorem Zjx  (ht : TabOk P tab) {t : TypeId} {ti : TI} (hti : tab t = some ti) (hz : ti.size = 1) {p : Addr} (hs : p.spot = none) {v : Value} (hv : v.oneCell' = true) (hc : (w.cell? p).isSome = true) (hf : w.frozen? p = false) :
  (Instr.storeAt t (.pointer (some p)) v).run P w = .ok () (w.setCell p v) := by
 obtain ⟨b, o, s⟩ := p
 simp only at hs
 subst hs
 have hst := run_storeCells_cells (P := P) b o [v] 0 w (fun j hj => by
   have : j = 0 := by simp at hj; omega
   subst this; simpa using hc) (fun j hj => by
     have : j = 0 := by simp at hj; omega
     subst this; simpa using hf) (by simpa using hv)
 simp only [Nat.add_zero, World.setCells] at hst
 simp [Instr.storeAt, Instr.sureAddr, storeVar, ht.sizeOf hti, ZeH hv, hz, hst]
structure ZnI (tab : Tab) (S S' : AState) (o1 o2 : Oper) : Prop where
 run : ∃ tp T E x ix t yo sz e z ei ti ad cap row xs id kk j kq y k, o1.dst = some tp ∧ o1.op = .indexAddr T x ix ∧ o1.guard = none ∧ o2.dst = none ∧ o2.op = .store t (.tmp tp) yo ∧ o2.guard = none ∧ tab T = some ⟨sz, .sl E, z⟩ ∧ tab E = some ei ∧ ei.size = 1 ∧ tab t = some ti ∧ ti.size = 1 ∧
  hasB tp S.n = true ∧ S.ev tab 0 x = .g (.ex (.slice (some ad) (List.length row) cap) 1 e) ∧ S.ev tab 0 ix = .g (.int kq (j : Nat)) ∧ (S.put (some tp) .undef).ev tab t yo = .g y ∧ y.atom = true ∧
  S.heap id = .arr 1 true xs ∧ xs[kk]? = some (.ex (.slice (some ad) row.length cap) 1 row) ∧ (∃ hj : j < row.length, kg k row[j] = true) ∧ (∀ x ∈ row, x.atom = true) ∧ S'.n = S.n ∧ (∀ s, S'.slots s = .undef ∨ (S'.slots s = (S.put (some tp) .undef).slots s ∧ SafeP k (S'.slots s))) ∧
  S'.heap id = .arr 1 true (xs.set kk (.sl 1 (row.set j y))) ∧ ∀ i, i ≠ id → (S'.heap i = S.heap i ∧ SafeB k (S.heap i)) ∨ (S'.heap i = .dead ∧ S.heap i ≠ .free)
theorem ZqO (ht : TabOk P tab) {w0 : W0} {S' : AState}    (h : Rel w0 S a w) (hp : ZnI tab S S' o1 o2)  {K : Act → World → Prop} (hK : ∀ a w, Rel w0 S' a w → K a w) :
  o1.wp P a w (fun a' w' => o2.wp P a' w' K Q) Q ∧ o1.guard = none ∧ o2.guard = none := by
 obtain ⟨tp, T, E, x, ix, t, yo, sz, e, z, ei, ti, ad, cap, row, xs, id, kk, j, kq, y, k, p1, p2, p3, p4, p5, p6, p7, p8, p9, p10, p11, p12, p13, p14, p15, p16, p17, p18, ⟨p19, p20⟩, p21, p22, p23, p24, p25⟩ := hp.run
 refine ⟨?_, p3, p6⟩
 obtain ⟨μ, who, h⟩ := h
 have hx := h.ev tab 0 x
 rw [p13] at hx
 obtain ⟨F, hg, _⟩ := hx.g_inv
 have hxv := hg.unex.1
 have hi := h.ev tab 0 ix
 rw [p14] at hi
 have hiv := hi.int_inv
 obtain ⟨inf, z', d, hto⟩ := ht T _ p7
 have hkd := hto.kind
 obtain ⟨rfl, _⟩ := hkd
 have r1 : (execOp a.eval o1).run P w = .ok (.value (.pointer (some (ad.add j)))) w := by
  unfold execOp
  have h0 : (0 : Int) ≤ (j : Int) := Int.natCast_nonneg j
  have h1 : (j : Int) < (row.length : Int) := by exact_mod_cast p19
  simp [p2, hxv, hiv, Instr.indexAt, asIntOf, run_underlying hto.desc, h0, p19, ht.sizeOf p8, p9]
 unfold Oper.wp
 rw [r1]
 simp only [Oper.upon, p1]
 have hh1 : RelAt w0 (S.put (some tp) .undef) (a.put (some tp) (.pointer (some (ad.add j)))) w μ who := h.put (dst := some tp) p12 (.undef _)
 have hsz : tp < a.tmps.size := by
  rw [h.size]; unfold hasB at p12; simp only [Bool.and_eq_true] at p12; exact Nat.le_of_ble_eq_true p12.1
 have hev : (a.put (some tp) (.pointer (some (ad.add j)))).eval (.tmp tp) = .pointer (some (ad.add j)) := by
  show (a.put (some tp) _).tmps.getD tp Go.undef = _
  simp only [Act.put]; rw [ZhO hsz, if_pos rfl]
 have hy := hh1.ev tab t yo
 rw [p15] at hy
 have hyv : (a.put (some tp) (.pointer (some (ad.add j)))).eval yo = ZaS y := by
  obtain ⟨F, hg, _⟩ := hy.g_inv
  revert hg
  generalize (a.put (some tp) (.pointer (some (ad.add j)))).eval yo = u
  intro hg
  cases hg <;> simp [GV.atom] at p16
  rfl
 obtain ⟨q1, q2, q3, q4⟩ := hh1.poke k p17 p18 p19 p21 p20 p16 (S' := S') (by rw [p22]; rfl) (fun s => (p23 s).imp (fun hz => hz) fun hs => ⟨hs.1, by rw [← hs.1]; exact hs.2⟩) p24 p25
 have hspot : (ad.add j).spot = none := by unfold Addr.add; split <;> simp_all
 have hy1 : (ZaS y).oneCell' = true := by cases y <;> simp [GV.atom] at p16 <;> rfl
 have r2 : (execOp (a.put (some tp) (.pointer (some (ad.add j)))).eval o2).run P w = .ok .skip (w.setCell (ad.add j) (ZaS y)) := by
  unfold execOp
  simp [p5, hev, hyv, Zjx ht p10 p11 hspot hy1 q2 q3]
 rw [r2]
 simp only [p4]
 exact hK _ _ ⟨μ, who, q4⟩
theorem Zps (ht : TabOk P tab) {ops : Array Oper} {m : List Oper} {Q : Exit → Act → World → Prop} {w0 : W0} {K : AState → Prop} (hQ : ∀ S a w μ who, K S → RelAt w0 S a w μ who → wpList P ops Q m a w) :
  ∀ (os : List Oper) (i : Nat) (S : AState) (a : Act) (w : World) (μ : Lay) (who : Nat → Option Nat), AW P tab ops i os S K → RelAt w0 S a w μ who → wpList P ops Q (os ++ m) a w
 | [], _, S, a, w, μ, who, h, hr => hQ S a w μ who h hr
 | o :: os, i, S, a, w, μ, who, h, hr => by
  obtain ⟨b, hb, hd, h1, h2⟩ := h
  have hw := Zkk hr hb
  rw [List.cons_append]
  unfold wpList
  cases b with
  | true =>
   simp only [hw, if_true]
   obtain ⟨pv, ws, hs, hn⟩ := h1 rfl
   refine .inl ((hs.elim (fun hs => ZhZ ht hr hs) fun hs => ZqW hr hs).wp (by rw [Ze6]; exact hd) fun a' w' μ' who' hr' => ?_)
   exact Zps ht hQ os (i + 1) _ a' w' μ' who' hn hr'
  | false =>
   simp only [hw, Bool.false_eq_true, if_false]
   exact Zps ht hQ os (i + 1) _ _ w μ who (h2 rfl) (hr.put hd .none_)
theorem Zd3  (h : o.guard = none) (y : Nat → Option Bool) : Region.wanted o y = true := by unfold Region.wanted; rw [h]
theorem Zn8 {ops : Array Oper}     (h : o1.wp P a w (fun a' w' => o2.wp P a' w' (fun a'' w'' => Q .normal a'' w'') Q) Q ∧ o1.guard = none ∧ o2.guard = none) : wpList P ops Q [o1, o2] a w := by
 obtain ⟨h, g1, g2⟩ := h
 unfold wpList
 rw [Zd3 g1]
 refine .inl (Oper.wp_mono (fun a' w' h => ?_) h)
 unfold wpList
 rw [Zd3 g2]
 exact .inl (Oper.wp_mono (fun a'' w'' h => wpList_nil h) h)
theorem Zo5 (ht : TabOk P tab) (n : Nat)     {Q : Exit → AState → Prop} (h : AW P tab (l0 ++ [o1, o2]).toArray 0 l0 S (fun S' => ∃ S1, Le S' S1 ∧ ∃ S'', ZnI tab S1 S'' o1 o2 ∧ Q .normal (S''.on n))) : T P (.region id (l0 ++ [o1, o2]).toArray false) S Q :=
 fun w0 a w hr => by
  obtain ⟨μ, who, hr⟩ := hr
  refine wp_region_lit (Zps ht (fun S' a' w' μ' who' hq hr' => ?_) l0 0 S a w μ who h hr)
  obtain ⟨S1, hle, S'', h1, h2⟩ := hq
  exact Zn8 (ZqO ht (hle _ _ _ ⟨μ', who', hr'⟩) h1 fun a w hr => ⟨_, h2, hr.on n⟩)
def Zj9 (n : Nat) (m : List Oper) : Bool := m.all fun o => (List.range n).all fun k => o.after.toList.any fun e => Region.binds .any e && decide (e.on = k)
def Znc (n : Nat) (l : List Oper) : Bool := l.all fun o => match o.guard with
 | some (g, _) => decide (g < n)
 | none => true
theorem Zpx {m : List Oper}   (h : ∀ g b, o.guard = some (g, b) → g < l0.length) : ZcT (l0 ++ m).toArray o S = ZcT l0.toArray o S := by
 unfold ZcT
 cases hg : o.guard with
 | none => rfl
 | some gb =>
  obtain ⟨g, b⟩ := gb
  have hlt := h g b hg
  have e : (l0 ++ m).toArray[g]? = l0.toArray[g]? := by simp [List.getElem?_append_left hlt]
  simp only [e]
theorem Zmn (ht : TabOk P tab) {l0 m : List Oper} {S0 : AState} {rec : Nat → Rec} {tw : List (List Nat × List Nat)} (hI : RunI P tab l0 S0 rec tw) (ho : ordB l0 tw = true) (hg : Znc l0.length l0 = true) (hm : Zj9 l0.length m = true) {Q : Exit → Act → World → Prop} {w0 : W0}
  (hQ : ∀ (listed : Array Bool) a w μ who, listed.size = (l0 ++ m).length → (∀ j, j < l0.length → listed.getD j false = true) → (∀ j, l0.length ≤ j → listed.getD j false = false) → RelAt w0 (runA l0 rec S0 (fun _ => true) l0.length) a w μ who → wpAny P .any (l0 ++ m).toArray Q m.length listed a w) :
  ∀ (fuel : Nat) (listed : Array Bool) (U : List Nat) (a : Act) (w : World) (μ : Lay) (who : Nat → Option Nat), listed.size = (l0 ++ m).length → U.Nodup → U.length = fuel → (∀ j, j ∈ U ↔ j < l0.length ∧ listed.getD j false = false) → (∀ j, l0.length ≤ j → listed.getD j false = false) → Zmh l0 (fun j => listed.getD j false) → RelAt w0 (runA l0 rec S0 (fun j => listed.getD j false) l0.length) a w μ who →
  wpAny P .any (l0 ++ m).toArray Q (fuel + m.length) listed a w
 | 0, listed, U, a, w, μ, who, hs, hnd, hf, hU, hU2, hd, hr => by
  have hU0 : U = [] := List.eq_nil_of_length_eq_zero hf
  have hall : ∀ j, j < l0.length → listed.getD j false = true := fun j hj => by
   cases h : listed.getD j false with
   | true => rfl
   | false => have := (hU j).2 ⟨hj, h⟩; rw [hU0] at this; simp at this
  rw [Nat.zero_add]
  refine hQ listed a w μ who hs hall hU2 ?_
  rw [← Zg6 (L := fun j => listed.getD j false) (L' := fun _ => true) hall]; exact hr
 | fuel + 1, listed, U, a, w, μ, who, hs, hnd, hf, hU, hU2, hd, hr => by
  have hsl : l0.length ≤ listed.size := by rw [hs]; simp
  have hlow0 : ∀ {j}, j < l0.length → ((l0 ++ m).toArray)[j]? = l0[j]? := fun {j} hj => by simp [List.getElem?_append_left hj]
  have hne : ∃ j, j < l0.length ∧ listed.getD j false = false := by
   cases U with
   | nil => simp at hf
   | cons j U => exact ⟨j, (hU j).1 (by simp)⟩
  rw [show fuel + 1 + m.length = (fuel + m.length) + 1 by omega]
  refine ⟨fun h0 => ?_, fun i hi => ?_⟩
  ·exfalso
   have hmin : ∀ n, (∃ j, j < n ∧ j < l0.length ∧ listed.getD j false = false) → ∃ j, j < l0.length ∧ listed.getD j false = false ∧ ∀ i, i < j → listed.getD i false = true := by
    intro n
    induction n with
    | zero => rintro ⟨j, hj, _⟩; omega
    | succ n ih =>
     rintro ⟨j, hj, hjl, hjf⟩
     by_cases hex : ∃ j, j < n ∧ j < l0.length ∧ listed.getD j false = false
     ·exact ih hex
     ·refine ⟨j, hjl, hjf, fun i hi => ?_⟩
      cases h : listed.getD i false with
      | true => rfl
      | false => exact absurd ⟨i, by omega, by omega, h⟩ hex
   obtain ⟨j, hj, hjf⟩ := hne
   obtain ⟨j, hjl, hjf, hlow⟩ := hmin (j + 1) ⟨j, by omega, hj, hjf⟩
   have hoj : (l0 ++ m).toArray[j]? = some l0[j] := by rw [hlow0 hjl]; simp [hjl]
   have hmem : j ∈ Region.ready .any (l0 ++ m).toArray listed := mem_ready.2 ⟨by
    have : j < listed.size := by omega
    simpa [Array.getD, this] using hjf, l0[j], hoj, fun e he hb => hlow e.on (ZnP ho (by simp [hjl]) e he hb)⟩
   rw [h0] at hmem; simp at hmem
  ·obtain ⟨h1, o, hoi, hall⟩ := mem_ready.1 hi
   have hil : i < l0.length := by
    rcases Nat.lt_or_ge i l0.length with h | h
    ·exact h
    ·exfalso
     have hom : o ∈ m := by
      have h5 : (l0 ++ m)[i]? = some o := by simpa using hoi
      rw [List.getElem?_append_right h] at h5
      exact List.mem_of_getElem? h5
     obtain ⟨j, hj, hjf⟩ := hne
     unfold Zj9 at hm
     simp only [List.all_eq_true, List.any_eq_true, Bool.and_eq_true, decide_eq_true_eq, List.mem_range] at hm
     obtain ⟨e, he, hb, rfl⟩ := hm o hom j hj
     have := hall e (by simpa using he) hb
     rw [hjf] at this; cases this
   have hoi' : l0[i]? = some o := by rw [hlow0 hil] at hoi; exact hoi
   have hno : listed.getD i false = false := ZdM h1
   have hrd : ZjY l0 (fun j => listed.getD j false) i := fun o' ho' e he hb => by
    rw [hoi'] at ho'; cases ho'
    exact hall e he hb
   obtain ⟨c1, c2, c3⟩ := Zpe hI ho hd hoi' hno hrd
   obtain ⟨f1, f2, f3, f4⟩ := hI.all i o hoi'
   have hlt : i < listed.size := by omega
   have hset : ∀ j, (listed.setIfInBounds i true).getD j false = if j = i then true else listed.getD j false := fun j => by
    by_cases e : j = i
    ·subst e; simp [Array.getD, hlt]
    ·simp only [Array.getD, Array.size_setIfInBounds, e, if_false]
     split
     ·rw [Array.getInternal_eq_getElem, Array.getInternal_eq_getElem, Array.getElem_setIfInBounds_ne _ (by omega)]
     ·rfl
   have hL : (fun j => (listed.setIfInBounds i true).getD j false) = fun j => if j = i then true else listed.getD j false := funext hset
   have hwant0 : ZcT l0.toArray o (runA l0 rec S0 (fun j => listed.getD j false) l0.length) = some (rec i).on := by
    rw [← f1]
    unfold ZcT
    cases hg : o.guard with
    | none => rfl
    | some gb =>
     obtain ⟨g, b⟩ := gb
     simp only
     cases hgd : (l0.toArray[g]?).bind (·.dst) with
     | none => rfl
     | some d =>
      simp only
      rw [c1 d (by unfold Oper.looksAt; simp only [hg, hgd]; exact List.mem_append.2 (.inr (by simp)))]
   have hwant : ZcT (l0 ++ m).toArray o (runA l0 rec S0 (fun j => listed.getD j false) l0.length) = some (rec i).on := by
    rw [Zpx, hwant0]
    intro g b hgb
    unfold Znc at hg
    have := List.all_eq_true.1 hg o (List.mem_of_getElem? hoi')
    rw [hgb] at this
    simpa using this
   have hw := Zkk hr hwant
   have hhas : (runA l0 rec S0 (fun j => listed.getD j false) l0.length).has o.dst = true := by
    have := (Zez (l := l0) (rec := rec) (S0 := S0) (fun j => listed.getD j false) l0.length).1
    cases hd' : o.dst with
    | none => rfl
    | some d => rw [hd'] at f2; simp only [AState.has] at f2 ⊢; rw [this]; exact f2
   have hU' : ∀ j, j ∈ U.erase i ↔ j < l0.length ∧ (listed.setIfInBounds i true).getD j false = false := fun j => by
    rw [hnd.mem_erase_iff, hU, hset]
    by_cases e : j = i
    ·subst e; simp
    ·simp [e]
   have hU2' : ∀ j, l0.length ≤ j → (listed.setIfInBounds i true).getD j false = false := fun j hj => by
    rw [hset, if_neg (by omega)]; exact hU2 j hj
   have hiU : i ∈ U := (hU i).2 ⟨hil, hno⟩
   have hlen : (U.erase i).length = fuel := by rw [List.length_erase_of_mem hiU]; omega
   have hd2 : Zmh l0 (fun j => (listed.setIfInBounds i true).getD j false) := by
    intro j oj hj hLj e he hb
    simp only [hset] at hLj ⊢
    by_cases e1 : e.on = i
    ·simp [e1]
    ·rw [if_neg e1]
     by_cases e2 : j = i
     ·subst e2
      rw [hoi'] at hj; cases hj
      exact hall e he hb
     ·rw [if_neg e2] at hLj
      exact hd j oj hj hLj e he hb
   have next : ∀ a' w' μ' who', RelAt w0 ((rec i).app o.dst (runA l0 rec S0 (fun j => listed.getD j false) l0.length)) a' w' μ' who' → wpAny P .any (l0 ++ m).toArray Q (fuel + m.length) (listed.setIfInBounds i true) a' w' := fun a' w' μ' who' hr' =>
    Zmn ht hI ho hg hm hQ fuel _ (U.erase i) a' w' μ' who' (by simpa using hs) (hnd.erase i) hlen hU' hU2' hd2 (by rw [hL, c3]; exact hr')
   unfold wpOp
   simp only [hoi]
   cases hon : (rec i).on with
   | true =>
    rw [hon] at hw
    simp only [hw, if_true]
    obtain ⟨s1, s2⟩ := f3 hon
    have hst := Zmo ht s1 (fun x hx t e => c1 t (Znn ⟨x, hx, e⟩)) (fun id hid => c2 id (by rw [s2]; exact hid)) hr
    exact .inl (hst.wp (by rw [Ze6]; exact hhas) next)
   | false =>
    rw [hon] at hw
    simp only [hw, Bool.false_eq_true, if_false]
    obtain ⟨s1, s2, s3⟩ := f4 hon
    refine next _ w μ who ?_
    have e : (rec i).app o.dst (runA l0 rec S0 (fun j => listed.getD j false) l0.length) = (runA l0 rec S0 (fun j => listed.getD j false) l0.length).put o.dst .none_ := by
     unfold Rec.app; rw [s1, s2]; rfl
    rw [e]
    exact hr.put hhas .none_
theorem ZqN  (hb1 : o1.after.all (fun e => !Region.binds .any e || decide (e.on < l0.length)) = true) (hb2 : o2.after.all (fun e => !Region.binds .any e || decide (e.on < l0.length + 1)) = true)
  (hw2 : Zj9 (l0.length + 1) [o2] = true) {listed : Array Bool} (hs : listed.size = (l0 ++ [o1, o2]).length) (hall : ∀ j, j < l0.length → listed.getD j false = true) (hno : ∀ j, l0.length ≤ j → listed.getD j false = false)
  (h : o1.wp P a w (fun a' w' => o2.wp P a' w' (fun a'' w'' => Q .normal a'' w'') Q) Q ∧ o1.guard = none ∧ o2.guard = none) : wpAny P .any (l0 ++ [o1, o2]).toArray Q 2 listed a w := by
 obtain ⟨h, g1, g2⟩ := h
 have hsz : listed.size = l0.length + 2 := by rw [hs]; simp
 have hg1 : (l0 ++ [o1, o2]).toArray[l0.length]? = some o1 := by simp
 have hg2 : (l0 ++ [o1, o2]).toArray[l0.length + 1]? = some o2 := by simp
 have hg3 : ∀ j o, (l0 ++ [o1, o2]).toArray[j]? = some o → j < l0.length ∨ j = l0.length ∨ j = l0.length + 1 := fun j o hj => by
  have := (Array.getElem?_eq_some_iff.1 hj).1
  simp at this; omega
 have hset : ∀ {ls : Array Bool} {i}, i < ls.size → ∀ j d, (ls.setIfInBounds i true).getD j d = if j = i then true else ls.getD j d := fun {ls i} hlt j d => by
  by_cases e : j = i
  ·subst e; simp [Array.getD, hlt]
  ·simp only [Array.getD, Array.size_setIfInBounds, e, if_false]
   split
   ·rw [Array.getInternal_eq_getElem, Array.getInternal_eq_getElem, Array.getElem_setIfInBounds_ne _ (by omega)]
   ·rfl
 have hgd : ∀ j d, j < listed.size → listed.getD j d = listed.getD j false := fun j d hj => by simp [Array.getD, hj]
 have hnow : l0.length ∈ Region.ready .any (l0 ++ [o1, o2]).toArray listed := mem_ready.2 ⟨by rw [hgd _ _ (by omega)]; exact hno _ (Nat.le_refl _), o1, hg1, fun e he hb => by
  have := Array.all_eq_true'.1 hb1 e he
  rw [hb] at this
  exact hall _ (by simpa using this)⟩
 refine ⟨fun h0 => by rw [h0] at hnow; simp at hnow, fun i hi => ?_⟩
 obtain ⟨h1, o, hoi, hr⟩ := mem_ready.1 hi
 unfold Zj9 at hw2
 simp only [List.all_cons, List.all_nil, Bool.and_true, List.all_eq_true, List.any_eq_true, Bool.and_eq_true, decide_eq_true_eq, List.mem_range] at hw2
 have hi1 : i = l0.length := by
  rcases hg3 i o hoi with h5 | h5 | h5
  ·exfalso
   have h6 := hall i h5
   rw [ZdM h1] at h6; cases h6
  ·exact h5
  ·exfalso
   subst h5
   rw [hg2] at hoi; cases hoi
   obtain ⟨e, he, hb, he2⟩ := hw2 l0.length (by omega)
   have h6 := hr e (by simpa using he) hb
   rw [he2, hno _ (Nat.le_refl _)] at h6; cases h6
 subst hi1
 rw [hg1] at hoi; cases hoi
 unfold wpOp
 simp only [hg1]
 rw [Zd3 g1]
 simp only [if_true]
 refine .inl (Oper.wp_mono (fun a' w' h => ?_) h)
 have hs2 : ∀ j d, (listed.setIfInBounds l0.length true).getD j d = if j = l0.length then true else listed.getD j d := fun j d => hset (by omega) j d
 have hnow2 : l0.length + 1 ∈ Region.ready .any (l0 ++ [o1, o2]).toArray (listed.setIfInBounds l0.length true) := mem_ready.2 ⟨by rw [hs2, if_neg (by omega), hgd _ _ (by omega)]; exact hno _ (by omega), o2, hg2, fun e he hb => by
  have := Array.all_eq_true'.1 hb2 e he
  rw [hb] at this
  rw [hs2]
  split
  ·rfl
  ·rename_i hne
   have h7 : e.on < l0.length + 1 := by simpa using this
   exact hall _ (by omega)⟩
 refine ⟨fun h0 => by rw [h0] at hnow2; simp at hnow2, fun i hi => ?_⟩
 obtain ⟨h1, o, hoi, hr⟩ := mem_ready.1 hi
 have hi2 : i = l0.length + 1 := by
  have h6 := ZdM h1
  rw [hs2] at h6
  rcases hg3 i o hoi with h5 | h5 | h5
  ·exfalso
   rw [if_neg (by omega), hall i h5] at h6; cases h6
  ·exfalso; subst h5; simp at h6
  ·exact h5
 subst hi2
 rw [hg2] at hoi; cases hoi
 unfold wpOp
 simp only [hg2]
 rw [Zd3 g2]
 simp only [if_true]
 refine .inl (Oper.wp_mono (fun a'' w'' h => ?_) h)
 refine ⟨?_, h⟩
 rw [List.eq_nil_iff_forall_not_mem]
 intro j hj
 obtain ⟨h1, o, hoi, hr⟩ := mem_ready.1 hj
 have h6 := ZdM h1
 rw [hset (by simp; omega), hs2] at h6
 rcases hg3 j o hoi with h5 | h5 | h5
 ·rw [if_neg (by omega), if_neg (by omega), hall j h5] at h6; cases h6
 ·subst h5; simp at h6
 ·subst h5; simp at h6
def ZmA (n : Nat) (l0 : List Oper) (o1 o2 : Oper) : Bool := Znc n l0 && Zj9 n [o1, o2] && o1.after.all (fun e => !Region.binds .any e || decide (e.on < n)) && o2.after.all (fun e => !Region.binds .any e || decide (e.on < n + 1)) && Zj9 (n + 1) [o2]
theorem Zq2 (ht : TabOk P tab) (n : Nat) (hm : P.follows .mixedOrders = true)    (hb : ZmA l0.length l0 o1 o2 = true)  {Q : Exit → AState → Prop} (h : AD P tab l0.toArray 0 l0 S [] (fun S' tw => ordB l0 tw = true ∧ ∃ S1, Le S' S1 ∧ ∃ S'', ZnI tab S1 S'' o1 o2 ∧ Q .normal (S''.on n))) :
  T P (.region id (l0 ++ [o1, o2]).toArray true) S Q :=
 fun w0 a w hr => by
  unfold ZmA at hb
  simp only [Bool.and_eq_true] at hb
  obtain ⟨⟨⟨⟨b1, b2⟩, b3⟩, b4⟩, b5⟩ := hb
  obtain ⟨μ, who, hr⟩ := hr
  obtain ⟨rs, tw, S', h1, ho, hq⟩ := ZnJ l0 0 S [] h
  obtain ⟨f1, f2⟩ := ZgD (S0 := S) l0 [] [] rs [] tw S S' rfl rfl h1 rfl
  simp only [List.nil_append] at f1 f2 ho
  have hI : RunI P tab l0 S (fun k => rs.getD k default) tw := ⟨fun k o hk => f1 k o (by simp) hk⟩
  refine wp_region_any hm ?_
  have hlis : ∀ j, (Array.replicate (l0 ++ [o1, o2]).length false).getD j false = false := fun j => by simp [Array.getD]
  have hrun : ∀ k, runA l0 (fun k => rs.getD k default) S (fun j => (Array.replicate (l0 ++ [o1, o2]).length false).getD j false) k = S := fun k => by
   induction k with
   | zero => rfl
   | succ k ih => unfold runA; rw [hlis]; simpa using ih
  obtain ⟨S1, hle, S'', q1, q2⟩ := hq
  have := Zmn (Q := fun e a' w' => ∃ S', Q e S' ∧ Rel w0 S' a' w') ht hI ho b1 b2 (w0 := w0) (fun listed a' w' μ' who' hs hall hno hr' => ZqN b3 b4 b5 hs hall hno (ZqO ht (hle _ _ _ ⟨μ', who', by rw [f2]; exact hr'⟩) q1 fun a w hr => ⟨_, q2, hr.on n⟩)) l0.length (Array.replicate (l0 ++ [o1, o2]).length false) (List.range l0.length) a { w with drawn := w.drawn + 1 } μ who (by simp) List.nodup_range (by simp) (fun j => by rw [hlis]; simp) (fun j _ => hlis j) (fun j o hj hL => by have h9 : (Array.replicate (l0 ++ [o1, o2]).length false).getD j false = true := hL; rw [hlis] at h9; cases h9) (by rw [hrun]; exact hr.keeps (Keeps.drew [] w))
  simpa using this
end
end Go.Proofs.YtnieejghoaccmaaGreat

