/- A store into a row of a list of rows of the call's own: the rules of a walk. Over any program; no conditions. -/
import Derived.Test.YtnieejghoaccmaaGreatKG
import Derived.Test.YtnieejghoaccmaaGreatJM
import Derived.Test.YtnieejghoaccmaaGreatPK2
namespace Go.Proofs.YtnieejghoaccmaaGreat
open Go.RowKit
open Shp
variable {S : AState} {id kk b rid tp E t j cap m : Nat} {dp k : Bool} {xs : List GV} {p q : PV} {l0 : List Oper} {o1 o2 : Oper} {α : Type} {x ix yo : Operand} {L : List Nat} {pos1 pos2 : String} {af1 af2 : Array Edge} {z : List PV} {ei ti : TI} {ad : Addr} {sl' : List (Nat × PV)} {A : List (List Bool)}
abbrev GV.bools (xs : List Bool) : GV := .sl 1 (xs.map GV.bool)
theorem Rel.exify {w0 : W0}  {a : Act} {w : World} (h : Rel w0 S a w)   {row : List GV} (hid : S.heap id = .arr 1 dp xs) (hk : xs[kk]? = some (.sl 1 row)) (hr : 0 < row.length) :
  ∃ ad cap, Rel w0 (S.write id (.arr 1 dp (xs.set kk (.ex (.slice (some ad) row.length cap) 1 row)))) a w := by
 obtain ⟨μ, who, h⟩ := h
 have hB := h.blk id
 rw [hid] at hB
 obtain ⟨he, hB⟩ := hB
 have hkl : kk < xs.length := (List.getElem?_eq_some_iff.1 hk).1
 have hxk : xs[kk] = .sl 1 row := (List.getElem?_eq_some_iff.1 hk).2
 cases hμ : μ id with
 | none => simp only [hμ] at hB; subst hB; simp at hkl
 | some bd =>
 obtain ⟨b, d⟩ := bd
 simp only [hμ] at hB
 obtain ⟨vs, t, Fs, els, hrow, hrr, hnr, hdp⟩ := hB
 have g0 := hrr.el kk hkl
 rw [hxk] at g0
 obtain ⟨ad', cap, els', Fs', e2, e3, hsl⟩ := g0.slice
 cases ad' with
 | none => have := hsl.nil rfl; have := hsl.le; omega
 | some ad =>
  refine ⟨ad, cap, μ, who, h.mod (by rw [hid]; rfl) hμ (Keeps.refl _ _) hrow hrow rfl rfl (fun e1 dp1 xs1 h3 => ?_) (by simp) fun hm => ⟨he, ?_⟩⟩
  ·simp only [Block.arr.injEq] at h3
   exact ⟨dp, xs, by rw [hid, h3.1]⟩
  ·simp only [hμ]
   obtain ⟨r1, r2⟩ := hrr.move hm hnr
   refine ⟨vs, t, Fs, els, hrow, ⟨by simp [hrr.len], by simp [hrr.fl], by simpa using hrr.fit, fun n hn => ?_, fun n hn => ?_, hrr.sz, hrr.cell⟩, r2, hdp⟩
   ·rw [List.getElem_set]; split
    ·rfl
    ·exact hrr.nc n (by simpa using hn)
   ·have hn2 : n < xs.length := by simpa using hn
    rw [List.getElem_set]
    split
    ·rename_i e; subst e
     have h5 := hrr.el kk hn2
     rw [hxk] at h5
     rw [e2] at h5 ⊢
     exact .ex _ _ _ _ h5
    ·exact hrr.el n hn2
inductive gKeep (k : Bool) : List (Nat × PV) → List (Nat × PV) → Prop where
 | cnil : gKeep k [] []
 | ckeep {t : Nat} {p : PV} {sl sl' : List (Nat × PV)} (hs : SafeP k p) (h2 : gKeep k sl sl') : gKeep k ((t, p) :: sl) ((t, p) :: sl')
 | cdrop {t : Nat} {p : PV} {sl sl' : List (Nat × PV)} (h2 : gKeep k sl sl') : gKeep k ((t, p) :: sl) ((t, .undef) :: sl')
theorem gKeep.s {k : Bool} {sl : List (Nat × PV)} {sl' : List (Nat × PV)} (h : gKeep k sl sl') : ∀ s, Zbl sl' s = .undef ∨ (Zbl sl' s = Zbl sl s ∧ SafeP k (Zbl sl' s)) := by
 induction h with
 | cnil => exact fun s => .inl rfl
 | ckeep hs h2 ih =>
  intro s
  simp only [Zbl]
  split
  ·exact .inr ⟨rfl, hs⟩
  ·exact ih s
 | cdrop h2 ih =>
  intro s
  simp only [Zbl]
  split
  ·exact .inl rfl
  ·exact ih s
inductive gSafeH (k : Bool) (id : Nat) : List (Nat × Block) → Prop where
 | cnil : gSafeH k id []
 | cself {B : Block} {hl : List (Nat × Block)} (h : gSafeH k id hl) : gSafeH k id ((id, B) :: hl)
 | ccons {j : Nat} {B : Block} {hl : List (Nat × Block)} (hs : SafeB k B) (h : gSafeH k id hl) : gSafeH k id ((j, B) :: hl)
 | cdeadN {hl : List (Nat × Block)} (h : gSafeH k id hl) : gSafeH k id (Zbm [] hl)
 | cdeadC {i : Nat} {ks : List Nat} {hl : List (Nat × Block)} (h : gSafeH k id (Zbm ks ((i, .dead) :: hl))) : gSafeH k id (Zbm (i :: ks) hl)
theorem gSafeH.s  {hl : List (Nat × Block)} (h : gSafeH k id hl) : ∀ i, i ≠ id → SafeB k (ZaF hl i) := by
 induction h with
 | cnil => exact fun i _ => .free
 | cself h ih =>
  intro i hi
  simp only [ZaF]; rw [if_neg hi]; exact ih i hi
 | ccons hs h ih =>
  intro i hi
  simp only [ZaF]
  split
  ·exact hs
  ·exact ih i hi
 | cdeadN h ih => exact ih
 | cdeadC h ih => exact ih
theorem Zzx {n : Int} : NoA true (.i n) := .mk _ rfl (by simp [GV.kids])
theorem ZaE {xs : List Int} : NoA true (.ints xs) := .mk _ rfl fun y hy => by
 obtain ⟨z, _, rfl⟩ := List.mem_map.1 hy
 exact Zzx
theorem ZaI {xs : List (List Int)} : NoA true (.rows xs) := .mk _ rfl fun y hy => by
 obtain ⟨z, _, rfl⟩ := List.mem_map.1 hy
 exact ZaE
theorem ZrK {a b : List Int} : NoA true (.pair a b) := .mk _ rfl fun y hy => by
 simp only [GV.kids, List.mem_cons, List.not_mem_nil, or_false] at hy
 rcases hy with rfl | rfl <;> exact ZaE
theorem ZaA {ps : List (List Int × List Int)} : NoA true (.pairs ps) := .mk _ rfl fun y hy => by
 obtain ⟨z, _, rfl⟩ := List.mem_map.1 hy
 exact ZrK
theorem ZaB {v : Value} {e : Nat} {xs : List Int} : NoA false (.ex v e (xs.map (GV.int .u8))) := .mk _ rfl fun y hy => by
 obtain ⟨z, _, rfl⟩ := List.mem_map.1 hy
 exact .mk _ rfl (by simp [GV.kids])
theorem ZaY  (h1 : SafeP k p) (h2 : SafeP k q) : SafeP k (.agg [p, q]) := .agg _ fun x hx => by
 simp only [List.mem_cons, List.not_mem_nil, or_false] at hx
 rcases hx with rfl | rfl <;> assumption
theorem Ze9  (h1 : SafeP k p) : SafeB k (.box [p]) := .box _ fun x hx => by
 simp only [List.mem_cons, List.not_mem_nil, or_false] at hx
 subst hx; exact h1
theorem Zfa  (h1 : SafeP k p) (h2 : SafeP k q) : SafeB k (.box [p, q]) := .box _ fun x hx => by
 simp only [List.mem_cons, List.not_mem_nil, or_false] at hx
 rcases hx with rfl | rfl <;> assumption
theorem Zfg  {r : PV} (h1 : SafeP k p) (h2 : SafeP k q) (h3 : SafeP k r) : SafeB k (.box [p, q, r]) := .box _ fun x hx => by
 simp only [List.mem_cons, List.not_mem_nil, or_false] at hx
 rcases hx with rfl | rfl | rfl <;> assumption
inductive gSPL : List Oper → List Oper → Oper → Oper → Prop where
 | ctwo (o1 o2 : Oper) : gSPL [o1, o2] [] o1 o2
 | ccons {o : Oper} {l l0 : List Oper} {o1 o2 : Oper} (h : gSPL l l0 o1 o2) : gSPL (o :: l) (o :: l0) o1 o2
theorem gSPL.e {l : List Oper}  (h : gSPL l l0 o1 o2) : l = l0 ++ [o1, o2] := by
 induction h with
 | ctwo => rfl
 | ccons h ih => rw [ih]; rfl
theorem ZmS {n : Nat}   (h : ZmA n l0 o1 o2 = true) : RF (ZmA n l0 o1 o2 = true) := RF.mk h
def Zk9 (tab : Tab) (L : List Nat) (o1 o2 : Oper) (Q : Exit → AState → Prop) : Exit → AState → Prop := fun _ S => ∃ S'', ZnI tab S S'' o1 o2 ∧ upQ Q .normal S''
section
variable {lv : Nat → List Nat} {P : Program} {tab : Tab} {n : Nat} {sl : List (Nat × PV)} {hl : List (Nat × Block)} {Q : Exit → AState → Prop}
theorem ZyP  (h : upQ Q .normal S) : upQ Q .normal (S.on 512) := by
 obtain ⟨S', h1, h2⟩ := h
 refine ⟨S', h1, fun w0 a w hr => h2 _ _ _ ?_⟩
 obtain ⟨μ, who, h⟩ := hr
 exact ⟨μ, who, h.size, h.slot, h.dfr, h.blk, h.inj, h.base, h.keep, h.old⟩
theorem T_ex {P : Program} {c : Code}  {Q : Exit → AState → Prop}   {row : List GV} (hid : S.heap id = .arr 1 dp xs) (hk : xs[kk]? = some (.sl 1 row)) (hr : 0 < row.length)
  (h : ∀ ad cap, T P c (S.write id (.arr 1 dp (xs.set kk (.ex (.slice (some ad) row.length cap) 1 row)))) Q) : T P c S Q := fun w0 a w hrel => by
 obtain ⟨ad, cap, h1⟩ := hrel.exify hid hk hr
 exact h ad cap w0 a w h1
theorem Zjd (rid : Nat) {l : Array Oper} {dr : Bool} (h : TX lv P tab (.region rid l dr) n sl hl Q) : TX lv P tab (.region rid l dr) n sl hl Q := h
theorem Ztg  [Inhabited α] {A : List α} {f : α → GV}  (h : kk < A.length) : (A.map f)[kk]? = some (f (nth A kk)) := by
 rw [List.getElem?_map, List.getElem?_eq_getElem h, Zbu h]; rfl
theorem Zp6  {k : Nat} {x : GV} (h : k < xs.length) : (xs.set k x)[k]? = some x := by simp [h]
theorem ZhP  {A : List α} {f : α → GV} {k : Nat} {x : GV} (h : k < A.length) : ((A.map f).set k x)[k]? = some x := Zp6 (by simpa using h)
theorem ZlV (ht : TabOk P tab)  {l : List Oper}   {f : List α → GV} {g : α → GV} (hf : ∀ r, f r = .sl 1 (r.map g)) (b kk : Nat) {A : List (List α)} (hsp : gSPL l l0 o1 o2) (hb : gHL hl b (.arr 1 true (A.map f))) (hn : NU (kk < A.length ∧ 0 < (nth A kk).length))
  (h : ∀ ad cap, gAF false P tab l.toArray n (4096 * rid + 4096) l0 (lv rid) (Zk9 tab (lv rid) o1 o2 Q) 0 l0 sl ((b, .arr 1 true ((A.map f).set kk (.ex (.slice (some ad) ((nth A kk).map g).length cap) 1 ((nth A kk).map g)))) :: hl) []) : TX lv P tab (.region rid l.toArray false) n sl hl Q := by
 obtain ⟨n1, n2⟩ := hn.e
 refine T_ex (S := mkX n sl hl 0) (id := b) (kk := kk) (dp := true) (xs := A.map f) (row := (nth A kk).map g) hb.s.e (by rw [Ztg n1, hf]) (by simpa using n2) fun ad cap => ?_
 have h2 := (h ad cap).s.run
 have e := hsp.e
 subst e
 refine Zs4 (T.le (S' := mkX n sl ((b, .arr 1 true ((A.map f).set kk (.ex (.slice (some ad) ((nth A kk).map g).length cap) 1 ((nth A kk).map g)))) :: hl) (4096 * rid + 4096)) (fun w0 a w hr => ?_) (Zo5 ht 512 (AW_K (fun S hS => ?_) h2)))
 ·rw [show (mkX n sl hl 0).write b (.arr 1 true ((A.map f).set kk (.ex (.slice (some ad) ((nth A kk).map g).length cap) 1 ((nth A kk).map g)))) = mkX n sl ((b, .arr 1 true ((A.map f).set kk (.ex (.slice (some ad) ((nth A kk).map g).length cap) 1 ((nth A kk).map g)))) :: hl) 0 from ZhU b _] at hr
  exact Zrp _ _ _ hr
 ·obtain ⟨S1, ⟨S'', h3, h4⟩, h5⟩ := NK.run (L := lv rid) hS
  exact ⟨S1, h5, S'', h3, ZyP h4⟩
theorem Zl9 (ht : TabOk P tab) (hm : P.follows .mixedOrders = true)  {l : List Oper}   {f : List α → GV} {g : α → GV} (hf : ∀ r, f r = .sl 1 (r.map g)) (b kk : Nat) {A : List (List α)} (hsp : gSPL l l0 o1 o2) (ho : RF (ZmA l0.length l0 o1 o2 = true)) (hb : gHL hl b (.arr 1 true (A.map f))) (hn : NU (kk < A.length ∧ 0 < (nth A kk).length))
  (h : ∀ ad cap, gAF true P tab l0.toArray n (4096 * rid + 4096) l0 (lv rid) (Zk9 tab (lv rid) o1 o2 Q) 0 l0 sl ((b, .arr 1 true ((A.map f).set kk (.ex (.slice (some ad) ((nth A kk).map g).length cap) 1 ((nth A kk).map g)))) :: hl) []) : TX lv P tab (.region rid l.toArray true) n sl hl Q := by
 obtain ⟨n1, n2⟩ := hn.e
 refine T_ex (S := mkX n sl hl 0) (id := b) (kk := kk) (dp := true) (xs := A.map f) (row := (nth A kk).map g) hb.s.e (by rw [Ztg n1, hf]) (by simpa using n2) fun ad cap => ?_
 have h2 := (h ad cap).s.run
 have e := hsp.e
 subst e
 refine Zs4 (T.le (S' := mkX n sl ((b, .arr 1 true ((A.map f).set kk (.ex (.slice (some ad) ((nth A kk).map g).length cap) 1 ((nth A kk).map g)))) :: hl) (4096 * rid + 4096)) (fun w0 a w hr => ?_) (Zq2 ht 512 hm ho.e (AD_K (fun S tw hS => ?_) h2)))
 ·rw [show (mkX n sl hl 0).write b (.arr 1 true ((A.map f).set kk (.ex (.slice (some ad) ((nth A kk).map g).length cap) 1 ((nth A kk).map g)))) = mkX n sl ((b, .arr 1 true ((A.map f).set kk (.ex (.slice (some ad) ((nth A kk).map g).length cap) 1 ((nth A kk).map g)))) :: hl) 0 from ZhU b _] at hr
  exact Zrp _ _ _ hr
 ·obtain ⟨S1, ⟨S'', h3, h4⟩, h5⟩ := NK.run (L := lv rid) hS.2
  exact ⟨hS.1, S1, h5, S'', h3, ZyP h4⟩
theorem Znu  {T ty1 ty2 : Nat}    (k : Bool)  [Inhabited α] {f : List α → GV} {g : α → GV} {sz : Nat}    {A : List (List α)} {B : List α} {e : List GV} {q : IntKind} {yv : α} 
  (hx : gEV sl tab 0 x (.g (.ex (.slice (some ad) (B.map g).length cap) 1 e))) (hi : gEV sl tab 0 ix (.g (.int q (j : Int)))) (hy : gEV ((tp, .undef) :: sl) tab t yo (.g (g yv))) (hb : gHL hl b (.arr 1 true ((A.map f).set kk (.ex (.slice (some ad) (B.map g).length cap) 1 (B.map g)))))
  (hf : ∀ r, f r = .sl 1 (r.map g)) (hg : ∀ y, (g y).atom = true ∧ kg k (g y) = true) (hT : RF (tab T = some ⟨sz, .sl E, z⟩ ∧ tab E = some ei ∧ ei.size = 1 ∧ tab t = some ti ∧ ti.size = 1)) (hd : RF (hasB tp n = true)) (hn : NU (kk < A.length ∧ j < B.length))
  (hs : gKeep k ((tp, .undef) :: sl) sl') (hh : gSafeH k b hl) (h : QA Q .normal n sl' ((b, .arr 1 true ((A.set kk (B.set j yv)).map f)) :: hl)) :
  QA (Zk9 tab L ⟨some tp, .indexAddr T x ix, ty1, pos1, af1, none⟩ ⟨none, .store t (.tmp tp) yo, ty2, pos2, af2, none⟩ Q) .normal n sl hl := by
 obtain ⟨n1, n2⟩ := hn.e
 obtain ⟨t1, t2, t3, t4, t5⟩ := hT.e
 have hkl : kk < (A.map f).length := by simpa using n1
 refine ⟨mkX n sl' ((b, .arr 1 true ((A.set kk (B.set j yv)).map f)) :: hl) 0, ⟨tp, T, E, x, ix, t, yo, sz, e, z, ei, ti, ad, cap, B.map g, (A.map f).set kk (.ex (.slice (some ad) (B.map g).length cap) 1 (B.map g)), b, kk, j, q, g yv, k, rfl, rfl, rfl, rfl, rfl, rfl, t1, t2, t3, t4, t5, hd.e, hx.s.e _ _ _, hi.s.e _ _ _, ?_, (hg yv).1, hb.s.e, Zp6 hkl, ⟨by simpa using n2, by simpa using (hg _).2⟩, fun y hy => ?_, rfl, ?_, ?_, fun i hi' => ?_⟩, ⟨_, h.run, fun _ _ _ hr => hr⟩⟩
 ·rw [ZmE]; exact hy.s.e _ _ _
 ·obtain ⟨u, _, rfl⟩ := List.mem_map.1 hy; exact (hg u).1
 ·rw [ZmE]; exact hs.s
 ·show (if b = b then _ else _) = _
  rw [if_pos rfl, List.set_set, List.map_set, hf, List.map_set]
 ·refine .inl ⟨?_, hh.s i hi'⟩
  show (if i = b then _ else _) = _
  rw [if_neg hi']; rfl
abbrev exB (A : List (List Bool)) (kk : Nat) (ad : Addr) (cap : Nat) : List GV := (A.map GV.bools).set kk (.ex (.slice (some ad) ((nth A kk).map GV.bool).length cap) 1 ((nth A kk).map GV.bool))
abbrev exI (A : List (List Int)) (kk : Nat) (ad : Addr) (cap : Nat) : List GV := (A.map GV.ints).set kk (.ex (.slice (some ad) ((nth A kk).map GV.i).length cap) 1 ((nth A kk).map GV.i))
theorem Ze5 (ht : TabOk P tab)  {l : List Oper}  (b kk : Nat)  (hsp : gSPL l l0 o1 o2) (hb : gHL hl b (.arr 1 true (A.map GV.bools))) (hn : NU (kk < A.length ∧ 0 < (nth A kk).length))
  (h : ∀ ad cap, gAF false P tab l.toArray n (4096 * rid + 4096) l0 (lv rid) (Zk9 tab (lv rid) o1 o2 Q) 0 l0 sl ((b, .arr 1 true (exB A kk ad cap)) :: hl) []) : TX lv P tab (.region rid l.toArray false) n sl hl Q := ZlV ht (f := GV.bools) (g := GV.bool) (fun _ => rfl) b kk hsp hb hn h
theorem Ze3 (ht : TabOk P tab) (hm : P.follows .mixedOrders = true)  {l : List Oper}  (b kk : Nat)  (hsp : gSPL l l0 o1 o2) (ho : RF (ZmA l0.length l0 o1 o2 = true)) (hb : gHL hl b (.arr 1 true (A.map GV.bools))) (hn : NU (kk < A.length ∧ 0 < (nth A kk).length))
  (h : ∀ ad cap, gAF true P tab l0.toArray n (4096 * rid + 4096) l0 (lv rid) (Zk9 tab (lv rid) o1 o2 Q) 0 l0 sl ((b, .arr 1 true (exB A kk ad cap)) :: hl) []) : TX lv P tab (.region rid l.toArray true) n sl hl Q := Zl9 ht hm (f := GV.bools) (g := GV.bool) (fun _ => rfl) b kk hsp ho hb hn h
theorem Zn7 (ht : TabOk P tab)  {l : List Oper}  (b kk : Nat) {A : List (List Int)} (hsp : gSPL l l0 o1 o2) (hb : gHL hl b (.arr 1 true (A.map GV.ints))) (hn : NU (kk < A.length ∧ 0 < (nth A kk).length))
  (h : ∀ ad cap, gAF false P tab l.toArray n (4096 * rid + 4096) l0 (lv rid) (Zk9 tab (lv rid) o1 o2 Q) 0 l0 sl ((b, .arr 1 true (exI A kk ad cap)) :: hl) []) : TX lv P tab (.region rid l.toArray false) n sl hl Q := ZlV ht (f := GV.ints) (g := GV.i) (fun _ => rfl) b kk hsp hb hn h
theorem Zof (ht : TabOk P tab) (hm : P.follows .mixedOrders = true)  {l : List Oper}  (b kk : Nat) {A : List (List Int)} (hsp : gSPL l l0 o1 o2) (ho : RF (ZmA l0.length l0 o1 o2 = true)) (hb : gHL hl b (.arr 1 true (A.map GV.ints))) (hn : NU (kk < A.length ∧ 0 < (nth A kk).length))
  (h : ∀ ad cap, gAF true P tab l0.toArray n (4096 * rid + 4096) l0 (lv rid) (Zk9 tab (lv rid) o1 o2 Q) 0 l0 sl ((b, .arr 1 true (exI A kk ad cap)) :: hl) []) : TX lv P tab (.region rid l.toArray true) n sl hl Q := Zl9 ht hm (f := GV.ints) (g := GV.i) (fun _ => rfl) b kk hsp ho hb hn h
structure PKT (tab : Tab) (T t : Nat) : Prop where
 h : ∃ sz E z ei ti, tab T = some ⟨sz, .sl E, z⟩ ∧ tab E = some ei ∧ ei.size = 1 ∧ tab t = some ti ∧ ti.size = 1
theorem Zn5 {T sz : Nat}   (h1 : tab T = some ⟨sz, .sl E, z⟩) (h2 : tab E = some ei) (h3 : ei.size = 1) (h4 : tab t = some ti) (h5 : ti.size = 1) : PKT tab T t := ⟨⟨sz, E, z, ei, ti, h1, h2, h3, h4, h5⟩⟩
theorem ZiC  {T ty1 ty2 : Nat}       {e : List GV} {q : IntKind} {yv : Bool}  
  (hx : gEV sl tab 0 x (.g (.ex (.slice (some ad) m cap) 1 e))) (hi : gEV sl tab 0 ix (.g (.int q (j : Int)))) (hy : gEV ((tp, .undef) :: sl) tab t yo (.g (.bool yv))) (hb : gHL hl b (.arr 1 true (exB A kk ad cap))) (hm : EQ m ((nth A kk).map GV.bool).length)
  (hT : PKT tab T t) (hd : RF (hasB tp n = true)) (hn : NU (kk < A.length ∧ j < (nth A kk).length))
  (hs : gKeep true ((tp, .undef) :: sl) sl') (hh : gSafeH true b hl) (h : QA Q .normal n sl' ((b, .arr 1 true ((A.set kk ((nth A kk).set j yv)).map GV.bools)) :: hl)) :
  QA (Zk9 tab L ⟨some tp, .indexAddr T x ix, ty1, pos1, af1, none⟩ ⟨none, .store t (.tmp tp) yo, ty2, pos2, af2, none⟩ Q) .normal n sl hl := by
 have em := hm.e
 subst em
 obtain ⟨sz, E, z, ei, ti, h1⟩ := hT.h
 exact Znu true (f := GV.bools) (g := GV.bool) hx hi hy hb (fun _ => rfl) (fun _ => ⟨rfl, rfl⟩) (RF.mk h1) hd hn hs hh h
theorem Zpk  {T ty1 ty2 : Nat}      {A : List (List Int)} {e : List GV} {q : IntKind} {yv : Int}   {z : Int}
  (hx : gEV sl tab 0 x (.g (.ex (.slice (some ad) m cap) 1 e))) (hi : gEV sl tab 0 ix (.g (.int q z))) (hj : EQ z (j : Int)) (hy : gEV ((tp, .undef) :: sl) tab t yo (.g (.int .i64 yv))) (hb : gHL hl b (.arr 1 true (exI A kk ad cap))) (hm : EQ m ((nth A kk).map GV.i).length)
  (hT : PKT tab T t) (hd : RF (hasB tp n = true)) (hn : NU (kk < A.length ∧ j < (nth A kk).length))
  (hs : gKeep false ((tp, .undef) :: sl) sl') (hh : gSafeH false b hl) (h : QA Q .normal n sl' ((b, .arr 1 true ((A.set kk ((nth A kk).set j yv)).map GV.ints)) :: hl)) :
  QA (Zk9 tab L ⟨some tp, .indexAddr T x ix, ty1, pos1, af1, none⟩ ⟨none, .store t (.tmp tp) yo, ty2, pos2, af2, none⟩ Q) .normal n sl hl := by
 have em := hm.e
 subst em
 have ej := hj.e
 subst ej
 obtain ⟨sz, E, z, ei, ti, h1⟩ := hT.h
 exact Znu false (f := GV.ints) (g := GV.i) hx hi hy hb (fun _ => rfl) (fun _ => ⟨rfl, rfl⟩) (RF.mk h1) hd hn hs hh h
end
end Go.Proofs.YtnieejghoaccmaaGreat

