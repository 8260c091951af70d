/- Rows inside of data of the call's own that are appended to: the walk's rules. Over any program; the table is right ('TabOk'). -/
import Derived.Test.YtnieejghoaccmaaGreatKG
import Derived.Test.YtnieejghoaccmaaGreatJM
namespace Go.Proofs.YtnieejghoaccmaaGreat
open Go.RowKit
open Shp
variable {f : FuncId} {fn : Func} {c : Code} {m N kk rid : Nat} {rs : List ResultVar} {cs gs cs' : List GV} {r : GV} {B : List PV} {sl' : List (Nat × PV)} {α : Type} {A : List (List Int)}
theorem RelAt.lim {w0 : W0} {S : AState} {a : Act} {w : World} {μ : Lay} {who : Nat → Option Nat} (h : RelAt w0 S a w μ who) {i N : Nat} (hi : S.heap i = .free) (hN : N ≤ w0.w.heap.size) (hp : w0.p 70000 = none) : RelAt w0 (S.write i (.lim N)) a w (upd μ i none) who :=
 h.new hi (Keeps.refl _ _) (p := none) (fun b d e => by cases e) rfl fun _ => ⟨⟨hN, hp⟩, Zaj _ _ _⟩
theorem GRep.vb {w : World} {F : List Nat} {v : Value} {x : GV} (h : GRep w F v x) (hx : exOk x = true) : VB w.heap.size v := by
 intro p n cap e hc
 cases h with
 | atom x hx2 => cases x <;> simp [GV.atom] at hx2 <;> simp [ZaS] at e
 | ex v e' xs F h2 =>
  obtain ⟨a, cap', els, Fs, e1, e2, hs⟩ := h2.slice
  rw [e] at e1
  simp only [Value.slice.injEq] at e1
  obtain ⟨e3, _, rfl⟩ := e1
  exact (hs.ad p e3.symm hc).2
 | fn | agg | tup | box | sl | raw | bd => simp [exOk, GV.atom] at hx
set_option maxHeartbeats 2000000 in
theorem ZmO (lv : Nat → List Nat) {P : Program} {tab : Tab} (ht : TabOk P tab)         {sl : List (Nat × PV)}  (hf : P.funcs[f]? = some fn) (hb : fn.body = some c) (hn : fn.ntmps = m) (hrs : fn.results.toList = rs) (he : ∀ args w, (callFunc f args).run P w = .ok (.enter f args) w) (hl : (Nat.ble (gs.length + 1) m && Nat.blt m 65536) = true)
  (hok : cs.all exOk = true) (hok' : cs'.all exOk = true) (hlen : cs'.length = cs.length) (hsub : ∀ c ∈ cs', c.atom = true ∨ c ∈ cs) (hB : GL B cs)
  (hs : SG gs 1 sl) (h : ∀ N, (∀ c ∈ cs, VB N (exV c)) → TX lv P tab c (m + 65536) ((0, .ptr 0 0) :: sl) [(1, .lim N), (0, .box B)] (EndB tab rs r cs')) : BoxC P f cs gs r cs' := by
 rw [Bool.and_eq_true] at hl
 have hm : m < 65536 := Nat.le_of_ble_eq_true hl.2
 have hle := Nat.le_of_ble_eq_true hl.1
 subst hn; subst hrs
 have eB := hB.e
 subst eB
 simp only [List.all_eq_true] at hok hok'
 refine ⟨he, hok, hok', hlen, hsub, fun w b t args hal hrow hrep hg => calls_of_wp hf hb ?_⟩
 have hbl : b < w.heap.size := by
  rcases Nat.lt_or_ge b w.heap.size with h3 | h3
  ·exact h3
  ·rw [Array.getElem?_eq_none h3] at hrow; cases hrow
 have hroot : ∀ x, Root (Zfx b) (ZaF [(0, Block.box (cs.map PV.g))]) x → x = b := by
  rintro x ⟨id, d, h1, h2⟩
  unfold Zfx at h2
  split at h2
  ·simp only [Option.some.injEq, Prod.mk.injEq] at h2; exact h2.1.symm
  ·cases h2
 have hasz : (Value.pointer (some ⟨b, 0, none⟩) :: args).toArray.size = gs.length + 1 := by simp [hal]
 have hget : ∀ t, ((Value.pointer (some ⟨b, 0, none⟩) :: args).toArray ++ Array.replicate (fn.ntmps - (Value.pointer (some ⟨b, 0, none⟩) :: args).toArray.size) Go.undef).getD t Go.undef = (Value.pointer (some ⟨b, 0, none⟩) :: args).getD t Go.undef := fun t => by
  by_cases h1 : t < gs.length + 1
  ·rw [ZbF (by simp; omega), Array.getElem_append_left (by rw [hasz]; exact h1)]
   simp [List.getD, List.getElem?_eq_getElem (show t < (Value.pointer (some ⟨b, 0, none⟩) :: args).length by simp; omega)]
  ·have e1 : (Value.pointer (some ⟨b, 0, none⟩) :: args).getD t Go.undef = Go.undef := by
    simp [List.getD, List.getElem?_eq_none (show (Value.pointer (some ⟨b, 0, none⟩) :: args).length ≤ t by simp; omega)]
   rw [e1]
   by_cases h2 : t < ((Value.pointer (some ⟨b, 0, none⟩) :: args).toArray ++ Array.replicate (fn.ntmps - (Value.pointer (some ⟨b, 0, none⟩) :: args).toArray.size) Go.undef).size
   ·rw [ZbF h2, Array.getElem_append_right (by rw [hasz]; omega)]; simp
   ·simp only [Array.getD, dif_neg h2]
 have hrel : RelAt ⟨w, [b], p0 (.pointer (some ⟨b, 0, none⟩))⟩ (mkX (fn.ntmps + 65536) ((0, .ptr 0 0) :: sl) [(0, .box (cs.map PV.g))] 0) { tmps := (Value.pointer (some ⟨b, 0, none⟩) :: args).toArray ++ Array.replicate (fn.ntmps - (Value.pointer (some ⟨b, 0, none⟩) :: args).toArray.size) Go.undef, defers := [] } w (Zfx b) (fun _ => none) := by
  refine ⟨?_, fun t => ?_, rfl, fun id => ?_, fun i j b1 d d' hi hj hi2 hj2 => ?_, fun i b1 d hi hi2 => ?_, Keeps.refl _ _, fun t x hp hx => ?_, fun t v hv ht0 => ?_⟩
  ·show _ = (fn.ntmps + 65536) % 65536
   rw [Nat.add_mod_right, Nat.mod_eq_of_lt hm, Array.size_append, Array.size_replicate, hasz]; omega
  ·show PRep w (Zfx b) (ZaF [(0, Block.box (cs.map PV.g))]) _ (Zbl ((0, .ptr 0 0) :: sl) t)
   rw [hget t]
   simp only [Zbl]
   split
   ·rename_i e
    subst e
    exact .ptr _ 0 0 rfl (by simp [ZaF]) fun _ _ => ⟨b, rfl, rfl⟩
   ·rename_i e
    rcases hs.e t with e1 | ⟨x, ⟨h1, h1'⟩, h2, h3⟩
    ·rw [e1]; exact .undef _
    ·rw [h3]
     obtain ⟨k, rfl⟩ : ∃ k, t = k + 1 := ⟨t - 1, by omega⟩
     have hk : k < gs.length := by omega
     rw [show k + 1 - 1 = k by omega, List.getElem?_eq_getElem hk] at h2
     cases h2
     obtain ⟨Fk, hgk, hbk⟩ := hg k hk
     have e4 : (Value.pointer (some ⟨b, 0, none⟩) :: args).getD (k + 1) Go.undef = args[k]'(hal ▸ hk) := by simp [List.getD, List.getElem?_eq_getElem (hal ▸ hk)]
     rw [e4]
     exact .g _ _ Fk hgk fun c hc hr => hbk (hroot c hr ▸ hc)
  ·show BRep _ w (Zfx b) (ZaF [(0, Block.box (cs.map PV.g))]) (fun _ => none) id (ZaF [(0, Block.box (cs.map PV.g))] id)
   simp only [ZaF]
   split
   ·rename_i e
    subst e
    refine ⟨b, _, t, rfl, hrow, by simp, fun v hv => ?_, fun i hi => ?_⟩
    ·simp only [List.mem_map] at hv
     obtain ⟨c, hm2, rfl⟩ := hv
     obtain ⟨F, hg2, _⟩ := hrep c hm2
     exact (hg2.exv (hok c hm2)).2
    ·have hi' : i < cs.length := by simpa using hi
     have e1 : (cs.map exV).toArray.getD i Go.undef = exV cs[i] := by simp [Array.getD, hi']
     have e2 : (cs.map PV.g)[i] = .g cs[i] := by simp
     rw [e1, e2]
     obtain ⟨F, hg2, hd⟩ := hrep _ (List.getElem_mem hi')
     exact .g _ _ F hg2 fun x hx hr => hd (hroot x hr ▸ hx)
   ·trivial
  ·have key : ∀ k, (ZaF [(0, Block.box (cs.map PV.g))] k).live = true → k = 0 := fun k hk => by
    simp only [ZaF] at hk; split at hk
    ·assumption
    ·cases hk
   rw [key i hi, key j hj]
  ·have : i = 0 := by
    simp only [mkX, ZaF] at hi; split at hi
    ·assumption
    ·cases hi
   subst this
   cases hi2
   exact ⟨.inr ⟨by simp, _, rfl⟩, hbl⟩
  ·exfalso
   simp only [mkX, Zbl] at hx
   by_cases e : t = 0
   ·subst e; simp at hx
   ·have : pinned (fn.ntmps + 65536) t = false := by
     have : (fn.ntmps + 65536) / 2 ^ (16 + t) = 0 := Nat.div_eq_of_lt (Nat.lt_of_lt_of_le (by omega : fn.ntmps + 65536 < 2 ^ 17) (Nat.pow_le_pow_right (by omega) (by omega)))
     unfold pinned; rw [this]; rfl
    rw [show (mkX (fn.ntmps + 65536) ((0, .ptr 0 0) :: sl) [(0, .box (cs.map PV.g))] 0).n = fn.ntmps + 65536 from rfl, this] at hp
    cases hp
  ·have e : t = 0 := by
    simp only [p0] at hv; split at hv
    ·assumption
    ·cases hv
   subst e
   simp only [p0, if_true, Option.some.injEq] at hv
   subst hv
   exact ⟨pin0 hm, by rw [hget 0]; rfl⟩
 have fin : ∀ {S' : AState} {a' : Act} {w' : World} {μ' : Lay} {who' : Nat → Option Nat}, (outR tab S' fn.results.toList = some r ∧ ∃ id, S'.slots 0 = .ptr id 0 ∧ S'.heap id = .box (cs'.map PV.g)) → RelAt ⟨w, [b], p0 (.pointer (some ⟨b, 0, none⟩))⟩ S' a' w' μ' who' →
   a'.defers = [] ∧ ∃ v, (results fn a'.tmps).run P w' = .ok v w' ∧ (GivesW ⟨w, [b], np0⟩ r (.returned v) w' ∧ ∃ t', w'.heap[b]? = some (.cells (cs'.map exV).toArray t' (0, 0))) := by
  rintro S' a' w' μ' who' ⟨q1, id, q2, q3⟩ h2
  obtain ⟨v, r1, r2⟩ := Zn3 ht h2 q1
  refine ⟨h2.dfr, v, r1, r2, ?_⟩
  have h3 := h2.slot 0
  rw [q2] at h3
  obtain ⟨_, _, h4⟩ := h3.ptr_inv
  obtain ⟨b', h5, h6⟩ := h4 _ q3
  have h7 := (h2.old.2 0 _ rfl (by omega)).2
  rw [h6] at h7
  have hbb : b' = b := by simpa using h7
  rw [hbb] at h5
  have h8 := h2.blk id
  rw [q3] at h8
  obtain ⟨b2, vs, t', h9, h10, h11, h12, h13⟩ := h8
  rw [h5] at h9
  have hb2 : b = b2 := by simpa using h9
  rw [← hb2] at h10
  refine ⟨t', ?_⟩
  rw [h10]
  have : vs = (cs'.map exV).toArray := by
   apply Array.ext
   ·simpa using h11
   ·intro i h3 h4
    have hi : i < cs'.length := by simpa using h4
    have h14 := h13 i (by simpa using hi)
    simp only [List.getElem_map] at h14
    obtain ⟨F, hg2, _⟩ := h14.g_inv
    have := (hg2.exv (hok' _ (List.getElem_mem hi))).1
    simp only [Array.getD, dif_pos h3, Array.getInternal_eq_getElem] at this
    simpa using this
  rw [this]
 have hrel2 := hrel.lim (i := 1) (N := w.heap.size) (by simp [mkX, ZaF]) (Nat.le_refl _) (by simp [p0])
 rw [show (mkX (fn.ntmps + 65536) ((0, .ptr 0 0) :: sl) [(0, .box (cs.map PV.g))] 0).write 1 (.lim w.heap.size) = mkX (fn.ntmps + 65536) ((0, .ptr 0 0) :: sl) [(1, .lim w.heap.size), (0, .box (cs.map PV.g))] 0 from ZhU 1 _] at hrel2
 refine wp_mono ((h w.heap.size fun c hm p n cap e hc0 => ?_).run ⟨w, [b], p0 (.pointer (some ⟨b, 0, none⟩))⟩ _ w ⟨_, _, hrel2⟩) fun e a' w' ⟨S', h1, μ', who', h2⟩ => ?_
 ·obtain ⟨F, hg2, _⟩ := hrep c hm
  exact hg2.vb (hok c hm) p n cap e hc0
 cases e with
 | normal => exact fin h1 h2
 | ret => exact fin h1 h2
 | exit | goto | panic | outgrown => exact h1.elim
inductive gSepV (N : Nat) : PV → Prop where
 | cint (k : IntKind) (n : Int) : gSepV N (.g (.int k n))
 | cbool (b : Bool) : gSepV N (.g (.bool b))
 | cstr (s : ByteArray) : gSepV N (.g (.str s))
 | craw (c : Nat) (v : Value) : gSepV N (.g (.raw c v))
 | cbd (e : Nat) (xs : List GV) : gSepV N (.g (.bd N e xs))
 | cex {v : Value} {e : Nat} {bs : List Int} (h : HY (VB N v)) : gSepV N (.g (.ex v e (bs.map (GV.int .u8))))
 | cnils (e : Nat) : gSepV N (.nils e)
 | cown (id lo len : Nat) : gSepV N (.own id lo len)
 | cptr (id off : Nat) : gSepV N (.ptr id off)
 | ceptr (id i j : Nat) : gSepV N (.eptr id i j)
 | cundef : gSepV N .undef
 | cnone : gSepV N .none_
theorem gSepV.s  {p : PV} (h : gSepV N p) : Sep N p := by
 cases h with
 | cint => exact .g _ (.flat _ rfl)
 | cbool => exact .g _ (.flat _ rfl)
 | cstr => exact .g _ (.flat _ rfl)
 | craw c v => exact .g _ (.raw c v)
 | cbd e xs => exact .g _ (.bd N e xs (Nat.le_refl _))
 | cex h => exact .g _ (.ex _ _ _ h.e fun x hx => by obtain ⟨y, _, rfl⟩ := List.mem_map.1 hx; rfl)
 | cnils e => exact .nils e
 | cown id lo len => exact .own id lo len
 | cptr id off => exact .ptr id off
 | ceptr id i j => exact .eptr id i j
 | cundef => exact .undef
 | cnone => exact .none_
inductive gSepC (N : Nat) : List PV → Prop where
 | cnil : gSepC N []
 | ccons {p : PV} {ps : List PV} (hp : gSepV N p) (h : gSepC N ps) : gSepC N (p :: ps)
theorem gSepC.s {N : Nat} {ps : List PV} (h : gSepC N ps) : ∀ x ∈ ps, Sep N x := by
 induction h with
 | cnil => simp
 | ccons hp h ih =>
  intro x hx
  rcases List.mem_cons.1 hx with rfl | hx
  ·exact hp.s
  ·exact ih x hx
inductive gSepB (N : Nat) : Block → Prop where
 | cfree : gSepB N .free
 | cdead : gSepB N .dead
 | clim (M : Nat) : gSepB N (.lim M)
 | cbox {cs : List PV} (h : gSepC N cs) : gSepB N (.box cs)
 | cdeep (e : Nat) (xs : List GV) : gSepB N (.arr e true xs)
 | chd (v : Value) (e : Nat) (xs : List GV) : gSepB N (.hd v e xs)
theorem gSepB.s {N : Nat} {B : Block} (h : gSepB N B) : SepB N B := by
 cases h with
 | cfree => exact .free
 | cdead => exact .dead
 | clim M => exact .lim M
 | cbox h => exact .box _ h.s
 | cdeep e xs => exact .deep e xs
 | chd v e xs => exact .hd v e xs
inductive gSepS (N : Nat) : List (Nat × PV) → List (Nat × PV) → Prop where
 | cnil : gSepS N [] []
 | ckeep {t : Nat} {p : PV} {sl sl' : List (Nat × PV)} (hs : gSepV N p) (h2 : gSepS N sl sl') : gSepS N ((t, p) :: sl) ((t, p) :: sl')
 | cdrop {t : Nat} {p : PV} {sl sl' : List (Nat × PV)} (h2 : gSepS N sl sl') : gSepS N ((t, p) :: sl) ((t, .undef) :: sl')
theorem gSepS.s {N : Nat} {sl sl' : List (Nat × PV)} (h : gSepS N sl sl') : ∀ s, Zbl sl' s = .undef ∨ (Zbl sl' s = Zbl sl s ∧ Sep N (Zbl sl s)) := by
 induction h with
 | cnil => exact fun s => .inl rfl
 | ckeep hs h2 ih =>
  intro s
  simp only [Zbl]
  split
  ·exact .inr ⟨rfl, hs.s⟩
  ·exact ih s
 | cdrop h2 ih =>
  intro s
  simp only [Zbl]
  split
  ·exact .inl rfl
  ·exact ih s
inductive gSepH (N id : Nat) : List (Nat × Block) → Prop where
 | cnil : gSepH N id []
 | cself {B : Block} {hl : List (Nat × Block)} (h : gSepH N id hl) : gSepH N id ((id, B) :: hl)
 | ccons {j : Nat} {B : Block} {hl : List (Nat × Block)} (hs : gSepB N B) (h : gSepH N id hl) : gSepH N id ((j, B) :: hl)
 | cdeadN {hl : List (Nat × Block)} (h : gSepH N id hl) : gSepH N id (Zbm [] hl)
 | cdeadC {i : Nat} {ks : List Nat} {hl : List (Nat × Block)} (h : gSepH N id (Zbm ks ((i, .dead) :: hl))) : gSepH N id (Zbm (i :: ks) hl)
theorem gSepH.s {N id : Nat} {hl : List (Nat × Block)} (h : gSepH N id hl) : ∀ i, i ≠ id → SepB N (ZaF hl i) := by
 induction h with
 | cnil => exact fun i _ => .free
 | cself h ih =>
  intro i hi
  simp only [ZaF]; rw [if_neg hi]; exact ih i hi
 | ccons hs h ih =>
  intro i hi
  simp only [ZaF]
  split
  ·exact hs.s
  ·exact ih i hi
 | cdeadN h ih => exact ih
 | cdeadC h ih => exact ih
inductive gBND (hl : List (Nat × Block)) : Nat → Prop where
 | clim {N : Nat} (i : Nat) (h : gHL hl i (.lim N)) : gBND hl N
 | cnone : gBND hl 0
section
variable {lv : Nat → List Nat} {P : Program} {tab : Tab} {n : Nat} {sl : List (Nat × PV)} {hl : List (Nat × Block)} {Q : Exit → AState → Prop}
theorem ZqM {c0 : Code} {nx b c e : Nat} {xs row : List GV}  (hb : ZaF hl b = .arr 1 true xs) (hk : xs[kk]? = some (.sl e row)) (hc : ZaF hl c = .free) (hN : gBND hl N) (hs : gSepS N sl sl') (hh : gSepH N b hl)
  (h : ∀ v, T P c0 (mkX n sl' ((c, .hd v e row) :: (b, .arr 1 true (xs.set kk (.raw c v))) :: hl) nx) Q) : T P c0 (mkX n sl hl nx) Q := fun w0 a w hr => by
 obtain ⟨μ, who, hr⟩ := hr
 have hN' : N = 0 ∨ (N ≤ w0.w.heap.size ∧ w0.p 70000 = none) := by
  cases hN with
  | clim i h =>
   have h1 := hr.blk i
   rw [show (mkX n sl hl nx).heap i = .lim N from h.s.e] at h1
   exact .inr h1.1
  | cnone => exact .inl rfl
 have hbc : c ≠ b := by rintro rfl; rw [hb] at hc; cases hc
 obtain ⟨v, hv⟩ := hr.split (id := b) (c := c) (kk := kk) hb hk hc hN'
 obtain ⟨μ', who', h2⟩ := hv (mkX n sl' ((c, .hd v e row) :: (b, .arr 1 true (xs.set kk (.raw c v))) :: hl) nx) rfl hs.s
  (by show (if b = c then _ else if b = b then _ else _) = _; rw [if_neg (Ne.symm hbc), if_pos rfl]) (by show (if c = c then _ else _) = _; rw [if_pos rfl])
  (fun i h1 h2 => by
   have e : (mkX n sl' ((c, .hd v e row) :: (b, .arr 1 true (xs.set kk (.raw c v))) :: hl) nx).heap i = ZaF hl i := by
    show (if i = c then _ else if i = b then _ else _) = _
    rw [if_neg h2, if_neg h1]
   exact ⟨e, hh.s i h1⟩)
 exact h v w0 a w ⟨μ', who', h2⟩
theorem Zpw  [Inhabited α] {A : List α} {f : α → GV}  (h : kk < A.length) : (A.map f)[kk]? = some (f (nth A kk)) := by
 rw [List.getElem?_map, List.getElem?_eq_getElem h, Zbu h]; rfl
theorem Ztc (rid : Nat) {l : Array Oper} {dr : Bool} (h : TX lv P tab (.region rid l dr) n sl hl Q) : TX lv P tab (.region rid l dr) n sl hl Q := h
theorem Zow (ht : TabOk P tab)  {l : List Oper}  [Inhabited α] {f : List α → GV} {g : α → GV} (hf : ∀ r, f r = .sl 1 (r.map g)) (b kk c : Nat) {A : List (List α)}   (hb : gHL hl b (.arr 1 true (A.map f))) (hn : NU (kk < A.length)) (hc : gHL hl c .free) (hN : gBND hl N) (hs : gSepS N sl sl') (hh : gSepH N b hl)
  (h : ∀ v, gAF false P tab l.toArray n (4096 * rid + 4096) l (lv rid) Q 0 l sl' ((c, .hd v 1 ((nth A kk).map g)) :: (b, .arr 1 true (rawL f A kk c v)) :: hl) []) : TX lv P tab (.region rid l.toArray false) n sl hl Q :=
 ZqM (kk := kk) (b := b) hb.s.e (by rw [Zpw hn.e, hf]) hc.s.e hN hs hh fun v => (Zah ht (h v)).run
theorem ZoG (ht : TabOk P tab) (hm : P.follows .mixedOrders = true)  {l : List Oper}  [Inhabited α] {f : List α → GV} {g : α → GV} (hf : ∀ r, f r = .sl 1 (r.map g)) (b kk c : Nat) {A : List (List α)}   (hb : gHL hl b (.arr 1 true (A.map f))) (hn : NU (kk < A.length)) (hc : gHL hl c .free) (hN : gBND hl N) (hs : gSepS N sl sl') (hh : gSepH N b hl)
  (h : ∀ v, gAF true P tab l.toArray n (4096 * rid + 4096) l (lv rid) Q 0 l sl' ((c, .hd v 1 ((nth A kk).map g)) :: (b, .arr 1 true (rawL f A kk c v)) :: hl) []) : TX lv P tab (.region rid l.toArray true) n sl hl Q :=
 ZqM (kk := kk) (b := b) hb.s.e (by rw [Zpw hn.e, hf]) hc.s.e hN hs hh fun v => (ZaK ht hm (h v)).run
theorem Zm6 (ht : TabOk P tab)  {l : List Oper} (b kk c : Nat)    (hb : gHL hl b (.arr 1 true (A.map GV.ints))) (hn : NU (kk < A.length)) (hc : gHL hl c .free) (hN : gBND hl N) (hs : gSepS N sl sl') (hh : gSepH N b hl)
  (h : ∀ v, gAF false P tab l.toArray n (4096 * rid + 4096) l (lv rid) Q 0 l sl' ((c, .hd v 1 ((nth A kk).map GV.i)) :: (b, .arr 1 true (rawL GV.ints A kk c v)) :: hl) []) : TX lv P tab (.region rid l.toArray false) n sl hl Q := Zow ht (f := GV.ints) (g := GV.i) (fun _ => rfl) b kk c hb hn hc hN hs hh h
theorem ZmR (ht : TabOk P tab) (hm : P.follows .mixedOrders = true)  {l : List Oper} (b kk c : Nat)    (hb : gHL hl b (.arr 1 true (A.map GV.ints))) (hn : NU (kk < A.length)) (hc : gHL hl c .free) (hN : gBND hl N) (hs : gSepS N sl sl') (hh : gSepH N b hl)
  (h : ∀ v, gAF true P tab l.toArray n (4096 * rid + 4096) l (lv rid) Q 0 l sl' ((c, .hd v 1 ((nth A kk).map GV.i)) :: (b, .arr 1 true (rawL GV.ints A kk c v)) :: hl) []) : TX lv P tab (.region rid l.toArray true) n sl hl Q := ZoG ht hm (f := GV.ints) (g := GV.i) (fun _ => rfl) b kk c hb hn hc hN hs hh h
end
theorem ZzK (lv : Nat → List Nat) {P : Program} {tab : Tab} (ht : TabOk P tab)         {sl : List (Nat × PV)}  (hf : P.funcs[f]? = some fn) (hb : fn.body = some c) (hn : fn.ntmps = m) (hrs : fn.results.toList = rs) (he : ∀ args w, (callFunc f args).run P w = .ok (.enter f args) w) (hl : (Nat.ble (gs.length + 1) m && Nat.blt m 65536) = true)
  (hok : cs.all exOk = true) (hok' : cs'.all exOk = true) (hlen : cs'.length = cs.length) (hsub : ∀ c ∈ cs', c.atom = true ∨ c ∈ cs) (_hfl : gs.length = gs.length) (hB : GL B cs) (hs : gSG gs 1 sl) (h : ∀ N, (∀ c ∈ cs, VB N (exV c)) → TX lv P tab c (m + 65536) ((0, .ptr 0 0) :: sl) [(1, .lim N), (0, .box B)] (EndB tab rs r cs')) : BoxC P f cs gs r cs' := ZmO lv ht hf hb hn hrs he hl hok hok' hlen hsub hB hs.s h
end Go.Proofs.YtnieejghoaccmaaGreat

