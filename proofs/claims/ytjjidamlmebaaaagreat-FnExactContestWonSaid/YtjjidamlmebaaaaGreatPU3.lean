/- Rows inside of data of the call's own that are appended to: the walk's rules. Over any program; the table is right ('TabOk'). -/
import Derived.Test.YtjjidamlmebaaaaGreatKG
import Derived.Test.YtjjidamlmebaaaaGreatPK3
namespace Go.Proofs.YtjjidamlmebaaaaGreat
open Go.RowKit
open Shp
variable {f : FuncId} {fn : Func} {c : Code} {m N kk rid : Nat} {rs : List ResultVar} {cs gs cs' : List GV} {r : GV} {B : List PV} {sl' : List (Nat × PV)} {α : Type} {A : List (List Int)}
theorem RelAt.lim {w0 : W0} {S : AState} {a : Act} {w : World} {μ : Lay} {who : Nat → Option Nat} (h : RelAt w0 S a w μ who) {i N : Nat} (hi : S.heap i = .free) (hN : N ≤ w0.w.heap.size) (hp : w0.p 70000 = none) : RelAt w0 (S.write i (.lim N)) a w (upd μ i none) who :=
 h.new hi (Keeps.refl _ _) (p := none) (fun b d e => by cases e) rfl fun _ => ⟨⟨hN, hp⟩, Zan _ _ _⟩
theorem GRep.vb {w : World} {F : List Nat} {v : Value} {x : GV} (h : GRep w F v x) (hx : exOk x = true) : VB w.heap.size v := by
 intro p n cap e hc
 cases h with
 | atom x hx2 => cases x <;> simp [GV.atom] at hx2 <;> simp [ZcL] at e
 | ex v e' xs F h2 =>
  obtain ⟨a, cap', els, Fs, e1, e2, hs⟩ := h2.slice
  rw [e] at e1
  simp only [Value.slice.injEq] at e1
  obtain ⟨e3, _, rfl⟩ := e1
  exact (hs.ad p e3.symm hc).2
 | fn | agg | tup | box | sl | raw | bd => simp [exOk, GV.atom] at hx
abbrev bdI (N : Nat) (r : List Int) : GV := .bd N 1 (r.map GV.i)
inductive gSepV (N : Nat) : PV → Prop where
 | cint (k : IntKind) (n : Int) : gSepV N (.g (.int k n))
 | cbool (b : Bool) : gSepV N (.g (.bool b))
 | cstr (s : ByteArray) : gSepV N (.g (.str s))
 | craw (c : Nat) (v : Value) : gSepV N (.g (.raw c v))
 | cbd (e : Nat) (xs : List GV) : gSepV N (.g (.bd N e xs))
 | cex {v : Value} {e : Nat} {bs : List Int} (h : HY (VB N v)) : gSepV N (.g (.ex v e (bs.map (GV.int .u8))))
 | cexi {v : Value} {e : Nat} {bs : List Int} (h : HY (VB N v)) : gSepV N (.g (.ex v e (bs.map GV.i)))
 | cexb {v : Value} {e : Nat} {bs : List (List Int)} (h : HY (VB N v)) : gSepV N (.g (.ex v e (bs.map (bdI N))))
 | cnils (e : Nat) : gSepV N (.nils e)
 | cown (id lo len : Nat) : gSepV N (.own id lo len)
 | cptr (id off : Nat) : gSepV N (.ptr id off)
 | ceptr (id i j : Nat) : gSepV N (.eptr id i j)
 | cundef : gSepV N .undef
 | cnone : gSepV N .none_
theorem gSepV.s  {p : PV} (h : gSepV N p) : Sep N p := by
 cases h with
 | cint => exact .g _ (.flat _ rfl)
 | cbool => exact .g _ (.flat _ rfl)
 | cstr => exact .g _ (.flat _ rfl)
 | craw c v => exact .g _ (.raw c v)
 | cbd e xs => exact .g _ (.bd N e xs (Nat.le_refl _))
 | cex h => exact .g _ (.ex _ _ _ h.e fun x hx => by obtain ⟨y, _, rfl⟩ := List.mem_map.1 hx; exact .flat _ rfl)
 | cexi h => exact .g _ (.ex _ _ _ h.e fun x hx => by obtain ⟨y, _, rfl⟩ := List.mem_map.1 hx; exact .flat _ rfl)
 | cexb h => exact .g _ (.ex _ _ _ h.e fun x hx => by obtain ⟨y, _, rfl⟩ := List.mem_map.1 hx; exact .bd _ _ _ (Nat.le_refl _))
 | cnils e => exact .nils e
 | cown id lo len => exact .own id lo len
 | cptr id off => exact .ptr id off
 | ceptr id i j => exact .eptr id i j
 | cundef => exact .undef
 | cnone => exact .none_
inductive gSepC (N : Nat) : List PV → Prop where
 | cnil : gSepC N []
 | ccons {p : PV} {ps : List PV} (hp : gSepV N p) (h : gSepC N ps) : gSepC N (p :: ps)
theorem gSepC.s {N : Nat} {ps : List PV} (h : gSepC N ps) : ∀ x ∈ ps, Sep N x := by
 induction h with
 | cnil => simp
 | ccons hp h ih =>
  intro x hx
  rcases List.mem_cons.1 hx with rfl | hx
  ·exact hp.s
  ·exact ih x hx
inductive gSepB (N : Nat) : Block → Prop where
 | cfree : gSepB N .free
 | cdead : gSepB N .dead
 | clim (M : Nat) : gSepB N (.lim M)
 | cbox {cs : List PV} (h : gSepC N cs) : gSepB N (.box cs)
 | cdeep (e : Nat) (xs : List GV) : gSepB N (.arr e true xs)
 | chd (v : Value) (e : Nat) (xs : List GV) : gSepB N (.hd v e xs)
theorem gSepB.s {N : Nat} {B : Block} (h : gSepB N B) : SepB N B := by
 cases h with
 | cfree => exact .free
 | cdead => exact .dead
 | clim M => exact .lim M
 | cbox h => exact .box _ h.s
 | cdeep e xs => exact .deep e xs
 | chd v e xs => exact .hd v e xs
inductive gSepS (N : Nat) : List (Nat × PV) → List (Nat × PV) → Prop where
 | cnil : gSepS N [] []
 | ckeep {t : Nat} {p : PV} {sl sl' : List (Nat × PV)} (hs : gSepV N p) (h2 : gSepS N sl sl') : gSepS N ((t, p) :: sl) ((t, p) :: sl')
 | cdrop {t : Nat} {p : PV} {sl sl' : List (Nat × PV)} (h2 : gSepS N sl sl') : gSepS N ((t, p) :: sl) ((t, .undef) :: sl')
theorem gSepS.s {N : Nat} {sl sl' : List (Nat × PV)} (h : gSepS N sl sl') : ∀ s, Zbs sl' s = .undef ∨ (Zbs sl' s = Zbs sl s ∧ Sep N (Zbs sl s)) := by
 induction h with
 | cnil => exact fun s => .inl rfl
 | ckeep hs h2 ih =>
  intro s
  simp only [Zbs]
  split
  ·exact .inr ⟨rfl, hs.s⟩
  ·exact ih s
 | cdrop h2 ih =>
  intro s
  simp only [Zbs]
  split
  ·exact .inl rfl
  ·exact ih s
inductive gSepH (N id : Nat) : List (Nat × Block) → Prop where
 | cnil : gSepH N id []
 | cself {B : Block} {hl : List (Nat × Block)} (h : gSepH N id hl) : gSepH N id ((id, B) :: hl)
 | ccons {j : Nat} {B : Block} {hl : List (Nat × Block)} (hs : gSepB N B) (h : gSepH N id hl) : gSepH N id ((j, B) :: hl)
 | cdeadN {hl : List (Nat × Block)} (h : gSepH N id hl) : gSepH N id (Zbe [] hl)
 | cdeadC {i : Nat} {ks : List Nat} {hl : List (Nat × Block)} (h : gSepH N id (Zbe ks ((i, .dead) :: hl))) : gSepH N id (Zbe (i :: ks) hl)
theorem gSepH.s {N id : Nat} {hl : List (Nat × Block)} (h : gSepH N id hl) : ∀ i, i ≠ id → SepB N (ZaH hl i) := by
 induction h with
 | cnil => exact fun i _ => .free
 | cself h ih =>
  intro i hi
  simp only [ZaH]; rw [if_neg hi]; exact ih i hi
 | ccons hs h ih =>
  intro i hi
  simp only [ZaH]
  split
  ·exact hs.s
  ·exact ih i hi
 | cdeadN h ih => exact ih
 | cdeadC h ih => exact ih
inductive gBND (hl : List (Nat × Block)) : Nat → Prop where
 | clim {N : Nat} (i : Nat) (h : gHL hl i (.lim N)) : gBND hl N
 | cnone : gBND hl 0
section
variable {lv : Nat → List Nat} {P : Program} {tab : Tab} {n : Nat} {sl : List (Nat × PV)} {hl : List (Nat × Block)} {Q : Exit → AState → Prop}
theorem ZpQ {c0 : Code} {nx b c e : Nat} {xs row : List GV}  (hb : ZaH hl b = .arr 1 true xs) (hk : xs[kk]? = some (.sl e row)) (hc : ZaH hl c = .free) (hN : gBND hl N) (hs : gSepS N sl sl') (hh : gSepH N b hl)
  (h : ∀ v, T P c0 (mkX n sl' ((c, .hd v e row) :: (b, .arr 1 true (xs.set kk (.raw c v))) :: hl) nx) Q) : T P c0 (mkX n sl hl nx) Q := fun w0 a w hr => by
 obtain ⟨μ, who, hr⟩ := hr
 have hN' : N = 0 ∨ (N ≤ w0.w.heap.size ∧ w0.p 70000 = none) := by
  cases hN with
  | clim i h =>
   have h1 := hr.blk i
   rw [show (mkX n sl hl nx).heap i = .lim N from h.s.e] at h1
   exact .inr h1.1
  | cnone => exact .inl rfl
 have hbc : c ≠ b := by rintro rfl; rw [hb] at hc; cases hc
 obtain ⟨v, hv⟩ := hr.split (id := b) (c := c) (kk := kk) hb hk hc hN'
 obtain ⟨μ', who', h2⟩ := hv (mkX n sl' ((c, .hd v e row) :: (b, .arr 1 true (xs.set kk (.raw c v))) :: hl) nx) rfl hs.s
  (by show (if b = c then _ else if b = b then _ else _) = _; rw [if_neg (Ne.symm hbc), if_pos rfl]) (by show (if c = c then _ else _) = _; rw [if_pos rfl])
  (fun i h1 h2 => by
   have e : (mkX n sl' ((c, .hd v e row) :: (b, .arr 1 true (xs.set kk (.raw c v))) :: hl) nx).heap i = ZaH hl i := by
    show (if i = c then _ else if i = b then _ else _) = _
    rw [if_neg h2, if_neg h1]
   exact ⟨e, hh.s i h1⟩)
 exact h v w0 a w ⟨μ', who', h2⟩
theorem ZpT  [Inhabited α] {A : List α} {f : α → GV}  (h : kk < A.length) : (A.map f)[kk]? = some (f (nth A kk)) := by
 rw [List.getElem?_map, List.getElem?_eq_getElem h, Zaz h]; rfl
theorem ZpN (rid : Nat) {l : Array Oper} {dr : Bool} (h : TX lv P tab (.region rid l dr) n sl hl Q) : TX lv P tab (.region rid l dr) n sl hl Q := h
theorem Znv (ht : TabOk P tab)  {l : List Oper}  [Inhabited α] {f : List α → GV} {g : α → GV} (hf : ∀ r, f r = .sl 1 (r.map g)) (b kk c : Nat) {A : List (List α)}   (hb : gHL hl b (.arr 1 true (A.map f))) (hn : NU (kk < A.length)) (hc : gHL hl c .free) (hN : gBND hl N) (hs : gSepS N sl sl') (hh : gSepH N b hl)
  (h : ∀ v, gAF false P tab l.toArray n (4096 * rid + 4096) l (lv rid) Q 0 l sl' ((c, .hd v 1 ((nth A kk).map g)) :: (b, .arr 1 true (rawL f A kk c v)) :: hl) []) : TX lv P tab (.region rid l.toArray false) n sl hl Q :=
 ZpQ (kk := kk) (b := b) hb.s.e (by rw [ZpT hn.e, hf]) hc.s.e hN hs hh fun v => (Zaf ht (h v)).run
theorem Zno (ht : TabOk P tab) (hm : P.follows .mixedOrders = true)  {l : List Oper}  [Inhabited α] {f : List α → GV} {g : α → GV} (hf : ∀ r, f r = .sl 1 (r.map g)) (b kk c : Nat) {A : List (List α)}   (hb : gHL hl b (.arr 1 true (A.map f))) (hn : NU (kk < A.length)) (hc : gHL hl c .free) (hN : gBND hl N) (hs : gSepS N sl sl') (hh : gSepH N b hl)
  (h : ∀ v, gAF true P tab l.toArray n (4096 * rid + 4096) l (lv rid) Q 0 l sl' ((c, .hd v 1 ((nth A kk).map g)) :: (b, .arr 1 true (rawL f A kk c v)) :: hl) []) : TX lv P tab (.region rid l.toArray true) n sl hl Q :=
 ZpQ (kk := kk) (b := b) hb.s.e (by rw [ZpT hn.e, hf]) hc.s.e hN hs hh fun v => (Za4 ht hm (h v)).run
theorem ZmA (ht : TabOk P tab)  {l : List Oper} (b kk c : Nat)    (hb : gHL hl b (.arr 1 true (A.map GV.ints))) (hn : NU (kk < A.length)) (hc : gHL hl c .free) (hN : gBND hl N) (hs : gSepS N sl sl') (hh : gSepH N b hl)
  (h : ∀ v, gAF false P tab l.toArray n (4096 * rid + 4096) l (lv rid) Q 0 l sl' ((c, .hd v 1 ((nth A kk).map GV.i)) :: (b, .arr 1 true (rawL GV.ints A kk c v)) :: hl) []) : TX lv P tab (.region rid l.toArray false) n sl hl Q := Znv ht (f := GV.ints) (g := GV.i) (fun _ => rfl) b kk c hb hn hc hN hs hh h
theorem Zmq (ht : TabOk P tab) (hm : P.follows .mixedOrders = true)  {l : List Oper} (b kk c : Nat)    (hb : gHL hl b (.arr 1 true (A.map GV.ints))) (hn : NU (kk < A.length)) (hc : gHL hl c .free) (hN : gBND hl N) (hs : gSepS N sl sl') (hh : gSepH N b hl)
  (h : ∀ v, gAF true P tab l.toArray n (4096 * rid + 4096) l (lv rid) Q 0 l sl' ((c, .hd v 1 ((nth A kk).map GV.i)) :: (b, .arr 1 true (rawL GV.ints A kk c v)) :: hl) []) : TX lv P tab (.region rid l.toArray true) n sl hl Q := Zno ht hm (f := GV.ints) (g := GV.i) (fun _ => rfl) b kk c hb hn hc hN hs hh h
end
end Go.Proofs.YtjjidamlmebaaaaGreat

