/- Abstract states of a walk: values of slots, blocks of the call's own, and when a frame and a world are in such a state ('Rel'). No program in sight; no conditions. -/
import Derived.Test.YtdkjeodenbffnaaA1
namespace Go.Proofs.Ytdkjeodenbffnaa
open Go.RowKit
open Shp

/-- The value of a slot. -/
inductive PV where
  | g (v : GV)
  | undef
  | none_
  | nils (e : Nat)
  | own (id lo len : Nat)
  | ptr (id off : Nat)
  | eptr (id k j : Nat)
  | iptr (cs : List GV)
  | agg (cs : List PV)
  | tup (vs : List PV)
  | fn (f : FuncId) (caps : List PV)
  deriving Inhabited

/-- A block of the call's own. -/
inductive Block where
  | free
  | dead
  | box (cs : List PV)
  | arr (e : Nat) (deep : Bool) (xs : List GV)
  deriving Inhabited

def Block.live : Block → Bool
  | .box _ | .arr .. => true
  | _ => false

structure AState where
  n : Nat
  slots : Nat → PV
  heap : Nat → Block
  nx : Nat

def upd {α : Type} (f : Nat → α) (k : Nat) (v : α) : Nat → α := fun x => if x = k then v else f x
theorem upd_same {α : Type} (f : Nat → α) (k : Nat) (v : α) : upd f k v k = v := by simp [upd]
theorem upd_ne {α : Type} (f : Nat → α) (k : Nat) (v : α) {x : Nat} (h : x ≠ k) : upd f k v x = f x := by simp [upd, h]

/-- Where the blocks lie: block and first cell; none: the nil slice. -/
abbrev Lay := Nat → Option (Nat × Nat)

/-- The blocks that are written. -/
def Root (μ : Lay) (h : Nat → Block) (b : Nat) : Prop := ∃ id d, (h id).live = true ∧ μ id = some (b, d)

structure RowAt (w : World) (b : Nat) (vs : Array Value) (t : TypeId) : Prop where
  at_ : w.heap[b]? = some (.cells vs t (0, 0))

/-- A slice of a block of the call's own. -/
def OwnAt (w : World) (μ : Lay) (id e lo len : Nat) (v : Value) : Prop :=
  match μ id with
  | some (b, d) => ∃ cap o, v = .slice (some ⟨b, o, none⟩) len cap ∧ len ≤ cap ∧ cap ≤ 9223372036854775807 ∧ ∃ vs t, w.heap[b]? = some (.cells vs t (0, 0)) ∧ (0 < cap → o = d + lo * e) ∧ o + cap * e ≤ vs.size
  | none => (∃ a, v = .slice a 0 0) ∧ lo = 0 ∧ len = 0

inductive PRep (w : World) (μ : Lay) (h : Nat → Block) : Value → PV → Prop
  | g (v : Value) (x : GV) (F : List Nat) : GRep w F v x → (∀ b ∈ F, ¬ Root μ h b) → PRep w μ h v (.g x)
  | undef (v : Value) : PRep w μ h v .undef
  | none_ : PRep w μ h Go.undef .none_
  | nils (e : Nat) : 0 < e → PRep w μ h (.slice none 0 0) (.nils e)
  | own (v : Value) (id lo len : Nat) : v.oneCell' = true → h id ≠ .free → (∀ e dp xs, h id = .arr e dp xs → OwnAt w μ id e lo len v) → PRep w μ h v (.own id lo len)
  | ptr (v : Value) (id off : Nat) : v.oneCell' = true → h id ≠ .free → (∀ cs, h id = .box cs → ∃ b, μ id = some (b, 0) ∧ v = .pointer (some ⟨b, off, none⟩)) → PRep w μ h v (.ptr id off)
  | eptr (v : Value) (id k j : Nat) : v.oneCell' = true → h id ≠ .free → (∀ e dp xs, h id = .arr e dp xs → ∃ b d, μ id = some (b, d) ∧ v = .pointer (some ⟨b, d + k * e + j, none⟩)) → PRep w μ h v (.eptr id k j)
  | iptr (v : Value) (p : Addr) (cs : List GV) (vs : List Value) (Fs : List (List Nat)) (hp : v = .pointer (some p)) (hs : p.spot = none) (hv : vs.length = cs.length) (hF : Fs.length = cs.length)
      (hb : p.block < w.heap.size) (hr : ¬ Root μ h p.block)
      (hc : ∀ i (hi : i < vs.length), w.cell? (p.add i) = some vs[i] ∧ (vs[i]).oneCell' = true) (hg : ∀ x ∈ cs, x.ncells = 1)
      (he : ∀ i (hi : i < cs.length), GRep w (Fs[i]'(hF ▸ hi)) (vs[i]'(hv ▸ hi)) cs[i]) (hd : ∀ b ∈ Fs.flatten, ¬ Root μ h b) : PRep w μ h v (.iptr cs)
  | agg (vs : List Value) (cs : List PV) (hv : vs.length = cs.length) (h1 : ∀ v ∈ vs, v.oneCell' = true) (he : ∀ i (hi : i < cs.length), PRep w μ h (vs[i]'(hv ▸ hi)) cs[i]) : PRep w μ h (.agg vs.toArray) (.agg cs)
  | tup (vs : List Value) (cs : List PV) (hv : vs.length = cs.length) (he : ∀ i (hi : i < cs.length), PRep w μ h (vs[i]'(hv ▸ hi)) cs[i]) : PRep w μ h (.tuple vs.toArray) (.tup cs)
  | fn (f : FuncId) (vs : List Value) (cs : List PV) (hv : vs.length = cs.length) (he : ∀ i (hi : i < cs.length), PRep w μ h (vs[i]'(hv ▸ hi)) cs[i]) : PRep w μ h (.func (.func f) #[] vs.toArray) (.fn f cs)

/-- A row of elements in cells, from the d-th on. -/
structure RowRep (w : World) (vs : Array Value) (d e : Nat) (xs : List GV) (Fs : List (List Nat)) (els : List Value) : Prop where
  len : els.length = xs.length
  fl : Fs.length = xs.length
  fit : d + xs.length * e ≤ vs.size
  nc : ∀ k (hk : k < xs.length), (xs[k]).ncells = e
  el : ∀ k (hk : k < xs.length), GRep w (Fs[k]'(fl ▸ hk)) (els[k]'(len ▸ hk)) xs[k]
  sz : ∀ k (hk : k < els.length), (els[k]).cells.size = e ∧ ∀ v ∈ (els[k]).cells.toList, v.oneCell' = true
  cell : ∀ k (hk : k < els.length), ∀ j, j < e → vs[d + k * e + j]? = (els[k]).cells[j]?

def BRep (w0 w : World) (μ : Lay) (h : Nat → Block) (who : Nat → Option Nat) (id : Nat) : Block → Prop
  | .free => True
  | .dead => True
  | .box cs => ∃ b vs t, μ id = some (b, 0) ∧ w.heap[b]? = some (.cells vs t (0, 0)) ∧ vs.size = cs.length ∧ (∀ v ∈ vs.toList, v.oneCell' = true) ∧ ∀ i (hi : i < cs.length), PRep w μ h (vs.getD i Go.undef) cs[i]
  | .arr e dp xs => 0 < e ∧ match μ id with
    | none => xs = []
    | some (b, d) => ∃ vs t Fs els, w.heap[b]? = some (.cells vs t (0, 0)) ∧ RowRep w vs d e xs Fs els ∧ (∀ b ∈ Fs.flatten, ¬ Root μ h b) ∧ (dp = true → Fs.flatten.Nodup ∧ ∀ b ∈ Fs.flatten, who b = some id ∧ w0.heap.size ≤ b)

/-- Slots that are never written: their data are those of the call's beginning. -/
def pinned (n t : Nat) : Bool := Nat.beq ((n / 2 ^ (16 + t)) % 2) 1
def hasB (d n : Nat) : Bool := Nat.blt d (n % 65536) && !pinned n d
theorem pinned_lt {n : Nat} (h : n < 65536) (t : Nat) : pinned n t = false := by
  have : n / 2 ^ (16 + t) = 0 := Nat.div_eq_of_lt (Nat.lt_of_lt_of_le h (Nat.pow_le_pow_right (by omega) (by omega) : 2 ^ 16 ≤ 2 ^ (16 + t)))
  unfold pinned; rw [this]; rfl

structure RelAt (w0 : World) (S : AState) (a : Act) (w : World) (μ : Lay) (who : Nat → Option Nat) : Prop where
  size : a.tmps.size = S.n % 65536
  slot : ∀ t, PRep w μ S.heap (a.tmps.getD t Go.undef) (S.slots t)
  dfr : a.defers = []
  blk : ∀ id, BRep w0 w μ S.heap who id (S.heap id)
  inj : ∀ i j b d d', (S.heap i).live = true → (S.heap j).live = true → μ i = some (b, d) → μ j = some (b, d') → i = j
  base : ∀ i b d, (S.heap i).live = true → μ i = some (b, d) → w0.heap.size ≤ b ∧ b < w.heap.size
  keep : Keeps [] w0 w
  old : ∀ t x, pinned S.n t = true → S.slots t = .g x → ∃ F, GRep w0 F (a.tmps.getD t Go.undef) x

/-- The frame and the world are in this state. -/
def Rel (w0 : World) (S : AState) (a : Act) (w : World) : Prop := ∃ μ who, RelAt w0 S a w μ who

/-! ### What the relation bears -/

theorem Root.mono {μ : Lay} {h h' : Nat → Block} (hh : ∀ id, (h' id).live = true → (h id).live = true) {b : Nat} (hr : Root μ h' b) : Root μ h b := by
  obtain ⟨id, d, h1, h2⟩ := hr
  exact ⟨id, d, hh id h1, h2⟩

/-- A change of worlds, layouts and blocks that leaves all values as they are. -/
structure Move (w w' : World) (μ μ' : Lay) (h h' : Nat → Block) : Prop where
  /-- blocks that are not written are as they were, and are not written from now on -/
  old : ∀ b, b < w.heap.size → ¬ Root μ h b → w'.heap[b]? = w.heap[b]? ∧ ¬ Root μ' h' b
  row : ∀ id b d, (h' id).live = true → (h id).live = true → μ' id = some (b, d) → μ id = some (b, d) → ∀ vs t, w.heap[b]? = some (.cells vs t (0, 0)) → ∃ vs', w'.heap[b]? = some (.cells vs' t (0, 0)) ∧ vs'.size = vs.size
  free : ∀ id, h' id = .free → h id = .free
  arr : ∀ id e dp xs, h id ≠ .free → h' id = .arr e dp xs → μ' id = μ id ∧ ∃ dp' xs', h id = .arr e dp' xs'
  box : ∀ id cs, h id ≠ .free → h' id = .box cs → μ' id = μ id ∧ ∃ cs', h id = .box cs'

theorem PRep.move {w w' : World} {μ μ' : Lay} {h h' : Nat → Block} {v : Value} {x : PV} (hm : Move w w' μ μ' h h') (hr : PRep w μ h v x) : PRep w' μ' h' v x := by
  induction hr with
  | g v x F hg hd => exact .g v x F (hg.keep fun b hb => (hm.old b (hg.lt b hb) (hd b hb)).1) fun b hb => (hm.old b (hg.lt b hb) (hd b hb)).2
  | undef v => exact .undef v
  | none_ => exact .none_
  | nils e he => exact .nils e he
  | own v id lo len h1 hf ho =>
    refine .own v id lo len h1 (fun e => hf (hm.free id e)) fun e dp xs hx => ?_
    obtain ⟨e1, dp', xs', e2⟩ := hm.arr id e dp xs hf hx
    have h3 := ho e dp' xs' e2
    unfold OwnAt at *
    rw [e1]
    cases hμ : μ id with
    | none => simpa only [hμ] using h3
    | some bd =>
      obtain ⟨b, d⟩ := bd
      simp only [hμ] at h3 ⊢
      obtain ⟨cap, o, hv, hl, hc, vs, t, hw, ho2, hs⟩ := h3
      obtain ⟨vs', hw', hs'⟩ := hm.row id b d (by rw [hx]; rfl) (by rw [e2]; rfl) (by rw [e1]; exact hμ) hμ vs t hw
      exact ⟨cap, o, hv, hl, hc, vs', t, hw', ho2, by omega⟩
  | ptr v id off h1 hf ho =>
    refine .ptr v id off h1 (fun e => hf (hm.free id e)) fun cs hx => ?_
    obtain ⟨e1, cs', e2⟩ := hm.box id cs hf hx
    obtain ⟨b, h3, h2⟩ := ho cs' e2
    exact ⟨b, by rw [e1]; exact h3, h2⟩
  | eptr v id k j h1 hf ho =>
    refine .eptr v id k j h1 (fun e => hf (hm.free id e)) fun e dp xs hx => ?_
    obtain ⟨e1, dp', xs', e2⟩ := hm.arr id e dp xs hf hx
    obtain ⟨b, d, h3, h2⟩ := ho e dp' xs' e2
    exact ⟨b, d, by rw [e1]; exact h3, h2⟩
  | iptr v p cs vs Fs hp hs hv hF hb hr hc hg he hd =>
    have hblk := hm.old p.block hb hr
    refine .iptr v p cs vs Fs hp hs hv hF (heap_lt_of_eq hb hblk.1) hblk.2 (fun i hi => ⟨?_, (hc i hi).2⟩) hg (fun i hi => (he i hi).keep fun b hb' => ?_) fun b hb' => ?_
    · have e : (p.add i).block = p.block := by unfold Addr.add; split <;> rfl
      rw [World.cell?_of_block (w := w) (by rw [e]; exact hblk.1)]
      exact (hc i hi).1
    · exact (hm.old b ((he i hi).lt b hb') (hd b (getElem_mem_flatten _ hb'))).1
    · obtain ⟨i, hi, hb''⟩ := mem_flatten_getElem hb'
      exact (hm.old b ((he i (hF ▸ hi)).lt b hb'') (hd b hb')).2
  | agg vs cs hv h1 he ih => exact .agg vs cs hv h1 ih
  | tup vs cs hv he ih => exact .tup vs cs hv ih
  | fn f vs cs hv he ih => exact .fn f vs cs hv ih

/-- A block that is neither written nor changed. -/
theorem RowRep.move {w w' : World} {μ μ' : Lay} {h h' : Nat → Block} (hm : Move w w' μ μ' h h') {vs : Array Value} {d e : Nat} {xs : List GV} {Fs : List (List Nat)} {els : List Value} (hr : RowRep w vs d e xs Fs els) (hd : ∀ b ∈ Fs.flatten, ¬ Root μ h b) :
    RowRep w' vs d e xs Fs els ∧ ∀ b ∈ Fs.flatten, ¬ Root μ' h' b := by
  have key : ∀ b ∈ Fs.flatten, w'.heap[b]? = w.heap[b]? ∧ ¬ Root μ' h' b := fun b hb => by
    obtain ⟨i, hi, hb'⟩ := mem_flatten_getElem hb
    exact hm.old b ((hr.el i (hr.fl ▸ hi)).lt b hb') (hd b hb)
  exact ⟨⟨hr.len, hr.fl, hr.fit, hr.nc, fun k hk => (hr.el k hk).keep fun b hb => (key b (getElem_mem_flatten _ hb)).1, hr.sz, hr.cell⟩, fun b hb => (key b hb).2⟩

theorem BRep.move {w0 w w' : World} {μ μ' : Lay} {h h' : Nat → Block} {who who' : Nat → Option Nat} {id : Nat} {B : Block} (hm : Move w w' μ μ' h h') (hr : BRep w0 w μ h who id B)
    (hμ : B.live = true → μ' id = μ id) (hrow : ∀ b d, B.live = true → μ id = some (b, d) → w'.heap[b]? = w.heap[b]?) (hwho : ∀ b, b < w.heap.size → ¬ Root μ h b → who b = some id → who' b = some id) : BRep w0 w' μ' h' who' id B := by
  cases B with
  | free => trivial
  | dead => trivial
  | box cs =>
    obtain ⟨b, vs, t, h1, h2, h3, h5, h4⟩ := hr
    exact ⟨b, vs, t, by rw [hμ rfl]; exact h1, by rw [hrow b 0 rfl h1]; exact h2, h3, h5, fun i hi => (h4 i hi).move hm⟩
  | arr e dp xs =>
    obtain ⟨he, h1⟩ := hr
    refine ⟨he, ?_⟩
    rw [hμ rfl]
    cases hb : μ id with
    | none => simpa only [hb] using h1
    | some bd =>
      obtain ⟨b, d⟩ := bd
      simp only [hb] at h1 ⊢
      obtain ⟨vs, t, Fs, els, h2, h3, h4, h5⟩ := h1
      obtain ⟨h6, h7⟩ := h3.move hm h4
      exact ⟨vs, t, Fs, els, by rw [hrow b d rfl hb]; exact h2, h6, h7, fun hd => ⟨(h5 hd).1, fun b hb => ⟨hwho b (by obtain ⟨i, hi, hb'⟩ := mem_flatten_getElem hb; exact (h3.el i (h3.fl ▸ hi)).lt b hb') (h4 b hb) ((h5 hd).2 b hb).1, ((h5 hd).2 b hb).2⟩⟩⟩

theorem Move.refl (w : World) (μ : Lay) (h : Nat → Block) : Move w w μ μ h h :=
  ⟨fun _ _ hr => ⟨rfl, hr⟩, fun _ _ _ _ _ _ _ vs t hw => ⟨vs, hw, rfl⟩, fun _ h => h, fun _ e dp xs _ h => ⟨rfl, dp, xs, h⟩, fun _ cs _ h => ⟨rfl, cs, h⟩⟩

/-- The world has grown. -/
theorem Move.keeps {w w' : World} {μ : Lay} {h : Nat → Block} (hb : ∀ i b d, (h i).live = true → μ i = some (b, d) → b < w.heap.size) (hk : Keeps [] w w') : Move w w' μ μ h h :=
  ⟨fun b hlt hr => ⟨hk.block b hlt (by simp), hr⟩, fun id b d h1 h2 h3 h4 vs t hw => ⟨vs, by rw [hk.block b (hb id b d h2 h4) (by simp)]; exact hw, rfl⟩, fun _ h => h, fun _ e dp xs _ h => ⟨rfl, dp, xs, h⟩, fun _ cs _ h => ⟨rfl, cs, h⟩⟩

theorem RelAt.keeps {w0 : World} {S : AState} {a : Act} {w w' : World} {μ : Lay} {who : Nat → Option Nat} (h : RelAt w0 S a w μ who) (hk : Keeps [] w w') : RelAt w0 S a w' μ who := by
  have hm : Move w w' μ μ S.heap S.heap := Move.keeps (fun i b d h1 h2 => (h.base i b d h1 h2).2) hk
  exact ⟨h.size, fun t => (h.slot t).move hm, h.dfr, fun id => (h.blk id).move hm (fun _ => rfl) (fun b d hl hb => hk.block b (h.base id b d hl hb).2 (by simp)) (fun _ _ _ h => h), h.inj,
    fun i b d hl hb => ⟨(h.base i b d hl hb).1, Nat.lt_of_lt_of_le (h.base i b d hl hb).2 hk.size⟩, h.keep.trans hk, h.old⟩

/-! ### Slots -/

def AState.put (S : AState) (dst : Option Nat) (v : PV) : AState :=
  match dst with
  | some d => { S with slots := upd S.slots d v }
  | none => S

def AState.write (S : AState) (id : Nat) (b : Block) : AState := { S with heap := upd S.heap id b }

/-- Is the slot there? -/
def AState.has (S : AState) (dst : Option Nat) : Bool :=
  match dst with
  | some d => hasB d S.n
  | none => true

theorem getD_set {vs : Array Value} {d t : Nat} {v u : Value} (h : d < vs.size) : (vs.setIfInBounds d v).getD t u = if t = d then v else vs.getD t u := by
  by_cases e : t = d
  · subst e; simp [Array.getD, h]
  · simp only [Array.getD, Array.size_setIfInBounds, e, if_false]
    split
    · rw [Array.getInternal_eq_getElem, Array.getInternal_eq_getElem, Array.getElem_setIfInBounds_ne _ (by omega)]
    · rfl

theorem RelAt.put {w0 : World} {S : AState} {a : Act} {w : World} {μ : Lay} {who : Nat → Option Nat} (h : RelAt w0 S a w μ who) {dst : Option Nat} (hd : S.has dst = true) {v : Value} {x : PV} (hv : PRep w μ S.heap v x) : RelAt w0 (S.put dst x) (a.put dst v) w μ who := by
  cases dst with
  | none => exact h
  | some d =>
    have hd2 : hasB d S.n = true := hd
    unfold hasB at hd2
    simp only [Bool.and_eq_true, Bool.not_eq_true'] at hd2
    have hd' : d < a.tmps.size := by rw [h.size]; exact Nat.le_of_ble_eq_true hd2.1
    refine ⟨by simp [Act.put, AState.put, h.size], fun t => ?_, h.dfr, h.blk, h.inj, h.base, h.keep, fun t y hp hx => ?_⟩
    rotate_left
    · have hp' : pinned S.n t = true := hp
      have hne : t ≠ d := by rintro rfl; rw [hd2.2] at hp'; cases hp'
      simp only [AState.put, upd, if_neg hne] at hx
      simp only [Act.put]; rw [getD_set hd', if_neg hne]; exact h.old t y hp' hx
    simp only [Act.put, AState.put, upd]
    rw [getD_set hd']
    split
    · exact hv
    · exact h.slot t

end Go.Proofs.Ytdkjeodenbffnaa
