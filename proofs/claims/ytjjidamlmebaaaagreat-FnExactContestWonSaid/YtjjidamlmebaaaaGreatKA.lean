/- Abstract values: plain data as trees ('GV'), and how they lie in memory ('GRep'). No program in sight; no conditions. -/
import Derived.Test.YtjjidamlmebaaaaGreatBase
import Derived.Deep.AppendSrc
import Derived.Laws.CopyRow
import Derived.Deep.MidRow
namespace Go.Proofs.YtjjidamlmebaaaaGreat
open Go.RowKit
open Shp
variable {Fs : List (List Nat)} {b : Nat} {w w' : World} {F : List Nat} {v u : Value}
inductive GV where
 | bool (b : Bool)
 | int (k : IntKind) (n : Int)
 | str (s : ByteArray)
 | nilp
 | fn (f : FuncId) (caps : List GV)
 | box (cs : List GV)
 | sl (e : Nat) (xs : List GV)
 | agg (cs : List GV)
 | tup (vs : List GV)
 | ex (v : Value) (e : Nat) (xs : List GV)
 | raw (c : Nat) (v : Value)
 | bd (N e : Nat) (xs : List GV)
 deriving Inhabited
def GV.ncells : GV → Nat
 | .agg cs => cs.length
 | _ => 1
def GV.cells : GV → List GV
 | .agg cs => cs
 | v => [v]
def GV.atom : GV → Bool
 | .bool _ | .int _ _ | .str _ | .nilp => true
 | _ => false
def ZcL : GV → Value
 | .bool b => .bool b
 | .int k n => .int k n
 | .str s => .string s
 | .nilp => .pointer none
 | _ => .tuple #[]
inductive GRep (w : World) : List Nat → Value → GV → Prop
 | atom (x : GV) : x.atom = true → GRep w [] (ZcL x) x
 | fn (f : FuncId) (vs : List Value) (gs : List GV) (Fs : List (List Nat)) (hv : vs.length = gs.length) (hF : Fs.length = gs.length)
   (h : ∀ i (hi : i < gs.length), GRep w (Fs[i]'(hF ▸ hi)) (vs[i]'(hv ▸ hi)) gs[i]) : GRep w Fs.flatten (.func (.func f) #[] vs.toArray) (.fn f gs)
 | agg (vs : List Value) (gs : List GV) (Fs : List (List Nat)) (hv : vs.length = gs.length) (hF : Fs.length = gs.length) (h1 : ∀ v ∈ vs, v.oneCell' = true) (hg : ∀ x ∈ gs, x.ncells = 1)
   (h : ∀ i (hi : i < gs.length), GRep w (Fs[i]'(hF ▸ hi)) (vs[i]'(hv ▸ hi)) gs[i]) : GRep w Fs.flatten (.agg vs.toArray) (.agg gs)
 | tup (vs : List Value) (gs : List GV) (Fs : List (List Nat)) (hv : vs.length = gs.length) (hF : Fs.length = gs.length)
   (h : ∀ i (hi : i < gs.length), GRep w (Fs[i]'(hF ▸ hi)) (vs[i]'(hv ▸ hi)) gs[i]) : GRep w Fs.flatten (.tuple vs.toArray) (.tup gs)
 | box (b : Nat) (vs : List Value) (gs : List GV) (Fs : List (List Nat)) (hb : b < w.heap.size) (hv : vs.length = gs.length) (hF : Fs.length = gs.length) (h1 : ∀ v ∈ vs, v.oneCell' = true) (hg : ∀ x ∈ gs, x.ncells = 1)
   (hc : ∀ i (hi : i < vs.length), w.cell? ⟨b, i, none⟩ = some vs[i])
   (h : ∀ i (hi : i < gs.length), GRep w (Fs[i]'(hF ▸ hi)) (vs[i]'(hv ▸ hi)) gs[i]) : GRep w (b :: Fs.flatten) (.pointer (some ⟨b, 0, none⟩)) (.box gs)
 | sl (a : Option Addr) (cap e : Nat) (vs : List Value) (gs : List GV) (Fs : List (List Nat)) (hv : vs.length = gs.length) (hF : Fs.length = gs.length) (he : 0 < e) (hg : ∀ x ∈ gs, x.ncells = e)
   (le : gs.length ≤ cap) (max : cap ≤ 9223372036854775807) (nil : a = none → cap = 0) (ad : ∀ p, a = some p → 0 < cap → p.spot = none ∧ p.block < w.heap.size)
   (hc : ∀ k (hk : k < vs.length), (vs[k]).cells.size = e ∧ (∀ v ∈ (vs[k]).cells.toList, v.oneCell' = true) ∧ (∀ j (hj : j < (vs[k]).cells.size), w.cell? (sAt a (k * e + j)) = some (vs[k]).cells[j] ∧ w.frozen? (sAt a (k * e + j)) = false))
   (h : ∀ i (hi : i < gs.length), GRep w (Fs[i]'(hF ▸ hi)) (vs[i]'(hv ▸ hi)) gs[i])
   (rm : ∀ i, i < cap * e → (w.cell? (sAt a i)).isSome = true ∧ w.frozen? (sAt a i) = false) : GRep w (own a cap ++ Fs.flatten) (.slice a gs.length cap) (.sl e gs)
 | ex (v : Value) (e : Nat) (xs : List GV) (F : List Nat) : GRep w F v (.sl e xs) → GRep w F v (.ex v e xs)
 | raw (c : Nat) (v : Value) : v.oneCell' = true → GRep w [] v (.raw c v)
 | bd (v : Value) (N e : Nat) (xs : List GV) (F : List Nat) : GRep w F v (.sl e xs) → (∀ b ∈ F, b < N) → GRep w F v (.bd N e xs)
theorem Zac  {i : Nat} (hi : i < Fs.length)  (hb : b ∈ Fs[i]) : b ∈ Fs.flatten := by
 simp only [List.mem_flatten]; exact ⟨_, List.getElem_mem _, hb⟩
theorem Zaq  (hb : b ∈ Fs.flatten) : ∃ i, ∃ hi : i < Fs.length, b ∈ Fs[i] := by
 simp only [List.mem_flatten] at hb
 obtain ⟨l, hl, hb⟩ := hb
 obtain ⟨i, hi, rfl⟩ := List.getElem_of_mem hl
 exact ⟨i, hi, hb⟩
theorem ZdF  (h : b < w.heap.size) (e : w'.heap[b]? = w.heap[b]?) : b < w'.heap.size := by
 rcases Nat.lt_or_ge b w'.heap.size with h3 | h3
 ·exact h3
 ·rw [Array.getElem?_eq_none h3, Array.getElem?_eq_getElem h] at e; simp at e
theorem own_inv {a : Option Addr} {n : Nat} (h : b ∈ own a n) : ∃ p, a = some p ∧ 0 < n ∧ p.block = b := by
 unfold own at h
 split at h
 ·simp at h
 ·simp only [Option.mem_toList, Option.map_eq_some_iff] at h
  obtain ⟨p, hp, rfl⟩ := h
  exact ⟨p, hp, by omega, rfl⟩
theorem ZpM (a : Option Addr) (n : Nat) : (own a n).Nodup := by
 unfold own
 split
 ·simp
 ·cases a <;> simp
theorem GRep.lt  {x : GV} (h : GRep w F v x) : ∀ b ∈ F, b < w.heap.size := by
 induction h with
 | atom x hx => intro b hb; simp at hb
 | fn f vs gs Fs hv hF h ih => intro b hb; obtain ⟨i, hi, hb⟩ := Zaq hb; exact ih i (hF ▸ hi) b hb
 | agg vs gs Fs hv hF h1 hg h ih => intro b hb; obtain ⟨i, hi, hb⟩ := Zaq hb; exact ih i (hF ▸ hi) b hb
 | tup vs gs Fs hv hF h ih => intro b hb; obtain ⟨i, hi, hb⟩ := Zaq hb; exact ih i (hF ▸ hi) b hb
 | box b vs gs Fs hb hv hF h1 hg hc h ih =>
  intro b' hb'
  rcases List.mem_cons.1 hb' with rfl | hb'
  ·exact hb
  ·obtain ⟨i, hi, hb'⟩ := Zaq hb'; exact ih i (hF ▸ hi) b' hb'
 | sl a cap e vs gs Fs hv hF he hg le max nil ad hc h rm ih =>
  intro b hb
  rcases List.mem_append.1 hb with hb | hb
  ·obtain ⟨p, hp, hc, rfl⟩ := own_inv hb
   exact (ad p hp hc).2
  ·obtain ⟨i, hi, hb⟩ := Zaq hb; exact ih i (hF ▸ hi) b hb
 | ex v e xs F h ih => exact ih
 | raw c v h => intro b hb; simp at hb
 | bd v N e xs F h hN ih => exact ih
theorem GRep.keep  {x : GV} (h : GRep w F v x) (hk : ∀ b ∈ F, w'.heap[b]? = w.heap[b]?) : GRep w' F v x := by
 induction h with
 | atom x hx => exact .atom x hx
 | fn f vs gs Fs hv hF h ih => exact .fn f vs gs Fs hv hF fun i hi => ih i hi fun b hb => hk b (Zac _ hb)
 | agg vs gs Fs hv hF h1 hg h ih => exact .agg vs gs Fs hv hF h1 hg fun i hi => ih i hi fun b hb => hk b (Zac _ hb)
 | tup vs gs Fs hv hF h ih => exact .tup vs gs Fs hv hF fun i hi => ih i hi fun b hb => hk b (Zac _ hb)
 | box b vs gs Fs hb hv hF h1 hg hc h ih =>
  refine .box b vs gs Fs (ZdF hb (hk b (by simp))) hv hF h1 hg (fun i hi => ?_) fun i hi => ih i hi fun b hb => hk b (List.mem_cons_of_mem _ (Zac _ hb))
  rw [World.cell?_of_block (w := w) (hk b (by simp))]; exact hc i hi
 | sl a cap e vs gs Fs hv hF he hg le max nil ad hc h rm ih =>
  have hblk : ∀ p, a = some p → 0 < cap → w'.heap[p.block]? = w.heap[p.block]? := fun p hp hc => hk p.block (List.mem_append.2 (.inl (Zce hp hc)))
  refine .sl a cap e vs gs Fs hv hF he hg le max nil (fun p hp hc => ⟨(ad p hp hc).1, ZdF (ad p hp hc).2 (hblk p hp hc)⟩) (fun k hk' => ⟨(hc k hk').1, (hc k hk').2.1, fun j hj => ?_⟩) (fun i hi => ih i hi fun b hb => hk b (List.mem_append.2 (.inr (Zac _ hb)))) fun i hi => ?_
  rotate_left
  ·cases a with
   | none => have := nil rfl; subst this; simp at hi
   | some p =>
    have hc0 : 0 < cap := by
      apply Classical.byContradiction; intro h0; have : cap = 0 := by omega
      subst this; simp at hi
    have hb : w'.heap[(sAt (some p) i).block]? = w.heap[(sAt (some p) i).block]? := by rw [ZhY rfl]; exact hblk p rfl hc0
    rw [World.cell?_of_block hb, World.frozen?_of_block hb]
    exact rm i hi
  cases a with
  | none => have := nil rfl; omega
  | some p =>
   have hb : w'.heap[(sAt (some p) (k * e + j)).block]? = w.heap[(sAt (some p) (k * e + j)).block]? := by rw [ZhY rfl]; exact hblk p rfl (by omega)
   rw [World.cell?_of_block hb, World.frozen?_of_block hb]
   exact (hc k hk').2.2 j hj
 | ex v e xs F h ih => exact .ex v e xs F (ih hk)
 | raw c v h => exact .raw c v h
 | bd v N e xs F h hN ih => exact .bd v N e xs F (ih hk) hN
theorem GRep.keeps {L : List Nat}    {x : GV} (h : GRep w F v x) (hk : Keeps L w w') (hd : ∀ b ∈ F, b ∉ L) : GRep w' F v x :=
 h.keep fun b hb => hk.block b (h.lt b hb) (hd b hb)
theorem GRep.keeps0  {x : GV} (h : GRep w F v x) (hk : Keeps [] w w') : GRep w' F v x := h.keeps hk (by simp)
theorem GRep.one {w : World} {F : List Nat} {v : Value} {x : GV} (h : GRep w F v x) : v.cells.size = x.ncells ∧ (∀ u ∈ v.cells.toList, u.oneCell' = true) ∨ (∃ vs, x = .tup vs) := by
 cases h with
 | atom x hx => cases x <;> simp [GV.atom] at hx <;> exact .inl (by simp [ZcL, Value.cells, GV.ncells, Value.oneCell'])
 | fn f vs gs Fs hv hF h => exact .inl (by simp [Value.cells, GV.ncells, Value.oneCell'])
 | agg vs gs Fs hv hF h1 hg h => exact .inl ⟨by simp [Value.cells, GV.ncells, hv], by simpa [Value.cells] using h1⟩
 | tup => exact .inr ⟨_, rfl⟩
 | box => exact .inl (by simp [Value.cells, GV.ncells, Value.oneCell'])
 | sl => exact .inl (by simp [Value.cells, GV.ncells, Value.oneCell'])
 | ex v e xs F h =>
  cases h with
  | atom x hx => simp [GV.atom] at hx
  | sl => exact .inl (by simp [Value.cells, GV.ncells, Value.oneCell'])
 | raw c v h => exact .inl (by cases v <;> simp_all [Value.cells, GV.ncells, Value.oneCell'])
 | bd v N e xs F h hN =>
  cases h with
  | atom x hx => simp [GV.atom] at hx
  | sl => exact .inl (by simp [Value.cells, GV.ncells, Value.oneCell'])
theorem GRep.unex  {e : Nat} {xs : List GV} (h : GRep w F u (.ex v e xs)) : u = v ∧ GRep w F u (.sl e xs) := by
 cases h with
 | atom x hx => simp [GV.atom] at hx
 | ex v e xs F h2 => exact ⟨rfl, h2⟩
theorem GRep.unbd  {N e : Nat} {xs : List GV} (h : GRep w F u (.bd N e xs)) : GRep w F u (.sl e xs) ∧ ∀ b ∈ F, b < N := by
 cases h with
 | atom x hx => simp [GV.atom] at hx
 | bd v N e xs F h2 h3 => exact ⟨h2, h3⟩
end Go.Proofs.YtjjidamlmebaaaaGreat
namespace Go.Proofs.YtjjidamlmebaaaaGreat
open Go.RowKit
open Shp
variable {α : Type} {vs : Array Value} {v : Value} {b d : Nat} {w' : World}
inductive PV where
 | g (v : GV)
 | undef
 | none_
 | nils (e : Nat)
 | own (id lo len : Nat)
 | ptr (id off : Nat)
 | eptr (id k j : Nat)
 | iptr (cs : List GV)
 | agg (cs : List PV)
 | tup (vs : List PV)
 | fn (f : FuncId) (caps : List PV)
 /-- any value; the package's variable k has these cells -/
 | glob (k : Nat) (cs : List GV)
 deriving Inhabited
inductive Block where
 | free
 | dead
 | box (cs : List PV)
 | arr (e : Nat) (deep : Bool) (xs : List GV)
 /-- an array whose header is this value -/
 | hd (v : Value) (e : Nat) (xs : List GV)
 /-- what the call began with lies behind this many blocks -/
 | lim (N : Nat)
 deriving Inhabited
def Block.live : Block → Bool
 | .box _ | .arr .. | .hd .. | .lim _ => true
 | _ => false
structure AState where
 n : Nat
 slots : Nat → PV
 heap : Nat → Block
 nx : Nat
def upd {α : Type} (f : Nat → α) (k : Nat) (v : α) : Nat → α := fun x => if x = k then v else f x
theorem Zan  (f : Nat → α) (k : Nat) (v : α) : upd f k v k = v := by simp [upd]
theorem Zay  (f : Nat → α) (k : Nat) (v : α) {x : Nat} (h : x ≠ k) : upd f k v x = f x := by simp [upd, h]
abbrev Lay := Nat → Option (Nat × Nat)
def Root (μ : Lay) (h : Nat → Block) (b : Nat) : Prop := ∃ id d, (h id).live = true ∧ μ id = some (b, d)
structure FT where
 t : TypeId
 m : Bool
def FT.z (f : FT) (n : Nat) : Nat × Nat := match f.m with
 | true => (n, n + 1)
 | false => (0, 0)
abbrev cel (vs : Array Value) (f : FT) : Obj := .cells vs f.t (f.z vs.size)
theorem FT.inj {f g : FT} {n : Nat} (h : f.t = g.t) (hz : f.z n = g.z n) : f = g := by
 cases f with
 | mk a b => cases g with
  | mk c d =>
   simp only at h
   subst h
   cases b <;> cases d <;> simp [FT.z] at hz <;> rfl
theorem Zl7 {vs' : Array Value} {f g : FT} {o : Option Obj} (h : o = some (cel vs f)) (h' : o = some (cel vs' g)) : vs = vs' ∧ f = g := by
 rw [h] at h'
 simp only [Option.some.injEq, Obj.cells.injEq] at h'
 obtain ⟨rfl, h1, h2⟩ := h'
 exact ⟨rfl, FT.inj h1 h2⟩
theorem Zpn  {i : Nat}  (h : vs[i]? = some v) : i < vs.size := (Array.getElem?_eq_some_iff.1 h).1
theorem ZeO {w : World} {i : Nat}  {f : FT} (h : w.heap[b]? = some (cel vs f)) (hi : i < vs.size) : w.frozen? ⟨b, i, none⟩ = false := by
 cases f with
 | mk t m =>
  cases m with
  | false => exact frozen_of_row w b i vs t h
  | true =>
   have h' : w.heap[b]? = some (.cells vs t (vs.size, vs.size + 1)) := h
   simp only [World.frozen?, h']
   simp
   omega
theorem ZtO {w : World} {i : Nat}  {f : FT}  (h : w.heap[b]? = some (cel vs f)) : (w.setCell ⟨b, i, none⟩ v).heap[b]? = some (cel (vs.setIfInBounds i v) f) := by
 have e : f.z (vs.setIfInBounds i v).size = f.z vs.size := by simp
 simp [World.setCell, Array.getElem?_modify, h, cel, e]
def Zbp (w : World) (μ : Lay) (id e lo len : Nat) (v : Value) : Prop :=
 match μ id with
 | some (b, d) => ∃ cap o, v = .slice (some ⟨b, o, none⟩) len cap ∧ len ≤ cap ∧ cap ≤ 9223372036854775807 ∧ ∃ vs t, w.heap[b]? = some (cel vs t) ∧ (0 < cap → o = d + lo * e) ∧ o + cap * e ≤ vs.size
 | none => (∃ a, v = .slice a 0 0) ∧ lo = 0 ∧ len = 0
inductive PRep (w : World) (μ : Lay) (h : Nat → Block) : Value → PV → Prop
 | g (v : Value) (x : GV) (F : List Nat) : GRep w F v x → (∀ b ∈ F, ¬ Root μ h b) → PRep w μ h v (.g x)
 | undef (v : Value) : PRep w μ h v .undef
 | none_ : PRep w μ h Go.undef .none_
 | nils (e : Nat) : 0 < e → PRep w μ h (.slice none 0 0) (.nils e)
 | own (v : Value) (id lo len : Nat) : v.oneCell' = true → h id ≠ .free → (∀ e dp xs, h id = .arr e dp xs → Zbp w μ id e lo len v) → PRep w μ h v (.own id lo len)
 | ptr (v : Value) (id off : Nat) : v.oneCell' = true → h id ≠ .free → (∀ cs, h id = .box cs → ∃ b, μ id = some (b, 0) ∧ v = .pointer (some ⟨b, off, none⟩)) → PRep w μ h v (.ptr id off)
 | eptr (v : Value) (id k j : Nat) : v.oneCell' = true → h id ≠ .free → (∀ e dp xs, h id = .arr e dp xs → ∃ b d, μ id = some (b, d) ∧ v = .pointer (some ⟨b, d + k * e + j, none⟩)) → PRep w μ h v (.eptr id k j)
 | iptr (v : Value) (p : Addr) (cs : List GV) (vs : List Value) (Fs : List (List Nat)) (hp : v = .pointer (some p)) (hs : p.spot = none) (hv : vs.length = cs.length) (hF : Fs.length = cs.length)
   (hb : p.block < w.heap.size) (hr : ¬ Root μ h p.block)
   (hc : ∀ i (hi : i < vs.length), w.cell? (p.add i) = some vs[i] ∧ (vs[i]).oneCell' = true) (hg : ∀ x ∈ cs, x.ncells = 1)
   (he : ∀ i (hi : i < cs.length), GRep w (Fs[i]'(hF ▸ hi)) (vs[i]'(hv ▸ hi)) cs[i]) (hd : ∀ b ∈ Fs.flatten, ¬ Root μ h b) : PRep w μ h v (.iptr cs)
 | agg (vs : List Value) (cs : List PV) (hv : vs.length = cs.length) (h1 : ∀ v ∈ vs, v.oneCell' = true) (he : ∀ i (hi : i < cs.length), PRep w μ h (vs[i]'(hv ▸ hi)) cs[i]) : PRep w μ h (.agg vs.toArray) (.agg cs)
 | tup (vs : List Value) (cs : List PV) (hv : vs.length = cs.length) (he : ∀ i (hi : i < cs.length), PRep w μ h (vs[i]'(hv ▸ hi)) cs[i]) : PRep w μ h (.tuple vs.toArray) (.tup cs)
 | fn (f : FuncId) (vs : List Value) (cs : List PV) (hv : vs.length = cs.length) (he : ∀ i (hi : i < cs.length), PRep w μ h (vs[i]'(hv ▸ hi)) cs[i]) : PRep w μ h (.func (.func f) #[] vs.toArray) (.fn f cs)
 | glob (v : Value) (k : Nat) (cs : List GV) (F : List Nat) : GRep w F (.pointer (some ⟨k, 0, none⟩)) (.box cs) → (∀ b ∈ F, ¬ Root μ h b) → PRep w μ h v (.glob k cs)
theorem PRep.glob_inv {w : World} {μ : Lay} {h : Nat → Block}  {k : Nat} {cs : List GV} (hv : PRep w μ h v (.glob k cs)) : ∃ F, GRep w F (.pointer (some ⟨k, 0, none⟩)) (.box cs) ∧ ∀ b ∈ F, ¬ Root μ h b := by
 cases hv with | glob v k cs F hg hd => exact ⟨F, hg, hd⟩
structure RowRep (w : World) (vs : Array Value) (d e : Nat) (xs : List GV) (Fs : List (List Nat)) (els : List Value) : Prop where
 len : els.length = xs.length
 fl : Fs.length = xs.length
 fit : d + xs.length * e ≤ vs.size
 nc : ∀ k (hk : k < xs.length), (xs[k]).ncells = e
 el : ∀ k (hk : k < xs.length), GRep w (Fs[k]'(fl ▸ hk)) (els[k]'(len ▸ hk)) xs[k]
 sz : ∀ k (hk : k < els.length), (els[k]).cells.size = e ∧ ∀ v ∈ (els[k]).cells.toList, v.oneCell' = true
 cell : ∀ k (hk : k < els.length), ∀ j, j < e → vs[d + k * e + j]? = (els[k]).cells[j]?
structure W0 where
 w : World
 D : List Nat
 /-- what slots hold that are never written; at 70000: the blocks of D count as new ones -/
 p : Nat → Option Value
def New (w0 : W0) (b : Nat) : Prop := w0.w.heap.size ≤ b ∨ ((w0.p 70000).isSome = true ∧ b ∈ w0.D)
def np0 : Nat → Option Value := fun _ => none
def Plain (w : World) (b : Nat) : Prop := ∃ vs t, w.heap[b]? = some (cel vs t)
theorem Plain.keep {w : World}  (h : Plain w b) (e : w'.heap[b]? = w.heap[b]?) : Plain w' b := by obtain ⟨vs, t, h⟩ := h; exact ⟨vs, t, e.trans h⟩
theorem Plain.lt {w : World} {b : Nat} (h : Plain w b) : b < w.heap.size := by
 obtain ⟨vs, t, h⟩ := h
 rcases Nat.lt_or_ge b w.heap.size with h3 | h3
 ·exact h3
 ·rw [Array.getElem?_eq_none h3] at h; cases h
def NewB (w0 : W0) (w : World) (b : Nat) : Prop := New w0 b ∧ Plain w b
theorem NewB.keep {w0 : W0} {w w' : World} {b : Nat} (h : NewB w0 w b) (e : w'.heap[b]? = w.heap[b]?) : NewB w0 w' b := ⟨h.1, h.2.keep e⟩
theorem NewB.keeps {w0 : W0} {w : World} {L : List Nat}  (h : NewB w0 w b) (hk : Keeps L w w') (hb : b ∉ L) : NewB w0 w' b := h.keep (hk.block b h.2.lt hb)
theorem NewB.keeps0 {w0 : W0} {w : World}  (h : NewB w0 w b) (hk : Keeps [] w w') : NewB w0 w' b := h.keeps hk (by simp)
theorem New.old {w : World} {D : List Nat} {p : Nat → Option Value} (hp : p 70000 = none)  (h : New ⟨w, D, p⟩ b) : w.heap.size ≤ b := by
 rcases h with h | ⟨h, _⟩
 ·exact h
 ·simp only [hp] at h; cases h
def Base (w0 : W0) (B : Block) (b : Nat) : Prop := New w0 b ∨ (b ∈ w0.D ∧ ∃ cs, B = .box cs)
theorem Base.arr {w0 : W0} {B : Block} {b : Nat} (h : Base w0 B b) {e : Nat} {dp : Bool} {xs : List GV} (hb : B = .arr e dp xs) : New w0 b := by
 rcases h with h | ⟨_, cs, h⟩
 ·exact h
 ·rw [hb] at h; cases h
theorem Base.kind {w0 : W0} {B B' : Block}  (h : Base w0 B b) (hk : (∃ cs, B = .box cs) → ∃ cs, B' = .box cs) : Base w0 B' b := h.imp id fun ⟨a, c⟩ => ⟨a, hk c⟩
def BRep (w0 : W0) (w : World) (μ : Lay) (h : Nat → Block) (who : Nat → Option Nat) (id : Nat) : Block → Prop
 | .free => True
 | .dead => True
 | .box cs => ∃ b vs t, μ id = some (b, 0) ∧ w.heap[b]? = some (.cells vs t (0, 0)) ∧ vs.size = cs.length ∧ (∀ v ∈ vs.toList, v.oneCell' = true) ∧ ∀ i (hi : i < cs.length), PRep w μ h (vs.getD i Go.undef) cs[i]
 | .arr e dp xs => 0 < e ∧ match μ id with
  | none => xs = []
  | some (b, d) => ∃ vs t Fs els, w.heap[b]? = some (cel vs t) ∧ RowRep w vs d e xs Fs els ∧ (∀ b ∈ Fs.flatten, ¬ Root μ h b) ∧ (dp = true → Fs.flatten.Nodup ∧ ∀ b ∈ Fs.flatten, who b = some id ∧ NewB w0 w b)
 | .hd v e xs => 0 < e ∧ v.oneCell' = true ∧ Zbp w μ id e 0 xs.length v ∧ match μ id with
  | none => xs = []
  | some (b, d) => ∃ vs t Fs els, w.heap[b]? = some (cel vs t) ∧ RowRep w vs d e xs Fs els ∧ (∀ b ∈ Fs.flatten, ¬ Root μ h b) ∧ Fs.flatten.Nodup ∧ ∀ b ∈ Fs.flatten, who b = some id ∧ NewB w0 w b
 | .lim N => (N ≤ w0.w.heap.size ∧ w0.p 70000 = none) ∧ μ id = none
def pinned (n t : Nat) : Bool := Nat.beq ((n / 2 ^ (16 + t)) % 2) 1
def hasB (d n : Nat) : Bool := Nat.blt d (n % 65536) && !pinned n d
theorem ZdB {n : Nat} (h : n < 65536) (t : Nat) : pinned n t = false := by
 have : n / 2 ^ (16 + t) = 0 := Nat.div_eq_of_lt (Nat.lt_of_lt_of_le h (Nat.pow_le_pow_right (by omega) (by omega) : 2 ^ 16 ≤ 2 ^ (16 + t)))
 unfold pinned; rw [this]; rfl
structure RelAt (w0 : W0) (S : AState) (a : Act) (w : World) (μ : Lay) (who : Nat → Option Nat) : Prop where
 size : a.tmps.size = S.n % 65536
 slot : ∀ t, PRep w μ S.heap (a.tmps.getD t Go.undef) (S.slots t)
 dfr : a.defers = []
 blk : ∀ id, BRep w0 w μ S.heap who id (S.heap id)
 inj : ∀ i j b d d', (S.heap i).live = true → (S.heap j).live = true → μ i = some (b, d) → μ j = some (b, d') → i = j
 base : ∀ i b d, (S.heap i).live = true → μ i = some (b, d) → Base w0 (S.heap i) b ∧ b < w.heap.size
 keep : Keeps w0.D w0.w w
 old : (∀ t x, pinned S.n t = true → S.slots t = .g x → ∃ F, GRep w0.w F (a.tmps.getD t Go.undef) x ∧ ∀ b ∈ F, b ∉ w0.D) ∧ ∀ t v, w0.p t = some v → t < 65536 → pinned S.n t = true ∧ a.tmps.getD t Go.undef = v
def Rel (w0 : W0) (S : AState) (a : Act) (w : World) : Prop := ∃ μ who, RelAt w0 S a w μ who
theorem Root.mono {μ : Lay} {h h' : Nat → Block} (hh : ∀ id, (h' id).live = true → (h id).live = true)  (hr : Root μ h' b) : Root μ h b := by
 obtain ⟨id, d, h1, h2⟩ := hr
 exact ⟨id, d, hh id h1, h2⟩
structure Move (w w' : World) (μ μ' : Lay) (h h' : Nat → Block) : Prop where
 /-- blocks that are not written are as they were, and are not written from now on -/
 old : ∀ b, b < w.heap.size → ¬ Root μ h b → w'.heap[b]? = w.heap[b]? ∧ ¬ Root μ' h' b
 row : ∀ id b d, (h' id).live = true → (h id).live = true → μ' id = some (b, d) → μ id = some (b, d) → ∀ vs t, w.heap[b]? = some (cel vs t) → ∃ vs' t', w'.heap[b]? = some (cel vs' t') ∧ vs'.size = vs.size
 free : ∀ id, h' id = .free → h id = .free
 arr : ∀ id e dp xs, h id ≠ .free → h' id = .arr e dp xs → μ' id = μ id ∧ ∃ dp' xs', h id = .arr e dp' xs'
 box : ∀ id cs, h id ≠ .free → h' id = .box cs → μ' id = μ id ∧ ∃ cs', h id = .box cs'
theorem PRep.move {w : World} {μ μ' : Lay} {h h' : Nat → Block}  {x : PV} (hm : Move w w' μ μ' h h') (hr : PRep w μ h v x) : PRep w' μ' h' v x := by
 induction hr with
 | g v x F hg hd => exact .g v x F (hg.keep fun b hb => (hm.old b (hg.lt b hb) (hd b hb)).1) fun b hb => (hm.old b (hg.lt b hb) (hd b hb)).2
 | undef v => exact .undef v
 | none_ => exact .none_
 | nils e he => exact .nils e he
 | own v id lo len h1 hf ho =>
  refine .own v id lo len h1 (fun e => hf (hm.free id e)) fun e dp xs hx => ?_
  obtain ⟨e1, dp', xs', e2⟩ := hm.arr id e dp xs hf hx
  have h3 := ho e dp' xs' e2
  unfold Zbp at *
  rw [e1]
  cases hμ : μ id with
  | none => simpa only [hμ] using h3
  | some bd =>
   obtain ⟨b, d⟩ := bd
   simp only [hμ] at h3 ⊢
   obtain ⟨cap, o, hv, hl, hc, vs, t, hw, ho2, hs⟩ := h3
   obtain ⟨vs', t', hw', hs'⟩ := hm.row id b d (by rw [hx]; rfl) (by rw [e2]; rfl) (by rw [e1]; exact hμ) hμ vs t hw
   exact ⟨cap, o, hv, hl, hc, vs', t', hw', ho2, by omega⟩
 | ptr v id off h1 hf ho =>
  refine .ptr v id off h1 (fun e => hf (hm.free id e)) fun cs hx => ?_
  obtain ⟨e1, cs', e2⟩ := hm.box id cs hf hx
  obtain ⟨b, h3, h2⟩ := ho cs' e2
  exact ⟨b, by rw [e1]; exact h3, h2⟩
 | eptr v id k j h1 hf ho =>
  refine .eptr v id k j h1 (fun e => hf (hm.free id e)) fun e dp xs hx => ?_
  obtain ⟨e1, dp', xs', e2⟩ := hm.arr id e dp xs hf hx
  obtain ⟨b, d, h3, h2⟩ := ho e dp' xs' e2
  exact ⟨b, d, by rw [e1]; exact h3, h2⟩
 | iptr v p cs vs Fs hp hs hv hF hb hr hc hg he hd =>
  have hblk := hm.old p.block hb hr
  refine .iptr v p cs vs Fs hp hs hv hF (ZdF hb hblk.1) hblk.2 (fun i hi => ⟨?_, (hc i hi).2⟩) hg (fun i hi => (he i hi).keep fun b hb' => ?_) fun b hb' => ?_
  ·have e : (p.add i).block = p.block := by unfold Addr.add; split <;> rfl
   rw [World.cell?_of_block (w := w) (by rw [e]; exact hblk.1)]
   exact (hc i hi).1
  ·exact (hm.old b ((he i hi).lt b hb') (hd b (Zac _ hb'))).1
  ·obtain ⟨i, hi, hb''⟩ := Zaq hb'
   exact (hm.old b ((he i (hF ▸ hi)).lt b hb'') (hd b hb')).2
 | agg vs cs hv h1 he ih => exact .agg vs cs hv h1 ih
 | tup vs cs hv he ih => exact .tup vs cs hv ih
 | fn f vs cs hv he ih => exact .fn f vs cs hv ih
 | glob v k cs F hg hd => exact .glob v k cs F (hg.keep fun b hb => (hm.old b (hg.lt b hb) (hd b hb)).1) fun b hb => (hm.old b (hg.lt b hb) (hd b hb)).2
theorem RowRep.move {w : World} {μ μ' : Lay} {h h' : Nat → Block} (hm : Move w w' μ μ' h h')  {e : Nat} {xs : List GV} {Fs : List (List Nat)} {els : List Value} (hr : RowRep w vs d e xs Fs els) (hd : ∀ b ∈ Fs.flatten, ¬ Root μ h b) :
  RowRep w' vs d e xs Fs els ∧ ∀ b ∈ Fs.flatten, ¬ Root μ' h' b := by
 have key : ∀ b ∈ Fs.flatten, w'.heap[b]? = w.heap[b]? ∧ ¬ Root μ' h' b := fun b hb => by
  obtain ⟨i, hi, hb'⟩ := Zaq hb
  exact hm.old b ((hr.el i (hr.fl ▸ hi)).lt b hb') (hd b hb)
 exact ⟨⟨hr.len, hr.fl, hr.fit, hr.nc, fun k hk => (hr.el k hk).keep fun b hb => (key b (Zac _ hb)).1, hr.sz, hr.cell⟩, fun b hb => (key b hb).2⟩
theorem BRep.move {w0 : W0} {w w' : World} {μ μ' : Lay} {h h' : Nat → Block} {who who' : Nat → Option Nat} {id : Nat} {B : Block} (hm : Move w w' μ μ' h h') (hr : BRep w0 w μ h who id B)
  (hμ : B.live = true → μ' id = μ id) (hrow : ∀ b d, B.live = true → μ id = some (b, d) → w'.heap[b]? = w.heap[b]?) (hwho : ∀ b, b < w.heap.size → ¬ Root μ h b → who b = some id → who' b = some id) : BRep w0 w' μ' h' who' id B := by
 cases B with
 | free => trivial
 | dead => trivial
 | box cs =>
  obtain ⟨b, vs, t, h1, h2, h3, h5, h4⟩ := hr
  exact ⟨b, vs, t, by rw [hμ rfl]; exact h1, by rw [hrow b 0 rfl h1]; exact h2, h3, h5, fun i hi => (h4 i hi).move hm⟩
 | arr e dp xs =>
  obtain ⟨he, h1⟩ := hr
  refine ⟨he, ?_⟩
  rw [hμ rfl]
  cases hb : μ id with
  | none => simpa only [hb] using h1
  | some bd =>
   obtain ⟨b, d⟩ := bd
   simp only [hb] at h1 ⊢
   obtain ⟨vs, t, Fs, els, h2, h3, h4, h5⟩ := h1
   obtain ⟨h6, h7⟩ := h3.move hm h4
   exact ⟨vs, t, Fs, els, by rw [hrow b d rfl hb]; exact h2, h6, h7, fun hd => ⟨(h5 hd).1, fun b hb => ⟨hwho b ((h5 hd).2 b hb).2.2.lt (h4 b hb) ((h5 hd).2 b hb).1, ((h5 hd).2 b hb).2.keep (hm.old b ((h5 hd).2 b hb).2.2.lt (h4 b hb)).1⟩⟩⟩
 | hd v e xs =>
  obtain ⟨he, hv, ho, h1⟩ := hr
  refine ⟨he, hv, ?_, ?_⟩
  ·unfold Zbp at *
   rw [hμ rfl]
   cases hb : μ id with
   | none => simpa only [hb] using ho
   | some bd =>
    obtain ⟨b, d⟩ := bd
    simp only [hb] at ho ⊢
    obtain ⟨cap, o, e1, e2, e3, vs, t, e4, e5, e6⟩ := ho
    exact ⟨cap, o, e1, e2, e3, vs, t, by rw [hrow b d rfl hb]; exact e4, e5, e6⟩
  ·rw [hμ rfl]
   cases hb : μ id with
   | none => simpa only [hb] using h1
   | some bd =>
    obtain ⟨b, d⟩ := bd
    simp only [hb] at h1 ⊢
    obtain ⟨vs, t, Fs, els, h2, h3, h4, h5, h6'⟩ := h1
    obtain ⟨h6, h7⟩ := h3.move hm h4
    exact ⟨vs, t, Fs, els, by rw [hrow b d rfl hb]; exact h2, h6, h7, h5, fun b hb => ⟨hwho b (h6' b hb).2.2.lt (h4 b hb) (h6' b hb).1, (h6' b hb).2.keep (hm.old b (h6' b hb).2.2.lt (h4 b hb)).1⟩⟩
 | lim N => exact ⟨hr.1, by rw [hμ rfl]; exact hr.2⟩
theorem Move.refl (w : World) (μ : Lay) (h : Nat → Block) : Move w w μ μ h h :=
 ⟨fun _ _ hr => ⟨rfl, hr⟩, fun _ _ _ _ _ _ _ vs t hw => ⟨vs, t, hw, rfl⟩, fun _ h => h, fun _ e dp xs _ h => ⟨rfl, dp, xs, h⟩, fun _ cs _ h => ⟨rfl, cs, h⟩⟩
theorem Move.keeps {w : World} {μ : Lay} {h : Nat → Block} (hb : ∀ i b d, (h i).live = true → μ i = some (b, d) → b < w.heap.size) (hk : Keeps [] w w') : Move w w' μ μ h h :=
 ⟨fun b hlt hr => ⟨hk.block b hlt (by simp), hr⟩, fun id b d h1 h2 h3 h4 vs t hw => ⟨vs, t, by rw [hk.block b (hb id b d h2 h4) (by simp)]; exact hw, rfl⟩, fun _ h => h, fun _ e dp xs _ h => ⟨rfl, dp, xs, h⟩, fun _ cs _ h => ⟨rfl, cs, h⟩⟩
theorem RelAt.keeps {w0 : W0} {S : AState} {a : Act} {w w' : World} {μ : Lay} {who : Nat → Option Nat} (h : RelAt w0 S a w μ who) (hk : Keeps [] w w') : RelAt w0 S a w' μ who := by
 have hm : Move w w' μ μ S.heap S.heap := Move.keeps (fun i b d h1 h2 => (h.base i b d h1 h2).2) hk
 exact ⟨h.size, fun t => (h.slot t).move hm, h.dfr, fun id => (h.blk id).move hm (fun _ => rfl) (fun b d hl hb => hk.block b (h.base id b d hl hb).2 (by simp)) (fun _ _ _ h => h), h.inj,
  fun i b d hl hb => ⟨(h.base i b d hl hb).1, Nat.lt_of_lt_of_le (h.base i b d hl hb).2 hk.size⟩, h.keep.transL hk, h.old⟩
def AState.put (S : AState) (dst : Option Nat) (v : PV) : AState :=
 match dst with
 | some d => { S with slots := upd S.slots d v }
 | none => S
def AState.write (S : AState) (id : Nat) (b : Block) : AState := { S with heap := upd S.heap id b }
def AState.has (S : AState) (dst : Option Nat) : Bool :=
 match dst with
 | some d => hasB d S.n
 | none => true
theorem ZjU  {t : Nat} {u : Value} (h : d < vs.size) : (vs.setIfInBounds d v).getD t u = if t = d then v else vs.getD t u := by
 by_cases e : t = d
 ·subst e; simp [Array.getD, h]
 ·simp only [Array.getD, Array.size_setIfInBounds, e, if_false]
  split
  ·rw [Array.getInternal_eq_getElem, Array.getInternal_eq_getElem, Array.getElem_setIfInBounds_ne _ (by omega)]
  ·rfl
theorem RelAt.put {w0 : W0} {S : AState} {a : Act} {w : World} {μ : Lay} {who : Nat → Option Nat} (h : RelAt w0 S a w μ who) {dst : Option Nat} (hd : S.has dst = true) {v : Value} {x : PV} (hv : PRep w μ S.heap v x) : RelAt w0 (S.put dst x) (a.put dst v) w μ who := by
 cases dst with
 | none => exact h
 | some d =>
  have hd2 : hasB d S.n = true := hd
  unfold hasB at hd2
  simp only [Bool.and_eq_true, Bool.not_eq_true'] at hd2
  have hd' : d < a.tmps.size := by rw [h.size]; exact Nat.le_of_ble_eq_true hd2.1
  refine ⟨by simp [Act.put, AState.put, h.size], fun t => ?_, h.dfr, h.blk, h.inj, h.base, h.keep, fun t y hp hx => ?_, fun t v hv ht => ?_⟩
  rotate_left
  ·have hp' : pinned S.n t = true := hp
   have hne : t ≠ d := by rintro rfl; rw [hd2.2] at hp'; cases hp'
   simp only [AState.put, upd, if_neg hne] at hx
   simp only [Act.put]; rw [ZjU hd', if_neg hne]; exact h.old.1 t y hp' hx
  ·obtain ⟨q1, q2⟩ := h.old.2 t v hv ht
   have hne : t ≠ d := by rintro rfl; rw [hd2.2] at q1; cases q1
   refine ⟨q1, ?_⟩
   simp only [Act.put]; rw [ZjU hd', if_neg hne]; exact q2
  simp only [Act.put, AState.put, upd]
  rw [ZjU hd']
  split
  ·exact hv
  ·exact h.slot t
end Go.Proofs.YtjjidamlmebaaaaGreat
namespace Go.Proofs.YtjjidamlmebaaaaGreat
open Go.RowKit
open Shp
variable {μ : Lay} {id : Nat} {w0 : W0} {a : Act} {w : World} {v : Value} {F ks : List Nat} {x : GV}
theorem Root.kill  {h : Nat → Block} {b : Nat} (hr : Root μ (upd h id .dead) b) : Root μ h b := by
 refine hr.mono fun i hi => ?_
 unfold upd at hi
 split at hi
 ·cases hi
 ·exact hi
theorem Move.kill (w : World) (μ : Lay) (h : Nat → Block) {id : Nat} (hid : h id ≠ .free) : Move w w μ μ h (upd h id .dead) := by
 refine ⟨fun _ _ hr => ⟨rfl, fun hr' => hr hr'.kill⟩, fun _ _ _ _ _ _ _ vs t hw => ⟨vs, t, hw, rfl⟩, fun i hi => ?_, fun i e dp xs hf hi => ⟨rfl, ?_⟩, fun i cs hf hi => ⟨rfl, ?_⟩⟩
 ·unfold upd at hi; split at hi
  ·cases hi
  ·exact hi
 ·unfold upd at hi; split at hi
  ·cases hi
  ·exact ⟨dp, xs, hi⟩
 ·unfold upd at hi; split at hi
  ·cases hi
  ·exact ⟨cs, hi⟩
theorem RelAt.kill {w0 : W0} {S : AState} {a : Act} {w : World} {μ : Lay} {who who' : Nat → Option Nat} (h : RelAt w0 S a w μ who) {id : Nat} (hid : S.heap id ≠ .free) (hw : ∀ b j, j ≠ id → ¬ Root μ S.heap b → who b = some j → who' b = some j) :
  RelAt w0 (S.write id .dead) a w μ who' := by
 have hm := Move.kill w μ S.heap hid
 have hl : ∀ i, ((S.write id .dead).heap i).live = true → i ≠ id ∧ (S.heap i).live = true := fun i hi => by
  simp only [AState.write, upd] at hi
  split at hi
  ·cases hi
  ·exact ⟨by assumption, hi⟩
 refine ⟨h.size, fun t => (h.slot t).move hm, h.dfr, fun i => ?_, fun i j b d d' hi hj => h.inj i j b d d' (hl i hi).2 (hl j hj).2, fun i b d hi hm' => (by have e2 : (S.write id .dead).heap i = S.heap i := (by simp [AState.write, Zay _ _ _ (hl i hi).1]); rw [e2]; exact h.base i b d (hl i hi).2 hm'), h.keep, h.old⟩
 by_cases e : i = id
 ·subst e; simp only [AState.write, Zan]; trivial
 ·have : (S.write id .dead).heap i = S.heap i := by simp [AState.write, Zay _ _ _ e]
  rw [this]
  exact (h.blk i).move hm (fun _ => rfl) (fun _ _ _ _ => rfl) (fun b _ => hw b i e)
theorem ZdO {α : Type} {l l' : List (List α)} (h : l.Sublist l') : l.flatten.Sublist l'.flatten := by
 induction h with
 | slnil => exact List.Sublist.refl _
 | cons a h ih => rw [List.flatten_cons]; exact ih.trans (List.sublist_append_right _ _)
 | cons_cons a h ih => rw [List.flatten_cons, List.flatten_cons]; exact (List.Sublist.refl _).append ih
theorem Zh6 (b off n : Nat) : sAt (some ⟨b, off, none⟩) n = ⟨b, off + n, none⟩ := ZfS b off n
theorem RelAt.view  {S : AState}    {who : Nat → Option Nat} (h : RelAt w0 S a w μ who) {e lo len : Nat} {dp : Bool} {xs : List GV} (hx : S.heap id = .arr e dp xs)
   (hv : Zbp w μ id e lo len v) (hle : lo + len ≤ xs.length) :
  ∃ F, GRep w F v (.sl e ((xs.drop lo).take len)) ∧ (∀ b ∈ F, (∃ d, μ id = some (b, d)) ∨ ¬ Root μ S.heap b) ∧ (dp = true → F.Nodup ∧ ∀ b ∈ F, ((∃ d, μ id = some (b, d)) ∨ who b = some id) ∧ NewB w0 w b) ∧ 0 < e ∧ ((∀ x ∈ xs, x.ncells = e)) := by
 have hB := h.blk id
 rw [hx] at hB
 obtain ⟨he, hB⟩ := hB
 unfold Zbp at hv
 cases hμ : μ id with
 | none =>
  simp only [hμ] at hB hv
  obtain ⟨⟨a, rfl⟩, rfl, rfl⟩ := hv
  subst hB
  refine ⟨[], ?_, by simp, by simp, he, by simp⟩
  have := GRep.sl (w := w) a 0 e [] [] [] rfl rfl he (by simp) (by simp) (by simp) (by simp) (by simp) (by intro k hk; simp at hk) (by intro k hk; simp at hk) (by intro k hk; simp at hk)
  simpa [own] using this
 | some bd =>
  obtain ⟨b, d⟩ := bd
  simp only [hμ] at hB hv
  obtain ⟨cap, o, rfl, hlc, hcm, vs0, t0, hrow0, ho0, hfit0⟩ := hv
  obtain ⟨vs, t, Fs, els, hrow, hr, hnr, hdp⟩ := hB
  have hbl : b < w.heap.size := ZbJ hrow
  have hn : ((xs.drop lo).take len).length = len := by simp; omega
  have hg := GRep.sl (w := w) (some ⟨b, o, none⟩) cap e ((els.drop lo).take len) ((xs.drop lo).take len) ((Fs.drop lo).take len)
   (by have := hr.len; simp; omega) (by have := hr.fl; simp; omega) he (fun x hx' => by obtain ⟨k, hk, rfl⟩ := List.getElem_of_mem (List.mem_of_mem_drop (List.mem_of_mem_take hx')); exact hr.nc k hk) (by rw [hn]; exact hlc) hcm (by simp) (by rintro p ⟨rfl⟩ _; exact ⟨rfl, hbl⟩)
   (by
    intro k hk
    have hk' : k < len ∧ lo + k < els.length := by simp at hk; omega
    have hge : ((els.drop lo).take len)[k]'hk = els[lo + k]'hk'.2 := by simp
    rw [hge]
    refine ⟨(hr.sz (lo + k) hk'.2).1, (hr.sz (lo + k) hk'.2).2, fun j hj => ?_⟩
    have hje : j < e := by rw [(hr.sz (lo + k) hk'.2).1] at hj; exact hj
    have hc := hr.cell (lo + k) hk'.2 j hje
    rw [Zh6]
    have ha : o + (k * e + j) = d + (lo + k) * e + j := by rw [ho0 (by omega), Nat.add_mul]; omega
    rw [ha]
    refine ⟨?_, ZeO hrow (Zpn (hc.trans (Array.getElem?_eq_getElem hj)))⟩
    rw [cell_of_row w b _ _ _ _ hrow, hc]
    simp [hj])
   (by
    intro k hk
    have hk' : k < len ∧ lo + k < xs.length := by simp at hk; omega
    have e1 : ((xs.drop lo).take len)[k]'hk = xs[lo + k]'hk'.2 := by simp
    have e2 : ((els.drop lo).take len)[k]'(by simp; have := hr.len; omega) = els[lo + k]'(by have := hr.len; omega) := by simp
    have e3 : ((Fs.drop lo).take len)[k]'(by simp; have := hr.fl; omega) = Fs[lo + k]'(by have := hr.fl; omega) := by simp
    rw [e1, e2, e3]
    exact hr.el (lo + k) hk'.2)
   (fun i hi => by
    rw [Zh6]
    exact ⟨by rw [cell_of_row w b _ _ _ _ hrow0, Array.getElem?_eq_getElem (by omega)]; rfl, ZeO hrow0 (by omega)⟩)
  rw [hn] at hg
  have hsub : ((Fs.drop lo).take len).flatten.Sublist Fs.flatten := by
   exact ZdO ((List.take_sublist _ _).trans (List.drop_sublist _ _))
  have hroot : Root μ S.heap b := ⟨id, d, by rw [hx]; rfl, hμ⟩
  refine ⟨_, hg, fun b' hb' => ?_, fun hd => ⟨?_, fun b' hb' => ?_⟩, he, fun x hx' => ?_⟩
  ·rcases List.mem_append.1 hb' with hb' | hb'
   ·obtain ⟨p, hp, _, rfl⟩ := own_inv hb'
    cases hp
    exact .inl ⟨d, rfl⟩
   ·exact .inr (hnr b' (hsub.subset hb'))
  ·refine List.nodup_append.2 ⟨ZpM _ _, (hdp hd).1.sublist hsub, fun x hx' y hy e => ?_⟩
   obtain ⟨p, hp, _, rfl⟩ := own_inv hx'
   cases hp
   subst e
   exact hnr b (hsub.subset hy) hroot
  ·rcases List.mem_append.1 hb' with hb' | hb'
   ·obtain ⟨p, hp, _, rfl⟩ := own_inv hb'
    cases hp
    exact ⟨.inl ⟨d, rfl⟩, (h.base id b d (by rw [hx]; rfl) hμ).1.arr hx, vs, t, hrow⟩
   ·exact ⟨.inr ((hdp hd).2 b' (hsub.subset hb')).1, ((hdp hd).2 b' (hsub.subset hb')).2⟩
  ·obtain ⟨k, hk, rfl⟩ := List.getElem_of_mem hx'
   exact hr.nc k hk
def GV.flat : GV → Bool
 | .agg cs => cs.all GV.atom
 | v => v.atom
theorem GRep.of_atom  (h : GRep w F v x) (hx : x.atom = true) : F = [] := by
 cases h <;> simp [GV.atom] at hx <;> rfl
theorem GRep.of_flat  (h : GRep w F v x) (hx : x.flat = true) : F = [] := by
 cases h with
 | atom => rfl
 | agg vs gs Fs hv hF h1 hg h =>
  simp only [GV.flat, List.all_eq_true] at hx
  exact Za7 fun k hk => (h k (hF ▸ hk)).of_atom (hx _ (List.getElem_mem _))
 | fn | tup | box | sl | ex | raw | bd => simp [GV.flat, GV.atom] at hx
def GV.scal : GV → Bool
 | .agg _ | .tup _ => false
 | _ => true
theorem GRep.scal_one  (h : GRep w F v x) (hx : x.scal = true) : v.oneCell' = true ∧ x.ncells = 1 := by
 cases h with
 | atom x ha => cases x <;> simp [GV.atom] at ha <;> exact ⟨rfl, rfl⟩
 | agg | tup => simp [GV.scal] at hx
 | fn | box | sl => exact ⟨rfl, rfl⟩
 | ex v e xs F h =>
  cases h with
  | atom x hx2 => simp [GV.atom] at hx2
  | sl => exact ⟨rfl, rfl⟩
 | raw c v h => exact ⟨h, rfl⟩
 | bd v N e xs F h =>
  cases h with
  | atom x hx2 => simp [GV.atom] at hx2
  | sl => exact ⟨rfl, rfl⟩
def killL (h : Nat → Block) : List Nat → Nat → Block
 | [] => h
 | id :: ks => killL (upd h id .dead) ks
def AState.kill (S : AState) (ks : List Nat) : AState := { S with heap := killL S.heap ks }
theorem AState.kill_cons (S : AState) (k : Nat) (ks : List Nat) : S.kill (k :: ks) = (S.write k .dead).kill ks := rfl
theorem AState.kill_app (S : AState) (ks ls : List Nat) : S.kill (ks ++ ls) = (S.kill ks).kill ls := by
 induction ks generalizing S with
 | nil => rfl
 | cons k ks ih => rw [List.cons_append, AState.kill_cons, ih, AState.kill_cons]
theorem ZeT {h : Nat → Block}   (hk : ∀ k ∈ ks, h k ≠ .free) : killL h ks id = .free ↔ h id = .free := by
 induction ks generalizing h with
 | nil => rfl
 | cons k ks ih =>
  rw [killL, ih]
  ·unfold upd; split
   ·rename_i e; subst e; simp [hk id (by simp)]
   ·rfl
  ·intro j hj; unfold upd; split
   ·simp
   ·exact hk j (by simp [hj])
theorem Move.killL (w : World) (μ : Lay) (ks : List Nat) : ∀ (h : Nat → Block), (∀ k ∈ ks, h k ≠ .free) → Move w w μ μ h (killL h ks) := by
 induction ks with
 | nil => exact fun h _ => Move.refl w μ h
 | cons k ks ih =>
  intro h hk
  have h1 := Move.kill w μ h (hk k (by simp))
  have h2 := ih (upd h k .dead) (fun j hj => by
   unfold upd; split
   ·simp
   ·exact hk j (by simp [hj]))
  exact ⟨fun b hb hr => ⟨rfl, (h2.old b hb (h1.old b hb hr).2).2⟩, fun _ _ _ _ _ _ _ vs t hw => ⟨vs, t, hw, rfl⟩, fun i hi => h1.free i (h2.free i hi),
   fun i e dp xs hf hi => by
    obtain ⟨_, dp', xs', h3⟩ := h2.arr i e dp xs (fun e => hf (h1.free i e)) hi
    exact h1.arr i e dp' xs' hf h3,
   fun i cs hf hi => by
    obtain ⟨_, cs', h3⟩ := h2.box i cs (fun e => hf (h1.free i e)) hi
    exact h1.box i cs' hf h3⟩
def Za2 (h : Nat → Block) : PV → Option (GV × List Nat × Bool)
 | .g v => some (v, [], v.flat)
 | .nils e => if 0 < e then some (.sl e [], [], true) else none
 | .own id lo len => match h id with
  | .arr e dp xs => if lo + len ≤ xs.length then some (.sl e ((xs.drop lo).take len), [id], dp) else none
  | _ => none
 | _ => none
def absL (f : (Nat → Block) → PV → Option (GV × List Nat × Bool)) (h : Nat → Block) : List PV → Option (List GV × List Nat × Bool)
 | [] => some ([], [], true)
 | p :: ps => match f h p with
  | some (v, k, d) => match absL f (killL h k) ps with
   | some (vs, ks, ds) => some (v :: vs, k ++ ks, d && ds)
   | none => none
  | none => none
def absE (h : Nat → Block) : PV → Option (GV × List Nat × Bool)
 | .agg cs => match absL Za2 h cs with
  | some (gs, ks, d) => if gs.all (fun x => x.ncells == 1) then some (.agg gs, ks, d) else none
  | none => none
 | p => Za2 h p
def AbsOK (f : (Nat → Block) → PV → Option (GV × List Nat × Bool)) : Prop :=
 ∀ {w0 : W0} {S : AState} {a : Act} {w : World} {μ : Lay} {who : Nat → Option Nat}, RelAt w0 S a w μ who → ∀ {nid : Nat} {v : Value} {p : PV}, PRep w μ S.heap v p →
  ∀ {x : GV} {ks : List Nat} {d : Bool}, f S.heap p = some (x, ks, d) →
  (∀ i ∈ ks, S.heap i ≠ .free) ∧ (nid ∉ ks → ∃ who' F, RelAt w0 (S.kill ks) a w μ who' ∧ GRep w F v x ∧ (∀ b ∈ F, ¬ Root μ (S.kill ks).heap b) ∧ (d = true → F.Nodup ∧ ∀ b ∈ F, who' b = some nid ∧ NewB w0 w b) ∧
   (∀ b, who b = some nid → who' b = some nid) ∧ (∀ G : List Nat, (∀ b ∈ G, ¬ Root μ S.heap b ∧ who b = some nid) → d = true → ∀ b ∈ G, b ∉ F))
theorem absorb_ok : AbsOK Za2 := by
 intro w0 S a w μ who h nid v p hv x k d hx
 cases hv with
 | g v x' F hg hd =>
  simp only [Za2, Option.some.injEq, Prod.mk.injEq] at hx
  obtain ⟨rfl, rfl, rfl⟩ := hx
  refine ⟨by simp, fun _ => ⟨who, F, h, hg, hd, fun hf => ?_, fun _ h => h, fun G _ hf b hb hb' => ?_⟩⟩
  ·rw [hg.of_flat hf]; simp
  ·rw [hg.of_flat hf] at hb'; simp at hb'
 | nils e he =>
  simp only [Za2, he, if_true, Option.some.injEq, Prod.mk.injEq] at hx
  obtain ⟨rfl, rfl, rfl⟩ := hx
  have := GRep.sl (w := w) none 0 e [] [] [] rfl rfl he (by simp) (by simp) (by simp) (by simp) (by simp) (by intro k hk; simp at hk) (by intro k hk; simp at hk) (by intro k hk; simp at hk)
  exact ⟨by simp, fun _ => ⟨who, [], h, by simpa [Shp.own] using this, by simp, by simp, fun _ h => h, by simp⟩⟩
 | own v id lo len ho1 hf ho =>
  simp only [Za2] at hx
  split at hx
  ·rename_i e dp xs hid
   split at hx
   ·rename_i hle
    simp only [Option.some.injEq, Prod.mk.injEq] at hx
    obtain ⟨rfl, rfl, rfl⟩ := hx
    refine ⟨by simp [hid], fun hnk => ?_⟩
    have hoa := ho e dp xs hid
    obtain ⟨F, h1, h2, h3, h4, _⟩ := h.view hid hoa hle
    have hne : id ≠ nid := by intro e; subst e; simp at hnk
    have hlive : (S.heap id).live = true := by rw [hid]; rfl
    have hk1 : ∀ b, Root μ (S.kill [id]).heap b → Root μ S.heap b ∧ ¬ ∃ d, μ id = some (b, d) := fun b hb => by
     refine ⟨Root.kill hb, ?_⟩
     rintro ⟨d, hd⟩
     obtain ⟨i, d', hi, hi'⟩ := hb
     simp only [AState.kill, killL, upd] at hi
     split at hi
     ·cases hi
     ·rename_i hne'
      exact hne' (h.inj i id b d' d hi hlive hi' hd)
    obtain ⟨who', hw1, hw2, hw3⟩ : ∃ who' : Nat → Option Nat, (∀ b j, j ≠ id → ¬ Root μ S.heap b → who b = some j → who' b = some j) ∧ (∀ b, who b = some nid → who' b = some nid) ∧ (∀ b, ((∃ d, μ id = some (b, d)) ∨ who b = some id) → who' b = some nid) := by
     classical
     refine ⟨fun b => if who b = some id ∨ (∃ d, μ id = some (b, d)) then some nid else who b, fun b j hj hr hb => ?_, fun b hb => ?_, fun b hb => ?_⟩
     ·dsimp only
      rw [if_neg ?_]
      ·exact hb
      ·rintro (h' | ⟨d, hd⟩)
       ·rw [hb] at h'; cases h'; exact hj rfl
       ·exact hr ⟨id, d, hlive, hd⟩
     ·dsimp only; split
      ·rfl
      ·exact hb
     ·dsimp only; rw [if_pos hb.symm]
    refine ⟨who', F, ?_, h1, fun b hb hr => ?_, fun hd => ⟨(h3 hd).1, fun b hb => ⟨hw3 b ((h3 hd).2 b hb).1, ((h3 hd).2 b hb).2⟩⟩, hw2, fun G hG hd b hb hb' => ?_⟩
    ·exact h.kill hf hw1
    ·rcases h2 b hb with h5 | h5
     ·exact (hk1 b hr).2 h5
     ·exact h5 (hk1 b hr).1
    ·rcases ((h3 hd).2 b hb').1 with ⟨d, h5⟩ | h5
     ·exact (hG b hb).1 ⟨id, d, hlive, h5⟩
     ·rw [(hG b hb).2] at h5; cases h5; exact hne rfl
   ·cases hx
  ·cases hx
 | undef | none_ | ptr | eptr | iptr | agg | tup | fn | glob => simp [Za2] at hx
theorem ZhM {f : (Nat → Block) → PV → Option (GV × List Nat × Bool)} (hf : AbsOK f)     {nid : Nat} : ∀ (ps : List PV) {S : AState} {who : Nat → Option Nat}, RelAt w0 S a w μ who →
  ∀ (vs : List Value) (hv : vs.length = ps.length), (∀ i (hi : i < ps.length), PRep w μ S.heap (vs[i]'(hv ▸ hi)) ps[i]) → ∀ {gs : List GV} {ks : List Nat} {d : Bool}, absL f S.heap ps = some (gs, ks, d) →
  (∀ i ∈ ks, S.heap i ≠ .free) ∧ (nid ∉ ks → ∃ who', ∃ Fs : List (List Nat), RelAt w0 (S.kill ks) a w μ who' ∧ ∃ (hg : vs.length = gs.length) (hF : Fs.length = gs.length), (∀ i (hi : i < gs.length), GRep w (Fs[i]'(hF ▸ hi)) (vs[i]'(hg ▸ hi)) gs[i]) ∧
   (∀ b ∈ Fs.flatten, ¬ Root μ (S.kill ks).heap b) ∧ (d = true → Fs.flatten.Nodup ∧ ∀ b ∈ Fs.flatten, who' b = some nid ∧ NewB w0 w b) ∧
   (∀ b, who b = some nid → who' b = some nid) ∧ (∀ G : List Nat, (∀ b ∈ G, ¬ Root μ S.heap b ∧ who b = some nid) → d = true → ∀ b ∈ G, b ∉ Fs.flatten)) := by
 intro ps
 induction ps with
 | nil =>
  intro S who h vs hv hps gs ks d hx
  simp only [absL, Option.some.injEq, Prod.mk.injEq] at hx
  obtain ⟨rfl, rfl, rfl⟩ := hx
  exact ⟨by simp, fun _ => ⟨who, [], h, by simpa using hv, rfl, by intro i hi; simp at hi, by simp, by simp, fun _ h => h, by simp⟩⟩
 | cons p ps ih =>
  intro S who h vs hv hps gs ks d hx
  cases vs with
  | nil => simp at hv
  | cons v vs =>
   have hp : PRep w μ S.heap v p := hps 0 (by simp)
   unfold absL at hx
   cases h1 : f S.heap p with
   | none => simp [h1] at hx
   | some r =>
    obtain ⟨x, k, d1⟩ := r
    simp only [h1] at hx
    obtain ⟨hk, hh1⟩ := hf h (nid := nid) hp h1
    cases h2 : absL f (killL S.heap k) ps with
    | none => simp [h2] at hx
    | some r =>
     obtain ⟨xs, ks', d2⟩ := r
     simp only [h2, Option.some.injEq, Prod.mk.injEq] at hx
     obtain ⟨rfl, rfl, rfl⟩ := hx
     have hmv := Move.killL w μ k S.heap hk
     have hk2 : ∀ i ∈ ks', (S.kill k).heap i ≠ .free := by
      have hpp : ∀ i (hi : i < ps.length), PRep w μ (S.kill k).heap (vs[i]'(by simp at hv; omega)) ps[i] := fun i hi => (hps (i + 1) (by simpa using hi)).move hmv
      by_cases hkn : nid ∈ k
      ·obtain ⟨j, hj⟩ : ∃ j, j ∉ k := ⟨k.foldl max 0 + 1, fun hm => by
        have : ∀ (l : List Nat) (m x : Nat), x ∈ l ∨ x ≤ m → x ≤ l.foldl max m := by
         intro l
         induction l with
         | nil => intro m x hx; simpa using hx
         | cons y l ihl =>
          intro m x hx
          simp only [List.foldl_cons]
          refine ihl (max m y) x ?_
          rcases hx with hx | hx
          ·rcases List.mem_cons.1 hx with rfl | hx
           ·exact .inr (Nat.le_max_right _ _)
           ·exact .inl hx
          ·exact .inr (Nat.le_trans hx (Nat.le_max_left _ _))
        have := this k 0 _ (.inl hm); omega⟩
       obtain ⟨who1, F, r1, _⟩ := (hf h (nid := j) hp h1).2 hj
       exact (ih (S := S.kill k) r1 vs (by simpa using hv) hpp h2).1
      ·obtain ⟨who1, F, r1, _⟩ := hh1 hkn
       exact (ih (S := S.kill k) r1 vs (by simpa using hv) hpp h2).1
     refine ⟨fun i hi => ?_, fun hnn => ?_⟩
     ·rcases List.mem_append.1 hi with h3 | h3
      ·exact hk i h3
      ·exact fun e => hk2 i h3 ((ZeT hk).2 e)
     obtain ⟨who1, F, r1, g1, n1, o1, m1, q1⟩ := hh1 (fun hm => hnn (List.mem_append.2 (.inl hm)))
     obtain ⟨_, hh2⟩ := ih (S := S.kill k) r1 vs (by simpa using hv) (fun i hi => (hps (i + 1) (by simpa using hi)).move hmv) h2
     obtain ⟨who2, Fs, r2, hg, hF, g2, n2, o2, m2, q2⟩ := hh2 (fun hm => hnn (List.mem_append.2 (.inr hm)))
     have hroot : ∀ b, Root μ (S.kill (k ++ ks')).heap b → Root μ (S.kill k).heap b := by
      rw [AState.kill_app]
      intro b hb
      apply Classical.byContradiction
      intro hr
      rcases Nat.lt_or_ge b w.heap.size with hlt | hge
      ·exact ((Move.killL w μ ks' (S.kill k).heap hk2).old b hlt hr).2 hb
      ·obtain ⟨i, d', hi, hi'⟩ := hb
       have := (r2.base i b d' hi hi').2
       omega
     refine ⟨who2, F :: Fs, by rw [AState.kill_app]; exact r2, by simpa using hg, by simpa using hF, fun i hi => ?_, fun b hb => ?_, fun hd => ?_, fun b hb => m2 b (m1 b hb), fun G hG hd b hb hb' => ?_⟩
     ·cases i with
      | zero => exact g1
      | succ i => exact g2 i (by simpa using hi)
     ·rw [List.flatten_cons] at hb
      rcases List.mem_append.1 hb with h3 | h3
      ·exact fun hr => n1 b h3 (hroot b hr)
      ·rw [AState.kill_app]; exact n2 b h3
     ·simp only [Bool.and_eq_true] at hd
      obtain ⟨o3, o4⟩ := o1 hd.1
      obtain ⟨o5, o6⟩ := o2 hd.2
      rw [List.flatten_cons]
      refine ⟨List.nodup_append.2 ⟨o3, o5, fun b hb c hc e => ?_⟩, fun b hb => ?_⟩
      ·subst e
       exact q2 F (fun b hb => ⟨n1 b hb, (o4 b hb).1⟩) hd.2 b hb hc
      ·rcases List.mem_append.1 hb with h3 | h3
       ·exact ⟨m2 b (o4 b h3).1, (o4 b h3).2⟩
       ·exact o6 b h3
     ·simp only [Bool.and_eq_true] at hd
      rw [List.flatten_cons] at hb'
      rcases List.mem_append.1 hb' with h3 | h3
      ·exact q1 G hG hd.1 b hb h3
      ·refine q2 G (fun b hb => ⟨fun hr => (hG b hb).1 ?_, m1 b (hG b hb).2⟩) hd.2 b hb h3
       obtain ⟨i, d', hi, hi'⟩ := hr
       rcases Nat.lt_or_ge b w.heap.size with hlt | hge
       ·apply Classical.byContradiction
        intro hr'
        exact (hmv.old b hlt hr').2 ⟨i, d', hi, hi'⟩
       ·have := (r1.base i b d' hi hi').2
        omega
theorem ZiM : AbsOK absE := by
 intro w0 S a w μ who h nid v p hv x ks d hx
 cases hv with
 | agg vs cs hl h1 he =>
  unfold absE at hx
  cases h2 : absL Za2 S.heap cs with
  | none => simp [h2] at hx
  | some r =>
   obtain ⟨gs, ks', d'⟩ := r
   simp only [h2] at hx
   split at hx
   ·rename_i hall
    simp only [Option.some.injEq, Prod.mk.injEq] at hx
    obtain ⟨rfl, rfl, rfl⟩ := hx
    obtain ⟨hk, hh⟩ := ZhM absorb_ok (nid := nid) cs h vs hl he h2
    refine ⟨hk, fun hnk => ?_⟩
    obtain ⟨who', Fs, r1, hg, hF, g1, rest⟩ := hh hnk
    exact ⟨who', Fs.flatten, r1, .agg vs gs Fs hg hF h1 (by simpa using hall) g1, rest⟩
   ·cases hx
 | g v x F hg hd => exact absorb_ok h (.g v x F hg hd) hx
 | nils e he => exact absorb_ok h (.nils e he) hx
 | own v id lo len ho1 hf ho => exact absorb_ok h (.own v id lo len ho1 hf ho) hx
 | undef | none_ | ptr | eptr | iptr | tup | fn | glob => simp [absE, Za2] at hx
theorem AbsOK.free {f : (Nat → Block) → PV → Option (GV × List Nat × Bool)} (hf : AbsOK f) {w0 : W0} {S : AState} {a : Act} {w : World} {μ : Lay} {who : Nat → Option Nat} (h : RelAt w0 S a w μ who) {nid : Nat} (hn : S.heap nid = .free) {v : Value} {p : PV} (hv : PRep w μ S.heap v p)
  {x : GV} {ks : List Nat} {d : Bool} (hx : f S.heap p = some (x, ks, d)) :
  (∀ i ∈ ks, S.heap i ≠ .free) ∧ ∃ who' F, RelAt w0 (S.kill ks) a w μ who' ∧ GRep w F v x ∧ (∀ b ∈ F, ¬ Root μ (S.kill ks).heap b) ∧ (d = true → F.Nodup ∧ ∀ b ∈ F, who' b = some nid ∧ NewB w0 w b) ∧
   (∀ b, who b = some nid → who' b = some nid) ∧ (∀ G : List Nat, (∀ b ∈ G, ¬ Root μ S.heap b ∧ who b = some nid) → d = true → ∀ b ∈ G, b ∉ F) := by
 obtain ⟨h1, h2⟩ := hf h (nid := nid) hv hx
 exact ⟨h1, h2 fun hm => h1 nid hm hn⟩
theorem Zky {h : Nat → Block}   (hk : id ∉ ks) : killL h ks id = h id := by
 induction ks generalizing h with
 | nil => rfl
 | cons k ks ih =>
  simp only [List.mem_cons, not_or] at hk
  rw [killL, ih hk.2, Zay _ _ _ hk.1]
end Go.Proofs.YtjjidamlmebaaaaGreat
namespace Go.Proofs.YtjjidamlmebaaaaGreat
open Go.RowKit
open Shp
variable {w0 : W0} {S : AState} {a : Act} {w w' : World} {μ : Lay} {who : Nat → Option Nat} {nid b d id : Nat} {B : Block} {vs : Array Value}
theorem RelAt.step  {S' : AState}   {μ' : Lay} {who' : Nat → Option Nat} (h : RelAt w0 S a w μ who) (C : List Nat) (hs : S'.slots = S.slots) (hn : S'.n = S.n) (hm : Move w w' μ μ' S.heap S'.heap) (hk : Keeps w0.D w0.w w')
  (h1 : ∀ id, id ∉ C → S'.heap id = S.heap id ∧ ((S.heap id).live = true → μ' id = μ id ∧ ∀ b d, μ id = some (b, d) → w'.heap[b]? = w.heap[b]?))
  (h2 : ∀ id, id ∈ C → BRep w0 w' μ' S'.heap who' id (S'.heap id) ∧ ((S'.heap id).live = true → ∀ b d, μ' id = some (b, d) → (∀ j d', j ∉ C → (S.heap j).live = true → μ j ≠ some (b, d')) ∧ (∀ j d', j ∈ C → (S'.heap j).live = true → μ' j = some (b, d') → id = j) ∧ Base w0 (S'.heap id) b ∧ b < w'.heap.size))
  (h3 : ∀ b j, b < w.heap.size → j ∉ C → ¬ Root μ S.heap b → who b = some j → who' b = some j) (hsz : w.heap.size ≤ w'.heap.size) : RelAt w0 S' a w' μ' who' := by
 refine ⟨by rw [hn]; exact h.size, fun t => by rw [hs]; exact (h.slot t).move hm, h.dfr, fun id => ?_, fun i j b d d' hi hj ei ej => ?_, fun i b d hi ei => ?_, hk, fun t x hp hx => h.old.1 t x (by rw [← hn]; exact hp) (by rw [← hs]; exact hx), fun t v hv ht => by rw [hn]; exact h.old.2 t v hv ht⟩
 ·by_cases hc : id ∈ C
  ·exact (h2 id hc).1
  ·rw [(h1 id hc).1]
   exact (h.blk id).move hm (fun hl => ((h1 id hc).2 hl).1) (fun b d hl hb => ((h1 id hc).2 hl).2 b d hb) (fun b hlt hr hb => h3 b id hlt hc hr hb)
 ·by_cases ci : i ∈ C
  ·by_cases cj : j ∈ C
   ·exact ((h2 i ci).2 hi b d ei).2.1 j d' cj hj ej
   ·have hj' := hj; rw [(h1 j cj).1] at hj'
    rw [((h1 j cj).2 hj').1] at ej
    exact absurd ej (((h2 i ci).2 hi b d ei).1 j d' cj hj')
  ·have hi' := hi; rw [(h1 i ci).1] at hi'
   rw [((h1 i ci).2 hi').1] at ei
   by_cases cj : j ∈ C
   ·exact absurd ei (((h2 j cj).2 hj b d' ej).1 i d ci hi')
   ·have hj' := hj; rw [(h1 j cj).1] at hj'
    rw [((h1 j cj).2 hj').1] at ej
    exact h.inj i j b d d' hi' hj' ei ej
 ·by_cases ci : i ∈ C
  ·exact ((h2 i ci).2 hi b d ei).2.2
  ·rw [(h1 i ci).1] at hi
   rw [((h1 i ci).2 hi).1] at ei
   exact ⟨by rw [(h1 i ci).1]; exact (h.base i b d hi ei).1, Nat.lt_of_lt_of_le (h.base i b d hi ei).2 hsz⟩
theorem Move.new  (h : RelAt w0 S a w μ who)  (hn : S.heap nid = .free) (hk : Keeps [] w w') {p : Option (Nat × Nat)} (hp : ∀ b d, p = some (b, d) → w.heap.size ≤ b)  (hB : B.live = true) :
  Move w w' μ (upd μ nid p) S.heap (upd S.heap nid B) := by
 refine ⟨fun b hb hr => ⟨hk.block b hb (by simp), ?_⟩, fun i b d h1 h2 h3 h4 vs t hw => ?_, fun i hi => ?_, fun i e dp xs hf hi => ?_, fun i cs hf hi => ?_⟩
 ·rintro ⟨i, d, hi, hi'⟩
  unfold upd at hi hi'
  split at hi
  ·rename_i e
   rw [if_pos e] at hi'
   have := hp b d hi'; omega
  ·rename_i e
   rw [if_neg e] at hi'
   exact hr ⟨i, d, hi, hi'⟩
 ·exact ⟨vs, t, by rw [hk.block b (h.base i b d h2 h4).2 (by simp)]; exact hw, rfl⟩
 ·unfold upd at hi; split at hi
  ·subst hi; cases hB
  ·exact hi
 ·have : i ≠ nid := fun e => hf (by rw [e]; exact hn)
  rw [Zay _ _ _ this] at hi
  exact ⟨Zay _ _ _ this, dp, xs, hi⟩
 ·have : i ≠ nid := fun e => hf (by rw [e]; exact hn)
  rw [Zay _ _ _ this] at hi
  exact ⟨Zay _ _ _ this, cs, hi⟩
theorem RelAt.new {w0 : W0} {S : AState} {a : Act} {w w' : World} {μ : Lay} {who : Nat → Option Nat} (h : RelAt w0 S a w μ who) {nid : Nat} (hn : S.heap nid = .free) (hk : Keeps [] w w') {p : Option (Nat × Nat)} (hp : ∀ b d, p = some (b, d) → w.heap.size ≤ b ∧ b < w'.heap.size) {B : Block} (hB : B.live = true)
  (hr : Move w w' μ (upd μ nid p) S.heap (upd S.heap nid B) → BRep w0 w' (upd μ nid p) (upd S.heap nid B) who nid B) : RelAt w0 (S.write nid B) a w' (upd μ nid p) who := by
 have hm := Move.new h hn hk (fun b d e => (hp b d e).1) hB
 refine h.step [nid] rfl rfl hm (h.keep.transL hk) (fun i hi => ?_) (fun i hi => ?_) (fun b j _ _ _ hb => hb) hk.size
 ·have e : i ≠ nid := by simpa using hi
  exact ⟨Zay _ _ _ e, fun hl => ⟨Zay _ _ _ e, fun b d hb => hk.block b (h.base i b d hl hb).2 (by simp)⟩⟩
 ·have e : i = nid := by simpa using hi
  subst e
  refine ⟨by simp only [AState.write, Zan]; exact hr hm, fun _ b d hb => ?_⟩
  rw [Zan] at hb
  have hb' := hp b d hb
  exact ⟨fun j d' _ hl hj => by have := (h.base j b d' hl hj).2; omega, fun j d' hj _ _ => by simp at hj; exact hj.symm, .inl (.inl (Nat.le_trans h.keep.size hb'.1)), hb'.2⟩
theorem RelAt.newBox  (h : RelAt w0 S a w μ who)  (hn : S.heap nid = .free) (vs : Array Value) (t : TypeId) (cs : List PV) (hl : vs.size = cs.length) (h1 : ∀ v ∈ vs.toList, v.oneCell' = true)
  (hv : ∀ i (hi : i < cs.length), PRep w μ S.heap (vs.getD i Go.undef) cs[i]) :
  ∃ μ', RelAt w0 (S.write nid (.box cs)) a (w.alloc (.cells vs t)) μ' who ∧ PRep (w.alloc (.cells vs t)) μ' (S.write nid (.box cs)).heap (.pointer (some ⟨w.heap.size, 0, none⟩)) (.ptr nid 0) := by
 refine ⟨upd μ nid (some (w.heap.size, 0)), h.new hn (Keeps.alloc [] w _) (fun b d e => by simp at e; obtain ⟨rfl, rfl⟩ := e; simp) rfl (fun hm => ⟨w.heap.size, vs, t, Zan _ _ _, ZiN _ _, hl, h1, fun i hi => (hv i hi).move hm⟩), ?_⟩
 refine .ptr _ nid 0 rfl (by simp [AState.write, Zan]) fun cs' _ => ⟨w.heap.size, Zan _ _ _, rfl⟩
theorem RelAt.newArr  (h : RelAt w0 S a w μ who)  (hn : S.heap nid = .free) (hk : Keeps [] w w') {e cap : Nat} (hb : w.heap.size ≤ b) (he : 0 < e)  {t : FT} (hrow : w'.heap[b]? = some (cel vs t))
  {dp : Bool} {xs : List GV} {Fs : List (List Nat)} {els : List Value} (hr : RowRep w' vs d e xs Fs els) (hnr : ∀ c ∈ Fs.flatten, ¬ Root μ S.heap c ∧ c ≠ b) (hd : dp = true → Fs.flatten.Nodup ∧ ∀ c ∈ Fs.flatten, who c = some nid ∧ NewB w0 w c)
  (hcap : xs.length ≤ cap) (hfit : d + cap * e ≤ vs.size) (hmax : cap ≤ 9223372036854775807) :
  ∃ μ', RelAt w0 (S.write nid (.arr e dp xs)) a w' μ' who ∧ PRep w' μ' (S.write nid (.arr e dp xs)).heap (.slice (some ⟨b, d, none⟩) xs.length cap) (.own nid 0 xs.length) := by
 have hbl : b < w'.heap.size := ZbJ hrow
 refine ⟨upd μ nid (some (b, d)), h.new hn hk (fun b' d' e => by simp at e; obtain ⟨rfl, rfl⟩ := e; exact ⟨hb, hbl⟩) rfl (fun hm => ⟨he, ?_⟩), ?_⟩
 ·rw [Zan]
  refine ⟨vs, t, Fs, els, hrow, hr, fun c hc => ?_, fun hx => ⟨(hd hx).1, fun c hc => ⟨((hd hx).2 c hc).1, ((hd hx).2 c hc).2.keeps0 hk⟩⟩⟩
  rintro ⟨i, d', hi, hi'⟩
  unfold upd at hi hi'
  split at hi
  ·rename_i e
   rw [if_pos e] at hi'
   simp at hi'
   exact (hnr c hc).2 hi'.1.symm
  ·rename_i e
   rw [if_neg e] at hi'
   exact (hnr c hc).1 ⟨i, d', hi, hi'⟩
 ·refine .own _ nid 0 _ rfl (by simp [AState.write, Zan]) fun e' dp' xs' hx => ?_
  simp only [AState.write, Zan, Block.arr.injEq] at hx
  obtain ⟨rfl, rfl, rfl⟩ := hx
  unfold Zbp
  rw [Zan]
  exact ⟨cap, d, by simp, hcap, hmax, vs, t, hrow, by simp, hfit⟩
theorem RelAt.newNil  (h : RelAt w0 S a w μ who)  (hn : S.heap nid = .free) (hk : Keeps [] w w') {e : Nat} (he : 0 < e) (dp : Bool) (ad : Option Addr := none) :
  ∃ μ', RelAt w0 (S.write nid (.arr e dp [])) a w' μ' who ∧ PRep w' μ' (S.write nid (.arr e dp [])).heap (.slice ad 0 0) (.own nid 0 0) := by
 refine ⟨upd μ nid none, h.new hn hk (fun b d e => by simp at e) rfl (fun hm => ⟨he, by rw [Zan]⟩), ?_⟩
 refine .own _ nid 0 _ rfl (by simp [AState.write, Zan]) fun e' dp' xs' hx => ?_
 unfold Zbp
 rw [Zan]
 exact ⟨⟨_, rfl⟩, rfl, rfl⟩
theorem Move.mod  (h : RelAt w0 S a w μ who)  (hl : (S.heap id).live = true) (hμ : μ id = some (b, d)) (hk : Keeps [b] w w') {vs' : Array Value} {t t' : FT} (hrow : w.heap[b]? = some (cel vs t))
  (hrow' : w'.heap[b]? = some (cel vs' t')) (hsz : vs'.size = vs.size)  (hB : B.live = true) (ha : ∀ e dp xs, B = .arr e dp xs → ∃ dp' xs', S.heap id = .arr e dp' xs') (hx : ∀ cs, B = .box cs → ∃ cs', S.heap id = .box cs') :
  Move w w' μ μ S.heap (upd S.heap id B) := by
 have hroot : ∀ c, Root μ (upd S.heap id B) c → Root μ S.heap c := fun c hr => hr.mono fun i hi => by
  unfold upd at hi; split at hi
  ·rename_i e; rw [e]; exact hl
  ·exact hi
 refine ⟨fun c hc hr => ⟨hk.block c hc ?_, fun hr' => hr (hroot c hr')⟩, fun i c d' h1 h2 h3 h4 vs1 t1 hw => ?_, fun i hi => ?_, fun i e dp xs hf hi => ⟨rfl, ?_⟩, fun i cs hf hi => ⟨rfl, ?_⟩⟩
 ·intro hm; simp at hm; subst hm; exact hr ⟨id, d, hl, hμ⟩
 ·by_cases e : c = b
  ·subst e
   obtain ⟨rfl, rfl⟩ := Zl7 hrow hw
   exact ⟨vs', t', hrow', hsz⟩
  ·exact ⟨vs1, t1, by rw [hk.block c (h.base i c d' h2 h4).2 (by simpa using e)]; exact hw, rfl⟩
 ·unfold upd at hi; split at hi
  ·subst hi; cases hB
  ·exact hi
 ·unfold upd at hi; split at hi
  ·rename_i e; rw [e]; exact ha _ _ _ hi
  ·exact ⟨dp, xs, hi⟩
 ·unfold upd at hi; split at hi
  ·rename_i e; rw [e]; exact hx _ hi
  ·exact ⟨cs, hi⟩
theorem Keeps.none_of  (h : Keeps w0.D w0.w w) (hb : Base w0 B b) (hk : Keeps [b] w w') : Keeps w0.D w0.w w' :=
 h.trans' hk (by
  intro i hi hlt; simp at hi; subst hi; rcases hb with (hb | hb) | hb
  ·omega
  ·exact hb.2
  ·exact hb.1)
theorem RelAt.mod {w0 : W0} {S : AState} {a : Act} {w w' : World} {μ : Lay} {who : Nat → Option Nat} (h : RelAt w0 S a w μ who) {id b d : Nat} (hl : (S.heap id).live = true) (hμ : μ id = some (b, d)) (hk : Keeps [b] w w') {vs vs' : Array Value} {t t' : FT} (hrow : w.heap[b]? = some (cel vs t))
  (hrow' : w'.heap[b]? = some (cel vs' t')) (hsz : vs'.size = vs.size) {B : Block} (hB : B.live = true) (ha : ∀ e dp xs, B = .arr e dp xs → ∃ dp' xs', S.heap id = .arr e dp' xs') (hx : ∀ cs, B = .box cs → ∃ cs', S.heap id = .box cs')
  (hr : Move w w' μ μ S.heap (upd S.heap id B) → BRep w0 w' μ (upd S.heap id B) who id B) (hnh : (∀ v e xs, B ≠ .hd v e xs) ∧ ∀ N, B ≠ .lim N := by (exact ⟨fun _ _ _ h => (by cases h), fun _ h => (by cases h)⟩)) : RelAt w0 (S.write id B) a w' μ who := by
 have hm := Move.mod h hl hμ hk hrow hrow' hsz hB ha hx
 refine h.step [id] rfl rfl hm (h.keep.none_of (h.base id b d hl hμ).1 hk) (fun i hi => ?_) (fun i hi => ?_) (fun b j _ _ _ hb => hb) hk.size
 ·have e : i ≠ id := by simpa using hi
  refine ⟨Zay _ _ _ e, fun hli => ⟨rfl, fun c d' hc => hk.block c (h.base i c d' hli hc).2 ?_⟩⟩
  intro hm'; simp at hm'; subst hm'
  exact e (h.inj i id c d' d hli hl hc hμ)
 ·have e : i = id := by simpa using hi
  subst e
  refine ⟨by simp only [AState.write, Zan]; exact hr hm, fun _ c d' hc => ?_⟩
  have hbase := h.base i c d' hl hc
  exact ⟨fun j d'' hj hlj hj' => hj (by simpa using h.inj j i c d'' d' hlj hl hj' hc), fun j d'' hj _ _ => by simp at hj; exact hj.symm, by simp only [AState.write, Zan]; exact hbase.1.kind (fun ⟨cs, hc⟩ => by
   cases B with
   | box cs' => exact ⟨cs', rfl⟩
   | arr e dp xs => obtain ⟨_, _, h9⟩ := ha e dp xs rfl; rw [h9] at hc; cases hc
   | hd v e xs => exact absurd rfl (hnh.1 v e xs)
   | lim N => exact absurd rfl (hnh.2 N)
   | _ => cases hB), Nat.lt_of_lt_of_le hbase.2 hk.size⟩
end Go.Proofs.YtjjidamlmebaaaaGreat
namespace Go.Proofs.YtjjidamlmebaaaaGreat
open Go.RowKit
open Shp
variable {P : Program} {vs vs' : Array Value} {o b : Nat} {news : List Value}
def ZaS (els : List Value) : List Value := els.flatMap (fun v => v.cells.toList)
theorem Zds {e : Nat} : ∀ {els : List Value}, (∀ v ∈ els, v.cells.size = e) → (ZaS els).length = els.length * e
 | [], _ => by simp [ZaS]
 | v :: els, h => by
  have ih := Zds (els := els) (fun u hu => h u (by simp [hu]))
  have h1 := h v (by simp)
  simp only [ZaS, List.flatMap_cons, List.length_append, Array.length_toList, List.length_cons, Nat.add_mul] at ih ⊢
  rw [ih, h1]; omega
theorem Ziz {e : Nat} (he : 0 < e) : ∀ {els : List Value}, (∀ v ∈ els, v.cells.size = e) → ∀ k (hk : k < els.length) j, j < e → (ZaS els)[k * e + j]? = (els[k]).cells[j]?
 | [], _, k, hk, _, _ => by simp at hk
 | v :: els, h, k, hk, j, hj => by
  have h1 : v.cells.toList.length = e := by simpa using h v (by simp)
  have hf : ZaS (v :: els) = v.cells.toList ++ ZaS els := by simp [ZaS]
  rw [hf]
  cases k with
  | zero => rw [List.getElem?_append_left (by rw [h1]; omega)]; simp
  | succ k =>
   have hge : (k + 1) * e + j = e + (k * e + j) := by rw [Nat.add_mul]; omega
   rw [hge, List.getElem?_append_right (by omega), h1, Nat.add_sub_cancel_left]
   simpa using Ziz he (els := els) (fun u hu => h u (by simp [hu])) k (by simpa using hk) j hj
theorem Zk2 {e : Nat} (he : 0 < e) {els : List Value} (h : ∀ v ∈ els, v.cells.size = e) {i : Nat} {u : Value} (hu : (ZaS els)[i]? = some u) : ∃ k, ∃ hk : k < els.length, ∃ j, j < e ∧ i = k * e + j ∧ (els[k]).cells[j]? = some u := by
 have hlt : i < (ZaS els).length := (List.getElem?_eq_some_iff.1 hu).1
 rw [Zds h] at hlt
 have hk : i / e < els.length := Nat.div_lt_of_lt_mul (by rw [Nat.mul_comm]; exact hlt)
 refine ⟨i / e, hk, i % e, Nat.mod_lt _ he, ?_, ?_⟩
 ·have := Nat.div_add_mod i e; rw [Nat.mul_comm] at this; omega
 ·rw [← Ziz he h (i / e) hk (i % e) (Nat.mod_lt _ he), ← hu]
  congr 1
  have := Nat.div_add_mod i e; rw [Nat.mul_comm] at this; omega
structure SlAt (w : World) (a : Option Addr) (n cap e : Nat) (els : List Value) (xs : List GV) (Fs : List (List Nat)) : Prop where
 n : xs.length = n
 hv : els.length = xs.length
 hF : Fs.length = xs.length
 he : 0 < e
 nc : ∀ x ∈ xs, x.ncells = e
 le : xs.length ≤ cap
 max : cap ≤ 9223372036854775807
 nil : a = none → cap = 0
 ad : ∀ p, a = some p → 0 < cap → p.spot = none ∧ p.block < w.heap.size
 hc : ∀ k (hk : k < els.length), (els[k]).cells.size = e ∧ (∀ v ∈ (els[k]).cells.toList, v.oneCell' = true) ∧ (∀ j (hj : j < (els[k]).cells.size), w.cell? (sAt a (k * e + j)) = some (els[k]).cells[j] ∧ w.frozen? (sAt a (k * e + j)) = false)
 h : ∀ i (hi : i < xs.length), GRep w (Fs[i]'(hF ▸ hi)) (els[i]'(hv ▸ hi)) xs[i]
 rm : ∀ i, i < cap * e → (w.cell? (sAt a i)).isSome = true ∧ w.frozen? (sAt a i) = false
theorem GRep.slice {w : World} {F : List Nat} {v : Value} {e : Nat} {xs : List GV} (h : GRep w F v (.sl e xs)) : ∃ a cap els Fs, v = .slice a xs.length cap ∧ F = own a cap ++ Fs.flatten ∧ SlAt w a xs.length cap e els xs Fs := by
 cases h with
 | atom x hx => simp [GV.atom] at hx
 | sl a cap e vs gs Fs hv hF he hg le max nil ad hc h rm => exact ⟨a, cap, vs, Fs, rfl, rfl, ⟨rfl, hv, hF, he, hg, le, max, nil, ad, hc, h, rm⟩⟩
namespace SlAt
variable {w : World} {a : Option Addr} {n cap e : Nat} {els : List Value} {xs : List GV} {Fs : List (List Nat)}
theorem sizes (s : SlAt w a n cap e els xs Fs) : ∀ v ∈ els, v.cells.size = e := fun v hv => by
 obtain ⟨k, hk, rfl⟩ := List.getElem_of_mem hv; exact (s.hc k hk).1
theorem cells (s : SlAt w a n cap e els xs Fs) {p : Addr} (hp : a = some p) : ∀ j u, (ZaS els)[j]? = some u → w.cell? (p.add j) = some u := by
 intro i u hu
 obtain ⟨k, hk, j, hj, rfl, hc⟩ := Zk2 s.he s.sizes hu
 have h1 := (s.hc k hk).2.2 j (by rw [(s.hc k hk).1]; exact hj)
 subst hp
 have h2 : sAt (some p) (k * e + j) = p.add (k * e + j) := rfl
 rw [← h2, h1.1, ← hc]
 simp [(s.hc k hk).1, hj]
theorem one (s : SlAt w a n cap e els xs Fs) : ∀ u ∈ ZaS els, u.oneCell' = true := by
 intro u hu
 simp only [ZaS, List.mem_flatMap] at hu
 obtain ⟨v, hv, hu⟩ := hu
 obtain ⟨k, hk, rfl⟩ := List.getElem_of_mem hv
 exact (s.hc k hk).2.1 u hu
theorem len (s : SlAt w a n cap e els xs Fs) : (ZaS els).length = n * e := by rw [Zds s.sizes, s.hv, s.n]
theorem src (s : SlAt w a n cap e els xs Fs)  {tx e' : TypeId} (hk : P.underlying tx = some (.slice e')) : Src P e tx (.slice a n cap) n (ZaS els) w := by
 cases a with
 | none =>
  have h0 := s.nil rfl
  have h1 := s.le
  have h2 : xs = [] := List.eq_nil_of_length_eq_zero (by omega)
  have h3 : els = [] := List.eq_nil_of_length_eq_zero (by have := s.hv; omega)
  have h4 := s.n
  subst h2; subst h3; subst h0; subst h4
  exact Src.ofNil w hk 0
 | some p => exact Src.ofSlice w hk p n cap _ s.len (s.cells rfl) s.one
theorem olds (s : SlAt w a n cap e els xs Fs)  : (Builtin.firstCells e n (.slice a n cap)).run P w.drew = .ok (ZaS els).toArray w.drew := by
 cases a with
 | none =>
  have h0 := s.nil rfl
  have h1 := s.le
  have h2 : xs = [] := List.eq_nil_of_length_eq_zero (by omega)
  have h3 : els = [] := List.eq_nil_of_length_eq_zero (by have := s.hv; omega)
  subst h3
  simp [Builtin.firstCells, ZaS]
 | some p => exact run_firstCells_some w.drew e n p n cap _ s.len (by simpa using s.cells rfl)
end SlAt
def Zbw (vs : Array Value) (o : Nat) (news : List Value) : Array Value := (vs.toList.take o ++ news ++ vs.toList.drop (o + news.length)).toArray
theorem Zfj  (h : o + news.length ≤ vs.size) : (Zbw vs o news).size = vs.size := by
 simp [Zbw]; omega
theorem ZlF  {i : Nat}  (h : o ≤ vs.size) (hi : i < o) : (Zbw vs o news)[i]? = vs[i]? := by
 simp only [Zbw, List.append_assoc, List.getElem?_toArray]
 rw [List.getElem?_append_left (by simp; omega), List.getElem?_take_of_lt hi]
 simp
theorem ZlI  {i : Nat}  (h : o ≤ vs.size) (hi : i < news.length) : (Zbw vs o news)[o + i]? = news[i]? := by
 simp only [Zbw, List.append_assoc, List.getElem?_toArray]
 rw [List.getElem?_append_right (by simp; omega)]
 have : o + i - (vs.toList.take o).length = i := by simp; omega
 rw [this, List.getElem?_append_left hi]
theorem Zki {w : World}   {f : FT} (h : w.heap[b]? = some (cel vs f)) (hs : vs'.size = vs.size) : (w.setRow b vs').heap[b]? = some (cel vs' f) := by
 rw [setRow_heap w b vs vs' f.t _ h, cel, hs]
theorem ZbM {P : Program} (b o : Nat) (f : FT) : ∀ (vs : List Value) (i : Nat) (cur : Array Value) (w : World), w.heap[b]? = some (cel cur f) → o + i + vs.length ≤ cur.size → (∀ v ∈ vs, v.oneCell' = true) →
  (storeCells ⟨b, o, none⟩ vs i).run P w = .ok () (w.setRow b (cur.toList.take (o + i) ++ vs ++ cur.toList.drop (o + i + vs.length)).toArray)
 | [], i, cur, w, hg, _, _ => by
  simp only [storeCells, List.append_nil, List.length_nil, Nat.add_zero, List.take_append_drop, Array.toArray_toList]
  rw [setRow_self w b cur f.t _ hg]
  rfl
 | v :: rest, i, cur, w, hg, hl, h1 => by
  have hi : o + i < cur.size := by simp at hl; omega
  have ha : (⟨b, o, none⟩ : Addr).add i = ⟨b, o + i, none⟩ := by unfold Addr.add; split <;> simp_all
  have hc : w.cell? ⟨b, o + i, none⟩ = some cur[o + i] := by simp [World.cell?, hg, hi]
  have hf := ZeO hg hi
  have hst : (store ((⟨b, o, none⟩ : Addr).add i) v).run P w = .ok () (w.setRow b (cur.setIfInBounds (o + i) v)) := by
   rw [ha, run_store P w _ v _ (h1 v (by simp)), hc]
   simp [hf, setCell_eq_setRow w b (o + i) cur f.t _ v hg]
  have ih := ZbM (P := P) b o f rest (i + 1) (cur.setIfInBounds (o + i) v) (w.setRow b (cur.setIfInBounds (o + i) v)) (Zki hg (by simp)) (by simp at hl ⊢; omega) (fun x hx => h1 x (by simp [hx]))
  simp only [storeCells, Sem.run_bind, hst, Result.andThen_ok, ih, setRow_setRow]
  congr 3
  have e := list_seg_step cur.toList (o + i) v rest (by simp at hl ⊢; omega)
  simpa [Array.toList_setIfInBounds, Nat.add_assoc] using e
theorem ZkH  (w : World) (t tx ty e : TypeId) (i : TypeInfo) (ht : P.underlying t = some (.slice e)) (hi : P.info? e = some i) (b off sLen sCap : Nat)  {tt : FT} (hrow : w.heap[b]? = some (cel vs tt)) (x : Value) (n : Nat) (news : List Value) (hs : Src P i.size tx x n news w)
  (hroom : sLen + n ≤ sCap) (hfit : off + sLen * i.size + news.length ≤ vs.size) :
  (Builtin.append_ #[t, tx] ty #[.slice (some ⟨b, off, none⟩) sLen sCap, x]).run P w = .ok (.slice (some ⟨b, off, none⟩) (sLen + n) sCap) (w.setRow b (Zbw vs (off + sLen * i.size) news)) := by
 have hst := ZbM (P := P) b (off + sLen * i.size) tt news 0 vs w hrow (by simpa using hfit) hs.one
 simp only [Nat.add_zero] at hst
 rcases hs.kind with ⟨e', hk⟩ | hk <;> simp [Builtin.append_, run_underlying ht, run_underlying hk, sizeOf, typeInfo, hi, hs.len, hroom, hs.cells, Addr.add_lit, hst, Zbw]
theorem Keeps.setRow (w : World) (b : Nat) (vs : Array Value) : Keeps [b] w (w.setRow b vs) :=
 ⟨rfl, rfl, rfl, by simp [World.setRow], fun k hk hn => by
  simp only [World.setRow, Array.getElem?_modify]
  rw [if_neg (by simpa using fun e => hn (by simp [e]))]⟩
theorem RelAt.inplace {w0 : W0} {S : AState} {a : Act} {w w' : World} {μ : Lay} {who : Nat → Option Nat} (h : RelAt w0 S a w μ who) {id nid : Nat} (hl : (S.heap id).live = true) (harr : ∃ e dp xs, S.heap id = .arr e dp xs) (hn : S.heap nid = .free) {d d' : Nat} (hμ : μ id = some (b, d)) (hk : Keeps [b] w w')  {t : FT}
  (hrow' : w'.heap[b]? = some (cel vs' t)) {e cap : Nat} (he : 0 < e) {dp : Bool} {xs : List GV} {Fs : List (List Nat)} {els : List Value} (hr : RowRep w' vs' d' e xs Fs els) (hnr : ∀ c ∈ Fs.flatten, ¬ Root μ S.heap c) {who' : Nat → Option Nat}
  (hd : dp = true → Fs.flatten.Nodup ∧ ∀ c ∈ Fs.flatten, who' c = some nid ∧ NewB w0 w' c) (hw : ∀ b j, j ≠ id → j ≠ nid → who b = some j → who' b = some j)
  (hcap : xs.length ≤ cap) (hfit : d' + cap * e ≤ vs'.size) (hmax : cap ≤ 9223372036854775807) :
  ∃ μ', RelAt w0 ((S.write id .dead).write nid (.arr e dp xs)) a w' μ' who' ∧ PRep w' μ' ((S.write id .dead).write nid (.arr e dp xs)).heap (.slice (some ⟨b, d', none⟩) xs.length cap) (.own nid 0 xs.length) := by
 have hne : id ≠ nid := by intro e; subst e; rw [hn] at hl; cases hl
 have hbl : b < w'.heap.size := ZbJ hrow'
 have hroot : ∀ c, Root (upd μ nid (some (b, d'))) (upd (upd S.heap id .dead) nid (.arr e dp xs)) c → Root μ S.heap c := by
  rintro c ⟨i, d1, hi, hi'⟩
  unfold upd at hi hi'
  split at hi
  ·rename_i e1; rw [if_pos e1] at hi'; simp at hi'; rw [← hi'.1]; exact ⟨id, d, hl, hμ⟩
  ·rename_i e1; rw [if_neg e1] at hi'
   split at hi
   ·cases hi
   ·exact ⟨i, d1, hi, hi'⟩
 have hm : Move w w' μ (upd μ nid (some (b, d'))) S.heap (upd (upd S.heap id .dead) nid (.arr e dp xs)) := by
  refine ⟨fun c hc hr' => ⟨hk.block c hc ?_, fun hr'' => hr' (hroot c hr'')⟩, fun i c d1 h1 h2 h3 h4 vs1 t1 hw1 => ?_, fun i hi => ?_, fun i e1 dp1 xs1 hf hi => ?_, fun i cs hf hi => ?_⟩
  ·intro hm'; simp at hm'; subst hm'; exact hr' ⟨id, d, hl, hμ⟩
  ·have e1 : i ≠ nid := by intro e1; rw [e1, hn] at h2; cases h2
   have e2 : i ≠ id := by intro e2; rw [Zay _ _ _ e1, e2, Zan] at h1; cases h1
   have e3 : c ≠ b := by intro e3; subst e3; exact e2 (h.inj i id c d1 d h2 hl h4 hμ)
   exact ⟨vs1, t1, by rw [hk.block c (h.base i c d1 h2 h4).2 (by simpa using e3)]; exact hw1, rfl⟩
  ·unfold upd at hi; split at hi
   ·cases hi
   ·split at hi
    ·cases hi
    ·exact hi
  ·have e1 : i ≠ nid := fun e1 => hf (by rw [e1]; exact hn)
   rw [Zay _ _ _ e1] at hi ⊢
   unfold upd at hi; split at hi
   ·cases hi
   ·exact ⟨rfl, dp1, xs1, hi⟩
  ·have e1 : i ≠ nid := fun e1 => hf (by rw [e1]; exact hn)
   rw [Zay _ _ _ e1] at hi ⊢
   unfold upd at hi; split at hi
   ·cases hi
   ·exact ⟨rfl, cs, hi⟩
 refine ⟨upd μ nid (some (b, d')), h.step [id, nid] rfl rfl hm (h.keep.none_of (h.base id b d hl hμ).1 hk) (fun i hi => ?_) (fun i hi => ?_) (fun c j _ hj _ hc => hw c j (by simp at hj; exact hj.1) (by simp at hj; exact hj.2) hc) hk.size, ?_⟩
 ·simp only [List.mem_cons, List.not_mem_nil, or_false, not_or] at hi
  refine ⟨by simp [AState.write, Zay _ _ _ hi.1, Zay _ _ _ hi.2], fun hli => ⟨Zay _ _ _ hi.2, fun c d1 hc => hk.block c (h.base i c d1 hli hc).2 ?_⟩⟩
  intro hm'; simp at hm'; subst hm'
  exact hi.1 (h.inj i id c d1 d hli hl hc hμ)
 ·simp only [List.mem_cons, List.not_mem_nil, or_false] at hi
  rcases hi with rfl | rfl
  ·refine ⟨by simp only [AState.write, Zay _ _ _ hne, Zan]; trivial, fun hli => ?_⟩
   simp only [AState.write, Zay _ _ _ hne, Zan] at hli; cases hli
  ·refine ⟨?_, fun _ c d1 hc => ?_⟩
   ·simp only [AState.write, Zan]
    refine ⟨he, ?_⟩
    rw [Zan]
    exact ⟨vs', t, Fs, els, hrow', hr, fun c hc hr' => hnr c hc (hroot c hr'), hd⟩
   ·rw [Zan] at hc
    simp at hc
    obtain ⟨rfl, rfl⟩ := hc
    refine ⟨fun j d2 hj hlj hj' => hj ?_, fun j d2 hj hlj _ => ?_, (by obtain ⟨_, _, _, h9⟩ := harr; exact .inl ((h.base id b d hl hμ).1.arr h9)), hbl⟩
    ·have := h.inj j id b d2 d hlj hl hj' hμ
     simp [this]
    ·simp only [List.mem_cons, List.not_mem_nil, or_false] at hj
     rcases hj with rfl | rfl
     ·simp only [AState.write, Zay _ _ _ hne, Zan] at hlj; cases hlj
     ·rfl
 ·refine .own _ nid 0 _ rfl (by simp [AState.write, Zan]) fun e' dp' xs' hx => ?_
  simp only [AState.write, Zan, Block.arr.injEq] at hx
  obtain ⟨rfl, rfl, rfl⟩ := hx
  unfold Zbp
  rw [Zan]
  exact ⟨cap, d', by simp, hcap, hmax, vs', t, hrow', by simp, hfit⟩
end Go.Proofs.YtjjidamlmebaaaaGreat
namespace Go.Proofs.YtjjidamlmebaaaaGreat
open Go.RowKit
open Shp
variable {w : World} {a : Act} {n nid t E : Nat} {els : List Value} {xs ys : List GV} {Fs : List (List Nat)} {w0 : W0} {S : AState} {μ : Lay} {who : Nat → Option Nat} {v : Value} {dp : Bool} {P : Program}
def srcE (h : Nat → Block) (e : Nat) : PV → Option (List GV × List Nat × Bool)
 | .g (.sl e' ys) => if e' = e then some (ys, [], ys.all GV.flat) else none
 | .nils _ => some ([], [], true)
 | .own id lo len => match h id with
  | .arr e' dp ys => if e' = e ∧ lo + len ≤ ys.length then (if ((ys.drop lo).take len).all GV.flat then some ((ys.drop lo).take len, [], true) else some ((ys.drop lo).take len, [id], dp)) else none
  | _ => none
 | _ => none
theorem Zln  {a : Option Addr} {cap e : Nat}    (s : SlAt w a n cap e els xs Fs) (h : xs.all GV.flat = true) : Fs.flatten = [] := by
 refine Za7 fun k hk => (s.h k (s.hF ▸ hk)).of_flat ?_
 simp only [List.all_eq_true] at h
 exact h _ (List.getElem_mem _)
theorem Zt3  (h : RelAt w0 S a w μ who)  (hn : S.heap nid = .free)  {p : PV} (hv : PRep w μ S.heap v p) {e : Nat} (he : 0 < e)  {ks : List Nat} {d : Bool} (hx : srcE S.heap e p = some (ys, ks, d)) :
  (∀ i ∈ ks, S.heap i ≠ .free) ∧ ∃ who' ad cap els Fs, RelAt w0 (S.kill ks) a w μ who' ∧ v = .slice ad ys.length cap ∧ SlAt w ad ys.length cap e els ys Fs ∧ (∀ b ∈ Fs.flatten, ¬ Root μ (S.kill ks).heap b) ∧ (d = true → Fs.flatten.Nodup ∧ ∀ b ∈ Fs.flatten, who' b = some nid ∧ NewB w0 w b) := by
 cases hv with
 | g v x' F hg hd =>
  cases x' with
  | sl e' zs =>
   simp only [srcE] at hx
   split at hx
   ·rename_i hee
    simp only [Option.some.injEq, Prod.mk.injEq] at hx
    obtain ⟨rfl, rfl, rfl⟩ := hx
    subst hee
    obtain ⟨ad, cap, els, Fs, rfl, rfl, hs⟩ := hg.slice
    exact ⟨by simp, who, ad, cap, els, Fs, h, rfl, hs, fun b hb => hd b (List.mem_append.2 (.inr hb)), fun hf => by rw [Zln hs hf]; simp⟩
   ·cases hx
  | _ => simp [srcE] at hx
 | nils e' he' =>
  simp only [srcE, Option.some.injEq, Prod.mk.injEq] at hx
  obtain ⟨rfl, rfl, rfl⟩ := hx
  exact ⟨by simp, who, none, 0, [], [], h, rfl, ⟨rfl, rfl, rfl, he, by simp, by simp, by simp, by simp, by simp, by intro k hk; simp at hk, by intro k hk; simp at hk, by intro k hk; simp at hk⟩, by simp, by simp⟩
 | own v id lo len ho1 hf ho =>
  simp only [srcE] at hx
  split at hx
  ·rename_i e' dp zs hid
   split at hx
   ·rename_i hc
    obtain ⟨hee, hle⟩ := hc
    subst hee
    split at hx
    ·rename_i hfl
     simp only [Option.some.injEq, Prod.mk.injEq] at hx
     obtain ⟨rfl, rfl, rfl⟩ := hx
     obtain ⟨F, h1, _⟩ := h.view hid (ho _ _ _ hid) hle
     obtain ⟨ad, cap, els, Fs, rfl, rfl, hs⟩ := h1.slice
     have hnil := Zln hs hfl
     exact ⟨by simp, who, ad, cap, els, Fs, h, rfl, hs, by rw [hnil]; simp, fun _ => by rw [hnil]; simp⟩
    ·simp only [Option.some.injEq, Prod.mk.injEq] at hx
     obtain ⟨rfl, rfl, rfl⟩ := hx
     have hab : Za2 S.heap (.own id lo len) = some (.sl e' ((zs.drop lo).take len), [id], dp) := by simp [Za2, hid, hle]
     obtain ⟨hk, who', F, r1, g1, n1, o1, _, _⟩ := absorb_ok.free h hn (.own v id lo len ho1 hf ho) hab
     obtain ⟨ad, cap, els, Fs, rfl, rfl, hs⟩ := g1.slice
     exact ⟨hk, who', ad, cap, els, Fs, r1, rfl, hs, fun b hb => n1 b (List.mem_append.2 (.inr hb)), fun hd => ⟨((List.nodup_append.1 (o1 hd).1).2.1), fun b hb => (o1 hd).2 b (List.mem_append.2 (.inr hb))⟩⟩
   ·cases hx
  ·cases hx
 | undef | none_ | ptr | eptr | iptr | agg | tup | fn | glob => simp [srcE] at hx
theorem RelAt.ownSl  (h : RelAt w0 S a w μ who) {id e lo len : Nat}   (hx : S.heap id = .arr e dp xs)
   (hv : Zbp w μ id e lo len v) (hle : lo + len ≤ xs.length) :
  ∃ ad cap els Fs, v = .slice ad ((xs.drop lo).take len).length cap ∧ SlAt w ad ((xs.drop lo).take len).length cap e els ((xs.drop lo).take len) Fs ∧ (∀ b ∈ Fs.flatten, ¬ Root μ S.heap b) ∧ (dp = true → Fs.flatten.Nodup ∧ ∀ b ∈ Fs.flatten, who b = some id ∧ NewB w0 w b) ∧
   (∀ p, ad = some p → 0 < cap → ∃ b d o vs t, p = ⟨b, o, none⟩ ∧ μ id = some (b, d) ∧ w.heap[b]? = some (cel vs t) ∧ (0 < cap → o = d + lo * e) ∧ o + cap * e ≤ vs.size) := by
 have hB := h.blk id
 rw [hx] at hB
 obtain ⟨he, hB⟩ := hB
 have hn : ((xs.drop lo).take len).length = len := by simp; omega
 unfold Zbp at hv
 cases hμ : μ id with
 | none =>
  simp only [hμ] at hB hv
  obtain ⟨⟨a, rfl⟩, rfl, rfl⟩ := hv
  subst hB
  exact ⟨a, 0, [], [], by simp, ⟨rfl, by simp, by simp, he, by simp, by simp, by simp, by simp, by simp, by intro k hk; simp at hk, by intro k hk; simp at hk, by intro k hk; simp at hk⟩, by simp, by simp, by simp⟩
 | some bd =>
  obtain ⟨b, d⟩ := bd
  simp only [hμ] at hB hv
  obtain ⟨cap, o, rfl, hlc, hcm, vs0, t0, hrow0, ho0, hfit0⟩ := hv
  obtain ⟨vs, t, Fs, els, hrow, hr, hnr, hdp⟩ := hB
  have hbl : b < w.heap.size := ZbJ hrow
  have hsub : ((Fs.drop lo).take len).flatten.Sublist Fs.flatten := ZdO ((List.take_sublist _ _).trans (List.drop_sublist _ _))
  refine ⟨some ⟨b, o, none⟩, cap, (els.drop lo).take len, (Fs.drop lo).take len, by rw [hn], ⟨rfl, by have := hr.len; simp; omega, by have := hr.fl; simp; omega, he, fun x hx' => ?_, by rw [hn]; exact hlc, hcm, by simp, by rintro p ⟨rfl⟩ _; exact ⟨rfl, hbl⟩, fun k hk => ?_, fun k hk => ?_, fun i hi => by
   rw [Zh6]
   exact ⟨by rw [cell_of_row w b _ _ _ _ hrow0, Array.getElem?_eq_getElem (by omega)]; rfl, ZeO hrow0 (by omega)⟩⟩, fun c hc => hnr c (hsub.subset hc), fun hd => ⟨(hdp hd).1.sublist hsub, fun c hc => (hdp hd).2 c (hsub.subset hc)⟩, ?_⟩
  ·obtain ⟨k, hk, rfl⟩ := List.getElem_of_mem (List.mem_of_mem_drop (List.mem_of_mem_take hx')); exact hr.nc k hk
  ·have hk' : k < len ∧ lo + k < els.length := by simp at hk; omega
   have hge : ((els.drop lo).take len)[k]'hk = els[lo + k]'hk'.2 := by simp
   rw [hge]
   refine ⟨(hr.sz (lo + k) hk'.2).1, (hr.sz (lo + k) hk'.2).2, fun j hj => ?_⟩
   have hje : j < e := by rw [(hr.sz (lo + k) hk'.2).1] at hj; exact hj
   have hc := hr.cell (lo + k) hk'.2 j hje
   rw [Zh6]
   have ha : o + (k * e + j) = d + (lo + k) * e + j := by rw [ho0 (by omega), Nat.add_mul]; omega
   rw [ha]
   refine ⟨?_, ZeO hrow (Zpn (hc.trans (Array.getElem?_eq_getElem hj)))⟩
   rw [cell_of_row w b _ _ _ _ hrow, hc]
   simp [hj]
  ·have hk' : k < len ∧ lo + k < xs.length := by simp at hk; omega
   have e1 : ((xs.drop lo).take len)[k]'hk = xs[lo + k]'hk'.2 := by simp
   have e2 : ((els.drop lo).take len)[k]'(by simp; have := hr.len; omega) = els[lo + k]'(by have := hr.len; omega) := by simp
   have e3 : ((Fs.drop lo).take len)[k]'(by simp; have := hr.fl; omega) = Fs[lo + k]'(by have := hr.fl; omega) := by simp
   rw [e1, e2, e3]
   exact hr.el (lo + k) hk'.2
  ·rintro p ⟨rfl⟩ _
   exact ⟨b, d, o, vs0, t0, rfl, rfl, hrow0, ho0, hfit0⟩
theorem Zpl {b : Nat} (hn : n ≤ 1099511627776) (hb : b ≤ 128) : n * b ≤ 140737488355328 := Nat.le_trans (Nat.mul_le_mul hn hb) (by decide)
theorem Zcr  {e : Nat} (he : 0 < e)    (h1 : els.length = xs.length) (h2 : Fs.length = xs.length) (hsz : ∀ v ∈ els, v.cells.size = e) (hone : ∀ v ∈ els, ∀ u ∈ v.cells.toList, u.oneCell' = true) (hnc : ∀ x ∈ xs, x.ncells = e)
  (hg : ∀ k (hk : k < xs.length), GRep w (Fs[k]'(h2 ▸ hk)) (els[k]'(h1 ▸ hk)) xs[k]) {vs : Array Value} {d : Nat} (hfit : d + xs.length * e ≤ vs.size) (hrow : ∀ i, i < (ZaS els).length → vs[d + i]? = (ZaS els)[i]?) : RowRep w vs d e xs Fs els := by
 refine ⟨h1, h2, hfit, fun k hk => hnc _ (List.getElem_mem _), hg, fun k hk => ⟨hsz _ (List.getElem_mem _), hone _ (List.getElem_mem _)⟩, fun k hk j hj => ?_⟩
 have h3 := Ziz he hsz k hk j hj
 have h4 : k * e + j < (ZaS els).length := by
  rw [Zds hsz]
  have : (k + 1) * e ≤ els.length * e := Nat.mul_le_mul_right _ hk
  rw [Nat.add_mul] at this; omega
 rw [Nat.add_assoc, hrow _ h4, h3]
def dstE (h : Nat → Block) (e : Nat) : PV → Option (List GV × List Nat × Bool)
 | .nils e' => if e' = e then some ([], [], true) else none
 | .own id lo len => match h id with
  | .arr e' dp xs => if e' = e ∧ lo + len ≤ xs.length then some ((xs.drop lo).take len, [id], dp) else none
  | _ => none
 | _ => none
structure ZmU (P : Program) (t E e : Nat) (i : TypeInfo) (z : Value) : Prop where
 u : P.underlying t = some (.slice E)
 inf : P.info? E = some i
 zero : i.zero = some z
 sz : i.size = e
 pos : 0 < e
 by_ : i.bytes ≤ 128
 zc : z.cells.size = e
 z1 : ∀ v : Value, v ∈ z.cells.toList → v.oneCell' = true
theorem Zbn {α : Type} {xs ys : List α} {k : Nat} (h : k < (xs ++ ys).length) : (xs ++ ys)[k] = if h' : k < xs.length then xs[k] else ys[k - xs.length]'(by simp at h; omega) := by
 by_cases h' : k < xs.length
 ·rw [dif_pos h', List.getElem_append_left h']
 ·rw [dif_neg h', List.getElem_append_right (by omega)]
theorem ZgW  {e : Nat} {i : TypeInfo} {z : Value} (ho : ZmU P t E e i z) (h : RelAt w0 S a w μ who)  (hn : S.heap nid = .free) (ty : TypeId)
  {a1 a2 : Option Addr} {c1 c2 : Nat} {els1 els2 : List Value}  {Fs1 Fs2 : List (List Nat)} (s1 : SlAt w a1 xs.length c1 e els1 xs Fs1) (s2 : SlAt w a2 ys.length c2 e els2 ys Fs2) (hgrow : c1 < xs.length + ys.length) (hlen : xs.length + ys.length ≤ 1099511627776)
  (hr : ∀ b ∈ (Fs1 ++ Fs2).flatten, ¬ Root μ S.heap b)  (hd : dp = true → (Fs1 ++ Fs2).flatten.Nodup ∧ ∀ b ∈ (Fs1 ++ Fs2).flatten, who b = some nid ∧ NewB w0 w b) :
  ∃ v' w' μ', (Builtin.append_ #[t, t] ty #[.slice a1 xs.length c1, .slice a2 ys.length c2]).run P w = .ok v' w' ∧ RelAt w0 (S.write nid (.arr e dp (xs ++ ys))) a w' μ' who ∧ PRep w' μ' (S.write nid (.arr e dp (xs ++ ys))).heap v' (.own nid 0 (xs ++ ys).length) := by
 have hrun := run_append_grow_src (P := P) w t t ty E i z ho.u ho.inf ho.zero a1 xs.length c1 (ZaS els1) (by rw [ho.sz]; exact s1.olds) (.slice a2 ys.length c2) ys.length (ZaS els2) (by rw [ho.sz]; exact s2.src ho.u) hgrow (by omega) (growslice_fits (by omega) (Zpl hlen ho.by_))
 have hcapge := grownCap_ge w (xs.length + ys.length) c1 E
 have hcaple := grownCap_le_maxLen w (xs.length + ys.length) c1 E (by unfold maxLen; omega)
 unfold maxLen at hcaple
 have hk : Keeps [] w (w.drew.alloc (.cells ((ZaS els1 ++ ZaS els2).toArray ++ Builtin.zeroCells z.cells (grownCap w (xs.length + ys.length) c1 E - (xs.length + ys.length))) E)) := (Keeps.drew [] w).trans (Keeps.alloc [] w.drew _)
 have hl1 := s1.len
 have hl2 := s2.len
 have hfc : ZaS (els1 ++ els2) = ZaS els1 ++ ZaS els2 := by simp [ZaS]
 have hsz : ∀ v ∈ els1 ++ els2, v.cells.size = e := fun v hv => (List.mem_append.1 hv).elim (s1.sizes v) (s2.sizes v)
 have hzl : (Builtin.zeroCells z.cells (grownCap w (xs.length + ys.length) c1 E - (xs.length + ys.length))).size = (grownCap w (xs.length + ys.length) c1 E - (xs.length + ys.length)) * e := by simp [Builtin.zeroCells, ho.zc]
 have hsize : ((ZaS els1 ++ ZaS els2).toArray ++ Builtin.zeroCells z.cells (grownCap w (xs.length + ys.length) c1 E - (xs.length + ys.length))).size = grownCap w (xs.length + ys.length) c1 E * e := by
  rw [Array.size_append, hzl, List.size_toArray, List.length_append, hl1, hl2, ← Nat.add_mul, ← Nat.add_mul]
  congr 1; omega
 have hrr : RowRep (w.drew.alloc (.cells ((ZaS els1 ++ ZaS els2).toArray ++ Builtin.zeroCells z.cells (grownCap w (xs.length + ys.length) c1 E - (xs.length + ys.length))) E)) ((ZaS els1 ++ ZaS els2).toArray ++ Builtin.zeroCells z.cells (grownCap w (xs.length + ys.length) c1 E - (xs.length + ys.length))) 0 e (xs ++ ys) (Fs1 ++ Fs2) (els1 ++ els2) := by
  refine Zcr ho.pos (by simp [s1.hv, s2.hv]) (by simp [s1.hF, s2.hF]) hsz (fun v hv => ?_) (fun x hx => ?_) (fun k hk' => ?_) ?_ (fun i hi => ?_)
  ·rcases List.mem_append.1 hv with h' | h' <;> obtain ⟨k, hk', rfl⟩ := List.getElem_of_mem h'
   ·exact (s1.hc k hk').2.1
   ·exact (s2.hc k hk').2.1
  ·exact (List.mem_append.1 hx).elim (s1.nc x) (s2.nc x)
  ·simp only [Zbn, s1.hv, s1.hF]
   split
   ·exact (s1.h k (by assumption)).keeps0 hk
   ·exact (s2.h (k - xs.length) (by simp at hk'; omega)).keeps0 hk
  ·rw [hsize, List.length_append, Nat.zero_add]; exact Nat.mul_le_mul_right _ hcapge
  ·rw [hfc] at hi ⊢
   rw [Nat.zero_add, Array.getElem?_append_left (by simpa using hi)]
   simp
 have hne : ∀ c ∈ (Fs1 ++ Fs2).flatten, c ≠ w.heap.size := by
  intro c hc
  obtain ⟨k, hk', hc'⟩ := Zaq hc
  rw [Zbn] at hc'
  split at hc'
  ·have := (s1.h k (by rw [← s1.hF]; assumption)).lt _ hc'; omega
  ·have := (s2.h (k - Fs1.length) (by have := s1.hF; have := s2.hF; simp at hk'; omega)).lt _ hc'; omega
 obtain ⟨μ', r1, r2⟩ := h.newArr (w' := (w.drew.alloc (.cells ((ZaS els1 ++ ZaS els2).toArray ++ Builtin.zeroCells z.cells (grownCap w (xs.length + ys.length) c1 E - (xs.length + ys.length))) E))) hn hk (t := ⟨E, false⟩) (b := w.heap.size) (d := 0) (cap := grownCap w (xs.length + ys.length) c1 E) (Nat.le_refl _) ho.pos (ZiN w.drew _) hrr
  (fun c hc => ⟨hr c hc, hne c hc⟩) hd (by simpa using hcapge) (by rw [hsize]; omega) hcaple
 exact ⟨_, _, μ', hrun, r1, by simpa using r2⟩
theorem ZkX  {e : Nat} {i : TypeInfo} {z : Value} (ho : ZmU P t E e i z) (h : RelAt w0 S a w μ who)  (hn : S.heap nid = .free) (ty : TypeId)
  {v1 v2 : Value} {p1 p2 : PV} (h1 : PRep w μ S.heap v1 p1) (h2 : PRep w μ S.heap v2 p2)  {ks2 : List Nat} {d2 : Bool} (hx2 : srcE S.heap e p2 = some (ys, ks2, d2))  {ks1 : List Nat} {d1 : Bool} (hx1 : dstE (killL S.heap ks2) e p1 = some (xs, ks1, d1))
  (hlen : xs.length + ys.length ≤ 1099511627776) :
  ∃ v' w' μ' who', (Builtin.append_ #[t, t] ty #[v1, v2]).run P w = .ok v' w' ∧ RelAt w0 (((S.kill ks2).kill ks1).write nid (.arr e (d1 && d2) (xs ++ ys))) a w' μ' who' ∧ PRep w' μ' (((S.kill ks2).kill ks1).write nid (.arr e (d1 && d2) (xs ++ ys))).heap v' (.own nid 0 (xs ++ ys).length) := by
 obtain ⟨hk2, who1, ad2, cap2, els2, Fs2, r1, rfl, s2, n2, o2⟩ := Zt3 h hn h2 ho.pos hx2
 have hn1 : (S.kill ks2).heap nid = .free := (ZeT hk2).2 hn
 have h1' := h1.move (Move.killL w μ ks2 S.heap hk2)
 cases h1' with
 | nils e' he' =>
  simp only [dstE] at hx1
  split at hx1
  ·rename_i hee
   simp only [Option.some.injEq, Prod.mk.injEq] at hx1
   obtain ⟨rfl, rfl, rfl⟩ := hx1
   have s1 : SlAt w none ([] : List GV).length 0 e [] [] [] := ⟨rfl, rfl, rfl, ho.pos, by simp, by simp, by simp, by simp, by simp, by intro k hk; simp at hk, by intro k hk; simp at hk, by intro k hk; simp at hk⟩
   by_cases h0 : ys.length = 0
   ·have hy : ys = [] := List.eq_nil_of_length_eq_zero h0
    subst hy
    obtain ⟨μ', q1, q2⟩ := r1.newNil hn1 (Keeps.refl [] w) ho.pos (true && d2)
    refine ⟨.slice none 0 0, w, μ', who1, ?_, q1, q2⟩
    have hs := s2.src (P := P) ho.u
    rw [← ho.sz] at hs
    have hz : (ZaS els2) = [] := List.eq_nil_of_length_eq_zero (by have := s2.len; simpa using this)
    have hc := hs.cells
    rw [hz] at hc
    have hl := hs.len
    simp only [List.length_nil] at hl hc
    simp [Builtin.append_, run_underlying ho.u, sizeOf, typeInfo, ho.inf, hl, hc]
   ·obtain ⟨v', w', μ', q0, q1, q2⟩ := ZgW (w0 := w0) (S := S.kill ks2) (dp := true && d2) ho r1 hn1 ty s1 s2 (by simp; omega) hlen (by simpa using n2) (by simpa using o2)
    exact ⟨v', w', μ', who1, q0, q1, q2⟩
  ·cases hx1
 | own v id lo len ho1 hf hoa =>
  simp only [dstE] at hx1
  split at hx1
  ·rename_i e' dp zs hid
   split at hx1
   ·rename_i hc
    obtain ⟨hee, hle⟩ := hc
    subst hee
    simp only [Option.some.injEq, Prod.mk.injEq] at hx1
    obtain ⟨rfl, rfl, rfl⟩ := hx1
    have hid' : (S.kill ks2).heap id = .arr e' dp zs := hid
    have ha := hoa _ _ _ hid
    have hne : id ≠ nid := by intro e; subst e; rw [hn1] at hid'; cases hid'
    have hlive : ((S.kill ks2).heap id).live = true := by rw [hid']; rfl
    obtain ⟨ad1, cap1, els1, Fs1, rfl, s1, hnr1, hd1, hadd⟩ := r1.ownSl hid' ha hle
    obtain ⟨who2, hw1, hw2, hw3⟩ : ∃ who2 : Nat → Option Nat, (∀ b j, j ≠ id → who1 b = some j → who2 b = some j) ∧ (∀ b, who1 b = some nid → who2 b = some nid) ∧ (∀ b, who1 b = some id → who2 b = some nid) := by
     refine ⟨fun b => if who1 b = some id then some nid else who1 b, fun b j hj hb => ?_, fun b hb => ?_, fun b hb => by simp [hb]⟩
     ·dsimp only; rw [if_neg (by rw [hb]; simpa using hj)]; exact hb
     ·dsimp only; split
      ·rfl
      ·exact hb
    have hdc : (dp && d2) = true → (Fs1 ++ Fs2).flatten.Nodup ∧ ∀ b ∈ (Fs1 ++ Fs2).flatten, who2 b = some nid ∧ NewB w0 w b := by
     intro hd
     simp only [Bool.and_eq_true] at hd
     obtain ⟨o3, o4⟩ := hd1 hd.1
     obtain ⟨o5, o6⟩ := o2 hd.2
     rw [List.flatten_append]
     refine ⟨List.nodup_append.2 ⟨o3, o5, fun b hb c hc e => ?_⟩, fun b hb => ?_⟩
     ·subst e
      have e1 := (o4 b hb).1
      rw [(o6 b hc).1] at e1
      simp at e1; exact hne e1.symm
     ·rcases List.mem_append.1 hb with h3 | h3
      ·exact ⟨hw3 b (o4 b h3).1, (o4 b h3).2⟩
      ·exact ⟨hw2 b (o6 b h3).1, (o6 b h3).2⟩
    by_cases hroom : ((zs.drop lo).take len).length + ys.length ≤ cap1 ∧ 0 < cap1
    ·obtain ⟨hroom, hc0⟩ := hroom
     obtain ⟨p, rfl⟩ : ∃ p, ad1 = some p := by
      cases ad1 with
      | none => have := s1.nil rfl; omega
      | some p => exact ⟨p, rfl⟩
     obtain ⟨b, d, o, vs, t0, rfl, hμ, hrow, hoo, hfit⟩ := hadd p rfl hc0
     have hsrc := s2.src (P := P) ho.u
     rw [← ho.sz] at hsrc
     have hl2 := s2.len
     have hpos := ho.pos
     have hsub : (((zs.drop lo).take len).length + ys.length) * i.size ≤ cap1 * i.size := Nat.mul_le_mul_right _ hroom
     rw [Nat.add_mul] at hsub
     have hfit2 : o + ((zs.drop lo).take len).length * i.size + (ZaS els2).length ≤ vs.size := by
      rw [hl2]; rw [ho.sz] at hsub ⊢; omega
     have hrun := ZkH (P := P) w t t ty E i ho.u ho.inf b o ((zs.drop lo).take len).length cap1 hrow (.slice ad2 ys.length cap2) ys.length (ZaS els2) hsrc hroom (by rw [ho.sz] at hfit2 ⊢; exact hfit2)
     have hk : Keeps [b] w (w.setRow b (Zbw vs (o + ((zs.drop lo).take len).length * i.size) (ZaS els2))) := Keeps.setRow _ _ _
     have hsz' : (Zbw vs (o + ((zs.drop lo).take len).length * i.size) (ZaS els2)).size = vs.size := Zfj (by rw [ho.sz] at hfit2 ⊢; exact hfit2)
     have hrow' := Zki hrow hsz'
     have hbroot : Root μ (S.kill ks2).heap b := ⟨id, d, hlive, hμ⟩
     have hcell1 : ∀ k (hk : k < els1.length) j, j < e' → vs[o + (k * e' + j)]? = (els1[k]).cells[j]? := by
      intro k hk j hj
      have h3 := ((s1.hc k hk).2.2 j (by rw [(s1.hc k hk).1]; exact hj)).1
      rw [Zh6, cell_of_row w b _ _ _ _ hrow] at h3
      rw [h3]; simp [(s1.hc k hk).1, hj]
     have hrr : RowRep (w.setRow b (Zbw vs (o + ((zs.drop lo).take len).length * i.size) (ZaS els2))) (Zbw vs (o + ((zs.drop lo).take len).length * i.size) (ZaS els2)) o e' ((zs.drop lo).take len ++ ys) (Fs1 ++ Fs2) (els1 ++ els2) := by
      refine Zcr hpos (by rw [List.length_append, List.length_append, s1.hv, s2.hv]) (by rw [List.length_append, List.length_append, s1.hF, s2.hF]) (fun v hv => (List.mem_append.1 hv).elim (s1.sizes v) (s2.sizes v)) (fun v hv => ?_) (fun x hx => (List.mem_append.1 hx).elim (s1.nc x) (s2.nc x)) (fun k hk' => ?_) ?_ (fun i2 hi2 => ?_)
      ·rcases List.mem_append.1 hv with h' | h' <;> obtain ⟨k, hk', rfl⟩ := List.getElem_of_mem h'
       ·exact (s1.hc k hk').2.1
       ·exact (s2.hc k hk').2.1
      ·simp only [Zbn, s1.hv, s1.hF]
       split
       ·rename_i hlt
        exact (s1.h k hlt).keeps hk (fun c hc hm => by simp at hm; subst hm; exact hnr1 c (Zac _ hc) hbroot)
       ·have hlt2 : k - ((zs.drop lo).take len).length < ys.length := by rw [List.length_append] at hk'; omega
        exact (s2.h _ hlt2).keeps hk (fun c hc hm => by simp at hm; subst hm; exact n2 c (Zac _ hc) hbroot)
      ·rw [hsz', List.length_append, Nat.add_mul]; rw [ho.sz, hl2] at hfit2; omega
      ·have hfc : ZaS (els1 ++ els2) = ZaS els1 ++ ZaS els2 := by simp [ZaS]
       have hl1 := s1.len
       rw [hfc] at hi2 ⊢
       rw [ho.sz]
       rw [ho.sz] at hfit2
       by_cases hc2 : i2 < (ZaS els1).length
       ·rw [List.getElem?_append_left hc2, ZlF (by omega) (by omega)]
        obtain ⟨u, hu⟩ : ∃ u, (ZaS els1)[i2]? = some u := ⟨_, List.getElem?_eq_getElem hc2⟩
        obtain ⟨k, hk', j, hj, rfl, hcc⟩ := Zk2 hpos s1.sizes hu
        rw [hu, hcell1 k hk' j hj, hcc]
       ·rw [List.getElem?_append_right (by omega)]
        have e1 : o + i2 = o + ((zs.drop lo).take len).length * e' + (i2 - (ZaS els1).length) := by omega
        rw [e1, ZlI (by omega) (by rw [List.length_append] at hi2; omega)]
     obtain ⟨μ', q1, q2⟩ := r1.inplace (nid := nid) hlive (by first | exact ⟨_, _, _, hid1⟩ | exact ⟨_, _, _, by assumption⟩) hn1 hμ hk hrow' hpos hrr (fun c hc => by rw [List.flatten_append] at hc; exact (List.mem_append.1 hc).elim (hnr1 c) (n2 c)) (fun hx => ⟨(hdc hx).1, fun c hc => ⟨((hdc hx).2 c hc).1, ((hdc hx).2 c hc).2.keeps hk (fun hm => by
      have hnr : ¬ Root μ (S.kill ks2).heap c := by rw [List.flatten_append] at hc; exact (List.mem_append.1 hc).elim (hnr1 c) (n2 c)
      simp at hm; subst hm; exact hnr hbroot)⟩⟩) (fun c j hj _ hc => hw1 c j hj hc) (by rw [List.length_append]; exact hroom) (by rw [hsz']; omega) s1.max
     refine ⟨_, _, μ', who2, hrun, q1, ?_⟩
     rw [List.length_append] at q2
     rw [List.length_append]; exact q2
    ·have hk1 : RelAt w0 ((S.kill ks2).kill [id]) a w μ who2 := r1.kill (by rw [hid']; simp) (fun c j hj _ hc => hw1 c j hj hc)
     have hmv := Move.kill w μ (S.kill ks2).heap (id := id) (by rw [hid']; simp)
     have hn3 : ((S.kill ks2).kill [id]).heap nid = .free := (ZeT (by simp [hid'])).2 hn1
     have hrt : ∀ c, Root μ ((S.kill ks2).kill [id]).heap c → Root μ (S.kill ks2).heap c := fun c hc => Root.kill hc
     by_cases h0 : ((zs.drop lo).take len).length + ys.length ≤ cap1
     ·-- the nil slice, nothing appended
      have hcap : cap1 = 0 := by
       apply Classical.byContradiction
       intro hc
       exact hroom ⟨h0, by omega⟩
      have hx0 : (zs.drop lo).take len = [] := List.eq_nil_of_length_eq_zero (by omega)
      have hy0 : ys = [] := List.eq_nil_of_length_eq_zero (by omega)
      subst hy0
      obtain ⟨μ', q1, q2⟩ := hk1.newNil hn3 (Keeps.refl [] w) ho.pos (dp && d2) ad1
      rw [hx0] at s1 ⊢
      subst hcap
      refine ⟨.slice ad1 0 0, w, μ', who2, ?_, q1, q2⟩
      have hs := s2.src (P := P) ho.u
      rw [← ho.sz] at hs
      have hz : (ZaS els2) = [] := List.eq_nil_of_length_eq_zero (by have := s2.len; simpa using this)
      have hc := hs.cells
      rw [hz] at hc
      have hl := hs.len
      simp only [List.length_nil] at hl hc
      cases ad1 <;> simp [Builtin.append_, run_underlying ho.u, sizeOf, typeInfo, ho.inf, hl, hc, storeCells]
     ·obtain ⟨v', w', μ', q0, q1, q2⟩ := ZgW (w0 := w0) (S := (S.kill ks2).kill [id]) (dp := dp && d2) ho hk1 hn3 ty s1 s2 (by omega) hlen (fun c hc hr => by rw [List.flatten_append] at hc; exact (List.mem_append.1 hc).elim (fun h3 => hnr1 c h3 (hrt c hr)) (fun h3 => n2 c h3 (hrt c hr))) hdc
      exact ⟨v', w', μ', who2, q0, q1, q2⟩
   ·cases hx1
  ·cases hx1
 | g | undef | none_ | ptr | eptr | iptr | agg | tup | fn | glob => simp [dstE] at hx1
end Go.Proofs.YtjjidamlmebaaaaGreat
namespace Go.Proofs.YtjjidamlmebaaaaGreat
open Go.RowKit
open Shp
variable {P : Program} {w : World} {v : Value}
inductive TK where
 | base
 | int (k : IntKind)
 | str
 | sl (E : TypeId)
 | st (fs : List (Nat × TypeId))
 | ar (n : Nat) (E : TypeId)
 | bool
structure TI where
 size : Nat
 kind : TK
 zero : List PV
abbrev Tab := TypeId → Option TI
def TK.agg : TK → Bool
 | .st _ | .ar .. => true
 | _ => false
def ZgT (v : Value) (p : PV) : Prop := v.oneCell' = true ∧ ∀ w μ h, PRep w μ h v p
def ZoX (P : Program) (k : TK) (d : TypeDesc) : Prop :=
 match k with
 | .base => d.isRow = false
 | .int k => d = .int k
 | .str => d = .string
 | .sl E => d = .slice E ∧ ∃ i, P.info? E = some i ∧ i.bytes ≤ 128
 | .st fs => ∃ fields, d = .struct fields ∧ fields.toList.map (fun f => (f.offset, f.type)) = fs
 | .ar n E => d = .array n E
 | .bool => d = .bool
structure ZaT (P : Program) (t : TypeId) (i : TI) (inf : TypeInfo) (z : Value) (d : TypeDesc) : Prop where
 info : P.info? t = some inf
 size : inf.size = i.size
 zero : inf.zero = some z
 zsize : z.cells.size = i.size
 zlen : i.zero.length = i.size
 zok : ∀ k (hk : k < i.zero.length), ZgT (z.cells.getD k undef) i.zero[k]
 desc : P.underlying t = some d
 kind : ZoX P i.kind d
def TabOk (P : Program) (tab : Tab) : Prop := ∀ t i, tab t = some i → ∃ inf z d, ZaT P t i inf z d
theorem TabOk.elem  {tab : Tab} (h : TabOk P tab) {t E : TypeId} {ti ei : TI} (ht : tab t = some ti) (hk : ti.kind = .sl E) (hE : tab E = some ei) (hpos : 0 < ei.size) : ∃ i z, ZmU P t E ei.size i z := by
 obtain ⟨_, _, d, h1⟩ := h t ti ht
 obtain ⟨inf, z, _, h2⟩ := h E ei hE
 have h3 := h1.kind
 rw [hk] at h3
 obtain ⟨rfl, i, h4, h5⟩ := h3
 rw [h2.info] at h4
 cases h4
 refine ⟨inf, z, h1.desc, h2.info, h2.zero, h2.size, hpos, h5, h2.zsize, fun v hv => ?_⟩
 obtain ⟨k, hk', rfl⟩ := List.getElem_of_mem hv
 have h6 := (h2.zok k (by rw [h2.zlen, ← h2.zsize]; simpa using hk')).1
 simpa [Array.getD, show k < z.cells.size by simpa using hk'] using h6
theorem TabOk.agg {P : Program} {tab : Tab} (h : TabOk P tab) {t : TypeId} {ti : TI} (ht : tab t = some ti) (w : World) : (isAgg t).run P w = .ok ti.kind.agg w := by
 obtain ⟨_, _, d, h1⟩ := h t ti ht
 have h2 := h1.kind
 unfold isAgg
 rw [Sem.run_bind, run_underlying h1.desc w]
 cases hk : ti.kind <;> simp only [hk, ZoX] at h2
 ·cases d <;> simp_all [TK.agg]
 ·rw [h2]; rfl
 ·rw [h2]; rfl
 ·rw [h2.1]; rfl
 ·obtain ⟨fs, rfl, _⟩ := h2; rfl
 ·rw [h2]; rfl
 ·rw [h2]; rfl
theorem TabOk.sizeOf {P : Program} {tab : Tab} (h : TabOk P tab) {t : TypeId} {ti : TI} (ht : tab t = some ti) (w : World) : (sizeOf t).run P w = .ok ti.size w := by
 obtain ⟨inf, _, d, h1⟩ := h t ti ht
 simp [Go.sizeOf, typeInfo, h1.info, h1.size]
def cst (tab : Tab) (ty : TypeId) : Value → PV
 | .bool b => .g (.bool b)
 | .int k n => .g (.int k n)
 | .string s => .g (.str s)
 | .pointer none => .g .nilp
 | .slice none 0 0 => match tab ty with
  | some ti => match ti.kind with
   | .sl E => match tab E with
    | some ei => if 0 < ei.size then .nils ei.size else .undef
    | none => .undef
   | _ => .undef
  | none => .undef
 | _ => .undef
def AState.ev (S : AState) (tab : Tab) (ty : TypeId) : Operand → PV
 | .tmp t => S.slots t
 | .const v => cst tab ty v
 | .func f => .fn f []
 | .global k => match S.slots (65536 + k) with
  | .glob k' cs => if k' = k then .g (.box cs) else .undef
  | _ => .undef
theorem Zwn (w : World) (μ : Lay) (h : Nat → Block) (tab : Tab) (ty : TypeId) (v : Value) : PRep w μ h v (cst tab ty v) := by
 unfold cst
 split
 ·exact .g _ _ [] (.atom (.bool _) rfl) (by simp)
 ·exact .g _ _ [] (.atom (.int _ _) rfl) (by simp)
 ·exact .g _ _ [] (.atom (.str _) rfl) (by simp)
 ·exact .g _ _ [] (.atom .nilp rfl) (by simp)
 ·split
  ·split
   ·split
    ·split
     ·exact .nils _ (by assumption)
     ·exact .undef _
    ·exact .undef _
   ·exact .undef _
  ·exact .undef _
 ·exact .undef _
theorem RelAt.ev {w0 : W0} {S : AState} {a : Act} {w : World} {μ : Lay} {who : Nat → Option Nat} (h : RelAt w0 S a w μ who) (tab : Tab) (ty : TypeId) (x : Operand) : PRep w μ S.heap (a.eval x) (S.ev tab ty x) := by
 cases x with
 | tmp t => exact h.slot t
 | const v => exact Zwn _ _ _ _ _ _
 | global g =>
  have e := h.slot (65536 + g)
  simp only [AState.ev]
  split
  ·rename_i k' cs e1
   rw [e1] at e
   split
   ·rename_i e2
    subst e2
    obtain ⟨F, hg, hd⟩ := e.glob_inv
    exact .g _ _ F hg hd
   ·exact .undef _
  ·exact .undef _
 | func f => exact .fn f [] [] rfl (by intro i hi; simp at hi)
def ZaU (h : Nat → Block) : List (Nat × Block) → Nat → Block
 | [] => h
 | (id, b) :: ws => ZaU (upd h id b) ws
def AState.writes (S : AState) (ws : List (Nat × Block)) : AState := { S with heap := ZaU S.heap ws }
theorem AState.writes_nil (S : AState) : S.writes [] = S := rfl
theorem AState.writes_cons (S : AState) (id : Nat) (b : Block) (ws : List (Nat × Block)) : S.writes ((id, b) :: ws) = (S.write id b).writes ws := rfl
theorem AState.writes_app (S : AState) (ws vs : List (Nat × Block)) : S.writes (ws ++ vs) = (S.writes ws).writes vs := by
 induction ws generalizing S with
 | nil => rfl
 | cons k ws ih => obtain ⟨id, b⟩ := k; rw [List.cons_append, AState.writes_cons, ih, AState.writes_cons]
def Zco (ks : List Nat) : List (Nat × Block) := ks.map fun k => (k, .dead)
theorem AState.writes_kills (S : AState) (ks : List Nat) : S.writes (Zco ks) = S.kill ks := by
 induction ks generalizing S with
 | nil => rfl
 | cons k ks ih => rw [AState.kill_cons, ← ih]; rfl
def Does (P : Program) (w0 : W0) (a : Act) (S' : AState) (pv : PV) : Result Next → Prop
 | .ok (.value v) w' => ∃ μ' who', RelAt w0 S' a w' μ' who' ∧ PRep w' μ' S'.heap v pv
 | .ok .skip w' => ∃ μ' who', RelAt w0 S' a w' μ' who' ∧ PRep w' μ' S'.heap undef pv
 | .ok (.enter f args) w' => Calls P f args w' fun e w'' => ∃ v, e = .returned v ∧ ∃ μ' who', RelAt w0 S' a w'' μ' who' ∧ PRep w'' μ' S'.heap v pv
 | _ => False
theorem Does.pure  {w0 : W0} {S : AState} {a : Act}  {μ : Lay} {who : Nat → Option Nat} (h : RelAt w0 S a w μ who) {r : Result Next}  (hr : r = .ok (.value v) w) {pv : PV} (hv : PRep w μ S.heap v pv) : Does P w0 a (S.writes []) pv r := by
 subst hr; exact ⟨μ, who, h, hv⟩
theorem Does.wp {P : Program} {w0 : W0} {S' : AState} {a : Act} {w : World} {o : Oper} {pv : PV} (h : Does P w0 a S' pv ((execOp a.eval o).run P w)) (hd : S'.has o.dst = true) {next : Act → World → Prop} {Q : Exit → Act → World → Prop}
  (hn : ∀ a' w' μ' who', RelAt w0 (S'.put o.dst pv) a' w' μ' who' → next a' w') : o.wp P a w next Q := by
 unfold Oper.wp
 generalize (execOp a.eval o).run P w = r at *
 cases r with
 | ok n w' =>
  cases n <;> simp only [Does] at h <;> simp only [Oper.upon]
  case value v => obtain ⟨μ', who', h1, h2⟩ := h; exact hn _ _ _ _ (h1.put hd h2)
  case skip => obtain ⟨μ', who', h1, h2⟩ := h; exact hn _ _ _ _ (h1.put hd h2)
  case enter f args =>
   refine h.mono ?_
   rintro e w'' ⟨v, rfl, μ', who', h1, h2⟩
   exact hn _ _ _ _ (h1.put hd h2)
 | halt x w' => simp only [Does] at h
def PV.cells : PV → List PV
 | .agg cs => cs
 | .g (.agg gs) => gs.map .g
 | p => [p]
def PV.val : PV → Bool
 | .undef | .none_ | .tup _ | .g (.tup _) | .glob .. => false
 | _ => true
theorem GRep.one_of  {F : List Nat}  {x : GV} (h : GRep w F v x) (hx : x.scal = true) : v.cells = #[v] := by
 have := (h.scal_one hx).1
 cases v <;> simp_all [Value.oneCell', Value.cells]
theorem PRep.cells {w : World} {μ : Lay} {h : Nat → Block} {v : Value} {p : PV} (hv : PRep w μ h v p) (hp : p.val = true) :
  v.cells.size = p.cells.length ∧ (∀ u ∈ v.cells.toList, u.oneCell' = true) ∧ ∀ i (hi : i < p.cells.length), PRep w μ h (v.cells.getD i Go.undef) p.cells[i] := by
 have one : ∀ {u : Value}, u.oneCell' = true → u.cells = #[u] := fun {u} hu => by cases u <;> simp_all [Value.oneCell', Value.cells]
 have key : ∀ {v : Value} {p : PV}, v.oneCell' = true → PRep w μ h v p → v.cells.size = [p].length ∧ (∀ u ∈ v.cells.toList, u.oneCell' = true) ∧ ∀ i (hi : i < [p].length), PRep w μ h (v.cells.getD i Go.undef) [p][i] := by
  intro v p h1 h2
  rw [one h1]
  refine ⟨rfl, by simpa using h1, fun i hi => ?_⟩
  have : i = 0 := by simp at hi; omega
  subst this
  exact h2
 cases hv with
 | g v x F hg hd =>
  by_cases hs : x.scal = true
  ·have h3 : (PV.g x).cells = [.g x] := by cases x <;> simp_all [PV.cells, GV.scal]
   have := key (hg.scal_one hs).1 (PRep.g (μ := μ) (h := h) v x F hg hd)
   rw [h3]; exact this
  ·cases hg with
   | agg vs gs Fs hv hF h1 hg' hh =>
    refine ⟨by simp [Value.cells, PV.cells, hv], by simpa [Value.cells] using h1, fun i hi => ?_⟩
    have hi' : i < gs.length := by simpa [PV.cells] using hi
    have e1 : (Value.agg vs.toArray).cells.getD i Go.undef = vs[i]'(hv ▸ hi') := by simp [Value.cells, Array.getD, hv, hi']
    have e2 : (PV.g (.agg gs)).cells[i] = .g gs[i] := by simp [PV.cells]
    rw [e1, e2]
    exact .g _ _ _ (hh i hi') fun b hb => hd b (Zac _ hb)
   | tup => simp [PV.val] at hp
   | atom x hx => cases x <;> simp_all [GV.atom, GV.scal]
   | fn | box | sl | ex | raw | bd => simp [GV.scal] at hs
 | nils e he => exact key rfl (.nils e he)
 | own v id lo len h1 h2 h3 => exact key h1 (.own v id lo len h1 h2 h3)
 | ptr v id off h1 h2 h3 => exact key h1 (.ptr v id off h1 h2 h3)
 | eptr v id k j h1 h2 h3 => exact key h1 (.eptr v id k j h1 h2 h3)
 | iptr v p cs vs Fs hp' hs hv hF hb hr hc hg he hd => exact key (by rw [hp']; rfl) (.iptr v p cs vs Fs hp' hs hv hF hb hr hc hg he hd)
 | fn f vs cs hv he => exact key rfl (.fn f vs cs hv he)
 | agg vs cs hv h1 he =>
  refine ⟨by simp [Value.cells, PV.cells, hv], by simpa [Value.cells] using h1, fun i hi => ?_⟩
  have hi' : i < cs.length := by simpa [PV.cells] using hi
  have e1 : (Value.agg vs.toArray).cells.getD i Go.undef = vs[i]'(hv ▸ hi') := by simp [Value.cells, Array.getD, hv, hi']
  rw [e1]
  exact he i hi'
 | undef | none_ | tup | glob => simp [PV.val] at hp
end Go.Proofs.YtjjidamlmebaaaaGreat
namespace Go.Proofs.YtjjidamlmebaaaaGreat
open Go.RowKit
open Shp
variable {o : Oper} {x y : Operand} {F : List Nat} {v : Value} {k : IntKind} {pv : PV} {op : BinOp} {t t' : TypeId}
section
variable {P : Program} {tab : Tab} {w0 : W0} {S : AState} {a : Act} {w : World} {μ : Lay} {who : Nat → Option Nat}
def ZbU : Block → Bool
 | .free => true
 | _ => false
theorem ZbI {b : Block} (h : ZbU b = true) : b = .free := by cases b <;> simp_all [ZbU]
theorem Zof (h : RelAt w0 S a w μ who)   (ho : o.op = .move x ∨ o.op = .assign x) : Does P w0 a (S.writes []) (S.ev tab o.type x) ((execOp a.eval o).run P w) := by
 refine Does.pure h (v := a.eval x) ?_ (h.ev tab o.type x)
 unfold execOp
 rcases ho with ho | ho <;> simp [ho]
def ZqQ (c p q : PV) : Option (PV × List (Nat × Block)) :=
 match c with
 | .g (.bool b) => some (bif b then p else q, [])
 | _ => none
theorem GRep.bool_inv {w : World}   {b : Bool} (h : GRep w F v (.bool b)) : v = .bool b := by
 cases h with | atom x hx => rfl
theorem GRep.int_inv {w : World}    {n : Int} (h : GRep w F v (.int k n)) : v = .int k n := by
 cases h with | atom x hx => rfl
theorem GRep.str_inv {w : World}   {s : ByteArray} (h : GRep w F v (.str s)) : v = .string s := by
 cases h with | atom x hx => rfl
theorem PRep.g_inv {w : World} {μ : Lay} {h : Nat → Block}  {x : GV} (hv : PRep w μ h v (.g x)) : ∃ F, GRep w F v x ∧ ∀ b ∈ F, ¬ Root μ h b := by
 cases hv with | g v x F hg hd => exact ⟨F, hg, hd⟩
theorem PRep.bool_inv {w : World} {μ : Lay} {h : Nat → Block} {v : Value} {b : Bool} (hv : PRep w μ h v (.g (.bool b))) : v = .bool b := by
 obtain ⟨F, hg, _⟩ := hv.g_inv; exact hg.bool_inv
theorem PRep.int_inv {w : World} {μ : Lay} {h : Nat → Block} {v : Value} {k : IntKind} {n : Int} (hv : PRep w μ h v (.g (.int k n))) : v = .int k n := by
 obtain ⟨F, hg, _⟩ := hv.g_inv; exact hg.int_inv
theorem PRep.str_inv {w : World} {μ : Lay} {h : Nat → Block} {v : Value} {s : ByteArray} (hv : PRep w μ h v (.g (.str s))) : v = .string s := by
 obtain ⟨F, hg, _⟩ := hv.g_inv; exact hg.str_inv
theorem PRep.of_bool (w : World) (μ : Lay) (h : Nat → Block) (b : Bool) : PRep w μ h (.bool b) (.g (.bool b)) := .g _ _ [] (.atom (.bool b) rfl) (by simp)
theorem PRep.of_int (w : World) (μ : Lay) (h : Nat → Block) (k : IntKind) (n : Int) : PRep w μ h (.int k n) (.g (.int k n)) := .g _ _ [] (.atom (.int k n) rfl) (by simp)
theorem ZsO (h : RelAt w0 S a w μ who)  {c : Operand} (ho : o.op = .pick c x y)  {ws : List (Nat × Block)} (hx : ZqQ (S.ev tab 0 c) (S.ev tab o.type x) (S.ev tab o.type y) = some (pv, ws)) :
  Does P w0 a (S.writes ws) pv ((execOp a.eval o).run P w) := by
 unfold ZqQ at hx
 split at hx
 ·rename_i b hb
  simp only [Option.some.injEq, Prod.mk.injEq] at hx
  obtain ⟨rfl, rfl⟩ := hx
  have h1 := h.ev tab 0 c
  rw [hb] at h1
  have h2 := h1.bool_inv
  refine Does.pure h (v := if b then a.eval x else a.eval y) ?_ ?_
  ·unfold execOp; simp [ho, h2, asBool]
  ·cases b
   ·exact h.ev tab o.type y
   ·exact h.ev tab o.type x
 ·cases hx
def Zl3 (op : BinOp) (k : IntKind) (x y : Int) : Int :=
 match op with
 | .and => k.wrap (BitVec.ofInt k.bits x &&& BitVec.ofInt k.bits y).toNat
 | .xor => k.wrap (BitVec.ofInt k.bits x ^^^ BitVec.ofInt k.bits y).toNat
 | _ => 0
def Zde (op : BinOp) (k : IntKind) (x y : Int) : Option GV :=
 match op with
 | .add => some (.int k (k.wrap (x + y)))
 | .sub => some (.int k (k.wrap (x - y)))
 | .mul => some (.int k (k.wrap (x * y)))
 | .quo => if y = 0 then none else some (.int k (k.wrap (x.tdiv y)))
 | .rem => if y = 0 then none else some (.int k (x.tmod y))
 | .eql => some (.bool (x == y))
 | .neq => some (.bool (x != y))
 | .lss => some (.bool (decide (x < y)))
 | .leq => some (.bool (decide (x ≤ y)))
 | .gtr => some (.bool (decide (x > y)))
 | .geq => some (.bool (decide (x ≥ y)))
 | .and => some (.int k (Zl3 .and k x y))
 | .xor => some (.int k (Zl3 .xor k x y))
 | _ => none
def aBin (op : BinOp) (x y : PV) : Option (PV × List (Nat × Block)) :=
 match op, x, y with
 | .shl, .g (.int k x), .g (.int _ y) => if y < 0 then none else some (.g (.int k (k.wrap (x * 2 ^ min y.toNat k.bits))), [])
 | .shr, .g (.int k x), .g (.int _ y) => if y < 0 then none else some (.g (.int k (x.fdiv (2 ^ min y.toNat k.bits))), [])
 | op, .g (.int k x), .g (.int k' y) => if k = k' then (match Zde op k x y with | some v => some (.g v, []) | none => none) else none
 | _, _, _ => none
theorem Zn1  {x y : Int} {v : GV} (h : Zde op k x y = some v) : v.atom = true := by
 unfold Zde at h
 split at h <;> first | (simp at h; subst h; rfl) | (split at h <;> simp at h; subst h; rfl) | cases h
theorem Zpd  {x y : Int} {v : GV} (h : Zde op k x y = some v) (hs : op ≠ .shl) (hr : op ≠ .shr) (t : TypeId) (w : World) : (binOp op t (.int k x) (.int k y)).run P w = .ok (ZcL v) w := by
 unfold Zde at h
 split at h <;> first | (simp at h; subst h; simp [binOp, Op.intArith, Op.intCmp, ZcL]; done) | (simp at h; subst h; simp [binOp, Op.intBits, Zl3, ZcL]; done) | skip
 ·split at h
  ·cases h
  ·rename_i hy; simp at h; subst h; simp [binOp, Op.intDiv, ZcL, hy]
 ·split at h
  ·cases h
  ·rename_i hy; simp at h; subst h; simp [binOp, Op.intDiv, ZcL, hy]
 ·cases h
theorem ZxX (h : RelAt w0 S a w μ who)     (ho : o.op = .binOp op t x y t')  {ws : List (Nat × Block)} (hx : aBin op (S.ev tab 0 x) (S.ev tab 0 y) = some (pv, ws)) :
  Does P w0 a (S.writes ws) pv ((execOp a.eval o).run P w) := by
 have h1 := h.ev tab 0 x
 have h2 := h.ev tab 0 y
 unfold aBin at hx
 split at hx
 ·rename_i k m k' n e1 e2
  rw [e1] at h1; rw [e2] at h2
  split at hx
  ·cases hx
  ·rename_i hn
   simp only [Option.some.injEq, Prod.mk.injEq] at hx
   obtain ⟨rfl, rfl⟩ := hx
   refine Does.pure h (v := .int k (k.wrap (m * 2 ^ min n.toNat k.bits))) ?_ (PRep.of_int _ _ _ _ _)
   unfold execOp; simp [ho, h1.int_inv, h2.int_inv, eqGuard, binOp, Op.shift, hn]
 ·rename_i k m k' n e1 e2
  rw [e1] at h1; rw [e2] at h2
  split at hx
  ·cases hx
  ·rename_i hn
   simp only [Option.some.injEq, Prod.mk.injEq] at hx
   obtain ⟨rfl, rfl⟩ := hx
   refine Does.pure h (v := .int k (m.fdiv (2 ^ min n.toNat k.bits))) ?_ (PRep.of_int _ _ _ _ _)
   unfold execOp; simp [ho, h1.int_inv, h2.int_inv, eqGuard, binOp, Op.shift, hn]
 ·rename_i k m k' n hs hr e1 e2
  rw [e1] at h1; rw [e2] at h2
  split at hx
  ·rename_i hk
   subst hk
   split at hx
   ·rename_i v hv
    simp only [Option.some.injEq, Prod.mk.injEq] at hx
    obtain ⟨rfl, rfl⟩ := hx
    have hrun := Zpd (P := P) hv (fun e => hs e) (fun e => hr e) t w
    refine Does.pure h (v := ZcL v) ?_ (.g _ _ [] (.atom v (Zn1 hv)) (by simp))
    have hg : ∀ op, (eqGuard op t x y (.int k m) (.int k n)).run P w = .ok () w := by
     intro op
     unfold eqGuard
     split <;> simp
    unfold execOp; simp [ho, h1.int_inv, h2.int_inv, hg, hrun]
   ·cases hx
  ·cases hx
 ·cases hx
def Zer (tab : Tab) (t : TypeId) : Bool := match tab t with | some ti => (match ti.kind with | .bool => true | _ => false) | none => false
theorem Zjw (ht : TabOk P tab)  (h : Zer tab t = true) : P.underlying t = some .bool := by
 unfold Zer at h
 split at h
 ·rename_i ti hti
  obtain ⟨_, _, d, h1⟩ := ht t ti hti
  have h2 := h1.kind
  split at h
  ·rename_i hk
   rw [hk] at h2
   have h3 : d = .bool := h2
   rw [← h3]; exact h1.desc
  ·cases h
 ·cases h
def Zhb (tab : Tab) (op : BinOp) (t : TypeId) (x y : PV) : Option (PV × List (Nat × Block)) :=
 match op, x, y with
 | .eql, .g (.bool a), .g (.bool b) => if Zer tab t then some (.g (.bool (a == b)), []) else none
 | .neq, .g (.bool a), .g (.bool b) => if Zer tab t then some (.g (.bool (!(a == b))), []) else none
 | op, x, y => aBin op x y
theorem Zqq  {x y : PV} {r : PV × List (Nat × Block)} (h : aBin op x y = some r) : Zhb tab op t x y = some r := by
 unfold Zhb
 split
 ·simp [aBin] at h
 ·simp [aBin] at h
 ·exact h
theorem ZsT (ht : TabOk P tab) (h : RelAt w0 S a w μ who)     (ho : o.op = .binOp op t x y t')  {ws : List (Nat × Block)} (hx : Zhb tab op t (S.ev tab 0 x) (S.ev tab 0 y) = some (pv, ws)) :
  Does P w0 a (S.writes ws) pv ((execOp a.eval o).run P w) := by
 have h1 := h.ev tab 0 x
 have h2 := h.ev tab 0 y
 unfold Zhb at hx
 split at hx
 ·rename_i m n e1 e2
  rw [e1] at h1; rw [e2] at h2
  split at hx
  ·rename_i hb
   simp only [Option.some.injEq, Prod.mk.injEq] at hx
   obtain ⟨rfl, rfl⟩ := hx
   have hu := Zjw ht hb
   refine Does.pure h (v := .bool (m == n)) ?_ (PRep.of_bool _ _ _ _)
   have hg : (eqGuard .eql t x y (.bool m) (.bool n)).run P w = .ok () w := by unfold eqGuard; split <;> simp
   unfold execOp; simp [ho, h1.bool_inv, h2.bool_inv, hg, binOp, run_equal_bool w t m n hu]
  ·cases hx
 ·rename_i m n e1 e2
  rw [e1] at h1; rw [e2] at h2
  split at hx
  ·rename_i hb
   simp only [Option.some.injEq, Prod.mk.injEq] at hx
   obtain ⟨rfl, rfl⟩ := hx
   have hu := Zjw ht hb
   refine Does.pure h (v := .bool (!(m == n))) ?_ (PRep.of_bool _ _ _ _)
   have hg : (eqGuard .neq t x y (.bool m) (.bool n)).run P w = .ok () w := by unfold eqGuard; split <;> simp
   unfold execOp; simp [ho, h1.bool_inv, h2.bool_inv, hg, binOp, run_equal_bool w t m n hu]
  ·cases hx
 ·exact ZxX h ho hx
def aUn (op : UnOp) (x : PV) : Option (PV × List (Nat × Block)) :=
 match op, x with
 | .not, .g (.bool b) => some (.g (.bool (!b)), [])
 | .neg, .g (.int k n) => some (.g (.int k (k.wrap (0 - n))), [])
 | _, _ => none
theorem Zze (h : RelAt w0 S a w μ who)  {op : UnOp}   (ho : o.op = .unOp op t x)  {ws : List (Nat × Block)} (hx : aUn op (S.ev tab 0 x) = some (pv, ws)) :
  Does P w0 a (S.writes ws) pv ((execOp a.eval o).run P w) := by
 have h1 := h.ev tab 0 x
 unfold aUn at hx
 split at hx
 ·rename_i b e1
  rw [e1] at h1
  simp only [Option.some.injEq, Prod.mk.injEq] at hx
  obtain ⟨rfl, rfl⟩ := hx
  refine Does.pure h (v := .bool (!b)) ?_ (PRep.of_bool _ _ _ _)
  unfold execOp; simp [ho, h1.bool_inv, Op.unary]
 ·rename_i k n e1
  rw [e1] at h1
  simp only [Option.some.injEq, Prod.mk.injEq] at hx
  obtain ⟨rfl, rfl⟩ := hx
  refine Does.pure h (v := .int k (k.wrap (0 - n))) ?_ (PRep.of_int _ _ _ _ _)
  unfold execOp; simp [ho, h1.int_inv, Op.unary, Op.intArith]
 ·cases hx
def Zhy (i : Nat) (x : PV) : Option (PV × List (Nat × Block)) :=
 match x with
 | .tup vs => match vs[i]? with
  | some v => some (v, [])
  | none => none
 | _ => none
theorem ZnL (h : RelAt w0 S a w μ who)   {i : Nat} (ho : o.op = .extract x i)  {ws : List (Nat × Block)} (hx : Zhy i (S.ev tab 0 x) = some (pv, ws)) :
  Does P w0 a (S.writes ws) pv ((execOp a.eval o).run P w) := by
 have h1 := h.ev tab 0 x
 unfold Zhy at hx
 split at hx
 ·rename_i vs e1
  rw [e1] at h1
  split at hx
  ·rename_i v hv
   simp only [Option.some.injEq, Prod.mk.injEq] at hx
   obtain ⟨rfl, rfl⟩ := hx
   obtain ⟨hi, rfl⟩ := List.getElem?_eq_some_iff.1 hv
   cases h1' : a.eval x <;> rw [h1'] at h1 <;> cases h1
   rename_i us hl he
   refine Does.pure h (v := us[i]'(by rw [hl]; exact hi)) ?_ (he i hi)
   unfold execOp
   simp [ho, h1', Instr.extract, hl, hi]
  ·cases hx
 ·cases hx
end
end Go.Proofs.YtjjidamlmebaaaaGreat
namespace Go.Proofs.YtjjidamlmebaaaaGreat
open Go.RowKit
open Shp
variable {o : Oper} {nid : Nat} {pv : PV} {t : TypeId} {ti : TI} {p : Addr}
section
variable {P : Program} {tab : Tab} {w0 : W0} {S : AState} {a : Act} {w : World} {μ : Lay} {who : Nat → Option Nat}
def ZlL (tab : Tab) (nid : Nat) (h : Nat → Block) (elem : TypeId) : Option (PV × List (Nat × Block)) :=
 match tab elem with
 | some ti => if ZbU (h nid) then some (.ptr nid 0, [(nid, .box ti.zero)]) else none
 | none => none
theorem ZqK (ht : TabOk P tab) (h : RelAt w0 S a w μ who)  {elem : TypeId} (ho : o.op = .alloc elem)   {ws : List (Nat × Block)} (hx : ZlL tab nid S.heap elem = some (pv, ws)) :
  Does P w0 a (S.writes ws) pv ((execOp a.eval o).run P w) := by
 unfold ZlL at hx
 split at hx
 ·rename_i ti hti
  split at hx
  ·rename_i hf
   simp only [Option.some.injEq, Prod.mk.injEq] at hx
   obtain ⟨rfl, rfl⟩ := hx
   obtain ⟨inf, z, d, h1⟩ := ht elem ti hti
   obtain ⟨μ', r1, r2⟩ := h.newBox (ZbI hf) z.cells elem ti.zero (by rw [h1.zsize, h1.zlen]) (fun v hv => by
    obtain ⟨k, hk', rfl⟩ := List.getElem_of_mem hv
    have h6 := (h1.zok k (by rw [h1.zlen, ← h1.zsize]; simpa using hk')).1
    simpa [Array.getD, show k < z.cells.size by simpa using hk'] using h6) (fun i hi => (h1.zok i hi).2 w μ S.heap)
   have hrun : (execOp a.eval o).run P w = .ok (.value (.pointer (some ⟨w.heap.size, 0, none⟩))) (w.alloc (.cells z.cells elem)) := by
    unfold execOp; simp [ho, Instr.alloc, zeroValue, typeInfo, h1.info, h1.zero, newVar, newRow]
   rw [hrun]
   exact ⟨μ', who, r1, r2⟩
  ·cases hx
 ·cases hx
def aBox (tab : Tab) (nid : Nat) (h : Nat → Block) (elem : TypeId) (x : PV) : Option (PV × List (Nat × Block)) :=
 if ZbU (h nid) && x.val then some (.ptr nid 0, [(nid, .box x.cells)]) else none
theorem Zwl (h : RelAt w0 S a w μ who)  {elem : TypeId} {x : Operand} (ho : o.op = .box elem x)   {ws : List (Nat × Block)} (hx : aBox tab nid S.heap elem (S.ev tab elem x) = some (pv, ws)) :
  Does P w0 a (S.writes ws) pv ((execOp a.eval o).run P w) := by
 unfold aBox at hx
 split at hx
 ·rename_i hf
  simp only [Bool.and_eq_true] at hf
  simp only [Option.some.injEq, Prod.mk.injEq] at hx
  obtain ⟨rfl, rfl⟩ := hx
  obtain ⟨c1, c2, c3⟩ := (h.ev tab elem x).cells hf.2
  obtain ⟨μ', r1, r2⟩ := h.newBox (ZbI hf.1) (a.eval x).cells elem _ c1 c2 c3
  have hrun : (execOp a.eval o).run P w = .ok (.value (.pointer (some ⟨w.heap.size, 0, none⟩))) (w.alloc (.cells (a.eval x).cells elem)) := by
   unfold execOp; simp [ho, Instr.box, newVar, newRow]
  rw [hrun]
  exact ⟨μ', who, r1, r2⟩
 ·cases hx
def ZeL (ti : TI) (off : Nat) (cs : List PV) : Option PV :=
 if ti.kind.agg then (if off + ti.size ≤ cs.length then some (.agg ((cs.drop off).take ti.size)) else none) else cs[off]?
def Za9 (ti : TI) (cs : List GV) : Option PV :=
 if ti.kind.agg then (if ti.size ≤ cs.length then some (.g (.agg (cs.take ti.size))) else none) else (cs[0]?).map .g
def GV.isTup : GV → Bool
 | .tup _ => true
 | _ => false
def Zeb (tab : Tab) (h : Nat → Block) (t : TypeId) (p : PV) : Option (PV × List (Nat × Block)) :=
 match tab t with
 | none => none
 | some ti => match p with
  | .ptr id off => match h id with
   | .box cs => (ZeL ti off cs).map fun v => (v, [])
   | _ => none
  | .eptr id k j => match h id with
   | .arr e _ xs => match xs[k]? with
    | some x => if x.isTup then none else (Za9 ti (x.cells.drop j)).map fun v => (v, [])
    | none => none
   | _ => none
  | .iptr cs => (Za9 ti cs).map fun v => (v, [])
  | .g (.box cs) => (Za9 ti cs).map fun v => (v, [])
  | _ => none
theorem ZgU (ht : TabOk P tab)   (hti : tab t = some ti) (hag : ti.kind.agg = true) (p : Addr) (cs : List Value) (hl : cs.length = ti.size) (hc : ∀ j v, cs[j]? = some v → w.cell? (p.add j) = some v) :
  (Instr.loadAt t (.pointer (some p))).run P w = .ok (.agg cs.toArray) w := by
 have h1 := run_loadCells_list (P := P) w p cs hc
 rw [hl] at h1
 simp [Instr.loadAt, Instr.sureAddr, loadVar, ht.agg hti, ht.sizeOf hti, hag, h1]
theorem ZgK (ht : TabOk P tab)   (hti : tab t = some ti) (hag : ti.kind.agg = false) (p : Addr) (v : Value) (hc : w.cell? p = some v) :
  (Instr.loadAt t (.pointer (some p))).run P w = .ok v w := by
 simp [Instr.loadAt, Instr.sureAddr, loadVar, ht.agg hti, hag, run_load, hc]
structure ImmAt (w : World) (μ : Lay) (h : Nat → Block) (p : Addr) (cs : List GV) (vs : List Value) (Fs : List (List Nat)) : Prop where
 hv : vs.length = cs.length
 hF : Fs.length = cs.length
 hc : ∀ i (hi : i < vs.length), w.cell? (p.add i) = some vs[i] ∧ (vs[i]).oneCell' = true
 hg : ∀ x ∈ cs, x.ncells = 1
 he : ∀ i (hi : i < cs.length), GRep w (Fs[i]'(hF ▸ hi)) (vs[i]'(hv ▸ hi)) cs[i]
 hd : ∀ b ∈ Fs.flatten, ¬ Root μ h b
theorem Zkl (ht : TabOk P tab) (h : RelAt w0 S a w μ who)   (hti : tab t = some ti)  {cs : List GV} {vs : List Value} {Fs : List (List Nat)} (hi : ImmAt w μ S.heap p cs vs Fs)  (hx : Za9 ti cs = some pv) :
  ∃ v, (Instr.loadAt t (.pointer (some p))).run P w = .ok v w ∧ PRep w μ S.heap v pv := by
 unfold Za9 at hx
 split at hx
 ·rename_i hag
  split at hx
  ·rename_i hle
   simp only [Option.some.injEq] at hx
   subst hx
   have hvl : (vs.take ti.size).length = ti.size := by rw [List.length_take, hi.hv]; omega
   refine ⟨_, ZgU ht hti hag p (vs.take ti.size) hvl (fun j v hj => ?_), .g _ _ (Fs.take ti.size).flatten (.agg (vs.take ti.size) (cs.take ti.size) (Fs.take ti.size) (by simp [hi.hv]) (by simp [hi.hF]) (fun v hv => ?_) (fun x hx => hi.hg x (List.mem_of_mem_take hx)) (fun k hk => ?_)) (fun b hb => hi.hd b ((ZdO (List.take_sublist _ _)).subset hb))⟩
   ·obtain ⟨hj', rfl⟩ := List.getElem?_eq_some_iff.1 hj
    rw [List.getElem_take]
    exact (hi.hc j (by simp at hj'; omega)).1
   ·obtain ⟨k, hk, rfl⟩ := List.getElem_of_mem hv
    rw [List.getElem_take]
    exact (hi.hc k (by simp at hk; omega)).2
   ·simp only [List.getElem_take]
    exact hi.he k (by simp at hk; omega)
  ·cases hx
 ·rename_i hag
  cases hc : cs[0]? with
  | none => simp [hc] at hx
  | some x =>
   simp only [hc, Option.map_some, Option.some.injEq] at hx
   subst hx
   obtain ⟨h0, rfl⟩ := List.getElem?_eq_some_iff.1 hc
   have h0' : 0 < vs.length := by rw [hi.hv]; exact h0
   have h1 := (hi.hc 0 h0').1
   have e0 : p.add 0 = p := by simp [Addr.add]
   rw [e0] at h1
   exact ⟨_, ZgK ht hti (by simpa using hag) p _ h1, .g _ _ _ (hi.he 0 h0) fun b hb => hi.hd b (Zac _ hb)⟩
theorem add_add (p : Addr) (hs : p.spot = none) (i j : Nat) : (p.add i).add j = p.add (i + j) := by
 obtain ⟨b, o, s⟩ := p
 simp only at hs
 subst hs
 rw [Addr.add_mid, Addr.add_mid, Addr.add_mid, Nat.add_assoc]
theorem ImmAt.drop {p : Addr} {cs : List GV} {vs : List Value} {Fs : List (List Nat)} {h : Nat → Block} (hi : ImmAt w μ h p cs vs Fs) (hs : p.spot = none) (n : Nat) : ImmAt w μ h (p.add n) (cs.drop n) (vs.drop n) (Fs.drop n) :=
 ⟨by simp [hi.hv], by simp [hi.hF], fun i hk => by
  rw [add_add p hs, List.getElem_drop]
  exact hi.hc (n + i) (by simp at hk; omega), fun x hx => hi.hg x (List.mem_of_mem_drop hx), fun i hk => by
  simp only [List.getElem_drop]
  exact hi.he (n + i) (by simp at hk; omega), fun b hb => hi.hd b ((ZdO (List.drop_sublist _ _)).subset hb)⟩
theorem GRep.imm {F : List Nat} {v : Value} {x : GV} {h : Nat → Block} (hg : GRep w F v x) (hd : ∀ b ∈ F, ¬ Root μ h b) (ht : ∀ vs, x ≠ .tup vs)  (hc : ∀ j (hj : j < v.cells.size), w.cell? (p.add j) = some v.cells[j]) :
  ∃ vs Fs, ImmAt w μ h p x.cells vs Fs := by
 by_cases hs : x.scal = true
 ·have h1 := hg.scal_one hs
  have h2 : x.cells = [x] := by cases x <;> simp_all [GV.cells, GV.scal]
  have h3 := hg.one_of hs
  refine ⟨[v], [F], by rw [h2]; rfl, by rw [h2]; rfl, fun i hi => ?_, by rw [h2]; simpa using h1.2, fun i hi => ?_, by simpa using hd⟩
  ·have : i = 0 := by simp at hi; omega
   subst this
   have h4 := hc 0 (by rw [h3]; simp)
   simp only [h3] at h4
   exact ⟨by simpa using h4, h1.1⟩
  ·have : i = 0 := by rw [h2] at hi; simp at hi; omega
   subst this
   have e2 : x.cells[0]'hi = x := by simp [h2]
   rw [e2]; exact hg
 ·cases hg with
  | agg vs gs Fs hv hF h1 hg' hh =>
   refine ⟨vs, Fs, hv, hF, fun i hi => ⟨?_, h1 _ (List.getElem_mem _)⟩, hg', hh, hd⟩
   have := hc i (by simpa [Value.cells] using hi)
   simpa [Value.cells] using this
  | tup vs gs => exact absurd rfl (ht gs)
  | atom x hx => cases x <;> simp_all [GV.atom, GV.scal]
  | fn | box | sl | ex | raw | bd => simp [GV.scal] at hs
end
end Go.Proofs.YtjjidamlmebaaaaGreat

