/- Abstract values: plain data as trees ('GV'), and how they lie in memory ('GRep'). No program in sight; no conditions. -/
import Derived.Test.YtdkjeodenbffnaaBase
namespace Go.Proofs.Ytdkjeodenbffnaa
open Go.RowKit
open Shp

/-- Plain data, by value. -/
inductive GV where
  | bool (b : Bool)
  | int (k : IntKind) (n : Int)
  | str (s : ByteArray)
  | nilp
  | fn (f : FuncId) (caps : List GV)
  | box (cs : List GV)
  | sl (e : Nat) (xs : List GV)
  | agg (cs : List GV)
  | tup (vs : List GV)
  deriving Inhabited

def GV.ncells : GV → Nat
  | .agg cs => cs.length
  | _ => 1

def GV.cells : GV → List GV
  | .agg cs => cs
  | v => [v]

def GV.atom : GV → Bool
  | .bool _ | .int _ _ | .str _ | .nilp => true
  | _ => false

def ofAtom : GV → Value
  | .bool b => .bool b
  | .int k n => .int k n
  | .str s => .string s
  | .nilp => .pointer none
  | _ => .tuple #[]

/-- 'The world's cells read as this tree; it reaches these blocks.' -/
inductive GRep (w : World) : List Nat → Value → GV → Prop
  | atom (x : GV) : x.atom = true → GRep w [] (ofAtom x) x
  | fn (f : FuncId) (vs : List Value) (gs : List GV) (Fs : List (List Nat)) (hv : vs.length = gs.length) (hF : Fs.length = gs.length)
      (h : ∀ i (hi : i < gs.length), GRep w (Fs[i]'(hF ▸ hi)) (vs[i]'(hv ▸ hi)) gs[i]) : GRep w Fs.flatten (.func (.func f) #[] vs.toArray) (.fn f gs)
  | agg (vs : List Value) (gs : List GV) (Fs : List (List Nat)) (hv : vs.length = gs.length) (hF : Fs.length = gs.length) (h1 : ∀ v ∈ vs, v.oneCell' = true) (hg : ∀ x ∈ gs, x.ncells = 1)
      (h : ∀ i (hi : i < gs.length), GRep w (Fs[i]'(hF ▸ hi)) (vs[i]'(hv ▸ hi)) gs[i]) : GRep w Fs.flatten (.agg vs.toArray) (.agg gs)
  | tup (vs : List Value) (gs : List GV) (Fs : List (List Nat)) (hv : vs.length = gs.length) (hF : Fs.length = gs.length)
      (h : ∀ i (hi : i < gs.length), GRep w (Fs[i]'(hF ▸ hi)) (vs[i]'(hv ▸ hi)) gs[i]) : GRep w Fs.flatten (.tuple vs.toArray) (.tup gs)
  | box (b : Nat) (vs : List Value) (gs : List GV) (Fs : List (List Nat)) (hb : b < w.heap.size) (hv : vs.length = gs.length) (hF : Fs.length = gs.length) (h1 : ∀ v ∈ vs, v.oneCell' = true) (hg : ∀ x ∈ gs, x.ncells = 1)
      (hc : ∀ i (hi : i < vs.length), w.cell? ⟨b, i, none⟩ = some vs[i])
      (h : ∀ i (hi : i < gs.length), GRep w (Fs[i]'(hF ▸ hi)) (vs[i]'(hv ▸ hi)) gs[i]) : GRep w (b :: Fs.flatten) (.pointer (some ⟨b, 0, none⟩)) (.box gs)
  | sl (a : Option Addr) (cap e : Nat) (vs : List Value) (gs : List GV) (Fs : List (List Nat)) (hv : vs.length = gs.length) (hF : Fs.length = gs.length) (he : 0 < e) (hg : ∀ x ∈ gs, x.ncells = e)
      (le : gs.length ≤ cap) (max : cap ≤ 9223372036854775807) (nil : a = none → cap = 0) (ad : ∀ p, a = some p → 0 < cap → p.spot = none ∧ p.block < w.heap.size)
      (hc : ∀ k (hk : k < vs.length), (vs[k]).cells.size = e ∧ (∀ v ∈ (vs[k]).cells.toList, v.oneCell' = true) ∧ (∀ j (hj : j < (vs[k]).cells.size), w.cell? (sAt a (k * e + j)) = some (vs[k]).cells[j] ∧ w.frozen? (sAt a (k * e + j)) = false))
      (h : ∀ i (hi : i < gs.length), GRep w (Fs[i]'(hF ▸ hi)) (vs[i]'(hv ▸ hi)) gs[i]) : GRep w (own a cap ++ Fs.flatten) (.slice a gs.length cap) (.sl e gs)

theorem getElem_mem_flatten {Fs : List (List Nat)} {i : Nat} (hi : i < Fs.length) {b : Nat} (hb : b ∈ Fs[i]) : b ∈ Fs.flatten := by
  simp only [List.mem_flatten]; exact ⟨_, List.getElem_mem _, hb⟩

theorem mem_flatten_getElem {Fs : List (List Nat)} {b : Nat} (hb : b ∈ Fs.flatten) : ∃ i, ∃ hi : i < Fs.length, b ∈ Fs[i] := by
  simp only [List.mem_flatten] at hb
  obtain ⟨l, hl, hb⟩ := hb
  obtain ⟨i, hi, rfl⟩ := List.getElem_of_mem hl
  exact ⟨i, hi, hb⟩

theorem heap_lt_of_eq {w w' : World} {b : Nat} (h : b < w.heap.size) (e : w'.heap[b]? = w.heap[b]?) : b < w'.heap.size := by
  rcases Nat.lt_or_ge b w'.heap.size with h3 | h3
  · exact h3
  · rw [Array.getElem?_eq_none h3, Array.getElem?_eq_getElem h] at e; simp at e

theorem own_inv {a : Option Addr} {n b : Nat} (h : b ∈ own a n) : ∃ p, a = some p ∧ 0 < n ∧ p.block = b := by
  unfold own at h
  split at h
  · simp at h
  · simp only [Option.mem_toList, Option.map_eq_some_iff] at h
    obtain ⟨p, hp, rfl⟩ := h
    exact ⟨p, hp, by omega, rfl⟩
theorem own_nodup (a : Option Addr) (n : Nat) : (own a n).Nodup := by
  unfold own
  split
  · simp
  · cases a <;> simp

theorem GRep.lt {w : World} {F : List Nat} {v : Value} {x : GV} (h : GRep w F v x) : ∀ b ∈ F, b < w.heap.size := by
  induction h with
  | atom x hx => intro b hb; simp at hb
  | fn f vs gs Fs hv hF h ih => intro b hb; obtain ⟨i, hi, hb⟩ := mem_flatten_getElem hb; exact ih i (hF ▸ hi) b hb
  | agg vs gs Fs hv hF h1 hg h ih => intro b hb; obtain ⟨i, hi, hb⟩ := mem_flatten_getElem hb; exact ih i (hF ▸ hi) b hb
  | tup vs gs Fs hv hF h ih => intro b hb; obtain ⟨i, hi, hb⟩ := mem_flatten_getElem hb; exact ih i (hF ▸ hi) b hb
  | box b vs gs Fs hb hv hF h1 hg hc h ih =>
    intro b' hb'
    rcases List.mem_cons.1 hb' with rfl | hb'
    · exact hb
    · obtain ⟨i, hi, hb'⟩ := mem_flatten_getElem hb'; exact ih i (hF ▸ hi) b' hb'
  | sl a cap e vs gs Fs hv hF he hg le max nil ad hc h ih =>
    intro b hb
    rcases List.mem_append.1 hb with hb | hb
    · obtain ⟨p, hp, hc, rfl⟩ := own_inv hb
      exact (ad p hp hc).2
    · obtain ⟨i, hi, hb⟩ := mem_flatten_getElem hb; exact ih i (hF ▸ hi) b hb

theorem GRep.keep {w w' : World} {F : List Nat} {v : Value} {x : GV} (h : GRep w F v x) (hk : ∀ b ∈ F, w'.heap[b]? = w.heap[b]?) : GRep w' F v x := by
  induction h with
  | atom x hx => exact .atom x hx
  | fn f vs gs Fs hv hF h ih => exact .fn f vs gs Fs hv hF fun i hi => ih i hi fun b hb => hk b (getElem_mem_flatten _ hb)
  | agg vs gs Fs hv hF h1 hg h ih => exact .agg vs gs Fs hv hF h1 hg fun i hi => ih i hi fun b hb => hk b (getElem_mem_flatten _ hb)
  | tup vs gs Fs hv hF h ih => exact .tup vs gs Fs hv hF fun i hi => ih i hi fun b hb => hk b (getElem_mem_flatten _ hb)
  | box b vs gs Fs hb hv hF h1 hg hc h ih =>
    refine .box b vs gs Fs (heap_lt_of_eq hb (hk b (by simp))) hv hF h1 hg (fun i hi => ?_) fun i hi => ih i hi fun b hb => hk b (List.mem_cons_of_mem _ (getElem_mem_flatten _ hb))
    rw [World.cell?_of_block (w := w) (hk b (by simp))]; exact hc i hi
  | sl a cap e vs gs Fs hv hF he hg le max nil ad hc h ih =>
    have hblk : ∀ p, a = some p → 0 < cap → w'.heap[p.block]? = w.heap[p.block]? := fun p hp hc => hk p.block (List.mem_append.2 (.inl (mem_own hp hc)))
    refine .sl a cap e vs gs Fs hv hF he hg le max nil (fun p hp hc => ⟨(ad p hp hc).1, heap_lt_of_eq (ad p hp hc).2 (hblk p hp hc)⟩) (fun k hk' => ⟨(hc k hk').1, (hc k hk').2.1, fun j hj => ?_⟩) fun i hi => ih i hi fun b hb => hk b (List.mem_append.2 (.inr (getElem_mem_flatten _ hb)))
    cases a with
    | none => have := nil rfl; omega
    | some p =>
      have hb : w'.heap[(sAt (some p) (k * e + j)).block]? = w.heap[(sAt (some p) (k * e + j)).block]? := by rw [sAt_block rfl]; exact hblk p rfl (by omega)
      rw [World.cell?_of_block hb, World.frozen?_of_block hb]
      exact (hc k hk').2.2 j hj

theorem GRep.keeps {L : List Nat} {w w' : World} {F : List Nat} {v : Value} {x : GV} (h : GRep w F v x) (hk : Keeps L w w') (hd : ∀ b ∈ F, b ∉ L) : GRep w' F v x :=
  h.keep fun b hb => hk.block b (h.lt b hb) (hd b hb)
theorem GRep.keeps0 {w w' : World} {F : List Nat} {v : Value} {x : GV} (h : GRep w F v x) (hk : Keeps [] w w') : GRep w' F v x := h.keeps hk (by simp)

theorem GRep.one {w : World} {F : List Nat} {v : Value} {x : GV} (h : GRep w F v x) : v.cells.size = x.ncells ∧ (∀ u ∈ v.cells.toList, u.oneCell' = true) ∨ (∃ vs, x = .tup vs) := by
  cases h with
  | atom x hx => cases x <;> simp [GV.atom] at hx <;> exact .inl (by simp [ofAtom, Value.cells, GV.ncells, Value.oneCell'])
  | fn f vs gs Fs hv hF h => exact .inl (by simp [Value.cells, GV.ncells, Value.oneCell'])
  | agg vs gs Fs hv hF h1 hg h => exact .inl ⟨by simp [Value.cells, GV.ncells, hv], by simpa [Value.cells] using h1⟩
  | tup => exact .inr ⟨_, rfl⟩
  | box => exact .inl (by simp [Value.cells, GV.ncells, Value.oneCell'])
  | sl => exact .inl (by simp [Value.cells, GV.ncells, Value.oneCell'])

end Go.Proofs.Ytdkjeodenbffnaa
