/- The groundwork of this folder's proofs: how plain data (numbers, lists, structures) lie in memory ('Shp'), and which blocks a call may have changed ('Keeps'). No program in sight; no conditions. -/
import Derived.Test.YtjjidamlmebaaaaGreatRows
import Derived.WalkKit
import Derived.WalkSpells
import Derived.ProofKit
import Derived.Deep.QuietTactic
import Derived.BigQuiet
import Derived.Lib.Hide
import Derived.Deep.RegionWith
namespace Go.Proofs.YtjjidamlmebaaaaGreat
open Go.RowKit
variable {a c w' W : World} {b n cap : Nat} {α : Type} {L M : List Nat} {p : Addr} {v v0 v1 v2 v3 : Value} {t : TypeId} {cs : List Value} {P : Program} {Fs : List (List Nat)} {xs : List Int}
def nth {α : Type} [Inhabited α] (xs : List α) (k : Nat) : α := xs.getD k default
theorem Zaz  [Inhabited α] {xs : List α} {k : Nat} (h : k < xs.length) : nth xs k = xs[k] := by simp [nth, List.getD, h]
theorem ZaE  [Inhabited α] {xs : List α} {k : Nat} (h : k < xs.length) : nth xs k ∈ xs := by rw [Zaz h]; exact List.getElem_mem _
def sAt (a : Option Addr) (k : Nat) : Addr := (a.getD default).add k
theorem ZfS (b off k : Nat) : sAt (some ⟨b, off, none⟩) k = ⟨b, off + k, none⟩ := by
 unfold sAt Addr.add
 by_cases h : k = 0 <;> simp [h]
def inI64 (x : Int) : Prop := -9223372036854775808 ≤ x ∧ x ≤ 9223372036854775807
structure Keeps (L : List Nat) (w w' : World) : Prop where
 os : w'.os = w.os
 tape : w'.tape = w.tape
 output : w'.output = w.output
 size : w.heap.size ≤ w'.heap.size
 block : ∀ k, k < w.heap.size → k ∉ L → w'.heap[k]? = w.heap[k]?
theorem Keeps.refl (L : List Nat) (w : World) : Keeps L w w := ⟨rfl, rfl, rfl, Nat.le_refl _, fun _ _ _ => rfl⟩
theorem Keeps.trans {L : List Nat} {a b c : World} (h : Keeps L a b) (k : Keeps L b c) : Keeps L a c :=
 ⟨k.os.trans h.os, k.tape.trans h.tape, k.output.trans h.output, Nat.le_trans h.size k.size,
  fun i hi hn => (k.block i (Nat.lt_of_lt_of_le hi h.size) hn).trans (h.block i hi hn)⟩
theorem Keeps.trans'  {b : World} (h : Keeps L a b) (k : Keeps M b c) (hm : ∀ i ∈ M, i < a.heap.size → i ∈ L) : Keeps L a c :=
 ⟨k.os.trans h.os, k.tape.trans h.tape, k.output.trans h.output, Nat.le_trans h.size k.size,
  fun i hi hn => (k.block i (Nat.lt_of_lt_of_le hi h.size) (fun hM => hn (hm i hM hi))).trans (h.block i hi hn)⟩
theorem Keeps.mono  {b : World} (h : Keeps L a b) (hm : ∀ i ∈ L, i ∈ M) : Keeps M a b :=
 ⟨h.os, h.tape, h.output, h.size, fun i hi hn => h.block i hi (fun hl => hn (hm i hl))⟩
theorem Keeps.alloc (L : List Nat) (w : World) (o : Obj) : Keeps L w (w.alloc o) :=
 ⟨rfl, rfl, rfl, by simp, fun k hk _ => Below.heap_alloc _ _ _ hk⟩
theorem Keeps.drew (L : List Nat) (w : World) : Keeps L w w.drew := ⟨rfl, rfl, rfl, Nat.le_refl _, fun _ _ _ => rfl⟩
theorem Keeps.setCell (L : List Nat) (w : World) (p : Addr) (u : Value) (hp : p.block ∈ L ∨ w.heap.size ≤ p.block) : Keeps L w (w.setCell p u) :=
 ⟨rfl, rfl, rfl, by simp [World.setCell], fun k hk hn => Below.heap_setCell _ _ _ _ (by
  intro e; subst e; rcases hp with h | h
  ·exact hn h
  ·omega)⟩
theorem Keeps.below {w : World} (h : Keeps [] w w') : Below w.heap.size w w' := ⟨h.os, h.tape, h.output, h.size, fun k hk => h.block k hk (by simp)⟩
theorem Keeps.cell {L : List Nat} {w w' : World} (h : Keeps L w w') {p : Addr} (hp : p.block < w.heap.size) (hn : p.block ∉ L) : w'.cell? p = w.cell? p :=
 World.cell?_of_block (w := w) (h.block p.block hp hn)
theorem Keeps.cellSome  {w : World} (h : Keeps L w w')   (hc : w.cell? p = some v) (hn : p.block ∉ L) : w'.cell? p = some v := by
 rw [h.cell (World.block_lt_of_cell? w p hc) hn]; exact hc
theorem Keeps.frozen {L : List Nat} {w w' : World} (h : Keeps L w w') {p : Addr} (hp : p.block < w.heap.size) (hn : p.block ∉ L) : w'.frozen? p = w.frozen? p :=
 World.frozen?_of_block (w := w) (h.block p.block hp hn)
theorem Keeps.transL  {b : World} (h : Keeps L a b) (k : Keeps [] b c) : Keeps L a c := h.trans (k.mono (by simp))
theorem Keeps.setL  {w : World} (h : Keeps L a w)  (hp : p.block ∈ L) (u : Value) : Keeps L a (w.setCell p u) := h.trans (Keeps.setCell L w p u (.inl hp))
theorem Keeps.box {w : World} {o : Obj} (h : Keeps [] (w.alloc o) w') : Keeps [] w w' := (Keeps.alloc [] w o).trans' h (by simp)
theorem Keeps.bc {w : World} (h : Keeps [] w w') : (∀ b o, b < w.heap.size → w'.cell? ⟨b, o, none⟩ = w.cell? ⟨b, o, none⟩) ∧ (∀ b o, b < w.heap.size → w'.frozen? ⟨b, o, none⟩ = w.frozen? ⟨b, o, none⟩) :=
 ⟨fun b o hb => h.cell (p := ⟨b, o, none⟩) hb (by simp), fun b o hb => h.frozen (p := ⟨b, o, none⟩) hb (by simp)⟩
theorem Keeps.bd {w : World} (h : Keeps [] w w') : (∀ b o, b < w.heap.size → w'.cell? ⟨b, o, none⟩ = w.cell? ⟨b, o, none⟩) ∧ (∀ b o, b < w.heap.size → w'.frozen? ⟨b, o, none⟩ = w.frozen? ⟨b, o, none⟩) ∧ (∀ b, b < w.heap.size → b < w'.heap.size) :=
 ⟨h.bc.1, h.bc.2, fun b hb => Nat.lt_of_lt_of_le hb h.size⟩
theorem ZbJ {w : World}  {o : Obj} (h : w.heap[b]? = some o) : b < w.heap.size := by
 rcases Nat.lt_or_ge b w.heap.size with h' | h'
 ·exact h'
 ·rw [Array.getElem?_eq_none h'] at h; simp at h
theorem ZpJ {w : World}   {o : Obj}  (h : w.heap[b]? = some o) (hne : p.block ≠ b) : (w.setCell p v).heap[b]? = some o := by
 simp [World.setCell, Array.getElem?_modify, hne, h]
theorem ZiN (w : World) (o : Obj) : (w.alloc o).heap[w.heap.size]? = some o := heap_alloc_new w o
structure After (W : World) where
 w : World
 k : Keeps [] W w
instance {W : World} : Nonempty (After W) := ⟨⟨W, Keeps.refl _ _⟩⟩
theorem After.cell {W : World} (x : After W) (b o : Nat) (h : b < W.heap.size) : x.w.cell? ⟨b, o, none⟩ = W.cell? ⟨b, o, none⟩ := x.k.bc.1 b o h
attribute [go_sem] After.cell
theorem Calls.after  {f : FuncId} {args : Array Value}  {x : After W}  (h : Calls P f args x.w fun e w' => e = .returned v ∧ Keeps [] x.w w') :
  Calls P f args x.w fun e w'' => e = .returned v ∧ ∃ y : After W, w'' = y.w :=
 h.mono fun _ w' ⟨he, hk⟩ => ⟨he, ⟨w', x.k.trans hk⟩, rfl⟩
structure Shp (α : Type) where
 size : Nat
 agg : Bool
 pos : 0 < size
 rep : World → List Nat → List Value → α → Prop
 len : ∀ {w F cs x}, rep w F cs x → cs.length = size
 one : ∀ {w F cs x}, rep w F cs x → ∀ u ∈ cs, u.oneCell' = true
 lt : ∀ {w F cs x}, rep w F cs x → ∀ b ∈ F, b < w.heap.size
 keep : ∀ {w w' F cs x}, rep w F cs x → (∀ b ∈ F, w'.heap[b]? = w.heap[b]?) → rep w' F cs x
namespace Shp
def val {α : Type} (s : Shp α) (cs : List Value) : Value := if s.agg then .agg cs.toArray else cs.headD undef
theorem keeps  (s : Shp α)  {w : World} {F : List Nat}  {x : α} (h : s.rep w F cs x) (hk : Keeps L w w') (hd : ∀ b ∈ F, b ∉ L) : s.rep w' F cs x :=
 s.keep h fun b hb => hk.block b (s.lt h b hb) (hd b hb)
theorem keeps0  (s : Shp α) {w : World} {F : List Nat}  {x : α} (h : s.rep w F cs x) (hk : Keeps [] w w') : s.rep w' F cs x :=
 s.keeps h hk (by simp)
def int : Shp Int where
 size := 1
 agg := false
 pos := by decide
 rep := fun _ F cs x => F = [] ∧ cs = [.int .i64 x] ∧ inI64 x
 len := by rintro w F cs x ⟨_, rfl, _⟩; rfl
 one := by rintro w F cs x ⟨_, rfl, _⟩ u hu; simp at hu; subst hu; rfl
 lt := by rintro w F cs x ⟨rfl, _, _⟩ b hb; simp at hb
 keep := by rintro w w' F cs x h _; exact h
def bool : Shp Bool where
 size := 1
 agg := false
 pos := by decide
 rep := fun _ F cs x => F = [] ∧ cs = [.bool x]
 len := by rintro w F cs x ⟨_, rfl⟩; rfl
 one := by rintro w F cs x ⟨_, rfl⟩ u hu; simp at hu; subst hu; rfl
 lt := by rintro w F cs x ⟨rfl, _⟩ b hb; simp at hb
 keep := by rintro w w' F cs x h _; exact h
structure Sl {α : Type} (s : Shp α) (w : World) (a : Option Addr) (cap : Nat) (Fs : List (List Nat)) (xs : List α) : Prop where
 le : xs.length ≤ cap
 max : cap ≤ 9223372036854775807
 nil : a = none → cap = 0
 ad : ∀ p, a = some p → 0 < xs.length → p.spot = none ∧ p.block < w.heap.size
 fl : Fs.length = xs.length
 el : ∀ k (hk : k < xs.length), ∃ cs, (∀ j < s.size, w.cell? (sAt a (k * s.size + j)) = cs[j]?) ∧ (∀ j < s.size, w.frozen? (sAt a (k * s.size + j)) = false) ∧ s.rep w (Fs[k]'(fl ▸ hk)) cs xs[k]
def own (a : Option Addr) (n : Nat) : List Nat := if n = 0 then [] else (a.map (·.block)).toList
theorem Zce {a : Option Addr}   (h : a = some p) (hn : 0 < n) : p.block ∈ own a n := by
 subst h; unfold own; rw [if_neg (by omega)]; simp
theorem ZhY {a : Option Addr}  (h : a = some p) (k : Nat) : (sAt a k).block = p.block := by
 subst h; unfold sAt Addr.add; simp; split <;> rfl
theorem Sl.keep {α : Type} {s : Shp α} {w w' : World} {a : Option Addr} {cap : Nat} {Fs : List (List Nat)} {xs : List α} (h : Sl s w a cap Fs xs)
  (hk : ∀ b ∈ own a xs.length ++ Fs.flatten, w'.heap[b]? = w.heap[b]?) : Sl s w' a cap Fs xs := by
 refine ⟨h.le, h.max, h.nil, fun p hp h0 => ⟨(h.ad p hp h0).1, ?_⟩, h.fl, fun k hkx => ?_⟩
 ·have h1 := hk p.block (List.mem_append.2 (.inl (Zce hp (by omega))))
  have h2 := (h.ad p hp h0).2
  rcases Nat.lt_or_ge p.block w'.heap.size with h3 | h3
  ·exact h3
  ·rw [Array.getElem?_eq_none h3, Array.getElem?_eq_getElem h2] at h1; simp at h1
 ·obtain ⟨cs, h1, h2, h3⟩ := h.el k hkx
  have hs : a ≠ none := by
   intro e; have := h.nil e; have := h.le; omega
  obtain ⟨p, hp⟩ := Option.ne_none_iff_exists'.1 hs
  have hb : ∀ j, w'.heap[(sAt a j).block]? = w.heap[(sAt a j).block]? := fun j => by
   rw [ZhY hp]; exact hk p.block (List.mem_append.2 (.inl (Zce hp (by omega))))
  refine ⟨cs, fun j hj => by rw [World.cell?_of_block (hb _)]; exact h1 j hj, fun j hj => by rw [World.frozen?_of_block (hb _)]; exact h2 j hj, s.keep h3 fun b hb' => hk b ?_⟩
  simp only [List.mem_append, List.mem_flatten]
  exact .inr ⟨_, List.getElem_mem _, hb'⟩
def slice {α : Type} (s : Shp α) : Shp (List α) where
 size := 1
 agg := false
 pos := by decide
 rep := fun w F cs xs => ∃ a cap Fs, cs = [.slice a xs.length cap] ∧ F = own a xs.length ++ Fs.flatten ∧ Sl s w a cap Fs xs
 len := by rintro w F cs x ⟨a, cap, Fs, rfl, _, _⟩; rfl
 one := by rintro w F cs x ⟨a, cap, Fs, rfl, _, _⟩ u hu; simp at hu; subst hu; rfl
 lt := by
  rintro w F cs x ⟨a, cap, Fs, rfl, rfl, h⟩ b hb
  simp only [List.mem_append, List.mem_flatten] at hb
  rcases hb with hb | ⟨l, hl, hb⟩
  ·unfold own at hb
   split at hb
   ·simp at hb
   ·simp only [Option.mem_toList, Option.map_eq_some_iff] at hb
    obtain ⟨p, hp, rfl⟩ := hb
    exact (h.ad p hp (by omega)).2
  ·obtain ⟨k, hk, rfl⟩ := List.getElem_of_mem hl
   obtain ⟨cs, _, _, h3⟩ := h.el k (h.fl ▸ hk)
   exact s.lt h3 b hb
 keep := by
  rintro w w' F cs x ⟨a, cap, Fs, rfl, rfl, h⟩ hk
  exact ⟨a, cap, Fs, rfl, rfl, h.keep hk⟩
def two {α β : Type} (s : Shp α) (t : Shp β) : Shp (α × β) where
 size := s.size + t.size
 agg := true
 pos := by have := s.pos; omega
 rep := fun w F cs x => ∃ c1 c2 F1 F2, cs = c1 ++ c2 ∧ F = F1 ++ F2 ∧ s.rep w F1 c1 x.1 ∧ t.rep w F2 c2 x.2
 len := by rintro w F cs x ⟨c1, c2, F1, F2, rfl, rfl, h1, h2⟩; rw [List.length_append, s.len h1, t.len h2]
 one := by
  rintro w F cs x ⟨c1, c2, F1, F2, rfl, rfl, h1, h2⟩ u hu
  rcases List.mem_append.1 hu with h | h
  ·exact s.one h1 u h
  ·exact t.one h2 u h
 lt := by
  rintro w F cs x ⟨c1, c2, F1, F2, rfl, rfl, h1, h2⟩ u hu
  rcases List.mem_append.1 hu with h | h
  ·exact s.lt h1 u h
  ·exact t.lt h2 u h
 keep := by
  rintro w w' F cs x ⟨c1, c2, F1, F2, rfl, rfl, h1, h2⟩ hk
  exact ⟨c1, c2, F1, F2, rfl, rfl, s.keep h1 fun b hb => hk b (List.mem_append.2 (.inl hb)), t.keep h2 fun b hb => hk b (List.mem_append.2 (.inr hb))⟩
def by_ {α β : Type} (s : Shp α) (f : β → α) : Shp β where
 size := s.size
 agg := s.agg
 pos := s.pos
 rep := fun w F cs y => s.rep w F cs (f y)
 len := s.len
 one := s.one
 lt := s.lt
 keep := s.keep
end Shp
def Pure (w : World) (v : Value) (e : Ending) (w' : World) : Prop := e = .returned v ∧ Keeps [] w w'
open Shp
theorem Shp.Sl.isSome  {s : Shp α} {w : World} {a : Option Addr}   {xs : List α} (h : Sl s w a cap Fs xs) (hx : 0 < xs.length) : ∃ b off, a = some ⟨b, off, none⟩ ∧ b < w.heap.size := by
 cases a with
 | none => have := h.nil rfl; have := h.le; omega
 | some p =>
  obtain ⟨h1, h2⟩ := h.ad p rfl hx
  exact ⟨p.block, p.off, by rw [← h1], h2⟩
theorem inI64.wf {x : Int} (h : inI64 x) : (Lit.int .i64 x).wf = true := WalkArith.wf_i64 h
theorem Za7  (h : ∀ k (hk : k < Fs.length), Fs[k] = []) : Fs.flatten = [] := by
 rw [List.flatten_eq_nil_iff]
 intro l hl
 obtain ⟨k, hk, rfl⟩ := List.getElem_of_mem hl
 exact h k hk
theorem ZxB  {e : TypeId} (ht : P.underlying t = some (.slice e)) (hs : (P.info? e).map (·.size) = some 1) {a : Option Addr}  {i : Int} {k : Nat} (hi : i = (k : Int)) (hk : k < n) (ha : ∃ b off, a = some ⟨b, off, none⟩) (q : IntKind) (w : World) :
  Sem.run P (Instr.indexAt t (.slice a n cap) (.int q i)) w = .ok (.pointer (some (sAt a k))) w := by
 obtain ⟨b, off, rfl⟩ := ha
 subst hi
 obtain ⟨inf, h1, h2⟩ : ∃ inf, P.info? e = some inf ∧ inf.size = 1 := by
  cases h : P.info? e with
  | none => simp [h] at hs
  | some inf => exact ⟨inf, rfl, by simpa [h] using hs⟩
 simp [Instr.indexAt, asIntOf, run_underlying ht, sizeOf, typeInfo, h1, h2, hk, sAt]
end Go.Proofs.YtjjidamlmebaaaaGreat

