/- Numbers written into data in memory: the plain laws of marks. No program in sight; no conditions. -/
import Derived.Test.YtbjonekgeidoiaaKG
import Derived.Test.YtbjonekgeidoiaaIntsM
set_option linter.unusedSimpArgs false
set_option linter.unusedVariables false
namespace Go.Proofs.Ytbjonekgeidoiaa
open Go.RowKit
open Shp

/-- A slice of numbers in memory. -/
structure IntsG (w : World) (a : Option Addr) (cap : Nat) (xs : List Int) : Prop where
  le : xs.length ≤ cap
  max : cap ≤ 9223372036854775807
  ad : ∀ p, a = some p → 0 < cap → p.spot = none ∧ p.block < w.heap.size
  nil : a = none → cap = 0
  cell : ∀ k, k < xs.length → w.cell? (sAt a k) = some (.int .i64 (nth xs k))
  free : ∀ k, k < xs.length → w.frozen? (sAt a k) = false

theorem IntsG.isSome {w : World} {a : Option Addr} {cap : Nat} {xs : List Int} (h : IntsG w a cap xs) (hx : 0 < cap) : ∃ b off, a = some ⟨b, off, none⟩ := by
  cases a with
  | none => have := h.nil rfl; omega
  | some p =>
    obtain ⟨b, o, s⟩ := p
    have := (h.ad _ rfl hx).1
    simp at this
    exact ⟨b, o, by rw [this]⟩

theorem SameRows.setCell {w : World} {p : Addr} {v : Value} (hp : p.spot = none) : SameRows w (w.setCell p v) := fun b vs t hb => by
  obtain ⟨pb, o, s⟩ := p
  simp only at hp
  subst hp
  by_cases e : pb = b
  · subst e
    exact ⟨_, box_set hb, by simp⟩
  · exact ⟨vs, box_other hb e, rfl⟩

theorem IntsG.set {w : World} {a : Option Addr} {cap : Nat} {xs : List Int} (h : IntsG w a cap xs) {k : Nat} (hk : k < xs.length) {v : Int} :
    IntsG (w.setCell (sAt a k) (.int .i64 v)) a cap (xs.set k v) ∧ Keeps (own a cap) w (w.setCell (sAt a k) (.int .i64 v)) ∧ SameRows w (w.setCell (sAt a k) (.int .i64 v)) := by
  have hle := h.le
  obtain ⟨b, off, rfl⟩ := h.isSome (by omega)
  refine ⟨⟨by simpa using h.le, h.max, fun p hp h0 => ?_, h.nil, fun i hi => ?_, fun i hi => ?_⟩, Keeps.setCell _ _ _ _ (.inl (by rw [sAt_some]; exact mem_own (a := some ⟨b, off, none⟩) (n := cap) (p := ⟨b, off, none⟩) rfl (by omega))), SameRows.setCell (by rw [sAt_some])⟩
  · have := h.ad p hp h0
    refine ⟨this.1, ?_⟩
    simp [World.setCell]; exact this.2
  · have hi' : i < xs.length := by simpa using hi
    by_cases e : i = k
    · subst e
      rw [World.cell?_setCell_same _ _ _ (h.cell i hk), nth_eq (by simpa using hk)]
      simp
    · rw [World.cell?_setCell_other _ _ _ _ (by rw [sAt_some, sAt_some]; simp <;> omega), h.cell i hi', nth_eq hi', nth_eq (by simpa using hi')]
      rw [List.getElem_set_ne (by omega)]
  · rw [World.frozen?_setCell]; exact h.free i (by simpa using hi)

/-! lists of data -/
theorem GRL.len {w : World} {Fs : List (List Nat)} {vs : List Value} {gs : List GV} (h : GRL w Fs vs gs) : vs.length = gs.length ∧ Fs.length = gs.length := by obtain ⟨a, b, _⟩ := h.get; exact ⟨a, b⟩
theorem GRL.keeps {L : List Nat} {w w' : World} {Fs : List (List Nat)} {vs : List Value} {gs : List GV} (h : GRL w Fs vs gs) (hk : Keeps L w w') (hd : ∀ b ∈ Fs.flatten, b ∉ L) : GRL w' Fs vs gs := by
  induction h with
  | nil => exact .nil
  | cons h1 h2 ih =>
    simp only [List.flatten_cons, List.mem_append] at hd
    exact .cons (h1.keeps hk fun b hb => hd b (.inl hb)) (ih fun b hb => hd b (.inr hb))
theorem GRL.keeps0 {w w' : World} {Fs : List (List Nat)} {vs : List Value} {gs : List GV} (h : GRL w Fs vs gs) (hk : Keeps [] w w') : GRL w' Fs vs gs := h.keeps hk (by simp)
/-- One of them is written. -/
theorem GRL.set {w w' : World} {Fs : List (List Nat)} {vs : List Value} {gs : List GV} (h : GRL w Fs vs gs) (hnd : Fs.flatten.Nodup) {j : Nat} {F : List Nat} {v : Value} {g : GV} (hF : Fs[j]? = some F) (hv : vs[j]? = some v) (hg : GRep w' F v g) (hk : Keeps F w w') : GRL w' Fs vs (gs.set j g) := by
  induction h generalizing j with
  | nil => exact .nil
  | @cons F0 v0 g0 Fs vs gs h1 h2 ih =>
    rw [List.flatten_cons] at hnd
    have hnd' := List.nodup_append.1 hnd
    cases j with
    | zero =>
      simp at hF hv
      subst hF; subst hv
      exact .cons hg (h2.keeps hk fun b hb hb2 => hnd'.2.2 b hb2 b hb rfl)
    | succ j =>
      simp at hF hv
      obtain ⟨hj, rfl⟩ := List.getElem?_eq_some_iff.1 hF
      exact .cons (h1.keeps hk fun b hb hb2 => hnd'.2.2 b hb b (getElem_mem_flatten hj hb2) rfl) (ih hnd'.2.1 hF hv)
theorem GRL.at {w : World} {Fs : List (List Nat)} {vs : List Value} {gs : List GV} (h : GRL w Fs vs gs) {j : Nat} {g : GV} (hg : gs[j]? = some g) : ∃ F v, Fs[j]? = some F ∧ vs[j]? = some v ∧ GRep w F v g ∧ ∀ b ∈ F, b ∈ Fs.flatten := by
  obtain ⟨hv, hF, hh⟩ := h.get
  obtain ⟨hj, rfl⟩ := List.getElem?_eq_some_iff.1 hg
  refine ⟨_, _, List.getElem?_eq_getElem (by omega), List.getElem?_eq_getElem (by omega), hh j hj, fun b hb => getElem_mem_flatten _ hb⟩

/-- A slice in memory, its elements apart. -/
structure SliceG (w : World) (a : Option Addr) (cap e : Nat) (els : List Value) (gs : List GV) (Fs : List (List Nat)) : Prop where
  he : 0 < e
  nc : ∀ x ∈ gs, x.ncells = e
  le : gs.length ≤ cap
  max : cap ≤ 9223372036854775807
  nil : a = none → cap = 0
  ad : ∀ p, a = some p → 0 < cap → p.spot = none ∧ p.block < w.heap.size
  hc : ∀ k v, els[k]? = some v → v.cells.size = e ∧ (∀ u ∈ v.cells.toList, u.oneCell' = true) ∧ (∀ j (hj : j < v.cells.size), w.cell? (sAt a (k * e + j)) = some v.cells[j] ∧ w.frozen? (sAt a (k * e + j)) = false)
  h : GRL w Fs els gs
theorem SliceG.isSome {w : World} {a : Option Addr} {cap e : Nat} {els : List Value} {gs : List GV} {Fs : List (List Nat)} (h : SliceG w a cap e els gs Fs) (hx : 0 < cap) : ∃ b off, a = some ⟨b, off, none⟩ := by
  cases a with
  | none => have := h.nil rfl; omega
  | some p =>
    obtain ⟨b, o, s⟩ := p
    have := (h.ad _ rfl hx).1
    simp at this
    exact ⟨b, o, by rw [this]⟩
/-- The elements are written, the row is not. -/
theorem SliceG.move {w w' : World} {a : Option Addr} {cap e : Nat} {els : List Value} {gs gs' : List GV} {Fs : List (List Nat)} (h : SliceG w a cap e els gs Fs) (hk : Keeps Fs.flatten w w') (hnd : (own a cap ++ Fs.flatten).Nodup) (hg : GRL w' Fs els gs') (hnc : ∀ x ∈ gs', x.ncells = e) : SliceG w' a cap e els gs' Fs := by
  have hl : gs'.length = gs.length := by have := hg.len; have := h.h.len; omega
  refine ⟨h.he, hnc, by rw [hl]; exact h.le, h.max, h.nil, fun p hp h0 => ⟨(h.ad p hp h0).1, Nat.lt_of_lt_of_le (h.ad p hp h0).2 hk.size⟩, fun k v hv => ⟨(h.hc k v hv).1, (h.hc k v hv).2.1, fun j hj => ?_⟩, hg⟩
  have hkl : k < els.length := (List.getElem?_eq_some_iff.1 hv).1
  have h0 : 0 < cap := by have := h.le; have := h.h.len; omega
  obtain ⟨b, o, rfl⟩ := h.isSome h0
  have h1 := (h.hc k v hv).2.2 j hj
  have hb : b ∉ Fs.flatten := fun hb => (List.nodup_append.1 hnd).2.2 b (mem_own rfl h0) b hb rfl
  have hlt : b < w.heap.size := (h.ad _ rfl h0).2
  rw [sAt_some] at h1 ⊢
  rw [hk.cell hlt hb, hk.frozen hlt hb]
  exact h1

theorem GRL.cons_inv {w : World} {Fs : List (List Nat)} {vs : List Value} {g : GV} {gs : List GV} (h : GRL w Fs vs (g :: gs)) : ∃ v F vs' Fs', vs = v :: vs' ∧ Fs = F :: Fs' ∧ GRep w F v g ∧ GRL w Fs' vs' gs := by
  cases h with
  | cons h1 h2 => exact ⟨_, _, _, _, rfl, rfl, h1, h2⟩
theorem MarkC.one {P : Program} {f : FuncId} {x x' : GV} {k : Int} {c : Nat} (h : MarkC P f false [x] [x'] k c) {w : World} {F : List Nat} {v : Value} (hg : GRep w F v x) (hnd : F.Nodup) :
    Calls P f #[v, .int .i64 k] w (fun e w' => e = .returned (.int .i64 (k + c)) ∧ GRep w' F v x' ∧ Keeps F w w' ∧ SameRows w w') := by
  refine (h.calls w [F] [v] (.cons hg .nil) (by simpa using hnd)).mono ?_
  rintro e w' ⟨h1, h2, h3, h4⟩
  obtain ⟨v', F', vs', Fs', e1, e2, g1, _⟩ := h2.cons_inv
  cases e1; cases e2
  exact ⟨h1, g1, by simpa using h3, h4⟩
/-! counts and marks of lists -/
end Go.Proofs.Ytbjonekgeidoiaa

