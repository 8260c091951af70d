/- Numbers written into data in memory: the plain laws of marks. No program in sight; no conditions. -/
import Derived.Test.YtachnjinfdagjaaDoorKG
import Derived.Test.YtachnjinfdagjaaDoorIntsM
set_option linter.unusedSimpArgs false
set_option linter.unusedVariables false
namespace Go.Proofs.YtachnjinfdagjaaDoor
open Go.RowKit
open Shp
structure IntsG (w : World) (a : Option Addr) (cap : Nat) (xs : List Int) : Prop where
  le : xs.length ≤ cap
  max : cap ≤ 9223372036854775807
  ad : ∀ p, a = some p → 0 < cap → p.spot = none ∧ p.block < w.heap.size
  nil : a = none → cap = 0
  cell : ∀ k, k < xs.length → w.cell? (sAt a k) = some (.int .i64 (nth xs k))
  free : ∀ k, k < xs.length → w.frozen? (sAt a k) = false
  rm : ∀ i, i < cap * 1 → (w.cell? (sAt a i)).isSome = true ∧ w.frozen? (sAt a i) = false
theorem grep_int {w : World} {F : List Nat} {v : Value} {n : Int} (h : GRep w F v (.i n)) : v = .int .i64 n ∧ F = [] := by
  have h2 := h.of_atom rfl
  cases h with
  | atom x hx => exact ⟨rfl, rfl⟩
theorem grep_ints {w : World} {F : List Nat} {v : Value} {xs : List Int} : GRep w F v (.ints xs) ↔ ∃ a cap, v = .slice a xs.length cap ∧ F = own a cap ∧ IntsG w a cap xs := by
  constructor
  · intro h
    obtain ⟨a, cap, els, Gs, e1, e2, hs⟩ := h.slice
    have hl : (xs.map GV.i).length = xs.length := by simp
    have hG : Gs.flatten = [] := flatten_nils fun k hk => (hs.h k (by rw [← hs.hF]; exact hk)).of_atom (by simp [GV.atom])
    have hel : ∀ k (hk : k < xs.length), els[k]'(by rw [hs.hv, hl]; exact hk) = .int .i64 (nth xs k) := fun k hk => by
      have h3 := hs.h k (by rw [hl]; exact hk)
      have e : (xs.map GV.i)[k]'(by rw [hl]; exact hk) = GV.i (nth xs k) := by simp [nth_eq hk]
      rw [e] at h3
      exact (grep_int h3).1
    have hle := hs.le
    rw [hl] at hle
    refine ⟨a, cap, by rw [e1, hl], by rw [e2, hG, List.append_nil], hle, hs.max, hs.ad, hs.nil, fun k hk => ?_, fun k hk => ?_, hs.rm⟩
    · have h4 := (hs.hc k (by rw [hs.hv, hl]; exact hk)).2.2 0 (by rw [hel k hk]; simp [Value.cells])
      rw [Nat.mul_one, Nat.add_zero] at h4
      rw [h4.1]
      simp only [hel k hk]
      simp [Value.cells]
    · have h4 := (hs.hc k (by rw [hs.hv, hl]; exact hk)).2.2 0 (by rw [hel k hk]; simp [Value.cells])
      rw [Nat.mul_one, Nat.add_zero] at h4
      exact h4.2
  · rintro ⟨a, cap, rfl, rfl, h⟩
    have := GRep.sl (w := w) a cap 1 (xs.map (Value.int .i64)) (xs.map GV.i) (xs.map fun _ => []) (by simp) (by simp) (by omega) (fun x hx => by obtain ⟨y, _, rfl⟩ := List.mem_map.1 hx; rfl) (by simpa using h.le) h.max h.nil h.ad
      (fun k hk => by
        have hk' : k < xs.length := by simpa using hk
        refine ⟨by simp [Value.cells], by simp [Value.cells, Value.oneCell'], fun j hj => ?_⟩
        have hj0 : j = 0 := by simpa [Value.cells] using hj
        subst hj0
        rw [Nat.mul_one, Nat.add_zero]
        refine ⟨?_, h.free k hk'⟩
        rw [h.cell k hk', nth_eq hk']
        simp [Value.cells])
      (fun k hk => by simp only [List.getElem_map]; exact .atom (GV.i _) rfl) h.rm
    have e : (xs.map fun _ => ([] : List Nat)).flatten = [] := flatten_nils fun k hk => by simp
    rw [e, List.append_nil] at this
    simpa using this
theorem IntsG.isSome {w : World} {a : Option Addr} {cap : Nat} {xs : List Int} (h : IntsG w a cap xs) (hx : 0 < cap) : ∃ b off, a = some ⟨b, off, none⟩ := by
  cases a with
  | none => have := h.nil rfl; omega
  | some p =>
    obtain ⟨b, o, s⟩ := p
    have := (h.ad _ rfl hx).1
    simp at this
    exact ⟨b, o, by rw [this]⟩
theorem SameRows.setCell {w : World} {p : Addr} {v : Value} (hp : p.spot = none) : SameRows w (w.setCell p v) := fun b vs t hb => by
  obtain ⟨pb, o, s⟩ := p
  simp only at hp
  subst hp
  by_cases e : pb = b
  · subst e
    exact ⟨_, box_set hb, by simp⟩
  · exact ⟨vs, box_other hb e, rfl⟩
theorem IntsG.set {w : World} {a : Option Addr} {cap : Nat} {xs : List Int} (h : IntsG w a cap xs) {k : Nat} (hk : k < xs.length) {v : Int} :
    IntsG (w.setCell (sAt a k) (.int .i64 v)) a cap (xs.set k v) ∧ Keeps (own a cap) w (w.setCell (sAt a k) (.int .i64 v)) ∧ SameRows w (w.setCell (sAt a k) (.int .i64 v)) := by
  have hle := h.le
  obtain ⟨b, off, rfl⟩ := h.isSome (by omega)
  refine ⟨⟨by simpa using h.le, h.max, fun p hp h0 => ?_, h.nil, fun i hi => ?_, fun i hi => ?_, fun i hi => ⟨cell_some_set _ _ _ _ (h.rm i hi).1, by rw [World.frozen?_setCell]; exact (h.rm i hi).2⟩⟩, Keeps.setCell _ _ _ _ (.inl (by rw [sAt_some]; exact mem_own (a := some ⟨b, off, none⟩) (n := cap) (p := ⟨b, off, none⟩) rfl (by omega))), SameRows.setCell (by rw [sAt_some])⟩
  · have := h.ad p hp h0
    refine ⟨this.1, ?_⟩
    simp [World.setCell]; exact this.2
  · have hi' : i < xs.length := by simpa using hi
    by_cases e : i = k
    · subst e
      rw [World.cell?_setCell_same _ _ _ (h.cell i hk), nth_eq (by simpa using hk)]
      simp
    · rw [World.cell?_setCell_other _ _ _ _ (by rw [sAt_some, sAt_some]; simp <;> omega), h.cell i hi', nth_eq hi', nth_eq (by simpa using hi')]
      rw [List.getElem_set_ne (by omega)]
  · rw [World.frozen?_setCell]; exact h.free i (by simpa using hi)
theorem GRL.len {w : World} {Fs : List (List Nat)} {vs : List Value} {gs : List GV} (h : GRL w Fs vs gs) : vs.length = gs.length ∧ Fs.length = gs.length := by obtain ⟨a, b, _⟩ := h.get; exact ⟨a, b⟩
theorem GRL.keeps {L : List Nat} {w w' : World} {Fs : List (List Nat)} {vs : List Value} {gs : List GV} (h : GRL w Fs vs gs) (hk : Keeps L w w') (hd : ∀ b ∈ Fs.flatten, b ∉ L) : GRL w' Fs vs gs := by
  induction h with
  | nil => exact .nil
  | cons h1 h2 ih =>
    simp only [List.flatten_cons, List.mem_append] at hd
    exact .cons (h1.keeps hk fun b hb => hd b (.inl hb)) (ih fun b hb => hd b (.inr hb))
theorem GRL.keeps0 {w w' : World} {Fs : List (List Nat)} {vs : List Value} {gs : List GV} (h : GRL w Fs vs gs) (hk : Keeps [] w w') : GRL w' Fs vs gs := h.keeps hk (by simp)
theorem GRL.set {w w' : World} {Fs : List (List Nat)} {vs : List Value} {gs : List GV} (h : GRL w Fs vs gs) (hnd : Fs.flatten.Nodup) {j : Nat} {F : List Nat} {v : Value} {g : GV} (hF : Fs[j]? = some F) (hv : vs[j]? = some v) (hg : GRep w' F v g) (hk : Keeps F w w') : GRL w' Fs vs (gs.set j g) := by
  induction h generalizing j with
  | nil => exact .nil
  | @cons F0 v0 g0 Fs vs gs h1 h2 ih =>
    rw [List.flatten_cons] at hnd
    have hnd' := List.nodup_append.1 hnd
    cases j with
    | zero =>
      simp at hF hv
      subst hF; subst hv
      exact .cons hg (h2.keeps hk fun b hb hb2 => hnd'.2.2 b hb2 b hb rfl)
    | succ j =>
      simp at hF hv
      obtain ⟨hj, rfl⟩ := List.getElem?_eq_some_iff.1 hF
      exact .cons (h1.keeps hk fun b hb hb2 => hnd'.2.2 b hb b (getElem_mem_flatten hj hb2) rfl) (ih hnd'.2.1 hF hv)
theorem GRL.at {w : World} {Fs : List (List Nat)} {vs : List Value} {gs : List GV} (h : GRL w Fs vs gs) {j : Nat} {g : GV} (hg : gs[j]? = some g) : ∃ F v, Fs[j]? = some F ∧ vs[j]? = some v ∧ GRep w F v g ∧ ∀ b ∈ F, b ∈ Fs.flatten := by
  obtain ⟨hv, hF, hh⟩ := h.get
  obtain ⟨hj, rfl⟩ := List.getElem?_eq_some_iff.1 hg
  refine ⟨_, _, List.getElem?_eq_getElem (by omega), List.getElem?_eq_getElem (by omega), hh j hj, fun b hb => getElem_mem_flatten _ hb⟩
structure SliceG (w : World) (a : Option Addr) (cap e : Nat) (els : List Value) (gs : List GV) (Fs : List (List Nat)) : Prop where
  he : 0 < e
  nc : ∀ x ∈ gs, x.ncells = e
  le : gs.length ≤ cap
  max : cap ≤ 9223372036854775807
  nil : a = none → cap = 0
  ad : ∀ p, a = some p → 0 < cap → p.spot = none ∧ p.block < w.heap.size
  hc : ∀ k v, els[k]? = some v → v.cells.size = e ∧ (∀ u ∈ v.cells.toList, u.oneCell' = true) ∧ (∀ j (hj : j < v.cells.size), w.cell? (sAt a (k * e + j)) = some v.cells[j] ∧ w.frozen? (sAt a (k * e + j)) = false)
  h : GRL w Fs els gs
  rm : ∀ i, i < cap * e → (w.cell? (sAt a i)).isSome = true ∧ w.frozen? (sAt a i) = false
theorem grep_slice {w : World} {F : List Nat} {v : Value} {e : Nat} {gs : List GV} : GRep w F v (.sl e gs) ↔ ∃ a cap els Fs, v = .slice a gs.length cap ∧ F = own a cap ++ Fs.flatten ∧ SliceG w a cap e els gs Fs := by
  constructor
  · intro h
    obtain ⟨a, cap, els, Fs, e1, e2, hs⟩ := h.slice
    refine ⟨a, cap, els, Fs, e1, e2, hs.he, hs.nc, hs.le, hs.max, hs.nil, hs.ad, fun k v hk => ?_, GRL.of Fs els gs hs.hv hs.hF hs.h, hs.rm⟩
    obtain ⟨hk', rfl⟩ := List.getElem?_eq_some_iff.1 hk
    exact hs.hc k hk'
  · rintro ⟨a, cap, els, Fs, rfl, rfl, hs⟩
    obtain ⟨hv, hF, hh⟩ := hs.h.get
    exact GRep.sl a cap e els gs Fs hv hF hs.he hs.nc hs.le hs.max hs.nil hs.ad (fun k hk => hs.hc k _ (List.getElem?_eq_getElem hk)) hh hs.rm
theorem SliceG.isSome {w : World} {a : Option Addr} {cap e : Nat} {els : List Value} {gs : List GV} {Fs : List (List Nat)} (h : SliceG w a cap e els gs Fs) (hx : 0 < cap) : ∃ b off, a = some ⟨b, off, none⟩ := by
  cases a with
  | none => have := h.nil rfl; omega
  | some p =>
    obtain ⟨b, o, s⟩ := p
    have := (h.ad _ rfl hx).1
    simp at this
    exact ⟨b, o, by rw [this]⟩
theorem SliceG.move {w w' : World} {a : Option Addr} {cap e : Nat} {els : List Value} {gs gs' : List GV} {Fs : List (List Nat)} (h : SliceG w a cap e els gs Fs) (hk : Keeps Fs.flatten w w') (hnd : (own a cap ++ Fs.flatten).Nodup) (hg : GRL w' Fs els gs') (hnc : ∀ x ∈ gs', x.ncells = e) : SliceG w' a cap e els gs' Fs := by
  have hl : gs'.length = gs.length := by have := hg.len; have := h.h.len; omega
  refine ⟨h.he, hnc, by rw [hl]; exact h.le, h.max, h.nil, fun p hp h0 => ⟨(h.ad p hp h0).1, Nat.lt_of_lt_of_le (h.ad p hp h0).2 hk.size⟩, fun k v hv => ⟨(h.hc k v hv).1, (h.hc k v hv).2.1, fun j hj => ?_⟩, hg, fun i hi => ?_⟩
  rotate_left
  · have h0 : 0 < cap := by apply Classical.byContradiction; intro h0; have : cap = 0 := by omega
                            subst this; simp at hi
    obtain ⟨b, o, rfl⟩ := h.isSome h0
    have hb : b ∉ Fs.flatten := fun hb => (List.nodup_append.1 hnd).2.2 b (mem_own rfl h0) b hb rfl
    have hlt : b < w.heap.size := (h.ad _ rfl h0).2
    have h1 := h.rm i hi
    rw [sAt_some] at h1 ⊢
    rw [hk.cell hlt hb, hk.frozen hlt hb]
    exact h1
  have hkl : k < els.length := (List.getElem?_eq_some_iff.1 hv).1
  have h0 : 0 < cap := by have := h.le; have := h.h.len; omega
  obtain ⟨b, o, rfl⟩ := h.isSome h0
  have h1 := (h.hc k v hv).2.2 j hj
  have hb : b ∉ Fs.flatten := fun hb => (List.nodup_append.1 hnd).2.2 b (mem_own rfl h0) b hb rfl
  have hlt : b < w.heap.size := (h.ad _ rfl h0).2
  rw [sAt_some] at h1 ⊢
  rw [hk.cell hlt hb, hk.frozen hlt hb]
  exact h1
theorem GRL.cons_inv {w : World} {Fs : List (List Nat)} {vs : List Value} {g : GV} {gs : List GV} (h : GRL w Fs vs (g :: gs)) : ∃ v F vs' Fs', vs = v :: vs' ∧ Fs = F :: Fs' ∧ GRep w F v g ∧ GRL w Fs' vs' gs := by
  cases h with
  | cons h1 h2 => exact ⟨_, _, _, _, rfl, rfl, h1, h2⟩
theorem GRL.nil_inv {w : World} {Fs : List (List Nat)} {vs : List Value} (h : GRL w Fs vs []) : vs = [] ∧ Fs = [] := by
  cases h; exact ⟨rfl, rfl⟩
theorem grep_sl_v {w : World} {F : List Nat} {v : Value} {e : Nat} {xs : List GV} (h : GRep w F v (.sl e xs)) : ∃ a c, v = .slice a xs.length c := by
  obtain ⟨a, c, _, _, e1, _⟩ := grep_slice.1 h; exact ⟨a, c, e1⟩
theorem grep_map_v {α : Type} {f : α → GV} {w : World} {F : List Nat} {v : Value} {e : Nat} {xs : List α} (h : GRep w F v (.sl e (xs.map f))) : ∃ a c, v = .slice a xs.length c := by
  obtain ⟨a, c, rfl⟩ := grep_sl_v h; exact ⟨a, c, by rw [List.length_map]⟩
theorem MarkC.one {P : Program} {f : FuncId} {x x' : GV} {k : Int} {c : Nat} (h : MarkC P f false [x] [x'] k c) {w : World} {F : List Nat} {v : Value} (hg : GRep w F v x) (hnd : F.Nodup) :
    Calls P f #[v, .int .i64 k] w (fun e w' => e = .returned (.int .i64 (k + c)) ∧ GRep w' F v x' ∧ Keeps F w w' ∧ SameRows w w') := by
  refine (h.calls w [F] [v] (.cons hg .nil) (by simpa using hnd)).mono ?_
  rintro e w' ⟨h1, h2, h3, h4⟩
  obtain ⟨v', F', vs', Fs', e1, e2, g1, _⟩ := h2.cons_inv
  cases e1; cases e2
  exact ⟨h1, g1, by simpa using h3, h4⟩
def cntG {α : Type} (cn : α → Nat) : List α → Nat
  | [] => 0
  | x :: xs => cn x + cntG cn xs
def markG {α : Type} (mk : Int → α → α) (cn : α → Nat) : Int → List α → List α
  | _, [] => []
  | k, x :: xs => mk k x :: markG mk cn (k + cn x) xs
theorem markG_len {α : Type} {mk : Int → α → α} {cn : α → Nat} : ∀ (k : Int) (xs : List α), (markG mk cn k xs).length = xs.length
  | _, [] => rfl
  | k, x :: xs => by simp [markG, markG_len]
theorem cntG_mark {α : Type} {mk : Int → α → α} {cn : α → Nat} (h : ∀ k x, cn (mk k x) = cn x) : ∀ (k : Int) (xs : List α), cntG cn (markG mk cn k xs) = cntG cn xs
  | _, [] => rfl
  | k, x :: xs => by simp only [markG, cntG, h, cntG_mark h]
theorem markG_idem {α : Type} {mk : Int → α → α} {cn : α → Nat} (h : ∀ k x, cn (mk k x) = cn x) (h2 : ∀ k x, mk k (mk k x) = mk k x) : ∀ (k : Int) (xs : List α), markG mk cn k (markG mk cn k xs) = markG mk cn k xs
  | _, [] => rfl
  | k, x :: xs => by simp only [markG, h, h2, markG_idem h h2]
abbrev markR : Int → List (List Int) → List (List Int) := markG (fun k x => marks k x.length) List.length
abbrev cntR : List (List Int) → Nat := cntG List.length
abbrev cntR3 : List (List (List Int)) → Nat := cntG cntR
def markP (k : Int) (p : List Int × List Int) : List Int × List Int := (marks k p.1.length, marks (k + p.1.length) p.2.length)
def cntP (p : List Int × List Int) : Nat := p.1.length + p.2.length
abbrev markPs : Int → List (List Int × List Int) → List (List Int × List Int) := markG markP cntP
abbrev cntPs : List (List Int × List Int) → Nat := cntG cntP
def cntCl (p : Int × List Int × List Int) : Nat := 1 + p.2.1.length + p.2.2.length
abbrev cntCls : List (Int × List Int × List Int) → Nat := cntG cntCl
theorem cntR_mark (k : Int) (xs : List (List Int)) : cntR (markR k xs) = cntR xs := cntG_mark (fun _ _ => marks_len _ _) k xs
theorem markR_idem (k : Int) (xs : List (List Int)) : markR k xs = markR k (markR k xs) := (markG_idem (fun _ _ => marks_len _ _) (fun k x => by rw [marks_len]) k xs).symm
theorem cntPs_mark (k : Int) (xs : List (List Int × List Int)) : cntPs (markPs k xs) = cntPs xs := cntG_mark (fun k x => by simp [cntP, markP, marks_len]) k xs
theorem markPs_idem (k : Int) (xs : List (List Int × List Int)) : markPs k xs = markPs k (markPs k xs) := (markG_idem (fun k x => by simp [cntP, markP, marks_len]) (fun k x => by simp [markP, marks_len]) k xs).symm
end Go.Proofs.YtachnjinfdagjaaDoor

