/- Abstract states: append. Over any program; conditions: the lengths are at most 2^40. -/
import Derived.Test.YtdkjeodenbffnaaA4
import Derived.Deep.AppendSrc
import Derived.Laws.CopyRow
namespace Go.Proofs.Ytdkjeodenbffnaa
open Go.RowKit
open Shp

/-- The cells of a list of elements. -/
def flatC (els : List Value) : List Value := els.flatMap (fun v => v.cells.toList)

theorem flatC_len {e : Nat} : ∀ {els : List Value}, (∀ v ∈ els, v.cells.size = e) → (flatC els).length = els.length * e
  | [], _ => by simp [flatC]
  | v :: els, h => by
    have ih := flatC_len (els := els) (fun u hu => h u (by simp [hu]))
    have h1 := h v (by simp)
    simp only [flatC, List.flatMap_cons, List.length_append, Array.length_toList, List.length_cons, Nat.add_mul] at ih ⊢
    rw [ih, h1]; omega

theorem flatC_get {e : Nat} (he : 0 < e) : ∀ {els : List Value}, (∀ v ∈ els, v.cells.size = e) → ∀ k (hk : k < els.length) j, j < e → (flatC els)[k * e + j]? = (els[k]).cells[j]?
  | [], _, k, hk, _, _ => by simp at hk
  | v :: els, h, k, hk, j, hj => by
    have h1 : v.cells.toList.length = e := by simpa using h v (by simp)
    have hf : flatC (v :: els) = v.cells.toList ++ flatC els := by simp [flatC]
    rw [hf]
    cases k with
    | zero => rw [List.getElem?_append_left (by rw [h1]; omega)]; simp
    | succ k =>
      have hge : (k + 1) * e + j = e + (k * e + j) := by rw [Nat.add_mul]; omega
      rw [hge, List.getElem?_append_right (by omega), h1, Nat.add_sub_cancel_left]
      simpa using flatC_get he (els := els) (fun u hu => h u (by simp [hu])) k (by simpa using hk) j hj

theorem flatC_inv {e : Nat} (he : 0 < e) {els : List Value} (h : ∀ v ∈ els, v.cells.size = e) {i : Nat} {u : Value} (hu : (flatC els)[i]? = some u) : ∃ k, ∃ hk : k < els.length, ∃ j, j < e ∧ i = k * e + j ∧ (els[k]).cells[j]? = some u := by
  have hlt : i < (flatC els).length := (List.getElem?_eq_some_iff.1 hu).1
  rw [flatC_len h] at hlt
  have hk : i / e < els.length := Nat.div_lt_of_lt_mul (by rw [Nat.mul_comm]; exact hlt)
  refine ⟨i / e, hk, i % e, Nat.mod_lt _ he, ?_, ?_⟩
  · have := Nat.div_add_mod i e; rw [Nat.mul_comm] at this; omega
  · rw [← flatC_get he h (i / e) hk (i % e) (Nat.mod_lt _ he), ← hu]
    congr 1
    have := Nat.div_add_mod i e; rw [Nat.mul_comm] at this; omega

/-- What a slice's data say of memory. -/
structure SlAt (w : World) (a : Option Addr) (n cap e : Nat) (els : List Value) (xs : List GV) (Fs : List (List Nat)) : Prop where
  n : xs.length = n
  hv : els.length = xs.length
  hF : Fs.length = xs.length
  he : 0 < e
  nc : ∀ x ∈ xs, x.ncells = e
  le : xs.length ≤ cap
  max : cap ≤ 9223372036854775807
  nil : a = none → cap = 0
  ad : ∀ p, a = some p → 0 < cap → p.spot = none ∧ p.block < w.heap.size
  hc : ∀ k (hk : k < els.length), (els[k]).cells.size = e ∧ (∀ v ∈ (els[k]).cells.toList, v.oneCell' = true) ∧ (∀ j (hj : j < (els[k]).cells.size), w.cell? (sAt a (k * e + j)) = some (els[k]).cells[j] ∧ w.frozen? (sAt a (k * e + j)) = false)
  h : ∀ i (hi : i < xs.length), GRep w (Fs[i]'(hF ▸ hi)) (els[i]'(hv ▸ hi)) xs[i]

theorem GRep.slice {w : World} {F : List Nat} {v : Value} {e : Nat} {xs : List GV} (h : GRep w F v (.sl e xs)) : ∃ a cap els Fs, v = .slice a xs.length cap ∧ F = own a cap ++ Fs.flatten ∧ SlAt w a xs.length cap e els xs Fs := by
  cases h with
  | atom x hx => simp [GV.atom] at hx
  | sl a cap e vs gs Fs hv hF he hg le max nil ad hc h => exact ⟨a, cap, vs, Fs, rfl, rfl, ⟨rfl, hv, hF, he, hg, le, max, nil, ad, hc, h⟩⟩

namespace SlAt
variable {w : World} {a : Option Addr} {n cap e : Nat} {els : List Value} {xs : List GV} {Fs : List (List Nat)}

theorem sizes (s : SlAt w a n cap e els xs Fs) : ∀ v ∈ els, v.cells.size = e := fun v hv => by
  obtain ⟨k, hk, rfl⟩ := List.getElem_of_mem hv; exact (s.hc k hk).1

theorem cells (s : SlAt w a n cap e els xs Fs) {p : Addr} (hp : a = some p) : ∀ j u, (flatC els)[j]? = some u → w.cell? (p.add j) = some u := by
  intro i u hu
  obtain ⟨k, hk, j, hj, rfl, hc⟩ := flatC_inv s.he s.sizes hu
  have h1 := (s.hc k hk).2.2 j (by rw [(s.hc k hk).1]; exact hj)
  subst hp
  have h2 : sAt (some p) (k * e + j) = p.add (k * e + j) := rfl
  rw [← h2, h1.1, ← hc]
  simp [(s.hc k hk).1, hj]

theorem one (s : SlAt w a n cap e els xs Fs) : ∀ u ∈ flatC els, u.oneCell' = true := by
  intro u hu
  simp only [flatC, List.mem_flatMap] at hu
  obtain ⟨v, hv, hu⟩ := hu
  obtain ⟨k, hk, rfl⟩ := List.getElem_of_mem hv
  exact (s.hc k hk).2.1 u hu

theorem len (s : SlAt w a n cap e els xs Fs) : (flatC els).length = n * e := by rw [flatC_len s.sizes, s.hv, s.n]

theorem src (s : SlAt w a n cap e els xs Fs) {P : Program} {tx e' : TypeId} (hk : P.underlying tx = some (.slice e')) : Src P e tx (.slice a n cap) n (flatC els) w := by
  cases a with
  | none =>
    have h0 := s.nil rfl
    have h1 := s.le
    have h2 : xs = [] := List.eq_nil_of_length_eq_zero (by omega)
    have h3 : els = [] := List.eq_nil_of_length_eq_zero (by have := s.hv; omega)
    have h4 := s.n
    subst h2; subst h3; subst h0; subst h4
    exact Src.ofNil w hk 0
  | some p => exact Src.ofSlice w hk p n cap _ s.len (s.cells rfl) s.one

theorem olds (s : SlAt w a n cap e els xs Fs) {P : Program} : (Builtin.firstCells e n (.slice a n cap)).run P w.drew = .ok (flatC els).toArray w.drew := by
  cases a with
  | none =>
    have h0 := s.nil rfl
    have h1 := s.le
    have h2 : xs = [] := List.eq_nil_of_length_eq_zero (by omega)
    have h3 : els = [] := List.eq_nil_of_length_eq_zero (by have := s.hv; omega)
    subst h3
    simp [Builtin.firstCells, flatC]
  | some p => exact run_firstCells_some w.drew e n p n cap _ s.len (by simpa using s.cells rfl)

end SlAt

/-- The cells of a row behind a store of several. -/
def rowPut (vs : Array Value) (o : Nat) (news : List Value) : Array Value := (vs.toList.take o ++ news ++ vs.toList.drop (o + news.length)).toArray

theorem rowPut_size {vs : Array Value} {o : Nat} {news : List Value} (h : o + news.length ≤ vs.size) : (rowPut vs o news).size = vs.size := by
  simp [rowPut]; omega

theorem rowPut_lt {vs : Array Value} {o i : Nat} {news : List Value} (h : o ≤ vs.size) (hi : i < o) : (rowPut vs o news)[i]? = vs[i]? := by
  simp only [rowPut, List.append_assoc, List.getElem?_toArray]
  rw [List.getElem?_append_left (by simp; omega), List.getElem?_take_of_lt hi]
  simp

theorem rowPut_in {vs : Array Value} {o i : Nat} {news : List Value} (h : o ≤ vs.size) (hi : i < news.length) : (rowPut vs o news)[o + i]? = news[i]? := by
  simp only [rowPut, List.append_assoc, List.getElem?_toArray]
  rw [List.getElem?_append_right (by simp; omega)]
  have : o + i - (vs.toList.take o).length = i := by simp; omega
  rw [this, List.getElem?_append_left hi]

theorem run_append_in {P : Program} (w : World) (t tx ty e : TypeId) (i : TypeInfo) (ht : P.underlying t = some (.slice e)) (hi : P.info? e = some i) (b off sLen sCap : Nat) {vs : Array Value} {tt : TypeId} (hrow : w.heap[b]? = some (.cells vs tt (0, 0))) (x : Value) (n : Nat) (news : List Value) (hs : Src P i.size tx x n news w)
    (hroom : sLen + n ≤ sCap) (hfit : off + sLen * i.size + news.length ≤ vs.size) :
    (Builtin.append_ #[t, tx] ty #[.slice (some ⟨b, off, none⟩) sLen sCap, x]).run P w = .ok (.slice (some ⟨b, off, none⟩) (sLen + n) sCap) (w.setRow b (rowPut vs (off + sLen * i.size) news)) := by
  have hst := run_storeCells_at (P := P) b (off + sLen * i.size) tt news 0 vs w hrow (by simpa using hfit) hs.one
  simp only [Nat.add_zero] at hst
  rcases hs.kind with ⟨e', hk⟩ | hk <;> simp [Builtin.append_, run_underlying ht, run_underlying hk, sizeOf, typeInfo, hi, hs.len, hroom, hs.cells, Addr.add_lit, hst, rowPut]

theorem Keeps.setRow (w : World) (b : Nat) (vs : Array Value) : Keeps [b] w (w.setRow b vs) :=
  ⟨rfl, rfl, rfl, by simp [World.setRow], fun k hk hn => by
    simp only [World.setRow, Array.getElem?_modify]
    rw [if_neg (by simpa using fun e => hn (by simp [e]))]⟩

/-- Behind an append in place: the old block given up, the same memory under a new name. -/
theorem RelAt.inplace {w0 : World} {S : AState} {a : Act} {w w' : World} {μ : Lay} {who : Nat → Option Nat} (h : RelAt w0 S a w μ who) {id nid : Nat} (hl : (S.heap id).live = true) (hn : S.heap nid = .free) {b d d' : Nat} (hμ : μ id = some (b, d)) (hk : Keeps [b] w w') {vs' : Array Value} {t : TypeId}
    (hrow' : w'.heap[b]? = some (.cells vs' t (0, 0))) {e cap : Nat} (he : 0 < e) {dp : Bool} {xs : List GV} {Fs : List (List Nat)} {els : List Value} (hr : RowRep w' vs' d' e xs Fs els) (hnr : ∀ c ∈ Fs.flatten, ¬ Root μ S.heap c) {who' : Nat → Option Nat}
    (hd : dp = true → Fs.flatten.Nodup ∧ ∀ c ∈ Fs.flatten, who' c = some nid ∧ w0.heap.size ≤ c) (hw : ∀ b j, j ≠ id → j ≠ nid → who b = some j → who' b = some j)
    (hcap : xs.length ≤ cap) (hfit : d' + cap * e ≤ vs'.size) (hmax : cap ≤ 9223372036854775807) :
    ∃ μ', RelAt w0 ((S.write id .dead).write nid (.arr e dp xs)) a w' μ' who' ∧ PRep w' μ' ((S.write id .dead).write nid (.arr e dp xs)).heap (.slice (some ⟨b, d', none⟩) xs.length cap) (.own nid 0 xs.length) := by
  have hne : id ≠ nid := by intro e; subst e; rw [hn] at hl; cases hl
  have hbl : b < w'.heap.size := lt_of_heap hrow'
  have hroot : ∀ c, Root (upd μ nid (some (b, d'))) (upd (upd S.heap id .dead) nid (.arr e dp xs)) c → Root μ S.heap c := by
    rintro c ⟨i, d1, hi, hi'⟩
    unfold upd at hi hi'
    split at hi
    · rename_i e1; rw [if_pos e1] at hi'; simp at hi'; rw [← hi'.1]; exact ⟨id, d, hl, hμ⟩
    · rename_i e1; rw [if_neg e1] at hi'
      split at hi
      · cases hi
      · exact ⟨i, d1, hi, hi'⟩
  have hm : Move w w' μ (upd μ nid (some (b, d'))) S.heap (upd (upd S.heap id .dead) nid (.arr e dp xs)) := by
    refine ⟨fun c hc hr' => ⟨hk.block c hc ?_, fun hr'' => hr' (hroot c hr'')⟩, fun i c d1 h1 h2 h3 h4 vs1 t1 hw1 => ?_, fun i hi => ?_, fun i e1 dp1 xs1 hf hi => ?_, fun i cs hf hi => ?_⟩
    · intro hm'; simp at hm'; subst hm'; exact hr' ⟨id, d, hl, hμ⟩
    · have e1 : i ≠ nid := by intro e1; rw [e1, hn] at h2; cases h2
      have e2 : i ≠ id := by intro e2; rw [upd_ne _ _ _ e1, e2, upd_same] at h1; cases h1
      have e3 : c ≠ b := by intro e3; subst e3; exact e2 (h.inj i id c d1 d h2 hl h4 hμ)
      exact ⟨vs1, by rw [hk.block c (h.base i c d1 h2 h4).2 (by simpa using e3)]; exact hw1, rfl⟩
    · unfold upd at hi; split at hi
      · cases hi
      · split at hi
        · cases hi
        · exact hi
    · have e1 : i ≠ nid := fun e1 => hf (by rw [e1]; exact hn)
      rw [upd_ne _ _ _ e1] at hi ⊢
      unfold upd at hi; split at hi
      · cases hi
      · exact ⟨rfl, dp1, xs1, hi⟩
    · have e1 : i ≠ nid := fun e1 => hf (by rw [e1]; exact hn)
      rw [upd_ne _ _ _ e1] at hi ⊢
      unfold upd at hi; split at hi
      · cases hi
      · exact ⟨rfl, cs, hi⟩
  refine ⟨upd μ nid (some (b, d')), h.step [id, nid] rfl rfl hm (h.keep.none_of (h.base id b d hl hμ).1 hk) (fun i hi => ?_) (fun i hi => ?_) (fun c j _ hj _ hc => hw c j (by simp at hj; exact hj.1) (by simp at hj; exact hj.2) hc) hk.size, ?_⟩
  · simp only [List.mem_cons, List.not_mem_nil, or_false, not_or] at hi
    refine ⟨by simp [AState.write, upd_ne _ _ _ hi.1, upd_ne _ _ _ hi.2], fun hli => ⟨upd_ne _ _ _ hi.2, fun c d1 hc => hk.block c (h.base i c d1 hli hc).2 ?_⟩⟩
    intro hm'; simp at hm'; subst hm'
    exact hi.1 (h.inj i id c d1 d hli hl hc hμ)
  · simp only [List.mem_cons, List.not_mem_nil, or_false] at hi
    rcases hi with rfl | rfl
    · refine ⟨by simp only [AState.write, upd_ne _ _ _ hne, upd_same]; trivial, fun hli => ?_⟩
      simp only [AState.write, upd_ne _ _ _ hne, upd_same] at hli; cases hli
    · refine ⟨?_, fun _ c d1 hc => ?_⟩
      · simp only [AState.write, upd_same]
        refine ⟨he, ?_⟩
        rw [upd_same]
        exact ⟨vs', t, Fs, els, hrow', hr, fun c hc hr' => hnr c hc (hroot c hr'), hd⟩
      · rw [upd_same] at hc
        simp at hc
        obtain ⟨rfl, rfl⟩ := hc
        refine ⟨fun j d2 hj hlj hj' => hj ?_, fun j d2 hj hlj _ => ?_, (h.base id b d hl hμ).1, hbl⟩
        · have := h.inj j id b d2 d hlj hl hj' hμ
          simp [this]
        · simp only [List.mem_cons, List.not_mem_nil, or_false] at hj
          rcases hj with rfl | rfl
          · simp only [AState.write, upd_ne _ _ _ hne, upd_same] at hlj; cases hlj
          · rfl
  · refine .own _ nid 0 _ rfl (by simp [AState.write, upd_same]) fun e' dp' xs' hx => ?_
    simp only [AState.write, upd_same, Block.arr.injEq] at hx
    obtain ⟨rfl, rfl, rfl⟩ := hx
    unfold OwnAt
    rw [upd_same]
    exact ⟨cap, d', by simp, hcap, hmax, vs', t, hrow', by simp, hfit⟩

end Go.Proofs.Ytdkjeodenbffnaa
