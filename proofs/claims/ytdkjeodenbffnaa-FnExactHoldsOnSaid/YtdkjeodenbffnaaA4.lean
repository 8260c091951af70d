/- Abstract states: new blocks, changed blocks. No program in sight; no conditions. -/
import Derived.Test.YtdkjeodenbffnaaA3
namespace Go.Proofs.Ytdkjeodenbffnaa
open Go.RowKit
open Shp

theorem RelAt.step {w0 : World} {S S' : AState} {a : Act} {w w' : World} {μ μ' : Lay} {who who' : Nat → Option Nat} (h : RelAt w0 S a w μ who) (C : List Nat) (hs : S'.slots = S.slots) (hn : S'.n = S.n) (hm : Move w w' μ μ' S.heap S'.heap) (hk : Keeps [] w0 w')
    (h1 : ∀ id, id ∉ C → S'.heap id = S.heap id ∧ ((S.heap id).live = true → μ' id = μ id ∧ ∀ b d, μ id = some (b, d) → w'.heap[b]? = w.heap[b]?))
    (h2 : ∀ id, id ∈ C → BRep w0 w' μ' S'.heap who' id (S'.heap id) ∧ ((S'.heap id).live = true → ∀ b d, μ' id = some (b, d) → (∀ j d', j ∉ C → (S.heap j).live = true → μ j ≠ some (b, d')) ∧ (∀ j d', j ∈ C → (S'.heap j).live = true → μ' j = some (b, d') → id = j) ∧ w0.heap.size ≤ b ∧ b < w'.heap.size))
    (h3 : ∀ b j, b < w.heap.size → j ∉ C → ¬ Root μ S.heap b → who b = some j → who' b = some j) (hsz : w.heap.size ≤ w'.heap.size) : RelAt w0 S' a w' μ' who' := by
  refine ⟨by rw [hn]; exact h.size, fun t => by rw [hs]; exact (h.slot t).move hm, h.dfr, fun id => ?_, fun i j b d d' hi hj ei ej => ?_, fun i b d hi ei => ?_, hk, fun t x hp hx => h.old t x (by rw [← hn]; exact hp) (by rw [← hs]; exact hx)⟩
  · by_cases hc : id ∈ C
    · exact (h2 id hc).1
    · rw [(h1 id hc).1]
      exact (h.blk id).move hm (fun hl => ((h1 id hc).2 hl).1) (fun b d hl hb => ((h1 id hc).2 hl).2 b d hb) (fun b hlt hr hb => h3 b id hlt hc hr hb)
  · by_cases ci : i ∈ C
    · by_cases cj : j ∈ C
      · exact ((h2 i ci).2 hi b d ei).2.1 j d' cj hj ej
      · have hj' := hj; rw [(h1 j cj).1] at hj'
        rw [((h1 j cj).2 hj').1] at ej
        exact absurd ej (((h2 i ci).2 hi b d ei).1 j d' cj hj')
    · have hi' := hi; rw [(h1 i ci).1] at hi'
      rw [((h1 i ci).2 hi').1] at ei
      by_cases cj : j ∈ C
      · exact absurd ei (((h2 j cj).2 hj b d' ej).1 i d ci hi')
      · have hj' := hj; rw [(h1 j cj).1] at hj'
        rw [((h1 j cj).2 hj').1] at ej
        exact h.inj i j b d d' hi' hj' ei ej
  · by_cases ci : i ∈ C
    · exact ((h2 i ci).2 hi b d ei).2.2
    · rw [(h1 i ci).1] at hi
      rw [((h1 i ci).2 hi).1] at ei
      exact ⟨(h.base i b d hi ei).1, Nat.lt_of_lt_of_le (h.base i b d hi ei).2 hsz⟩

/-! ### A new block -/

theorem Move.new {w0 : World} {S : AState} {a : Act} {w w' : World} {μ : Lay} {who : Nat → Option Nat} (h : RelAt w0 S a w μ who) {nid : Nat} (hn : S.heap nid = .free) (hk : Keeps [] w w') {p : Option (Nat × Nat)} (hp : ∀ b d, p = some (b, d) → w.heap.size ≤ b) {B : Block} (hB : B.live = true) :
    Move w w' μ (upd μ nid p) S.heap (upd S.heap nid B) := by
  refine ⟨fun b hb hr => ⟨hk.block b hb (by simp), ?_⟩, fun i b d h1 h2 h3 h4 vs t hw => ?_, fun i hi => ?_, fun i e dp xs hf hi => ?_, fun i cs hf hi => ?_⟩
  · rintro ⟨i, d, hi, hi'⟩
    unfold upd at hi hi'
    split at hi
    · rename_i e
      rw [if_pos e] at hi'
      have := hp b d hi'; omega
    · rename_i e
      rw [if_neg e] at hi'
      exact hr ⟨i, d, hi, hi'⟩
  · exact ⟨vs, by rw [hk.block b (h.base i b d h2 h4).2 (by simp)]; exact hw, rfl⟩
  · unfold upd at hi; split at hi
    · subst hi; cases hB
    · exact hi
  · have : i ≠ nid := fun e => hf (by rw [e]; exact hn)
    rw [upd_ne _ _ _ this] at hi
    exact ⟨upd_ne _ _ _ this, dp, xs, hi⟩
  · have : i ≠ nid := fun e => hf (by rw [e]; exact hn)
    rw [upd_ne _ _ _ this] at hi
    exact ⟨upd_ne _ _ _ this, cs, hi⟩

theorem RelAt.new {w0 : World} {S : AState} {a : Act} {w w' : World} {μ : Lay} {who : Nat → Option Nat} (h : RelAt w0 S a w μ who) {nid : Nat} (hn : S.heap nid = .free) (hk : Keeps [] w w') {p : Option (Nat × Nat)} (hp : ∀ b d, p = some (b, d) → w.heap.size ≤ b ∧ b < w'.heap.size) {B : Block} (hB : B.live = true)
    (hr : Move w w' μ (upd μ nid p) S.heap (upd S.heap nid B) → BRep w0 w' (upd μ nid p) (upd S.heap nid B) who nid B) : RelAt w0 (S.write nid B) a w' (upd μ nid p) who := by
  have hm := Move.new h hn hk (fun b d e => (hp b d e).1) hB
  refine h.step [nid] rfl rfl hm (h.keep.trans hk) (fun i hi => ?_) (fun i hi => ?_) (fun b j _ _ _ hb => hb) hk.size
  · have e : i ≠ nid := by simpa using hi
    exact ⟨upd_ne _ _ _ e, fun hl => ⟨upd_ne _ _ _ e, fun b d hb => hk.block b (h.base i b d hl hb).2 (by simp)⟩⟩
  · have e : i = nid := by simpa using hi
    subst e
    refine ⟨by simp only [AState.write, upd_same]; exact hr hm, fun _ b d hb => ?_⟩
    rw [upd_same] at hb
    have hb' := hp b d hb
    exact ⟨fun j d' _ hl hj => by have := (h.base j b d' hl hj).2; omega, fun j d' hj _ _ => by simp at hj; exact hj.symm, Nat.le_trans h.keep.size hb'.1, hb'.2⟩

theorem RelAt.newBox {w0 : World} {S : AState} {a : Act} {w : World} {μ : Lay} {who : Nat → Option Nat} (h : RelAt w0 S a w μ who) {nid : Nat} (hn : S.heap nid = .free) (vs : Array Value) (t : TypeId) (cs : List PV) (hl : vs.size = cs.length) (h1 : ∀ v ∈ vs.toList, v.oneCell' = true)
    (hv : ∀ i (hi : i < cs.length), PRep w μ S.heap (vs.getD i Go.undef) cs[i]) :
    ∃ μ', RelAt w0 (S.write nid (.box cs)) a (w.alloc (.cells vs t)) μ' who ∧ PRep (w.alloc (.cells vs t)) μ' (S.write nid (.box cs)).heap (.pointer (some ⟨w.heap.size, 0, none⟩)) (.ptr nid 0) := by
  refine ⟨upd μ nid (some (w.heap.size, 0)), h.new hn (Keeps.alloc [] w _) (fun b d e => by simp at e; obtain ⟨rfl, rfl⟩ := e; simp) rfl (fun hm => ⟨w.heap.size, vs, t, upd_same _ _ _, box_new _ _, hl, h1, fun i hi => (hv i hi).move hm⟩), ?_⟩
  refine .ptr _ nid 0 rfl (by simp [AState.write, upd_same]) fun cs' _ => ⟨w.heap.size, upd_same _ _ _, rfl⟩

/-- A new array of one's own: a new block, or the nil slice. -/
theorem RelAt.newArr {w0 : World} {S : AState} {a : Act} {w w' : World} {μ : Lay} {who : Nat → Option Nat} (h : RelAt w0 S a w μ who) {nid : Nat} (hn : S.heap nid = .free) (hk : Keeps [] w w') {b d e cap : Nat} (hb : w.heap.size ≤ b) (he : 0 < e) {vs : Array Value} {t : TypeId} (hrow : w'.heap[b]? = some (.cells vs t (0, 0)))
    {dp : Bool} {xs : List GV} {Fs : List (List Nat)} {els : List Value} (hr : RowRep w' vs d e xs Fs els) (hnr : ∀ c ∈ Fs.flatten, ¬ Root μ S.heap c ∧ c ≠ b) (hd : dp = true → Fs.flatten.Nodup ∧ ∀ c ∈ Fs.flatten, who c = some nid ∧ w0.heap.size ≤ c)
    (hcap : xs.length ≤ cap) (hfit : d + cap * e ≤ vs.size) (hmax : cap ≤ 9223372036854775807) :
    ∃ μ', RelAt w0 (S.write nid (.arr e dp xs)) a w' μ' who ∧ PRep w' μ' (S.write nid (.arr e dp xs)).heap (.slice (some ⟨b, d, none⟩) xs.length cap) (.own nid 0 xs.length) := by
  have hbl : b < w'.heap.size := lt_of_heap hrow
  refine ⟨upd μ nid (some (b, d)), h.new hn hk (fun b' d' e => by simp at e; obtain ⟨rfl, rfl⟩ := e; exact ⟨hb, hbl⟩) rfl (fun hm => ⟨he, ?_⟩), ?_⟩
  · rw [upd_same]
    refine ⟨vs, t, Fs, els, hrow, hr, fun c hc => ?_, hd⟩
    rintro ⟨i, d', hi, hi'⟩
    unfold upd at hi hi'
    split at hi
    · rename_i e
      rw [if_pos e] at hi'
      simp at hi'
      exact (hnr c hc).2 hi'.1.symm
    · rename_i e
      rw [if_neg e] at hi'
      exact (hnr c hc).1 ⟨i, d', hi, hi'⟩
  · refine .own _ nid 0 _ rfl (by simp [AState.write, upd_same]) fun e' dp' xs' hx => ?_
    simp only [AState.write, upd_same, Block.arr.injEq] at hx
    obtain ⟨rfl, rfl, rfl⟩ := hx
    unfold OwnAt
    rw [upd_same]
    exact ⟨cap, d, by simp, hcap, hmax, vs, t, hrow, by simp, hfit⟩

theorem RelAt.newNil {w0 : World} {S : AState} {a : Act} {w w' : World} {μ : Lay} {who : Nat → Option Nat} (h : RelAt w0 S a w μ who) {nid : Nat} (hn : S.heap nid = .free) (hk : Keeps [] w w') {e : Nat} (he : 0 < e) (dp : Bool) (ad : Option Addr := none) :
    ∃ μ', RelAt w0 (S.write nid (.arr e dp [])) a w' μ' who ∧ PRep w' μ' (S.write nid (.arr e dp [])).heap (.slice ad 0 0) (.own nid 0 0) := by
  refine ⟨upd μ nid none, h.new hn hk (fun b d e => by simp at e) rfl (fun hm => ⟨he, by rw [upd_same]⟩), ?_⟩
  refine .own _ nid 0 _ rfl (by simp [AState.write, upd_same]) fun e' dp' xs' hx => ?_
  unfold OwnAt
  rw [upd_same]
  exact ⟨⟨_, rfl⟩, rfl, rfl⟩

/-! ### A changed block -/

theorem Move.mod {w0 : World} {S : AState} {a : Act} {w w' : World} {μ : Lay} {who : Nat → Option Nat} (h : RelAt w0 S a w μ who) {id b d : Nat} (hl : (S.heap id).live = true) (hμ : μ id = some (b, d)) (hk : Keeps [b] w w') {vs vs' : Array Value} {t : TypeId} (hrow : w.heap[b]? = some (.cells vs t (0, 0)))
    (hrow' : w'.heap[b]? = some (.cells vs' t (0, 0))) (hsz : vs'.size = vs.size) {B : Block} (hB : B.live = true) (ha : ∀ e dp xs, B = .arr e dp xs → ∃ dp' xs', S.heap id = .arr e dp' xs') (hx : ∀ cs, B = .box cs → ∃ cs', S.heap id = .box cs') :
    Move w w' μ μ S.heap (upd S.heap id B) := by
  have hroot : ∀ c, Root μ (upd S.heap id B) c → Root μ S.heap c := fun c hr => hr.mono fun i hi => by
    unfold upd at hi; split at hi
    · rename_i e; rw [e]; exact hl
    · exact hi
  refine ⟨fun c hc hr => ⟨hk.block c hc ?_, fun hr' => hr (hroot c hr')⟩, fun i c d' h1 h2 h3 h4 vs1 t1 hw => ?_, fun i hi => ?_, fun i e dp xs hf hi => ⟨rfl, ?_⟩, fun i cs hf hi => ⟨rfl, ?_⟩⟩
  · intro hm; simp at hm; subst hm; exact hr ⟨id, d, hl, hμ⟩
  · by_cases e : c = b
    · subst e
      rw [hrow] at hw
      cases hw
      exact ⟨vs', hrow', hsz⟩
    · exact ⟨vs1, by rw [hk.block c (h.base i c d' h2 h4).2 (by simpa using e)]; exact hw, rfl⟩
  · unfold upd at hi; split at hi
    · subst hi; cases hB
    · exact hi
  · unfold upd at hi; split at hi
    · rename_i e; rw [e]; exact ha _ _ _ hi
    · exact ⟨dp, xs, hi⟩
  · unfold upd at hi; split at hi
    · rename_i e; rw [e]; exact hx _ hi
    · exact ⟨cs, hi⟩

theorem Keeps.none_of {w0 w w' : World} {b : Nat} (h : Keeps [] w0 w) (hb : w0.heap.size ≤ b) (hk : Keeps [b] w w') : Keeps [] w0 w' :=
  h.trans' hk (by intro i hi hlt; simp at hi; omega)

theorem RelAt.mod {w0 : World} {S : AState} {a : Act} {w w' : World} {μ : Lay} {who : Nat → Option Nat} (h : RelAt w0 S a w μ who) {id b d : Nat} (hl : (S.heap id).live = true) (hμ : μ id = some (b, d)) (hk : Keeps [b] w w') {vs vs' : Array Value} {t : TypeId} (hrow : w.heap[b]? = some (.cells vs t (0, 0)))
    (hrow' : w'.heap[b]? = some (.cells vs' t (0, 0))) (hsz : vs'.size = vs.size) {B : Block} (hB : B.live = true) (ha : ∀ e dp xs, B = .arr e dp xs → ∃ dp' xs', S.heap id = .arr e dp' xs') (hx : ∀ cs, B = .box cs → ∃ cs', S.heap id = .box cs')
    (hr : Move w w' μ μ S.heap (upd S.heap id B) → BRep w0 w' μ (upd S.heap id B) who id B) : RelAt w0 (S.write id B) a w' μ who := by
  have hm := Move.mod h hl hμ hk hrow hrow' hsz hB ha hx
  refine h.step [id] rfl rfl hm (h.keep.none_of (h.base id b d hl hμ).1 hk) (fun i hi => ?_) (fun i hi => ?_) (fun b j _ _ _ hb => hb) hk.size
  · have e : i ≠ id := by simpa using hi
    refine ⟨upd_ne _ _ _ e, fun hli => ⟨rfl, fun c d' hc => hk.block c (h.base i c d' hli hc).2 ?_⟩⟩
    intro hm'; simp at hm'; subst hm'
    exact e (h.inj i id c d' d hli hl hc hμ)
  · have e : i = id := by simpa using hi
    subst e
    refine ⟨by simp only [AState.write, upd_same]; exact hr hm, fun _ c d' hc => ?_⟩
    have hbase := h.base i c d' hl hc
    exact ⟨fun j d'' hj hlj hj' => hj (by simpa using h.inj j i c d'' d' hlj hl hj' hc), fun j d'' hj _ _ => by simp at hj; exact hj.symm, hbase.1, Nat.lt_of_lt_of_le hbase.2 hk.size⟩

/-- A box, one cell changed (or several). -/
theorem RelAt.setBox {w0 : World} {S : AState} {a : Act} {w : World} {μ : Lay} {who : Nat → Option Nat} (h : RelAt w0 S a w μ who) {id off : Nat} {cs : List PV} (hx : S.heap id = .box cs) (ho : off < cs.length) {v : Value} {x : PV} (h1 : v.oneCell' = true) (hv : PRep w μ S.heap v x) {b : Nat} (hμ : μ id = some (b, 0)) :
    RelAt w0 (S.write id (.box (cs.set off x))) a (w.setCell ⟨b, off, none⟩ v) μ who := by
  have hB := h.blk id
  rw [hx] at hB
  obtain ⟨b', vs, t, h2, h3, h4, h5, h6⟩ := hB
  rw [hμ] at h2
  simp at h2
  subst h2
  refine h.mod (by rw [hx]; rfl) hμ (Keeps.setCell [b] w _ v (.inl (by simp))) h3 (box_set h3) (by simp) rfl (by simp) (by simp [hx]) (fun hm => ?_)
  refine ⟨b, _, t, hμ, box_set h3, by simp [h4], fun u hu => ?_, fun i hi => ?_⟩
  · simp only [Array.toList_setIfInBounds] at hu
    rcases List.mem_or_eq_of_mem_set hu with h7 | h7
    · exact h5 u h7
    · rw [h7]; exact h1
  · have hi' : i < cs.length := by simpa using hi
    rw [getD_set (by rw [h4]; exact ho)]
    by_cases e : i = off
    · subst e; simp; exact hv.move hm
    · rw [if_neg e, List.getElem_set_ne (by omega)]; exact (h6 i hi').move hm

end Go.Proofs.Ytdkjeodenbffnaa
