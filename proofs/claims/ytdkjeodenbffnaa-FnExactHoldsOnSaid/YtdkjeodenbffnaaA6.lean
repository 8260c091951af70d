/- Abstract states: the law of append. Over any program; conditions: the lengths are at most 2^40, an element takes at most 128 bytes. -/
import Derived.Test.YtdkjeodenbffnaaA5
namespace Go.Proofs.Ytdkjeodenbffnaa
open Go.RowKit
open Shp

/-- What is appended. -/
def srcE (h : Nat → Block) (e : Nat) : PV → Option (List GV × List Nat × Bool)
  | .g (.sl e' ys) => if e' = e then some (ys, [], ys.all GV.flat) else none
  | .nils _ => some ([], [], true)
  | .own id lo len => match h id with
    | .arr e' dp ys => if e' = e ∧ lo + len ≤ ys.length then (if ((ys.drop lo).take len).all GV.flat then some ((ys.drop lo).take len, [], true) else some ((ys.drop lo).take len, [id], dp)) else none
    | _ => none
  | _ => none

theorem flat_nils {w : World} {a : Option Addr} {n cap e : Nat} {els : List Value} {xs : List GV} {Fs : List (List Nat)} (s : SlAt w a n cap e els xs Fs) (h : xs.all GV.flat = true) : Fs.flatten = [] := by
  refine flatten_nils fun k hk => (s.h k (s.hF ▸ hk)).of_flat ?_
  simp only [List.all_eq_true] at h
  exact h _ (List.getElem_mem _)

theorem srcE_ok {w0 : World} {S : AState} {a : Act} {w : World} {μ : Lay} {who : Nat → Option Nat} (h : RelAt w0 S a w μ who) {nid : Nat} (hn : S.heap nid = .free) {v : Value} {p : PV} (hv : PRep w μ S.heap v p) {e : Nat} (he : 0 < e) {ys : List GV} {ks : List Nat} {d : Bool} (hx : srcE S.heap e p = some (ys, ks, d)) :
    (∀ i ∈ ks, S.heap i ≠ .free) ∧ ∃ who' ad cap els Fs, RelAt w0 (S.kill ks) a w μ who' ∧ v = .slice ad ys.length cap ∧ SlAt w ad ys.length cap e els ys Fs ∧ (∀ b ∈ Fs.flatten, ¬ Root μ (S.kill ks).heap b) ∧ (d = true → Fs.flatten.Nodup ∧ ∀ b ∈ Fs.flatten, who' b = some nid ∧ w0.heap.size ≤ b) := by
  cases hv with
  | g v x' F hg hd =>
    cases x' with
    | sl e' zs =>
      simp only [srcE] at hx
      split at hx
      · rename_i hee
        simp only [Option.some.injEq, Prod.mk.injEq] at hx
        obtain ⟨rfl, rfl, rfl⟩ := hx
        subst hee
        obtain ⟨ad, cap, els, Fs, rfl, rfl, hs⟩ := hg.slice
        exact ⟨by simp, who, ad, cap, els, Fs, h, rfl, hs, fun b hb => hd b (List.mem_append.2 (.inr hb)), fun hf => by rw [flat_nils hs hf]; simp⟩
      · cases hx
    | _ => simp [srcE] at hx
  | nils e' he' =>
    simp only [srcE, Option.some.injEq, Prod.mk.injEq] at hx
    obtain ⟨rfl, rfl, rfl⟩ := hx
    exact ⟨by simp, who, none, 0, [], [], h, rfl, ⟨rfl, rfl, rfl, he, by simp, by simp, by simp, by simp, by simp, by intro k hk; simp at hk, by intro k hk; simp at hk⟩, by simp, by simp⟩
  | own v id lo len ho1 hf ho =>
    simp only [srcE] at hx
    split at hx
    · rename_i e' dp zs hid
      split at hx
      · rename_i hc
        obtain ⟨hee, hle⟩ := hc
        subst hee
        split at hx
        · rename_i hfl
          simp only [Option.some.injEq, Prod.mk.injEq] at hx
          obtain ⟨rfl, rfl, rfl⟩ := hx
          obtain ⟨F, h1, _⟩ := h.view hid (ho _ _ _ hid) hle
          obtain ⟨ad, cap, els, Fs, rfl, rfl, hs⟩ := h1.slice
          have hnil := flat_nils hs hfl
          exact ⟨by simp, who, ad, cap, els, Fs, h, rfl, hs, by rw [hnil]; simp, fun _ => by rw [hnil]; simp⟩
        · simp only [Option.some.injEq, Prod.mk.injEq] at hx
          obtain ⟨rfl, rfl, rfl⟩ := hx
          have hab : absorb S.heap (.own id lo len) = some (.sl e' ((zs.drop lo).take len), [id], dp) := by simp [absorb, hid, hle]
          obtain ⟨hk, who', F, r1, g1, n1, o1, _, _⟩ := absorb_ok.free h hn (.own v id lo len ho1 hf ho) hab
          obtain ⟨ad, cap, els, Fs, rfl, rfl, hs⟩ := g1.slice
          exact ⟨hk, who', ad, cap, els, Fs, r1, rfl, hs, fun b hb => n1 b (List.mem_append.2 (.inr hb)), fun hd => ⟨((List.nodup_append.1 (o1 hd).1).2.1), fun b hb => (o1 hd).2 b (List.mem_append.2 (.inr hb))⟩⟩
      · cases hx
    · cases hx
  | undef | none_ | ptr | eptr | iptr | agg | tup | fn => simp [srcE] at hx

/-- A slice of a block of the call's own, part by part. -/
theorem RelAt.ownSl {w0 : World} {S : AState} {a : Act} {w : World} {μ : Lay} {who : Nat → Option Nat} (h : RelAt w0 S a w μ who) {id e lo len : Nat} {dp : Bool} {xs : List GV} (hx : S.heap id = .arr e dp xs)
    {v : Value} (hv : OwnAt w μ id e lo len v) (hle : lo + len ≤ xs.length) :
    ∃ ad cap els Fs, v = .slice ad ((xs.drop lo).take len).length cap ∧ SlAt w ad ((xs.drop lo).take len).length cap e els ((xs.drop lo).take len) Fs ∧ (∀ b ∈ Fs.flatten, ¬ Root μ S.heap b) ∧ (dp = true → Fs.flatten.Nodup ∧ ∀ b ∈ Fs.flatten, who b = some id ∧ w0.heap.size ≤ b) ∧
      (∀ p, ad = some p → 0 < cap → ∃ b d o vs t, p = ⟨b, o, none⟩ ∧ μ id = some (b, d) ∧ w.heap[b]? = some (.cells vs t (0, 0)) ∧ (0 < cap → o = d + lo * e) ∧ o + cap * e ≤ vs.size) := by
  have hB := h.blk id
  rw [hx] at hB
  obtain ⟨he, hB⟩ := hB
  have hn : ((xs.drop lo).take len).length = len := by simp; omega
  unfold OwnAt at hv
  cases hμ : μ id with
  | none =>
    simp only [hμ] at hB hv
    obtain ⟨⟨a, rfl⟩, rfl, rfl⟩ := hv
    subst hB
    exact ⟨a, 0, [], [], by simp, ⟨rfl, by simp, by simp, he, by simp, by simp, by simp, by simp, by simp, by intro k hk; simp at hk, by intro k hk; simp at hk⟩, by simp, by simp, by simp⟩
  | some bd =>
    obtain ⟨b, d⟩ := bd
    simp only [hμ] at hB hv
    obtain ⟨cap, o, rfl, hlc, hcm, vs0, t0, hrow0, ho0, hfit0⟩ := hv
    obtain ⟨vs, t, Fs, els, hrow, hr, hnr, hdp⟩ := hB
    have hbl : b < w.heap.size := lt_of_heap hrow
    have hsub : ((Fs.drop lo).take len).flatten.Sublist Fs.flatten := sub_flat ((List.take_sublist _ _).trans (List.drop_sublist _ _))
    refine ⟨some ⟨b, o, none⟩, cap, (els.drop lo).take len, (Fs.drop lo).take len, by rw [hn], ⟨rfl, by have := hr.len; simp; omega, by have := hr.fl; simp; omega, he, fun x hx' => ?_, by rw [hn]; exact hlc, hcm, by simp, by rintro p ⟨rfl⟩ _; exact ⟨rfl, hbl⟩, fun k hk => ?_, fun k hk => ?_⟩, fun c hc => hnr c (hsub.subset hc), fun hd => ⟨(hdp hd).1.sublist hsub, fun c hc => (hdp hd).2 c (hsub.subset hc)⟩, ?_⟩
    · obtain ⟨k, hk, rfl⟩ := List.getElem_of_mem (List.mem_of_mem_drop (List.mem_of_mem_take hx')); exact hr.nc k hk
    · have hk' : k < len ∧ lo + k < els.length := by simp at hk; omega
      have hge : ((els.drop lo).take len)[k]'hk = els[lo + k]'hk'.2 := by simp
      rw [hge]
      refine ⟨(hr.sz (lo + k) hk'.2).1, (hr.sz (lo + k) hk'.2).2, fun j hj => ?_⟩
      have hje : j < e := by rw [(hr.sz (lo + k) hk'.2).1] at hj; exact hj
      have hc := hr.cell (lo + k) hk'.2 j hje
      rw [sAt_add]
      have ha : o + (k * e + j) = d + (lo + k) * e + j := by rw [ho0 (by omega), Nat.add_mul]; omega
      rw [ha]
      refine ⟨?_, frozen_of_row w b _ _ _ hrow⟩
      rw [cell_of_row w b _ _ _ _ hrow, hc]
      simp [hj]
    · have hk' : k < len ∧ lo + k < xs.length := by simp at hk; omega
      have e1 : ((xs.drop lo).take len)[k]'hk = xs[lo + k]'hk'.2 := by simp
      have e2 : ((els.drop lo).take len)[k]'(by simp; have := hr.len; omega) = els[lo + k]'(by have := hr.len; omega) := by simp
      have e3 : ((Fs.drop lo).take len)[k]'(by simp; have := hr.fl; omega) = Fs[lo + k]'(by have := hr.fl; omega) := by simp
      rw [e1, e2, e3]
      exact hr.el (lo + k) hk'.2
    · rintro p ⟨rfl⟩ _
      exact ⟨b, d, o, vs0, t0, rfl, rfl, hrow0, ho0, hfit0⟩

theorem mul_bytes {n b : Nat} (hn : n ≤ 1099511627776) (hb : b ≤ 128) : n * b ≤ 140737488355328 := Nat.le_trans (Nat.mul_le_mul hn hb) (by decide)

/-- The row behind an append that grows. -/
theorem rowRep_new {w : World} {e : Nat} (he : 0 < e) {els : List Value} {xs : List GV} {Fs : List (List Nat)} (h1 : els.length = xs.length) (h2 : Fs.length = xs.length) (hsz : ∀ v ∈ els, v.cells.size = e) (hone : ∀ v ∈ els, ∀ u ∈ v.cells.toList, u.oneCell' = true) (hnc : ∀ x ∈ xs, x.ncells = e)
    (hg : ∀ k (hk : k < xs.length), GRep w (Fs[k]'(h2 ▸ hk)) (els[k]'(h1 ▸ hk)) xs[k]) {vs : Array Value} {d : Nat} (hfit : d + xs.length * e ≤ vs.size) (hrow : ∀ i, i < (flatC els).length → vs[d + i]? = (flatC els)[i]?) : RowRep w vs d e xs Fs els := by
  refine ⟨h1, h2, hfit, fun k hk => hnc _ (List.getElem_mem _), hg, fun k hk => ⟨hsz _ (List.getElem_mem _), hone _ (List.getElem_mem _)⟩, fun k hk j hj => ?_⟩
  have h3 := flatC_get he hsz k hk j hj
  have h4 : k * e + j < (flatC els).length := by
    rw [flatC_len hsz]
    have : (k + 1) * e ≤ els.length * e := Nat.mul_le_mul_right _ hk
    rw [Nat.add_mul] at this; omega
  rw [Nat.add_assoc, hrow _ h4, h3]

/-- What a slice that is appended to holds (data, the block that is given up, all its own?). -/
def dstE (h : Nat → Block) (e : Nat) : PV → Option (List GV × List Nat × Bool)
  | .nils e' => if e' = e then some ([], [], true) else none
  | .own id lo len => match h id with
    | .arr e' dp xs => if e' = e ∧ lo + len ≤ xs.length then some ((xs.drop lo).take len, [id], dp) else none
    | _ => none
  | _ => none

structure ElemOK (P : Program) (t E e : Nat) (i : TypeInfo) (z : Value) : Prop where
  u : P.underlying t = some (.slice E)
  inf : P.info? E = some i
  zero : i.zero = some z
  sz : i.size = e
  pos : 0 < e
  by_ : i.bytes ≤ 128
  zc : z.cells.size = e
  z1 : ∀ v : Value, v ∈ z.cells.toList → v.oneCell' = true

theorem getElem_app {α : Type} {xs ys : List α} {k : Nat} (h : k < (xs ++ ys).length) : (xs ++ ys)[k] = if h' : k < xs.length then xs[k] else ys[k - xs.length]'(by simp at h; omega) := by
  by_cases h' : k < xs.length
  · rw [dif_pos h', List.getElem_append_left h']
  · rw [dif_neg h', List.getElem_append_right (by omega)]

theorem append_grows {P : Program} {w0 : World} {S : AState} {a : Act} {w : World} {μ : Lay} {who : Nat → Option Nat} {t E e : Nat} {i : TypeInfo} {z : Value} (ho : ElemOK P t E e i z) (h : RelAt w0 S a w μ who) {nid : Nat} (hn : S.heap nid = .free) (ty : TypeId)
    {a1 a2 : Option Addr} {c1 c2 : Nat} {els1 els2 : List Value} {xs ys : List GV} {Fs1 Fs2 : List (List Nat)} (s1 : SlAt w a1 xs.length c1 e els1 xs Fs1) (s2 : SlAt w a2 ys.length c2 e els2 ys Fs2) (hgrow : c1 < xs.length + ys.length) (hlen : xs.length + ys.length ≤ 1099511627776)
    (hr : ∀ b ∈ (Fs1 ++ Fs2).flatten, ¬ Root μ S.heap b) {dp : Bool} (hd : dp = true → (Fs1 ++ Fs2).flatten.Nodup ∧ ∀ b ∈ (Fs1 ++ Fs2).flatten, who b = some nid ∧ w0.heap.size ≤ b) :
    ∃ v' w' μ', (Builtin.append_ #[t, t] ty #[.slice a1 xs.length c1, .slice a2 ys.length c2]).run P w = .ok v' w' ∧ RelAt w0 (S.write nid (.arr e dp (xs ++ ys))) a w' μ' who ∧ PRep w' μ' (S.write nid (.arr e dp (xs ++ ys))).heap v' (.own nid 0 (xs ++ ys).length) := by
  have hrun := run_append_grow_src (P := P) w t t ty E i z ho.u ho.inf ho.zero a1 xs.length c1 (flatC els1) (by rw [ho.sz]; exact s1.olds) (.slice a2 ys.length c2) ys.length (flatC els2) (by rw [ho.sz]; exact s2.src ho.u) hgrow (by omega) (growslice_fits (by omega) (mul_bytes hlen ho.by_))
  have hcapge := grownCap_ge w (xs.length + ys.length) c1 E
  have hcaple := grownCap_le_maxLen w (xs.length + ys.length) c1 E (by unfold maxLen; omega)
  unfold maxLen at hcaple
  have hk : Keeps [] w (w.drew.alloc (.cells ((flatC els1 ++ flatC els2).toArray ++ Builtin.zeroCells z.cells (grownCap w (xs.length + ys.length) c1 E - (xs.length + ys.length))) E)) := (Keeps.drew [] w).trans (Keeps.alloc [] w.drew _)
  have hl1 := s1.len
  have hl2 := s2.len
  have hfc : flatC (els1 ++ els2) = flatC els1 ++ flatC els2 := by simp [flatC]
  have hsz : ∀ v ∈ els1 ++ els2, v.cells.size = e := fun v hv => (List.mem_append.1 hv).elim (s1.sizes v) (s2.sizes v)
  have hzl : (Builtin.zeroCells z.cells (grownCap w (xs.length + ys.length) c1 E - (xs.length + ys.length))).size = (grownCap w (xs.length + ys.length) c1 E - (xs.length + ys.length)) * e := by simp [Builtin.zeroCells, ho.zc]
  have hsize : ((flatC els1 ++ flatC els2).toArray ++ Builtin.zeroCells z.cells (grownCap w (xs.length + ys.length) c1 E - (xs.length + ys.length))).size = grownCap w (xs.length + ys.length) c1 E * e := by
    rw [Array.size_append, hzl, List.size_toArray, List.length_append, hl1, hl2, ← Nat.add_mul, ← Nat.add_mul]
    congr 1; omega
  have hrr : RowRep (w.drew.alloc (.cells ((flatC els1 ++ flatC els2).toArray ++ Builtin.zeroCells z.cells (grownCap w (xs.length + ys.length) c1 E - (xs.length + ys.length))) E)) ((flatC els1 ++ flatC els2).toArray ++ Builtin.zeroCells z.cells (grownCap w (xs.length + ys.length) c1 E - (xs.length + ys.length))) 0 e (xs ++ ys) (Fs1 ++ Fs2) (els1 ++ els2) := by
    refine rowRep_new ho.pos (by simp [s1.hv, s2.hv]) (by simp [s1.hF, s2.hF]) hsz (fun v hv => ?_) (fun x hx => ?_) (fun k hk' => ?_) ?_ (fun i hi => ?_)
    · rcases List.mem_append.1 hv with h' | h' <;> obtain ⟨k, hk', rfl⟩ := List.getElem_of_mem h'
      · exact (s1.hc k hk').2.1
      · exact (s2.hc k hk').2.1
    · exact (List.mem_append.1 hx).elim (s1.nc x) (s2.nc x)
    · simp only [getElem_app, s1.hv, s1.hF]
      split
      · exact (s1.h k (by assumption)).keeps0 hk
      · exact (s2.h (k - xs.length) (by simp at hk'; omega)).keeps0 hk
    · rw [hsize, List.length_append, Nat.zero_add]; exact Nat.mul_le_mul_right _ hcapge
    · rw [hfc] at hi ⊢
      rw [Nat.zero_add, Array.getElem?_append_left (by simpa using hi)]
      simp
  have hne : ∀ c ∈ (Fs1 ++ Fs2).flatten, c ≠ w.heap.size := by
    intro c hc
    obtain ⟨k, hk', hc'⟩ := mem_flatten_getElem hc
    rw [getElem_app] at hc'
    split at hc'
    · have := (s1.h k (by rw [← s1.hF]; assumption)).lt _ hc'; omega
    · have := (s2.h (k - Fs1.length) (by have := s1.hF; have := s2.hF; simp at hk'; omega)).lt _ hc'; omega
  obtain ⟨μ', r1, r2⟩ := h.newArr (w' := (w.drew.alloc (.cells ((flatC els1 ++ flatC els2).toArray ++ Builtin.zeroCells z.cells (grownCap w (xs.length + ys.length) c1 E - (xs.length + ys.length))) E))) hn hk (b := w.heap.size) (d := 0) (cap := grownCap w (xs.length + ys.length) c1 E) (Nat.le_refl _) ho.pos (box_new w.drew _) hrr
    (fun c hc => ⟨hr c hc, hne c hc⟩) hd (by simpa using hcapge) (by rw [hsize]; omega) hcaple
  exact ⟨_, _, μ', hrun, r1, by simpa using r2⟩

/-- The law of append. -/
theorem append_ok {P : Program} {w0 : World} {S : AState} {a : Act} {w : World} {μ : Lay} {who : Nat → Option Nat} {t E e : Nat} {i : TypeInfo} {z : Value} (ho : ElemOK P t E e i z) (h : RelAt w0 S a w μ who) {nid : Nat} (hn : S.heap nid = .free) (ty : TypeId)
    {v1 v2 : Value} {p1 p2 : PV} (h1 : PRep w μ S.heap v1 p1) (h2 : PRep w μ S.heap v2 p2) {ys : List GV} {ks2 : List Nat} {d2 : Bool} (hx2 : srcE S.heap e p2 = some (ys, ks2, d2)) {xs : List GV} {ks1 : List Nat} {d1 : Bool} (hx1 : dstE (killL S.heap ks2) e p1 = some (xs, ks1, d1))
    (hlen : xs.length + ys.length ≤ 1099511627776) :
    ∃ v' w' μ' who', (Builtin.append_ #[t, t] ty #[v1, v2]).run P w = .ok v' w' ∧ RelAt w0 (((S.kill ks2).kill ks1).write nid (.arr e (d1 && d2) (xs ++ ys))) a w' μ' who' ∧ PRep w' μ' (((S.kill ks2).kill ks1).write nid (.arr e (d1 && d2) (xs ++ ys))).heap v' (.own nid 0 (xs ++ ys).length) := by
  obtain ⟨hk2, who1, ad2, cap2, els2, Fs2, r1, rfl, s2, n2, o2⟩ := srcE_ok h hn h2 ho.pos hx2
  have hn1 : (S.kill ks2).heap nid = .free := (killL_free hk2).2 hn
  have h1' := h1.move (Move.killL w μ ks2 S.heap hk2)
  cases h1' with
  | nils e' he' =>
    simp only [dstE] at hx1
    split at hx1
    · rename_i hee
      simp only [Option.some.injEq, Prod.mk.injEq] at hx1
      obtain ⟨rfl, rfl, rfl⟩ := hx1
      have s1 : SlAt w none ([] : List GV).length 0 e [] [] [] := ⟨rfl, rfl, rfl, ho.pos, by simp, by simp, by simp, by simp, by simp, by intro k hk; simp at hk, by intro k hk; simp at hk⟩
      by_cases h0 : ys.length = 0
      · have hy : ys = [] := List.eq_nil_of_length_eq_zero h0
        subst hy
        obtain ⟨μ', q1, q2⟩ := r1.newNil hn1 (Keeps.refl [] w) ho.pos (true && d2)
        refine ⟨.slice none 0 0, w, μ', who1, ?_, q1, q2⟩
        have hs := s2.src (P := P) ho.u
        rw [← ho.sz] at hs
        have hz : (flatC els2) = [] := List.eq_nil_of_length_eq_zero (by have := s2.len; simpa using this)
        have hc := hs.cells
        rw [hz] at hc
        have hl := hs.len
        simp only [List.length_nil] at hl hc
        simp [Builtin.append_, run_underlying ho.u, sizeOf, typeInfo, ho.inf, hl, hc]
      · obtain ⟨v', w', μ', q0, q1, q2⟩ := append_grows (w0 := w0) (S := S.kill ks2) (dp := true && d2) ho r1 hn1 ty s1 s2 (by simp; omega) hlen (by simpa using n2) (by simpa using o2)
        exact ⟨v', w', μ', who1, q0, q1, q2⟩
    · cases hx1
  | own v id lo len ho1 hf hoa =>
    simp only [dstE] at hx1
    split at hx1
    · rename_i e' dp zs hid
      split at hx1
      · rename_i hc
        obtain ⟨hee, hle⟩ := hc
        subst hee
        simp only [Option.some.injEq, Prod.mk.injEq] at hx1
        obtain ⟨rfl, rfl, rfl⟩ := hx1
        have hid' : (S.kill ks2).heap id = .arr e' dp zs := hid
        have ha := hoa _ _ _ hid
        have hne : id ≠ nid := by intro e; subst e; rw [hn1] at hid'; cases hid'
        have hlive : ((S.kill ks2).heap id).live = true := by rw [hid']; rfl
        obtain ⟨ad1, cap1, els1, Fs1, rfl, s1, hnr1, hd1, hadd⟩ := r1.ownSl hid' ha hle
        -- the owners, relabelled
        obtain ⟨who2, hw1, hw2, hw3⟩ : ∃ who2 : Nat → Option Nat, (∀ b j, j ≠ id → who1 b = some j → who2 b = some j) ∧ (∀ b, who1 b = some nid → who2 b = some nid) ∧ (∀ b, who1 b = some id → who2 b = some nid) := by
          refine ⟨fun b => if who1 b = some id then some nid else who1 b, fun b j hj hb => ?_, fun b hb => ?_, fun b hb => by simp [hb]⟩
          · dsimp only; rw [if_neg (by rw [hb]; simpa using hj)]; exact hb
          · dsimp only; split
            · rfl
            · exact hb
        have hdc : (dp && d2) = true → (Fs1 ++ Fs2).flatten.Nodup ∧ ∀ b ∈ (Fs1 ++ Fs2).flatten, who2 b = some nid ∧ w0.heap.size ≤ b := by
          intro hd
          simp only [Bool.and_eq_true] at hd
          obtain ⟨o3, o4⟩ := hd1 hd.1
          obtain ⟨o5, o6⟩ := o2 hd.2
          rw [List.flatten_append]
          refine ⟨List.nodup_append.2 ⟨o3, o5, fun b hb c hc e => ?_⟩, fun b hb => ?_⟩
          · subst e
            have e1 := (o4 b hb).1
            rw [(o6 b hc).1] at e1
            simp at e1; exact hne e1.symm
          · rcases List.mem_append.1 hb with h3 | h3
            · exact ⟨hw3 b (o4 b h3).1, (o4 b h3).2⟩
            · exact ⟨hw2 b (o6 b h3).1, (o6 b h3).2⟩
        by_cases hroom : ((zs.drop lo).take len).length + ys.length ≤ cap1 ∧ 0 < cap1
        · obtain ⟨hroom, hc0⟩ := hroom
          obtain ⟨p, rfl⟩ : ∃ p, ad1 = some p := by
            cases ad1 with
            | none => have := s1.nil rfl; omega
            | some p => exact ⟨p, rfl⟩
          obtain ⟨b, d, o, vs, t0, rfl, hμ, hrow, hoo, hfit⟩ := hadd p rfl hc0
          have hsrc := s2.src (P := P) ho.u
          rw [← ho.sz] at hsrc
          have hl2 := s2.len
          have hpos := ho.pos
          have hsub : (((zs.drop lo).take len).length + ys.length) * i.size ≤ cap1 * i.size := Nat.mul_le_mul_right _ hroom
          rw [Nat.add_mul] at hsub
          have hfit2 : o + ((zs.drop lo).take len).length * i.size + (flatC els2).length ≤ vs.size := by
            rw [hl2]; rw [ho.sz] at hsub ⊢; omega
          have hrun := run_append_in (P := P) w t t ty E i ho.u ho.inf b o ((zs.drop lo).take len).length cap1 hrow (.slice ad2 ys.length cap2) ys.length (flatC els2) hsrc hroom (by rw [ho.sz] at hfit2 ⊢; exact hfit2)
          have hk : Keeps [b] w (w.setRow b (rowPut vs (o + ((zs.drop lo).take len).length * i.size) (flatC els2))) := Keeps.setRow _ _ _
          have hrow' := setRow_heap w b vs (rowPut vs (o + ((zs.drop lo).take len).length * i.size) (flatC els2)) t0 _ hrow
          have hsz' : (rowPut vs (o + ((zs.drop lo).take len).length * i.size) (flatC els2)).size = vs.size := rowPut_size (by rw [ho.sz] at hfit2 ⊢; exact hfit2)
          have hbroot : Root μ (S.kill ks2).heap b := ⟨id, d, hlive, hμ⟩
          have hcell1 : ∀ k (hk : k < els1.length) j, j < e' → vs[o + (k * e' + j)]? = (els1[k]).cells[j]? := by
            intro k hk j hj
            have h3 := ((s1.hc k hk).2.2 j (by rw [(s1.hc k hk).1]; exact hj)).1
            rw [sAt_add, cell_of_row w b _ _ _ _ hrow] at h3
            rw [h3]; simp [(s1.hc k hk).1, hj]
          have hrr : RowRep (w.setRow b (rowPut vs (o + ((zs.drop lo).take len).length * i.size) (flatC els2))) (rowPut vs (o + ((zs.drop lo).take len).length * i.size) (flatC els2)) o e' ((zs.drop lo).take len ++ ys) (Fs1 ++ Fs2) (els1 ++ els2) := by
            refine rowRep_new hpos (by rw [List.length_append, List.length_append, s1.hv, s2.hv]) (by rw [List.length_append, List.length_append, s1.hF, s2.hF]) (fun v hv => (List.mem_append.1 hv).elim (s1.sizes v) (s2.sizes v)) (fun v hv => ?_) (fun x hx => (List.mem_append.1 hx).elim (s1.nc x) (s2.nc x)) (fun k hk' => ?_) ?_ (fun i2 hi2 => ?_)
            · rcases List.mem_append.1 hv with h' | h' <;> obtain ⟨k, hk', rfl⟩ := List.getElem_of_mem h'
              · exact (s1.hc k hk').2.1
              · exact (s2.hc k hk').2.1
            · simp only [getElem_app, s1.hv, s1.hF]
              split
              · rename_i hlt
                exact (s1.h k hlt).keeps hk (fun c hc hm => by simp at hm; subst hm; exact hnr1 c (getElem_mem_flatten _ hc) hbroot)
              · have hlt2 : k - ((zs.drop lo).take len).length < ys.length := by rw [List.length_append] at hk'; omega
                exact (s2.h _ hlt2).keeps hk (fun c hc hm => by simp at hm; subst hm; exact n2 c (getElem_mem_flatten _ hc) hbroot)
            · rw [hsz', List.length_append, Nat.add_mul]; rw [ho.sz, hl2] at hfit2; omega
            · have hfc : flatC (els1 ++ els2) = flatC els1 ++ flatC els2 := by simp [flatC]
              have hl1 := s1.len
              rw [hfc] at hi2 ⊢
              rw [ho.sz]
              rw [ho.sz] at hfit2
              by_cases hc2 : i2 < (flatC els1).length
              · rw [List.getElem?_append_left hc2, rowPut_lt (by omega) (by omega)]
                obtain ⟨u, hu⟩ : ∃ u, (flatC els1)[i2]? = some u := ⟨_, List.getElem?_eq_getElem hc2⟩
                obtain ⟨k, hk', j, hj, rfl, hcc⟩ := flatC_inv hpos s1.sizes hu
                rw [hu, hcell1 k hk' j hj, hcc]
              · rw [List.getElem?_append_right (by omega)]
                have e1 : o + i2 = o + ((zs.drop lo).take len).length * e' + (i2 - (flatC els1).length) := by omega
                rw [e1, rowPut_in (by omega) (by rw [List.length_append] at hi2; omega)]
          obtain ⟨μ', q1, q2⟩ := r1.inplace (nid := nid) hlive hn1 hμ hk hrow' hpos hrr (fun c hc => by rw [List.flatten_append] at hc; exact (List.mem_append.1 hc).elim (hnr1 c) (n2 c)) hdc (fun c j hj _ hc => hw1 c j hj hc) (by rw [List.length_append]; exact hroom) (by rw [hsz']; omega) s1.max
          refine ⟨_, _, μ', who2, hrun, q1, ?_⟩
          rw [List.length_append] at q2
          rw [List.length_append]; exact q2
        · have hk1 : RelAt w0 ((S.kill ks2).kill [id]) a w μ who2 := r1.kill (by rw [hid']; simp) (fun c j hj _ hc => hw1 c j hj hc)
          have hmv := Move.kill w μ (S.kill ks2).heap (id := id) (by rw [hid']; simp)
          have hn3 : ((S.kill ks2).kill [id]).heap nid = .free := (killL_free (by simp [hid'])).2 hn1
          have hrt : ∀ c, Root μ ((S.kill ks2).kill [id]).heap c → Root μ (S.kill ks2).heap c := fun c hc => Root.kill hc
          by_cases h0 : ((zs.drop lo).take len).length + ys.length ≤ cap1
          · -- the nil slice, nothing appended
            have hcap : cap1 = 0 := by
              apply Classical.byContradiction
              intro hc
              exact hroom ⟨h0, by omega⟩
            have hx0 : (zs.drop lo).take len = [] := List.eq_nil_of_length_eq_zero (by omega)
            have hy0 : ys = [] := List.eq_nil_of_length_eq_zero (by omega)
            subst hy0
            obtain ⟨μ', q1, q2⟩ := hk1.newNil hn3 (Keeps.refl [] w) ho.pos (dp && d2) ad1
            rw [hx0] at s1 ⊢
            subst hcap
            refine ⟨.slice ad1 0 0, w, μ', who2, ?_, q1, q2⟩
            have hs := s2.src (P := P) ho.u
            rw [← ho.sz] at hs
            have hz : (flatC els2) = [] := List.eq_nil_of_length_eq_zero (by have := s2.len; simpa using this)
            have hc := hs.cells
            rw [hz] at hc
            have hl := hs.len
            simp only [List.length_nil] at hl hc
            cases ad1 <;> simp [Builtin.append_, run_underlying ho.u, sizeOf, typeInfo, ho.inf, hl, hc, storeCells]
          · obtain ⟨v', w', μ', q0, q1, q2⟩ := append_grows (w0 := w0) (S := (S.kill ks2).kill [id]) (dp := dp && d2) ho hk1 hn3 ty s1 s2 (by omega) hlen (fun c hc hr => by rw [List.flatten_append] at hc; exact (List.mem_append.1 hc).elim (fun h3 => hnr1 c h3 (hrt c hr)) (fun h3 => n2 c h3 (hrt c hr))) hdc
            exact ⟨v', w', μ', who2, q0, q1, q2⟩
      · cases hx1
    · cases hx1
  | g | undef | none_ | ptr | eptr | iptr | agg | tup | fn => simp [dstE] at hx1

end Go.Proofs.Ytdkjeodenbffnaa
