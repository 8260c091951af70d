/- Abstract states: a region that draws its order comes to what the order of the text comes to. Over any program; the table is right ('TabOk'). -/
import Derived.Test.YtdkjeodenbffnaaA19
namespace Go.Proofs.Ytdkjeodenbffnaa
open Go.RowKit
open Shp

theorem AState.ext' {S S' : AState} (h1 : S.n = S'.n) (h2 : ∀ t, S.slots t = S'.slots t) (h3 : ∀ id, S.heap id = S'.heap id) (h4 : S.nx = S'.nx) : S = S' := by
  cases S; cases S'
  simp only at h1 h2 h3 h4
  subst h1; subst h4
  congr
  · exact funext h2
  · exact funext h3

def dstOf (l : List Oper) (k : Nat) : Option Nat := (l[k]?).bind (·.dst)

/-- The state behind those operations that are in. -/
def runA (l : List Oper) (rec : Nat → Rec) (S0 : AState) (L : Nat → Bool) : Nat → AState
  | 0 => S0
  | k + 1 => if L k then (rec k).app (dstOf l k) (runA l rec S0 L k) else runA l rec S0 L k

theorem app_n (r : Rec) (d : Option Nat) (S : AState) : (r.app d S).n = S.n ∧ (r.app d S).nx = S.nx := by cases d <;> exact ⟨rfl, rfl⟩
theorem app_slots (r : Rec) (d : Option Nat) (S : AState) (t : Nat) : (r.app d S).slots t = if d = some t then r.pv else S.slots t := by
  cases d with
  | none => simp [Rec.app, AState.put, AState.writes]
  | some d =>
    simp only [Rec.app, AState.put, AState.writes, upd, Option.some.injEq]
    by_cases e : t = d
    · simp [e]
    · rw [if_neg e, if_neg (fun h => e h.symm)]
theorem app_heap (r : Rec) (d : Option Nat) (S : AState) : (r.app d S).heap = writesH S.heap r.ws := by cases d <;> rfl

section
variable {l : List Oper} {rec : Nat → Rec} {S0 : AState}

theorem runA_n (L : Nat → Bool) : ∀ k, (runA l rec S0 L k).n = S0.n ∧ (runA l rec S0 L k).nx = S0.nx
  | 0 => ⟨rfl, rfl⟩
  | k + 1 => by
    unfold runA
    split
    · rw [(app_n _ _ _).1, (app_n _ _ _).2]; exact runA_n L k
    · exact runA_n L k

theorem runA_slots {L L' : Nat → Bool} {t : Nat} : ∀ {k : Nat}, (∀ j, j < k → dstOf l j = some t → L j = L' j) → (runA l rec S0 L k).slots t = (runA l rec S0 L' k).slots t
  | 0, _ => rfl
  | k + 1, h => by
    have ih := runA_slots (k := k) fun j hj hd => h j (by omega) hd
    unfold runA
    by_cases hd : dstOf l k = some t
    · rw [h k (by omega) hd]
      split
      · rw [app_slots, app_slots, if_pos hd, if_pos hd]
      · exact ih
    · have e1 : ∀ b : Bool, (if b = true then (rec k).app (dstOf l k) (runA l rec S0 L k) else runA l rec S0 L k).slots t = (runA l rec S0 L k).slots t := fun b => by
        cases b
        · rfl
        · simp only [if_true]; rw [app_slots, if_neg hd]
      have e2 : ∀ b : Bool, (if b = true then (rec k).app (dstOf l k) (runA l rec S0 L' k) else runA l rec S0 L' k).slots t = (runA l rec S0 L' k).slots t := fun b => by
        cases b
        · rfl
        · simp only [if_true]; rw [app_slots, if_neg hd]
      rw [e1, e2]; exact ih

theorem runA_heap {L L' : Nat → Bool} {id : Nat} : ∀ {k : Nat}, (∀ j, j < k → id ∈ (rec j).ws.map (·.1) → L j = L' j) → (runA l rec S0 L k).heap id = (runA l rec S0 L' k).heap id
  | 0, _ => rfl
  | k + 1, h => by
    have ih := runA_heap (k := k) fun j hj hd => h j (by omega) hd
    unfold runA
    by_cases hd : id ∈ (rec k).ws.map (·.1)
    · rw [h k (by omega) hd]
      split
      · rw [app_heap, app_heap]; exact writesH_mem hd
      · exact ih
    · have e1 : ∀ (b : Bool) (M : Nat → Bool), (if b = true then (rec k).app (dstOf l k) (runA l rec S0 M k) else runA l rec S0 M k).heap id = (runA l rec S0 M k).heap id := fun b M => by
        cases b
        · rfl
        · simp only [if_true]; rw [app_heap, writesH_ne hd]
      rw [e1, e1]; exact ih

theorem runA_congr {L L' : Nat → Bool} {k : Nat} (h : ∀ j, j < k → L j = L' j) : runA l rec S0 L k = runA l rec S0 L' k :=
  AState.ext' (by rw [(runA_n L k).1, (runA_n L' k).1]) (fun t => runA_slots fun j hj _ => h j hj) (fun id => runA_heap fun j hj _ => h j hj) (by rw [(runA_n L k).2, (runA_n L' k).2])

theorem runA_cut (L : Nat → Bool) (i : Nat) : ∀ k, i ≤ k → runA l rec S0 (fun j => L j && decide (j < i)) k = runA l rec S0 L i
  | 0, h => by
    have : i = 0 := by omega
    subst this; rfl
  | k + 1, h => by
    by_cases e : i = k + 1
    · subst e
      exact runA_congr fun j hj => by simp [hj]
    · conv => lhs; unfold runA
      rw [if_neg (by simp; omega)]
      exact runA_cut L i k (by omega)

theorem runA_last {L : Nat → Bool} {i : Nat} (hi : L i = true) : ∀ {k : Nat}, i < k → (∀ t, dstOf l i = some t → (∀ j, j < k → i < j → L j = true → dstOf l j ≠ some t) → (runA l rec S0 L k).slots t = (rec i).pv) ∧
    (∀ id, id ∈ (rec i).ws.map (·.1) → (∀ j, j < k → i < j → L j = true → id ∉ (rec j).ws.map (·.1)) → ∀ h, (runA l rec S0 L k).heap id = writesH h (rec i).ws id)
  | 0, h => by omega
  | k + 1, h => by
    by_cases e : i = k
    · subst e
      unfold runA
      rw [if_pos hi]
      exact ⟨fun t ht _ => by rw [app_slots, if_pos ht], fun id hid _ h => by rw [app_heap]; exact writesH_mem hid⟩
    · obtain ⟨h1, h2⟩ := runA_last hi (k := k) (by omega)
      unfold runA
      refine ⟨fun t ht hj => ?_, fun id hid hj h => ?_⟩
      · have := h1 t ht fun j hjk => hj j (by omega)
        split
        · rename_i hk
          rw [app_slots, if_neg (hj k (by omega) (by omega) hk)]; exact this
        · exact this
      · have := h2 id hid (fun j hjk => hj j (by omega)) h
        split
        · rename_i hk
          rw [app_heap, writesH_ne (hj k (by omega) (by omega) hk)]; exact this
        · exact this
end

/-- The facts of a run, by index. -/
structure RunI (P : Program) (tab : Tab) (l : List Oper) (S0 : AState) (rec : Nat → Rec) (tw : List (List Nat × List Nat)) : Prop where
  all : ∀ k o, l[k]? = some o → wantA l.toArray o (runA l rec S0 (fun _ => true) k) = some (rec k).on ∧ S0.has o.dst = true ∧
    ((rec k).on = true → StepsTo P tab (S0.nx + 8 * k) o (runA l rec S0 (fun _ => true) k) (rec k).pv (rec k).ws ∧ tw.getD k ([], []) = (tch tab (S0.nx + 8 * k) o (runA l rec S0 (fun _ => true) k), (rec k).ws.map (·.1))) ∧
    ((rec k).on = false → (rec k).pv = .none_ ∧ (rec k).ws = [] ∧ tw.getD k ([], []) = ([], []))

theorem RunR_index {P : Program} {tab : Tab} {S0 : AState} : ∀ (os pre : List Oper) (rpre rs : List Rec) (tpre tw : List (List Nat × List Nat)) (S S' : AState), rpre.length = pre.length → tpre.length = pre.length → RunR P tab (pre ++ os).toArray pre.length os S rs tw S' →
    S = runA (pre ++ os) (fun k => (rpre ++ rs).getD k default) S0 (fun _ => true) pre.length →
    (∀ k o, pre.length ≤ k → (pre ++ os)[k]? = some o → wantA (pre ++ os).toArray o (runA (pre ++ os) (fun k => (rpre ++ rs).getD k default) S0 (fun _ => true) k) = some ((rpre ++ rs).getD k default).on ∧ S0.has o.dst = true ∧
      (((rpre ++ rs).getD k default).on = true → StepsTo P tab (S0.nx + 8 * k) o (runA (pre ++ os) (fun k => (rpre ++ rs).getD k default) S0 (fun _ => true) k) ((rpre ++ rs).getD k default).pv ((rpre ++ rs).getD k default).ws ∧ (tpre ++ tw).getD k ([], []) = (tch tab (S0.nx + 8 * k) o (runA (pre ++ os) (fun k => (rpre ++ rs).getD k default) S0 (fun _ => true) k), ((rpre ++ rs).getD k default).ws.map (·.1))) ∧
      (((rpre ++ rs).getD k default).on = false → ((rpre ++ rs).getD k default).pv = .none_ ∧ ((rpre ++ rs).getD k default).ws = [] ∧ (tpre ++ tw).getD k ([], []) = ([], []))) ∧
    S' = runA (pre ++ os) (fun k => (rpre ++ rs).getD k default) S0 (fun _ => true) (pre ++ os).length
  | [], pre, rpre, rs, tpre, tw, S, S', h1, h2, h, hS => by
    obtain ⟨rfl, rfl, rfl⟩ := h
    refine ⟨fun k o hk ho => ?_, by simpa using hS⟩
    have := (List.getElem?_eq_some_iff.1 ho).1
    simp at this; omega
  | o :: os, pre, rpre, rs, tpre, tw, S, S', h1, h2, h, hS => by
    obtain ⟨r, rs', x, tw', rfl, rfl, q1, q2, q3, q4, q5⟩ := h
    have e1 : pre ++ o :: os = (pre ++ [o]) ++ os := by simp
    have e2 : rpre ++ r :: rs' = (rpre ++ [r]) ++ rs' := by simp
    have e3 : tpre ++ x :: tw' = (tpre ++ [x]) ++ tw' := by simp
    have hr : (rpre ++ r :: rs').getD pre.length default = r := by rw [← h1]; simp [List.getD]
    have hx : (tpre ++ x :: tw').getD pre.length ([], []) = x := by rw [← h2]; simp [List.getD]
    have ho : (pre ++ o :: os)[pre.length]? = some o := by simp
    have hsn := runA_n (l := pre ++ o :: os) (rec := fun k => (rpre ++ r :: rs').getD k default) (S0 := S0) (fun _ => true) pre.length
    have hnx : S.nx = S0.nx := by rw [hS]; exact hsn.2
    have hn : S.n = S0.n := by rw [hS]; exact hsn.1
    have hlen : pre.length + 1 = (pre ++ [o]).length := by simp
    have hS2 : r.app o.dst S = runA ((pre ++ [o]) ++ os) (fun k => ((rpre ++ [r]) ++ rs').getD k default) S0 (fun _ => true) (pre ++ [o]).length := by
      rw [← e1, ← e2, ← hlen]
      conv => rhs; unfold runA
      rw [if_pos rfl, ← hS, hr]
      have : dstOf (pre ++ o :: os) pre.length = o.dst := by unfold dstOf; rw [ho]; rfl
      rw [this]
    rw [e1, hlen] at q5
    obtain ⟨f1, f2⟩ := RunR_index os (pre ++ [o]) (rpre ++ [r]) rs' (tpre ++ [x]) tw' _ S' (by simp [h1]) (by simp [h2]) q5 hS2
    rw [← e1, ← e2, ← e3] at f1
    rw [← e1, ← e2] at f2
    refine ⟨fun k o' hk ho' => ?_, f2⟩
    by_cases e : k = pre.length
    · subst e
      rw [ho] at ho'
      cases ho'
      rw [hr, hx, ← hS]
      refine ⟨q1, ?_, fun hon => ?_, fun hoff => q4 hoff⟩
      · cases hd : o.dst with
        | none => rfl
        | some d => rw [hd] at q2; simp only [AState.has] at q2 ⊢; rw [← hn]; exact q2
      · rw [← hnx]; exact q3 hon
    · exact f1 k o' (by simp; omega) ho'

section
variable {P : Program} {tab : Tab} {l : List Oper} {rec : Nat → Rec} {S0 : AState} {tw : List (List Nat × List Nat)}

theorem look_mem {o : Oper} {ops : Array Oper} {t : Nat} (h : ∃ x ∈ o.op.operands.toList, x = .tmp t) : t ∈ o.looksAt ops := by
  obtain ⟨x, hx, rfl⟩ := h
  unfold Oper.looksAt
  exact List.mem_append.2 (.inl (List.mem_filterMap.2 ⟨_, hx, rfl⟩))

/-- What an operation that may come next looks at is as it was in the text's order. -/
theorem next_ok (hI : RunI P tab l S0 rec tw) (ho : ordB l tw = true) {L : Nat → Bool} (hd : DownL l L) {i : Nat} {o : Oper} (hi : l[i]? = some o) (hno : L i = false) (hr : ReadyL l L i) :
    (∀ t, t ∈ o.looksAt l.toArray → (runA l rec S0 (fun _ => true) i).slots t = (runA l rec S0 L l.length).slots t) ∧ (∀ id, id ∈ (tw.getD i ([], [])).1 → (runA l rec S0 (fun _ => true) i).heap id = (runA l rec S0 L l.length).heap id) ∧
    runA l rec S0 (fun j => if j = i then true else L j) l.length = (rec i).app o.dst (runA l rec S0 L l.length) := by
  have hil : i < l.length := (List.getElem?_eq_some_iff.1 hi).1
  have hdst : ∀ {j oj}, l[j]? = some oj → dstOf l j = oj.dst := fun h => by unfold dstOf; rw [h]; rfl
  have hws : ∀ {j oj}, l[j]? = some oj → (tw.getD j ([], [])).2 = (rec j).ws.map (·.1) := fun {j oj} h => by
    obtain ⟨_, _, h1, h2⟩ := hI.all j oj h
    cases hb : (rec j).on with
    | true => rw [(h1 hb).2]
    | false => rw [(h2 hb).2.2, (h2 hb).2.1]; rfl
  have hbefore : ∀ {j oj}, l[j]? = some oj → j < i → confB l.toArray oj o (tw.getD j ([], [])).1 (tw.getD j ([], [])).2 (tw.getD i ([], [])).1 (tw.getD i ([], [])).2 = true → L j = true := fun hj hlt hc => ord_ok ho hj hi hlt hc hd (.inr hr)
  have hafter : ∀ {j oj}, l[j]? = some oj → i < j → confB l.toArray o oj (tw.getD i ([], [])).1 (tw.getD i ([], [])).2 (tw.getD j ([], [])).1 (tw.getD j ([], [])).2 = true → L j = false := fun {j oj} hj hlt hc => by
    cases hL : L j with
    | false => rfl
    | true => have := ord_ok ho hi hj hlt hc hd (.inl hL); rw [hno] at this; cases this
  have hget : ∀ {j}, j < l.length → ∃ oj, l[j]? = some oj := fun h => ⟨_, List.getElem?_eq_getElem h⟩
  refine ⟨fun t ht => ?_, fun id hid => ?_, ?_⟩
  · rw [← runA_cut (fun _ => true) i l.length (by omega)]
    refine runA_slots fun j hj hdj => ?_
    obtain ⟨oj, hoj⟩ := hget hj
    rw [hdst hoj] at hdj
    simp only [Bool.true_and]
    rcases Nat.lt_trichotomy j i with h | h | h
    · rw [hbefore hoj h (by simp [confB, hdj, ht])]; simp [h]
    · subst h; rw [hno]; simp
    · rw [hafter hoj h (by simp [confB, hdj, ht])]; simp; omega
  · rw [← runA_cut (fun _ => true) i l.length (by omega)]
    refine runA_heap fun j hj hdj => ?_
    obtain ⟨oj, hoj⟩ := hget hj
    rw [← hws hoj] at hdj
    simp only [Bool.true_and]
    rcases Nat.lt_trichotomy j i with h | h | h
    · rw [hbefore hoj h (by
        simp only [confB, Bool.or_eq_true]
        refine .inl (.inr ?_)
        simp only [List.any_eq_true, Bool.or_eq_true, List.contains_iff_mem]
        exact ⟨id, hdj, .inr hid⟩)]
      simp [h]
    · subst h; rw [hno]; simp
    · rw [hafter hoj h (by
        simp only [confB, Bool.or_eq_true]
        refine .inr ?_
        simp only [List.any_eq_true, List.contains_iff_mem]
        exact ⟨id, hdj, hid⟩)]
      simp; omega
  · have hn1 := runA_n (l := l) (rec := rec) (S0 := S0) (fun j => if j = i then true else L j) l.length
    have hn2 := runA_n (l := l) (rec := rec) (S0 := S0) L l.length
    have hn3 := app_n (rec i) o.dst (runA l rec S0 L l.length)
    obtain ⟨la1, la2⟩ := runA_last (l := l) (rec := rec) (S0 := S0) (L := fun j => if j = i then true else L j) (i := i) (by simp) (k := l.length) hil
    refine AState.ext' (by rw [hn1.1, hn3.1, hn2.1]) (fun t => ?_) (fun id => ?_) (by rw [hn1.2, hn3.2, hn2.2])
    · rw [app_slots]
      by_cases hd' : o.dst = some t
      · rw [if_pos hd']
        refine la1 t (by rw [hdst hi]; exact hd') fun j hj hij hLj hdj => ?_
        obtain ⟨oj, hoj⟩ := hget hj
        rw [hdst hoj] at hdj
        rw [if_neg (by omega)] at hLj
        rw [hafter hoj hij (by simp [confB, hd', hdj])] at hLj
        cases hLj
      · rw [if_neg hd']
        refine runA_slots fun j hj hdj => ?_
        by_cases e : j = i
        · subst e; rw [hdst hi] at hdj; exact absurd hdj hd'
        · rw [if_neg e]
    · rw [app_heap]
      by_cases hid : id ∈ (rec i).ws.map (·.1)
      · refine la2 id hid (fun j hj hij hLj hdj => ?_) _
        obtain ⟨oj, hoj⟩ := hget hj
        rw [if_neg (by omega)] at hLj
        rw [← hws hoj] at hdj
        rw [← hws hi] at hid
        rw [hafter hoj hij (by
          simp only [confB, Bool.or_eq_true]
          refine .inl (.inr ?_)
          simp only [List.any_eq_true, Bool.or_eq_true, List.contains_iff_mem]
          exact ⟨id, hid, .inl hdj⟩)] at hLj
        cases hLj
      · rw [writesH_ne hid]
        refine runA_heap fun j hj hdj => ?_
        by_cases e : j = i
        · subst e; exact absurd hdj hid
        · rw [if_neg e]

theorem drawn_ok (ht : TabOk P tab) (hI : RunI P tab l S0 rec tw) (ho : ordB l tw = true) {Q : Exit → Act → World → Prop} {w0 : World} (hQ : ∀ a w μ who, RelAt w0 (runA l rec S0 (fun _ => true) l.length) a w μ who → Q .normal a w) :
    ∀ (fuel : Nat) (listed : Array Bool) (U : List Nat) (a : Act) (w : World) (μ : Lay) (who : Nat → Option Nat), listed.size = l.length → U.Nodup → U.length = fuel → (∀ j, j ∈ U ↔ j < l.length ∧ listed.getD j false = false) → DownL l (fun j => listed.getD j false) → RelAt w0 (runA l rec S0 (fun j => listed.getD j false) l.length) a w μ who →
    wpAny P .any l.toArray Q fuel listed a w
  | 0, listed, U, a, w, μ, who, hs, hnd, hf, hU, hd, hr => by
    have hU0 : U = [] := List.eq_nil_of_length_eq_zero hf
    have hall : ∀ j, j < l.length → listed.getD j false = true := fun j hj => by
      cases h : listed.getD j false with
      | true => rfl
      | false => have := (hU j).2 ⟨hj, h⟩; rw [hU0] at this; simp at this
    refine ⟨?_, ?_⟩
    · rw [List.eq_nil_iff_forall_not_mem]
      intro j hj
      obtain ⟨h1, oj, hoj, _⟩ := mem_ready.1 hj
      have hjl : j < l.length := by have := (Array.getElem?_eq_some_iff.1 hoj).1; simpa using this
      have := hall j hjl
      rw [getD_both h1] at this; cases this
    · refine hQ a w μ who ?_
      rw [← runA_congr (L := fun j => listed.getD j false) (L' := fun _ => true) hall]; exact hr
  | fuel + 1, listed, U, a, w, μ, who, hs, hnd, hf, hU, hd, hr => by
    refine ⟨fun h0 => ?_, fun i hi => ?_⟩
    · exfalso
      -- the least that is not in is ready
      have hne : ∃ j, j < l.length ∧ listed.getD j false = false := by
        cases U with
        | nil => simp at hf
        | cons j U => exact ⟨j, (hU j).1 (by simp)⟩
      have hmin : ∀ n, (∃ j, j < n ∧ j < l.length ∧ listed.getD j false = false) → ∃ j, j < l.length ∧ listed.getD j false = false ∧ ∀ i, i < j → listed.getD i false = true := by
        intro n
        induction n with
        | zero => rintro ⟨j, hj, _⟩; omega
        | succ n ih =>
          rintro ⟨j, hj, hjl, hjf⟩
          by_cases hex : ∃ j, j < n ∧ j < l.length ∧ listed.getD j false = false
          · exact ih hex
          · refine ⟨j, hjl, hjf, fun i hi => ?_⟩
            cases h : listed.getD i false with
            | true => rfl
            | false => exact absurd ⟨i, by omega, by omega, h⟩ hex
      obtain ⟨j, hj, hjf⟩ := hne
      obtain ⟨j, hjl, hjf, hlow⟩ := hmin (j + 1) ⟨j, by omega, hj, hjf⟩
      have hoj : l.toArray[j]? = some l[j] := by simp [hjl]
      have hmem : j ∈ Region.ready .any l.toArray listed := mem_ready.2 ⟨by
        have : j < listed.size := by omega
        simpa [Array.getD, this] using hjf, l[j], hoj, fun e he hb => hlow e.on (ord_back ho (by simp [hjl]) e he hb)⟩
      rw [h0] at hmem; simp at hmem
    · obtain ⟨h1, o, hoi, hall⟩ := mem_ready.1 hi
      have hoi' : l[i]? = some o := by simpa using hoi
      have hil : i < l.length := (List.getElem?_eq_some_iff.1 hoi').1
      have hno : listed.getD i false = false := getD_both h1
      have hrd : ReadyL l (fun j => listed.getD j false) i := fun o' ho' e he hb => by
        rw [hoi'] at ho'; cases ho'
        exact hall e he hb
      obtain ⟨c1, c2, c3⟩ := next_ok hI ho hd hoi' hno hrd
      obtain ⟨f1, f2, f3, f4⟩ := hI.all i o hoi'
      have hset : ∀ j, (listed.setIfInBounds i true).getD j false = if j = i then true else listed.getD j false := fun j => by
        have hlt : i < listed.size := by omega
        by_cases e : j = i
        · subst e; simp [Array.getD, hlt]
        · simp only [Array.getD, Array.size_setIfInBounds, e, if_false]
          split
          · rw [Array.getInternal_eq_getElem, Array.getInternal_eq_getElem, Array.getElem_setIfInBounds_ne _ (by omega)]
          · rfl
      have hL : (fun j => (listed.setIfInBounds i true).getD j false) = fun j => if j = i then true else listed.getD j false := funext hset
      have hwant : wantA l.toArray o (runA l rec S0 (fun j => listed.getD j false) l.length) = some (rec i).on := by
        rw [← f1]
        unfold wantA
        cases hg : o.guard with
        | none => rfl
        | some gb =>
          obtain ⟨g, b⟩ := gb
          simp only
          cases hgd : (l.toArray[g]?).bind (·.dst) with
          | none => rfl
          | some d =>
            simp only
            rw [c1 d (by unfold Oper.looksAt; simp only [hg, hgd]; exact List.mem_append.2 (.inr (by simp)))]
      have hw := want_ok hr hwant
      have hhas : (runA l rec S0 (fun j => listed.getD j false) l.length).has o.dst = true := by
        have := (runA_n (l := l) (rec := rec) (S0 := S0) (fun j => listed.getD j false) l.length).1
        cases hd' : o.dst with
        | none => rfl
        | some d => rw [hd'] at f2; simp only [AState.has] at f2 ⊢; rw [this]; exact f2
      have hU' : ∀ j, j ∈ U.erase i ↔ j < l.length ∧ (listed.setIfInBounds i true).getD j false = false := fun j => by
        rw [hnd.mem_erase_iff, hU, hset]
        by_cases e : j = i
        · subst e; simp
        · simp [e]
      have hiU : i ∈ U := (hU i).2 ⟨hil, hno⟩
      have hlen : (U.erase i).length = fuel := by rw [List.length_erase_of_mem hiU]; omega
      have hd2 : DownL l (fun j => (listed.setIfInBounds i true).getD j false) := by
        intro j oj hj hLj e he hb
        simp only [hset] at hLj ⊢
        by_cases e1 : e.on = i
        · simp [e1]
        · rw [if_neg e1]
          by_cases e2 : j = i
          · subst e2
            rw [hoi'] at hj; cases hj
            exact hall e he hb
          · rw [if_neg e2] at hLj
            exact hd j oj hj hLj e he hb
      have next : ∀ a' w' μ' who', RelAt w0 ((rec i).app o.dst (runA l rec S0 (fun j => listed.getD j false) l.length)) a' w' μ' who' → wpAny P .any l.toArray Q fuel (listed.setIfInBounds i true) a' w' := fun a' w' μ' who' hr' =>
        drawn_ok ht hI ho hQ fuel _ (U.erase i) a' w' μ' who' (by simpa using hs) (hnd.erase i) hlen hU' hd2 (by rw [hL, c3]; exact hr')
      unfold wpOp
      simp only [hoi]
      cases hon : (rec i).on with
      | true =>
        rw [hon] at hw
        simp only [hw, if_true]
        obtain ⟨s1, s2⟩ := f3 hon
        have hst := steps_loc s1 (fun x hx t e => c1 t (look_mem ⟨x, hx, e⟩)) (fun id hid => c2 id (by rw [s2]; exact hid))
        exact .inl ((steps_ok ht hr hst).wp (by rw [has_writes]; exact hhas) next)
      | false =>
        rw [hon] at hw
        simp only [hw, Bool.false_eq_true, if_false]
        obtain ⟨s1, s2, s3⟩ := f4 hon
        refine next _ w μ who ?_
        have e : (rec i).app o.dst (runA l rec S0 (fun j => listed.getD j false) l.length) = (runA l rec S0 (fun j => listed.getD j false) l.length).put o.dst .none_ := by
          unfold Rec.app; rw [s1, s2]; rfl
        rw [e]
        exact hr.put hhas .none_
end

theorem T_drawn {P : Program} {tab : Tab} (ht : TabOk P tab) (n : Nat) (hm : P.follows .mixedOrders = true) {id : Nat} {l : List Oper} {S : AState} {Q : Exit → AState → Prop} (h : AD P tab l.toArray 0 l S [] (fun S' tw => ordB l tw = true ∧ Q .normal (S'.on n))) : T P (.region id l.toArray true) S Q :=
  fun w0 a w hr => by
    obtain ⟨μ, who, hr⟩ := hr
    obtain ⟨rs, tw, S', h1, ho, hq⟩ := AD_run l 0 S [] h
    obtain ⟨f1, f2⟩ := RunR_index (S0 := S) l [] [] rs [] tw S S' rfl rfl h1 rfl
    simp only [List.nil_append] at f1 f2 ho
    have hI : RunI P tab l S (fun k => rs.getD k default) tw := ⟨fun k o hk => f1 k o (by simp) hk⟩
    refine wp_region_any hm ?_
    have hlis : ∀ j, (Array.replicate l.length false).getD j false = false := fun j => by simp [Array.getD]
    have hrun : ∀ k, runA l (fun k => rs.getD k default) S (fun j => (Array.replicate l.length false).getD j false) k = S := fun k => by
      induction k with
      | zero => rfl
      | succ k ih => unfold runA; rw [hlis]; simpa using ih
    have := drawn_ok (Q := fun e a' w' => ∃ S', Q e S' ∧ Rel w0 S' a' w') ht hI ho (w0 := w0) (fun a' w' μ' who' hr' => ⟨_, hq, by rw [f2]; exact Rel.on ⟨μ', who', hr'⟩ _⟩) l.length (Array.replicate l.length false) (List.range l.length) a { w with drawn := w.drawn + 1 } μ who (by simp) List.nodup_range (by simp) (fun j => by simp [hlis]) (fun j o hj hL => by have h9 : (Array.replicate l.length false).getD j false = true := hL; rw [hlis] at h9; cases h9) (by rw [hrun]; exact hr.keeps (Keeps.drew [] w))
    simpa using this

end Go.Proofs.Ytdkjeodenbffnaa
