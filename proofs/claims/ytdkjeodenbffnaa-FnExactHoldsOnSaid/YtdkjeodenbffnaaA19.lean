/- Abstract states: a region that draws its order. Over any program; the table is right ('TabOk'). -/
import Derived.Test.YtdkjeodenbffnaaA18
import Derived.Test.YtdkjeodenbffnaaRegion
namespace Go.Proofs.Ytdkjeodenbffnaa
open Go.RowKit
open Shp

structure Rec where
  on : Bool
  pv : PV
  ws : List (Nat × Block)
  deriving Inhabited

def Rec.app (r : Rec) (d : Option Nat) (S : AState) : AState := (S.writes r.ws).put d r.pv

/-- The walk of a region that draws its order: it keeps what each operation looks at and what it writes. -/
def AD (P : Program) (tab : Tab) (ops : Array Oper) : Nat → List Oper → AState → List (List Nat × List Nat) → (AState → List (List Nat × List Nat) → Prop) → Prop
  | _, [], S, acc, K => K S acc
  | i, o :: os, S, acc, K => ∃ b, wantA ops o S = some b ∧ S.has o.dst = true ∧ (b = true → ∃ pv ws, StepsTo P tab (S.nx + 8 * i) o S pv ws ∧ AD P tab ops (i + 1) os ((S.writes ws).put o.dst pv) (acc ++ [(tch tab (S.nx + 8 * i) o S, ws.map (·.1))]) K) ∧
      (b = false → AD P tab ops (i + 1) os (S.put o.dst .none_) (acc ++ [([], [])]) K)

def RunR (P : Program) (tab : Tab) (ops : Array Oper) : Nat → List Oper → AState → List Rec → List (List Nat × List Nat) → AState → Prop
  | _, [], S, rs, tw, S' => rs = [] ∧ tw = [] ∧ S' = S
  | i, o :: os, S, rs, tw, S' => ∃ r rs' x tw', rs = r :: rs' ∧ tw = x :: tw' ∧ wantA ops o S = some r.on ∧ S.has o.dst = true ∧ (r.on = true → StepsTo P tab (S.nx + 8 * i) o S r.pv r.ws ∧ x = (tch tab (S.nx + 8 * i) o S, r.ws.map (·.1))) ∧ (r.on = false → r.pv = .none_ ∧ r.ws = [] ∧ x = ([], [])) ∧
      RunR P tab ops (i + 1) os (r.app o.dst S) rs' tw' S'

theorem AD_run {P : Program} {tab : Tab} {ops : Array Oper} {K : AState → List (List Nat × List Nat) → Prop} : ∀ (os : List Oper) (i : Nat) (S : AState) (acc : List (List Nat × List Nat)), AD P tab ops i os S acc K → ∃ rs tw S', RunR P tab ops i os S rs tw S' ∧ K S' (acc ++ tw)
  | [], i, S, acc, h => ⟨[], [], S, ⟨rfl, rfl, rfl⟩, by simpa [AD] using h⟩
  | o :: os, i, S, acc, h => by
    obtain ⟨b, hb, hd, h1, h2⟩ := h
    cases b with
    | true =>
      obtain ⟨pv, ws, hs, hn⟩ := h1 rfl
      obtain ⟨rs, tw, S', q1, q2⟩ := AD_run os _ _ _ hn
      exact ⟨⟨true, pv, ws⟩ :: rs, _ :: tw, S', ⟨⟨true, pv, ws⟩, rs, _, tw, rfl, rfl, hb, hd, fun _ => ⟨hs, rfl⟩, fun e => (by cases e), q1⟩, by simpa using q2⟩
    | false =>
      obtain ⟨rs, tw, S', q1, q2⟩ := AD_run os _ _ _ (h2 rfl)
      exact ⟨⟨false, .none_, []⟩ :: rs, _ :: tw, S', ⟨⟨false, .none_, []⟩, rs, _, tw, rfl, rfl, hb, hd, fun e => (by cases e), fun _ => ⟨rfl, rfl, rfl⟩, q1⟩, by simpa using q2⟩

/-! ### The order -/

def bmask (acc : List Nat) (o : Oper) : Nat := o.after.toList.foldl (fun s e => if Region.binds .any e then s ||| 2 ^ e.on ||| acc.getD e.on 0 else s) 0

def befs : List Oper → List Nat → List Nat
  | [], acc => acc
  | o :: os, acc => befs os (acc ++ [bmask acc o])

def confB (ops : Array Oper) (oi oj : Oper) (ti wi tj wj : List Nat) : Bool :=
  (match oi.dst with
   | some d => oj.dst == some d || (oj.looksAt ops).contains d
   | none => false) ||
  (match oj.dst with
   | some d => (oi.looksAt ops).contains d
   | none => false) ||
  wi.any (fun x => wj.contains x || tj.contains x) || wj.any (fun x => ti.contains x)

def ordB (l : List Oper) (tw : List (List Nat × List Nat)) : Bool :=
  let bs := befs l []
  (List.range l.length).all fun j => match l[j]? with
    | some oj => (oj.after.toList.all fun e => !Region.binds .any e || decide (e.on < j)) && (List.range j).all fun i => match l[i]? with
      | some oi => !confB l.toArray oi oj (tw.getD i ([], [])).1 (tw.getD i ([], [])).2 (tw.getD j ([], [])).1 (tw.getD j ([], [])).2 || (bs.getD j 0).testBit i
      | none => true
    | none => true

section
variable {l : List Oper}

/-- What is in comes with what it waits for. -/
def DownL (l : List Oper) (L : Nat → Bool) : Prop := ∀ j o, l[j]? = some o → L j = true → ∀ e ∈ o.after, Region.binds .any e = true → L e.on = true
def ReadyL (l : List Oper) (L : Nat → Bool) (j : Nat) : Prop := ∀ o, l[j]? = some o → ∀ e ∈ o.after, Region.binds .any e = true → L e.on = true

theorem testBit_pow_or {s n m i : Nat} (h : (s ||| 2 ^ n ||| m).testBit i = true) : s.testBit i = true ∨ n = i ∨ m.testBit i = true := by
  simp only [Nat.testBit_or, Nat.testBit_two_pow, Bool.or_eq_true, decide_eq_true_eq] at h
  rcases h with (h | h) | h
  · exact .inl h
  · exact .inr (.inl h)
  · exact .inr (.inr h)

theorem bmask_bit {acc : List Nat} {o : Oper} {i : Nat} (h : (bmask acc o).testBit i = true) : ∃ e ∈ o.after, Region.binds .any e = true ∧ (e.on = i ∨ (acc.getD e.on 0).testBit i = true) := by
  unfold bmask at h
  have key : ∀ (es : List Edge) (s : Nat), (es.foldl (fun s e => if Region.binds .any e then s ||| 2 ^ e.on ||| acc.getD e.on 0 else s) s).testBit i = true → s.testBit i = true ∨ ∃ e ∈ es, Region.binds .any e = true ∧ (e.on = i ∨ (acc.getD e.on 0).testBit i = true) := by
    intro es
    induction es with
    | nil => intro s h; exact .inl h
    | cons e es ih =>
      intro s h
      simp only [List.foldl_cons] at h
      rcases ih _ h with h1 | ⟨e', h1, h2⟩
      · split at h1
        · rename_i hb
          rcases testBit_pow_or h1 with h3 | h3 | h3
          · exact .inl h3
          · exact .inr ⟨e, by simp, hb, .inl h3⟩
          · exact .inr ⟨e, by simp, hb, .inr h3⟩
        · exact .inl h1
      · exact .inr ⟨e', by simp [h1], h2⟩
  rcases key _ _ h with h1 | ⟨e, h1, h2⟩
  · simp at h1
  · exact ⟨e, by simpa using h1, h2⟩

theorem befs_ok : ∀ (os : List Oper) (acc : List Nat) (pre : List Oper), acc.length = pre.length → pre ++ os = l → (∀ j, j < acc.length → ∀ i, (acc.getD j 0).testBit i = true → ∀ L, DownL l L → (L j = true ∨ ReadyL l L j) → L i = true) →
    ∀ j i, ((befs os acc).getD j 0).testBit i = true → ∀ L, DownL l L → (L j = true ∨ ReadyL l L j) → L i = true
  | [], acc, pre, hl, hp, h => fun j i hb L hd hr => by
    by_cases hj : j < acc.length
    · exact h j hj i hb L hd hr
    · simp only [befs, List.getD] at hb
      rw [List.getElem?_eq_none (by omega)] at hb
      simp at hb
  | o :: os, acc, pre, hl, hp, h => by
    refine befs_ok os (acc ++ [bmask acc o]) (pre ++ [o]) (by simp [hl]) (by simp [hp]) fun j hj i hb L hd hr => ?_
    by_cases hlt : j < acc.length
    · refine h j hlt i ?_ L hd hr
      simpa [List.getD, List.getElem?_append_left hlt] using hb
    · have hje : j = acc.length := by simp at hj; omega
      subst hje
      have hb' : (bmask acc o).testBit i = true := by simpa [List.getD] using hb
      have ho : l[acc.length]? = some o := by rw [← hp, hl]; simp
      obtain ⟨e, he, hbind, h2⟩ := bmask_bit hb'
      have hon : L e.on = true := by
        rcases hr with hr | hr
        · exact hd _ o ho hr e he hbind
        · exact hr o ho e he hbind
      rcases h2 with rfl | h2
      · exact hon
      · by_cases hlt2 : e.on < acc.length
        · exact h e.on hlt2 i h2 L hd (.inl hon)
        · simp only [List.getD] at h2
          rw [List.getElem?_eq_none (by omega)] at h2
          simp at h2

theorem ord_ok {tw : List (List Nat × List Nat)} (h : ordB l tw = true) {i j : Nat} {oi oj : Oper} (hi : l[i]? = some oi) (hj : l[j]? = some oj) (hij : i < j) (hc : confB l.toArray oi oj (tw.getD i ([], [])).1 (tw.getD i ([], [])).2 (tw.getD j ([], [])).1 (tw.getD j ([], [])).2 = true) {L : Nat → Bool} (hd : DownL l L) (hr : L j = true ∨ ReadyL l L j) : L i = true := by
  unfold ordB at h
  simp only [List.all_eq_true, List.mem_range] at h
  have hjl : j < l.length := (List.getElem?_eq_some_iff.1 hj).1
  have h1 := h j hjl
  simp only [hj, Bool.and_eq_true, List.all_eq_true, List.mem_range] at h1
  have h2 := h1.2 i hij
  simp only [hi, hc, Bool.not_true, Bool.false_or] at h2
  exact befs_ok l [] [] rfl rfl (by intro j hj; simp at hj) j i h2 L hd hr

theorem ord_back {tw : List (List Nat × List Nat)} (h : ordB l tw = true) {j : Nat} {oj : Oper} (hj : l[j]? = some oj) : ∀ e ∈ oj.after, Region.binds .any e = true → e.on < j := by
  unfold ordB at h
  simp only [List.all_eq_true, List.mem_range] at h
  have h1 := h j (List.getElem?_eq_some_iff.1 hj).1
  simp only [hj, Bool.and_eq_true, List.all_eq_true] at h1
  intro e he hb
  have := h1.1 e (by simpa using he)
  simpa [hb] using this
end

end Go.Proofs.Ytdkjeodenbffnaa
