/- Abstract states as lists: the rules of a walk for code, loops and ends. Over any program; no conditions. -/
import Derived.Test.YtdkjeodenbffnaaF3
namespace Go.Proofs.Ytdkjeodenbffnaa
open Go.RowKit
open Shp

theorem Rel.nx {w0 : World} {S : AState} {a : Act} {w : World} (h : Rel w0 S a w) (k : Nat) : Rel w0 { S with nx := k } a w := by
  obtain ⟨μ, who, h⟩ := h
  exact ⟨μ, who, h.size, h.slot, h.dfr, h.blk, h.inj, h.base, h.keep, h.old⟩
theorem Le_nx {n nx nx' : Nat} {sl : List (Nat × PV)} {hl : List (Nat × Block)} : Le (mkX n sl hl nx) (mkX n sl hl nx') := fun _ _ _ h => h.nx nx'
theorem Le.trans {S S' S'' : AState} (h : Le S S') (h' : Le S' S'') : Le S S'' := fun w0 a w hr => h' w0 a w (h w0 a w hr)
theorem Le_slots {S S' : AState} (hn : S'.n = S.n) (hh : S'.heap = S.heap) (hs : ∀ t, S'.slots t = .undef ∨ S'.slots t = S.slots t) : Le S S' := by
  rintro w0 a w ⟨μ, who, h⟩
  refine ⟨μ, who, by rw [hn]; exact h.size, fun t => ?_, h.dfr, fun i => by rw [hh]; exact h.blk i, by rw [hh]; exact h.inj, by rw [hh]; exact h.base, h.keep, fun t x hp hx => (by
    rcases hs t with e | e
    · rw [e] at hx; cases hx
    · rw [e] at hx; exact h.old t x (by rw [← hn]; exact hp) hx)⟩
  rcases hs t with e | e
  · rw [e]; exact .undef _
  · rw [e, hh]; exact h.slot t

/-- The continuation does not ask for more than the slots and blocks. -/
def MonoQ (Q : Exit → AState → Prop) : Prop := True

/-- A piece of code, in a state by lists. 'lv': which slots live on behind a region. -/
def TX (lv : Nat → List Nat) (P : Program) (tab : Tab) (c : Code) (n : Nat) (sl : List (Nat × PV)) (hl : List (Nat × Block)) (Q : Exit → AState → Prop) : Prop := T P c (mkX n sl hl 0) Q
theorem TX.run {lv : Nat → List Nat} {P : Program} {tab : Tab} {c : Code} {n : Nat} {sl : List (Nat × PV)} {hl : List (Nat × Block)} {Q : Exit → AState → Prop} (h : TX lv P tab c n sl hl Q) : T P c (mkX n sl hl 0) Q := h
/-- The continuation. -/
def QA (Q : Exit → AState → Prop) (e : Exit) (n : Nat) (sl : List (Nat × PV)) (hl : List (Nat × Block)) : Prop := Q e (mkX n sl hl 0)
theorem QA.run {Q : Exit → AState → Prop} {e : Exit} {n : Nat} {sl : List (Nat × PV)} {hl : List (Nat × Block)} (h : QA Q e n sl hl) : Q e (mkX n sl hl 0) := h
/-- Up to what is forgotten. -/
def upQ (Q : Exit → AState → Prop) : Exit → AState → Prop := fun e S => ∃ S', Q e S' ∧ Le S S'
theorem T_upQ {P : Program} {c : Code} {S : AState} {Q : Exit → AState → Prop} (h : T P c S (upQ Q)) : T P c S Q := fun w0 a w hr => by
  refine wp_mono (h w0 a w hr) ?_
  rintro e a' w' ⟨S', ⟨S2, h1, h2⟩, h3⟩
  exact ⟨S2, h1, h2 _ _ _ h3⟩
def NK (L : List Nat) (Q : Exit → AState → Prop) (S : AState) : Prop := upQ Q .normal S
theorem NK.run {L : List Nat} {Q : Exit → AState → Prop} {S : AState} (h : NK L Q S) : upQ Q .normal S := h
theorem NK_mk {L : List Nat} {Q : Exit → AState → Prop} {n nx : Nat} {sl sl' : List (Nat × PV)} {hl : List (Nat × Block)} (hs : Sel sl L sl') (h : QA Q .normal n sl' hl) : NK L Q (mkX n sl hl nx) :=
  ⟨_, h.run, Le_slots (S := mkX n sl hl nx) (S' := mkX n sl' hl 0) rfl rfl hs.e⟩

section
variable {lv : Nat → List Nat} {P : Program} {tab : Tab} {n : Nat} {sl : List (Nat × PV)} {hl : List (Nat × Block)} {Q : Exit → AState → Prop} {x y c : Code}

theorem AW_K {ops : Array Oper} {K K' : AState → Prop} (hk : ∀ S, K S → K' S) : ∀ {os : List Oper} {i : Nat} {S : AState}, AW P tab ops i os S K → AW P tab ops i os S K'
  | [], _, _, h => hk _ h
  | o :: os, i, S, h => by
    obtain ⟨b, h1, h2, h3, h4⟩ := h
    refine ⟨b, h1, h2, fun hb => ?_, fun hb => AW_K hk (h4 hb)⟩
    obtain ⟨pv, ws, h5, h6⟩ := h3 hb
    exact ⟨pv, ws, h5, AW_K hk h6⟩
theorem AD_K {ops : Array Oper} {K K' : AState → List (List Nat × List Nat) → Prop} (hk : ∀ S tw, K S tw → K' S tw) : ∀ {os : List Oper} {i : Nat} {S : AState} {acc : List (List Nat × List Nat)}, AD P tab ops i os S acc K → AD P tab ops i os S acc K'
  | [], _, _, _, h => hk _ _ h
  | o :: os, i, S, acc, h => by
    obtain ⟨b, h1, h2, h3, h4⟩ := h
    refine ⟨b, h1, h2, fun hb => ?_, fun hb => AD_K hk (h4 hb)⟩
    obtain ⟨pv, ws, h5, h6⟩ := h3 hb
    exact ⟨pv, ws, h5, AD_K hk h6⟩

theorem T_on {S S' : AState} (n0 : Nat) (hl : Le S (S'.on n0)) {w0 : World} {a : Act} {w : World} (h : Rel w0 S a w) : Rel w0 S' a w := by
  have := hl _ _ _ h
  obtain ⟨μ, who, h⟩ := this
  exact ⟨μ, who, h.size, h.slot, h.dfr, h.blk, h.inj, h.base, h.keep, h.old⟩

theorem NK.on {L : List Nat} {S : AState} (h : NK L Q S) : upQ Q .normal (S.on 512) := by
  obtain ⟨S', h1, h2⟩ := h.run
  refine ⟨S', h1, fun w0 a w hr => h2 _ _ _ ?_⟩
  obtain ⟨μ, who, h⟩ := hr
  exact ⟨μ, who, h.size, h.slot, h.dfr, h.blk, h.inj, h.base, h.keep, h.old⟩

theorem TX_rgW (ht : TabOk P tab) {id : Nat} {l : List Oper} {L : List Nat} (hL : RF (lv id = L)) (h : AF false P tab l.toArray 0 l n sl hl (4096 * id + 4096) [] (fun S' _ => NK L Q S')) : TX lv P tab (.region id l.toArray false) n sl hl Q :=
  (T_upQ (T.le Le_nx (T_region ht 512 (AW_K (fun S hS => NK.on hS) h.run))))
theorem TX_rgD (ht : TabOk P tab) (hm : P.follows .mixedOrders = true) {id : Nat} {l : List Oper} {L : List Nat} (hL : RF (lv id = L)) (h : AF true P tab l.toArray 0 l n sl hl (4096 * id + 4096) [] (fun S' tw => ordB l tw = true ∧ NK L Q S')) : TX lv P tab (.region id l.toArray true) n sl hl Q :=
  (T_upQ (T.le Le_nx (T_drawn ht 512 hm (AD_K (fun S tw hS => ⟨hS.1, NK.on hS.2⟩) h.run))))
theorem AF_nilW {ops : Array Oper} {i nx : Nat} {acc : List (List Nat × List Nat)} {K : AState → List (List Nat × List Nat) → Prop} (h : K (mkX n sl hl nx) []) : AF false P tab ops i [] n sl hl nx acc K := ⟨h⟩
theorem AF_nilD {ops : Array Oper} {i nx : Nat} {l : List Oper} {L : List Nat} {acc : List (List Nat × List Nat)} (h : NK L Q (mkX n sl hl nx)) (ho : ordB l acc = true) : AF true P tab ops i [] n sl hl nx acc (fun S' tw => ordB l tw = true ∧ NK L Q S') := ⟨ho, h⟩
theorem AF_nilK {ops : Array Oper} {i nx : Nat} {L : List Nat} {acc : List (List Nat × List Nat)} (h : NK L Q (mkX n sl hl nx)) : AF false P tab ops i [] n sl hl nx acc (fun S' _ => NK L Q S') := ⟨h⟩

/-- Behind a piece. -/
def andX (lv : Nat → List Nat) (P : Program) (tab : Tab) (c : Code) (Q : Exit → AState → Prop) : Exit → AState → Prop
  | .normal, S => ∃ n sl hl, S = mkX n sl hl 0 ∧ TX lv P tab c n sl hl Q
  | e, S => Q e S
theorem TX_seq (h : TX lv P tab x n sl hl (andX lv P tab y Q)) : TX lv P tab (.seq x y) n sl hl Q := T_seq (h.run.mono fun e S h => by
  cases e with
  | normal => obtain ⟨n, sl, hl, rfl, h⟩ := h; exact h.run
  | _ => exact h)
theorem TX_block {id : Nat} (h : TX lv P tab c n sl hl (inT id Q)) : TX lv P tab (.block id c) n sl hl Q := T_block h.run
/-- a block that is no loop -/
def notLoop : Code → Bool
  | .loop _ => false
  | _ => true
theorem TX_blk {id : Nat} (hn : RF (notLoop c = true)) (h : TX lv P tab c n sl hl (inT id Q)) : TX lv P tab (.block id c) n sl hl Q := TX_block h
theorem TX_skip (h : QA Q .normal n sl hl) : TX lv P tab .skip n sl hl Q := T_skip h.run
theorem TX_label {l : Nat} (h : QA Q .normal n sl hl) : TX lv P tab (.label l) n sl hl Q := T_label h.run
theorem TX_ret (h : QA Q .ret n sl hl) : TX lv P tab .ret n sl hl Q := T_ret h.run
theorem TX_exit {id : Nat} (h : QA Q (.exit id) n sl hl) : TX lv P tab (.exit id) n sl hl Q := T_exit h.run
/-- a test, by its value -/
structure CK' (lv : Nat → List Nat) (P : Program) (tab : Tab) (x y : Code) (n : Nat) (sl : List (Nat × PV)) (hl : List (Nat × Block)) (Q : Exit → AState → Prop) (p : PV) : Prop where
  e : ∃ b, p = .g (.bool b) ∧ (b = true → TX lv P tab x n sl hl Q) ∧ (b = false → TX lv P tab y n sl hl Q)
def CK (lv : Nat → List Nat) (P : Program) (tab : Tab) (x y : Code) (n : Nat) (sl : List (Nat × PV)) (hl : List (Nat × Block)) (Q : Exit → AState → Prop) (p : PV) : Prop := CK' lv P tab x y n sl hl Q p
theorem CK.mk {lv : Nat → List Nat} {P : Program} {tab : Tab} {x y : Code} {n : Nat} {sl : List (Nat × PV)} {hl : List (Nat × Block)} {Q : Exit → AState → Prop} {p : PV} (h : CK' lv P tab x y n sl hl Q p) : CK lv P tab x y n sl hl Q p := h
theorem CK.e {lv : Nat → List Nat} {P : Program} {tab : Tab} {x y : Code} {n : Nat} {sl : List (Nat × PV)} {hl : List (Nat × Block)} {Q : Exit → AState → Prop} {p : PV} (h : CK lv P tab x y n sl hl Q p) : ∃ b, p = .g (.bool b) ∧ (b = true → TX lv P tab x n sl hl Q) ∧ (b = false → TX lv P tab y n sl hl Q) := @CK'.e _ _ _ _ _ _ _ _ _ _ h
theorem TX_cond {o : Operand} {p : PV} (hb : EV sl tab 0 o p) (h : CK lv P tab x y n sl hl Q p) : TX lv P tab (.cond o x y) n sl hl Q := by
  obtain ⟨b, rfl, h1, h2⟩ := h.e
  exact T_cond (hb.e _ _ _) (fun e => (h1 e).run) (fun e => (h2 e).run)
theorem CK_t (h : TX lv P tab x n sl hl Q) : CK lv P tab x y n sl hl Q (.g (.bool true)) := CK.mk ⟨_, rfl, fun _ => h, fun e => by cases e⟩
theorem CK_f (h : TX lv P tab y n sl hl Q) : CK lv P tab x y n sl hl Q (.g (.bool false)) := CK.mk ⟨_, rfl, (fun e => by cases e), fun _ => h⟩
theorem CK_if {b : Bool} (h1 : b = true → TX lv P tab x n sl hl Q) (h2 : b = false → TX lv P tab y n sl hl Q) : CK lv P tab x y n sl hl Q (.g (.bool b)) := CK.mk ⟨_, rfl, h1, h2⟩

theorem QA_and_n (h : TX lv P tab c n sl hl Q) : QA (andX lv P tab c Q) .normal n sl hl := ⟨_, _, _, rfl, h⟩
theorem QA_and_e {id : Nat} (h : QA Q (.exit id) n sl hl) : QA (andX lv P tab c Q) (.exit id) n sl hl := h.run
theorem QA_and_r (h : QA Q .ret n sl hl) : QA (andX lv P tab c Q) .ret n sl hl := h.run
theorem QA_in_eq {id : Nat} (h : QA Q .normal n sl hl) : QA (inT id Q) (.exit id) n sl hl := inT_eq h.run
theorem QA_in_ne {id j : Nat} (hn : NE j id) (h : QA Q (.exit j) n sl hl) : QA (inT id Q) (.exit j) n sl hl := inT_ne hn.e h.run
theorem QA_in_n {id : Nat} (h : QA Q .normal n sl hl) : QA (inT id Q) .normal n sl hl := inT_n h.run
theorem QA_in_r {id : Nat} (h : QA Q .ret n sl hl) : QA (inT id Q) .ret n sl hl := inT_r h.run

/-! loops -/
/-- a head of a loop -/
structure HD where
  sl : List (Nat × PV)
  hl : List (Nat × Block)
def LX (n : Nat) (sl : List (Nat × PV)) (hl : List (Nat × Block)) (H : HD) : Prop := Le (mkX n sl hl 0) (mkX n H.sl H.hl 0)
theorem LX.le {n : Nat} {sl : List (Nat × PV)} {hl : List (Nat × Block)} {H : HD} (h : LX n sl hl H) : Le (mkX n sl hl 0) (mkX n H.sl H.hl 0) := h
def loopX {ι : Type} (n0 : Nat) (I : ι → HD) (ok : ι → Prop) (m : ι → Nat) (i : ι) (Q : Exit → AState → Prop) : Exit → AState → Prop
  | .normal, S' => ∃ j, ok j ∧ m j < m i ∧ Le S' (mkX n0 (I j).sl (I j).hl 0)
  | e, S' => Q e S'
theorem TX_loop {id : Nat} {ι : Type} (I : ι → HD) (ok : ι → Prop) (m : ι → Nat) (i0 : ι) (h0 : LX n sl hl (I i0)) (k0 : ok i0) (round : ∀ i, ok i → TX lv P tab c n (I i).sl (I i).hl (loopX n I ok m i (inT id Q))) : TX lv P tab (.block id (.loop c)) n sl hl Q :=
  (T_block (T_loop (fun i => mkX n (I i).sl (I i).hl 0) ok m i0 h0.le k0 fun i k => (round i k).run.mono fun e S h => by cases e <;> exact h))
theorem QA_lp_e {ι : Type} {n0 : Nat} {I : ι → HD} {ok : ι → Prop} {m : ι → Nat} {i : ι} {id : Nat} (h : QA Q (.exit id) n sl hl) : QA (loopX n0 I ok m i Q) (.exit id) n sl hl := h.run
theorem QA_lp_r {ι : Type} {n0 : Nat} {I : ι → HD} {ok : ι → Prop} {m : ι → Nat} {i : ι} (h : QA Q .ret n sl hl) : QA (loopX n0 I ok m i Q) .ret n sl hl := h.run
theorem QA_lp {ι : Type} {I : ι → HD} {ok : ι → Prop} {m : ι → Nat} {i : ι} (j : ι) (h3 : LX n sl hl (I j)) (h1 : ok j) (h2 : m j < m i) : QA (loopX n I ok m i Q) .normal n sl hl := ⟨j, h1, h2, h3.le⟩

/-! ways that meet -/
def cutX {ι : Type} (n0 : Nat) (I : ι → HD) (ok : ι → Prop) (Q : Exit → AState → Prop) : Exit → AState → Prop
  | .normal, S' => ∃ j, ok j ∧ Le S' (mkX n0 (I j).sl (I j).hl 0)
  | e, S' => Q e S'
theorem TX_cut {id : Nat} {ι : Type} (I : ι → HD) (ok : ι → Prop) (h : TX lv P tab (.block id x) n sl hl (cutX n I ok Q)) (k : ∀ i, ok i → TX lv P tab y n (I i).sl (I i).hl Q) : TX lv P tab (.block id x) n sl hl (andX lv P tab y Q) :=
  T_upQ (h.run.mono fun e S h => by
    cases e with
    | normal => obtain ⟨j, h1, h2⟩ := h; exact ⟨_, ⟨_, _, _, rfl, k j h1⟩, h2⟩
    | _ => exact ⟨S, h, fun _ _ _ hr => hr⟩)
theorem QA_ct {ι : Type} {I : ι → HD} {ok : ι → Prop} (j : ι) (h3 : LX n sl hl (I j)) (h1 : ok j) : QA (cutX n I ok Q) .normal n sl hl := ⟨j, h1, h3.le⟩
theorem QA_ct_e {ι : Type} {n0 : Nat} {I : ι → HD} {ok : ι → Prop} {id : Nat} (h : QA Q (.exit id) n sl hl) : QA (cutX n0 I ok Q) (.exit id) n sl hl := h.run
theorem QA_ct_r {ι : Type} {n0 : Nat} {I : ι → HD} {ok : ι → Prop} (h : QA Q .ret n sl hl) : QA (cutX n0 I ok Q) .ret n sl hl := h.run

/-! what a head asks of a state -/
/-- equal data -/
def EQ {α : Type} (a b : α) : Prop := a = b
theorem EQ.mk {α : Type} {a b : α} (h : a = b) : EQ a b := h
theorem EQ.e {α : Type} {a b : α} (h : EQ a b) : a = b := h
theorem EQ_int {k : IntKind} {a b : Int} (h : EQ a b) : EQ (GV.int k a) (.int k b) := EQ.mk (by rw [h.e])
theorem EQ_bool {a b : Bool} (h : a = b) : EQ (GV.bool a) (.bool b) := EQ.mk (by rw [h])
theorem EQ_sl {e : Nat} {xs ys : List GV} (h : EQ xs ys) : EQ (GV.sl e xs) (.sl e ys) := EQ.mk (by rw [h.e])
theorem EQ_map {α : Type} {f : α → GV} {xs ys : List α} (h : EQ xs ys) : EQ (xs.map f) (ys.map f) := EQ.mk (by rw [h.e])
theorem EQ_agg {xs ys : List GV} (h : EQ xs ys) : EQ (GV.agg xs) (.agg ys) := EQ.mk (by rw [h.e])
theorem EQ_tup {xs ys : List GV} (h : EQ xs ys) : EQ (GV.tup xs) (.tup ys) := EQ.mk (by rw [h.e])
theorem EQ_cons {x y : GV} {xs ys : List GV} (h : EQ x y) (h2 : EQ xs ys) : EQ (x :: xs) (y :: ys) := EQ.mk (by rw [h.e, h2.e])
/-- a fact that the caller shows -/
def HY (p : Prop) : Prop := p
theorem HY.mk {p : Prop} (h : p) : HY p := h
theorem HY.e {p : Prop} (h : HY p) : p := h
structure RN (ρ : List Nat) (p v : PV) : Prop where
  e : ρ.Nodup → v = ren0 ρ p ∧ v = ren1 ρ p
theorem idx_of {ρ : List Nat} (hn : ρ.Nodup) {j id : Nat} (h : ρ[j]? = some id) : ρ.idxOf? id = some j := by
  obtain ⟨hj, h1⟩ := List.getElem?_eq_some_iff.1 h
  cases hx : ρ.idxOf? id with
  | none => exact absurd (h1 ▸ List.getElem_mem hj) (List.idxOf?_eq_none_iff.1 hx)
  | some k =>
    obtain ⟨hk, h2⟩ := List.getElem?_eq_some_iff.1 (idx_some hx)
    rw [nodup_inj hn hk hj (h2.trans h1.symm)]
theorem RN_g {ρ : List Nat} {a b : GV} (h : EQ a b) : RN ρ (.g a) (.g b) := ⟨fun _ => by cases h.e; exact ⟨rfl, rfl⟩⟩
theorem RN_none {ρ : List Nat} : RN ρ .none_ .none_ := ⟨fun _ => ⟨rfl, rfl⟩⟩
theorem RN_nils {ρ : List Nat} (e : Nat) : RN ρ (.nils e) (.nils e) := ⟨fun _ => ⟨rfl, rfl⟩⟩
theorem RN_iptr {ρ : List Nat} (cs : List GV) : RN ρ (.iptr cs) (.iptr cs) := ⟨fun _ => ⟨rfl, rfl⟩⟩
theorem RN_own {ρ : List Nat} {id j lo lo' len len' : Nat} (h : RF (ρ[j]? = some id)) (h1 : EQ lo lo') (h2 : EQ len len') : RN ρ (.own id lo len) (.own j lo' len') := ⟨fun hn => by
  cases h1.e; cases h2.e
  simp only [ren1, ren0, idx_of hn h.e, and_self]⟩
theorem RN_ptr {ρ : List Nat} {id j o : Nat} (h : RF (ρ[j]? = some id)) : RN ρ (.ptr id o) (.ptr j o) := ⟨fun hn => by
  simp only [ren1, ren0, idx_of hn h.e, and_self]⟩
theorem RN_eptr {ρ : List Nat} {id j k k' i : Nat} (h : RF (ρ[j]? = some id)) (h1 : EQ k k') : RN ρ (.eptr id k i) (.eptr j k' i) := ⟨fun hn => by
  cases h1.e
  simp only [ren1, ren0, idx_of hn h.e, and_self]⟩
/-- values of slots -/
structure RV (ρ : List Nat) (p v : PV) : Prop where
  e : ρ.Nodup → v = ren1 ρ p
theorem RV_any {ρ : List Nat} (p : PV) : RV ρ p (ren1 ρ p) := ⟨fun _ => rfl⟩
theorem RV_0 {ρ : List Nat} {p v : PV} (h : RN ρ p v) : RV ρ p v := ⟨fun hn => (h.e hn).2⟩
structure RNL (ρ : List Nat) (ps vs : List PV) : Prop where
  e : ρ.Nodup → vs = ps.map (ren0 ρ)
theorem RNL_nil {ρ : List Nat} : RNL ρ [] [] := ⟨fun _ => rfl⟩
theorem RNL_cons {ρ : List Nat} {p v : PV} {ps vs : List PV} (h : RN ρ p v) (h2 : RNL ρ ps vs) : RNL ρ (p :: ps) (v :: vs) := ⟨fun hn => by rw [List.map_cons, ← (h.e hn).1, ← h2.e hn]⟩
theorem RV_agg {ρ : List Nat} {ps vs : List PV} (h : RNL ρ ps vs) : RV ρ (.agg ps) (.agg vs) := ⟨fun hn => by simp only [ren1, ← h.e hn]⟩
theorem RV_fn {ρ : List Nat} {f : FuncId} {ps vs : List PV} (h : RNL ρ ps vs) : RV ρ (.fn f ps) (.fn f vs) := ⟨fun hn => by simp only [ren1, ← h.e hn]⟩
structure RVL (ρ : List Nat) (ps vs : List PV) : Prop where
  e : ρ.Nodup → vs = ps.map (ren1 ρ)
theorem RVL_nil {ρ : List Nat} : RVL ρ [] [] := ⟨fun _ => rfl⟩
theorem RVL_cons {ρ : List Nat} {p v : PV} {ps vs : List PV} (h : RV ρ p v) (h2 : RVL ρ ps vs) : RVL ρ (p :: ps) (v :: vs) := ⟨fun hn => by rw [List.map_cons, ← h.e hn, ← h2.e hn]⟩
structure RB (ρ : List Nat) (b b' : Block) : Prop where
  e : ρ.Nodup → b' = renB ρ b
  l : b.live = true
theorem RB_arr {ρ : List Nat} {e : Nat} {dp : Bool} {xs ys : List GV} (h : EQ xs ys) : RB ρ (.arr e dp xs) (.arr e dp ys) := ⟨fun _ => by cases h.e; rfl, rfl⟩
theorem RB_box {ρ : List Nat} {cs cs' : List PV} (h : RVL ρ cs cs') : RB ρ (.box cs) (.box cs') := ⟨fun hn => by simp only [renB, ← h.e hn], rfl⟩
structure HS (ρ : List Nat) (sl sl' : List (Nat × PV)) : Prop where
  e : ρ.Nodup → ∀ t, lookS sl' t = .undef ∨ lookS sl' t = ren1 ρ (lookS sl t)
theorem HS_nil {ρ : List Nat} (sl : List (Nat × PV)) : HS ρ sl [] := ⟨fun _ _ => .inl rfl⟩
theorem HS_cons {ρ : List Nat} {t : Nat} {p v : PV} {sl sl' : List (Nat × PV)} (h1 : SL sl t p) (h2 : RV ρ p v) (h3 : HS ρ sl sl') : HS ρ sl ((t, v) :: sl') := ⟨fun hn s => by
  by_cases e : s = t
  · subst e; right; rw [h1.e]; simp only [lookS, if_true]; exact h2.e hn
  · simpa [lookS, e] using h3.e hn s⟩
structure HB (ρ : List Nat) (hl : List (Nat × Block)) (is : List Nat) (k : Nat) (hl' : List (Nat × Block)) : Prop where
  e : ρ.Nodup → ∀ j, lookH hl' (k + j) = match is[j]? with | some i => renB ρ (lookH hl i) | none => .free
  lo : ∀ j, j < k → lookH hl' j = .free
  l : ∀ i ∈ is, (lookH hl i).live = true
theorem HB_nil {ρ : List Nat} (hl : List (Nat × Block)) (k : Nat) : HB ρ hl [] k [] := ⟨fun _ _ => by simp [lookH], fun _ _ => rfl, by simp⟩
theorem HB_cons {ρ is : List Nat} {i k : Nat} {B B' : Block} {hl hl' : List (Nat × Block)} (h1 : HL hl i B) (h2 : RB ρ B B') (h3 : HB ρ hl is (k + 1) hl') : HB ρ hl (i :: is) k ((k, B') :: hl') := ⟨fun hn j => by
  cases j with
  | zero => simp only [Nat.add_zero, lookH, if_true, List.getElem?_cons_zero]; rw [h1.e]; exact h2.e hn
  | succ j =>
    have := h3.e hn j
    rw [show k + 1 + j = k + (j + 1) by omega] at this
    simp only [lookH, List.getElem?_cons_succ]
    rw [if_neg (by omega)]; exact this, fun j hj => by
    have := h3.lo j (by omega)
    simp only [lookH]; rw [if_neg (by omega)]; exact this, fun x hx => by
    rcases List.mem_cons.1 hx with rfl | hx
    · rw [h1.e]; exact h2.l
    · exact h3.l x hx⟩
theorem LX_mk {ρ : List Nat} {sl' : List (Nat × PV)} {hl' : List (Nat × Block)} (hs : HS ρ sl sl') (hb : HB ρ hl ρ 0 hl') (hn : RF (ρ.Nodup)) : LX n sl hl ⟨sl', hl'⟩ :=
  (Le_norm ρ hn.e rfl (fun i hi => hb.l i hi) (fun j => by have := hb.e hn.e j; rw [Nat.zero_add] at this; exact this) (fun t => hs.e hn.e t))
theorem LX0 {sl' : List (Nat × PV)} (hs : HS [] sl sl') : LX n sl hl ⟨sl', []⟩ := LX_mk hs (HB_nil _ _) (RF.mk (by simp))
theorem LX1 {r0 : Nat} {b0 : Block} {sl' : List (Nat × PV)} (hs : HS [r0] sl sl') (hb : HB [r0] hl [r0] 0 [(0, b0)]) : LX n sl hl ⟨sl', [(0, b0)]⟩ := LX_mk hs hb (RF.mk (by simp))
theorem LX2 {r0 r1 : Nat} {b0 b1 : Block} {sl' : List (Nat × PV)} (hs : HS [r0, r1] sl sl') (hb : HB [r0, r1] hl [r0, r1] 0 [(0, b0), (1, b1)]) (hn : RF ([r0, r1].Nodup)) : LX n sl hl ⟨sl', [(0, b0), (1, b1)]⟩ := LX_mk hs hb hn
theorem LX3 {r0 r1 r2 : Nat} {b0 b1 b2 : Block} {sl' : List (Nat × PV)} (hs : HS [r0, r1, r2] sl sl') (hb : HB [r0, r1, r2] hl [r0, r1, r2] 0 [(0, b0), (1, b1), (2, b2)]) (hn : RF ([r0, r1, r2].Nodup)) : LX n sl hl ⟨sl', [(0, b0), (1, b1), (2, b2)]⟩ := LX_mk hs hb hn
theorem LX4 {r0 r1 r2 r3 : Nat} {b0 b1 b2 b3 : Block} {sl' : List (Nat × PV)} (hs : HS [r0, r1, r2, r3] sl sl') (hb : HB [r0, r1, r2, r3] hl [r0, r1, r2, r3] 0 [(0, b0), (1, b1), (2, b2), (3, b3)]) (hn : RF ([r0, r1, r2, r3].Nodup)) : LX n sl hl ⟨sl', [(0, b0), (1, b1), (2, b2), (3, b3)]⟩ := LX_mk hs hb hn
theorem LX5 {r0 r1 r2 r3 r4 : Nat} {b0 b1 b2 b3 b4 : Block} {sl' : List (Nat × PV)} (hs : HS [r0, r1, r2, r3, r4] sl sl') (hb : HB [r0, r1, r2, r3, r4] hl [r0, r1, r2, r3, r4] 0 [(0, b0), (1, b1), (2, b2), (3, b3), (4, b4)]) (hn : RF ([r0, r1, r2, r3, r4].Nodup)) : LX n sl hl ⟨sl', [(0, b0), (1, b1), (2, b2), (3, b3), (4, b4)]⟩ := LX_mk hs hb hn
theorem LX6 {r0 r1 r2 r3 r4 r5 : Nat} {b0 b1 b2 b3 b4 b5 : Block} {sl' : List (Nat × PV)} (hs : HS [r0, r1, r2, r3, r4, r5] sl sl') (hb : HB [r0, r1, r2, r3, r4, r5] hl [r0, r1, r2, r3, r4, r5] 0 [(0, b0), (1, b1), (2, b2), (3, b3), (4, b4), (5, b5)]) (hn : RF ([r0, r1, r2, r3, r4, r5].Nodup)) : LX n sl hl ⟨sl', [(0, b0), (1, b1), (2, b2), (3, b3), (4, b4), (5, b5)]⟩ := LX_mk hs hb hn
theorem LX7 {r0 r1 r2 r3 r4 r5 r6 : Nat} {b0 b1 b2 b3 b4 b5 b6 : Block} {sl' : List (Nat × PV)} (hs : HS [r0, r1, r2, r3, r4, r5, r6] sl sl') (hb : HB [r0, r1, r2, r3, r4, r5, r6] hl [r0, r1, r2, r3, r4, r5, r6] 0 [(0, b0), (1, b1), (2, b2), (3, b3), (4, b4), (5, b5), (6, b6)]) (hn : RF ([r0, r1, r2, r3, r4, r5, r6].Nodup)) : LX n sl hl ⟨sl', [(0, b0), (1, b1), (2, b2), (3, b3), (4, b4), (5, b5), (6, b6)]⟩ := LX_mk hs hb hn
theorem LX8 {r0 r1 r2 r3 r4 r5 r6 r7 : Nat} {b0 b1 b2 b3 b4 b5 b6 b7 : Block} {sl' : List (Nat × PV)} (hs : HS [r0, r1, r2, r3, r4, r5, r6, r7] sl sl') (hb : HB [r0, r1, r2, r3, r4, r5, r6, r7] hl [r0, r1, r2, r3, r4, r5, r6, r7] 0 [(0, b0), (1, b1), (2, b2), (3, b3), (4, b4), (5, b5), (6, b6), (7, b7)]) (hn : RF ([r0, r1, r2, r3, r4, r5, r6, r7].Nodup)) : LX n sl hl ⟨sl', [(0, b0), (1, b1), (2, b2), (3, b3), (4, b4), (5, b5), (6, b6), (7, b7)]⟩ := LX_mk hs hb hn
theorem LX9 {r0 r1 r2 r3 r4 r5 r6 r7 r8 : Nat} {b0 b1 b2 b3 b4 b5 b6 b7 b8 : Block} {sl' : List (Nat × PV)} (hs : HS [r0, r1, r2, r3, r4, r5, r6, r7, r8] sl sl') (hb : HB [r0, r1, r2, r3, r4, r5, r6, r7, r8] hl [r0, r1, r2, r3, r4, r5, r6, r7, r8] 0 [(0, b0), (1, b1), (2, b2), (3, b3), (4, b4), (5, b5), (6, b6), (7, b7), (8, b8)]) (hn : RF ([r0, r1, r2, r3, r4, r5, r6, r7, r8].Nodup)) : LX n sl hl ⟨sl', [(0, b0), (1, b1), (2, b2), (3, b3), (4, b4), (5, b5), (6, b6), (7, b7), (8, b8)]⟩ := LX_mk hs hb hn

/-! ends -/
structure RL (tab : Tab) (sl : List (Nat × PV)) (hl : List (Nat × Block)) (rs : List ResultVar) (ps : List PV) : Prop where
  e : ∀ n, resL tab (mkX n sl hl 0) rs = some ps
theorem RL_nil (sl : List (Nat × PV)) (hl : List (Nat × Block)) : RL tab sl hl [] [] := ⟨fun _ => rfl⟩
theorem RL_tmp {t : Nat} {rs : List ResultVar} {p : PV} {ps : List PV} (h1 : SL sl t p) (h2 : RL tab sl hl rs ps) : RL tab sl hl (.tmp t :: rs) (p :: ps) := ⟨fun n => rl_tmp h1.e (h2.e n)⟩
theorem RL_cell {a : Nat} {t : TypeId} {rs : List ResultVar} {q p : PV} {ps : List PV} (h1 : SL sl a q) (h3 : LD tab hl t q p) (h2 : RL tab sl hl rs ps) : RL tab sl hl (.cell a t :: rs) (p :: ps) := ⟨fun n => rl_cell h1.e h3.e (h2.e n)⟩
theorem END_1 {r0 : ResultVar} {p : PV} {x r : GV} {ks : List Nat} (h1 : RL tab sl hl [r0] [p]) (h2 : AE hl p x ks true) (h3 : RF (x.isTup = false)) (h4 : EQ x r) : QA (EndR tab [r0] r) .ret n sl hl := er_ret (out1 (h1.e n) h2.e h3.e h4.e)
theorem END_N {r0 r1 : ResultVar} {rs : List ResultVar} {p q : PV} {ps : List PV} {gs : List GV} {r : GV} {ks : List Nat} (h1 : RL tab sl hl (r0 :: r1 :: rs) (p :: q :: ps)) (h2 : AEL hl (p :: q :: ps) gs ks true) (h4 : EQ (.tup gs) r) : QA (EndR tab (r0 :: r1 :: rs) r) .ret n sl hl := er_ret (outN (h1.e n) h2.e h4.e)
theorem END_0 {r : GV} (h4 : EQ (.tup []) r) : QA (EndR tab [] r) .ret n sl hl := by
  cases h4.e
  show outR tab _ [] = some (.tup [])
  simp [outR, resL, absL]
theorem QA_nr {r : GV} {rs : List ResultVar} (h : QA (EndR tab rs r) .ret n sl hl) : QA (EndR tab rs r) .normal n sl hl := h.run

/-! beginnings -/
structure SG (gs : List GV) (k : Nat) (sl : List (Nat × PV)) : Prop where
  e : ∀ t, lookS sl t = .undef ∨ ∃ x, (t - k < gs.length ∧ k ≤ t) ∧ gs[t - k]? = some x ∧ lookS sl t = .g x
theorem SG_nil (k : Nat) : SG [] k [] := ⟨fun _ => .inl rfl⟩
theorem SG_cons {g : GV} {gs : List GV} {k : Nat} {sl : List (Nat × PV)} (h : SG gs (k + 1) sl) : SG (g :: gs) k ((k, .g g) :: sl) := ⟨fun t => by
  by_cases e : t = k
  · subst e; exact .inr ⟨g, by simp, by simp, by simp [lookS]⟩
  · rcases h.e t with h1 | ⟨x, h1, h2, h3⟩
    · left; simp [lookS, e, h1]
    · right
      refine ⟨x, by simp; omega, ?_, by simp [lookS, e, h3]⟩
      rw [show t - k = (t - (k + 1)) + 1 by omega]; simpa using h2⟩
theorem Con_of_TX (lv : Nat → List Nat) (ht : TabOk P tab) {f : FuncId} {fn : Func} {c : Code} {m : Nat} {rs : List ResultVar} {gs : List GV} {r : GV} {sl : List (Nat × PV)} (hf : P.funcs[f]? = some fn) (hb : fn.body = some c) (hn : fn.ntmps = m) (hrs : fn.results.toList = rs) (he : ∀ args w, (callFunc f args).run P w = .ok (.enter f args) w) (hl : (Nat.ble gs.length m && Nat.blt m 65536) = true)
    (hs : SG gs 0 sl) (h : TX lv P tab c m sl [] (EndR tab rs r)) : Con P f gs r := by
  rw [Bool.and_eq_true] at hl
  have hm : m < 65536 := Nat.le_of_ble_eq_true hl.2
  refine Con_of_T' ht hf hb hn hrs he (Nat.le_of_ble_eq_true hl.1) hm (T.le ?_ h.run)
  rintro w0 a w ⟨μ, who, h⟩
  refine ⟨μ, who, h.size, fun t => ?_, h.dfr, fun i => h.blk i, fun i j b d d' hi => by simp [mkX, lookH, Block.live] at hi, fun i b d hi => by simp [mkX, lookH, Block.live] at hi, h.keep, fun t x hp => (by rw [show pinned (mkX m sl [] 0).n t = false from pinned_lt hm t] at hp; cases hp)⟩
  rcases hs.e t with e | ⟨x, h1, h2, h3⟩
  · have : (mkX m sl [] 0).slots t = .undef := e
    rw [this]; exact .undef _
  · have h4 : (mkX m sl [] 0).slots t = .g x := h3
    have h5 := h.slot t
    simp only [startA, Nat.sub_zero] at h5 h2
    rw [h2] at h5
    rw [h4]; exact h5
end

/-! a law: behind its first region the arguments are data that lie still -/
structure RBS (sl : List (Nat × PV)) (hl : List (Nat × Block)) (sl2 : List (Nat × PV)) : Prop where
  e : ∀ t, lookS sl2 t = .undef ∨ ∃ x, lookS sl2 t = .g x ∧ view (lookH hl) 6 (lookS sl t) = some x
theorem RBS_nil (sl : List (Nat × PV)) (hl : List (Nat × Block)) : RBS sl hl [] := ⟨fun _ => .inl rfl⟩
theorem RBS_cons {sl : List (Nat × PV)} {hl : List (Nat × Block)} {sl2 : List (Nat × PV)} {t : Nat} {p : PV} {x : GV} (h1 : SL sl t p) (h2 : VW hl 6 p x) (h : RBS sl hl sl2) : RBS sl hl ((t, .g x) :: sl2) := ⟨fun s => by
  by_cases e : s = t
  · subst e; exact .inr ⟨x, by simp [lookS], by rw [h1.e]; exact h2.e⟩
  · rcases h.e s with h3 | ⟨y, h3, h4⟩
    · left; simp [lookS, e, h3]
    · right; exact ⟨y, by simp [lookS, e, h3], h4⟩⟩
def LawQ (n2 : Nat) (sl2 : List (Nat × PV)) : Exit → AState → Prop := fun e S => e = .normal ∧ ∃ n sl hl, S = mkX n sl hl 0 ∧ n2 % 65536 = n % 65536 ∧ RBS sl hl sl2
theorem QA_law {n n2 : Nat} {sl sl2 : List (Nat × PV)} {hl : List (Nat × Block)} (h0 : RF (n2 % 65536 = n % 65536)) (h : RBS sl hl sl2) : QA (LawQ n2 sl2) .normal n sl hl := ⟨rfl, n, sl, hl, rfl, h0.e, h⟩
theorem Gives.base {w w1 w2 : World} {r : GV} {e : Ending} (hk : Keeps [] w w1) (h : Gives w1 r e w2) : Gives w r e w2 := by
  obtain ⟨v, F, h1, h2, h3, h4, h5, h6⟩ := h
  exact ⟨v, F, h1, h2, h3, h4, fun b hb => Nat.le_trans hk.size (h5 b hb), hk.trans h6⟩
theorem Con_law (lv : Nat → List Nat) {P : Program} {tab : Tab} (ht : TabOk P tab) {f : FuncId} {fn : Func} {c0 c1 : Code} {m n2 : Nat} {rs : List ResultVar} {gs : List GV} {r : GV} {sl sl2 : List (Nat × PV)} (hf : P.funcs[f]? = some fn) (hb : fn.body = some (.seq c0 c1)) (hn : fn.ntmps = m) (hrs : fn.results.toList = rs) (he : ∀ args w, (callFunc f args).run P w = .ok (.enter f args) w) (hl : (Nat.ble gs.length m && Nat.blt m 65536) = true)
    (hs : SG gs 0 sl) (h0 : TX lv P tab c0 m sl [] (LawQ n2 sl2)) (h1 : TX lv P tab c1 n2 sl2 [] (EndR tab rs r)) : Con P f gs r := by
  rw [Bool.and_eq_true] at hl
  have hm : m < 65536 := Nat.le_of_ble_eq_true hl.2
  have hle := Nat.le_of_ble_eq_true hl.1
  subst hn; subst hrs
  refine ⟨he, fun w args hlen hg => calls_of_wp hf hb ?_⟩
  have h := start_rel hle hm w args hlen hg
  have hrel : Rel w (mkX fn.ntmps sl [] 0) { tmps := args.toArray ++ Array.replicate (fn.ntmps - args.toArray.size) Go.undef, defers := [] } w := by
    refine ⟨_, _, h.size, fun t => ?_, h.dfr, fun i => h.blk i, fun i j b d d' hi => by simp [mkX, lookH, Block.live] at hi, fun i b d hi => by simp [mkX, lookH, Block.live] at hi, h.keep, fun t x hp => (by rw [show pinned (mkX fn.ntmps sl [] 0).n t = false from pinned_lt hm t] at hp; cases hp)⟩
    rcases hs.e t with e | ⟨x, h1, h2, h3⟩
    · have : (mkX fn.ntmps sl [] 0).slots t = .undef := e
      rw [this]; exact .undef _
    · have h4 : (mkX fn.ntmps sl [] 0).slots t = .g x := h3
      have h5 := h.slot t
      simp only [startA, Nat.sub_zero] at h5 h2
      rw [h2] at h5
      rw [h4]; exact h5
  refine wp_seq (wp_mono (h0.run w _ w hrel) ?_)
  rintro e a' w' ⟨S', ⟨rfl, n', sl', hl', rfl, hn', hrb⟩, μ', who', h2⟩
  have key : ∀ t x, lookS sl2 t = .g x → ∃ F, GRep w' F (a'.tmps.getD t Go.undef) x := fun t x hx => by
    rcases hrb.e t with e | ⟨y, h3, h4⟩
    · rw [e] at hx; cases hx
    · rw [h3] at hx; cases hx
      exact view_ok h2 6 (h2.slot t) h4
  have r2 : Rel w' (mkX n2 sl2 [] 0) a' w' := by
    refine ⟨fun _ => none, fun _ => none, h2.size.trans hn'.symm, fun t => ?_, h2.dfr, fun i => trivial, fun i j b d d' hi => by simp [mkX, lookH, Block.live] at hi, fun i b d hi => by simp [mkX, lookH, Block.live] at hi, Keeps.refl _ _, fun t x _ hx => key t x hx⟩
    rcases hrb.e t with e | ⟨y, h3, h4⟩
    · have : (mkX n2 sl2 [] 0).slots t = .undef := e
      rw [this]; exact .undef _
    · obtain ⟨F, hF⟩ := key t y h3
      have : (mkX n2 sl2 [] 0).slots t = .g y := h3
      rw [this]
      exact .g _ _ F hF (by rintro b _ ⟨id, d, hl, _⟩; simp [mkX, lookH, Block.live] at hl)
  refine wp_mono (h1.run w' a' w' r2) ?_
  rintro e a'' w'' ⟨S'', q1, μ3, who3, r3⟩
  cases e with
  | normal => obtain ⟨v, q1, q2⟩ := out_ok ht r3 q1; exact ⟨r3.dfr, v, q1, q2.base h2.keep⟩
  | ret => obtain ⟨v, q1, q2⟩ := out_ok ht r3 q1; exact ⟨r3.dfr, v, q1, q2.base h2.keep⟩
  | exit | goto | panic | outgrown => exact q1.elim

end Go.Proofs.Ytdkjeodenbffnaa
