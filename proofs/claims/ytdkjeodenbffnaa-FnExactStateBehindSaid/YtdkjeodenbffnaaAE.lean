/- Abstract states: elements of arrays by value, arrays and texts held against each other, signs of texts. Over any program; the table is right ('TabOk'). -/
import Derived.Test.YtdkjeodenbffnaaA14
import Derived.Laws.StructEq
namespace Go.Proofs.Ytdkjeodenbffnaa
open Go.RowKit
open Shp

section
variable {P : Program} {tab : Tab} {w0 : World} {S : AState} {a : Act} {w : World} {μ : Lay} {who : Nat → Option Nat}

/-! x[i] of an array's value, or of a text -/

def aIdx (tab : Tab) (t : TypeId) (x i : PV) : Option (PV × List (Nat × Block)) :=
  match tab t, i with
  | some ti, .g (.int _ n) => match ti.kind with
    | .ar m E => match tab E with
      | none => none
      | some ei => if ei.kind.agg then none else if 0 ≤ n ∧ n < (m : Int) then (match x with
        | .agg cs => (match cs[n.toNat * ei.size]? with | some y => some (y, []) | none => none)
        | .g (.agg gs) => (match gs[n.toNat * ei.size]? with | some y => some (.g y, []) | none => none)
        | _ => none) else none
    | .str => match x with
      | .g (.str s) => if 0 ≤ n then (match s[n.toNat]? with | some b => some (.g (.int .u8 b.toNat), []) | none => none) else none
      | _ => none
    | _ => none
  | _, _ => none

theorem op_idx (ht : TabOk P tab) (h : RelAt w0 S a w μ who) {o : Oper} {t : TypeId} {x i : Operand} (ho : o.op = .index t x i) {pv : PV} {ws : List (Nat × Block)} (hx : aIdx tab t (S.ev tab 0 x) (S.ev tab 0 i) = some (pv, ws)) :
    Does P w0 a (S.writes ws) pv ((execOp a.eval o).run P w) := by
  have h1 := h.ev tab 0 x
  have h2 := h.ev tab 0 i
  unfold aIdx at hx
  split at hx
  · rename_i ti k n hti ei1
    rw [ei1] at h2
    have hiv := h2.int_inv
    obtain ⟨inf, z, d, hto⟩ := ht t ti hti
    have hkd := hto.kind
    split at hx
    · rename_i m E hk
      rw [hk] at hkd
      have hdd : d = .array m E := hkd
      subst hdd
      split at hx
      · cases hx
      rename_i ei hE
      split at hx
      · cases hx
      rename_i hag
      have hag' : ei.kind.agg = false := by simpa using hag
      split at hx
      · rename_i hn
        split at hx
        · rename_i cs e1
          rw [e1] at h1
          obtain ⟨vs, hv, hl, hone, he⟩ := h1.agg_inv
          split at hx
          · rename_i y hy
            simp only [Option.some.injEq, Prod.mk.injEq] at hx
            obtain ⟨rfl, rfl⟩ := hx
            obtain ⟨hi, rfl⟩ := List.getElem?_eq_some_iff.1 hy
            have hi' : n.toNat * ei.size < vs.length := by omega
            refine Does.pure h (v := vs[n.toNat * ei.size]) ?_ (he _ hi)
            unfold execOp
            simp [ho, hv, hiv, Instr.index, asIntOf, run_underlying hto.desc, hn.1, hn.2, part, ht.agg hE, hag', ht.sizeOf hE, hi']
          · cases hx
        · rename_i gs e1
          rw [e1] at h1
          obtain ⟨F, hg, hd⟩ := h1.g_inv
          split at hx
          · rename_i y hy
            simp only [Option.some.injEq, Prod.mk.injEq] at hx
            obtain ⟨rfl, rfl⟩ := hx
            obtain ⟨hi, rfl⟩ := List.getElem?_eq_some_iff.1 hy
            generalize hu : a.eval x = u at hg
            cases hg with
            | atom x hx => simp [GV.atom] at hx
            | agg vs gs Fs hv hF h1' hg' hh =>
              have hi' : n.toNat * ei.size < vs.length := by omega
              refine Does.pure h (v := vs[n.toNat * ei.size]) ?_ (.g _ _ _ (hh _ hi) fun b hb => hd b (getElem_mem_flatten _ hb))
              unfold execOp
              simp [ho, hu, hiv, Instr.index, asIntOf, run_underlying hto.desc, hn.1, hn.2, part, ht.agg hE, hag', ht.sizeOf hE, hi']
          · cases hx
        · cases hx
      · cases hx
    · rename_i hk
      rw [hk] at hkd
      have hdd : d = .string := hkd
      subst hdd
      split at hx
      · rename_i s e1
        rw [e1] at h1
        split at hx
        · rename_i hn
          split at hx
          · rename_i b hb
            simp only [Option.some.injEq, Prod.mk.injEq] at hx
            obtain ⟨rfl, rfl⟩ := hx
            have hv : a.eval x = .string s := by
              obtain ⟨F, hg, _⟩ := h1.g_inv
              generalize a.eval x = u at hg
              cases hg with
              | atom _ _ => rfl
            refine Does.pure h (v := .int .u8 b.toNat) ?_ (PRep.of_int _ _ _ _ _)
            unfold execOp
            simp [ho, hv, hiv, Instr.index, asIntOf, run_underlying hto.desc, hn, hb]
          · cases hx
        · cases hx
      · cases hx
    · cases hx
  · cases hx

/-! arrays of numbers -/

def intsG (k : IntKind) : List GV → Option (List Int)
  | [] => some []
  | .int k' n :: gs => if k' = k then (match intsG k gs with | some ns => some (n :: ns) | none => none) else none
  | _ => none
def intsP (k : IntKind) : List PV → Option (List Int)
  | [] => some []
  | .g (.int k' n) :: ps => if k' = k then (match intsP k ps with | some ns => some (n :: ns) | none => none) else none
  | _ => none
def aggInts (k : IntKind) : PV → Option (List Int)
  | .agg cs => intsP k cs
  | .g (.agg gs) => intsG k gs
  | _ => none
def arrOf (tab : Tab) (t : TypeId) : Option (Nat × IntKind) :=
  match tab t with
  | some ti => match ti.kind with
    | .ar n E => match tab E with
      | some ei => match ei.kind with
        | .int k => if ei.size = 1 then some (n, k) else none
        | _ => none
      | none => none
    | _ => none
  | none => none

theorem arrOf_ok (ht : TabOk P tab) {t : TypeId} {n : Nat} {k : IntKind} (h : arrOf tab t = some (n, k)) : ∃ E, P.underlying t = some (.array n E) ∧ P.underlying E = some (.int k) ∧ ∀ w, (sizeOf E).run P w = .ok 1 w := by
  unfold arrOf at h
  split at h
  · rename_i ti hti
    split at h
    · rename_i m E hk
      split at h
      · rename_i ei hE
        split at h
        · rename_i k' hk'
          split at h
          · rename_i hs
            simp only [Option.some.injEq, Prod.mk.injEq] at h
            obtain ⟨rfl, rfl⟩ := h
            obtain ⟨_, _, d, h1⟩ := ht t ti hti
            obtain ⟨_, _, d', h2⟩ := ht E ei hE
            have h3 := h1.kind; rw [hk] at h3
            have h4 := h2.kind; rw [hk'] at h4
            have h5 : d = .array m E := h3
            have h6 : d' = .int k' := h4
            exact ⟨E, by rw [← h5]; exact h1.desc, by rw [← h6]; exact h2.desc, fun w => by rw [ht.sizeOf hE, hs]⟩
          · cases h
        · cases h
      · cases h
    · cases h
  · cases h

theorem intsG_ok {k : IntKind} : ∀ {gs : List GV} {ns : List Int}, intsG k gs = some ns → gs = ns.map (GV.int k)
  | [], ns, h => by simp [intsG] at h; subst h; rfl
  | .int k' n :: gs, ns, h => by
    unfold intsG at h
    split at h
    · rename_i e
      split at h
      · rename_i ms hm
        simp only [Option.some.injEq] at h; subst h; subst e
        rw [List.map_cons, intsG_ok hm]
      · cases h
    · cases h
  | .bool _ :: _, _, h | .str _ :: _, _, h | .nilp :: _, _, h | .fn _ _ :: _, _, h | .box _ :: _, _, h | .sl _ _ :: _, _, h | .agg _ :: _, _, h | .tup _ :: _, _, h => by simp [intsG] at h
theorem intsP_ok {k : IntKind} : ∀ {ps : List PV} {ns : List Int}, intsP k ps = some ns → ps = ns.map fun n => PV.g (.int k n)
  | [], ns, h => by simp [intsP] at h; subst h; rfl
  | .g (.int k' n) :: gs, ns, h => by
    unfold intsP at h
    split at h
    · rename_i e
      split at h
      · rename_i ms hm
        simp only [Option.some.injEq] at h; subst h; subst e
        rw [List.map_cons, intsP_ok hm]
      · cases h
    · cases h
  | .g (.bool _) :: _, _, h | .g (.str _) :: _, _, h | .g .nilp :: _, _, h | .g (.fn _ _) :: _, _, h | .g (.box _) :: _, _, h | .g (.sl _ _) :: _, _, h | .g (.agg _) :: _, _, h | .g (.tup _) :: _, _, h => by simp [intsP] at h
  | .undef :: _, _, h | .none_ :: _, _, h | .nils _ :: _, _, h | .own _ _ _ :: _, _, h | .ptr _ _ :: _, _, h | .eptr _ _ _ :: _, _, h | .iptr _ :: _, _, h | .agg _ :: _, _, h | .tup _ :: _, _, h | .fn _ _ :: _, _, h => by simp [intsP] at h

theorem GRep.agg_inv' {w : World} {F : List Nat} {v : Value} {gs : List GV} (h : GRep w F v (.agg gs)) : ∃ (vs : List Value) (Fs : List (List Nat)), v = .agg vs.toArray ∧ F = Fs.flatten ∧ (∀ v ∈ vs, v.oneCell' = true) ∧ ∃ (hv : vs.length = gs.length) (hF : Fs.length = gs.length), ∀ i (hi : i < gs.length), GRep w (Fs[i]'(hF ▸ hi)) (vs[i]'(hv ▸ hi)) gs[i] := by
  cases h with
  | atom x hx => simp [GV.atom] at hx
  | agg vs gs Fs hv hF h1 hg hh => exact ⟨vs, Fs, rfl, rfl, h1, hv, hF, hh⟩
theorem aggInts_ok {h : Nat → Block} {v : Value} {p : PV} {k : IntKind} {ns : List Int} (hv : PRep w μ h v p) (he : aggInts k p = some ns) : v = .agg (ns.map (Value.int k)).toArray := by
  unfold aggInts at he
  split at he
  · have e := intsP_ok he
    obtain ⟨vs, rfl, hl, _, h3⟩ := hv.agg_inv
    congr 2
    apply List.ext_getElem
    · rw [hl, e]; simp
    · intro i h1 h2
      have h4 := h3 i (by omega)
      simp only [e, List.getElem_map] at h4
      rw [List.getElem_map]
      exact h4.int_inv
  · have e := intsG_ok he
    obtain ⟨F, hg, _⟩ := hv.g_inv
    obtain ⟨vs, Fs, rfl, _, _, hl, hF, h3⟩ := hg.agg_inv'
    congr 2
    apply List.ext_getElem
    · rw [hl, e]; simp
    · intro i h1 h2
      have h4 := h3 i (by omega)
      simp only [e, List.getElem_map] at h4
      rw [List.getElem_map]
      exact h4.int_inv
  · cases he

theorem all_range_ints : ∀ (xs ys : List Int), xs.length = ys.length → ((List.range xs.length).all fun i => xs.getD i 0 == ys.getD i 0) = (xs == ys)
  | [], [], _ => rfl
  | x :: xs, y :: ys, h => by
    have ih := all_range_ints xs ys (by simpa using h)
    rw [List.length_cons, List.range_succ_eq_map, List.all_cons, List.all_map]
    simp only [List.getD_cons_zero, Function.comp_def, List.getD_cons_succ, ih]
    simp [List.cons_beq_cons]
  | [], _ :: _, h => by simp at h
  | _ :: _, [], h => by simp at h

theorem run_equalIn_ints (w : World) (d : Nat) (t e : TypeId) (n : Nat) (k : IntKind) (ht : P.underlying t = some (.array n e)) (he : P.underlying e = some (.int k)) (hsz : ∀ w, (sizeOf e).run P w = .ok 1 w)
    (xs ys : List Int) (hx : xs.length = n) (hy : ys.length = n) :
    (Op.equalIn (d + 2) t (.agg (xs.map (Value.int k)).toArray) (.agg (ys.map (Value.int k)).toArray)).run P w = .ok (xs == ys) w := by
  rw [← all_range_ints xs ys (hx.trans hy.symm), hx, List.range_eq_range', Op.equalIn]
  simp only [Sem.run_bind, run_underlying ht, Result.andThen_ok, hsz, Std.Legacy.Range.forIn_eq_forIn_range', Std.Legacy.Range.size, Nat.sub_zero, Nat.add_sub_cancel, Nat.div_one]
  have hl : ∀ i ∈ List.range' 0 n 1, i < n := fun i hi => by simpa using (List.mem_range'_1.1 hi).2
  generalize List.range' 0 n 1 = l at hl ⊢
  induction l with
  | nil => simp
  | cons i l ih =>
    have hi : i < n := hl i (by simp)
    have px : (part e (xs.map (Value.int k)).toArray (i * 1)).run P w = .ok (.int k (xs.getD i 0)) w := by
      simp [part, isAgg, run_underlying he, List.getD, List.getElem?_eq_getElem (show i < xs.length by omega)]
    have py : (part e (ys.map (Value.int k)).toArray (i * 1)).run P w = .ok (.int k (ys.getD i 0)) w := by
      simp [part, isAgg, run_underlying he, List.getD, List.getElem?_eq_getElem (show i < ys.length by omega)]
    have pe : (Op.equalIn (d + 1) e (.int k (xs.getD i 0)) (.int k (ys.getD i 0))).run P w = .ok (xs.getD i 0 == ys.getD i 0) w := run_equalIn_int w d e k k _ _ he
    simp only [List.forIn_cons, Sem.run_bind, px, py, pe, Result.andThen_ok, List.all_cons]
    cases hb : (xs.getD i 0 == ys.getD i 0)
    · simp
    · simp only [Bool.not_true, Bool.false_eq_true, if_false, Sem.run_pure, Result.andThen_ok, Bool.true_and]
      exact ih fun j hj => hl j (by simp [hj])

theorem run_eqGuardIn_ints (w : World) (d : Nat) (t e : TypeId) (n : Nat) (k : IntKind) (ht : P.underlying t = some (.array n e)) (he : P.underlying e = some (.int k)) (hsz : ∀ w, (sizeOf e).run P w = .ok 1 w)
    (xs ys : List Int) (hx : xs.length = n) (hy : ys.length = n) :
    (Op.eqGuardIn (d + 2) t (.agg (xs.map (Value.int k)).toArray) (.agg (ys.map (Value.int k)).toArray)).run P w = .ok false w := by
  rw [Op.eqGuardIn]
  simp only [Sem.run_bind, run_underlying ht, Result.andThen_ok, hsz, Std.Legacy.Range.forIn_eq_forIn_range', Std.Legacy.Range.size, Nat.sub_zero, Nat.add_sub_cancel, Nat.div_one]
  have hl : ∀ i ∈ List.range' 0 n 1, i < n := fun i hi => by simpa using (List.mem_range'_1.1 hi).2
  generalize List.range' 0 n 1 = l at hl ⊢
  induction l with
  | nil => simp
  | cons i l ih =>
    have hi : i < n := hl i (by simp)
    have px : (part e (xs.map (Value.int k)).toArray (i * 1)).run P w = .ok (.int k (xs.getD i 0)) w := by
      simp [part, isAgg, run_underlying he, List.getD, List.getElem?_eq_getElem (show i < xs.length by omega)]
    have py : (part e (ys.map (Value.int k)).toArray (i * 1)).run P w = .ok (.int k (ys.getD i 0)) w := by
      simp [part, isAgg, run_underlying he, List.getD, List.getElem?_eq_getElem (show i < ys.length by omega)]
    have pe : (Op.eqGuardIn (d + 1) e (.int k (xs.getD i 0)) (.int k (ys.getD i 0))).run P w = .ok false w := by
      rw [Op.eqGuardIn]; simp [run_underlying he]
    simp only [List.forIn_cons, Sem.run_bind, px, py, pe, Result.andThen_ok]
    simp only [Bool.false_eq_true, if_false, Sem.run_pure, Result.andThen_ok]
    exact ih fun j hj => hl j (by simp [hj])

theorem run_eqGuard_ints (w : World) (op : BinOp) (t e : TypeId) (x y : Operand) (n : Nat) (k : IntKind) (ht : P.underlying t = some (.array n e)) (he : P.underlying e = some (.int k)) (hsz : ∀ w, (sizeOf e).run P w = .ok 1 w)
    (xs ys : List Int) (hx : xs.length = n) (hy : ys.length = n) :
    (eqGuard op t x y (.agg (xs.map (Value.int k)).toArray) (.agg (ys.map (Value.int k)).toArray)).run P w = .ok () w := by
  have h := run_eqGuardIn_ints w 9998 t e n k ht he hsz xs ys hx hy
  have h' : (Op.eqGuardIn Op.maxDepth t (.agg (xs.map (Value.int k)).toArray) (.agg (ys.map (Value.int k)).toArray)).run P w = .ok false w := h
  have e0 : op = .eql ∨ op = .neq ∨ (op ≠ .eql ∧ op ≠ .neq) := by cases op <;> simp
  unfold eqGuard
  rcases e0 with rfl | rfl | ⟨e1, e2⟩
  · simp only [Bool.not_true, Bool.false_eq_true, if_false, Sem.run_bind, run_program, Result.andThen_ok]
    simp only [Sem.run_ite, h', Result.andThen_ok, Bool.false_eq_true, if_false, Sem.run_pure, ite_self, Sem.run_bind]
  · simp only [Bool.not_true, Bool.false_eq_true, if_false, Sem.run_bind, run_program, Result.andThen_ok]
    simp only [Sem.run_ite, h', Result.andThen_ok, Bool.false_eq_true, if_false, Sem.run_pure, ite_self, Sem.run_bind]
  · cases op <;> first | exact absurd rfl e1 | exact absurd rfl e2 | simp

/-! texts -/
def strOp (op : BinOp) (x y : ByteArray) : Option GV :=
  match op with
  | .eql => some (.bool (x.toList == y.toList))
  | .neq => some (.bool (!(x.toList == y.toList)))
  | .add => if x.size + y.size ≤ 9223372036854775807 then some (.str (x ++ y)) else none
  | _ => none

/-- Two values joined: numbers, truths, arrays of numbers, texts. -/
def aBinF (tab : Tab) (op : BinOp) (t : TypeId) (x y : PV) : Option (PV × List (Nat × Block)) :=
  match aBinE tab op t x y with
  | some r => some r
  | none => match x, y with
    | .g (.str a), .g (.str b) => (match strOp op a b with | some v => some (.g v, []) | none => none)
    | x, y => match arrOf tab t with
      | some (n, k) => match aggInts k x, aggInts k y with
        | some xs, some ys => if xs.length = n ∧ ys.length = n then (match op with | .eql => some (.g (.bool (xs == ys)), []) | .neq => some (.g (.bool (!(xs == ys))), []) | _ => none) else none
        | _, _ => none
      | none => none
theorem aBinF_of {op : BinOp} {t : TypeId} {x y : PV} {r : PV × List (Nat × Block)} (h : aBinE tab op t x y = some r) : aBinF tab op t x y = some r := by
  unfold aBinF; rw [h]

theorem op_binF (ht : TabOk P tab) (h : RelAt w0 S a w μ who) {o : Oper} {op : BinOp} {t t' : TypeId} {x y : Operand} (ho : o.op = .binOp op t x y t') {pv : PV} {ws : List (Nat × Block)} (hx : aBinF tab op t (S.ev tab 0 x) (S.ev tab 0 y) = some (pv, ws)) :
    Does P w0 a (S.writes ws) pv ((execOp a.eval o).run P w) := by
  have h1 := h.ev tab 0 x
  have h2 := h.ev tab 0 y
  unfold aBinF at hx
  split at hx
  · rename_i r hr
    cases hx
    exact op_binE ht h ho hr
  · split at hx
    · rename_i s1 s2 e1 e2
      rw [e1] at h1; rw [e2] at h2
      have v1 := h1.str_inv
      have v2 := h2.str_inv
      split at hx
      · rename_i v hv
        simp only [Option.some.injEq, Prod.mk.injEq] at hx
        obtain ⟨rfl, rfl⟩ := hx
        have hg : (eqGuard op t x y (.string s1) (.string s2)).run P w = .ok () w := by unfold eqGuard; split <;> simp
        have hat : v.atom = true := by
          unfold strOp at hv
          split at hv
          · cases hv; rfl
          · cases hv; rfl
          · split at hv
            · cases hv; rfl
            · cases hv
          · cases hv
        have hrun : (binOp op t (.string s1) (.string s2)).run P w = .ok (ofAtom v) w := by
          unfold strOp at hv
          split at hv
          · cases hv; simp [binOp, Op.stringOp, ofAtom]
          · cases hv; simp [binOp, Op.stringOp, ofAtom]
          · split at hv
            · rename_i hl
              cases hv
              have hl' : ¬ (((s1.size + s2.size : Nat) : Int) > IntKind.i64.max) := by
                have e : IntKind.i64.max = 9223372036854775807 := by decide
                rw [e]; omega
              simp only [binOp, Op.stringOp, if_neg hl', ofAtom, Sem.run_pure]
            · cases hv
          · cases hv
        refine Does.pure h (v := ofAtom v) ?_ (.g _ _ [] (.atom v hat) (by simp))
        unfold execOp; simp [ho, v1, v2, hg, hrun]
      · cases hx
    · split at hx
      · rename_i n k hA
        obtain ⟨E, hu, hE, hsz⟩ := arrOf_ok ht hA
        split at hx
        · rename_i xs ys ex ey
          have v1 := aggInts_ok h1 ex
          have v2 := aggInts_ok h2 ey
          split at hx
          · rename_i hl
            have hg : ∀ op, (eqGuard op t x y (.agg (xs.map (Value.int k)).toArray) (.agg (ys.map (Value.int k)).toArray)).run P w = .ok () w := fun op => run_eqGuard_ints w op t E x y n k hu hE hsz xs ys hl.1 hl.2
            have he := run_equalIn_ints w 9998 t E n k hu hE hsz xs ys hl.1 hl.2
            split at hx
            · simp only [Option.some.injEq, Prod.mk.injEq] at hx
              obtain ⟨rfl, rfl⟩ := hx
              refine Does.pure h (v := .bool (xs == ys)) ?_ (PRep.of_bool _ _ _ _)
              unfold execOp
              simp only [ho, v1, v2, Sem.run_bind, hg, Result.andThen_ok, run_eql_struct, he, Sem.run_pure]
            · simp only [Option.some.injEq, Prod.mk.injEq] at hx
              obtain ⟨rfl, rfl⟩ := hx
              refine Does.pure h (v := .bool (!(xs == ys))) ?_ (PRep.of_bool _ _ _ _)
              unfold execOp
              simp only [ho, v1, v2, Sem.run_bind, hg, Result.andThen_ok, run_neq_struct, he, Sem.run_pure]
            · cases hx
          · cases hx
        · cases hx
      · cases hx

/-! the greater and the lesser -/
def aMM (mx : Bool) (p q : PV) : Option (PV × List (Nat × Block)) :=
  match p, q with
  | .g (.int .i64 a), .g (.int .i64 b) => some (.g (.int .i64 (if mx then max a b else min a b)), [])
  | _, _ => none
theorem op_max (h : RelAt w0 S a w μ who) {o : Oper} {x y : Operand} {tys : Array TypeId} (ho : o.op = .call { callee := .builtin .max, args := #[x, y], argTypes := tys }) {pv : PV} {ws : List (Nat × Block)} (hx : aMM true (S.ev tab 0 x) (S.ev tab 0 y) = some (pv, ws)) :
    Does P w0 a (S.writes ws) pv ((execOp a.eval o).run P w) := by
  have h1 := h.ev tab 0 x
  have h2 := h.ev tab 0 y
  unfold aMM at hx
  split at hx
  · rename_i m n e1 e2
    rw [e1] at h1; rw [e2] at h2
    simp only [Option.some.injEq, Prod.mk.injEq] at hx
    obtain ⟨rfl, rfl⟩ := hx
    refine Does.pure h (v := .int .i64 (max m n)) ?_ (PRep.of_int _ _ _ _ _)
    have e : (if n > m then n else m) = max m n := by split <;> omega
    unfold execOp
    simp only [ho, resolve, invoke, builtin, Sem.run_bind, Sem.run_pure, Result.andThen_ok, List.map_toArray, List.map_cons, List.map_nil, h1.int_inv, h2.int_inv, run_max_int2, e]
  · cases hx
theorem op_min (h : RelAt w0 S a w μ who) {o : Oper} {x y : Operand} {tys : Array TypeId} (ho : o.op = .call { callee := .builtin .min, args := #[x, y], argTypes := tys }) {pv : PV} {ws : List (Nat × Block)} (hx : aMM false (S.ev tab 0 x) (S.ev tab 0 y) = some (pv, ws)) :
    Does P w0 a (S.writes ws) pv ((execOp a.eval o).run P w) := by
  have h1 := h.ev tab 0 x
  have h2 := h.ev tab 0 y
  unfold aMM at hx
  split at hx
  · rename_i m n e1 e2
    rw [e1] at h1; rw [e2] at h2
    simp only [Option.some.injEq, Prod.mk.injEq] at hx
    obtain ⟨rfl, rfl⟩ := hx
    refine Does.pure h (v := .int .i64 (min m n)) ?_ (PRep.of_int _ _ _ _ _)
    have e : (if n < m then n else m) = min m n := by split <;> omega
    unfold execOp
    simp only [ho, resolve, invoke, builtin, Sem.run_bind, Sem.run_pure, Result.andThen_ok, List.map_toArray, List.map_cons, List.map_nil, h1.int_inv, h2.int_inv, run_min_int2, e]
  · cases hx

end
end Go.Proofs.Ytdkjeodenbffnaa
