/- Texts out of bytes, abstract states: the operation and the walk's rule. Over any program; the table is right ('TabOk'). -/
import Derived.Test.YtachnjinfdagjaaDoorKF
import Derived.Lib.ConvBytes
set_option linter.unusedSimpArgs false
set_option linter.unusedVariables false
namespace Go.Proofs.YtachnjinfdagjaaDoor
open Go.RowKit
open Shp
def pushF (c : Value) (s : ByteArray) : Sem (ForInStep ByteArray) :=
  match c with
  | Value.int IntKind.u8 n => pure (ForInStep.yield (s.push (UInt8.ofNat n.toNat)))
  | _ => do
    stuck (α := PUnit) "bytesToString: byte expected"
    pure (ForInStep.yield s)
theorem ba_app (acc : ByteArray) (b : UInt8) (bs : List UInt8) : acc.push b ++ ⟨bs.toArray⟩ = acc ++ ⟨(b :: bs).toArray⟩ := by
  apply ByteArray.ext
  simp [ByteArray.data_append, ByteArray.data_push]
theorem run_push {P : Program} {w : World} : ∀ (bs : List UInt8) (acc : ByteArray), (forIn (m := Sem) (bs.map fun b => Value.int .u8 (b.toNat : Int)) acc pushF).run P w = .ok (acc ++ ⟨bs.toArray⟩) w
  | [], acc => by
    have : acc ++ ⟨([] : List UInt8).toArray⟩ = acc := by apply ByteArray.ext; simp [ByteArray.data_append]
    rw [this]; simp
  | b :: bs, acc => by
    simp only [List.map_cons, List.forIn_cons, Sem.run_bind]
    have e : pushF (Value.int .u8 (b.toNat : Int)) acc = pure (ForInStep.yield (acc.push b)) := by simp [pushF]
    rw [e]
    simp only [Sem.run_pure, Result.andThen_ok]
    rw [run_push bs (acc.push b), ba_app]
theorem run_bytes {P : Program} {w : World} (p : Addr) (bs : List UInt8) (cap : Nat) (hc : ∀ (j : Nat) (v : Value), (bs.map fun b => Value.int .u8 (b.toNat : Int))[j]? = some v → w.cell? (p.add j) = some v) : (Conv.bytesToString (.slice (some p) bs.length cap)).run P w = .ok (.string ⟨bs.toArray⟩) w := by
  have h1 := run_loadCells_list (P := P) w p _ hc
  rw [List.length_map] at h1
  unfold Conv.bytesToString
  simp only [Sem.run_bind, h1, Result.andThen_ok, List.forIn_toArray]
  have h2 := run_push (P := P) (w := w) bs ByteArray.empty
  have e0 : ByteArray.empty ++ ⟨bs.toArray⟩ = (⟨bs.toArray⟩ : ByteArray) := by apply ByteArray.ext; simp
  rw [e0] at h2
  show ((Sem.run P (forIn _ ByteArray.empty pushF) w).andThen _) = _
  rw [h2]
  simp
def byteG (b : UInt8) : GV := .int .u8 (b.toNat : Int)
theorem grep_bytes {P : Program} {w : World} {F : List Nat} {v : Value} {bs : List UInt8} (h : GRep w F v (.sl 1 (bs.map byteG))) : (Conv.bytesToString v).run P w = .ok (.string ⟨bs.toArray⟩) w := by
  obtain ⟨a, cap, els, Fs, rfl, _, hs⟩ := h.slice
  have hlen : els.length = bs.length := by have := hs.hv; simpa using this
  have hel : ∀ k (hk : k < bs.length), els[k]'(by omega) = .int .u8 ((bs[k]).toNat : Int) := fun k hk => by
    have h1 := hs.h k (by simpa using hk)
    simp only [List.getElem_map, byteG] at h1
    exact (PRep.g (μ := fun _ => none) (h := fun _ => .free) _ _ _ h1 (by rintro b _ ⟨id, d, h2, _⟩; cases h2)).int_inv
  cases a with
  | none =>
    have h0 := hs.nil rfl
    have h1 := hs.le
    have : bs = [] := List.eq_nil_of_length_eq_zero (by simp at h1; omega)
    subst this
    simp [Conv.bytesToString]
    rfl
  | some p =>
    rw [show (bs.map byteG).length = bs.length by simp]
    refine run_bytes p bs cap fun j v hj => ?_
    rw [List.getElem?_map] at hj
    cases hb : bs[j]? with
    | none => rw [hb] at hj; cases hj
    | some b =>
      rw [hb] at hj
      simp only [Option.map_some, Option.some.injEq] at hj
      subst hj
      obtain ⟨hjl, hjb⟩ := List.getElem?_eq_some_iff.1 hb
      have h4 := hel j hjl
      rw [hjb] at h4
      have h3 := (hs.hc j (by omega)).2.2 0 (by rw [h4]; simp [Value.cells])
      simp only [h4] at h3
      have h5 : w.cell? (p.add j) = some (Value.int .u8 (b.toNat : Int)) ∧ w.frozen? (p.add j) = false := by simpa [sAt, Value.cells] using h3
      exact h5.1
def bytesT (tab : Tab) (s t : TypeId) : Bool :=
  match tab s, tab t with
  | some si, some di => match si.kind, di.kind with
    | .sl E, .str => match tab E with
      | some ei => match ei.kind with
        | .int .u8 => true
        | _ => false
      | none => false
    | _, _ => false
  | _, _ => false
theorem op_bytes {P : Program} {tab : Tab} {w0 : W0} {S : AState} {a : Act} {w : World} {μ : Lay} {who : Nat → Option Nat} (ht : TabOk P tab) (h : RelAt w0 S a w μ who) {o : Oper} {src dst : TypeId} {x : Operand} (ho : o.op = .convert src dst x) (hT : bytesT tab src dst = true) {id lo len : Nat} {dp : Bool} {xs : List GV} {bs : List UInt8}
    (hx : S.ev tab 0 x = .own id lo len) (hb : S.heap id = .arr 1 dp xs) (hv : (xs.drop lo).take len = bs.map byteG) (hle : lo + len ≤ xs.length) : Does P w0 a (S.writes []) (.g (.str ⟨bs.toArray⟩)) ((execOp a.eval o).run P w) := by
  have h1 := h.ev tab 0 x
  rw [hx] at h1
  obtain ⟨F, hg, _⟩ := h.view hb (h1.own_inv.2.2 _ _ _ hb) hle
  rw [hv] at hg
  have hr := grep_bytes (P := P) hg
  unfold bytesT at hT
  split at hT
  · rename_i si di hsi hdi
    split at hT
    · rename_i E hk1 hk2
      split at hT
      · rename_i ei hE
        split at hT
        · rename_i hk3
          obtain ⟨_, _, d1, t1⟩ := ht _ _ hsi
          obtain ⟨_, _, d2, t2⟩ := ht _ _ hdi
          obtain ⟨_, _, d3, t3⟩ := ht _ _ hE
          have f1 := t1.kind; rw [hk1] at f1
          have f2 := t2.kind; rw [hk2] at f2
          have f3 := t3.kind; rw [hk3] at f3
          obtain ⟨rfl, _⟩ := f1
          have f2 : d2 = .string := f2
          have f3 : d3 = .int .u8 := f3
          subst f2; subst f3
          obtain ⟨ad, cap, els, Fs, e1, _⟩ := hg.slice
          refine Does.pure h (v := .string ⟨bs.toArray⟩) ?_ (.g _ _ [] (.atom (.str _) rfl) (by simp))
          unfold execOp
          simp only [ho, Sem.run_bind, convert, run_underlying t1.desc, run_underlying t2.desc, run_underlying t3.desc, Result.andThen_ok, e1, Sem.run_pure]
          rw [e1] at hr
          simp only [hr, Result.andThen_ok, Sem.run_pure]
        · cases hT
      · cases hT
    · cases hT
  · cases hT
section
variable {tab : Tab} {sl : List (Nat × PV)} {hl : List (Nat × Block)} {P : Program} {ops : Array Oper} {n nx i d : Nat} {dr : Bool} {acc : List (List Nat × List Nat)} {ty : TypeId} {pos : String} {af : Array Edge} {os : List Oper}
theorem eff_bytes (ht : TabOk P tab) {S : AState} {o : Oper} {src dst : TypeId} {x : Operand} (ho : o.op = .convert src dst x) (hT : bytesT tab src dst = true) {nid id lo len : Nat} {dp : Bool} {xs : List GV} {bs : List UInt8}
    (hx : S.ev tab 0 x = .own id lo len) (hb : S.heap id = .arr 1 dp xs) (hv : (xs.drop lo).take len = bs.map byteG) (hle : lo + len ≤ xs.length) : EffTo P tab nid o S (.g (.str ⟨bs.toArray⟩)) [] := by
  intro S' h1 h2 w0 a w μ who hr
  rw [ho] at h1
  have mx : x ∈ (Op.convert src dst x).operands.toList := by simp [Op.operands]
  have hx' : S'.ev tab 0 x = .own id lo len := by rw [← ev_loc (h1 x mx)]; exact hx
  have hb' : S'.heap id = .arr 1 dp xs := by
    rw [← h2 id (by
      unfold tch
      rw [ho]
      refine List.mem_append.2 (.inr ?_)
      simp only [List.mem_flatMap]
      exact ⟨x, mx, by rw [hx]; simp [dids1]⟩)]
    exact hb
  exact op_bytes ht hr ho hT hx' hb' hv hle
structure BYT (xs : List GV) (lo len : Nat) (bs : List UInt8) : Prop where
  e : (xs.drop lo).take len = bs.map byteG
  l : lo + len ≤ xs.length
theorem BYT_one {n : Int} (h : NU (0 ≤ n ∧ n < 256)) : BYT [GV.int .u8 n] 0 1 [UInt8.ofNat n.toNat] := ⟨by
  have e := h.e
  have h2 : n.toNat < 256 := by omega
  have : ((UInt8.ofNat n.toNat).toNat : Int) = n := by rw [UInt8.toNat_ofNat_of_lt' h2]; omega
  show [GV.int .u8 n] = [byteG (UInt8.ofNat n.toNat)]
  unfold byteG
  rw [this], by simp⟩
variable {K : AState → List (List Nat × List Nat) → Prop}
theorem X_bytes (ht : TabOk P tab) {s t : TypeId} {x : Operand} {id lo len : Nat} {dp : Bool} {xs : List GV} {bs : List UInt8} (hd : RF (hasB d n = true)) (hx : EV sl tab 0 x (.own id lo len)) (hb : HL hl id (.arr 1 dp xs)) (hT : RF (bytesT tab s t = true)) (hv : BYT xs lo len bs)
    (h4 : AF dr P tab ops (i + 1) os n ((d, .g (.str ⟨bs.toArray⟩)) :: sl) hl nx (acc ++ [tcX tab i n sl hl nx ⟨some d, .convert s t x, ty, pos, af, none⟩ []]) K) : AF dr P tab ops i (⟨some d, .convert s t x, ty, pos, af, none⟩ :: os) n sl hl nx acc K := by
  refine AX_step (pv := .g (.str ⟨bs.toArray⟩)) (ws := []) rfl (has_X hd) (.inr (.inr (eff_bytes (o := ⟨some d, .convert s t x, ty, pos, af, none⟩) ht rfl hT.e (hx.e n hl nx) (hb.e : (mkX n sl hl nx).heap id = _) hv.e hv.l))) ?_
  rw [mkX_nx, writes_XL, put_XL]
  exact h4
end
theorem keeps_bytes (w : World) (e : TypeId) (s : ByteArray) : Keeps [] w (Lib.bytesWorld w e s) := by
  have h1 : (Lib.bytesWorld w e s).os = w.os := by simp [Lib.bytesWorld, World.freeze, World.alloc, World.drew, -World.alloc_eq, -World.drew_eq]
  have h2 : (Lib.bytesWorld w e s).tape = w.tape := by simp [Lib.bytesWorld, World.freeze, World.alloc, World.drew, -World.alloc_eq, -World.drew_eq]
  have h3 : (Lib.bytesWorld w e s).output = w.output := by simp [Lib.bytesWorld, World.freeze, World.alloc, World.drew, -World.alloc_eq, -World.drew_eq]
  exact ⟨h1, h2, h3, by rw [Lib.bytesWorld_size]; omega, fun k hk _ => Lib.bytesWorld_at_old w e s k hk⟩
def strBT (tab : Tab) (s t : TypeId) : Bool :=
  match tab s, tab t with
  | some si, some di => match si.kind, di.kind with
    | .str, .sl E => match tab E with
      | some ei => match ei.kind with
        | .int .u8 => true
        | _ => false
      | none => false
    | _, _ => false
  | _, _ => false
theorem flatC_bytes : ∀ l : List UInt8, flatC (l.map fun b => Value.int .u8 (b.toNat : Int)) = l.map fun b => Value.int .u8 (b.toNat : Int)
  | [] => rfl
  | b :: l => by
    have ih := flatC_bytes l
    simp only [flatC, List.map_cons, List.flatMap_cons] at ih ⊢
    rw [ih]; rfl
theorem op_strB {P : Program} {tab : Tab} {w0 : W0} {S : AState} {a : Act} {w : World} {μ : Lay} {who : Nat → Option Nat} (ht : TabOk P tab) (h : RelAt w0 S a w μ who) {o : Oper} {src dst : TypeId} {x : Operand} (ho : o.op = .convert src dst x) (hT : strBT tab src dst = true) {nid : Nat} (hn : S.heap nid = .free) {s : ByteArray}
    (hx : S.ev tab 0 x = .g (.str s)) (hs : s.size ≤ 1099511627776) : Does P w0 a (S.writes [(nid, .arr 1 true (s.data.toList.map byteG))]) (.own nid 0 s.size) ((execOp a.eval o).run P w) := by
  have h1 := h.ev tab 0 x
  rw [hx] at h1
  have e1 := h1.str_inv
  unfold strBT at hT
  split at hT
  · rename_i si di hsi hdi
    split at hT
    · rename_i E hk1 hk2
      split at hT
      · rename_i ei hE
        split at hT
        · rename_i hk3
          obtain ⟨_, _, d1, t1⟩ := ht _ _ hsi
          obtain ⟨_, _, d2, t2⟩ := ht _ _ hdi
          obtain ⟨_, _, d3, t3⟩ := ht _ _ hE
          have f1 := t1.kind; rw [hk1] at f1
          have f2 := t2.kind; rw [hk2] at f2
          have f3 := t3.kind; rw [hk3] at f3
          obtain ⟨rfl, _⟩ := f2
          have f1 : d1 = .string := f1
          have f3 : d3 = .int .u8 := f3
          subst f1; subst f3
          have hrun := Lib.run_convert_string_bytes (P := P) w src dst E s t1.desc t2.desc t3.desc
          have hl : (s.data.toList.map byteG).length = s.size := by rw [List.length_map]; exact Array.length_toList
          have hcge := grownCap_ge w s.size 0 E
          have hcle := grownCap_le_maxLen w s.size 0 E (by unfold maxLen; omega)
          unfold maxLen at hcle
          have hsz : (Lib.bytesCells w E s).size = grownCap w s.size 0 E := by
            have : s.data.size = s.size := rfl
            simp [Lib.bytesCells, this]; omega
          have hfl := flatC_bytes s.data.toList
          have hrr : RowRep (Lib.bytesWorld w E s) (Lib.bytesCells w E s) 0 1 (s.data.toList.map byteG) (List.replicate s.data.toList.length []) (s.data.toList.map fun b => Value.int .u8 (b.toNat : Int)) := by
            refine rowRep_new (by omega) (by simp) (by simp) (fun v hv => ?_) (fun v hv => ?_) (fun y hy => ?_) (fun k hk => ?_) ?_ (fun i hi => ?_)
            · obtain ⟨b, _, rfl⟩ := List.mem_map.1 hv; rfl
            · obtain ⟨b, _, rfl⟩ := List.mem_map.1 hv
              intro u hu
              simp [Value.cells] at hu
              subst hu; rfl
            · obtain ⟨b, _, rfl⟩ := List.mem_map.1 hy; rfl
            · simp only [List.getElem_replicate, List.getElem_map]
              exact .atom (.int .u8 _) rfl
            · rw [hl, hsz]; omega
            · rw [hfl] at hi ⊢
              have hi' : i < s.data.size := by simpa using hi
              rw [Nat.zero_add]
              rw [Lib.bytesCells, Array.getElem?_append_left (by simpa using hi')]
              simp only [Array.getElem?_map, List.getElem?_map, Array.getElem?_toList]
          have hnil : (List.replicate s.data.toList.length ([] : List Nat)).flatten = [] := flatten_nils (by simp)
          obtain ⟨μ', q1, q2⟩ := h.newArr (t := ⟨E, true⟩) (nid := nid) (b := w.heap.size) (d := 0) (cap := grownCap w s.size 0 E) (dp := true) hn (keeps_bytes w E s) (Nat.le_refl _) (by omega) (Lib.bytesWorld_at_new w E s) hrr (by rw [hnil]; simp) (by rw [hnil]; simp) (by rw [hl]; exact hcge) (by rw [hsz]; omega) hcle
          rw [hl] at q2
          have hexec : (execOp a.eval o).run P w = .ok (.value (.slice (some ⟨w.heap.size, 0, none⟩) s.size (grownCap w s.size 0 E))) (Lib.bytesWorld w E s) := by
            unfold execOp; simp only [ho, e1, Sem.run_bind, hrun, Result.andThen_ok, Sem.run_pure]
          rw [hexec]
          exact ⟨μ', who, q1, q2⟩
        · cases hT
      · cases hT
    · cases hT
  · cases hT
section
variable {tab : Tab} {sl : List (Nat × PV)} {hl : List (Nat × Block)} {P : Program} {ops : Array Oper} {n nx i d : Nat} {dr : Bool} {acc : List (List Nat × List Nat)} {ty : TypeId} {pos : String} {af : Array Edge} {os : List Oper}
theorem eff_strB (ht : TabOk P tab) {S : AState} {o : Oper} {src dst : TypeId} {x : Operand} (ho : o.op = .convert src dst x) (hT : strBT tab src dst = true) {nid : Nat} (hn : S.heap nid = .free) {s : ByteArray}
    (hx : S.ev tab 0 x = .g (.str s)) (hs : s.size ≤ 1099511627776) : EffTo P tab nid o S (.own nid 0 s.size) [(nid, .arr 1 true (s.data.toList.map byteG))] := by
  intro S' h1 h2 w0 a w μ who hr
  rw [ho] at h1
  have mx : x ∈ (Op.convert src dst x).operands.toList := by simp [Op.operands]
  have hx' : S'.ev tab 0 x = .g (.str s) := by rw [← ev_loc (h1 x mx)]; exact hx
  have hn' : S'.heap nid = .free := by
    rw [← h2 nid (by
      unfold tch
      exact List.mem_append.2 (.inl (List.mem_map.2 ⟨0, by simp, rfl⟩)))]
    exact hn
  exact op_strB ht hr ho hT hn' hx' hs
structure SBY (s : ByteArray) (xs : List GV) (m : Nat) : Prop where
  e : s.data.toList.map byteG = xs
  m : s.size = m
variable {K : AState → List (List Nat × List Nat) → Prop}
theorem X_strB (ht : TabOk P tab) {kk m : Nat} {s t : TypeId} {x : Operand} {b : ByteArray} {xs : List GV} (hT : RF (strBT tab s t = true)) (hd : RF (hasB d n = true)) (hx : EV sl tab 0 x (.g (.str b))) (hk : NID (nx + 8 * i) kk) (hf : HL hl kk .free) (hb : SBY b xs m) (hn : NU (m ≤ 1099511627776))
    (h4 : AF dr P tab ops (i + 1) os n ((d, .own kk 0 m) :: sl) ((kk, .arr 1 true xs) :: hl) nx (acc ++ [tcX tab i n sl hl nx ⟨some d, .convert s t x, ty, pos, af, none⟩ (idsW [(kk, .arr 1 true xs)])]) K) : AF dr P tab ops i (⟨some d, .convert s t x, ty, pos, af, none⟩ :: os) n sl hl nx acc K := by
  cases hk.e
  have e1 := hb.e
  have e2 := hb.m
  subst e1; subst e2
  refine AX_step (pv := .own (nx + 8 * i) 0 b.size) (ws := [(nx + 8 * i, .arr 1 true (b.data.toList.map byteG))]) rfl (has_X hd) (.inr (.inr (eff_strB (o := ⟨some d, .convert s t x, ty, pos, af, none⟩) ht rfl hT.e (hf.e : (mkX n sl hl nx).heap _ = _) (hx.e n hl nx) hn.e))) ?_
  rw [writes_XL, put_XL]
  exact h4
end
end Go.Proofs.YtachnjinfdagjaaDoor

