/- Abstract states: what an operation looks at. No program in sight; no conditions. -/
import Derived.Test.YtdkjeodenbffnaaA17
namespace Go.Proofs.Ytdkjeodenbffnaa
open Go.RowKit
open Shp

/-- The blocks that a value names. -/
def dids1 : PV → List Nat
  | .own id _ _ => [id]
  | .ptr id _ => [id]
  | .eptr id _ _ => [id]
  | .agg cs => cs.flatMap fun | .own id _ _ => [id] | _ => []
  | _ => []

/-- The blocks that a callee may be told of. -/
def vids (h : Nat → Block) : Nat → PV → List Nat
  | 0, _ => []
  | n + 1, p => match p with
    | .own id _ _ => [id]
    | .ptr id _ => id :: (match h id with | .box cs => cs.flatMap (vids h n) | _ => [])
    | .agg cs => cs.flatMap (vids h n)
    | .fn _ cs => cs.flatMap (vids h n)
    | _ => []

/-- The blocks that an operation looks at. -/
def tch (tab : Tab) (nid : Nat) (o : Oper) (S : AState) : List Nat :=
  (List.range 8).map (nid + ·) ++ match o.op with
  | .call { callee := .value f, args := args, argTypes := tys } => (S.args tab args.toList tys.toList).flatMap (vids S.heap 6) ++ (match asFn (S.ev tab 0 f) with | some (_, caps) => caps.flatMap (vids S.heap 6) | none => [])
  | op => op.operands.toList.flatMap fun x => dids1 (S.ev tab 0 x)

section
variable {h h' : Nat → Block}

theorem killL_loc {ks : List Nat} {id : Nat} (e : h id = h' id) : killL h ks id = killL h' ks id := by
  induction ks generalizing h h' with
  | nil => exact e
  | cons k ks ih => exact ih (by unfold upd; split <;> simp [e])

theorem absorb_loc {p : PV} (e : ∀ id ∈ dids1 p, h id = h' id) : absorb h p = absorb h' p := by
  cases p with
  | own id lo len => simp only [absorb]; rw [e id (by simp [dids1])]
  | _ => rfl

theorem absL_loc {f : (Nat → Block) → PV → Option (GV × List Nat × Bool)} {D : PV → List Nat} (hf : ∀ {h h' p}, (∀ id ∈ D p, h id = h' id) → f h p = f h' p) : ∀ (ps : List PV) {h h' : Nat → Block}, (∀ p ∈ ps, ∀ id ∈ D p, h id = h' id) → absL f h ps = absL f h' ps
  | [], h, h', _ => rfl
  | p :: ps, h, h', e => by
    unfold absL
    rw [hf (e p (by simp))]
    cases f h' p with
    | none => rfl
    | some r =>
      obtain ⟨v, k, d⟩ := r
      simp only
      rw [absL_loc hf ps (h := killL h k) (h' := killL h' k) fun q hq id hid => killL_loc (e q (by simp [hq]) id hid)]

def dcell : PV → List Nat
  | .own id _ _ => [id]
  | _ => []

theorem absorb_locc {p : PV} (e : ∀ id ∈ dcell p, h id = h' id) : absorb h p = absorb h' p := by
  cases p with
  | own id lo len => simp only [absorb]; rw [e id (by simp [dcell])]
  | _ => rfl

theorem dids1_agg {cs : List PV} {q : PV} (hq : q ∈ cs) {id : Nat} (hid : id ∈ dcell q) : id ∈ dids1 (.agg cs) := by
  simp only [dids1, List.mem_flatMap]
  refine ⟨q, hq, ?_⟩
  cases q <;> simp_all [dcell]

theorem absE_loc {p : PV} (e : ∀ id ∈ dids1 p, h id = h' id) : absE h p = absE h' p := by
  cases p with
  | agg cs =>
    simp only [absE]
    rw [absL_loc (f := absorb) (h := h) (h' := h') (D := dcell) (fun e => absorb_locc e) cs (fun q hq id hid => e id (dids1_agg hq hid))]
  | own id lo len => exact absorb_loc e
  | _ => rfl

theorem srcE_loc {n : Nat} {p : PV} (e : ∀ id ∈ dids1 p, h id = h' id) : srcE h n p = srcE h' n p := by
  cases p with
  | own id lo len => simp only [srcE]; rw [e id (by simp [dids1])]
  | g v => cases v <;> rfl
  | _ => rfl

theorem dstE_loc {n : Nat} {p : PV} (e : ∀ id ∈ dids1 p, h id = h' id) : dstE h n p = dstE h' n p := by
  cases p with
  | own id lo len => simp only [dstE]; rw [e id (by simp [dids1])]
  | _ => rfl

theorem isPtr_loc {p : PV} (e : ∀ id ∈ dids1 p, h id = h' id) : p.isPtr h = p.isPtr h' := by
  cases p with
  | ptr id off => simp only [PV.isPtr]; rw [e id (by simp [dids1])]
  | eptr id k j => simp only [PV.isPtr]; rw [e id (by simp [dids1])]
  | g v => cases v <;> rfl
  | _ => rfl


theorem aLoad_loc {tab : Tab} {t : TypeId} {p : PV} (e : ∀ id ∈ dids1 p, h id = h' id) : aLoad tab h t p = aLoad tab h' t p := by
  unfold aLoad
  cases tab t with
  | none => rfl
  | some ti =>
    cases p with
    | ptr id off => simp only; rw [e id (by simp [dids1])]
    | eptr id k j => simp only; rw [e id (by simp [dids1])]
    | g v => cases v <;> rfl
    | _ => rfl

theorem aStore_loc {tab : Tab} {nid : Nat} {t : TypeId} {p v : PV} (e : ∀ id ∈ dids1 p, h id = h' id) (e2 : ∀ id ∈ dids1 v, h id = h' id) (e3 : h nid = h' nid) : aStore tab nid h t p v = aStore tab nid h' t p v := by
  unfold aStore
  cases tab t with
  | none => rfl
  | some ti =>
    cases p with
    | ptr id off => simp only; rw [e id (by simp [dids1])]
    | eptr id k j => cases j <;> simp only; rw [e id (by simp [dids1]), e3, absE_loc e2]
    | _ => rfl

theorem aSlice_loc {tab : Tab} {t : TypeId} {p : PV} {lo hi : Option PV} (e : ∀ id ∈ dids1 p, h id = h' id) : aSlice tab h t p lo hi = aSlice tab h' t p lo hi := by
  unfold aSlice
  cases p with
  | own id l0 len => simp only; rw [e id (by simp [dids1])]
  | g v => cases v <;> rfl
  | _ => rfl

theorem aField_loc {tab : Tab} {s : TypeId} {p : PV} {f : Nat} (e : ∀ id ∈ dids1 p, h id = h' id) : aField tab h s p f = aField tab h' s p f := by
  unfold aField
  rw [isPtr_loc e]

theorem aIndex_loc {tab : Tab} {t : TypeId} {p i : PV} (e : ∀ id ∈ dids1 p, h id = h' id) : aIndex tab h t p i = aIndex tab h' t p i := by
  unfold aIndex
  cases p with
  | own id l0 len => simp only; rw [e id (by simp [dids1])]
  | ptr id off => simp only; rw [isPtr_loc e]
  | eptr id k j => simp only; rw [isPtr_loc e]
  | g v => cases v <;> rfl
  | _ => rfl

theorem aLen_loc {tab : Tab} {t : TypeId} {p : PV} (e : ∀ id ∈ dids1 p, h id = h' id) : aLen tab h t p = aLen tab h' t p := by
  unfold aLen
  cases tab t with
  | none => rfl
  | some ti =>
    obtain ⟨sz, k, z⟩ := ti
    cases p with
    | own id l0 len => cases k <;> first | rfl | (simp only; rw [e id (by simp [dids1])])
    | g v => cases k <;> cases v <;> rfl
    | _ => cases k <;> rfl

theorem viewL_loc {f g : PV → Option GV} : ∀ (ps : List PV), (∀ p ∈ ps, f p = g p) → viewL f ps = viewL g ps
  | [], _ => rfl
  | p :: ps, e => by
    unfold viewL
    rw [e p (by simp), viewL_loc ps fun q hq => e q (by simp [hq])]

theorem view_loc : ∀ (n : Nat) (p : PV), (∀ id ∈ vids h n p, h id = h' id) → view h n p = view h' n p
  | 0, _, _ => rfl
  | n + 1, p, e => by
    unfold view
    cases p with
    | own id lo len => simp only; rw [e id (by simp [vids])]
    | ptr id off =>
      cases off with
      | zero =>
        have e1 : h id = h' id := e id (by simp [vids])
        simp only
        rw [← e1]
        cases hid : h id with
        | box cs =>
          simp only
          rw [viewL_loc cs fun q hq => view_loc n q fun j hj => e j (by simp only [vids, hid, List.mem_cons, List.mem_flatMap]; exact .inr ⟨q, hq, hj⟩)]
        | _ => rfl
      | succ k => rfl
    | agg cs => simp only; rw [viewL_loc cs fun q hq => view_loc n q fun j hj => e j (by simp only [vids, List.mem_flatMap]; exact ⟨q, hq, hj⟩)]
    | fn f cs => simp only; rw [viewL_loc cs fun q hq => view_loc n q fun j hj => e j (by simp only [vids, List.mem_flatMap]; exact ⟨q, hq, hj⟩)]
    | _ => rfl

end

theorem ev_loc {S S' : AState} {tab : Tab} {ty : TypeId} {x : Operand} (e : ∀ t, x = .tmp t → S.slots t = S'.slots t) : S.ev tab ty x = S'.ev tab ty x := by
  cases x <;> simp only [AState.ev]
  exact e _ rfl

theorem args_loc {S S' : AState} {tab : Tab} : ∀ (xs : List Operand) (ts : List TypeId), (∀ x ∈ xs, ∀ t, x = .tmp t → S.slots t = S'.slots t) → S.args tab xs ts = S'.args tab xs ts
  | [], ts, _ => by cases ts <;> rfl
  | x :: xs, [], e => by simp only [AState.args]; rw [ev_loc (e x (by simp)), args_loc xs [] fun y hy => e y (by simp [hy])]
  | x :: xs, t :: ts, e => by simp only [AState.args]; rw [ev_loc (e x (by simp)), args_loc xs ts fun y hy => e y (by simp [hy])]

theorem ev_dids {S : AState} {tab : Tab} {ty : TypeId} {x : Operand} : ∀ id ∈ dids1 (S.ev tab ty x), id ∈ dids1 (S.ev tab 0 x) := by
  intro id hid
  cases x with
  | tmp t => exact hid
  | const v =>
    simp only [AState.ev] at hid
    unfold cst at hid
    split at hid <;> first | (simp [dids1] at hid; done) | skip
    split at hid <;> first | (simp [dids1] at hid; done) | skip
    split at hid <;> first | (simp [dids1] at hid; done) | skip
    split at hid <;> first | (simp [dids1] at hid; done) | skip
    split at hid <;> simp [dids1] at hid
  | global g => simp [AState.ev, dids1] at hid
  | func f => simp [AState.ev, dids1] at hid

/-- An operation comes to the same wherever what it looks at is the same. -/
theorem steps_loc {P : Program} {tab : Tab} {nid : Nat} {o : Oper} {S S' : AState} {pv : PV} {ws : List (Nat × Block)} (hs : StepsTo P tab nid o S pv ws) (h1 : ∀ x ∈ o.op.operands.toList, ∀ t, x = .tmp t → S.slots t = S'.slots t) (h2 : ∀ id ∈ tch tab nid o S, S.heap id = S'.heap id) : StepsTo P tab nid o S' pv ws := by
  have hnid : S.heap nid = S'.heap nid := h2 nid (by simp only [tch, List.mem_append, List.mem_map, List.mem_range]; exact .inl ⟨0, by omega, rfl⟩)
  have hev : ∀ ty x, x ∈ o.op.operands.toList → S.ev tab ty x = S'.ev tab ty x := fun ty x hx => ev_loc (h1 x hx)
  rcases hs with hs | hs
  · refine .inl ?_
    rw [← hs]
    by_cases hcall : ∃ f args tys, o.op = .call { callee := .value f, args := args, argTypes := tys }
    · obtain ⟨f, args, tys, ho⟩ := hcall
      unfold aOp
      simp only [ho, aCall]
    · have h3 : ∀ ty x, x ∈ o.op.operands.toList → ∀ id ∈ dids1 (S.ev tab ty x), S.heap id = S'.heap id := fun ty x hx id hid => h2 id (by
        unfold tch
        refine List.mem_append.2 (.inr ?_)
        split
        · rename_i f args tys ho; exact absurd ⟨f, args, tys, ho⟩ hcall
        · simp only [List.mem_flatMap]; exact ⟨x, hx, ev_dids id hid⟩)
      unfold aOp
      cases ho : o.op with
      | move x => rw [ho] at hev; simp only; rw [hev o.type x (by simp [Op.operands])]
      | assign x => rw [ho] at hev; simp only; rw [hev o.type x (by simp [Op.operands])]
      | pick c x y => rw [ho] at hev; simp only; rw [hev 0 c (by simp [Op.operands]), hev o.type x (by simp [Op.operands]), hev o.type y (by simp [Op.operands])]
      | alloc elem => simp only [aAlloc]; rw [hnid]
      | box elem x => rw [ho] at hev; simp only [aBox]; rw [hnid, hev elem x (by simp [Op.operands])]
      | build t parts =>
        rw [ho] at hev
        have e : ∀ ti : TI, (parts.toList.map fun (x : Nat × Operand) => (x.1, S.ev tab (partTy ti x.1) x.2)) = parts.toList.map fun (x : Nat × Operand) => (x.1, S'.ev tab (partTy ti x.1) x.2) := fun ti => List.map_congr_left fun x hx => by
          rw [hev (partTy ti x.1) x.2 (by simp only [Op.operands, List.toList_toArray]; exact List.mem_map.2 ⟨x, hx, rfl⟩)]
        simp only [e]
      | buildSlice t len parts =>
        rw [ho] at hev h3
        have hmem : ∀ x ∈ parts.toList, x.2 ∈ (Op.buildSlice t len parts).operands.toList := fun x hx => by simp only [Op.operands, List.toList_toArray]; exact List.mem_map.2 ⟨x, hx, rfl⟩
        have e : ∀ E : TypeId, (parts.toList.map fun (x : Nat × Operand) => S.ev tab E x.2) = parts.toList.map fun (x : Nat × Operand) => S'.ev tab E x.2 := fun E => List.map_congr_left fun x hx => hev E x.2 (hmem x hx)
        simp only [aLit]
        rw [hnid]
        cases elemTy tab t with
        | none => rfl
        | some Ee =>
          obtain ⟨E, n⟩ := Ee
          simp only
          rw [absL_loc (f := absE) (h := S.heap) (h' := S'.heap) (D := dids1) (fun e => absE_loc e) _ (fun q hq => by
            simp only [List.mem_map] at hq
            obtain ⟨x, hx, rfl⟩ := hq
            exact h3 E x.2 (hmem x hx)), e E]
      | load t x =>
        rw [ho] at hev h3
        have hm : x ∈ (Op.load t x).operands.toList := by simp [Op.operands]
        have h4 := h3 0 x hm
        simp only
        rw [← hev 0 x hm, aLoad_loc h4]
      | store t x y =>
        rw [ho] at hev h3
        have hm : x ∈ (Op.store t x y).operands.toList := by simp [Op.operands]
        have hm2 : y ∈ (Op.store t x y).operands.toList := by simp [Op.operands]
        have h4 := h3 0 x hm
        simp only
        rw [← hev 0 x hm, ← hev t y hm2, aStore_loc h4 (h3 t y hm2) hnid]
      | nilCheck x =>
        rw [ho] at hev h3
        have hm : x ∈ (Op.nilCheck x).operands.toList := by simp [Op.operands]
        simp only [aNil]
        rw [← hev 0 x hm, isPtr_loc (h3 0 x hm)]
      | binOp op t x y t' => rw [ho] at hev; simp only; rw [hev 0 x (by simp [Op.operands]), hev 0 y (by simp [Op.operands])]
      | unOp op t x => rw [ho] at hev; simp only; rw [hev 0 x (by simp [Op.operands])]
      | convert s d x => rw [ho] at hev; simp only; rw [hev 0 x (by simp [Op.operands])]
      | makeFunc fn first caps =>
        rw [ho] at hev
        cases fn with
        | func f =>
          simp only
          have e : caps.toList.map (S.ev tab 0) = caps.toList.map (S'.ev tab 0) := List.map_congr_left fun x hx => hev 0 x (by simp only [Op.operands, Array.toList_append]; exact List.mem_append.2 (.inr hx))
          rw [e]
        | _ => rfl
      | makeSlice t l c => rw [ho] at hev; simp only [aMakeE, aMake, aMakeS]; rw [hnid, hev 0 l (by simp [Op.operands]), hev 0 c (by simp [Op.operands])]
      | slice t x lo hi mx =>
        rw [ho] at hev h3
        have hm : x ∈ (Op.slice t x lo hi mx).operands.toList := by simp [Op.operands]
        have h4 := h3 0 x hm
        cases mx with
        | some m => rfl
        | none =>
          have e1 : lo.map (S.ev tab 0) = lo.map (S'.ev tab 0) := by
            cases lo with
            | none => rfl
            | some y => simp only [Option.map_some]; rw [hev 0 y (by simp [Op.operands])]
          have e2 : hi.map (S.ev tab 0) = hi.map (S'.ev tab 0) := by
            cases hi with
            | none => rfl
            | some y => simp only [Option.map_some]; rw [hev 0 y (by simp [Op.operands])]
          simp only
          rw [← e1, ← e2, ← hev 0 x hm, aSlice_loc h4]
      | fieldAddr s x f =>
        rw [ho] at hev h3
        have hm : x ∈ (Op.fieldAddr s x f).operands.toList := by simp [Op.operands]
        have h4 := h3 0 x hm
        simp only
        rw [← hev 0 x hm, aField_loc h4]
      | field t x f => rw [ho] at hev; simp only; rw [hev 0 x (by simp [Op.operands])]
      | indexAddr t x i =>
        rw [ho] at hev h3
        have hm : x ∈ (Op.indexAddr t x i).operands.toList := by simp [Op.operands]
        have h4 := h3 0 x hm
        simp only
        rw [← hev 0 x hm, ← hev 0 i (by simp [Op.operands]), aIndex_loc h4]
      | index t x i => rw [ho] at hev; simp only; rw [hev 0 x (by simp [Op.operands]), hev 0 i (by simp [Op.operands])]
      | extract x i => rw [ho] at hev; simp only; rw [hev 0 x (by simp [Op.operands])]
      | call c =>
        rw [ho] at hev h3
        obtain ⟨callee, args, tys⟩ := c
        simp only [aCall]
        split
        · rename_i x t h5 h6
          have hm : x ∈ (Op.call { callee := .builtin .len, args := args, argTypes := tys }).operands.toList := by simp only [Op.operands, Call.operands, Array.empty_append]; rw [h5]; simp
          have h4 := h3 0 x hm
          rw [← hev 0 x hm, aLen_loc h4]
        · rename_i x y t t' h5 h6
          have hm : x ∈ (Op.call { callee := .builtin .append, args := args, argTypes := tys }).operands.toList := by simp only [Op.operands, Call.operands, Array.empty_append]; rw [h5]; simp
          have hm2 : y ∈ (Op.call { callee := .builtin .append, args := args, argTypes := tys }).operands.toList := by simp only [Op.operands, Call.operands, Array.empty_append]; rw [h5]; simp
          split
          · simp only [aApp]
            rw [← hev t x hm, ← hev t y hm2, ← hnid]
            cases elemTy tab t with
            | none => rfl
            | some Ee =>
              obtain ⟨E, n⟩ := Ee
              simp only
              rw [srcE_loc (h := S.heap) (h' := S'.heap) (h3 t y hm2)]
              cases srcE S'.heap n (S.ev tab t y) with
              | none => rfl
              | some r =>
                obtain ⟨ys, ks2, d2⟩ := r
                simp only
                rw [dstE_loc (h := killL S.heap ks2) (h' := killL S'.heap ks2) fun id hid => killL_loc (h3 t x hm id hid)]
          · rfl
        · rename_i x y h5
          have hm : x ∈ (Op.call { callee := .builtin .max, args := args, argTypes := tys }).operands.toList := by simp only [Op.operands, Call.operands, Array.empty_append]; rw [h5]; simp
          have hm2 : y ∈ (Op.call { callee := .builtin .max, args := args, argTypes := tys }).operands.toList := by simp only [Op.operands, Call.operands, Array.empty_append]; rw [h5]; simp
          rw [← hev 0 x hm, ← hev 0 y hm2]
        · rename_i x y h5
          have hm : x ∈ (Op.call { callee := .builtin .min, args := args, argTypes := tys }).operands.toList := by simp only [Op.operands, Call.operands, Array.empty_append]; rw [h5]; simp
          have hm2 : y ∈ (Op.call { callee := .builtin .min, args := args, argTypes := tys }).operands.toList := by simp only [Op.operands, Call.operands, Array.empty_append]; rw [h5]; simp
          rw [← hev 0 x hm, ← hev 0 y hm2]
        · rfl
      | _ => rfl
  · refine .inr ?_
    unfold CallTo at hs ⊢
    split at hs
    · rename_i f args tys ho
      obtain ⟨fid, caps, q1, gs, q2, r, q3, q4, q8, q5, q6, q7⟩ := hs
      rw [ho] at hev h1
      have hmf : f ∈ (Op.call { callee := .value f, args := args, argTypes := tys }).operands.toList := by simp [Op.operands, Call.operands]
      have hma : ∀ x ∈ args.toList, x ∈ (Op.call { callee := .value f, args := args, argTypes := tys }).operands.toList := fun x hx => by simp only [Op.operands, Call.operands, Array.toList_append]; exact List.mem_append.2 (.inr hx)
      have ht : ∀ id, id ∈ (S.args tab args.toList tys.toList).flatMap (vids S.heap 6) ++ caps.flatMap (vids S.heap 6) → S.heap id = S'.heap id := fun id hid => h2 id (by
        unfold tch
        simp only [ho, q1]
        exact List.mem_append.2 (.inr hid))
      have hargs := args_loc (tab := tab) args.toList tys.toList (fun x hx => h1 x (hma x hx))
      refine ⟨fid, caps, by rw [← hev 0 f hmf]; exact q1, gs, ?_, r, q3, q4, q8, ?_, q6, q7⟩
      · rw [← hargs, ← q2]
        refine (viewL_loc _ fun p hp => view_loc 6 p fun id hid => ht id ?_).symm
        rcases List.mem_append.1 hp with h5 | h5
        · exact List.mem_append.2 (.inl (List.mem_flatMap.2 ⟨p, h5, hid⟩))
        · exact List.mem_append.2 (.inr (List.mem_flatMap.2 ⟨p, h5, hid⟩))
      · simp only [List.all_eq_true, List.mem_range] at q5 ⊢
        intro i hi
        rw [← h2 (nid + i) (by simp only [tch, List.mem_append, List.mem_map, List.mem_range]; exact .inl ⟨i, by omega, rfl⟩)]
        exact q5 i hi
    · exact hs.elim

end Go.Proofs.Ytdkjeodenbffnaa
