/- Abstract states: the rules of a walk for memory and calls. Over any program; no conditions. -/
import Derived.Test.YtdkjeodenbffnaaA24
namespace Go.Proofs.Ytdkjeodenbffnaa
open Go.RowKit
open Shp

section
variable {dr : Bool} {P : Program} {tab : Tab} {ops : Array Oper} {i : Nat} {os : List Oper} {S : AState} {acc : List (List Nat × List Nat)} {K : AState → List (List Nat × List Nat) → Prop}
variable {d : Option Nat} {ty : TypeId} {pos : String} {af : Array Edge}

abbrev idsW (ws : List (Nat × Block)) : List Nat := ws.map (·.1)
abbrev tcW (tab : Tab) (i : Nat) (S : AState) (o : Oper) (ws : List Nat) : List Nat × List Nat := (tch tab (S.nx + 8 * i) o S, ws)

/-! boxes -/
theorem AX_alloc {elem : TypeId} {ti : TI} (h2 : S.has d = true) (ht : tab elem = some ti) (hf : S.heap (S.nx + 8 * i) = .free) (h4 : AX dr P tab ops (i + 1) os ((S.writes [(S.nx + 8 * i, .box ti.zero)]).put d (.ptr (S.nx + 8 * i) 0)) (acc ++ [tcW tab i S ⟨d, .alloc elem, ty, pos, af, none⟩ [S.nx + 8 * i]]) K) : AX dr P tab ops i (⟨d, .alloc elem, ty, pos, af, none⟩ :: os) S acc K :=
  AX_op h2 (by simp only [aOp, aAlloc, ht, hf, isFree, if_true]) h4
theorem AX_box {elem : TypeId} {x : Operand} {p : PV} (h2 : S.has d = true) (hx : S.ev tab elem x = p) (hp : p.val = true) (hf : S.heap (S.nx + 8 * i) = .free) (h4 : AX dr P tab ops (i + 1) os ((S.writes [(S.nx + 8 * i, .box p.cells)]).put d (.ptr (S.nx + 8 * i) 0)) (acc ++ [tcW tab i S ⟨d, .box elem x, ty, pos, af, none⟩ [S.nx + 8 * i]]) K) : AX dr P tab ops i (⟨d, .box elem x, ty, pos, af, none⟩ :: os) S acc K :=
  AX_op h2 (by simp only [aOp, aBox, hx, hp, hf, isFree, Bool.and_self, if_true]) h4

/-! loads -/
theorem AX_load {t : TypeId} {x : Operand} {p v : PV} (h2 : S.has d = true) (hx : S.ev tab 0 x = p) (hl : aLoad tab S.heap t p = some (v, [])) (h4 : AX dr P tab ops (i + 1) os (S.put d v) (acc ++ [tcW tab i S ⟨d, .load t x, ty, pos, af, none⟩ []]) K) : AX dr P tab ops i (⟨d, .load t x, ty, pos, af, none⟩ :: os) S acc K :=
  AX_op (ws := []) h2 (by simp only [aOp, hx, hl]) h4
theorem ld_box {h : Nat → Block} {t : TypeId} {ti : TI} {id off : Nat} {cs : List PV} {v : PV} (ht : tab t = some ti) (hb : h id = .box cs) (hv : aLoadBox ti off cs = some v) : aLoad tab h t (.ptr id off) = some (v, []) := by simp only [aLoad, ht, hb, hv, Option.map_some]
theorem ld_imm {h : Nat → Block} {t : TypeId} {ti : TI} {cs : List GV} {v : PV} (ht : tab t = some ti) (hv : aLoadImm ti cs = some v) : aLoad tab h t (.iptr cs) = some (v, []) := by simp only [aLoad, ht, hv, Option.map_some]
theorem ld_ibox {h : Nat → Block} {t : TypeId} {ti : TI} {cs : List GV} {v : PV} (ht : tab t = some ti) (hv : aLoadImm ti cs = some v) : aLoad tab h t (.g (.box cs)) = some (v, []) := by simp only [aLoad, ht, hv, Option.map_some]
theorem ld_elt {h : Nat → Block} {t : TypeId} {ti : TI} {id k j e : Nat} {dp : Bool} {xs : List GV} {x : GV} {v : PV} (ht : tab t = some ti) (hb : h id = .arr e dp xs) (hx : xs[k]? = some x) (hn : x.isTup = false) (hv : aLoadImm ti (x.cells.drop j) = some v) : aLoad tab h t (.eptr id k j) = some (v, []) := by simp only [aLoad, ht, hb, hx, hn, hv, Option.map_some, Bool.false_eq_true, if_false]

/-! stores -/
theorem AX_stbox {t : TypeId} {x y : Operand} {ti : TI} {id off : Nat} {cs : List PV} {p : PV} (h2 : S.has d = true) (hx : S.ev tab 0 x = .ptr id off) (hy : S.ev tab t y = p) (ht : tab t = some ti) (hb : S.heap id = .box cs) (hc : (p.val && p.cells.length == ti.size && decide (off + ti.size ≤ cs.length)) = true)
    (h4 : AX dr P tab ops (i + 1) os ((S.writes [(id, .box (setL cs off p.cells))]).put d .none_) (acc ++ [tcW tab i S ⟨d, .store t x y, ty, pos, af, none⟩ [id]]) K) : AX dr P tab ops i (⟨d, .store t x y, ty, pos, af, none⟩ :: os) S acc K :=
  AX_op h2 (by simp only [aOp, hx, hy, aStore, ht, hb, hc, if_true]) h4
/-- into an array of one's own, an atom -/
theorem AX_starr {t : TypeId} {x y : Operand} {ti : TI} {id k : Nat} {dp : Bool} {xs : List GV} {g : GV} (h2 : S.has d = true) (hx : S.ev tab 0 x = .eptr id k 0) (hy : S.ev tab t y = .g g) (ht : tab t = some ti) (hb : S.heap id = .arr 1 dp xs) (hs : ti.size = 1) (hg : g.atom = true) (hk : k < xs.length) (hf : S.heap (S.nx + 8 * i) = .free)
    (h4 : AX dr P tab ops (i + 1) os ((S.writes [(id, .arr 1 dp (xs.set k g))]).put d .none_) (acc ++ [tcW tab i S ⟨d, .store t x y, ty, pos, af, none⟩ [id]]) K) : AX dr P tab ops i (⟨d, .store t x y, ty, pos, af, none⟩ :: os) S acc K := by
  have e1 : g.ncells = 1 := by cases g <;> simp_all [GV.atom, GV.ncells]
  have e2 : g.isTup = false := by cases g <;> simp_all [GV.atom, GV.isTup]
  have e3 : g.flat = true := by cases g <;> simp_all [GV.atom, GV.flat]
  refine AX_op (ws := [(id, .arr 1 dp (xs.set k g))]) h2 ?_ h4
  have e4 : absE S.heap (.g g) = some (g, [], true) := by simp [absE, absorb, e3]
  simp only [aOp, hx, hy, aStore, ht, hb, hs, hk, hf, isFree, and_self, if_true, e4, e1, e2, List.not_mem_nil, not_false_eq_true, kills, List.map_nil, List.nil_append, Bool.and_true]

/-! addresses -/
theorem AX_nilc {x : Operand} {p : PV} (h2 : S.has d = true) (hx : S.ev tab 0 x = p) (hp : p.isPtr S.heap = true) (h4 : AX dr P tab ops (i + 1) os (S.put d p) (acc ++ [tcW tab i S ⟨d, .nilCheck x, ty, pos, af, none⟩ []]) K) : AX dr P tab ops i (⟨d, .nilCheck x, ty, pos, af, none⟩ :: os) S acc K :=
  AX_op (ws := []) h2 (by simp only [aOp, hx, aNil, hp, if_true]) h4
theorem AX_fld {s : TypeId} {x : Operand} {f : Nat} {ti fi : TI} {fs : List (Nat × TypeId)} {off : Nat} {ft : TypeId} {id o : Nat} {cs : List PV} (h2 : S.has d = true) (hx : S.ev tab 0 x = .ptr id o) (hb : S.heap id = .box cs) (ht : tab s = some ti) (hk : ti.kind = .st fs) (hf : fs[f]? = some (off, ft)) (hft : tab ft = some fi) (hs : Nat.beq fi.size 0 = false)
    (h4 : AX dr P tab ops (i + 1) os (S.put d (.ptr id (o + off))) (acc ++ [tcW tab i S ⟨d, .fieldAddr s x f, ty, pos, af, none⟩ []]) K) : AX dr P tab ops i (⟨d, .fieldAddr s x f, ty, pos, af, none⟩ :: os) S acc K := by
  have hs' : ¬ fi.size = 0 := by intro e; rw [e] at hs; simp at hs
  exact AX_op (ws := []) h2 (by simp only [aOp, hx, aField, ht, hk, hf, hft, hs', PV.isPtr, hb, if_false, if_true]) h4
theorem AX_fldi {s : TypeId} {x : Operand} {f : Nat} {ti fi : TI} {fs : List (Nat × TypeId)} {off : Nat} {ft : TypeId} {cs : List GV} (h2 : S.has d = true) (hx : S.ev tab 0 x = .iptr cs ∨ S.ev tab 0 x = .g (.box cs)) (ht : tab s = some ti) (hk : ti.kind = .st fs) (hf : fs[f]? = some (off, ft)) (hft : tab ft = some fi) (hs : Nat.beq fi.size 0 = false)
    (h4 : AX dr P tab ops (i + 1) os (S.put d (.iptr (cs.drop off))) (acc ++ [tcW tab i S ⟨d, .fieldAddr s x f, ty, pos, af, none⟩ []]) K) : AX dr P tab ops i (⟨d, .fieldAddr s x f, ty, pos, af, none⟩ :: os) S acc K := by
  have hs' : ¬ fi.size = 0 := by intro e; rw [e] at hs; simp at hs
  rcases hx with hx | hx
  · exact AX_op (ws := []) h2 (by simp only [aOp, hx, aField, ht, hk, hf, hft, hs', if_false]) h4
  · exact AX_op (ws := []) h2 (by simp only [aOp, hx, aField, ht, hk, hf, hft, hs', if_false]) h4
theorem AX_part {t : TypeId} {x : Operand} {f : Nat} {p v : PV} (h2 : S.has d = true) (hx : S.ev tab 0 x = p) (hv : aPart tab t p f = some (v, [])) (h4 : AX dr P tab ops (i + 1) os (S.put d v) (acc ++ [tcW tab i S ⟨d, .field t x f, ty, pos, af, none⟩ []]) K) : AX dr P tab ops i (⟨d, .field t x f, ty, pos, af, none⟩ :: os) S acc K :=
  AX_op (ws := []) h2 (by simp only [aOp, hx, hv]) h4
theorem AX_ixo {t : TypeId} {x y : Operand} {ti ei : TI} {E : TypeId} {id lo len e : Nat} {dp : Bool} {xs : List GV} {k : IntKind} {n : Int} (h2 : S.has d = true) (hx : S.ev tab 0 x = .own id lo len) (hy : S.ev tab 0 y = .g (.int k n)) (ht : tab t = some ti) (hk : ti.kind = .sl E) (hE : tab E = some ei) (hb : S.heap id = .arr e dp xs) (he : e = ei.size) (hn : 0 ≤ n ∧ n < (len : Int))
    (h4 : AX dr P tab ops (i + 1) os (S.put d (.eptr id (lo + n.toNat) 0)) (acc ++ [tcW tab i S ⟨d, .indexAddr t x y, ty, pos, af, none⟩ []]) K) : AX dr P tab ops i (⟨d, .indexAddr t x y, ty, pos, af, none⟩ :: os) S acc K :=
  AX_op (ws := []) h2 (by simp only [aOp, hx, hy, aIndex, ht, hk, hE, hb, hn, he, and_self, if_true]) h4
theorem AX_ixg {t : TypeId} {x y : Operand} {ti ei : TI} {E : TypeId} {e : Nat} {xs : List GV} {k : IntKind} {n : Int} {g : GV} (h2 : S.has d = true) (hx : S.ev tab 0 x = .g (.sl e xs)) (hy : S.ev tab 0 y = .g (.int k n)) (ht : tab t = some ti) (hk : ti.kind = .sl E) (hE : tab E = some ei) (he : e = ei.size) (hn : 0 ≤ n ∧ n < (xs.length : Int)) (hg : xs[n.toNat]? = some g) (hu : g.isTup = false)
    (h4 : AX dr P tab ops (i + 1) os (S.put d (.iptr g.cells)) (acc ++ [tcW tab i S ⟨d, .indexAddr t x y, ty, pos, af, none⟩ []]) K) : AX dr P tab ops i (⟨d, .indexAddr t x y, ty, pos, af, none⟩ :: os) S acc K := by
  have hgd : xs.getD n.toNat default = g := by simp [List.getD, hg]
  exact AX_op (ws := []) h2 (by simp only [aOp, hx, hy, aIndex, ht, hk, hE, hn, he, hgd, hu, and_self, if_true]) h4
theorem AX_slo {t : TypeId} {x : Operand} {lo hi : Option Operand} {ti ei : TI} {E : TypeId} {id l0 len e : Nat} {dp : Bool} {xs : List GV} {l u : Int} (h2 : S.has d = true) (hx : S.ev tab 0 x = .own id l0 len) (ht : tab t = some ti) (hk : ti.kind = .sl E) (hE : tab E = some ei) (hb : S.heap id = .arr e dp xs) (he : e = ei.size) (h5 : bnd (lo.map (S.ev tab 0)) 0 = some l) (h6 : bnd (hi.map (S.ev tab 0)) len = some u) (hn : 0 ≤ l ∧ l ≤ u ∧ u ≤ (len : Int))
    (h4 : AX dr P tab ops (i + 1) os (S.put d (.own id (l0 + l.toNat) (u.toNat - l.toNat))) (acc ++ [tcW tab i S ⟨d, .slice t x lo hi none, ty, pos, af, none⟩ []]) K) : AX dr P tab ops i (⟨d, .slice t x lo hi none, ty, pos, af, none⟩ :: os) S acc K :=
  AX_op (ws := []) h2 (by simp only [aOp, hx, aSlice, ht, hk, hE, hb, h5, h6, hn, he, and_self, if_true]) h4
theorem AX_slg {t : TypeId} {x : Operand} {lo hi : Option Operand} {ti ei : TI} {E : TypeId} {e : Nat} {xs : List GV} {l u : Int} (h2 : S.has d = true) (hx : S.ev tab 0 x = .g (.sl e xs)) (ht : tab t = some ti) (hk : ti.kind = .sl E) (hE : tab E = some ei) (he : e = ei.size) (h5 : bnd (lo.map (S.ev tab 0)) 0 = some l) (h6 : bnd (hi.map (S.ev tab 0)) xs.length = some u) (hn : 0 ≤ l ∧ l ≤ u ∧ u ≤ (xs.length : Int))
    (h4 : AX dr P tab ops (i + 1) os (S.put d (.g (.sl e ((xs.drop l.toNat).take (u.toNat - l.toNat))))) (acc ++ [tcW tab i S ⟨d, .slice t x lo hi none, ty, pos, af, none⟩ []]) K) : AX dr P tab ops i (⟨d, .slice t x lo hi none, ty, pos, af, none⟩ :: os) S acc K :=
  AX_op (ws := []) h2 (by simp only [aOp, hx, aSlice, ht, hk, hE, h5, h6, hn, he, and_self, if_true]) h4

/-! literals, make, len, append -/
theorem AX_build {t : TypeId} {parts : Array (Nat × Operand)} {ti : TI} {pv : PV} (h2 : S.has d = true) (ht : tab t = some ti) (hv : aBuild tab t (parts.toList.map fun (j, x) => (j, S.ev tab (partTy ti j) x)) = some (pv, [])) (h4 : AX dr P tab ops (i + 1) os (S.put d pv) (acc ++ [tcW tab i S ⟨d, .build t parts, ty, pos, af, none⟩ []]) K) : AX dr P tab ops i (⟨d, .build t parts, ty, pos, af, none⟩ :: os) S acc K :=
  AX_op (ws := []) h2 (by simp only [aOp, ht, hv]) h4
theorem AX_lit {t : TypeId} {len : Nat} {parts : Array (Nat × Operand)} {E : TypeId} {e : Nat} {gs : List GV} {ks : List Nat} {dp : Bool} (h2 : S.has d = true) (hE : elemTy tab t = some (E, e)) (hf : S.heap (S.nx + 8 * i) = .free) (hi : parts.toList.map (·.1) = List.range len) (he : Nat.ble 1 e = true) (hs : Nat.ble (len * e) 16777216 = true) (ha : absL absE S.heap (parts.toList.map fun (_, x) => S.ev tab E x) = some (gs, ks, dp)) (hg : (gs.all (fun x => x.ncells == e && !x.isTup)) = true)
    (h4 : AX dr P tab ops (i + 1) os ((S.writes (kills ks ++ [(S.nx + 8 * i, .arr e dp gs)])).put d (.own (S.nx + 8 * i) 0 len)) (acc ++ [tcW tab i S ⟨d, .buildSlice t len parts, ty, pos, af, none⟩ (idsW (kills ks ++ [(S.nx + 8 * i, .arr e dp gs)]))]) K) : AX dr P tab ops i (⟨d, .buildSlice t len parts, ty, pos, af, none⟩ :: os) S acc K := by
  have he' : 0 < e := by have := Nat.le_of_ble_eq_true he; omega
  have hs' := Nat.le_of_ble_eq_true hs
  exact AX_op h2 (by simp only [aOp, hE, aLit, hf, isFree, hi, he', hs', and_self, if_true, ha, hg]) h4
theorem AX_make {t : TypeId} {x y : Operand} {E : TypeId} {ei : TI} {z : GV} {k k' : IntKind} {n m : Int} (h2 : S.has d = true) (hx : S.ev tab 0 x = .g (.int k n)) (hy : S.ev tab 0 y = .g (.int k' m)) (hE : elemTy tab t = some (E, 1)) (hei : tab E = some ei) (hz : zeroG ei = some z) (hf : S.heap (S.nx + 8 * i) = .free) (hn : 0 ≤ n ∧ n ≤ m ∧ m ≤ 1099511627776)
    (h4 : AX dr P tab ops (i + 1) os ((S.writes [(S.nx + 8 * i, .arr 1 true (List.replicate n.toNat z))]).put d (.own (S.nx + 8 * i) 0 n.toNat)) (acc ++ [tcW tab i S ⟨d, .makeSlice t x y, ty, pos, af, none⟩ [S.nx + 8 * i]]) K) : AX dr P tab ops i (⟨d, .makeSlice t x y, ty, pos, af, none⟩ :: os) S acc K :=
  AX_op h2 (by simp only [aOp, hx, hy, aMakeE, aMake, hE, hei, hz, hf, isFree, hn, and_self, if_true]) h4
theorem AX_len {t : TypeId} {x : Operand} {p : PV} {n : Int} (h2 : S.has d = true) (hx : S.ev tab 0 x = p) (hl : aLen tab S.heap t p = some (.g (.int .i64 n), [])) (h4 : AX dr P tab ops (i + 1) os (S.put d (.g (.int .i64 n))) (acc ++ [tcW tab i S ⟨d, .call { callee := .builtin .len, args := #[x], argTypes := #[t] }, ty, pos, af, none⟩ []]) K) : AX dr P tab ops i (⟨d, .call { callee := .builtin .len, args := #[x], argTypes := #[t] }, ty, pos, af, none⟩ :: os) S acc K :=
  AX_op (ws := []) h2 (by simp only [aOp, aCall, hx, hl]) h4
theorem ln_own {h : Nat → Block} {t : TypeId} {ti : TI} {E : TypeId} {id lo len e : Nat} {dp : Bool} {xs : List GV} (ht : tab t = some ti) (hk : ti.kind = .sl E) (hb : h id = .arr e dp xs) : aLen tab h t (.own id lo len) = some (.g (.int .i64 (len : Int)), []) := by simp only [aLen, ht, hk, hb]
theorem ln_g {h : Nat → Block} {t : TypeId} {ti : TI} {E : TypeId} {e : Nat} {xs : List GV} (ht : tab t = some ti) (hk : ti.kind = .sl E) : aLen tab h t (.g (.sl e xs)) = some (.g (.int .i64 (xs.length : Int)), []) := by simp only [aLen, ht, hk]
theorem ln_nil {h : Nat → Block} {t : TypeId} {ti : TI} {E : TypeId} {e : Nat} (ht : tab t = some ti) (hk : ti.kind = .sl E) : aLen tab h t (.nils e) = some (.g (.int .i64 0), []) := by simp only [aLen, ht, hk]
theorem AX_app {t : TypeId} {x y : Operand} {E : TypeId} {e : Nat} {px py : PV} {xs ys : List GV} {ks1 ks2 : List Nat} {d1 d2 : Bool} (h2 : S.has d = true) (hx : S.ev tab t x = px) (hy : S.ev tab t y = py) (hE : elemTy tab t = some (E, e)) (he : Nat.ble 1 e = true) (hf : S.heap (S.nx + 8 * i) = .free) (h5 : srcE S.heap e py = some (ys, ks2, d2)) (h6 : dstE (killL S.heap ks2) e px = some (xs, ks1, d1)) (hl : xs.length + ys.length ≤ 1099511627776)
    (h4 : AX dr P tab ops (i + 1) os ((S.writes (kills ks2 ++ (kills ks1 ++ [(S.nx + 8 * i, .arr e (d1 && d2) (xs ++ ys))]))).put d (.own (S.nx + 8 * i) 0 (xs.length + ys.length))) (acc ++ [tcW tab i S ⟨d, .call { callee := .builtin .append, args := #[x, y], argTypes := #[t, t] }, ty, pos, af, none⟩ (idsW (kills ks2 ++ (kills ks1 ++ [(S.nx + 8 * i, .arr e (d1 && d2) (xs ++ ys))])))]) K) : AX dr P tab ops i (⟨d, .call { callee := .builtin .append, args := #[x, y], argTypes := #[t, t] }, ty, pos, af, none⟩ :: os) S acc K := by
  have he' : 0 < e := by have := Nat.le_of_ble_eq_true he; omega
  exact AX_op h2 (by simp only [aOp, aCall, if_true, aApp, hx, hy, hE, hf, isFree, he', and_self, h5, h6, hl]) h4
theorem AX_mkf {f : FuncId} {caps : Array Operand} (h2 : S.has d = true) (h4 : AX dr P tab ops (i + 1) os (S.put d (.fn f (caps.toList.map (S.ev tab 0)))) (acc ++ [tcW tab i S ⟨d, .makeFunc (.func f) #[] caps, ty, pos, af, none⟩ []]) K) : AX dr P tab ops i (⟨d, .makeFunc (.func f) #[] caps, ty, pos, af, none⟩ :: os) S acc K :=
  AX_op (ws := []) h2 (by simp only [aOp, if_true]) h4
theorem AX_ext {x : Operand} {n : Nat} {vs : List PV} {v : PV} (h2 : S.has d = true) (hx : S.ev tab 0 x = .tup vs) (hv : vs[n]? = some v) (h4 : AX dr P tab ops (i + 1) os (S.put d v) (acc ++ [tcW tab i S ⟨d, .extract x n, ty, pos, af, none⟩ []]) K) : AX dr P tab ops i (⟨d, .extract x n, ty, pos, af, none⟩ :: os) S acc K :=
  AX_op (ws := []) h2 (by simp only [aOp, hx, aExtract, hv]) h4

/-! calls -/
theorem fn_func {S : AState} {tab : Tab} {i : Nat} {f : FuncId} : asFn (S.ev tab i (.func f)) = some (f, []) := rfl
theorem fn_tmp {S : AState} {tab : Tab} {i t : Nat} {f : FuncId} {cs : List PV} (h : S.ev tab i (.tmp t) = .fn f cs) : asFn (S.ev tab i (.tmp t)) = some (f, cs) := by rw [h]; rfl
theorem fn_g {S : AState} {tab : Tab} {i t : Nat} {f : FuncId} {gs : List GV} (h : S.ev tab i (.tmp t) = .g (.fn f gs)) : asFn (S.ev tab i (.tmp t)) = some (f, gs.map .g) := by rw [h]; rfl

/-- what a call hands back is an atom -/
theorem AX_callA {f : Operand} {args : Array Operand} {tys : Array TypeId} {fid : FuncId} {caps : List PV} {gs : List GV} {r : GV} (h2 : S.has d = true) (hf : asFn (S.ev tab 0 f) = some (fid, caps)) (hg : viewL (view S.heap 6) (S.args tab args.toList tys.toList ++ caps) = some gs) (hc : Con P fid gs r) (ha : r.atom = true) (hfr : S.heap (S.nx + 8 * i) = .free)
    (h4 : AX dr P tab ops (i + 1) os (S.put d (.g r)) (acc ++ [tcW tab i S ⟨d, .call { callee := .value f, args := args, argTypes := tys }, ty, pos, af, none⟩ []]) K) : AX dr P tab ops i (⟨d, .call { callee := .value f, args := args, argTypes := tys }, ty, pos, af, none⟩ :: os) S acc K := by
  have e1 : leavesR r = [r] := by cases r <;> simp_all [GV.atom, leavesR, GV.leaves]
  have e2 : thawW (S.nx + 8 * i) (leavesR r) = [] := by rw [e1]; cases r <;> simp_all [GV.atom, thawW, thawB]
  have e3 : thawR (S.nx + 8 * i) r = .g r := by cases r <;> simp_all [GV.atom, thawR, thawC, thawP]
  have e4 : r.leaf = true := by cases r <;> simp_all [GV.atom, GV.leaf]
  refine AX_step (pv := .g r) (ws := []) rfl h2 (.inr ⟨fid, caps, hf, gs, hg, r, hc, ?_, ?_, ?_, e3.symm, e2.symm⟩) h4
  · rw [e1]; simp [e4]
  · rw [e1]; simp
  · rw [e1]; simp [isFree, hfr]
/-- what a call hands back is a slice -/
theorem AX_callS {f : Operand} {args : Array Operand} {tys : Array TypeId} {fid : FuncId} {caps : List PV} {gs : List GV} {e : Nat} {xs : List GV} (h2 : S.has d = true) (hf : asFn (S.ev tab 0 f) = some (fid, caps)) (hg : viewL (view S.heap 6) (S.args tab args.toList tys.toList ++ caps) = some gs) (hc : Con P fid gs (.sl e xs)) (hfr : S.heap (S.nx + 8 * i) = .free)
    (h4 : AX dr P tab ops (i + 1) os ((S.writes [(S.nx + 8 * i, .arr e true xs)]).put d (.own (S.nx + 8 * i) 0 xs.length)) (acc ++ [tcW tab i S ⟨d, .call { callee := .value f, args := args, argTypes := tys }, ty, pos, af, none⟩ [S.nx + 8 * i]]) K) : AX dr P tab ops i (⟨d, .call { callee := .value f, args := args, argTypes := tys }, ty, pos, af, none⟩ :: os) S acc K :=
  AX_step rfl h2 (.inr ⟨fid, caps, hf, gs, hg,   .sl e xs, hc, rfl, by simp [leavesR, GV.leaves], by simp [leavesR, GV.leaves, isFree, hfr], rfl, rfl⟩) h4
theorem AX_call {f : Operand} {args : Array Operand} {tys : Array TypeId} {fid : FuncId} {caps : List PV} {gs : List GV} {r : GV} (h2 : S.has d = true) (hf : asFn (S.ev tab 0 f) = some (fid, caps)) (hg : viewL (view S.heap 6) (S.args tab args.toList tys.toList ++ caps) = some gs) (hc : Con P fid gs r) (hl : (leavesR r).all GV.leaf = true) (h8 : Nat.ble (leavesR r).length 8 = true)
    (hfr : ((List.range (leavesR r).length).all fun j => isFree (S.heap (S.nx + 8 * i + j))) = true) (h4 : AX dr P tab ops (i + 1) os ((S.writes (thawW (S.nx + 8 * i) (leavesR r))).put d (thawR (S.nx + 8 * i) r)) (acc ++ [tcW tab i S ⟨d, .call { callee := .value f, args := args, argTypes := tys }, ty, pos, af, none⟩ (idsW (thawW (S.nx + 8 * i) (leavesR r)))]) K) :
    AX dr P tab ops i (⟨d, .call { callee := .value f, args := args, argTypes := tys }, ty, pos, af, none⟩ :: os) S acc K :=
  AX_step rfl h2 (.inr ⟨fid, caps, hf, gs, hg, r, hc, hl, Nat.le_of_ble_eq_true h8, hfr, rfl, rfl⟩) h4
end

/-! bounds, sources, arguments -/
theorem bnd_none (n : Nat) : bnd none n = some (n : Int) := rfl
theorem bnd_some {S : AState} {tab : Tab} {x : Operand} {k : IntKind} {n : Int} {m : Nat} (h : S.ev tab 0 x = .g (.int k n)) : bnd ((some x).map (S.ev tab 0)) m = some n := by simp only [Option.map_some, h, bnd]
theorem src_g {h : Nat → Block} {e : Nat} {ys : List GV} {f : Bool} (hf : ys.all GV.flat = f) : srcE h e (.g (.sl e ys)) = some (ys, [], f) := by simp only [srcE, if_true, hf]
theorem src_nil (h : Nat → Block) (e e' : Nat) : srcE h e (.nils e') = some ([], [], true) := rfl
theorem src_own {h : Nat → Block} {id lo len e e' : Nat} {dp : Bool} {ys : List GV} (hb : h id = .arr e' dp ys) (he : e' = e) (hl : lo + len ≤ ys.length) (hf : ((ys.drop lo).take len).all GV.flat = true) : srcE h e (.own id lo len) = some ((ys.drop lo).take len, [], true) := by simp only [srcE, hb, he, hl, and_self, if_true, hf]
theorem dst_nil (h : Nat → Block) (e : Nat) : dstE h e (.nils e) = some ([], [], true) := by simp only [dstE, if_true]
theorem dst_own {h : Nat → Block} {id lo len e : Nat} {dp : Bool} {xs : List GV} (hb : h id = .arr e dp xs) (hl : lo + len ≤ xs.length) : dstE h e (.own id lo len) = some ((xs.drop lo).take len, [id], dp) := by simp only [dstE, hb, hl, and_self, if_true]
theorem vl_nil (f : PV → Option GV) : viewL f [] = some [] := rfl
theorem vl_cons {f : PV → Option GV} {p : PV} {ps : List PV} {x : GV} {xs : List GV} (h1 : f p = some x) (h2 : viewL f ps = some xs) : viewL f (p :: ps) = some (x :: xs) := by simp only [viewL, h1, h2]
theorem vw_g (h : Nat → Block) (n : Nat) (v : GV) : view h (n + 1) (.g v) = some v := rfl
theorem vw_nils {h : Nat → Block} {n e : Nat} (he : Nat.ble 1 e = true) : view h (n + 1) (.nils e) = some (.sl e []) := by
  have : 0 < e := by have := Nat.le_of_ble_eq_true he; omega
  simp only [view, this, if_true]
theorem vw_own {h : Nat → Block} {n id lo len e : Nat} {dp : Bool} {xs : List GV} (hb : h id = .arr e dp xs) (hl : lo + len ≤ xs.length) : view h (n + 1) (.own id lo len) = some (.sl e ((xs.drop lo).take len)) := by simp only [view, hb, hl, if_true]
theorem ag_nil (S : AState) (tab : Tab) (ts : List TypeId) : S.args tab [] ts = [] := by cases ts <;> rfl
theorem ag_cons {S : AState} {tab : Tab} {x : Operand} {xs : List Operand} {t : TypeId} {ts : List TypeId} {p : PV} {ps : List PV} (h1 : S.ev tab t x = p) (h2 : S.args tab xs ts = ps) : S.args tab (x :: xs) (t :: ts) = p :: ps := by simp only [AState.args, h1, h2]
theorem ag_cons0 {S : AState} {tab : Tab} {x : Operand} {xs : List Operand} {p : PV} {ps : List PV} (h1 : S.ev tab 0 x = p) (h2 : S.args tab xs [] = ps) : S.args tab (x :: xs) [] = p :: ps := by simp only [AState.args, h1, h2]
theorem vl_args {S : AState} {tab : Tab} {xs : List Operand} {ts : List TypeId} {caps ps qs : List PV} {gs : List GV} {h : Nat → Block} (h1 : S.args tab xs ts = ps) (h2 : ps ++ caps = qs) (h3 : viewL (view h 6) qs = some gs) : viewL (view h 6) (S.args tab xs ts ++ caps) = some gs := by rw [h1, h2]; exact h3

/-! elements of mapped lists -/
theorem ix_map {α : Type} [Inhabited α] {f : α → GV} {ys : List α} {n : Int} (h : 0 ≤ n ∧ n < (ys.length : Int)) : (ys.map f)[n.toNat]? = some (f (nth ys n.toNat)) := by
  have h1 : n.toNat < ys.length := by omega
  rw [List.getElem?_map, List.getElem?_eq_getElem h1, nth_eq h1]; rfl
theorem ix_mapN {α : Type} [Inhabited α] {f : α → GV} {ys : List α} {n : Nat} (h : n < ys.length) : (ys.map f)[((n : Nat) : Int).toNat]? = some (f (nth ys n)) := by
  rw [List.getElem?_map, Int.toNat_natCast, List.getElem?_eq_getElem h, nth_eq h]; rfl
theorem len_map {α β : Type} (f : α → β) (xs : List α) : (xs.map f).length = xs.length := List.length_map ..

/-! regions and the rest -/
/-- A triple, closed to the unifier. -/
structure TT (P : Program) (c : Code) (S : AState) (Q : Exit → AState → Prop) : Prop where
  run : T P c S Q

/-- Behind a piece. -/
def andK (P : Program) (c : Code) (Q : Exit → AState → Prop) : Exit → AState → Prop
  | .normal, S => TT P c S Q
  | e, S => Q e S

theorem TT_rgW {P : Program} {tab : Tab} (ht : TabOk P tab) {id : Nat} {l : List Oper} {S : AState} {Q : Exit → AState → Prop} (h : AX false P tab l.toArray 0 l S [] (fun S' _ => Q .normal (S'.on 512))) : TT P (.region id l.toArray false) S Q := ⟨T_region ht 512 h.run⟩
theorem TT_rgD {P : Program} {tab : Tab} (ht : TabOk P tab) (hm : P.follows .mixedOrders = true) {id : Nat} {l : List Oper} {S : AState} {Q : Exit → AState → Prop} (h : AX true P tab l.toArray 0 l S [] (fun S' tw => ordB l tw = true ∧ Q .normal (S'.on 512))) : TT P (.region id l.toArray true) S Q := ⟨T_drawn ht 512 hm h.run⟩
theorem TT_seq {P : Program} {x y : Code} {S : AState} {Q : Exit → AState → Prop} (h : TT P x S (andK P y Q)) : TT P (.seq x y) S Q := ⟨T_seq (h.run.mono fun e S h => by cases e <;> first | exact h | exact TT.run h)⟩
theorem TT_block {P : Program} {id : Nat} {c : Code} {S : AState} {Q : Exit → AState → Prop} (h : TT P c S (inT id Q)) : TT P (.block id c) S Q := ⟨T_block h.run⟩
theorem TT_skip {P : Program} {S : AState} {Q : Exit → AState → Prop} (h : Q .normal S) : TT P .skip S Q := ⟨T_skip h⟩
theorem TT_label {P : Program} {l : Nat} {S : AState} {Q : Exit → AState → Prop} (h : Q .normal S) : TT P (.label l) S Q := ⟨T_label h⟩
theorem TT_ret {P : Program} {S : AState} {Q : Exit → AState → Prop} (h : Q .ret S) : TT P .ret S Q := ⟨T_ret h⟩
theorem TT_exit {P : Program} {id : Nat} {S : AState} {Q : Exit → AState → Prop} (h : Q (.exit id) S) : TT P (.exit id) S Q := ⟨T_exit h⟩
theorem TT_cT {P : Program} {tab : Tab} {c : Operand} {x y : Code} {S : AState} {Q : Exit → AState → Prop} (hb : S.ev tab 0 c = .g (.bool true)) (h : TT P x S Q) : TT P (.cond c x y) S Q := ⟨T_cond hb (fun _ => h.run) (fun e => by cases e)⟩
theorem TT_cF {P : Program} {tab : Tab} {c : Operand} {x y : Code} {S : AState} {Q : Exit → AState → Prop} (hb : S.ev tab 0 c = .g (.bool false)) (h : TT P y S Q) : TT P (.cond c x y) S Q := ⟨T_cond hb (fun e => by cases e) (fun _ => h.run)⟩
theorem TT_if {P : Program} {tab : Tab} {c : Operand} {x y : Code} {S : AState} {Q : Exit → AState → Prop} {b : Bool} (hb : S.ev tab 0 c = .g (.bool b)) (h1 : b = true → TT P x S Q) (h2 : b = false → TT P y S Q) : TT P (.cond c x y) S Q := ⟨T_cond hb (fun e => (h1 e).run) (fun e => (h2 e).run)⟩
theorem TT_le {P : Program} {c : Code} {S S' : AState} {Q : Exit → AState → Prop} (hl : Le S S') (h : TT P c S' Q) : TT P c S Q := ⟨h.run.le hl⟩
/-- What stands at the loop's end: another round. -/
def loopK {ι : Type} (I : ι → AState) (ok : ι → Prop) (m : ι → Nat) (i : ι) (Q : Exit → AState → Prop) : Exit → AState → Prop
  | .normal, S' => ∃ j, ok j ∧ m j < m i ∧ Le S' (I j)
  | e, S' => Q e S'
theorem TT_loop {P : Program} {c : Code} {S : AState} {Q : Exit → AState → Prop} {ι : Type} (I : ι → AState) (ok : ι → Prop) (m : ι → Nat) (i0 : ι) (h0 : Le S (I i0)) (k0 : ok i0) (round : ∀ i, ok i → TT P c (I i) (loopK I ok m i Q)) : TT P (.loop c) S Q :=
  ⟨T_loop I ok m i0 h0 k0 fun i k => (round i k).run.mono fun e S h => by cases e <;> exact h⟩
theorem andK_n {P : Program} {c : Code} {S : AState} {Q : Exit → AState → Prop} (h : TT P c S Q) : andK P c Q .normal S := h
theorem andK_e {P : Program} {c : Code} {S : AState} {Q : Exit → AState → Prop} {id : Nat} (h : Q (.exit id) S) : andK P c Q (.exit id) S := h
theorem andK_r {P : Program} {c : Code} {S : AState} {Q : Exit → AState → Prop} (h : Q .ret S) : andK P c Q .ret S := h
theorem inT_eq {id : Nat} {S : AState} {Q : Exit → AState → Prop} (h : Q .normal S) : inT id Q (.exit id) S := by simp [inT, h]
theorem inT_ne {id j : Nat} {S : AState} {Q : Exit → AState → Prop} (hn : Nat.beq j id = false) (h : Q (.exit j) S) : inT id Q (.exit j) S := by
  simp only [inT]; rw [if_neg (by intro e; subst e; simp at hn)]; exact h
theorem inT_n {id : Nat} {S : AState} {Q : Exit → AState → Prop} (h : Q .normal S) : inT id Q .normal S := h
theorem inT_r {id : Nat} {S : AState} {Q : Exit → AState → Prop} (h : Q .ret S) : inT id Q .ret S := h
theorem loopK_e {ι : Type} {I : ι → AState} {ok : ι → Prop} {m : ι → Nat} {i : ι} {Q : Exit → AState → Prop} {id : Nat} {S : AState} (h : Q (.exit id) S) : loopK I ok m i Q (.exit id) S := h
theorem loopK_r {ι : Type} {I : ι → AState} {ok : ι → Prop} {m : ι → Nat} {i : ι} {Q : Exit → AState → Prop} {S : AState} (h : Q .ret S) : loopK I ok m i Q .ret S := h
theorem loopK_n {ι : Type} {I : ι → AState} {ok : ι → Prop} {m : ι → Nat} {i : ι} {Q : Exit → AState → Prop} {S : AState} (j : ι) (h1 : ok j) (h2 : m j < m i) (h3 : Le S (I j)) : loopK I ok m i Q .normal S := ⟨j, h1, h2, h3⟩

theorem Con_of_TT {P : Program} {tab : Tab} (ht : TabOk P tab) {f : FuncId} {fn : Func} {c : Code} (hf : P.funcs[f]? = some fn) (hb : fn.body = some c) {n : Nat} (hn : fn.ntmps = n) {rs : List ResultVar} (hrs : fn.results.toList = rs) (he : ∀ args w, (callFunc f args).run P w = .ok (.enter f args) w) {gs : List GV} {r : GV} (hl : (Nat.ble gs.length n && Nat.blt n 65536) = true)
    (h : TT P c (startA n gs) (EndR tab rs r)) : Con P f gs r := by
  rw [Bool.and_eq_true] at hl
  exact Con_of_T' ht hf hb hn hrs he (Nat.le_of_ble_eq_true hl.1) (Nat.le_of_ble_eq_true hl.2) h.run

end Go.Proofs.Ytdkjeodenbffnaa
