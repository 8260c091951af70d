/- The frame of a law over a package's table of words: what the row's list gives, and the step. No conditions but those that each theorem names. -/
import Derived.Test.YtachnjinfdagjaaDoorOG
import Derived.Test.YtachnjinfdagjaaDoorGL
import Derived.Test.YtachnjinfdagjaaDoorTX
import Derived.OpenVars
import Derived.LaidLaws
import Derived.Stop.LaidErr
import Derived.Lib.LaidTab
import Derived.Deep.DeepHandedRow
set_option linter.unusedSimpArgs false
set_option linter.unusedVariables false
namespace Go.Proofs.YtachnjinfdagjaaDoor
open Go.ChangeShapes Go.WideShapes Go.ChangeAt Go.RowKit
open Shp
section
variable {P : Program}
theorem cells_of_words {H : Type} {enc : TypeId × Value → H} {w : World} {base : Nat} {sp : Nat → Bool} {held : Bool} {fuel : Nat} {t e : TypeId} {n : Nat} {cs : List Value} {zs : List (List UInt8)} {p : List MemPlace}
    (ht : P.underlying t = some (.array n e)) (he : P.underlying e = some .string) (hce : P.cellsOf e = 1) (hct : P.cellsOf t = n)
    (h : DataW.trod enc P w base sp held fuel t cs = some (.agg (zs.map fun z => .lit (.string z)), p)) : cs = zs.map fun z => Value.string ⟨z.toArray⟩ := by
  cases fuel with
  | zero => simp [DataW.trod] at h
  | succ fuel =>
    simp only [DataW.trod, ht, hce, hct, Nat.mul_one] at h
    split at h
    · rename_i hl
      obtain ⟨xs, hm, hx⟩ := Option.map_eq_some_iff.1 h
      have hxs : xs.map (·.1) = zs.map fun z => (DataW.lit (.string z) : DataW H) := by
        have := congrArg Prod.fst hx
        simpa using this
      have hxl : xs.length = n := by simpa using Lib.mapM_length hm
      have hzl : zs.length = n := by
        have := congrArg List.length hxs
        simp at this
        omega
      apply List.ext_getElem?
      intro i
      by_cases hi : i < n
      · obtain ⟨b, hb, hf⟩ := Lib.mapM_at hm i i (by simp [hi])
        obtain ⟨s, hc, rfl, _⟩ := DataW.trod_string he hf
        have h1 : cs[i]? = some (.string s) := by
          have := congrArg (·[0]?) hc
          simpa [List.getElem?_take, List.getElem?_drop] using this
        have h2 : (xs.map (·.1))[i]? = some (DataW.lit (.string s.data.toList) : DataW H) := by simp [hb]
        rw [hxs] at h2
        simp only [List.getElem?_map, Option.map_eq_some_iff, DataW.lit.injEq, Lit.string.injEq] at h2
        obtain ⟨z', hz', rfl⟩ := h2
        simp [h1, hz']
      · rw [List.getElem?_eq_none (by omega), List.getElem?_eq_none (by simp; omega)]
    · cases h
theorem words_of_head {W : World} {name : String} {zs : List (List UInt8)} {rest : List (String × DataW Unit)} {g : Nat} {t e : TypeId} {n : Nat}
    (hg : P.globalNamed name = some g) (hty : (P.globals[g]?).map (·.type) = some t) (ht : P.underlying t = some (.array n e)) (he : P.underlying e = some .string) (hce : P.cellsOf e = 1) (hct : P.cellsOf t = n)
    (h : laidMet P ((name, .agg (zs.map fun z => .lit (.string z))) :: rest) W) : W.var? P name = some (zs.map fun z => Value.string ⟨z.toArray⟩).toArray := by
  obtain ⟨ps, ⟨g', t', cs, fuel, p, q, hg', ht', hvar, hd, _, _⟩, _⟩ := h
  obtain rfl := Option.some.inj (hg.symm.trans hg')
  obtain rfl := Option.some.inj (hty.symm.trans ht')
  rw [hvar, ← cells_of_words ht he hce hct hd]
theorem words_box {W : World} {name : String} {g : Nat} {ss : List ByteArray} (hg : P.globalNamed name = some g) (h0 : 0 < ss.length) (h : W.var? P name = some (ss.map Value.string).toArray) :
    ∃ F, GRep W F (.pointer (some ⟨g, 0, none⟩)) (.box (ss.map GV.str)) := by
  have hc : ∀ i (hi : i < (ss.map Value.string).length), W.cell? ⟨g, i, none⟩ = some (ss.map Value.string)[i] := fun i hi => by
    rw [World.var?_cell hg h i]
    simp
  refine ⟨_, .box g (ss.map Value.string) (ss.map GV.str) (List.replicate ss.length []) ?_ (by simp) (by simp) ?_ ?_ hc ?_⟩
  · exact World.block_lt_of_cell? W _ (hc 0 (by simpa using h0))
  · intro v hv; obtain ⟨s, _, rfl⟩ := List.mem_map.1 hv; rfl
  · intro v hv; obtain ⟨s, _, rfl⟩ := List.mem_map.1 hv; rfl
  · intro i hi
    simp only [List.getElem_map, List.getElem_replicate]
    exact .atom (.str _) rfl
theorem ConG.law {f : FuncId} {cs gs : List GV} (h : ConG P f cs gs (.bool true)) {W : World} {args : Array Value} (hl : args.size = gs.length) (hG : ∃ F, GRep W F (.pointer (some ⟨0, 0, none⟩)) (.box cs)) (hg : ∀ i (hi : i < gs.length), ∃ F, GRep W F (args[i]'(hl ▸ hi)) gs[i]) : Calls P f args W (Pure W (.bool true)) := by
  have h1 := h.calls W args.toList (by simpa using hl) hG (fun i hi => by simpa using hg i hi)
  rw [Array.toArray_toList] at h1
  refine h1.mono fun e W' hgv => ?_
  obtain ⟨v, F, rfl, hr, _, _, _, hk⟩ := hgv
  rw [hr.bool_inv]
  exact ⟨rfl, hk⟩
end
theorem ConG.unex {P : Program} {f : FuncId} {e : Nat} {cs xs : List GV} {r : GV} (he : ∀ args w, (callFunc f args).run P w = .ok (.enter f args) w) (h : ∀ v, ConG P f cs [.ex v e xs] r) : ConG P f cs [.sl e xs] r :=
  ⟨he, fun w args hl hG hg => by
    obtain ⟨F, h0⟩ := hg 0 (by simp)
    match args, hl, h0 with
    | [v], _, h0 =>
      refine (h v).calls w [v] rfl hG fun i hi => ?_
      obtain rfl : i = 0 := by simpa using hi
      exact ⟨F, .ex v e xs F h0⟩⟩
def layL : DataW Unit → List Value
  | .lit (.int k n) => [.int k n]
  | .lit (.string s) => [.string ⟨s.toArray⟩]
  | _ => []
def layM : DataW Unit → List Value
  | .agg ps => ps.flatMap layL
  | d => layL d
def layD : DataW Unit → List Value
  | .agg ps => ps.flatMap layM
  | d => layM d
def layCells (d : DataW Unit) : Obj → Obj
  | .cells _ t fr => .cells (layD d).toArray t fr
  | o => o
def layHeap (P : Program) (laid : List (String × DataW Unit)) (h : Array Obj) : Array Obj :=
  laid.foldl (fun h x => match P.globalNamed x.1 with | some g => h.modify g (layCells x.2) | none => h) h
noncomputable def layWorld (P : Program) (laid : List (String × DataW Unit)) (os : Os) : World :=
  { World.holding P os ⟨#[], #[], []⟩ with heap := layHeap P laid (World.holding P os ⟨#[], #[], []⟩).heap }
theorem law_liftG {C : Checked} {os : Os} (started : os.Started) {f : FuncId} {fn : Func} {s : ChangeSpec} {conds : List PathCond} {laid : List (String × DataW Unit)} {nm : String}
    (own : ownKnob C.prog.godebug = none) (hl : laidOutB C.prog = true) (noInit : C.prog.inits.idxOf? f = none) (hfn : C.prog.funcs[f]? = some fn)
    (hvars : s.vars = [nm]) (hrows : varsRowed C.prog [nm] = true) (hres : fn.resultTypes = #[4]) (hbool : C.prog.underlying 4 = some .bool)
    (hread : ∀ t ∈ fn.params.toList, C.prog.readableRec t = true ∧ t < C.prog.types.size)
    (hspec : ∀ (H : Type) (ds : List (DataW H)) (g : DataW H), ds.length = fn.params.toList.length → s.fn H (ds ++ [g]) = { results := [.lit (.bool true)], args := ds, vars := [g] })
    {H : Type} {enc : TypeId × Value → H} (F : Stop.Interp)
    (witness : ∃ (w : World) (tape : Tape) (i : Input), w.os = os ∧ (w.forCall tape i).Shaped C.prog ∧ i.vars = [] ∧ Input.okWide C.prog (w.forCall tape i) .any w.heap.size f i ∧
      (OpenSpec.ofChange s).preRow enc C.prog fn conds false laid (w.forCall tape i).memory i.args ∧ ({} : Assume).holds C.prog (lone (Frame.enter C.prog f i.args .normal) [] (w.forCall tape i)))
    (walk : ∀ (W : World) (base : Nat) (args : Array Value) (ds : List (DataW H)) (ps : List MemPlace), laidMetH C.prog laid W →
      (∀ (j : Nat) t v, fn.params[j]? = some t → args[j]? = some v → Value.okWide C.prog W .any base t v) →
      DataW.TrodAll enc C.prog W 0 (fun _ => true) true fn.params.toList args.toList ds ps → W.noneFrozen ps →
      Calls C.prog f args W (Pure W (.bool true))) :
    ReturnsInHanded {} C os f .any ((OpenSpec.ofChange s).preRow enc C.prog fn conds false laid) (((OpenSpec.ofChange s).at F).post enc C.prog fn false true false false) := by
  refine returnsInHanded_of_row own started noInit hfn witness ?_
  intro W base args ds gs before hval hW _ _ _ hL _ _
  have hW' := hW
  obtain ⟨p, q, hA, hV, rfl, hfz, hnd⟩ := hW
  have hV' : DataW.TrodVars enc C.prog W (fun _ => true) [nm] gs q := hvars ▸ hV
  refine (walk W base args ds p hL hval hA (fun b off hb => hfz b off (List.mem_append.2 (.inl hb)))).mono fun e W' ⟨he, hk⟩ => ?_
  subst he
  have hlen := trodAll_len hA
  obtain ⟨g, rfl⟩ : ∃ g, gs = [g] := by
    match gs, hV' with
    | [], h => exact h.elim
    | [g], _ => exact ⟨g, rfl⟩
    | g :: g' :: r, ⟨_, _, _, _, _, _, _, _, _, _, h, _⟩ => exact h.elim
  have hsp := hspec H ds g hlen.2
  have hlt : ∀ x ∈ p, x.block < W.heap.size := hA.lt
  refine ⟨_, rfl, ds, [g], p ++ q, [], p, q, hW', ?_, ?_, ?_, hk.below.frame _, fun h => by cases h⟩
  · show DataW.TrodAll enc C.prog W' _ _ _ fn.resultTypes.toList _ (s.fn H (ds ++ [g])).results _
    rw [hsp, hres]
    exact trodAll_mk1 (shut_bool hbool _)
  · show DataW.TrodAll enc C.prog W' _ _ _ fn.params.toList _ (s.fn H (ds ++ [g])).args _
    rw [hsp]
    exact Below.trodAll hl hk.below hread hA hlt
  · show DataW.TrodVars enc C.prog W' _ s.vars (s.fn H (ds ++ [g])).vars _
    rw [hsp, hvars]
    exact Below.trodVars hl hk.below hrows hV'
end Go.Proofs.YtachnjinfdagjaaDoor

