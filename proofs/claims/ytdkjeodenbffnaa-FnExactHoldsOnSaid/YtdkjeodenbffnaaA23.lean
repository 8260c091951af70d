/- Abstract states: rules for walking by simplification. No program in sight; no conditions. -/
import Derived.Test.YtdkjeodenbffnaaA22
namespace Go.Proofs.Ytdkjeodenbffnaa
open Go.RowKit
open Shp

theorem put_slots (S : AState) (d t : Nat) (v : PV) : (S.put (some d) v).slots t = if t = d then v else S.slots t := rfl
theorem put_slots0 (S : AState) (v : PV) : S.put none v = S := rfl
theorem put_heap (S : AState) (d : Nat) (v : PV) : (S.put (some d) v).heap = S.heap := rfl
theorem put_nx (S : AState) (d : Nat) (v : PV) : (S.put (some d) v).nx = S.nx := rfl
theorem put_n (S : AState) (d : Nat) (v : PV) : (S.put (some d) v).n = S.n := rfl
theorem writes_slots (S : AState) (ws : List (Nat × Block)) : (S.writes ws).slots = S.slots := rfl
theorem writes_nx (S : AState) (ws : List (Nat × Block)) : (S.writes ws).nx = S.nx := rfl
theorem writes_n (S : AState) (ws : List (Nat × Block)) : (S.writes ws).n = S.n := rfl
theorem writes_nil (S : AState) : S.writes [] = S := rfl
theorem writes_heap (S : AState) (id : Nat) (b : Block) (j : Nat) : (S.writes [(id, b)]).heap j = if j = id then b else S.heap j := rfl
theorem writes_cons2 (S : AState) (x y : Nat × Block) (ws : List (Nat × Block)) : S.writes (x :: y :: ws) = (S.writes [x]).writes (y :: ws) := rfl
theorem on_slots (S : AState) (n : Nat) : (S.on n).slots = S.slots := rfl
theorem on_heap (S : AState) (n : Nat) : (S.on n).heap = S.heap := rfl
theorem on_n (S : AState) (n : Nat) : (S.on n).n = S.n := rfl
theorem on_nx (S : AState) (n : Nat) : (S.on n).nx = S.nx + 8 * n := rfl
theorem start_slots (n : Nat) (gs : List GV) (t : Nat) : (startA n gs).slots t = match gs[t]? with | some x => .g x | none => .none_ := rfl
theorem start_heap (n : Nat) (gs : List GV) (j : Nat) : (startA n gs).heap j = .free := rfl
theorem start_n (n : Nat) (gs : List GV) : (startA n gs).n = n := rfl
theorem start_nx (n : Nat) (gs : List GV) : (startA n gs).nx = 0 := rfl
theorem mk_slots (n : Nat) (sl : List (Nat × PV)) (bs : List Block) (t : Nat) : (mkS n sl bs).slots t = match sl.find? (fun x => x.1 == t) with | some x => x.2 | none => .undef := rfl
theorem mk_heap (n : Nat) (sl : List (Nat × PV)) (bs : List Block) (j : Nat) : (mkS n sl bs).heap j = (bs[j]?).getD .free := rfl
theorem mk_n (n : Nat) (sl : List (Nat × PV)) (bs : List Block) : (mkS n sl bs).n = n := rfl
theorem mk_nx (n : Nat) (sl : List (Nat × PV)) (bs : List Block) : (mkS n sl bs).nx = bs.length := rfl
theorem has_some (S : AState) (d : Nat) : S.has (some d) = hasB d S.n := rfl
theorem has_none (S : AState) : S.has none = true := rfl
attribute [go_sem] put_slots put_slots0 put_heap put_nx put_n writes_slots writes_nx writes_n writes_nil writes_heap writes_cons2 on_slots on_heap on_n on_nx start_slots start_heap start_n start_nx mk_slots mk_heap mk_n mk_nx has_some has_none

theorem AW_yes {P : Program} {tab : Tab} {ops : Array Oper} {i : Nat} {o : Oper} {os : List Oper} {S : AState} {K : AState → Prop} {pv : PV} {ws : List (Nat × Block)} (h1 : wantA ops o S = some true) (h2 : S.has o.dst = true) (h3 : aOp tab (S.nx + 8 * i) o S = some (pv, ws)) (h4 : AW P tab ops (i + 1) os ((S.writes ws).put o.dst pv) K) : AW P tab ops i (o :: os) S K :=
  ⟨true, h1, h2, fun _ => ⟨pv, ws, .inl (.inl h3), h4⟩, fun h => (by cases h)⟩

theorem AW_no {P : Program} {tab : Tab} {ops : Array Oper} {i : Nat} {o : Oper} {os : List Oper} {S : AState} {K : AState → Prop} (h1 : wantA ops o S = some false) (h2 : S.has o.dst = true) (h4 : AW P tab ops (i + 1) os (S.put o.dst .none_) K) : AW P tab ops i (o :: os) S K :=
  ⟨false, h1, h2, fun h => (by cases h), fun _ => h4⟩

theorem Con_of_T' {P : Program} {tab : Tab} (ht : TabOk P tab) {f : FuncId} {fn : Func} {c : Code} (hf : P.funcs[f]? = some fn) (hb : fn.body = some c) {n : Nat} (hn : fn.ntmps = n) {rs : List ResultVar} (hrs : fn.results.toList = rs) (he : ∀ args w, (callFunc f args).run P w = .ok (.enter f args) w) {gs : List GV} {r : GV} (hl : gs.length ≤ n) (hm : n < 65536)
    (h : T P c (startA n gs) (EndR tab rs r)) : Con P f gs r := by
  subst hn; subst hrs
  exact Con_of_T ht hf hb he hl hm h

end Go.Proofs.Ytdkjeodenbffnaa
