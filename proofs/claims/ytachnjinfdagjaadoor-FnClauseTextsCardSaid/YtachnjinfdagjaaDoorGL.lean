/- Contracts over a package's variable: the walk's beginnings. Over any program; the table is right ('TabOk'). -/
import Derived.Test.YtachnjinfdagjaaDoorKG
import Derived.Test.YtachnjinfdagjaaDoorPK3
import Derived.Test.YtachnjinfdagjaaDoorPU3
set_option linter.unusedSimpArgs false
set_option linter.unusedVariables false
namespace Go.Proofs.YtachnjinfdagjaaDoor
open Go.RowKit
open Shp
theorem ConG.fit {P : Program} {f : FuncId} {cs gs : List GV} {r : GV} (he : ∀ args w, (callFunc f args).run P w = .ok (.enter f args) w) (h : (∀ i (hi : i < gs.length), GFits gs[i]) → ConG P f cs gs r) : ConG P f cs gs r :=
  ⟨he, fun w args hl hG hg => (h fun i hi => by obtain ⟨F, h1⟩ := hg i hi; exact h1.fits).calls w args hl hG hg⟩
section
variable {P : Program} {tab : Tab}
theorem relG {fn : Func} {gs cs : List GV} {sl : List (Nat × PV)} (hle : gs.length ≤ fn.ntmps) (hm : fn.ntmps < 65536) (hs : SG gs 0 sl) (w : World) (args : List Value) (hl : args.length = gs.length) (hg : ∀ i (hi : i < gs.length), ∃ F, GRep w F (args[i]'(hl ▸ hi)) gs[i]) (hG : ∃ F, GRep w F (.pointer (some ⟨0, 0, none⟩)) (.box cs)) :
    Rel ⟨w, [], np0⟩ (mkX fn.ntmps ((65536, .glob 0 cs) :: sl) [] 0) { tmps := args.toArray ++ Array.replicate (fn.ntmps - args.toArray.size) Go.undef, defers := [] } w := by
  have h := start_rel hle hm w args hl hg
  refine ⟨_, _, h.size, fun t => ?_, h.dfr, fun i => h.blk i, fun i j b d d' hi => by simp [mkX, lookH, Block.live] at hi, fun i b d hi => by simp [mkX, lookH, Block.live] at hi, h.keep, fun t x hp => (by rw [show pinned (mkX fn.ntmps ((65536, .glob 0 cs) :: sl) [] 0).n t = false from pinned_lt hm t] at hp; cases hp), fun t v hv ht => by simp [np0] at hv⟩
  by_cases e0 : t = 65536
  · subst e0
    obtain ⟨F, hF⟩ := hG
    have : (mkX fn.ntmps ((65536, .glob 0 cs) :: sl) [] 0).slots 65536 = .glob 0 cs := by simp [mkX, lookS]
    rw [this]
    exact .glob _ _ _ F hF (by rintro b _ ⟨id, d, hl, _⟩; simp [mkX, lookH, Block.live] at hl)
  have e1 : (mkX fn.ntmps ((65536, .glob 0 cs) :: sl) [] 0).slots t = lookS sl t := by simp [mkX, lookS, e0]
  rw [e1]
  rcases hs.e t with e | ⟨x, h1, h2, h3⟩
  · rw [e]; exact .undef _
  · have h5 := h.slot t
    simp only [startA, Nat.sub_zero] at h5 h2
    rw [h2] at h5
    rw [h3]; exact h5
theorem ConG_of_TX (lv : Nat → List Nat) (ht : TabOk P tab) {f : FuncId} {fn : Func} {c : Code} {m : Nat} {rs : List ResultVar} {cs gs : List GV} {r : GV} {sl : List (Nat × PV)} (hf : P.funcs[f]? = some fn) (hb : fn.body = some c) (hn : fn.ntmps = m) (hrs : fn.results.toList = rs) (he : ∀ args w, (callFunc f args).run P w = .ok (.enter f args) w) (hl : (Nat.ble gs.length m && Nat.blt m 65536) = true)
    (hs : gSG gs 0 sl) (h : TX lv P tab c m ((65536, .glob 0 cs) :: sl) [] (EndR tab rs r)) : ConG P f cs gs r := by
  rw [Bool.and_eq_true] at hl
  subst hn; subst hrs
  refine ⟨he, fun w args hl' hG hg => calls_of_wp hf hb ?_⟩
  refine wp_mono (h.run ⟨w, [], np0⟩ _ w (relG (Nat.le_of_ble_eq_true hl.1) (Nat.le_of_ble_eq_true hl.2) hs.s w args hl' hg hG)) fun e a' w' ⟨S', h1, μ', who', h2⟩ => ?_
  cases e with
  | normal => obtain ⟨v, q1, q2⟩ := out_ok ht h2 h1; exact ⟨h2.dfr, v, q1, q2.gives⟩
  | ret => obtain ⟨v, q1, q2⟩ := out_ok ht h2 h1; exact ⟨h2.dfr, v, q1, q2.gives⟩
  | exit | goto | panic | outgrown => exact h1.elim
end
end Go.Proofs.YtachnjinfdagjaaDoor

