/- The library's numerals and words as contracts. No conditions but those that each theorem names. -/
import Derived.Test.YtachnjinfdagjaaDoorSX
import Derived.Test.YtachnjinfdagjaaDoorKG
set_option linter.unusedSimpArgs false
set_option linter.unusedVariables false
namespace Go.Proofs.YtachnjinfdagjaaDoor
open Go.RowKit
open Shp
theorem enter_tc_fmt (args : Array Value) (w : World) : (callFunc 61 args).run Tryd.prog w = .ok (.enter 61 args) w := callFunc_enter Tryd.func61 (by decide) rfl args w
theorem gives_str {w w' : World} (s : ByteArray) (h : Keeps [] w w') : Gives w (.str s) (.returned (.string s)) w' := ⟨_, [], rfl, .atom (.str s) rfl, .atom (.str s) rfl, by simp, by simp, h⟩
theorem con_fmt (i : Int) (h : NU (0 ≤ i ∧ i < 100)) : Con Tryd.prog 61 [.i i, .i 10] (.str ⟨(Lib.decDigits i.toNat).toArray⟩) :=
  ⟨enter_tc_fmt, fun w args hl hg => by
    have hi := h.e
    obtain ⟨F0, h0⟩ := hg 0 (by simp)
    obtain ⟨F1, h1⟩ := hg 1 (by simp)
    match args, hl, h0, h1 with
    | [a, b], _, h0, h1 =>
      have e0 : a = .int .i64 i := (PRep.g (μ := fun _ => none) (h := fun _ => .free) _ _ _ h0 (by rintro b _ ⟨id, d, h2, _⟩; cases h2)).int_inv
      have e1 : b = .int .i64 10 := (PRep.g (μ := fun _ => none) (h := fun _ => .free) _ _ _ h1 (by rintro b _ ⟨id, d, h2, _⟩; cases h2)).int_inv
      subst e0; subst e1
      have hc := Any.strconv_FormatInt_10_small Tryd.lays173 i.toNat (by omega) w
      rw [show ((i.toNat : Nat) : Int) = i by omega] at hc
      exact hc.mono fun e w' ⟨he, hw⟩ => by subst he; subst hw; exact gives_str _ (Keeps.refl _ _)⟩
theorem Extra_join : Builder.Extra Tryd.prog Tryd.lays156_ren where
  sizeBuilder := by kernel_rfl
  liesBuilder := by kernel_rfl
  t5 := Tryd.underlying5
  a5 := Tryd.isAgg5
  z5 := Tryd.sizeOf5
  v5 := Tryd.zeroValue5
  infoByte := by kernel_rfl
  cellsByte := by kernel_rfl
  sizeByte := by kernel_rfl
  neB5 := by decide
theorem enter_tc_join (args : Array Value) (w : World) : (callFunc 50 args).run Tryd.prog w = .ok (.enter 50 args) w := callFunc_enter Tryd.func50 (by decide) rfl args w
theorem con_join (ys : List ByteArray) (sep : ByteArray) (h1 : NU (ys.length ≤ 1000000)) (h2 : NU ((Lib.join (ys.map (·.data.toList)) sep.data.toList).length ≤ 1000000000)) : Con Tryd.prog 50 [.sl 1 (ys.map GV.str), .str sep] (.str ⟨(Lib.join (ys.map (·.data.toList)) sep.data.toList).toArray⟩) :=
  ⟨enter_tc_join, fun w args hl hg => by
    have e1 := h1.e
    have e2 := h2.e
    obtain ⟨F0, g0⟩ := hg 0 (by simp)
    obtain ⟨F1, g1⟩ := hg 1 (by simp)
    match args, hl, g0, g1 with
    | [v, b], _, g0, g1 =>
      have eb : b = .string sep := (PRep.g (μ := fun _ => none) (h := fun _ => .free) _ _ _ g1 (by rintro b _ ⟨id, d, h2, _⟩; cases h2)).str_inv
      subst eb
      obtain ⟨a, cap, els, Fs, ev, _, hs⟩ := GRep.slice g0
      have ev : v = .slice a (ys.map GV.str).length cap := ev
      rw [List.length_map] at ev
      subst ev
      have hlen : els.length = ys.length := by have := hs.hv; simpa using this
      have hel : ∀ k (hk : k < ys.length), els[k]'(by omega) = .string ys[k] := fun k hk => by
        have h1 := hs.h k (by simpa using hk)
        simp only [List.getElem_map] at h1
        exact (PRep.g (μ := fun _ => none) (h := fun _ => .free) _ _ _ h1 (by rintro b _ ⟨id, d, h2, _⟩; cases h2)).str_inv
      have hcap : ys.length ≤ cap := by have := hs.le; simpa using this
      by_cases hy : ys = []
      · subst hy
        refine (Any.strings_Join_none Tryd.lays156 Extra_join a cap sep w).mono fun e w' ⟨he, hw⟩ => ?_
        subst he; subst hw; exact gives_str _ (Keeps.refl _ _)
      · have hpos : 0 < ys.length := Nat.pos_of_ne_zero fun e => hy (List.eq_nil_of_length_eq_zero e)
        cases a with
        | none => have := hs.nil rfl; omega
        | some p =>
          obtain ⟨hsp, hbl⟩ := hs.ad p rfl (by omega)
          obtain ⟨pb, po, ps⟩ := p
          have hsp : ps = none := hsp
          subst hsp
          refine (Any.strings_Join Tryd.lays156 Extra_join pb po cap ys sep w (fun j x hj => ?_) hbl (by omega) hcap (by omega)).mono fun e w' ⟨he, hw⟩ => ?_
          · obtain ⟨hjl, hjb⟩ := List.getElem?_eq_some_iff.1 hj
            have h4 := hel j hjl
            rw [hjb] at h4
            have h3 := (hs.hc j (by omega)).2.2 0 (by rw [h4]; simp [Value.cells])
            simp only [h4] at h3
            have h5 : w.cell? ⟨pb, po + j, none⟩ = some (Value.string x) ∧ w.frozen? ⟨pb, po + j, none⟩ = false := by
              have e3 : (⟨pb, po, none⟩ : Addr).add j = ⟨pb, po + j, none⟩ := by unfold Addr.add; split <;> simp_all
              have h6 : w.cell? ((⟨pb, po, none⟩ : Addr).add j) = some (Value.string x) ∧ w.frozen? ((⟨pb, po, none⟩ : Addr).add j) = false := by simpa [sAt, Value.cells] using h3
              rw [e3] at h6; exact h6
            exact h5.1
          · subst he; exact gives_str _ (Keeps.ofBelow hw)⟩
end Go.Proofs.YtachnjinfdagjaaDoor

