/- Abstract states: the end of a walk. Over any program; no conditions. -/
import Derived.Test.YtdkjeodenbffnaaA25
namespace Go.Proofs.Ytdkjeodenbffnaa
open Go.RowKit
open Shp

section
variable {tab : Tab} {S : AState}

theorem er_ret {rs : List ResultVar} {r : GV} (h : outR tab S rs = some r) : EndR tab rs r .ret S := h
theorem er_end {rs : List ResultVar} {r : GV} (h : outR tab S rs = some r) : EndR tab rs r .normal S := h
theorem out1 {rs : List ResultVar} {p : PV} {x r : GV} {ks : List Nat} (h1 : resL tab S rs = some [p]) (h2 : absE S.heap p = some (x, ks, true)) (h3 : x.isTup = false) (h4 : x = r) : outR tab S rs = some r := by
  subst h4
  unfold outR
  simp only [h1, absL, h2, Bool.and_true, h3, Bool.false_eq_true, if_false]
theorem outN {rs : List ResultVar} {p q : PV} {ps : List PV} {gs : List GV} {r : GV} {ks : List Nat} (h1 : resL tab S rs = some (p :: q :: ps)) (h2 : absL absE S.heap (p :: q :: ps) = some (gs, ks, true)) (h4 : .tup gs = r) : outR tab S rs = some r := by
  have h3 : ∃ a b cs, gs = a :: b :: cs := by
    unfold absL at h2
    cases e1 : absE S.heap p with
    | none => simp [e1] at h2
    | some x =>
      obtain ⟨x, k, d⟩ := x
      simp only [e1] at h2
      unfold absL at h2
      cases e2 : absE (killL S.heap k) q with
      | none => simp [e2] at h2
      | some y =>
        obtain ⟨y, k', d'⟩ := y
        simp only [e2] at h2
        cases e3 : absL absE (killL (killL S.heap k) k') ps with
        | none => simp [e3] at h2
        | some z =>
          obtain ⟨z, k2, d2⟩ := z
          simp only [e3, Option.some.injEq, Prod.mk.injEq] at h2
          exact ⟨x, y, z, h2.1.symm⟩
  obtain ⟨a, b, cs, rfl⟩ := h3
  unfold outR
  simp only [h1, h2, h4]
theorem rl_nil (tab : Tab) (S : AState) : resL tab S [] = some [] := rfl
theorem rl_tmp {t : Nat} {rs : List ResultVar} {p : PV} {ps : List PV} (h1 : S.slots t = p) (h2 : resL tab S rs = some ps) : resL tab S (.tmp t :: rs) = some (p :: ps) := by simp only [resL, h2, h1]
theorem rl_cell {a : Nat} {t : TypeId} {rs : List ResultVar} {q p : PV} {ps : List PV} (h1 : S.slots a = q) (h3 : aLoad tab S.heap t q = some (p, [])) (h2 : resL tab S rs = some ps) : resL tab S (.cell a t :: rs) = some (p :: ps) := by simp only [resL, h2, h1, h3]
theorem ae_g {h : Nat → Block} {v : GV} {b : Bool} (hf : v.flat = b) : absE h (.g v) = some (v, [], b) := by simp only [absE, absorb, hf]
theorem ae_nils {h : Nat → Block} {e : Nat} (he : Nat.ble 1 e = true) : absE h (.nils e) = some (.sl e [], [], true) := by
  have : 0 < e := by have := Nat.le_of_ble_eq_true he; omega
  simp only [absE, absorb, this, if_true]
theorem ae_own {h : Nat → Block} {id lo len e : Nat} {dp : Bool} {xs : List GV} (hb : h id = .arr e dp xs) (hl : lo + len ≤ xs.length) : absE h (.own id lo len) = some (.sl e ((xs.drop lo).take len), [id], dp) := by simp only [absE, absorb, hb, hl, if_true]
theorem ae_agg {h : Nat → Block} {cs : List PV} {gs : List GV} {ks : List Nat} {d : Bool} (ha : absL absorb h cs = some (gs, ks, d)) (hn : (gs.all fun x => x.ncells == 1) = true) : absE h (.agg cs) = some (.agg gs, ks, d) := by simp only [absE, ha, hn, if_true]
theorem ab_g {h : Nat → Block} {v : GV} {b : Bool} (hf : v.flat = b) : absorb h (.g v) = some (v, [], b) := by simp only [absorb, hf]
theorem ab_nils {h : Nat → Block} {e : Nat} (he : Nat.ble 1 e = true) : absorb h (.nils e) = some (.sl e [], [], true) := by
  have : 0 < e := by have := Nat.le_of_ble_eq_true he; omega
  simp only [absorb, this, if_true]
theorem ab_own {h : Nat → Block} {id lo len e : Nat} {dp : Bool} {xs : List GV} (hb : h id = .arr e dp xs) (hl : lo + len ≤ xs.length) : absorb h (.own id lo len) = some (.sl e ((xs.drop lo).take len), [id], dp) := by simp only [absorb, hb, hl, if_true]
theorem al_nil (f : (Nat → Block) → PV → Option (GV × List Nat × Bool)) (h : Nat → Block) : absL f h [] = some ([], [], true) := rfl
theorem al_cons {f : (Nat → Block) → PV → Option (GV × List Nat × Bool)} {h : Nat → Block} {p : PV} {ps : List PV} {x : GV} {xs : List GV} {k ks : List Nat} {d ds : Bool} (h1 : f h p = some (x, k, d)) (h2 : absL f (killL h k) ps = some (xs, ks, ds)) : absL f h (p :: ps) = some (x :: xs, k ++ ks, d && ds) := by simp only [absL, h1, h2]
/-- blocks behind blocks that were given up -/
theorem kl_nil {h : Nat → Block} {j : Nat} {B : Block} (h1 : h j = B) : killL h [] j = B := h1
theorem kl_cons {h : Nat → Block} {k : Nat} {ks : List Nat} {j : Nat} {B : Block} (hn : Nat.beq j k = false) (h1 : killL h ks j = B) : killL h (k :: ks) j = B := by
  have hne : j ≠ k := by intro e; subst e; simp at hn
  rw [← h1]
  exact killL_loc (upd_ne _ _ _ hne)
/-! heads of loops -/
theorem hs_nil {ρ : List Nat} {S : AState} : ∀ x ∈ ([] : List (Nat × PV)), x.2 = ren1 ρ (S.slots x.1) := by simp
theorem hs_cons {ρ : List Nat} {S : AState} {t : Nat} {v p : PV} {sl : List (Nat × PV)} (h1 : S.slots t = p) (h2 : v = ren1 ρ p) (h3 : ∀ x ∈ sl, x.2 = ren1 ρ (S.slots x.1)) : ∀ x ∈ ((t, v) :: sl), x.2 = ren1 ρ (S.slots x.1) := by
  intro x hx
  rcases List.mem_cons.1 hx with rfl | hx
  · rw [h1]; exact h2
  · exact h3 x hx
theorem hb_nil {ρ : List Nat} {S : AState} : ([] : List Block) = ([] : List Nat).map fun i => renB ρ (S.heap i) := rfl
theorem hb_cons {ρ is : List Nat} {S : AState} {i : Nat} {B B' : Block} {bs : List Block} (h1 : S.heap i = B) (h2 : B' = renB ρ B) (h3 : bs = is.map fun i => renB ρ (S.heap i)) : (B' :: bs) = (i :: is).map fun i => renB ρ (S.heap i) := by rw [List.map_cons, h1, ← h2, ← h3]
theorem hl_nil {S : AState} : ∀ i ∈ ([] : List Nat), (S.heap i).live = true := by simp
theorem hl_cons {S : AState} {i : Nat} {B : Block} {is : List Nat} (h1 : S.heap i = B) (h2 : B.live = true) (h3 : ∀ j ∈ is, (S.heap j).live = true) : ∀ j ∈ i :: is, (S.heap j).live = true := by
  intro j hj
  rcases List.mem_cons.1 hj with rfl | hj
  · rw [h1]; exact h2
  · exact h3 j hj
theorem g_int {k : IntKind} {a b : Int} (h : a = b) : PV.g (.int k a) = .g (.int k b) := by rw [h]

theorem flat_map {α : Type} {f : α → GV} {ys : List α} (hf : ∀ y, (f y).flat = true) : (ys.map f).all GV.flat = true := by simp [hf]
theorem flat_ints (k : IntKind) (ys : List Int) : (ys.map (GV.int k)).all GV.flat = true := flat_map fun _ => rfl
end

end Go.Proofs.Ytdkjeodenbffnaa
