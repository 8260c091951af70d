/- Products of clauses: there are not too many states, and what all clauses say is what is taken. No program in sight; no conditions. -/
import Derived.Test.YtabfpoflhacknaaGreatQR
namespace Go.Proofs.YtabfpoflhacknaaGreat
open Go.RowKit
open Shp
variable {L : Nat} {cs : List (Int × List Int × List Int)}
theorem Zm3 {α : Type} [DecidableEq α] : ∀ (xs T : List α), xs.Nodup → (∀ x ∈ xs, x ∈ T) → xs.length ≤ T.length
 | [], T, _, _ => by simp
 | x :: xs, T, hn, hs => by
  have hx : x ∈ T := hs x (by simp)
  have h1 := Zm3 xs (T.erase x) (List.nodup_cons.1 hn).2 fun y hy => (List.mem_erase_of_ne fun e => (List.nodup_cons.1 hn).1 (by rw [← e]; exact hy)).2 (hs y (by simp [hy]))
  have h2 := List.length_erase_of_mem hx
  have h3 : 0 < T.length := List.length_pos_of_mem hx
  simp only [List.length_cons]; omega
theorem Zpg {A B : Nat} (xs : List (Int × Int)) (hn : xs.Nodup) (hv : ∀ x ∈ xs, VP A B x) : xs.length ≤ A * B := by
 have key : ∀ a b : Int, 0 ≤ a → a < A → 0 ≤ b → b < B → 0 ≤ a * B + b ∧ a * B + b < ((A * B : Nat) : Int) := fun a b h1 h2 h3 h4 => by
  have h5 : 0 ≤ a * B := Int.mul_nonneg h1 (by omega)
  have h6 : a * B ≤ ((A : Int) - 1) * B := Int.mul_le_mul_of_nonneg_right (by omega) (by omega)
  rw [Int.sub_mul] at h6
  rw [Int.natCast_mul]; omega
 have h1 : (xs.map fun x : Int × Int => x.1 * (B : Int) + x.2).Nodup := Zgx hn fun x hx y hy e => by
  have a := hv x hx; have b := hv y hy
  unfold VP inN at a b
  have e1 : x.2 % (B : Int) = y.2 % B := by
   have := congrArg (· % (B : Int)) e
   simpa [Int.add_comm, Int.add_mul_emod_self_right] using this
  rw [Int.emod_eq_of_lt a.2.1 a.2.2, Int.emod_eq_of_lt b.2.1 b.2.2] at e1
  have e2 : x.1 * (B : Int) = y.1 * B := by omega
  have e3 : x.1 = y.1 := Int.eq_of_mul_eq_mul_right (by omega) e2
  exact Prod.ext e3 e1
 have h2 := ZcL (A * B) _ h1 fun z hz => by
  obtain ⟨x, hx, rfl⟩ := List.mem_map.1 hz
  have a := hv x hx
  unfold VP inN at a
  exact key _ _ a.1.1 a.1.2 a.2.1 a.2.2
 simpa using h2
theorem Zoi {a b : List (List Int)} {P : Int × Int → Prop} {N : Nat} (hcl : ∀ x, P x → ∀ y ∈ Zbj a b x, P y) (hb : ∀ L : List (Int × Int), L.Nodup → (∀ x ∈ L, P x) → L.length ≤ N) (hN : N ≤ 48) : ∀ (f k : Nat) (os0 : List (Int × Int)), os0.Nodup → (∀ x ∈ os0, P x) → ∃ os, jnG a b f k os0 = some os ∧ os.Nodup ∧ (∀ x ∈ os, P x) ∧ os.length ≤ N
 | 0, k, os0, h1, h2 => ⟨os0, rfl, h1, h2, hb os0 h1 h2⟩
 | f + 1, k, os0, h1, h2 => by
  simp only [jnG]
  split
  ·rename_i hk
   have h3 : ∀ x ∈ addG os0 (Zbj a b (nth os0 k)), P x := fun x hx => by
    rcases (ZdP _ _ _).1 hx with h | h
    ·exact h2 x h
    ·exact hcl _ (h2 _ (Zal hk)) x h
   have h4 := Zd7 (Zbj a b (nth os0 k)) os0 h1
   have h5 := hb _ h4 h3
   rw [if_neg (by omega)]
   exact Zoi hcl hb hN f (k + 1) _ h4 h3
  ·exact ⟨os0, rfl, h1, h2, hb os0 h1 h2⟩
theorem Zry {a b : List (List Int)} {P : Int × Int → Prop} {N : Nat} (hcl : ∀ x, P x → ∀ y ∈ Zbj a b x, P y) (h0 : P (0, 0)) (hb : ∀ L : List (Int × Int), L.Nodup → (∀ x ∈ L, P x) → L.length ≤ N) (hN : N ≤ 48) : ∃ os, jnF a b = some os ∧ (∀ x ∈ os, P x) ∧ os.length ≤ N := by
 obtain ⟨os, h1, _, h3, h4⟩ := Zoi hcl hb hN 48 0 [(0, 0)] (by simp) (fun x hx => by simp only [List.mem_singleton] at hx; subst hx; exact h0)
 exact ⟨os, h1, h3, h4⟩
def Same (n : List (List Int)) : Prop := ∀ q : Int, 0 ≤ q → q < (n.length : Int) → rowN n q = rowN n 0
section
variable {n n2 : List (List Int)} {ps ps2 : List (List Int × List Int)} {i o : Int}
theorem Zfq (h : detB i o n ps = true) (h2 : detB i o n2 ps2 = true) (hl : ps.length + ps2.length ≤ 4) (hm : n.length * n2.length ≤ 48) : (ZbI n ps n2 ps2).2 = true ∧ (ZbI n ps n2 ps2).1.1.length ≤ n.length * n2.length ∧ (ZbI n ps n2 ps2).1.2.length = ps.length + ps2.length := by
 obtain ⟨a1, ⟨a2, a3⟩, a4, a5⟩ := detB_iff.1 h
 obtain ⟨b1, ⟨b2, b3⟩, b4, b5⟩ := detB_iff.1 h2
 rw [← Zbh] at a5 b5
 obtain ⟨os, e, _, hn⟩ := Zry (P := fun x => VP n.length n2.length x) (N := n.length * n2.length) (Zvn a5 b5) ⟨⟨by simp, by simp; omega⟩, ⟨by simp, by simp; omega⟩⟩ (fun L h1 h2 => Zpg L h1 h2) hm
 rw [Zel hl e]
 exact ⟨rfl, by rw [Zb9 (Nat.le_refl _)]; exact hn, by rw [List.length_append, ZaY, ZaY]⟩
theorem Zkw (hs : Same n) (hs2 : Same n2) {x : Int × Int} (hx : VP n.length n2.length x) : Zbj n n2 x = Zbj n n2 (0, 0) := by
 unfold Zbj
 rw [hs x.1 hx.1.1 hx.1.2, hs2 x.2 hx.2.1 hx.2.2]
theorem ZmH (h : detB i o n ps = true) (h2 : detB i o n2 ps2 = true) (hl : ps.length + ps2.length ≤ 4) (hs : Same n) (hs2 : Same n2) : (ZbI n ps n2 ps2).2 = true ∧ (ZbI n ps n2 ps2).1.1.length ≤ (Zaa i o).toNat + 1 ∧ (ZbI n ps n2 ps2).1.2.length = ps.length + ps2.length ∧ Same (ZbI n ps n2 ps2).1.1 := by
 obtain ⟨a1, ⟨a2, a3⟩, a4, a5⟩ := detB_iff.1 h
 obtain ⟨b1, ⟨b2, b3⟩, b4, b5⟩ := detB_iff.1 h2
 rw [← Zbh] at a5 b5
 have hL := ZaE i o
 have v0 : VP n.length n2.length (0, 0) := ⟨⟨by simp, by simp; omega⟩, ⟨by simp, by simp; omega⟩⟩
 have hlen : (Zbj n n2 (0, 0)).length = (Zaa i o).toNat := by
  rw [Zbo]
  have := a5.row (q := 0) (by omega) (by omega)
  unfold rowN; simp only at this ⊢; omega
 obtain ⟨os, e, hv, hn⟩ := Zry (a := n) (b := n2) (P := fun x => VP n.length n2.length x ∧ x ∈ (0, 0) :: Zbj n n2 (0, 0)) (N := (Zaa i o).toNat + 1) (fun x hx y hy => ⟨Zvn a5 b5 x hx.1 y hy, by rw [Zkw hs hs2 hx.1] at hy; exact .tail _ hy⟩) ⟨v0, by simp⟩
  (fun L h1 h3 => by have := Zm3 L ((0, 0) :: Zbj n n2 (0, 0)) h1 fun x hx => (h3 x hx).2; simp only [List.length_cons] at this; omega) (by omega)
 rw [Zel hl e]
 refine ⟨rfl, by rw [Zb9 (Nat.le_refl _)]; exact hn, by rw [List.length_append, ZaY, ZaY], fun q h1 h3 => ?_⟩
 rw [Zb9 (Nat.le_refl _)] at h3
 have at_ : ∀ j : Nat, j < os.length → nth (Zbt n n2 os os.length) j = (Zbj n n2 (0, 0)).map (ZbS os) := fun j hj => by
  have : nth (Zbt n n2 os os.length) j = (Zbj n n2 (nth os j)).map (ZbS os) := by unfold Zbt; rw [List.take_length]; exact ZbE hj
  rw [this, Zkw hs hs2 (hv _ (Zal hj)).1]
 unfold rowN
 rw [at_ _ (by omega), at_ _ (by simp; omega)]
end
theorem ZoU {a b : List Int}  : Same (monN 7 a b L) := fun q h1 h2 => by
 have hm : Zaj 7 = 4 := rfl
 rw [Zan] at h2
 have at_ : ∀ j : Nat, j < 4 → nth (monN 7 a b L) j = ZaL 7 a b L 0 := fun j hj => by
  have : nth (monN 7 a b L) j = ZaL 7 a b L j := by rw [Zbi (by rw [Zan]; omega)]; simp [monN]
  rw [this]; rfl
 unfold rowN
 rw [at_ _ (by omega), at_ _ (by simp)]
theorem ZrQ : Same [List.replicate L (0 : Int)] := fun q h1 h2 => by
 have : q = 0 := by simp only [List.length_singleton] at h2; omega
 subst this; rfl
theorem Zkv (k : Int) : Zaj k = 4 ∧ k = 7 ∨ Zaj k ≤ 3 := by
 by_cases h : k = 7
 ·exact .inl ⟨by subst h; rfl, h⟩
 ·right; unfold Zaj; rw [if_neg h]; split <;> omega
section
variable {i o : Int}
theorem ZrU  (hc : ZaB i o cs = true) (hL : (Zaa i o).toNat ≤ 11) : (ZaX i o cs).2 = true ∧ (ZaX i o cs).1.2.length = cs.length := by
 obtain ⟨h1, h2, h3⟩ := Zei hc
 have z := ZlD (i := i) (o := o) h1
 unfold ZaX
 rw [if_pos hc]
 have hm : ∀ c ∈ cs, detB i o (monN c.1 c.2.1 c.2.2 (Zaa i o).toNat) [monP c.1] = true := fun c hcm => by
  obtain ⟨j, hj, rfl⟩ := Za1 hcm
  exact ZoD h1 (Ze1 (h3 j hj))
 clear h3 hc
 match cs, h2, hm with
 | [], _, _ => exact ⟨rfl, rfl⟩
 | [c1], _, hm =>
  have m1 := hm c1 (by simp)
  have r1 := Zbl c1.1
  have e1 := Zfq z m1 (by simp) (by rw [Zan]; simp; omega)
  simp only [Zdq]
  rw [if_pos e1.1]
  exact ⟨rfl, e1.2.2⟩
 | [c1, c2], _, hm =>
  have m1 := hm c1 (by simp)
  have m2 := hm c2 (by simp)
  have r1 := Zbl c1.1
  have r2 := Zbl c2.1
  have e1 := Zfq z m1 (by simp) (by rw [Zan]; simp; omega)
  have d1 := ZfE z m1 e1.1
  have l1 := e1.2.1
  rw [Zan] at l1
  simp only [List.length_singleton, Nat.one_mul] at l1
  have e2 := Zfq d1 m2 (by rw [e1.2.2]; simp) (by rw [Zan]; exact Nat.le_trans (Nat.mul_le_mul (show _ ≤ 4 by omega) (show Zaj c2.1 ≤ 4 by omega)) (by omega))
  simp only [Zdq]
  rw [if_pos e1.1, if_pos e2.1]
  exact ⟨rfl, by rw [e2.2.2, e1.2.2]; rfl⟩
 | [c1, c2, c3], _, hm =>
  have m1 := hm c1 (by simp)
  have m2 := hm c2 (by simp)
  have m3 := hm c3 (by simp)
  have r1 := Zbl c1.1
  have r2 := Zbl c2.1
  have r3 := Zbl c3.1
  have e1 := Zfq z m1 (by simp) (by rw [Zan]; simp; omega)
  have d1 := ZfE z m1 e1.1
  have l1 := e1.2.1
  rw [Zan] at l1
  simp only [List.length_singleton, Nat.one_mul] at l1
  have e2 := Zfq d1 m2 (by rw [e1.2.2]; simp) (by rw [Zan]; exact Nat.le_trans (Nat.mul_le_mul (show _ ≤ 4 by omega) (show Zaj c2.1 ≤ 4 by omega)) (by omega))
  have d2 := ZfE d1 m2 e2.1
  have l2 : (ZbI (ZbI [List.replicate (Zaa i o).toNat 0] [] (monN c1.1 c1.2.1 c1.2.2 (Zaa i o).toNat) [monP c1.1]).1.1 (ZbI [List.replicate (Zaa i o).toNat 0] [] (monN c1.1 c1.2.1 c1.2.2 (Zaa i o).toNat) [monP c1.1]).1.2 (monN c2.1 c2.2.1 c2.2.2 (Zaa i o).toNat) [monP c2.1]).1.1.length ≤ 12 := by
   have l2 := e2.2.1
   rw [Zan] at l2
   rcases Zkv c1.1 with ⟨q1, q2⟩ | q1
   ·rcases Zkv c2.1 with ⟨p1, p2⟩ | p1
    ·have s1 := ZmH z m1 (by simp) ZrQ (by rw [q2]; exact ZoU)
     have s2 := ZmH d1 m2 (by rw [e1.2.2]; simp) s1.2.2.2 (by rw [p2]; exact ZoU)
     have := s2.2.1; omega
    ·exact Nat.le_trans l2 (Nat.le_trans (Nat.mul_le_mul (show _ ≤ 4 by omega) p1) (by omega))
   ·exact Nat.le_trans l2 (Nat.le_trans (Nat.mul_le_mul (show _ ≤ 3 by omega) (show Zaj c2.1 ≤ 4 by omega)) (by omega))
  have e3 := Zfq d2 m3 (by rw [e2.2.2, e1.2.2]; simp) (by rw [Zan]; exact Nat.le_trans (Nat.mul_le_mul l2 (show Zaj c3.1 ≤ 4 by omega)) (by omega))
  simp only [Zdq]
  rw [if_pos e1.1, if_pos e2.1, if_pos e3.1]
  exact ⟨rfl, by rw [e3.2.2, e2.2.2, e1.2.2]; rfl⟩
 | c1 :: c2 :: c3 :: c4 :: cs, h, _ => simp at h
theorem ZiF {s l : List Int} (hw : ZaI s l (Zaa i o) = true) : ∀ {cs : List (Int × List Int × List Int)} {n : List (List Int)} {ps : List (List Int × List Int)}, detB i o n ps = true → (∀ c ∈ cs, ZbR (Zaa i o) c.1 c.2.1 c.2.2 = true) → (Zdq (Zaa i o).toNat cs n ps).2 = true →
  detB i o (Zdq (Zaa i o).toNat cs n ps).1.1 (Zdq (Zaa i o).toNat cs n ps).1.2 = true ∧ Zc4 i o (Zdq (Zaa i o).toNat cs n ps).1.1 (Zdq (Zaa i o).toNat cs n ps).1.2 s l = (Zc4 i o n ps s l && cs.all fun c => Zb7 c.1 c.2.1 c.2.2 s l)
 | [], n, ps, hd, _, _ => by simp only [Zdq, List.all_nil, Bool.and_true]; exact ⟨hd, trivial⟩
 | c :: cs, n, ps, hd, hc, hp => by
  have hs := (detB_iff.1 hd).1
  have hcc := hc c (by simp)
  have hm := ZoD (a := c.2.1) (b := c.2.2) hs (Ze1 hcc)
  simp only [Zdq] at hp ⊢
  by_cases hj : (ZbI n ps (monN c.1 c.2.1 c.2.2 (Zaa i o).toNat) [monP c.1]).2 = true
  ·rw [if_pos hj] at hp ⊢
   have h1 := ZfE hd hm hj
   obtain ⟨g1, g2⟩ := ZiF hw h1 (fun d hd => hc d (by simp [hd])) hp
   refine ⟨g1, ?_⟩
   rw [g2, Zpi hd hm hj hw, Zq8 hs hcc hw, List.all_cons, Bool.and_assoc]
   have : ZgN i o c.1 c.2.1 c.2.2 s l = Zb7 c.1 c.2.1 c.2.2 s l := by unfold ZgN; rw [hs, hcc, hw]; rfl
   rw [this]
  ·rw [if_neg hj] at hp; cases hp
theorem Zo3 {s l : List Int} (hs : sigB i o = true) (hw : ZaI s l (Zaa i o) = true) : Zc4 i o [List.replicate (Zaa i o).toNat 0] [] s l = true := (Zha (ZlD hs) hw).2 fun p hp => by cases hp
theorem Zpc  {s l : List Int} (hc : ZaB i o cs = true) (hw : ZaI s l (Zaa i o) = true) : (cs.all fun c => Zb7 c.1 c.2.1 c.2.2 s l) = decide (ZcE i o cs s l = -1) := by
 unfold ZcE
 rw [hc, hw]
 simp only [Bool.and_self, if_true]
 rw [Bool.eq_iff_iff, List.all_eq_true, decide_eq_true_eq]
 rcases ZbP cs.length (Ze6 cs s l) with ⟨h1, h2⟩ | ⟨j, h1, h2, h3, h4⟩
 ·refine ⟨fun _ => h1, fun _ c hcm => ?_⟩
  obtain ⟨j, hj, rfl⟩ := Za1 hcm
  have := h2 j hj
  unfold Ze6 at this
  simpa using this
 ·constructor
  ·intro h
   have := h _ (Zal h1)
   unfold Ze6 at h3
   rw [this] at h3; cases h3
  ·intro h; rw [h2] at h; omega
theorem Zjj  {s l : List Int} (hc : ZaB i o cs = true) (hL : (Zaa i o).toNat ≤ 11) (hw : ZaI s l (Zaa i o) = true) : detB i o (ZaX i o cs).1.1 (ZaX i o cs).1.2 = true ∧ Zc4 i o (ZaX i o cs).1.1 (ZaX i o cs).1.2 s l = decide (ZcE i o cs s l = -1) := by
 obtain ⟨h1, h2, h3⟩ := Zei hc
 have hp := (ZrU hc hL).1
 have e : ZaX i o cs = Zdq (Zaa i o).toNat cs [List.replicate (Zaa i o).toNat 0] [] := by unfold ZaX; rw [if_pos hc]
 rw [e] at hp ⊢
 obtain ⟨g1, g2⟩ := ZiF hw (ZlD h1) (fun c hcm => by obtain ⟨j, hj, rfl⟩ := Za1 hcm; exact h3 j hj) hp
 exact ⟨g1, by rw [g2, Zo3 h1 hw, Bool.true_and, Zpc hc hw]⟩
theorem Zl0  (hc : ZaB i o cs = true) (hL : (Zaa i o).toNat ≤ 11) : detB i o (ZaX i o cs).1.1 (ZaX i o cs).1.2 = true := by
 obtain ⟨h1, h2, h3⟩ := Zei hc
 refine (Zjj (s := []) (l := [0]) hc hL ?_).1
 have hl := ZaW h1
 have hq := ZkF h1
 unfold ZaI
 simp only [Bool.and_eq_true, decide_eq_true_eq]
 refine ⟨⟨⟨⟨by simp, by simp⟩, by simp⟩, below_iff.2 fun j hj => by simp at hj⟩, below_iff.2 fun j hj => ?_⟩
 have : j = 0 := by simpa using hj
 subst this
 have hz : nth [(0 : Int)] 0 = 0 := rfl
 rw [hz]; have := ZaE i o; omega
theorem ZsM  (hc : ZaB i o cs = true) (hL : (Zaa i o).toNat ≤ 11) : (ZaX i o cs).2 = true ∧ (ZaX i o cs).1.2.length = cs.length ∧
  (∀ s l, ZaI s l (Zaa i o) = true → Zc4 i o (ZaX i o cs).1.1 (ZaX i o cs).1.2 s l = decide (ZcE i o cs s l = -1) ∧ Zc4 i o (ZbB i o (ZaX i o cs).1.1 (ZaX i o cs).1.2).1 (ZbB i o (ZaX i o cs).1.1 (ZaX i o cs).1.2).2 s l = decide (ZcE i o cs s l = -1)) ∧
  (ZbB i o (ZaX i o cs).1.1 (ZaX i o cs).1.2).1.length ≤ (ZaX i o cs).1.1.length ∧
  Zno i o (ZbB i o (ZbB i o (ZaX i o cs).1.1 (ZaX i o cs).1.2).1 (ZbB i o (ZaX i o cs).1.1 (ZaX i o cs).1.2).2).1 (ZbB i o (ZbB i o (ZaX i o cs).1.1 (ZaX i o cs).1.2).1 (ZbB i o (ZaX i o cs).1.1 (ZaX i o cs).1.2).2).2 (ZbB i o (ZaX i o cs).1.1 (ZaX i o cs).1.2).1 (ZbB i o (ZaX i o cs).1.1 (ZaX i o cs).1.2).2 = true := by
 have hd := Zl0 hc hL
 obtain ⟨p1, p2⟩ := ZrU hc hL
 rw [ZlP hd]
 refine ⟨p1, p2, fun s l hw => ?_, ?_, ?_⟩
 ·have h1 := (Zjj hc hL hw).2
  exact ⟨h1, by rw [← h1]; exact ZnF hd hw⟩
 ·obtain ⟨hg, g1, _⟩ := ZfV hd
  show (ZaT _ _).length ≤ _
  rw [Zbr]; exact Zq9 hg g1
 ·rw [ZnQ hd]
  unfold Zno
  rw [ZlM hd]; simp
end
end Go.Proofs.YtabfpoflhacknaaGreat

