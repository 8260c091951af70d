/- A run's letters are what the word of it says, for ever. No program in sight; no conditions. -/
import Derived.Test.YtabfpoflhacknaaRU
import Derived.Test.YtabfpoflhacknaaMQ
import Derived.Test.YtabfpoflhacknaaDD
import Derived.Test.YtabfpoflhacknaaCL
set_option linter.unusedSimpArgs false
set_option linter.unusedVariables false
namespace Go.Proofs.Ytabfpoflhacknaa
open Go.RowKit
open Shp
theorem letN2_run {n o : List (List Int)} {W : Int} : ∀ {xs : List Int} {q : Int} {f : Nat → Int}, (∀ i, i < xs.length → f i = nth xs i) → ∀ t, t < xs.length → nth (letN2 n o W q xs) t = nth (nth o (runQ n q f t).toNat) (f t).toNat * W + f t
  | [], q, f, _, t, ht => by simp at ht
  | x :: xs, q, f, h, t, ht => by
    have h0 : f 0 = x := h 0 (by simp)
    cases t with
    | zero => rw [h0]; show nth (nth o q.toNat) x.toNat * W + x = nth (nth o q.toNat) x.toNat * W + x; rfl
    | succ t =>
      show nth (letN2 n o W (nth (nth n q.toNat) x.toNat) xs) t = _
      rw [letN2_run (f := fun t => f (1 + t)) (fun i hi => by have := h (1 + i) (by simp; omega); rw [this, Nat.add_comm]; rfl) t (by simpa using ht)]
      rw [Nat.add_comm t 1, runQ_add]
      show _ = nth (nth o (runQ n (nth (nth n q.toNat) (f 0).toNat) (fun t => f (1 + t)) t).toNat) (f (1 + t)).toNat * W + f (1 + t)
      rw [h0]
theorem outsN_run {n o : List (List Int)} : ∀ {xs : List Int} {q : Int} {f : Nat → Int}, (∀ i, i < xs.length → f i = nth xs i) → ∀ t, t < xs.length → nth (outsN n o q xs) t = nth (nth o (runQ n q f t).toNat) (f t).toNat
  | [], q, f, _, t, ht => by simp at ht
  | x :: xs, q, f, h, t, ht => by
    have h0 : f 0 = x := h 0 (by simp)
    cases t with
    | zero => rw [h0]; show nth (nth o q.toNat) x.toNat = nth (nth o q.toNat) x.toNat; rfl
    | succ t =>
      show nth (outsN n o (nth (nth n q.toNat) x.toNat) xs) t = _
      rw [outsN_run (f := fun t => f (1 + t)) (fun i hi => by have := h (1 + i) (by simp; omega); rw [this, Nat.add_comm]; rfl) t (by simpa using ht)]
      rw [Nat.add_comm t 1, runQ_add]
      show _ = nth (nth o (runQ n (nth (nth n q.toNat) (f 0).toNat) (fun t => f (1 + t)) t).toNat) (f (1 + t)).toNat
      rw [h0]
def ltA (n out : List (List Int)) (W : Int) (s l : List Int) (t : Nat) : Int := nth (nth out (runQ n 0 (letN s l) t).toNat) (letN s l t).toNat * W + letN s l t
section
variable {n out : List (List Int)} {W V : Int} {s l : List Int} {k : Nat}
theorem ltR_at (hl : 1 ≤ l.length) : ∀ k t, t < s.length + k * l.length → nth (ltR n out W s l k) t = ltA n out W s l t
  | 0, t, ht => by
    rw [Nat.zero_mul] at ht
    show nth (letN2 n out W 0 s) t = _
    exact letN2_run (fun i hi => by unfold letN; rw [if_pos hi]) t ht
  | k + 1, t, ht => by
    rw [Nat.succ_mul] at ht
    show nth (ltR n out W s l k ++ letN2 n out W (bgR n s l k) l) t = _
    by_cases h : t < s.length + k * l.length
    · rw [show nth (ltR n out W s l k ++ letN2 n out W (bgR n s l k) l) t = nth (ltR n out W s l k) t by unfold nth; rw [List.getD_eq_getElem?_getD, List.getD_eq_getElem?_getD, List.getElem?_append_left (by rw [ltR_len]; exact h)]]
      exact ltR_at hl k t h
    · obtain ⟨j, rfl⟩ : ∃ j, t = s.length + k * l.length + j := ⟨t - (s.length + k * l.length), by omega⟩
      rw [show nth (ltR n out W s l k ++ letN2 n out W (bgR n s l k) l) (s.length + k * l.length + j) = nth (letN2 n out W (bgR n s l k) l) j by unfold nth; rw [List.getD_eq_getElem?_getD, List.getD_eq_getElem?_getD, List.getElem?_append_right (by rw [ltR_len]; omega), ltR_len, Nat.add_sub_cancel_left]]
      rw [letN2_run (f := fun t => letN s l (s.length + k * l.length + t)) (fun i hi => let_lap hl k hi) j (by omega)]
      unfold ltA
      rw [runQ_add (s.length + k * l.length) j, ← run_lap hl k]; rfl
theorem let_shift (hl : 1 ≤ l.length) (a b j : Nat) : letN s l (s.length + a * l.length + j) = letN s l (s.length + b * l.length + j) := by
  unfold letN
  rw [if_neg (by omega), if_neg (by omega), show s.length + a * l.length + j - s.length = j + l.length * a by rw [Nat.mul_comm]; omega, show s.length + b * l.length + j - s.length = j + l.length * b by rw [Nat.mul_comm b]; omega, Nat.add_mul_mod_self_left, Nat.add_mul_mod_self_left]
theorem run_shift (hl : 1 ≤ l.length) {a b : Nat} (h : bgR n s l a = bgR n s l b) (j : Nat) : ltA n out W s l (s.length + a * l.length + j) = ltA n out W s l (s.length + b * l.length + j) := by
  have e : runQ n 0 (letN s l) (s.length + a * l.length + j) = runQ n 0 (letN s l) (s.length + b * l.length + j) := by
    rw [runQ_add, runQ_add (s.length + b * l.length) j, ← run_lap hl a, ← run_lap hl b]
    unfold bgR at h
    rw [h]
    exact runQ_congr fun i _ => let_shift hl a b i
  unfold ltA
  rw [e, let_shift hl a b j]
theorem least_of {P : Nat → Bool} : ∀ m, (∃ z, z ≤ m ∧ P z = true) → ∃ z, z ≤ m ∧ P z = true ∧ ∀ j, j < z → P j = false
  | 0, ⟨z, h1, h2⟩ => ⟨0, by omega, by rwa [show z = 0 by omega] at h2, fun j hj => by omega⟩
  | m + 1, ⟨z, h1, h2⟩ => by
    by_cases h : ∃ z, z ≤ m ∧ P z = true
    · obtain ⟨y, a, b, c⟩ := least_of m h
      exact ⟨y, by omega, b, c⟩
    · refine ⟨z, h1, h2, fun j hj => ?_⟩
      cases e : P j with
      | false => rfl
      | true => exact absurd ⟨j, by omega, e⟩ h
theorem lap_found (hg : GoOk n W) (hs : below s W = true) (hl : below l W = true) (hn : 1 ≤ n.length) : ∃ k, k ≤ n.length ∧ has (bgsR n s l k) (bgR n s l k) = true ∧ ∀ j, j < k → has (bgsR n s l j) (bgR n s l j) = false := by
  refine least_of (P := fun k => has (bgsR n s l k) (bgR n s l k)) n.length ?_
  by_cases h : ∃ z, z ≤ n.length ∧ has (bgsR n s l z) (bgR n s l z) = true
  · exact h
  · have := bgs_few (k := n.length + 1) hg hs hl hn fun z hz => by
      cases e : has (bgsR n s l z) (bgR n s l z) with
      | false => rfl
      | true => exact absurd ⟨z, by omega, e⟩ h
    omega
theorem run_parts (hg : GoOk n W) (hs : below s W = true) (hl : below l W = true) (hn : 1 ≤ n.length) (h48 : n.length ≤ 48) (hl1 : 1 ≤ l.length) :
    ∃ a k : Nat, a < k ∧ k ≤ n.length ∧ rwS n out W s l = (ltR n out W s l k).take (s.length + a * l.length) ∧ rwL n out W s l = (ltR n out W s l k).drop (s.length + a * l.length) ∧ bgR n s l a = bgR n s l k := by
  obtain ⟨k, h1, h2, h3⟩ := lap_found hg hs hl hn
  have hK := KR_at (by omega) h3 h2
  have hi := iR_at hK h2
  refine ⟨iR n s l, k, hi.2.1, h1, ?_, ?_, hi.2.2⟩
  · unfold rwS atR; rw [hK]
  · unfold rwL atR; rw [hK]
theorem run_let (hg : GoOk n W) (hs : below s W = true) (hl : below l W = true) (hn : 1 ≤ n.length) (h48 : n.length ≤ 48) (hl1 : 1 ≤ l.length) (t : Nat) : letN (rwS n out W s l) (rwL n out W s l) t = ltA n out W s l t := by
  obtain ⟨a, k, h1, h2, h3, h4, h5⟩ := run_parts (out := out) hg hs hl hn h48 hl1
  have hak : a * l.length + l.length ≤ k * l.length := by rw [← Nat.succ_mul]; exact Nat.mul_le_mul_right _ h1
  have eS : (rwS n out W s l).length = s.length + a * l.length := by rw [h3, List.length_take, ltR_len]; omega
  have eL : (rwL n out W s l).length = k * l.length - a * l.length := by rw [h4, List.length_drop, ltR_len]; omega
  have per : ∀ q j, ltA n out W s l (s.length + a * l.length + ((k * l.length - a * l.length) * q + j)) = ltA n out W s l (s.length + a * l.length + j) := by
    intro q
    induction q with
    | zero => intro j; rw [Nat.mul_zero, Nat.zero_add]
    | succ q ih =>
      intro j
      rw [← ih j, run_shift hl1 h5 ((k * l.length - a * l.length) * q + j), Nat.mul_succ]
      congr 1; omega
  unfold letN
  by_cases h : t < (rwS n out W s l).length
  · rw [if_pos h, h3, nth_take _ _ _ (by omega)]
    exact ltR_at hl1 k t (by omega)
  · rw [if_neg h, eS, eL, h4]
    have hm := Nat.mod_lt (t - (s.length + a * l.length)) (show 0 < k * l.length - a * l.length by omega)
    have hd := Nat.div_add_mod (t - (s.length + a * l.length)) (k * l.length - a * l.length)
    rw [show ∀ r, nth ((ltR n out W s l k).drop (s.length + a * l.length)) r = nth (ltR n out W s l k) (s.length + a * l.length + r) from fun r => by unfold nth; simp [List.getD_eq_getElem?_getD, List.getElem?_drop]]
    rw [ltR_at hl1 k _ (by omega), ← per ((t - (s.length + a * l.length)) / (k * l.length - a * l.length)), hd]
    congr 1; omega
theorem ltA_r (h : OutOk n out W V) (hs : below s W = true) (hl : below l W = true) (hn : 1 ≤ n.length) (hl1 : 1 ≤ l.length) (t : Nat) : 0 ≤ ltA n out W s l t ∧ ltA n out W s l t < W * V := by
  have b := let_below hl1 hs hl t
  have r := runQ_range h.1 (q := 0) ⟨by omega, by omega⟩ (let_below hl1 hs hl) t
  have a := h.at r b
  have h2 : nth (nth out (runQ n 0 (letN s l) t).toNat) (letN s l t).toNat * W ≤ (V - 1) * W := Int.mul_le_mul_of_nonneg_right (by omega) (by omega)
  have h3 : (V - 1) * W = W * V - W := by rw [Int.sub_mul, Int.mul_comm]; omega
  have h4 : 0 ≤ nth (nth out (runQ n 0 (letN s l) t).toNat) (letN s l t).toNat * W := Int.mul_nonneg a.2.1 (by omega)
  unfold ltA
  omega
theorem ltR_below (h : OutOk n out W V) (hs : below s W = true) (hl : below l W = true) (hn : 1 ≤ n.length) (hl1 : 1 ≤ l.length) : below (ltR n out W s l k) (W * V) = true := below_iff.2 fun j hj => by
  rw [ltR_at hl1 k j (by rw [ltR_len] at hj; exact hj)]; exact ltA_r h hs hl hn hl1 j
theorem run_law {o : Int} (hm : machB 1 o n out = true) (h5 : n.length ≤ 5) (hs : below s 2 = true) (hl : below l 2 = true) (h3 : s.length ≤ 3) (h4 : 1 ≤ l.length ∧ l.length ≤ 4) :
    ((runW 1 o n out s l).1.length ≤ 600 ∧ (runW 1 o n out s l).2.length ≤ 600) ∧ wordB (runW 1 o n out s l).1 (runW 1 o n out s l).2 (lettersB 1 o) = true ∧ wordB (runW 1 o n out s l).1 (runW 1 o n out s l).2 16 = true ∧
    ∀ xs : List Int, xs.length ≤ 600 → (∀ t, t < xs.length → nth xs t = letN s l t) → (outB 1 o n out xs).length = xs.length ∧ ∀ t, t < xs.length → letN (runW 1 o n out s l).1 (runW 1 o n out s l).2 t = letterB 1 o (nth xs t) (nth (outB 1 o n out xs) t) := by
  have r := machB_r hm
  have p := sig_pw r.1
  have e1 : pw 1 = 2 := rfl
  have ho : OutOk n out 2 (pw o) := machB_out hm
  obtain ⟨a, k, h1, h2, hS, hL, h6⟩ := run_parts (out := out) ho.1 hs hl r.2.1 r.2.2.1 h4.1
  have hak : a * l.length + l.length ≤ k * l.length := by rw [← Nat.succ_mul]; exact Nat.mul_le_mul_right _ h1
  have hk : k * l.length ≤ 5 * 4 := Nat.mul_le_mul (by omega) h4.2
  have eS : (rwS n out 2 s l).length = s.length + a * l.length := by rw [hS, List.length_take, ltR_len]; omega
  have eL : (rwL n out 2 s l).length = k * l.length - a * l.length := by rw [hL, List.length_drop, ltR_len]; omega
  have hw : wordB s l (pw 1) = true := by
    unfold wordB; simp only [Bool.and_eq_true, decide_eq_true_eq]; exact ⟨⟨⟨⟨by omega, by omega⟩, by omega⟩, hs⟩, hl⟩
  have hok : runOk n out (pw 1) s l = true := by
    unfold runOk; rw [e1]; simp only [Bool.and_eq_true, decide_eq_true_eq]; omega
  have e : runW 1 o n out s l = (rwS n out 2 s l, rwL n out 2 s l) := by
    unfold runW; rw [if_pos (by rw [hm, hw, hok]; rfl)]; rfl
  rw [e]
  have hb := ltR_below (k := k) ho hs hl r.2.1 h4.1
  have hbS : below (rwS n out 2 s l) (2 * pw o) = true := by
    rw [hS, below_iff]; intro j hj
    rw [List.length_take] at hj
    rw [nth_take _ _ _ (by omega)]; exact below_iff.1 hb j (by omega)
  have hbL : below (rwL n out 2 s l) (2 * pw o) = true := by
    rw [hL, below_iff]; intro j hj
    rw [List.length_drop] at hj
    rw [nth_drop]; exact below_iff.1 hb _ (by omega)
  have eN : lettersB 1 o = 2 * pw o := by rw [p.2.2.2.2.2.2.2.2.2.2.1, p.2.2.2.2.2.2.2.2.2.2.2.1, e1]
  have w1 : wordB (rwS n out 2 s l) (rwL n out 2 s l) (lettersB 1 o) = true := by
    rw [eN]; unfold wordB; simp only [Bool.and_eq_true, decide_eq_true_eq]; exact ⟨⟨⟨⟨by omega, by omega⟩, by omega⟩, hbS⟩, hbL⟩
  refine ⟨⟨by show (rwS n out 2 s l).length ≤ 600; omega, by show (rwL n out 2 s l).length ≤ 600; omega⟩, w1, wordB_more w1 (by omega), fun xs hx hf => ?_⟩
  have hbx : below xs (pw 1) = true := below_iff.2 fun j hj => by rw [hf j hj]; exact let_below h4.1 hs hl j
  have hc : canB 1 o n out xs = true := by unfold canB; rw [hm, hbx, decide_eq_true hx]; rfl
  have eo : outB 1 o n out xs = outsN n out 0 xs := by unfold outB; rw [if_pos hc]
  rw [eo]
  refine ⟨outsN_len, fun t ht => ?_⟩
  have q1 := let_below h4.1 hs hl t
  have q2 := runQ_range ho.1 (q := 0) ⟨by omega, by omega⟩ (let_below h4.1 hs hl) t
  have q3 := ho.at q2 q1
  show letN (rwS n out 2 s l) (rwL n out 2 s l) t = _
  rw [run_let ho.1 hs hl r.2.1 r.2.2.1 h4.1 t, outsN_run (f := letN s l) (fun i hi => (hf i hi).symm) t ht, hf t ht]
  unfold letterB
  rw [if_pos ⟨r.1, q1.1, by rw [e1]; exact q1.2, q3.2.1, q3.2.2⟩]
  rfl
def lisR (s l : List Int) (k : Nat) : List Int := (List.range k).map (letN s l)
theorem lisR_len : (lisR s l k).length = k := by simp [lisR]
theorem lisR_succ : lisR s l k ++ [letN s l k] = lisR s l (k + 1) := by simp [lisR, List.range_succ]
theorem lisR_nth {t : Nat} (h : t < k) : nth (lisR s l k) t = letN s l t := by
  rw [nth_eq (by rw [lisR_len]; exact h)]; simp [lisR]
theorem lisR_step (hs : below s 2 = true) (hl : below l 2 = true) (h3 : s.length ≤ 3) (h4 : 1 ≤ l.length ∧ l.length ≤ 4) : lisR s l k ++ [if wordB s l 16 = true ∧ 0 ≤ (k : Int) then atW s l k else -1] = lisR s l (k + 1) := by
  have hw : wordB s l 16 = true := wordB_more (n := 2) (by
    unfold wordB; simp only [Bool.and_eq_true, decide_eq_true_eq]; exact ⟨⟨⟨⟨by omega, by omega⟩, by omega⟩, hs⟩, hl⟩) (by omega)
  rw [if_pos ⟨hw, by omega⟩, atW_nat, lisR_succ]
theorem runs_law {o : Int} (hm : machB 1 o n out = true) (h5 : n.length ≤ 5) (hs : below s 2 = true) (hl : below l 2 = true) (h3 : s.length ≤ 3) (h4 : 1 ≤ l.length ∧ l.length ≤ 4) :
    ((runW 1 o n out s l).1.length ≤ 600 ∧ (runW 1 o n out s l).2.length ≤ 600) ∧ (sigB 1 o && wordB (runW 1 o n out s l).1 (runW 1 o n out s l).2 (lettersB 1 o)) = true ∧ (outB 1 o n out (lisR s l 30)).length = 30 ∧
    ∀ t : Nat, t < 30 → (if wordB (runW 1 o n out s l).1 (runW 1 o n out s l).2 16 = true ∧ 0 ≤ (t : Int) then atW (runW 1 o n out s l).1 (runW 1 o n out s l).2 t else -1) = letterB 1 o (nth (lisR s l 30) t) (nth (outB 1 o n out (lisR s l 30)) t) := by
  obtain ⟨a1, a2, a3, a4⟩ := run_law hm h5 hs hl h3 h4
  obtain ⟨b1, b2⟩ := a4 (lisR s l 30) (by rw [lisR_len]; omega) fun t ht => lisR_nth (by rw [lisR_len] at ht; exact ht)
  rw [lisR_len] at b1 b2
  refine ⟨a1, by rw [(machB_r hm).1, a2]; rfl, b1, fun t ht => ?_⟩
  rw [if_pos ⟨a3, by omega⟩, atW_nat]; exact b2 t ht
theorem drawn_len {bs : List Int} {o : Int} (h : 1 ≤ o ∧ o ≤ 2) (s : Nat × Int) : (machD bs o 5 s).1.1.length ≤ 5 := by
  have r := rollX_rng (bs := bs) (show (0 : Int) < 5 by omega) s
  have ho : 0 < outsD o := by unfold outsD; split <;> omega
  obtain ⟨h1, _, _⟩ := mmach_ok (bs := bs) (n := 1 + rollX bs 5 s) (o := outsD o) (by omega) ho (1 + rollX bs 5 s).toNat [] [] (dieS bs s) (by simp) (by simp) rfl
  change ((machD bs o 5 s).1.1.length = _ ∧ _) at h1
  simp only [List.length_nil, Nat.zero_add] at h1
  omega
theorem lst_two {bs : List Int} {k : Nat} {s : Nat × Int} : below (lstD bs 2 k [] s).1 2 = true := lstD_below (by omega) k [] s (below_nil 2)
end
end Go.Proofs.Ytabfpoflhacknaa

