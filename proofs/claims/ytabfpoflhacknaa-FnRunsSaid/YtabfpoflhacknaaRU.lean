/- Machines run over endless words: the letters, lap by lap, until a state comes back. No program in sight; no conditions. -/
import Derived.Test.YtabfpoflhacknaaMX
import Derived.Test.YtabfpoflhacknaaMN
set_option linter.unusedSimpArgs false
set_option linter.unusedVariables false
namespace Go.Proofs.Ytabfpoflhacknaa
open Go.RowKit
open Shp
def bgR (n : List (List Int)) (s l : List Int) (k : Nat) : Int := it (lapN n l) k (goN n 0 s)
def bgsR (n : List (List Int)) (s l : List Int) (k : Nat) : List Int := (List.range k).map fun j => bgR n s l j
def ltR (n out : List (List Int)) (W : Int) (s l : List Int) : Nat → List Int
  | 0 => letN2 n out W 0 s
  | k + 1 => ltR n out W s l k ++ letN2 n out W (bgR n s l k) l
def KR (n : List (List Int)) (s l : List Int) : Nat := (firstN 49 fun k => has (bgsR n s l k) (bgR n s l k)).toNat
def iR (n : List (List Int)) (s l : List Int) : Nat := (place (bgsR n s l (KR n s l)) (bgR n s l (KR n s l))).toNat
def atR (n : List (List Int)) (s l : List Int) : Nat := s.length + iR n s l * l.length
def rwS (n out : List (List Int)) (W : Int) (s l : List Int) : List Int := (ltR n out W s l (KR n s l)).take (atR n s l)
def rwL (n out : List (List Int)) (W : Int) (s l : List Int) : List Int := (ltR n out W s l (KR n s l)).drop (atR n s l)
def runOk (n out : List (List Int)) (W : Int) (s l : List Int) : Bool := decide ((rwS n out W s l).length ≤ 600) && decide ((rwL n out W s l).length ≤ 600)
def runW (i o : Int) (n out : List (List Int)) (s l : List Int) : List Int × List Int := if (machB i o n out && wordB s l (pw i) && runOk n out (pw i) s l) = true then (rwS n out (pw i) s l, rwL n out (pw i) s l) else ([], [])
section
variable {n out : List (List Int)} {W V : Int} {s l : List Int} {k : Nat}
theorem bgsR_len : (bgsR n s l k).length = k := by simp [bgsR]
theorem bgsR_nth {j : Nat} (h : j < k) : nth (bgsR n s l k) j = bgR n s l j := by
  rw [nth_eq (by rw [bgsR_len]; exact h)]; simp [bgsR]
theorem bgsR_succ : bgsR n s l k ++ [bgR n s l k] = bgsR n s l (k + 1) := by simp [bgsR, List.range_succ]
theorem bgR_succ : goN n (bgR n s l k) l = bgR n s l (k + 1) := by unfold bgR; rw [it_succ]
theorem ltR_len : (ltR n out W s l k).length = s.length + k * l.length := by
  induction k with
  | zero => simp [ltR, letN2_len]
  | succ k ih => rw [ltR, List.length_append, ih, letN2_len, Nat.succ_mul]; omega
theorem bgR_in (hg : GoOk n W) (hs : below s W = true) (hl : below l W = true) (hn : 1 ≤ n.length) : 0 ≤ bgR n s l k ∧ bgR n s l k < (n.length : Int) :=
  lap_in hg hl (goN_range hg hs (q := 0) ⟨by omega, by omega⟩) k
theorem bgs_few (hg : GoOk n W) (hs : below s W = true) (hl : below l W = true) (hn : 1 ≤ n.length) (h : ∀ z, z < k → has (bgsR n s l z) (bgR n s l z) = false) : k ≤ n.length := by
  have hnd : (bgsR n s l k).Nodup := by
    induction k with
    | zero => simp [bgsR]
    | succ k ih =>
      rw [← bgsR_succ]
      exact nodup_snoc (ih fun z hz => h z (by omega)) fun hm => by
        have := h k (by omega)
        rw [has_iff.2 hm] at this; cases this
  have := nodup_len n.length _ hnd fun x hx => by
    obtain ⟨j, hj, rfl⟩ := mem_nth hx
    rw [bgsR_len] at hj
    rw [bgsR_nth hj]; exact bgR_in hg hs hl hn
  rwa [bgsR_len] at this
theorem KR_at (hk : k ≤ 48) (h : ∀ z, z < k → has (bgsR n s l z) (bgR n s l z) = false) (h1 : has (bgsR n s l k) (bgR n s l k) = true) : KR n s l = k := by
  unfold KR
  rw [firstN_at k (by omega) h1 h]; rfl
theorem iR_at (hK : KR n s l = k) (h1 : has (bgsR n s l k) (bgR n s l k) = true) : place (bgsR n s l k) (bgR n s l k) = (iR n s l : Int) ∧ iR n s l < k ∧ bgR n s l (iR n s l) = bgR n s l k := by
  obtain ⟨j, j1, j2, j3⟩ := place_spec (has_iff.1 h1)
  have e : iR n s l = j := by unfold iR; rw [hK, j2]; rfl
  rw [bgsR_len] at j1
  rw [bgsR_nth j1] at j3
  rw [e]; exact ⟨j2, j1, j3⟩
theorem run_bd (hk : k ≤ 48) (h : ∀ z, z < k → has (bgsR n s l z) (bgR n s l z) = false) (h1 : has (bgsR n s l k) (bgR n s l k) = true) : ∃ c : Nat, place (bgsR n s l k) (bgR n s l k) * (l.length : Int) = (c : Int) ∧ c ≤ k * l.length ∧ atR n s l = s.length + c := by
  have e := iR_at (KR_at hk h h1) h1
  refine ⟨iR n s l * l.length, ?_, Nat.mul_le_mul_right _ (by omega), rfl⟩
  rw [e.1]; simp
theorem run_S (hk : k ≤ 48) (h : ∀ z, z < k → has (bgsR n s l z) (bgR n s l z) = false) (h1 : has (bgsR n s l k) (bgR n s l k) = true) : ([] ++ List.take (((s.length : Int) + place (bgsR n s l k) (bgR n s l k) * (l.length : Int)).toNat - ((0 : Nat) : Int).toNat) (List.drop (0 + ((0 : Nat) : Int).toNat) (ltR n out W s l k))) = rwS n out W s l := by
  obtain ⟨c, c1, c2, c3⟩ := run_bd hk h h1
  have e : ((s.length : Int) + (c : Int)).toNat = s.length + c := by omega
  unfold rwS
  rw [c1, e, KR_at hk h h1, c3]; simp
theorem run_T (hk : k ≤ 48) (h : ∀ z, z < k → has (bgsR n s l z) (bgR n s l z) = false) (h1 : has (bgsR n s l k) (bgR n s l k) = true) : ([] ++ List.take (((s.length : Int) + place (bgsR n s l k) (bgR n s l k) * (l.length : Int)).toNat - ((0 : Nat) : Int).toNat) (ltR n out W s l k)) = rwS n out W s l := run_S hk h h1
theorem run_L (hk : k ≤ 48) (h : ∀ z, z < k → has (bgsR n s l z) (bgR n s l z) = false) (h1 : has (bgsR n s l k) (bgR n s l k) = true) : ([] ++ List.take (((ltR n out W s l k).length : Int).toNat - ((s.length : Int) + place (bgsR n s l k) (bgR n s l k) * (l.length : Int)).toNat) (List.drop (0 + ((s.length : Int) + place (bgsR n s l k) (bgR n s l k) * (l.length : Int)).toNat) (ltR n out W s l k))) = rwL n out W s l := by
  obtain ⟨c, c1, c2, c3⟩ := run_bd hk h h1
  have e : ((s.length : Int) + (c : Int)).toNat = s.length + c := by omega
  unfold rwL
  rw [c1, e, KR_at hk h h1, c3]
  simp only [List.nil_append, Nat.zero_add, Int.toNat_natCast]
  exact List.take_of_length_le (by rw [List.length_drop]; omega)
theorem run_ok1 (h : ((rwS n out W s l).length : Int) ≤ 600) : decide (((rwL n out W s l).length : Int) ≤ 600) = runOk n out W s l := by
  unfold runOk
  rw [decide_eq_true (show (rwS n out W s l).length ≤ 600 by omega), Bool.true_and]
  exact decide_eq_decide.2 (by omega)
theorem run_ok0 (h : 600 < ((rwS n out W s l).length : Int)) : false = runOk n out W s l := by
  unfold runOk
  rw [decide_eq_false (show ¬ (rwS n out W s l).length ≤ 600 by omega), Bool.false_and]
end
end Go.Proofs.Ytabfpoflhacknaa

