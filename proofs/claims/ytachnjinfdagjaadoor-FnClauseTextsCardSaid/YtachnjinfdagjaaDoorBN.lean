/- A text bent by draws. No program in sight; no conditions. -/
import Derived.Test.YtachnjinfdagjaaDoorDR
import Derived.Test.YtachnjinfdagjaaDoorKG
import Derived.Test.YtachnjinfdagjaaDoorTV
import Derived.Test.YtachnjinfdagjaaDoorDM
set_option linter.unusedSimpArgs false
set_option linter.unusedVariables false
namespace Go.Proofs.YtachnjinfdagjaaDoor
open Go.RowKit
open Shp
def bytI (s : ByteArray) : List Int := s.data.toList.map fun b => (b.toNat : Int)
def txtO (b : List Int) : ByteArray := ⟨(b.map fun n => UInt8.ofNat n.toNat).toArray⟩
theorem bytI_len (s : ByteArray) : (bytI s).length = s.size := by unfold bytI; rw [List.length_map]; exact Array.length_toList
theorem txtO_size (b : List Int) : (txtO b).size = b.length := by show (List.toArray _).size = _; simp
theorem bytI_rng (s : ByteArray) : ∀ y ∈ bytI s, 0 ≤ y ∧ y < 256 := fun y hy => by
  obtain ⟨b, _, rfl⟩ := List.mem_map.1 hy
  have := b.toNat_lt; omega
theorem SBY_int (s : ByteArray) : SBY s ((bytI s).map (GV.int .u8)) s.size := ⟨by unfold bytI; rw [List.map_map]; rfl, rfl⟩
theorem BYT_ints {ys : List Int} {len : Nat} (hb : HY (∀ y ∈ ys, 0 ≤ y ∧ y < 256)) (h : NU (len ≤ ys.length)) : BYT (ys.map (GV.int .u8)) 0 len ((ys.take len).map fun n => UInt8.ofNat n.toNat) := ⟨by
  rw [List.drop_zero, ← List.map_take, List.map_map]
  refine List.map_congr_left fun y hy => ?_
  have := hb.e y (List.mem_of_mem_take hy)
  show GV.int .u8 y = byteG (UInt8.ofNat y.toNat)
  unfold byteG
  rw [UInt8.toNat_ofNat_of_lt' (by show y.toNat < 256; omega), Int.toNat_of_nonneg this.1], by have := h.e; rw [List.length_map]; omega⟩
def bend1 (bs : List Int) (sg : ByteArray) (b : List Int) (s : Nat × Int) : List Int × (Nat × Int) :=
  if belowX bs 4 (belowS bs b.length s) = 0 then
    (b.set (belowX bs b.length s).toNat (bat sg (belowX bs sg.size (belowS bs 4 (belowS bs b.length s))).toNat), belowS bs sg.size (belowS bs 4 (belowS bs b.length s)))
  else if belowX bs 4 (belowS bs b.length s) = 1 then (b.take (belowX bs b.length s).toNat, belowS bs 4 (belowS bs b.length s))
  else if belowX bs 4 (belowS bs b.length s) = 2 then (b.take (belowX bs b.length s).toNat ++ b.drop ((belowX bs b.length s).toNat + 1), belowS bs 4 (belowS bs b.length s))
  else if belowX bs 4 (belowS bs b.length s) = 3 then
    (b.take (belowX bs b.length s).toNat ++ [(bat sg (belowX bs sg.size (belowS bs 4 (belowS bs b.length s))).toNat : Int)] ++ b.drop (belowX bs b.length s).toNat, belowS bs sg.size (belowS bs 4 (belowS bs b.length s)))
  else (b, belowS bs 4 (belowS bs b.length s))
def bendC (bs : List Int) (sg : ByteArray) : Nat → List Int → Nat × Int → List Int × (Nat × Int)
  | 0, b, s => (b, s)
  | n + 1, b, s => if b.length = 0 then (b, s) else bendC bs sg n (bend1 bs sg b s).1 (bend1 bs sg b s).2
theorem bend1_len {bs : List Int} {sg : ByteArray} {b : List Int} {s : Nat × Int} : (bend1 bs sg b s).1.length ≤ b.length + 1 := by
  unfold bend1
  split
  · simp
  · split
    · simp; omega
    · split
      · simp; omega
      · split
        · simp; omega
        · simp
theorem bendC_len {bs : List Int} {sg : ByteArray} : ∀ (n : Nat) (b : List Int) (s : Nat × Int), (bendC bs sg n b s).1.length ≤ b.length + n
  | 0, b, s => Nat.le_refl _
  | n + 1, b, s => by
    simp only [bendC]
    split
    · simp
    · have h1 := bendC_len (bs := bs) (sg := sg) n (bend1 bs sg b s).1 (bend1 bs sg b s).2
      have h2 := bend1_len (bs := bs) (sg := sg) (b := b) (s := s)
      omega
def bendT (bs : List Int) (tx sg : ByteArray) (s : Nat × Int) : List Int × (Nat × Int) := bendC bs sg (belowX bs 3 s).toNat (bytI tx) (belowS bs 3 s)
def bnK (bs : List Int) (m : Nat) (t : Nat × Int) : Nat := (belowX bs (m : Int) t).toNat
theorem bnK_lt {bs : List Int} {m : Nat} {t : Nat × Int} (hm : 0 < (m : Int)) : bnK bs m t < m := by
  have := (belowX_rng bs (m : Int) t).2 hm
  have := (belowX_rng bs (m : Int) t).1
  unfold bnK; omega
theorem bat_lt (s : ByteArray) (k : Nat) : bat s k < 256 := by unfold bat; exact UInt8.toNat_lt _
theorem bendC_step {bs : List Int} {sg : ByteArray} {k m : Nat} {ys : List Int} {t : Nat × Int} {R : List Int × (Nat × Int)} {b : List Int} {t' : Nat × Int} (h1 : bendC bs sg k (ys.take m) t = R) (hk : 0 < (k : Int)) (hm : 0 < (m : Int)) (h2 : m ≤ ys.length) (hb : bend1 bs sg (ys.take m) t = (b, t')) : bendC bs sg (k - 1) b t' = R := by
  obtain ⟨j, rfl⟩ : ∃ j, k = j + 1 := ⟨k - 1, by omega⟩
  simp only [bendC] at h1
  rw [if_neg (by rw [List.length_take]; omega), hb] at h1
  exact h1
theorem take_m {ys : List Int} {m : Nat} (h2 : m ≤ ys.length) : (ys.take m).length = m := by rw [List.length_take]; omega
variable {bs : List Int} {sg : ByteArray} {k m N : Nat} {ys : List Int} {t : Nat × Int} {R : List Int × (Nat × Int)}
theorem bok0 (h1 : bendC bs sg k (ys.take m) t = R) (h2 : m ≤ ys.length) (h3 : m + k ≤ N) (h4 : ∀ y ∈ ys, 0 ≤ y ∧ y < 256) (hk : 0 < (k : Int)) (hm : 0 < (m : Int)) (hc : belowX bs 4 (belowS bs (m : Int) t) = 0) :
    bendC bs sg (k - 1) ((ys.set (belowX bs (m : Int) t).toNat (bat sg (belowX bs (sg.size : Int) (belowS bs 4 (belowS bs (m : Int) t))).toNat : Int)).take m) (belowS bs (sg.size : Int) (belowS bs 4 (belowS bs (m : Int) t))) = R ∧
    m ≤ (ys.set (belowX bs (m : Int) t).toNat (bat sg (belowX bs (sg.size : Int) (belowS bs 4 (belowS bs (m : Int) t))).toNat : Int)).length ∧ m + (k - 1) ≤ N ∧
    ∀ y ∈ ys.set (belowX bs (m : Int) t).toNat (bat sg (belowX bs (sg.size : Int) (belowS bs 4 (belowS bs (m : Int) t))).toNat : Int), 0 ≤ y ∧ y < 256 := by
  refine ⟨?_, by rw [List.length_set]; exact h2, by omega, fun y hy => ?_⟩
  · rw [List.take_set]
    refine bendC_step h1 hk hm h2 ?_
    unfold bend1
    rw [take_m h2, if_pos hc]
  · rcases List.mem_or_eq_of_mem_set hy with h | rfl
    · exact h4 y h
    · have := bat_lt sg (belowX bs (sg.size : Int) (belowS bs 4 (belowS bs (m : Int) t))).toNat
      omega
theorem bok1 (h1 : bendC bs sg k (ys.take m) t = R) (h2 : m ≤ ys.length) (h3 : m + k ≤ N) (h4 : ∀ y ∈ ys, 0 ≤ y ∧ y < 256) (hk : 0 < (k : Int)) (hm : 0 < (m : Int)) (hc : belowX bs 4 (belowS bs (m : Int) t) = 1) :
    bendC bs sg (k - 1) (ys.take (belowX bs (m : Int) t).toNat) (belowS bs 4 (belowS bs (m : Int) t)) = R ∧ (belowX bs (m : Int) t).toNat ≤ ys.length ∧ (belowX bs (m : Int) t).toNat + (k - 1) ≤ N ∧ ∀ y ∈ ys, 0 ≤ y ∧ y < 256 := by
  have hK : (belowX bs (m : Int) t).toNat < m := bnK_lt hm
  refine ⟨?_, by omega, by omega, h4⟩
  refine bendC_step h1 hk hm h2 ?_
  unfold bend1
  rw [take_m h2, if_neg (by omega), if_pos hc, List.take_take, Nat.min_eq_left (by omega)]
theorem bok2 (h1 : bendC bs sg k (ys.take m) t = R) (h2 : m ≤ ys.length) (h3 : m + k ≤ N) (h4 : ∀ y ∈ ys, 0 ≤ y ∧ y < 256) (hk : 0 < (k : Int)) (hm : 0 < (m : Int)) (hc : belowX bs 4 (belowS bs (m : Int) t) = 2) :
    bendC bs sg (k - 1) ((ys.take (belowX bs (m : Int) t).toNat ++ (ys.drop ((belowX bs (m : Int) t).toNat + 1)).take (m - ((belowX bs (m : Int) t).toNat + 1))).take (ys.take (belowX bs (m : Int) t).toNat ++ (ys.drop ((belowX bs (m : Int) t).toNat + 1)).take (m - ((belowX bs (m : Int) t).toNat + 1))).length) (belowS bs 4 (belowS bs (m : Int) t)) = R ∧
    (ys.take (belowX bs (m : Int) t).toNat ++ (ys.drop ((belowX bs (m : Int) t).toNat + 1)).take (m - ((belowX bs (m : Int) t).toNat + 1))).length ≤ (ys.take (belowX bs (m : Int) t).toNat ++ (ys.drop ((belowX bs (m : Int) t).toNat + 1)).take (m - ((belowX bs (m : Int) t).toNat + 1))).length ∧
    (ys.take (belowX bs (m : Int) t).toNat ++ (ys.drop ((belowX bs (m : Int) t).toNat + 1)).take (m - ((belowX bs (m : Int) t).toNat + 1))).length + (k - 1) ≤ N ∧
    ∀ y ∈ ys.take (belowX bs (m : Int) t).toNat ++ (ys.drop ((belowX bs (m : Int) t).toNat + 1)).take (m - ((belowX bs (m : Int) t).toNat + 1)), 0 ≤ y ∧ y < 256 := by
  have hK : (belowX bs (m : Int) t).toNat < m := bnK_lt hm
  refine ⟨?_, Nat.le_refl _, ?_, fun y hy => ?_⟩
  · rw [List.take_length]
    refine bendC_step h1 hk hm h2 ?_
    unfold bend1
    rw [take_m h2, if_neg (by omega), if_neg (by omega), if_pos hc, List.take_take, Nat.min_eq_left (by omega), List.drop_take]
  · rw [List.length_append, List.length_take, List.length_take, List.length_drop]; omega
  · rcases List.mem_append.1 hy with h | h
    · exact h4 y (List.mem_of_mem_take h)
    · exact h4 y (List.mem_of_mem_drop (List.mem_of_mem_take h))
theorem bok3 (h1 : bendC bs sg k (ys.take m) t = R) (h2 : m ≤ ys.length) (h3 : m + k ≤ N) (h4 : ∀ y ∈ ys, 0 ≤ y ∧ y < 256) (hk : 0 < (k : Int)) (hm : 0 < (m : Int)) (hc : belowX bs 4 (belowS bs (m : Int) t) = 3) :
    bendC bs sg (k - 1) ((ys.take (belowX bs (m : Int) t).toNat ++ [(bat sg (belowX bs (sg.size : Int) (belowS bs 4 (belowS bs (m : Int) t))).toNat : Int)] ++ (ys.drop (belowX bs (m : Int) t).toNat).take (m - (belowX bs (m : Int) t).toNat)).take (ys.take (belowX bs (m : Int) t).toNat ++ [(bat sg (belowX bs (sg.size : Int) (belowS bs 4 (belowS bs (m : Int) t))).toNat : Int)] ++ (ys.drop (belowX bs (m : Int) t).toNat).take (m - (belowX bs (m : Int) t).toNat)).length) (belowS bs (sg.size : Int) (belowS bs 4 (belowS bs (m : Int) t))) = R ∧
    (ys.take (belowX bs (m : Int) t).toNat ++ [(bat sg (belowX bs (sg.size : Int) (belowS bs 4 (belowS bs (m : Int) t))).toNat : Int)] ++ (ys.drop (belowX bs (m : Int) t).toNat).take (m - (belowX bs (m : Int) t).toNat)).length ≤ (ys.take (belowX bs (m : Int) t).toNat ++ [(bat sg (belowX bs (sg.size : Int) (belowS bs 4 (belowS bs (m : Int) t))).toNat : Int)] ++ (ys.drop (belowX bs (m : Int) t).toNat).take (m - (belowX bs (m : Int) t).toNat)).length ∧
    (ys.take (belowX bs (m : Int) t).toNat ++ [(bat sg (belowX bs (sg.size : Int) (belowS bs 4 (belowS bs (m : Int) t))).toNat : Int)] ++ (ys.drop (belowX bs (m : Int) t).toNat).take (m - (belowX bs (m : Int) t).toNat)).length + (k - 1) ≤ N ∧
    ∀ y ∈ ys.take (belowX bs (m : Int) t).toNat ++ [(bat sg (belowX bs (sg.size : Int) (belowS bs 4 (belowS bs (m : Int) t))).toNat : Int)] ++ (ys.drop (belowX bs (m : Int) t).toNat).take (m - (belowX bs (m : Int) t).toNat), 0 ≤ y ∧ y < 256 := by
  have hK : (belowX bs (m : Int) t).toNat < m := bnK_lt hm
  refine ⟨?_, Nat.le_refl _, ?_, fun y hy => ?_⟩
  · rw [List.take_length]
    refine bendC_step h1 hk hm h2 ?_
    unfold bend1
    rw [take_m h2, if_neg (by omega), if_neg (by omega), if_neg (by omega), if_pos hc, List.take_take, Nat.min_eq_left (by omega), List.drop_take]
  · rw [List.length_append, List.length_append, List.length_take, List.length_take, List.length_drop, List.length_singleton]; omega
  · rcases List.mem_append.1 hy with h | h
    · rcases List.mem_append.1 h with h | h
      · exact h4 y (List.mem_of_mem_take h)
      · rw [List.mem_singleton.1 h]
        have := bat_lt sg (belowX bs (sg.size : Int) (belowS bs 4 (belowS bs (m : Int) t))).toNat
        omega
    · exact h4 y (List.mem_of_mem_drop (List.mem_of_mem_take h))
theorem bend_end (h1 : bendC bs sg k (ys.take m) t = R) (hk : (k : Int) ≤ 0 ∨ (m : Int) ≤ 0) : R = (ys.take m, t) := by
  cases k with
  | zero => exact h1.symm
  | succ k =>
    have hm : m = 0 := by omega
    subst hm
    rw [← h1]
    simp [bendC]
def dcN (bs : List Int) : Int := max (lettersB (1 + belowX bs 2 (newS bs)) (1 + belowX bs 2 (belowS bs 2 (newS bs)))) 2
def dcS (bs : List Int) : Nat × Int := belowS bs 2 (belowS bs 2 (newS bs))
def dcX (bs : List Int) : (Int × List Int × List Int) × (Nat × Int) := clA bs (dcN bs) (dcS bs)
def dtX (bs : List Int) : (Int × List Int × List Int) × (Nat × Int) := clC bs (dcN bs) (dcS bs)
def signsT : ByteArray := ⟨#[48, 49, 44, 45, 32, 97, 101, 102, 105, 110, 111, 116, 120]⟩
def dtC (bs : List Int) : ByteArray := clText (dtX bs).1.1 (dtX bs).1.2.1 (dtX bs).1.2.2
def dtT (bs : List Int) : ByteArray := if onceB bs 2 (dtX bs).2 = true then dtC bs else txtO (bendT bs (dtC bs) signsT (belowS bs 2 (dtX bs).2)).1
theorem clText_sz (k : Int) (a b : List Int) : (clText k a b).size ≤ 82 := by
  by_cases h : clauseB 16 k a b = true
  · exact text_sz h
  · unfold clText; rw [if_neg h]; exact Nat.zero_le _
theorem dtT_sz (bs : List Int) : (dtT bs).size ≤ 100 := by
  unfold dtT
  split
  · have := clText_sz (dtX bs).1.1 (dtX bs).1.2.1 (dtX bs).1.2.2
    unfold dtC; omega
  · rw [txtO_size]
    unfold bendT
    have h1 := bendC_len (bs := bs) (sg := signsT) (belowX bs 3 (belowS bs 2 (dtX bs).2)).toNat (bytI (dtC bs)) (belowS bs 3 (belowS bs 2 (dtX bs).2))
    rw [bytI_len] at h1
    have h2 := clText_sz (dtX bs).1.1 (dtX bs).1.2.1 (dtX bs).1.2.2
    have h3 := belowX_rng bs 3 (belowS bs 2 (dtX bs).2)
    have h4 := h3.2 (by omega)
    unfold dtC at h1 ⊢
    omega
theorem text_or (k : Int) (a b : List Int) : (clText k a b).toList = (⟨#[]⟩ : ByteArray).toList ∨ txS (clText k a b) = ((k, a, b), true) := by
  by_cases h : clauseB 16 k a b = true
  · exact .inr (by rw [← txI_txS]; exact read_text h)
  · left; unfold clText; rw [if_neg h]
theorem eqInts_self (xs : List Int) : eqInts xs xs = true := eqInts_iff.2 rfl
theorem read_back (t : ByteArray) (h : (txS t).2 = true) : clText (txS t).1.1 (txS t).1.2.1 (txS t).1.2.2 = t := by
  rw [← txI_txS] at h ⊢
  exact (text_read h).2
end Go.Proofs.YtachnjinfdagjaaDoor

