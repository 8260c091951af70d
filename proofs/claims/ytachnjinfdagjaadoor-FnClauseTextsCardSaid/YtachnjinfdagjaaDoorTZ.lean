/- Clauses and their texts: reading is the inverse of writing; both readers agree. No program in sight; no conditions. -/
import Derived.Test.YtachnjinfdagjaaDoorTY
set_option linter.unusedSimpArgs false
set_option linter.unusedVariables false
namespace Go.Proofs.YtachnjinfdagjaaDoor
open Go.RowKit
open Shp
theorem ba_list {a b : ByteArray} (h : a.data.toList = b.data.toList) : a = b := by apply ByteArray.ext; exact Array.toList_inj.1 h
theorem app_list (a b : ByteArray) : (a ++ b).data.toList = a.data.toList ++ b.data.toList := by rw [ByteArray.data_append, Array.toList_append]
theorem sz_list (s : ByteArray) : s.data.toList.length = s.size := Array.length_toList
theorem bat_list {s : ByteArray} {l : List UInt8} (h : s.data.toList = l) (i : Nat) : bat s i = (l.getD i 0).toNat := by
  subst h
  unfold bat
  rw [Array.getD_eq_getD_getElem?, List.getD_eq_getElem?_getD, Array.getElem?_toList]
theorem num_one {s : ByteArray} {a : UInt8} (h : s.data.toList = [a]) : numW s = (a.toNat : Int) - 48 := by
  have hs : s.size = 1 := by rw [← sz_list, h]; rfl
  unfold numW
  rw [hs]
  simp only [numN, bat_list h]
  show 0 * 10 + ((a.toNat : Int) - 48) = _
  omega
theorem num_two {s : ByteArray} {a b : UInt8} (h : s.data.toList = [a, b]) : numW s = ((a.toNat : Int) - 48) * 10 + ((b.toNat : Int) - 48) := by
  have hs : s.size = 2 := by rw [← sz_list, h]; rfl
  unfold numW
  rw [hs]
  simp only [numN, bat_list h]
  show (0 * 10 + ((a.toNat : Int) - 48)) * 10 + ((b.toNat : Int) - 48) = _
  omega
theorem u8_of {n : Nat} (h : n < 256) : (UInt8.ofNat n).toNat = n := by rw [UInt8.toNat_ofNat']; exact Nat.mod_eq_of_lt h
theorem dec_one {n : Int} (h : 0 ≤ n ∧ n < 10) : (decT n).data.toList = [UInt8.ofNat (48 + n).toNat] := by rw [decT_small h]
theorem dec_two {n : Int} (h : 10 ≤ n ∧ n < 100) : (decT n).data.toList = [UInt8.ofNat (48 + n / 10).toNat, UInt8.ofNat (48 + n % 10).toNat] := by
  rw [decT_big h.1, app_list, dec_one (n := n / 10) (by omega)]; rfl
theorem dec_ok {n : Int} (h : 0 ≤ n ∧ n < 100) : okD (decT n) = true ∧ numW (decT n) = n := by
  by_cases h1 : n < 10
  · have e := dec_one (n := n) (by omega)
    have hs : (decT n).size = 1 := by rw [← sz_list, e]; rfl
    have hu : (UInt8.ofNat (48 + n).toNat).toNat = (48 + n).toNat := u8_of (by omega)
    refine ⟨okD_iff.2 ⟨by omega, by omega, by omega, fun z hz => ?_⟩, by rw [num_one e, hu]; omega⟩
    obtain rfl : z = 0 := by omega
    rw [bat_list e]
    show 48 ≤ (UInt8.ofNat (48 + n).toNat).toNat ∧ (UInt8.ofNat (48 + n).toNat).toNat ≤ 57
    rw [hu]; omega
  · have e := dec_two (n := n) (by omega)
    have hs : (decT n).size = 2 := by rw [← sz_list, e]; rfl
    have hu : (UInt8.ofNat (48 + n / 10).toNat).toNat = (48 + n / 10).toNat := u8_of (by omega)
    have hv : (UInt8.ofNat (48 + n % 10).toNat).toNat = (48 + n % 10).toNat := u8_of (by omega)
    have b0 : bat (decT n) 0 = (48 + n / 10).toNat := by rw [bat_list e]; exact hu
    have b1 : bat (decT n) 1 = (48 + n % 10).toNat := by rw [bat_list e]; exact hv
    refine ⟨okD_iff.2 ⟨by omega, by omega, by omega, fun z hz => ?_⟩, by rw [num_two e, hu, hv]; omega⟩
    match z, hz with
    | 0, _ => omega
    | 1, _ => omega
    | z + 2, hz => omega
theorem numN_up {s : ByteArray} {n k : Nat} (h : ∀ z, z < n → 48 ≤ bat s z ∧ bat s z ≤ 57) (hk : k < n) : numN s k * 10 ≤ numN s (k + 1) := by
  have := h k hk
  simp only [numN]; omega
theorem numN_mono {s : ByteArray} {n : Nat} (h : ∀ z, z < n → 48 ≤ bat s z ∧ bat s z ≤ 57) : ∀ d k, k + d ≤ n → numN s k ≤ numN s (k + d)
  | 0, k, _ => Int.le_refl _
  | d + 1, k, hk => by
    have h1 := numN_mono h d k (by omega)
    have h2 := numN_up h (k := k + d) (by omega)
    have h3 := (numN_range (s := s) (k := k + d) fun z hz => h z (by omega)).1
    rw [← Nat.add_assoc]; omega
theorem dec_num {s : ByteArray} (h : okD s = true) (hn : numW s < 100) : decT (numW s) = s ∧ s.size ≤ 2 ∧ (numW s < 10 → s.size = 1) ∧ 0 ≤ numW s := by
  obtain ⟨h1, h2, h3, h4⟩ := okD_iff.1 h
  have h0 : 0 ≤ numW s := (numN_range (s := s) (k := s.size) h4).1
  have hsz := sz_list s
  match hl : s.data.toList with
  | [] => rw [hl] at hsz; simp at hsz; omega
  | [a] =>
    have hs : s.size = 1 := by rw [← hsz, hl]; rfl
    have e := num_one hl
    have b0 := h4 0 (by omega)
    have ha : bat s 0 = a.toNat := bat_list hl 0
    refine ⟨ba_list ?_, by omega, fun _ => hs, h0⟩
    rw [dec_one (by omega), hl, e]
    congr 1
    apply UInt8.toNat_inj.1
    rw [u8_of (by omega)]; omega
  | [a, b] =>
    have hs : s.size = 2 := by rw [← hsz, hl]; rfl
    have e := num_two hl
    have b0 := h4 0 (by omega)
    have b1 := h4 1 (by omega)
    have ha : bat s 0 = a.toNat := bat_list hl 0
    have hb : bat s 1 = b.toNat := bat_list hl 1
    refine ⟨ba_list ?_, by omega, fun h => by omega, h0⟩
    rw [dec_two (by omega), hl, e]
    congr 1
    · apply UInt8.toNat_inj.1
      rw [u8_of (by omega)]; omega
    · congr 1
      apply UInt8.toNat_inj.1
      rw [u8_of (by omega)]; omega
  | a :: b :: c :: r =>
    exfalso
    have hs : 3 ≤ s.size := by rw [← hsz, hl]; simp
    have b0 := h4 0 (by omega)
    have b3 : bat s 0 ≠ 48 := by omega
    have e1 : numN s 1 = (bat s 0 : Int) - 48 := by simp only [numN]; omega
    have u1 : numN s 1 * 10 ≤ numN s 2 := numN_up h4 (k := 1) (by omega)
    have u2 : numN s 2 * 10 ≤ numN s 3 := numN_up h4 (k := 2) (by omega)
    have u3 := numN_mono h4 (s.size - 3) 3 (by omega)
    rw [show 3 + (s.size - 3) = s.size by omega] at u3
    have : numW s = numN s s.size := rfl
    omega
theorem splitL_no {c : UInt8} {l : List UInt8} (h : c ∉ l) : splitL c l = [l] := splitL_miss fun k e => h (List.mem_of_getElem? e)
theorem splitL_app {c : UInt8} : ∀ {x : List UInt8} {r : List UInt8}, c ∉ x → splitL c (x ++ c :: r) = x :: splitL c r
  | [], r, _ => by rw [List.nil_append, splitL, if_pos rfl]
  | y :: x, r, h => by
    have h0 : y ≠ c := fun e => h (by rw [e]; exact List.mem_cons_self ..)
    rw [List.cons_append, splitL, if_neg h0, splitL_app (x := x) fun e => h (List.mem_cons_of_mem _ e)]
def joinL (c : UInt8) : List (List UInt8) → List UInt8
  | [] => []
  | [x] => x
  | x :: y :: r => x ++ c :: joinL c (y :: r)
theorem splitL_join {c : UInt8} : ∀ {ws : List (List UInt8)}, ws ≠ [] → (∀ w ∈ ws, c ∉ w) → splitL c (joinL c ws) = ws
  | [], h, _ => absurd rfl h
  | [x], _, h => splitL_no (h x (by simp))
  | x :: y :: r, _, h => by
    rw [joinL, splitL_app (h x (by simp)), splitL_join (ws := y :: r) (by simp) fun w hw => h w (List.mem_cons_of_mem _ hw)]
theorem joinL_split {c : UInt8} : ∀ l : List UInt8, joinL c (splitL c l) = l
  | [] => rfl
  | x :: xs => by
    have ih := joinL_split (c := c) xs
    have hn := splitL_ne c xs
    rw [splitL]
    cases e : splitL c xs with
    | nil => exact absurd e hn
    | cons y ys =>
      rw [e] at ih
      split
      · rename_i hx
        rw [joinL, ih, hx]; rfl
      · cases ys with
        | nil => simp only [joinL] at ih ⊢; rw [ih]
        | cons z zs => simp only [joinL] at ih ⊢; rw [← ih]; rfl
theorem inter_join (c : UInt8) : ∀ ws : List (List UInt8), [c].intercalate ws = joinL c ws
  | [] => rfl
  | [x] => by simp [List.intercalate, joinL]
  | x :: y :: r => by
    have ih := inter_join c (y :: r)
    rw [joinL, ← ih]
    simp [List.intercalate, List.intersperse]
theorem joinW_list (c : UInt8) (ws : List ByteArray) : (joinW ⟨#[c]⟩ ws ws.length).data.toList = joinL c (ws.map (·.data.toList)) := by
  rw [← joinW_eq (Nat.le_refl _), List.take_length]
  show ((Lib.join (ws.map (·.data.toList)) [c]).toArray).toList = _
  unfold Lib.join
  rw [inter_join]
theorem split_join {c : UInt8} {ws : List ByteArray} (h0 : ws ≠ []) (h : ∀ w ∈ ws, c ∉ w.data.toList) : splitW c (joinW ⟨#[c]⟩ ws ws.length) = ws := by
  unfold splitW
  rw [joinW_list, splitL_join (by simpa using h0) (by
    intro w hw
    obtain ⟨x, hx, rfl⟩ := List.mem_map.1 hw
    exact h x hx), List.map_map]
  have : (mkB ∘ fun x : ByteArray => x.data.toList) = id := by funext b; exact mkB_data b
  rw [this, List.map_id]
theorem join_split (c : UInt8) (s : ByteArray) : joinW ⟨#[c]⟩ (splitW c s) (splitW c s).length = s := by
  apply ba_list
  rw [joinW_list]
  unfold splitW
  rw [List.map_map]
  have : ((fun x : ByteArray => x.data.toList) ∘ mkB) = id := by funext l; rfl
  rw [this, List.map_id, joinL_split]
theorem dec_no {n : Int} (h : 0 ≤ n ∧ n < 100) {c : UInt8} (hc : c.toNat < 48) : c ∉ (decT n).data.toList := by
  have key : ∀ m : Int, 0 ≤ m → m < 10 → c ≠ UInt8.ofNat (48 + m).toNat := fun m h1 h2 e => by
    have := congrArg UInt8.toNat e
    rw [u8_of (by omega)] at this; omega
  by_cases h1 : n < 10
  · rw [dec_one (by omega)]
    simp only [List.mem_singleton]
    exact key n (by omega) h1
  · rw [dec_two (by omega)]
    simp only [List.mem_cons, List.not_mem_nil, or_false]
    rintro (e | e)
    · exact key _ (by omega) (by omega) e
    · exact key _ (by omega) (by omega) e
theorem nth_map' {α β : Type} [Inhabited α] [Inhabited β] (f : α → β) {l : List α} {i : Nat} (h : i < l.length) : nth (l.map f) i = f (nth l i) := by
  rw [nth_eq (by rw [List.length_map]; exact h), List.getElem_map, nth_eq h]
theorem set_read {ok : ByteArray → Bool} {xs : List Int} (h : ∀ x ∈ xs, 0 ≤ x ∧ x < 100) (hok : ∀ x ∈ xs, ok (decT x) = true) : rdG ok (setT xs) = (xs, true) := by
  unfold setT
  split
  · rename_i h0
    rw [List.eq_nil_of_length_eq_zero h0]
    exact if_pos rfl
  · rename_i h0
    have hne : xs.map decT ≠ [] := by intro e; exact h0 (by simpa using congrArg List.length e)
    have hsp : splitW 44 (joinW ⟨#[44]⟩ (xs.map decT) xs.length) = xs.map decT := by
      have e := split_join (c := 44) (ws := xs.map decT) hne (fun w hw => by
        obtain ⟨x, hx, rfl⟩ := List.mem_map.1 hw
        exact dec_no (h x hx) (by decide))
      rwa [List.length_map] at e
    have hno : ¬ (joinW ⟨#[44]⟩ (xs.map decT) xs.length).toList = (⟨#[45]⟩ : ByteArray).toList := by
      intro e
      rw [ba_eq.1 e] at hsp
      have e1 : splitW 44 (⟨#[45]⟩ : ByteArray) = [⟨#[45]⟩] := by
        unfold splitW
        rw [splitL_no (by decide)]; rfl
      rw [e1] at hsp
      have hm : (⟨#[45]⟩ : ByteArray) ∈ xs.map decT := by rw [← hsp]; exact List.mem_singleton.2 rfl
      obtain ⟨x, hx, e2⟩ := List.mem_map.1 hm
      have hk := (dec_ok (h x hx)).1
      rw [e2] at hk
      have := (okD_iff.1 hk).2.2.2 0 (by decide)
      have hb : bat ⟨#[45]⟩ 0 = 45 := by decide
      omega
    rw [rdG_good (i := (splitW 44 (joinW ⟨#[44]⟩ (xs.map decT) xs.length)).length) hno (Nat.le_refl _) (fun z hz => ?_)]
    · rw [hsp, List.map_map]
      congr 1
      have : ∀ x ∈ xs, (numW ∘ decT) x = x := fun x hx => (dec_ok (h x hx)).2
      rw [List.map_congr_left this, List.map_id']
    · rw [hsp] at hz ⊢
      rw [List.length_map] at hz
      rw [nth_map' _ hz]
      exact hok _ (nth_mem hz)
theorem read_set {ok : ByteArray → Bool} {s : ByteArray} {xs : List Int} (hok : ∀ w, ok w = true → okD w = true) (hs : ∀ x ∈ xs, x < 100) (h : rdG ok s = (xs, true)) : setT xs = s := by
  unfold rdG at h
  split at h
  · rename_i e
    cases h
    rw [e]; rfl
  · split at h
    · rename_i hn ha
      rw [allN_iff] at ha
      simp only [Prod.mk.injEq, and_true] at h
      subst h
      have hlen := (splitW_len 44 s).1
      unfold setT
      rw [List.length_map, if_neg (by omega), List.map_map]
      have : ∀ w ∈ splitW 44 s, (decT ∘ numW) w = w := fun w hw => by
        obtain ⟨j, hj, rfl⟩ := List.getElem_of_mem hw
        have h1 := ha j hj
        rw [nth_eq hj] at h1
        exact (dec_num (hok _ h1) (hs _ (List.mem_map_of_mem hw))).1
      rw [List.map_congr_left this, List.map_id']
      exact join_split 44 s
    · simp only [Prod.mk.injEq, Bool.false_eq_true, and_false] at h
theorem okI_D {w : ByteArray} (h : okI w = true) : okD w = true := by unfold okI at h; rw [Bool.and_eq_true] at h; exact h.1
theorem rdD_of_I {w : ByteArray} (h : (rdG okI w).2 = true) : rdG okD w = rdG okI w := by
  unfold rdG at h ⊢
  split
  · rfl
  · rename_i h0
    rw [if_neg h0] at h
    split at h
    · rename_i ha
      rw [if_pos (by rw [allN_iff] at ha ⊢; exact fun j hj => okI_D (ha j hj)), if_pos ha]
    · cases h
theorem rdI_of_D {w : ByteArray} (h : (rdG okD w).2 = true) (hx : ∀ x ∈ (rdG okD w).1, x < 16) : rdG okI w = rdG okD w := by
  unfold rdG at h hx ⊢
  split
  · rfl
  · rename_i h0
    rw [if_neg h0] at h hx
    split at h
    · rename_i ha
      rw [if_pos ha] at hx
      rw [if_pos (by
        rw [allN_iff] at ha ⊢
        intro j hj
        unfold okI
        rw [ha j hj, Bool.true_and, decide_eq_true_eq]
        exact hx _ (List.mem_map_of_mem (nth_mem hj))), if_pos ha]
    · cases h
end Go.Proofs.YtachnjinfdagjaaDoor

