/- The program's solver: who it says wins, and the rounds that take away what is lost. No program in sight; no conditions. -/
import Derived.Test.YtjjidamlmebaaaaGreatZP
import Derived.Test.YtjjidamlmebaaaaGreatZQ
namespace Go.Proofs.YtjjidamlmebaaaaGreat
open Go.RowKit
open Shp
variable {now a b ys : List Bool} {t w : Int} {v x : Nat}
section
variable {n : Nat} {o p : List Int} {nx : List (List Int)} {ins : List Bool}
def topG (p : List Int) (l : List Int) : Int := l.foldl (fun t v => max t (nth p v.toNat)) (-1)
theorem Zri (p : List Int) : topG p [] = -1 := rfl
theorem ZpS {l : List Int} {k : Nat} (h : k < l.length) : topG p (l.take (k + 1)) = max (topG p (l.take k)) (nth p (nth l k).toNat) := by
 unfold topG; rw [ZaF h, List.foldl_append]; rfl
theorem Zkk : ∀ {v : Nat}, topG p (lstL ins v) = topL p ins v
 | 0 => rfl
 | v + 1 => by
  simp only [lstL, topL]
  split
  ·have : topG p (lstL ins v ++ [(v : Int)]) = max (topG p (lstL ins v)) (nth p v) := by unfold topG; rw [List.foldl_append]; rfl
   rw [this, Zkk]
  ·exact Zkk
theorem lst_no : ∀ {v : Nat}, lstL ins v = [] ↔ ∀ x, x < v → nth ins x = false
 | 0 => by simp [lstL]
 | v + 1 => by
  have ih := lst_no (v := v)
  simp only [lstL]
  split
  ·rename_i h
   constructor
   ·intro h2; simp at h2
   ·intro h2; rw [h2 v (by omega)] at h; cases h
  ·rename_i h
   rw [ih]
   constructor
   ·intro h2 x hx
    rcases Nat.lt_or_ge x v with h3 | h3
    ·exact h2 x h3
    ·rw [show x = v by omega]; simpa using h
   ·intro h2 x hx; exact h2 x (by omega)
def whoL (p : List Int) (ins : List Bool) (n : Nat) : Int := topL p ins n % 2
theorem ZpI (hp : ∀ v, v < n → 0 ≤ nth p v ∧ nth p v ≤ 1000000) (hne : lstL ins n ≠ []) : 0 ≤ topL p ins n ∧ ∃ x, x < n ∧ nth ins x = true ∧ nth p x = topL p ins n := by
 rcases Zmi (p := p) (ins := ins) (v := n) (fun x hx => (hp x hx).1) with ⟨_, h⟩ | h
 ·exact absurd (lst_no.2 h) hne
 ·exact h
structure RND (n : Nat) (o p : List Int) (nx : List (List Int)) (ins now : List Bool) : Prop where
 len : now.length = n
 sub : ∀ v, v < n → nth now v = true → nth ins v = true
 tot : TotL n nx now
 win : ∀ v, v < n → (winP n o p nx (whoL p ins n) ins v ↔ winP n o p nx (whoL p ins n) now v)
theorem RND.start (hl : ins.length = n) (ht : TotL n nx ins) : RND n o p nx ins ins := ⟨hl, fun _ _ h => h, ht, fun _ _ => Iff.rfl⟩
def Zgj (p : List Int) (now : List Bool) (t : Int) (n : Nat) : List Bool := (List.range n).map fun v => nth now v && (nth p v == t)
theorem Zow (p : List Int) (now : List Bool) (t : Int) (n : Nat) : (Zgj p now t n).length = n := by unfold Zgj; simp
theorem ZlE  (hv : v < n) : nth (Zgj p now t n) v = (nth now v && (nth p v == t)) := by
 unfold Zgj; rw [Zaz (by simpa using hv)]; simp
theorem ZkW  (hv : v < n) (h : nth (Zgj p now t n) v = true) : nth now v = true ∧ nth p v = t := by
 rw [ZlE hv, Bool.and_eq_true] at h
 exact ⟨h.1, by simpa using h.2⟩
noncomputable def Zcd (n : Nat) (o p : List Int) (nx : List (List Int)) (ins now : List Bool) : List Bool := ZcN n now (attL n o p nx (whoL p ins n) now (Zgj p now (topL p ins n) n))
theorem ZbB : (Zcd n o p nx ins now).length = n := ZaZ _ _
theorem Zk1  (hg : GDt n o p nx) (h : RND n o p nx ins now) : TotL n nx (Zcd n o p nx ins now) := ZeC hg h.tot fun _ hv => ZaN hv
theorem Zpx  (h : ∀ v, v < n → nth a v = true → nth b v = true)  (hx : x < n) (h1 : nth b x = true) (h2 : nth a x = false) : cnt n (inS n a) < cnt n (inS n b) :=
 ZlD (fun v hv => ⟨hv.1, h v hv.1 hv.2⟩) hx ⟨hx, h1⟩ fun h3 => by rw [h3.2] at h2; cases h2
theorem ZeM  (hv : v < n) (h : nth (ZcN n a b) v = true) : nth a v = true ∧ nth b v = false := by
 rw [Zdh hv, Bool.and_eq_true, Bool.not_eq_true'] at h; exact h
theorem Zq2  (hp : ∀ v, v < n → 0 ≤ nth p v ∧ nth p v ≤ 1000000) (hne : lstL ins n ≠ []) (h : RND n o p nx ins now) : cnt n (inS n (Zcd n o p nx ins now)) < cnt n (inS n ins) := by
 obtain ⟨h0, x, hx, hi, hpx⟩ := ZpI hp hne
 refine Zpx (fun v hv h1 => h.sub v hv (ZeM hv h1).1) hx hi ?_
 cases hr : nth (Zcd n o p nx ins now) x with
 | false => rfl
 | true =>
  have h2 := ZeM hx hr
  have h3 : nth (attL n o p nx (whoL p ins n) now (Zgj p now (topL p ins n) n)) x = true := (ZaN hx).2 ⟨0, ⟨hx, h2.1⟩, by
   show nth (Zgj p now (topL p ins n) n) x = true
   rw [ZlE hx, h2.1, hpx]; simp⟩
  rw [h3] at h2; cases h2.2
noncomputable def Zeh (n : Nat) (o p : List Int) (nx : List (List Int)) (ins now : List Bool) : List Bool := winL n o p nx (1 - whoL p ins n) (Zcd n o p nx ins now)
theorem Zif : (Zeh n o p nx ins now).length = n := ZbE _ _
theorem Zk4  (hv : v < n) (h : nth (Zeh n o p nx ins now) v = true) : nth now v = true := by
 have := Zcv ((ZaN hv).1 h)
 exact (ZeM hv this.2).1
theorem who2 (p : List Int) (ins : List Bool) (n : Nat) : whoL p ins n = 0 ∨ whoL p ins n = 1 := by unfold whoL; omega
theorem Zix (hg : GDt n o p nx)  (ht : TotL n nx ys) {i : Int} (hi : i = 0 ∨ i = 1) : ZcN n ys (winL n o p nx i ys) = winL n o p nx (1 - i) ys := by
 refine ZcR (ZaZ _ _) fun v hv => ?_
 rw [Zdh hv, Bool.and_eq_true, Bool.not_eq_true']
 have hw : nth (winL n o p nx i ys) v = true ↔ winP n o p nx i ys v := ZaN hv
 constructor
 ·rintro ⟨h1, h2⟩
  have := ZlO hg ht (show 1 - i = 0 ∨ 1 - i = 1 by omega) (v := v) ⟨hv, h1⟩
  rw [this, show 1 - (1 - i) = i by omega]
  intro h3
  rw [hw.2 h3] at h2; cases h2
 ·intro h
  have h1 := Zcv h
  refine ⟨h1.2, ?_⟩
  cases hb : nth (winL n o p nx i ys) v with
  | false => rfl
  | true =>
   exact absurd h ((ZlO hg ht hi h1).1 (hw.1 hb))
theorem Zlx (hg : GDt n o p nx)  (h : RND n o p nx ins now)  (hw : w = whoL p ins n) : ZcN n (Zcd n o p nx ins now) (winL n o p nx w (Zcd n o p nx ins now)) = Zeh n o p nx ins now := by
 subst hw; exact Zix hg (Zk1 hg h) (who2 p ins n)
theorem Zlo  (hw : w ≠ whoL p ins n) (h2 : w = 0 ∨ w = 1) : winL n o p nx w (Zcd n o p nx ins now) = Zeh n o p nx ins now := by
 have := who2 p ins n
 rw [show w = 1 - whoL p ins n by omega]; rfl
theorem Zlk  (he : lstL ys n = []) (i : Int) : winL n o p nx i ys = List.replicate n false := by
 refine (ZcR (by simp) fun v hv => ?_).symm
 rw [Zdc hv]
 constructor
 ·intro h; cases h
 ·intro h
  have := (Zcv h).2
  rw [lst_no.1 he v hv] at this; cases this
theorem ZoW  (hl : ys.length = n) (he : lstL ys n = []) : ys = List.replicate n false := by
 apply List.ext_getElem
 ·simp [hl]
 ·intro v h1 h2
  have := lst_no.1 he v (by omega)
  rw [Zaz h1] at this
  rw [this]; simp
theorem ZnH  (he : lstL (Zcd n o p nx ins now) n = []) : Zcd n o p nx ins now = Zeh n o p nx ins now := by
 rw [ZoW ZbB he]; unfold Zeh; rw [Zlk he]
theorem Ziv  (he : lstL (Zcd n o p nx ins now) n = []) : ZcN n now (attL n o p nx (whoL p ins n) now (Zgj p now (topL p ins n) n)) = Zeh n o p nx ins now := ZnH he
theorem Zip  (he : lstL (Zcd n o p nx ins now) n = []) : ZcN n (Zcd n o p nx ins now) (Zcd n o p nx ins now) = Zeh n o p nx ins now := by
 unfold Zeh; rw [Zlk he]
 apply List.ext_getElem
 ·simp [ZaZ]
 ·intro v h1 h2
  have hv : v < n := by simpa using h2
  have := Zdh (a := Zcd n o p nx ins now) (b := Zcd n o p nx ins now) hv
  rw [Zaz h1] at this
  rw [this]; simp
theorem Zw8  (h : RND n o p nx ins now) : ∀ v, v < n → nth now v = true → nth p v ≤ topL p ins n := fun v hv hn => Zmk hv (h.sub v hv hn)
theorem RND.none (hg : GDt n o p nx)  (h : RND n o p nx ins now) (hno : ∀ v, v < n → nth (Zeh n o p nx ins now) v = false) : now = winL n o p nx (whoL p ins n) ins := by
 refine ZcR h.len fun v hv => ?_
 rw [h.win v hv]
 have := (ZmT (goal := Zgj p now (topL p ins n) n) (rest := Zcd n o p nx ins now) hg h.tot (show topL p ins n % 2 = whoL p ins n from rfl) (Zw8 h) (fun v hv h2 => (ZkW hv h2).symm) rfl (fun v h2 => by
  have hs := (Zcv h2).1
  have : nth (Zeh n o p nx ins now) v = true := (ZaN hs).2 h2
  rw [hno v hs] at this; cases this) v).1
 rw [this]
 exact ⟨fun h2 => ⟨hv, h2⟩, fun h2 => h2.2⟩
noncomputable def Zml (n : Nat) (o p : List Int) (nx : List (List Int)) (ins now : List Bool) : List Bool := ZcN n now (attL n o p nx (1 - whoL p ins n) now (Zeh n o p nx ins now))
theorem ZfD : (Zml n o p nx ins now).length = n := ZaZ _ _
theorem RND.next (hg : GDt n o p nx)  (h : RND n o p nx ins now) : RND n o p nx ins (Zml n o p nx ins now) := by
 have key := ZmJ (goal := Zgj p now (topL p ins n) n) (rest := Zcd n o p nx ins now) (lost := Zeh n o p nx ins now) (less := Zml n o p nx ins now) hg h.tot (who2 p ins n) rfl (fun v hv => ZaN hv) rfl
 exact ⟨ZfD, fun v hv h2 => h.sub v hv (ZeM hv h2).1, key.2.1, fun v hv => (h.win v hv).trans (key.2.2 v hv).1⟩
theorem ZrD  (hx : x < n) (h1 : nth (Zeh n o p nx ins now) x = true) : cnt n (inS n (Zml n o p nx ins now)) < cnt n (inS n now) := by
 have h2 := Zk4 hx h1
 refine Zpx (fun v hv h3 => (ZeM hv h3).1) hx h2 ?_
 cases hr : nth (Zml n o p nx ins now) x with
 | false => rfl
 | true =>
  have h3 := ZeM hx hr
  have h4 : nth (attL n o p nx (1 - whoL p ins n) now (Zeh n o p nx ins now)) x = true := (ZaN hx).2 ⟨0, ⟨hx, h2⟩, h1⟩
  rw [h4] at h3; cases h3.2
theorem RND.empty (hg : GDt n o p nx)  (h : RND n o p nx ins now) (hl : now.length = n) (hno : ∀ v, v < n → nth now v = false) : now = winL n o p nx (whoL p ins n) ins := by
 refine ZcR hl fun v hv => ?_
 rw [h.win v hv]
 exact ⟨fun h2 => (by rw [hno v hv] at h2; cases h2), fun h2 => (Zcv h2).2⟩
def Zoz (l : List Bool) : Bool := !allN l.length fun j => !(nth l j == true)
theorem Zm0 {l : List Bool} (hl : l.length = n) (h : Zoz l = false) : ∀ v, v < n → nth l v = false := fun v hv => by
 unfold Zoz at h
 have h2 := allN_iff.1 (by simpa using h) v (by omega)
 simpa using h2
theorem Zpz {l : List Bool} (hl : l.length = n) (h : Zoz l = true) : ∃ x, x < n ∧ nth l x = true := by
 apply Classical.byContradiction
 intro hc
 have : allN l.length (fun j => !(nth l j == true)) = true := allN_iff.2 fun j hj => by
  cases hb : nth l j with
  | false => rfl
  | true => exact absurd ⟨j, by omega, hb⟩ hc
 unfold Zoz at h
 rw [this] at h; cases h
end
end Go.Proofs.YtjjidamlmebaaaaGreat

