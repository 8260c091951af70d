/- Two automata joined: pairs as rows, parts of pairs, what the product is. No program in sight; no conditions. -/
import Derived.Test.YtabfpoflhacknaaGreatJM
namespace Go.Proofs.YtabfpoflhacknaaGreat
open Go.RowKit
open Shp
variable {ms n n2 : List (List Int)} {t w : Nat} {xs : List Int} {q : Int × Int} {p : Int} {ps2 : List (List Int × List Int)} {L : List (Int × Int)}
def prR (os : List (Int × Int)) : List (List Int) := os.map fun x => [x.1, x.2]
def colR (ms : List (List Int)) (t : Nat) : List Int := ms.map fun r => nth r t
theorem Zzg {os : List (Int × Int)} : colR (prR os) 0 = os.map Prod.fst := by
 unfold colR prR; rw [List.map_map]; rfl
theorem Zyu {os : List (Int × Int)} : colR (prR os) 1 = os.map Prod.snd := by
 unfold colR prR; rw [List.map_map]; rfl
def ZxI (ps : List (List Int × List Int)) (ms : List (List Int)) (t : Nat) : List (List Int × List Int) := Zbu ps (colR ms t)
theorem ZaY {ps : List (List Int × List Int)}  : (Zbu ps xs).length = ps.length := by simp [Zbu]
theorem Zf4 {ps : List (List Int × List Int)}  {q : Nat} (h : q < ps.length) : (Zbu ps xs).take q ++ [(ZaN (nth ps q).1 xs xs.length, ZaN (nth ps q).2 xs xs.length)] = (Zbu ps xs).take (q + 1) := ZgM (g := pairP xs) h
def Zbw (n : List (List Int)) (ps : List (List Int × List Int)) (n2 : List (List Int)) (ps2 : List (List Int × List Int)) : List (List (List Int) × List (List Int × List Int)) := [(n, ps), (n2, ps2)]
def colP (os : List (Int × Int)) (w : Nat) : List Int := if w = 0 then os.map Prod.fst else os.map Prod.snd
theorem Zs7 {os : List (Int × Int)}  : (colP os w).length = os.length := by unfold colP; split <;> simp
theorem Zov {os : List (Int × Int)} {x : Nat} (hx : x < os.length) : nth (colP os w) x = if (w : Int) = 0 then (nth os x).1 else (nth os x).2 := by
 unfold colP
 by_cases h : w = 0
 ·rw [if_pos h, if_pos (by omega)]; exact ZbE hx
 ·rw [if_neg h, if_neg (by omega)]; exact ZbE hx
def Zcu (n : List (List Int)) (ps : List (List Int × List Int)) (n2 : List (List Int)) (ps2 : List (List Int × List Int)) (os : List (Int × Int)) : Nat → List (List Int × List Int)
 | 0 => []
 | w + 1 => Zcu n ps n2 ps2 os w ++ Zbu (nth (Zbw n ps n2 ps2) w).2 (colP os w)
theorem Zoq  {ps : List (List Int × List Int)}   {os : List (Int × Int)} : Zcu n ps n2 ps2 os 2 = Zbu ps (os.map Prod.fst) ++ Zbu ps2 (os.map Prod.snd) := rfl
theorem Zps  {ps : List (List Int × List Int)}   {os : List (Int × Int)}  (hl : ps.length + ps2.length ≤ 4) (hw : w ≤ 2) : (Zcu n ps n2 ps2 os w).length ≤ 4 := by
 have h : w = 0 ∨ w = 1 ∨ w = 2 := by omega
 rcases h with rfl | rfl | rfl
 ·simp [Zcu]
 ·simp [Zcu, ZaY, Zbw, nth]; omega
 ·rw [Zoq, List.length_append, ZaY, ZaY]; omega
theorem ZpH  {ps : List (List Int × List Int)}   (hl : ps.length + ps2.length ≤ 4)  (hw : w < 2) : (nth (Zbw n ps n2 ps2) w).2.length ≤ 4 := by
 have h : w = 0 ∨ w = 1 := by omega
 rcases h with rfl | rfl
 ·simp [Zbw, nth]; omega
 ·simp [Zbw, nth]; omega
theorem ZfZ {s : List Int} {os : List (Int × Int)} {x : Nat} (hx : x < os.length) (h : has s (if (w : Int) = 0 then (nth os x).1 else (nth os x).2) = true) : ZaN s (colP os w) x ++ [(x : Int)] = ZaN s (colP os w) (x + 1) := Zfi (by rw [Zov hx]; exact h)
theorem Zkp {s : List Int} {os : List (Int × Int)} {x : Nat} (hx : x < os.length) (h : has s (if (w : Int) = 0 then (nth os x).1 else (nth os x).2) = false) : ZaN s (colP os w) x = ZaN s (colP os w) (x + 1) := Zjd (by rw [Zov hx]; exact h)
section
variable {a b : List (List Int)} {os ps : List (Int × Int)} {k x : Nat}
def rowX (a b : List (List Int)) (ps : List (Int × Int)) (q : Int × Int) (x : Nat) : List Int := ((Zbj a b q).take x).map (ZbS ps)
theorem Zit  (h : x ≤ (nth a q.1.toNat).length) : (rowX a b ps q x).length = x := by
 have : x ≤ (rowN a q.1).length := h
 unfold rowX; rw [List.length_map, List.length_take, Zbo]; omega
theorem Zoz  (hx : x < (nth a q.1.toNat).length) : rowX a b ps q x ++ [ZbS ps (nth (nth a q.1.toNat) x, nth (nth b q.2.toNat) x)] = rowX a b ps q (x + 1) := by
 have hx' : x < (rowN a q.1).length := hx
 unfold rowX; rw [ZbX (by rw [Zbo]; exact hx'), List.map_append, Zch hx']; rfl
def Seen (a b : List (List Int)) (ps : List (Int × Int)) (q : Int × Int) (x : Nat) : Prop := ∀ y ∈ (Zbj a b q).take x, y ∈ ps
theorem Seen.zero : Seen a b ps q 0 := fun y hy => by simp at hy
theorem Seen.yes  (h : Seen a b ps q x) (hx : x < (nth a q.1.toNat).length) (hh : hasP ps (nth (nth a q.1.toNat) x, nth (nth b q.2.toNat) x) = true) : Seen a b ps q (x + 1) := fun y hy => by
 have hx' : x < (rowN a q.1).length := hx
 rw [ZbX (by rw [Zbo]; exact hx'), Zch hx'] at hy
 rcases List.mem_append.1 hy with h1 | h1
 ·exact h y h1
 ·simp only [List.mem_singleton] at h1; subst h1; exact hasP_iff.1 hh
theorem Seen.no  (h : Seen a b ps q x) (hx : x < (nth a q.1.toNat).length) : Seen a b (ps ++ [(nth (nth a q.1.toNat) x, nth (nth b q.2.toNat) x)]) q (x + 1) := fun y hy => by
 have hx' : x < (rowN a q.1).length := hx
 rw [ZbX (by rw [Zbo]; exact hx'), Zch hx'] at hy
 rcases List.mem_append.1 hy with h1 | h1
 ·exact List.mem_append.2 (.inl (h y h1))
 ·simp only [List.mem_singleton] at h1; subst h1; exact List.mem_append.2 (.inr (by simp [rowN]))
theorem Zsj  {y : Int × Int} (h : Seen a b ps q x) : rowX a b (ps ++ [y]) q x = rowX a b ps q x := by
 unfold rowX; exact List.map_congr_left fun z hz => ZkC (h z hz)
theorem Zu7  (h : Seen a b ps q x) (hx : x < (nth a q.1.toNat).length) (hh : hasP ps (nth (nth a q.1.toNat) x, nth (nth b q.2.toNat) x) = false) : rowX a b ps q x ++ [(ps.length : Int)] = rowX a b (ps ++ [(nth (nth a q.1.toNat) x, nth (nth b q.2.toNat) x)]) q (x + 1) := by
 rw [← Zoz hx, Zsj h, Zpw hh]
theorem Zsn  (hx : (nth a q.1.toNat).length ≤ x) : rowX a b ps q x = (Zbj a b q).map (ZbS ps) := by
 have hx' : (rowN a q.1).length ≤ x := hx
 unfold rowX; rw [List.take_of_length_le (by rw [Zbo]; exact hx')]
theorem Seen.all  (h : Seen a b ps q x) (hx : (nth a q.1.toNat).length ≤ x) : ∀ y ∈ Zbj a b q, y ∈ ps := fun y hy => by
 have hx' : (rowN a q.1).length ≤ x := hx
 exact h y (by rw [List.take_of_length_le (by rw [Zbo]; exact hx')]; exact hy)
theorem Zrv  (hx : x < (nth a q.1.toNat).length) (h : addG ps ((Zbj a b q).drop x) = L) (hh : hasP ps (nth (nth a q.1.toNat) x, nth (nth b q.2.toNat) x) = true) : addG ps ((Zbj a b q).drop (x + 1)) = L := by
 have hx' : x < (rowN a q.1).length := hx
 rw [Zg4 (by rw [Zbo]; exact hx'), if_pos (by rw [Zch hx']; exact hasP_iff.1 hh)] at h; exact h
theorem Zut  (hx : x < (nth a q.1.toNat).length) (h : addG ps ((Zbj a b q).drop x) = L) (hh : hasP ps (nth (nth a q.1.toNat) x, nth (nth b q.2.toNat) x) = false) : addG (ps ++ [(nth (nth a q.1.toNat) x, nth (nth b q.2.toNat) x)]) ((Zbj a b q).drop (x + 1)) = L := by
 have hx' : x < (rowN a q.1).length := hx
 rw [Zg4 (by rw [Zbo]; exact hx'), if_neg (by rw [Zch hx']; exact fun m => by have e : hasP ps (nth (nth a q.1.toNat) x, nth (nth b q.2.toNat) x) = true := hasP_iff.2 m; rw [e] at hh; cases hh), Zch hx'] at h; exact h
theorem ZpU  (hx : (nth a q.1.toNat).length ≤ x) (h : addG ps ((Zbj a b q).drop x) = L) : ps = L := by
 rw [ZoT (by rw [Zbo]; exact hx)] at h; exact h
theorem Zwr (h : jnF a b = jnG a b (48 - k) k os) (hk : k < os.length) (hl : os.length ≤ 48) (e : ps = addG os (Zbj a b (nth os k))) (hp : 48 < ps.length) : jnF a b = none := by
 rw [Zxw h hk hl, List.drop_zero, ← e, if_pos hp]
theorem Zu1 (h : jnF a b = jnG a b (48 - k) k os) (hk : k < os.length) (hl : os.length ≤ 48) (e : ps = addG os (Zbj a b (nth os k))) (hp : ps.length ≤ 48) : jnF a b = jnG a b (48 - (k + 1)) (k + 1) ps := by
 rw [Zxw h hk hl, List.drop_zero, ← e, if_neg (by omega)]
theorem ZqQ (hc : Clo a b os k) (g4 : Ext os ps) (hk : k < os.length) : Zbt a b os k ++ [(Zbj a b (nth os k)).map (ZbS ps)] = Zbt a b ps (k + 1) := by
 have e := g4.nth hk
 have hl := g4.len
 rw [Zpj (by omega), e]
 obtain ⟨t, rfl⟩ := g4
 rw [ZqD hc (by omega)]
theorem Clo.step (hc : Clo a b os k) (g4 : Ext os ps) (hk : k < os.length) (h : ∀ y ∈ Zbj a b (nth os k), y ∈ ps) : Clo a b ps (k + 1) := (hc.ext g4 (by omega)).next (by rw [g4.nth hk]; exact h)
theorem Zp2 (h : os.length ≤ k) : Zbt a b os k = Zbt a b os os.length := by
 unfold Zbt; rw [List.take_of_length_le h, List.take_of_length_le (Nat.le_refl _)]
end
end Go.Proofs.YtabfpoflhacknaaGreat

