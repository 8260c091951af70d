/- Two automata joined: pairs as rows, parts of pairs, what the product is. No program in sight; no conditions. -/
import Derived.Test.YtnieejghoaccmaaGreatJM
namespace Go.Proofs.YtnieejghoaccmaaGreat
open Go.RowKit
open Shp
variable {ms n n2 : List (List Int)} {t w : Nat} {xs : List Int} {q : Int × Int} {p : Int} {ps2 : List (List Int × List Int)} {L : List (Int × Int)}
def prR (os : List (Int × Int)) : List (List Int) := os.map fun x => [x.1, x.2]
theorem Zbc {os : List (Int × Int)} : (prR os).length = os.length := by simp [prR]
theorem ZmD {os : List (Int × Int)} {k : Nat} (h : k < os.length) : nth (prR os) k = [(nth os k).1, (nth os k).2] := ZdF h
theorem Zf9 {os : List (Int × Int)} {k : Nat} (h : k < os.length) : nth (nth (prR os) k) 0 = (nth os k).1 := by rw [ZmD h]; rfl
theorem Zf1 {os : List (Int × Int)} {k : Nat} (h : k < os.length) : nth (nth (prR os) k) 1 = (nth os k).2 := by rw [ZmD h]; rfl
theorem ZhX {os : List (Int × Int)} {x : Int × Int} : prR os ++ [[x.1, x.2]] = prR (os ++ [x]) := by simp [prR]
theorem Znb {os : List (Int × Int)} {k : Nat} (h : k < os.length) : (nth (prR os) k).length = 2 := by rw [ZmD h]; rfl
def colR (ms : List (List Int)) (t : Nat) : List Int := ms.map fun r => nth r t
theorem Zsg : (colR ms t).length = ms.length := by simp [colR]
theorem ZnO  {k : Nat} (h : k < ms.length) : nth (colR ms t) k = nth (nth ms k) t := ZdF h
theorem Zpp {os : List (Int × Int)} : colR (prR os) 0 = os.map Prod.fst := by
 unfold colR prR; rw [List.map_map]; rfl
theorem Zp3 {os : List (Int × Int)} : colR (prR os) 1 = os.map Prod.snd := by
 unfold colR prR; rw [List.map_map]; rfl
def Zep (ps : List (List Int × List Int)) (ms : List (List Int)) (t : Nat) : List (List Int × List Int) := Zbn ps (colR ms t)
theorem Zbg {ps : List (List Int × List Int)}  : (Zbn ps xs).length = ps.length := by simp [Zbn]
theorem ZiJ {ps : List (List Int × List Int)}  {q : Nat} (h : q < ps.length) : (Zbn ps xs).take q ++ [(ZaJ (nth ps q).1 xs xs.length, ZaJ (nth ps q).2 xs xs.length)] = (Zbn ps xs).take (q + 1) := Zkt (g := pairP xs) h
theorem ZdH {ps : List (List Int × List Int)}   : (Zep ps ms t).length = ps.length := Zbg
theorem Zm9 {ps : List (List Int × List Int)}  {q : Nat} (h : q < ps.length) : (Zep ps ms t).take q ++ [(ZaJ (nth ps q).1 (colR ms t) (colR ms t).length, ZaJ (nth ps q).2 (colR ms t) (colR ms t).length)] = (Zep ps ms t).take (q + 1) := ZiJ h
theorem ZfJ {s : List Int}  {x : Nat} (hx : x < ms.length) (h : has s (nth (nth ms x) t) = true) : ZaJ s (colR ms t) x ++ [(x : Int)] = ZaJ s (colR ms t) (x + 1) := Zj0 (by rw [ZnO hx]; exact h)
theorem ZjQ {s : List Int}  {x : Nat} (hx : x < ms.length) (h : has s (nth (nth ms x) t) = false) : ZaJ s (colR ms t) x = ZaJ s (colR ms t) (x + 1) := Zma (by rw [ZnO hx]; exact h)
theorem ZoD {os : List (Int × Int)} {q : Int} {k : Nat} (hk : k < os.length) (h : ¬ nth (nth (prR os) k) 0 = p) : decide (nth os k = (p, q)) = false := by
 rw [Zf9 hk] at h
 exact decide_eq_false fun e => h (by rw [e])
theorem Zou {os : List (Int × Int)} {q : Int} {k : Nat} (hk : k < os.length) (h : ¬ nth (nth (prR os) k) 1 = q) : decide (nth os k = (p, q)) = false := by
 rw [Zf1 hk] at h
 exact decide_eq_false fun e => h (by rw [e])
theorem ZoR {os : List (Int × Int)} {q : Int} {k : Nat} (hk : k < os.length) (h : nth (nth (prR os) k) 0 = p) (h2 : nth (nth (prR os) k) 1 = q) (hb : ∀ z, z < k → decide (nth os z = (p, q)) = false) : (k : Int) = Zbv os (p, q) := by
 rw [Zf9 hk] at h; rw [Zf1 hk] at h2
 unfold Zbv
 exact (ZbW k hk (decide_eq_true (by rw [← h, ← h2])) hb).symm
theorem Zmz {os : List (Int × Int)} {q : Int} {k : Nat} (hk : os.length ≤ k) (hb : ∀ z, z < k → decide (nth os z = (p, q)) = false) : -1 = Zbv os (p, q) := by
 unfold Zbv
 exact (Zb4 fun j hj => hb j (by omega)).symm
def Zbj (n : List (List Int)) (ps : List (List Int × List Int)) (n2 : List (List Int)) (ps2 : List (List Int × List Int)) : List (List (List Int) × List (List Int × List Int)) := [(n, ps), (n2, ps2)]
def colP (os : List (Int × Int)) (w : Nat) : List Int := if w = 0 then os.map Prod.fst else os.map Prod.snd
theorem ZrO {os : List (Int × Int)}  : (colP os w).length = os.length := by unfold colP; split <;> simp
theorem ZnC {os : List (Int × Int)} {x : Nat} (hx : x < os.length) : nth (colP os w) x = if (w : Int) = 0 then (nth os x).1 else (nth os x).2 := by
 unfold colP
 by_cases h : w = 0
 ·rw [if_pos h, if_pos (by omega)]; exact ZdF hx
 ·rw [if_neg h, if_neg (by omega)]; exact ZdF hx
def Zck (n : List (List Int)) (ps : List (List Int × List Int)) (n2 : List (List Int)) (ps2 : List (List Int × List Int)) (os : List (Int × Int)) : Nat → List (List Int × List Int)
 | 0 => []
 | w + 1 => Zck n ps n2 ps2 os w ++ Zbn (nth (Zbj n ps n2 ps2) w).2 (colP os w)
theorem Zh0  {ps : List (List Int × List Int)}   {os : List (Int × Int)} : Zck n ps n2 ps2 os 2 = Zbn ps (os.map Prod.fst) ++ Zbn ps2 (os.map Prod.snd) := rfl
theorem ZoU  {ps : List (List Int × List Int)}   {os : List (Int × Int)}  (hl : ps.length + ps2.length ≤ 4) (hw : w ≤ 2) : (Zck n ps n2 ps2 os w).length ≤ 4 := by
 have h : w = 0 ∨ w = 1 ∨ w = 2 := by omega
 rcases h with rfl | rfl | rfl
 ·simp [Zck]
 ·simp [Zck, Zbg, Zbj, nth]; omega
 ·rw [Zh0, List.length_append, Zbg, Zbg]; omega
theorem Zqd  {ps : List (List Int × List Int)}   (hl : ps.length + ps2.length ≤ 4)  (hw : w < 2) : (nth (Zbj n ps n2 ps2) w).2.length ≤ 4 := by
 have h : w = 0 ∨ w = 1 := by omega
 rcases h with rfl | rfl
 ·simp [Zbj, nth]; omega
 ·simp [Zbj, nth]; omega
theorem ZfH {s : List Int} {os : List (Int × Int)} {x : Nat} (hx : x < os.length) (h : has s (if (w : Int) = 0 then (nth os x).1 else (nth os x).2) = true) : ZaJ s (colP os w) x ++ [(x : Int)] = ZaJ s (colP os w) (x + 1) := Zj0 (by rw [ZnC hx]; exact h)
theorem ZjW {s : List Int} {os : List (Int × Int)} {x : Nat} (hx : x < os.length) (h : has s (if (w : Int) = 0 then (nth os x).1 else (nth os x).2) = false) : ZaJ s (colP os w) x = ZaJ s (colP os w) (x + 1) := Zma (by rw [ZnC hx]; exact h)
section
variable {a b : List (List Int)} {os ps : List (Int × Int)} {k x : Nat}
def rowX (a b : List (List Int)) (ps : List (Int × Int)) (q : Int × Int) (x : Nat) : List Int := ((Zbr a b q).take x).map (Zbv ps)
theorem Zb3  (h : x ≤ (nth a q.1.toNat).length) : (rowX a b ps q x).length = x := by
 have : x ≤ (rowN a q.1).length := h
 unfold rowX; rw [List.length_map, List.length_take, Zbi]; omega
theorem ZhS  (hx : x < (nth a q.1.toNat).length) : rowX a b ps q x ++ [Zbv ps (nth (nth a q.1.toNat) x, nth (nth b q.2.toNat) x)] = rowX a b ps q (x + 1) := by
 have hx' : x < (rowN a q.1).length := hx
 unfold rowX; rw [Zce (by rw [Zbi]; exact hx'), List.map_append, Zcd hx']; rfl
def Seen (a b : List (List Int)) (ps : List (Int × Int)) (q : Int × Int) (x : Nat) : Prop := ∀ y ∈ (Zbr a b q).take x, y ∈ ps
theorem Seen.zero : Seen a b ps q 0 := fun y hy => by simp at hy
theorem Seen.yes  (h : Seen a b ps q x) (hx : x < (nth a q.1.toNat).length) (hh : hasP ps (nth (nth a q.1.toNat) x, nth (nth b q.2.toNat) x) = true) : Seen a b ps q (x + 1) := fun y hy => by
 have hx' : x < (rowN a q.1).length := hx
 rw [Zce (by rw [Zbi]; exact hx'), Zcd hx'] at hy
 rcases List.mem_append.1 hy with h1 | h1
 ·exact h y h1
 ·simp only [List.mem_singleton] at h1; subst h1; exact hasP_iff.1 hh
theorem Seen.no  (h : Seen a b ps q x) (hx : x < (nth a q.1.toNat).length) : Seen a b (ps ++ [(nth (nth a q.1.toNat) x, nth (nth b q.2.toNat) x)]) q (x + 1) := fun y hy => by
 have hx' : x < (rowN a q.1).length := hx
 rw [Zce (by rw [Zbi]; exact hx'), Zcd hx'] at hy
 rcases List.mem_append.1 hy with h1 | h1
 ·exact List.mem_append.2 (.inl (h y h1))
 ·simp only [List.mem_singleton] at h1; subst h1; exact List.mem_append.2 (.inr (by simp [rowN]))
theorem ZrB  {y : Int × Int} (h : Seen a b ps q x) : rowX a b (ps ++ [y]) q x = rowX a b ps q x := by
 unfold rowX; exact List.map_congr_left fun z hz => ZjM (h z hz)
theorem ZmL  (h : Seen a b ps q x) (hx : x < (nth a q.1.toNat).length) (hh : hasP ps (nth (nth a q.1.toNat) x, nth (nth b q.2.toNat) x) = false) : rowX a b ps q x ++ [(ps.length : Int)] = rowX a b (ps ++ [(nth (nth a q.1.toNat) x, nth (nth b q.2.toNat) x)]) q (x + 1) := by
 rw [← ZhS hx, ZrB h, Zoe hh]
theorem ZkR  (hx : (nth a q.1.toNat).length ≤ x) : rowX a b ps q x = (Zbr a b q).map (Zbv ps) := by
 have hx' : (rowN a q.1).length ≤ x := hx
 unfold rowX; rw [List.take_of_length_le (by rw [Zbi]; exact hx')]
theorem Seen.all  (h : Seen a b ps q x) (hx : (nth a q.1.toNat).length ≤ x) : ∀ y ∈ Zbr a b q, y ∈ ps := fun y hy => by
 have hx' : (rowN a q.1).length ≤ x := hx
 exact h y (by rw [List.take_of_length_le (by rw [Zbi]; exact hx')]; exact hy)
theorem ZgU  (hx : x < (nth a q.1.toNat).length) (h : addG ps ((Zbr a b q).drop x) = L) (hh : hasP ps (nth (nth a q.1.toNat) x, nth (nth b q.2.toNat) x) = true) : addG ps ((Zbr a b q).drop (x + 1)) = L := by
 have hx' : x < (rowN a q.1).length := hx
 rw [ZlR (by rw [Zbi]; exact hx'), if_pos (by rw [Zcd hx']; exact hasP_iff.1 hh)] at h; exact h
theorem ZjP  (hx : x < (nth a q.1.toNat).length) (h : addG ps ((Zbr a b q).drop x) = L) (hh : hasP ps (nth (nth a q.1.toNat) x, nth (nth b q.2.toNat) x) = false) : addG (ps ++ [(nth (nth a q.1.toNat) x, nth (nth b q.2.toNat) x)]) ((Zbr a b q).drop (x + 1)) = L := by
 have hx' : x < (rowN a q.1).length := hx
 rw [ZlR (by rw [Zbi]; exact hx'), if_neg (by rw [Zcd hx']; exact fun m => by have e : hasP ps (nth (nth a q.1.toNat) x, nth (nth b q.2.toNat) x) = true := hasP_iff.2 m; rw [e] at hh; cases hh), Zcd hx'] at h; exact h
theorem ZgM  (hx : (nth a q.1.toNat).length ≤ x) (h : addG ps ((Zbr a b q).drop x) = L) : ps = L := by
 rw [ZsK (by rw [Zbi]; exact hx)] at h; exact h
theorem ZmP (h : jnF a b = jnG a b (48 - k) k os) (hk : k < os.length) (hl : os.length ≤ 48) (e : ps = addG os (Zbr a b (nth os k))) (hp : 48 < ps.length) : jnF a b = none := by
 rw [Zyn h hk hl, List.drop_zero, ← e, if_pos hp]
theorem ZmG (h : jnF a b = jnG a b (48 - k) k os) (hk : k < os.length) (hl : os.length ≤ 48) (e : ps = addG os (Zbr a b (nth os k))) (hp : ps.length ≤ 48) : jnF a b = jnG a b (48 - (k + 1)) (k + 1) ps := by
 rw [Zyn h hk hl, List.drop_zero, ← e, if_neg (by omega)]
theorem Zie (hc : Clo a b os k) (g4 : Ext os ps) (hk : k < os.length) : Za3 a b os k ++ [(Zbr a b (nth os k)).map (Zbv ps)] = Za3 a b ps (k + 1) := by
 have e := g4.nth hk
 have hl := g4.len
 rw [Zoo (by omega), e]
 obtain ⟨t, rfl⟩ := g4
 rw [ZpY hc (by omega)]
theorem Clo.step (hc : Clo a b os k) (g4 : Ext os ps) (hk : k < os.length) (h : ∀ y ∈ Zbr a b (nth os k), y ∈ ps) : Clo a b ps (k + 1) := (hc.ext g4 (by omega)).next (by rw [g4.nth hk]; exact h)
theorem ZiD (h : os.length ≤ k) : Za3 a b os k = Za3 a b os os.length := by
 unfold Za3; rw [List.take_of_length_le h, List.take_of_length_le (Nat.le_refl _)]
end
end Go.Proofs.YtnieejghoaccmaaGreat

