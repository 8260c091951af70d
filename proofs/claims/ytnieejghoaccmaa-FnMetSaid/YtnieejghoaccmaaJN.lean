/- Two automata joined: pairs as rows, parts of pairs, what the product is. No program in sight; no conditions. -/
import Derived.Test.YtnieejghoaccmaaJM
namespace Go.Proofs.Ytnieejghoaccmaa
open Go.RowKit
open Shp
variable {ms n n2 : List (List Int)} {t w : Nat} {xs : List Int} {q : Int × Int} {p : Int} {ps2 : List (List Int × List Int)} {L : List (Int × Int)}
def prR (os : List (Int × Int)) : List (List Int) := os.map fun x => [x.1, x.2]
theorem Zbb {os : List (Int × Int)} : (prR os).length = os.length := by simp [prR]
theorem Zle {os : List (Int × Int)} {k : Nat} (h : k < os.length) : nth (prR os) k = [(nth os k).1, (nth os k).2] := Zja h
theorem Zfk {os : List (Int × Int)} {k : Nat} (h : k < os.length) : nth (nth (prR os) k) 0 = (nth os k).1 := by rw [Zle h]; rfl
theorem ZfM {os : List (Int × Int)} {k : Nat} (h : k < os.length) : nth (nth (prR os) k) 1 = (nth os k).2 := by rw [Zle h]; rfl
theorem ZgN {os : List (Int × Int)} {x : Int × Int} : prR os ++ [[x.1, x.2]] = prR (os ++ [x]) := by simp [prR]
theorem Zlb {os : List (Int × Int)} {k : Nat} (h : k < os.length) : (nth (prR os) k).length = 2 := by rw [Zle h]; rfl
def colR (ms : List (List Int)) (t : Nat) : List Int := ms.map fun r => nth r t
theorem ZpZ : (colR ms t).length = ms.length := by simp [colR]
theorem Zlp  {k : Nat} (h : k < ms.length) : nth (colR ms t) k = nth (nth ms k) t := Zja h
theorem ZqJ {os : List (Int × Int)} : colR (prR os) 0 = os.map Prod.fst := by
 unfold colR prR; rw [List.map_map]; rfl
theorem ZqL {os : List (Int × Int)} : colR (prR os) 1 = os.map Prod.snd := by
 unfold colR prR; rw [List.map_map]; rfl
def Zd0 (ps : List (List Int × List Int)) (ms : List (List Int)) (t : Nat) : List (List Int × List Int) := Zco ps (colR ms t)
theorem Zc7 {ps : List (List Int × List Int)}  : (Zco ps xs).length = ps.length := by simp [Zco]
theorem Zk2 {ps : List (List Int × List Int)}  {q : Nat} (h : q < ps.length) : (Zco ps xs).take q ++ [(Za7 (nth ps q).1 xs xs.length, Za7 (nth ps q).2 xs xs.length)] = (Zco ps xs).take (q + 1) := Zjp (g := pairP xs) h
theorem Zdm {ps : List (List Int × List Int)}   : (Zd0 ps ms t).length = ps.length := Zc7
theorem ZkI {ps : List (List Int × List Int)}  {q : Nat} (h : q < ps.length) : (Zd0 ps ms t).take q ++ [(Za7 (nth ps q).1 (colR ms t) (colR ms t).length, Za7 (nth ps q).2 (colR ms t) (colR ms t).length)] = (Zd0 ps ms t).take (q + 1) := Zk2 h
theorem ZeV {s : List Int}  {x : Nat} (hx : x < ms.length) (h : has s (nth (nth ms x) t) = true) : Za7 s (colR ms t) x ++ [(x : Int)] = Za7 s (colR ms t) (x + 1) := Zl4 (by rw [Zlp hx]; exact h)
theorem ZiC {s : List Int}  {x : Nat} (hx : x < ms.length) (h : has s (nth (nth ms x) t) = false) : Za7 s (colR ms t) x = Za7 s (colR ms t) (x + 1) := Zm4 (by rw [Zlp hx]; exact h)
theorem Zl7 {os : List (Int × Int)} {q : Int} {k : Nat} (hk : k < os.length) (h : ¬ nth (nth (prR os) k) 0 = p) : decide (nth os k = (p, q)) = false := by
 rw [Zfk hk] at h
 exact decide_eq_false fun e => h (by rw [e])
theorem Zmg {os : List (Int × Int)} {q : Int} {k : Nat} (hk : k < os.length) (h : ¬ nth (nth (prR os) k) 1 = q) : decide (nth os k = (p, q)) = false := by
 rw [ZfM hk] at h
 exact decide_eq_false fun e => h (by rw [e])
theorem ZmM {os : List (Int × Int)} {q : Int} {k : Nat} (hk : k < os.length) (h : nth (nth (prR os) k) 0 = p) (h2 : nth (nth (prR os) k) 1 = q) (hb : ∀ z, z < k → decide (nth os z = (p, q)) = false) : (k : Int) = ZbH os (p, q) := by
 rw [Zfk hk] at h; rw [ZfM hk] at h2
 unfold ZbH
 exact (ZcH k hk (decide_eq_true (by rw [← h, ← h2])) hb).symm
theorem ZkS {os : List (Int × Int)} {q : Int} {k : Nat} (hk : os.length ≤ k) (hb : ∀ z, z < k → decide (nth os z = (p, q)) = false) : -1 = ZbH os (p, q) := by
 unfold ZbH
 exact (Zdr fun j hj => hb j (by omega)).symm
def Zw2 (n : List (List Int)) (ps : List (List Int × List Int)) (n2 : List (List Int)) (ps2 : List (List Int × List Int)) : List (List (List Int) × List (List Int × List Int)) := [(n, ps), (n2, ps2)]
def colP (os : List (Int × Int)) (w : Nat) : List Int := if w = 0 then os.map Prod.fst else os.map Prod.snd
def Zqz (n : List (List Int)) (ps : List (List Int × List Int)) (n2 : List (List Int)) (ps2 : List (List Int × List Int)) (os : List (Int × Int)) : Nat → List (List Int × List Int)
 | 0 => []
 | w + 1 => Zqz n ps n2 ps2 os w ++ Zco (nth (Zw2 n ps n2 ps2) w).2 (colP os w)
theorem ZlB  {ps : List (List Int × List Int)}   {os : List (Int × Int)} : Zqz n ps n2 ps2 os 2 = Zco ps (os.map Prod.fst) ++ Zco ps2 (os.map Prod.snd) := rfl
section
variable {a b : List (List Int)} {os ps : List (Int × Int)} {k x : Nat}
def rowX (a b : List (List Int)) (ps : List (Int × Int)) (q : Int × Int) (x : Nat) : List Int := ((Zbu a b q).take x).map (ZbH ps)
theorem ZcO  (h : x ≤ (nth a q.1.toNat).length) : (rowX a b ps q x).length = x := by
 have : x ≤ (rowN a q.1).length := h
 unfold rowX; rw [List.length_map, List.length_take, Zbp]; omega
theorem ZiX  (hx : x < (nth a q.1.toNat).length) : rowX a b ps q x ++ [ZbH ps (nth (nth a q.1.toNat) x, nth (nth b q.2.toNat) x)] = rowX a b ps q (x + 1) := by
 have hx' : x < (rowN a q.1).length := hx
 unfold rowX; rw [ZcW (by rw [Zbp]; exact hx'), List.map_append, ZcL hx']; rfl
def Seen (a b : List (List Int)) (ps : List (Int × Int)) (q : Int × Int) (x : Nat) : Prop := ∀ y ∈ (Zbu a b q).take x, y ∈ ps
theorem Seen.zero : Seen a b ps q 0 := fun y hy => by simp at hy
theorem Seen.yes  (h : Seen a b ps q x) (hx : x < (nth a q.1.toNat).length) (hh : hasP ps (nth (nth a q.1.toNat) x, nth (nth b q.2.toNat) x) = true) : Seen a b ps q (x + 1) := fun y hy => by
 have hx' : x < (rowN a q.1).length := hx
 rw [ZcW (by rw [Zbp]; exact hx'), ZcL hx'] at hy
 rcases List.mem_append.1 hy with h1 | h1
 ·exact h y h1
 ·simp only [List.mem_singleton] at h1; subst h1; exact hasP_iff.1 hh
theorem Seen.no  (h : Seen a b ps q x) (hx : x < (nth a q.1.toNat).length) : Seen a b (ps ++ [(nth (nth a q.1.toNat) x, nth (nth b q.2.toNat) x)]) q (x + 1) := fun y hy => by
 have hx' : x < (rowN a q.1).length := hx
 rw [ZcW (by rw [Zbp]; exact hx'), ZcL hx'] at hy
 rcases List.mem_append.1 hy with h1 | h1
 ·exact List.mem_append.2 (.inl (h y h1))
 ·simp only [List.mem_singleton] at h1; subst h1; exact List.mem_append.2 (.inr (by simp [rowN]))
theorem ZpP  {y : Int × Int} (h : Seen a b ps q x) : rowX a b (ps ++ [y]) q x = rowX a b ps q x := by
 unfold rowX; exact List.map_congr_left fun z hz => Zig (h z hz)
theorem Zow  (h : Seen a b ps q x) (hx : x < (nth a q.1.toNat).length) (hh : hasP ps (nth (nth a q.1.toNat) x, nth (nth b q.2.toNat) x) = false) : rowX a b ps q x ++ [(ps.length : Int)] = rowX a b (ps ++ [(nth (nth a q.1.toNat) x, nth (nth b q.2.toNat) x)]) q (x + 1) := by
 rw [← ZiX hx, ZpP h, ZmI hh]
theorem ZlA  (hx : (nth a q.1.toNat).length ≤ x) : rowX a b ps q x = (Zbu a b q).map (ZbH ps) := by
 have hx' : (rowN a q.1).length ≤ x := hx
 unfold rowX; rw [List.take_of_length_le (by rw [Zbp]; exact hx')]
theorem Seen.all  (h : Seen a b ps q x) (hx : (nth a q.1.toNat).length ≤ x) : ∀ y ∈ Zbu a b q, y ∈ ps := fun y hy => by
 have hx' : (rowN a q.1).length ≤ x := hx
 exact h y (by rw [List.take_of_length_le (by rw [Zbp]; exact hx')]; exact hy)
theorem Zi4  (hx : x < (nth a q.1.toNat).length) (h : addG ps ((Zbu a b q).drop x) = L) (hh : hasP ps (nth (nth a q.1.toNat) x, nth (nth b q.2.toNat) x) = true) : addG ps ((Zbu a b q).drop (x + 1)) = L := by
 have hx' : x < (rowN a q.1).length := hx
 rw [ZjQ (by rw [Zbp]; exact hx'), if_pos (by rw [ZcL hx']; exact hasP_iff.1 hh)] at h; exact h
theorem ZlK  (hx : x < (nth a q.1.toNat).length) (h : addG ps ((Zbu a b q).drop x) = L) (hh : hasP ps (nth (nth a q.1.toNat) x, nth (nth b q.2.toNat) x) = false) : addG (ps ++ [(nth (nth a q.1.toNat) x, nth (nth b q.2.toNat) x)]) ((Zbu a b q).drop (x + 1)) = L := by
 have hx' : x < (rowN a q.1).length := hx
 rw [ZjQ (by rw [Zbp]; exact hx'), if_neg (by rw [ZcL hx']; exact fun m => by have e : hasP ps (nth (nth a q.1.toNat) x, nth (nth b q.2.toNat) x) = true := hasP_iff.2 m; rw [e] at hh; cases hh), ZcL hx'] at h; exact h
theorem ZiI  (hx : (nth a q.1.toNat).length ≤ x) (h : addG ps ((Zbu a b q).drop x) = L) : ps = L := by
 rw [ZpR (by rw [Zbp]; exact hx)] at h; exact h
theorem Zob (h : jnF a b = jnG a b (48 - k) k os) (hk : k < os.length) (hl : os.length ≤ 48) (e : ps = addG os (Zbu a b (nth os k))) (hp : 48 < ps.length) : jnF a b = none := by
 rw [Zv2 h hk hl, List.drop_zero, ← e, if_pos hp]
theorem Zop (h : jnF a b = jnG a b (48 - k) k os) (hk : k < os.length) (hl : os.length ≤ 48) (e : ps = addG os (Zbu a b (nth os k))) (hp : ps.length ≤ 48) : jnF a b = jnG a b (48 - (k + 1)) (k + 1) ps := by
 rw [Zv2 h hk hl, List.drop_zero, ← e, if_neg (by omega)]
theorem ZjU (hc : Clo a b os k) (g4 : Ext os ps) (hk : k < os.length) : ZbM a b os k ++ [(Zbu a b (nth os k)).map (ZbH ps)] = ZbM a b ps (k + 1) := by
 have e := g4.nth hk
 have hl := g4.len
 rw [Zl0 (by omega), e]
 obtain ⟨t, rfl⟩ := g4
 rw [Znb hc (by omega)]
theorem Clo.step (hc : Clo a b os k) (g4 : Ext os ps) (hk : k < os.length) (h : ∀ y ∈ Zbu a b (nth os k), y ∈ ps) : Clo a b ps (k + 1) := (hc.ext g4 (by omega)).next (by rw [g4.nth hk]; exact h)
theorem ZjF (h : os.length ≤ k) : ZbM a b os k = ZbM a b os os.length := by
 unfold ZbM; rw [List.take_of_length_le h, List.take_of_length_le (Nat.le_refl _)]
end
end Go.Proofs.Ytnieejghoaccmaa

