/- The table of the program's types, and that it is right. No conditions. -/
import Derived.Test.YtabfpoflhacknaaGreatKC
namespace Go.Proofs.YtabfpoflhacknaaGreat
open Go.RowKit
open Shp

theorem ty1 : ∃ inf z d, Zbg Tryz.prog 1 ⟨1, .base, [.undef]⟩ inf z d :=
 ⟨Tryz.t1, .nilFunc, _, by kernel_rfl, rfl, rfl, rfl, rfl, fun k hk => match k, hk with | 0, _ => Zjh rfl, Tryz.underlying1, rfl⟩
theorem ty2 : ∃ inf z d, Zbg Tryz.prog 2 ⟨1, .int .i64, [.g (.int .i64 0)]⟩ inf z d :=
 ⟨Tryz.t2, .int .i64 0, _, by kernel_rfl, rfl, rfl, rfl, rfl, fun k hk => match k, hk with | 0, _ => Zev _, Tryz.underlying2, rfl⟩
theorem ty3 : ∃ inf z d, Zbg Tryz.prog 3 ⟨1, .int .i64, [.g (.int .i64 0)]⟩ inf z d :=
 ⟨Tryz.t3, .int .i64 0, _, by kernel_rfl, rfl, rfl, rfl, rfl, fun k hk => match k, hk with | 0, _ => Zev _, Tryz.underlying3, rfl⟩
theorem ty4 : ∃ inf z d, Zbg Tryz.prog 4 ⟨1, .bool, [.g (.bool false)]⟩ inf z d :=
 ⟨Tryz.t4, .bool false, _, by kernel_rfl, rfl, rfl, rfl, rfl, fun k hk => match k, hk with | 0, _ => ZrX, Tryz.underlying4, rfl⟩
theorem ty5 : ∃ inf z d, Zbg Tryz.prog 5 ⟨1, .int .u8, [.g (.int .u8 0)]⟩ inf z d :=
 ⟨Tryz.t5, .int .u8 0, _, by kernel_rfl, rfl, rfl, rfl, rfl, fun k hk => match k, hk with | 0, _ => Zev _, Tryz.underlying5, rfl⟩
theorem ty6 : ∃ inf z d, Zbg Tryz.prog 6 ⟨1, .int .u8, [.g (.int .u8 0)]⟩ inf z d :=
 ⟨Tryz.t6, .int .u8 0, _, by kernel_rfl, rfl, rfl, rfl, rfl, fun k hk => match k, hk with | 0, _ => Zev _, Tryz.underlying6, rfl⟩
theorem ty7 : ∃ inf z d, Zbg Tryz.prog 7 ⟨4, .st [(0, 2), (1, 3), (2, 4), (3, 6)], [.g (.int .i64 0), .g (.int .i64 0), .g (.bool false), .g (.int .u8 0)]⟩ inf z d :=
 ⟨Tryz.t7, .agg #[.int .i64 0, .int .i64 0, .bool false, .int .u8 0], _, by kernel_rfl, rfl, rfl, rfl, rfl, fun k hk => match k, hk with | 0, _ => Zev _ | 1, _ => Zev _ | 2, _ => ZrX | 3, _ => Zev _, Tryz.underlying7, ⟨_, rfl, rfl⟩⟩
theorem ty8 : ∃ inf z d, Zbg Tryz.prog 8 ⟨4, .st [(0, 2), (1, 3), (2, 4), (3, 6)], [.g (.int .i64 0), .g (.int .i64 0), .g (.bool false), .g (.int .u8 0)]⟩ inf z d :=
 ⟨Tryz.t8, .agg #[.int .i64 0, .int .i64 0, .bool false, .int .u8 0], _, by kernel_rfl, rfl, rfl, rfl, rfl, fun k hk => match k, hk with | 0, _ => Zev _ | 1, _ => Zev _ | 2, _ => ZrX | 3, _ => Zev _, Tryz.underlying8, ⟨_, rfl, rfl⟩⟩
theorem ty22 : ∃ inf z d, Zbg Tryz.prog 22 ⟨1, .sl 5, [.nils 1]⟩ inf z d :=
 ⟨Tryz.t22, .slice none 0 0, _, by kernel_rfl, rfl, rfl, rfl, rfl, fun k hk => match k, hk with | 0, _ => ZcA (by decide), Tryz.underlying22, ⟨rfl, Tryz.t5, by kernel_rfl, by decide⟩⟩
theorem ty25 : ∃ inf z d, Zbg Tryz.prog 25 ⟨2, .st [(0, 2), (1, 2)], [.g (.int .i64 0), .g (.int .i64 0)]⟩ inf z d :=
 ⟨Tryz.t25, .agg #[.int .i64 0, .int .i64 0], _, by kernel_rfl, rfl, rfl, rfl, rfl, fun k hk => match k, hk with | 0, _ => Zev _ | 1, _ => Zev _, Tryz.underlying25, ⟨_, rfl, rfl⟩⟩
theorem ty26 : ∃ inf z d, Zbg Tryz.prog 26 ⟨1, .sl 37, [.nils 1]⟩ inf z d :=
 ⟨Tryz.t26, .slice none 0 0, _, by kernel_rfl, rfl, rfl, rfl, rfl, fun k hk => match k, hk with | 0, _ => ZcA (by decide), Tryz.underlying26, ⟨rfl, Tryz.t37, by kernel_rfl, by decide⟩⟩
theorem ty27 : ∃ inf z d, Zbg Tryz.prog 27 ⟨1, .sl 75, [.nils 2]⟩ inf z d :=
 ⟨Tryz.t27, .slice none 0 0, _, by kernel_rfl, rfl, rfl, rfl, rfl, fun k hk => match k, hk with | 0, _ => ZcA (by decide), Tryz.underlying27, ⟨rfl, Tryz.t75, by kernel_rfl, by decide⟩⟩
theorem ty29 : ∃ inf z d, Zbg Tryz.prog 29 ⟨2, .st [(0, 26), (1, 27)], [.nils 1, .nils 2]⟩ inf z d :=
 ⟨Tryz.t29, .agg #[.slice none 0 0, .slice none 0 0], _, by kernel_rfl, rfl, rfl, rfl, rfl, fun k hk => match k, hk with | 0, _ => ZcA (by decide) | 1, _ => ZcA (by decide), Tryz.underlying29, ⟨_, rfl, rfl⟩⟩
theorem ty34 : ∃ inf z d, Zbg Tryz.prog 34 ⟨1, .base, [.g .nilp]⟩ inf z d :=
 ⟨Tryz.t34, .pointer none, _, by kernel_rfl, rfl, rfl, rfl, rfl, fun k hk => match k, hk with | 0, _ => Zyr, Tryz.underlying34, rfl⟩
theorem ty36 : ∃ inf z d, Zbg Tryz.prog 36 ⟨1, .int .u64, [.g (.int .u64 0)]⟩ inf z d :=
 ⟨Tryz.t36, .int .u64 0, _, by kernel_rfl, rfl, rfl, rfl, rfl, fun k hk => match k, hk with | 0, _ => Zev _, Tryz.underlying36, rfl⟩
theorem ty37 : ∃ inf z d, Zbg Tryz.prog 37 ⟨1, .sl 2, [.nils 1]⟩ inf z d :=
 ⟨Tryz.t37, .slice none 0 0, _, by kernel_rfl, rfl, rfl, rfl, rfl, fun k hk => match k, hk with | 0, _ => ZcA (by decide), Tryz.underlying37, ⟨rfl, Tryz.t2, by kernel_rfl, by decide⟩⟩
theorem ty39 : ∃ inf z d, Zbg Tryz.prog 39 ⟨2, .st [(0, 37), (1, 37)], [.nils 1, .nils 1]⟩ inf z d :=
 ⟨Tryz.t39, .agg #[.slice none 0 0, .slice none 0 0], _, by kernel_rfl, rfl, rfl, rfl, rfl, fun k hk => match k, hk with | 0, _ => ZcA (by decide) | 1, _ => ZcA (by decide), Tryz.underlying39, ⟨_, rfl, rfl⟩⟩
theorem ty44 : ∃ inf z d, Zbg Tryz.prog 44 ⟨1, .sl 69, [.nils 3]⟩ inf z d :=
 ⟨Tryz.t44, .slice none 0 0, _, by kernel_rfl, rfl, rfl, rfl, rfl, fun k hk => match k, hk with | 0, _ => ZcA (by decide), Tryz.underlying44, ⟨rfl, Tryz.t69, by kernel_rfl, by decide⟩⟩
theorem ty59 : ∃ inf z d, Zbg Tryz.prog 59 ⟨3, .st [(0, 22), (1, 3), (2, 36)], [.nils 1, .g (.int .i64 0), .g (.int .u64 0)]⟩ inf z d :=
 ⟨Tryz.t59, .agg #[.slice none 0 0, .int .i64 0, .int .u64 0], _, by kernel_rfl, rfl, rfl, rfl, rfl, fun k hk => match k, hk with | 0, _ => ZcA (by decide) | 1, _ => Zev _ | 2, _ => Zev _, Tryz.underlying59, ⟨_, rfl, rfl⟩⟩
theorem ty69 : ∃ inf z d, Zbg Tryz.prog 69 ⟨3, .st [(0, 2), (1, 37), (2, 37)], [.g (.int .i64 0), .nils 1, .nils 1]⟩ inf z d :=
 ⟨Tryz.t69, .agg #[.int .i64 0, .slice none 0 0, .slice none 0 0], _, by kernel_rfl, rfl, rfl, rfl, rfl, fun k hk => match k, hk with | 0, _ => Zev _ | 1, _ => ZcA (by decide) | 2, _ => ZcA (by decide), Tryz.underlying69, ⟨_, rfl, rfl⟩⟩
theorem ty75 : ∃ inf z d, Zbg Tryz.prog 75 ⟨2, .st [(0, 37), (1, 37)], [.nils 1, .nils 1]⟩ inf z d :=
 ⟨Tryz.t75, .agg #[.slice none 0 0, .slice none 0 0], _, by kernel_rfl, rfl, rfl, rfl, rfl, fun k hk => match k, hk with | 0, _ => ZcA (by decide) | 1, _ => ZcA (by decide), Tryz.underlying75, ⟨_, rfl, rfl⟩⟩
theorem ty79 : ∃ inf z d, Zbg Tryz.prog 79 ⟨1, .base, [.undef]⟩ inf z d :=
 ⟨Tryz.t79, .nilFunc, _, by kernel_rfl, rfl, rfl, rfl, rfl, fun k hk => match k, hk with | 0, _ => Zjh rfl, Tryz.underlying79, rfl⟩
theorem ty81 : ∃ inf z d, Zbg Tryz.prog 81 ⟨1, .base, [.undef]⟩ inf z d :=
 ⟨Tryz.t81, .nilFunc, _, by kernel_rfl, rfl, rfl, rfl, rfl, fun k hk => match k, hk with | 0, _ => Zjh rfl, Tryz.underlying81, rfl⟩
theorem ty89 : ∃ inf z d, Zbg Tryz.prog 89 ⟨2, .ar 2 2, [.g (.int .i64 0), .g (.int .i64 0)]⟩ inf z d :=
 ⟨Tryz.t89, .agg #[.int .i64 0, .int .i64 0], _, by kernel_rfl, rfl, rfl, rfl, rfl, fun k hk => match k, hk with | 0, _ => Zev _ | 1, _ => Zev _, Tryz.underlying89, rfl⟩
theorem ty90 : ∃ inf z d, Zbg Tryz.prog 90 ⟨1, .sl 89, [.nils 2]⟩ inf z d :=
 ⟨Tryz.t90, .slice none 0 0, _, by kernel_rfl, rfl, rfl, rfl, rfl, fun k hk => match k, hk with | 0, _ => ZcA (by decide), Tryz.underlying90, ⟨rfl, Tryz.t89, by kernel_rfl, by decide⟩⟩
theorem ty92 : ∃ inf z d, Zbg Tryz.prog 92 ⟨1, .sl 29, [.nils 2]⟩ inf z d :=
 ⟨Tryz.t92, .slice none 0 0, _, by kernel_rfl, rfl, rfl, rfl, rfl, fun k hk => match k, hk with | 0, _ => ZcA (by decide), Tryz.underlying92, ⟨rfl, Tryz.t29, by kernel_rfl, by decide⟩⟩
theorem ty96 : ∃ inf z d, Zbg Tryz.prog 96 ⟨1, .int .u64, [.g (.int .u64 0)]⟩ inf z d :=
 ⟨Tryz.t96, .int .u64 0, _, by kernel_rfl, rfl, rfl, rfl, rfl, fun k hk => match k, hk with | 0, _ => Zev _, Tryz.underlying96, rfl⟩
theorem ty97 : ∃ inf z d, Zbg Tryz.prog 97 ⟨1, .sl 98, [.nils 1]⟩ inf z d :=
 ⟨Tryz.t97, .slice none 0 0, _, by kernel_rfl, rfl, rfl, rfl, rfl, fun k hk => match k, hk with | 0, _ => ZcA (by decide), Tryz.underlying97, ⟨rfl, Tryz.t98, by kernel_rfl, by decide⟩⟩
theorem ty98 : ∃ inf z d, Zbg Tryz.prog 98 ⟨1, .sl 4, [.nils 1]⟩ inf z d :=
 ⟨Tryz.t98, .slice none 0 0, _, by kernel_rfl, rfl, rfl, rfl, rfl, fun k hk => match k, hk with | 0, _ => ZcA (by decide), Tryz.underlying98, ⟨rfl, Tryz.t4, by kernel_rfl, by decide⟩⟩
theorem ZAX : ∃ inf z d, Zbg Tryz.prog 108 ⟨1, .base, [.undef]⟩ inf z d :=
 ⟨Tryz.t108, .nilFunc, _, by kernel_rfl, rfl, rfl, rfl, rfl, fun k hk => match k, hk with | 0, _ => Zjh rfl, Tryz.underlying108, rfl⟩
theorem ZAW : ∃ inf z d, Zbg Tryz.prog 117 ⟨1, .base, [.undef]⟩ inf z d :=
 ⟨Tryz.t117, .nilFunc, _, by kernel_rfl, rfl, rfl, rfl, rfl, fun k hk => match k, hk with | 0, _ => Zjh rfl, Tryz.underlying117, rfl⟩

def ZqT (t : TypeId) (x : Option TI) : Prop := ∀ i, x = some i → ∃ inf z d, Zbg Tryz.prog t i inf z d
theorem Za6 {t k : TypeId} {x : TI} (h : ∃ inf z d, Zbg Tryz.prog k x inf z d) : ZqT t (bif Nat.beq t k then some x else none) := fun i hi => by
 cases e : Nat.beq t k
 ·rw [e] at hi; cases hi
 ·rw [e] at hi; cases hi
  have := Nat.eq_of_beq_eq_true e
  subst this; exact h
theorem ZaO {t : TypeId} {c : Bool} {a b : Option TI} (h1 : ZqT t a) (h2 : ZqT t b) : ZqT t (bif c then a else b) := by cases c; exact h2; exact h1
def tab (t : TypeId) : Option TI := (bif Nat.blt t 37 then (bif Nat.blt t 8 then (bif Nat.blt t 4 then (bif Nat.blt t 2 then (bif Nat.beq t 1 then some ⟨1, .base, [.undef]⟩ else none) else (bif Nat.blt t 3 then (bif Nat.beq t 2 then some ⟨1, .int .i64, [.g (.int .i64 0)]⟩ else none) else (bif Nat.beq t 3 then some ⟨1, .int .i64, [.g (.int .i64 0)]⟩ else none))) else (bif Nat.blt t 6 then (bif Nat.blt t 5 then (bif Nat.beq t 4 then some ⟨1, .bool, [.g (.bool false)]⟩ else none) else (bif Nat.beq t 5 then some ⟨1, .int .u8, [.g (.int .u8 0)]⟩ else none)) else (bif Nat.blt t 7 then (bif Nat.beq t 6 then some ⟨1, .int .u8, [.g (.int .u8 0)]⟩ else none) else (bif Nat.beq t 7 then some ⟨4, .st [(0, 2), (1, 3), (2, 4), (3, 6)], [.g (.int .i64 0), .g (.int .i64 0), .g (.bool false), .g (.int .u8 0)]⟩ else none)))) else (bif Nat.blt t 27 then (bif Nat.blt t 25 then (bif Nat.blt t 22 then (bif Nat.beq t 8 then some ⟨4, .st [(0, 2), (1, 3), (2, 4), (3, 6)], [.g (.int .i64 0), .g (.int .i64 0), .g (.bool false), .g (.int .u8 0)]⟩ else none) else (bif Nat.beq t 22 then some ⟨1, .sl 5, [.nils 1]⟩ else none)) else (bif Nat.blt t 26 then (bif Nat.beq t 25 then some ⟨2, .st [(0, 2), (1, 2)], [.g (.int .i64 0), .g (.int .i64 0)]⟩ else none) else (bif Nat.beq t 26 then some ⟨1, .sl 37, [.nils 1]⟩ else none))) else (bif Nat.blt t 34 then (bif Nat.blt t 29 then (bif Nat.beq t 27 then some ⟨1, .sl 75, [.nils 2]⟩ else none) else (bif Nat.beq t 29 then some ⟨2, .st [(0, 26), (1, 27)], [.nils 1, .nils 2]⟩ else none)) else (bif Nat.blt t 36 then (bif Nat.beq t 34 then some ⟨1, .base, [.g .nilp]⟩ else none) else (bif Nat.beq t 36 then some ⟨1, .int .u64, [.g (.int .u64 0)]⟩ else none))))) else (bif Nat.blt t 89 then (bif Nat.blt t 69 then (bif Nat.blt t 44 then (bif Nat.blt t 39 then (bif Nat.beq t 37 then some ⟨1, .sl 2, [.nils 1]⟩ else none) else (bif Nat.beq t 39 then some ⟨2, .st [(0, 37), (1, 37)], [.nils 1, .nils 1]⟩ else none)) else (bif Nat.blt t 59 then (bif Nat.beq t 44 then some ⟨1, .sl 69, [.nils 3]⟩ else none) else (bif Nat.beq t 59 then some ⟨3, .st [(0, 22), (1, 3), (2, 36)], [.nils 1, .g (.int .i64 0), .g (.int .u64 0)]⟩ else none))) else (bif Nat.blt t 79 then (bif Nat.blt t 75 then (bif Nat.beq t 69 then some ⟨3, .st [(0, 2), (1, 37), (2, 37)], [.g (.int .i64 0), .nils 1, .nils 1]⟩ else none) else (bif Nat.beq t 75 then some ⟨2, .st [(0, 37), (1, 37)], [.nils 1, .nils 1]⟩ else none)) else (bif Nat.blt t 81 then (bif Nat.beq t 79 then some ⟨1, .base, [.undef]⟩ else none) else (bif Nat.beq t 81 then some ⟨1, .base, [.undef]⟩ else none)))) else (bif Nat.blt t 97 then (bif Nat.blt t 92 then (bif Nat.blt t 90 then (bif Nat.beq t 89 then some ⟨2, .ar 2 2, [.g (.int .i64 0), .g (.int .i64 0)]⟩ else none) else (bif Nat.beq t 90 then some ⟨1, .sl 89, [.nils 2]⟩ else none)) else (bif Nat.blt t 96 then (bif Nat.beq t 92 then some ⟨1, .sl 29, [.nils 2]⟩ else none) else (bif Nat.beq t 96 then some ⟨1, .int .u64, [.g (.int .u64 0)]⟩ else none))) else (bif Nat.blt t 108 then (bif Nat.blt t 98 then (bif Nat.beq t 97 then some ⟨1, .sl 98, [.nils 1]⟩ else none) else (bif Nat.beq t 98 then some ⟨1, .sl 4, [.nils 1]⟩ else none)) else (bif Nat.blt t 117 then (bif Nat.beq t 108 then some ⟨1, .base, [.undef]⟩ else none) else (bif Nat.beq t 117 then some ⟨1, .base, [.undef]⟩ else none))))))

theorem Zad : TabOk Tryz.prog tab := fun t i => by
 show tab t = some i → _
 have : ZqT t (tab t) := by
  unfold tab
  exact (ZaO (ZaO (ZaO (ZaO (Za6 ty1) (ZaO (Za6 ty2) (Za6 ty3))) (ZaO (ZaO (Za6 ty4) (Za6 ty5)) (ZaO (Za6 ty6) (Za6 ty7)))) (ZaO (ZaO (ZaO (Za6 ty8) (Za6 ty22)) (ZaO (Za6 ty25) (Za6 ty26))) (ZaO (ZaO (Za6 ty27) (Za6 ty29)) (ZaO (Za6 ty34) (Za6 ty36))))) (ZaO (ZaO (ZaO (ZaO (Za6 ty37) (Za6 ty39)) (ZaO (Za6 ty44) (Za6 ty59))) (ZaO (ZaO (Za6 ty69) (Za6 ty75)) (ZaO (Za6 ty79) (Za6 ty81)))) (ZaO (ZaO (ZaO (Za6 ty89) (Za6 ty90)) (ZaO (Za6 ty92) (Za6 ty96))) (ZaO (ZaO (Za6 ty97) (Za6 ty98)) (ZaO (Za6 ZAX) (Za6 ZAW))))))
 exact this i

end Go.Proofs.YtabfpoflhacknaaGreat

