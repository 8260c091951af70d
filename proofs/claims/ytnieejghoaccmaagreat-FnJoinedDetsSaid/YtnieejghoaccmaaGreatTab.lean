/- The table of the program's types, and that it is right. No conditions. -/
import Derived.Test.YtnieejghoaccmaaGreatKC
namespace Go.Proofs.YtnieejghoaccmaaGreat
open Go.RowKit
open Shp

theorem ty1 : ∃ inf z d, Za4 Tryz.prog 1 ⟨1, .base, [.undef]⟩ inf z d :=
 ⟨Tryz.t1, .nilFunc, _, by kernel_rfl, rfl, rfl, rfl, rfl, fun k hk => match k, hk with | 0, _ => ZpR rfl, Tryz.underlying1, rfl⟩
theorem ty2 : ∃ inf z d, Za4 Tryz.prog 2 ⟨1, .int .i64, [.g (.int .i64 0)]⟩ inf z d :=
 ⟨Tryz.t2, .int .i64 0, _, by kernel_rfl, rfl, rfl, rfl, rfl, fun k hk => match k, hk with | 0, _ => ZdG _, Tryz.underlying2, rfl⟩
theorem ty3 : ∃ inf z d, Za4 Tryz.prog 3 ⟨1, .int .i64, [.g (.int .i64 0)]⟩ inf z d :=
 ⟨Tryz.t3, .int .i64 0, _, by kernel_rfl, rfl, rfl, rfl, rfl, fun k hk => match k, hk with | 0, _ => ZdG _, Tryz.underlying3, rfl⟩
theorem ty4 : ∃ inf z d, Za4 Tryz.prog 4 ⟨1, .bool, [.g (.bool false)]⟩ inf z d :=
 ⟨Tryz.t4, .bool false, _, by kernel_rfl, rfl, rfl, rfl, rfl, fun k hk => match k, hk with | 0, _ => Zo7, Tryz.underlying4, rfl⟩
theorem ty5 : ∃ inf z d, Za4 Tryz.prog 5 ⟨1, .int .u8, [.g (.int .u8 0)]⟩ inf z d :=
 ⟨Tryz.t5, .int .u8 0, _, by kernel_rfl, rfl, rfl, rfl, rfl, fun k hk => match k, hk with | 0, _ => ZdG _, Tryz.underlying5, rfl⟩
theorem ty6 : ∃ inf z d, Za4 Tryz.prog 6 ⟨1, .int .u8, [.g (.int .u8 0)]⟩ inf z d :=
 ⟨Tryz.t6, .int .u8 0, _, by kernel_rfl, rfl, rfl, rfl, rfl, fun k hk => match k, hk with | 0, _ => ZdG _, Tryz.underlying6, rfl⟩
theorem ty7 : ∃ inf z d, Za4 Tryz.prog 7 ⟨4, .st [(0, 2), (1, 3), (2, 4), (3, 6)], [.g (.int .i64 0), .g (.int .i64 0), .g (.bool false), .g (.int .u8 0)]⟩ inf z d :=
 ⟨Tryz.t7, .agg #[.int .i64 0, .int .i64 0, .bool false, .int .u8 0], _, by kernel_rfl, rfl, rfl, rfl, rfl, fun k hk => match k, hk with | 0, _ => ZdG _ | 1, _ => ZdG _ | 2, _ => Zo7 | 3, _ => ZdG _, Tryz.underlying7, ⟨_, rfl, rfl⟩⟩
theorem ty8 : ∃ inf z d, Za4 Tryz.prog 8 ⟨4, .st [(0, 2), (1, 3), (2, 4), (3, 6)], [.g (.int .i64 0), .g (.int .i64 0), .g (.bool false), .g (.int .u8 0)]⟩ inf z d :=
 ⟨Tryz.t8, .agg #[.int .i64 0, .int .i64 0, .bool false, .int .u8 0], _, by kernel_rfl, rfl, rfl, rfl, rfl, fun k hk => match k, hk with | 0, _ => ZdG _ | 1, _ => ZdG _ | 2, _ => Zo7 | 3, _ => ZdG _, Tryz.underlying8, ⟨_, rfl, rfl⟩⟩
theorem ty9 : ∃ inf z d, Za4 Tryz.prog 9 ⟨1, .str, [.g (.str ⟨#[]⟩)]⟩ inf z d :=
 ⟨Tryz.t9, .string ⟨#[]⟩, _, by kernel_rfl, rfl, rfl, rfl, rfl, fun k hk => match k, hk with | 0, _ => Zxr, Tryz.underlying9, rfl⟩
theorem ty10 : ∃ inf z d, Za4 Tryz.prog 10 ⟨1, .str, [.g (.str ⟨#[]⟩)]⟩ inf z d :=
 ⟨Tryz.t10, .string ⟨#[]⟩, _, by kernel_rfl, rfl, rfl, rfl, rfl, fun k hk => match k, hk with | 0, _ => Zxr, Tryz.underlying10, rfl⟩
theorem ty22 : ∃ inf z d, Za4 Tryz.prog 22 ⟨1, .sl 5, [.nils 1]⟩ inf z d :=
 ⟨Tryz.t22, .slice none 0 0, _, by kernel_rfl, rfl, rfl, rfl, rfl, fun k hk => match k, hk with | 0, _ => Zcb (by decide), Tryz.underlying22, ⟨rfl, Tryz.t5, by kernel_rfl, by decide⟩⟩
theorem ty25 : ∃ inf z d, Za4 Tryz.prog 25 ⟨2, .st [(0, 2), (1, 2)], [.g (.int .i64 0), .g (.int .i64 0)]⟩ inf z d :=
 ⟨Tryz.t25, .agg #[.int .i64 0, .int .i64 0], _, by kernel_rfl, rfl, rfl, rfl, rfl, fun k hk => match k, hk with | 0, _ => ZdG _ | 1, _ => ZdG _, Tryz.underlying25, ⟨_, rfl, rfl⟩⟩
theorem ty26 : ∃ inf z d, Za4 Tryz.prog 26 ⟨1, .sl 37, [.nils 1]⟩ inf z d :=
 ⟨Tryz.t26, .slice none 0 0, _, by kernel_rfl, rfl, rfl, rfl, rfl, fun k hk => match k, hk with | 0, _ => Zcb (by decide), Tryz.underlying26, ⟨rfl, Tryz.t37, by kernel_rfl, by decide⟩⟩
theorem ty27 : ∃ inf z d, Za4 Tryz.prog 27 ⟨1, .sl 68, [.nils 2]⟩ inf z d :=
 ⟨Tryz.t27, .slice none 0 0, _, by kernel_rfl, rfl, rfl, rfl, rfl, fun k hk => match k, hk with | 0, _ => Zcb (by decide), Tryz.underlying27, ⟨rfl, Tryz.t68, by kernel_rfl, by decide⟩⟩
theorem ty29 : ∃ inf z d, Za4 Tryz.prog 29 ⟨2, .st [(0, 26), (1, 27)], [.nils 1, .nils 2]⟩ inf z d :=
 ⟨Tryz.t29, .agg #[.slice none 0 0, .slice none 0 0], _, by kernel_rfl, rfl, rfl, rfl, rfl, fun k hk => match k, hk with | 0, _ => Zcb (by decide) | 1, _ => Zcb (by decide), Tryz.underlying29, ⟨_, rfl, rfl⟩⟩
theorem ty34 : ∃ inf z d, Za4 Tryz.prog 34 ⟨1, .base, [.g .nilp]⟩ inf z d :=
 ⟨Tryz.t34, .pointer none, _, by kernel_rfl, rfl, rfl, rfl, rfl, fun k hk => match k, hk with | 0, _ => Zta, Tryz.underlying34, rfl⟩
theorem ty36 : ∃ inf z d, Za4 Tryz.prog 36 ⟨1, .int .u64, [.g (.int .u64 0)]⟩ inf z d :=
 ⟨Tryz.t36, .int .u64 0, _, by kernel_rfl, rfl, rfl, rfl, rfl, fun k hk => match k, hk with | 0, _ => ZdG _, Tryz.underlying36, rfl⟩
theorem ty37 : ∃ inf z d, Za4 Tryz.prog 37 ⟨1, .sl 2, [.nils 1]⟩ inf z d :=
 ⟨Tryz.t37, .slice none 0 0, _, by kernel_rfl, rfl, rfl, rfl, rfl, fun k hk => match k, hk with | 0, _ => Zcb (by decide), Tryz.underlying37, ⟨rfl, Tryz.t2, by kernel_rfl, by decide⟩⟩
theorem ty39 : ∃ inf z d, Za4 Tryz.prog 39 ⟨2, .st [(0, 37), (1, 37)], [.nils 1, .nils 1]⟩ inf z d :=
 ⟨Tryz.t39, .agg #[.slice none 0 0, .slice none 0 0], _, by kernel_rfl, rfl, rfl, rfl, rfl, fun k hk => match k, hk with | 0, _ => Zcb (by decide) | 1, _ => Zcb (by decide), Tryz.underlying39, ⟨_, rfl, rfl⟩⟩
theorem ty44 : ∃ inf z d, Za4 Tryz.prog 44 ⟨1, .base, [.g .nilp]⟩ inf z d :=
 ⟨Tryz.t44, .pointer none, _, by kernel_rfl, rfl, rfl, rfl, rfl, fun k hk => match k, hk with | 0, _ => Zta, Tryz.underlying44, rfl⟩
theorem ty53 : ∃ inf z d, Za4 Tryz.prog 53 ⟨3, .st [(0, 22), (1, 3), (2, 36)], [.nils 1, .g (.int .i64 0), .g (.int .u64 0)]⟩ inf z d :=
 ⟨Tryz.t53, .agg #[.slice none 0 0, .int .i64 0, .int .u64 0], _, by kernel_rfl, rfl, rfl, rfl, rfl, fun k hk => match k, hk with | 0, _ => Zcb (by decide) | 1, _ => ZdG _ | 2, _ => ZdG _, Tryz.underlying53, ⟨_, rfl, rfl⟩⟩
theorem ty63 : ∃ inf z d, Za4 Tryz.prog 63 ⟨3, .st [(0, 22), (1, 3), (2, 2)], [.nils 1, .g (.int .i64 0), .g (.int .i64 0)]⟩ inf z d :=
 ⟨Tryz.t63, .agg #[.slice none 0 0, .int .i64 0, .int .i64 0], _, by kernel_rfl, rfl, rfl, rfl, rfl, fun k hk => match k, hk with | 0, _ => Zcb (by decide) | 1, _ => ZdG _ | 2, _ => ZdG _, Tryz.underlying63, ⟨_, rfl, rfl⟩⟩
theorem ty68 : ∃ inf z d, Za4 Tryz.prog 68 ⟨2, .st [(0, 37), (1, 37)], [.nils 1, .nils 1]⟩ inf z d :=
 ⟨Tryz.t68, .agg #[.slice none 0 0, .slice none 0 0], _, by kernel_rfl, rfl, rfl, rfl, rfl, fun k hk => match k, hk with | 0, _ => Zcb (by decide) | 1, _ => Zcb (by decide), Tryz.underlying68, ⟨_, rfl, rfl⟩⟩
theorem ty71 : ∃ inf z d, Za4 Tryz.prog 71 ⟨2, .ar 2 2, [.g (.int .i64 0), .g (.int .i64 0)]⟩ inf z d :=
 ⟨Tryz.t71, .agg #[.int .i64 0, .int .i64 0], _, by kernel_rfl, rfl, rfl, rfl, rfl, fun k hk => match k, hk with | 0, _ => ZdG _ | 1, _ => ZdG _, Tryz.underlying71, rfl⟩
theorem ty72 : ∃ inf z d, Za4 Tryz.prog 72 ⟨1, .sl 71, [.nils 2]⟩ inf z d :=
 ⟨Tryz.t72, .slice none 0 0, _, by kernel_rfl, rfl, rfl, rfl, rfl, fun k hk => match k, hk with | 0, _ => Zcb (by decide), Tryz.underlying72, ⟨rfl, Tryz.t71, by kernel_rfl, by decide⟩⟩
theorem ty74 : ∃ inf z d, Za4 Tryz.prog 74 ⟨1, .sl 29, [.nils 2]⟩ inf z d :=
 ⟨Tryz.t74, .slice none 0 0, _, by kernel_rfl, rfl, rfl, rfl, rfl, fun k hk => match k, hk with | 0, _ => Zcb (by decide), Tryz.underlying74, ⟨rfl, Tryz.t29, by kernel_rfl, by decide⟩⟩
theorem ty78 : ∃ inf z d, Za4 Tryz.prog 78 ⟨1, .int .u64, [.g (.int .u64 0)]⟩ inf z d :=
 ⟨Tryz.t78, .int .u64 0, _, by kernel_rfl, rfl, rfl, rfl, rfl, fun k hk => match k, hk with | 0, _ => ZdG _, Tryz.underlying78, rfl⟩
theorem ty79 : ∃ inf z d, Za4 Tryz.prog 79 ⟨1, .sl 80, [.nils 1]⟩ inf z d :=
 ⟨Tryz.t79, .slice none 0 0, _, by kernel_rfl, rfl, rfl, rfl, rfl, fun k hk => match k, hk with | 0, _ => Zcb (by decide), Tryz.underlying79, ⟨rfl, Tryz.t80, by kernel_rfl, by decide⟩⟩
theorem ty80 : ∃ inf z d, Za4 Tryz.prog 80 ⟨1, .sl 4, [.nils 1]⟩ inf z d :=
 ⟨Tryz.t80, .slice none 0 0, _, by kernel_rfl, rfl, rfl, rfl, rfl, fun k hk => match k, hk with | 0, _ => Zcb (by decide), Tryz.underlying80, ⟨rfl, Tryz.t4, by kernel_rfl, by decide⟩⟩
theorem ty91 : ∃ inf z d, Za4 Tryz.prog 91 ⟨1, .sl 105, [.nils 3]⟩ inf z d :=
 ⟨Tryz.t91, .slice none 0 0, _, by kernel_rfl, rfl, rfl, rfl, rfl, fun k hk => match k, hk with | 0, _ => Zcb (by decide), Tryz.underlying91, ⟨rfl, Tryz.t105, by kernel_rfl, by decide⟩⟩
theorem ty95 : ∃ inf z d, Za4 Tryz.prog 95 ⟨1, .base, [.undef]⟩ inf z d :=
 ⟨Tryz.t95, .nilFunc, _, by kernel_rfl, rfl, rfl, rfl, rfl, fun k hk => match k, hk with | 0, _ => ZpR rfl, Tryz.underlying95, rfl⟩
theorem ZAp : ∃ inf z d, Za4 Tryz.prog 105 ⟨3, .st [(0, 2), (1, 37), (2, 37)], [.g (.int .i64 0), .nils 1, .nils 1]⟩ inf z d :=
 ⟨Tryz.t105, .agg #[.int .i64 0, .slice none 0 0, .slice none 0 0], _, by kernel_rfl, rfl, rfl, rfl, rfl, fun k hk => match k, hk with | 0, _ => ZdG _ | 1, _ => Zcb (by decide) | 2, _ => Zcb (by decide), Tryz.underlying105, ⟨_, rfl, rfl⟩⟩

def Zo4 (t : TypeId) (x : Option TI) : Prop := ∀ i, x = some i → ∃ inf z d, Za4 Tryz.prog t i inf z d
theorem ZaT {t k : TypeId} {x : TI} (h : ∃ inf z d, Za4 Tryz.prog k x inf z d) : Zo4 t (bif Nat.beq t k then some x else none) := fun i hi => by
 cases e : Nat.beq t k
 ·rw [e] at hi; cases hi
 ·rw [e] at hi; cases hi
  have := Nat.eq_of_beq_eq_true e
  subst this; exact h
theorem ZaL {t : TypeId} {c : Bool} {a b : Option TI} (h1 : Zo4 t a) (h2 : Zo4 t b) : Zo4 t (bif c then a else b) := by cases c; exact h2; exact h1
def tab (t : TypeId) : Option TI := (bif Nat.blt t 36 then (bif Nat.blt t 9 then (bif Nat.blt t 5 then (bif Nat.blt t 3 then (bif Nat.blt t 2 then (bif Nat.beq t 1 then some ⟨1, .base, [.undef]⟩ else none) else (bif Nat.beq t 2 then some ⟨1, .int .i64, [.g (.int .i64 0)]⟩ else none)) else (bif Nat.blt t 4 then (bif Nat.beq t 3 then some ⟨1, .int .i64, [.g (.int .i64 0)]⟩ else none) else (bif Nat.beq t 4 then some ⟨1, .bool, [.g (.bool false)]⟩ else none))) else (bif Nat.blt t 7 then (bif Nat.blt t 6 then (bif Nat.beq t 5 then some ⟨1, .int .u8, [.g (.int .u8 0)]⟩ else none) else (bif Nat.beq t 6 then some ⟨1, .int .u8, [.g (.int .u8 0)]⟩ else none)) else (bif Nat.blt t 8 then (bif Nat.beq t 7 then some ⟨4, .st [(0, 2), (1, 3), (2, 4), (3, 6)], [.g (.int .i64 0), .g (.int .i64 0), .g (.bool false), .g (.int .u8 0)]⟩ else none) else (bif Nat.beq t 8 then some ⟨4, .st [(0, 2), (1, 3), (2, 4), (3, 6)], [.g (.int .i64 0), .g (.int .i64 0), .g (.bool false), .g (.int .u8 0)]⟩ else none)))) else (bif Nat.blt t 26 then (bif Nat.blt t 22 then (bif Nat.blt t 10 then (bif Nat.beq t 9 then some ⟨1, .str, [.g (.str ⟨#[]⟩)]⟩ else none) else (bif Nat.beq t 10 then some ⟨1, .str, [.g (.str ⟨#[]⟩)]⟩ else none)) else (bif Nat.blt t 25 then (bif Nat.beq t 22 then some ⟨1, .sl 5, [.nils 1]⟩ else none) else (bif Nat.beq t 25 then some ⟨2, .st [(0, 2), (1, 2)], [.g (.int .i64 0), .g (.int .i64 0)]⟩ else none))) else (bif Nat.blt t 29 then (bif Nat.blt t 27 then (bif Nat.beq t 26 then some ⟨1, .sl 37, [.nils 1]⟩ else none) else (bif Nat.beq t 27 then some ⟨1, .sl 68, [.nils 2]⟩ else none)) else (bif Nat.blt t 34 then (bif Nat.beq t 29 then some ⟨2, .st [(0, 26), (1, 27)], [.nils 1, .nils 2]⟩ else none) else (bif Nat.beq t 34 then some ⟨1, .base, [.g .nilp]⟩ else none))))) else (bif Nat.blt t 72 then (bif Nat.blt t 53 then (bif Nat.blt t 39 then (bif Nat.blt t 37 then (bif Nat.beq t 36 then some ⟨1, .int .u64, [.g (.int .u64 0)]⟩ else none) else (bif Nat.beq t 37 then some ⟨1, .sl 2, [.nils 1]⟩ else none)) else (bif Nat.blt t 44 then (bif Nat.beq t 39 then some ⟨2, .st [(0, 37), (1, 37)], [.nils 1, .nils 1]⟩ else none) else (bif Nat.beq t 44 then some ⟨1, .base, [.g .nilp]⟩ else none))) else (bif Nat.blt t 68 then (bif Nat.blt t 63 then (bif Nat.beq t 53 then some ⟨3, .st [(0, 22), (1, 3), (2, 36)], [.nils 1, .g (.int .i64 0), .g (.int .u64 0)]⟩ else none) else (bif Nat.beq t 63 then some ⟨3, .st [(0, 22), (1, 3), (2, 2)], [.nils 1, .g (.int .i64 0), .g (.int .i64 0)]⟩ else none)) else (bif Nat.blt t 71 then (bif Nat.beq t 68 then some ⟨2, .st [(0, 37), (1, 37)], [.nils 1, .nils 1]⟩ else none) else (bif Nat.beq t 71 then some ⟨2, .ar 2 2, [.g (.int .i64 0), .g (.int .i64 0)]⟩ else none)))) else (bif Nat.blt t 80 then (bif Nat.blt t 78 then (bif Nat.blt t 74 then (bif Nat.beq t 72 then some ⟨1, .sl 71, [.nils 2]⟩ else none) else (bif Nat.beq t 74 then some ⟨1, .sl 29, [.nils 2]⟩ else none)) else (bif Nat.blt t 79 then (bif Nat.beq t 78 then some ⟨1, .int .u64, [.g (.int .u64 0)]⟩ else none) else (bif Nat.beq t 79 then some ⟨1, .sl 80, [.nils 1]⟩ else none))) else (bif Nat.blt t 95 then (bif Nat.blt t 91 then (bif Nat.beq t 80 then some ⟨1, .sl 4, [.nils 1]⟩ else none) else (bif Nat.beq t 91 then some ⟨1, .sl 105, [.nils 3]⟩ else none)) else (bif Nat.blt t 105 then (bif Nat.beq t 95 then some ⟨1, .base, [.undef]⟩ else none) else (bif Nat.beq t 105 then some ⟨3, .st [(0, 2), (1, 37), (2, 37)], [.g (.int .i64 0), .nils 1, .nils 1]⟩ else none))))))

theorem Zac : TabOk Tryz.prog tab := fun t i => by
 show tab t = some i → _
 have : Zo4 t (tab t) := by
  unfold tab
  exact (ZaL (ZaL (ZaL (ZaL (ZaL (ZaT ty1) (ZaT ty2)) (ZaL (ZaT ty3) (ZaT ty4))) (ZaL (ZaL (ZaT ty5) (ZaT ty6)) (ZaL (ZaT ty7) (ZaT ty8)))) (ZaL (ZaL (ZaL (ZaT ty9) (ZaT ty10)) (ZaL (ZaT ty22) (ZaT ty25))) (ZaL (ZaL (ZaT ty26) (ZaT ty27)) (ZaL (ZaT ty29) (ZaT ty34))))) (ZaL (ZaL (ZaL (ZaL (ZaT ty36) (ZaT ty37)) (ZaL (ZaT ty39) (ZaT ty44))) (ZaL (ZaL (ZaT ty53) (ZaT ty63)) (ZaL (ZaT ty68) (ZaT ty71)))) (ZaL (ZaL (ZaL (ZaT ty72) (ZaT ty74)) (ZaL (ZaT ty78) (ZaT ty79))) (ZaL (ZaL (ZaT ty80) (ZaT ty91)) (ZaL (ZaT ty95) (ZaT ZAp))))))
 exact this i

end Go.Proofs.YtnieejghoaccmaaGreat

