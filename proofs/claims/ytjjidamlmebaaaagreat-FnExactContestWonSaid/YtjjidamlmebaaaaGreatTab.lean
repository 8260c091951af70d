/- The table of the program's types, and that it is right. No conditions. -/
import Derived.Test.YtjjidamlmebaaaaGreatKC
namespace Go.Proofs.YtjjidamlmebaaaaGreat
open Go.RowKit
open Shp

theorem ty1 : ∃ inf z d, ZaT Tryz.prog 1 ⟨1, .base, [.undef]⟩ inf z d :=
 ⟨Tryz.t1, .nilFunc, _, by kernel_rfl, rfl, rfl, rfl, rfl, fun k hk => match k, hk with | 0, _ => ZiL rfl, Tryz.underlying1, rfl⟩
theorem ty2 : ∃ inf z d, ZaT Tryz.prog 2 ⟨1, .int .i64, [.g (.int .i64 0)]⟩ inf z d :=
 ⟨Tryz.t2, .int .i64 0, _, by kernel_rfl, rfl, rfl, rfl, rfl, fun k hk => match k, hk with | 0, _ => Zfd _, Tryz.underlying2, rfl⟩
theorem ty3 : ∃ inf z d, ZaT Tryz.prog 3 ⟨1, .int .i64, [.g (.int .i64 0)]⟩ inf z d :=
 ⟨Tryz.t3, .int .i64 0, _, by kernel_rfl, rfl, rfl, rfl, rfl, fun k hk => match k, hk with | 0, _ => Zfd _, Tryz.underlying3, rfl⟩
theorem ty4 : ∃ inf z d, ZaT Tryz.prog 4 ⟨1, .bool, [.g (.bool false)]⟩ inf z d :=
 ⟨Tryz.t4, .bool false, _, by kernel_rfl, rfl, rfl, rfl, rfl, fun k hk => match k, hk with | 0, _ => ZoV, Tryz.underlying4, rfl⟩
theorem ty5 : ∃ inf z d, ZaT Tryz.prog 5 ⟨1, .int .u8, [.g (.int .u8 0)]⟩ inf z d :=
 ⟨Tryz.t5, .int .u8 0, _, by kernel_rfl, rfl, rfl, rfl, rfl, fun k hk => match k, hk with | 0, _ => Zfd _, Tryz.underlying5, rfl⟩
theorem ty6 : ∃ inf z d, ZaT Tryz.prog 6 ⟨1, .int .u8, [.g (.int .u8 0)]⟩ inf z d :=
 ⟨Tryz.t6, .int .u8 0, _, by kernel_rfl, rfl, rfl, rfl, rfl, fun k hk => match k, hk with | 0, _ => Zfd _, Tryz.underlying6, rfl⟩
theorem ty7 : ∃ inf z d, ZaT Tryz.prog 7 ⟨4, .st [(0, 2), (1, 3), (2, 4), (3, 6)], [.g (.int .i64 0), .g (.int .i64 0), .g (.bool false), .g (.int .u8 0)]⟩ inf z d :=
 ⟨Tryz.t7, .agg #[.int .i64 0, .int .i64 0, .bool false, .int .u8 0], _, by kernel_rfl, rfl, rfl, rfl, rfl, fun k hk => match k, hk with | 0, _ => Zfd _ | 1, _ => Zfd _ | 2, _ => ZoV | 3, _ => Zfd _, Tryz.underlying7, ⟨_, rfl, rfl⟩⟩
theorem ty8 : ∃ inf z d, ZaT Tryz.prog 8 ⟨4, .st [(0, 2), (1, 3), (2, 4), (3, 6)], [.g (.int .i64 0), .g (.int .i64 0), .g (.bool false), .g (.int .u8 0)]⟩ inf z d :=
 ⟨Tryz.t8, .agg #[.int .i64 0, .int .i64 0, .bool false, .int .u8 0], _, by kernel_rfl, rfl, rfl, rfl, rfl, fun k hk => match k, hk with | 0, _ => Zfd _ | 1, _ => Zfd _ | 2, _ => ZoV | 3, _ => Zfd _, Tryz.underlying8, ⟨_, rfl, rfl⟩⟩
theorem ty9 : ∃ inf z d, ZaT Tryz.prog 9 ⟨1, .str, [.g (.str ⟨#[]⟩)]⟩ inf z d :=
 ⟨Tryz.t9, .string ⟨#[]⟩, _, by kernel_rfl, rfl, rfl, rfl, rfl, fun k hk => match k, hk with | 0, _ => ZvI, Tryz.underlying9, rfl⟩
theorem ty10 : ∃ inf z d, ZaT Tryz.prog 10 ⟨1, .str, [.g (.str ⟨#[]⟩)]⟩ inf z d :=
 ⟨Tryz.t10, .string ⟨#[]⟩, _, by kernel_rfl, rfl, rfl, rfl, rfl, fun k hk => match k, hk with | 0, _ => ZvI, Tryz.underlying10, rfl⟩
theorem ty23 : ∃ inf z d, ZaT Tryz.prog 23 ⟨2, .st [(0, 2), (1, 2)], [.g (.int .i64 0), .g (.int .i64 0)]⟩ inf z d :=
 ⟨Tryz.t23, .agg #[.int .i64 0, .int .i64 0], _, by kernel_rfl, rfl, rfl, rfl, rfl, fun k hk => match k, hk with | 0, _ => Zfd _ | 1, _ => Zfd _, Tryz.underlying23, ⟨_, rfl, rfl⟩⟩
theorem ty27 : ∃ inf z d, ZaT Tryz.prog 27 ⟨2, .st [(0, 2), (1, 2)], [.g (.int .i64 0), .g (.int .i64 0)]⟩ inf z d :=
 ⟨Tryz.t27, .agg #[.int .i64 0, .int .i64 0], _, by kernel_rfl, rfl, rfl, rfl, rfl, fun k hk => match k, hk with | 0, _ => Zfd _ | 1, _ => Zfd _, Tryz.underlying27, ⟨_, rfl, rfl⟩⟩
theorem ty33 : ∃ inf z d, ZaT Tryz.prog 33 ⟨1, .sl 45, [.nils 1]⟩ inf z d :=
 ⟨Tryz.t33, .slice none 0 0, _, by kernel_rfl, rfl, rfl, rfl, rfl, fun k hk => match k, hk with | 0, _ => Za3 (by decide), Tryz.underlying33, ⟨rfl, Tryz.t45, by kernel_rfl, by decide⟩⟩
theorem ty34 : ∃ inf z d, ZaT Tryz.prog 34 ⟨1, .sl 80, [.nils 2]⟩ inf z d :=
 ⟨Tryz.t34, .slice none 0 0, _, by kernel_rfl, rfl, rfl, rfl, rfl, fun k hk => match k, hk with | 0, _ => Za3 (by decide), Tryz.underlying34, ⟨rfl, Tryz.t80, by kernel_rfl, by decide⟩⟩
theorem ty36 : ∃ inf z d, ZaT Tryz.prog 36 ⟨2, .st [(0, 33), (1, 34)], [.nils 1, .nils 2]⟩ inf z d :=
 ⟨Tryz.t36, .agg #[.slice none 0 0, .slice none 0 0], _, by kernel_rfl, rfl, rfl, rfl, rfl, fun k hk => match k, hk with | 0, _ => Za3 (by decide) | 1, _ => Za3 (by decide), Tryz.underlying36, ⟨_, rfl, rfl⟩⟩
theorem ty39 : ∃ inf z d, ZaT Tryz.prog 39 ⟨1, .sl 95, [.nils 2]⟩ inf z d :=
 ⟨Tryz.t39, .slice none 0 0, _, by kernel_rfl, rfl, rfl, rfl, rfl, fun k hk => match k, hk with | 0, _ => Za3 (by decide), Tryz.underlying39, ⟨rfl, Tryz.t95, by kernel_rfl, by decide⟩⟩
theorem ty41 : ∃ inf z d, ZaT Tryz.prog 41 ⟨2, .st [(0, 33), (1, 39)], [.nils 1, .nils 2]⟩ inf z d :=
 ⟨Tryz.t41, .agg #[.slice none 0 0, .slice none 0 0], _, by kernel_rfl, rfl, rfl, rfl, rfl, fun k hk => match k, hk with | 0, _ => Za3 (by decide) | 1, _ => Za3 (by decide), Tryz.underlying41, ⟨_, rfl, rfl⟩⟩
theorem ty45 : ∃ inf z d, ZaT Tryz.prog 45 ⟨1, .sl 2, [.nils 1]⟩ inf z d :=
 ⟨Tryz.t45, .slice none 0 0, _, by kernel_rfl, rfl, rfl, rfl, rfl, fun k hk => match k, hk with | 0, _ => Za3 (by decide), Tryz.underlying45, ⟨rfl, Tryz.t2, by kernel_rfl, by decide⟩⟩
theorem ty66 : ∃ inf z d, ZaT Tryz.prog 66 ⟨2, .st [(0, 45), (1, 33)], [.nils 1, .nils 1]⟩ inf z d :=
 ⟨Tryz.t66, .agg #[.slice none 0 0, .slice none 0 0], _, by kernel_rfl, rfl, rfl, rfl, rfl, fun k hk => match k, hk with | 0, _ => Za3 (by decide) | 1, _ => Za3 (by decide), Tryz.underlying66, ⟨_, rfl, rfl⟩⟩
theorem ty80 : ∃ inf z d, ZaT Tryz.prog 80 ⟨2, .st [(0, 45), (1, 45)], [.nils 1, .nils 1]⟩ inf z d :=
 ⟨Tryz.t80, .agg #[.slice none 0 0, .slice none 0 0], _, by kernel_rfl, rfl, rfl, rfl, rfl, fun k hk => match k, hk with | 0, _ => Za3 (by decide) | 1, _ => Za3 (by decide), Tryz.underlying80, ⟨_, rfl, rfl⟩⟩
theorem ty87 : ∃ inf z d, ZaT Tryz.prog 87 ⟨3, .st [(0, 66), (2, 45)], [.nils 1, .nils 1, .nils 1]⟩ inf z d :=
 ⟨Tryz.t87, .agg #[.slice none 0 0, .slice none 0 0, .slice none 0 0], _, by kernel_rfl, rfl, rfl, rfl, rfl, fun k hk => match k, hk with | 0, _ => Za3 (by decide) | 1, _ => Za3 (by decide) | 2, _ => Za3 (by decide), Tryz.underlying87, ⟨_, rfl, rfl⟩⟩
theorem ty88 : ∃ inf z d, ZaT Tryz.prog 88 ⟨1, .sl 117, [.nils 2]⟩ inf z d :=
 ⟨Tryz.t88, .slice none 0 0, _, by kernel_rfl, rfl, rfl, rfl, rfl, fun k hk => match k, hk with | 0, _ => Za3 (by decide), Tryz.underlying88, ⟨rfl, Tryz.t117, by kernel_rfl, by decide⟩⟩
theorem ty95 : ∃ inf z d, ZaT Tryz.prog 95 ⟨2, .st [(0, 45), (1, 45)], [.nils 1, .nils 1]⟩ inf z d :=
 ⟨Tryz.t95, .agg #[.slice none 0 0, .slice none 0 0], _, by kernel_rfl, rfl, rfl, rfl, rfl, fun k hk => match k, hk with | 0, _ => Za3 (by decide) | 1, _ => Za3 (by decide), Tryz.underlying95, ⟨_, rfl, rfl⟩⟩
theorem ZyS : ∃ inf z d, ZaT Tryz.prog 117 ⟨2, .st [(0, 2), (1, 45)], [.g (.int .i64 0), .nils 1]⟩ inf z d :=
 ⟨Tryz.t117, .agg #[.int .i64 0, .slice none 0 0], _, by kernel_rfl, rfl, rfl, rfl, rfl, fun k hk => match k, hk with | 0, _ => Zfd _ | 1, _ => Za3 (by decide), Tryz.underlying117, ⟨_, rfl, rfl⟩⟩
theorem Zzk : ∃ inf z d, ZaT Tryz.prog 123 ⟨5, .st [(0, 45), (1, 45), (2, 33), (3, 33), (4, 45)], [.nils 1, .nils 1, .nils 1, .nils 1, .nils 1]⟩ inf z d :=
 ⟨Tryz.t123, .agg #[.slice none 0 0, .slice none 0 0, .slice none 0 0, .slice none 0 0, .slice none 0 0], _, by kernel_rfl, rfl, rfl, rfl, rfl, fun k hk => match k, hk with | 0, _ => Za3 (by decide) | 1, _ => Za3 (by decide) | 2, _ => Za3 (by decide) | 3, _ => Za3 (by decide) | 4, _ => Za3 (by decide), Tryz.underlying123, ⟨_, rfl, rfl⟩⟩
theorem ZyU : ∃ inf z d, ZaT Tryz.prog 125 ⟨1, .sl 4, [.nils 1]⟩ inf z d :=
 ⟨Tryz.t125, .slice none 0 0, _, by kernel_rfl, rfl, rfl, rfl, rfl, fun k hk => match k, hk with | 0, _ => Za3 (by decide), Tryz.underlying125, ⟨rfl, Tryz.t4, by kernel_rfl, by decide⟩⟩
theorem Zyq : ∃ inf z d, ZaT Tryz.prog 131 ⟨1, .base, [.undef]⟩ inf z d :=
 ⟨Tryz.t131, .nilFunc, _, by kernel_rfl, rfl, rfl, rfl, rfl, fun k hk => match k, hk with | 0, _ => ZiL rfl, Tryz.underlying131, rfl⟩
theorem Zyz : ∃ inf z d, ZaT Tryz.prog 136 ⟨1, .base, [.undef]⟩ inf z d :=
 ⟨Tryz.t136, .nilFunc, _, by kernel_rfl, rfl, rfl, rfl, rfl, fun k hk => match k, hk with | 0, _ => ZiL rfl, Tryz.underlying136, rfl⟩
theorem ZyH : ∃ inf z d, ZaT Tryz.prog 137 ⟨1, .base, [.undef]⟩ inf z d :=
 ⟨Tryz.t137, .nilFunc, _, by kernel_rfl, rfl, rfl, rfl, rfl, fun k hk => match k, hk with | 0, _ => ZiL rfl, Tryz.underlying137, rfl⟩
theorem Zyx : ∃ inf z d, ZaT Tryz.prog 165 ⟨1, .base, [.g .nilp]⟩ inf z d :=
 ⟨Tryz.t165, .pointer none, _, by kernel_rfl, rfl, rfl, rfl, rfl, fun k hk => match k, hk with | 0, _ => Zvk, Tryz.underlying165, rfl⟩
theorem Zyo : ∃ inf z d, ZaT Tryz.prog 168 ⟨4, .st [(0, 87), (3, 33)], [.nils 1, .nils 1, .nils 1, .nils 1]⟩ inf z d :=
 ⟨Tryz.t168, .agg #[.slice none 0 0, .slice none 0 0, .slice none 0 0, .slice none 0 0], _, by kernel_rfl, rfl, rfl, rfl, rfl, fun k hk => match k, hk with | 0, _ => Za3 (by decide) | 1, _ => Za3 (by decide) | 2, _ => Za3 (by decide) | 3, _ => Za3 (by decide), Tryz.underlying168, ⟨_, rfl, rfl⟩⟩
theorem Zzq : ∃ inf z d, ZaT Tryz.prog 180 ⟨1, .base, [.undef]⟩ inf z d :=
 ⟨Tryz.t180, .nilFunc, _, by kernel_rfl, rfl, rfl, rfl, rfl, fun k hk => match k, hk with | 0, _ => ZiL rfl, Tryz.underlying180, rfl⟩
theorem ZyX : ∃ inf z d, ZaT Tryz.prog 187 ⟨1, .sl 3, [.nils 1]⟩ inf z d :=
 ⟨Tryz.t187, .slice none 0 0, _, by kernel_rfl, rfl, rfl, rfl, rfl, fun k hk => match k, hk with | 0, _ => Za3 (by decide), Tryz.underlying187, ⟨rfl, Tryz.t3, by kernel_rfl, by decide⟩⟩

def Zoy (t : TypeId) (x : Option TI) : Prop := ∀ i, x = some i → ∃ inf z d, ZaT Tryz.prog t i inf z d
theorem ZaJ {t k : TypeId} {x : TI} (h : ∃ inf z d, ZaT Tryz.prog k x inf z d) : Zoy t (bif Nat.beq t k then some x else none) := fun i hi => by
 cases e : Nat.beq t k
 ·rw [e] at hi; cases hi
 ·rw [e] at hi; cases hi
  have := Nat.eq_of_beq_eq_true e
  subst this; exact h
theorem ZaD {t : TypeId} {c : Bool} {a b : Option TI} (h1 : Zoy t a) (h2 : Zoy t b) : Zoy t (bif c then a else b) := by cases c; exact h2; exact h1
def tab (t : TypeId) : Option TI := (bif Nat.blt t 41 then (bif Nat.blt t 9 then (bif Nat.blt t 5 then (bif Nat.blt t 3 then (bif Nat.blt t 2 then (bif Nat.beq t 1 then some ⟨1, .base, [.undef]⟩ else none) else (bif Nat.beq t 2 then some ⟨1, .int .i64, [.g (.int .i64 0)]⟩ else none)) else (bif Nat.blt t 4 then (bif Nat.beq t 3 then some ⟨1, .int .i64, [.g (.int .i64 0)]⟩ else none) else (bif Nat.beq t 4 then some ⟨1, .bool, [.g (.bool false)]⟩ else none))) else (bif Nat.blt t 7 then (bif Nat.blt t 6 then (bif Nat.beq t 5 then some ⟨1, .int .u8, [.g (.int .u8 0)]⟩ else none) else (bif Nat.beq t 6 then some ⟨1, .int .u8, [.g (.int .u8 0)]⟩ else none)) else (bif Nat.blt t 8 then (bif Nat.beq t 7 then some ⟨4, .st [(0, 2), (1, 3), (2, 4), (3, 6)], [.g (.int .i64 0), .g (.int .i64 0), .g (.bool false), .g (.int .u8 0)]⟩ else none) else (bif Nat.beq t 8 then some ⟨4, .st [(0, 2), (1, 3), (2, 4), (3, 6)], [.g (.int .i64 0), .g (.int .i64 0), .g (.bool false), .g (.int .u8 0)]⟩ else none)))) else (bif Nat.blt t 33 then (bif Nat.blt t 23 then (bif Nat.blt t 10 then (bif Nat.beq t 9 then some ⟨1, .str, [.g (.str ⟨#[]⟩)]⟩ else none) else (bif Nat.beq t 10 then some ⟨1, .str, [.g (.str ⟨#[]⟩)]⟩ else none)) else (bif Nat.blt t 27 then (bif Nat.beq t 23 then some ⟨2, .st [(0, 2), (1, 2)], [.g (.int .i64 0), .g (.int .i64 0)]⟩ else none) else (bif Nat.beq t 27 then some ⟨2, .st [(0, 2), (1, 2)], [.g (.int .i64 0), .g (.int .i64 0)]⟩ else none))) else (bif Nat.blt t 36 then (bif Nat.blt t 34 then (bif Nat.beq t 33 then some ⟨1, .sl 45, [.nils 1]⟩ else none) else (bif Nat.beq t 34 then some ⟨1, .sl 80, [.nils 2]⟩ else none)) else (bif Nat.blt t 39 then (bif Nat.beq t 36 then some ⟨2, .st [(0, 33), (1, 34)], [.nils 1, .nils 2]⟩ else none) else (bif Nat.beq t 39 then some ⟨1, .sl 95, [.nils 2]⟩ else none))))) else (bif Nat.blt t 123 then (bif Nat.blt t 87 then (bif Nat.blt t 66 then (bif Nat.blt t 45 then (bif Nat.beq t 41 then some ⟨2, .st [(0, 33), (1, 39)], [.nils 1, .nils 2]⟩ else none) else (bif Nat.beq t 45 then some ⟨1, .sl 2, [.nils 1]⟩ else none)) else (bif Nat.blt t 80 then (bif Nat.beq t 66 then some ⟨2, .st [(0, 45), (1, 33)], [.nils 1, .nils 1]⟩ else none) else (bif Nat.beq t 80 then some ⟨2, .st [(0, 45), (1, 45)], [.nils 1, .nils 1]⟩ else none))) else (bif Nat.blt t 95 then (bif Nat.blt t 88 then (bif Nat.beq t 87 then some ⟨3, .st [(0, 66), (2, 45)], [.nils 1, .nils 1, .nils 1]⟩ else none) else (bif Nat.beq t 88 then some ⟨1, .sl 117, [.nils 2]⟩ else none)) else (bif Nat.blt t 117 then (bif Nat.beq t 95 then some ⟨2, .st [(0, 45), (1, 45)], [.nils 1, .nils 1]⟩ else none) else (bif Nat.beq t 117 then some ⟨2, .st [(0, 2), (1, 45)], [.g (.int .i64 0), .nils 1]⟩ else none)))) else (bif Nat.blt t 137 then (bif Nat.blt t 131 then (bif Nat.blt t 125 then (bif Nat.beq t 123 then some ⟨5, .st [(0, 45), (1, 45), (2, 33), (3, 33), (4, 45)], [.nils 1, .nils 1, .nils 1, .nils 1, .nils 1]⟩ else none) else (bif Nat.beq t 125 then some ⟨1, .sl 4, [.nils 1]⟩ else none)) else (bif Nat.blt t 136 then (bif Nat.beq t 131 then some ⟨1, .base, [.undef]⟩ else none) else (bif Nat.beq t 136 then some ⟨1, .base, [.undef]⟩ else none))) else (bif Nat.blt t 168 then (bif Nat.blt t 165 then (bif Nat.beq t 137 then some ⟨1, .base, [.undef]⟩ else none) else (bif Nat.beq t 165 then some ⟨1, .base, [.g .nilp]⟩ else none)) else (bif Nat.blt t 180 then (bif Nat.beq t 168 then some ⟨4, .st [(0, 87), (3, 33)], [.nils 1, .nils 1, .nils 1, .nils 1]⟩ else none) else (bif Nat.blt t 187 then (bif Nat.beq t 180 then some ⟨1, .base, [.undef]⟩ else none) else (bif Nat.beq t 187 then some ⟨1, .sl 3, [.nils 1]⟩ else none)))))))

theorem Zab : TabOk Tryz.prog tab := fun t i => by
 show tab t = some i → _
 have : Zoy t (tab t) := by
  unfold tab
  exact (ZaD (ZaD (ZaD (ZaD (ZaD (ZaJ ty1) (ZaJ ty2)) (ZaD (ZaJ ty3) (ZaJ ty4))) (ZaD (ZaD (ZaJ ty5) (ZaJ ty6)) (ZaD (ZaJ ty7) (ZaJ ty8)))) (ZaD (ZaD (ZaD (ZaJ ty9) (ZaJ ty10)) (ZaD (ZaJ ty23) (ZaJ ty27))) (ZaD (ZaD (ZaJ ty33) (ZaJ ty34)) (ZaD (ZaJ ty36) (ZaJ ty39))))) (ZaD (ZaD (ZaD (ZaD (ZaJ ty41) (ZaJ ty45)) (ZaD (ZaJ ty66) (ZaJ ty80))) (ZaD (ZaD (ZaJ ty87) (ZaJ ty88)) (ZaD (ZaJ ty95) (ZaJ ZyS)))) (ZaD (ZaD (ZaD (ZaJ Zzk) (ZaJ ZyU)) (ZaD (ZaJ Zyq) (ZaJ Zyz))) (ZaD (ZaD (ZaJ ZyH) (ZaJ Zyx)) (ZaD (ZaJ Zyo) (ZaD (ZaJ Zzq) (ZaJ ZyX)))))))
 exact this i

end Go.Proofs.YtjjidamlmebaaaaGreat

