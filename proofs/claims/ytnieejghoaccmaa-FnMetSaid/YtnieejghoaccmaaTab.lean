/- The table of the program's types, and that it is right. No conditions. -/
import Derived.Test.YtnieejghoaccmaaKC
namespace Go.Proofs.Ytnieejghoaccmaa
open Go.RowKit
open Shp

theorem ty1 : ∃ inf z d, Zbj Try.prog 1 ⟨1, .base, [.undef]⟩ inf z d :=
 ⟨Try.t1, .nilFunc, _, by kernel_rfl, rfl, rfl, rfl, rfl, fun k hk => match k, hk with | 0, _ => Zoh rfl, Try.underlying1, rfl⟩
theorem ty2 : ∃ inf z d, Zbj Try.prog 2 ⟨1, .int .i64, [.g (.int .i64 0)]⟩ inf z d :=
 ⟨Try.t2, .int .i64 0, _, by kernel_rfl, rfl, rfl, rfl, rfl, fun k hk => match k, hk with | 0, _ => ZeI _, Try.underlying2, rfl⟩
theorem ty3 : ∃ inf z d, Zbj Try.prog 3 ⟨1, .int .i64, [.g (.int .i64 0)]⟩ inf z d :=
 ⟨Try.t3, .int .i64 0, _, by kernel_rfl, rfl, rfl, rfl, rfl, fun k hk => match k, hk with | 0, _ => ZeI _, Try.underlying3, rfl⟩
theorem ty4 : ∃ inf z d, Zbj Try.prog 4 ⟨1, .bool, [.g (.bool false)]⟩ inf z d :=
 ⟨Try.t4, .bool false, _, by kernel_rfl, rfl, rfl, rfl, rfl, fun k hk => match k, hk with | 0, _ => ZnP, Try.underlying4, rfl⟩
theorem ty5 : ∃ inf z d, Zbj Try.prog 5 ⟨1, .int .u8, [.g (.int .u8 0)]⟩ inf z d :=
 ⟨Try.t5, .int .u8 0, _, by kernel_rfl, rfl, rfl, rfl, rfl, fun k hk => match k, hk with | 0, _ => ZeI _, Try.underlying5, rfl⟩
theorem ty6 : ∃ inf z d, Zbj Try.prog 6 ⟨1, .int .u8, [.g (.int .u8 0)]⟩ inf z d :=
 ⟨Try.t6, .int .u8 0, _, by kernel_rfl, rfl, rfl, rfl, rfl, fun k hk => match k, hk with | 0, _ => ZeI _, Try.underlying6, rfl⟩
theorem ty7 : ∃ inf z d, Zbj Try.prog 7 ⟨4, .st [(0, 2), (1, 3), (2, 4), (3, 6)], [.g (.int .i64 0), .g (.int .i64 0), .g (.bool false), .g (.int .u8 0)]⟩ inf z d :=
 ⟨Try.t7, .agg #[.int .i64 0, .int .i64 0, .bool false, .int .u8 0], _, by kernel_rfl, rfl, rfl, rfl, rfl, fun k hk => match k, hk with | 0, _ => ZeI _ | 1, _ => ZeI _ | 2, _ => ZnP | 3, _ => ZeI _, Try.underlying7, ⟨_, rfl, rfl⟩⟩
theorem ty8 : ∃ inf z d, Zbj Try.prog 8 ⟨4, .st [(0, 2), (1, 3), (2, 4), (3, 6)], [.g (.int .i64 0), .g (.int .i64 0), .g (.bool false), .g (.int .u8 0)]⟩ inf z d :=
 ⟨Try.t8, .agg #[.int .i64 0, .int .i64 0, .bool false, .int .u8 0], _, by kernel_rfl, rfl, rfl, rfl, rfl, fun k hk => match k, hk with | 0, _ => ZeI _ | 1, _ => ZeI _ | 2, _ => ZnP | 3, _ => ZeI _, Try.underlying8, ⟨_, rfl, rfl⟩⟩
theorem ty9 : ∃ inf z d, Zbj Try.prog 9 ⟨1, .str, [.g (.str ⟨#[]⟩)]⟩ inf z d :=
 ⟨Try.t9, .string ⟨#[]⟩, _, by kernel_rfl, rfl, rfl, rfl, rfl, fun k hk => match k, hk with | 0, _ => Zvg, Try.underlying9, rfl⟩
theorem ty10 : ∃ inf z d, Zbj Try.prog 10 ⟨1, .str, [.g (.str ⟨#[]⟩)]⟩ inf z d :=
 ⟨Try.t10, .string ⟨#[]⟩, _, by kernel_rfl, rfl, rfl, rfl, rfl, fun k hk => match k, hk with | 0, _ => Zvg, Try.underlying10, rfl⟩
theorem ty22 : ∃ inf z d, Zbj Try.prog 22 ⟨1, .sl 5, [.nils 1]⟩ inf z d :=
 ⟨Try.t22, .slice none 0 0, _, by kernel_rfl, rfl, rfl, rfl, rfl, fun k hk => match k, hk with | 0, _ => ZcR (by decide), Try.underlying22, ⟨rfl, Try.t5, by kernel_rfl, by decide⟩⟩
theorem ty25 : ∃ inf z d, Zbj Try.prog 25 ⟨2, .st [(0, 2), (1, 2)], [.g (.int .i64 0), .g (.int .i64 0)]⟩ inf z d :=
 ⟨Try.t25, .agg #[.int .i64 0, .int .i64 0], _, by kernel_rfl, rfl, rfl, rfl, rfl, fun k hk => match k, hk with | 0, _ => ZeI _ | 1, _ => ZeI _, Try.underlying25, ⟨_, rfl, rfl⟩⟩
theorem ty26 : ∃ inf z d, Zbj Try.prog 26 ⟨1, .sl 30, [.nils 1]⟩ inf z d :=
 ⟨Try.t26, .slice none 0 0, _, by kernel_rfl, rfl, rfl, rfl, rfl, fun k hk => match k, hk with | 0, _ => ZcR (by decide), Try.underlying26, ⟨rfl, Try.t30, by kernel_rfl, by decide⟩⟩
theorem ty27 : ∃ inf z d, Zbj Try.prog 27 ⟨1, .sl 63, [.nils 2]⟩ inf z d :=
 ⟨Try.t27, .slice none 0 0, _, by kernel_rfl, rfl, rfl, rfl, rfl, fun k hk => match k, hk with | 0, _ => ZcR (by decide), Try.underlying27, ⟨rfl, Try.t63, by kernel_rfl, by decide⟩⟩
theorem ty29 : ∃ inf z d, Zbj Try.prog 29 ⟨2, .st [(0, 26), (1, 27)], [.nils 1, .nils 2]⟩ inf z d :=
 ⟨Try.t29, .agg #[.slice none 0 0, .slice none 0 0], _, by kernel_rfl, rfl, rfl, rfl, rfl, fun k hk => match k, hk with | 0, _ => ZcR (by decide) | 1, _ => ZcR (by decide), Try.underlying29, ⟨_, rfl, rfl⟩⟩
theorem ty30 : ∃ inf z d, Zbj Try.prog 30 ⟨1, .sl 2, [.nils 1]⟩ inf z d :=
 ⟨Try.t30, .slice none 0 0, _, by kernel_rfl, rfl, rfl, rfl, rfl, fun k hk => match k, hk with | 0, _ => ZcR (by decide), Try.underlying30, ⟨rfl, Try.t2, by kernel_rfl, by decide⟩⟩
theorem ty32 : ∃ inf z d, Zbj Try.prog 32 ⟨2, .st [(0, 30), (1, 30)], [.nils 1, .nils 1]⟩ inf z d :=
 ⟨Try.t32, .agg #[.slice none 0 0, .slice none 0 0], _, by kernel_rfl, rfl, rfl, rfl, rfl, fun k hk => match k, hk with | 0, _ => ZcR (by decide) | 1, _ => ZcR (by decide), Try.underlying32, ⟨_, rfl, rfl⟩⟩
theorem ty40 : ∃ inf z d, Zbj Try.prog 40 ⟨1, .base, [.g .nilp]⟩ inf z d :=
 ⟨Try.t40, .pointer none, _, by kernel_rfl, rfl, rfl, rfl, rfl, fun k hk => match k, hk with | 0, _ => Zti, Try.underlying40, rfl⟩
theorem ty58 : ∃ inf z d, Zbj Try.prog 58 ⟨3, .st [(0, 22), (1, 3), (2, 2)], [.nils 1, .g (.int .i64 0), .g (.int .i64 0)]⟩ inf z d :=
 ⟨Try.t58, .agg #[.slice none 0 0, .int .i64 0, .int .i64 0], _, by kernel_rfl, rfl, rfl, rfl, rfl, fun k hk => match k, hk with | 0, _ => ZcR (by decide) | 1, _ => ZeI _ | 2, _ => ZeI _, Try.underlying58, ⟨_, rfl, rfl⟩⟩
theorem ty63 : ∃ inf z d, Zbj Try.prog 63 ⟨2, .st [(0, 30), (1, 30)], [.nils 1, .nils 1]⟩ inf z d :=
 ⟨Try.t63, .agg #[.slice none 0 0, .slice none 0 0], _, by kernel_rfl, rfl, rfl, rfl, rfl, fun k hk => match k, hk with | 0, _ => ZcR (by decide) | 1, _ => ZcR (by decide), Try.underlying63, ⟨_, rfl, rfl⟩⟩
theorem ty73 : ∃ inf z d, Zbj Try.prog 73 ⟨1, .base, [.undef]⟩ inf z d :=
 ⟨Try.t73, .nilFunc, _, by kernel_rfl, rfl, rfl, rfl, rfl, fun k hk => match k, hk with | 0, _ => Zoh rfl, Try.underlying73, rfl⟩
theorem ty76 : ∃ inf z d, Zbj Try.prog 76 ⟨1, .sl 87, [.nils 3]⟩ inf z d :=
 ⟨Try.t76, .slice none 0 0, _, by kernel_rfl, rfl, rfl, rfl, rfl, fun k hk => match k, hk with | 0, _ => ZcR (by decide), Try.underlying76, ⟨rfl, Try.t87, by kernel_rfl, by decide⟩⟩
theorem ty81 : ∃ inf z d, Zbj Try.prog 81 ⟨1, .int .u64, [.g (.int .u64 0)]⟩ inf z d :=
 ⟨Try.t81, .int .u64 0, _, by kernel_rfl, rfl, rfl, rfl, rfl, fun k hk => match k, hk with | 0, _ => ZeI _, Try.underlying81, rfl⟩
theorem ty87 : ∃ inf z d, Zbj Try.prog 87 ⟨3, .st [(0, 2), (1, 30), (2, 30)], [.g (.int .i64 0), .nils 1, .nils 1]⟩ inf z d :=
 ⟨Try.t87, .agg #[.int .i64 0, .slice none 0 0, .slice none 0 0], _, by kernel_rfl, rfl, rfl, rfl, rfl, fun k hk => match k, hk with | 0, _ => ZeI _ | 1, _ => ZcR (by decide) | 2, _ => ZcR (by decide), Try.underlying87, ⟨_, rfl, rfl⟩⟩

def Znt (t : TypeId) (x : Option TI) : Prop := ∀ i, x = some i → ∃ inf z d, Zbj Try.prog t i inf z d
theorem Za9 {t k : TypeId} {x : TI} (h : ∃ inf z d, Zbj Try.prog k x inf z d) : Znt t (bif Nat.beq t k then some x else none) := fun i hi => by
 cases e : Nat.beq t k
 ·rw [e] at hi; cases hi
 ·rw [e] at hi; cases hi
  have := Nat.eq_of_beq_eq_true e
  subst this; exact h
theorem Za3 {t : TypeId} {c : Bool} {a b : Option TI} (h1 : Znt t a) (h2 : Znt t b) : Znt t (bif c then a else b) := by cases c; exact h2; exact h1
def tab (t : TypeId) : Option TI := (bif Nat.blt t 26 then (bif Nat.blt t 7 then (bif Nat.blt t 4 then (bif Nat.blt t 2 then (bif Nat.beq t 1 then some ⟨1, .base, [.undef]⟩ else none) else (bif Nat.blt t 3 then (bif Nat.beq t 2 then some ⟨1, .int .i64, [.g (.int .i64 0)]⟩ else none) else (bif Nat.beq t 3 then some ⟨1, .int .i64, [.g (.int .i64 0)]⟩ else none))) else (bif Nat.blt t 5 then (bif Nat.beq t 4 then some ⟨1, .bool, [.g (.bool false)]⟩ else none) else (bif Nat.blt t 6 then (bif Nat.beq t 5 then some ⟨1, .int .u8, [.g (.int .u8 0)]⟩ else none) else (bif Nat.beq t 6 then some ⟨1, .int .u8, [.g (.int .u8 0)]⟩ else none)))) else (bif Nat.blt t 10 then (bif Nat.blt t 8 then (bif Nat.beq t 7 then some ⟨4, .st [(0, 2), (1, 3), (2, 4), (3, 6)], [.g (.int .i64 0), .g (.int .i64 0), .g (.bool false), .g (.int .u8 0)]⟩ else none) else (bif Nat.blt t 9 then (bif Nat.beq t 8 then some ⟨4, .st [(0, 2), (1, 3), (2, 4), (3, 6)], [.g (.int .i64 0), .g (.int .i64 0), .g (.bool false), .g (.int .u8 0)]⟩ else none) else (bif Nat.beq t 9 then some ⟨1, .str, [.g (.str ⟨#[]⟩)]⟩ else none))) else (bif Nat.blt t 22 then (bif Nat.beq t 10 then some ⟨1, .str, [.g (.str ⟨#[]⟩)]⟩ else none) else (bif Nat.blt t 25 then (bif Nat.beq t 22 then some ⟨1, .sl 5, [.nils 1]⟩ else none) else (bif Nat.beq t 25 then some ⟨2, .st [(0, 2), (1, 2)], [.g (.int .i64 0), .g (.int .i64 0)]⟩ else none))))) else (bif Nat.blt t 58 then (bif Nat.blt t 30 then (bif Nat.blt t 27 then (bif Nat.beq t 26 then some ⟨1, .sl 30, [.nils 1]⟩ else none) else (bif Nat.blt t 29 then (bif Nat.beq t 27 then some ⟨1, .sl 63, [.nils 2]⟩ else none) else (bif Nat.beq t 29 then some ⟨2, .st [(0, 26), (1, 27)], [.nils 1, .nils 2]⟩ else none))) else (bif Nat.blt t 32 then (bif Nat.beq t 30 then some ⟨1, .sl 2, [.nils 1]⟩ else none) else (bif Nat.blt t 40 then (bif Nat.beq t 32 then some ⟨2, .st [(0, 30), (1, 30)], [.nils 1, .nils 1]⟩ else none) else (bif Nat.beq t 40 then some ⟨1, .base, [.g .nilp]⟩ else none)))) else (bif Nat.blt t 76 then (bif Nat.blt t 63 then (bif Nat.beq t 58 then some ⟨3, .st [(0, 22), (1, 3), (2, 2)], [.nils 1, .g (.int .i64 0), .g (.int .i64 0)]⟩ else none) else (bif Nat.blt t 73 then (bif Nat.beq t 63 then some ⟨2, .st [(0, 30), (1, 30)], [.nils 1, .nils 1]⟩ else none) else (bif Nat.beq t 73 then some ⟨1, .base, [.undef]⟩ else none))) else (bif Nat.blt t 81 then (bif Nat.beq t 76 then some ⟨1, .sl 87, [.nils 3]⟩ else none) else (bif Nat.blt t 87 then (bif Nat.beq t 81 then some ⟨1, .int .u64, [.g (.int .u64 0)]⟩ else none) else (bif Nat.beq t 87 then some ⟨3, .st [(0, 2), (1, 30), (2, 30)], [.g (.int .i64 0), .nils 1, .nils 1]⟩ else none))))))

theorem Zac : TabOk Try.prog tab := fun t i => by
 show tab t = some i → _
 have : Znt t (tab t) := by
  unfold tab
  exact (Za3 (Za3 (Za3 (Za3 (Za9 ty1) (Za3 (Za9 ty2) (Za9 ty3))) (Za3 (Za9 ty4) (Za3 (Za9 ty5) (Za9 ty6)))) (Za3 (Za3 (Za9 ty7) (Za3 (Za9 ty8) (Za9 ty9))) (Za3 (Za9 ty10) (Za3 (Za9 ty22) (Za9 ty25))))) (Za3 (Za3 (Za3 (Za9 ty26) (Za3 (Za9 ty27) (Za9 ty29))) (Za3 (Za9 ty30) (Za3 (Za9 ty32) (Za9 ty40)))) (Za3 (Za3 (Za9 ty58) (Za3 (Za9 ty63) (Za9 ty73))) (Za3 (Za9 ty76) (Za3 (Za9 ty81) (Za9 ty87))))))
 exact this i

end Go.Proofs.Ytnieejghoaccmaa

