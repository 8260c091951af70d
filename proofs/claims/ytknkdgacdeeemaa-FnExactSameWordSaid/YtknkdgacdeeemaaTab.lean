/- The table of the program's types, and that it is right. No conditions. -/
import Derived.Test.YtknkdgacdeeemaaA26
namespace Go.Proofs.Ytknkdgacdeeemaa
open Go.RowKit
open Shp

theorem ty1 : ∃ inf z d, TypeOk Try.prog 1 ⟨1, .base, [.undef]⟩ inf z d :=
  ⟨Try.t1, .nilFunc, _, by kernel_rfl, rfl, rfl, rfl, rfl, fun k hk => match k, hk with | 0, _ => z_undef rfl, Try.underlying1, rfl⟩
theorem ty2 : ∃ inf z d, TypeOk Try.prog 2 ⟨1, .int .i64, [.g (.int .i64 0)]⟩ inf z d :=
  ⟨Try.t2, .int .i64 0, _, by kernel_rfl, rfl, rfl, rfl, rfl, fun k hk => match k, hk with | 0, _ => z_int _, Try.underlying2, rfl⟩
theorem ty3 : ∃ inf z d, TypeOk Try.prog 3 ⟨1, .int .i64, [.g (.int .i64 0)]⟩ inf z d :=
  ⟨Try.t3, .int .i64 0, _, by kernel_rfl, rfl, rfl, rfl, rfl, fun k hk => match k, hk with | 0, _ => z_int _, Try.underlying3, rfl⟩
theorem ty4 : ∃ inf z d, TypeOk Try.prog 4 ⟨1, .bool, [.g (.bool false)]⟩ inf z d :=
  ⟨Try.t4, .bool false, _, by kernel_rfl, rfl, rfl, rfl, rfl, fun k hk => match k, hk with | 0, _ => z_bool, Try.underlying4, rfl⟩
theorem ty5 : ∃ inf z d, TypeOk Try.prog 5 ⟨1, .int .u8, [.g (.int .u8 0)]⟩ inf z d :=
  ⟨Try.t5, .int .u8 0, _, by kernel_rfl, rfl, rfl, rfl, rfl, fun k hk => match k, hk with | 0, _ => z_int _, Try.underlying5, rfl⟩
theorem ty6 : ∃ inf z d, TypeOk Try.prog 6 ⟨1, .int .u8, [.g (.int .u8 0)]⟩ inf z d :=
  ⟨Try.t6, .int .u8 0, _, by kernel_rfl, rfl, rfl, rfl, rfl, fun k hk => match k, hk with | 0, _ => z_int _, Try.underlying6, rfl⟩
theorem ty7 : ∃ inf z d, TypeOk Try.prog 7 ⟨4, .st [(0, 2), (1, 3), (2, 4), (3, 6)], [.g (.int .i64 0), .g (.int .i64 0), .g (.bool false), .g (.int .u8 0)]⟩ inf z d :=
  ⟨Try.t7, .agg #[.int .i64 0, .int .i64 0, .bool false, .int .u8 0], _, by kernel_rfl, rfl, rfl, rfl, rfl, fun k hk => match k, hk with | 0, _ => z_int _ | 1, _ => z_int _ | 2, _ => z_bool | 3, _ => z_int _, Try.underlying7, ⟨_, rfl, rfl⟩⟩
theorem ty8 : ∃ inf z d, TypeOk Try.prog 8 ⟨4, .st [(0, 2), (1, 3), (2, 4), (3, 6)], [.g (.int .i64 0), .g (.int .i64 0), .g (.bool false), .g (.int .u8 0)]⟩ inf z d :=
  ⟨Try.t8, .agg #[.int .i64 0, .int .i64 0, .bool false, .int .u8 0], _, by kernel_rfl, rfl, rfl, rfl, rfl, fun k hk => match k, hk with | 0, _ => z_int _ | 1, _ => z_int _ | 2, _ => z_bool | 3, _ => z_int _, Try.underlying8, ⟨_, rfl, rfl⟩⟩
theorem ty9 : ∃ inf z d, TypeOk Try.prog 9 ⟨1, .str, [.g (.str ⟨#[]⟩)]⟩ inf z d :=
  ⟨Try.t9, .string ⟨#[]⟩, _, by kernel_rfl, rfl, rfl, rfl, rfl, fun k hk => match k, hk with | 0, _ => z_str, Try.underlying9, rfl⟩
theorem ty10 : ∃ inf z d, TypeOk Try.prog 10 ⟨1, .str, [.g (.str ⟨#[]⟩)]⟩ inf z d :=
  ⟨Try.t10, .string ⟨#[]⟩, _, by kernel_rfl, rfl, rfl, rfl, rfl, fun k hk => match k, hk with | 0, _ => z_str, Try.underlying10, rfl⟩
theorem ty11 : ∃ inf z d, TypeOk Try.prog 11 ⟨1, .str, [.g (.str ⟨#[]⟩)]⟩ inf z d :=
  ⟨Try.t11, .string ⟨#[]⟩, _, by kernel_rfl, rfl, rfl, rfl, rfl, fun k hk => match k, hk with | 0, _ => z_str, Try.underlying11, rfl⟩
theorem ty12 : ∃ inf z d, TypeOk Try.prog 12 ⟨1, .int .u64, [.g (.int .u64 0)]⟩ inf z d :=
  ⟨Try.t12, .int .u64 0, _, by kernel_rfl, rfl, rfl, rfl, rfl, fun k hk => match k, hk with | 0, _ => z_int _, Try.underlying12, rfl⟩
theorem ty13 : ∃ inf z d, TypeOk Try.prog 13 ⟨2, .st [(0, 9), (1, 12)], [.g (.str ⟨#[]⟩), .g (.int .u64 0)]⟩ inf z d :=
  ⟨Try.t13, .agg #[.string ⟨#[]⟩, .int .u64 0], _, by kernel_rfl, rfl, rfl, rfl, rfl, fun k hk => match k, hk with | 0, _ => z_str | 1, _ => z_int _, Try.underlying13, ⟨_, rfl, rfl⟩⟩
theorem ty14 : ∃ inf z d, TypeOk Try.prog 14 ⟨2, .st [(0, 9), (1, 12)], [.g (.str ⟨#[]⟩), .g (.int .u64 0)]⟩ inf z d :=
  ⟨Try.t14, .agg #[.string ⟨#[]⟩, .int .u64 0], _, by kernel_rfl, rfl, rfl, rfl, rfl, fun k hk => match k, hk with | 0, _ => z_str | 1, _ => z_int _, Try.underlying14, ⟨_, rfl, rfl⟩⟩
theorem ty15 : ∃ inf z d, TypeOk Try.prog 15 ⟨1, .base, [.g .nilp]⟩ inf z d :=
  ⟨Try.t15, .pointer none, _, by kernel_rfl, rfl, rfl, rfl, rfl, fun k hk => match k, hk with | 0, _ => z_nilp, Try.underlying15, rfl⟩
theorem ty16 : ∃ inf z d, TypeOk Try.prog 16 ⟨1, .base, [.g .nilp]⟩ inf z d :=
  ⟨Try.t16, .pointer none, _, by kernel_rfl, rfl, rfl, rfl, rfl, fun k hk => match k, hk with | 0, _ => z_nilp, Try.underlying16, rfl⟩
theorem ty17 : ∃ inf z d, TypeOk Try.prog 17 ⟨1, .base, [.g .nilp]⟩ inf z d :=
  ⟨Try.t17, .pointer none, _, by kernel_rfl, rfl, rfl, rfl, rfl, fun k hk => match k, hk with | 0, _ => z_nilp, Try.underlying17, rfl⟩
theorem ty18 : ∃ inf z d, TypeOk Try.prog 18 ⟨1, .st [(0, 17)], [.g .nilp]⟩ inf z d :=
  ⟨Try.t18, .agg #[.pointer none], _, by kernel_rfl, rfl, rfl, rfl, rfl, fun k hk => match k, hk with | 0, _ => z_nilp, Try.underlying18, ⟨_, rfl, rfl⟩⟩
theorem ty19 : ∃ inf z d, TypeOk Try.prog 19 ⟨1, .st [(0, 17)], [.g .nilp]⟩ inf z d :=
  ⟨Try.t19, .agg #[.pointer none], _, by kernel_rfl, rfl, rfl, rfl, rfl, fun k hk => match k, hk with | 0, _ => z_nilp, Try.underlying19, ⟨_, rfl, rfl⟩⟩
theorem ty21 : ∃ inf z d, TypeOk Try.prog 21 ⟨1, .int .i32, [.g (.int .i32 0)]⟩ inf z d :=
  ⟨Try.t21, .int .i32 0, _, by kernel_rfl, rfl, rfl, rfl, rfl, fun k hk => match k, hk with | 0, _ => z_int _, Try.underlying21, rfl⟩
theorem ty22 : ∃ inf z d, TypeOk Try.prog 22 ⟨2, .st [(0, 2), (1, 2)], [.g (.int .i64 0), .g (.int .i64 0)]⟩ inf z d :=
  ⟨Try.t22, .agg #[.int .i64 0, .int .i64 0], _, by kernel_rfl, rfl, rfl, rfl, rfl, fun k hk => match k, hk with | 0, _ => z_int _ | 1, _ => z_int _, Try.underlying22, ⟨_, rfl, rfl⟩⟩
theorem ty23 : ∃ inf z d, TypeOk Try.prog 23 ⟨2, .st [(0, 2), (1, 2)], [.g (.int .i64 0), .g (.int .i64 0)]⟩ inf z d :=
  ⟨Try.t23, .agg #[.int .i64 0, .int .i64 0], _, by kernel_rfl, rfl, rfl, rfl, rfl, fun k hk => match k, hk with | 0, _ => z_int _ | 1, _ => z_int _, Try.underlying23, ⟨_, rfl, rfl⟩⟩
theorem ty24 : ∃ inf z d, TypeOk Try.prog 24 ⟨1, .base, [.undef]⟩ inf z d :=
  ⟨Try.t24, .nilFunc, _, by kernel_rfl, rfl, rfl, rfl, rfl, fun k hk => match k, hk with | 0, _ => z_undef rfl, Try.underlying24, rfl⟩
theorem ty25 : ∃ inf z d, TypeOk Try.prog 25 ⟨2, .st [(0, 2), (1, 2)], [.g (.int .i64 0), .g (.int .i64 0)]⟩ inf z d :=
  ⟨Try.t25, .agg #[.int .i64 0, .int .i64 0], _, by kernel_rfl, rfl, rfl, rfl, rfl, fun k hk => match k, hk with | 0, _ => z_int _ | 1, _ => z_int _, Try.underlying25, ⟨_, rfl, rfl⟩⟩
theorem ty26 : ∃ inf z d, TypeOk Try.prog 26 ⟨1, .base, [.undef]⟩ inf z d :=
  ⟨Try.t26, .nilFunc, _, by kernel_rfl, rfl, rfl, rfl, rfl, fun k hk => match k, hk with | 0, _ => z_undef rfl, Try.underlying26, rfl⟩
theorem ty27 : ∃ inf z d, TypeOk Try.prog 27 ⟨1, .base, [.undef]⟩ inf z d :=
  ⟨Try.t27, .nilFunc, _, by kernel_rfl, rfl, rfl, rfl, rfl, fun k hk => match k, hk with | 0, _ => z_undef rfl, Try.underlying27, rfl⟩
theorem ty28 : ∃ inf z d, TypeOk Try.prog 28 ⟨1, .base, [.undef]⟩ inf z d :=
  ⟨Try.t28, .nilFunc, _, by kernel_rfl, rfl, rfl, rfl, rfl, fun k hk => match k, hk with | 0, _ => z_undef rfl, Try.underlying28, rfl⟩
theorem ty29 : ∃ inf z d, TypeOk Try.prog 29 ⟨1, .base, [.undef]⟩ inf z d :=
  ⟨Try.t29, .nilFunc, _, by kernel_rfl, rfl, rfl, rfl, rfl, fun k hk => match k, hk with | 0, _ => z_undef rfl, Try.underlying29, rfl⟩
theorem ty30 : ∃ inf z d, TypeOk Try.prog 30 ⟨1, .base, [.undef]⟩ inf z d :=
  ⟨Try.t30, .nilFunc, _, by kernel_rfl, rfl, rfl, rfl, rfl, fun k hk => match k, hk with | 0, _ => z_undef rfl, Try.underlying30, rfl⟩
theorem ty31 : ∃ inf z d, TypeOk Try.prog 31 ⟨1, .base, [.undef]⟩ inf z d :=
  ⟨Try.t31, .nilFunc, _, by kernel_rfl, rfl, rfl, rfl, rfl, fun k hk => match k, hk with | 0, _ => z_undef rfl, Try.underlying31, rfl⟩
theorem ty32 : ∃ inf z d, TypeOk Try.prog 32 ⟨1, .sl 2, [.nils 1]⟩ inf z d :=
  ⟨Try.t32, .slice none 0 0, _, by kernel_rfl, rfl, rfl, rfl, rfl, fun k hk => match k, hk with | 0, _ => z_nils (by decide), Try.underlying32, ⟨rfl, Try.t2, by kernel_rfl, by decide⟩⟩
theorem ty33 : ∃ inf z d, TypeOk Try.prog 33 ⟨3, .st [(0, 2), (1, 32), (2, 32)], [.g (.int .i64 0), .nils 1, .nils 1]⟩ inf z d :=
  ⟨Try.t33, .agg #[.int .i64 0, .slice none 0 0, .slice none 0 0], _, by kernel_rfl, rfl, rfl, rfl, rfl, fun k hk => match k, hk with | 0, _ => z_int _ | 1, _ => z_nils (by decide) | 2, _ => z_nils (by decide), Try.underlying33, ⟨_, rfl, rfl⟩⟩
theorem ty34 : ∃ inf z d, TypeOk Try.prog 34 ⟨3, .st [(0, 2), (1, 32), (2, 32)], [.g (.int .i64 0), .nils 1, .nils 1]⟩ inf z d :=
  ⟨Try.t34, .agg #[.int .i64 0, .slice none 0 0, .slice none 0 0], _, by kernel_rfl, rfl, rfl, rfl, rfl, fun k hk => match k, hk with | 0, _ => z_int _ | 1, _ => z_nils (by decide) | 2, _ => z_nils (by decide), Try.underlying34, ⟨_, rfl, rfl⟩⟩
theorem ty35 : ∃ inf z d, TypeOk Try.prog 35 ⟨1, .base, [.undef]⟩ inf z d :=
  ⟨Try.t35, .nilFunc, _, by kernel_rfl, rfl, rfl, rfl, rfl, fun k hk => match k, hk with | 0, _ => z_undef rfl, Try.underlying35, rfl⟩
theorem ty36 : ∃ inf z d, TypeOk Try.prog 36 ⟨1, .base, [.undef]⟩ inf z d :=
  ⟨Try.t36, .nilFunc, _, by kernel_rfl, rfl, rfl, rfl, rfl, fun k hk => match k, hk with | 0, _ => z_undef rfl, Try.underlying36, rfl⟩
theorem ty37 : ∃ inf z d, TypeOk Try.prog 37 ⟨3, .st [(0, 2), (1, 32), (2, 32)], [.g (.int .i64 0), .nils 1, .nils 1]⟩ inf z d :=
  ⟨Try.t37, .agg #[.int .i64 0, .slice none 0 0, .slice none 0 0], _, by kernel_rfl, rfl, rfl, rfl, rfl, fun k hk => match k, hk with | 0, _ => z_int _ | 1, _ => z_nils (by decide) | 2, _ => z_nils (by decide), Try.underlying37, ⟨_, rfl, rfl⟩⟩
theorem ty38 : ∃ inf z d, TypeOk Try.prog 38 ⟨1, .base, [.undef]⟩ inf z d :=
  ⟨Try.t38, .nilFunc, _, by kernel_rfl, rfl, rfl, rfl, rfl, fun k hk => match k, hk with | 0, _ => z_undef rfl, Try.underlying38, rfl⟩
theorem ty39 : ∃ inf z d, TypeOk Try.prog 39 ⟨1, .base, [.undef]⟩ inf z d :=
  ⟨Try.t39, .nilFunc, _, by kernel_rfl, rfl, rfl, rfl, rfl, fun k hk => match k, hk with | 0, _ => z_undef rfl, Try.underlying39, rfl⟩
theorem ty40 : ∃ inf z d, TypeOk Try.prog 40 ⟨1, .base, [.undef]⟩ inf z d :=
  ⟨Try.t40, .nilFunc, _, by kernel_rfl, rfl, rfl, rfl, rfl, fun k hk => match k, hk with | 0, _ => z_undef rfl, Try.underlying40, rfl⟩
theorem ty41 : ∃ inf z d, TypeOk Try.prog 41 ⟨1, .sl 5, [.nils 1]⟩ inf z d :=
  ⟨Try.t41, .slice none 0 0, _, by kernel_rfl, rfl, rfl, rfl, rfl, fun k hk => match k, hk with | 0, _ => z_nils (by decide), Try.underlying41, ⟨rfl, Try.t5, by kernel_rfl, by decide⟩⟩
theorem ty42 : ∃ inf z d, TypeOk Try.prog 42 ⟨1, .base, [.undef]⟩ inf z d :=
  ⟨Try.t42, .nilFunc, _, by kernel_rfl, rfl, rfl, rfl, rfl, fun k hk => match k, hk with | 0, _ => z_undef rfl, Try.underlying42, rfl⟩
theorem ty44 : ∃ inf z d, TypeOk Try.prog 44 ⟨1, .base, [.undef]⟩ inf z d :=
  ⟨Try.t44, .nilFunc, _, by kernel_rfl, rfl, rfl, rfl, rfl, fun k hk => match k, hk with | 0, _ => z_undef rfl, Try.underlying44, rfl⟩
theorem ty45 : ∃ inf z d, TypeOk Try.prog 45 ⟨2, .st [(0, 32), (1, 32)], [.nils 1, .nils 1]⟩ inf z d :=
  ⟨Try.t45, .agg #[.slice none 0 0, .slice none 0 0], _, by kernel_rfl, rfl, rfl, rfl, rfl, fun k hk => match k, hk with | 0, _ => z_nils (by decide) | 1, _ => z_nils (by decide), Try.underlying45, ⟨_, rfl, rfl⟩⟩
theorem ty46 : ∃ inf z d, TypeOk Try.prog 46 ⟨2, .st [(0, 32), (1, 32)], [.nils 1, .nils 1]⟩ inf z d :=
  ⟨Try.t46, .agg #[.slice none 0 0, .slice none 0 0], _, by kernel_rfl, rfl, rfl, rfl, rfl, fun k hk => match k, hk with | 0, _ => z_nils (by decide) | 1, _ => z_nils (by decide), Try.underlying46, ⟨_, rfl, rfl⟩⟩
theorem ty47 : ∃ inf z d, TypeOk Try.prog 47 ⟨1, .base, [.undef]⟩ inf z d :=
  ⟨Try.t47, .nilFunc, _, by kernel_rfl, rfl, rfl, rfl, rfl, fun k hk => match k, hk with | 0, _ => z_undef rfl, Try.underlying47, rfl⟩
theorem ty48 : ∃ inf z d, TypeOk Try.prog 48 ⟨1, .base, [.undef]⟩ inf z d :=
  ⟨Try.t48, .nilFunc, _, by kernel_rfl, rfl, rfl, rfl, rfl, fun k hk => match k, hk with | 0, _ => z_undef rfl, Try.underlying48, rfl⟩
theorem ty49 : ∃ inf z d, TypeOk Try.prog 49 ⟨2, .st [(0, 32), (1, 32)], [.nils 1, .nils 1]⟩ inf z d :=
  ⟨Try.t49, .agg #[.slice none 0 0, .slice none 0 0], _, by kernel_rfl, rfl, rfl, rfl, rfl, fun k hk => match k, hk with | 0, _ => z_nils (by decide) | 1, _ => z_nils (by decide), Try.underlying49, ⟨_, rfl, rfl⟩⟩
theorem ty50 : ∃ inf z d, TypeOk Try.prog 50 ⟨1, .base, [.undef]⟩ inf z d :=
  ⟨Try.t50, .nilFunc, _, by kernel_rfl, rfl, rfl, rfl, rfl, fun k hk => match k, hk with | 0, _ => z_undef rfl, Try.underlying50, rfl⟩
theorem ty51 : ∃ inf z d, TypeOk Try.prog 51 ⟨1, .base, [.undef]⟩ inf z d :=
  ⟨Try.t51, .nilFunc, _, by kernel_rfl, rfl, rfl, rfl, rfl, fun k hk => match k, hk with | 0, _ => z_undef rfl, Try.underlying51, rfl⟩
theorem ty52 : ∃ inf z d, TypeOk Try.prog 52 ⟨1, .base, [.undef]⟩ inf z d :=
  ⟨Try.t52, .nilFunc, _, by kernel_rfl, rfl, rfl, rfl, rfl, fun k hk => match k, hk with | 0, _ => z_undef rfl, Try.underlying52, rfl⟩
theorem ty53 : ∃ inf z d, TypeOk Try.prog 53 ⟨1, .base, [.undef]⟩ inf z d :=
  ⟨Try.t53, .nilFunc, _, by kernel_rfl, rfl, rfl, rfl, rfl, fun k hk => match k, hk with | 0, _ => z_undef rfl, Try.underlying53, rfl⟩
theorem ty54 : ∃ inf z d, TypeOk Try.prog 54 ⟨1, .base, [.undef]⟩ inf z d :=
  ⟨Try.t54, .nilFunc, _, by kernel_rfl, rfl, rfl, rfl, rfl, fun k hk => match k, hk with | 0, _ => z_undef rfl, Try.underlying54, rfl⟩
theorem ty55 : ∃ inf z d, TypeOk Try.prog 55 ⟨1, .base, [.undef]⟩ inf z d :=
  ⟨Try.t55, .nilFunc, _, by kernel_rfl, rfl, rfl, rfl, rfl, fun k hk => match k, hk with | 0, _ => z_undef rfl, Try.underlying55, rfl⟩
theorem ty56 : ∃ inf z d, TypeOk Try.prog 56 ⟨1, .base, [.undef]⟩ inf z d :=
  ⟨Try.t56, .nilFunc, _, by kernel_rfl, rfl, rfl, rfl, rfl, fun k hk => match k, hk with | 0, _ => z_undef rfl, Try.underlying56, rfl⟩
theorem ty57 : ∃ inf z d, TypeOk Try.prog 57 ⟨1, .base, [.undef]⟩ inf z d :=
  ⟨Try.t57, .nilFunc, _, by kernel_rfl, rfl, rfl, rfl, rfl, fun k hk => match k, hk with | 0, _ => z_undef rfl, Try.underlying57, rfl⟩
theorem ty58 : ∃ inf z d, TypeOk Try.prog 58 ⟨1, .base, [.undef]⟩ inf z d :=
  ⟨Try.t58, .nilFunc, _, by kernel_rfl, rfl, rfl, rfl, rfl, fun k hk => match k, hk with | 0, _ => z_undef rfl, Try.underlying58, rfl⟩
theorem ty59 : ∃ inf z d, TypeOk Try.prog 59 ⟨1, .base, [.undef]⟩ inf z d :=
  ⟨Try.t59, .nilFunc, _, by kernel_rfl, rfl, rfl, rfl, rfl, fun k hk => match k, hk with | 0, _ => z_undef rfl, Try.underlying59, rfl⟩
theorem ty60 : ∃ inf z d, TypeOk Try.prog 60 ⟨1, .base, [.undef]⟩ inf z d :=
  ⟨Try.t60, .nilFunc, _, by kernel_rfl, rfl, rfl, rfl, rfl, fun k hk => match k, hk with | 0, _ => z_undef rfl, Try.underlying60, rfl⟩
theorem ty61 : ∃ inf z d, TypeOk Try.prog 61 ⟨1, .base, [.undef]⟩ inf z d :=
  ⟨Try.t61, .nilFunc, _, by kernel_rfl, rfl, rfl, rfl, rfl, fun k hk => match k, hk with | 0, _ => z_undef rfl, Try.underlying61, rfl⟩
theorem ty62 : ∃ inf z d, TypeOk Try.prog 62 ⟨1, .base, [.undef]⟩ inf z d :=
  ⟨Try.t62, .nilFunc, _, by kernel_rfl, rfl, rfl, rfl, rfl, fun k hk => match k, hk with | 0, _ => z_undef rfl, Try.underlying62, rfl⟩
theorem ty63 : ∃ inf z d, TypeOk Try.prog 63 ⟨1, .base, [.undef]⟩ inf z d :=
  ⟨Try.t63, .nilFunc, _, by kernel_rfl, rfl, rfl, rfl, rfl, fun k hk => match k, hk with | 0, _ => z_undef rfl, Try.underlying63, rfl⟩
theorem ty64 : ∃ inf z d, TypeOk Try.prog 64 ⟨1, .base, [.undef]⟩ inf z d :=
  ⟨Try.t64, .nilFunc, _, by kernel_rfl, rfl, rfl, rfl, rfl, fun k hk => match k, hk with | 0, _ => z_undef rfl, Try.underlying64, rfl⟩
theorem ty65 : ∃ inf z d, TypeOk Try.prog 65 ⟨1, .base, [.undef]⟩ inf z d :=
  ⟨Try.t65, .nilFunc, _, by kernel_rfl, rfl, rfl, rfl, rfl, fun k hk => match k, hk with | 0, _ => z_undef rfl, Try.underlying65, rfl⟩
theorem ty66 : ∃ inf z d, TypeOk Try.prog 66 ⟨1, .base, [.undef]⟩ inf z d :=
  ⟨Try.t66, .nilFunc, _, by kernel_rfl, rfl, rfl, rfl, rfl, fun k hk => match k, hk with | 0, _ => z_undef rfl, Try.underlying66, rfl⟩
theorem ty67 : ∃ inf z d, TypeOk Try.prog 67 ⟨1, .base, [.undef]⟩ inf z d :=
  ⟨Try.t67, .nilFunc, _, by kernel_rfl, rfl, rfl, rfl, rfl, fun k hk => match k, hk with | 0, _ => z_undef rfl, Try.underlying67, rfl⟩
theorem ty68 : ∃ inf z d, TypeOk Try.prog 68 ⟨1, .base, [.g .nilp]⟩ inf z d :=
  ⟨Try.t68, .pointer none, _, by kernel_rfl, rfl, rfl, rfl, rfl, fun k hk => match k, hk with | 0, _ => z_nilp, Try.underlying68, rfl⟩
theorem ty69 : ∃ inf z d, TypeOk Try.prog 69 ⟨1, .base, [.undef]⟩ inf z d :=
  ⟨Try.t69, .nilFunc, _, by kernel_rfl, rfl, rfl, rfl, rfl, fun k hk => match k, hk with | 0, _ => z_undef rfl, Try.underlying69, rfl⟩
theorem ty70 : ∃ inf z d, TypeOk Try.prog 70 ⟨1, .base, [.undef]⟩ inf z d :=
  ⟨Try.t70, .nilFunc, _, by kernel_rfl, rfl, rfl, rfl, rfl, fun k hk => match k, hk with | 0, _ => z_undef rfl, Try.underlying70, rfl⟩
theorem ty71 : ∃ inf z d, TypeOk Try.prog 71 ⟨1, .base, [.undef]⟩ inf z d :=
  ⟨Try.t71, .nilFunc, _, by kernel_rfl, rfl, rfl, rfl, rfl, fun k hk => match k, hk with | 0, _ => z_undef rfl, Try.underlying71, rfl⟩
theorem ty72 : ∃ inf z d, TypeOk Try.prog 72 ⟨1, .base, [.undef]⟩ inf z d :=
  ⟨Try.t72, .nilFunc, _, by kernel_rfl, rfl, rfl, rfl, rfl, fun k hk => match k, hk with | 0, _ => z_undef rfl, Try.underlying72, rfl⟩
theorem ty73 : ∃ inf z d, TypeOk Try.prog 73 ⟨1, .base, [.undef]⟩ inf z d :=
  ⟨Try.t73, .nilFunc, _, by kernel_rfl, rfl, rfl, rfl, rfl, fun k hk => match k, hk with | 0, _ => z_undef rfl, Try.underlying73, rfl⟩
theorem ty74 : ∃ inf z d, TypeOk Try.prog 74 ⟨1, .base, [.undef]⟩ inf z d :=
  ⟨Try.t74, .nilFunc, _, by kernel_rfl, rfl, rfl, rfl, rfl, fun k hk => match k, hk with | 0, _ => z_undef rfl, Try.underlying74, rfl⟩
theorem ty75 : ∃ inf z d, TypeOk Try.prog 75 ⟨1, .base, [.undef]⟩ inf z d :=
  ⟨Try.t75, .nilFunc, _, by kernel_rfl, rfl, rfl, rfl, rfl, fun k hk => match k, hk with | 0, _ => z_undef rfl, Try.underlying75, rfl⟩
theorem ty76 : ∃ inf z d, TypeOk Try.prog 76 ⟨1, .base, [.undef]⟩ inf z d :=
  ⟨Try.t76, .nilFunc, _, by kernel_rfl, rfl, rfl, rfl, rfl, fun k hk => match k, hk with | 0, _ => z_undef rfl, Try.underlying76, rfl⟩
theorem ty77 : ∃ inf z d, TypeOk Try.prog 77 ⟨3, .st [(0, 41), (1, 3), (2, 2)], [.nils 1, .g (.int .i64 0), .g (.int .i64 0)]⟩ inf z d :=
  ⟨Try.t77, .agg #[.slice none 0 0, .int .i64 0, .int .i64 0], _, by kernel_rfl, rfl, rfl, rfl, rfl, fun k hk => match k, hk with | 0, _ => z_nils (by decide) | 1, _ => z_int _ | 2, _ => z_int _, Try.underlying77, ⟨_, rfl, rfl⟩⟩
theorem ty78 : ∃ inf z d, TypeOk Try.prog 78 ⟨3, .st [(0, 41), (1, 3), (2, 2)], [.nils 1, .g (.int .i64 0), .g (.int .i64 0)]⟩ inf z d :=
  ⟨Try.t78, .agg #[.slice none 0 0, .int .i64 0, .int .i64 0], _, by kernel_rfl, rfl, rfl, rfl, rfl, fun k hk => match k, hk with | 0, _ => z_nils (by decide) | 1, _ => z_int _ | 2, _ => z_int _, Try.underlying78, ⟨_, rfl, rfl⟩⟩
theorem ty79 : ∃ inf z d, TypeOk Try.prog 79 ⟨1, .base, [.undef]⟩ inf z d :=
  ⟨Try.t79, .nilFunc, _, by kernel_rfl, rfl, rfl, rfl, rfl, fun k hk => match k, hk with | 0, _ => z_undef rfl, Try.underlying79, rfl⟩
theorem ty80 : ∃ inf z d, TypeOk Try.prog 80 ⟨1, .base, [.undef]⟩ inf z d :=
  ⟨Try.t80, .nilFunc, _, by kernel_rfl, rfl, rfl, rfl, rfl, fun k hk => match k, hk with | 0, _ => z_undef rfl, Try.underlying80, rfl⟩
theorem ty81 : ∃ inf z d, TypeOk Try.prog 81 ⟨1, .base, [.undef]⟩ inf z d :=
  ⟨Try.t81, .nilFunc, _, by kernel_rfl, rfl, rfl, rfl, rfl, fun k hk => match k, hk with | 0, _ => z_undef rfl, Try.underlying81, rfl⟩
theorem ty82 : ∃ inf z d, TypeOk Try.prog 82 ⟨1, .base, [.undef]⟩ inf z d :=
  ⟨Try.t82, .nilFunc, _, by kernel_rfl, rfl, rfl, rfl, rfl, fun k hk => match k, hk with | 0, _ => z_undef rfl, Try.underlying82, rfl⟩
theorem ty83 : ∃ inf z d, TypeOk Try.prog 83 ⟨1, .int .u64, [.g (.int .u64 0)]⟩ inf z d :=
  ⟨Try.t83, .int .u64 0, _, by kernel_rfl, rfl, rfl, rfl, rfl, fun k hk => match k, hk with | 0, _ => z_int _, Try.underlying83, rfl⟩
theorem ty84 : ∃ inf z d, TypeOk Try.prog 84 ⟨1, .base, [.undef]⟩ inf z d :=
  ⟨Try.t84, .nilFunc, _, by kernel_rfl, rfl, rfl, rfl, rfl, fun k hk => match k, hk with | 0, _ => z_undef rfl, Try.underlying84, rfl⟩
theorem ty85 : ∃ inf z d, TypeOk Try.prog 85 ⟨1, .base, [.undef]⟩ inf z d :=
  ⟨Try.t85, .nilFunc, _, by kernel_rfl, rfl, rfl, rfl, rfl, fun k hk => match k, hk with | 0, _ => z_undef rfl, Try.underlying85, rfl⟩
theorem ty86 : ∃ inf z d, TypeOk Try.prog 86 ⟨4, .st [(0, 17), (1, 17), (2, 17), (3, 9)], [.g .nilp, .g .nilp, .g .nilp, .g (.str ⟨#[]⟩)]⟩ inf z d :=
  ⟨Try.t86, .agg #[.pointer none, .pointer none, .pointer none, .string ⟨#[]⟩], _, by kernel_rfl, rfl, rfl, rfl, rfl, fun k hk => match k, hk with | 0, _ => z_nilp | 1, _ => z_nilp | 2, _ => z_nilp | 3, _ => z_str, Try.underlying86, ⟨_, rfl, rfl⟩⟩
theorem ty87 : ∃ inf z d, TypeOk Try.prog 87 ⟨4, .st [(0, 17), (1, 17), (2, 17), (3, 9)], [.g .nilp, .g .nilp, .g .nilp, .g (.str ⟨#[]⟩)]⟩ inf z d :=
  ⟨Try.t87, .agg #[.pointer none, .pointer none, .pointer none, .string ⟨#[]⟩], _, by kernel_rfl, rfl, rfl, rfl, rfl, fun k hk => match k, hk with | 0, _ => z_nilp | 1, _ => z_nilp | 2, _ => z_nilp | 3, _ => z_str, Try.underlying87, ⟨_, rfl, rfl⟩⟩
theorem ty91 : ∃ inf z d, TypeOk Try.prog 91 ⟨1, .base, [.undef]⟩ inf z d :=
  ⟨Try.t91, .nilFunc, _, by kernel_rfl, rfl, rfl, rfl, rfl, fun k hk => match k, hk with | 0, _ => z_undef rfl, Try.underlying91, rfl⟩
theorem ty92 : ∃ inf z d, TypeOk Try.prog 92 ⟨1, .int .u32, [.g (.int .u32 0)]⟩ inf z d :=
  ⟨Try.t92, .int .u32 0, _, by kernel_rfl, rfl, rfl, rfl, rfl, fun k hk => match k, hk with | 0, _ => z_int _, Try.underlying92, rfl⟩
theorem ty93 : ∃ inf z d, TypeOk Try.prog 93 ⟨1, .int .u8, [.g (.int .u8 0)]⟩ inf z d :=
  ⟨Try.t93, .int .u8 0, _, by kernel_rfl, rfl, rfl, rfl, rfl, fun k hk => match k, hk with | 0, _ => z_int _, Try.underlying93, rfl⟩
theorem ty94 : ∃ inf z d, TypeOk Try.prog 94 ⟨1, .int .u8, [.g (.int .u8 0)]⟩ inf z d :=
  ⟨Try.t94, .int .u8 0, _, by kernel_rfl, rfl, rfl, rfl, rfl, fun k hk => match k, hk with | 0, _ => z_int _, Try.underlying94, rfl⟩
theorem ty95 : ∃ inf z d, TypeOk Try.prog 95 ⟨1, .base, [.undef]⟩ inf z d :=
  ⟨Try.t95, .nilFunc, _, by kernel_rfl, rfl, rfl, rfl, rfl, fun k hk => match k, hk with | 0, _ => z_undef rfl, Try.underlying95, rfl⟩
theorem ty96 : ∃ inf z d, TypeOk Try.prog 96 ⟨1, .base, [.g .nilp]⟩ inf z d :=
  ⟨Try.t96, .pointer none, _, by kernel_rfl, rfl, rfl, rfl, rfl, fun k hk => match k, hk with | 0, _ => z_nilp, Try.underlying96, rfl⟩
theorem ty97 : ∃ inf z d, TypeOk Try.prog 97 ⟨1, .int .i32, [.g (.int .i32 0)]⟩ inf z d :=
  ⟨Try.t97, .int .i32 0, _, by kernel_rfl, rfl, rfl, rfl, rfl, fun k hk => match k, hk with | 0, _ => z_int _, Try.underlying97, rfl⟩
theorem ty98 : ∃ inf z d, TypeOk Try.prog 98 ⟨1, .int .i32, [.g (.int .i32 0)]⟩ inf z d :=
  ⟨Try.t98, .int .i32 0, _, by kernel_rfl, rfl, rfl, rfl, rfl, fun k hk => match k, hk with | 0, _ => z_int _, Try.underlying98, rfl⟩
theorem ty99 : ∃ inf z d, TypeOk Try.prog 99 ⟨11, .st [(0, 12), (1, 12), (2, 92), (3, 93), (4, 5), (5, 5), (6, 94), (7, 95), (8, 96), (9, 97), (10, 98)], [.g (.int .u64 0), .g (.int .u64 0), .g (.int .u32 0), .g (.int .u8 0), .g (.int .u8 0), .g (.int .u8 0), .g (.int .u8 0), .undef, .g .nilp, .g (.int .i32 0), .g (.int .i32 0)]⟩ inf z d :=
  ⟨Try.t99, .agg #[.int .u64 0, .int .u64 0, .int .u32 0, .int .u8 0, .int .u8 0, .int .u8 0, .int .u8 0, .nilFunc, .pointer none, .int .i32 0, .int .i32 0], _, by kernel_rfl, rfl, rfl, rfl, rfl, fun k hk => match k, hk with | 0, _ => z_int _ | 1, _ => z_int _ | 2, _ => z_int _ | 3, _ => z_int _ | 4, _ => z_int _ | 5, _ => z_int _ | 6, _ => z_int _ | 7, _ => z_undef rfl | 8, _ => z_nilp | 9, _ => z_int _ | 10, _ => z_int _, Try.underlying99, ⟨_, rfl, rfl⟩⟩
theorem ty100 : ∃ inf z d, TypeOk Try.prog 100 ⟨11, .st [(0, 12), (1, 12), (2, 92), (3, 93), (4, 5), (5, 5), (6, 94), (7, 95), (8, 96), (9, 97), (10, 98)], [.g (.int .u64 0), .g (.int .u64 0), .g (.int .u32 0), .g (.int .u8 0), .g (.int .u8 0), .g (.int .u8 0), .g (.int .u8 0), .undef, .g .nilp, .g (.int .i32 0), .g (.int .i32 0)]⟩ inf z d :=
  ⟨Try.t100, .agg #[.int .u64 0, .int .u64 0, .int .u32 0, .int .u8 0, .int .u8 0, .int .u8 0, .int .u8 0, .nilFunc, .pointer none, .int .i32 0, .int .i32 0], _, by kernel_rfl, rfl, rfl, rfl, rfl, fun k hk => match k, hk with | 0, _ => z_int _ | 1, _ => z_int _ | 2, _ => z_int _ | 3, _ => z_int _ | 4, _ => z_int _ | 5, _ => z_int _ | 6, _ => z_int _ | 7, _ => z_undef rfl | 8, _ => z_nilp | 9, _ => z_int _ | 10, _ => z_int _, Try.underlying100, ⟨_, rfl, rfl⟩⟩

def GoodT (t : TypeId) (x : Option TI) : Prop := ∀ i, x = some i → ∃ inf z d, TypeOk Try.prog t i inf z d
theorem tb_none {t : TypeId} : GoodT t none := fun i h => by cases h
theorem tb_leaf {t k : TypeId} {x : TI} (h : ∃ inf z d, TypeOk Try.prog k x inf z d) : GoodT t (bif Nat.beq t k then some x else none) := fun i hi => by
  cases e : Nat.beq t k
  · rw [e] at hi; cases hi
  · rw [e] at hi; cases hi
    have := Nat.eq_of_beq_eq_true e
    subst this; exact h
theorem tb_split {t : TypeId} {c : Bool} {a b : Option TI} (h1 : GoodT t a) (h2 : GoodT t b) : GoodT t (bif c then a else b) := by cases c; exact h2; exact h1
def tab (t : TypeId) : Option TI := (bif Nat.blt t 50 then (bif Nat.blt t 25 then (bif Nat.blt t 12 then (bif Nat.blt t 6 then (bif Nat.blt t 3 then (bif Nat.blt t 2 then (bif Nat.beq t 1 then some ⟨1, .base, [.undef]⟩ else none) else (bif Nat.beq t 2 then some ⟨1, .int .i64, [.g (.int .i64 0)]⟩ else none)) else (bif Nat.blt t 4 then (bif Nat.beq t 3 then some ⟨1, .int .i64, [.g (.int .i64 0)]⟩ else none) else (bif Nat.blt t 5 then (bif Nat.beq t 4 then some ⟨1, .bool, [.g (.bool false)]⟩ else none) else (bif Nat.beq t 5 then some ⟨1, .int .u8, [.g (.int .u8 0)]⟩ else none)))) else (bif Nat.blt t 9 then (bif Nat.blt t 7 then (bif Nat.beq t 6 then some ⟨1, .int .u8, [.g (.int .u8 0)]⟩ else none) else (bif Nat.blt t 8 then (bif Nat.beq t 7 then some ⟨4, .st [(0, 2), (1, 3), (2, 4), (3, 6)], [.g (.int .i64 0), .g (.int .i64 0), .g (.bool false), .g (.int .u8 0)]⟩ else none) else (bif Nat.beq t 8 then some ⟨4, .st [(0, 2), (1, 3), (2, 4), (3, 6)], [.g (.int .i64 0), .g (.int .i64 0), .g (.bool false), .g (.int .u8 0)]⟩ else none))) else (bif Nat.blt t 10 then (bif Nat.beq t 9 then some ⟨1, .str, [.g (.str ⟨#[]⟩)]⟩ else none) else (bif Nat.blt t 11 then (bif Nat.beq t 10 then some ⟨1, .str, [.g (.str ⟨#[]⟩)]⟩ else none) else (bif Nat.beq t 11 then some ⟨1, .str, [.g (.str ⟨#[]⟩)]⟩ else none))))) else (bif Nat.blt t 18 then (bif Nat.blt t 15 then (bif Nat.blt t 13 then (bif Nat.beq t 12 then some ⟨1, .int .u64, [.g (.int .u64 0)]⟩ else none) else (bif Nat.blt t 14 then (bif Nat.beq t 13 then some ⟨2, .st [(0, 9), (1, 12)], [.g (.str ⟨#[]⟩), .g (.int .u64 0)]⟩ else none) else (bif Nat.beq t 14 then some ⟨2, .st [(0, 9), (1, 12)], [.g (.str ⟨#[]⟩), .g (.int .u64 0)]⟩ else none))) else (bif Nat.blt t 16 then (bif Nat.beq t 15 then some ⟨1, .base, [.g .nilp]⟩ else none) else (bif Nat.blt t 17 then (bif Nat.beq t 16 then some ⟨1, .base, [.g .nilp]⟩ else none) else (bif Nat.beq t 17 then some ⟨1, .base, [.g .nilp]⟩ else none)))) else (bif Nat.blt t 22 then (bif Nat.blt t 19 then (bif Nat.beq t 18 then some ⟨1, .st [(0, 17)], [.g .nilp]⟩ else none) else (bif Nat.blt t 21 then (bif Nat.beq t 19 then some ⟨1, .st [(0, 17)], [.g .nilp]⟩ else none) else (bif Nat.beq t 21 then some ⟨1, .int .i32, [.g (.int .i32 0)]⟩ else none))) else (bif Nat.blt t 23 then (bif Nat.beq t 22 then some ⟨2, .st [(0, 2), (1, 2)], [.g (.int .i64 0), .g (.int .i64 0)]⟩ else none) else (bif Nat.blt t 24 then (bif Nat.beq t 23 then some ⟨2, .st [(0, 2), (1, 2)], [.g (.int .i64 0), .g (.int .i64 0)]⟩ else none) else (bif Nat.beq t 24 then some ⟨1, .base, [.undef]⟩ else none)))))) else (bif Nat.blt t 37 then (bif Nat.blt t 31 then (bif Nat.blt t 28 then (bif Nat.blt t 26 then (bif Nat.beq t 25 then some ⟨2, .st [(0, 2), (1, 2)], [.g (.int .i64 0), .g (.int .i64 0)]⟩ else none) else (bif Nat.blt t 27 then (bif Nat.beq t 26 then some ⟨1, .base, [.undef]⟩ else none) else (bif Nat.beq t 27 then some ⟨1, .base, [.undef]⟩ else none))) else (bif Nat.blt t 29 then (bif Nat.beq t 28 then some ⟨1, .base, [.undef]⟩ else none) else (bif Nat.blt t 30 then (bif Nat.beq t 29 then some ⟨1, .base, [.undef]⟩ else none) else (bif Nat.beq t 30 then some ⟨1, .base, [.undef]⟩ else none)))) else (bif Nat.blt t 34 then (bif Nat.blt t 32 then (bif Nat.beq t 31 then some ⟨1, .base, [.undef]⟩ else none) else (bif Nat.blt t 33 then (bif Nat.beq t 32 then some ⟨1, .sl 2, [.nils 1]⟩ else none) else (bif Nat.beq t 33 then some ⟨3, .st [(0, 2), (1, 32), (2, 32)], [.g (.int .i64 0), .nils 1, .nils 1]⟩ else none))) else (bif Nat.blt t 35 then (bif Nat.beq t 34 then some ⟨3, .st [(0, 2), (1, 32), (2, 32)], [.g (.int .i64 0), .nils 1, .nils 1]⟩ else none) else (bif Nat.blt t 36 then (bif Nat.beq t 35 then some ⟨1, .base, [.undef]⟩ else none) else (bif Nat.beq t 36 then some ⟨1, .base, [.undef]⟩ else none))))) else (bif Nat.blt t 44 then (bif Nat.blt t 40 then (bif Nat.blt t 38 then (bif Nat.beq t 37 then some ⟨3, .st [(0, 2), (1, 32), (2, 32)], [.g (.int .i64 0), .nils 1, .nils 1]⟩ else none) else (bif Nat.blt t 39 then (bif Nat.beq t 38 then some ⟨1, .base, [.undef]⟩ else none) else (bif Nat.beq t 39 then some ⟨1, .base, [.undef]⟩ else none))) else (bif Nat.blt t 41 then (bif Nat.beq t 40 then some ⟨1, .base, [.undef]⟩ else none) else (bif Nat.blt t 42 then (bif Nat.beq t 41 then some ⟨1, .sl 5, [.nils 1]⟩ else none) else (bif Nat.beq t 42 then some ⟨1, .base, [.undef]⟩ else none)))) else (bif Nat.blt t 47 then (bif Nat.blt t 45 then (bif Nat.beq t 44 then some ⟨1, .base, [.undef]⟩ else none) else (bif Nat.blt t 46 then (bif Nat.beq t 45 then some ⟨2, .st [(0, 32), (1, 32)], [.nils 1, .nils 1]⟩ else none) else (bif Nat.beq t 46 then some ⟨2, .st [(0, 32), (1, 32)], [.nils 1, .nils 1]⟩ else none))) else (bif Nat.blt t 48 then (bif Nat.beq t 47 then some ⟨1, .base, [.undef]⟩ else none) else (bif Nat.blt t 49 then (bif Nat.beq t 48 then some ⟨1, .base, [.undef]⟩ else none) else (bif Nat.beq t 49 then some ⟨2, .st [(0, 32), (1, 32)], [.nils 1, .nils 1]⟩ else none))))))) else (bif Nat.blt t 74 then (bif Nat.blt t 62 then (bif Nat.blt t 56 then (bif Nat.blt t 53 then (bif Nat.blt t 51 then (bif Nat.beq t 50 then some ⟨1, .base, [.undef]⟩ else none) else (bif Nat.blt t 52 then (bif Nat.beq t 51 then some ⟨1, .base, [.undef]⟩ else none) else (bif Nat.beq t 52 then some ⟨1, .base, [.undef]⟩ else none))) else (bif Nat.blt t 54 then (bif Nat.beq t 53 then some ⟨1, .base, [.undef]⟩ else none) else (bif Nat.blt t 55 then (bif Nat.beq t 54 then some ⟨1, .base, [.undef]⟩ else none) else (bif Nat.beq t 55 then some ⟨1, .base, [.undef]⟩ else none)))) else (bif Nat.blt t 59 then (bif Nat.blt t 57 then (bif Nat.beq t 56 then some ⟨1, .base, [.undef]⟩ else none) else (bif Nat.blt t 58 then (bif Nat.beq t 57 then some ⟨1, .base, [.undef]⟩ else none) else (bif Nat.beq t 58 then some ⟨1, .base, [.undef]⟩ else none))) else (bif Nat.blt t 60 then (bif Nat.beq t 59 then some ⟨1, .base, [.undef]⟩ else none) else (bif Nat.blt t 61 then (bif Nat.beq t 60 then some ⟨1, .base, [.undef]⟩ else none) else (bif Nat.beq t 61 then some ⟨1, .base, [.undef]⟩ else none))))) else (bif Nat.blt t 68 then (bif Nat.blt t 65 then (bif Nat.blt t 63 then (bif Nat.beq t 62 then some ⟨1, .base, [.undef]⟩ else none) else (bif Nat.blt t 64 then (bif Nat.beq t 63 then some ⟨1, .base, [.undef]⟩ else none) else (bif Nat.beq t 64 then some ⟨1, .base, [.undef]⟩ else none))) else (bif Nat.blt t 66 then (bif Nat.beq t 65 then some ⟨1, .base, [.undef]⟩ else none) else (bif Nat.blt t 67 then (bif Nat.beq t 66 then some ⟨1, .base, [.undef]⟩ else none) else (bif Nat.beq t 67 then some ⟨1, .base, [.undef]⟩ else none)))) else (bif Nat.blt t 71 then (bif Nat.blt t 69 then (bif Nat.beq t 68 then some ⟨1, .base, [.g .nilp]⟩ else none) else (bif Nat.blt t 70 then (bif Nat.beq t 69 then some ⟨1, .base, [.undef]⟩ else none) else (bif Nat.beq t 70 then some ⟨1, .base, [.undef]⟩ else none))) else (bif Nat.blt t 72 then (bif Nat.beq t 71 then some ⟨1, .base, [.undef]⟩ else none) else (bif Nat.blt t 73 then (bif Nat.beq t 72 then some ⟨1, .base, [.undef]⟩ else none) else (bif Nat.beq t 73 then some ⟨1, .base, [.undef]⟩ else none)))))) else (bif Nat.blt t 86 then (bif Nat.blt t 80 then (bif Nat.blt t 77 then (bif Nat.blt t 75 then (bif Nat.beq t 74 then some ⟨1, .base, [.undef]⟩ else none) else (bif Nat.blt t 76 then (bif Nat.beq t 75 then some ⟨1, .base, [.undef]⟩ else none) else (bif Nat.beq t 76 then some ⟨1, .base, [.undef]⟩ else none))) else (bif Nat.blt t 78 then (bif Nat.beq t 77 then some ⟨3, .st [(0, 41), (1, 3), (2, 2)], [.nils 1, .g (.int .i64 0), .g (.int .i64 0)]⟩ else none) else (bif Nat.blt t 79 then (bif Nat.beq t 78 then some ⟨3, .st [(0, 41), (1, 3), (2, 2)], [.nils 1, .g (.int .i64 0), .g (.int .i64 0)]⟩ else none) else (bif Nat.beq t 79 then some ⟨1, .base, [.undef]⟩ else none)))) else (bif Nat.blt t 83 then (bif Nat.blt t 81 then (bif Nat.beq t 80 then some ⟨1, .base, [.undef]⟩ else none) else (bif Nat.blt t 82 then (bif Nat.beq t 81 then some ⟨1, .base, [.undef]⟩ else none) else (bif Nat.beq t 82 then some ⟨1, .base, [.undef]⟩ else none))) else (bif Nat.blt t 84 then (bif Nat.beq t 83 then some ⟨1, .int .u64, [.g (.int .u64 0)]⟩ else none) else (bif Nat.blt t 85 then (bif Nat.beq t 84 then some ⟨1, .base, [.undef]⟩ else none) else (bif Nat.beq t 85 then some ⟨1, .base, [.undef]⟩ else none))))) else (bif Nat.blt t 95 then (bif Nat.blt t 92 then (bif Nat.blt t 87 then (bif Nat.beq t 86 then some ⟨4, .st [(0, 17), (1, 17), (2, 17), (3, 9)], [.g .nilp, .g .nilp, .g .nilp, .g (.str ⟨#[]⟩)]⟩ else none) else (bif Nat.blt t 91 then (bif Nat.beq t 87 then some ⟨4, .st [(0, 17), (1, 17), (2, 17), (3, 9)], [.g .nilp, .g .nilp, .g .nilp, .g (.str ⟨#[]⟩)]⟩ else none) else (bif Nat.beq t 91 then some ⟨1, .base, [.undef]⟩ else none))) else (bif Nat.blt t 93 then (bif Nat.beq t 92 then some ⟨1, .int .u32, [.g (.int .u32 0)]⟩ else none) else (bif Nat.blt t 94 then (bif Nat.beq t 93 then some ⟨1, .int .u8, [.g (.int .u8 0)]⟩ else none) else (bif Nat.beq t 94 then some ⟨1, .int .u8, [.g (.int .u8 0)]⟩ else none)))) else (bif Nat.blt t 98 then (bif Nat.blt t 96 then (bif Nat.beq t 95 then some ⟨1, .base, [.undef]⟩ else none) else (bif Nat.blt t 97 then (bif Nat.beq t 96 then some ⟨1, .base, [.g .nilp]⟩ else none) else (bif Nat.beq t 97 then some ⟨1, .int .i32, [.g (.int .i32 0)]⟩ else none))) else (bif Nat.blt t 99 then (bif Nat.beq t 98 then some ⟨1, .int .i32, [.g (.int .i32 0)]⟩ else none) else (bif Nat.blt t 100 then (bif Nat.beq t 99 then some ⟨11, .st [(0, 12), (1, 12), (2, 92), (3, 93), (4, 5), (5, 5), (6, 94), (7, 95), (8, 96), (9, 97), (10, 98)], [.g (.int .u64 0), .g (.int .u64 0), .g (.int .u32 0), .g (.int .u8 0), .g (.int .u8 0), .g (.int .u8 0), .g (.int .u8 0), .undef, .g .nilp, .g (.int .i32 0), .g (.int .i32 0)]⟩ else none) else (bif Nat.beq t 100 then some ⟨11, .st [(0, 12), (1, 12), (2, 92), (3, 93), (4, 5), (5, 5), (6, 94), (7, 95), (8, 96), (9, 97), (10, 98)], [.g (.int .u64 0), .g (.int .u64 0), .g (.int .u32 0), .g (.int .u8 0), .g (.int .u8 0), .g (.int .u8 0), .g (.int .u8 0), .undef, .g .nilp, .g (.int .i32 0), .g (.int .i32 0)]⟩ else none))))))))

theorem tab_ok : TabOk Try.prog tab := fun t i => by
  show tab t = some i → _
  have : GoodT t (tab t) := by
    unfold tab
    exact (tb_split (tb_split (tb_split (tb_split (tb_split (tb_split (tb_leaf ty1) (tb_leaf ty2)) (tb_split (tb_leaf ty3) (tb_split (tb_leaf ty4) (tb_leaf ty5)))) (tb_split (tb_split (tb_leaf ty6) (tb_split (tb_leaf ty7) (tb_leaf ty8))) (tb_split (tb_leaf ty9) (tb_split (tb_leaf ty10) (tb_leaf ty11))))) (tb_split (tb_split (tb_split (tb_leaf ty12) (tb_split (tb_leaf ty13) (tb_leaf ty14))) (tb_split (tb_leaf ty15) (tb_split (tb_leaf ty16) (tb_leaf ty17)))) (tb_split (tb_split (tb_leaf ty18) (tb_split (tb_leaf ty19) (tb_leaf ty21))) (tb_split (tb_leaf ty22) (tb_split (tb_leaf ty23) (tb_leaf ty24)))))) (tb_split (tb_split (tb_split (tb_split (tb_leaf ty25) (tb_split (tb_leaf ty26) (tb_leaf ty27))) (tb_split (tb_leaf ty28) (tb_split (tb_leaf ty29) (tb_leaf ty30)))) (tb_split (tb_split (tb_leaf ty31) (tb_split (tb_leaf ty32) (tb_leaf ty33))) (tb_split (tb_leaf ty34) (tb_split (tb_leaf ty35) (tb_leaf ty36))))) (tb_split (tb_split (tb_split (tb_leaf ty37) (tb_split (tb_leaf ty38) (tb_leaf ty39))) (tb_split (tb_leaf ty40) (tb_split (tb_leaf ty41) (tb_leaf ty42)))) (tb_split (tb_split (tb_leaf ty44) (tb_split (tb_leaf ty45) (tb_leaf ty46))) (tb_split (tb_leaf ty47) (tb_split (tb_leaf ty48) (tb_leaf ty49))))))) (tb_split (tb_split (tb_split (tb_split (tb_split (tb_leaf ty50) (tb_split (tb_leaf ty51) (tb_leaf ty52))) (tb_split (tb_leaf ty53) (tb_split (tb_leaf ty54) (tb_leaf ty55)))) (tb_split (tb_split (tb_leaf ty56) (tb_split (tb_leaf ty57) (tb_leaf ty58))) (tb_split (tb_leaf ty59) (tb_split (tb_leaf ty60) (tb_leaf ty61))))) (tb_split (tb_split (tb_split (tb_leaf ty62) (tb_split (tb_leaf ty63) (tb_leaf ty64))) (tb_split (tb_leaf ty65) (tb_split (tb_leaf ty66) (tb_leaf ty67)))) (tb_split (tb_split (tb_leaf ty68) (tb_split (tb_leaf ty69) (tb_leaf ty70))) (tb_split (tb_leaf ty71) (tb_split (tb_leaf ty72) (tb_leaf ty73)))))) (tb_split (tb_split (tb_split (tb_split (tb_leaf ty74) (tb_split (tb_leaf ty75) (tb_leaf ty76))) (tb_split (tb_leaf ty77) (tb_split (tb_leaf ty78) (tb_leaf ty79)))) (tb_split (tb_split (tb_leaf ty80) (tb_split (tb_leaf ty81) (tb_leaf ty82))) (tb_split (tb_leaf ty83) (tb_split (tb_leaf ty84) (tb_leaf ty85))))) (tb_split (tb_split (tb_split (tb_leaf ty86) (tb_split (tb_leaf ty87) (tb_leaf ty91))) (tb_split (tb_leaf ty92) (tb_split (tb_leaf ty93) (tb_leaf ty94)))) (tb_split (tb_split (tb_leaf ty95) (tb_split (tb_leaf ty96) (tb_leaf ty97))) (tb_split (tb_leaf ty98) (tb_split (tb_leaf ty99) (tb_leaf ty100))))))))
  exact this i

end Go.Proofs.Ytknkdgacdeeemaa
