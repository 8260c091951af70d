/- The table of the program's types, and that it is right. No conditions. -/
import Derived.Test.YtabfpoflhacknaaKC
set_option linter.unusedSimpArgs false
set_option linter.unusedVariables false
namespace Go.Proofs.Ytabfpoflhacknaa
open Go.RowKit
open Shp
theorem ty1 : ∃ inf z d, TypeOk Try.prog 1 ⟨1, .base, [.undef]⟩ inf z d :=
  ⟨Try.t1, .nilFunc, _, by kernel_rfl, rfl, rfl, rfl, rfl, fun k hk => match k, hk with | 0, _ => z_undef rfl, Try.underlying1, rfl⟩
theorem ty2 : ∃ inf z d, TypeOk Try.prog 2 ⟨1, .int .i64, [.g (.int .i64 0)]⟩ inf z d :=
  ⟨Try.t2, .int .i64 0, _, by kernel_rfl, rfl, rfl, rfl, rfl, fun k hk => match k, hk with | 0, _ => z_int _, Try.underlying2, rfl⟩
theorem ty3 : ∃ inf z d, TypeOk Try.prog 3 ⟨1, .int .i64, [.g (.int .i64 0)]⟩ inf z d :=
  ⟨Try.t3, .int .i64 0, _, by kernel_rfl, rfl, rfl, rfl, rfl, fun k hk => match k, hk with | 0, _ => z_int _, Try.underlying3, rfl⟩
theorem ty4 : ∃ inf z d, TypeOk Try.prog 4 ⟨1, .bool, [.g (.bool false)]⟩ inf z d :=
  ⟨Try.t4, .bool false, _, by kernel_rfl, rfl, rfl, rfl, rfl, fun k hk => match k, hk with | 0, _ => z_bool, Try.underlying4, rfl⟩
theorem ty5 : ∃ inf z d, TypeOk Try.prog 5 ⟨1, .int .u8, [.g (.int .u8 0)]⟩ inf z d :=
  ⟨Try.t5, .int .u8 0, _, by kernel_rfl, rfl, rfl, rfl, rfl, fun k hk => match k, hk with | 0, _ => z_int _, Try.underlying5, rfl⟩
theorem ty6 : ∃ inf z d, TypeOk Try.prog 6 ⟨1, .int .u8, [.g (.int .u8 0)]⟩ inf z d :=
  ⟨Try.t6, .int .u8 0, _, by kernel_rfl, rfl, rfl, rfl, rfl, fun k hk => match k, hk with | 0, _ => z_int _, Try.underlying6, rfl⟩
theorem ty7 : ∃ inf z d, TypeOk Try.prog 7 ⟨4, .st [(0, 2), (1, 3), (2, 4), (3, 6)], [.g (.int .i64 0), .g (.int .i64 0), .g (.bool false), .g (.int .u8 0)]⟩ inf z d :=
  ⟨Try.t7, .agg #[.int .i64 0, .int .i64 0, .bool false, .int .u8 0], _, by kernel_rfl, rfl, rfl, rfl, rfl, fun k hk => match k, hk with | 0, _ => z_int _ | 1, _ => z_int _ | 2, _ => z_bool | 3, _ => z_int _, Try.underlying7, ⟨_, rfl, rfl⟩⟩
theorem ty8 : ∃ inf z d, TypeOk Try.prog 8 ⟨4, .st [(0, 2), (1, 3), (2, 4), (3, 6)], [.g (.int .i64 0), .g (.int .i64 0), .g (.bool false), .g (.int .u8 0)]⟩ inf z d :=
  ⟨Try.t8, .agg #[.int .i64 0, .int .i64 0, .bool false, .int .u8 0], _, by kernel_rfl, rfl, rfl, rfl, rfl, fun k hk => match k, hk with | 0, _ => z_int _ | 1, _ => z_int _ | 2, _ => z_bool | 3, _ => z_int _, Try.underlying8, ⟨_, rfl, rfl⟩⟩
theorem ty9 : ∃ inf z d, TypeOk Try.prog 9 ⟨1, .str, [.g (.str ⟨#[]⟩)]⟩ inf z d :=
  ⟨Try.t9, .string ⟨#[]⟩, _, by kernel_rfl, rfl, rfl, rfl, rfl, fun k hk => match k, hk with | 0, _ => z_str, Try.underlying9, rfl⟩
theorem ty10 : ∃ inf z d, TypeOk Try.prog 10 ⟨1, .str, [.g (.str ⟨#[]⟩)]⟩ inf z d :=
  ⟨Try.t10, .string ⟨#[]⟩, _, by kernel_rfl, rfl, rfl, rfl, rfl, fun k hk => match k, hk with | 0, _ => z_str, Try.underlying10, rfl⟩
theorem ty11 : ∃ inf z d, TypeOk Try.prog 11 ⟨1, .str, [.g (.str ⟨#[]⟩)]⟩ inf z d :=
  ⟨Try.t11, .string ⟨#[]⟩, _, by kernel_rfl, rfl, rfl, rfl, rfl, fun k hk => match k, hk with | 0, _ => z_str, Try.underlying11, rfl⟩
theorem ty12 : ∃ inf z d, TypeOk Try.prog 12 ⟨1, .int .u64, [.g (.int .u64 0)]⟩ inf z d :=
  ⟨Try.t12, .int .u64 0, _, by kernel_rfl, rfl, rfl, rfl, rfl, fun k hk => match k, hk with | 0, _ => z_int _, Try.underlying12, rfl⟩
theorem ty13 : ∃ inf z d, TypeOk Try.prog 13 ⟨2, .st [(0, 9), (1, 12)], [.g (.str ⟨#[]⟩), .g (.int .u64 0)]⟩ inf z d :=
  ⟨Try.t13, .agg #[.string ⟨#[]⟩, .int .u64 0], _, by kernel_rfl, rfl, rfl, rfl, rfl, fun k hk => match k, hk with | 0, _ => z_str | 1, _ => z_int _, Try.underlying13, ⟨_, rfl, rfl⟩⟩
theorem ty14 : ∃ inf z d, TypeOk Try.prog 14 ⟨2, .st [(0, 9), (1, 12)], [.g (.str ⟨#[]⟩), .g (.int .u64 0)]⟩ inf z d :=
  ⟨Try.t14, .agg #[.string ⟨#[]⟩, .int .u64 0], _, by kernel_rfl, rfl, rfl, rfl, rfl, fun k hk => match k, hk with | 0, _ => z_str | 1, _ => z_int _, Try.underlying14, ⟨_, rfl, rfl⟩⟩
theorem ty15 : ∃ inf z d, TypeOk Try.prog 15 ⟨1, .base, [.g .nilp]⟩ inf z d :=
  ⟨Try.t15, .pointer none, _, by kernel_rfl, rfl, rfl, rfl, rfl, fun k hk => match k, hk with | 0, _ => z_nilp, Try.underlying15, rfl⟩
theorem ty16 : ∃ inf z d, TypeOk Try.prog 16 ⟨1, .base, [.g .nilp]⟩ inf z d :=
  ⟨Try.t16, .pointer none, _, by kernel_rfl, rfl, rfl, rfl, rfl, fun k hk => match k, hk with | 0, _ => z_nilp, Try.underlying16, rfl⟩
theorem ty17 : ∃ inf z d, TypeOk Try.prog 17 ⟨1, .base, [.g .nilp]⟩ inf z d :=
  ⟨Try.t17, .pointer none, _, by kernel_rfl, rfl, rfl, rfl, rfl, fun k hk => match k, hk with | 0, _ => z_nilp, Try.underlying17, rfl⟩
theorem ty18 : ∃ inf z d, TypeOk Try.prog 18 ⟨1, .st [(0, 17)], [.g .nilp]⟩ inf z d :=
  ⟨Try.t18, .agg #[.pointer none], _, by kernel_rfl, rfl, rfl, rfl, rfl, fun k hk => match k, hk with | 0, _ => z_nilp, Try.underlying18, ⟨_, rfl, rfl⟩⟩
theorem ty19 : ∃ inf z d, TypeOk Try.prog 19 ⟨1, .st [(0, 17)], [.g .nilp]⟩ inf z d :=
  ⟨Try.t19, .agg #[.pointer none], _, by kernel_rfl, rfl, rfl, rfl, rfl, fun k hk => match k, hk with | 0, _ => z_nilp, Try.underlying19, ⟨_, rfl, rfl⟩⟩
theorem ty21 : ∃ inf z d, TypeOk Try.prog 21 ⟨1, .int .i32, [.g (.int .i32 0)]⟩ inf z d :=
  ⟨Try.t21, .int .i32 0, _, by kernel_rfl, rfl, rfl, rfl, rfl, fun k hk => match k, hk with | 0, _ => z_int _, Try.underlying21, rfl⟩
theorem ty22 : ∃ inf z d, TypeOk Try.prog 22 ⟨2, .st [(0, 2), (1, 2)], [.g (.int .i64 0), .g (.int .i64 0)]⟩ inf z d :=
  ⟨Try.t22, .agg #[.int .i64 0, .int .i64 0], _, by kernel_rfl, rfl, rfl, rfl, rfl, fun k hk => match k, hk with | 0, _ => z_int _ | 1, _ => z_int _, Try.underlying22, ⟨_, rfl, rfl⟩⟩
theorem ty23 : ∃ inf z d, TypeOk Try.prog 23 ⟨2, .st [(0, 2), (1, 2)], [.g (.int .i64 0), .g (.int .i64 0)]⟩ inf z d :=
  ⟨Try.t23, .agg #[.int .i64 0, .int .i64 0], _, by kernel_rfl, rfl, rfl, rfl, rfl, fun k hk => match k, hk with | 0, _ => z_int _ | 1, _ => z_int _, Try.underlying23, ⟨_, rfl, rfl⟩⟩
theorem ty24 : ∃ inf z d, TypeOk Try.prog 24 ⟨1, .sl 29, [.nils 1]⟩ inf z d :=
  ⟨Try.t24, .slice none 0 0, _, by kernel_rfl, rfl, rfl, rfl, rfl, fun k hk => match k, hk with | 0, _ => z_nils (by decide), Try.underlying24, ⟨rfl, Try.t29, by kernel_rfl, by decide⟩⟩
theorem ty25 : ∃ inf z d, TypeOk Try.prog 25 ⟨1, .sl 107, [.nils 2]⟩ inf z d :=
  ⟨Try.t25, .slice none 0 0, _, by kernel_rfl, rfl, rfl, rfl, rfl, fun k hk => match k, hk with | 0, _ => z_nils (by decide), Try.underlying25, ⟨rfl, Try.t107, by kernel_rfl, by decide⟩⟩
theorem ty26 : ∃ inf z d, TypeOk Try.prog 26 ⟨2, .st [(0, 24), (1, 25)], [.nils 1, .nils 2]⟩ inf z d :=
  ⟨Try.t26, .agg #[.slice none 0 0, .slice none 0 0], _, by kernel_rfl, rfl, rfl, rfl, rfl, fun k hk => match k, hk with | 0, _ => z_nils (by decide) | 1, _ => z_nils (by decide), Try.underlying26, ⟨_, rfl, rfl⟩⟩
theorem ty27 : ∃ inf z d, TypeOk Try.prog 27 ⟨2, .st [(0, 24), (1, 25)], [.nils 1, .nils 2]⟩ inf z d :=
  ⟨Try.t27, .agg #[.slice none 0 0, .slice none 0 0], _, by kernel_rfl, rfl, rfl, rfl, rfl, fun k hk => match k, hk with | 0, _ => z_nils (by decide) | 1, _ => z_nils (by decide), Try.underlying27, ⟨_, rfl, rfl⟩⟩
theorem ty28 : ∃ inf z d, TypeOk Try.prog 28 ⟨1, .base, [.undef]⟩ inf z d :=
  ⟨Try.t28, .nilFunc, _, by kernel_rfl, rfl, rfl, rfl, rfl, fun k hk => match k, hk with | 0, _ => z_undef rfl, Try.underlying28, rfl⟩
theorem ty29 : ∃ inf z d, TypeOk Try.prog 29 ⟨1, .sl 2, [.nils 1]⟩ inf z d :=
  ⟨Try.t29, .slice none 0 0, _, by kernel_rfl, rfl, rfl, rfl, rfl, fun k hk => match k, hk with | 0, _ => z_nils (by decide), Try.underlying29, ⟨rfl, Try.t2, by kernel_rfl, by decide⟩⟩
theorem ty30 : ∃ inf z d, TypeOk Try.prog 30 ⟨1, .base, [.undef]⟩ inf z d :=
  ⟨Try.t30, .nilFunc, _, by kernel_rfl, rfl, rfl, rfl, rfl, fun k hk => match k, hk with | 0, _ => z_undef rfl, Try.underlying30, rfl⟩
theorem ty31 : ∃ inf z d, TypeOk Try.prog 31 ⟨2, .st [(0, 2), (1, 2)], [.g (.int .i64 0), .g (.int .i64 0)]⟩ inf z d :=
  ⟨Try.t31, .agg #[.int .i64 0, .int .i64 0], _, by kernel_rfl, rfl, rfl, rfl, rfl, fun k hk => match k, hk with | 0, _ => z_int _ | 1, _ => z_int _, Try.underlying31, ⟨_, rfl, rfl⟩⟩
theorem ty32 : ∃ inf z d, TypeOk Try.prog 32 ⟨1, .base, [.undef]⟩ inf z d :=
  ⟨Try.t32, .nilFunc, _, by kernel_rfl, rfl, rfl, rfl, rfl, fun k hk => match k, hk with | 0, _ => z_undef rfl, Try.underlying32, rfl⟩
theorem ty33 : ∃ inf z d, TypeOk Try.prog 33 ⟨1, .sl 79, [.nils 2]⟩ inf z d :=
  ⟨Try.t33, .slice none 0 0, _, by kernel_rfl, rfl, rfl, rfl, rfl, fun k hk => match k, hk with | 0, _ => z_nils (by decide), Try.underlying33, ⟨rfl, Try.t79, by kernel_rfl, by decide⟩⟩
theorem ty34 : ∃ inf z d, TypeOk Try.prog 34 ⟨2, .st [(0, 24), (1, 33)], [.nils 1, .nils 2]⟩ inf z d :=
  ⟨Try.t34, .agg #[.slice none 0 0, .slice none 0 0], _, by kernel_rfl, rfl, rfl, rfl, rfl, fun k hk => match k, hk with | 0, _ => z_nils (by decide) | 1, _ => z_nils (by decide), Try.underlying34, ⟨_, rfl, rfl⟩⟩
theorem ty35 : ∃ inf z d, TypeOk Try.prog 35 ⟨2, .st [(0, 24), (1, 33)], [.nils 1, .nils 2]⟩ inf z d :=
  ⟨Try.t35, .agg #[.slice none 0 0, .slice none 0 0], _, by kernel_rfl, rfl, rfl, rfl, rfl, fun k hk => match k, hk with | 0, _ => z_nils (by decide) | 1, _ => z_nils (by decide), Try.underlying35, ⟨_, rfl, rfl⟩⟩
theorem ty36 : ∃ inf z d, TypeOk Try.prog 36 ⟨1, .base, [.undef]⟩ inf z d :=
  ⟨Try.t36, .nilFunc, _, by kernel_rfl, rfl, rfl, rfl, rfl, fun k hk => match k, hk with | 0, _ => z_undef rfl, Try.underlying36, rfl⟩
theorem ty37 : ∃ inf z d, TypeOk Try.prog 37 ⟨1, .base, [.undef]⟩ inf z d :=
  ⟨Try.t37, .nilFunc, _, by kernel_rfl, rfl, rfl, rfl, rfl, fun k hk => match k, hk with | 0, _ => z_undef rfl, Try.underlying37, rfl⟩
theorem ty38 : ∃ inf z d, TypeOk Try.prog 38 ⟨1, .base, [.undef]⟩ inf z d :=
  ⟨Try.t38, .nilFunc, _, by kernel_rfl, rfl, rfl, rfl, rfl, fun k hk => match k, hk with | 0, _ => z_undef rfl, Try.underlying38, rfl⟩
theorem ty39 : ∃ inf z d, TypeOk Try.prog 39 ⟨1, .base, [.undef]⟩ inf z d :=
  ⟨Try.t39, .nilFunc, _, by kernel_rfl, rfl, rfl, rfl, rfl, fun k hk => match k, hk with | 0, _ => z_undef rfl, Try.underlying39, rfl⟩
theorem ty40 : ∃ inf z d, TypeOk Try.prog 40 ⟨1, .base, [.undef]⟩ inf z d :=
  ⟨Try.t40, .nilFunc, _, by kernel_rfl, rfl, rfl, rfl, rfl, fun k hk => match k, hk with | 0, _ => z_undef rfl, Try.underlying40, rfl⟩
theorem ty41 : ∃ inf z d, TypeOk Try.prog 41 ⟨1, .base, [.undef]⟩ inf z d :=
  ⟨Try.t41, .nilFunc, _, by kernel_rfl, rfl, rfl, rfl, rfl, fun k hk => match k, hk with | 0, _ => z_undef rfl, Try.underlying41, rfl⟩
theorem ty42 : ∃ inf z d, TypeOk Try.prog 42 ⟨1, .base, [.undef]⟩ inf z d :=
  ⟨Try.t42, .nilFunc, _, by kernel_rfl, rfl, rfl, rfl, rfl, fun k hk => match k, hk with | 0, _ => z_undef rfl, Try.underlying42, rfl⟩
theorem ty43 : ∃ inf z d, TypeOk Try.prog 43 ⟨1, .sl 5, [.nils 1]⟩ inf z d :=
  ⟨Try.t43, .slice none 0 0, _, by kernel_rfl, rfl, rfl, rfl, rfl, fun k hk => match k, hk with | 0, _ => z_nils (by decide), Try.underlying43, ⟨rfl, Try.t5, by kernel_rfl, by decide⟩⟩
theorem ty44 : ∃ inf z d, TypeOk Try.prog 44 ⟨1, .base, [.undef]⟩ inf z d :=
  ⟨Try.t44, .nilFunc, _, by kernel_rfl, rfl, rfl, rfl, rfl, fun k hk => match k, hk with | 0, _ => z_undef rfl, Try.underlying44, rfl⟩
theorem ty45 : ∃ inf z d, TypeOk Try.prog 45 ⟨2, .st [(0, 29), (1, 29)], [.nils 1, .nils 1]⟩ inf z d :=
  ⟨Try.t45, .agg #[.slice none 0 0, .slice none 0 0], _, by kernel_rfl, rfl, rfl, rfl, rfl, fun k hk => match k, hk with | 0, _ => z_nils (by decide) | 1, _ => z_nils (by decide), Try.underlying45, ⟨_, rfl, rfl⟩⟩
theorem ty46 : ∃ inf z d, TypeOk Try.prog 46 ⟨2, .st [(0, 29), (1, 29)], [.nils 1, .nils 1]⟩ inf z d :=
  ⟨Try.t46, .agg #[.slice none 0 0, .slice none 0 0], _, by kernel_rfl, rfl, rfl, rfl, rfl, fun k hk => match k, hk with | 0, _ => z_nils (by decide) | 1, _ => z_nils (by decide), Try.underlying46, ⟨_, rfl, rfl⟩⟩
theorem ty48 : ∃ inf z d, TypeOk Try.prog 48 ⟨1, .base, [.undef]⟩ inf z d :=
  ⟨Try.t48, .nilFunc, _, by kernel_rfl, rfl, rfl, rfl, rfl, fun k hk => match k, hk with | 0, _ => z_undef rfl, Try.underlying48, rfl⟩
theorem ty49 : ∃ inf z d, TypeOk Try.prog 49 ⟨1, .base, [.undef]⟩ inf z d :=
  ⟨Try.t49, .nilFunc, _, by kernel_rfl, rfl, rfl, rfl, rfl, fun k hk => match k, hk with | 0, _ => z_undef rfl, Try.underlying49, rfl⟩
theorem ty50 : ∃ inf z d, TypeOk Try.prog 50 ⟨1, .base, [.undef]⟩ inf z d :=
  ⟨Try.t50, .nilFunc, _, by kernel_rfl, rfl, rfl, rfl, rfl, fun k hk => match k, hk with | 0, _ => z_undef rfl, Try.underlying50, rfl⟩
theorem ty51 : ∃ inf z d, TypeOk Try.prog 51 ⟨1, .base, [.undef]⟩ inf z d :=
  ⟨Try.t51, .nilFunc, _, by kernel_rfl, rfl, rfl, rfl, rfl, fun k hk => match k, hk with | 0, _ => z_undef rfl, Try.underlying51, rfl⟩
theorem ty52 : ∃ inf z d, TypeOk Try.prog 52 ⟨1, .base, [.undef]⟩ inf z d :=
  ⟨Try.t52, .nilFunc, _, by kernel_rfl, rfl, rfl, rfl, rfl, fun k hk => match k, hk with | 0, _ => z_undef rfl, Try.underlying52, rfl⟩
theorem ty53 : ∃ inf z d, TypeOk Try.prog 53 ⟨1, .base, [.g .nilp]⟩ inf z d :=
  ⟨Try.t53, .pointer none, _, by kernel_rfl, rfl, rfl, rfl, rfl, fun k hk => match k, hk with | 0, _ => z_nilp, Try.underlying53, rfl⟩
theorem ty54 : ∃ inf z d, TypeOk Try.prog 54 ⟨1, .base, [.undef]⟩ inf z d :=
  ⟨Try.t54, .nilFunc, _, by kernel_rfl, rfl, rfl, rfl, rfl, fun k hk => match k, hk with | 0, _ => z_undef rfl, Try.underlying54, rfl⟩
theorem ty55 : ∃ inf z d, TypeOk Try.prog 55 ⟨1, .int .u64, [.g (.int .u64 0)]⟩ inf z d :=
  ⟨Try.t55, .int .u64 0, _, by kernel_rfl, rfl, rfl, rfl, rfl, fun k hk => match k, hk with | 0, _ => z_int _, Try.underlying55, rfl⟩
theorem ty56 : ∃ inf z d, TypeOk Try.prog 56 ⟨1, .base, [.undef]⟩ inf z d :=
  ⟨Try.t56, .nilFunc, _, by kernel_rfl, rfl, rfl, rfl, rfl, fun k hk => match k, hk with | 0, _ => z_undef rfl, Try.underlying56, rfl⟩
theorem ty57 : ∃ inf z d, TypeOk Try.prog 57 ⟨2, .st [(0, 24), (1, 24)], [.nils 1, .nils 1]⟩ inf z d :=
  ⟨Try.t57, .agg #[.slice none 0 0, .slice none 0 0], _, by kernel_rfl, rfl, rfl, rfl, rfl, fun k hk => match k, hk with | 0, _ => z_nils (by decide) | 1, _ => z_nils (by decide), Try.underlying57, ⟨_, rfl, rfl⟩⟩
theorem ty58 : ∃ inf z d, TypeOk Try.prog 58 ⟨2, .st [(0, 24), (1, 24)], [.nils 1, .nils 1]⟩ inf z d :=
  ⟨Try.t58, .agg #[.slice none 0 0, .slice none 0 0], _, by kernel_rfl, rfl, rfl, rfl, rfl, fun k hk => match k, hk with | 0, _ => z_nils (by decide) | 1, _ => z_nils (by decide), Try.underlying58, ⟨_, rfl, rfl⟩⟩
theorem ty59 : ∃ inf z d, TypeOk Try.prog 59 ⟨1, .base, [.undef]⟩ inf z d :=
  ⟨Try.t59, .nilFunc, _, by kernel_rfl, rfl, rfl, rfl, rfl, fun k hk => match k, hk with | 0, _ => z_undef rfl, Try.underlying59, rfl⟩
theorem ty60 : ∃ inf z d, TypeOk Try.prog 60 ⟨1, .base, [.undef]⟩ inf z d :=
  ⟨Try.t60, .nilFunc, _, by kernel_rfl, rfl, rfl, rfl, rfl, fun k hk => match k, hk with | 0, _ => z_undef rfl, Try.underlying60, rfl⟩
theorem ty61 : ∃ inf z d, TypeOk Try.prog 61 ⟨1, .base, [.undef]⟩ inf z d :=
  ⟨Try.t61, .nilFunc, _, by kernel_rfl, rfl, rfl, rfl, rfl, fun k hk => match k, hk with | 0, _ => z_undef rfl, Try.underlying61, rfl⟩
theorem ty62 : ∃ inf z d, TypeOk Try.prog 62 ⟨1, .base, [.undef]⟩ inf z d :=
  ⟨Try.t62, .nilFunc, _, by kernel_rfl, rfl, rfl, rfl, rfl, fun k hk => match k, hk with | 0, _ => z_undef rfl, Try.underlying62, rfl⟩
theorem ty63 : ∃ inf z d, TypeOk Try.prog 63 ⟨1, .base, [.undef]⟩ inf z d :=
  ⟨Try.t63, .nilFunc, _, by kernel_rfl, rfl, rfl, rfl, rfl, fun k hk => match k, hk with | 0, _ => z_undef rfl, Try.underlying63, rfl⟩
theorem ty64 : ∃ inf z d, TypeOk Try.prog 64 ⟨1, .base, [.undef]⟩ inf z d :=
  ⟨Try.t64, .nilFunc, _, by kernel_rfl, rfl, rfl, rfl, rfl, fun k hk => match k, hk with | 0, _ => z_undef rfl, Try.underlying64, rfl⟩
theorem ty65 : ∃ inf z d, TypeOk Try.prog 65 ⟨1, .base, [.undef]⟩ inf z d :=
  ⟨Try.t65, .nilFunc, _, by kernel_rfl, rfl, rfl, rfl, rfl, fun k hk => match k, hk with | 0, _ => z_undef rfl, Try.underlying65, rfl⟩
theorem ty66 : ∃ inf z d, TypeOk Try.prog 66 ⟨1, .base, [.undef]⟩ inf z d :=
  ⟨Try.t66, .nilFunc, _, by kernel_rfl, rfl, rfl, rfl, rfl, fun k hk => match k, hk with | 0, _ => z_undef rfl, Try.underlying66, rfl⟩
theorem ty67 : ∃ inf z d, TypeOk Try.prog 67 ⟨1, .base, [.undef]⟩ inf z d :=
  ⟨Try.t67, .nilFunc, _, by kernel_rfl, rfl, rfl, rfl, rfl, fun k hk => match k, hk with | 0, _ => z_undef rfl, Try.underlying67, rfl⟩
theorem ty68 : ∃ inf z d, TypeOk Try.prog 68 ⟨1, .base, [.undef]⟩ inf z d :=
  ⟨Try.t68, .nilFunc, _, by kernel_rfl, rfl, rfl, rfl, rfl, fun k hk => match k, hk with | 0, _ => z_undef rfl, Try.underlying68, rfl⟩
theorem ty69 : ∃ inf z d, TypeOk Try.prog 69 ⟨1, .base, [.undef]⟩ inf z d :=
  ⟨Try.t69, .nilFunc, _, by kernel_rfl, rfl, rfl, rfl, rfl, fun k hk => match k, hk with | 0, _ => z_undef rfl, Try.underlying69, rfl⟩
theorem ty70 : ∃ inf z d, TypeOk Try.prog 70 ⟨1, .base, [.undef]⟩ inf z d :=
  ⟨Try.t70, .nilFunc, _, by kernel_rfl, rfl, rfl, rfl, rfl, fun k hk => match k, hk with | 0, _ => z_undef rfl, Try.underlying70, rfl⟩
theorem ty71 : ∃ inf z d, TypeOk Try.prog 71 ⟨1, .base, [.undef]⟩ inf z d :=
  ⟨Try.t71, .nilFunc, _, by kernel_rfl, rfl, rfl, rfl, rfl, fun k hk => match k, hk with | 0, _ => z_undef rfl, Try.underlying71, rfl⟩
theorem ty72 : ∃ inf z d, TypeOk Try.prog 72 ⟨1, .base, [.undef]⟩ inf z d :=
  ⟨Try.t72, .nilFunc, _, by kernel_rfl, rfl, rfl, rfl, rfl, fun k hk => match k, hk with | 0, _ => z_undef rfl, Try.underlying72, rfl⟩
theorem ty73 : ∃ inf z d, TypeOk Try.prog 73 ⟨1, .base, [.undef]⟩ inf z d :=
  ⟨Try.t73, .nilFunc, _, by kernel_rfl, rfl, rfl, rfl, rfl, fun k hk => match k, hk with | 0, _ => z_undef rfl, Try.underlying73, rfl⟩
theorem ty74 : ∃ inf z d, TypeOk Try.prog 74 ⟨1, .base, [.undef]⟩ inf z d :=
  ⟨Try.t74, .nilFunc, _, by kernel_rfl, rfl, rfl, rfl, rfl, fun k hk => match k, hk with | 0, _ => z_undef rfl, Try.underlying74, rfl⟩
theorem ty75 : ∃ inf z d, TypeOk Try.prog 75 ⟨1, .base, [.undef]⟩ inf z d :=
  ⟨Try.t75, .nilFunc, _, by kernel_rfl, rfl, rfl, rfl, rfl, fun k hk => match k, hk with | 0, _ => z_undef rfl, Try.underlying75, rfl⟩
theorem ty76 : ∃ inf z d, TypeOk Try.prog 76 ⟨1, .base, [.undef]⟩ inf z d :=
  ⟨Try.t76, .nilFunc, _, by kernel_rfl, rfl, rfl, rfl, rfl, fun k hk => match k, hk with | 0, _ => z_undef rfl, Try.underlying76, rfl⟩
theorem ty77 : ∃ inf z d, TypeOk Try.prog 77 ⟨1, .base, [.undef]⟩ inf z d :=
  ⟨Try.t77, .nilFunc, _, by kernel_rfl, rfl, rfl, rfl, rfl, fun k hk => match k, hk with | 0, _ => z_undef rfl, Try.underlying77, rfl⟩
theorem ty78 : ∃ inf z d, TypeOk Try.prog 78 ⟨2, .st [(0, 29), (1, 29)], [.nils 1, .nils 1]⟩ inf z d :=
  ⟨Try.t78, .agg #[.slice none 0 0, .slice none 0 0], _, by kernel_rfl, rfl, rfl, rfl, rfl, fun k hk => match k, hk with | 0, _ => z_nils (by decide) | 1, _ => z_nils (by decide), Try.underlying78, ⟨_, rfl, rfl⟩⟩
theorem ty79 : ∃ inf z d, TypeOk Try.prog 79 ⟨2, .st [(0, 29), (1, 29)], [.nils 1, .nils 1]⟩ inf z d :=
  ⟨Try.t79, .agg #[.slice none 0 0, .slice none 0 0], _, by kernel_rfl, rfl, rfl, rfl, rfl, fun k hk => match k, hk with | 0, _ => z_nils (by decide) | 1, _ => z_nils (by decide), Try.underlying79, ⟨_, rfl, rfl⟩⟩
theorem ty80 : ∃ inf z d, TypeOk Try.prog 80 ⟨1, .base, [.undef]⟩ inf z d :=
  ⟨Try.t80, .nilFunc, _, by kernel_rfl, rfl, rfl, rfl, rfl, fun k hk => match k, hk with | 0, _ => z_undef rfl, Try.underlying80, rfl⟩
theorem ty81 : ∃ inf z d, TypeOk Try.prog 81 ⟨1, .base, [.g .nilp]⟩ inf z d :=
  ⟨Try.t81, .pointer none, _, by kernel_rfl, rfl, rfl, rfl, rfl, fun k hk => match k, hk with | 0, _ => z_nilp, Try.underlying81, rfl⟩
theorem ty82 : ∃ inf z d, TypeOk Try.prog 82 ⟨1, .base, [.undef]⟩ inf z d :=
  ⟨Try.t82, .nilFunc, _, by kernel_rfl, rfl, rfl, rfl, rfl, fun k hk => match k, hk with | 0, _ => z_undef rfl, Try.underlying82, rfl⟩
theorem ty83 : ∃ inf z d, TypeOk Try.prog 83 ⟨1, .base, [.undef]⟩ inf z d :=
  ⟨Try.t83, .nilFunc, _, by kernel_rfl, rfl, rfl, rfl, rfl, fun k hk => match k, hk with | 0, _ => z_undef rfl, Try.underlying83, rfl⟩
theorem ty84 : ∃ inf z d, TypeOk Try.prog 84 ⟨1, .base, [.undef]⟩ inf z d :=
  ⟨Try.t84, .nilFunc, _, by kernel_rfl, rfl, rfl, rfl, rfl, fun k hk => match k, hk with | 0, _ => z_undef rfl, Try.underlying84, rfl⟩
theorem ty85 : ∃ inf z d, TypeOk Try.prog 85 ⟨1, .base, [.undef]⟩ inf z d :=
  ⟨Try.t85, .nilFunc, _, by kernel_rfl, rfl, rfl, rfl, rfl, fun k hk => match k, hk with | 0, _ => z_undef rfl, Try.underlying85, rfl⟩
theorem ty86 : ∃ inf z d, TypeOk Try.prog 86 ⟨1, .base, [.undef]⟩ inf z d :=
  ⟨Try.t86, .nilFunc, _, by kernel_rfl, rfl, rfl, rfl, rfl, fun k hk => match k, hk with | 0, _ => z_undef rfl, Try.underlying86, rfl⟩
theorem ty87 : ∃ inf z d, TypeOk Try.prog 87 ⟨1, .base, [.undef]⟩ inf z d :=
  ⟨Try.t87, .nilFunc, _, by kernel_rfl, rfl, rfl, rfl, rfl, fun k hk => match k, hk with | 0, _ => z_undef rfl, Try.underlying87, rfl⟩
theorem ty88 : ∃ inf z d, TypeOk Try.prog 88 ⟨1, .base, [.undef]⟩ inf z d :=
  ⟨Try.t88, .nilFunc, _, by kernel_rfl, rfl, rfl, rfl, rfl, fun k hk => match k, hk with | 0, _ => z_undef rfl, Try.underlying88, rfl⟩
theorem ty89 : ∃ inf z d, TypeOk Try.prog 89 ⟨1, .base, [.undef]⟩ inf z d :=
  ⟨Try.t89, .nilFunc, _, by kernel_rfl, rfl, rfl, rfl, rfl, fun k hk => match k, hk with | 0, _ => z_undef rfl, Try.underlying89, rfl⟩
theorem ty90 : ∃ inf z d, TypeOk Try.prog 90 ⟨1, .base, [.undef]⟩ inf z d :=
  ⟨Try.t90, .nilFunc, _, by kernel_rfl, rfl, rfl, rfl, rfl, fun k hk => match k, hk with | 0, _ => z_undef rfl, Try.underlying90, rfl⟩
theorem ty91 : ∃ inf z d, TypeOk Try.prog 91 ⟨1, .base, [.undef]⟩ inf z d :=
  ⟨Try.t91, .nilFunc, _, by kernel_rfl, rfl, rfl, rfl, rfl, fun k hk => match k, hk with | 0, _ => z_undef rfl, Try.underlying91, rfl⟩
theorem ty92 : ∃ inf z d, TypeOk Try.prog 92 ⟨1, .base, [.undef]⟩ inf z d :=
  ⟨Try.t92, .nilFunc, _, by kernel_rfl, rfl, rfl, rfl, rfl, fun k hk => match k, hk with | 0, _ => z_undef rfl, Try.underlying92, rfl⟩
theorem ty93 : ∃ inf z d, TypeOk Try.prog 93 ⟨1, .base, [.undef]⟩ inf z d :=
  ⟨Try.t93, .nilFunc, _, by kernel_rfl, rfl, rfl, rfl, rfl, fun k hk => match k, hk with | 0, _ => z_undef rfl, Try.underlying93, rfl⟩
theorem ty94 : ∃ inf z d, TypeOk Try.prog 94 ⟨1, .base, [.undef]⟩ inf z d :=
  ⟨Try.t94, .nilFunc, _, by kernel_rfl, rfl, rfl, rfl, rfl, fun k hk => match k, hk with | 0, _ => z_undef rfl, Try.underlying94, rfl⟩
theorem ty95 : ∃ inf z d, TypeOk Try.prog 95 ⟨1, .base, [.undef]⟩ inf z d :=
  ⟨Try.t95, .nilFunc, _, by kernel_rfl, rfl, rfl, rfl, rfl, fun k hk => match k, hk with | 0, _ => z_undef rfl, Try.underlying95, rfl⟩
theorem ty96 : ∃ inf z d, TypeOk Try.prog 96 ⟨3, .st [(0, 43), (1, 3), (2, 55)], [.nils 1, .g (.int .i64 0), .g (.int .u64 0)]⟩ inf z d :=
  ⟨Try.t96, .agg #[.slice none 0 0, .int .i64 0, .int .u64 0], _, by kernel_rfl, rfl, rfl, rfl, rfl, fun k hk => match k, hk with | 0, _ => z_nils (by decide) | 1, _ => z_int _ | 2, _ => z_int _, Try.underlying96, ⟨_, rfl, rfl⟩⟩
theorem ty97 : ∃ inf z d, TypeOk Try.prog 97 ⟨3, .st [(0, 43), (1, 3), (2, 55)], [.nils 1, .g (.int .i64 0), .g (.int .u64 0)]⟩ inf z d :=
  ⟨Try.t97, .agg #[.slice none 0 0, .int .i64 0, .int .u64 0], _, by kernel_rfl, rfl, rfl, rfl, rfl, fun k hk => match k, hk with | 0, _ => z_nils (by decide) | 1, _ => z_int _ | 2, _ => z_int _, Try.underlying97, ⟨_, rfl, rfl⟩⟩
theorem ty98 : ∃ inf z d, TypeOk Try.prog 98 ⟨1, .int .u64, [.g (.int .u64 0)]⟩ inf z d :=
  ⟨Try.t98, .int .u64 0, _, by kernel_rfl, rfl, rfl, rfl, rfl, fun k hk => match k, hk with | 0, _ => z_int _, Try.underlying98, rfl⟩
theorem ty99 : ∃ inf z d, TypeOk Try.prog 99 ⟨1, .base, [.undef]⟩ inf z d :=
  ⟨Try.t99, .nilFunc, _, by kernel_rfl, rfl, rfl, rfl, rfl, fun k hk => match k, hk with | 0, _ => z_undef rfl, Try.underlying99, rfl⟩
theorem ty101 : ∃ inf z d, TypeOk Try.prog 101 ⟨1, .base, [.undef]⟩ inf z d :=
  ⟨Try.t101, .nilFunc, _, by kernel_rfl, rfl, rfl, rfl, rfl, fun k hk => match k, hk with | 0, _ => z_undef rfl, Try.underlying101, rfl⟩
theorem ty102 : ∃ inf z d, TypeOk Try.prog 102 ⟨1, .base, [.undef]⟩ inf z d :=
  ⟨Try.t102, .nilFunc, _, by kernel_rfl, rfl, rfl, rfl, rfl, fun k hk => match k, hk with | 0, _ => z_undef rfl, Try.underlying102, rfl⟩
theorem ty103 : ∃ inf z d, TypeOk Try.prog 103 ⟨1, .base, [.undef]⟩ inf z d :=
  ⟨Try.t103, .nilFunc, _, by kernel_rfl, rfl, rfl, rfl, rfl, fun k hk => match k, hk with | 0, _ => z_undef rfl, Try.underlying103, rfl⟩
theorem ty104 : ∃ inf z d, TypeOk Try.prog 104 ⟨1, .base, [.undef]⟩ inf z d :=
  ⟨Try.t104, .nilFunc, _, by kernel_rfl, rfl, rfl, rfl, rfl, fun k hk => match k, hk with | 0, _ => z_undef rfl, Try.underlying104, rfl⟩
theorem ty105 : ∃ inf z d, TypeOk Try.prog 105 ⟨1, .base, [.undef]⟩ inf z d :=
  ⟨Try.t105, .nilFunc, _, by kernel_rfl, rfl, rfl, rfl, rfl, fun k hk => match k, hk with | 0, _ => z_undef rfl, Try.underlying105, rfl⟩
theorem ty106 : ∃ inf z d, TypeOk Try.prog 106 ⟨1, .base, [.undef]⟩ inf z d :=
  ⟨Try.t106, .nilFunc, _, by kernel_rfl, rfl, rfl, rfl, rfl, fun k hk => match k, hk with | 0, _ => z_undef rfl, Try.underlying106, rfl⟩
theorem ty107 : ∃ inf z d, TypeOk Try.prog 107 ⟨2, .st [(0, 29), (1, 29)], [.nils 1, .nils 1]⟩ inf z d :=
  ⟨Try.t107, .agg #[.slice none 0 0, .slice none 0 0], _, by kernel_rfl, rfl, rfl, rfl, rfl, fun k hk => match k, hk with | 0, _ => z_nils (by decide) | 1, _ => z_nils (by decide), Try.underlying107, ⟨_, rfl, rfl⟩⟩
theorem ty108 : ∃ inf z d, TypeOk Try.prog 108 ⟨1, .base, [.undef]⟩ inf z d :=
  ⟨Try.t108, .nilFunc, _, by kernel_rfl, rfl, rfl, rfl, rfl, fun k hk => match k, hk with | 0, _ => z_undef rfl, Try.underlying108, rfl⟩
theorem ty109 : ∃ inf z d, TypeOk Try.prog 109 ⟨1, .base, [.undef]⟩ inf z d :=
  ⟨Try.t109, .nilFunc, _, by kernel_rfl, rfl, rfl, rfl, rfl, fun k hk => match k, hk with | 0, _ => z_undef rfl, Try.underlying109, rfl⟩
theorem ty110 : ∃ inf z d, TypeOk Try.prog 110 ⟨1, .base, [.undef]⟩ inf z d :=
  ⟨Try.t110, .nilFunc, _, by kernel_rfl, rfl, rfl, rfl, rfl, fun k hk => match k, hk with | 0, _ => z_undef rfl, Try.underlying110, rfl⟩
theorem ty111 : ∃ inf z d, TypeOk Try.prog 111 ⟨1, .base, [.undef]⟩ inf z d :=
  ⟨Try.t111, .nilFunc, _, by kernel_rfl, rfl, rfl, rfl, rfl, fun k hk => match k, hk with | 0, _ => z_undef rfl, Try.underlying111, rfl⟩
theorem ty112 : ∃ inf z d, TypeOk Try.prog 112 ⟨1, .sl 113, [.nils 1]⟩ inf z d :=
  ⟨Try.t112, .slice none 0 0, _, by kernel_rfl, rfl, rfl, rfl, rfl, fun k hk => match k, hk with | 0, _ => z_nils (by decide), Try.underlying112, ⟨rfl, Try.t113, by kernel_rfl, by decide⟩⟩
theorem ty113 : ∃ inf z d, TypeOk Try.prog 113 ⟨1, .sl 4, [.nils 1]⟩ inf z d :=
  ⟨Try.t113, .slice none 0 0, _, by kernel_rfl, rfl, rfl, rfl, rfl, fun k hk => match k, hk with | 0, _ => z_nils (by decide), Try.underlying113, ⟨rfl, Try.t4, by kernel_rfl, by decide⟩⟩
theorem ty114 : ∃ inf z d, TypeOk Try.prog 114 ⟨1, .base, [.undef]⟩ inf z d :=
  ⟨Try.t114, .nilFunc, _, by kernel_rfl, rfl, rfl, rfl, rfl, fun k hk => match k, hk with | 0, _ => z_undef rfl, Try.underlying114, rfl⟩
theorem ty115 : ∃ inf z d, TypeOk Try.prog 115 ⟨1, .base, [.undef]⟩ inf z d :=
  ⟨Try.t115, .nilFunc, _, by kernel_rfl, rfl, rfl, rfl, rfl, fun k hk => match k, hk with | 0, _ => z_undef rfl, Try.underlying115, rfl⟩
theorem ty116 : ∃ inf z d, TypeOk Try.prog 116 ⟨3, .st [(0, 43), (1, 3), (2, 2)], [.nils 1, .g (.int .i64 0), .g (.int .i64 0)]⟩ inf z d :=
  ⟨Try.t116, .agg #[.slice none 0 0, .int .i64 0, .int .i64 0], _, by kernel_rfl, rfl, rfl, rfl, rfl, fun k hk => match k, hk with | 0, _ => z_nils (by decide) | 1, _ => z_int _ | 2, _ => z_int _, Try.underlying116, ⟨_, rfl, rfl⟩⟩
theorem ty117 : ∃ inf z d, TypeOk Try.prog 117 ⟨3, .st [(0, 43), (1, 3), (2, 2)], [.nils 1, .g (.int .i64 0), .g (.int .i64 0)]⟩ inf z d :=
  ⟨Try.t117, .agg #[.slice none 0 0, .int .i64 0, .int .i64 0], _, by kernel_rfl, rfl, rfl, rfl, rfl, fun k hk => match k, hk with | 0, _ => z_nils (by decide) | 1, _ => z_int _ | 2, _ => z_int _, Try.underlying117, ⟨_, rfl, rfl⟩⟩
theorem ty118 : ∃ inf z d, TypeOk Try.prog 118 ⟨1, .base, [.undef]⟩ inf z d :=
  ⟨Try.t118, .nilFunc, _, by kernel_rfl, rfl, rfl, rfl, rfl, fun k hk => match k, hk with | 0, _ => z_undef rfl, Try.underlying118, rfl⟩
theorem ty119 : ∃ inf z d, TypeOk Try.prog 119 ⟨1, .base, [.undef]⟩ inf z d :=
  ⟨Try.t119, .nilFunc, _, by kernel_rfl, rfl, rfl, rfl, rfl, fun k hk => match k, hk with | 0, _ => z_undef rfl, Try.underlying119, rfl⟩
theorem ty120 : ∃ inf z d, TypeOk Try.prog 120 ⟨1, .base, [.undef]⟩ inf z d :=
  ⟨Try.t120, .nilFunc, _, by kernel_rfl, rfl, rfl, rfl, rfl, fun k hk => match k, hk with | 0, _ => z_undef rfl, Try.underlying120, rfl⟩
theorem ty121 : ∃ inf z d, TypeOk Try.prog 121 ⟨1, .base, [.undef]⟩ inf z d :=
  ⟨Try.t121, .nilFunc, _, by kernel_rfl, rfl, rfl, rfl, rfl, fun k hk => match k, hk with | 0, _ => z_undef rfl, Try.underlying121, rfl⟩
theorem ty122 : ∃ inf z d, TypeOk Try.prog 122 ⟨1, .base, [.undef]⟩ inf z d :=
  ⟨Try.t122, .nilFunc, _, by kernel_rfl, rfl, rfl, rfl, rfl, fun k hk => match k, hk with | 0, _ => z_undef rfl, Try.underlying122, rfl⟩
theorem ty123 : ∃ inf z d, TypeOk Try.prog 123 ⟨1, .base, [.undef]⟩ inf z d :=
  ⟨Try.t123, .nilFunc, _, by kernel_rfl, rfl, rfl, rfl, rfl, fun k hk => match k, hk with | 0, _ => z_undef rfl, Try.underlying123, rfl⟩
theorem ty124 : ∃ inf z d, TypeOk Try.prog 124 ⟨1, .base, [.undef]⟩ inf z d :=
  ⟨Try.t124, .nilFunc, _, by kernel_rfl, rfl, rfl, rfl, rfl, fun k hk => match k, hk with | 0, _ => z_undef rfl, Try.underlying124, rfl⟩
theorem ty125 : ∃ inf z d, TypeOk Try.prog 125 ⟨1, .base, [.undef]⟩ inf z d :=
  ⟨Try.t125, .nilFunc, _, by kernel_rfl, rfl, rfl, rfl, rfl, fun k hk => match k, hk with | 0, _ => z_undef rfl, Try.underlying125, rfl⟩
theorem ty126 : ∃ inf z d, TypeOk Try.prog 126 ⟨1, .base, [.undef]⟩ inf z d :=
  ⟨Try.t126, .nilFunc, _, by kernel_rfl, rfl, rfl, rfl, rfl, fun k hk => match k, hk with | 0, _ => z_undef rfl, Try.underlying126, rfl⟩
theorem ty127 : ∃ inf z d, TypeOk Try.prog 127 ⟨1, .base, [.undef]⟩ inf z d :=
  ⟨Try.t127, .nilFunc, _, by kernel_rfl, rfl, rfl, rfl, rfl, fun k hk => match k, hk with | 0, _ => z_undef rfl, Try.underlying127, rfl⟩
theorem ty129 : ∃ inf z d, TypeOk Try.prog 129 ⟨1, .base, [.undef]⟩ inf z d :=
  ⟨Try.t129, .nilFunc, _, by kernel_rfl, rfl, rfl, rfl, rfl, fun k hk => match k, hk with | 0, _ => z_undef rfl, Try.underlying129, rfl⟩
theorem ty130 : ∃ inf z d, TypeOk Try.prog 130 ⟨1, .sl 140, [.nils 3]⟩ inf z d :=
  ⟨Try.t130, .slice none 0 0, _, by kernel_rfl, rfl, rfl, rfl, rfl, fun k hk => match k, hk with | 0, _ => z_nils (by decide), Try.underlying130, ⟨rfl, Try.t140, by kernel_rfl, by decide⟩⟩
theorem ty131 : ∃ inf z d, TypeOk Try.prog 131 ⟨1, .base, [.undef]⟩ inf z d :=
  ⟨Try.t131, .nilFunc, _, by kernel_rfl, rfl, rfl, rfl, rfl, fun k hk => match k, hk with | 0, _ => z_undef rfl, Try.underlying131, rfl⟩
theorem ty132 : ∃ inf z d, TypeOk Try.prog 132 ⟨1, .base, [.undef]⟩ inf z d :=
  ⟨Try.t132, .nilFunc, _, by kernel_rfl, rfl, rfl, rfl, rfl, fun k hk => match k, hk with | 0, _ => z_undef rfl, Try.underlying132, rfl⟩
theorem ty133 : ∃ inf z d, TypeOk Try.prog 133 ⟨1, .base, [.undef]⟩ inf z d :=
  ⟨Try.t133, .nilFunc, _, by kernel_rfl, rfl, rfl, rfl, rfl, fun k hk => match k, hk with | 0, _ => z_undef rfl, Try.underlying133, rfl⟩
theorem ty134 : ∃ inf z d, TypeOk Try.prog 134 ⟨1, .base, [.undef]⟩ inf z d :=
  ⟨Try.t134, .nilFunc, _, by kernel_rfl, rfl, rfl, rfl, rfl, fun k hk => match k, hk with | 0, _ => z_undef rfl, Try.underlying134, rfl⟩
theorem ty135 : ∃ inf z d, TypeOk Try.prog 135 ⟨1, .base, [.undef]⟩ inf z d :=
  ⟨Try.t135, .nilFunc, _, by kernel_rfl, rfl, rfl, rfl, rfl, fun k hk => match k, hk with | 0, _ => z_undef rfl, Try.underlying135, rfl⟩
theorem ty136 : ∃ inf z d, TypeOk Try.prog 136 ⟨1, .base, [.undef]⟩ inf z d :=
  ⟨Try.t136, .nilFunc, _, by kernel_rfl, rfl, rfl, rfl, rfl, fun k hk => match k, hk with | 0, _ => z_undef rfl, Try.underlying136, rfl⟩
theorem ty137 : ∃ inf z d, TypeOk Try.prog 137 ⟨1, .base, [.undef]⟩ inf z d :=
  ⟨Try.t137, .nilFunc, _, by kernel_rfl, rfl, rfl, rfl, rfl, fun k hk => match k, hk with | 0, _ => z_undef rfl, Try.underlying137, rfl⟩
theorem ty138 : ∃ inf z d, TypeOk Try.prog 138 ⟨1, .base, [.undef]⟩ inf z d :=
  ⟨Try.t138, .nilFunc, _, by kernel_rfl, rfl, rfl, rfl, rfl, fun k hk => match k, hk with | 0, _ => z_undef rfl, Try.underlying138, rfl⟩
theorem ty139 : ∃ inf z d, TypeOk Try.prog 139 ⟨3, .st [(0, 2), (1, 29), (2, 29)], [.g (.int .i64 0), .nils 1, .nils 1]⟩ inf z d :=
  ⟨Try.t139, .agg #[.int .i64 0, .slice none 0 0, .slice none 0 0], _, by kernel_rfl, rfl, rfl, rfl, rfl, fun k hk => match k, hk with | 0, _ => z_int _ | 1, _ => z_nils (by decide) | 2, _ => z_nils (by decide), Try.underlying139, ⟨_, rfl, rfl⟩⟩
theorem ty140 : ∃ inf z d, TypeOk Try.prog 140 ⟨3, .st [(0, 2), (1, 29), (2, 29)], [.g (.int .i64 0), .nils 1, .nils 1]⟩ inf z d :=
  ⟨Try.t140, .agg #[.int .i64 0, .slice none 0 0, .slice none 0 0], _, by kernel_rfl, rfl, rfl, rfl, rfl, fun k hk => match k, hk with | 0, _ => z_int _ | 1, _ => z_nils (by decide) | 2, _ => z_nils (by decide), Try.underlying140, ⟨_, rfl, rfl⟩⟩
theorem ty141 : ∃ inf z d, TypeOk Try.prog 141 ⟨1, .base, [.undef]⟩ inf z d :=
  ⟨Try.t141, .nilFunc, _, by kernel_rfl, rfl, rfl, rfl, rfl, fun k hk => match k, hk with | 0, _ => z_undef rfl, Try.underlying141, rfl⟩
theorem ty142 : ∃ inf z d, TypeOk Try.prog 142 ⟨1, .base, [.undef]⟩ inf z d :=
  ⟨Try.t142, .nilFunc, _, by kernel_rfl, rfl, rfl, rfl, rfl, fun k hk => match k, hk with | 0, _ => z_undef rfl, Try.underlying142, rfl⟩
theorem ty143 : ∃ inf z d, TypeOk Try.prog 143 ⟨1, .int .i64, [.g (.int .i64 0)]⟩ inf z d :=
  ⟨Try.t143, .int .i64 0, _, by kernel_rfl, rfl, rfl, rfl, rfl, fun k hk => match k, hk with | 0, _ => z_int _, Try.underlying143, rfl⟩
theorem ty145 : ∃ inf z d, TypeOk Try.prog 145 ⟨1, .base, [.undef]⟩ inf z d :=
  ⟨Try.t145, .nilFunc, _, by kernel_rfl, rfl, rfl, rfl, rfl, fun k hk => match k, hk with | 0, _ => z_undef rfl, Try.underlying145, rfl⟩
theorem ty146 : ∃ inf z d, TypeOk Try.prog 146 ⟨1, .base, [.undef]⟩ inf z d :=
  ⟨Try.t146, .nilFunc, _, by kernel_rfl, rfl, rfl, rfl, rfl, fun k hk => match k, hk with | 0, _ => z_undef rfl, Try.underlying146, rfl⟩
theorem ty147 : ∃ inf z d, TypeOk Try.prog 147 ⟨1, .base, [.undef]⟩ inf z d :=
  ⟨Try.t147, .nilFunc, _, by kernel_rfl, rfl, rfl, rfl, rfl, fun k hk => match k, hk with | 0, _ => z_undef rfl, Try.underlying147, rfl⟩
theorem ty148 : ∃ inf z d, TypeOk Try.prog 148 ⟨1, .base, [.undef]⟩ inf z d :=
  ⟨Try.t148, .nilFunc, _, by kernel_rfl, rfl, rfl, rfl, rfl, fun k hk => match k, hk with | 0, _ => z_undef rfl, Try.underlying148, rfl⟩
theorem ty150 : ∃ inf z d, TypeOk Try.prog 150 ⟨1, .base, [.undef]⟩ inf z d :=
  ⟨Try.t150, .nilFunc, _, by kernel_rfl, rfl, rfl, rfl, rfl, fun k hk => match k, hk with | 0, _ => z_undef rfl, Try.underlying150, rfl⟩
theorem ty151 : ∃ inf z d, TypeOk Try.prog 151 ⟨1, .base, [.undef]⟩ inf z d :=
  ⟨Try.t151, .nilFunc, _, by kernel_rfl, rfl, rfl, rfl, rfl, fun k hk => match k, hk with | 0, _ => z_undef rfl, Try.underlying151, rfl⟩
theorem ty152 : ∃ inf z d, TypeOk Try.prog 152 ⟨1, .int .u32, [.g (.int .u32 0)]⟩ inf z d :=
  ⟨Try.t152, .int .u32 0, _, by kernel_rfl, rfl, rfl, rfl, rfl, fun k hk => match k, hk with | 0, _ => z_int _, Try.underlying152, rfl⟩
theorem ty153 : ∃ inf z d, TypeOk Try.prog 153 ⟨1, .base, [.undef]⟩ inf z d :=
  ⟨Try.t153, .nilFunc, _, by kernel_rfl, rfl, rfl, rfl, rfl, fun k hk => match k, hk with | 0, _ => z_undef rfl, Try.underlying153, rfl⟩
theorem ty154 : ∃ inf z d, TypeOk Try.prog 154 ⟨1, .base, [.undef]⟩ inf z d :=
  ⟨Try.t154, .nilFunc, _, by kernel_rfl, rfl, rfl, rfl, rfl, fun k hk => match k, hk with | 0, _ => z_undef rfl, Try.underlying154, rfl⟩
theorem ty155 : ∃ inf z d, TypeOk Try.prog 155 ⟨1, .base, [.undef]⟩ inf z d :=
  ⟨Try.t155, .nilFunc, _, by kernel_rfl, rfl, rfl, rfl, rfl, fun k hk => match k, hk with | 0, _ => z_undef rfl, Try.underlying155, rfl⟩
theorem ty156 : ∃ inf z d, TypeOk Try.prog 156 ⟨1, .base, [.undef]⟩ inf z d :=
  ⟨Try.t156, .nilFunc, _, by kernel_rfl, rfl, rfl, rfl, rfl, fun k hk => match k, hk with | 0, _ => z_undef rfl, Try.underlying156, rfl⟩
theorem ty157 : ∃ inf z d, TypeOk Try.prog 157 ⟨1, .base, [.undef]⟩ inf z d :=
  ⟨Try.t157, .nilFunc, _, by kernel_rfl, rfl, rfl, rfl, rfl, fun k hk => match k, hk with | 0, _ => z_undef rfl, Try.underlying157, rfl⟩
theorem ty158 : ∃ inf z d, TypeOk Try.prog 158 ⟨1, .int .u64, [.g (.int .u64 0)]⟩ inf z d :=
  ⟨Try.t158, .int .u64 0, _, by kernel_rfl, rfl, rfl, rfl, rfl, fun k hk => match k, hk with | 0, _ => z_int _, Try.underlying158, rfl⟩
theorem ty159 : ∃ inf z d, TypeOk Try.prog 159 ⟨1, .base, [.undef]⟩ inf z d :=
  ⟨Try.t159, .nilFunc, _, by kernel_rfl, rfl, rfl, rfl, rfl, fun k hk => match k, hk with | 0, _ => z_undef rfl, Try.underlying159, rfl⟩
theorem ty160 : ∃ inf z d, TypeOk Try.prog 160 ⟨1, .base, [.undef]⟩ inf z d :=
  ⟨Try.t160, .nilFunc, _, by kernel_rfl, rfl, rfl, rfl, rfl, fun k hk => match k, hk with | 0, _ => z_undef rfl, Try.underlying160, rfl⟩
theorem ty161 : ∃ inf z d, TypeOk Try.prog 161 ⟨1, .base, [.undef]⟩ inf z d :=
  ⟨Try.t161, .nilFunc, _, by kernel_rfl, rfl, rfl, rfl, rfl, fun k hk => match k, hk with | 0, _ => z_undef rfl, Try.underlying161, rfl⟩
theorem ty162 : ∃ inf z d, TypeOk Try.prog 162 ⟨1, .base, [.g .nilp]⟩ inf z d :=
  ⟨Try.t162, .pointer none, _, by kernel_rfl, rfl, rfl, rfl, rfl, fun k hk => match k, hk with | 0, _ => z_nilp, Try.underlying162, rfl⟩
theorem ty163 : ∃ inf z d, TypeOk Try.prog 163 ⟨1, .base, [.undef]⟩ inf z d :=
  ⟨Try.t163, .nilFunc, _, by kernel_rfl, rfl, rfl, rfl, rfl, fun k hk => match k, hk with | 0, _ => z_undef rfl, Try.underlying163, rfl⟩
theorem ty164 : ∃ inf z d, TypeOk Try.prog 164 ⟨1, .base, [.undef]⟩ inf z d :=
  ⟨Try.t164, .nilFunc, _, by kernel_rfl, rfl, rfl, rfl, rfl, fun k hk => match k, hk with | 0, _ => z_undef rfl, Try.underlying164, rfl⟩
theorem ty165 : ∃ inf z d, TypeOk Try.prog 165 ⟨1, .base, [.undef]⟩ inf z d :=
  ⟨Try.t165, .nilFunc, _, by kernel_rfl, rfl, rfl, rfl, rfl, fun k hk => match k, hk with | 0, _ => z_undef rfl, Try.underlying165, rfl⟩
theorem ty166 : ∃ inf z d, TypeOk Try.prog 166 ⟨1, .base, [.g .nilp]⟩ inf z d :=
  ⟨Try.t166, .pointer none, _, by kernel_rfl, rfl, rfl, rfl, rfl, fun k hk => match k, hk with | 0, _ => z_nilp, Try.underlying166, rfl⟩
theorem ty168 : ∃ inf z d, TypeOk Try.prog 168 ⟨1, .base, [.undef]⟩ inf z d :=
  ⟨Try.t168, .nilFunc, _, by kernel_rfl, rfl, rfl, rfl, rfl, fun k hk => match k, hk with | 0, _ => z_undef rfl, Try.underlying168, rfl⟩
theorem ty169 : ∃ inf z d, TypeOk Try.prog 169 ⟨1, .base, [.undef]⟩ inf z d :=
  ⟨Try.t169, .nilFunc, _, by kernel_rfl, rfl, rfl, rfl, rfl, fun k hk => match k, hk with | 0, _ => z_undef rfl, Try.underlying169, rfl⟩
theorem ty170 : ∃ inf z d, TypeOk Try.prog 170 ⟨4, .st [(0, 17), (1, 17), (2, 17), (3, 9)], [.g .nilp, .g .nilp, .g .nilp, .g (.str ⟨#[]⟩)]⟩ inf z d :=
  ⟨Try.t170, .agg #[.pointer none, .pointer none, .pointer none, .string ⟨#[]⟩], _, by kernel_rfl, rfl, rfl, rfl, rfl, fun k hk => match k, hk with | 0, _ => z_nilp | 1, _ => z_nilp | 2, _ => z_nilp | 3, _ => z_str, Try.underlying170, ⟨_, rfl, rfl⟩⟩
theorem ty171 : ∃ inf z d, TypeOk Try.prog 171 ⟨4, .st [(0, 17), (1, 17), (2, 17), (3, 9)], [.g .nilp, .g .nilp, .g .nilp, .g (.str ⟨#[]⟩)]⟩ inf z d :=
  ⟨Try.t171, .agg #[.pointer none, .pointer none, .pointer none, .string ⟨#[]⟩], _, by kernel_rfl, rfl, rfl, rfl, rfl, fun k hk => match k, hk with | 0, _ => z_nilp | 1, _ => z_nilp | 2, _ => z_nilp | 3, _ => z_str, Try.underlying171, ⟨_, rfl, rfl⟩⟩
theorem ty175 : ∃ inf z d, TypeOk Try.prog 175 ⟨1, .base, [.undef]⟩ inf z d :=
  ⟨Try.t175, .nilFunc, _, by kernel_rfl, rfl, rfl, rfl, rfl, fun k hk => match k, hk with | 0, _ => z_undef rfl, Try.underlying175, rfl⟩
theorem ty176 : ∃ inf z d, TypeOk Try.prog 176 ⟨1, .int .u8, [.g (.int .u8 0)]⟩ inf z d :=
  ⟨Try.t176, .int .u8 0, _, by kernel_rfl, rfl, rfl, rfl, rfl, fun k hk => match k, hk with | 0, _ => z_int _, Try.underlying176, rfl⟩
theorem ty177 : ∃ inf z d, TypeOk Try.prog 177 ⟨1, .int .u8, [.g (.int .u8 0)]⟩ inf z d :=
  ⟨Try.t177, .int .u8 0, _, by kernel_rfl, rfl, rfl, rfl, rfl, fun k hk => match k, hk with | 0, _ => z_int _, Try.underlying177, rfl⟩
theorem ty178 : ∃ inf z d, TypeOk Try.prog 178 ⟨1, .base, [.undef]⟩ inf z d :=
  ⟨Try.t178, .nilFunc, _, by kernel_rfl, rfl, rfl, rfl, rfl, fun k hk => match k, hk with | 0, _ => z_undef rfl, Try.underlying178, rfl⟩
theorem ty179 : ∃ inf z d, TypeOk Try.prog 179 ⟨1, .base, [.g .nilp]⟩ inf z d :=
  ⟨Try.t179, .pointer none, _, by kernel_rfl, rfl, rfl, rfl, rfl, fun k hk => match k, hk with | 0, _ => z_nilp, Try.underlying179, rfl⟩
theorem ty180 : ∃ inf z d, TypeOk Try.prog 180 ⟨1, .int .i32, [.g (.int .i32 0)]⟩ inf z d :=
  ⟨Try.t180, .int .i32 0, _, by kernel_rfl, rfl, rfl, rfl, rfl, fun k hk => match k, hk with | 0, _ => z_int _, Try.underlying180, rfl⟩
theorem ty181 : ∃ inf z d, TypeOk Try.prog 181 ⟨1, .int .i32, [.g (.int .i32 0)]⟩ inf z d :=
  ⟨Try.t181, .int .i32 0, _, by kernel_rfl, rfl, rfl, rfl, rfl, fun k hk => match k, hk with | 0, _ => z_int _, Try.underlying181, rfl⟩
theorem ty182 : ∃ inf z d, TypeOk Try.prog 182 ⟨11, .st [(0, 12), (1, 12), (2, 152), (3, 176), (4, 5), (5, 5), (6, 177), (7, 178), (8, 179), (9, 180), (10, 181)], [.g (.int .u64 0), .g (.int .u64 0), .g (.int .u32 0), .g (.int .u8 0), .g (.int .u8 0), .g (.int .u8 0), .g (.int .u8 0), .undef, .g .nilp, .g (.int .i32 0), .g (.int .i32 0)]⟩ inf z d :=
  ⟨Try.t182, .agg #[.int .u64 0, .int .u64 0, .int .u32 0, .int .u8 0, .int .u8 0, .int .u8 0, .int .u8 0, .nilFunc, .pointer none, .int .i32 0, .int .i32 0], _, by kernel_rfl, rfl, rfl, rfl, rfl, fun k hk => match k, hk with | 0, _ => z_int _ | 1, _ => z_int _ | 2, _ => z_int _ | 3, _ => z_int _ | 4, _ => z_int _ | 5, _ => z_int _ | 6, _ => z_int _ | 7, _ => z_undef rfl | 8, _ => z_nilp | 9, _ => z_int _ | 10, _ => z_int _, Try.underlying182, ⟨_, rfl, rfl⟩⟩
theorem ty183 : ∃ inf z d, TypeOk Try.prog 183 ⟨11, .st [(0, 12), (1, 12), (2, 152), (3, 176), (4, 5), (5, 5), (6, 177), (7, 178), (8, 179), (9, 180), (10, 181)], [.g (.int .u64 0), .g (.int .u64 0), .g (.int .u32 0), .g (.int .u8 0), .g (.int .u8 0), .g (.int .u8 0), .g (.int .u8 0), .undef, .g .nilp, .g (.int .i32 0), .g (.int .i32 0)]⟩ inf z d :=
  ⟨Try.t183, .agg #[.int .u64 0, .int .u64 0, .int .u32 0, .int .u8 0, .int .u8 0, .int .u8 0, .int .u8 0, .nilFunc, .pointer none, .int .i32 0, .int .i32 0], _, by kernel_rfl, rfl, rfl, rfl, rfl, fun k hk => match k, hk with | 0, _ => z_int _ | 1, _ => z_int _ | 2, _ => z_int _ | 3, _ => z_int _ | 4, _ => z_int _ | 5, _ => z_int _ | 6, _ => z_int _ | 7, _ => z_undef rfl | 8, _ => z_nilp | 9, _ => z_int _ | 10, _ => z_int _, Try.underlying183, ⟨_, rfl, rfl⟩⟩
def GoodT (t : TypeId) (x : Option TI) : Prop := ∀ i, x = some i → ∃ inf z d, TypeOk Try.prog t i inf z d
theorem tb_leaf {t k : TypeId} {x : TI} (h : ∃ inf z d, TypeOk Try.prog k x inf z d) : GoodT t (bif Nat.beq t k then some x else none) := fun i hi => by
  cases e : Nat.beq t k
  · rw [e] at hi; cases hi
  · rw [e] at hi; cases hi
    have := Nat.eq_of_beq_eq_true e
    subst this; exact h
theorem tb_split {t : TypeId} {c : Bool} {a b : Option TI} (h1 : GoodT t a) (h2 : GoodT t b) : GoodT t (bif c then a else b) := by cases c; exact h2; exact h1
def tab (t : TypeId) : Option TI := (bif Nat.blt t 89 then (bif Nat.blt t 45 then (bif Nat.blt t 23 then (bif Nat.blt t 11 then (bif Nat.blt t 6 then (bif Nat.blt t 3 then (bif Nat.blt t 2 then (bif Nat.beq t 1 then some ⟨1, .base, [.undef]⟩ else none) else (bif Nat.beq t 2 then some ⟨1, .int .i64, [.g (.int .i64 0)]⟩ else none)) else (bif Nat.blt t 4 then (bif Nat.beq t 3 then some ⟨1, .int .i64, [.g (.int .i64 0)]⟩ else none) else (bif Nat.blt t 5 then (bif Nat.beq t 4 then some ⟨1, .bool, [.g (.bool false)]⟩ else none) else (bif Nat.beq t 5 then some ⟨1, .int .u8, [.g (.int .u8 0)]⟩ else none)))) else (bif Nat.blt t 8 then (bif Nat.blt t 7 then (bif Nat.beq t 6 then some ⟨1, .int .u8, [.g (.int .u8 0)]⟩ else none) else (bif Nat.beq t 7 then some ⟨4, .st [(0, 2), (1, 3), (2, 4), (3, 6)], [.g (.int .i64 0), .g (.int .i64 0), .g (.bool false), .g (.int .u8 0)]⟩ else none)) else (bif Nat.blt t 9 then (bif Nat.beq t 8 then some ⟨4, .st [(0, 2), (1, 3), (2, 4), (3, 6)], [.g (.int .i64 0), .g (.int .i64 0), .g (.bool false), .g (.int .u8 0)]⟩ else none) else (bif Nat.blt t 10 then (bif Nat.beq t 9 then some ⟨1, .str, [.g (.str ⟨#[]⟩)]⟩ else none) else (bif Nat.beq t 10 then some ⟨1, .str, [.g (.str ⟨#[]⟩)]⟩ else none))))) else (bif Nat.blt t 16 then (bif Nat.blt t 13 then (bif Nat.blt t 12 then (bif Nat.beq t 11 then some ⟨1, .str, [.g (.str ⟨#[]⟩)]⟩ else none) else (bif Nat.beq t 12 then some ⟨1, .int .u64, [.g (.int .u64 0)]⟩ else none)) else (bif Nat.blt t 14 then (bif Nat.beq t 13 then some ⟨2, .st [(0, 9), (1, 12)], [.g (.str ⟨#[]⟩), .g (.int .u64 0)]⟩ else none) else (bif Nat.blt t 15 then (bif Nat.beq t 14 then some ⟨2, .st [(0, 9), (1, 12)], [.g (.str ⟨#[]⟩), .g (.int .u64 0)]⟩ else none) else (bif Nat.beq t 15 then some ⟨1, .base, [.g .nilp]⟩ else none)))) else (bif Nat.blt t 19 then (bif Nat.blt t 17 then (bif Nat.beq t 16 then some ⟨1, .base, [.g .nilp]⟩ else none) else (bif Nat.blt t 18 then (bif Nat.beq t 17 then some ⟨1, .base, [.g .nilp]⟩ else none) else (bif Nat.beq t 18 then some ⟨1, .st [(0, 17)], [.g .nilp]⟩ else none))) else (bif Nat.blt t 21 then (bif Nat.beq t 19 then some ⟨1, .st [(0, 17)], [.g .nilp]⟩ else none) else (bif Nat.blt t 22 then (bif Nat.beq t 21 then some ⟨1, .int .i32, [.g (.int .i32 0)]⟩ else none) else (bif Nat.beq t 22 then some ⟨2, .st [(0, 2), (1, 2)], [.g (.int .i64 0), .g (.int .i64 0)]⟩ else none)))))) else (bif Nat.blt t 34 then (bif Nat.blt t 28 then (bif Nat.blt t 25 then (bif Nat.blt t 24 then (bif Nat.beq t 23 then some ⟨2, .st [(0, 2), (1, 2)], [.g (.int .i64 0), .g (.int .i64 0)]⟩ else none) else (bif Nat.beq t 24 then some ⟨1, .sl 29, [.nils 1]⟩ else none)) else (bif Nat.blt t 26 then (bif Nat.beq t 25 then some ⟨1, .sl 107, [.nils 2]⟩ else none) else (bif Nat.blt t 27 then (bif Nat.beq t 26 then some ⟨2, .st [(0, 24), (1, 25)], [.nils 1, .nils 2]⟩ else none) else (bif Nat.beq t 27 then some ⟨2, .st [(0, 24), (1, 25)], [.nils 1, .nils 2]⟩ else none)))) else (bif Nat.blt t 31 then (bif Nat.blt t 29 then (bif Nat.beq t 28 then some ⟨1, .base, [.undef]⟩ else none) else (bif Nat.blt t 30 then (bif Nat.beq t 29 then some ⟨1, .sl 2, [.nils 1]⟩ else none) else (bif Nat.beq t 30 then some ⟨1, .base, [.undef]⟩ else none))) else (bif Nat.blt t 32 then (bif Nat.beq t 31 then some ⟨2, .st [(0, 2), (1, 2)], [.g (.int .i64 0), .g (.int .i64 0)]⟩ else none) else (bif Nat.blt t 33 then (bif Nat.beq t 32 then some ⟨1, .base, [.undef]⟩ else none) else (bif Nat.beq t 33 then some ⟨1, .sl 79, [.nils 2]⟩ else none))))) else (bif Nat.blt t 39 then (bif Nat.blt t 36 then (bif Nat.blt t 35 then (bif Nat.beq t 34 then some ⟨2, .st [(0, 24), (1, 33)], [.nils 1, .nils 2]⟩ else none) else (bif Nat.beq t 35 then some ⟨2, .st [(0, 24), (1, 33)], [.nils 1, .nils 2]⟩ else none)) else (bif Nat.blt t 37 then (bif Nat.beq t 36 then some ⟨1, .base, [.undef]⟩ else none) else (bif Nat.blt t 38 then (bif Nat.beq t 37 then some ⟨1, .base, [.undef]⟩ else none) else (bif Nat.beq t 38 then some ⟨1, .base, [.undef]⟩ else none)))) else (bif Nat.blt t 42 then (bif Nat.blt t 40 then (bif Nat.beq t 39 then some ⟨1, .base, [.undef]⟩ else none) else (bif Nat.blt t 41 then (bif Nat.beq t 40 then some ⟨1, .base, [.undef]⟩ else none) else (bif Nat.beq t 41 then some ⟨1, .base, [.undef]⟩ else none))) else (bif Nat.blt t 43 then (bif Nat.beq t 42 then some ⟨1, .base, [.undef]⟩ else none) else (bif Nat.blt t 44 then (bif Nat.beq t 43 then some ⟨1, .sl 5, [.nils 1]⟩ else none) else (bif Nat.beq t 44 then some ⟨1, .base, [.undef]⟩ else none))))))) else (bif Nat.blt t 67 then (bif Nat.blt t 56 then (bif Nat.blt t 51 then (bif Nat.blt t 48 then (bif Nat.blt t 46 then (bif Nat.beq t 45 then some ⟨2, .st [(0, 29), (1, 29)], [.nils 1, .nils 1]⟩ else none) else (bif Nat.beq t 46 then some ⟨2, .st [(0, 29), (1, 29)], [.nils 1, .nils 1]⟩ else none)) else (bif Nat.blt t 49 then (bif Nat.beq t 48 then some ⟨1, .base, [.undef]⟩ else none) else (bif Nat.blt t 50 then (bif Nat.beq t 49 then some ⟨1, .base, [.undef]⟩ else none) else (bif Nat.beq t 50 then some ⟨1, .base, [.undef]⟩ else none)))) else (bif Nat.blt t 53 then (bif Nat.blt t 52 then (bif Nat.beq t 51 then some ⟨1, .base, [.undef]⟩ else none) else (bif Nat.beq t 52 then some ⟨1, .base, [.undef]⟩ else none)) else (bif Nat.blt t 54 then (bif Nat.beq t 53 then some ⟨1, .base, [.g .nilp]⟩ else none) else (bif Nat.blt t 55 then (bif Nat.beq t 54 then some ⟨1, .base, [.undef]⟩ else none) else (bif Nat.beq t 55 then some ⟨1, .int .u64, [.g (.int .u64 0)]⟩ else none))))) else (bif Nat.blt t 61 then (bif Nat.blt t 58 then (bif Nat.blt t 57 then (bif Nat.beq t 56 then some ⟨1, .base, [.undef]⟩ else none) else (bif Nat.beq t 57 then some ⟨2, .st [(0, 24), (1, 24)], [.nils 1, .nils 1]⟩ else none)) else (bif Nat.blt t 59 then (bif Nat.beq t 58 then some ⟨2, .st [(0, 24), (1, 24)], [.nils 1, .nils 1]⟩ else none) else (bif Nat.blt t 60 then (bif Nat.beq t 59 then some ⟨1, .base, [.undef]⟩ else none) else (bif Nat.beq t 60 then some ⟨1, .base, [.undef]⟩ else none)))) else (bif Nat.blt t 64 then (bif Nat.blt t 62 then (bif Nat.beq t 61 then some ⟨1, .base, [.undef]⟩ else none) else (bif Nat.blt t 63 then (bif Nat.beq t 62 then some ⟨1, .base, [.undef]⟩ else none) else (bif Nat.beq t 63 then some ⟨1, .base, [.undef]⟩ else none))) else (bif Nat.blt t 65 then (bif Nat.beq t 64 then some ⟨1, .base, [.undef]⟩ else none) else (bif Nat.blt t 66 then (bif Nat.beq t 65 then some ⟨1, .base, [.undef]⟩ else none) else (bif Nat.beq t 66 then some ⟨1, .base, [.undef]⟩ else none)))))) else (bif Nat.blt t 78 then (bif Nat.blt t 72 then (bif Nat.blt t 69 then (bif Nat.blt t 68 then (bif Nat.beq t 67 then some ⟨1, .base, [.undef]⟩ else none) else (bif Nat.beq t 68 then some ⟨1, .base, [.undef]⟩ else none)) else (bif Nat.blt t 70 then (bif Nat.beq t 69 then some ⟨1, .base, [.undef]⟩ else none) else (bif Nat.blt t 71 then (bif Nat.beq t 70 then some ⟨1, .base, [.undef]⟩ else none) else (bif Nat.beq t 71 then some ⟨1, .base, [.undef]⟩ else none)))) else (bif Nat.blt t 75 then (bif Nat.blt t 73 then (bif Nat.beq t 72 then some ⟨1, .base, [.undef]⟩ else none) else (bif Nat.blt t 74 then (bif Nat.beq t 73 then some ⟨1, .base, [.undef]⟩ else none) else (bif Nat.beq t 74 then some ⟨1, .base, [.undef]⟩ else none))) else (bif Nat.blt t 76 then (bif Nat.beq t 75 then some ⟨1, .base, [.undef]⟩ else none) else (bif Nat.blt t 77 then (bif Nat.beq t 76 then some ⟨1, .base, [.undef]⟩ else none) else (bif Nat.beq t 77 then some ⟨1, .base, [.undef]⟩ else none))))) else (bif Nat.blt t 83 then (bif Nat.blt t 80 then (bif Nat.blt t 79 then (bif Nat.beq t 78 then some ⟨2, .st [(0, 29), (1, 29)], [.nils 1, .nils 1]⟩ else none) else (bif Nat.beq t 79 then some ⟨2, .st [(0, 29), (1, 29)], [.nils 1, .nils 1]⟩ else none)) else (bif Nat.blt t 81 then (bif Nat.beq t 80 then some ⟨1, .base, [.undef]⟩ else none) else (bif Nat.blt t 82 then (bif Nat.beq t 81 then some ⟨1, .base, [.g .nilp]⟩ else none) else (bif Nat.beq t 82 then some ⟨1, .base, [.undef]⟩ else none)))) else (bif Nat.blt t 86 then (bif Nat.blt t 84 then (bif Nat.beq t 83 then some ⟨1, .base, [.undef]⟩ else none) else (bif Nat.blt t 85 then (bif Nat.beq t 84 then some ⟨1, .base, [.undef]⟩ else none) else (bif Nat.beq t 85 then some ⟨1, .base, [.undef]⟩ else none))) else (bif Nat.blt t 87 then (bif Nat.beq t 86 then some ⟨1, .base, [.undef]⟩ else none) else (bif Nat.blt t 88 then (bif Nat.beq t 87 then some ⟨1, .base, [.undef]⟩ else none) else (bif Nat.beq t 88 then some ⟨1, .base, [.undef]⟩ else none)))))))) else (bif Nat.blt t 134 then (bif Nat.blt t 111 then (bif Nat.blt t 99 then (bif Nat.blt t 94 then (bif Nat.blt t 91 then (bif Nat.blt t 90 then (bif Nat.beq t 89 then some ⟨1, .base, [.undef]⟩ else none) else (bif Nat.beq t 90 then some ⟨1, .base, [.undef]⟩ else none)) else (bif Nat.blt t 92 then (bif Nat.beq t 91 then some ⟨1, .base, [.undef]⟩ else none) else (bif Nat.blt t 93 then (bif Nat.beq t 92 then some ⟨1, .base, [.undef]⟩ else none) else (bif Nat.beq t 93 then some ⟨1, .base, [.undef]⟩ else none)))) else (bif Nat.blt t 96 then (bif Nat.blt t 95 then (bif Nat.beq t 94 then some ⟨1, .base, [.undef]⟩ else none) else (bif Nat.beq t 95 then some ⟨1, .base, [.undef]⟩ else none)) else (bif Nat.blt t 97 then (bif Nat.beq t 96 then some ⟨3, .st [(0, 43), (1, 3), (2, 55)], [.nils 1, .g (.int .i64 0), .g (.int .u64 0)]⟩ else none) else (bif Nat.blt t 98 then (bif Nat.beq t 97 then some ⟨3, .st [(0, 43), (1, 3), (2, 55)], [.nils 1, .g (.int .i64 0), .g (.int .u64 0)]⟩ else none) else (bif Nat.beq t 98 then some ⟨1, .int .u64, [.g (.int .u64 0)]⟩ else none))))) else (bif Nat.blt t 105 then (bif Nat.blt t 102 then (bif Nat.blt t 101 then (bif Nat.beq t 99 then some ⟨1, .base, [.undef]⟩ else none) else (bif Nat.beq t 101 then some ⟨1, .base, [.undef]⟩ else none)) else (bif Nat.blt t 103 then (bif Nat.beq t 102 then some ⟨1, .base, [.undef]⟩ else none) else (bif Nat.blt t 104 then (bif Nat.beq t 103 then some ⟨1, .base, [.undef]⟩ else none) else (bif Nat.beq t 104 then some ⟨1, .base, [.undef]⟩ else none)))) else (bif Nat.blt t 108 then (bif Nat.blt t 106 then (bif Nat.beq t 105 then some ⟨1, .base, [.undef]⟩ else none) else (bif Nat.blt t 107 then (bif Nat.beq t 106 then some ⟨1, .base, [.undef]⟩ else none) else (bif Nat.beq t 107 then some ⟨2, .st [(0, 29), (1, 29)], [.nils 1, .nils 1]⟩ else none))) else (bif Nat.blt t 109 then (bif Nat.beq t 108 then some ⟨1, .base, [.undef]⟩ else none) else (bif Nat.blt t 110 then (bif Nat.beq t 109 then some ⟨1, .base, [.undef]⟩ else none) else (bif Nat.beq t 110 then some ⟨1, .base, [.undef]⟩ else none)))))) else (bif Nat.blt t 122 then (bif Nat.blt t 116 then (bif Nat.blt t 113 then (bif Nat.blt t 112 then (bif Nat.beq t 111 then some ⟨1, .base, [.undef]⟩ else none) else (bif Nat.beq t 112 then some ⟨1, .sl 113, [.nils 1]⟩ else none)) else (bif Nat.blt t 114 then (bif Nat.beq t 113 then some ⟨1, .sl 4, [.nils 1]⟩ else none) else (bif Nat.blt t 115 then (bif Nat.beq t 114 then some ⟨1, .base, [.undef]⟩ else none) else (bif Nat.beq t 115 then some ⟨1, .base, [.undef]⟩ else none)))) else (bif Nat.blt t 119 then (bif Nat.blt t 117 then (bif Nat.beq t 116 then some ⟨3, .st [(0, 43), (1, 3), (2, 2)], [.nils 1, .g (.int .i64 0), .g (.int .i64 0)]⟩ else none) else (bif Nat.blt t 118 then (bif Nat.beq t 117 then some ⟨3, .st [(0, 43), (1, 3), (2, 2)], [.nils 1, .g (.int .i64 0), .g (.int .i64 0)]⟩ else none) else (bif Nat.beq t 118 then some ⟨1, .base, [.undef]⟩ else none))) else (bif Nat.blt t 120 then (bif Nat.beq t 119 then some ⟨1, .base, [.undef]⟩ else none) else (bif Nat.blt t 121 then (bif Nat.beq t 120 then some ⟨1, .base, [.undef]⟩ else none) else (bif Nat.beq t 121 then some ⟨1, .base, [.undef]⟩ else none))))) else (bif Nat.blt t 127 then (bif Nat.blt t 124 then (bif Nat.blt t 123 then (bif Nat.beq t 122 then some ⟨1, .base, [.undef]⟩ else none) else (bif Nat.beq t 123 then some ⟨1, .base, [.undef]⟩ else none)) else (bif Nat.blt t 125 then (bif Nat.beq t 124 then some ⟨1, .base, [.undef]⟩ else none) else (bif Nat.blt t 126 then (bif Nat.beq t 125 then some ⟨1, .base, [.undef]⟩ else none) else (bif Nat.beq t 126 then some ⟨1, .base, [.undef]⟩ else none)))) else (bif Nat.blt t 131 then (bif Nat.blt t 129 then (bif Nat.beq t 127 then some ⟨1, .base, [.undef]⟩ else none) else (bif Nat.blt t 130 then (bif Nat.beq t 129 then some ⟨1, .base, [.undef]⟩ else none) else (bif Nat.beq t 130 then some ⟨1, .sl 140, [.nils 3]⟩ else none))) else (bif Nat.blt t 132 then (bif Nat.beq t 131 then some ⟨1, .base, [.undef]⟩ else none) else (bif Nat.blt t 133 then (bif Nat.beq t 132 then some ⟨1, .base, [.undef]⟩ else none) else (bif Nat.beq t 133 then some ⟨1, .base, [.undef]⟩ else none))))))) else (bif Nat.blt t 158 then (bif Nat.blt t 146 then (bif Nat.blt t 139 then (bif Nat.blt t 136 then (bif Nat.blt t 135 then (bif Nat.beq t 134 then some ⟨1, .base, [.undef]⟩ else none) else (bif Nat.beq t 135 then some ⟨1, .base, [.undef]⟩ else none)) else (bif Nat.blt t 137 then (bif Nat.beq t 136 then some ⟨1, .base, [.undef]⟩ else none) else (bif Nat.blt t 138 then (bif Nat.beq t 137 then some ⟨1, .base, [.undef]⟩ else none) else (bif Nat.beq t 138 then some ⟨1, .base, [.undef]⟩ else none)))) else (bif Nat.blt t 142 then (bif Nat.blt t 140 then (bif Nat.beq t 139 then some ⟨3, .st [(0, 2), (1, 29), (2, 29)], [.g (.int .i64 0), .nils 1, .nils 1]⟩ else none) else (bif Nat.blt t 141 then (bif Nat.beq t 140 then some ⟨3, .st [(0, 2), (1, 29), (2, 29)], [.g (.int .i64 0), .nils 1, .nils 1]⟩ else none) else (bif Nat.beq t 141 then some ⟨1, .base, [.undef]⟩ else none))) else (bif Nat.blt t 143 then (bif Nat.beq t 142 then some ⟨1, .base, [.undef]⟩ else none) else (bif Nat.blt t 145 then (bif Nat.beq t 143 then some ⟨1, .int .i64, [.g (.int .i64 0)]⟩ else none) else (bif Nat.beq t 145 then some ⟨1, .base, [.undef]⟩ else none))))) else (bif Nat.blt t 152 then (bif Nat.blt t 148 then (bif Nat.blt t 147 then (bif Nat.beq t 146 then some ⟨1, .base, [.undef]⟩ else none) else (bif Nat.beq t 147 then some ⟨1, .base, [.undef]⟩ else none)) else (bif Nat.blt t 150 then (bif Nat.beq t 148 then some ⟨1, .base, [.undef]⟩ else none) else (bif Nat.blt t 151 then (bif Nat.beq t 150 then some ⟨1, .base, [.undef]⟩ else none) else (bif Nat.beq t 151 then some ⟨1, .base, [.undef]⟩ else none)))) else (bif Nat.blt t 155 then (bif Nat.blt t 153 then (bif Nat.beq t 152 then some ⟨1, .int .u32, [.g (.int .u32 0)]⟩ else none) else (bif Nat.blt t 154 then (bif Nat.beq t 153 then some ⟨1, .base, [.undef]⟩ else none) else (bif Nat.beq t 154 then some ⟨1, .base, [.undef]⟩ else none))) else (bif Nat.blt t 156 then (bif Nat.beq t 155 then some ⟨1, .base, [.undef]⟩ else none) else (bif Nat.blt t 157 then (bif Nat.beq t 156 then some ⟨1, .base, [.undef]⟩ else none) else (bif Nat.beq t 157 then some ⟨1, .base, [.undef]⟩ else none)))))) else (bif Nat.blt t 170 then (bif Nat.blt t 163 then (bif Nat.blt t 160 then (bif Nat.blt t 159 then (bif Nat.beq t 158 then some ⟨1, .int .u64, [.g (.int .u64 0)]⟩ else none) else (bif Nat.beq t 159 then some ⟨1, .base, [.undef]⟩ else none)) else (bif Nat.blt t 161 then (bif Nat.beq t 160 then some ⟨1, .base, [.undef]⟩ else none) else (bif Nat.blt t 162 then (bif Nat.beq t 161 then some ⟨1, .base, [.undef]⟩ else none) else (bif Nat.beq t 162 then some ⟨1, .base, [.g .nilp]⟩ else none)))) else (bif Nat.blt t 166 then (bif Nat.blt t 164 then (bif Nat.beq t 163 then some ⟨1, .base, [.undef]⟩ else none) else (bif Nat.blt t 165 then (bif Nat.beq t 164 then some ⟨1, .base, [.undef]⟩ else none) else (bif Nat.beq t 165 then some ⟨1, .base, [.undef]⟩ else none))) else (bif Nat.blt t 168 then (bif Nat.beq t 166 then some ⟨1, .base, [.g .nilp]⟩ else none) else (bif Nat.blt t 169 then (bif Nat.beq t 168 then some ⟨1, .base, [.undef]⟩ else none) else (bif Nat.beq t 169 then some ⟨1, .base, [.undef]⟩ else none))))) else (bif Nat.blt t 178 then (bif Nat.blt t 175 then (bif Nat.blt t 171 then (bif Nat.beq t 170 then some ⟨4, .st [(0, 17), (1, 17), (2, 17), (3, 9)], [.g .nilp, .g .nilp, .g .nilp, .g (.str ⟨#[]⟩)]⟩ else none) else (bif Nat.beq t 171 then some ⟨4, .st [(0, 17), (1, 17), (2, 17), (3, 9)], [.g .nilp, .g .nilp, .g .nilp, .g (.str ⟨#[]⟩)]⟩ else none)) else (bif Nat.blt t 176 then (bif Nat.beq t 175 then some ⟨1, .base, [.undef]⟩ else none) else (bif Nat.blt t 177 then (bif Nat.beq t 176 then some ⟨1, .int .u8, [.g (.int .u8 0)]⟩ else none) else (bif Nat.beq t 177 then some ⟨1, .int .u8, [.g (.int .u8 0)]⟩ else none)))) else (bif Nat.blt t 181 then (bif Nat.blt t 179 then (bif Nat.beq t 178 then some ⟨1, .base, [.undef]⟩ else none) else (bif Nat.blt t 180 then (bif Nat.beq t 179 then some ⟨1, .base, [.g .nilp]⟩ else none) else (bif Nat.beq t 180 then some ⟨1, .int .i32, [.g (.int .i32 0)]⟩ else none))) else (bif Nat.blt t 182 then (bif Nat.beq t 181 then some ⟨1, .int .i32, [.g (.int .i32 0)]⟩ else none) else (bif Nat.blt t 183 then (bif Nat.beq t 182 then some ⟨11, .st [(0, 12), (1, 12), (2, 152), (3, 176), (4, 5), (5, 5), (6, 177), (7, 178), (8, 179), (9, 180), (10, 181)], [.g (.int .u64 0), .g (.int .u64 0), .g (.int .u32 0), .g (.int .u8 0), .g (.int .u8 0), .g (.int .u8 0), .g (.int .u8 0), .undef, .g .nilp, .g (.int .i32 0), .g (.int .i32 0)]⟩ else none) else (bif Nat.beq t 183 then some ⟨11, .st [(0, 12), (1, 12), (2, 152), (3, 176), (4, 5), (5, 5), (6, 177), (7, 178), (8, 179), (9, 180), (10, 181)], [.g (.int .u64 0), .g (.int .u64 0), .g (.int .u32 0), .g (.int .u8 0), .g (.int .u8 0), .g (.int .u8 0), .g (.int .u8 0), .undef, .g .nilp, .g (.int .i32 0), .g (.int .i32 0)]⟩ else none)))))))))
theorem tab_ok : TabOk Try.prog tab := fun t i => by
  show tab t = some i → _
  have : GoodT t (tab t) := by
    unfold tab
    exact (tb_split (tb_split (tb_split (tb_split (tb_split (tb_split (tb_split (tb_leaf ty1) (tb_leaf ty2)) (tb_split (tb_leaf ty3) (tb_split (tb_leaf ty4) (tb_leaf ty5)))) (tb_split (tb_split (tb_leaf ty6) (tb_leaf ty7)) (tb_split (tb_leaf ty8) (tb_split (tb_leaf ty9) (tb_leaf ty10))))) (tb_split (tb_split (tb_split (tb_leaf ty11) (tb_leaf ty12)) (tb_split (tb_leaf ty13) (tb_split (tb_leaf ty14) (tb_leaf ty15)))) (tb_split (tb_split (tb_leaf ty16) (tb_split (tb_leaf ty17) (tb_leaf ty18))) (tb_split (tb_leaf ty19) (tb_split (tb_leaf ty21) (tb_leaf ty22)))))) (tb_split (tb_split (tb_split (tb_split (tb_leaf ty23) (tb_leaf ty24)) (tb_split (tb_leaf ty25) (tb_split (tb_leaf ty26) (tb_leaf ty27)))) (tb_split (tb_split (tb_leaf ty28) (tb_split (tb_leaf ty29) (tb_leaf ty30))) (tb_split (tb_leaf ty31) (tb_split (tb_leaf ty32) (tb_leaf ty33))))) (tb_split (tb_split (tb_split (tb_leaf ty34) (tb_leaf ty35)) (tb_split (tb_leaf ty36) (tb_split (tb_leaf ty37) (tb_leaf ty38)))) (tb_split (tb_split (tb_leaf ty39) (tb_split (tb_leaf ty40) (tb_leaf ty41))) (tb_split (tb_leaf ty42) (tb_split (tb_leaf ty43) (tb_leaf ty44))))))) (tb_split (tb_split (tb_split (tb_split (tb_split (tb_leaf ty45) (tb_leaf ty46)) (tb_split (tb_leaf ty48) (tb_split (tb_leaf ty49) (tb_leaf ty50)))) (tb_split (tb_split (tb_leaf ty51) (tb_leaf ty52)) (tb_split (tb_leaf ty53) (tb_split (tb_leaf ty54) (tb_leaf ty55))))) (tb_split (tb_split (tb_split (tb_leaf ty56) (tb_leaf ty57)) (tb_split (tb_leaf ty58) (tb_split (tb_leaf ty59) (tb_leaf ty60)))) (tb_split (tb_split (tb_leaf ty61) (tb_split (tb_leaf ty62) (tb_leaf ty63))) (tb_split (tb_leaf ty64) (tb_split (tb_leaf ty65) (tb_leaf ty66)))))) (tb_split (tb_split (tb_split (tb_split (tb_leaf ty67) (tb_leaf ty68)) (tb_split (tb_leaf ty69) (tb_split (tb_leaf ty70) (tb_leaf ty71)))) (tb_split (tb_split (tb_leaf ty72) (tb_split (tb_leaf ty73) (tb_leaf ty74))) (tb_split (tb_leaf ty75) (tb_split (tb_leaf ty76) (tb_leaf ty77))))) (tb_split (tb_split (tb_split (tb_leaf ty78) (tb_leaf ty79)) (tb_split (tb_leaf ty80) (tb_split (tb_leaf ty81) (tb_leaf ty82)))) (tb_split (tb_split (tb_leaf ty83) (tb_split (tb_leaf ty84) (tb_leaf ty85))) (tb_split (tb_leaf ty86) (tb_split (tb_leaf ty87) (tb_leaf ty88)))))))) (tb_split (tb_split (tb_split (tb_split (tb_split (tb_split (tb_leaf ty89) (tb_leaf ty90)) (tb_split (tb_leaf ty91) (tb_split (tb_leaf ty92) (tb_leaf ty93)))) (tb_split (tb_split (tb_leaf ty94) (tb_leaf ty95)) (tb_split (tb_leaf ty96) (tb_split (tb_leaf ty97) (tb_leaf ty98))))) (tb_split (tb_split (tb_split (tb_leaf ty99) (tb_leaf ty101)) (tb_split (tb_leaf ty102) (tb_split (tb_leaf ty103) (tb_leaf ty104)))) (tb_split (tb_split (tb_leaf ty105) (tb_split (tb_leaf ty106) (tb_leaf ty107))) (tb_split (tb_leaf ty108) (tb_split (tb_leaf ty109) (tb_leaf ty110)))))) (tb_split (tb_split (tb_split (tb_split (tb_leaf ty111) (tb_leaf ty112)) (tb_split (tb_leaf ty113) (tb_split (tb_leaf ty114) (tb_leaf ty115)))) (tb_split (tb_split (tb_leaf ty116) (tb_split (tb_leaf ty117) (tb_leaf ty118))) (tb_split (tb_leaf ty119) (tb_split (tb_leaf ty120) (tb_leaf ty121))))) (tb_split (tb_split (tb_split (tb_leaf ty122) (tb_leaf ty123)) (tb_split (tb_leaf ty124) (tb_split (tb_leaf ty125) (tb_leaf ty126)))) (tb_split (tb_split (tb_leaf ty127) (tb_split (tb_leaf ty129) (tb_leaf ty130))) (tb_split (tb_leaf ty131) (tb_split (tb_leaf ty132) (tb_leaf ty133))))))) (tb_split (tb_split (tb_split (tb_split (tb_split (tb_leaf ty134) (tb_leaf ty135)) (tb_split (tb_leaf ty136) (tb_split (tb_leaf ty137) (tb_leaf ty138)))) (tb_split (tb_split (tb_leaf ty139) (tb_split (tb_leaf ty140) (tb_leaf ty141))) (tb_split (tb_leaf ty142) (tb_split (tb_leaf ty143) (tb_leaf ty145))))) (tb_split (tb_split (tb_split (tb_leaf ty146) (tb_leaf ty147)) (tb_split (tb_leaf ty148) (tb_split (tb_leaf ty150) (tb_leaf ty151)))) (tb_split (tb_split (tb_leaf ty152) (tb_split (tb_leaf ty153) (tb_leaf ty154))) (tb_split (tb_leaf ty155) (tb_split (tb_leaf ty156) (tb_leaf ty157)))))) (tb_split (tb_split (tb_split (tb_split (tb_leaf ty158) (tb_leaf ty159)) (tb_split (tb_leaf ty160) (tb_split (tb_leaf ty161) (tb_leaf ty162)))) (tb_split (tb_split (tb_leaf ty163) (tb_split (tb_leaf ty164) (tb_leaf ty165))) (tb_split (tb_leaf ty166) (tb_split (tb_leaf ty168) (tb_leaf ty169))))) (tb_split (tb_split (tb_split (tb_leaf ty170) (tb_leaf ty171)) (tb_split (tb_leaf ty175) (tb_split (tb_leaf ty176) (tb_leaf ty177)))) (tb_split (tb_split (tb_leaf ty178) (tb_split (tb_leaf ty179) (tb_leaf ty180))) (tb_split (tb_leaf ty181) (tb_split (tb_leaf ty182) (tb_leaf ty183)))))))))
  exact this i
end Go.Proofs.Ytabfpoflhacknaa

