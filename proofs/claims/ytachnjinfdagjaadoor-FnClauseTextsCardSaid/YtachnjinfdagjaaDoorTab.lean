/- The table of the program's types, and that it is right. No conditions. -/
import Derived.Test.YtachnjinfdagjaaDoorKC
set_option linter.unusedSimpArgs false
set_option linter.unusedVariables false
namespace Go.Proofs.YtachnjinfdagjaaDoor
open Go.RowKit
open Shp
theorem ty1 : ∃ inf z d, TypeOk Tryd.prog 1 ⟨1, .base, [.undef]⟩ inf z d :=
  ⟨Tryd.t1, .nilFunc, _, by kernel_rfl, rfl, rfl, rfl, rfl, fun k hk => match k, hk with | 0, _ => z_undef rfl, Tryd.underlying1, rfl⟩
theorem ty2 : ∃ inf z d, TypeOk Tryd.prog 2 ⟨1, .int .i64, [.g (.int .i64 0)]⟩ inf z d :=
  ⟨Tryd.t2, .int .i64 0, _, by kernel_rfl, rfl, rfl, rfl, rfl, fun k hk => match k, hk with | 0, _ => z_int _, Tryd.underlying2, rfl⟩
theorem ty3 : ∃ inf z d, TypeOk Tryd.prog 3 ⟨1, .int .i64, [.g (.int .i64 0)]⟩ inf z d :=
  ⟨Tryd.t3, .int .i64 0, _, by kernel_rfl, rfl, rfl, rfl, rfl, fun k hk => match k, hk with | 0, _ => z_int _, Tryd.underlying3, rfl⟩
theorem ty4 : ∃ inf z d, TypeOk Tryd.prog 4 ⟨1, .bool, [.g (.bool false)]⟩ inf z d :=
  ⟨Tryd.t4, .bool false, _, by kernel_rfl, rfl, rfl, rfl, rfl, fun k hk => match k, hk with | 0, _ => z_bool, Tryd.underlying4, rfl⟩
theorem ty5 : ∃ inf z d, TypeOk Tryd.prog 5 ⟨1, .int .u8, [.g (.int .u8 0)]⟩ inf z d :=
  ⟨Tryd.t5, .int .u8 0, _, by kernel_rfl, rfl, rfl, rfl, rfl, fun k hk => match k, hk with | 0, _ => z_int _, Tryd.underlying5, rfl⟩
theorem ty6 : ∃ inf z d, TypeOk Tryd.prog 6 ⟨1, .int .u8, [.g (.int .u8 0)]⟩ inf z d :=
  ⟨Tryd.t6, .int .u8 0, _, by kernel_rfl, rfl, rfl, rfl, rfl, fun k hk => match k, hk with | 0, _ => z_int _, Tryd.underlying6, rfl⟩
theorem ty7 : ∃ inf z d, TypeOk Tryd.prog 7 ⟨4, .st [(0, 2), (1, 3), (2, 4), (3, 6)], [.g (.int .i64 0), .g (.int .i64 0), .g (.bool false), .g (.int .u8 0)]⟩ inf z d :=
  ⟨Tryd.t7, .agg #[.int .i64 0, .int .i64 0, .bool false, .int .u8 0], _, by kernel_rfl, rfl, rfl, rfl, rfl, fun k hk => match k, hk with | 0, _ => z_int _ | 1, _ => z_int _ | 2, _ => z_bool | 3, _ => z_int _, Tryd.underlying7, ⟨_, rfl, rfl⟩⟩
theorem ty8 : ∃ inf z d, TypeOk Tryd.prog 8 ⟨4, .st [(0, 2), (1, 3), (2, 4), (3, 6)], [.g (.int .i64 0), .g (.int .i64 0), .g (.bool false), .g (.int .u8 0)]⟩ inf z d :=
  ⟨Tryd.t8, .agg #[.int .i64 0, .int .i64 0, .bool false, .int .u8 0], _, by kernel_rfl, rfl, rfl, rfl, rfl, fun k hk => match k, hk with | 0, _ => z_int _ | 1, _ => z_int _ | 2, _ => z_bool | 3, _ => z_int _, Tryd.underlying8, ⟨_, rfl, rfl⟩⟩
theorem ty9 : ∃ inf z d, TypeOk Tryd.prog 9 ⟨1, .str, [.g (.str ⟨#[]⟩)]⟩ inf z d :=
  ⟨Tryd.t9, .string ⟨#[]⟩, _, by kernel_rfl, rfl, rfl, rfl, rfl, fun k hk => match k, hk with | 0, _ => z_str, Tryd.underlying9, rfl⟩
theorem ty10 : ∃ inf z d, TypeOk Tryd.prog 10 ⟨1, .str, [.g (.str ⟨#[]⟩)]⟩ inf z d :=
  ⟨Tryd.t10, .string ⟨#[]⟩, _, by kernel_rfl, rfl, rfl, rfl, rfl, fun k hk => match k, hk with | 0, _ => z_str, Tryd.underlying10, rfl⟩
theorem ty11 : ∃ inf z d, TypeOk Tryd.prog 11 ⟨1, .str, [.g (.str ⟨#[]⟩)]⟩ inf z d :=
  ⟨Tryd.t11, .string ⟨#[]⟩, _, by kernel_rfl, rfl, rfl, rfl, rfl, fun k hk => match k, hk with | 0, _ => z_str, Tryd.underlying11, rfl⟩
theorem ty12 : ∃ inf z d, TypeOk Tryd.prog 12 ⟨1, .int .u64, [.g (.int .u64 0)]⟩ inf z d :=
  ⟨Tryd.t12, .int .u64 0, _, by kernel_rfl, rfl, rfl, rfl, rfl, fun k hk => match k, hk with | 0, _ => z_int _, Tryd.underlying12, rfl⟩
theorem ty13 : ∃ inf z d, TypeOk Tryd.prog 13 ⟨2, .st [(0, 9), (1, 12)], [.g (.str ⟨#[]⟩), .g (.int .u64 0)]⟩ inf z d :=
  ⟨Tryd.t13, .agg #[.string ⟨#[]⟩, .int .u64 0], _, by kernel_rfl, rfl, rfl, rfl, rfl, fun k hk => match k, hk with | 0, _ => z_str | 1, _ => z_int _, Tryd.underlying13, ⟨_, rfl, rfl⟩⟩
theorem ty14 : ∃ inf z d, TypeOk Tryd.prog 14 ⟨2, .st [(0, 9), (1, 12)], [.g (.str ⟨#[]⟩), .g (.int .u64 0)]⟩ inf z d :=
  ⟨Tryd.t14, .agg #[.string ⟨#[]⟩, .int .u64 0], _, by kernel_rfl, rfl, rfl, rfl, rfl, fun k hk => match k, hk with | 0, _ => z_str | 1, _ => z_int _, Tryd.underlying14, ⟨_, rfl, rfl⟩⟩
theorem ty15 : ∃ inf z d, TypeOk Tryd.prog 15 ⟨1, .base, [.g .nilp]⟩ inf z d :=
  ⟨Tryd.t15, .pointer none, _, by kernel_rfl, rfl, rfl, rfl, rfl, fun k hk => match k, hk with | 0, _ => z_nilp, Tryd.underlying15, rfl⟩
theorem ty16 : ∃ inf z d, TypeOk Tryd.prog 16 ⟨1, .base, [.g .nilp]⟩ inf z d :=
  ⟨Tryd.t16, .pointer none, _, by kernel_rfl, rfl, rfl, rfl, rfl, fun k hk => match k, hk with | 0, _ => z_nilp, Tryd.underlying16, rfl⟩
theorem ty17 : ∃ inf z d, TypeOk Tryd.prog 17 ⟨1, .base, [.g .nilp]⟩ inf z d :=
  ⟨Tryd.t17, .pointer none, _, by kernel_rfl, rfl, rfl, rfl, rfl, fun k hk => match k, hk with | 0, _ => z_nilp, Tryd.underlying17, rfl⟩
theorem ty18 : ∃ inf z d, TypeOk Tryd.prog 18 ⟨1, .st [(0, 17)], [.g .nilp]⟩ inf z d :=
  ⟨Tryd.t18, .agg #[.pointer none], _, by kernel_rfl, rfl, rfl, rfl, rfl, fun k hk => match k, hk with | 0, _ => z_nilp, Tryd.underlying18, ⟨_, rfl, rfl⟩⟩
theorem ty19 : ∃ inf z d, TypeOk Tryd.prog 19 ⟨1, .st [(0, 17)], [.g .nilp]⟩ inf z d :=
  ⟨Tryd.t19, .agg #[.pointer none], _, by kernel_rfl, rfl, rfl, rfl, rfl, fun k hk => match k, hk with | 0, _ => z_nilp, Tryd.underlying19, ⟨_, rfl, rfl⟩⟩
theorem ty21 : ∃ inf z d, TypeOk Tryd.prog 21 ⟨1, .int .i32, [.g (.int .i32 0)]⟩ inf z d :=
  ⟨Tryd.t21, .int .i32 0, _, by kernel_rfl, rfl, rfl, rfl, rfl, fun k hk => match k, hk with | 0, _ => z_int _, Tryd.underlying21, rfl⟩
theorem ty22 : ∃ inf z d, TypeOk Tryd.prog 22 ⟨1, .sl 2, [.nils 1]⟩ inf z d :=
  ⟨Tryd.t22, .slice none 0 0, _, by kernel_rfl, rfl, rfl, rfl, rfl, fun k hk => match k, hk with | 0, _ => z_nils (by decide), Tryd.underlying22, ⟨rfl, Tryd.t2, by kernel_rfl, by decide⟩⟩
theorem ty23 : ∃ inf z d, TypeOk Tryd.prog 23 ⟨3, .st [(0, 2), (1, 22), (2, 22)], [.g (.int .i64 0), .nils 1, .nils 1]⟩ inf z d :=
  ⟨Tryd.t23, .agg #[.int .i64 0, .slice none 0 0, .slice none 0 0], _, by kernel_rfl, rfl, rfl, rfl, rfl, fun k hk => match k, hk with | 0, _ => z_int _ | 1, _ => z_nils (by decide) | 2, _ => z_nils (by decide), Tryd.underlying23, ⟨_, rfl, rfl⟩⟩
theorem ty24 : ∃ inf z d, TypeOk Tryd.prog 24 ⟨3, .st [(0, 2), (1, 22), (2, 22)], [.g (.int .i64 0), .nils 1, .nils 1]⟩ inf z d :=
  ⟨Tryd.t24, .agg #[.int .i64 0, .slice none 0 0, .slice none 0 0], _, by kernel_rfl, rfl, rfl, rfl, rfl, fun k hk => match k, hk with | 0, _ => z_int _ | 1, _ => z_nils (by decide) | 2, _ => z_nils (by decide), Tryd.underlying24, ⟨_, rfl, rfl⟩⟩
theorem ty25 : ∃ inf z d, TypeOk Tryd.prog 25 ⟨1, .base, [.undef]⟩ inf z d :=
  ⟨Tryd.t25, .nilFunc, _, by kernel_rfl, rfl, rfl, rfl, rfl, fun k hk => match k, hk with | 0, _ => z_undef rfl, Tryd.underlying25, rfl⟩
theorem ty26 : ∃ inf z d, TypeOk Tryd.prog 26 ⟨1, .base, [.undef]⟩ inf z d :=
  ⟨Tryd.t26, .nilFunc, _, by kernel_rfl, rfl, rfl, rfl, rfl, fun k hk => match k, hk with | 0, _ => z_undef rfl, Tryd.underlying26, rfl⟩
theorem ty27 : ∃ inf z d, TypeOk Tryd.prog 27 ⟨3, .st [(0, 2), (1, 22), (2, 22)], [.g (.int .i64 0), .nils 1, .nils 1]⟩ inf z d :=
  ⟨Tryd.t27, .agg #[.int .i64 0, .slice none 0 0, .slice none 0 0], _, by kernel_rfl, rfl, rfl, rfl, rfl, fun k hk => match k, hk with | 0, _ => z_int _ | 1, _ => z_nils (by decide) | 2, _ => z_nils (by decide), Tryd.underlying27, ⟨_, rfl, rfl⟩⟩
theorem ty28 : ∃ inf z d, TypeOk Tryd.prog 28 ⟨1, .base, [.undef]⟩ inf z d :=
  ⟨Tryd.t28, .nilFunc, _, by kernel_rfl, rfl, rfl, rfl, rfl, fun k hk => match k, hk with | 0, _ => z_undef rfl, Tryd.underlying28, rfl⟩
theorem ty29 : ∃ inf z d, TypeOk Tryd.prog 29 ⟨1, .base, [.undef]⟩ inf z d :=
  ⟨Tryd.t29, .nilFunc, _, by kernel_rfl, rfl, rfl, rfl, rfl, fun k hk => match k, hk with | 0, _ => z_undef rfl, Tryd.underlying29, rfl⟩
theorem ty30 : ∃ inf z d, TypeOk Tryd.prog 30 ⟨1, .base, [.undef]⟩ inf z d :=
  ⟨Tryd.t30, .nilFunc, _, by kernel_rfl, rfl, rfl, rfl, rfl, fun k hk => match k, hk with | 0, _ => z_undef rfl, Tryd.underlying30, rfl⟩
theorem ty32 : ∃ inf z d, TypeOk Tryd.prog 32 ⟨1, .base, [.undef]⟩ inf z d :=
  ⟨Tryd.t32, .nilFunc, _, by kernel_rfl, rfl, rfl, rfl, rfl, fun k hk => match k, hk with | 0, _ => z_undef rfl, Tryd.underlying32, rfl⟩
theorem ty33 : ∃ inf z d, TypeOk Tryd.prog 33 ⟨1, .base, [.undef]⟩ inf z d :=
  ⟨Tryd.t33, .nilFunc, _, by kernel_rfl, rfl, rfl, rfl, rfl, fun k hk => match k, hk with | 0, _ => z_undef rfl, Tryd.underlying33, rfl⟩
theorem ty34 : ∃ inf z d, TypeOk Tryd.prog 34 ⟨1, .base, [.undef]⟩ inf z d :=
  ⟨Tryd.t34, .nilFunc, _, by kernel_rfl, rfl, rfl, rfl, rfl, fun k hk => match k, hk with | 0, _ => z_undef rfl, Tryd.underlying34, rfl⟩
theorem ty35 : ∃ inf z d, TypeOk Tryd.prog 35 ⟨1, .sl 5, [.nils 1]⟩ inf z d :=
  ⟨Tryd.t35, .slice none 0 0, _, by kernel_rfl, rfl, rfl, rfl, rfl, fun k hk => match k, hk with | 0, _ => z_nils (by decide), Tryd.underlying35, ⟨rfl, Tryd.t5, by kernel_rfl, by decide⟩⟩
theorem ty36 : ∃ inf z d, TypeOk Tryd.prog 36 ⟨1, .base, [.undef]⟩ inf z d :=
  ⟨Tryd.t36, .nilFunc, _, by kernel_rfl, rfl, rfl, rfl, rfl, fun k hk => match k, hk with | 0, _ => z_undef rfl, Tryd.underlying36, rfl⟩
theorem ty37 : ∃ inf z d, TypeOk Tryd.prog 37 ⟨1, .base, [.undef]⟩ inf z d :=
  ⟨Tryd.t37, .nilFunc, _, by kernel_rfl, rfl, rfl, rfl, rfl, fun k hk => match k, hk with | 0, _ => z_undef rfl, Tryd.underlying37, rfl⟩
theorem ty38 : ∃ inf z d, TypeOk Tryd.prog 38 ⟨1, .base, [.undef]⟩ inf z d :=
  ⟨Tryd.t38, .nilFunc, _, by kernel_rfl, rfl, rfl, rfl, rfl, fun k hk => match k, hk with | 0, _ => z_undef rfl, Tryd.underlying38, rfl⟩
theorem ty39 : ∃ inf z d, TypeOk Tryd.prog 39 ⟨1, .base, [.undef]⟩ inf z d :=
  ⟨Tryd.t39, .nilFunc, _, by kernel_rfl, rfl, rfl, rfl, rfl, fun k hk => match k, hk with | 0, _ => z_undef rfl, Tryd.underlying39, rfl⟩
theorem ty40 : ∃ inf z d, TypeOk Tryd.prog 40 ⟨1, .base, [.undef]⟩ inf z d :=
  ⟨Tryd.t40, .nilFunc, _, by kernel_rfl, rfl, rfl, rfl, rfl, fun k hk => match k, hk with | 0, _ => z_undef rfl, Tryd.underlying40, rfl⟩
theorem ty41 : ∃ inf z d, TypeOk Tryd.prog 41 ⟨1, .base, [.undef]⟩ inf z d :=
  ⟨Tryd.t41, .nilFunc, _, by kernel_rfl, rfl, rfl, rfl, rfl, fun k hk => match k, hk with | 0, _ => z_undef rfl, Tryd.underlying41, rfl⟩
theorem ty42 : ∃ inf z d, TypeOk Tryd.prog 42 ⟨2, .st [(0, 2), (1, 2)], [.g (.int .i64 0), .g (.int .i64 0)]⟩ inf z d :=
  ⟨Tryd.t42, .agg #[.int .i64 0, .int .i64 0], _, by kernel_rfl, rfl, rfl, rfl, rfl, fun k hk => match k, hk with | 0, _ => z_int _ | 1, _ => z_int _, Tryd.underlying42, ⟨_, rfl, rfl⟩⟩
theorem ty43 : ∃ inf z d, TypeOk Tryd.prog 43 ⟨2, .st [(0, 2), (1, 2)], [.g (.int .i64 0), .g (.int .i64 0)]⟩ inf z d :=
  ⟨Tryd.t43, .agg #[.int .i64 0, .int .i64 0], _, by kernel_rfl, rfl, rfl, rfl, rfl, fun k hk => match k, hk with | 0, _ => z_int _ | 1, _ => z_int _, Tryd.underlying43, ⟨_, rfl, rfl⟩⟩
theorem ty44 : ∃ inf z d, TypeOk Tryd.prog 44 ⟨1, .sl 9, [.nils 1]⟩ inf z d :=
  ⟨Tryd.t44, .slice none 0 0, _, by kernel_rfl, rfl, rfl, rfl, rfl, fun k hk => match k, hk with | 0, _ => z_nils (by decide), Tryd.underlying44, ⟨rfl, Tryd.t9, by kernel_rfl, by decide⟩⟩
theorem ty45 : ∃ inf z d, TypeOk Tryd.prog 45 ⟨1, .base, [.undef]⟩ inf z d :=
  ⟨Tryd.t45, .nilFunc, _, by kernel_rfl, rfl, rfl, rfl, rfl, fun k hk => match k, hk with | 0, _ => z_undef rfl, Tryd.underlying45, rfl⟩
theorem ty46 : ∃ inf z d, TypeOk Tryd.prog 46 ⟨1, .base, [.undef]⟩ inf z d :=
  ⟨Tryd.t46, .nilFunc, _, by kernel_rfl, rfl, rfl, rfl, rfl, fun k hk => match k, hk with | 0, _ => z_undef rfl, Tryd.underlying46, rfl⟩
theorem ty47 : ∃ inf z d, TypeOk Tryd.prog 47 ⟨1, .base, [.undef]⟩ inf z d :=
  ⟨Tryd.t47, .nilFunc, _, by kernel_rfl, rfl, rfl, rfl, rfl, fun k hk => match k, hk with | 0, _ => z_undef rfl, Tryd.underlying47, rfl⟩
theorem ty48 : ∃ inf z d, TypeOk Tryd.prog 48 ⟨1, .base, [.undef]⟩ inf z d :=
  ⟨Tryd.t48, .nilFunc, _, by kernel_rfl, rfl, rfl, rfl, rfl, fun k hk => match k, hk with | 0, _ => z_undef rfl, Tryd.underlying48, rfl⟩
theorem ty49 : ∃ inf z d, TypeOk Tryd.prog 49 ⟨7, .ar 7 9, [.g (.str ⟨#[]⟩), .g (.str ⟨#[]⟩), .g (.str ⟨#[]⟩), .g (.str ⟨#[]⟩), .g (.str ⟨#[]⟩), .g (.str ⟨#[]⟩), .g (.str ⟨#[]⟩)]⟩ inf z d :=
  ⟨Tryd.t49, .agg #[.string ⟨#[]⟩, .string ⟨#[]⟩, .string ⟨#[]⟩, .string ⟨#[]⟩, .string ⟨#[]⟩, .string ⟨#[]⟩, .string ⟨#[]⟩], _, by kernel_rfl, rfl, rfl, rfl, rfl, fun k hk => match k, hk with | 0, _ => z_str | 1, _ => z_str | 2, _ => z_str | 3, _ => z_str | 4, _ => z_str | 5, _ => z_str | 6, _ => z_str, Tryd.underlying49, rfl⟩
theorem ty50 : ∃ inf z d, TypeOk Tryd.prog 50 ⟨1, .base, [.undef]⟩ inf z d :=
  ⟨Tryd.t50, .nilFunc, _, by kernel_rfl, rfl, rfl, rfl, rfl, fun k hk => match k, hk with | 0, _ => z_undef rfl, Tryd.underlying50, rfl⟩
theorem ty52 : ∃ inf z d, TypeOk Tryd.prog 52 ⟨1, .base, [.undef]⟩ inf z d :=
  ⟨Tryd.t52, .nilFunc, _, by kernel_rfl, rfl, rfl, rfl, rfl, fun k hk => match k, hk with | 0, _ => z_undef rfl, Tryd.underlying52, rfl⟩
theorem ty53 : ∃ inf z d, TypeOk Tryd.prog 53 ⟨1, .base, [.undef]⟩ inf z d :=
  ⟨Tryd.t53, .nilFunc, _, by kernel_rfl, rfl, rfl, rfl, rfl, fun k hk => match k, hk with | 0, _ => z_undef rfl, Tryd.underlying53, rfl⟩
theorem ty54 : ∃ inf z d, TypeOk Tryd.prog 54 ⟨1, .base, [.g .nilp]⟩ inf z d :=
  ⟨Tryd.t54, .pointer none, _, by kernel_rfl, rfl, rfl, rfl, rfl, fun k hk => match k, hk with | 0, _ => z_nilp, Tryd.underlying54, rfl⟩
theorem ty55 : ∃ inf z d, TypeOk Tryd.prog 55 ⟨1, .base, [.undef]⟩ inf z d :=
  ⟨Tryd.t55, .nilFunc, _, by kernel_rfl, rfl, rfl, rfl, rfl, fun k hk => match k, hk with | 0, _ => z_undef rfl, Tryd.underlying55, rfl⟩
theorem ty56 : ∃ inf z d, TypeOk Tryd.prog 56 ⟨1, .base, [.undef]⟩ inf z d :=
  ⟨Tryd.t56, .nilFunc, _, by kernel_rfl, rfl, rfl, rfl, rfl, fun k hk => match k, hk with | 0, _ => z_undef rfl, Tryd.underlying56, rfl⟩
theorem ty57 : ∃ inf z d, TypeOk Tryd.prog 57 ⟨1, .base, [.undef]⟩ inf z d :=
  ⟨Tryd.t57, .nilFunc, _, by kernel_rfl, rfl, rfl, rfl, rfl, fun k hk => match k, hk with | 0, _ => z_undef rfl, Tryd.underlying57, rfl⟩
theorem ty58 : ∃ inf z d, TypeOk Tryd.prog 58 ⟨1, .base, [.undef]⟩ inf z d :=
  ⟨Tryd.t58, .nilFunc, _, by kernel_rfl, rfl, rfl, rfl, rfl, fun k hk => match k, hk with | 0, _ => z_undef rfl, Tryd.underlying58, rfl⟩
theorem ty59 : ∃ inf z d, TypeOk Tryd.prog 59 ⟨1, .base, [.undef]⟩ inf z d :=
  ⟨Tryd.t59, .nilFunc, _, by kernel_rfl, rfl, rfl, rfl, rfl, fun k hk => match k, hk with | 0, _ => z_undef rfl, Tryd.underlying59, rfl⟩
theorem ty60 : ∃ inf z d, TypeOk Tryd.prog 60 ⟨1, .base, [.undef]⟩ inf z d :=
  ⟨Tryd.t60, .nilFunc, _, by kernel_rfl, rfl, rfl, rfl, rfl, fun k hk => match k, hk with | 0, _ => z_undef rfl, Tryd.underlying60, rfl⟩
theorem ty61 : ∃ inf z d, TypeOk Tryd.prog 61 ⟨1, .base, [.undef]⟩ inf z d :=
  ⟨Tryd.t61, .nilFunc, _, by kernel_rfl, rfl, rfl, rfl, rfl, fun k hk => match k, hk with | 0, _ => z_undef rfl, Tryd.underlying61, rfl⟩
theorem ty62 : ∃ inf z d, TypeOk Tryd.prog 62 ⟨1, .base, [.undef]⟩ inf z d :=
  ⟨Tryd.t62, .nilFunc, _, by kernel_rfl, rfl, rfl, rfl, rfl, fun k hk => match k, hk with | 0, _ => z_undef rfl, Tryd.underlying62, rfl⟩
theorem ty63 : ∃ inf z d, TypeOk Tryd.prog 63 ⟨1, .base, [.undef]⟩ inf z d :=
  ⟨Tryd.t63, .nilFunc, _, by kernel_rfl, rfl, rfl, rfl, rfl, fun k hk => match k, hk with | 0, _ => z_undef rfl, Tryd.underlying63, rfl⟩
theorem ty64 : ∃ inf z d, TypeOk Tryd.prog 64 ⟨1, .base, [.undef]⟩ inf z d :=
  ⟨Tryd.t64, .nilFunc, _, by kernel_rfl, rfl, rfl, rfl, rfl, fun k hk => match k, hk with | 0, _ => z_undef rfl, Tryd.underlying64, rfl⟩
theorem ty65 : ∃ inf z d, TypeOk Tryd.prog 65 ⟨1, .base, [.undef]⟩ inf z d :=
  ⟨Tryd.t65, .nilFunc, _, by kernel_rfl, rfl, rfl, rfl, rfl, fun k hk => match k, hk with | 0, _ => z_undef rfl, Tryd.underlying65, rfl⟩
theorem ty67 : ∃ inf z d, TypeOk Tryd.prog 67 ⟨1, .base, [.undef]⟩ inf z d :=
  ⟨Tryd.t67, .nilFunc, _, by kernel_rfl, rfl, rfl, rfl, rfl, fun k hk => match k, hk with | 0, _ => z_undef rfl, Tryd.underlying67, rfl⟩
theorem ty68 : ∃ inf z d, TypeOk Tryd.prog 68 ⟨1, .base, [.undef]⟩ inf z d :=
  ⟨Tryd.t68, .nilFunc, _, by kernel_rfl, rfl, rfl, rfl, rfl, fun k hk => match k, hk with | 0, _ => z_undef rfl, Tryd.underlying68, rfl⟩
theorem ty69 : ∃ inf z d, TypeOk Tryd.prog 69 ⟨1, .base, [.undef]⟩ inf z d :=
  ⟨Tryd.t69, .nilFunc, _, by kernel_rfl, rfl, rfl, rfl, rfl, fun k hk => match k, hk with | 0, _ => z_undef rfl, Tryd.underlying69, rfl⟩
theorem ty70 : ∃ inf z d, TypeOk Tryd.prog 70 ⟨3, .st [(0, 35), (1, 3), (2, 2)], [.nils 1, .g (.int .i64 0), .g (.int .i64 0)]⟩ inf z d :=
  ⟨Tryd.t70, .agg #[.slice none 0 0, .int .i64 0, .int .i64 0], _, by kernel_rfl, rfl, rfl, rfl, rfl, fun k hk => match k, hk with | 0, _ => z_nils (by decide) | 1, _ => z_int _ | 2, _ => z_int _, Tryd.underlying70, ⟨_, rfl, rfl⟩⟩
theorem ty71 : ∃ inf z d, TypeOk Tryd.prog 71 ⟨3, .st [(0, 35), (1, 3), (2, 2)], [.nils 1, .g (.int .i64 0), .g (.int .i64 0)]⟩ inf z d :=
  ⟨Tryd.t71, .agg #[.slice none 0 0, .int .i64 0, .int .i64 0], _, by kernel_rfl, rfl, rfl, rfl, rfl, fun k hk => match k, hk with | 0, _ => z_nils (by decide) | 1, _ => z_int _ | 2, _ => z_int _, Tryd.underlying71, ⟨_, rfl, rfl⟩⟩
theorem ty72 : ∃ inf z d, TypeOk Tryd.prog 72 ⟨1, .base, [.undef]⟩ inf z d :=
  ⟨Tryd.t72, .nilFunc, _, by kernel_rfl, rfl, rfl, rfl, rfl, fun k hk => match k, hk with | 0, _ => z_undef rfl, Tryd.underlying72, rfl⟩
theorem ty73 : ∃ inf z d, TypeOk Tryd.prog 73 ⟨1, .base, [.undef]⟩ inf z d :=
  ⟨Tryd.t73, .nilFunc, _, by kernel_rfl, rfl, rfl, rfl, rfl, fun k hk => match k, hk with | 0, _ => z_undef rfl, Tryd.underlying73, rfl⟩
theorem ty74 : ∃ inf z d, TypeOk Tryd.prog 74 ⟨1, .base, [.undef]⟩ inf z d :=
  ⟨Tryd.t74, .nilFunc, _, by kernel_rfl, rfl, rfl, rfl, rfl, fun k hk => match k, hk with | 0, _ => z_undef rfl, Tryd.underlying74, rfl⟩
theorem ty75 : ∃ inf z d, TypeOk Tryd.prog 75 ⟨1, .base, [.undef]⟩ inf z d :=
  ⟨Tryd.t75, .nilFunc, _, by kernel_rfl, rfl, rfl, rfl, rfl, fun k hk => match k, hk with | 0, _ => z_undef rfl, Tryd.underlying75, rfl⟩
theorem ty76 : ∃ inf z d, TypeOk Tryd.prog 76 ⟨1, .base, [.undef]⟩ inf z d :=
  ⟨Tryd.t76, .nilFunc, _, by kernel_rfl, rfl, rfl, rfl, rfl, fun k hk => match k, hk with | 0, _ => z_undef rfl, Tryd.underlying76, rfl⟩
theorem ty77 : ∃ inf z d, TypeOk Tryd.prog 77 ⟨1, .base, [.undef]⟩ inf z d :=
  ⟨Tryd.t77, .nilFunc, _, by kernel_rfl, rfl, rfl, rfl, rfl, fun k hk => match k, hk with | 0, _ => z_undef rfl, Tryd.underlying77, rfl⟩
theorem ty78 : ∃ inf z d, TypeOk Tryd.prog 78 ⟨1, .base, [.g .nilp]⟩ inf z d :=
  ⟨Tryd.t78, .pointer none, _, by kernel_rfl, rfl, rfl, rfl, rfl, fun k hk => match k, hk with | 0, _ => z_nilp, Tryd.underlying78, rfl⟩
theorem ty79 : ∃ inf z d, TypeOk Tryd.prog 79 ⟨2, .st [(0, 78), (1, 35)], [.g .nilp, .nils 1]⟩ inf z d :=
  ⟨Tryd.t79, .agg #[.pointer none, .slice none 0 0], _, by kernel_rfl, rfl, rfl, rfl, rfl, fun k hk => match k, hk with | 0, _ => z_nilp | 1, _ => z_nils (by decide), Tryd.underlying79, ⟨_, rfl, rfl⟩⟩
theorem ty80 : ∃ inf z d, TypeOk Tryd.prog 80 ⟨2, .st [(0, 78), (1, 35)], [.g .nilp, .nils 1]⟩ inf z d :=
  ⟨Tryd.t80, .agg #[.pointer none, .slice none 0 0], _, by kernel_rfl, rfl, rfl, rfl, rfl, fun k hk => match k, hk with | 0, _ => z_nilp | 1, _ => z_nils (by decide), Tryd.underlying80, ⟨_, rfl, rfl⟩⟩
theorem ty81 : ∃ inf z d, TypeOk Tryd.prog 81 ⟨1, .base, [.undef]⟩ inf z d :=
  ⟨Tryd.t81, .nilFunc, _, by kernel_rfl, rfl, rfl, rfl, rfl, fun k hk => match k, hk with | 0, _ => z_undef rfl, Tryd.underlying81, rfl⟩
theorem ty85 : ∃ inf z d, TypeOk Tryd.prog 85 ⟨1, .base, [.undef]⟩ inf z d :=
  ⟨Tryd.t85, .nilFunc, _, by kernel_rfl, rfl, rfl, rfl, rfl, fun k hk => match k, hk with | 0, _ => z_undef rfl, Tryd.underlying85, rfl⟩
theorem ty86 : ∃ inf z d, TypeOk Tryd.prog 86 ⟨1, .base, [.undef]⟩ inf z d :=
  ⟨Tryd.t86, .nilFunc, _, by kernel_rfl, rfl, rfl, rfl, rfl, fun k hk => match k, hk with | 0, _ => z_undef rfl, Tryd.underlying86, rfl⟩
theorem ty87 : ∃ inf z d, TypeOk Tryd.prog 87 ⟨1, .base, [.undef]⟩ inf z d :=
  ⟨Tryd.t87, .nilFunc, _, by kernel_rfl, rfl, rfl, rfl, rfl, fun k hk => match k, hk with | 0, _ => z_undef rfl, Tryd.underlying87, rfl⟩
theorem ty88 : ∃ inf z d, TypeOk Tryd.prog 88 ⟨1, .base, [.undef]⟩ inf z d :=
  ⟨Tryd.t88, .nilFunc, _, by kernel_rfl, rfl, rfl, rfl, rfl, fun k hk => match k, hk with | 0, _ => z_undef rfl, Tryd.underlying88, rfl⟩
theorem ty89 : ∃ inf z d, TypeOk Tryd.prog 89 ⟨1, .int .u64, [.g (.int .u64 0)]⟩ inf z d :=
  ⟨Tryd.t89, .int .u64 0, _, by kernel_rfl, rfl, rfl, rfl, rfl, fun k hk => match k, hk with | 0, _ => z_int _, Tryd.underlying89, rfl⟩
theorem ty90 : ∃ inf z d, TypeOk Tryd.prog 90 ⟨1, .base, [.g .nilp]⟩ inf z d :=
  ⟨Tryd.t90, .pointer none, _, by kernel_rfl, rfl, rfl, rfl, rfl, fun k hk => match k, hk with | 0, _ => z_nilp, Tryd.underlying90, rfl⟩
theorem ty91 : ∃ inf z d, TypeOk Tryd.prog 91 ⟨1, .base, [.undef]⟩ inf z d :=
  ⟨Tryd.t91, .nilFunc, _, by kernel_rfl, rfl, rfl, rfl, rfl, fun k hk => match k, hk with | 0, _ => z_undef rfl, Tryd.underlying91, rfl⟩
theorem ty93 : ∃ inf z d, TypeOk Tryd.prog 93 ⟨1, .base, [.undef]⟩ inf z d :=
  ⟨Tryd.t93, .nilFunc, _, by kernel_rfl, rfl, rfl, rfl, rfl, fun k hk => match k, hk with | 0, _ => z_undef rfl, Tryd.underlying93, rfl⟩
theorem ty94 : ∃ inf z d, TypeOk Tryd.prog 94 ⟨1, .base, [.undef]⟩ inf z d :=
  ⟨Tryd.t94, .nilFunc, _, by kernel_rfl, rfl, rfl, rfl, rfl, fun k hk => match k, hk with | 0, _ => z_undef rfl, Tryd.underlying94, rfl⟩
theorem ty95 : ∃ inf z d, TypeOk Tryd.prog 95 ⟨1, .base, [.undef]⟩ inf z d :=
  ⟨Tryd.t95, .nilFunc, _, by kernel_rfl, rfl, rfl, rfl, rfl, fun k hk => match k, hk with | 0, _ => z_undef rfl, Tryd.underlying95, rfl⟩
theorem ty97 : ∃ inf z d, TypeOk Tryd.prog 97 ⟨1, .int .u64, [.g (.int .u64 0)]⟩ inf z d :=
  ⟨Tryd.t97, .int .u64 0, _, by kernel_rfl, rfl, rfl, rfl, rfl, fun k hk => match k, hk with | 0, _ => z_int _, Tryd.underlying97, rfl⟩
theorem ty98 : ∃ inf z d, TypeOk Tryd.prog 98 ⟨1, .base, [.undef]⟩ inf z d :=
  ⟨Tryd.t98, .nilFunc, _, by kernel_rfl, rfl, rfl, rfl, rfl, fun k hk => match k, hk with | 0, _ => z_undef rfl, Tryd.underlying98, rfl⟩
theorem ty99 : ∃ inf z d, TypeOk Tryd.prog 99 ⟨1, .base, [.undef]⟩ inf z d :=
  ⟨Tryd.t99, .nilFunc, _, by kernel_rfl, rfl, rfl, rfl, rfl, fun k hk => match k, hk with | 0, _ => z_undef rfl, Tryd.underlying99, rfl⟩
theorem ty101 : ∃ inf z d, TypeOk Tryd.prog 101 ⟨1, .base, [.undef]⟩ inf z d :=
  ⟨Tryd.t101, .nilFunc, _, by kernel_rfl, rfl, rfl, rfl, rfl, fun k hk => match k, hk with | 0, _ => z_undef rfl, Tryd.underlying101, rfl⟩
theorem ty103 : ∃ inf z d, TypeOk Tryd.prog 103 ⟨1, .base, [.undef]⟩ inf z d :=
  ⟨Tryd.t103, .nilFunc, _, by kernel_rfl, rfl, rfl, rfl, rfl, fun k hk => match k, hk with | 0, _ => z_undef rfl, Tryd.underlying103, rfl⟩
theorem ty104 : ∃ inf z d, TypeOk Tryd.prog 104 ⟨1, .base, [.undef]⟩ inf z d :=
  ⟨Tryd.t104, .nilFunc, _, by kernel_rfl, rfl, rfl, rfl, rfl, fun k hk => match k, hk with | 0, _ => z_undef rfl, Tryd.underlying104, rfl⟩
theorem ty105 : ∃ inf z d, TypeOk Tryd.prog 105 ⟨1, .base, [.undef]⟩ inf z d :=
  ⟨Tryd.t105, .nilFunc, _, by kernel_rfl, rfl, rfl, rfl, rfl, fun k hk => match k, hk with | 0, _ => z_undef rfl, Tryd.underlying105, rfl⟩
theorem ty106 : ∃ inf z d, TypeOk Tryd.prog 106 ⟨1, .base, [.undef]⟩ inf z d :=
  ⟨Tryd.t106, .nilFunc, _, by kernel_rfl, rfl, rfl, rfl, rfl, fun k hk => match k, hk with | 0, _ => z_undef rfl, Tryd.underlying106, rfl⟩
theorem ty108 : ∃ inf z d, TypeOk Tryd.prog 108 ⟨1, .int .u32, [.g (.int .u32 0)]⟩ inf z d :=
  ⟨Tryd.t108, .int .u32 0, _, by kernel_rfl, rfl, rfl, rfl, rfl, fun k hk => match k, hk with | 0, _ => z_int _, Tryd.underlying108, rfl⟩
theorem ty110 : ∃ inf z d, TypeOk Tryd.prog 110 ⟨1, .base, [.undef]⟩ inf z d :=
  ⟨Tryd.t110, .nilFunc, _, by kernel_rfl, rfl, rfl, rfl, rfl, fun k hk => match k, hk with | 0, _ => z_undef rfl, Tryd.underlying110, rfl⟩
theorem ty111 : ∃ inf z d, TypeOk Tryd.prog 111 ⟨1, .base, [.undef]⟩ inf z d :=
  ⟨Tryd.t111, .nilFunc, _, by kernel_rfl, rfl, rfl, rfl, rfl, fun k hk => match k, hk with | 0, _ => z_undef rfl, Tryd.underlying111, rfl⟩
theorem ty113 : ∃ inf z d, TypeOk Tryd.prog 113 ⟨2, .st [(0, 5), (1, 5)], [.g (.int .u8 0), .g (.int .u8 0)]⟩ inf z d :=
  ⟨Tryd.t113, .agg #[.int .u8 0, .int .u8 0], _, by kernel_rfl, rfl, rfl, rfl, rfl, fun k hk => match k, hk with | 0, _ => z_int _ | 1, _ => z_int _, Tryd.underlying113, ⟨_, rfl, rfl⟩⟩
theorem ty114 : ∃ inf z d, TypeOk Tryd.prog 114 ⟨2, .st [(0, 5), (1, 5)], [.g (.int .u8 0), .g (.int .u8 0)]⟩ inf z d :=
  ⟨Tryd.t114, .agg #[.int .u8 0, .int .u8 0], _, by kernel_rfl, rfl, rfl, rfl, rfl, fun k hk => match k, hk with | 0, _ => z_int _ | 1, _ => z_int _, Tryd.underlying114, ⟨_, rfl, rfl⟩⟩
theorem ty117 : ∃ inf z d, TypeOk Tryd.prog 117 ⟨1, .base, [.undef]⟩ inf z d :=
  ⟨Tryd.t117, .nilFunc, _, by kernel_rfl, rfl, rfl, rfl, rfl, fun k hk => match k, hk with | 0, _ => z_undef rfl, Tryd.underlying117, rfl⟩
theorem ty118 : ∃ inf z d, TypeOk Tryd.prog 118 ⟨1, .base, [.undef]⟩ inf z d :=
  ⟨Tryd.t118, .nilFunc, _, by kernel_rfl, rfl, rfl, rfl, rfl, fun k hk => match k, hk with | 0, _ => z_undef rfl, Tryd.underlying118, rfl⟩
theorem ty121 : ∃ inf z d, TypeOk Tryd.prog 121 ⟨4, .st [(0, 17), (1, 17), (2, 17), (3, 9)], [.g .nilp, .g .nilp, .g .nilp, .g (.str ⟨#[]⟩)]⟩ inf z d :=
  ⟨Tryd.t121, .agg #[.pointer none, .pointer none, .pointer none, .string ⟨#[]⟩], _, by kernel_rfl, rfl, rfl, rfl, rfl, fun k hk => match k, hk with | 0, _ => z_nilp | 1, _ => z_nilp | 2, _ => z_nilp | 3, _ => z_str, Tryd.underlying121, ⟨_, rfl, rfl⟩⟩
theorem ty122 : ∃ inf z d, TypeOk Tryd.prog 122 ⟨4, .st [(0, 17), (1, 17), (2, 17), (3, 9)], [.g .nilp, .g .nilp, .g .nilp, .g (.str ⟨#[]⟩)]⟩ inf z d :=
  ⟨Tryd.t122, .agg #[.pointer none, .pointer none, .pointer none, .string ⟨#[]⟩], _, by kernel_rfl, rfl, rfl, rfl, rfl, fun k hk => match k, hk with | 0, _ => z_nilp | 1, _ => z_nilp | 2, _ => z_nilp | 3, _ => z_str, Tryd.underlying122, ⟨_, rfl, rfl⟩⟩
theorem ty126 : ∃ inf z d, TypeOk Tryd.prog 126 ⟨1, .base, [.undef]⟩ inf z d :=
  ⟨Tryd.t126, .nilFunc, _, by kernel_rfl, rfl, rfl, rfl, rfl, fun k hk => match k, hk with | 0, _ => z_undef rfl, Tryd.underlying126, rfl⟩
theorem ty127 : ∃ inf z d, TypeOk Tryd.prog 127 ⟨1, .int .u8, [.g (.int .u8 0)]⟩ inf z d :=
  ⟨Tryd.t127, .int .u8 0, _, by kernel_rfl, rfl, rfl, rfl, rfl, fun k hk => match k, hk with | 0, _ => z_int _, Tryd.underlying127, rfl⟩
theorem ty128 : ∃ inf z d, TypeOk Tryd.prog 128 ⟨1, .int .u8, [.g (.int .u8 0)]⟩ inf z d :=
  ⟨Tryd.t128, .int .u8 0, _, by kernel_rfl, rfl, rfl, rfl, rfl, fun k hk => match k, hk with | 0, _ => z_int _, Tryd.underlying128, rfl⟩
theorem ty129 : ∃ inf z d, TypeOk Tryd.prog 129 ⟨1, .base, [.undef]⟩ inf z d :=
  ⟨Tryd.t129, .nilFunc, _, by kernel_rfl, rfl, rfl, rfl, rfl, fun k hk => match k, hk with | 0, _ => z_undef rfl, Tryd.underlying129, rfl⟩
theorem ty130 : ∃ inf z d, TypeOk Tryd.prog 130 ⟨1, .int .i32, [.g (.int .i32 0)]⟩ inf z d :=
  ⟨Tryd.t130, .int .i32 0, _, by kernel_rfl, rfl, rfl, rfl, rfl, fun k hk => match k, hk with | 0, _ => z_int _, Tryd.underlying130, rfl⟩
theorem ty131 : ∃ inf z d, TypeOk Tryd.prog 131 ⟨1, .int .i32, [.g (.int .i32 0)]⟩ inf z d :=
  ⟨Tryd.t131, .int .i32 0, _, by kernel_rfl, rfl, rfl, rfl, rfl, fun k hk => match k, hk with | 0, _ => z_int _, Tryd.underlying131, rfl⟩
theorem ty132 : ∃ inf z d, TypeOk Tryd.prog 132 ⟨11, .st [(0, 12), (1, 12), (2, 108), (3, 127), (4, 5), (5, 5), (6, 128), (7, 129), (8, 90), (9, 130), (10, 131)], [.g (.int .u64 0), .g (.int .u64 0), .g (.int .u32 0), .g (.int .u8 0), .g (.int .u8 0), .g (.int .u8 0), .g (.int .u8 0), .undef, .g .nilp, .g (.int .i32 0), .g (.int .i32 0)]⟩ inf z d :=
  ⟨Tryd.t132, .agg #[.int .u64 0, .int .u64 0, .int .u32 0, .int .u8 0, .int .u8 0, .int .u8 0, .int .u8 0, .nilFunc, .pointer none, .int .i32 0, .int .i32 0], _, by kernel_rfl, rfl, rfl, rfl, rfl, fun k hk => match k, hk with | 0, _ => z_int _ | 1, _ => z_int _ | 2, _ => z_int _ | 3, _ => z_int _ | 4, _ => z_int _ | 5, _ => z_int _ | 6, _ => z_int _ | 7, _ => z_undef rfl | 8, _ => z_nilp | 9, _ => z_int _ | 10, _ => z_int _, Tryd.underlying132, ⟨_, rfl, rfl⟩⟩
theorem ty133 : ∃ inf z d, TypeOk Tryd.prog 133 ⟨11, .st [(0, 12), (1, 12), (2, 108), (3, 127), (4, 5), (5, 5), (6, 128), (7, 129), (8, 90), (9, 130), (10, 131)], [.g (.int .u64 0), .g (.int .u64 0), .g (.int .u32 0), .g (.int .u8 0), .g (.int .u8 0), .g (.int .u8 0), .g (.int .u8 0), .undef, .g .nilp, .g (.int .i32 0), .g (.int .i32 0)]⟩ inf z d :=
  ⟨Tryd.t133, .agg #[.int .u64 0, .int .u64 0, .int .u32 0, .int .u8 0, .int .u8 0, .int .u8 0, .int .u8 0, .nilFunc, .pointer none, .int .i32 0, .int .i32 0], _, by kernel_rfl, rfl, rfl, rfl, rfl, fun k hk => match k, hk with | 0, _ => z_int _ | 1, _ => z_int _ | 2, _ => z_int _ | 3, _ => z_int _ | 4, _ => z_int _ | 5, _ => z_int _ | 6, _ => z_int _ | 7, _ => z_undef rfl | 8, _ => z_nilp | 9, _ => z_int _ | 10, _ => z_int _, Tryd.underlying133, ⟨_, rfl, rfl⟩⟩
def GoodT (t : TypeId) (x : Option TI) : Prop := ∀ i, x = some i → ∃ inf z d, TypeOk Tryd.prog t i inf z d
theorem tb_leaf {t k : TypeId} {x : TI} (h : ∃ inf z d, TypeOk Tryd.prog k x inf z d) : GoodT t (bif Nat.beq t k then some x else none) := fun i hi => by
  cases e : Nat.beq t k
  · rw [e] at hi; cases hi
  · rw [e] at hi; cases hi
    have := Nat.eq_of_beq_eq_true e
    subst this; exact h
theorem tb_split {t : TypeId} {c : Bool} {a b : Option TI} (h1 : GoodT t a) (h2 : GoodT t b) : GoodT t (bif c then a else b) := by cases c; exact h2; exact h1
def tab (t : TypeId) : Option TI := (bif Nat.blt t 60 then (bif Nat.blt t 30 then (bif Nat.blt t 15 then (bif Nat.blt t 8 then (bif Nat.blt t 4 then (bif Nat.blt t 2 then (bif Nat.beq t 1 then some ⟨1, .base, [.undef]⟩ else none) else (bif Nat.blt t 3 then (bif Nat.beq t 2 then some ⟨1, .int .i64, [.g (.int .i64 0)]⟩ else none) else (bif Nat.beq t 3 then some ⟨1, .int .i64, [.g (.int .i64 0)]⟩ else none))) else (bif Nat.blt t 6 then (bif Nat.blt t 5 then (bif Nat.beq t 4 then some ⟨1, .bool, [.g (.bool false)]⟩ else none) else (bif Nat.beq t 5 then some ⟨1, .int .u8, [.g (.int .u8 0)]⟩ else none)) else (bif Nat.blt t 7 then (bif Nat.beq t 6 then some ⟨1, .int .u8, [.g (.int .u8 0)]⟩ else none) else (bif Nat.beq t 7 then some ⟨4, .st [(0, 2), (1, 3), (2, 4), (3, 6)], [.g (.int .i64 0), .g (.int .i64 0), .g (.bool false), .g (.int .u8 0)]⟩ else none)))) else (bif Nat.blt t 11 then (bif Nat.blt t 9 then (bif Nat.beq t 8 then some ⟨4, .st [(0, 2), (1, 3), (2, 4), (3, 6)], [.g (.int .i64 0), .g (.int .i64 0), .g (.bool false), .g (.int .u8 0)]⟩ else none) else (bif Nat.blt t 10 then (bif Nat.beq t 9 then some ⟨1, .str, [.g (.str ⟨#[]⟩)]⟩ else none) else (bif Nat.beq t 10 then some ⟨1, .str, [.g (.str ⟨#[]⟩)]⟩ else none))) else (bif Nat.blt t 13 then (bif Nat.blt t 12 then (bif Nat.beq t 11 then some ⟨1, .str, [.g (.str ⟨#[]⟩)]⟩ else none) else (bif Nat.beq t 12 then some ⟨1, .int .u64, [.g (.int .u64 0)]⟩ else none)) else (bif Nat.blt t 14 then (bif Nat.beq t 13 then some ⟨2, .st [(0, 9), (1, 12)], [.g (.str ⟨#[]⟩), .g (.int .u64 0)]⟩ else none) else (bif Nat.beq t 14 then some ⟨2, .st [(0, 9), (1, 12)], [.g (.str ⟨#[]⟩), .g (.int .u64 0)]⟩ else none))))) else (bif Nat.blt t 23 then (bif Nat.blt t 18 then (bif Nat.blt t 16 then (bif Nat.beq t 15 then some ⟨1, .base, [.g .nilp]⟩ else none) else (bif Nat.blt t 17 then (bif Nat.beq t 16 then some ⟨1, .base, [.g .nilp]⟩ else none) else (bif Nat.beq t 17 then some ⟨1, .base, [.g .nilp]⟩ else none))) else (bif Nat.blt t 21 then (bif Nat.blt t 19 then (bif Nat.beq t 18 then some ⟨1, .st [(0, 17)], [.g .nilp]⟩ else none) else (bif Nat.beq t 19 then some ⟨1, .st [(0, 17)], [.g .nilp]⟩ else none)) else (bif Nat.blt t 22 then (bif Nat.beq t 21 then some ⟨1, .int .i32, [.g (.int .i32 0)]⟩ else none) else (bif Nat.beq t 22 then some ⟨1, .sl 2, [.nils 1]⟩ else none)))) else (bif Nat.blt t 26 then (bif Nat.blt t 24 then (bif Nat.beq t 23 then some ⟨3, .st [(0, 2), (1, 22), (2, 22)], [.g (.int .i64 0), .nils 1, .nils 1]⟩ else none) else (bif Nat.blt t 25 then (bif Nat.beq t 24 then some ⟨3, .st [(0, 2), (1, 22), (2, 22)], [.g (.int .i64 0), .nils 1, .nils 1]⟩ else none) else (bif Nat.beq t 25 then some ⟨1, .base, [.undef]⟩ else none))) else (bif Nat.blt t 28 then (bif Nat.blt t 27 then (bif Nat.beq t 26 then some ⟨1, .base, [.undef]⟩ else none) else (bif Nat.beq t 27 then some ⟨3, .st [(0, 2), (1, 22), (2, 22)], [.g (.int .i64 0), .nils 1, .nils 1]⟩ else none)) else (bif Nat.blt t 29 then (bif Nat.beq t 28 then some ⟨1, .base, [.undef]⟩ else none) else (bif Nat.beq t 29 then some ⟨1, .base, [.undef]⟩ else none)))))) else (bif Nat.blt t 45 then (bif Nat.blt t 38 then (bif Nat.blt t 34 then (bif Nat.blt t 32 then (bif Nat.beq t 30 then some ⟨1, .base, [.undef]⟩ else none) else (bif Nat.blt t 33 then (bif Nat.beq t 32 then some ⟨1, .base, [.undef]⟩ else none) else (bif Nat.beq t 33 then some ⟨1, .base, [.undef]⟩ else none))) else (bif Nat.blt t 36 then (bif Nat.blt t 35 then (bif Nat.beq t 34 then some ⟨1, .base, [.undef]⟩ else none) else (bif Nat.beq t 35 then some ⟨1, .sl 5, [.nils 1]⟩ else none)) else (bif Nat.blt t 37 then (bif Nat.beq t 36 then some ⟨1, .base, [.undef]⟩ else none) else (bif Nat.beq t 37 then some ⟨1, .base, [.undef]⟩ else none)))) else (bif Nat.blt t 41 then (bif Nat.blt t 39 then (bif Nat.beq t 38 then some ⟨1, .base, [.undef]⟩ else none) else (bif Nat.blt t 40 then (bif Nat.beq t 39 then some ⟨1, .base, [.undef]⟩ else none) else (bif Nat.beq t 40 then some ⟨1, .base, [.undef]⟩ else none))) else (bif Nat.blt t 43 then (bif Nat.blt t 42 then (bif Nat.beq t 41 then some ⟨1, .base, [.undef]⟩ else none) else (bif Nat.beq t 42 then some ⟨2, .st [(0, 2), (1, 2)], [.g (.int .i64 0), .g (.int .i64 0)]⟩ else none)) else (bif Nat.blt t 44 then (bif Nat.beq t 43 then some ⟨2, .st [(0, 2), (1, 2)], [.g (.int .i64 0), .g (.int .i64 0)]⟩ else none) else (bif Nat.beq t 44 then some ⟨1, .sl 9, [.nils 1]⟩ else none))))) else (bif Nat.blt t 53 then (bif Nat.blt t 48 then (bif Nat.blt t 46 then (bif Nat.beq t 45 then some ⟨1, .base, [.undef]⟩ else none) else (bif Nat.blt t 47 then (bif Nat.beq t 46 then some ⟨1, .base, [.undef]⟩ else none) else (bif Nat.beq t 47 then some ⟨1, .base, [.undef]⟩ else none))) else (bif Nat.blt t 50 then (bif Nat.blt t 49 then (bif Nat.beq t 48 then some ⟨1, .base, [.undef]⟩ else none) else (bif Nat.beq t 49 then some ⟨7, .ar 7 9, [.g (.str ⟨#[]⟩), .g (.str ⟨#[]⟩), .g (.str ⟨#[]⟩), .g (.str ⟨#[]⟩), .g (.str ⟨#[]⟩), .g (.str ⟨#[]⟩), .g (.str ⟨#[]⟩)]⟩ else none)) else (bif Nat.blt t 52 then (bif Nat.beq t 50 then some ⟨1, .base, [.undef]⟩ else none) else (bif Nat.beq t 52 then some ⟨1, .base, [.undef]⟩ else none)))) else (bif Nat.blt t 56 then (bif Nat.blt t 54 then (bif Nat.beq t 53 then some ⟨1, .base, [.undef]⟩ else none) else (bif Nat.blt t 55 then (bif Nat.beq t 54 then some ⟨1, .base, [.g .nilp]⟩ else none) else (bif Nat.beq t 55 then some ⟨1, .base, [.undef]⟩ else none))) else (bif Nat.blt t 58 then (bif Nat.blt t 57 then (bif Nat.beq t 56 then some ⟨1, .base, [.undef]⟩ else none) else (bif Nat.beq t 57 then some ⟨1, .base, [.undef]⟩ else none)) else (bif Nat.blt t 59 then (bif Nat.beq t 58 then some ⟨1, .base, [.undef]⟩ else none) else (bif Nat.beq t 59 then some ⟨1, .base, [.undef]⟩ else none))))))) else (bif Nat.blt t 93 then (bif Nat.blt t 75 then (bif Nat.blt t 68 then (bif Nat.blt t 63 then (bif Nat.blt t 61 then (bif Nat.beq t 60 then some ⟨1, .base, [.undef]⟩ else none) else (bif Nat.blt t 62 then (bif Nat.beq t 61 then some ⟨1, .base, [.undef]⟩ else none) else (bif Nat.beq t 62 then some ⟨1, .base, [.undef]⟩ else none))) else (bif Nat.blt t 65 then (bif Nat.blt t 64 then (bif Nat.beq t 63 then some ⟨1, .base, [.undef]⟩ else none) else (bif Nat.beq t 64 then some ⟨1, .base, [.undef]⟩ else none)) else (bif Nat.blt t 67 then (bif Nat.beq t 65 then some ⟨1, .base, [.undef]⟩ else none) else (bif Nat.beq t 67 then some ⟨1, .base, [.undef]⟩ else none)))) else (bif Nat.blt t 71 then (bif Nat.blt t 69 then (bif Nat.beq t 68 then some ⟨1, .base, [.undef]⟩ else none) else (bif Nat.blt t 70 then (bif Nat.beq t 69 then some ⟨1, .base, [.undef]⟩ else none) else (bif Nat.beq t 70 then some ⟨3, .st [(0, 35), (1, 3), (2, 2)], [.nils 1, .g (.int .i64 0), .g (.int .i64 0)]⟩ else none))) else (bif Nat.blt t 73 then (bif Nat.blt t 72 then (bif Nat.beq t 71 then some ⟨3, .st [(0, 35), (1, 3), (2, 2)], [.nils 1, .g (.int .i64 0), .g (.int .i64 0)]⟩ else none) else (bif Nat.beq t 72 then some ⟨1, .base, [.undef]⟩ else none)) else (bif Nat.blt t 74 then (bif Nat.beq t 73 then some ⟨1, .base, [.undef]⟩ else none) else (bif Nat.beq t 74 then some ⟨1, .base, [.undef]⟩ else none))))) else (bif Nat.blt t 85 then (bif Nat.blt t 78 then (bif Nat.blt t 76 then (bif Nat.beq t 75 then some ⟨1, .base, [.undef]⟩ else none) else (bif Nat.blt t 77 then (bif Nat.beq t 76 then some ⟨1, .base, [.undef]⟩ else none) else (bif Nat.beq t 77 then some ⟨1, .base, [.undef]⟩ else none))) else (bif Nat.blt t 80 then (bif Nat.blt t 79 then (bif Nat.beq t 78 then some ⟨1, .base, [.g .nilp]⟩ else none) else (bif Nat.beq t 79 then some ⟨2, .st [(0, 78), (1, 35)], [.g .nilp, .nils 1]⟩ else none)) else (bif Nat.blt t 81 then (bif Nat.beq t 80 then some ⟨2, .st [(0, 78), (1, 35)], [.g .nilp, .nils 1]⟩ else none) else (bif Nat.beq t 81 then some ⟨1, .base, [.undef]⟩ else none)))) else (bif Nat.blt t 88 then (bif Nat.blt t 86 then (bif Nat.beq t 85 then some ⟨1, .base, [.undef]⟩ else none) else (bif Nat.blt t 87 then (bif Nat.beq t 86 then some ⟨1, .base, [.undef]⟩ else none) else (bif Nat.beq t 87 then some ⟨1, .base, [.undef]⟩ else none))) else (bif Nat.blt t 90 then (bif Nat.blt t 89 then (bif Nat.beq t 88 then some ⟨1, .base, [.undef]⟩ else none) else (bif Nat.beq t 89 then some ⟨1, .int .u64, [.g (.int .u64 0)]⟩ else none)) else (bif Nat.blt t 91 then (bif Nat.beq t 90 then some ⟨1, .base, [.g .nilp]⟩ else none) else (bif Nat.beq t 91 then some ⟨1, .base, [.undef]⟩ else none)))))) else (bif Nat.blt t 113 then (bif Nat.blt t 103 then (bif Nat.blt t 97 then (bif Nat.blt t 94 then (bif Nat.beq t 93 then some ⟨1, .base, [.undef]⟩ else none) else (bif Nat.blt t 95 then (bif Nat.beq t 94 then some ⟨1, .base, [.undef]⟩ else none) else (bif Nat.beq t 95 then some ⟨1, .base, [.undef]⟩ else none))) else (bif Nat.blt t 99 then (bif Nat.blt t 98 then (bif Nat.beq t 97 then some ⟨1, .int .u64, [.g (.int .u64 0)]⟩ else none) else (bif Nat.beq t 98 then some ⟨1, .base, [.undef]⟩ else none)) else (bif Nat.blt t 101 then (bif Nat.beq t 99 then some ⟨1, .base, [.undef]⟩ else none) else (bif Nat.beq t 101 then some ⟨1, .base, [.undef]⟩ else none)))) else (bif Nat.blt t 106 then (bif Nat.blt t 104 then (bif Nat.beq t 103 then some ⟨1, .base, [.undef]⟩ else none) else (bif Nat.blt t 105 then (bif Nat.beq t 104 then some ⟨1, .base, [.undef]⟩ else none) else (bif Nat.beq t 105 then some ⟨1, .base, [.undef]⟩ else none))) else (bif Nat.blt t 110 then (bif Nat.blt t 108 then (bif Nat.beq t 106 then some ⟨1, .base, [.undef]⟩ else none) else (bif Nat.beq t 108 then some ⟨1, .int .u32, [.g (.int .u32 0)]⟩ else none)) else (bif Nat.blt t 111 then (bif Nat.beq t 110 then some ⟨1, .base, [.undef]⟩ else none) else (bif Nat.beq t 111 then some ⟨1, .base, [.undef]⟩ else none))))) else (bif Nat.blt t 127 then (bif Nat.blt t 118 then (bif Nat.blt t 114 then (bif Nat.beq t 113 then some ⟨2, .st [(0, 5), (1, 5)], [.g (.int .u8 0), .g (.int .u8 0)]⟩ else none) else (bif Nat.blt t 117 then (bif Nat.beq t 114 then some ⟨2, .st [(0, 5), (1, 5)], [.g (.int .u8 0), .g (.int .u8 0)]⟩ else none) else (bif Nat.beq t 117 then some ⟨1, .base, [.undef]⟩ else none))) else (bif Nat.blt t 122 then (bif Nat.blt t 121 then (bif Nat.beq t 118 then some ⟨1, .base, [.undef]⟩ else none) else (bif Nat.beq t 121 then some ⟨4, .st [(0, 17), (1, 17), (2, 17), (3, 9)], [.g .nilp, .g .nilp, .g .nilp, .g (.str ⟨#[]⟩)]⟩ else none)) else (bif Nat.blt t 126 then (bif Nat.beq t 122 then some ⟨4, .st [(0, 17), (1, 17), (2, 17), (3, 9)], [.g .nilp, .g .nilp, .g .nilp, .g (.str ⟨#[]⟩)]⟩ else none) else (bif Nat.beq t 126 then some ⟨1, .base, [.undef]⟩ else none)))) else (bif Nat.blt t 130 then (bif Nat.blt t 128 then (bif Nat.beq t 127 then some ⟨1, .int .u8, [.g (.int .u8 0)]⟩ else none) else (bif Nat.blt t 129 then (bif Nat.beq t 128 then some ⟨1, .int .u8, [.g (.int .u8 0)]⟩ else none) else (bif Nat.beq t 129 then some ⟨1, .base, [.undef]⟩ else none))) else (bif Nat.blt t 132 then (bif Nat.blt t 131 then (bif Nat.beq t 130 then some ⟨1, .int .i32, [.g (.int .i32 0)]⟩ else none) else (bif Nat.beq t 131 then some ⟨1, .int .i32, [.g (.int .i32 0)]⟩ else none)) else (bif Nat.blt t 133 then (bif Nat.beq t 132 then some ⟨11, .st [(0, 12), (1, 12), (2, 108), (3, 127), (4, 5), (5, 5), (6, 128), (7, 129), (8, 90), (9, 130), (10, 131)], [.g (.int .u64 0), .g (.int .u64 0), .g (.int .u32 0), .g (.int .u8 0), .g (.int .u8 0), .g (.int .u8 0), .g (.int .u8 0), .undef, .g .nilp, .g (.int .i32 0), .g (.int .i32 0)]⟩ else none) else (bif Nat.beq t 133 then some ⟨11, .st [(0, 12), (1, 12), (2, 108), (3, 127), (4, 5), (5, 5), (6, 128), (7, 129), (8, 90), (9, 130), (10, 131)], [.g (.int .u64 0), .g (.int .u64 0), .g (.int .u32 0), .g (.int .u8 0), .g (.int .u8 0), .g (.int .u8 0), .g (.int .u8 0), .undef, .g .nilp, .g (.int .i32 0), .g (.int .i32 0)]⟩ else none))))))))
theorem tab_ok : TabOk Tryd.prog tab := fun t i => by
  show tab t = some i → _
  have : GoodT t (tab t) := by
    unfold tab
    exact (tb_split (tb_split (tb_split (tb_split (tb_split (tb_split (tb_leaf ty1) (tb_split (tb_leaf ty2) (tb_leaf ty3))) (tb_split (tb_split (tb_leaf ty4) (tb_leaf ty5)) (tb_split (tb_leaf ty6) (tb_leaf ty7)))) (tb_split (tb_split (tb_leaf ty8) (tb_split (tb_leaf ty9) (tb_leaf ty10))) (tb_split (tb_split (tb_leaf ty11) (tb_leaf ty12)) (tb_split (tb_leaf ty13) (tb_leaf ty14))))) (tb_split (tb_split (tb_split (tb_leaf ty15) (tb_split (tb_leaf ty16) (tb_leaf ty17))) (tb_split (tb_split (tb_leaf ty18) (tb_leaf ty19)) (tb_split (tb_leaf ty21) (tb_leaf ty22)))) (tb_split (tb_split (tb_leaf ty23) (tb_split (tb_leaf ty24) (tb_leaf ty25))) (tb_split (tb_split (tb_leaf ty26) (tb_leaf ty27)) (tb_split (tb_leaf ty28) (tb_leaf ty29)))))) (tb_split (tb_split (tb_split (tb_split (tb_leaf ty30) (tb_split (tb_leaf ty32) (tb_leaf ty33))) (tb_split (tb_split (tb_leaf ty34) (tb_leaf ty35)) (tb_split (tb_leaf ty36) (tb_leaf ty37)))) (tb_split (tb_split (tb_leaf ty38) (tb_split (tb_leaf ty39) (tb_leaf ty40))) (tb_split (tb_split (tb_leaf ty41) (tb_leaf ty42)) (tb_split (tb_leaf ty43) (tb_leaf ty44))))) (tb_split (tb_split (tb_split (tb_leaf ty45) (tb_split (tb_leaf ty46) (tb_leaf ty47))) (tb_split (tb_split (tb_leaf ty48) (tb_leaf ty49)) (tb_split (tb_leaf ty50) (tb_leaf ty52)))) (tb_split (tb_split (tb_leaf ty53) (tb_split (tb_leaf ty54) (tb_leaf ty55))) (tb_split (tb_split (tb_leaf ty56) (tb_leaf ty57)) (tb_split (tb_leaf ty58) (tb_leaf ty59))))))) (tb_split (tb_split (tb_split (tb_split (tb_split (tb_leaf ty60) (tb_split (tb_leaf ty61) (tb_leaf ty62))) (tb_split (tb_split (tb_leaf ty63) (tb_leaf ty64)) (tb_split (tb_leaf ty65) (tb_leaf ty67)))) (tb_split (tb_split (tb_leaf ty68) (tb_split (tb_leaf ty69) (tb_leaf ty70))) (tb_split (tb_split (tb_leaf ty71) (tb_leaf ty72)) (tb_split (tb_leaf ty73) (tb_leaf ty74))))) (tb_split (tb_split (tb_split (tb_leaf ty75) (tb_split (tb_leaf ty76) (tb_leaf ty77))) (tb_split (tb_split (tb_leaf ty78) (tb_leaf ty79)) (tb_split (tb_leaf ty80) (tb_leaf ty81)))) (tb_split (tb_split (tb_leaf ty85) (tb_split (tb_leaf ty86) (tb_leaf ty87))) (tb_split (tb_split (tb_leaf ty88) (tb_leaf ty89)) (tb_split (tb_leaf ty90) (tb_leaf ty91)))))) (tb_split (tb_split (tb_split (tb_split (tb_leaf ty93) (tb_split (tb_leaf ty94) (tb_leaf ty95))) (tb_split (tb_split (tb_leaf ty97) (tb_leaf ty98)) (tb_split (tb_leaf ty99) (tb_leaf ty101)))) (tb_split (tb_split (tb_leaf ty103) (tb_split (tb_leaf ty104) (tb_leaf ty105))) (tb_split (tb_split (tb_leaf ty106) (tb_leaf ty108)) (tb_split (tb_leaf ty110) (tb_leaf ty111))))) (tb_split (tb_split (tb_split (tb_leaf ty113) (tb_split (tb_leaf ty114) (tb_leaf ty117))) (tb_split (tb_split (tb_leaf ty118) (tb_leaf ty121)) (tb_split (tb_leaf ty122) (tb_leaf ty126)))) (tb_split (tb_split (tb_leaf ty127) (tb_split (tb_leaf ty128) (tb_leaf ty129))) (tb_split (tb_split (tb_leaf ty130) (tb_leaf ty131)) (tb_split (tb_leaf ty132) (tb_leaf ty133))))))))
  exact this i
end Go.Proofs.YtachnjinfdagjaaDoor

