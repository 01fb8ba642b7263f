/- The facts on the program's types. Conditions: none. -/
import Derived.Test.YtaealcimocpnnaaGreatKnU
import Derived.Test.YtaealcimocpnnaaGreatProg
set_option linter.unusedVariables false
namespace Go.Proofs.YtaealcimocpnnaaGreat
open Go.Kern
theorem ty1 : tyOf Tryz.prog 1 = { ok := true, kind := .func, size := 1, bytes := 8, elem := 0, key := 0, fields := [], zero := some (.nilfn), kk := .func } := by kernel_rfl
theorem ty2 : tyOf Tryz.prog 2 = { ok := true, kind := (.int .i64), size := 1, bytes := 8, elem := 0, key := 0, fields := [], zero := some (.int .i64 0), kk := (.int .i64) } := by kernel_rfl
theorem ty3 : tyOf Tryz.prog 3 = { ok := true, kind := (.int .i64), size := 1, bytes := 8, elem := 0, key := 0, fields := [], zero := some (.int .i64 0), kk := (.int .i64) } := by kernel_rfl
theorem ty4 : tyOf Tryz.prog 4 = { ok := true, kind := .bool, size := 1, bytes := 1, elem := 0, key := 0, fields := [], zero := some (.bool false), kk := .bool } := by kernel_rfl
theorem ty5 : tyOf Tryz.prog 5 = { ok := true, kind := (.int .u8), size := 1, bytes := 1, elem := 0, key := 0, fields := [], zero := some (.int .u8 0), kk := (.int .u8) } := by kernel_rfl
theorem ty9 : tyOf Tryz.prog 9 = { ok := true, kind := .str, size := 1, bytes := 16, elem := 0, key := 0, fields := [], zero := some (.str ⟨#[]⟩), kk := .str } := by kernel_rfl
theorem ty12 : tyOf Tryz.prog 12 = { ok := true, kind := (.int .u64), size := 1, bytes := 8, elem := 0, key := 0, fields := [], zero := some (.int .u64 0), kk := (.int .u64) } := by kernel_rfl
theorem ty21 : tyOf Tryz.prog 21 = { ok := true, kind := (.int .i32), size := 1, bytes := 4, elem := 0, key := 0, fields := [], zero := some (.int .i32 0), kk := (.int .i32) } := by kernel_rfl
theorem ty22 : tyOf Tryz.prog 22 = { ok := true, kind := .slice, size := 1, bytes := 24, elem := 41, key := 0, fields := [], zero := some (.sl .nil []), kk := .slice } := by kernel_rfl
theorem ty23 : tyOf Tryz.prog 23 = { ok := true, kind := .slice, size := 1, bytes := 24, elem := 44, key := 0, fields := [], zero := some (.sl .nil []), kk := .slice } := by kernel_rfl
theorem ty24 : tyOf Tryz.prog 24 = { ok := true, kind := .slice, size := 1, bytes := 24, elem := 59, key := 0, fields := [], zero := some (.sl .nil []), kk := .slice } := by kernel_rfl
theorem ty25 : tyOf Tryz.prog 25 = { ok := true, kind := .struct, size := 3, bytes := 72, elem := 0, key := 0, fields := [(0, 1, false, 22), (1, 1, false, 23), (2, 1, false, 24)], zero := some (.agg [.sl .nil [], .sl .nil [], .sl .nil []]), kk := .struct } := by kernel_rfl
theorem ty26 : tyOf Tryz.prog 26 = { ok := true, kind := .struct, size := 3, bytes := 72, elem := 0, key := 0, fields := [(0, 1, false, 22), (1, 1, false, 23), (2, 1, false, 24)], zero := some (.agg [.sl .nil [], .sl .nil [], .sl .nil []]), kk := .struct } := by kernel_rfl
theorem ty27 : tyOf Tryz.prog 27 = { ok := true, kind := .func, size := 1, bytes := 8, elem := 0, key := 0, fields := [], zero := some (.nilfn), kk := .func } := by kernel_rfl
theorem ty28 : tyOf Tryz.prog 28 = { ok := true, kind := .func, size := 1, bytes := 8, elem := 0, key := 0, fields := [], zero := some (.nilfn), kk := .func } := by kernel_rfl
theorem ty29 : tyOf Tryz.prog 29 = { ok := true, kind := (.int .i64), size := 1, bytes := 8, elem := 0, key := 0, fields := [], zero := some (.int .i64 0), kk := (.int .i64) } := by kernel_rfl
theorem ty31 : tyOf Tryz.prog 31 = { ok := true, kind := .func, size := 1, bytes := 8, elem := 0, key := 0, fields := [], zero := some (.nilfn), kk := .func } := by kernel_rfl
theorem ty32 : tyOf Tryz.prog 32 = { ok := true, kind := .func, size := 1, bytes := 8, elem := 0, key := 0, fields := [], zero := some (.nilfn), kk := .func } := by kernel_rfl
theorem ty33 : tyOf Tryz.prog 33 = { ok := true, kind := .slice, size := 1, bytes := 24, elem := 9, key := 0, fields := [], zero := some (.sl .nil []), kk := .slice } := by kernel_rfl
theorem ty34 : tyOf Tryz.prog 34 = { ok := true, kind := .func, size := 1, bytes := 8, elem := 0, key := 0, fields := [], zero := some (.nilfn), kk := .func } := by kernel_rfl
theorem ty35 : tyOf Tryz.prog 35 = { ok := true, kind := .func, size := 1, bytes := 8, elem := 0, key := 0, fields := [], zero := some (.nilfn), kk := .func } := by kernel_rfl
theorem ty36 : tyOf Tryz.prog 36 = { ok := true, kind := .func, size := 1, bytes := 8, elem := 0, key := 0, fields := [], zero := some (.nilfn), kk := .func } := by kernel_rfl
theorem ty37 : tyOf Tryz.prog 37 = { ok := true, kind := .func, size := 1, bytes := 8, elem := 0, key := 0, fields := [], zero := some (.nilfn), kk := .func } := by kernel_rfl
theorem ty38 : tyOf Tryz.prog 38 = { ok := true, kind := .func, size := 1, bytes := 8, elem := 0, key := 0, fields := [], zero := some (.nilfn), kk := .func } := by kernel_rfl
theorem ty39 : tyOf Tryz.prog 39 = { ok := true, kind := .slice, size := 1, bytes := 24, elem := 96, key := 0, fields := [], zero := some (.sl .nil []), kk := .slice } := by kernel_rfl
theorem ty40 : tyOf Tryz.prog 40 = { ok := true, kind := .struct, size := 2, bytes := 40, elem := 0, key := 0, fields := [(0, 1, false, 9), (1, 1, false, 39)], zero := some (.agg [.str ⟨#[]⟩, .sl .nil []]), kk := .struct } := by kernel_rfl
theorem ty41 : tyOf Tryz.prog 41 = { ok := true, kind := .struct, size := 2, bytes := 40, elem := 0, key := 0, fields := [(0, 1, false, 9), (1, 1, false, 39)], zero := some (.agg [.str ⟨#[]⟩, .sl .nil []]), kk := .struct } := by kernel_rfl
theorem ty42 : tyOf Tryz.prog 42 = { ok := true, kind := .slice, size := 1, bytes := 24, elem := 54, key := 0, fields := [], zero := some (.sl .nil []), kk := .slice } := by kernel_rfl
theorem ty43 : tyOf Tryz.prog 43 = { ok := true, kind := .struct, size := 2, bytes := 40, elem := 0, key := 0, fields := [(0, 1, false, 9), (1, 1, false, 42)], zero := some (.agg [.str ⟨#[]⟩, .sl .nil []]), kk := .struct } := by kernel_rfl
theorem ty44 : tyOf Tryz.prog 44 = { ok := true, kind := .struct, size := 2, bytes := 40, elem := 0, key := 0, fields := [(0, 1, false, 9), (1, 1, false, 42)], zero := some (.agg [.str ⟨#[]⟩, .sl .nil []]), kk := .struct } := by kernel_rfl
theorem ty45 : tyOf Tryz.prog 45 = { ok := true, kind := .struct, size := 2, bytes := 16, elem := 0, key := 0, fields := [(0, 1, false, 3), (1, 1, false, 3)], zero := some (.agg [.int .i64 0, .int .i64 0]), kk := .wide [.int .i64, .int .i64] } := by kernel_rfl
theorem ty46 : tyOf Tryz.prog 46 = { ok := true, kind := .struct, size := 2, bytes := 16, elem := 0, key := 0, fields := [(0, 1, false, 3), (1, 1, false, 3)], zero := some (.agg [.int .i64 0, .int .i64 0]), kk := .wide [.int .i64, .int .i64] } := by kernel_rfl
theorem ty47 : tyOf Tryz.prog 47 = { ok := true, kind := .struct, size := 4, bytes := 48, elem := 0, key := 0, fields := [(0, 1, false, 9), (1, 1, false, 9), (2, 2, true, 46)], zero := some (.agg [.str ⟨#[]⟩, .str ⟨#[]⟩, .int .i64 0, .int .i64 0]), kk := .wide [.str, .str, .int .i64, .int .i64] } := by kernel_rfl
theorem ty48 : tyOf Tryz.prog 48 = { ok := true, kind := .struct, size := 4, bytes := 48, elem := 0, key := 0, fields := [(0, 1, false, 9), (1, 1, false, 9), (2, 2, true, 46)], zero := some (.agg [.str ⟨#[]⟩, .str ⟨#[]⟩, .int .i64 0, .int .i64 0]), kk := .wide [.str, .str, .int .i64, .int .i64] } := by kernel_rfl
theorem ty49 : tyOf Tryz.prog 49 = { ok := true, kind := .slice, size := 1, bytes := 24, elem := 46, key := 0, fields := [], zero := some (.sl .nil []), kk := .slice } := by kernel_rfl
theorem ty50 : tyOf Tryz.prog 50 = { ok := true, kind := .slice, size := 1, bytes := 24, elem := 3, key := 0, fields := [], zero := some (.sl .nil []), kk := .slice } := by kernel_rfl
theorem ty51 : tyOf Tryz.prog 51 = { ok := true, kind := .struct, size := 7, bytes := 104, elem := 0, key := 0, fields := [(0, 1, false, 3), (1, 1, false, 3), (2, 1, false, 3), (3, 1, false, 49), (4, 1, false, 49), (5, 1, false, 4), (6, 1, false, 50)], zero := some (.agg [.int .i64 0, .int .i64 0, .int .i64 0, .sl .nil [], .sl .nil [], .bool false, .sl .nil []]), kk := .struct } := by kernel_rfl
theorem ty52 : tyOf Tryz.prog 52 = { ok := true, kind := .struct, size := 7, bytes := 104, elem := 0, key := 0, fields := [(0, 1, false, 3), (1, 1, false, 3), (2, 1, false, 3), (3, 1, false, 49), (4, 1, false, 49), (5, 1, false, 4), (6, 1, false, 50)], zero := some (.agg [.int .i64 0, .int .i64 0, .int .i64 0, .sl .nil [], .sl .nil [], .bool false, .sl .nil []]), kk := .struct } := by kernel_rfl
theorem ty53 : tyOf Tryz.prog 53 = { ok := true, kind := .struct, size := 13, bytes := 168, elem := 0, key := 0, fields := [(0, 1, false, 3), (1, 1, false, 4), (2, 4, true, 48), (6, 7, true, 52)], zero := some (.agg [.int .i64 0, .bool false, .str ⟨#[]⟩, .str ⟨#[]⟩, .int .i64 0, .int .i64 0, .int .i64 0, .int .i64 0, .int .i64 0, .sl .nil [], .sl .nil [], .bool false, .sl .nil []]), kk := .struct } := by kernel_rfl
theorem ty54 : tyOf Tryz.prog 54 = { ok := true, kind := .struct, size := 13, bytes := 168, elem := 0, key := 0, fields := [(0, 1, false, 3), (1, 1, false, 4), (2, 4, true, 48), (6, 7, true, 52)], zero := some (.agg [.int .i64 0, .bool false, .str ⟨#[]⟩, .str ⟨#[]⟩, .int .i64 0, .int .i64 0, .int .i64 0, .int .i64 0, .int .i64 0, .sl .nil [], .sl .nil [], .bool false, .sl .nil []]), kk := .struct } := by kernel_rfl
theorem ty55 : tyOf Tryz.prog 55 = { ok := true, kind := .slice, size := 1, bytes := 24, elem := 94, key := 0, fields := [], zero := some (.sl .nil []), kk := .slice } := by kernel_rfl
theorem ty56 : tyOf Tryz.prog 56 = { ok := true, kind := .slice, size := 1, bytes := 24, elem := 61, key := 0, fields := [], zero := some (.sl .nil []), kk := .slice } := by kernel_rfl
theorem ty57 : tyOf Tryz.prog 57 = { ok := true, kind := .slice, size := 1, bytes := 24, elem := 63, key := 0, fields := [], zero := some (.sl .nil []), kk := .slice } := by kernel_rfl
theorem ty58 : tyOf Tryz.prog 58 = { ok := true, kind := .struct, size := 6, bytes := 104, elem := 0, key := 0, fields := [(0, 1, false, 9), (1, 1, false, 3), (2, 1, false, 3), (3, 1, false, 55), (4, 1, false, 56), (5, 1, false, 57)], zero := some (.agg [.str ⟨#[]⟩, .int .i64 0, .int .i64 0, .sl .nil [], .sl .nil [], .sl .nil []]), kk := .struct } := by kernel_rfl
theorem ty59 : tyOf Tryz.prog 59 = { ok := true, kind := .struct, size := 6, bytes := 104, elem := 0, key := 0, fields := [(0, 1, false, 9), (1, 1, false, 3), (2, 1, false, 3), (3, 1, false, 55), (4, 1, false, 56), (5, 1, false, 57)], zero := some (.agg [.str ⟨#[]⟩, .int .i64 0, .int .i64 0, .sl .nil [], .sl .nil [], .sl .nil []]), kk := .struct } := by kernel_rfl
theorem ty60 : tyOf Tryz.prog 60 = { ok := true, kind := .struct, size := 4, bytes := 56, elem := 0, key := 0, fields := [(0, 1, false, 9), (1, 1, false, 9), (2, 1, false, 9), (3, 1, false, 4)], zero := some (.agg [.str ⟨#[]⟩, .str ⟨#[]⟩, .str ⟨#[]⟩, .bool false]), kk := .wide [.str, .str, .str, .bool] } := by kernel_rfl
theorem ty61 : tyOf Tryz.prog 61 = { ok := true, kind := .struct, size := 4, bytes := 56, elem := 0, key := 0, fields := [(0, 1, false, 9), (1, 1, false, 9), (2, 1, false, 9), (3, 1, false, 4)], zero := some (.agg [.str ⟨#[]⟩, .str ⟨#[]⟩, .str ⟨#[]⟩, .bool false]), kk := .wide [.str, .str, .str, .bool] } := by kernel_rfl
theorem ty62 : tyOf Tryz.prog 62 = { ok := true, kind := .struct, size := 2, bytes := 24, elem := 0, key := 0, fields := [(0, 1, false, 9), (1, 1, false, 3)], zero := some (.agg [.str ⟨#[]⟩, .int .i64 0]), kk := .wide [.str, .int .i64] } := by kernel_rfl
theorem ty63 : tyOf Tryz.prog 63 = { ok := true, kind := .struct, size := 2, bytes := 24, elem := 0, key := 0, fields := [(0, 1, false, 9), (1, 1, false, 3)], zero := some (.agg [.str ⟨#[]⟩, .int .i64 0]), kk := .wide [.str, .int .i64] } := by kernel_rfl
theorem ty64 : tyOf Tryz.prog 64 = { ok := true, kind := .ptr, size := 1, bytes := 8, elem := 70, key := 0, fields := [], zero := some (.nilp), kk := .ptr } := by kernel_rfl
theorem ty65 : tyOf Tryz.prog 65 = { ok := true, kind := .ptr, size := 1, bytes := 8, elem := 68, key := 0, fields := [], zero := some (.nilp), kk := .ptr } := by kernel_rfl
theorem ty66 : tyOf Tryz.prog 66 = { ok := true, kind := .slice, size := 1, bytes := 24, elem := 5, key := 0, fields := [], zero := some (.sl .nil []), kk := .slice } := by kernel_rfl
theorem ty67 : tyOf Tryz.prog 67 = { ok := true, kind := .struct, size := 2, bytes := 32, elem := 0, key := 0, fields := [(0, 1, false, 65), (1, 1, false, 66)], zero := some (.agg [.nilp, .sl .nil []]), kk := .struct } := by kernel_rfl
theorem ty68 : tyOf Tryz.prog 68 = { ok := true, kind := .struct, size := 2, bytes := 32, elem := 0, key := 0, fields := [(0, 1, false, 65), (1, 1, false, 66)], zero := some (.agg [.nilp, .sl .nil []]), kk := .struct } := by kernel_rfl
theorem ty69 : tyOf Tryz.prog 69 = { ok := true, kind := .struct, size := 2, bytes := 32, elem := 0, key := 0, fields := [(0, 2, true, 68)], zero := some (.agg [.nilp, .sl .nil []]), kk := .struct } := by kernel_rfl
theorem ty70 : tyOf Tryz.prog 70 = { ok := true, kind := .struct, size := 2, bytes := 32, elem := 0, key := 0, fields := [(0, 2, true, 68)], zero := some (.agg [.nilp, .sl .nil []]), kk := .struct } := by kernel_rfl
theorem ty71 : tyOf Tryz.prog 71 = { ok := true, kind := .func, size := 1, bytes := 8, elem := 0, key := 0, fields := [], zero := some (.nilfn), kk := .func } := by kernel_rfl
theorem ty72 : tyOf Tryz.prog 72 = { ok := true, kind := .func, size := 1, bytes := 8, elem := 0, key := 0, fields := [], zero := some (.nilfn), kk := .func } := by kernel_rfl
theorem ty73 : tyOf Tryz.prog 73 = { ok := true, kind := .func, size := 1, bytes := 8, elem := 0, key := 0, fields := [], zero := some (.nilfn), kk := .func } := by kernel_rfl
theorem ty74 : tyOf Tryz.prog 74 = { ok := true, kind := .func, size := 1, bytes := 8, elem := 0, key := 0, fields := [], zero := some (.nilfn), kk := .func } := by kernel_rfl
theorem ty75 : tyOf Tryz.prog 75 = { ok := true, kind := .func, size := 1, bytes := 8, elem := 0, key := 0, fields := [], zero := some (.nilfn), kk := .func } := by kernel_rfl
theorem ty76 : tyOf Tryz.prog 76 = { ok := true, kind := .func, size := 1, bytes := 8, elem := 0, key := 0, fields := [], zero := some (.nilfn), kk := .func } := by kernel_rfl
theorem ty77 : tyOf Tryz.prog 77 = { ok := true, kind := .func, size := 1, bytes := 8, elem := 0, key := 0, fields := [], zero := some (.nilfn), kk := .func } := by kernel_rfl
theorem ty78 : tyOf Tryz.prog 78 = { ok := true, kind := .func, size := 1, bytes := 8, elem := 0, key := 0, fields := [], zero := some (.nilfn), kk := .func } := by kernel_rfl
theorem ty79 : tyOf Tryz.prog 79 = { ok := true, kind := .func, size := 1, bytes := 8, elem := 0, key := 0, fields := [], zero := some (.nilfn), kk := .func } := by kernel_rfl
theorem ty80 : tyOf Tryz.prog 80 = { ok := true, kind := .func, size := 1, bytes := 8, elem := 0, key := 0, fields := [], zero := some (.nilfn), kk := .func } := by kernel_rfl
theorem ty81 : tyOf Tryz.prog 81 = { ok := true, kind := .func, size := 1, bytes := 8, elem := 0, key := 0, fields := [], zero := some (.nilfn), kk := .func } := by kernel_rfl
theorem ty82 : tyOf Tryz.prog 82 = { ok := true, kind := .func, size := 1, bytes := 8, elem := 0, key := 0, fields := [], zero := some (.nilfn), kk := .func } := by kernel_rfl
theorem ty83 : tyOf Tryz.prog 83 = { ok := true, kind := .func, size := 1, bytes := 8, elem := 0, key := 0, fields := [], zero := some (.nilfn), kk := .func } := by kernel_rfl
theorem ty84 : tyOf Tryz.prog 84 = { ok := true, kind := .func, size := 1, bytes := 8, elem := 0, key := 0, fields := [], zero := some (.nilfn), kk := .func } := by kernel_rfl
theorem ty85 : tyOf Tryz.prog 85 = { ok := true, kind := .func, size := 1, bytes := 8, elem := 0, key := 0, fields := [], zero := some (.nilfn), kk := .func } := by kernel_rfl
theorem ty86 : tyOf Tryz.prog 86 = { ok := true, kind := .func, size := 1, bytes := 8, elem := 0, key := 0, fields := [], zero := some (.nilfn), kk := .func } := by kernel_rfl
theorem ty87 : tyOf Tryz.prog 87 = { ok := true, kind := .func, size := 1, bytes := 8, elem := 0, key := 0, fields := [], zero := some (.nilfn), kk := .func } := by kernel_rfl
theorem ty88 : tyOf Tryz.prog 88 = { ok := true, kind := .func, size := 1, bytes := 8, elem := 0, key := 0, fields := [], zero := some (.nilfn), kk := .func } := by kernel_rfl
theorem ty89 : tyOf Tryz.prog 89 = { ok := true, kind := .func, size := 1, bytes := 8, elem := 0, key := 0, fields := [], zero := some (.nilfn), kk := .func } := by kernel_rfl
theorem ty90 : tyOf Tryz.prog 90 = { ok := true, kind := .func, size := 1, bytes := 8, elem := 0, key := 0, fields := [], zero := some (.nilfn), kk := .func } := by kernel_rfl
theorem ty91 : tyOf Tryz.prog 91 = { ok := true, kind := .func, size := 1, bytes := 8, elem := 0, key := 0, fields := [], zero := some (.nilfn), kk := .func } := by kernel_rfl
theorem ty92 : tyOf Tryz.prog 92 = { ok := true, kind := (.int .u32), size := 1, bytes := 4, elem := 0, key := 0, fields := [], zero := some (.int .u32 0), kk := (.int .u32) } := by kernel_rfl
theorem ty93 : tyOf Tryz.prog 93 = { ok := true, kind := .struct, size := 2, bytes := 16, elem := 0, key := 0, fields := [(0, 1, false, 92), (1, 1, false, 3)], zero := some (.agg [.int .u32 0, .int .i64 0]), kk := .wide [.int .u32, .int .i64] } := by kernel_rfl
theorem ty94 : tyOf Tryz.prog 94 = { ok := true, kind := .struct, size := 2, bytes := 16, elem := 0, key := 0, fields := [(0, 1, false, 92), (1, 1, false, 3)], zero := some (.agg [.int .u32 0, .int .i64 0]), kk := .wide [.int .u32, .int .i64] } := by kernel_rfl
theorem ty95 : tyOf Tryz.prog 95 = { ok := true, kind := .struct, size := 5, bytes := 40, elem := 0, key := 0, fields := [(0, 2, true, 94), (2, 1, false, 3), (3, 1, false, 3), (4, 1, false, 4)], zero := some (.agg [.int .u32 0, .int .i64 0, .int .i64 0, .int .i64 0, .bool false]), kk := .wide [.int .u32, .int .i64, .int .i64, .int .i64, .bool] } := by kernel_rfl
theorem ty96 : tyOf Tryz.prog 96 = { ok := true, kind := .struct, size := 5, bytes := 40, elem := 0, key := 0, fields := [(0, 2, true, 94), (2, 1, false, 3), (3, 1, false, 3), (4, 1, false, 4)], zero := some (.agg [.int .u32 0, .int .i64 0, .int .i64 0, .int .i64 0, .bool false]), kk := .wide [.int .u32, .int .i64, .int .i64, .int .i64, .bool] } := by kernel_rfl
theorem ty97 : tyOf Tryz.prog 97 = { ok := true, kind := .func, size := 1, bytes := 8, elem := 0, key := 0, fields := [], zero := some (.nilfn), kk := .func } := by kernel_rfl
theorem ty98 : tyOf Tryz.prog 98 = { ok := true, kind := .func, size := 1, bytes := 8, elem := 0, key := 0, fields := [], zero := some (.nilfn), kk := .func } := by kernel_rfl
theorem ty99 : tyOf Tryz.prog 99 = { ok := true, kind := .func, size := 1, bytes := 8, elem := 0, key := 0, fields := [], zero := some (.nilfn), kk := .func } := by kernel_rfl
theorem ty100 : tyOf Tryz.prog 100 = { ok := true, kind := .func, size := 1, bytes := 8, elem := 0, key := 0, fields := [], zero := some (.nilfn), kk := .func } := by kernel_rfl
theorem ty101 : tyOf Tryz.prog 101 = { ok := true, kind := .func, size := 1, bytes := 8, elem := 0, key := 0, fields := [], zero := some (.nilfn), kk := .func } := by kernel_rfl
theorem ty102 : tyOf Tryz.prog 102 = { ok := true, kind := .func, size := 1, bytes := 8, elem := 0, key := 0, fields := [], zero := some (.nilfn), kk := .func } := by kernel_rfl
theorem ty103 : tyOf Tryz.prog 103 = { ok := true, kind := .func, size := 1, bytes := 8, elem := 0, key := 0, fields := [], zero := some (.nilfn), kk := .func } := by kernel_rfl
theorem ty104 : tyOf Tryz.prog 104 = { ok := true, kind := .func, size := 1, bytes := 8, elem := 0, key := 0, fields := [], zero := some (.nilfn), kk := .func } := by kernel_rfl
theorem ty105 : tyOf Tryz.prog 105 = { ok := true, kind := .func, size := 1, bytes := 8, elem := 0, key := 0, fields := [], zero := some (.nilfn), kk := .func } := by kernel_rfl
theorem ty106 : tyOf Tryz.prog 106 = { ok := true, kind := .func, size := 1, bytes := 8, elem := 0, key := 0, fields := [], zero := some (.nilfn), kk := .func } := by kernel_rfl
theorem ty107 : tyOf Tryz.prog 107 = { ok := true, kind := .func, size := 1, bytes := 8, elem := 0, key := 0, fields := [], zero := some (.nilfn), kk := .func } := by kernel_rfl
theorem ty108 : tyOf Tryz.prog 108 = { ok := true, kind := .func, size := 1, bytes := 8, elem := 0, key := 0, fields := [], zero := some (.nilfn), kk := .func } := by kernel_rfl
theorem ty109 : tyOf Tryz.prog 109 = { ok := true, kind := .func, size := 1, bytes := 8, elem := 0, key := 0, fields := [], zero := some (.nilfn), kk := .func } := by kernel_rfl
theorem ty110 : tyOf Tryz.prog 110 = { ok := true, kind := .func, size := 1, bytes := 8, elem := 0, key := 0, fields := [], zero := some (.nilfn), kk := .func } := by kernel_rfl
theorem ty111 : tyOf Tryz.prog 111 = { ok := true, kind := .func, size := 1, bytes := 8, elem := 0, key := 0, fields := [], zero := some (.nilfn), kk := .func } := by kernel_rfl
theorem ty112 : tyOf Tryz.prog 112 = { ok := true, kind := .func, size := 1, bytes := 8, elem := 0, key := 0, fields := [], zero := some (.nilfn), kk := .func } := by kernel_rfl
theorem ty113 : tyOf Tryz.prog 113 = { ok := true, kind := .func, size := 1, bytes := 8, elem := 0, key := 0, fields := [], zero := some (.nilfn), kk := .func } := by kernel_rfl
theorem ty114 : tyOf Tryz.prog 114 = { ok := true, kind := .ptr, size := 1, bytes := 8, elem := 5, key := 0, fields := [], zero := some (.nilp), kk := .ptr } := by kernel_rfl
theorem ty115 : tyOf Tryz.prog 115 = { ok := true, kind := .func, size := 1, bytes := 8, elem := 0, key := 0, fields := [], zero := some (.nilfn), kk := .func } := by kernel_rfl
theorem ty116 : tyOf Tryz.prog 116 = { ok := true, kind := .func, size := 1, bytes := 8, elem := 0, key := 0, fields := [], zero := some (.nilfn), kk := .func } := by kernel_rfl
theorem ty117 : tyOf Tryz.prog 117 = { ok := true, kind := .func, size := 1, bytes := 8, elem := 0, key := 0, fields := [], zero := some (.nilfn), kk := .func } := by kernel_rfl
theorem ty118 : tyOf Tryz.prog 118 = { ok := true, kind := .func, size := 1, bytes := 8, elem := 0, key := 0, fields := [], zero := some (.nilfn), kk := .func } := by kernel_rfl
theorem ty119 : tyOf Tryz.prog 119 = { ok := true, kind := .func, size := 1, bytes := 8, elem := 0, key := 0, fields := [], zero := some (.nilfn), kk := .func } := by kernel_rfl
theorem ty120 : tyOf Tryz.prog 120 = { ok := true, kind := .func, size := 1, bytes := 8, elem := 0, key := 0, fields := [], zero := some (.nilfn), kk := .func } := by kernel_rfl
theorem ty121 : tyOf Tryz.prog 121 = { ok := true, kind := .func, size := 1, bytes := 8, elem := 0, key := 0, fields := [], zero := some (.nilfn), kk := .func } := by kernel_rfl
theorem ty122 : tyOf Tryz.prog 122 = { ok := true, kind := .func, size := 1, bytes := 8, elem := 0, key := 0, fields := [], zero := some (.nilfn), kk := .func } := by kernel_rfl
theorem ty123 : tyOf Tryz.prog 123 = { ok := true, kind := .func, size := 1, bytes := 8, elem := 0, key := 0, fields := [], zero := some (.nilfn), kk := .func } := by kernel_rfl
theorem ty124 : tyOf Tryz.prog 124 = { ok := true, kind := .func, size := 1, bytes := 8, elem := 0, key := 0, fields := [], zero := some (.nilfn), kk := .func } := by kernel_rfl
theorem ty125 : tyOf Tryz.prog 125 = { ok := true, kind := .func, size := 1, bytes := 8, elem := 0, key := 0, fields := [], zero := some (.nilfn), kk := .func } := by kernel_rfl
theorem ty126 : tyOf Tryz.prog 126 = { ok := true, kind := .func, size := 1, bytes := 8, elem := 0, key := 0, fields := [], zero := some (.nilfn), kk := .func } := by kernel_rfl
theorem ty127 : tyOf Tryz.prog 127 = { ok := true, kind := .func, size := 1, bytes := 8, elem := 0, key := 0, fields := [], zero := some (.nilfn), kk := .func } := by kernel_rfl
theorem ty128 : tyOf Tryz.prog 128 = { ok := true, kind := .func, size := 1, bytes := 8, elem := 0, key := 0, fields := [], zero := some (.nilfn), kk := .func } := by kernel_rfl
theorem ty129 : tyOf Tryz.prog 129 = { ok := true, kind := .func, size := 1, bytes := 8, elem := 0, key := 0, fields := [], zero := some (.nilfn), kk := .func } := by kernel_rfl
theorem ty130 : tyOf Tryz.prog 130 = { ok := true, kind := .func, size := 1, bytes := 8, elem := 0, key := 0, fields := [], zero := some (.nilfn), kk := .func } := by kernel_rfl
theorem ty131 : tyOf Tryz.prog 131 = { ok := true, kind := .func, size := 1, bytes := 8, elem := 0, key := 0, fields := [], zero := some (.nilfn), kk := .func } := by kernel_rfl
theorem ty132 : tyOf Tryz.prog 132 = { ok := true, kind := .func, size := 1, bytes := 8, elem := 0, key := 0, fields := [], zero := some (.nilfn), kk := .func } := by kernel_rfl
theorem ty133 : tyOf Tryz.prog 133 = { ok := true, kind := .func, size := 1, bytes := 8, elem := 0, key := 0, fields := [], zero := some (.nilfn), kk := .func } := by kernel_rfl
theorem ty134 : tyOf Tryz.prog 134 = { ok := true, kind := .func, size := 1, bytes := 8, elem := 0, key := 0, fields := [], zero := some (.nilfn), kk := .func } := by kernel_rfl
theorem ty135 : tyOf Tryz.prog 135 = { ok := true, kind := .func, size := 1, bytes := 8, elem := 0, key := 0, fields := [], zero := some (.nilfn), kk := .func } := by kernel_rfl
theorem ty136 : tyOf Tryz.prog 136 = { ok := true, kind := .func, size := 1, bytes := 8, elem := 0, key := 0, fields := [], zero := some (.nilfn), kk := .func } := by kernel_rfl
theorem ty137 : tyOf Tryz.prog 137 = { ok := true, kind := .func, size := 1, bytes := 8, elem := 0, key := 0, fields := [], zero := some (.nilfn), kk := .func } := by kernel_rfl
theorem ty138 : tyOf Tryz.prog 138 = { ok := true, kind := .func, size := 1, bytes := 8, elem := 0, key := 0, fields := [], zero := some (.nilfn), kk := .func } := by kernel_rfl
theorem ty139 : tyOf Tryz.prog 139 = { ok := true, kind := .func, size := 1, bytes := 8, elem := 0, key := 0, fields := [], zero := some (.nilfn), kk := .func } := by kernel_rfl
theorem ty140 : tyOf Tryz.prog 140 = { ok := true, kind := .func, size := 1, bytes := 8, elem := 0, key := 0, fields := [], zero := some (.nilfn), kk := .func } := by kernel_rfl
theorem ty141 : tyOf Tryz.prog 141 = { ok := true, kind := .map, size := 1, bytes := 8, elem := 4, key := 9, fields := [], zero := some (.nilmap), kk := .map } := by kernel_rfl
theorem ty142 : tyOf Tryz.prog 142 = { ok := true, kind := .func, size := 1, bytes := 8, elem := 0, key := 0, fields := [], zero := some (.nilfn), kk := .func } := by kernel_rfl
theorem ty143 : tyOf Tryz.prog 143 = { ok := true, kind := .func, size := 1, bytes := 8, elem := 0, key := 0, fields := [], zero := some (.nilfn), kk := .func } := by kernel_rfl
theorem ty144 : tyOf Tryz.prog 144 = { ok := true, kind := .func, size := 1, bytes := 8, elem := 0, key := 0, fields := [], zero := some (.nilfn), kk := .func } := by kernel_rfl
theorem ty145 : tyOf Tryz.prog 145 = { ok := true, kind := .func, size := 1, bytes := 8, elem := 0, key := 0, fields := [], zero := some (.nilfn), kk := .func } := by kernel_rfl
theorem ty146 : tyOf Tryz.prog 146 = { ok := true, kind := .slice, size := 1, bytes := 24, elem := 33, key := 0, fields := [], zero := some (.sl .nil []), kk := .slice } := by kernel_rfl
theorem ty147 : tyOf Tryz.prog 147 = { ok := true, kind := .func, size := 1, bytes := 8, elem := 0, key := 0, fields := [], zero := some (.nilfn), kk := .func } := by kernel_rfl
theorem ty148 : tyOf Tryz.prog 148 = { ok := true, kind := .map, size := 1, bytes := 8, elem := 41, key := 9, fields := [], zero := some (.nilmap), kk := .map } := by kernel_rfl
theorem ty150 : tyOf Tryz.prog 150 = { ok := true, kind := .func, size := 1, bytes := 8, elem := 0, key := 0, fields := [], zero := some (.nilfn), kk := .func } := by kernel_rfl
theorem ty151 : tyOf Tryz.prog 151 = { ok := true, kind := .func, size := 1, bytes := 8, elem := 0, key := 0, fields := [], zero := some (.nilfn), kk := .func } := by kernel_rfl
theorem ty152 : tyOf Tryz.prog 152 = { ok := true, kind := .func, size := 1, bytes := 8, elem := 0, key := 0, fields := [], zero := some (.nilfn), kk := .func } := by kernel_rfl
theorem ty153 : tyOf Tryz.prog 153 = { ok := true, kind := .func, size := 1, bytes := 8, elem := 0, key := 0, fields := [], zero := some (.nilfn), kk := .func } := by kernel_rfl
theorem ty154 : tyOf Tryz.prog 154 = { ok := true, kind := .func, size := 1, bytes := 8, elem := 0, key := 0, fields := [], zero := some (.nilfn), kk := .func } := by kernel_rfl
theorem ty155 : tyOf Tryz.prog 155 = { ok := true, kind := .map, size := 1, bytes := 8, elem := 44, key := 9, fields := [], zero := some (.nilmap), kk := .map } := by kernel_rfl
theorem ty157 : tyOf Tryz.prog 157 = { ok := true, kind := .func, size := 1, bytes := 8, elem := 0, key := 0, fields := [], zero := some (.nilfn), kk := .func } := by kernel_rfl
theorem ty158 : tyOf Tryz.prog 158 = { ok := true, kind := .func, size := 1, bytes := 8, elem := 0, key := 0, fields := [], zero := some (.nilfn), kk := .func } := by kernel_rfl
theorem ty159 : tyOf Tryz.prog 159 = { ok := true, kind := .func, size := 1, bytes := 8, elem := 0, key := 0, fields := [], zero := some (.nilfn), kk := .func } := by kernel_rfl
theorem ty160 : tyOf Tryz.prog 160 = { ok := true, kind := .map, size := 1, bytes := 8, elem := 59, key := 9, fields := [], zero := some (.nilmap), kk := .map } := by kernel_rfl
theorem ty162 : tyOf Tryz.prog 162 = { ok := true, kind := .func, size := 1, bytes := 8, elem := 0, key := 0, fields := [], zero := some (.nilfn), kk := .func } := by kernel_rfl
theorem ty163 : tyOf Tryz.prog 163 = { ok := true, kind := .func, size := 1, bytes := 8, elem := 0, key := 0, fields := [], zero := some (.nilfn), kk := .func } := by kernel_rfl
theorem ty164 : tyOf Tryz.prog 164 = { ok := true, kind := .func, size := 1, bytes := 8, elem := 0, key := 0, fields := [], zero := some (.nilfn), kk := .func } := by kernel_rfl
theorem ty166 : tyOf Tryz.prog 166 = { ok := true, kind := .iface, size := 1, bytes := 16, elem := 0, key := 0, fields := [], zero := some (.nilifc), kk := .iface } := by kernel_rfl
theorem ty168 : tyOf Tryz.prog 168 = { ok := true, kind := .func, size := 1, bytes := 8, elem := 0, key := 0, fields := [], zero := some (.nilfn), kk := .func } := by kernel_rfl
theorem ty169 : tyOf Tryz.prog 169 = { ok := true, kind := .func, size := 1, bytes := 8, elem := 0, key := 0, fields := [], zero := some (.nilfn), kk := .func } := by kernel_rfl
theorem ty170 : tyOf Tryz.prog 170 = { ok := true, kind := .func, size := 1, bytes := 8, elem := 0, key := 0, fields := [], zero := some (.nilfn), kk := .func } := by kernel_rfl
theorem ty171 : tyOf Tryz.prog 171 = { ok := true, kind := .func, size := 1, bytes := 8, elem := 0, key := 0, fields := [], zero := some (.nilfn), kk := .func } := by kernel_rfl
theorem ty172 : tyOf Tryz.prog 172 = { ok := true, kind := .func, size := 1, bytes := 8, elem := 0, key := 0, fields := [], zero := some (.nilfn), kk := .func } := by kernel_rfl
theorem ty173 : tyOf Tryz.prog 173 = { ok := true, kind := .func, size := 1, bytes := 8, elem := 0, key := 0, fields := [], zero := some (.nilfn), kk := .func } := by kernel_rfl
theorem ty174 : tyOf Tryz.prog 174 = { ok := true, kind := .func, size := 1, bytes := 8, elem := 0, key := 0, fields := [], zero := some (.nilfn), kk := .func } := by kernel_rfl
theorem ty175 : tyOf Tryz.prog 175 = { ok := true, kind := .func, size := 1, bytes := 8, elem := 0, key := 0, fields := [], zero := some (.nilfn), kk := .func } := by kernel_rfl
theorem ty176 : tyOf Tryz.prog 176 = { ok := true, kind := .slice, size := 1, bytes := 24, elem := 178, key := 0, fields := [], zero := some (.sl .nil []), kk := .slice } := by kernel_rfl
theorem ty177 : tyOf Tryz.prog 177 = { ok := true, kind := .struct, size := 6, bytes := 88, elem := 0, key := 0, fields := [(0, 1, false, 3), (1, 1, false, 4), (2, 1, false, 4), (3, 1, false, 50), (4, 1, false, 50), (5, 1, false, 176)], zero := some (.agg [.int .i64 0, .bool false, .bool false, .sl .nil [], .sl .nil [], .sl .nil []]), kk := .struct } := by kernel_rfl
theorem ty178 : tyOf Tryz.prog 178 = { ok := true, kind := .struct, size := 6, bytes := 88, elem := 0, key := 0, fields := [(0, 1, false, 3), (1, 1, false, 4), (2, 1, false, 4), (3, 1, false, 50), (4, 1, false, 50), (5, 1, false, 176)], zero := some (.agg [.int .i64 0, .bool false, .bool false, .sl .nil [], .sl .nil [], .sl .nil []]), kk := .struct } := by kernel_rfl
theorem ty179 : tyOf Tryz.prog 179 = { ok := true, kind := .struct, size := 8, bytes := 96, elem := 0, key := 0, fields := [(0, 1, false, 4), (1, 1, false, 4), (2, 6, true, 178)], zero := some (.agg [.bool false, .bool false, .int .i64 0, .bool false, .bool false, .sl .nil [], .sl .nil [], .sl .nil []]), kk := .struct } := by kernel_rfl
theorem ty180 : tyOf Tryz.prog 180 = { ok := true, kind := .struct, size := 8, bytes := 96, elem := 0, key := 0, fields := [(0, 1, false, 4), (1, 1, false, 4), (2, 6, true, 178)], zero := some (.agg [.bool false, .bool false, .int .i64 0, .bool false, .bool false, .sl .nil [], .sl .nil [], .sl .nil []]), kk := .struct } := by kernel_rfl
theorem ty182 : tyOf Tryz.prog 182 = { ok := true, kind := .func, size := 1, bytes := 8, elem := 0, key := 0, fields := [], zero := some (.nilfn), kk := .func } := by kernel_rfl
theorem ty183 : tyOf Tryz.prog 183 = { ok := true, kind := .func, size := 1, bytes := 8, elem := 0, key := 0, fields := [], zero := some (.nilfn), kk := .func } := by kernel_rfl
theorem ty184 : tyOf Tryz.prog 184 = { ok := true, kind := .func, size := 1, bytes := 8, elem := 0, key := 0, fields := [], zero := some (.nilfn), kk := .func } := by kernel_rfl
theorem ty185 : tyOf Tryz.prog 185 = { ok := true, kind := .func, size := 1, bytes := 8, elem := 0, key := 0, fields := [], zero := some (.nilfn), kk := .func } := by kernel_rfl
theorem ty186 : tyOf Tryz.prog 186 = { ok := true, kind := .func, size := 1, bytes := 8, elem := 0, key := 0, fields := [], zero := some (.nilfn), kk := .func } := by kernel_rfl
theorem ty187 : tyOf Tryz.prog 187 = { ok := true, kind := .ptr, size := 1, bytes := 8, elem := 217, key := 0, fields := [], zero := some (.nilp), kk := .ptr } := by kernel_rfl
theorem ty189 : tyOf Tryz.prog 189 = { ok := true, kind := .func, size := 1, bytes := 8, elem := 0, key := 0, fields := [], zero := some (.nilfn), kk := .func } := by kernel_rfl
theorem ty190 : tyOf Tryz.prog 190 = { ok := true, kind := .func, size := 1, bytes := 8, elem := 0, key := 0, fields := [], zero := some (.nilfn), kk := .func } := by kernel_rfl
theorem ty191 : tyOf Tryz.prog 191 = { ok := true, kind := .func, size := 1, bytes := 8, elem := 0, key := 0, fields := [], zero := some (.nilfn), kk := .func } := by kernel_rfl
theorem ty192 : tyOf Tryz.prog 192 = { ok := true, kind := .func, size := 1, bytes := 8, elem := 0, key := 0, fields := [], zero := some (.nilfn), kk := .func } := by kernel_rfl
theorem ty193 : tyOf Tryz.prog 193 = { ok := true, kind := .func, size := 1, bytes := 8, elem := 0, key := 0, fields := [], zero := some (.nilfn), kk := .func } := by kernel_rfl
theorem ty194 : tyOf Tryz.prog 194 = { ok := true, kind := .func, size := 1, bytes := 8, elem := 0, key := 0, fields := [], zero := some (.nilfn), kk := .func } := by kernel_rfl
theorem ty195 : tyOf Tryz.prog 195 = { ok := true, kind := .func, size := 1, bytes := 8, elem := 0, key := 0, fields := [], zero := some (.nilfn), kk := .func } := by kernel_rfl
theorem ty196 : tyOf Tryz.prog 196 = { ok := true, kind := .func, size := 1, bytes := 8, elem := 0, key := 0, fields := [], zero := some (.nilfn), kk := .func } := by kernel_rfl
theorem ty197 : tyOf Tryz.prog 197 = { ok := true, kind := .func, size := 1, bytes := 8, elem := 0, key := 0, fields := [], zero := some (.nilfn), kk := .func } := by kernel_rfl
theorem ty198 : tyOf Tryz.prog 198 = { ok := true, kind := .func, size := 1, bytes := 8, elem := 0, key := 0, fields := [], zero := some (.nilfn), kk := .func } := by kernel_rfl
theorem ty199 : tyOf Tryz.prog 199 = { ok := true, kind := .func, size := 1, bytes := 8, elem := 0, key := 0, fields := [], zero := some (.nilfn), kk := .func } := by kernel_rfl
theorem ty200 : tyOf Tryz.prog 200 = { ok := true, kind := (.int .u64), size := 1, bytes := 8, elem := 0, key := 0, fields := [], zero := some (.int .u64 0), kk := (.int .u64) } := by kernel_rfl
theorem ty202 : tyOf Tryz.prog 202 = { ok := true, kind := .func, size := 1, bytes := 8, elem := 0, key := 0, fields := [], zero := some (.nilfn), kk := .func } := by kernel_rfl
theorem ty203 : tyOf Tryz.prog 203 = { ok := true, kind := .func, size := 1, bytes := 8, elem := 0, key := 0, fields := [], zero := some (.nilfn), kk := .func } := by kernel_rfl
theorem ty204 : tyOf Tryz.prog 204 = { ok := true, kind := .func, size := 1, bytes := 8, elem := 0, key := 0, fields := [], zero := some (.nilfn), kk := .func } := by kernel_rfl
theorem ty205 : tyOf Tryz.prog 205 = { ok := true, kind := .func, size := 1, bytes := 8, elem := 0, key := 0, fields := [], zero := some (.nilfn), kk := .func } := by kernel_rfl
theorem ty206 : tyOf Tryz.prog 206 = { ok := true, kind := .func, size := 1, bytes := 8, elem := 0, key := 0, fields := [], zero := some (.nilfn), kk := .func } := by kernel_rfl
theorem ty207 : tyOf Tryz.prog 207 = { ok := true, kind := .func, size := 1, bytes := 8, elem := 0, key := 0, fields := [], zero := some (.nilfn), kk := .func } := by kernel_rfl
theorem ty209 : tyOf Tryz.prog 209 = { ok := true, kind := .func, size := 1, bytes := 8, elem := 0, key := 0, fields := [], zero := some (.nilfn), kk := .func } := by kernel_rfl
theorem ty210 : tyOf Tryz.prog 210 = { ok := true, kind := .func, size := 1, bytes := 8, elem := 0, key := 0, fields := [], zero := some (.nilfn), kk := .func } := by kernel_rfl
theorem ty211 : tyOf Tryz.prog 211 = { ok := true, kind := .ptr, size := 1, bytes := 8, elem := 213, key := 0, fields := [], zero := some (.nilp), kk := .ptr } := by kernel_rfl
theorem ty212 : tyOf Tryz.prog 212 = { ok := true, kind := .struct, size := 3, bytes := 32, elem := 0, key := 0, fields := [(0, 1, false, 9), (1, 1, false, 3), (2, 1, false, 29)], zero := some (.agg [.str ⟨#[]⟩, .int .i64 0, .int .i64 0]), kk := .wide [.str, .int .i64, .int .i64] } := by kernel_rfl
theorem ty213 : tyOf Tryz.prog 213 = { ok := true, kind := .struct, size := 3, bytes := 32, elem := 0, key := 0, fields := [(0, 1, false, 9), (1, 1, false, 3), (2, 1, false, 29)], zero := some (.agg [.str ⟨#[]⟩, .int .i64 0, .int .i64 0]), kk := .wide [.str, .int .i64, .int .i64] } := by kernel_rfl
theorem ty214 : tyOf Tryz.prog 214 = { ok := true, kind := .func, size := 1, bytes := 8, elem := 0, key := 0, fields := [], zero := some (.nilfn), kk := .func } := by kernel_rfl
theorem ty215 : tyOf Tryz.prog 215 = { ok := true, kind := .ptr, size := 1, bytes := 8, elem := 240, key := 0, fields := [], zero := some (.nilp), kk := .ptr } := by kernel_rfl
theorem ty216 : tyOf Tryz.prog 216 = { ok := true, kind := .struct, size := 3, bytes := 16, elem := 0, key := 0, fields := [(0, 1, false, 4), (1, 1, false, 4), (2, 1, false, 215)], zero := some (.agg [.bool false, .bool false, .nilp]), kk := .struct } := by kernel_rfl
theorem ty217 : tyOf Tryz.prog 217 = { ok := true, kind := .struct, size := 3, bytes := 16, elem := 0, key := 0, fields := [(0, 1, false, 4), (1, 1, false, 4), (2, 1, false, 215)], zero := some (.agg [.bool false, .bool false, .nilp]), kk := .struct } := by kernel_rfl
theorem ty218 : tyOf Tryz.prog 218 = { ok := true, kind := .func, size := 1, bytes := 8, elem := 0, key := 0, fields := [], zero := some (.nilfn), kk := .func } := by kernel_rfl
theorem ty219 : tyOf Tryz.prog 219 = { ok := true, kind := .func, size := 1, bytes := 8, elem := 0, key := 0, fields := [], zero := some (.nilfn), kk := .func } := by kernel_rfl
theorem ty220 : tyOf Tryz.prog 220 = { ok := true, kind := .func, size := 1, bytes := 8, elem := 0, key := 0, fields := [], zero := some (.nilfn), kk := .func } := by kernel_rfl
theorem ty221 : tyOf Tryz.prog 221 = { ok := true, kind := .func, size := 1, bytes := 8, elem := 0, key := 0, fields := [], zero := some (.nilfn), kk := .func } := by kernel_rfl
theorem ty222 : tyOf Tryz.prog 222 = { ok := true, kind := .func, size := 1, bytes := 8, elem := 0, key := 0, fields := [], zero := some (.nilfn), kk := .func } := by kernel_rfl
theorem ty223 : tyOf Tryz.prog 223 = { ok := true, kind := .func, size := 1, bytes := 8, elem := 0, key := 0, fields := [], zero := some (.nilfn), kk := .func } := by kernel_rfl
theorem ty224 : tyOf Tryz.prog 224 = { ok := true, kind := .func, size := 1, bytes := 8, elem := 0, key := 0, fields := [], zero := some (.nilfn), kk := .func } := by kernel_rfl
theorem ty225 : tyOf Tryz.prog 225 = { ok := true, kind := .func, size := 1, bytes := 8, elem := 0, key := 0, fields := [], zero := some (.nilfn), kk := .func } := by kernel_rfl
theorem ty226 : tyOf Tryz.prog 226 = { ok := true, kind := .func, size := 1, bytes := 8, elem := 0, key := 0, fields := [], zero := some (.nilfn), kk := .func } := by kernel_rfl
theorem ty227 : tyOf Tryz.prog 227 = { ok := true, kind := .func, size := 1, bytes := 8, elem := 0, key := 0, fields := [], zero := some (.nilfn), kk := .func } := by kernel_rfl
theorem ty228 : tyOf Tryz.prog 228 = { ok := true, kind := .func, size := 1, bytes := 8, elem := 0, key := 0, fields := [], zero := some (.nilfn), kk := .func } := by kernel_rfl
theorem ty229 : tyOf Tryz.prog 229 = { ok := true, kind := .func, size := 1, bytes := 8, elem := 0, key := 0, fields := [], zero := some (.nilfn), kk := .func } := by kernel_rfl
theorem ty230 : tyOf Tryz.prog 230 = { ok := true, kind := .uptr, size := 1, bytes := 8, elem := 0, key := 0, fields := [], zero := some (.nilp), kk := .uptr } := by kernel_rfl
theorem ty231 : tyOf Tryz.prog 231 = { ok := true, kind := .func, size := 1, bytes := 8, elem := 0, key := 0, fields := [], zero := some (.nilfn), kk := .func } := by kernel_rfl
theorem ty233 : tyOf Tryz.prog 233 = { ok := true, kind := .func, size := 1, bytes := 8, elem := 0, key := 0, fields := [], zero := some (.nilfn), kk := .func } := by kernel_rfl
theorem ty234 : tyOf Tryz.prog 234 = { ok := true, kind := (.int .u64), size := 1, bytes := 8, elem := 0, key := 0, fields := [], zero := some (.int .u64 0), kk := (.int .u64) } := by kernel_rfl
theorem ty236 : tyOf Tryz.prog 236 = { ok := true, kind := .func, size := 1, bytes := 8, elem := 0, key := 0, fields := [], zero := some (.nilfn), kk := .func } := by kernel_rfl
theorem ty237 : tyOf Tryz.prog 237 = { ok := true, kind := .slice, size := 1, bytes := 24, elem := 265, key := 0, fields := [], zero := some (.sl .nil []), kk := .slice } := by kernel_rfl
theorem ty238 : tyOf Tryz.prog 238 = { ok := true, kind := .slice, size := 1, bytes := 24, elem := 215, key := 0, fields := [], zero := some (.sl .nil []), kk := .slice } := by kernel_rfl
theorem ty239 : tyOf Tryz.prog 239 = { ok := true, kind := .struct, size := 5, bytes := 64, elem := 0, key := 0, fields := [(0, 1, false, 3), (1, 1, false, 4), (2, 1, false, 4), (3, 1, false, 237), (4, 1, false, 238)], zero := some (.agg [.int .i64 0, .bool false, .bool false, .sl .nil [], .sl .nil []]), kk := .struct } := by kernel_rfl
theorem ty240 : tyOf Tryz.prog 240 = { ok := true, kind := .struct, size := 5, bytes := 64, elem := 0, key := 0, fields := [(0, 1, false, 3), (1, 1, false, 4), (2, 1, false, 4), (3, 1, false, 237), (4, 1, false, 238)], zero := some (.agg [.int .i64 0, .bool false, .bool false, .sl .nil [], .sl .nil []]), kk := .struct } := by kernel_rfl
theorem ty241 : tyOf Tryz.prog 241 = { ok := true, kind := .func, size := 1, bytes := 8, elem := 0, key := 0, fields := [], zero := some (.nilfn), kk := .func } := by kernel_rfl
theorem ty242 : tyOf Tryz.prog 242 = { ok := true, kind := .func, size := 1, bytes := 8, elem := 0, key := 0, fields := [], zero := some (.nilfn), kk := .func } := by kernel_rfl
theorem ty243 : tyOf Tryz.prog 243 = { ok := true, kind := .func, size := 1, bytes := 8, elem := 0, key := 0, fields := [], zero := some (.nilfn), kk := .func } := by kernel_rfl
theorem ty244 : tyOf Tryz.prog 244 = { ok := true, kind := .func, size := 1, bytes := 8, elem := 0, key := 0, fields := [], zero := some (.nilfn), kk := .func } := by kernel_rfl
theorem ty245 : tyOf Tryz.prog 245 = { ok := true, kind := (.int .i64), size := 1, bytes := 8, elem := 0, key := 0, fields := [], zero := some (.int .i64 0), kk := (.int .i64) } := by kernel_rfl
theorem ty247 : tyOf Tryz.prog 247 = { ok := true, kind := .func, size := 1, bytes := 8, elem := 0, key := 0, fields := [], zero := some (.nilfn), kk := .func } := by kernel_rfl
theorem ty248 : tyOf Tryz.prog 248 = { ok := true, kind := .func, size := 1, bytes := 8, elem := 0, key := 0, fields := [], zero := some (.nilfn), kk := .func } := by kernel_rfl
theorem ty249 : tyOf Tryz.prog 249 = { ok := true, kind := .func, size := 1, bytes := 8, elem := 0, key := 0, fields := [], zero := some (.nilfn), kk := .func } := by kernel_rfl
theorem ty251 : tyOf Tryz.prog 251 = { ok := true, kind := .func, size := 1, bytes := 8, elem := 0, key := 0, fields := [], zero := some (.nilfn), kk := .func } := by kernel_rfl
theorem ty252 : tyOf Tryz.prog 252 = { ok := true, kind := .func, size := 1, bytes := 8, elem := 0, key := 0, fields := [], zero := some (.nilfn), kk := .func } := by kernel_rfl
theorem ty253 : tyOf Tryz.prog 253 = { ok := true, kind := .func, size := 1, bytes := 8, elem := 0, key := 0, fields := [], zero := some (.nilfn), kk := .func } := by kernel_rfl
theorem ty254 : tyOf Tryz.prog 254 = { ok := true, kind := .func, size := 1, bytes := 8, elem := 0, key := 0, fields := [], zero := some (.nilfn), kk := .func } := by kernel_rfl
theorem ty255 : tyOf Tryz.prog 255 = { ok := true, kind := .func, size := 1, bytes := 8, elem := 0, key := 0, fields := [], zero := some (.nilfn), kk := .func } := by kernel_rfl
theorem ty257 : tyOf Tryz.prog 257 = { ok := true, kind := .func, size := 1, bytes := 8, elem := 0, key := 0, fields := [], zero := some (.nilfn), kk := .func } := by kernel_rfl
theorem ty258 : tyOf Tryz.prog 258 = { ok := true, kind := (.int .u64), size := 1, bytes := 8, elem := 0, key := 0, fields := [], zero := some (.int .u64 0), kk := (.int .u64) } := by kernel_rfl
theorem ty259 : tyOf Tryz.prog 259 = { ok := true, kind := .func, size := 1, bytes := 8, elem := 0, key := 0, fields := [], zero := some (.nilfn), kk := .func } := by kernel_rfl
theorem ty260 : tyOf Tryz.prog 260 = { ok := true, kind := .func, size := 1, bytes := 8, elem := 0, key := 0, fields := [], zero := some (.nilfn), kk := .func } := by kernel_rfl
theorem ty261 : tyOf Tryz.prog 261 = { ok := true, kind := .func, size := 1, bytes := 8, elem := 0, key := 0, fields := [], zero := some (.nilfn), kk := .func } := by kernel_rfl
theorem ty262 : tyOf Tryz.prog 262 = { ok := true, kind := .ptr, size := 1, bytes := 8, elem := 3, key := 0, fields := [], zero := some (.nilp), kk := .ptr } := by kernel_rfl
theorem ty263 : tyOf Tryz.prog 263 = { ok := true, kind := .func, size := 1, bytes := 8, elem := 0, key := 0, fields := [], zero := some (.nilfn), kk := .func } := by kernel_rfl
theorem ty264 : tyOf Tryz.prog 264 = { ok := true, kind := .struct, size := 2, bytes := 16, elem := 0, key := 0, fields := [(0, 1, false, 3), (1, 1, false, 3)], zero := some (.agg [.int .i64 0, .int .i64 0]), kk := .wide [.int .i64, .int .i64] } := by kernel_rfl
theorem ty265 : tyOf Tryz.prog 265 = { ok := true, kind := .struct, size := 2, bytes := 16, elem := 0, key := 0, fields := [(0, 1, false, 3), (1, 1, false, 3)], zero := some (.agg [.int .i64 0, .int .i64 0]), kk := .wide [.int .i64, .int .i64] } := by kernel_rfl
theorem ty266 : tyOf Tryz.prog 266 = { ok := true, kind := .func, size := 1, bytes := 8, elem := 0, key := 0, fields := [], zero := some (.nilfn), kk := .func } := by kernel_rfl
theorem ty267 : tyOf Tryz.prog 267 = { ok := true, kind := .ptr, size := 1, bytes := 8, elem := 258, key := 0, fields := [], zero := some (.nilp), kk := .ptr } := by kernel_rfl
theorem ty269 : tyOf Tryz.prog 269 = { ok := true, kind := .func, size := 1, bytes := 8, elem := 0, key := 0, fields := [], zero := some (.nilfn), kk := .func } := by kernel_rfl
theorem ty277 : tyOf Tryz.prog 277 = { ok := true, kind := .func, size := 1, bytes := 8, elem := 0, key := 0, fields := [], zero := some (.nilfn), kk := .func } := by kernel_rfl
attribute [go_sem] ty1 ty2 ty3 ty4 ty5 ty9 ty12 ty21 ty22 ty23 ty24 ty25 ty26 ty27 ty28 ty29 ty31 ty32 ty33 ty34 ty35 ty36 ty37 ty38 ty39 ty40 ty41 ty42 ty43 ty44 ty45 ty46 ty47 ty48 ty49 ty50 ty51 ty52 ty53 ty54 ty55 ty56 ty57 ty58 ty59 ty60 ty61 ty62 ty63 ty64 ty65 ty66 ty67 ty68 ty69 ty70 ty71 ty72 ty73 ty74 ty75 ty76 ty77 ty78 ty79 ty80 ty81 ty82 ty83 ty84 ty85 ty86 ty87 ty88 ty89 ty90 ty91 ty92 ty93 ty94 ty95 ty96 ty97 ty98 ty99 ty100 ty101 ty102 ty103 ty104 ty105 ty106 ty107 ty108 ty109 ty110 ty111 ty112 ty113 ty114 ty115 ty116 ty117 ty118 ty119 ty120 ty121 ty122 ty123 ty124 ty125 ty126 ty127 ty128 ty129 ty130 ty131 ty132 ty133 ty134 ty135 ty136 ty137 ty138 ty139 ty140 ty141 ty142 ty143 ty144 ty145 ty146 ty147 ty148 ty150 ty151 ty152 ty153 ty154 ty155 ty157 ty158 ty159 ty160 ty162 ty163 ty164 ty166 ty168 ty169 ty170 ty171 ty172 ty173 ty174 ty175 ty176 ty177 ty178 ty179 ty180 ty182 ty183 ty184 ty185 ty186 ty187 ty189 ty190 ty191 ty192 ty193 ty194 ty195 ty196 ty197 ty198 ty199 ty200 ty202 ty203 ty204 ty205 ty206 ty207 ty209 ty210 ty211 ty212 ty213 ty214 ty215 ty216 ty217 ty218 ty219 ty220 ty221 ty222 ty223 ty224 ty225 ty226 ty227 ty228 ty229 ty230 ty231 ty233 ty234 ty236 ty237 ty238 ty239 ty240 ty241 ty242 ty243 ty244 ty245 ty247 ty248 ty249 ty251 ty252 ty253 ty254 ty255 ty257 ty258 ty259 ty260 ty261 ty262 ty263 ty264 ty265 ty266 ty267 ty269 ty277
theorem mixedOrders_ok : Tryz.prog.follows .mixedOrders = true := by kernel_rfl
theorem mx : Tryz.prog.follows .mixedOrders = true := mixedOrders_ok
end Go.Proofs.YtaealcimocpnnaaGreat
