/- The facts on the program's types. Conditions: none. -/
import Derived.Test.YtlbhhoojbokblaaKnO
import Derived.Test.YtlbhhoojbokblaaProg
set_option linter.unusedVariables false
namespace Go.Proofs.Ytlbhhoojbokblaa
open Go.Kern
theorem ty1 : tyOf Try.prog 1 = { ok := true, kind := .func, size := 1, bytes := 8, elem := 0, key := 0, fields := [], zero := some (.nilfn), kk := .func } := by kernel_rfl
theorem ty2 : tyOf Try.prog 2 = { ok := true, kind := (.int .i64), size := 1, bytes := 8, elem := 0, key := 0, fields := [], zero := some (.int .i64 0), kk := (.int .i64) } := by kernel_rfl
theorem ty3 : tyOf Try.prog 3 = { ok := true, kind := (.int .i64), size := 1, bytes := 8, elem := 0, key := 0, fields := [], zero := some (.int .i64 0), kk := (.int .i64) } := by kernel_rfl
theorem ty4 : tyOf Try.prog 4 = { ok := true, kind := .bool, size := 1, bytes := 1, elem := 0, key := 0, fields := [], zero := some (.bool false), kk := .bool } := by kernel_rfl
theorem ty5 : tyOf Try.prog 5 = { ok := true, kind := (.int .u8), size := 1, bytes := 1, elem := 0, key := 0, fields := [], zero := some (.int .u8 0), kk := (.int .u8) } := by kernel_rfl
theorem ty9 : tyOf Try.prog 9 = { ok := true, kind := .str, size := 1, bytes := 16, elem := 0, key := 0, fields := [], zero := some (.str ⟨#[]⟩), kk := .str } := by kernel_rfl
theorem ty12 : tyOf Try.prog 12 = { ok := true, kind := (.int .u64), size := 1, bytes := 8, elem := 0, key := 0, fields := [], zero := some (.int .u64 0), kk := (.int .u64) } := by kernel_rfl
theorem ty21 : tyOf Try.prog 21 = { ok := true, kind := (.int .i32), size := 1, bytes := 4, elem := 0, key := 0, fields := [], zero := some (.int .i32 0), kk := (.int .i32) } := by kernel_rfl
theorem ty22 : tyOf Try.prog 22 = { ok := true, kind := .slice, size := 1, bytes := 24, elem := 3, key := 0, fields := [], zero := some (.sl .nil []), kk := .slice } := by kernel_rfl
theorem ty23 : tyOf Try.prog 23 = { ok := true, kind := .slice, size := 1, bytes := 24, elem := 71, key := 0, fields := [], zero := some (.sl .nil []), kk := .slice } := by kernel_rfl
theorem ty24 : tyOf Try.prog 24 = { ok := true, kind := .struct, size := 7, bytes := 104, elem := 0, key := 0, fields := [(0, 1, false, 3), (1, 1, false, 3), (2, 1, false, 3), (3, 1, false, 22), (4, 1, false, 23), (5, 1, false, 3), (6, 1, false, 22)], zero := some (.agg [.int .i64 0, .int .i64 0, .int .i64 0, .sl .nil [], .sl .nil [], .int .i64 0, .sl .nil []]), kk := .struct } := by kernel_rfl
theorem ty25 : tyOf Try.prog 25 = { ok := true, kind := .struct, size := 7, bytes := 104, elem := 0, key := 0, fields := [(0, 1, false, 3), (1, 1, false, 3), (2, 1, false, 3), (3, 1, false, 22), (4, 1, false, 23), (5, 1, false, 3), (6, 1, false, 22)], zero := some (.agg [.int .i64 0, .int .i64 0, .int .i64 0, .sl .nil [], .sl .nil [], .int .i64 0, .sl .nil []]), kk := .struct } := by kernel_rfl
theorem ty26 : tyOf Try.prog 26 = { ok := true, kind := .struct, size := 8, bytes := 112, elem := 0, key := 0, fields := [(0, 7, true, 25), (7, 1, false, 3)], zero := some (.agg [.int .i64 0, .int .i64 0, .int .i64 0, .sl .nil [], .sl .nil [], .int .i64 0, .sl .nil [], .int .i64 0]), kk := .struct } := by kernel_rfl
theorem ty27 : tyOf Try.prog 27 = { ok := true, kind := .struct, size := 8, bytes := 112, elem := 0, key := 0, fields := [(0, 7, true, 25), (7, 1, false, 3)], zero := some (.agg [.int .i64 0, .int .i64 0, .int .i64 0, .sl .nil [], .sl .nil [], .int .i64 0, .sl .nil [], .int .i64 0]), kk := .struct } := by kernel_rfl
theorem ty28 : tyOf Try.prog 28 = { ok := true, kind := .struct, size := 11, bytes := 136, elem := 0, key := 0, fields := [(0, 8, true, 27), (8, 1, false, 3), (9, 1, false, 4), (10, 1, false, 3)], zero := some (.agg [.int .i64 0, .int .i64 0, .int .i64 0, .sl .nil [], .sl .nil [], .int .i64 0, .sl .nil [], .int .i64 0, .int .i64 0, .bool false, .int .i64 0]), kk := .struct } := by kernel_rfl
theorem ty29 : tyOf Try.prog 29 = { ok := true, kind := .struct, size := 11, bytes := 136, elem := 0, key := 0, fields := [(0, 8, true, 27), (8, 1, false, 3), (9, 1, false, 4), (10, 1, false, 3)], zero := some (.agg [.int .i64 0, .int .i64 0, .int .i64 0, .sl .nil [], .sl .nil [], .int .i64 0, .sl .nil [], .int .i64 0, .int .i64 0, .bool false, .int .i64 0]), kk := .struct } := by kernel_rfl
theorem ty30 : tyOf Try.prog 30 = { ok := true, kind := .func, size := 1, bytes := 8, elem := 0, key := 0, fields := [], zero := some (.nilfn), kk := .func } := by kernel_rfl
theorem ty31 : tyOf Try.prog 31 = { ok := true, kind := .slice, size := 1, bytes := 24, elem := 29, key := 0, fields := [], zero := some (.sl .nil []), kk := .slice } := by kernel_rfl
theorem ty32 : tyOf Try.prog 32 = { ok := true, kind := .func, size := 1, bytes := 8, elem := 0, key := 0, fields := [], zero := some (.nilfn), kk := .func } := by kernel_rfl
theorem ty34 : tyOf Try.prog 34 = { ok := true, kind := .func, size := 1, bytes := 8, elem := 0, key := 0, fields := [], zero := some (.nilfn), kk := .func } := by kernel_rfl
theorem ty35 : tyOf Try.prog 35 = { ok := true, kind := .struct, size := 8, bytes := 112, elem := 0, key := 0, fields := [(0, 7, true, 25), (7, 1, false, 3)], zero := some (.agg [.int .i64 0, .int .i64 0, .int .i64 0, .sl .nil [], .sl .nil [], .int .i64 0, .sl .nil [], .int .i64 0]), kk := .struct } := by kernel_rfl
theorem ty36 : tyOf Try.prog 36 = { ok := true, kind := .struct, size := 11, bytes := 136, elem := 0, key := 0, fields := [(0, 8, true, 35), (8, 1, false, 3), (9, 1, false, 4), (10, 1, false, 3)], zero := some (.agg [.int .i64 0, .int .i64 0, .int .i64 0, .sl .nil [], .sl .nil [], .int .i64 0, .sl .nil [], .int .i64 0, .int .i64 0, .bool false, .int .i64 0]), kk := .struct } := by kernel_rfl
theorem ty37 : tyOf Try.prog 37 = { ok := true, kind := .struct, size := 11, bytes := 136, elem := 0, key := 0, fields := [(0, 8, true, 35), (8, 1, false, 3), (9, 1, false, 4), (10, 1, false, 3)], zero := some (.agg [.int .i64 0, .int .i64 0, .int .i64 0, .sl .nil [], .sl .nil [], .int .i64 0, .sl .nil [], .int .i64 0, .int .i64 0, .bool false, .int .i64 0]), kk := .struct } := by kernel_rfl
theorem ty38 : tyOf Try.prog 38 = { ok := true, kind := .func, size := 1, bytes := 8, elem := 0, key := 0, fields := [], zero := some (.nilfn), kk := .func } := by kernel_rfl
theorem ty39 : tyOf Try.prog 39 = { ok := true, kind := .func, size := 1, bytes := 8, elem := 0, key := 0, fields := [], zero := some (.nilfn), kk := .func } := by kernel_rfl
theorem ty40 : tyOf Try.prog 40 = { ok := true, kind := .func, size := 1, bytes := 8, elem := 0, key := 0, fields := [], zero := some (.nilfn), kk := .func } := by kernel_rfl
theorem ty41 : tyOf Try.prog 41 = { ok := true, kind := .func, size := 1, bytes := 8, elem := 0, key := 0, fields := [], zero := some (.nilfn), kk := .func } := by kernel_rfl
theorem ty42 : tyOf Try.prog 42 = { ok := true, kind := .slice, size := 1, bytes := 24, elem := 37, key := 0, fields := [], zero := some (.sl .nil []), kk := .slice } := by kernel_rfl
theorem ty43 : tyOf Try.prog 43 = { ok := true, kind := .func, size := 1, bytes := 8, elem := 0, key := 0, fields := [], zero := some (.nilfn), kk := .func } := by kernel_rfl
theorem ty44 : tyOf Try.prog 44 = { ok := true, kind := .func, size := 1, bytes := 8, elem := 0, key := 0, fields := [], zero := some (.nilfn), kk := .func } := by kernel_rfl
theorem ty45 : tyOf Try.prog 45 = { ok := true, kind := .func, size := 1, bytes := 8, elem := 0, key := 0, fields := [], zero := some (.nilfn), kk := .func } := by kernel_rfl
theorem ty46 : tyOf Try.prog 46 = { ok := true, kind := .func, size := 1, bytes := 8, elem := 0, key := 0, fields := [], zero := some (.nilfn), kk := .func } := by kernel_rfl
theorem ty47 : tyOf Try.prog 47 = { ok := true, kind := .func, size := 1, bytes := 8, elem := 0, key := 0, fields := [], zero := some (.nilfn), kk := .func } := by kernel_rfl
theorem ty48 : tyOf Try.prog 48 = { ok := true, kind := .func, size := 1, bytes := 8, elem := 0, key := 0, fields := [], zero := some (.nilfn), kk := .func } := by kernel_rfl
theorem ty49 : tyOf Try.prog 49 = { ok := true, kind := .func, size := 1, bytes := 8, elem := 0, key := 0, fields := [], zero := some (.nilfn), kk := .func } := by kernel_rfl
theorem ty50 : tyOf Try.prog 50 = { ok := true, kind := .func, size := 1, bytes := 8, elem := 0, key := 0, fields := [], zero := some (.nilfn), kk := .func } := by kernel_rfl
theorem ty51 : tyOf Try.prog 51 = { ok := true, kind := .func, size := 1, bytes := 8, elem := 0, key := 0, fields := [], zero := some (.nilfn), kk := .func } := by kernel_rfl
theorem ty52 : tyOf Try.prog 52 = { ok := true, kind := .func, size := 1, bytes := 8, elem := 0, key := 0, fields := [], zero := some (.nilfn), kk := .func } := by kernel_rfl
theorem ty53 : tyOf Try.prog 53 = { ok := true, kind := .func, size := 1, bytes := 8, elem := 0, key := 0, fields := [], zero := some (.nilfn), kk := .func } := by kernel_rfl
theorem ty54 : tyOf Try.prog 54 = { ok := true, kind := .func, size := 1, bytes := 8, elem := 0, key := 0, fields := [], zero := some (.nilfn), kk := .func } := by kernel_rfl
theorem ty55 : tyOf Try.prog 55 = { ok := true, kind := .func, size := 1, bytes := 8, elem := 0, key := 0, fields := [], zero := some (.nilfn), kk := .func } := by kernel_rfl
theorem ty56 : tyOf Try.prog 56 = { ok := true, kind := .func, size := 1, bytes := 8, elem := 0, key := 0, fields := [], zero := some (.nilfn), kk := .func } := by kernel_rfl
theorem ty57 : tyOf Try.prog 57 = { ok := true, kind := .func, size := 1, bytes := 8, elem := 0, key := 0, fields := [], zero := some (.nilfn), kk := .func } := by kernel_rfl
theorem ty58 : tyOf Try.prog 58 = { ok := true, kind := .func, size := 1, bytes := 8, elem := 0, key := 0, fields := [], zero := some (.nilfn), kk := .func } := by kernel_rfl
theorem ty59 : tyOf Try.prog 59 = { ok := true, kind := .func, size := 1, bytes := 8, elem := 0, key := 0, fields := [], zero := some (.nilfn), kk := .func } := by kernel_rfl
theorem ty60 : tyOf Try.prog 60 = { ok := true, kind := .slice, size := 1, bytes := 24, elem := 4, key := 0, fields := [], zero := some (.sl .nil []), kk := .slice } := by kernel_rfl
theorem ty61 : tyOf Try.prog 61 = { ok := true, kind := .slice, size := 1, bytes := 24, elem := 9, key := 0, fields := [], zero := some (.sl .nil []), kk := .slice } := by kernel_rfl
theorem ty62 : tyOf Try.prog 62 = { ok := true, kind := .func, size := 1, bytes := 8, elem := 0, key := 0, fields := [], zero := some (.nilfn), kk := .func } := by kernel_rfl
theorem ty63 : tyOf Try.prog 63 = { ok := true, kind := .func, size := 1, bytes := 8, elem := 0, key := 0, fields := [], zero := some (.nilfn), kk := .func } := by kernel_rfl
theorem ty64 : tyOf Try.prog 64 = { ok := true, kind := .func, size := 1, bytes := 8, elem := 0, key := 0, fields := [], zero := some (.nilfn), kk := .func } := by kernel_rfl
theorem ty65 : tyOf Try.prog 65 = { ok := true, kind := .func, size := 1, bytes := 8, elem := 0, key := 0, fields := [], zero := some (.nilfn), kk := .func } := by kernel_rfl
theorem ty66 : tyOf Try.prog 66 = { ok := true, kind := .func, size := 1, bytes := 8, elem := 0, key := 0, fields := [], zero := some (.nilfn), kk := .func } := by kernel_rfl
theorem ty67 : tyOf Try.prog 67 = { ok := true, kind := .func, size := 1, bytes := 8, elem := 0, key := 0, fields := [], zero := some (.nilfn), kk := .func } := by kernel_rfl
theorem ty68 : tyOf Try.prog 68 = { ok := true, kind := .func, size := 1, bytes := 8, elem := 0, key := 0, fields := [], zero := some (.nilfn), kk := .func } := by kernel_rfl
theorem ty69 : tyOf Try.prog 69 = { ok := true, kind := .func, size := 1, bytes := 8, elem := 0, key := 0, fields := [], zero := some (.nilfn), kk := .func } := by kernel_rfl
theorem ty70 : tyOf Try.prog 70 = { ok := true, kind := .struct, size := 2, bytes := 16, elem := 0, key := 0, fields := [(0, 1, false, 3), (1, 1, false, 3)], zero := some (.agg [.int .i64 0, .int .i64 0]), kk := .wide [.int .i64, .int .i64] } := by kernel_rfl
theorem ty71 : tyOf Try.prog 71 = { ok := true, kind := .struct, size := 2, bytes := 16, elem := 0, key := 0, fields := [(0, 1, false, 3), (1, 1, false, 3)], zero := some (.agg [.int .i64 0, .int .i64 0]), kk := .wide [.int .i64, .int .i64] } := by kernel_rfl
theorem ty72 : tyOf Try.prog 72 = { ok := true, kind := .func, size := 1, bytes := 8, elem := 0, key := 0, fields := [], zero := some (.nilfn), kk := .func } := by kernel_rfl
theorem ty73 : tyOf Try.prog 73 = { ok := true, kind := .func, size := 1, bytes := 8, elem := 0, key := 0, fields := [], zero := some (.nilfn), kk := .func } := by kernel_rfl
theorem ty74 : tyOf Try.prog 74 = { ok := true, kind := .func, size := 1, bytes := 8, elem := 0, key := 0, fields := [], zero := some (.nilfn), kk := .func } := by kernel_rfl
theorem ty75 : tyOf Try.prog 75 = { ok := true, kind := .func, size := 1, bytes := 8, elem := 0, key := 0, fields := [], zero := some (.nilfn), kk := .func } := by kernel_rfl
theorem ty76 : tyOf Try.prog 76 = { ok := true, kind := .func, size := 1, bytes := 8, elem := 0, key := 0, fields := [], zero := some (.nilfn), kk := .func } := by kernel_rfl
theorem ty77 : tyOf Try.prog 77 = { ok := true, kind := .func, size := 1, bytes := 8, elem := 0, key := 0, fields := [], zero := some (.nilfn), kk := .func } := by kernel_rfl
theorem ty78 : tyOf Try.prog 78 = { ok := true, kind := .func, size := 1, bytes := 8, elem := 0, key := 0, fields := [], zero := some (.nilfn), kk := .func } := by kernel_rfl
theorem ty79 : tyOf Try.prog 79 = { ok := true, kind := .func, size := 1, bytes := 8, elem := 0, key := 0, fields := [], zero := some (.nilfn), kk := .func } := by kernel_rfl
theorem ty80 : tyOf Try.prog 80 = { ok := true, kind := .func, size := 1, bytes := 8, elem := 0, key := 0, fields := [], zero := some (.nilfn), kk := .func } := by kernel_rfl
theorem ty81 : tyOf Try.prog 81 = { ok := true, kind := (.int .u64), size := 1, bytes := 8, elem := 0, key := 0, fields := [], zero := some (.int .u64 0), kk := (.int .u64) } := by kernel_rfl
theorem ty82 : tyOf Try.prog 82 = { ok := true, kind := .func, size := 1, bytes := 8, elem := 0, key := 0, fields := [], zero := some (.nilfn), kk := .func } := by kernel_rfl
theorem ty88 : tyOf Try.prog 88 = { ok := true, kind := .func, size := 1, bytes := 8, elem := 0, key := 0, fields := [], zero := some (.nilfn), kk := .func } := by kernel_rfl
theorem ty89 : tyOf Try.prog 89 = { ok := true, kind := (.int .u32), size := 1, bytes := 4, elem := 0, key := 0, fields := [], zero := some (.int .u32 0), kk := (.int .u32) } := by kernel_rfl
theorem ty92 : tyOf Try.prog 92 = { ok := true, kind := .func, size := 1, bytes := 8, elem := 0, key := 0, fields := [], zero := some (.nilfn), kk := .func } := by kernel_rfl
theorem ty93 : tyOf Try.prog 93 = { ok := true, kind := .ptr, size := 1, bytes := 8, elem := 5, key := 0, fields := [], zero := some (.nilp), kk := .ptr } := by kernel_rfl
attribute [go_sem] ty1 ty2 ty3 ty4 ty5 ty9 ty12 ty21 ty22 ty23 ty24 ty25 ty26 ty27 ty28 ty29 ty30 ty31 ty32 ty34 ty35 ty36 ty37 ty38 ty39 ty40 ty41 ty42 ty43 ty44 ty45 ty46 ty47 ty48 ty49 ty50 ty51 ty52 ty53 ty54 ty55 ty56 ty57 ty58 ty59 ty60 ty61 ty62 ty63 ty64 ty65 ty66 ty67 ty68 ty69 ty70 ty71 ty72 ty73 ty74 ty75 ty76 ty77 ty78 ty79 ty80 ty81 ty82 ty88 ty89 ty92 ty93
theorem mixedOrders_ok : Try.prog.follows .mixedOrders = true := by kernel_rfl
end Go.Proofs.Ytlbhhoojbokblaa
