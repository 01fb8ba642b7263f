/- The facts on the program's types. Conditions: none. -/
import Derived.Test.YtlbhhoojbokblaaKnO
import Derived.Test.YtlbhhoojbokblaaProg
set_option linter.unusedVariables false
namespace Go.Proofs.Ytlbhhoojbokblaa
open Go.Kern
theorem ty2 : tyOf Try.prog 2 = { ok := true, kind := (.int .i64), size := 1, bytes := 8, elem := 0, key := 0, fields := [], zero := some (.int .i64 0) } := by kernel_rfl
theorem ty3 : tyOf Try.prog 3 = { ok := true, kind := (.int .i64), size := 1, bytes := 8, elem := 0, key := 0, fields := [], zero := some (.int .i64 0) } := by kernel_rfl
theorem ty4 : tyOf Try.prog 4 = { ok := true, kind := .bool, size := 1, bytes := 1, elem := 0, key := 0, fields := [], zero := some (.bool false) } := by kernel_rfl
theorem ty5 : tyOf Try.prog 5 = { ok := true, kind := (.int .u8), size := 1, bytes := 1, elem := 0, key := 0, fields := [], zero := some (.int .u8 0) } := by kernel_rfl
theorem ty9 : tyOf Try.prog 9 = { ok := true, kind := .str, size := 1, bytes := 16, elem := 0, key := 0, fields := [], zero := some (.str ⟨#[]⟩) } := by kernel_rfl
theorem ty12 : tyOf Try.prog 12 = { ok := true, kind := (.int .u64), size := 1, bytes := 8, elem := 0, key := 0, fields := [], zero := some (.int .u64 0) } := by kernel_rfl
theorem ty21 : tyOf Try.prog 21 = { ok := true, kind := (.int .i32), size := 1, bytes := 4, elem := 0, key := 0, fields := [], zero := some (.int .i32 0) } := by kernel_rfl
theorem ty22 : tyOf Try.prog 22 = { ok := true, kind := .slice, size := 1, bytes := 24, elem := 3, key := 0, fields := [], zero := some (.sl .nil []) } := by kernel_rfl
theorem ty23 : tyOf Try.prog 23 = { ok := true, kind := .slice, size := 1, bytes := 24, elem := 71, key := 0, fields := [], zero := some (.sl .nil []) } := by kernel_rfl
theorem ty24 : tyOf Try.prog 24 = { ok := true, kind := .struct, size := 7, bytes := 104, elem := 0, key := 0, fields := [(0, 1, false, 3), (1, 1, false, 3), (2, 1, false, 3), (3, 1, false, 22), (4, 1, false, 23), (5, 1, false, 3), (6, 1, false, 22)], zero := some (.agg [.int .i64 0, .int .i64 0, .int .i64 0, .sl .nil [], .sl .nil [], .int .i64 0, .sl .nil []]) } := by kernel_rfl
theorem ty25 : tyOf Try.prog 25 = { ok := true, kind := .struct, size := 7, bytes := 104, elem := 0, key := 0, fields := [(0, 1, false, 3), (1, 1, false, 3), (2, 1, false, 3), (3, 1, false, 22), (4, 1, false, 23), (5, 1, false, 3), (6, 1, false, 22)], zero := some (.agg [.int .i64 0, .int .i64 0, .int .i64 0, .sl .nil [], .sl .nil [], .int .i64 0, .sl .nil []]) } := by kernel_rfl
theorem ty26 : tyOf Try.prog 26 = { ok := true, kind := .struct, size := 8, bytes := 112, elem := 0, key := 0, fields := [(0, 7, true, 25), (7, 1, false, 3)], zero := some (.agg [.int .i64 0, .int .i64 0, .int .i64 0, .sl .nil [], .sl .nil [], .int .i64 0, .sl .nil [], .int .i64 0]) } := by kernel_rfl
theorem ty27 : tyOf Try.prog 27 = { ok := true, kind := .struct, size := 8, bytes := 112, elem := 0, key := 0, fields := [(0, 7, true, 25), (7, 1, false, 3)], zero := some (.agg [.int .i64 0, .int .i64 0, .int .i64 0, .sl .nil [], .sl .nil [], .int .i64 0, .sl .nil [], .int .i64 0]) } := by kernel_rfl
theorem ty28 : tyOf Try.prog 28 = { ok := true, kind := .struct, size := 11, bytes := 136, elem := 0, key := 0, fields := [(0, 8, true, 27), (8, 1, false, 3), (9, 1, false, 4), (10, 1, false, 3)], zero := some (.agg [.int .i64 0, .int .i64 0, .int .i64 0, .sl .nil [], .sl .nil [], .int .i64 0, .sl .nil [], .int .i64 0, .int .i64 0, .bool false, .int .i64 0]) } := by kernel_rfl
theorem ty29 : tyOf Try.prog 29 = { ok := true, kind := .struct, size := 11, bytes := 136, elem := 0, key := 0, fields := [(0, 8, true, 27), (8, 1, false, 3), (9, 1, false, 4), (10, 1, false, 3)], zero := some (.agg [.int .i64 0, .int .i64 0, .int .i64 0, .sl .nil [], .sl .nil [], .int .i64 0, .sl .nil [], .int .i64 0, .int .i64 0, .bool false, .int .i64 0]) } := by kernel_rfl
theorem ty31 : tyOf Try.prog 31 = { ok := true, kind := .slice, size := 1, bytes := 24, elem := 29, key := 0, fields := [], zero := some (.sl .nil []) } := by kernel_rfl
theorem ty35 : tyOf Try.prog 35 = { ok := true, kind := .struct, size := 8, bytes := 112, elem := 0, key := 0, fields := [(0, 7, true, 25), (7, 1, false, 3)], zero := some (.agg [.int .i64 0, .int .i64 0, .int .i64 0, .sl .nil [], .sl .nil [], .int .i64 0, .sl .nil [], .int .i64 0]) } := by kernel_rfl
theorem ty36 : tyOf Try.prog 36 = { ok := true, kind := .struct, size := 11, bytes := 136, elem := 0, key := 0, fields := [(0, 8, true, 35), (8, 1, false, 3), (9, 1, false, 4), (10, 1, false, 3)], zero := some (.agg [.int .i64 0, .int .i64 0, .int .i64 0, .sl .nil [], .sl .nil [], .int .i64 0, .sl .nil [], .int .i64 0, .int .i64 0, .bool false, .int .i64 0]) } := by kernel_rfl
theorem ty37 : tyOf Try.prog 37 = { ok := true, kind := .struct, size := 11, bytes := 136, elem := 0, key := 0, fields := [(0, 8, true, 35), (8, 1, false, 3), (9, 1, false, 4), (10, 1, false, 3)], zero := some (.agg [.int .i64 0, .int .i64 0, .int .i64 0, .sl .nil [], .sl .nil [], .int .i64 0, .sl .nil [], .int .i64 0, .int .i64 0, .bool false, .int .i64 0]) } := by kernel_rfl
theorem ty42 : tyOf Try.prog 42 = { ok := true, kind := .slice, size := 1, bytes := 24, elem := 37, key := 0, fields := [], zero := some (.sl .nil []) } := by kernel_rfl
theorem ty60 : tyOf Try.prog 60 = { ok := true, kind := .slice, size := 1, bytes := 24, elem := 4, key := 0, fields := [], zero := some (.sl .nil []) } := by kernel_rfl
theorem ty61 : tyOf Try.prog 61 = { ok := true, kind := .slice, size := 1, bytes := 24, elem := 9, key := 0, fields := [], zero := some (.sl .nil []) } := by kernel_rfl
theorem ty70 : tyOf Try.prog 70 = { ok := true, kind := .struct, size := 2, bytes := 16, elem := 0, key := 0, fields := [(0, 1, false, 3), (1, 1, false, 3)], zero := some (.agg [.int .i64 0, .int .i64 0]) } := by kernel_rfl
theorem ty71 : tyOf Try.prog 71 = { ok := true, kind := .struct, size := 2, bytes := 16, elem := 0, key := 0, fields := [(0, 1, false, 3), (1, 1, false, 3)], zero := some (.agg [.int .i64 0, .int .i64 0]) } := by kernel_rfl
theorem ty81 : tyOf Try.prog 81 = { ok := true, kind := (.int .u64), size := 1, bytes := 8, elem := 0, key := 0, fields := [], zero := some (.int .u64 0) } := by kernel_rfl
theorem ty89 : tyOf Try.prog 89 = { ok := true, kind := (.int .u32), size := 1, bytes := 4, elem := 0, key := 0, fields := [], zero := some (.int .u32 0) } := by kernel_rfl
theorem ty93 : tyOf Try.prog 93 = { ok := true, kind := .ptr, size := 1, bytes := 8, elem := 5, key := 0, fields := [], zero := some (.nilp) } := by kernel_rfl
attribute [go_sem] ty2 ty3 ty4 ty5 ty9 ty12 ty21 ty22 ty23 ty24 ty25 ty26 ty27 ty28 ty29 ty31 ty35 ty36 ty37 ty42 ty60 ty61 ty70 ty71 ty81 ty89 ty93
theorem mixedOrders_ok : Try.prog.follows .mixedOrders = true := by kernel_rfl
end Go.Proofs.Ytlbhhoojbokblaa
