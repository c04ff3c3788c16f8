import Derived.Test.YtbmhnfkmmopmdaaAb39
import Derived.Test.YtbmhnfkmmopmdaaProg
import Derived.KernelRfl
set_option maxRecDepth 100000
namespace Go.Proofs.Ytbmhnfkmmopmdaa.Ab
set_option linter.unusedVariables false
set_option linter.unusedSimpArgs false
theorem hNogr : nogr Try.prog = true := by kernel_rfl
theorem hMixed : Try.prog.follows .mixedOrders = true := by kernel_rfl
abbrev ckT1 : Tbl := []
theorem ck1 : AFresh Try.prog 13 [.agg [.int .i64 0, .int .i64 0, .int .i64 0, .int .i64 0]] (.int .i64 0) := exT_fresh hNogr hMixed (tb := ckT1) trivial (n := 1000000) (by kernel_rfl) (by kernel_rfl)
abbrev ckT2 : Tbl := []
theorem ck2 : AFresh Try.prog 15 [.agg [.int .i64 1, .int .i64 0, .int .i64 0, .int .i64 0], .agg [.int .i64 255, .int .i64 0, .int .i64 0, .int .i64 0], .int .i64 2147483648, .int .i64 2147483648] (.tup [.agg [.int .i64 255, .int .i64 0, .int .i64 0, .int .i64 0], .int .i64 0]) := exT_fresh hNogr hMixed (tb := ckT2) trivial (n := 1000000) (by kernel_rfl) (by kernel_rfl)
abbrev ckT3 : Tbl := [(13, [.agg [.int .i64 0, .int .i64 0, .int .i64 0, .int .i64 0]], .int .i64 0)]
theorem ck3 : AFresh Try.prog 15 [.agg [.int .i64 0, .int .i64 0, .int .i64 0, .int .i64 0], .agg [.int .i64 255, .int .i64 0, .int .i64 100, .int .i64 3], .int .i64 1, .int .i64 3] (.tup [.agg [.int .i64 85, .int .i64 0, .int .i64 33, .int .i64 1], .int .i64 0]) := exT_fresh hNogr hMixed (tb := ckT3) ⟨ck1, trivial⟩ (n := 1000000) (by kernel_rfl) (by kernel_rfl)
abbrev ckT4 : Tbl := [(13, [.agg [.int .i64 0, .int .i64 0, .int .i64 0, .int .i64 0]], .int .i64 0), (15, [.agg [.int .i64 0, .int .i64 0, .int .i64 0, .int .i64 0], .agg [.int .i64 255, .int .i64 0, .int .i64 100, .int .i64 3], .int .i64 1, .int .i64 3], .tup [.agg [.int .i64 85, .int .i64 0, .int .i64 33, .int .i64 1], .int .i64 0])]
theorem ck4 : AFresh Try.prog 17 [] (.bool true) := exT_fresh hNogr hMixed (tb := ckT4) ⟨ck1, ck3, trivial⟩ (n := 1000000) (by kernel_rfl) (by kernel_rfl)
abbrev ckT5 : Tbl := []
theorem ck5 : AFresh Try.prog 29 [.str ⟨#[97, 98, 99, 100, 101, 102, 103, 104, 105, 106, 107, 108]⟩, .int .i64 3, .int .i64 0] (.tup [.agg [.int .i64 2, .int .i64 1, .int .i64 0, .int .i64 156], .int .i64 0]) := exT_fresh hNogr hMixed (tb := ckT5) trivial (n := 1000000) (by kernel_rfl) (by kernel_rfl)
abbrev ckT6 : Tbl := []
theorem ck6 : AFresh Try.prog 27 [.str ⟨#[255, 254, 253]⟩] (.tup [.agg [.int .i64 0, .int .i64 1, .int .i64 2, .int .i64 0], .int .i64 0]) := exT_fresh hNogr hMixed (tb := ckT6) trivial (n := 1000000) (by kernel_rfl) (by kernel_rfl)
abbrev ckT7 : Tbl := [(13, [.agg [.int .i64 0, .int .i64 0, .int .i64 0, .int .i64 0]], .int .i64 0), (15, [.agg [.int .i64 1, .int .i64 0, .int .i64 0, .int .i64 0], .agg [.int .i64 255, .int .i64 0, .int .i64 0, .int .i64 0], .int .i64 2147483648, .int .i64 2147483648], .tup [.agg [.int .i64 255, .int .i64 0, .int .i64 0, .int .i64 0], .int .i64 0]), (17, [], .bool true), (29, [.str ⟨#[97, 98, 99, 100, 101, 102, 103, 104, 105, 106, 107, 108]⟩, .int .i64 3, .int .i64 0], .tup [.agg [.int .i64 2, .int .i64 1, .int .i64 0, .int .i64 156], .int .i64 0]), (27, [.str ⟨#[255, 254, 253]⟩], .tup [.agg [.int .i64 0, .int .i64 1, .int .i64 2, .int .i64 0], .int .i64 0])]
theorem ck : APure Try.prog 9 [] (.bool true) := exT_true hNogr hMixed (tb := ckT7) ⟨ck1, ck2, ck4, ck5, ck6, trivial⟩ (n := 1000000) (by kernel_rfl) rfl
end Go.Proofs.Ytbmhnfkmmopmdaa.Ab
