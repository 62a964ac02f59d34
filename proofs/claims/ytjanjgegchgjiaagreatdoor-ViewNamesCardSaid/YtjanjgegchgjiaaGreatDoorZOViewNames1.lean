/- Printed by split.py: calls of a run of ViewNames, each with what it answers; the kernel runs each by itself. -/
import Derived.Test.YtjanjgegchgjiaaGreatDoorZOViewNamesR
import Derived.Test.YtjanjgegchgjiaaGreatDoorZEnv
import Derived.KernelRfl
namespace Go.Proofs.YtjanjgegchgjiaaGreatDoor.OViewNames
open Go Zq
def en0 : En := ⟨16, [], 0, [], .tuple #[.pointer (some ⟨0, 0, none⟩), .slice (some ⟨64, 0, none⟩) 4 4, .bool true], 65, [(0, w0), (15, w1), (28, w2), (64, w3)]⟩
theorem va0 : Valid (aFn Tryz.env 99) en0 := valid_of (fFn_ok Tryz.env 99) (by kernel_rfl)
def en5 : En := ⟨12, [.pointer (some ⟨0, 0, none⟩), .slice (some ⟨64, 0, none⟩) 4 4], 2225, [(0, w0), (15, w1), (28, w2), (64, w3), (836, w4), (837, w5)], .tuple #[.slice (some ⟨2881, 0, none⟩) 2 2, .int .i64 0], 2882, [(0, w0), (15, w1), (28, w2), (64, w3), (836, w4), (837, w5), (2881, w9)]⟩
theorem va5 : Valid (aFn Tryz.env 99) en5 := valid_of (fFn_ok Tryz.env 99) (by kernel_rfl)
def en6 : En := ⟨18, [.pointer (some ⟨0, 0, none⟩), .slice (some ⟨64, 0, none⟩) 4 4, .int .i64 3], 2882, [(0, w0), (15, w1), (28, w2), (64, w3), (836, w4), (837, w5), (2881, w9)], .tuple #[.slice (some ⟨3738, 0, none⟩) 2 2, .int .i64 0], 3807, [(0, w0), (15, w1), (28, w2), (64, w3), (836, w4), (837, w5), (2881, w9), (3738, w9)]⟩
theorem va6 : Valid (aFn Tryz.env 99) en6 := valid_of (fFn_ok Tryz.env 99) (by kernel_rfl)
end Go.Proofs.YtjanjgegchgjiaaGreatDoor.OViewNames
