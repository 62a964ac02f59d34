/- Printed by split.py: calls of a run of ViewNames, each with what it answers; the kernel runs each by itself. -/
import Derived.Test.YtjanjgegchgjiaaGreatDoorZOViewNamesR
import Derived.Test.YtjanjgegchgjiaaGreatDoorZEnv
import Derived.KernelRfl
namespace Go.Proofs.YtjanjgegchgjiaaGreatDoor.OViewNames
open Go Zq
def en7 : En := ⟨18, [.pointer (some ⟨0, 0, none⟩), .slice (some ⟨64, 0, none⟩) 4 4, .int .i64 4], 3807, [(0, w0), (15, w1), (28, w2), (64, w3), (836, w4), (837, w5), (2881, w9), (3738, w9)], .tuple #[.slice none 0 0, .int .i64 0], 4728, [(0, w0), (15, w1), (28, w2), (64, w3), (836, w4), (837, w5), (2881, w9), (3738, w9)]⟩
theorem va7 : Valid (aFn Tryz.env 99) en7 := valid_of (fFn_ok Tryz.env 99) (by kernel_rfl)
def en10 : En := ⟨11, [.pointer (some ⟨0, 0, none⟩), .slice (some ⟨64, 0, none⟩) 4 4], 5791, [(0, w0), (15, w1), (28, w2), (64, w10), (836, w4), (837, w5), (2881, w9), (3738, w9)], .tuple #[.slice (some ⟨6496, 0, none⟩) 4 4, .int .i64 0], 6497, [(0, w0), (15, w1), (28, w2), (64, w10), (836, w4), (837, w5), (2881, w9), (3738, w9), (6496, w11)]⟩
theorem va10 : Valid (aFn Tryz.env 99) en10 := valid_of (fFn_ok Tryz.env 99) (by kernel_rfl)
end Go.Proofs.YtjanjgegchgjiaaGreatDoor.OViewNames
