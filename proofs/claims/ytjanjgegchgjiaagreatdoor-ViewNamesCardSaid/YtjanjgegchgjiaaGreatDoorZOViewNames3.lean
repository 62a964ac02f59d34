/- Printed by split.py: calls of a run of ViewNames, each with what it answers; the kernel runs each by itself. -/
import Derived.Test.YtjanjgegchgjiaaGreatDoorZOViewNamesR
import Derived.Test.YtjanjgegchgjiaaGreatDoorZEnv
import Derived.KernelRfl
namespace Go.Proofs.YtjanjgegchgjiaaGreatDoor.OViewNames
open Go Zq
def en4 : En := ⟨17, [.pointer (some ⟨0, 0, none⟩), .slice (some ⟨64, 0, none⟩) 4 4, .int .i64 5], 1519, [(0, w0), (15, w1), (28, w2), (64, w3), (836, w4), (837, w5)], .tuple #[.slice (some ⟨2224, 0, none⟩) 4 4, .int .i64 0], 2225, [(0, w0), (15, w1), (28, w2), (64, w3), (836, w4), (837, w5), (2224, w8)]⟩
theorem va4 : Valid (aFn Tryz.env 99) en4 := valid_of (fFn_ok Tryz.env 99) (by kernel_rfl)
def en8 : En := ⟨18, [.pointer (some ⟨0, 0, none⟩), .slice (some ⟨64, 0, none⟩) 4 4, .int .i64 1], 4728, [(0, w0), (15, w1), (28, w2), (64, w3), (836, w4), (837, w5), (2881, w9), (3738, w9)], .tuple #[.slice none 0 0, .int .i64 0], 5649, [(0, w0), (15, w1), (28, w2), (64, w3), (836, w4), (837, w5), (2881, w9), (3738, w9)]⟩
theorem va8 : Valid (aFn Tryz.env 99) en8 := valid_of (fFn_ok Tryz.env 99) (by kernel_rfl)
def en11 : En := ⟨17, [.pointer (some ⟨0, 0, none⟩), .slice (some ⟨64, 0, none⟩) 4 4, .int .i64 7], 6497, [(0, w0), (15, w1), (28, w2), (64, w10), (836, w4), (837, w5), (2881, w9), (3738, w9), (6496, w11)], .tuple #[.slice none 0 0, .int .i64 2], 6639, [(0, w0), (15, w1), (28, w2), (64, w10), (836, w4), (837, w5), (2881, w9), (3738, w9), (6496, w11)]⟩
theorem va11 : Valid (aFn Tryz.env 99) en11 := valid_of (fFn_ok Tryz.env 99) (by kernel_rfl)
end Go.Proofs.YtjanjgegchgjiaaGreatDoor.OViewNames
