/- Printed by split.py: calls of a run of ViewNames, each with what it answers; the kernel runs each by itself. -/
import Derived.Test.YtjanjgegchgjiaaGreatDoorZOViewNamesR
import Derived.Test.YtjanjgegchgjiaaGreatDoorZEnv
import Derived.KernelRfl
namespace Go.Proofs.YtjanjgegchgjiaaGreatDoor.OViewNames
open Go Zq
def en1 : En := ⟨8, [], 65, [(0, w0), (15, w1), (28, w2), (64, w3)], .bool true, 836, [(0, w0), (15, w1), (28, w2), (64, w3)]⟩
theorem va1 : Valid (aFn Tryz.env 99) en1 := valid_of (fFn_ok Tryz.env 99) (by kernel_rfl)
def en2 : En := ⟨17, [.pointer (some ⟨0, 0, none⟩), .slice (some ⟨64, 0, none⟩) 4 4, .int .i64 0], 838, [(0, w0), (15, w1), (28, w2), (64, w3), (836, w4), (837, w5)], .tuple #[.slice (some ⟨1072, 0, none⟩) 4 4, .int .i64 0], 1073, [(0, w0), (15, w1), (28, w2), (64, w3), (836, w4), (837, w5), (1072, w6)]⟩
theorem va2 : Valid (aFn Tryz.env 99) en2 := valid_of (fFn_ok Tryz.env 99) (by kernel_rfl)
def en3 : En := ⟨17, [.pointer (some ⟨0, 0, none⟩), .slice (some ⟨64, 0, none⟩) 4 4, .int .i64 2], 1073, [(0, w0), (15, w1), (28, w2), (64, w3), (836, w4), (837, w5)], .tuple #[.slice (some ⟨1518, 0, none⟩) 4 4, .int .i64 0], 1519, [(0, w0), (15, w1), (28, w2), (64, w3), (836, w4), (837, w5), (1518, w7)]⟩
theorem va3 : Valid (aFn Tryz.env 99) en3 := valid_of (fFn_ok Tryz.env 99) (by kernel_rfl)
def en9 : En := ⟨18, [.pointer (some ⟨0, 0, none⟩), .slice (some ⟨64, 0, none⟩) 4 4, .int .i64 9], 5649, [(0, w0), (15, w1), (28, w2), (64, w3), (836, w4), (837, w5), (2881, w9), (3738, w9)], .tuple #[.slice none 0 0, .int .i64 6], 5791, [(0, w0), (15, w1), (28, w2), (64, w3), (836, w4), (837, w5), (2881, w9), (3738, w9)]⟩
theorem va9 : Valid (aFn Tryz.env 99) en9 := valid_of (fFn_ok Tryz.env 99) (by kernel_rfl)
end Go.Proofs.YtjanjgegchgjiaaGreatDoor.OViewNames
