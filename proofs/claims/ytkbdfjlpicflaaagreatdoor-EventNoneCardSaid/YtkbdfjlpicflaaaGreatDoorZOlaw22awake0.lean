/- Printed by split.py: calls of a run of law22awake, each with what it answers; the kernel runs each by itself. -/
import Derived.Test.YtkbdfjlpicflaaaGreatDoorZOlaw22awakeR
import Derived.Test.YtkbdfjlpicflaaaGreatDoorZEnv
import Derived.KernelRfl
namespace Go.Proofs.YtkbdfjlpicflaaaGreatDoor.Olaw22awake
open Go Zq
def en0 : En := ⟨15, [.pointer (some ⟨95, 0, none⟩), .agg #[.int .u8 1, .int .i64 1, .int .i64 1, .int .u8 0, .string ⟨#[]⟩, .int .i64 0, .bool false, .bool false]], 96, [(1, w0), (22, w1), (27, w2), (28, w3), (29, w4), (92, w5), (94, w6), (95, w7)], .int .i64 0, 1592, [(1, w0), (22, w1), (27, w2), (28, w3), (29, w4), (92, w8), (94, w6), (95, w9)]⟩
theorem va0 : Valid (aFn Tryz.env 99) en0 := valid_of (fFn_ok Tryz.env 99) (by kernel_rfl)
def en1 : En := ⟨15, [.pointer (some ⟨95, 0, none⟩), .agg #[.int .u8 1, .int .i64 2, .int .i64 1, .int .u8 0, .string ⟨#[]⟩, .int .i64 0, .bool false, .bool true]], 1599, [(1, w0), (22, w1), (27, w2), (28, w3), (29, w4), (92, w8), (94, w6), (95, w7), (1596, w8), (1598, w6)], .int .i64 0, 4551, [(1, w0), (22, w1), (27, w2), (28, w3), (29, w4), (92, w10), (94, w6), (95, w11), (1596, w8), (1598, w6), (4114, w12)]⟩
theorem va1 : Valid (aFn Tryz.env 99) en1 := valid_of (fFn_ok Tryz.env 99) (by kernel_rfl)
end Go.Proofs.YtkbdfjlpicflaaaGreatDoor.Olaw22awake
