/- Printed by split.py: calls of a run of SwapNames, each with what it answers; the kernel runs each by itself. -/
import Derived.Test.YtkbdfjlpicflaaaGreatDoorZOSwapNamesR
import Derived.Test.YtkbdfjlpicflaaaGreatDoorZEnv
import Derived.KernelRfl
namespace Go.Proofs.YtkbdfjlpicflaaaGreatDoor.OSwapNames
open Go Zq
def en1 : En := ⟨9, [.int .u8 1, .int .i64 (-1), .int .i64 3], 189, [(0, w0), (20, w1), (38, w2), (66, w3), (78, w4), (79, w5), (182, w6)], .agg #[.int .u8 1, .int .i64 (-1), .int .i64 6, .int .i64 0, .bool false, .bool false, .slice (some ⟨416, 0, none⟩) 1 1, .int .i64 0, .int .i64 0], 508, [(0, w0), (20, w1), (38, w2), (66, w3), (78, w4), (79, w5), (182, w6), (416, w7)]⟩
theorem va1 : Valid (aFn Tryz.env 99) en1 := valid_of (fFn_ok Tryz.env 99) (by kernel_rfl)
def en6 : En := ⟨9, [.int .u8 3, .int .i64 (-1), .int .i64 0], 1360, [(0, w0), (20, w1), (38, w2), (66, w3), (78, w4), (79, w5), (182, w6), (416, w7), (508, w8), (886, w9), (888, w10), (1122, w11), (1124, w12)], .agg #[.int .u8 3, .int .i64 (-1), .int .i64 0, .int .i64 0, .bool false, .bool false, .slice none 0 0, .int .i64 0, .int .i64 0], 1584, [(0, w0), (20, w1), (38, w2), (66, w3), (78, w4), (79, w5), (182, w6), (416, w7), (508, w8), (886, w9), (888, w10), (1122, w11), (1124, w12)]⟩
theorem va6 : Valid (aFn Tryz.env 99) en6 := valid_of (fFn_ok Tryz.env 99) (by kernel_rfl)
def en8 : En := ⟨9, [.int .u8 1, .int .i64 4, .int .i64 (-9999)], 1727, [(0, w0), (20, w1), (38, w2), (66, w3), (78, w4), (79, w5), (182, w6), (416, w7), (508, w8), (886, w9), (888, w10), (1122, w11), (1124, w12)], .agg #[.int .u8 0, .int .i64 0, .int .i64 0, .int .i64 0, .bool false, .bool false, .slice none 0 0, .int .i64 0, .int .i64 0], 1868, [(0, w0), (20, w1), (38, w2), (66, w3), (78, w4), (79, w5), (182, w6), (416, w7), (508, w8), (886, w9), (888, w10), (1122, w11), (1124, w12)]⟩
theorem va8 : Valid (aFn Tryz.env 99) en8 := valid_of (fFn_ok Tryz.env 99) (by kernel_rfl)
def en9 : En := ⟨9, [.int .u8 2, .int .i64 (-1), .int .i64 1], 1869, [(0, w0), (20, w1), (38, w2), (66, w3), (78, w4), (79, w5), (182, w6), (416, w7), (508, w8), (886, w9), (888, w10), (1122, w11), (1124, w12)], .agg #[.int .u8 0, .int .i64 0, .int .i64 0, .int .i64 0, .bool false, .bool false, .slice none 0 0, .int .i64 (-1), .int .i64 0], 2009, [(0, w0), (20, w1), (38, w2), (66, w3), (78, w4), (79, w5), (182, w6), (416, w7), (508, w8), (886, w9), (888, w10), (1122, w11), (1124, w12)]⟩
theorem va9 : Valid (aFn Tryz.env 99) en9 := valid_of (fFn_ok Tryz.env 99) (by kernel_rfl)
def en15 : En := ⟨9, [.int .u8 1, .int .i64 4, .int .i64 10000], 2713, [(0, w0), (20, w1), (38, w2), (66, w3), (78, w4), (79, w5), (182, w6), (416, w7), (508, w8), (886, w9), (888, w10), (1122, w11), (1124, w12)], .agg #[.int .u8 0, .int .i64 0, .int .i64 0, .int .i64 0, .bool false, .bool false, .slice none 0 0, .int .i64 (-1), .int .i64 0], 2854, [(0, w0), (20, w1), (38, w2), (66, w3), (78, w4), (79, w5), (182, w6), (416, w7), (508, w8), (886, w9), (888, w10), (1122, w11), (1124, w12)]⟩
theorem va15 : Valid (aFn Tryz.env 99) en15 := valid_of (fFn_ok Tryz.env 99) (by kernel_rfl)
end Go.Proofs.YtkbdfjlpicflaaaGreatDoor.OSwapNames
