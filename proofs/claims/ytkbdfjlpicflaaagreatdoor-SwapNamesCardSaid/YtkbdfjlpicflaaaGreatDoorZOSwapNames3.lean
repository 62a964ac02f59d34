/- Printed by split.py: calls of a run of SwapNames, each with what it answers; the kernel runs each by itself. -/
import Derived.Test.YtkbdfjlpicflaaaGreatDoorZOSwapNamesR
import Derived.Test.YtkbdfjlpicflaaaGreatDoorZEnv
import Derived.KernelRfl
namespace Go.Proofs.YtkbdfjlpicflaaaGreatDoor.OSwapNames
open Go Zq
def en2 : En := ⟨9, [.int .u8 1, .int .i64 2, .int .i64 3], 510, [(0, w0), (20, w1), (38, w2), (66, w3), (78, w4), (79, w5), (182, w6), (416, w7), (508, w8)], .agg #[.int .u8 0, .int .i64 0, .int .i64 0, .int .i64 0, .bool false, .bool false, .slice none 0 0, .int .i64 1, .int .i64 0], 660, [(0, w0), (20, w1), (38, w2), (66, w3), (78, w4), (79, w5), (182, w6), (416, w7), (508, w8)]⟩
theorem va2 : Valid (aFn Tryz.env 99) en2 := valid_of (fFn_ok Tryz.env 99) (by kernel_rfl)
def en4 : En := ⟨9, [.int .u8 6, .int .i64 2, .int .i64 0], 890, [(0, w0), (20, w1), (38, w2), (66, w3), (78, w4), (79, w5), (182, w6), (416, w7), (508, w8), (886, w9), (888, w10)], .agg #[.int .u8 0, .int .i64 0, .int .i64 0, .int .i64 0, .bool false, .bool false, .slice (some ⟨1122, 0, none⟩) 1 1, .int .i64 1, .int .i64 0], 1124, [(0, w0), (20, w1), (38, w2), (66, w3), (78, w4), (79, w5), (182, w6), (416, w7), (508, w8), (886, w9), (888, w10), (1122, w11)]⟩
theorem va4 : Valid (aFn Tryz.env 99) en4 := valid_of (fFn_ok Tryz.env 99) (by kernel_rfl)
def en5 : En := ⟨9, [.int .u8 6, .int .i64 4, .int .i64 0], 1126, [(0, w0), (20, w1), (38, w2), (66, w3), (78, w4), (79, w5), (182, w6), (416, w7), (508, w8), (886, w9), (888, w10), (1122, w11), (1124, w12)], .agg #[.int .u8 6, .int .i64 4, .int .i64 0, .int .i64 0, .bool false, .bool false, .slice none 0 0, .int .i64 0, .int .i64 0], 1359, [(0, w0), (20, w1), (38, w2), (66, w3), (78, w4), (79, w5), (182, w6), (416, w7), (508, w8), (886, w9), (888, w10), (1122, w11), (1124, w12)]⟩
theorem va5 : Valid (aFn Tryz.env 99) en5 := valid_of (fFn_ok Tryz.env 99) (by kernel_rfl)
def en10 : En := ⟨9, [.int .u8 6, .int .i64 (-1), .int .i64 1], 2009, [(0, w0), (20, w1), (38, w2), (66, w3), (78, w4), (79, w5), (182, w6), (416, w7), (508, w8), (886, w9), (888, w10), (1122, w11), (1124, w12)], .agg #[.int .u8 0, .int .i64 0, .int .i64 0, .int .i64 0, .bool false, .bool false, .slice none 0 0, .int .i64 (-1), .int .i64 0], 2150, [(0, w0), (20, w1), (38, w2), (66, w3), (78, w4), (79, w5), (182, w6), (416, w7), (508, w8), (886, w9), (888, w10), (1122, w11), (1124, w12)]⟩
theorem va10 : Valid (aFn Tryz.env 99) en10 := valid_of (fFn_ok Tryz.env 99) (by kernel_rfl)
def en13 : En := ⟨9, [.int .u8 1, .int .i64 0, .int .i64 1], 2431, [(0, w0), (20, w1), (38, w2), (66, w3), (78, w4), (79, w5), (182, w6), (416, w7), (508, w8), (886, w9), (888, w10), (1122, w11), (1124, w12)], .agg #[.int .u8 0, .int .i64 0, .int .i64 0, .int .i64 0, .bool false, .bool false, .slice none 0 0, .int .i64 (-1), .int .i64 0], 2572, [(0, w0), (20, w1), (38, w2), (66, w3), (78, w4), (79, w5), (182, w6), (416, w7), (508, w8), (886, w9), (888, w10), (1122, w11), (1124, w12)]⟩
theorem va13 : Valid (aFn Tryz.env 99) en13 := valid_of (fFn_ok Tryz.env 99) (by kernel_rfl)
end Go.Proofs.YtkbdfjlpicflaaaGreatDoor.OSwapNames
