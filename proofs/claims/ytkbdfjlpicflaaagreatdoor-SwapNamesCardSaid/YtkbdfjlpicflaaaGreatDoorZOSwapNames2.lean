/- Printed by split.py: calls of a run of SwapNames, each with what it answers; the kernel runs each by itself. -/
import Derived.Test.YtkbdfjlpicflaaaGreatDoorZOSwapNamesR
import Derived.Test.YtkbdfjlpicflaaaGreatDoorZEnv
import Derived.KernelRfl
namespace Go.Proofs.YtkbdfjlpicflaaaGreatDoor.OSwapNames
open Go Zq
def en3 : En := ⟨9, [.int .u8 1, .int .i64 4, .int .i64 1], 661, [(0, w0), (20, w1), (38, w2), (66, w3), (78, w4), (79, w5), (182, w6), (416, w7), (508, w8)], .agg #[.int .u8 0, .int .i64 0, .int .i64 0, .int .i64 0, .bool false, .bool false, .slice (some ⟨886, 0, none⟩) 1 1, .int .i64 0, .int .i64 0], 888, [(0, w0), (20, w1), (38, w2), (66, w3), (78, w4), (79, w5), (182, w6), (416, w7), (508, w8), (886, w9)]⟩
theorem va3 : Valid (aFn Tryz.env 99) en3 := valid_of (fFn_ok Tryz.env 99) (by kernel_rfl)
def en7 : En := ⟨9, [.int .u8 1, .int .i64 4, .int .i64 0], 1585, [(0, w0), (20, w1), (38, w2), (66, w3), (78, w4), (79, w5), (182, w6), (416, w7), (508, w8), (886, w9), (888, w10), (1122, w11), (1124, w12)], .agg #[.int .u8 0, .int .i64 0, .int .i64 0, .int .i64 0, .bool false, .bool false, .slice none 0 0, .int .i64 0, .int .i64 0], 1726, [(0, w0), (20, w1), (38, w2), (66, w3), (78, w4), (79, w5), (182, w6), (416, w7), (508, w8), (886, w9), (888, w10), (1122, w11), (1124, w12)]⟩
theorem va7 : Valid (aFn Tryz.env 99) en7 := valid_of (fFn_ok Tryz.env 99) (by kernel_rfl)
def en11 : En := ⟨9, [.int .u8 3, .int .i64 1, .int .i64 1], 2150, [(0, w0), (20, w1), (38, w2), (66, w3), (78, w4), (79, w5), (182, w6), (416, w7), (508, w8), (886, w9), (888, w10), (1122, w11), (1124, w12)], .agg #[.int .u8 0, .int .i64 0, .int .i64 0, .int .i64 0, .bool false, .bool false, .slice none 0 0, .int .i64 (-1), .int .i64 0], 2290, [(0, w0), (20, w1), (38, w2), (66, w3), (78, w4), (79, w5), (182, w6), (416, w7), (508, w8), (886, w9), (888, w10), (1122, w11), (1124, w12)]⟩
theorem va11 : Valid (aFn Tryz.env 99) en11 := valid_of (fFn_ok Tryz.env 99) (by kernel_rfl)
def en14 : En := ⟨9, [.int .u8 1, .int .i64 (-3), .int .i64 1], 2572, [(0, w0), (20, w1), (38, w2), (66, w3), (78, w4), (79, w5), (182, w6), (416, w7), (508, w8), (886, w9), (888, w10), (1122, w11), (1124, w12)], .agg #[.int .u8 0, .int .i64 0, .int .i64 0, .int .i64 0, .bool false, .bool false, .slice none 0 0, .int .i64 (-1), .int .i64 0], 2713, [(0, w0), (20, w1), (38, w2), (66, w3), (78, w4), (79, w5), (182, w6), (416, w7), (508, w8), (886, w9), (888, w10), (1122, w11), (1124, w12)]⟩
theorem va14 : Valid (aFn Tryz.env 99) en14 := valid_of (fFn_ok Tryz.env 99) (by kernel_rfl)
def en18 : En := ⟨12, [], 3868, [(0, w0), (20, w1), (38, w2), (66, w3), (78, w4), (79, w13), (182, w6), (416, w7), (508, w8), (886, w9), (888, w10), (1122, w11), (1124, w12), (3018, w14), (3028, w15), (3114, w16)], .bool true, 4293, [(0, w0), (20, w1), (38, w2), (66, w3), (78, w4), (79, w13), (182, w6), (416, w7), (508, w8), (886, w9), (888, w10), (1122, w11), (1124, w12), (3018, w14), (3028, w15), (3114, w16)]⟩
theorem va18 : Valid (aFn Tryz.env 99) en18 := valid_of (fFn_ok Tryz.env 99) (by kernel_rfl)
end Go.Proofs.YtkbdfjlpicflaaaGreatDoor.OSwapNames
