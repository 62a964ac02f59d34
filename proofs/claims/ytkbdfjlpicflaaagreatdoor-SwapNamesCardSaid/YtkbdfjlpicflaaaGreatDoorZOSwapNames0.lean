/- Printed by split.py: calls of a run of SwapNames, each with what it answers; the kernel runs each by itself. -/
import Derived.Test.YtkbdfjlpicflaaaGreatDoorZOSwapNamesR
import Derived.Test.YtkbdfjlpicflaaaGreatDoorZEnv
import Derived.KernelRfl
namespace Go.Proofs.YtkbdfjlpicflaaaGreatDoor.OSwapNames
open Go Zq
def en0 : En := ⟨6, [], 0, [], .tuple #[.pointer (some ⟨0, 0, none⟩), .slice (some ⟨78, 0, none⟩) 4 4, .slice (some ⟨79, 0, none⟩) 4 4], 80, [(0, w0), (20, w1), (38, w2), (66, w3), (78, w4), (79, w5)]⟩
theorem va0 : Valid (aFn Tryz.env 99) en0 := valid_of (fFn_ok Tryz.env 99) (by kernel_rfl)
def en12 : En := ⟨9, [.int .u8 1, .int .i64 5, .int .i64 1], 2290, [(0, w0), (20, w1), (38, w2), (66, w3), (78, w4), (79, w5), (182, w6), (416, w7), (508, w8), (886, w9), (888, w10), (1122, w11), (1124, w12)], .agg #[.int .u8 0, .int .i64 0, .int .i64 0, .int .i64 0, .bool false, .bool false, .slice none 0 0, .int .i64 (-1), .int .i64 0], 2431, [(0, w0), (20, w1), (38, w2), (66, w3), (78, w4), (79, w5), (182, w6), (416, w7), (508, w8), (886, w9), (888, w10), (1122, w11), (1124, w12)]⟩
theorem va12 : Valid (aFn Tryz.env 99) en12 := valid_of (fFn_ok Tryz.env 99) (by kernel_rfl)
def en16 : En := ⟨9, [.int .u8 1, .int .i64 4, .int .i64 (-10000)], 2854, [(0, w0), (20, w1), (38, w2), (66, w3), (78, w4), (79, w5), (182, w6), (416, w7), (508, w8), (886, w9), (888, w10), (1122, w11), (1124, w12)], .agg #[.int .u8 0, .int .i64 0, .int .i64 0, .int .i64 0, .bool false, .bool false, .slice none 0 0, .int .i64 (-1), .int .i64 0], 2995, [(0, w0), (20, w1), (38, w2), (66, w3), (78, w4), (79, w5), (182, w6), (416, w7), (508, w8), (886, w9), (888, w10), (1122, w11), (1124, w12)]⟩
theorem va16 : Valid (aFn Tryz.env 99) en16 := valid_of (fFn_ok Tryz.env 99) (by kernel_rfl)
def en17 : En := ⟨11, [], 3121, [(0, w0), (20, w1), (38, w2), (66, w3), (78, w4), (79, w13), (182, w6), (416, w7), (508, w8), (886, w9), (888, w10), (1122, w11), (1124, w12), (3018, w14), (3028, w15), (3114, w16)], .bool true, 3868, [(0, w0), (20, w1), (38, w2), (66, w3), (78, w4), (79, w13), (182, w6), (416, w7), (508, w8), (886, w9), (888, w10), (1122, w11), (1124, w12), (3018, w14), (3028, w15), (3114, w16)]⟩
theorem va17 : Valid (aFn Tryz.env 99) en17 := valid_of (fFn_ok Tryz.env 99) (by kernel_rfl)
end Go.Proofs.YtkbdfjlpicflaaaGreatDoor.OSwapNames
