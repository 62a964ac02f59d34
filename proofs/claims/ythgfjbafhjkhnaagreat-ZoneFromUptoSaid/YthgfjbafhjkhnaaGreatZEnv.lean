/- Printed by gen.py (wip/zq): what the abstract evaluator is told of the seat's program: types, functions, where loops stand. -/
import Derived.Test.YthgfjbafhjkhnaaGreatProg
import Derived.Test.YthgfjbafhjkhnaaGreatZqCheck
import Derived.KernelRfl
namespace Go.Proofs.YthgfjbafhjkhnaaGreat
open Go Zq
def Tryz.tab : List (Option TI) := [
  none,
  none,
  none,
  some ⟨.int .i64, 1, 8, [.int .i64 0]⟩,
  some ⟨.bool, 1, 1, [.bool false]⟩,
  some ⟨.int .u8, 1, 1, [.int .u8 0]⟩,
  none,
  none,
  none,
  some ⟨.string, 1, 16, [.string ⟨#[]⟩]⟩,
  none,
  none,
  none,
  none,
  none,
  none,
  none,
  none,
  none,
  none,
  none,
  none,
  some ⟨.slice 3, 1, 24, [.slice none 0 0]⟩,
  some ⟨.slice 41, 1, 24, [.slice none 0 0]⟩,
  none,
  none,
  some ⟨.pointer 59, 1, 8, [.pointer none]⟩,
  some ⟨.int .i64, 1, 8, [.int .i64 0]⟩,
  none,
  none,
  some ⟨.pointer 61, 1, 8, [.pointer none]⟩,
  none,
  none,
  none,
  none,
  none,
  some ⟨.int .u8, 1, 1, [.int .u8 0]⟩,
  some ⟨.array 4 3, 4, 32, [.int .i64 0, .int .i64 0, .int .i64 0, .int .i64 0]⟩,
  none,
  some ⟨.struct [(0, 3), (1, 3), (2, 36), (3, 3), (4, 3), (5, 37), (9, 3), (10, 4)], 11, 88, [.int .i64 0, .int .i64 0, .int .u8 0, .int .i64 0, .int .i64 0, .int .i64 0, .int .i64 0, .int .i64 0, .int .i64 0, .int .i64 0, .bool false]⟩,
  none,
  some ⟨.struct [(0, 3), (1, 3), (2, 36), (3, 3), (4, 39), (15, 22)], 16, 144, [.int .i64 0, .int .i64 0, .int .u8 0, .int .i64 0, .int .i64 0, .int .i64 0, .int .u8 0, .int .i64 0, .int .i64 0, .int .i64 0, .int .i64 0, .int .i64 0, .int .i64 0, .int .i64 0, .bool false, .slice none 0 0]⟩,
  none,
  none,
  none,
  some ⟨.slice 39, 1, 24, [.slice none 0 0]⟩,
  some ⟨.array 2 22, 2, 48, [.slice none 0 0, .slice none 0 0]⟩,
  none,
  some ⟨.struct [(0, 45), (1, 46), (3, 46), (5, 3)], 6, 128, [.slice none 0 0, .slice none 0 0, .slice none 0 0, .slice none 0 0, .slice none 0 0, .int .i64 0]⟩,
  none,
  none,
  none,
  none,
  none,
  none,
  none,
  none,
  none,
  none,
  some ⟨.struct [(0, 45), (1, 46), (3, 46), (5, 3)], 6, 128, [.slice none 0 0, .slice none 0 0, .slice none 0 0, .slice none 0 0, .slice none 0 0, .int .i64 0]⟩,
  none,
  some ⟨.struct [(0, 45), (1, 46), (3, 46), (5, 3), (6, 4)], 7, 136, [.slice none 0 0, .slice none 0 0, .slice none 0 0, .slice none 0 0, .slice none 0 0, .int .i64 0, .bool false]⟩,
  none,
  none,
  none,
  none,
  none,
  none,
  some ⟨.slice 22, 1, 24, [.slice none 0 0]⟩,
  none,
  none,
  none,
  none,
  some ⟨.slice 45, 1, 24, [.slice none 0 0]⟩,
  none,
  none,
  none,
  some ⟨.func, 1, 8, [.nilFunc]⟩,
  some ⟨.func, 1, 8, [.nilFunc]⟩,
  none,
  none,
  none,
  none,
  some ⟨.func, 1, 8, [.nilFunc]⟩,
  none,
  none,
  some ⟨.pointer 22, 1, 8, [.pointer none]⟩,
  none,
  none,
  some ⟨.map 3 3, 1, 8, [.map none]⟩,
  some ⟨.array 2 3, 2, 16, [.int .i64 0, .int .i64 0]⟩,
  none,
  none,
  none,
  none,
  none,
  none,
  some ⟨.int .u64, 1, 8, [.int .u64 0]⟩,
  none,
  some ⟨.slice 4, 1, 24, [.slice none 0 0]⟩,
  none,
  some ⟨.int .i64, 1, 8, [.int .i64 0]⟩,
  none,
  none,
  none,
  none,
  none,
  none,
  none,
  some ⟨.int .u32, 1, 4, [.int .u32 0]⟩,
  none,
  some ⟨.int .u64, 1, 8, [.int .u64 0]⟩,
  none,
  none,
  some ⟨.int .u64, 1, 8, [.int .u64 0]⟩,
  none,
  none,
  none,
  some ⟨.pointer 3, 1, 8, [.pointer none]⟩,
  none,
  none,
  none,
  none,
  none,
  none,
  none,
  some ⟨.pointer 114, 1, 8, [.pointer none]⟩]
def Tryz.fns : List FuncId := [3, 4, 5, 6, 7, 8, 9, 10, 11, 12, 13, 14, 15, 16, 17, 18, 19, 20, 21, 22, 23, 24, 25, 26, 27, 28, 29, 30, 31, 32, 33, 34, 35, 36, 37, 38, 39, 40, 41, 42, 43, 44, 45, 46, 47, 48, 49, 50, 51, 52, 53, 54, 55, 56, 57, 58, 59, 60, 61, 62, 63, 64, 65, 66, 67, 68, 69, 70, 71, 72, 73, 74, 75, 76, 77, 78, 79, 80, 81, 82, 83, 84, 85, 86, 87, 88, 89, 90, 91, 92, 93, 94, 95, 96, 97, 98, 99, 100, 101, 102, 103, 104, 105, 106, 107, 108, 109, 110, 111, 112, 113, 114, 115, 116, 117]
def Tryz.hint : FuncId → Hint := fun f => match f with
  | 3 => (.seq .leaf (.seq .leaf (.seq .leaf (.seq .leaf (.seq .leaf (.seq .leaf (.seq .leaf (.seq .leaf (.seq .leaf (.seq .leaf (.seq (.seq .leaf (.sub none (.loop [2, 6, 9, 11, 13] .leaf))) .leaf)))))))))))
  | 4 => (.seq .leaf (.seq .leaf (.seq .leaf (.seq (.seq .leaf (.sub none (.loop [1, 2, 4, 5] .leaf))) (.seq .leaf (.seq .leaf (.seq .leaf (.seq (.seq .leaf (.sub none (.loop [1, 2, 6, 7, 8, 9, 10, 11] .leaf))) (.seq .leaf (.seq .leaf (.seq .leaf (.seq (.seq .leaf (.sub none (.loop [1, 2, 4, 6, 9, 10, 12, 14, 16] .leaf))) (.seq .leaf (.seq .leaf (.seq (.seq .leaf (.sub none (.loop [1, 4, 12, 14, 17] .leaf))) .leaf)))))))))))))))
  | 7 => (.seq .leaf (.seq .leaf (.seq .leaf (.seq (.seq .leaf (.sub none (.loop [4, 5, 6, 31, 32] (.seq .leaf (.seq .leaf (.seq (.sub none (.seq .leaf (.seq .leaf (.sub none (.loop [4, 5, 6, 7, 31, 32, 36, 37, 38] .leaf))))) .leaf)))))) .leaf))))
  | 8 => (.seq .leaf (.seq .leaf (.seq .leaf (.seq .leaf (.seq (.seq .leaf (.sub none (.loop [4, 5, 6, 7, 8] (.seq .leaf (.seq (.sub none (.seq .leaf (.sub none (.loop [4, 5, 6, 7, 8, 9] .leaf)))) .leaf))))) .leaf)))))
  | 10 => (.seq .leaf (.sub none (.loop [0, 2] .leaf)))
  | 16 => (.seq .leaf (.seq .leaf (.seq .leaf (.seq .leaf (.seq .leaf (.seq (.seq .leaf (.sub none (.loop [0, 1, 4, 5, 6] (.seq .leaf (.seq (.sub none (.seq .leaf (.seq .leaf (.seq .leaf (.seq .leaf (.sub none (.loop [0, 1, 4, 5, 6, 9] .leaf))))))) .leaf))))) (.seq .leaf (.seq .leaf (.seq (.seq .leaf (.sub none (.loop [0, 1, 4, 5, 11, 12, 13] .leaf))) .leaf)))))))))
  | 18 => (.seq .leaf (.seq .leaf (.seq (.seq .leaf (.sub none (.loop [0, 3, 5, 6, 10, 17] .leaf))) (.seq .leaf (.seq .leaf (.seq (.seq .leaf (.sub none (.loop [5, 6, 12, 42] .leaf))) .leaf))))))
  | 19 => (.seq .leaf (.seq .leaf (.seq .leaf (.seq .leaf (.seq (.seq .leaf (.sub none (.loop [5, 6, 8, 9, 10, 11] .leaf))) .leaf)))))
  | 21 => (.seq .leaf (.sub none (.loop [0, 2] .leaf)))
  | 22 => (.seq .leaf (.seq .leaf (.seq (.seq .leaf (.sub none (.loop [0, 1, 4, 5] .leaf))) .leaf)))
  | 25 => (.seq .leaf (.seq .leaf (.seq .leaf (.seq (.seq .leaf (.sub none (.loop [1, 3, 12, 13, 14] .leaf))) .leaf))))
  | 37 => (.seq .leaf (.seq .leaf (.seq .leaf (.seq (.seq .leaf (.sub none (.loop [0, 3, 4] (.seq .leaf (.seq (.sub none (.seq .leaf (.seq .leaf (.seq .leaf (.sub none (.loop [0, 3, 4, 5] .leaf)))))) .leaf))))) .leaf))))
  | 41 => (.seq .leaf (.seq .leaf (.seq .leaf (.seq .leaf (.seq (.seq .leaf (.cond none (.seq (.seq .leaf (.sub none (.loop [0, 1, 8, 34, 35, 36] .leaf))) .leaf) .leaf)) (.seq (.seq .leaf (.sub none (.loop [1, 2, 8, 60, 61, 62] .leaf))) .leaf))))))
  | 42 => (.seq .leaf (.seq .leaf (.seq .leaf (.seq (.seq .leaf (.sub none (.seq .leaf (.cond none .leaf (.seq .leaf (.cond none .leaf (.seq .leaf (.cond none .leaf (.seq .leaf (.sub none (.loop [0, 1, 2, 7, 8] .leaf))))))))))) (.seq .leaf (.seq (.seq .leaf (.sub none (.loop [0, 1, 2, 7, 9, 10] .leaf))) .leaf))))))
  | 44 => (.seq .leaf (.seq .leaf (.seq (.seq .leaf (.sub none (.loop [0, 1, 4, 5] .leaf))) .leaf)))
  | 47 => (.seq .leaf (.seq .leaf (.seq (.seq .leaf (.sub none (.loop [0, 3, 4] .leaf))) (.seq (.seq .leaf (.sub none (.loop [3, 5] (.seq .leaf (.seq (.sub none (.seq .leaf (.sub none (.loop [3, 5, 6] .leaf)))) .leaf))))) (.seq (.seq .leaf (.sub none (.loop [2, 3, 7] (.seq .leaf (.seq (.sub none (.seq .leaf (.sub none (.loop [2, 3, 7, 8] .leaf)))) .leaf))))) .leaf)))))
  | 48 => (.seq .leaf (.seq .leaf (.seq (.seq .leaf (.sub none (.loop [0, 3, 4] .leaf))) (.seq (.seq .leaf (.sub none (.loop [3, 5] (.seq .leaf (.seq (.sub none (.seq .leaf (.sub none (.loop [3, 5, 6] .leaf)))) .leaf))))) (.seq (.seq .leaf (.sub none (.loop [2, 3, 7] (.seq .leaf (.seq (.sub none (.seq .leaf (.sub none (.loop [2, 3, 7, 8] .leaf)))) .leaf))))) .leaf)))))
  | 51 => (.seq .leaf (.seq .leaf (.seq .leaf (.seq .leaf (.seq .leaf (.seq (.seq .leaf (.sub none (.loop [0, 2, 3, 4, 5, 31, 32, 33] .leaf))) (.seq .leaf (.seq (.seq .leaf (.sub none (.loop [0, 2, 5, 8, 75] (.seq .leaf (.seq .leaf (.seq (.sub none (.seq .leaf (.seq .leaf (.seq .leaf (.sub none (.loop [0, 2, 5, 8, 9, 75, 98, 99] (.seq .leaf (.seq .leaf (.seq (.sub none (.seq .leaf (.seq .leaf (.sub none (.loop [0, 2, 5, 8, 9, 10, 75, 98, 99, 103, 104, 105] .leaf))))) .leaf))))))))) .leaf)))))) .leaf))))))))
  | 53 => (.seq .leaf (.seq .leaf (.seq (.seq .leaf (.sub none (.loop [0, 2, 3] .leaf))) (.seq (.seq .leaf (.sub none (.loop [0, 2, 4] .leaf))) (.seq .leaf (.seq (.seq .leaf (.sub none (.loop [0, 2, 5, 6] .leaf))) .leaf))))))
  | 55 => (.seq .leaf (.seq .leaf (.seq (.seq .leaf (.sub none (.loop [1, 5, 11, 12, 13] .leaf))) .leaf)))
  | 60 => (.seq .leaf (.seq .leaf (.seq (.seq .leaf (.sub none (.loop [0, 1, 5, 6] .leaf))) .leaf)))
  | 64 => (.seq .leaf (.seq (.seq .leaf (.sub none (.loop [2, 5, 6] .leaf))) .leaf))
  | 65 => (.seq .leaf (.seq (.seq .leaf (.sub none (.loop [1, 2, 3] .leaf))) .leaf))
  | 68 => (.seq .leaf (.seq .leaf (.seq (.seq .leaf (.sub none (.loop [0, 1, 4, 12, 13] .leaf))) .leaf)))
  | 69 => (.seq .leaf (.seq .leaf (.seq (.seq .leaf (.sub none (.loop [0, 1, 2, 3, 8, 9, 10] .leaf))) (.seq (.seq .leaf (.sub none (.loop [0, 2, 3, 8, 9, 12] .leaf))) .leaf))))
  | 77 => (.seq .leaf (.seq (.seq .leaf (.sub none (.loop [0, 1, 4, 7, 8] .leaf))) .leaf))
  | 79 => (.seq .leaf (.seq .leaf (.sub none (.loop [0, 1, 2, 3, 4, 10, 11] .leaf))))
  | 81 => (.seq .leaf (.seq .leaf (.seq (.seq .leaf (.sub none (.loop [0, 1, 5, 6] .leaf))) .leaf)))
  | 85 => (.seq .leaf (.sub none (.loop [0, 5, 6, 7] .leaf)))
  | 86 => (.seq .leaf (.sub none (.loop [0, 1, 2, 3, 8] (.seq .leaf (.seq (.sub none (.seq .leaf (.sub none (.loop [0, 1, 2, 3, 8, 9] .leaf)))) .leaf)))))
  | 87 => (.seq .leaf (.seq .leaf (.seq .leaf (.seq (.seq .leaf (.sub none (.loop [0, 3, 8, 9, 10, 11] .leaf))) (.seq .leaf (.sub none (.loop [0, 3, 8, 9, 12] .leaf)))))))
  | 88 => (.seq .leaf (.seq .leaf (.cond none (.seq .leaf (.seq .leaf (.seq .leaf (.sub none (.loop [0, 1, 8, 9, 10, 11] .leaf))))) .leaf)))
  | 90 => (.seq .leaf (.seq .leaf (.sub none (.loop [0, 8, 9] .leaf))))
  | 91 => (.seq .leaf (.seq .leaf (.seq (.seq .leaf (.sub none (.loop [0, 1, 2, 3, 8, 9, 10] (.seq .leaf (.seq (.sub none (.seq (.sub none (.loop [0, 1, 2, 3, 9, 10] .leaf)) (.seq .leaf (.seq .leaf (.seq .leaf (.seq (.seq .leaf (.cond none (.seq .leaf (.sub none (.loop [0, 1, 2, 3, 9, 10, 11] .leaf))) .leaf)) (.seq .leaf (.cond none (.seq .leaf (.sub none (.loop [0, 1, 2, 3, 9, 10, 12] .leaf))) .leaf)))))))) .leaf))))) .leaf)))
  | 92 => (.seq .leaf (.seq .leaf (.seq .leaf (.seq (.sub none (.loop [0, 1, 4, 11, 12] (.sub none (.seq (.sub none (.loop [0, 1, 4, 11, 12] .leaf)) (.seq (.sub none (.loop [0, 1, 4, 11, 12] .leaf)) .leaf))))) .leaf))))
  | 93 => (.seq .leaf (.seq .leaf (.seq .leaf (.seq (.sub none (.loop [0, 1, 4, 12, 13] .leaf)) (.seq (.sub none (.loop [0, 1, 4, 12, 13] .leaf)) (.seq .leaf (.seq .leaf (.seq .leaf (.seq .leaf (.seq (.sub none (.loop [0, 1, 4, 12, 13] (.sub none (.seq (.sub none (.loop [0, 1, 4, 12, 13] .leaf)) (.seq (.sub none (.loop [0, 1, 4, 12, 13] .leaf)) .leaf))))) .leaf))))))))))
  | 97 => (.seq .leaf (.seq .leaf (.sub none (.loop [0, 1, 2, 3, 8, 9] .leaf))))
  | 98 => (.seq .leaf (.sub none (.loop [0, 2, 3, 4, 10] .leaf)))
  | 103 => (.seq .leaf (.sub none (.loop [0, 1, 2, 6] (.seq .leaf (.seq (.sub none (.seq .leaf (.sub none (.loop [0, 1, 2, 6, 7] .leaf)))) .leaf)))))
  | 104 => (.seq .leaf (.seq .leaf (.seq .leaf (.seq (.seq .leaf (.sub none (.loop [0, 6, 7, 8, 9] .leaf))) (.seq .leaf (.sub none (.loop [0, 6, 7, 10] .leaf)))))))
  | 105 => (.seq .leaf (.seq .leaf (.cond none (.seq .leaf (.seq .leaf (.seq .leaf (.sub none (.loop [0, 1, 6, 7, 8, 9] .leaf))))) .leaf)))
  | 107 => (.seq .leaf (.seq .leaf (.sub none (.loop [0, 6, 7] .leaf))))
  | 108 => (.seq .leaf (.seq .leaf (.seq (.seq .leaf (.sub none (.loop [0, 1, 2, 6, 7, 8] (.seq .leaf (.seq (.sub none (.seq (.sub none (.loop [0, 1, 2, 7, 8] .leaf)) (.seq .leaf (.seq .leaf (.seq .leaf (.seq (.seq .leaf (.cond none (.seq .leaf (.sub none (.loop [0, 1, 2, 7, 8, 9] .leaf))) .leaf)) (.seq .leaf (.cond none (.seq .leaf (.sub none (.loop [0, 1, 2, 7, 8, 10] .leaf))) .leaf)))))))) .leaf))))) .leaf)))
  | 110 => (.seq .leaf (.seq .leaf (.seq .leaf (.seq (.sub none (.loop [0, 1, 9, 10] (.sub none (.seq (.sub none (.loop [0, 1, 9, 10] .leaf)) (.seq (.sub none (.loop [0, 1, 9, 10] .leaf)) .leaf))))) .leaf))))
  | 111 => (.seq .leaf (.seq .leaf (.seq .leaf (.seq (.sub none (.loop [0, 1, 10, 11] .leaf)) (.seq (.sub none (.loop [0, 1, 10, 11] .leaf)) (.seq .leaf (.seq .leaf (.seq .leaf (.seq .leaf (.seq (.sub none (.loop [0, 1, 10, 11] (.sub none (.seq (.sub none (.loop [0, 1, 10, 11] .leaf)) (.seq (.sub none (.loop [0, 1, 10, 11] .leaf)) .leaf))))) .leaf))))))))))
  | 113 => (.seq .leaf (.sub none (.loop [0, 2, 3, 8] .leaf)))
  | _ => .leaf
noncomputable def Tryz.env : Env := { ty := tyOf Tryz.tab, fn := fnOf Tryz.prog Tryz.fns, hint := Tryz.hint, ext := fun _ => none }
theorem Tryz.envOk : Tryz.env.Ok Tryz.prog := env_ok (by kernel_rfl) (by kernel_rfl) (by kernel_rfl)
theorem Tryz.fnOk (k : Nat) : CallOk Tryz.prog (aFn Tryz.env k) := fn_ok Tryz.envOk extNone k
end Go.Proofs.YthgfjbafhjkhnaaGreat
