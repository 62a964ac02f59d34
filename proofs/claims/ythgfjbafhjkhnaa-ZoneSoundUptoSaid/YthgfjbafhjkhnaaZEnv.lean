/- Printed by gen.py (wip/zq): what the abstract evaluator is told of the seat's program: types, functions, where loops stand. -/
import Derived.Test.YthgfjbafhjkhnaaProg
import Derived.Test.YthgfjbafhjkhnaaZqCheck
import Derived.KernelRfl
namespace Go.Proofs.Ythgfjbafhjkhnaa
open Go Zq
def Try.tab : List (Option TI) := [
  none,
  none,
  none,
  some ⟨.int .i64, 1, 8, [.int .i64 0]⟩,
  some ⟨.bool, 1, 1, [.bool false]⟩,
  some ⟨.int .u8, 1, 1, [.int .u8 0]⟩,
  none,
  none,
  none,
  some ⟨.string, 1, 16, [.string ⟨#[]⟩]⟩,
  none,
  none,
  none,
  none,
  none,
  none,
  none,
  none,
  none,
  none,
  none,
  none,
  some ⟨.slice 3, 1, 24, [.slice none 0 0]⟩,
  some ⟨.slice 40, 1, 24, [.slice none 0 0]⟩,
  none,
  some ⟨.pointer 51, 1, 8, [.pointer none]⟩,
  some ⟨.int .i64, 1, 8, [.int .i64 0]⟩,
  none,
  none,
  some ⟨.slice 38, 1, 24, [.slice none 0 0]⟩,
  some ⟨.array 2 22, 2, 48, [.slice none 0 0, .slice none 0 0]⟩,
  none,
  some ⟨.struct [(0, 29), (1, 30), (3, 30), (5, 3)], 6, 128, [.slice none 0 0, .slice none 0 0, .slice none 0 0, .slice none 0 0, .slice none 0 0, .int .i64 0]⟩,
  none,
  none,
  some ⟨.int .u8, 1, 1, [.int .u8 0]⟩,
  some ⟨.array 4 3, 4, 32, [.int .i64 0, .int .i64 0, .int .i64 0, .int .i64 0]⟩,
  none,
  some ⟨.struct [(0, 3), (1, 3), (2, 35), (3, 3), (4, 3), (5, 36), (9, 3), (10, 4)], 11, 88, [.int .i64 0, .int .i64 0, .int .u8 0, .int .i64 0, .int .i64 0, .int .i64 0, .int .i64 0, .int .i64 0, .int .i64 0, .int .i64 0, .bool false]⟩,
  none,
  some ⟨.struct [(0, 3), (1, 3), (2, 35), (3, 3), (4, 38), (15, 22)], 16, 144, [.int .i64 0, .int .i64 0, .int .u8 0, .int .i64 0, .int .i64 0, .int .i64 0, .int .u8 0, .int .i64 0, .int .i64 0, .int .i64 0, .int .i64 0, .int .i64 0, .int .i64 0, .int .i64 0, .bool false, .slice none 0 0]⟩,
  none,
  none,
  none,
  none,
  none,
  none,
  none,
  none,
  none,
  none,
  some ⟨.struct [(0, 29), (1, 30), (3, 30), (5, 3)], 6, 128, [.slice none 0 0, .slice none 0 0, .slice none 0 0, .slice none 0 0, .slice none 0 0, .int .i64 0]⟩,
  none,
  none,
  none,
  none,
  none,
  some ⟨.array 2 3, 2, 16, [.int .i64 0, .int .i64 0]⟩,
  none,
  none,
  none,
  none,
  none,
  none,
  none,
  none,
  none,
  none,
  some ⟨.func, 1, 8, [.nilFunc]⟩,
  some ⟨.func, 1, 8, [.nilFunc]⟩,
  none,
  none,
  none,
  some ⟨.func, 1, 8, [.nilFunc]⟩,
  none,
  some ⟨.slice 22, 1, 24, [.slice none 0 0]⟩,
  some ⟨.map 3 3, 1, 8, [.map none]⟩,
  none,
  some ⟨.pointer 22, 1, 8, [.pointer none]⟩,
  none,
  none,
  none,
  none,
  none,
  none,
  some ⟨.int .u64, 1, 8, [.int .u64 0]⟩,
  none,
  none,
  some ⟨.int .i64, 1, 8, [.int .i64 0]⟩,
  none,
  none,
  none,
  none,
  none,
  none,
  none,
  some ⟨.int .u32, 1, 4, [.int .u32 0]⟩,
  none,
  some ⟨.int .u64, 1, 8, [.int .u64 0]⟩,
  none,
  none,
  some ⟨.int .u64, 1, 8, [.int .u64 0]⟩,
  none,
  none,
  none,
  some ⟨.pointer 3, 1, 8, [.pointer none]⟩,
  none,
  none,
  none,
  none,
  none,
  none,
  none,
  some ⟨.pointer 101, 1, 8, [.pointer none]⟩]
def Try.fns : List FuncId := [3, 4, 5, 6, 7, 8, 9, 10, 11, 12, 13, 14, 15, 16, 17, 18, 19, 20, 21, 22, 23, 24, 25, 26, 27, 28, 29, 30, 31, 32, 33, 34, 35, 36, 37, 38, 39, 40, 41, 42, 43, 44, 45, 46, 47, 48, 49, 50, 51, 52, 53, 54, 55, 56, 57, 58, 59, 60, 61, 62, 63, 64, 65, 66, 67, 68, 69, 70, 71, 72, 73, 74, 75, 76, 77, 78, 79, 80, 81]
def Try.hint : FuncId → Hint := fun f => match f with
  | 3 => (.seq .leaf (.seq .leaf (.seq .leaf (.seq .leaf (.seq (.seq .leaf (.sub none (.loop [2, 6, 7, 9] .leaf))) (.seq .leaf (.seq .leaf (.seq .leaf (.seq (.seq .leaf (.sub none (.loop [2, 6, 7, 14, 15] .leaf))) .leaf)))))))))
  | 5 => (.seq .leaf (.seq .leaf (.seq .leaf (.seq (.seq .leaf (.sub none (.loop [4, 5, 6, 31, 32] (.seq .leaf (.seq .leaf (.seq (.sub none (.seq .leaf (.seq .leaf (.sub none (.loop [4, 5, 6, 7, 31, 32, 36, 37, 38] .leaf))))) .leaf)))))) .leaf))))
  | 6 => (.seq .leaf (.seq .leaf (.seq (.seq .leaf (.sub none (.loop [0, 2, 3, 4] .leaf))) .leaf)))
  | 8 => (.seq .leaf (.seq .leaf (.seq .leaf (.seq .leaf (.seq (.seq .leaf (.sub none (.loop [0, 2, 3, 4, 5, 6] .leaf))) (.seq (.seq .leaf (.sub none (.loop [0, 2, 3, 4, 9] .leaf))) .leaf))))))
  | 9 => (.seq .leaf (.seq .leaf (.seq (.seq .leaf (.sub none (.loop [2, 3, 4, 5] .leaf))) .leaf)))
  | 10 => (.seq .leaf (.seq .leaf (.seq (.seq .leaf (.sub none (.loop [0, 3, 5, 6, 10, 17] .leaf))) (.seq .leaf (.seq .leaf (.seq (.seq .leaf (.sub none (.loop [5, 6, 12, 42] .leaf))) .leaf))))))
  | 11 => (.seq .leaf (.seq .leaf (.seq (.seq .leaf (.sub none (.loop [0, 1, 4, 5] .leaf))) .leaf)))
  | 14 => (.seq .leaf (.seq .leaf (.seq .leaf (.seq (.seq .leaf (.sub none (.loop [1, 3, 12, 13, 14] .leaf))) .leaf))))
  | 23 => (.seq .leaf (.seq .leaf (.seq (.seq .leaf (.sub none (.loop [0, 1, 5, 6] (.seq .leaf (.seq (.sub none (.seq .leaf (.sub none (.loop [0, 1, 5, 6, 7] .leaf)))) .leaf))))) .leaf)))
  | 24 => (.seq .leaf (.seq .leaf (.seq (.seq .leaf (.sub none (.loop [0, 1, 4, 5] .leaf))) .leaf)))
  | 27 => (.seq .leaf (.seq .leaf (.seq .leaf (.seq .leaf (.seq .leaf (.seq (.seq .leaf (.sub none (.loop [0, 2, 3, 4, 5, 31, 32, 33] .leaf))) (.seq .leaf (.seq (.seq .leaf (.sub none (.loop [0, 2, 5, 8, 75] (.seq .leaf (.seq .leaf (.seq (.sub none (.seq .leaf (.seq .leaf (.seq .leaf (.sub none (.loop [0, 2, 5, 8, 9, 75, 98, 99] (.seq .leaf (.seq .leaf (.seq (.sub none (.seq .leaf (.seq .leaf (.sub none (.loop [0, 2, 5, 8, 9, 10, 75, 98, 99, 103, 104, 105] .leaf))))) .leaf))))))))) .leaf)))))) .leaf))))))))
  | 28 => (.seq .leaf (.seq .leaf (.seq .leaf (.seq .leaf (.seq (.seq .leaf (.cond none (.seq (.seq .leaf (.sub none (.loop [0, 1, 8, 34, 35, 36] .leaf))) .leaf) .leaf)) (.seq (.seq .leaf (.sub none (.loop [1, 2, 8, 60, 61, 62] .leaf))) .leaf))))))
  | 29 => (.seq .leaf (.seq .leaf (.seq (.seq .leaf (.sub none (.loop [1, 5, 11, 12, 13] .leaf))) .leaf)))
  | 36 => (.seq .leaf (.seq (.seq .leaf (.sub none (.loop [2, 5, 6] .leaf))) .leaf))
  | 39 => (.seq .leaf (.seq .leaf (.seq (.seq .leaf (.sub none (.loop [0, 1, 4, 12, 13] .leaf))) .leaf)))
  | 43 => (.seq .leaf (.seq (.seq .leaf (.sub none (.loop [0, 1, 4, 7, 8] .leaf))) .leaf))
  | 45 => (.seq .leaf (.seq .leaf (.sub none (.loop [0, 1, 2, 3, 4, 10, 11] .leaf))))
  | 49 => (.seq .leaf (.sub none (.loop [0, 5, 6, 7] .leaf)))
  | 50 => (.seq .leaf (.sub none (.loop [0, 1, 2, 3, 8] (.seq .leaf (.seq (.sub none (.seq .leaf (.sub none (.loop [0, 1, 2, 3, 8, 9] .leaf)))) .leaf)))))
  | 51 => (.seq .leaf (.seq .leaf (.seq .leaf (.seq (.seq .leaf (.sub none (.loop [0, 3, 8, 9, 10, 11] .leaf))) (.seq .leaf (.sub none (.loop [0, 3, 8, 9, 12] .leaf)))))))
  | 52 => (.seq .leaf (.seq .leaf (.cond none (.seq .leaf (.seq .leaf (.seq .leaf (.sub none (.loop [0, 1, 8, 9, 10, 11] .leaf))))) .leaf)))
  | 54 => (.seq .leaf (.seq .leaf (.sub none (.loop [0, 8, 9] .leaf))))
  | 55 => (.seq .leaf (.seq .leaf (.seq (.seq .leaf (.sub none (.loop [0, 1, 2, 3, 8, 9, 10] (.seq .leaf (.seq (.sub none (.seq (.sub none (.loop [0, 1, 2, 3, 9, 10] .leaf)) (.seq .leaf (.seq .leaf (.seq .leaf (.seq (.seq .leaf (.cond none (.seq .leaf (.sub none (.loop [0, 1, 2, 3, 9, 10, 11] .leaf))) .leaf)) (.seq .leaf (.cond none (.seq .leaf (.sub none (.loop [0, 1, 2, 3, 9, 10, 12] .leaf))) .leaf)))))))) .leaf))))) .leaf)))
  | 56 => (.seq .leaf (.seq .leaf (.seq .leaf (.seq (.sub none (.loop [0, 1, 4, 11, 12] (.sub none (.seq (.sub none (.loop [0, 1, 4, 11, 12] .leaf)) (.seq (.sub none (.loop [0, 1, 4, 11, 12] .leaf)) .leaf))))) .leaf))))
  | 57 => (.seq .leaf (.seq .leaf (.seq .leaf (.seq (.sub none (.loop [0, 1, 4, 12, 13] .leaf)) (.seq (.sub none (.loop [0, 1, 4, 12, 13] .leaf)) (.seq .leaf (.seq .leaf (.seq .leaf (.seq .leaf (.seq (.sub none (.loop [0, 1, 4, 12, 13] (.sub none (.seq (.sub none (.loop [0, 1, 4, 12, 13] .leaf)) (.seq (.sub none (.loop [0, 1, 4, 12, 13] .leaf)) .leaf))))) .leaf))))))))))
  | 61 => (.seq .leaf (.seq .leaf (.sub none (.loop [0, 1, 2, 3, 8, 9] .leaf))))
  | 62 => (.seq .leaf (.sub none (.loop [0, 2, 3, 4, 10] .leaf)))
  | 67 => (.seq .leaf (.sub none (.loop [0, 1, 2, 6] (.seq .leaf (.seq (.sub none (.seq .leaf (.sub none (.loop [0, 1, 2, 6, 7] .leaf)))) .leaf)))))
  | 68 => (.seq .leaf (.seq .leaf (.seq .leaf (.seq (.seq .leaf (.sub none (.loop [0, 6, 7, 8, 9] .leaf))) (.seq .leaf (.sub none (.loop [0, 6, 7, 10] .leaf)))))))
  | 69 => (.seq .leaf (.seq .leaf (.cond none (.seq .leaf (.seq .leaf (.seq .leaf (.sub none (.loop [0, 1, 6, 7, 8, 9] .leaf))))) .leaf)))
  | 71 => (.seq .leaf (.seq .leaf (.sub none (.loop [0, 6, 7] .leaf))))
  | 72 => (.seq .leaf (.seq .leaf (.seq (.seq .leaf (.sub none (.loop [0, 1, 2, 6, 7, 8] (.seq .leaf (.seq (.sub none (.seq (.sub none (.loop [0, 1, 2, 7, 8] .leaf)) (.seq .leaf (.seq .leaf (.seq .leaf (.seq (.seq .leaf (.cond none (.seq .leaf (.sub none (.loop [0, 1, 2, 7, 8, 9] .leaf))) .leaf)) (.seq .leaf (.cond none (.seq .leaf (.sub none (.loop [0, 1, 2, 7, 8, 10] .leaf))) .leaf)))))))) .leaf))))) .leaf)))
  | 74 => (.seq .leaf (.seq .leaf (.seq .leaf (.seq (.sub none (.loop [0, 1, 9, 10] (.sub none (.seq (.sub none (.loop [0, 1, 9, 10] .leaf)) (.seq (.sub none (.loop [0, 1, 9, 10] .leaf)) .leaf))))) .leaf))))
  | 75 => (.seq .leaf (.seq .leaf (.seq .leaf (.seq (.sub none (.loop [0, 1, 10, 11] .leaf)) (.seq (.sub none (.loop [0, 1, 10, 11] .leaf)) (.seq .leaf (.seq .leaf (.seq .leaf (.seq .leaf (.seq (.sub none (.loop [0, 1, 10, 11] (.sub none (.seq (.sub none (.loop [0, 1, 10, 11] .leaf)) (.seq (.sub none (.loop [0, 1, 10, 11] .leaf)) .leaf))))) .leaf))))))))))
  | 77 => (.seq .leaf (.sub none (.loop [0, 2, 3, 8] .leaf)))
  | _ => .leaf
noncomputable def Try.env : Env := { ty := tyOf Try.tab, fn := fnOf Try.prog Try.fns, hint := Try.hint, ext := fun _ => none }
theorem Try.envOk : Try.env.Ok Try.prog := env_ok (by kernel_rfl) (by kernel_rfl) (by kernel_rfl)
theorem Try.fnOk (k : Nat) : CallOk Try.prog (aFn Try.env k) := fn_ok Try.envOk extNone k
end Go.Proofs.Ythgfjbafhjkhnaa
