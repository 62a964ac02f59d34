/- Printed by gen.py (wip/zq): what the abstract evaluator is told of the seat's program: types, functions, where loops stand. -/
import Derived.Test.YtmjonmhpfngkaaaProg
import Derived.Test.YtmjonmhpfngkaaaZqCheck
import Derived.KernelRfl
namespace Go.Proofs.Ytmjonmhpfngkaaa
open Go Zq
def Try.tab : List (Option TI) := [
  none,
  none,
  none,
  some ⟨.int .i64, 1, 8, [.int .i64 0]⟩,
  some ⟨.bool, 1, 1, [.bool false]⟩,
  none,
  none,
  none,
  none,
  none,
  none,
  none,
  none,
  none,
  none,
  none,
  none,
  none,
  none,
  none,
  none,
  none,
  none,
  some ⟨.struct [(0, 3), (1, 3), (2, 3), (3, 3)], 4, 32, [.int .i64 0, .int .i64 0, .int .i64 0, .int .i64 0]⟩,
  some ⟨.pointer 27, 1, 8, [.pointer none]⟩,
  some ⟨.array 24 23, 96, 768, [.int .i64 0, .int .i64 0, .int .i64 0, .int .i64 0, .int .i64 0, .int .i64 0, .int .i64 0, .int .i64 0, .int .i64 0, .int .i64 0, .int .i64 0, .int .i64 0, .int .i64 0, .int .i64 0, .int .i64 0, .int .i64 0, .int .i64 0, .int .i64 0, .int .i64 0, .int .i64 0, .int .i64 0, .int .i64 0, .int .i64 0, .int .i64 0, .int .i64 0, .int .i64 0, .int .i64 0, .int .i64 0, .int .i64 0, .int .i64 0, .int .i64 0, .int .i64 0, .int .i64 0, .int .i64 0, .int .i64 0, .int .i64 0, .int .i64 0, .int .i64 0, .int .i64 0, .int .i64 0, .int .i64 0, .int .i64 0, .int .i64 0, .int .i64 0, .int .i64 0, .int .i64 0, .int .i64 0, .int .i64 0, .int .i64 0, .int .i64 0, .int .i64 0, .int .i64 0, .int .i64 0, .int .i64 0, .int .i64 0, .int .i64 0, .int .i64 0, .int .i64 0, .int .i64 0, .int .i64 0, .int .i64 0, .int .i64 0, .int .i64 0, .int .i64 0, .int .i64 0, .int .i64 0, .int .i64 0, .int .i64 0, .int .i64 0, .int .i64 0, .int .i64 0, .int .i64 0, .int .i64 0, .int .i64 0, .int .i64 0, .int .i64 0, .int .i64 0, .int .i64 0, .int .i64 0, .int .i64 0, .int .i64 0, .int .i64 0, .int .i64 0, .int .i64 0, .int .i64 0, .int .i64 0, .int .i64 0, .int .i64 0, .int .i64 0, .int .i64 0, .int .i64 0, .int .i64 0, .int .i64 0, .int .i64 0, .int .i64 0, .int .i64 0]⟩,
  none,
  some ⟨.struct [(0, 4), (1, 3), (2, 25)], 98, 784, [.bool false, .int .i64 0, .int .i64 0, .int .i64 0, .int .i64 0, .int .i64 0, .int .i64 0, .int .i64 0, .int .i64 0, .int .i64 0, .int .i64 0, .int .i64 0, .int .i64 0, .int .i64 0, .int .i64 0, .int .i64 0, .int .i64 0, .int .i64 0, .int .i64 0, .int .i64 0, .int .i64 0, .int .i64 0, .int .i64 0, .int .i64 0, .int .i64 0, .int .i64 0, .int .i64 0, .int .i64 0, .int .i64 0, .int .i64 0, .int .i64 0, .int .i64 0, .int .i64 0, .int .i64 0, .int .i64 0, .int .i64 0, .int .i64 0, .int .i64 0, .int .i64 0, .int .i64 0, .int .i64 0, .int .i64 0, .int .i64 0, .int .i64 0, .int .i64 0, .int .i64 0, .int .i64 0, .int .i64 0, .int .i64 0, .int .i64 0, .int .i64 0, .int .i64 0, .int .i64 0, .int .i64 0, .int .i64 0, .int .i64 0, .int .i64 0, .int .i64 0, .int .i64 0, .int .i64 0, .int .i64 0, .int .i64 0, .int .i64 0, .int .i64 0, .int .i64 0, .int .i64 0, .int .i64 0, .int .i64 0, .int .i64 0, .int .i64 0, .int .i64 0, .int .i64 0, .int .i64 0, .int .i64 0, .int .i64 0, .int .i64 0, .int .i64 0, .int .i64 0, .int .i64 0, .int .i64 0, .int .i64 0, .int .i64 0, .int .i64 0, .int .i64 0, .int .i64 0, .int .i64 0, .int .i64 0, .int .i64 0, .int .i64 0, .int .i64 0, .int .i64 0, .int .i64 0, .int .i64 0, .int .i64 0, .int .i64 0, .int .i64 0, .int .i64 0, .int .i64 0]⟩,
  some ⟨.slice 24, 1, 24, [.slice none 0 0]⟩,
  some ⟨.int .i64, 1, 8, [.int .i64 0]⟩,
  none,
  none,
  some ⟨.slice 23, 1, 24, [.slice none 0 0]⟩,
  none,
  none,
  none,
  none,
  none,
  none,
  none,
  none,
  none,
  some ⟨.slice 55, 1, 24, [.slice none 0 0]⟩,
  none,
  none,
  none,
  some ⟨.pointer 64, 1, 8, [.pointer none]⟩,
  none,
  none,
  none,
  none,
  none,
  some ⟨.func, 1, 8, [.nilFunc]⟩,
  none,
  none,
  some ⟨.struct [(0, 3), (1, 23), (5, 32), (6, 3)], 7, 72, [.int .i64 0, .int .i64 0, .int .i64 0, .int .i64 0, .int .i64 0, .slice none 0 0, .int .i64 0]⟩,
  none,
  none,
  some ⟨.slice 32, 1, 24, [.slice none 0 0]⟩,
  none,
  none,
  none,
  none,
  none,
  some ⟨.struct [(0, 32), (1, 4)], 2, 32, [.slice none 0 0, .bool false]⟩,
  some ⟨.func, 1, 8, [.nilFunc]⟩]
def Try.fns : List FuncId := [3, 4, 5, 6, 7, 8, 9, 10, 11, 12, 13, 14, 15, 16, 17, 18, 19, 20, 21, 22, 23, 24, 25, 26, 27, 28, 29, 30, 31, 32, 33, 34, 35, 36, 37, 38]
def Try.hint : FuncId → Hint := fun f => match f with
  | 3 => (.seq .leaf (.seq .leaf (.seq (.seq .leaf (.sub none (.loop [1, 2, 3, 4] .leaf))) .leaf)))
  | 4 => (.seq .leaf (.seq .leaf (.seq .leaf (.seq .leaf (.seq .leaf (.seq .leaf (.seq .leaf (.seq .leaf (.seq .leaf (.seq .leaf (.seq (.seq .leaf (.sub none (.loop [1, 4, 6, 8, 10, 11, 12, 104] .leaf))) (.seq (.seq .leaf (.sub none (.loop [4, 6, 8, 10, 11, 14, 104] .leaf))) .leaf))))))))))))
  | 5 => (.seq .leaf (.seq .leaf (.seq (.seq .leaf (.sub none (.loop [0, 1, 4, 5, 13, 14, 15] .leaf))) (.seq .leaf (.seq (.seq .leaf (.sub none (.loop [0, 1, 8, 9] .leaf))) .leaf)))))
  | 14 => (.seq .leaf (.seq .leaf (.seq .leaf (.seq (.seq .leaf (.sub none (.loop [2, 3, 4, 12, 13, 14] .leaf))) .leaf))))
  | 17 => (.seq .leaf (.sub none (.loop [0, 2] .leaf)))
  | 19 => (.seq .leaf (.seq .leaf (.seq .leaf (.seq (.seq .leaf (.sub none (.loop [3, 4, 5] .leaf))) .leaf))))
  | 22 => (.seq .leaf (.seq .leaf (.seq (.seq .leaf (.sub none (.loop [0, 1, 4, 5] .leaf))) .leaf)))
  | 24 => (.seq .leaf (.seq .leaf (.seq (.seq .leaf (.sub none (.loop [0, 3, 4] .leaf))) (.seq (.seq .leaf (.sub none (.loop [3, 5] (.seq .leaf (.seq (.sub none (.seq .leaf (.sub none (.loop [3, 5, 6] .leaf)))) .leaf))))) (.seq (.seq .leaf (.sub none (.loop [2, 3, 7] (.seq .leaf (.seq (.sub none (.seq .leaf (.sub none (.loop [2, 3, 7, 8] .leaf)))) .leaf))))) .leaf)))))
  | 28 => (.seq .leaf (.seq (.seq .leaf (.sub none (.loop [0, 2, 3] .leaf))) .leaf))
  | 31 => (.seq .leaf (.sub none (.loop [0, 1, 5, 6] .leaf)))
  | 33 => (.seq .leaf (.seq .leaf (.seq .leaf (.seq .leaf (.seq .leaf (.seq (.seq .leaf (.sub none (.loop [0, 1, 7, 8] .leaf))) .leaf))))))
  | _ => .leaf
noncomputable def Try.env : Env := { ty := tyOf Try.tab, fn := fnOf Try.prog Try.fns, hint := Try.hint, ext := fun _ => none }
theorem Try.envOk : Try.env.Ok Try.prog := env_ok (by kernel_rfl) (by kernel_rfl) (by kernel_rfl)
theorem Try.fnOk (k : Nat) : CallOk Try.prog (aFn Try.env k) := fn_ok Try.envOk extNone k
end Go.Proofs.Ytmjonmhpfngkaaa
