/- Printed by gen.py (wip/zq): what the abstract evaluator is told of the seat's program: types, functions, where loops stand. -/
import Derived.Test.YtngdmjajgeobhaaGreatDoorProg
import Derived.Test.YtngdmjajgeobhaaGreatDoorZqCheck
import Derived.KernelRfl
namespace Go.Proofs.YtngdmjajgeobhaaGreatDoor
open Go Zq
def Tryz.tab : List (Option TI) := [
  none,
  none,
  none,
  some ⟨.int .i64, 1, 8, [.int .i64 0]⟩,
  some ⟨.bool, 1, 1, [.bool false]⟩,
  some ⟨.int .u8, 1, 1, [.int .u8 0]⟩,
  none,
  none,
  none,
  some ⟨.string, 1, 16, [.string ⟨#[]⟩]⟩,
  none,
  none,
  none,
  none,
  none,
  none,
  none,
  none,
  none,
  none,
  none,
  some ⟨.int .i32, 1, 4, [.int .i32 0]⟩,
  some ⟨.pointer 67, 1, 8, [.pointer none]⟩,
  some ⟨.slice 52, 1, 24, [.slice none 0 0]⟩,
  some ⟨.slice 108, 1, 24, [.slice none 0 0]⟩,
  none,
  none,
  none,
  none,
  some ⟨.struct [(0, 3), (1, 3), (2, 3)], 3, 24, [.int .i64 0, .int .i64 0, .int .i64 0]⟩,
  some ⟨.slice 29, 1, 24, [.slice none 0 0]⟩,
  some ⟨.int .i64, 1, 8, [.int .i64 0]⟩,
  some ⟨.slice 31, 1, 24, [.slice none 0 0]⟩,
  none,
  some ⟨.slice 3, 1, 24, [.slice none 0 0]⟩,
  none,
  none,
  some ⟨.slice 45, 1, 24, [.slice none 0 0]⟩,
  none,
  none,
  none,
  some ⟨.slice 48, 1, 24, [.slice none 0 0]⟩,
  none,
  none,
  none,
  some ⟨.array 2 3, 2, 16, [.int .i64 0, .int .i64 0]⟩,
  some ⟨.int .u8, 1, 1, [.int .u8 0]⟩,
  none,
  some ⟨.struct [(0, 46), (1, 3), (2, 3), (3, 3), (4, 4), (5, 4)], 6, 40, [.int .u8 0, .int .i64 0, .int .i64 0, .int .i64 0, .bool false, .bool false]⟩,
  some ⟨.int .u8, 1, 1, [.int .u8 0]⟩,
  some ⟨.array 4 3, 4, 32, [.int .i64 0, .int .i64 0, .int .i64 0, .int .i64 0]⟩,
  none,
  some ⟨.struct [(0, 3), (1, 3), (2, 49), (3, 3), (4, 3), (5, 50), (9, 3), (10, 4)], 11, 88, [.int .i64 0, .int .i64 0, .int .u8 0, .int .i64 0, .int .i64 0, .int .i64 0, .int .i64 0, .int .i64 0, .int .i64 0, .int .i64 0, .bool false]⟩,
  some ⟨.int .u8, 1, 1, [.int .u8 0]⟩,
  some ⟨.int .u8, 1, 1, [.int .u8 0]⟩,
  none,
  some ⟨.int .u16, 1, 2, [.int .u16 0]⟩,
  some ⟨.slice 128, 1, 24, [.slice none 0 0]⟩,
  none,
  some ⟨.struct [(0, 9), (1, 53), (2, 54), (3, 3), (4, 3), (5, 3), (6, 56), (7, 4), (8, 57)], 9, 80, [.string ⟨#[]⟩, .int .u8 0, .int .u8 0, .int .i64 0, .int .i64 0, .int .i64 0, .int .u16 0, .bool false, .slice none 0 0]⟩,
  some ⟨.array 64 59, 576, 5120, [.string ⟨#[]⟩, .int .u8 0, .int .u8 0, .int .i64 0, .int .i64 0, .int .i64 0, .int .u16 0, .bool false, .slice none 0 0, .string ⟨#[]⟩, .int .u8 0, .int .u8 0, .int .i64 0, .int .i64 0, .int .i64 0, .int .u16 0, .bool false, .slice none 0 0, .string ⟨#[]⟩, .int .u8 0, .int .u8 0, .int .i64 0, .int .i64 0, .int .i64 0, .int .u16 0, .bool false, .slice none 0 0, .string ⟨#[]⟩, .int .u8 0, .int .u8 0, .int .i64 0, .int .i64 0, .int .i64 0, .int .u16 0, .bool false, .slice none 0 0, .string ⟨#[]⟩, .int .u8 0, .int .u8 0, .int .i64 0, .int .i64 0, .int .i64 0, .int .u16 0, .bool false, .slice none 0 0, .string ⟨#[]⟩, .int .u8 0, .int .u8 0, .int .i64 0, .int .i64 0, .int .i64 0, .int .u16 0, .bool false, .slice none 0 0, .string ⟨#[]⟩, .int .u8 0, .int .u8 0, .int .i64 0, .int .i64 0, .int .i64 0, .int .u16 0, .bool false, .slice none 0 0, .string ⟨#[]⟩, .int .u8 0, .int .u8 0, .int .i64 0, .int .i64 0, .int .i64 0, .int .u16 0, .bool false, .slice none 0 0, .string ⟨#[]⟩, .int .u8 0, .int .u8 0, .int .i64 0, .int .i64 0, .int .i64 0, .int .u16 0, .bool false, .slice none 0 0, .string ⟨#[]⟩, .int .u8 0, .int .u8 0, .int .i64 0, .int .i64 0, .int .i64 0, .int .u16 0, .bool false, .slice none 0 0, .string ⟨#[]⟩, .int .u8 0, .int .u8 0, .int .i64 0, .int .i64 0, .int .i64 0, .int .u16 0, .bool false, .slice none 0 0, .string ⟨#[]⟩, .int .u8 0, .int .u8 0, .int .i64 0, .int .i64 0, .int .i64 0, .int .u16 0, .bool false, .slice none 0 0, .string ⟨#[]⟩, .int .u8 0, .int .u8 0, .int .i64 0, .int .i64 0, .int .i64 0, .int .u16 0, .bool false, .slice none 0 0, .string ⟨#[]⟩, .int .u8 0, .int .u8 0, .int .i64 0, .int .i64 0, .int .i64 0, .int .u16 0, .bool false, .slice none 0 0, .string ⟨#[]⟩, .int .u8 0, .int .u8 0, .int .i64 0, .int .i64 0, .int .i64 0, .int .u16 0, .bool false, .slice none 0 0, .string ⟨#[]⟩, .int .u8 0, .int .u8 0, .int .i64 0, .int .i64 0, .int .i64 0, .int .u16 0, .bool false, .slice none 0 0, .string ⟨#[]⟩, .int .u8 0, .int .u8 0, .int .i64 0, .int .i64 0, .int .i64 0, .int .u16 0, .bool false, .slice none 0 0, .string ⟨#[]⟩, .int .u8 0, .int .u8 0, .int .i64 0, .int .i64 0, .int .i64 0, .int .u16 0, .bool false, .slice none 0 0, .string ⟨#[]⟩, .int .u8 0, .int .u8 0, .int .i64 0, .int .i64 0, .int .i64 0, .int .u16 0, .bool false, .slice none 0 0, .string ⟨#[]⟩, .int .u8 0, .int .u8 0, .int .i64 0, .int .i64 0, .int .i64 0, .int .u16 0, .bool false, .slice none 0 0, .string ⟨#[]⟩, .int .u8 0, .int .u8 0, .int .i64 0, .int .i64 0, .int .i64 0, .int .u16 0, .bool false, .slice none 0 0, .string ⟨#[]⟩, .int .u8 0, .int .u8 0, .int .i64 0, .int .i64 0, .int .i64 0, .int .u16 0, .bool false, .slice none 0 0, .string ⟨#[]⟩, .int .u8 0, .int .u8 0, .int .i64 0, .int .i64 0, .int .i64 0, .int .u16 0, .bool false, .slice none 0 0, .string ⟨#[]⟩, .int .u8 0, .int .u8 0, .int .i64 0, .int .i64 0, .int .i64 0, .int .u16 0, .bool false, .slice none 0 0, .string ⟨#[]⟩, .int .u8 0, .int .u8 0, .int .i64 0, .int .i64 0, .int .i64 0, .int .u16 0, .bool false, .slice none 0 0, .string ⟨#[]⟩, .int .u8 0, .int .u8 0, .int .i64 0, .int .i64 0, .int .i64 0, .int .u16 0, .bool false, .slice none 0 0, .string ⟨#[]⟩, .int .u8 0, .int .u8 0, .int .i64 0, .int .i64 0, .int .i64 0, .int .u16 0, .bool false, .slice none 0 0, .string ⟨#[]⟩, .int .u8 0, .int .u8 0, .int .i64 0, .int .i64 0, .int .i64 0, .int .u16 0, .bool false, .slice none 0 0, .string ⟨#[]⟩, .int .u8 0, .int .u8 0, .int .i64 0, .int .i64 0, .int .i64 0, .int .u16 0, .bool false, .slice none 0 0, .string ⟨#[]⟩, .int .u8 0, .int .u8 0, .int .i64 0, .int .i64 0, .int .i64 0, .int .u16 0, .bool false, .slice none 0 0, .string ⟨#[]⟩, .int .u8 0, .int .u8 0, .int .i64 0, .int .i64 0, .int .i64 0, .int .u16 0, .bool false, .slice none 0 0, .string ⟨#[]⟩, .int .u8 0, .int .u8 0, .int .i64 0, .int .i64 0, .int .i64 0, .int .u16 0, .bool false, .slice none 0 0, .string ⟨#[]⟩, .int .u8 0, .int .u8 0, .int .i64 0, .int .i64 0, .int .i64 0, .int .u16 0, .bool false, .slice none 0 0, .string ⟨#[]⟩, .int .u8 0, .int .u8 0, .int .i64 0, .int .i64 0, .int .i64 0, .int .u16 0, .bool false, .slice none 0 0, .string ⟨#[]⟩, .int .u8 0, .int .u8 0, .int .i64 0, .int .i64 0, .int .i64 0, .int .u16 0, .bool false, .slice none 0 0, .string ⟨#[]⟩, .int .u8 0, .int .u8 0, .int .i64 0, .int .i64 0, .int .i64 0, .int .u16 0, .bool false, .slice none 0 0, .string ⟨#[]⟩, .int .u8 0, .int .u8 0, .int .i64 0, .int .i64 0, .int .i64 0, .int .u16 0, .bool false, .slice none 0 0, .string ⟨#[]⟩, .int .u8 0, .int .u8 0, .int .i64 0, .int .i64 0, .int .i64 0, .int .u16 0, .bool false, .slice none 0 0, .string ⟨#[]⟩, .int .u8 0, .int .u8 0, .int .i64 0, .int .i64 0, .int .i64 0, .int .u16 0, .bool false, .slice none 0 0, .string ⟨#[]⟩, .int .u8 0, .int .u8 0, .int .i64 0, .int .i64 0, .int .i64 0, .int .u16 0, .bool false, .slice none 0 0, .string ⟨#[]⟩, .int .u8 0, .int .u8 0, .int .i64 0, .int .i64 0, .int .i64 0, .int .u16 0, .bool false, .slice none 0 0, .string ⟨#[]⟩, .int .u8 0, .int .u8 0, .int .i64 0, .int .i64 0, .int .i64 0, .int .u16 0, .bool false, .slice none 0 0, .string ⟨#[]⟩, .int .u8 0, .int .u8 0, .int .i64 0, .int .i64 0, .int .i64 0, .int .u16 0, .bool false, .slice none 0 0, .string ⟨#[]⟩, .int .u8 0, .int .u8 0, .int .i64 0, .int .i64 0, .int .i64 0, .int .u16 0, .bool false, .slice none 0 0, .string ⟨#[]⟩, .int .u8 0, .int .u8 0, .int .i64 0, .int .i64 0, .int .i64 0, .int .u16 0, .bool false, .slice none 0 0, .string ⟨#[]⟩, .int .u8 0, .int .u8 0, .int .i64 0, .int .i64 0, .int .i64 0, .int .u16 0, .bool false, .slice none 0 0, .string ⟨#[]⟩, .int .u8 0, .int .u8 0, .int .i64 0, .int .i64 0, .int .i64 0, .int .u16 0, .bool false, .slice none 0 0, .string ⟨#[]⟩, .int .u8 0, .int .u8 0, .int .i64 0, .int .i64 0, .int .i64 0, .int .u16 0, .bool false, .slice none 0 0, .string ⟨#[]⟩, .int .u8 0, .int .u8 0, .int .i64 0, .int .i64 0, .int .i64 0, .int .u16 0, .bool false, .slice none 0 0, .string ⟨#[]⟩, .int .u8 0, .int .u8 0, .int .i64 0, .int .i64 0, .int .i64 0, .int .u16 0, .bool false, .slice none 0 0, .string ⟨#[]⟩, .int .u8 0, .int .u8 0, .int .i64 0, .int .i64 0, .int .i64 0, .int .u16 0, .bool false, .slice none 0 0, .string ⟨#[]⟩, .int .u8 0, .int .u8 0, .int .i64 0, .int .i64 0, .int .i64 0, .int .u16 0, .bool false, .slice none 0 0, .string ⟨#[]⟩, .int .u8 0, .int .u8 0, .int .i64 0, .int .i64 0, .int .i64 0, .int .u16 0, .bool false, .slice none 0 0, .string ⟨#[]⟩, .int .u8 0, .int .u8 0, .int .i64 0, .int .i64 0, .int .i64 0, .int .u16 0, .bool false, .slice none 0 0, .string ⟨#[]⟩, .int .u8 0, .int .u8 0, .int .i64 0, .int .i64 0, .int .i64 0, .int .u16 0, .bool false, .slice none 0 0, .string ⟨#[]⟩, .int .u8 0, .int .u8 0, .int .i64 0, .int .i64 0, .int .i64 0, .int .u16 0, .bool false, .slice none 0 0, .string ⟨#[]⟩, .int .u8 0, .int .u8 0, .int .i64 0, .int .i64 0, .int .i64 0, .int .u16 0, .bool false, .slice none 0 0, .string ⟨#[]⟩, .int .u8 0, .int .u8 0, .int .i64 0, .int .i64 0, .int .i64 0, .int .u16 0, .bool false, .slice none 0 0, .string ⟨#[]⟩, .int .u8 0, .int .u8 0, .int .i64 0, .int .i64 0, .int .i64 0, .int .u16 0, .bool false, .slice none 0 0, .string ⟨#[]⟩, .int .u8 0, .int .u8 0, .int .i64 0, .int .i64 0, .int .i64 0, .int .u16 0, .bool false, .slice none 0 0, .string ⟨#[]⟩, .int .u8 0, .int .u8 0, .int .i64 0, .int .i64 0, .int .i64 0, .int .u16 0, .bool false, .slice none 0 0, .string ⟨#[]⟩, .int .u8 0, .int .u8 0, .int .i64 0, .int .i64 0, .int .i64 0, .int .u16 0, .bool false, .slice none 0 0, .string ⟨#[]⟩, .int .u8 0, .int .u8 0, .int .i64 0, .int .i64 0, .int .i64 0, .int .u16 0, .bool false, .slice none 0 0, .string ⟨#[]⟩, .int .u8 0, .int .u8 0, .int .i64 0, .int .i64 0, .int .i64 0, .int .u16 0, .bool false, .slice none 0 0]⟩,
  some ⟨.array 9 9, 9, 144, [.string ⟨#[]⟩, .string ⟨#[]⟩, .string ⟨#[]⟩, .string ⟨#[]⟩, .string ⟨#[]⟩, .string ⟨#[]⟩, .string ⟨#[]⟩, .string ⟨#[]⟩, .string ⟨#[]⟩]⟩,
  some ⟨.int .u8, 1, 1, [.int .u8 0]⟩,
  none,
  some ⟨.struct [(0, 62), (1, 9), (2, 3), (3, 3)], 4, 40, [.int .u8 0, .string ⟨#[]⟩, .int .i64 0, .int .i64 0]⟩,
  some ⟨.array 5 64, 20, 200, [.int .u8 0, .string ⟨#[]⟩, .int .i64 0, .int .i64 0, .int .u8 0, .string ⟨#[]⟩, .int .i64 0, .int .i64 0, .int .u8 0, .string ⟨#[]⟩, .int .i64 0, .int .i64 0, .int .u8 0, .string ⟨#[]⟩, .int .i64 0, .int .i64 0, .int .u8 0, .string ⟨#[]⟩, .int .i64 0, .int .i64 0]⟩,
  none,
  some ⟨.struct [(0, 4), (1, 4), (2, 3), (3, 60), (579, 61), (588, 65)], 608, 5480, [.bool false, .bool false, .int .i64 0, .string ⟨#[]⟩, .int .u8 0, .int .u8 0, .int .i64 0, .int .i64 0, .int .i64 0, .int .u16 0, .bool false, .slice none 0 0, .string ⟨#[]⟩, .int .u8 0, .int .u8 0, .int .i64 0, .int .i64 0, .int .i64 0, .int .u16 0, .bool false, .slice none 0 0, .string ⟨#[]⟩, .int .u8 0, .int .u8 0, .int .i64 0, .int .i64 0, .int .i64 0, .int .u16 0, .bool false, .slice none 0 0, .string ⟨#[]⟩, .int .u8 0, .int .u8 0, .int .i64 0, .int .i64 0, .int .i64 0, .int .u16 0, .bool false, .slice none 0 0, .string ⟨#[]⟩, .int .u8 0, .int .u8 0, .int .i64 0, .int .i64 0, .int .i64 0, .int .u16 0, .bool false, .slice none 0 0, .string ⟨#[]⟩, .int .u8 0, .int .u8 0, .int .i64 0, .int .i64 0, .int .i64 0, .int .u16 0, .bool false, .slice none 0 0, .string ⟨#[]⟩, .int .u8 0, .int .u8 0, .int .i64 0, .int .i64 0, .int .i64 0, .int .u16 0, .bool false, .slice none 0 0, .string ⟨#[]⟩, .int .u8 0, .int .u8 0, .int .i64 0, .int .i64 0, .int .i64 0, .int .u16 0, .bool false, .slice none 0 0, .string ⟨#[]⟩, .int .u8 0, .int .u8 0, .int .i64 0, .int .i64 0, .int .i64 0, .int .u16 0, .bool false, .slice none 0 0, .string ⟨#[]⟩, .int .u8 0, .int .u8 0, .int .i64 0, .int .i64 0, .int .i64 0, .int .u16 0, .bool false, .slice none 0 0, .string ⟨#[]⟩, .int .u8 0, .int .u8 0, .int .i64 0, .int .i64 0, .int .i64 0, .int .u16 0, .bool false, .slice none 0 0, .string ⟨#[]⟩, .int .u8 0, .int .u8 0, .int .i64 0, .int .i64 0, .int .i64 0, .int .u16 0, .bool false, .slice none 0 0, .string ⟨#[]⟩, .int .u8 0, .int .u8 0, .int .i64 0, .int .i64 0, .int .i64 0, .int .u16 0, .bool false, .slice none 0 0, .string ⟨#[]⟩, .int .u8 0, .int .u8 0, .int .i64 0, .int .i64 0, .int .i64 0, .int .u16 0, .bool false, .slice none 0 0, .string ⟨#[]⟩, .int .u8 0, .int .u8 0, .int .i64 0, .int .i64 0, .int .i64 0, .int .u16 0, .bool false, .slice none 0 0, .string ⟨#[]⟩, .int .u8 0, .int .u8 0, .int .i64 0, .int .i64 0, .int .i64 0, .int .u16 0, .bool false, .slice none 0 0, .string ⟨#[]⟩, .int .u8 0, .int .u8 0, .int .i64 0, .int .i64 0, .int .i64 0, .int .u16 0, .bool false, .slice none 0 0, .string ⟨#[]⟩, .int .u8 0, .int .u8 0, .int .i64 0, .int .i64 0, .int .i64 0, .int .u16 0, .bool false, .slice none 0 0, .string ⟨#[]⟩, .int .u8 0, .int .u8 0, .int .i64 0, .int .i64 0, .int .i64 0, .int .u16 0, .bool false, .slice none 0 0, .string ⟨#[]⟩, .int .u8 0, .int .u8 0, .int .i64 0, .int .i64 0, .int .i64 0, .int .u16 0, .bool false, .slice none 0 0, .string ⟨#[]⟩, .int .u8 0, .int .u8 0, .int .i64 0, .int .i64 0, .int .i64 0, .int .u16 0, .bool false, .slice none 0 0, .string ⟨#[]⟩, .int .u8 0, .int .u8 0, .int .i64 0, .int .i64 0, .int .i64 0, .int .u16 0, .bool false, .slice none 0 0, .string ⟨#[]⟩, .int .u8 0, .int .u8 0, .int .i64 0, .int .i64 0, .int .i64 0, .int .u16 0, .bool false, .slice none 0 0, .string ⟨#[]⟩, .int .u8 0, .int .u8 0, .int .i64 0, .int .i64 0, .int .i64 0, .int .u16 0, .bool false, .slice none 0 0, .string ⟨#[]⟩, .int .u8 0, .int .u8 0, .int .i64 0, .int .i64 0, .int .i64 0, .int .u16 0, .bool false, .slice none 0 0, .string ⟨#[]⟩, .int .u8 0, .int .u8 0, .int .i64 0, .int .i64 0, .int .i64 0, .int .u16 0, .bool false, .slice none 0 0, .string ⟨#[]⟩, .int .u8 0, .int .u8 0, .int .i64 0, .int .i64 0, .int .i64 0, .int .u16 0, .bool false, .slice none 0 0, .string ⟨#[]⟩, .int .u8 0, .int .u8 0, .int .i64 0, .int .i64 0, .int .i64 0, .int .u16 0, .bool false, .slice none 0 0, .string ⟨#[]⟩, .int .u8 0, .int .u8 0, .int .i64 0, .int .i64 0, .int .i64 0, .int .u16 0, .bool false, .slice none 0 0, .string ⟨#[]⟩, .int .u8 0, .int .u8 0, .int .i64 0, .int .i64 0, .int .i64 0, .int .u16 0, .bool false, .slice none 0 0, .string ⟨#[]⟩, .int .u8 0, .int .u8 0, .int .i64 0, .int .i64 0, .int .i64 0, .int .u16 0, .bool false, .slice none 0 0, .string ⟨#[]⟩, .int .u8 0, .int .u8 0, .int .i64 0, .int .i64 0, .int .i64 0, .int .u16 0, .bool false, .slice none 0 0, .string ⟨#[]⟩, .int .u8 0, .int .u8 0, .int .i64 0, .int .i64 0, .int .i64 0, .int .u16 0, .bool false, .slice none 0 0, .string ⟨#[]⟩, .int .u8 0, .int .u8 0, .int .i64 0, .int .i64 0, .int .i64 0, .int .u16 0, .bool false, .slice none 0 0, .string ⟨#[]⟩, .int .u8 0, .int .u8 0, .int .i64 0, .int .i64 0, .int .i64 0, .int .u16 0, .bool false, .slice none 0 0, .string ⟨#[]⟩, .int .u8 0, .int .u8 0, .int .i64 0, .int .i64 0, .int .i64 0, .int .u16 0, .bool false, .slice none 0 0, .string ⟨#[]⟩, .int .u8 0, .int .u8 0, .int .i64 0, .int .i64 0, .int .i64 0, .int .u16 0, .bool false, .slice none 0 0, .string ⟨#[]⟩, .int .u8 0, .int .u8 0, .int .i64 0, .int .i64 0, .int .i64 0, .int .u16 0, .bool false, .slice none 0 0, .string ⟨#[]⟩, .int .u8 0, .int .u8 0, .int .i64 0, .int .i64 0, .int .i64 0, .int .u16 0, .bool false, .slice none 0 0, .string ⟨#[]⟩, .int .u8 0, .int .u8 0, .int .i64 0, .int .i64 0, .int .i64 0, .int .u16 0, .bool false, .slice none 0 0, .string ⟨#[]⟩, .int .u8 0, .int .u8 0, .int .i64 0, .int .i64 0, .int .i64 0, .int .u16 0, .bool false, .slice none 0 0, .string ⟨#[]⟩, .int .u8 0, .int .u8 0, .int .i64 0, .int .i64 0, .int .i64 0, .int .u16 0, .bool false, .slice none 0 0, .string ⟨#[]⟩, .int .u8 0, .int .u8 0, .int .i64 0, .int .i64 0, .int .i64 0, .int .u16 0, .bool false, .slice none 0 0, .string ⟨#[]⟩, .int .u8 0, .int .u8 0, .int .i64 0, .int .i64 0, .int .i64 0, .int .u16 0, .bool false, .slice none 0 0, .string ⟨#[]⟩, .int .u8 0, .int .u8 0, .int .i64 0, .int .i64 0, .int .i64 0, .int .u16 0, .bool false, .slice none 0 0, .string ⟨#[]⟩, .int .u8 0, .int .u8 0, .int .i64 0, .int .i64 0, .int .i64 0, .int .u16 0, .bool false, .slice none 0 0, .string ⟨#[]⟩, .int .u8 0, .int .u8 0, .int .i64 0, .int .i64 0, .int .i64 0, .int .u16 0, .bool false, .slice none 0 0, .string ⟨#[]⟩, .int .u8 0, .int .u8 0, .int .i64 0, .int .i64 0, .int .i64 0, .int .u16 0, .bool false, .slice none 0 0, .string ⟨#[]⟩, .int .u8 0, .int .u8 0, .int .i64 0, .int .i64 0, .int .i64 0, .int .u16 0, .bool false, .slice none 0 0, .string ⟨#[]⟩, .int .u8 0, .int .u8 0, .int .i64 0, .int .i64 0, .int .i64 0, .int .u16 0, .bool false, .slice none 0 0, .string ⟨#[]⟩, .int .u8 0, .int .u8 0, .int .i64 0, .int .i64 0, .int .i64 0, .int .u16 0, .bool false, .slice none 0 0, .string ⟨#[]⟩, .int .u8 0, .int .u8 0, .int .i64 0, .int .i64 0, .int .i64 0, .int .u16 0, .bool false, .slice none 0 0, .string ⟨#[]⟩, .int .u8 0, .int .u8 0, .int .i64 0, .int .i64 0, .int .i64 0, .int .u16 0, .bool false, .slice none 0 0, .string ⟨#[]⟩, .int .u8 0, .int .u8 0, .int .i64 0, .int .i64 0, .int .i64 0, .int .u16 0, .bool false, .slice none 0 0, .string ⟨#[]⟩, .int .u8 0, .int .u8 0, .int .i64 0, .int .i64 0, .int .i64 0, .int .u16 0, .bool false, .slice none 0 0, .string ⟨#[]⟩, .int .u8 0, .int .u8 0, .int .i64 0, .int .i64 0, .int .i64 0, .int .u16 0, .bool false, .slice none 0 0, .string ⟨#[]⟩, .int .u8 0, .int .u8 0, .int .i64 0, .int .i64 0, .int .i64 0, .int .u16 0, .bool false, .slice none 0 0, .string ⟨#[]⟩, .int .u8 0, .int .u8 0, .int .i64 0, .int .i64 0, .int .i64 0, .int .u16 0, .bool false, .slice none 0 0, .string ⟨#[]⟩, .int .u8 0, .int .u8 0, .int .i64 0, .int .i64 0, .int .i64 0, .int .u16 0, .bool false, .slice none 0 0, .string ⟨#[]⟩, .int .u8 0, .int .u8 0, .int .i64 0, .int .i64 0, .int .i64 0, .int .u16 0, .bool false, .slice none 0 0, .string ⟨#[]⟩, .int .u8 0, .int .u8 0, .int .i64 0, .int .i64 0, .int .i64 0, .int .u16 0, .bool false, .slice none 0 0, .string ⟨#[]⟩, .int .u8 0, .int .u8 0, .int .i64 0, .int .i64 0, .int .i64 0, .int .u16 0, .bool false, .slice none 0 0, .string ⟨#[]⟩, .int .u8 0, .int .u8 0, .int .i64 0, .int .i64 0, .int .i64 0, .int .u16 0, .bool false, .slice none 0 0, .string ⟨#[]⟩, .int .u8 0, .int .u8 0, .int .i64 0, .int .i64 0, .int .i64 0, .int .u16 0, .bool false, .slice none 0 0, .string ⟨#[]⟩, .string ⟨#[]⟩, .string ⟨#[]⟩, .string ⟨#[]⟩, .string ⟨#[]⟩, .string ⟨#[]⟩, .string ⟨#[]⟩, .string ⟨#[]⟩, .string ⟨#[]⟩, .int .u8 0, .string ⟨#[]⟩, .int .i64 0, .int .i64 0, .int .u8 0, .string ⟨#[]⟩, .int .i64 0, .int .i64 0, .int .u8 0, .string ⟨#[]⟩, .int .i64 0, .int .i64 0, .int .u8 0, .string ⟨#[]⟩, .int .i64 0, .int .i64 0, .int .u8 0, .string ⟨#[]⟩, .int .i64 0, .int .i64 0]⟩,
  some ⟨.slice 22, 1, 24, [.slice none 0 0]⟩,
  none,
  some ⟨.slice 59, 1, 24, [.slice none 0 0]⟩,
  some ⟨.slice 64, 1, 24, [.slice none 0 0]⟩,
  none,
  some ⟨.struct [(0, 70), (1, 71), (2, 4)], 3, 56, [.slice none 0 0, .slice none 0 0, .bool false]⟩,
  none,
  some ⟨.pointer 137, 1, 8, [.pointer none]⟩,
  none,
  none,
  none,
  none,
  none,
  none,
  none,
  none,
  none,
  none,
  none,
  none,
  none,
  none,
  none,
  none,
  some ⟨.slice 34, 1, 24, [.slice none 0 0]⟩,
  none,
  none,
  none,
  none,
  none,
  none,
  none,
  none,
  none,
  none,
  none,
  none,
  none,
  none,
  none,
  some ⟨.struct [(0, 3), (1, 53), (2, 56), (3, 3), (4, 3)], 5, 32, [.int .i64 0, .int .u8 0, .int .u16 0, .int .i64 0, .int .i64 0]⟩,
  none,
  some ⟨.int .u8, 1, 1, [.int .u8 0]⟩,
  none,
  none,
  none,
  none,
  none,
  none,
  none,
  none,
  none,
  none,
  some ⟨.func, 1, 8, [.nilFunc]⟩,
  none,
  none,
  none,
  some ⟨.int .u8, 1, 1, [.int .u8 0]⟩,
  some ⟨.int .u8, 1, 1, [.int .u8 0]⟩,
  none,
  some ⟨.struct [(0, 125), (1, 46), (2, 126), (3, 3), (4, 53), (5, 110), (6, 62), (7, 9)], 8, 40, [.int .u8 0, .int .u8 0, .int .u8 0, .int .i64 0, .int .u8 0, .int .u8 0, .int .u8 0, .string ⟨#[]⟩]⟩,
  none,
  none,
  none,
  none,
  none,
  none,
  none,
  none,
  some ⟨.struct [(0, 4), (1, 4), (2, 70), (3, 61), (12, 65)], 32, 376, [.bool false, .bool false, .slice none 0 0, .string ⟨#[]⟩, .string ⟨#[]⟩, .string ⟨#[]⟩, .string ⟨#[]⟩, .string ⟨#[]⟩, .string ⟨#[]⟩, .string ⟨#[]⟩, .string ⟨#[]⟩, .string ⟨#[]⟩, .int .u8 0, .string ⟨#[]⟩, .int .i64 0, .int .i64 0, .int .u8 0, .string ⟨#[]⟩, .int .i64 0, .int .i64 0, .int .u8 0, .string ⟨#[]⟩, .int .i64 0, .int .i64 0, .int .u8 0, .string ⟨#[]⟩, .int .i64 0, .int .i64 0, .int .u8 0, .string ⟨#[]⟩, .int .i64 0, .int .i64 0]⟩,
  none,
  none,
  none,
  some ⟨.slice 182, 1, 24, [.slice none 0 0]⟩,
  none,
  none,
  none,
  some ⟨.func, 1, 8, [.nilFunc]⟩,
  none,
  none,
  none,
  none,
  none,
  some ⟨.struct [(0, 22), (1, 23), (2, 70), (3, 34)], 4, 80, [.pointer none, .slice none 0 0, .slice none 0 0, .slice none 0 0]⟩,
  none,
  none,
  none,
  none,
  none,
  none,
  none,
  none,
  none,
  none,
  none,
  none,
  none,
  none,
  none,
  none,
  none,
  none,
  none,
  none,
  none,
  none,
  none,
  none,
  none,
  none,
  none,
  none,
  none,
  none,
  some ⟨.struct [(0, 3), (1, 3), (2, 128)], 10, 56, [.int .i64 0, .int .i64 0, .int .u8 0, .int .u8 0, .int .u8 0, .int .i64 0, .int .u8 0, .int .u8 0, .int .u8 0, .string ⟨#[]⟩]⟩,
  none,
  none,
  none,
  none,
  none,
  none,
  none,
  none,
  none,
  none,
  none,
  none,
  none,
  none,
  none,
  none,
  none,
  some ⟨.int .u64, 1, 8, [.int .u64 0]⟩,
  none,
  none,
  none,
  none,
  none,
  none,
  none,
  none,
  none,
  none,
  none,
  none,
  none,
  none,
  some ⟨.array 256 4, 256, 256, [.bool false, .bool false, .bool false, .bool false, .bool false, .bool false, .bool false, .bool false, .bool false, .bool false, .bool false, .bool false, .bool false, .bool false, .bool false, .bool false, .bool false, .bool false, .bool false, .bool false, .bool false, .bool false, .bool false, .bool false, .bool false, .bool false, .bool false, .bool false, .bool false, .bool false, .bool false, .bool false, .bool false, .bool false, .bool false, .bool false, .bool false, .bool false, .bool false, .bool false, .bool false, .bool false, .bool false, .bool false, .bool false, .bool false, .bool false, .bool false, .bool false, .bool false, .bool false, .bool false, .bool false, .bool false, .bool false, .bool false, .bool false, .bool false, .bool false, .bool false, .bool false, .bool false, .bool false, .bool false, .bool false, .bool false, .bool false, .bool false, .bool false, .bool false, .bool false, .bool false, .bool false, .bool false, .bool false, .bool false, .bool false, .bool false, .bool false, .bool false, .bool false, .bool false, .bool false, .bool false, .bool false, .bool false, .bool false, .bool false, .bool false, .bool false, .bool false, .bool false, .bool false, .bool false, .bool false, .bool false, .bool false, .bool false, .bool false, .bool false, .bool false, .bool false, .bool false, .bool false, .bool false, .bool false, .bool false, .bool false, .bool false, .bool false, .bool false, .bool false, .bool false, .bool false, .bool false, .bool false, .bool false, .bool false, .bool false, .bool false, .bool false, .bool false, .bool false, .bool false, .bool false, .bool false, .bool false, .bool false, .bool false, .bool false, .bool false, .bool false, .bool false, .bool false, .bool false, .bool false, .bool false, .bool false, .bool false, .bool false, .bool false, .bool false, .bool false, .bool false, .bool false, .bool false, .bool false, .bool false, .bool false, .bool false, .bool false, .bool false, .bool false, .bool false, .bool false, .bool false, .bool false, .bool false, .bool false, .bool false, .bool false, .bool false, .bool false, .bool false, .bool false, .bool false, .bool false, .bool false, .bool false, .bool false, .bool false, .bool false, .bool false, .bool false, .bool false, .bool false, .bool false, .bool false, .bool false, .bool false, .bool false, .bool false, .bool false, .bool false, .bool false, .bool false, .bool false, .bool false, .bool false, .bool false, .bool false, .bool false, .bool false, .bool false, .bool false, .bool false, .bool false, .bool false, .bool false, .bool false, .bool false, .bool false, .bool false, .bool false, .bool false, .bool false, .bool false, .bool false, .bool false, .bool false, .bool false, .bool false, .bool false, .bool false, .bool false, .bool false, .bool false, .bool false, .bool false, .bool false, .bool false, .bool false, .bool false, .bool false, .bool false, .bool false, .bool false, .bool false, .bool false, .bool false, .bool false, .bool false, .bool false, .bool false, .bool false, .bool false, .bool false, .bool false, .bool false, .bool false, .bool false, .bool false, .bool false, .bool false, .bool false, .bool false, .bool false, .bool false, .bool false, .bool false, .bool false, .bool false, .bool false, .bool false, .bool false, .bool false]⟩,
  none,
  none,
  none,
  some ⟨.pointer 215, 1, 8, [.pointer none]⟩,
  none,
  some ⟨.int .i64, 1, 8, [.int .i64 0]⟩,
  none,
  none,
  none,
  none,
  none,
  none,
  none,
  some ⟨.int .u32, 1, 4, [.int .u32 0]⟩,
  none,
  some ⟨.int .u64, 1, 8, [.int .u64 0]⟩,
  none,
  none,
  none,
  none,
  none,
  some ⟨.int .u64, 1, 8, [.int .u64 0]⟩,
  none,
  none,
  none,
  some ⟨.pointer 3, 1, 8, [.pointer none]⟩,
  none,
  none,
  some ⟨.pointer 237, 1, 8, [.pointer none]⟩,
  none,
  some ⟨.array 256 5, 256, 256, [.int .u8 0, .int .u8 0, .int .u8 0, .int .u8 0, .int .u8 0, .int .u8 0, .int .u8 0, .int .u8 0, .int .u8 0, .int .u8 0, .int .u8 0, .int .u8 0, .int .u8 0, .int .u8 0, .int .u8 0, .int .u8 0, .int .u8 0, .int .u8 0, .int .u8 0, .int .u8 0, .int .u8 0, .int .u8 0, .int .u8 0, .int .u8 0, .int .u8 0, .int .u8 0, .int .u8 0, .int .u8 0, .int .u8 0, .int .u8 0, .int .u8 0, .int .u8 0, .int .u8 0, .int .u8 0, .int .u8 0, .int .u8 0, .int .u8 0, .int .u8 0, .int .u8 0, .int .u8 0, .int .u8 0, .int .u8 0, .int .u8 0, .int .u8 0, .int .u8 0, .int .u8 0, .int .u8 0, .int .u8 0, .int .u8 0, .int .u8 0, .int .u8 0, .int .u8 0, .int .u8 0, .int .u8 0, .int .u8 0, .int .u8 0, .int .u8 0, .int .u8 0, .int .u8 0, .int .u8 0, .int .u8 0, .int .u8 0, .int .u8 0, .int .u8 0, .int .u8 0, .int .u8 0, .int .u8 0, .int .u8 0, .int .u8 0, .int .u8 0, .int .u8 0, .int .u8 0, .int .u8 0, .int .u8 0, .int .u8 0, .int .u8 0, .int .u8 0, .int .u8 0, .int .u8 0, .int .u8 0, .int .u8 0, .int .u8 0, .int .u8 0, .int .u8 0, .int .u8 0, .int .u8 0, .int .u8 0, .int .u8 0, .int .u8 0, .int .u8 0, .int .u8 0, .int .u8 0, .int .u8 0, .int .u8 0, .int .u8 0, .int .u8 0, .int .u8 0, .int .u8 0, .int .u8 0, .int .u8 0, .int .u8 0, .int .u8 0, .int .u8 0, .int .u8 0, .int .u8 0, .int .u8 0, .int .u8 0, .int .u8 0, .int .u8 0, .int .u8 0, .int .u8 0, .int .u8 0, .int .u8 0, .int .u8 0, .int .u8 0, .int .u8 0, .int .u8 0, .int .u8 0, .int .u8 0, .int .u8 0, .int .u8 0, .int .u8 0, .int .u8 0, .int .u8 0, .int .u8 0, .int .u8 0, .int .u8 0, .int .u8 0, .int .u8 0, .int .u8 0, .int .u8 0, .int .u8 0, .int .u8 0, .int .u8 0, .int .u8 0, .int .u8 0, .int .u8 0, .int .u8 0, .int .u8 0, .int .u8 0, .int .u8 0, .int .u8 0, .int .u8 0, .int .u8 0, .int .u8 0, .int .u8 0, .int .u8 0, .int .u8 0, .int .u8 0, .int .u8 0, .int .u8 0, .int .u8 0, .int .u8 0, .int .u8 0, .int .u8 0, .int .u8 0, .int .u8 0, .int .u8 0, .int .u8 0, .int .u8 0, .int .u8 0, .int .u8 0, .int .u8 0, .int .u8 0, .int .u8 0, .int .u8 0, .int .u8 0, .int .u8 0, .int .u8 0, .int .u8 0, .int .u8 0, .int .u8 0, .int .u8 0, .int .u8 0, .int .u8 0, .int .u8 0, .int .u8 0, .int .u8 0, .int .u8 0, .int .u8 0, .int .u8 0, .int .u8 0, .int .u8 0, .int .u8 0, .int .u8 0, .int .u8 0, .int .u8 0, .int .u8 0, .int .u8 0, .int .u8 0, .int .u8 0, .int .u8 0, .int .u8 0, .int .u8 0, .int .u8 0, .int .u8 0, .int .u8 0, .int .u8 0, .int .u8 0, .int .u8 0, .int .u8 0, .int .u8 0, .int .u8 0, .int .u8 0, .int .u8 0, .int .u8 0, .int .u8 0, .int .u8 0, .int .u8 0, .int .u8 0, .int .u8 0, .int .u8 0, .int .u8 0, .int .u8 0, .int .u8 0, .int .u8 0, .int .u8 0, .int .u8 0, .int .u8 0, .int .u8 0, .int .u8 0, .int .u8 0, .int .u8 0, .int .u8 0, .int .u8 0, .int .u8 0, .int .u8 0, .int .u8 0, .int .u8 0, .int .u8 0, .int .u8 0, .int .u8 0, .int .u8 0, .int .u8 0, .int .u8 0, .int .u8 0, .int .u8 0, .int .u8 0, .int .u8 0, .int .u8 0, .int .u8 0, .int .u8 0, .int .u8 0, .int .u8 0, .int .u8 0, .int .u8 0, .int .u8 0, .int .u8 0, .int .u8 0, .int .u8 0, .int .u8 0, .int .u8 0, .int .u8 0, .int .u8 0, .int .u8 0, .int .u8 0]⟩,
  none,
  some ⟨.struct [(0, 5), (1, 5)], 2, 2, [.int .u8 0, .int .u8 0]⟩,
  some ⟨.array 16 248, 32, 32, [.int .u8 0, .int .u8 0, .int .u8 0, .int .u8 0, .int .u8 0, .int .u8 0, .int .u8 0, .int .u8 0, .int .u8 0, .int .u8 0, .int .u8 0, .int .u8 0, .int .u8 0, .int .u8 0, .int .u8 0, .int .u8 0, .int .u8 0, .int .u8 0, .int .u8 0, .int .u8 0, .int .u8 0, .int .u8 0, .int .u8 0, .int .u8 0, .int .u8 0, .int .u8 0, .int .u8 0, .int .u8 0, .int .u8 0, .int .u8 0, .int .u8 0, .int .u8 0]⟩]
def Tryz.fns : List FuncId := [3, 4, 5, 6, 7, 8, 9, 10, 11, 12, 13, 14, 15, 16, 17, 18, 19, 20, 21, 22, 23, 24, 25, 26, 27, 28, 29, 30, 31, 32, 33, 34, 35, 36, 37, 38, 39, 40, 41, 42, 43, 44, 45, 46, 47, 48, 49, 50, 51, 52, 53, 54, 55, 56, 57, 58, 59, 60, 61, 62, 63, 64, 65, 66, 67, 68, 69, 70, 71, 72, 73, 74, 75, 76, 77, 78, 79, 80, 81, 82, 83, 84, 85, 86, 87, 88, 89, 90, 91, 92, 93, 94, 95, 96, 97, 98, 99, 100, 101, 102, 103, 104, 105, 106, 107, 108, 109, 110, 111, 112, 113, 114, 115, 116, 117, 118, 119, 120, 121, 122, 123, 124, 125, 126, 127, 128, 129, 130, 131, 132, 133, 134, 135, 136, 137, 138, 139, 140, 141, 142, 143, 144, 145, 146, 147, 148, 149, 150, 151, 152, 153, 154, 155, 156, 157, 158, 159, 160, 161, 162, 163, 164, 165, 166, 167, 168, 169, 170, 171, 172, 173, 174, 175, 176, 177, 178, 179, 180, 181, 182, 183, 184, 185, 186, 187, 188, 189, 190, 191, 192, 193, 194, 195, 196, 197]
def Tryz.hint : FuncId → Hint := fun f => match f with
  | 3 => (.seq .leaf (.seq .leaf (.seq .leaf (.seq .leaf (.seq .leaf (.seq .leaf (.seq (.seq .leaf (.sub none (.loop [0, 2, 3, 4, 6, 7, 8] .leaf))) .leaf)))))))
  | 4 => (.seq .leaf (.seq .leaf (.seq (.seq .leaf (.sub none (.loop [0, 1, 5, 6, 7, 8] .leaf))) .leaf)))
  | 6 => (.seq .leaf (.seq .leaf (.seq .leaf (.seq .leaf (.seq .leaf (.seq .leaf (.seq .leaf (.seq .leaf (.seq .leaf (.seq .leaf (.seq (.seq .leaf (.sub none (.loop [1, 2, 6, 7, 10, 12, 13, 15, 16] (.seq .leaf (.seq (.sub none (.seq .leaf (.seq (.seq .leaf (.sub none (.loop [1, 2, 6, 7, 10, 12, 13, 15, 16, 17, 18, 19] .leaf))) (.seq .leaf (.sub none (.loop [1, 2, 6, 7, 10, 12, 13, 15, 16, 17, 18, 20] (.seq .leaf (.seq (.sub none (.seq .leaf (.seq (.seq .leaf (.sub none (.loop [1, 2, 7, 10, 12, 13, 15, 16, 17, 18, 20, 21, 22] .leaf))) .leaf))) .leaf)))))))) .leaf))))) .leaf)))))))))))
  | 7 => (.seq .leaf (.seq .leaf (.seq .leaf (.seq (.seq .leaf (.sub none (.loop [0, 1, 2, 3, 4, 5, 6] .leaf))) .leaf))))
  | 11 => (.seq .leaf (.seq .leaf (.seq .leaf (.seq .leaf (.seq (.seq .leaf (.sub none (.loop [0, 1, 2, 3, 11, 12, 30, 31] (.seq .leaf (.seq .leaf (.seq (.sub none (.seq .leaf (.seq .leaf (.seq .leaf (.sub none (.loop [0, 1, 2, 3, 11, 12, 13, 30, 31, 42, 43, 44] .leaf)))))) .leaf)))))) .leaf)))))
  | 14 => (.seq .leaf (.seq .leaf (.seq (.seq .leaf (.sub none (.loop [0, 1, 4, 5] .leaf))) .leaf)))
  | 16 => (.seq .leaf (.seq .leaf (.seq (.seq .leaf (.sub none (.loop [1, 2, 3, 4, 5, 6, 7] .leaf))) (.seq (.seq .leaf (.sub none (.loop [1, 2, 3, 4, 5, 6, 8] .leaf))) .leaf))))
  | 21 => (.seq .leaf (.sub none (.loop [0, 2] .leaf)))
  | 22 => (.seq .leaf (.sub none (.loop [0, 2] .leaf)))
  | 25 => (.seq .leaf (.seq .leaf (.seq .leaf (.seq .leaf (.seq (.seq .leaf (.sub none (.loop [0, 1, 2, 3, 11, 12] (.seq .leaf (.seq (.sub none (.seq .leaf (.seq .leaf (.seq .leaf (.sub none (.loop [0, 1, 2, 3, 11, 12, 13, 14, 15] .leaf)))))) .leaf))))) .leaf)))))
  | 27 => (.seq .leaf (.seq .leaf (.seq .leaf (.seq (.seq .leaf (.sub none (.loop [5, 12, 13, 15] .leaf))) .leaf))))
  | 28 => (.seq .leaf (.seq .leaf (.seq (.seq .leaf (.sub none (.loop [0, 1, 4, 5] .leaf))) .leaf)))
  | 29 => (.seq .leaf (.seq .leaf (.seq (.seq .leaf (.sub none (.loop [0, 1, 4, 5] .leaf))) .leaf)))
  | 30 => (.seq .leaf (.seq .leaf (.seq (.seq .leaf (.sub none (.loop [0, 3, 4] .leaf))) (.seq (.seq .leaf (.sub none (.loop [3, 5] (.seq .leaf (.seq (.sub none (.seq .leaf (.sub none (.loop [3, 5, 6] .leaf)))) .leaf))))) (.seq (.seq .leaf (.sub none (.loop [2, 3, 7] (.seq .leaf (.seq (.sub none (.seq .leaf (.sub none (.loop [2, 3, 7, 8] .leaf)))) .leaf))))) .leaf)))))
  | 34 => (.seq .leaf (.seq .leaf (.seq .leaf (.seq .leaf (.seq (.sub none (.loop [0, 3, 7] .leaf)) .leaf)))))
  | 35 => (.seq .leaf (.seq .leaf (.seq (.seq .leaf (.sub none (.loop [0, 2, 21, 22, 23] (.seq .leaf (.seq .leaf (.seq (.sub none (.seq .leaf (.seq .leaf (.sub none (.loop [0, 2, 21, 22, 23, 28, 29, 30] .leaf))))) .leaf)))))) .leaf)))
  | 38 => (.seq .leaf (.seq .leaf (.seq .leaf (.seq (.seq .leaf (.sub none (.loop [0, 1, 3, 10, 27, 28, 29] .leaf))) .leaf))))
  | 40 => (.seq .leaf (.seq .leaf (.seq (.seq .leaf (.sub none (.loop [0, 1, 3, 9, 12, 13, 14] .leaf))) .leaf)))
  | 47 => (.seq .leaf (.seq .leaf (.seq .leaf (.seq .leaf (.seq .leaf (.seq .leaf (.seq .leaf (.seq .leaf (.seq .leaf (.seq (.seq .leaf (.sub none (.loop [0, 3, 6, 7, 8] .leaf))) .leaf))))))))))
  | 48 => (.seq .leaf (.seq .leaf (.seq .leaf (.seq (.seq .leaf (.sub none (.loop [0, 3, 4, 52, 53] .leaf))) .leaf))))
  | 49 => (.seq .leaf (.seq .leaf (.seq .leaf (.seq .leaf (.seq .leaf (.seq (.seq .leaf (.sub none (.loop [0, 3, 4, 5] .leaf))) .leaf))))))
  | 50 => (.seq .leaf (.seq .leaf (.seq .leaf (.seq (.seq .leaf (.sub none (.loop [0, 2, 3] (.seq .leaf (.seq (.sub none (.seq .leaf (.sub none (.loop [0, 2, 3, 4] .leaf)))) .leaf))))) .leaf))))
  | 53 => (.seq .leaf (.seq .leaf (.seq (.seq .leaf (.sub none (.loop [0, 1, 4, 5] .leaf))) .leaf)))
  | 55 => (.seq .leaf (.seq .leaf (.seq (.seq .leaf (.sub none (.loop [0, 1, 4, 5] .leaf))) .leaf)))
  | 58 => (.seq .leaf (.seq .leaf (.seq .leaf (.seq .leaf (.seq .leaf (.seq (.seq .leaf (.sub none (.loop [0, 1, 2, 9, 11, 12] .leaf))) .leaf))))))
  | 60 => (.seq .leaf (.seq .leaf (.seq (.seq .leaf (.sub none (.loop [0, 1, 2, 3, 9, 10] .leaf))) .leaf)))
  | 65 => (.seq .leaf (.seq .leaf (.seq .leaf (.seq .leaf (.seq .leaf (.seq (.seq .leaf (.sub none (.loop [8, 10, 32, 33] .leaf))) .leaf))))))
  | 67 => (.seq .leaf (.seq .leaf (.seq (.seq .leaf (.sub none (.loop [1, 2, 13, 14, 15] .leaf))) .leaf)))
  | 68 => (.seq .leaf (.seq (.seq .leaf (.sub none (.loop [0, 1, 4, 9, 10] .leaf))) .leaf))
  | 72 => (.seq .leaf (.seq (.seq .leaf (.sub none (.loop [0, 1, 4, 7, 8] .leaf))) .leaf))
  | 78 => (.seq .leaf (.seq .leaf (.seq .leaf (.seq (.seq .leaf (.sub none (.loop [1, 2, 4] .leaf))) .leaf))))
  | 79 => (.seq .leaf (.seq (.seq .leaf (.sub none (.loop [0, 1, 4, 5] .leaf))) .leaf))
  | 83 => (.seq .leaf (.seq .leaf (.seq (.seq .leaf (.sub none (.loop [2, 19] .leaf))) .leaf)))
  | 84 => (.seq .leaf (.seq .leaf (.seq (.seq .leaf (.sub none (.loop [0, 2, 3] .leaf))) .leaf)))
  | 93 => (.seq .leaf (.seq .leaf (.seq .leaf (.seq (.seq .leaf (.sub none (.loop [0, 2, 4, 6, 7, 8, 49, 50, 51] .leaf))) (.seq .leaf (.seq (.seq .leaf (.sub none (.loop [4, 6, 7, 8, 15] .leaf))) .leaf))))))
  | 94 => (.seq .leaf (.seq (.seq .leaf (.sub none (.loop [1, 2, 4, 9, 10, 11] (.seq .leaf (.seq .leaf (.seq (.sub none (.seq .leaf (.seq .leaf (.seq .leaf (.sub none (.loop [1, 2, 4, 6, 9, 10, 11, 35, 36, 37] .leaf)))))) .leaf)))))) .leaf))
  | 95 => (.seq .leaf (.sub none (.seq .leaf (.seq .leaf (.seq (.seq .leaf (.sub none (.loop [1, 2, 3, 7, 8, 13, 14, 15] (.seq .leaf (.seq .leaf (.seq (.sub none (.seq .leaf (.seq .leaf (.seq (.seq .leaf (.sub none (.loop [1, 2, 3, 7, 8, 9, 10, 13, 14, 15, 32, 33, 34] .leaf))) .leaf)))) .leaf)))))) .leaf)))))
  | 98 => (.seq .leaf (.seq .leaf (.seq (.seq .leaf (.sub none (.loop [0, 2, 3] .leaf))) .leaf)))
  | 103 => (.seq .leaf (.seq .leaf (.seq .leaf (.seq (.seq .leaf (.sub none (.loop [0, 1, 2, 3, 9, 10, 11] (.seq .leaf (.seq (.sub none (.seq .leaf (.seq .leaf (.seq .leaf (.sub none (.loop [0, 1, 2, 3, 9, 10, 11, 12, 14] .leaf)))))) .leaf))))) .leaf))))
  | 106 => (.seq .leaf (.seq .leaf (.seq .leaf (.seq (.seq .leaf (.sub none (.loop [0, 1, 4, 5, 9, 33, 34, 35] .leaf))) (.seq .leaf (.seq (.seq .leaf (.sub none (.loop [4, 5, 9, 70, 71, 72] .leaf))) .leaf))))))
  | 108 => (.seq .leaf (.seq .leaf (.seq .leaf (.seq .leaf (.seq .leaf (.seq .leaf (.seq (.sub none (.loop [11, 13, 15, 16] .leaf)) .leaf)))))))
  | 109 => (.seq .leaf (.seq .leaf (.seq (.seq .leaf (.sub none (.loop [0, 2, 7, 13, 14, 15] .leaf))) .leaf)))
  | 137 => (.seq .leaf (.seq .leaf (.seq (.seq .leaf (.sub none (.loop [0, 2, 3] .leaf))) .leaf)))
  | 138 => (.seq .leaf (.seq .leaf (.seq .leaf (.seq (.seq .leaf (.sub none (.loop [0, 1, 2, 6, 7, 8] (.seq .leaf (.seq (.sub none (.seq .leaf (.seq .leaf (.seq .leaf (.seq .leaf (.seq .leaf (.seq .leaf (.seq .leaf (.sub none (.loop [0, 1, 2, 6, 7, 8, 9, 12] .leaf)))))))))) .leaf))))) .leaf))))
  | 139 => (.seq .leaf (.seq .leaf (.seq .leaf (.sub none (.loop [0, 2, 3, 4] (.sub none (.seq .leaf (.seq (.seq .leaf (.sub none (.loop [0, 3, 4, 5, 6] .leaf))) .leaf))))))))
  | 143 => (.seq .leaf (.seq .leaf (.seq .leaf (.seq (.seq .leaf (.sub none (.loop [0, 3, 4] .leaf))) .leaf))))
  | 144 => (.seq .leaf (.seq .leaf (.seq .leaf (.seq (.seq .leaf (.sub none (.loop [0, 3, 4] .leaf))) .leaf))))
  | 147 => (.seq .leaf (.seq .leaf (.seq (.seq .leaf (.sub none (.loop [1, 5, 7, 16, 17, 18] .leaf))) .leaf)))
  | 150 => (.seq .leaf (.seq .leaf (.seq (.seq .leaf (.sub none (.loop [0, 4, 5, 6, 7, 25, 26] .leaf))) (.seq (.seq .leaf (.sub none (.loop [0, 4, 6, 37, 38] .leaf))) .leaf))))
  | 155 => (.seq .leaf (.seq .leaf (.sub none (.loop [0, 1, 2, 3, 4, 10, 11] .leaf))))
  | 158 => (.seq .leaf (.seq .leaf (.seq (.seq .leaf (.sub none (.loop [0, 1, 4, 12, 13] .leaf))) .leaf)))
  | 159 => (.seq .leaf (.seq .leaf (.seq (.seq .leaf (.sub none (.loop [1, 3, 5, 7, 11, 12, 13] .leaf))) .leaf)))
  | 161 => (.seq .leaf (.seq .leaf (.seq (.seq .leaf (.sub none (.loop [1, 2, 3, 7, 13, 14, 15] (.seq .leaf (.seq .leaf (.seq (.sub none (.seq .leaf (.seq .leaf (.seq .leaf (.sub none (.loop [1, 2, 3, 7, 9, 13, 14, 15, 30, 31, 32] .leaf)))))) .leaf)))))) .leaf)))
  | 165 => (.seq .leaf (.seq (.sub none (.loop [0, 1] .leaf)) .leaf))
  | 166 => (.seq .leaf (.seq (.sub none (.loop [0, 1] .leaf)) .leaf))
  | 167 => (.seq .leaf (.seq (.seq .leaf (.sub none (.loop [0, 2, 3, 4] .leaf))) .leaf))
  | 168 => (.seq .leaf (.seq (.sub none (.loop [0, 1] .leaf)) .leaf))
  | 169 => (.seq .leaf (.seq (.sub none (.loop [0, 1] .leaf)) .leaf))
  | 170 => (.seq .leaf (.seq (.sub none (.loop [0, 1] .leaf)) .leaf))
  | 171 => (.seq .leaf (.seq (.sub none (.loop [0, 1] .leaf)) .leaf))
  | 172 => (.seq .leaf (.sub none (.loop [0, 1, 2, 3, 8] (.seq .leaf (.seq (.sub none (.seq .leaf (.sub none (.loop [0, 1, 2, 3, 8, 9] .leaf)))) .leaf)))))
  | 173 => (.seq .leaf (.seq .leaf (.seq .leaf (.seq (.seq .leaf (.sub none (.loop [0, 3, 8, 9, 10, 11] .leaf))) (.seq .leaf (.sub none (.loop [0, 3, 8, 9, 12] .leaf)))))))
  | 174 => (.seq .leaf (.seq .leaf (.cond none (.seq .leaf (.seq .leaf (.seq .leaf (.sub none (.loop [0, 1, 8, 9, 10, 11] .leaf))))) .leaf)))
  | 176 => (.seq .leaf (.seq .leaf (.sub none (.loop [0, 8, 9] .leaf))))
  | 177 => (.seq .leaf (.seq .leaf (.seq (.seq .leaf (.sub none (.loop [0, 1, 2, 3, 8, 9, 10] (.seq .leaf (.seq (.sub none (.seq (.sub none (.loop [0, 1, 2, 3, 9, 10] .leaf)) (.seq .leaf (.seq .leaf (.seq .leaf (.seq (.seq .leaf (.cond none (.seq .leaf (.sub none (.loop [0, 1, 2, 3, 9, 10, 11] .leaf))) .leaf)) (.seq .leaf (.cond none (.seq .leaf (.sub none (.loop [0, 1, 2, 3, 9, 10, 12] .leaf))) .leaf)))))))) .leaf))))) .leaf)))
  | 178 => (.seq .leaf (.seq .leaf (.seq .leaf (.seq (.sub none (.loop [0, 1, 4, 11, 12] (.sub none (.seq (.sub none (.loop [0, 1, 4, 11, 12] .leaf)) (.seq (.sub none (.loop [0, 1, 4, 11, 12] .leaf)) .leaf))))) .leaf))))
  | 179 => (.seq .leaf (.seq .leaf (.seq .leaf (.seq (.sub none (.loop [0, 1, 4, 12, 13] .leaf)) (.seq (.sub none (.loop [0, 1, 4, 12, 13] .leaf)) (.seq .leaf (.seq .leaf (.seq .leaf (.seq .leaf (.seq (.sub none (.loop [0, 1, 4, 12, 13] (.sub none (.seq (.sub none (.loop [0, 1, 4, 12, 13] .leaf)) (.seq (.sub none (.loop [0, 1, 4, 12, 13] .leaf)) .leaf))))) .leaf))))))))))
  | 186 => (.seq .leaf (.seq .leaf (.seq .leaf (.seq .leaf (.seq .leaf (.seq .leaf (.seq .leaf (.seq (.seq .leaf (.sub none (.loop [0, 4, 5, 6] .leaf))) .leaf))))))))
  | 187 => (.seq .leaf (.sub none (.loop [0, 2, 3, 4, 10] .leaf)))
  | 193 => .leaf /- live Code.goto -/
  | _ => .leaf
noncomputable def Tryz.env : Env := { ty := tyOf Tryz.tab, fn := fnOf Tryz.prog Tryz.fns, hint := Tryz.hint, ext := fun _ => none }
theorem Tryz.envOk : Tryz.env.Ok Tryz.prog := env_ok (by kernel_rfl) (by kernel_rfl) (by kernel_rfl)
theorem Tryz.fnOk (k : Nat) : CallOk Tryz.prog (aFn Tryz.env k) := fn_ok Tryz.envOk extNone k
end Go.Proofs.YtngdmjajgeobhaaGreatDoor
