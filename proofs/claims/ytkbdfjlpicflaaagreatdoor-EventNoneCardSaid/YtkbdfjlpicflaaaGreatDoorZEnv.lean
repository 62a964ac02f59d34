/- Printed by gen.py (wip/zq): what the abstract evaluator is told of the seat's program: types, functions, where loops stand. -/
import Derived.Test.YtkbdfjlpicflaaaGreatDoorProg
import Derived.Test.YtkbdfjlpicflaaaGreatDoorZqCheck
import Derived.KernelRfl
namespace Go.Proofs.YtkbdfjlpicflaaaGreatDoor
open Go Zq
def Tryz.tab : List (Option TI) := [
  none,
  none,
  none,
  some ⟨.int .i64, 1, 8, [.int .i64 0]⟩,
  some ⟨.bool, 1, 1, [.bool false]⟩,
  some ⟨.int .u8, 1, 1, [.int .u8 0]⟩,
  none,
  none,
  none,
  some ⟨.string, 1, 16, [.string ⟨#[]⟩]⟩,
  none,
  none,
  none,
  none,
  none,
  none,
  none,
  none,
  none,
  none,
  none,
  some ⟨.int .i32, 1, 4, [.int .i32 0]⟩,
  some ⟨.pointer 61, 1, 8, [.pointer none]⟩,
  some ⟨.slice 85, 1, 24, [.slice none 0 0]⟩,
  some ⟨.slice 63, 1, 24, [.slice none 0 0]⟩,
  none,
  none,
  some ⟨.slice 40, 1, 24, [.slice none 0 0]⟩,
  some ⟨.int .i64, 1, 8, [.int .i64 0]⟩,
  none,
  none,
  some ⟨.int .u8, 1, 1, [.int .u8 0]⟩,
  some ⟨.int .u8, 1, 1, [.int .u8 0]⟩,
  some ⟨.int .u8, 1, 1, [.int .u8 0]⟩,
  some ⟨.int .u8, 1, 1, [.int .u8 0]⟩,
  some ⟨.int .u8, 1, 1, [.int .u8 0]⟩,
  some ⟨.int .u8, 1, 1, [.int .u8 0]⟩,
  none,
  some ⟨.struct [(0, 31), (1, 32), (2, 33), (3, 3), (4, 34), (5, 35), (6, 36), (7, 9)], 8, 40, [.int .u8 0, .int .u8 0, .int .u8 0, .int .i64 0, .int .u8 0, .int .u8 0, .int .u8 0, .string ⟨#[]⟩]⟩,
  none,
  some ⟨.struct [(0, 3), (1, 3), (2, 38)], 10, 56, [.int .i64 0, .int .i64 0, .int .u8 0, .int .u8 0, .int .u8 0, .int .i64 0, .int .u8 0, .int .u8 0, .int .u8 0, .string ⟨#[]⟩]⟩,
  none,
  none,
  some ⟨.struct [(0, 32), (1, 3), (2, 3), (3, 3), (4, 4), (5, 4)], 6, 40, [.int .u8 0, .int .i64 0, .int .i64 0, .int .i64 0, .bool false, .bool false]⟩,
  none,
  some ⟨.struct [(0, 43), (6, 27), (7, 3), (8, 3)], 9, 80, [.int .u8 0, .int .i64 0, .int .i64 0, .int .i64 0, .bool false, .bool false, .slice none 0 0, .int .i64 0, .int .i64 0]⟩,
  none,
  none,
  none,
  some ⟨.int .u8, 1, 1, [.int .u8 0]⟩,
  none,
  some ⟨.int .u16, 1, 2, [.int .u16 0]⟩,
  some ⟨.slice 38, 1, 24, [.slice none 0 0]⟩,
  none,
  some ⟨.struct [(0, 9), (1, 34), (2, 49), (3, 3), (4, 3), (5, 3), (6, 51), (7, 4), (8, 52)], 9, 80, [.string ⟨#[]⟩, .int .u8 0, .int .u8 0, .int .i64 0, .int .i64 0, .int .i64 0, .int .u16 0, .bool false, .slice none 0 0]⟩,
  some ⟨.array 64 54, 576, 5120, [.string ⟨#[]⟩, .int .u8 0, .int .u8 0, .int .i64 0, .int .i64 0, .int .i64 0, .int .u16 0, .bool false, .slice none 0 0, .string ⟨#[]⟩, .int .u8 0, .int .u8 0, .int .i64 0, .int .i64 0, .int .i64 0, .int .u16 0, .bool false, .slice none 0 0, .string ⟨#[]⟩, .int .u8 0, .int .u8 0, .int .i64 0, .int .i64 0, .int .i64 0, .int .u16 0, .bool false, .slice none 0 0, .string ⟨#[]⟩, .int .u8 0, .int .u8 0, .int .i64 0, .int .i64 0, .int .i64 0, .int .u16 0, .bool false, .slice none 0 0, .string ⟨#[]⟩, .int .u8 0, .int .u8 0, .int .i64 0, .int .i64 0, .int .i64 0, .int .u16 0, .bool false, .slice none 0 0, .string ⟨#[]⟩, .int .u8 0, .int .u8 0, .int .i64 0, .int .i64 0, .int .i64 0, .int .u16 0, .bool false, .slice none 0 0, .string ⟨#[]⟩, .int .u8 0, .int .u8 0, .int .i64 0, .int .i64 0, .int .i64 0, .int .u16 0, .bool false, .slice none 0 0, .string ⟨#[]⟩, .int .u8 0, .int .u8 0, .int .i64 0, .int .i64 0, .int .i64 0, .int .u16 0, .bool false, .slice none 0 0, .string ⟨#[]⟩, .int .u8 0, .int .u8 0, .int .i64 0, .int .i64 0, .int .i64 0, .int .u16 0, .bool false, .slice none 0 0, .string ⟨#[]⟩, .int .u8 0, .int .u8 0, .int .i64 0, .int .i64 0, .int .i64 0, .int .u16 0, .bool false, .slice none 0 0, .string ⟨#[]⟩, .int .u8 0, .int .u8 0, .int .i64 0, .int .i64 0, .int .i64 0, .int .u16 0, .bool false, .slice none 0 0, .string ⟨#[]⟩, .int .u8 0, .int .u8 0, .int .i64 0, .int .i64 0, .int .i64 0, .int .u16 0, .bool false, .slice none 0 0, .string ⟨#[]⟩, .int .u8 0, .int .u8 0, .int .i64 0, .int .i64 0, .int .i64 0, .int .u16 0, .bool false, .slice none 0 0, .string ⟨#[]⟩, .int .u8 0, .int .u8 0, .int .i64 0, .int .i64 0, .int .i64 0, .int .u16 0, .bool false, .slice none 0 0, .string ⟨#[]⟩, .int .u8 0, .int .u8 0, .int .i64 0, .int .i64 0, .int .i64 0, .int .u16 0, .bool false, .slice none 0 0, .string ⟨#[]⟩, .int .u8 0, .int .u8 0, .int .i64 0, .int .i64 0, .int .i64 0, .int .u16 0, .bool false, .slice none 0 0, .string ⟨#[]⟩, .int .u8 0, .int .u8 0, .int .i64 0, .int .i64 0, .int .i64 0, .int .u16 0, .bool false, .slice none 0 0, .string ⟨#[]⟩, .int .u8 0, .int .u8 0, .int .i64 0, .int .i64 0, .int .i64 0, .int .u16 0, .bool false, .slice none 0 0, .string ⟨#[]⟩, .int .u8 0, .int .u8 0, .int .i64 0, .int .i64 0, .int .i64 0, .int .u16 0, .bool false, .slice none 0 0, .string ⟨#[]⟩, .int .u8 0, .int .u8 0, .int .i64 0, .int .i64 0, .int .i64 0, .int .u16 0, .bool false, .slice none 0 0, .string ⟨#[]⟩, .int .u8 0, .int .u8 0, .int .i64 0, .int .i64 0, .int .i64 0, .int .u16 0, .bool false, .slice none 0 0, .string ⟨#[]⟩, .int .u8 0, .int .u8 0, .int .i64 0, .int .i64 0, .int .i64 0, .int .u16 0, .bool false, .slice none 0 0, .string ⟨#[]⟩, .int .u8 0, .int .u8 0, .int .i64 0, .int .i64 0, .int .i64 0, .int .u16 0, .bool false, .slice none 0 0, .string ⟨#[]⟩, .int .u8 0, .int .u8 0, .int .i64 0, .int .i64 0, .int .i64 0, .int .u16 0, .bool false, .slice none 0 0, .string ⟨#[]⟩, .int .u8 0, .int .u8 0, .int .i64 0, .int .i64 0, .int .i64 0, .int .u16 0, .bool false, .slice none 0 0, .string ⟨#[]⟩, .int .u8 0, .int .u8 0, .int .i64 0, .int .i64 0, .int .i64 0, .int .u16 0, .bool false, .slice none 0 0, .string ⟨#[]⟩, .int .u8 0, .int .u8 0, .int .i64 0, .int .i64 0, .int .i64 0, .int .u16 0, .bool false, .slice none 0 0, .string ⟨#[]⟩, .int .u8 0, .int .u8 0, .int .i64 0, .int .i64 0, .int .i64 0, .int .u16 0, .bool false, .slice none 0 0, .string ⟨#[]⟩, .int .u8 0, .int .u8 0, .int .i64 0, .int .i64 0, .int .i64 0, .int .u16 0, .bool false, .slice none 0 0, .string ⟨#[]⟩, .int .u8 0, .int .u8 0, .int .i64 0, .int .i64 0, .int .i64 0, .int .u16 0, .bool false, .slice none 0 0, .string ⟨#[]⟩, .int .u8 0, .int .u8 0, .int .i64 0, .int .i64 0, .int .i64 0, .int .u16 0, .bool false, .slice none 0 0, .string ⟨#[]⟩, .int .u8 0, .int .u8 0, .int .i64 0, .int .i64 0, .int .i64 0, .int .u16 0, .bool false, .slice none 0 0, .string ⟨#[]⟩, .int .u8 0, .int .u8 0, .int .i64 0, .int .i64 0, .int .i64 0, .int .u16 0, .bool false, .slice none 0 0, .string ⟨#[]⟩, .int .u8 0, .int .u8 0, .int .i64 0, .int .i64 0, .int .i64 0, .int .u16 0, .bool false, .slice none 0 0, .string ⟨#[]⟩, .int .u8 0, .int .u8 0, .int .i64 0, .int .i64 0, .int .i64 0, .int .u16 0, .bool false, .slice none 0 0, .string ⟨#[]⟩, .int .u8 0, .int .u8 0, .int .i64 0, .int .i64 0, .int .i64 0, .int .u16 0, .bool false, .slice none 0 0, .string ⟨#[]⟩, .int .u8 0, .int .u8 0, .int .i64 0, .int .i64 0, .int .i64 0, .int .u16 0, .bool false, .slice none 0 0, .string ⟨#[]⟩, .int .u8 0, .int .u8 0, .int .i64 0, .int .i64 0, .int .i64 0, .int .u16 0, .bool false, .slice none 0 0, .string ⟨#[]⟩, .int .u8 0, .int .u8 0, .int .i64 0, .int .i64 0, .int .i64 0, .int .u16 0, .bool false, .slice none 0 0, .string ⟨#[]⟩, .int .u8 0, .int .u8 0, .int .i64 0, .int .i64 0, .int .i64 0, .int .u16 0, .bool false, .slice none 0 0, .string ⟨#[]⟩, .int .u8 0, .int .u8 0, .int .i64 0, .int .i64 0, .int .i64 0, .int .u16 0, .bool false, .slice none 0 0, .string ⟨#[]⟩, .int .u8 0, .int .u8 0, .int .i64 0, .int .i64 0, .int .i64 0, .int .u16 0, .bool false, .slice none 0 0, .string ⟨#[]⟩, .int .u8 0, .int .u8 0, .int .i64 0, .int .i64 0, .int .i64 0, .int .u16 0, .bool false, .slice none 0 0, .string ⟨#[]⟩, .int .u8 0, .int .u8 0, .int .i64 0, .int .i64 0, .int .i64 0, .int .u16 0, .bool false, .slice none 0 0, .string ⟨#[]⟩, .int .u8 0, .int .u8 0, .int .i64 0, .int .i64 0, .int .i64 0, .int .u16 0, .bool false, .slice none 0 0, .string ⟨#[]⟩, .int .u8 0, .int .u8 0, .int .i64 0, .int .i64 0, .int .i64 0, .int .u16 0, .bool false, .slice none 0 0, .string ⟨#[]⟩, .int .u8 0, .int .u8 0, .int .i64 0, .int .i64 0, .int .i64 0, .int .u16 0, .bool false, .slice none 0 0, .string ⟨#[]⟩, .int .u8 0, .int .u8 0, .int .i64 0, .int .i64 0, .int .i64 0, .int .u16 0, .bool false, .slice none 0 0, .string ⟨#[]⟩, .int .u8 0, .int .u8 0, .int .i64 0, .int .i64 0, .int .i64 0, .int .u16 0, .bool false, .slice none 0 0, .string ⟨#[]⟩, .int .u8 0, .int .u8 0, .int .i64 0, .int .i64 0, .int .i64 0, .int .u16 0, .bool false, .slice none 0 0, .string ⟨#[]⟩, .int .u8 0, .int .u8 0, .int .i64 0, .int .i64 0, .int .i64 0, .int .u16 0, .bool false, .slice none 0 0, .string ⟨#[]⟩, .int .u8 0, .int .u8 0, .int .i64 0, .int .i64 0, .int .i64 0, .int .u16 0, .bool false, .slice none 0 0, .string ⟨#[]⟩, .int .u8 0, .int .u8 0, .int .i64 0, .int .i64 0, .int .i64 0, .int .u16 0, .bool false, .slice none 0 0, .string ⟨#[]⟩, .int .u8 0, .int .u8 0, .int .i64 0, .int .i64 0, .int .i64 0, .int .u16 0, .bool false, .slice none 0 0, .string ⟨#[]⟩, .int .u8 0, .int .u8 0, .int .i64 0, .int .i64 0, .int .i64 0, .int .u16 0, .bool false, .slice none 0 0, .string ⟨#[]⟩, .int .u8 0, .int .u8 0, .int .i64 0, .int .i64 0, .int .i64 0, .int .u16 0, .bool false, .slice none 0 0, .string ⟨#[]⟩, .int .u8 0, .int .u8 0, .int .i64 0, .int .i64 0, .int .i64 0, .int .u16 0, .bool false, .slice none 0 0, .string ⟨#[]⟩, .int .u8 0, .int .u8 0, .int .i64 0, .int .i64 0, .int .i64 0, .int .u16 0, .bool false, .slice none 0 0, .string ⟨#[]⟩, .int .u8 0, .int .u8 0, .int .i64 0, .int .i64 0, .int .i64 0, .int .u16 0, .bool false, .slice none 0 0, .string ⟨#[]⟩, .int .u8 0, .int .u8 0, .int .i64 0, .int .i64 0, .int .i64 0, .int .u16 0, .bool false, .slice none 0 0, .string ⟨#[]⟩, .int .u8 0, .int .u8 0, .int .i64 0, .int .i64 0, .int .i64 0, .int .u16 0, .bool false, .slice none 0 0, .string ⟨#[]⟩, .int .u8 0, .int .u8 0, .int .i64 0, .int .i64 0, .int .i64 0, .int .u16 0, .bool false, .slice none 0 0, .string ⟨#[]⟩, .int .u8 0, .int .u8 0, .int .i64 0, .int .i64 0, .int .i64 0, .int .u16 0, .bool false, .slice none 0 0, .string ⟨#[]⟩, .int .u8 0, .int .u8 0, .int .i64 0, .int .i64 0, .int .i64 0, .int .u16 0, .bool false, .slice none 0 0]⟩,
  some ⟨.array 9 9, 9, 144, [.string ⟨#[]⟩, .string ⟨#[]⟩, .string ⟨#[]⟩, .string ⟨#[]⟩, .string ⟨#[]⟩, .string ⟨#[]⟩, .string ⟨#[]⟩, .string ⟨#[]⟩, .string ⟨#[]⟩]⟩,
  none,
  some ⟨.struct [(0, 36), (1, 9), (2, 3), (3, 3)], 4, 40, [.int .u8 0, .string ⟨#[]⟩, .int .i64 0, .int .i64 0]⟩,
  some ⟨.array 5 58, 20, 200, [.int .u8 0, .string ⟨#[]⟩, .int .i64 0, .int .i64 0, .int .u8 0, .string ⟨#[]⟩, .int .i64 0, .int .i64 0, .int .u8 0, .string ⟨#[]⟩, .int .i64 0, .int .i64 0, .int .u8 0, .string ⟨#[]⟩, .int .i64 0, .int .i64 0, .int .u8 0, .string ⟨#[]⟩, .int .i64 0, .int .i64 0]⟩,
  none,
  some ⟨.struct [(0, 4), (1, 4), (2, 3), (3, 55), (579, 56), (588, 59)], 608, 5480, [.bool false, .bool false, .int .i64 0, .string ⟨#[]⟩, .int .u8 0, .int .u8 0, .int .i64 0, .int .i64 0, .int .i64 0, .int .u16 0, .bool false, .slice none 0 0, .string ⟨#[]⟩, .int .u8 0, .int .u8 0, .int .i64 0, .int .i64 0, .int .i64 0, .int .u16 0, .bool false, .slice none 0 0, .string ⟨#[]⟩, .int .u8 0, .int .u8 0, .int .i64 0, .int .i64 0, .int .i64 0, .int .u16 0, .bool false, .slice none 0 0, .string ⟨#[]⟩, .int .u8 0, .int .u8 0, .int .i64 0, .int .i64 0, .int .i64 0, .int .u16 0, .bool false, .slice none 0 0, .string ⟨#[]⟩, .int .u8 0, .int .u8 0, .int .i64 0, .int .i64 0, .int .i64 0, .int .u16 0, .bool false, .slice none 0 0, .string ⟨#[]⟩, .int .u8 0, .int .u8 0, .int .i64 0, .int .i64 0, .int .i64 0, .int .u16 0, .bool false, .slice none 0 0, .string ⟨#[]⟩, .int .u8 0, .int .u8 0, .int .i64 0, .int .i64 0, .int .i64 0, .int .u16 0, .bool false, .slice none 0 0, .string ⟨#[]⟩, .int .u8 0, .int .u8 0, .int .i64 0, .int .i64 0, .int .i64 0, .int .u16 0, .bool false, .slice none 0 0, .string ⟨#[]⟩, .int .u8 0, .int .u8 0, .int .i64 0, .int .i64 0, .int .i64 0, .int .u16 0, .bool false, .slice none 0 0, .string ⟨#[]⟩, .int .u8 0, .int .u8 0, .int .i64 0, .int .i64 0, .int .i64 0, .int .u16 0, .bool false, .slice none 0 0, .string ⟨#[]⟩, .int .u8 0, .int .u8 0, .int .i64 0, .int .i64 0, .int .i64 0, .int .u16 0, .bool false, .slice none 0 0, .string ⟨#[]⟩, .int .u8 0, .int .u8 0, .int .i64 0, .int .i64 0, .int .i64 0, .int .u16 0, .bool false, .slice none 0 0, .string ⟨#[]⟩, .int .u8 0, .int .u8 0, .int .i64 0, .int .i64 0, .int .i64 0, .int .u16 0, .bool false, .slice none 0 0, .string ⟨#[]⟩, .int .u8 0, .int .u8 0, .int .i64 0, .int .i64 0, .int .i64 0, .int .u16 0, .bool false, .slice none 0 0, .string ⟨#[]⟩, .int .u8 0, .int .u8 0, .int .i64 0, .int .i64 0, .int .i64 0, .int .u16 0, .bool false, .slice none 0 0, .string ⟨#[]⟩, .int .u8 0, .int .u8 0, .int .i64 0, .int .i64 0, .int .i64 0, .int .u16 0, .bool false, .slice none 0 0, .string ⟨#[]⟩, .int .u8 0, .int .u8 0, .int .i64 0, .int .i64 0, .int .i64 0, .int .u16 0, .bool false, .slice none 0 0, .string ⟨#[]⟩, .int .u8 0, .int .u8 0, .int .i64 0, .int .i64 0, .int .i64 0, .int .u16 0, .bool false, .slice none 0 0, .string ⟨#[]⟩, .int .u8 0, .int .u8 0, .int .i64 0, .int .i64 0, .int .i64 0, .int .u16 0, .bool false, .slice none 0 0, .string ⟨#[]⟩, .int .u8 0, .int .u8 0, .int .i64 0, .int .i64 0, .int .i64 0, .int .u16 0, .bool false, .slice none 0 0, .string ⟨#[]⟩, .int .u8 0, .int .u8 0, .int .i64 0, .int .i64 0, .int .i64 0, .int .u16 0, .bool false, .slice none 0 0, .string ⟨#[]⟩, .int .u8 0, .int .u8 0, .int .i64 0, .int .i64 0, .int .i64 0, .int .u16 0, .bool false, .slice none 0 0, .string ⟨#[]⟩, .int .u8 0, .int .u8 0, .int .i64 0, .int .i64 0, .int .i64 0, .int .u16 0, .bool false, .slice none 0 0, .string ⟨#[]⟩, .int .u8 0, .int .u8 0, .int .i64 0, .int .i64 0, .int .i64 0, .int .u16 0, .bool false, .slice none 0 0, .string ⟨#[]⟩, .int .u8 0, .int .u8 0, .int .i64 0, .int .i64 0, .int .i64 0, .int .u16 0, .bool false, .slice none 0 0, .string ⟨#[]⟩, .int .u8 0, .int .u8 0, .int .i64 0, .int .i64 0, .int .i64 0, .int .u16 0, .bool false, .slice none 0 0, .string ⟨#[]⟩, .int .u8 0, .int .u8 0, .int .i64 0, .int .i64 0, .int .i64 0, .int .u16 0, .bool false, .slice none 0 0, .string ⟨#[]⟩, .int .u8 0, .int .u8 0, .int .i64 0, .int .i64 0, .int .i64 0, .int .u16 0, .bool false, .slice none 0 0, .string ⟨#[]⟩, .int .u8 0, .int .u8 0, .int .i64 0, .int .i64 0, .int .i64 0, .int .u16 0, .bool false, .slice none 0 0, .string ⟨#[]⟩, .int .u8 0, .int .u8 0, .int .i64 0, .int .i64 0, .int .i64 0, .int .u16 0, .bool false, .slice none 0 0, .string ⟨#[]⟩, .int .u8 0, .int .u8 0, .int .i64 0, .int .i64 0, .int .i64 0, .int .u16 0, .bool false, .slice none 0 0, .string ⟨#[]⟩, .int .u8 0, .int .u8 0, .int .i64 0, .int .i64 0, .int .i64 0, .int .u16 0, .bool false, .slice none 0 0, .string ⟨#[]⟩, .int .u8 0, .int .u8 0, .int .i64 0, .int .i64 0, .int .i64 0, .int .u16 0, .bool false, .slice none 0 0, .string ⟨#[]⟩, .int .u8 0, .int .u8 0, .int .i64 0, .int .i64 0, .int .i64 0, .int .u16 0, .bool false, .slice none 0 0, .string ⟨#[]⟩, .int .u8 0, .int .u8 0, .int .i64 0, .int .i64 0, .int .i64 0, .int .u16 0, .bool false, .slice none 0 0, .string ⟨#[]⟩, .int .u8 0, .int .u8 0, .int .i64 0, .int .i64 0, .int .i64 0, .int .u16 0, .bool false, .slice none 0 0, .string ⟨#[]⟩, .int .u8 0, .int .u8 0, .int .i64 0, .int .i64 0, .int .i64 0, .int .u16 0, .bool false, .slice none 0 0, .string ⟨#[]⟩, .int .u8 0, .int .u8 0, .int .i64 0, .int .i64 0, .int .i64 0, .int .u16 0, .bool false, .slice none 0 0, .string ⟨#[]⟩, .int .u8 0, .int .u8 0, .int .i64 0, .int .i64 0, .int .i64 0, .int .u16 0, .bool false, .slice none 0 0, .string ⟨#[]⟩, .int .u8 0, .int .u8 0, .int .i64 0, .int .i64 0, .int .i64 0, .int .u16 0, .bool false, .slice none 0 0, .string ⟨#[]⟩, .int .u8 0, .int .u8 0, .int .i64 0, .int .i64 0, .int .i64 0, .int .u16 0, .bool false, .slice none 0 0, .string ⟨#[]⟩, .int .u8 0, .int .u8 0, .int .i64 0, .int .i64 0, .int .i64 0, .int .u16 0, .bool false, .slice none 0 0, .string ⟨#[]⟩, .int .u8 0, .int .u8 0, .int .i64 0, .int .i64 0, .int .i64 0, .int .u16 0, .bool false, .slice none 0 0, .string ⟨#[]⟩, .int .u8 0, .int .u8 0, .int .i64 0, .int .i64 0, .int .i64 0, .int .u16 0, .bool false, .slice none 0 0, .string ⟨#[]⟩, .int .u8 0, .int .u8 0, .int .i64 0, .int .i64 0, .int .i64 0, .int .u16 0, .bool false, .slice none 0 0, .string ⟨#[]⟩, .int .u8 0, .int .u8 0, .int .i64 0, .int .i64 0, .int .i64 0, .int .u16 0, .bool false, .slice none 0 0, .string ⟨#[]⟩, .int .u8 0, .int .u8 0, .int .i64 0, .int .i64 0, .int .i64 0, .int .u16 0, .bool false, .slice none 0 0, .string ⟨#[]⟩, .int .u8 0, .int .u8 0, .int .i64 0, .int .i64 0, .int .i64 0, .int .u16 0, .bool false, .slice none 0 0, .string ⟨#[]⟩, .int .u8 0, .int .u8 0, .int .i64 0, .int .i64 0, .int .i64 0, .int .u16 0, .bool false, .slice none 0 0, .string ⟨#[]⟩, .int .u8 0, .int .u8 0, .int .i64 0, .int .i64 0, .int .i64 0, .int .u16 0, .bool false, .slice none 0 0, .string ⟨#[]⟩, .int .u8 0, .int .u8 0, .int .i64 0, .int .i64 0, .int .i64 0, .int .u16 0, .bool false, .slice none 0 0, .string ⟨#[]⟩, .int .u8 0, .int .u8 0, .int .i64 0, .int .i64 0, .int .i64 0, .int .u16 0, .bool false, .slice none 0 0, .string ⟨#[]⟩, .int .u8 0, .int .u8 0, .int .i64 0, .int .i64 0, .int .i64 0, .int .u16 0, .bool false, .slice none 0 0, .string ⟨#[]⟩, .int .u8 0, .int .u8 0, .int .i64 0, .int .i64 0, .int .i64 0, .int .u16 0, .bool false, .slice none 0 0, .string ⟨#[]⟩, .int .u8 0, .int .u8 0, .int .i64 0, .int .i64 0, .int .i64 0, .int .u16 0, .bool false, .slice none 0 0, .string ⟨#[]⟩, .int .u8 0, .int .u8 0, .int .i64 0, .int .i64 0, .int .i64 0, .int .u16 0, .bool false, .slice none 0 0, .string ⟨#[]⟩, .int .u8 0, .int .u8 0, .int .i64 0, .int .i64 0, .int .i64 0, .int .u16 0, .bool false, .slice none 0 0, .string ⟨#[]⟩, .int .u8 0, .int .u8 0, .int .i64 0, .int .i64 0, .int .i64 0, .int .u16 0, .bool false, .slice none 0 0, .string ⟨#[]⟩, .int .u8 0, .int .u8 0, .int .i64 0, .int .i64 0, .int .i64 0, .int .u16 0, .bool false, .slice none 0 0, .string ⟨#[]⟩, .int .u8 0, .int .u8 0, .int .i64 0, .int .i64 0, .int .i64 0, .int .u16 0, .bool false, .slice none 0 0, .string ⟨#[]⟩, .int .u8 0, .int .u8 0, .int .i64 0, .int .i64 0, .int .i64 0, .int .u16 0, .bool false, .slice none 0 0, .string ⟨#[]⟩, .int .u8 0, .int .u8 0, .int .i64 0, .int .i64 0, .int .i64 0, .int .u16 0, .bool false, .slice none 0 0, .string ⟨#[]⟩, .int .u8 0, .int .u8 0, .int .i64 0, .int .i64 0, .int .i64 0, .int .u16 0, .bool false, .slice none 0 0, .string ⟨#[]⟩, .int .u8 0, .int .u8 0, .int .i64 0, .int .i64 0, .int .i64 0, .int .u16 0, .bool false, .slice none 0 0, .string ⟨#[]⟩, .string ⟨#[]⟩, .string ⟨#[]⟩, .string ⟨#[]⟩, .string ⟨#[]⟩, .string ⟨#[]⟩, .string ⟨#[]⟩, .string ⟨#[]⟩, .string ⟨#[]⟩, .int .u8 0, .string ⟨#[]⟩, .int .i64 0, .int .i64 0, .int .u8 0, .string ⟨#[]⟩, .int .i64 0, .int .i64 0, .int .u8 0, .string ⟨#[]⟩, .int .i64 0, .int .i64 0, .int .u8 0, .string ⟨#[]⟩, .int .i64 0, .int .i64 0, .int .u8 0, .string ⟨#[]⟩, .int .i64 0, .int .i64 0]⟩,
  none,
  some ⟨.struct [(0, 3), (1, 34), (2, 51), (3, 3), (4, 3)], 5, 32, [.int .i64 0, .int .u8 0, .int .u16 0, .int .i64 0, .int .i64 0]⟩,
  none,
  some ⟨.array 2 3, 2, 16, [.int .i64 0, .int .i64 0]⟩,
  some ⟨.slice 3, 1, 24, [.slice none 0 0]⟩,
  some ⟨.array 2 66, 2, 48, [.slice none 0 0, .slice none 0 0]⟩,
  some ⟨.slice 118, 1, 24, [.slice none 0 0]⟩,
  some ⟨.int .u8, 1, 1, [.int .u8 0]⟩,
  none,
  some ⟨.struct [(0, 65), (2, 65), (4, 65), (6, 65), (8, 23), (9, 67), (11, 67), (13, 68), (14, 3), (15, 69), (16, 3), (17, 3), (18, 3), (19, 3), (20, 4), (21, 3)], 22, 272, [.int .i64 0, .int .i64 0, .int .i64 0, .int .i64 0, .int .i64 0, .int .i64 0, .int .i64 0, .int .i64 0, .slice none 0 0, .slice none 0 0, .slice none 0 0, .slice none 0 0, .slice none 0 0, .slice none 0 0, .int .i64 0, .int .u8 0, .int .i64 0, .int .i64 0, .int .i64 0, .int .i64 0, .bool false, .int .i64 0]⟩,
  none,
  none,
  some ⟨.pointer 92, 1, 8, [.pointer none]⟩,
  none,
  none,
  none,
  none,
  some ⟨.struct [(0, 32), (1, 3), (2, 3), (3, 36), (4, 9), (5, 3), (6, 4), (7, 4)], 8, 64, [.int .u8 0, .int .i64 0, .int .i64 0, .int .u8 0, .string ⟨#[]⟩, .int .i64 0, .bool false, .bool false]⟩,
  none,
  none,
  some ⟨.int .u8, 1, 1, [.int .u8 0]⟩,
  some ⟨.array 4 3, 4, 32, [.int .i64 0, .int .i64 0, .int .i64 0, .int .i64 0]⟩,
  none,
  some ⟨.struct [(0, 3), (1, 3), (2, 82), (3, 3), (4, 3), (5, 83), (9, 3), (10, 4)], 11, 88, [.int .i64 0, .int .i64 0, .int .u8 0, .int .i64 0, .int .i64 0, .int .i64 0, .int .i64 0, .int .i64 0, .int .i64 0, .int .i64 0, .bool false]⟩,
  none,
  none,
  none,
  some ⟨.struct [(0, 3), (1, 3), (2, 79), (10, 3), (11, 68)], 12, 112, [.int .i64 0, .int .i64 0, .int .u8 0, .int .i64 0, .int .i64 0, .int .u8 0, .string ⟨#[]⟩, .int .i64 0, .bool false, .bool false, .int .i64 0, .slice none 0 0]⟩,
  none,
  none,
  some ⟨.struct [(0, 22), (1, 71), (23, 3)], 24, 288, [.pointer none, .int .i64 0, .int .i64 0, .int .i64 0, .int .i64 0, .int .i64 0, .int .i64 0, .int .i64 0, .int .i64 0, .slice none 0 0, .slice none 0 0, .slice none 0 0, .slice none 0 0, .slice none 0 0, .slice none 0 0, .int .i64 0, .int .u8 0, .int .i64 0, .int .i64 0, .int .i64 0, .int .i64 0, .bool false, .int .i64 0, .int .i64 0]⟩,
  none,
  none,
  none,
  none,
  none,
  none,
  some ⟨.struct [(0, 22), (1, 23), (2, 24)], 3, 56, [.pointer none, .slice none 0 0, .slice none 0 0]⟩,
  none,
  none,
  none,
  none,
  none,
  none,
  some ⟨.func, 1, 8, [.nilFunc]⟩,
  none,
  none,
  none,
  some ⟨.func, 1, 8, [.nilFunc]⟩,
  none,
  none,
  some ⟨.func, 1, 8, [.nilFunc]⟩,
  none,
  none,
  none,
  none,
  some ⟨.struct [(0, 3), (1, 3), (2, 3), (3, 3)], 4, 32, [.int .i64 0, .int .i64 0, .int .i64 0, .int .i64 0]⟩,
  none,
  none,
  none,
  none,
  none,
  none,
  none,
  some ⟨.map 3 3, 1, 8, [.map none]⟩,
  none,
  none,
  none,
  none,
  none,
  none,
  some ⟨.slice 54, 1, 24, [.slice none 0 0]⟩,
  none,
  none,
  none,
  some ⟨.func, 1, 8, [.nilFunc]⟩,
  none,
  none,
  none,
  none,
  some ⟨.func, 1, 8, [.nilFunc]⟩,
  none,
  some ⟨.map 32 106, 1, 8, [.map none]⟩,
  none,
  none,
  none,
  none,
  none,
  none,
  none,
  none,
  none,
  none,
  none,
  none,
  none,
  some ⟨.pointer 3, 1, 8, [.pointer none]⟩,
  none,
  none,
  some ⟨.func, 1, 8, [.nilFunc]⟩,
  none,
  none,
  none,
  none,
  none,
  none,
  some ⟨.struct [(0, 22), (1, 23), (2, 133), (3, 66)], 4, 80, [.pointer none, .slice none 0 0, .slice none 0 0, .slice none 0 0]⟩,
  none,
  none,
  none,
  none,
  none,
  none,
  none,
  none,
  none,
  none,
  none,
  none,
  none,
  some ⟨.func, 1, 8, [.nilFunc]⟩,
  none,
  none,
  none,
  none,
  none,
  none,
  none,
  none,
  none,
  none,
  none,
  none,
  none,
  none,
  none,
  none,
  none,
  none,
  none,
  none,
  some ⟨.func, 1, 8, [.nilFunc]⟩,
  none,
  none,
  none,
  none,
  none,
  some ⟨.int .u64, 1, 8, [.int .u64 0]⟩,
  none,
  none,
  none,
  none,
  none,
  none,
  none,
  some ⟨.array 256 4, 256, 256, [.bool false, .bool false, .bool false, .bool false, .bool false, .bool false, .bool false, .bool false, .bool false, .bool false, .bool false, .bool false, .bool false, .bool false, .bool false, .bool false, .bool false, .bool false, .bool false, .bool false, .bool false, .bool false, .bool false, .bool false, .bool false, .bool false, .bool false, .bool false, .bool false, .bool false, .bool false, .bool false, .bool false, .bool false, .bool false, .bool false, .bool false, .bool false, .bool false, .bool false, .bool false, .bool false, .bool false, .bool false, .bool false, .bool false, .bool false, .bool false, .bool false, .bool false, .bool false, .bool false, .bool false, .bool false, .bool false, .bool false, .bool false, .bool false, .bool false, .bool false, .bool false, .bool false, .bool false, .bool false, .bool false, .bool false, .bool false, .bool false, .bool false, .bool false, .bool false, .bool false, .bool false, .bool false, .bool false, .bool false, .bool false, .bool false, .bool false, .bool false, .bool false, .bool false, .bool false, .bool false, .bool false, .bool false, .bool false, .bool false, .bool false, .bool false, .bool false, .bool false, .bool false, .bool false, .bool false, .bool false, .bool false, .bool false, .bool false, .bool false, .bool false, .bool false, .bool false, .bool false, .bool false, .bool false, .bool false, .bool false, .bool false, .bool false, .bool false, .bool false, .bool false, .bool false, .bool false, .bool false, .bool false, .bool false, .bool false, .bool false, .bool false, .bool false, .bool false, .bool false, .bool false, .bool false, .bool false, .bool false, .bool false, .bool false, .bool false, .bool false, .bool false, .bool false, .bool false, .bool false, .bool false, .bool false, .bool false, .bool false, .bool false, .bool false, .bool false, .bool false, .bool false, .bool false, .bool false, .bool false, .bool false, .bool false, .bool false, .bool false, .bool false, .bool false, .bool false, .bool false, .bool false, .bool false, .bool false, .bool false, .bool false, .bool false, .bool false, .bool false, .bool false, .bool false, .bool false, .bool false, .bool false, .bool false, .bool false, .bool false, .bool false, .bool false, .bool false, .bool false, .bool false, .bool false, .bool false, .bool false, .bool false, .bool false, .bool false, .bool false, .bool false, .bool false, .bool false, .bool false, .bool false, .bool false, .bool false, .bool false, .bool false, .bool false, .bool false, .bool false, .bool false, .bool false, .bool false, .bool false, .bool false, .bool false, .bool false, .bool false, .bool false, .bool false, .bool false, .bool false, .bool false, .bool false, .bool false, .bool false, .bool false, .bool false, .bool false, .bool false, .bool false, .bool false, .bool false, .bool false, .bool false, .bool false, .bool false, .bool false, .bool false, .bool false, .bool false, .bool false, .bool false, .bool false, .bool false, .bool false, .bool false, .bool false, .bool false, .bool false, .bool false, .bool false, .bool false, .bool false, .bool false, .bool false, .bool false, .bool false, .bool false, .bool false, .bool false, .bool false, .bool false, .bool false, .bool false, .bool false, .bool false, .bool false, .bool false, .bool false]⟩,
  none,
  none,
  none,
  some ⟨.pointer 217, 1, 8, [.pointer none]⟩,
  some ⟨.int .i64, 1, 8, [.int .i64 0]⟩,
  none,
  none,
  none,
  none,
  none,
  none,
  none,
  some ⟨.int .u32, 1, 4, [.int .u32 0]⟩,
  none,
  some ⟨.int .u64, 1, 8, [.int .u64 0]⟩,
  none,
  none,
  none,
  none,
  none,
  none,
  none,
  none,
  none,
  none,
  none,
  none,
  none,
  some ⟨.int .u64, 1, 8, [.int .u64 0]⟩,
  none,
  none,
  none,
  none,
  none,
  none,
  none,
  none,
  none,
  none,
  none,
  some ⟨.pointer 246, 1, 8, [.pointer none]⟩,
  none,
  none,
  none,
  some ⟨.array 256 5, 256, 256, [.int .u8 0, .int .u8 0, .int .u8 0, .int .u8 0, .int .u8 0, .int .u8 0, .int .u8 0, .int .u8 0, .int .u8 0, .int .u8 0, .int .u8 0, .int .u8 0, .int .u8 0, .int .u8 0, .int .u8 0, .int .u8 0, .int .u8 0, .int .u8 0, .int .u8 0, .int .u8 0, .int .u8 0, .int .u8 0, .int .u8 0, .int .u8 0, .int .u8 0, .int .u8 0, .int .u8 0, .int .u8 0, .int .u8 0, .int .u8 0, .int .u8 0, .int .u8 0, .int .u8 0, .int .u8 0, .int .u8 0, .int .u8 0, .int .u8 0, .int .u8 0, .int .u8 0, .int .u8 0, .int .u8 0, .int .u8 0, .int .u8 0, .int .u8 0, .int .u8 0, .int .u8 0, .int .u8 0, .int .u8 0, .int .u8 0, .int .u8 0, .int .u8 0, .int .u8 0, .int .u8 0, .int .u8 0, .int .u8 0, .int .u8 0, .int .u8 0, .int .u8 0, .int .u8 0, .int .u8 0, .int .u8 0, .int .u8 0, .int .u8 0, .int .u8 0, .int .u8 0, .int .u8 0, .int .u8 0, .int .u8 0, .int .u8 0, .int .u8 0, .int .u8 0, .int .u8 0, .int .u8 0, .int .u8 0, .int .u8 0, .int .u8 0, .int .u8 0, .int .u8 0, .int .u8 0, .int .u8 0, .int .u8 0, .int .u8 0, .int .u8 0, .int .u8 0, .int .u8 0, .int .u8 0, .int .u8 0, .int .u8 0, .int .u8 0, .int .u8 0, .int .u8 0, .int .u8 0, .int .u8 0, .int .u8 0, .int .u8 0, .int .u8 0, .int .u8 0, .int .u8 0, .int .u8 0, .int .u8 0, .int .u8 0, .int .u8 0, .int .u8 0, .int .u8 0, .int .u8 0, .int .u8 0, .int .u8 0, .int .u8 0, .int .u8 0, .int .u8 0, .int .u8 0, .int .u8 0, .int .u8 0, .int .u8 0, .int .u8 0, .int .u8 0, .int .u8 0, .int .u8 0, .int .u8 0, .int .u8 0, .int .u8 0, .int .u8 0, .int .u8 0, .int .u8 0, .int .u8 0, .int .u8 0, .int .u8 0, .int .u8 0, .int .u8 0, .int .u8 0, .int .u8 0, .int .u8 0, .int .u8 0, .int .u8 0, .int .u8 0, .int .u8 0, .int .u8 0, .int .u8 0, .int .u8 0, .int .u8 0, .int .u8 0, .int .u8 0, .int .u8 0, .int .u8 0, .int .u8 0, .int .u8 0, .int .u8 0, .int .u8 0, .int .u8 0, .int .u8 0, .int .u8 0, .int .u8 0, .int .u8 0, .int .u8 0, .int .u8 0, .int .u8 0, .int .u8 0, .int .u8 0, .int .u8 0, .int .u8 0, .int .u8 0, .int .u8 0, .int .u8 0, .int .u8 0, .int .u8 0, .int .u8 0, .int .u8 0, .int .u8 0, .int .u8 0, .int .u8 0, .int .u8 0, .int .u8 0, .int .u8 0, .int .u8 0, .int .u8 0, .int .u8 0, .int .u8 0, .int .u8 0, .int .u8 0, .int .u8 0, .int .u8 0, .int .u8 0, .int .u8 0, .int .u8 0, .int .u8 0, .int .u8 0, .int .u8 0, .int .u8 0, .int .u8 0, .int .u8 0, .int .u8 0, .int .u8 0, .int .u8 0, .int .u8 0, .int .u8 0, .int .u8 0, .int .u8 0, .int .u8 0, .int .u8 0, .int .u8 0, .int .u8 0, .int .u8 0, .int .u8 0, .int .u8 0, .int .u8 0, .int .u8 0, .int .u8 0, .int .u8 0, .int .u8 0, .int .u8 0, .int .u8 0, .int .u8 0, .int .u8 0, .int .u8 0, .int .u8 0, .int .u8 0, .int .u8 0, .int .u8 0, .int .u8 0, .int .u8 0, .int .u8 0, .int .u8 0, .int .u8 0, .int .u8 0, .int .u8 0, .int .u8 0, .int .u8 0, .int .u8 0, .int .u8 0, .int .u8 0, .int .u8 0, .int .u8 0, .int .u8 0, .int .u8 0, .int .u8 0, .int .u8 0, .int .u8 0, .int .u8 0, .int .u8 0, .int .u8 0, .int .u8 0, .int .u8 0, .int .u8 0, .int .u8 0, .int .u8 0, .int .u8 0, .int .u8 0, .int .u8 0, .int .u8 0, .int .u8 0, .int .u8 0, .int .u8 0, .int .u8 0, .int .u8 0, .int .u8 0, .int .u8 0]⟩,
  none,
  some ⟨.struct [(0, 5), (1, 5)], 2, 2, [.int .u8 0, .int .u8 0]⟩,
  some ⟨.array 16 264, 32, 32, [.int .u8 0, .int .u8 0, .int .u8 0, .int .u8 0, .int .u8 0, .int .u8 0, .int .u8 0, .int .u8 0, .int .u8 0, .int .u8 0, .int .u8 0, .int .u8 0, .int .u8 0, .int .u8 0, .int .u8 0, .int .u8 0, .int .u8 0, .int .u8 0, .int .u8 0, .int .u8 0, .int .u8 0, .int .u8 0, .int .u8 0, .int .u8 0, .int .u8 0, .int .u8 0, .int .u8 0, .int .u8 0, .int .u8 0, .int .u8 0, .int .u8 0, .int .u8 0]⟩]
def Tryz.fns : List FuncId := [3, 4, 5, 6, 7, 8, 9, 10, 11, 12, 13, 14, 15, 16, 17, 18, 19, 20, 21, 22, 23, 24, 25, 26, 27, 28, 29, 30, 31, 32, 33, 34, 35, 36, 37, 38, 39, 40, 41, 42, 43, 44, 45, 46, 47, 48, 49, 50, 51, 52, 53, 54, 55, 56, 57, 58, 59, 60, 61, 62, 63, 64, 65, 66, 67, 68, 69, 70, 71, 72, 73, 74, 75, 76, 77, 78, 79, 80, 81, 82, 83, 84, 85, 86, 87, 88, 89, 90, 91, 92, 93, 94, 95, 96, 97, 98, 99, 100, 101, 102, 103, 104, 105, 106, 107, 108, 109, 110, 111, 112, 113, 114, 115, 116, 117, 118, 119, 120, 121, 122, 123, 124, 125, 126, 127, 128, 129, 130, 131, 132, 133, 134, 135, 136, 137, 138, 139, 140, 141, 142, 143, 144, 145, 146, 147, 148, 149, 150, 151, 152, 153, 154, 155, 156, 157, 158, 159, 160, 161, 162, 163, 164, 165, 166, 167, 168, 169, 170, 171, 172, 173, 174, 175, 176, 177, 178, 179, 180, 181, 182, 183, 184, 185, 186, 187, 188, 189, 190, 191, 192, 193, 194, 195, 196, 197, 198, 199, 200, 201, 202, 203, 204, 205, 206, 207, 208, 209]
def Tryz.hint : FuncId → Hint := fun f => match f with
  | 8 => (.seq .leaf (.seq .leaf (.seq (.seq .leaf (.sub none (.loop [5, 6, 12, 13] .leaf))) .leaf)))
  | 10 => (.seq .leaf (.seq .leaf (.seq .leaf (.seq .leaf (.seq .leaf (.seq .leaf (.seq (.sub none (.loop [7, 8, 10, 12] .leaf)) .leaf)))))))
  | 15 => (.seq .leaf (.seq .leaf (.seq .leaf (.seq .leaf (.seq .leaf (.seq .leaf (.seq .leaf (.seq .leaf (.seq (.sub none (.loop [2, 7, 8] .leaf)) .leaf)))))))))
  | 18 => (.seq .leaf (.seq .leaf (.seq (.seq .leaf (.sub none (.loop [0, 1, 4, 5] .leaf))) .leaf)))
  | 24 => (.seq .leaf (.seq .leaf (.seq .leaf (.seq (.seq .leaf (.sub none (.loop [0, 3, 4, 5, 31, 32, 33] .leaf))) (.seq (.seq .leaf (.sub none (.loop [0, 3, 4, 56] .leaf))) .leaf)))))
  | 25 => (.seq .leaf (.seq .leaf (.seq .leaf (.seq .leaf (.seq (.sub none (.loop [0, 3, 7] .leaf)) .leaf)))))
  | 27 => (.seq .leaf (.seq .leaf (.seq (.seq .leaf (.sub none (.loop [0, 2, 21, 22, 23] (.seq .leaf (.seq .leaf (.seq (.sub none (.seq .leaf (.seq .leaf (.sub none (.loop [0, 2, 21, 22, 23, 28, 29, 30] .leaf))))) .leaf)))))) .leaf)))
  | 29 => (.seq .leaf (.seq .leaf (.seq (.seq .leaf (.sub none (.loop [1, 3, 14, 15, 16] .leaf))) (.seq .leaf (.seq .leaf (.seq (.seq .leaf (.sub none (.loop [1, 6, 42, 43, 44] (.seq .leaf (.seq .leaf (.seq (.sub none (.seq .leaf (.seq .leaf (.seq .leaf (.sub none (.loop [1, 6, 8, 42, 43, 44, 60, 61, 62] .leaf)))))) .leaf)))))) .leaf))))))
  | 33 => (.seq .leaf (.seq (.seq .leaf (.sub none (.loop [2, 3, 4, 6, 7, 12, 13, 14] .leaf))) .leaf))
  | 36 => (.seq .leaf (.seq .leaf (.seq .leaf (.seq (.seq .leaf (.sub none (.loop [1, 2, 12] .leaf))) .leaf))))
  | 59 => (.seq .leaf (.sub none (.loop [0] (.sub none (.seq .leaf (.seq .leaf (.seq (.seq .leaf (.sub none (.loop [0, 2, 3, 14, 15, 16] .leaf))) .leaf)))))))
  | 60 => (.seq .leaf (.seq .leaf (.seq (.seq .leaf (.sub none (.loop [0, 1, 4, 5] .leaf))) .leaf)))
  | 63 => (.seq .leaf (.seq .leaf (.seq (.seq .leaf (.sub none (.loop [0, 1, 4, 11, 12, 13] .leaf))) (.seq (.seq .leaf (.sub none (.loop [0, 34, 35, 36] .leaf))) .leaf))))
  | 64 => (.seq .leaf (.seq .leaf (.seq .leaf (.seq (.seq .leaf (.sub none (.loop [2, 3, 5, 6, 7] .leaf))) .leaf))))
  | 66 => (.seq .leaf (.seq .leaf (.seq (.seq .leaf (.sub none (.loop [1, 2, 3, 7] .leaf))) .leaf)))
  | 67 => (.seq .leaf (.seq .leaf (.seq .leaf (.seq (.seq .leaf (.sub none (.loop [6, 91, 92] .leaf))) .leaf))))
  | 68 => (.seq .leaf (.seq .leaf (.seq (.seq .leaf (.sub none (.loop [1, 5, 9, 10, 11] .leaf))) .leaf)))
  | 69 => (.seq .leaf (.seq .leaf (.seq (.seq .leaf (.sub none (.loop [2, 3, 4, 8, 9, 15, 16, 17] .leaf))) (.seq (.seq .leaf (.sub none (.loop [2, 3, 8, 9, 42, 43, 44] .leaf))) .leaf))))
  | 70 => (.seq .leaf (.seq .leaf (.seq (.seq .leaf (.sub none (.loop [0, 3, 4, 5, 13, 14, 15] .leaf))) (.seq (.seq .leaf (.sub none (.loop [3, 4, 5, 34, 35, 36] .leaf))) .leaf))))
  | 72 => (.seq .leaf (.seq .leaf (.seq (.seq .leaf (.sub none (.loop [1, 2, 13, 14, 15] .leaf))) .leaf)))
  | 73 => (.seq .leaf (.seq (.seq .leaf (.sub none (.loop [0, 1, 4, 9, 10] .leaf))) .leaf))
  | 101 => (.seq .leaf (.seq .leaf (.seq .leaf (.seq (.seq .leaf (.sub none (.loop [0, 1, 5, 6] .leaf))) .leaf))))
  | 105 => (.seq .leaf (.seq .leaf (.seq (.seq .leaf (.sub none (.loop [0, 1, 4, 5] .leaf))) .leaf)))
  | 109 => (.seq .leaf (.seq .leaf (.seq .leaf (.seq (.seq .leaf (.sub none (.loop [0, 2, 4, 6, 7, 8, 49, 50, 51] .leaf))) (.seq .leaf (.seq (.seq .leaf (.sub none (.loop [4, 6, 7, 8, 15] .leaf))) .leaf))))))
  | 110 => (.seq .leaf (.seq .leaf (.seq (.seq .leaf (.sub none (.loop [1, 2, 3, 7, 13, 14, 15] (.seq .leaf (.seq .leaf (.seq (.sub none (.seq .leaf (.seq .leaf (.seq .leaf (.sub none (.loop [1, 2, 3, 7, 9, 13, 14, 15, 30, 31, 32] .leaf)))))) .leaf)))))) .leaf)))
  | 112 => (.seq .leaf (.seq .leaf (.seq (.sub none (.loop [0, 1, 2, 6, 7, 8] .leaf)) (.seq .leaf (.sub none (.loop [0, 1, 2, 6] (.seq .leaf (.sub none (.seq .leaf (.seq (.sub none (.loop [0, 1, 2, 6, 7, 8] .leaf)) .leaf))))))))))
  | 114 => (.seq .leaf (.seq (.seq .leaf (.sub none (.loop [0, 1, 4, 7, 8] .leaf))) .leaf))
  | 121 => (.seq .leaf (.seq .leaf (.seq .leaf (.seq .leaf (.seq .leaf (.seq (.seq .leaf (.sub none (.loop [8, 10, 32, 33] .leaf))) .leaf))))))
  | 123 => (.seq .leaf (.seq .leaf (.seq .leaf (.seq (.seq .leaf (.sub none (.loop [0, 1, 5, 6] .leaf))) .leaf))))
  | 124 => (.seq .leaf (.seq .leaf (.seq .leaf (.seq .leaf (.seq (.seq .leaf (.sub none (.loop [2, 10, 23, 24, 25] .leaf))) .leaf)))))
  | 126 => (.seq .leaf (.seq (.seq .leaf (.sub none (.loop [0, 1, 4, 7, 8] .leaf))) .leaf))
  | 145 => (.seq .leaf (.sub none (.loop [0, 1, 2, 3, 8] (.seq .leaf (.seq (.sub none (.seq .leaf (.sub none (.loop [0, 1, 2, 3, 8, 9] .leaf)))) .leaf)))))
  | 146 => (.seq (.seq .leaf (.cond none (.seq .leaf (.seq .leaf (.seq (.sub none (.loop [0, 1, 4, 10, 11] .leaf)) (.seq (.seq .leaf (.sub none (.loop [0, 10, 13] .leaf))) .leaf)))) .leaf)) (.seq (.seq .leaf (.cond none (.seq .leaf (.seq .leaf (.seq (.sub none (.loop [0, 2, 4, 14, 15] .leaf)) (.seq (.seq .leaf (.sub none (.loop [0, 14, 17] .leaf))) .leaf)))) .leaf)) (.seq .leaf (.seq .leaf (.seq .leaf (.seq .leaf (.seq .leaf (.seq (.sub none (.loop [0, 1, 2, 3, 4, 18, 19, 20, 21, 22] .leaf)) .leaf))))))))
  | 148 => (.seq .leaf (.seq (.seq .leaf (.sub none (.loop [0, 1, 4, 7, 8] .leaf))) .leaf))
  | 149 => (.seq .leaf (.sub none (.loop [0, 1, 3] .leaf)))
  | 154 => (.seq .leaf (.seq .leaf (.sub none (.loop [0, 1, 2, 3, 4, 10, 11] .leaf))))
  | 156 => (.seq .leaf (.seq .leaf (.seq (.sub none (.loop [0, 2, 4, 10, 11] .leaf)) .leaf)))
  | 157 => (.seq .leaf (.seq .leaf (.seq .leaf (.seq (.seq .leaf (.sub none (.loop [0, 1, 4, 5, 9, 33, 34, 35] .leaf))) (.seq .leaf (.seq (.seq .leaf (.sub none (.loop [4, 5, 9, 70, 71, 72] .leaf))) .leaf))))))
  | 159 => (.seq .leaf (.seq .leaf (.seq .leaf (.seq .leaf (.seq .leaf (.seq .leaf (.seq (.sub none (.loop [11, 13, 15, 16] .leaf)) .leaf)))))))
  | 160 => (.seq .leaf (.seq .leaf (.seq (.seq .leaf (.sub none (.loop [0, 2, 7, 13, 14, 15] .leaf))) .leaf)))
  | 161 => (.seq .leaf (.seq (.sub none (.loop [0, 1] .leaf)) .leaf))
  | 162 => (.seq .leaf (.seq (.sub none (.loop [0, 1] .leaf)) .leaf))
  | 163 => (.seq .leaf (.seq (.seq .leaf (.sub none (.loop [0, 2, 3, 4] .leaf))) .leaf))
  | 164 => (.seq .leaf (.seq (.sub none (.loop [0, 1] .leaf)) .leaf))
  | 165 => (.seq .leaf (.seq (.sub none (.loop [0, 1] .leaf)) .leaf))
  | 166 => (.seq .leaf (.seq (.sub none (.loop [0, 1] .leaf)) .leaf))
  | 167 => (.seq .leaf (.seq (.sub none (.loop [0, 1] .leaf)) .leaf))
  | 168 => (.seq .leaf (.seq .leaf (.seq .leaf (.seq (.seq .leaf (.sub none (.loop [0, 3, 8, 9, 10, 11] .leaf))) (.seq .leaf (.sub none (.loop [0, 3, 8, 9, 12] .leaf)))))))
  | 169 => (.seq .leaf (.seq .leaf (.cond none (.seq .leaf (.seq .leaf (.seq .leaf (.sub none (.loop [0, 1, 8, 9, 10, 11] .leaf))))) .leaf)))
  | 171 => (.seq .leaf (.seq .leaf (.sub none (.loop [0, 8, 9] .leaf))))
  | 172 => (.seq .leaf (.seq .leaf (.seq (.seq .leaf (.sub none (.loop [0, 1, 2, 3, 8, 9, 10] (.seq .leaf (.seq (.sub none (.seq (.sub none (.loop [0, 1, 2, 3, 9, 10] .leaf)) (.seq .leaf (.seq .leaf (.seq .leaf (.seq (.seq .leaf (.cond none (.seq .leaf (.sub none (.loop [0, 1, 2, 3, 9, 10, 11] .leaf))) .leaf)) (.seq .leaf (.cond none (.seq .leaf (.sub none (.loop [0, 1, 2, 3, 9, 10, 12] .leaf))) .leaf)))))))) .leaf))))) .leaf)))
  | 173 => (.seq .leaf (.seq .leaf (.seq .leaf (.seq (.sub none (.loop [0, 1, 4, 11, 12] (.sub none (.seq (.sub none (.loop [0, 1, 4, 11, 12] .leaf)) (.seq (.sub none (.loop [0, 1, 4, 11, 12] .leaf)) .leaf))))) .leaf))))
  | 174 => (.seq .leaf (.seq .leaf (.seq .leaf (.seq (.sub none (.loop [0, 1, 4, 12, 13] .leaf)) (.seq (.sub none (.loop [0, 1, 4, 12, 13] .leaf)) (.seq .leaf (.seq .leaf (.seq .leaf (.seq .leaf (.seq (.sub none (.loop [0, 1, 4, 12, 13] (.sub none (.seq (.sub none (.loop [0, 1, 4, 12, 13] .leaf)) (.seq (.sub none (.loop [0, 1, 4, 12, 13] .leaf)) .leaf))))) .leaf))))))))))
  | 177 => (.seq .leaf (.sub none (.loop [0, 1, 2, 3, 10] .leaf)))
  | 179 => (.seq .leaf (.seq .leaf (.seq .leaf (.seq (.seq .leaf (.sub none (.loop [0, 3, 4] .leaf))) .leaf))))
  | 180 => (.seq .leaf (.seq .leaf (.seq .leaf (.seq (.seq .leaf (.sub none (.loop [0, 3, 4] .leaf))) .leaf))))
  | 182 => (.seq .leaf (.sub none (.seq .leaf (.seq .leaf (.seq (.seq .leaf (.sub none (.loop [1, 2, 3, 7, 8, 13, 14, 15] (.seq .leaf (.seq .leaf (.seq (.sub none (.seq .leaf (.seq .leaf (.seq (.seq .leaf (.sub none (.loop [1, 2, 3, 7, 8, 9, 10, 13, 14, 15, 32, 33, 34] .leaf))) .leaf)))) .leaf)))))) .leaf)))))
  | 183 => (.seq .leaf (.seq .leaf (.seq (.seq .leaf (.sub none (.loop [1, 5, 7, 16, 17, 18] .leaf))) .leaf)))
  | 186 => (.seq .leaf (.seq .leaf (.seq (.seq .leaf (.sub none (.loop [0, 4, 5, 6, 7, 25, 26] .leaf))) (.seq (.seq .leaf (.sub none (.loop [0, 4, 6, 37, 38] .leaf))) .leaf))))
  | 190 => (.seq .leaf (.seq .leaf (.seq .leaf (.seq .leaf (.seq .leaf (.seq .leaf (.seq .leaf (.seq (.seq .leaf (.sub none (.loop [0, 4, 5, 6] .leaf))) .leaf))))))))
  | 191 => (.seq .leaf (.sub none (.loop [0, 2, 3, 4, 10] .leaf)))
  | 198 => (.seq .leaf (.seq .leaf (.seq (.seq .leaf (.sub none (.loop [1, 3, 5, 7, 11, 12, 13] .leaf))) .leaf)))
  | 203 => .leaf /- live Code.goto -/
  | 206 => (.seq .leaf (.seq .leaf (.seq (.seq .leaf (.sub none (.loop [0, 1, 4, 12, 13] .leaf))) .leaf)))
  | _ => .leaf
noncomputable def Tryz.env : Env := { ty := tyOf Tryz.tab, fn := fnOf Tryz.prog Tryz.fns, hint := Tryz.hint, ext := fun _ => none }
theorem Tryz.envOk : Tryz.env.Ok Tryz.prog := env_ok (by kernel_rfl) (by kernel_rfl) (by kernel_rfl)
theorem Tryz.fnOk (k : Nat) : CallOk Tryz.prog (aFn Tryz.env k) := fn_ok Tryz.envOk extNone k
end Go.Proofs.YtkbdfjlpicflaaaGreatDoor
