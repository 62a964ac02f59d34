/- Printed by gen2.py: Go's types as Lean's; the environment of the propositions. -/
import Derived.Test.YthgfjbafhjkhnaaGreatZwTags
import Derived.Test.YthgfjbafhjkhnaaGreatZEnv
namespace Go.Proofs.YthgfjbafhjkhnaaGreat
open Go Zq
namespace Zv
structure G_api_Thing where
  Card : Int
  Owner : Int
  Place : Int
  Stamp : Int
  Hurt : Int
  Marks : Int × Int × Int × Int
  Done : Int
  Fresh : Bool
abbrev T_G_api_Thing : Tag := ⟨G_api_Thing, true, 11, fun x => [(.int .i64 x.Card), (.int .i64 x.Owner), (.int .u8 x.Place), (.int .i64 x.Stamp), (.int .i64 x.Hurt), (.int .i64 x.Marks.1), (.int .i64 x.Marks.2.1), (.int .i64 x.Marks.2.2.1), (.int .i64 x.Marks.2.2.2), (.int .i64 x.Done), (.bool x.Fresh)], fun cs => match cs with | [.int kc0 c0, .int kc1 c1, .int kc2 c2, .int kc3 c3, .int kc4 c4, .int kc5 c5, .int kc6 c6, .int kc7 c7, .int kc8 c8, .int kc9 c9, .bool c10] => if kc0 = .i64 ∧ kc1 = .i64 ∧ kc2 = .u8 ∧ kc3 = .i64 ∧ kc4 = .i64 ∧ kc5 = .i64 ∧ kc6 = .i64 ∧ kc7 = .i64 ∧ kc8 = .i64 ∧ kc9 = .i64 then some (G_api_Thing.mk c0 c1 c2 c3 c4 (c5, c6, c7, c8) c9 c10) else none | _ => none, fun cs x h => by
  split at h
  · split at h
    · rename_i e
      obtain ⟨rfl, rfl, rfl, rfl, rfl, rfl, rfl, rfl, rfl, rfl⟩ := e
      have h := Option.some.inj h; subst h; rfl
    · cases h
  · cases h⟩
structure G_law17_Op where
  Call : Int
  N : Int
  To : Int
  Owner : Int
  T : G_api_Thing
  L : Sl
abbrev T_G_law17_Op : Tag := ⟨G_law17_Op, true, 16, fun x => [(.int .i64 x.Call), (.int .i64 x.N), (.int .u8 x.To), (.int .i64 x.Owner), (.int .i64 x.T.Card), (.int .i64 x.T.Owner), (.int .u8 x.T.Place), (.int .i64 x.T.Stamp), (.int .i64 x.T.Hurt), (.int .i64 x.T.Marks.1), (.int .i64 x.T.Marks.2.1), (.int .i64 x.T.Marks.2.2.1), (.int .i64 x.T.Marks.2.2.2), (.int .i64 x.T.Done), (.bool x.T.Fresh), (.slice x.L.p x.L.len x.L.cap)], fun cs => match cs with | [.int kc0 c0, .int kc1 c1, .int kc2 c2, .int kc3 c3, .int kc4 c4, .int kc5 c5, .int kc6 c6, .int kc7 c7, .int kc8 c8, .int kc9 c9, .int kc10 c10, .int kc11 c11, .int kc12 c12, .int kc13 c13, .bool c14, .slice c15p c15n c15k] => if kc0 = .i64 ∧ kc1 = .i64 ∧ kc2 = .u8 ∧ kc3 = .i64 ∧ kc4 = .i64 ∧ kc5 = .i64 ∧ kc6 = .u8 ∧ kc7 = .i64 ∧ kc8 = .i64 ∧ kc9 = .i64 ∧ kc10 = .i64 ∧ kc11 = .i64 ∧ kc12 = .i64 ∧ kc13 = .i64 then some (G_law17_Op.mk c0 c1 c2 c3 (G_api_Thing.mk c4 c5 c6 c7 c8 (c9, c10, c11, c12) c13 c14) (Sl.mk c15p c15n c15k)) else none | _ => none, fun cs x h => by
  split at h
  · split at h
    · rename_i e
      obtain ⟨rfl, rfl, rfl, rfl, rfl, rfl, rfl, rfl, rfl, rfl, rfl, rfl, rfl, rfl⟩ := e
      have h := Option.some.inj h; subst h; rfl
    · cases h
  · cases h⟩
abbrev T_arr2_T_sl : Tag := ⟨Sl × Sl, true, 2, fun x => [(.slice x.1.p x.1.len x.1.cap), (.slice x.2.p x.2.len x.2.cap)], fun cs => match cs with | [.slice c0p c0n c0k, .slice c1p c1n c1k] => some ((Sl.mk c0p c0n c0k), (Sl.mk c1p c1n c1k)) | _ => none, fun cs x h => by
  split at h
  · have h := Option.some.inj h; subst h; rfl
  · cases h⟩
abbrev T_arr4_T_int_i64 : Tag := ⟨Int × Int × Int × Int, true, 4, fun x => [(.int .i64 x.1), (.int .i64 x.2.1), (.int .i64 x.2.2.1), (.int .i64 x.2.2.2)], fun cs => match cs with | [.int kc0 c0, .int kc1 c1, .int kc2 c2, .int kc3 c3] => if kc0 = .i64 ∧ kc1 = .i64 ∧ kc2 = .i64 ∧ kc3 = .i64 then some (c0, c1, c2, c3) else none | _ => none, fun cs x h => by
  split at h
  · split at h
    · rename_i e
      obtain ⟨rfl, rfl, rfl, rfl⟩ := e
      have h := Option.some.inj h; subst h; rfl
    · cases h
  · cases h⟩
structure G_law17_World where
  Things : Sl
  Decks : Sl × Sl
  Hands : Sl × Sl
  Stamp : Int
abbrev T_G_law17_World : Tag := ⟨G_law17_World, true, 6, fun x => [(.slice x.Things.p x.Things.len x.Things.cap), (.slice x.Decks.1.p x.Decks.1.len x.Decks.1.cap), (.slice x.Decks.2.p x.Decks.2.len x.Decks.2.cap), (.slice x.Hands.1.p x.Hands.1.len x.Hands.1.cap), (.slice x.Hands.2.p x.Hands.2.len x.Hands.2.cap), (.int .i64 x.Stamp)], fun cs => match cs with | [.slice c0p c0n c0k, .slice c1p c1n c1k, .slice c2p c2n c2k, .slice c3p c3n c3k, .slice c4p c4n c4k, .int kc5 c5] => if kc5 = .i64 then some (G_law17_World.mk (Sl.mk c0p c0n c0k) ((Sl.mk c1p c1n c1k), (Sl.mk c2p c2n c2k)) ((Sl.mk c3p c3n c3k), (Sl.mk c4p c4n c4k)) c5) else none | _ => none, fun cs x h => by
  split at h
  · split at h
    · rename_i e
      subst e
      have h := Option.some.inj h; subst h; rfl
    · cases h
  · cases h⟩
structure G_zone_Zones where
  things : Sl
  decks : Sl × Sl
  hands : Sl × Sl
  stamp : Int
abbrev T_G_zone_Zones : Tag := ⟨G_zone_Zones, true, 6, fun x => [(.slice x.things.p x.things.len x.things.cap), (.slice x.decks.1.p x.decks.1.len x.decks.1.cap), (.slice x.decks.2.p x.decks.2.len x.decks.2.cap), (.slice x.hands.1.p x.hands.1.len x.hands.1.cap), (.slice x.hands.2.p x.hands.2.len x.hands.2.cap), (.int .i64 x.stamp)], fun cs => match cs with | [.slice c0p c0n c0k, .slice c1p c1n c1k, .slice c2p c2n c2k, .slice c3p c3n c3k, .slice c4p c4n c4k, .int kc5 c5] => if kc5 = .i64 then some (G_zone_Zones.mk (Sl.mk c0p c0n c0k) ((Sl.mk c1p c1n c1k), (Sl.mk c2p c2n c2k)) ((Sl.mk c3p c3n c3k), (Sl.mk c4p c4n c4k)) c5) else none | _ => none, fun cs x h => by
  split at h
  · split at h
    · rename_i e
      subst e
      have h := Option.some.inj h; subst h; rfl
    · cases h
  · cases h⟩
structure G_ref17_Zones where
  List : Sl
  Decks : Sl × Sl
  Hands : Sl × Sl
  Next : Int
  Made : Bool
abbrev T_G_ref17_Zones : Tag := ⟨G_ref17_Zones, true, 7, fun x => [(.slice x.List.p x.List.len x.List.cap), (.slice x.Decks.1.p x.Decks.1.len x.Decks.1.cap), (.slice x.Decks.2.p x.Decks.2.len x.Decks.2.cap), (.slice x.Hands.1.p x.Hands.1.len x.Hands.1.cap), (.slice x.Hands.2.p x.Hands.2.len x.Hands.2.cap), (.int .i64 x.Next), (.bool x.Made)], fun cs => match cs with | [.slice c0p c0n c0k, .slice c1p c1n c1k, .slice c2p c2n c2k, .slice c3p c3n c3k, .slice c4p c4n c4k, .int kc5 c5, .bool c6] => if kc5 = .i64 then some (G_ref17_Zones.mk (Sl.mk c0p c0n c0k) ((Sl.mk c1p c1n c1k), (Sl.mk c2p c2n c2k)) ((Sl.mk c3p c3n c3k), (Sl.mk c4p c4n c4k)) c5 c6) else none | _ => none, fun cs x h => by
  split at h
  · split at h
    · rename_i e
      subst e
      have h := Option.some.inj h; subst h; rfl
    · cases h
  · cases h⟩
abbrev T_arr2_T_int_i64 : Tag := ⟨Int × Int, true, 2, fun x => [(.int .i64 x.1), (.int .i64 x.2)], fun cs => match cs with | [.int kc0 c0, .int kc1 c1] => if kc0 = .i64 ∧ kc1 = .i64 then some (c0, c1) else none | _ => none, fun cs x h => by
  split at h
  · split at h
    · rename_i e
      obtain ⟨rfl, rfl⟩ := e
      have h := Option.some.inj h; subst h; rfl
    · cases h
  · cases h⟩
noncomputable abbrev P : Program := Tryz.prog
noncomputable abbrev E : Env := Tryz.env
def tagOf : TypeId → Tag := fun t => match t with
  | 3 => (T_int .i64)
  | 4 => T_bool
  | 5 => (T_int .u8)
  | 9 => T_str
  | 22 => T_sl
  | 23 => T_sl
  | 26 => T_ptr
  | 27 => (T_int .i64)
  | 30 => T_ptr
  | 36 => (T_int .u8)
  | 37 => T_arr4_T_int_i64
  | 39 => T_G_api_Thing
  | 41 => T_G_law17_Op
  | 45 => T_sl
  | 46 => T_arr2_T_sl
  | 48 => T_G_law17_World
  | 59 => T_G_zone_Zones
  | 61 => T_G_ref17_Zones
  | 68 => T_sl
  | 73 => T_sl
  | 77 => T_any
  | 78 => T_any
  | 82 => T_any
  | 83 => T_any
  | 86 => T_ptr
  | 89 => T_map
  | 90 => T_arr2_T_int_i64
  | 92 => T_ptr
  | 97 => (T_int .u64)
  | 99 => T_sl
  | 101 => (T_int .i64)
  | 109 => (T_int .u32)
  | 111 => (T_int .u64)
  | 114 => (T_int .u64)
  | 118 => T_ptr
  | 126 => T_ptr
  | _ => T_any
def resOf : FuncId → List Tag := fun f => match f with
  | 3 => [T_bool]
  | 4 => [T_bool]
  | 5 => [T_bool]
  | 6 => [T_sl]
  | 7 => [T_ptr, (T_int .i64)]
  | 8 => [T_ptr, (T_int .i64)]
  | 9 => [T_bool]
  | 11 => [T_bool]
  | 12 => [(T_int .i64)]
  | 13 => [(T_int .i64)]
  | 14 => [(T_int .i64)]
  | 15 => [(T_int .i64)]
  | 16 => [T_bool]
  | 17 => [T_sl]
  | 18 => [T_ptr, (T_int .i64)]
  | 19 => [T_ptr, (T_int .i64)]
  | 20 => [T_bool]
  | 22 => [T_bool]
  | 23 => [T_sl]
  | 24 => [(T_int .i64)]
  | 25 => [T_sl]
  | 26 => [T_sl]
  | 27 => [(T_int .i64)]
  | 28 => [(T_int .i64), (T_int .i64)]
  | 29 => [(T_int .i64), (T_int .i64)]
  | 30 => [(T_int .i64)]
  | 31 => [(T_int .i64)]
  | 32 => [(T_int .i64)]
  | 33 => [(T_int .i64)]
  | 34 => [T_G_api_Thing, (T_int .i64)]
  | 35 => [T_bool]
  | 36 => [T_bool]
  | 37 => [T_sl]
  | 38 => [T_sl]
  | 39 => [T_sl]
  | 40 => [T_sl]
  | 41 => [T_sl]
  | 42 => [T_sl]
  | 43 => [T_sl]
  | 44 => [T_bool]
  | 45 => [T_sl]
  | 46 => [T_G_api_Thing, (T_int .i64)]
  | 47 => [T_bool]
  | 48 => [T_bool]
  | 49 => [T_sl]
  | 50 => [T_sl]
  | 51 => [T_bool]
  | 52 => [T_sl]
  | 53 => [T_bool]
  | 54 => [T_sl]
  | 55 => [(T_int .i64)]
  | 58 => [(T_int .i64)]
  | 59 => [T_bool]
  | 60 => [(T_int .i64)]
  | 62 => [T_bool]
  | 63 => [T_bool]
  | 64 => [T_bool]
  | 65 => [T_bool]
  | 66 => [T_sl]
  | 67 => [T_any]
  | 68 => [T_bool]
  | 69 => [T_bool]
  | 70 => [T_ptr]
  | 71 => [T_sl]
  | 72 => [T_sl]
  | 73 => [(T_int .i64)]
  | 74 => [T_G_api_Thing]
  | 75 => [T_bool]
  | 76 => [T_bool]
  | 77 => [(T_int .i64)]
  | 78 => [T_G_api_Thing]
  | 80 => [(T_int .i64)]
  | 81 => [T_sl]
  | 82 => [T_G_api_Thing]
  | 83 => [T_sl]
  | 89 => [(T_int .i64), (T_int .i64)]
  | 91 => [T_bool]
  | 92 => [(T_int .i64)]
  | 93 => [(T_int .i64), T_bool]
  | 94 => [(T_int .i64)]
  | 95 => [(T_int .i64)]
  | 96 => [T_sl]
  | 99 => [(T_int .u64)]
  | 100 => [(T_int .u64)]
  | 101 => [(T_int .i64)]
  | 102 => [(T_int .i64)]
  | 106 => [(T_int .i64), (T_int .i64)]
  | 108 => [T_bool]
  | 109 => [T_bool]
  | 110 => [(T_int .i64)]
  | 111 => [(T_int .i64), T_bool]
  | 112 => [(T_int .i64), (T_int .i64)]
  | 114 => [(T_int .i64)]
  | 115 => [(T_int .i64)]
  | 116 => [T_bool]
  | 117 => [(T_int .i64), (T_int .i64)]
  | _ => []
def lkpOf : TypeId → Option Tag := fun t => match t with
  | 89 => some (T_int .i64)
  | _ => none
def rtOf : TypeId → List Tag := fun t => match t with
  | 0 => []
  | 28 => [T_ptr, (T_int .i64)]
  | 31 => [T_ptr, (T_int .i64)]
  | 62 => [(T_int .i64), (T_int .i64)]
  | 66 => [T_G_api_Thing, (T_int .i64)]
  | 102 => [(T_int .i64), (T_int .i64)]
  | 106 => [(T_int .i64), T_bool]
  | 127 => [(T_int .i64), (T_int .i64)]
  | t => [tagOf t]
noncomputable def C : CEnv := { E := E, P := P, tag := tagOf, res := resOf, lkp := lkpOf, rt := rtOf }
theorem hE : C.E.Ok C.P := Tryz.envOk
abbrev n_law17_ZoneCalls : FuncId := 3
abbrev n_law17_ZoneFrom : FuncId := 4
abbrev n_law17_lives : FuncId := 5
abbrev n_kit_LentInts : FuncId := 6
abbrev n_zone_New : FuncId := 7
abbrev n_ref17_New : FuncId := 8
abbrev n_kit_KeptInts : FuncId := 9
abbrev n_kit_OverInts : FuncId := 10
abbrev n_law17_call : FuncId := 11
abbrev n_zone_Zones_Len : FuncId := 12
abbrev n_ref17_Zones_Len : FuncId := 13
abbrev n_zone_Zones_Stamp : FuncId := 14
abbrev n_ref17_Zones_Stamp : FuncId := 15
abbrev n_law17_alike : FuncId := 16
abbrev n_kit_LentThings : FuncId := 17
abbrev n_zone_From : FuncId := 18
abbrev n_ref17_From : FuncId := 19
abbrev n_kit_KeptThings : FuncId := 20
abbrev n_kit_OverThings : FuncId := 21
abbrev n_kit_SameInts : FuncId := 22
abbrev n_zone_Zones_Deck : FuncId := 23
abbrev n_zone_Zones_Move : FuncId := 24
abbrev n_zone_Zones_Table : FuncId := 25
abbrev n_kit_CopyInts : FuncId := 26
abbrev n_ref17_Zones_Move : FuncId := 27
abbrev n_zone_Zones_Make : FuncId := 28
abbrev n_ref17_Zones_Make : FuncId := 29
abbrev n_zone_Zones_Write : FuncId := 30
abbrev n_ref17_Zones_Write : FuncId := 31
abbrev n_zone_Zones_Arrange : FuncId := 32
abbrev n_ref17_Zones_Arrange : FuncId := 33
abbrev n_ref17_Zones_Thing : FuncId := 34
abbrev n_zone_Zones_is : FuncId := 35
abbrev n_ref17_Zones_none : FuncId := 36
abbrev n_ref17_Zones_Table : FuncId := 37
abbrev n_zone_Zones_Hand : FuncId := 38
abbrev n_ref17_Zones_Deck : FuncId := 39
abbrev n_ref17_Zones_Hand : FuncId := 40
abbrev n_zone_Zones_In : FuncId := 41
abbrev n_ref17_Zones_In : FuncId := 42
abbrev n_zone_Zones_Things : FuncId := 43
abbrev n_kit_SameThings : FuncId := 44
abbrev n_ref17_Zones_Things : FuncId := 45
abbrev n_zone_Zones_Thing : FuncId := 46
abbrev n_kit_ApartInts : FuncId := 47
abbrev n_kit_ApartThings : FuncId := 48
abbrev n_slices_Clone_api_Thing_api_Thing : FuncId := 49
abbrev n_slices_Clone_int_int : FuncId := 50
abbrev n_zone_Zones_sound : FuncId := 51
abbrev n_ref17_ints : FuncId := 52
abbrev n_ref17_Zones_Sound : FuncId := 53
abbrev n_kit_CopyThings : FuncId := 54
abbrev n_zone_Zones_owned : FuncId := 55
abbrev n_zone_Zones_come : FuncId := 56
abbrev n_slices_SortFunc_int_int : FuncId := 57
abbrev n_zone_Zones_Table_1 : FuncId := 58
abbrev n_ref17_Zones_there : FuncId := 59
abbrev n_ref17_Zones_owned : FuncId := 60
abbrev n_ref17_Zones_come : FuncId := 61
abbrev n_zone_player : FuncId := 62
abbrev n_ref17_owner : FuncId := 63
abbrev n_zone_marks : FuncId := 64
abbrev n_ref17_marked : FuncId := 65
abbrev n_slices_Sorted_int : FuncId := 66
abbrev n_slices_Values_int_int : FuncId := 67
abbrev n_slices_Equal_int_int : FuncId := 68
abbrev n_ref17_Zones_holds : FuncId := 69
abbrev n_zone_Zones_list : FuncId := 70
abbrev n_zone_told_int : FuncId := 71
abbrev n_zone_told_api_Thing : FuncId := 72
abbrev n_kit_markInts : FuncId := 73
abbrev n_kit_markThings : FuncId := 74
abbrev n_zone_Zones_thing : FuncId := 75
abbrev n_ref17_alone : FuncId := 76
abbrev n_slices_Index_int_int : FuncId := 77
abbrev n_zone_home : FuncId := 78
abbrev n_slices_pdqsortCmpFunc_int : FuncId := 79
abbrev n_math_bits_Len : FuncId := 80
abbrev n_ref17_without : FuncId := 81
abbrev n_ref17_home : FuncId := 82
abbrev n_slices_Collect_int : FuncId := 83
abbrev n_slices_Sort_int_int : FuncId := 84
abbrev n_slices_Values_int_int_1 : FuncId := 85
abbrev n_slices_insertionSortCmpFunc_int : FuncId := 86
abbrev n_slices_heapSortCmpFunc_int : FuncId := 87
abbrev n_slices_breakPatternsCmpFunc_int : FuncId := 88
abbrev n_slices_choosePivotCmpFunc_int : FuncId := 89
abbrev n_slices_reverseRangeCmpFunc_int : FuncId := 90
abbrev n_slices_partialInsertionSortCmpFunc_int : FuncId := 91
abbrev n_slices_partitionEqualCmpFunc_int : FuncId := 92
abbrev n_slices_partitionCmpFunc_int : FuncId := 93
abbrev n_math_bits_Len32 : FuncId := 94
abbrev n_math_bits_Len64 : FuncId := 95
abbrev n_slices_AppendSeq_int_int : FuncId := 96
abbrev n_slices_pdqsortOrdered_int : FuncId := 97
abbrev n_slices_siftDownCmpFunc_int : FuncId := 98
abbrev n_slices_nextPowerOfTwo : FuncId := 99
abbrev n_slices_xorshift_Next : FuncId := 100
abbrev n_slices_medianAdjacentCmpFunc_int : FuncId := 101
abbrev n_slices_medianCmpFunc_int : FuncId := 102
abbrev n_slices_insertionSortOrdered_int : FuncId := 103
abbrev n_slices_heapSortOrdered_int : FuncId := 104
abbrev n_slices_breakPatternsOrdered_int : FuncId := 105
abbrev n_slices_choosePivotOrdered_int : FuncId := 106
abbrev n_slices_reverseRangeOrdered_int : FuncId := 107
abbrev n_slices_partialInsertionSortOrdered_int : FuncId := 108
abbrev n_cmp_Less_int : FuncId := 109
abbrev n_slices_partitionEqualOrdered_int : FuncId := 110
abbrev n_slices_partitionOrdered_int : FuncId := 111
abbrev n_slices_order2CmpFunc_int : FuncId := 112
abbrev n_slices_siftDownOrdered_int : FuncId := 113
abbrev n_slices_medianAdjacentOrdered_int : FuncId := 114
abbrev n_slices_medianOrdered_int : FuncId := 115
abbrev n_cmp_isNaN_int : FuncId := 116
abbrev n_slices_order2Ordered_int : FuncId := 117
abbrev n_api_Errno_Error : FuncId := 133
end Zv
end Go.Proofs.YthgfjbafhjkhnaaGreat
