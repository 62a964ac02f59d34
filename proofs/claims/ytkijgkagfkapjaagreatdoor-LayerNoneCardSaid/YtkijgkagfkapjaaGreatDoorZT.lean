/- Printed by gen2.py: Go's types as Lean's; the environment of the propositions. -/
import Derived.Test.YtkijgkagfkapjaaGreatDoorZwTags
import Derived.Test.YtkijgkagfkapjaaGreatDoorZEnv
namespace Go.Proofs.YtkijgkagfkapjaaGreatDoor
open Go Zq
namespace Zv
structure G_law19_Table where
  Things : Sl
  Fs : Sl
def T_G_law19_Table : Tag := ⟨G_law19_Table, true, 2, fun x => [(.slice x.Things.p x.Things.len x.Things.cap), (.slice x.Fs.p x.Fs.len x.Fs.cap)], fun cs => match cs with | [.slice c0p c0n c0k, .slice c1p c1n c1k] => some (G_law19_Table.mk (Sl.mk c0p c0n c0k) (Sl.mk c1p c1n c1k)) | _ => none, fun cs x h => by
  split at h
  · have h := Option.some.inj h; subst h; rfl
  · cases h⟩
structure G_api_Part where
  When : Int
  Verb : Int
  Whom : Int
  Count : Int
  Suit : Int
  Trait : Int
  Mark : Int
  Name : ByteArray
def T_G_api_Part : Tag := ⟨G_api_Part, true, 8, fun x => [(.int .u8 x.When), (.int .u8 x.Verb), (.int .u8 x.Whom), (.int .i64 x.Count), (.int .u8 x.Suit), (.int .u8 x.Trait), (.int .u8 x.Mark), (.string x.Name)], fun cs => match cs with | [.int kc0 c0, .int kc1 c1, .int kc2 c2, .int kc3 c3, .int kc4 c4, .int kc5 c5, .int kc6 c6, .string c7] => if kc0 = .u8 ∧ kc1 = .u8 ∧ kc2 = .u8 ∧ kc3 = .i64 ∧ kc4 = .u8 ∧ kc5 = .u8 ∧ kc6 = .u8 then some (G_api_Part.mk c0 c1 c2 c3 c4 c5 c6 c7) else none | _ => none, fun cs x h => by
  split at h
  · split at h
    · rename_i e
      obtain ⟨rfl, rfl, rfl, rfl, rfl, rfl, rfl⟩ := e
      have h := Option.some.inj h; subst h; rfl
    · cases h
  · cases h⟩
structure G_api_Standing where
  Thing : Int
  Place : Int
  What : G_api_Part
def T_G_api_Standing : Tag := ⟨G_api_Standing, true, 10, fun x => [(.int .i64 x.Thing), (.int .i64 x.Place), (.int .u8 x.What.When), (.int .u8 x.What.Verb), (.int .u8 x.What.Whom), (.int .i64 x.What.Count), (.int .u8 x.What.Suit), (.int .u8 x.What.Trait), (.int .u8 x.What.Mark), (.string x.What.Name)], fun cs => match cs with | [.int kc0 c0, .int kc1 c1, .int kc2 c2, .int kc3 c3, .int kc4 c4, .int kc5 c5, .int kc6 c6, .int kc7 c7, .int kc8 c8, .string c9] => if kc0 = .i64 ∧ kc1 = .i64 ∧ kc2 = .u8 ∧ kc3 = .u8 ∧ kc4 = .u8 ∧ kc5 = .i64 ∧ kc6 = .u8 ∧ kc7 = .u8 ∧ kc8 = .u8 then some (G_api_Standing.mk c0 c1 (G_api_Part.mk c2 c3 c4 c5 c6 c7 c8 c9)) else none | _ => none, fun cs x h => by
  split at h
  · split at h
    · rename_i e
      obtain ⟨rfl, rfl, rfl, rfl, rfl, rfl, rfl, rfl, rfl⟩ := e
      have h := Option.some.inj h; subst h; rfl
    · cases h
  · cases h⟩
structure G_layer_place where
  b : Option Addr
  things : Sl
  cards : Sl
  order : Sl
def T_G_layer_place : Tag := ⟨G_layer_place, true, 4, fun x => [(.pointer x.b), (.slice x.things.p x.things.len x.things.cap), (.slice x.cards.p x.cards.len x.cards.cap), (.slice x.order.p x.order.len x.order.cap)], fun cs => match cs with | [.pointer c0, .slice c1p c1n c1k, .slice c2p c2n c2k, .slice c3p c3n c3k] => some (G_layer_place.mk c0 (Sl.mk c1p c1n c1k) (Sl.mk c2p c2n c2k) (Sl.mk c3p c3n c3k)) | _ => none, fun cs x h => by
  split at h
  · have h := Option.some.inj h; subst h; rfl
  · cases h⟩
structure G_api_Thing where
  Card : Int
  Owner : Int
  Place : Int
  Stamp : Int
  Hurt : Int
  Marks : Int × Int × Int × Int
  Done : Int
  Fresh : Bool
def T_G_api_Thing : Tag := ⟨G_api_Thing, true, 11, fun x => [(.int .i64 x.Card), (.int .i64 x.Owner), (.int .u8 x.Place), (.int .i64 x.Stamp), (.int .i64 x.Hurt), (.int .i64 x.Marks.1), (.int .i64 x.Marks.2.1), (.int .i64 x.Marks.2.2.1), (.int .i64 x.Marks.2.2.2), (.int .i64 x.Done), (.bool x.Fresh)], fun cs => match cs with | [.int kc0 c0, .int kc1 c1, .int kc2 c2, .int kc3 c3, .int kc4 c4, .int kc5 c5, .int kc6 c6, .int kc7 c7, .int kc8 c8, .int kc9 c9, .bool c10] => if kc0 = .i64 ∧ kc1 = .i64 ∧ kc2 = .u8 ∧ kc3 = .i64 ∧ kc4 = .i64 ∧ kc5 = .i64 ∧ kc6 = .i64 ∧ kc7 = .i64 ∧ kc8 = .i64 ∧ kc9 = .i64 then some (G_api_Thing.mk c0 c1 c2 c3 c4 (c5, c6, c7, c8) c9 c10) else none | _ => none, fun cs x h => by
  split at h
  · split at h
    · rename_i e
      obtain ⟨rfl, rfl, rfl, rfl, rfl, rfl, rfl, rfl, rfl, rfl⟩ := e
      have h := Option.some.inj h; subst h; rfl
    · cases h
  · cases h⟩
structure G_api_Card where
  Name : ByteArray
  Suit : Int
  Kind : Int
  Cost : Int
  Power : Int
  Health : Int
  Traits : Int
  Token : Bool
  Parts : Sl
def T_G_api_Card : Tag := ⟨G_api_Card, true, 9, fun x => [(.string x.Name), (.int .u8 x.Suit), (.int .u8 x.Kind), (.int .i64 x.Cost), (.int .i64 x.Power), (.int .i64 x.Health), (.int .u16 x.Traits), (.bool x.Token), (.slice x.Parts.p x.Parts.len x.Parts.cap)], fun cs => match cs with | [.string c0, .int kc1 c1, .int kc2 c2, .int kc3 c3, .int kc4 c4, .int kc5 c5, .int kc6 c6, .bool c7, .slice c8p c8n c8k] => if kc1 = .u8 ∧ kc2 = .u8 ∧ kc3 = .i64 ∧ kc4 = .i64 ∧ kc5 = .i64 ∧ kc6 = .u16 then some (G_api_Card.mk c0 c1 c2 c3 c4 c5 c6 c7 (Sl.mk c8p c8n c8k)) else none | _ => none, fun cs x h => by
  split at h
  · split at h
    · rename_i e
      obtain ⟨rfl, rfl, rfl, rfl, rfl, rfl⟩ := e
      have h := Option.some.inj h; subst h; rfl
    · cases h
  · cases h⟩
structure G_api_Feature where
  Holder : Int
  Suit : Int
  Traits : Int
  Power : Int
  Health : Int
def T_G_api_Feature : Tag := ⟨G_api_Feature, true, 5, fun x => [(.int .i64 x.Holder), (.int .u8 x.Suit), (.int .u16 x.Traits), (.int .i64 x.Power), (.int .i64 x.Health)], fun cs => match cs with | [.int kc0 c0, .int kc1 c1, .int kc2 c2, .int kc3 c3, .int kc4 c4] => if kc0 = .i64 ∧ kc1 = .u8 ∧ kc2 = .u16 ∧ kc3 = .i64 ∧ kc4 = .i64 then some (G_api_Feature.mk c0 c1 c2 c3 c4) else none | _ => none, fun cs x h => by
  split at h
  · split at h
    · rename_i e
      obtain ⟨rfl, rfl, rfl, rfl, rfl⟩ := e
      have h := Option.some.inj h; subst h; rfl
    · cases h
  · cases h⟩
structure G_api_MarkInfo where
  Mark : Int
  Name : ByteArray
  Power : Int
  Health : Int
def T_G_api_MarkInfo : Tag := ⟨G_api_MarkInfo, true, 4, fun x => [(.int .u8 x.Mark), (.string x.Name), (.int .i64 x.Power), (.int .i64 x.Health)], fun cs => match cs with | [.int kc0 c0, .string c1, .int kc2 c2, .int kc3 c3] => if kc0 = .u8 ∧ kc2 = .i64 ∧ kc3 = .i64 then some (G_api_MarkInfo.mk c0 c1 c2 c3) else none | _ => none, fun cs x h => by
  split at h
  · split at h
    · rename_i e
      obtain ⟨rfl, rfl, rfl⟩ := e
      have h := Option.some.inj h; subst h; rfl
    · cases h
  · cases h⟩
structure G_ref07_Book where
  Made : Bool
  Shut : Bool
  List : Sl
  Names : ByteArray × ByteArray × ByteArray × ByteArray × ByteArray × ByteArray × ByteArray × ByteArray × ByteArray
  Marked : G_api_MarkInfo × G_api_MarkInfo × G_api_MarkInfo × G_api_MarkInfo × G_api_MarkInfo
def T_G_ref07_Book : Tag := ⟨G_ref07_Book, true, 32, fun x => [(.bool x.Made), (.bool x.Shut), (.slice x.List.p x.List.len x.List.cap), (.string x.Names.1), (.string x.Names.2.1), (.string x.Names.2.2.1), (.string x.Names.2.2.2.1), (.string x.Names.2.2.2.2.1), (.string x.Names.2.2.2.2.2.1), (.string x.Names.2.2.2.2.2.2.1), (.string x.Names.2.2.2.2.2.2.2.1), (.string x.Names.2.2.2.2.2.2.2.2), (.int .u8 x.Marked.1.Mark), (.string x.Marked.1.Name), (.int .i64 x.Marked.1.Power), (.int .i64 x.Marked.1.Health), (.int .u8 x.Marked.2.1.Mark), (.string x.Marked.2.1.Name), (.int .i64 x.Marked.2.1.Power), (.int .i64 x.Marked.2.1.Health), (.int .u8 x.Marked.2.2.1.Mark), (.string x.Marked.2.2.1.Name), (.int .i64 x.Marked.2.2.1.Power), (.int .i64 x.Marked.2.2.1.Health), (.int .u8 x.Marked.2.2.2.1.Mark), (.string x.Marked.2.2.2.1.Name), (.int .i64 x.Marked.2.2.2.1.Power), (.int .i64 x.Marked.2.2.2.1.Health), (.int .u8 x.Marked.2.2.2.2.Mark), (.string x.Marked.2.2.2.2.Name), (.int .i64 x.Marked.2.2.2.2.Power), (.int .i64 x.Marked.2.2.2.2.Health)], fun cs => match cs with | [.bool c0, .bool c1, .slice c2p c2n c2k, .string c3, .string c4, .string c5, .string c6, .string c7, .string c8, .string c9, .string c10, .string c11, .int kc12 c12, .string c13, .int kc14 c14, .int kc15 c15, .int kc16 c16, .string c17, .int kc18 c18, .int kc19 c19, .int kc20 c20, .string c21, .int kc22 c22, .int kc23 c23, .int kc24 c24, .string c25, .int kc26 c26, .int kc27 c27, .int kc28 c28, .string c29, .int kc30 c30, .int kc31 c31] => if kc12 = .u8 ∧ kc14 = .i64 ∧ kc15 = .i64 ∧ kc16 = .u8 ∧ kc18 = .i64 ∧ kc19 = .i64 ∧ kc20 = .u8 ∧ kc22 = .i64 ∧ kc23 = .i64 ∧ kc24 = .u8 ∧ kc26 = .i64 ∧ kc27 = .i64 ∧ kc28 = .u8 ∧ kc30 = .i64 ∧ kc31 = .i64 then some (G_ref07_Book.mk c0 c1 (Sl.mk c2p c2n c2k) (c3, c4, c5, c6, c7, c8, c9, c10, c11) ((G_api_MarkInfo.mk c12 c13 c14 c15), (G_api_MarkInfo.mk c16 c17 c18 c19), (G_api_MarkInfo.mk c20 c21 c22 c23), (G_api_MarkInfo.mk c24 c25 c26 c27), (G_api_MarkInfo.mk c28 c29 c30 c31))) else none | _ => none, fun cs x h => by
  split at h
  · split at h
    · rename_i e
      obtain ⟨rfl, rfl, rfl, rfl, rfl, rfl, rfl, rfl, rfl, rfl, rfl, rfl, rfl, rfl, rfl⟩ := e
      have h := Option.some.inj h; subst h; rfl
    · cases h
  · cases h⟩
noncomputable abbrev P : Program := Tryz.prog
noncomputable abbrev E : Env := Tryz.env
def tagOf : TypeId → Tag := fun t => match t with
  | 3 => (T_int .i64)
  | 4 => T_bool
  | 9 => T_str
  | 22 => T_sl
  | 26 => T_sl
  | 27 => T_sl
  | 29 => T_G_law19_Table
  | 32 => T_ptr
  | 33 => T_ptr
  | 36 => T_any
  | 38 => (T_int .u8)
  | 41 => T_G_api_Thing
  | 42 => T_sl
  | 43 => (T_int .i64)
  | 57 => (T_int .u16)
  | 59 => T_G_api_Feature
  | 70 => T_G_api_Standing
  | 73 => T_sl
  | 81 => (T_int .u8)
  | 84 => T_G_api_Card
  | 117 => T_G_layer_place
  | 145 => T_G_ref07_Book
  | _ => T_any
def resOf : FuncId → List Tag := fun f => match f with
  | 3 => [T_bool]
  | 4 => [T_bool]
  | 5 => [T_bool]
  | 6 => [T_bool]
  | 7 => [T_bool]
  | 8 => [T_bool]
  | 9 => [T_bool]
  | 10 => [T_bool]
  | 11 => [T_bool]
  | 12 => [T_ptr, T_ptr, T_bool]
  | 13 => [(T_int .i64)]
  | 14 => [T_sl]
  | 15 => [T_sl, T_sl, (T_int .i64)]
  | 16 => [T_bool]
  | 17 => [T_bool]
  | 18 => [T_ptr, T_G_law19_Table]
  | 19 => [T_sl, (T_int .i64)]
  | 20 => [(T_int .i64), (T_int .i64)]
  | 21 => [T_bool, (T_int .i64)]
  | 22 => [(T_int .i64), (T_int .i64)]
  | 23 => [T_ptr]
  | 24 => [T_bool]
  | 25 => [T_sl, (T_int .i64)]
  | 26 => [T_sl, (T_int .i64)]
  | 27 => [T_G_api_Feature]
  | 28 => [T_bool]
  | 29 => [T_sl]
  | 30 => [(T_int .i64)]
  | 31 => [T_sl]
  | 32 => [T_sl]
  | 33 => [T_sl]
  | 34 => [T_sl]
  | 35 => [(T_int .i64), (T_int .i64)]
  | 36 => [T_sl, (T_int .i64)]
  | 37 => [T_sl, T_sl, (T_int .i64)]
  | 38 => [T_sl]
  | 39 => [T_sl, T_sl, T_bool]
  | 40 => [T_bool]
  | 41 => [T_bool]
  | 42 => [T_bool]
  | 43 => [T_bool]
  | 44 => [T_bool]
  | 45 => [T_bool]
  | 46 => [T_ptr]
  | 47 => [(T_int .i64)]
  | 48 => [T_G_api_Card]
  | 49 => [(T_int .i64)]
  | 50 => [(T_int .i64)]
  | 51 => [(T_int .i64)]
  | 52 => [(T_int .i64)]
  | 53 => [(T_int .i64)]
  | 54 => [T_bool]
  | 55 => [T_bool]
  | 56 => [T_G_layer_place, (T_int .i64)]
  | 57 => [T_sl]
  | 58 => [(T_int .i64)]
  | 59 => [T_sl]
  | 60 => [T_sl]
  | 61 => [T_sl]
  | 62 => [T_G_api_Card, (T_int .i64)]
  | 63 => [T_sl]
  | 64 => [T_bool]
  | 65 => [(T_int .i64)]
  | 66 => [T_bool]
  | 67 => [T_bool]
  | 68 => [T_bool]
  | 69 => [T_sl]
  | 70 => [(T_int .u16)]
  | 71 => [(T_int .u16)]
  | 72 => [(T_int .i64)]
  | 73 => [T_bool]
  | 74 => [(T_int .i64)]
  | 75 => [T_sl]
  | 76 => [T_sl]
  | 77 => [T_sl, (T_int .i64)]
  | 78 => [T_sl, (T_int .i64)]
  | 79 => [T_bool, (T_int .i64)]
  | 80 => [T_bool]
  | 81 => [T_bool]
  | 82 => [(T_int .i64)]
  | 83 => [T_G_api_Feature]
  | 84 => [T_G_api_Standing]
  | 85 => [(T_int .i64)]
  | 86 => [(T_int .i64)]
  | 87 => [T_bool]
  | 88 => [T_G_api_Card]
  | 89 => [T_sl]
  | 90 => [T_bool]
  | 91 => [(T_int .i64)]
  | 92 => [(T_int .i64)]
  | 93 => [T_bool]
  | 94 => [T_G_api_Card]
  | 95 => [T_bool]
  | 96 => [T_bool]
  | 97 => [T_bool]
  | 98 => [T_G_api_Card, (T_int .i64)]
  | 99 => [T_bool]
  | 101 => [(T_int .i64)]
  | 102 => [T_bool]
  | 103 => [T_bool]
  | 104 => [T_bool]
  | 105 => [T_bool]
  | 106 => [T_bool]
  | 107 => [(T_int .u16)]
  | 108 => [T_bool]
  | 109 => [T_bool]
  | 110 => [(T_int .i64)]
  | 111 => [T_bool]
  | 112 => [T_bool]
  | 113 => [T_sl]
  | 114 => [T_bool]
  | 115 => [T_G_api_Card, (T_int .i64)]
  | 116 => [T_sl]
  | 117 => [T_G_api_Feature]
  | 118 => [(T_int .i64)]
  | 119 => [(T_int .i64)]
  | 120 => [T_bool]
  | 121 => [T_bool]
  | 122 => [T_bool]
  | 123 => [(T_int .i64)]
  | 125 => [(T_int .i64)]
  | 126 => [T_bool]
  | 127 => [T_bool]
  | 128 => [T_bool]
  | 129 => [(T_int .u16)]
  | 130 => [T_bool]
  | 131 => [(T_int .u16)]
  | 132 => [(T_int .u16)]
  | 133 => [T_bool]
  | 134 => [T_str]
  | 135 => [T_str]
  | 136 => [T_bool]
  | 137 => [T_bool, T_bool, T_bool, T_bool, T_bool]
  | 138 => [(T_int .i64), (T_int .i64), T_bool]
  | 139 => [T_bool]
  | 140 => [T_bool]
  | 141 => [T_bool]
  | 142 => [T_bool]
  | 143 => [T_bool]
  | 144 => [T_bool]
  | 145 => [T_bool]
  | 146 => [T_bool, T_bool, T_bool, T_bool, T_bool]
  | 147 => [(T_int .i64)]
  | 148 => [(T_int .i64)]
  | 149 => [T_bool]
  | 150 => [T_bool]
  | 151 => [T_bool]
  | 152 => [T_bool]
  | 156 => [(T_int .i64), (T_int .i64)]
  | 158 => [T_bool]
  | 159 => [(T_int .i64)]
  | 160 => [(T_int .i64), T_bool]
  | 161 => [(T_int .i64)]
  | 162 => [(T_int .i64)]
  | 163 => [T_bool]
  | 164 => [T_str]
  | 165 => [T_bool]
  | 166 => [T_bool]
  | 167 => [T_bool]
  | 168 => [(T_int .i64), (T_int .i64)]
  | 170 => [(T_int .u64)]
  | 171 => [(T_int .u64)]
  | 172 => [(T_int .i64)]
  | 173 => [(T_int .i64)]
  | 174 => [T_str]
  | 175 => [T_str]
  | 177 => [T_str]
  | 178 => [T_str]
  | 179 => [T_str]
  | 180 => [T_str]
  | 181 => [(T_int .i64), (T_int .i64)]
  | 182 => [T_bool]
  | 183 => [(T_int .i32), (T_int .i64)]
  | 184 => [T_bool]
  | 185 => [(T_int .i32), (T_int .i64)]
  | 186 => [(T_int .i32), (T_int .i64)]
  | 187 => [(T_int .i64)]
  | 188 => [T_bool]
  | 189 => [(T_int .i64)]
  | 190 => [T_bool]
  | _ => []
def lkpOf : TypeId → Option Tag := fun t => match t with
  | _ => none
def rtOf : TypeId → List Tag := fun t => match t with
  | 0 => []
  | 34 => [T_ptr, T_ptr, T_bool]
  | 44 => [T_sl, T_sl, (T_int .i64)]
  | 49 => [T_ptr, T_G_law19_Table]
  | 51 => [T_sl, (T_int .i64)]
  | 53 => [(T_int .i64), (T_int .i64)]
  | 60 => [T_bool, (T_int .i64)]
  | 74 => [T_sl, (T_int .i64)]
  | 76 => [T_sl, (T_int .i64)]
  | 103 => [T_sl, T_sl, T_bool]
  | 118 => [T_G_layer_place, (T_int .i64)]
  | 124 => [T_G_api_Card, (T_int .i64)]
  | 175 => [T_bool, T_bool, T_bool, T_bool, T_bool]
  | 177 => [(T_int .i64), (T_int .i64), T_bool]
  | 189 => [(T_int .i64), (T_int .i64)]
  | 193 => [(T_int .i64), T_bool]
  | 202 => [(T_int .i64), (T_int .i64)]
  | 220 => [(T_int .i32), (T_int .i64)]
  | t => [tagOf t]
noncomputable def C : CEnv := { E := E, P := P, tag := tagOf, res := resOf, lkp := lkpOf, rt := rtOf }
theorem hE : C.E.Ok C.P := Tryz.envOk
abbrev n_law19_LayerStamps : FuncId := 3
abbrev n_law19_LayerKnown : FuncId := 4
abbrev n_law19_LayerApplies : FuncId := 5
abbrev n_law19_LayerNone : FuncId := 6
abbrev n_law19_LayerOnce : FuncId := 7
abbrev n_law19_LayerRaises : FuncId := 8
abbrev n_law19_LayerAll : FuncId := 9
abbrev n_law19_awake : FuncId := 10
abbrev n_law19_heavy : FuncId := 11
abbrev n_kit_Books : FuncId := 12
abbrev n_kit_Pick : FuncId := 13
abbrev n_kit_CopyThings : FuncId := 14
abbrev n_layer_All : FuncId := 15
abbrev n_kit_SameFeatures : FuncId := 16
abbrev n_kit_SameStandings : FuncId := 17
abbrev n_law19_example : FuncId := 18
abbrev n_layer_Effects : FuncId := 19
abbrev n_book_Book_Find : FuncId := 20
abbrev n_layer_Depends : FuncId := 21
abbrev n_layer_Next : FuncId := 22
abbrev n_book_New : FuncId := 23
abbrev n_law19_hangs : FuncId := 24
abbrev n_layer_About : FuncId := 25
abbrev n_layer_Apply : FuncId := 26
abbrev n_law19_changed : FuncId := 27
abbrev n_law19_none : FuncId := 28
abbrev n_kit_CopyFeatures : FuncId := 29
abbrev n_effect_Layer : FuncId := 30
abbrev n_law19_gone : FuncId := 31
abbrev n_kit_LentThings : FuncId := 32
abbrev n_kit_LentFeatures : FuncId := 33
abbrev n_kit_LentStandings : FuncId := 34
abbrev n_ref19_Next : FuncId := 35
abbrev n_ref19_Effects : FuncId := 36
abbrev n_ref19_All : FuncId := 37
abbrev n_kit_CopyStandings : FuncId := 38
abbrev n_law19_asked : FuncId := 39
abbrev n_kit_KeptThings : FuncId := 40
abbrev n_kit_KeptFeatures : FuncId := 41
abbrev n_kit_KeptStandings : FuncId := 42
abbrev n_kit_ApartInts : FuncId := 43
abbrev n_kit_ApartFeatures : FuncId := 44
abbrev n_kit_ApartStandings : FuncId := 45
abbrev n_ref07_New : FuncId := 46
abbrev n_book_Book_Card : FuncId := 47
abbrev n_kit_CopyCard : FuncId := 48
abbrev n_ref07_Book_Card : FuncId := 49
abbrev n_book_Book_Mark : FuncId := 50
abbrev n_ref07_Book_Mark : FuncId := 51
abbrev n_book_Book_Seal : FuncId := 52
abbrev n_ref07_Book_Seal : FuncId := 53
abbrev n_book_Book_Sealed : FuncId := 54
abbrev n_ref07_Book_Sealed : FuncId := 55
abbrev n_layer_setup : FuncId := 56
abbrev n_slices_Clone_api_Feature_api_Feature : FuncId := 57
abbrev n_layer_place_next : FuncId := 58
abbrev n_layer_place_apply : FuncId := 59
abbrev n_slices_Delete_api_Standing_api_Standing : FuncId := 60
abbrev n_slices_Clone_api_Standing_api_Standing : FuncId := 61
abbrev n_book_Book_At : FuncId := 62
abbrev n_layer_place_effects : FuncId := 63
abbrev n_book_Book_none : FuncId := 64
abbrev n_book_Book_place : FuncId := 65
abbrev n_layer_place_listed : FuncId := 66
abbrev n_layer_place_depends : FuncId := 67
abbrev n_layer_place_may : FuncId := 68
abbrev n_layer_place_about : FuncId := 69
abbrev n_trait_With : FuncId := 70
abbrev n_trait_Without : FuncId := 71
abbrev n_ref19_wrong : FuncId := 72
abbrev n_ref19_listed : FuncId := 73
abbrev n_ref19_next : FuncId := 74
abbrev n_ref19_effects : FuncId := 75
abbrev n_ref19_apply : FuncId := 76
abbrev n_ref19_About : FuncId := 77
abbrev n_ref19_Apply : FuncId := 78
abbrev n_ref19_Depends : FuncId := 79
abbrev n_kit_SameInts : FuncId := 80
abbrev n_kit_SameThings : FuncId := 81
abbrev n_kit_markInts : FuncId := 82
abbrev n_kit_markFeatures : FuncId := 83
abbrev n_kit_markStandings : FuncId := 84
abbrev n_book_Book_shut : FuncId := 85
abbrev n_card_Check : FuncId := 86
abbrev n_book_ahead : FuncId := 87
abbrev n_card_Copy : FuncId := 88
abbrev n_kit_CopyParts : FuncId := 89
abbrev n_ref07_Book_None : FuncId := 90
abbrev n_ref06_Check : FuncId := 91
abbrev n_ref07_Book_place : FuncId := 92
abbrev n_ref07_Ahead : FuncId := 93
abbrev n_ref06_Copy : FuncId := 94
abbrev n_book_within : FuncId := 95
abbrev n_book_name : FuncId := 96
abbrev n_ref07_Name : FuncId := 97
abbrev n_thing_Card : FuncId := 98
abbrev n_trait_Check : FuncId := 99
abbrev n_slices_SortFunc_int_int : FuncId := 100
abbrev n_layer_setup_1 : FuncId := 101
abbrev n_layer_place_ahead : FuncId := 102
abbrev n_trait_Has : FuncId := 103
abbrev n_slices_Equal_int_int : FuncId := 104
abbrev n_effect_Same : FuncId := 105
abbrev n_layer_place_means : FuncId := 106
abbrev n_trait_bit : FuncId := 107
abbrev n_ref19_Together : FuncId := 108
abbrev n_ref19_may : FuncId := 109
abbrev n_ref05_Layer : FuncId := 110
abbrev n_ref19_ahead : FuncId := 111
abbrev n_ref19_depends : FuncId := 112
abbrev n_ref19_order : FuncId := 113
abbrev n_ref04_Has : FuncId := 114
abbrev n_ref07_Book_At : FuncId := 115
abbrev n_ref19_about : FuncId := 116
abbrev n_ref19_done : FuncId := 117
abbrev n_card_face : FuncId := 118
abbrev n_effect_Check : FuncId := 119
abbrev n_ref06_NameMay : FuncId := 120
abbrev n_ref06_within : FuncId := 121
abbrev n_ref04_Check : FuncId := 122
abbrev n_ref05_Check : FuncId := 123
abbrev n_slices_pdqsortCmpFunc_int : FuncId := 124
abbrev n_math_bits_Len : FuncId := 125
abbrev n_trait_is : FuncId := 126
abbrev n_ref05_Same : FuncId := 127
abbrev n_ref19_same : FuncId := 128
abbrev n_ref04_bit : FuncId := 129
abbrev n_ref19_meant : FuncId := 130
abbrev n_ref04_With : FuncId := 131
abbrev n_ref04_Without : FuncId := 132
abbrev n_card_named : FuncId := 133
abbrev n_suit_Name : FuncId := 134
abbrev n_card_word : FuncId := 135
abbrev n_card_within : FuncId := 136
abbrev n_effect_Uses : FuncId := 137
abbrev n_effect_bounds : FuncId := 138
abbrev n_effect_wanted : FuncId := 139
abbrev n_effect_about : FuncId := 140
abbrev n_effect_within_int : FuncId := 141
abbrev n_effect_within_api_Suit : FuncId := 142
abbrev n_effect_within_api_Trait : FuncId := 143
abbrev n_effect_within_api_Mark : FuncId := 144
abbrev n_effect_name : FuncId := 145
abbrev n_ref05_Uses : FuncId := 146
abbrev n_ref05_kind : FuncId := 147
abbrev n_ref05_wants : FuncId := 148
abbrev n_ref05_about : FuncId := 149
abbrev n_ref05_counted : FuncId := 150
abbrev n_ref05_within : FuncId := 151
abbrev n_ref05_Name : FuncId := 152
abbrev n_slices_insertionSortCmpFunc_int : FuncId := 153
abbrev n_slices_heapSortCmpFunc_int : FuncId := 154
abbrev n_slices_breakPatternsCmpFunc_int : FuncId := 155
abbrev n_slices_choosePivotCmpFunc_int : FuncId := 156
abbrev n_slices_reverseRangeCmpFunc_int : FuncId := 157
abbrev n_slices_partialInsertionSortCmpFunc_int : FuncId := 158
abbrev n_slices_partitionEqualCmpFunc_int : FuncId := 159
abbrev n_slices_partitionCmpFunc_int : FuncId := 160
abbrev n_math_bits_Len32 : FuncId := 161
abbrev n_math_bits_Len64 : FuncId := 162
abbrev n_ref19_unit : FuncId := 163
abbrev n_strings_Trim : FuncId := 164
abbrev n_effect_standing : FuncId := 165
abbrev n_effect_swapping : FuncId := 166
abbrev n_effect_event : FuncId := 167
abbrev n_ref05_counts : FuncId := 168
abbrev n_slices_siftDownCmpFunc_int : FuncId := 169
abbrev n_slices_nextPowerOfTwo : FuncId := 170
abbrev n_slices_xorshift_Next : FuncId := 171
abbrev n_slices_medianAdjacentCmpFunc_int : FuncId := 172
abbrev n_slices_medianCmpFunc_int : FuncId := 173
abbrev n_strings_trimLeftByte : FuncId := 174
abbrev n_strings_trimRightByte : FuncId := 175
abbrev n_strings_makeASCIISet : FuncId := 176
abbrev n_strings_trimLeftASCII : FuncId := 177
abbrev n_strings_trimRightASCII : FuncId := 178
abbrev n_strings_trimLeftUnicode : FuncId := 179
abbrev n_strings_trimRightUnicode : FuncId := 180
abbrev n_slices_order2CmpFunc_int : FuncId := 181
abbrev n_strings_asciiSet_contains : FuncId := 182
abbrev n_unicode_utf8_DecodeRuneInString : FuncId := 183
abbrev n_strings_ContainsRune : FuncId := 184
abbrev n_unicode_utf8_DecodeLastRuneInString : FuncId := 185
abbrev n_unicode_utf8_decodeRuneInStringSlow : FuncId := 186
abbrev n_strings_IndexRune : FuncId := 187
abbrev n_unicode_utf8_RuneStart : FuncId := 188
abbrev n_strings_IndexByte : FuncId := 189
abbrev n_unicode_utf8_ValidRune : FuncId := 190
abbrev n_book_Book_Len : FuncId := 210
abbrev n_ref07_Book_Len : FuncId := 211
abbrev n_api_Errno_Error : FuncId := 212
abbrev n_var_s_door_gosem_cut_vars_holds_initialisers_alone_see_the_manifest_s_row_cutvarsword_look_11_test_files_too : FuncId := 214
abbrev n_var_s_door_the_look_of_gosem_cut_vars_went_over_the_folder_that_the_caller_named_as_the_repository_s_root_look_11 : FuncId := 215
abbrev n_var_s_door_unicode_utf8_acceptRanges_is_laid_by_its_own_initialiser_plain_data_look_11 : FuncId := 216
abbrev n_var_s_door_unicode_utf8_first_is_laid_by_its_text_alone_pinned_1 : FuncId := 217
end Zv
end Go.Proofs.YtkijgkagfkapjaaGreatDoor
