/- Part 3 of the proof of TargetAll: what its row stands on (lemmas about the model, the evaluator, contracts of functions), put together and cut to what is used. -/
import Derived.Test.YtolekmhhkopooaaGreatDoorKTargetAll2
import Derived.KernelRfl
section
namespace Go.Proofs.YtolekmhhkopooaaGreatDoor
open Go Zq
namespace Zv
structure G_kit_Fill where
 Cards : Sl
 Marks : Sl
 Open : Bool
abbrev T_G_kit_Fill : Tag := ⟨G_kit_Fill, true, 3, fun x => [(.slice x.Cards.p x.Cards.len x.Cards.cap), (.slice x.Marks.p x.Marks.len x.Marks.cap), (.bool x.Open)], fun cs => match cs with | [.slice c0p c0n c0k, .slice c1p c1n c1k, .bool c2] => some (G_kit_Fill.mk (Sl.mk c0p c0n c0k) (Sl.mk c1p c1n c1k) c2) | _ => none, fun cs x h => by
 split at h
 ·have h := Option.some.inj h; subst h; rfl
 ·cases h⟩
structure G_law24_Table where
 Fill : G_kit_Fill
 Things : Sl
 Fs : Sl
 Own : Bool
abbrev T_G_law24_Table : Tag := ⟨G_law24_Table, true, 6, fun x => [(.slice x.Fill.Cards.p x.Fill.Cards.len x.Fill.Cards.cap), (.slice x.Fill.Marks.p x.Fill.Marks.len x.Fill.Marks.cap), (.bool x.Fill.Open), (.slice x.Things.p x.Things.len x.Things.cap), (.slice x.Fs.p x.Fs.len x.Fs.cap), (.bool x.Own)], fun cs => match cs with | [.slice c0p c0n c0k, .slice c1p c1n c1k, .bool c2, .slice c3p c3n c3k, .slice c4p c4n c4k, .bool c5] => some (G_law24_Table.mk (G_kit_Fill.mk (Sl.mk c0p c0n c0k) (Sl.mk c1p c1n c1k) c2) (Sl.mk c3p c3n c3k) (Sl.mk c4p c4n c4k) c5) | _ => none, fun cs x h => by
 split at h
 ·have h := Option.some.inj h; subst h; rfl
 ·cases h⟩
structure G_api_Thing where
 Card : Int
 Owner : Int
 Place : Int
 Stamp : Int
 Hurt : Int
 Marks : Int × Int × Int × Int
 Done : Int
 Fresh : Bool
abbrev T_G_api_Thing : Tag := ⟨G_api_Thing, true, 11, fun x => [(.int .i64 x.Card), (.int .i64 x.Owner), (.int .u8 x.Place), (.int .i64 x.Stamp), (.int .i64 x.Hurt), (.int .i64 x.Marks.1), (.int .i64 x.Marks.2.1), (.int .i64 x.Marks.2.2.1), (.int .i64 x.Marks.2.2.2), (.int .i64 x.Done), (.bool x.Fresh)], fun cs => match cs with | [.int kc0 c0, .int kc1 c1, .int kc2 c2, .int kc3 c3, .int kc4 c4, .int kc5 c5, .int kc6 c6, .int kc7 c7, .int kc8 c8, .int kc9 c9, .bool c10] => if kc0 = .i64 ∧ kc1 = .i64 ∧ kc2 = .u8 ∧ kc3 = .i64 ∧ kc4 = .i64 ∧ kc5 = .i64 ∧ kc6 = .i64 ∧ kc7 = .i64 ∧ kc8 = .i64 ∧ kc9 = .i64 then some (G_api_Thing.mk c0 c1 c2 c3 c4 (c5, c6, c7, c8) c9 c10) else none | _ => none, fun cs x h => by
 split at h
 ·split at h
  ·rename_i e
   obtain ⟨rfl, rfl, rfl, rfl, rfl, rfl, rfl, rfl, rfl, rfl⟩ := e
   have h := Option.some.inj h; subst h; rfl
  ·cases h
 ·cases h⟩
structure G_law19_Table where
 Things : Sl
 Fs : Sl
abbrev T_G_law19_Table : Tag := ⟨G_law19_Table, true, 2, fun x => [(.slice x.Things.p x.Things.len x.Things.cap), (.slice x.Fs.p x.Fs.len x.Fs.cap)], fun cs => match cs with | [.slice c0p c0n c0k, .slice c1p c1n c1k] => some (G_law19_Table.mk (Sl.mk c0p c0n c0k) (Sl.mk c1p c1n c1k)) | _ => none, fun cs x h => by
 split at h
 ·have h := Option.some.inj h; subst h; rfl
 ·cases h⟩
structure G_api_Part where
 When : Int
 Verb : Int
 Whom : Int
 Count : Int
 Suit : Int
 Trait : Int
 Mark : Int
 Name : ByteArray
abbrev T_G_api_Part : Tag := ⟨G_api_Part, true, 8, fun x => [(.int .u8 x.When), (.int .u8 x.Verb), (.int .u8 x.Whom), (.int .i64 x.Count), (.int .u8 x.Suit), (.int .u8 x.Trait), (.int .u8 x.Mark), (.string x.Name)], fun cs => match cs with | [.int kc0 c0, .int kc1 c1, .int kc2 c2, .int kc3 c3, .int kc4 c4, .int kc5 c5, .int kc6 c6, .string c7] => if kc0 = .u8 ∧ kc1 = .u8 ∧ kc2 = .u8 ∧ kc3 = .i64 ∧ kc4 = .u8 ∧ kc5 = .u8 ∧ kc6 = .u8 then some (G_api_Part.mk c0 c1 c2 c3 c4 c5 c6 c7) else none | _ => none, fun cs x h => by
 split at h
 ·split at h
  ·rename_i e
   obtain ⟨rfl, rfl, rfl, rfl, rfl, rfl, rfl⟩ := e
   have h := Option.some.inj h; subst h; rfl
  ·cases h
 ·cases h⟩
structure G_api_Standing where
 Thing : Int
 Place : Int
 What : G_api_Part
abbrev T_G_api_Standing : Tag := ⟨G_api_Standing, true, 10, fun x => [(.int .i64 x.Thing), (.int .i64 x.Place), (.int .u8 x.What.When), (.int .u8 x.What.Verb), (.int .u8 x.What.Whom), (.int .i64 x.What.Count), (.int .u8 x.What.Suit), (.int .u8 x.What.Trait), (.int .u8 x.What.Mark), (.string x.What.Name)], fun cs => match cs with | [.int kc0 c0, .int kc1 c1, .int kc2 c2, .int kc3 c3, .int kc4 c4, .int kc5 c5, .int kc6 c6, .int kc7 c7, .int kc8 c8, .string c9] => if kc0 = .i64 ∧ kc1 = .i64 ∧ kc2 = .u8 ∧ kc3 = .u8 ∧ kc4 = .u8 ∧ kc5 = .i64 ∧ kc6 = .u8 ∧ kc7 = .u8 ∧ kc8 = .u8 then some (G_api_Standing.mk c0 c1 (G_api_Part.mk c2 c3 c4 c5 c6 c7 c8 c9)) else none | _ => none, fun cs x h => by
 split at h
 ·split at h
  ·rename_i e
   obtain ⟨rfl, rfl, rfl, rfl, rfl, rfl, rfl, rfl, rfl⟩ := e
   have h := Option.some.inj h; subst h; rfl
  ·cases h
 ·cases h⟩
structure G_api_Feature where
 Holder : Int
 Suit : Int
 Traits : Int
 Power : Int
 Health : Int
abbrev T_G_api_Feature : Tag := ⟨G_api_Feature, true, 5, fun x => [(.int .i64 x.Holder), (.int .u8 x.Suit), (.int .u16 x.Traits), (.int .i64 x.Power), (.int .i64 x.Health)], fun cs => match cs with | [.int kc0 c0, .int kc1 c1, .int kc2 c2, .int kc3 c3, .int kc4 c4] => if kc0 = .i64 ∧ kc1 = .u8 ∧ kc2 = .u16 ∧ kc3 = .i64 ∧ kc4 = .i64 then some (G_api_Feature.mk c0 c1 c2 c3 c4) else none | _ => none, fun cs x h => by
 split at h
 ·split at h
  ·rename_i e
   obtain ⟨rfl, rfl, rfl, rfl, rfl⟩ := e
   have h := Option.some.inj h; subst h; rfl
  ·cases h
 ·cases h⟩
structure G_api_Card where
 Name : ByteArray
 Suit : Int
 Kind : Int
 Cost : Int
 Power : Int
 Health : Int
 Traits : Int
 Token : Bool
 Parts : Sl
abbrev T_G_api_Card : Tag := ⟨G_api_Card, true, 9, fun x => [(.string x.Name), (.int .u8 x.Suit), (.int .u8 x.Kind), (.int .i64 x.Cost), (.int .i64 x.Power), (.int .i64 x.Health), (.int .u16 x.Traits), (.bool x.Token), (.slice x.Parts.p x.Parts.len x.Parts.cap)], fun cs => match cs with | [.string c0, .int kc1 c1, .int kc2 c2, .int kc3 c3, .int kc4 c4, .int kc5 c5, .int kc6 c6, .bool c7, .slice c8p c8n c8k] => if kc1 = .u8 ∧ kc2 = .u8 ∧ kc3 = .i64 ∧ kc4 = .i64 ∧ kc5 = .i64 ∧ kc6 = .u16 then some (G_api_Card.mk c0 c1 c2 c3 c4 c5 c6 c7 (Sl.mk c8p c8n c8k)) else none | _ => none, fun cs x h => by
 split at h
 ·split at h
  ·rename_i e
   obtain ⟨rfl, rfl, rfl, rfl, rfl, rfl⟩ := e
   have h := Option.some.inj h; subst h; rfl
  ·cases h
 ·cases h⟩
structure G_api_MarkInfo where
 Mark : Int
 Name : ByteArray
 Power : Int
 Health : Int
abbrev T_G_api_MarkInfo : Tag := ⟨G_api_MarkInfo, true, 4, fun x => [(.int .u8 x.Mark), (.string x.Name), (.int .i64 x.Power), (.int .i64 x.Health)], fun cs => match cs with | [.int kc0 c0, .string c1, .int kc2 c2, .int kc3 c3] => if kc0 = .u8 ∧ kc2 = .i64 ∧ kc3 = .i64 then some (G_api_MarkInfo.mk c0 c1 c2 c3) else none | _ => none, fun cs x h => by
 split at h
 ·split at h
  ·rename_i e
   obtain ⟨rfl, rfl, rfl⟩ := e
   have h := Option.some.inj h; subst h; rfl
  ·cases h
 ·cases h⟩
structure G_layer_place where
 b : Option Addr
 things : Sl
 cards : Sl
 order : Sl
abbrev T_G_layer_place : Tag := ⟨G_layer_place, true, 4, fun x => [(.pointer x.b), (.slice x.things.p x.things.len x.things.cap), (.slice x.cards.p x.cards.len x.cards.cap), (.slice x.order.p x.order.len x.order.cap)], fun cs => match cs with | [.pointer c0, .slice c1p c1n c1k, .slice c2p c2n c2k, .slice c3p c3n c3k] => some (G_layer_place.mk c0 (Sl.mk c1p c1n c1k) (Sl.mk c2p c2n c2k) (Sl.mk c3p c3n c3k)) | _ => none, fun cs x h => by
 split at h
 ·have h := Option.some.inj h; subst h; rfl
 ·cases h⟩
abbrev T_arr5_T_G_api_MarkInfo : Tag := ⟨G_api_MarkInfo × G_api_MarkInfo × G_api_MarkInfo × G_api_MarkInfo × G_api_MarkInfo, true, 20, fun x => [(.int .u8 x.1.Mark), (.string x.1.Name), (.int .i64 x.1.Power), (.int .i64 x.1.Health), (.int .u8 x.2.1.Mark), (.string x.2.1.Name), (.int .i64 x.2.1.Power), (.int .i64 x.2.1.Health), (.int .u8 x.2.2.1.Mark), (.string x.2.2.1.Name), (.int .i64 x.2.2.1.Power), (.int .i64 x.2.2.1.Health), (.int .u8 x.2.2.2.1.Mark), (.string x.2.2.2.1.Name), (.int .i64 x.2.2.2.1.Power), (.int .i64 x.2.2.2.1.Health), (.int .u8 x.2.2.2.2.Mark), (.string x.2.2.2.2.Name), (.int .i64 x.2.2.2.2.Power), (.int .i64 x.2.2.2.2.Health)], fun cs => match cs with | [.int kc0 c0, .string c1, .int kc2 c2, .int kc3 c3, .int kc4 c4, .string c5, .int kc6 c6, .int kc7 c7, .int kc8 c8, .string c9, .int kc10 c10, .int kc11 c11, .int kc12 c12, .string c13, .int kc14 c14, .int kc15 c15, .int kc16 c16, .string c17, .int kc18 c18, .int kc19 c19] => if kc0 = .u8 ∧ kc2 = .i64 ∧ kc3 = .i64 ∧ kc4 = .u8 ∧ kc6 = .i64 ∧ kc7 = .i64 ∧ kc8 = .u8 ∧ kc10 = .i64 ∧ kc11 = .i64 ∧ kc12 = .u8 ∧ kc14 = .i64 ∧ kc15 = .i64 ∧ kc16 = .u8 ∧ kc18 = .i64 ∧ kc19 = .i64 then some ((G_api_MarkInfo.mk c0 c1 c2 c3), (G_api_MarkInfo.mk c4 c5 c6 c7), (G_api_MarkInfo.mk c8 c9 c10 c11), (G_api_MarkInfo.mk c12 c13 c14 c15), (G_api_MarkInfo.mk c16 c17 c18 c19)) else none | _ => none, fun cs x h => by
 split at h
 ·split at h
  ·rename_i e
   obtain ⟨rfl, rfl, rfl, rfl, rfl, rfl, rfl, rfl, rfl, rfl, rfl, rfl, rfl, rfl, rfl⟩ := e
   have h := Option.some.inj h; subst h; rfl
  ·cases h
 ·cases h⟩
abbrev T_arr4_T_int_i64 : Tag := ⟨Int × Int × Int × Int, true, 4, fun x => [(.int .i64 x.1), (.int .i64 x.2.1), (.int .i64 x.2.2.1), (.int .i64 x.2.2.2)], fun cs => match cs with | [.int kc0 c0, .int kc1 c1, .int kc2 c2, .int kc3 c3] => if kc0 = .i64 ∧ kc1 = .i64 ∧ kc2 = .i64 ∧ kc3 = .i64 then some (c0, c1, c2, c3) else none | _ => none, fun cs x h => by
 split at h
 ·split at h
  ·rename_i e
   obtain ⟨rfl, rfl, rfl, rfl⟩ := e
   have h := Option.some.inj h; subst h; rfl
  ·cases h
 ·cases h⟩
structure G_ref07_Book where
 Made : Bool
 Shut : Bool
 List : Sl
 Names : ByteArray × ByteArray × ByteArray × ByteArray × ByteArray × ByteArray × ByteArray × ByteArray × ByteArray
 Marked : G_api_MarkInfo × G_api_MarkInfo × G_api_MarkInfo × G_api_MarkInfo × G_api_MarkInfo
abbrev T_G_ref07_Book : Tag := ⟨G_ref07_Book, true, 32, fun x => [(.bool x.Made), (.bool x.Shut), (.slice x.List.p x.List.len x.List.cap), (.string x.Names.1), (.string x.Names.2.1), (.string x.Names.2.2.1), (.string x.Names.2.2.2.1), (.string x.Names.2.2.2.2.1), (.string x.Names.2.2.2.2.2.1), (.string x.Names.2.2.2.2.2.2.1), (.string x.Names.2.2.2.2.2.2.2.1), (.string x.Names.2.2.2.2.2.2.2.2), (.int .u8 x.Marked.1.Mark), (.string x.Marked.1.Name), (.int .i64 x.Marked.1.Power), (.int .i64 x.Marked.1.Health), (.int .u8 x.Marked.2.1.Mark), (.string x.Marked.2.1.Name), (.int .i64 x.Marked.2.1.Power), (.int .i64 x.Marked.2.1.Health), (.int .u8 x.Marked.2.2.1.Mark), (.string x.Marked.2.2.1.Name), (.int .i64 x.Marked.2.2.1.Power), (.int .i64 x.Marked.2.2.1.Health), (.int .u8 x.Marked.2.2.2.1.Mark), (.string x.Marked.2.2.2.1.Name), (.int .i64 x.Marked.2.2.2.1.Power), (.int .i64 x.Marked.2.2.2.1.Health), (.int .u8 x.Marked.2.2.2.2.Mark), (.string x.Marked.2.2.2.2.Name), (.int .i64 x.Marked.2.2.2.2.Power), (.int .i64 x.Marked.2.2.2.2.Health)], fun cs => match cs with | [.bool c0, .bool c1, .slice c2p c2n c2k, .string c3, .string c4, .string c5, .string c6, .string c7, .string c8, .string c9, .string c10, .string c11, .int kc12 c12, .string c13, .int kc14 c14, .int kc15 c15, .int kc16 c16, .string c17, .int kc18 c18, .int kc19 c19, .int kc20 c20, .string c21, .int kc22 c22, .int kc23 c23, .int kc24 c24, .string c25, .int kc26 c26, .int kc27 c27, .int kc28 c28, .string c29, .int kc30 c30, .int kc31 c31] => if kc12 = .u8 ∧ kc14 = .i64 ∧ kc15 = .i64 ∧ kc16 = .u8 ∧ kc18 = .i64 ∧ kc19 = .i64 ∧ kc20 = .u8 ∧ kc22 = .i64 ∧ kc23 = .i64 ∧ kc24 = .u8 ∧ kc26 = .i64 ∧ kc27 = .i64 ∧ kc28 = .u8 ∧ kc30 = .i64 ∧ kc31 = .i64 then some (G_ref07_Book.mk c0 c1 (Sl.mk c2p c2n c2k) (c3, c4, c5, c6, c7, c8, c9, c10, c11) ((G_api_MarkInfo.mk c12 c13 c14 c15), (G_api_MarkInfo.mk c16 c17 c18 c19), (G_api_MarkInfo.mk c20 c21 c22 c23), (G_api_MarkInfo.mk c24 c25 c26 c27), (G_api_MarkInfo.mk c28 c29 c30 c31))) else none | _ => none, fun cs x h => by
 split at h
 ·split at h
  ·rename_i e
   obtain ⟨rfl, rfl, rfl, rfl, rfl, rfl, rfl, rfl, rfl, rfl, rfl, rfl, rfl, rfl, rfl⟩ := e
   have h := Option.some.inj h; subst h; rfl
  ·cases h
 ·cases h⟩
structure G_utf8_acceptRange where
 lo : Int
 hi : Int
abbrev T_G_utf8_acceptRange : Tag := ⟨G_utf8_acceptRange, true, 2, fun x => [(.int .u8 x.lo), (.int .u8 x.hi)], fun cs => match cs with | [.int kc0 c0, .int kc1 c1] => if kc0 = .u8 ∧ kc1 = .u8 then some (G_utf8_acceptRange.mk c0 c1) else none | _ => none, fun cs x h => by
 split at h
 ·split at h
  ·rename_i e
   obtain ⟨rfl, rfl⟩ := e
   have h := Option.some.inj h; subst h; rfl
  ·cases h
 ·cases h⟩
abbrev T_arr16_T_G_utf8_acceptRange : Tag := ⟨G_utf8_acceptRange × G_utf8_acceptRange × G_utf8_acceptRange × G_utf8_acceptRange × G_utf8_acceptRange × G_utf8_acceptRange × G_utf8_acceptRange × G_utf8_acceptRange × G_utf8_acceptRange × G_utf8_acceptRange × G_utf8_acceptRange × G_utf8_acceptRange × G_utf8_acceptRange × G_utf8_acceptRange × G_utf8_acceptRange × G_utf8_acceptRange, true, 32, fun x => [(.int .u8 x.1.lo), (.int .u8 x.1.hi), (.int .u8 x.2.1.lo), (.int .u8 x.2.1.hi), (.int .u8 x.2.2.1.lo), (.int .u8 x.2.2.1.hi), (.int .u8 x.2.2.2.1.lo), (.int .u8 x.2.2.2.1.hi), (.int .u8 x.2.2.2.2.1.lo), (.int .u8 x.2.2.2.2.1.hi), (.int .u8 x.2.2.2.2.2.1.lo), (.int .u8 x.2.2.2.2.2.1.hi), (.int .u8 x.2.2.2.2.2.2.1.lo), (.int .u8 x.2.2.2.2.2.2.1.hi), (.int .u8 x.2.2.2.2.2.2.2.1.lo), (.int .u8 x.2.2.2.2.2.2.2.1.hi), (.int .u8 x.2.2.2.2.2.2.2.2.1.lo), (.int .u8 x.2.2.2.2.2.2.2.2.1.hi), (.int .u8 x.2.2.2.2.2.2.2.2.2.1.lo), (.int .u8 x.2.2.2.2.2.2.2.2.2.1.hi), (.int .u8 x.2.2.2.2.2.2.2.2.2.2.1.lo), (.int .u8 x.2.2.2.2.2.2.2.2.2.2.1.hi), (.int .u8 x.2.2.2.2.2.2.2.2.2.2.2.1.lo), (.int .u8 x.2.2.2.2.2.2.2.2.2.2.2.1.hi), (.int .u8 x.2.2.2.2.2.2.2.2.2.2.2.2.1.lo), (.int .u8 x.2.2.2.2.2.2.2.2.2.2.2.2.1.hi), (.int .u8 x.2.2.2.2.2.2.2.2.2.2.2.2.2.1.lo), (.int .u8 x.2.2.2.2.2.2.2.2.2.2.2.2.2.1.hi), (.int .u8 x.2.2.2.2.2.2.2.2.2.2.2.2.2.2.1.lo), (.int .u8 x.2.2.2.2.2.2.2.2.2.2.2.2.2.2.1.hi), (.int .u8 x.2.2.2.2.2.2.2.2.2.2.2.2.2.2.2.lo), (.int .u8 x.2.2.2.2.2.2.2.2.2.2.2.2.2.2.2.hi)], fun cs => match cs with | [.int kc0 c0, .int kc1 c1, .int kc2 c2, .int kc3 c3, .int kc4 c4, .int kc5 c5, .int kc6 c6, .int kc7 c7, .int kc8 c8, .int kc9 c9, .int kc10 c10, .int kc11 c11, .int kc12 c12, .int kc13 c13, .int kc14 c14, .int kc15 c15, .int kc16 c16, .int kc17 c17, .int kc18 c18, .int kc19 c19, .int kc20 c20, .int kc21 c21, .int kc22 c22, .int kc23 c23, .int kc24 c24, .int kc25 c25, .int kc26 c26, .int kc27 c27, .int kc28 c28, .int kc29 c29, .int kc30 c30, .int kc31 c31] => if kc0 = .u8 ∧ kc1 = .u8 ∧ kc2 = .u8 ∧ kc3 = .u8 ∧ kc4 = .u8 ∧ kc5 = .u8 ∧ kc6 = .u8 ∧ kc7 = .u8 ∧ kc8 = .u8 ∧ kc9 = .u8 ∧ kc10 = .u8 ∧ kc11 = .u8 ∧ kc12 = .u8 ∧ kc13 = .u8 ∧ kc14 = .u8 ∧ kc15 = .u8 ∧ kc16 = .u8 ∧ kc17 = .u8 ∧ kc18 = .u8 ∧ kc19 = .u8 ∧ kc20 = .u8 ∧ kc21 = .u8 ∧ kc22 = .u8 ∧ kc23 = .u8 ∧ kc24 = .u8 ∧ kc25 = .u8 ∧ kc26 = .u8 ∧ kc27 = .u8 ∧ kc28 = .u8 ∧ kc29 = .u8 ∧ kc30 = .u8 ∧ kc31 = .u8 then some ((G_utf8_acceptRange.mk c0 c1), (G_utf8_acceptRange.mk c2 c3), (G_utf8_acceptRange.mk c4 c5), (G_utf8_acceptRange.mk c6 c7), (G_utf8_acceptRange.mk c8 c9), (G_utf8_acceptRange.mk c10 c11), (G_utf8_acceptRange.mk c12 c13), (G_utf8_acceptRange.mk c14 c15), (G_utf8_acceptRange.mk c16 c17), (G_utf8_acceptRange.mk c18 c19), (G_utf8_acceptRange.mk c20 c21), (G_utf8_acceptRange.mk c22 c23), (G_utf8_acceptRange.mk c24 c25), (G_utf8_acceptRange.mk c26 c27), (G_utf8_acceptRange.mk c28 c29), (G_utf8_acceptRange.mk c30 c31)) else none | _ => none, fun cs x h => by
 split at h
 ·split at h
  ·rename_i e
   obtain ⟨rfl, rfl, rfl, rfl, rfl, rfl, rfl, rfl, rfl, rfl, rfl, rfl, rfl, rfl, rfl, rfl, rfl, rfl, rfl, rfl, rfl, rfl, rfl, rfl, rfl, rfl, rfl, rfl, rfl, rfl, rfl, rfl⟩ := e
   have h := Option.some.inj h; subst h; rfl
  ·cases h
 ·cases h⟩
noncomputable abbrev P : Program := Tryz.prog
noncomputable abbrev E : Env := Tryz.env
def tagOf : TypeId -> Tag := fun t => match t with
 | 3 => (T_int .i64)
 | 4 => T_bool
 | 5 => (T_int .u8)
 | 9 => T_str
 | 21 => (T_int .i32)
 | 22 => T_sl
 | 23 => T_sl
 | 25 => T_G_kit_Fill
 | 26 => T_sl
 | 27 => T_sl
 | 29 => T_G_law24_Table
 | 30 => T_ptr
 | 31 => T_ptr
 | 35 => T_sl
 | 41 => (T_int .u16)
 | 42 => (T_int .u8)
 | 44 => T_G_api_Feature
 | 45 => (T_int .u8)
 | 46 => T_arr4_T_int_i64
 | 48 => T_G_api_Thing
 | 60 => T_sl
 | 63 => T_G_law19_Table
 | 65 => T_any
 | 66 => T_sl
 | 67 => (T_int .i64)
 | 74 => (T_int .u8)
 | 75 => (T_int .u8)
 | 76 => (T_int .u8)
 | 77 => (T_int .u8)
 | 78 => (T_int .u8)
 | 80 => T_G_api_Part
 | 82 => T_G_api_Standing
 | 87 => T_sl
 | 100 => T_sl
 | 105 => T_sl
 | 110 => (T_int .u8)
 | 111 => T_sl
 | 113 => T_G_api_Card
 | 117 => T_G_api_MarkInfo
 | 121 => T_any
 | 134 => T_G_layer_place
 | 158 => T_arr5_T_G_api_MarkInfo
 | 162 => T_G_ref07_Book
 | 172 => T_any
 | 173 => T_sl
 | 178 => T_ptr
 | 191 => (T_int .u64)
 | 214 => (T_int .i64)
 | 222 => (T_int .u32)
 | 224 => (T_int .u64)
 | 232 => (T_int .u64)
 | 236 => T_ptr
 | 244 => T_ptr
 | 245 => T_ptr
 | 254 => T_G_utf8_acceptRange
 | 255 => T_arr16_T_G_utf8_acceptRange
 | _ => T_any
def resOf : FuncId -> List Tag := fun f => match f with
 | 3 => [T_bool]
 | 4 => [T_bool]
 | 5 => [T_bool]
 | 6 => [T_bool]
 | 7 => [T_bool]
 | 8 => [T_bool]
 | 9 => [T_bool]
 | 10 => [T_ptr, T_ptr, T_bool]
 | 11 => [T_sl]
 | 12 => [T_sl]
 | 13 => [T_bool]
 | 14 => [T_bool]
 | 15 => [T_bool]
 | 16 => [T_sl]
 | 17 => [T_sl]
 | 18 => [T_bool]
 | 19 => [T_sl]
 | 20 => [T_bool]
 | 21 => [T_bool]
 | 22 => [T_bool]
 | 23 => [T_bool]
 | 24 => [T_bool]
 | 25 => [T_bool]
 | 26 => [T_bool]
 | 27 => [T_bool]
 | 28 => [(T_int .i64)]
 | 29 => [T_sl]
 | 30 => [T_sl, T_sl, (T_int .i64)]
 | 31 => [T_bool]
 | 32 => [T_bool]
 | 33 => [T_sl, (T_int .i64)]
 | 34 => [T_sl, (T_int .i64)]
 | 35 => [T_sl, (T_int .i64)]
 | 36 => [T_G_api_Feature]
 | 37 => [T_sl]
 | 38 => [(T_int .i64), (T_int .i64)]
 | 39 => [(T_int .i64)]
 | 40 => [T_sl]
 | 41 => [T_bool, (T_int .i64)]
 | 42 => [T_sl]
 | 43 => [(T_int .i64), (T_int .i64)]
 | 44 => [T_sl, (T_int .i64)]
 | 45 => [T_sl, T_sl, (T_int .i64)]
 | 46 => [T_sl]
 | 47 => [T_sl, T_sl, T_bool]
 | 48 => [T_bool]
 | 49 => [T_bool]
 | 50 => [T_bool]
 | 51 => [T_ptr]
 | 52 => [T_ptr]
 | 53 => [(T_int .i64)]
 | 54 => [T_G_api_Card]
 | 55 => [(T_int .i64)]
 | 56 => [(T_int .i64)]
 | 57 => [(T_int .i64)]
 | 58 => [(T_int .i64)]
 | 59 => [(T_int .i64)]
 | 60 => [T_bool]
 | 61 => [T_bool]
 | 62 => [T_sl, (T_int .i64)]
 | 63 => [T_bool]
 | 64 => [T_bool]
 | 65 => [T_sl]
 | 66 => [T_bool]
 | 67 => [T_bool]
 | 68 => [T_ptr, T_sl, T_sl]
 | 69 => [T_bool]
 | 70 => [T_bool]
 | 71 => [T_G_api_Card, (T_int .i64)]
 | 72 => [T_bool]
 | 73 => [T_G_api_Card, (T_int .i64)]
 | 74 => [T_bool]
 | 75 => [T_bool]
 | 76 => [(T_int .i64)]
 | 77 => [T_ptr, T_G_law19_Table]
 | 78 => [T_G_layer_place, (T_int .i64)]
 | 79 => [T_sl]
 | 80 => [(T_int .i64)]
 | 81 => [T_sl]
 | 82 => [T_sl]
 | 83 => [T_sl]
 | 84 => [T_sl]
 | 85 => [T_bool]
 | 86 => [T_sl]
 | 87 => [(T_int .u16)]
 | 88 => [(T_int .u16)]
 | 89 => [T_bool]
 | 90 => [T_bool]
 | 91 => [(T_int .i64)]
 | 92 => [T_bool]
 | 93 => [(T_int .i64)]
 | 94 => [T_sl]
 | 95 => [T_sl]
 | 96 => [T_sl, (T_int .i64)]
 | 97 => [T_sl, (T_int .i64)]
 | 98 => [T_bool, (T_int .i64)]
 | 99 => [T_G_api_Feature]
 | 100 => [T_G_api_Standing]
 | 101 => [(T_int .i64)]
 | 102 => [(T_int .i64)]
 | 103 => [(T_int .i64)]
 | 104 => [T_bool]
 | 105 => [T_G_api_Card]
 | 106 => [T_sl]
 | 107 => [T_bool]
 | 108 => [(T_int .i64)]
 | 109 => [(T_int .i64)]
 | 110 => [T_bool]
 | 111 => [T_G_api_Card]
 | 112 => [T_bool]
 | 113 => [T_bool]
 | 114 => [T_bool]
 | 115 => [T_bool]
 | 116 => [T_sl, (T_int .i64)]
 | 117 => [(T_int .u16)]
 | 118 => [T_bool]
 | 119 => [T_bool]
 | 120 => [T_bool]
 | 121 => [T_G_api_Card, (T_int .i64)]
 | 122 => [T_bool]
 | 123 => [T_bool]
 | 124 => [T_G_api_Card, (T_int .i64)]
 | 125 => [(T_int .i64), (T_int .i64)]
 | 126 => [T_bool]
 | 128 => [(T_int .i64)]
 | 129 => [T_bool]
 | 130 => [T_bool]
 | 131 => [T_bool]
 | 132 => [T_bool]
 | 133 => [T_bool]
 | 134 => [(T_int .i64)]
 | 135 => [T_bool]
 | 136 => [T_bool]
 | 137 => [T_sl]
 | 138 => [T_sl]
 | 139 => [T_G_api_Feature]
 | 140 => [(T_int .i64)]
 | 141 => [(T_int .i64)]
 | 142 => [T_bool]
 | 143 => [T_bool]
 | 144 => [T_bool]
 | 145 => [(T_int .i64)]
 | 146 => [T_sl, (T_int .i64)]
 | 147 => [T_sl]
 | 148 => [T_bool]
 | 149 => [(T_int .u16)]
 | 150 => [(T_int .i64)]
 | 152 => [(T_int .i64)]
 | 153 => [T_bool]
 | 154 => [T_bool]
 | 155 => [T_bool]
 | 156 => [(T_int .u16)]
 | 157 => [(T_int .u16)]
 | 158 => [T_bool]
 | 159 => [T_str]
 | 160 => [T_str]
 | 161 => [T_bool]
 | 162 => [T_bool, T_bool, T_bool, T_bool, T_bool]
 | 163 => [(T_int .i64), (T_int .i64), T_bool]
 | 164 => [T_bool]
 | 165 => [T_bool]
 | 166 => [T_bool]
 | 167 => [T_bool]
 | 168 => [T_bool]
 | 169 => [T_bool]
 | 170 => [T_bool]
 | 171 => [T_bool, T_bool, T_bool, T_bool, T_bool]
 | 172 => [(T_int .i64)]
 | 173 => [(T_int .i64)]
 | 174 => [T_bool]
 | 175 => [T_bool]
 | 176 => [T_bool]
 | 177 => [T_bool]
 | 178 => [T_sl, T_bool]
 | 179 => [T_G_api_Feature, (T_int .i64)]
 | 183 => [(T_int .i64), (T_int .i64)]
 | 185 => [T_bool]
 | 186 => [(T_int .i64)]
 | 187 => [(T_int .i64), T_bool]
 | 188 => [(T_int .i64)]
 | 189 => [(T_int .i64)]
 | 190 => [T_bool]
 | 191 => [T_str]
 | 192 => [T_bool]
 | 193 => [T_bool]
 | 194 => [T_bool]
 | 195 => [(T_int .i64), (T_int .i64)]
 | 196 => [T_G_api_Feature, (T_int .i64)]
 | 197 => [T_G_api_MarkInfo, T_bool]
 | 199 => [(T_int .u64)]
 | 200 => [(T_int .u64)]
 | 201 => [(T_int .i64)]
 | 202 => [(T_int .i64)]
 | 203 => [T_str]
 | 204 => [T_str]
 | 206 => [T_str]
 | 207 => [T_str]
 | 208 => [T_str]
 | 209 => [T_str]
 | 210 => [(T_int .i64), (T_int .i64)]
 | 211 => [T_bool]
 | 212 => [(T_int .i32), (T_int .i64)]
 | 213 => [T_bool]
 | 214 => [(T_int .i32), (T_int .i64)]
 | 215 => [(T_int .i32), (T_int .i64)]
 | 216 => [(T_int .i64)]
 | 217 => [T_bool]
 | 218 => [(T_int .i64)]
 | 219 => [T_bool]
 | _ => []
def lkpOf : TypeId -> Option Tag := fun t => match t with
 | _ => none
def rtOf : TypeId -> List Tag := fun t => match t with
 | 0 => []
 | 32 => [T_ptr, T_ptr, T_bool]
 | 68 => [T_sl, T_sl, (T_int .i64)]
 | 72 => [T_sl, (T_int .i64)]
 | 83 => [T_sl, (T_int .i64)]
 | 85 => [T_sl, (T_int .i64)]
 | 89 => [(T_int .i64), (T_int .i64)]
 | 94 => [T_bool, (T_int .i64)]
 | 101 => [T_sl, T_sl, T_bool]
 | 124 => [T_ptr, T_sl, T_sl]
 | 127 => [T_G_api_Card, (T_int .i64)]
 | 131 => [T_ptr, T_G_law19_Table]
 | 135 => [T_G_layer_place, (T_int .i64)]
 | 198 => [T_bool, T_bool, T_bool, T_bool, T_bool]
 | 200 => [(T_int .i64), (T_int .i64), T_bool]
 | 209 => [T_sl, T_bool]
 | 211 => [T_G_api_Feature, (T_int .i64)]
 | 215 => [(T_int .i64), (T_int .i64)]
 | 219 => [(T_int .i64), T_bool]
 | 227 => [(T_int .i64), (T_int .i64)]
 | 230 => [T_G_api_MarkInfo, T_bool]
 | 248 => [(T_int .i32), (T_int .i64)]
 | t => [tagOf t]
noncomputable def C : CEnv := { E := E, P := P, tag := tagOf, res := resOf, lkp := lkpOf, rt := rtOf }
theorem hE : C.E.Ok C.P := Tryz.envOk
abbrev n_law24_TargetAll : FuncId := 4
abbrev n_kit_Books : FuncId := 10
abbrev n_law24_Table_features : FuncId := 11
abbrev n_target_All : FuncId := 12
abbrev n_target_May : FuncId := 13
abbrev n_kit_LentThings : FuncId := 16
abbrev n_kit_LentFeatures : FuncId := 17
abbrev n_kit_SameInts : FuncId := 18
abbrev n_ref24_All : FuncId := 19
abbrev n_target_Needs : FuncId := 20
abbrev n_ref24_Needs : FuncId := 21
abbrev n_ref24_May : FuncId := 22
abbrev n_kit_KeptThings : FuncId := 23
abbrev n_kit_KeptFeatures : FuncId := 24
abbrev n_kit_ApartInts : FuncId := 25
abbrev n_kit_CopyThings : FuncId := 29
abbrev n_kit_SameFeatures : FuncId := 31
abbrev n_layer_Effects : FuncId := 33
abbrev n_kit_CopyFeatures : FuncId := 37
abbrev n_effect_Layer : FuncId := 39
abbrev n_ref19_Effects : FuncId := 44
abbrev n_ref19_All : FuncId := 45
abbrev n_kit_ApartFeatures : FuncId := 49
abbrev n_book_New : FuncId := 51
abbrev n_ref07_New : FuncId := 52
abbrev n_book_Book_Card : FuncId := 53
abbrev n_kit_CopyCard : FuncId := 54
abbrev n_ref07_Book_Card : FuncId := 55
abbrev n_book_Book_Mark : FuncId := 56
abbrev n_ref07_Book_Mark : FuncId := 57
abbrev n_book_Book_Seal : FuncId := 58
abbrev n_ref07_Book_Seal : FuncId := 59
abbrev n_book_Book_Sealed : FuncId := 60
abbrev n_ref07_Book_Sealed : FuncId := 61
abbrev n_ref20_Of : FuncId := 62
abbrev n_target_asked : FuncId := 63
abbrev n_target_All_1 : FuncId := 64
abbrev n_target_gone : FuncId := 65
abbrev n_thing_Unit : FuncId := 66
abbrev n_trait_Has : FuncId := 67
abbrev n_ref24_fits : FuncId := 69
abbrev n_ref24_may : FuncId := 70
abbrev n_thing_Card : FuncId := 71
abbrev n_card_Means : FuncId := 72
abbrev n_ref18_Card : FuncId := 73
abbrev n_ref06_Means : FuncId := 74
abbrev n_kit_SameThings : FuncId := 75
abbrev n_kit_markInts : FuncId := 76
abbrev n_layer_setup : FuncId := 78
abbrev n_layer_place_effects : FuncId := 84
abbrev n_ref19_wrong : FuncId := 91
abbrev n_ref19_next : FuncId := 93
abbrev n_ref19_effects : FuncId := 94
abbrev n_ref19_apply : FuncId := 95
abbrev n_kit_markFeatures : FuncId := 99
abbrev n_book_Book_shut : FuncId := 101
abbrev n_card_Check : FuncId := 102
abbrev n_book_Book_place : FuncId := 103
abbrev n_book_ahead : FuncId := 104
abbrev n_card_Copy : FuncId := 105
abbrev n_kit_CopyParts : FuncId := 106
abbrev n_ref07_Book_None : FuncId := 107
abbrev n_ref06_Check : FuncId := 108
abbrev n_ref07_Book_place : FuncId := 109
abbrev n_ref07_Ahead : FuncId := 110
abbrev n_ref06_Copy : FuncId := 111
abbrev n_book_within : FuncId := 112
abbrev n_book_name : FuncId := 113
abbrev n_ref07_Name : FuncId := 114
abbrev n_book_Book_none : FuncId := 115
abbrev n_ref20_Behind : FuncId := 116
abbrev n_trait_bit : FuncId := 117
abbrev n_ref19_Together : FuncId := 118
abbrev n_ref18_Unit : FuncId := 119
abbrev n_ref04_Has : FuncId := 120
abbrev n_book_Book_At : FuncId := 121
abbrev n_slices_ContainsFunc_api_Part_api_Part : FuncId := 122
abbrev n_card_Means_1 : FuncId := 123
abbrev n_ref07_Book_At : FuncId := 124
abbrev n_book_Book_Find : FuncId := 125
abbrev n_trait_Check : FuncId := 126
abbrev n_slices_SortFunc_int_int : FuncId := 127
abbrev n_layer_setup_1 : FuncId := 128
abbrev n_ref05_Layer : FuncId := 134
abbrev n_ref19_ahead : FuncId := 135
abbrev n_ref19_depends : FuncId := 136
abbrev n_ref19_order : FuncId := 137
abbrev n_ref19_about : FuncId := 138
abbrev n_ref19_done : FuncId := 139
abbrev n_card_face : FuncId := 140
abbrev n_effect_Check : FuncId := 141
abbrev n_ref06_NameMay : FuncId := 142
abbrev n_ref06_within : FuncId := 143
abbrev n_ref04_Check : FuncId := 144
abbrev n_ref05_Check : FuncId := 145
abbrev n_ref20_start : FuncId := 146
abbrev n_ref20_marked : FuncId := 147
abbrev n_trait_is : FuncId := 148
abbrev n_ref04_bit : FuncId := 149
abbrev n_slices_IndexFunc_api_Part_api_Part : FuncId := 150
abbrev n_ref19_same : FuncId := 154
abbrev n_ref19_meant : FuncId := 155
abbrev n_ref04_With : FuncId := 156
abbrev n_ref04_Without : FuncId := 157
abbrev n_card_named : FuncId := 158
abbrev n_suit_Name : FuncId := 159
abbrev n_card_word : FuncId := 160
abbrev n_card_within : FuncId := 161
abbrev n_effect_Uses : FuncId := 162
abbrev n_effect_bounds : FuncId := 163
abbrev n_effect_wanted : FuncId := 164
abbrev n_effect_about : FuncId := 165
abbrev n_effect_within_int : FuncId := 166
abbrev n_effect_within_api_Suit : FuncId := 167
abbrev n_effect_within_api_Trait : FuncId := 168
abbrev n_effect_within_api_Mark : FuncId := 169
abbrev n_effect_name : FuncId := 170
abbrev n_ref05_Uses : FuncId := 171
abbrev n_ref05_kind : FuncId := 172
abbrev n_ref05_wants : FuncId := 173
abbrev n_ref05_about : FuncId := 174
abbrev n_ref05_counted : FuncId := 175
abbrev n_ref05_within : FuncId := 176
abbrev n_ref05_Name : FuncId := 177
abbrev n_ref20_Printed : FuncId := 178
abbrev n_ref18_Marked : FuncId := 179
abbrev n_ref19_unit : FuncId := 190
abbrev n_strings_Trim : FuncId := 191
abbrev n_effect_standing : FuncId := 192
abbrev n_effect_swapping : FuncId := 193
abbrev n_effect_event : FuncId := 194
abbrev n_ref05_counts : FuncId := 195
abbrev n_ref18_Printed : FuncId := 196
abbrev n_ref07_Book_MarkOf : FuncId := 197
end Zv
end Go.Proofs.YtolekmhhkopooaaGreatDoor
end
section
namespace Go.Proofs.YtolekmhhkopooaaGreatDoor.Zq
theorem u8_tri (a b : UInt8) : a < b ∨ a = b ∨ b < a := by
 have h : a.toNat < b.toNat ∨ a.toNat = b.toNat ∨ b.toNat < a.toNat := by omega
 rcases h with h | h | h
 ·exact .inl (UInt8.lt_iff_toNat_lt.2 h)
 ·exact .inr (.inl (UInt8.toNat_inj.1 h))
 ·exact .inr (.inr (UInt8.lt_iff_toNat_lt.2 h))
theorem u8_tr {a b c : UInt8} (h : a < b) (k : b < c) : a < c := UInt8.lt_iff_toNat_lt.2 (by have := UInt8.lt_iff_toNat_lt.1 h; have := UInt8.lt_iff_toNat_lt.1 k; omega)
theorem bl_tr : ∀ {x y z : List UInt8}, Op.bytesLess x y = true -> Op.bytesLess y z = true -> Op.bytesLess x z = true
 | _, [], _, h, _ => by simp [Op.bytesLess] at h
 | _, _ :: _, [], _, k => by simp [Op.bytesLess] at k
 | [], b :: y, c :: z, _, _ => rfl
 | a :: x, b :: y, c :: z, h, k => by
  simp only [Op.bytesLess, Bool.or_eq_true, Bool.and_eq_true, decide_eq_true_eq, beq_iff_eq] at h k ⊢
  rcases h with h | ⟨rfl, h⟩
  ·rcases k with k | ⟨rfl, k⟩
   ·exact .inl (u8_tr h k)
   ·exact .inl h
  ·rcases k with k | ⟨rfl, k⟩
   ·exact .inl k
   ·exact .inr ⟨rfl, bl_tr h k⟩
theorem bl_tot : ∀ {x y : List UInt8}, x ≠ y -> Op.bytesLess x y = false -> Op.bytesLess y x = true
 | [], [], h, _ => absurd rfl h
 | [], _ :: _, _, k => by simp [Op.bytesLess] at k
 | _ :: _, [], _, _ => rfl
 | a :: x, b :: y, h, k => by
  simp only [Op.bytesLess, Bool.or_eq_false_iff, Bool.and_eq_false_iff, decide_eq_false_iff_not, beq_eq_false_iff_ne, ne_eq] at k
  simp only [Op.bytesLess, Bool.or_eq_true, Bool.and_eq_true, decide_eq_true_eq, beq_iff_eq]
  rcases u8_tri a b with q | q | q
  ·exact absurd q k.1
  ·subst q
   refine .inr ⟨rfl, bl_tot (fun e => h (by rw [e])) ?_⟩
   rcases k.2 with e | e
   ·exact absurd rfl e
   ·exact e
  ·exact .inl q
section
variable {α : Type} (lt : α -> α -> Bool)
def insL (x : α) (l : List α) : List α := l.takeWhile (fun d => !lt x d) ++ x :: l.dropWhile (fun d => !lt x d)
def SrtL (l : List α) : Prop := l.Pairwise fun a b => lt a b = true
variable {lt}
theorem takeWhile_of {p : α -> Bool} : ∀ (l : List α) (i : Nat), i ≤ l.length -> (∀ (j : Nat) (h : j < l.length), j < i -> p l[j] = true) -> (∀ (h : i < l.length), p l[i] = false) -> l.takeWhile p = l.take i ∧ l.dropWhile p = l.drop i
 | [], i, h, _, _ => by
  have : i = 0 := by simpa using h
  subst this; exact ⟨rfl, rfl⟩
 | a :: l, 0, _, _, h2 => by
  have : p a = false := h2 (by simp)
  simp [this]
 | a :: l, i + 1, h, h1, h2 => by
  have ha : p a = true := h1 0 (by simp) (by omega)
  obtain ⟨e1, e2⟩ := takeWhile_of l i (by simpa using h) (fun j hj hji => h1 (j + 1) (by simpa using hj) (by omega)) (fun hi => h2 (by simpa using hi))
  simp [ha, e1, e2]
theorem insL_end (tr : ∀ {a b c : α}, lt a b = true -> lt b c = true -> lt a c = true) {x : α} {l : List α} (hs : SrtL lt l) {i : Nat} (hi : i ≤ l.length) (h1 : ∀ (j : Nat) (h : j < l.length), i ≤ j -> lt x l[j] = true) (h2 : ∀ (h : 0 < i), lt x (l[i - 1]'(by omega)) = false) : insL lt x l = l.take i ++ x :: l.drop i := by
 unfold insL
 have k1 : ∀ (j : Nat) (h : j < l.length), j < i -> (!lt x l[j]) = true := fun j hj hji => by
  have h3 := h2 (by omega)
  cases hb : lt x l[j] with
  | false => rfl
  | true =>
   by_cases e : j = i - 1
   ·subst e; rw [hb] at h3; cases h3
   ·have := List.pairwise_iff_getElem.1 hs j (i - 1) hj (by omega) (by omega)
    rw [tr hb this] at h3; cases h3
 have k2 : ∀ (h : i < l.length), (!lt x l[i]) = false := fun h => by rw [h1 i h (Nat.le_refl _)]; rfl
 obtain ⟨e1, e2⟩ := takeWhile_of (p := fun d => !lt x d) l i hi k1 k2
 rw [e1, e2]
theorem insL_head {x : α} {l : List α} {i : Nat} (hi : i ≤ l.length) (h1 : ∀ (j : Nat) (h : j < l.length), j < i -> lt x l[j] = false) (h2 : ∀ (h : i < l.length), lt x l[i] = true) : insL lt x l = l.take i ++ x :: l.drop i := by
 unfold insL
 obtain ⟨e1, e2⟩ := takeWhile_of (p := fun d => !lt x d) l i hi (fun j hj hji => by rw [h1 j hj hji]; rfl) (fun h => by rw [h2 h]; rfl)
 rw [e1, e2]
theorem mem_insL {x y : α} {l : List α} : y ∈ insL lt x l ↔ y = x ∨ y ∈ l := by
 unfold insL
 rw [List.mem_append, List.mem_cons]
 constructor
 ·rintro (h | h | h)
  ·exact .inr ((List.takeWhile_sublist _).subset h)
  ·exact .inl h
  ·exact .inr ((List.dropWhile_sublist _).subset h)
 ·rintro (h | h)
  ·exact .inr (.inl h)
  ·rw [← List.takeWhile_append_dropWhile (p := fun d => !lt x d) (l := l), List.mem_append] at h
   rcases h with h | h
   ·exact .inl h
   ·exact .inr (.inr h)
theorem insL_len {x : α} {l : List α} : (insL lt x l).length = l.length + 1 := by
 have := congrArg List.length (List.takeWhile_append_dropWhile (p := fun d => !lt x d) (l := l))
 rw [List.length_append] at this
 unfold insL
 rw [List.length_append, List.length_cons]; omega
theorem dropWhile_head {p : α -> Bool} : ∀ {l : List α} {y : α} {r : List α}, l.dropWhile p = y :: r -> p y = false
 | [], _, _, h => by simp at h
 | a :: l, y, r, h => by
  rw [List.dropWhile_cons] at h
  split at h
  ·exact dropWhile_head h
  ·rename_i e; cases h; simpa using e
theorem takeWhile_all {p : α -> Bool} : ∀ {l : List α} {y : α}, y ∈ l.takeWhile p -> p y = true
 | [], _, h => by simp at h
 | a :: l, y, h => by
  rw [List.takeWhile_cons] at h
  split at h
  ·rename_i e
   rcases List.mem_cons.1 h with rfl | h
   ·exact e
   ·exact takeWhile_all h
  ·simp at h
theorem insL_srt (tr : ∀ {a b c : α}, lt a b = true -> lt b c = true -> lt a c = true) {x : α} {l : List α} (hs : SrtL lt l) (tot : ∀ y ∈ l, lt x y = false -> lt y x = true) : SrtL lt (insL lt x l) := by
 have hl := List.takeWhile_append_dropWhile (p := fun d => !lt x d) (l := l)
 have hs' := hs
 unfold SrtL at hs' ⊢
 rw [← hl, List.pairwise_append] at hs'
 obtain ⟨s1, s2, s3⟩ := hs'
 have below : ∀ y ∈ l.takeWhile (fun d => !lt x d), lt y x = true := fun y hy => tot y ((List.takeWhile_sublist _).subset hy) (by simpa using takeWhile_all hy)
 have above : ∀ y ∈ l.dropWhile (fun d => !lt x d), lt x y = true := by
  cases hd : l.dropWhile (fun d => !lt x d) with
  | nil => intro y hy; cases hy
  | cons z r =>
   have hz : lt x z = true := by simpa using dropWhile_head hd
   rw [hd] at s2
   intro y hy
   rcases List.mem_cons.1 hy with rfl | hy
   ·exact hz
   ·exact tr hz ((List.pairwise_cons.1 s2).1 y hy)
 unfold insL
 rw [List.pairwise_append]
 refine ⟨s1, List.pairwise_cons.2 ⟨above, s2⟩, fun a ha b hb => ?_⟩
 rcases List.mem_cons.1 hb with rfl | hb
 ·exact below a ha
 ·exact s3 a ha b hb
end
end Go.Proofs.YtolekmhhkopooaaGreatDoor.Zq
end
section
namespace Go.Proofs.YtolekmhhkopooaaGreatDoor.Zq
open Zv
abbrev Pt := G_api_Part
def nmB (b : UInt8) : Bool := b == 45 || (decide (97 ≤ b) && decide (b ≤ 122))
def okNm (s : ByteArray) : Prop := 1 ≤ s.data.toList.length ∧ s.data.toList.length ≤ 20 ∧ s.data.toList.head? ≠ some 45 ∧ s.data.toList.all nmB = true
def kindV (v : Int) : Int := if 1 ≤ v ∧ v ≤ 9 then 1 else if 10 ≤ v ∧ v ≤ 15 then 2 else if 16 ≤ v ∧ v ≤ 19 then 3 else 0
def wantW (w : Int) : Int := if 1 ≤ w ∧ w ≤ 4 then 1 else if w = 5 then 2 else if w = 6 then 3 else 0
def cU (v : Int) : Prop := v = 1 ∨ v = 2 ∨ v = 3 ∨ v = 4 ∨ v = 5 ∨ v = 7 ∨ v = 9 ∨ v = 14 ∨ v = 15 ∨ v = 16 ∨ v = 19
def sU (v w : Int) : Prop := v = 11 ∨ w = 9
def tU (v w : Int) : Prop := v = 12 ∨ v = 13 ∨ w = 10
instance (v : Int) : Decidable (cU v) := by unfold cU; infer_instance
instance (v w : Int) : Decidable (sU v w) := by unfold sU; infer_instance
instance (v w : Int) : Decidable (tU v w) := by unfold tU; infer_instance
def lowV (v : Int) : Int := if v = 9 ∨ v = 15 then -99 else if v = 5 then -9 else if v = 14 then 0 else 1
def highV (v : Int) : Int := if v = 5 then 9 else 99
def okCount (v x : Int) : Prop := if cU v then lowV v ≤ x ∧ x ≤ highV v ∧ (v = 14 ∨ x ≠ 0) else x = 0
def inU (u : Prop) [Decidable u] (x most : Int) : Prop := if u then 1 ≤ x ∧ x ≤ most else x = 0
def okAbout (p : Pt) : Prop :=
 if kindV p.Verb = 1 then (if p.Whom = 3 then p.When = 1 else ¬ ((p.Whom = 1 ∨ p.Whom = 2) ∧ (p.Verb = 6 ∨ p.Verb = 8 ∨ p.Verb = 9)))
 else if kindV p.Verb = 2 then ¬ (p.Whom = 1 ∨ p.Whom = 2) ∧ p.Whom ≠ 3
 else p.Whom ≠ 3
open Classical in
noncomputable def chkP (p : Pt) : Int :=
 if p.When < 1 ∨ 6 < p.When ∨ p.Verb < 1 ∨ 19 < p.Verb ∨ p.Whom < 1 ∨ 10 < p.Whom then 2
 else if kindV p.Verb ≠ wantW p.When ∨ p.Verb = 11 ∧ p.Whom = 9 then 8
 else if ¬ okAbout p then 13
 else if ¬ okCount p.Verb p.Count then 2
 else if ¬ (inU (sU p.Verb p.Whom) p.Suit 6 ∧ inU (tU p.Verb p.Whom) p.Trait 8 ∧ inU (p.Verb = 9) p.Mark 4) then 2
 else if (if p.Verb = 7 then ¬ okNm p.Name else p.Name.data.toList ≠ []) then 4
 else 0
structure Cd where
 g : G_api_Card
 ps : List Pt
def bare (g : G_api_Card) : G_api_Card := { g with Parts := ⟨none, 0, 0⟩ }
open Classical in
noncomputable def chkPs (k : Int) : List Pt -> Int
 | [] => 0
 | p :: r => if chkP p ≠ 0 then chkP p else if k = 2 ∧ p.When ≠ 1 ∨ k = 3 ∧ p.When = 4 then 8 else chkPs k r
open Classical in
noncomputable def chkF (c : Cd) : Int :=
 if ¬ okNm c.g.Name then 4
 else if ¬ (1 ≤ c.g.Suit ∧ c.g.Suit ≤ 6) ∨ ¬ (1 ≤ c.g.Kind ∧ c.g.Kind ≤ 3) then 8
 else if ¬ (0 ≤ c.g.Cost ∧ c.g.Cost ≤ 10) ∨ ¬ (0 ≤ c.g.Power ∧ c.g.Power ≤ 99) ∨ ¬ (0 ≤ c.g.Health ∧ c.g.Health ≤ 99) then 2
 else if c.g.Kind = 1 ∧ c.g.Health = 0 ∨ c.g.Kind ≠ 1 ∧ (c.g.Power ≠ 0 ∨ c.g.Health ≠ 0) then 8
 else if ¬ (c.g.Traits < 256) ∨ c.g.Kind = 2 ∧ c.g.Token = true then 8
 else if 4 < c.ps.length then 3
 else 0
noncomputable def chkC (c : Cd) : Int := if chkF c = 0 then chkPs c.g.Kind c.ps else chkF c
theorem chkF_len {c : Cd} (h : chkF c = 0) : c.ps.length ≤ 4 := by
 unfold chkF at h
 repeat' split at h
 all_goals first | omega | (exfalso; exact absurd h (by decide))
def ahd (c d : Cd) : Bool := decide (c.g.Suit < d.g.Suit) || (c.g.Suit == d.g.Suit && Op.bytesLess c.g.Name.toList d.g.Name.toList)
theorem ahd_tr {a b c : Cd} (h : ahd a b = true) (k : ahd b c = true) : ahd a c = true := by
 unfold ahd at *
 simp only [Bool.or_eq_true, Bool.and_eq_true, decide_eq_true_eq, beq_iff_eq] at *
 rcases h with h | ⟨h1, h2⟩ <;> rcases k with k | ⟨k1, k2⟩
 ·exact .inl (by omega)
 ·exact .inl (by omega)
 ·exact .inl (by omega)
 ·exact .inr ⟨by omega, bl_tr h2 k2⟩
theorem ahd_tot {a b : Cd} (hn : a.g.Name.toList ≠ b.g.Name.toList) (h : ahd a b = false) : ahd b a = true := by
 unfold ahd at *
 simp only [Bool.or_eq_true, Bool.and_eq_true, decide_eq_true_eq, beq_iff_eq, Bool.or_eq_false_iff, Bool.and_eq_false_iff, decide_eq_false_iff_not, beq_eq_false_iff_ne, ne_eq] at *
 by_cases e : a.g.Suit = b.g.Suit
 ·refine .inr ⟨e.symm, bl_tot hn ?_⟩
  rcases h.2 with q | q
  ·exact absurd e q
  ·exact q
 ·exact .inl (by omega)
def nameIn (B : List Cd) (s : ByteArray) : Option Nat := B.findIdx? fun d => d.g.Name.toList == s.toList
open Classical in
noncomputable def addE (B : List Cd) (c : Cd) : Int := if chkC c ≠ 0 then chkC c else if (nameIn B c.g.Name).isSome then 5 else if 64 ≤ B.length then 14 else 0
open Classical in
noncomputable def addC (B : List Cd) (c : Cd) : List Cd := if addE B c = 0 then insL ahd c B else B
structure OkB (B : List Cd) : Prop where
 few : B.length ≤ 64
 srt : SrtL ahd B
 ok : ∀ c ∈ B, chkC c = 0
theorem addC_ok {B : List Cd} (h : OkB B) (c : Cd) : OkB (addC B c) := by
 unfold addC
 split
 ·rename_i e
  unfold addE at e
  split at e
  ·rename_i e2; exact absurd e e2
  ·rename_i e2
   split at e
   ·cases e
   ·rename_i e3
    split at e
    ·cases e
    ·rename_i e4
     have e2 : chkC c = 0 := Classical.byContradiction e2
     refine ⟨by rw [insL_len]; omega, insL_srt (lt := ahd) (fun h k => ahd_tr h k) h.srt fun y hy hl => ahd_tot (fun en => ?_) hl, fun d hd => ?_⟩
     ·apply e3
      unfold nameIn
      rw [List.findIdx?_isSome, List.any_eq_true]
      exact ⟨y, hy, by rw [en]; simp⟩
     ·rcases mem_insL.1 hd with rfl | hd
      ·exact e2
      ·exact h.ok d hd
 ·exact h
open Classical in
noncomputable def markE (ms : List G_api_MarkInfo) (m : G_api_MarkInfo) : Int :=
 if m.Mark < 1 ∨ 4 < m.Mark ∨ m.Power < -9 ∨ 9 < m.Power ∨ m.Health < -9 ∨ 9 < m.Health then 2
 else if ¬ okNm m.Name then 4
 else if (∃ x, ms[m.Mark.toNat]? = some x ∧ x.Mark ≠ 0) ∨ (∃ x ∈ ms, x.Name.toList = m.Name.toList) then 5
 else 0
open Classical in
noncomputable def addM (ms : List G_api_MarkInfo) (m : G_api_MarkInfo) : List G_api_MarkInfo := if markE ms m = 0 then ms.set m.Mark.toNat m else ms
def callE (B : List Cd) (p : Pt) : Int := if p.Verb = 7 then (match nameIn B p.Name with | none => 6 | some i => if (B[i]?.map fun c => c.g.Kind) = some 2 then 8 else 0) else 0
def firstE (B : List Cd) : List Pt -> Int
 | [] => 0
 | p :: r => if callE B p ≠ 0 then callE B p else firstE B r
def sealE (B : List Cd) : Int := firstE B (B.flatMap (·.ps))
end Go.Proofs.YtolekmhhkopooaaGreatDoor.Zq
end
section
namespace Go.Proofs.YtolekmhhkopooaaGreatDoor
open Go Zq
namespace Zv
set_option maxRecDepth 100000
set_option linter.unusedVariables false
def S_law24_TargetAll (a0 : G_law24_Table) (a1 : Int) (a2 : Int) (a3 : G_api_Thing) (H : Heap) (Q : Bool × Unit -> Heap -> Prop) : Prop :=
CALL P [T_ptr, T_ptr, T_bool] n_kit_Books [(T_G_kit_Fill.enc a0.Fill)] H fun (x1 : (Option Addr) × (Option Addr) × Bool × Unit) H1 =>
CALL P [T_sl] n_law24_Table_features [(T_G_law24_Table.enc a0), (.pointer x1.2.1)] H1 fun (x2 : Sl × Unit) H2 =>
CALL P [T_sl] n_kit_LentThings [a0.Things.v] H2 fun (x3 : Sl × Unit) H3 =>
CALL P [T_sl] n_kit_LentFeatures [x2.1.v] H3 fun (x4 : Sl × Unit) H4 =>
GENV T_sl (aSlice E 26 x3.1.v none (some (.int .i64 (a0.Things.len : Int))) none H4) fun (x5 : Sl) =>
GENV T_sl (aSlice E 27 x4.1.v none (some (.int .i64 (x2.1.len : Int))) none H4) fun (x6 : Sl) =>
CALL P [T_sl] n_target_All [(.pointer x1.1), x5.v, x6.v, (.int .i64 a1)] H4 fun (x7 : Sl × Unit) H5 =>
CALL P [T_sl] n_target_All [(.pointer x1.1), x5.v, x6.v, (.int .i64 a1)] H5 fun (x8 : Sl × Unit) H6 =>
JOIN (fun (j9 : (Bool × Unit) × (Unit) -> Heap -> Prop) =>
ifB (!x1.2.2.1) (
j9 ((true, ()), (())) H6) (
CALL P [T_sl] n_ref24_All [(.pointer x1.2.1), a0.Things.v, x2.1.v, (.int .i64 a1)] H6 fun (x11 : Sl × Unit) H8 =>
CALL P [T_bool] n_kit_SameInts [x7.1.v, x11.1.v] H8 fun (x12 : Bool × Unit) H9 =>
ifB (!x12.1) (
j9 ((true, ()), (())) H9) (
CALL P [T_bool] n_kit_SameInts [x8.1.v, x7.1.v] H9 fun (x13 : Bool × Unit) H10 =>
ifB (!x13.1) (
j9 ((true, ()), (())) H10) (
CALL P [T_bool] n_target_Needs [(.pointer x1.1), (T_G_api_Thing.enc a3)] H10 fun (x14 : Bool × Unit) H11 =>
REQ ((some (.agg #[(.int .i64 a3.Card), (.int .i64 a3.Owner), (.int .u8 a3.Place), (.int .i64 a3.Stamp), (.int .i64 a3.Hurt), (.int .i64 a3.Marks.1), (.int .i64 a3.Marks.2.1), (.int .i64 a3.Marks.2.2.1), (.int .i64 a3.Marks.2.2.2), (.int .i64 a3.Done), (.bool a3.Fresh)]) : Option Value) = some (.agg #[(.int .i64 a3.Card), (.int .i64 a3.Owner), (.int .u8 a3.Place), (.int .i64 a3.Stamp), (.int .i64 a3.Hurt), (.int .i64 a3.Marks.1), (.int .i64 a3.Marks.2.1), (.int .i64 a3.Marks.2.2.1), (.int .i64 a3.Marks.2.2.2), (.int .i64 a3.Done), (.bool a3.Fresh)])) (
CALL P [T_bool] n_ref24_Needs [(.pointer x1.2.1), (T_G_api_Thing.enc a3)] H11 fun (x15 : Bool × Unit) H12 =>
j9 ((!(x14.1 == x15.1), ()), (())) H12))))) fun (y10 : (Bool × Unit) × (Unit)) H7 =>
ifB y10.1.1 (
Q (false, ()) H7) (
CALL P [T_bool] n_target_May [(.pointer x1.1), x5.v, x6.v, (.int .i64 a1), (.int .i64 a2)] H7 fun (x16 : Bool × Unit) H13 =>
REQ ((some (.slice a0.Things.p a0.Things.len a0.Things.cap) : Option Value) = some (.slice a0.Things.p a0.Things.len a0.Things.cap)) (
CALL P [T_bool] n_ref24_May [(.pointer x1.2.1), a0.Things.v, x2.1.v, (.int .i64 a1), (.int .i64 a2)] H13 fun (x17 : Bool × Unit) H14 =>
ifB (!(x16.1 == x17.1)) (
Q (false, ()) H14) (
JOIN (fun (j18 : (Bool × Unit) × (Unit) -> Heap -> Prop) =>
CALL P [T_bool] n_kit_KeptThings [x3.1.v, a0.Things.v] H14 fun (x20 : Bool × Unit) H16 =>
ifB x20.1 (
CALL P [T_bool] n_kit_KeptFeatures [x4.1.v, x2.1.v] H16 fun (x21 : Bool × Unit) H17 =>
ifB x21.1 (
NEW H17 [(.slice x7.1.p x7.1.len x7.1.cap), (.slice x8.1.p x8.1.len x8.1.cap)] 1 fun H18 =>
CALL P [T_bool] n_kit_ApartInts [((Sl.mk (some ⟨H17.length, 0, none⟩) 2 2)).v] H18 fun (x22 : Bool × Unit) H19 =>
j18 ((x22.1, ()), (())) H19) (
j18 ((false, ()), (())) H17)) (
j18 ((false, ()), (())) H16)) fun (y19 : (Bool × Unit) × (Unit)) H15 =>
Q (y19.1.1, ()) H15)))
def h_law24_TargetAll : Hnt := (.seq .leaf (.seq .leaf (.seq .leaf (.seq .leaf (.seq .leaf (.seq .leaf (.seq (.seq (.reg ⟨[(80, T_bool)], [], [53, 54, 55, 56, 57, 58, 59, 60, 61, 62, 63, 64, 65, 66, 67, 68, 69, 70, 71, 72, 73, 74, 75, 76, 77, 78, 79]⟩) .leaf) (.seq .leaf (.seq (.reg ⟨[(8, T_bool)], [], [95, 96, 97, 98, 99, 100, 101, 102, 103, 104, 105, 106, 107, 108, 109]⟩) .leaf)))))))))
theorem e_law24_TargetAll (a0 : G_law24_Table) (a1 : Int) (a2 : Int) (a3 : G_api_Thing) (H : Heap) (Q : Bool × Unit -> Heap -> Prop) : S_law24_TargetAll a0 a1 a2 a3 H Q = cFn C [4, 7] Tryz.f4.ntmps Tryz.f4.results.toList [T_bool] (bodyOf Tryz.f4) h_law24_TargetAll [(T_G_law24_Table.enc a0), (.int .i64 a1), (.int .i64 a2), (T_G_api_Thing.enc a3)] H Q := by kernel_rfl
theorem c_law24_TargetAll {a0 : G_law24_Table} {a1 : Int} {a2 : Int} {a3 : G_api_Thing} {H : Heap} {Q : Bool × Unit -> Heap -> Prop} (h : S_law24_TargetAll a0 a1 a2 a3 H Q) : CALL P [T_bool] n_law24_TargetAll [(T_G_law24_Table.enc a0), (.int .i64 a1), (.int .i64 a2), (T_G_api_Thing.enc a3)] H Q := call_print hE Tryz.func4 rfl (by kernel_rfl) (e_law24_TargetAll a0 a1 a2 a3 H Q) h
def S_kit_Books (a0 : G_kit_Fill) (H : Heap) (Q : (Option Addr) × (Option Addr) × Bool × Unit -> Heap -> Prop) : Prop :=
CALL P [T_ptr] n_book_New [] H fun (x1 : (Option Addr) × Unit) H1 =>
CALL P [T_ptr] n_ref07_New [] H1 fun (x2 : (Option Addr) × Unit) H2 =>
JOIN (fun (j3 : (Unit) × (Unit) -> Heap -> Prop) =>
LOOP (fun (r5 : (Int × Unit) × (Unit) -> Heap -> Prop) (s6 : (Int × Unit) × (Unit)) H4 =>
ifB (decide (s6.1.1 < (a0.Cards.len : Int))) (
IDX a0.Cards.p a0.Cards.len s6.1.1 9 fun b7 o8 =>
LD T_G_api_Card H4 b7 o8 fun (x9 : G_api_Card) =>
IDX a0.Cards.p a0.Cards.len s6.1.1 9 fun b10 o11 =>
LD T_G_api_Card H4 b10 o11 fun (x12 : G_api_Card) =>
CALL P [T_G_api_Card] n_kit_CopyCard [(T_G_api_Card.enc x9)] H4 fun (x13 : G_api_Card × Unit) H5 =>
REQ ((some (.slice a0.Cards.p a0.Cards.len a0.Cards.cap) : Option Value) = some (.slice a0.Cards.p a0.Cards.len a0.Cards.cap)) (
LD T_G_api_Card H5 b10 o11 fun (x14 : G_api_Card) =>
REQ (T_G_api_Card.enc x14 = (T_G_api_Card.enc x12)) (
CALL P [(T_int .i64)] n_book_Book_Card [(.pointer x1.1), (T_G_api_Card.enc x13.1)] H5 fun (x15 : Int × Unit) H6 =>
REQ ((some (.slice a0.Cards.p a0.Cards.len a0.Cards.cap) : Option Value) = some (.slice a0.Cards.p a0.Cards.len a0.Cards.cap)) (
LD T_G_api_Card H6 b10 o11 fun (x16 : G_api_Card) =>
REQ (T_G_api_Card.enc x16 = (T_G_api_Card.enc x12)) (
CALL P [T_G_api_Card] n_kit_CopyCard [(T_G_api_Card.enc x12)] H6 fun (x17 : G_api_Card × Unit) H7 =>
CALL P [(T_int .i64)] n_ref07_Book_Card [(.pointer x2.1), (T_G_api_Card.enc x17.1)] H7 fun (x18 : Int × Unit) H8 =>
ifB (x15.1 != x18.1) (
Q (x1.1, x2.1, false, ()) H8) (
r5 ((IntKind.wrap .i64 (s6.1.1 + 1), ()), (())) H8)))))) (
j3 ((()), (())) H4)) ((0, ()), (())) H2) fun (y4 : (Unit) × (Unit)) H3 =>
JOIN (fun (j19 : (Unit) × (Unit) -> Heap -> Prop) =>
LOOP (fun (r21 : (Int × Unit) × (Unit) -> Heap -> Prop) (s22 : (Int × Unit) × (Unit)) H10 =>
ifB (decide (s22.1.1 < (a0.Marks.len : Int))) (
IDX a0.Marks.p a0.Marks.len s22.1.1 4 fun b23 o24 =>
LD T_G_api_MarkInfo H10 b23 o24 fun (x25 : G_api_MarkInfo) =>
IDX a0.Marks.p a0.Marks.len s22.1.1 4 fun b26 o27 =>
LD T_G_api_MarkInfo H10 b26 o27 fun (x28 : G_api_MarkInfo) =>
CALL P [(T_int .i64)] n_book_Book_Mark [(.pointer x1.1), (T_G_api_MarkInfo.enc x25)] H10 fun (x29 : Int × Unit) H11 =>
REQ ((some (.slice a0.Marks.p a0.Marks.len a0.Marks.cap) : Option Value) = some (.slice a0.Marks.p a0.Marks.len a0.Marks.cap)) (
LD T_G_api_MarkInfo H11 b26 o27 fun (x30 : G_api_MarkInfo) =>
REQ (T_G_api_MarkInfo.enc x30 = (T_G_api_MarkInfo.enc x28)) (
CALL P [(T_int .i64)] n_ref07_Book_Mark [(.pointer x2.1), (T_G_api_MarkInfo.enc x28)] H11 fun (x31 : Int × Unit) H12 =>
ifB (x29.1 != x31.1) (
Q (x1.1, x2.1, false, ()) H12) (
r21 ((IntKind.wrap .i64 (s22.1.1 + 1), ()), (())) H12)))) (
j19 ((()), (())) H10)) ((0, ()), (())) H3) fun (y20 : (Unit) × (Unit)) H9 =>
JOIN (fun (j32 : (Bool × Unit) × (Unit) -> Heap -> Prop) =>
ifB (!a0.Open) (
CALL P [(T_int .i64)] n_book_Book_Seal [(.pointer x1.1)] H9 fun (x34 : Int × Unit) H14 =>
CALL P [(T_int .i64)] n_ref07_Book_Seal [(.pointer x2.1)] H14 fun (x35 : Int × Unit) H15 =>
j32 ((x34.1 != x35.1, ()), (())) H15) (
j32 ((false, ()), (())) H9)) fun (y33 : (Bool × Unit) × (Unit)) H13 =>
ifB y33.1.1 (
Q (x1.1, x2.1, false, ()) H13) (
CALL P [T_bool] n_book_Book_Sealed [(.pointer x1.1)] H13 fun (x36 : Bool × Unit) H16 =>
CALL P [T_bool] n_ref07_Book_Sealed [(.pointer x2.1)] H16 fun (x37 : Bool × Unit) H17 =>
Q (x1.1, x2.1, (x36.1 == x37.1), ()) H17)
def h_kit_Books : Hnt := (.seq .leaf (.seq .leaf (.seq (.seq .leaf (.blk (some ⟨[], [], [2, 3, 4, 7, 11, 12, 13, 14, 15, 16, 17, 18, 19, 20, 21, 22, 23, 24, 25, 26, 27, 28, 29, 30, 31, 32, 33, 34, 35, 36]⟩) (.loop ⟨[(7, (T_int .i64))], [], [2, 3, 4, 11, 12, 13, 14, 15, 16, 17, 18, 19, 20, 21, 22, 23, 24, 25, 26, 27, 28, 29, 30, 31, 32, 33, 34, 35, 36]⟩ .leaf))) (.seq (.seq .leaf (.blk (some ⟨[], [], [2, 3, 4, 8, 37, 38, 39, 40, 41, 42, 43, 44, 45, 46, 47, 48, 49, 50, 51, 52, 53, 54, 55, 56, 57, 58, 59, 60]⟩) (.loop ⟨[(8, (T_int .i64))], [], [2, 3, 4, 37, 38, 39, 40, 41, 42, 43, 44, 45, 46, 47, 48, 49, 50, 51, 52, 53, 54, 55, 56, 57, 58, 59, 60]⟩ .leaf))) (.seq (.seq (.reg ⟨[(70, T_bool)], [], [61, 62, 63, 64, 65, 66, 67, 68, 69]⟩) .leaf) .leaf)))))
theorem e_kit_Books (a0 : G_kit_Fill) (H : Heap) (Q : (Option Addr) × (Option Addr) × Bool × Unit -> Heap -> Prop) : S_kit_Books a0 H Q = cFn C [1] Tryz.f10.ntmps Tryz.f10.results.toList [T_ptr, T_ptr, T_bool] (bodyOf Tryz.f10) h_kit_Books [(T_G_kit_Fill.enc a0)] H Q := by kernel_rfl
theorem c_kit_Books {a0 : G_kit_Fill} {H : Heap} {Q : (Option Addr) × (Option Addr) × Bool × Unit -> Heap -> Prop} (h : S_kit_Books a0 H Q) : CALL P [T_ptr, T_ptr, T_bool] n_kit_Books [(T_G_kit_Fill.enc a0)] H Q := call_print hE Tryz.func10 rfl (by kernel_rfl) (e_kit_Books a0 H Q) h
def S_law24_Table_features (a0 : G_law24_Table) (a1 : Option Addr) (H : Heap) (Q : Sl × Unit -> Heap -> Prop) : Prop :=
JOIN (fun (j1 : (Unit) × (Unit) -> Heap -> Prop) =>
ifB a0.Own (
CALL P [T_sl, (T_int .i64)] n_ref20_Of [(.pointer a1), a0.Things.v] H fun (x3 : Sl × Int × Unit) H2 =>
ifB (x3.2.1 == 0) (
Q (x3.1, ()) H2) (
j1 ((()), (())) H2)) (
j1 ((()), (())) H)) fun (y2 : (Unit) × (Unit)) H1 =>
Q (a0.Fs, ()) H1
def h_law24_Table_features : Hnt := (.seq .leaf (.seq (.seq .leaf (.cond (some ⟨[], [], [4, 5, 6, 9, 10, 11, 12, 13, 14, 15, 16, 17, 18]⟩) .leaf .leaf)) .leaf))
theorem e_law24_Table_features (a0 : G_law24_Table) (a1 : Option Addr) (H : Heap) (Q : Sl × Unit -> Heap -> Prop) : S_law24_Table_features a0 a1 H Q = cFn C [2] Tryz.f11.ntmps Tryz.f11.results.toList [T_sl] (bodyOf Tryz.f11) h_law24_Table_features [(T_G_law24_Table.enc a0), (.pointer a1)] H Q := by kernel_rfl
theorem c_law24_Table_features {a0 : G_law24_Table} {a1 : Option Addr} {H : Heap} {Q : Sl × Unit -> Heap -> Prop} (h : S_law24_Table_features a0 a1 H Q) : CALL P [T_sl] n_law24_Table_features [(T_G_law24_Table.enc a0), (.pointer a1)] H Q := call_print hE Tryz.func11 rfl (by kernel_rfl) (e_law24_Table_features a0 a1 H Q) h
def S_target_All (a0 : Option Addr) (a1 : Sl) (a2 : Sl) (a3 : Int) (H : Heap) (Q : Sl × Unit -> Heap -> Prop) : Prop :=
NEW H [(.pointer a0)] 1 fun H1 =>
NEW H1 [(.slice a1.p a1.len a1.cap)] 1 fun H2 =>
NEW H2 [(.slice a2.p a2.len a2.cap)] 1 fun H3 =>
NEW H3 [(.int .i64 a3)] 1 fun H4 =>
LD T_ptr H4 H.length 0 fun (x1 : Option Addr) =>
LD T_sl H4 H1.length 0 fun (x2 : Sl) =>
LD T_sl H4 H2.length 0 fun (x3 : Sl) =>
LD (T_int .i64) H4 H3.length 0 fun (x4 : Int) =>
CALL P [T_bool] n_target_asked [(.pointer x1), x2.v, x3.v, (.int .i64 x4)] H4 fun (x5 : Bool × Unit) H5 =>
ifB (!x5.1) (
Q ((Sl.mk none 0 0), ()) H5) (
NEW H5 [(.int .i64 (-1)), (.int .i64 (-2))] 1 fun H6 =>
LD T_sl H6 H1.length 0 fun (x6 : Sl) =>
CALL P [T_sl] n_target_gone [(.int .i64 1), (.int .i64 (x6.len : Int)), (.func (.func n_target_All_1) #[] #[(.pointer (some ⟨H.length, 0, none⟩)), (.pointer (some ⟨H1.length, 0, none⟩)), (.pointer (some ⟨H2.length, 0, none⟩)), (.pointer (some ⟨H3.length, 0, none⟩))])] H6 fun (x7 : Sl × Unit) H7 =>
APP T_sl (lenV ((Sl.mk (some ⟨H5.length, 0, none⟩) 2 2)).v + (lenX x7.1.v).getD 0) (aAppendE E [35, 35] ((Sl.mk (some ⟨H5.length, 0, none⟩) 2 2)).v x7.1.v H7) fun (x8 : Sl) H8 =>
Q (x8, ()) H8)
def h_target_All : Hnt := .leaf
theorem e_target_All (a0 : Option Addr) (a1 : Sl) (a2 : Sl) (a3 : Int) (H : Heap) (Q : Sl × Unit -> Heap -> Prop) : S_target_All a0 a1 a2 a3 H Q = cFn C [] Tryz.f12.ntmps Tryz.f12.results.toList [T_sl] (bodyOf Tryz.f12) h_target_All [(.pointer a0), a1.v, a2.v, (.int .i64 a3)] H Q := by kernel_rfl
theorem c_target_All {a0 : Option Addr} {a1 : Sl} {a2 : Sl} {a3 : Int} {H : Heap} {Q : Sl × Unit -> Heap -> Prop} (h : S_target_All a0 a1 a2 a3 H Q) : CALL P [T_sl] n_target_All [(.pointer a0), a1.v, a2.v, (.int .i64 a3)] H Q := call_print hE Tryz.func12 rfl (by kernel_rfl) (e_target_All a0 a1 a2 a3 H Q) h
def S_target_May (a0 : Option Addr) (a1 : Sl) (a2 : Sl) (a3 : Int) (a4 : Int) (H : Heap) (Q : Bool × Unit -> Heap -> Prop) : Prop :=
CALL P [T_bool] n_target_asked [(.pointer a0), a1.v, a2.v, (.int .i64 a3)] H fun (x1 : Bool × Unit) H1 =>
ifB (!x1.1) (
Q (false, ()) H1) (
JOIN (fun (j2 : (Bool × Unit) × (Unit) -> Heap -> Prop) =>
ifB (a4 == (-1)) (
j2 ((true, ()), (())) H1) (
j2 ((a4 == (-2), ()), (())) H1)) fun (y3 : (Bool × Unit) × (Unit)) H2 =>
ifB y3.1.1 (
Q (true, ()) H2) (
JOIN (fun (j4 : (Bool × Unit) × (Unit) -> Heap -> Prop) =>
ifB (decide (a4 < 1)) (
j4 ((true, ()), (())) H2) (
ifB (decide (a4 > (a1.len : Int))) (
j4 ((true, ()), (())) H2) (
IDX a1.p a1.len (IntKind.wrap .i64 (a4 - 1)) 11 fun b6 o7 =>
LD T_G_api_Thing H2 b6 o7 fun (x8 : G_api_Thing) =>
CALL P [T_bool] n_thing_Unit [(.pointer a0), (T_G_api_Thing.enc x8)] H2 fun (x9 : Bool × Unit) H4 =>
j4 ((!x9.1, ()), (())) H4))) fun (y5 : (Bool × Unit) × (Unit)) H3 =>
ifB y5.1.1 (
Q (false, ()) H3) (
IDX a2.p a2.len (IntKind.wrap .i64 (a4 - 1)) 5 fun b10 o11 =>
LD T_G_api_Feature H3 b10 o11 fun (x12 : G_api_Feature) =>
JOIN (fun (j13 : (Bool × Unit) × (Unit) -> Heap -> Prop) =>
ifB (x12.Holder == a3) (
j13 ((true, ()), (())) H3) (
CALL P [T_bool] n_trait_Has [(.int .u16 x12.Traits), (.int .u8 4)] H3 fun (x15 : Bool × Unit) H6 =>
j13 ((!x15.1, ()), (())) H6)) fun (y14 : (Bool × Unit) × (Unit)) H5 =>
Q (y14.1.1, ()) H5)))
def h_target_May : Hnt := (.seq .leaf (.seq (.blk none (.seq .leaf (.cond none .leaf (.seq (.reg ⟨[(19, T_bool)], [], [20, 21, 22, 23, 24, 25]⟩) (.cond none .leaf (.seq (.reg ⟨[(26, T_bool)], [], [27, 28, 29, 30, 31, 32, 33, 34, 35, 36, 37, 38, 39, 40, 41, 42, 43, 44]⟩) .leaf)))))) (.seq .leaf (.seq (.reg ⟨[(10, T_bool)], [], [50, 51, 52, 53, 54, 55, 56, 57, 58, 59]⟩) .leaf))))
theorem e_target_May (a0 : Option Addr) (a1 : Sl) (a2 : Sl) (a3 : Int) (a4 : Int) (H : Heap) (Q : Bool × Unit -> Heap -> Prop) : S_target_May a0 a1 a2 a3 a4 H Q = cFn C [11] Tryz.f13.ntmps Tryz.f13.results.toList [T_bool] (bodyOf Tryz.f13) h_target_May [(.pointer a0), a1.v, a2.v, (.int .i64 a3), (.int .i64 a4)] H Q := by kernel_rfl
theorem c_target_May {a0 : Option Addr} {a1 : Sl} {a2 : Sl} {a3 : Int} {a4 : Int} {H : Heap} {Q : Bool × Unit -> Heap -> Prop} (h : S_target_May a0 a1 a2 a3 a4 H Q) : CALL P [T_bool] n_target_May [(.pointer a0), a1.v, a2.v, (.int .i64 a3), (.int .i64 a4)] H Q := call_print hE Tryz.func13 rfl (by kernel_rfl) (e_target_May a0 a1 a2 a3 a4 H Q) h
def S_kit_LentThings (a0 : Sl) (H : Heap) (Q : Sl × Unit -> Heap -> Prop) : Prop :=
GEN T_sl (aMakeSlice E 26 (.int .i64 0) (.int .i64 (IntKind.wrap .i64 ((a0.len : Int) + 2))) H) fun (x1 : Sl) H1 =>
APP T_sl (lenV x1.v + (lenX a0.v).getD 0) (aAppendE E [26, 26] x1.v a0.v H1) fun (x2 : Sl) H2 =>
APP T_sl (lenV x2.v + 2) (aAppE E [26, 26] x2.v 2 [(.int .i64 (-77)), (.int .i64 0), (.int .u8 0), (.int .i64 0), (.int .i64 0), (.int .i64 0), (.int .i64 0), (.int .i64 0), (.int .i64 0), (.int .i64 0), (.bool false), (.int .i64 (-77)), (.int .i64 0), (.int .u8 0), (.int .i64 0), (.int .i64 0), (.int .i64 0), (.int .i64 0), (.int .i64 0), (.int .i64 0), (.int .i64 0), (.bool false)] H2) fun (x3 : Sl) H3 =>
Q (x3, ()) H3
def h_kit_LentThings : Hnt := .leaf
theorem e_kit_LentThings (a0 : Sl) (H : Heap) (Q : Sl × Unit -> Heap -> Prop) : S_kit_LentThings a0 H Q = cFn C [14] Tryz.f16.ntmps Tryz.f16.results.toList [T_sl] (bodyOf Tryz.f16) h_kit_LentThings [a0.v] H Q := by kernel_rfl
theorem c_kit_LentThings {a0 : Sl} {H : Heap} {Q : Sl × Unit -> Heap -> Prop} (h : S_kit_LentThings a0 H Q) : CALL P [T_sl] n_kit_LentThings [a0.v] H Q := call_print hE Tryz.func16 rfl (by kernel_rfl) (e_kit_LentThings a0 H Q) h
def S_kit_LentFeatures (a0 : Sl) (H : Heap) (Q : Sl × Unit -> Heap -> Prop) : Prop :=
GEN T_sl (aMakeSlice E 27 (.int .i64 0) (.int .i64 (IntKind.wrap .i64 ((a0.len : Int) + 2))) H) fun (x1 : Sl) H1 =>
APP T_sl (lenV x1.v + (lenX a0.v).getD 0) (aAppendE E [27, 27] x1.v a0.v H1) fun (x2 : Sl) H2 =>
APP T_sl (lenV x2.v + 2) (aAppE E [27, 27] x2.v 2 [(.int .i64 (-77)), (.int .u8 0), (.int .u16 0), (.int .i64 0), (.int .i64 0), (.int .i64 (-77)), (.int .u8 0), (.int .u16 0), (.int .i64 0), (.int .i64 0)] H2) fun (x3 : Sl) H3 =>
Q (x3, ()) H3
def h_kit_LentFeatures : Hnt := .leaf
theorem e_kit_LentFeatures (a0 : Sl) (H : Heap) (Q : Sl × Unit -> Heap -> Prop) : S_kit_LentFeatures a0 H Q = cFn C [14] Tryz.f17.ntmps Tryz.f17.results.toList [T_sl] (bodyOf Tryz.f17) h_kit_LentFeatures [a0.v] H Q := by kernel_rfl
theorem c_kit_LentFeatures {a0 : Sl} {H : Heap} {Q : Sl × Unit -> Heap -> Prop} (h : S_kit_LentFeatures a0 H Q) : CALL P [T_sl] n_kit_LentFeatures [a0.v] H Q := call_print hE Tryz.func17 rfl (by kernel_rfl) (e_kit_LentFeatures a0 H Q) h
def S_kit_SameInts (a0 : Sl) (a1 : Sl) (H : Heap) (Q : Bool × Unit -> Heap -> Prop) : Prop :=
ifB ((a0.len : Int) != (a1.len : Int)) (
Q (false, ()) H) (
JOIN (fun (j1 : (Unit) × (Unit) -> Heap -> Prop) =>
LOOP (fun (r3 : (Int × Unit) × (Unit) -> Heap -> Prop) (s4 : (Int × Unit) × (Unit)) H2 =>
ifB (decide (s4.1.1 < (a0.len : Int))) (
IDX a0.p a0.len s4.1.1 1 fun b5 o6 =>
LD (T_int .i64) H2 b5 o6 fun (x7 : Int) =>
IDX a1.p a1.len s4.1.1 1 fun b8 o9 =>
LD (T_int .i64) H2 b8 o9 fun (x10 : Int) =>
ifB (x7 != x10) (
Q (false, ()) H2) (
r3 ((IntKind.wrap .i64 (s4.1.1 + 1), ()), (())) H2)) (
j1 ((()), (())) H2)) ((0, ()), (())) H) fun (y2 : (Unit) × (Unit)) H1 =>
Q (true, ()) H1)
def h_kit_SameInts : Hnt := (.seq .leaf (.seq .leaf (.seq (.seq .leaf (.blk (some ⟨[], [], [4, 5, 11, 12, 13, 14, 15, 16, 17, 18, 19, 20, 21, 22, 23, 24, 25]⟩) (.loop ⟨[(5, (T_int .i64))], [], [4, 11, 12, 13, 14, 15, 16, 17, 18, 19, 20, 21, 22, 23, 24, 25]⟩ .leaf))) .leaf)))
theorem e_kit_SameInts (a0 : Sl) (a1 : Sl) (H : Heap) (Q : Bool × Unit -> Heap -> Prop) : S_kit_SameInts a0 a1 H Q = cFn C [] Tryz.f18.ntmps Tryz.f18.results.toList [T_bool] (bodyOf Tryz.f18) h_kit_SameInts [a0.v, a1.v] H Q := by kernel_rfl
theorem c_kit_SameInts {a0 : Sl} {a1 : Sl} {H : Heap} {Q : Bool × Unit -> Heap -> Prop} (h : S_kit_SameInts a0 a1 H Q) : CALL P [T_bool] n_kit_SameInts [a0.v, a1.v] H Q := call_print hE Tryz.func18 rfl (by kernel_rfl) (e_kit_SameInts a0 a1 H Q) h
def S_ref24_All (a0 : Option Addr) (a1 : Sl) (a2 : Sl) (a3 : Int) (H : Heap) (Q : Sl × Unit -> Heap -> Prop) : Prop :=
CALL P [T_bool] n_ref24_fits [(.pointer a0), a1.v, a2.v, (.int .i64 a3)] H fun (x1 : Bool × Unit) H1 =>
ifB (!x1.1) (
Q ((Sl.mk none 0 0), ()) H1) (
NEW H1 [(.int .i64 (-1)), (.int .i64 (-2))] 1 fun H2 =>
JOIN (fun (j2 : (Sl × Unit) × (Unit) -> Heap -> Prop) =>
LOOP (fun (r4 : (Sl × Int × Unit) × (Unit) -> Heap -> Prop) (s5 : (Sl × Int × Unit) × (Unit)) H4 =>
ifB (decide (s5.1.2.1 ≤ (a1.len : Int))) (
CALL P [T_bool] n_ref24_may [(.pointer a0), a1.v, a2.v, (.int .i64 a3), (.int .i64 s5.1.2.1)] H4 fun (x6 : Bool × Unit) H5 =>
JOIN (fun (j7 : (Sl × Unit) × (Unit) -> Heap -> Prop) =>
ifB x6.1 (
APP T_sl (lenV s5.1.1.v + 1) (aAppE E [35, 35] s5.1.1.v 1 [(.int .i64 s5.1.2.1)] H5) fun (x9 : Sl) H7 =>
j7 ((x9, ()), (())) H7) (
j7 ((s5.1.1, ()), (())) H5)) fun (y8 : (Sl × Unit) × (Unit)) H6 =>
r4 ((y8.1.1, IntKind.wrap .i64 (s5.1.2.1 + 1), ()), (())) H6) (
j2 ((s5.1.1, ()), (())) H4)) (((Sl.mk (some ⟨H1.length, 0, none⟩) 2 2), 1, ()), (())) H2) fun (y3 : (Sl × Unit) × (Unit)) H3 =>
Q (y3.1.1, ()) H3)
def h_ref24_All : Hnt := (.seq .leaf (.seq .leaf (.seq .leaf (.seq (.seq .leaf (.blk (some ⟨[(9, T_sl)], [], [10, 18, 19, 20, 21, 22, 23, 24, 25, 26, 27, 28, 29, 30, 31, 32, 33]⟩) (.loop ⟨[(9, T_sl), (10, (T_int .i64))], [], [18, 19, 20, 21, 22, 23, 24, 25, 26, 27, 28, 29, 30, 31, 32, 33]⟩ (.seq .leaf (.seq (.blk none (.seq .leaf (.cond (some ⟨[(9, T_sl)], [], [30, 31, 32, 33]⟩) .leaf .leaf))) .leaf))))) .leaf))))
theorem e_ref24_All (a0 : Option Addr) (a1 : Sl) (a2 : Sl) (a3 : Int) (H : Heap) (Q : Sl × Unit -> Heap -> Prop) : S_ref24_All a0 a1 a2 a3 H Q = cFn C [32] Tryz.f19.ntmps Tryz.f19.results.toList [T_sl] (bodyOf Tryz.f19) h_ref24_All [(.pointer a0), a1.v, a2.v, (.int .i64 a3)] H Q := by kernel_rfl
theorem c_ref24_All {a0 : Option Addr} {a1 : Sl} {a2 : Sl} {a3 : Int} {H : Heap} {Q : Sl × Unit -> Heap -> Prop} (h : S_ref24_All a0 a1 a2 a3 H Q) : CALL P [T_sl] n_ref24_All [(.pointer a0), a1.v, a2.v, (.int .i64 a3)] H Q := call_print hE Tryz.func19 rfl (by kernel_rfl) (e_ref24_All a0 a1 a2 a3 H Q) h
def S_target_Needs (a0 : Option Addr) (a1 : G_api_Thing) (H : Heap) (Q : Bool × Unit -> Heap -> Prop) : Prop :=
CALL P [T_G_api_Card, (T_int .i64)] n_thing_Card [(.pointer a0), (T_G_api_Thing.enc a1)] H fun (x1 : G_api_Card × Int × Unit) H1 =>
JOIN (fun (j2 : (Bool × Unit) × (Unit) -> Heap -> Prop) =>
ifB (x1.2.1 == 0) (
CALL P [T_bool] n_card_Means [(T_G_api_Card.enc x1.1)] H1 fun (x4 : Bool × Unit) H3 =>
j2 ((x4.1, ()), (())) H3) (
j2 ((false, ()), (())) H1)) fun (y3 : (Bool × Unit) × (Unit)) H2 =>
Q (y3.1.1, ()) H2
def h_target_Needs : Hnt := (.seq .leaf (.seq .leaf (.seq (.reg ⟨[(4, T_bool)], [], [13, 14, 15, 16, 17, 18]⟩) .leaf)))
theorem e_target_Needs (a0 : Option Addr) (a1 : G_api_Thing) (H : Heap) (Q : Bool × Unit -> Heap -> Prop) : S_target_Needs a0 a1 H Q = cFn C [3, 5] Tryz.f20.ntmps Tryz.f20.results.toList [T_bool] (bodyOf Tryz.f20) h_target_Needs [(.pointer a0), (T_G_api_Thing.enc a1)] H Q := by kernel_rfl
theorem c_target_Needs {a0 : Option Addr} {a1 : G_api_Thing} {H : Heap} {Q : Bool × Unit -> Heap -> Prop} (h : S_target_Needs a0 a1 H Q) : CALL P [T_bool] n_target_Needs [(.pointer a0), (T_G_api_Thing.enc a1)] H Q := call_print hE Tryz.func20 rfl (by kernel_rfl) (e_target_Needs a0 a1 H Q) h
def S_ref24_Needs (a0 : Option Addr) (a1 : G_api_Thing) (H : Heap) (Q : Bool × Unit -> Heap -> Prop) : Prop :=
CALL P [T_G_api_Card, (T_int .i64)] n_ref18_Card [(.pointer a0), (T_G_api_Thing.enc a1)] H fun (x1 : G_api_Card × Int × Unit) H1 =>
JOIN (fun (j2 : (Bool × Unit) × (Unit) -> Heap -> Prop) =>
ifB (x1.2.1 == 0) (
CALL P [T_bool] n_ref06_Means [(T_G_api_Card.enc x1.1)] H1 fun (x4 : Bool × Unit) H3 =>
j2 ((x4.1, ()), (())) H3) (
j2 ((false, ()), (())) H1)) fun (y3 : (Bool × Unit) × (Unit)) H2 =>
Q (y3.1.1, ()) H2
def h_ref24_Needs : Hnt := (.seq .leaf (.seq .leaf (.seq (.reg ⟨[(4, T_bool)], [], [13, 14, 15, 16, 17, 18]⟩) .leaf)))
theorem e_ref24_Needs (a0 : Option Addr) (a1 : G_api_Thing) (H : Heap) (Q : Bool × Unit -> Heap -> Prop) : S_ref24_Needs a0 a1 H Q = cFn C [3, 5] Tryz.f21.ntmps Tryz.f21.results.toList [T_bool] (bodyOf Tryz.f21) h_ref24_Needs [(.pointer a0), (T_G_api_Thing.enc a1)] H Q := by kernel_rfl
theorem c_ref24_Needs {a0 : Option Addr} {a1 : G_api_Thing} {H : Heap} {Q : Bool × Unit -> Heap -> Prop} (h : S_ref24_Needs a0 a1 H Q) : CALL P [T_bool] n_ref24_Needs [(.pointer a0), (T_G_api_Thing.enc a1)] H Q := call_print hE Tryz.func21 rfl (by kernel_rfl) (e_ref24_Needs a0 a1 H Q) h
def S_ref24_May (a0 : Option Addr) (a1 : Sl) (a2 : Sl) (a3 : Int) (a4 : Int) (H : Heap) (Q : Bool × Unit -> Heap -> Prop) : Prop :=
JOIN (fun (j1 : (Bool × Unit) × (Unit) -> Heap -> Prop) =>
CALL P [T_bool] n_ref24_fits [(.pointer a0), a1.v, a2.v, (.int .i64 a3)] H fun (x3 : Bool × Unit) H2 =>
ifB x3.1 (
CALL P [T_bool] n_ref24_may [(.pointer a0), a1.v, a2.v, (.int .i64 a3), (.int .i64 a4)] H2 fun (x4 : Bool × Unit) H3 =>
j1 ((x4.1, ()), (())) H3) (
j1 ((false, ()), (())) H2)) fun (y2 : (Bool × Unit) × (Unit)) H1 =>
Q (y2.1.1, ()) H1
def h_ref24_May : Hnt := (.seq .leaf (.seq (.reg ⟨[(10, T_bool)], [], [11, 12, 13, 14, 15, 16, 17, 18, 19, 20, 21, 22, 23]⟩) .leaf))
theorem e_ref24_May (a0 : Option Addr) (a1 : Sl) (a2 : Sl) (a3 : Int) (a4 : Int) (H : Heap) (Q : Bool × Unit -> Heap -> Prop) : S_ref24_May a0 a1 a2 a3 a4 H Q = cFn C [] Tryz.f22.ntmps Tryz.f22.results.toList [T_bool] (bodyOf Tryz.f22) h_ref24_May [(.pointer a0), a1.v, a2.v, (.int .i64 a3), (.int .i64 a4)] H Q := by kernel_rfl
theorem c_ref24_May {a0 : Option Addr} {a1 : Sl} {a2 : Sl} {a3 : Int} {a4 : Int} {H : Heap} {Q : Bool × Unit -> Heap -> Prop} (h : S_ref24_May a0 a1 a2 a3 a4 H Q) : CALL P [T_bool] n_ref24_May [(.pointer a0), a1.v, a2.v, (.int .i64 a3), (.int .i64 a4)] H Q := call_print hE Tryz.func22 rfl (by kernel_rfl) (e_ref24_May a0 a1 a2 a3 a4 H Q) h
def S_kit_KeptThings (a0 : Sl) (a1 : Sl) (H : Heap) (Q : Bool × Unit -> Heap -> Prop) : Prop :=
CALL P [T_sl] n_kit_CopyThings [a1.v] H fun (x1 : Sl × Unit) H1 =>
APP T_sl (lenV x1.1.v + 2) (aAppE E [26, 26] x1.1.v 2 [(.int .i64 (-77)), (.int .i64 0), (.int .u8 0), (.int .i64 0), (.int .i64 0), (.int .i64 0), (.int .i64 0), (.int .i64 0), (.int .i64 0), (.int .i64 0), (.bool false), (.int .i64 (-77)), (.int .i64 0), (.int .u8 0), (.int .i64 0), (.int .i64 0), (.int .i64 0), (.int .i64 0), (.int .i64 0), (.int .i64 0), (.int .i64 0), (.bool false)] H1) fun (x2 : Sl) H2 =>
CALL P [T_bool] n_kit_SameThings [a0.v, x2.v] H2 fun (x3 : Bool × Unit) H3 =>
Q (x3.1, ()) H3
def h_kit_KeptThings : Hnt := .leaf
theorem e_kit_KeptThings (a0 : Sl) (a1 : Sl) (H : Heap) (Q : Bool × Unit -> Heap -> Prop) : S_kit_KeptThings a0 a1 H Q = cFn C [10] Tryz.f23.ntmps Tryz.f23.results.toList [T_bool] (bodyOf Tryz.f23) h_kit_KeptThings [a0.v, a1.v] H Q := by kernel_rfl
theorem c_kit_KeptThings {a0 : Sl} {a1 : Sl} {H : Heap} {Q : Bool × Unit -> Heap -> Prop} (h : S_kit_KeptThings a0 a1 H Q) : CALL P [T_bool] n_kit_KeptThings [a0.v, a1.v] H Q := call_print hE Tryz.func23 rfl (by kernel_rfl) (e_kit_KeptThings a0 a1 H Q) h
def S_kit_KeptFeatures (a0 : Sl) (a1 : Sl) (H : Heap) (Q : Bool × Unit -> Heap -> Prop) : Prop :=
CALL P [T_sl] n_kit_CopyFeatures [a1.v] H fun (x1 : Sl × Unit) H1 =>
APP T_sl (lenV x1.1.v + 2) (aAppE E [27, 27] x1.1.v 2 [(.int .i64 (-77)), (.int .u8 0), (.int .u16 0), (.int .i64 0), (.int .i64 0), (.int .i64 (-77)), (.int .u8 0), (.int .u16 0), (.int .i64 0), (.int .i64 0)] H1) fun (x2 : Sl) H2 =>
CALL P [T_bool] n_kit_SameFeatures [a0.v, x2.v] H2 fun (x3 : Bool × Unit) H3 =>
Q (x3.1, ()) H3
def h_kit_KeptFeatures : Hnt := .leaf
theorem e_kit_KeptFeatures (a0 : Sl) (a1 : Sl) (H : Heap) (Q : Bool × Unit -> Heap -> Prop) : S_kit_KeptFeatures a0 a1 H Q = cFn C [10] Tryz.f24.ntmps Tryz.f24.results.toList [T_bool] (bodyOf Tryz.f24) h_kit_KeptFeatures [a0.v, a1.v] H Q := by kernel_rfl
theorem c_kit_KeptFeatures {a0 : Sl} {a1 : Sl} {H : Heap} {Q : Bool × Unit -> Heap -> Prop} (h : S_kit_KeptFeatures a0 a1 H Q) : CALL P [T_bool] n_kit_KeptFeatures [a0.v, a1.v] H Q := call_print hE Tryz.func24 rfl (by kernel_rfl) (e_kit_KeptFeatures a0 a1 H Q) h
def S_kit_ApartInts (a0 : Sl) (H : Heap) (Q : Bool × Unit -> Heap -> Prop) : Prop :=
JOIN (fun (j1 : (Sl × Unit) × (Unit) -> Heap -> Prop) =>
LOOP (fun (r3 : (Sl × Int × Unit) × (Unit) -> Heap -> Prop) (s4 : (Sl × Int × Unit) × (Unit)) H2 =>
ifB (decide (s4.1.2.1 < (a0.len : Int))) (
IDX a0.p a0.len s4.1.2.1 1 fun b5 o6 =>
LD T_sl H2 b5 o6 fun (x7 : Sl) =>
IDX a0.p a0.len s4.1.2.1 1 fun b8 o9 =>
LD T_sl H2 b8 o9 fun (x10 : Sl) =>
GENV (T_int .i64) (aCap E 35 x10.v H2) fun (x11 : Int) =>
LD T_sl H2 b5 o6 fun (x12 : Sl) =>
REQ (T_sl.enc x12 = x7.v) (
GENV T_sl (aSlice E 35 x7.v none (some (.int .i64 x11)) none H2) fun (x13 : Sl) =>
APP T_sl (lenV s4.1.1.v + 1) (aAppE E [60, 60] s4.1.1.v 1 [(.slice x13.p x13.len x13.cap)] H2) fun (x14 : Sl) H3 =>
r3 ((x14, IntKind.wrap .i64 (s4.1.2.1 + 1), ()), (())) H3)) (
j1 ((s4.1.1, ()), (())) H2)) (((Sl.mk none 0 0), 0, ()), (())) H) fun (y2 : (Sl × Unit) × (Unit)) H1 =>
JOIN (fun (j15 : (Unit) × (Unit) -> Heap -> Prop) =>
LOOP (fun (r17 : (Int × Unit) × (Unit) -> Heap -> Prop) (s18 : (Int × Unit) × (Unit)) H5 =>
ifB (decide (s18.1.1 < (y2.1.1.len : Int))) (
JOIN (fun (j19 : (Unit) × (Unit) -> Heap -> Prop) =>
JOIN (fun (j21 : (Unit) × (Unit) -> Heap -> Prop) =>
LOOP (fun (r23 : (Int × Unit) × (Unit) -> Heap -> Prop) (s24 : (Int × Unit) × (Unit)) H8 =>
IDX y2.1.1.p y2.1.1.len s18.1.1 1 fun b25 o26 =>
LD T_sl H8 b25 o26 fun (x27 : Sl) =>
ifB (decide (s24.1.1 < (x27.len : Int))) (
IDX y2.1.1.p y2.1.1.len s18.1.1 1 fun b28 o29 =>
LD T_sl H8 b28 o29 fun (x30 : Sl) =>
CALL P [(T_int .i64)] n_kit_markInts [(.int .i64 s18.1.1), (.int .i64 s24.1.1)] H8 fun (x31 : Int × Unit) H9 =>
LD T_sl H9 b28 o29 fun (x32 : Sl) =>
REQ (T_sl.enc x32 = x30.v) (
IDX x30.p x30.len s24.1.1 1 fun b33 o34 =>
ST H9 b33 o34 [(.int .i64 x31.1)] fun H10 =>
r23 ((IntKind.wrap .i64 (s24.1.1 + 1), ()), (())) H10)) (
j21 ((()), (())) H8)) ((0, ()), (())) H5) fun (y22 : (Unit) × (Unit)) H7 =>
j19 ((()), (())) H7) fun (y20 : (Unit) × (Unit)) H6 =>
r17 ((IntKind.wrap .i64 (s18.1.1 + 1), ()), (())) H6) (
j15 ((()), (())) H5)) ((0, ()), (())) H1) fun (y16 : (Unit) × (Unit)) H4 =>
JOIN (fun (j35 : (Unit) × (Unit) -> Heap -> Prop) =>
LOOP (fun (r37 : (Int × Unit) × (Unit) -> Heap -> Prop) (s38 : (Int × Unit) × (Unit)) H12 =>
ifB (decide (s38.1.1 < (y2.1.1.len : Int))) (
JOIN (fun (j39 : (Unit) × (Unit) -> Heap -> Prop) =>
JOIN (fun (j41 : (Unit) × (Unit) -> Heap -> Prop) =>
LOOP (fun (r43 : (Int × Unit) × (Unit) -> Heap -> Prop) (s44 : (Int × Unit) × (Unit)) H15 =>
IDX y2.1.1.p y2.1.1.len s38.1.1 1 fun b45 o46 =>
LD T_sl H15 b45 o46 fun (x47 : Sl) =>
ifB (decide (s44.1.1 < (x47.len : Int))) (
IDX y2.1.1.p y2.1.1.len s38.1.1 1 fun b48 o49 =>
LD T_sl H15 b48 o49 fun (x50 : Sl) =>
IDX x50.p x50.len s44.1.1 1 fun b51 o52 =>
LD (T_int .i64) H15 b51 o52 fun (x53 : Int) =>
CALL P [(T_int .i64)] n_kit_markInts [(.int .i64 s38.1.1), (.int .i64 s44.1.1)] H15 fun (x54 : Int × Unit) H16 =>
LD T_sl H16 b48 o49 fun (x55 : Sl) =>
REQ (T_sl.enc x55 = x50.v) (
LD (T_int .i64) H16 b51 o52 fun (x56 : Int) =>
REQ ((T_int .i64).enc x56 = (.int .i64 x53)) (
ifB (x53 != x54.1) (
Q (false, ()) H16) (
r43 ((IntKind.wrap .i64 (s44.1.1 + 1), ()), (())) H16)))) (
j41 ((()), (())) H15)) ((0, ()), (())) H12) fun (y42 : (Unit) × (Unit)) H14 =>
j39 ((()), (())) H14) fun (y40 : (Unit) × (Unit)) H13 =>
r37 ((IntKind.wrap .i64 (s38.1.1 + 1), ()), (())) H13) (
j35 ((()), (())) H12)) ((0, ()), (())) H4) fun (y36 : (Unit) × (Unit)) H11 =>
Q (true, ()) H11
def h_kit_ApartInts : Hnt := (.seq .leaf (.seq .leaf (.seq (.seq .leaf (.blk (some ⟨[(3, T_sl)], [], [4, 9, 10, 11, 12, 13, 14, 15, 16, 17, 18, 19, 20, 21, 22, 23, 24, 25, 26, 27]⟩) (.loop ⟨[(3, T_sl), (4, (T_int .i64))], [], [9, 10, 11, 12, 13, 14, 15, 16, 17, 18, 19, 20, 21, 22, 23, 24, 25, 26, 27]⟩ .leaf))) (.seq (.seq .leaf (.blk (some ⟨[], [], [5, 6, 28, 29, 30, 31, 32, 33, 34, 35, 36, 37, 38, 39, 40, 41, 42, 43, 44, 45, 46, 47, 48, 49, 50, 51]⟩) (.loop ⟨[(5, (T_int .i64))], [], [6, 28, 29, 30, 31, 32, 33, 34, 35, 36, 37, 38, 39, 40, 41, 42, 43, 44, 45, 46, 47, 48, 49, 50, 51]⟩ (.seq .leaf (.seq (.blk (some ⟨[], [], [6, 34, 35, 36, 37, 38, 39, 40, 41, 42, 43, 44, 45, 46, 47, 48, 49, 50, 51]⟩) (.seq .leaf (.blk (some ⟨[], [], [6, 34, 35, 36, 37, 38, 39, 40, 41, 42, 43, 44, 45, 46, 47, 48, 49, 50, 51]⟩) (.loop ⟨[(6, (T_int .i64))], [], [34, 35, 36, 37, 38, 39, 40, 41, 42, 43, 44, 45, 46, 47, 48, 49, 50, 51]⟩ .leaf)))) .leaf))))) (.seq (.seq .leaf (.blk (some ⟨[], [], [2, 7, 8, 52, 53, 54, 55, 56, 57, 58, 59, 60, 61, 62, 63, 64, 65, 66, 67, 68, 69, 70, 71, 72, 73, 74, 75, 76, 77]⟩) (.loop ⟨[(7, (T_int .i64))], [], [2, 8, 52, 53, 54, 55, 56, 57, 58, 59, 60, 61, 62, 63, 64, 65, 66, 67, 68, 69, 70, 71, 72, 73, 74, 75, 76, 77]⟩ (.seq .leaf (.seq (.blk (some ⟨[], [], [2, 8, 58, 59, 60, 61, 62, 63, 64, 65, 66, 67, 68, 69, 70, 71, 72, 73, 74, 75, 76, 77]⟩) (.seq .leaf (.blk (some ⟨[], [], [2, 8, 58, 59, 60, 61, 62, 63, 64, 65, 66, 67, 68, 69, 70, 71, 72, 73, 74, 75, 76, 77]⟩) (.loop ⟨[(8, (T_int .i64))], [], [2, 58, 59, 60, 61, 62, 63, 64, 65, 66, 67, 68, 69, 70, 71, 72, 73, 74, 75, 76, 77]⟩ .leaf)))) .leaf))))) .leaf)))))
theorem e_kit_ApartInts (a0 : Sl) (H : Heap) (Q : Bool × Unit -> Heap -> Prop) : S_kit_ApartInts a0 H Q = cFn C [26] Tryz.f25.ntmps Tryz.f25.results.toList [T_bool] (bodyOf Tryz.f25) h_kit_ApartInts [a0.v] H Q := by kernel_rfl
theorem c_kit_ApartInts {a0 : Sl} {H : Heap} {Q : Bool × Unit -> Heap -> Prop} (h : S_kit_ApartInts a0 H Q) : CALL P [T_bool] n_kit_ApartInts [a0.v] H Q := call_print hE Tryz.func25 rfl (by kernel_rfl) (e_kit_ApartInts a0 H Q) h
def S_kit_CopyThings (a0 : Sl) (H : Heap) (Q : Sl × Unit -> Heap -> Prop) : Prop :=
APP T_sl (lenV ((Sl.mk none 0 0)).v + (lenX a0.v).getD 0) (aAppendE E [26, 26] ((Sl.mk none 0 0)).v a0.v H) fun (x1 : Sl) H1 =>
Q (x1, ()) H1
def h_kit_CopyThings : Hnt := .leaf
theorem e_kit_CopyThings (a0 : Sl) (H : Heap) (Q : Sl × Unit -> Heap -> Prop) : S_kit_CopyThings a0 H Q = cFn C [] Tryz.f29.ntmps Tryz.f29.results.toList [T_sl] (bodyOf Tryz.f29) h_kit_CopyThings [a0.v] H Q := by kernel_rfl
theorem c_kit_CopyThings {a0 : Sl} {H : Heap} {Q : Sl × Unit -> Heap -> Prop} (h : S_kit_CopyThings a0 H Q) : CALL P [T_sl] n_kit_CopyThings [a0.v] H Q := call_print hE Tryz.func29 rfl (by kernel_rfl) (e_kit_CopyThings a0 H Q) h
def S_kit_SameFeatures (a0 : Sl) (a1 : Sl) (H : Heap) (Q : Bool × Unit -> Heap -> Prop) : Prop :=
ifB ((a0.len : Int) != (a1.len : Int)) (
Q (false, ()) H) (
JOIN (fun (j1 : (Unit) × (Unit) -> Heap -> Prop) =>
LOOP (fun (r3 : (Int × Unit) × (Unit) -> Heap -> Prop) (s4 : (Int × Unit) × (Unit)) H2 =>
ifB (decide (s4.1.1 < (a0.len : Int))) (
IDX a0.p a0.len s4.1.1 5 fun b5 o6 =>
LD T_G_api_Feature H2 b5 o6 fun (x7 : G_api_Feature) =>
IDX a1.p a1.len s4.1.1 5 fun b8 o9 =>
LD T_G_api_Feature H2 b8 o9 fun (x10 : G_api_Feature) =>
ifB (!((x7.Holder == x10.Holder) && ((x7.Suit == x10.Suit) && ((x7.Traits == x10.Traits) && ((x7.Power == x10.Power) && ((x7.Health == x10.Health) && true)))))) (
Q (false, ()) H2) (
r3 ((IntKind.wrap .i64 (s4.1.1 + 1), ()), (())) H2)) (
j1 ((()), (())) H2)) ((0, ()), (())) H) fun (y2 : (Unit) × (Unit)) H1 =>
Q (true, ()) H1)
def h_kit_SameFeatures : Hnt := (.seq .leaf (.seq .leaf (.seq (.seq .leaf (.blk (some ⟨[], [], [4, 5, 11, 12, 13, 14, 15, 16, 17, 18, 19, 20, 21, 22, 23, 24, 25]⟩) (.loop ⟨[(5, (T_int .i64))], [], [4, 11, 12, 13, 14, 15, 16, 17, 18, 19, 20, 21, 22, 23, 24, 25]⟩ .leaf))) .leaf)))
theorem e_kit_SameFeatures (a0 : Sl) (a1 : Sl) (H : Heap) (Q : Bool × Unit -> Heap -> Prop) : S_kit_SameFeatures a0 a1 H Q = cFn C [] Tryz.f31.ntmps Tryz.f31.results.toList [T_bool] (bodyOf Tryz.f31) h_kit_SameFeatures [a0.v, a1.v] H Q := by kernel_rfl
theorem c_kit_SameFeatures {a0 : Sl} {a1 : Sl} {H : Heap} {Q : Bool × Unit -> Heap -> Prop} (h : S_kit_SameFeatures a0 a1 H Q) : CALL P [T_bool] n_kit_SameFeatures [a0.v, a1.v] H Q := call_print hE Tryz.func31 rfl (by kernel_rfl) (e_kit_SameFeatures a0 a1 H Q) h
def S_layer_Effects (a0 : Option Addr) (a1 : Sl) (a2 : Sl) (a3 : Int) (H : Heap) (Q : Sl × Int × Unit -> Heap -> Prop) : Prop :=
CALL P [T_G_layer_place, (T_int .i64)] n_layer_setup [(.pointer a0), a1.v, a2.v] H fun (x1 : G_layer_place × Int × Unit) H1 =>
ifB (x1.2.1 != 0) (
Q ((Sl.mk none 0 0), x1.2.1, ()) H1) (
JOIN (fun (j2 : (Bool × Unit) × (Unit) -> Heap -> Prop) =>
ifB (decide (a3 < 1)) (
j2 ((true, ()), (())) H1) (
j2 ((decide (a3 > 5), ()), (())) H1)) fun (y3 : (Bool × Unit) × (Unit)) H2 =>
ifB y3.1.1 (
Q ((Sl.mk none 0 0), 2, ()) H2) (
CALL P [T_sl] n_layer_place_effects [(T_G_layer_place.enc x1.1), a2.v, (.int .i64 a3)] H2 fun (x4 : Sl × Unit) H3 =>
Q (x4.1, 0, ()) H3))
def h_layer_Effects : Hnt := (.seq .leaf (.seq .leaf (.seq (.blk none (.seq .leaf (.cond none .leaf (.seq (.reg ⟨[(23, T_bool)], [], [24, 25, 26, 27, 28, 29]⟩) .leaf)))) .leaf)))
theorem e_layer_Effects (a0 : Option Addr) (a1 : Sl) (a2 : Sl) (a3 : Int) (H : Heap) (Q : Sl × Int × Unit -> Heap -> Prop) : S_layer_Effects a0 a1 a2 a3 H Q = cFn C [10] Tryz.f33.ntmps Tryz.f33.results.toList [T_sl, (T_int .i64)] (bodyOf Tryz.f33) h_layer_Effects [(.pointer a0), a1.v, a2.v, (.int .i64 a3)] H Q := by kernel_rfl
theorem c_layer_Effects {a0 : Option Addr} {a1 : Sl} {a2 : Sl} {a3 : Int} {H : Heap} {Q : Sl × Int × Unit -> Heap -> Prop} (h : S_layer_Effects a0 a1 a2 a3 H Q) : CALL P [T_sl, (T_int .i64)] n_layer_Effects [(.pointer a0), a1.v, a2.v, (.int .i64 a3)] H Q := call_print hE Tryz.func33 rfl (by kernel_rfl) (e_layer_Effects a0 a1 a2 a3 H Q) h
def S_kit_CopyFeatures (a0 : Sl) (H : Heap) (Q : Sl × Unit -> Heap -> Prop) : Prop :=
APP T_sl (lenV ((Sl.mk none 0 0)).v + (lenX a0.v).getD 0) (aAppendE E [27, 27] ((Sl.mk none 0 0)).v a0.v H) fun (x1 : Sl) H1 =>
Q (x1, ()) H1
def h_kit_CopyFeatures : Hnt := .leaf
theorem e_kit_CopyFeatures (a0 : Sl) (H : Heap) (Q : Sl × Unit -> Heap -> Prop) : S_kit_CopyFeatures a0 H Q = cFn C [] Tryz.f37.ntmps Tryz.f37.results.toList [T_sl] (bodyOf Tryz.f37) h_kit_CopyFeatures [a0.v] H Q := by kernel_rfl
theorem c_kit_CopyFeatures {a0 : Sl} {H : Heap} {Q : Sl × Unit -> Heap -> Prop} (h : S_kit_CopyFeatures a0 H Q) : CALL P [T_sl] n_kit_CopyFeatures [a0.v] H Q := call_print hE Tryz.func37 rfl (by kernel_rfl) (e_kit_CopyFeatures a0 H Q) h
def S_effect_Layer (a0 : Int) (H : Heap) (Q : Int × Unit -> Heap -> Prop) : Prop :=
ifB (a0 == 10) (
Q (1, ()) H) (
ifB (a0 == 11) (
Q (2, ()) H) (
JOIN (fun (j1 : (Bool × Unit) × (Unit) -> Heap -> Prop) =>
ifB (a0 == 12) (
j1 ((a0 == 12, ()), (())) H) (
j1 ((a0 == 13, ()), (())) H)) fun (y2 : (Bool × Unit) × (Unit)) H1 =>
ifB y2.1.1 (
Q (3, ()) H1) (
ifB (a0 == 14) (
Q (4, ()) H1) (
ifB (a0 == 15) (
Q (5, ()) H1) (
Q (0, ()) H1)))))
def h_effect_Layer : Hnt := (.seq .leaf (.seq (.seq .leaf (.blk none (.seq .leaf (.cond none .leaf (.seq .leaf (.cond none .leaf (.seq (.seq .leaf (.cond (some ⟨[(8, T_bool)], [], [10]⟩) .leaf .leaf)) .leaf))))))) .leaf))
theorem e_effect_Layer (a0 : Int) (H : Heap) (Q : Int × Unit -> Heap -> Prop) : S_effect_Layer a0 H Q = cFn C [] Tryz.f39.ntmps Tryz.f39.results.toList [(T_int .i64)] (bodyOf Tryz.f39) h_effect_Layer [(.int .u8 a0)] H Q := by kernel_rfl
theorem c_effect_Layer {a0 : Int} {H : Heap} {Q : Int × Unit -> Heap -> Prop} (h : S_effect_Layer a0 H Q) : CALL P [(T_int .i64)] n_effect_Layer [(.int .u8 a0)] H Q := call_print hE Tryz.func39 rfl (by kernel_rfl) (e_effect_Layer a0 H Q) h
def S_ref19_Effects (a0 : Option Addr) (a1 : Sl) (a2 : Sl) (a3 : Int) (H : Heap) (Q : Sl × Int × Unit -> Heap -> Prop) : Prop :=
CALL P [(T_int .i64)] n_ref19_wrong [(.pointer a0), a1.v, a2.v] H fun (x1 : Int × Unit) H1 =>
ifB (x1.1 != 0) (
Q ((Sl.mk none 0 0), x1.1, ()) H1) (
JOIN (fun (j2 : (Bool × Unit) × (Unit) -> Heap -> Prop) =>
ifB (decide (a3 < 1)) (
j2 ((true, ()), (())) H1) (
j2 ((decide (a3 > 5), ()), (())) H1)) fun (y3 : (Bool × Unit) × (Unit)) H2 =>
ifB y3.1.1 (
Q ((Sl.mk none 0 0), 2, ()) H2) (
CALL P [T_sl] n_ref19_effects [(.pointer a0), a1.v, a2.v, (.int .i64 a3)] H2 fun (x4 : Sl × Unit) H3 =>
Q (x4.1, 0, ()) H3))
def h_ref19_Effects : Hnt := (.seq .leaf (.seq .leaf (.seq .leaf (.seq (.seq (.reg ⟨[(23, T_bool)], [], [18, 19, 20, 21, 22]⟩) .leaf) .leaf))))
theorem e_ref19_Effects (a0 : Option Addr) (a1 : Sl) (a2 : Sl) (a3 : Int) (H : Heap) (Q : Sl × Int × Unit -> Heap -> Prop) : S_ref19_Effects a0 a1 a2 a3 H Q = cFn C [] Tryz.f44.ntmps Tryz.f44.results.toList [T_sl, (T_int .i64)] (bodyOf Tryz.f44) h_ref19_Effects [(.pointer a0), a1.v, a2.v, (.int .i64 a3)] H Q := by kernel_rfl
theorem c_ref19_Effects {a0 : Option Addr} {a1 : Sl} {a2 : Sl} {a3 : Int} {H : Heap} {Q : Sl × Int × Unit -> Heap -> Prop} (h : S_ref19_Effects a0 a1 a2 a3 H Q) : CALL P [T_sl, (T_int .i64)] n_ref19_Effects [(.pointer a0), a1.v, a2.v, (.int .i64 a3)] H Q := call_print hE Tryz.func44 rfl (by kernel_rfl) (e_ref19_Effects a0 a1 a2 a3 H Q) h
def S_ref19_All (a0 : Option Addr) (a1 : Sl) (a2 : Sl) (a3 : Int) (H : Heap) (Q : Sl × Sl × Int × Unit -> Heap -> Prop) : Prop :=
CALL P [T_sl, (T_int .i64)] n_ref19_Effects [(.pointer a0), a1.v, a2.v, (.int .i64 a3)] H fun (x1 : Sl × Int × Unit) H1 =>
ifB (x1.2.1 != 0) (
Q ((Sl.mk none 0 0), (Sl.mk none 0 0), x1.2.1, ()) H1) (
APP T_sl (lenV ((Sl.mk none 0 0)).v + (lenX a2.v).getD 0) (aAppendE E [27, 27] ((Sl.mk none 0 0)).v a2.v H1) fun (x2 : Sl) H2 =>
JOIN (fun (j3 : (Sl × Sl × Unit) × (Unit) -> Heap -> Prop) =>
LOOP (fun (r5 : (Sl × Sl × Sl × Unit) × (Unit) -> Heap -> Prop) (s6 : (Sl × Sl × Sl × Unit) × (Unit)) H4 =>
ifB (decide ((s6.1.1.len : Int) > 0)) (
CALL P [(T_int .i64)] n_ref19_next [(.pointer a0), a1.v, s6.1.2.1.v, s6.1.1.v] H4 fun (x7 : Int × Unit) H5 =>
IDX s6.1.1.p s6.1.1.len x7.1 10 fun b8 o9 =>
LD T_G_api_Standing H5 b8 o9 fun (x10 : G_api_Standing) =>
CALL P [T_sl] n_ref19_apply [(.pointer a0), a1.v, s6.1.2.1.v, (T_G_api_Standing.enc x10)] H5 fun (x11 : Sl × Unit) H6 =>
IDX s6.1.1.p s6.1.1.len x7.1 10 fun b12 o13 =>
LD T_G_api_Standing H6 b12 o13 fun (x14 : G_api_Standing) =>
APP T_sl (lenV s6.1.2.2.1.v + 1) (aAppE E [66, 66] s6.1.2.2.1.v 1 (T_G_api_Standing.cells x14) H6) fun (x15 : Sl) H7 =>
GENV T_sl (aSlice E 66 s6.1.1.v none (some (.int .i64 x7.1)) none H7) fun (x16 : Sl) =>
APP T_sl (lenV ((Sl.mk none 0 0)).v + (lenX x16.v).getD 0) (aAppendE E [66, 66] ((Sl.mk none 0 0)).v x16.v H7) fun (x17 : Sl) H8 =>
GENV T_sl (aSlice E 66 s6.1.1.v (some (.int .i64 (IntKind.wrap .i64 (x7.1 + 1)))) none none H8) fun (x18 : Sl) =>
APP T_sl (lenV x17.v + (lenX x18.v).getD 0) (aAppendE E [66, 66] x17.v x18.v H8) fun (x19 : Sl) H9 =>
r5 ((x19, x11.1, x15, ()), (())) H9) (
j3 ((s6.1.2.1, s6.1.2.2.1, ()), (())) H4)) ((x1.1, x2, (Sl.mk none 0 0), ()), (())) H2) fun (y4 : (Sl × Sl × Unit) × (Unit)) H3 =>
Q (y4.1.1, y4.1.2.1, 0, ()) H3)
def h_ref19_All : Hnt := (.seq .leaf (.seq .leaf (.seq .leaf (.seq .leaf (.seq .leaf (.seq .leaf (.seq (.blk (some ⟨[(13, T_sl), (14, T_sl)], [], [11, 15, 16, 31, 32, 33, 34, 35, 36, 37, 38, 39, 40, 41, 42, 43, 44, 45, 46, 47, 48, 49, 50, 51, 52, 53, 54, 55, 56, 57, 58, 59, 60, 61, 62, 63, 64]⟩) (.loop ⟨[(11, T_sl), (13, T_sl), (14, T_sl)], [], [15, 16, 31, 32, 33, 34, 35, 36, 37, 38, 39, 40, 41, 42, 43, 44, 45, 46, 47, 48, 49, 50, 51, 52, 53, 54, 55, 56, 57, 58, 59, 60, 61, 62, 63, 64]⟩ .leaf)) .leaf)))))))
theorem e_ref19_All (a0 : Option Addr) (a1 : Sl) (a2 : Sl) (a3 : Int) (H : Heap) (Q : Sl × Sl × Int × Unit -> Heap -> Prop) : S_ref19_All a0 a1 a2 a3 H Q = cFn C [52] Tryz.f45.ntmps Tryz.f45.results.toList [T_sl, T_sl, (T_int .i64)] (bodyOf Tryz.f45) h_ref19_All [(.pointer a0), a1.v, a2.v, (.int .i64 a3)] H Q := by kernel_rfl
theorem c_ref19_All {a0 : Option Addr} {a1 : Sl} {a2 : Sl} {a3 : Int} {H : Heap} {Q : Sl × Sl × Int × Unit -> Heap -> Prop} (h : S_ref19_All a0 a1 a2 a3 H Q) : CALL P [T_sl, T_sl, (T_int .i64)] n_ref19_All [(.pointer a0), a1.v, a2.v, (.int .i64 a3)] H Q := call_print hE Tryz.func45 rfl (by kernel_rfl) (e_ref19_All a0 a1 a2 a3 H Q) h
def S_kit_ApartFeatures (a0 : Sl) (H : Heap) (Q : Bool × Unit -> Heap -> Prop) : Prop :=
JOIN (fun (j1 : (Sl × Unit) × (Unit) -> Heap -> Prop) =>
LOOP (fun (r3 : (Sl × Int × Unit) × (Unit) -> Heap -> Prop) (s4 : (Sl × Int × Unit) × (Unit)) H2 =>
ifB (decide (s4.1.2.1 < (a0.len : Int))) (
IDX a0.p a0.len s4.1.2.1 1 fun b5 o6 =>
LD T_sl H2 b5 o6 fun (x7 : Sl) =>
IDX a0.p a0.len s4.1.2.1 1 fun b8 o9 =>
LD T_sl H2 b8 o9 fun (x10 : Sl) =>
GENV (T_int .i64) (aCap E 27 x10.v H2) fun (x11 : Int) =>
LD T_sl H2 b5 o6 fun (x12 : Sl) =>
REQ (T_sl.enc x12 = x7.v) (
GENV T_sl (aSlice E 27 x7.v none (some (.int .i64 x11)) none H2) fun (x13 : Sl) =>
APP T_sl (lenV s4.1.1.v + 1) (aAppE E [100, 100] s4.1.1.v 1 [(.slice x13.p x13.len x13.cap)] H2) fun (x14 : Sl) H3 =>
r3 ((x14, IntKind.wrap .i64 (s4.1.2.1 + 1), ()), (())) H3)) (
j1 ((s4.1.1, ()), (())) H2)) (((Sl.mk none 0 0), 0, ()), (())) H) fun (y2 : (Sl × Unit) × (Unit)) H1 =>
JOIN (fun (j15 : (Unit) × (Unit) -> Heap -> Prop) =>
LOOP (fun (r17 : (Int × Unit) × (Unit) -> Heap -> Prop) (s18 : (Int × Unit) × (Unit)) H5 =>
ifB (decide (s18.1.1 < (y2.1.1.len : Int))) (
JOIN (fun (j19 : (Unit) × (Unit) -> Heap -> Prop) =>
JOIN (fun (j21 : (Unit) × (Unit) -> Heap -> Prop) =>
LOOP (fun (r23 : (Int × Unit) × (Unit) -> Heap -> Prop) (s24 : (Int × Unit) × (Unit)) H8 =>
IDX y2.1.1.p y2.1.1.len s18.1.1 1 fun b25 o26 =>
LD T_sl H8 b25 o26 fun (x27 : Sl) =>
ifB (decide (s24.1.1 < (x27.len : Int))) (
IDX y2.1.1.p y2.1.1.len s18.1.1 1 fun b28 o29 =>
LD T_sl H8 b28 o29 fun (x30 : Sl) =>
CALL P [T_G_api_Feature] n_kit_markFeatures [(.int .i64 s18.1.1), (.int .i64 s24.1.1)] H8 fun (x31 : G_api_Feature × Unit) H9 =>
LD T_sl H9 b28 o29 fun (x32 : Sl) =>
REQ (T_sl.enc x32 = x30.v) (
IDX x30.p x30.len s24.1.1 5 fun b33 o34 =>
ST H9 b33 o34 (T_G_api_Feature.cells x31.1) fun H10 =>
r23 ((IntKind.wrap .i64 (s24.1.1 + 1), ()), (())) H10)) (
j21 ((()), (())) H8)) ((0, ()), (())) H5) fun (y22 : (Unit) × (Unit)) H7 =>
j19 ((()), (())) H7) fun (y20 : (Unit) × (Unit)) H6 =>
r17 ((IntKind.wrap .i64 (s18.1.1 + 1), ()), (())) H6) (
j15 ((()), (())) H5)) ((0, ()), (())) H1) fun (y16 : (Unit) × (Unit)) H4 =>
JOIN (fun (j35 : (Unit) × (Unit) -> Heap -> Prop) =>
LOOP (fun (r37 : (Int × Unit) × (Unit) -> Heap -> Prop) (s38 : (Int × Unit) × (Unit)) H12 =>
ifB (decide (s38.1.1 < (y2.1.1.len : Int))) (
JOIN (fun (j39 : (Unit) × (Unit) -> Heap -> Prop) =>
JOIN (fun (j41 : (Unit) × (Unit) -> Heap -> Prop) =>
LOOP (fun (r43 : (Int × Unit) × (Unit) -> Heap -> Prop) (s44 : (Int × Unit) × (Unit)) H15 =>
IDX y2.1.1.p y2.1.1.len s38.1.1 1 fun b45 o46 =>
LD T_sl H15 b45 o46 fun (x47 : Sl) =>
ifB (decide (s44.1.1 < (x47.len : Int))) (
IDX y2.1.1.p y2.1.1.len s38.1.1 1 fun b48 o49 =>
LD T_sl H15 b48 o49 fun (x50 : Sl) =>
IDX x50.p x50.len s44.1.1 5 fun b51 o52 =>
LD T_G_api_Feature H15 b51 o52 fun (x53 : G_api_Feature) =>
CALL P [T_G_api_Feature] n_kit_markFeatures [(.int .i64 s38.1.1), (.int .i64 s44.1.1)] H15 fun (x54 : G_api_Feature × Unit) H16 =>
LD T_sl H16 b48 o49 fun (x55 : Sl) =>
REQ (T_sl.enc x55 = x50.v) (
LD T_G_api_Feature H16 b51 o52 fun (x56 : G_api_Feature) =>
REQ (T_G_api_Feature.enc x56 = (T_G_api_Feature.enc x53)) (
ifB (!((x53.Holder == x54.1.Holder) && ((x53.Suit == x54.1.Suit) && ((x53.Traits == x54.1.Traits) && ((x53.Power == x54.1.Power) && ((x53.Health == x54.1.Health) && true)))))) (
Q (false, ()) H16) (
r43 ((IntKind.wrap .i64 (s44.1.1 + 1), ()), (())) H16)))) (
j41 ((()), (())) H15)) ((0, ()), (())) H12) fun (y42 : (Unit) × (Unit)) H14 =>
j39 ((()), (())) H14) fun (y40 : (Unit) × (Unit)) H13 =>
r37 ((IntKind.wrap .i64 (s38.1.1 + 1), ()), (())) H13) (
j35 ((()), (())) H12)) ((0, ()), (())) H4) fun (y36 : (Unit) × (Unit)) H11 =>
Q (true, ()) H11
def h_kit_ApartFeatures : Hnt := (.seq .leaf (.seq .leaf (.seq (.seq .leaf (.blk (some ⟨[(3, T_sl)], [], [4, 9, 10, 11, 12, 13, 14, 15, 16, 17, 18, 19, 20, 21, 22, 23, 24, 25, 26, 27]⟩) (.loop ⟨[(3, T_sl), (4, (T_int .i64))], [], [9, 10, 11, 12, 13, 14, 15, 16, 17, 18, 19, 20, 21, 22, 23, 24, 25, 26, 27]⟩ .leaf))) (.seq (.seq .leaf (.blk (some ⟨[], [], [5, 6, 28, 29, 30, 31, 32, 33, 34, 35, 36, 37, 38, 39, 40, 41, 42, 43, 44, 45, 46, 47, 48, 49, 50, 51]⟩) (.loop ⟨[(5, (T_int .i64))], [], [6, 28, 29, 30, 31, 32, 33, 34, 35, 36, 37, 38, 39, 40, 41, 42, 43, 44, 45, 46, 47, 48, 49, 50, 51]⟩ (.seq .leaf (.seq (.blk (some ⟨[], [], [6, 34, 35, 36, 37, 38, 39, 40, 41, 42, 43, 44, 45, 46, 47, 48, 49, 50, 51]⟩) (.seq .leaf (.blk (some ⟨[], [], [6, 34, 35, 36, 37, 38, 39, 40, 41, 42, 43, 44, 45, 46, 47, 48, 49, 50, 51]⟩) (.loop ⟨[(6, (T_int .i64))], [], [34, 35, 36, 37, 38, 39, 40, 41, 42, 43, 44, 45, 46, 47, 48, 49, 50, 51]⟩ .leaf)))) .leaf))))) (.seq (.seq .leaf (.blk (some ⟨[], [], [2, 7, 8, 52, 53, 54, 55, 56, 57, 58, 59, 60, 61, 62, 63, 64, 65, 66, 67, 68, 69, 70, 71, 72, 73, 74, 75, 76, 77]⟩) (.loop ⟨[(7, (T_int .i64))], [], [2, 8, 52, 53, 54, 55, 56, 57, 58, 59, 60, 61, 62, 63, 64, 65, 66, 67, 68, 69, 70, 71, 72, 73, 74, 75, 76, 77]⟩ (.seq .leaf (.seq (.blk (some ⟨[], [], [2, 8, 58, 59, 60, 61, 62, 63, 64, 65, 66, 67, 68, 69, 70, 71, 72, 73, 74, 75, 76, 77]⟩) (.seq .leaf (.blk (some ⟨[], [], [2, 8, 58, 59, 60, 61, 62, 63, 64, 65, 66, 67, 68, 69, 70, 71, 72, 73, 74, 75, 76, 77]⟩) (.loop ⟨[(8, (T_int .i64))], [], [2, 58, 59, 60, 61, 62, 63, 64, 65, 66, 67, 68, 69, 70, 71, 72, 73, 74, 75, 76, 77]⟩ .leaf)))) .leaf))))) .leaf)))))
theorem e_kit_ApartFeatures (a0 : Sl) (H : Heap) (Q : Bool × Unit -> Heap -> Prop) : S_kit_ApartFeatures a0 H Q = cFn C [26] Tryz.f49.ntmps Tryz.f49.results.toList [T_bool] (bodyOf Tryz.f49) h_kit_ApartFeatures [a0.v] H Q := by kernel_rfl
theorem c_kit_ApartFeatures {a0 : Sl} {H : Heap} {Q : Bool × Unit -> Heap -> Prop} (h : S_kit_ApartFeatures a0 H Q) : CALL P [T_bool] n_kit_ApartFeatures [a0.v] H Q := call_print hE Tryz.func49 rfl (by kernel_rfl) (e_kit_ApartFeatures a0 H Q) h
end Zv
end Go.Proofs.YtolekmhhkopooaaGreatDoor
end
section
namespace Go.Proofs.YtolekmhhkopooaaGreatDoor
open Go Zq
namespace Zv
set_option maxRecDepth 100000
set_option linter.unusedVariables false
def S_book_New  (H : Heap) (Q : (Option Addr) × Unit -> Heap -> Prop) : Prop :=
NEW H [(.bool true), (.bool false), (.int .i64 0), (.string (ByteArray.mk #[])), (.int .u8 0), (.int .u8 0), (.int .i64 0), (.int .i64 0), (.int .i64 0), (.int .u16 0), (.bool false), (.slice none 0 0), (.string (ByteArray.mk #[])), (.int .u8 0), (.int .u8 0), (.int .i64 0), (.int .i64 0), (.int .i64 0), (.int .u16 0), (.bool false), (.slice none 0 0), (.string (ByteArray.mk #[])), (.int .u8 0), (.int .u8 0), (.int .i64 0), (.int .i64 0), (.int .i64 0), (.int .u16 0), (.bool false), (.slice none 0 0), (.string (ByteArray.mk #[])), (.int .u8 0), (.int .u8 0), (.int .i64 0), (.int .i64 0), (.int .i64 0), (.int .u16 0), (.bool false), (.slice none 0 0), (.string (ByteArray.mk #[])), (.int .u8 0), (.int .u8 0), (.int .i64 0), (.int .i64 0), (.int .i64 0), (.int .u16 0), (.bool false), (.slice none 0 0), (.string (ByteArray.mk #[])), (.int .u8 0), (.int .u8 0), (.int .i64 0), (.int .i64 0), (.int .i64 0), (.int .u16 0), (.bool false), (.slice none 0 0), (.string (ByteArray.mk #[])), (.int .u8 0), (.int .u8 0), (.int .i64 0), (.int .i64 0), (.int .i64 0), (.int .u16 0), (.bool false), (.slice none 0 0), (.string (ByteArray.mk #[])), (.int .u8 0), (.int .u8 0), (.int .i64 0), (.int .i64 0), (.int .i64 0), (.int .u16 0), (.bool false), (.slice none 0 0), (.string (ByteArray.mk #[])), (.int .u8 0), (.int .u8 0), (.int .i64 0), (.int .i64 0), (.int .i64 0), (.int .u16 0), (.bool false), (.slice none 0 0), (.string (ByteArray.mk #[])), (.int .u8 0), (.int .u8 0), (.int .i64 0), (.int .i64 0), (.int .i64 0), (.int .u16 0), (.bool false), (.slice none 0 0), (.string (ByteArray.mk #[])), (.int .u8 0), (.int .u8 0), (.int .i64 0), (.int .i64 0), (.int .i64 0), (.int .u16 0), (.bool false), (.slice none 0 0), (.string (ByteArray.mk #[])), (.int .u8 0), (.int .u8 0), (.int .i64 0), (.int .i64 0), (.int .i64 0), (.int .u16 0), (.bool false), (.slice none 0 0), (.string (ByteArray.mk #[])), (.int .u8 0), (.int .u8 0), (.int .i64 0), (.int .i64 0), (.int .i64 0), (.int .u16 0), (.bool false), (.slice none 0 0), (.string (ByteArray.mk #[])), (.int .u8 0), (.int .u8 0), (.int .i64 0), (.int .i64 0), (.int .i64 0), (.int .u16 0), (.bool false), (.slice none 0 0), (.string (ByteArray.mk #[])), (.int .u8 0), (.int .u8 0), (.int .i64 0), (.int .i64 0), (.int .i64 0), (.int .u16 0), (.bool false), (.slice none 0 0), (.string (ByteArray.mk #[])), (.int .u8 0), (.int .u8 0), (.int .i64 0), (.int .i64 0), (.int .i64 0), (.int .u16 0), (.bool false), (.slice none 0 0), (.string (ByteArray.mk #[])), (.int .u8 0), (.int .u8 0), (.int .i64 0), (.int .i64 0), (.int .i64 0), (.int .u16 0), (.bool false), (.slice none 0 0), (.string (ByteArray.mk #[])), (.int .u8 0), (.int .u8 0), (.int .i64 0), (.int .i64 0), (.int .i64 0), (.int .u16 0), (.bool false), (.slice none 0 0), (.string (ByteArray.mk #[])), (.int .u8 0), (.int .u8 0), (.int .i64 0), (.int .i64 0), (.int .i64 0), (.int .u16 0), (.bool false), (.slice none 0 0), (.string (ByteArray.mk #[])), (.int .u8 0), (.int .u8 0), (.int .i64 0), (.int .i64 0), (.int .i64 0), (.int .u16 0), (.bool false), (.slice none 0 0), (.string (ByteArray.mk #[])), (.int .u8 0), (.int .u8 0), (.int .i64 0), (.int .i64 0), (.int .i64 0), (.int .u16 0), (.bool false), (.slice none 0 0), (.string (ByteArray.mk #[])), (.int .u8 0), (.int .u8 0), (.int .i64 0), (.int .i64 0), (.int .i64 0), (.int .u16 0), (.bool false), (.slice none 0 0), (.string (ByteArray.mk #[])), (.int .u8 0), (.int .u8 0), (.int .i64 0), (.int .i64 0), (.int .i64 0), (.int .u16 0), (.bool false), (.slice none 0 0), (.string (ByteArray.mk #[])), (.int .u8 0), (.int .u8 0), (.int .i64 0), (.int .i64 0), (.int .i64 0), (.int .u16 0), (.bool false), (.slice none 0 0), (.string (ByteArray.mk #[])), (.int .u8 0), (.int .u8 0), (.int .i64 0), (.int .i64 0), (.int .i64 0), (.int .u16 0), (.bool false), (.slice none 0 0), (.string (ByteArray.mk #[])), (.int .u8 0), (.int .u8 0), (.int .i64 0), (.int .i64 0), (.int .i64 0), (.int .u16 0), (.bool false), (.slice none 0 0), (.string (ByteArray.mk #[])), (.int .u8 0), (.int .u8 0), (.int .i64 0), (.int .i64 0), (.int .i64 0), (.int .u16 0), (.bool false), (.slice none 0 0), (.string (ByteArray.mk #[])), (.int .u8 0), (.int .u8 0), (.int .i64 0), (.int .i64 0), (.int .i64 0), (.int .u16 0), (.bool false), (.slice none 0 0), (.string (ByteArray.mk #[])), (.int .u8 0), (.int .u8 0), (.int .i64 0), (.int .i64 0), (.int .i64 0), (.int .u16 0), (.bool false), (.slice none 0 0), (.string (ByteArray.mk #[])), (.int .u8 0), (.int .u8 0), (.int .i64 0), (.int .i64 0), (.int .i64 0), (.int .u16 0), (.bool false), (.slice none 0 0), (.string (ByteArray.mk #[])), (.int .u8 0), (.int .u8 0), (.int .i64 0), (.int .i64 0), (.int .i64 0), (.int .u16 0), (.bool false), (.slice none 0 0), (.string (ByteArray.mk #[])), (.int .u8 0), (.int .u8 0), (.int .i64 0), (.int .i64 0), (.int .i64 0), (.int .u16 0), (.bool false), (.slice none 0 0), (.string (ByteArray.mk #[])), (.int .u8 0), (.int .u8 0), (.int .i64 0), (.int .i64 0), (.int .i64 0), (.int .u16 0), (.bool false), (.slice none 0 0), (.string (ByteArray.mk #[])), (.int .u8 0), (.int .u8 0), (.int .i64 0), (.int .i64 0), (.int .i64 0), (.int .u16 0), (.bool false), (.slice none 0 0), (.string (ByteArray.mk #[])), (.int .u8 0), (.int .u8 0), (.int .i64 0), (.int .i64 0), (.int .i64 0), (.int .u16 0), (.bool false), (.slice none 0 0), (.string (ByteArray.mk #[])), (.int .u8 0), (.int .u8 0), (.int .i64 0), (.int .i64 0), (.int .i64 0), (.int .u16 0), (.bool false), (.slice none 0 0), (.string (ByteArray.mk #[])), (.int .u8 0), (.int .u8 0), (.int .i64 0), (.int .i64 0), (.int .i64 0), (.int .u16 0), (.bool false), (.slice none 0 0), (.string (ByteArray.mk #[])), (.int .u8 0), (.int .u8 0), (.int .i64 0), (.int .i64 0), (.int .i64 0), (.int .u16 0), (.bool false), (.slice none 0 0), (.string (ByteArray.mk #[])), (.int .u8 0), (.int .u8 0), (.int .i64 0), (.int .i64 0), (.int .i64 0), (.int .u16 0), (.bool false), (.slice none 0 0), (.string (ByteArray.mk #[])), (.int .u8 0), (.int .u8 0), (.int .i64 0), (.int .i64 0), (.int .i64 0), (.int .u16 0), (.bool false), (.slice none 0 0), (.string (ByteArray.mk #[])), (.int .u8 0), (.int .u8 0), (.int .i64 0), (.int .i64 0), (.int .i64 0), (.int .u16 0), (.bool false), (.slice none 0 0), (.string (ByteArray.mk #[])), (.int .u8 0), (.int .u8 0), (.int .i64 0), (.int .i64 0), (.int .i64 0), (.int .u16 0), (.bool false), (.slice none 0 0), (.string (ByteArray.mk #[])), (.int .u8 0), (.int .u8 0), (.int .i64 0), (.int .i64 0), (.int .i64 0), (.int .u16 0), (.bool false), (.slice none 0 0), (.string (ByteArray.mk #[])), (.int .u8 0), (.int .u8 0), (.int .i64 0), (.int .i64 0), (.int .i64 0), (.int .u16 0), (.bool false), (.slice none 0 0), (.string (ByteArray.mk #[])), (.int .u8 0), (.int .u8 0), (.int .i64 0), (.int .i64 0), (.int .i64 0), (.int .u16 0), (.bool false), (.slice none 0 0), (.string (ByteArray.mk #[])), (.int .u8 0), (.int .u8 0), (.int .i64 0), (.int .i64 0), (.int .i64 0), (.int .u16 0), (.bool false), (.slice none 0 0), (.string (ByteArray.mk #[])), (.int .u8 0), (.int .u8 0), (.int .i64 0), (.int .i64 0), (.int .i64 0), (.int .u16 0), (.bool false), (.slice none 0 0), (.string (ByteArray.mk #[])), (.int .u8 0), (.int .u8 0), (.int .i64 0), (.int .i64 0), (.int .i64 0), (.int .u16 0), (.bool false), (.slice none 0 0), (.string (ByteArray.mk #[])), (.int .u8 0), (.int .u8 0), (.int .i64 0), (.int .i64 0), (.int .i64 0), (.int .u16 0), (.bool false), (.slice none 0 0), (.string (ByteArray.mk #[])), (.int .u8 0), (.int .u8 0), (.int .i64 0), (.int .i64 0), (.int .i64 0), (.int .u16 0), (.bool false), (.slice none 0 0), (.string (ByteArray.mk #[])), (.int .u8 0), (.int .u8 0), (.int .i64 0), (.int .i64 0), (.int .i64 0), (.int .u16 0), (.bool false), (.slice none 0 0), (.string (ByteArray.mk #[])), (.int .u8 0), (.int .u8 0), (.int .i64 0), (.int .i64 0), (.int .i64 0), (.int .u16 0), (.bool false), (.slice none 0 0), (.string (ByteArray.mk #[])), (.int .u8 0), (.int .u8 0), (.int .i64 0), (.int .i64 0), (.int .i64 0), (.int .u16 0), (.bool false), (.slice none 0 0), (.string (ByteArray.mk #[])), (.int .u8 0), (.int .u8 0), (.int .i64 0), (.int .i64 0), (.int .i64 0), (.int .u16 0), (.bool false), (.slice none 0 0), (.string (ByteArray.mk #[])), (.int .u8 0), (.int .u8 0), (.int .i64 0), (.int .i64 0), (.int .i64 0), (.int .u16 0), (.bool false), (.slice none 0 0), (.string (ByteArray.mk #[])), (.int .u8 0), (.int .u8 0), (.int .i64 0), (.int .i64 0), (.int .i64 0), (.int .u16 0), (.bool false), (.slice none 0 0), (.string (ByteArray.mk #[])), (.int .u8 0), (.int .u8 0), (.int .i64 0), (.int .i64 0), (.int .i64 0), (.int .u16 0), (.bool false), (.slice none 0 0), (.string (ByteArray.mk #[])), (.int .u8 0), (.int .u8 0), (.int .i64 0), (.int .i64 0), (.int .i64 0), (.int .u16 0), (.bool false), (.slice none 0 0), (.string (ByteArray.mk #[])), (.int .u8 0), (.int .u8 0), (.int .i64 0), (.int .i64 0), (.int .i64 0), (.int .u16 0), (.bool false), (.slice none 0 0), (.string (ByteArray.mk #[])), (.int .u8 0), (.int .u8 0), (.int .i64 0), (.int .i64 0), (.int .i64 0), (.int .u16 0), (.bool false), (.slice none 0 0), (.string (ByteArray.mk #[])), (.int .u8 0), (.int .u8 0), (.int .i64 0), (.int .i64 0), (.int .i64 0), (.int .u16 0), (.bool false), (.slice none 0 0), (.string (ByteArray.mk #[])), (.int .u8 0), (.int .u8 0), (.int .i64 0), (.int .i64 0), (.int .i64 0), (.int .u16 0), (.bool false), (.slice none 0 0), (.string (ByteArray.mk #[])), (.int .u8 0), (.int .u8 0), (.int .i64 0), (.int .i64 0), (.int .i64 0), (.int .u16 0), (.bool false), (.slice none 0 0), (.string (ByteArray.mk #[])), (.int .u8 0), (.int .u8 0), (.int .i64 0), (.int .i64 0), (.int .i64 0), (.int .u16 0), (.bool false), (.slice none 0 0), (.string (ByteArray.mk #[])), (.string (ByteArray.mk #[])), (.string (ByteArray.mk #[])), (.string (ByteArray.mk #[])), (.string (ByteArray.mk #[])), (.string (ByteArray.mk #[])), (.string (ByteArray.mk #[])), (.string (ByteArray.mk #[])), (.string (ByteArray.mk #[])), (.int .u8 0), (.string (ByteArray.mk #[])), (.int .i64 0), (.int .i64 0), (.int .u8 0), (.string (ByteArray.mk #[])), (.int .i64 0), (.int .i64 0), (.int .u8 0), (.string (ByteArray.mk #[])), (.int .i64 0), (.int .i64 0), (.int .u8 0), (.string (ByteArray.mk #[])), (.int .i64 0), (.int .i64 0), (.int .u8 0), (.string (ByteArray.mk #[])), (.int .i64 0), (.int .i64 0)] 608 fun H1 =>
Q ((some ⟨H.length, 0, none⟩), ()) H1
def h_book_New : Hnt := .leaf
theorem e_book_New  (H : Heap) (Q : (Option Addr) × Unit -> Heap -> Prop) : S_book_New  H Q = cFn C [] Tryz.f51.ntmps Tryz.f51.results.toList [T_ptr] (bodyOf Tryz.f51) h_book_New [] H Q := by kernel_rfl
theorem c_book_New {H : Heap} {Q : (Option Addr) × Unit -> Heap -> Prop} (h : S_book_New H Q) : CALL P [T_ptr] n_book_New [] H Q := call_print hE Tryz.func51 rfl (by kernel_rfl) (e_book_New H Q) h
def S_ref07_New  (H : Heap) (Q : (Option Addr) × Unit -> Heap -> Prop) : Prop :=
NEW H [(.bool true), (.bool false), (.slice none 0 0), (.string (ByteArray.mk #[])), (.string (ByteArray.mk #[])), (.string (ByteArray.mk #[])), (.string (ByteArray.mk #[])), (.string (ByteArray.mk #[])), (.string (ByteArray.mk #[])), (.string (ByteArray.mk #[])), (.string (ByteArray.mk #[])), (.string (ByteArray.mk #[])), (.int .u8 0), (.string (ByteArray.mk #[])), (.int .i64 0), (.int .i64 0), (.int .u8 0), (.string (ByteArray.mk #[])), (.int .i64 0), (.int .i64 0), (.int .u8 0), (.string (ByteArray.mk #[])), (.int .i64 0), (.int .i64 0), (.int .u8 0), (.string (ByteArray.mk #[])), (.int .i64 0), (.int .i64 0), (.int .u8 0), (.string (ByteArray.mk #[])), (.int .i64 0), (.int .i64 0)] 32 fun H1 =>
Q ((some ⟨H.length, 0, none⟩), ()) H1
def h_ref07_New : Hnt := .leaf
theorem e_ref07_New  (H : Heap) (Q : (Option Addr) × Unit -> Heap -> Prop) : S_ref07_New  H Q = cFn C [] Tryz.f52.ntmps Tryz.f52.results.toList [T_ptr] (bodyOf Tryz.f52) h_ref07_New [] H Q := by kernel_rfl
theorem c_ref07_New {H : Heap} {Q : (Option Addr) × Unit -> Heap -> Prop} (h : S_ref07_New H Q) : CALL P [T_ptr] n_ref07_New [] H Q := call_print hE Tryz.func52 rfl (by kernel_rfl) (e_ref07_New H Q) h
def S_book_Book_Card (a0 : Option Addr) (a1 : G_api_Card) (H : Heap) (Q : Int × Unit -> Heap -> Prop) : Prop :=
CALL P [(T_int .i64)] n_book_Book_shut [(.pointer a0)] H fun (x1 : Int × Unit) H1 =>
ifB (x1.1 != 0) (
Q (x1.1, ()) H1) (
CALL P [(T_int .i64)] n_card_Check [(T_G_api_Card.enc a1)] H1 fun (x2 : Int × Unit) H2 =>
ifB (x2.1 != 0) (
Q (x2.1, ()) H2) (
CALL P [(T_int .i64)] n_book_Book_place [(.pointer a0), (.string a1.Name)] H2 fun (x3 : Int × Unit) H3 =>
ifB (decide (x3.1 ≥ 0)) (
Q (5, ()) H3) (
NIL a0 fun b4 o5 =>
LD (T_int .i64) H3 b4 (o5 + 2) fun (x6 : Int) =>
ifB (decide (x6 ≥ 64)) (
Q (14, ()) H3) (
NIL a0 fun b7 o8 =>
LD (T_int .i64) H3 b7 (o8 + 2) fun (x9 : Int) =>
JOIN (fun (j10 : (Int × Unit) × (Unit) -> Heap -> Prop) =>
LOOP (fun (r12 : (Int × Unit) × (Unit) -> Heap -> Prop) (s13 : (Int × Unit) × (Unit)) H5 =>
JOIN (fun (j14 : (Bool × Unit) × (Unit) -> Heap -> Prop) =>
ifB (decide (s13.1.1 > 0)) (
NIL a0 fun b16 o17 =>
IDXA 64 (IntKind.wrap .i64 (s13.1.1 - 1)) (
LD T_G_api_Card H5 b16 (o17 + 3 + (IntKind.wrap .i64 (s13.1.1 - 1)).toNat * 9) fun (x18 : G_api_Card) =>
CALL P [T_bool] n_book_ahead [(T_G_api_Card.enc a1), (T_G_api_Card.enc x18)] H5 fun (x19 : Bool × Unit) H7 =>
j14 ((x19.1, ()), (())) H7)) (
j14 ((false, ()), (())) H5)) fun (y15 : (Bool × Unit) × (Unit)) H6 =>
ifB y15.1.1 (
NIL a0 fun b20 o21 =>
IDXA 64 (IntKind.wrap .i64 (s13.1.1 - 1)) (
LD T_G_api_Card H6 b20 (o21 + 3 + (IntKind.wrap .i64 (s13.1.1 - 1)).toNat * 9) fun (x22 : G_api_Card) =>
NIL a0 fun b23 o24 =>
IDXA 64 s13.1.1 (
ST H6 b23 (o24 + 3 + s13.1.1.toNat * 9) (T_G_api_Card.cells x22) fun H8 =>
r12 ((IntKind.wrap .i64 (s13.1.1 - 1), ()), (())) H8))) (
j10 ((s13.1.1, ()), (())) H6)) ((x9, ()), (())) H3) fun (y11 : (Int × Unit) × (Unit)) H4 =>
NIL a0 fun b25 o26 =>
CALL P [T_G_api_Card] n_card_Copy [(T_G_api_Card.enc a1)] H4 fun (x27 : G_api_Card × Unit) H9 =>
IDXA 64 y11.1.1 (
ST H9 b25 (o26 + 3 + y11.1.1.toNat * 9) (T_G_api_Card.cells x27.1) fun H10 =>
NIL a0 fun b28 o29 =>
LD (T_int .i64) H10 b28 (o29 + 2) fun (x30 : Int) =>
NIL a0 fun b31 o32 =>
ST H10 b31 (o32 + 2) [(.int .i64 (IntKind.wrap .i64 (x30 + 1)))] fun H11 =>
Q (0, ()) H11)))))
def h_book_Book_Card : Hnt := (.seq .leaf (.seq .leaf (.seq .leaf (.seq .leaf (.seq (.blk (some ⟨[(7, (T_int .i64))], [], [35, 36, 37, 38, 39, 40, 41, 42, 43, 44, 45, 46, 47, 48, 49, 50, 51, 52, 53, 54, 55, 56, 57, 58, 59, 60, 61]⟩) (.loop ⟨[(7, (T_int .i64))], [], [35, 36, 37, 38, 39, 40, 41, 42, 43, 44, 45, 46, 47, 48, 49, 50, 51, 52, 53, 54, 55, 56, 57, 58, 59, 60, 61]⟩ (.seq (.seq (.reg ⟨[(47, T_bool)], [], [35, 36, 37, 38, 39, 40, 41, 42, 43, 44, 45, 46]⟩) .leaf) .leaf))) .leaf)))))
theorem e_book_Book_Card (a0 : Option Addr) (a1 : G_api_Card) (H : Heap) (Q : Int × Unit -> Heap -> Prop) : S_book_Book_Card a0 a1 H Q = cFn C [3] Tryz.f53.ntmps Tryz.f53.results.toList [(T_int .i64)] (bodyOf Tryz.f53) h_book_Book_Card [(.pointer a0), (T_G_api_Card.enc a1)] H Q := by kernel_rfl
theorem c_book_Book_Card {a0 : Option Addr} {a1 : G_api_Card} {H : Heap} {Q : Int × Unit -> Heap -> Prop} (h : S_book_Book_Card a0 a1 H Q) : CALL P [(T_int .i64)] n_book_Book_Card [(.pointer a0), (T_G_api_Card.enc a1)] H Q := call_print hE Tryz.func53 rfl (by kernel_rfl) (e_book_Book_Card a0 a1 H Q) h
def S_kit_CopyCard (a0 : G_api_Card) (H : Heap) (Q : G_api_Card × Unit -> Heap -> Prop) : Prop :=
CALL P [T_sl] n_kit_CopyParts [a0.Parts.v] H fun (x1 : Sl × Unit) H1 =>
Q ((G_api_Card.mk a0.Name a0.Suit a0.Kind a0.Cost a0.Power a0.Health a0.Traits a0.Token x1.1), ()) H1
def h_kit_CopyCard : Hnt := .leaf
theorem e_kit_CopyCard (a0 : G_api_Card) (H : Heap) (Q : G_api_Card × Unit -> Heap -> Prop) : S_kit_CopyCard a0 H Q = cFn C [1, 2] Tryz.f54.ntmps Tryz.f54.results.toList [T_G_api_Card] (bodyOf Tryz.f54) h_kit_CopyCard [(T_G_api_Card.enc a0)] H Q := by kernel_rfl
theorem c_kit_CopyCard {a0 : G_api_Card} {H : Heap} {Q : G_api_Card × Unit -> Heap -> Prop} (h : S_kit_CopyCard a0 H Q) : CALL P [T_G_api_Card] n_kit_CopyCard [(T_G_api_Card.enc a0)] H Q := call_print hE Tryz.func54 rfl (by kernel_rfl) (e_kit_CopyCard a0 H Q) h
def S_ref07_Book_Card (a0 : Option Addr) (a1 : G_api_Card) (H : Heap) (Q : Int × Unit -> Heap -> Prop) : Prop :=
CALL P [T_bool] n_ref07_Book_None [(.pointer a0)] H fun (x1 : Bool × Unit) H1 =>
ifB x1.1 (
Q (1, ()) H1) (
NIL a0 fun b2 o3 =>
LD T_bool H1 b2 (o3 + 1) fun (x4 : Bool) =>
ifB x4 (
Q (7, ()) H1) (
CALL P [(T_int .i64)] n_ref06_Check [(T_G_api_Card.enc a1)] H1 fun (x5 : Int × Unit) H2 =>
ifB (x5.1 != 0) (
Q (x5.1, ()) H2) (
CALL P [(T_int .i64)] n_ref07_Book_place [(.pointer a0), (.string a1.Name)] H2 fun (x6 : Int × Unit) H3 =>
ifB (decide (x6.1 ≥ 0)) (
Q (5, ()) H3) (
NIL a0 fun b7 o8 =>
LD T_sl H3 b7 (o8 + 2) fun (x9 : Sl) =>
ifB (decide ((x9.len : Int) ≥ 64)) (
Q (14, ()) H3) (
JOIN (fun (j10 : (Sl × Bool × Unit) × (Unit) -> Heap -> Prop) =>
LOOP (fun (r12 : (Sl × Bool × Int × Unit) × (Unit) -> Heap -> Prop) (s13 : (Sl × Bool × Int × Unit) × (Unit)) H5 =>
NIL a0 fun b14 o15 =>
LD T_sl H5 b14 (o15 + 2) fun (x16 : Sl) =>
ifB (decide (s13.1.2.2.1 < (x16.len : Int))) (
JOIN (fun (j17 : (Bool × Unit) × (Unit) -> Heap -> Prop) =>
ifB (!s13.1.2.1) (
NIL a0 fun b19 o20 =>
LD T_sl H5 b19 (o20 + 2) fun (x21 : Sl) =>
IDX x21.p x21.len s13.1.2.2.1 9 fun b22 o23 =>
LD T_G_api_Card H5 b22 o23 fun (x24 : G_api_Card) =>
CALL P [T_bool] n_ref07_Ahead [(T_G_api_Card.enc a1), (T_G_api_Card.enc x24)] H5 fun (x25 : Bool × Unit) H7 =>
j17 ((x25.1, ()), (())) H7) (
j17 ((false, ()), (())) H5)) fun (y18 : (Bool × Unit) × (Unit)) H6 =>
JOIN (fun (j26 : (Sl × Bool × Unit) × (Unit) -> Heap -> Prop) =>
ifB y18.1.1 (
CALL P [T_G_api_Card] n_ref06_Copy [(T_G_api_Card.enc a1)] H6 fun (x28 : G_api_Card × Unit) H9 =>
APP T_sl (lenV s13.1.1.v + 1) (aAppE E [22, 22] s13.1.1.v 1 (T_G_api_Card.cells x28.1) H9) fun (x29 : Sl) H10 =>
j26 ((x29, true, ()), (())) H10) (
j26 ((s13.1.1, s13.1.2.1, ()), (())) H6)) fun (y27 : (Sl × Bool × Unit) × (Unit)) H8 =>
NIL a0 fun b30 o31 =>
LD T_sl H8 b30 (o31 + 2) fun (x32 : Sl) =>
IDX x32.p x32.len s13.1.2.2.1 9 fun b33 o34 =>
LD T_G_api_Card H8 b33 o34 fun (x35 : G_api_Card) =>
APP T_sl (lenV y27.1.1.v + 1) (aAppE E [22, 22] y27.1.1.v 1 (T_G_api_Card.cells x35) H8) fun (x36 : Sl) H11 =>
r12 ((x36, y27.1.2.1, IntKind.wrap .i64 (s13.1.2.2.1 + 1), ()), (())) H11) (
j10 ((s13.1.1, s13.1.2.1, ()), (())) H5)) (((Sl.mk none 0 0), false, 0, ()), (())) H3) fun (y11 : (Sl × Bool × Unit) × (Unit)) H4 =>
JOIN (fun (j37 : (Sl × Unit) × (Unit) -> Heap -> Prop) =>
ifB (!y11.1.2.1) (
CALL P [T_G_api_Card] n_ref06_Copy [(T_G_api_Card.enc a1)] H4 fun (x39 : G_api_Card × Unit) H13 =>
APP T_sl (lenV y11.1.1.v + 1) (aAppE E [22, 22] y11.1.1.v 1 (T_G_api_Card.cells x39.1) H13) fun (x40 : Sl) H14 =>
j37 ((x40, ()), (())) H14) (
j37 ((y11.1.1, ()), (())) H4)) fun (y38 : (Sl × Unit) × (Unit)) H12 =>
NIL a0 fun b41 o42 =>
ST H12 b41 (o42 + 2) [(.slice y38.1.1.p y38.1.1.len y38.1.1.cap)] fun H15 =>
Q (0, ()) H15)))))
def h_ref07_Book_Card : Hnt := (.seq .leaf (.seq .leaf (.seq .leaf (.seq .leaf (.seq .leaf (.seq .leaf (.seq .leaf (.seq .leaf (.seq .leaf (.seq (.seq .leaf (.blk (some ⟨[(6, T_sl), (7, T_bool)], [], [8, 31, 32, 33, 34, 35, 36, 37, 38, 39, 40, 41, 42, 43, 44, 45, 46, 47, 48, 49, 50, 51, 52, 53, 54, 55, 56, 57, 58, 59, 60, 61, 62, 63, 64, 65, 66, 67]⟩) (.loop ⟨[(6, T_sl), (7, T_bool), (8, (T_int .i64))], [], [31, 32, 33, 34, 35, 36, 37, 38, 39, 40, 41, 42, 43, 44, 45, 46, 47, 48, 49, 50, 51, 52, 53, 54, 55, 56, 57, 58, 59, 60, 61, 62, 63, 64, 65, 66, 67]⟩ (.seq .leaf (.seq (.blk none (.seq (.seq (.reg ⟨[(52, T_bool)], [], [40, 41, 42, 43, 44, 45, 46, 47, 48, 49, 50, 51]⟩) (.cond (some ⟨[(6, T_sl), (7, T_bool)], [], [53, 54, 55, 56, 57]⟩) .leaf .leaf)) .leaf)) .leaf))))) (.seq (.seq .leaf (.cond (some ⟨[(6, T_sl)], [], [70, 71, 72, 73, 74]⟩) .leaf .leaf)) .leaf)))))))))))
theorem e_ref07_Book_Card (a0 : Option Addr) (a1 : G_api_Card) (H : Heap) (Q : Int × Unit -> Heap -> Prop) : S_ref07_Book_Card a0 a1 H Q = cFn C [3, 56, 66, 73] Tryz.f55.ntmps Tryz.f55.results.toList [(T_int .i64)] (bodyOf Tryz.f55) h_ref07_Book_Card [(.pointer a0), (T_G_api_Card.enc a1)] H Q := by kernel_rfl
theorem c_ref07_Book_Card {a0 : Option Addr} {a1 : G_api_Card} {H : Heap} {Q : Int × Unit -> Heap -> Prop} (h : S_ref07_Book_Card a0 a1 H Q) : CALL P [(T_int .i64)] n_ref07_Book_Card [(.pointer a0), (T_G_api_Card.enc a1)] H Q := call_print hE Tryz.func55 rfl (by kernel_rfl) (e_ref07_Book_Card a0 a1 H Q) h
def S_book_Book_Mark (a0 : Option Addr) (a1 : G_api_MarkInfo) (H : Heap) (Q : Int × Unit -> Heap -> Prop) : Prop :=
CALL P [(T_int .i64)] n_book_Book_shut [(.pointer a0)] H fun (x1 : Int × Unit) H1 =>
ifB (x1.1 != 0) (
Q (x1.1, ()) H1) (
JOIN (fun (j2 : (Bool × Unit) × (Unit) -> Heap -> Prop) =>
ifB (decide (a1.Mark < 1)) (
j2 ((true, ()), (())) H1) (
ifB (decide (a1.Mark > 4)) (
j2 ((true, ()), (())) H1) (
CALL P [T_bool] n_book_within [(.int .i64 a1.Power)] H1 fun (x4 : Bool × Unit) H3 =>
ifB (!x4.1) (
j2 ((true, ()), (())) H3) (
CALL P [T_bool] n_book_within [(.int .i64 a1.Health)] H3 fun (x5 : Bool × Unit) H4 =>
j2 ((!x5.1, ()), (())) H4)))) fun (y3 : (Bool × Unit) × (Unit)) H2 =>
ifB y3.1.1 (
Q (2, ()) H2) (
CALL P [T_bool] n_book_name [(.string a1.Name)] H2 fun (x6 : Bool × Unit) H5 =>
ifB (!x6.1) (
Q (4, ()) H5) (
NIL a0 fun b7 o8 =>
IDXA 5 a1.Mark (
LD (T_int .u8) H5 b7 (o8 + 588 + a1.Mark.toNat * 4 + 0) fun (x9 : Int) =>
ifB (x9 != 0) (
Q (5, ()) H5) (
NIL a0 fun b10 o11 =>
LD T_arr5_T_G_api_MarkInfo H5 b10 (o11 + 588) fun (x12 : G_api_MarkInfo × G_api_MarkInfo × G_api_MarkInfo × G_api_MarkInfo × G_api_MarkInfo) =>
JOIN (fun (j13 : (Unit) × (Unit) -> Heap -> Prop) =>
LOOP (fun (r15 : (Int × Unit) × (Unit) -> Heap -> Prop) (s16 : (Int × Unit) × (Unit)) H7 =>
ifB (decide (s16.1.1 < 5)) (
GENV T_G_api_MarkInfo (aIndex E 158 (.agg #[(.int .u8 x12.1.Mark), (.string x12.1.Name), (.int .i64 x12.1.Power), (.int .i64 x12.1.Health), (.int .u8 x12.2.1.Mark), (.string x12.2.1.Name), (.int .i64 x12.2.1.Power), (.int .i64 x12.2.1.Health), (.int .u8 x12.2.2.1.Mark), (.string x12.2.2.1.Name), (.int .i64 x12.2.2.1.Power), (.int .i64 x12.2.2.1.Health), (.int .u8 x12.2.2.2.1.Mark), (.string x12.2.2.2.1.Name), (.int .i64 x12.2.2.2.1.Power), (.int .i64 x12.2.2.2.1.Health), (.int .u8 x12.2.2.2.2.Mark), (.string x12.2.2.2.2.Name), (.int .i64 x12.2.2.2.2.Power), (.int .i64 x12.2.2.2.2.Health)]) (.int .i64 s16.1.1)) fun (x17 : G_api_MarkInfo) =>
ifB (x17.Name.toList == a1.Name.toList) (
Q (5, ()) H7) (
r15 ((IntKind.wrap .i64 (s16.1.1 + 1), ()), (())) H7)) (
j13 ((()), (())) H7)) ((0, ()), (())) H5) fun (y14 : (Unit) × (Unit)) H6 =>
NIL a0 fun b18 o19 =>
IDXA 5 a1.Mark (
ST H6 b18 (o19 + 588 + a1.Mark.toNat * 4) (T_G_api_MarkInfo.cells a1) fun H8 =>
Q (0, ()) H8))))))
def h_book_Book_Mark : Hnt := (.seq .leaf (.seq .leaf (.seq (.blk none (.seq (.reg ⟨[(13, T_bool)], [], [14, 15, 16, 17, 18, 19, 20, 21, 22, 23, 24, 25, 26, 27, 28, 29, 30, 31, 32, 33]⟩) .leaf)) (.seq (.seq .leaf (.blk (some ⟨[], [], [4, 7, 53, 54, 55, 56, 57, 58, 59, 60, 61]⟩) (.loop ⟨[(53, (T_int .i64))], [], [4, 7, 54, 55, 56, 57, 58, 59, 60, 61]⟩ .leaf))) .leaf))))
theorem e_book_Book_Mark (a0 : Option Addr) (a1 : G_api_MarkInfo) (H : Heap) (Q : Int × Unit -> Heap -> Prop) : S_book_Book_Mark a0 a1 H Q = cFn C [3, 7] Tryz.f56.ntmps Tryz.f56.results.toList [(T_int .i64)] (bodyOf Tryz.f56) h_book_Book_Mark [(.pointer a0), (T_G_api_MarkInfo.enc a1)] H Q := by kernel_rfl
theorem c_book_Book_Mark {a0 : Option Addr} {a1 : G_api_MarkInfo} {H : Heap} {Q : Int × Unit -> Heap -> Prop} (h : S_book_Book_Mark a0 a1 H Q) : CALL P [(T_int .i64)] n_book_Book_Mark [(.pointer a0), (T_G_api_MarkInfo.enc a1)] H Q := call_print hE Tryz.func56 rfl (by kernel_rfl) (e_book_Book_Mark a0 a1 H Q) h
def S_ref07_Book_Mark (a0 : Option Addr) (a1 : G_api_MarkInfo) (H : Heap) (Q : Int × Unit -> Heap -> Prop) : Prop :=
CALL P [T_bool] n_ref07_Book_None [(.pointer a0)] H fun (x1 : Bool × Unit) H1 =>
ifB x1.1 (
Q (1, ()) H1) (
NIL a0 fun b2 o3 =>
LD T_bool H1 b2 (o3 + 1) fun (x4 : Bool) =>
ifB x4 (
Q (7, ()) H1) (
JOIN (fun (j5 : (Bool × Unit) × (Unit) -> Heap -> Prop) =>
ifB (decide (a1.Mark < 1)) (
j5 ((true, ()), (())) H1) (
ifB (decide (a1.Mark > 4)) (
j5 ((true, ()), (())) H1) (
ifB (decide (a1.Power < (-9))) (
j5 ((true, ()), (())) H1) (
ifB (decide (a1.Power > 9)) (
j5 ((true, ()), (())) H1) (
ifB (decide (a1.Health < (-9))) (
j5 ((true, ()), (())) H1) (
j5 ((decide (a1.Health > 9), ()), (())) H1)))))) fun (y6 : (Bool × Unit) × (Unit)) H2 =>
ifB y6.1.1 (
Q (2, ()) H2) (
CALL P [T_bool] n_ref07_Name [(.string a1.Name)] H2 fun (x7 : Bool × Unit) H3 =>
ifB (!x7.1) (
Q (4, ()) H3) (
JOIN (fun (j8 : (Unit) × (Unit) -> Heap -> Prop) =>
LOOP (fun (r10 : (Int × Unit) × (Unit) -> Heap -> Prop) (s11 : (Int × Unit) × (Unit)) H5 =>
ifB (decide (s11.1.1 ≤ 4)) (
JOIN (fun (j12 : (Bool × Unit) × (Unit) -> Heap -> Prop) =>
ifB ((IntKind.wrap .u8 s11.1.1) == a1.Mark) (
NIL a0 fun b14 o15 =>
IDXA 5 s11.1.1 (
LD (T_int .u8) H5 b14 (o15 + 12 + s11.1.1.toNat * 4 + 0) fun (x16 : Int) =>
ifB (x16 != 0) (
j12 ((true, ()), (())) H5) (
NIL a0 fun b17 o18 =>
IDXA 5 s11.1.1 (
LD T_str H5 b17 (o18 + 12 + s11.1.1.toNat * 4 + 1) fun (x19 : ByteArray) =>
j12 ((x19.toList == a1.Name.toList, ()), (())) H5)))) (
NIL a0 fun b20 o21 =>
IDXA 5 s11.1.1 (
LD T_str H5 b20 (o21 + 12 + s11.1.1.toNat * 4 + 1) fun (x22 : ByteArray) =>
j12 ((x22.toList == a1.Name.toList, ()), (())) H5))) fun (y13 : (Bool × Unit) × (Unit)) H6 =>
ifB y13.1.1 (
Q (5, ()) H6) (
r10 ((IntKind.wrap .i64 (s11.1.1 + 1), ()), (())) H6)) (
j8 ((()), (())) H5)) ((1, ()), (())) H3) fun (y9 : (Unit) × (Unit)) H4 =>
NIL a0 fun b23 o24 =>
IDXA 5 a1.Mark (
ST H4 b23 (o24 + 12 + a1.Mark.toNat * 4) (T_G_api_MarkInfo.cells a1) fun H7 =>
Q (0, ()) H7)))))
def h_ref07_Book_Mark : Hnt := (.seq .leaf (.seq .leaf (.seq .leaf (.seq (.seq (.reg ⟨[(39, T_bool)], [], [12, 13, 14, 15, 16, 17, 18, 19, 20, 21, 22, 23, 24, 25, 26, 27, 28, 29, 30, 31, 32, 33, 34, 35, 36, 37, 38]⟩) .leaf) (.seq .leaf (.seq (.seq .leaf (.blk (some ⟨[], [], [4, 5, 44, 45, 46, 47, 48, 49, 50, 51, 52, 53, 54, 55, 56, 57, 58, 59, 60, 61, 62, 63, 64, 65, 66, 67, 68, 69, 70, 71, 72, 73, 74]⟩) (.loop ⟨[(5, (T_int .i64))], [], [4, 44, 45, 46, 47, 48, 49, 50, 51, 52, 53, 54, 55, 56, 57, 58, 59, 60, 61, 62, 63, 64, 65, 66, 67, 68, 69, 70, 71, 72, 73, 74]⟩ (.seq .leaf (.seq (.blk none (.seq (.reg ⟨[(74, T_bool)], [], [48, 49, 50, 51, 52, 53, 54, 55, 56, 57, 58, 59, 60, 61, 62, 63, 64, 65, 66, 67, 68, 69, 70, 71, 72, 73]⟩) .leaf)) .leaf))))) .leaf))))))
theorem e_ref07_Book_Mark (a0 : Option Addr) (a1 : G_api_MarkInfo) (H : Heap) (Q : Int × Unit -> Heap -> Prop) : S_ref07_Book_Mark a0 a1 H Q = cFn C [3] Tryz.f57.ntmps Tryz.f57.results.toList [(T_int .i64)] (bodyOf Tryz.f57) h_ref07_Book_Mark [(.pointer a0), (T_G_api_MarkInfo.enc a1)] H Q := by kernel_rfl
theorem c_ref07_Book_Mark {a0 : Option Addr} {a1 : G_api_MarkInfo} {H : Heap} {Q : Int × Unit -> Heap -> Prop} (h : S_ref07_Book_Mark a0 a1 H Q) : CALL P [(T_int .i64)] n_ref07_Book_Mark [(.pointer a0), (T_G_api_MarkInfo.enc a1)] H Q := call_print hE Tryz.func57 rfl (by kernel_rfl) (e_ref07_Book_Mark a0 a1 H Q) h
def S_book_Book_Seal (a0 : Option Addr) (H : Heap) (Q : Int × Unit -> Heap -> Prop) : Prop :=
CALL P [(T_int .i64)] n_book_Book_shut [(.pointer a0)] H fun (x1 : Int × Unit) H1 =>
ifB (x1.1 != 0) (
Q (x1.1, ()) H1) (
NIL a0 fun b2 o3 =>
NIL a0 fun b4 o5 =>
LD (T_int .i64) H1 b4 (o5 + 2) fun (x6 : Int) =>
GENV T_sl (aSlice E 156 (.pointer (some ⟨b2, o3 + 3, none⟩)) none (some (.int .i64 x6)) none H1) fun (x7 : Sl) =>
JOIN (fun (j8 : (Unit) × (Unit) -> Heap -> Prop) =>
LOOP (fun (r10 : (Int × Unit) × (Unit) -> Heap -> Prop) (s11 : (Int × Unit) × (Unit)) H3 =>
ifB (decide (s11.1.1 < (x7.len : Int))) (
JOIN (fun (j12 : (Unit) × (Unit) -> Heap -> Prop) =>
IDX x7.p x7.len s11.1.1 9 fun b14 o15 =>
LD T_G_api_Card H3 b14 o15 fun (x16 : G_api_Card) =>
JOIN (fun (j17 : (Unit) × (Unit) -> Heap -> Prop) =>
LOOP (fun (r19 : (Int × Unit) × (Unit) -> Heap -> Prop) (s20 : (Int × Unit) × (Unit)) H6 =>
ifB (decide (s20.1.1 < (x16.Parts.len : Int))) (
JOIN (fun (j21 : (Unit) × (Unit) -> Heap -> Prop) =>
IDX x16.Parts.p x16.Parts.len s20.1.1 8 fun b23 o24 =>
LD T_G_api_Part H6 b23 o24 fun (x25 : G_api_Part) =>
ifB (x25.Verb != 7) (
j21 ((()), (())) H6) (
CALL P [(T_int .i64)] n_book_Book_place [(.pointer a0), (.string x25.Name)] H6 fun (x26 : Int × Unit) H8 =>
ifB (decide (x26.1 < 0)) (
Q (6, ()) H8) (
NIL a0 fun b27 o28 =>
IDXA 64 x26.1 (
LD (T_int .u8) H8 b27 (o28 + 3 + x26.1.toNat * 9 + 2) fun (x29 : Int) =>
ifB (x29 == 2) (
Q (8, ()) H8) (
j21 ((()), (())) H8))))) fun (y22 : (Unit) × (Unit)) H7 =>
r19 ((IntKind.wrap .i64 (s20.1.1 + 1), ()), (())) H7) (
j17 ((()), (())) H6)) ((0, ()), (())) H3) fun (y18 : (Unit) × (Unit)) H5 =>
j12 ((()), (())) H5) fun (y13 : (Unit) × (Unit)) H4 =>
r10 ((IntKind.wrap .i64 (s11.1.1 + 1), ()), (())) H4) (
j8 ((()), (())) H3)) ((0, ()), (())) H1) fun (y9 : (Unit) × (Unit)) H2 =>
NIL a0 fun b30 o31 =>
ST H2 b30 (o31 + 1) [(.bool true)] fun H9 =>
Q (0, ()) H9)
def h_book_Book_Seal : Hnt := (.seq .leaf (.seq .leaf (.seq (.seq .leaf (.blk (some ⟨[], [], [2, 5, 7, 8, 23, 24, 25, 26, 27, 28, 29, 30, 31, 32, 33, 34, 35, 36, 37, 38, 39, 40, 41, 42, 43, 44, 45, 46, 47, 48, 49, 50, 51, 52, 53, 54]⟩) (.loop ⟨[(23, (T_int .i64))], [], [2, 5, 7, 8, 24, 25, 26, 27, 28, 29, 30, 31, 32, 33, 34, 35, 36, 37, 38, 39, 40, 41, 42, 43, 44, 45, 46, 47, 48, 49, 50, 51, 52, 53, 54]⟩ (.seq .leaf (.seq .leaf (.seq (.blk (some ⟨[], [], [2, 5, 7, 8, 25, 26, 27, 28, 29, 30, 31, 32, 33, 34, 35, 36, 37, 38, 39, 40, 41, 42, 43, 44, 45, 46, 47, 48, 49, 50, 51, 52, 53]⟩) (.seq .leaf (.seq .leaf (.blk (some ⟨[], [], [2, 7, 8, 30, 31, 32, 33, 34, 35, 36, 37, 38, 39, 40, 41, 42, 43, 44, 45, 46, 47, 48, 49, 50, 51, 52, 53]⟩) (.loop ⟨[(30, (T_int .i64))], [], [2, 7, 8, 31, 32, 33, 34, 35, 36, 37, 38, 39, 40, 41, 42, 43, 44, 45, 46, 47, 48, 49, 50, 51, 52, 53]⟩ (.seq .leaf (.seq .leaf (.seq (.blk (some ⟨[], [], [2, 7, 8, 32, 33, 34, 35, 36, 37, 38, 39, 40, 41, 42, 43, 44, 45, 46, 47, 48, 49, 50, 51, 52]⟩) .leaf) .leaf)))))))) .leaf)))))) .leaf)))
theorem e_book_Book_Seal (a0 : Option Addr) (H : Heap) (Q : Int × Unit -> Heap -> Prop) : S_book_Book_Seal a0 H Q = cFn C [5, 7] Tryz.f58.ntmps Tryz.f58.results.toList [(T_int .i64)] (bodyOf Tryz.f58) h_book_Book_Seal [(.pointer a0)] H Q := by kernel_rfl
theorem c_book_Book_Seal {a0 : Option Addr} {H : Heap} {Q : Int × Unit -> Heap -> Prop} (h : S_book_Book_Seal a0 H Q) : CALL P [(T_int .i64)] n_book_Book_Seal [(.pointer a0)] H Q := call_print hE Tryz.func58 rfl (by kernel_rfl) (e_book_Book_Seal a0 H Q) h
def S_ref07_Book_Seal (a0 : Option Addr) (H : Heap) (Q : Int × Unit -> Heap -> Prop) : Prop :=
CALL P [T_bool] n_ref07_Book_None [(.pointer a0)] H fun (x1 : Bool × Unit) H1 =>
ifB x1.1 (
Q (1, ()) H1) (
NIL a0 fun b2 o3 =>
LD T_bool H1 b2 (o3 + 1) fun (x4 : Bool) =>
ifB x4 (
Q (7, ()) H1) (
JOIN (fun (j5 : (Unit) × (Unit) -> Heap -> Prop) =>
LOOP (fun (r7 : (Int × Unit) × (Unit) -> Heap -> Prop) (s8 : (Int × Unit) × (Unit)) H3 =>
NIL a0 fun b9 o10 =>
LD T_sl H3 b9 (o10 + 2) fun (x11 : Sl) =>
ifB (decide (s8.1.1 < (x11.len : Int))) (
JOIN (fun (j12 : (Unit) × (Unit) -> Heap -> Prop) =>
JOIN (fun (j14 : (Unit) × (Unit) -> Heap -> Prop) =>
LOOP (fun (r16 : (Int × Unit) × (Unit) -> Heap -> Prop) (s17 : (Int × Unit) × (Unit)) H6 =>
NIL a0 fun b18 o19 =>
LD T_sl H6 b18 (o19 + 2) fun (x20 : Sl) =>
IDX x20.p x20.len s8.1.1 9 fun b21 o22 =>
LD T_sl H6 b21 (o22 + 8) fun (x23 : Sl) =>
ifB (decide (s17.1.1 < (x23.len : Int))) (
JOIN (fun (j24 : (Unit) × (Unit) -> Heap -> Prop) =>
NIL a0 fun b26 o27 =>
LD T_sl H6 b26 (o27 + 2) fun (x28 : Sl) =>
IDX x28.p x28.len s8.1.1 9 fun b29 o30 =>
LD T_sl H6 b29 (o30 + 8) fun (x31 : Sl) =>
IDX x31.p x31.len s17.1.1 8 fun b32 o33 =>
LD T_G_api_Part H6 b32 o33 fun (x34 : G_api_Part) =>
ifB (x34.Verb != 7) (
j24 ((()), (())) H6) (
CALL P [(T_int .i64)] n_ref07_Book_place [(.pointer a0), (.string x34.Name)] H6 fun (x35 : Int × Unit) H8 =>
ifB (decide (x35.1 < 0)) (
Q (6, ()) H8) (
NIL a0 fun b36 o37 =>
LD T_sl H8 b36 (o37 + 2) fun (x38 : Sl) =>
IDX x38.p x38.len x35.1 9 fun b39 o40 =>
LD (T_int .u8) H8 b39 (o40 + 2) fun (x41 : Int) =>
ifB (x41 == 2) (
Q (8, ()) H8) (
j24 ((()), (())) H8)))) fun (y25 : (Unit) × (Unit)) H7 =>
r16 ((IntKind.wrap .i64 (s17.1.1 + 1), ()), (())) H7) (
j14 ((()), (())) H6)) ((0, ()), (())) H3) fun (y15 : (Unit) × (Unit)) H5 =>
j12 ((()), (())) H5) fun (y13 : (Unit) × (Unit)) H4 =>
r7 ((IntKind.wrap .i64 (s8.1.1 + 1), ()), (())) H4) (
j5 ((()), (())) H3)) ((0, ()), (())) H1) fun (y6 : (Unit) × (Unit)) H2 =>
NIL a0 fun b42 o43 =>
ST H2 b42 (o43 + 1) [(.bool true)] fun H9 =>
Q (0, ()) H9))
def h_ref07_Book_Seal : Hnt := (.seq .leaf (.seq .leaf (.seq .leaf (.seq (.seq .leaf (.blk (some ⟨[], [], [2, 3, 4, 5, 6, 13, 14, 15, 16, 17, 18, 19, 20, 21, 22, 23, 24, 25, 26, 27, 28, 29, 30, 31, 32, 33, 34, 35, 36, 37, 38, 39, 40, 41, 42, 43, 44, 45, 46, 47, 48, 49, 50, 51, 52, 53, 54, 55, 56, 57, 58, 59, 60, 61, 62, 63]⟩) (.loop ⟨[(3, (T_int .i64))], [], [2, 4, 5, 6, 13, 14, 15, 16, 17, 18, 19, 20, 21, 22, 23, 24, 25, 26, 27, 28, 29, 30, 31, 32, 33, 34, 35, 36, 37, 38, 39, 40, 41, 42, 43, 44, 45, 46, 47, 48, 49, 50, 51, 52, 53, 54, 55, 56, 57, 58, 59, 60, 61, 62, 63]⟩ (.seq .leaf (.seq (.blk (some ⟨[], [], [2, 4, 5, 6, 22, 23, 24, 25, 26, 27, 28, 29, 30, 31, 32, 33, 34, 35, 36, 37, 38, 39, 40, 41, 42, 43, 44, 45, 46, 47, 48, 49, 50, 51, 52, 53, 54, 55, 56, 57, 58, 59, 60, 61, 62, 63]⟩) (.seq .leaf (.blk (some ⟨[], [], [2, 4, 5, 6, 22, 23, 24, 25, 26, 27, 28, 29, 30, 31, 32, 33, 34, 35, 36, 37, 38, 39, 40, 41, 42, 43, 44, 45, 46, 47, 48, 49, 50, 51, 52, 53, 54, 55, 56, 57, 58, 59, 60, 61, 62, 63]⟩) (.loop ⟨[(4, (T_int .i64))], [], [2, 5, 6, 22, 23, 24, 25, 26, 27, 28, 29, 30, 31, 32, 33, 34, 35, 36, 37, 38, 39, 40, 41, 42, 43, 44, 45, 46, 47, 48, 49, 50, 51, 52, 53, 54, 55, 56, 57, 58, 59, 60, 61, 62, 63]⟩ (.seq .leaf (.seq (.blk (some ⟨[], [], [2, 5, 6, 35, 36, 37, 38, 39, 40, 41, 42, 43, 44, 45, 46, 47, 48, 49, 50, 51, 52, 53, 54, 55, 56, 57, 58, 59, 60, 61, 62, 63]⟩) .leaf) .leaf)))))) .leaf))))) .leaf))))
theorem e_ref07_Book_Seal (a0 : Option Addr) (H : Heap) (Q : Int × Unit -> Heap -> Prop) : S_ref07_Book_Seal a0 H Q = cFn C [5] Tryz.f59.ntmps Tryz.f59.results.toList [(T_int .i64)] (bodyOf Tryz.f59) h_ref07_Book_Seal [(.pointer a0)] H Q := by kernel_rfl
theorem c_ref07_Book_Seal {a0 : Option Addr} {H : Heap} {Q : Int × Unit -> Heap -> Prop} (h : S_ref07_Book_Seal a0 H Q) : CALL P [(T_int .i64)] n_ref07_Book_Seal [(.pointer a0)] H Q := call_print hE Tryz.func59 rfl (by kernel_rfl) (e_ref07_Book_Seal a0 H Q) h
def S_book_Book_Sealed (a0 : Option Addr) (H : Heap) (Q : Bool × Unit -> Heap -> Prop) : Prop :=
CALL P [T_bool] n_book_Book_none [(.pointer a0)] H fun (x1 : Bool × Unit) H1 =>
ifB x1.1 (
Q (false, ()) H1) (
NIL a0 fun b2 o3 =>
LD T_bool H1 b2 (o3 + 1) fun (x4 : Bool) =>
Q (x4, ()) H1)
def h_book_Book_Sealed : Hnt := .leaf
theorem e_book_Book_Sealed (a0 : Option Addr) (H : Heap) (Q : Bool × Unit -> Heap -> Prop) : S_book_Book_Sealed a0 H Q = cFn C [] Tryz.f60.ntmps Tryz.f60.results.toList [T_bool] (bodyOf Tryz.f60) h_book_Book_Sealed [(.pointer a0)] H Q := by kernel_rfl
theorem c_book_Book_Sealed {a0 : Option Addr} {H : Heap} {Q : Bool × Unit -> Heap -> Prop} (h : S_book_Book_Sealed a0 H Q) : CALL P [T_bool] n_book_Book_Sealed [(.pointer a0)] H Q := call_print hE Tryz.func60 rfl (by kernel_rfl) (e_book_Book_Sealed a0 H Q) h
def S_ref07_Book_Sealed (a0 : Option Addr) (H : Heap) (Q : Bool × Unit -> Heap -> Prop) : Prop :=
JOIN (fun (j1 : (Bool × Unit) × (Unit) -> Heap -> Prop) =>
CALL P [T_bool] n_ref07_Book_None [(.pointer a0)] H fun (x3 : Bool × Unit) H2 =>
ifB (!x3.1) (
NIL a0 fun b4 o5 =>
LD T_bool H2 b4 (o5 + 1) fun (x6 : Bool) =>
j1 ((x6, ()), (())) H2) (
j1 ((false, ()), (())) H2)) fun (y2 : (Bool × Unit) × (Unit)) H1 =>
Q (y2.1.1, ()) H1
def h_ref07_Book_Sealed : Hnt := (.seq .leaf (.seq (.reg ⟨[(2, T_bool)], [], [3, 4, 5, 6, 7, 8, 9, 10, 11]⟩) .leaf))
theorem e_ref07_Book_Sealed (a0 : Option Addr) (H : Heap) (Q : Bool × Unit -> Heap -> Prop) : S_ref07_Book_Sealed a0 H Q = cFn C [] Tryz.f61.ntmps Tryz.f61.results.toList [T_bool] (bodyOf Tryz.f61) h_ref07_Book_Sealed [(.pointer a0)] H Q := by kernel_rfl
theorem c_ref07_Book_Sealed {a0 : Option Addr} {H : Heap} {Q : Bool × Unit -> Heap -> Prop} (h : S_ref07_Book_Sealed a0 H Q) : CALL P [T_bool] n_ref07_Book_Sealed [(.pointer a0)] H Q := call_print hE Tryz.func61 rfl (by kernel_rfl) (e_ref07_Book_Sealed a0 H Q) h
def S_ref20_Of (a0 : Option Addr) (a1 : Sl) (H : Heap) (Q : Sl × Int × Unit -> Heap -> Prop) : Prop :=
CALL P [T_sl, (T_int .i64)] n_ref20_Behind [(.pointer a0), a1.v, (.int .i64 6)] H fun (x1 : Sl × Int × Unit) H1 =>
Q (x1.1, x1.2.1, ()) H1
def h_ref20_Of : Hnt := .leaf
theorem e_ref20_Of (a0 : Option Addr) (a1 : Sl) (H : Heap) (Q : Sl × Int × Unit -> Heap -> Prop) : S_ref20_Of a0 a1 H Q = cFn C [] Tryz.f62.ntmps Tryz.f62.results.toList [T_sl, (T_int .i64)] (bodyOf Tryz.f62) h_ref20_Of [(.pointer a0), a1.v] H Q := by kernel_rfl
theorem c_ref20_Of {a0 : Option Addr} {a1 : Sl} {H : Heap} {Q : Sl × Int × Unit -> Heap -> Prop} (h : S_ref20_Of a0 a1 H Q) : CALL P [T_sl, (T_int .i64)] n_ref20_Of [(.pointer a0), a1.v] H Q := call_print hE Tryz.func62 rfl (by kernel_rfl) (e_ref20_Of a0 a1 H Q) h
def S_target_asked (a0 : Option Addr) (a1 : Sl) (a2 : Sl) (a3 : Int) (H : Heap) (Q : Bool × Unit -> Heap -> Prop) : Prop :=
CALL P [T_sl, (T_int .i64)] n_layer_Effects [(.pointer a0), a1.v, a2.v, (.int .i64 1)] H fun (x1 : Sl × Int × Unit) H1 =>
JOIN (fun (j2 : (Bool × Unit) × (Unit) -> Heap -> Prop) =>
ifB (x1.2.1 == 0) (
ifB (a3 == 0) (
j2 ((true, ()), (())) H1) (
j2 ((a3 == 1, ()), (())) H1)) (
j2 ((false, ()), (())) H1)) fun (y3 : (Bool × Unit) × (Unit)) H2 =>
Q (y3.1.1, ()) H2
def h_target_asked : Hnt := (.seq .leaf (.seq .leaf (.seq (.reg ⟨[(8, T_bool)], [], [18, 19, 20, 21, 22, 23, 24, 25, 26, 27]⟩) .leaf)))
theorem e_target_asked (a0 : Option Addr) (a1 : Sl) (a2 : Sl) (a3 : Int) (H : Heap) (Q : Bool × Unit -> Heap -> Prop) : S_target_asked a0 a1 a2 a3 H Q = cFn C [] Tryz.f63.ntmps Tryz.f63.results.toList [T_bool] (bodyOf Tryz.f63) h_target_asked [(.pointer a0), a1.v, a2.v, (.int .i64 a3)] H Q := by kernel_rfl
theorem c_target_asked {a0 : Option Addr} {a1 : Sl} {a2 : Sl} {a3 : Int} {H : Heap} {Q : Bool × Unit -> Heap -> Prop} (h : S_target_asked a0 a1 a2 a3 H Q) : CALL P [T_bool] n_target_asked [(.pointer a0), a1.v, a2.v, (.int .i64 a3)] H Q := call_print hE Tryz.func63 rfl (by kernel_rfl) (e_target_asked a0 a1 a2 a3 H Q) h
def S_target_All_1 (a0 : Int) (c0 : Nat × Nat) (c1 : Nat × Nat) (c2 : Nat × Nat) (c3 : Nat × Nat) (H : Heap) (Q : Bool × Unit -> Heap -> Prop) : Prop :=
LD T_ptr H c0.1 c0.2 fun (x1 : Option Addr) =>
LD T_sl H c1.1 c1.2 fun (x2 : Sl) =>
LD T_sl H c2.1 c2.2 fun (x3 : Sl) =>
LD (T_int .i64) H c3.1 c3.2 fun (x4 : Int) =>
CALL P [T_bool] n_target_May [(.pointer x1), x2.v, x3.v, (.int .i64 x4), (.int .i64 a0)] H fun (x5 : Bool × Unit) H1 =>
Q (x5.1, ()) H1
def h_target_All_1 : Hnt := .leaf
theorem e_target_All_1 (a0 : Int) (c0 : Nat × Nat) (c1 : Nat × Nat) (c2 : Nat × Nat) (c3 : Nat × Nat) (H : Heap) (Q : Bool × Unit -> Heap -> Prop) : S_target_All_1 a0 c0 c1 c2 c3 H Q = cFn C [] Tryz.f64.ntmps Tryz.f64.results.toList [T_bool] (bodyOf Tryz.f64) h_target_All_1 [(.int .i64 a0), (.pointer (some ⟨c0.1, c0.2, none⟩)), (.pointer (some ⟨c1.1, c1.2, none⟩)), (.pointer (some ⟨c2.1, c2.2, none⟩)), (.pointer (some ⟨c3.1, c3.2, none⟩))] H Q := by kernel_rfl
theorem c_target_All_1 {a0 : Int} {c0 : Nat × Nat} {c1 : Nat × Nat} {c2 : Nat × Nat} {c3 : Nat × Nat} {H : Heap} {Q : Bool × Unit -> Heap -> Prop} (h : S_target_All_1 a0 c0 c1 c2 c3 H Q) : CALL P [T_bool] n_target_All_1 [(.int .i64 a0), (.pointer (some ⟨c0.1, c0.2, none⟩)), (.pointer (some ⟨c1.1, c1.2, none⟩)), (.pointer (some ⟨c2.1, c2.2, none⟩)), (.pointer (some ⟨c3.1, c3.2, none⟩))] H Q := call_print hE Tryz.func64 rfl (by kernel_rfl) (e_target_All_1 a0 c0 c1 c2 c3 H Q) h
def S_target_gone (a0 : Int) (a1 : Int) (a2 : Value) (H : Heap) (Q : Sl × Unit -> Heap -> Prop) : Prop :=
JOIN (fun (j1 : (Sl × Unit) × (Unit) -> Heap -> Prop) =>
LOOP (fun (r3 : (Sl × Int × Unit) × (Unit) -> Heap -> Prop) (s4 : (Sl × Int × Unit) × (Unit)) H2 =>
ifB (decide (s4.1.2.1 ≤ a1)) (
CALLV P [T_bool] a2 [(.int .i64 s4.1.2.1)] H2 fun (x5 : Bool × Unit) H3 =>
JOIN (fun (j6 : (Sl × Unit) × (Unit) -> Heap -> Prop) =>
ifB x5.1 (
APP T_sl (lenV s4.1.1.v + 1) (aAppE E [35, 35] s4.1.1.v 1 [(.int .i64 s4.1.2.1)] H3) fun (x8 : Sl) H5 =>
j6 ((x8, ()), (())) H5) (
j6 ((s4.1.1, ()), (())) H3)) fun (y7 : (Sl × Unit) × (Unit)) H4 =>
r3 ((y7.1.1, IntKind.wrap .i64 (s4.1.2.1 + 1), ()), (())) H4) (
j1 ((s4.1.1, ()), (())) H2)) (((Sl.mk none 0 0), a0, ()), (())) H) fun (y2 : (Sl × Unit) × (Unit)) H1 =>
Q (y2.1.1, ()) H1
def h_target_gone : Hnt := (.seq .leaf (.seq .leaf (.seq (.seq .leaf (.blk (some ⟨[(7, T_sl)], [], [8, 10, 11, 12, 13, 14, 15, 16, 17, 18, 19, 20, 21]⟩) (.loop ⟨[(7, T_sl), (8, (T_int .i64))], [], [10, 11, 12, 13, 14, 15, 16, 17, 18, 19, 20, 21]⟩ (.seq .leaf (.seq (.blk none (.seq .leaf (.cond (some ⟨[(7, T_sl)], [], [18, 19, 20, 21]⟩) .leaf .leaf))) .leaf))))) .leaf)))
theorem e_target_gone (a0 : Int) (a1 : Int) (a2 : Value) (H : Heap) (Q : Sl × Unit -> Heap -> Prop) : S_target_gone a0 a1 a2 H Q = cFn C [20] Tryz.f65.ntmps Tryz.f65.results.toList [T_sl] (bodyOf Tryz.f65) h_target_gone [(.int .i64 a0), (.int .i64 a1), a2] H Q := by kernel_rfl
theorem c_target_gone {a0 : Int} {a1 : Int} {a2 : Value} {H : Heap} {Q : Sl × Unit -> Heap -> Prop} (h : S_target_gone a0 a1 a2 H Q) : CALL P [T_sl] n_target_gone [(.int .i64 a0), (.int .i64 a1), a2] H Q := call_print hE Tryz.func65 rfl (by kernel_rfl) (e_target_gone a0 a1 a2 H Q) h
def S_thing_Unit (a0 : Option Addr) (a1 : G_api_Thing) (H : Heap) (Q : Bool × Unit -> Heap -> Prop) : Prop :=
ifB (a1.Place != 4) (
Q (false, ()) H) (
CALL P [T_G_api_Card, (T_int .i64)] n_thing_Card [(.pointer a0), (T_G_api_Thing.enc a1)] H fun (x1 : G_api_Card × Int × Unit) H1 =>
JOIN (fun (j2 : (Bool × Unit) × (Unit) -> Heap -> Prop) =>
ifB (x1.2.1 == 0) (
j2 ((x1.1.Kind == 1, ()), (())) H1) (
j2 ((false, ()), (())) H1)) fun (y3 : (Bool × Unit) × (Unit)) H2 =>
Q (y3.1.1, ()) H2)
def h_thing_Unit : Hnt := (.seq .leaf (.seq .leaf (.seq .leaf (.seq (.reg ⟨[(4, T_bool)], [], [16, 17, 18, 19, 20, 21, 22]⟩) .leaf))))
theorem e_thing_Unit (a0 : Option Addr) (a1 : G_api_Thing) (H : Heap) (Q : Bool × Unit -> Heap -> Prop) : S_thing_Unit a0 a1 H Q = cFn C [3, 5] Tryz.f66.ntmps Tryz.f66.results.toList [T_bool] (bodyOf Tryz.f66) h_thing_Unit [(.pointer a0), (T_G_api_Thing.enc a1)] H Q := by kernel_rfl
theorem c_thing_Unit {a0 : Option Addr} {a1 : G_api_Thing} {H : Heap} {Q : Bool × Unit -> Heap -> Prop} (h : S_thing_Unit a0 a1 H Q) : CALL P [T_bool] n_thing_Unit [(.pointer a0), (T_G_api_Thing.enc a1)] H Q := call_print hE Tryz.func66 rfl (by kernel_rfl) (e_thing_Unit a0 a1 H Q) h
def S_trait_Has (a0 : Int) (a1 : Int) (H : Heap) (Q : Bool × Unit -> Heap -> Prop) : Prop :=
CALL P [(T_int .u16)] n_trait_bit [(.int .u8 a1)] H fun (x1 : Int × Unit) H1 =>
Q ((IntKind.wrap .u16 (((BitVec.ofInt (IntKind.bits .u16) a0 &&& BitVec.ofInt (IntKind.bits .u16) x1.1).toNat : Int))) != 0, ()) H1
def h_trait_Has : Hnt := .leaf
theorem e_trait_Has (a0 : Int) (a1 : Int) (H : Heap) (Q : Bool × Unit -> Heap -> Prop) : S_trait_Has a0 a1 H Q = cFn C [] Tryz.f67.ntmps Tryz.f67.results.toList [T_bool] (bodyOf Tryz.f67) h_trait_Has [(.int .u16 a0), (.int .u8 a1)] H Q := by kernel_rfl
theorem c_trait_Has {a0 : Int} {a1 : Int} {H : Heap} {Q : Bool × Unit -> Heap -> Prop} (h : S_trait_Has a0 a1 H Q) : CALL P [T_bool] n_trait_Has [(.int .u16 a0), (.int .u8 a1)] H Q := call_print hE Tryz.func67 rfl (by kernel_rfl) (e_trait_Has a0 a1 H Q) h
def S_ref24_fits (a0 : Option Addr) (a1 : Sl) (a2 : Sl) (a3 : Int) (H : Heap) (Q : Bool × Unit -> Heap -> Prop) : Prop :=
JOIN (fun (j1 : (Bool × Unit) × (Unit) -> Heap -> Prop) =>
ifB (a3 == 0) (
CALL P [T_bool] n_ref07_Book_Sealed [(.pointer a0)] H fun (x3 : Bool × Unit) H2 =>
ifB x3.1 (
CALL P [T_bool] n_ref19_Together [(.pointer a0), a1.v, a2.v] H2 fun (x4 : Bool × Unit) H3 =>
j1 ((x4.1, ()), (())) H3) (
j1 ((false, ()), (())) H2)) (
ifB (a3 == 1) (
CALL P [T_bool] n_ref07_Book_Sealed [(.pointer a0)] H fun (x5 : Bool × Unit) H4 =>
ifB x5.1 (
CALL P [T_bool] n_ref19_Together [(.pointer a0), a1.v, a2.v] H4 fun (x6 : Bool × Unit) H5 =>
j1 ((x6.1, ()), (())) H5) (
j1 ((false, ()), (())) H4)) (
j1 ((false, ()), (())) H))) fun (y2 : (Bool × Unit) × (Unit)) H1 =>
Q (y2.1.1, ()) H1
def h_ref24_fits : Hnt := (.seq .leaf (.seq (.reg ⟨[(8, T_bool)], [], [9, 10, 11, 12, 13, 14, 15, 16, 17, 18, 19, 20, 21, 22, 23, 24]⟩) .leaf))
theorem e_ref24_fits (a0 : Option Addr) (a1 : Sl) (a2 : Sl) (a3 : Int) (H : Heap) (Q : Bool × Unit -> Heap -> Prop) : S_ref24_fits a0 a1 a2 a3 H Q = cFn C [] Tryz.f69.ntmps Tryz.f69.results.toList [T_bool] (bodyOf Tryz.f69) h_ref24_fits [(.pointer a0), a1.v, a2.v, (.int .i64 a3)] H Q := by kernel_rfl
theorem c_ref24_fits {a0 : Option Addr} {a1 : Sl} {a2 : Sl} {a3 : Int} {H : Heap} {Q : Bool × Unit -> Heap -> Prop} (h : S_ref24_fits a0 a1 a2 a3 H Q) : CALL P [T_bool] n_ref24_fits [(.pointer a0), a1.v, a2.v, (.int .i64 a3)] H Q := call_print hE Tryz.func69 rfl (by kernel_rfl) (e_ref24_fits a0 a1 a2 a3 H Q) h
def S_ref24_may (a0 : Option Addr) (a1 : Sl) (a2 : Sl) (a3 : Int) (a4 : Int) (H : Heap) (Q : Bool × Unit -> Heap -> Prop) : Prop :=
JOIN (fun (j1 : (Bool × Unit) × (Unit) -> Heap -> Prop) =>
ifB (a4 == (-1)) (
j1 ((true, ()), (())) H) (
j1 ((a4 == (-2), ()), (())) H)) fun (y2 : (Bool × Unit) × (Unit)) H1 =>
ifB y2.1.1 (
Q (true, ()) H1) (
JOIN (fun (j3 : (Bool × Unit) × (Unit) -> Heap -> Prop) =>
ifB (decide (a4 < 1)) (
j3 ((true, ()), (())) H1) (
ifB (decide (a4 > (a1.len : Int))) (
j3 ((true, ()), (())) H1) (
IDX a1.p a1.len (IntKind.wrap .i64 (a4 - 1)) 11 fun b5 o6 =>
LD T_G_api_Thing H1 b5 o6 fun (x7 : G_api_Thing) =>
CALL P [T_bool] n_ref18_Unit [(.pointer a0), (T_G_api_Thing.enc x7)] H1 fun (x8 : Bool × Unit) H3 =>
j3 ((!x8.1, ()), (())) H3))) fun (y4 : (Bool × Unit) × (Unit)) H2 =>
ifB y4.1.1 (
Q (false, ()) H2) (
JOIN (fun (j9 : (Bool × Unit) × (Unit) -> Heap -> Prop) =>
IDX a2.p a2.len (IntKind.wrap .i64 (a4 - 1)) 5 fun b11 o12 =>
LD (T_int .u16) H2 b11 (o12 + 2) fun (x13 : Int) =>
CALL P [T_bool] n_ref04_Has [(.int .u16 x13), (.int .u8 4)] H2 fun (x14 : Bool × Unit) H5 =>
ifB (!x14.1) (
j9 ((true, ()), (())) H5) (
IDX a2.p a2.len (IntKind.wrap .i64 (a4 - 1)) 5 fun b15 o16 =>
LD (T_int .i64) H5 b15 (o16 + 0) fun (x17 : Int) =>
j9 ((x17 == a3, ()), (())) H5)) fun (y10 : (Bool × Unit) × (Unit)) H4 =>
Q (y10.1.1, ()) H4))
def h_ref24_may : Hnt := (.seq .leaf (.seq (.seq (.reg ⟨[(16, T_bool)], [], [11, 12, 13, 14, 15]⟩) .leaf) (.seq (.seq (.reg ⟨[(34, T_bool)], [], [17, 18, 19, 20, 21, 22, 23, 24, 25, 26, 27, 28, 29, 30, 31, 32, 33]⟩) .leaf) (.seq (.reg ⟨[(10, T_bool)], [], [35, 36, 37, 38, 39, 40, 41, 42, 43, 44, 45, 46, 47, 48, 49, 50, 51, 52]⟩) .leaf))))
theorem e_ref24_may (a0 : Option Addr) (a1 : Sl) (a2 : Sl) (a3 : Int) (a4 : Int) (H : Heap) (Q : Bool × Unit -> Heap -> Prop) : S_ref24_may a0 a1 a2 a3 a4 H Q = cFn C [] Tryz.f70.ntmps Tryz.f70.results.toList [T_bool] (bodyOf Tryz.f70) h_ref24_may [(.pointer a0), a1.v, a2.v, (.int .i64 a3), (.int .i64 a4)] H Q := by kernel_rfl
theorem c_ref24_may {a0 : Option Addr} {a1 : Sl} {a2 : Sl} {a3 : Int} {a4 : Int} {H : Heap} {Q : Bool × Unit -> Heap -> Prop} (h : S_ref24_may a0 a1 a2 a3 a4 H Q) : CALL P [T_bool] n_ref24_may [(.pointer a0), a1.v, a2.v, (.int .i64 a3), (.int .i64 a4)] H Q := call_print hE Tryz.func70 rfl (by kernel_rfl) (e_ref24_may a0 a1 a2 a3 a4 H Q) h
def S_thing_Card (a0 : Option Addr) (a1 : G_api_Thing) (H : Heap) (Q : G_api_Card × Int × Unit -> Heap -> Prop) : Prop :=
CALL P [T_G_api_Card, (T_int .i64)] n_book_Book_At [(.pointer a0), (.int .i64 a1.Card)] H fun (x1 : G_api_Card × Int × Unit) H1 =>
Q (x1.1, x1.2.1, ()) H1
def h_thing_Card : Hnt := .leaf
theorem e_thing_Card (a0 : Option Addr) (a1 : G_api_Thing) (H : Heap) (Q : G_api_Card × Int × Unit -> Heap -> Prop) : S_thing_Card a0 a1 H Q = cFn C [3, 4] Tryz.f71.ntmps Tryz.f71.results.toList [T_G_api_Card, (T_int .i64)] (bodyOf Tryz.f71) h_thing_Card [(.pointer a0), (T_G_api_Thing.enc a1)] H Q := by kernel_rfl
theorem c_thing_Card {a0 : Option Addr} {a1 : G_api_Thing} {H : Heap} {Q : G_api_Card × Int × Unit -> Heap -> Prop} (h : S_thing_Card a0 a1 H Q) : CALL P [T_G_api_Card, (T_int .i64)] n_thing_Card [(.pointer a0), (T_G_api_Thing.enc a1)] H Q := call_print hE Tryz.func71 rfl (by kernel_rfl) (e_thing_Card a0 a1 H Q) h
def S_card_Means (a0 : G_api_Card) (H : Heap) (Q : Bool × Unit -> Heap -> Prop) : Prop :=
CALL P [T_bool] n_slices_ContainsFunc_api_Part_api_Part [a0.Parts.v, (.func (.func n_card_Means_1) #[] #[])] H fun (x1 : Bool × Unit) H1 =>
Q (x1.1, ()) H1
def h_card_Means : Hnt := .leaf
theorem e_card_Means (a0 : G_api_Card) (H : Heap) (Q : Bool × Unit -> Heap -> Prop) : S_card_Means a0 H Q = cFn C [1] Tryz.f72.ntmps Tryz.f72.results.toList [T_bool] (bodyOf Tryz.f72) h_card_Means [(T_G_api_Card.enc a0)] H Q := by kernel_rfl
theorem c_card_Means {a0 : G_api_Card} {H : Heap} {Q : Bool × Unit -> Heap -> Prop} (h : S_card_Means a0 H Q) : CALL P [T_bool] n_card_Means [(T_G_api_Card.enc a0)] H Q := call_print hE Tryz.func72 rfl (by kernel_rfl) (e_card_Means a0 H Q) h
def S_ref18_Card (a0 : Option Addr) (a1 : G_api_Thing) (H : Heap) (Q : G_api_Card × Int × Unit -> Heap -> Prop) : Prop :=
CALL P [T_bool] n_ref07_Book_None [(.pointer a0)] H fun (x1 : Bool × Unit) H1 =>
ifB x1.1 (
Q ((G_api_Card.mk (ByteArray.mk #[]) 0 0 0 0 0 0 false (Sl.mk none 0 0)), 1, ()) H1) (
CALL P [T_G_api_Card, (T_int .i64)] n_ref07_Book_At [(.pointer a0), (.int .i64 a1.Card)] H1 fun (x2 : G_api_Card × Int × Unit) H2 =>
Q (x2.1, x2.2.1, ()) H2)
def h_ref18_Card : Hnt := .leaf
theorem e_ref18_Card (a0 : Option Addr) (a1 : G_api_Thing) (H : Heap) (Q : G_api_Card × Int × Unit -> Heap -> Prop) : S_ref18_Card a0 a1 H Q = cFn C [3, 4] Tryz.f73.ntmps Tryz.f73.results.toList [T_G_api_Card, (T_int .i64)] (bodyOf Tryz.f73) h_ref18_Card [(.pointer a0), (T_G_api_Thing.enc a1)] H Q := by kernel_rfl
theorem c_ref18_Card {a0 : Option Addr} {a1 : G_api_Thing} {H : Heap} {Q : G_api_Card × Int × Unit -> Heap -> Prop} (h : S_ref18_Card a0 a1 H Q) : CALL P [T_G_api_Card, (T_int .i64)] n_ref18_Card [(.pointer a0), (T_G_api_Thing.enc a1)] H Q := call_print hE Tryz.func73 rfl (by kernel_rfl) (e_ref18_Card a0 a1 H Q) h
def S_ref06_Means (a0 : G_api_Card) (H : Heap) (Q : Bool × Unit -> Heap -> Prop) : Prop :=
JOIN (fun (j1 : (Unit) × (Unit) -> Heap -> Prop) =>
LOOP (fun (r3 : (Int × Unit) × (Unit) -> Heap -> Prop) (s4 : (Int × Unit) × (Unit)) H2 =>
ifB (decide (s4.1.1 < (a0.Parts.len : Int))) (
JOIN (fun (j5 : (Bool × Unit) × (Unit) -> Heap -> Prop) =>
IDX a0.Parts.p a0.Parts.len s4.1.1 8 fun b7 o8 =>
LD (T_int .u8) H2 b7 (o8 + 0) fun (x9 : Int) =>
ifB (x9 == 1) (
IDX a0.Parts.p a0.Parts.len s4.1.1 8 fun b10 o11 =>
LD (T_int .u8) H2 b10 (o11 + 2) fun (x12 : Int) =>
j5 ((x12 == 3, ()), (())) H2) (
j5 ((false, ()), (())) H2)) fun (y6 : (Bool × Unit) × (Unit)) H3 =>
ifB y6.1.1 (
Q (true, ()) H3) (
r3 ((IntKind.wrap .i64 (s4.1.1 + 1), ()), (())) H3)) (
j1 ((()), (())) H2)) ((0, ()), (())) H) fun (y2 : (Unit) × (Unit)) H1 =>
Q (false, ()) H1
def h_ref06_Means : Hnt := (.seq .leaf (.seq (.seq .leaf (.blk (some ⟨[], [], [2, 3, 4, 5, 6, 7, 8, 9, 10, 11, 12, 13, 14, 15, 16, 17, 18, 19, 20, 21, 22, 23, 24, 25, 26]⟩) (.loop ⟨[(3, (T_int .i64))], [], [2, 4, 5, 6, 7, 8, 9, 10, 11, 12, 13, 14, 15, 16, 17, 18, 19, 20, 21, 22, 23, 24, 25, 26]⟩ (.seq .leaf (.seq (.blk none (.seq (.reg ⟨[(26, T_bool)], [], [11, 12, 13, 14, 15, 16, 17, 18, 19, 20, 21, 22, 23, 24, 25]⟩) .leaf)) .leaf))))) .leaf))
theorem e_ref06_Means (a0 : G_api_Card) (H : Heap) (Q : Bool × Unit -> Heap -> Prop) : S_ref06_Means a0 H Q = cFn C [1] Tryz.f74.ntmps Tryz.f74.results.toList [T_bool] (bodyOf Tryz.f74) h_ref06_Means [(T_G_api_Card.enc a0)] H Q := by kernel_rfl
theorem c_ref06_Means {a0 : G_api_Card} {H : Heap} {Q : Bool × Unit -> Heap -> Prop} (h : S_ref06_Means a0 H Q) : CALL P [T_bool] n_ref06_Means [(T_G_api_Card.enc a0)] H Q := call_print hE Tryz.func74 rfl (by kernel_rfl) (e_ref06_Means a0 H Q) h
def S_kit_SameThings (a0 : Sl) (a1 : Sl) (H : Heap) (Q : Bool × Unit -> Heap -> Prop) : Prop :=
ifB ((a0.len : Int) != (a1.len : Int)) (
Q (false, ()) H) (
JOIN (fun (j1 : (Unit) × (Unit) -> Heap -> Prop) =>
LOOP (fun (r3 : (Int × Unit) × (Unit) -> Heap -> Prop) (s4 : (Int × Unit) × (Unit)) H2 =>
ifB (decide (s4.1.1 < (a0.len : Int))) (
IDX a0.p a0.len s4.1.1 11 fun b5 o6 =>
LD T_G_api_Thing H2 b5 o6 fun (x7 : G_api_Thing) =>
IDX a1.p a1.len s4.1.1 11 fun b8 o9 =>
LD T_G_api_Thing H2 b8 o9 fun (x10 : G_api_Thing) =>
ifB (!((x7.Card == x10.Card) && ((x7.Owner == x10.Owner) && ((x7.Place == x10.Place) && ((x7.Stamp == x10.Stamp) && ((x7.Hurt == x10.Hurt) && (((x7.Marks.1 == x10.Marks.1) && ((x7.Marks.2.1 == x10.Marks.2.1) && ((x7.Marks.2.2.1 == x10.Marks.2.2.1) && ((x7.Marks.2.2.2 == x10.Marks.2.2.2) && true)))) && ((x7.Done == x10.Done) && ((x7.Fresh == x10.Fresh) && true))))))))) (
Q (false, ()) H2) (
r3 ((IntKind.wrap .i64 (s4.1.1 + 1), ()), (())) H2)) (
j1 ((()), (())) H2)) ((0, ()), (())) H) fun (y2 : (Unit) × (Unit)) H1 =>
Q (true, ()) H1)
def h_kit_SameThings : Hnt := (.seq .leaf (.seq .leaf (.seq (.seq .leaf (.blk (some ⟨[], [], [4, 5, 11, 12, 13, 14, 15, 16, 17, 18, 19, 20, 21, 22, 23, 24, 25]⟩) (.loop ⟨[(5, (T_int .i64))], [], [4, 11, 12, 13, 14, 15, 16, 17, 18, 19, 20, 21, 22, 23, 24, 25]⟩ .leaf))) .leaf)))
theorem e_kit_SameThings (a0 : Sl) (a1 : Sl) (H : Heap) (Q : Bool × Unit -> Heap -> Prop) : S_kit_SameThings a0 a1 H Q = cFn C [] Tryz.f75.ntmps Tryz.f75.results.toList [T_bool] (bodyOf Tryz.f75) h_kit_SameThings [a0.v, a1.v] H Q := by kernel_rfl
theorem c_kit_SameThings {a0 : Sl} {a1 : Sl} {H : Heap} {Q : Bool × Unit -> Heap -> Prop} (h : S_kit_SameThings a0 a1 H Q) : CALL P [T_bool] n_kit_SameThings [a0.v, a1.v] H Q := call_print hE Tryz.func75 rfl (by kernel_rfl) (e_kit_SameThings a0 a1 H Q) h
def S_kit_markInts (a0 : Int) (a1 : Int) (H : Heap) (Q : Int × Unit -> Heap -> Prop) : Prop :=
Q (IntKind.wrap .i64 ((IntKind.wrap .i64 ((IntKind.wrap .i64 ((-1000003) * a0)) - a1)) - 5), ()) H
def h_kit_markInts : Hnt := .leaf
theorem e_kit_markInts (a0 : Int) (a1 : Int) (H : Heap) (Q : Int × Unit -> Heap -> Prop) : S_kit_markInts a0 a1 H Q = cFn C [] Tryz.f76.ntmps Tryz.f76.results.toList [(T_int .i64)] (bodyOf Tryz.f76) h_kit_markInts [(.int .i64 a0), (.int .i64 a1)] H Q := by kernel_rfl
theorem c_kit_markInts {a0 : Int} {a1 : Int} {H : Heap} {Q : Int × Unit -> Heap -> Prop} (h : S_kit_markInts a0 a1 H Q) : CALL P [(T_int .i64)] n_kit_markInts [(.int .i64 a0), (.int .i64 a1)] H Q := call_print hE Tryz.func76 rfl (by kernel_rfl) (e_kit_markInts a0 a1 H Q) h
def S_layer_setup (a0 : Option Addr) (a1 : Sl) (a2 : Sl) (H : Heap) (Q : G_layer_place × Int × Unit -> Heap -> Prop) : Prop :=
NEW H [(.slice a1.p a1.len a1.cap)] 1 fun H1 =>
LD T_sl H1 H.length 0 fun (x1 : Sl) =>
LD T_sl H1 H.length 0 fun (x2 : Sl) =>
GEN T_sl (aMakeSlice E 22 (.int .i64 (x2.len : Int)) (.int .i64 (x2.len : Int)) H1) fun (x3 : Sl) H2 =>
LD T_sl H2 H.length 0 fun (x4 : Sl) =>
REQ (T_sl.enc x4 = x1.v) (
CALL P [(T_int .i64), (T_int .i64)] n_book_Book_Find [(.pointer a0), (.string (ByteArray.mk #[]))] H2 fun (x5 : Int × Int × Unit) H3 =>
ifB (x5.2.1 == 1) (
Q ((G_layer_place.mk a0 x1 x3 (Sl.mk none 0 0)), x5.2.1, ()) H3) (
LD T_sl H3 H.length 0 fun (x6 : Sl) =>
ifB (decide ((x6.len : Int) > 2048)) (
Q ((G_layer_place.mk a0 x1 x3 (Sl.mk none 0 0)), 3, ()) H3) (
JOIN (fun (j7 : (Bool × Unit) × (Unit) -> Heap -> Prop) =>
CALL P [T_bool] n_book_Book_Sealed [(.pointer a0)] H3 fun (x9 : Bool × Unit) H5 =>
ifB (!x9.1) (
j7 ((true, ()), (())) H5) (
LD T_sl H5 H.length 0 fun (x10 : Sl) =>
j7 (((a2.len : Int) != (x10.len : Int), ()), (())) H5)) fun (y8 : (Bool × Unit) × (Unit)) H4 =>
ifB y8.1.1 (
Q ((G_layer_place.mk a0 x1 x3 (Sl.mk none 0 0)), 2, ()) H4) (
LD T_sl H4 H.length 0 fun (x11 : Sl) =>
JOIN (fun (j12 : (Unit) × (G_layer_place × G_layer_place × Unit) -> Heap -> Prop) =>
LOOP (fun (r14 : (Int × Unit) × (G_layer_place × G_layer_place × Unit) -> Heap -> Prop) (s15 : (Int × Unit) × (G_layer_place × G_layer_place × Unit)) H7 =>
ifB (decide (s15.1.1 < (x11.len : Int))) (
JOIN (fun (j16 : (Unit) × (G_layer_place × G_layer_place × Unit) -> Heap -> Prop) =>
IDX x11.p x11.len s15.1.1 11 fun b18 o19 =>
LD T_G_api_Thing H7 b18 o19 fun (x20 : G_api_Thing) =>
CALL P [T_G_api_Card, (T_int .i64)] n_thing_Card [(.pointer a0), (T_G_api_Thing.enc x20)] H7 fun (x21 : G_api_Card × Int × Unit) H9 =>
JOIN (fun (j22 : (Bool × Unit) × (Unit) -> Heap -> Prop) =>
ifB (x21.2.1 != 0) (
j22 ((true, ()), (())) H9) (
ifB (x20.Owner != 0) (
ifB (x20.Owner != 1) (
j22 ((true, ()), (())) H9) (
ifB (decide (x20.Place < 1)) (
j22 ((true, ()), (())) H9) (
j22 ((decide (x20.Place > 5), ()), (())) H9))) (
ifB (decide (x20.Place < 1)) (
j22 ((true, ()), (())) H9) (
j22 ((decide (x20.Place > 5), ()), (())) H9)))) fun (y23 : (Bool × Unit) × (Unit)) H10 =>
ifB y23.1.1 (
Q (s15.2.2.1, 2, ()) H10) (
ifB (x20.Place != 4) (
j16 ((()), (s15.2.1, s15.2.2.1, ())) H10) (
JOIN (fun (j24 : (Bool × Unit) × (Unit) -> Heap -> Prop) =>
ifB (x21.1.Kind == 2) (
j24 ((true, ()), (())) H10) (
ifB (decide (x20.Stamp < 1)) (
j24 ((true, ()), (())) H10) (
IDX a2.p a2.len s15.1.1 5 fun b26 o27 =>
LD (T_int .i64) H10 b26 (o27 + 0) fun (x28 : Int) =>
ifB (x28 != 0) (
IDX a2.p a2.len s15.1.1 5 fun b29 o30 =>
LD (T_int .i64) H10 b29 (o30 + 0) fun (x31 : Int) =>
ifB (x31 != 1) (
j24 ((true, ()), (())) H10) (
IDX a2.p a2.len s15.1.1 5 fun b32 o33 =>
LD (T_int .u16) H10 b32 (o33 + 2) fun (x34 : Int) =>
CALL P [T_bool] n_trait_Check [(.int .u16 x34)] H10 fun (x35 : Bool × Unit) H12 =>
j24 ((!x35.1, ()), (())) H12)) (
IDX a2.p a2.len s15.1.1 5 fun b36 o37 =>
LD (T_int .u16) H10 b36 (o37 + 2) fun (x38 : Int) =>
CALL P [T_bool] n_trait_Check [(.int .u16 x38)] H10 fun (x39 : Bool × Unit) H13 =>
j24 ((!x39.1, ()), (())) H13)))) fun (y25 : (Bool × Unit) × (Unit)) H11 =>
ifB y25.1.1 (
Q (s15.2.2.1, 2, ()) H11) (
IDX s15.2.2.1.cards.p s15.2.2.1.cards.len s15.1.1 9 fun b40 o41 =>
ST H11 b40 o41 (T_G_api_Card.cells x21.1) fun H14 =>
APP T_sl (lenV s15.2.2.1.order.v + 1) (aAppE E [35, 35] s15.2.2.1.order.v 1 [(.int .i64 s15.1.1)] H14) fun (x42 : Sl) H15 =>
ifB (decide ((x42.len : Int) > 16)) (
Q ((G_layer_place.mk s15.2.2.1.b s15.2.2.1.things s15.2.2.1.cards x42), 2, ()) H15) (
j16 ((()), (s15.2.1, (G_layer_place.mk s15.2.2.1.b s15.2.2.1.things s15.2.2.1.cards x42), ())) H15))))) fun (y17 : (Unit) × (G_layer_place × G_layer_place × Unit)) H8 =>
r14 ((IntKind.wrap .i64 (s15.1.1 + 1), ()), (y17.2.1, y17.2.2.1, ())) H8) (
j12 ((()), (s15.2.1, s15.2.2.1, ())) H7)) ((0, ()), ((G_layer_place.mk none (Sl.mk none 0 0) (Sl.mk none 0 0) (Sl.mk none 0 0)), (G_layer_place.mk a0 x1 x3 (Sl.mk none 0 0)), ())) H4) fun (y13 : (Unit) × (G_layer_place × G_layer_place × Unit)) H6 =>
CALL P [] n_slices_SortFunc_int_int [y13.2.2.1.order.v, (.func (.func n_layer_setup_1) #[] #[(.pointer (some ⟨H.length, 0, none⟩))])] H6 fun (x43 : Unit) H16 =>
JOIN (fun (j44 : (Unit) × (G_layer_place × Unit) -> Heap -> Prop) =>
LOOP (fun (r46 : (Int × Unit) × (G_layer_place × Unit) -> Heap -> Prop) (s47 : (Int × Unit) × (G_layer_place × Unit)) H18 =>
ifB (decide (s47.1.1 < (y13.2.2.1.order.len : Int))) (
LD T_sl H18 H.length 0 fun (x48 : Sl) =>
IDX y13.2.2.1.order.p y13.2.2.1.order.len (IntKind.wrap .i64 (s47.1.1 - 1)) 1 fun b49 o50 =>
LD (T_int .i64) H18 b49 o50 fun (x51 : Int) =>
IDX x48.p x48.len x51 11 fun b52 o53 =>
LD (T_int .i64) H18 b52 (o53 + 3) fun (x54 : Int) =>
LD T_sl H18 H.length 0 fun (x55 : Sl) =>
IDX y13.2.2.1.order.p y13.2.2.1.order.len s47.1.1 1 fun b56 o57 =>
LD (T_int .i64) H18 b56 o57 fun (x58 : Int) =>
IDX x55.p x55.len x58 11 fun b59 o60 =>
LD (T_int .i64) H18 b59 (o60 + 3) fun (x61 : Int) =>
ifB (x54 == x61) (
Q (y13.2.2.1, 2, ()) H18) (
r46 ((IntKind.wrap .i64 (s47.1.1 + 1), ()), (s47.2.1, ())) H18)) (
j44 ((()), (s47.2.1, ())) H18)) ((1, ()), (y13.2.1, ())) H16) fun (y45 : (Unit) × (G_layer_place × Unit)) H17 =>
Q (y13.2.2.1, 0, ()) H17))))
def h_layer_setup : Hnt := (.seq .leaf (.seq .leaf (.seq (.seq .leaf (.blk none (.seq .leaf (.cond none .leaf (.seq .leaf (.cond none .leaf (.seq (.reg ⟨[(37, T_bool)], [], [38, 39, 40, 41, 42, 43, 44, 45, 46, 47]⟩) .leaf))))))) (.seq (.seq .leaf (.blk (some ⟨[], [(0, T_G_layer_place), (1, T_G_layer_place)], [7, 11, 12, 13, 14, 51, 52, 53, 54, 55, 56, 57, 58, 59, 60, 61, 62, 63, 64, 65, 66, 67, 68, 69, 70, 71, 72, 73, 74, 75, 76, 77, 78, 79, 80, 81, 82, 83, 84, 85, 86, 87, 88, 89, 90, 91, 92, 93, 94, 95, 96, 97, 98, 99, 100, 101, 102, 103, 104, 105, 106, 107, 108, 109, 110, 111, 112, 113, 114, 115, 116, 117, 118, 119, 120, 121, 122, 123, 124, 125, 126, 127, 128, 129, 130, 131, 132, 133, 134, 135, 136, 137, 138]⟩) (.loop ⟨[(51, (T_int .i64))], [(0, T_G_layer_place), (1, T_G_layer_place)], [7, 11, 12, 13, 14, 52, 53, 54, 55, 56, 57, 58, 59, 60, 61, 62, 63, 64, 65, 66, 67, 68, 69, 70, 71, 72, 73, 74, 75, 76, 77, 78, 79, 80, 81, 82, 83, 84, 85, 86, 87, 88, 89, 90, 91, 92, 93, 94, 95, 96, 97, 98, 99, 100, 101, 102, 103, 104, 105, 106, 107, 108, 109, 110, 111, 112, 113, 114, 115, 116, 117, 118, 119, 120, 121, 122, 123, 124, 125, 126, 127, 128, 129, 130, 131, 132, 133, 134, 135, 136, 137, 138]⟩ (.seq .leaf (.seq .leaf (.seq (.blk (some ⟨[], [(0, T_G_layer_place), (1, T_G_layer_place)], [7, 11, 12, 13, 14, 53, 54, 55, 56, 57, 58, 59, 60, 61, 62, 63, 64, 65, 66, 67, 68, 69, 70, 71, 72, 73, 74, 75, 76, 77, 78, 79, 80, 81, 82, 83, 84, 85, 86, 87, 88, 89, 90, 91, 92, 93, 94, 95, 96, 97, 98, 99, 100, 101, 102, 103, 104, 105, 106, 107, 108, 109, 110, 111, 112, 113, 114, 115, 116, 117, 118, 119, 120, 121, 122, 123, 124, 125, 126, 127, 128, 129, 130, 131, 132, 133, 134, 135, 136, 137]⟩) (.seq .leaf (.seq .leaf (.seq (.seq (.reg ⟨[(83, T_bool)], [], [62, 63, 64, 65, 66, 67, 68, 69, 70, 71, 72, 73, 74, 75, 76, 77, 78, 79, 80, 81, 82]⟩) .leaf) (.seq .leaf (.seq (.seq (.reg ⟨[(120, T_bool)], [], [88, 89, 90, 91, 92, 93, 94, 95, 96, 97, 98, 99, 100, 101, 102, 103, 104, 105, 106, 107, 108, 109, 110, 111, 112, 113, 114, 115, 116, 117, 118, 119]⟩) .leaf) .leaf)))))) .leaf)))))) (.seq .leaf (.seq (.seq .leaf (.blk (some ⟨[], [(0, T_G_layer_place)], [7, 15, 143, 144, 145, 146, 147, 148, 149, 150, 151, 152, 153, 154, 155, 156, 157, 158, 159, 160, 161, 162, 163, 164, 165, 166, 167, 168, 169, 170]⟩) (.loop ⟨[(15, (T_int .i64))], [(0, T_G_layer_place)], [7, 143, 144, 145, 146, 147, 148, 149, 150, 151, 152, 153, 154, 155, 156, 157, 158, 159, 160, 161, 162, 163, 164, 165, 166, 167, 168, 169, 170]⟩ .leaf))) .leaf))))))
theorem e_layer_setup (a0 : Option Addr) (a1 : Sl) (a2 : Sl) (H : Heap) (Q : G_layer_place × Int × Unit -> Heap -> Prop) : S_layer_setup a0 a1 a2 H Q = cFn C [6, 8, 12, 13, 130] Tryz.f78.ntmps Tryz.f78.results.toList [T_G_layer_place, (T_int .i64)] (bodyOf Tryz.f78) h_layer_setup [(.pointer a0), a1.v, a2.v] H Q := by kernel_rfl
theorem c_layer_setup {a0 : Option Addr} {a1 : Sl} {a2 : Sl} {H : Heap} {Q : G_layer_place × Int × Unit -> Heap -> Prop} (h : S_layer_setup a0 a1 a2 H Q) : CALL P [T_G_layer_place, (T_int .i64)] n_layer_setup [(.pointer a0), a1.v, a2.v] H Q := call_print hE Tryz.func78 rfl (by kernel_rfl) (e_layer_setup a0 a1 a2 H Q) h
def S_layer_place_effects (a0 : G_layer_place) (a1 : Sl) (a2 : Int) (H : Heap) (Q : Sl × Unit -> Heap -> Prop) : Prop :=
JOIN (fun (j1 : (Sl × Unit) × (Unit) -> Heap -> Prop) =>
LOOP (fun (r3 : (Sl × Int × Unit) × (Unit) -> Heap -> Prop) (s4 : (Sl × Int × Unit) × (Unit)) H2 =>
ifB (decide (s4.1.2.1 < (a0.order.len : Int))) (
JOIN (fun (j5 : (Sl × Unit) × (Unit) -> Heap -> Prop) =>
IDX a0.order.p a0.order.len s4.1.2.1 1 fun b7 o8 =>
LD (T_int .i64) H2 b7 o8 fun (x9 : Int) =>
IDX a1.p a1.len x9 5 fun b10 o11 =>
LD (T_int .u16) H2 b10 (o11 + 2) fun (x12 : Int) =>
CALL P [T_bool] n_trait_Has [(.int .u16 x12), (.int .u8 6)] H2 fun (x13 : Bool × Unit) H4 =>
ifB x13.1 (
j5 ((s4.1.1, ()), (())) H4) (
IDX a0.cards.p a0.cards.len x9 9 fun b14 o15 =>
LD T_sl H4 b14 (o15 + 8) fun (x16 : Sl) =>
JOIN (fun (j17 : (Sl × Unit) × (Unit) -> Heap -> Prop) =>
LOOP (fun (r19 : (Sl × Int × Unit) × (Unit) -> Heap -> Prop) (s20 : (Sl × Int × Unit) × (Unit)) H6 =>
ifB (decide (s20.1.2.1 < (x16.len : Int))) (
IDX x16.p x16.len s20.1.2.1 8 fun b21 o22 =>
LD T_G_api_Part H6 b21 o22 fun (x23 : G_api_Part) =>
JOIN (fun (j24 : (Bool × Unit) × (Unit) -> Heap -> Prop) =>
ifB (x23.When == 5) (
CALL P [(T_int .i64)] n_effect_Layer [(.int .u8 x23.Verb)] H6 fun (x26 : Int × Unit) H8 =>
j24 ((x26.1 == a2, ()), (())) H8) (
j24 ((false, ()), (())) H6)) fun (y25 : (Bool × Unit) × (Unit)) H7 =>
JOIN (fun (j27 : (Sl × Unit) × (Unit) -> Heap -> Prop) =>
ifB y25.1.1 (
APP T_sl (lenV s20.1.1.v + 1) (aAppE E [66, 66] s20.1.1.v 1 [(.int .i64 (IntKind.wrap .i64 (x9 + 1))), (.int .i64 s20.1.2.1), (.int .u8 x23.When), (.int .u8 x23.Verb), (.int .u8 x23.Whom), (.int .i64 x23.Count), (.int .u8 x23.Suit), (.int .u8 x23.Trait), (.int .u8 x23.Mark), (.string x23.Name)] H7) fun (x29 : Sl) H10 =>
j27 ((x29, ()), (())) H10) (
j27 ((s20.1.1, ()), (())) H7)) fun (y28 : (Sl × Unit) × (Unit)) H9 =>
r19 ((y28.1.1, IntKind.wrap .i64 (s20.1.2.1 + 1), ()), (())) H9) (
j17 ((s20.1.1, ()), (())) H6)) ((s4.1.1, 0, ()), (())) H4) fun (y18 : (Sl × Unit) × (Unit)) H5 =>
j5 ((y18.1.1, ()), (())) H5)) fun (y6 : (Sl × Unit) × (Unit)) H3 =>
r3 ((y6.1.1, IntKind.wrap .i64 (s4.1.2.1 + 1), ()), (())) H3) (
j1 ((s4.1.1, ()), (())) H2)) (((Sl.mk none 0 0), 0, ()), (())) H) fun (y2 : (Sl × Unit) × (Unit)) H1 =>
Q (y2.1.1, ()) H1
def h_layer_place_effects : Hnt := (.seq .leaf (.seq .leaf (.seq (.seq .leaf (.blk (some ⟨[(7, T_sl)], [], [9, 10, 11, 15, 16, 17, 18, 19, 20, 21, 22, 23, 24, 25, 26, 27, 28, 29, 30, 31, 32, 33, 34, 35, 36, 37, 38, 39, 40, 41, 42, 43, 44, 45, 46, 47, 48, 49, 50, 51, 52, 53, 54, 55, 56]⟩) (.loop ⟨[(7, T_sl), (15, (T_int .i64))], [], [9, 10, 11, 16, 17, 18, 19, 20, 21, 22, 23, 24, 25, 26, 27, 28, 29, 30, 31, 32, 33, 34, 35, 36, 37, 38, 39, 40, 41, 42, 43, 44, 45, 46, 47, 48, 49, 50, 51, 52, 53, 54, 55, 56]⟩ (.seq .leaf (.seq .leaf (.seq (.blk (some ⟨[(7, T_sl)], [], [9, 10, 11, 17, 18, 19, 20, 21, 22, 23, 24, 25, 26, 27, 28, 29, 30, 31, 32, 33, 34, 35, 36, 37, 38, 39, 40, 41, 42, 43, 44, 45, 46, 47, 48, 49, 50, 51, 52, 53, 54, 55]⟩) (.seq .leaf (.seq .leaf (.seq .leaf (.blk (some ⟨[(7, T_sl)], [], [10, 11, 32, 33, 34, 35, 36, 37, 38, 39, 40, 41, 42, 43, 44, 45, 46, 47, 48, 49, 50, 51, 52, 53, 54, 55]⟩) (.loop ⟨[(7, T_sl), (32, (T_int .i64))], [], [10, 11, 33, 34, 35, 36, 37, 38, 39, 40, 41, 42, 43, 44, 45, 46, 47, 48, 49, 50, 51, 52, 53, 54, 55]⟩ (.seq .leaf (.seq .leaf (.seq (.blk none (.seq .leaf (.seq (.reg ⟨[(46, T_bool)], [], [37, 38, 39, 40, 41, 42, 43, 44, 45]⟩) (.cond (some ⟨[(7, T_sl)], [], [47, 48, 49, 50, 51, 52, 53, 54]⟩) .leaf .leaf)))) .leaf))))))))) .leaf)))))) .leaf)))
theorem e_layer_place_effects (a0 : G_layer_place) (a1 : Sl) (a2 : Int) (H : Heap) (Q : Sl × Unit -> Heap -> Prop) : S_layer_place_effects a0 a1 a2 H Q = cFn C [3, 11, 53] Tryz.f84.ntmps Tryz.f84.results.toList [T_sl] (bodyOf Tryz.f84) h_layer_place_effects [(T_G_layer_place.enc a0), a1.v, (.int .i64 a2)] H Q := by kernel_rfl
theorem c_layer_place_effects {a0 : G_layer_place} {a1 : Sl} {a2 : Int} {H : Heap} {Q : Sl × Unit -> Heap -> Prop} (h : S_layer_place_effects a0 a1 a2 H Q) : CALL P [T_sl] n_layer_place_effects [(T_G_layer_place.enc a0), a1.v, (.int .i64 a2)] H Q := call_print hE Tryz.func84 rfl (by kernel_rfl) (e_layer_place_effects a0 a1 a2 H Q) h
def S_ref19_wrong (a0 : Option Addr) (a1 : Sl) (a2 : Sl) (H : Heap) (Q : Int × Unit -> Heap -> Prop) : Prop :=
CALL P [T_bool] n_ref07_Book_None [(.pointer a0)] H fun (x1 : Bool × Unit) H1 =>
ifB x1.1 (
Q (1, ()) H1) (
ifB (decide ((a1.len : Int) > 2048)) (
Q (3, ()) H1) (
CALL P [T_bool] n_ref19_Together [(.pointer a0), a1.v, a2.v] H1 fun (x2 : Bool × Unit) H2 =>
ifB (!x2.1) (
Q (2, ()) H2) (
Q (0, ()) H2)))
def h_ref19_wrong : Hnt := .leaf
theorem e_ref19_wrong (a0 : Option Addr) (a1 : Sl) (a2 : Sl) (H : Heap) (Q : Int × Unit -> Heap -> Prop) : S_ref19_wrong a0 a1 a2 H Q = cFn C [] Tryz.f91.ntmps Tryz.f91.results.toList [(T_int .i64)] (bodyOf Tryz.f91) h_ref19_wrong [(.pointer a0), a1.v, a2.v] H Q := by kernel_rfl
theorem c_ref19_wrong {a0 : Option Addr} {a1 : Sl} {a2 : Sl} {H : Heap} {Q : Int × Unit -> Heap -> Prop} (h : S_ref19_wrong a0 a1 a2 H Q) : CALL P [(T_int .i64)] n_ref19_wrong [(.pointer a0), a1.v, a2.v] H Q := call_print hE Tryz.func91 rfl (by kernel_rfl) (e_ref19_wrong a0 a1 a2 H Q) h
def S_ref19_next (a0 : Option Addr) (a1 : Sl) (a2 : Sl) (a3 : Sl) (H : Heap) (Q : Int × Unit -> Heap -> Prop) : Prop :=
JOIN (fun (j1 : (Int × Int × Unit) × (Unit) -> Heap -> Prop) =>
LOOP (fun (r3 : (Int × Int × Int × Unit) × (Unit) -> Heap -> Prop) (s4 : (Int × Int × Int × Unit) × (Unit)) H2 =>
ifB (decide (s4.1.2.2.1 < (a3.len : Int))) (
JOIN (fun (j5 : (Int × Int × Unit) × (Unit) -> Heap -> Prop) =>
IDX a3.p a3.len s4.1.2.2.1 10 fun b7 o8 =>
LD T_G_api_Standing H2 b7 o8 fun (x9 : G_api_Standing) =>
IDX a3.p a3.len s4.1.2.1 10 fun b10 o11 =>
LD T_G_api_Standing H2 b10 o11 fun (x12 : G_api_Standing) =>
CALL P [T_bool] n_ref19_ahead [a1.v, (T_G_api_Standing.enc x9), (T_G_api_Standing.enc x12)] H2 fun (x13 : Bool × Unit) H4 =>
JOIN (fun (j14 : (Int × Unit) × (Unit) -> Heap -> Prop) =>
ifB x13.1 (
j14 ((s4.1.2.2.1, ()), (())) H4) (
j14 ((s4.1.2.1, ()), (())) H4)) fun (y15 : (Int × Unit) × (Unit)) H5 =>
JOIN (fun (j16 : (Bool × Unit) × (Unit) -> Heap -> Prop) =>
LOOP (fun (r18 : (Bool × Int × Unit) × (Unit) -> Heap -> Prop) (s19 : (Bool × Int × Unit) × (Unit)) H7 =>
JOIN (fun (j20 : (Bool × Unit) × (Unit) -> Heap -> Prop) =>
ifB (decide (s19.1.2.1 < (a3.len : Int))) (
j20 ((!s19.1.1, ()), (())) H7) (
j20 ((false, ()), (())) H7)) fun (y21 : (Bool × Unit) × (Unit)) H8 =>
ifB y21.1.1 (
JOIN (fun (j22 : (Bool × Unit) × (Unit) -> Heap -> Prop) =>
ifB (s19.1.2.1 != s4.1.2.2.1) (
IDX a3.p a3.len s4.1.2.2.1 10 fun b24 o25 =>
LD T_G_api_Standing H8 b24 o25 fun (x26 : G_api_Standing) =>
IDX a3.p a3.len s19.1.2.1 10 fun b27 o28 =>
LD T_G_api_Standing H8 b27 o28 fun (x29 : G_api_Standing) =>
CALL P [T_bool] n_ref19_depends [(.pointer a0), a1.v, a2.v, (T_G_api_Standing.enc x26), (T_G_api_Standing.enc x29)] H8 fun (x30 : Bool × Unit) H10 =>
j22 ((x30.1, ()), (())) H10) (
j22 ((false, ()), (())) H8)) fun (y23 : (Bool × Unit) × (Unit)) H9 =>
r18 ((y23.1.1, IntKind.wrap .i64 (s19.1.2.1 + 1), ()), (())) H9) (
j16 ((s19.1.1, ()), (())) H8)) ((false, 0, ()), (())) H5) fun (y17 : (Bool × Unit) × (Unit)) H6 =>
JOIN (fun (j31 : (Bool × Unit) × (Unit) -> Heap -> Prop) =>
ifB (!y17.1.1) (
ifB (decide (s4.1.1 < 0)) (
j31 ((true, ()), (())) H6) (
IDX a3.p a3.len s4.1.2.2.1 10 fun b33 o34 =>
LD T_G_api_Standing H6 b33 o34 fun (x35 : G_api_Standing) =>
IDX a3.p a3.len s4.1.1 10 fun b36 o37 =>
LD T_G_api_Standing H6 b36 o37 fun (x38 : G_api_Standing) =>
CALL P [T_bool] n_ref19_ahead [a1.v, (T_G_api_Standing.enc x35), (T_G_api_Standing.enc x38)] H6 fun (x39 : Bool × Unit) H12 =>
j31 ((x39.1, ()), (())) H12)) (
j31 ((false, ()), (())) H6)) fun (y32 : (Bool × Unit) × (Unit)) H11 =>
JOIN (fun (j40 : (Int × Unit) × (Unit) -> Heap -> Prop) =>
ifB y32.1.1 (
j40 ((s4.1.2.2.1, ()), (())) H11) (
j40 ((s4.1.1, ()), (())) H11)) fun (y41 : (Int × Unit) × (Unit)) H13 =>
j5 ((y41.1.1, y15.1.1, ()), (())) H13) fun (y6 : (Int × Int × Unit) × (Unit)) H3 =>
r3 ((y6.1.1, y6.1.2.1, IntKind.wrap .i64 (s4.1.2.2.1 + 1), ()), (())) H3) (
j1 ((s4.1.1, s4.1.2.1, ()), (())) H2)) (((-1), 0, 0, ()), (())) H) fun (y2 : (Int × Int × Unit) × (Unit)) H1 =>
ifB (decide (y2.1.1 < 0)) (
Q (y2.1.2.1, ()) H1) (
Q (y2.1.1, ()) H1)
def h_ref19_next : Hnt := (.seq .leaf (.seq .leaf (.seq (.seq .leaf (.blk (some ⟨[(9, (T_int .i64)), (10, (T_int .i64))], [], [11, 12, 13, 14, 15, 16, 17, 18, 19, 20, 21, 22, 23, 24, 25, 26, 27, 28, 29, 30, 31, 32, 33, 34, 35, 36, 37, 38, 39, 40, 41, 42, 43, 44, 45, 46, 47, 48, 49, 50, 51, 52, 53, 54, 55, 56, 57, 58, 59, 60, 61, 62, 63, 64, 65, 66, 67, 68, 69, 70, 71, 72, 73, 74, 75, 76]⟩) (.loop ⟨[(9, (T_int .i64)), (10, (T_int .i64)), (11, (T_int .i64))], [], [12, 13, 14, 15, 16, 17, 18, 19, 20, 21, 22, 23, 24, 25, 26, 27, 28, 29, 30, 31, 32, 33, 34, 35, 36, 37, 38, 39, 40, 41, 42, 43, 44, 45, 46, 47, 48, 49, 50, 51, 52, 53, 54, 55, 56, 57, 58, 59, 60, 61, 62, 63, 64, 65, 66, 67, 68, 69, 70, 71, 72, 73, 74, 75, 76]⟩ (.seq .leaf (.seq (.blk (some ⟨[(9, (T_int .i64)), (10, (T_int .i64))], [], [12, 13, 20, 21, 22, 23, 24, 25, 26, 27, 28, 29, 30, 31, 32, 33, 34, 35, 36, 37, 38, 39, 40, 41, 42, 43, 44, 45, 46, 47, 48, 49, 50, 51, 52, 53, 54, 55, 56, 57, 58, 59, 60, 61, 62, 63, 64, 65, 66, 67, 68, 69, 70, 71, 72, 73, 74, 75, 76]⟩) (.seq (.seq .leaf (.cond (some ⟨[(10, (T_int .i64))], [], [30]⟩) .leaf .leaf)) (.seq .leaf (.seq (.seq .leaf (.blk (some ⟨[(12, T_bool)], [], [13, 31, 32, 33, 34, 35, 36, 37, 38, 39, 40, 41, 42, 43, 44, 45, 46, 47, 48, 49, 50, 51, 52, 53, 54, 55, 56, 57]⟩) (.loop ⟨[(12, T_bool), (13, (T_int .i64))], [], [31, 32, 33, 34, 35, 36, 37, 38, 39, 40, 41, 42, 43, 44, 45, 46, 47, 48, 49, 50, 51, 52, 53, 54, 55, 56, 57]⟩ (.seq (.seq (.reg ⟨[(38, T_bool)], [], [31, 32, 33, 34, 35, 36, 37]⟩) .leaf) (.seq (.blk none (.reg ⟨[(12, T_bool)], [], [41, 42, 43, 44, 45, 46, 47, 48, 49, 50, 51, 52, 53, 54, 55, 56, 57]⟩)) .leaf))))) (.seq (.reg ⟨[(75, T_bool)], [], [58, 59, 60, 61, 62, 63, 64, 65, 66, 67, 68, 69, 70, 71, 72, 73, 74]⟩) (.cond (some ⟨[(9, (T_int .i64))], [], [76]⟩) .leaf .leaf)))))) .leaf))))) .leaf)))
theorem e_ref19_next (a0 : Option Addr) (a1 : Sl) (a2 : Sl) (a3 : Sl) (H : Heap) (Q : Int × Unit -> Heap -> Prop) : S_ref19_next a0 a1 a2 a3 H Q = cFn C [] Tryz.f93.ntmps Tryz.f93.results.toList [(T_int .i64)] (bodyOf Tryz.f93) h_ref19_next [(.pointer a0), a1.v, a2.v, a3.v] H Q := by kernel_rfl
theorem c_ref19_next {a0 : Option Addr} {a1 : Sl} {a2 : Sl} {a3 : Sl} {H : Heap} {Q : Int × Unit -> Heap -> Prop} (h : S_ref19_next a0 a1 a2 a3 H Q) : CALL P [(T_int .i64)] n_ref19_next [(.pointer a0), a1.v, a2.v, a3.v] H Q := call_print hE Tryz.func93 rfl (by kernel_rfl) (e_ref19_next a0 a1 a2 a3 H Q) h
def S_ref19_effects (a0 : Option Addr) (a1 : Sl) (a2 : Sl) (a3 : Int) (H : Heap) (Q : Sl × Unit -> Heap -> Prop) : Prop :=
CALL P [T_sl] n_ref19_order [a1.v] H fun (x1 : Sl × Unit) H1 =>
JOIN (fun (j2 : (Sl × Unit) × (Unit) -> Heap -> Prop) =>
LOOP (fun (r4 : (Sl × Int × Unit) × (Unit) -> Heap -> Prop) (s5 : (Sl × Int × Unit) × (Unit)) H3 =>
ifB (decide (s5.1.2.1 < (x1.1.len : Int))) (
JOIN (fun (j6 : (Sl × Unit) × (Unit) -> Heap -> Prop) =>
IDX x1.1.p x1.1.len s5.1.2.1 1 fun b8 o9 =>
LD (T_int .i64) H3 b8 o9 fun (x10 : Int) =>
IDX a2.p a2.len (IntKind.wrap .i64 (x10 - 1)) 5 fun b11 o12 =>
LD (T_int .u16) H3 b11 (o12 + 2) fun (x13 : Int) =>
CALL P [T_bool] n_ref04_Has [(.int .u16 x13), (.int .u8 6)] H3 fun (x14 : Bool × Unit) H5 =>
ifB x14.1 (
j6 ((s5.1.1, ()), (())) H5) (
IDX x1.1.p x1.1.len s5.1.2.1 1 fun b15 o16 =>
LD (T_int .i64) H5 b15 o16 fun (x17 : Int) =>
IDX a1.p a1.len (IntKind.wrap .i64 (x17 - 1)) 11 fun b18 o19 =>
LD (T_int .i64) H5 b18 (o19 + 0) fun (x20 : Int) =>
CALL P [T_G_api_Card, (T_int .i64)] n_ref07_Book_At [(.pointer a0), (.int .i64 x20)] H5 fun (x21 : G_api_Card × Int × Unit) H6 =>
JOIN (fun (j22 : (Sl × Unit) × (Unit) -> Heap -> Prop) =>
LOOP (fun (r24 : (Sl × Int × Unit) × (Unit) -> Heap -> Prop) (s25 : (Sl × Int × Unit) × (Unit)) H8 =>
ifB (decide (s25.1.2.1 < (x21.1.Parts.len : Int))) (
JOIN (fun (j26 : (Bool × Unit) × (Unit) -> Heap -> Prop) =>
IDX x21.1.Parts.p x21.1.Parts.len s25.1.2.1 8 fun b28 o29 =>
LD (T_int .u8) H8 b28 (o29 + 0) fun (x30 : Int) =>
ifB (x30 == 5) (
IDX x21.1.Parts.p x21.1.Parts.len s25.1.2.1 8 fun b31 o32 =>
LD (T_int .u8) H8 b31 (o32 + 1) fun (x33 : Int) =>
CALL P [(T_int .i64)] n_ref05_Layer [(.int .u8 x33)] H8 fun (x34 : Int × Unit) H10 =>
j26 ((x34.1 == a3, ()), (())) H10) (
j26 ((false, ()), (())) H8)) fun (y27 : (Bool × Unit) × (Unit)) H9 =>
JOIN (fun (j35 : (Sl × Unit) × (Unit) -> Heap -> Prop) =>
ifB y27.1.1 (
IDX x1.1.p x1.1.len s5.1.2.1 1 fun b37 o38 =>
LD (T_int .i64) H9 b37 o38 fun (x39 : Int) =>
IDX x21.1.Parts.p x21.1.Parts.len s25.1.2.1 8 fun b40 o41 =>
LD T_G_api_Part H9 b40 o41 fun (x42 : G_api_Part) =>
APP T_sl (lenV s25.1.1.v + 1) (aAppE E [66, 66] s25.1.1.v 1 [(.int .i64 x39), (.int .i64 s25.1.2.1), (.int .u8 x42.When), (.int .u8 x42.Verb), (.int .u8 x42.Whom), (.int .i64 x42.Count), (.int .u8 x42.Suit), (.int .u8 x42.Trait), (.int .u8 x42.Mark), (.string x42.Name)] H9) fun (x43 : Sl) H12 =>
j35 ((x43, ()), (())) H12) (
j35 ((s25.1.1, ()), (())) H9)) fun (y36 : (Sl × Unit) × (Unit)) H11 =>
r24 ((y36.1.1, IntKind.wrap .i64 (s25.1.2.1 + 1), ()), (())) H11) (
j22 ((s25.1.1, ()), (())) H8)) ((s5.1.1, 0, ()), (())) H6) fun (y23 : (Sl × Unit) × (Unit)) H7 =>
j6 ((y23.1.1, ()), (())) H7)) fun (y7 : (Sl × Unit) × (Unit)) H4 =>
r4 ((y7.1.1, IntKind.wrap .i64 (s5.1.2.1 + 1), ()), (())) H4) (
j2 ((s5.1.1, ()), (())) H3)) (((Sl.mk none 0 0), 0, ()), (())) H1) fun (y3 : (Sl × Unit) × (Unit)) H2 =>
Q (y3.1.1, ()) H2
def h_ref19_effects : Hnt := (.seq .leaf (.seq .leaf (.seq .leaf (.seq (.seq .leaf (.blk (some ⟨[(9, T_sl)], [], [11, 12, 13, 14, 17, 18, 19, 20, 21, 22, 23, 24, 25, 26, 27, 28, 29, 30, 31, 32, 33, 34, 35, 36, 37, 38, 39, 40, 41, 42, 43, 44, 45, 46, 47, 48, 49, 50, 51, 52, 53, 54, 55, 56, 57, 58, 59, 60, 61, 62, 63, 64, 65, 66, 67, 68, 69, 70, 71, 72, 73, 74, 75, 76, 77, 78, 79, 80, 81, 82, 83, 84, 85]⟩) (.loop ⟨[(9, T_sl), (11, (T_int .i64))], [], [12, 13, 14, 17, 18, 19, 20, 21, 22, 23, 24, 25, 26, 27, 28, 29, 30, 31, 32, 33, 34, 35, 36, 37, 38, 39, 40, 41, 42, 43, 44, 45, 46, 47, 48, 49, 50, 51, 52, 53, 54, 55, 56, 57, 58, 59, 60, 61, 62, 63, 64, 65, 66, 67, 68, 69, 70, 71, 72, 73, 74, 75, 76, 77, 78, 79, 80, 81, 82, 83, 84, 85]⟩ (.seq .leaf (.seq (.blk (some ⟨[(9, T_sl)], [], [12, 13, 14, 23, 24, 25, 26, 27, 28, 29, 30, 31, 32, 33, 34, 35, 36, 37, 38, 39, 40, 41, 42, 43, 44, 45, 46, 47, 48, 49, 50, 51, 52, 53, 54, 55, 56, 57, 58, 59, 60, 61, 62, 63, 64, 65, 66, 67, 68, 69, 70, 71, 72, 73, 74, 75, 76, 77, 78, 79, 80, 81, 82, 83, 84, 85]⟩) (.seq .leaf (.seq .leaf (.seq .leaf (.blk (some ⟨[(9, T_sl)], [], [14, 47, 48, 49, 50, 51, 52, 53, 54, 55, 56, 57, 58, 59, 60, 61, 62, 63, 64, 65, 66, 67, 68, 69, 70, 71, 72, 73, 74, 75, 76, 77, 78, 79, 80, 81, 82, 83, 84, 85]⟩) (.loop ⟨[(9, T_sl), (14, (T_int .i64))], [], [47, 48, 49, 50, 51, 52, 53, 54, 55, 56, 57, 58, 59, 60, 61, 62, 63, 64, 65, 66, 67, 68, 69, 70, 71, 72, 73, 74, 75, 76, 77, 78, 79, 80, 81, 82, 83, 84, 85]⟩ (.seq .leaf (.seq (.blk none (.seq (.reg ⟨[(71, T_bool)], [], [54, 55, 56, 57, 58, 59, 60, 61, 62, 63, 64, 65, 66, 67, 68, 69, 70]⟩) (.cond (some ⟨[(9, T_sl)], [], [72, 73, 74, 75, 76, 77, 78, 79, 80, 81, 82, 83, 84, 85]⟩) .leaf .leaf))) .leaf)))))))) .leaf))))) .leaf))))
theorem e_ref19_effects (a0 : Option Addr) (a1 : Sl) (a2 : Sl) (a3 : Int) (H : Heap) (Q : Sl × Unit -> Heap -> Prop) : S_ref19_effects a0 a1 a2 a3 H Q = cFn C [12, 84] Tryz.f94.ntmps Tryz.f94.results.toList [T_sl] (bodyOf Tryz.f94) h_ref19_effects [(.pointer a0), a1.v, a2.v, (.int .i64 a3)] H Q := by kernel_rfl
theorem c_ref19_effects {a0 : Option Addr} {a1 : Sl} {a2 : Sl} {a3 : Int} {H : Heap} {Q : Sl × Unit -> Heap -> Prop} (h : S_ref19_effects a0 a1 a2 a3 H Q) : CALL P [T_sl] n_ref19_effects [(.pointer a0), a1.v, a2.v, (.int .i64 a3)] H Q := call_print hE Tryz.func94 rfl (by kernel_rfl) (e_ref19_effects a0 a1 a2 a3 H Q) h
end Zv
end Go.Proofs.YtolekmhhkopooaaGreatDoor
end
