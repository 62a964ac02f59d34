/- Part 3 of the proof of LayerAll: what its row stands on (lemmas about the model, the evaluator, contracts of functions), put together and cut to what is used. -/
import Derived.Test.YtolekmhhkopooaaGreatDoorKLayerAll2
import Derived.KernelRfl
section
namespace Go.Proofs.YtolekmhhkopooaaGreatDoor
open Go Zq
namespace Zv
structure G_kit_Fill where
 Cards : Sl
 Marks : Sl
 Open : Bool
abbrev T_G_kit_Fill : Tag := ⟨G_kit_Fill, true, 3, fun x => [(.slice x.Cards.p x.Cards.len x.Cards.cap), (.slice x.Marks.p x.Marks.len x.Marks.cap), (.bool x.Open)], fun cs => match cs with | [.slice c0p c0n c0k, .slice c1p c1n c1k, .bool c2] => some (G_kit_Fill.mk (Sl.mk c0p c0n c0k) (Sl.mk c1p c1n c1k) c2) | _ => none, fun cs x h => by
 split at h
 ·have h := Option.some.inj h; subst h; rfl
 ·cases h⟩
structure G_law24_Table where
 Fill : G_kit_Fill
 Things : Sl
 Fs : Sl
 Own : Bool
abbrev T_G_law24_Table : Tag := ⟨G_law24_Table, true, 6, fun x => [(.slice x.Fill.Cards.p x.Fill.Cards.len x.Fill.Cards.cap), (.slice x.Fill.Marks.p x.Fill.Marks.len x.Fill.Marks.cap), (.bool x.Fill.Open), (.slice x.Things.p x.Things.len x.Things.cap), (.slice x.Fs.p x.Fs.len x.Fs.cap), (.bool x.Own)], fun cs => match cs with | [.slice c0p c0n c0k, .slice c1p c1n c1k, .bool c2, .slice c3p c3n c3k, .slice c4p c4n c4k, .bool c5] => some (G_law24_Table.mk (G_kit_Fill.mk (Sl.mk c0p c0n c0k) (Sl.mk c1p c1n c1k) c2) (Sl.mk c3p c3n c3k) (Sl.mk c4p c4n c4k) c5) | _ => none, fun cs x h => by
 split at h
 ·have h := Option.some.inj h; subst h; rfl
 ·cases h⟩
structure G_api_Thing where
 Card : Int
 Owner : Int
 Place : Int
 Stamp : Int
 Hurt : Int
 Marks : Int × Int × Int × Int
 Done : Int
 Fresh : Bool
abbrev T_G_api_Thing : Tag := ⟨G_api_Thing, true, 11, fun x => [(.int .i64 x.Card), (.int .i64 x.Owner), (.int .u8 x.Place), (.int .i64 x.Stamp), (.int .i64 x.Hurt), (.int .i64 x.Marks.1), (.int .i64 x.Marks.2.1), (.int .i64 x.Marks.2.2.1), (.int .i64 x.Marks.2.2.2), (.int .i64 x.Done), (.bool x.Fresh)], fun cs => match cs with | [.int kc0 c0, .int kc1 c1, .int kc2 c2, .int kc3 c3, .int kc4 c4, .int kc5 c5, .int kc6 c6, .int kc7 c7, .int kc8 c8, .int kc9 c9, .bool c10] => if kc0 = .i64 ∧ kc1 = .i64 ∧ kc2 = .u8 ∧ kc3 = .i64 ∧ kc4 = .i64 ∧ kc5 = .i64 ∧ kc6 = .i64 ∧ kc7 = .i64 ∧ kc8 = .i64 ∧ kc9 = .i64 then some (G_api_Thing.mk c0 c1 c2 c3 c4 (c5, c6, c7, c8) c9 c10) else none | _ => none, fun cs x h => by
 split at h
 ·split at h
  ·rename_i e
   obtain ⟨rfl, rfl, rfl, rfl, rfl, rfl, rfl, rfl, rfl, rfl⟩ := e
   have h := Option.some.inj h; subst h; rfl
  ·cases h
 ·cases h⟩
structure G_law19_Table where
 Things : Sl
 Fs : Sl
abbrev T_G_law19_Table : Tag := ⟨G_law19_Table, true, 2, fun x => [(.slice x.Things.p x.Things.len x.Things.cap), (.slice x.Fs.p x.Fs.len x.Fs.cap)], fun cs => match cs with | [.slice c0p c0n c0k, .slice c1p c1n c1k] => some (G_law19_Table.mk (Sl.mk c0p c0n c0k) (Sl.mk c1p c1n c1k)) | _ => none, fun cs x h => by
 split at h
 ·have h := Option.some.inj h; subst h; rfl
 ·cases h⟩
structure G_api_Part where
 When : Int
 Verb : Int
 Whom : Int
 Count : Int
 Suit : Int
 Trait : Int
 Mark : Int
 Name : ByteArray
abbrev T_G_api_Part : Tag := ⟨G_api_Part, true, 8, fun x => [(.int .u8 x.When), (.int .u8 x.Verb), (.int .u8 x.Whom), (.int .i64 x.Count), (.int .u8 x.Suit), (.int .u8 x.Trait), (.int .u8 x.Mark), (.string x.Name)], fun cs => match cs with | [.int kc0 c0, .int kc1 c1, .int kc2 c2, .int kc3 c3, .int kc4 c4, .int kc5 c5, .int kc6 c6, .string c7] => if kc0 = .u8 ∧ kc1 = .u8 ∧ kc2 = .u8 ∧ kc3 = .i64 ∧ kc4 = .u8 ∧ kc5 = .u8 ∧ kc6 = .u8 then some (G_api_Part.mk c0 c1 c2 c3 c4 c5 c6 c7) else none | _ => none, fun cs x h => by
 split at h
 ·split at h
  ·rename_i e
   obtain ⟨rfl, rfl, rfl, rfl, rfl, rfl, rfl⟩ := e
   have h := Option.some.inj h; subst h; rfl
  ·cases h
 ·cases h⟩
structure G_api_Standing where
 Thing : Int
 Place : Int
 What : G_api_Part
abbrev T_G_api_Standing : Tag := ⟨G_api_Standing, true, 10, fun x => [(.int .i64 x.Thing), (.int .i64 x.Place), (.int .u8 x.What.When), (.int .u8 x.What.Verb), (.int .u8 x.What.Whom), (.int .i64 x.What.Count), (.int .u8 x.What.Suit), (.int .u8 x.What.Trait), (.int .u8 x.What.Mark), (.string x.What.Name)], fun cs => match cs with | [.int kc0 c0, .int kc1 c1, .int kc2 c2, .int kc3 c3, .int kc4 c4, .int kc5 c5, .int kc6 c6, .int kc7 c7, .int kc8 c8, .string c9] => if kc0 = .i64 ∧ kc1 = .i64 ∧ kc2 = .u8 ∧ kc3 = .u8 ∧ kc4 = .u8 ∧ kc5 = .i64 ∧ kc6 = .u8 ∧ kc7 = .u8 ∧ kc8 = .u8 then some (G_api_Standing.mk c0 c1 (G_api_Part.mk c2 c3 c4 c5 c6 c7 c8 c9)) else none | _ => none, fun cs x h => by
 split at h
 ·split at h
  ·rename_i e
   obtain ⟨rfl, rfl, rfl, rfl, rfl, rfl, rfl, rfl, rfl⟩ := e
   have h := Option.some.inj h; subst h; rfl
  ·cases h
 ·cases h⟩
structure G_api_Feature where
 Holder : Int
 Suit : Int
 Traits : Int
 Power : Int
 Health : Int
abbrev T_G_api_Feature : Tag := ⟨G_api_Feature, true, 5, fun x => [(.int .i64 x.Holder), (.int .u8 x.Suit), (.int .u16 x.Traits), (.int .i64 x.Power), (.int .i64 x.Health)], fun cs => match cs with | [.int kc0 c0, .int kc1 c1, .int kc2 c2, .int kc3 c3, .int kc4 c4] => if kc0 = .i64 ∧ kc1 = .u8 ∧ kc2 = .u16 ∧ kc3 = .i64 ∧ kc4 = .i64 then some (G_api_Feature.mk c0 c1 c2 c3 c4) else none | _ => none, fun cs x h => by
 split at h
 ·split at h
  ·rename_i e
   obtain ⟨rfl, rfl, rfl, rfl, rfl⟩ := e
   have h := Option.some.inj h; subst h; rfl
  ·cases h
 ·cases h⟩
structure G_api_Card where
 Name : ByteArray
 Suit : Int
 Kind : Int
 Cost : Int
 Power : Int
 Health : Int
 Traits : Int
 Token : Bool
 Parts : Sl
abbrev T_G_api_Card : Tag := ⟨G_api_Card, true, 9, fun x => [(.string x.Name), (.int .u8 x.Suit), (.int .u8 x.Kind), (.int .i64 x.Cost), (.int .i64 x.Power), (.int .i64 x.Health), (.int .u16 x.Traits), (.bool x.Token), (.slice x.Parts.p x.Parts.len x.Parts.cap)], fun cs => match cs with | [.string c0, .int kc1 c1, .int kc2 c2, .int kc3 c3, .int kc4 c4, .int kc5 c5, .int kc6 c6, .bool c7, .slice c8p c8n c8k] => if kc1 = .u8 ∧ kc2 = .u8 ∧ kc3 = .i64 ∧ kc4 = .i64 ∧ kc5 = .i64 ∧ kc6 = .u16 then some (G_api_Card.mk c0 c1 c2 c3 c4 c5 c6 c7 (Sl.mk c8p c8n c8k)) else none | _ => none, fun cs x h => by
 split at h
 ·split at h
  ·rename_i e
   obtain ⟨rfl, rfl, rfl, rfl, rfl, rfl⟩ := e
   have h := Option.some.inj h; subst h; rfl
  ·cases h
 ·cases h⟩
structure G_api_MarkInfo where
 Mark : Int
 Name : ByteArray
 Power : Int
 Health : Int
abbrev T_G_api_MarkInfo : Tag := ⟨G_api_MarkInfo, true, 4, fun x => [(.int .u8 x.Mark), (.string x.Name), (.int .i64 x.Power), (.int .i64 x.Health)], fun cs => match cs with | [.int kc0 c0, .string c1, .int kc2 c2, .int kc3 c3] => if kc0 = .u8 ∧ kc2 = .i64 ∧ kc3 = .i64 then some (G_api_MarkInfo.mk c0 c1 c2 c3) else none | _ => none, fun cs x h => by
 split at h
 ·split at h
  ·rename_i e
   obtain ⟨rfl, rfl, rfl⟩ := e
   have h := Option.some.inj h; subst h; rfl
  ·cases h
 ·cases h⟩
structure G_layer_place where
 b : Option Addr
 things : Sl
 cards : Sl
 order : Sl
abbrev T_G_layer_place : Tag := ⟨G_layer_place, true, 4, fun x => [(.pointer x.b), (.slice x.things.p x.things.len x.things.cap), (.slice x.cards.p x.cards.len x.cards.cap), (.slice x.order.p x.order.len x.order.cap)], fun cs => match cs with | [.pointer c0, .slice c1p c1n c1k, .slice c2p c2n c2k, .slice c3p c3n c3k] => some (G_layer_place.mk c0 (Sl.mk c1p c1n c1k) (Sl.mk c2p c2n c2k) (Sl.mk c3p c3n c3k)) | _ => none, fun cs x h => by
 split at h
 ·have h := Option.some.inj h; subst h; rfl
 ·cases h⟩
abbrev T_arr5_T_G_api_MarkInfo : Tag := ⟨G_api_MarkInfo × G_api_MarkInfo × G_api_MarkInfo × G_api_MarkInfo × G_api_MarkInfo, true, 20, fun x => [(.int .u8 x.1.Mark), (.string x.1.Name), (.int .i64 x.1.Power), (.int .i64 x.1.Health), (.int .u8 x.2.1.Mark), (.string x.2.1.Name), (.int .i64 x.2.1.Power), (.int .i64 x.2.1.Health), (.int .u8 x.2.2.1.Mark), (.string x.2.2.1.Name), (.int .i64 x.2.2.1.Power), (.int .i64 x.2.2.1.Health), (.int .u8 x.2.2.2.1.Mark), (.string x.2.2.2.1.Name), (.int .i64 x.2.2.2.1.Power), (.int .i64 x.2.2.2.1.Health), (.int .u8 x.2.2.2.2.Mark), (.string x.2.2.2.2.Name), (.int .i64 x.2.2.2.2.Power), (.int .i64 x.2.2.2.2.Health)], fun cs => match cs with | [.int kc0 c0, .string c1, .int kc2 c2, .int kc3 c3, .int kc4 c4, .string c5, .int kc6 c6, .int kc7 c7, .int kc8 c8, .string c9, .int kc10 c10, .int kc11 c11, .int kc12 c12, .string c13, .int kc14 c14, .int kc15 c15, .int kc16 c16, .string c17, .int kc18 c18, .int kc19 c19] => if kc0 = .u8 ∧ kc2 = .i64 ∧ kc3 = .i64 ∧ kc4 = .u8 ∧ kc6 = .i64 ∧ kc7 = .i64 ∧ kc8 = .u8 ∧ kc10 = .i64 ∧ kc11 = .i64 ∧ kc12 = .u8 ∧ kc14 = .i64 ∧ kc15 = .i64 ∧ kc16 = .u8 ∧ kc18 = .i64 ∧ kc19 = .i64 then some ((G_api_MarkInfo.mk c0 c1 c2 c3), (G_api_MarkInfo.mk c4 c5 c6 c7), (G_api_MarkInfo.mk c8 c9 c10 c11), (G_api_MarkInfo.mk c12 c13 c14 c15), (G_api_MarkInfo.mk c16 c17 c18 c19)) else none | _ => none, fun cs x h => by
 split at h
 ·split at h
  ·rename_i e
   obtain ⟨rfl, rfl, rfl, rfl, rfl, rfl, rfl, rfl, rfl, rfl, rfl, rfl, rfl, rfl, rfl⟩ := e
   have h := Option.some.inj h; subst h; rfl
  ·cases h
 ·cases h⟩
abbrev T_arr4_T_int_i64 : Tag := ⟨Int × Int × Int × Int, true, 4, fun x => [(.int .i64 x.1), (.int .i64 x.2.1), (.int .i64 x.2.2.1), (.int .i64 x.2.2.2)], fun cs => match cs with | [.int kc0 c0, .int kc1 c1, .int kc2 c2, .int kc3 c3] => if kc0 = .i64 ∧ kc1 = .i64 ∧ kc2 = .i64 ∧ kc3 = .i64 then some (c0, c1, c2, c3) else none | _ => none, fun cs x h => by
 split at h
 ·split at h
  ·rename_i e
   obtain ⟨rfl, rfl, rfl, rfl⟩ := e
   have h := Option.some.inj h; subst h; rfl
  ·cases h
 ·cases h⟩
structure G_ref07_Book where
 Made : Bool
 Shut : Bool
 List : Sl
 Names : ByteArray × ByteArray × ByteArray × ByteArray × ByteArray × ByteArray × ByteArray × ByteArray × ByteArray
 Marked : G_api_MarkInfo × G_api_MarkInfo × G_api_MarkInfo × G_api_MarkInfo × G_api_MarkInfo
abbrev T_G_ref07_Book : Tag := ⟨G_ref07_Book, true, 32, fun x => [(.bool x.Made), (.bool x.Shut), (.slice x.List.p x.List.len x.List.cap), (.string x.Names.1), (.string x.Names.2.1), (.string x.Names.2.2.1), (.string x.Names.2.2.2.1), (.string x.Names.2.2.2.2.1), (.string x.Names.2.2.2.2.2.1), (.string x.Names.2.2.2.2.2.2.1), (.string x.Names.2.2.2.2.2.2.2.1), (.string x.Names.2.2.2.2.2.2.2.2), (.int .u8 x.Marked.1.Mark), (.string x.Marked.1.Name), (.int .i64 x.Marked.1.Power), (.int .i64 x.Marked.1.Health), (.int .u8 x.Marked.2.1.Mark), (.string x.Marked.2.1.Name), (.int .i64 x.Marked.2.1.Power), (.int .i64 x.Marked.2.1.Health), (.int .u8 x.Marked.2.2.1.Mark), (.string x.Marked.2.2.1.Name), (.int .i64 x.Marked.2.2.1.Power), (.int .i64 x.Marked.2.2.1.Health), (.int .u8 x.Marked.2.2.2.1.Mark), (.string x.Marked.2.2.2.1.Name), (.int .i64 x.Marked.2.2.2.1.Power), (.int .i64 x.Marked.2.2.2.1.Health), (.int .u8 x.Marked.2.2.2.2.Mark), (.string x.Marked.2.2.2.2.Name), (.int .i64 x.Marked.2.2.2.2.Power), (.int .i64 x.Marked.2.2.2.2.Health)], fun cs => match cs with | [.bool c0, .bool c1, .slice c2p c2n c2k, .string c3, .string c4, .string c5, .string c6, .string c7, .string c8, .string c9, .string c10, .string c11, .int kc12 c12, .string c13, .int kc14 c14, .int kc15 c15, .int kc16 c16, .string c17, .int kc18 c18, .int kc19 c19, .int kc20 c20, .string c21, .int kc22 c22, .int kc23 c23, .int kc24 c24, .string c25, .int kc26 c26, .int kc27 c27, .int kc28 c28, .string c29, .int kc30 c30, .int kc31 c31] => if kc12 = .u8 ∧ kc14 = .i64 ∧ kc15 = .i64 ∧ kc16 = .u8 ∧ kc18 = .i64 ∧ kc19 = .i64 ∧ kc20 = .u8 ∧ kc22 = .i64 ∧ kc23 = .i64 ∧ kc24 = .u8 ∧ kc26 = .i64 ∧ kc27 = .i64 ∧ kc28 = .u8 ∧ kc30 = .i64 ∧ kc31 = .i64 then some (G_ref07_Book.mk c0 c1 (Sl.mk c2p c2n c2k) (c3, c4, c5, c6, c7, c8, c9, c10, c11) ((G_api_MarkInfo.mk c12 c13 c14 c15), (G_api_MarkInfo.mk c16 c17 c18 c19), (G_api_MarkInfo.mk c20 c21 c22 c23), (G_api_MarkInfo.mk c24 c25 c26 c27), (G_api_MarkInfo.mk c28 c29 c30 c31))) else none | _ => none, fun cs x h => by
 split at h
 ·split at h
  ·rename_i e
   obtain ⟨rfl, rfl, rfl, rfl, rfl, rfl, rfl, rfl, rfl, rfl, rfl, rfl, rfl, rfl, rfl⟩ := e
   have h := Option.some.inj h; subst h; rfl
  ·cases h
 ·cases h⟩
structure G_utf8_acceptRange where
 lo : Int
 hi : Int
abbrev T_G_utf8_acceptRange : Tag := ⟨G_utf8_acceptRange, true, 2, fun x => [(.int .u8 x.lo), (.int .u8 x.hi)], fun cs => match cs with | [.int kc0 c0, .int kc1 c1] => if kc0 = .u8 ∧ kc1 = .u8 then some (G_utf8_acceptRange.mk c0 c1) else none | _ => none, fun cs x h => by
 split at h
 ·split at h
  ·rename_i e
   obtain ⟨rfl, rfl⟩ := e
   have h := Option.some.inj h; subst h; rfl
  ·cases h
 ·cases h⟩
abbrev T_arr16_T_G_utf8_acceptRange : Tag := ⟨G_utf8_acceptRange × G_utf8_acceptRange × G_utf8_acceptRange × G_utf8_acceptRange × G_utf8_acceptRange × G_utf8_acceptRange × G_utf8_acceptRange × G_utf8_acceptRange × G_utf8_acceptRange × G_utf8_acceptRange × G_utf8_acceptRange × G_utf8_acceptRange × G_utf8_acceptRange × G_utf8_acceptRange × G_utf8_acceptRange × G_utf8_acceptRange, true, 32, fun x => [(.int .u8 x.1.lo), (.int .u8 x.1.hi), (.int .u8 x.2.1.lo), (.int .u8 x.2.1.hi), (.int .u8 x.2.2.1.lo), (.int .u8 x.2.2.1.hi), (.int .u8 x.2.2.2.1.lo), (.int .u8 x.2.2.2.1.hi), (.int .u8 x.2.2.2.2.1.lo), (.int .u8 x.2.2.2.2.1.hi), (.int .u8 x.2.2.2.2.2.1.lo), (.int .u8 x.2.2.2.2.2.1.hi), (.int .u8 x.2.2.2.2.2.2.1.lo), (.int .u8 x.2.2.2.2.2.2.1.hi), (.int .u8 x.2.2.2.2.2.2.2.1.lo), (.int .u8 x.2.2.2.2.2.2.2.1.hi), (.int .u8 x.2.2.2.2.2.2.2.2.1.lo), (.int .u8 x.2.2.2.2.2.2.2.2.1.hi), (.int .u8 x.2.2.2.2.2.2.2.2.2.1.lo), (.int .u8 x.2.2.2.2.2.2.2.2.2.1.hi), (.int .u8 x.2.2.2.2.2.2.2.2.2.2.1.lo), (.int .u8 x.2.2.2.2.2.2.2.2.2.2.1.hi), (.int .u8 x.2.2.2.2.2.2.2.2.2.2.2.1.lo), (.int .u8 x.2.2.2.2.2.2.2.2.2.2.2.1.hi), (.int .u8 x.2.2.2.2.2.2.2.2.2.2.2.2.1.lo), (.int .u8 x.2.2.2.2.2.2.2.2.2.2.2.2.1.hi), (.int .u8 x.2.2.2.2.2.2.2.2.2.2.2.2.2.1.lo), (.int .u8 x.2.2.2.2.2.2.2.2.2.2.2.2.2.1.hi), (.int .u8 x.2.2.2.2.2.2.2.2.2.2.2.2.2.2.1.lo), (.int .u8 x.2.2.2.2.2.2.2.2.2.2.2.2.2.2.1.hi), (.int .u8 x.2.2.2.2.2.2.2.2.2.2.2.2.2.2.2.lo), (.int .u8 x.2.2.2.2.2.2.2.2.2.2.2.2.2.2.2.hi)], fun cs => match cs with | [.int kc0 c0, .int kc1 c1, .int kc2 c2, .int kc3 c3, .int kc4 c4, .int kc5 c5, .int kc6 c6, .int kc7 c7, .int kc8 c8, .int kc9 c9, .int kc10 c10, .int kc11 c11, .int kc12 c12, .int kc13 c13, .int kc14 c14, .int kc15 c15, .int kc16 c16, .int kc17 c17, .int kc18 c18, .int kc19 c19, .int kc20 c20, .int kc21 c21, .int kc22 c22, .int kc23 c23, .int kc24 c24, .int kc25 c25, .int kc26 c26, .int kc27 c27, .int kc28 c28, .int kc29 c29, .int kc30 c30, .int kc31 c31] => if kc0 = .u8 ∧ kc1 = .u8 ∧ kc2 = .u8 ∧ kc3 = .u8 ∧ kc4 = .u8 ∧ kc5 = .u8 ∧ kc6 = .u8 ∧ kc7 = .u8 ∧ kc8 = .u8 ∧ kc9 = .u8 ∧ kc10 = .u8 ∧ kc11 = .u8 ∧ kc12 = .u8 ∧ kc13 = .u8 ∧ kc14 = .u8 ∧ kc15 = .u8 ∧ kc16 = .u8 ∧ kc17 = .u8 ∧ kc18 = .u8 ∧ kc19 = .u8 ∧ kc20 = .u8 ∧ kc21 = .u8 ∧ kc22 = .u8 ∧ kc23 = .u8 ∧ kc24 = .u8 ∧ kc25 = .u8 ∧ kc26 = .u8 ∧ kc27 = .u8 ∧ kc28 = .u8 ∧ kc29 = .u8 ∧ kc30 = .u8 ∧ kc31 = .u8 then some ((G_utf8_acceptRange.mk c0 c1), (G_utf8_acceptRange.mk c2 c3), (G_utf8_acceptRange.mk c4 c5), (G_utf8_acceptRange.mk c6 c7), (G_utf8_acceptRange.mk c8 c9), (G_utf8_acceptRange.mk c10 c11), (G_utf8_acceptRange.mk c12 c13), (G_utf8_acceptRange.mk c14 c15), (G_utf8_acceptRange.mk c16 c17), (G_utf8_acceptRange.mk c18 c19), (G_utf8_acceptRange.mk c20 c21), (G_utf8_acceptRange.mk c22 c23), (G_utf8_acceptRange.mk c24 c25), (G_utf8_acceptRange.mk c26 c27), (G_utf8_acceptRange.mk c28 c29), (G_utf8_acceptRange.mk c30 c31)) else none | _ => none, fun cs x h => by
 split at h
 ·split at h
  ·rename_i e
   obtain ⟨rfl, rfl, rfl, rfl, rfl, rfl, rfl, rfl, rfl, rfl, rfl, rfl, rfl, rfl, rfl, rfl, rfl, rfl, rfl, rfl, rfl, rfl, rfl, rfl, rfl, rfl, rfl, rfl, rfl, rfl, rfl, rfl⟩ := e
   have h := Option.some.inj h; subst h; rfl
  ·cases h
 ·cases h⟩
noncomputable abbrev P : Program := Tryz.prog
noncomputable abbrev E : Env := Tryz.env
def tagOf : TypeId -> Tag := fun t => match t with
 | 3 => (T_int .i64)
 | 4 => T_bool
 | 5 => (T_int .u8)
 | 9 => T_str
 | 21 => (T_int .i32)
 | 22 => T_sl
 | 23 => T_sl
 | 25 => T_G_kit_Fill
 | 26 => T_sl
 | 27 => T_sl
 | 29 => T_G_law24_Table
 | 30 => T_ptr
 | 31 => T_ptr
 | 35 => T_sl
 | 41 => (T_int .u16)
 | 42 => (T_int .u8)
 | 44 => T_G_api_Feature
 | 45 => (T_int .u8)
 | 46 => T_arr4_T_int_i64
 | 48 => T_G_api_Thing
 | 60 => T_sl
 | 63 => T_G_law19_Table
 | 65 => T_any
 | 66 => T_sl
 | 67 => (T_int .i64)
 | 74 => (T_int .u8)
 | 75 => (T_int .u8)
 | 76 => (T_int .u8)
 | 77 => (T_int .u8)
 | 78 => (T_int .u8)
 | 80 => T_G_api_Part
 | 82 => T_G_api_Standing
 | 87 => T_sl
 | 100 => T_sl
 | 105 => T_sl
 | 110 => (T_int .u8)
 | 111 => T_sl
 | 113 => T_G_api_Card
 | 117 => T_G_api_MarkInfo
 | 121 => T_any
 | 134 => T_G_layer_place
 | 158 => T_arr5_T_G_api_MarkInfo
 | 162 => T_G_ref07_Book
 | 172 => T_any
 | 173 => T_sl
 | 178 => T_ptr
 | 191 => (T_int .u64)
 | 214 => (T_int .i64)
 | 222 => (T_int .u32)
 | 224 => (T_int .u64)
 | 232 => (T_int .u64)
 | 236 => T_ptr
 | 244 => T_ptr
 | 245 => T_ptr
 | 254 => T_G_utf8_acceptRange
 | 255 => T_arr16_T_G_utf8_acceptRange
 | _ => T_any
def resOf : FuncId -> List Tag := fun f => match f with
 | 3 => [T_bool]
 | 4 => [T_bool]
 | 5 => [T_bool]
 | 6 => [T_bool]
 | 7 => [T_bool]
 | 8 => [T_bool]
 | 9 => [T_bool]
 | 10 => [T_ptr, T_ptr, T_bool]
 | 11 => [T_sl]
 | 12 => [T_sl]
 | 13 => [T_bool]
 | 14 => [T_bool]
 | 15 => [T_bool]
 | 16 => [T_sl]
 | 17 => [T_sl]
 | 18 => [T_bool]
 | 19 => [T_sl]
 | 20 => [T_bool]
 | 21 => [T_bool]
 | 22 => [T_bool]
 | 23 => [T_bool]
 | 24 => [T_bool]
 | 25 => [T_bool]
 | 26 => [T_bool]
 | 27 => [T_bool]
 | 28 => [(T_int .i64)]
 | 29 => [T_sl]
 | 30 => [T_sl, T_sl, (T_int .i64)]
 | 31 => [T_bool]
 | 32 => [T_bool]
 | 33 => [T_sl, (T_int .i64)]
 | 34 => [T_sl, (T_int .i64)]
 | 35 => [T_sl, (T_int .i64)]
 | 36 => [T_G_api_Feature]
 | 37 => [T_sl]
 | 38 => [(T_int .i64), (T_int .i64)]
 | 39 => [(T_int .i64)]
 | 40 => [T_sl]
 | 41 => [T_bool, (T_int .i64)]
 | 42 => [T_sl]
 | 43 => [(T_int .i64), (T_int .i64)]
 | 44 => [T_sl, (T_int .i64)]
 | 45 => [T_sl, T_sl, (T_int .i64)]
 | 46 => [T_sl]
 | 47 => [T_sl, T_sl, T_bool]
 | 48 => [T_bool]
 | 49 => [T_bool]
 | 50 => [T_bool]
 | 51 => [T_ptr]
 | 52 => [T_ptr]
 | 53 => [(T_int .i64)]
 | 54 => [T_G_api_Card]
 | 55 => [(T_int .i64)]
 | 56 => [(T_int .i64)]
 | 57 => [(T_int .i64)]
 | 58 => [(T_int .i64)]
 | 59 => [(T_int .i64)]
 | 60 => [T_bool]
 | 61 => [T_bool]
 | 62 => [T_sl, (T_int .i64)]
 | 63 => [T_bool]
 | 64 => [T_bool]
 | 65 => [T_sl]
 | 66 => [T_bool]
 | 67 => [T_bool]
 | 68 => [T_ptr, T_sl, T_sl]
 | 69 => [T_bool]
 | 70 => [T_bool]
 | 71 => [T_G_api_Card, (T_int .i64)]
 | 72 => [T_bool]
 | 73 => [T_G_api_Card, (T_int .i64)]
 | 74 => [T_bool]
 | 75 => [T_bool]
 | 76 => [(T_int .i64)]
 | 77 => [T_ptr, T_G_law19_Table]
 | 78 => [T_G_layer_place, (T_int .i64)]
 | 79 => [T_sl]
 | 80 => [(T_int .i64)]
 | 81 => [T_sl]
 | 82 => [T_sl]
 | 83 => [T_sl]
 | 84 => [T_sl]
 | 85 => [T_bool]
 | 86 => [T_sl]
 | 87 => [(T_int .u16)]
 | 88 => [(T_int .u16)]
 | 89 => [T_bool]
 | 90 => [T_bool]
 | 91 => [(T_int .i64)]
 | 92 => [T_bool]
 | 93 => [(T_int .i64)]
 | 94 => [T_sl]
 | 95 => [T_sl]
 | 96 => [T_sl, (T_int .i64)]
 | 97 => [T_sl, (T_int .i64)]
 | 98 => [T_bool, (T_int .i64)]
 | 99 => [T_G_api_Feature]
 | 100 => [T_G_api_Standing]
 | 101 => [(T_int .i64)]
 | 102 => [(T_int .i64)]
 | 103 => [(T_int .i64)]
 | 104 => [T_bool]
 | 105 => [T_G_api_Card]
 | 106 => [T_sl]
 | 107 => [T_bool]
 | 108 => [(T_int .i64)]
 | 109 => [(T_int .i64)]
 | 110 => [T_bool]
 | 111 => [T_G_api_Card]
 | 112 => [T_bool]
 | 113 => [T_bool]
 | 114 => [T_bool]
 | 115 => [T_bool]
 | 116 => [T_sl, (T_int .i64)]
 | 117 => [(T_int .u16)]
 | 118 => [T_bool]
 | 119 => [T_bool]
 | 120 => [T_bool]
 | 121 => [T_G_api_Card, (T_int .i64)]
 | 122 => [T_bool]
 | 123 => [T_bool]
 | 124 => [T_G_api_Card, (T_int .i64)]
 | 125 => [(T_int .i64), (T_int .i64)]
 | 126 => [T_bool]
 | 128 => [(T_int .i64)]
 | 129 => [T_bool]
 | 130 => [T_bool]
 | 131 => [T_bool]
 | 132 => [T_bool]
 | 133 => [T_bool]
 | 134 => [(T_int .i64)]
 | 135 => [T_bool]
 | 136 => [T_bool]
 | 137 => [T_sl]
 | 138 => [T_sl]
 | 139 => [T_G_api_Feature]
 | 140 => [(T_int .i64)]
 | 141 => [(T_int .i64)]
 | 142 => [T_bool]
 | 143 => [T_bool]
 | 144 => [T_bool]
 | 145 => [(T_int .i64)]
 | 146 => [T_sl, (T_int .i64)]
 | 147 => [T_sl]
 | 148 => [T_bool]
 | 149 => [(T_int .u16)]
 | 150 => [(T_int .i64)]
 | 152 => [(T_int .i64)]
 | 153 => [T_bool]
 | 154 => [T_bool]
 | 155 => [T_bool]
 | 156 => [(T_int .u16)]
 | 157 => [(T_int .u16)]
 | 158 => [T_bool]
 | 159 => [T_str]
 | 160 => [T_str]
 | 161 => [T_bool]
 | 162 => [T_bool, T_bool, T_bool, T_bool, T_bool]
 | 163 => [(T_int .i64), (T_int .i64), T_bool]
 | 164 => [T_bool]
 | 165 => [T_bool]
 | 166 => [T_bool]
 | 167 => [T_bool]
 | 168 => [T_bool]
 | 169 => [T_bool]
 | 170 => [T_bool]
 | 171 => [T_bool, T_bool, T_bool, T_bool, T_bool]
 | 172 => [(T_int .i64)]
 | 173 => [(T_int .i64)]
 | 174 => [T_bool]
 | 175 => [T_bool]
 | 176 => [T_bool]
 | 177 => [T_bool]
 | 178 => [T_sl, T_bool]
 | 179 => [T_G_api_Feature, (T_int .i64)]
 | 183 => [(T_int .i64), (T_int .i64)]
 | 185 => [T_bool]
 | 186 => [(T_int .i64)]
 | 187 => [(T_int .i64), T_bool]
 | 188 => [(T_int .i64)]
 | 189 => [(T_int .i64)]
 | 190 => [T_bool]
 | 191 => [T_str]
 | 192 => [T_bool]
 | 193 => [T_bool]
 | 194 => [T_bool]
 | 195 => [(T_int .i64), (T_int .i64)]
 | 196 => [T_G_api_Feature, (T_int .i64)]
 | 197 => [T_G_api_MarkInfo, T_bool]
 | 199 => [(T_int .u64)]
 | 200 => [(T_int .u64)]
 | 201 => [(T_int .i64)]
 | 202 => [(T_int .i64)]
 | 203 => [T_str]
 | 204 => [T_str]
 | 206 => [T_str]
 | 207 => [T_str]
 | 208 => [T_str]
 | 209 => [T_str]
 | 210 => [(T_int .i64), (T_int .i64)]
 | 211 => [T_bool]
 | 212 => [(T_int .i32), (T_int .i64)]
 | 213 => [T_bool]
 | 214 => [(T_int .i32), (T_int .i64)]
 | 215 => [(T_int .i32), (T_int .i64)]
 | 216 => [(T_int .i64)]
 | 217 => [T_bool]
 | 218 => [(T_int .i64)]
 | 219 => [T_bool]
 | _ => []
def lkpOf : TypeId -> Option Tag := fun t => match t with
 | _ => none
def rtOf : TypeId -> List Tag := fun t => match t with
 | 0 => []
 | 32 => [T_ptr, T_ptr, T_bool]
 | 68 => [T_sl, T_sl, (T_int .i64)]
 | 72 => [T_sl, (T_int .i64)]
 | 83 => [T_sl, (T_int .i64)]
 | 85 => [T_sl, (T_int .i64)]
 | 89 => [(T_int .i64), (T_int .i64)]
 | 94 => [T_bool, (T_int .i64)]
 | 101 => [T_sl, T_sl, T_bool]
 | 124 => [T_ptr, T_sl, T_sl]
 | 127 => [T_G_api_Card, (T_int .i64)]
 | 131 => [T_ptr, T_G_law19_Table]
 | 135 => [T_G_layer_place, (T_int .i64)]
 | 198 => [T_bool, T_bool, T_bool, T_bool, T_bool]
 | 200 => [(T_int .i64), (T_int .i64), T_bool]
 | 209 => [T_sl, T_bool]
 | 211 => [T_G_api_Feature, (T_int .i64)]
 | 215 => [(T_int .i64), (T_int .i64)]
 | 219 => [(T_int .i64), T_bool]
 | 227 => [(T_int .i64), (T_int .i64)]
 | 230 => [T_G_api_MarkInfo, T_bool]
 | 248 => [(T_int .i32), (T_int .i64)]
 | t => [tagOf t]
noncomputable def C : CEnv := { E := E, P := P, tag := tagOf, res := resOf, lkp := lkpOf, rt := rtOf }
theorem hE : C.E.Ok C.P := Tryz.envOk
abbrev n_law19_LayerAll : FuncId := 9
abbrev n_kit_Books : FuncId := 10
abbrev n_kit_LentThings : FuncId := 16
abbrev n_kit_LentFeatures : FuncId := 17
abbrev n_kit_SameInts : FuncId := 18
abbrev n_kit_KeptThings : FuncId := 23
abbrev n_kit_KeptFeatures : FuncId := 24
abbrev n_kit_ApartInts : FuncId := 25
abbrev n_law19_heavy : FuncId := 27
abbrev n_kit_CopyThings : FuncId := 29
abbrev n_layer_All : FuncId := 30
abbrev n_kit_SameFeatures : FuncId := 31
abbrev n_kit_SameStandings : FuncId := 32
abbrev n_layer_Effects : FuncId := 33
abbrev n_layer_About : FuncId := 34
abbrev n_layer_Apply : FuncId := 35
abbrev n_kit_CopyFeatures : FuncId := 37
abbrev n_layer_Next : FuncId := 38
abbrev n_effect_Layer : FuncId := 39
abbrev n_layer_Depends : FuncId := 41
abbrev n_kit_LentStandings : FuncId := 42
abbrev n_ref19_Next : FuncId := 43
abbrev n_ref19_Effects : FuncId := 44
abbrev n_ref19_All : FuncId := 45
abbrev n_kit_CopyStandings : FuncId := 46
abbrev n_law19_asked : FuncId := 47
abbrev n_kit_KeptStandings : FuncId := 48
abbrev n_kit_ApartFeatures : FuncId := 49
abbrev n_kit_ApartStandings : FuncId := 50
abbrev n_book_New : FuncId := 51
abbrev n_ref07_New : FuncId := 52
abbrev n_book_Book_Card : FuncId := 53
abbrev n_kit_CopyCard : FuncId := 54
abbrev n_ref07_Book_Card : FuncId := 55
abbrev n_book_Book_Mark : FuncId := 56
abbrev n_ref07_Book_Mark : FuncId := 57
abbrev n_book_Book_Seal : FuncId := 58
abbrev n_ref07_Book_Seal : FuncId := 59
abbrev n_book_Book_Sealed : FuncId := 60
abbrev n_ref07_Book_Sealed : FuncId := 61
abbrev n_trait_Has : FuncId := 67
abbrev n_thing_Card : FuncId := 71
abbrev n_kit_SameThings : FuncId := 75
abbrev n_kit_markInts : FuncId := 76
abbrev n_layer_setup : FuncId := 78
abbrev n_slices_Clone_api_Feature_api_Feature : FuncId := 79
abbrev n_layer_place_next : FuncId := 80
abbrev n_layer_place_apply : FuncId := 81
abbrev n_slices_Delete_api_Standing_api_Standing : FuncId := 82
abbrev n_slices_Clone_api_Standing_api_Standing : FuncId := 83
abbrev n_layer_place_effects : FuncId := 84
abbrev n_layer_place_may : FuncId := 85
abbrev n_layer_place_about : FuncId := 86
abbrev n_trait_With : FuncId := 87
abbrev n_trait_Without : FuncId := 88
abbrev n_layer_place_listed : FuncId := 89
abbrev n_layer_place_depends : FuncId := 90
abbrev n_ref19_wrong : FuncId := 91
abbrev n_ref19_listed : FuncId := 92
abbrev n_ref19_next : FuncId := 93
abbrev n_ref19_effects : FuncId := 94
abbrev n_ref19_apply : FuncId := 95
abbrev n_ref19_About : FuncId := 96
abbrev n_ref19_Apply : FuncId := 97
abbrev n_ref19_Depends : FuncId := 98
abbrev n_kit_markFeatures : FuncId := 99
abbrev n_kit_markStandings : FuncId := 100
abbrev n_book_Book_shut : FuncId := 101
abbrev n_card_Check : FuncId := 102
abbrev n_book_Book_place : FuncId := 103
abbrev n_book_ahead : FuncId := 104
abbrev n_card_Copy : FuncId := 105
abbrev n_kit_CopyParts : FuncId := 106
abbrev n_ref07_Book_None : FuncId := 107
abbrev n_ref06_Check : FuncId := 108
abbrev n_ref07_Book_place : FuncId := 109
abbrev n_ref07_Ahead : FuncId := 110
abbrev n_ref06_Copy : FuncId := 111
abbrev n_book_within : FuncId := 112
abbrev n_book_name : FuncId := 113
abbrev n_ref07_Name : FuncId := 114
abbrev n_book_Book_none : FuncId := 115
abbrev n_trait_bit : FuncId := 117
abbrev n_ref19_Together : FuncId := 118
abbrev n_ref04_Has : FuncId := 120
abbrev n_book_Book_At : FuncId := 121
abbrev n_ref07_Book_At : FuncId := 124
abbrev n_book_Book_Find : FuncId := 125
abbrev n_trait_Check : FuncId := 126
abbrev n_slices_SortFunc_int_int : FuncId := 127
abbrev n_layer_setup_1 : FuncId := 128
abbrev n_layer_place_ahead : FuncId := 129
abbrev n_effect_Same : FuncId := 130
abbrev n_layer_place_means : FuncId := 131
abbrev n_slices_Equal_int_int : FuncId := 132
abbrev n_ref19_may : FuncId := 133
abbrev n_ref05_Layer : FuncId := 134
abbrev n_ref19_ahead : FuncId := 135
abbrev n_ref19_depends : FuncId := 136
abbrev n_ref19_order : FuncId := 137
abbrev n_ref19_about : FuncId := 138
abbrev n_ref19_done : FuncId := 139
abbrev n_card_face : FuncId := 140
abbrev n_effect_Check : FuncId := 141
abbrev n_ref06_NameMay : FuncId := 142
abbrev n_ref06_within : FuncId := 143
abbrev n_ref04_Check : FuncId := 144
abbrev n_ref05_Check : FuncId := 145
abbrev n_trait_is : FuncId := 148
abbrev n_ref04_bit : FuncId := 149
abbrev n_ref05_Same : FuncId := 153
abbrev n_ref19_same : FuncId := 154
abbrev n_ref19_meant : FuncId := 155
abbrev n_ref04_With : FuncId := 156
abbrev n_ref04_Without : FuncId := 157
abbrev n_card_named : FuncId := 158
abbrev n_suit_Name : FuncId := 159
abbrev n_card_word : FuncId := 160
abbrev n_card_within : FuncId := 161
abbrev n_effect_Uses : FuncId := 162
abbrev n_effect_bounds : FuncId := 163
abbrev n_effect_wanted : FuncId := 164
abbrev n_effect_about : FuncId := 165
abbrev n_effect_within_int : FuncId := 166
abbrev n_effect_within_api_Suit : FuncId := 167
abbrev n_effect_within_api_Trait : FuncId := 168
abbrev n_effect_within_api_Mark : FuncId := 169
abbrev n_effect_name : FuncId := 170
abbrev n_ref05_Uses : FuncId := 171
abbrev n_ref05_kind : FuncId := 172
abbrev n_ref05_wants : FuncId := 173
abbrev n_ref05_about : FuncId := 174
abbrev n_ref05_counted : FuncId := 175
abbrev n_ref05_within : FuncId := 176
abbrev n_ref05_Name : FuncId := 177
abbrev n_ref19_unit : FuncId := 190
abbrev n_strings_Trim : FuncId := 191
abbrev n_effect_standing : FuncId := 192
abbrev n_effect_swapping : FuncId := 193
abbrev n_effect_event : FuncId := 194
abbrev n_ref05_counts : FuncId := 195
end Zv
end Go.Proofs.YtolekmhhkopooaaGreatDoor
end
section
namespace Go.Proofs.YtolekmhhkopooaaGreatDoor.Zq
theorem u8_tri (a b : UInt8) : a < b ∨ a = b ∨ b < a := by
 have h : a.toNat < b.toNat ∨ a.toNat = b.toNat ∨ b.toNat < a.toNat := by omega
 rcases h with h | h | h
 ·exact .inl (UInt8.lt_iff_toNat_lt.2 h)
 ·exact .inr (.inl (UInt8.toNat_inj.1 h))
 ·exact .inr (.inr (UInt8.lt_iff_toNat_lt.2 h))
theorem u8_tr {a b c : UInt8} (h : a < b) (k : b < c) : a < c := UInt8.lt_iff_toNat_lt.2 (by have := UInt8.lt_iff_toNat_lt.1 h; have := UInt8.lt_iff_toNat_lt.1 k; omega)
theorem bl_tr : ∀ {x y z : List UInt8}, Op.bytesLess x y = true -> Op.bytesLess y z = true -> Op.bytesLess x z = true
 | _, [], _, h, _ => by simp [Op.bytesLess] at h
 | _, _ :: _, [], _, k => by simp [Op.bytesLess] at k
 | [], b :: y, c :: z, _, _ => rfl
 | a :: x, b :: y, c :: z, h, k => by
  simp only [Op.bytesLess, Bool.or_eq_true, Bool.and_eq_true, decide_eq_true_eq, beq_iff_eq] at h k ⊢
  rcases h with h | ⟨rfl, h⟩
  ·rcases k with k | ⟨rfl, k⟩
   ·exact .inl (u8_tr h k)
   ·exact .inl h
  ·rcases k with k | ⟨rfl, k⟩
   ·exact .inl k
   ·exact .inr ⟨rfl, bl_tr h k⟩
theorem bl_tot : ∀ {x y : List UInt8}, x ≠ y -> Op.bytesLess x y = false -> Op.bytesLess y x = true
 | [], [], h, _ => absurd rfl h
 | [], _ :: _, _, k => by simp [Op.bytesLess] at k
 | _ :: _, [], _, _ => rfl
 | a :: x, b :: y, h, k => by
  simp only [Op.bytesLess, Bool.or_eq_false_iff, Bool.and_eq_false_iff, decide_eq_false_iff_not, beq_eq_false_iff_ne, ne_eq] at k
  simp only [Op.bytesLess, Bool.or_eq_true, Bool.and_eq_true, decide_eq_true_eq, beq_iff_eq]
  rcases u8_tri a b with q | q | q
  ·exact absurd q k.1
  ·subst q
   refine .inr ⟨rfl, bl_tot (fun e => h (by rw [e])) ?_⟩
   rcases k.2 with e | e
   ·exact absurd rfl e
   ·exact e
  ·exact .inl q
section
variable {α : Type} (lt : α -> α -> Bool)
def insL (x : α) (l : List α) : List α := l.takeWhile (fun d => !lt x d) ++ x :: l.dropWhile (fun d => !lt x d)
def SrtL (l : List α) : Prop := l.Pairwise fun a b => lt a b = true
variable {lt}
theorem takeWhile_of {p : α -> Bool} : ∀ (l : List α) (i : Nat), i ≤ l.length -> (∀ (j : Nat) (h : j < l.length), j < i -> p l[j] = true) -> (∀ (h : i < l.length), p l[i] = false) -> l.takeWhile p = l.take i ∧ l.dropWhile p = l.drop i
 | [], i, h, _, _ => by
  have : i = 0 := by simpa using h
  subst this; exact ⟨rfl, rfl⟩
 | a :: l, 0, _, _, h2 => by
  have : p a = false := h2 (by simp)
  simp [this]
 | a :: l, i + 1, h, h1, h2 => by
  have ha : p a = true := h1 0 (by simp) (by omega)
  obtain ⟨e1, e2⟩ := takeWhile_of l i (by simpa using h) (fun j hj hji => h1 (j + 1) (by simpa using hj) (by omega)) (fun hi => h2 (by simpa using hi))
  simp [ha, e1, e2]
theorem insL_end (tr : ∀ {a b c : α}, lt a b = true -> lt b c = true -> lt a c = true) {x : α} {l : List α} (hs : SrtL lt l) {i : Nat} (hi : i ≤ l.length) (h1 : ∀ (j : Nat) (h : j < l.length), i ≤ j -> lt x l[j] = true) (h2 : ∀ (h : 0 < i), lt x (l[i - 1]'(by omega)) = false) : insL lt x l = l.take i ++ x :: l.drop i := by
 unfold insL
 have k1 : ∀ (j : Nat) (h : j < l.length), j < i -> (!lt x l[j]) = true := fun j hj hji => by
  have h3 := h2 (by omega)
  cases hb : lt x l[j] with
  | false => rfl
  | true =>
   by_cases e : j = i - 1
   ·subst e; rw [hb] at h3; cases h3
   ·have := List.pairwise_iff_getElem.1 hs j (i - 1) hj (by omega) (by omega)
    rw [tr hb this] at h3; cases h3
 have k2 : ∀ (h : i < l.length), (!lt x l[i]) = false := fun h => by rw [h1 i h (Nat.le_refl _)]; rfl
 obtain ⟨e1, e2⟩ := takeWhile_of (p := fun d => !lt x d) l i hi k1 k2
 rw [e1, e2]
theorem insL_head {x : α} {l : List α} {i : Nat} (hi : i ≤ l.length) (h1 : ∀ (j : Nat) (h : j < l.length), j < i -> lt x l[j] = false) (h2 : ∀ (h : i < l.length), lt x l[i] = true) : insL lt x l = l.take i ++ x :: l.drop i := by
 unfold insL
 obtain ⟨e1, e2⟩ := takeWhile_of (p := fun d => !lt x d) l i hi (fun j hj hji => by rw [h1 j hj hji]; rfl) (fun h => by rw [h2 h]; rfl)
 rw [e1, e2]
theorem mem_insL {x y : α} {l : List α} : y ∈ insL lt x l ↔ y = x ∨ y ∈ l := by
 unfold insL
 rw [List.mem_append, List.mem_cons]
 constructor
 ·rintro (h | h | h)
  ·exact .inr ((List.takeWhile_sublist _).subset h)
  ·exact .inl h
  ·exact .inr ((List.dropWhile_sublist _).subset h)
 ·rintro (h | h)
  ·exact .inr (.inl h)
  ·rw [← List.takeWhile_append_dropWhile (p := fun d => !lt x d) (l := l), List.mem_append] at h
   rcases h with h | h
   ·exact .inl h
   ·exact .inr (.inr h)
theorem insL_len {x : α} {l : List α} : (insL lt x l).length = l.length + 1 := by
 have := congrArg List.length (List.takeWhile_append_dropWhile (p := fun d => !lt x d) (l := l))
 rw [List.length_append] at this
 unfold insL
 rw [List.length_append, List.length_cons]; omega
theorem dropWhile_head {p : α -> Bool} : ∀ {l : List α} {y : α} {r : List α}, l.dropWhile p = y :: r -> p y = false
 | [], _, _, h => by simp at h
 | a :: l, y, r, h => by
  rw [List.dropWhile_cons] at h
  split at h
  ·exact dropWhile_head h
  ·rename_i e; cases h; simpa using e
theorem takeWhile_all {p : α -> Bool} : ∀ {l : List α} {y : α}, y ∈ l.takeWhile p -> p y = true
 | [], _, h => by simp at h
 | a :: l, y, h => by
  rw [List.takeWhile_cons] at h
  split at h
  ·rename_i e
   rcases List.mem_cons.1 h with rfl | h
   ·exact e
   ·exact takeWhile_all h
  ·simp at h
theorem insL_srt (tr : ∀ {a b c : α}, lt a b = true -> lt b c = true -> lt a c = true) {x : α} {l : List α} (hs : SrtL lt l) (tot : ∀ y ∈ l, lt x y = false -> lt y x = true) : SrtL lt (insL lt x l) := by
 have hl := List.takeWhile_append_dropWhile (p := fun d => !lt x d) (l := l)
 have hs' := hs
 unfold SrtL at hs' ⊢
 rw [← hl, List.pairwise_append] at hs'
 obtain ⟨s1, s2, s3⟩ := hs'
 have below : ∀ y ∈ l.takeWhile (fun d => !lt x d), lt y x = true := fun y hy => tot y ((List.takeWhile_sublist _).subset hy) (by simpa using takeWhile_all hy)
 have above : ∀ y ∈ l.dropWhile (fun d => !lt x d), lt x y = true := by
  cases hd : l.dropWhile (fun d => !lt x d) with
  | nil => intro y hy; cases hy
  | cons z r =>
   have hz : lt x z = true := by simpa using dropWhile_head hd
   rw [hd] at s2
   intro y hy
   rcases List.mem_cons.1 hy with rfl | hy
   ·exact hz
   ·exact tr hz ((List.pairwise_cons.1 s2).1 y hy)
 unfold insL
 rw [List.pairwise_append]
 refine ⟨s1, List.pairwise_cons.2 ⟨above, s2⟩, fun a ha b hb => ?_⟩
 rcases List.mem_cons.1 hb with rfl | hb
 ·exact below a ha
 ·exact s3 a ha b hb
end
end Go.Proofs.YtolekmhhkopooaaGreatDoor.Zq
end
section
namespace Go.Proofs.YtolekmhhkopooaaGreatDoor.Zq
open Zv
abbrev Pt := G_api_Part
def nmB (b : UInt8) : Bool := b == 45 || (decide (97 ≤ b) && decide (b ≤ 122))
def okNm (s : ByteArray) : Prop := 1 ≤ s.data.toList.length ∧ s.data.toList.length ≤ 20 ∧ s.data.toList.head? ≠ some 45 ∧ s.data.toList.all nmB = true
def kindV (v : Int) : Int := if 1 ≤ v ∧ v ≤ 9 then 1 else if 10 ≤ v ∧ v ≤ 15 then 2 else if 16 ≤ v ∧ v ≤ 19 then 3 else 0
def wantW (w : Int) : Int := if 1 ≤ w ∧ w ≤ 4 then 1 else if w = 5 then 2 else if w = 6 then 3 else 0
def cU (v : Int) : Prop := v = 1 ∨ v = 2 ∨ v = 3 ∨ v = 4 ∨ v = 5 ∨ v = 7 ∨ v = 9 ∨ v = 14 ∨ v = 15 ∨ v = 16 ∨ v = 19
def sU (v w : Int) : Prop := v = 11 ∨ w = 9
def tU (v w : Int) : Prop := v = 12 ∨ v = 13 ∨ w = 10
instance (v : Int) : Decidable (cU v) := by unfold cU; infer_instance
instance (v w : Int) : Decidable (sU v w) := by unfold sU; infer_instance
instance (v w : Int) : Decidable (tU v w) := by unfold tU; infer_instance
def lowV (v : Int) : Int := if v = 9 ∨ v = 15 then -99 else if v = 5 then -9 else if v = 14 then 0 else 1
def highV (v : Int) : Int := if v = 5 then 9 else 99
def okCount (v x : Int) : Prop := if cU v then lowV v ≤ x ∧ x ≤ highV v ∧ (v = 14 ∨ x ≠ 0) else x = 0
def inU (u : Prop) [Decidable u] (x most : Int) : Prop := if u then 1 ≤ x ∧ x ≤ most else x = 0
def okAbout (p : Pt) : Prop :=
 if kindV p.Verb = 1 then (if p.Whom = 3 then p.When = 1 else ¬ ((p.Whom = 1 ∨ p.Whom = 2) ∧ (p.Verb = 6 ∨ p.Verb = 8 ∨ p.Verb = 9)))
 else if kindV p.Verb = 2 then ¬ (p.Whom = 1 ∨ p.Whom = 2) ∧ p.Whom ≠ 3
 else p.Whom ≠ 3
open Classical in
noncomputable def chkP (p : Pt) : Int :=
 if p.When < 1 ∨ 6 < p.When ∨ p.Verb < 1 ∨ 19 < p.Verb ∨ p.Whom < 1 ∨ 10 < p.Whom then 2
 else if kindV p.Verb ≠ wantW p.When ∨ p.Verb = 11 ∧ p.Whom = 9 then 8
 else if ¬ okAbout p then 13
 else if ¬ okCount p.Verb p.Count then 2
 else if ¬ (inU (sU p.Verb p.Whom) p.Suit 6 ∧ inU (tU p.Verb p.Whom) p.Trait 8 ∧ inU (p.Verb = 9) p.Mark 4) then 2
 else if (if p.Verb = 7 then ¬ okNm p.Name else p.Name.data.toList ≠ []) then 4
 else 0
structure Cd where
 g : G_api_Card
 ps : List Pt
def bare (g : G_api_Card) : G_api_Card := { g with Parts := ⟨none, 0, 0⟩ }
open Classical in
noncomputable def chkPs (k : Int) : List Pt -> Int
 | [] => 0
 | p :: r => if chkP p ≠ 0 then chkP p else if k = 2 ∧ p.When ≠ 1 ∨ k = 3 ∧ p.When = 4 then 8 else chkPs k r
open Classical in
noncomputable def chkF (c : Cd) : Int :=
 if ¬ okNm c.g.Name then 4
 else if ¬ (1 ≤ c.g.Suit ∧ c.g.Suit ≤ 6) ∨ ¬ (1 ≤ c.g.Kind ∧ c.g.Kind ≤ 3) then 8
 else if ¬ (0 ≤ c.g.Cost ∧ c.g.Cost ≤ 10) ∨ ¬ (0 ≤ c.g.Power ∧ c.g.Power ≤ 99) ∨ ¬ (0 ≤ c.g.Health ∧ c.g.Health ≤ 99) then 2
 else if c.g.Kind = 1 ∧ c.g.Health = 0 ∨ c.g.Kind ≠ 1 ∧ (c.g.Power ≠ 0 ∨ c.g.Health ≠ 0) then 8
 else if ¬ (c.g.Traits < 256) ∨ c.g.Kind = 2 ∧ c.g.Token = true then 8
 else if 4 < c.ps.length then 3
 else 0
noncomputable def chkC (c : Cd) : Int := if chkF c = 0 then chkPs c.g.Kind c.ps else chkF c
theorem chkF_len {c : Cd} (h : chkF c = 0) : c.ps.length ≤ 4 := by
 unfold chkF at h
 repeat' split at h
 all_goals first | omega | (exfalso; exact absurd h (by decide))
def ahd (c d : Cd) : Bool := decide (c.g.Suit < d.g.Suit) || (c.g.Suit == d.g.Suit && Op.bytesLess c.g.Name.toList d.g.Name.toList)
theorem ahd_tr {a b c : Cd} (h : ahd a b = true) (k : ahd b c = true) : ahd a c = true := by
 unfold ahd at *
 simp only [Bool.or_eq_true, Bool.and_eq_true, decide_eq_true_eq, beq_iff_eq] at *
 rcases h with h | ⟨h1, h2⟩ <;> rcases k with k | ⟨k1, k2⟩
 ·exact .inl (by omega)
 ·exact .inl (by omega)
 ·exact .inl (by omega)
 ·exact .inr ⟨by omega, bl_tr h2 k2⟩
theorem ahd_tot {a b : Cd} (hn : a.g.Name.toList ≠ b.g.Name.toList) (h : ahd a b = false) : ahd b a = true := by
 unfold ahd at *
 simp only [Bool.or_eq_true, Bool.and_eq_true, decide_eq_true_eq, beq_iff_eq, Bool.or_eq_false_iff, Bool.and_eq_false_iff, decide_eq_false_iff_not, beq_eq_false_iff_ne, ne_eq] at *
 by_cases e : a.g.Suit = b.g.Suit
 ·refine .inr ⟨e.symm, bl_tot hn ?_⟩
  rcases h.2 with q | q
  ·exact absurd e q
  ·exact q
 ·exact .inl (by omega)
def nameIn (B : List Cd) (s : ByteArray) : Option Nat := B.findIdx? fun d => d.g.Name.toList == s.toList
open Classical in
noncomputable def addE (B : List Cd) (c : Cd) : Int := if chkC c ≠ 0 then chkC c else if (nameIn B c.g.Name).isSome then 5 else if 64 ≤ B.length then 14 else 0
open Classical in
noncomputable def addC (B : List Cd) (c : Cd) : List Cd := if addE B c = 0 then insL ahd c B else B
structure OkB (B : List Cd) : Prop where
 few : B.length ≤ 64
 srt : SrtL ahd B
 ok : ∀ c ∈ B, chkC c = 0
theorem addC_ok {B : List Cd} (h : OkB B) (c : Cd) : OkB (addC B c) := by
 unfold addC
 split
 ·rename_i e
  unfold addE at e
  split at e
  ·rename_i e2; exact absurd e e2
  ·rename_i e2
   split at e
   ·cases e
   ·rename_i e3
    split at e
    ·cases e
    ·rename_i e4
     have e2 : chkC c = 0 := Classical.byContradiction e2
     refine ⟨by rw [insL_len]; omega, insL_srt (lt := ahd) (fun h k => ahd_tr h k) h.srt fun y hy hl => ahd_tot (fun en => ?_) hl, fun d hd => ?_⟩
     ·apply e3
      unfold nameIn
      rw [List.findIdx?_isSome, List.any_eq_true]
      exact ⟨y, hy, by rw [en]; simp⟩
     ·rcases mem_insL.1 hd with rfl | hd
      ·exact e2
      ·exact h.ok d hd
 ·exact h
open Classical in
noncomputable def markE (ms : List G_api_MarkInfo) (m : G_api_MarkInfo) : Int :=
 if m.Mark < 1 ∨ 4 < m.Mark ∨ m.Power < -9 ∨ 9 < m.Power ∨ m.Health < -9 ∨ 9 < m.Health then 2
 else if ¬ okNm m.Name then 4
 else if (∃ x, ms[m.Mark.toNat]? = some x ∧ x.Mark ≠ 0) ∨ (∃ x ∈ ms, x.Name.toList = m.Name.toList) then 5
 else 0
open Classical in
noncomputable def addM (ms : List G_api_MarkInfo) (m : G_api_MarkInfo) : List G_api_MarkInfo := if markE ms m = 0 then ms.set m.Mark.toNat m else ms
def callE (B : List Cd) (p : Pt) : Int := if p.Verb = 7 then (match nameIn B p.Name with | none => 6 | some i => if (B[i]?.map fun c => c.g.Kind) = some 2 then 8 else 0) else 0
def firstE (B : List Cd) : List Pt -> Int
 | [] => 0
 | p :: r => if callE B p ≠ 0 then callE B p else firstE B r
def sealE (B : List Cd) : Int := firstE B (B.flatMap (·.ps))
end Go.Proofs.YtolekmhhkopooaaGreatDoor.Zq
end
section
namespace Go.Proofs.YtolekmhhkopooaaGreatDoor
open Go Zq
namespace Zv
set_option maxRecDepth 100000
set_option linter.unusedVariables false
def S_law19_LayerAll (a0 : G_kit_Fill) (a1 : G_law19_Table) (a2 : Sl) (a3 : Int) (H : Heap) (Q : Bool × Unit -> Heap -> Prop) : Prop :=
JOIN (fun (j1 : (Bool × Unit) × (Unit) -> Heap -> Prop) =>
CALL P [T_bool] n_law19_heavy [(T_G_kit_Fill.enc a0), (T_G_law19_Table.enc a1)] H fun (x3 : Bool × Unit) H2 =>
ifB x3.1 (
j1 ((true, ()), (())) H2) (
j1 ((decide ((a2.len : Int) > 70), ()), (())) H2)) fun (y2 : (Bool × Unit) × (Unit)) H1 =>
ifB y2.1.1 (
Q (true, ()) H1) (
CALL P [T_ptr, T_ptr, T_bool] n_kit_Books [(T_G_kit_Fill.enc a0)] H1 fun (x4 : (Option Addr) × (Option Addr) × Bool × Unit) H3 =>
ifB (!x4.2.2.1) (
Q (false, ()) H3) (
CALL P [T_sl] n_kit_LentThings [a1.Things.v] H3 fun (x5 : Sl × Unit) H4 =>
REQ ((some (.slice a1.Fs.p a1.Fs.len a1.Fs.cap) : Option Value) = some (.slice a1.Fs.p a1.Fs.len a1.Fs.cap)) (
CALL P [T_sl] n_kit_LentFeatures [a1.Fs.v] H4 fun (x6 : Sl × Unit) H5 =>
CALL P [T_sl] n_kit_LentStandings [a2.v] H5 fun (x7 : Sl × Unit) H6 =>
GENV T_sl (aSlice E 26 x5.1.v none (some (.int .i64 (a1.Things.len : Int))) none H6) fun (x8 : Sl) =>
GENV T_sl (aSlice E 27 x6.1.v none (some (.int .i64 (a1.Fs.len : Int))) none H6) fun (x9 : Sl) =>
GENV T_sl (aSlice E 66 x7.1.v none (some (.int .i64 (a2.len : Int))) none H6) fun (x10 : Sl) =>
CALL P [(T_int .i64), (T_int .i64)] n_layer_Next [(.pointer x4.1), x8.v, x9.v, x10.v] H6 fun (x11 : Int × Int × Unit) H7 =>
CALL P [(T_int .i64), (T_int .i64)] n_ref19_Next [(.pointer x4.2.1), a1.Things.v, a1.Fs.v, a2.v] H7 fun (x12 : Int × Int × Unit) H8 =>
CALL P [T_sl, (T_int .i64)] n_layer_Effects [(.pointer x4.1), x8.v, x9.v, (.int .i64 a3)] H8 fun (x13 : Sl × Int × Unit) H9 =>
CALL P [T_sl, (T_int .i64)] n_ref19_Effects [(.pointer x4.2.1), a1.Things.v, a1.Fs.v, (.int .i64 a3)] H9 fun (x14 : Sl × Int × Unit) H10 =>
CALL P [T_sl, T_sl, (T_int .i64)] n_layer_All [(.pointer x4.1), x8.v, x9.v, (.int .i64 a3)] H10 fun (x15 : Sl × Sl × Int × Unit) H11 =>
CALL P [T_sl, T_sl, (T_int .i64)] n_ref19_All [(.pointer x4.2.1), a1.Things.v, a1.Fs.v, (.int .i64 a3)] H11 fun (x16 : Sl × Sl × Int × Unit) H12 =>
JOIN (fun (j17 : (Bool × Unit) × (Unit) -> Heap -> Prop) =>
ifB (x11.1 != x12.1) (
j17 ((true, ()), (())) H12) (
ifB (x11.2.1 != x12.2.1) (
j17 ((true, ()), (())) H12) (
ifB (x13.2.1 != x14.2.1) (
j17 ((true, ()), (())) H12) (
ifB (x15.2.2.1 != x16.2.2.1) (
j17 ((true, ()), (())) H12) (
CALL P [T_bool] n_kit_SameStandings [x13.1.v, x14.1.v] H12 fun (x19 : Bool × Unit) H14 =>
ifB (!x19.1) (
j17 ((true, ()), (())) H14) (
CALL P [T_bool] n_kit_SameFeatures [x15.1.v, x16.1.v] H14 fun (x20 : Bool × Unit) H15 =>
ifB (!x20.1) (
j17 ((true, ()), (())) H15) (
CALL P [T_bool] n_kit_SameStandings [x15.2.1.v, x16.2.1.v] H15 fun (x21 : Bool × Unit) H16 =>
j17 ((!x21.1, ()), (())) H16))))))) fun (y18 : (Bool × Unit) × (Unit)) H13 =>
ifB y18.1.1 (
Q (false, ()) H13) (
NEW H13 [] 1 fun H17 =>
NEW H17 [(.slice x15.1.p x15.1.len x15.1.cap)] 1 fun H18 =>
CALL P [T_sl] n_kit_CopyStandings [a2.v] H18 fun (x22 : Sl × Unit) H19 =>
APP T_sl (lenV x22.1.v + (lenX x14.1.v).getD 0) (aAppendE E [66, 66] x22.1.v x14.1.v H19) fun (x23 : Sl) H20 =>
JOIN (fun (j24 : (Sl × Sl × Unit) × (Unit) -> Heap -> Prop) =>
LOOP (fun (r26 : (Sl × Sl × Int × Unit) × (Unit) -> Heap -> Prop) (s27 : (Sl × Sl × Int × Unit) × (Unit)) H22 =>
JOIN (fun (j28 : (Bool × Unit) × (Unit) -> Heap -> Prop) =>
ifB (decide (s27.1.2.2.1 < (x23.len : Int))) (
j28 ((decide (s27.1.2.2.1 < 12), ()), (())) H22) (
j28 ((false, ()), (())) H22)) fun (y29 : (Bool × Unit) × (Unit)) H23 =>
ifB y29.1.1 (
IDX x23.p x23.len s27.1.2.2.1 10 fun b30 o31 =>
LD T_G_api_Standing H23 b30 o31 fun (x32 : G_api_Standing) =>
REQ ((x23.len : Int) ≠ 0) (
IDX x23.p x23.len (Int.tmod (IntKind.wrap .i64 (s27.1.2.2.1 + 1)) (x23.len : Int)) 10 fun b33 o34 =>
LD T_G_api_Standing H23 b33 o34 fun (x35 : G_api_Standing) =>
CALL P [T_sl, T_sl, T_bool] n_law19_asked [(.pointer x4.1), (.pointer x4.2.1), (T_G_law19_Table.enc a1), (T_G_law19_Table.enc (G_law19_Table.mk x8 x9)), (T_G_api_Standing.enc x32), (T_G_api_Standing.enc x35)] H23 fun (x36 : Sl × Sl × Bool × Unit) H24 =>
ifB (!x36.2.2.1) (
Q (false, ()) H24) (
APP T_sl (lenV s27.1.1.v + (lenX x36.1.v).getD 0) (aAppendE E [60, 60] s27.1.1.v x36.1.v H24) fun (x37 : Sl) H25 =>
APP T_sl (lenV s27.1.2.1.v + (lenX x36.2.1.v).getD 0) (aAppendE E [100, 100] s27.1.2.1.v x36.2.1.v H25) fun (x38 : Sl) H26 =>
r26 ((x37, x38, IntKind.wrap .i64 (s27.1.2.2.1 + 1), ()), (())) H26))) (
j24 ((s27.1.1, s27.1.2.1, ()), (())) H23)) (((Sl.mk (some ⟨H13.length, 0, none⟩) 0 0), (Sl.mk (some ⟨H17.length, 0, none⟩) 1 1), 0, ()), (())) H20) fun (y25 : (Sl × Sl × Unit) × (Unit)) H21 =>
JOIN (fun (j39 : (Bool × Unit) × (Unit) -> Heap -> Prop) =>
CALL P [T_bool] n_kit_KeptThings [x5.1.v, a1.Things.v] H21 fun (x41 : Bool × Unit) H28 =>
ifB x41.1 (
CALL P [T_bool] n_kit_KeptFeatures [x6.1.v, a1.Fs.v] H28 fun (x42 : Bool × Unit) H29 =>
ifB x42.1 (
CALL P [T_bool] n_kit_KeptStandings [x7.1.v, a2.v] H29 fun (x43 : Bool × Unit) H30 =>
j39 ((x43.1, ()), (())) H30) (
j39 ((false, ()), (())) H29)) (
j39 ((false, ()), (())) H28)) fun (y40 : (Bool × Unit) × (Unit)) H27 =>
JOIN (fun (j44 : (Bool × Unit) × (Unit) -> Heap -> Prop) =>
ifB y40.1.1 (
CALL P [T_bool] n_kit_ApartInts [y25.1.1.v] H27 fun (x46 : Bool × Unit) H32 =>
ifB x46.1 (
CALL P [T_bool] n_kit_ApartFeatures [y25.1.2.1.v] H32 fun (x47 : Bool × Unit) H33 =>
ifB x47.1 (
NEW H33 [(.slice x13.1.p x13.1.len x13.1.cap), (.slice x15.2.1.p x15.2.1.len x15.2.1.cap)] 1 fun H34 =>
CALL P [T_bool] n_kit_ApartStandings [((Sl.mk (some ⟨H33.length, 0, none⟩) 2 2)).v] H34 fun (x48 : Bool × Unit) H35 =>
j44 ((x48.1, ()), (())) H35) (
j44 ((false, ()), (())) H33)) (
j44 ((false, ()), (())) H32)) (
j44 ((false, ()), (())) H27)) fun (y45 : (Bool × Unit) × (Unit)) H31 =>
Q (y45.1.1, ()) H31))))
def h_law19_LayerAll : Hnt := (.seq .leaf (.seq (.seq (.reg ⟨[(45, T_bool)], [], [38, 39, 40, 41, 42, 43, 44]⟩) .leaf) (.seq .leaf (.seq .leaf (.seq .leaf (.seq .leaf (.seq .leaf (.seq .leaf (.seq .leaf (.seq .leaf (.seq .leaf (.seq .leaf (.seq (.seq (.reg ⟨[(173, T_bool)], [], [138, 139, 140, 141, 142, 143, 144, 145, 146, 147, 148, 149, 150, 151, 152, 153, 154, 155, 156, 157, 158, 159, 160, 161, 162, 163, 164, 165, 166, 167, 168, 169, 170, 171, 172]⟩) .leaf) (.seq .leaf (.seq .leaf (.seq (.seq .leaf (.blk (some ⟨[(30, T_sl), (31, T_sl)], [], [8, 33, 34, 35, 36, 181, 182, 183, 184, 185, 186, 187, 188, 189, 190, 191, 192, 193, 194, 195, 196, 197, 198, 199, 200, 201, 202, 203, 204, 205, 206, 207, 208, 209, 210, 211, 212, 213, 214, 215, 216, 217, 218, 219]⟩) (.loop ⟨[(30, T_sl), (31, T_sl), (33, (T_int .i64))], [], [8, 34, 35, 36, 181, 182, 183, 184, 185, 186, 187, 188, 189, 190, 191, 192, 193, 194, 195, 196, 197, 198, 199, 200, 201, 202, 203, 204, 205, 206, 207, 208, 209, 210, 211, 212, 213, 214, 215, 216, 217, 218, 219]⟩ (.seq (.seq (.reg ⟨[(188, T_bool)], [], [181, 182, 183, 184, 185, 186, 187]⟩) .leaf) .leaf)))) (.seq (.reg ⟨[(37, T_bool)], [], [220, 221, 222, 223, 224, 225, 226, 227, 228, 229, 230, 231, 232, 233, 234]⟩) (.seq (.reg ⟨[(8, T_bool)], [], [235, 236, 237, 238, 239, 240, 241, 242, 243, 244, 245, 246, 247, 248, 249]⟩) .leaf))))))))))))))))))
theorem e_law19_LayerAll (a0 : G_kit_Fill) (a1 : G_law19_Table) (a2 : Sl) (a3 : Int) (H : Heap) (Q : Bool × Unit -> Heap -> Prop) : S_law19_LayerAll a0 a1 a2 a3 H Q = cFn C [4, 5, 15] Tryz.f9.ntmps Tryz.f9.results.toList [T_bool] (bodyOf Tryz.f9) h_law19_LayerAll [(T_G_kit_Fill.enc a0), (T_G_law19_Table.enc a1), a2.v, (.int .i64 a3)] H Q := by kernel_rfl
theorem c_law19_LayerAll {a0 : G_kit_Fill} {a1 : G_law19_Table} {a2 : Sl} {a3 : Int} {H : Heap} {Q : Bool × Unit -> Heap -> Prop} (h : S_law19_LayerAll a0 a1 a2 a3 H Q) : CALL P [T_bool] n_law19_LayerAll [(T_G_kit_Fill.enc a0), (T_G_law19_Table.enc a1), a2.v, (.int .i64 a3)] H Q := call_print hE Tryz.func9 rfl (by kernel_rfl) (e_law19_LayerAll a0 a1 a2 a3 H Q) h
def S_kit_Books (a0 : G_kit_Fill) (H : Heap) (Q : (Option Addr) × (Option Addr) × Bool × Unit -> Heap -> Prop) : Prop :=
CALL P [T_ptr] n_book_New [] H fun (x1 : (Option Addr) × Unit) H1 =>
CALL P [T_ptr] n_ref07_New [] H1 fun (x2 : (Option Addr) × Unit) H2 =>
JOIN (fun (j3 : (Unit) × (Unit) -> Heap -> Prop) =>
LOOP (fun (r5 : (Int × Unit) × (Unit) -> Heap -> Prop) (s6 : (Int × Unit) × (Unit)) H4 =>
ifB (decide (s6.1.1 < (a0.Cards.len : Int))) (
IDX a0.Cards.p a0.Cards.len s6.1.1 9 fun b7 o8 =>
LD T_G_api_Card H4 b7 o8 fun (x9 : G_api_Card) =>
IDX a0.Cards.p a0.Cards.len s6.1.1 9 fun b10 o11 =>
LD T_G_api_Card H4 b10 o11 fun (x12 : G_api_Card) =>
CALL P [T_G_api_Card] n_kit_CopyCard [(T_G_api_Card.enc x9)] H4 fun (x13 : G_api_Card × Unit) H5 =>
REQ ((some (.slice a0.Cards.p a0.Cards.len a0.Cards.cap) : Option Value) = some (.slice a0.Cards.p a0.Cards.len a0.Cards.cap)) (
LD T_G_api_Card H5 b10 o11 fun (x14 : G_api_Card) =>
REQ (T_G_api_Card.enc x14 = (T_G_api_Card.enc x12)) (
CALL P [(T_int .i64)] n_book_Book_Card [(.pointer x1.1), (T_G_api_Card.enc x13.1)] H5 fun (x15 : Int × Unit) H6 =>
REQ ((some (.slice a0.Cards.p a0.Cards.len a0.Cards.cap) : Option Value) = some (.slice a0.Cards.p a0.Cards.len a0.Cards.cap)) (
LD T_G_api_Card H6 b10 o11 fun (x16 : G_api_Card) =>
REQ (T_G_api_Card.enc x16 = (T_G_api_Card.enc x12)) (
CALL P [T_G_api_Card] n_kit_CopyCard [(T_G_api_Card.enc x12)] H6 fun (x17 : G_api_Card × Unit) H7 =>
CALL P [(T_int .i64)] n_ref07_Book_Card [(.pointer x2.1), (T_G_api_Card.enc x17.1)] H7 fun (x18 : Int × Unit) H8 =>
ifB (x15.1 != x18.1) (
Q (x1.1, x2.1, false, ()) H8) (
r5 ((IntKind.wrap .i64 (s6.1.1 + 1), ()), (())) H8)))))) (
j3 ((()), (())) H4)) ((0, ()), (())) H2) fun (y4 : (Unit) × (Unit)) H3 =>
JOIN (fun (j19 : (Unit) × (Unit) -> Heap -> Prop) =>
LOOP (fun (r21 : (Int × Unit) × (Unit) -> Heap -> Prop) (s22 : (Int × Unit) × (Unit)) H10 =>
ifB (decide (s22.1.1 < (a0.Marks.len : Int))) (
IDX a0.Marks.p a0.Marks.len s22.1.1 4 fun b23 o24 =>
LD T_G_api_MarkInfo H10 b23 o24 fun (x25 : G_api_MarkInfo) =>
IDX a0.Marks.p a0.Marks.len s22.1.1 4 fun b26 o27 =>
LD T_G_api_MarkInfo H10 b26 o27 fun (x28 : G_api_MarkInfo) =>
CALL P [(T_int .i64)] n_book_Book_Mark [(.pointer x1.1), (T_G_api_MarkInfo.enc x25)] H10 fun (x29 : Int × Unit) H11 =>
REQ ((some (.slice a0.Marks.p a0.Marks.len a0.Marks.cap) : Option Value) = some (.slice a0.Marks.p a0.Marks.len a0.Marks.cap)) (
LD T_G_api_MarkInfo H11 b26 o27 fun (x30 : G_api_MarkInfo) =>
REQ (T_G_api_MarkInfo.enc x30 = (T_G_api_MarkInfo.enc x28)) (
CALL P [(T_int .i64)] n_ref07_Book_Mark [(.pointer x2.1), (T_G_api_MarkInfo.enc x28)] H11 fun (x31 : Int × Unit) H12 =>
ifB (x29.1 != x31.1) (
Q (x1.1, x2.1, false, ()) H12) (
r21 ((IntKind.wrap .i64 (s22.1.1 + 1), ()), (())) H12)))) (
j19 ((()), (())) H10)) ((0, ()), (())) H3) fun (y20 : (Unit) × (Unit)) H9 =>
JOIN (fun (j32 : (Bool × Unit) × (Unit) -> Heap -> Prop) =>
ifB (!a0.Open) (
CALL P [(T_int .i64)] n_book_Book_Seal [(.pointer x1.1)] H9 fun (x34 : Int × Unit) H14 =>
CALL P [(T_int .i64)] n_ref07_Book_Seal [(.pointer x2.1)] H14 fun (x35 : Int × Unit) H15 =>
j32 ((x34.1 != x35.1, ()), (())) H15) (
j32 ((false, ()), (())) H9)) fun (y33 : (Bool × Unit) × (Unit)) H13 =>
ifB y33.1.1 (
Q (x1.1, x2.1, false, ()) H13) (
CALL P [T_bool] n_book_Book_Sealed [(.pointer x1.1)] H13 fun (x36 : Bool × Unit) H16 =>
CALL P [T_bool] n_ref07_Book_Sealed [(.pointer x2.1)] H16 fun (x37 : Bool × Unit) H17 =>
Q (x1.1, x2.1, (x36.1 == x37.1), ()) H17)
def h_kit_Books : Hnt := (.seq .leaf (.seq .leaf (.seq (.seq .leaf (.blk (some ⟨[], [], [2, 3, 4, 7, 11, 12, 13, 14, 15, 16, 17, 18, 19, 20, 21, 22, 23, 24, 25, 26, 27, 28, 29, 30, 31, 32, 33, 34, 35, 36]⟩) (.loop ⟨[(7, (T_int .i64))], [], [2, 3, 4, 11, 12, 13, 14, 15, 16, 17, 18, 19, 20, 21, 22, 23, 24, 25, 26, 27, 28, 29, 30, 31, 32, 33, 34, 35, 36]⟩ .leaf))) (.seq (.seq .leaf (.blk (some ⟨[], [], [2, 3, 4, 8, 37, 38, 39, 40, 41, 42, 43, 44, 45, 46, 47, 48, 49, 50, 51, 52, 53, 54, 55, 56, 57, 58, 59, 60]⟩) (.loop ⟨[(8, (T_int .i64))], [], [2, 3, 4, 37, 38, 39, 40, 41, 42, 43, 44, 45, 46, 47, 48, 49, 50, 51, 52, 53, 54, 55, 56, 57, 58, 59, 60]⟩ .leaf))) (.seq (.seq (.reg ⟨[(70, T_bool)], [], [61, 62, 63, 64, 65, 66, 67, 68, 69]⟩) .leaf) .leaf)))))
theorem e_kit_Books (a0 : G_kit_Fill) (H : Heap) (Q : (Option Addr) × (Option Addr) × Bool × Unit -> Heap -> Prop) : S_kit_Books a0 H Q = cFn C [1] Tryz.f10.ntmps Tryz.f10.results.toList [T_ptr, T_ptr, T_bool] (bodyOf Tryz.f10) h_kit_Books [(T_G_kit_Fill.enc a0)] H Q := by kernel_rfl
theorem c_kit_Books {a0 : G_kit_Fill} {H : Heap} {Q : (Option Addr) × (Option Addr) × Bool × Unit -> Heap -> Prop} (h : S_kit_Books a0 H Q) : CALL P [T_ptr, T_ptr, T_bool] n_kit_Books [(T_G_kit_Fill.enc a0)] H Q := call_print hE Tryz.func10 rfl (by kernel_rfl) (e_kit_Books a0 H Q) h
def S_kit_LentThings (a0 : Sl) (H : Heap) (Q : Sl × Unit -> Heap -> Prop) : Prop :=
GEN T_sl (aMakeSlice E 26 (.int .i64 0) (.int .i64 (IntKind.wrap .i64 ((a0.len : Int) + 2))) H) fun (x1 : Sl) H1 =>
APP T_sl (lenV x1.v + (lenX a0.v).getD 0) (aAppendE E [26, 26] x1.v a0.v H1) fun (x2 : Sl) H2 =>
APP T_sl (lenV x2.v + 2) (aAppE E [26, 26] x2.v 2 [(.int .i64 (-77)), (.int .i64 0), (.int .u8 0), (.int .i64 0), (.int .i64 0), (.int .i64 0), (.int .i64 0), (.int .i64 0), (.int .i64 0), (.int .i64 0), (.bool false), (.int .i64 (-77)), (.int .i64 0), (.int .u8 0), (.int .i64 0), (.int .i64 0), (.int .i64 0), (.int .i64 0), (.int .i64 0), (.int .i64 0), (.int .i64 0), (.bool false)] H2) fun (x3 : Sl) H3 =>
Q (x3, ()) H3
def h_kit_LentThings : Hnt := .leaf
theorem e_kit_LentThings (a0 : Sl) (H : Heap) (Q : Sl × Unit -> Heap -> Prop) : S_kit_LentThings a0 H Q = cFn C [14] Tryz.f16.ntmps Tryz.f16.results.toList [T_sl] (bodyOf Tryz.f16) h_kit_LentThings [a0.v] H Q := by kernel_rfl
theorem c_kit_LentThings {a0 : Sl} {H : Heap} {Q : Sl × Unit -> Heap -> Prop} (h : S_kit_LentThings a0 H Q) : CALL P [T_sl] n_kit_LentThings [a0.v] H Q := call_print hE Tryz.func16 rfl (by kernel_rfl) (e_kit_LentThings a0 H Q) h
def S_kit_LentFeatures (a0 : Sl) (H : Heap) (Q : Sl × Unit -> Heap -> Prop) : Prop :=
GEN T_sl (aMakeSlice E 27 (.int .i64 0) (.int .i64 (IntKind.wrap .i64 ((a0.len : Int) + 2))) H) fun (x1 : Sl) H1 =>
APP T_sl (lenV x1.v + (lenX a0.v).getD 0) (aAppendE E [27, 27] x1.v a0.v H1) fun (x2 : Sl) H2 =>
APP T_sl (lenV x2.v + 2) (aAppE E [27, 27] x2.v 2 [(.int .i64 (-77)), (.int .u8 0), (.int .u16 0), (.int .i64 0), (.int .i64 0), (.int .i64 (-77)), (.int .u8 0), (.int .u16 0), (.int .i64 0), (.int .i64 0)] H2) fun (x3 : Sl) H3 =>
Q (x3, ()) H3
def h_kit_LentFeatures : Hnt := .leaf
theorem e_kit_LentFeatures (a0 : Sl) (H : Heap) (Q : Sl × Unit -> Heap -> Prop) : S_kit_LentFeatures a0 H Q = cFn C [14] Tryz.f17.ntmps Tryz.f17.results.toList [T_sl] (bodyOf Tryz.f17) h_kit_LentFeatures [a0.v] H Q := by kernel_rfl
theorem c_kit_LentFeatures {a0 : Sl} {H : Heap} {Q : Sl × Unit -> Heap -> Prop} (h : S_kit_LentFeatures a0 H Q) : CALL P [T_sl] n_kit_LentFeatures [a0.v] H Q := call_print hE Tryz.func17 rfl (by kernel_rfl) (e_kit_LentFeatures a0 H Q) h
def S_kit_SameInts (a0 : Sl) (a1 : Sl) (H : Heap) (Q : Bool × Unit -> Heap -> Prop) : Prop :=
ifB ((a0.len : Int) != (a1.len : Int)) (
Q (false, ()) H) (
JOIN (fun (j1 : (Unit) × (Unit) -> Heap -> Prop) =>
LOOP (fun (r3 : (Int × Unit) × (Unit) -> Heap -> Prop) (s4 : (Int × Unit) × (Unit)) H2 =>
ifB (decide (s4.1.1 < (a0.len : Int))) (
IDX a0.p a0.len s4.1.1 1 fun b5 o6 =>
LD (T_int .i64) H2 b5 o6 fun (x7 : Int) =>
IDX a1.p a1.len s4.1.1 1 fun b8 o9 =>
LD (T_int .i64) H2 b8 o9 fun (x10 : Int) =>
ifB (x7 != x10) (
Q (false, ()) H2) (
r3 ((IntKind.wrap .i64 (s4.1.1 + 1), ()), (())) H2)) (
j1 ((()), (())) H2)) ((0, ()), (())) H) fun (y2 : (Unit) × (Unit)) H1 =>
Q (true, ()) H1)
def h_kit_SameInts : Hnt := (.seq .leaf (.seq .leaf (.seq (.seq .leaf (.blk (some ⟨[], [], [4, 5, 11, 12, 13, 14, 15, 16, 17, 18, 19, 20, 21, 22, 23, 24, 25]⟩) (.loop ⟨[(5, (T_int .i64))], [], [4, 11, 12, 13, 14, 15, 16, 17, 18, 19, 20, 21, 22, 23, 24, 25]⟩ .leaf))) .leaf)))
theorem e_kit_SameInts (a0 : Sl) (a1 : Sl) (H : Heap) (Q : Bool × Unit -> Heap -> Prop) : S_kit_SameInts a0 a1 H Q = cFn C [] Tryz.f18.ntmps Tryz.f18.results.toList [T_bool] (bodyOf Tryz.f18) h_kit_SameInts [a0.v, a1.v] H Q := by kernel_rfl
theorem c_kit_SameInts {a0 : Sl} {a1 : Sl} {H : Heap} {Q : Bool × Unit -> Heap -> Prop} (h : S_kit_SameInts a0 a1 H Q) : CALL P [T_bool] n_kit_SameInts [a0.v, a1.v] H Q := call_print hE Tryz.func18 rfl (by kernel_rfl) (e_kit_SameInts a0 a1 H Q) h
def S_kit_KeptThings (a0 : Sl) (a1 : Sl) (H : Heap) (Q : Bool × Unit -> Heap -> Prop) : Prop :=
CALL P [T_sl] n_kit_CopyThings [a1.v] H fun (x1 : Sl × Unit) H1 =>
APP T_sl (lenV x1.1.v + 2) (aAppE E [26, 26] x1.1.v 2 [(.int .i64 (-77)), (.int .i64 0), (.int .u8 0), (.int .i64 0), (.int .i64 0), (.int .i64 0), (.int .i64 0), (.int .i64 0), (.int .i64 0), (.int .i64 0), (.bool false), (.int .i64 (-77)), (.int .i64 0), (.int .u8 0), (.int .i64 0), (.int .i64 0), (.int .i64 0), (.int .i64 0), (.int .i64 0), (.int .i64 0), (.int .i64 0), (.bool false)] H1) fun (x2 : Sl) H2 =>
CALL P [T_bool] n_kit_SameThings [a0.v, x2.v] H2 fun (x3 : Bool × Unit) H3 =>
Q (x3.1, ()) H3
def h_kit_KeptThings : Hnt := .leaf
theorem e_kit_KeptThings (a0 : Sl) (a1 : Sl) (H : Heap) (Q : Bool × Unit -> Heap -> Prop) : S_kit_KeptThings a0 a1 H Q = cFn C [10] Tryz.f23.ntmps Tryz.f23.results.toList [T_bool] (bodyOf Tryz.f23) h_kit_KeptThings [a0.v, a1.v] H Q := by kernel_rfl
theorem c_kit_KeptThings {a0 : Sl} {a1 : Sl} {H : Heap} {Q : Bool × Unit -> Heap -> Prop} (h : S_kit_KeptThings a0 a1 H Q) : CALL P [T_bool] n_kit_KeptThings [a0.v, a1.v] H Q := call_print hE Tryz.func23 rfl (by kernel_rfl) (e_kit_KeptThings a0 a1 H Q) h
def S_kit_KeptFeatures (a0 : Sl) (a1 : Sl) (H : Heap) (Q : Bool × Unit -> Heap -> Prop) : Prop :=
CALL P [T_sl] n_kit_CopyFeatures [a1.v] H fun (x1 : Sl × Unit) H1 =>
APP T_sl (lenV x1.1.v + 2) (aAppE E [27, 27] x1.1.v 2 [(.int .i64 (-77)), (.int .u8 0), (.int .u16 0), (.int .i64 0), (.int .i64 0), (.int .i64 (-77)), (.int .u8 0), (.int .u16 0), (.int .i64 0), (.int .i64 0)] H1) fun (x2 : Sl) H2 =>
CALL P [T_bool] n_kit_SameFeatures [a0.v, x2.v] H2 fun (x3 : Bool × Unit) H3 =>
Q (x3.1, ()) H3
def h_kit_KeptFeatures : Hnt := .leaf
theorem e_kit_KeptFeatures (a0 : Sl) (a1 : Sl) (H : Heap) (Q : Bool × Unit -> Heap -> Prop) : S_kit_KeptFeatures a0 a1 H Q = cFn C [10] Tryz.f24.ntmps Tryz.f24.results.toList [T_bool] (bodyOf Tryz.f24) h_kit_KeptFeatures [a0.v, a1.v] H Q := by kernel_rfl
theorem c_kit_KeptFeatures {a0 : Sl} {a1 : Sl} {H : Heap} {Q : Bool × Unit -> Heap -> Prop} (h : S_kit_KeptFeatures a0 a1 H Q) : CALL P [T_bool] n_kit_KeptFeatures [a0.v, a1.v] H Q := call_print hE Tryz.func24 rfl (by kernel_rfl) (e_kit_KeptFeatures a0 a1 H Q) h
def S_kit_ApartInts (a0 : Sl) (H : Heap) (Q : Bool × Unit -> Heap -> Prop) : Prop :=
JOIN (fun (j1 : (Sl × Unit) × (Unit) -> Heap -> Prop) =>
LOOP (fun (r3 : (Sl × Int × Unit) × (Unit) -> Heap -> Prop) (s4 : (Sl × Int × Unit) × (Unit)) H2 =>
ifB (decide (s4.1.2.1 < (a0.len : Int))) (
IDX a0.p a0.len s4.1.2.1 1 fun b5 o6 =>
LD T_sl H2 b5 o6 fun (x7 : Sl) =>
IDX a0.p a0.len s4.1.2.1 1 fun b8 o9 =>
LD T_sl H2 b8 o9 fun (x10 : Sl) =>
GENV (T_int .i64) (aCap E 35 x10.v H2) fun (x11 : Int) =>
LD T_sl H2 b5 o6 fun (x12 : Sl) =>
REQ (T_sl.enc x12 = x7.v) (
GENV T_sl (aSlice E 35 x7.v none (some (.int .i64 x11)) none H2) fun (x13 : Sl) =>
APP T_sl (lenV s4.1.1.v + 1) (aAppE E [60, 60] s4.1.1.v 1 [(.slice x13.p x13.len x13.cap)] H2) fun (x14 : Sl) H3 =>
r3 ((x14, IntKind.wrap .i64 (s4.1.2.1 + 1), ()), (())) H3)) (
j1 ((s4.1.1, ()), (())) H2)) (((Sl.mk none 0 0), 0, ()), (())) H) fun (y2 : (Sl × Unit) × (Unit)) H1 =>
JOIN (fun (j15 : (Unit) × (Unit) -> Heap -> Prop) =>
LOOP (fun (r17 : (Int × Unit) × (Unit) -> Heap -> Prop) (s18 : (Int × Unit) × (Unit)) H5 =>
ifB (decide (s18.1.1 < (y2.1.1.len : Int))) (
JOIN (fun (j19 : (Unit) × (Unit) -> Heap -> Prop) =>
JOIN (fun (j21 : (Unit) × (Unit) -> Heap -> Prop) =>
LOOP (fun (r23 : (Int × Unit) × (Unit) -> Heap -> Prop) (s24 : (Int × Unit) × (Unit)) H8 =>
IDX y2.1.1.p y2.1.1.len s18.1.1 1 fun b25 o26 =>
LD T_sl H8 b25 o26 fun (x27 : Sl) =>
ifB (decide (s24.1.1 < (x27.len : Int))) (
IDX y2.1.1.p y2.1.1.len s18.1.1 1 fun b28 o29 =>
LD T_sl H8 b28 o29 fun (x30 : Sl) =>
CALL P [(T_int .i64)] n_kit_markInts [(.int .i64 s18.1.1), (.int .i64 s24.1.1)] H8 fun (x31 : Int × Unit) H9 =>
LD T_sl H9 b28 o29 fun (x32 : Sl) =>
REQ (T_sl.enc x32 = x30.v) (
IDX x30.p x30.len s24.1.1 1 fun b33 o34 =>
ST H9 b33 o34 [(.int .i64 x31.1)] fun H10 =>
r23 ((IntKind.wrap .i64 (s24.1.1 + 1), ()), (())) H10)) (
j21 ((()), (())) H8)) ((0, ()), (())) H5) fun (y22 : (Unit) × (Unit)) H7 =>
j19 ((()), (())) H7) fun (y20 : (Unit) × (Unit)) H6 =>
r17 ((IntKind.wrap .i64 (s18.1.1 + 1), ()), (())) H6) (
j15 ((()), (())) H5)) ((0, ()), (())) H1) fun (y16 : (Unit) × (Unit)) H4 =>
JOIN (fun (j35 : (Unit) × (Unit) -> Heap -> Prop) =>
LOOP (fun (r37 : (Int × Unit) × (Unit) -> Heap -> Prop) (s38 : (Int × Unit) × (Unit)) H12 =>
ifB (decide (s38.1.1 < (y2.1.1.len : Int))) (
JOIN (fun (j39 : (Unit) × (Unit) -> Heap -> Prop) =>
JOIN (fun (j41 : (Unit) × (Unit) -> Heap -> Prop) =>
LOOP (fun (r43 : (Int × Unit) × (Unit) -> Heap -> Prop) (s44 : (Int × Unit) × (Unit)) H15 =>
IDX y2.1.1.p y2.1.1.len s38.1.1 1 fun b45 o46 =>
LD T_sl H15 b45 o46 fun (x47 : Sl) =>
ifB (decide (s44.1.1 < (x47.len : Int))) (
IDX y2.1.1.p y2.1.1.len s38.1.1 1 fun b48 o49 =>
LD T_sl H15 b48 o49 fun (x50 : Sl) =>
IDX x50.p x50.len s44.1.1 1 fun b51 o52 =>
LD (T_int .i64) H15 b51 o52 fun (x53 : Int) =>
CALL P [(T_int .i64)] n_kit_markInts [(.int .i64 s38.1.1), (.int .i64 s44.1.1)] H15 fun (x54 : Int × Unit) H16 =>
LD T_sl H16 b48 o49 fun (x55 : Sl) =>
REQ (T_sl.enc x55 = x50.v) (
LD (T_int .i64) H16 b51 o52 fun (x56 : Int) =>
REQ ((T_int .i64).enc x56 = (.int .i64 x53)) (
ifB (x53 != x54.1) (
Q (false, ()) H16) (
r43 ((IntKind.wrap .i64 (s44.1.1 + 1), ()), (())) H16)))) (
j41 ((()), (())) H15)) ((0, ()), (())) H12) fun (y42 : (Unit) × (Unit)) H14 =>
j39 ((()), (())) H14) fun (y40 : (Unit) × (Unit)) H13 =>
r37 ((IntKind.wrap .i64 (s38.1.1 + 1), ()), (())) H13) (
j35 ((()), (())) H12)) ((0, ()), (())) H4) fun (y36 : (Unit) × (Unit)) H11 =>
Q (true, ()) H11
def h_kit_ApartInts : Hnt := (.seq .leaf (.seq .leaf (.seq (.seq .leaf (.blk (some ⟨[(3, T_sl)], [], [4, 9, 10, 11, 12, 13, 14, 15, 16, 17, 18, 19, 20, 21, 22, 23, 24, 25, 26, 27]⟩) (.loop ⟨[(3, T_sl), (4, (T_int .i64))], [], [9, 10, 11, 12, 13, 14, 15, 16, 17, 18, 19, 20, 21, 22, 23, 24, 25, 26, 27]⟩ .leaf))) (.seq (.seq .leaf (.blk (some ⟨[], [], [5, 6, 28, 29, 30, 31, 32, 33, 34, 35, 36, 37, 38, 39, 40, 41, 42, 43, 44, 45, 46, 47, 48, 49, 50, 51]⟩) (.loop ⟨[(5, (T_int .i64))], [], [6, 28, 29, 30, 31, 32, 33, 34, 35, 36, 37, 38, 39, 40, 41, 42, 43, 44, 45, 46, 47, 48, 49, 50, 51]⟩ (.seq .leaf (.seq (.blk (some ⟨[], [], [6, 34, 35, 36, 37, 38, 39, 40, 41, 42, 43, 44, 45, 46, 47, 48, 49, 50, 51]⟩) (.seq .leaf (.blk (some ⟨[], [], [6, 34, 35, 36, 37, 38, 39, 40, 41, 42, 43, 44, 45, 46, 47, 48, 49, 50, 51]⟩) (.loop ⟨[(6, (T_int .i64))], [], [34, 35, 36, 37, 38, 39, 40, 41, 42, 43, 44, 45, 46, 47, 48, 49, 50, 51]⟩ .leaf)))) .leaf))))) (.seq (.seq .leaf (.blk (some ⟨[], [], [2, 7, 8, 52, 53, 54, 55, 56, 57, 58, 59, 60, 61, 62, 63, 64, 65, 66, 67, 68, 69, 70, 71, 72, 73, 74, 75, 76, 77]⟩) (.loop ⟨[(7, (T_int .i64))], [], [2, 8, 52, 53, 54, 55, 56, 57, 58, 59, 60, 61, 62, 63, 64, 65, 66, 67, 68, 69, 70, 71, 72, 73, 74, 75, 76, 77]⟩ (.seq .leaf (.seq (.blk (some ⟨[], [], [2, 8, 58, 59, 60, 61, 62, 63, 64, 65, 66, 67, 68, 69, 70, 71, 72, 73, 74, 75, 76, 77]⟩) (.seq .leaf (.blk (some ⟨[], [], [2, 8, 58, 59, 60, 61, 62, 63, 64, 65, 66, 67, 68, 69, 70, 71, 72, 73, 74, 75, 76, 77]⟩) (.loop ⟨[(8, (T_int .i64))], [], [2, 58, 59, 60, 61, 62, 63, 64, 65, 66, 67, 68, 69, 70, 71, 72, 73, 74, 75, 76, 77]⟩ .leaf)))) .leaf))))) .leaf)))))
theorem e_kit_ApartInts (a0 : Sl) (H : Heap) (Q : Bool × Unit -> Heap -> Prop) : S_kit_ApartInts a0 H Q = cFn C [26] Tryz.f25.ntmps Tryz.f25.results.toList [T_bool] (bodyOf Tryz.f25) h_kit_ApartInts [a0.v] H Q := by kernel_rfl
theorem c_kit_ApartInts {a0 : Sl} {H : Heap} {Q : Bool × Unit -> Heap -> Prop} (h : S_kit_ApartInts a0 H Q) : CALL P [T_bool] n_kit_ApartInts [a0.v] H Q := call_print hE Tryz.func25 rfl (by kernel_rfl) (e_kit_ApartInts a0 H Q) h
def S_law19_heavy (a0 : G_kit_Fill) (a1 : G_law19_Table) (H : Heap) (Q : Bool × Unit -> Heap -> Prop) : Prop :=
JOIN (fun (j1 : (Bool × Unit) × (Unit) -> Heap -> Prop) =>
ifB (decide ((a0.Cards.len : Int) > 80)) (
j1 ((true, ()), (())) H) (
ifB (decide ((a0.Marks.len : Int) > 20)) (
j1 ((true, ()), (())) H) (
ifB (decide ((a1.Things.len : Int) > 2100)) (
j1 ((true, ()), (())) H) (
j1 ((decide ((a1.Fs.len : Int) > 2100), ()), (())) H)))) fun (y2 : (Bool × Unit) × (Unit)) H1 =>
Q (y2.1.1, ()) H1
def h_law19_heavy : Hnt := (.seq .leaf (.seq (.reg ⟨[(4, T_bool)], [], [5, 6, 7, 8, 9, 10, 11, 12, 13, 14, 15, 16, 17, 18, 19, 20, 21, 22, 23, 24, 25, 26]⟩) .leaf))
theorem e_law19_heavy (a0 : G_kit_Fill) (a1 : G_law19_Table) (H : Heap) (Q : Bool × Unit -> Heap -> Prop) : S_law19_heavy a0 a1 H Q = cFn C [2, 3] Tryz.f27.ntmps Tryz.f27.results.toList [T_bool] (bodyOf Tryz.f27) h_law19_heavy [(T_G_kit_Fill.enc a0), (T_G_law19_Table.enc a1)] H Q := by kernel_rfl
theorem c_law19_heavy {a0 : G_kit_Fill} {a1 : G_law19_Table} {H : Heap} {Q : Bool × Unit -> Heap -> Prop} (h : S_law19_heavy a0 a1 H Q) : CALL P [T_bool] n_law19_heavy [(T_G_kit_Fill.enc a0), (T_G_law19_Table.enc a1)] H Q := call_print hE Tryz.func27 rfl (by kernel_rfl) (e_law19_heavy a0 a1 H Q) h
def S_kit_CopyThings (a0 : Sl) (H : Heap) (Q : Sl × Unit -> Heap -> Prop) : Prop :=
APP T_sl (lenV ((Sl.mk none 0 0)).v + (lenX a0.v).getD 0) (aAppendE E [26, 26] ((Sl.mk none 0 0)).v a0.v H) fun (x1 : Sl) H1 =>
Q (x1, ()) H1
def h_kit_CopyThings : Hnt := .leaf
theorem e_kit_CopyThings (a0 : Sl) (H : Heap) (Q : Sl × Unit -> Heap -> Prop) : S_kit_CopyThings a0 H Q = cFn C [] Tryz.f29.ntmps Tryz.f29.results.toList [T_sl] (bodyOf Tryz.f29) h_kit_CopyThings [a0.v] H Q := by kernel_rfl
theorem c_kit_CopyThings {a0 : Sl} {H : Heap} {Q : Sl × Unit -> Heap -> Prop} (h : S_kit_CopyThings a0 H Q) : CALL P [T_sl] n_kit_CopyThings [a0.v] H Q := call_print hE Tryz.func29 rfl (by kernel_rfl) (e_kit_CopyThings a0 H Q) h
def S_layer_All (a0 : Option Addr) (a1 : Sl) (a2 : Sl) (a3 : Int) (H : Heap) (Q : Sl × Sl × Int × Unit -> Heap -> Prop) : Prop :=
CALL P [T_sl, (T_int .i64)] n_layer_Effects [(.pointer a0), a1.v, a2.v, (.int .i64 a3)] H fun (x1 : Sl × Int × Unit) H1 =>
ifB (x1.2.1 != 0) (
Q ((Sl.mk none 0 0), (Sl.mk none 0 0), x1.2.1, ()) H1) (
CALL P [T_G_layer_place, (T_int .i64)] n_layer_setup [(.pointer a0), a1.v, a2.v] H1 fun (x2 : G_layer_place × Int × Unit) H2 =>
CALL P [T_sl] n_slices_Clone_api_Feature_api_Feature [a2.v] H2 fun (x3 : Sl × Unit) H3 =>
JOIN (fun (j4 : (Sl × Sl × Unit) × (Unit) -> Heap -> Prop) =>
LOOP (fun (r6 : (Sl × Sl × Sl × Unit) × (Unit) -> Heap -> Prop) (s7 : (Sl × Sl × Sl × Unit) × (Unit)) H5 =>
ifB (decide ((s7.1.1.len : Int) > 0)) (
CALL P [(T_int .i64)] n_layer_place_next [(T_G_layer_place.enc x2.1), s7.1.2.1.v, s7.1.1.v] H5 fun (x8 : Int × Unit) H6 =>
IDX s7.1.1.p s7.1.1.len x8.1 10 fun b9 o10 =>
LD T_G_api_Standing H6 b9 o10 fun (x11 : G_api_Standing) =>
CALL P [T_sl] n_layer_place_apply [(T_G_layer_place.enc x2.1), s7.1.2.1.v, (T_G_api_Standing.enc x11)] H6 fun (x12 : Sl × Unit) H7 =>
IDX s7.1.1.p s7.1.1.len x8.1 10 fun b13 o14 =>
LD T_G_api_Standing H7 b13 o14 fun (x15 : G_api_Standing) =>
APP T_sl (lenV s7.1.2.2.1.v + 1) (aAppE E [66, 66] s7.1.2.2.1.v 1 (T_G_api_Standing.cells x15) H7) fun (x16 : Sl) H8 =>
CALL P [T_sl] n_slices_Clone_api_Standing_api_Standing [s7.1.1.v] H8 fun (x17 : Sl × Unit) H9 =>
CALL P [T_sl] n_slices_Delete_api_Standing_api_Standing [x17.1.v, (.int .i64 x8.1), (.int .i64 (IntKind.wrap .i64 (x8.1 + 1)))] H9 fun (x18 : Sl × Unit) H10 =>
r6 ((x18.1, x12.1, x16, ()), (())) H10) (
j4 ((s7.1.2.1, s7.1.2.2.1, ()), (())) H5)) ((x1.1, x3.1, (Sl.mk none 0 0), ()), (())) H3) fun (y5 : (Sl × Sl × Unit) × (Unit)) H4 =>
Q (y5.1.1, y5.1.2.1, 0, ()) H4)
def h_layer_All : Hnt := (.seq .leaf (.seq .leaf (.seq .leaf (.seq .leaf (.seq .leaf (.seq .leaf (.seq (.blk (some ⟨[(15, T_sl), (16, T_sl)], [], [11, 17, 38, 39, 40, 41, 42, 43, 44, 45, 46, 47, 48, 49, 50, 51, 52, 53, 54, 55, 56, 57, 58, 59, 60, 61, 62, 63, 64]⟩) (.loop ⟨[(11, T_sl), (15, T_sl), (16, T_sl)], [], [17, 38, 39, 40, 41, 42, 43, 44, 45, 46, 47, 48, 49, 50, 51, 52, 53, 54, 55, 56, 57, 58, 59, 60, 61, 62, 63, 64]⟩ .leaf)) .leaf)))))))
theorem e_layer_All (a0 : Option Addr) (a1 : Sl) (a2 : Sl) (a3 : Int) (H : Heap) (Q : Sl × Sl × Int × Unit -> Heap -> Prop) : S_layer_All a0 a1 a2 a3 H Q = cFn C [13, 57] Tryz.f30.ntmps Tryz.f30.results.toList [T_sl, T_sl, (T_int .i64)] (bodyOf Tryz.f30) h_layer_All [(.pointer a0), a1.v, a2.v, (.int .i64 a3)] H Q := by kernel_rfl
theorem c_layer_All {a0 : Option Addr} {a1 : Sl} {a2 : Sl} {a3 : Int} {H : Heap} {Q : Sl × Sl × Int × Unit -> Heap -> Prop} (h : S_layer_All a0 a1 a2 a3 H Q) : CALL P [T_sl, T_sl, (T_int .i64)] n_layer_All [(.pointer a0), a1.v, a2.v, (.int .i64 a3)] H Q := call_print hE Tryz.func30 rfl (by kernel_rfl) (e_layer_All a0 a1 a2 a3 H Q) h
def S_kit_SameFeatures (a0 : Sl) (a1 : Sl) (H : Heap) (Q : Bool × Unit -> Heap -> Prop) : Prop :=
ifB ((a0.len : Int) != (a1.len : Int)) (
Q (false, ()) H) (
JOIN (fun (j1 : (Unit) × (Unit) -> Heap -> Prop) =>
LOOP (fun (r3 : (Int × Unit) × (Unit) -> Heap -> Prop) (s4 : (Int × Unit) × (Unit)) H2 =>
ifB (decide (s4.1.1 < (a0.len : Int))) (
IDX a0.p a0.len s4.1.1 5 fun b5 o6 =>
LD T_G_api_Feature H2 b5 o6 fun (x7 : G_api_Feature) =>
IDX a1.p a1.len s4.1.1 5 fun b8 o9 =>
LD T_G_api_Feature H2 b8 o9 fun (x10 : G_api_Feature) =>
ifB (!((x7.Holder == x10.Holder) && ((x7.Suit == x10.Suit) && ((x7.Traits == x10.Traits) && ((x7.Power == x10.Power) && ((x7.Health == x10.Health) && true)))))) (
Q (false, ()) H2) (
r3 ((IntKind.wrap .i64 (s4.1.1 + 1), ()), (())) H2)) (
j1 ((()), (())) H2)) ((0, ()), (())) H) fun (y2 : (Unit) × (Unit)) H1 =>
Q (true, ()) H1)
def h_kit_SameFeatures : Hnt := (.seq .leaf (.seq .leaf (.seq (.seq .leaf (.blk (some ⟨[], [], [4, 5, 11, 12, 13, 14, 15, 16, 17, 18, 19, 20, 21, 22, 23, 24, 25]⟩) (.loop ⟨[(5, (T_int .i64))], [], [4, 11, 12, 13, 14, 15, 16, 17, 18, 19, 20, 21, 22, 23, 24, 25]⟩ .leaf))) .leaf)))
theorem e_kit_SameFeatures (a0 : Sl) (a1 : Sl) (H : Heap) (Q : Bool × Unit -> Heap -> Prop) : S_kit_SameFeatures a0 a1 H Q = cFn C [] Tryz.f31.ntmps Tryz.f31.results.toList [T_bool] (bodyOf Tryz.f31) h_kit_SameFeatures [a0.v, a1.v] H Q := by kernel_rfl
theorem c_kit_SameFeatures {a0 : Sl} {a1 : Sl} {H : Heap} {Q : Bool × Unit -> Heap -> Prop} (h : S_kit_SameFeatures a0 a1 H Q) : CALL P [T_bool] n_kit_SameFeatures [a0.v, a1.v] H Q := call_print hE Tryz.func31 rfl (by kernel_rfl) (e_kit_SameFeatures a0 a1 H Q) h
def S_kit_SameStandings (a0 : Sl) (a1 : Sl) (H : Heap) (Q : Bool × Unit -> Heap -> Prop) : Prop :=
ifB ((a0.len : Int) != (a1.len : Int)) (
Q (false, ()) H) (
JOIN (fun (j1 : (Unit) × (Unit) -> Heap -> Prop) =>
LOOP (fun (r3 : (Int × Unit) × (Unit) -> Heap -> Prop) (s4 : (Int × Unit) × (Unit)) H2 =>
ifB (decide (s4.1.1 < (a0.len : Int))) (
IDX a0.p a0.len s4.1.1 10 fun b5 o6 =>
LD T_G_api_Standing H2 b5 o6 fun (x7 : G_api_Standing) =>
IDX a1.p a1.len s4.1.1 10 fun b8 o9 =>
LD T_G_api_Standing H2 b8 o9 fun (x10 : G_api_Standing) =>
ifB (!((x7.Thing == x10.Thing) && ((x7.Place == x10.Place) && (((x7.What.When == x10.What.When) && ((x7.What.Verb == x10.What.Verb) && ((x7.What.Whom == x10.What.Whom) && ((x7.What.Count == x10.What.Count) && ((x7.What.Suit == x10.What.Suit) && ((x7.What.Trait == x10.What.Trait) && ((x7.What.Mark == x10.What.Mark) && ((x7.What.Name.toList == x10.What.Name.toList) && true)))))))) && true)))) (
Q (false, ()) H2) (
r3 ((IntKind.wrap .i64 (s4.1.1 + 1), ()), (())) H2)) (
j1 ((()), (())) H2)) ((0, ()), (())) H) fun (y2 : (Unit) × (Unit)) H1 =>
Q (true, ()) H1)
def h_kit_SameStandings : Hnt := (.seq .leaf (.seq .leaf (.seq (.seq .leaf (.blk (some ⟨[], [], [4, 5, 11, 12, 13, 14, 15, 16, 17, 18, 19, 20, 21, 22, 23, 24, 25]⟩) (.loop ⟨[(5, (T_int .i64))], [], [4, 11, 12, 13, 14, 15, 16, 17, 18, 19, 20, 21, 22, 23, 24, 25]⟩ .leaf))) .leaf)))
theorem e_kit_SameStandings (a0 : Sl) (a1 : Sl) (H : Heap) (Q : Bool × Unit -> Heap -> Prop) : S_kit_SameStandings a0 a1 H Q = cFn C [] Tryz.f32.ntmps Tryz.f32.results.toList [T_bool] (bodyOf Tryz.f32) h_kit_SameStandings [a0.v, a1.v] H Q := by kernel_rfl
theorem c_kit_SameStandings {a0 : Sl} {a1 : Sl} {H : Heap} {Q : Bool × Unit -> Heap -> Prop} (h : S_kit_SameStandings a0 a1 H Q) : CALL P [T_bool] n_kit_SameStandings [a0.v, a1.v] H Q := call_print hE Tryz.func32 rfl (by kernel_rfl) (e_kit_SameStandings a0 a1 H Q) h
def S_layer_Effects (a0 : Option Addr) (a1 : Sl) (a2 : Sl) (a3 : Int) (H : Heap) (Q : Sl × Int × Unit -> Heap -> Prop) : Prop :=
CALL P [T_G_layer_place, (T_int .i64)] n_layer_setup [(.pointer a0), a1.v, a2.v] H fun (x1 : G_layer_place × Int × Unit) H1 =>
ifB (x1.2.1 != 0) (
Q ((Sl.mk none 0 0), x1.2.1, ()) H1) (
JOIN (fun (j2 : (Bool × Unit) × (Unit) -> Heap -> Prop) =>
ifB (decide (a3 < 1)) (
j2 ((true, ()), (())) H1) (
j2 ((decide (a3 > 5), ()), (())) H1)) fun (y3 : (Bool × Unit) × (Unit)) H2 =>
ifB y3.1.1 (
Q ((Sl.mk none 0 0), 2, ()) H2) (
CALL P [T_sl] n_layer_place_effects [(T_G_layer_place.enc x1.1), a2.v, (.int .i64 a3)] H2 fun (x4 : Sl × Unit) H3 =>
Q (x4.1, 0, ()) H3))
def h_layer_Effects : Hnt := (.seq .leaf (.seq .leaf (.seq (.blk none (.seq .leaf (.cond none .leaf (.seq (.reg ⟨[(23, T_bool)], [], [24, 25, 26, 27, 28, 29]⟩) .leaf)))) .leaf)))
theorem e_layer_Effects (a0 : Option Addr) (a1 : Sl) (a2 : Sl) (a3 : Int) (H : Heap) (Q : Sl × Int × Unit -> Heap -> Prop) : S_layer_Effects a0 a1 a2 a3 H Q = cFn C [10] Tryz.f33.ntmps Tryz.f33.results.toList [T_sl, (T_int .i64)] (bodyOf Tryz.f33) h_layer_Effects [(.pointer a0), a1.v, a2.v, (.int .i64 a3)] H Q := by kernel_rfl
theorem c_layer_Effects {a0 : Option Addr} {a1 : Sl} {a2 : Sl} {a3 : Int} {H : Heap} {Q : Sl × Int × Unit -> Heap -> Prop} (h : S_layer_Effects a0 a1 a2 a3 H Q) : CALL P [T_sl, (T_int .i64)] n_layer_Effects [(.pointer a0), a1.v, a2.v, (.int .i64 a3)] H Q := call_print hE Tryz.func33 rfl (by kernel_rfl) (e_layer_Effects a0 a1 a2 a3 H Q) h
def S_layer_About (a0 : Option Addr) (a1 : Sl) (a2 : Sl) (a3 : G_api_Standing) (H : Heap) (Q : Sl × Int × Unit -> Heap -> Prop) : Prop :=
CALL P [T_G_layer_place, (T_int .i64)] n_layer_setup [(.pointer a0), a1.v, a2.v] H fun (x1 : G_layer_place × Int × Unit) H1 =>
ifB (x1.2.1 != 0) (
Q ((Sl.mk none 0 0), x1.2.1, ()) H1) (
CALL P [T_bool] n_layer_place_may [(T_G_layer_place.enc x1.1), (T_G_api_Standing.enc a3)] H1 fun (x2 : Bool × Unit) H2 =>
ifB (!x2.1) (
Q ((Sl.mk none 0 0), 2, ()) H2) (
CALL P [T_sl] n_layer_place_about [(T_G_layer_place.enc x1.1), a2.v, (T_G_api_Standing.enc a3)] H2 fun (x3 : Sl × Unit) H3 =>
Q (x3.1, 0, ()) H3))
def h_layer_About : Hnt := .leaf
theorem e_layer_About (a0 : Option Addr) (a1 : Sl) (a2 : Sl) (a3 : G_api_Standing) (H : Heap) (Q : Sl × Int × Unit -> Heap -> Prop) : S_layer_About a0 a1 a2 a3 H Q = cFn C [7, 10] Tryz.f34.ntmps Tryz.f34.results.toList [T_sl, (T_int .i64)] (bodyOf Tryz.f34) h_layer_About [(.pointer a0), a1.v, a2.v, (T_G_api_Standing.enc a3)] H Q := by kernel_rfl
theorem c_layer_About {a0 : Option Addr} {a1 : Sl} {a2 : Sl} {a3 : G_api_Standing} {H : Heap} {Q : Sl × Int × Unit -> Heap -> Prop} (h : S_layer_About a0 a1 a2 a3 H Q) : CALL P [T_sl, (T_int .i64)] n_layer_About [(.pointer a0), a1.v, a2.v, (T_G_api_Standing.enc a3)] H Q := call_print hE Tryz.func34 rfl (by kernel_rfl) (e_layer_About a0 a1 a2 a3 H Q) h
def S_layer_Apply (a0 : Option Addr) (a1 : Sl) (a2 : Sl) (a3 : G_api_Standing) (H : Heap) (Q : Sl × Int × Unit -> Heap -> Prop) : Prop :=
CALL P [T_G_layer_place, (T_int .i64)] n_layer_setup [(.pointer a0), a1.v, a2.v] H fun (x1 : G_layer_place × Int × Unit) H1 =>
ifB (x1.2.1 != 0) (
Q ((Sl.mk none 0 0), x1.2.1, ()) H1) (
CALL P [T_bool] n_layer_place_may [(T_G_layer_place.enc x1.1), (T_G_api_Standing.enc a3)] H1 fun (x2 : Bool × Unit) H2 =>
ifB (!x2.1) (
Q ((Sl.mk none 0 0), 2, ()) H2) (
CALL P [T_sl] n_layer_place_apply [(T_G_layer_place.enc x1.1), a2.v, (T_G_api_Standing.enc a3)] H2 fun (x3 : Sl × Unit) H3 =>
Q (x3.1, 0, ()) H3))
def h_layer_Apply : Hnt := .leaf
theorem e_layer_Apply (a0 : Option Addr) (a1 : Sl) (a2 : Sl) (a3 : G_api_Standing) (H : Heap) (Q : Sl × Int × Unit -> Heap -> Prop) : S_layer_Apply a0 a1 a2 a3 H Q = cFn C [7, 10] Tryz.f35.ntmps Tryz.f35.results.toList [T_sl, (T_int .i64)] (bodyOf Tryz.f35) h_layer_Apply [(.pointer a0), a1.v, a2.v, (T_G_api_Standing.enc a3)] H Q := by kernel_rfl
theorem c_layer_Apply {a0 : Option Addr} {a1 : Sl} {a2 : Sl} {a3 : G_api_Standing} {H : Heap} {Q : Sl × Int × Unit -> Heap -> Prop} (h : S_layer_Apply a0 a1 a2 a3 H Q) : CALL P [T_sl, (T_int .i64)] n_layer_Apply [(.pointer a0), a1.v, a2.v, (T_G_api_Standing.enc a3)] H Q := call_print hE Tryz.func35 rfl (by kernel_rfl) (e_layer_Apply a0 a1 a2 a3 H Q) h
def S_kit_CopyFeatures (a0 : Sl) (H : Heap) (Q : Sl × Unit -> Heap -> Prop) : Prop :=
APP T_sl (lenV ((Sl.mk none 0 0)).v + (lenX a0.v).getD 0) (aAppendE E [27, 27] ((Sl.mk none 0 0)).v a0.v H) fun (x1 : Sl) H1 =>
Q (x1, ()) H1
def h_kit_CopyFeatures : Hnt := .leaf
theorem e_kit_CopyFeatures (a0 : Sl) (H : Heap) (Q : Sl × Unit -> Heap -> Prop) : S_kit_CopyFeatures a0 H Q = cFn C [] Tryz.f37.ntmps Tryz.f37.results.toList [T_sl] (bodyOf Tryz.f37) h_kit_CopyFeatures [a0.v] H Q := by kernel_rfl
theorem c_kit_CopyFeatures {a0 : Sl} {H : Heap} {Q : Sl × Unit -> Heap -> Prop} (h : S_kit_CopyFeatures a0 H Q) : CALL P [T_sl] n_kit_CopyFeatures [a0.v] H Q := call_print hE Tryz.func37 rfl (by kernel_rfl) (e_kit_CopyFeatures a0 H Q) h
def S_layer_Next (a0 : Option Addr) (a1 : Sl) (a2 : Sl) (a3 : Sl) (H : Heap) (Q : Int × Int × Unit -> Heap -> Prop) : Prop :=
CALL P [T_G_layer_place, (T_int .i64)] n_layer_setup [(.pointer a0), a1.v, a2.v] H fun (x1 : G_layer_place × Int × Unit) H1 =>
ifB (x1.2.1 != 0) (
Q (0, x1.2.1, ()) H1) (
CALL P [T_bool] n_layer_place_listed [(T_G_layer_place.enc x1.1), a3.v] H1 fun (x2 : Bool × Unit) H2 =>
ifB (!x2.1) (
Q (0, 2, ()) H2) (
CALL P [(T_int .i64)] n_layer_place_next [(T_G_layer_place.enc x1.1), a2.v, a3.v] H2 fun (x3 : Int × Unit) H3 =>
Q (x3.1, 0, ()) H3))
def h_layer_Next : Hnt := .leaf
theorem e_layer_Next (a0 : Option Addr) (a1 : Sl) (a2 : Sl) (a3 : Sl) (H : Heap) (Q : Int × Int × Unit -> Heap -> Prop) : S_layer_Next a0 a1 a2 a3 H Q = cFn C [10] Tryz.f38.ntmps Tryz.f38.results.toList [(T_int .i64), (T_int .i64)] (bodyOf Tryz.f38) h_layer_Next [(.pointer a0), a1.v, a2.v, a3.v] H Q := by kernel_rfl
theorem c_layer_Next {a0 : Option Addr} {a1 : Sl} {a2 : Sl} {a3 : Sl} {H : Heap} {Q : Int × Int × Unit -> Heap -> Prop} (h : S_layer_Next a0 a1 a2 a3 H Q) : CALL P [(T_int .i64), (T_int .i64)] n_layer_Next [(.pointer a0), a1.v, a2.v, a3.v] H Q := call_print hE Tryz.func38 rfl (by kernel_rfl) (e_layer_Next a0 a1 a2 a3 H Q) h
def S_effect_Layer (a0 : Int) (H : Heap) (Q : Int × Unit -> Heap -> Prop) : Prop :=
ifB (a0 == 10) (
Q (1, ()) H) (
ifB (a0 == 11) (
Q (2, ()) H) (
JOIN (fun (j1 : (Bool × Unit) × (Unit) -> Heap -> Prop) =>
ifB (a0 == 12) (
j1 ((a0 == 12, ()), (())) H) (
j1 ((a0 == 13, ()), (())) H)) fun (y2 : (Bool × Unit) × (Unit)) H1 =>
ifB y2.1.1 (
Q (3, ()) H1) (
ifB (a0 == 14) (
Q (4, ()) H1) (
ifB (a0 == 15) (
Q (5, ()) H1) (
Q (0, ()) H1)))))
def h_effect_Layer : Hnt := (.seq .leaf (.seq (.seq .leaf (.blk none (.seq .leaf (.cond none .leaf (.seq .leaf (.cond none .leaf (.seq (.seq .leaf (.cond (some ⟨[(8, T_bool)], [], [10]⟩) .leaf .leaf)) .leaf))))))) .leaf))
theorem e_effect_Layer (a0 : Int) (H : Heap) (Q : Int × Unit -> Heap -> Prop) : S_effect_Layer a0 H Q = cFn C [] Tryz.f39.ntmps Tryz.f39.results.toList [(T_int .i64)] (bodyOf Tryz.f39) h_effect_Layer [(.int .u8 a0)] H Q := by kernel_rfl
theorem c_effect_Layer {a0 : Int} {H : Heap} {Q : Int × Unit -> Heap -> Prop} (h : S_effect_Layer a0 H Q) : CALL P [(T_int .i64)] n_effect_Layer [(.int .u8 a0)] H Q := call_print hE Tryz.func39 rfl (by kernel_rfl) (e_effect_Layer a0 H Q) h
def S_layer_Depends (a0 : Option Addr) (a1 : Sl) (a2 : Sl) (a3 : G_api_Standing) (a4 : G_api_Standing) (H : Heap) (Q : Bool × Int × Unit -> Heap -> Prop) : Prop :=
CALL P [T_G_layer_place, (T_int .i64)] n_layer_setup [(.pointer a0), a1.v, a2.v] H fun (x1 : G_layer_place × Int × Unit) H1 =>
ifB (x1.2.1 != 0) (
Q (false, x1.2.1, ()) H1) (
NEW H1 [(.int .i64 a3.Thing), (.int .i64 a3.Place), (.int .u8 a3.What.When), (.int .u8 a3.What.Verb), (.int .u8 a3.What.Whom), (.int .i64 a3.What.Count), (.int .u8 a3.What.Suit), (.int .u8 a3.What.Trait), (.int .u8 a3.What.Mark), (.string a3.What.Name), (.int .i64 a4.Thing), (.int .i64 a4.Place), (.int .u8 a4.What.When), (.int .u8 a4.What.Verb), (.int .u8 a4.What.Whom), (.int .i64 a4.What.Count), (.int .u8 a4.What.Suit), (.int .u8 a4.What.Trait), (.int .u8 a4.What.Mark), (.string a4.What.Name)] 10 fun H2 =>
CALL P [T_bool] n_layer_place_listed [(T_G_layer_place.enc x1.1), ((Sl.mk (some ⟨H1.length, 0, none⟩) 2 2)).v] H2 fun (x2 : Bool × Unit) H3 =>
ifB (!x2.1) (
Q (false, 2, ()) H3) (
CALL P [T_bool] n_layer_place_depends [(T_G_layer_place.enc x1.1), a2.v, (T_G_api_Standing.enc a3), (T_G_api_Standing.enc a4)] H3 fun (x3 : Bool × Unit) H4 =>
Q (x3.1, 0, ()) H4))
def h_layer_Depends : Hnt := .leaf
theorem e_layer_Depends (a0 : Option Addr) (a1 : Sl) (a2 : Sl) (a3 : G_api_Standing) (a4 : G_api_Standing) (H : Heap) (Q : Bool × Int × Unit -> Heap -> Prop) : S_layer_Depends a0 a1 a2 a3 a4 H Q = cFn C [8, 9, 12] Tryz.f41.ntmps Tryz.f41.results.toList [T_bool, (T_int .i64)] (bodyOf Tryz.f41) h_layer_Depends [(.pointer a0), a1.v, a2.v, (T_G_api_Standing.enc a3), (T_G_api_Standing.enc a4)] H Q := by kernel_rfl
theorem c_layer_Depends {a0 : Option Addr} {a1 : Sl} {a2 : Sl} {a3 : G_api_Standing} {a4 : G_api_Standing} {H : Heap} {Q : Bool × Int × Unit -> Heap -> Prop} (h : S_layer_Depends a0 a1 a2 a3 a4 H Q) : CALL P [T_bool, (T_int .i64)] n_layer_Depends [(.pointer a0), a1.v, a2.v, (T_G_api_Standing.enc a3), (T_G_api_Standing.enc a4)] H Q := call_print hE Tryz.func41 rfl (by kernel_rfl) (e_layer_Depends a0 a1 a2 a3 a4 H Q) h
def S_kit_LentStandings (a0 : Sl) (H : Heap) (Q : Sl × Unit -> Heap -> Prop) : Prop :=
GEN T_sl (aMakeSlice E 66 (.int .i64 0) (.int .i64 (IntKind.wrap .i64 ((a0.len : Int) + 2))) H) fun (x1 : Sl) H1 =>
APP T_sl (lenV x1.v + (lenX a0.v).getD 0) (aAppendE E [66, 66] x1.v a0.v H1) fun (x2 : Sl) H2 =>
APP T_sl (lenV x2.v + 2) (aAppE E [66, 66] x2.v 2 [(.int .i64 (-77)), (.int .i64 0), (.int .u8 0), (.int .u8 0), (.int .u8 0), (.int .i64 0), (.int .u8 0), (.int .u8 0), (.int .u8 0), (.string (ByteArray.mk #[])), (.int .i64 (-77)), (.int .i64 0), (.int .u8 0), (.int .u8 0), (.int .u8 0), (.int .i64 0), (.int .u8 0), (.int .u8 0), (.int .u8 0), (.string (ByteArray.mk #[]))] H2) fun (x3 : Sl) H3 =>
Q (x3, ()) H3
def h_kit_LentStandings : Hnt := .leaf
theorem e_kit_LentStandings (a0 : Sl) (H : Heap) (Q : Sl × Unit -> Heap -> Prop) : S_kit_LentStandings a0 H Q = cFn C [14] Tryz.f42.ntmps Tryz.f42.results.toList [T_sl] (bodyOf Tryz.f42) h_kit_LentStandings [a0.v] H Q := by kernel_rfl
theorem c_kit_LentStandings {a0 : Sl} {H : Heap} {Q : Sl × Unit -> Heap -> Prop} (h : S_kit_LentStandings a0 H Q) : CALL P [T_sl] n_kit_LentStandings [a0.v] H Q := call_print hE Tryz.func42 rfl (by kernel_rfl) (e_kit_LentStandings a0 H Q) h
def S_ref19_Next (a0 : Option Addr) (a1 : Sl) (a2 : Sl) (a3 : Sl) (H : Heap) (Q : Int × Int × Unit -> Heap -> Prop) : Prop :=
CALL P [(T_int .i64)] n_ref19_wrong [(.pointer a0), a1.v, a2.v] H fun (x1 : Int × Unit) H1 =>
ifB (x1.1 != 0) (
Q (0, x1.1, ()) H1) (
CALL P [T_bool] n_ref19_listed [(.pointer a0), a1.v, a3.v] H1 fun (x2 : Bool × Unit) H2 =>
ifB (!x2.1) (
Q (0, 2, ()) H2) (
ifB ((a3.len : Int) == 0) (
Q ((-1), 0, ()) H2) (
CALL P [(T_int .i64)] n_ref19_next [(.pointer a0), a1.v, a2.v, a3.v] H2 fun (x3 : Int × Unit) H3 =>
Q (x3.1, 0, ()) H3)))
def h_ref19_Next : Hnt := .leaf
theorem e_ref19_Next (a0 : Option Addr) (a1 : Sl) (a2 : Sl) (a3 : Sl) (H : Heap) (Q : Int × Int × Unit -> Heap -> Prop) : S_ref19_Next a0 a1 a2 a3 H Q = cFn C [] Tryz.f43.ntmps Tryz.f43.results.toList [(T_int .i64), (T_int .i64)] (bodyOf Tryz.f43) h_ref19_Next [(.pointer a0), a1.v, a2.v, a3.v] H Q := by kernel_rfl
theorem c_ref19_Next {a0 : Option Addr} {a1 : Sl} {a2 : Sl} {a3 : Sl} {H : Heap} {Q : Int × Int × Unit -> Heap -> Prop} (h : S_ref19_Next a0 a1 a2 a3 H Q) : CALL P [(T_int .i64), (T_int .i64)] n_ref19_Next [(.pointer a0), a1.v, a2.v, a3.v] H Q := call_print hE Tryz.func43 rfl (by kernel_rfl) (e_ref19_Next a0 a1 a2 a3 H Q) h
def S_ref19_Effects (a0 : Option Addr) (a1 : Sl) (a2 : Sl) (a3 : Int) (H : Heap) (Q : Sl × Int × Unit -> Heap -> Prop) : Prop :=
CALL P [(T_int .i64)] n_ref19_wrong [(.pointer a0), a1.v, a2.v] H fun (x1 : Int × Unit) H1 =>
ifB (x1.1 != 0) (
Q ((Sl.mk none 0 0), x1.1, ()) H1) (
JOIN (fun (j2 : (Bool × Unit) × (Unit) -> Heap -> Prop) =>
ifB (decide (a3 < 1)) (
j2 ((true, ()), (())) H1) (
j2 ((decide (a3 > 5), ()), (())) H1)) fun (y3 : (Bool × Unit) × (Unit)) H2 =>
ifB y3.1.1 (
Q ((Sl.mk none 0 0), 2, ()) H2) (
CALL P [T_sl] n_ref19_effects [(.pointer a0), a1.v, a2.v, (.int .i64 a3)] H2 fun (x4 : Sl × Unit) H3 =>
Q (x4.1, 0, ()) H3))
def h_ref19_Effects : Hnt := (.seq .leaf (.seq .leaf (.seq .leaf (.seq (.seq (.reg ⟨[(23, T_bool)], [], [18, 19, 20, 21, 22]⟩) .leaf) .leaf))))
theorem e_ref19_Effects (a0 : Option Addr) (a1 : Sl) (a2 : Sl) (a3 : Int) (H : Heap) (Q : Sl × Int × Unit -> Heap -> Prop) : S_ref19_Effects a0 a1 a2 a3 H Q = cFn C [] Tryz.f44.ntmps Tryz.f44.results.toList [T_sl, (T_int .i64)] (bodyOf Tryz.f44) h_ref19_Effects [(.pointer a0), a1.v, a2.v, (.int .i64 a3)] H Q := by kernel_rfl
theorem c_ref19_Effects {a0 : Option Addr} {a1 : Sl} {a2 : Sl} {a3 : Int} {H : Heap} {Q : Sl × Int × Unit -> Heap -> Prop} (h : S_ref19_Effects a0 a1 a2 a3 H Q) : CALL P [T_sl, (T_int .i64)] n_ref19_Effects [(.pointer a0), a1.v, a2.v, (.int .i64 a3)] H Q := call_print hE Tryz.func44 rfl (by kernel_rfl) (e_ref19_Effects a0 a1 a2 a3 H Q) h
def S_ref19_All (a0 : Option Addr) (a1 : Sl) (a2 : Sl) (a3 : Int) (H : Heap) (Q : Sl × Sl × Int × Unit -> Heap -> Prop) : Prop :=
CALL P [T_sl, (T_int .i64)] n_ref19_Effects [(.pointer a0), a1.v, a2.v, (.int .i64 a3)] H fun (x1 : Sl × Int × Unit) H1 =>
ifB (x1.2.1 != 0) (
Q ((Sl.mk none 0 0), (Sl.mk none 0 0), x1.2.1, ()) H1) (
APP T_sl (lenV ((Sl.mk none 0 0)).v + (lenX a2.v).getD 0) (aAppendE E [27, 27] ((Sl.mk none 0 0)).v a2.v H1) fun (x2 : Sl) H2 =>
JOIN (fun (j3 : (Sl × Sl × Unit) × (Unit) -> Heap -> Prop) =>
LOOP (fun (r5 : (Sl × Sl × Sl × Unit) × (Unit) -> Heap -> Prop) (s6 : (Sl × Sl × Sl × Unit) × (Unit)) H4 =>
ifB (decide ((s6.1.1.len : Int) > 0)) (
CALL P [(T_int .i64)] n_ref19_next [(.pointer a0), a1.v, s6.1.2.1.v, s6.1.1.v] H4 fun (x7 : Int × Unit) H5 =>
IDX s6.1.1.p s6.1.1.len x7.1 10 fun b8 o9 =>
LD T_G_api_Standing H5 b8 o9 fun (x10 : G_api_Standing) =>
CALL P [T_sl] n_ref19_apply [(.pointer a0), a1.v, s6.1.2.1.v, (T_G_api_Standing.enc x10)] H5 fun (x11 : Sl × Unit) H6 =>
IDX s6.1.1.p s6.1.1.len x7.1 10 fun b12 o13 =>
LD T_G_api_Standing H6 b12 o13 fun (x14 : G_api_Standing) =>
APP T_sl (lenV s6.1.2.2.1.v + 1) (aAppE E [66, 66] s6.1.2.2.1.v 1 (T_G_api_Standing.cells x14) H6) fun (x15 : Sl) H7 =>
GENV T_sl (aSlice E 66 s6.1.1.v none (some (.int .i64 x7.1)) none H7) fun (x16 : Sl) =>
APP T_sl (lenV ((Sl.mk none 0 0)).v + (lenX x16.v).getD 0) (aAppendE E [66, 66] ((Sl.mk none 0 0)).v x16.v H7) fun (x17 : Sl) H8 =>
GENV T_sl (aSlice E 66 s6.1.1.v (some (.int .i64 (IntKind.wrap .i64 (x7.1 + 1)))) none none H8) fun (x18 : Sl) =>
APP T_sl (lenV x17.v + (lenX x18.v).getD 0) (aAppendE E [66, 66] x17.v x18.v H8) fun (x19 : Sl) H9 =>
r5 ((x19, x11.1, x15, ()), (())) H9) (
j3 ((s6.1.2.1, s6.1.2.2.1, ()), (())) H4)) ((x1.1, x2, (Sl.mk none 0 0), ()), (())) H2) fun (y4 : (Sl × Sl × Unit) × (Unit)) H3 =>
Q (y4.1.1, y4.1.2.1, 0, ()) H3)
def h_ref19_All : Hnt := (.seq .leaf (.seq .leaf (.seq .leaf (.seq .leaf (.seq .leaf (.seq .leaf (.seq (.blk (some ⟨[(13, T_sl), (14, T_sl)], [], [11, 15, 16, 31, 32, 33, 34, 35, 36, 37, 38, 39, 40, 41, 42, 43, 44, 45, 46, 47, 48, 49, 50, 51, 52, 53, 54, 55, 56, 57, 58, 59, 60, 61, 62, 63, 64]⟩) (.loop ⟨[(11, T_sl), (13, T_sl), (14, T_sl)], [], [15, 16, 31, 32, 33, 34, 35, 36, 37, 38, 39, 40, 41, 42, 43, 44, 45, 46, 47, 48, 49, 50, 51, 52, 53, 54, 55, 56, 57, 58, 59, 60, 61, 62, 63, 64]⟩ .leaf)) .leaf)))))))
theorem e_ref19_All (a0 : Option Addr) (a1 : Sl) (a2 : Sl) (a3 : Int) (H : Heap) (Q : Sl × Sl × Int × Unit -> Heap -> Prop) : S_ref19_All a0 a1 a2 a3 H Q = cFn C [52] Tryz.f45.ntmps Tryz.f45.results.toList [T_sl, T_sl, (T_int .i64)] (bodyOf Tryz.f45) h_ref19_All [(.pointer a0), a1.v, a2.v, (.int .i64 a3)] H Q := by kernel_rfl
theorem c_ref19_All {a0 : Option Addr} {a1 : Sl} {a2 : Sl} {a3 : Int} {H : Heap} {Q : Sl × Sl × Int × Unit -> Heap -> Prop} (h : S_ref19_All a0 a1 a2 a3 H Q) : CALL P [T_sl, T_sl, (T_int .i64)] n_ref19_All [(.pointer a0), a1.v, a2.v, (.int .i64 a3)] H Q := call_print hE Tryz.func45 rfl (by kernel_rfl) (e_ref19_All a0 a1 a2 a3 H Q) h
def S_kit_CopyStandings (a0 : Sl) (H : Heap) (Q : Sl × Unit -> Heap -> Prop) : Prop :=
APP T_sl (lenV ((Sl.mk none 0 0)).v + (lenX a0.v).getD 0) (aAppendE E [66, 66] ((Sl.mk none 0 0)).v a0.v H) fun (x1 : Sl) H1 =>
Q (x1, ()) H1
def h_kit_CopyStandings : Hnt := .leaf
theorem e_kit_CopyStandings (a0 : Sl) (H : Heap) (Q : Sl × Unit -> Heap -> Prop) : S_kit_CopyStandings a0 H Q = cFn C [] Tryz.f46.ntmps Tryz.f46.results.toList [T_sl] (bodyOf Tryz.f46) h_kit_CopyStandings [a0.v] H Q := by kernel_rfl
theorem c_kit_CopyStandings {a0 : Sl} {H : Heap} {Q : Sl × Unit -> Heap -> Prop} (h : S_kit_CopyStandings a0 H Q) : CALL P [T_sl] n_kit_CopyStandings [a0.v] H Q := call_print hE Tryz.func46 rfl (by kernel_rfl) (e_kit_CopyStandings a0 H Q) h
def S_law19_asked (a0 : Option Addr) (a1 : Option Addr) (a2 : G_law19_Table) (a3 : G_law19_Table) (a4 : G_api_Standing) (a5 : G_api_Standing) (H : Heap) (Q : Sl × Sl × Bool × Unit -> Heap -> Prop) : Prop :=
CALL P [T_sl, (T_int .i64)] n_layer_About [(.pointer a0), a3.Things.v, a3.Fs.v, (T_G_api_Standing.enc a4)] H fun (x1 : Sl × Int × Unit) H1 =>
CALL P [T_sl, (T_int .i64)] n_ref19_About [(.pointer a1), a2.Things.v, a2.Fs.v, (T_G_api_Standing.enc a4)] H1 fun (x2 : Sl × Int × Unit) H2 =>
CALL P [T_sl, (T_int .i64)] n_layer_Apply [(.pointer a0), a3.Things.v, a3.Fs.v, (T_G_api_Standing.enc a4)] H2 fun (x3 : Sl × Int × Unit) H3 =>
CALL P [T_sl, (T_int .i64)] n_ref19_Apply [(.pointer a1), a2.Things.v, a2.Fs.v, (T_G_api_Standing.enc a4)] H3 fun (x4 : Sl × Int × Unit) H4 =>
CALL P [T_bool, (T_int .i64)] n_layer_Depends [(.pointer a0), a3.Things.v, a3.Fs.v, (T_G_api_Standing.enc a4), (T_G_api_Standing.enc a5)] H4 fun (x5 : Bool × Int × Unit) H5 =>
CALL P [T_bool, (T_int .i64)] n_ref19_Depends [(.pointer a1), a2.Things.v, a2.Fs.v, (T_G_api_Standing.enc a4), (T_G_api_Standing.enc a5)] H5 fun (x6 : Bool × Int × Unit) H6 =>
JOIN (fun (j7 : (Bool × Unit) × (Unit) -> Heap -> Prop) =>
ifB (x1.2.1 == x2.2.1) (
ifB (x3.2.1 == x4.2.1) (
ifB (x5.2.1 == x6.2.1) (
ifB (x5.1 == x6.1) (
CALL P [T_bool] n_kit_SameInts [x1.1.v, x2.1.v] H6 fun (x9 : Bool × Unit) H8 =>
ifB x9.1 (
CALL P [T_bool] n_kit_SameFeatures [x3.1.v, x4.1.v] H8 fun (x10 : Bool × Unit) H9 =>
j7 ((x10.1, ()), (())) H9) (
j7 ((false, ()), (())) H8)) (
j7 ((false, ()), (())) H6)) (
j7 ((false, ()), (())) H6)) (
j7 ((false, ()), (())) H6)) (
j7 ((false, ()), (())) H6)) fun (y8 : (Bool × Unit) × (Unit)) H7 =>
NEW H7 [(.slice x1.1.p x1.1.len x1.1.cap)] 1 fun H10 =>
NEW H10 [(.slice x3.1.p x3.1.len x3.1.cap)] 1 fun H11 =>
Q ((Sl.mk (some ⟨H7.length, 0, none⟩) 1 1), (Sl.mk (some ⟨H10.length, 0, none⟩) 1 1), y8.1.1, ()) H11
def h_law19_asked : Hnt := (.seq .leaf (.seq .leaf (.seq .leaf (.seq .leaf (.seq .leaf (.seq .leaf (.seq .leaf (.seq (.reg ⟨[(27, T_bool)], [], [90, 91, 92, 93, 94, 95, 96, 97, 98, 99, 100, 101, 102, 103, 104, 105, 106, 107, 108, 109, 110, 111, 112, 113, 114, 115, 116, 117]⟩) .leaf))))))))
theorem e_law19_asked (a0 : Option Addr) (a1 : Option Addr) (a2 : G_law19_Table) (a3 : G_law19_Table) (a4 : G_api_Standing) (a5 : G_api_Standing) (H : Heap) (Q : Sl × Sl × Bool × Unit -> Heap -> Prop) : S_law19_asked a0 a1 a2 a3 a4 a5 H Q = cFn C [8, 9, 10, 11] Tryz.f47.ntmps Tryz.f47.results.toList [T_sl, T_sl, T_bool] (bodyOf Tryz.f47) h_law19_asked [(.pointer a0), (.pointer a1), (T_G_law19_Table.enc a2), (T_G_law19_Table.enc a3), (T_G_api_Standing.enc a4), (T_G_api_Standing.enc a5)] H Q := by kernel_rfl
theorem c_law19_asked {a0 : Option Addr} {a1 : Option Addr} {a2 : G_law19_Table} {a3 : G_law19_Table} {a4 : G_api_Standing} {a5 : G_api_Standing} {H : Heap} {Q : Sl × Sl × Bool × Unit -> Heap -> Prop} (h : S_law19_asked a0 a1 a2 a3 a4 a5 H Q) : CALL P [T_sl, T_sl, T_bool] n_law19_asked [(.pointer a0), (.pointer a1), (T_G_law19_Table.enc a2), (T_G_law19_Table.enc a3), (T_G_api_Standing.enc a4), (T_G_api_Standing.enc a5)] H Q := call_print hE Tryz.func47 rfl (by kernel_rfl) (e_law19_asked a0 a1 a2 a3 a4 a5 H Q) h
def S_kit_KeptStandings (a0 : Sl) (a1 : Sl) (H : Heap) (Q : Bool × Unit -> Heap -> Prop) : Prop :=
CALL P [T_sl] n_kit_CopyStandings [a1.v] H fun (x1 : Sl × Unit) H1 =>
APP T_sl (lenV x1.1.v + 2) (aAppE E [66, 66] x1.1.v 2 [(.int .i64 (-77)), (.int .i64 0), (.int .u8 0), (.int .u8 0), (.int .u8 0), (.int .i64 0), (.int .u8 0), (.int .u8 0), (.int .u8 0), (.string (ByteArray.mk #[])), (.int .i64 (-77)), (.int .i64 0), (.int .u8 0), (.int .u8 0), (.int .u8 0), (.int .i64 0), (.int .u8 0), (.int .u8 0), (.int .u8 0), (.string (ByteArray.mk #[]))] H1) fun (x2 : Sl) H2 =>
CALL P [T_bool] n_kit_SameStandings [a0.v, x2.v] H2 fun (x3 : Bool × Unit) H3 =>
Q (x3.1, ()) H3
def h_kit_KeptStandings : Hnt := .leaf
theorem e_kit_KeptStandings (a0 : Sl) (a1 : Sl) (H : Heap) (Q : Bool × Unit -> Heap -> Prop) : S_kit_KeptStandings a0 a1 H Q = cFn C [10] Tryz.f48.ntmps Tryz.f48.results.toList [T_bool] (bodyOf Tryz.f48) h_kit_KeptStandings [a0.v, a1.v] H Q := by kernel_rfl
theorem c_kit_KeptStandings {a0 : Sl} {a1 : Sl} {H : Heap} {Q : Bool × Unit -> Heap -> Prop} (h : S_kit_KeptStandings a0 a1 H Q) : CALL P [T_bool] n_kit_KeptStandings [a0.v, a1.v] H Q := call_print hE Tryz.func48 rfl (by kernel_rfl) (e_kit_KeptStandings a0 a1 H Q) h
def S_kit_ApartFeatures (a0 : Sl) (H : Heap) (Q : Bool × Unit -> Heap -> Prop) : Prop :=
JOIN (fun (j1 : (Sl × Unit) × (Unit) -> Heap -> Prop) =>
LOOP (fun (r3 : (Sl × Int × Unit) × (Unit) -> Heap -> Prop) (s4 : (Sl × Int × Unit) × (Unit)) H2 =>
ifB (decide (s4.1.2.1 < (a0.len : Int))) (
IDX a0.p a0.len s4.1.2.1 1 fun b5 o6 =>
LD T_sl H2 b5 o6 fun (x7 : Sl) =>
IDX a0.p a0.len s4.1.2.1 1 fun b8 o9 =>
LD T_sl H2 b8 o9 fun (x10 : Sl) =>
GENV (T_int .i64) (aCap E 27 x10.v H2) fun (x11 : Int) =>
LD T_sl H2 b5 o6 fun (x12 : Sl) =>
REQ (T_sl.enc x12 = x7.v) (
GENV T_sl (aSlice E 27 x7.v none (some (.int .i64 x11)) none H2) fun (x13 : Sl) =>
APP T_sl (lenV s4.1.1.v + 1) (aAppE E [100, 100] s4.1.1.v 1 [(.slice x13.p x13.len x13.cap)] H2) fun (x14 : Sl) H3 =>
r3 ((x14, IntKind.wrap .i64 (s4.1.2.1 + 1), ()), (())) H3)) (
j1 ((s4.1.1, ()), (())) H2)) (((Sl.mk none 0 0), 0, ()), (())) H) fun (y2 : (Sl × Unit) × (Unit)) H1 =>
JOIN (fun (j15 : (Unit) × (Unit) -> Heap -> Prop) =>
LOOP (fun (r17 : (Int × Unit) × (Unit) -> Heap -> Prop) (s18 : (Int × Unit) × (Unit)) H5 =>
ifB (decide (s18.1.1 < (y2.1.1.len : Int))) (
JOIN (fun (j19 : (Unit) × (Unit) -> Heap -> Prop) =>
JOIN (fun (j21 : (Unit) × (Unit) -> Heap -> Prop) =>
LOOP (fun (r23 : (Int × Unit) × (Unit) -> Heap -> Prop) (s24 : (Int × Unit) × (Unit)) H8 =>
IDX y2.1.1.p y2.1.1.len s18.1.1 1 fun b25 o26 =>
LD T_sl H8 b25 o26 fun (x27 : Sl) =>
ifB (decide (s24.1.1 < (x27.len : Int))) (
IDX y2.1.1.p y2.1.1.len s18.1.1 1 fun b28 o29 =>
LD T_sl H8 b28 o29 fun (x30 : Sl) =>
CALL P [T_G_api_Feature] n_kit_markFeatures [(.int .i64 s18.1.1), (.int .i64 s24.1.1)] H8 fun (x31 : G_api_Feature × Unit) H9 =>
LD T_sl H9 b28 o29 fun (x32 : Sl) =>
REQ (T_sl.enc x32 = x30.v) (
IDX x30.p x30.len s24.1.1 5 fun b33 o34 =>
ST H9 b33 o34 (T_G_api_Feature.cells x31.1) fun H10 =>
r23 ((IntKind.wrap .i64 (s24.1.1 + 1), ()), (())) H10)) (
j21 ((()), (())) H8)) ((0, ()), (())) H5) fun (y22 : (Unit) × (Unit)) H7 =>
j19 ((()), (())) H7) fun (y20 : (Unit) × (Unit)) H6 =>
r17 ((IntKind.wrap .i64 (s18.1.1 + 1), ()), (())) H6) (
j15 ((()), (())) H5)) ((0, ()), (())) H1) fun (y16 : (Unit) × (Unit)) H4 =>
JOIN (fun (j35 : (Unit) × (Unit) -> Heap -> Prop) =>
LOOP (fun (r37 : (Int × Unit) × (Unit) -> Heap -> Prop) (s38 : (Int × Unit) × (Unit)) H12 =>
ifB (decide (s38.1.1 < (y2.1.1.len : Int))) (
JOIN (fun (j39 : (Unit) × (Unit) -> Heap -> Prop) =>
JOIN (fun (j41 : (Unit) × (Unit) -> Heap -> Prop) =>
LOOP (fun (r43 : (Int × Unit) × (Unit) -> Heap -> Prop) (s44 : (Int × Unit) × (Unit)) H15 =>
IDX y2.1.1.p y2.1.1.len s38.1.1 1 fun b45 o46 =>
LD T_sl H15 b45 o46 fun (x47 : Sl) =>
ifB (decide (s44.1.1 < (x47.len : Int))) (
IDX y2.1.1.p y2.1.1.len s38.1.1 1 fun b48 o49 =>
LD T_sl H15 b48 o49 fun (x50 : Sl) =>
IDX x50.p x50.len s44.1.1 5 fun b51 o52 =>
LD T_G_api_Feature H15 b51 o52 fun (x53 : G_api_Feature) =>
CALL P [T_G_api_Feature] n_kit_markFeatures [(.int .i64 s38.1.1), (.int .i64 s44.1.1)] H15 fun (x54 : G_api_Feature × Unit) H16 =>
LD T_sl H16 b48 o49 fun (x55 : Sl) =>
REQ (T_sl.enc x55 = x50.v) (
LD T_G_api_Feature H16 b51 o52 fun (x56 : G_api_Feature) =>
REQ (T_G_api_Feature.enc x56 = (T_G_api_Feature.enc x53)) (
ifB (!((x53.Holder == x54.1.Holder) && ((x53.Suit == x54.1.Suit) && ((x53.Traits == x54.1.Traits) && ((x53.Power == x54.1.Power) && ((x53.Health == x54.1.Health) && true)))))) (
Q (false, ()) H16) (
r43 ((IntKind.wrap .i64 (s44.1.1 + 1), ()), (())) H16)))) (
j41 ((()), (())) H15)) ((0, ()), (())) H12) fun (y42 : (Unit) × (Unit)) H14 =>
j39 ((()), (())) H14) fun (y40 : (Unit) × (Unit)) H13 =>
r37 ((IntKind.wrap .i64 (s38.1.1 + 1), ()), (())) H13) (
j35 ((()), (())) H12)) ((0, ()), (())) H4) fun (y36 : (Unit) × (Unit)) H11 =>
Q (true, ()) H11
def h_kit_ApartFeatures : Hnt := (.seq .leaf (.seq .leaf (.seq (.seq .leaf (.blk (some ⟨[(3, T_sl)], [], [4, 9, 10, 11, 12, 13, 14, 15, 16, 17, 18, 19, 20, 21, 22, 23, 24, 25, 26, 27]⟩) (.loop ⟨[(3, T_sl), (4, (T_int .i64))], [], [9, 10, 11, 12, 13, 14, 15, 16, 17, 18, 19, 20, 21, 22, 23, 24, 25, 26, 27]⟩ .leaf))) (.seq (.seq .leaf (.blk (some ⟨[], [], [5, 6, 28, 29, 30, 31, 32, 33, 34, 35, 36, 37, 38, 39, 40, 41, 42, 43, 44, 45, 46, 47, 48, 49, 50, 51]⟩) (.loop ⟨[(5, (T_int .i64))], [], [6, 28, 29, 30, 31, 32, 33, 34, 35, 36, 37, 38, 39, 40, 41, 42, 43, 44, 45, 46, 47, 48, 49, 50, 51]⟩ (.seq .leaf (.seq (.blk (some ⟨[], [], [6, 34, 35, 36, 37, 38, 39, 40, 41, 42, 43, 44, 45, 46, 47, 48, 49, 50, 51]⟩) (.seq .leaf (.blk (some ⟨[], [], [6, 34, 35, 36, 37, 38, 39, 40, 41, 42, 43, 44, 45, 46, 47, 48, 49, 50, 51]⟩) (.loop ⟨[(6, (T_int .i64))], [], [34, 35, 36, 37, 38, 39, 40, 41, 42, 43, 44, 45, 46, 47, 48, 49, 50, 51]⟩ .leaf)))) .leaf))))) (.seq (.seq .leaf (.blk (some ⟨[], [], [2, 7, 8, 52, 53, 54, 55, 56, 57, 58, 59, 60, 61, 62, 63, 64, 65, 66, 67, 68, 69, 70, 71, 72, 73, 74, 75, 76, 77]⟩) (.loop ⟨[(7, (T_int .i64))], [], [2, 8, 52, 53, 54, 55, 56, 57, 58, 59, 60, 61, 62, 63, 64, 65, 66, 67, 68, 69, 70, 71, 72, 73, 74, 75, 76, 77]⟩ (.seq .leaf (.seq (.blk (some ⟨[], [], [2, 8, 58, 59, 60, 61, 62, 63, 64, 65, 66, 67, 68, 69, 70, 71, 72, 73, 74, 75, 76, 77]⟩) (.seq .leaf (.blk (some ⟨[], [], [2, 8, 58, 59, 60, 61, 62, 63, 64, 65, 66, 67, 68, 69, 70, 71, 72, 73, 74, 75, 76, 77]⟩) (.loop ⟨[(8, (T_int .i64))], [], [2, 58, 59, 60, 61, 62, 63, 64, 65, 66, 67, 68, 69, 70, 71, 72, 73, 74, 75, 76, 77]⟩ .leaf)))) .leaf))))) .leaf)))))
theorem e_kit_ApartFeatures (a0 : Sl) (H : Heap) (Q : Bool × Unit -> Heap -> Prop) : S_kit_ApartFeatures a0 H Q = cFn C [26] Tryz.f49.ntmps Tryz.f49.results.toList [T_bool] (bodyOf Tryz.f49) h_kit_ApartFeatures [a0.v] H Q := by kernel_rfl
theorem c_kit_ApartFeatures {a0 : Sl} {H : Heap} {Q : Bool × Unit -> Heap -> Prop} (h : S_kit_ApartFeatures a0 H Q) : CALL P [T_bool] n_kit_ApartFeatures [a0.v] H Q := call_print hE Tryz.func49 rfl (by kernel_rfl) (e_kit_ApartFeatures a0 H Q) h
end Zv
end Go.Proofs.YtolekmhhkopooaaGreatDoor
end
