/- Printed by gen2.py: Go's types as Lean's; the environment of the propositions. -/
import Derived.Test.YtkbdfjlpicflaaaGreatDoorZwTags
import Derived.Test.YtkbdfjlpicflaaaGreatDoorZEnv
namespace Go.Proofs.YtkbdfjlpicflaaaGreatDoor
open Go Zq
namespace Zv
structure G_api_State where
  Life : Int × Int
  Mana : Int × Int
  Most : Int × Int
  Nothing : Int × Int
  Things : Sl
  Decks : Sl × Sl
  Hands : Sl × Sl
  Stack : Sl
  Turn : Int
  Phase : Int
  Word : Int
  Passes : Int
  Stamp : Int
  Actions : Int
  Over : Bool
  Winner : Int
def T_G_api_State : Tag := ⟨G_api_State, true, 22, fun x => [(.int .i64 x.Life.1), (.int .i64 x.Life.2), (.int .i64 x.Mana.1), (.int .i64 x.Mana.2), (.int .i64 x.Most.1), (.int .i64 x.Most.2), (.int .i64 x.Nothing.1), (.int .i64 x.Nothing.2), (.slice x.Things.p x.Things.len x.Things.cap), (.slice x.Decks.1.p x.Decks.1.len x.Decks.1.cap), (.slice x.Decks.2.p x.Decks.2.len x.Decks.2.cap), (.slice x.Hands.1.p x.Hands.1.len x.Hands.1.cap), (.slice x.Hands.2.p x.Hands.2.len x.Hands.2.cap), (.slice x.Stack.p x.Stack.len x.Stack.cap), (.int .i64 x.Turn), (.int .u8 x.Phase), (.int .i64 x.Word), (.int .i64 x.Passes), (.int .i64 x.Stamp), (.int .i64 x.Actions), (.bool x.Over), (.int .i64 x.Winner)], fun cs => match cs with | [.int kc0 c0, .int kc1 c1, .int kc2 c2, .int kc3 c3, .int kc4 c4, .int kc5 c5, .int kc6 c6, .int kc7 c7, .slice c8p c8n c8k, .slice c9p c9n c9k, .slice c10p c10n c10k, .slice c11p c11n c11k, .slice c12p c12n c12k, .slice c13p c13n c13k, .int kc14 c14, .int kc15 c15, .int kc16 c16, .int kc17 c17, .int kc18 c18, .int kc19 c19, .bool c20, .int kc21 c21] => if kc0 = .i64 ∧ kc1 = .i64 ∧ kc2 = .i64 ∧ kc3 = .i64 ∧ kc4 = .i64 ∧ kc5 = .i64 ∧ kc6 = .i64 ∧ kc7 = .i64 ∧ kc14 = .i64 ∧ kc15 = .u8 ∧ kc16 = .i64 ∧ kc17 = .i64 ∧ kc18 = .i64 ∧ kc19 = .i64 ∧ kc21 = .i64 then some (G_api_State.mk (c0, c1) (c2, c3) (c4, c5) (c6, c7) (Sl.mk c8p c8n c8k) ((Sl.mk c9p c9n c9k), (Sl.mk c10p c10n c10k)) ((Sl.mk c11p c11n c11k), (Sl.mk c12p c12n c12k)) (Sl.mk c13p c13n c13k) c14 c15 c16 c17 c18 c19 c20 c21) else none | _ => none, fun cs x h => by
  split at h
  · split at h
    · rename_i e
      obtain ⟨rfl, rfl, rfl, rfl, rfl, rfl, rfl, rfl, rfl, rfl, rfl, rfl, rfl, rfl, rfl⟩ := e
      have h := Option.some.inj h; subst h; rfl
    · cases h
  · cases h⟩
structure G_api_Deed where
  Verb : Int
  On : Int
  Count : Int
  Mark : Int
  Name : ByteArray
  Holder : Int
  Venom : Bool
  Drain : Bool
def T_G_api_Deed : Tag := ⟨G_api_Deed, true, 8, fun x => [(.int .u8 x.Verb), (.int .i64 x.On), (.int .i64 x.Count), (.int .u8 x.Mark), (.string x.Name), (.int .i64 x.Holder), (.bool x.Venom), (.bool x.Drain)], fun cs => match cs with | [.int kc0 c0, .int kc1 c1, .int kc2 c2, .int kc3 c3, .string c4, .int kc5 c5, .bool c6, .bool c7] => if kc0 = .u8 ∧ kc1 = .i64 ∧ kc2 = .i64 ∧ kc3 = .u8 ∧ kc5 = .i64 then some (G_api_Deed.mk c0 c1 c2 c3 c4 c5 c6 c7) else none | _ => none, fun cs x h => by
  split at h
  · split at h
    · rename_i e
      obtain ⟨rfl, rfl, rfl, rfl, rfl⟩ := e
      have h := Option.some.inj h; subst h; rfl
    · cases h
  · cases h⟩
structure G_law22_Act where
  Kind : Int
  On : Int
  D : G_api_Deed
  Thing : Int
  L : Sl
def T_G_law22_Act : Tag := ⟨G_law22_Act, true, 12, fun x => [(.int .i64 x.Kind), (.int .i64 x.On), (.int .u8 x.D.Verb), (.int .i64 x.D.On), (.int .i64 x.D.Count), (.int .u8 x.D.Mark), (.string x.D.Name), (.int .i64 x.D.Holder), (.bool x.D.Venom), (.bool x.D.Drain), (.int .i64 x.Thing), (.slice x.L.p x.L.len x.L.cap)], fun cs => match cs with | [.int kc0 c0, .int kc1 c1, .int kc2 c2, .int kc3 c3, .int kc4 c4, .int kc5 c5, .string c6, .int kc7 c7, .bool c8, .bool c9, .int kc10 c10, .slice c11p c11n c11k] => if kc0 = .i64 ∧ kc1 = .i64 ∧ kc2 = .u8 ∧ kc3 = .i64 ∧ kc4 = .i64 ∧ kc5 = .u8 ∧ kc7 = .i64 ∧ kc10 = .i64 then some (G_law22_Act.mk c0 c1 (G_api_Deed.mk c2 c3 c4 c5 c6 c7 c8 c9) c10 (Sl.mk c11p c11n c11k)) else none | _ => none, fun cs x h => by
  split at h
  · split at h
    · rename_i e
      obtain ⟨rfl, rfl, rfl, rfl, rfl, rfl, rfl, rfl⟩ := e
      have h := Option.some.inj h; subst h; rfl
    · cases h
  · cases h⟩
structure G_api_Item where
  Thing : Int
  Part : Int
  Holder : Int
  Meant : Int
def T_G_api_Item : Tag := ⟨G_api_Item, true, 4, fun x => [(.int .i64 x.Thing), (.int .i64 x.Part), (.int .i64 x.Holder), (.int .i64 x.Meant)], fun cs => match cs with | [.int kc0 c0, .int kc1 c1, .int kc2 c2, .int kc3 c3] => if kc0 = .i64 ∧ kc1 = .i64 ∧ kc2 = .i64 ∧ kc3 = .i64 then some (G_api_Item.mk c0 c1 c2 c3) else none | _ => none, fun cs x h => by
  split at h
  · split at h
    · rename_i e
      obtain ⟨rfl, rfl, rfl, rfl⟩ := e
      have h := Option.some.inj h; subst h; rfl
    · cases h
  · cases h⟩
structure G_api_Thing where
  Card : Int
  Owner : Int
  Place : Int
  Stamp : Int
  Hurt : Int
  Marks : Int × Int × Int × Int
  Done : Int
  Fresh : Bool
def T_G_api_Thing : Tag := ⟨G_api_Thing, true, 11, fun x => [(.int .i64 x.Card), (.int .i64 x.Owner), (.int .u8 x.Place), (.int .i64 x.Stamp), (.int .i64 x.Hurt), (.int .i64 x.Marks.1), (.int .i64 x.Marks.2.1), (.int .i64 x.Marks.2.2.1), (.int .i64 x.Marks.2.2.2), (.int .i64 x.Done), (.bool x.Fresh)], fun cs => match cs with | [.int kc0 c0, .int kc1 c1, .int kc2 c2, .int kc3 c3, .int kc4 c4, .int kc5 c5, .int kc6 c6, .int kc7 c7, .int kc8 c8, .int kc9 c9, .bool c10] => if kc0 = .i64 ∧ kc1 = .i64 ∧ kc2 = .u8 ∧ kc3 = .i64 ∧ kc4 = .i64 ∧ kc5 = .i64 ∧ kc6 = .i64 ∧ kc7 = .i64 ∧ kc8 = .i64 ∧ kc9 = .i64 then some (G_api_Thing.mk c0 c1 c2 c3 c4 (c5, c6, c7, c8) c9 c10) else none | _ => none, fun cs x h => by
  split at h
  · split at h
    · rename_i e
      obtain ⟨rfl, rfl, rfl, rfl, rfl, rfl, rfl, rfl, rfl, rfl⟩ := e
      have h := Option.some.inj h; subst h; rfl
    · cases h
  · cases h⟩
structure G_api_Feature where
  Holder : Int
  Suit : Int
  Traits : Int
  Power : Int
  Health : Int
def T_G_api_Feature : Tag := ⟨G_api_Feature, true, 5, fun x => [(.int .i64 x.Holder), (.int .u8 x.Suit), (.int .u16 x.Traits), (.int .i64 x.Power), (.int .i64 x.Health)], fun cs => match cs with | [.int kc0 c0, .int kc1 c1, .int kc2 c2, .int kc3 c3, .int kc4 c4] => if kc0 = .i64 ∧ kc1 = .u8 ∧ kc2 = .u16 ∧ kc3 = .i64 ∧ kc4 = .i64 then some (G_api_Feature.mk c0 c1 c2 c3 c4) else none | _ => none, fun cs x h => by
  split at h
  · split at h
    · rename_i e
      obtain ⟨rfl, rfl, rfl, rfl, rfl⟩ := e
      have h := Option.some.inj h; subst h; rfl
    · cases h
  · cases h⟩
structure G_api_Card where
  Name : ByteArray
  Suit : Int
  Kind : Int
  Cost : Int
  Power : Int
  Health : Int
  Traits : Int
  Token : Bool
  Parts : Sl
def T_G_api_Card : Tag := ⟨G_api_Card, true, 9, fun x => [(.string x.Name), (.int .u8 x.Suit), (.int .u8 x.Kind), (.int .i64 x.Cost), (.int .i64 x.Power), (.int .i64 x.Health), (.int .u16 x.Traits), (.bool x.Token), (.slice x.Parts.p x.Parts.len x.Parts.cap)], fun cs => match cs with | [.string c0, .int kc1 c1, .int kc2 c2, .int kc3 c3, .int kc4 c4, .int kc5 c5, .int kc6 c6, .bool c7, .slice c8p c8n c8k] => if kc1 = .u8 ∧ kc2 = .u8 ∧ kc3 = .i64 ∧ kc4 = .i64 ∧ kc5 = .i64 ∧ kc6 = .u16 then some (G_api_Card.mk c0 c1 c2 c3 c4 c5 c6 c7 (Sl.mk c8p c8n c8k)) else none | _ => none, fun cs x h => by
  split at h
  · split at h
    · rename_i e
      obtain ⟨rfl, rfl, rfl, rfl, rfl, rfl⟩ := e
      have h := Option.some.inj h; subst h; rfl
    · cases h
  · cases h⟩
structure G_layer_place where
  b : Option Addr
  things : Sl
  cards : Sl
  order : Sl
def T_G_layer_place : Tag := ⟨G_layer_place, true, 4, fun x => [(.pointer x.b), (.slice x.things.p x.things.len x.things.cap), (.slice x.cards.p x.cards.len x.cards.cap), (.slice x.order.p x.order.len x.order.cap)], fun cs => match cs with | [.pointer c0, .slice c1p c1n c1k, .slice c2p c2n c2k, .slice c3p c3n c3k] => some (G_layer_place.mk c0 (Sl.mk c1p c1n c1k) (Sl.mk c2p c2n c2k) (Sl.mk c3p c3n c3k)) | _ => none, fun cs x h => by
  split at h
  · have h := Option.some.inj h; subst h; rfl
  · cases h⟩
def T_arr2_T_sl : Tag := ⟨Sl × Sl, true, 2, fun x => [(.slice x.1.p x.1.len x.1.cap), (.slice x.2.p x.2.len x.2.cap)], fun cs => match cs with | [.slice c0p c0n c0k, .slice c1p c1n c1k] => some ((Sl.mk c0p c0n c0k), (Sl.mk c1p c1n c1k)) | _ => none, fun cs x h => by
  split at h
  · have h := Option.some.inj h; subst h; rfl
  · cases h⟩
structure G_event_World where
  b : Option Addr
  s : G_api_State
  count : Int
def T_G_event_World : Tag := ⟨G_event_World, true, 24, fun x => [(.pointer x.b), (.int .i64 x.s.Life.1), (.int .i64 x.s.Life.2), (.int .i64 x.s.Mana.1), (.int .i64 x.s.Mana.2), (.int .i64 x.s.Most.1), (.int .i64 x.s.Most.2), (.int .i64 x.s.Nothing.1), (.int .i64 x.s.Nothing.2), (.slice x.s.Things.p x.s.Things.len x.s.Things.cap), (.slice x.s.Decks.1.p x.s.Decks.1.len x.s.Decks.1.cap), (.slice x.s.Decks.2.p x.s.Decks.2.len x.s.Decks.2.cap), (.slice x.s.Hands.1.p x.s.Hands.1.len x.s.Hands.1.cap), (.slice x.s.Hands.2.p x.s.Hands.2.len x.s.Hands.2.cap), (.slice x.s.Stack.p x.s.Stack.len x.s.Stack.cap), (.int .i64 x.s.Turn), (.int .u8 x.s.Phase), (.int .i64 x.s.Word), (.int .i64 x.s.Passes), (.int .i64 x.s.Stamp), (.int .i64 x.s.Actions), (.bool x.s.Over), (.int .i64 x.s.Winner), (.int .i64 x.count)], fun cs => match cs with | [.pointer c0, .int kc1 c1, .int kc2 c2, .int kc3 c3, .int kc4 c4, .int kc5 c5, .int kc6 c6, .int kc7 c7, .int kc8 c8, .slice c9p c9n c9k, .slice c10p c10n c10k, .slice c11p c11n c11k, .slice c12p c12n c12k, .slice c13p c13n c13k, .slice c14p c14n c14k, .int kc15 c15, .int kc16 c16, .int kc17 c17, .int kc18 c18, .int kc19 c19, .int kc20 c20, .bool c21, .int kc22 c22, .int kc23 c23] => if kc1 = .i64 ∧ kc2 = .i64 ∧ kc3 = .i64 ∧ kc4 = .i64 ∧ kc5 = .i64 ∧ kc6 = .i64 ∧ kc7 = .i64 ∧ kc8 = .i64 ∧ kc15 = .i64 ∧ kc16 = .u8 ∧ kc17 = .i64 ∧ kc18 = .i64 ∧ kc19 = .i64 ∧ kc20 = .i64 ∧ kc22 = .i64 ∧ kc23 = .i64 then some (G_event_World.mk c0 (G_api_State.mk (c1, c2) (c3, c4) (c5, c6) (c7, c8) (Sl.mk c9p c9n c9k) ((Sl.mk c10p c10n c10k), (Sl.mk c11p c11n c11k)) ((Sl.mk c12p c12n c12k), (Sl.mk c13p c13n c13k)) (Sl.mk c14p c14n c14k) c15 c16 c17 c18 c19 c20 c21 c22) c23) else none | _ => none, fun cs x h => by
  split at h
  · split at h
    · rename_i e
      obtain ⟨rfl, rfl, rfl, rfl, rfl, rfl, rfl, rfl, rfl, rfl, rfl, rfl, rfl, rfl, rfl, rfl⟩ := e
      have h := Option.some.inj h; subst h; rfl
    · cases h
  · cases h⟩
structure G_api_Happening where
  Verb : Int
  On : Int
  Count : Int
  Holder : Int
  Venom : Bool
  Drain : Bool
def T_G_api_Happening : Tag := ⟨G_api_Happening, true, 6, fun x => [(.int .u8 x.Verb), (.int .i64 x.On), (.int .i64 x.Count), (.int .i64 x.Holder), (.bool x.Venom), (.bool x.Drain)], fun cs => match cs with | [.int kc0 c0, .int kc1 c1, .int kc2 c2, .int kc3 c3, .bool c4, .bool c5] => if kc0 = .u8 ∧ kc1 = .i64 ∧ kc2 = .i64 ∧ kc3 = .i64 then some (G_api_Happening.mk c0 c1 c2 c3 c4 c5) else none | _ => none, fun cs x h => by
  split at h
  · split at h
    · rename_i e
      obtain ⟨rfl, rfl, rfl, rfl⟩ := e
      have h := Option.some.inj h; subst h; rfl
    · cases h
  · cases h⟩
structure G_api_Swapped where
  After : G_api_Happening
  Used : Sl
  Gone : Int
  Life : Int
def T_G_api_Swapped : Tag := ⟨G_api_Swapped, true, 9, fun x => [(.int .u8 x.After.Verb), (.int .i64 x.After.On), (.int .i64 x.After.Count), (.int .i64 x.After.Holder), (.bool x.After.Venom), (.bool x.After.Drain), (.slice x.Used.p x.Used.len x.Used.cap), (.int .i64 x.Gone), (.int .i64 x.Life)], fun cs => match cs with | [.int kc0 c0, .int kc1 c1, .int kc2 c2, .int kc3 c3, .bool c4, .bool c5, .slice c6p c6n c6k, .int kc7 c7, .int kc8 c8] => if kc0 = .u8 ∧ kc1 = .i64 ∧ kc2 = .i64 ∧ kc3 = .i64 ∧ kc7 = .i64 ∧ kc8 = .i64 then some (G_api_Swapped.mk (G_api_Happening.mk c0 c1 c2 c3 c4 c5) (Sl.mk c6p c6n c6k) c7 c8) else none | _ => none, fun cs x h => by
  split at h
  · split at h
    · rename_i e
      obtain ⟨rfl, rfl, rfl, rfl, rfl, rfl⟩ := e
      have h := Option.some.inj h; subst h; rfl
    · cases h
  · cases h⟩
structure G_api_Part where
  When : Int
  Verb : Int
  Whom : Int
  Count : Int
  Suit : Int
  Trait : Int
  Mark : Int
  Name : ByteArray
def T_G_api_Part : Tag := ⟨G_api_Part, true, 8, fun x => [(.int .u8 x.When), (.int .u8 x.Verb), (.int .u8 x.Whom), (.int .i64 x.Count), (.int .u8 x.Suit), (.int .u8 x.Trait), (.int .u8 x.Mark), (.string x.Name)], fun cs => match cs with | [.int kc0 c0, .int kc1 c1, .int kc2 c2, .int kc3 c3, .int kc4 c4, .int kc5 c5, .int kc6 c6, .string c7] => if kc0 = .u8 ∧ kc1 = .u8 ∧ kc2 = .u8 ∧ kc3 = .i64 ∧ kc4 = .u8 ∧ kc5 = .u8 ∧ kc6 = .u8 then some (G_api_Part.mk c0 c1 c2 c3 c4 c5 c6 c7) else none | _ => none, fun cs x h => by
  split at h
  · split at h
    · rename_i e
      obtain ⟨rfl, rfl, rfl, rfl, rfl, rfl, rfl⟩ := e
      have h := Option.some.inj h; subst h; rfl
    · cases h
  · cases h⟩
structure G_api_Standing where
  Thing : Int
  Place : Int
  What : G_api_Part
def T_G_api_Standing : Tag := ⟨G_api_Standing, true, 10, fun x => [(.int .i64 x.Thing), (.int .i64 x.Place), (.int .u8 x.What.When), (.int .u8 x.What.Verb), (.int .u8 x.What.Whom), (.int .i64 x.What.Count), (.int .u8 x.What.Suit), (.int .u8 x.What.Trait), (.int .u8 x.What.Mark), (.string x.What.Name)], fun cs => match cs with | [.int kc0 c0, .int kc1 c1, .int kc2 c2, .int kc3 c3, .int kc4 c4, .int kc5 c5, .int kc6 c6, .int kc7 c7, .int kc8 c8, .string c9] => if kc0 = .i64 ∧ kc1 = .i64 ∧ kc2 = .u8 ∧ kc3 = .u8 ∧ kc4 = .u8 ∧ kc5 = .i64 ∧ kc6 = .u8 ∧ kc7 = .u8 ∧ kc8 = .u8 then some (G_api_Standing.mk c0 c1 (G_api_Part.mk c2 c3 c4 c5 c6 c7 c8 c9)) else none | _ => none, fun cs x h => by
  split at h
  · split at h
    · rename_i e
      obtain ⟨rfl, rfl, rfl, rfl, rfl, rfl, rfl, rfl, rfl⟩ := e
      have h := Option.some.inj h; subst h; rfl
    · cases h
  · cases h⟩
structure G_api_MarkInfo where
  Mark : Int
  Name : ByteArray
  Power : Int
  Health : Int
def T_G_api_MarkInfo : Tag := ⟨G_api_MarkInfo, true, 4, fun x => [(.int .u8 x.Mark), (.string x.Name), (.int .i64 x.Power), (.int .i64 x.Health)], fun cs => match cs with | [.int kc0 c0, .string c1, .int kc2 c2, .int kc3 c3] => if kc0 = .u8 ∧ kc2 = .i64 ∧ kc3 = .i64 then some (G_api_MarkInfo.mk c0 c1 c2 c3) else none | _ => none, fun cs x h => by
  split at h
  · split at h
    · rename_i e
      obtain ⟨rfl, rfl, rfl⟩ := e
      have h := Option.some.inj h; subst h; rfl
    · cases h
  · cases h⟩
noncomputable abbrev P : Program := Tryz.prog
noncomputable abbrev E : Env := Tryz.env
def tagOf : TypeId → Tag := fun t => match t with
  | 3 => (T_int .i64)
  | 4 => T_bool
  | 9 => T_str
  | 22 => T_ptr
  | 23 => T_sl
  | 24 => T_sl
  | 27 => T_sl
  | 28 => (T_int .i64)
  | 32 => (T_int .u8)
  | 49 => (T_int .u8)
  | 51 => (T_int .u16)
  | 54 => T_G_api_Card
  | 63 => T_G_api_Feature
  | 64 => T_any
  | 66 => T_sl
  | 67 => T_arr2_T_sl
  | 68 => T_sl
  | 71 => T_G_api_State
  | 74 => T_ptr
  | 79 => T_G_api_Deed
  | 82 => (T_int .u8)
  | 85 => T_G_api_Thing
  | 89 => T_G_law22_Act
  | 92 => T_G_event_World
  | 118 => T_G_api_Item
  | 126 => T_map
  | 133 => T_sl
  | 137 => T_any
  | 161 => T_any
  | 168 => T_G_layer_place
  | _ => T_any
def resOf : FuncId → List Tag := fun f => match f with
  | 3 => [T_bool]
  | 4 => [T_bool]
  | 5 => [T_bool]
  | 6 => [T_ptr, T_sl, T_sl]
  | 7 => [T_sl, (T_int .i64)]
  | 8 => [T_bool]
  | 9 => [T_G_api_Swapped]
  | 10 => [T_G_api_Swapped, (T_int .i64)]
  | 11 => [T_bool]
  | 12 => [T_bool]
  | 13 => [T_ptr, T_G_api_State]
  | 14 => [T_ptr, (T_int .i64)]
  | 15 => [(T_int .i64)]
  | 16 => [T_G_api_State]
  | 17 => [(T_int .i64)]
  | 18 => [T_bool]
  | 20 => [T_ptr]
  | 21 => [T_bool]
  | 22 => [T_bool]
  | 23 => [T_bool]
  | 24 => [T_bool]
  | 25 => [(T_int .i64)]
  | 26 => [T_G_api_Card]
  | 27 => [(T_int .i64)]
  | 28 => [(T_int .i64)]
  | 29 => [T_sl]
  | 30 => [T_bool]
  | 31 => [(T_int .i64)]
  | 32 => [T_bool]
  | 33 => [T_G_api_Standing, T_bool]
  | 34 => [T_G_api_Happening]
  | 35 => [(T_int .i64), (T_int .i64)]
  | 36 => [T_G_api_State]
  | 37 => [T_bool]
  | 38 => [(T_int .i64)]
  | 39 => [T_bool]
  | 40 => [T_sl]
  | 41 => [T_bool]
  | 42 => [T_bool]
  | 43 => [T_bool]
  | 44 => [T_bool]
  | 45 => [T_bool]
  | 46 => [T_bool]
  | 47 => [T_bool]
  | 48 => [T_bool]
  | 49 => [T_bool]
  | 50 => [T_bool]
  | 51 => [T_bool]
  | 52 => [T_bool]
  | 53 => [T_bool]
  | 54 => [T_bool]
  | 55 => [T_bool]
  | 56 => [T_bool]
  | 57 => [T_bool]
  | 58 => [T_bool]
  | 60 => [T_bool]
  | 61 => [T_bool, (T_int .i64)]
  | 62 => [T_G_api_Item, T_bool, T_bool]
  | 63 => [(T_int .i64)]
  | 64 => [T_bool]
  | 65 => [T_bool]
  | 66 => [T_bool]
  | 67 => [T_bool]
  | 68 => [(T_int .i64)]
  | 69 => [T_bool]
  | 70 => [T_bool]
  | 71 => [(T_int .i64)]
  | 72 => [(T_int .i64)]
  | 73 => [(T_int .i64)]
  | 74 => [T_bool]
  | 75 => [T_G_api_Card]
  | 76 => [T_sl, (T_int .i64)]
  | 77 => [T_bool]
  | 79 => [(T_int .i64)]
  | 80 => [(T_int .i64)]
  | 81 => [T_G_api_Card, (T_int .i64)]
  | 82 => [T_bool]
  | 83 => [T_bool]
  | 84 => [T_bool]
  | 85 => [T_bool]
  | 86 => [T_bool]
  | 87 => [T_map]
  | 88 => [T_bool]
  | 89 => [T_sl]
  | 90 => [T_sl]
  | 91 => [T_sl]
  | 92 => [T_G_api_Card, (T_int .i64)]
  | 93 => [T_sl, (T_int .i64)]
  | 94 => [T_bool]
  | 95 => [T_bool]
  | 96 => [T_G_api_Swapped, T_bool]
  | 99 => [T_G_api_Card]
  | 100 => [(T_int .i64)]
  | 101 => [T_sl]
  | 102 => [T_bool]
  | 103 => [T_bool]
  | 105 => [T_bool]
  | 106 => [T_bool]
  | 107 => [(T_int .i64)]
  | 108 => [(T_int .i64)]
  | 109 => [T_G_layer_place, (T_int .i64)]
  | 110 => [T_sl]
  | 111 => [(T_int .u16)]
  | 113 => [T_bool]
  | 114 => [(T_int .i64)]
  | 115 => [T_bool]
  | 116 => [T_G_api_Happening]
  | 117 => [T_G_api_Happening]
  | 118 => [T_G_api_Happening]
  | 119 => [(T_int .i64)]
  | 120 => [T_G_api_Happening]
  | 121 => [T_sl, (T_int .i64)]
  | 122 => [T_bool]
  | 123 => [T_sl]
  | 124 => [T_sl, (T_int .i64)]
  | 125 => [T_any]
  | 126 => [(T_int .i64)]
  | 127 => [T_bool]
  | 128 => [T_str]
  | 129 => [T_str]
  | 130 => [T_bool]
  | 131 => [T_bool]
  | 132 => [T_bool, T_bool, T_bool, T_bool, T_bool]
  | 133 => [(T_int .i64), (T_int .i64), T_bool]
  | 134 => [T_bool]
  | 135 => [T_bool]
  | 136 => [T_bool]
  | 137 => [T_bool]
  | 138 => [T_bool]
  | 139 => [T_bool]
  | 140 => [T_bool]
  | 142 => [(T_int .i64)]
  | 143 => [(T_int .i64)]
  | 144 => [T_bool]
  | 147 => [T_any, (T_int .i64)]
  | 148 => [(T_int .i64)]
  | 150 => [T_str]
  | 151 => [T_bool]
  | 152 => [T_bool]
  | 153 => [T_bool]
  | 155 => [(T_int .i64)]
  | 157 => [T_sl, (T_int .i64)]
  | 158 => [T_sl, T_sl]
  | 159 => [T_sl, T_sl, (T_int .i64)]
  | 160 => [T_sl]
  | 161 => [T_str]
  | 162 => [T_str]
  | 164 => [T_str]
  | 165 => [T_str]
  | 166 => [T_str]
  | 167 => [T_str]
  | 170 => [(T_int .i64), (T_int .i64)]
  | 172 => [T_bool]
  | 173 => [(T_int .i64)]
  | 174 => [(T_int .i64), T_bool]
  | 175 => [(T_int .i64)]
  | 176 => [(T_int .i64)]
  | 178 => [T_G_api_Feature, (T_int .i64)]
  | 179 => [(T_int .i64)]
  | 180 => [(T_int .i64)]
  | 181 => [T_sl]
  | 182 => [(T_int .i64)]
  | 183 => [T_sl]
  | 184 => [T_sl]
  | 185 => [T_sl]
  | 186 => [T_G_api_Feature, (T_int .i64)]
  | 187 => [T_bool]
  | 188 => [(T_int .i32), (T_int .i64)]
  | 189 => [T_bool]
  | 190 => [(T_int .i32), (T_int .i64)]
  | 192 => [(T_int .u64)]
  | 193 => [(T_int .u64)]
  | 194 => [(T_int .i64)]
  | 195 => [(T_int .i64)]
  | 196 => [T_bool]
  | 197 => [T_bool]
  | 198 => [T_sl]
  | 199 => [(T_int .u16)]
  | 200 => [(T_int .u16)]
  | 201 => [T_G_api_MarkInfo, T_bool]
  | 202 => [(T_int .i32), (T_int .i64)]
  | 203 => [(T_int .i64)]
  | 204 => [T_bool]
  | 205 => [(T_int .i64), (T_int .i64)]
  | 206 => [T_bool]
  | 207 => [T_bool]
  | 208 => [(T_int .i64)]
  | 209 => [T_bool]
  | _ => []
def lkpOf : TypeId → Option Tag := fun t => match t with
  | 126 => some (T_int .i64)
  | _ => none
def rtOf : TypeId → List Tag := fun t => match t with
  | 0 => []
  | 25 => [T_ptr, T_sl, T_sl]
  | 29 => [T_sl, (T_int .i64)]
  | 47 => [T_G_api_Swapped, (T_int .i64)]
  | 72 => [T_ptr, T_G_api_State]
  | 75 => [T_ptr, (T_int .i64)]
  | 104 => [T_G_api_Standing, T_bool]
  | 107 => [(T_int .i64), (T_int .i64)]
  | 119 => [T_bool, (T_int .i64)]
  | 121 => [T_G_api_Item, T_bool, T_bool]
  | 138 => [T_G_api_Card, (T_int .i64)]
  | 150 => [T_sl, (T_int .i64)]
  | 152 => [T_G_api_Swapped, T_bool]
  | 169 => [T_G_layer_place, (T_int .i64)]
  | 179 => [T_sl, (T_int .i64)]
  | 189 => [T_bool, T_bool, T_bool, T_bool, T_bool]
  | 191 => [(T_int .i64), (T_int .i64), T_bool]
  | 204 => [T_any, (T_int .i64)]
  | 206 => [T_sl, T_sl]
  | 212 => [T_sl, T_sl, (T_int .i64)]
  | 223 => [(T_int .i64), (T_int .i64)]
  | 227 => [(T_int .i64), T_bool]
  | 233 => [T_G_api_Feature, (T_int .i64)]
  | 243 => [(T_int .i32), (T_int .i64)]
  | 255 => [T_G_api_MarkInfo, T_bool]
  | 259 => [(T_int .i64), (T_int .i64)]
  | t => [tagOf t]
noncomputable def C : CEnv := { E := E, P := P, tag := tagOf, res := resOf, lkp := lkpOf, rt := rtOf }
theorem hE : C.E.Ok C.P := Tryz.envOk
abbrev n_law21_SwapNames : FuncId := 3
abbrev n_law22_EventKnown : FuncId := 4
abbrev n_law22_EventNone : FuncId := 5
abbrev n_law21_example : FuncId := 6
abbrev n_swap_List : FuncId := 7
abbrev n_law21_is : FuncId := 8
abbrev n_law21_all : FuncId := 9
abbrev n_swap_All : FuncId := 10
abbrev n_law21_awake : FuncId := 11
abbrev n_law21_rest : FuncId := 12
abbrev n_law22_example : FuncId := 13
abbrev n_event_New : FuncId := 14
abbrev n_event_World_Do : FuncId := 15
abbrev n_event_World_State : FuncId := 16
abbrev n_event_World_Count : FuncId := 17
abbrev n_kit_SameInts : FuncId := 18
abbrev n_event_World_Begin : FuncId := 19
abbrev n_book_New : FuncId := 20
abbrev n_law22_awake : FuncId := 21
abbrev n_law22_others : FuncId := 22
abbrev n_law22_none : FuncId := 23
abbrev n_event_May : FuncId := 24
abbrev n_book_Book_Card : FuncId := 25
abbrev n_law21_card : FuncId := 26
abbrev n_book_Book_Seal : FuncId := 27
abbrev n_swap_table_wrong : FuncId := 28
abbrev n_swap_table_list : FuncId := 29
abbrev n_swap_table_may : FuncId := 30
abbrev n_swap_table_shields : FuncId := 31
abbrev n_thing_Unit : FuncId := 32
abbrev n_swap_table_next : FuncId := 33
abbrev n_swap_table_swapped : FuncId := 34
abbrev n_book_Book_Find : FuncId := 35
abbrev n_event_copied : FuncId := 36
abbrev n_event_World_none : FuncId := 37
abbrev n_event_World_wrong : FuncId := 38
abbrev n_event_World_lies : FuncId := 39
abbrev n_event_World_Features : FuncId := 40
abbrev n_event_World_Do_1 : FuncId := 41
abbrev n_event_World_harm : FuncId := 42
abbrev n_event_World_Do_2 : FuncId := 43
abbrev n_event_World_mend : FuncId := 44
abbrev n_event_World_Do_3 : FuncId := 45
abbrev n_event_World_ruin : FuncId := 46
abbrev n_event_World_Do_4 : FuncId := 47
abbrev n_event_World_back : FuncId := 48
abbrev n_event_World_Do_5 : FuncId := 49
abbrev n_event_World_put : FuncId := 50
abbrev n_event_World_Do_6 : FuncId := 51
abbrev n_event_World_gain : FuncId := 52
abbrev n_event_World_Do_7 : FuncId := 53
abbrev n_event_World_draw : FuncId := 54
abbrev n_event_World_Do_8 : FuncId := 55
abbrev n_event_World_drop : FuncId := 56
abbrev n_event_World_Do_9 : FuncId := 57
abbrev n_event_World_call : FuncId := 58
abbrev n_event_World_Settle : FuncId := 59
abbrev n_kit_SameItems : FuncId := 60
abbrev n_event_World_Come : FuncId := 61
abbrev n_event_World_Take : FuncId := 62
abbrev n_event_World_Push : FuncId := 63
abbrev n_kit_SameState : FuncId := 64
abbrev n_book_Book_Sealed : FuncId := 65
abbrev n_event_numbersMay : FuncId := 66
abbrev n_event_thingMay : FuncId := 67
abbrev n_event_owned : FuncId := 68
abbrev n_event_listMay : FuncId := 69
abbrev n_event_stackMay : FuncId := 70
abbrev n_book_Book_shut : FuncId := 71
abbrev n_card_Check : FuncId := 72
abbrev n_book_Book_place : FuncId := 73
abbrev n_book_ahead : FuncId := 74
abbrev n_card_Copy : FuncId := 75
abbrev n_layer_Effects : FuncId := 76
abbrev n_trait_Has : FuncId := 77
abbrev n_slices_SortStableFunc_int_int : FuncId := 78
abbrev n_swap_table_list_1 : FuncId := 79
abbrev n_cmp_Compare_int : FuncId := 80
abbrev n_thing_Card : FuncId := 81
abbrev n_swap_table_lies : FuncId := 82
abbrev n_slices_ContainsFunc_api_Standing_api_Standing : FuncId := 83
abbrev n_swap_table_next_1 : FuncId := 84
abbrev n_swap_same : FuncId := 85
abbrev n_swap_table_swaps : FuncId := 86
abbrev n_swap_table_makers : FuncId := 87
abbrev n_book_Book_none : FuncId := 88
abbrev n_slices_Clone_api_Thing_api_Thing : FuncId := 89
abbrev n_slices_Clone_api_Item_api_Item : FuncId := 90
abbrev n_slices_Clone_int_int : FuncId := 91
abbrev n_book_Book_At : FuncId := 92
abbrev n_view_Of : FuncId := 93
abbrev n_event_World_unit : FuncId := 94
abbrev n_event_World_begins : FuncId := 95
abbrev n_event_World_swapped : FuncId := 96
abbrev n_event_World_move : FuncId := 97
abbrev n_event_World_lay : FuncId := 98
abbrev n_event_World_card : FuncId := 99
abbrev n_thing_Left : FuncId := 100
abbrev n_slices_DeleteFunc_api_Item_api_Item : FuncId := 101
abbrev n_event_World_Come_1 : FuncId := 102
abbrev n_event_itemMay : FuncId := 103
abbrev n_event_World_push : FuncId := 104
abbrev n_kit_SameThings : FuncId := 105
abbrev n_event_numbersMay_1 : FuncId := 106
abbrev n_card_face : FuncId := 107
abbrev n_effect_Check : FuncId := 108
abbrev n_layer_setup : FuncId := 109
abbrev n_layer_place_effects : FuncId := 110
abbrev n_trait_bit : FuncId := 111
abbrev n_slices_stableCmpFunc_int : FuncId := 112
abbrev n_cmp_isNaN_int : FuncId := 113
abbrev n_slices_IndexFunc_api_Standing_api_Standing : FuncId := 114
abbrev n_swap_table_about : FuncId := 115
abbrev n_swap_table_makers_1 : FuncId := 116
abbrev n_swap_table_makers_2 : FuncId := 117
abbrev n_swap_table_makers_3 : FuncId := 118
abbrev n_swap_number : FuncId := 119
abbrev n_swap_table_makers_4 : FuncId := 120
abbrev n_view_Behind : FuncId := 121
abbrev n_event_World_move_1 : FuncId := 122
abbrev n_slices_DeleteFunc_int_int : FuncId := 123
abbrev n_thing_Parts : FuncId := 124
abbrev n_slices_Backward_int_int : FuncId := 125
abbrev n_slices_IndexFunc_api_Item_api_Item : FuncId := 126
abbrev n_card_named : FuncId := 127
abbrev n_suit_Name : FuncId := 128
abbrev n_card_word : FuncId := 129
abbrev n_card_within : FuncId := 130
abbrev n_trait_Check : FuncId := 131
abbrev n_effect_Uses : FuncId := 132
abbrev n_effect_bounds : FuncId := 133
abbrev n_effect_wanted : FuncId := 134
abbrev n_effect_about : FuncId := 135
abbrev n_effect_within_int : FuncId := 136
abbrev n_effect_within_api_Suit : FuncId := 137
abbrev n_effect_within_api_Trait : FuncId := 138
abbrev n_effect_within_api_Mark : FuncId := 139
abbrev n_effect_name : FuncId := 140
abbrev n_slices_SortFunc_int_int : FuncId := 141
abbrev n_layer_setup_1 : FuncId := 142
abbrev n_effect_Layer : FuncId := 143
abbrev n_trait_is : FuncId := 144
abbrev n_slices_insertionSortCmpFunc_int : FuncId := 145
abbrev n_slices_symMergeCmpFunc_int : FuncId := 146
abbrev n_view_walk : FuncId := 147
abbrev n_slices_IndexFunc_int_int : FuncId := 148
abbrev n_slices_Backward_int_int_1 : FuncId := 149
abbrev n_strings_Trim : FuncId := 150
abbrev n_effect_standing : FuncId := 151
abbrev n_effect_swapping : FuncId := 152
abbrev n_effect_event : FuncId := 153
abbrev n_slices_pdqsortCmpFunc_int : FuncId := 154
abbrev n_math_bits_Len : FuncId := 155
abbrev n_slices_rotateCmpFunc_int : FuncId := 156
abbrev n_view_printed : FuncId := 157
abbrev n_view_walk_1 : FuncId := 158
abbrev n_layer_All : FuncId := 159
abbrev n_view_marked : FuncId := 160
abbrev n_strings_trimLeftByte : FuncId := 161
abbrev n_strings_trimRightByte : FuncId := 162
abbrev n_strings_makeASCIISet : FuncId := 163
abbrev n_strings_trimLeftASCII : FuncId := 164
abbrev n_strings_trimRightASCII : FuncId := 165
abbrev n_strings_trimLeftUnicode : FuncId := 166
abbrev n_strings_trimRightUnicode : FuncId := 167
abbrev n_slices_heapSortCmpFunc_int : FuncId := 168
abbrev n_slices_breakPatternsCmpFunc_int : FuncId := 169
abbrev n_slices_choosePivotCmpFunc_int : FuncId := 170
abbrev n_slices_reverseRangeCmpFunc_int : FuncId := 171
abbrev n_slices_partialInsertionSortCmpFunc_int : FuncId := 172
abbrev n_slices_partitionEqualCmpFunc_int : FuncId := 173
abbrev n_slices_partitionCmpFunc_int : FuncId := 174
abbrev n_math_bits_Len32 : FuncId := 175
abbrev n_math_bits_Len64 : FuncId := 176
abbrev n_slices_swapRangeCmpFunc_int : FuncId := 177
abbrev n_thing_Printed : FuncId := 178
abbrev n_slices_Min_int_int : FuncId := 179
abbrev n_slices_Max_int_int : FuncId := 180
abbrev n_slices_Clone_api_Feature_api_Feature : FuncId := 181
abbrev n_layer_place_next : FuncId := 182
abbrev n_layer_place_apply : FuncId := 183
abbrev n_slices_Delete_api_Standing_api_Standing : FuncId := 184
abbrev n_slices_Clone_api_Standing_api_Standing : FuncId := 185
abbrev n_thing_Marked : FuncId := 186
abbrev n_strings_asciiSet_contains : FuncId := 187
abbrev n_unicode_utf8_DecodeRuneInString : FuncId := 188
abbrev n_strings_ContainsRune : FuncId := 189
abbrev n_unicode_utf8_DecodeLastRuneInString : FuncId := 190
abbrev n_slices_siftDownCmpFunc_int : FuncId := 191
abbrev n_slices_nextPowerOfTwo : FuncId := 192
abbrev n_slices_xorshift_Next : FuncId := 193
abbrev n_slices_medianAdjacentCmpFunc_int : FuncId := 194
abbrev n_slices_medianCmpFunc_int : FuncId := 195
abbrev n_layer_place_ahead : FuncId := 196
abbrev n_layer_place_depends : FuncId := 197
abbrev n_layer_place_about : FuncId := 198
abbrev n_trait_With : FuncId := 199
abbrev n_trait_Without : FuncId := 200
abbrev n_book_Book_MarkOf : FuncId := 201
abbrev n_unicode_utf8_decodeRuneInStringSlow : FuncId := 202
abbrev n_strings_IndexRune : FuncId := 203
abbrev n_unicode_utf8_RuneStart : FuncId := 204
abbrev n_slices_order2CmpFunc_int : FuncId := 205
abbrev n_slices_Equal_int_int : FuncId := 206
abbrev n_layer_place_means : FuncId := 207
abbrev n_strings_IndexByte : FuncId := 208
abbrev n_unicode_utf8_ValidRune : FuncId := 209
abbrev n_book_Book_Len : FuncId := 229
abbrev n_api_Errno_Error : FuncId := 230
abbrev n_layer_place_listed : FuncId := 231
abbrev n_var_s_door_gosem_cut_vars_holds_initialisers_alone_see_the_manifest_s_row_cutvarsword_look_11_test_files_too : FuncId := 233
abbrev n_var_s_door_the_look_of_gosem_cut_vars_went_over_the_folder_that_the_caller_named_as_the_repository_s_root_look_11 : FuncId := 234
abbrev n_var_s_door_unicode_utf8_acceptRanges_is_laid_by_its_own_initialiser_plain_data_look_11 : FuncId := 235
abbrev n_var_s_door_unicode_utf8_first_is_laid_by_its_text_alone_pinned_1 : FuncId := 236
end Zv
end Go.Proofs.YtkbdfjlpicflaaaGreatDoor
