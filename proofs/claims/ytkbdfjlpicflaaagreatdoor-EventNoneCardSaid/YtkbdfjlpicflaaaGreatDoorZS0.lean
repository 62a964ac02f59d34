/- Printed by gen2.py: what the functions come to. -/
import Derived.Test.YtkbdfjlpicflaaaGreatDoorZT
import Derived.KernelRfl
namespace Go.Proofs.YtkbdfjlpicflaaaGreatDoor
open Go Zq
namespace Zv
set_option maxRecDepth 100000
set_option linter.unusedVariables false
def S_law22_EventNone (a0 : G_api_State) (a1 : G_law22_Act) (H : Heap) (Q : Bool × Unit → Heap → Prop) : Prop :=
CALL P [T_ptr, (T_int .i64)] n_event_New [(.pointer none), (T_G_api_State.enc a0)] H fun (x1 : (Option Addr) × Int × Unit) H1 =>
NEW H1 [(.bool false), (.bool false), (.int .i64 0), (.string (ByteArray.mk #[])), (.int .u8 0), (.int .u8 0), (.int .i64 0), (.int .i64 0), (.int .i64 0), (.int .u16 0), (.bool false), (.slice none 0 0), (.string (ByteArray.mk #[])), (.int .u8 0), (.int .u8 0), (.int .i64 0), (.int .i64 0), (.int .i64 0), (.int .u16 0), (.bool false), (.slice none 0 0), (.string (ByteArray.mk #[])), (.int .u8 0), (.int .u8 0), (.int .i64 0), (.int .i64 0), (.int .i64 0), (.int .u16 0), (.bool false), (.slice none 0 0), (.string (ByteArray.mk #[])), (.int .u8 0), (.int .u8 0), (.int .i64 0), (.int .i64 0), (.int .i64 0), (.int .u16 0), (.bool false), (.slice none 0 0), (.string (ByteArray.mk #[])), (.int .u8 0), (.int .u8 0), (.int .i64 0), (.int .i64 0), (.int .i64 0), (.int .u16 0), (.bool false), (.slice none 0 0), (.string (ByteArray.mk #[])), (.int .u8 0), (.int .u8 0), (.int .i64 0), (.int .i64 0), (.int .i64 0), (.int .u16 0), (.bool false), (.slice none 0 0), (.string (ByteArray.mk #[])), (.int .u8 0), (.int .u8 0), (.int .i64 0), (.int .i64 0), (.int .i64 0), (.int .u16 0), (.bool false), (.slice none 0 0), (.string (ByteArray.mk #[])), (.int .u8 0), (.int .u8 0), (.int .i64 0), (.int .i64 0), (.int .i64 0), (.int .u16 0), (.bool false), (.slice none 0 0), (.string (ByteArray.mk #[])), (.int .u8 0), (.int .u8 0), (.int .i64 0), (.int .i64 0), (.int .i64 0), (.int .u16 0), (.bool false), (.slice none 0 0), (.string (ByteArray.mk #[])), (.int .u8 0), (.int .u8 0), (.int .i64 0), (.int .i64 0), (.int .i64 0), (.int .u16 0), (.bool false), (.slice none 0 0), (.string (ByteArray.mk #[])), (.int .u8 0), (.int .u8 0), (.int .i64 0), (.int .i64 0), (.int .i64 0), (.int .u16 0), (.bool false), (.slice none 0 0), (.string (ByteArray.mk #[])), (.int .u8 0), (.int .u8 0), (.int .i64 0), (.int .i64 0), (.int .i64 0), (.int .u16 0), (.bool false), (.slice none 0 0), (.string (ByteArray.mk #[])), (.int .u8 0), (.int .u8 0), (.int .i64 0), (.int .i64 0), (.int .i64 0), (.int .u16 0), (.bool false), (.slice none 0 0), (.string (ByteArray.mk #[])), (.int .u8 0), (.int .u8 0), (.int .i64 0), (.int .i64 0), (.int .i64 0), (.int .u16 0), (.bool false), (.slice none 0 0), (.string (ByteArray.mk #[])), (.int .u8 0), (.int .u8 0), (.int .i64 0), (.int .i64 0), (.int .i64 0), (.int .u16 0), (.bool false), (.slice none 0 0), (.string (ByteArray.mk #[])), (.int .u8 0), (.int .u8 0), (.int .i64 0), (.int .i64 0), (.int .i64 0), (.int .u16 0), (.bool false), (.slice none 0 0), (.string (ByteArray.mk #[])), (.int .u8 0), (.int .u8 0), (.int .i64 0), (.int .i64 0), (.int .i64 0), (.int .u16 0), (.bool false), (.slice none 0 0), (.string (ByteArray.mk #[])), (.int .u8 0), (.int .u8 0), (.int .i64 0), (.int .i64 0), (.int .i64 0), (.int .u16 0), (.bool false), (.slice none 0 0), (.string (ByteArray.mk #[])), (.int .u8 0), (.int .u8 0), (.int .i64 0), (.int .i64 0), (.int .i64 0), (.int .u16 0), (.bool false), (.slice none 0 0), (.string (ByteArray.mk #[])), (.int .u8 0), (.int .u8 0), (.int .i64 0), (.int .i64 0), (.int .i64 0), (.int .u16 0), (.bool false), (.slice none 0 0), (.string (ByteArray.mk #[])), (.int .u8 0), (.int .u8 0), (.int .i64 0), (.int .i64 0), (.int .i64 0), (.int .u16 0), (.bool false), (.slice none 0 0), (.string (ByteArray.mk #[])), (.int .u8 0), (.int .u8 0), (.int .i64 0), (.int .i64 0), (.int .i64 0), (.int .u16 0), (.bool false), (.slice none 0 0), (.string (ByteArray.mk #[])), (.int .u8 0), (.int .u8 0), (.int .i64 0), (.int .i64 0), (.int .i64 0), (.int .u16 0), (.bool false), (.slice none 0 0), (.string (ByteArray.mk #[])), (.int .u8 0), (.int .u8 0), (.int .i64 0), (.int .i64 0), (.int .i64 0), (.int .u16 0), (.bool false), (.slice none 0 0), (.string (ByteArray.mk #[])), (.int .u8 0), (.int .u8 0), (.int .i64 0), (.int .i64 0), (.int .i64 0), (.int .u16 0), (.bool false), (.slice none 0 0), (.string (ByteArray.mk #[])), (.int .u8 0), (.int .u8 0), (.int .i64 0), (.int .i64 0), (.int .i64 0), (.int .u16 0), (.bool false), (.slice none 0 0), (.string (ByteArray.mk #[])), (.int .u8 0), (.int .u8 0), (.int .i64 0), (.int .i64 0), (.int .i64 0), (.int .u16 0), (.bool false), (.slice none 0 0), (.string (ByteArray.mk #[])), (.int .u8 0), (.int .u8 0), (.int .i64 0), (.int .i64 0), (.int .i64 0), (.int .u16 0), (.bool false), (.slice none 0 0), (.string (ByteArray.mk #[])), (.int .u8 0), (.int .u8 0), (.int .i64 0), (.int .i64 0), (.int .i64 0), (.int .u16 0), (.bool false), (.slice none 0 0), (.string (ByteArray.mk #[])), (.int .u8 0), (.int .u8 0), (.int .i64 0), (.int .i64 0), (.int .i64 0), (.int .u16 0), (.bool false), (.slice none 0 0), (.string (ByteArray.mk #[])), (.int .u8 0), (.int .u8 0), (.int .i64 0), (.int .i64 0), (.int .i64 0), (.int .u16 0), (.bool false), (.slice none 0 0), (.string (ByteArray.mk #[])), (.int .u8 0), (.int .u8 0), (.int .i64 0), (.int .i64 0), (.int .i64 0), (.int .u16 0), (.bool false), (.slice none 0 0), (.string (ByteArray.mk #[])), (.int .u8 0), (.int .u8 0), (.int .i64 0), (.int .i64 0), (.int .i64 0), (.int .u16 0), (.bool false), (.slice none 0 0), (.string (ByteArray.mk #[])), (.int .u8 0), (.int .u8 0), (.int .i64 0), (.int .i64 0), (.int .i64 0), (.int .u16 0), (.bool false), (.slice none 0 0), (.string (ByteArray.mk #[])), (.int .u8 0), (.int .u8 0), (.int .i64 0), (.int .i64 0), (.int .i64 0), (.int .u16 0), (.bool false), (.slice none 0 0), (.string (ByteArray.mk #[])), (.int .u8 0), (.int .u8 0), (.int .i64 0), (.int .i64 0), (.int .i64 0), (.int .u16 0), (.bool false), (.slice none 0 0), (.string (ByteArray.mk #[])), (.int .u8 0), (.int .u8 0), (.int .i64 0), (.int .i64 0), (.int .i64 0), (.int .u16 0), (.bool false), (.slice none 0 0), (.string (ByteArray.mk #[])), (.int .u8 0), (.int .u8 0), (.int .i64 0), (.int .i64 0), (.int .i64 0), (.int .u16 0), (.bool false), (.slice none 0 0), (.string (ByteArray.mk #[])), (.int .u8 0), (.int .u8 0), (.int .i64 0), (.int .i64 0), (.int .i64 0), (.int .u16 0), (.bool false), (.slice none 0 0), (.string (ByteArray.mk #[])), (.int .u8 0), (.int .u8 0), (.int .i64 0), (.int .i64 0), (.int .i64 0), (.int .u16 0), (.bool false), (.slice none 0 0), (.string (ByteArray.mk #[])), (.int .u8 0), (.int .u8 0), (.int .i64 0), (.int .i64 0), (.int .i64 0), (.int .u16 0), (.bool false), (.slice none 0 0), (.string (ByteArray.mk #[])), (.int .u8 0), (.int .u8 0), (.int .i64 0), (.int .i64 0), (.int .i64 0), (.int .u16 0), (.bool false), (.slice none 0 0), (.string (ByteArray.mk #[])), (.int .u8 0), (.int .u8 0), (.int .i64 0), (.int .i64 0), (.int .i64 0), (.int .u16 0), (.bool false), (.slice none 0 0), (.string (ByteArray.mk #[])), (.int .u8 0), (.int .u8 0), (.int .i64 0), (.int .i64 0), (.int .i64 0), (.int .u16 0), (.bool false), (.slice none 0 0), (.string (ByteArray.mk #[])), (.int .u8 0), (.int .u8 0), (.int .i64 0), (.int .i64 0), (.int .i64 0), (.int .u16 0), (.bool false), (.slice none 0 0), (.string (ByteArray.mk #[])), (.int .u8 0), (.int .u8 0), (.int .i64 0), (.int .i64 0), (.int .i64 0), (.int .u16 0), (.bool false), (.slice none 0 0), (.string (ByteArray.mk #[])), (.int .u8 0), (.int .u8 0), (.int .i64 0), (.int .i64 0), (.int .i64 0), (.int .u16 0), (.bool false), (.slice none 0 0), (.string (ByteArray.mk #[])), (.int .u8 0), (.int .u8 0), (.int .i64 0), (.int .i64 0), (.int .i64 0), (.int .u16 0), (.bool false), (.slice none 0 0), (.string (ByteArray.mk #[])), (.int .u8 0), (.int .u8 0), (.int .i64 0), (.int .i64 0), (.int .i64 0), (.int .u16 0), (.bool false), (.slice none 0 0), (.string (ByteArray.mk #[])), (.int .u8 0), (.int .u8 0), (.int .i64 0), (.int .i64 0), (.int .i64 0), (.int .u16 0), (.bool false), (.slice none 0 0), (.string (ByteArray.mk #[])), (.int .u8 0), (.int .u8 0), (.int .i64 0), (.int .i64 0), (.int .i64 0), (.int .u16 0), (.bool false), (.slice none 0 0), (.string (ByteArray.mk #[])), (.int .u8 0), (.int .u8 0), (.int .i64 0), (.int .i64 0), (.int .i64 0), (.int .u16 0), (.bool false), (.slice none 0 0), (.string (ByteArray.mk #[])), (.int .u8 0), (.int .u8 0), (.int .i64 0), (.int .i64 0), (.int .i64 0), (.int .u16 0), (.bool false), (.slice none 0 0), (.string (ByteArray.mk #[])), (.int .u8 0), (.int .u8 0), (.int .i64 0), (.int .i64 0), (.int .i64 0), (.int .u16 0), (.bool false), (.slice none 0 0), (.string (ByteArray.mk #[])), (.int .u8 0), (.int .u8 0), (.int .i64 0), (.int .i64 0), (.int .i64 0), (.int .u16 0), (.bool false), (.slice none 0 0), (.string (ByteArray.mk #[])), (.int .u8 0), (.int .u8 0), (.int .i64 0), (.int .i64 0), (.int .i64 0), (.int .u16 0), (.bool false), (.slice none 0 0), (.string (ByteArray.mk #[])), (.int .u8 0), (.int .u8 0), (.int .i64 0), (.int .i64 0), (.int .i64 0), (.int .u16 0), (.bool false), (.slice none 0 0), (.string (ByteArray.mk #[])), (.int .u8 0), (.int .u8 0), (.int .i64 0), (.int .i64 0), (.int .i64 0), (.int .u16 0), (.bool false), (.slice none 0 0), (.string (ByteArray.mk #[])), (.int .u8 0), (.int .u8 0), (.int .i64 0), (.int .i64 0), (.int .i64 0), (.int .u16 0), (.bool false), (.slice none 0 0), (.string (ByteArray.mk #[])), (.int .u8 0), (.int .u8 0), (.int .i64 0), (.int .i64 0), (.int .i64 0), (.int .u16 0), (.bool false), (.slice none 0 0), (.string (ByteArray.mk #[])), (.int .u8 0), (.int .u8 0), (.int .i64 0), (.int .i64 0), (.int .i64 0), (.int .u16 0), (.bool false), (.slice none 0 0), (.string (ByteArray.mk #[])), (.int .u8 0), (.int .u8 0), (.int .i64 0), (.int .i64 0), (.int .i64 0), (.int .u16 0), (.bool false), (.slice none 0 0), (.string (ByteArray.mk #[])), (.int .u8 0), (.int .u8 0), (.int .i64 0), (.int .i64 0), (.int .i64 0), (.int .u16 0), (.bool false), (.slice none 0 0), (.string (ByteArray.mk #[])), (.int .u8 0), (.int .u8 0), (.int .i64 0), (.int .i64 0), (.int .i64 0), (.int .u16 0), (.bool false), (.slice none 0 0), (.string (ByteArray.mk #[])), (.string (ByteArray.mk #[])), (.string (ByteArray.mk #[])), (.string (ByteArray.mk #[])), (.string (ByteArray.mk #[])), (.string (ByteArray.mk #[])), (.string (ByteArray.mk #[])), (.string (ByteArray.mk #[])), (.string (ByteArray.mk #[])), (.int .u8 0), (.string (ByteArray.mk #[])), (.int .i64 0), (.int .i64 0), (.int .u8 0), (.string (ByteArray.mk #[])), (.int .i64 0), (.int .i64 0), (.int .u8 0), (.string (ByteArray.mk #[])), (.int .i64 0), (.int .i64 0), (.int .u8 0), (.string (ByteArray.mk #[])), (.int .i64 0), (.int .i64 0), (.int .u8 0), (.string (ByteArray.mk #[])), (.int .i64 0), (.int .i64 0)] 608 fun H2 =>
CALL P [T_ptr, (T_int .i64)] n_event_New [(.pointer (some ⟨H1.length, 0, none⟩)), (T_G_api_State.enc a0)] H2 fun (x2 : (Option Addr) × Int × Unit) H3 =>
JOIN (fun (j3 : (Bool × Unit) × (Unit) → Heap → Prop) =>
CALL P [T_bool] n_law22_none [(.pointer none), (T_G_law22_Act.enc a1)] H3 fun (x5 : Bool × Unit) H5 =>
ifB x5.1 (
NEW H5 [(.pointer none), (.int .i64 0), (.int .i64 0), (.int .i64 0), (.int .i64 0), (.int .i64 0), (.int .i64 0), (.int .i64 0), (.int .i64 0), (.slice none 0 0), (.slice none 0 0), (.slice none 0 0), (.slice none 0 0), (.slice none 0 0), (.slice none 0 0), (.int .i64 0), (.int .u8 0), (.int .i64 0), (.int .i64 0), (.int .i64 0), (.int .i64 0), (.bool false), (.int .i64 0), (.int .i64 0)] 24 fun H6 =>
CALL P [T_bool] n_law22_none [(.pointer (some ⟨H5.length, 0, none⟩)), (T_G_law22_Act.enc a1)] H6 fun (x6 : Bool × Unit) H7 =>
ifB x6.1 (
ifB x1.1.isNone (
ifB x2.1.isNone (
ifB (x1.2.1 == 1) (
ifB (x2.2.1 == 1) (
CALL P [T_bool] n_event_May [(.pointer none), (T_G_api_State.enc a0)] H7 fun (x7 : Bool × Unit) H8 =>
ifB (!x7.1) (
NEW H8 [(.bool false), (.bool false), (.int .i64 0), (.string (ByteArray.mk #[])), (.int .u8 0), (.int .u8 0), (.int .i64 0), (.int .i64 0), (.int .i64 0), (.int .u16 0), (.bool false), (.slice none 0 0), (.string (ByteArray.mk #[])), (.int .u8 0), (.int .u8 0), (.int .i64 0), (.int .i64 0), (.int .i64 0), (.int .u16 0), (.bool false), (.slice none 0 0), (.string (ByteArray.mk #[])), (.int .u8 0), (.int .u8 0), (.int .i64 0), (.int .i64 0), (.int .i64 0), (.int .u16 0), (.bool false), (.slice none 0 0), (.string (ByteArray.mk #[])), (.int .u8 0), (.int .u8 0), (.int .i64 0), (.int .i64 0), (.int .i64 0), (.int .u16 0), (.bool false), (.slice none 0 0), (.string (ByteArray.mk #[])), (.int .u8 0), (.int .u8 0), (.int .i64 0), (.int .i64 0), (.int .i64 0), (.int .u16 0), (.bool false), (.slice none 0 0), (.string (ByteArray.mk #[])), (.int .u8 0), (.int .u8 0), (.int .i64 0), (.int .i64 0), (.int .i64 0), (.int .u16 0), (.bool false), (.slice none 0 0), (.string (ByteArray.mk #[])), (.int .u8 0), (.int .u8 0), (.int .i64 0), (.int .i64 0), (.int .i64 0), (.int .u16 0), (.bool false), (.slice none 0 0), (.string (ByteArray.mk #[])), (.int .u8 0), (.int .u8 0), (.int .i64 0), (.int .i64 0), (.int .i64 0), (.int .u16 0), (.bool false), (.slice none 0 0), (.string (ByteArray.mk #[])), (.int .u8 0), (.int .u8 0), (.int .i64 0), (.int .i64 0), (.int .i64 0), (.int .u16 0), (.bool false), (.slice none 0 0), (.string (ByteArray.mk #[])), (.int .u8 0), (.int .u8 0), (.int .i64 0), (.int .i64 0), (.int .i64 0), (.int .u16 0), (.bool false), (.slice none 0 0), (.string (ByteArray.mk #[])), (.int .u8 0), (.int .u8 0), (.int .i64 0), (.int .i64 0), (.int .i64 0), (.int .u16 0), (.bool false), (.slice none 0 0), (.string (ByteArray.mk #[])), (.int .u8 0), (.int .u8 0), (.int .i64 0), (.int .i64 0), (.int .i64 0), (.int .u16 0), (.bool false), (.slice none 0 0), (.string (ByteArray.mk #[])), (.int .u8 0), (.int .u8 0), (.int .i64 0), (.int .i64 0), (.int .i64 0), (.int .u16 0), (.bool false), (.slice none 0 0), (.string (ByteArray.mk #[])), (.int .u8 0), (.int .u8 0), (.int .i64 0), (.int .i64 0), (.int .i64 0), (.int .u16 0), (.bool false), (.slice none 0 0), (.string (ByteArray.mk #[])), (.int .u8 0), (.int .u8 0), (.int .i64 0), (.int .i64 0), (.int .i64 0), (.int .u16 0), (.bool false), (.slice none 0 0), (.string (ByteArray.mk #[])), (.int .u8 0), (.int .u8 0), (.int .i64 0), (.int .i64 0), (.int .i64 0), (.int .u16 0), (.bool false), (.slice none 0 0), (.string (ByteArray.mk #[])), (.int .u8 0), (.int .u8 0), (.int .i64 0), (.int .i64 0), (.int .i64 0), (.int .u16 0), (.bool false), (.slice none 0 0), (.string (ByteArray.mk #[])), (.int .u8 0), (.int .u8 0), (.int .i64 0), (.int .i64 0), (.int .i64 0), (.int .u16 0), (.bool false), (.slice none 0 0), (.string (ByteArray.mk #[])), (.int .u8 0), (.int .u8 0), (.int .i64 0), (.int .i64 0), (.int .i64 0), (.int .u16 0), (.bool false), (.slice none 0 0), (.string (ByteArray.mk #[])), (.int .u8 0), (.int .u8 0), (.int .i64 0), (.int .i64 0), (.int .i64 0), (.int .u16 0), (.bool false), (.slice none 0 0), (.string (ByteArray.mk #[])), (.int .u8 0), (.int .u8 0), (.int .i64 0), (.int .i64 0), (.int .i64 0), (.int .u16 0), (.bool false), (.slice none 0 0), (.string (ByteArray.mk #[])), (.int .u8 0), (.int .u8 0), (.int .i64 0), (.int .i64 0), (.int .i64 0), (.int .u16 0), (.bool false), (.slice none 0 0), (.string (ByteArray.mk #[])), (.int .u8 0), (.int .u8 0), (.int .i64 0), (.int .i64 0), (.int .i64 0), (.int .u16 0), (.bool false), (.slice none 0 0), (.string (ByteArray.mk #[])), (.int .u8 0), (.int .u8 0), (.int .i64 0), (.int .i64 0), (.int .i64 0), (.int .u16 0), (.bool false), (.slice none 0 0), (.string (ByteArray.mk #[])), (.int .u8 0), (.int .u8 0), (.int .i64 0), (.int .i64 0), (.int .i64 0), (.int .u16 0), (.bool false), (.slice none 0 0), (.string (ByteArray.mk #[])), (.int .u8 0), (.int .u8 0), (.int .i64 0), (.int .i64 0), (.int .i64 0), (.int .u16 0), (.bool false), (.slice none 0 0), (.string (ByteArray.mk #[])), (.int .u8 0), (.int .u8 0), (.int .i64 0), (.int .i64 0), (.int .i64 0), (.int .u16 0), (.bool false), (.slice none 0 0), (.string (ByteArray.mk #[])), (.int .u8 0), (.int .u8 0), (.int .i64 0), (.int .i64 0), (.int .i64 0), (.int .u16 0), (.bool false), (.slice none 0 0), (.string (ByteArray.mk #[])), (.int .u8 0), (.int .u8 0), (.int .i64 0), (.int .i64 0), (.int .i64 0), (.int .u16 0), (.bool false), (.slice none 0 0), (.string (ByteArray.mk #[])), (.int .u8 0), (.int .u8 0), (.int .i64 0), (.int .i64 0), (.int .i64 0), (.int .u16 0), (.bool false), (.slice none 0 0), (.string (ByteArray.mk #[])), (.int .u8 0), (.int .u8 0), (.int .i64 0), (.int .i64 0), (.int .i64 0), (.int .u16 0), (.bool false), (.slice none 0 0), (.string (ByteArray.mk #[])), (.int .u8 0), (.int .u8 0), (.int .i64 0), (.int .i64 0), (.int .i64 0), (.int .u16 0), (.bool false), (.slice none 0 0), (.string (ByteArray.mk #[])), (.int .u8 0), (.int .u8 0), (.int .i64 0), (.int .i64 0), (.int .i64 0), (.int .u16 0), (.bool false), (.slice none 0 0), (.string (ByteArray.mk #[])), (.int .u8 0), (.int .u8 0), (.int .i64 0), (.int .i64 0), (.int .i64 0), (.int .u16 0), (.bool false), (.slice none 0 0), (.string (ByteArray.mk #[])), (.int .u8 0), (.int .u8 0), (.int .i64 0), (.int .i64 0), (.int .i64 0), (.int .u16 0), (.bool false), (.slice none 0 0), (.string (ByteArray.mk #[])), (.int .u8 0), (.int .u8 0), (.int .i64 0), (.int .i64 0), (.int .i64 0), (.int .u16 0), (.bool false), (.slice none 0 0), (.string (ByteArray.mk #[])), (.int .u8 0), (.int .u8 0), (.int .i64 0), (.int .i64 0), (.int .i64 0), (.int .u16 0), (.bool false), (.slice none 0 0), (.string (ByteArray.mk #[])), (.int .u8 0), (.int .u8 0), (.int .i64 0), (.int .i64 0), (.int .i64 0), (.int .u16 0), (.bool false), (.slice none 0 0), (.string (ByteArray.mk #[])), (.int .u8 0), (.int .u8 0), (.int .i64 0), (.int .i64 0), (.int .i64 0), (.int .u16 0), (.bool false), (.slice none 0 0), (.string (ByteArray.mk #[])), (.int .u8 0), (.int .u8 0), (.int .i64 0), (.int .i64 0), (.int .i64 0), (.int .u16 0), (.bool false), (.slice none 0 0), (.string (ByteArray.mk #[])), (.int .u8 0), (.int .u8 0), (.int .i64 0), (.int .i64 0), (.int .i64 0), (.int .u16 0), (.bool false), (.slice none 0 0), (.string (ByteArray.mk #[])), (.int .u8 0), (.int .u8 0), (.int .i64 0), (.int .i64 0), (.int .i64 0), (.int .u16 0), (.bool false), (.slice none 0 0), (.string (ByteArray.mk #[])), (.int .u8 0), (.int .u8 0), (.int .i64 0), (.int .i64 0), (.int .i64 0), (.int .u16 0), (.bool false), (.slice none 0 0), (.string (ByteArray.mk #[])), (.int .u8 0), (.int .u8 0), (.int .i64 0), (.int .i64 0), (.int .i64 0), (.int .u16 0), (.bool false), (.slice none 0 0), (.string (ByteArray.mk #[])), (.int .u8 0), (.int .u8 0), (.int .i64 0), (.int .i64 0), (.int .i64 0), (.int .u16 0), (.bool false), (.slice none 0 0), (.string (ByteArray.mk #[])), (.int .u8 0), (.int .u8 0), (.int .i64 0), (.int .i64 0), (.int .i64 0), (.int .u16 0), (.bool false), (.slice none 0 0), (.string (ByteArray.mk #[])), (.int .u8 0), (.int .u8 0), (.int .i64 0), (.int .i64 0), (.int .i64 0), (.int .u16 0), (.bool false), (.slice none 0 0), (.string (ByteArray.mk #[])), (.int .u8 0), (.int .u8 0), (.int .i64 0), (.int .i64 0), (.int .i64 0), (.int .u16 0), (.bool false), (.slice none 0 0), (.string (ByteArray.mk #[])), (.int .u8 0), (.int .u8 0), (.int .i64 0), (.int .i64 0), (.int .i64 0), (.int .u16 0), (.bool false), (.slice none 0 0), (.string (ByteArray.mk #[])), (.int .u8 0), (.int .u8 0), (.int .i64 0), (.int .i64 0), (.int .i64 0), (.int .u16 0), (.bool false), (.slice none 0 0), (.string (ByteArray.mk #[])), (.int .u8 0), (.int .u8 0), (.int .i64 0), (.int .i64 0), (.int .i64 0), (.int .u16 0), (.bool false), (.slice none 0 0), (.string (ByteArray.mk #[])), (.int .u8 0), (.int .u8 0), (.int .i64 0), (.int .i64 0), (.int .i64 0), (.int .u16 0), (.bool false), (.slice none 0 0), (.string (ByteArray.mk #[])), (.int .u8 0), (.int .u8 0), (.int .i64 0), (.int .i64 0), (.int .i64 0), (.int .u16 0), (.bool false), (.slice none 0 0), (.string (ByteArray.mk #[])), (.int .u8 0), (.int .u8 0), (.int .i64 0), (.int .i64 0), (.int .i64 0), (.int .u16 0), (.bool false), (.slice none 0 0), (.string (ByteArray.mk #[])), (.int .u8 0), (.int .u8 0), (.int .i64 0), (.int .i64 0), (.int .i64 0), (.int .u16 0), (.bool false), (.slice none 0 0), (.string (ByteArray.mk #[])), (.int .u8 0), (.int .u8 0), (.int .i64 0), (.int .i64 0), (.int .i64 0), (.int .u16 0), (.bool false), (.slice none 0 0), (.string (ByteArray.mk #[])), (.int .u8 0), (.int .u8 0), (.int .i64 0), (.int .i64 0), (.int .i64 0), (.int .u16 0), (.bool false), (.slice none 0 0), (.string (ByteArray.mk #[])), (.int .u8 0), (.int .u8 0), (.int .i64 0), (.int .i64 0), (.int .i64 0), (.int .u16 0), (.bool false), (.slice none 0 0), (.string (ByteArray.mk #[])), (.int .u8 0), (.int .u8 0), (.int .i64 0), (.int .i64 0), (.int .i64 0), (.int .u16 0), (.bool false), (.slice none 0 0), (.string (ByteArray.mk #[])), (.int .u8 0), (.int .u8 0), (.int .i64 0), (.int .i64 0), (.int .i64 0), (.int .u16 0), (.bool false), (.slice none 0 0), (.string (ByteArray.mk #[])), (.int .u8 0), (.int .u8 0), (.int .i64 0), (.int .i64 0), (.int .i64 0), (.int .u16 0), (.bool false), (.slice none 0 0), (.string (ByteArray.mk #[])), (.int .u8 0), (.int .u8 0), (.int .i64 0), (.int .i64 0), (.int .i64 0), (.int .u16 0), (.bool false), (.slice none 0 0), (.string (ByteArray.mk #[])), (.int .u8 0), (.int .u8 0), (.int .i64 0), (.int .i64 0), (.int .i64 0), (.int .u16 0), (.bool false), (.slice none 0 0), (.string (ByteArray.mk #[])), (.int .u8 0), (.int .u8 0), (.int .i64 0), (.int .i64 0), (.int .i64 0), (.int .u16 0), (.bool false), (.slice none 0 0), (.string (ByteArray.mk #[])), (.string (ByteArray.mk #[])), (.string (ByteArray.mk #[])), (.string (ByteArray.mk #[])), (.string (ByteArray.mk #[])), (.string (ByteArray.mk #[])), (.string (ByteArray.mk #[])), (.string (ByteArray.mk #[])), (.string (ByteArray.mk #[])), (.int .u8 0), (.string (ByteArray.mk #[])), (.int .i64 0), (.int .i64 0), (.int .u8 0), (.string (ByteArray.mk #[])), (.int .i64 0), (.int .i64 0), (.int .u8 0), (.string (ByteArray.mk #[])), (.int .i64 0), (.int .i64 0), (.int .u8 0), (.string (ByteArray.mk #[])), (.int .i64 0), (.int .i64 0), (.int .u8 0), (.string (ByteArray.mk #[])), (.int .i64 0), (.int .i64 0)] 608 fun H9 =>
CALL P [T_bool] n_event_May [(.pointer (some ⟨H8.length, 0, none⟩)), (T_G_api_State.enc a0)] H9 fun (x8 : Bool × Unit) H10 =>
ifB (!x8.1) (
CALL P [T_bool] n_law22_awake [] H10 fun (x9 : Bool × Unit) H11 =>
j3 ((x9.1, ()), (())) H11) (
j3 ((false, ()), (())) H10)) (
j3 ((false, ()), (())) H8)) (
j3 ((false, ()), (())) H7)) (
j3 ((false, ()), (())) H7)) (
j3 ((false, ()), (())) H7)) (
j3 ((false, ()), (())) H7)) (
j3 ((false, ()), (())) H7)) (
j3 ((false, ()), (())) H5)) fun (y4 : (Bool × Unit) × (Unit)) H4 =>
Q (y4.1.1, ()) H4
def h_law22_EventNone : Hnt := (.seq .leaf (.seq .leaf (.seq .leaf (.seq (.reg ⟨[(4, T_bool)], [], [21, 22, 23, 24, 25, 26, 27, 28, 29, 30, 31, 32, 33, 34, 35, 36, 37, 38, 39, 40, 41, 42, 43, 44, 45, 46, 47, 48, 49, 50, 51, 52, 53, 54, 55, 56, 57, 58, 59]⟩) .leaf))))
theorem e_law22_EventNone (a0 : G_api_State) (a1 : G_law22_Act) (H : Heap) (Q : Bool × Unit → Heap → Prop) : S_law22_EventNone a0 a1 H Q = cFn C [2, 3] Tryz.f5.ntmps Tryz.f5.results.toList [T_bool] (bodyOf Tryz.f5) h_law22_EventNone [(T_G_api_State.enc a0), (T_G_law22_Act.enc a1)] H Q := by kernel_rfl
theorem c_law22_EventNone {a0 : G_api_State} {a1 : G_law22_Act} {H : Heap} {Q : Bool × Unit → Heap → Prop} (h : S_law22_EventNone a0 a1 H Q) : CALL P [T_bool] n_law22_EventNone [(T_G_api_State.enc a0), (T_G_law22_Act.enc a1)] H Q := call_print hE Tryz.func5 rfl (by kernel_rfl) (e_law22_EventNone a0 a1 H Q) h

def S_event_New (a0 : Option Addr) (a1 : G_api_State) (H : Heap) (Q : (Option Addr) × Int × Unit → Heap → Prop) : Prop :=
CALL P [(T_int .i64), (T_int .i64)] n_book_Book_Find [(.pointer a0), (.string (ByteArray.mk #[]))] H fun (x1 : Int × Int × Unit) H1 =>
ifB (x1.2.1 == 1) (
Q (none, x1.2.1, ()) H1) (
CALL P [T_bool] n_event_May [(.pointer a0), (T_G_api_State.enc a1)] H1 fun (x2 : Bool × Unit) H2 =>
ifB (!x2.1) (
Q (none, 2, ()) H2) (
CALL P [T_G_api_State] n_event_copied [(T_G_api_State.enc a1)] H2 fun (x3 : G_api_State × Unit) H3 =>
NEW H3 [(.pointer a0), (.int .i64 x3.1.Life.1), (.int .i64 x3.1.Life.2), (.int .i64 x3.1.Mana.1), (.int .i64 x3.1.Mana.2), (.int .i64 x3.1.Most.1), (.int .i64 x3.1.Most.2), (.int .i64 x3.1.Nothing.1), (.int .i64 x3.1.Nothing.2), (.slice x3.1.Things.p x3.1.Things.len x3.1.Things.cap), (.slice x3.1.Decks.1.p x3.1.Decks.1.len x3.1.Decks.1.cap), (.slice x3.1.Decks.2.p x3.1.Decks.2.len x3.1.Decks.2.cap), (.slice x3.1.Hands.1.p x3.1.Hands.1.len x3.1.Hands.1.cap), (.slice x3.1.Hands.2.p x3.1.Hands.2.len x3.1.Hands.2.cap), (.slice x3.1.Stack.p x3.1.Stack.len x3.1.Stack.cap), (.int .i64 x3.1.Turn), (.int .u8 x3.1.Phase), (.int .i64 x3.1.Word), (.int .i64 x3.1.Passes), (.int .i64 x3.1.Stamp), (.int .i64 x3.1.Actions), (.bool x3.1.Over), (.int .i64 x3.1.Winner), (.int .i64 0)] 24 fun H4 =>
Q ((some ⟨H3.length, 0, none⟩), 0, ()) H4))
def h_event_New : Hnt := .leaf
theorem e_event_New (a0 : Option Addr) (a1 : G_api_State) (H : Heap) (Q : (Option Addr) × Int × Unit → Heap → Prop) : S_event_New a0 a1 H Q = cFn C [3] Tryz.f14.ntmps Tryz.f14.results.toList [T_ptr, (T_int .i64)] (bodyOf Tryz.f14) h_event_New [(.pointer a0), (T_G_api_State.enc a1)] H Q := by kernel_rfl
theorem c_event_New {a0 : Option Addr} {a1 : G_api_State} {H : Heap} {Q : (Option Addr) × Int × Unit → Heap → Prop} (h : S_event_New a0 a1 H Q) : CALL P [T_ptr, (T_int .i64)] n_event_New [(.pointer a0), (T_G_api_State.enc a1)] H Q := call_print hE Tryz.func14 rfl (by kernel_rfl) (e_event_New a0 a1 H Q) h

def S_event_World_Do (a0 : Option Addr) (a1 : G_api_Deed) (H : Heap) (Q : Int × Unit → Heap → Prop) : Prop :=
NEW H [(.pointer a0)] 1 fun H1 =>
NEW H1 [(.int .u8 a1.Verb), (.int .i64 a1.On), (.int .i64 a1.Count), (.int .u8 a1.Mark), (.string a1.Name), (.int .i64 a1.Holder), (.bool a1.Venom), (.bool a1.Drain)] 8 fun H2 =>
LD T_ptr H2 H.length 0 fun (x1 : Option Addr) =>
CALL P [T_bool] n_event_World_none [(.pointer x1)] H2 fun (x2 : Bool × Unit) H3 =>
ifB x2.1 (
Q (1, ()) H3) (
LD T_ptr H3 H.length 0 fun (x3 : Option Addr) =>
LD T_G_api_Deed H3 H1.length 0 fun (x4 : G_api_Deed) =>
CALL P [(T_int .i64)] n_event_World_wrong [(.pointer x3), (T_G_api_Deed.enc x4)] H3 fun (x5 : Int × Unit) H4 =>
ifB (x5.1 != 0) (
Q (x5.1, ()) H4) (
LD (T_int .i64) H4 H1.length 1 fun (x6 : Int) =>
NEW H4 [(.int .i64 0)] 1 fun H5 =>
ST H5 H4.length 0 [(.int .i64 (IntKind.wrap .i64 ((-1) - x6)))] fun H6 =>
LD (T_int .i64) H6 H1.length 1 fun (x7 : Int) =>
JOIN (fun (j8 : (Unit) × (Unit) → Heap → Prop) =>
ifB (decide (x7 > 0)) (
LD T_ptr H6 H.length 0 fun (x10 : Option Addr) =>
LD (T_int .i64) H6 H1.length 1 fun (x11 : Int) =>
CALL P [T_bool] n_event_World_lies [(.pointer x10), (.int .i64 x11)] H6 fun (x12 : Bool × Unit) H8 =>
ifB (!x12.1) (
Q (0, ()) H8) (
LD T_ptr H8 H.length 0 fun (x13 : Option Addr) =>
LD (T_int .i64) H8 H1.length 1 fun (x14 : Int) =>
CALL P [T_sl] n_event_World_Features [(.pointer x13)] H8 fun (x15 : Sl × Unit) H9 =>
LD (T_int .i64) H9 H1.length 1 fun (x16 : Int) =>
REQ ((T_int .i64).enc x16 = (.int .i64 x14)) (
IDX x15.1.p x15.1.len (IntKind.wrap .i64 (x14 - 1)) 5 fun b17 o18 =>
LD (T_int .i64) H9 b17 (o18 + 0) fun (x19 : Int) =>
ST H9 H4.length 0 [(.int .i64 x19)] fun H10 =>
j8 ((()), (())) H10))) (
j8 ((()), (())) H6)) fun (y9 : (Unit) × (Unit)) H7 =>
LD (T_int .u8) H7 H1.length 0 fun (x20 : Int) =>
JOIN (fun (j21 : (Int × Value × Unit) × (Unit) → Heap → Prop) =>
ifB (x20 == 1) (
j21 ((1, (.func (.func n_event_World_Do_1) #[] #[(.pointer (some ⟨H.length, 0, none⟩)), (.pointer (some ⟨H1.length, 0, none⟩))]), ()), (())) H7) (
JOIN (fun (j23 : (Int × Value × Unit) × (Unit) → Heap → Prop) =>
ifB (x20 == 2) (
j23 ((1, (.func (.func n_event_World_Do_2) #[] #[(.pointer (some ⟨H.length, 0, none⟩)), (.pointer (some ⟨H1.length, 0, none⟩))]), ()), (())) H7) (
JOIN (fun (j25 : (Int × Value × Unit) × (Unit) → Heap → Prop) =>
ifB (x20 == 6) (
j25 ((1, (.func (.func n_event_World_Do_3) #[] #[(.pointer (some ⟨H.length, 0, none⟩)), (.pointer (some ⟨H1.length, 0, none⟩))]), ()), (())) H7) (
JOIN (fun (j27 : (Int × Value × Unit) × (Unit) → Heap → Prop) =>
ifB (x20 == 8) (
j27 ((1, (.func (.func n_event_World_Do_4) #[] #[(.pointer (some ⟨H.length, 0, none⟩)), (.pointer (some ⟨H1.length, 0, none⟩))]), ()), (())) H7) (
JOIN (fun (j29 : (Int × Value × Unit) × (Unit) → Heap → Prop) =>
ifB (x20 == 9) (
j29 ((1, (.func (.func n_event_World_Do_5) #[] #[(.pointer (some ⟨H.length, 0, none⟩)), (.pointer (some ⟨H1.length, 0, none⟩))]), ()), (())) H7) (
JOIN (fun (j31 : (Int × Value × Unit) × (Unit) → Heap → Prop) =>
ifB (x20 == 5) (
j31 ((1, (.func (.func n_event_World_Do_6) #[] #[(.pointer (some ⟨H.length, 0, none⟩)), (.pointer (some ⟨H4.length, 0, none⟩)), (.pointer (some ⟨H1.length, 0, none⟩))]), ()), (())) H7) (
JOIN (fun (j33 : (Int × Value × Unit) × (Unit) → Heap → Prop) =>
ifB (x20 == 3) (
LD (T_int .i64) H7 H1.length 2 fun (x35 : Int) =>
j33 ((x35, (.func (.func n_event_World_Do_7) #[] #[(.pointer (some ⟨H.length, 0, none⟩)), (.pointer (some ⟨H4.length, 0, none⟩))]), ()), (())) H7) (
JOIN (fun (j36 : (Int × Value × Unit) × (Unit) → Heap → Prop) =>
ifB (x20 == 4) (
LD (T_int .i64) H7 H1.length 2 fun (x38 : Int) =>
j36 ((x38, (.func (.func n_event_World_Do_8) #[] #[(.pointer (some ⟨H.length, 0, none⟩)), (.pointer (some ⟨H4.length, 0, none⟩))]), ()), (())) H7) (
LD (T_int .i64) H7 H1.length 2 fun (x39 : Int) =>
j36 ((x39, (.func (.func n_event_World_Do_9) #[] #[(.pointer (some ⟨H.length, 0, none⟩)), (.pointer (some ⟨H4.length, 0, none⟩)), (.pointer (some ⟨H1.length, 0, none⟩))]), ()), (())) H7)) fun (y37 : (Int × Value × Unit) × (Unit)) H18 =>
j33 ((y37.1.1, y37.1.2.1, ()), (())) H18)) fun (y34 : (Int × Value × Unit) × (Unit)) H17 =>
j31 ((y34.1.1, y34.1.2.1, ()), (())) H17)) fun (y32 : (Int × Value × Unit) × (Unit)) H16 =>
j29 ((y32.1.1, y32.1.2.1, ()), (())) H16)) fun (y30 : (Int × Value × Unit) × (Unit)) H15 =>
j27 ((y30.1.1, y30.1.2.1, ()), (())) H15)) fun (y28 : (Int × Value × Unit) × (Unit)) H14 =>
j25 ((y28.1.1, y28.1.2.1, ()), (())) H14)) fun (y26 : (Int × Value × Unit) × (Unit)) H13 =>
j23 ((y26.1.1, y26.1.2.1, ()), (())) H13)) fun (y24 : (Int × Value × Unit) × (Unit)) H12 =>
j21 ((y24.1.1, y24.1.2.1, ()), (())) H12)) fun (y22 : (Int × Value × Unit) × (Unit)) H11 =>
JOIN (fun (j40 : (Unit) × (Unit) → Heap → Prop) =>
LOOP (fun (r42 : (Int × Unit) × (Unit) → Heap → Prop) (s43 : (Int × Unit) × (Unit)) H20 =>
JOIN (fun (j44 : (Bool × Unit) × (Unit) → Heap → Prop) =>
ifB (decide (s43.1.1 > 0)) (
CALLV P [T_bool] y22.1.2.1 [] H20 fun (x46 : Bool × Unit) H22 =>
j44 ((x46.1, ()), (())) H22) (
j44 ((false, ()), (())) H20)) fun (y45 : (Bool × Unit) × (Unit)) H21 =>
ifB y45.1.1 (
LD T_ptr H21 H.length 0 fun (x47 : Option Addr) =>
CALL P [] n_event_World_Settle [(.pointer x47)] H21 fun (x48 : Unit) H23 =>
r42 ((IntKind.wrap .i64 (s43.1.1 - 1), ()), (())) H23) (
j40 ((()), (())) H21)) ((y22.1.1, ()), (())) H11) fun (y41 : (Unit) × (Unit)) H19 =>
Q (0, ()) H19))
def h_event_World_Do : Hnt := (.seq .leaf (.seq .leaf (.seq .leaf (.seq .leaf (.seq (.seq .leaf (.cond (some ⟨[], [], [4, 23, 24, 25, 26, 27, 28, 29, 30, 31, 32, 33, 34, 35]⟩) .leaf .leaf)) (.seq .leaf (.seq .leaf (.seq (.seq .leaf (.blk none (.seq .leaf (.cond (some ⟨[(7, (T_int .i64)), (8, T_any)], [], [38, 39, 40, 43, 44, 45, 46, 47, 48, 49, 50, 51, 52, 53, 54, 55, 56, 57, 58, 59, 60, 61, 62, 63, 64, 65, 66, 67, 68]⟩) .leaf (.seq .leaf (.cond (some ⟨[(7, (T_int .i64)), (8, T_any)], [], [38, 39, 40, 46, 47, 48, 49, 50, 51, 52, 53, 54, 55, 56, 57, 58, 59, 60, 61, 62, 63, 64, 65, 66, 67, 68]⟩) .leaf (.seq .leaf (.cond (some ⟨[(7, (T_int .i64)), (8, T_any)], [], [38, 39, 40, 49, 50, 51, 52, 53, 54, 55, 56, 57, 58, 59, 60, 61, 62, 63, 64, 65, 66, 67, 68]⟩) .leaf (.seq .leaf (.cond (some ⟨[(7, (T_int .i64)), (8, T_any)], [], [38, 39, 40, 52, 53, 54, 55, 56, 57, 58, 59, 60, 61, 62, 63, 64, 65, 66, 67, 68]⟩) .leaf (.seq .leaf (.cond (some ⟨[(7, (T_int .i64)), (8, T_any)], [], [38, 39, 40, 55, 56, 57, 58, 59, 60, 61, 62, 63, 64, 65, 66, 67, 68]⟩) .leaf (.seq .leaf (.cond (some ⟨[(7, (T_int .i64)), (8, T_any)], [], [38, 39, 40, 58, 59, 60, 61, 62, 63, 64, 65, 66, 67, 68]⟩) .leaf (.seq .leaf (.cond (some ⟨[(7, (T_int .i64)), (8, T_any)], [], [38, 39, 40, 61, 62, 63, 64, 65, 66, 67, 68]⟩) .leaf (.seq .leaf (.cond (some ⟨[(7, (T_int .i64)), (8, T_any)], [], [38, 39, 40, 66, 67, 68]⟩) .leaf .leaf)))))))))))))))))) (.seq (.blk (some ⟨[], [], [7, 69, 70, 71, 72, 73, 74, 75, 76, 77, 78]⟩) (.loop ⟨[(7, (T_int .i64))], [], [69, 70, 71, 72, 73, 74, 75, 76, 77, 78]⟩ (.seq (.seq (.reg ⟨[(74, T_bool)], [], [69, 70, 71, 72, 73]⟩) .leaf) .leaf))) .leaf)))))))))
theorem e_event_World_Do (a0 : Option Addr) (a1 : G_api_Deed) (H : Heap) (Q : Int × Unit → Heap → Prop) : S_event_World_Do a0 a1 H Q = cFn C [] Tryz.f15.ntmps Tryz.f15.results.toList [(T_int .i64)] (bodyOf Tryz.f15) h_event_World_Do [(.pointer a0), (T_G_api_Deed.enc a1)] H Q := by kernel_rfl
theorem c_event_World_Do {a0 : Option Addr} {a1 : G_api_Deed} {H : Heap} {Q : Int × Unit → Heap → Prop} (h : S_event_World_Do a0 a1 H Q) : CALL P [(T_int .i64)] n_event_World_Do [(.pointer a0), (T_G_api_Deed.enc a1)] H Q := call_print hE Tryz.func15 rfl (by kernel_rfl) (e_event_World_Do a0 a1 H Q) h

def S_event_World_State (a0 : Option Addr) (H : Heap) (Q : G_api_State × Unit → Heap → Prop) : Prop :=
CALL P [T_bool] n_event_World_none [(.pointer a0)] H fun (x1 : Bool × Unit) H1 =>
ifB x1.1 (
Q ((G_api_State.mk (0, 0) (0, 0) (0, 0) (0, 0) (Sl.mk none 0 0) ((Sl.mk none 0 0), (Sl.mk none 0 0)) ((Sl.mk none 0 0), (Sl.mk none 0 0)) (Sl.mk none 0 0) 0 0 0 0 0 0 false 0), ()) H1) (
NIL a0 fun b2 o3 =>
LD T_G_api_State H1 b2 (o3 + 1) fun (x4 : G_api_State) =>
CALL P [T_G_api_State] n_event_copied [(T_G_api_State.enc x4)] H1 fun (x5 : G_api_State × Unit) H2 =>
Q (x5.1, ()) H2)
def h_event_World_State : Hnt := .leaf
theorem e_event_World_State (a0 : Option Addr) (H : Heap) (Q : G_api_State × Unit → Heap → Prop) : S_event_World_State a0 H Q = cFn C [2] Tryz.f16.ntmps Tryz.f16.results.toList [T_G_api_State] (bodyOf Tryz.f16) h_event_World_State [(.pointer a0)] H Q := by kernel_rfl
theorem c_event_World_State {a0 : Option Addr} {H : Heap} {Q : G_api_State × Unit → Heap → Prop} (h : S_event_World_State a0 H Q) : CALL P [T_G_api_State] n_event_World_State [(.pointer a0)] H Q := call_print hE Tryz.func16 rfl (by kernel_rfl) (e_event_World_State a0 H Q) h

def S_event_World_Count (a0 : Option Addr) (H : Heap) (Q : Int × Unit → Heap → Prop) : Prop :=
CALL P [T_bool] n_event_World_none [(.pointer a0)] H fun (x1 : Bool × Unit) H1 =>
ifB x1.1 (
Q (0, ()) H1) (
NIL a0 fun b2 o3 =>
LD (T_int .i64) H1 b2 (o3 + 23) fun (x4 : Int) =>
Q (x4, ()) H1)
def h_event_World_Count : Hnt := .leaf
theorem e_event_World_Count (a0 : Option Addr) (H : Heap) (Q : Int × Unit → Heap → Prop) : S_event_World_Count a0 H Q = cFn C [] Tryz.f17.ntmps Tryz.f17.results.toList [(T_int .i64)] (bodyOf Tryz.f17) h_event_World_Count [(.pointer a0)] H Q := by kernel_rfl
theorem c_event_World_Count {a0 : Option Addr} {H : Heap} {Q : Int × Unit → Heap → Prop} (h : S_event_World_Count a0 H Q) : CALL P [(T_int .i64)] n_event_World_Count [(.pointer a0)] H Q := call_print hE Tryz.func17 rfl (by kernel_rfl) (e_event_World_Count a0 H Q) h

def S_event_World_Begin (a0 : Option Addr) (H : Heap) (Q : Unit → Heap → Prop) : Prop :=
CALL P [T_bool] n_event_World_none [(.pointer a0)] H fun (x1 : Bool × Unit) H1 =>
JOIN (fun (j2 : (Unit) × (Unit) → Heap → Prop) =>
ifB (!x1.1) (
NIL a0 fun b4 o5 =>
ST H1 b4 (o5 + 23) [(.int .i64 0)] fun H3 =>
j2 ((()), (())) H3) (
j2 ((()), (())) H1)) fun (y3 : (Unit) × (Unit)) H2 =>
Q (()) H2
def h_event_World_Begin : Hnt := (.seq .leaf (.cond (some ⟨[], [], [5, 6, 7]⟩) .leaf .leaf))
theorem e_event_World_Begin (a0 : Option Addr) (H : Heap) (Q : Unit → Heap → Prop) : S_event_World_Begin a0 H Q = cFn C [] Tryz.f19.ntmps Tryz.f19.results.toList [] (bodyOf Tryz.f19) h_event_World_Begin [(.pointer a0)] H Q := by kernel_rfl
theorem c_event_World_Begin {a0 : Option Addr} {H : Heap} {Q : Unit → Heap → Prop} (h : S_event_World_Begin a0 H Q) : CALL P [] n_event_World_Begin [(.pointer a0)] H Q := call_print hE Tryz.func19 rfl (by kernel_rfl) (e_event_World_Begin a0 H Q) h

def S_law22_none (a0 : Option Addr) (a1 : G_law22_Act) (H : Heap) (Q : Bool × Unit → Heap → Prop) : Prop :=
CALL P [] n_event_World_Begin [(.pointer a0)] H fun (x1 : Unit) H1 =>
CALL P [] n_event_World_Settle [(.pointer a0)] H1 fun (x2 : Unit) H2 =>
CALL P [T_bool, (T_int .i64)] n_event_World_Come [(.pointer a0), (.int .i64 a1.Thing)] H2 fun (x3 : Bool × Int × Unit) H3 =>
CALL P [T_G_api_Item, T_bool, T_bool] n_event_World_Take [(.pointer a0)] H3 fun (x4 : G_api_Item × Bool × Bool × Unit) H4 =>
JOIN (fun (j5 : (Bool × Unit) × (Unit) → Heap → Prop) =>
ifB (!x3.1) (
ifB (x3.2.1 == 1) (
ifB ((x4.1.Thing == 0) && ((x4.1.Part == 0) && ((x4.1.Holder == 0) && ((x4.1.Meant == 0) && true)))) (
ifB (!x4.2.1) (
ifB (!x4.2.2.1) (
CALL P [(T_int .i64)] n_event_World_Do [(.pointer a0), (T_G_api_Deed.enc a1.D)] H4 fun (x7 : Int × Unit) H6 =>
ifB (x7.1 == 1) (
CALL P [(T_int .i64)] n_event_World_Push [(.pointer a0), a1.L.v] H6 fun (x8 : Int × Unit) H7 =>
ifB (x8.1 == 1) (
CALL P [(T_int .i64)] n_event_World_Count [(.pointer a0)] H7 fun (x9 : Int × Unit) H8 =>
ifB (x9.1 == 0) (
CALL P [T_sl] n_event_World_Features [(.pointer a0)] H8 fun (x10 : Sl × Unit) H9 =>
ifB ((x10.1.len : Int) == 0) (
CALL P [T_G_api_State] n_event_World_State [(.pointer a0)] H9 fun (x11 : G_api_State × Unit) H10 =>
CALL P [T_bool] n_kit_SameState [(T_G_api_State.enc x11.1), (T_G_api_State.enc (G_api_State.mk (0, 0) (0, 0) (0, 0) (0, 0) (Sl.mk none 0 0) ((Sl.mk none 0 0), (Sl.mk none 0 0)) ((Sl.mk none 0 0), (Sl.mk none 0 0)) (Sl.mk none 0 0) 0 0 0 0 0 0 false 0))] H10 fun (x12 : Bool × Unit) H11 =>
j5 ((x12.1, ()), (())) H11) (
j5 ((false, ()), (())) H9)) (
j5 ((false, ()), (())) H8)) (
j5 ((false, ()), (())) H7)) (
j5 ((false, ()), (())) H6)) (
j5 ((false, ()), (())) H4)) (
j5 ((false, ()), (())) H4)) (
j5 ((false, ()), (())) H4)) (
j5 ((false, ()), (())) H4)) (
j5 ((false, ()), (())) H4)) fun (y6 : (Bool × Unit) × (Unit)) H5 =>
Q (y6.1.1, ()) H5
def h_law22_none : Hnt := (.seq .leaf (.seq .leaf (.seq .leaf (.seq .leaf (.seq .leaf (.seq (.reg ⟨[(4, T_bool)], [], [27, 28, 29, 30, 31, 32, 33, 34, 35, 36, 37, 38, 39, 40, 41, 42, 43, 44, 45, 46, 47, 48, 49, 50, 51, 52, 53, 54, 55, 56, 57, 58, 59, 60, 61, 62, 63, 64, 65, 66, 67, 68, 69, 70, 71, 72, 73, 74, 75, 76]⟩) .leaf))))))
theorem e_law22_none (a0 : Option Addr) (a1 : G_law22_Act) (H : Heap) (Q : Bool × Unit → Heap → Prop) : S_law22_none a0 a1 H Q = cFn C [3, 7] Tryz.f23.ntmps Tryz.f23.results.toList [T_bool] (bodyOf Tryz.f23) h_law22_none [(.pointer a0), (T_G_law22_Act.enc a1)] H Q := by kernel_rfl
theorem c_law22_none {a0 : Option Addr} {a1 : G_law22_Act} {H : Heap} {Q : Bool × Unit → Heap → Prop} (h : S_law22_none a0 a1 H Q) : CALL P [T_bool] n_law22_none [(.pointer a0), (T_G_law22_Act.enc a1)] H Q := call_print hE Tryz.func23 rfl (by kernel_rfl) (e_law22_none a0 a1 H Q) h

def S_event_May (a0 : Option Addr) (a1 : G_api_State) (H : Heap) (Q : Bool × Unit → Heap → Prop) : Prop :=
NEW H [(.int .i64 a1.Life.1), (.int .i64 a1.Life.2), (.int .i64 a1.Mana.1), (.int .i64 a1.Mana.2), (.int .i64 a1.Most.1), (.int .i64 a1.Most.2), (.int .i64 a1.Nothing.1), (.int .i64 a1.Nothing.2), (.slice a1.Things.p a1.Things.len a1.Things.cap), (.slice a1.Decks.1.p a1.Decks.1.len a1.Decks.1.cap), (.slice a1.Decks.2.p a1.Decks.2.len a1.Decks.2.cap), (.slice a1.Hands.1.p a1.Hands.1.len a1.Hands.1.cap), (.slice a1.Hands.2.p a1.Hands.2.len a1.Hands.2.cap), (.slice a1.Stack.p a1.Stack.len a1.Stack.cap), (.int .i64 a1.Turn), (.int .u8 a1.Phase), (.int .i64 a1.Word), (.int .i64 a1.Passes), (.int .i64 a1.Stamp), (.int .i64 a1.Actions), (.bool a1.Over), (.int .i64 a1.Winner)] 22 fun H1 =>
JOIN (fun (j1 : (Bool × Unit) × (Unit) → Heap → Prop) =>
CALL P [T_bool] n_book_Book_Sealed [(.pointer a0)] H1 fun (x3 : Bool × Unit) H3 =>
ifB (!x3.1) (
j1 ((true, ()), (())) H3) (
LD T_sl H3 H.length 8 fun (x4 : Sl) =>
ifB (decide ((x4.len : Int) > 2048)) (
j1 ((true, ()), (())) H3) (
LD T_sl H3 H.length 13 fun (x5 : Sl) =>
ifB (decide ((x5.len : Int) > 24)) (
j1 ((true, ()), (())) H3) (
LD T_G_api_State H3 H.length 0 fun (x6 : G_api_State) =>
CALL P [T_bool] n_event_numbersMay [(T_G_api_State.enc x6)] H3 fun (x7 : Bool × Unit) H4 =>
j1 ((!x7.1, ()), (())) H4)))) fun (y2 : (Bool × Unit) × (Unit)) H2 =>
ifB y2.1.1 (
Q (false, ()) H2) (
NEWM H2 fun H5 =>
LD T_sl H5 H.length 8 fun (x8 : Sl) =>
JOIN (fun (j9 : (Unit) × (Unit) → Heap → Prop) =>
LOOP (fun (r11 : (Int × Unit) × (Unit) → Heap → Prop) (s12 : (Int × Unit) × (Unit)) H7 =>
ifB (decide (s12.1.1 < (x8.len : Int))) (
IDX x8.p x8.len s12.1.1 11 fun b13 o14 =>
LD T_G_api_Thing H7 b13 o14 fun (x15 : G_api_Thing) =>
LD T_G_api_State H7 H.length 0 fun (x16 : G_api_State) =>
CALL P [T_bool] n_event_thingMay [(.pointer a0), (T_G_api_State.enc x16), (T_G_api_Thing.enc x15)] H7 fun (x17 : Bool × Unit) H8 =>
ifB (!x17.1) (
Q (false, ()) H8) (
JOIN (fun (j18 : (Unit) × (Unit) → Heap → Prop) =>
ifB (x15.Place == 4) (
GENV (T_int .i64) (aLookup E 126 (.map (some H2.length)) (.int .i64 x15.Stamp) false H8) fun (x20 : Int) =>
GENH (aMapUpdate E 126 (.map (some H2.length)) (.int .i64 x15.Stamp) (.int .i64 (IntKind.wrap .i64 (x20 + 1))) H8) fun H10 =>
GENV (T_int .i64) (aLookup E 126 (.map (some H2.length)) (.int .i64 x15.Stamp) false H10) fun (x21 : Int) =>
ifB (decide (x21 > 1)) (
Q (false, ()) H10) (
j18 ((()), (())) H10)) (
j18 ((()), (())) H8)) fun (y19 : (Unit) × (Unit)) H9 =>
r11 ((IntKind.wrap .i64 (s12.1.1 + 1), ()), (())) H9)) (
j9 ((()), (())) H7)) ((0, ()), (())) H5) fun (y10 : (Unit) × (Unit)) H6 =>
JOIN (fun (j22 : (Unit) × (Unit) → Heap → Prop) =>
LOOP (fun (r24 : (Int × Unit) × (Unit) → Heap → Prop) (s25 : (Int × Unit) × (Unit)) H12 =>
ifB (decide (s25.1.1 < 2)) (
JOIN (fun (j26 : (Bool × Unit) × (Unit) → Heap → Prop) =>
LD T_G_api_State H12 H.length 0 fun (x28 : G_api_State) =>
CALL P [(T_int .i64)] n_event_owned [(T_G_api_State.enc x28), (.int .i64 s25.1.1)] H12 fun (x29 : Int × Unit) H14 =>
ifB (decide (x29.1 > 8)) (
j26 ((true, ()), (())) H14) (
IDXA 2 s25.1.1 (
LD T_sl H14 H.length (11 + s25.1.1.toNat * 1) fun (x30 : Sl) =>
ifB (decide ((x30.len : Int) > 10)) (
j26 ((true, ()), (())) H14) (
LD T_G_api_State H14 H.length 0 fun (x31 : G_api_State) =>
IDXA 2 s25.1.1 (
LD T_sl H14 H.length (9 + s25.1.1.toNat * 1) fun (x32 : Sl) =>
CALL P [T_bool] n_event_listMay [(T_G_api_State.enc x31), x32.v, (.int .i64 s25.1.1), (.int .u8 1)] H14 fun (x33 : Bool × Unit) H15 =>
ifB (!x33.1) (
j26 ((true, ()), (())) H15) (
LD T_G_api_State H15 H.length 0 fun (x34 : G_api_State) =>
IDXA 2 s25.1.1 (
LD T_sl H15 H.length (11 + s25.1.1.toNat * 1) fun (x35 : Sl) =>
CALL P [T_bool] n_event_listMay [(T_G_api_State.enc x34), x35.v, (.int .i64 s25.1.1), (.int .u8 2)] H15 fun (x36 : Bool × Unit) H16 =>
j26 ((!x36.1, ()), (())) H16))))))) fun (y27 : (Bool × Unit) × (Unit)) H13 =>
ifB y27.1.1 (
Q (false, ()) H13) (
r24 ((IntKind.wrap .i64 (s25.1.1 + 1), ()), (())) H13)) (
j22 ((()), (())) H12)) ((0, ()), (())) H6) fun (y23 : (Unit) × (Unit)) H11 =>
LD T_G_api_State H11 H.length 0 fun (x37 : G_api_State) =>
CALL P [T_bool] n_event_stackMay [(.pointer a0), (T_G_api_State.enc x37)] H11 fun (x38 : Bool × Unit) H17 =>
Q (x38.1, ()) H17)
def h_event_May : Hnt := (.seq .leaf (.seq (.seq (.reg ⟨[(28, T_bool)], [], [9, 10, 11, 12, 13, 14, 15, 16, 17, 18, 19, 20, 21, 22, 23, 24, 25, 26, 27]⟩) .leaf) (.seq .leaf (.seq (.seq .leaf (.blk (some ⟨[], [], [4, 7, 33, 34, 35, 36, 37, 38, 39, 40, 41, 42, 43, 44, 45, 46, 47, 48, 49, 50, 51, 52, 53, 54, 55]⟩) (.loop ⟨[(33, (T_int .i64))], [], [4, 7, 34, 35, 36, 37, 38, 39, 40, 41, 42, 43, 44, 45, 46, 47, 48, 49, 50, 51, 52, 53, 54, 55]⟩ (.seq .leaf (.seq .leaf (.seq (.blk none (.seq .leaf (.seq .leaf (.seq .leaf (.cond (some ⟨[], [], [4, 45, 46, 47, 48, 49, 50, 51, 52, 53, 54]⟩) .leaf .leaf))))) .leaf)))))) (.seq (.seq .leaf (.blk (some ⟨[], [], [4, 8, 56, 57, 58, 59, 60, 61, 62, 63, 64, 65, 66, 67, 68, 69, 70, 71, 72, 73, 74, 75, 76, 77, 78, 79, 80, 81, 82, 83, 84, 85, 86, 87, 88, 89, 90, 91]⟩) (.loop ⟨[(56, (T_int .i64))], [], [4, 8, 57, 58, 59, 60, 61, 62, 63, 64, 65, 66, 67, 68, 69, 70, 71, 72, 73, 74, 75, 76, 77, 78, 79, 80, 81, 82, 83, 84, 85, 86, 87, 88, 89, 90, 91]⟩ (.seq .leaf (.seq .leaf (.seq (.blk none (.seq .leaf (.seq (.reg ⟨[(90, T_bool)], [], [59, 60, 61, 62, 63, 64, 65, 66, 67, 68, 69, 70, 71, 72, 73, 74, 75, 76, 77, 78, 79, 80, 81, 82, 83, 84, 85, 86, 87, 88, 89]⟩) .leaf))) .leaf)))))) .leaf)))))
theorem e_event_May (a0 : Option Addr) (a1 : G_api_State) (H : Heap) (Q : Bool × Unit → Heap → Prop) : S_event_May a0 a1 H Q = cFn C [7] Tryz.f24.ntmps Tryz.f24.results.toList [T_bool] (bodyOf Tryz.f24) h_event_May [(.pointer a0), (T_G_api_State.enc a1)] H Q := by kernel_rfl
theorem c_event_May {a0 : Option Addr} {a1 : G_api_State} {H : Heap} {Q : Bool × Unit → Heap → Prop} (h : S_event_May a0 a1 H Q) : CALL P [T_bool] n_event_May [(.pointer a0), (T_G_api_State.enc a1)] H Q := call_print hE Tryz.func24 rfl (by kernel_rfl) (e_event_May a0 a1 H Q) h

def S_book_Book_Find (a0 : Option Addr) (a1 : ByteArray) (H : Heap) (Q : Int × Int × Unit → Heap → Prop) : Prop :=
CALL P [T_bool] n_book_Book_none [(.pointer a0)] H fun (x1 : Bool × Unit) H1 =>
ifB x1.1 (
Q (0, 1, ()) H1) (
CALL P [(T_int .i64)] n_book_Book_place [(.pointer a0), (.string a1)] H1 fun (x2 : Int × Unit) H2 =>
JOIN (fun (j3 : (Bool × Unit) × (Unit) → Heap → Prop) =>
NIL a0 fun b5 o6 =>
LD T_bool H2 b5 (o6 + 1) fun (x7 : Bool) =>
ifB x7 (
j3 ((decide (x2.1 ≥ 0), ()), (())) H2) (
j3 ((false, ()), (())) H2)) fun (y4 : (Bool × Unit) × (Unit)) H3 =>
ifB y4.1.1 (
Q (IntKind.wrap .i64 (x2.1 + 1), 0, ()) H3) (
Q (0, 6, ()) H3))
def h_book_Book_Find : Hnt := (.seq .leaf (.seq .leaf (.seq (.seq .leaf (.seq (.reg ⟨[(19, T_bool)], [], [12, 13, 14, 15, 16, 17, 18]⟩) .leaf)) .leaf)))
theorem e_book_Book_Find (a0 : Option Addr) (a1 : ByteArray) (H : Heap) (Q : Int × Int × Unit → Heap → Prop) : S_book_Book_Find a0 a1 H Q = cFn C [] Tryz.f35.ntmps Tryz.f35.results.toList [(T_int .i64), (T_int .i64)] (bodyOf Tryz.f35) h_book_Book_Find [(.pointer a0), (.string a1)] H Q := by kernel_rfl
theorem c_book_Book_Find {a0 : Option Addr} {a1 : ByteArray} {H : Heap} {Q : Int × Int × Unit → Heap → Prop} (h : S_book_Book_Find a0 a1 H Q) : CALL P [(T_int .i64), (T_int .i64)] n_book_Book_Find [(.pointer a0), (.string a1)] H Q := call_print hE Tryz.func35 rfl (by kernel_rfl) (e_book_Book_Find a0 a1 H Q) h

def S_event_World_none (a0 : Option Addr) (H : Heap) (Q : Bool × Unit → Heap → Prop) : Prop :=
JOIN (fun (j1 : (Bool × Unit) × (Unit) → Heap → Prop) =>
ifB a0.isNone (
j1 ((true, ()), (())) H) (
NIL a0 fun b3 o4 =>
LD T_ptr H b3 (o4 + 0) fun (x5 : Option Addr) =>
j1 ((x5.isNone, ()), (())) H)) fun (y2 : (Bool × Unit) × (Unit)) H1 =>
Q (y2.1.1, ()) H1
def h_event_World_none : Hnt := (.seq .leaf (.seq (.reg ⟨[(2, T_bool)], [], [3, 4, 5, 6, 7, 8, 9, 10, 11]⟩) .leaf))
theorem e_event_World_none (a0 : Option Addr) (H : Heap) (Q : Bool × Unit → Heap → Prop) : S_event_World_none a0 H Q = cFn C [] Tryz.f37.ntmps Tryz.f37.results.toList [T_bool] (bodyOf Tryz.f37) h_event_World_none [(.pointer a0)] H Q := by kernel_rfl
theorem c_event_World_none {a0 : Option Addr} {H : Heap} {Q : Bool × Unit → Heap → Prop} (h : S_event_World_none a0 H Q) : CALL P [T_bool] n_event_World_none [(.pointer a0)] H Q := call_print hE Tryz.func37 rfl (by kernel_rfl) (e_event_World_none a0 H Q) h

def S_event_World_Features (a0 : Option Addr) (H : Heap) (Q : Sl × Unit → Heap → Prop) : Prop :=
CALL P [T_bool] n_event_World_none [(.pointer a0)] H fun (x1 : Bool × Unit) H1 =>
ifB x1.1 (
Q ((Sl.mk none 0 0), ()) H1) (
NIL a0 fun b2 o3 =>
LD T_ptr H1 b2 (o3 + 0) fun (x4 : Option Addr) =>
NIL a0 fun b5 o6 =>
LD T_sl H1 b5 (o6 + 1 + 8) fun (x7 : Sl) =>
CALL P [T_sl, (T_int .i64)] n_view_Of [(.pointer x4), x7.v] H1 fun (x8 : Sl × Int × Unit) H2 =>
Q (x8.1, ()) H2)
def h_event_World_Features : Hnt := .leaf
theorem e_event_World_Features (a0 : Option Addr) (H : Heap) (Q : Sl × Unit → Heap → Prop) : S_event_World_Features a0 H Q = cFn C [] Tryz.f40.ntmps Tryz.f40.results.toList [T_sl] (bodyOf Tryz.f40) h_event_World_Features [(.pointer a0)] H Q := by kernel_rfl
theorem c_event_World_Features {a0 : Option Addr} {H : Heap} {Q : Sl × Unit → Heap → Prop} (h : S_event_World_Features a0 H Q) : CALL P [T_sl] n_event_World_Features [(.pointer a0)] H Q := call_print hE Tryz.func40 rfl (by kernel_rfl) (e_event_World_Features a0 H Q) h

def S_event_World_Settle (a0 : Option Addr) (H : Heap) (Q : Unit → Heap → Prop) : Prop :=
CALL P [T_bool] n_event_World_none [(.pointer a0)] H fun (x1 : Bool × Unit) H1 =>
ifB x1.1 (
Q (()) H1) (
JOIN (fun (j2 : (Unit) × (Unit) → Heap → Prop) =>
LOOP (fun (r4 : (Unit) × (Unit) → Heap → Prop) (s5 : (Unit) × (Unit)) H3 =>
JOIN (fun (j6 : (Unit) × (Unit) → Heap → Prop) =>
CALL P [T_sl] n_event_World_Features [(.pointer a0)] H3 fun (x8 : Sl × Unit) H5 =>
NIL a0 fun b9 o10 =>
LD T_sl H5 b9 (o10 + 1 + 8) fun (x11 : Sl) =>
JOIN (fun (j12 : (Int × Unit) × (Unit) → Heap → Prop) =>
LOOP (fun (r14 : (Int × Int × Unit) × (Unit) → Heap → Prop) (s15 : (Int × Int × Unit) × (Unit)) H7 =>
ifB (decide (s15.1.2.1 < (x11.len : Int))) (
JOIN (fun (j16 : (Int × Unit) × (Unit) → Heap → Prop) =>
IDX x11.p x11.len s15.1.2.1 11 fun b18 o19 =>
LD T_G_api_Thing H7 b18 o19 fun (x20 : G_api_Thing) =>
JOIN (fun (j21 : (Bool × Unit) × (Unit) → Heap → Prop) =>
CALL P [T_bool] n_event_World_unit [(.pointer a0), (.int .i64 (IntKind.wrap .i64 (s15.1.2.1 + 1)))] H7 fun (x23 : Bool × Unit) H10 =>
ifB (!x23.1) (
j21 ((true, ()), (())) H10) (
IDX x8.1.p x8.1.len s15.1.2.1 5 fun b24 o25 =>
LD T_G_api_Feature H10 b24 o25 fun (x26 : G_api_Feature) =>
CALL P [(T_int .i64)] n_thing_Left [(T_G_api_Feature.enc x26), (T_G_api_Thing.enc x20)] H10 fun (x27 : Int × Unit) H11 =>
j21 ((decide (x27.1 > 0), ()), (())) H11)) fun (y22 : (Bool × Unit) × (Unit)) H9 =>
ifB y22.1.1 (
j16 ((s15.1.1, ()), (())) H9) (
JOIN (fun (j28 : (Bool × Unit) × (Unit) → Heap → Prop) =>
ifB (s15.1.1 == 0) (
j28 ((true, ()), (())) H9) (
NIL a0 fun b30 o31 =>
LD T_sl H9 b30 (o31 + 1 + 8) fun (x32 : Sl) =>
IDX x32.p x32.len (IntKind.wrap .i64 (s15.1.1 - 1)) 11 fun b33 o34 =>
LD (T_int .i64) H9 b33 (o34 + 3) fun (x35 : Int) =>
j28 ((decide (x20.Stamp < x35), ()), (())) H9)) fun (y29 : (Bool × Unit) × (Unit)) H12 =>
JOIN (fun (j36 : (Int × Unit) × (Unit) → Heap → Prop) =>
ifB y29.1.1 (
j36 ((IntKind.wrap .i64 (s15.1.2.1 + 1), ()), (())) H12) (
j36 ((s15.1.1, ()), (())) H12)) fun (y37 : (Int × Unit) × (Unit)) H13 =>
j16 ((y37.1.1, ()), (())) H13)) fun (y17 : (Int × Unit) × (Unit)) H8 =>
r14 ((y17.1.1, IntKind.wrap .i64 (s15.1.2.1 + 1), ()), (())) H8) (
j12 ((s15.1.1, ()), (())) H7)) ((0, 0, ()), (())) H5) fun (y13 : (Int × Unit) × (Unit)) H6 =>
JOIN (fun (j38 : (Bool × Unit) × (Unit) → Heap → Prop) =>
ifB (y13.1.1 == 0) (
j38 ((true, ()), (())) H6) (
CALL P [T_bool] n_event_World_ruin [(.pointer a0), (.int .i64 y13.1.1)] H6 fun (x40 : Bool × Unit) H15 =>
j38 ((!x40.1, ()), (())) H15)) fun (y39 : (Bool × Unit) × (Unit)) H14 =>
ifB y39.1.1 (
Q (()) H14) (
j6 ((()), (())) H14)) fun (y7 : (Unit) × (Unit)) H4 =>
r4 ((()), (())) H4) ((()), (())) H1) fun (y3 : (Unit) × (Unit)) H2 =>
Q (()) H2)
def h_event_World_Settle : Hnt := (.seq .leaf (.blk (some ⟨[], [], [2, 3, 4, 5, 8, 9, 10, 11, 12, 13, 14, 15, 16, 17, 18, 19, 20, 21, 22, 23, 24, 25, 26, 27, 28, 29, 30, 31, 32, 33, 34, 35, 36, 37, 38, 39, 40, 41, 42, 43, 44, 45, 46, 47, 48, 49, 50, 51, 52, 53, 54, 55, 56, 57, 58, 59, 60, 61, 62]⟩) (.loop ⟨[], [], [2, 3, 4, 5, 8, 9, 10, 11, 12, 13, 14, 15, 16, 17, 18, 19, 20, 21, 22, 23, 24, 25, 26, 27, 28, 29, 30, 31, 32, 33, 34, 35, 36, 37, 38, 39, 40, 41, 42, 43, 44, 45, 46, 47, 48, 49, 50, 51, 52, 53, 54, 55, 56, 57, 58, 59, 60, 61, 62]⟩ (.blk (some ⟨[], [], [2, 3, 4, 5, 8, 9, 10, 11, 12, 13, 14, 15, 16, 17, 18, 19, 20, 21, 22, 23, 24, 25, 26, 27, 28, 29, 30, 31, 32, 33, 34, 35, 36, 37, 38, 39, 40, 41, 42, 43, 44, 45, 46, 47, 48, 49, 50, 51, 52, 53, 54, 55, 56, 57, 58, 59, 60, 61, 62]⟩) (.seq .leaf (.seq .leaf (.seq (.seq .leaf (.blk (some ⟨[(3, (T_int .i64))], [], [4, 5, 16, 17, 18, 19, 20, 21, 22, 23, 24, 25, 26, 27, 28, 29, 30, 31, 32, 33, 34, 35, 36, 37, 38, 39, 40, 41, 42, 43, 44, 45, 46, 47, 48, 49, 50, 51, 52, 53, 54]⟩) (.loop ⟨[(3, (T_int .i64)), (16, (T_int .i64))], [], [4, 5, 17, 18, 19, 20, 21, 22, 23, 24, 25, 26, 27, 28, 29, 30, 31, 32, 33, 34, 35, 36, 37, 38, 39, 40, 41, 42, 43, 44, 45, 46, 47, 48, 49, 50, 51, 52, 53, 54]⟩ (.seq .leaf (.seq .leaf (.seq (.blk (some ⟨[(3, (T_int .i64))], [], [4, 5, 18, 19, 20, 21, 22, 23, 24, 25, 26, 27, 28, 29, 30, 31, 32, 33, 34, 35, 36, 37, 38, 39, 40, 41, 42, 43, 44, 45, 46, 47, 48, 49, 50, 51, 52, 53]⟩) (.seq .leaf (.seq (.seq (.reg ⟨[(34, T_bool)], [], [21, 22, 23, 24, 25, 26, 27, 28, 29, 30, 31, 32, 33]⟩) .leaf) (.seq (.reg ⟨[(51, T_bool)], [], [35, 36, 37, 38, 39, 40, 41, 42, 43, 44, 45, 46, 47, 48, 49, 50]⟩) (.cond (some ⟨[(3, (T_int .i64))], [], [52, 53]⟩) .leaf .leaf))))) .leaf)))))) (.seq (.reg ⟨[(62, T_bool)], [], [55, 56, 57, 58, 59, 60, 61]⟩) .leaf))))))))
theorem e_event_World_Settle (a0 : Option Addr) (H : Heap) (Q : Unit → Heap → Prop) : S_event_World_Settle a0 H Q = cFn C [5] Tryz.f59.ntmps Tryz.f59.results.toList [] (bodyOf Tryz.f59) h_event_World_Settle [(.pointer a0)] H Q := by kernel_rfl
theorem c_event_World_Settle {a0 : Option Addr} {H : Heap} {Q : Unit → Heap → Prop} (h : S_event_World_Settle a0 H Q) : CALL P [] n_event_World_Settle [(.pointer a0)] H Q := call_print hE Tryz.func59 rfl (by kernel_rfl) (e_event_World_Settle a0 H Q) h

def S_event_World_Come (a0 : Option Addr) (a1 : Int) (H : Heap) (Q : Bool × Int × Unit → Heap → Prop) : Prop :=
NEW H [(.int .i64 a1)] 1 fun H1 =>
CALL P [T_bool] n_event_World_none [(.pointer a0)] H1 fun (x1 : Bool × Unit) H2 =>
ifB x1.1 (
Q (false, 1, ()) H2) (
JOIN (fun (j2 : (Bool × Unit) × (Unit) → Heap → Prop) =>
LD (T_int .i64) H2 H.length 0 fun (x4 : Int) =>
ifB (decide (x4 < 1)) (
j2 ((true, ()), (())) H2) (
LD (T_int .i64) H2 H.length 0 fun (x5 : Int) =>
NIL a0 fun b6 o7 =>
LD T_sl H2 b6 (o7 + 1 + 8) fun (x8 : Sl) =>
ifB (decide (x5 > (x8.len : Int))) (
j2 ((true, ()), (())) H2) (
NIL a0 fun b9 o10 =>
LD T_sl H2 b9 (o10 + 1 + 8) fun (x11 : Sl) =>
LD (T_int .i64) H2 H.length 0 fun (x12 : Int) =>
IDX x11.p x11.len (IntKind.wrap .i64 (x12 - 1)) 11 fun b13 o14 =>
LD (T_int .u8) H2 b13 (o14 + 2) fun (x15 : Int) =>
j2 ((x15 != 3, ()), (())) H2))) fun (y3 : (Bool × Unit) × (Unit)) H3 =>
ifB y3.1.1 (
Q (false, 6, ()) H3) (
NIL a0 fun b16 o17 =>
LD T_sl H3 b16 (o17 + 1 + 13) fun (x18 : Sl) =>
CALL P [T_sl] n_slices_DeleteFunc_api_Item_api_Item [x18.v, (.func (.func n_event_World_Come_1) #[] #[(.pointer (some ⟨H.length, 0, none⟩))])] H3 fun (x19 : Sl × Unit) H4 =>
NIL a0 fun b20 o21 =>
ST H4 b20 (o21 + 1 + 13) [(.slice x19.1.p x19.1.len x19.1.cap)] fun H5 =>
JOIN (fun (j22 : (Bool × Unit) × (Unit) → Heap → Prop) =>
LD (T_int .i64) H5 H.length 0 fun (x24 : Int) =>
CALL P [T_G_api_Card] n_event_World_card [(.pointer a0), (.int .i64 x24)] H5 fun (x25 : G_api_Card × Unit) H7 =>
ifB (x25.1.Kind == 2) (
j22 ((true, ()), (())) H7) (
NIL a0 fun b26 o27 =>
LD T_G_api_State H7 b26 (o27 + 1) fun (x28 : G_api_State) =>
NIL a0 fun b29 o30 =>
LD T_sl H7 b29 (o30 + 1 + 8) fun (x31 : Sl) =>
LD (T_int .i64) H7 H.length 0 fun (x32 : Int) =>
IDX x31.p x31.len (IntKind.wrap .i64 (x32 - 1)) 11 fun b33 o34 =>
LD (T_int .i64) H7 b33 (o34 + 1) fun (x35 : Int) =>
CALL P [(T_int .i64)] n_event_owned [(T_G_api_State.enc x28), (.int .i64 x35)] H7 fun (x36 : Int × Unit) H8 =>
j22 ((decide (x36.1 ≥ 8), ()), (())) H8)) fun (y23 : (Bool × Unit) × (Unit)) H6 =>
ifB y23.1.1 (
LD (T_int .i64) H6 H.length 0 fun (x37 : Int) =>
CALL P [] n_event_World_move [(.pointer a0), (.int .i64 x37), (.int .u8 5)] H6 fun (x38 : Unit) H9 =>
Q (false, 0, ()) H9) (
LD (T_int .i64) H6 H.length 0 fun (x39 : Int) =>
CALL P [] n_event_World_move [(.pointer a0), (.int .i64 x39), (.int .u8 4)] H6 fun (x40 : Unit) H10 =>
CALL P [] n_event_World_Settle [(.pointer a0)] H10 fun (x41 : Unit) H11 =>
Q (true, 0, ()) H11)))
def h_event_World_Come : Hnt := (.seq .leaf (.seq .leaf (.seq (.seq (.reg ⟨[(32, T_bool)], [], [8, 9, 10, 11, 12, 13, 14, 15, 16, 17, 18, 19, 20, 21, 22, 23, 24, 25, 26, 27, 28, 29, 30, 31]⟩) .leaf) (.seq .leaf (.seq (.seq (.reg ⟨[(66, T_bool)], [], [44, 45, 46, 47, 48, 49, 50, 51, 52, 53, 54, 55, 56, 57, 58, 59, 60, 61, 62, 63, 64, 65]⟩) .leaf) .leaf)))))
theorem e_event_World_Come (a0 : Option Addr) (a1 : Int) (H : Heap) (Q : Bool × Int × Unit → Heap → Prop) : S_event_World_Come a0 a1 H Q = cFn C [] Tryz.f61.ntmps Tryz.f61.results.toList [T_bool, (T_int .i64)] (bodyOf Tryz.f61) h_event_World_Come [(.pointer a0), (.int .i64 a1)] H Q := by kernel_rfl
theorem c_event_World_Come {a0 : Option Addr} {a1 : Int} {H : Heap} {Q : Bool × Int × Unit → Heap → Prop} (h : S_event_World_Come a0 a1 H Q) : CALL P [T_bool, (T_int .i64)] n_event_World_Come [(.pointer a0), (.int .i64 a1)] H Q := call_print hE Tryz.func61 rfl (by kernel_rfl) (e_event_World_Come a0 a1 H Q) h

def S_event_World_Take (a0 : Option Addr) (H : Heap) (Q : G_api_Item × Bool × Bool × Unit → Heap → Prop) : Prop :=
JOIN (fun (j1 : (Bool × Unit) × (Unit) → Heap → Prop) =>
CALL P [T_bool] n_event_World_none [(.pointer a0)] H fun (x3 : Bool × Unit) H2 =>
ifB x3.1 (
j1 ((true, ()), (())) H2) (
NIL a0 fun b4 o5 =>
LD T_sl H2 b4 (o5 + 1 + 13) fun (x6 : Sl) =>
j1 (((x6.len : Int) == 0, ()), (())) H2)) fun (y2 : (Bool × Unit) × (Unit)) H1 =>
ifB y2.1.1 (
Q ((G_api_Item.mk 0 0 0 0), false, false, ()) H1) (
NIL a0 fun b7 o8 =>
LD T_sl H1 b7 (o8 + 1 + 13) fun (x9 : Sl) =>
NIL a0 fun b10 o11 =>
LD T_sl H1 b10 (o11 + 1 + 13) fun (x12 : Sl) =>
IDX x9.p x9.len (IntKind.wrap .i64 ((x12.len : Int) - 1)) 4 fun b13 o14 =>
LD T_G_api_Item H1 b13 o14 fun (x15 : G_api_Item) =>
ifB (x15.Part == 0) (
CALL P [T_bool, (T_int .i64)] n_event_World_Come [(.pointer a0), (.int .i64 x15.Thing)] H1 fun (x16 : Bool × Int × Unit) H3 =>
Q (x15, x16.1, true, ()) H3) (
NIL a0 fun b17 o18 =>
LD T_sl H1 b17 (o18 + 1 + 13) fun (x19 : Sl) =>
NIL a0 fun b20 o21 =>
LD T_sl H1 b20 (o21 + 1 + 13) fun (x22 : Sl) =>
GENV T_sl (aSlice E 68 x19.v none (some (.int .i64 (IntKind.wrap .i64 ((x22.len : Int) - 1)))) none H1) fun (x23 : Sl) =>
NIL a0 fun b24 o25 =>
ST H1 b24 (o25 + 1 + 13) [(.slice x23.p x23.len x23.cap)] fun H4 =>
Q (x15, false, true, ()) H4))
def h_event_World_Take : Hnt := (.seq .leaf (.seq (.seq (.reg ⟨[(15, T_bool)], [], [5, 6, 7, 8, 9, 10, 11, 12, 13, 14]⟩) .leaf) .leaf))
theorem e_event_World_Take (a0 : Option Addr) (H : Heap) (Q : G_api_Item × Bool × Bool × Unit → Heap → Prop) : S_event_World_Take a0 H Q = cFn C [2] Tryz.f62.ntmps Tryz.f62.results.toList [T_G_api_Item, T_bool, T_bool] (bodyOf Tryz.f62) h_event_World_Take [(.pointer a0)] H Q := by kernel_rfl
theorem c_event_World_Take {a0 : Option Addr} {H : Heap} {Q : G_api_Item × Bool × Bool × Unit → Heap → Prop} (h : S_event_World_Take a0 H Q) : CALL P [T_G_api_Item, T_bool, T_bool] n_event_World_Take [(.pointer a0)] H Q := call_print hE Tryz.func62 rfl (by kernel_rfl) (e_event_World_Take a0 H Q) h

def S_event_World_Push (a0 : Option Addr) (a1 : Sl) (H : Heap) (Q : Int × Unit → Heap → Prop) : Prop :=
CALL P [T_bool] n_event_World_none [(.pointer a0)] H fun (x1 : Bool × Unit) H1 =>
ifB x1.1 (
Q (1, ()) H1) (
JOIN (fun (j2 : (Unit) × (Unit) → Heap → Prop) =>
LOOP (fun (r4 : (Int × Unit) × (Unit) → Heap → Prop) (s5 : (Int × Unit) × (Unit)) H3 =>
ifB (decide (s5.1.1 < (a1.len : Int))) (
IDX a1.p a1.len s5.1.1 4 fun b6 o7 =>
LD T_G_api_Item H3 b6 o7 fun (x8 : G_api_Item) =>
JOIN (fun (j9 : (Bool × Unit) × (Unit) → Heap → Prop) =>
ifB (decide (x8.Part < 1)) (
j9 ((true, ()), (())) H3) (
NIL a0 fun b11 o12 =>
LD T_ptr H3 b11 (o12 + 0) fun (x13 : Option Addr) =>
NIL a0 fun b14 o15 =>
LD T_G_api_State H3 b14 (o15 + 1) fun (x16 : G_api_State) =>
CALL P [T_bool] n_event_itemMay [(.pointer x13), (T_G_api_State.enc x16), (T_G_api_Item.enc x8)] H3 fun (x17 : Bool × Unit) H5 =>
j9 ((!x17.1, ()), (())) H5)) fun (y10 : (Bool × Unit) × (Unit)) H4 =>
ifB y10.1.1 (
Q (2, ()) H4) (
r4 ((IntKind.wrap .i64 (s5.1.1 + 1), ()), (())) H4)) (
j2 ((()), (())) H3)) ((0, ()), (())) H1) fun (y3 : (Unit) × (Unit)) H2 =>
JOIN (fun (j18 : (Unit) × (Unit) → Heap → Prop) =>
LOOP (fun (r20 : (Int × Unit) × (Unit) → Heap → Prop) (s21 : (Int × Unit) × (Unit)) H7 =>
ifB (decide (s21.1.1 < (a1.len : Int))) (
IDX a1.p a1.len s21.1.1 4 fun b22 o23 =>
LD T_G_api_Item H7 b22 o23 fun (x24 : G_api_Item) =>
CALL P [] n_event_World_push [(.pointer a0), (T_G_api_Item.enc x24)] H7 fun (x25 : Unit) H8 =>
r20 ((IntKind.wrap .i64 (s21.1.1 + 1), ()), (())) H8) (
j18 ((()), (())) H7)) ((0, ()), (())) H2) fun (y19 : (Unit) × (Unit)) H6 =>
Q (0, ()) H6)
def h_event_World_Push : Hnt := (.seq .leaf (.seq .leaf (.seq (.seq .leaf (.blk (some ⟨[], [], [4, 6, 13, 14, 15, 16, 17, 18, 19, 20, 21, 22, 23, 24, 25, 26, 27, 28, 29, 30, 31, 32, 33]⟩) (.loop ⟨[(13, (T_int .i64))], [], [4, 6, 14, 15, 16, 17, 18, 19, 20, 21, 22, 23, 24, 25, 26, 27, 28, 29, 30, 31, 32, 33]⟩ (.seq .leaf (.seq .leaf (.seq (.blk none (.seq .leaf (.seq (.reg ⟨[(32, T_bool)], [], [17, 18, 19, 20, 21, 22, 23, 24, 25, 26, 27, 28, 29, 30, 31]⟩) .leaf))) .leaf)))))) (.seq (.seq .leaf (.blk (some ⟨[], [], [8, 36, 37, 38, 39, 40, 41, 42, 43]⟩) (.loop ⟨[(36, (T_int .i64))], [], [8, 37, 38, 39, 40, 41, 42, 43]⟩ .leaf))) .leaf))))
theorem e_event_World_Push (a0 : Option Addr) (a1 : Sl) (H : Heap) (Q : Int × Unit → Heap → Prop) : S_event_World_Push a0 a1 H Q = cFn C [6, 8] Tryz.f63.ntmps Tryz.f63.results.toList [(T_int .i64)] (bodyOf Tryz.f63) h_event_World_Push [(.pointer a0), a1.v] H Q := by kernel_rfl
theorem c_event_World_Push {a0 : Option Addr} {a1 : Sl} {H : Heap} {Q : Int × Unit → Heap → Prop} (h : S_event_World_Push a0 a1 H Q) : CALL P [(T_int .i64)] n_event_World_Push [(.pointer a0), a1.v] H Q := call_print hE Tryz.func63 rfl (by kernel_rfl) (e_event_World_Push a0 a1 H Q) h

def S_book_Book_Sealed (a0 : Option Addr) (H : Heap) (Q : Bool × Unit → Heap → Prop) : Prop :=
CALL P [T_bool] n_book_Book_none [(.pointer a0)] H fun (x1 : Bool × Unit) H1 =>
ifB x1.1 (
Q (false, ()) H1) (
NIL a0 fun b2 o3 =>
LD T_bool H1 b2 (o3 + 1) fun (x4 : Bool) =>
Q (x4, ()) H1)
def h_book_Book_Sealed : Hnt := .leaf
theorem e_book_Book_Sealed (a0 : Option Addr) (H : Heap) (Q : Bool × Unit → Heap → Prop) : S_book_Book_Sealed a0 H Q = cFn C [] Tryz.f65.ntmps Tryz.f65.results.toList [T_bool] (bodyOf Tryz.f65) h_book_Book_Sealed [(.pointer a0)] H Q := by kernel_rfl
theorem c_book_Book_Sealed {a0 : Option Addr} {H : Heap} {Q : Bool × Unit → Heap → Prop} (h : S_book_Book_Sealed a0 H Q) : CALL P [T_bool] n_book_Book_Sealed [(.pointer a0)] H Q := call_print hE Tryz.func65 rfl (by kernel_rfl) (e_book_Book_Sealed a0 H Q) h

def S_layer_Effects (a0 : Option Addr) (a1 : Sl) (a2 : Sl) (a3 : Int) (H : Heap) (Q : Sl × Int × Unit → Heap → Prop) : Prop :=
CALL P [T_G_layer_place, (T_int .i64)] n_layer_setup [(.pointer a0), a1.v, a2.v] H fun (x1 : G_layer_place × Int × Unit) H1 =>
ifB (x1.2.1 != 0) (
Q ((Sl.mk none 0 0), x1.2.1, ()) H1) (
JOIN (fun (j2 : (Bool × Unit) × (Unit) → Heap → Prop) =>
ifB (decide (a3 < 1)) (
j2 ((true, ()), (())) H1) (
j2 ((decide (a3 > 5), ()), (())) H1)) fun (y3 : (Bool × Unit) × (Unit)) H2 =>
ifB y3.1.1 (
Q ((Sl.mk none 0 0), 2, ()) H2) (
CALL P [T_sl] n_layer_place_effects [(T_G_layer_place.enc x1.1), a2.v, (.int .i64 a3)] H2 fun (x4 : Sl × Unit) H3 =>
Q (x4.1, 0, ()) H3))
def h_layer_Effects : Hnt := (.seq .leaf (.seq .leaf (.seq (.blk none (.seq .leaf (.cond none .leaf (.seq (.reg ⟨[(23, T_bool)], [], [24, 25, 26, 27, 28, 29]⟩) .leaf)))) .leaf)))
theorem e_layer_Effects (a0 : Option Addr) (a1 : Sl) (a2 : Sl) (a3 : Int) (H : Heap) (Q : Sl × Int × Unit → Heap → Prop) : S_layer_Effects a0 a1 a2 a3 H Q = cFn C [10] Tryz.f76.ntmps Tryz.f76.results.toList [T_sl, (T_int .i64)] (bodyOf Tryz.f76) h_layer_Effects [(.pointer a0), a1.v, a2.v, (.int .i64 a3)] H Q := by kernel_rfl
theorem c_layer_Effects {a0 : Option Addr} {a1 : Sl} {a2 : Sl} {a3 : Int} {H : Heap} {Q : Sl × Int × Unit → Heap → Prop} (h : S_layer_Effects a0 a1 a2 a3 H Q) : CALL P [T_sl, (T_int .i64)] n_layer_Effects [(.pointer a0), a1.v, a2.v, (.int .i64 a3)] H Q := call_print hE Tryz.func76 rfl (by kernel_rfl) (e_layer_Effects a0 a1 a2 a3 H Q) h

def S_thing_Card (a0 : Option Addr) (a1 : G_api_Thing) (H : Heap) (Q : G_api_Card × Int × Unit → Heap → Prop) : Prop :=
CALL P [T_G_api_Card, (T_int .i64)] n_book_Book_At [(.pointer a0), (.int .i64 a1.Card)] H fun (x1 : G_api_Card × Int × Unit) H1 =>
Q (x1.1, x1.2.1, ()) H1
def h_thing_Card : Hnt := .leaf
theorem e_thing_Card (a0 : Option Addr) (a1 : G_api_Thing) (H : Heap) (Q : G_api_Card × Int × Unit → Heap → Prop) : S_thing_Card a0 a1 H Q = cFn C [3, 4] Tryz.f81.ntmps Tryz.f81.results.toList [T_G_api_Card, (T_int .i64)] (bodyOf Tryz.f81) h_thing_Card [(.pointer a0), (T_G_api_Thing.enc a1)] H Q := by kernel_rfl
theorem c_thing_Card {a0 : Option Addr} {a1 : G_api_Thing} {H : Heap} {Q : G_api_Card × Int × Unit → Heap → Prop} (h : S_thing_Card a0 a1 H Q) : CALL P [T_G_api_Card, (T_int .i64)] n_thing_Card [(.pointer a0), (T_G_api_Thing.enc a1)] H Q := call_print hE Tryz.func81 rfl (by kernel_rfl) (e_thing_Card a0 a1 H Q) h

def S_book_Book_none (a0 : Option Addr) (H : Heap) (Q : Bool × Unit → Heap → Prop) : Prop :=
JOIN (fun (j1 : (Bool × Unit) × (Unit) → Heap → Prop) =>
ifB a0.isNone (
j1 ((true, ()), (())) H) (
NIL a0 fun b3 o4 =>
LD T_bool H b3 (o4 + 0) fun (x5 : Bool) =>
j1 ((!x5, ()), (())) H)) fun (y2 : (Bool × Unit) × (Unit)) H1 =>
Q (y2.1.1, ()) H1
def h_book_Book_none : Hnt := (.seq .leaf (.seq (.reg ⟨[(2, T_bool)], [], [3, 4, 5, 6, 7, 8, 9, 10, 11]⟩) .leaf))
theorem e_book_Book_none (a0 : Option Addr) (H : Heap) (Q : Bool × Unit → Heap → Prop) : S_book_Book_none a0 H Q = cFn C [] Tryz.f88.ntmps Tryz.f88.results.toList [T_bool] (bodyOf Tryz.f88) h_book_Book_none [(.pointer a0)] H Q := by kernel_rfl
theorem c_book_Book_none {a0 : Option Addr} {H : Heap} {Q : Bool × Unit → Heap → Prop} (h : S_book_Book_none a0 H Q) : CALL P [T_bool] n_book_Book_none [(.pointer a0)] H Q := call_print hE Tryz.func88 rfl (by kernel_rfl) (e_book_Book_none a0 H Q) h

def S_book_Book_At (a0 : Option Addr) (a1 : Int) (H : Heap) (Q : G_api_Card × Int × Unit → Heap → Prop) : Prop :=
CALL P [T_bool] n_book_Book_none [(.pointer a0)] H fun (x1 : Bool × Unit) H1 =>
ifB x1.1 (
Q ((G_api_Card.mk (ByteArray.mk #[]) 0 0 0 0 0 0 false (Sl.mk none 0 0)), 1, ()) H1) (
JOIN (fun (j2 : (Bool × Unit) × (Unit) → Heap → Prop) =>
NIL a0 fun b4 o5 =>
LD T_bool H1 b4 (o5 + 1) fun (x6 : Bool) =>
ifB (!x6) (
j2 ((true, ()), (())) H1) (
ifB (decide (a1 < 1)) (
j2 ((true, ()), (())) H1) (
NIL a0 fun b7 o8 =>
LD (T_int .i64) H1 b7 (o8 + 2) fun (x9 : Int) =>
j2 ((decide (a1 > x9), ()), (())) H1))) fun (y3 : (Bool × Unit) × (Unit)) H2 =>
ifB y3.1.1 (
Q ((G_api_Card.mk (ByteArray.mk #[]) 0 0 0 0 0 0 false (Sl.mk none 0 0)), 6, ()) H2) (
NIL a0 fun b10 o11 =>
IDXA 64 (IntKind.wrap .i64 (a1 - 1)) (
LD T_G_api_Card H2 b10 (o11 + 3 + (IntKind.wrap .i64 (a1 - 1)).toNat * 9) fun (x12 : G_api_Card) =>
CALL P [T_G_api_Card] n_card_Copy [(T_G_api_Card.enc x12)] H2 fun (x13 : G_api_Card × Unit) H3 =>
Q (x13.1, 0, ()) H3)))
def h_book_Book_At : Hnt := (.seq .leaf (.seq .leaf (.seq (.seq (.reg ⟨[(25, T_bool)], [], [9, 10, 11, 12, 13, 14, 15, 16, 17, 18, 19, 20, 21, 22, 23, 24]⟩) .leaf) .leaf)))
theorem e_book_Book_At (a0 : Option Addr) (a1 : Int) (H : Heap) (Q : G_api_Card × Int × Unit → Heap → Prop) : S_book_Book_At a0 a1 H Q = cFn C [4] Tryz.f92.ntmps Tryz.f92.results.toList [T_G_api_Card, (T_int .i64)] (bodyOf Tryz.f92) h_book_Book_At [(.pointer a0), (.int .i64 a1)] H Q := by kernel_rfl
theorem c_book_Book_At {a0 : Option Addr} {a1 : Int} {H : Heap} {Q : G_api_Card × Int × Unit → Heap → Prop} (h : S_book_Book_At a0 a1 H Q) : CALL P [T_G_api_Card, (T_int .i64)] n_book_Book_At [(.pointer a0), (.int .i64 a1)] H Q := call_print hE Tryz.func92 rfl (by kernel_rfl) (e_book_Book_At a0 a1 H Q) h

def S_layer_setup (a0 : Option Addr) (a1 : Sl) (a2 : Sl) (H : Heap) (Q : G_layer_place × Int × Unit → Heap → Prop) : Prop :=
NEW H [(.slice a1.p a1.len a1.cap)] 1 fun H1 =>
LD T_sl H1 H.length 0 fun (x1 : Sl) =>
LD T_sl H1 H.length 0 fun (x2 : Sl) =>
GEN T_sl (aMakeSlice E 133 (.int .i64 (x2.len : Int)) (.int .i64 (x2.len : Int)) H1) fun (x3 : Sl) H2 =>
LD T_sl H2 H.length 0 fun (x4 : Sl) =>
REQ (T_sl.enc x4 = x1.v) (
CALL P [(T_int .i64), (T_int .i64)] n_book_Book_Find [(.pointer a0), (.string (ByteArray.mk #[]))] H2 fun (x5 : Int × Int × Unit) H3 =>
ifB (x5.2.1 == 1) (
Q ((G_layer_place.mk a0 x1 x3 (Sl.mk none 0 0)), x5.2.1, ()) H3) (
LD T_sl H3 H.length 0 fun (x6 : Sl) =>
ifB (decide ((x6.len : Int) > 2048)) (
Q ((G_layer_place.mk a0 x1 x3 (Sl.mk none 0 0)), 3, ()) H3) (
JOIN (fun (j7 : (Bool × Unit) × (Unit) → Heap → Prop) =>
CALL P [T_bool] n_book_Book_Sealed [(.pointer a0)] H3 fun (x9 : Bool × Unit) H5 =>
ifB (!x9.1) (
j7 ((true, ()), (())) H5) (
LD T_sl H5 H.length 0 fun (x10 : Sl) =>
j7 (((a2.len : Int) != (x10.len : Int), ()), (())) H5)) fun (y8 : (Bool × Unit) × (Unit)) H4 =>
ifB y8.1.1 (
Q ((G_layer_place.mk a0 x1 x3 (Sl.mk none 0 0)), 2, ()) H4) (
LD T_sl H4 H.length 0 fun (x11 : Sl) =>
JOIN (fun (j12 : (Unit) × (G_layer_place × G_layer_place × Unit) → Heap → Prop) =>
LOOP (fun (r14 : (Int × Unit) × (G_layer_place × G_layer_place × Unit) → Heap → Prop) (s15 : (Int × Unit) × (G_layer_place × G_layer_place × Unit)) H7 =>
ifB (decide (s15.1.1 < (x11.len : Int))) (
JOIN (fun (j16 : (Unit) × (G_layer_place × G_layer_place × Unit) → Heap → Prop) =>
IDX x11.p x11.len s15.1.1 11 fun b18 o19 =>
LD T_G_api_Thing H7 b18 o19 fun (x20 : G_api_Thing) =>
CALL P [T_G_api_Card, (T_int .i64)] n_thing_Card [(.pointer a0), (T_G_api_Thing.enc x20)] H7 fun (x21 : G_api_Card × Int × Unit) H9 =>
JOIN (fun (j22 : (Bool × Unit) × (Unit) → Heap → Prop) =>
ifB (x21.2.1 != 0) (
j22 ((true, ()), (())) H9) (
ifB (x20.Owner != 0) (
ifB (x20.Owner != 1) (
j22 ((true, ()), (())) H9) (
ifB (decide (x20.Place < 1)) (
j22 ((true, ()), (())) H9) (
j22 ((decide (x20.Place > 5), ()), (())) H9))) (
ifB (decide (x20.Place < 1)) (
j22 ((true, ()), (())) H9) (
j22 ((decide (x20.Place > 5), ()), (())) H9)))) fun (y23 : (Bool × Unit) × (Unit)) H10 =>
ifB y23.1.1 (
Q (s15.2.2.1, 2, ()) H10) (
ifB (x20.Place != 4) (
j16 ((()), (s15.2.1, s15.2.2.1, ())) H10) (
JOIN (fun (j24 : (Bool × Unit) × (Unit) → Heap → Prop) =>
ifB (x21.1.Kind == 2) (
j24 ((true, ()), (())) H10) (
ifB (decide (x20.Stamp < 1)) (
j24 ((true, ()), (())) H10) (
IDX a2.p a2.len s15.1.1 5 fun b26 o27 =>
LD (T_int .i64) H10 b26 (o27 + 0) fun (x28 : Int) =>
ifB (x28 != 0) (
IDX a2.p a2.len s15.1.1 5 fun b29 o30 =>
LD (T_int .i64) H10 b29 (o30 + 0) fun (x31 : Int) =>
ifB (x31 != 1) (
j24 ((true, ()), (())) H10) (
IDX a2.p a2.len s15.1.1 5 fun b32 o33 =>
LD (T_int .u16) H10 b32 (o33 + 2) fun (x34 : Int) =>
CALL P [T_bool] n_trait_Check [(.int .u16 x34)] H10 fun (x35 : Bool × Unit) H12 =>
j24 ((!x35.1, ()), (())) H12)) (
IDX a2.p a2.len s15.1.1 5 fun b36 o37 =>
LD (T_int .u16) H10 b36 (o37 + 2) fun (x38 : Int) =>
CALL P [T_bool] n_trait_Check [(.int .u16 x38)] H10 fun (x39 : Bool × Unit) H13 =>
j24 ((!x39.1, ()), (())) H13)))) fun (y25 : (Bool × Unit) × (Unit)) H11 =>
ifB y25.1.1 (
Q (s15.2.2.1, 2, ()) H11) (
IDX s15.2.2.1.cards.p s15.2.2.1.cards.len s15.1.1 9 fun b40 o41 =>
ST H11 b40 o41 (T_G_api_Card.cells x21.1) fun H14 =>
GEN T_sl (aAppX E [66, 66] s15.2.2.1.order.v 1 [(.int .i64 s15.1.1)] H14) fun (x42 : Sl) H15 =>
ifB (decide ((x42.len : Int) > 16)) (
Q ((G_layer_place.mk s15.2.2.1.b s15.2.2.1.things s15.2.2.1.cards x42), 2, ()) H15) (
j16 ((()), (s15.2.1, (G_layer_place.mk s15.2.2.1.b s15.2.2.1.things s15.2.2.1.cards x42), ())) H15))))) fun (y17 : (Unit) × (G_layer_place × G_layer_place × Unit)) H8 =>
r14 ((IntKind.wrap .i64 (s15.1.1 + 1), ()), (y17.2.1, y17.2.2.1, ())) H8) (
j12 ((()), (s15.2.1, s15.2.2.1, ())) H7)) ((0, ()), ((G_layer_place.mk none (Sl.mk none 0 0) (Sl.mk none 0 0) (Sl.mk none 0 0)), (G_layer_place.mk a0 x1 x3 (Sl.mk none 0 0)), ())) H4) fun (y13 : (Unit) × (G_layer_place × G_layer_place × Unit)) H6 =>
CALL P [] n_slices_SortFunc_int_int [y13.2.2.1.order.v, (.func (.func n_layer_setup_1) #[] #[(.pointer (some ⟨H.length, 0, none⟩))])] H6 fun (x43 : Unit) H16 =>
JOIN (fun (j44 : (Unit) × (G_layer_place × Unit) → Heap → Prop) =>
LOOP (fun (r46 : (Int × Unit) × (G_layer_place × Unit) → Heap → Prop) (s47 : (Int × Unit) × (G_layer_place × Unit)) H18 =>
ifB (decide (s47.1.1 < (y13.2.2.1.order.len : Int))) (
LD T_sl H18 H.length 0 fun (x48 : Sl) =>
IDX y13.2.2.1.order.p y13.2.2.1.order.len (IntKind.wrap .i64 (s47.1.1 - 1)) 1 fun b49 o50 =>
LD (T_int .i64) H18 b49 o50 fun (x51 : Int) =>
IDX x48.p x48.len x51 11 fun b52 o53 =>
LD (T_int .i64) H18 b52 (o53 + 3) fun (x54 : Int) =>
LD T_sl H18 H.length 0 fun (x55 : Sl) =>
IDX y13.2.2.1.order.p y13.2.2.1.order.len s47.1.1 1 fun b56 o57 =>
LD (T_int .i64) H18 b56 o57 fun (x58 : Int) =>
IDX x55.p x55.len x58 11 fun b59 o60 =>
LD (T_int .i64) H18 b59 (o60 + 3) fun (x61 : Int) =>
ifB (x54 == x61) (
Q (y13.2.2.1, 2, ()) H18) (
r46 ((IntKind.wrap .i64 (s47.1.1 + 1), ()), (s47.2.1, ())) H18)) (
j44 ((()), (s47.2.1, ())) H18)) ((1, ()), (y13.2.1, ())) H16) fun (y45 : (Unit) × (G_layer_place × Unit)) H17 =>
Q (y13.2.2.1, 0, ()) H17))))
def h_layer_setup : Hnt := (.seq .leaf (.seq .leaf (.seq (.seq .leaf (.blk none (.seq .leaf (.cond none .leaf (.seq .leaf (.cond none .leaf (.seq (.reg ⟨[(37, T_bool)], [], [38, 39, 40, 41, 42, 43, 44, 45, 46, 47]⟩) .leaf))))))) (.seq (.seq .leaf (.blk (some ⟨[], [(0, T_G_layer_place), (1, T_G_layer_place)], [7, 11, 12, 13, 14, 51, 52, 53, 54, 55, 56, 57, 58, 59, 60, 61, 62, 63, 64, 65, 66, 67, 68, 69, 70, 71, 72, 73, 74, 75, 76, 77, 78, 79, 80, 81, 82, 83, 84, 85, 86, 87, 88, 89, 90, 91, 92, 93, 94, 95, 96, 97, 98, 99, 100, 101, 102, 103, 104, 105, 106, 107, 108, 109, 110, 111, 112, 113, 114, 115, 116, 117, 118, 119, 120, 121, 122, 123, 124, 125, 126, 127, 128, 129, 130, 131, 132, 133, 134, 135, 136, 137, 138]⟩) (.loop ⟨[(51, (T_int .i64))], [(0, T_G_layer_place), (1, T_G_layer_place)], [7, 11, 12, 13, 14, 52, 53, 54, 55, 56, 57, 58, 59, 60, 61, 62, 63, 64, 65, 66, 67, 68, 69, 70, 71, 72, 73, 74, 75, 76, 77, 78, 79, 80, 81, 82, 83, 84, 85, 86, 87, 88, 89, 90, 91, 92, 93, 94, 95, 96, 97, 98, 99, 100, 101, 102, 103, 104, 105, 106, 107, 108, 109, 110, 111, 112, 113, 114, 115, 116, 117, 118, 119, 120, 121, 122, 123, 124, 125, 126, 127, 128, 129, 130, 131, 132, 133, 134, 135, 136, 137, 138]⟩ (.seq .leaf (.seq .leaf (.seq (.blk (some ⟨[], [(0, T_G_layer_place), (1, T_G_layer_place)], [7, 11, 12, 13, 14, 53, 54, 55, 56, 57, 58, 59, 60, 61, 62, 63, 64, 65, 66, 67, 68, 69, 70, 71, 72, 73, 74, 75, 76, 77, 78, 79, 80, 81, 82, 83, 84, 85, 86, 87, 88, 89, 90, 91, 92, 93, 94, 95, 96, 97, 98, 99, 100, 101, 102, 103, 104, 105, 106, 107, 108, 109, 110, 111, 112, 113, 114, 115, 116, 117, 118, 119, 120, 121, 122, 123, 124, 125, 126, 127, 128, 129, 130, 131, 132, 133, 134, 135, 136, 137]⟩) (.seq .leaf (.seq .leaf (.seq (.seq (.reg ⟨[(83, T_bool)], [], [62, 63, 64, 65, 66, 67, 68, 69, 70, 71, 72, 73, 74, 75, 76, 77, 78, 79, 80, 81, 82]⟩) .leaf) (.seq .leaf (.seq (.seq (.reg ⟨[(120, T_bool)], [], [88, 89, 90, 91, 92, 93, 94, 95, 96, 97, 98, 99, 100, 101, 102, 103, 104, 105, 106, 107, 108, 109, 110, 111, 112, 113, 114, 115, 116, 117, 118, 119]⟩) .leaf) .leaf)))))) .leaf)))))) (.seq .leaf (.seq (.seq .leaf (.blk (some ⟨[], [(0, T_G_layer_place)], [7, 15, 143, 144, 145, 146, 147, 148, 149, 150, 151, 152, 153, 154, 155, 156, 157, 158, 159, 160, 161, 162, 163, 164, 165, 166, 167, 168, 169, 170]⟩) (.loop ⟨[(15, (T_int .i64))], [(0, T_G_layer_place)], [7, 143, 144, 145, 146, 147, 148, 149, 150, 151, 152, 153, 154, 155, 156, 157, 158, 159, 160, 161, 162, 163, 164, 165, 166, 167, 168, 169, 170]⟩ .leaf))) .leaf))))))
theorem e_layer_setup (a0 : Option Addr) (a1 : Sl) (a2 : Sl) (H : Heap) (Q : G_layer_place × Int × Unit → Heap → Prop) : S_layer_setup a0 a1 a2 H Q = cFn C [6, 8, 12, 13, 130] Tryz.f109.ntmps Tryz.f109.results.toList [T_G_layer_place, (T_int .i64)] (bodyOf Tryz.f109) h_layer_setup [(.pointer a0), a1.v, a2.v] H Q := by kernel_rfl
theorem c_layer_setup {a0 : Option Addr} {a1 : Sl} {a2 : Sl} {H : Heap} {Q : G_layer_place × Int × Unit → Heap → Prop} (h : S_layer_setup a0 a1 a2 H Q) : CALL P [T_G_layer_place, (T_int .i64)] n_layer_setup [(.pointer a0), a1.v, a2.v] H Q := call_print hE Tryz.func109 rfl (by kernel_rfl) (e_layer_setup a0 a1 a2 H Q) h
end Zv
end Go.Proofs.YtkbdfjlpicflaaaGreatDoor
