/- ZoneNil of the set: the call of the Go function returns true and leaves all memory that was there as it was. No condition. -/
import Derived.Test.YtocciejfnddddaaRows
import Derived.Test.YtocciejfnddddaaZcZone
import Derived.Test.YtocciejfnddddaaZwLaw
import Derived.WalkKit
import Derived.ProofKit
import Derived.OpenShut
import Derived.ShutString
import Derived.ChangeOld
import Derived.Below
import Derived.SizedLaws
namespace Go.Proofs.Ytocciejfnddddaa.zoneNil
open Go.ChangeShapes Go.WideShapes Go.ChangeAt Go.RowKit
open Zq Zv
theorem sl_of {P : Program} {H : Heap} {d : Nat} {t e : TypeId} {cs : List Value} (ht : P.underlying t = some (.slice e)) (h : WTc P H d t cs) : ∃ s : Sl, cs = [s.v] := by
  cases d with
  | zero => exact h.elim
  | succ d =>
    simp only [WTc, ht] at h
    rcases h.2 with rfl | ⟨b, off, rfl⟩ | ⟨b, len, cap, acss, rfl, _⟩
    · exact ⟨⟨none, 0, 0⟩, rfl⟩
    · exact ⟨⟨some ⟨b, off, some 0⟩, 0, 0⟩, rfl⟩
    · exact ⟨⟨some ⟨b, 0, none⟩, len, cap⟩, rfl⟩
theorem walk {HH : Type} {enc : TypeId × Value → HH} {W : World} {a b c : Int} {v : Value} {d0 : DataW HH} {p0 : List MemPlace} (c0 : v.cells.toList = [v])
    (h0 : DataW.Trod enc Try.prog W 0 (fun _ => true) true 26 v d0 p0) :
    Calls Try.prog 4 #[.int .i64 a, .int .i64 b, .int .u8 c, v] W fun e w' => e = .returned (.bool true) ∧ Below W.heap.size W w' := by
  obtain ⟨f0, h0⟩ := h0
  obtain ⟨N, K, acs, g1, g2, g3⟩ := openT 4 26 (by kernel_rfl) f0 _ _ [] [] h0 (HR.nil W) RoH.nil
  obtain ⟨s, rfl⟩ := sl_of Try.underlying26 g3
  have hv : VL ([] ++ N) [.int .i64 a, .int .i64 b, .int .u8 c, s.v] [.int .i64 a, .int .i64 b, .int .u8 c, v] := by
    rw [c0] at g2
    exact VL.cons (.int _ _) (VL.cons (.int _ _) (VL.cons (.int _ _) g2))
  exact CALL.law (zoneNil_c fun _ => rfl) g1.hr hv (RoH.nil.adds g1)
theorem own : ownKnob Try.prog.godebug = none := by kernel_rfl
theorem laid : laidOutB Try.prog = true := by kernel_rfl
set_option maxRecDepth 100000 in
theorem lifted (os : Os) (started : os.Started) (H : Type) (enc : TypeId × Value → H) :
    ReturnsInHanded {} Try.checked os 4 .any (Rows.zoneNilSpec.pre6 enc Try.prog Try.f4 Rows.zoneNilRow.domain false) (Rows.zoneNilSpec.post enc Try.prog Try.f4 false true false false) := by
  refine returnsInHanded_of_change_sized (C := Try.checked) own started (by kernel_rfl) Try.func4
    (ChangeSpec.witness6 (enc := enc) (C := Try.checked) false ⟨#[], #[.int .i64 0, .int .i64 0, .int .u8 0, .slice none 0 0], []⟩ 8 (by kernel_rfl) (by kernel_rfl) (by kernel_rfl) (by kernel_rfl)) ?_
  intro W base args ds gs before hval0 hW _ _ _
  have hval : ∀ (j : Nat) t v, Try.f4.params[j]? = some t → args[j]? = some v → Value.okWide Try.prog W .any base t v := hval0
  have hW' := hW
  obtain ⟨p, q, hA0, hV, rfl, _, _⟩ := hW
  have hA : DataW.TrodAll enc Try.prog W 0 (fun _ => true) true Try.f4.params.toList args.toList ds p := hA0
  rw [Try.params4] at hA hval
  obtain ⟨v0, v1, v2, v3, d0, d1, d2, d3, p0, p1, p2, p3, rfl, rfl, rfl, h0, h1, h2, h3⟩ := trodAll_four hA
  obtain ⟨rfl, rfl⟩ := trodVars_none hV
  clear hA0 hA
  obtain ⟨a, rfl, rfl, rfl, wa⟩ := open_int Try.underlying3 (hval 0 3 v0 rfl rfl) h0
  obtain ⟨b, rfl, rfl, rfl, wb⟩ := open_int Try.underlying3 (hval 1 3 v1 rfl rfl) h1
  obtain ⟨c, rfl, rfl, rfl, wc⟩ := open_int Try.underlying32 (hval 2 32 v2 rfl rfl) h2
  have c3 : v3.cells.toList = [v3] := by
    obtain ⟨x, len, cap, rfl⟩ := okWide_slice Try.underlying26 (hval 3 26 v3 rfl rfl)
    rfl
  have hlt : ∀ x ∈ p3, x.block < W.heap.size := fun x hx => hW'.lt x (by simp [hx])
  refine (walk c3 h3).mono fun e W' ⟨he, bel⟩ => ?_
  subst he
  exact ⟨_, rfl, _, _, _, [], _, [], hW', trodAll_mk1 (shut_bool Try.underlying4 _), trodAll_mk4 (shut_int Try.underlying3 wa) (shut_int Try.underlying3 wb) (shut_int Try.underlying32 wc) (Below.trod laid (by kernel_rfl) (of_decide_eq_true (by kernel_rfl)) h3 bel hlt), rfl, bel.frame _, fun h => by cases h⟩
theorem over : Rows.zoneNilRow.holds Try.pinned (OpenSpec.ofChange Rows.zoneNilSpec) :=
  OpenClaim.holds_of_wide 4 Try.f4 rfl rfl rfl rfl rfl rfl rfl ⟨rfl, rfl, rfl, rfl, rfl⟩ rfl rfl rfl rfl rfl (by kernel_rfl) Try.func4 (by kernel_rfl)
    (of_decide_eq_true (by kernel_rfl)) (by unfold Func.isWrapper; first | (rw [if_pos (by decide +kernel)]; kernel_rfl) | (rw [if_neg (by decide +kernel)]; exact ⟨rfl, rfl⟩))
    (fun os started H enc _ => lifted os started H enc)
theorem proved : Rows.ZoneNilSaid := over
#print axioms proved
end Go.Proofs.Ytocciejfnddddaa.zoneNil
namespace Go.Proofs.Ytocciejfnddddaa
/-- The row, under a short name, for the claim. -/
theorem zoneNil_holds : Rows.ZoneNilSaid := zoneNil.proved
end Go.Proofs.Ytocciejfnddddaa
