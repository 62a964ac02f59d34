/- Part 3 of the proof of LayerStamps: what its row stands on (lemmas about the model, the evaluator, contracts of functions), put together and cut to what is used. -/
import Derived.Test.YtolekmhhkopooaaGreatDoorKLayerStamps2
import Derived.Shelf.Sort.Plain
import Derived.Shelf.Slices.In.SortNone
import Derived.Shelf.SlSortCmp.Whole1
import Derived.Shelf.SlSortCmp.NoneTotal
import Derived.Test.YtolekmhhkopooaaGreatDoorProg
import Derived.Shelf.Strings.SlTrimAscii
import Derived.ChangeArms
import Derived.OpenShut
import Derived.SizedLaws
import Derived.KernelRfl
section
namespace Go.Proofs.YtolekmhhkopooaaGreatDoor.Zq
open Go.Shelf Go.Proofs
def lays160_ren : Go.Shelf.Ren := ⟨fun | 160 => 191 | 232 => 204 | 231 => 203 | 227 => 205 | 234 => 207 | 233 => 206 | 236 => 209 | 235 => 208 | 228 => 211 | 271 => 214 | 151 => 213 | 197 => 212 | 120 => 217 | 152 => 216 | 260 => 215 | 137 => 218 | 119 => 219 | 224 => 220 | 225 => 221 | 217 => 222 | 266 => 223 | n => n, fun | 9 => 9 | 4 => 4 | 3 => 3 | 5 => 5 | 117 => 241 | 116 => 240 | 0 => 0 | 124 => 244 | 21 => 21 | 105 => 248 | 46 => 191 | 119 => 252 | 139 => 255 | 138 => 254 | n => n, fun | 3 => 0 | 4 => 1 | n => n⟩
theorem lays160 : Go.Proofs.Lays.n160 Tryz.prog lays160_ren := {
 mixed := by kernel_rfl
 f119 := Tryz.func219.trans (congrArg some (by kernel_rfl))
 f120 := Tryz.func217.trans (congrArg some (by kernel_rfl))
 f137 := Tryz.func218.trans (congrArg some (by kernel_rfl))
 f151 := Tryz.func213.trans (congrArg some (by kernel_rfl))
 f152 := Tryz.func216.trans (congrArg some (by kernel_rfl))
 f160 := Tryz.func191.trans (congrArg some (by kernel_rfl))
 f197 := Tryz.func212.trans (congrArg some (by kernel_rfl))
 f217 := Tryz.func222.trans (congrArg some (by kernel_rfl))
 f224 := Tryz.func220.trans (congrArg some (by kernel_rfl))
 f225 := Tryz.func221.trans (congrArg some (by kernel_rfl))
 f227 := Tryz.func205.trans (congrArg some (by kernel_rfl))
 f228 := Tryz.func211.trans (congrArg some (by kernel_rfl))
 f231 := Tryz.func203.trans (congrArg some (by kernel_rfl))
 f232 := Tryz.func204.trans (congrArg some (by kernel_rfl))
 f233 := Tryz.func206.trans (congrArg some (by kernel_rfl))
 f234 := Tryz.func207.trans (congrArg some (by kernel_rfl))
 f235 := Tryz.func208.trans (congrArg some (by kernel_rfl))
 f236 := Tryz.func209.trans (congrArg some (by kernel_rfl))
 f260 := Tryz.func215.trans (congrArg some (by kernel_rfl))
 f266 := Tryz.func223.trans (congrArg some (by kernel_rfl))
 f271 := Tryz.func214.trans (congrArg some (by kernel_rfl))
 t0 := Tryz.underlying0
 a0 := Tryz.isAgg0
 z0 := Tryz.sizeOf0
 v0 := Tryz.zeroValue0
 t3 := Tryz.underlying3
 a3 := Tryz.isAgg3
 z3 := Tryz.sizeOf3
 v3 := Tryz.zeroValue3
 t4 := Tryz.underlying4
 a4 := Tryz.isAgg4
 z4 := Tryz.sizeOf4
 v4 := Tryz.zeroValue4
 t5 := Tryz.underlying5
 a5 := Tryz.isAgg5
 z5 := Tryz.sizeOf5
 v5 := Tryz.zeroValue5
 t9 := Tryz.underlying9
 a9 := Tryz.isAgg9
 z9 := Tryz.sizeOf9
 v9 := Tryz.zeroValue9
 t21 := Tryz.underlying21
 a21 := Tryz.isAgg21
 z21 := Tryz.sizeOf21
 v21 := Tryz.zeroValue21
 t46 := Tryz.underlying191
 a46 := Tryz.isAgg191
 z46 := Tryz.sizeOf191
 v46 := Tryz.zeroValue191
 t105 := Tryz.underlying248
 a105 := Tryz.isAgg248
 z105 := Tryz.sizeOf248
 v105 := Tryz.zeroValue248
 t116 := Tryz.underlying240
 a116 := Tryz.isAgg240
 z116 := Tryz.sizeOf240
 t117 := Tryz.underlying241
 a117 := Tryz.isAgg241
 z117 := Tryz.sizeOf241
 v117 := Tryz.zeroValue241
 t119 := Tryz.underlying252
 a119 := Tryz.isAgg252
 z119 := Tryz.sizeOf252
 t124 := Tryz.underlying244
 a124 := Tryz.isAgg244
 z124 := Tryz.sizeOf244
 v124 := Tryz.zeroValue244
 t138 := Tryz.underlying254
 a138 := Tryz.isAgg254
 z138 := Tryz.sizeOf254
 v138 := Tryz.zeroValue254
 t139 := Tryz.underlying255
 a139 := Tryz.isAgg255
 z139 := Tryz.sizeOf255
 v139 := Tryz.zeroValue255
 g3 := by kernel_rfl
 g4 := by kernel_rfl }
def laysF_ren : Go.Shelf.Ren := ⟨fun | 6 => 127 | 15 => 152 | 14 => 151 | 28 => 188 | 29 => 189 | 20 => 180 | 21 => 181 | 22 => 182 | 23 => 183 | 24 => 184 | 25 => 185 | 26 => 186 | 27 => 187 | 46 => 198 | 47 => 199 | 48 => 200 | 49 => 201 | 50 => 202 | 57 => 210 | n => n, fun | 22 => 35 | 24 => 3 | 25 => 65 | 3 => 3 | 39 => 191 | 0 => 0 | 53 => 222 | 55 => 224 | 4 => 4 | 46 => 215 | 45 => 214 | 50 => 219 | 5 => 5 | 9 => 9 | 66 => 232 | 70 => 236 | 76 => 245 | 77 => 227 | n => n, fun | n => n⟩
theorem laysF : Go.Proofs.SlLaysF.n6 Tryz.prog laysF_ren := {
 mixed := by kernel_rfl
 f6 := ⟨Tryz.f127.name, by decide, Tryz.func127.trans (congrArg some (by kernel_rfl))⟩
 f14 := ⟨Tryz.f151.name, by decide, Tryz.func151.trans (congrArg some (by kernel_rfl))⟩
 f15 := Tryz.func152.trans (congrArg some (by kernel_rfl))
 f20 := ⟨Tryz.f180.name, by decide, Tryz.func180.trans (congrArg some (by kernel_rfl))⟩
 f21 := ⟨Tryz.f181.name, by decide, Tryz.func181.trans (congrArg some (by kernel_rfl))⟩
 f22 := ⟨Tryz.f182.name, by decide, Tryz.func182.trans (congrArg some (by kernel_rfl))⟩
 f23 := ⟨Tryz.f183.name, by decide, Tryz.func183.trans (congrArg some (by kernel_rfl))⟩
 f24 := ⟨Tryz.f184.name, by decide, Tryz.func184.trans (congrArg some (by kernel_rfl))⟩
 f25 := ⟨Tryz.f185.name, by decide, Tryz.func185.trans (congrArg some (by kernel_rfl))⟩
 f26 := ⟨Tryz.f186.name, by decide, Tryz.func186.trans (congrArg some (by kernel_rfl))⟩
 f27 := ⟨Tryz.f187.name, by decide, Tryz.func187.trans (congrArg some (by kernel_rfl))⟩
 f28 := Tryz.func188.trans (congrArg some (by kernel_rfl))
 f29 := Tryz.func189.trans (congrArg some (by kernel_rfl))
 f46 := ⟨Tryz.f198.name, by decide, Tryz.func198.trans (congrArg some (by kernel_rfl))⟩
 f47 := Tryz.func199.trans (congrArg some (by kernel_rfl))
 f48 := Tryz.func200.trans (congrArg some (by kernel_rfl))
 f49 := ⟨Tryz.f201.name, by decide, Tryz.func201.trans (congrArg some (by kernel_rfl))⟩
 f50 := ⟨Tryz.f202.name, by decide, Tryz.func202.trans (congrArg some (by kernel_rfl))⟩
 f57 := ⟨Tryz.f210.name, by decide, Tryz.func210.trans (congrArg some (by kernel_rfl))⟩
 t0 := Tryz.underlying0
 a0 := Tryz.isAgg0
 z0 := Tryz.sizeOf0
 v0 := Tryz.zeroValue0
 t3 := Tryz.underlying3
 a3 := Tryz.isAgg3
 z3 := Tryz.sizeOf3
 v3 := Tryz.zeroValue3
 t4 := Tryz.underlying4
 a4 := Tryz.isAgg4
 z4 := Tryz.sizeOf4
 v4 := Tryz.zeroValue4
 t5 := Tryz.underlying5
 a5 := Tryz.isAgg5
 z5 := Tryz.sizeOf5
 v5 := Tryz.zeroValue5
 t9 := Tryz.underlying9
 a9 := Tryz.isAgg9
 z9 := Tryz.sizeOf9
 v9 := Tryz.zeroValue9
 t22 := Tryz.underlying35
 a22 := Tryz.isAgg35
 z22 := Tryz.sizeOf35
 v22 := Tryz.zeroValue35
 a24 := Tryz.isAgg3
 z24 := Tryz.sizeOf3
 t25 := Tryz.underlying65
 a25 := Tryz.isAgg65
 z25 := Tryz.sizeOf65
 v25 := Tryz.zeroValue65
 t39 := Tryz.underlying191
 a39 := Tryz.isAgg191
 z39 := Tryz.sizeOf191
 v39 := Tryz.zeroValue191
 t45 := Tryz.underlying214
 a45 := Tryz.isAgg214
 z45 := Tryz.sizeOf214
 v45 := Tryz.zeroValue214
 t46 := Tryz.underlying215
 a46 := Tryz.isAgg215
 z46 := Tryz.sizeOf215
 v46 := Tryz.zeroValue215
 t50 := Tryz.underlying219
 a50 := Tryz.isAgg219
 z50 := Tryz.sizeOf219
 v50 := Tryz.zeroValue219
 t53 := Tryz.underlying222
 a53 := Tryz.isAgg222
 z53 := Tryz.sizeOf222
 v53 := Tryz.zeroValue222
 t55 := Tryz.underlying224
 a55 := Tryz.isAgg224
 z55 := Tryz.sizeOf224
 v55 := Tryz.zeroValue224
 t66 := Tryz.underlying232
 a66 := Tryz.isAgg232
 z66 := Tryz.sizeOf232
 v66 := Tryz.zeroValue232
 t70 := Tryz.underlying236
 a70 := Tryz.isAgg236
 z70 := Tryz.sizeOf236
 v70 := Tryz.zeroValue236
 t76 := Tryz.underlying245
 a76 := Tryz.isAgg245
 z76 := Tryz.sizeOf245
 v76 := Tryz.zeroValue245
 t77 := Tryz.underlying227
 a77 := Tryz.isAgg227
 z77 := Tryz.sizeOf227
 v77 := Tryz.zeroValue227 }
def laysF0_ren : Go.Shelf.Ren := ⟨fun | 6 => 127 | 15 => 152 | 14 => 151 | 28 => 188 | 29 => 189 | 20 => 180 | 21 => 181 | 22 => 182 | 23 => 183 | 24 => 184 | 25 => 185 | 26 => 186 | 27 => 187 | 46 => 198 | 47 => 199 | 48 => 200 | 49 => 201 | 50 => 202 | 57 => 210 | n => n, fun | 22 => 35 | 24 => 3 | 25 => 65 | 3 => 3 | 39 => 191 | 0 => 0 | 53 => 222 | 55 => 224 | 4 => 4 | 46 => 215 | 45 => 214 | 50 => 219 | 5 => 5 | 9 => 9 | 66 => 232 | 70 => 236 | 76 => 245 | 77 => 227 | n => n, fun | n => n⟩
theorem laysF0 : Go.Proofs.SlLaysF0.n6 Tryz.prog laysF0_ren := {
 mixed := by kernel_rfl
 f6 := ⟨Tryz.f127.name, by decide, Tryz.func127.trans (congrArg some (by kernel_rfl))⟩
 f14 := ⟨Tryz.f151.name, by decide, Tryz.func151.trans (congrArg some (by kernel_rfl))⟩
 f15 := Tryz.func152.trans (congrArg some (by kernel_rfl))
 f20 := ⟨Tryz.f180.name, by decide, Tryz.func180.trans (congrArg some (by kernel_rfl))⟩
 f21 := ⟨Tryz.f181.name, by decide, Tryz.func181.trans (congrArg some (by kernel_rfl))⟩
 f22 := ⟨Tryz.f182.name, by decide, Tryz.func182.trans (congrArg some (by kernel_rfl))⟩
 f23 := ⟨Tryz.f183.name, by decide, Tryz.func183.trans (congrArg some (by kernel_rfl))⟩
 f24 := ⟨Tryz.f184.name, by decide, Tryz.func184.trans (congrArg some (by kernel_rfl))⟩
 f25 := ⟨Tryz.f185.name, by decide, Tryz.func185.trans (congrArg some (by kernel_rfl))⟩
 f26 := ⟨Tryz.f186.name, by decide, Tryz.func186.trans (congrArg some (by kernel_rfl))⟩
 f27 := ⟨Tryz.f187.name, by decide, Tryz.func187.trans (congrArg some (by kernel_rfl))⟩
 f28 := Tryz.func188.trans (congrArg some (by kernel_rfl))
 f29 := Tryz.func189.trans (congrArg some (by kernel_rfl))
 f46 := ⟨Tryz.f198.name, by decide, Tryz.func198.trans (congrArg some (by kernel_rfl))⟩
 f47 := Tryz.func199.trans (congrArg some (by kernel_rfl))
 f48 := Tryz.func200.trans (congrArg some (by kernel_rfl))
 f49 := ⟨Tryz.f201.name, by decide, Tryz.func201.trans (congrArg some (by kernel_rfl))⟩
 f50 := ⟨Tryz.f202.name, by decide, Tryz.func202.trans (congrArg some (by kernel_rfl))⟩
 f57 := ⟨Tryz.f210.name, by decide, Tryz.func210.trans (congrArg some (by kernel_rfl))⟩
 t0 := Tryz.underlying0
 a0 := Tryz.isAgg0
 z0 := Tryz.sizeOf0
 v0 := Tryz.zeroValue0
 t3 := Tryz.underlying3
 a3 := Tryz.isAgg3
 z3 := Tryz.sizeOf3
 v3 := Tryz.zeroValue3
 t4 := Tryz.underlying4
 a4 := Tryz.isAgg4
 z4 := Tryz.sizeOf4
 v4 := Tryz.zeroValue4
 t5 := Tryz.underlying5
 a5 := Tryz.isAgg5
 z5 := Tryz.sizeOf5
 v5 := Tryz.zeroValue5
 t9 := Tryz.underlying9
 a9 := Tryz.isAgg9
 z9 := Tryz.sizeOf9
 v9 := Tryz.zeroValue9
 t22 := Tryz.underlying35
 a22 := Tryz.isAgg35
 z22 := Tryz.sizeOf35
 v22 := Tryz.zeroValue35
 t25 := Tryz.underlying65
 a25 := Tryz.isAgg65
 z25 := Tryz.sizeOf65
 v25 := Tryz.zeroValue65
 t39 := Tryz.underlying191
 a39 := Tryz.isAgg191
 z39 := Tryz.sizeOf191
 v39 := Tryz.zeroValue191
 t45 := Tryz.underlying214
 a45 := Tryz.isAgg214
 z45 := Tryz.sizeOf214
 v45 := Tryz.zeroValue214
 t46 := Tryz.underlying215
 a46 := Tryz.isAgg215
 z46 := Tryz.sizeOf215
 v46 := Tryz.zeroValue215
 t50 := Tryz.underlying219
 a50 := Tryz.isAgg219
 z50 := Tryz.sizeOf219
 v50 := Tryz.zeroValue219
 t53 := Tryz.underlying222
 a53 := Tryz.isAgg222
 z53 := Tryz.sizeOf222
 v53 := Tryz.zeroValue222
 t55 := Tryz.underlying224
 a55 := Tryz.isAgg224
 z55 := Tryz.sizeOf224
 v55 := Tryz.zeroValue224
 t66 := Tryz.underlying232
 a66 := Tryz.isAgg232
 z66 := Tryz.sizeOf232
 v66 := Tryz.zeroValue232
 t70 := Tryz.underlying236
 a70 := Tryz.isAgg236
 z70 := Tryz.sizeOf236
 v70 := Tryz.zeroValue236
 t76 := Tryz.underlying245
 a76 := Tryz.isAgg245
 z76 := Tryz.sizeOf245
 v76 := Tryz.zeroValue245
 t77 := Tryz.underlying227
 a77 := Tryz.isAgg227
 z77 := Tryz.sizeOf227
 v77 := Tryz.zeroValue227 }
open Go.RowKit Go.Lib Go.Sort in
theorem slices_SortFunc_none {α : Type} [Inhabited α] (p : Option Addr) (cap : Nat) (fv : Value) (w : World) :
  Calls Tryz.prog 127 #[.slice p 0 cap, fv] w fun e w' => e = .returned (.tuple #[]) ∧ w' = w := AnyF.slices_SortFunc_none laysF0 p cap fv w
end Go.Proofs.YtolekmhhkopooaaGreatDoor.Zq
end
section
namespace Go.Proofs.YtolekmhhkopooaaGreatDoor.Zq
variable {P : Program} {M : Mp} {H : Heap} {w : World}
def WTc (P : Program) (H : Heap) : Nat -> TypeId -> List Value -> Prop
 | 0, _, _ => False
 | d + 1, t, cs => cs.length = P.cellsOf t ∧
  match P.underlying t with
  | some .bool => ∃ b, cs = [.bool b]
  | some (.int k) => ∃ n, cs = [.int k n] ∧ (Lit.int k n).wf = true
  | some .string => ∃ s : ByteArray, cs = [.string s] ∧ s.size ≤ maxLen
  | some (.slice e) => cs = [.slice none 0 0] ∨ (∃ b off, cs = [.slice (some ⟨b, off, some 0⟩) 0 0]) ∨
    ∃ b len cap, ∃ acss : List (List Value), cs = [.slice (some ⟨b, 0, none⟩) len cap] ∧ len ≤ cap ∧ cap ≤ maxLen ∧ acss.length = cap ∧ 0 < cap ∧ H[b]? = some (.row acss.flatten (P.cellsOf e) false true true) ∧ ∀ a ∈ acss, WTc P H d e a
  | some (.struct fs) => ∃ acss : List (List Value), acss.length = fs.size ∧ cs = acss.flatten ∧ ∀ (i : Nat) (f : Field) (a : List Value), fs[i]? = some f -> acss[i]? = some a -> WTc P H d f.type a
  | some (.array n e) => ∃ acss : List (List Value), acss.length = n ∧ cs = acss.flatten ∧ ∀ a ∈ acss, WTc P H d e a
  | _ => False
theorem WTc.len {d : Nat} {t : TypeId} {cs : List Value} (h : WTc P H d t cs) : cs.length = P.cellsOf t := by
 cases d with
 | zero => exact h.elim
 | succ d => exact h.1
theorem WTc.app {K : Heap} : ∀ {d : Nat} {t : TypeId} {cs : List Value}, WTc P H d t cs -> WTc P (H ++ K) d t cs
 | 0, _, _, h => h.elim
 | d + 1, t, cs, h => by
  simp only [WTc] at h ⊢
  refine ⟨h.1, ?_⟩
  have h := h.2
  split at h
  ·exact h
  ·exact h
  ·exact h
  ·rcases h with h | h | ⟨b, len, cap, acss, h1, h2, h3, h4, h5, h6, h7⟩
   ·exact .inl h
   ·exact .inr (.inl h)
   ·exact .inr (.inr ⟨b, len, cap, acss, h1, h2, h3, h4, h5, by rw [List.getElem?_append_left (List.getElem?_eq_some_iff.1 h6).1]; exact h6, fun a ha => (h7 a ha).app⟩)
  ·obtain ⟨acss, h1, h2, h3⟩ := h
   exact ⟨acss, h1, h2, fun i f a hf ha => (h3 i f a hf ha).app⟩
  ·obtain ⟨acss, h1, h2, h3⟩ := h
   exact ⟨acss, h1, h2, fun a ha => (h3 a ha).app⟩
  ·exact h
def contig (P : Program) : List Field -> Nat -> Nat -> Bool
 | [], o, n => o == n
 | f :: r, o, n => f.offset == o && contig P r (o + P.cellsOf f.type) n
def okD (P : Program) : Nat -> TypeId -> Bool
 | 0, _ => false
 | d + 1, t =>
  match P.underlying t with
  | some .bool | some (.int _) | some .string => P.cellsOf t == 1
  | some (.slice e) => P.cellsOf t == 1 && decide (0 < P.cellsOf e) && okD P d e
  | some (.struct fs) => contig P fs.toList 0 (P.cellsOf t) && fs.toList.all fun f => okD P d f.type
  | some (.array n e) => n * P.cellsOf e == P.cellsOf t && okD P d e
  | _ => false
def RoH (H : Heap) : Prop := ∀ b, ¬ writB H b
theorem RoH.app {H K : Heap} (h : RoH H) (k : ∀ x ∈ K, ∃ c sz l, x = .row c sz false true l) : RoH (H ++ K) := by
 intro b hb
 unfold writB at hb
 by_cases hl : b < H.length
 ·rw [List.getElem?_append_left hl] at hb
  exact h b (by unfold writB; exact hb)
 ·rw [List.getElem?_append_right (by omega)] at hb
  cases hq : K[b - H.length]? with
  | none => rw [hq] at hb; exact hb
  | some x =>
   obtain ⟨c, sz, l, rfl⟩ := k x (List.mem_of_getElem? hq)
   rw [hq] at hb; simp at hb
structure Adds (M : Mp) (H : Heap) (w : World) (N : Mp) (K : Heap) : Prop where
 hr : HR (M ++ N) (H ++ K) w
 ro : ∀ x ∈ K, ∃ c sz l, x = .row c sz false true l
theorem Adds.refl (h : HR M H w) : Adds M H w [] [] := ⟨by simpa using h, fun x hx => by simp at hx⟩
theorem Adds.trans {N N' : Mp} {K K' : Heap} (h : Adds M H w N K) (k : Adds (M ++ N) (H ++ K) w N' K') : Adds M H w (N ++ N') (K ++ K') :=
 ⟨by simpa [List.append_assoc] using k.hr, fun x hx => by rcases List.mem_append.1 hx with h1 | h1; exact h.ro x h1; exact k.ro x h1⟩
theorem addRow (h : HR M H w) (hro : RoH H) {cells us : List Value} {sz b o : Nat} (hc : ∃ c t fz, w.heap[b]? = some (.cells c t fz) ∧ o + us.length ≤ c.size ∧ (c.toList.drop o).take us.length = us) (hv : VL M cells us) :
  ∃ e : Ent, e.blk = b ∧ e.base = o ∧ e.opn = false ∧ Adds M H w [some e] [.row cells sz false true true] := by
 obtain ⟨c, t, fz, hw, hle, htk⟩ := hc
 refine ⟨⟨b, o, false, cells.length, sz, c.size⟩, rfl, rfl, rfl, ⟨?_, fun x hx => by simp at hx; exact ⟨_, _, _, hx⟩⟩⟩
 have hx := Ext.app M [some (⟨b, o, false, cells.length, sz, c.size⟩ : Ent)]
 have hlen := h.len
 have hro' : RoH (H ++ [.row cells sz false true true]) := hro.app fun x hx => by simp at hx; exact ⟨_, _, _, hx⟩
 refine ⟨by simp [hlen], fun q e k hq hk => ?_, fun q q' e e' _ _ _ hwr _ => absurd hwr (hro' q)⟩
 by_cases hl : q < M.length
 ·rw [List.getElem?_append_left hl] at hq
  rw [List.getElem?_append_left (by omega)] at hk
  exact (h.blk q e k hq hk).mono hx
 ·have e0 : q = M.length := by
   have := (List.getElem?_eq_some_iff.1 hq).1
   simp at this; omega
  subst e0
  rw [List.getElem?_append_right (Nat.le_refl _)] at hq
  rw [hlen, List.getElem?_append_right (Nat.le_refl _)] at hk
  simp at hq hk; subst hq; subst hk
  exact ⟨rfl, rfl, rfl, fun _ => ⟨c, t, fz, hw, rfl, by have := hv.1; simp; omega, by
   have e : (c.toList.drop o).take cells.length = us := by rw [hv.1]; exact htk
   simp only
   rw [e]; exact hv.mono hx, fun hf => by simp at hf⟩⟩
theorem pieces {P : Program} : ∀ {l : List Field} {o n : Nat} {cs : List Value}, contig P l o n = true -> cs.length = n -> o ≤ n ∧ ((l.map fun f => (cs.drop f.offset).take (P.cellsOf f.type)).flatten = cs.drop o)
 | [], o, n, cs, h, hl => by
  simp [contig] at h; subst h
  exact ⟨Nat.le_refl _, by simp [hl]⟩
 | f :: r, o, n, cs, h, hl => by
  simp only [contig, Bool.and_eq_true, beq_iff_eq] at h
  obtain ⟨h1, h2⟩ := h
  obtain ⟨h3, h4⟩ := pieces h2 hl
  refine ⟨by omega, ?_⟩
  simp only [List.map_cons, List.flatten_cons, h4, h1]
  rw [← List.drop_drop]
  exact List.take_append_drop _ _
theorem piecesN : ∀ (n sz : Nat) (cs : List Value), cs.length = n * sz -> ((List.range n).map fun i => (cs.drop (i * sz)).take sz).flatten = cs
 | 0, sz, cs, h => by simp at h; simp [h]
 | n + 1, sz, cs, h => by
  rw [List.range_succ, List.map_append, List.flatten_append]
  have hl : (cs.take (n * sz)).length = n * sz := by simp; rw [h, Nat.add_mul]; omega
  have := piecesN n sz (cs.take (n * sz)) hl
  have e : ((List.range n).map fun i => (cs.drop (i * sz)).take sz) = (List.range n).map fun i => ((cs.take (n * sz)).drop (i * sz)).take sz := by
   apply List.map_congr_left
   intro i hi
   have hi : i < n := by simpa using hi
   rw [List.drop_take, List.take_take]
   congr 1
   have : (i + 1) * sz ≤ n * sz := Nat.mul_le_mul_right _ hi
   rw [Nat.add_mul] at this
   omega
  rw [e, this]
  simp only [List.map_cons, List.map_nil, List.flatten_cons, List.flatten_nil, List.append_nil]
  rw [List.take_of_length_le (l := cs.drop (n * sz)) (by simp; rw [h, Nat.add_mul]; omega)]
  exact List.take_append_drop _ _
section
variable {HH : Type} {enc : TypeId × Value -> HH} {base : Nat} {spare : Nat -> Bool} {held : Bool}
theorem flat_vl (M : Mp) {v : Value} (h : flat1 v = true) : VL M [v] [v] := VL.cons (VR.flat1 h) (VL.nil M)
end
end Go.Proofs.YtolekmhhkopooaaGreatDoor.Zq
end
section
namespace Go.Proofs.YtolekmhhkopooaaGreatDoor.Zq
section
variable {Pr : Program} {H : Heap}
inductive Sh where
 | b
 | i (k : IntKind)
 | s
 | sl
def ShL : List Sh -> List Value -> Prop
 | [], cs => cs = []
 | .b :: r, cs => ∃ x t, cs = .bool x :: t ∧ ShL r t
 | .i k :: r, cs => ∃ x t, cs = .int k x :: t ∧ ShL r t
 | .s :: r, cs => ∃ x t, cs = .string x :: t ∧ ShL r t
 | .sl :: r, cs => ∃ (x : Sl) (t : List Value), cs = x.v :: t ∧ ShL r t
theorem ShL.app : ∀ {a b : List Sh} {x y : List Value}, ShL a x -> ShL b y -> ShL (a ++ b) (x ++ y)
 | [], b, x, y, h, k => by
  have h : x = [] := h
  subst h; exact k
 | .b :: r, b, x, y, h, k => by obtain ⟨q, t, rfl, h⟩ := h; exact ⟨q, t ++ y, rfl, ShL.app h k⟩
 | .i _ :: r, b, x, y, h, k => by obtain ⟨q, t, rfl, h⟩ := h; exact ⟨q, t ++ y, rfl, ShL.app h k⟩
 | .s :: r, b, x, y, h, k => by obtain ⟨q, t, rfl, h⟩ := h; exact ⟨q, t ++ y, rfl, ShL.app h k⟩
 | .sl :: r, b, x, y, h, k => by obtain ⟨q, t, rfl, h⟩ := h; exact ⟨q, t ++ y, rfl, ShL.app h k⟩
def catO : List (Option (List Sh)) -> Option (List Sh)
 | [] => some []
 | x :: r => match x, catO r with | some a, some b => some (a ++ b) | _, _ => none
def shp (P : Program) : Nat -> TypeId -> Option (List Sh)
 | 0, _ => none
 | d + 1, t =>
  match P.underlying t with
  | some .bool => some [.b]
  | some (.int k) => some [.i k]
  | some .string => some [.s]
  | some (.slice _) => some [.sl]
  | some (.struct fs) => catO (fs.toList.map fun f => shp P d f.type)
  | some (.array n e) => catO ((List.range n).map fun _ => shp P d e)
  | _ => none
theorem catO_ok : ∀ (l : List (Option (List Sh))) (acss : List (List Value)) (ss : List Sh), acss.length = l.length -> (∀ (i : Nat) o a, l[i]? = some o -> acss[i]? = some a -> ∀ s, o = some s -> ShL s a) -> catO l = some ss -> ShL ss acss.flatten
 | [], [], ss, _, _, h => by simp [catO] at h; subst h; rfl
 | o :: l, a :: acss, ss, hl, hp, h => by
  simp only [catO] at h
  split at h
  ·rename_i x y hy
   cases h
   rw [List.flatten_cons]
   exact ShL.app (hp 0 _ a rfl rfl x rfl) (catO_ok l acss y (by simpa using hl) (fun i o a h1 h2 => hp (i + 1) o a (by simpa using h1) (by simpa using h2)) hy)
  ·cases h
 | [], _ :: _, _, h, _, _ => by simp at h
 | _ :: _, [], _, h, _, _ => by simp at h
theorem WTc.shp : ∀ {d : Nat} {t : TypeId} {cs : List Value} {ss : List Sh}, WTc Pr H d t cs -> Zq.shp Pr d t = some ss -> ShL ss cs
 | 0, _, _, _, h, _ => h.elim
 | d + 1, t, cs, ss, h, hs => by
  simp only [WTc] at h
  simp only [Zq.shp] at hs
  obtain ⟨_, h⟩ := h
  split at h
  ·rename_i ht
   rw [ht] at hs; cases hs
   obtain ⟨b, rfl⟩ := h
   exact ⟨b, [], rfl, rfl⟩
  ·rename_i ht
   rw [ht] at hs; cases hs
   obtain ⟨b, rfl, _⟩ := h
   exact ⟨b, [], rfl, rfl⟩
  ·rename_i ht
   rw [ht] at hs; cases hs
   obtain ⟨b, rfl, _⟩ := h
   exact ⟨b, [], rfl, rfl⟩
  ·rename_i ht
   rw [ht] at hs; cases hs
   rcases h with rfl | ⟨b, off, rfl⟩ | ⟨b, len, cap, acss, rfl, _⟩
   ·exact ⟨⟨none, 0, 0⟩, [], rfl, rfl⟩
   ·exact ⟨⟨some ⟨b, off, some 0⟩, 0, 0⟩, [], rfl, rfl⟩
   ·exact ⟨⟨some ⟨b, 0, none⟩, len, cap⟩, [], rfl, rfl⟩
  ·rename_i fs ht
   rw [ht] at hs
   obtain ⟨acss, hl, rfl, hp⟩ := h
   refine catO_ok _ acss ss (by simp [hl]) (fun i o a h1 h2 s hs => ?_) hs
   simp only [List.getElem?_map, Option.map_eq_some_iff] at h1
   obtain ⟨f, h3, h4⟩ := h1
   exact WTc.shp (hp i f a (by simpa using h3) h2) (h4.trans hs)
  ·rename_i n e ht
   rw [ht] at hs
   obtain ⟨acss, hl, rfl, hp⟩ := h
   refine catO_ok _ acss ss (by simp [hl]) (fun i o a h1 h2 s hs => ?_) hs
   simp only [List.getElem?_map, Option.map_eq_some_iff] at h1
   obtain ⟨f, h3, h4⟩ := h1
   exact WTc.shp (hp a (List.mem_of_getElem? h2)) (h4.trans hs)
  ·exact h.elim
end
section
variable {P : Program}
theorem RoH.nil : RoH [] := fun b hb => by unfold writB at hb; simp at hb
theorem CALL.law {M : Mp} {H : Heap} {w : World} {g : FuncId} {args args' : List Value} (h : CALL P [T_bool] g args H fun x _ => x.1 = true) (hr : HR M H w) (hv : VL M args args') (hn : RoH H) :
  Calls P g args'.toArray w fun e w' => e = .returned (.bool true) ∧ RowKit.Below w.heap.size w w' := by
 refine EV.law (EV.mono h ?_) hr hv hn
 rintro v H' ⟨x, rfl, hx⟩
 show Value.bool x.1 = _
 rw [hx]
theorem RoH.adds {M N : Mp} {H K : Heap} {w : World} (h : RoH H) (a : Adds M H w N K) : RoH (H ++ K) := h.app a.ro
end
end Go.Proofs.YtolekmhhkopooaaGreatDoor.Zq
end
section
namespace Go.Proofs.YtolekmhhkopooaaGreatDoor.Zq
section
section
variable {Pr : Program} {H : Heap}
theorem flatten_at : ∀ (acss : List (List Value)) (i : Nat) (a : List Value), acss[i]? = some a -> (acss.flatten.drop ((acss.take i).map List.length).sum).take a.length = a
 | [], i, a, h => by simp at h
 | x :: r, 0, a, h => by simp at h; subst h; simp
 | x :: r, i + 1, a, h => by
  have := flatten_at r i a (by simpa using h)
  simp only [List.flatten_cons, List.take_succ_cons, List.map_cons, List.sum_cons]
  rw [← List.drop_drop, List.drop_left]; exact this
theorem lens_eq {d : Nat} {fs : List Field} : ∀ {acss : List (List Value)} (i : Nat), (∀ (j : Nat) (f : Field) (a : List Value), fs[j]? = some f -> acss[j]? = some a -> WTc Pr H d f.type a) -> acss.length = fs.length -> ((acss.take i).map List.length).sum = ((fs.take i).map fun f => Pr.cellsOf f.type).sum := by
 induction fs with
 | nil => intro acss i _ hl; have : acss = [] := List.length_eq_zero_iff.1 hl; subst this; simp
 | cons f r ih =>
  intro acss i hp hl
  cases acss with
  | nil => simp at hl
  | cons a q =>
   cases i with
   | zero => rfl
   | succ i =>
    simp only [List.take_succ_cons, List.map_cons, List.sum_cons]
    rw [(hp 0 f a rfl rfl).len, ih i (fun j g b h1 h2 => hp (j + 1) g b (by simpa using h1) (by simpa using h2)) (by simpa using hl)]
theorem WTc.fld {d : Nat} {t : TypeId} {cs : List Value} {fs : Array Field} (ht : Pr.underlying t = some (.struct fs)) {i off : Nat} {f : Field} (hf : fs[i]? = some f) (hoff : ((fs.toList.take i).map fun f => Pr.cellsOf f.type).sum = off) (h : WTc Pr H (d + 1) t cs) :
  WTc Pr H d f.type ((cs.drop off).take (Pr.cellsOf f.type)) := by
 simp only [WTc, ht] at h
 obtain ⟨_, acss, hl, rfl, hp⟩ := h
 have hi : i < fs.size := (Array.getElem?_eq_some_iff.1 hf).1
 have ha : acss[i]? = some acss[i] := List.getElem?_eq_getElem (by omega)
 have hw := hp i f _ hf ha
 have := flatten_at acss i _ ha
 rw [lens_eq (Pr := Pr) (H := H) (d := d) (fs := fs.toList) i (fun j f a h1 h2 => hp j f a (by simpa using h1) h2) (by simpa using hl), hoff, hw.len] at this
 rw [this]; exact hw
theorem Sl.v_inj {s u : Sl} (h : s.v = u.v) : s = u := by
 cases s; cases u
 simp only [Sl.v, Value.slice.injEq] at h
 obtain ⟨rfl, rfl, rfl⟩ := h; rfl
end
end
section
variable {B : Nat} {P : Program} {M : Mp} {H : Heap} {w : World}
def WTcB (B : Nat) (P : Program) (H : Heap) : Nat -> TypeId -> List Value -> Prop
 | 0, _, _ => False
 | d + 1, t, cs => cs.length = P.cellsOf t ∧
  match P.underlying t with
  | some .bool => ∃ b, cs = [.bool b]
  | some (.int k) => ∃ n, cs = [.int k n] ∧ (Lit.int k n).wf = true
  | some .string => ∃ s : ByteArray, cs = [.string s] ∧ s.size ≤ maxLen
  | some (.slice e) => cs = [.slice none 0 0] ∨ (∃ b off, cs = [.slice (some ⟨b, off, some 0⟩) 0 0]) ∨
    ∃ b len cap, ∃ acss : List (List Value), cs = [.slice (some ⟨b, 0, none⟩) len cap] ∧ len ≤ cap ∧ cap ≤ maxLen ∧ len ≤ B ∧ acss.length = cap ∧ 0 < cap ∧ H[b]? = some (.row acss.flatten (P.cellsOf e) false true true) ∧ ∀ a ∈ acss, WTcB B P H d e a
  | some (.struct fs) => ∃ acss : List (List Value), acss.length = fs.size ∧ cs = acss.flatten ∧ ∀ (i : Nat) (f : Field) (a : List Value), fs[i]? = some f -> acss[i]? = some a -> WTcB B P H d f.type a
  | some (.array n e) => ∃ acss : List (List Value), acss.length = n ∧ cs = acss.flatten ∧ ∀ a ∈ acss, WTcB B P H d e a
  | _ => False
theorem WTcB.len {d : Nat} {t : TypeId} {cs : List Value} (h : WTcB B P H d t cs) : cs.length = P.cellsOf t := by
 cases d with
 | zero => exact h.elim
 | succ d => exact h.1
theorem WTcB.app {K : Heap} : ∀ {d : Nat} {t : TypeId} {cs : List Value}, WTcB B P H d t cs -> WTcB B P (H ++ K) d t cs
 | 0, _, _, h => h.elim
 | d + 1, t, cs, h => by
  simp only [WTcB] at h ⊢
  refine ⟨h.1, ?_⟩
  have h := h.2
  split at h
  ·exact h
  ·exact h
  ·exact h
  ·rcases h with h | h | ⟨b, len, cap, acss, h1, h2, h3, hB, h4, h5, h6, h7⟩
   ·exact .inl h
   ·exact .inr (.inl h)
   ·exact .inr (.inr ⟨b, len, cap, acss, h1, h2, h3, hB, h4, h5, by rw [List.getElem?_append_left (List.getElem?_eq_some_iff.1 h6).1]; exact h6, fun a ha => (h7 a ha).app⟩)
  ·obtain ⟨acss, h1, h2, h3⟩ := h
   exact ⟨acss, h1, h2, fun i f a hf ha => (h3 i f a hf ha).app⟩
  ·obtain ⟨acss, h1, h2, h3⟩ := h
   exact ⟨acss, h1, h2, fun a ha => (h3 a ha).app⟩
  ·exact h
section
variable {HH : Type} {S : DataW HH -> Prop} {enc : TypeId × Value -> HH} {base : Nat} {spare : Nat -> Bool} {held : Bool}
def OpenB (B : Nat) (S : DataW HH -> Prop) (P : Program) (w : World) (enc : TypeId × Value -> HH) (base : Nat) (spare : Nat -> Bool) (held : Bool) (d : Nat) (t : TypeId) : Prop :=
 ∀ (fuel : Nat) (cs : List Value) (x : DataW HH × List MemPlace) (M : Mp) (H : Heap), DataW.trod enc P w base spare held fuel t cs = some x -> S x.1 -> HR M H w -> RoH H →
  ∃ N K acs, Adds M H w N K ∧ VL (M ++ N) acs cs ∧ WTcB B P (H ++ K) d t acs
theorem openLB {d : Nat} : ∀ (l : List (TypeId × List Value)) (M : Mp) (H : Heap), (∀ p ∈ l, OpenB B S P w enc base spare held d p.1) -> (∀ p ∈ l, ∃ fuel x, DataW.trod enc P w base spare held fuel p.1 p.2 = some x ∧ S x.1) -> HR M H w -> RoH H →
  ∃ N K acss, Adds M H w N K ∧ acss.length = l.length ∧ VL (M ++ N) (List.flatten acss) (l.map (·.2)).flatten ∧ ∀ (i : Nat) (p : TypeId × List Value) (a : List Value), l[i]? = some p -> acss[i]? = some a -> WTcB B P (H ++ K) d p.1 a
 | [], M, H, _, _, h, _ => ⟨[], [], [], .refl h, rfl, by simpa using VL.nil _, fun i p a hi => by simp at hi⟩
 | p :: l, M, H, ho, hr, h, hro => by
  obtain ⟨fuel, x, hx, hs⟩ := hr p (by simp)
  obtain ⟨N, K, acs, h1, h2, h3⟩ := ho p (by simp) fuel p.2 x M H hx hs h hro
  obtain ⟨N', K', acss, g1, g2, g3, g4⟩ := openLB l (M ++ N) (H ++ K) (fun q hq => ho q (by simp [hq])) (fun q hq => hr q (by simp [hq])) h1.hr (hro.app h1.ro)
  refine ⟨N ++ N', K ++ K', acs :: acss, h1.trans g1, by simp [g2], ?_, fun i q a hi ha => ?_⟩
  ·simp only [List.map_cons, List.flatten_cons]
   rw [← List.append_assoc]
   exact (h2.mono (Ext.app _ _)).append g3
  ·cases i with
   | zero => simp at hi ha; subst hi; subst ha; rw [← List.append_assoc]; exact h3.app
   | succ i => rw [← List.append_assoc]; exact g4 i q a (by simpa using hi) (by simpa using ha)
theorem openB (hS1 : ∀ e r, S (.slice e r) -> e.length ≤ B ∧ ∀ d ∈ e ++ r, S d) (hS2 : ∀ l, S (.agg l) -> ∀ d ∈ l, S d) : ∀ (d : Nat) (t : TypeId), okD P d t = true -> OpenB B S P w enc base (fun _ => true) held d t
 | 0, t, h => by simp [okD] at h
 | d + 1, t, h => by
  intro fuel cs x M H hx hs hr hro
  unfold okD at h
  split at h
  ·rename_i ht
   obtain ⟨b, rfl, _⟩ := DataW.trod_bool ht hx
   exact ⟨[], [], _, .refl hr, flat_vl _ rfl, by simp only [WTcB, ht]; exact ⟨by simpa using (by simpa using h : P.cellsOf t = 1).symm, b, rfl⟩⟩
  ·rename_i k ht
   obtain ⟨n, rfl, _, hw⟩ := DataW.trod_int ht hx
   exact ⟨[], [], _, .refl hr, flat_vl _ rfl, by simp only [WTcB, ht]; exact ⟨by simpa using (by simpa using h : P.cellsOf t = 1).symm, n, rfl, hw⟩⟩
  ·rename_i ht
   obtain ⟨s, rfl, _, hs⟩ := DataW.trod_string ht hx
   exact ⟨[], [], _, .refl hr, flat_vl _ rfl, by simp only [WTcB, ht]; exact ⟨by simpa using (by simpa using h : P.cellsOf t = 1).symm, s, rfl, hs⟩⟩
  ·rename_i e ht
   simp only [Bool.and_eq_true, beq_iff_eq, decide_eq_true_eq] at h
   obtain ⟨⟨hc1, hc0⟩, hok⟩ := h
   rcases DataW.trod_slice ht hx with ⟨rfl, _⟩ | ⟨a, len, cap, elems, rest, n, _, rfl, hxe, hb, hl, hm, hlen, hel, hsp, _⟩
   ·exact ⟨[], [], _, .refl hr, flat_vl _ rfl, by simp [WTcB, ht, hc1]⟩
   ·obtain ⟨hrl, hre⟩ := hsp rfl
    rw [hxe] at hs
    obtain ⟨hsl, hsm⟩ := hS1 _ _ hs
    rw [List.length_map, hlen] at hsl
    by_cases hcap : cap = 0
    ·subst hcap
     have : len = 0 := by omega
     subst this
     exact ⟨[], [], [.slice (some ⟨0, 0, some 0⟩) 0 0], .refl hr, VL.cons .sliceE (VL.nil _), by simp only [WTcB, ht]; exact ⟨by simp [hc1], .inr (.inl ⟨0, 0, rfl⟩)⟩⟩
    ·have hall : ∀ i, i < cap -> ∃ ci y, w.cells? base (a.add (i * P.cellsOf e)) (P.cellsOf e) = some ci ∧ DataW.trod enc P w base (fun _ => true) held n e ci = some y ∧ S y.1 := by
      intro i hi
      by_cases h' : i < len
      ·have := hel i h'
       rw [List.getElem?_eq_getElem (by omega), Option.bind_eq_some_iff] at this
       obtain ⟨ci, q1, q2⟩ := this
       exact ⟨ci, _, q1, q2, hsm _ (List.mem_append_left _ (List.mem_map.2 ⟨_, List.getElem_mem _, rfl⟩))⟩
      ·have := hre (i - len) (by omega)
       rw [show len + (i - len) = i by omega, List.getElem?_eq_getElem (by omega), Option.bind_eq_some_iff] at this
       obtain ⟨ci, q1, q2⟩ := this
       exact ⟨ci, _, q1, q2, hsm _ (List.mem_append_right _ (List.mem_map.2 ⟨_, List.getElem_mem _, rfl⟩))⟩
     have hspot : a.spot = none := by
      obtain ⟨ci, y, q1, _⟩ := hall 0 (by omega)
      obtain ⟨_, q3, q4⟩ := World.cells?_some q1
      have := q4 0 hc0
      rw [List.getElem?_eq_getElem (by omega)] at this
      simp only [Nat.zero_mul] at this
      unfold World.cell? at this
      simp only [Addr.add, if_true] at this
      split at this
      ·split at this
       ·simp at this
       ·rename_i hns; simpa using hns
      ·simp at this
     obtain ⟨bl, of, sp⟩ := a
     simp only at hspot; subst hspot
     obtain ⟨c, ct, fz, hw⟩ : ∃ c ct fz, w.heap[bl]? = some (.cells c ct fz) := by
      obtain ⟨ci, y, q1, _⟩ := hall 0 (by omega)
      obtain ⟨_, q3, q4⟩ := World.cells?_some q1
      have := q4 0 hc0
      rw [List.getElem?_eq_getElem (by omega)] at this
      simp only [Nat.zero_mul] at this
      unfold World.cell? at this
      simp only [Addr.add, if_true] at this
      split at this
      ·rename_i c ct fz hw; exact ⟨c, ct, fz, hw⟩
      ·simp at this
     have hci : ∀ i, i < cap -> w.cells? base ((⟨bl, of, none⟩ : Addr).add (i * P.cellsOf e)) (P.cellsOf e) = some ((c.toList.drop (of + i * P.cellsOf e)).take (P.cellsOf e)) ∧ of + i * P.cellsOf e + P.cellsOf e ≤ c.size := by
      intro i hi
      obtain ⟨ci, y, q1, _⟩ := hall i hi
      obtain ⟨_, q3, q4⟩ := World.cells?_some q1
      have hj : ∀ j, j < P.cellsOf e -> c.toList[of + i * P.cellsOf e + j]? = ci[j]? := by
       intro j hj
       have := q4 j hj
       rw [Addr.add_lit, Addr.add_lit] at this
       unfold World.cell? at this
       simp only [hw] at this
       simpa using this
      have hsz : of + i * P.cellsOf e + P.cellsOf e ≤ c.size := by
       have := hj (P.cellsOf e - 1) (by omega)
       rw [List.getElem?_eq_getElem (l := ci) (by omega)] at this
       have := (List.getElem?_eq_some_iff.1 this).1
       simp at this; omega
      refine ⟨?_, hsz⟩
      rw [q1]; congr 1
      apply List.ext_getElem?
      intro j
      rw [List.getElem?_take, List.getElem?_drop]
      by_cases hjl : j < P.cellsOf e
      ·rw [if_pos hjl, hj j hjl]
      ·rw [if_neg hjl, List.getElem?_eq_none (by omega)]
     let us := (c.toList.drop of).take (cap * P.cellsOf e)
     have hul : us.length = cap * P.cellsOf e := by
      have := (hci (cap - 1) (by omega)).2
      have h2 : (cap - 1) * P.cellsOf e + P.cellsOf e = cap * P.cellsOf e := by rw [← Nat.succ_mul]; congr 1; omega
      simp [us]; omega
     let l := (List.range cap).map fun i => (e, (us.drop (i * P.cellsOf e)).take (P.cellsOf e))
     have hpc : ∀ i, i < cap -> (us.drop (i * P.cellsOf e)).take (P.cellsOf e) = (c.toList.drop (of + i * P.cellsOf e)).take (P.cellsOf e) := by
      intro i hi
      simp only [us]
      rw [List.drop_take, List.take_take, List.drop_drop]
      congr 1
      have : (i + 1) * P.cellsOf e ≤ cap * P.cellsOf e := Nat.mul_le_mul_right _ hi
      rw [Nat.add_mul] at this
      omega
     obtain ⟨N, K, acss, g1, g2, g3, g4⟩ := openLB (d := d) l M H (fun p hp => by
       obtain ⟨i, _, rfl⟩ := List.mem_map.1 hp
       exact openB hS1 hS2 d e hok) (fun p hp => by
       obtain ⟨i, hi, rfl⟩ := List.mem_map.1 hp
       have hi : i < cap := by simpa using hi
       obtain ⟨ci, y, q1, q2, q3⟩ := hall i hi
       rw [(hci i hi).1] at q1
       have q1 := Option.some.inj q1
       refine ⟨n, y, ?_, q3⟩
       simp only
       rw [hpc i hi, q1]; exact q2) hr hro
     have hfl : (l.map (·.2)).flatten = us := by
      simp only [l, List.map_map]
      exact piecesN cap _ us hul
     rw [hfl] at g3
     obtain ⟨en, k1, k2, k3, k4⟩ := addRow (sz := P.cellsOf e) (b := bl) (o := of) g1.hr (hro.app g1.ro) ⟨c, ct, fz, hw, by
      have := (hci (cap - 1) (by omega)).2
      have h2 : (cap - 1) * P.cellsOf e + P.cellsOf e = cap * P.cellsOf e := by rw [← Nat.succ_mul]; congr 1; omega
      rw [hul]; omega, by rw [hul]⟩ g3
     refine ⟨N ++ [some en], K ++ [.row acss.flatten (P.cellsOf e) false true true], [.slice (some ⟨(H ++ K).length, 0, none⟩) len cap], g1.trans k4, ?_, ?_⟩
     ·refine VL.cons ?_ (VL.nil _)
      have hget : (M ++ (N ++ [some en]))[(H ++ K).length]? = some (some en) := by
       have := g1.hr.len
       rw [← List.append_assoc, ← this]; simp
      have := VR.slice (M := M ++ (N ++ [some en])) (off := 0) (len := len) (cap := cap) (c := cap) hget (.inl rfl)
      rw [k1, k2] at this
      exact this
     ·simp only [WTcB, ht]
      refine ⟨by simp [hc1], .inr (.inr ⟨_, len, cap, acss, rfl, hl, hm, hsl, by rw [g2]; simp [l], by omega, ?_, fun x hxm => ?_⟩)⟩
      ·rw [← List.append_assoc]; simp
      ·obtain ⟨i, hi⟩ := List.mem_iff_getElem?.1 hxm
       have hil : i < cap := by have := (List.getElem?_eq_some_iff.1 hi).1; rw [g2] at this; simpa [l] using this
       have := g4 i (e, (us.drop (i * P.cellsOf e)).take (P.cellsOf e)) x (by simp [l, hil]) hi
       rw [← List.append_assoc]; exact this.app
  ·rename_i fs ht
   simp only [Bool.and_eq_true, List.all_eq_true] at h
   obtain ⟨hct, hok⟩ := h
   obtain ⟨xs, n, _, hxe, hl, hxl, hxs⟩ := DataW.trod_struct ht hx
   rw [hxe] at hs
   have hsm := hS2 _ hs
   obtain ⟨_, hfl⟩ := pieces hct hl
   obtain ⟨N, K, acss, g1, g2, g3, g4⟩ := openLB (d := d) (fs.toList.map fun f => (f.type, (cs.drop f.offset).take (P.cellsOf f.type))) M H (fun p hp => by
     obtain ⟨f, hf, rfl⟩ := List.mem_map.1 hp
     exact openB hS1 hS2 d f.type (hok f hf)) (fun p hp => by
     obtain ⟨f, hf, rfl⟩ := List.mem_map.1 hp
     obtain ⟨i, hi⟩ := List.mem_iff_getElem?.1 hf
     have hi' : fs[i]? = some f := by simpa using hi
     have hil : i < xs.length := by rw [hxl]; exact (Array.getElem?_eq_some_iff.1 hi').1
     exact ⟨n, xs[i], by rw [hxs i f hi', List.getElem?_eq_getElem hil], hsm _ (List.mem_map.2 ⟨_, List.getElem_mem _, rfl⟩)⟩) hr hro
   refine ⟨N, K, acss.flatten, g1, ?_, ?_⟩
   ·have e : ((fs.toList.map fun f => (f.type, (cs.drop f.offset).take (P.cellsOf f.type))).map (·.2)).flatten = cs := by
     rw [List.map_map]
     have := hfl
     rw [List.drop_zero] at this
     exact this
    rw [e] at g3; exact g3
   ·simp only [WTcB, ht]
    refine ⟨?_, acss, by rw [g2]; simp, rfl, fun i f a hf ha => g4 i _ a (by simp only [List.getElem?_map]; rw [show fs.toList[i]? = some f by simpa using hf]; rfl) ha⟩
    have := g3.1
    rw [this, List.map_map, ← hl]
    have e := hfl
    rw [List.drop_zero] at e
    exact congrArg List.length e
  ·rename_i m e ht
   simp only [Bool.and_eq_true, beq_iff_eq] at h
   obtain ⟨hct, hok⟩ := h
   obtain ⟨xs, n, _, hxe, hl, hxl, hxs⟩ := DataW.trod_array ht hx
   rw [hxe] at hs
   have hsm := hS2 _ hs
   have hfl := piecesN m (P.cellsOf e) cs (by rw [hl, hct])
   obtain ⟨N, K, acss, g1, g2, g3, g4⟩ := openLB (d := d) ((List.range m).map fun i => (e, (cs.drop (i * P.cellsOf e)).take (P.cellsOf e))) M H (fun p hp => by
     obtain ⟨i, hi, rfl⟩ := List.mem_map.1 hp
     exact openB hS1 hS2 d e hok) (fun p hp => by
     obtain ⟨i, hi, rfl⟩ := List.mem_map.1 hp
     have hi : i < m := by simpa using hi
     exact ⟨n, xs[i]'(by omega), by simp only; rw [hxs i hi, List.getElem?_eq_getElem (by omega)], hsm _ (List.mem_map.2 ⟨_, List.getElem_mem _, rfl⟩)⟩) hr hro
   have e1 : (((List.range m).map fun i => (e, (cs.drop (i * P.cellsOf e)).take (P.cellsOf e))).map (·.2)).flatten = cs := by rw [List.map_map]; exact hfl
   rw [e1] at g3
   refine ⟨N, K, acss.flatten, g1, g3, ?_⟩
   simp only [WTcB, ht]
   refine ⟨by rw [g3.1, hl], acss, by rw [g2]; simp, rfl, fun a ha => ?_⟩
   obtain ⟨i, hi⟩ := List.mem_iff_getElem?.1 ha
   have him : i < m := by have := (List.getElem?_eq_some_iff.1 hi).1; rw [g2] at this; simpa using this
   exact g4 i (e, (cs.drop (i * P.cellsOf e)).take (P.cellsOf e)) a (by simp [him]) hi
  ·simp at h
end
theorem WTcB.wt : ∀ {d : Nat} {t : TypeId} {cs : List Value}, WTcB B P H d t cs -> WTc P H d t cs
 | 0, _, _, h => h.elim
 | d + 1, t, cs, h => by
  simp only [WTcB] at h
  simp only [WTc]
  refine ⟨h.1, ?_⟩
  have h := h.2
  split at h
  ·rename_i ht; (try simp only [ht]); exact h
  ·rename_i ht; (try simp only [ht]); exact h
  ·rename_i ht; (try simp only [ht]); exact h
  ·rename_i ht
   (try simp only [ht])
   rcases h with h | h | ⟨b, len, cap, acss, h1, h2, h3, hB, h4, h5, h6, h7⟩
   ·exact .inl h
   ·exact .inr (.inl h)
   ·exact .inr (.inr ⟨b, len, cap, acss, h1, h2, h3, h4, h5, h6, fun a ha => (h7 a ha).wt⟩)
  ·rename_i ht
   (try simp only [ht])
   obtain ⟨acss, h1, h2, h3⟩ := h
   exact ⟨acss, h1, h2, fun i f a hf ha => (h3 i f a hf ha).wt⟩
  ·rename_i ht
   (try simp only [ht])
   obtain ⟨acss, h1, h2, h3⟩ := h
   exact ⟨acss, h1, h2, fun a ha => (h3 a ha).wt⟩
  ·exact h.elim
theorem lens_eqB {d : Nat} {fs : List Field} : ∀ {acss : List (List Value)} (i : Nat), (∀ (j : Nat) (f : Field) (a : List Value), fs[j]? = some f -> acss[j]? = some a -> WTcB B P H d f.type a) -> acss.length = fs.length -> ((acss.take i).map List.length).sum = ((fs.take i).map fun f => P.cellsOf f.type).sum :=
 fun i h hl => lens_eq i (fun j f a h1 h2 => (h j f a h1 h2).wt) hl
theorem WTcB.fld {d : Nat} {t : TypeId} {cs : List Value} {fs : Array Field} (ht : P.underlying t = some (.struct fs)) {i off : Nat} {f : Field} (hf : fs[i]? = some f) (hoff : ((fs.toList.take i).map fun f => P.cellsOf f.type).sum = off) (h : WTcB B P H (d + 1) t cs) :
  WTcB B P H d f.type ((cs.drop off).take (P.cellsOf f.type)) := by
 simp only [WTcB, ht] at h
 obtain ⟨_, acss, hl, rfl, hp⟩ := h
 have hi : i < fs.size := (Array.getElem?_eq_some_iff.1 hf).1
 have ha : acss[i]? = some acss[i] := List.getElem?_eq_getElem (by omega)
 have hw := hp i f _ hf ha
 have := flatten_at acss i _ ha
 rw [lens_eqB (P := P) (H := H) (d := d) (fs := fs.toList) i (fun j f a h1 h2 => hp j f a (by simpa using h1) h2) (by simpa using hl), hoff, hw.len] at this
 rw [this]; exact hw
end
def okCell : Value -> Prop
 | .int k n => (Lit.int k n).wf = true
 | .string s => s.size ≤ maxLen
 | _ => True
theorem WTc.okc {P : Program} {H : Heap} : ∀ {d : Nat} {t : TypeId} {cs : List Value}, WTc P H d t cs -> ∀ v ∈ cs, okCell v
 | 0, _, _, h => h.elim
 | d + 1, t, cs, h => by
  simp only [WTc] at h
  obtain ⟨_, h⟩ := h
  intro v hv
  split at h
  ·obtain ⟨b, rfl⟩ := h
   simp at hv; subst hv; trivial
  ·obtain ⟨b, rfl, q⟩ := h
   simp at hv; subst hv; exact q
  ·obtain ⟨b, rfl, q⟩ := h
   simp at hv; subst hv; exact q
  ·rcases h with rfl | ⟨b, off, rfl⟩ | ⟨b, len, cap, acss, rfl, _⟩ <;> (simp at hv; subst hv; trivial)
  ·obtain ⟨acss, hl, rfl, hp⟩ := h
   obtain ⟨a, ha, hva⟩ := List.mem_flatten.1 hv
   obtain ⟨i, hi⟩ := List.mem_iff_getElem?.1 ha
   have hil := (List.getElem?_eq_some_iff.1 hi).1
   exact WTc.okc (hp i _ a (Array.getElem?_eq_getElem (by omega)) hi) v hva
  ·obtain ⟨acss, hl, rfl, hp⟩ := h
   obtain ⟨a, ha, hva⟩ := List.mem_flatten.1 hv
   exact WTc.okc (hp a ha) v hva
  ·exact h.elim
end Go.Proofs.YtolekmhhkopooaaGreatDoor.Zq
end
section
namespace Go.Proofs.YtolekmhhkopooaaGreatDoor
open Go Zq
def Tryz.tab : List (Option TI) := [
 none,
 none,
 none,
 some ⟨.int .i64, 1, 8, [.int .i64 0]⟩,
 some ⟨.bool, 1, 1, [.bool false]⟩,
 some ⟨.int .u8, 1, 1, [.int .u8 0]⟩,
 none,
 none,
 none,
 some ⟨.string, 1, 16, [.string ⟨#[]⟩]⟩,
 none,
 none,
 none,
 none,
 none,
 none,
 none,
 none,
 none,
 none,
 none,
 some ⟨.int .i32, 1, 4, [.int .i32 0]⟩,
 some ⟨.slice 113, 1, 24, [.slice none 0 0]⟩,
 some ⟨.slice 117, 1, 24, [.slice none 0 0]⟩,
 none,
 some ⟨.struct [(0, 22), (1, 23), (2, 4)], 3, 56, [.slice none 0 0, .slice none 0 0, .bool false]⟩,
 some ⟨.slice 48, 1, 24, [.slice none 0 0]⟩,
 some ⟨.slice 44, 1, 24, [.slice none 0 0]⟩,
 none,
 some ⟨.struct [(0, 25), (3, 26), (4, 27), (5, 4)], 6, 112, [.slice none 0 0, .slice none 0 0, .bool false, .slice none 0 0, .slice none 0 0, .bool false]⟩,
 some ⟨.pointer 160, 1, 8, [.pointer none]⟩,
 some ⟨.pointer 162, 1, 8, [.pointer none]⟩,
 none,
 none,
 none,
 some ⟨.slice 3, 1, 24, [.slice none 0 0]⟩,
 none,
 none,
 none,
 none,
 none,
 some ⟨.int .u16, 1, 2, [.int .u16 0]⟩,
 some ⟨.int .u8, 1, 1, [.int .u8 0]⟩,
 none,
 some ⟨.struct [(0, 3), (1, 42), (2, 41), (3, 3), (4, 3)], 5, 32, [.int .i64 0, .int .u8 0, .int .u16 0, .int .i64 0, .int .i64 0]⟩,
 some ⟨.int .u8, 1, 1, [.int .u8 0]⟩,
 some ⟨.array 4 3, 4, 32, [.int .i64 0, .int .i64 0, .int .i64 0, .int .i64 0]⟩,
 none,
 some ⟨.struct [(0, 3), (1, 3), (2, 45), (3, 3), (4, 3), (5, 46), (9, 3), (10, 4)], 11, 88, [.int .i64 0, .int .i64 0, .int .u8 0, .int .i64 0, .int .i64 0, .int .i64 0, .int .i64 0, .int .i64 0, .int .i64 0, .int .i64 0, .bool false]⟩,
 none,
 none,
 none,
 none,
 none,
 none,
 none,
 none,
 none,
 none,
 none,
 some ⟨.slice 35, 1, 24, [.slice none 0 0]⟩,
 none,
 none,
 some ⟨.struct [(0, 26), (1, 27)], 2, 48, [.slice none 0 0, .slice none 0 0]⟩,
 none,
 some ⟨.func, 1, 8, [.nilFunc]⟩,
 some ⟨.slice 82, 1, 24, [.slice none 0 0]⟩,
 some ⟨.int .i64, 1, 8, [.int .i64 0]⟩,
 none,
 none,
 none,
 none,
 none,
 none,
 some ⟨.int .u8, 1, 1, [.int .u8 0]⟩,
 some ⟨.int .u8, 1, 1, [.int .u8 0]⟩,
 some ⟨.int .u8, 1, 1, [.int .u8 0]⟩,
 some ⟨.int .u8, 1, 1, [.int .u8 0]⟩,
 some ⟨.int .u8, 1, 1, [.int .u8 0]⟩,
 none,
 some ⟨.struct [(0, 74), (1, 75), (2, 76), (3, 3), (4, 42), (5, 77), (6, 78), (7, 9)], 8, 40, [.int .u8 0, .int .u8 0, .int .u8 0, .int .i64 0, .int .u8 0, .int .u8 0, .int .u8 0, .string ⟨#[]⟩]⟩,
 none,
 some ⟨.struct [(0, 3), (1, 3), (2, 80)], 10, 56, [.int .i64 0, .int .i64 0, .int .u8 0, .int .u8 0, .int .u8 0, .int .i64 0, .int .u8 0, .int .u8 0, .int .u8 0, .string ⟨#[]⟩]⟩,
 none,
 none,
 none,
 none,
 some ⟨.slice 4, 1, 24, [.slice none 0 0]⟩,
 none,
 none,
 none,
 none,
 none,
 none,
 none,
 none,
 none,
 none,
 none,
 none,
 some ⟨.slice 27, 1, 24, [.slice none 0 0]⟩,
 none,
 none,
 none,
 none,
 some ⟨.slice 66, 1, 24, [.slice none 0 0]⟩,
 none,
 none,
 none,
 none,
 some ⟨.int .u8, 1, 1, [.int .u8 0]⟩,
 some ⟨.slice 80, 1, 24, [.slice none 0 0]⟩,
 none,
 some ⟨.struct [(0, 9), (1, 42), (2, 110), (3, 3), (4, 3), (5, 3), (6, 41), (7, 4), (8, 111)], 9, 80, [.string ⟨#[]⟩, .int .u8 0, .int .u8 0, .int .i64 0, .int .i64 0, .int .i64 0, .int .u16 0, .bool false, .slice none 0 0]⟩,
 none,
 none,
 none,
 some ⟨.struct [(0, 78), (1, 9), (2, 3), (3, 3)], 4, 40, [.int .u8 0, .string ⟨#[]⟩, .int .i64 0, .int .i64 0]⟩,
 none,
 none,
 none,
 some ⟨.func, 1, 8, [.nilFunc]⟩,
 none,
 none,
 none,
 none,
 none,
 none,
 none,
 none,
 none,
 none,
 none,
 none,
 some ⟨.struct [(0, 30), (1, 26), (2, 22), (3, 35)], 4, 80, [.pointer none, .slice none 0 0, .slice none 0 0, .slice none 0 0]⟩,
 none,
 none,
 none,
 none,
 none,
 none,
 none,
 none,
 none,
 none,
 none,
 none,
 none,
 none,
 none,
 none,
 none,
 none,
 none,
 none,
 none,
 some ⟨.array 64 113, 576, 5120, [.string ⟨#[]⟩, .int .u8 0, .int .u8 0, .int .i64 0, .int .i64 0, .int .i64 0, .int .u16 0, .bool false, .slice none 0 0, .string ⟨#[]⟩, .int .u8 0, .int .u8 0, .int .i64 0, .int .i64 0, .int .i64 0, .int .u16 0, .bool false, .slice none 0 0, .string ⟨#[]⟩, .int .u8 0, .int .u8 0, .int .i64 0, .int .i64 0, .int .i64 0, .int .u16 0, .bool false, .slice none 0 0, .string ⟨#[]⟩, .int .u8 0, .int .u8 0, .int .i64 0, .int .i64 0, .int .i64 0, .int .u16 0, .bool false, .slice none 0 0, .string ⟨#[]⟩, .int .u8 0, .int .u8 0, .int .i64 0, .int .i64 0, .int .i64 0, .int .u16 0, .bool false, .slice none 0 0, .string ⟨#[]⟩, .int .u8 0, .int .u8 0, .int .i64 0, .int .i64 0, .int .i64 0, .int .u16 0, .bool false, .slice none 0 0, .string ⟨#[]⟩, .int .u8 0, .int .u8 0, .int .i64 0, .int .i64 0, .int .i64 0, .int .u16 0, .bool false, .slice none 0 0, .string ⟨#[]⟩, .int .u8 0, .int .u8 0, .int .i64 0, .int .i64 0, .int .i64 0, .int .u16 0, .bool false, .slice none 0 0, .string ⟨#[]⟩, .int .u8 0, .int .u8 0, .int .i64 0, .int .i64 0, .int .i64 0, .int .u16 0, .bool false, .slice none 0 0, .string ⟨#[]⟩, .int .u8 0, .int .u8 0, .int .i64 0, .int .i64 0, .int .i64 0, .int .u16 0, .bool false, .slice none 0 0, .string ⟨#[]⟩, .int .u8 0, .int .u8 0, .int .i64 0, .int .i64 0, .int .i64 0, .int .u16 0, .bool false, .slice none 0 0, .string ⟨#[]⟩, .int .u8 0, .int .u8 0, .int .i64 0, .int .i64 0, .int .i64 0, .int .u16 0, .bool false, .slice none 0 0, .string ⟨#[]⟩, .int .u8 0, .int .u8 0, .int .i64 0, .int .i64 0, .int .i64 0, .int .u16 0, .bool false, .slice none 0 0, .string ⟨#[]⟩, .int .u8 0, .int .u8 0, .int .i64 0, .int .i64 0, .int .i64 0, .int .u16 0, .bool false, .slice none 0 0, .string ⟨#[]⟩, .int .u8 0, .int .u8 0, .int .i64 0, .int .i64 0, .int .i64 0, .int .u16 0, .bool false, .slice none 0 0, .string ⟨#[]⟩, .int .u8 0, .int .u8 0, .int .i64 0, .int .i64 0, .int .i64 0, .int .u16 0, .bool false, .slice none 0 0, .string ⟨#[]⟩, .int .u8 0, .int .u8 0, .int .i64 0, .int .i64 0, .int .i64 0, .int .u16 0, .bool false, .slice none 0 0, .string ⟨#[]⟩, .int .u8 0, .int .u8 0, .int .i64 0, .int .i64 0, .int .i64 0, .int .u16 0, .bool false, .slice none 0 0, .string ⟨#[]⟩, .int .u8 0, .int .u8 0, .int .i64 0, .int .i64 0, .int .i64 0, .int .u16 0, .bool false, .slice none 0 0, .string ⟨#[]⟩, .int .u8 0, .int .u8 0, .int .i64 0, .int .i64 0, .int .i64 0, .int .u16 0, .bool false, .slice none 0 0, .string ⟨#[]⟩, .int .u8 0, .int .u8 0, .int .i64 0, .int .i64 0, .int .i64 0, .int .u16 0, .bool false, .slice none 0 0, .string ⟨#[]⟩, .int .u8 0, .int .u8 0, .int .i64 0, .int .i64 0, .int .i64 0, .int .u16 0, .bool false, .slice none 0 0, .string ⟨#[]⟩, .int .u8 0, .int .u8 0, .int .i64 0, .int .i64 0, .int .i64 0, .int .u16 0, .bool false, .slice none 0 0, .string ⟨#[]⟩, .int .u8 0, .int .u8 0, .int .i64 0, .int .i64 0, .int .i64 0, .int .u16 0, .bool false, .slice none 0 0, .string ⟨#[]⟩, .int .u8 0, .int .u8 0, .int .i64 0, .int .i64 0, .int .i64 0, .int .u16 0, .bool false, .slice none 0 0, .string ⟨#[]⟩, .int .u8 0, .int .u8 0, .int .i64 0, .int .i64 0, .int .i64 0, .int .u16 0, .bool false, .slice none 0 0, .string ⟨#[]⟩, .int .u8 0, .int .u8 0, .int .i64 0, .int .i64 0, .int .i64 0, .int .u16 0, .bool false, .slice none 0 0, .string ⟨#[]⟩, .int .u8 0, .int .u8 0, .int .i64 0, .int .i64 0, .int .i64 0, .int .u16 0, .bool false, .slice none 0 0, .string ⟨#[]⟩, .int .u8 0, .int .u8 0, .int .i64 0, .int .i64 0, .int .i64 0, .int .u16 0, .bool false, .slice none 0 0, .string ⟨#[]⟩, .int .u8 0, .int .u8 0, .int .i64 0, .int .i64 0, .int .i64 0, .int .u16 0, .bool false, .slice none 0 0, .string ⟨#[]⟩, .int .u8 0, .int .u8 0, .int .i64 0, .int .i64 0, .int .i64 0, .int .u16 0, .bool false, .slice none 0 0, .string ⟨#[]⟩, .int .u8 0, .int .u8 0, .int .i64 0, .int .i64 0, .int .i64 0, .int .u16 0, .bool false, .slice none 0 0, .string ⟨#[]⟩, .int .u8 0, .int .u8 0, .int .i64 0, .int .i64 0, .int .i64 0, .int .u16 0, .bool false, .slice none 0 0, .string ⟨#[]⟩, .int .u8 0, .int .u8 0, .int .i64 0, .int .i64 0, .int .i64 0, .int .u16 0, .bool false, .slice none 0 0, .string ⟨#[]⟩, .int .u8 0, .int .u8 0, .int .i64 0, .int .i64 0, .int .i64 0, .int .u16 0, .bool false, .slice none 0 0, .string ⟨#[]⟩, .int .u8 0, .int .u8 0, .int .i64 0, .int .i64 0, .int .i64 0, .int .u16 0, .bool false, .slice none 0 0, .string ⟨#[]⟩, .int .u8 0, .int .u8 0, .int .i64 0, .int .i64 0, .int .i64 0, .int .u16 0, .bool false, .slice none 0 0, .string ⟨#[]⟩, .int .u8 0, .int .u8 0, .int .i64 0, .int .i64 0, .int .i64 0, .int .u16 0, .bool false, .slice none 0 0, .string ⟨#[]⟩, .int .u8 0, .int .u8 0, .int .i64 0, .int .i64 0, .int .i64 0, .int .u16 0, .bool false, .slice none 0 0, .string ⟨#[]⟩, .int .u8 0, .int .u8 0, .int .i64 0, .int .i64 0, .int .i64 0, .int .u16 0, .bool false, .slice none 0 0, .string ⟨#[]⟩, .int .u8 0, .int .u8 0, .int .i64 0, .int .i64 0, .int .i64 0, .int .u16 0, .bool false, .slice none 0 0, .string ⟨#[]⟩, .int .u8 0, .int .u8 0, .int .i64 0, .int .i64 0, .int .i64 0, .int .u16 0, .bool false, .slice none 0 0, .string ⟨#[]⟩, .int .u8 0, .int .u8 0, .int .i64 0, .int .i64 0, .int .i64 0, .int .u16 0, .bool false, .slice none 0 0, .string ⟨#[]⟩, .int .u8 0, .int .u8 0, .int .i64 0, .int .i64 0, .int .i64 0, .int .u16 0, .bool false, .slice none 0 0, .string ⟨#[]⟩, .int .u8 0, .int .u8 0, .int .i64 0, .int .i64 0, .int .i64 0, .int .u16 0, .bool false, .slice none 0 0, .string ⟨#[]⟩, .int .u8 0, .int .u8 0, .int .i64 0, .int .i64 0, .int .i64 0, .int .u16 0, .bool false, .slice none 0 0, .string ⟨#[]⟩, .int .u8 0, .int .u8 0, .int .i64 0, .int .i64 0, .int .i64 0, .int .u16 0, .bool false, .slice none 0 0, .string ⟨#[]⟩, .int .u8 0, .int .u8 0, .int .i64 0, .int .i64 0, .int .i64 0, .int .u16 0, .bool false, .slice none 0 0, .string ⟨#[]⟩, .int .u8 0, .int .u8 0, .int .i64 0, .int .i64 0, .int .i64 0, .int .u16 0, .bool false, .slice none 0 0, .string ⟨#[]⟩, .int .u8 0, .int .u8 0, .int .i64 0, .int .i64 0, .int .i64 0, .int .u16 0, .bool false, .slice none 0 0, .string ⟨#[]⟩, .int .u8 0, .int .u8 0, .int .i64 0, .int .i64 0, .int .i64 0, .int .u16 0, .bool false, .slice none 0 0, .string ⟨#[]⟩, .int .u8 0, .int .u8 0, .int .i64 0, .int .i64 0, .int .i64 0, .int .u16 0, .bool false, .slice none 0 0, .string ⟨#[]⟩, .int .u8 0, .int .u8 0, .int .i64 0, .int .i64 0, .int .i64 0, .int .u16 0, .bool false, .slice none 0 0, .string ⟨#[]⟩, .int .u8 0, .int .u8 0, .int .i64 0, .int .i64 0, .int .i64 0, .int .u16 0, .bool false, .slice none 0 0, .string ⟨#[]⟩, .int .u8 0, .int .u8 0, .int .i64 0, .int .i64 0, .int .i64 0, .int .u16 0, .bool false, .slice none 0 0, .string ⟨#[]⟩, .int .u8 0, .int .u8 0, .int .i64 0, .int .i64 0, .int .i64 0, .int .u16 0, .bool false, .slice none 0 0, .string ⟨#[]⟩, .int .u8 0, .int .u8 0, .int .i64 0, .int .i64 0, .int .i64 0, .int .u16 0, .bool false, .slice none 0 0, .string ⟨#[]⟩, .int .u8 0, .int .u8 0, .int .i64 0, .int .i64 0, .int .i64 0, .int .u16 0, .bool false, .slice none 0 0, .string ⟨#[]⟩, .int .u8 0, .int .u8 0, .int .i64 0, .int .i64 0, .int .i64 0, .int .u16 0, .bool false, .slice none 0 0, .string ⟨#[]⟩, .int .u8 0, .int .u8 0, .int .i64 0, .int .i64 0, .int .i64 0, .int .u16 0, .bool false, .slice none 0 0, .string ⟨#[]⟩, .int .u8 0, .int .u8 0, .int .i64 0, .int .i64 0, .int .i64 0, .int .u16 0, .bool false, .slice none 0 0, .string ⟨#[]⟩, .int .u8 0, .int .u8 0, .int .i64 0, .int .i64 0, .int .i64 0, .int .u16 0, .bool false, .slice none 0 0, .string ⟨#[]⟩, .int .u8 0, .int .u8 0, .int .i64 0, .int .i64 0, .int .i64 0, .int .u16 0, .bool false, .slice none 0 0, .string ⟨#[]⟩, .int .u8 0, .int .u8 0, .int .i64 0, .int .i64 0, .int .i64 0, .int .u16 0, .bool false, .slice none 0 0]⟩,
 some ⟨.array 9 9, 9, 144, [.string ⟨#[]⟩, .string ⟨#[]⟩, .string ⟨#[]⟩, .string ⟨#[]⟩, .string ⟨#[]⟩, .string ⟨#[]⟩, .string ⟨#[]⟩, .string ⟨#[]⟩, .string ⟨#[]⟩]⟩,
 some ⟨.array 5 117, 20, 200, [.int .u8 0, .string ⟨#[]⟩, .int .i64 0, .int .i64 0, .int .u8 0, .string ⟨#[]⟩, .int .i64 0, .int .i64 0, .int .u8 0, .string ⟨#[]⟩, .int .i64 0, .int .i64 0, .int .u8 0, .string ⟨#[]⟩, .int .i64 0, .int .i64 0, .int .u8 0, .string ⟨#[]⟩, .int .i64 0, .int .i64 0]⟩,
 none,
 some ⟨.struct [(0, 4), (1, 4), (2, 3), (3, 156), (579, 157), (588, 158)], 608, 5480, [.bool false, .bool false, .int .i64 0, .string ⟨#[]⟩, .int .u8 0, .int .u8 0, .int .i64 0, .int .i64 0, .int .i64 0, .int .u16 0, .bool false, .slice none 0 0, .string ⟨#[]⟩, .int .u8 0, .int .u8 0, .int .i64 0, .int .i64 0, .int .i64 0, .int .u16 0, .bool false, .slice none 0 0, .string ⟨#[]⟩, .int .u8 0, .int .u8 0, .int .i64 0, .int .i64 0, .int .i64 0, .int .u16 0, .bool false, .slice none 0 0, .string ⟨#[]⟩, .int .u8 0, .int .u8 0, .int .i64 0, .int .i64 0, .int .i64 0, .int .u16 0, .bool false, .slice none 0 0, .string ⟨#[]⟩, .int .u8 0, .int .u8 0, .int .i64 0, .int .i64 0, .int .i64 0, .int .u16 0, .bool false, .slice none 0 0, .string ⟨#[]⟩, .int .u8 0, .int .u8 0, .int .i64 0, .int .i64 0, .int .i64 0, .int .u16 0, .bool false, .slice none 0 0, .string ⟨#[]⟩, .int .u8 0, .int .u8 0, .int .i64 0, .int .i64 0, .int .i64 0, .int .u16 0, .bool false, .slice none 0 0, .string ⟨#[]⟩, .int .u8 0, .int .u8 0, .int .i64 0, .int .i64 0, .int .i64 0, .int .u16 0, .bool false, .slice none 0 0, .string ⟨#[]⟩, .int .u8 0, .int .u8 0, .int .i64 0, .int .i64 0, .int .i64 0, .int .u16 0, .bool false, .slice none 0 0, .string ⟨#[]⟩, .int .u8 0, .int .u8 0, .int .i64 0, .int .i64 0, .int .i64 0, .int .u16 0, .bool false, .slice none 0 0, .string ⟨#[]⟩, .int .u8 0, .int .u8 0, .int .i64 0, .int .i64 0, .int .i64 0, .int .u16 0, .bool false, .slice none 0 0, .string ⟨#[]⟩, .int .u8 0, .int .u8 0, .int .i64 0, .int .i64 0, .int .i64 0, .int .u16 0, .bool false, .slice none 0 0, .string ⟨#[]⟩, .int .u8 0, .int .u8 0, .int .i64 0, .int .i64 0, .int .i64 0, .int .u16 0, .bool false, .slice none 0 0, .string ⟨#[]⟩, .int .u8 0, .int .u8 0, .int .i64 0, .int .i64 0, .int .i64 0, .int .u16 0, .bool false, .slice none 0 0, .string ⟨#[]⟩, .int .u8 0, .int .u8 0, .int .i64 0, .int .i64 0, .int .i64 0, .int .u16 0, .bool false, .slice none 0 0, .string ⟨#[]⟩, .int .u8 0, .int .u8 0, .int .i64 0, .int .i64 0, .int .i64 0, .int .u16 0, .bool false, .slice none 0 0, .string ⟨#[]⟩, .int .u8 0, .int .u8 0, .int .i64 0, .int .i64 0, .int .i64 0, .int .u16 0, .bool false, .slice none 0 0, .string ⟨#[]⟩, .int .u8 0, .int .u8 0, .int .i64 0, .int .i64 0, .int .i64 0, .int .u16 0, .bool false, .slice none 0 0, .string ⟨#[]⟩, .int .u8 0, .int .u8 0, .int .i64 0, .int .i64 0, .int .i64 0, .int .u16 0, .bool false, .slice none 0 0, .string ⟨#[]⟩, .int .u8 0, .int .u8 0, .int .i64 0, .int .i64 0, .int .i64 0, .int .u16 0, .bool false, .slice none 0 0, .string ⟨#[]⟩, .int .u8 0, .int .u8 0, .int .i64 0, .int .i64 0, .int .i64 0, .int .u16 0, .bool false, .slice none 0 0, .string ⟨#[]⟩, .int .u8 0, .int .u8 0, .int .i64 0, .int .i64 0, .int .i64 0, .int .u16 0, .bool false, .slice none 0 0, .string ⟨#[]⟩, .int .u8 0, .int .u8 0, .int .i64 0, .int .i64 0, .int .i64 0, .int .u16 0, .bool false, .slice none 0 0, .string ⟨#[]⟩, .int .u8 0, .int .u8 0, .int .i64 0, .int .i64 0, .int .i64 0, .int .u16 0, .bool false, .slice none 0 0, .string ⟨#[]⟩, .int .u8 0, .int .u8 0, .int .i64 0, .int .i64 0, .int .i64 0, .int .u16 0, .bool false, .slice none 0 0, .string ⟨#[]⟩, .int .u8 0, .int .u8 0, .int .i64 0, .int .i64 0, .int .i64 0, .int .u16 0, .bool false, .slice none 0 0, .string ⟨#[]⟩, .int .u8 0, .int .u8 0, .int .i64 0, .int .i64 0, .int .i64 0, .int .u16 0, .bool false, .slice none 0 0, .string ⟨#[]⟩, .int .u8 0, .int .u8 0, .int .i64 0, .int .i64 0, .int .i64 0, .int .u16 0, .bool false, .slice none 0 0, .string ⟨#[]⟩, .int .u8 0, .int .u8 0, .int .i64 0, .int .i64 0, .int .i64 0, .int .u16 0, .bool false, .slice none 0 0, .string ⟨#[]⟩, .int .u8 0, .int .u8 0, .int .i64 0, .int .i64 0, .int .i64 0, .int .u16 0, .bool false, .slice none 0 0, .string ⟨#[]⟩, .int .u8 0, .int .u8 0, .int .i64 0, .int .i64 0, .int .i64 0, .int .u16 0, .bool false, .slice none 0 0, .string ⟨#[]⟩, .int .u8 0, .int .u8 0, .int .i64 0, .int .i64 0, .int .i64 0, .int .u16 0, .bool false, .slice none 0 0, .string ⟨#[]⟩, .int .u8 0, .int .u8 0, .int .i64 0, .int .i64 0, .int .i64 0, .int .u16 0, .bool false, .slice none 0 0, .string ⟨#[]⟩, .int .u8 0, .int .u8 0, .int .i64 0, .int .i64 0, .int .i64 0, .int .u16 0, .bool false, .slice none 0 0, .string ⟨#[]⟩, .int .u8 0, .int .u8 0, .int .i64 0, .int .i64 0, .int .i64 0, .int .u16 0, .bool false, .slice none 0 0, .string ⟨#[]⟩, .int .u8 0, .int .u8 0, .int .i64 0, .int .i64 0, .int .i64 0, .int .u16 0, .bool false, .slice none 0 0, .string ⟨#[]⟩, .int .u8 0, .int .u8 0, .int .i64 0, .int .i64 0, .int .i64 0, .int .u16 0, .bool false, .slice none 0 0, .string ⟨#[]⟩, .int .u8 0, .int .u8 0, .int .i64 0, .int .i64 0, .int .i64 0, .int .u16 0, .bool false, .slice none 0 0, .string ⟨#[]⟩, .int .u8 0, .int .u8 0, .int .i64 0, .int .i64 0, .int .i64 0, .int .u16 0, .bool false, .slice none 0 0, .string ⟨#[]⟩, .int .u8 0, .int .u8 0, .int .i64 0, .int .i64 0, .int .i64 0, .int .u16 0, .bool false, .slice none 0 0, .string ⟨#[]⟩, .int .u8 0, .int .u8 0, .int .i64 0, .int .i64 0, .int .i64 0, .int .u16 0, .bool false, .slice none 0 0, .string ⟨#[]⟩, .int .u8 0, .int .u8 0, .int .i64 0, .int .i64 0, .int .i64 0, .int .u16 0, .bool false, .slice none 0 0, .string ⟨#[]⟩, .int .u8 0, .int .u8 0, .int .i64 0, .int .i64 0, .int .i64 0, .int .u16 0, .bool false, .slice none 0 0, .string ⟨#[]⟩, .int .u8 0, .int .u8 0, .int .i64 0, .int .i64 0, .int .i64 0, .int .u16 0, .bool false, .slice none 0 0, .string ⟨#[]⟩, .int .u8 0, .int .u8 0, .int .i64 0, .int .i64 0, .int .i64 0, .int .u16 0, .bool false, .slice none 0 0, .string ⟨#[]⟩, .int .u8 0, .int .u8 0, .int .i64 0, .int .i64 0, .int .i64 0, .int .u16 0, .bool false, .slice none 0 0, .string ⟨#[]⟩, .int .u8 0, .int .u8 0, .int .i64 0, .int .i64 0, .int .i64 0, .int .u16 0, .bool false, .slice none 0 0, .string ⟨#[]⟩, .int .u8 0, .int .u8 0, .int .i64 0, .int .i64 0, .int .i64 0, .int .u16 0, .bool false, .slice none 0 0, .string ⟨#[]⟩, .int .u8 0, .int .u8 0, .int .i64 0, .int .i64 0, .int .i64 0, .int .u16 0, .bool false, .slice none 0 0, .string ⟨#[]⟩, .int .u8 0, .int .u8 0, .int .i64 0, .int .i64 0, .int .i64 0, .int .u16 0, .bool false, .slice none 0 0, .string ⟨#[]⟩, .int .u8 0, .int .u8 0, .int .i64 0, .int .i64 0, .int .i64 0, .int .u16 0, .bool false, .slice none 0 0, .string ⟨#[]⟩, .int .u8 0, .int .u8 0, .int .i64 0, .int .i64 0, .int .i64 0, .int .u16 0, .bool false, .slice none 0 0, .string ⟨#[]⟩, .int .u8 0, .int .u8 0, .int .i64 0, .int .i64 0, .int .i64 0, .int .u16 0, .bool false, .slice none 0 0, .string ⟨#[]⟩, .int .u8 0, .int .u8 0, .int .i64 0, .int .i64 0, .int .i64 0, .int .u16 0, .bool false, .slice none 0 0, .string ⟨#[]⟩, .int .u8 0, .int .u8 0, .int .i64 0, .int .i64 0, .int .i64 0, .int .u16 0, .bool false, .slice none 0 0, .string ⟨#[]⟩, .int .u8 0, .int .u8 0, .int .i64 0, .int .i64 0, .int .i64 0, .int .u16 0, .bool false, .slice none 0 0, .string ⟨#[]⟩, .int .u8 0, .int .u8 0, .int .i64 0, .int .i64 0, .int .i64 0, .int .u16 0, .bool false, .slice none 0 0, .string ⟨#[]⟩, .int .u8 0, .int .u8 0, .int .i64 0, .int .i64 0, .int .i64 0, .int .u16 0, .bool false, .slice none 0 0, .string ⟨#[]⟩, .int .u8 0, .int .u8 0, .int .i64 0, .int .i64 0, .int .i64 0, .int .u16 0, .bool false, .slice none 0 0, .string ⟨#[]⟩, .int .u8 0, .int .u8 0, .int .i64 0, .int .i64 0, .int .i64 0, .int .u16 0, .bool false, .slice none 0 0, .string ⟨#[]⟩, .int .u8 0, .int .u8 0, .int .i64 0, .int .i64 0, .int .i64 0, .int .u16 0, .bool false, .slice none 0 0, .string ⟨#[]⟩, .int .u8 0, .int .u8 0, .int .i64 0, .int .i64 0, .int .i64 0, .int .u16 0, .bool false, .slice none 0 0, .string ⟨#[]⟩, .int .u8 0, .int .u8 0, .int .i64 0, .int .i64 0, .int .i64 0, .int .u16 0, .bool false, .slice none 0 0, .string ⟨#[]⟩, .int .u8 0, .int .u8 0, .int .i64 0, .int .i64 0, .int .i64 0, .int .u16 0, .bool false, .slice none 0 0, .string ⟨#[]⟩, .string ⟨#[]⟩, .string ⟨#[]⟩, .string ⟨#[]⟩, .string ⟨#[]⟩, .string ⟨#[]⟩, .string ⟨#[]⟩, .string ⟨#[]⟩, .string ⟨#[]⟩, .int .u8 0, .string ⟨#[]⟩, .int .i64 0, .int .i64 0, .int .u8 0, .string ⟨#[]⟩, .int .i64 0, .int .i64 0, .int .u8 0, .string ⟨#[]⟩, .int .i64 0, .int .i64 0, .int .u8 0, .string ⟨#[]⟩, .int .i64 0, .int .i64 0, .int .u8 0, .string ⟨#[]⟩, .int .i64 0, .int .i64 0]⟩,
 none,
 some ⟨.struct [(0, 4), (1, 4), (2, 22), (3, 157), (12, 158)], 32, 376, [.bool false, .bool false, .slice none 0 0, .string ⟨#[]⟩, .string ⟨#[]⟩, .string ⟨#[]⟩, .string ⟨#[]⟩, .string ⟨#[]⟩, .string ⟨#[]⟩, .string ⟨#[]⟩, .string ⟨#[]⟩, .string ⟨#[]⟩, .int .u8 0, .string ⟨#[]⟩, .int .i64 0, .int .i64 0, .int .u8 0, .string ⟨#[]⟩, .int .i64 0, .int .i64 0, .int .u8 0, .string ⟨#[]⟩, .int .i64 0, .int .i64 0, .int .u8 0, .string ⟨#[]⟩, .int .i64 0, .int .i64 0, .int .u8 0, .string ⟨#[]⟩, .int .i64 0, .int .i64 0]⟩,
 none,
 none,
 none,
 none,
 none,
 none,
 none,
 none,
 none,
 some ⟨.func, 1, 8, [.nilFunc]⟩,
 some ⟨.slice 9, 1, 24, [.slice none 0 0]⟩,
 none,
 none,
 none,
 none,
 none,
 none,
 none,
 none,
 none,
 none,
 none,
 none,
 none,
 none,
 none,
 none,
 none,
 some ⟨.int .u64, 1, 8, [.int .u64 0]⟩,
 none,
 none,
 none,
 none,
 none,
 none,
 none,
 none,
 none,
 none,
 none,
 none,
 none,
 none,
 none,
 none,
 none,
 none,
 none,
 none,
 none,
 none,
 some ⟨.int .i64, 1, 8, [.int .i64 0]⟩,
 none,
 none,
 none,
 none,
 none,
 none,
 none,
 some ⟨.int .u32, 1, 4, [.int .u32 0]⟩,
 none,
 some ⟨.int .u64, 1, 8, [.int .u64 0]⟩,
 none,
 none,
 none,
 none,
 none,
 none,
 none,
 some ⟨.int .u64, 1, 8, [.int .u64 0]⟩,
 none,
 none,
 none,
 some ⟨.pointer 3, 1, 8, [.pointer none]⟩,
 none,
 none,
 none,
 some ⟨.array 256 4, 256, 256, [.bool false, .bool false, .bool false, .bool false, .bool false, .bool false, .bool false, .bool false, .bool false, .bool false, .bool false, .bool false, .bool false, .bool false, .bool false, .bool false, .bool false, .bool false, .bool false, .bool false, .bool false, .bool false, .bool false, .bool false, .bool false, .bool false, .bool false, .bool false, .bool false, .bool false, .bool false, .bool false, .bool false, .bool false, .bool false, .bool false, .bool false, .bool false, .bool false, .bool false, .bool false, .bool false, .bool false, .bool false, .bool false, .bool false, .bool false, .bool false, .bool false, .bool false, .bool false, .bool false, .bool false, .bool false, .bool false, .bool false, .bool false, .bool false, .bool false, .bool false, .bool false, .bool false, .bool false, .bool false, .bool false, .bool false, .bool false, .bool false, .bool false, .bool false, .bool false, .bool false, .bool false, .bool false, .bool false, .bool false, .bool false, .bool false, .bool false, .bool false, .bool false, .bool false, .bool false, .bool false, .bool false, .bool false, .bool false, .bool false, .bool false, .bool false, .bool false, .bool false, .bool false, .bool false, .bool false, .bool false, .bool false, .bool false, .bool false, .bool false, .bool false, .bool false, .bool false, .bool false, .bool false, .bool false, .bool false, .bool false, .bool false, .bool false, .bool false, .bool false, .bool false, .bool false, .bool false, .bool false, .bool false, .bool false, .bool false, .bool false, .bool false, .bool false, .bool false, .bool false, .bool false, .bool false, .bool false, .bool false, .bool false, .bool false, .bool false, .bool false, .bool false, .bool false, .bool false, .bool false, .bool false, .bool false, .bool false, .bool false, .bool false, .bool false, .bool false, .bool false, .bool false, .bool false, .bool false, .bool false, .bool false, .bool false, .bool false, .bool false, .bool false, .bool false, .bool false, .bool false, .bool false, .bool false, .bool false, .bool false, .bool false, .bool false, .bool false, .bool false, .bool false, .bool false, .bool false, .bool false, .bool false, .bool false, .bool false, .bool false, .bool false, .bool false, .bool false, .bool false, .bool false, .bool false, .bool false, .bool false, .bool false, .bool false, .bool false, .bool false, .bool false, .bool false, .bool false, .bool false, .bool false, .bool false, .bool false, .bool false, .bool false, .bool false, .bool false, .bool false, .bool false, .bool false, .bool false, .bool false, .bool false, .bool false, .bool false, .bool false, .bool false, .bool false, .bool false, .bool false, .bool false, .bool false, .bool false, .bool false, .bool false, .bool false, .bool false, .bool false, .bool false, .bool false, .bool false, .bool false, .bool false, .bool false, .bool false, .bool false, .bool false, .bool false, .bool false, .bool false, .bool false, .bool false, .bool false, .bool false, .bool false, .bool false, .bool false, .bool false, .bool false, .bool false, .bool false, .bool false, .bool false, .bool false, .bool false, .bool false, .bool false, .bool false, .bool false, .bool false, .bool false, .bool false, .bool false, .bool false, .bool false, .bool false, .bool false, .bool false]⟩,
 none,
 none,
 none,
 some ⟨.pointer 240, 1, 8, [.pointer none]⟩,
 some ⟨.pointer 232, 1, 8, [.pointer none]⟩,
 none,
 none,
 none,
 none,
 none,
 none,
 some ⟨.array 256 5, 256, 256, [.int .u8 0, .int .u8 0, .int .u8 0, .int .u8 0, .int .u8 0, .int .u8 0, .int .u8 0, .int .u8 0, .int .u8 0, .int .u8 0, .int .u8 0, .int .u8 0, .int .u8 0, .int .u8 0, .int .u8 0, .int .u8 0, .int .u8 0, .int .u8 0, .int .u8 0, .int .u8 0, .int .u8 0, .int .u8 0, .int .u8 0, .int .u8 0, .int .u8 0, .int .u8 0, .int .u8 0, .int .u8 0, .int .u8 0, .int .u8 0, .int .u8 0, .int .u8 0, .int .u8 0, .int .u8 0, .int .u8 0, .int .u8 0, .int .u8 0, .int .u8 0, .int .u8 0, .int .u8 0, .int .u8 0, .int .u8 0, .int .u8 0, .int .u8 0, .int .u8 0, .int .u8 0, .int .u8 0, .int .u8 0, .int .u8 0, .int .u8 0, .int .u8 0, .int .u8 0, .int .u8 0, .int .u8 0, .int .u8 0, .int .u8 0, .int .u8 0, .int .u8 0, .int .u8 0, .int .u8 0, .int .u8 0, .int .u8 0, .int .u8 0, .int .u8 0, .int .u8 0, .int .u8 0, .int .u8 0, .int .u8 0, .int .u8 0, .int .u8 0, .int .u8 0, .int .u8 0, .int .u8 0, .int .u8 0, .int .u8 0, .int .u8 0, .int .u8 0, .int .u8 0, .int .u8 0, .int .u8 0, .int .u8 0, .int .u8 0, .int .u8 0, .int .u8 0, .int .u8 0, .int .u8 0, .int .u8 0, .int .u8 0, .int .u8 0, .int .u8 0, .int .u8 0, .int .u8 0, .int .u8 0, .int .u8 0, .int .u8 0, .int .u8 0, .int .u8 0, .int .u8 0, .int .u8 0, .int .u8 0, .int .u8 0, .int .u8 0, .int .u8 0, .int .u8 0, .int .u8 0, .int .u8 0, .int .u8 0, .int .u8 0, .int .u8 0, .int .u8 0, .int .u8 0, .int .u8 0, .int .u8 0, .int .u8 0, .int .u8 0, .int .u8 0, .int .u8 0, .int .u8 0, .int .u8 0, .int .u8 0, .int .u8 0, .int .u8 0, .int .u8 0, .int .u8 0, .int .u8 0, .int .u8 0, .int .u8 0, .int .u8 0, .int .u8 0, .int .u8 0, .int .u8 0, .int .u8 0, .int .u8 0, .int .u8 0, .int .u8 0, .int .u8 0, .int .u8 0, .int .u8 0, .int .u8 0, .int .u8 0, .int .u8 0, .int .u8 0, .int .u8 0, .int .u8 0, .int .u8 0, .int .u8 0, .int .u8 0, .int .u8 0, .int .u8 0, .int .u8 0, .int .u8 0, .int .u8 0, .int .u8 0, .int .u8 0, .int .u8 0, .int .u8 0, .int .u8 0, .int .u8 0, .int .u8 0, .int .u8 0, .int .u8 0, .int .u8 0, .int .u8 0, .int .u8 0, .int .u8 0, .int .u8 0, .int .u8 0, .int .u8 0, .int .u8 0, .int .u8 0, .int .u8 0, .int .u8 0, .int .u8 0, .int .u8 0, .int .u8 0, .int .u8 0, .int .u8 0, .int .u8 0, .int .u8 0, .int .u8 0, .int .u8 0, .int .u8 0, .int .u8 0, .int .u8 0, .int .u8 0, .int .u8 0, .int .u8 0, .int .u8 0, .int .u8 0, .int .u8 0, .int .u8 0, .int .u8 0, .int .u8 0, .int .u8 0, .int .u8 0, .int .u8 0, .int .u8 0, .int .u8 0, .int .u8 0, .int .u8 0, .int .u8 0, .int .u8 0, .int .u8 0, .int .u8 0, .int .u8 0, .int .u8 0, .int .u8 0, .int .u8 0, .int .u8 0, .int .u8 0, .int .u8 0, .int .u8 0, .int .u8 0, .int .u8 0, .int .u8 0, .int .u8 0, .int .u8 0, .int .u8 0, .int .u8 0, .int .u8 0, .int .u8 0, .int .u8 0, .int .u8 0, .int .u8 0, .int .u8 0, .int .u8 0, .int .u8 0, .int .u8 0, .int .u8 0, .int .u8 0, .int .u8 0, .int .u8 0, .int .u8 0, .int .u8 0, .int .u8 0, .int .u8 0, .int .u8 0, .int .u8 0, .int .u8 0, .int .u8 0, .int .u8 0, .int .u8 0, .int .u8 0, .int .u8 0, .int .u8 0, .int .u8 0, .int .u8 0, .int .u8 0, .int .u8 0, .int .u8 0, .int .u8 0, .int .u8 0, .int .u8 0, .int .u8 0, .int .u8 0, .int .u8 0]⟩,
 none,
 some ⟨.struct [(0, 5), (1, 5)], 2, 2, [.int .u8 0, .int .u8 0]⟩,
 some ⟨.array 16 254, 32, 32, [.int .u8 0, .int .u8 0, .int .u8 0, .int .u8 0, .int .u8 0, .int .u8 0, .int .u8 0, .int .u8 0, .int .u8 0, .int .u8 0, .int .u8 0, .int .u8 0, .int .u8 0, .int .u8 0, .int .u8 0, .int .u8 0, .int .u8 0, .int .u8 0, .int .u8 0, .int .u8 0, .int .u8 0, .int .u8 0, .int .u8 0, .int .u8 0, .int .u8 0, .int .u8 0, .int .u8 0, .int .u8 0, .int .u8 0, .int .u8 0, .int .u8 0, .int .u8 0]⟩]
def Tryz.fns : List FuncId := [3, 4, 5, 6, 7, 8, 9, 10, 11, 12, 13, 14, 15, 16, 17, 18, 19, 20, 21, 22, 23, 24, 25, 26, 27, 28, 29, 30, 31, 32, 33, 34, 35, 36, 37, 38, 39, 40, 41, 42, 43, 44, 45, 46, 47, 48, 49, 50, 51, 52, 53, 54, 55, 56, 57, 58, 59, 60, 61, 62, 63, 64, 65, 66, 67, 68, 69, 70, 71, 72, 73, 74, 75, 76, 77, 78, 79, 80, 81, 82, 83, 84, 85, 86, 87, 88, 89, 90, 91, 92, 93, 94, 95, 96, 97, 98, 99, 100, 101, 102, 103, 104, 105, 106, 107, 108, 109, 110, 111, 112, 113, 114, 115, 116, 117, 118, 119, 120, 121, 122, 123, 124, 125, 126, 127, 128, 129, 130, 131, 132, 133, 134, 135, 136, 137, 138, 139, 140, 141, 142, 143, 144, 145, 146, 147, 148, 149, 150, 151, 152, 153, 154, 155, 156, 157, 158, 159, 160, 161, 162, 163, 164, 165, 166, 167, 168, 169, 170, 171, 172, 173, 174, 175, 176, 177, 178, 179, 180, 181, 182, 183, 184, 185, 186, 187, 188, 189, 190, 191, 192, 193, 194, 195, 196, 197, 198, 199, 200, 201, 202, 203, 204, 205, 206, 207, 208, 209, 210, 211, 212, 213, 214, 215, 216, 217, 218, 219]
def Tryz.hint : FuncId -> Hint := fun f => match f with
 | 3 => (.seq .leaf (.seq .leaf (.seq .leaf (.seq .leaf (.seq .leaf (.seq (.seq .leaf (.sub none (.loop [2, 4, 5, 8, 9, 10, 11] .leaf))) .leaf))))))
 | 5 => (.seq .leaf (.seq .leaf (.seq .leaf (.seq .leaf (.seq .leaf (.seq .leaf (.seq (.seq .leaf (.sub none (.loop [2, 3, 5, 8, 9, 10, 13, 14] .leaf))) .leaf)))))))
 | 6 => (.seq .leaf (.seq .leaf (.seq .leaf (.seq .leaf (.seq .leaf (.seq .leaf (.seq .leaf (.seq .leaf (.seq .leaf (.seq .leaf (.seq .leaf (.seq .leaf (.seq (.seq .leaf (.sub none (.loop [5, 8, 9, 15, 16, 18, 20, 21, 22] .leaf))) (.seq (.seq .leaf (.sub none (.loop [5, 8, 9, 15, 18, 20, 23] .leaf))) .leaf))))))))))))))
 | 7 => (.seq .leaf (.seq .leaf (.seq .leaf (.seq .leaf (.seq .leaf (.seq .leaf (.seq .leaf (.seq .leaf (.seq .leaf (.seq (.seq .leaf (.sub none (.loop [2, 4, 6, 7, 8, 11, 13, 14, 16, 17] .leaf))) .leaf))))))))))
 | 9 => (.seq .leaf (.seq .leaf (.seq .leaf (.seq .leaf (.seq .leaf (.seq .leaf (.seq .leaf (.seq .leaf (.seq .leaf (.seq .leaf (.seq .leaf (.seq .leaf (.seq .leaf (.seq .leaf (.seq .leaf (.seq (.seq .leaf (.sub none (.loop [2, 5, 8, 9, 10, 12, 13, 14, 15, 20, 25, 30, 31, 32, 33] .leaf))) .leaf))))))))))))))))
 | 10 => (.seq .leaf (.seq .leaf (.seq (.seq .leaf (.sub none (.loop [1, 2, 3, 4, 5, 6, 7] .leaf))) (.seq (.seq .leaf (.sub none (.loop [1, 2, 3, 4, 5, 6, 8] .leaf))) .leaf))))
 | 15 => (.seq .leaf (.seq .leaf (.seq (.seq .leaf (.sub none (.loop [0, 1, 5, 6] .leaf))) .leaf)))
 | 18 => (.seq .leaf (.seq .leaf (.seq (.seq .leaf (.sub none (.loop [0, 1, 4, 5] .leaf))) .leaf)))
 | 19 => (.seq .leaf (.seq .leaf (.seq .leaf (.seq (.seq .leaf (.sub none (.loop [0, 1, 2, 3, 9, 10] .leaf))) .leaf))))
 | 25 => (.seq .leaf (.seq .leaf (.seq (.seq .leaf (.sub none (.loop [0, 3, 4] .leaf))) (.seq (.seq .leaf (.sub none (.loop [3, 5] (.seq .leaf (.seq (.sub none (.seq .leaf (.sub none (.loop [3, 5, 6] .leaf)))) .leaf))))) (.seq (.seq .leaf (.sub none (.loop [2, 3, 7] (.seq .leaf (.seq (.sub none (.seq .leaf (.sub none (.loop [2, 3, 7, 8] .leaf)))) .leaf))))) .leaf)))))
 | 30 => (.seq .leaf (.seq .leaf (.seq .leaf (.seq .leaf (.seq .leaf (.seq .leaf (.seq (.sub none (.loop [11, 13, 15, 16] .leaf)) .leaf)))))))
 | 31 => (.seq .leaf (.seq .leaf (.seq (.seq .leaf (.sub none (.loop [0, 1, 4, 5] .leaf))) .leaf)))
 | 32 => (.seq .leaf (.seq .leaf (.seq (.seq .leaf (.sub none (.loop [0, 1, 4, 5] .leaf))) .leaf)))
 | 45 => (.seq .leaf (.seq .leaf (.seq .leaf (.seq .leaf (.seq .leaf (.seq .leaf (.seq (.sub none (.loop [0, 1, 11, 13, 14] .leaf)) .leaf)))))))
 | 49 => (.seq .leaf (.seq .leaf (.seq (.seq .leaf (.sub none (.loop [0, 3, 4] .leaf))) (.seq (.seq .leaf (.sub none (.loop [3, 5] (.seq .leaf (.seq (.sub none (.seq .leaf (.sub none (.loop [3, 5, 6] .leaf)))) .leaf))))) (.seq (.seq .leaf (.sub none (.loop [2, 3, 7] (.seq .leaf (.seq (.sub none (.seq .leaf (.sub none (.loop [2, 3, 7, 8] .leaf)))) .leaf))))) .leaf)))))
 | 50 => (.seq .leaf (.seq .leaf (.seq (.seq .leaf (.sub none (.loop [0, 3, 4] .leaf))) (.seq (.seq .leaf (.sub none (.loop [3, 5] (.seq .leaf (.seq (.sub none (.seq .leaf (.sub none (.loop [3, 5, 6] .leaf)))) .leaf))))) (.seq (.seq .leaf (.sub none (.loop [2, 3, 7] (.seq .leaf (.seq (.sub none (.seq .leaf (.sub none (.loop [2, 3, 7, 8] .leaf)))) .leaf))))) .leaf)))))
 | 53 => (.seq .leaf (.seq .leaf (.seq .leaf (.seq .leaf (.seq (.sub none (.loop [0, 3, 7] .leaf)) .leaf)))))
 | 55 => (.seq .leaf (.seq .leaf (.seq .leaf (.seq .leaf (.seq .leaf (.seq .leaf (.seq .leaf (.seq .leaf (.seq .leaf (.seq (.seq .leaf (.sub none (.loop [0, 3, 6, 7, 8] .leaf))) .leaf))))))))))
 | 56 => (.seq .leaf (.seq .leaf (.seq .leaf (.seq (.seq .leaf (.sub none (.loop [0, 3, 4, 52, 53] .leaf))) .leaf))))
 | 57 => (.seq .leaf (.seq .leaf (.seq .leaf (.seq .leaf (.seq .leaf (.seq (.seq .leaf (.sub none (.loop [0, 3, 4, 5] .leaf))) .leaf))))))
 | 58 => (.seq .leaf (.seq .leaf (.seq (.seq .leaf (.sub none (.loop [0, 2, 21, 22, 23] (.seq .leaf (.seq .leaf (.seq (.sub none (.seq .leaf (.seq .leaf (.sub none (.loop [0, 2, 21, 22, 23, 28, 29, 30] .leaf))))) .leaf)))))) .leaf)))
 | 59 => (.seq .leaf (.seq .leaf (.seq .leaf (.seq (.seq .leaf (.sub none (.loop [0, 2, 3] (.seq .leaf (.seq (.sub none (.seq .leaf (.sub none (.loop [0, 2, 3, 4] .leaf)))) .leaf))))) .leaf))))
 | 65 => (.seq .leaf (.seq .leaf (.seq (.seq .leaf (.sub none (.loop [1, 2, 7, 8] .leaf))) .leaf)))
 | 74 => (.seq .leaf (.seq (.seq .leaf (.sub none (.loop [1, 2, 3] .leaf))) .leaf))
 | 75 => (.seq .leaf (.seq .leaf (.seq (.seq .leaf (.sub none (.loop [0, 1, 4, 5] .leaf))) .leaf)))
 | 77 => (.seq .leaf (.seq .leaf (.seq .leaf (.seq .leaf (.seq .leaf (.seq .leaf (.seq .leaf (.seq .leaf (.seq .leaf (.seq (.seq .leaf (.sub none (.loop [1, 2, 3, 4, 5] .leaf))) .leaf))))))))))
 | 78 => (.seq .leaf (.seq .leaf (.seq .leaf (.seq (.seq .leaf (.sub none (.loop [0, 2, 4, 6, 7, 8, 49, 50, 51] .leaf))) (.seq .leaf (.seq (.seq .leaf (.sub none (.loop [4, 6, 7, 8, 15] .leaf))) .leaf))))))
 | 80 => (.seq .leaf (.sub none (.seq .leaf (.seq .leaf (.seq (.seq .leaf (.sub none (.loop [1, 2, 3, 7, 8, 13, 14, 15] (.seq .leaf (.seq .leaf (.seq (.sub none (.seq .leaf (.seq .leaf (.seq (.seq .leaf (.sub none (.loop [1, 2, 3, 7, 8, 9, 10, 13, 14, 15, 32, 33, 34] .leaf))) .leaf)))) .leaf)))))) .leaf)))))
 | 81 => (.seq .leaf (.seq .leaf (.seq (.seq .leaf (.sub none (.loop [1, 5, 7, 16, 17, 18] .leaf))) .leaf)))
 | 84 => (.seq .leaf (.seq .leaf (.seq (.seq .leaf (.sub none (.loop [1, 2, 3, 7, 13, 14, 15] (.seq .leaf (.seq .leaf (.seq (.sub none (.seq .leaf (.seq .leaf (.seq .leaf (.sub none (.loop [1, 2, 3, 7, 9, 13, 14, 15, 30, 31, 32] .leaf)))))) .leaf)))))) .leaf)))
 | 86 => (.seq .leaf (.seq .leaf (.seq (.seq .leaf (.sub none (.loop [1, 3, 5, 7, 11, 12, 13] .leaf))) .leaf)))
 | 89 => (.seq .leaf (.seq (.seq .leaf (.sub none (.loop [1, 2, 4, 9, 10, 11] (.seq .leaf (.seq .leaf (.seq (.sub none (.seq .leaf (.seq .leaf (.seq .leaf (.sub none (.loop [1, 2, 4, 6, 9, 10, 11, 35, 36, 37] .leaf)))))) .leaf)))))) .leaf))
 | 92 => (.seq .leaf (.seq .leaf (.seq (.seq .leaf (.sub none (.loop [0, 1, 2, 6, 7] (.seq .leaf (.seq (.sub none (.seq .leaf (.seq .leaf (.sub none (.loop [0, 1, 2, 6, 7, 8] .leaf))))) .leaf))))) .leaf)))
 | 93 => (.seq .leaf (.seq .leaf (.seq (.seq .leaf (.sub none (.loop [0, 1, 2, 3, 9, 10, 11] (.seq .leaf (.seq (.sub none (.seq .leaf (.seq .leaf (.seq (.seq .leaf (.sub none (.loop [0, 1, 2, 3, 9, 10, 11, 12, 13] .leaf))) .leaf)))) .leaf))))) .leaf)))
 | 94 => (.seq .leaf (.seq .leaf (.seq .leaf (.seq (.seq .leaf (.sub none (.loop [0, 1, 2, 3, 9, 10, 11] (.seq .leaf (.seq (.sub none (.seq .leaf (.seq .leaf (.seq .leaf (.sub none (.loop [0, 1, 2, 3, 9, 10, 11, 12, 14] .leaf)))))) .leaf))))) .leaf))))
 | 95 => (.seq .leaf (.seq .leaf (.seq .leaf (.seq .leaf (.seq .leaf (.seq (.seq .leaf (.sub none (.loop [7, 9, 10, 11, 12] .leaf))) .leaf))))))
 | 102 => (.seq .leaf (.seq .leaf (.seq (.seq .leaf (.sub none (.loop [1, 2, 13, 14, 15] .leaf))) .leaf)))
 | 103 => (.seq .leaf (.seq (.seq .leaf (.sub none (.loop [0, 1, 4, 9, 10] .leaf))) .leaf))
 | 108 => (.seq .leaf (.seq .leaf (.seq .leaf (.seq (.seq .leaf (.sub none (.loop [1, 2, 4] .leaf))) .leaf))))
 | 109 => (.seq .leaf (.seq (.seq .leaf (.sub none (.loop [0, 1, 4, 5] .leaf))) .leaf))
 | 113 => (.seq .leaf (.seq .leaf (.seq (.seq .leaf (.sub none (.loop [2, 19] .leaf))) .leaf)))
 | 114 => (.seq .leaf (.seq .leaf (.seq (.seq .leaf (.sub none (.loop [0, 2, 3] .leaf))) .leaf)))
 | 116 => (.seq .leaf (.seq .leaf (.seq .leaf (.seq .leaf (.seq (.seq .leaf (.sub none (.loop [0, 1, 2, 8, 10] .leaf))) .leaf)))))
 | 118 => (.seq .leaf (.seq .leaf (.seq .leaf (.seq (.seq .leaf (.sub none (.loop [0, 1, 2, 6, 7, 8] (.seq .leaf (.seq (.sub none (.seq .leaf (.seq .leaf (.seq .leaf (.seq .leaf (.seq .leaf (.seq .leaf (.seq .leaf (.sub none (.loop [0, 1, 2, 6, 7, 8, 9, 12] .leaf)))))))))) .leaf))))) .leaf))))
 | 132 => (.seq .leaf (.seq .leaf (.seq (.seq .leaf (.sub none (.loop [0, 1, 4, 12, 13] .leaf))) .leaf)))
 | 137 => (.seq .leaf (.seq .leaf (.seq .leaf (.sub none (.loop [0, 2, 3, 4] (.sub none (.seq .leaf (.seq (.seq .leaf (.sub none (.loop [0, 3, 4, 5, 6] .leaf))) .leaf))))))))
 | 138 => (.seq .leaf (.seq .leaf (.seq .leaf (.seq (.seq .leaf (.sub none (.loop [0, 1, 2, 7, 9, 10, 11] .leaf))) .leaf))))
 | 142 => (.seq .leaf (.seq .leaf (.seq (.seq .leaf (.sub none (.loop [0, 2, 3] .leaf))) .leaf)))
 | 146 => (.seq .leaf (.seq .leaf (.seq .leaf (.seq .leaf (.seq .leaf (.seq .leaf (.seq .leaf (.seq .leaf (.seq .leaf (.seq (.seq .leaf (.sub none (.loop [1, 4, 5, 7, 11] (.seq .leaf (.seq (.sub none (.seq .leaf (.sub none (.loop [1, 4, 5, 7, 11, 12] .leaf)))) .leaf))))) .leaf))))))))))
 | 147 => (.seq .leaf (.seq .leaf (.seq (.seq .leaf (.sub none (.loop [0, 1, 2, 7, 8] .leaf))) .leaf)))
 | 150 => (.seq .leaf (.seq (.seq .leaf (.sub none (.loop [0, 1, 4, 7, 8] .leaf))) .leaf))
 | 151 => (.seq .leaf (.seq .leaf (.sub none (.loop [0, 1, 2, 3, 4, 10, 11] .leaf))))
 | 154 => (.seq .leaf (.seq .leaf (.seq (.seq .leaf (.sub none (.loop [0, 1, 4, 5] .leaf))) .leaf)))
 | 177 => (.seq .leaf (.seq .leaf (.seq (.seq .leaf (.sub none (.loop [0, 2, 3] .leaf))) .leaf)))
 | 178 => (.seq .leaf (.seq .leaf (.seq (.seq .leaf (.sub none (.loop [0, 1, 4, 5, 6, 7] .leaf))) .leaf)))
 | 179 => (.seq .leaf (.seq .leaf (.seq (.seq .leaf (.sub none (.loop [0, 4, 5, 6, 7, 8] .leaf))) (.seq (.seq .leaf (.sub none (.loop [0, 4, 5, 6, 9] .leaf))) .leaf))))
 | 180 => (.seq .leaf (.sub none (.loop [0, 1, 2, 3, 8] (.seq .leaf (.seq (.sub none (.seq .leaf (.sub none (.loop [0, 1, 2, 3, 8, 9] .leaf)))) .leaf)))))
 | 181 => (.seq .leaf (.seq .leaf (.seq .leaf (.seq (.seq .leaf (.sub none (.loop [0, 3, 8, 9, 10, 11] .leaf))) (.seq .leaf (.sub none (.loop [0, 3, 8, 9, 12] .leaf)))))))
 | 182 => (.seq .leaf (.seq .leaf (.cond none (.seq .leaf (.seq .leaf (.seq .leaf (.sub none (.loop [0, 1, 8, 9, 10, 11] .leaf))))) .leaf)))
 | 184 => (.seq .leaf (.seq .leaf (.sub none (.loop [0, 8, 9] .leaf))))
 | 185 => (.seq .leaf (.seq .leaf (.seq (.seq .leaf (.sub none (.loop [0, 1, 2, 3, 8, 9, 10] (.seq .leaf (.seq (.sub none (.seq (.sub none (.loop [0, 1, 2, 3, 9, 10] .leaf)) (.seq .leaf (.seq .leaf (.seq .leaf (.seq (.seq .leaf (.cond none (.seq .leaf (.sub none (.loop [0, 1, 2, 3, 9, 10, 11] .leaf))) .leaf)) (.seq .leaf (.cond none (.seq .leaf (.sub none (.loop [0, 1, 2, 3, 9, 10, 12] .leaf))) .leaf)))))))) .leaf))))) .leaf)))
 | 186 => (.seq .leaf (.seq .leaf (.seq .leaf (.seq (.sub none (.loop [0, 1, 4, 11, 12] (.sub none (.seq (.sub none (.loop [0, 1, 4, 11, 12] .leaf)) (.seq (.sub none (.loop [0, 1, 4, 11, 12] .leaf)) .leaf))))) .leaf))))
 | 187 => (.seq .leaf (.seq .leaf (.seq .leaf (.seq (.sub none (.loop [0, 1, 4, 12, 13] .leaf)) (.seq (.sub none (.loop [0, 1, 4, 12, 13] .leaf)) (.seq .leaf (.seq .leaf (.seq .leaf (.seq .leaf (.seq (.sub none (.loop [0, 1, 4, 12, 13] (.sub none (.seq (.sub none (.loop [0, 1, 4, 12, 13] .leaf)) (.seq (.sub none (.loop [0, 1, 4, 12, 13] .leaf)) .leaf))))) .leaf))))))))))
 | 198 => (.seq .leaf (.sub none (.loop [0, 2, 3, 4, 10] .leaf)))
 | 203 => (.seq .leaf (.seq (.sub none (.loop [0, 1] .leaf)) .leaf))
 | 204 => (.seq .leaf (.seq (.sub none (.loop [0, 1] .leaf)) .leaf))
 | 205 => (.seq .leaf (.seq (.seq .leaf (.sub none (.loop [0, 2, 3, 4] .leaf))) .leaf))
 | 206 => (.seq .leaf (.seq (.sub none (.loop [0, 1] .leaf)) .leaf))
 | 207 => (.seq .leaf (.seq (.sub none (.loop [0, 1] .leaf)) .leaf))
 | 208 => (.seq .leaf (.seq (.sub none (.loop [0, 1] .leaf)) .leaf))
 | 209 => (.seq .leaf (.seq (.sub none (.loop [0, 1] .leaf)) .leaf))
 | 214 => (.seq .leaf (.seq .leaf (.seq .leaf (.seq .leaf (.seq .leaf (.seq .leaf (.seq .leaf (.seq (.seq .leaf (.sub none (.loop [0, 4, 5, 6] .leaf))) .leaf))))))))
 | 216 => .leaf
 | _ => .leaf
noncomputable def Tryz.env : Env := { ty := tyOf Tryz.tab, fn := fnOf Tryz.prog Tryz.fns, hint := Tryz.hint, ext := fun _ => none }
theorem Tryz.envOk : Tryz.env.Ok Tryz.prog := env_ok (by kernel_rfl) (by kernel_rfl) (by kernel_rfl)
theorem Tryz.fnOk (k : Nat) : CallOk Tryz.prog (aFn Tryz.env k) := fn_ok Tryz.envOk extNone k
end Go.Proofs.YtolekmhhkopooaaGreatDoor
end
section
namespace Go.Proofs.YtolekmhhkopooaaGreatDoor
open Go Zq
namespace Zv
structure G_kit_Fill where
 Cards : Sl
 Marks : Sl
 Open : Bool
abbrev T_G_kit_Fill : Tag := ⟨G_kit_Fill, true, 3, fun x => [(.slice x.Cards.p x.Cards.len x.Cards.cap), (.slice x.Marks.p x.Marks.len x.Marks.cap), (.bool x.Open)], fun cs => match cs with | [.slice c0p c0n c0k, .slice c1p c1n c1k, .bool c2] => some (G_kit_Fill.mk (Sl.mk c0p c0n c0k) (Sl.mk c1p c1n c1k) c2) | _ => none, fun cs x h => by
 split at h
 ·have h := Option.some.inj h; subst h; rfl
 ·cases h⟩
structure G_law24_Table where
 Fill : G_kit_Fill
 Things : Sl
 Fs : Sl
 Own : Bool
abbrev T_G_law24_Table : Tag := ⟨G_law24_Table, true, 6, fun x => [(.slice x.Fill.Cards.p x.Fill.Cards.len x.Fill.Cards.cap), (.slice x.Fill.Marks.p x.Fill.Marks.len x.Fill.Marks.cap), (.bool x.Fill.Open), (.slice x.Things.p x.Things.len x.Things.cap), (.slice x.Fs.p x.Fs.len x.Fs.cap), (.bool x.Own)], fun cs => match cs with | [.slice c0p c0n c0k, .slice c1p c1n c1k, .bool c2, .slice c3p c3n c3k, .slice c4p c4n c4k, .bool c5] => some (G_law24_Table.mk (G_kit_Fill.mk (Sl.mk c0p c0n c0k) (Sl.mk c1p c1n c1k) c2) (Sl.mk c3p c3n c3k) (Sl.mk c4p c4n c4k) c5) | _ => none, fun cs x h => by
 split at h
 ·have h := Option.some.inj h; subst h; rfl
 ·cases h⟩
structure G_api_Thing where
 Card : Int
 Owner : Int
 Place : Int
 Stamp : Int
 Hurt : Int
 Marks : Int × Int × Int × Int
 Done : Int
 Fresh : Bool
abbrev T_G_api_Thing : Tag := ⟨G_api_Thing, true, 11, fun x => [(.int .i64 x.Card), (.int .i64 x.Owner), (.int .u8 x.Place), (.int .i64 x.Stamp), (.int .i64 x.Hurt), (.int .i64 x.Marks.1), (.int .i64 x.Marks.2.1), (.int .i64 x.Marks.2.2.1), (.int .i64 x.Marks.2.2.2), (.int .i64 x.Done), (.bool x.Fresh)], fun cs => match cs with | [.int kc0 c0, .int kc1 c1, .int kc2 c2, .int kc3 c3, .int kc4 c4, .int kc5 c5, .int kc6 c6, .int kc7 c7, .int kc8 c8, .int kc9 c9, .bool c10] => if kc0 = .i64 ∧ kc1 = .i64 ∧ kc2 = .u8 ∧ kc3 = .i64 ∧ kc4 = .i64 ∧ kc5 = .i64 ∧ kc6 = .i64 ∧ kc7 = .i64 ∧ kc8 = .i64 ∧ kc9 = .i64 then some (G_api_Thing.mk c0 c1 c2 c3 c4 (c5, c6, c7, c8) c9 c10) else none | _ => none, fun cs x h => by
 split at h
 ·split at h
  ·rename_i e
   obtain ⟨rfl, rfl, rfl, rfl, rfl, rfl, rfl, rfl, rfl, rfl⟩ := e
   have h := Option.some.inj h; subst h; rfl
  ·cases h
 ·cases h⟩
structure G_law19_Table where
 Things : Sl
 Fs : Sl
abbrev T_G_law19_Table : Tag := ⟨G_law19_Table, true, 2, fun x => [(.slice x.Things.p x.Things.len x.Things.cap), (.slice x.Fs.p x.Fs.len x.Fs.cap)], fun cs => match cs with | [.slice c0p c0n c0k, .slice c1p c1n c1k] => some (G_law19_Table.mk (Sl.mk c0p c0n c0k) (Sl.mk c1p c1n c1k)) | _ => none, fun cs x h => by
 split at h
 ·have h := Option.some.inj h; subst h; rfl
 ·cases h⟩
structure G_api_Part where
 When : Int
 Verb : Int
 Whom : Int
 Count : Int
 Suit : Int
 Trait : Int
 Mark : Int
 Name : ByteArray
abbrev T_G_api_Part : Tag := ⟨G_api_Part, true, 8, fun x => [(.int .u8 x.When), (.int .u8 x.Verb), (.int .u8 x.Whom), (.int .i64 x.Count), (.int .u8 x.Suit), (.int .u8 x.Trait), (.int .u8 x.Mark), (.string x.Name)], fun cs => match cs with | [.int kc0 c0, .int kc1 c1, .int kc2 c2, .int kc3 c3, .int kc4 c4, .int kc5 c5, .int kc6 c6, .string c7] => if kc0 = .u8 ∧ kc1 = .u8 ∧ kc2 = .u8 ∧ kc3 = .i64 ∧ kc4 = .u8 ∧ kc5 = .u8 ∧ kc6 = .u8 then some (G_api_Part.mk c0 c1 c2 c3 c4 c5 c6 c7) else none | _ => none, fun cs x h => by
 split at h
 ·split at h
  ·rename_i e
   obtain ⟨rfl, rfl, rfl, rfl, rfl, rfl, rfl⟩ := e
   have h := Option.some.inj h; subst h; rfl
  ·cases h
 ·cases h⟩
structure G_api_Standing where
 Thing : Int
 Place : Int
 What : G_api_Part
abbrev T_G_api_Standing : Tag := ⟨G_api_Standing, true, 10, fun x => [(.int .i64 x.Thing), (.int .i64 x.Place), (.int .u8 x.What.When), (.int .u8 x.What.Verb), (.int .u8 x.What.Whom), (.int .i64 x.What.Count), (.int .u8 x.What.Suit), (.int .u8 x.What.Trait), (.int .u8 x.What.Mark), (.string x.What.Name)], fun cs => match cs with | [.int kc0 c0, .int kc1 c1, .int kc2 c2, .int kc3 c3, .int kc4 c4, .int kc5 c5, .int kc6 c6, .int kc7 c7, .int kc8 c8, .string c9] => if kc0 = .i64 ∧ kc1 = .i64 ∧ kc2 = .u8 ∧ kc3 = .u8 ∧ kc4 = .u8 ∧ kc5 = .i64 ∧ kc6 = .u8 ∧ kc7 = .u8 ∧ kc8 = .u8 then some (G_api_Standing.mk c0 c1 (G_api_Part.mk c2 c3 c4 c5 c6 c7 c8 c9)) else none | _ => none, fun cs x h => by
 split at h
 ·split at h
  ·rename_i e
   obtain ⟨rfl, rfl, rfl, rfl, rfl, rfl, rfl, rfl, rfl⟩ := e
   have h := Option.some.inj h; subst h; rfl
  ·cases h
 ·cases h⟩
structure G_api_Feature where
 Holder : Int
 Suit : Int
 Traits : Int
 Power : Int
 Health : Int
abbrev T_G_api_Feature : Tag := ⟨G_api_Feature, true, 5, fun x => [(.int .i64 x.Holder), (.int .u8 x.Suit), (.int .u16 x.Traits), (.int .i64 x.Power), (.int .i64 x.Health)], fun cs => match cs with | [.int kc0 c0, .int kc1 c1, .int kc2 c2, .int kc3 c3, .int kc4 c4] => if kc0 = .i64 ∧ kc1 = .u8 ∧ kc2 = .u16 ∧ kc3 = .i64 ∧ kc4 = .i64 then some (G_api_Feature.mk c0 c1 c2 c3 c4) else none | _ => none, fun cs x h => by
 split at h
 ·split at h
  ·rename_i e
   obtain ⟨rfl, rfl, rfl, rfl, rfl⟩ := e
   have h := Option.some.inj h; subst h; rfl
  ·cases h
 ·cases h⟩
structure G_api_Card where
 Name : ByteArray
 Suit : Int
 Kind : Int
 Cost : Int
 Power : Int
 Health : Int
 Traits : Int
 Token : Bool
 Parts : Sl
abbrev T_G_api_Card : Tag := ⟨G_api_Card, true, 9, fun x => [(.string x.Name), (.int .u8 x.Suit), (.int .u8 x.Kind), (.int .i64 x.Cost), (.int .i64 x.Power), (.int .i64 x.Health), (.int .u16 x.Traits), (.bool x.Token), (.slice x.Parts.p x.Parts.len x.Parts.cap)], fun cs => match cs with | [.string c0, .int kc1 c1, .int kc2 c2, .int kc3 c3, .int kc4 c4, .int kc5 c5, .int kc6 c6, .bool c7, .slice c8p c8n c8k] => if kc1 = .u8 ∧ kc2 = .u8 ∧ kc3 = .i64 ∧ kc4 = .i64 ∧ kc5 = .i64 ∧ kc6 = .u16 then some (G_api_Card.mk c0 c1 c2 c3 c4 c5 c6 c7 (Sl.mk c8p c8n c8k)) else none | _ => none, fun cs x h => by
 split at h
 ·split at h
  ·rename_i e
   obtain ⟨rfl, rfl, rfl, rfl, rfl, rfl⟩ := e
   have h := Option.some.inj h; subst h; rfl
  ·cases h
 ·cases h⟩
structure G_api_MarkInfo where
 Mark : Int
 Name : ByteArray
 Power : Int
 Health : Int
abbrev T_G_api_MarkInfo : Tag := ⟨G_api_MarkInfo, true, 4, fun x => [(.int .u8 x.Mark), (.string x.Name), (.int .i64 x.Power), (.int .i64 x.Health)], fun cs => match cs with | [.int kc0 c0, .string c1, .int kc2 c2, .int kc3 c3] => if kc0 = .u8 ∧ kc2 = .i64 ∧ kc3 = .i64 then some (G_api_MarkInfo.mk c0 c1 c2 c3) else none | _ => none, fun cs x h => by
 split at h
 ·split at h
  ·rename_i e
   obtain ⟨rfl, rfl, rfl⟩ := e
   have h := Option.some.inj h; subst h; rfl
  ·cases h
 ·cases h⟩
structure G_layer_place where
 b : Option Addr
 things : Sl
 cards : Sl
 order : Sl
abbrev T_G_layer_place : Tag := ⟨G_layer_place, true, 4, fun x => [(.pointer x.b), (.slice x.things.p x.things.len x.things.cap), (.slice x.cards.p x.cards.len x.cards.cap), (.slice x.order.p x.order.len x.order.cap)], fun cs => match cs with | [.pointer c0, .slice c1p c1n c1k, .slice c2p c2n c2k, .slice c3p c3n c3k] => some (G_layer_place.mk c0 (Sl.mk c1p c1n c1k) (Sl.mk c2p c2n c2k) (Sl.mk c3p c3n c3k)) | _ => none, fun cs x h => by
 split at h
 ·have h := Option.some.inj h; subst h; rfl
 ·cases h⟩
abbrev T_arr5_T_G_api_MarkInfo : Tag := ⟨G_api_MarkInfo × G_api_MarkInfo × G_api_MarkInfo × G_api_MarkInfo × G_api_MarkInfo, true, 20, fun x => [(.int .u8 x.1.Mark), (.string x.1.Name), (.int .i64 x.1.Power), (.int .i64 x.1.Health), (.int .u8 x.2.1.Mark), (.string x.2.1.Name), (.int .i64 x.2.1.Power), (.int .i64 x.2.1.Health), (.int .u8 x.2.2.1.Mark), (.string x.2.2.1.Name), (.int .i64 x.2.2.1.Power), (.int .i64 x.2.2.1.Health), (.int .u8 x.2.2.2.1.Mark), (.string x.2.2.2.1.Name), (.int .i64 x.2.2.2.1.Power), (.int .i64 x.2.2.2.1.Health), (.int .u8 x.2.2.2.2.Mark), (.string x.2.2.2.2.Name), (.int .i64 x.2.2.2.2.Power), (.int .i64 x.2.2.2.2.Health)], fun cs => match cs with | [.int kc0 c0, .string c1, .int kc2 c2, .int kc3 c3, .int kc4 c4, .string c5, .int kc6 c6, .int kc7 c7, .int kc8 c8, .string c9, .int kc10 c10, .int kc11 c11, .int kc12 c12, .string c13, .int kc14 c14, .int kc15 c15, .int kc16 c16, .string c17, .int kc18 c18, .int kc19 c19] => if kc0 = .u8 ∧ kc2 = .i64 ∧ kc3 = .i64 ∧ kc4 = .u8 ∧ kc6 = .i64 ∧ kc7 = .i64 ∧ kc8 = .u8 ∧ kc10 = .i64 ∧ kc11 = .i64 ∧ kc12 = .u8 ∧ kc14 = .i64 ∧ kc15 = .i64 ∧ kc16 = .u8 ∧ kc18 = .i64 ∧ kc19 = .i64 then some ((G_api_MarkInfo.mk c0 c1 c2 c3), (G_api_MarkInfo.mk c4 c5 c6 c7), (G_api_MarkInfo.mk c8 c9 c10 c11), (G_api_MarkInfo.mk c12 c13 c14 c15), (G_api_MarkInfo.mk c16 c17 c18 c19)) else none | _ => none, fun cs x h => by
 split at h
 ·split at h
  ·rename_i e
   obtain ⟨rfl, rfl, rfl, rfl, rfl, rfl, rfl, rfl, rfl, rfl, rfl, rfl, rfl, rfl, rfl⟩ := e
   have h := Option.some.inj h; subst h; rfl
  ·cases h
 ·cases h⟩
abbrev T_arr4_T_int_i64 : Tag := ⟨Int × Int × Int × Int, true, 4, fun x => [(.int .i64 x.1), (.int .i64 x.2.1), (.int .i64 x.2.2.1), (.int .i64 x.2.2.2)], fun cs => match cs with | [.int kc0 c0, .int kc1 c1, .int kc2 c2, .int kc3 c3] => if kc0 = .i64 ∧ kc1 = .i64 ∧ kc2 = .i64 ∧ kc3 = .i64 then some (c0, c1, c2, c3) else none | _ => none, fun cs x h => by
 split at h
 ·split at h
  ·rename_i e
   obtain ⟨rfl, rfl, rfl, rfl⟩ := e
   have h := Option.some.inj h; subst h; rfl
  ·cases h
 ·cases h⟩
structure G_ref07_Book where
 Made : Bool
 Shut : Bool
 List : Sl
 Names : ByteArray × ByteArray × ByteArray × ByteArray × ByteArray × ByteArray × ByteArray × ByteArray × ByteArray
 Marked : G_api_MarkInfo × G_api_MarkInfo × G_api_MarkInfo × G_api_MarkInfo × G_api_MarkInfo
abbrev T_G_ref07_Book : Tag := ⟨G_ref07_Book, true, 32, fun x => [(.bool x.Made), (.bool x.Shut), (.slice x.List.p x.List.len x.List.cap), (.string x.Names.1), (.string x.Names.2.1), (.string x.Names.2.2.1), (.string x.Names.2.2.2.1), (.string x.Names.2.2.2.2.1), (.string x.Names.2.2.2.2.2.1), (.string x.Names.2.2.2.2.2.2.1), (.string x.Names.2.2.2.2.2.2.2.1), (.string x.Names.2.2.2.2.2.2.2.2), (.int .u8 x.Marked.1.Mark), (.string x.Marked.1.Name), (.int .i64 x.Marked.1.Power), (.int .i64 x.Marked.1.Health), (.int .u8 x.Marked.2.1.Mark), (.string x.Marked.2.1.Name), (.int .i64 x.Marked.2.1.Power), (.int .i64 x.Marked.2.1.Health), (.int .u8 x.Marked.2.2.1.Mark), (.string x.Marked.2.2.1.Name), (.int .i64 x.Marked.2.2.1.Power), (.int .i64 x.Marked.2.2.1.Health), (.int .u8 x.Marked.2.2.2.1.Mark), (.string x.Marked.2.2.2.1.Name), (.int .i64 x.Marked.2.2.2.1.Power), (.int .i64 x.Marked.2.2.2.1.Health), (.int .u8 x.Marked.2.2.2.2.Mark), (.string x.Marked.2.2.2.2.Name), (.int .i64 x.Marked.2.2.2.2.Power), (.int .i64 x.Marked.2.2.2.2.Health)], fun cs => match cs with | [.bool c0, .bool c1, .slice c2p c2n c2k, .string c3, .string c4, .string c5, .string c6, .string c7, .string c8, .string c9, .string c10, .string c11, .int kc12 c12, .string c13, .int kc14 c14, .int kc15 c15, .int kc16 c16, .string c17, .int kc18 c18, .int kc19 c19, .int kc20 c20, .string c21, .int kc22 c22, .int kc23 c23, .int kc24 c24, .string c25, .int kc26 c26, .int kc27 c27, .int kc28 c28, .string c29, .int kc30 c30, .int kc31 c31] => if kc12 = .u8 ∧ kc14 = .i64 ∧ kc15 = .i64 ∧ kc16 = .u8 ∧ kc18 = .i64 ∧ kc19 = .i64 ∧ kc20 = .u8 ∧ kc22 = .i64 ∧ kc23 = .i64 ∧ kc24 = .u8 ∧ kc26 = .i64 ∧ kc27 = .i64 ∧ kc28 = .u8 ∧ kc30 = .i64 ∧ kc31 = .i64 then some (G_ref07_Book.mk c0 c1 (Sl.mk c2p c2n c2k) (c3, c4, c5, c6, c7, c8, c9, c10, c11) ((G_api_MarkInfo.mk c12 c13 c14 c15), (G_api_MarkInfo.mk c16 c17 c18 c19), (G_api_MarkInfo.mk c20 c21 c22 c23), (G_api_MarkInfo.mk c24 c25 c26 c27), (G_api_MarkInfo.mk c28 c29 c30 c31))) else none | _ => none, fun cs x h => by
 split at h
 ·split at h
  ·rename_i e
   obtain ⟨rfl, rfl, rfl, rfl, rfl, rfl, rfl, rfl, rfl, rfl, rfl, rfl, rfl, rfl, rfl⟩ := e
   have h := Option.some.inj h; subst h; rfl
  ·cases h
 ·cases h⟩
structure G_utf8_acceptRange where
 lo : Int
 hi : Int
abbrev T_G_utf8_acceptRange : Tag := ⟨G_utf8_acceptRange, true, 2, fun x => [(.int .u8 x.lo), (.int .u8 x.hi)], fun cs => match cs with | [.int kc0 c0, .int kc1 c1] => if kc0 = .u8 ∧ kc1 = .u8 then some (G_utf8_acceptRange.mk c0 c1) else none | _ => none, fun cs x h => by
 split at h
 ·split at h
  ·rename_i e
   obtain ⟨rfl, rfl⟩ := e
   have h := Option.some.inj h; subst h; rfl
  ·cases h
 ·cases h⟩
abbrev T_arr16_T_G_utf8_acceptRange : Tag := ⟨G_utf8_acceptRange × G_utf8_acceptRange × G_utf8_acceptRange × G_utf8_acceptRange × G_utf8_acceptRange × G_utf8_acceptRange × G_utf8_acceptRange × G_utf8_acceptRange × G_utf8_acceptRange × G_utf8_acceptRange × G_utf8_acceptRange × G_utf8_acceptRange × G_utf8_acceptRange × G_utf8_acceptRange × G_utf8_acceptRange × G_utf8_acceptRange, true, 32, fun x => [(.int .u8 x.1.lo), (.int .u8 x.1.hi), (.int .u8 x.2.1.lo), (.int .u8 x.2.1.hi), (.int .u8 x.2.2.1.lo), (.int .u8 x.2.2.1.hi), (.int .u8 x.2.2.2.1.lo), (.int .u8 x.2.2.2.1.hi), (.int .u8 x.2.2.2.2.1.lo), (.int .u8 x.2.2.2.2.1.hi), (.int .u8 x.2.2.2.2.2.1.lo), (.int .u8 x.2.2.2.2.2.1.hi), (.int .u8 x.2.2.2.2.2.2.1.lo), (.int .u8 x.2.2.2.2.2.2.1.hi), (.int .u8 x.2.2.2.2.2.2.2.1.lo), (.int .u8 x.2.2.2.2.2.2.2.1.hi), (.int .u8 x.2.2.2.2.2.2.2.2.1.lo), (.int .u8 x.2.2.2.2.2.2.2.2.1.hi), (.int .u8 x.2.2.2.2.2.2.2.2.2.1.lo), (.int .u8 x.2.2.2.2.2.2.2.2.2.1.hi), (.int .u8 x.2.2.2.2.2.2.2.2.2.2.1.lo), (.int .u8 x.2.2.2.2.2.2.2.2.2.2.1.hi), (.int .u8 x.2.2.2.2.2.2.2.2.2.2.2.1.lo), (.int .u8 x.2.2.2.2.2.2.2.2.2.2.2.1.hi), (.int .u8 x.2.2.2.2.2.2.2.2.2.2.2.2.1.lo), (.int .u8 x.2.2.2.2.2.2.2.2.2.2.2.2.1.hi), (.int .u8 x.2.2.2.2.2.2.2.2.2.2.2.2.2.1.lo), (.int .u8 x.2.2.2.2.2.2.2.2.2.2.2.2.2.1.hi), (.int .u8 x.2.2.2.2.2.2.2.2.2.2.2.2.2.2.1.lo), (.int .u8 x.2.2.2.2.2.2.2.2.2.2.2.2.2.2.1.hi), (.int .u8 x.2.2.2.2.2.2.2.2.2.2.2.2.2.2.2.lo), (.int .u8 x.2.2.2.2.2.2.2.2.2.2.2.2.2.2.2.hi)], fun cs => match cs with | [.int kc0 c0, .int kc1 c1, .int kc2 c2, .int kc3 c3, .int kc4 c4, .int kc5 c5, .int kc6 c6, .int kc7 c7, .int kc8 c8, .int kc9 c9, .int kc10 c10, .int kc11 c11, .int kc12 c12, .int kc13 c13, .int kc14 c14, .int kc15 c15, .int kc16 c16, .int kc17 c17, .int kc18 c18, .int kc19 c19, .int kc20 c20, .int kc21 c21, .int kc22 c22, .int kc23 c23, .int kc24 c24, .int kc25 c25, .int kc26 c26, .int kc27 c27, .int kc28 c28, .int kc29 c29, .int kc30 c30, .int kc31 c31] => if kc0 = .u8 ∧ kc1 = .u8 ∧ kc2 = .u8 ∧ kc3 = .u8 ∧ kc4 = .u8 ∧ kc5 = .u8 ∧ kc6 = .u8 ∧ kc7 = .u8 ∧ kc8 = .u8 ∧ kc9 = .u8 ∧ kc10 = .u8 ∧ kc11 = .u8 ∧ kc12 = .u8 ∧ kc13 = .u8 ∧ kc14 = .u8 ∧ kc15 = .u8 ∧ kc16 = .u8 ∧ kc17 = .u8 ∧ kc18 = .u8 ∧ kc19 = .u8 ∧ kc20 = .u8 ∧ kc21 = .u8 ∧ kc22 = .u8 ∧ kc23 = .u8 ∧ kc24 = .u8 ∧ kc25 = .u8 ∧ kc26 = .u8 ∧ kc27 = .u8 ∧ kc28 = .u8 ∧ kc29 = .u8 ∧ kc30 = .u8 ∧ kc31 = .u8 then some ((G_utf8_acceptRange.mk c0 c1), (G_utf8_acceptRange.mk c2 c3), (G_utf8_acceptRange.mk c4 c5), (G_utf8_acceptRange.mk c6 c7), (G_utf8_acceptRange.mk c8 c9), (G_utf8_acceptRange.mk c10 c11), (G_utf8_acceptRange.mk c12 c13), (G_utf8_acceptRange.mk c14 c15), (G_utf8_acceptRange.mk c16 c17), (G_utf8_acceptRange.mk c18 c19), (G_utf8_acceptRange.mk c20 c21), (G_utf8_acceptRange.mk c22 c23), (G_utf8_acceptRange.mk c24 c25), (G_utf8_acceptRange.mk c26 c27), (G_utf8_acceptRange.mk c28 c29), (G_utf8_acceptRange.mk c30 c31)) else none | _ => none, fun cs x h => by
 split at h
 ·split at h
  ·rename_i e
   obtain ⟨rfl, rfl, rfl, rfl, rfl, rfl, rfl, rfl, rfl, rfl, rfl, rfl, rfl, rfl, rfl, rfl, rfl, rfl, rfl, rfl, rfl, rfl, rfl, rfl, rfl, rfl, rfl, rfl, rfl, rfl, rfl, rfl⟩ := e
   have h := Option.some.inj h; subst h; rfl
  ·cases h
 ·cases h⟩
noncomputable abbrev P : Program := Tryz.prog
noncomputable abbrev E : Env := Tryz.env
def tagOf : TypeId -> Tag := fun t => match t with
 | 3 => (T_int .i64)
 | 4 => T_bool
 | 5 => (T_int .u8)
 | 9 => T_str
 | 21 => (T_int .i32)
 | 22 => T_sl
 | 23 => T_sl
 | 25 => T_G_kit_Fill
 | 26 => T_sl
 | 27 => T_sl
 | 29 => T_G_law24_Table
 | 30 => T_ptr
 | 31 => T_ptr
 | 35 => T_sl
 | 41 => (T_int .u16)
 | 42 => (T_int .u8)
 | 44 => T_G_api_Feature
 | 45 => (T_int .u8)
 | 46 => T_arr4_T_int_i64
 | 48 => T_G_api_Thing
 | 60 => T_sl
 | 63 => T_G_law19_Table
 | 65 => T_any
 | 66 => T_sl
 | 67 => (T_int .i64)
 | 74 => (T_int .u8)
 | 75 => (T_int .u8)
 | 76 => (T_int .u8)
 | 77 => (T_int .u8)
 | 78 => (T_int .u8)
 | 80 => T_G_api_Part
 | 82 => T_G_api_Standing
 | 87 => T_sl
 | 100 => T_sl
 | 105 => T_sl
 | 110 => (T_int .u8)
 | 111 => T_sl
 | 113 => T_G_api_Card
 | 117 => T_G_api_MarkInfo
 | 121 => T_any
 | 134 => T_G_layer_place
 | 158 => T_arr5_T_G_api_MarkInfo
 | 162 => T_G_ref07_Book
 | 172 => T_any
 | 173 => T_sl
 | 178 => T_ptr
 | 191 => (T_int .u64)
 | 214 => (T_int .i64)
 | 222 => (T_int .u32)
 | 224 => (T_int .u64)
 | 232 => (T_int .u64)
 | 236 => T_ptr
 | 244 => T_ptr
 | 245 => T_ptr
 | 254 => T_G_utf8_acceptRange
 | 255 => T_arr16_T_G_utf8_acceptRange
 | _ => T_any
def resOf : FuncId -> List Tag := fun f => match f with
 | 3 => [T_bool]
 | 4 => [T_bool]
 | 5 => [T_bool]
 | 6 => [T_bool]
 | 7 => [T_bool]
 | 8 => [T_bool]
 | 9 => [T_bool]
 | 10 => [T_ptr, T_ptr, T_bool]
 | 11 => [T_sl]
 | 12 => [T_sl]
 | 13 => [T_bool]
 | 14 => [T_bool]
 | 15 => [T_bool]
 | 16 => [T_sl]
 | 17 => [T_sl]
 | 18 => [T_bool]
 | 19 => [T_sl]
 | 20 => [T_bool]
 | 21 => [T_bool]
 | 22 => [T_bool]
 | 23 => [T_bool]
 | 24 => [T_bool]
 | 25 => [T_bool]
 | 26 => [T_bool]
 | 27 => [T_bool]
 | 28 => [(T_int .i64)]
 | 29 => [T_sl]
 | 30 => [T_sl, T_sl, (T_int .i64)]
 | 31 => [T_bool]
 | 32 => [T_bool]
 | 33 => [T_sl, (T_int .i64)]
 | 34 => [T_sl, (T_int .i64)]
 | 35 => [T_sl, (T_int .i64)]
 | 36 => [T_G_api_Feature]
 | 37 => [T_sl]
 | 38 => [(T_int .i64), (T_int .i64)]
 | 39 => [(T_int .i64)]
 | 40 => [T_sl]
 | 41 => [T_bool, (T_int .i64)]
 | 42 => [T_sl]
 | 43 => [(T_int .i64), (T_int .i64)]
 | 44 => [T_sl, (T_int .i64)]
 | 45 => [T_sl, T_sl, (T_int .i64)]
 | 46 => [T_sl]
 | 47 => [T_sl, T_sl, T_bool]
 | 48 => [T_bool]
 | 49 => [T_bool]
 | 50 => [T_bool]
 | 51 => [T_ptr]
 | 52 => [T_ptr]
 | 53 => [(T_int .i64)]
 | 54 => [T_G_api_Card]
 | 55 => [(T_int .i64)]
 | 56 => [(T_int .i64)]
 | 57 => [(T_int .i64)]
 | 58 => [(T_int .i64)]
 | 59 => [(T_int .i64)]
 | 60 => [T_bool]
 | 61 => [T_bool]
 | 62 => [T_sl, (T_int .i64)]
 | 63 => [T_bool]
 | 64 => [T_bool]
 | 65 => [T_sl]
 | 66 => [T_bool]
 | 67 => [T_bool]
 | 68 => [T_ptr, T_sl, T_sl]
 | 69 => [T_bool]
 | 70 => [T_bool]
 | 71 => [T_G_api_Card, (T_int .i64)]
 | 72 => [T_bool]
 | 73 => [T_G_api_Card, (T_int .i64)]
 | 74 => [T_bool]
 | 75 => [T_bool]
 | 76 => [(T_int .i64)]
 | 77 => [T_ptr, T_G_law19_Table]
 | 78 => [T_G_layer_place, (T_int .i64)]
 | 79 => [T_sl]
 | 80 => [(T_int .i64)]
 | 81 => [T_sl]
 | 82 => [T_sl]
 | 83 => [T_sl]
 | 84 => [T_sl]
 | 85 => [T_bool]
 | 86 => [T_sl]
 | 87 => [(T_int .u16)]
 | 88 => [(T_int .u16)]
 | 89 => [T_bool]
 | 90 => [T_bool]
 | 91 => [(T_int .i64)]
 | 92 => [T_bool]
 | 93 => [(T_int .i64)]
 | 94 => [T_sl]
 | 95 => [T_sl]
 | 96 => [T_sl, (T_int .i64)]
 | 97 => [T_sl, (T_int .i64)]
 | 98 => [T_bool, (T_int .i64)]
 | 99 => [T_G_api_Feature]
 | 100 => [T_G_api_Standing]
 | 101 => [(T_int .i64)]
 | 102 => [(T_int .i64)]
 | 103 => [(T_int .i64)]
 | 104 => [T_bool]
 | 105 => [T_G_api_Card]
 | 106 => [T_sl]
 | 107 => [T_bool]
 | 108 => [(T_int .i64)]
 | 109 => [(T_int .i64)]
 | 110 => [T_bool]
 | 111 => [T_G_api_Card]
 | 112 => [T_bool]
 | 113 => [T_bool]
 | 114 => [T_bool]
 | 115 => [T_bool]
 | 116 => [T_sl, (T_int .i64)]
 | 117 => [(T_int .u16)]
 | 118 => [T_bool]
 | 119 => [T_bool]
 | 120 => [T_bool]
 | 121 => [T_G_api_Card, (T_int .i64)]
 | 122 => [T_bool]
 | 123 => [T_bool]
 | 124 => [T_G_api_Card, (T_int .i64)]
 | 125 => [(T_int .i64), (T_int .i64)]
 | 126 => [T_bool]
 | 128 => [(T_int .i64)]
 | 129 => [T_bool]
 | 130 => [T_bool]
 | 131 => [T_bool]
 | 132 => [T_bool]
 | 133 => [T_bool]
 | 134 => [(T_int .i64)]
 | 135 => [T_bool]
 | 136 => [T_bool]
 | 137 => [T_sl]
 | 138 => [T_sl]
 | 139 => [T_G_api_Feature]
 | 140 => [(T_int .i64)]
 | 141 => [(T_int .i64)]
 | 142 => [T_bool]
 | 143 => [T_bool]
 | 144 => [T_bool]
 | 145 => [(T_int .i64)]
 | 146 => [T_sl, (T_int .i64)]
 | 147 => [T_sl]
 | 148 => [T_bool]
 | 149 => [(T_int .u16)]
 | 150 => [(T_int .i64)]
 | 152 => [(T_int .i64)]
 | 153 => [T_bool]
 | 154 => [T_bool]
 | 155 => [T_bool]
 | 156 => [(T_int .u16)]
 | 157 => [(T_int .u16)]
 | 158 => [T_bool]
 | 159 => [T_str]
 | 160 => [T_str]
 | 161 => [T_bool]
 | 162 => [T_bool, T_bool, T_bool, T_bool, T_bool]
 | 163 => [(T_int .i64), (T_int .i64), T_bool]
 | 164 => [T_bool]
 | 165 => [T_bool]
 | 166 => [T_bool]
 | 167 => [T_bool]
 | 168 => [T_bool]
 | 169 => [T_bool]
 | 170 => [T_bool]
 | 171 => [T_bool, T_bool, T_bool, T_bool, T_bool]
 | 172 => [(T_int .i64)]
 | 173 => [(T_int .i64)]
 | 174 => [T_bool]
 | 175 => [T_bool]
 | 176 => [T_bool]
 | 177 => [T_bool]
 | 178 => [T_sl, T_bool]
 | 179 => [T_G_api_Feature, (T_int .i64)]
 | 183 => [(T_int .i64), (T_int .i64)]
 | 185 => [T_bool]
 | 186 => [(T_int .i64)]
 | 187 => [(T_int .i64), T_bool]
 | 188 => [(T_int .i64)]
 | 189 => [(T_int .i64)]
 | 190 => [T_bool]
 | 191 => [T_str]
 | 192 => [T_bool]
 | 193 => [T_bool]
 | 194 => [T_bool]
 | 195 => [(T_int .i64), (T_int .i64)]
 | 196 => [T_G_api_Feature, (T_int .i64)]
 | 197 => [T_G_api_MarkInfo, T_bool]
 | 199 => [(T_int .u64)]
 | 200 => [(T_int .u64)]
 | 201 => [(T_int .i64)]
 | 202 => [(T_int .i64)]
 | 203 => [T_str]
 | 204 => [T_str]
 | 206 => [T_str]
 | 207 => [T_str]
 | 208 => [T_str]
 | 209 => [T_str]
 | 210 => [(T_int .i64), (T_int .i64)]
 | 211 => [T_bool]
 | 212 => [(T_int .i32), (T_int .i64)]
 | 213 => [T_bool]
 | 214 => [(T_int .i32), (T_int .i64)]
 | 215 => [(T_int .i32), (T_int .i64)]
 | 216 => [(T_int .i64)]
 | 217 => [T_bool]
 | 218 => [(T_int .i64)]
 | 219 => [T_bool]
 | _ => []
def lkpOf : TypeId -> Option Tag := fun t => match t with
 | _ => none
def rtOf : TypeId -> List Tag := fun t => match t with
 | 0 => []
 | 32 => [T_ptr, T_ptr, T_bool]
 | 68 => [T_sl, T_sl, (T_int .i64)]
 | 72 => [T_sl, (T_int .i64)]
 | 83 => [T_sl, (T_int .i64)]
 | 85 => [T_sl, (T_int .i64)]
 | 89 => [(T_int .i64), (T_int .i64)]
 | 94 => [T_bool, (T_int .i64)]
 | 101 => [T_sl, T_sl, T_bool]
 | 124 => [T_ptr, T_sl, T_sl]
 | 127 => [T_G_api_Card, (T_int .i64)]
 | 131 => [T_ptr, T_G_law19_Table]
 | 135 => [T_G_layer_place, (T_int .i64)]
 | 198 => [T_bool, T_bool, T_bool, T_bool, T_bool]
 | 200 => [(T_int .i64), (T_int .i64), T_bool]
 | 209 => [T_sl, T_bool]
 | 211 => [T_G_api_Feature, (T_int .i64)]
 | 215 => [(T_int .i64), (T_int .i64)]
 | 219 => [(T_int .i64), T_bool]
 | 227 => [(T_int .i64), (T_int .i64)]
 | 230 => [T_G_api_MarkInfo, T_bool]
 | 248 => [(T_int .i32), (T_int .i64)]
 | t => [tagOf t]
noncomputable def C : CEnv := { E := E, P := P, tag := tagOf, res := resOf, lkp := lkpOf, rt := rtOf }
theorem hE : C.E.Ok C.P := Tryz.envOk
abbrev n_law19_LayerStamps : FuncId := 5
abbrev n_kit_Books : FuncId := 10
abbrev n_law19_awake : FuncId := 26
abbrev n_law19_heavy : FuncId := 27
abbrev n_kit_Pick : FuncId := 28
abbrev n_kit_CopyThings : FuncId := 29
abbrev n_layer_All : FuncId := 30
abbrev n_kit_SameFeatures : FuncId := 31
abbrev n_kit_SameStandings : FuncId := 32
abbrev n_layer_Effects : FuncId := 33
abbrev n_kit_CopyFeatures : FuncId := 37
abbrev n_effect_Layer : FuncId := 39
abbrev n_kit_CopyStandings : FuncId := 46
abbrev n_book_New : FuncId := 51
abbrev n_ref07_New : FuncId := 52
abbrev n_book_Book_Card : FuncId := 53
abbrev n_kit_CopyCard : FuncId := 54
abbrev n_ref07_Book_Card : FuncId := 55
abbrev n_book_Book_Mark : FuncId := 56
abbrev n_ref07_Book_Mark : FuncId := 57
abbrev n_book_Book_Seal : FuncId := 58
abbrev n_ref07_Book_Seal : FuncId := 59
abbrev n_book_Book_Sealed : FuncId := 60
abbrev n_ref07_Book_Sealed : FuncId := 61
abbrev n_trait_Has : FuncId := 67
abbrev n_thing_Card : FuncId := 71
abbrev n_kit_SameThings : FuncId := 75
abbrev n_layer_setup : FuncId := 78
abbrev n_slices_Clone_api_Feature_api_Feature : FuncId := 79
abbrev n_layer_place_next : FuncId := 80
abbrev n_layer_place_apply : FuncId := 81
abbrev n_slices_Delete_api_Standing_api_Standing : FuncId := 82
abbrev n_slices_Clone_api_Standing_api_Standing : FuncId := 83
abbrev n_layer_place_effects : FuncId := 84
abbrev n_layer_place_about : FuncId := 86
abbrev n_trait_With : FuncId := 87
abbrev n_trait_Without : FuncId := 88
abbrev n_layer_place_depends : FuncId := 90
abbrev n_book_Book_shut : FuncId := 101
abbrev n_card_Check : FuncId := 102
abbrev n_book_Book_place : FuncId := 103
abbrev n_book_ahead : FuncId := 104
abbrev n_card_Copy : FuncId := 105
abbrev n_kit_CopyParts : FuncId := 106
abbrev n_ref07_Book_None : FuncId := 107
abbrev n_ref06_Check : FuncId := 108
abbrev n_ref07_Book_place : FuncId := 109
abbrev n_ref07_Ahead : FuncId := 110
abbrev n_ref06_Copy : FuncId := 111
abbrev n_book_within : FuncId := 112
abbrev n_book_name : FuncId := 113
abbrev n_ref07_Name : FuncId := 114
abbrev n_book_Book_none : FuncId := 115
abbrev n_trait_bit : FuncId := 117
abbrev n_book_Book_At : FuncId := 121
abbrev n_book_Book_Find : FuncId := 125
abbrev n_trait_Check : FuncId := 126
abbrev n_slices_SortFunc_int_int : FuncId := 127
abbrev n_layer_setup_1 : FuncId := 128
abbrev n_layer_place_ahead : FuncId := 129
abbrev n_layer_place_means : FuncId := 131
abbrev n_slices_Equal_int_int : FuncId := 132
abbrev n_card_face : FuncId := 140
abbrev n_effect_Check : FuncId := 141
abbrev n_ref06_NameMay : FuncId := 142
abbrev n_ref06_within : FuncId := 143
abbrev n_ref04_Check : FuncId := 144
abbrev n_ref05_Check : FuncId := 145
abbrev n_trait_is : FuncId := 148
abbrev n_card_named : FuncId := 158
abbrev n_suit_Name : FuncId := 159
abbrev n_card_word : FuncId := 160
abbrev n_card_within : FuncId := 161
abbrev n_effect_Uses : FuncId := 162
abbrev n_effect_bounds : FuncId := 163
abbrev n_effect_wanted : FuncId := 164
abbrev n_effect_about : FuncId := 165
abbrev n_effect_within_int : FuncId := 166
abbrev n_effect_within_api_Suit : FuncId := 167
abbrev n_effect_within_api_Trait : FuncId := 168
abbrev n_effect_within_api_Mark : FuncId := 169
abbrev n_effect_name : FuncId := 170
abbrev n_ref05_Uses : FuncId := 171
abbrev n_ref05_kind : FuncId := 172
abbrev n_ref05_wants : FuncId := 173
abbrev n_ref05_about : FuncId := 174
abbrev n_ref05_counted : FuncId := 175
abbrev n_ref05_within : FuncId := 176
abbrev n_ref05_Name : FuncId := 177
abbrev n_strings_Trim : FuncId := 191
abbrev n_effect_standing : FuncId := 192
abbrev n_effect_swapping : FuncId := 193
abbrev n_effect_event : FuncId := 194
abbrev n_ref05_counts : FuncId := 195
end Zv
end Go.Proofs.YtolekmhhkopooaaGreatDoor
end
section
namespace Go.Proofs.YtolekmhhkopooaaGreatDoor.Zq
theorem u8_tri (a b : UInt8) : a < b ∨ a = b ∨ b < a := by
 have h : a.toNat < b.toNat ∨ a.toNat = b.toNat ∨ b.toNat < a.toNat := by omega
 rcases h with h | h | h
 ·exact .inl (UInt8.lt_iff_toNat_lt.2 h)
 ·exact .inr (.inl (UInt8.toNat_inj.1 h))
 ·exact .inr (.inr (UInt8.lt_iff_toNat_lt.2 h))
theorem u8_tr {a b c : UInt8} (h : a < b) (k : b < c) : a < c := UInt8.lt_iff_toNat_lt.2 (by have := UInt8.lt_iff_toNat_lt.1 h; have := UInt8.lt_iff_toNat_lt.1 k; omega)
theorem bl_tr : ∀ {x y z : List UInt8}, Op.bytesLess x y = true -> Op.bytesLess y z = true -> Op.bytesLess x z = true
 | _, [], _, h, _ => by simp [Op.bytesLess] at h
 | _, _ :: _, [], _, k => by simp [Op.bytesLess] at k
 | [], b :: y, c :: z, _, _ => rfl
 | a :: x, b :: y, c :: z, h, k => by
  simp only [Op.bytesLess, Bool.or_eq_true, Bool.and_eq_true, decide_eq_true_eq, beq_iff_eq] at h k ⊢
  rcases h with h | ⟨rfl, h⟩
  ·rcases k with k | ⟨rfl, k⟩
   ·exact .inl (u8_tr h k)
   ·exact .inl h
  ·rcases k with k | ⟨rfl, k⟩
   ·exact .inl k
   ·exact .inr ⟨rfl, bl_tr h k⟩
theorem bl_tot : ∀ {x y : List UInt8}, x ≠ y -> Op.bytesLess x y = false -> Op.bytesLess y x = true
 | [], [], h, _ => absurd rfl h
 | [], _ :: _, _, k => by simp [Op.bytesLess] at k
 | _ :: _, [], _, _ => rfl
 | a :: x, b :: y, h, k => by
  simp only [Op.bytesLess, Bool.or_eq_false_iff, Bool.and_eq_false_iff, decide_eq_false_iff_not, beq_eq_false_iff_ne, ne_eq] at k
  simp only [Op.bytesLess, Bool.or_eq_true, Bool.and_eq_true, decide_eq_true_eq, beq_iff_eq]
  rcases u8_tri a b with q | q | q
  ·exact absurd q k.1
  ·subst q
   refine .inr ⟨rfl, bl_tot (fun e => h (by rw [e])) ?_⟩
   rcases k.2 with e | e
   ·exact absurd rfl e
   ·exact e
  ·exact .inl q
section
variable {α : Type} (lt : α -> α -> Bool)
def insL (x : α) (l : List α) : List α := l.takeWhile (fun d => !lt x d) ++ x :: l.dropWhile (fun d => !lt x d)
def SrtL (l : List α) : Prop := l.Pairwise fun a b => lt a b = true
variable {lt}
theorem takeWhile_of {p : α -> Bool} : ∀ (l : List α) (i : Nat), i ≤ l.length -> (∀ (j : Nat) (h : j < l.length), j < i -> p l[j] = true) -> (∀ (h : i < l.length), p l[i] = false) -> l.takeWhile p = l.take i ∧ l.dropWhile p = l.drop i
 | [], i, h, _, _ => by
  have : i = 0 := by simpa using h
  subst this; exact ⟨rfl, rfl⟩
 | a :: l, 0, _, _, h2 => by
  have : p a = false := h2 (by simp)
  simp [this]
 | a :: l, i + 1, h, h1, h2 => by
  have ha : p a = true := h1 0 (by simp) (by omega)
  obtain ⟨e1, e2⟩ := takeWhile_of l i (by simpa using h) (fun j hj hji => h1 (j + 1) (by simpa using hj) (by omega)) (fun hi => h2 (by simpa using hi))
  simp [ha, e1, e2]
theorem insL_end (tr : ∀ {a b c : α}, lt a b = true -> lt b c = true -> lt a c = true) {x : α} {l : List α} (hs : SrtL lt l) {i : Nat} (hi : i ≤ l.length) (h1 : ∀ (j : Nat) (h : j < l.length), i ≤ j -> lt x l[j] = true) (h2 : ∀ (h : 0 < i), lt x (l[i - 1]'(by omega)) = false) : insL lt x l = l.take i ++ x :: l.drop i := by
 unfold insL
 have k1 : ∀ (j : Nat) (h : j < l.length), j < i -> (!lt x l[j]) = true := fun j hj hji => by
  have h3 := h2 (by omega)
  cases hb : lt x l[j] with
  | false => rfl
  | true =>
   by_cases e : j = i - 1
   ·subst e; rw [hb] at h3; cases h3
   ·have := List.pairwise_iff_getElem.1 hs j (i - 1) hj (by omega) (by omega)
    rw [tr hb this] at h3; cases h3
 have k2 : ∀ (h : i < l.length), (!lt x l[i]) = false := fun h => by rw [h1 i h (Nat.le_refl _)]; rfl
 obtain ⟨e1, e2⟩ := takeWhile_of (p := fun d => !lt x d) l i hi k1 k2
 rw [e1, e2]
theorem insL_head {x : α} {l : List α} {i : Nat} (hi : i ≤ l.length) (h1 : ∀ (j : Nat) (h : j < l.length), j < i -> lt x l[j] = false) (h2 : ∀ (h : i < l.length), lt x l[i] = true) : insL lt x l = l.take i ++ x :: l.drop i := by
 unfold insL
 obtain ⟨e1, e2⟩ := takeWhile_of (p := fun d => !lt x d) l i hi (fun j hj hji => by rw [h1 j hj hji]; rfl) (fun h => by rw [h2 h]; rfl)
 rw [e1, e2]
theorem mem_insL {x y : α} {l : List α} : y ∈ insL lt x l ↔ y = x ∨ y ∈ l := by
 unfold insL
 rw [List.mem_append, List.mem_cons]
 constructor
 ·rintro (h | h | h)
  ·exact .inr ((List.takeWhile_sublist _).subset h)
  ·exact .inl h
  ·exact .inr ((List.dropWhile_sublist _).subset h)
 ·rintro (h | h)
  ·exact .inr (.inl h)
  ·rw [← List.takeWhile_append_dropWhile (p := fun d => !lt x d) (l := l), List.mem_append] at h
   rcases h with h | h
   ·exact .inl h
   ·exact .inr (.inr h)
theorem insL_len {x : α} {l : List α} : (insL lt x l).length = l.length + 1 := by
 have := congrArg List.length (List.takeWhile_append_dropWhile (p := fun d => !lt x d) (l := l))
 rw [List.length_append] at this
 unfold insL
 rw [List.length_append, List.length_cons]; omega
theorem dropWhile_head {p : α -> Bool} : ∀ {l : List α} {y : α} {r : List α}, l.dropWhile p = y :: r -> p y = false
 | [], _, _, h => by simp at h
 | a :: l, y, r, h => by
  rw [List.dropWhile_cons] at h
  split at h
  ·exact dropWhile_head h
  ·rename_i e; cases h; simpa using e
theorem takeWhile_all {p : α -> Bool} : ∀ {l : List α} {y : α}, y ∈ l.takeWhile p -> p y = true
 | [], _, h => by simp at h
 | a :: l, y, h => by
  rw [List.takeWhile_cons] at h
  split at h
  ·rename_i e
   rcases List.mem_cons.1 h with rfl | h
   ·exact e
   ·exact takeWhile_all h
  ·simp at h
theorem insL_srt (tr : ∀ {a b c : α}, lt a b = true -> lt b c = true -> lt a c = true) {x : α} {l : List α} (hs : SrtL lt l) (tot : ∀ y ∈ l, lt x y = false -> lt y x = true) : SrtL lt (insL lt x l) := by
 have hl := List.takeWhile_append_dropWhile (p := fun d => !lt x d) (l := l)
 have hs' := hs
 unfold SrtL at hs' ⊢
 rw [← hl, List.pairwise_append] at hs'
 obtain ⟨s1, s2, s3⟩ := hs'
 have below : ∀ y ∈ l.takeWhile (fun d => !lt x d), lt y x = true := fun y hy => tot y ((List.takeWhile_sublist _).subset hy) (by simpa using takeWhile_all hy)
 have above : ∀ y ∈ l.dropWhile (fun d => !lt x d), lt x y = true := by
  cases hd : l.dropWhile (fun d => !lt x d) with
  | nil => intro y hy; cases hy
  | cons z r =>
   have hz : lt x z = true := by simpa using dropWhile_head hd
   rw [hd] at s2
   intro y hy
   rcases List.mem_cons.1 hy with rfl | hy
   ·exact hz
   ·exact tr hz ((List.pairwise_cons.1 s2).1 y hy)
 unfold insL
 rw [List.pairwise_append]
 refine ⟨s1, List.pairwise_cons.2 ⟨above, s2⟩, fun a ha b hb => ?_⟩
 rcases List.mem_cons.1 hb with rfl | hb
 ·exact below a ha
 ·exact s3 a ha b hb
end
end Go.Proofs.YtolekmhhkopooaaGreatDoor.Zq
end
section
namespace Go.Proofs.YtolekmhhkopooaaGreatDoor.Zq
open Zv
abbrev Pt := G_api_Part
def nmB (b : UInt8) : Bool := b == 45 || (decide (97 ≤ b) && decide (b ≤ 122))
def okNm (s : ByteArray) : Prop := 1 ≤ s.data.toList.length ∧ s.data.toList.length ≤ 20 ∧ s.data.toList.head? ≠ some 45 ∧ s.data.toList.all nmB = true
def kindV (v : Int) : Int := if 1 ≤ v ∧ v ≤ 9 then 1 else if 10 ≤ v ∧ v ≤ 15 then 2 else if 16 ≤ v ∧ v ≤ 19 then 3 else 0
def wantW (w : Int) : Int := if 1 ≤ w ∧ w ≤ 4 then 1 else if w = 5 then 2 else if w = 6 then 3 else 0
def cU (v : Int) : Prop := v = 1 ∨ v = 2 ∨ v = 3 ∨ v = 4 ∨ v = 5 ∨ v = 7 ∨ v = 9 ∨ v = 14 ∨ v = 15 ∨ v = 16 ∨ v = 19
def sU (v w : Int) : Prop := v = 11 ∨ w = 9
def tU (v w : Int) : Prop := v = 12 ∨ v = 13 ∨ w = 10
instance (v : Int) : Decidable (cU v) := by unfold cU; infer_instance
instance (v w : Int) : Decidable (sU v w) := by unfold sU; infer_instance
instance (v w : Int) : Decidable (tU v w) := by unfold tU; infer_instance
def lowV (v : Int) : Int := if v = 9 ∨ v = 15 then -99 else if v = 5 then -9 else if v = 14 then 0 else 1
def highV (v : Int) : Int := if v = 5 then 9 else 99
def okCount (v x : Int) : Prop := if cU v then lowV v ≤ x ∧ x ≤ highV v ∧ (v = 14 ∨ x ≠ 0) else x = 0
def inU (u : Prop) [Decidable u] (x most : Int) : Prop := if u then 1 ≤ x ∧ x ≤ most else x = 0
def okAbout (p : Pt) : Prop :=
 if kindV p.Verb = 1 then (if p.Whom = 3 then p.When = 1 else ¬ ((p.Whom = 1 ∨ p.Whom = 2) ∧ (p.Verb = 6 ∨ p.Verb = 8 ∨ p.Verb = 9)))
 else if kindV p.Verb = 2 then ¬ (p.Whom = 1 ∨ p.Whom = 2) ∧ p.Whom ≠ 3
 else p.Whom ≠ 3
open Classical in
noncomputable def chkP (p : Pt) : Int :=
 if p.When < 1 ∨ 6 < p.When ∨ p.Verb < 1 ∨ 19 < p.Verb ∨ p.Whom < 1 ∨ 10 < p.Whom then 2
 else if kindV p.Verb ≠ wantW p.When ∨ p.Verb = 11 ∧ p.Whom = 9 then 8
 else if ¬ okAbout p then 13
 else if ¬ okCount p.Verb p.Count then 2
 else if ¬ (inU (sU p.Verb p.Whom) p.Suit 6 ∧ inU (tU p.Verb p.Whom) p.Trait 8 ∧ inU (p.Verb = 9) p.Mark 4) then 2
 else if (if p.Verb = 7 then ¬ okNm p.Name else p.Name.data.toList ≠ []) then 4
 else 0
structure Cd where
 g : G_api_Card
 ps : List Pt
def bare (g : G_api_Card) : G_api_Card := { g with Parts := ⟨none, 0, 0⟩ }
open Classical in
noncomputable def chkPs (k : Int) : List Pt -> Int
 | [] => 0
 | p :: r => if chkP p ≠ 0 then chkP p else if k = 2 ∧ p.When ≠ 1 ∨ k = 3 ∧ p.When = 4 then 8 else chkPs k r
open Classical in
noncomputable def chkF (c : Cd) : Int :=
 if ¬ okNm c.g.Name then 4
 else if ¬ (1 ≤ c.g.Suit ∧ c.g.Suit ≤ 6) ∨ ¬ (1 ≤ c.g.Kind ∧ c.g.Kind ≤ 3) then 8
 else if ¬ (0 ≤ c.g.Cost ∧ c.g.Cost ≤ 10) ∨ ¬ (0 ≤ c.g.Power ∧ c.g.Power ≤ 99) ∨ ¬ (0 ≤ c.g.Health ∧ c.g.Health ≤ 99) then 2
 else if c.g.Kind = 1 ∧ c.g.Health = 0 ∨ c.g.Kind ≠ 1 ∧ (c.g.Power ≠ 0 ∨ c.g.Health ≠ 0) then 8
 else if ¬ (c.g.Traits < 256) ∨ c.g.Kind = 2 ∧ c.g.Token = true then 8
 else if 4 < c.ps.length then 3
 else 0
noncomputable def chkC (c : Cd) : Int := if chkF c = 0 then chkPs c.g.Kind c.ps else chkF c
theorem chkF_len {c : Cd} (h : chkF c = 0) : c.ps.length ≤ 4 := by
 unfold chkF at h
 repeat' split at h
 all_goals first | omega | (exfalso; exact absurd h (by decide))
def ahd (c d : Cd) : Bool := decide (c.g.Suit < d.g.Suit) || (c.g.Suit == d.g.Suit && Op.bytesLess c.g.Name.toList d.g.Name.toList)
theorem ahd_tr {a b c : Cd} (h : ahd a b = true) (k : ahd b c = true) : ahd a c = true := by
 unfold ahd at *
 simp only [Bool.or_eq_true, Bool.and_eq_true, decide_eq_true_eq, beq_iff_eq] at *
 rcases h with h | ⟨h1, h2⟩ <;> rcases k with k | ⟨k1, k2⟩
 ·exact .inl (by omega)
 ·exact .inl (by omega)
 ·exact .inl (by omega)
 ·exact .inr ⟨by omega, bl_tr h2 k2⟩
theorem ahd_tot {a b : Cd} (hn : a.g.Name.toList ≠ b.g.Name.toList) (h : ahd a b = false) : ahd b a = true := by
 unfold ahd at *
 simp only [Bool.or_eq_true, Bool.and_eq_true, decide_eq_true_eq, beq_iff_eq, Bool.or_eq_false_iff, Bool.and_eq_false_iff, decide_eq_false_iff_not, beq_eq_false_iff_ne, ne_eq] at *
 by_cases e : a.g.Suit = b.g.Suit
 ·refine .inr ⟨e.symm, bl_tot hn ?_⟩
  rcases h.2 with q | q
  ·exact absurd e q
  ·exact q
 ·exact .inl (by omega)
def nameIn (B : List Cd) (s : ByteArray) : Option Nat := B.findIdx? fun d => d.g.Name.toList == s.toList
open Classical in
noncomputable def addE (B : List Cd) (c : Cd) : Int := if chkC c ≠ 0 then chkC c else if (nameIn B c.g.Name).isSome then 5 else if 64 ≤ B.length then 14 else 0
open Classical in
noncomputable def addC (B : List Cd) (c : Cd) : List Cd := if addE B c = 0 then insL ahd c B else B
structure OkB (B : List Cd) : Prop where
 few : B.length ≤ 64
 srt : SrtL ahd B
 ok : ∀ c ∈ B, chkC c = 0
theorem addC_ok {B : List Cd} (h : OkB B) (c : Cd) : OkB (addC B c) := by
 unfold addC
 split
 ·rename_i e
  unfold addE at e
  split at e
  ·rename_i e2; exact absurd e e2
  ·rename_i e2
   split at e
   ·cases e
   ·rename_i e3
    split at e
    ·cases e
    ·rename_i e4
     have e2 : chkC c = 0 := Classical.byContradiction e2
     refine ⟨by rw [insL_len]; omega, insL_srt (lt := ahd) (fun h k => ahd_tr h k) h.srt fun y hy hl => ahd_tot (fun en => ?_) hl, fun d hd => ?_⟩
     ·apply e3
      unfold nameIn
      rw [List.findIdx?_isSome, List.any_eq_true]
      exact ⟨y, hy, by rw [en]; simp⟩
     ·rcases mem_insL.1 hd with rfl | hd
      ·exact e2
      ·exact h.ok d hd
 ·exact h
open Classical in
noncomputable def markE (ms : List G_api_MarkInfo) (m : G_api_MarkInfo) : Int :=
 if m.Mark < 1 ∨ 4 < m.Mark ∨ m.Power < -9 ∨ 9 < m.Power ∨ m.Health < -9 ∨ 9 < m.Health then 2
 else if ¬ okNm m.Name then 4
 else if (∃ x, ms[m.Mark.toNat]? = some x ∧ x.Mark ≠ 0) ∨ (∃ x ∈ ms, x.Name.toList = m.Name.toList) then 5
 else 0
open Classical in
noncomputable def addM (ms : List G_api_MarkInfo) (m : G_api_MarkInfo) : List G_api_MarkInfo := if markE ms m = 0 then ms.set m.Mark.toNat m else ms
def callE (B : List Cd) (p : Pt) : Int := if p.Verb = 7 then (match nameIn B p.Name with | none => 6 | some i => if (B[i]?.map fun c => c.g.Kind) = some 2 then 8 else 0) else 0
def firstE (B : List Cd) : List Pt -> Int
 | [] => 0
 | p :: r => if callE B p ≠ 0 then callE B p else firstE B r
def sealE (B : List Cd) : Int := firstE B (B.flatMap (·.ps))
end Go.Proofs.YtolekmhhkopooaaGreatDoor.Zq
end
section
namespace Go.Proofs.YtolekmhhkopooaaGreatDoor
open Go Zq
namespace Zv
set_option maxRecDepth 100000
set_option linter.unusedVariables false
def S_kit_Books (a0 : G_kit_Fill) (H : Heap) (Q : (Option Addr) × (Option Addr) × Bool × Unit -> Heap -> Prop) : Prop :=
CALL P [T_ptr] n_book_New [] H fun (x1 : (Option Addr) × Unit) H1 =>
CALL P [T_ptr] n_ref07_New [] H1 fun (x2 : (Option Addr) × Unit) H2 =>
JOIN (fun (j3 : (Unit) × (Unit) -> Heap -> Prop) =>
LOOP (fun (r5 : (Int × Unit) × (Unit) -> Heap -> Prop) (s6 : (Int × Unit) × (Unit)) H4 =>
ifB (decide (s6.1.1 < (a0.Cards.len : Int))) (
IDX a0.Cards.p a0.Cards.len s6.1.1 9 fun b7 o8 =>
LD T_G_api_Card H4 b7 o8 fun (x9 : G_api_Card) =>
IDX a0.Cards.p a0.Cards.len s6.1.1 9 fun b10 o11 =>
LD T_G_api_Card H4 b10 o11 fun (x12 : G_api_Card) =>
CALL P [T_G_api_Card] n_kit_CopyCard [(T_G_api_Card.enc x9)] H4 fun (x13 : G_api_Card × Unit) H5 =>
REQ ((some (.slice a0.Cards.p a0.Cards.len a0.Cards.cap) : Option Value) = some (.slice a0.Cards.p a0.Cards.len a0.Cards.cap)) (
LD T_G_api_Card H5 b10 o11 fun (x14 : G_api_Card) =>
REQ (T_G_api_Card.enc x14 = (T_G_api_Card.enc x12)) (
CALL P [(T_int .i64)] n_book_Book_Card [(.pointer x1.1), (T_G_api_Card.enc x13.1)] H5 fun (x15 : Int × Unit) H6 =>
REQ ((some (.slice a0.Cards.p a0.Cards.len a0.Cards.cap) : Option Value) = some (.slice a0.Cards.p a0.Cards.len a0.Cards.cap)) (
LD T_G_api_Card H6 b10 o11 fun (x16 : G_api_Card) =>
REQ (T_G_api_Card.enc x16 = (T_G_api_Card.enc x12)) (
CALL P [T_G_api_Card] n_kit_CopyCard [(T_G_api_Card.enc x12)] H6 fun (x17 : G_api_Card × Unit) H7 =>
CALL P [(T_int .i64)] n_ref07_Book_Card [(.pointer x2.1), (T_G_api_Card.enc x17.1)] H7 fun (x18 : Int × Unit) H8 =>
ifB (x15.1 != x18.1) (
Q (x1.1, x2.1, false, ()) H8) (
r5 ((IntKind.wrap .i64 (s6.1.1 + 1), ()), (())) H8)))))) (
j3 ((()), (())) H4)) ((0, ()), (())) H2) fun (y4 : (Unit) × (Unit)) H3 =>
JOIN (fun (j19 : (Unit) × (Unit) -> Heap -> Prop) =>
LOOP (fun (r21 : (Int × Unit) × (Unit) -> Heap -> Prop) (s22 : (Int × Unit) × (Unit)) H10 =>
ifB (decide (s22.1.1 < (a0.Marks.len : Int))) (
IDX a0.Marks.p a0.Marks.len s22.1.1 4 fun b23 o24 =>
LD T_G_api_MarkInfo H10 b23 o24 fun (x25 : G_api_MarkInfo) =>
IDX a0.Marks.p a0.Marks.len s22.1.1 4 fun b26 o27 =>
LD T_G_api_MarkInfo H10 b26 o27 fun (x28 : G_api_MarkInfo) =>
CALL P [(T_int .i64)] n_book_Book_Mark [(.pointer x1.1), (T_G_api_MarkInfo.enc x25)] H10 fun (x29 : Int × Unit) H11 =>
REQ ((some (.slice a0.Marks.p a0.Marks.len a0.Marks.cap) : Option Value) = some (.slice a0.Marks.p a0.Marks.len a0.Marks.cap)) (
LD T_G_api_MarkInfo H11 b26 o27 fun (x30 : G_api_MarkInfo) =>
REQ (T_G_api_MarkInfo.enc x30 = (T_G_api_MarkInfo.enc x28)) (
CALL P [(T_int .i64)] n_ref07_Book_Mark [(.pointer x2.1), (T_G_api_MarkInfo.enc x28)] H11 fun (x31 : Int × Unit) H12 =>
ifB (x29.1 != x31.1) (
Q (x1.1, x2.1, false, ()) H12) (
r21 ((IntKind.wrap .i64 (s22.1.1 + 1), ()), (())) H12)))) (
j19 ((()), (())) H10)) ((0, ()), (())) H3) fun (y20 : (Unit) × (Unit)) H9 =>
JOIN (fun (j32 : (Bool × Unit) × (Unit) -> Heap -> Prop) =>
ifB (!a0.Open) (
CALL P [(T_int .i64)] n_book_Book_Seal [(.pointer x1.1)] H9 fun (x34 : Int × Unit) H14 =>
CALL P [(T_int .i64)] n_ref07_Book_Seal [(.pointer x2.1)] H14 fun (x35 : Int × Unit) H15 =>
j32 ((x34.1 != x35.1, ()), (())) H15) (
j32 ((false, ()), (())) H9)) fun (y33 : (Bool × Unit) × (Unit)) H13 =>
ifB y33.1.1 (
Q (x1.1, x2.1, false, ()) H13) (
CALL P [T_bool] n_book_Book_Sealed [(.pointer x1.1)] H13 fun (x36 : Bool × Unit) H16 =>
CALL P [T_bool] n_ref07_Book_Sealed [(.pointer x2.1)] H16 fun (x37 : Bool × Unit) H17 =>
Q (x1.1, x2.1, (x36.1 == x37.1), ()) H17)
def h_kit_Books : Hnt := (.seq .leaf (.seq .leaf (.seq (.seq .leaf (.blk (some ⟨[], [], [2, 3, 4, 7, 11, 12, 13, 14, 15, 16, 17, 18, 19, 20, 21, 22, 23, 24, 25, 26, 27, 28, 29, 30, 31, 32, 33, 34, 35, 36]⟩) (.loop ⟨[(7, (T_int .i64))], [], [2, 3, 4, 11, 12, 13, 14, 15, 16, 17, 18, 19, 20, 21, 22, 23, 24, 25, 26, 27, 28, 29, 30, 31, 32, 33, 34, 35, 36]⟩ .leaf))) (.seq (.seq .leaf (.blk (some ⟨[], [], [2, 3, 4, 8, 37, 38, 39, 40, 41, 42, 43, 44, 45, 46, 47, 48, 49, 50, 51, 52, 53, 54, 55, 56, 57, 58, 59, 60]⟩) (.loop ⟨[(8, (T_int .i64))], [], [2, 3, 4, 37, 38, 39, 40, 41, 42, 43, 44, 45, 46, 47, 48, 49, 50, 51, 52, 53, 54, 55, 56, 57, 58, 59, 60]⟩ .leaf))) (.seq (.seq (.reg ⟨[(70, T_bool)], [], [61, 62, 63, 64, 65, 66, 67, 68, 69]⟩) .leaf) .leaf)))))
theorem e_kit_Books (a0 : G_kit_Fill) (H : Heap) (Q : (Option Addr) × (Option Addr) × Bool × Unit -> Heap -> Prop) : S_kit_Books a0 H Q = cFn C [1] Tryz.f10.ntmps Tryz.f10.results.toList [T_ptr, T_ptr, T_bool] (bodyOf Tryz.f10) h_kit_Books [(T_G_kit_Fill.enc a0)] H Q := by kernel_rfl
theorem c_kit_Books {a0 : G_kit_Fill} {H : Heap} {Q : (Option Addr) × (Option Addr) × Bool × Unit -> Heap -> Prop} (h : S_kit_Books a0 H Q) : CALL P [T_ptr, T_ptr, T_bool] n_kit_Books [(T_G_kit_Fill.enc a0)] H Q := call_print hE Tryz.func10 rfl (by kernel_rfl) (e_kit_Books a0 H Q) h
def S_law19_heavy (a0 : G_kit_Fill) (a1 : G_law19_Table) (H : Heap) (Q : Bool × Unit -> Heap -> Prop) : Prop :=
JOIN (fun (j1 : (Bool × Unit) × (Unit) -> Heap -> Prop) =>
ifB (decide ((a0.Cards.len : Int) > 80)) (
j1 ((true, ()), (())) H) (
ifB (decide ((a0.Marks.len : Int) > 20)) (
j1 ((true, ()), (())) H) (
ifB (decide ((a1.Things.len : Int) > 2100)) (
j1 ((true, ()), (())) H) (
j1 ((decide ((a1.Fs.len : Int) > 2100), ()), (())) H)))) fun (y2 : (Bool × Unit) × (Unit)) H1 =>
Q (y2.1.1, ()) H1
def h_law19_heavy : Hnt := (.seq .leaf (.seq (.reg ⟨[(4, T_bool)], [], [5, 6, 7, 8, 9, 10, 11, 12, 13, 14, 15, 16, 17, 18, 19, 20, 21, 22, 23, 24, 25, 26]⟩) .leaf))
theorem e_law19_heavy (a0 : G_kit_Fill) (a1 : G_law19_Table) (H : Heap) (Q : Bool × Unit -> Heap -> Prop) : S_law19_heavy a0 a1 H Q = cFn C [2, 3] Tryz.f27.ntmps Tryz.f27.results.toList [T_bool] (bodyOf Tryz.f27) h_law19_heavy [(T_G_kit_Fill.enc a0), (T_G_law19_Table.enc a1)] H Q := by kernel_rfl
theorem c_law19_heavy {a0 : G_kit_Fill} {a1 : G_law19_Table} {H : Heap} {Q : Bool × Unit -> Heap -> Prop} (h : S_law19_heavy a0 a1 H Q) : CALL P [T_bool] n_law19_heavy [(T_G_kit_Fill.enc a0), (T_G_law19_Table.enc a1)] H Q := call_print hE Tryz.func27 rfl (by kernel_rfl) (e_law19_heavy a0 a1 H Q) h
def S_kit_Pick (a0 : Int) (a1 : Int) (H : Heap) (Q : Int × Unit -> Heap -> Prop) : Prop :=
ifB (decide (a1 < 1)) (
Q (0, ()) H) (
REQ (a1 ≠ 0) (
JOIN (fun (j1 : (Int × Unit) × (Unit) -> Heap -> Prop) =>
ifB (decide ((Int.tmod a0 a1) < 0)) (
j1 ((IntKind.wrap .i64 ((Int.tmod a0 a1) + a1), ()), (())) H) (
j1 ((Int.tmod a0 a1, ()), (())) H)) fun (y2 : (Int × Unit) × (Unit)) H1 =>
Q (y2.1.1, ()) H1))
def h_kit_Pick : Hnt := (.seq .leaf (.seq .leaf (.seq .leaf (.seq (.seq .leaf (.cond (some ⟨[(0, (T_int .i64))], [], [12, 13, 14]⟩) .leaf .leaf)) .leaf))))
theorem e_kit_Pick (a0 : Int) (a1 : Int) (H : Heap) (Q : Int × Unit -> Heap -> Prop) : S_kit_Pick a0 a1 H Q = cFn C [] Tryz.f28.ntmps Tryz.f28.results.toList [(T_int .i64)] (bodyOf Tryz.f28) h_kit_Pick [(.int .i64 a0), (.int .i64 a1)] H Q := by kernel_rfl
theorem c_kit_Pick {a0 : Int} {a1 : Int} {H : Heap} {Q : Int × Unit -> Heap -> Prop} (h : S_kit_Pick a0 a1 H Q) : CALL P [(T_int .i64)] n_kit_Pick [(.int .i64 a0), (.int .i64 a1)] H Q := call_print hE Tryz.func28 rfl (by kernel_rfl) (e_kit_Pick a0 a1 H Q) h
def S_kit_CopyThings (a0 : Sl) (H : Heap) (Q : Sl × Unit -> Heap -> Prop) : Prop :=
APP T_sl (lenV ((Sl.mk none 0 0)).v + (lenX a0.v).getD 0) (aAppendE E [26, 26] ((Sl.mk none 0 0)).v a0.v H) fun (x1 : Sl) H1 =>
Q (x1, ()) H1
def h_kit_CopyThings : Hnt := .leaf
theorem e_kit_CopyThings (a0 : Sl) (H : Heap) (Q : Sl × Unit -> Heap -> Prop) : S_kit_CopyThings a0 H Q = cFn C [] Tryz.f29.ntmps Tryz.f29.results.toList [T_sl] (bodyOf Tryz.f29) h_kit_CopyThings [a0.v] H Q := by kernel_rfl
theorem c_kit_CopyThings {a0 : Sl} {H : Heap} {Q : Sl × Unit -> Heap -> Prop} (h : S_kit_CopyThings a0 H Q) : CALL P [T_sl] n_kit_CopyThings [a0.v] H Q := call_print hE Tryz.func29 rfl (by kernel_rfl) (e_kit_CopyThings a0 H Q) h
def S_layer_All (a0 : Option Addr) (a1 : Sl) (a2 : Sl) (a3 : Int) (H : Heap) (Q : Sl × Sl × Int × Unit -> Heap -> Prop) : Prop :=
CALL P [T_sl, (T_int .i64)] n_layer_Effects [(.pointer a0), a1.v, a2.v, (.int .i64 a3)] H fun (x1 : Sl × Int × Unit) H1 =>
ifB (x1.2.1 != 0) (
Q ((Sl.mk none 0 0), (Sl.mk none 0 0), x1.2.1, ()) H1) (
CALL P [T_G_layer_place, (T_int .i64)] n_layer_setup [(.pointer a0), a1.v, a2.v] H1 fun (x2 : G_layer_place × Int × Unit) H2 =>
CALL P [T_sl] n_slices_Clone_api_Feature_api_Feature [a2.v] H2 fun (x3 : Sl × Unit) H3 =>
JOIN (fun (j4 : (Sl × Sl × Unit) × (Unit) -> Heap -> Prop) =>
LOOP (fun (r6 : (Sl × Sl × Sl × Unit) × (Unit) -> Heap -> Prop) (s7 : (Sl × Sl × Sl × Unit) × (Unit)) H5 =>
ifB (decide ((s7.1.1.len : Int) > 0)) (
CALL P [(T_int .i64)] n_layer_place_next [(T_G_layer_place.enc x2.1), s7.1.2.1.v, s7.1.1.v] H5 fun (x8 : Int × Unit) H6 =>
IDX s7.1.1.p s7.1.1.len x8.1 10 fun b9 o10 =>
LD T_G_api_Standing H6 b9 o10 fun (x11 : G_api_Standing) =>
CALL P [T_sl] n_layer_place_apply [(T_G_layer_place.enc x2.1), s7.1.2.1.v, (T_G_api_Standing.enc x11)] H6 fun (x12 : Sl × Unit) H7 =>
IDX s7.1.1.p s7.1.1.len x8.1 10 fun b13 o14 =>
LD T_G_api_Standing H7 b13 o14 fun (x15 : G_api_Standing) =>
APP T_sl (lenV s7.1.2.2.1.v + 1) (aAppE E [66, 66] s7.1.2.2.1.v 1 (T_G_api_Standing.cells x15) H7) fun (x16 : Sl) H8 =>
CALL P [T_sl] n_slices_Clone_api_Standing_api_Standing [s7.1.1.v] H8 fun (x17 : Sl × Unit) H9 =>
CALL P [T_sl] n_slices_Delete_api_Standing_api_Standing [x17.1.v, (.int .i64 x8.1), (.int .i64 (IntKind.wrap .i64 (x8.1 + 1)))] H9 fun (x18 : Sl × Unit) H10 =>
r6 ((x18.1, x12.1, x16, ()), (())) H10) (
j4 ((s7.1.2.1, s7.1.2.2.1, ()), (())) H5)) ((x1.1, x3.1, (Sl.mk none 0 0), ()), (())) H3) fun (y5 : (Sl × Sl × Unit) × (Unit)) H4 =>
Q (y5.1.1, y5.1.2.1, 0, ()) H4)
def h_layer_All : Hnt := (.seq .leaf (.seq .leaf (.seq .leaf (.seq .leaf (.seq .leaf (.seq .leaf (.seq (.blk (some ⟨[(15, T_sl), (16, T_sl)], [], [11, 17, 38, 39, 40, 41, 42, 43, 44, 45, 46, 47, 48, 49, 50, 51, 52, 53, 54, 55, 56, 57, 58, 59, 60, 61, 62, 63, 64]⟩) (.loop ⟨[(11, T_sl), (15, T_sl), (16, T_sl)], [], [17, 38, 39, 40, 41, 42, 43, 44, 45, 46, 47, 48, 49, 50, 51, 52, 53, 54, 55, 56, 57, 58, 59, 60, 61, 62, 63, 64]⟩ .leaf)) .leaf)))))))
theorem e_layer_All (a0 : Option Addr) (a1 : Sl) (a2 : Sl) (a3 : Int) (H : Heap) (Q : Sl × Sl × Int × Unit -> Heap -> Prop) : S_layer_All a0 a1 a2 a3 H Q = cFn C [13, 57] Tryz.f30.ntmps Tryz.f30.results.toList [T_sl, T_sl, (T_int .i64)] (bodyOf Tryz.f30) h_layer_All [(.pointer a0), a1.v, a2.v, (.int .i64 a3)] H Q := by kernel_rfl
theorem c_layer_All {a0 : Option Addr} {a1 : Sl} {a2 : Sl} {a3 : Int} {H : Heap} {Q : Sl × Sl × Int × Unit -> Heap -> Prop} (h : S_layer_All a0 a1 a2 a3 H Q) : CALL P [T_sl, T_sl, (T_int .i64)] n_layer_All [(.pointer a0), a1.v, a2.v, (.int .i64 a3)] H Q := call_print hE Tryz.func30 rfl (by kernel_rfl) (e_layer_All a0 a1 a2 a3 H Q) h
def S_kit_SameFeatures (a0 : Sl) (a1 : Sl) (H : Heap) (Q : Bool × Unit -> Heap -> Prop) : Prop :=
ifB ((a0.len : Int) != (a1.len : Int)) (
Q (false, ()) H) (
JOIN (fun (j1 : (Unit) × (Unit) -> Heap -> Prop) =>
LOOP (fun (r3 : (Int × Unit) × (Unit) -> Heap -> Prop) (s4 : (Int × Unit) × (Unit)) H2 =>
ifB (decide (s4.1.1 < (a0.len : Int))) (
IDX a0.p a0.len s4.1.1 5 fun b5 o6 =>
LD T_G_api_Feature H2 b5 o6 fun (x7 : G_api_Feature) =>
IDX a1.p a1.len s4.1.1 5 fun b8 o9 =>
LD T_G_api_Feature H2 b8 o9 fun (x10 : G_api_Feature) =>
ifB (!((x7.Holder == x10.Holder) && ((x7.Suit == x10.Suit) && ((x7.Traits == x10.Traits) && ((x7.Power == x10.Power) && ((x7.Health == x10.Health) && true)))))) (
Q (false, ()) H2) (
r3 ((IntKind.wrap .i64 (s4.1.1 + 1), ()), (())) H2)) (
j1 ((()), (())) H2)) ((0, ()), (())) H) fun (y2 : (Unit) × (Unit)) H1 =>
Q (true, ()) H1)
def h_kit_SameFeatures : Hnt := (.seq .leaf (.seq .leaf (.seq (.seq .leaf (.blk (some ⟨[], [], [4, 5, 11, 12, 13, 14, 15, 16, 17, 18, 19, 20, 21, 22, 23, 24, 25]⟩) (.loop ⟨[(5, (T_int .i64))], [], [4, 11, 12, 13, 14, 15, 16, 17, 18, 19, 20, 21, 22, 23, 24, 25]⟩ .leaf))) .leaf)))
theorem e_kit_SameFeatures (a0 : Sl) (a1 : Sl) (H : Heap) (Q : Bool × Unit -> Heap -> Prop) : S_kit_SameFeatures a0 a1 H Q = cFn C [] Tryz.f31.ntmps Tryz.f31.results.toList [T_bool] (bodyOf Tryz.f31) h_kit_SameFeatures [a0.v, a1.v] H Q := by kernel_rfl
theorem c_kit_SameFeatures {a0 : Sl} {a1 : Sl} {H : Heap} {Q : Bool × Unit -> Heap -> Prop} (h : S_kit_SameFeatures a0 a1 H Q) : CALL P [T_bool] n_kit_SameFeatures [a0.v, a1.v] H Q := call_print hE Tryz.func31 rfl (by kernel_rfl) (e_kit_SameFeatures a0 a1 H Q) h
def S_kit_SameStandings (a0 : Sl) (a1 : Sl) (H : Heap) (Q : Bool × Unit -> Heap -> Prop) : Prop :=
ifB ((a0.len : Int) != (a1.len : Int)) (
Q (false, ()) H) (
JOIN (fun (j1 : (Unit) × (Unit) -> Heap -> Prop) =>
LOOP (fun (r3 : (Int × Unit) × (Unit) -> Heap -> Prop) (s4 : (Int × Unit) × (Unit)) H2 =>
ifB (decide (s4.1.1 < (a0.len : Int))) (
IDX a0.p a0.len s4.1.1 10 fun b5 o6 =>
LD T_G_api_Standing H2 b5 o6 fun (x7 : G_api_Standing) =>
IDX a1.p a1.len s4.1.1 10 fun b8 o9 =>
LD T_G_api_Standing H2 b8 o9 fun (x10 : G_api_Standing) =>
ifB (!((x7.Thing == x10.Thing) && ((x7.Place == x10.Place) && (((x7.What.When == x10.What.When) && ((x7.What.Verb == x10.What.Verb) && ((x7.What.Whom == x10.What.Whom) && ((x7.What.Count == x10.What.Count) && ((x7.What.Suit == x10.What.Suit) && ((x7.What.Trait == x10.What.Trait) && ((x7.What.Mark == x10.What.Mark) && ((x7.What.Name.toList == x10.What.Name.toList) && true)))))))) && true)))) (
Q (false, ()) H2) (
r3 ((IntKind.wrap .i64 (s4.1.1 + 1), ()), (())) H2)) (
j1 ((()), (())) H2)) ((0, ()), (())) H) fun (y2 : (Unit) × (Unit)) H1 =>
Q (true, ()) H1)
def h_kit_SameStandings : Hnt := (.seq .leaf (.seq .leaf (.seq (.seq .leaf (.blk (some ⟨[], [], [4, 5, 11, 12, 13, 14, 15, 16, 17, 18, 19, 20, 21, 22, 23, 24, 25]⟩) (.loop ⟨[(5, (T_int .i64))], [], [4, 11, 12, 13, 14, 15, 16, 17, 18, 19, 20, 21, 22, 23, 24, 25]⟩ .leaf))) .leaf)))
theorem e_kit_SameStandings (a0 : Sl) (a1 : Sl) (H : Heap) (Q : Bool × Unit -> Heap -> Prop) : S_kit_SameStandings a0 a1 H Q = cFn C [] Tryz.f32.ntmps Tryz.f32.results.toList [T_bool] (bodyOf Tryz.f32) h_kit_SameStandings [a0.v, a1.v] H Q := by kernel_rfl
theorem c_kit_SameStandings {a0 : Sl} {a1 : Sl} {H : Heap} {Q : Bool × Unit -> Heap -> Prop} (h : S_kit_SameStandings a0 a1 H Q) : CALL P [T_bool] n_kit_SameStandings [a0.v, a1.v] H Q := call_print hE Tryz.func32 rfl (by kernel_rfl) (e_kit_SameStandings a0 a1 H Q) h
def S_layer_Effects (a0 : Option Addr) (a1 : Sl) (a2 : Sl) (a3 : Int) (H : Heap) (Q : Sl × Int × Unit -> Heap -> Prop) : Prop :=
CALL P [T_G_layer_place, (T_int .i64)] n_layer_setup [(.pointer a0), a1.v, a2.v] H fun (x1 : G_layer_place × Int × Unit) H1 =>
ifB (x1.2.1 != 0) (
Q ((Sl.mk none 0 0), x1.2.1, ()) H1) (
JOIN (fun (j2 : (Bool × Unit) × (Unit) -> Heap -> Prop) =>
ifB (decide (a3 < 1)) (
j2 ((true, ()), (())) H1) (
j2 ((decide (a3 > 5), ()), (())) H1)) fun (y3 : (Bool × Unit) × (Unit)) H2 =>
ifB y3.1.1 (
Q ((Sl.mk none 0 0), 2, ()) H2) (
CALL P [T_sl] n_layer_place_effects [(T_G_layer_place.enc x1.1), a2.v, (.int .i64 a3)] H2 fun (x4 : Sl × Unit) H3 =>
Q (x4.1, 0, ()) H3))
def h_layer_Effects : Hnt := (.seq .leaf (.seq .leaf (.seq (.blk none (.seq .leaf (.cond none .leaf (.seq (.reg ⟨[(23, T_bool)], [], [24, 25, 26, 27, 28, 29]⟩) .leaf)))) .leaf)))
theorem e_layer_Effects (a0 : Option Addr) (a1 : Sl) (a2 : Sl) (a3 : Int) (H : Heap) (Q : Sl × Int × Unit -> Heap -> Prop) : S_layer_Effects a0 a1 a2 a3 H Q = cFn C [10] Tryz.f33.ntmps Tryz.f33.results.toList [T_sl, (T_int .i64)] (bodyOf Tryz.f33) h_layer_Effects [(.pointer a0), a1.v, a2.v, (.int .i64 a3)] H Q := by kernel_rfl
theorem c_layer_Effects {a0 : Option Addr} {a1 : Sl} {a2 : Sl} {a3 : Int} {H : Heap} {Q : Sl × Int × Unit -> Heap -> Prop} (h : S_layer_Effects a0 a1 a2 a3 H Q) : CALL P [T_sl, (T_int .i64)] n_layer_Effects [(.pointer a0), a1.v, a2.v, (.int .i64 a3)] H Q := call_print hE Tryz.func33 rfl (by kernel_rfl) (e_layer_Effects a0 a1 a2 a3 H Q) h
def S_kit_CopyFeatures (a0 : Sl) (H : Heap) (Q : Sl × Unit -> Heap -> Prop) : Prop :=
APP T_sl (lenV ((Sl.mk none 0 0)).v + (lenX a0.v).getD 0) (aAppendE E [27, 27] ((Sl.mk none 0 0)).v a0.v H) fun (x1 : Sl) H1 =>
Q (x1, ()) H1
def h_kit_CopyFeatures : Hnt := .leaf
theorem e_kit_CopyFeatures (a0 : Sl) (H : Heap) (Q : Sl × Unit -> Heap -> Prop) : S_kit_CopyFeatures a0 H Q = cFn C [] Tryz.f37.ntmps Tryz.f37.results.toList [T_sl] (bodyOf Tryz.f37) h_kit_CopyFeatures [a0.v] H Q := by kernel_rfl
theorem c_kit_CopyFeatures {a0 : Sl} {H : Heap} {Q : Sl × Unit -> Heap -> Prop} (h : S_kit_CopyFeatures a0 H Q) : CALL P [T_sl] n_kit_CopyFeatures [a0.v] H Q := call_print hE Tryz.func37 rfl (by kernel_rfl) (e_kit_CopyFeatures a0 H Q) h
def S_effect_Layer (a0 : Int) (H : Heap) (Q : Int × Unit -> Heap -> Prop) : Prop :=
ifB (a0 == 10) (
Q (1, ()) H) (
ifB (a0 == 11) (
Q (2, ()) H) (
JOIN (fun (j1 : (Bool × Unit) × (Unit) -> Heap -> Prop) =>
ifB (a0 == 12) (
j1 ((a0 == 12, ()), (())) H) (
j1 ((a0 == 13, ()), (())) H)) fun (y2 : (Bool × Unit) × (Unit)) H1 =>
ifB y2.1.1 (
Q (3, ()) H1) (
ifB (a0 == 14) (
Q (4, ()) H1) (
ifB (a0 == 15) (
Q (5, ()) H1) (
Q (0, ()) H1)))))
def h_effect_Layer : Hnt := (.seq .leaf (.seq (.seq .leaf (.blk none (.seq .leaf (.cond none .leaf (.seq .leaf (.cond none .leaf (.seq (.seq .leaf (.cond (some ⟨[(8, T_bool)], [], [10]⟩) .leaf .leaf)) .leaf))))))) .leaf))
theorem e_effect_Layer (a0 : Int) (H : Heap) (Q : Int × Unit -> Heap -> Prop) : S_effect_Layer a0 H Q = cFn C [] Tryz.f39.ntmps Tryz.f39.results.toList [(T_int .i64)] (bodyOf Tryz.f39) h_effect_Layer [(.int .u8 a0)] H Q := by kernel_rfl
theorem c_effect_Layer {a0 : Int} {H : Heap} {Q : Int × Unit -> Heap -> Prop} (h : S_effect_Layer a0 H Q) : CALL P [(T_int .i64)] n_effect_Layer [(.int .u8 a0)] H Q := call_print hE Tryz.func39 rfl (by kernel_rfl) (e_effect_Layer a0 H Q) h
def S_kit_CopyStandings (a0 : Sl) (H : Heap) (Q : Sl × Unit -> Heap -> Prop) : Prop :=
APP T_sl (lenV ((Sl.mk none 0 0)).v + (lenX a0.v).getD 0) (aAppendE E [66, 66] ((Sl.mk none 0 0)).v a0.v H) fun (x1 : Sl) H1 =>
Q (x1, ()) H1
def h_kit_CopyStandings : Hnt := .leaf
theorem e_kit_CopyStandings (a0 : Sl) (H : Heap) (Q : Sl × Unit -> Heap -> Prop) : S_kit_CopyStandings a0 H Q = cFn C [] Tryz.f46.ntmps Tryz.f46.results.toList [T_sl] (bodyOf Tryz.f46) h_kit_CopyStandings [a0.v] H Q := by kernel_rfl
theorem c_kit_CopyStandings {a0 : Sl} {H : Heap} {Q : Sl × Unit -> Heap -> Prop} (h : S_kit_CopyStandings a0 H Q) : CALL P [T_sl] n_kit_CopyStandings [a0.v] H Q := call_print hE Tryz.func46 rfl (by kernel_rfl) (e_kit_CopyStandings a0 H Q) h
end Zv
end Go.Proofs.YtolekmhhkopooaaGreatDoor
end
