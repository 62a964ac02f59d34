/- Part 8 of the proof of LayerAll: what its row stands on (lemmas about the model, the evaluator, contracts of functions), put together and cut to what is used. -/
import Derived.Test.YtolekmhhkopooaaGreatDoorKLayerAll7
section
namespace Go.Proofs.YtolekmhhkopooaaGreatDoor.Zq
open Zv
section
variable {H : Heap} {a b m m' : Nat} {se : Bool} {B : List Cd} {ms : List G_api_MarkInfo} {a1 a2 a3 b1 b2 b3 : Sl} {ts : List Tg} {fs : List Ft} {ol : List Int} {l : List Sg} {s o : Sg}
theorem about2 (p : BP m H a se B ms) (r : BD m' H b se B ms) (okB : OkB B) (gv : Gv H a1 a2 ts fs) (hs : SlF TT' H b1 ts) (hf : SlF TF H b2 fs) {Q : Sl × Int × Unit -> Sl × Int × Unit -> Heap -> Prop}
  (hq : ∀ x y e l sp sq H', l.length ≤ 16 -> NewO TN' H x H' l sp -> NewO TN' H y H' l sq -> Q (x, e, ()) (y, e, ()) H') :
  CALL P [T_sl, TN'] n_layer_About [.pointer (some ⟨a, 0, none⟩), a1.v, a2.v, TSt.enc s] H fun x H1 => CALL P [T_sl, TN'] n_ref19_About [.pointer (some ⟨b, 0, none⟩), b1.v, b2.v, TSt.enc s] H1 fun y H2 => Q x y H2 := by
 refine laAbout_c p okB gv (fun H1 e f => ?_) (fun H1 e hm f => ?_) (fun x ol H1 sp e ot hm n1 => ?_)
 ·exact r19About_c (r.new f) okB (hs.frs f (by simp)) (hf.frs f (by simp)) (fun H2 _ f2 => hq _ _ _ [] [] [] _ (by simp) ((NewO.nil' TN' H2).older (f.trans f2)) ((NewO.nil' TN' H2).older (f.trans f2))) (fun _ e' _ _ => absurd e' e) (fun _ _ _ _ e' => absurd e' e)
 ·exact r19About_c (r.new f) okB (hs.frs f (by simp)) (hf.frs f (by simp)) (fun _ e' _ => absurd e e') (fun H2 _ _ f2 => hq _ _ _ [] [] [] _ (by simp) ((NewO.nil' TN' H2).older (f.trans f2)) ((NewO.nil' TN' H2).older (f.trans f2))) (fun _ _ _ _ _ _ w => absurd w hm)
 ·have f := n1.2.2
  refine r19About_c (r.new f) okB (hs.frs f (by simp)) (hf.frs f (by simp)) (fun _ e' _ => absurd e e') (fun _ _ w _ => absurd hm w) fun y ol' H2 sq _ ot' _ n2 => ?_
  have := ot'.uniq ot; subst this
  exact hq _ _ _ _ _ _ _ (by have := abouts_len B ts fs ol' s; have := ot.few; omega) (n1.new n2.2.2) (n2.older f)
theorem apply2 (p : BP m H a se B ms) (r : BD m' H b se B ms) (okB : OkB B) (gv : Gv H a1 a2 ts fs) (hs : SlF TT' H b1 ts) (hf : SlF TF H b2 fs) {Q : Sl × Int × Unit -> Sl × Int × Unit -> Heap -> Prop}
  (hq : ∀ x y e l sp sq H', l.length ≤ 2048 -> NewO TF H x H' l sp -> NewO TF H y H' l sq -> Q (x, e, ()) (y, e, ()) H') :
  CALL P [T_sl, TN'] n_layer_Apply [.pointer (some ⟨a, 0, none⟩), a1.v, a2.v, TSt.enc s] H fun x H1 => CALL P [T_sl, TN'] n_ref19_Apply [.pointer (some ⟨b, 0, none⟩), b1.v, b2.v, TSt.enc s] H1 fun y H2 => Q x y H2 := by
 refine laApply_c p okB gv (fun H1 e f => ?_) (fun H1 e hm f => ?_) (fun x ol H1 sp e ot hm n1 => ?_)
 ·exact r19Apply_c (r.new f) okB (hs.frs f (by simp)) (hf.frs f (by simp)) (fun H2 _ f2 => hq _ _ _ [] [] [] _ (by simp) ((NewO.nil' TF H2).older (f.trans f2)) ((NewO.nil' TF H2).older (f.trans f2))) (fun _ e' _ _ => absurd e' e) (fun _ _ _ _ e' => absurd e' e)
 ·exact r19Apply_c (r.new f) okB (hs.frs f (by simp)) (hf.frs f (by simp)) (fun _ e' _ => absurd e e') (fun H2 _ _ f2 => hq _ _ _ [] [] [] _ (by simp) ((NewO.nil' TF H2).older (f.trans f2)) ((NewO.nil' TF H2).older (f.trans f2))) (fun _ _ _ _ _ _ w => absurd w hm)
 ·have f := n1.2.2
  refine r19Apply_c (r.new f) okB (hs.frs f (by simp)) (hf.frs f (by simp)) (fun _ e' _ => absurd e e') (fun _ _ w _ => absurd hm w) fun y ol' H2 sq _ ot' _ n2 => ?_
  have := ot'.uniq ot; subst this
  obtain ⟨_, h2, h3, _⟩ := setE_ok (e := e)
  exact hq _ _ _ _ _ _ _ (by rw [applyF_len]; omega) (n1.new n2.2.2) (n2.older f)
theorem depends2 (p : BP m H a se B ms) (r : BD m' H b se B ms) (okB : OkB B) (gv : Gv H a1 a2 ts fs) (hs : SlF TT' H b1 ts) (hf : SlF TF H b2 fs) {Q : Bool × Int × Unit -> Bool × Int × Unit -> Heap -> Prop}
  (hq : ∀ x e H', Frs [] H H' -> Q (x, e, ()) (x, e, ()) H') :
  CALL P [T_bool, TN'] n_layer_Depends [.pointer (some ⟨a, 0, none⟩), a1.v, a2.v, TSt.enc s, TSt.enc o] H fun x H1 => CALL P [T_bool, TN'] n_ref19_Depends [.pointer (some ⟨b, 0, none⟩), b1.v, b2.v, TSt.enc s, TSt.enc o] H1 fun y H2 => Q x y H2 := by
 refine laDepends_c p okB gv (fun H1 e f => ?_) (fun H1 e hm f => ?_) (fun ol H1 e ot hm f => ?_)
 ·exact r19Depends_c (r.new f) okB (hs.frs f (by simp)) (hf.frs f (by simp)) (fun H2 _ f2 => hq _ _ _ (f.trans f2)) (fun _ e' _ _ => absurd e' e) (fun _ _ e' => absurd e' e)
 ·exact r19Depends_c (r.new f) okB (hs.frs f (by simp)) (hf.frs f (by simp)) (fun _ e' _ => absurd e e') (fun H2 _ _ f2 => hq _ _ _ (f.trans f2)) (fun _ _ _ _ w => absurd w hm)
 ·refine r19Depends_c (r.new f) okB (hs.frs f (by simp)) (hf.frs f (by simp)) (fun _ e' _ => absurd e e') (fun _ _ w _ => absurd hm w) fun ol' H2 _ ot' _ f2 => ?_
  have := ot'.uniq ot; subst this
  exact hq _ _ _ (f.trans f2)
theorem next2 (p : BP m H a se B ms) (r : BD m' H b se B ms) (okB : OkB B) (gv : Gv H a1 a2 ts fs) (hs : SlF TT' H b1 ts) (hf : SlF TF H b2 fs) (hl : OwJ TSt H a3 l) (hl' : SlF TSt H b3 l) (hll : l.length ≤ 1048600) {Q : Int × Int × Unit -> Int × Int × Unit -> Heap -> Prop}
  (hq : ∀ x e H', Frs [] H H' -> Q (x, e, ()) (x, e, ()) H') :
  CALL P [TN', TN'] n_layer_Next [.pointer (some ⟨a, 0, none⟩), a1.v, a2.v, a3.v] H fun x H1 => CALL P [TN', TN'] n_ref19_Next [.pointer (some ⟨b, 0, none⟩), b1.v, b2.v, b3.v] H1 fun y H2 => Q x y H2 := by
 refine laNext_c p okB gv hl hll (fun H1 e f => ?_) (fun H1 e hm f => ?_) (fun ol H1 e ot hm f => ?_)
 ·exact r19Next_c (r.new f) okB (hs.frs f (by simp)) (hf.frs f (by simp)) (hl'.frs f (by simp)) (fun H2 _ f2 => hq _ _ _ (f.trans f2)) (fun _ e' _ _ => absurd e' e) (fun _ _ e' => absurd e' e)
 ·exact r19Next_c (r.new f) okB (hs.frs f (by simp)) (hf.frs f (by simp)) (hl'.frs f (by simp)) (fun _ e' _ => absurd e e') (fun H2 _ _ f2 => hq _ _ _ (f.trans f2)) (fun _ _ _ _ w => absurd w hm)
 ·refine r19Next_c (r.new f) okB (hs.frs f (by simp)) (hf.frs f (by simp)) (hl'.frs f (by simp)) (fun _ e' _ => absurd e e') (fun _ _ w _ => absurd hm w) fun ol' H2 _ ot' _ f2 => ?_
  have := ot'.uniq ot; subst this
  exact hq _ _ _ (f.trans f2)
theorem effects2 (p : BP m H a se B ms) (r : BD m' H b se B ms) (okB : OkB B) (gv : Gv H a1 a2 ts fs) (hs : SlF TT' H b1 ts) (hf : SlF TF H b2 fs) {k : Int} {Q : Sl × Int × Unit -> Sl × Int × Unit -> Heap -> Prop}
  (hq : ∀ x y e l sp sq H', l.length ≤ 64 -> NewO TSt H x H' l sp -> NewO TSt H y H' l sq -> Q (x, e, ()) (y, e, ()) H') :
  CALL P [T_sl, TN'] n_layer_Effects [.pointer (some ⟨a, 0, none⟩), a1.v, a2.v, .int .i64 k] H fun x H1 => CALL P [T_sl, TN'] n_ref19_Effects [.pointer (some ⟨b, 0, none⟩), b1.v, b2.v, .int .i64 k] H1 fun y H2 => Q x y H2 := by
 refine effects_c p okB gv.s gv.f gv.fl gv.okt gv.okf gv.len (fun H1 e f => ?_) (fun H1 e hm f => ?_) (fun x ol H1 sp e _ k1 k5 ot n1 => ?_)
 ·exact reffects_c (r.new f) okB (hs.frs f (by simp)) (hf.frs f (by simp)) (fun H2 _ f2 => hq _ _ _ [] [] [] _ (by simp) ((NewO.nil' TSt H2).older (f.trans f2)) ((NewO.nil' TSt H2).older (f.trans f2))) (fun _ e' _ _ => absurd e' e) (fun _ _ _ _ e' => absurd e' e)
 ·exact reffects_c (r.new f) okB (hs.frs f (by simp)) (hf.frs f (by simp)) (fun _ e' _ => absurd e e') (fun H2 _ _ f2 => hq _ _ _ [] [] [] _ (by simp) ((NewO.nil' TSt H2).older (f.trans f2)) ((NewO.nil' TSt H2).older (f.trans f2))) (fun _ _ _ _ _ w1 w2 => by omega)
 ·have f := n1.2.2
  refine reffects_c (r.new f) okB (hs.frs f (by simp)) (hf.frs f (by simp)) (fun _ e' _ => absurd e e') (fun _ _ w _ => by omega) fun y ol' H2 sq _ _ _ ot' n2 => ?_
  have := ot'.uniq ot; subst this
  exact hq _ _ _ _ _ _ _ (effs_len ot fs k) (n1.new n2.2.2) (n2.older f)
theorem all2 (p : BP m H a se B ms) (r : BD m' H b se B ms) (okB : OkB B) (gv : Gv H a1 a2 ts fs) (hs : SlF TT' H b1 ts) (hf : SlF TF H b2 fs) {k : Int} {Q : Sl × Sl × Int × Unit -> Sl × Sl × Int × Unit -> Heap -> Prop}
  (hq : ∀ x y u v e l w sx sy su sv H', l.length ≤ 2048 -> w.length ≤ 64 -> NewO TF H x H' l sx -> NewO TSt H y H' w sy -> (∀ d, x.p = some ⟨d, 0, none⟩ -> y.p ≠ some ⟨d, 0, none⟩) -> NewO TF H u H' l su -> NewO TSt H v H' w sv -> Q (x, y, e, ()) (u, v, e, ()) H') :
  CALL P [T_sl, T_sl, TN'] n_layer_All [.pointer (some ⟨a, 0, none⟩), a1.v, a2.v, .int .i64 k] H fun x H1 => CALL P [T_sl, T_sl, TN'] n_ref19_All [.pointer (some ⟨b, 0, none⟩), b1.v, b2.v, .int .i64 k] H1 fun y H2 => Q x y H2 := by
 have nil : ∀ {e : Int} {H1 H2 : Heap}, Frs [] H H1 -> Frs [] H1 H2 -> Q (⟨none, 0, 0⟩, ⟨none, 0, 0⟩, e, ()) (⟨none, 0, 0⟩, ⟨none, 0, 0⟩, e, ()) H2 := fun {e H1 H2} f f2 =>
  hq _ _ _ _ _ [] [] [] [] [] [] _ (by simp) (by simp) ((NewO.nil' TF H2).older (f.trans f2)) ((NewO.nil' TSt H2).older (f.trans f2)) (by simp) ((NewO.nil' TF H2).older (f.trans f2)) ((NewO.nil' TSt H2).older (f.trans f2))
 refine pall_c p okB gv (fun H1 e f => ?_) (fun H1 e hm f => ?_) (fun x y ol H1 sp sr e k1 k5 ot n1 n2 hd => ?_)
 ·exact rall_c (r.new f) okB (hs.frs f (by simp)) (hf.frs f (by simp)) (fun H2 _ f2 => nil f f2) (fun _ e' _ _ => absurd e' e) (fun _ _ _ _ _ _ e' => absurd e' e)
 ·exact rall_c (r.new f) okB (hs.frs f (by simp)) (hf.frs f (by simp)) (fun _ e' _ => absurd e e') (fun H2 _ _ f2 => nil f f2) (fun _ _ _ _ _ _ _ w1 w2 => by omega)
 ·have f := n1.2.2
  refine rall_c (r.new f) okB (hs.frs f (by simp)) (hf.frs f (by simp)) (fun _ e' _ => absurd e e') (fun _ _ w _ => by omega) fun u v ol' H2 su sv _ _ _ ot' n3 n4 _ => ?_
  have := ot'.uniq ot; subst this
  obtain ⟨i1, _, _, i4⟩ := allS_inv B ts ol' fs (effs B ts fs ol' k) (effs B ts fs ol' k).length (Nat.le_refl _)
  obtain ⟨_, h2, h3, _⟩ := setE_ok (e := e)
  have := effs_len ot fs k
  exact hq _ _ _ _ _ _ _ _ _ _ _ _ (by omega) (by omega) (n1.new n3.2.2) (n2.new n3.2.2) hd (n3.older f) (n4.older f)
theorem asked_c' (p : BP m H a se B ms) (r : BD m' H b se B ms) (okB : OkB B) {t w : G_law19_Table} (gv : Gv H w.Things w.Fs ts fs) (hs : SlF TT' H t.Things ts) (hf : SlF TF H t.Fs fs) {Q : Sl × Sl × Bool × Unit -> Heap -> Prop}
  (hq : ∀ x y u v l k sp sq H', NewO TN' H x H' l sp -> NewO TF H y H' k sq -> (∀ d, x.p = some ⟨d, 0, none⟩ -> y.p ≠ some ⟨d, 0, none⟩) -> SlF T_sl H' u [x] -> SlF T_sl H' v [y] -> (∀ d off, v.p = some ⟨d, off, none⟩ -> H.length ≤ d) -> Q (u, v, true, ()) H') :
  CALL P [T_sl, T_sl, T_bool] n_law19_asked [.pointer (some ⟨a, 0, none⟩), .pointer (some ⟨b, 0, none⟩), T_G_law19_Table.enc t, T_G_law19_Table.enc w, TSt.enc s, TSt.enc o] H Q := by
 apply c_law19_asked
 unfold S_law19_asked
 refine about2 p r okB gv hs hf fun x x' e l sp sq H2 hl n1 n1' => ?_
 have f2 := n1.2.2
 refine apply2 (p.new f2) (r.new f2) okB (gv.new f2) (hs.frs f2 (by simp)) (hf.frs f2 (by simp)) fun y y' e2 k su sv H4 hk n2 n2' => ?_
 have f4 := f2.trans n2.2.2
 refine depends2 (p.new f4) (r.new f4) okB (gv.new f4) (hs.frs f4 (by simp)) (hf.frs f4 (by simp)) fun d e3 H6 f6 => ?_
 have g6 := n2.2.2.trans f6
 refine JOIN_inv (fun (z : (Bool × Unit) × Unit) H' => H' = H6 ∧ z.1.1 = true) (fun j hj => ?_) ?_
 ·refine ifB_t (beq_self_eq_true _) (ifB_t (beq_self_eq_true _) (ifB_t (beq_self_eq_true _) (ifB_t (beq_self_eq_true _) ?_)))
  refine KInts.same_c (n1.new g6).1.slf (n1'.new g6).1.slf (by omega) fun r1 hr1 => ?_
  rw [hr1.2 rfl]
  refine ifB_t rfl ?_
  exact KFeatures.same_c (n2.new f6).1.slf (n2'.new f6).1.slf (by omega) fun r2 hr2 => hj _ _ ⟨rfl, hr2.2 rfl⟩
 ·rintro ⟨⟨r1, _⟩, _⟩ H7 ⟨rfl, hr⟩
  simp only at hr; subst hr
  unfold NEW
  obtain ⟨w1, v1, l1⟩ := row1 H7 (fl T_sl [x]) 1
  change Q _ (mk (mk H7 (fl T_sl [x]) 1 false) (fl T_sl [y]) 1 false)
  show Q (⟨some ⟨H7.length, 0, none⟩, 1, 1⟩, ⟨some ⟨(mk H7 (fl T_sl [x]) 1 false).length, 0, none⟩, 1, 1⟩, true, ()) (mk (mk H7 (fl T_sl [x]) 1 false) (fl T_sl [y]) 1 false)
  generalize mk H7 (fl T_sl [x]) 1 false = H8 at w1 v1 l1
  obtain ⟨w2, v2, l2⟩ := row1 H8 (fl T_sl [y]) 1
  generalize mk H8 (fl T_sl [y]) 1 false = H9 at w2 v2 l2
  have g := (g6.trans v1).trans v2
  have f09 := f2.trans g
  have sl : ∀ {z : Sl} {c : Nat} {H' : Heap}, H'[c]? = some (.row (fl T_sl [z]) 1 false false true) -> SlF T_sl H' ⟨some ⟨c, 0, none⟩, 1, 1⟩ [z] := fun {z c H'} h => ⟨rfl, .inr (.inr ⟨c, [], [], _, _, _, rfl, by simpa using h⟩)⟩
  have y9 := (((n2.new f6).new v1).new v2)
  refine hq x y _ _ l k sp su H9 (n1.new g) (y9.older f2) (fun d h1 h2 => ?_) (sl (v2.get (by simp) w1)) (sl w2) (fun d off h => ?_)
  ·have h3 := n2.2.1 d h2
   have h4 := n1.1.lt h1
   omega
  ·cases h
   have := f2.1
   have := g6.1
   have := v1.1
   omega
def Apr (u v : Sl) : Prop := ∀ d, u.p = some ⟨d, 0, none⟩ -> v.p ≠ some ⟨d, 0, none⟩
theorem Apr.symm {u v : Sl} (h : Apr u v) : Apr v u := fun d h1 h2 => h d h2 h1
theorem Ow.fra {T : Tag} {H H' : Heap} {s : Sl} {l sp : List T.α} (h : Ow T H s l sp) {ls : List Sl} (hl : H.length ≤ H'.length) (hf : ∀ d, d < H.length -> (∀ u ∈ ls, u.p ≠ some ⟨d, 0, none⟩) -> H'[d]? = H[d]?) (ap : ∀ u ∈ ls, Apr s u) : Ow T H' s l sp := by
 obtain ⟨g1, g2, g0, g | ⟨c, g3, g4⟩⟩ := h
 ·exact ⟨g1, g2, g0, .inl g⟩
 ·exact ⟨g1, g2, g0, .inr ⟨c, g3, by rw [hf c (get_lt g4) fun u hu => ap u hu c g3]; exact g4⟩⟩
theorem dst_pw {ls : List Sl} (h : ls.Pairwise Apr) (own : ∀ s ∈ ls, ∀ c, s.p = some c -> ∃ d, c = ⟨d, 0, none⟩) : Dst ls := fun i j u v c hij hi hj hu hv => by
 obtain ⟨d, rfl⟩ := own u (List.mem_of_getElem? hi) c hu
 obtain ⟨g1, g2⟩ := List.getElem?_eq_some_iff.1 hi
 obtain ⟨g3, g4⟩ := List.getElem?_eq_some_iff.1 hj
 rw [List.pairwise_iff_getElem] at h
 rcases Nat.lt_or_gt_of_ne hij with w | w
 ·have := h i j g1 g3 w
  rw [g2, g4] at this
  exact this d hu hv
 ·have := h j i g3 g1 w
  rw [g2, g4] at this
  exact this d hv hu
theorem Ow.zero {T : Tag} {H : Heap} {s : Sl} {l sp : List T.α} (h : Ow T H s l sp) : ∀ c, s.p = some c -> ∃ d, c = ⟨d, 0, none⟩ := fun c hc => by
 obtain ⟨_, _, _, ⟨w, _⟩ | ⟨d, w, _⟩⟩ := h
 ·rw [hc] at w; cases w
 ·rw [hc] at w; cases w; exact ⟨d, rfl⟩
structure Bag (T : Tag) (H0 H : Heap) (I : Sl) (li : List Sl) : Prop where
 i : ∃ sp, NewO T_sl H0 I H li sp
 own : ∀ s ∈ li, (∃ l sp, Ow T H s l sp) ∧ Apr I s
 pw : li.Pairwise Apr
theorem Bag.new {T : Tag} {H0 H H' : Heap} {I : Sl} {li : List Sl} (h : Bag T H0 H I li) (f : Frs [] H H') : Bag T H0 H' I li := by
 obtain ⟨⟨sp, h1⟩, h2, h3⟩ := h
 exact ⟨⟨sp, h1.new f⟩, fun s hs => by obtain ⟨⟨l, sq, w⟩, a⟩ := h2 s hs; exact ⟨⟨l, sq, w.frs f (by simp [Sl.off])⟩, a⟩, h3⟩
theorem Bag.after {T : Tag} {H0 H H' : Heap} {I J : Sl} {li : List Sl} (h : Bag T H0 H I li) (k : After J H H') (f : Frs [] H0 H') (ap : Apr I J) (al : ∀ s ∈ li, Apr s J) : Bag T H0 H' I li := by
 obtain ⟨⟨sp, h1⟩, h2, h3⟩ := h
 exact ⟨⟨sp, h1.1.after k ap, h1.2.1, f⟩, fun s hs => by obtain ⟨⟨l, sq, w⟩, a⟩ := h2 s hs; exact ⟨⟨l, sq, w.after k (al s hs)⟩, a⟩, h3⟩
theorem Bag.add {T : Tag} {E' : Env} {tl : TypeId} (ty : TyS E' T_sl tl ⟨none, 0, 0⟩) {tj : TI} (h2 : E'.ty tl = some tj) (h4 : ∀ k, tj.k ≠ .int k) {H0 H : Heap} {I x u : Sl} {li : List Sl} (h : Bag T H0 H I li) (hl : li.length ≤ 1000000) {l sp : List T.α} {n : Nat} (hx : Ow T H x l sp) (xl : ∀ d, x.p = some ⟨d, 0, none⟩ -> n ≤ d) (lo : ∀ d, I.p = some ⟨d, 0, none⟩ -> d < n) (ll : ∀ s ∈ li, ∀ d, s.p = some ⟨d, 0, none⟩ -> d < n) (hu : SlF T_sl H u [x]) {k : Sl -> Heap -> Prop}
  (hk : ∀ I' H', Bag T H0 H' I' (li ++ [x]) -> (I'.p = I.p ∨ I'.p = some ⟨H.length, 0, none⟩ ∧ H.length < H'.length) -> After I H H' -> Frs [] H0 H' -> k I' H') : APP T_sl (lenV I.v + (lenX u.v).getD 0) (aAppendE E' [tl, tl] I.v u.v H) k := by
 obtain ⟨⟨sq, h1⟩, h2', h3⟩ := h
 have ax : Apr I x := fun d e1 e2 => by have := xl d e2; have := lo d e1; omega
 refine apps_c ty h2 h4 hu (by simp only [List.length_cons, List.length_nil]; omega) h1.1 fun I' H' sp' k1 k2 k3 => ?_
 have n' := h1.app k1 k2 k3
 have fresh : ∀ s : Sl, Apr I s -> (∀ d, s.p = some ⟨d, 0, none⟩ -> d < H.length) -> Apr I' s := fun s a b d e1 e2 => by
  rcases k2 with w | ⟨w, _⟩
  ·exact a d (w ▸ e1) e2
  ·rw [w] at e1; cases e1; have := b _ e2; omega
 refine hk I' H' ⟨⟨sp', n'⟩, fun s hs => ?_, ?_⟩ k2 k3 n'.2.2
 ·rcases List.mem_append.1 hs with hs | hs
  ·obtain ⟨⟨l', sq', w⟩, a⟩ := h2' s hs
   exact ⟨⟨l', sq', w.after k3 a.symm⟩, fresh s a fun d e => w.lt e⟩
  ·simp at hs; subst hs
   exact ⟨⟨l, sp, hx.after k3 ax.symm⟩, fresh _ ax fun d e => hx.lt e⟩
 ·rw [List.pairwise_append]
  refine ⟨h3, by simp, fun s hs y hy => ?_⟩
  simp at hy; subst hy
  exact fun d e1 e2 => by have := ll s hs d e1; have := xl d e2; omega
theorem apr_new {u v : Sl} {n : Nat} (h1 : ∀ d, u.p = some ⟨d, 0, none⟩ -> d < n) (h2 : ∀ d, v.p = some ⟨d, 0, none⟩ -> n ≤ d) : Apr u v := fun d e1 e2 => by have := h1 d e1; have := h2 d e2; omega
theorem apr_grow {I I' u : Sl} {n : Nat} {c : Prop} (k2 : I'.p = I.p ∨ I'.p = some ⟨n, 0, none⟩ ∧ c) (h : Apr I u) (b : ∀ d, u.p = some ⟨d, 0, none⟩ -> d < n) : Apr I' u := fun d e1 e2 => by
 rcases k2 with w | ⟨w, _⟩
 ·exact h d (w ▸ e1) e2
 ·rw [w] at e1; cases e1; have := b _ e2; omega
theorem Bag.apt {T : Tag} {H0 H : Heap} {I : Sl} {li : List Sl} (h : Bag T H0 H I li) (hl : li.length ≤ 1048600) : Apt T H I li := by
 obtain ⟨⟨sp, h1⟩, h2, h3⟩ := h
 exact ⟨h1.1.slf, hl, fun s hs => (h2 s hs).1, dst_pw h3 fun s hs c hc => by obtain ⟨⟨l, sq, w⟩, _⟩ := h2 s hs; exact w.zero c hc⟩
end
end Go.Proofs.YtolekmhhkopooaaGreatDoor.Zq
end
section
namespace Go.Proofs.YtolekmhhkopooaaGreatDoor.Zq
open Zv
section
def OkX (T : Tag) (x : T.α) : Prop := ∀ v ∈ T.cells x, okCell v
def RowOf (T : Tag) (H : Heap) (s : Sl) : Prop := ∀ d off, s.p = some ⟨d, off, none⟩ -> ∃ (l : List T.α) (sz : Nat) (o r v : Bool), H[d]? = some (.row (fl T l) sz o r v)
def SlX (T : Tag) (R : T.α -> Prop) (H : Heap) (s : Sl) : Prop := ∃ l : List T.α, SlF T H s l ∧ l.length ≤ 1048576 ∧ RowOf T H s ∧ ∀ x ∈ l, R x
theorem WTcB.sliceX {P : Program} {H : Heap} {T : Tag} {R : T.α -> Prop} {d : Nat} {t e : TypeId} {cs : List Value} (ht : P.underlying t = some (.slice e)) (he : ∀ a, WTcB 1048576 P H d e a -> ∃ x : T.α, a = T.cells x ∧ R x) (h : WTcB 1048576 P H (d + 1) t cs) :
  ∃ s : Sl, cs = [s.v] ∧ SlX T R H s := by
 simp only [WTcB, ht] at h
 rcases h.2 with rfl | ⟨b, off, rfl⟩ | ⟨b, len, cap, acss, rfl, h1, h2, hB, h3, h4, h5, h6⟩
 ·exact ⟨⟨none, 0, 0⟩, rfl, [], ⟨rfl, .inl ⟨rfl, rfl, rfl⟩⟩, by simp, (fun d off e => nomatch e), by simp⟩
 ·exact ⟨⟨some ⟨b, off, some 0⟩, 0, 0⟩, rfl, [], ⟨rfl, .inr (.inl ⟨b, off, rfl, rfl, rfl⟩)⟩, by simp, (fun d off e => nomatch e), by simp⟩
 ·have : ∃ l : List T.α, l.length = acss.length ∧ acss.flatten = fl T l ∧ ∀ x ∈ l, R x := by
   clear h5 h3
   induction acss with
   | nil => exact ⟨[], rfl, rfl, by simp⟩
   | cons a r ih =>
    obtain ⟨x, hx, hr⟩ := he a (h6 a (by simp))
    obtain ⟨l, q1, q2, q3⟩ := ih fun y hy => h6 y (by simp [hy])
    exact ⟨x :: l, by simp [q1], by simp [fl, hx, q2], fun y hy => by rcases List.mem_cons.1 hy with rfl | hy; exact hr; exact q3 y hy⟩
  obtain ⟨l, q1, q2, q3⟩ := this
  refine ⟨⟨some ⟨b, 0, none⟩, len, cap⟩, rfl, l.take len, ⟨by simp; omega, .inr (.inr ⟨b, [], fl T (l.drop len), P.cellsOf e, false, true, rfl, ?_⟩)⟩, by simp; omega, fun d off hd => ?_, fun x hx => q3 x (List.mem_of_mem_take hx)⟩
  ·rw [h5, q2, List.nil_append, ← fl_app, List.take_append_drop]
  ·simp at hd
   obtain ⟨rfl, _⟩ := hd
   exact ⟨l, _, _, _, _, by rw [h5, q2]⟩
theorem RowOf.flat {T : Tag} {H : Heap} {s : Sl} (h : RowOf T H s) (hT : ∀ x, ∀ v ∈ T.cells x, flatV v) : Flat H s := fun d off e => by
 obtain ⟨l, sz, o, r, v, hl⟩ := h d off e
 refine ⟨_, sz, o, r, v, hl, fun w hw => ?_⟩
 obtain ⟨x, _, hx⟩ := List.mem_flatMap.1 hw
 exact hT x w hx
end
end Go.Proofs.YtolekmhhkopooaaGreatDoor.Zq
end
section
namespace Go.Proofs.YtolekmhhkopooaaGreatDoor.Zq
open Zv
section
variable {H : Heap}
theorem ok_in {k : IntKind} {n : Int} (h : okCell (.int k n)) : k.min ≤ n ∧ n ≤ k.max := by
 have : (decide (k.min ≤ n) && decide (n ≤ k.max)) = true := h
 simpa using this
theorem ok_u8 {n : Int} (h : okCell (.int .u8 n)) : 0 ≤ n ∧ n ≤ 255 := ok_in h
theorem ok_u16 {n : Int} (h : okCell (.int .u16 n)) : 0 ≤ n ∧ n ≤ 65535 := ok_in h
theorem ok_i64 {n : Int} (h : okCell (.int .i64 n)) : -9223372036854775808 ≤ n ∧ n ≤ 9223372036854775807 := ok_in h
theorem ok_str {s : ByteArray} (h : okCell (.string s)) : s.size ≤ 9223372036854775807 := h
theorem ok_P {p : Pt} (h : OkX TP p) : OkP p :=
 ⟨ok_str (h _ (by simp)), ok_u8 (h (.int .u8 p.Suit) (by simp)), ok_u8 (h (.int .u8 p.Trait) (by simp)), ok_u8 (h (.int .u8 p.Mark) (by simp))⟩
theorem ok_C {g : G_api_Card} (h : OkX TC g ∧ SlX TP (fun x => OkX TP x) H g.Parts) : InC H g := by
 obtain ⟨h1, l, h2, h3, _, h4⟩ := h
 exact ⟨⟨ok_str (h1 _ (by simp)), ok_u8 (h1 (.int .u8 g.Suit) (by simp)), ok_u8 (h1 (.int .u8 g.Kind) (by simp)), ok_u16 (h1 (.int .u16 g.Traits) (by simp))⟩, l, h2, h3, fun p hp => ok_P (h4 p hp)⟩
theorem flatTT : ∀ x : Tg, ∀ v ∈ TT'.cells x, flatV v := fun x v hv => by
 simp at hv
 rcases hv with rfl | rfl | rfl | rfl | rfl | rfl | rfl | rfl | rfl | rfl | rfl <;> trivial
theorem gv_of {a1 a2 : Sl} {ts : List Tg} {fs : List Ft} (h1 : SlF TT' H a1 ts) (h2 : ts.length ≤ 1048576) (h3 : RowOf TT' H a1) (h4 : ∀ x ∈ ts, OkX TT' x) (h5 : SlF TF H a2 fs) (h6 : ∀ x ∈ fs, OkX TF x) : Gv H a1 a2 ts fs :=
 ⟨h1, h5, h3.flat flatTT, fun t ht => (ok_i64 (h4 t ht (.int .i64 t.Stamp) (by simp))).2, fun f hf => (ok_u16 (h6 f hf (.int .u16 f.Traits) (by simp))).1, by omega⟩
end
end Go.Proofs.YtolekmhhkopooaaGreatDoor.Zq
end
section
namespace Go.Proofs.YtolekmhhkopooaaGreatDoor.Zq
open Zv
section
variable {H : Heap} {ts : List Tg} {fs : List Ft} {l : List Sg}
set_option maxHeartbeats 1000000 in
theorem lall_c {x : G_kit_Fill} {t : G_law19_Table} {lf : Sl} {gs : List G_api_Card} {mks : List G_api_MarkInfo} (hin : In19 H x t gs mks ts fs) (htl : ts.length ≤ 1048576) (hl : SlF TSt H lf l) (hll : l.length ≤ 1048576) {k : Int} {Q : Bool × Unit -> Heap -> Prop} (hq : ∀ H', Q (true, ()) H') :
  CALL P [T_bool] n_law19_LayerAll [T_G_kit_Fill.enc x, T_G_law19_Table.enc t, lf.v, .int .i64 k] H Q := by
 apply c_law19_LayerAll
 unfold S_law19_LayerAll
 refine JOIN_inv (fun (_ : (Bool × Unit) × Unit) H' => H' = H) (fun j hj => heavy19_c fun r => ifB_of (fun _ => hj _ _ rfl) (fun _ => hj _ _ rfl)) ?_
 rintro y H0 rfl
 refine ifB_of (fun _ => hq _) (fun _ => ?_)
 refine books_c hin.c hin.cl hin.cg hin.m hin.ml fun H3 a b m se B ms bk => ifB_f rfl ?_
 have gv3 := hin.gv.new bk.f
 have hfl := hin.fl
 have hxt := gv3.s.1
 have hxf := gv3.f.1
 have hxl := hl.1
 refine KThings.lent_c gv3.s (by omega) fun x5 H4 sp5 n5 ⟨d5, e5⟩ => ⟨rfl, ?_⟩
 refine KFeatures.lent_c (gv3.f.frs n5.2.2 (by simp)) (by omega) fun x6 H5 sp6 n6 ⟨d6, e6⟩ => ?_
 have f35 := n5.2.2.trans n6.2.2
 refine KStandings.lent_c (hl.frs (bk.f.trans f35) (by simp)) (by omega) fun x7 H6 sp7 n7 ⟨d7, e7⟩ => ?_
 have f36 := f35.trans n7.2.2
 have f56 := n6.2.2.trans n7.2.2
 have n5' := n5.new f56
 have n6' := n6.new n7.2.2
 have hl6 := hl.frs (bk.f.trans f36) (by simp)
 have gv6 := gv3.new f36
 have p6 := bk.p.new f36
 have r6 := bk.r.new f36
 refine n5'.1.j.take KThings.tyS (n := ts.length) (by rw [hxt]) (by simp) (by rw [e5]; simp) fun o8 => ?_
 refine n6'.1.j.take KFeatures.tyS (n := fs.length) (by rw [hxf]) (by simp) (by rw [e6]; simp) fun o9 => ?_
 refine n7.1.j.take KStandings.tyS (n := l.length) (by rw [hxl]) (by simp) (by rw [e7]; simp) fun o10 => ?_
 rw [List.take_left] at o8 o9 o10
 have fl8 : Flat H6 ⟨x5.p, ts.length, x5.cap⟩ := fun d off e => by
  obtain ⟨_, _, _, ⟨w, _⟩ | ⟨c, w, hc⟩⟩ := n5'.1
  ·rw [show x5.p = _ from e] at w; cases w
  ·rw [show x5.p = _ from e] at w; cases w
   refine ⟨_, _, _, _, _, hc, fun v hv => ?_⟩
   obtain ⟨y, _, hy⟩ := List.mem_flatMap.1 hv
   exact flatTT y v hy
 have gl : Gv H6 ⟨x5.p, ts.length, x5.cap⟩ ⟨x6.p, fs.length, x6.cap⟩ ts fs := ⟨o8.slf, o9.slf, fl8, gv6.okt, gv6.okf, gv6.len⟩
 refine next2 p6 r6 bk.ok gl gv6.s gv6.f o10 hl6 (by omega) fun xn en H8 f8 => ?_
 refine effects2 (p6.new f8) (r6.new f8) bk.ok (gl.new f8) (gv6.s.frs f8 (by simp)) (gv6.f.frs f8 (by simp)) fun x13 x14 e2 E sp13 sp14 H10 hE n13 n14 => ?_
 have g10 := f8.trans n13.2.2
 refine all2 (p6.new g10) (r6.new g10) bk.ok (gl.new g10) (gv6.s.frs g10 (by simp)) (gv6.f.frs g10 (by simp)) fun x15 y15 u16 v16 e3 L W s1 s2 s3 s4 H12 hL hW n15 m15 d15 n16 m16 => ?_
 have g12 := g10.trans n15.2.2
 have n13' := n13.new n15.2.2
 have n14' := n14.new n15.2.2
 have p12 := p6.new g12
 have r12 := r6.new g12
 have gl12 := gl.new g12
 have gv12 := gv6.new g12
 refine JOIN_inv (fun (z : (Bool × Unit) × Unit) H' => H' = H12 ∧ z.1.1 = false) (fun j17 hj17 => ?_) ?_
 ·refine ifB_f (bne_self_eq_false _) (ifB_f (bne_self_eq_false _) (ifB_f (bne_self_eq_false _) (ifB_f (bne_self_eq_false _) ?_)))
  refine KStandings.same_c n13'.1.slf n14'.1.slf (by omega) fun r1 hr1 => ?_
  rw [hr1.2 rfl]
  refine ifB_f rfl (KFeatures.same_c n15.1.slf n16.1.slf (by omega) fun r2 hr2 => ?_)
  rw [hr2.2 rfl]
  refine ifB_f rfl (KStandings.same_c m15.1.slf m16.1.slf (by omega) fun r3 hr3 => ?_)
  rw [hr3.2 rfl]
  exact hj17 _ _ ⟨rfl, rfl⟩
 rintro ⟨⟨r0, _⟩, _⟩ H13 ⟨rfl, hr0⟩
 simp only at hr0; subst hr0
 refine ifB_f rfl ?_
 unfold NEW
 obtain ⟨w17, f17, l17⟩ := row1 H13 (fl T_sl []) 1
 change CALL P [T_sl] _ [_] (mk (mk H13 (fl T_sl []) 1 false) (fl T_sl [x15]) 1 false) fun x22 H19 => APP T_sl _ _ fun x23 H20 => JOIN (fun j24 => LOOP _ (((Sl.mk (some ⟨H13.length, 0, none⟩) 0 0), (Sl.mk (some ⟨(mk H13 (fl T_sl []) 1 false).length, 0, none⟩) 1 1), 0, ()), ()) H20) _
 generalize mk H13 (fl T_sl []) 1 false = H17 at w17 f17 l17
 obtain ⟨w18, f18, l18⟩ := row1 H17 (fl T_sl [x15]) 1
 generalize mk H17 (fl T_sl [x15]) 1 false = H18 at w18 f18 l18
 have f1318 := f17.trans f18
 refine KStandings.copy_c (hl6.frs (g12.trans f1318) (by simp)) (by omega) fun x22 H19 sp22 n22 => ?_
 refine apps_c tySt rfl (fun _ => by simp) ((n14'.new (f1318.trans n22.2.2)).1.slf) (by omega) n22.1 fun x23 H20 sp23 k1 k2 k3 => ?_
 have n23 : NewO TSt H18 x23 H20 (l ++ E) sp23 := n22.app k1 k2 k3
 have f1820 := n23.2.2
 have f1320 := f1318.trans f1820
 have hx23 := n23.1.1
 have n15' := n15.new f1320
 have x15lt : ∀ d, x15.p = some ⟨d, 0, none⟩ -> d < H13.length := fun d e => n15.1.lt e
 have bI : Bag TN' H13 H20 ⟨some ⟨H13.length, 0, none⟩, 0, 0⟩ [] := ⟨⟨[], ⟨rfl, rfl, by simp, .inr ⟨_, rfl, (f18.trans f1820).get (by simp) w17⟩⟩, fun d hd => by cases hd; exact Nat.le_refl _, f1320⟩, (fun s hs => by cases hs), List.Pairwise.nil⟩
 have bF : Bag TF H13 H20 ⟨some ⟨H17.length, 0, none⟩, 1, 1⟩ [x15] := ⟨⟨[], ⟨rfl, rfl, by simp, .inr ⟨_, rfl, f1820.get (by simp) (by simpa using w18)⟩⟩, fun d hd => by cases hd; omega, f1320⟩, fun s hs => by
  simp at hs; subst hs
  exact ⟨⟨L, s1, n15'.1⟩, fun d e1 e2 => by cases e1; have := x15lt _ e2; omega⟩, List.pairwise_singleton _ _⟩
 have x13x15 : ∀ v ∈ [x15], Apr x13 v ∧ Apr y15 v := fun v hv => by
  simp at hv; subst hv
  exact ⟨apr_new (n := H10.length) (fun d e => n13.1.lt e) (fun d e => n15.2.1 d e), fun d e1 e2 => d15 d e2 e1⟩
 refine JOIN_inv (fun (y : (Sl × Sl × Unit) × Unit) H' => ∃ (li lg : List Sl), li.length ≤ 12 ∧ lg.length ≤ 13 ∧ Bag TN' H13 H' y.1.1 li ∧ Bag TF H13 H' y.1.2.1 lg ∧ Frs [] H13 H' ∧ (∀ u ∈ li, ∀ d, u.p = some ⟨d, 0, none⟩ -> H13.length ≤ d) ∧ (∀ v ∈ lg, Apr x13 v ∧ Apr y15 v) ∧ (∀ u ∈ li, ∀ v ∈ lg, Apr u v) ∧ (∀ u ∈ li, Apr y.1.2.1 u)) (fun j24 hj24 => ?_) ?_
 ·refine loop_of (fun (y : (Sl × Sl × Int × Unit) × Unit) H' => ∃ (n : Nat) (li lg : List Sl), y.1.2.2.1 = n ∧ n ≤ 12 ∧ li.length = n ∧ lg.length = n + 1 ∧ Bag TN' H13 H' y.1.1 li ∧ Bag TF H13 H' y.1.2.1 lg ∧ Frs [] H13 H' ∧ Ow TSt H' x23 (l ++ E) sp23 ∧ Apr y.1.1 y.1.2.1 ∧ Apr y.1.1 x23 ∧ Apr y.1.2.1 x23 ∧ (∀ u ∈ li, ∀ d, u.p = some ⟨d, 0, none⟩ -> H13.length ≤ d) ∧ (∀ v ∈ lg, Apr x13 v ∧ Apr y15 v) ∧ (∀ u ∈ li, ∀ v ∈ lg, Apr u v) ∧ (∀ u ∈ li, Apr y.1.2.1 u) ∧ (∀ v ∈ lg, Apr y.1.1 v)) (fun y => 12 - y.1.2.2.1.toNat) ?_
   ⟨0, [], [x15], rfl, by omega, rfl, rfl, bI, bF, f1320, n23.1, (fun d e1 e2 => by simp at e1 e2; omega), (fun d e1 e2 => by simp at e1; have := n23.2.1 _ e2; omega), (fun d e1 e2 => by simp at e1; have := n23.2.1 _ e2; omega), (fun u hu => by cases hu), x13x15, (fun u hu => by cases hu), (fun u hu => by cases hu), (fun v hv d e1 e2 => by simp at hv e1; subst hv; have := x15lt _ e2; omega)⟩
  rintro G ⟨⟨I, F, i, _⟩, _⟩ H22 ⟨n, li, lg, hi, hn, hli, hlg, BI, BF, f22, o23, aIF, aI3, aF3, loI, aE, aIG, aFI, aIG'⟩ hG
  simp only at hi BI BF aIF aI3 aF3 aFI aIG'; subst hi
  dsimp only at hG ⊢
  refine hJ (n < (l ++ E).length ∧ n < 12) (fun j28 hj28 => ifD (fun e => hj28 _ (by simp; simp at hx23; omega)) (fun e => hj28 _ (by simp; simp at hx23; omega))) (fun c => ?_) (fun c => hj24 _ _ ⟨li, lg, by omega, by omega, BI, BF, f22, loI, aE, aIG, aFI⟩)
  obtain ⟨c1, c2⟩ := c
  have hx : (l ++ E)[n]? = some (l ++ E)[n] := List.getElem?_eq_getElem c1
  generalize (l ++ E)[n] = s at hx
  have hpos : (0 : Int) < x23.len := by omega
  obtain ⟨q, hq1, hq2⟩ : ∃ q : Nat, Int.tmod (IntKind.wrap .i64 ((n : Int) + 1)) (x23.len : Int) = q ∧ q < (l ++ E).length := by
   rw [i64w (by omega) (by omega)]
   have h1 := Int.tmod_lt_of_pos ((n : Int) + 1) hpos
   have h2 := Int.tmod_nonneg (x23.len : Int) (show (0 : Int) ≤ (n : Int) + 1 by omega)
   exact ⟨(Int.tmod ((n : Int) + 1) (x23.len : Int)).toNat, by omega, by omega⟩
  have hy : (l ++ E)[q]? = some ((l ++ E)[q]'hq2) := List.getElem?_eq_getElem hq2
  generalize ((l ++ E)[q]'hq2) = o at hy
  refine idx_ldF (T := TSt) hTSt o23.slf rfl hx rfl ⟨by omega, ?_⟩
  refine idx_ldF (T := TSt) hTSt o23.slf hq1 hy rfl ?_
  refine asked_c' (p12.new f22) (r12.new f22) bk.ok (t := t) (w := ⟨⟨x5.p, ts.length, x5.cap⟩, ⟨x6.p, fs.length, x6.cap⟩⟩) (gl12.new f22) (gv12.new f22).s (gv12.new f22).f fun xa ya ua va la ka spa sqa H24 na nb dab hua hva hvl => ifB_f rfl ?_
  have f24 := na.2.2
  obtain ⟨sI, nI⟩ := BI.i
  obtain ⟨sF, nF⟩ := BF.i
  have ltI : ∀ d, I.p = some ⟨d, 0, none⟩ -> d < H22.length := fun d e => nI.1.lt e
  have ltF : ∀ d, F.p = some ⟨d, 0, none⟩ -> d < H22.length := fun d e => nF.1.lt e
  have lt3 : ∀ d, x23.p = some ⟨d, 0, none⟩ -> d < H22.length := fun d e => o23.lt e
  have ltli : ∀ u ∈ li, ∀ d, u.p = some ⟨d, 0, none⟩ -> d < H22.length := fun u hu d e => by obtain ⟨⟨_, _, w⟩, _⟩ := BI.own u hu; exact w.lt e
  have ltlg : ∀ u ∈ lg, ∀ d, u.p = some ⟨d, 0, none⟩ -> d < H22.length := fun u hu d e => by obtain ⟨⟨_, _, w⟩, _⟩ := BF.own u hu; exact w.lt e
  have l24 := f24.1
  refine Bag.add KInts.tyL rfl (fun _ => by simp) (BI.new f24) (by omega) (n := H22.length) na.1 (fun d e => na.2.1 d e) ltI ltli hua fun I' H25 BI' k2' k3' f25 => ?_
  have aIy : Apr ya I := (apr_new ltI fun d e => nb.2.1 d e).symm
  have BF5 : Bag TF H13 H25 F lg := (BF.new f24).after k3' f25 aIF.symm fun v hv => (aIG' v hv).symm
  have yb := nb.1.after k3' aIy
  have vb : SlF T_sl H25 va [ya] := hva.after k3' fun d off e1 e2 => by have := hvl d off e1; have := ltI d e2; omega
  have o235 : Ow TSt H25 x23 (l ++ E) sp23 := (o23.frs f24 (by simp [Sl.off])).after k3' aI3.symm
  have l25 := k3'.1
  refine Bag.add KFeatures.tyL rfl (fun _ => by simp) BF5 (by omega) (n := H22.length) yb (fun d e => nb.2.1 d e) ltF ltlg vb fun F' H26 BF' k2'' k3'' f26 => ?_
  have gI : ∀ u : Sl, Apr I u -> (∀ d, u.p = some ⟨d, 0, none⟩ -> d < H22.length) -> Apr I' u := fun u h1 h2 => apr_grow k2' h1 fun d e => by have := h2 d e; omega
  have gF : ∀ u : Sl, Apr F u -> (∀ d, u.p = some ⟨d, 0, none⟩ -> d < H25.length) -> Apr F' u := fun u h1 h2 => apr_grow k2'' h1 h2
  have aI'F := gI F aIF ltF
  have aFx : Apr F xa := apr_new ltF fun d e => na.2.1 d e
  have aFli : ∀ u ∈ li ++ [xa], Apr F u := fun u hu => by
   rcases List.mem_append.1 hu with w | w
   ·exact aFI u w
   ·simp at w; subst w; exact aFx
  have BI6 : Bag TN' H13 H26 I' (li ++ [xa]) := BI'.after k3'' f26 aI'F fun u hu => (aFli u hu).symm
  obtain ⟨sI', nI'⟩ := BI'.i
  have ltI' : ∀ d, I'.p = some ⟨d, 0, none⟩ -> d < H25.length := fun d e => nI'.1.lt e
  have ltx : ∀ u ∈ li ++ [xa], ∀ d, u.p = some ⟨d, 0, none⟩ -> d < H25.length := fun u hu d e => by obtain ⟨⟨_, _, w⟩, _⟩ := BI'.own u hu; exact w.lt e
  rw [i64w (by omega) (by omega)]
  refine hG _ _ ⟨n + 1, li ++ [xa], lg ++ [ya], by simp, by omega, by simp [hli], by simp [hlg], BI6, BF', f26, o235.after k3'' aF3.symm, (gF I' aI'F.symm ltI').symm, gI x23 aI3 lt3, gF x23 aF3 fun d e => by have := lt3 d e; omega, ?_, ?_, ?_, fun u hu => gF u (aFli u hu) (ltx u hu), ?_⟩ (by simp; omega)
  ·intro u hu d e
   rcases List.mem_append.1 hu with w | w
   ·exact loI u w d e
   ·simp at w; subst w; have := na.2.1 d e; have := f22.1; omega
  ·intro v hv
   rcases List.mem_append.1 hv with w | w
   ·exact aE v w
   ·simp at w; subst w
    exact ⟨apr_new (n := H22.length) (fun d e => by have := n13'.1.lt e; have := f22.1; omega) (fun d e => nb.2.1 d e), apr_new (n := H22.length) (fun d e => by have := m15.1.lt e; have := f22.1; omega) (fun d e => nb.2.1 d e)⟩
  ·intro u hu v hv
   rcases List.mem_append.1 hu with w | w
   ·rcases List.mem_append.1 hv with z | z
    ·exact aIG u w v z
    ·simp at z; subst z; exact apr_new (ltli u w) fun d e => nb.2.1 d e
   ·simp at w; subst w
    rcases List.mem_append.1 hv with z | z
    ·exact (apr_new (ltlg v z) fun d e => na.2.1 d e).symm
    ·simp at z; subst z; exact dab
  ·intro v hv
   rcases List.mem_append.1 hv with z | z
   ·exact gI v (aIG' v z) (ltlg v z)
   ·simp at z; subst z
    refine apr_grow k2' (apr_new ltI fun d e => nb.2.1 d e) fun d e => ?_
    have := nb.1.lt e; omega
 ·rintro ⟨⟨I, F, _⟩, _⟩ H21 ⟨li, lg, hli, hlg, BI, BF, f21, loI, aE, aIG, aFI⟩
  dsimp only at BI BF aFI ⊢
  have g621 := g12.trans f21
  have q5 := (n5'.new g621).1.slf
  have q6 := (n6'.new g621).1.slf
  have q7 := (n7.new g621).1.slf
  refine JOIN_inv (fun (z : (Bool × Unit) × Unit) H' => Frs [] H21 H' ∧ z.1.1 = true) (fun j39 hj39 => ?_) ?_
  ·refine KThings.kept_c q5 (gv6.new g621).s (by simp; omega) (by omega) fun r H28 hr f28 => ?_
   rw [hr.2 rfl]
   refine ifB_t rfl ?_
   refine KFeatures.kept_c (q6.frs f28 (by simp)) ((gv6.new g621).new f28).f (by simp; omega) (by omega) fun r H29 hr f29 => ?_
   rw [hr.2 rfl]
   refine ifB_t rfl ?_
   have f2129 := f28.trans f29
   refine KStandings.kept_c (q7.frs f2129 (by simp)) (hl6.frs (g621.trans f2129) (by simp)) (by simp; omega) (by omega) fun r H30 hr f30 => ?_
   exact hj39 _ _ ⟨f2129.trans f30, hr.2 rfl⟩
  ·rintro ⟨⟨r1, _⟩, _⟩ H27 ⟨f27, hr1⟩
   simp only at hr1; subst hr1
   refine JOIN_inv (fun (z : (Bool × Unit) × Unit) _ => z.1.1 = true) (fun j44 hj44 => ?_) (fun z H' hz => by rw [hz]; exact hq _)
   have BI7 := BI.new f27
   have BF7 := BF.new f27
   have f1327 := f21.trans f27
   refine ifB_t rfl ?_
   refine KInts.apart_c (BI7.apt (by omega)) fun H32 l32 fr32 => ifB_t rfl ?_
   have BF8 : Bag TF H32 H32 F lg ∨ True := .inr trivial
   obtain ⟨sF, nF⟩ := BF7.i
   have oF : Ow T_sl H32 F lg sF := nF.1.fra l32 fr32 fun u hu => aFI u hu
   have ownF : ∀ s ∈ lg, ∃ l sp, Ow TF H32 s l sp := fun s hs => by
    obtain ⟨⟨l', sp', w⟩, _⟩ := BF7.own s hs
    exact ⟨l', sp', w.fra l32 fr32 fun u hu => (aIG u hu s hs).symm⟩
   refine KFeatures.apart_c ⟨oF.slf, by omega, ownF, dst_pw BF7.pw fun s hs c hc => by obtain ⟨_, _, w⟩ := ownF s hs; exact w.zero c hc⟩ fun H33 l33 fr33 => ifB_t rfl ?_
   have o13 : Ow TSt H33 x13 E sp13 := ((n13'.new f1327).1.fra l32 fr32 fun u hu => apr_new (n := H13.length) (fun d e => n13'.1.lt e) (loI u hu)).fra l33 fr33 fun v hv => (aE v hv).1
   have o15 : Ow TSt H33 y15 W s2 := ((m15.new f1327).1.fra l32 fr32 fun u hu => apr_new (n := H13.length) (fun d e => m15.1.lt e) (loI u hu)).fra l33 fr33 fun v hv => (aE v hv).2
   have a1315 : Apr x13 y15 := apr_new (n := H10.length) (fun d e => n13.1.lt e) (fun d e => m15.2.1 d e)
   obtain ⟨w34, f34, l34⟩ := row1 H33 (fl T_sl [x13, y15]) 1
   change CALL P [T_bool] _ _ (mk H33 (fl T_sl [x13, y15]) 1 false) _
   generalize mk H33 (fl T_sl [x13, y15]) 1 false = H34 at w34 f34 l34
   have o34 : Ow T_sl H34 ⟨some ⟨H33.length, 0, none⟩, 2, 2⟩ [x13, y15] [] := ⟨rfl, rfl, by simp, .inr ⟨_, rfl, by simpa using w34⟩⟩
   refine KStandings.apart_c ⟨o34.slf, by simp, fun s hs => ?_, dst_pw (by simp [List.pairwise_cons]; exact a1315) fun s hs c hc => ?_⟩ fun H' _ _ => hj44 _ _ rfl
   ·rcases List.mem_cons.1 hs with rfl | hs
    ·exact ⟨_, _, o13.frs f34 (by simp [Sl.off])⟩
    ·rcases List.mem_cons.1 hs with rfl | hs
     ·exact ⟨_, _, o15.frs f34 (by simp [Sl.off])⟩
     ·cases hs
   ·rcases List.mem_cons.1 hs with rfl | hs
    ·exact o13.zero c hc
    ·rcases List.mem_cons.1 hs with rfl | hs
     ·exact o15.zero c hc
     ·cases hs
end
end Go.Proofs.YtolekmhhkopooaaGreatDoor.Zq
end
section
namespace Go.Proofs.YtolekmhhkopooaaGreatDoor.Zq
open Zv
section
variable {H : Heap}
theorem lall_law {x : G_kit_Fill} {t : G_law19_Table} {lf : Sl} (h : OkX T_G_kit_Fill x ∧ SlX TC (fun x => OkX TC x ∧ SlX TP (fun x => OkX TP x) H x.Parts) H x.Cards ∧ SlX TM (fun x => OkX TM x) H x.Marks) (g : OkX T_G_law19_Table t ∧ SlX TT' (fun x => OkX TT' x) H t.Things ∧ SlX TF (fun x => OkX TF x) H t.Fs) (r : SlX TSt (fun x => OkX TSt x) H lf) {k : Int} :
  CALL P [T_bool] n_law19_LayerAll [T_G_kit_Fill.enc x, T_G_law19_Table.enc t, lf.v, .int .i64 k] H fun x _ => x.1 = true := by
 obtain ⟨_, ⟨gs, c1, c2, _, c3⟩, ⟨mks, m1, m2, _, _⟩⟩ := h
 obtain ⟨_, ⟨ts, t1, t2, t3, t4⟩, ⟨fs, f1, f2, _, f3⟩⟩ := g
 obtain ⟨l, l1, l2, _⟩ := r
 exact lall_c ⟨c1, c2, fun g hg => ok_C (c3 g hg), m1, m2, gv_of t1 t2 t3 t4 f1 f3, f2⟩ t2 l1 l2 fun _ => rfl
end
end Go.Proofs.YtolekmhhkopooaaGreatDoor.Zq
end
