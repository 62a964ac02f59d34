/- ViewPlain of the set: the call of the Go function returns true and leaves all memory that was there as it was. Condition: what is handed in is of the bulk that the given statement's second form has. -/
import Derived.Test.YtijnknjopjmiiaaGreatDoorKViewPlain7
import Derived.Test.YtijnknjopjmiiaaGreatDoorCards
import Derived.Test.YtijnknjopjmiiaaGreatDoorTie
import Derived.WalkKit
import Derived.ProofKit
import Derived.OpenShut
import Derived.ShutString
import Derived.ChangeOld
import Derived.Below
import Derived.SizedLaws
import Derived.JoinedCond
import Derived.Deep.DeepHandedRow
import Derived.Lay
import Derived.LaidMore
import Derived.SevenTiedAt
namespace Go.Proofs.YtijnknjopjmiiaaGreatDoor.viewPlain
open Go.ChangeShapes Go.WideShapes Go.ChangeAt Go.RowKit
open Zq Zv
theorem cells_slice{P:Program}{W:World}{base:Nat}{t e:TypeId}{v:Value}(ht:P.underlying t=some (.slice e))(h:Value.okWide P W .any base t v):v.cells.toList=[v]:=by
  obtain⟨a,len,cap,rfl⟩:=okWide_slice ht h
  rfl
theorem cells4_G_api_Part{H:Heap}{a:List Value}(h:fJ 1048576 Tryz.prog H 4 58 a):∃x:aV,a=Tag.cells aP x∧F5 aP x:=by
  have h2:=xP.Y4 (ss:=[.i .u8,.i .u8,.i .u8,.i .i64,.i .u8,.i .u8,.i .u8,.s]) h.wt (by kernel_rfl)
  obtain⟨y0,_,rfl,y1,_,rfl,y2,_,rfl,y3,_,rfl,y4,_,rfl,y5,_,rfl,y6,_,rfl,y7,_,rfl,rfl⟩:=h2
  have Tz:=xP.Tz h.wt
  exact⟨(aV.mk y0 y1 y2 y3 y4 y5 y6 y7),rfl,Tz⟩
theorem cells6_G_api_Card{H:Heap}{a:List Value}(h:fJ 1048576 Tryz.prog H 6 97 a):∃x:ay,a=Tag.cells aA x∧F5 aA x∧Wu aP (fun x=>F5 aP x) H x.Parts:=by
  have h2:=xP.Y4 (ss:=[.s,.i .u8,.i .u8,.i .i64,.i .i64,.i .i64,.i .u16,.b,.sl]) h.wt (by kernel_rfl)
  obtain⟨y0,_,rfl,y1,_,rfl,y2,_,rfl,y3,_,rfl,y4,_,rfl,y5,_,rfl,y6,_,rfl,y7,_,rfl,y8,_,rfl,rfl⟩:=h2
  have Tz:=xP.Tz h.wt
  have w1:fJ 1048576 Tryz.prog H 5 95 [Sl.v y8]:=by
    have h9:fJ 1048576 Tryz.prog H 5 95 (List.take (Tryz.prog.cellsOf 95) (List.drop _ _)):=fJ.fld (i:=8) (off:=8) Tryz.underlying97 rfl (by kernel_rfl) h
    rw[show Tryz.prog.cellsOf 95=1 by kernel_rfl]at h9
    exact h9
  obtain⟨s8,e8,f8⟩:=fJ.QZ (T:=aP) (R:=fun x=>F5 aP x) Tryz.underlying95 (fun _ h=>cells4_G_api_Part h) w1
  have q8:y8=s8:=Sl.ZN (by simpa using e8)
  subst q8
  exact⟨(ay.mk y0 y1 y2 y3 y4 y5 y6 y7 y8),rfl,Tz,f8⟩
theorem cells6_G_api_MarkInfo{H:Heap}{a:List Value}(h:fJ 1048576 Tryz.prog H 6 101 a):∃x:ak,a=Tag.cells aT x∧F5 aT x:=by
  have h2:=xP.Y4 (ss:=[.i .u8,.s,.i .i64,.i .i64]) h.wt (by kernel_rfl)
  obtain⟨y0,_,rfl,y1,_,rfl,y2,_,rfl,y3,_,rfl,rfl⟩:=h2
  have Tz:=xP.Tz h.wt
  exact⟨(ak.mk y0 y1 y2 y3),rfl,Tz⟩
theorem cells8_G_kit_Fill{H:Heap}{a:List Value}(h:fJ 1048576 Tryz.prog H 8 25 a):∃x:bM,a=Tag.cells bn x∧F5 bn x∧Wu aA (fun x=>F5 aA x∧Wu aP (fun x=>F5 aP x) H x.Parts) H x.Cards∧Wu aT (fun x=>F5 aT x) H x.Marks:=by
  have h2:=xP.Y4 (ss:=[.sl,.sl,.b]) h.wt (by kernel_rfl)
  obtain⟨y0,_,rfl,y1,_,rfl,y2,_,rfl,rfl⟩:=h2
  have Tz:=xP.Tz h.wt
  have w1:fJ 1048576 Tryz.prog H 7 22 [Sl.v y0]:=by
    have h9:fJ 1048576 Tryz.prog H 7 22 (List.take (Tryz.prog.cellsOf 22) (List.drop _ _)):=fJ.fld (i:=0) (off:=0) Tryz.underlying25 rfl (by kernel_rfl) h
    rw[show Tryz.prog.cellsOf 22=1 by kernel_rfl]at h9
    exact h9
  obtain⟨s0,e0,f0⟩:=fJ.QZ (T:=aA) (R:=fun x=>F5 aA x∧Wu aP (fun x=>F5 aP x) H x.Parts) Tryz.underlying22 (fun _ h=>cells6_G_api_Card h) w1
  have q0:y0=s0:=Sl.ZN (by simpa using e0)
  subst q0
  have w2:fJ 1048576 Tryz.prog H 7 23 [Sl.v y1]:=by
    have h9:fJ 1048576 Tryz.prog H 7 23 (List.take (Tryz.prog.cellsOf 23) (List.drop _ _)):=fJ.fld (i:=1) (off:=1) Tryz.underlying25 rfl (by kernel_rfl) h
    rw[show Tryz.prog.cellsOf 23=1 by kernel_rfl]at h9
    exact h9
  obtain⟨s1,e1,f1⟩:=fJ.QZ (T:=aT) (R:=fun x=>F5 aT x) Tryz.underlying23 (fun _ h=>cells6_G_api_MarkInfo h) w2
  have q1:y1=s1:=Sl.ZN (by simpa using e1)
  subst q1
  exact⟨(bM.mk y0 y1 y2),rfl,Tz,f0,f1⟩
theorem cells7_G_api_Thing{H:Heap}{a:List Value}(h:fJ 1048576 Tryz.prog H 7 46 a):∃x:bT,a=Tag.cells aW x∧F5 aW x:=by
  have h2:=xP.Y4 (ss:=[.i .i64,.i .i64,.i .u8,.i .i64,.i .i64,.i .i64,.i .i64,.i .i64,.i .i64,.i .i64,.b]) h.wt (by kernel_rfl)
  obtain⟨y0,_,rfl,y1,_,rfl,y2,_,rfl,y3,_,rfl,y4,_,rfl,y5,_,rfl,y6,_,rfl,y7,_,rfl,y8,_,rfl,y9,_,rfl,y10,_,rfl,rfl⟩:=h2
  have Tz:=xP.Tz h.wt
  exact⟨(bT.mk y0 y1 y2 y3 y4 (y5,y6,y7,y8) y9 y10),rfl,Tz⟩
theorem bulk_pos{H:Type}(d:DataW H):1≤Rows.uptoBulk d:=by cases d<;>(try rename_i l; cases l)<;>simp[Rows.uptoBulk]
theorem bulk_mem{H:Type}:∀(l:List (DataW H)) (d:DataW H),d∈l→Rows.uptoBulk d≤Rows.uptoBulkAll l
  |x::r,d,h=>by
    simp only[Rows.uptoBulkAll]
    rcases List.mem_cons.1 h with rfl|h
    · omega
    · have:=bulk_mem r d h; omega
theorem bulk_len{H:Type}:∀l:List (DataW H),l.length≤Rows.uptoBulkAll l
  |[]=>Nat.zero_le _
  |x::r=>by
    have:=bulk_len r; have:=bulk_pos x
    simp only[Rows.uptoBulkAll,List.length_cons]; omega
theorem bulk1{H:Type}(e r:List (DataW H))(h:Rows.uptoBulk (.slice e r)≤1048576):e.length≤1048576∧∀d∈e++r,Rows.uptoBulk d≤1048576:=by
  simp only[Rows.uptoBulk]at h
  have:=bulk_len e
  refine⟨by omega,fun d hd=> ?_⟩
  rcases List.mem_append.1 hd with q|q
  · have:=bulk_mem _ _ q; omega
  · have:=bulk_mem _ _ q; omega
theorem bulk2{H:Type}(l:List (DataW H))(h:Rows.uptoBulk (.agg l)≤1048576):∀d∈l,Rows.uptoBulk d≤1048576:=fun d hd=>by
  simp only[Rows.uptoBulk]at h
  have:=bulk_mem _ _ hd; omega
theorem bulk_at{H:Type}{l:List (DataW H)}{j:Nat}{d:DataW H}(h:Rows.uptoBulkAll l≤1048576)(hj:l[j]? =some d):Rows.uptoBulk d≤1048576:=Nat.le_trans (bulk_mem _ _ (List.mem_of_getElem? hj)) h
theorem walk{HH:Type}{enc:TypeId×Value→HH}{W:World}{v0 v1:Value}{d0 d1:DataW HH}{p0 p1:List MemPlace}{ds:List (DataW HH)}(hz:Rows.uptoBulkAll ds≤1048576)(c0:∃us,v0= .agg us)(hd0:ds[0]? =some d0)(c1:v1.cells.toList=[v1])(hd1:ds[1]? =some d1)
    (h0:DataW.Trod enc Tryz.prog W 0 (fun _=>true) true 25 v0 d0 p0) (h1:DataW.Trod enc Tryz.prog W 0 (fun _=>true) true 26 v1 d1 p1):
    Calls Tryz.prog 5 #[v0,v1] W fun e w'=>e= .returned (.bool true)∧Below W.heap.size W w':=by
  obtain⟨f0,q0⟩:=h0
  obtain⟨N0,K0,a0,g0,l0,w0⟩:=Tv (B:=1048576) (S:=fun d=>Rows.uptoBulk d≤1048576) bulk1 bulk2 8 25 (by kernel_rfl) f0 _ _ _ _ q0 (bulk_at hz hd0) (HR.nil W) VJ.nil
  have ro0:=(VJ.nil).adds g0
  obtain⟨f1,q1⟩:=h1
  obtain⟨N1,K1,a1,g1,l1,w1⟩:=Tv (B:=1048576) (S:=fun d=>Rows.uptoBulk d≤1048576) bulk1 bulk2 8 26 (by kernel_rfl) f1 _ _ _ _ q1 (bulk_at hz hd1) g0.hr ro0
  have ro1:=(ro0).adds g1
  have L0:=(l0.mono (Ext.app _ N1))
  obtain⟨x0,rfl,z0⟩:=cells8_G_kit_Fill (w0.app (K:=K1))
  obtain⟨v0u,rfl⟩:=c0
  have L1:=l1
  obtain⟨s1,rfl,r1⟩:=fJ.QZ (T:=aW) (R:=fun x=>F5 aW x) Tryz.underlying26 (fun _ h=>cells7_G_api_Thing h) (w1)
  rw[c1]at L1
  refine CALL.law (args:=[bn.enc x0,s1.v]) (WR z0 r1) g1.hr ?_ ro1
  exact VL.cons (VL.agg L0) (VL.cons (L1.2 0 _ _ rfl rfl) (VL.nil _))
theorem own:ownKnob Tryz.prog.godebug=none:=by kernel_rfl
theorem laidB:laidOutB Tryz.prog=true:=by kernel_rfl
set_option maxRecDepth 100000 in
theorem lifted(os:Os)(started:os.Started)(H:Type)(enc:TypeId×Value→H)(F:Stop.Interp):
    ReturnsInHanded {} Tryz.checked os 5 .any ((Rows.OpenSpec.upto Rows.viewPlainSpec).preRow enc Tryz.prog Tryz.f5 Rows.viewPlainUptoRow.domain false Rows.viewPlainUptoRow.laid) (((Rows.OpenSpec.upto Rows.viewPlainSpec).at F).post enc Tryz.prog Tryz.f5 false true false false):=by
  refine returnsInHanded_of_row (C:=Tryz.checked) (s:=Rows.OpenSpec.upto Rows.viewPlainSpec) own started (by kernel_rfl) Tryz.func5
    ⟨World.laidAll Tryz.prog os Rows.viewPlainUptoRow.laid,fun _ _=>0,⟨#[],#[.agg #[.slice none 0 0,.slice none 0 0,.bool false],.slice none 0 0],[]⟩,World.laidAll_os _ _ _,World.shaped_of_ZipB (by kernel_rfl) (by kernel_rfl),rfl,(Input.okWide_of_okWideB (by kernel_rfl)).2,
      OpenSpec.preRow_of_cond 8 (x:=([.agg [.nil,.nil,.lit (.bool false)],.nil],[],[])) (by kernel_rfl) (by kernel_rfl) (fun k hk=>by cases hk; kernel_rfl) (by kernel_rfl) (by rw[MakeChecks.laidMetH_plain _ _ _ (by kernel_rfl)]; exact laidMet_laidAll _ (by kernel_rfl) (by kernel_rfl)),by
        simp only[Assume.holds]
        exact⟨by simp,by simp,fun _=>Modest.zero,by simp,by simp⟩⟩ ?_
  intro W base args ds gs before hval0 hW _ hk _ hL _ _
  have hval:∀(j:Nat) t v,Tryz.f5.params[j]? =some t→args[j]? =some v→Value.okWide Tryz.prog W .any base t v:=hval0
  have hW':=hW
  obtain⟨p,q,hA0,hV,rfl,_,_⟩:=hW
  have hA:DataW.TrodAll enc Tryz.prog W 0 (fun _=>true) true Tryz.f5.params.toList args.toList ds p:=hA0
  rw[Tryz.params5]at hA hval
  obtain⟨v0,v1,d0,d1,p0,p1,rfl,rfl,rfl,h0,h1⟩:=trodAll_two hA
  obtain⟨rfl,rfl⟩:=trodVars_none hV
  clear hA0 hval0
  have c0:∃us,v0= .agg us:=by obtain⟨us,rfl,_⟩:=okWide_struct Tryz.underlying25 (hval 0 25 v0 rfl rfl); exact⟨us,rfl⟩
  have c1:=cells_slice Tryz.underlying26 (hval 1 26 v1 rfl rfl)
  have hlt0:∀x∈p0,x.block<W.heap.size:=fun x hx=>hW'.lt x (by simp[hx])
  have hlt1:∀x∈p1,x.block<W.heap.size:=fun x hx=>hW'.lt x (by simp[hx])
  refine(walk (ds:=_) (of_decide_eq_true (hk _ rfl)) c0 rfl c1 rfl h0 h1).mono fun e W' ⟨he,bel⟩=> ?_
  subst he
  exact⟨_,rfl,_,_,_,[],_,[],hW',trodAll_mk1 (shut_bool Tryz.underlying4 _),trodAll_mk2 (Below.trod laidB (by kernel_rfl) (of_decide_eq_true (by kernel_rfl)) h0 bel hlt0) (Below.trod laidB (by kernel_rfl) (of_decide_eq_true (by kernel_rfl)) h1 bel hlt1),rfl,bel.frame _,fun h=>by cases h⟩
theorem over:Rows.ViewPlainUptoSaid:=
  OpenClaim.holds_of_cond 5 Tryz.f5 rfl rfl rfl rfl rfl rfl rfl ⟨rfl,rfl,rfl,rfl,rfl⟩ rfl rfl rfl rfl rfl (by kernel_rfl) Tryz.func5 (by kernel_rfl)
    (of_decide_eq_true (by kernel_rfl)) (by unfold Func.isWrapper; first|(rw[if_pos (by decide +kernel)]; kernel_rfl)|(rw[if_neg (by decide +kernel)]; exact⟨rfl,rfl⟩))
    (fun os started H enc _ F=>by rw[OpenClaim.pre_eq_preRow]; exact lifted os started H enc F)
theorem proved:Rows.ViewPlainUptoCardSaid:=
  Claim7.holds_tied_plain_at .later [] _ _ _ _ over (fun _ h=>by cases h) (by kernel_rfl) (fun _ h=>by cases h) viewPlainUpto_row_tie rfl ⟨rfl,rfl⟩ (by kernel_rfl) rfl
    (fun f fn hf hfn=>by
      obtain rfl:f=5:=Option.some.inj ((show Tryz.prog.funcNamed "gambit/gambitlaw20.ViewPlain" =some 5 by kernel_rfl).symm.trans hf) |>.symm
      obtain rfl:fn=Tryz.f5:=(Option.some.inj (Tryz.func5.symm.trans hfn)).symm
      exact⟨by kernel_rfl,fun j t ht=>by
        rw[Tryz.params5]at ht
        match j,ht with
        |0,ht=>cases ht; show Program.wantsStandIn _ _=false; kernel_rfl
        |1,ht=>cases ht; show Program.wantsStandIn _ _=false; kernel_rfl
        |j+2,ht=>simp at ht⟩)
    (by kernel_rfl)
#print axioms proved
end Go.Proofs.YtijnknjopjmiiaaGreatDoor.viewPlain
namespace Go.Proofs.YtijnknjopjmiiaaGreatDoor
/-- The card,under a short name,for the claim. -/
theorem viewPlainUpto_card:Rows.ViewPlainUptoCardSaid:=viewPlain.proved
end Go.Proofs.YtijnknjopjmiiaaGreatDoor
