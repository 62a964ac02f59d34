/- ViewTable of the set: the call of the Go function returns true and leaves all memory that was there as it was. Condition: what is handed in is of the bulk that the given statement's second form has. -/
import Derived.Test.YtijnknjopjmiiaaGreatDoorKViewTable7
import Derived.Test.YtijnknjopjmiiaaGreatDoorCards
import Derived.Test.YtijnknjopjmiiaaGreatDoorTie
import Derived.WalkKit
import Derived.ProofKit
import Derived.OpenShut
import Derived.ShutString
import Derived.ChangeOld
import Derived.Below
import Derived.SizedLaws
import Derived.JoinedCond
import Derived.Deep.DeepHandedRow
import Derived.Lay
import Derived.LaidMore
import Derived.SevenTiedAt
namespace Go.Proofs.YtijnknjopjmiiaaGreatDoor.viewTable
open Go.ChangeShapes Go.WideShapes Go.ChangeAt Go.RowKit
open Zq Zv
theorem cells_slice{P:Program}{W:World}{base:Nat}{t e:TypeId}{v:Value}(ht:P.underlying t=some (.slice e))(h:Value.okWide P W .any base t v):v.cells.toList=[v]:=by
  obtain⟨a,len,cap,rfl⟩:=okWide_slice ht h
  rfl
theorem cells4_G_api_Part{H:Heap}{a:List Value}(h:fG 1048576 Tryz.prog H 4 58 a):∃x:aX,a=Tag.cells aT x∧Df aT x:=by
  have h2:=vC.Xd (ss:=[.i .u8,.i .u8,.i .u8,.i .i64,.i .u8,.i .u8,.i .u8,.s]) h.wt (by kernel_rfl)
  obtain⟨y0,_,rfl,y1,_,rfl,y2,_,rfl,y3,_,rfl,y4,_,rfl,y5,_,rfl,y6,_,rfl,y7,_,rfl,rfl⟩:=h2
  have Md:=vC.Md h.wt
  exact⟨(aX.mk y0 y1 y2 y3 y4 y5 y6 y7),rfl,Md⟩
theorem cells6_G_api_Card{H:Heap}{a:List Value}(h:fG 1048576 Tryz.prog H 6 97 a):∃x:ay,a=Tag.cells aA x∧Df aA x∧U3 aT (fun x=>Df aT x) H x.Parts:=by
  have h2:=vC.Xd (ss:=[.s,.i .u8,.i .u8,.i .i64,.i .i64,.i .i64,.i .u16,.b,.sl]) h.wt (by kernel_rfl)
  obtain⟨y0,_,rfl,y1,_,rfl,y2,_,rfl,y3,_,rfl,y4,_,rfl,y5,_,rfl,y6,_,rfl,y7,_,rfl,y8,_,rfl,rfl⟩:=h2
  have Md:=vC.Md h.wt
  have w1:fG 1048576 Tryz.prog H 5 95 [Sl.v y8]:=by
    have h9:fG 1048576 Tryz.prog H 5 95 (List.take (Tryz.prog.cellsOf 95) (List.drop _ _)):=fG.fld (i:=8) (off:=8) Tryz.underlying97 rfl (by kernel_rfl) h
    rw[show Tryz.prog.cellsOf 95=1 by kernel_rfl]at h9
    exact h9
  obtain⟨s8,e8,f8⟩:=fG.Lu (T:=aT) (R:=fun x=>Df aT x) Tryz.underlying95 (fun _ h=>cells4_G_api_Part h) w1
  have q8:y8=s8:=Sl.Zu (by simpa using e8)
  subst q8
  exact⟨(ay.mk y0 y1 y2 y3 y4 y5 y6 y7 y8),rfl,Md,f8⟩
theorem cells6_G_api_MarkInfo{H:Heap}{a:List Value}(h:fG 1048576 Tryz.prog H 6 101 a):∃x:ak,a=Tag.cells aQ x∧Df aQ x:=by
  have h2:=vC.Xd (ss:=[.i .u8,.s,.i .i64,.i .i64]) h.wt (by kernel_rfl)
  obtain⟨y0,_,rfl,y1,_,rfl,y2,_,rfl,y3,_,rfl,rfl⟩:=h2
  have Md:=vC.Md h.wt
  exact⟨(ak.mk y0 y1 y2 y3),rfl,Md⟩
theorem cells8_G_kit_Fill{H:Heap}{a:List Value}(h:fG 1048576 Tryz.prog H 8 25 a):∃x:bM,a=Tag.cells bC x∧Df bC x∧U3 aA (fun x=>Df aA x∧U3 aT (fun x=>Df aT x) H x.Parts) H x.Cards∧U3 aQ (fun x=>Df aQ x) H x.Marks:=by
  have h2:=vC.Xd (ss:=[.sl,.sl,.b]) h.wt (by kernel_rfl)
  obtain⟨y0,_,rfl,y1,_,rfl,y2,_,rfl,rfl⟩:=h2
  have Md:=vC.Md h.wt
  have w1:fG 1048576 Tryz.prog H 7 22 [Sl.v y0]:=by
    have h9:fG 1048576 Tryz.prog H 7 22 (List.take (Tryz.prog.cellsOf 22) (List.drop _ _)):=fG.fld (i:=0) (off:=0) Tryz.underlying25 rfl (by kernel_rfl) h
    rw[show Tryz.prog.cellsOf 22=1 by kernel_rfl]at h9
    exact h9
  obtain⟨s0,e0,f0⟩:=fG.Lu (T:=aA) (R:=fun x=>Df aA x∧U3 aT (fun x=>Df aT x) H x.Parts) Tryz.underlying22 (fun _ h=>cells6_G_api_Card h) w1
  have q0:y0=s0:=Sl.Zu (by simpa using e0)
  subst q0
  have w2:fG 1048576 Tryz.prog H 7 23 [Sl.v y1]:=by
    have h9:fG 1048576 Tryz.prog H 7 23 (List.take (Tryz.prog.cellsOf 23) (List.drop _ _)):=fG.fld (i:=1) (off:=1) Tryz.underlying25 rfl (by kernel_rfl) h
    rw[show Tryz.prog.cellsOf 23=1 by kernel_rfl]at h9
    exact h9
  obtain⟨s1,e1,f1⟩:=fG.Lu (T:=aQ) (R:=fun x=>Df aQ x) Tryz.underlying23 (fun _ h=>cells6_G_api_MarkInfo h) w2
  have q1:y1=s1:=Sl.Zu (by simpa using e1)
  subst q1
  exact⟨(bM.mk y0 y1 y2),rfl,Md,f0,f1⟩
theorem cells7_G_api_Thing{H:Heap}{a:List Value}(h:fG 1048576 Tryz.prog H 7 46 a):∃x:bn,a=Tag.cells aV x∧Df aV x:=by
  have h2:=vC.Xd (ss:=[.i .i64,.i .i64,.i .u8,.i .i64,.i .i64,.i .i64,.i .i64,.i .i64,.i .i64,.i .i64,.b]) h.wt (by kernel_rfl)
  obtain⟨y0,_,rfl,y1,_,rfl,y2,_,rfl,y3,_,rfl,y4,_,rfl,y5,_,rfl,y6,_,rfl,y7,_,rfl,y8,_,rfl,y9,_,rfl,y10,_,rfl,rfl⟩:=h2
  have Md:=vC.Md h.wt
  exact⟨(bn.mk y0 y1 y2 y3 y4 (y5,y6,y7,y8) y9 y10),rfl,Md⟩
theorem cells7_int_i64{H:Heap}{a:List Value}(h:fG 1048576 Tryz.prog H 7 3 a):∃x:Int,a=Tag.cells (au .i64) x∧Df (au .i64) x:=by
  have h2:=vC.Xd (ss:=[.i .i64]) h.wt (by kernel_rfl)
  obtain⟨y0,_,rfl,rfl⟩:=h2
  have Md:=vC.Md h.wt
  exact⟨y0,rfl,Md⟩
theorem bulk_pos{H:Type}(d:DataW H):1≤Rows.uptoBulk d:=by cases d<;>(try rename_i l; cases l)<;>simp[Rows.uptoBulk]
theorem bulk_mem{H:Type}:∀(l:List (DataW H)) (d:DataW H),d∈l→Rows.uptoBulk d≤Rows.uptoBulkAll l
  |x::r,d,h=>by
    simp only[Rows.uptoBulkAll]
    rcases List.mem_cons.1 h with rfl|h
    · omega
    · have:=bulk_mem r d h; omega
theorem bulk_len{H:Type}:∀l:List (DataW H),l.length≤Rows.uptoBulkAll l
  |[]=>Nat.zero_le _
  |x::r=>by
    have:=bulk_len r; have:=bulk_pos x
    simp only[Rows.uptoBulkAll,List.length_cons]; omega
theorem bulk1{H:Type}(e r:List (DataW H))(h:Rows.uptoBulk (.slice e r)≤1048576):e.length≤1048576∧∀d∈e++r,Rows.uptoBulk d≤1048576:=by
  simp only[Rows.uptoBulk]at h
  have:=bulk_len e
  refine⟨by omega,fun d hd=> ?_⟩
  rcases List.mem_append.1 hd with q|q
  · have:=bulk_mem _ _ q; omega
  · have:=bulk_mem _ _ q; omega
theorem bulk2{H:Type}(l:List (DataW H))(h:Rows.uptoBulk (.agg l)≤1048576):∀d∈l,Rows.uptoBulk d≤1048576:=fun d hd=>by
  simp only[Rows.uptoBulk]at h
  have:=bulk_mem _ _ hd; omega
theorem bulk_at{H:Type}{l:List (DataW H)}{j:Nat}{d:DataW H}(h:Rows.uptoBulkAll l≤1048576)(hj:l[j]? =some d):Rows.uptoBulk d≤1048576:=Nat.le_trans (bulk_mem _ _ (List.mem_of_getElem? hj)) h
theorem walk{HH:Type}{enc:TypeId×Value→HH}{W:World}{v0 v1 v2 v3:Value}{d0 d1 d2 d3:DataW HH}{p0 p1 p2 p3:List MemPlace}{ds:List (DataW HH)}(hz:Rows.uptoBulkAll ds≤1048576)(c0:∃us,v0= .agg us)(hd0:ds[0]? =some d0)(c1:v1.cells.toList=[v1])(hd1:ds[1]? =some d1)(c2:v2.cells.toList=[v2])(hd2:ds[2]? =some d2)(c3:v3.cells.toList=[v3])(hd3:ds[3]? =some d3)
    (h0:DataW.Trod enc Tryz.prog W 0 (fun _=>true) true 25 v0 d0 p0) (h1:DataW.Trod enc Tryz.prog W 0 (fun _=>true) true 26 v1 d1 p1) (h2:DataW.Trod enc Tryz.prog W 0 (fun _=>true) true 3 v2 d2 p2) (h3:DataW.Trod enc Tryz.prog W 0 (fun _=>true) true 27 v3 d3 p3):
    Calls Tryz.prog 3 #[v0,v1,v2,v3] W fun e w'=>e= .returned (.bool true)∧Below W.heap.size W w':=by
  obtain⟨f0,q0⟩:=h0
  obtain⟨N0,K0,a0,g0,l0,w0⟩:=JE (B:=1048576) (S:=fun d=>Rows.uptoBulk d≤1048576) bulk1 bulk2 8 25 (by kernel_rfl) f0 _ _ _ _ q0 (bulk_at hz hd0) (HR.nil W) Vs.nil
  have ro0:=(Vs.nil).adds g0
  obtain⟨f1,q1⟩:=h1
  obtain⟨N1,K1,a1,g1,l1,w1⟩:=JE (B:=1048576) (S:=fun d=>Rows.uptoBulk d≤1048576) bulk1 bulk2 8 26 (by kernel_rfl) f1 _ _ _ _ q1 (bulk_at hz hd1) g0.hr ro0
  have ro1:=(ro0).adds g1
  obtain⟨f2,q2⟩:=h2
  obtain⟨N2,K2,a2,g2,l2,w2⟩:=JE (B:=1048576) (S:=fun d=>Rows.uptoBulk d≤1048576) bulk1 bulk2 8 3 (by kernel_rfl) f2 _ _ _ _ q2 (bulk_at hz hd2) g1.hr ro1
  have ro2:=(ro1).adds g2
  obtain⟨f3,q3⟩:=h3
  obtain⟨N3,K3,a3,g3,l3,w3⟩:=JE (B:=1048576) (S:=fun d=>Rows.uptoBulk d≤1048576) bulk1 bulk2 8 27 (by kernel_rfl) f3 _ _ _ _ q3 (bulk_at hz hd3) g2.hr ro2
  have ro3:=(ro2).adds g3
  have L0:=(((l0.mono (Ext.app _ N1)).mono (Ext.app _ N2)).mono (Ext.app _ N3))
  obtain⟨x0,rfl,z0⟩:=cells8_G_kit_Fill (w0.app (K:=K1).app (K:=K2).app (K:=K3))
  obtain⟨v0u,rfl⟩:=c0
  have L1:=((l1.mono (Ext.app _ N2)).mono (Ext.app _ N3))
  obtain⟨s1,rfl,r1⟩:=fG.Lu (T:=aV) (R:=fun x=>Df aV x) Tryz.underlying26 (fun _ h=>cells7_G_api_Thing h) (w1.app (K:=K2).app (K:=K3))
  rw[c1]at L1
  have L2:=(l2.mono (Ext.app _ N3))
  have y2:=vC.Md (w2.app (K:=K3)).wt
  obtain⟨i2,_,rfl,rfl⟩:=vC.Xd (ss:=[.i .i64]) (w2.app (K:=K3)).wt (by kernel_rfl)
  have k2:yD (.int .i64 i2):=y2 _ (List.mem_singleton.2 rfl)
  rw[c2]at L2
  have L3:=l3
  obtain⟨s3,rfl,r3⟩:=fG.Lu (T:=(au .i64)) (R:=fun x=>Df (au .i64) x) Tryz.underlying27 (fun _ h=>cells7_int_i64 h) (w3)
  rw[c3]at L3
  refine CALL.law (args:=[bC.enc x0,s1.v,.int .i64 i2,s3.v]) (aa2 z0 r1 r3) g3.hr ?_ ro3
  exact VL.cons (VL.agg L0) (VL.cons (L1.2 0 _ _ rfl rfl) (VL.cons (L2.2 0 _ _ rfl rfl) (VL.cons (L3.2 0 _ _ rfl rfl) (VL.nil _))))
theorem own:ownKnob Tryz.prog.godebug=none:=by kernel_rfl
theorem laidB:laidOutB Tryz.prog=true:=by kernel_rfl
set_option maxRecDepth 100000 in
theorem lifted(os:Os)(started:os.Started)(H:Type)(enc:TypeId×Value→H)(F:Stop.Interp):
    ReturnsInHanded {} Tryz.checked os 3 .any ((Rows.OpenSpec.upto Rows.viewTableSpec).preRow enc Tryz.prog Tryz.f3 Rows.viewTableUptoRow.domain false Rows.viewTableUptoRow.laid) (((Rows.OpenSpec.upto Rows.viewTableSpec).at F).post enc Tryz.prog Tryz.f3 false true false false):=by
  refine returnsInHanded_of_row (C:=Tryz.checked) (s:=Rows.OpenSpec.upto Rows.viewTableSpec) own started (by kernel_rfl) Tryz.func3
    ⟨World.laidAll Tryz.prog os Rows.viewTableUptoRow.laid,fun _ _=>0,⟨#[],#[.agg #[.slice none 0 0,.slice none 0 0,.bool false],.slice none 0 0,.int .i64 0,.slice none 0 0],[]⟩,World.laidAll_os _ _ _,World.shaped_of_ZipB (by kernel_rfl) (by kernel_rfl),rfl,(Input.okWide_of_okWideB (by kernel_rfl)).2,
      OpenSpec.preRow_of_cond 8 (x:=([.agg [.nil,.nil,.lit (.bool false)],.nil,.lit (.int .i64 0),.nil],[],[])) (by kernel_rfl) (by kernel_rfl) (fun k hk=>by cases hk; kernel_rfl) (by kernel_rfl) (by rw[MakeChecks.laidMetH_plain _ _ _ (by kernel_rfl)]; exact laidMet_laidAll _ (by kernel_rfl) (by kernel_rfl)),by
        simp only[Assume.holds]
        exact⟨by simp,by simp,fun _=>Modest.zero,by simp,by simp⟩⟩ ?_
  intro W base args ds gs before hval0 hW _ hk _ hL _ _
  have hval:∀(j:Nat) t v,Tryz.f3.params[j]? =some t→args[j]? =some v→Value.okWide Tryz.prog W .any base t v:=hval0
  have hW':=hW
  obtain⟨p,q,hA0,hV,rfl,_,_⟩:=hW
  have hA:DataW.TrodAll enc Tryz.prog W 0 (fun _=>true) true Tryz.f3.params.toList args.toList ds p:=hA0
  rw[Tryz.params3]at hA hval
  obtain⟨v0,v1,v2,v3,d0,d1,d2,d3,p0,p1,p2,p3,rfl,rfl,rfl,h0,h1,h2,h3⟩:=trodAll_four hA
  obtain⟨rfl,rfl⟩:=trodVars_none hV
  clear hA0 hval0
  have c0:∃us,v0= .agg us:=by obtain⟨us,rfl,_⟩:=okWide_struct Tryz.underlying25 (hval 0 25 v0 rfl rfl); exact⟨us,rfl⟩
  have c1:=cells_slice Tryz.underlying26 (hval 1 26 v1 rfl rfl)
  have c2:v2.cells.toList=[v2]:=by obtain⟨y,rfl⟩:=okWide_int Tryz.underlying3 (hval 2 3 v2 rfl rfl); rfl
  have c3:=cells_slice Tryz.underlying27 (hval 3 27 v3 rfl rfl)
  have hlt0:∀x∈p0,x.block<W.heap.size:=fun x hx=>hW'.lt x (by simp[hx])
  have hlt1:∀x∈p1,x.block<W.heap.size:=fun x hx=>hW'.lt x (by simp[hx])
  have hlt2:∀x∈p2,x.block<W.heap.size:=fun x hx=>hW'.lt x (by simp[hx])
  have hlt3:∀x∈p3,x.block<W.heap.size:=fun x hx=>hW'.lt x (by simp[hx])
  refine(walk (ds:=_) (of_decide_eq_true (hk _ rfl)) c0 rfl c1 rfl c2 rfl c3 rfl h0 h1 h2 h3).mono fun e W' ⟨he,bel⟩=> ?_
  subst he
  exact⟨_,rfl,_,_,_,[],_,[],hW',trodAll_mk1 (shut_bool Tryz.underlying4 _),trodAll_mk4 (Below.trod laidB (by kernel_rfl) (of_decide_eq_true (by kernel_rfl)) h0 bel hlt0) (Below.trod laidB (by kernel_rfl) (of_decide_eq_true (by kernel_rfl)) h1 bel hlt1) (Below.trod laidB (by kernel_rfl) (of_decide_eq_true (by kernel_rfl)) h2 bel hlt2) (Below.trod laidB (by kernel_rfl) (of_decide_eq_true (by kernel_rfl)) h3 bel hlt3),rfl,bel.frame _,fun h=>by cases h⟩
theorem over:Rows.ViewTableUptoSaid:=
  OpenClaim.holds_of_cond 3 Tryz.f3 rfl rfl rfl rfl rfl rfl rfl ⟨rfl,rfl,rfl,rfl,rfl⟩ rfl rfl rfl rfl rfl (by kernel_rfl) Tryz.func3 (by kernel_rfl)
    (of_decide_eq_true (by kernel_rfl)) (by unfold Func.isWrapper; first|(rw[if_pos (by decide +kernel)]; kernel_rfl)|(rw[if_neg (by decide +kernel)]; exact⟨rfl,rfl⟩))
    (fun os started H enc _ F=>by rw[OpenClaim.pre_eq_preRow]; exact lifted os started H enc F)
theorem proved:Rows.ViewTableUptoCardSaid:=
  Claim7.holds_tied_plain_at .later [] _ _ _ _ over (fun _ h=>by cases h) (by kernel_rfl) (fun _ h=>by cases h) viewTableUpto_row_tie rfl ⟨rfl,rfl⟩ (by kernel_rfl) rfl
    (fun f fn hf hfn=>by
      obtain rfl:f=3:=Option.some.inj ((show Tryz.prog.funcNamed "gambit/gambitlaw20.ViewTable" =some 3 by kernel_rfl).symm.trans hf) |>.symm
      obtain rfl:fn=Tryz.f3:=(Option.some.inj (Tryz.func3.symm.trans hfn)).symm
      exact⟨by kernel_rfl,fun j t ht=>by
        rw[Tryz.params3]at ht
        match j,ht with
        |0,ht=>cases ht; show Program.wantsStandIn _ _=false; kernel_rfl
        |1,ht=>cases ht; show Program.wantsStandIn _ _=false; kernel_rfl
        |2,ht=>cases ht; show Program.wantsStandIn _ _=false; kernel_rfl
        |3,ht=>cases ht; show Program.wantsStandIn _ _=false; kernel_rfl
        |j+4,ht=>simp at ht⟩)
    (by kernel_rfl)
#print axioms proved
end Go.Proofs.YtijnknjopjmiiaaGreatDoor.viewTable
namespace Go.Proofs.YtijnknjopjmiiaaGreatDoor
/-- The card,under a short name,for the claim. -/
theorem viewTableUpto_card:Rows.ViewTableUptoCardSaid:=viewTable.proved
end Go.Proofs.YtijnknjopjmiiaaGreatDoor
