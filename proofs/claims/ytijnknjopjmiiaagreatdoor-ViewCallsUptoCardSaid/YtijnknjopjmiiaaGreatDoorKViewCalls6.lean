/- Part 6 of the proof of ViewCalls: what its row stands on (lemmas about the model, the evaluator, contracts of functions), put together and cut to what is used. -/
import Derived.Test.YtijnknjopjmiiaaGreatDoorKViewCalls5
import Derived.KernelRfl
section
namespace Go.Proofs.YtijnknjopjmiiaaGreatDoor
open Go Zq
namespace Zv
set_option maxRecDepth 100000
set_option linter.unusedVariables false
def mQ(a0:aK)(a1:Sl)(a2:Sl)(H:Heap)(Q:Int×Unit->Heap->Prop):Prop:=
JOIN (fun(j1:(Int×Int×Unit)×(Unit)->Heap->Prop)=>
LOOP (fun(r3:(Int×Int×Int×Unit)×(Unit)->Heap->Prop) (s4:(Int×Int×Int×Unit)×(Unit)) H2=>
aN (decide (s4.1.2.2.1<(a2.len:Int))) (
JOIN (fun(j5:(Int×Int×Unit)×(Unit)->Heap->Prop)=>
bQ a2.p a2.len s4.1.2.2.1 10 fun b7 o8=>
LD ay H2 b7 o8 fun(x9:aF)=>
JOIN (fun(j10:(Bool×Unit)×(Unit)->Heap->Prop)=>
aN (decide (s4.1.2.1<0)) (
j10 ((true,()),(())) H2) (
bQ a2.p a2.len s4.1.2.1 10 fun b12 o13=>
LD ay H2 b12 o13 fun(x14:aF)=>
CALL P [ah] iW [(aJ.enc a0),(ay.enc x9),(ay.enc x14)] H2 fun(x15:Bool×Unit) H5=>
j10 ((x15.1,()),(())) H5)) fun(y11:(Bool×Unit)×(Unit)) H4=>
JOIN (fun(j16:(Int×Unit)×(Unit)->Heap->Prop)=>
aN y11.1.1 (
j16 ((s4.1.2.2.1,()),(())) H4) (
j16 ((s4.1.2.1,()),(())) H4)) fun(y17:(Int×Unit)×(Unit)) H6=>
JOIN (fun(j18:(Unit)×(Unit)->Heap->Prop)=>
LOOP (fun(r20:(Int×Unit)×(Unit)->Heap->Prop) (s21:(Int×Unit)×(Unit)) H8=>
aN (decide (s21.1.1<(a2.len:Int))) (
bQ a2.p a2.len s21.1.1 10 fun b22 o23=>
LD ay H8 b22 o23 fun(x24:aF)=>
JOIN (fun(j25:(Bool×Unit)×(Unit)->Heap->Prop)=>
aN (s21.1.1 !=s4.1.2.2.1) (
CALL P [ah] jO [(aJ.enc a0),a1.v,(ay.enc x9),(ay.enc x24)] H8 fun(x27:Bool×Unit) H10=>
j25 ((x27.1,()),(())) H10) (
j25 ((false,()),(())) H8)) fun(y26:(Bool×Unit)×(Unit)) H9=>
aN y26.1.1 (
j5 ((s4.1.1,y17.1.1,()),(())) H9) (
r20 ((IntKind.wrap .i64 (s21.1.1+1),()),(())) H9)) (
j18 ((()),(())) H8)) ((0,()),(())) H6) fun(y19:(Unit)×(Unit)) H7=>
JOIN (fun(j28:(Bool×Unit)×(Unit)->Heap->Prop)=>
aN (decide (s4.1.1<0)) (
j28 ((true,()),(())) H7) (
bQ a2.p a2.len s4.1.1 10 fun b30 o31=>
LD ay H7 b30 o31 fun(x32:aF)=>
CALL P [ah] iW [(aJ.enc a0),(ay.enc x9),(ay.enc x32)] H7 fun(x33:Bool×Unit) H12=>
j28 ((x33.1,()),(())) H12)) fun(y29:(Bool×Unit)×(Unit)) H11=>
JOIN (fun(j34:(Int×Unit)×(Unit)->Heap->Prop)=>
aN y29.1.1 (
j34 ((s4.1.2.2.1,()),(())) H11) (
j34 ((s4.1.1,()),(())) H11)) fun(y35:(Int×Unit)×(Unit)) H13=>
j5 ((y35.1.1,y17.1.1,()),(())) H13) fun(y6:(Int×Int×Unit)×(Unit)) H3=>
r3 ((y6.1.1,y6.1.2.1,IntKind.wrap .i64 (s4.1.2.2.1+1),()),(())) H3) (
j1 ((s4.1.1,s4.1.2.1,()),(())) H2)) (((-1),(-1),0,()),(())) H) fun(y2:(Int×Int×Unit)×(Unit)) H1=>
aN (decide (y2.1.1≥0)) (
Q (y2.1.1,()) H1) (
Q (y2.1.2.1,()) H1)
def GN:dw:=(.seq .leaf (.seq .leaf (.seq .leaf (.seq (.seq .leaf (.blk (some ⟨[(7,(aj .i64)),(8,(aj .i64))],[],(rg 9 4 (rg 15 48 []))⟩) (.loop ⟨[(7,(aj .i64)),(8,(aj .i64)),(15,(aj .i64))],[],(rg 9 4 (rg 16 47 []))⟩ (.seq .leaf (.seq .leaf (.seq (.blk (some ⟨[(7,(aj .i64)),(8,(aj .i64))],[],(rg 9 4 (rg 17 45 []))⟩) (.seq .leaf (.seq (.seq (.reg ⟨[(30,ah)],[],(rg 20 10 [])⟩) (.cond (some ⟨[(8,(aj .i64))],[],[31]⟩) .leaf .leaf)) (.seq (.seq .leaf (.blk (some ⟨[],[],(rg 11 2 (rg 34 16 []))⟩) (.loop ⟨[(34,(aj .i64))],[],(rg 11 2 (rg 35 15 []))⟩ (.seq .leaf (.seq .leaf (.seq (.blk none (.seq .leaf (.seq (.reg ⟨[(48,ah)],[],(rg 39 9 [])⟩) .leaf))) .leaf)))))) (.seq (.reg ⟨[(60,ah)],[],(rg 50 10 [])⟩) (.cond (some ⟨[(7,(aj .i64))],[],[61]⟩) .leaf .leaf)))))) .leaf)))))) .leaf))))
theorem GR(a0:aK)(a1:Sl)(a2:Sl)(H:Heap)(Q:Int×Unit->Heap->Prop):mQ a0 a1 a2 H Q=dN C [3,10,12] Tryz.f97.ntmps Tryz.f97.results.toList [(aj .i64)] (aP Tryz.f97) GN [(aJ.enc a0),a1.v,a2.v] H Q:=by kernel_rfl
theorem GU{a0:aK}{a1:Sl}{a2:Sl}{H:Heap}{Q:Int×Unit->Heap->Prop}(h:mQ a0 a1 a2 H Q):CALL P [(aj .i64)] mF [(aJ.enc a0),a1.v,a2.v] H Q:=aC hE Tryz.func97 rfl (by kernel_rfl) (GR a0 a1 a2 H Q) h
def dK(a0:Sl)(a1:Int)(a2:Int)(H:Heap)(Q:Sl×Unit->Heap->Prop):Prop:=
dW aH (dH E 37 a0.v (some (.int .i64 a1)) (some (.int .i64 a2)) (some (.int .i64 (a0.len:Int))) H) fun(x1:Sl)=>
aN (a1==a2) (
Q (a0,()) H) (
dW aH (dH E 37 a0.v none (some (.int .i64 a1)) none H) fun(x2:Sl)=>
dW aH (dH E 37 a0.v (some (.int .i64 a2)) none none H) fun(x3:Sl)=>
vk aH (lenV x2.v+(lX x3.v).getD 0) (dF E [37,37] x2.v x3.v H) fun(x4:Sl) H1=>
dW aH (dH E 37 x4.v (some (.int .i64 (x4.len:Int))) (some (.int .i64 (a0.len:Int))) none H1) fun(x5:Sl)=>
agq (zi E [37] x5.v H1) fun H2=>
Q (x4,()) H2)
def jD:dw:=.leaf
theorem jE(a0:Sl)(a1:Int)(a2:Int)(H:Heap)(Q:Sl×Unit->Heap->Prop):dK a0 a1 a2 H Q=dN C [] Tryz.f98.ntmps Tryz.f98.results.toList [aH] (aP Tryz.f98) jD [a0.v,(.int .i64 a1),(.int .i64 a2)] H Q:=by kernel_rfl
theorem jF{a0:Sl}{a1:Int}{a2:Int}{H:Heap}{Q:Sl×Unit->Heap->Prop}(h:dK a0 a1 a2 H Q):CALL P [aH] dJ [a0.v,(.int .i64 a1),(.int .i64 a2)] H Q:=aC hE Tryz.func98 rfl (by kernel_rfl) (jE a0 a1 a2 H Q) h
def dP(a0:Sl)(H:Heap)(Q:Sl×Unit->Heap->Prop):Prop:=
aN a0.p.isNone (
Q ((Sl.mk none 0 0),()) H) (
NEW H [] 10 fun H1=>
vk aH (lenV ((Sl.mk (some ⟨H.length,0,none⟩) 0 0)).v+(lX a0.v).getD 0) (dF E [37,37] ((Sl.mk (some ⟨H.length,0,none⟩) 0 0)).v a0.v H1) fun(x1:Sl) H2=>
Q (x1,()) H2)
def jP:dw:=.leaf
theorem jQ(a0:Sl)(H:Heap)(Q:Sl×Unit->Heap->Prop):dP a0 H Q=dN C [] Tryz.f99.ntmps Tryz.f99.results.toList [aH] (aP Tryz.f99) jP [a0.v] H Q:=by kernel_rfl
theorem jR{a0:Sl}{H:Heap}{Q:Sl×Unit->Heap->Prop}(h:dP a0 H Q):CALL P [aH] dO [a0.v] H Q:=aC hE Tryz.func99 rfl (by kernel_rfl) (jQ a0 H Q) h
def DI(a0:aA)(H:Heap)(Q:Int×Unit->Heap->Prop):Prop:=
CALL P [ah] zS [(.string a0.Name)] H fun(x1:Bool×Unit) H1=>
aN (!x1.1) (
Q (4,()) H1) (
JOIN (fun(j2:(Bool×Unit)×(Unit)->Heap->Prop)=>
CALL P [eH] CY [(.int .u8 a0.Suit)] H1 fun(x4:ByteArray×Unit) H3=>
aN (x4.1.toList==(ByteArray.mk #[]).toList) (
j2 ((true,()),(())) H3) (
CALL P [eH] CZ [(.int .u8 a0.Kind)] H3 fun(x5:ByteArray×Unit) H4=>
j2 ((x5.1.toList==(ByteArray.mk #[]).toList,()),(())) H4)) fun(y3:(Bool×Unit)×(Unit)) H2=>
aN y3.1.1 (
Q (8,()) H2) (
JOIN (fun(j6:(Bool×Unit)×(Unit)->Heap->Prop)=>
CALL P [ah] lS [(.int .i64 a0.Cost),(.int .i64 10)] H2 fun(x8:Bool×Unit) H6=>
aN (!x8.1) (
j6 ((true,()),(())) H6) (
CALL P [ah] lS [(.int .i64 a0.Power),(.int .i64 99)] H6 fun(x9:Bool×Unit) H7=>
aN (!x9.1) (
j6 ((true,()),(())) H7) (
CALL P [ah] lS [(.int .i64 a0.Health),(.int .i64 99)] H7 fun(x10:Bool×Unit) H8=>
j6 ((!x10.1,()),(())) H8))) fun(y7:(Bool×Unit)×(Unit)) H5=>
aN y7.1.1 (
Q (2,()) H5) (
JOIN (fun(j11:(Bool×Unit)×(Unit)->Heap->Prop)=>
aN (a0.Kind==1) (
aN (a0.Health==0) (
j11 ((true,()),(())) H5) (
aN (!(a0.Kind==1)) (
aN (a0.Power !=0) (
j11 ((true,()),(())) H5) (
j11 ((a0.Health !=0,()),(())) H5)) (
j11 ((false,()),(())) H5))) (
aN (!(a0.Kind==1)) (
aN (a0.Power !=0) (
j11 ((true,()),(())) H5) (
j11 ((a0.Health !=0,()),(())) H5)) (
j11 ((false,()),(())) H5))) fun(y12:(Bool×Unit)×(Unit)) H9=>
aN y12.1.1 (
Q (8,()) H9) (
JOIN (fun(j13:(Bool×Unit)×(Unit)->Heap->Prop)=>
CALL P [ah] lN [(.int .u16 a0.Traits)] H9 fun(x15:Bool×Unit) H11=>
aN (!x15.1) (
j13 ((true,()),(())) H11) (
aN (a0.Kind==2) (
j13 ((a0.Token,()),(())) H11) (
j13 ((false,()),(())) H11))) fun(y14:(Bool×Unit)×(Unit)) H10=>
aN y14.1.1 (
Q (8,()) H10) (
aN (decide ((a0.Parts.len:Int)>4)) (
Q (3,()) H10) (
Q (0,()) H10))))))
def Zo:dw:=(.seq .leaf (.seq .leaf (.seq (.blk none (.seq .leaf (.cond none .leaf (.seq (.reg ⟨[(12,ah)],[],(rg 13 10 [])⟩) (.cond none .leaf (.seq (.reg ⟨[(23,ah)],[],(rg 24 16 [])⟩) (.cond none .leaf (.seq (.reg ⟨[(40,ah)],[],(rg 41 20 [])⟩) (.cond none .leaf (.seq (.reg ⟨[(61,ah)],[],(rg 62 13 [])⟩) .leaf)))))))))) .leaf)))
theorem Zp(a0:aA)(H:Heap)(Q:Int×Unit->Heap->Prop):DI a0 H Q=dN C [1] Tryz.f100.ntmps Tryz.f100.results.toList [(aj .i64)] (aP Tryz.f100) Zo [(aG.enc a0)] H Q:=by kernel_rfl
theorem Zr{a0:aA}{H:Heap}{Q:Int×Unit->Heap->Prop}(h:DI a0 H Q):CALL P [(aj .i64)] CX [(aG.enc a0)] H Q:=aC hE Tryz.func100 rfl (by kernel_rfl) (Zp a0 H Q) h
def uG(a0:aU)(H:Heap)(Q:Int×Unit->Heap->Prop):Prop:=
CALL P [ah,ah,ah,ah,ah] wZ [(.int .u8 a0.Verb),(.int .u8 a0.Whom)] H fun(x1:Bool×Bool×Bool×Bool×Bool×Unit) H1=>
CALL P [(aj .i64),(aj .i64),ah] qY [(.int .u8 a0.Verb)] H1 fun(x2:Int×Int×Bool×Unit) H2=>
JOIN (fun(j3:(Bool×Unit)×(Unit)->Heap->Prop)=>
aN (decide (a0.When<1)) (
j3 ((true,()),(())) H2) (
aN (decide (a0.When>6)) (
j3 ((true,()),(())) H2) (
aN (decide (a0.Verb<1)) (
j3 ((true,()),(())) H2) (
aN (decide (a0.Verb>19)) (
j3 ((true,()),(())) H2) (
aN (decide (a0.Whom<1)) (
j3 ((true,()),(())) H2) (
j3 ((decide (a0.Whom>10),()),(())) H2)))))) fun(y4:(Bool×Unit)×(Unit)) H3=>
aN y4.1.1 (
Q (2,()) H3) (
JOIN (fun(j5:(Bool×Unit)×(Unit)->Heap->Prop)=>
CALL P [ah] qZ [(.int .u8 a0.When),(.int .u8 a0.Verb)] H3 fun(x7:Bool×Unit) H5=>
aN (!x7.1) (
j5 ((true,()),(())) H5) (
aN (a0.Verb==11) (
j5 ((a0.Whom==9,()),(())) H5) (
j5 ((false,()),(())) H5))) fun(y6:(Bool×Unit)×(Unit)) H4=>
aN y6.1.1 (
Q (8,()) H4) (
CALL P [ah] uf [(aQ.enc a0)] H4 fun(x8:Bool×Unit) H6=>
aN (!x8.1) (
Q (13,()) H6) (
JOIN (fun(j9:(Bool×Unit)×(Unit)->Heap->Prop)=>
CALL P [ah] kX [(.int .i64 a0.Count),(.bool x1.1),(.int .i64 x2.1),(.int .i64 x2.2.1)] H6 fun(x11:Bool×Unit) H8=>
aN (!x11.1) (
j9 ((true,()),(())) H8) (
aN x1.1 (
aN (!x2.2.2.1) (
j9 ((a0.Count==0,()),(())) H8) (
j9 ((false,()),(())) H8)) (
j9 ((false,()),(())) H8))) fun(y10:(Bool×Unit)×(Unit)) H7=>
aN y10.1.1 (
Q (2,()) H7) (
JOIN (fun(j12:(Bool×Unit)×(Unit)->Heap->Prop)=>
CALL P [ah] iP [(.int .u8 a0.Suit),(.bool x1.2.1),(.int .u8 1),(.int .u8 6)] H7 fun(x14:Bool×Unit) H10=>
aN (!x14.1) (
j12 ((true,()),(())) H10) (
CALL P [ah] iy [(.int .u8 a0.Trait),(.bool x1.2.2.1),(.int .u8 1),(.int .u8 8)] H10 fun(x15:Bool×Unit) H11=>
aN (!x15.1) (
j12 ((true,()),(())) H11) (
CALL P [ah] iQ [(.int .u8 a0.Mark),(.bool x1.2.2.2.1),(.int .u8 1),(.int .u8 4)] H11 fun(x16:Bool×Unit) H12=>
j12 ((!x16.1,()),(())) H12))) fun(y13:(Bool×Unit)×(Unit)) H9=>
aN y13.1.1 (
Q (2,()) H9) (
JOIN (fun(j17:(Bool×Unit)×(Unit)->Heap->Prop)=>
aN (!(x1.2.2.2.2.1==(!(a0.Name.toList==(ByteArray.mk #[]).toList)))) (
j17 ((true,()),(())) H9) (
aN x1.2.2.2.2.1 (
CALL P [ah] xg [(.string a0.Name)] H9 fun(x19:Bool×Unit) H14=>
j17 ((!x19.1,()),(())) H14) (
j17 ((false,()),(())) H9))) fun(y18:(Bool×Unit)×(Unit)) H13=>
aN y18.1.1 (
Q (4,()) H13) (
Q (0,()) H13))))))
def Qc:dw:=(.seq .leaf (.seq .leaf (.seq .leaf (.seq (.blk none (.seq (.reg ⟨[(29,ah)],[],(rg 30 28 [])⟩) (.cond none .leaf (.seq (.reg ⟨[(58,ah)],[],(rg 59 16 [])⟩) (.cond none .leaf (.seq .leaf (.cond none .leaf (.seq (.reg ⟨[(79,ah)],[],(rg 80 19 [])⟩) (.cond none .leaf (.seq (.reg ⟨[(99,ah)],[],(rg 100 19 [])⟩) (.cond none .leaf (.seq (.reg ⟨[(119,ah)],[],(rg 120 14 [])⟩) .leaf)))))))))))) .leaf))))
theorem Qe(a0:aU)(H:Heap)(Q:Int×Unit->Heap->Prop):uG a0 H Q=dN C [1] Tryz.f101.ntmps Tryz.f101.results.toList [(aj .i64)] (aP Tryz.f101) Qc [(aQ.enc a0)] H Q:=by kernel_rfl
theorem Qg{a0:aU}{H:Heap}{Q:Int×Unit->Heap->Prop}(h:uG a0 H Q):CALL P [(aj .i64)] tZ [(aQ.enc a0)] H Q:=aC hE Tryz.func101 rfl (by kernel_rfl) (Qe a0 H Q) h
def rM(a0:ByteArray)(H:Heap)(Q:Bool×Unit->Heap->Prop):Prop:=
JOIN (fun(j1:(Bool×Unit)×(Unit)->Heap->Prop)=>
dW (aj .i64) (sJ E 9 (.string a0) H) fun(x3:Int)=>
aN (decide (x3<1)) (
j1 ((true,()),(())) H) (
dW (aj .i64) (sJ E 9 (.string a0) H) fun(x4:Int)=>
aN (decide (x4>20)) (
j1 ((true,()),(())) H) (
dW (aj .u8) (dZ E 9 (.string a0) (.int .i64 0)) fun(x5:Int)=>
j1 ((x5==45,()),(())) H))) fun(y2:(Bool×Unit)×(Unit)) H1=>
aN y2.1.1 (
Q (false,()) H1) (
JOIN (fun(j6:(Unit)×(Unit)->Heap->Prop)=>
LOOP (fun(r8:(Int×Unit)×(Unit)->Heap->Prop) (s9:(Int×Unit)×(Unit)) H3=>
dW (aj .i64) (sJ E 9 (.string a0) H3) fun(x10:Int)=>
aN (decide (s9.1.1<x10)) (
JOIN (fun(j11:(Bool×Unit)×(Unit)->Heap->Prop)=>
dW (aj .u8) (dZ E 9 (.string a0) (.int .i64 s9.1.1)) fun(x13:Int)=>
aN (x13 !=45) (
dW (aj .u8) (dZ E 9 (.string a0) (.int .i64 s9.1.1)) fun(x14:Int)=>
aN (decide (x14<97)) (
j11 ((true,()),(())) H3) (
dW (aj .u8) (dZ E 9 (.string a0) (.int .i64 s9.1.1)) fun(x15:Int)=>
j11 ((decide (x15>122),()),(())) H3)) (
j11 ((false,()),(())) H3)) fun(y12:(Bool×Unit)×(Unit)) H4=>
aN y12.1.1 (
Q (false,()) H4) (
r8 ((IntKind.wrap .i64 (s9.1.1+1),()),(())) H4)) (
j6 ((()),(())) H3)) ((0,()),(())) H1) fun(y7:(Unit)×(Unit)) H2=>
Q (true,()) H2)
def MX:dw:=(.seq .leaf (.seq (.seq (.reg ⟨[(16,ah)],[],(rg 4 12 [])⟩) .leaf) (.seq (.seq .leaf (.blk (some ⟨[],[],(rg 2 2 (rg 17 22 []))⟩) (.loop ⟨[(3,(aj .i64))],[],(rg 2 1 (rg 17 22 []))⟩ (.seq .leaf (.seq (.blk none (.seq (.reg ⟨[(38,ah)],[],(rg 23 15 [])⟩) .leaf)) .leaf))))) .leaf)))
theorem MZ(a0:ByteArray)(H:Heap)(Q:Bool×Unit->Heap->Prop):rM a0 H Q=dN C [] Tryz.f102.ntmps Tryz.f102.results.toList [ah] (aP Tryz.f102) MX [(.string a0)] H Q:=by kernel_rfl
theorem Na{a0:ByteArray}{H:Heap}{Q:Bool×Unit->Heap->Prop}(h:rM a0 H Q):CALL P [ah] qR [(.string a0)] H Q:=aC hE Tryz.func102 rfl (by kernel_rfl) (MZ a0 H Q) h
def uH(a0:Int)(a1:Int)(a2:Int)(H:Heap)(Q:Bool×Unit->Heap->Prop):Prop:=
JOIN (fun(j1:(Bool×Unit)×(Unit)->Heap->Prop)=>
aN (decide (a0≥a1)) (
j1 ((decide (a0≤a2),()),(())) H) (
j1 ((false,()),(())) H)) fun(y2:(Bool×Unit)×(Unit)) H1=>
Q (y2.1.1,()) H1
def Qh:dw:=(.seq .leaf (.seq (.reg ⟨[(6,ah)],[],(rg 7 8 [])⟩) .leaf))
theorem Qi(a0:Int)(a1:Int)(a2:Int)(H:Heap)(Q:Bool×Unit->Heap->Prop):uH a0 a1 a2 H Q=dN C [] Tryz.f103.ntmps Tryz.f103.results.toList [ah] (aP Tryz.f103) Qh [(.int .i64 a0),(.int .i64 a1),(.int .i64 a2)] H Q:=by kernel_rfl
theorem Qj{a0:Int}{a1:Int}{a2:Int}{H:Heap}{Q:Bool×Unit->Heap->Prop}(h:uH a0 a1 a2 H Q):CALL P [ah] gU [(.int .i64 a0),(.int .i64 a1),(.int .i64 a2)] H Q:=aC hE Tryz.func103 rfl (by kernel_rfl) (Qi a0 a1 a2 H Q) h
def xY(a0:Int)(H:Heap)(Q:Bool×Unit->Heap->Prop):Prop:=
Q (decide (a0<256),()) H
def TS:dw:=.leaf
theorem TT(a0:Int)(H:Heap)(Q:Bool×Unit->Heap->Prop):xY a0 H Q=dN C [] Tryz.f104.ntmps Tryz.f104.results.toList [ah] (aP Tryz.f104) TS [(.int .u16 a0)] H Q:=by kernel_rfl
theorem TU{a0:Int}{H:Heap}{Q:Bool×Unit->Heap->Prop}(h:xY a0 H Q):CALL P [ah] qp [(.int .u16 a0)] H Q:=aC hE Tryz.func104 rfl (by kernel_rfl) (TT a0 H Q) h
def xZ(a0:aU)(H:Heap)(Q:Int×Unit->Heap->Prop):Prop:=
JOIN (fun(j1:(Bool×Unit)×(Unit)->Heap->Prop)=>
aN (decide (a0.When<1)) (
j1 ((true,()),(())) H) (
aN (decide (a0.When>6)) (
j1 ((true,()),(())) H) (
aN (decide (a0.Verb<1)) (
j1 ((true,()),(())) H) (
aN (decide (a0.Verb>19)) (
j1 ((true,()),(())) H) (
aN (decide (a0.Whom<1)) (
j1 ((true,()),(())) H) (
j1 ((decide (a0.Whom>10),()),(())) H)))))) fun(y2:(Bool×Unit)×(Unit)) H1=>
aN y2.1.1 (
Q (2,()) H1) (
CALL P [ah,ah,ah,ah,ah] zT [(.int .u8 a0.Verb),(.int .u8 a0.Whom)] H1 fun(x3:Bool×Bool×Bool×Bool×Bool×Unit) H2=>
JOIN (fun(j4:(Bool×Unit)×(Unit)->Heap->Prop)=>
CALL P [(aj .i64)] sO [(.int .u8 a0.Verb)] H2 fun(x6:Int×Unit) H4=>
qB ((some (.int .u8 a0.When):Option Value)=some (.int .u8 a0.When)) (
CALL P [(aj .i64)] xk [(.int .u8 a0.When)] H4 fun(x7:Int×Unit) H5=>
aN (x6.1 !=x7.1) (
j4 ((true,()),(())) H5) (
aN (a0.Verb==11) (
j4 ((a0.Whom==9,()),(())) H5) (
j4 ((false,()),(())) H5)))) fun(y5:(Bool×Unit)×(Unit)) H3=>
aN y5.1.1 (
Q (8,()) H3) (
CALL P [ah] xq [(aQ.enc a0)] H3 fun(x8:Bool×Unit) H6=>
aN (!x8.1) (
Q (13,()) H6) (
CALL P [ah] ru [(aQ.enc a0)] H6 fun(x9:Bool×Unit) H7=>
aN (!x9.1) (
Q (2,()) H7) (
JOIN (fun(j10:(Bool×Unit)×(Unit)->Heap->Prop)=>
CALL P [ah] kD [(.bool x3.2.1),(.int .i64 (IntKind.wrap .i64 a0.Suit)),(.int .i64 6)] H7 fun(x12:Bool×Unit) H9=>
aN (!x12.1) (
j10 ((true,()),(())) H9) (
CALL P [ah] kD [(.bool x3.2.2.1),(.int .i64 (IntKind.wrap .i64 a0.Trait)),(.int .i64 8)] H9 fun(x13:Bool×Unit) H10=>
aN (!x13.1) (
j10 ((true,()),(())) H10) (
CALL P [ah] kD [(.bool x3.2.2.2.1),(.int .i64 (IntKind.wrap .i64 a0.Mark)),(.int .i64 4)] H10 fun(x14:Bool×Unit) H11=>
j10 ((!x14.1,()),(())) H11))) fun(y11:(Bool×Unit)×(Unit)) H8=>
aN y11.1.1 (
Q (2,()) H8) (
JOIN (fun(j15:(Bool×Unit)×(Unit)->Heap->Prop)=>
aN x3.2.2.2.2.1 (
CALL P [ah] zU [(.string a0.Name)] H8 fun(x17:Bool×Unit) H13=>
aN (!x17.1) (
j15 ((true,()),(())) H13) (
aN (!x3.2.2.2.2.1) (
j15 ((!(a0.Name.toList==(ByteArray.mk #[]).toList),()),(())) H13) (
j15 ((false,()),(())) H13))) (
aN (!x3.2.2.2.2.1) (
j15 ((!(a0.Name.toList==(ByteArray.mk #[]).toList),()),(())) H8) (
j15 ((false,()),(())) H8))) fun(y16:(Bool×Unit)×(Unit)) H12=>
aN y16.1.1 (
Q (4,()) H12) (
Q (0,()) H12))))))
def TV:dw:=(.seq .leaf (.seq (.seq (.reg ⟨[(35,ah)],[],(rg 8 27 [])⟩) .leaf) (.seq .leaf (.seq (.blk none (.seq (.reg ⟨[(47,ah)],[],(rg 48 17 [])⟩) (.cond none .leaf (.seq .leaf (.cond none .leaf (.seq .leaf (.cond none .leaf (.seq (.reg ⟨[(73,ah)],[],(rg 74 22 [])⟩) (.cond none .leaf (.seq (.reg ⟨[(96,ah)],[],(rg 97 16 [])⟩) .leaf)))))))))) .leaf))))
theorem TW(a0:aU)(H:Heap)(Q:Int×Unit->Heap->Prop):xZ a0 H Q=dN C [1] Tryz.f105.ntmps Tryz.f105.results.toList [(aj .i64)] (aP Tryz.f105) TV [(aQ.enc a0)] H Q:=by kernel_rfl
theorem TY{a0:aU}{H:Heap}{Q:Int×Unit->Heap->Prop}(h:xZ a0 H Q):CALL P [(aj .i64)] wX [(aQ.enc a0)] H Q:=aC hE Tryz.func105 rfl (by kernel_rfl) (TW a0 H Q) h
def yg(a0:Int)(H:Heap)(Q:Bool×Unit->Heap->Prop):Prop:=
qB ((0:Int)≤8) (
Q ((Int.fdiv a0 (2 ^ (min (8:Int).toNat (IntKind.bits .u16))))==0,()) H)
def Ua:dw:=.leaf
theorem Ub(a0:Int)(H:Heap)(Q:Bool×Unit->Heap->Prop):yg a0 H Q=dN C [] Tryz.f106.ntmps Tryz.f106.results.toList [ah] (aP Tryz.f106) Ua [(.int .u16 a0)] H Q:=by kernel_rfl
theorem Uc{a0:Int}{H:Heap}{Q:Bool×Unit->Heap->Prop}(h:yg a0 H Q):CALL P [ah] lN [(.int .u16 a0)] H Q:=aC hE Tryz.func106 rfl (by kernel_rfl) (Ub a0 H Q) h
def rO(a0:Int)(a1:Int)(c0:Nat×Nat)(H:Heap)(Q:Int×Unit->Heap->Prop):Prop:=
LD aH H c0.1 c0.2 fun(x1:Sl)=>
bQ x1.p x1.len a0 11 fun b2 o3=>
LD (aj .i64) H b2 (o3+3) fun(x4:Int)=>
LD aH H c0.1 c0.2 fun(x5:Sl)=>
bQ x5.p x5.len a1 11 fun b6 o7=>
LD (aj .i64) H b6 (o7+3) fun(x8:Int)=>
Q (IntKind.wrap .i64 (x4-x8),()) H
def Nb:dw:=.leaf
theorem Nc(a0:Int)(a1:Int)(c0:Nat×Nat)(H:Heap)(Q:Int×Unit->Heap->Prop):rO a0 a1 c0 H Q=dN C [] Tryz.f108.ntmps Tryz.f108.results.toList [(aj .i64)] (aP Tryz.f108) Nb [(.int .i64 a0),(.int .i64 a1),(.pointer (some ⟨c0.1,c0.2,none⟩))] H Q:=by kernel_rfl
theorem Nh{a0:Int}{a1:Int}{c0:Nat×Nat}{H:Heap}{Q:Int×Unit->Heap->Prop}(h:rO a0 a1 c0 H Q):CALL P [(aj .i64)] fH [(.int .i64 a0),(.int .i64 a1),(.pointer (some ⟨c0.1,c0.2,none⟩))] H Q:=aC hE Tryz.func108 rfl (by kernel_rfl) (Nc a0 a1 c0 H Q) h
def yh(a0:aU)(a1:aU)(H:Heap)(Q:Bool×Unit->Heap->Prop):Prop:=
Q (((a0.When==a1.When)&&((a0.Verb==a1.Verb)&&((a0.Whom==a1.Whom)&&((a0.Count==a1.Count)&&((a0.Suit==a1.Suit)&&((a0.Trait==a1.Trait)&&((a0.Mark==a1.Mark)&&((a0.Name.toList==a1.Name.toList)&&true)))))))),()) H
def Ud:dw:=.leaf
theorem Ue(a0:aU)(a1:aU)(H:Heap)(Q:Bool×Unit->Heap->Prop):yh a0 a1 H Q=dN C [2,3] Tryz.f109.ntmps Tryz.f109.results.toList [ah] (aP Tryz.f109) Ud [(aQ.enc a0),(aQ.enc a1)] H Q:=by kernel_rfl
theorem Uf{a0:aU}{a1:aU}{H:Heap}{Q:Bool×Unit->Heap->Prop}(h:yh a0 a1 H Q):CALL P [ah] wY [(aQ.enc a0),(aQ.enc a1)] H Q:=aC hE Tryz.func109 rfl (by kernel_rfl) (Ue a0 a1 H Q) h
def lF(a0:aK)(a1:Sl)(a2:aF)(a3:Int)(H:Heap)(Q:Bool×Unit->Heap->Prop):Prop:=
aN (a2.What.Whom==4) (
Q (a3==(IntKind.wrap .i64 (a2.Thing-1)),()) H) (
bQ a1.p a1.len a3 5 fun b1 o2=>
LD aI H b1 o2 fun(x3:aB)=>
bQ a1.p a1.len (IntKind.wrap .i64 (a2.Thing-1)) 5 fun b4 o5=>
LD (aj .i64) H b4 (o5+0) fun(x6:Int)=>
qB ((some (.int .i64 a2.Thing):Option Value)=some (.int .i64 a2.Thing)) (
LD (aj .i64) H b4 (o5+0) fun(x7:Int)=>
qB ((aj .i64).enc x7=(.int .i64 x6)) (
bQ a0.cards.p a0.cards.len a3 9 fun b8 o9=>
LD (aj .u8) H b8 (o9+2) fun(x10:Int)=>
aN (x10 !=1) (
Q (false,()) H) (
aN (a2.What.Whom==5) (
Q (x3.Holder==x6,()) H) (
aN (a2.What.Whom==6) (
Q (x3.Holder !=x6,()) H) (
aN (a2.What.Whom==7) (
Q (true,()) H) (
aN (a2.What.Whom==8) (
JOIN (fun(j11:(Bool×Unit)×(Unit)->Heap->Prop)=>
aN (x3.Holder==x6) (
j11 ((a3 !=(IntKind.wrap .i64 (a2.Thing-1)),()),(())) H) (
j11 ((false,()),(())) H)) fun(y12:(Bool×Unit)×(Unit)) H1=>
Q (y12.1.1,()) H1) (
aN (a2.What.Whom==9) (
Q (x3.Suit==a2.What.Suit,()) H) (
aN (a2.What.Whom==10) (
CALL P [ah] wB [(.int .u16 x3.Traits),(.int .u8 a2.What.Trait)] H fun(x13:Bool×Unit) H2=>
Q (x13.1,()) H2) (
Q (false,()) H))))))))))
def ET:dw:=(.seq .leaf (.seq .leaf (.seq .leaf (.seq .leaf (.seq (.seq .leaf (.blk none (.seq .leaf (.cond none .leaf (.seq .leaf (.cond none .leaf (.seq .leaf (.cond none .leaf (.seq .leaf (.cond none (.seq (.reg ⟨[(8,ah)],[],(rg 57 11 [])⟩) .leaf) .leaf)))))))))) .leaf)))))
theorem EU(a0:aK)(a1:Sl)(a2:aF)(a3:Int)(H:Heap)(Q:Bool×Unit->Heap->Prop):lF a0 a1 a2 a3 H Q=dN C [4,6,9] Tryz.f110.ntmps Tryz.f110.results.toList [ah] (aP Tryz.f110) ET [(aJ.enc a0),a1.v,(ay.enc a2),(.int .i64 a3)] H Q:=by kernel_rfl
theorem EW{a0:aK}{a1:Sl}{a2:aF}{a3:Int}{H:Heap}{Q:Bool×Unit->Heap->Prop}(h:lF a0 a1 a2 a3 H Q):CALL P [ah] kV [(aJ.enc a0),a1.v,(ay.enc a2),(.int .i64 a3)] H Q:=aC hE Tryz.func110 rfl (by kernel_rfl) (EU a0 a1 a2 a3 H Q) h
def Ap(a0:Int)(a1:Int)(H:Heap)(Q:Int×Unit->Heap->Prop):Prop:=
CALL P [(aj .u16)] qI [(.int .u8 a1)] H fun(x1:Int×Unit) H1=>
Q (IntKind.wrap .u16 (((BitVec.ofInt (IntKind.bits .u16) a0 ||| BitVec.ofInt (IntKind.bits .u16) x1.1).toNat:Int)),()) H1
def WT:dw:=.leaf
theorem WU(a0:Int)(a1:Int)(H:Heap)(Q:Int×Unit->Heap->Prop):Ap a0 a1 H Q=dN C [] Tryz.f111.ntmps Tryz.f111.results.toList [(aj .u16)] (aP Tryz.f111) WT [(.int .u16 a0),(.int .u8 a1)] H Q:=by kernel_rfl
theorem WV{a0:Int}{a1:Int}{H:Heap}{Q:Int×Unit->Heap->Prop}(h:Ap a0 a1 H Q):CALL P [(aj .u16)] zO [(.int .u16 a0),(.int .u8 a1)] H Q:=aC hE Tryz.func111 rfl (by kernel_rfl) (WU a0 a1 H Q) h
def rP(a0:Int)(a1:Int)(H:Heap)(Q:Int×Unit->Heap->Prop):Prop:=
CALL P [(aj .u16)] qI [(.int .u8 a1)] H fun(x1:Int×Unit) H1=>
Q (IntKind.wrap .u16 (((BitVec.ofInt (IntKind.bits .u16) a0 &&& ~~~BitVec.ofInt (IntKind.bits .u16) x1.1).toNat:Int)),()) H1
def Nj:dw:=.leaf
theorem Nk(a0:Int)(a1:Int)(H:Heap)(Q:Int×Unit->Heap->Prop):rP a0 a1 H Q=dN C [] Tryz.f112.ntmps Tryz.f112.results.toList [(aj .u16)] (aP Tryz.f112) Nj [(.int .u16 a0),(.int .u8 a1)] H Q:=by kernel_rfl
theorem Nl{a0:Int}{a1:Int}{H:Heap}{Q:Int×Unit->Heap->Prop}(h:rP a0 a1 H Q):CALL P [(aj .u16)] qU [(.int .u16 a0),(.int .u8 a1)] H Q:=aC hE Tryz.func112 rfl (by kernel_rfl) (Nk a0 a1 H Q) h
def rQ(a0:Option Addr)(a1:bf)(H:Heap)(Q:aB×Int×Unit->Heap->Prop):Prop:=
CALL P [aG,(aj .i64)] zV [(.pointer a0),(aV.enc a1)] H fun(x1:aA×Int×Unit) H1=>
aN (x1.2.1 !=0) (
Q ((aB.mk 0 0 0 0 0),x1.2.1,()) H1) (
JOIN (fun(j2:(Bool×Unit)×(Unit)->Heap->Prop)=>
aN (a1.Owner !=0) (
j2 ((a1.Owner !=1,()),(())) H1) (
j2 ((false,()),(())) H1)) fun(y3:(Bool×Unit)×(Unit)) H2=>
aN y3.1.1 (
Q ((aB.mk 0 0 0 0 0),2,()) H2) (
Q ((aB.mk a1.Owner x1.1.Suit x1.1.Traits x1.1.Power x1.1.Health),0,()) H2))
def Np:dw:=(.seq .leaf (.seq .leaf (.seq .leaf (.seq (.seq (.reg ⟨[(25,ah)],[],(rg 18 7 [])⟩) .leaf) .leaf))))
theorem Nq(a0:Option Addr)(a1:bf)(H:Heap)(Q:aB×Int×Unit->Heap->Prop):rQ a0 a1 H Q=dN C [3,4,6] Tryz.f113.ntmps Tryz.f113.results.toList [aI,(aj .i64)] (aP Tryz.f113) Np [(.pointer a0),(aV.enc a1)] H Q:=by kernel_rfl
theorem Nr{a0:Option Addr}{a1:bf}{H:Heap}{Q:aB×Int×Unit->Heap->Prop}(h:rQ a0 a1 H Q):CALL P [aI,(aj .i64)] qV [(.pointer a0),(aV.enc a1)] H Q:=aC hE Tryz.func113 rfl (by kernel_rfl) (Nq a0 a1 H Q) h
def yj(a0:Option Addr)(a1:Sl)(a2:Sl)(H:Heap)(Q:Int×Unit->Heap->Prop):Prop:=
CALL P [ah] bV [(.pointer a0)] H fun(x1:Bool×Unit) H1=>
aN x1.1 (
Q (1,()) H1) (
aN (decide ((a1.len:Int)>2048)) (
Q (3,()) H1) (
CALL P [ah] oV [(.pointer a0),a1.v,a2.v] H1 fun(x2:Bool×Unit) H2=>
aN (!x2.1) (
Q (2,()) H2) (
Q (0,()) H2)))
def Ug:dw:=.leaf
theorem Uh(a0:Option Addr)(a1:Sl)(a2:Sl)(H:Heap)(Q:Int×Unit->Heap->Prop):yj a0 a1 a2 H Q=dN C [] Tryz.f114.ntmps Tryz.f114.results.toList [(aj .i64)] (aP Tryz.f114) Ug [(.pointer a0),a1.v,a2.v] H Q:=by kernel_rfl
theorem Ui{a0:Option Addr}{a1:Sl}{a2:Sl}{H:Heap}{Q:Int×Unit->Heap->Prop}(h:yj a0 a1 a2 H Q):CALL P [(aj .i64)] lQ [(.pointer a0),a1.v,a2.v] H Q:=aC hE Tryz.func114 rfl (by kernel_rfl) (Uh a0 a1 a2 H Q) h
def rU(a0:Option Addr)(a1:Sl)(a2:Sl)(a3:Int)(H:Heap)(Q:Sl×Unit->Heap->Prop):Prop:=
CALL P [aH] qx [a1.v] H fun(x1:Sl×Unit) H1=>
JOIN (fun(j2:(Sl×Unit)×(Unit)->Heap->Prop)=>
LOOP (fun(r4:(Sl×Int×Unit)×(Unit)->Heap->Prop) (s5:(Sl×Int×Unit)×(Unit)) H3=>
aN (decide (s5.1.2.1<(x1.1.len:Int))) (
JOIN (fun(j6:(Sl×Unit)×(Unit)->Heap->Prop)=>
bQ x1.1.p x1.1.len s5.1.2.1 1 fun b8 o9=>
LD (aj .i64) H3 b8 o9 fun(x10:Int)=>
bQ a2.p a2.len (IntKind.wrap .i64 (x10-1)) 5 fun b11 o12=>
LD (aj .u16) H3 b11 (o12+2) fun(x13:Int)=>
CALL P [ah] wC [(.int .u16 x13),(.int .u8 6)] H3 fun(x14:Bool×Unit) H5=>
aN x14.1 (
j6 ((s5.1.1,()),(())) H5) (
bQ x1.1.p x1.1.len s5.1.2.1 1 fun b15 o16=>
LD (aj .i64) H5 b15 o16 fun(x17:Int)=>
bQ a1.p a1.len (IntKind.wrap .i64 (x17-1)) 11 fun b18 o19=>
LD (aj .i64) H5 b18 (o19+0) fun(x20:Int)=>
CALL P [aG,(aj .i64)] fJ [(.pointer a0),(.int .i64 x20)] H5 fun(x21:aA×Int×Unit) H6=>
JOIN (fun(j22:(Sl×Unit)×(Unit)->Heap->Prop)=>
LOOP (fun(r24:(Sl×Int×Unit)×(Unit)->Heap->Prop) (s25:(Sl×Int×Unit)×(Unit)) H8=>
aN (decide (s25.1.2.1<(x21.1.Parts.len:Int))) (
JOIN (fun(j26:(Bool×Unit)×(Unit)->Heap->Prop)=>
bQ x21.1.Parts.p x21.1.Parts.len s25.1.2.1 8 fun b28 o29=>
LD (aj .u8) H8 b28 (o29+0) fun(x30:Int)=>
aN (x30==5) (
bQ x21.1.Parts.p x21.1.Parts.len s25.1.2.1 8 fun b31 o32=>
LD (aj .u8) H8 b31 (o32+1) fun(x33:Int)=>
CALL P [(aj .i64)] xu [(.int .u8 x33)] H8 fun(x34:Int×Unit) H10=>
j26 ((x34.1==a3,()),(())) H10) (
j26 ((false,()),(())) H8)) fun(y27:(Bool×Unit)×(Unit)) H9=>
JOIN (fun(j35:(Sl×Unit)×(Unit)->Heap->Prop)=>
aN y27.1.1 (
bQ x1.1.p x1.1.len s5.1.2.1 1 fun b37 o38=>
LD (aj .i64) H9 b37 o38 fun(x39:Int)=>
bQ x21.1.Parts.p x21.1.Parts.len s25.1.2.1 8 fun b40 o41=>
LD aQ H9 b40 o41 fun(x42:aU)=>
vk aH (lenV s25.1.1.v+1) (dR E [37,37] s25.1.1.v 1 [(.int .i64 x39),(.int .i64 s25.1.2.1),(.int .u8 x42.When),(.int .u8 x42.Verb),(.int .u8 x42.Whom),(.int .i64 x42.Count),(.int .u8 x42.Suit),(.int .u8 x42.Trait),(.int .u8 x42.Mark),(.string x42.Name)] H9) fun(x43:Sl) H12=>
j35 ((x43,()),(())) H12) (
j35 ((s25.1.1,()),(())) H9)) fun(y36:(Sl×Unit)×(Unit)) H11=>
r24 ((y36.1.1,IntKind.wrap .i64 (s25.1.2.1+1),()),(())) H11) (
j22 ((s25.1.1,()),(())) H8)) ((s5.1.1,0,()),(())) H6) fun(y23:(Sl×Unit)×(Unit)) H7=>
j6 ((y23.1.1,()),(())) H7)) fun(y7:(Sl×Unit)×(Unit)) H4=>
r4 ((y7.1.1,IntKind.wrap .i64 (s5.1.2.1+1),()),(())) H4) (
j2 ((s5.1.1,()),(())) H3)) (((Sl.mk none 0 0),0,()),(())) H1) fun(y3:(Sl×Unit)×(Unit)) H2=>
Q (y3.1.1,()) H2
def Ns:dw:=(.seq .leaf (.seq .leaf (.seq .leaf (.seq (.seq .leaf (.blk (some ⟨[(9,aH)],[],(rg 11 4 (rg 17 69 []))⟩) (.loop ⟨[(9,aH),(11,(aj .i64))],[],(rg 12 3 (rg 17 69 []))⟩ (.seq .leaf (.seq (.blk (some ⟨[(9,aH)],[],(rg 12 3 (rg 23 63 []))⟩) (.seq .leaf (.seq .leaf (.seq .leaf (.blk (some ⟨[(9,aH)],[],(rg 14 1 (rg 47 39 []))⟩) (.loop ⟨[(9,aH),(14,(aj .i64))],[],(rg 47 39 [])⟩ (.seq .leaf (.seq (.blk none (.seq (.reg ⟨[(71,ah)],[],(rg 54 17 [])⟩) (.cond (some ⟨[(9,aH)],[],(rg 72 14 [])⟩) .leaf .leaf))) .leaf)))))))) .leaf))))) .leaf))))
theorem Nu(a0:Option Addr)(a1:Sl)(a2:Sl)(a3:Int)(H:Heap)(Q:Sl×Unit->Heap->Prop):rU a0 a1 a2 a3 H Q=dN C [12,84] Tryz.f115.ntmps Tryz.f115.results.toList [aH] (aP Tryz.f115) Ns [(.pointer a0),a1.v,a2.v,(.int .i64 a3)] H Q:=by kernel_rfl
theorem Nv{a0:Option Addr}{a1:Sl}{a2:Sl}{a3:Int}{H:Heap}{Q:Sl×Unit->Heap->Prop}(h:rU a0 a1 a2 a3 H Q):CALL P [aH] qW [(.pointer a0),a1.v,a2.v,(.int .i64 a3)] H Q:=aC hE Tryz.func115 rfl (by kernel_rfl) (Nu a0 a1 a2 a3 H Q) h
def yt(a0:Sl)(a1:aF)(a2:aF)(H:Heap)(Q:Bool×Unit->Heap->Prop):Prop:=
bQ a0.p a0.len (IntKind.wrap .i64 (a1.Thing-1)) 11 fun b1 o2=>
LD (aj .i64) H b1 (o2+3) fun(x3:Int)=>
bQ a0.p a0.len (IntKind.wrap .i64 (a2.Thing-1)) 11 fun b4 o5=>
LD (aj .i64) H b4 (o5+3) fun(x6:Int)=>
JOIN (fun(j7:(Bool×Unit)×(Unit)->Heap->Prop)=>
aN (decide (x3<x6)) (
j7 ((true,()),(())) H) (
aN (x3==x6) (
j7 ((decide (a1.Place<a2.Place),()),(())) H) (
j7 ((false,()),(())) H))) fun(y8:(Bool×Unit)×(Unit)) H1=>
Q (y8.1.1,()) H1
def Uj:dw:=(.seq .leaf (.seq .leaf (.seq .leaf (.seq (.reg ⟨[(6,ah)],[],(rg 23 15 [])⟩) .leaf))))
theorem Uk(a0:Sl)(a1:aF)(a2:aF)(H:Heap)(Q:Bool×Unit->Heap->Prop):yt a0 a1 a2 H Q=dN C [4,5] Tryz.f116.ntmps Tryz.f116.results.toList [ah] (aP Tryz.f116) Uj [a0.v,(ay.enc a1),(ay.enc a2)] H Q:=by kernel_rfl
theorem Ul{a0:Sl}{a1:aF}{a2:aF}{H:Heap}{Q:Bool×Unit->Heap->Prop}(h:yt a0 a1 a2 H Q):CALL P [ah] qw [a0.v,(ay.enc a1),(ay.enc a2)] H Q:=aC hE Tryz.func116 rfl (by kernel_rfl) (Uk a0 a1 a2 H Q) h
def rV(a0:Option Addr)(a1:Sl)(a2:Sl)(a3:aF)(a4:aF)(H:Heap)(Q:Bool×Unit->Heap->Prop):Prop:=
CALL P [aH] jJ [(.pointer a0),a1.v,a2.v,(ay.enc a3)] H fun(x1:Sl×Unit) H1=>
qB ((some (.agg #[(.int .i64 a4.Thing),(.int .i64 a4.Place),(.int .u8 a4.What.When),(.int .u8 a4.What.Verb),(.int .u8 a4.What.Whom),(.int .i64 a4.What.Count),(.int .u8 a4.What.Suit),(.int .u8 a4.What.Trait),(.int .u8 a4.What.Mark),(.string a4.What.Name)]):Option Value)=some (.agg #[(.int .i64 a4.Thing),(.int .i64 a4.Place),(.int .u8 a4.What.When),(.int .u8 a4.What.Verb),(.int .u8 a4.What.Whom),(.int .i64 a4.What.Count),(.int .u8 a4.What.Suit),(.int .u8 a4.What.Trait),(.int .u8 a4.What.Mark),(.string a4.What.Name)])) (
qB ((some (.agg #[(.int .i64 a3.Thing),(.int .i64 a3.Place),(.int .u8 a3.What.When),(.int .u8 a3.What.Verb),(.int .u8 a3.What.Whom),(.int .i64 a3.What.Count),(.int .u8 a3.What.Suit),(.int .u8 a3.What.Trait),(.int .u8 a3.What.Mark),(.string a3.What.Name)]):Option Value)=some (.agg #[(.int .i64 a3.Thing),(.int .i64 a3.Place),(.int .u8 a3.What.When),(.int .u8 a3.What.Verb),(.int .u8 a3.What.Whom),(.int .i64 a3.What.Count),(.int .u8 a3.What.Suit),(.int .u8 a3.What.Trait),(.int .u8 a3.What.Mark),(.string a3.What.Name)])) (
CALL P [aH] lM [(.pointer a0),a1.v,a2.v,(ay.enc a4)] H1 fun(x2:Sl×Unit) H2=>
qB ((some (.agg #[(.int .i64 a3.Thing),(.int .i64 a3.Place),(.int .u8 a3.What.When),(.int .u8 a3.What.Verb),(.int .u8 a3.What.Whom),(.int .i64 a3.What.Count),(.int .u8 a3.What.Suit),(.int .u8 a3.What.Trait),(.int .u8 a3.What.Mark),(.string a3.What.Name)]):Option Value)=some (.agg #[(.int .i64 a3.Thing),(.int .i64 a3.Place),(.int .u8 a3.What.When),(.int .u8 a3.What.Verb),(.int .u8 a3.What.Whom),(.int .i64 a3.What.Count),(.int .u8 a3.What.Suit),(.int .u8 a3.What.Trait),(.int .u8 a3.What.Mark),(.string a3.What.Name)])) (
CALL P [aH] jJ [(.pointer a0),a1.v,x2.1.v,(ay.enc a3)] H2 fun(x3:Sl×Unit) H3=>
CALL P [ah] zW [x1.1.v,x3.1.v] H3 fun(x4:Bool×Unit) H4=>
Q (!x4.1,()) H4)))
def Nw:dw:=.leaf
theorem Ny(a0:Option Addr)(a1:Sl)(a2:Sl)(a3:aF)(a4:aF)(H:Heap)(Q:Bool×Unit->Heap->Prop):rV a0 a1 a2 a3 a4 H Q=dN C [8,9] Tryz.f117.ntmps Tryz.f117.results.toList [ah] (aP Tryz.f117) Nw [(.pointer a0),a1.v,a2.v,(ay.enc a3),(ay.enc a4)] H Q:=by kernel_rfl
theorem Nz{a0:Option Addr}{a1:Sl}{a2:Sl}{a3:aF}{a4:aF}{H:Heap}{Q:Bool×Unit->Heap->Prop}(h:rV a0 a1 a2 a3 a4 H Q):CALL P [ah] qX [(.pointer a0),a1.v,a2.v,(ay.enc a3),(ay.enc a4)] H Q:=aC hE Tryz.func117 rfl (by kernel_rfl) (Ny a0 a1 a2 a3 a4 H Q) h
def yu(a0:Option Addr)(a1:Sl)(a2:Sl)(a3:aF)(H:Heap)(Q:Sl×Unit->Heap->Prop):Prop:=
CALL P [aH] qx [a1.v] H fun(x1:Sl×Unit) H1=>
JOIN (fun(j2:(Sl×Unit)×(Unit)->Heap->Prop)=>
LOOP (fun(r4:(Sl×Int×Unit)×(Unit)->Heap->Prop) (s5:(Sl×Int×Unit)×(Unit)) H3=>
aN (decide (s5.1.2.1<(x1.1.len:Int))) (
bQ x1.1.p x1.1.len s5.1.2.1 1 fun b6 o7=>
LD (aj .i64) H3 b6 o7 fun(x8:Int)=>
CALL P [ah] xw [(.pointer a0),a1.v,a2.v,(ay.enc a3),(.int .i64 x8)] H3 fun(x9:Bool×Unit) H4=>
JOIN (fun(j10:(Sl×Unit)×(Unit)->Heap->Prop)=>
aN x9.1 (
bQ x1.1.p x1.1.len s5.1.2.1 1 fun b12 o13=>
LD (aj .i64) H4 b12 o13 fun(x14:Int)=>
vk aH (lenV s5.1.1.v+1) (dR E [27,27] s5.1.1.v 1 [(.int .i64 x14)] H4) fun(x15:Sl) H6=>
j10 ((x15,()),(())) H6) (
j10 ((s5.1.1,()),(())) H4)) fun(y11:(Sl×Unit)×(Unit)) H5=>
r4 ((y11.1.1,IntKind.wrap .i64 (s5.1.2.1+1),()),(())) H5) (
j2 ((s5.1.1,()),(())) H3)) (((Sl.mk none 0 0),0,()),(())) H1) fun(y3:(Sl×Unit)×(Unit)) H2=>
Q (y3.1.1,()) H2
def Um:dw:=(.seq .leaf (.seq .leaf (.seq .leaf (.seq (.seq .leaf (.blk (some ⟨[(9,aH)],[],(rg 11 1 (rg 14 22 []))⟩) (.loop ⟨[(9,aH),(11,(aj .i64))],[],(rg 14 22 [])⟩ (.seq .leaf (.seq (.blk none (.seq .leaf (.cond (some ⟨[(9,aH)],[],(rg 29 7 [])⟩) .leaf .leaf))) .leaf))))) .leaf))))
theorem Un(a0:Option Addr)(a1:Sl)(a2:Sl)(a3:aF)(H:Heap)(Q:Sl×Unit->Heap->Prop):yu a0 a1 a2 a3 H Q=dN C [7,34] Tryz.f118.ntmps Tryz.f118.results.toList [aH] (aP Tryz.f118) Um [(.pointer a0),a1.v,a2.v,(ay.enc a3)] H Q:=by kernel_rfl
theorem Uo{a0:Option Addr}{a1:Sl}{a2:Sl}{a3:aF}{H:Heap}{Q:Sl×Unit->Heap->Prop}(h:yu a0 a1 a2 a3 H Q):CALL P [aH] jJ [(.pointer a0),a1.v,a2.v,(ay.enc a3)] H Q:=aC hE Tryz.func118 rfl (by kernel_rfl) (Un a0 a1 a2 a3 H Q) h
def Aq(a0:aB)(a1:aU)(a2:Int)(H:Heap)(Q:aB×Unit->Heap->Prop):Prop:=
JOIN (fun(j1:(Unit)×(aB×Unit)->Heap->Prop)=>
aN (a1.Verb==10) (
j1 ((()),((aB.mk a2 a0.Suit a0.Traits a0.Power a0.Health),())) H) (
JOIN (fun(j3:(Unit)×(aB×Unit)->Heap->Prop)=>
aN (a1.Verb==11) (
j3 ((()),((aB.mk a0.Holder a1.Suit a0.Traits a0.Power a0.Health),())) H) (
JOIN (fun(j5:(Unit)×(aB×Unit)->Heap->Prop)=>
aN (a1.Verb==12) (
CALL P [(aj .u16)] zX [(.int .u16 a0.Traits),(.int .u8 a1.Trait)] H fun(x7:Int×Unit) H4=>
j5 ((()),((aB.mk a0.Holder a0.Suit x7.1 a0.Power a0.Health),())) H4) (
JOIN (fun(j8:(Unit)×(aB×Unit)->Heap->Prop)=>
aN (a1.Verb==13) (
CALL P [(aj .u16)] rC [(.int .u16 a0.Traits),(.int .u8 a1.Trait)] H fun(x10:Int×Unit) H6=>
j8 ((()),((aB.mk a0.Holder a0.Suit x10.1 a0.Power a0.Health),())) H6) (
JOIN (fun(j11:(Unit)×(aB×Unit)->Heap->Prop)=>
aN (a1.Verb==14) (
j11 ((()),((aB.mk a0.Holder a0.Suit a0.Traits a1.Count a1.Count),())) H) (
JOIN (fun(j13:(Unit)×(aB×Unit)->Heap->Prop)=>
aN (a1.Verb==15) (
j13 ((()),((aB.mk a0.Holder a0.Suit a0.Traits (IntKind.wrap .i64 (a0.Power+a1.Count)) (IntKind.wrap .i64 (a0.Health+a1.Count))),())) H) (
j13 ((()),(a0,())) H)) fun(y14:(Unit)×(aB×Unit)) H8=>
j11 ((()),(y14.2.1,())) H8)) fun(y12:(Unit)×(aB×Unit)) H7=>
j8 ((()),(y12.2.1,())) H7)) fun(y9:(Unit)×(aB×Unit)) H5=>
j5 ((()),(y9.2.1,())) H5)) fun(y6:(Unit)×(aB×Unit)) H3=>
j3 ((()),(y6.2.1,())) H3)) fun(y4:(Unit)×(aB×Unit)) H2=>
j1 ((()),(y4.2.1,())) H2)) fun(y2:(Unit)×(aB×Unit)) H1=>
Q (y2.2.1,()) H1
def WW:dw:=(.seq .leaf (.seq (.seq .leaf (.blk none (.seq .leaf (.cond (some ⟨[],[(0,aI)],(rg 11 45 [])⟩) .leaf (.seq .leaf (.cond (some ⟨[],[(0,aI)],(rg 15 41 [])⟩) .leaf (.seq .leaf (.cond (some ⟨[],[(0,aI)],(rg 20 36 [])⟩) .leaf (.seq .leaf (.cond (some ⟨[],[(0,aI)],(rg 28 28 [])⟩) .leaf (.seq .leaf (.cond (some ⟨[],[(0,aI)],(rg 36 20 [])⟩) .leaf (.seq .leaf (.cond (some ⟨[],[(0,aI)],(rg 44 12 [])⟩) .leaf .leaf)))))))))))))) .leaf))
theorem WX(a0:aB)(a1:aU)(a2:Int)(H:Heap)(Q:aB×Unit->Heap->Prop):Aq a0 a1 a2 H Q=dN C [3,4,6] Tryz.f119.ntmps Tryz.f119.results.toList [aI] (aP Tryz.f119) WW [(aI.enc a0),(aQ.enc a1),(.int .i64 a2)] H Q:=by kernel_rfl
theorem WY{a0:aB}{a1:aU}{a2:Int}{H:Heap}{Q:aB×Unit->Heap->Prop}(h:Aq a0 a1 a2 H Q):CALL P [aI] zQ [(aI.enc a0),(aQ.enc a1),(.int .i64 a2)] H Q:=aC hE Tryz.func119 rfl (by kernel_rfl) (WX a0 a1 a2 H Q) h
def lG(a0:Option Addr)(a1:Int)(H:Heap)(Q:au×Bool×Unit->Heap->Prop):Prop:=
JOIN (fun(j1:(Bool×Unit)×(Unit)->Heap->Prop)=>
CALL P [ah] bV [(.pointer a0)] H fun(x3:Bool×Unit) H2=>
aN x3.1 (
j1 ((true,()),(())) H2) (
aN (decide (a1<1)) (
j1 ((true,()),(())) H2) (
aN (decide (a1>4)) (
j1 ((true,()),(())) H2) (
NIL a0 fun b4 o5=>
oD 5 a1 (
LD (aj .u8) H2 b4 (o5+12+a1.toNat*4+0) fun(x6:Int)=>
j1 ((x6==0,()),(())) H2))))) fun(y2:(Bool×Unit)×(Unit)) H1=>
aN y2.1.1 (
Q ((au.mk 0 (ByteArray.mk #[]) 0 0),false,()) H1) (
NIL a0 fun b7 o8=>
oD 5 a1 (
LD aT H1 b7 (o8+12+a1.toNat*4) fun(x9:au)=>
Q (x9,true,()) H1))
def EX:dw:=(.seq .leaf (.seq (.seq (.reg ⟨[(25,ah)],[],(rg 6 19 [])⟩) .leaf) .leaf))
theorem EY(a0:Option Addr)(a1:Int)(H:Heap)(Q:au×Bool×Unit->Heap->Prop):lG a0 a1 H Q=dN C [4] Tryz.f120.ntmps Tryz.f120.results.toList [aT,ah] (aP Tryz.f120) EX [(.pointer a0),(.int .u8 a1)] H Q:=by kernel_rfl
theorem EZ{a0:Option Addr}{a1:Int}{H:Heap}{Q:au×Bool×Unit->Heap->Prop}(h:lG a0 a1 H Q):CALL P [aT,ah] kW [(.pointer a0),(.int .u8 a1)] H Q:=aC hE Tryz.func120 rfl (by kernel_rfl) (EY a0 a1 H Q) h
def DJ(a0:Option Addr)(a1:Sl)(a2:aF)(H:Heap)(Q:Bool×Unit->Heap->Prop):Prop:=
JOIN (fun(j1:(Bool×Unit)×(Unit)->Heap->Prop)=>
aN (decide (a2.Thing<1)) (
j1 ((true,()),(())) H) (
aN (decide (a2.Thing>(a1.len:Int))) (
j1 ((true,()),(())) H) (
bQ a1.p a1.len (IntKind.wrap .i64 (a2.Thing-1)) 11 fun b3 o4=>
LD (aj .u8) H b3 (o4+2) fun(x5:Int)=>
j1 ((x5 !=4,()),(())) H))) fun(y2:(Bool×Unit)×(Unit)) H1=>
aN y2.1.1 (
Q (false,()) H1) (
bQ a1.p a1.len (IntKind.wrap .i64 (a2.Thing-1)) 11 fun b6 o7=>
LD (aj .i64) H1 b6 (o7+0) fun(x8:Int)=>
CALL P [aG,(aj .i64)] fJ [(.pointer a0),(.int .i64 x8)] H1 fun(x9:aA×Int×Unit) H2=>
JOIN (fun(j10:(Bool×Unit)×(Unit)->Heap->Prop)=>
aN (decide (a2.Place<0)) (
j10 ((true,()),(())) H2) (
j10 ((decide (a2.Place≥(x9.1.Parts.len:Int)),()),(())) H2)) fun(y11:(Bool×Unit)×(Unit)) H3=>
aN y11.1.1 (
Q (false,()) H3) (
bQ x9.1.Parts.p x9.1.Parts.len a2.Place 8 fun b12 o13=>
LD aQ H3 b12 o13 fun(x14:aU)=>
JOIN (fun(j15:(Bool×Unit)×(Unit)->Heap->Prop)=>
aN (x14.When==5) (
CALL P [ah] zY [(aQ.enc x14),(aQ.enc a2.What)] H3 fun(x17:Bool×Unit) H5=>
j15 ((x17.1,()),(())) H5) (
j15 ((false,()),(())) H3)) fun(y16:(Bool×Unit)×(Unit)) H4=>
Q (y16.1.1,()) H4))
def Zt:dw:=(.seq .leaf (.seq (.seq (.reg ⟨[(29,ah)],[],(rg 10 19 [])⟩) .leaf) (.seq .leaf (.seq (.seq (.reg ⟨[(52,ah)],[],(rg 42 10 [])⟩) .leaf) (.seq .leaf (.seq (.reg ⟨[(6,ah)],[],(rg 59 9 [])⟩) .leaf))))))
theorem Zu(a0:Option Addr)(a1:Sl)(a2:aF)(H:Heap)(Q:Bool×Unit->Heap->Prop):DJ a0 a1 a2 H Q=dN C [5,7,9] Tryz.f121.ntmps Tryz.f121.results.toList [ah] (aP Tryz.f121) Zt [(.pointer a0),a1.v,(ay.enc a2)] H Q:=by kernel_rfl
theorem Zw{a0:Option Addr}{a1:Sl}{a2:aF}{H:Heap}{Q:Bool×Unit->Heap->Prop}(h:DJ a0 a1 a2 H Q):CALL P [ah] wz [(.pointer a0),a1.v,(ay.enc a2)] H Q:=aC hE Tryz.func121 rfl (by kernel_rfl) (Zu a0 a1 a2 H Q) h
def jS(a0:aK)(a1:Sl)(a2:Int)(H:Heap)(Q:Sl×Unit->Heap->Prop):Prop:=
JOIN (fun(j1:(Sl×Unit)×(Unit)->Heap->Prop)=>
LOOP (fun(r3:(Sl×Int×Unit)×(Unit)->Heap->Prop) (s4:(Sl×Int×Unit)×(Unit)) H2=>
aN (decide (s4.1.2.1<(a0.order.len:Int))) (
JOIN (fun(j5:(Sl×Unit)×(Unit)->Heap->Prop)=>
bQ a0.order.p a0.order.len s4.1.2.1 1 fun b7 o8=>
LD (aj .i64) H2 b7 o8 fun(x9:Int)=>
bQ a1.p a1.len x9 5 fun b10 o11=>
LD (aj .u16) H2 b10 (o11+2) fun(x12:Int)=>
CALL P [ah] wB [(.int .u16 x12),(.int .u8 6)] H2 fun(x13:Bool×Unit) H4=>
aN x13.1 (
j5 ((s4.1.1,()),(())) H4) (
bQ a0.cards.p a0.cards.len x9 9 fun b14 o15=>
LD aH H4 b14 (o15+8) fun(x16:Sl)=>
JOIN (fun(j17:(Sl×Unit)×(Unit)->Heap->Prop)=>
LOOP (fun(r19:(Sl×Int×Unit)×(Unit)->Heap->Prop) (s20:(Sl×Int×Unit)×(Unit)) H6=>
aN (decide (s20.1.2.1<(x16.len:Int))) (
bQ x16.p x16.len s20.1.2.1 8 fun b21 o22=>
LD aQ H6 b21 o22 fun(x23:aU)=>
JOIN (fun(j24:(Bool×Unit)×(Unit)->Heap->Prop)=>
aN (x23.When==5) (
CALL P [(aj .i64)] ug [(.int .u8 x23.Verb)] H6 fun(x26:Int×Unit) H8=>
j24 ((x26.1==a2,()),(())) H8) (
j24 ((false,()),(())) H6)) fun(y25:(Bool×Unit)×(Unit)) H7=>
JOIN (fun(j27:(Sl×Unit)×(Unit)->Heap->Prop)=>
aN y25.1.1 (
vk aH (lenV s20.1.1.v+1) (dR E [37,37] s20.1.1.v 1 [(.int .i64 (IntKind.wrap .i64 (x9+1))),(.int .i64 s20.1.2.1),(.int .u8 x23.When),(.int .u8 x23.Verb),(.int .u8 x23.Whom),(.int .i64 x23.Count),(.int .u8 x23.Suit),(.int .u8 x23.Trait),(.int .u8 x23.Mark),(.string x23.Name)] H7) fun(x29:Sl) H10=>
j27 ((x29,()),(())) H10) (
j27 ((s20.1.1,()),(())) H7)) fun(y28:(Sl×Unit)×(Unit)) H9=>
r19 ((y28.1.1,IntKind.wrap .i64 (s20.1.2.1+1),()),(())) H9) (
j17 ((s20.1.1,()),(())) H6)) ((s4.1.1,0,()),(())) H4) fun(y18:(Sl×Unit)×(Unit)) H5=>
j5 ((y18.1.1,()),(())) H5)) fun(y6:(Sl×Unit)×(Unit)) H3=>
r3 ((y6.1.1,IntKind.wrap .i64 (s4.1.2.1+1),()),(())) H3) (
j1 ((s4.1.1,()),(())) H2)) (((Sl.mk none 0 0),0,()),(())) H) fun(y2:(Sl×Unit)×(Unit)) H1=>
Q (y2.1.1,()) H1
def BI:dw:=(.seq .leaf (.seq .leaf (.seq (.seq .leaf (.blk (some ⟨[(7,aH)],[],(rg 9 3 (rg 15 42 []))⟩) (.loop ⟨[(7,aH),(15,(aj .i64))],[],(rg 9 3 (rg 16 41 []))⟩ (.seq .leaf (.seq .leaf (.seq (.blk (some ⟨[(7,aH)],[],(rg 9 3 (rg 17 39 []))⟩) (.seq .leaf (.seq .leaf (.seq .leaf (.blk (some ⟨[(7,aH)],[],(rg 10 2 (rg 32 24 []))⟩) (.loop ⟨[(7,aH),(32,(aj .i64))],[],(rg 10 2 (rg 33 23 []))⟩ (.seq .leaf (.seq .leaf (.seq (.blk none (.seq .leaf (.seq (.reg ⟨[(46,ah)],[],(rg 37 9 [])⟩) (.cond (some ⟨[(7,aH)],[],(rg 47 8 [])⟩) .leaf .leaf)))) .leaf))))))))) .leaf)))))) .leaf)))
theorem BJ(a0:aK)(a1:Sl)(a2:Int)(H:Heap)(Q:Sl×Unit->Heap->Prop):jS a0 a1 a2 H Q=dN C [3,11,53] Tryz.f122.ntmps Tryz.f122.results.toList [aH] (aP Tryz.f122) BI [(aJ.enc a0),a1.v,(.int .i64 a2)] H Q:=by kernel_rfl
theorem BK{a0:aK}{a1:Sl}{a2:Int}{H:Heap}{Q:Sl×Unit->Heap->Prop}(h:jS a0 a1 a2 H Q):CALL P [aH] jM [(aJ.enc a0),a1.v,(.int .i64 a2)] H Q:=aC hE Tryz.func122 rfl (by kernel_rfl) (BJ a0 a1 a2 H Q) h
def lH(a0:aK)(a1:aF)(a2:aF)(H:Heap)(Q:Bool×Unit->Heap->Prop):Prop:=
bQ a0.things.p a0.things.len (IntKind.wrap .i64 (a1.Thing-1)) 11 fun b1 o2=>
LD (aj .i64) H b1 (o2+3) fun(x3:Int)=>
bQ a0.things.p a0.things.len (IntKind.wrap .i64 (a2.Thing-1)) 11 fun b4 o5=>
LD (aj .i64) H b4 (o5+3) fun(x6:Int)=>
JOIN (fun(j7:(Bool×Unit)×(Unit)->Heap->Prop)=>
aN (decide (x3<x6)) (
j7 ((true,()),(())) H) (
aN (x3==x6) (
j7 ((decide (a1.Place<a2.Place),()),(())) H) (
j7 ((false,()),(())) H))) fun(y8:(Bool×Unit)×(Unit)) H1=>
Q (y8.1.1,()) H1
def E5:dw:=(.seq .leaf (.seq .leaf (.seq (.reg ⟨[(6,ah)],[],(rg 25 15 [])⟩) .leaf)))
theorem E8(a0:aK)(a1:aF)(a2:aF)(H:Heap)(Q:Bool×Unit->Heap->Prop):lH a0 a1 a2 H Q=dN C [3,4,5] Tryz.f123.ntmps Tryz.f123.results.toList [ah] (aP Tryz.f123) E5 [(aJ.enc a0),(ay.enc a1),(ay.enc a2)] H Q:=by kernel_rfl
theorem Fa{a0:aK}{a1:aF}{a2:aF}{H:Heap}{Q:Bool×Unit->Heap->Prop}(h:lH a0 a1 a2 H Q):CALL P [ah] iW [(aJ.enc a0),(ay.enc a1),(ay.enc a2)] H Q:=aC hE Tryz.func123 rfl (by kernel_rfl) (E8 a0 a1 a2 H Q) h
def jT(a0:aK)(a1:Sl)(a2:aF)(a3:aF)(H:Heap)(Q:Bool×Unit->Heap->Prop):Prop:=
CALL P [aH] fE [(aJ.enc a0),a1.v,(ay.enc a2)] H fun(x1:Sl×Unit) H1=>
qB ((some (.agg #[(.pointer a0.b),(.slice a0.things.p a0.things.len a0.things.cap),(.slice a0.cards.p a0.cards.len a0.cards.cap),(.slice a0.order.p a0.order.len a0.order.cap)]):Option Value)=some (.agg #[(.pointer a0.b),(.slice a0.things.p a0.things.len a0.things.cap),(.slice a0.cards.p a0.cards.len a0.cards.cap),(.slice a0.order.p a0.order.len a0.order.cap)])) (
qB ((some (.agg #[(.pointer a0.b),(.slice a0.things.p a0.things.len a0.things.cap),(.slice a0.cards.p a0.cards.len a0.cards.cap),(.slice a0.order.p a0.order.len a0.order.cap)]):Option Value)=some (.agg #[(.pointer a0.b),(.slice a0.things.p a0.things.len a0.things.cap),(.slice a0.cards.p a0.cards.len a0.cards.cap),(.slice a0.order.p a0.order.len a0.order.cap)])) (
qB ((some (.agg #[(.int .i64 a3.Thing),(.int .i64 a3.Place),(.int .u8 a3.What.When),(.int .u8 a3.What.Verb),(.int .u8 a3.What.Whom),(.int .i64 a3.What.Count),(.int .u8 a3.What.Suit),(.int .u8 a3.What.Trait),(.int .u8 a3.What.Mark),(.string a3.What.Name)]):Option Value)=some (.agg #[(.int .i64 a3.Thing),(.int .i64 a3.Place),(.int .u8 a3.What.When),(.int .u8 a3.What.Verb),(.int .u8 a3.What.Whom),(.int .i64 a3.What.Count),(.int .u8 a3.What.Suit),(.int .u8 a3.What.Trait),(.int .u8 a3.What.Mark),(.string a3.What.Name)])) (
qB ((some (.agg #[(.int .i64 a2.Thing),(.int .i64 a2.Place),(.int .u8 a2.What.When),(.int .u8 a2.What.Verb),(.int .u8 a2.What.Whom),(.int .i64 a2.What.Count),(.int .u8 a2.What.Suit),(.int .u8 a2.What.Trait),(.int .u8 a2.What.Mark),(.string a2.What.Name)]):Option Value)=some (.agg #[(.int .i64 a2.Thing),(.int .i64 a2.Place),(.int .u8 a2.What.When),(.int .u8 a2.What.Verb),(.int .u8 a2.What.Whom),(.int .i64 a2.What.Count),(.int .u8 a2.What.Suit),(.int .u8 a2.What.Trait),(.int .u8 a2.What.Mark),(.string a2.What.Name)])) (
CALL P [aH] gI [(aJ.enc a0),a1.v,(ay.enc a3)] H1 fun(x2:Sl×Unit) H2=>
qB ((some (.agg #[(.pointer a0.b),(.slice a0.things.p a0.things.len a0.things.cap),(.slice a0.cards.p a0.cards.len a0.cards.cap),(.slice a0.order.p a0.order.len a0.order.cap)]):Option Value)=some (.agg #[(.pointer a0.b),(.slice a0.things.p a0.things.len a0.things.cap),(.slice a0.cards.p a0.cards.len a0.cards.cap),(.slice a0.order.p a0.order.len a0.order.cap)])) (
qB ((some (.agg #[(.int .i64 a2.Thing),(.int .i64 a2.Place),(.int .u8 a2.What.When),(.int .u8 a2.What.Verb),(.int .u8 a2.What.Whom),(.int .i64 a2.What.Count),(.int .u8 a2.What.Suit),(.int .u8 a2.What.Trait),(.int .u8 a2.What.Mark),(.string a2.What.Name)]):Option Value)=some (.agg #[(.int .i64 a2.Thing),(.int .i64 a2.Place),(.int .u8 a2.What.When),(.int .u8 a2.What.Verb),(.int .u8 a2.What.Whom),(.int .i64 a2.What.Count),(.int .u8 a2.What.Suit),(.int .u8 a2.What.Trait),(.int .u8 a2.What.Mark),(.string a2.What.Name)])) (
CALL P [aH] fE [(aJ.enc a0),x2.1.v,(ay.enc a2)] H2 fun(x3:Sl×Unit) H3=>
CALL P [ah] ji [x1.1.v,x3.1.v] H3 fun(x4:Bool×Unit) H4=>
Q (!x4.1,()) H4))))))
def BL:dw:=.leaf
theorem BM(a0:aK)(a1:Sl)(a2:aF)(a3:aF)(H:Heap)(Q:Bool×Unit->Heap->Prop):jT a0 a1 a2 a3 H Q=dN C [4,6,7] Tryz.f124.ntmps Tryz.f124.results.toList [ah] (aP Tryz.f124) BL [(aJ.enc a0),a1.v,(ay.enc a2),(ay.enc a3)] H Q:=by kernel_rfl
theorem BN{a0:aK}{a1:Sl}{a2:aF}{a3:aF}{H:Heap}{Q:Bool×Unit->Heap->Prop}(h:jT a0 a1 a2 a3 H Q):CALL P [ah] jO [(aJ.enc a0),a1.v,(ay.enc a2),(ay.enc a3)] H Q:=aC hE Tryz.func124 rfl (by kernel_rfl) (BM a0 a1 a2 a3 H Q) h
def Ar(a0:ByteArray)(H:Heap)(Q:Bool×Unit->Heap->Prop):Prop:=
JOIN (fun(j1:(Bool×Unit)×(Unit)->Heap->Prop)=>
dW (aj .i64) (sJ E 9 (.string a0) H) fun(x3:Int)=>
aN (decide (x3>0)) (
dW (aj .i64) (sJ E 9 (.string a0) H) fun(x4:Int)=>
aN (decide (x4≤20)) (
dW (aj .u8) (dZ E 9 (.string a0) (.int .i64 0)) fun(x5:Int)=>
aN (x5 !=45) (
CALL P [eH] kE [(.string a0),(.string (ByteArray.mk #[97,98,99,100,101,102,103,104,105,106,107,108,109,110,111,112,113,114,115,116,117,118,119,120,121,122,45]))] H fun(x6:ByteArray×Unit) H2=>
j1 ((x6.1.toList==(ByteArray.mk #[]).toList,()),(())) H2) (
j1 ((false,()),(())) H)) (
j1 ((false,()),(())) H)) (
j1 ((false,()),(())) H)) fun(y2:(Bool×Unit)×(Unit)) H1=>
Q (y2.1.1,()) H1
def WZ:dw:=(.seq .leaf (.seq (.reg ⟨[(2,ah)],[],(rg 3 18 [])⟩) .leaf))
theorem W9(a0:ByteArray)(H:Heap)(Q:Bool×Unit->Heap->Prop):Ar a0 H Q=dN C [] Tryz.f125.ntmps Tryz.f125.results.toList [ah] (aP Tryz.f125) WZ [(.string a0)] H Q:=by kernel_rfl
theorem Xa{a0:ByteArray}{H:Heap}{Q:Bool×Unit->Heap->Prop}(h:Ar a0 H Q):CALL P [ah] zS [(.string a0)] H Q:=aC hE Tryz.func125 rfl (by kernel_rfl) (W9 a0 H Q) h
def DK(a0:Int)(H:Heap)(Q:ByteArray×Unit->Heap->Prop):Prop:=
aN (a0==1) (
Q ((ByteArray.mk #[97,105,114]),()) H) (
aN (a0==2) (
Q ((ByteArray.mk #[101,97,114,116,104]),()) H) (
aN (a0==3) (
Q ((ByteArray.mk #[102,105,114,101]),()) H) (
aN (a0==4) (
Q ((ByteArray.mk #[119,97,116,101,114]),()) H) (
aN (a0==5) (
Q ((ByteArray.mk #[118,111,105,100]),()) H) (
aN (a0==6) (
Q ((ByteArray.mk #[103,111,108,100]),()) H) (
Q ((ByteArray.mk #[]),()) H))))))
def Zx:dw:=.leaf
theorem Zy(a0:Int)(H:Heap)(Q:ByteArray×Unit->Heap->Prop):DK a0 H Q=dN C [] Tryz.f126.ntmps Tryz.f126.results.toList [eH] (aP Tryz.f126) Zx [(.int .u8 a0)] H Q:=by kernel_rfl
theorem Zz{a0:Int}{H:Heap}{Q:ByteArray×Unit->Heap->Prop}(h:DK a0 H Q):CALL P [eH] CY [(.int .u8 a0)] H Q:=aC hE Tryz.func126 rfl (by kernel_rfl) (Zy a0 H Q) h
def DL(a0:Int)(H:Heap)(Q:ByteArray×Unit->Heap->Prop):Prop:=
aN (a0==1) (
Q ((ByteArray.mk #[117,110,105,116]),()) H) (
aN (a0==2) (
Q ((ByteArray.mk #[115,112,101,108,108]),()) H) (
aN (a0==3) (
Q ((ByteArray.mk #[114,101,108,105,99]),()) H) (
Q ((ByteArray.mk #[]),()) H)))
def ZA:dw:=.leaf
theorem ZB(a0:Int)(H:Heap)(Q:ByteArray×Unit->Heap->Prop):DL a0 H Q=dN C [] Tryz.f127.ntmps Tryz.f127.results.toList [eH] (aP Tryz.f127) ZA [(.int .u8 a0)] H Q:=by kernel_rfl
theorem ZC{a0:Int}{H:Heap}{Q:ByteArray×Unit->Heap->Prop}(h:DL a0 H Q):CALL P [eH] CZ [(.int .u8 a0)] H Q:=aC hE Tryz.func127 rfl (by kernel_rfl) (ZB a0 H Q) h
def yw(a0:Int)(a1:Int)(H:Heap)(Q:Bool×Unit->Heap->Prop):Prop:=
JOIN (fun(j1:(Bool×Unit)×(Unit)->Heap->Prop)=>
aN (decide (a0≥0)) (
j1 ((decide (a0≤a1),()),(())) H) (
j1 ((false,()),(())) H)) fun(y2:(Bool×Unit)×(Unit)) H1=>
Q (y2.1.1,()) H1
def Ur:dw:=(.seq .leaf (.seq (.reg ⟨[(4,ah)],[],(rg 5 7 [])⟩) .leaf))
theorem Us(a0:Int)(a1:Int)(H:Heap)(Q:Bool×Unit->Heap->Prop):yw a0 a1 H Q=dN C [] Tryz.f128.ntmps Tryz.f128.results.toList [ah] (aP Tryz.f128) Ur [(.int .i64 a0),(.int .i64 a1)] H Q:=by kernel_rfl
theorem Ut{a0:Int}{a1:Int}{H:Heap}{Q:Bool×Unit->Heap->Prop}(h:yw a0 a1 H Q):CALL P [ah] lS [(.int .i64 a0),(.int .i64 a1)] H Q:=aC hE Tryz.func128 rfl (by kernel_rfl) (Us a0 a1 H Q) h
def yx(a0:Int)(a1:Int)(H:Heap)(Q:Bool×Bool×Bool×Bool×Bool×Unit->Heap->Prop):Prop:=
JOIN (fun(j1:(Bool×Unit)×(Unit)->Heap->Prop)=>
aN (a0==1) (
j1 ((a0==1,()),(())) H) (
JOIN (fun(j3:(Bool×Unit)×(Unit)->Heap->Prop)=>
aN (a0==2) (
j3 ((a0==2,()),(())) H) (
JOIN (fun(j5:(Bool×Unit)×(Unit)->Heap->Prop)=>
aN (a0==3) (
j5 ((a0==3,()),(())) H) (
JOIN (fun(j7:(Bool×Unit)×(Unit)->Heap->Prop)=>
aN (a0==4) (
j7 ((a0==4,()),(())) H) (
JOIN (fun(j9:(Bool×Unit)×(Unit)->Heap->Prop)=>
aN (a0==5) (
j9 ((a0==5,()),(())) H) (
JOIN (fun(j11:(Bool×Unit)×(Unit)->Heap->Prop)=>
aN (a0==14) (
j11 ((a0==14,()),(())) H) (
JOIN (fun(j13:(Bool×Unit)×(Unit)->Heap->Prop)=>
aN (a0==15) (
j13 ((a0==15,()),(())) H) (
JOIN (fun(j15:(Bool×Unit)×(Unit)->Heap->Prop)=>
aN (a0==16) (
j15 ((a0==16,()),(())) H) (
j15 ((a0==19,()),(())) H)) fun(y16:(Bool×Unit)×(Unit)) H8=>
j13 ((y16.1.1,()),(())) H8)) fun(y14:(Bool×Unit)×(Unit)) H7=>
j11 ((y14.1.1,()),(())) H7)) fun(y12:(Bool×Unit)×(Unit)) H6=>
j9 ((y12.1.1,()),(())) H6)) fun(y10:(Bool×Unit)×(Unit)) H5=>
j7 ((y10.1.1,()),(())) H5)) fun(y8:(Bool×Unit)×(Unit)) H4=>
j5 ((y8.1.1,()),(())) H4)) fun(y6:(Bool×Unit)×(Unit)) H3=>
j3 ((y6.1.1,()),(())) H3)) fun(y4:(Bool×Unit)×(Unit)) H2=>
j1 ((y4.1.1,()),(())) H2)) fun(y2:(Bool×Unit)×(Unit)) H1=>
JOIN (fun(j17:(Bool×Bool×Bool×Bool×Bool×Unit)×(Unit)->Heap->Prop)=>
aN y2.1.1 (
j17 ((true,false,false,false,false,()),(())) H1) (
JOIN (fun(j19:(Bool×Bool×Bool×Bool×Bool×Unit)×(Unit)->Heap->Prop)=>
aN (a0==9) (
j19 ((true,false,false,true,false,()),(())) H1) (
JOIN (fun(j21:(Bool×Bool×Bool×Bool×Unit)×(Unit)->Heap->Prop)=>
aN (a0==7) (
j21 ((true,false,false,true,()),(())) H1) (
JOIN (fun(j23:(Bool×Bool×Unit)×(Unit)->Heap->Prop)=>
aN (a0==11) (
j23 ((true,false,()),(())) H1) (
JOIN (fun(j25:(Bool×Unit)×(Unit)->Heap->Prop)=>
aN (a0==12) (
j25 ((a0==12,()),(())) H1) (
j25 ((a0==13,()),(())) H1)) fun(y26:(Bool×Unit)×(Unit)) H13=>
JOIN (fun(j27:(Bool×Unit)×(Unit)->Heap->Prop)=>
aN y26.1.1 (
j27 ((true,()),(())) H13) (
j27 ((false,()),(())) H13)) fun(y28:(Bool×Unit)×(Unit)) H14=>
j23 ((false,y28.1.1,()),(())) H14)) fun(y24:(Bool×Bool×Unit)×(Unit)) H12=>
j21 ((false,y24.1.1,y24.1.2.1,false,()),(())) H12)) fun(y22:(Bool×Bool×Bool×Bool×Unit)×(Unit)) H11=>
j19 ((y22.1.1,y22.1.2.1,y22.1.2.2.1,false,y22.1.2.2.2.1,()),(())) H11)) fun(y20:(Bool×Bool×Bool×Bool×Bool×Unit)×(Unit)) H10=>
j17 ((y20.1.1,y20.1.2.1,y20.1.2.2.1,y20.1.2.2.2.1,y20.1.2.2.2.2.1,()),(())) H10)) fun(y18:(Bool×Bool×Bool×Bool×Bool×Unit)×(Unit)) H9=>
JOIN (fun(j29:(Bool×Bool×Bool×Bool×Bool×Unit)×(Unit)->Heap->Prop)=>
aN y18.1.2.1 (
aN y18.1.2.2.1 (
j29 ((y18.1.1,true,true,y18.1.2.2.2.1,y18.1.2.2.2.2.1,()),(())) H9) (
j29 ((y18.1.1,true,a1==10,y18.1.2.2.2.1,y18.1.2.2.2.2.1,()),(())) H9)) (
aN y18.1.2.2.1 (
j29 ((y18.1.1,a1==9,true,y18.1.2.2.2.1,y18.1.2.2.2.2.1,()),(())) H9) (
j29 ((y18.1.1,a1==9,a1==10,y18.1.2.2.2.1,y18.1.2.2.2.2.1,()),(())) H9))) fun(y30:(Bool×Bool×Bool×Bool×Bool×Unit)×(Unit)) H15=>
Q (y30.1.1,y30.1.2.1,y30.1.2.2.1,y30.1.2.2.2.1,y30.1.2.2.2.2.1,()) H15
def Uu:dw:=(.seq .leaf (.seq (.seq .leaf (.blk none (.seq (.seq .leaf (.cond (some ⟨[(10,ah)],[],(rg 12 8 [])⟩) .leaf (.seq .leaf (.cond (some ⟨[(10,ah)],[],(rg 13 7 [])⟩) .leaf (.seq .leaf (.cond (some ⟨[(10,ah)],[],(rg 14 6 [])⟩) .leaf (.seq .leaf (.cond (some ⟨[(10,ah)],[],(rg 15 5 [])⟩) .leaf (.seq .leaf (.cond (some ⟨[(10,ah)],[],[16,17,18,19]⟩) .leaf (.seq .leaf (.cond (some ⟨[(10,ah)],[],[17,18,19]⟩) .leaf (.seq .leaf (.cond (some ⟨[(10,ah)],[],[18,19]⟩) .leaf (.seq .leaf (.cond (some ⟨[(10,ah)],[],[19]⟩) .leaf .leaf)))))))))))))))) (.cond (some ⟨[(4,ah),(5,ah),(6,ah),(7,ah),(8,ah)],[],(rg 20 9 [])⟩) .leaf (.seq .leaf (.cond (some ⟨[(4,ah),(5,ah),(6,ah),(7,ah),(8,ah)],[],(rg 22 7 [])⟩) .leaf (.seq .leaf (.cond (some ⟨[(4,ah),(5,ah),(6,ah),(8,ah)],[],(rg 24 5 [])⟩) .leaf (.seq .leaf (.cond (some ⟨[(5,ah),(6,ah)],[],[26,27,28]⟩) .leaf (.seq (.seq .leaf (.cond (some ⟨[(26,ah)],[],[28]⟩) .leaf .leaf)) (.cond (some ⟨[(6,ah)],[],[]⟩) .leaf .leaf)))))))))))) (.seq (.reg ⟨[(4,ah),(5,ah),(6,ah),(7,ah),(8,ah)],[],(rg 29 13 [])⟩) .leaf)))
theorem Uw(a0:Int)(a1:Int)(H:Heap)(Q:Bool×Bool×Bool×Bool×Bool×Unit->Heap->Prop):yx a0 a1 H Q=dN C [] Tryz.f129.ntmps Tryz.f129.results.toList [ah,ah,ah,ah,ah] (aP Tryz.f129) Uu [(.int .u8 a0),(.int .u8 a1)] H Q:=by kernel_rfl
theorem Ux{a0:Int}{a1:Int}{H:Heap}{Q:Bool×Bool×Bool×Bool×Bool×Unit->Heap->Prop}(h:yx a0 a1 H Q):CALL P [ah,ah,ah,ah,ah] wZ [(.int .u8 a0),(.int .u8 a1)] H Q:=aC hE Tryz.func129 rfl (by kernel_rfl) (Uw a0 a1 H Q) h
def rW(a0:Int)(H:Heap)(Q:Int×Int×Bool×Unit->Heap->Prop):Prop:=
JOIN (fun(j1:(Bool×Unit)×(Unit)->Heap->Prop)=>
aN (a0==9) (
j1 ((a0==9,()),(())) H) (
j1 ((a0==15,()),(())) H)) fun(y2:(Bool×Unit)×(Unit)) H1=>
aN y2.1.1 (
Q ((-99),99,false,()) H1) (
aN (a0==5) (
Q ((-9),9,false,()) H1) (
aN (a0==14) (
Q (0,99,true,()) H1) (
Q (1,99,false,()) H1)))
def NC:dw:=(.seq .leaf (.seq (.seq .leaf (.blk none (.seq (.seq .leaf (.cond (some ⟨[(6,ah)],[],[8]⟩) .leaf .leaf)) .leaf))) .leaf))
theorem ND(a0:Int)(H:Heap)(Q:Int×Int×Bool×Unit->Heap->Prop):rW a0 H Q=dN C [] Tryz.f130.ntmps Tryz.f130.results.toList [(aj .i64),(aj .i64),ah] (aP Tryz.f130) NC [(.int .u8 a0)] H Q:=by kernel_rfl
theorem NG{a0:Int}{H:Heap}{Q:Int×Int×Bool×Unit->Heap->Prop}(h:rW a0 H Q):CALL P [(aj .i64),(aj .i64),ah] qY [(.int .u8 a0)] H Q:=aC hE Tryz.func130 rfl (by kernel_rfl) (ND a0 H Q) h
def rX(a0:Int)(a1:Int)(H:Heap)(Q:Bool×Unit->Heap->Prop):Prop:=
aN (a0==5) (
CALL P [ah] jV [(.int .u8 a1)] H fun(x1:Bool×Unit) H1=>
Q (x1.1,()) H1) (
aN (a0==6) (
CALL P [ah] jW [(.int .u8 a1)] H fun(x2:Bool×Unit) H2=>
Q (x2.1,()) H2) (
CALL P [ah] uh [(.int .u8 a1)] H fun(x3:Bool×Unit) H3=>
Q (x3.1,()) H3))
def NH:dw:=.leaf
theorem NI(a0:Int)(a1:Int)(H:Heap)(Q:Bool×Unit->Heap->Prop):rX a0 a1 H Q=dN C [] Tryz.f131.ntmps Tryz.f131.results.toList [ah] (aP Tryz.f131) NH [(.int .u8 a0),(.int .u8 a1)] H Q:=by kernel_rfl
theorem NJ{a0:Int}{a1:Int}{H:Heap}{Q:Bool×Unit->Heap->Prop}(h:rX a0 a1 H Q):CALL P [ah] qZ [(.int .u8 a0),(.int .u8 a1)] H Q:=aC hE Tryz.func131 rfl (by kernel_rfl) (NI a0 a1 H Q) h
def uI(a0:aU)(H:Heap)(Q:Bool×Unit->Heap->Prop):Prop:=
JOIN (fun(j1:(Bool×Unit)×(Unit)->Heap->Prop)=>
aN (a0.Whom==1) (
j1 ((true,()),(())) H) (
j1 ((a0.Whom==2,()),(())) H)) fun(y2:(Bool×Unit)×(Unit)) H1=>
CALL P [ah] jV [(.int .u8 a0.Verb)] H1 fun(x3:Bool×Unit) H2=>
aN x3.1 (
JOIN (fun(j4:(Bool×Unit)×(Unit)->Heap->Prop)=>
aN (!y2.1.1) (
j4 ((a0.Whom !=3,()),(())) H2) (
j4 ((false,()),(())) H2)) fun(y5:(Bool×Unit)×(Unit)) H3=>
Q (y5.1.1,()) H3) (
CALL P [ah] jW [(.int .u8 a0.Verb)] H2 fun(x6:Bool×Unit) H4=>
aN x6.1 (
Q (a0.Whom !=3,()) H4) (
aN (a0.Whom==3) (
Q (a0.When==1,()) H4) (
JOIN (fun(j7:(Bool×Unit)×(Unit)->Heap->Prop)=>
aN (!y2.1.1) (
j7 ((true,()),(())) H4) (
aN (a0.Verb !=6) (
aN (a0.Verb !=8) (
j7 ((a0.Verb !=9,()),(())) H4) (
j7 ((false,()),(())) H4)) (
j7 ((false,()),(())) H4))) fun(y8:(Bool×Unit)×(Unit)) H5=>
Q (y8.1.1,()) H5)))
def Qk:dw:=(.seq .leaf (.seq (.reg ⟨[(3,ah)],[],(rg 4 8 [])⟩) (.seq (.blk none (.seq .leaf (.cond none (.seq (.reg ⟨[(2,ah)],[],(rg 16 7 [])⟩) .leaf) .leaf))) (.seq (.reg ⟨[(2,ah)],[],(rg 37 17 [])⟩) .leaf))))
theorem Ql(a0:aU)(H:Heap)(Q:Bool×Unit->Heap->Prop):uI a0 H Q=dN C [1] Tryz.f132.ntmps Tryz.f132.results.toList [ah] (aP Tryz.f132) Qk [(aQ.enc a0)] H Q:=by kernel_rfl
theorem Qm{a0:aU}{H:Heap}{Q:Bool×Unit->Heap->Prop}(h:uI a0 H Q):CALL P [ah] uf [(aQ.enc a0)] H Q:=aC hE Tryz.func132 rfl (by kernel_rfl) (Ql a0 H Q) h
def lI(a0:Int)(a1:Bool)(a2:Int)(a3:Int)(H:Heap)(Q:Bool×Unit->Heap->Prop):Prop:=
aN (!a1) (
Q (a0==0,()) H) (
JOIN (fun(j1:(Bool×Unit)×(Unit)->Heap->Prop)=>
aN (decide (a0≥a2)) (
j1 ((decide (a0≤a3),()),(())) H) (
j1 ((false,()),(())) H)) fun(y2:(Bool×Unit)×(Unit)) H1=>
Q (y2.1.1,()) H1)
def Fb:dw:=(.seq .leaf (.seq .leaf (.seq (.reg ⟨[(8,ah)],[],(rg 13 8 [])⟩) .leaf)))
theorem Fe(a0:Int)(a1:Bool)(a2:Int)(a3:Int)(H:Heap)(Q:Bool×Unit->Heap->Prop):lI a0 a1 a2 a3 H Q=dN C [] Tryz.f133.ntmps Tryz.f133.results.toList [ah] (aP Tryz.f133) Fb [(.int .i64 a0),(.bool a1),(.int .i64 a2),(.int .i64 a3)] H Q:=by kernel_rfl
theorem Fg{a0:Int}{a1:Bool}{a2:Int}{a3:Int}{H:Heap}{Q:Bool×Unit->Heap->Prop}(h:lI a0 a1 a2 a3 H Q):CALL P [ah] kX [(.int .i64 a0),(.bool a1),(.int .i64 a2),(.int .i64 a3)] H Q:=aC hE Tryz.func133 rfl (by kernel_rfl) (Fe a0 a1 a2 a3 H Q) h
def iR(a0:Int)(a1:Bool)(a2:Int)(a3:Int)(H:Heap)(Q:Bool×Unit->Heap->Prop):Prop:=
aN (!a1) (
Q (a0==0,()) H) (
JOIN (fun(j1:(Bool×Unit)×(Unit)->Heap->Prop)=>
aN (decide (a0≥a2)) (
j1 ((decide (a0≤a3),()),(())) H) (
j1 ((false,()),(())) H)) fun(y2:(Bool×Unit)×(Unit)) H1=>
Q (y2.1.1,()) H1)
def yA:dw:=(.seq .leaf (.seq .leaf (.seq (.reg ⟨[(8,ah)],[],(rg 13 8 [])⟩) .leaf)))
theorem yB(a0:Int)(a1:Bool)(a2:Int)(a3:Int)(H:Heap)(Q:Bool×Unit->Heap->Prop):iR a0 a1 a2 a3 H Q=dN C [] Tryz.f134.ntmps Tryz.f134.results.toList [ah] (aP Tryz.f134) yA [(.int .u8 a0),(.bool a1),(.int .u8 a2),(.int .u8 a3)] H Q:=by kernel_rfl
theorem yC{a0:Int}{a1:Bool}{a2:Int}{a3:Int}{H:Heap}{Q:Bool×Unit->Heap->Prop}(h:iR a0 a1 a2 a3 H Q):CALL P [ah] iP [(.int .u8 a0),(.bool a1),(.int .u8 a2),(.int .u8 a3)] H Q:=aC hE Tryz.func134 rfl (by kernel_rfl) (yB a0 a1 a2 a3 H Q) h
def iD(a0:Int)(a1:Bool)(a2:Int)(a3:Int)(H:Heap)(Q:Bool×Unit->Heap->Prop):Prop:=
aN (!a1) (
Q (a0==0,()) H) (
JOIN (fun(j1:(Bool×Unit)×(Unit)->Heap->Prop)=>
aN (decide (a0≥a2)) (
j1 ((decide (a0≤a3),()),(())) H) (
j1 ((false,()),(())) H)) fun(y2:(Bool×Unit)×(Unit)) H1=>
Q (y2.1.1,()) H1)
def vI:dw:=(.seq .leaf (.seq .leaf (.seq (.reg ⟨[(8,ah)],[],(rg 13 8 [])⟩) .leaf)))
theorem vJ(a0:Int)(a1:Bool)(a2:Int)(a3:Int)(H:Heap)(Q:Bool×Unit->Heap->Prop):iD a0 a1 a2 a3 H Q=dN C [] Tryz.f135.ntmps Tryz.f135.results.toList [ah] (aP Tryz.f135) vI [(.int .u8 a0),(.bool a1),(.int .u8 a2),(.int .u8 a3)] H Q:=by kernel_rfl
theorem vK{a0:Int}{a1:Bool}{a2:Int}{a3:Int}{H:Heap}{Q:Bool×Unit->Heap->Prop}(h:iD a0 a1 a2 a3 H Q):CALL P [ah] iy [(.int .u8 a0),(.bool a1),(.int .u8 a2),(.int .u8 a3)] H Q:=aC hE Tryz.func135 rfl (by kernel_rfl) (vJ a0 a1 a2 a3 H Q) h
def iT(a0:Int)(a1:Bool)(a2:Int)(a3:Int)(H:Heap)(Q:Bool×Unit->Heap->Prop):Prop:=
aN (!a1) (
Q (a0==0,()) H) (
JOIN (fun(j1:(Bool×Unit)×(Unit)->Heap->Prop)=>
aN (decide (a0≥a2)) (
j1 ((decide (a0≤a3),()),(())) H) (
j1 ((false,()),(())) H)) fun(y2:(Bool×Unit)×(Unit)) H1=>
Q (y2.1.1,()) H1)
def yD:dw:=(.seq .leaf (.seq .leaf (.seq (.reg ⟨[(8,ah)],[],(rg 13 8 [])⟩) .leaf)))
theorem yE(a0:Int)(a1:Bool)(a2:Int)(a3:Int)(H:Heap)(Q:Bool×Unit->Heap->Prop):iT a0 a1 a2 a3 H Q=dN C [] Tryz.f136.ntmps Tryz.f136.results.toList [ah] (aP Tryz.f136) yD [(.int .u8 a0),(.bool a1),(.int .u8 a2),(.int .u8 a3)] H Q:=by kernel_rfl
theorem yF{a0:Int}{a1:Bool}{a2:Int}{a3:Int}{H:Heap}{Q:Bool×Unit->Heap->Prop}(h:iT a0 a1 a2 a3 H Q):CALL P [ah] iQ [(.int .u8 a0),(.bool a1),(.int .u8 a2),(.int .u8 a3)] H Q:=aC hE Tryz.func136 rfl (by kernel_rfl) (yE a0 a1 a2 a3 H Q) h
def yG(a0:ByteArray)(H:Heap)(Q:Bool×Unit->Heap->Prop):Prop:=
JOIN (fun(j1:(Bool×Unit)×(Unit)->Heap->Prop)=>
dW (aj .i64) (sJ E 9 (.string a0) H) fun(x3:Int)=>
aN (decide (x3≥1)) (
dW (aj .i64) (sJ E 9 (.string a0) H) fun(x4:Int)=>
aN (decide (x4≤20)) (
dW (aj .u8) (dZ E 9 (.string a0) (.int .i64 0)) fun(x5:Int)=>
aN (x5 !=45) (
CALL P [eH] kE [(.string a0),(.string (ByteArray.mk #[97,98,99,100,101,102,103,104,105,106,107,108,109,110,111,112,113,114,115,116,117,118,119,120,121,122,45]))] H fun(x6:ByteArray×Unit) H2=>
j1 ((x6.1.toList==(ByteArray.mk #[]).toList,()),(())) H2) (
j1 ((false,()),(())) H)) (
j1 ((false,()),(())) H)) (
j1 ((false,()),(())) H)) fun(y2:(Bool×Unit)×(Unit)) H1=>
Q (y2.1.1,()) H1
def Uy:dw:=(.seq .leaf (.seq (.reg ⟨[(2,ah)],[],(rg 3 18 [])⟩) .leaf))
theorem Uz(a0:ByteArray)(H:Heap)(Q:Bool×Unit->Heap->Prop):yG a0 H Q=dN C [] Tryz.f137.ntmps Tryz.f137.results.toList [ah] (aP Tryz.f137) Uy [(.string a0)] H Q:=by kernel_rfl
theorem UA{a0:ByteArray}{H:Heap}{Q:Bool×Unit->Heap->Prop}(h:yG a0 H Q):CALL P [ah] xg [(.string a0)] H Q:=aC hE Tryz.func137 rfl (by kernel_rfl) (Uz a0 H Q) h
def Au(a0:Int)(a1:Int)(H:Heap)(Q:Bool×Bool×Bool×Bool×Bool×Unit->Heap->Prop):Prop:=
CALL P [(aj .i64),(aj .i64)] nO [(.int .u8 a0)] H fun(x1:Int×Int×Unit) H1=>
JOIN (fun(j2:(Bool×Bool×Bool×Bool×Bool×Unit)×(Unit)->Heap->Prop)=>
aN (a0==11) (
aN (a0==12) (
j2 ((decide (x1.2.1>0),true,true,a0==9,a0==7,()),(())) H1) (
aN (a0==13) (
j2 ((decide (x1.2.1>0),true,true,a0==9,a0==7,()),(())) H1) (
j2 ((decide (x1.2.1>0),true,a1==10,a0==9,a0==7,()),(())) H1))) (
aN (a0==12) (
j2 ((decide (x1.2.1>0),a1==9,true,a0==9,a0==7,()),(())) H1) (
aN (a0==13) (
j2 ((decide (x1.2.1>0),a1==9,true,a0==9,a0==7,()),(())) H1) (
j2 ((decide (x1.2.1>0),a1==9,a1==10,a0==9,a0==7,()),(())) H1)))) fun(y3:(Bool×Bool×Bool×Bool×Bool×Unit)×(Unit)) H2=>
Q (y3.1.1,y3.1.2.1,y3.1.2.2.1,y3.1.2.2.2.1,y3.1.2.2.2.2.1,()) H2
def Xb:dw:=(.seq .leaf (.seq .leaf (.seq (.reg ⟨[(4,ah),(5,ah),(6,ah),(7,ah),(8,ah)],[],(rg 16 22 [])⟩) .leaf)))
theorem Xc(a0:Int)(a1:Int)(H:Heap)(Q:Bool×Bool×Bool×Bool×Bool×Unit->Heap->Prop):Au a0 a1 H Q=dN C [] Tryz.f138.ntmps Tryz.f138.results.toList [ah,ah,ah,ah,ah] (aP Tryz.f138) Xb [(.int .u8 a0),(.int .u8 a1)] H Q:=by kernel_rfl
theorem Xd{a0:Int}{a1:Int}{H:Heap}{Q:Bool×Bool×Bool×Bool×Bool×Unit->Heap->Prop}(h:Au a0 a1 H Q):CALL P [ah,ah,ah,ah,ah] zT [(.int .u8 a0),(.int .u8 a1)] H Q:=aC hE Tryz.func138 rfl (by kernel_rfl) (Xc a0 a1 H Q) h
def Aw(a0:Int)(H:Heap)(Q:Int×Unit->Heap->Prop):Prop:=
JOIN (fun(j1:(Bool×Unit)×(Unit)->Heap->Prop)=>
aN (decide (a0≥1)) (
j1 ((decide (a0≤9),()),(())) H) (
j1 ((false,()),(())) H)) fun(y2:(Bool×Unit)×(Unit)) H1=>
aN y2.1.1 (
Q (1,()) H1) (
JOIN (fun(j3:(Bool×Unit)×(Unit)->Heap->Prop)=>
aN (decide (a0≥10)) (
j3 ((decide (a0≤15),()),(())) H1) (
j3 ((false,()),(())) H1)) fun(y4:(Bool×Unit)×(Unit)) H2=>
aN y4.1.1 (
Q (2,()) H2) (
JOIN (fun(j5:(Bool×Unit)×(Unit)->Heap->Prop)=>
aN (decide (a0≥16)) (
j5 ((decide (a0≤19),()),(())) H2) (
j5 ((false,()),(())) H2)) fun(y6:(Bool×Unit)×(Unit)) H3=>
aN y6.1.1 (
Q (3,()) H3) (
Q (0,()) H3)))
def Xe:dw:=(.seq .leaf (.seq (.blk none (.seq (.reg ⟨[(3,ah)],[],(rg 4 6 [])⟩) (.cond none .leaf (.seq (.reg ⟨[(10,ah)],[],(rg 11 6 [])⟩) (.cond none .leaf (.seq (.reg ⟨[(17,ah)],[],(rg 18 6 [])⟩) .leaf)))))) .leaf))
theorem Xf(a0:Int)(H:Heap)(Q:Int×Unit->Heap->Prop):Aw a0 H Q=dN C [] Tryz.f139.ntmps Tryz.f139.results.toList [(aj .i64)] (aP Tryz.f139) Xe [(.int .u8 a0)] H Q:=by kernel_rfl
theorem Xg{a0:Int}{H:Heap}{Q:Int×Unit->Heap->Prop}(h:Aw a0 H Q):CALL P [(aj .i64)] sO [(.int .u8 a0)] H Q:=aC hE Tryz.func139 rfl (by kernel_rfl) (Xf a0 H Q) h
def yH(a0:Int)(H:Heap)(Q:Int×Unit->Heap->Prop):Prop:=
JOIN (fun(j1:(Bool×Unit)×(Unit)->Heap->Prop)=>
aN (decide (a0≥1)) (
j1 ((decide (a0≤4),()),(())) H) (
j1 ((false,()),(())) H)) fun(y2:(Bool×Unit)×(Unit)) H1=>
aN y2.1.1 (
Q (1,()) H1) (
aN (a0==5) (
Q (2,()) H1) (
aN (a0==6) (
Q (3,()) H1) (
Q (0,()) H1)))
def UC:dw:=(.seq .leaf (.seq (.blk none (.seq (.reg ⟨[(3,ah)],[],(rg 4 6 [])⟩) .leaf)) .leaf))
theorem UD(a0:Int)(H:Heap)(Q:Int×Unit->Heap->Prop):yH a0 H Q=dN C [] Tryz.f140.ntmps Tryz.f140.results.toList [(aj .i64)] (aP Tryz.f140) UC [(.int .u8 a0)] H Q:=by kernel_rfl
theorem UE{a0:Int}{H:Heap}{Q:Int×Unit->Heap->Prop}(h:yH a0 H Q):CALL P [(aj .i64)] xk [(.int .u8 a0)] H Q:=aC hE Tryz.func140 rfl (by kernel_rfl) (UD a0 H Q) h
def yI(a0:aU)(H:Heap)(Q:Bool×Unit->Heap->Prop):Prop:=
JOIN (fun(j1:(Bool×Unit)×(Unit)->Heap->Prop)=>
aN (a0.Whom==1) (
j1 ((true,()),(())) H) (
j1 ((a0.Whom==2,()),(())) H)) fun(y2:(Bool×Unit)×(Unit)) H1=>
CALL P [(aj .i64)] sO [(.int .u8 a0.Verb)] H1 fun(x3:Int×Unit) H2=>
aN (x3.1==1) (
JOIN (fun(j4:(Bool×Unit)×(Unit)->Heap->Prop)=>
aN y2.1.1 (
aN (a0.Verb==6) (
j4 ((true,()),(())) H2) (
aN (a0.Verb==8) (
j4 ((true,()),(())) H2) (
j4 ((a0.Verb==9,()),(())) H2))) (
j4 ((false,()),(())) H2)) fun(y5:(Bool×Unit)×(Unit)) H3=>
aN y5.1.1 (
Q (false,()) H3) (
JOIN (fun(j6:(Bool×Unit)×(Unit)->Heap->Prop)=>
aN (a0.Whom !=3) (
j6 ((true,()),(())) H3) (
j6 ((a0.When==1,()),(())) H3)) fun(y7:(Bool×Unit)×(Unit)) H4=>
Q (y7.1.1,()) H4)) (
aN (x3.1==2) (
JOIN (fun(j8:(Bool×Unit)×(Unit)->Heap->Prop)=>
aN (!y2.1.1) (
j8 ((a0.Whom !=3,()),(())) H2) (
j8 ((false,()),(())) H2)) fun(y9:(Bool×Unit)×(Unit)) H5=>
Q (y9.1.1,()) H5) (
Q (a0.Whom !=3,()) H2))
def UF:dw:=(.seq .leaf (.seq (.reg ⟨[(3,ah)],[],(rg 4 8 [])⟩) (.seq (.seq .leaf (.blk none (.seq .leaf (.cond none (.seq (.seq (.reg ⟨[(32,ah)],[],(rg 17 15 [])⟩) .leaf) (.seq (.reg ⟨[(2,ah)],[],(rg 33 8 [])⟩) .leaf)) (.seq .leaf (.cond none (.seq (.reg ⟨[(2,ah)],[],(rg 43 7 [])⟩) .leaf) .leaf)))))) .leaf)))
theorem UG(a0:aU)(H:Heap)(Q:Bool×Unit->Heap->Prop):yI a0 H Q=dN C [1] Tryz.f141.ntmps Tryz.f141.results.toList [ah] (aP Tryz.f141) UF [(aQ.enc a0)] H Q:=by kernel_rfl
theorem UH{a0:aU}{H:Heap}{Q:Bool×Unit->Heap->Prop}(h:yI a0 H Q):CALL P [ah] xq [(aQ.enc a0)] H Q:=aC hE Tryz.func141 rfl (by kernel_rfl) (UG a0 H Q) h
def rY(a0:aU)(H:Heap)(Q:Bool×Unit->Heap->Prop):Prop:=
CALL P [(aj .i64),(aj .i64)] nO [(.int .u8 a0.Verb)] H fun(x1:Int×Int×Unit) H1=>
JOIN (fun(j2:(Bool×Unit)×(Unit)->Heap->Prop)=>
aN (decide (a0.Count≥x1.1)) (
aN (decide (a0.Count≤x1.2.1)) (
aN (decide (x1.1≥0)) (
j2 ((true,()),(())) H1) (
j2 ((a0.Count !=0,()),(())) H1)) (
j2 ((false,()),(())) H1)) (
j2 ((false,()),(())) H1)) fun(y3:(Bool×Unit)×(Unit)) H2=>
Q (y3.1.1,()) H2
def NK:dw:=(.seq .leaf (.seq .leaf (.seq (.reg ⟨[(2,ah)],[],(rg 11 19 [])⟩) .leaf)))
theorem NM(a0:aU)(H:Heap)(Q:Bool×Unit->Heap->Prop):rY a0 H Q=dN C [1] Tryz.f142.ntmps Tryz.f142.results.toList [ah] (aP Tryz.f142) NK [(aQ.enc a0)] H Q:=by kernel_rfl
theorem NP{a0:aU}{H:Heap}{Q:Bool×Unit->Heap->Prop}(h:rY a0 H Q):CALL P [ah] ru [(aQ.enc a0)] H Q:=aC hE Tryz.func142 rfl (by kernel_rfl) (NM a0 H Q) h
def uJ(a0:Bool)(a1:Int)(a2:Int)(H:Heap)(Q:Bool×Unit->Heap->Prop):Prop:=
aN (!a0) (
Q (a1==0,()) H) (
JOIN (fun(j1:(Bool×Unit)×(Unit)->Heap->Prop)=>
aN (decide (a1≥1)) (
j1 ((decide (a1≤a2),()),(())) H) (
j1 ((false,()),(())) H)) fun(y2:(Bool×Unit)×(Unit)) H1=>
Q (y2.1.1,()) H1)
def Qn:dw:=(.seq .leaf (.seq .leaf (.seq (.reg ⟨[(6,ah)],[],(rg 11 7 [])⟩) .leaf)))
theorem Qo(a0:Bool)(a1:Int)(a2:Int)(H:Heap)(Q:Bool×Unit->Heap->Prop):uJ a0 a1 a2 H Q=dN C [] Tryz.f143.ntmps Tryz.f143.results.toList [ah] (aP Tryz.f143) Qn [(.bool a0),(.int .i64 a1),(.int .i64 a2)] H Q:=by kernel_rfl
theorem Qp{a0:Bool}{a1:Int}{a2:Int}{H:Heap}{Q:Bool×Unit->Heap->Prop}(h:uJ a0 a1 a2 H Q):CALL P [ah] kD [(.bool a0),(.int .i64 a1),(.int .i64 a2)] H Q:=aC hE Tryz.func143 rfl (by kernel_rfl) (Qo a0 a1 a2 H Q) h
def Az(a0:ByteArray)(H:Heap)(Q:Bool×Unit->Heap->Prop):Prop:=
JOIN (fun(j1:(Bool×Unit)×(Unit)->Heap->Prop)=>
dW (aj .i64) (sJ E 9 (.string a0) H) fun(x3:Int)=>
aN (decide (x3<1)) (
j1 ((true,()),(())) H) (
dW (aj .i64) (sJ E 9 (.string a0) H) fun(x4:Int)=>
aN (decide (x4>20)) (
j1 ((true,()),(())) H) (
dW (aj .u8) (dZ E 9 (.string a0) (.int .i64 0)) fun(x5:Int)=>
j1 ((x5==45,()),(())) H))) fun(y2:(Bool×Unit)×(Unit)) H1=>
aN y2.1.1 (
Q (false,()) H1) (
JOIN (fun(j6:(Unit)×(Unit)->Heap->Prop)=>
LOOP (fun(r8:(Int×Unit)×(Unit)->Heap->Prop) (s9:(Int×Unit)×(Unit)) H3=>
dW (aj .i64) (sJ E 9 (.string a0) H3) fun(x10:Int)=>
aN (decide (s9.1.1<x10)) (
JOIN (fun(j11:(Bool×Unit)×(Unit)->Heap->Prop)=>
dW (aj .u8) (dZ E 9 (.string a0) (.int .i64 s9.1.1)) fun(x13:Int)=>
aN (decide (x13<97)) (
dW (aj .u8) (dZ E 9 (.string a0) (.int .i64 s9.1.1)) fun(x14:Int)=>
j11 ((x14 !=45,()),(())) H3) (
dW (aj .u8) (dZ E 9 (.string a0) (.int .i64 s9.1.1)) fun(x15:Int)=>
aN (decide (x15>122)) (
dW (aj .u8) (dZ E 9 (.string a0) (.int .i64 s9.1.1)) fun(x16:Int)=>
j11 ((x16 !=45,()),(())) H3) (
j11 ((false,()),(())) H3))) fun(y12:(Bool×Unit)×(Unit)) H4=>
aN y12.1.1 (
Q (false,()) H4) (
r8 ((IntKind.wrap .i64 (s9.1.1+1),()),(())) H4)) (
j6 ((()),(())) H3)) ((0,()),(())) H1) fun(y7:(Unit)×(Unit)) H2=>
Q (true,()) H2)
def Xh:dw:=(.seq .leaf (.seq (.seq (.reg ⟨[(16,ah)],[],(rg 4 12 [])⟩) .leaf) (.seq (.seq .leaf (.blk (some ⟨[],[],(rg 2 2 (rg 17 22 []))⟩) (.loop ⟨[(3,(aj .i64))],[],(rg 2 1 (rg 17 22 []))⟩ (.seq .leaf (.seq (.blk none (.seq (.reg ⟨[(38,ah)],[],(rg 23 15 [])⟩) .leaf)) .leaf))))) .leaf)))
theorem Xi(a0:ByteArray)(H:Heap)(Q:Bool×Unit->Heap->Prop):Az a0 H Q=dN C [] Tryz.f144.ntmps Tryz.f144.results.toList [ah] (aP Tryz.f144) Xh [(.string a0)] H Q:=by kernel_rfl
theorem Xj{a0:ByteArray}{H:Heap}{Q:Bool×Unit->Heap->Prop}(h:Az a0 H Q):CALL P [ah] zU [(.string a0)] H Q:=aC hE Tryz.func144 rfl (by kernel_rfl) (Xi a0 H Q) h
def DN(a0:Int)(a1:Int)(H:Heap)(Q:Bool×Unit->Heap->Prop):Prop:=
CALL P [(aj .u16)] qI [(.int .u8 a1)] H fun(x1:Int×Unit) H1=>
Q ((IntKind.wrap .u16 (((BitVec.ofInt (IntKind.bits .u16) a0 &&& BitVec.ofInt (IntKind.bits .u16) x1.1).toNat:Int))) !=0,()) H1
def ZE:dw:=.leaf
theorem ZF(a0:Int)(a1:Int)(H:Heap)(Q:Bool×Unit->Heap->Prop):DN a0 a1 H Q=dN C [] Tryz.f147.ntmps Tryz.f147.results.toList [ah] (aP Tryz.f147) ZE [(.int .u16 a0),(.int .u8 a1)] H Q:=by kernel_rfl
theorem ZG{a0:Int}{a1:Int}{H:Heap}{Q:Bool×Unit->Heap->Prop}(h:DN a0 a1 H Q):CALL P [ah] wB [(.int .u16 a0),(.int .u8 a1)] H Q:=aC hE Tryz.func147 rfl (by kernel_rfl) (ZF a0 a1 H Q) h
def DR(a0:Int)(H:Heap)(Q:Int×Unit->Heap->Prop):Prop:=
CALL P [ah] Py [(.int .u8 a0)] H fun(x1:Bool×Unit) H1=>
aN (!x1.1) (
Q (0,()) H1) (
qB ((0:Int)≤(IntKind.wrap .u8 (a0-1))) (
Q (IntKind.wrap .u16 (1*2 ^ (min (IntKind.wrap .u8 (a0-1)).toNat (IntKind.bits .u16))),()) H1))
def ZH:dw:=.leaf
theorem ZI(a0:Int)(H:Heap)(Q:Int×Unit->Heap->Prop):DR a0 H Q=dN C [] Tryz.f148.ntmps Tryz.f148.results.toList [(aj .u16)] (aP Tryz.f148) ZH [(.int .u8 a0)] H Q:=by kernel_rfl
theorem ZJ{a0:Int}{H:Heap}{Q:Int×Unit->Heap->Prop}(h:DR a0 H Q):CALL P [(aj .u16)] qI [(.int .u8 a0)] H Q:=aC hE Tryz.func148 rfl (by kernel_rfl) (ZI a0 H Q) h
def AA(a0:Option Addr)(a1:bf)(H:Heap)(Q:aA×Int×Unit->Heap->Prop):Prop:=
CALL P [ah] bV [(.pointer a0)] H fun(x1:Bool×Unit) H1=>
aN x1.1 (
Q ((aA.mk (ByteArray.mk #[]) 0 0 0 0 0 0 false (Sl.mk none 0 0)),1,()) H1) (
CALL P [aG,(aj .i64)] fJ [(.pointer a0),(.int .i64 a1.Card)] H1 fun(x2:aA×Int×Unit) H2=>
Q (x2.1,x2.2.1,()) H2)
def Xk:dw:=.leaf
theorem Xl(a0:Option Addr)(a1:bf)(H:Heap)(Q:aA×Int×Unit->Heap->Prop):AA a0 a1 H Q=dN C [3,4] Tryz.f149.ntmps Tryz.f149.results.toList [aG,(aj .i64)] (aP Tryz.f149) Xk [(.pointer a0),(aV.enc a1)] H Q:=by kernel_rfl
theorem Xm{a0:Option Addr}{a1:bf}{H:Heap}{Q:aA×Int×Unit->Heap->Prop}(h:AA a0 a1 H Q):CALL P [aG,(aj .i64)] zV [(.pointer a0),(aV.enc a1)] H Q:=aC hE Tryz.func149 rfl (by kernel_rfl) (Xl a0 a1 H Q) h
def pU(a0:Option Addr)(a1:Sl)(a2:Sl)(H:Heap)(Q:Bool×Unit->Heap->Prop):Prop:=
JOIN (fun(j1:(Bool×Unit)×(Unit)->Heap->Prop)=>
CALL P [ah] gG [(.pointer a0)] H fun(x3:Bool×Unit) H2=>
aN (!x3.1) (
j1 ((true,()),(())) H2) (
aN (decide ((a1.len:Int)>2048)) (
j1 ((true,()),(())) H2) (
j1 (((a2.len:Int) !=(a1.len:Int),()),(())) H2))) fun(y2:(Bool×Unit)×(Unit)) H1=>
aN y2.1.1 (
Q (false,()) H1) (
JOIN (fun(j4:(Unit)×(Unit)->Heap->Prop)=>
LOOP (fun(r6:(Int×Int×Unit)×(Unit)->Heap->Prop) (s7:(Int×Int×Unit)×(Unit)) H4=>
aN (decide (s7.1.2.1<(a1.len:Int))) (
JOIN (fun(j8:(Int×Unit)×(Unit)->Heap->Prop)=>
bQ a1.p a1.len s7.1.2.1 11 fun b10 o11=>
LD aV H4 b10 o11 fun(x12:bf)=>
CALL P [aG,(aj .i64)] fJ [(.pointer a0),(.int .i64 x12.Card)] H4 fun(x13:aA×Int×Unit) H6=>
JOIN (fun(j14:(Bool×Unit)×(Unit)->Heap->Prop)=>
aN (x13.2.1 !=0) (
j14 ((true,()),(())) H6) (
aN (decide (x12.Owner<0)) (
j14 ((true,()),(())) H6) (
aN (decide (x12.Owner>1)) (
j14 ((true,()),(())) H6) (
aN (decide (x12.Place<1)) (
j14 ((true,()),(())) H6) (
j14 ((decide (x12.Place>5),()),(())) H6))))) fun(y15:(Bool×Unit)×(Unit)) H7=>
aN y15.1.1 (
Q (false,()) H7) (
aN (x12.Place !=4) (
j8 ((s7.1.1,()),(())) H7) (
JOIN (fun(j16:(Bool×Unit)×(Unit)->Heap->Prop)=>
aN (decide ((IntKind.wrap .i64 (s7.1.1+1))>16)) (
j16 ((true,()),(())) H7) (
aN (x13.1.Kind==2) (
j16 ((true,()),(())) H7) (
aN (decide (x12.Stamp<1)) (
j16 ((true,()),(())) H7) (
bQ a2.p a2.len s7.1.2.1 5 fun b18 o19=>
LD (aj .i64) H7 b18 (o19+0) fun(x20:Int)=>
aN (decide (x20<0)) (
j16 ((true,()),(())) H7) (
bQ a2.p a2.len s7.1.2.1 5 fun b21 o22=>
LD (aj .i64) H7 b21 (o22+0) fun(x23:Int)=>
aN (decide (x23>1)) (
j16 ((true,()),(())) H7) (
bQ a2.p a2.len s7.1.2.1 5 fun b24 o25=>
LD (aj .u16) H7 b24 (o25+2) fun(x26:Int)=>
CALL P [ah] qp [(.int .u16 x26)] H7 fun(x27:Bool×Unit) H9=>
j16 ((!x27.1,()),(())) H9)))))) fun(y17:(Bool×Unit)×(Unit)) H8=>
aN y17.1.1 (
Q (false,()) H8) (
JOIN (fun(j28:(Unit)×(Unit)->Heap->Prop)=>
LOOP (fun(r30:(Int×Unit)×(Unit)->Heap->Prop) (s31:(Int×Unit)×(Unit)) H11=>
aN (decide (s31.1.1<s7.1.2.1)) (
JOIN (fun(j32:(Bool×Unit)×(Unit)->Heap->Prop)=>
bQ a1.p a1.len s31.1.1 11 fun b34 o35=>
LD (aj .u8) H11 b34 (o35+2) fun(x36:Int)=>
aN (x36==4) (
bQ a1.p a1.len s31.1.1 11 fun b37 o38=>
LD (aj .i64) H11 b37 (o38+3) fun(x39:Int)=>
j32 ((x39==x12.Stamp,()),(())) H11) (
j32 ((false,()),(())) H11)) fun(y33:(Bool×Unit)×(Unit)) H12=>
aN y33.1.1 (
Q (false,()) H12) (
r30 ((IntKind.wrap .i64 (s31.1.1+1),()),(())) H12)) (
j28 ((()),(())) H11)) ((0,()),(())) H8) fun(y29:(Unit)×(Unit)) H10=>
j8 ((IntKind.wrap .i64 (s7.1.1+1),()),(())) H10)))) fun(y9:(Int×Unit)×(Unit)) H5=>
r6 ((y9.1.1,IntKind.wrap .i64 (s7.1.2.1+1),()),(())) H5) (
j4 ((()),(())) H4)) ((0,0,()),(())) H1) fun(y5:(Unit)×(Unit)) H3=>
Q (true,()) H3)
def KP:dw:=(.seq .leaf (.seq (.seq (.reg ⟨[(27,ah)],[],(rg 13 14 [])⟩) .leaf) (.seq .leaf (.seq (.seq .leaf (.blk (some ⟨[],[],(rg 6 7 (rg 28 102 []))⟩) (.loop ⟨[(7,(aj .i64)),(8,(aj .i64))],[],(rg 6 1 (rg 9 4 (rg 28 102 [])))⟩ (.seq .leaf (.seq (.blk (some ⟨[(7,(aj .i64))],[],(rg 6 1 (rg 9 4 (rg 34 96 [])))⟩) (.seq .leaf (.seq .leaf (.seq (.seq (.reg ⟨[(66,ah)],[],(rg 45 21 [])⟩) .leaf) (.seq .leaf (.seq .leaf (.seq (.seq (.reg ⟨[(108,ah)],[],(rg 72 36 [])⟩) .leaf) (.seq .leaf (.blk (some ⟨[],[],(rg 6 1 (rg 12 1 (rg 109 21 [])))⟩) (.loop ⟨[(12,(aj .i64))],[],(rg 6 1 (rg 109 21 []))⟩ (.seq .leaf (.seq (.blk none (.seq (.reg ⟨[(129,ah)],[],(rg 114 15 [])⟩) .leaf)) .leaf)))))))))))) .leaf))))) .leaf))))
theorem KQ(a0:Option Addr)(a1:Sl)(a2:Sl)(H:Heap)(Q:Bool×Unit->Heap->Prop):pU a0 a1 a2 H Q=dN C [9,10] Tryz.f150.ntmps Tryz.f150.results.toList [ah] (aP Tryz.f150) KP [(.pointer a0),a1.v,a2.v] H Q:=by kernel_rfl
theorem KR{a0:Option Addr}{a1:Sl}{a2:Sl}{H:Heap}{Q:Bool×Unit->Heap->Prop}(h:pU a0 a1 a2 H Q):CALL P [ah] oV [(.pointer a0),a1.v,a2.v] H Q:=aC hE Tryz.func150 rfl (by kernel_rfl) (KQ a0 a1 a2 H Q) h
def yJ(a0:Sl)(H:Heap)(Q:Sl×Unit->Heap->Prop):Prop:=
JOIN (fun(j1:(Sl×Unit)×(Unit)->Heap->Prop)=>
LOOP (fun(r3:(Sl×Int×Unit)×(Unit)->Heap->Prop) (s4:(Sl×Int×Unit)×(Unit)) H2=>
JOIN (fun(j5:(Sl×Int×Unit)×(Unit)->Heap->Prop)=>
JOIN (fun(j7:(Int×Unit)×(Unit)->Heap->Prop)=>
LOOP (fun(r9:(Int×Int×Unit)×(Unit)->Heap->Prop) (s10:(Int×Int×Unit)×(Unit)) H5=>
aN (decide (s10.1.2.1<(a0.len:Int))) (
JOIN (fun(j11:(Bool×Unit)×(Unit)->Heap->Prop)=>
bQ a0.p a0.len s10.1.2.1 11 fun b13 o14=>
LD (aj .u8) H5 b13 (o14+2) fun(x15:Int)=>
aN (x15==4) (
bQ a0.p a0.len s10.1.2.1 11 fun b16 o17=>
LD (aj .i64) H5 b16 (o17+3) fun(x18:Int)=>
aN (decide (x18>s4.1.2.1)) (
aN (decide (s10.1.1<0)) (
j11 ((true,()),(())) H5) (
bQ a0.p a0.len s10.1.2.1 11 fun b19 o20=>
LD (aj .i64) H5 b19 (o20+3) fun(x21:Int)=>
bQ a0.p a0.len s10.1.1 11 fun b22 o23=>
LD (aj .i64) H5 b22 (o23+3) fun(x24:Int)=>
j11 ((decide (x21<x24),()),(())) H5)) (
j11 ((false,()),(())) H5)) (
j11 ((false,()),(())) H5)) fun(y12:(Bool×Unit)×(Unit)) H6=>
JOIN (fun(j25:(Int×Unit)×(Unit)->Heap->Prop)=>
aN y12.1.1 (
j25 ((s10.1.2.1,()),(())) H6) (
j25 ((s10.1.1,()),(())) H6)) fun(y26:(Int×Unit)×(Unit)) H7=>
r9 ((y26.1.1,IntKind.wrap .i64 (s10.1.2.1+1),()),(())) H7) (
j7 ((s10.1.1,()),(())) H5)) (((-1),0,()),(())) H2) fun(y8:(Int×Unit)×(Unit)) H4=>
aN (decide (y8.1.1<0)) (
Q (s4.1.1,()) H4) (
vk aH (lenV s4.1.1.v+1) (dR E [27,27] s4.1.1.v 1 [(.int .i64 (IntKind.wrap .i64 (y8.1.1+1)))] H4) fun(x27:Sl) H8=>
bQ a0.p a0.len y8.1.1 11 fun b28 o29=>
LD (aj .i64) H8 b28 (o29+3) fun(x30:Int)=>
j5 ((x27,x30,()),(())) H8)) fun(y6:(Sl×Int×Unit)×(Unit)) H3=>
r3 ((y6.1.1,y6.1.2.1,()),(())) H3) (((Sl.mk none 0 0),0,()),(())) H) fun(y2:(Sl×Unit)×(Unit)) H1=>
Q (y2.1.1,()) H1
def UJ:dw:=(.seq .leaf (.seq .leaf (.seq .leaf (.blk (some ⟨[(2,aH)],[],(rg 3 56 [])⟩) (.loop ⟨[(3,aH),(4,(aj .i64))],[],(rg 2 1 (rg 5 54 []))⟩ (.blk (some ⟨[(3,aH),(4,(aj .i64))],[],(rg 2 1 (rg 5 54 []))⟩) (.seq .leaf (.seq (.seq .leaf (.blk (some ⟨[(5,(aj .i64))],[],(rg 6 40 [])⟩) (.loop ⟨[(5,(aj .i64)),(6,(aj .i64))],[],(rg 7 39 [])⟩ (.seq .leaf (.seq (.blk none (.seq (.reg ⟨[(44,ah)],[],(rg 13 31 [])⟩) (.cond (some ⟨[(5,(aj .i64))],[],[45]⟩) .leaf .leaf))) .leaf))))) .leaf))))))))
theorem UK(a0:Sl)(H:Heap)(Q:Sl×Unit->Heap->Prop):yJ a0 H Q=dN C [52] Tryz.f151.ntmps Tryz.f151.results.toList [aH] (aP Tryz.f151) UJ [a0.v] H Q:=by kernel_rfl
theorem UL{a0:Sl}{H:Heap}{Q:Sl×Unit->Heap->Prop}(h:yJ a0 H Q):CALL P [aH] qx [a0.v] H Q:=aC hE Tryz.func151 rfl (by kernel_rfl) (UK a0 H Q) h
def DT(a0:Int)(a1:Int)(H:Heap)(Q:Bool×Unit->Heap->Prop):Prop:=
CALL P [(aj .u16)] qJ [(.int .u8 a1)] H fun(x1:Int×Unit) H1=>
Q ((IntKind.wrap .u16 (((BitVec.ofInt (IntKind.bits .u16) a0 &&& BitVec.ofInt (IntKind.bits .u16) x1.1).toNat:Int))) !=0,()) H1
def ZK:dw:=.leaf
theorem ZL(a0:Int)(a1:Int)(H:Heap)(Q:Bool×Unit->Heap->Prop):DT a0 a1 H Q=dN C [] Tryz.f152.ntmps Tryz.f152.results.toList [ah] (aP Tryz.f152) ZK [(.int .u16 a0),(.int .u8 a1)] H Q:=by kernel_rfl
theorem ZM{a0:Int}{a1:Int}{H:Heap}{Q:Bool×Unit->Heap->Prop}(h:DT a0 a1 H Q):CALL P [ah] wC [(.int .u16 a0),(.int .u8 a1)] H Q:=aC hE Tryz.func152 rfl (by kernel_rfl) (ZL a0 a1 H Q) h
def rZ(a0:Option Addr)(a1:Int)(H:Heap)(Q:aA×Int×Unit->Heap->Prop):Prop:=
CALL P [ah] bV [(.pointer a0)] H fun(x1:Bool×Unit) H1=>
aN x1.1 (
Q ((aA.mk (ByteArray.mk #[]) 0 0 0 0 0 0 false (Sl.mk none 0 0)),1,()) H1) (
JOIN (fun(j2:(Bool×Unit)×(Unit)->Heap->Prop)=>
NIL a0 fun b4 o5=>
LD ah H1 b4 (o5+1) fun(x6:Bool)=>
aN (!x6) (
j2 ((true,()),(())) H1) (
aN (decide (a1<1)) (
j2 ((true,()),(())) H1) (
NIL a0 fun b7 o8=>
LD aH H1 b7 (o8+2) fun(x9:Sl)=>
j2 ((decide (a1>(x9.len:Int)),()),(())) H1))) fun(y3:(Bool×Unit)×(Unit)) H2=>
aN y3.1.1 (
Q ((aA.mk (ByteArray.mk #[]) 0 0 0 0 0 0 false (Sl.mk none 0 0)),6,()) H2) (
NIL a0 fun b10 o11=>
LD aH H2 b10 (o11+2) fun(x12:Sl)=>
bQ x12.p x12.len (IntKind.wrap .i64 (a1-1)) 9 fun b13 o14=>
LD aG H2 b13 o14 fun(x15:aA)=>
CALL P [aG] kR [(aG.enc x15)] H2 fun(x16:aA×Unit) H3=>
Q (x16.1,0,()) H3))
def NQ:dw:=(.seq .leaf (.seq .leaf (.seq (.seq (.reg ⟨[(26,ah)],[],(rg 9 17 [])⟩) .leaf) .leaf)))
theorem NR(a0:Option Addr)(a1:Int)(H:Heap)(Q:aA×Int×Unit->Heap->Prop):rZ a0 a1 H Q=dN C [4] Tryz.f153.ntmps Tryz.f153.results.toList [aG,(aj .i64)] (aP Tryz.f153) NQ [(.pointer a0),(.int .i64 a1)] H Q:=by kernel_rfl
theorem NS{a0:Option Addr}{a1:Int}{H:Heap}{Q:aA×Int×Unit->Heap->Prop}(h:rZ a0 a1 H Q):CALL P [aG,(aj .i64)] fJ [(.pointer a0),(.int .i64 a1)] H Q:=aC hE Tryz.func153 rfl (by kernel_rfl) (NR a0 a1 H Q) h
def yK(a0:Int)(H:Heap)(Q:Int×Unit->Heap->Prop):Prop:=
aN (a0==10) (
Q (1,()) H) (
aN (a0==11) (
Q (2,()) H) (
JOIN (fun(j1:(Bool×Unit)×(Unit)->Heap->Prop)=>
aN (a0==12) (
j1 ((a0==12,()),(())) H) (
j1 ((a0==13,()),(())) H)) fun(y2:(Bool×Unit)×(Unit)) H1=>
aN y2.1.1 (
Q (3,()) H1) (
aN (a0==14) (
Q (4,()) H1) (
aN (a0==15) (
Q (5,()) H1) (
Q (0,()) H1)))))
def UM:dw:=(.seq .leaf (.seq (.seq .leaf (.blk none (.seq .leaf (.cond none .leaf (.seq .leaf (.cond none .leaf (.seq (.seq .leaf (.cond (some ⟨[(8,ah)],[],[10]⟩) .leaf .leaf)) .leaf))))))) .leaf))
theorem UN(a0:Int)(H:Heap)(Q:Int×Unit->Heap->Prop):yK a0 H Q=dN C [] Tryz.f154.ntmps Tryz.f154.results.toList [(aj .i64)] (aP Tryz.f154) UM [(.int .u8 a0)] H Q:=by kernel_rfl
theorem UO{a0:Int}{H:Heap}{Q:Int×Unit->Heap->Prop}(h:yK a0 H Q):CALL P [(aj .i64)] xu [(.int .u8 a0)] H Q:=aC hE Tryz.func154 rfl (by kernel_rfl) (UN a0 H Q) h
def AB(a0:Sl)(a1:Sl)(H:Heap)(Q:Bool×Unit->Heap->Prop):Prop:=
aN ((a0.len:Int) !=(a1.len:Int)) (
Q (false,()) H) (
JOIN (fun(j1:(Unit)×(Unit)->Heap->Prop)=>
LOOP (fun(r3:(Int×Unit)×(Unit)->Heap->Prop) (s4:(Int×Unit)×(Unit)) H2=>
aN (decide (s4.1.1<(a0.len:Int))) (
bQ a0.p a0.len s4.1.1 1 fun b5 o6=>
LD (aj .i64) H2 b5 o6 fun(x7:Int)=>
bQ a1.p a1.len s4.1.1 1 fun b8 o9=>
LD (aj .i64) H2 b8 o9 fun(x10:Int)=>
aN (x7 !=x10) (
Q (false,()) H2) (
r3 ((IntKind.wrap .i64 (s4.1.1+1),()),(())) H2)) (
j1 ((()),(())) H2)) ((0,()),(())) H) fun(y2:(Unit)×(Unit)) H1=>
Q (true,()) H1)
def Xn:dw:=(.seq .leaf (.seq .leaf (.seq (.seq .leaf (.blk (some ⟨[],[],(rg 4 2 (rg 11 15 []))⟩) (.loop ⟨[(5,(aj .i64))],[],(rg 4 1 (rg 11 15 []))⟩ .leaf))) .leaf)))
theorem Xo(a0:Sl)(a1:Sl)(H:Heap)(Q:Bool×Unit->Heap->Prop):AB a0 a1 H Q=dN C [] Tryz.f155.ntmps Tryz.f155.results.toList [ah] (aP Tryz.f155) Xn [a0.v,a1.v] H Q:=by kernel_rfl
theorem Xp{a0:Sl}{a1:Sl}{H:Heap}{Q:Bool×Unit->Heap->Prop}(h:AB a0 a1 H Q):CALL P [ah] zW [a0.v,a1.v] H Q:=aC hE Tryz.func155 rfl (by kernel_rfl) (Xo a0 a1 H Q) h
def yL(a0:Option Addr)(a1:Sl)(a2:Sl)(a3:aF)(a4:Int)(H:Heap)(Q:Bool×Unit->Heap->Prop):Prop:=
aN (a3.What.Whom==4) (
Q (a4==a3.Thing,()) H) (
bQ a1.p a1.len (IntKind.wrap .i64 (a4-1)) 11 fun b1 o2=>
LD aV H b1 o2 fun(x3:bf)=>
CALL P [ah] zZ [(.pointer a0),(aV.enc x3)] H fun(x4:Bool×Unit) H1=>
aN (!x4.1) (
Q (false,()) H1) (
bQ a2.p a2.len (IntKind.wrap .i64 (a4-1)) 5 fun b5 o6=>
LD aI H1 b5 o6 fun(x7:aB)=>
bQ a2.p a2.len (IntKind.wrap .i64 (a3.Thing-1)) 5 fun b8 o9=>
LD (aj .i64) H1 b8 (o9+0) fun(x10:Int)=>
aN (a3.What.Whom==5) (
Q (x7.Holder==x10,()) H1) (
aN (a3.What.Whom==8) (
JOIN (fun(j11:(Bool×Unit)×(Unit)->Heap->Prop)=>
aN (x7.Holder==x10) (
j11 ((a4 !=a3.Thing,()),(())) H1) (
j11 ((false,()),(())) H1)) fun(y12:(Bool×Unit)×(Unit)) H2=>
Q (y12.1.1,()) H2) (
aN (a3.What.Whom==6) (
Q (x7.Holder !=x10,()) H1) (
aN (a3.What.Whom==7) (
Q (true,()) H1) (
aN (a3.What.Whom==9) (
Q (x7.Suit==a3.What.Suit,()) H1) (
aN (a3.What.Whom==10) (
CALL P [ah] wC [(.int .u16 x7.Traits),(.int .u8 a3.What.Trait)] H1 fun(x13:Bool×Unit) H3=>
Q (x13.1,()) H3) (
Q (false,()) H1))))))))
def UQ:dw:=(.seq .leaf (.seq .leaf (.seq .leaf (.seq .leaf (.seq .leaf (.seq (.seq .leaf (.blk none (.seq .leaf (.cond none .leaf (.seq .leaf (.cond none (.seq (.reg ⟨[(10,ah)],[],(rg 52 10 [])⟩) .leaf) .leaf)))))) .leaf))))))
theorem UR(a0:Option Addr)(a1:Sl)(a2:Sl)(a3:aF)(a4:Int)(H:Heap)(Q:Bool×Unit->Heap->Prop):yL a0 a1 a2 a3 a4 H Q=dN C [8,11] Tryz.f156.ntmps Tryz.f156.results.toList [ah] (aP Tryz.f156) UQ [(.pointer a0),a1.v,a2.v,(ay.enc a3),(.int .i64 a4)] H Q:=by kernel_rfl
theorem UU{a0:Option Addr}{a1:Sl}{a2:Sl}{a3:aF}{a4:Int}{H:Heap}{Q:Bool×Unit->Heap->Prop}(h:yL a0 a1 a2 a3 a4 H Q):CALL P [ah] xw [(.pointer a0),a1.v,a2.v,(ay.enc a3),(.int .i64 a4)] H Q:=aC hE Tryz.func156 rfl (by kernel_rfl) (UR a0 a1 a2 a3 a4 H Q) h
def AL(a0:Int)(a1:Int)(H:Heap)(Q:Int×Unit->Heap->Prop):Prop:=
CALL P [(aj .u16)] qJ [(.int .u8 a1)] H fun(x1:Int×Unit) H1=>
Q (IntKind.wrap .u16 (((BitVec.ofInt (IntKind.bits .u16) a0 ||| BitVec.ofInt (IntKind.bits .u16) x1.1).toNat:Int)),()) H1
def Xq:dw:=.leaf
theorem Xr(a0:Int)(a1:Int)(H:Heap)(Q:Int×Unit->Heap->Prop):AL a0 a1 H Q=dN C [] Tryz.f157.ntmps Tryz.f157.results.toList [(aj .u16)] (aP Tryz.f157) Xq [(.int .u16 a0),(.int .u8 a1)] H Q:=by kernel_rfl
theorem Xt{a0:Int}{a1:Int}{H:Heap}{Q:Int×Unit->Heap->Prop}(h:AL a0 a1 H Q):CALL P [(aj .u16)] zX [(.int .u16 a0),(.int .u8 a1)] H Q:=aC hE Tryz.func157 rfl (by kernel_rfl) (Xr a0 a1 H Q) h
def su(a0:Int)(a1:Int)(H:Heap)(Q:Int×Unit->Heap->Prop):Prop:=
CALL P [(aj .u16)] qJ [(.int .u8 a1)] H fun(x1:Int×Unit) H1=>
Q (IntKind.wrap .u16 (((BitVec.ofInt (IntKind.bits .u16) a0 &&& ~~~BitVec.ofInt (IntKind.bits .u16) x1.1).toNat:Int)),()) H1
def NT:dw:=.leaf
theorem NU(a0:Int)(a1:Int)(H:Heap)(Q:Int×Unit->Heap->Prop):su a0 a1 H Q=dN C [] Tryz.f158.ntmps Tryz.f158.results.toList [(aj .u16)] (aP Tryz.f158) NT [(.int .u16 a0),(.int .u8 a1)] H Q:=by kernel_rfl
theorem NV{a0:Int}{a1:Int}{H:Heap}{Q:Int×Unit->Heap->Prop}(h:su a0 a1 H Q):CALL P [(aj .u16)] rC [(.int .u16 a0),(.int .u8 a1)] H Q:=aC hE Tryz.func158 rfl (by kernel_rfl) (NU a0 a1 H Q) h
def AO(a0:aU)(a1:aU)(H:Heap)(Q:Bool×Unit->Heap->Prop):Prop:=
JOIN (fun(j1:(Bool×Unit)×(Unit)->Heap->Prop)=>
aN (a0.When==a1.When) (
aN (a0.Verb==a1.Verb) (
aN (a0.Whom==a1.Whom) (
aN (a0.Count==a1.Count) (
aN (a0.Suit==a1.Suit) (
aN (a0.Trait==a1.Trait) (
aN (a0.Mark==a1.Mark) (
j1 ((a0.Name.toList==a1.Name.toList,()),(())) H) (
j1 ((false,()),(())) H)) (
j1 ((false,()),(())) H)) (
j1 ((false,()),(())) H)) (
j1 ((false,()),(())) H)) (
j1 ((false,()),(())) H)) (
j1 ((false,()),(())) H)) (
j1 ((false,()),(())) H)) fun(y2:(Bool×Unit)×(Unit)) H1=>
Q (y2.1.1,()) H1
def Xu:dw:=(.seq .leaf (.seq (.reg ⟨[(4,ah)],[],(rg 5 54 [])⟩) .leaf))
theorem Xv(a0:aU)(a1:aU)(H:Heap)(Q:Bool×Unit->Heap->Prop):AO a0 a1 H Q=dN C [2,3] Tryz.f159.ntmps Tryz.f159.results.toList [ah] (aP Tryz.f159) Xu [(aQ.enc a0),(aQ.enc a1)] H Q:=by kernel_rfl
theorem Xw{a0:aU}{a1:aU}{H:Heap}{Q:Bool×Unit->Heap->Prop}(h:AO a0 a1 H Q):CALL P [ah] zY [(aQ.enc a0),(aQ.enc a1)] H Q:=aC hE Tryz.func159 rfl (by kernel_rfl) (Xv a0 a1 H Q) h
def uK(a0:Int)(H:Heap)(Q:Int×Unit->Heap->Prop):Prop:=
aN (a0==10) (
Q (1,()) H) (
aN (a0==11) (
Q (2,()) H) (
JOIN (fun(j1:(Bool×Unit)×(Unit)->Heap->Prop)=>
aN (a0==12) (
j1 ((a0==12,()),(())) H) (
j1 ((a0==13,()),(())) H)) fun(y2:(Bool×Unit)×(Unit)) H1=>
aN y2.1.1 (
Q (3,()) H1) (
aN (a0==14) (
Q (4,()) H1) (
aN (a0==15) (
Q (5,()) H1) (
Q (0,()) H1)))))
def Qq:dw:=(.seq .leaf (.seq (.seq .leaf (.blk none (.seq .leaf (.cond none .leaf (.seq .leaf (.cond none .leaf (.seq (.seq .leaf (.cond (some ⟨[(8,ah)],[],[10]⟩) .leaf .leaf)) .leaf))))))) .leaf))
theorem Qr(a0:Int)(H:Heap)(Q:Int×Unit->Heap->Prop):uK a0 H Q=dN C [] Tryz.f160.ntmps Tryz.f160.results.toList [(aj .i64)] (aP Tryz.f160) Qq [(.int .u8 a0)] H Q:=by kernel_rfl
theorem Qs{a0:Int}{H:Heap}{Q:Int×Unit->Heap->Prop}(h:uK a0 H Q):CALL P [(aj .i64)] ug [(.int .u8 a0)] H Q:=aC hE Tryz.func160 rfl (by kernel_rfl) (Qr a0 H Q) h
end Zv
end Go.Proofs.YtijnknjopjmiiaaGreatDoor
end
section
namespace Go.Proofs.YtijnknjopjmiiaaGreatDoor
open Go Zq
namespace Zv
set_option maxRecDepth 100000
set_option linter.unusedVariables false
def jm(a0:Sl)(a1:Sl)(H:Heap)(Q:Bool×Unit->Heap->Prop):Prop:=
aN ((a0.len:Int) !=(a1.len:Int)) (
Q (false,()) H) (
JOIN (fun(j1:(Unit)×(Unit)->Heap->Prop)=>
LOOP (fun(r3:(Int×Unit)×(Unit)->Heap->Prop) (s4:(Int×Unit)×(Unit)) H2=>
aN (decide (s4.1.1<(a0.len:Int))) (
bQ a0.p a0.len s4.1.1 1 fun b5 o6=>
LD (aj .i64) H2 b5 o6 fun(x7:Int)=>
bQ a1.p a1.len s4.1.1 1 fun b8 o9=>
LD (aj .i64) H2 b8 o9 fun(x10:Int)=>
aN (x7 !=x10) (
Q (false,()) H2) (
r3 ((IntKind.wrap .i64 (s4.1.1+1),()),(())) H2)) (
j1 ((()),(())) H2)) ((0,()),(())) H) fun(y2:(Unit)×(Unit)) H1=>
Q (true,()) H1)
def AP:dw:=(.seq .leaf (.seq .leaf (.seq (.seq .leaf (.blk (some ⟨[],[],(rg 4 2 (rg 13 13 []))⟩) (.loop ⟨[(13,(aj .i64))],[],(rg 4 2 (rg 14 12 []))⟩ .leaf))) .leaf)))
theorem AQ(a0:Sl)(a1:Sl)(H:Heap)(Q:Bool×Unit->Heap->Prop):jm a0 a1 H Q=dN C [] Tryz.f161.ntmps Tryz.f161.results.toList [ah] (aP Tryz.f161) AP [a0.v,a1.v] H Q:=by kernel_rfl
theorem AU{a0:Sl}{a1:Sl}{H:Heap}{Q:Bool×Unit->Heap->Prop}(h:jm a0 a1 H Q):CALL P [ah] ji [a0.v,a1.v] H Q:=aC hE Tryz.func161 rfl (by kernel_rfl) (AQ a0 a1 H Q) h
def oh(a0:Int)(H:Heap)(Q:Bool×Unit->Heap->Prop):Prop:=
JOIN (fun(j1:(Bool×Unit)×(Unit)->Heap->Prop)=>
aN (decide (a0≥10)) (
j1 ((decide (a0≤15),()),(())) H) (
j1 ((false,()),(())) H)) fun(y2:(Bool×Unit)×(Unit)) H1=>
Q (y2.1.1,()) H1
def I4:dw:=(.seq .leaf (.seq (.reg ⟨[(2,ah)],[],(rg 3 6 [])⟩) .leaf))
theorem I5(a0:Int)(H:Heap)(Q:Bool×Unit->Heap->Prop):oh a0 H Q=dN C [] Tryz.f163.ntmps Tryz.f163.results.toList [ah] (aP Tryz.f163) I4 [(.int .u8 a0)] H Q:=by kernel_rfl
theorem I7{a0:Int}{H:Heap}{Q:Bool×Unit->Heap->Prop}(h:oh a0 H Q):CALL P [ah] jV [(.int .u8 a0)] H Q:=aC hE Tryz.func163 rfl (by kernel_rfl) (I5 a0 H Q) h
def ou(a0:Int)(H:Heap)(Q:Bool×Unit->Heap->Prop):Prop:=
JOIN (fun(j1:(Bool×Unit)×(Unit)->Heap->Prop)=>
aN (decide (a0≥16)) (
j1 ((decide (a0≤19),()),(())) H) (
j1 ((false,()),(())) H)) fun(y2:(Bool×Unit)×(Unit)) H1=>
Q (y2.1.1,()) H1
def I8:dw:=(.seq .leaf (.seq (.reg ⟨[(2,ah)],[],(rg 3 6 [])⟩) .leaf))
theorem I9(a0:Int)(H:Heap)(Q:Bool×Unit->Heap->Prop):ou a0 H Q=dN C [] Tryz.f164.ntmps Tryz.f164.results.toList [ah] (aP Tryz.f164) I8 [(.int .u8 a0)] H Q:=by kernel_rfl
theorem Ja{a0:Int}{H:Heap}{Q:Bool×Unit->Heap->Prop}(h:ou a0 H Q):CALL P [ah] jW [(.int .u8 a0)] H Q:=aC hE Tryz.func164 rfl (by kernel_rfl) (I9 a0 H Q) h
def uM(a0:Int)(H:Heap)(Q:Bool×Unit->Heap->Prop):Prop:=
JOIN (fun(j1:(Bool×Unit)×(Unit)->Heap->Prop)=>
aN (decide (a0≥1)) (
j1 ((decide (a0≤9),()),(())) H) (
j1 ((false,()),(())) H)) fun(y2:(Bool×Unit)×(Unit)) H1=>
Q (y2.1.1,()) H1
def Qu:dw:=(.seq .leaf (.seq (.reg ⟨[(2,ah)],[],(rg 3 6 [])⟩) .leaf))
theorem Qw(a0:Int)(H:Heap)(Q:Bool×Unit->Heap->Prop):uM a0 H Q=dN C [] Tryz.f165.ntmps Tryz.f165.results.toList [ah] (aP Tryz.f165) Qu [(.int .u8 a0)] H Q:=by kernel_rfl
theorem Qx{a0:Int}{H:Heap}{Q:Bool×Unit->Heap->Prop}(h:uM a0 H Q):CALL P [ah] uh [(.int .u8 a0)] H Q:=aC hE Tryz.func165 rfl (by kernel_rfl) (Qw a0 H Q) h
def uN(a0:Int)(H:Heap)(Q:Int×Int×Unit->Heap->Prop):Prop:=
JOIN (fun(j1:(Bool×Unit)×(Unit)->Heap->Prop)=>
aN (a0==1) (
j1 ((a0==1,()),(())) H) (
JOIN (fun(j3:(Bool×Unit)×(Unit)->Heap->Prop)=>
aN (a0==2) (
j3 ((a0==2,()),(())) H) (
JOIN (fun(j5:(Bool×Unit)×(Unit)->Heap->Prop)=>
aN (a0==3) (
j5 ((a0==3,()),(())) H) (
JOIN (fun(j7:(Bool×Unit)×(Unit)->Heap->Prop)=>
aN (a0==4) (
j7 ((a0==4,()),(())) H) (
JOIN (fun(j9:(Bool×Unit)×(Unit)->Heap->Prop)=>
aN (a0==7) (
j9 ((a0==7,()),(())) H) (
JOIN (fun(j11:(Bool×Unit)×(Unit)->Heap->Prop)=>
aN (a0==16) (
j11 ((a0==16,()),(())) H) (
j11 ((a0==19,()),(())) H)) fun(y12:(Bool×Unit)×(Unit)) H6=>
j9 ((y12.1.1,()),(())) H6)) fun(y10:(Bool×Unit)×(Unit)) H5=>
j7 ((y10.1.1,()),(())) H5)) fun(y8:(Bool×Unit)×(Unit)) H4=>
j5 ((y8.1.1,()),(())) H4)) fun(y6:(Bool×Unit)×(Unit)) H3=>
j3 ((y6.1.1,()),(())) H3)) fun(y4:(Bool×Unit)×(Unit)) H2=>
j1 ((y4.1.1,()),(())) H2)) fun(y2:(Bool×Unit)×(Unit)) H1=>
aN y2.1.1 (
Q (1,99,()) H1) (
JOIN (fun(j13:(Bool×Unit)×(Unit)->Heap->Prop)=>
aN (a0==9) (
j13 ((a0==9,()),(())) H1) (
j13 ((a0==15,()),(())) H1)) fun(y14:(Bool×Unit)×(Unit)) H7=>
aN y14.1.1 (
Q ((-99),99,()) H7) (
aN (a0==5) (
Q ((-9),9,()) H7) (
aN (a0==14) (
Q (0,99,()) H7) (
Q (0,0,()) H7))))
def Qy:dw:=(.seq .leaf (.seq (.seq .leaf (.blk none (.seq (.seq .leaf (.cond (some ⟨[(5,ah)],[],(rg 7 6 [])⟩) .leaf (.seq .leaf (.cond (some ⟨[(5,ah)],[],(rg 8 5 [])⟩) .leaf (.seq .leaf (.cond (some ⟨[(5,ah)],[],[9,10,11,12]⟩) .leaf (.seq .leaf (.cond (some ⟨[(5,ah)],[],[10,11,12]⟩) .leaf (.seq .leaf (.cond (some ⟨[(5,ah)],[],[11,12]⟩) .leaf (.seq .leaf (.cond (some ⟨[(5,ah)],[],[12]⟩) .leaf .leaf)))))))))))) (.cond none .leaf (.seq (.seq .leaf (.cond (some ⟨[(13,ah)],[],[15]⟩) .leaf .leaf)) .leaf))))) .leaf))
theorem Qz(a0:Int)(H:Heap)(Q:Int×Int×Unit->Heap->Prop):uN a0 H Q=dN C [] Tryz.f166.ntmps Tryz.f166.results.toList [(aj .i64),(aj .i64)] (aP Tryz.f166) Qy [(.int .u8 a0)] H Q:=by kernel_rfl
theorem QA{a0:Int}{H:Heap}{Q:Int×Int×Unit->Heap->Prop}(h:uN a0 H Q):CALL P [(aj .i64),(aj .i64)] nO [(.int .u8 a0)] H Q:=aC hE Tryz.func166 rfl (by kernel_rfl) (Qz a0 H Q) h
def GV(a0:Int)(H:Heap)(Q:Bool×Unit->Heap->Prop):Prop:=
JOIN (fun(j1:(Bool×Unit)×(Unit)->Heap->Prop)=>
aN (decide (a0≥1)) (
j1 ((decide (a0≤8),()),(())) H) (
j1 ((false,()),(())) H)) fun(y2:(Bool×Unit)×(Unit)) H1=>
Q (y2.1.1,()) H1
def aa5:dw:=(.seq .leaf (.seq (.reg ⟨[(2,ah)],[],(rg 3 6 [])⟩) .leaf))
theorem aa6(a0:Int)(H:Heap)(Q:Bool×Unit->Heap->Prop):GV a0 H Q=dN C [] Tryz.f177.ntmps Tryz.f177.results.toList [ah] (aP Tryz.f177) aa5 [(.int .u8 a0)] H Q:=by kernel_rfl
theorem aa7{a0:Int}{H:Heap}{Q:Bool×Unit->Heap->Prop}(h:GV a0 H Q):CALL P [ah] Py [(.int .u8 a0)] H Q:=aC hE Tryz.func177 rfl (by kernel_rfl) (aa6 a0 H Q) h
def DU(a0:Int)(H:Heap)(Q:Int×Unit->Heap->Prop):Prop:=
JOIN (fun(j1:(Bool×Unit)×(Unit)->Heap->Prop)=>
aN (decide (a0<1)) (
j1 ((true,()),(())) H) (
j1 ((decide (a0>8),()),(())) H)) fun(y2:(Bool×Unit)×(Unit)) H1=>
aN y2.1.1 (
Q (0,()) H1) (
qB ((0:Int)≤(IntKind.wrap .u8 (a0-1))) (
Q (IntKind.wrap .u16 (1*2 ^ (min (IntKind.wrap .u8 (a0-1)).toNat (IntKind.bits .u16))),()) H1))
def ZN:dw:=(.seq .leaf (.seq (.seq (.reg ⟨[(8,ah)],[],[3,4,5,6,7]⟩) .leaf) .leaf))
theorem ZO(a0:Int)(H:Heap)(Q:Int×Unit->Heap->Prop):DU a0 H Q=dN C [] Tryz.f178.ntmps Tryz.f178.results.toList [(aj .u16)] (aP Tryz.f178) ZN [(.int .u8 a0)] H Q:=by kernel_rfl
theorem ZP{a0:Int}{H:Heap}{Q:Int×Unit->Heap->Prop}(h:DU a0 H Q):CALL P [(aj .u16)] qJ [(.int .u8 a0)] H Q:=aC hE Tryz.func178 rfl (by kernel_rfl) (ZO a0 H Q) h
def AV(a0:Option Addr)(a1:bf)(H:Heap)(Q:Bool×Unit->Heap->Prop):Prop:=
CALL P [aG,(aj .i64)] fJ [(.pointer a0),(.int .i64 a1.Card)] H fun(x1:aA×Int×Unit) H1=>
JOIN (fun(j2:(Bool×Unit)×(Unit)->Heap->Prop)=>
aN (a1.Place==4) (
j2 ((x1.1.Kind==1,()),(())) H1) (
j2 ((false,()),(())) H1)) fun(y3:(Bool×Unit)×(Unit)) H2=>
Q (y3.1.1,()) H2
def Xx:dw:=(.seq .leaf (.seq .leaf (.seq (.reg ⟨[(4,ah)],[],(rg 14 8 [])⟩) .leaf)))
theorem Xy(a0:Option Addr)(a1:bf)(H:Heap)(Q:Bool×Unit->Heap->Prop):AV a0 a1 H Q=dN C [3,5] Tryz.f179.ntmps Tryz.f179.results.toList [ah] (aP Tryz.f179) Xx [(.pointer a0),(aV.enc a1)] H Q:=by kernel_rfl
theorem Xz{a0:Option Addr}{a1:bf}{H:Heap}{Q:Bool×Unit->Heap->Prop}(h:AV a0 a1 H Q):CALL P [ah] zZ [(.pointer a0),(aV.enc a1)] H Q:=aC hE Tryz.func179 rfl (by kernel_rfl) (Xy a0 a1 H Q) h
end Zv
end Go.Proofs.YtijnknjopjmiiaaGreatDoor
end
section
namespace Go.Proofs.YtijnknjopjmiiaaGreatDoor.Zq
open Go.Proofs Go.RowKit
theorem Stp.agK{M:Mp}{H:Heap}{w W:World}(h:HR M H w)(b:Below w.heap.size w W)(hd:w.drawn≤W.drawn):Stp M H w M H W:=by
 have hh:∀j,j<w.heap.size->W.heap[j]? =w.heap[j]? :=b.block
 refine⟨.refl M,⟨h.len,fun b e k hb hk=>(h.blk b e k hb hk).same fun hlv=>hh _ (h.ny hb ?_),h.sep⟩,b.os,b.output,b.tape,b.size,hd,fun c hc _=>hh c hc,fun b e hb hw _=>⟨b,e,hb,hw,rfl⟩,fun _ h=>⟨h,rfl⟩,fun b e hb hw _=>⟨b,e,hb,hw,rfl⟩⟩
 unfold bZ; rw[hk]; cases k<;>first|exact hlv|trivial
section
open Zv
abbrev UW:ByteArray:=ByteArray.mk #[97,98,99,100,101,102,103,104,105,106,107,108,109,110,111,112,113,114,115,116,117,118,119,120,121,122,45]
theorem trim_c{H:Heap}{s:ByteArray}(h0:0<s.size)(hs:s.size≤9223372036854775807){Q:ByteArray×Unit->Heap->Prop}(hq:Q (⟨(Lib.trimS s.data.toList UW.data.toList).toArray⟩,()) H):CALL P [eH] kE [.string s,.string UW] H Q:=by
 have hfn:∃fn,P.funcs[kE]? =some fn∧fn.body.isSome=true∧(fn.name=="runtime.NumGoroutine")=false:=⟨_,lays160.f160,by kernel_rfl,by kernel_rfl⟩
 refine⟨hfn,fun n M w args' hr hv=> ?_⟩
 obtain⟨v1,vs1,rfl,h1,hv1⟩:=hv.of_cons
 obtain⟨v2,vs2,rfl,h2,hv2⟩:=hv1.of_cons
 have:=hv2.of_nil; subst this
 have:=h1.of_string; subst this
 have:=h2.of_string; subst this
 have h116:(P.info? (vY.t 116)).map (fun i=>(i.zero,i.size))=some (some (.agg (Array.replicate 256 (.bool false))),256):=by kernel_rfl
 refine callsIn_wide.2 ((Any.strings_Trim_set lays160 (zero_of_info h116).1 (zero_of_info h116).2 s UW w (by decide) h0 hs (by decide) (ascii_of_all (by decide))).mono ?_)
 rintro en w' ⟨rfl,q,rfl⟩
 exact⟨.string _,_,M,H,rfl,Stp.agK hr (by have b:=((Below.refl w.heap.size w).alloc (Nat.le_refl _) (.cells (Lib.setCells UW.data.toList) (vY.t 116))).alloc (by show w.heap.size≤(w.heap.push _).size; simp) (.cells (Lib.setCells UW.data.toList) (vY.t 116)); exact⟨b.os,b.tape,b.output,b.size,b.block⟩) (by show w.drawn≤w.drawn+q; omega),.string _,_,rfl,hq⟩
theorem aiw:∀b:UInt8,UW.data.toList.contains b=LQ b:=fun b=>by
 have h:∀n:Fin 256,UW.data.toList.contains (UInt8.ofFin n)=LQ (UInt8.ofFin n):=by decide +kernel
 exact h b.toFin
theorem dropWhile_nil{α:Type}{p:α->Bool}:∀{l:List α},l.dropWhile p=[]↔l.all p=true
 |[]=>by simp
 |a::l=>by
  rw[List.dropWhile_cons,List.all_cons]
  split
  ·rename_i e; rw[e,dropWhile_nil]; simp
  ·rename_i e; simp[e]
theorem adf(l:List UInt8):Lib.trimS l UW.data.toList=[]↔l.all LQ=true:=by
 have e:(fun b=>UW.data.toList.contains b)=LQ:=funext aiw
 unfold Lib.trimS Lib.trimLeftS Lib.trimRightS
 rw[e,dropWhile_nil]
 constructor
 ·intro h
  cases hd:l.reverse.dropWhile LQ with
  |nil=>
   rw[dropWhile_nil,List.all_reverse]at hd; exact hd
  |cons x r=>
   have hx:=uj hd
   rw[hd,List.all_eq_true]at h
   have:=h x (by simp)
   rw[this]at hx; cases hx
 ·intro h
  have:l.reverse.dropWhile LQ=[]:=by rw[dropWhile_nil,List.all_reverse]; exact h
  rw[this]; rfl
theorem DV(s:ByteArray):s.size=s.data.toList.length:=by show s.data.size=_; rw[Array.length_toList]
theorem gW{H:Heap}{s:ByteArray}{k:Int->Prop}(hk:k (s.data.toList.length:Int)):dW (aj .i64) (sJ E 9 (.string s) H) k:=by
 rw[←DV]at hk
 exact⟨_,rfl,hk⟩
theorem kM{s:ByteArray}{i:Int}{n:Nat}(hi:i=n){b:UInt8}(h:s.data.toList[n]? =some b){k:Int->Prop}(hk:k (b.toNat:Int)):dW (aj .u8) (dZ E 9 (.string s) (.int .i64 i)) k:=by
 refine⟨(b.toNat:Int),?_,hk⟩
 show dZ E 9 (.string s) (.int .i64 i)=some (.int .u8 b.toNat)
 have hn:=(List.getElem?_eq_some_iff.1 h).1
 have h1:s[n]? =some b:=by
  rw[ByteArray.getElem?_lt' s n (by rw[DV]; exact hn)]
  rw[List.getElem?_eq_getElem hn]at h
  exact h
 obtain⟨ti,hti,hk⟩:∃ti,E.ty 9=some ti∧ti.k= .string:=⟨_,rfl,rfl⟩
 subst hi
 unfold dZ
 simp only[hti,hk,Option.bind_some]
 rw[if_pos (by omega),Int.toNat_natCast,h1]
end
end Go.Proofs.YtijnknjopjmiiaaGreatDoor.Zq
end
section
namespace Go.Proofs.YtijnknjopjmiiaaGreatDoor.Zq
open Zv
section
theorem cu{c:Prop}[Decidable c]{a b:Prop}(h1:c->a)(h2:¬c->b):aN (decide c) a b:=bG (fun e=>h1 (of_decide_eq_true e)) (fun e=>h2 (of_decide_eq_false e))
theorem eP{x y:Int}{a b:Prop}(h1:x=y->a)(h2:x≠y->b):aN (x==y) a b:=bG (fun e=>h1 (by simpa using e)) (fun e=>h2 (by simpa using e))
theorem yO{x y:Int}{a b:Prop}(h1:x≠y->a)(h2:x=y->b):aN (x !=y) a b:=bG (fun e=>h1 (by simpa using e)) (fun e=>h2 (by simpa using e))
theorem XA{c:Prop}[Decidable c]{a b:Prop}(h1:¬c->a)(h2:c->b):aN (!decide c) a b:=bG (fun e=>h1 (by simpa using e)) (fun e=>h2 (by simpa using e))
theorem JD{H:Heap}{A:((Bool×Unit)×Unit->Heap->Prop)->Prop}{B:(Bool×Unit)×Unit->Heap->Prop}(c:Prop)[Decidable c](hA:∀j:(Bool×Unit)×Unit->Heap->Prop,(∀r:Bool,(r=true↔c)->j ((r,()),()) H)->A j)(hB:B ((decide c,()),()) H):JOIN A B:=
 hA _ fun r hr=>by
  have:r=decide c:=by rw[Bool.eq_iff_iff,hr]; simp
  rw[this]; exact hB
variable{H:Heap}
theorem Qd{R:Type}{Q:R->Prop}{x y:R}(h:Q x)(e:x=y):Q y:=e▸h
theorem QB{v:Int}{Q:Bool×Unit->Heap->Prop}(hq:Q (decide (10≤v∧v≤15),()) H):CALL P [ah] jV [.int .u8 v] H Q:=by
 apply I7
 unfold oh
 exact JD (H:=H) (10≤v∧v≤15) (fun j hj=>cu (fun h=>hj _ (by simp; omega)) (fun h=>hj _ (by simp; omega))) hq
theorem agL{v:Int}{Q:Bool×Unit->Heap->Prop}(hq:Q (decide (1≤v∧v≤9),()) H):CALL P [ah] uh [.int .u8 v] H Q:=by
 apply Qx
 unfold uM
 exact JD (H:=H) (1≤v∧v≤9) (fun j hj=>cu (fun h=>hj _ (by simp; omega)) (fun h=>hj _ (by simp; omega))) hq
theorem QC{v:Int}{Q:Bool×Unit->Heap->Prop}(hq:Q (decide (16≤v∧v≤19),()) H):CALL P [ah] jW [.int .u8 v] H Q:=by
 apply Ja
 unfold ou
 exact JD (H:=H) (16≤v∧v≤19) (fun j hj=>cu (fun h=>hj _ (by simp; omega)) (fun h=>hj _ (by simp; omega))) hq
theorem Jb{v:Int}:nP v=1↔1≤v∧v≤9:=by
 unfold nP
 repeat' split
 all_goals (simp; try omega)
theorem XB{v:Int}:nP v=2↔10≤v∧v≤15:=by
 unfold nP
 repeat' split
 all_goals (simp; try omega)
theorem agM{v:Int}:nP v=3↔16≤v∧v≤19:=by
 unfold nP
 repeat' split
 all_goals (simp; try omega)
theorem aeN{w v:Int}(hw:1≤w∧w≤6){Q:Bool×Unit->Heap->Prop}(hq:Q (decide (nP v=C9 w),()) H):CALL P [ah] qZ [.int .u8 w,.int .u8 v] H Q:=by
 apply NJ
 unfold rX
 refine eP (fun h=>QB (Qd (Q:=fun r=>Q r H) hq ?_)) (fun h=>eP (fun h2=>QC (Qd (Q:=fun r=>Q r H) hq ?_)) (fun h2=>agL (Qd (Q:=fun r=>Q r H) hq ?_)))
 ·have:C9 w=2:=by unfold C9; rw[if_neg (by omega),if_pos h]
  simp only[this,XB]
 ·have:C9 w=3:=by unfold C9; rw[if_neg (by omega),if_neg h,if_pos h2]
  simp only[this,agM]
 ·have:C9 w=1:=by unfold C9; rw[if_pos (by omega)]
  simp only[this,Jb]
theorem aix{v w:Int}{Q:Bool×Bool×Bool×Bool×Bool×Unit->Heap->Prop}(hq:Q (decide (cU v),decide (sU v w),decide (tU v w),decide (v=9),decide (v=7),()) H):CALL P [ah,ah,ah,ah,ah] wZ [.int .u8 v,.int .u8 w] H Q:=by
 apply Ux
 unfold yx
 refine JD (H:=H) (v=1∨v=2∨v=3∨v=4∨v=5∨v=14∨v=15∨v=16∨v=19) (fun j hj=> ?_) ?_
 ·refine eP (fun h=>hj _ (by simp; omega)) (fun h1=>aX (eP (fun h=>hj _ (by simp; omega)) (fun h2=>aX (eP (fun h=>hj _ (by simp; omega)) (fun h3=>aX (eP (fun h=>hj _ (by simp; omega)) (fun h4=>aX (eP (fun h=>hj _ (by simp; omega)) (fun h5=>aX (eP (fun h=>hj _ (by simp; omega)) (fun h6=>aX (eP (fun h=>hj _ (by simp; omega)) (fun h7=>aX (eP (fun h=>hj _ (by simp; omega)) (fun h8=>hj _ (by simp; omega))))))))))))))))
 ·refine agG ((decide (cU v),decide (v=11),decide (v=12∨v=13),decide (v=9),decide (v=7),()),()) H (fun j hj=> ?_) ?_
  ·have fin:∀a b c d e:Bool,(a=true↔cU v)->(b=true↔v=11)->(c=true↔v=12∨v=13)->(d=true↔v=9)->(e=true↔v=7)->j ((a,b,c,d,e,()),()) H:=fun a b c d e h1 h2 h3 h4 h5=>by
    have e1:a=decide (cU v):=by rw[Bool.eq_iff_iff,h1]; simp
    have e2:b=decide (v=11):=by rw[Bool.eq_iff_iff,h2]; simp
    have e3:c=decide (v=12∨v=13):=by rw[Bool.eq_iff_iff,h3]; simp
    have e4:d=decide (v=9):=by rw[Bool.eq_iff_iff,h4]; simp
    have e5:e=decide (v=7):=by rw[Bool.eq_iff_iff,h5]; simp
    rw[e1,e2,e3,e4,e5]; exact hj
   refine cu (fun h=>fin _ _ _ _ _ (by simp[cU]; omega) (by simp; omega) (by simp; omega) (by simp; omega) (by simp; omega)) (fun h=>aX (eP (fun h9=>fin _ _ _ _ _ (by simp[cU]; omega) (by simp; omega) (by simp; omega) (by simp; omega) (by simp; omega)) (fun h9=>aX (eP (fun h7=>fin _ _ _ _ _ (by simp[cU]; omega) (by simp; omega) (by simp; omega) (by simp; omega) (by simp; omega)) (fun h7=>aX (eP (fun h11=>fin _ _ _ _ _ (by simp[cU]; omega) (by simp; omega) (by simp; omega) (by simp; omega) (by simp; omega)) (fun h11=> ?_)))))))
   refine JD (H:=H) (v=12∨v=13) (fun j hj=>eP (fun h=>hj _ (by simp; omega)) (fun h=>hj _ (by simp; omega))) (aX (cu (fun h=>fin _ _ _ _ _ (by simp[cU]; omega) (by simp; omega) (by simp; omega) (by simp; omega) (by simp; omega)) (fun h=>fin _ _ _ _ _ (by simp[cU]; omega) (by simp; omega) (by simp; omega) (by simp; omega) (by simp; omega))))
  ·have fin:∀b c:Bool,(b=true↔sU v w)->(c=true↔tU v w)->Q (decide (cU v),b,c,decide (v=9),decide (v=7),()) H:=fun b c h1 h2=>by
    have e1:b=decide (sU v w):=by rw[Bool.eq_iff_iff,h1]; simp
    have e2:c=decide (tU v w):=by rw[Bool.eq_iff_iff,h2]; simp
    rw[e1,e2]; exact hq
   exact aX (cu (fun h=>cu (fun h2=>fin _ _ (by simp[sU]; omega) (by simp[tU]; omega)) (fun h2=>fin _ _ (by simp[sU]; omega) (by simp[tU]; omega))) (fun h=>cu (fun h2=>fin _ _ (by simp[sU]; omega) (by simp[tU]; omega)) (fun h2=>fin _ _ (by simp[sU]; omega) (by simp[tU]; omega))))
theorem aeO{v:Int}{Q:Int×Int×Bool×Unit->Heap->Prop}(hq:Q (Eo v,Dc v,decide (v=14),()) H):CALL P [aj .i64,aj .i64,ah] qY [.int .u8 v] H Q:=by
 apply NG
 unfold rW
 refine JD (H:=H) (v=9∨v=15) (fun j hj=>eP (fun h=>hj _ (by simp; omega)) (fun h=>hj _ (by simp; omega))) (cu (fun h=>Qd (Q:=fun r=>Q r H) hq ?_) (fun h=>eP (fun h2=>Qd (Q:=fun r=>Q r H) hq ?_) (fun h2=>eP (fun h3=>Qd (Q:=fun r=>Q r H) hq ?_) (fun h3=>Qd (Q:=fun r=>Q r H) hq ?_))))
 ·unfold Eo Dc; rw[if_pos h,if_neg (by omega)]; simp; omega
 ·unfold Eo Dc; rw[if_neg h,if_pos h2,if_pos h2]; simp; omega
 ·unfold Eo Dc; rw[if_neg h,if_neg h2,if_pos h3,if_neg h2]; simp; omega
 ·unfold Eo Dc; rw[if_neg h,if_neg h2,if_neg h3,if_neg h2]; simp; omega
theorem agN{p:Pt}{Q:Bool×Unit->Heap->Prop}(hk:1≤p.Verb∧p.Verb≤19)(hq:∀r:Bool,(r=true↔nR p)->Q (r,()) H):CALL P [ah] uf [aQ.enc p] H Q:=by
 apply Qm
 unfold uI
 refine JD (H:=H) (p.Whom=1∨p.Whom=2) (fun j hj=>eP (fun h=>hj _ (by simp; omega)) (fun h=>hj _ (by simp; omega))) (QB (cu (fun h1=> ?_) (fun h1=>QC (cu (fun h2=>hq _ ?_) (fun h2=>eP (fun h3=>hq _ ?_) (fun h3=> ?_))))))
 ·have k1:nP p.Verb≠1:=fun e=>by have:=Jb.1 e; omega
  have k2:nP p.Verb=2:=XB.2 h1
  refine JD (H:=H) (¬(p.Whom=1∨p.Whom=2)∧p.Whom≠3) (fun j hj=>XA (fun h=>hj _ (by simp; omega)) (fun h=>hj _ (by simp; omega))) (hq _ ?_)
  unfold nR
  rw[if_neg k1,if_pos k2,decide_eq_true_eq]
 ·have k1:nP p.Verb≠1:=fun e=>by have:=Jb.1 e; omega
  have k2:nP p.Verb≠2:=fun e=>by have:=XB.1 e; omega
  unfold nR
  rw[if_neg k1,if_neg k2]; simp
 ·have k1:nP p.Verb=1:=Jb.2 (by omega)
  unfold nR
  rw[if_pos k1,if_pos h3]; simp
 ·have k1:nP p.Verb=1:=Jb.2 (by omega)
  refine JD (H:=H) (¬((p.Whom=1∨p.Whom=2)∧(p.Verb=6∨p.Verb=8∨p.Verb=9))) (fun j hj=>XA (fun h=>hj _ (by simp; omega)) (fun h=>yO (fun h6=>yO (fun h8=>hj _ (by simp; omega)) (fun h8=>hj _ (by simp; omega))) (fun h6=>hj _ (by simp; omega)))) (hq _ ?_)
  unfold nR
  rw[if_pos k1,if_neg h3,decide_eq_true_eq]
theorem adg{u:Prop}[Decidable u]{x lo hi:Int}{Q:Bool×Unit->Heap->Prop}(hq:Q (decide (if u then lo≤x∧x≤hi else x=0),()) H):
  aN (!decide u) (Q (x==0,()) H) (JOIN (fun(j1:(Bool×Unit)×(Unit)->Heap->Prop)=>aN (decide (x≥lo)) (j1 ((decide (x≤hi),()),(())) H) (j1 ((false,()),(())) H)) fun(y2:(Bool×Unit)×(Unit)) H1=>Q (y2.1.1,()) H1):=by
 refine XA (fun h=>Qd (Q:=fun r=>Q r H) hq ?_) (fun h=>JD (H:=H) (lo≤x∧x≤hi) (fun j hj=>cu (fun h=>hj _ (by simp; omega)) (fun h=>hj _ (by simp; omega))) (Qd (Q:=fun r=>Q r H) hq ?_))
 ·simp only[if_neg h]; congr 1
 ·simp only[if_pos h]
theorem jX{b:UInt8}:LQ b=true↔b.toNat=45∨97≤b.toNat∧b.toNat≤122:=by
 unfold LQ
 simp only[Bool.or_eq_true,Bool.and_eq_true,decide_eq_true_eq,beq_iff_eq,UInt8.le_iff_toNat_le]
 constructor
 ·rintro(rfl|h)
  ·exact .inl rfl
  ·exact .inr h
 ·rintro(h|h)
  ·exact .inl (UInt8.toNat_inj.1 h)
  ·exact .inr h
instance (s:ByteArray):Decidable (qK s):=by unfold qK; infer_instance
theorem Vp{s:ByteArray}{b:UInt8}{r:List UInt8}(h:s.data.toList=b::r)(h20:s.data.toList.length≤20):qK s↔b.toNat≠45∧s.data.toList.all LQ=true:=by
 unfold qK
 rw[h]at h20 ⊢
 simp only[List.length_cons,List.head?_cons,ne_eq,Option.some.injEq]at h20 ⊢
 have:b=45↔b.toNat=45:=⟨fun e=>by rw[e]; rfl,fun e=>UInt8.toNat_inj.1 e⟩
 rw[this]
 constructor
 ·exact fun q=>q.2.2
 ·exact fun q=>⟨by omega,h20,q⟩
theorem DW:(ByteArray.mk #[]).toList=[]:=ByteArray.toList_mk []
theorem aci{s:ByteArray}(hs:s.size≤9223372036854775807){b:UInt8}{r:List UInt8}(h:s.data.toList=b::r)(h20:s.data.toList.length≤20){j:(Bool×Unit)×Unit->Heap->Prop}(hj:∀r:Bool,(r=true↔qK s)->j ((r,()),()) H):
  dW (aj .u8) (dZ E 9 (.string s) (.int .i64 0)) fun(x5:Int)=>aN (x5 !=45) (CALL P [eH] kE [(.string s),(.string UW)] H fun(x6:ByteArray×Unit) H2=>j ((x6.1.toList==(ByteArray.mk #[]).toList,()),(())) H2) (j ((false,()),(())) H):=by
 refine kM (n:=0) rfl (b:=b) (by rw[h]; rfl) (yO (fun h3=>trim_c (by rw[DV,h]; simp) hs (hj _ ?_)) (fun h3=>hj _ ?_))
 ·rw[Vp h h20,DW,ByteArray.toList_mk,beq_iff_eq,adf]
  exact⟨fun q=>⟨by omega,q⟩,fun q=>q.2⟩
 ·rw[Vp h h20]
  simp; omega
theorem agO{s:ByteArray}(hs:s.size≤9223372036854775807){Q:Bool×Unit->Heap->Prop}(hq:Q (decide (qK s),()) H):CALL P [ah] xg [.string s] H Q:=by
 apply UA
 unfold yG
 refine JD (H:=H) (qK s) (fun j hj=>gW (cu (fun h1=>gW (cu (fun h2=> ?_) (fun h2=>hj _ ?_))) (fun h1=>hj _ ?_))) hq
 ·cases hl:s.data.toList with
  |nil=>rw[hl]at h1; simp at h1
  |cons b r=>exact aci hs hl (by omega) hj
 ·simp only[Bool.false_eq_true,false_iff]; exact fun q=>by have:=q.2.1; omega
 ·simp only[Bool.false_eq_true,false_iff]; exact fun q=>by have:=q.1; omega
theorem aeP{s:ByteArray}(hs:s.size≤9223372036854775807){Q:Bool×Unit->Heap->Prop}(hq:Q (decide (qK s),()) H):CALL P [ah] zS [.string s] H Q:=by
 apply Xa
 unfold Ar
 refine JD (H:=H) (qK s) (fun j hj=>gW (cu (fun h1=>gW (cu (fun h2=> ?_) (fun h2=>hj _ ?_))) (fun h1=>hj _ ?_))) hq
 ·cases hl:s.data.toList with
  |nil=>rw[hl]at h1; simp at h1
  |cons b r=>exact aci hs hl (by omega) hj
 ·simp only[Bool.false_eq_true,false_iff]; exact fun q=>by have:=q.2.1; omega
 ·simp only[Bool.false_eq_true,false_iff]; exact fun q=>by have:=q.1; omega
theorem KT{L:List UInt8}{F:((Int×Unit)×Unit->Heap->Prop)->(Int×Unit)×Unit->Heap->Prop}{Qf Qt:Prop}
  (hF:∀(G:(Int×Unit)×Unit->Heap->Prop) (n:Nat),(∀b,L[n]? =some b->(LQ b=true->G (((n:Int)+1,()),()) H)->(LQ b=false->Qf)->F G (((n:Int),()),()) H)∧(n=L.length->Qt->F G (((n:Int),()),()) H))
  (ht:L.all LQ=true->Qt) (hf:L.all LQ=false->Qf):LOOP F ((0,()),()) H:=by
 refine aY (fun(t:(Int×Unit)×Unit) H'=>H'=H∧∃n:Nat,t.1.1=n∧n≤L.length∧(L.take n).all LQ=true) (fun t=>L.length-t.1.1.toNat) ?_ ⟨rfl,0,rfl,Nat.zero_le _,by simp⟩
 rintro G ⟨⟨i,_⟩,_⟩ H' ⟨rfl,n,hi,hn,ha⟩ hG
 simp only at hi; subst hi
 dsimp only at hG
 obtain⟨k1,k2⟩:=hF G n
 by_cases e:n=L.length
 ·exact k2 e (ht (by rw[e,List.take_length]at ha; exact ha))
 ·have hlt:n<L.length:=by omega
  refine k1 _ (List.getElem?_eq_getElem hlt) (fun hb=>hG _ _ ⟨rfl,n+1,by simp,hlt,?_⟩ (by simp; omega)) (fun hb=>hf ?_)
  ·rw[List.take_succ_eq_append_getElem hlt,List.all_append,ha]; simp[hb]
  ·rw[List.all_eq_false]; exact⟨_,List.getElem_mem hlt,by simp[hb]⟩
theorem get_at{s:ByteArray}{n:Nat}{b:UInt8}(h:s.data.toList[n]? =some b):s.get! n=b:=by
 have hn:=(List.getElem?_eq_some_iff.1 h).1
 rw[List.getElem?_eq_getElem hn]at h
 have hn':n<s.data.size:=by rw[←Array.length_toList]; exact hn
 show s.data[n]! =b
 rw[getElem!_pos s.data n hn']
 exact Option.some.inj h
theorem adh{s:ByteArray}{n:Nat}(h:(s.get! n).toNat<128):Utf8.decode s n=((s.get! n).toNat,1):=by
 unfold Utf8.decode
 simp[h]
theorem adi{s:ByteArray}{n:Nat}(h:128≤(s.get! n).toNat):128≤(Utf8.decode s n).1:=by
 unfold Utf8.decode
 simp only[Nat.add_zero]
 rw[if_neg (by omega)]
 repeat' split
 all_goals first|(simp only[Utf8.runeError]; omega)|skip
 all_goals (rename_i h1; first|(simp only; omega)|(simp only[Bool.and_eq_true,decide_eq_true_eq]at h1; simp only; omega))
theorem adk{H:Heap}{s:ByteArray}{pos:Nat}(h:pos<s.size):Cb (.pointer (some ⟨H.length,0,none⟩)) (H++[.iter s pos])=some (.tuple #[.bool true,.int .i64 pos,.int .i32 (Utf8.decode s pos).1],H++[.iter s (pos+(Utf8.decode s pos).2)]):=by
 unfold Cb BZ
 simp[h]
theorem aeQ{H:Heap}{s:ByteArray}{pos:Nat}(h:¬pos<s.size):Cb (.pointer (some ⟨H.length,0,none⟩)) (H++[.iter s pos])=some (.tuple #[.bool false],H++[.iter s pos]):=by
 unfold Cb BZ
 simp[h]
theorem aeR{S:Type}{F:(S->Heap->Prop)->S->Heap->Prop}(I:S->Heap->Prop)(μ:S->Heap->Nat)(hF:∀(G:S->Heap->Prop) s H,I s H->(∀s' H',I s' H'->μ s' H'<μ s H->G s' H')->F G s H){s:S}{H:Heap}(h:I s H):LOOP F s H:=by
 refine⟨μ s H+1,?_⟩
 have:∀n s H,μ s H<n->I s H->itP F n s H:=by
  intro n
  induction n with
  |zero=>intro s H h; omega
  |succ n ih=>intro s H hm hi; exact hF _ s H hi fun s' H' h1 h2=>ih s' H' (by omega) h1
 exact this _ s H (by omega) h
def aeS(H:Heap)(b:Nat):Nat:=match H[b]? with|some (.iter _ pos)=>pos|_=>0
theorem Vq(H:Heap)(s:ByteArray)(pos:Nat):aeS (H++[.iter s pos]) H.length=pos:=by unfold aeS; simp
theorem agP{s:ByteArray}{Q:Bool×Unit->Heap->Prop}(hq:∀H',bK [] H H'->Q (decide (qK s),()) H'):CALL P [ah] CW [.string s] H Q:=by
 apply Zn
 unfold Dv
 have no:∀H',bK [] H H'->¬qK s->Q (false,()) H':=fun H' f hn=>by have:=hq H' f; rwa [decide_eq_false hn]at this
 refine JD (H:=H) (s.data.toList.length=0∨20<s.data.toList.length∨s.data.toList.head? =some 45) (fun j hj=>gW (eP (fun h1=>hj _ ?_) (fun h1=>gW (cu (fun h2=>hj _ ?_) (fun h2=> ?_))))) (cu (fun hbad=>no H (.refl _ _) fun q=> ?_) (fun hgood=> ?_))
 ·simp only[true_iff]; exact .inl (by omega)
 ·simp only[true_iff]; exact .inr (.inl (by omega))
 ·cases hl:s.data.toList with
  |nil=>rw[hl]at h1; simp at h1
  |cons b r=>
   refine kM (n:=0) rfl (b:=b) (by rw[hl]; rfl) (hj _ ?_)
   have h45:b=45↔b.toNat=45:=⟨fun e=>by rw[e]; rfl,fun e=>UInt8.toNat_inj.1 e⟩
   rw[hl]at h2 ⊢
   simp only[List.length_cons,List.head?_cons,Option.some.injEq,h45,beq_iff_eq]at h2 ⊢
   constructor
   ·intro q; right; right; omega
   ·rintro(q|q|q)<;>omega
 ·rcases hbad with e|e|e
  ·have:=q.1; omega
  ·have:=q.2.1; omega
  ·exact q.2.2.1 e
 ·have h45:s.data.toList.head? ≠some 45:=fun e=>hgood (.inr (.inr e))
  have hl1:¬s.data.toList.length=0:=fun e=>hgood (.inl e)
  have hl2:¬20<s.data.toList.length:=fun e=>hgood (.inr (.inl e))
  have fx:∀pos,bK [] H (H++[.iter s pos]):=fun pos=>bK.app _ _ _
  refine⟨_,_,rfl,aX ?_⟩
  refine aeR (fun(_:Unit×Unit) H'=>∃pos:Nat,H'=H++[.iter s pos]∧pos≤s.data.toList.length∧(s.data.toList.take pos).all LQ=true) (fun _ H'=>s.data.toList.length-aeS H' H.length) ?_ ⟨0,rfl,Nat.zero_le _,by simp⟩
  rintro G ⟨_,_⟩ H' ⟨pos,rfl,hp,ha⟩ hG
  by_cases hlt:pos<s.data.toList.length
  ·have hx:s.data.toList[pos]? =some (s.data.toList[pos]):=List.getElem?_eq_getElem hlt
   generalize s.data.toList[pos]=b at hx
   have hb:=get_at hx
   have tk:s.data.toList.take (pos+1)=s.data.toList.take pos++[b]:=by
    rw[List.take_succ_eq_append_getElem hlt]
    rw[List.getElem?_eq_getElem hlt]at hx
    rw[Option.some.inj hx]
   refine .inl ⟨_,_,_,adk (by rw[DV]; exact hlt),?_⟩
   have bad:∀H2,bK [] H H2->LQ b=false->Q (false,()) H2:=fun H2 f hn=>no H2 f fun q=>by
    have:=List.all_eq_true.1 q.2.2.2 b (List.mem_of_getElem? hx)
    rw[hn]at this; cases this
   by_cases hA:b.toNat<128
   ·have hd:=adh (s:=s) (n:=pos) (by rw[hb]; exact hA)
    rw[hb]at hd
    rw[hd]
    dsimp only
    refine JD (H:=H++[.iter s (pos+1)]) (¬LQ b=true) (fun j hj=>yO (fun h1=>cu (fun h2=>hj _ ?_) (fun h2=>hj _ ?_)) (fun h1=>hj _ ?_)) (cu (fun h=>bad _ (fx _) (by simpa using h)) (fun h=> ?_))
    ·rw[jX]; simp; omega
    ·rw[jX]; simp; omega
    ·rw[jX]; simp; omega
    ·have h:LQ b=true:=by simpa using h
     refine hG _ _ ⟨pos+1,rfl,hlt,by rw[tk,List.all_append,ha]; simp[h]⟩ ?_
     rw[Vq,Vq]; omega
   ·have hd:=adi (s:=s) (n:=pos) (by rw[hb]; omega)
    have hn:LQ b=false:=by
     cases h:LQ b with
     |false=>rfl
     |true=>have:=jX.1 h; omega
    generalize Utf8.decode s pos=d at hd
    refine JD (H:=H++[.iter s (pos+d.2)]) True (fun j hj=>yO (fun h1=>cu (fun h2=>hj _ (by simp)) (fun h2=>hj _ (by simp; omega))) (fun h1=>by omega)) (dI (by simp) (bad _ (fx _) hn))
  ·have he:pos=s.data.toList.length:=by omega
   subst he
   rw[List.take_length]at ha
   refine .inr ⟨_,aeQ (by rw[DV]; exact hlt),?_⟩
   have:=hq _ (fx s.data.toList.length)
   rwa [decide_eq_true (show qK s from⟨by omega,by omega,h45,ha⟩)]at this
theorem oz{s:ByteArray}:qK s↔¬(s.data.toList.length<1∨20<s.data.toList.length∨s.data.toList.head? =some 45)∧s.data.toList.all LQ=true:=by
 unfold qK
 constructor
 ·exact fun q=>⟨by rintro(h|h|h)<;>first|omega|exact q.2.2.1 h,q.2.2.2⟩
 ·exact fun q=>⟨by omega,by omega,fun h=>q.1 (.inr (.inr h)),q.2⟩
theorem aa8{b:UInt8}:b=45↔b.toNat=45:=⟨fun e=>by rw[e]; rfl,fun e=>UInt8.toNat_inj.1 e⟩
theorem aeT{s:ByteArray}{Q:Bool×Unit->Heap->Prop}(hq:Q (decide (qK s),()) H):CALL P [ah] zU [.string s] H Q:=by
 apply Xj
 unfold Az
 have no:¬qK s->Q (false,()) H:=fun hn=>by rwa [decide_eq_false hn]at hq
 refine JD (H:=H) (s.data.toList.length<1∨20<s.data.toList.length∨s.data.toList.head? =some 45) (fun j hj=>gW (cu (fun h1=>hj _ ?_) (fun h1=>gW (cu (fun h2=>hj _ ?_) (fun h2=> ?_))))) (cu (fun hbad=>no fun q=>(oz.1 q).1 hbad) (fun hgood=>aX ?_))
 ·simp only[true_iff]; exact .inl (by omega)
 ·simp only[true_iff]; exact .inr (.inl (by omega))
 ·cases hl:s.data.toList with
  |nil=>rw[hl]at h1; simp at h1
  |cons b r=>
   refine kM (n:=0) rfl (b:=b) (by rw[hl]; rfl) (hj _ ?_)
   rw[hl]at h2 ⊢
   simp only[List.length_cons,List.head?_cons,Option.some.injEq,aa8,beq_iff_eq]at h2 ⊢
   constructor
   ·intro q; right; right; omega
   ·rintro(q|q|q)<;>omega
 ·refine KT (L:=s.data.toList) (Qf:=Q (false,()) H) (Qt:=Q (true,()) H) (fun G n=>⟨fun b hx k1 k2=> ?_,fun e k=>gW (bC (decide_eq_false (by simp only; omega)) k)⟩) (fun ha=>by rwa [decide_eq_true (oz.2 ⟨hgood,ha⟩)]at hq) (fun ha=>no fun q=>by have:=(oz.1 q).2; rw[ha]at this; cases this)
  have hlt:=(List.getElem?_eq_some_iff.1 hx).1
  refine gW (dI (decide_eq_true (by simp only; omega)) ?_)
  refine JD (H:=H) (¬LQ b=true) (fun j hj=>kM rfl hx (cu (fun h1=>kM rfl hx (hj _ ?_)) (fun h1=>kM rfl hx (cu (fun h2=>kM rfl hx (hj _ ?_)) (fun h2=>hj _ ?_))))) (cu (fun h=>k2 (by simpa using h)) (fun h=> ?_))
  ·rw[jX]; simp; omega
  ·rw[jX]; simp; omega
  ·rw[jX]; simp; omega
  ·dsimp only
   rw[bT (by omega) (by omega)]
   exact k1 (by simpa using h)
theorem aeU{s:ByteArray}{Q:Bool×Unit->Heap->Prop}(hq:Q (decide (qK s),()) H):CALL P [ah] qR [.string s] H Q:=by
 apply Na
 unfold rM
 have no:¬qK s->Q (false,()) H:=fun hn=>by rwa [decide_eq_false hn]at hq
 refine JD (H:=H) (s.data.toList.length<1∨20<s.data.toList.length∨s.data.toList.head? =some 45) (fun j hj=>gW (cu (fun h1=>hj _ ?_) (fun h1=>gW (cu (fun h2=>hj _ ?_) (fun h2=> ?_))))) (cu (fun hbad=>no fun q=>(oz.1 q).1 hbad) (fun hgood=>aX ?_))
 ·simp only[true_iff]; exact .inl (by omega)
 ·simp only[true_iff]; exact .inr (.inl (by omega))
 ·cases hl:s.data.toList with
  |nil=>rw[hl]at h1; simp at h1
  |cons b r=>
   refine kM (n:=0) rfl (b:=b) (by rw[hl]; rfl) (hj _ ?_)
   rw[hl]at h2 ⊢
   simp only[List.length_cons,List.head?_cons,Option.some.injEq,aa8,beq_iff_eq]at h2 ⊢
   constructor
   ·intro q; right; right; omega
   ·rintro(q|q|q)<;>omega
 ·refine KT (L:=s.data.toList) (Qf:=Q (false,()) H) (Qt:=Q (true,()) H) (fun G n=>⟨fun b hx k1 k2=> ?_,fun e k=>gW (bC (decide_eq_false (by simp only; omega)) k)⟩) (fun ha=>by rwa [decide_eq_true (oz.2 ⟨hgood,ha⟩)]at hq) (fun ha=>no fun q=>by have:=(oz.1 q).2; rw[ha]at this; cases this)
  have hlt:=(List.getElem?_eq_some_iff.1 hx).1
  refine gW (dI (decide_eq_true (by simp only; omega)) ?_)
  refine JD (H:=H) (¬LQ b=true) (fun j hj=>kM rfl hx (yO (fun h1=>kM rfl hx (cu (fun h2=>hj _ ?_) (fun h2=>kM rfl hx (hj _ ?_)))) (fun h1=>hj _ ?_))) (cu (fun h=>k2 (by simpa using h)) (fun h=> ?_))
  ·rw[jX]; simp; omega
  ·rw[jX]; simp; omega
  ·rw[jX]; simp; omega
  ·dsimp only
   rw[bT (by omega) (by omega)]
   exact k1 (by simpa using h)
theorem aeV{s:ByteArray}{Q:Bool×Unit->Heap->Prop}(hq:Q (decide (qK s),()) H):CALL P [ah] zM [.string s] H Q:=by
 apply WO
 unfold Ah
 have no:¬qK s->Q (false,()) H:=fun hn=>by rwa [decide_eq_false hn]at hq
 refine JD (H:=H) (s.data.toList.length<1∨20<s.data.toList.length∨∃b,s.data.toList.head? =some b∧(b.toNat<97∨122<b.toNat)) (fun j hj=>gW (cu (fun h1=>hj _ ?_) (fun h1=>gW (cu (fun h2=>hj _ ?_) (fun h2=> ?_))))) (cu (fun hbad=>no fun q=> ?_) (fun hgood=>aX ?_))
 ·simp only[true_iff]; exact .inl (by omega)
 ·simp only[true_iff]; exact .inr (.inl (by omega))
 ·cases hl:s.data.toList with
  |nil=>rw[hl]at h1; simp at h1
  |cons b r=>
   rw[hl]at h2 h1
   have key:(1+r.length<1∨20<1+r.length∨∃b',(b::r).head? =some b'∧(b'.toNat<97∨122<b'.toNat))↔(b.toNat<97∨122<b.toNat):=by
    simp only[List.length_cons]at h2
    constructor
    ·rintro(q|q|⟨b',e,q⟩)
     ·omega
     ·omega
     ·cases e; exact q
    ·exact fun q=>.inr (.inr ⟨b,rfl,q⟩)
   refine kM (n:=0) rfl (b:=b) (by rw[hl]; rfl) (cu (fun h3=>hj _ ?_) (fun h3=>kM (n:=0) rfl (b:=b) (by rw[hl]; rfl) (hj _ ?_)))
   ·rw[hl,List.length_cons,Nat.add_comm,key]; simp; omega
   ·rw[hl,List.length_cons,Nat.add_comm,key]; simp; omega
 ·obtain⟨q1,q2⟩:=oz.1 q
  rcases hbad with e|e|⟨b,e,h⟩
  ·exact q1 (.inl e)
  ·exact q1 (.inr (.inl e))
  ·have hb:LQ b=true:=List.all_eq_true.1 q2 b (List.mem_of_mem_head? e)
   have h45:b≠45:=fun e2=>q1 (.inr (.inr (by rw[e,e2])))
   have:=jX.1 hb
   have:=mt aa8.2 h45
   omega
 ·have hgood':¬(s.data.toList.length<1∨20<s.data.toList.length∨s.data.toList.head? =some 45):=by
   rintro(e|e|e)
   ·exact hgood (.inl e)
   ·exact hgood (.inr (.inl e))
   ·exact hgood (.inr (.inr ⟨45,e,.inl (by decide)⟩))
  refine KT (L:=s.data.toList) (Qf:=Q (false,()) H) (Qt:=Q (true,()) H) (fun G n=>⟨fun b hx k1 k2=> ?_,fun e k=>gW (bC (decide_eq_false (by simp only; omega)) k)⟩) (fun ha=>by rwa [decide_eq_true (oz.2 ⟨hgood',ha⟩)]at hq) (fun ha=>no fun q=>by have:=(oz.1 q).2; rw[ha]at this; cases this)
  have hlt:=(List.getElem?_eq_some_iff.1 hx).1
  refine gW (dI (decide_eq_true (by simp only; omega)) ?_)
  refine JD (H:=H) (¬LQ b=true) (fun j hj=>kM rfl hx (cu (fun h1=>kM rfl hx (hj _ ?_)) (fun h1=>kM rfl hx (cu (fun h2=>kM rfl hx (hj _ ?_)) (fun h2=>hj _ ?_))))) (cu (fun h=>k2 (by simpa using h)) (fun h=> ?_))
  ·rw[jX]; simp; omega
  ·rw[jX]; simp; omega
  ·rw[jX]; simp; omega
  ·dsimp only
   rw[bT (by omega) (by omega)]
   exact k1 (by simpa using h)
end
end Go.Proofs.YtijnknjopjmiiaaGreatDoor.Zq
end
section
namespace Go.Proofs.YtijnknjopjmiiaaGreatDoor.Zq
open Zv
section
variable{H:Heap}
structure OkP(p:Pt):Prop where
 nm:p.Name.size≤9223372036854775807
 s:0≤p.Suit∧p.Suit≤255
 t:0≤p.Trait∧p.Trait≤255
 m:0≤p.Mark∧p.Mark≤255
theorem aeW{u:Prop}[Decidable u]{x lo hi:Int}{Q:Bool×Unit->Heap->Prop}(hq:∀r:Bool,(r=true↔if u then lo≤x∧x≤hi else x=0)->Q (r,()) H):
  aN (!decide u) (Q (x==0,()) H) (JOIN (fun(j1:(Bool×Unit)×(Unit)->Heap->Prop)=>aN (decide (x≥lo)) (j1 ((decide (x≤hi),()),(())) H) (j1 ((false,()),(())) H)) fun(y2:(Bool×Unit)×(Unit)) H1=>Q (y2.1.1,()) H1):=
 adg (hq _ (by simp))
theorem aiy{u:Prop}[Decidable u]{x lo hi:Int}{Q:Bool×Unit->Heap->Prop}(hq:∀r:Bool,(r=true↔if u then lo≤x∧x≤hi else x=0)->Q (r,()) H):CALL P [ah] kX [.int .i64 x,.bool (decide u),.int .i64 lo,.int .i64 hi] H Q:=by
 apply Fg
 unfold lI
 exact aeW hq
theorem agQ{u:Prop}[Decidable u]{x lo hi:Int}{Q:Bool×Unit->Heap->Prop}(hq:∀r:Bool,(r=true↔if u then lo≤x∧x≤hi else x=0)->Q (r,()) H):CALL P [ah] iP [.int .u8 x,.bool (decide u),.int .u8 lo,.int .u8 hi] H Q:=by
 apply yC
 unfold iR
 exact aeW hq
theorem aeX{u:Prop}[Decidable u]{x lo hi:Int}{Q:Bool×Unit->Heap->Prop}(hq:∀r:Bool,(r=true↔if u then lo≤x∧x≤hi else x=0)->Q (r,()) H):CALL P [ah] iy [.int .u8 x,.bool (decide u),.int .u8 lo,.int .u8 hi] H Q:=by
 apply vK
 unfold iD
 exact aeW hq
theorem agR{u:Prop}[Decidable u]{x lo hi:Int}{Q:Bool×Unit->Heap->Prop}(hq:∀r:Bool,(r=true↔if u then lo≤x∧x≤hi else x=0)->Q (r,()) H):CALL P [ah] iQ [.int .u8 x,.bool (decide u),.int .u8 lo,.int .u8 hi] H Q:=by
 apply yF
 unfold iT
 exact aeW hq
theorem KU{u:Prop}[Decidable u]{x hi:Int}{Q:Bool×Unit->Heap->Prop}(hq:∀r:Bool,(r=true↔inU u x hi)->Q (r,()) H):CALL P [ah] kD [.bool (decide u),.int .i64 x,.int .i64 hi] H Q:=by
 apply Qp
 unfold uJ
 exact aeW (lo:=1) hq
theorem ajz{r:Bool}:r=false↔¬r=true:=by cases r<;>simp
def okF(p:Pt):Prop:=inU (sU p.Verb p.Whom) p.Suit 6∧inU (tU p.Verb p.Whom) p.Trait 8∧inU (p.Verb=9) p.Mark 4
def adl(p:Pt):Prop:=if p.Verb=7 then ¬qK p.Name else p.Name.data.toList≠[]
def out6(p:Pt):Prop:=p.When<1∨6<p.When∨p.Verb<1∨19<p.Verb∨p.Whom<1∨10<p.Whom
def adn(p:Pt):Prop:=nP p.Verb≠C9 p.When∨p.Verb=11∧p.Whom=9
open Classical in
theorem acj(p:Pt):Me p=if out6 p then 2 else if adn p then 8 else if ¬nR p then 13 else if ¬wE p.Verb p.Count then 2 else if ¬okF p then 2 else if adl p then 4 else 0:=by
 unfold Me out6 adn okF adl
 congr
theorem hJ{H:Heap}{A:((Bool×Unit)×Unit->Heap->Prop)->Prop}{X Y:Heap->Prop}(c:Prop)(hA:∀j:(Bool×Unit)×Unit->Heap->Prop,(∀r:Bool,(r=true↔c)->j ((r,()),()) H)->A j)(h1:c->X H)(h2:¬c->Y H):JOIN A fun(y:(Bool×Unit)×Unit) H'=>aN y.1.1 (X H') (Y H'):=
 hA _ fun r hr=>bG (fun e=>h1 (hr.1 e)) (fun e=>h2 fun q=>by
  have e:r=false:=e
  rw[hr.2 q]at e; cases e)
theorem aiz{p:Pt}(ok:OkP p){Q:Int×Unit->Heap->Prop}(hq:Q (Me p,()) H):CALL P [aj .i64] tZ [aQ.enc p] H Q:=by
 apply Qg
 unfold uG
 rw[acj]at hq
 refine aix (aeO ?_)
 refine hJ (out6 p) (fun j hj=> ?_) (fun h=>by rwa [if_pos h]at hq) (fun h1=> ?_)
 ·unfold out6 at hj
  exact cu (fun h=>hj _ (by simp; omega)) (fun h1=>cu (fun h=>hj _ (by simp; omega)) (fun h2=>cu (fun h=>hj _ (by simp; omega)) (fun h3=>cu (fun h=>hj _ (by simp; omega)) (fun h4=>cu (fun h=>hj _ (by simp; omega)) (fun h5=>hj _ (by simp; omega))))))
 rw[if_neg h1]at hq
 have hr:1≤p.When∧p.When≤6∧1≤p.Verb∧p.Verb≤19:=by unfold out6 at h1; omega
 refine hJ (adn p) (fun j hj=> ?_) (fun h=>by rwa [if_pos h]at hq) (fun h2=> ?_)
 ·unfold adn at hj
  exact aeN (by omega) (XA (fun h=>hj _ (by simp; omega)) (fun h=>eP (fun h2=>hj _ (by simp; omega)) (fun h2=>hj _ (by simp; omega))))
 rw[if_neg h2]at hq
 refine agN (by omega) fun r hr2=>bG (fun e=> ?_) (fun e=> ?_)
 ·rw[if_pos (fun q=>by rw[hr2.2 q]at e; cases e)]at hq; exact hq
 have e3:nR p:=hr2.1 (by simpa using e)
 rw[if_neg (fun q=>q e3)]at hq
 refine hJ (¬wE p.Verb p.Count) (fun j hj=> ?_) (fun h=>by rwa [if_pos h]at hq) (fun h4=> ?_)
 ·refine aiy fun r hr3=> ?_
  dsimp only at hr3
  unfold wE at hj
  by_cases hu:cU p.Verb
  ·rw[if_pos hu]at hr3
   rw[if_pos hu]at hj
   refine bG (fun e=>hj _ ?_) (fun e=>dI (decide_eq_true hu) (XA (fun h14=>hj _ ?_) (fun h14=>hj _ ?_)))
   ·have:¬(Eo p.Verb≤p.Count∧p.Count≤Dc p.Verb):=fun q=>by rw[hr3.2 q]at e; cases e
    simp only[true_iff]; exact fun q=>this ⟨q.1,q.2.1⟩
   ·have:=hr3.1 (by simpa using e)
    simp only[beq_iff_eq]; omega
   ·have:=hr3.1 (by simpa using e)
    simp only[Bool.false_eq_true,false_iff]; omega
  ·rw[if_neg hu]at hr3
   rw[if_neg hu]at hj
   refine bG (fun e=>hj _ ?_) (fun e=>bC (decide_eq_false hu) (hj _ ?_))
   ·simp only[true_iff]; exact fun q=>by rw[hr3.2 q]at e; cases e
   ·have:=hr3.1 (by simpa using e)
    simp only[Bool.false_eq_true,false_iff]; exact fun q=>q this
 rw[if_neg h4]at hq
 refine hJ (¬okF p) (fun j hj=> ?_) (fun h=>by rwa [if_pos h]at hq) (fun h5=> ?_)
 ·refine agQ fun r1 hr1=>bG (fun e=>hj _ ?_) (fun e=>aeX fun r2 hr2=>bG (fun e2=>hj _ ?_) (fun e2=>agR fun r3 hr3=>hj _ ?_))
  ·simp only[true_iff]; exact fun q=>by rw[hr1.2 q.1]at e; cases e
  ·simp only[true_iff]; exact fun q=>by rw[hr2.2 q.2.1]at e2; cases e2
  ·have g1:=hr1.1 (by simpa using e)
   have g2:=hr2.1 (by simpa using e2)
   rw[Bool.not_eq_true',ajz,hr3]
   exact⟨fun q k=>q k.2.2,fun q k=>q ⟨g1,g2,k⟩⟩
 rw[if_neg h5]at hq
 refine hJ (adl p) (fun j hj=> ?_) (fun h=>by rwa [if_pos h]at hq) (fun h6=>by rwa [if_neg h6]at hq)
 have hn:p.Name.toList=p.Name.data.toList:=ByteArray.toList_eq _
 rw[hn,DW]
 unfold adl at hj
 by_cases h7:p.Verb=7
 ·rw[if_pos h7]at hj
  simp only[h7,decide_true]
  refine bG (fun e=>hj _ ?_) (fun e=>dI rfl (agO ok.nm (hj _ ?_)))
  ·simp only[true_iff]
   intro q
   have:p.Name.data.toList=[]:=by simpa using e
   have:=q.1
   simp_all
  ·simp
 ·rw[if_neg h7]at hj
  simp only[h7,decide_false]
  refine bG (fun e=>hj _ ?_) (fun e=>bC rfl (hj _ ?_))
  ·simp only[true_iff]; simpa using e
  ·have:p.Name.data.toList=[]:=by simpa using e
   simp[this]
theorem acn{v:Int}{Q:Int×Unit->Heap->Prop}(hq:Q (nP v,()) H):CALL P [aj .i64] sO [.int .u8 v] H Q:=by
 apply Xg
 unfold Aw
 unfold nP at hq
 refine hJ (1≤v∧v≤9) (fun j hj=>cu (fun h=>hj _ (by simp; omega)) (fun h=>hj _ (by simp; omega))) (fun h=>by rwa [if_pos h]at hq) (fun h=> ?_)
 rw[if_neg h]at hq
 refine hJ (10≤v∧v≤15) (fun j hj=>cu (fun h=>hj _ (by simp; omega)) (fun h=>hj _ (by simp; omega))) (fun h=>by rwa [if_pos h]at hq) (fun h=> ?_)
 rw[if_neg h]at hq
 refine hJ (16≤v∧v≤19) (fun j hj=>cu (fun h=>hj _ (by simp; omega)) (fun h=>hj _ (by simp; omega))) (fun h=>by rwa [if_pos h]at hq) (fun h=>by rwa [if_neg h]at hq)
theorem aeY{v:Int}{Q:Int×Unit->Heap->Prop}(hq:Q (C9 v,()) H):CALL P [aj .i64] xk [.int .u8 v] H Q:=by
 apply UE
 unfold yH
 unfold C9 at hq
 refine hJ (1≤v∧v≤4) (fun j hj=>cu (fun h=>hj _ (by simp; omega)) (fun h=>hj _ (by simp; omega))) (fun h=>by rwa [if_pos h]at hq) (fun h=> ?_)
 rw[if_neg h]at hq
 exact eP (fun h=>by rwa [if_pos h]at hq) (fun h=>eP (fun h2=>by rwa [if_neg h,if_pos h2]at hq) (fun h2=>by rwa [if_neg h,if_neg h2]at hq))
theorem aeZ{p:Pt}{Q:Bool×Unit->Heap->Prop}(hq:∀r:Bool,(r=true↔nR p)->Q (r,()) H):CALL P [ah] xq [aQ.enc p] H Q:=by
 apply UH
 unfold yI
 unfold nR at hq
 refine JD (H:=H) (p.Whom=1∨p.Whom=2) (fun j hj=>eP (fun h=>hj _ (by simp; omega)) (fun h=>hj _ (by simp; omega))) (acn (eP (fun h1=> ?_) (fun h1=>eP (fun h2=> ?_) (fun h2=> ?_))))
 ·dsimp only at h1
  rw[if_pos h1]at hq
  refine hJ ((p.Whom=1∨p.Whom=2)∧(p.Verb=6∨p.Verb=8∨p.Verb=9)) (fun j hj=>cu (fun h=>eP (fun h6=>hj _ (by simp; omega)) (fun h6=>eP (fun h8=>hj _ (by simp; omega)) (fun h8=>hj _ (by simp; omega)))) (fun h=>hj _ (by simp; omega))) (fun h=>hq _ ?_) (fun h=> ?_)
  ·rw[if_neg (by omega)]; simp only[Bool.false_eq_true,false_iff]; exact fun q=>q h
  ·refine JD (H:=H) (p.Whom≠3∨p.When=1) (fun j hj=>yO (fun h=>hj _ (by simp; omega)) (fun h=>hj _ (by simp; omega))) (hq _ ?_)
   rw[decide_eq_true_eq]
   split<;>omega
 ·dsimp only at h1 h2
  rw[if_neg h1,if_pos h2]at hq
  refine JD (H:=H) (¬(p.Whom=1∨p.Whom=2)∧p.Whom≠3) (fun j hj=>XA (fun h=>hj _ (by simp; omega)) (fun h=>hj _ (by simp; omega))) (hq _ (by rw[decide_eq_true_eq]))
 ·dsimp only at h1 h2
  rw[if_neg h1,if_neg h2]at hq
  exact hq _ (by simp)
def AX(v:Int):Int:=if cU v then Eo v else 0
def FC(v:Int):Int:=if cU v then Dc v else 0
theorem Vr{v:Int}{Q:Int×Int×Unit->Heap->Prop}(hq:Q (AX v,FC v,()) H):CALL P [aj .i64,aj .i64] nO [.int .u8 v] H Q:=by
 apply QA
 unfold uN
 have fin:∀a b,AX v=a->FC v=b->Q (a,b,()) H:=fun a b h1 h2=>by rw[h1,h2]at hq; exact hq
 refine hJ (H:=H) (v=1∨v=2∨v=3∨v=4∨v=7∨v=16∨v=19) (fun j hj=> ?_) (fun h=>fin _ _ ?_ ?_) (fun h=> ?_)
 ·exact eP (fun h=>hj _ (by simp; omega)) (fun h1=>aX (eP (fun h=>hj _ (by simp; omega)) (fun h2=>aX (eP (fun h=>hj _ (by simp; omega)) (fun h3=>aX (eP (fun h=>hj _ (by simp; omega)) (fun h4=>aX (eP (fun h=>hj _ (by simp; omega)) (fun h5=>aX (eP (fun h=>hj _ (by simp; omega)) (fun h6=>hj _ (by simp; omega))))))))))))
 ·unfold AX Eo; repeat' split
  all_goals first|rfl|(exfalso; simp only[cU]at *; omega)
 ·unfold FC Dc; repeat' split
  all_goals first|rfl|(exfalso; simp only[cU]at *; omega)
 ·refine hJ (v=9∨v=15) (fun j hj=>eP (fun h=>hj _ (by simp; omega)) (fun h=>hj _ (by simp; omega))) (fun h2=>fin _ _ ?_ ?_) (fun h2=>eP (fun h3=>fin _ _ ?_ ?_) (fun h3=>eP (fun h4=>fin _ _ ?_ ?_) (fun h4=>fin _ _ ?_ ?_)))
  all_goals
   first
   |(unfold AX Eo; repeat' split)<;>first|rfl|(exfalso; simp only[cU]at *; omega)
   |(unfold FC Dc; repeat' split)<;>first|rfl|(exfalso; simp only[cU]at *; omega)
theorem ae0{v:Int}:FC v>0↔cU v:=by
 unfold FC Dc
 split
 ·rename_i h; refine⟨fun _=>h,fun _=> ?_⟩; split<;>omega
 ·rename_i h; refine⟨fun q=>by omega,fun q=>absurd q h⟩
theorem aa9{p:Pt}{Q:Bool×Unit->Heap->Prop}(hq:∀r:Bool,(r=true↔wE p.Verb p.Count)->Q (r,()) H):CALL P [ah] ru [aQ.enc p] H Q:=by
 apply NP
 unfold rY
 have key:wE p.Verb p.Count↔AX p.Verb≤p.Count∧p.Count≤FC p.Verb∧(0≤AX p.Verb∨p.Count≠0):=by
  have hl:(Eo p.Verb= -99∨Eo p.Verb= -9∨(Eo p.Verb=0∧p.Verb=14)∨Eo p.Verb=1)∧(p.Verb=14->Eo p.Verb=0):=by
   unfold Eo
   repeat' split
   all_goals omega
  unfold wE AX FC
  by_cases hu:cU p.Verb
  ·simp only[if_pos hu]; omega
  ·simp only[if_neg hu]; omega
 refine Vr (JD (H:=H) (AX p.Verb≤p.Count∧p.Count≤FC p.Verb∧(0≤AX p.Verb∨p.Count≠0)) (fun j hj=>cu (fun h1=>cu (fun h2=>cu (fun h3=>hj _ ?_) (fun h3=>hj _ ?_)) (fun h2=>hj _ ?_)) (fun h1=>hj _ ?_)) (hq _ (by rw[decide_eq_true_eq,key])))
 all_goals (dsimp only at *; simp; omega)
theorem agS{v w:Int}{Q:Bool×Bool×Bool×Bool×Bool×Unit->Heap->Prop}(hq:Q (decide (cU v),decide (sU v w),decide (tU v w),decide (v=9),decide (v=7),()) H):CALL P [ah,ah,ah,ah,ah] zT [.int .u8 v,.int .u8 w] H Q:=by
 apply Xd
 unfold Au
 have fin:∀a b c d e:Bool,(a=true↔cU v)->(b=true↔sU v w)->(c=true↔tU v w)->(d=true↔v=9)->(e=true↔v=7)->Q (a,b,c,d,e,()) H:=fun a b c d e h1 h2 h3 h4 h5=>by
  have e1:a=decide (cU v):=by rw[Bool.eq_iff_iff,h1]; simp
  have e2:b=decide (sU v w):=by rw[Bool.eq_iff_iff,h2]; simp
  have e3:c=decide (tU v w):=by rw[Bool.eq_iff_iff,h3]; simp
  have e4:d=decide (v=9):=by rw[Bool.eq_iff_iff,h4]; simp
  have e5:e=decide (v=7):=by rw[Bool.eq_iff_iff,h5]; simp
  rw[e1,e2,e3,e4,e5]; exact hq
 have hc:(decide (FC v>0))=true↔cU v:=by rw[decide_eq_true_eq,ae0]
 refine Vr (aX (eP (fun h11=>eP (fun h12=> ?_) (fun h12=>eP (fun h13=> ?_) (fun h13=> ?_))) (fun h11=>eP (fun h12=> ?_) (fun h12=>eP (fun h13=> ?_) (fun h13=> ?_)))))
 all_goals exact fin _ _ _ _ _ hc (by simp[sU]; try omega) (by simp[tU]; try omega) (by simp) (by simp)
theorem aiA{p:Pt}(ok:OkP p){Q:Int×Unit->Heap->Prop}(hq:Q (Me p,()) H):CALL P [aj .i64] wX [aQ.enc p] H Q:=by
 apply TY
 unfold xZ
 rw[acj]at hq
 refine hJ (out6 p) (fun j hj=> ?_) (fun h=>by rwa [if_pos h]at hq) (fun h1=> ?_)
 ·unfold out6 at hj
  exact cu (fun h=>hj _ (by simp; omega)) (fun h1=>cu (fun h=>hj _ (by simp; omega)) (fun h2=>cu (fun h=>hj _ (by simp; omega)) (fun h3=>cu (fun h=>hj _ (by simp; omega)) (fun h4=>cu (fun h=>hj _ (by simp; omega)) (fun h5=>hj _ (by simp; omega))))))
 rw[if_neg h1]at hq
 refine agS ?_
 refine hJ (adn p) (fun j hj=> ?_) (fun h=>by rwa [if_pos h]at hq) (fun h2=> ?_)
 ·unfold adn at hj
  exact acn ⟨rfl,aeY (yO (fun h=>hj _ (by dsimp only at h; simp; omega)) (fun h=>eP (fun h2=>hj _ (by dsimp only at h; simp; omega)) (fun h2=>hj _ (by dsimp only at h; simp; omega))))⟩
 rw[if_neg h2]at hq
 refine aeZ fun r hr2=>bG (fun e=> ?_) (fun e=> ?_)
 ·rw[if_pos (fun q=>by rw[hr2.2 q]at e; cases e)]at hq; exact hq
 have e3:nR p:=hr2.1 (by simpa using e)
 rw[if_neg (fun q=>q e3)]at hq
 refine aa9 fun r hr3=>bG (fun e=> ?_) (fun e=> ?_)
 ·rw[if_pos (fun q=>by rw[hr3.2 q]at e; cases e)]at hq; exact hq
 have e4:wE p.Verb p.Count:=hr3.1 (by simpa using e)
 rw[if_neg (fun q=>q e4)]at hq
 have hs:=ok.s
 have ht:=ok.t
 have hm:=ok.m
 rw[bT (x:=p.Suit) (by omega) (by omega),bT (x:=p.Trait) (by omega) (by omega),bT (x:=p.Mark) (by omega) (by omega)]
 refine hJ (¬okF p) (fun j hj=> ?_) (fun h=>by rwa [if_pos h]at hq) (fun h5=> ?_)
 ·refine KU fun r1 hr1=>bG (fun e=>hj _ ?_) (fun e=>KU fun r2 hr2=>bG (fun e2=>hj _ ?_) (fun e2=>KU fun r3 hr3=>hj _ ?_))
  ·simp only[true_iff]; exact fun q=>by rw[hr1.2 q.1]at e; cases e
  ·simp only[true_iff]; exact fun q=>by rw[hr2.2 q.2.1]at e2; cases e2
  ·have g1:=hr1.1 (by simpa using e)
   have g2:=hr2.1 (by simpa using e2)
   rw[Bool.not_eq_true',ajz,hr3]
   exact⟨fun q k=>q k.2.2,fun q k=>q ⟨g1,g2,k⟩⟩
 rw[if_neg h5]at hq
 refine hJ (adl p) (fun j hj=> ?_) (fun h=>by rwa [if_pos h]at hq) (fun h6=>by rwa [if_neg h6]at hq)
 have hn:p.Name.toList=p.Name.data.toList:=ByteArray.toList_eq _
 rw[hn,DW]
 unfold adl at hj
 by_cases h7:p.Verb=7
 ·rw[if_pos h7]at hj
  simp only[h7,decide_true]
  refine dI rfl (aeT (XA (fun h=>hj _ (by simpa using h)) (fun h=>bC rfl (hj _ (by simpa using h)))))
 ·rw[if_neg h7]at hj
  simp only[h7,decide_false]
  exact bC rfl (dI rfl (hj _ (by simp)))
end
end Go.Proofs.YtijnknjopjmiiaaGreatDoor.Zq
end
