/- Part 4 of the proof of ViewCalls: what its row stands on (lemmas about the model, the evaluator, contracts of functions), put together and cut to what is used. -/
import Derived.Test.YtijnknjopjmiiaaGreatDoorKViewCalls3
import Derived.KernelRfl
namespace Go.Proofs.YtijnknjopjmiiaaGreatDoor
def rg:Nat->Nat->List Nat->List Nat
 |_,0,l=>l
 |a,n+1,l=>a::rg (a+1) n l
end Go.Proofs.YtijnknjopjmiiaaGreatDoor
section
namespace Go.Proofs.YtijnknjopjmiiaaGreatDoor
open Go Zq
namespace Zv
set_option maxRecDepth 100000
set_option linter.unusedVariables false
def nS(a0:dG)(a1:Sl)(a2:Int)(a3:Int)(H:Heap)(Q:Bool×Unit->Heap->Prop):Prop:=
CALL P [ah] Fz [] H fun(x1:Bool×Unit) H1=>
aN (!x1.1) (
Q (false,()) H1) (
CALL P [ah] wO [(bY.enc a0),a1.v] H1 fun(x2:Bool×Unit) H2=>
aN x2.1 (
Q (true,()) H2) (
CALL P [fG,fG,ah] CU [(bY.enc a0)] H2 fun(x3:(Option Addr)×(Option Addr)×Bool×Unit) H3=>
aN (!x3.2.2.1) (
Q (false,()) H3) (
CALL P [aH] oK [a1.v] H3 fun(x4:Sl×Unit) H4=>
dW aH (dH E 26 x4.1.v none (some (.int .i64 (a1.len:Int))) none H4) fun(x5:Sl)=>
CALL P [aH,(aj .i64)] yV [(.pointer x3.1),x5.v] H4 fun(x6:Sl×Int×Unit) H5=>
CALL P [aH,(aj .i64)] lK [(.pointer x3.1),x5.v,(.int .i64 a2)] H5 fun(x7:Sl×Int×Unit) H6=>
CALL P [aH,(aj .i64)] nH [(.pointer x3.1),x5.v] H6 fun(x8:Sl×Int×Unit) H7=>
CALL P [aH,(aj .i64)] zJ [(.pointer x3.1),x5.v,(.int .i64 a3)] H7 fun(x9:Sl×Int×Unit) H8=>
CALL P [aH,(aj .i64)] yV [(.pointer x3.1),x5.v] H8 fun(x10:Sl×Int×Unit) H9=>
CALL P [aH,(aj .i64)] nH [(.pointer x3.1),x5.v] H9 fun(x11:Sl×Int×Unit) H10=>
CALL P [ah] oL [x4.1.v,a1.v] H10 fun(x12:Bool×Unit) H11=>
aN (!x12.1) (
Q (false,()) H11) (
CALL P [] oM [x4.1.v] H11 fun(x13:Unit) H12=>
CALL P [aH,(aj .i64)] Gf [(.pointer x3.2.1),a1.v] H12 fun(x14:Sl×Int×Unit) H13=>
CALL P [aH,(aj .i64)] jY [(.pointer x3.2.1),a1.v,(.int .i64 a2)] H13 fun(x15:Sl×Int×Unit) H14=>
CALL P [aH,(aj .i64)] qj [(.pointer x3.2.1),a1.v] H14 fun(x16:Sl×Int×Unit) H15=>
CALL P [aH,(aj .i64)] vZ [(.pointer x3.2.1),a1.v,(.int .i64 a3)] H15 fun(x17:Sl×Int×Unit) H16=>
JOIN (fun(j18:(Bool×Unit)×(Unit)->Heap->Prop)=>
aN (x6.2.1 !=x14.2.1) (
j18 ((true,()),(())) H16) (
aN (x7.2.1 !=x15.2.1) (
j18 ((true,()),(())) H16) (
aN (x8.2.1 !=x16.2.1) (
j18 ((true,()),(())) H16) (
aN (x9.2.1 !=x17.2.1) (
j18 ((true,()),(())) H16) (
aN (x10.2.1 !=x6.2.1) (
j18 ((true,()),(())) H16) (
j18 ((x11.2.1 !=x8.2.1,()),(())) H16)))))) fun(y19:(Bool×Unit)×(Unit)) H17=>
aN y19.1.1 (
Q (false,()) H17) (
JOIN (fun(j20:(Bool×Unit)×(Unit)->Heap->Prop)=>
CALL P [ah] gQ [x6.1.v,x14.1.v] H17 fun(x22:Bool×Unit) H19=>
aN (!x22.1) (
j20 ((true,()),(())) H19) (
CALL P [ah] gQ [x7.1.v,x15.1.v] H19 fun(x23:Bool×Unit) H20=>
aN (!x23.1) (
j20 ((true,()),(())) H20) (
CALL P [ah] gB [x8.1.v,x16.1.v] H20 fun(x24:Bool×Unit) H21=>
aN (!x24.1) (
j20 ((true,()),(())) H21) (
CALL P [ah] gB [x9.1.v,x17.1.v] H21 fun(x25:Bool×Unit) H22=>
aN (!x25.1) (
j20 ((true,()),(())) H22) (
CALL P [ah] gQ [x10.1.v,x14.1.v] H22 fun(x26:Bool×Unit) H23=>
aN (!x26.1) (
j20 ((true,()),(())) H23) (
CALL P [ah] gB [x11.1.v,x16.1.v] H23 fun(x27:Bool×Unit) H24=>
j20 ((!x27.1,()),(())) H24)))))) fun(y21:(Bool×Unit)×(Unit)) H18=>
aN y21.1.1 (
Q (false,()) H18) (
JOIN (fun(j28:(Bool×Unit)×(Unit)->Heap->Prop)=>
NEW H18 [(.slice x6.1.p x6.1.len x6.1.cap),(.slice x7.1.p x7.1.len x7.1.cap),(.slice x10.1.p x10.1.len x10.1.cap)] 1 fun H26=>
CALL P [ah] kU [((Sl.mk (some ⟨H18.length,0,none⟩) 3 3)).v] H26 fun(x30:Bool×Unit) H27=>
aN x30.1 (
NEW H27 [(.slice x8.1.p x8.1.len x8.1.cap),(.slice x9.1.p x9.1.len x9.1.cap),(.slice x11.1.p x11.1.len x11.1.cap)] 1 fun H28=>
CALL P [ah] jZ [((Sl.mk (some ⟨H27.length,0,none⟩) 3 3)).v] H28 fun(x31:Bool×Unit) H29=>
j28 ((x31.1,()),(())) H29) (
j28 ((false,()),(())) H27)) fun(y29:(Bool×Unit)×(Unit)) H25=>
Q (y29.1.1,()) H25))))))
def Iq:dw:=(.seq .leaf (.seq .leaf (.seq .leaf (.seq .leaf (.seq .leaf (.seq .leaf (.seq .leaf (.seq .leaf (.seq .leaf (.seq .leaf (.seq .leaf (.seq .leaf (.seq .leaf (.seq .leaf (.seq .leaf (.seq .leaf (.seq .leaf (.seq .leaf (.seq .leaf (.seq (.seq (.reg ⟨[(150,ah)],[],(rg 123 27 [])⟩) .leaf) (.seq (.seq (.reg ⟨[(184,ah)],[],(rg 151 33 [])⟩) .leaf) (.seq (.reg ⟨[(8,ah)],[],(rg 185 12 [])⟩) .leaf))))))))))))))))))))))
theorem Ir(a0:dG)(a1:Sl)(a2:Int)(a3:Int)(H:Heap)(Q:Bool×Unit->Heap->Prop):nS a0 a1 a2 a3 H Q=dN C [4] Tryz.f4.ntmps Tryz.f4.results.toList [ah] (aP Tryz.f4) Iq [(bY.enc a0),a1.v,(.int .i64 a2),(.int .i64 a3)] H Q:=by kernel_rfl
theorem Iu{a0:dG}{a1:Sl}{a2:Int}{a3:Int}{H:Heap}{Q:Bool×Unit->Heap->Prop}(h:nS a0 a1 a2 a3 H Q):CALL P [ah] nG [(bY.enc a0),a1.v,(.int .i64 a2),(.int .i64 a3)] H Q:=aC hE Tryz.func4 rfl (by kernel_rfl) (Ir a0 a1 a2 a3 H Q) h
def JR(a0:Option Addr)(a1:Sl)(H:Heap)(Q:Sl×Int×Unit->Heap->Prop):Prop:=
CALL P [aH,(aj .i64)] lK [(.pointer a0),a1.v,(.int .i64 6)] H fun(x1:Sl×Int×Unit) H1=>
Q (x1.1,x1.2.1,()) H1
def ada:dw:=.leaf
theorem adb(a0:Option Addr)(a1:Sl)(H:Heap)(Q:Sl×Int×Unit->Heap->Prop):JR a0 a1 H Q=dN C [] Tryz.f9.ntmps Tryz.f9.results.toList [aH,(aj .i64)] (aP Tryz.f9) ada [(.pointer a0),a1.v] H Q:=by kernel_rfl
theorem ade{a0:Option Addr}{a1:Sl}{H:Heap}{Q:Sl×Int×Unit->Heap->Prop}(h:JR a0 a1 H Q):CALL P [aH,(aj .i64)] yV [(.pointer a0),a1.v] H Q:=aC hE Tryz.func9 rfl (by kernel_rfl) (adb a0 a1 H Q) h
def Ac(a0:Option Addr)(a1:Sl)(H:Heap)(Q:Sl×Int×Unit->Heap->Prop):Prop:=
CALL P [vX,(aj .i64)] qG [(.pointer a0),a1.v] H fun(x1:Value×Int×Unit) H1=>
aN (x1.2.1 !=0) (
Q ((Sl.mk none 0 0),x1.2.1,()) H1) (
JOIN (fun(j2:(Sl×Unit)×(Unit)->Heap->Prop)=>
LOOP (fun(r4:(Sl×Int×Unit)×(Unit)->Heap->Prop) (s5:(Sl×Int×Unit)×(Unit)) H3=>
aN (decide (s5.1.2.1<5)) (
YA P [aH,aH] x1.1 [] H3 fun(x6:Sl×Sl×Unit) H4=>
vk aH (lenV s5.1.1.v+(lX x6.2.1.v).getD 0) (dF E [37,37] s5.1.1.v x6.2.1.v H4) fun(x7:Sl) H5=>
r4 ((x7,IntKind.wrap .i64 (s5.1.2.1+1),()),(())) H5) (
j2 ((s5.1.1,()),(())) H3)) (((Sl.mk none 0 0),0,()),(())) H1) fun(y3:(Sl×Unit)×(Unit)) H2=>
Q (y3.1.1,0,()) H2)
def Wp:dw:=(.seq .leaf (.seq .leaf (.seq .leaf (.seq .leaf (.seq (.seq .leaf (.blk (some ⟨[(8,aH)],[],(rg 9 2 (rg 20 11 []))⟩) (.loop ⟨[(8,aH),(20,(aj .i64))],[],(rg 9 2 (rg 21 10 []))⟩ .leaf))) .leaf)))))
theorem Wq(a0:Option Addr)(a1:Sl)(H:Heap)(Q:Sl×Int×Unit->Heap->Prop):Ac a0 a1 H Q=dN C [] Tryz.f10.ntmps Tryz.f10.results.toList [aH,(aj .i64)] (aP Tryz.f10) Wp [(.pointer a0),a1.v] H Q:=by kernel_rfl
theorem Ws{a0:Option Addr}{a1:Sl}{H:Heap}{Q:Sl×Int×Unit->Heap->Prop}(h:Ac a0 a1 H Q):CALL P [aH,(aj .i64)] nH [(.pointer a0),a1.v] H Q:=aC hE Tryz.func10 rfl (by kernel_rfl) (Wq a0 a1 H Q) h
def mG(a0:Sl)(a1:Sl)(H:Heap)(Q:Bool×Unit->Heap->Prop):Prop:=
aN ((a0.len:Int) !=(a1.len:Int)) (
Q (false,()) H) (
JOIN (fun(j1:(Unit)×(Unit)->Heap->Prop)=>
LOOP (fun(r3:(Int×Unit)×(Unit)->Heap->Prop) (s4:(Int×Unit)×(Unit)) H2=>
aN (decide (s4.1.1<(a0.len:Int))) (
bQ a0.p a0.len s4.1.1 5 fun b5 o6=>
LD aI H2 b5 o6 fun(x7:aB)=>
bQ a1.p a1.len s4.1.1 5 fun b8 o9=>
LD aI H2 b8 o9 fun(x10:aB)=>
aN (!((x7.Holder==x10.Holder)&&((x7.Suit==x10.Suit)&&((x7.Traits==x10.Traits)&&((x7.Power==x10.Power)&&((x7.Health==x10.Health)&&true)))))) (
Q (false,()) H2) (
r3 ((IntKind.wrap .i64 (s4.1.1+1),()),(())) H2)) (
j1 ((()),(())) H2)) ((0,()),(())) H) fun(y2:(Unit)×(Unit)) H1=>
Q (true,()) H1)
def Gi:dw:=(.seq .leaf (.seq .leaf (.seq (.seq .leaf (.blk (some ⟨[],[],(rg 4 2 (rg 11 15 []))⟩) (.loop ⟨[(5,(aj .i64))],[],(rg 4 1 (rg 11 15 []))⟩ .leaf))) .leaf)))
theorem Gj(a0:Sl)(a1:Sl)(H:Heap)(Q:Bool×Unit->Heap->Prop):mG a0 a1 H Q=dN C [] Tryz.f11.ntmps Tryz.f11.results.toList [ah] (aP Tryz.f11) Gi [a0.v,a1.v] H Q:=by kernel_rfl
theorem Gl{a0:Sl}{a1:Sl}{H:Heap}{Q:Bool×Unit->Heap->Prop}(h:mG a0 a1 H Q):CALL P [ah] gQ [a0.v,a1.v] H Q:=aC hE Tryz.func11 rfl (by kernel_rfl) (Gj a0 a1 H Q) h
def kZ(a0:Sl)(a1:Sl)(H:Heap)(Q:Bool×Unit->Heap->Prop):Prop:=
aN ((a0.len:Int) !=(a1.len:Int)) (
Q (false,()) H) (
JOIN (fun(j1:(Unit)×(Unit)->Heap->Prop)=>
LOOP (fun(r3:(Int×Unit)×(Unit)->Heap->Prop) (s4:(Int×Unit)×(Unit)) H2=>
aN (decide (s4.1.1<(a0.len:Int))) (
bQ a0.p a0.len s4.1.1 10 fun b5 o6=>
LD ay H2 b5 o6 fun(x7:aF)=>
bQ a1.p a1.len s4.1.1 10 fun b8 o9=>
LD ay H2 b8 o9 fun(x10:aF)=>
aN (!((x7.Thing==x10.Thing)&&((x7.Place==x10.Place)&&(((x7.What.When==x10.What.When)&&((x7.What.Verb==x10.What.Verb)&&((x7.What.Whom==x10.What.Whom)&&((x7.What.Count==x10.What.Count)&&((x7.What.Suit==x10.What.Suit)&&((x7.What.Trait==x10.What.Trait)&&((x7.What.Mark==x10.What.Mark)&&((x7.What.Name.toList==x10.What.Name.toList)&&true))))))))&&true)))) (
Q (false,()) H2) (
r3 ((IntKind.wrap .i64 (s4.1.1+1),()),(())) H2)) (
j1 ((()),(())) H2)) ((0,()),(())) H) fun(y2:(Unit)×(Unit)) H1=>
Q (true,()) H1)
def Et:dw:=(.seq .leaf (.seq .leaf (.seq (.seq .leaf (.blk (some ⟨[],[],(rg 4 2 (rg 11 15 []))⟩) (.loop ⟨[(5,(aj .i64))],[],(rg 4 1 (rg 11 15 []))⟩ .leaf))) .leaf)))
theorem Eu(a0:Sl)(a1:Sl)(H:Heap)(Q:Bool×Unit->Heap->Prop):kZ a0 a1 H Q=dN C [] Tryz.f12.ntmps Tryz.f12.results.toList [ah] (aP Tryz.f12) Et [a0.v,a1.v] H Q:=by kernel_rfl
theorem Ew{a0:Sl}{a1:Sl}{H:Heap}{Q:Bool×Unit->Heap->Prop}(h:kZ a0 a1 H Q):CALL P [ah] gB [a0.v,a1.v] H Q:=aC hE Tryz.func12 rfl (by kernel_rfl) (Eu a0 a1 H Q) h
def xB(a0:dG)(a1:Sl)(H:Heap)(Q:Bool×Unit->Heap->Prop):Prop:=
JOIN (fun(j1:(Bool×Unit)×(Unit)->Heap->Prop)=>
aN (decide ((a0.Cards.len:Int)>70)) (
j1 ((true,()),(())) H) (
aN (decide ((a0.Marks.len:Int)>40)) (
j1 ((true,()),(())) H) (
aN (decide ((a1.len:Int)>60)) (
j1 ((decide ((a1.len:Int)≤2048),()),(())) H) (
j1 ((false,()),(())) H)))) fun(y2:(Bool×Unit)×(Unit)) H1=>
Q (y2.1.1,()) H1
def RQ:dw:=(.seq .leaf (.seq (.reg ⟨[(4,ah)],[],(rg 5 20 [])⟩) .leaf))
theorem RS(a0:dG)(a1:Sl)(H:Heap)(Q:Bool×Unit->Heap->Prop):xB a0 a1 H Q=dN C [2] Tryz.f14.ntmps Tryz.f14.results.toList [ah] (aP Tryz.f14) RQ [(bY.enc a0),a1.v] H Q:=by kernel_rfl
theorem RU{a0:dG}{a1:Sl}{H:Heap}{Q:Bool×Unit->Heap->Prop}(h:xB a0 a1 H Q):CALL P [ah] wO [(bY.enc a0),a1.v] H Q:=aC hE Tryz.func14 rfl (by kernel_rfl) (RS a0 a1 H Q) h
def Df(a0:dG)(H:Heap)(Q:(Option Addr)×(Option Addr)×Bool×Unit->Heap->Prop):Prop:=
CALL P [fG] Gg [] H fun(x1:(Option Addr)×Unit) H1=>
CALL P [fG] CV [] H1 fun(x2:(Option Addr)×Unit) H2=>
JOIN (fun(j3:(Unit)×(Unit)->Heap->Prop)=>
LOOP (fun(r5:(Int×Unit)×(Unit)->Heap->Prop) (s6:(Int×Unit)×(Unit)) H4=>
aN (decide (s6.1.1<(a0.Cards.len:Int))) (
bQ a0.Cards.p a0.Cards.len s6.1.1 9 fun b7 o8=>
LD aG H4 b7 o8 fun(x9:aA)=>
bQ a0.Cards.p a0.Cards.len s6.1.1 9 fun b10 o11=>
LD aG H4 b10 o11 fun(x12:aA)=>
CALL P [aG] nI [(aG.enc x9)] H4 fun(x13:aA×Unit) H5=>
qB ((some (.slice a0.Cards.p a0.Cards.len a0.Cards.cap):Option Value)=some (.slice a0.Cards.p a0.Cards.len a0.Cards.cap)) (
LD aG H5 b10 o11 fun(x14:aA)=>
qB (aG.enc x14=(aG.enc x12)) (
CALL P [(aj .i64)] oO [(.pointer x1.1),(aG.enc x13.1)] H5 fun(x15:Int×Unit) H6=>
qB ((some (.slice a0.Cards.p a0.Cards.len a0.Cards.cap):Option Value)=some (.slice a0.Cards.p a0.Cards.len a0.Cards.cap)) (
LD aG H6 b10 o11 fun(x16:aA)=>
qB (aG.enc x16=(aG.enc x12)) (
CALL P [aG] nI [(aG.enc x12)] H6 fun(x17:aA×Unit) H7=>
CALL P [(aj .i64)] nJ [(.pointer x2.1),(aG.enc x17.1)] H7 fun(x18:Int×Unit) H8=>
aN (x15.1 !=x18.1) (
Q (x1.1,x2.1,false,()) H8) (
r5 ((IntKind.wrap .i64 (s6.1.1+1),()),(())) H8)))))) (
j3 ((()),(())) H4)) ((0,()),(())) H2) fun(y4:(Unit)×(Unit)) H3=>
JOIN (fun(j19:(Unit)×(Unit)->Heap->Prop)=>
LOOP (fun(r21:(Int×Unit)×(Unit)->Heap->Prop) (s22:(Int×Unit)×(Unit)) H10=>
aN (decide (s22.1.1<(a0.Marks.len:Int))) (
bQ a0.Marks.p a0.Marks.len s22.1.1 4 fun b23 o24=>
LD aT H10 b23 o24 fun(x25:au)=>
bQ a0.Marks.p a0.Marks.len s22.1.1 4 fun b26 o27=>
LD aT H10 b26 o27 fun(x28:au)=>
CALL P [(aj .i64)] oP [(.pointer x1.1),(aT.enc x25)] H10 fun(x29:Int×Unit) H11=>
qB ((some (.slice a0.Marks.p a0.Marks.len a0.Marks.cap):Option Value)=some (.slice a0.Marks.p a0.Marks.len a0.Marks.cap)) (
LD aT H11 b26 o27 fun(x30:au)=>
qB (aT.enc x30=(aT.enc x28)) (
CALL P [(aj .i64)] nK [(.pointer x2.1),(aT.enc x28)] H11 fun(x31:Int×Unit) H12=>
aN (x29.1 !=x31.1) (
Q (x1.1,x2.1,false,()) H12) (
r21 ((IntKind.wrap .i64 (s22.1.1+1),()),(())) H12)))) (
j19 ((()),(())) H10)) ((0,()),(())) H3) fun(y20:(Unit)×(Unit)) H9=>
JOIN (fun(j32:(Bool×Unit)×(Unit)->Heap->Prop)=>
aN (!a0.Open) (
CALL P [(aj .i64)] oQ [(.pointer x1.1)] H9 fun(x34:Int×Unit) H14=>
CALL P [(aj .i64)] nM [(.pointer x2.1)] H14 fun(x35:Int×Unit) H15=>
j32 ((x34.1 !=x35.1,()),(())) H15) (
j32 ((false,()),(())) H9)) fun(y33:(Bool×Unit)×(Unit)) H13=>
aN y33.1.1 (
Q (x1.1,x2.1,false,()) H13) (
CALL P [ah] jg [(.pointer x1.1)] H13 fun(x36:Bool×Unit) H16=>
CALL P [ah] gG [(.pointer x2.1)] H16 fun(x37:Bool×Unit) H17=>
Q (x1.1,x2.1,(x36.1==x37.1),()) H17)
def Y0:dw:=(.seq .leaf (.seq .leaf (.seq (.seq .leaf (.blk (some ⟨[],[],(rg 2 3 (rg 7 1 (rg 11 26 [])))⟩) (.loop ⟨[(7,(aj .i64))],[],(rg 2 3 (rg 11 26 []))⟩ .leaf))) (.seq (.seq .leaf (.blk (some ⟨[],[],(rg 2 3 (rg 8 1 (rg 37 24 [])))⟩) (.loop ⟨[(8,(aj .i64))],[],(rg 2 3 (rg 37 24 []))⟩ .leaf))) (.seq (.seq (.reg ⟨[(70,ah)],[],(rg 61 9 [])⟩) .leaf) .leaf)))))
theorem Y1(a0:dG)(H:Heap)(Q:(Option Addr)×(Option Addr)×Bool×Unit->Heap->Prop):Df a0 H Q=dN C [1] Tryz.f15.ntmps Tryz.f15.results.toList [fG,fG,ah] (aP Tryz.f15) Y0 [(bY.enc a0)] H Q:=by kernel_rfl
theorem Y2{a0:dG}{H:Heap}{Q:(Option Addr)×(Option Addr)×Bool×Unit->Heap->Prop}(h:Df a0 H Q):CALL P [fG,fG,ah] CU [(bY.enc a0)] H Q:=aC hE Tryz.func15 rfl (by kernel_rfl) (Y1 a0 H Q) h
def oW(a0:Sl)(H:Heap)(Q:Sl×Unit->Heap->Prop):Prop:=
GEN aH (dY E 26 (.int .i64 0) (.int .i64 (IntKind.wrap .i64 ((a0.len:Int)+2))) H) fun(x1:Sl) H1=>
vk aH (lenV x1.v+(lX a0.v).getD 0) (dF E [26,26] x1.v a0.v H1) fun(x2:Sl) H2=>
vk aH (lenV x2.v+2) (dR E [26,26] x2.v 2 [(.int .i64 (-77)),(.int .i64 0),(.int .u8 0),(.int .i64 0),(.int .i64 0),(.int .i64 0),(.int .i64 0),(.int .i64 0),(.int .i64 0),(.int .i64 0),(.bool false),(.int .i64 (-77)),(.int .i64 0),(.int .u8 0),(.int .i64 0),(.int .i64 0),(.int .i64 0),(.int .i64 0),(.int .i64 0),(.int .i64 0),(.int .i64 0),(.bool false)] H2) fun(x3:Sl) H3=>
Q (x3,()) H3
def JU:dw:=.leaf
theorem JV(a0:Sl)(H:Heap)(Q:Sl×Unit->Heap->Prop):oW a0 H Q=dN C [14] Tryz.f16.ntmps Tryz.f16.results.toList [aH] (aP Tryz.f16) JU [a0.v] H Q:=by kernel_rfl
theorem JW{a0:Sl}{H:Heap}{Q:Sl×Unit->Heap->Prop}(h:oW a0 H Q):CALL P [aH] oK [a0.v] H Q:=aC hE Tryz.func16 rfl (by kernel_rfl) (JV a0 H Q) h
def xC(a0:Option Addr)(a1:Sl)(a2:Int)(H:Heap)(Q:Sl×Int×Unit->Heap->Prop):Prop:=
CALL P [vX,(aj .i64)] qG [(.pointer a0),a1.v] H fun(x1:Value×Int×Unit) H1=>
aN (x1.2.1 !=0) (
Q ((Sl.mk none 0 0),x1.2.1,()) H1) (
JOIN (fun(j2:(Bool×Unit)×(Unit)->Heap->Prop)=>
aN (decide (a2<0)) (
j2 ((true,()),(())) H1) (
j2 ((decide (a2>6),()),(())) H1)) fun(y3:(Bool×Unit)×(Unit)) H2=>
aN y3.1.1 (
Q ((Sl.mk none 0 0),2,()) H2) (
YA P [aH,aH] x1.1 [] H2 fun(x4:Sl×Sl×Unit) H3=>
JOIN (fun(j5:(Sl×Unit)×(Unit)->Heap->Prop)=>
LOOP (fun(r7:(Sl×Int×Unit)×(Unit)->Heap->Prop) (s8:(Sl×Int×Unit)×(Unit)) H5=>
aN (decide (s8.1.2.1<a2)) (
YA P [aH,aH] x1.1 [] H5 fun(x9:Sl×Sl×Unit) H6=>
r7 ((x9.1,IntKind.wrap .i64 (s8.1.2.1+1),()),(())) H6) (
j5 ((s8.1.1,()),(())) H5)) ((x4.1,0,()),(())) H3) fun(y6:(Sl×Unit)×(Unit)) H4=>
NEW H4 [] 5 fun H7=>
vk aH (lenV ((Sl.mk (some ⟨H4.length,0,none⟩) 0 0)).v+(lX y6.1.1.v).getD 0) (dF E [30,30] ((Sl.mk (some ⟨H4.length,0,none⟩) 0 0)).v y6.1.1.v H7) fun(x10:Sl) H8=>
Q (x10,0,()) H8))
def RV:dw:=(.seq .leaf (.seq .leaf (.seq .leaf (.seq (.seq (.reg ⟨[(26,ah)],[],(rg 21 5 [])⟩) .leaf) (.seq .leaf (.seq (.seq .leaf (.blk (some ⟨[(10,aH)],[],(rg 33 8 [])⟩) (.loop ⟨[(10,aH),(33,(aj .i64))],[],(rg 34 7 [])⟩ .leaf))) .leaf))))))
theorem RX(a0:Option Addr)(a1:Sl)(a2:Int)(H:Heap)(Q:Sl×Int×Unit->Heap->Prop):xC a0 a1 a2 H Q=dN C [] Tryz.f17.ntmps Tryz.f17.results.toList [aH,(aj .i64)] (aP Tryz.f17) RV [(.pointer a0),a1.v,(.int .i64 a2)] H Q:=by kernel_rfl
theorem RY{a0:Option Addr}{a1:Sl}{a2:Int}{H:Heap}{Q:Sl×Int×Unit->Heap->Prop}(h:xC a0 a1 a2 H Q):CALL P [aH,(aj .i64)] lK [(.pointer a0),a1.v,(.int .i64 a2)] H Q:=aC hE Tryz.func17 rfl (by kernel_rfl) (RX a0 a1 a2 H Q) h
def Gm(a0:Option Addr)(a1:Sl)(a2:Int)(H:Heap)(Q:Sl×Int×Unit->Heap->Prop):Prop:=
CALL P [vX,(aj .i64)] qG [(.pointer a0),a1.v] H fun(x1:Value×Int×Unit) H1=>
aN (x1.2.1 !=0) (
Q ((Sl.mk none 0 0),x1.2.1,()) H1) (
JOIN (fun(j2:(Bool×Unit)×(Unit)->Heap->Prop)=>
aN (decide (a2<1)) (
j2 ((true,()),(())) H1) (
aN (decide (a2>(a1.len:Int))) (
j2 ((true,()),(())) H1) (
bQ a1.p a1.len (IntKind.wrap .i64 (a2-1)) 11 fun b4 o5=>
LD (aj .u8) H1 b4 (o5+2) fun(x6:Int)=>
j2 ((x6 !=4,()),(())) H1))) fun(y3:(Bool×Unit)×(Unit)) H2=>
aN y3.1.1 (
Q ((Sl.mk none 0 0),6,()) H2) (
JOIN (fun(j7:(Sl×Unit)×(Unit)->Heap->Prop)=>
LOOP (fun(r9:(Sl×Int×Unit)×(Unit)->Heap->Prop) (s10:(Sl×Int×Unit)×(Unit)) H4=>
aN (decide (s10.1.2.1<5)) (
JOIN (fun(j11:(Sl×Unit)×(Unit)->Heap->Prop)=>
YA P [aH,aH] x1.1 [] H4 fun(x13:Sl×Sl×Unit) H6=>
JOIN (fun(j14:(Sl×Unit)×(Unit)->Heap->Prop)=>
LOOP (fun(r16:(Sl×Sl×Int×Unit)×(Unit)->Heap->Prop) (s17:(Sl×Sl×Int×Unit)×(Unit)) H8=>
aN (decide (s17.1.2.2.1<(x13.2.1.len:Int))) (
bQ x13.2.1.p x13.2.1.len s17.1.2.2.1 10 fun b18 o19=>
LD ay H8 b18 o19 fun(x20:aF)=>
CALL P [aH,(aj .i64)] wP [(.pointer a0),a1.v,s17.1.2.1.v,(ay.enc x20)] H8 fun(x21:Sl×Int×Unit) H9=>
CALL P [ah] iq [x21.1.v,(.int .i64 a2)] H9 fun(x22:Bool×Unit) H10=>
JOIN (fun(j23:(Sl×Unit)×(Unit)->Heap->Prop)=>
aN x22.1 (
vk aH (lenV s17.1.1.v+1) (dR E [37,37] s17.1.1.v 1 (ay.cells x20) H10) fun(x25:Sl) H12=>
j23 ((x25,()),(())) H12) (
j23 ((s17.1.1,()),(())) H10)) fun(y24:(Sl×Unit)×(Unit)) H11=>
CALL P [aH,(aj .i64)] wQ [(.pointer a0),a1.v,s17.1.2.1.v,(ay.enc x20)] H11 fun(x26:Sl×Int×Unit) H13=>
r16 ((y24.1.1,x26.1,IntKind.wrap .i64 (s17.1.2.2.1+1),()),(())) H13) (
j14 ((s17.1.1,()),(())) H8)) ((s10.1.1,x13.1,0,()),(())) H6) fun(y15:(Sl×Unit)×(Unit)) H7=>
j11 ((y15.1.1,()),(())) H7) fun(y12:(Sl×Unit)×(Unit)) H5=>
r9 ((y12.1.1,IntKind.wrap .i64 (s10.1.2.1+1),()),(())) H5) (
j7 ((s10.1.1,()),(())) H4)) (((Sl.mk none 0 0),0,()),(())) H2) fun(y8:(Sl×Unit)×(Unit)) H3=>
Q (y8.1.1,0,()) H3))
def aaW:dw:=(.seq .leaf (.seq .leaf (.seq .leaf (.seq (.seq (.reg ⟨[(42,ah)],[],(rg 26 16 [])⟩) .leaf) (.seq .leaf (.seq (.seq .leaf (.blk (some ⟨[(10,aH)],[],(rg 11 2 (rg 14 3 (rg 43 38 [])))⟩) (.loop ⟨[(10,aH),(43,(aj .i64))],[],(rg 11 2 (rg 14 3 (rg 44 37 [])))⟩ (.seq .leaf (.seq .leaf (.seq (.blk (some ⟨[(10,aH)],[],(rg 11 2 (rg 14 3 (rg 45 35 [])))⟩) (.seq .leaf (.seq .leaf (.blk (some ⟨[(10,aH)],[],(rg 11 1 (rg 14 3 (rg 52 28 [])))⟩) (.loop ⟨[(10,aH),(11,aH),(52,(aj .i64))],[],(rg 14 3 (rg 53 27 []))⟩ (.seq .leaf (.seq .leaf (.seq (.blk none (.seq .leaf (.seq .leaf (.seq (.seq .leaf (.cond (some ⟨[(10,aH)],[],[67,68,69,70]⟩) .leaf .leaf)) .leaf)))) .leaf)))))))) .leaf)))))) .leaf))))))
theorem aaX(a0:Option Addr)(a1:Sl)(a2:Int)(H:Heap)(Q:Sl×Int×Unit->Heap->Prop):Gm a0 a1 a2 H Q=dN C [14,69] Tryz.f18.ntmps Tryz.f18.results.toList [aH,(aj .i64)] (aP Tryz.f18) aaW [(.pointer a0),a1.v,(.int .i64 a2)] H Q:=by kernel_rfl
theorem aaY{a0:Option Addr}{a1:Sl}{a2:Int}{H:Heap}{Q:Sl×Int×Unit->Heap->Prop}(h:Gm a0 a1 a2 H Q):CALL P [aH,(aj .i64)] zJ [(.pointer a0),a1.v,(.int .i64 a2)] H Q:=aC hE Tryz.func18 rfl (by kernel_rfl) (aaX a0 a1 a2 H Q) h
def oZ(a0:Sl)(a1:Sl)(H:Heap)(Q:Bool×Unit->Heap->Prop):Prop:=
CALL P [aH] oN [a1.v] H fun(x1:Sl×Unit) H1=>
vk aH (lenV x1.1.v+2) (dR E [26,26] x1.1.v 2 [(.int .i64 (-77)),(.int .i64 0),(.int .u8 0),(.int .i64 0),(.int .i64 0),(.int .i64 0),(.int .i64 0),(.int .i64 0),(.int .i64 0),(.int .i64 0),(.bool false),(.int .i64 (-77)),(.int .i64 0),(.int .u8 0),(.int .i64 0),(.int .i64 0),(.int .i64 0),(.int .i64 0),(.int .i64 0),(.int .i64 0),(.int .i64 0),(.bool false)] H1) fun(x2:Sl) H2=>
CALL P [ah] oU [a0.v,x2.v] H2 fun(x3:Bool×Unit) H3=>
Q (x3.1,()) H3
def JX:dw:=.leaf
theorem JY(a0:Sl)(a1:Sl)(H:Heap)(Q:Bool×Unit->Heap->Prop):oZ a0 a1 H Q=dN C [10] Tryz.f19.ntmps Tryz.f19.results.toList [ah] (aP Tryz.f19) JX [a0.v,a1.v] H Q:=by kernel_rfl
theorem JZ{a0:Sl}{a1:Sl}{H:Heap}{Q:Bool×Unit->Heap->Prop}(h:oZ a0 a1 H Q):CALL P [ah] oL [a0.v,a1.v] H Q:=aC hE Tryz.func19 rfl (by kernel_rfl) (JY a0 a1 H Q) h
def pq(a0:Sl)(H:Heap)(Q:Unit->Heap->Prop):Prop:=
JOIN (fun(j1:(Unit)×(Unit)->Heap->Prop)=>
LOOP (fun(r3:(Int×Unit)×(Unit)->Heap->Prop) (s4:(Int×Unit)×(Unit)) H2=>
aN (decide (s4.1.1<(a0.len:Int))) (
bQ a0.p a0.len s4.1.1 11 fun b5 o6=>
ST H2 b5 o6 [(.int .i64 (-99)),(.int .i64 0),(.int .u8 0),(.int .i64 0),(.int .i64 0),(.int .i64 0),(.int .i64 0),(.int .i64 0),(.int .i64 0),(.int .i64 0),(.bool false)] fun H3=>
r3 ((IntKind.wrap .i64 (s4.1.1+1),()),(())) H3) (
j1 ((()),(())) H2)) ((0,()),(())) H) fun(y2:(Unit)×(Unit)) H1=>
Q (()) H1
def J3:dw:=(.seq .leaf (.blk (some ⟨[],[],(rg 2 11 [])⟩) (.loop ⟨[(2,(aj .i64))],[],(rg 3 10 [])⟩ .leaf)))
theorem J4(a0:Sl)(H:Heap)(Q:Unit->Heap->Prop):pq a0 H Q=dN C [] Tryz.f20.ntmps Tryz.f20.results.toList [] (aP Tryz.f20) J3 [a0.v] H Q:=by kernel_rfl
theorem J5{a0:Sl}{H:Heap}{Q:Unit->Heap->Prop}(h:pq a0 H Q):CALL P [] oM [a0.v] H Q:=aC hE Tryz.func20 rfl (by kernel_rfl) (J4 a0 H Q) h
def Gn(a0:Option Addr)(a1:Sl)(H:Heap)(Q:Sl×Int×Unit->Heap->Prop):Prop:=
CALL P [aH,(aj .i64)] jY [(.pointer a0),a1.v,(.int .i64 6)] H fun(x1:Sl×Int×Unit) H1=>
Q (x1.1,x1.2.1,()) H1
def aaZ:dw:=.leaf
theorem aa0(a0:Option Addr)(a1:Sl)(H:Heap)(Q:Sl×Int×Unit->Heap->Prop):Gn a0 a1 H Q=dN C [] Tryz.f21.ntmps Tryz.f21.results.toList [aH,(aj .i64)] (aP Tryz.f21) aaZ [(.pointer a0),a1.v] H Q:=by kernel_rfl
theorem aa1{a0:Option Addr}{a1:Sl}{H:Heap}{Q:Sl×Int×Unit->Heap->Prop}(h:Gn a0 a1 H Q):CALL P [aH,(aj .i64)] Gf [(.pointer a0),a1.v] H Q:=aC hE Tryz.func21 rfl (by kernel_rfl) (aa0 a0 a1 H Q) h
def uo(a0:Option Addr)(a1:Sl)(a2:Int)(H:Heap)(Q:Sl×Int×Unit->Heap->Prop):Prop:=
CALL P [aH,(aj .i64)] ql [(.pointer a0),a1.v] H fun(x1:Sl×Int×Unit) H1=>
aN (x1.2.1 !=0) (
Q ((Sl.mk none 0 0),x1.2.1,()) H1) (
JOIN (fun(j2:(Bool×Unit)×(Unit)->Heap->Prop)=>
aN (decide (a2<0)) (
j2 ((true,()),(())) H1) (
j2 ((decide (a2>6),()),(())) H1)) fun(y3:(Bool×Unit)×(Unit)) H2=>
aN y3.1.1 (
Q ((Sl.mk none 0 0),2,()) H2) (
JOIN (fun(j4:(Sl×Unit)×(Unit)->Heap->Prop)=>
LOOP (fun(r6:(Sl×Int×Unit)×(Unit)->Heap->Prop) (s7:(Sl×Int×Unit)×(Unit)) H4=>
JOIN (fun(j8:(Bool×Unit)×(Unit)->Heap->Prop)=>
aN (decide (s7.1.2.1≤a2)) (
j8 ((decide (s7.1.2.1≤5),()),(())) H4) (
j8 ((false,()),(())) H4)) fun(y9:(Bool×Unit)×(Unit)) H5=>
aN y9.1.1 (
CALL P [aH,aH,(aj .i64)] wo [(.pointer a0),a1.v,s7.1.1.v,(.int .i64 s7.1.2.1)] H5 fun(x10:Sl×Sl×Int×Unit) H6=>
r6 ((x10.1,IntKind.wrap .i64 (s7.1.2.1+1),()),(())) H6) (
j4 ((s7.1.1,()),(())) H5)) ((x1.1,1,()),(())) H2) fun(y5:(Sl×Unit)×(Unit)) H3=>
JOIN (fun(j11:(Sl×Unit)×(Unit)->Heap->Prop)=>
aN (a2==6) (
CALL P [aH] tN [(.pointer a0),a1.v,y5.1.1.v] H3 fun(x13:Sl×Unit) H8=>
j11 ((x13.1,()),(())) H8) (
j11 ((y5.1.1,()),(())) H3)) fun(y12:(Sl×Unit)×(Unit)) H7=>
Q (y12.1.1,0,()) H7))
def PD:dw:=(.seq .leaf (.seq .leaf (.seq .leaf (.seq (.seq (.reg ⟨[(25,ah)],[],(rg 20 5 [])⟩) .leaf) (.seq (.seq .leaf (.blk (some ⟨[(8,aH)],[],(rg 10 1 (rg 26 18 []))⟩) (.loop ⟨[(8,aH),(10,(aj .i64))],[],(rg 26 18 [])⟩ (.seq (.seq (.reg ⟨[(32,ah)],[],(rg 26 6 [])⟩) .leaf) .leaf)))) (.seq (.seq .leaf (.cond (some ⟨[(8,aH)],[],[46,47,48,49]⟩) .leaf .leaf)) .leaf))))))
theorem PE(a0:Option Addr)(a1:Sl)(a2:Int)(H:Heap)(Q:Sl×Int×Unit->Heap->Prop):uo a0 a1 a2 H Q=dN C [] Tryz.f22.ntmps Tryz.f22.results.toList [aH,(aj .i64)] (aP Tryz.f22) PD [(.pointer a0),a1.v,(.int .i64 a2)] H Q:=by kernel_rfl
theorem PG{a0:Option Addr}{a1:Sl}{a2:Int}{H:Heap}{Q:Sl×Int×Unit->Heap->Prop}(h:uo a0 a1 a2 H Q):CALL P [aH,(aj .i64)] jY [(.pointer a0),a1.v,(.int .i64 a2)] H Q:=aC hE Tryz.func22 rfl (by kernel_rfl) (PE a0 a1 a2 H Q) h
def xE(a0:Option Addr)(a1:Sl)(H:Heap)(Q:Sl×Int×Unit->Heap->Prop):Prop:=
CALL P [aH,(aj .i64)] qm [(.pointer a0),a1.v] H fun(x1:Sl×Int×Unit) H1=>
JOIN (fun(j2:(Sl×Unit)×(Unit)->Heap->Prop)=>
LOOP (fun(r4:(Sl×Int×Unit)×(Unit)->Heap->Prop) (s5:(Sl×Int×Unit)×(Unit)) H3=>
aN (decide (s5.1.2.1<(x1.1.len:Int))) (
bQ x1.1.p x1.1.len s5.1.2.1 11 fun b6 o7=>
LD ay H3 b6 (o7+0) fun(x8:aF)=>
vk aH (lenV s5.1.1.v+1) (dR E [37,37] s5.1.1.v 1 (ay.cells x8) H3) fun(x9:Sl) H4=>
r4 ((x9,IntKind.wrap .i64 (s5.1.2.1+1),()),(())) H4) (
j2 ((s5.1.1,()),(())) H3)) (((Sl.mk none 0 0),0,()),(())) H1) fun(y3:(Sl×Unit)×(Unit)) H2=>
Q (y3.1.1,x1.2.1,()) H2
def RZ:dw:=(.seq .leaf (.seq .leaf (.seq .leaf (.seq (.seq .leaf (.blk (some ⟨[(8,aH)],[],(rg 9 1 (rg 16 14 []))⟩) (.loop ⟨[(8,aH),(9,(aj .i64))],[],(rg 16 14 [])⟩ .leaf))) .leaf))))
theorem Si(a0:Option Addr)(a1:Sl)(H:Heap)(Q:Sl×Int×Unit->Heap->Prop):xE a0 a1 H Q=dN C [28] Tryz.f23.ntmps Tryz.f23.results.toList [aH,(aj .i64)] (aP Tryz.f23) RZ [(.pointer a0),a1.v] H Q:=by kernel_rfl
theorem Sj{a0:Option Addr}{a1:Sl}{H:Heap}{Q:Sl×Int×Unit->Heap->Prop}(h:xE a0 a1 H Q):CALL P [aH,(aj .i64)] qj [(.pointer a0),a1.v] H Q:=aC hE Tryz.func23 rfl (by kernel_rfl) (Si a0 a1 H Q) h
def Dh(a0:Option Addr)(a1:Sl)(a2:Int)(H:Heap)(Q:Sl×Int×Unit->Heap->Prop):Prop:=
CALL P [aH,(aj .i64)] qm [(.pointer a0),a1.v] H fun(x1:Sl×Int×Unit) H1=>
aN (x1.2.1 !=0) (
Q ((Sl.mk none 0 0),x1.2.1,()) H1) (
JOIN (fun(j2:(Bool×Unit)×(Unit)->Heap->Prop)=>
aN (decide (a2<1)) (
j2 ((true,()),(())) H1) (
aN (decide (a2>(a1.len:Int))) (
j2 ((true,()),(())) H1) (
bQ a1.p a1.len (IntKind.wrap .i64 (a2-1)) 11 fun b4 o5=>
LD (aj .u8) H1 b4 (o5+2) fun(x6:Int)=>
j2 ((x6 !=4,()),(())) H1))) fun(y3:(Bool×Unit)×(Unit)) H2=>
aN y3.1.1 (
Q ((Sl.mk none 0 0),6,()) H2) (
JOIN (fun(j7:(Sl×Unit)×(Unit)->Heap->Prop)=>
LOOP (fun(r9:(Sl×Int×Unit)×(Unit)->Heap->Prop) (s10:(Sl×Int×Unit)×(Unit)) H4=>
aN (decide (s10.1.2.1<(x1.1.len:Int))) (
JOIN (fun(j11:(Sl×Unit)×(Unit)->Heap->Prop)=>
JOIN (fun(j13:(Sl×Unit)×(Unit)->Heap->Prop)=>
LOOP (fun(r15:(Sl×Int×Unit)×(Unit)->Heap->Prop) (s16:(Sl×Int×Unit)×(Unit)) H7=>
bQ x1.1.p x1.1.len s10.1.2.1 11 fun b17 o18=>
LD aH H7 b17 (o18+10) fun(x19:Sl)=>
aN (decide (s16.1.2.1<(x19.len:Int))) (
bQ x1.1.p x1.1.len s10.1.2.1 11 fun b20 o21=>
LD aH H7 b20 (o21+10) fun(x22:Sl)=>
bQ x22.p x22.len s16.1.2.1 1 fun b23 o24=>
LD (aj .i64) H7 b23 o24 fun(x25:Int)=>
aN (x25==a2) (
bQ x1.1.p x1.1.len s10.1.2.1 11 fun b26 o27=>
LD ay H7 b26 (o27+0) fun(x28:aF)=>
vk aH (lenV s16.1.1.v+1) (dR E [37,37] s16.1.1.v 1 (ay.cells x28) H7) fun(x29:Sl) H8=>
j13 ((x29,()),(())) H8) (
r15 ((s16.1.1,IntKind.wrap .i64 (s16.1.2.1+1),()),(())) H7)) (
j13 ((s16.1.1,()),(())) H7)) ((s10.1.1,0,()),(())) H4) fun(y14:(Sl×Unit)×(Unit)) H6=>
j11 ((y14.1.1,()),(())) H6) fun(y12:(Sl×Unit)×(Unit)) H5=>
r9 ((y12.1.1,IntKind.wrap .i64 (s10.1.2.1+1),()),(())) H5) (
j7 ((s10.1.1,()),(())) H4)) (((Sl.mk none 0 0),0,()),(())) H2) fun(y8:(Sl×Unit)×(Unit)) H3=>
Q (y8.1.1,0,()) H3))
def Y3:dw:=(.seq .leaf (.seq .leaf (.seq .leaf (.seq (.seq (.reg ⟨[(38,ah)],[],(rg 22 16 [])⟩) .leaf) (.seq .leaf (.seq (.seq .leaf (.blk (some ⟨[(10,aH)],[],(rg 11 2 (rg 39 34 []))⟩) (.loop ⟨[(10,aH),(11,(aj .i64))],[],(rg 12 1 (rg 39 34 []))⟩ (.seq .leaf (.seq (.blk (some ⟨[(10,aH)],[],(rg 12 1 (rg 45 28 []))⟩) (.seq .leaf (.blk (some ⟨[(10,aH)],[],(rg 12 1 (rg 45 28 []))⟩) (.loop ⟨[(10,aH),(12,(aj .i64))],[],(rg 45 28 [])⟩ .leaf)))) .leaf))))) .leaf))))))
theorem Y4(a0:Option Addr)(a1:Sl)(a2:Int)(H:Heap)(Q:Sl×Int×Unit->Heap->Prop):Dh a0 a1 a2 H Q=dN C [71] Tryz.f24.ntmps Tryz.f24.results.toList [aH,(aj .i64)] (aP Tryz.f24) Y3 [(.pointer a0),a1.v,(.int .i64 a2)] H Q:=by kernel_rfl
theorem Y5{a0:Option Addr}{a1:Sl}{a2:Int}{H:Heap}{Q:Sl×Int×Unit->Heap->Prop}(h:Dh a0 a1 a2 H Q):CALL P [aH,(aj .i64)] vZ [(.pointer a0),a1.v,(.int .i64 a2)] H Q:=aC hE Tryz.func24 rfl (by kernel_rfl) (Y4 a0 a1 a2 H Q) h
def lg(a0:Sl)(H:Heap)(Q:Bool×Unit->Heap->Prop):Prop:=
JOIN (fun(j1:(Sl×Unit)×(Unit)->Heap->Prop)=>
LOOP (fun(r3:(Sl×Int×Unit)×(Unit)->Heap->Prop) (s4:(Sl×Int×Unit)×(Unit)) H2=>
aN (decide (s4.1.2.1<(a0.len:Int))) (
bQ a0.p a0.len s4.1.2.1 1 fun b5 o6=>
LD aH H2 b5 o6 fun(x7:Sl)=>
bQ a0.p a0.len s4.1.2.1 1 fun b8 o9=>
LD aH H2 b8 o9 fun(x10:Sl)=>
dW (aj .i64) (Mc E 30 x10.v H2) fun(x11:Int)=>
LD aH H2 b5 o6 fun(x12:Sl)=>
qB (aH.enc x12=x7.v) (
dW aH (dH E 30 x7.v none (some (.int .i64 x11)) none H2) fun(x13:Sl)=>
vk aH (lenV s4.1.1.v+1) (dR E [76,76] s4.1.1.v 1 [(.slice x13.p x13.len x13.cap)] H2) fun(x14:Sl) H3=>
r3 ((x14,IntKind.wrap .i64 (s4.1.2.1+1),()),(())) H3)) (
j1 ((s4.1.1,()),(())) H2)) (((Sl.mk none 0 0),0,()),(())) H) fun(y2:(Sl×Unit)×(Unit)) H1=>
JOIN (fun(j15:(Unit)×(Unit)->Heap->Prop)=>
LOOP (fun(r17:(Int×Unit)×(Unit)->Heap->Prop) (s18:(Int×Unit)×(Unit)) H5=>
aN (decide (s18.1.1<(y2.1.1.len:Int))) (
JOIN (fun(j19:(Unit)×(Unit)->Heap->Prop)=>
JOIN (fun(j21:(Unit)×(Unit)->Heap->Prop)=>
LOOP (fun(r23:(Int×Unit)×(Unit)->Heap->Prop) (s24:(Int×Unit)×(Unit)) H8=>
bQ y2.1.1.p y2.1.1.len s18.1.1 1 fun b25 o26=>
LD aH H8 b25 o26 fun(x27:Sl)=>
aN (decide (s24.1.1<(x27.len:Int))) (
bQ y2.1.1.p y2.1.1.len s18.1.1 1 fun b28 o29=>
LD aH H8 b28 o29 fun(x30:Sl)=>
CALL P [aI] fM [(.int .i64 s18.1.1),(.int .i64 s24.1.1)] H8 fun(x31:aB×Unit) H9=>
LD aH H9 b28 o29 fun(x32:Sl)=>
qB (aH.enc x32=x30.v) (
bQ x30.p x30.len s24.1.1 5 fun b33 o34=>
ST H9 b33 o34 (aI.cells x31.1) fun H10=>
r23 ((IntKind.wrap .i64 (s24.1.1+1),()),(())) H10)) (
j21 ((()),(())) H8)) ((0,()),(())) H5) fun(y22:(Unit)×(Unit)) H7=>
j19 ((()),(())) H7) fun(y20:(Unit)×(Unit)) H6=>
r17 ((IntKind.wrap .i64 (s18.1.1+1),()),(())) H6) (
j15 ((()),(())) H5)) ((0,()),(())) H1) fun(y16:(Unit)×(Unit)) H4=>
JOIN (fun(j35:(Unit)×(Unit)->Heap->Prop)=>
LOOP (fun(r37:(Int×Unit)×(Unit)->Heap->Prop) (s38:(Int×Unit)×(Unit)) H12=>
aN (decide (s38.1.1<(y2.1.1.len:Int))) (
JOIN (fun(j39:(Unit)×(Unit)->Heap->Prop)=>
JOIN (fun(j41:(Unit)×(Unit)->Heap->Prop)=>
LOOP (fun(r43:(Int×Unit)×(Unit)->Heap->Prop) (s44:(Int×Unit)×(Unit)) H15=>
bQ y2.1.1.p y2.1.1.len s38.1.1 1 fun b45 o46=>
LD aH H15 b45 o46 fun(x47:Sl)=>
aN (decide (s44.1.1<(x47.len:Int))) (
bQ y2.1.1.p y2.1.1.len s38.1.1 1 fun b48 o49=>
LD aH H15 b48 o49 fun(x50:Sl)=>
bQ x50.p x50.len s44.1.1 5 fun b51 o52=>
LD aI H15 b51 o52 fun(x53:aB)=>
CALL P [aI] fM [(.int .i64 s38.1.1),(.int .i64 s44.1.1)] H15 fun(x54:aB×Unit) H16=>
LD aH H16 b48 o49 fun(x55:Sl)=>
qB (aH.enc x55=x50.v) (
LD aI H16 b51 o52 fun(x56:aB)=>
qB (aI.enc x56=(aI.enc x53)) (
aN (!((x53.Holder==x54.1.Holder)&&((x53.Suit==x54.1.Suit)&&((x53.Traits==x54.1.Traits)&&((x53.Power==x54.1.Power)&&((x53.Health==x54.1.Health)&&true)))))) (
Q (false,()) H16) (
r43 ((IntKind.wrap .i64 (s44.1.1+1),()),(())) H16)))) (
j41 ((()),(())) H15)) ((0,()),(())) H12) fun(y42:(Unit)×(Unit)) H14=>
j39 ((()),(())) H14) fun(y40:(Unit)×(Unit)) H13=>
r37 ((IntKind.wrap .i64 (s38.1.1+1),()),(())) H13) (
j35 ((()),(())) H12)) ((0,()),(())) H4) fun(y36:(Unit)×(Unit)) H11=>
Q (true,()) H11
def Ey:dw:=(.seq .leaf (.seq .leaf (.seq (.seq .leaf (.blk (some ⟨[(3,aH)],[],(rg 4 1 (rg 9 19 []))⟩) (.loop ⟨[(3,aH),(4,(aj .i64))],[],(rg 9 19 [])⟩ .leaf))) (.seq (.seq .leaf (.blk (some ⟨[],[],(rg 5 2 (rg 28 24 []))⟩) (.loop ⟨[(5,(aj .i64))],[],(rg 6 1 (rg 28 24 []))⟩ (.seq .leaf (.seq (.blk (some ⟨[],[],(rg 6 1 (rg 34 18 []))⟩) (.seq .leaf (.blk (some ⟨[],[],(rg 6 1 (rg 34 18 []))⟩) (.loop ⟨[(6,(aj .i64))],[],(rg 34 18 [])⟩ .leaf)))) .leaf))))) (.seq (.seq .leaf (.blk (some ⟨[],[],(rg 2 1 (rg 7 2 (rg 52 26 [])))⟩) (.loop ⟨[(7,(aj .i64))],[],(rg 2 1 (rg 8 1 (rg 52 26 [])))⟩ (.seq .leaf (.seq (.blk (some ⟨[],[],(rg 2 1 (rg 8 1 (rg 58 20 [])))⟩) (.seq .leaf (.blk (some ⟨[],[],(rg 2 1 (rg 8 1 (rg 58 20 [])))⟩) (.loop ⟨[(8,(aj .i64))],[],(rg 2 1 (rg 58 20 []))⟩ .leaf)))) .leaf))))) .leaf)))))
theorem Ez(a0:Sl)(H:Heap)(Q:Bool×Unit->Heap->Prop):lg a0 H Q=dN C [26] Tryz.f25.ntmps Tryz.f25.results.toList [ah] (aP Tryz.f25) Ey [a0.v] H Q:=by kernel_rfl
theorem EC{a0:Sl}{H:Heap}{Q:Bool×Unit->Heap->Prop}(h:lg a0 H Q):CALL P [ah] kU [a0.v] H Q:=aC hE Tryz.func25 rfl (by kernel_rfl) (Ez a0 H Q) h
def kF(a0:Sl)(H:Heap)(Q:Bool×Unit->Heap->Prop):Prop:=
JOIN (fun(j1:(Sl×Unit)×(Unit)->Heap->Prop)=>
LOOP (fun(r3:(Sl×Int×Unit)×(Unit)->Heap->Prop) (s4:(Sl×Int×Unit)×(Unit)) H2=>
aN (decide (s4.1.2.1<(a0.len:Int))) (
bQ a0.p a0.len s4.1.2.1 1 fun b5 o6=>
LD aH H2 b5 o6 fun(x7:Sl)=>
bQ a0.p a0.len s4.1.2.1 1 fun b8 o9=>
LD aH H2 b8 o9 fun(x10:Sl)=>
dW (aj .i64) (Mc E 37 x10.v H2) fun(x11:Int)=>
LD aH H2 b5 o6 fun(x12:Sl)=>
qB (aH.enc x12=x7.v) (
dW aH (dH E 37 x7.v none (some (.int .i64 x11)) none H2) fun(x13:Sl)=>
vk aH (lenV s4.1.1.v+1) (dR E [78,78] s4.1.1.v 1 [(.slice x13.p x13.len x13.cap)] H2) fun(x14:Sl) H3=>
r3 ((x14,IntKind.wrap .i64 (s4.1.2.1+1),()),(())) H3)) (
j1 ((s4.1.1,()),(())) H2)) (((Sl.mk none 0 0),0,()),(())) H) fun(y2:(Sl×Unit)×(Unit)) H1=>
JOIN (fun(j15:(Unit)×(Unit)->Heap->Prop)=>
LOOP (fun(r17:(Int×Unit)×(Unit)->Heap->Prop) (s18:(Int×Unit)×(Unit)) H5=>
aN (decide (s18.1.1<(y2.1.1.len:Int))) (
JOIN (fun(j19:(Unit)×(Unit)->Heap->Prop)=>
JOIN (fun(j21:(Unit)×(Unit)->Heap->Prop)=>
LOOP (fun(r23:(Int×Unit)×(Unit)->Heap->Prop) (s24:(Int×Unit)×(Unit)) H8=>
bQ y2.1.1.p y2.1.1.len s18.1.1 1 fun b25 o26=>
LD aH H8 b25 o26 fun(x27:Sl)=>
aN (decide (s24.1.1<(x27.len:Int))) (
bQ y2.1.1.p y2.1.1.len s18.1.1 1 fun b28 o29=>
LD aH H8 b28 o29 fun(x30:Sl)=>
CALL P [ay] fD [(.int .i64 s18.1.1),(.int .i64 s24.1.1)] H8 fun(x31:aF×Unit) H9=>
LD aH H9 b28 o29 fun(x32:Sl)=>
qB (aH.enc x32=x30.v) (
bQ x30.p x30.len s24.1.1 10 fun b33 o34=>
ST H9 b33 o34 (ay.cells x31.1) fun H10=>
r23 ((IntKind.wrap .i64 (s24.1.1+1),()),(())) H10)) (
j21 ((()),(())) H8)) ((0,()),(())) H5) fun(y22:(Unit)×(Unit)) H7=>
j19 ((()),(())) H7) fun(y20:(Unit)×(Unit)) H6=>
r17 ((IntKind.wrap .i64 (s18.1.1+1),()),(())) H6) (
j15 ((()),(())) H5)) ((0,()),(())) H1) fun(y16:(Unit)×(Unit)) H4=>
JOIN (fun(j35:(Unit)×(Unit)->Heap->Prop)=>
LOOP (fun(r37:(Int×Unit)×(Unit)->Heap->Prop) (s38:(Int×Unit)×(Unit)) H12=>
aN (decide (s38.1.1<(y2.1.1.len:Int))) (
JOIN (fun(j39:(Unit)×(Unit)->Heap->Prop)=>
JOIN (fun(j41:(Unit)×(Unit)->Heap->Prop)=>
LOOP (fun(r43:(Int×Unit)×(Unit)->Heap->Prop) (s44:(Int×Unit)×(Unit)) H15=>
bQ y2.1.1.p y2.1.1.len s38.1.1 1 fun b45 o46=>
LD aH H15 b45 o46 fun(x47:Sl)=>
aN (decide (s44.1.1<(x47.len:Int))) (
bQ y2.1.1.p y2.1.1.len s38.1.1 1 fun b48 o49=>
LD aH H15 b48 o49 fun(x50:Sl)=>
bQ x50.p x50.len s44.1.1 10 fun b51 o52=>
LD ay H15 b51 o52 fun(x53:aF)=>
CALL P [ay] fD [(.int .i64 s38.1.1),(.int .i64 s44.1.1)] H15 fun(x54:aF×Unit) H16=>
LD aH H16 b48 o49 fun(x55:Sl)=>
qB (aH.enc x55=x50.v) (
LD ay H16 b51 o52 fun(x56:aF)=>
qB (ay.enc x56=(ay.enc x53)) (
aN (!((x53.Thing==x54.1.Thing)&&((x53.Place==x54.1.Place)&&(((x53.What.When==x54.1.What.When)&&((x53.What.Verb==x54.1.What.Verb)&&((x53.What.Whom==x54.1.What.Whom)&&((x53.What.Count==x54.1.What.Count)&&((x53.What.Suit==x54.1.What.Suit)&&((x53.What.Trait==x54.1.What.Trait)&&((x53.What.Mark==x54.1.What.Mark)&&((x53.What.Name.toList==x54.1.What.Name.toList)&&true))))))))&&true)))) (
Q (false,()) H16) (
r43 ((IntKind.wrap .i64 (s44.1.1+1),()),(())) H16)))) (
j41 ((()),(())) H15)) ((0,()),(())) H12) fun(y42:(Unit)×(Unit)) H14=>
j39 ((()),(())) H14) fun(y40:(Unit)×(Unit)) H13=>
r37 ((IntKind.wrap .i64 (s38.1.1+1),()),(())) H13) (
j35 ((()),(())) H12)) ((0,()),(())) H4) fun(y36:(Unit)×(Unit)) H11=>
Q (true,()) H11
def Di:dw:=(.seq .leaf (.seq .leaf (.seq (.seq .leaf (.blk (some ⟨[(3,aH)],[],(rg 4 1 (rg 9 19 []))⟩) (.loop ⟨[(3,aH),(4,(aj .i64))],[],(rg 9 19 [])⟩ .leaf))) (.seq (.seq .leaf (.blk (some ⟨[],[],(rg 5 2 (rg 28 24 []))⟩) (.loop ⟨[(5,(aj .i64))],[],(rg 6 1 (rg 28 24 []))⟩ (.seq .leaf (.seq (.blk (some ⟨[],[],(rg 6 1 (rg 34 18 []))⟩) (.seq .leaf (.blk (some ⟨[],[],(rg 6 1 (rg 34 18 []))⟩) (.loop ⟨[(6,(aj .i64))],[],(rg 34 18 [])⟩ .leaf)))) .leaf))))) (.seq (.seq .leaf (.blk (some ⟨[],[],(rg 2 1 (rg 7 2 (rg 52 26 [])))⟩) (.loop ⟨[(7,(aj .i64))],[],(rg 2 1 (rg 8 1 (rg 52 26 [])))⟩ (.seq .leaf (.seq (.blk (some ⟨[],[],(rg 2 1 (rg 8 1 (rg 58 20 [])))⟩) (.seq .leaf (.blk (some ⟨[],[],(rg 2 1 (rg 8 1 (rg 58 20 [])))⟩) (.loop ⟨[(8,(aj .i64))],[],(rg 2 1 (rg 58 20 []))⟩ .leaf)))) .leaf))))) .leaf)))))
theorem Dj(a0:Sl)(H:Heap)(Q:Bool×Unit->Heap->Prop):kF a0 H Q=dN C [26] Tryz.f26.ntmps Tryz.f26.results.toList [ah] (aP Tryz.f26) Di [a0.v] H Q:=by kernel_rfl
theorem Dk{a0:Sl}{H:Heap}{Q:Bool×Unit->Heap->Prop}(h:kF a0 H Q):CALL P [ah] jZ [a0.v] H Q:=aC hE Tryz.func26 rfl (by kernel_rfl) (Dj a0 H Q) h
def rE(a0:Option Addr)(a1:bf)(H:Heap)(Q:aB×Int×Unit->Heap->Prop):Prop:=
CALL P [aG,(aj .i64)] sN [(.pointer a0),(aV.enc a1)] H fun(x1:aA×Int×Unit) H1=>
aN (x1.2.1 !=0) (
Q ((aB.mk 0 0 0 0 0),x1.2.1,()) H1) (
JOIN (fun(j2:(Bool×Unit)×(Unit)->Heap->Prop)=>
aN (a1.Owner !=0) (
j2 ((a1.Owner !=1,()),(())) H1) (
j2 ((false,()),(())) H1)) fun(y3:(Bool×Unit)×(Unit)) H2=>
aN y3.1.1 (
Q ((aB.mk 0 0 0 0 0),2,()) H2) (
Q ((aB.mk a1.Owner x1.1.Suit x1.1.Traits x1.1.Power x1.1.Health),0,()) H2))
def MC:dw:=(.seq .leaf (.seq .leaf (.seq (.blk none (.seq .leaf (.cond none .leaf (.seq (.reg ⟨[(19,ah)],[],(rg 20 8 [])⟩) .leaf)))) .leaf)))
theorem MF(a0:Option Addr)(a1:bf)(H:Heap)(Q:aB×Int×Unit->Heap->Prop):rE a0 a1 H Q=dN C [3,4,6] Tryz.f30.ntmps Tryz.f30.results.toList [aI,(aj .i64)] (aP Tryz.f30) MC [(.pointer a0),(aV.enc a1)] H Q:=by kernel_rfl
theorem MG{a0:Option Addr}{a1:bf}{H:Heap}{Q:aB×Int×Unit->Heap->Prop}(h:rE a0 a1 H Q):CALL P [aI,(aj .i64)] qO [(.pointer a0),(aV.enc a1)] H Q:=aC hE Tryz.func30 rfl (by kernel_rfl) (MF a0 a1 H Q) h
def uq(a0:Option Addr)(a1:aB)(a2:Int×Int×Int×Int)(H:Heap)(Q:aB×Int×Unit->Heap->Prop):Prop:=
CALL P [(aj .i64),(aj .i64)] kQ [(.pointer a0),(.string (ByteArray.mk #[]))] H fun(x1:Int×Int×Unit) H1=>
aN (x1.2.1==1) (
Q ((aB.mk 0 0 0 0 0),x1.2.1,()) H1) (
JOIN (fun(j2:(Unit)×(aB×Unit)->Heap->Prop)=>
LOOP (fun(r4:(Int×Unit)×(aB×Unit)->Heap->Prop) (s5:(Int×Unit)×(aB×Unit)) H3=>
aN (decide (s5.1.1<4)) (
dW (aj .i64) (dZ E 44 (.agg #[(.int .i64 a2.1),(.int .i64 a2.2.1),(.int .i64 a2.2.2.1),(.int .i64 a2.2.2.2)]) (.int .i64 s5.1.1)) fun(x6:Int)=>
JOIN (fun(j7:(Bool×Unit)×(Unit)->Heap->Prop)=>
aN (decide (x6<0)) (
j7 ((true,()),(())) H3) (
j7 ((decide (x6>99),()),(())) H3)) fun(y8:(Bool×Unit)×(Unit)) H4=>
aN y8.1.1 (
Q ((aB.mk 0 0 0 0 0),2,()) H4) (
r4 ((IntKind.wrap .i64 (s5.1.1+1),()),(s5.2.1,())) H4)) (
j2 ((()),(s5.2.1,())) H3)) ((0,()),((aB.mk 0 0 0 0 0),())) H1) fun(y3:(Unit)×(aB×Unit)) H2=>
JOIN (fun(j9:(Unit)×(aB×Unit)->Heap->Prop)=>
LOOP (fun(r11:(Int×Unit)×(aB×Unit)->Heap->Prop) (s12:(Int×Unit)×(aB×Unit)) H6=>
aN (decide (s12.1.1<4)) (
dW (aj .i64) (dZ E 44 (.agg #[(.int .i64 a2.1),(.int .i64 a2.2.1),(.int .i64 a2.2.2.1),(.int .i64 a2.2.2.2)]) (.int .i64 s12.1.1)) fun(x13:Int)=>
CALL P [aT,ah] mD [(.pointer a0),(.int .u8 (IntKind.wrap .u8 (IntKind.wrap .i64 (s12.1.1+1))))] H6 fun(x14:au×Bool×Unit) H7=>
JOIN (fun(j15:(Unit)×(aB×Unit)->Heap->Prop)=>
aN x14.2.1 (
j15 ((()),((aB.mk s12.2.1.Holder s12.2.1.Suit s12.2.1.Traits (IntKind.wrap .i64 (s12.2.1.Power+(IntKind.wrap .i64 (x13*x14.1.Power)))) (IntKind.wrap .i64 (s12.2.1.Health+(IntKind.wrap .i64 (x13*x14.1.Health))))),())) H7) (
j15 ((()),(s12.2.1,())) H7)) fun(y16:(Unit)×(aB×Unit)) H8=>
r11 ((IntKind.wrap .i64 (s12.1.1+1),()),(y16.2.1,())) H8) (
j9 ((()),(s12.2.1,())) H6)) ((0,()),(a1,())) H2) fun(y10:(Unit)×(aB×Unit)) H5=>
Q ((aB.mk y10.2.1.Holder y10.2.1.Suit y10.2.1.Traits (if 0>y10.2.1.Power then 0 else y10.2.1.Power) y10.2.1.Health),0,()) H5)
def PI:dw:=(.seq .leaf (.seq .leaf (.seq (.seq .leaf (.blk (some ⟨[],[(2,aI)],(rg 7 1 (rg 11 1 (rg 26 11 [])))⟩) (.loop ⟨[(26,(aj .i64))],[(2,aI)],(rg 7 1 (rg 11 1 (rg 27 10 [])))⟩ (.seq .leaf (.seq .leaf (.seq (.blk none (.seq .leaf (.seq (.reg ⟨[(34,ah)],[],(rg 29 5 [])⟩) .leaf))) .leaf)))))) (.seq (.seq .leaf (.blk (some ⟨[],[(0,aI)],(rg 12 4 (rg 38 30 []))⟩) (.loop ⟨[(38,(aj .i64))],[(0,aI)],(rg 12 4 (rg 39 29 []))⟩ (.seq .leaf (.seq .leaf (.seq (.blk none (.seq .leaf (.seq .leaf (.seq .leaf (.cond (some ⟨[],[(0,aI)],(rg 51 16 [])⟩) .leaf .leaf))))) .leaf)))))) .leaf))))
theorem PK(a0:Option Addr)(a1:aB)(a2:Int×Int×Int×Int)(H:Heap)(Q:aB×Int×Unit->Heap->Prop):uq a0 a1 a2 H Q=dN C [4,5,6,14] Tryz.f31.ntmps Tryz.f31.results.toList [aI,(aj .i64)] (aP Tryz.f31) PI [(.pointer a0),(aI.enc a1),(cO.enc a2)] H Q:=by kernel_rfl
theorem PN{a0:Option Addr}{a1:aB}{a2:Int×Int×Int×Int}{H:Heap}{Q:aB×Int×Unit->Heap->Prop}(h:uq a0 a1 a2 H Q):CALL P [aI,(aj .i64)] tK [(.pointer a0),(aI.enc a1),(cO.enc a2)] H Q:=aC hE Tryz.func31 rfl (by kernel_rfl) (PK a0 a1 a2 H Q) h
def pz(a0:Sl)(H:Heap)(Q:Sl×Unit->Heap->Prop):Prop:=
vk aH (lenV ((Sl.mk none 0 0)).v+(lX a0.v).getD 0) (dF E [26,26] ((Sl.mk none 0 0)).v a0.v H) fun(x1:Sl) H1=>
Q (x1,()) H1
def J6:dw:=.leaf
theorem J7(a0:Sl)(H:Heap)(Q:Sl×Unit->Heap->Prop):pz a0 H Q=dN C [] Tryz.f33.ntmps Tryz.f33.results.toList [aH] (aP Tryz.f33) J6 [a0.v] H Q:=by kernel_rfl
theorem J8{a0:Sl}{H:Heap}{Q:Sl×Unit->Heap->Prop}(h:pz a0 H Q):CALL P [aH] oN [a0.v] H Q:=aC hE Tryz.func33 rfl (by kernel_rfl) (J7 a0 H Q) h
def Dn(a0:Option Addr)(a1:Sl)(H:Heap)(Q:Value×Int×Unit->Heap->Prop):Prop:=
NEW H [(.pointer a0)] 1 fun H1=>
NEW H1 [(.slice a1.p a1.len a1.cap)] 1 fun H2=>
LD fG H2 H.length 0 fun(x1:Option Addr)=>
LD aH H2 H1.length 0 fun(x2:Sl)=>
CALL P [aH,(aj .i64)] tV [(.pointer x1),x2.v] H2 fun(x3:Sl×Int×Unit) H3=>
NEW H3 [(.slice none 0 0)] 1 fun H4=>
ST H4 H3.length 0 [(.slice x3.1.p x3.1.len x3.1.cap)] fun H5=>
NEW H5 [(.int .i64 0)] 1 fun H6=>
ST H6 H5.length 0 [(.int .i64 0)] fun H7=>
Q ((.func (.func jI) #[] #[(.pointer (some ⟨H5.length,0,none⟩)),(.pointer (some ⟨H3.length,0,none⟩)),(.pointer (some ⟨H.length,0,none⟩)),(.pointer (some ⟨H1.length,0,none⟩))]),x3.2.1,()) H7
def Y6:dw:=.leaf
theorem Y7(a0:Option Addr)(a1:Sl)(H:Heap)(Q:Value×Int×Unit->Heap->Prop):Dn a0 a1 H Q=dN C [] Tryz.f34.ntmps Tryz.f34.results.toList [vX,(aj .i64)] (aP Tryz.f34) Y6 [(.pointer a0),a1.v] H Q:=by kernel_rfl
theorem Y8{a0:Option Addr}{a1:Sl}{H:Heap}{Q:Value×Int×Unit->Heap->Prop}(h:Dn a0 a1 H Q):CALL P [vX,(aj .i64)] qG [(.pointer a0),a1.v] H Q:=aC hE Tryz.func34 rfl (by kernel_rfl) (Y7 a0 a1 H Q) h
def Gp(H:Heap)(Q:(Option Addr)×Unit->Heap->Prop):Prop:=
NEW H [(.bool true),(.bool false),(.int .i64 0),(.string (ByteArray.mk #[])),(.int .u8 0),(.int .u8 0),(.int .i64 0),(.int .i64 0),(.int .i64 0),(.int .u16 0),(.bool false),(.slice none 0 0),(.string (ByteArray.mk #[])),(.int .u8 0),(.int .u8 0),(.int .i64 0),(.int .i64 0),(.int .i64 0),(.int .u16 0),(.bool false),(.slice none 0 0),(.string (ByteArray.mk #[])),(.int .u8 0),(.int .u8 0),(.int .i64 0),(.int .i64 0),(.int .i64 0),(.int .u16 0),(.bool false),(.slice none 0 0),(.string (ByteArray.mk #[])),(.int .u8 0),(.int .u8 0),(.int .i64 0),(.int .i64 0),(.int .i64 0),(.int .u16 0),(.bool false),(.slice none 0 0),(.string (ByteArray.mk #[])),(.int .u8 0),(.int .u8 0),(.int .i64 0),(.int .i64 0),(.int .i64 0),(.int .u16 0),(.bool false),(.slice none 0 0),(.string (ByteArray.mk #[])),(.int .u8 0),(.int .u8 0),(.int .i64 0),(.int .i64 0),(.int .i64 0),(.int .u16 0),(.bool false),(.slice none 0 0),(.string (ByteArray.mk #[])),(.int .u8 0),(.int .u8 0),(.int .i64 0),(.int .i64 0),(.int .i64 0),(.int .u16 0),(.bool false),(.slice none 0 0),(.string (ByteArray.mk #[])),(.int .u8 0),(.int .u8 0),(.int .i64 0),(.int .i64 0),(.int .i64 0),(.int .u16 0),(.bool false),(.slice none 0 0),(.string (ByteArray.mk #[])),(.int .u8 0),(.int .u8 0),(.int .i64 0),(.int .i64 0),(.int .i64 0),(.int .u16 0),(.bool false),(.slice none 0 0),(.string (ByteArray.mk #[])),(.int .u8 0),(.int .u8 0),(.int .i64 0),(.int .i64 0),(.int .i64 0),(.int .u16 0),(.bool false),(.slice none 0 0),(.string (ByteArray.mk #[])),(.int .u8 0),(.int .u8 0),(.int .i64 0),(.int .i64 0),(.int .i64 0),(.int .u16 0),(.bool false),(.slice none 0 0),(.string (ByteArray.mk #[])),(.int .u8 0),(.int .u8 0),(.int .i64 0),(.int .i64 0),(.int .i64 0),(.int .u16 0),(.bool false),(.slice none 0 0),(.string (ByteArray.mk #[])),(.int .u8 0),(.int .u8 0),(.int .i64 0),(.int .i64 0),(.int .i64 0),(.int .u16 0),(.bool false),(.slice none 0 0),(.string (ByteArray.mk #[])),(.int .u8 0),(.int .u8 0),(.int .i64 0),(.int .i64 0),(.int .i64 0),(.int .u16 0),(.bool false),(.slice none 0 0),(.string (ByteArray.mk #[])),(.int .u8 0),(.int .u8 0),(.int .i64 0),(.int .i64 0),(.int .i64 0),(.int .u16 0),(.bool false),(.slice none 0 0),(.string (ByteArray.mk #[])),(.int .u8 0),(.int .u8 0),(.int .i64 0),(.int .i64 0),(.int .i64 0),(.int .u16 0),(.bool false),(.slice none 0 0),(.string (ByteArray.mk #[])),(.int .u8 0),(.int .u8 0),(.int .i64 0),(.int .i64 0),(.int .i64 0),(.int .u16 0),(.bool false),(.slice none 0 0),(.string (ByteArray.mk #[])),(.int .u8 0),(.int .u8 0),(.int .i64 0),(.int .i64 0),(.int .i64 0),(.int .u16 0),(.bool false),(.slice none 0 0),(.string (ByteArray.mk #[])),(.int .u8 0),(.int .u8 0),(.int .i64 0),(.int .i64 0),(.int .i64 0),(.int .u16 0),(.bool false),(.slice none 0 0),(.string (ByteArray.mk #[])),(.int .u8 0),(.int .u8 0),(.int .i64 0),(.int .i64 0),(.int .i64 0),(.int .u16 0),(.bool false),(.slice none 0 0),(.string (ByteArray.mk #[])),(.int .u8 0),(.int .u8 0),(.int .i64 0),(.int .i64 0),(.int .i64 0),(.int .u16 0),(.bool false),(.slice none 0 0),(.string (ByteArray.mk #[])),(.int .u8 0),(.int .u8 0),(.int .i64 0),(.int .i64 0),(.int .i64 0),(.int .u16 0),(.bool false),(.slice none 0 0),(.string (ByteArray.mk #[])),(.int .u8 0),(.int .u8 0),(.int .i64 0),(.int .i64 0),(.int .i64 0),(.int .u16 0),(.bool false),(.slice none 0 0),(.string (ByteArray.mk #[])),(.int .u8 0),(.int .u8 0),(.int .i64 0),(.int .i64 0),(.int .i64 0),(.int .u16 0),(.bool false),(.slice none 0 0),(.string (ByteArray.mk #[])),(.int .u8 0),(.int .u8 0),(.int .i64 0),(.int .i64 0),(.int .i64 0),(.int .u16 0),(.bool false),(.slice none 0 0),(.string (ByteArray.mk #[])),(.int .u8 0),(.int .u8 0),(.int .i64 0),(.int .i64 0),(.int .i64 0),(.int .u16 0),(.bool false),(.slice none 0 0),(.string (ByteArray.mk #[])),(.int .u8 0),(.int .u8 0),(.int .i64 0),(.int .i64 0),(.int .i64 0),(.int .u16 0),(.bool false),(.slice none 0 0),(.string (ByteArray.mk #[])),(.int .u8 0),(.int .u8 0),(.int .i64 0),(.int .i64 0),(.int .i64 0),(.int .u16 0),(.bool false),(.slice none 0 0),(.string (ByteArray.mk #[])),(.int .u8 0),(.int .u8 0),(.int .i64 0),(.int .i64 0),(.int .i64 0),(.int .u16 0),(.bool false),(.slice none 0 0),(.string (ByteArray.mk #[])),(.int .u8 0),(.int .u8 0),(.int .i64 0),(.int .i64 0),(.int .i64 0),(.int .u16 0),(.bool false),(.slice none 0 0),(.string (ByteArray.mk #[])),(.int .u8 0),(.int .u8 0),(.int .i64 0),(.int .i64 0),(.int .i64 0),(.int .u16 0),(.bool false),(.slice none 0 0),(.string (ByteArray.mk #[])),(.int .u8 0),(.int .u8 0),(.int .i64 0),(.int .i64 0),(.int .i64 0),(.int .u16 0),(.bool false),(.slice none 0 0),(.string (ByteArray.mk #[])),(.int .u8 0),(.int .u8 0),(.int .i64 0),(.int .i64 0),(.int .i64 0),(.int .u16 0),(.bool false),(.slice none 0 0),(.string (ByteArray.mk #[])),(.int .u8 0),(.int .u8 0),(.int .i64 0),(.int .i64 0),(.int .i64 0),(.int .u16 0),(.bool false),(.slice none 0 0),(.string (ByteArray.mk #[])),(.int .u8 0),(.int .u8 0),(.int .i64 0),(.int .i64 0),(.int .i64 0),(.int .u16 0),(.bool false),(.slice none 0 0),(.string (ByteArray.mk #[])),(.int .u8 0),(.int .u8 0),(.int .i64 0),(.int .i64 0),(.int .i64 0),(.int .u16 0),(.bool false),(.slice none 0 0),(.string (ByteArray.mk #[])),(.int .u8 0),(.int .u8 0),(.int .i64 0),(.int .i64 0),(.int .i64 0),(.int .u16 0),(.bool false),(.slice none 0 0),(.string (ByteArray.mk #[])),(.int .u8 0),(.int .u8 0),(.int .i64 0),(.int .i64 0),(.int .i64 0),(.int .u16 0),(.bool false),(.slice none 0 0),(.string (ByteArray.mk #[])),(.int .u8 0),(.int .u8 0),(.int .i64 0),(.int .i64 0),(.int .i64 0),(.int .u16 0),(.bool false),(.slice none 0 0),(.string (ByteArray.mk #[])),(.int .u8 0),(.int .u8 0),(.int .i64 0),(.int .i64 0),(.int .i64 0),(.int .u16 0),(.bool false),(.slice none 0 0),(.string (ByteArray.mk #[])),(.int .u8 0),(.int .u8 0),(.int .i64 0),(.int .i64 0),(.int .i64 0),(.int .u16 0),(.bool false),(.slice none 0 0),(.string (ByteArray.mk #[])),(.int .u8 0),(.int .u8 0),(.int .i64 0),(.int .i64 0),(.int .i64 0),(.int .u16 0),(.bool false),(.slice none 0 0),(.string (ByteArray.mk #[])),(.int .u8 0),(.int .u8 0),(.int .i64 0),(.int .i64 0),(.int .i64 0),(.int .u16 0),(.bool false),(.slice none 0 0),(.string (ByteArray.mk #[])),(.int .u8 0),(.int .u8 0),(.int .i64 0),(.int .i64 0),(.int .i64 0),(.int .u16 0),(.bool false),(.slice none 0 0),(.string (ByteArray.mk #[])),(.int .u8 0),(.int .u8 0),(.int .i64 0),(.int .i64 0),(.int .i64 0),(.int .u16 0),(.bool false),(.slice none 0 0),(.string (ByteArray.mk #[])),(.int .u8 0),(.int .u8 0),(.int .i64 0),(.int .i64 0),(.int .i64 0),(.int .u16 0),(.bool false),(.slice none 0 0),(.string (ByteArray.mk #[])),(.int .u8 0),(.int .u8 0),(.int .i64 0),(.int .i64 0),(.int .i64 0),(.int .u16 0),(.bool false),(.slice none 0 0),(.string (ByteArray.mk #[])),(.int .u8 0),(.int .u8 0),(.int .i64 0),(.int .i64 0),(.int .i64 0),(.int .u16 0),(.bool false),(.slice none 0 0),(.string (ByteArray.mk #[])),(.int .u8 0),(.int .u8 0),(.int .i64 0),(.int .i64 0),(.int .i64 0),(.int .u16 0),(.bool false),(.slice none 0 0),(.string (ByteArray.mk #[])),(.int .u8 0),(.int .u8 0),(.int .i64 0),(.int .i64 0),(.int .i64 0),(.int .u16 0),(.bool false),(.slice none 0 0),(.string (ByteArray.mk #[])),(.int .u8 0),(.int .u8 0),(.int .i64 0),(.int .i64 0),(.int .i64 0),(.int .u16 0),(.bool false),(.slice none 0 0),(.string (ByteArray.mk #[])),(.int .u8 0),(.int .u8 0),(.int .i64 0),(.int .i64 0),(.int .i64 0),(.int .u16 0),(.bool false),(.slice none 0 0),(.string (ByteArray.mk #[])),(.int .u8 0),(.int .u8 0),(.int .i64 0),(.int .i64 0),(.int .i64 0),(.int .u16 0),(.bool false),(.slice none 0 0),(.string (ByteArray.mk #[])),(.int .u8 0),(.int .u8 0),(.int .i64 0),(.int .i64 0),(.int .i64 0),(.int .u16 0),(.bool false),(.slice none 0 0),(.string (ByteArray.mk #[])),(.int .u8 0),(.int .u8 0),(.int .i64 0),(.int .i64 0),(.int .i64 0),(.int .u16 0),(.bool false),(.slice none 0 0),(.string (ByteArray.mk #[])),(.int .u8 0),(.int .u8 0),(.int .i64 0),(.int .i64 0),(.int .i64 0),(.int .u16 0),(.bool false),(.slice none 0 0),(.string (ByteArray.mk #[])),(.int .u8 0),(.int .u8 0),(.int .i64 0),(.int .i64 0),(.int .i64 0),(.int .u16 0),(.bool false),(.slice none 0 0),(.string (ByteArray.mk #[])),(.int .u8 0),(.int .u8 0),(.int .i64 0),(.int .i64 0),(.int .i64 0),(.int .u16 0),(.bool false),(.slice none 0 0),(.string (ByteArray.mk #[])),(.int .u8 0),(.int .u8 0),(.int .i64 0),(.int .i64 0),(.int .i64 0),(.int .u16 0),(.bool false),(.slice none 0 0),(.string (ByteArray.mk #[])),(.int .u8 0),(.int .u8 0),(.int .i64 0),(.int .i64 0),(.int .i64 0),(.int .u16 0),(.bool false),(.slice none 0 0),(.string (ByteArray.mk #[])),(.int .u8 0),(.int .u8 0),(.int .i64 0),(.int .i64 0),(.int .i64 0),(.int .u16 0),(.bool false),(.slice none 0 0),(.string (ByteArray.mk #[])),(.int .u8 0),(.int .u8 0),(.int .i64 0),(.int .i64 0),(.int .i64 0),(.int .u16 0),(.bool false),(.slice none 0 0),(.string (ByteArray.mk #[])),(.int .u8 0),(.int .u8 0),(.int .i64 0),(.int .i64 0),(.int .i64 0),(.int .u16 0),(.bool false),(.slice none 0 0),(.string (ByteArray.mk #[])),(.int .u8 0),(.int .u8 0),(.int .i64 0),(.int .i64 0),(.int .i64 0),(.int .u16 0),(.bool false),(.slice none 0 0),(.string (ByteArray.mk #[])),(.string (ByteArray.mk #[])),(.string (ByteArray.mk #[])),(.string (ByteArray.mk #[])),(.string (ByteArray.mk #[])),(.string (ByteArray.mk #[])),(.string (ByteArray.mk #[])),(.string (ByteArray.mk #[])),(.string (ByteArray.mk #[])),(.int .u8 0),(.string (ByteArray.mk #[])),(.int .i64 0),(.int .i64 0),(.int .u8 0),(.string (ByteArray.mk #[])),(.int .i64 0),(.int .i64 0),(.int .u8 0),(.string (ByteArray.mk #[])),(.int .i64 0),(.int .i64 0),(.int .u8 0),(.string (ByteArray.mk #[])),(.int .i64 0),(.int .i64 0),(.int .u8 0),(.string (ByteArray.mk #[])),(.int .i64 0),(.int .i64 0)] 608 fun H1=>
Q ((some ⟨H.length,0,none⟩),()) H1
def aa2:dw:=.leaf
theorem aa3(H:Heap)(Q:(Option Addr)×Unit->Heap->Prop):Gp H Q=dN C [] Tryz.f35.ntmps Tryz.f35.results.toList [fG] (aP Tryz.f35) aa2 [] H Q:=by kernel_rfl
theorem aa4{H:Heap}{Q:(Option Addr)×Unit->Heap->Prop}(h:Gp H Q):CALL P [fG] Gg [] H Q:=aC hE Tryz.func35 rfl (by kernel_rfl) (aa3 H Q) h
def Dp(H:Heap)(Q:(Option Addr)×Unit->Heap->Prop):Prop:=
NEW H [(.bool true),(.bool false),(.slice none 0 0),(.string (ByteArray.mk #[])),(.string (ByteArray.mk #[])),(.string (ByteArray.mk #[])),(.string (ByteArray.mk #[])),(.string (ByteArray.mk #[])),(.string (ByteArray.mk #[])),(.string (ByteArray.mk #[])),(.string (ByteArray.mk #[])),(.string (ByteArray.mk #[])),(.int .u8 0),(.string (ByteArray.mk #[])),(.int .i64 0),(.int .i64 0),(.int .u8 0),(.string (ByteArray.mk #[])),(.int .i64 0),(.int .i64 0),(.int .u8 0),(.string (ByteArray.mk #[])),(.int .i64 0),(.int .i64 0),(.int .u8 0),(.string (ByteArray.mk #[])),(.int .i64 0),(.int .i64 0),(.int .u8 0),(.string (ByteArray.mk #[])),(.int .i64 0),(.int .i64 0)] 32 fun H1=>
Q ((some ⟨H.length,0,none⟩),()) H1
def Y9:dw:=.leaf
theorem Za(H:Heap)(Q:(Option Addr)×Unit->Heap->Prop):Dp H Q=dN C [] Tryz.f36.ntmps Tryz.f36.results.toList [fG] (aP Tryz.f36) Y9 [] H Q:=by kernel_rfl
theorem Zb{H:Heap}{Q:(Option Addr)×Unit->Heap->Prop}(h:Dp H Q):CALL P [fG] CV [] H Q:=aC hE Tryz.func36 rfl (by kernel_rfl) (Za H Q) h
def pF(a0:Option Addr)(a1:aA)(H:Heap)(Q:Int×Unit->Heap->Prop):Prop:=
CALL P [(aj .i64)] jc [(.pointer a0)] H fun(x1:Int×Unit) H1=>
aN (x1.1 !=0) (
Q (x1.1,()) H1) (
CALL P [(aj .i64)] zK [(aG.enc a1)] H1 fun(x2:Int×Unit) H2=>
aN (x2.1 !=0) (
Q (x2.1,()) H2) (
CALL P [(aj .i64)] iL [(.pointer a0),(.string a1.Name)] H2 fun(x3:Int×Unit) H3=>
aN (decide (x3.1≥0)) (
Q (5,()) H3) (
NIL a0 fun b4 o5=>
LD (aj .i64) H3 b4 (o5+2) fun(x6:Int)=>
aN (decide (x6≥64)) (
Q (14,()) H3) (
NIL a0 fun b7 o8=>
LD (aj .i64) H3 b7 (o8+2) fun(x9:Int)=>
JOIN (fun(j10:(Int×Unit)×(Unit)->Heap->Prop)=>
LOOP (fun(r12:(Int×Unit)×(Unit)->Heap->Prop) (s13:(Int×Unit)×(Unit)) H5=>
JOIN (fun(j14:(Bool×Unit)×(Unit)->Heap->Prop)=>
aN (decide (s13.1.1>0)) (
NIL a0 fun b16 o17=>
oD 64 (IntKind.wrap .i64 (s13.1.1-1)) (
LD aG H5 b16 (o17+3+(IntKind.wrap .i64 (s13.1.1-1)).toNat*9) fun(x18:aA)=>
CALL P [ah] zL [(aG.enc a1),(aG.enc x18)] H5 fun(x19:Bool×Unit) H7=>
j14 ((x19.1,()),(())) H7)) (
j14 ((false,()),(())) H5)) fun(y15:(Bool×Unit)×(Unit)) H6=>
aN y15.1.1 (
NIL a0 fun b20 o21=>
oD 64 (IntKind.wrap .i64 (s13.1.1-1)) (
LD aG H6 b20 (o21+3+(IntKind.wrap .i64 (s13.1.1-1)).toNat*9) fun(x22:aA)=>
NIL a0 fun b23 o24=>
oD 64 s13.1.1 (
ST H6 b23 (o24+3+s13.1.1.toNat*9) (aG.cells x22) fun H8=>
r12 ((IntKind.wrap .i64 (s13.1.1-1),()),(())) H8))) (
j10 ((s13.1.1,()),(())) H6)) ((x9,()),(())) H3) fun(y11:(Int×Unit)×(Unit)) H4=>
NIL a0 fun b25 o26=>
CALL P [aG] wu [(aG.enc a1)] H4 fun(x27:aA×Unit) H9=>
oD 64 y11.1.1 (
ST H9 b25 (o26+3+y11.1.1.toNat*9) (aG.cells x27.1) fun H10=>
NIL a0 fun b28 o29=>
LD (aj .i64) H10 b28 (o29+2) fun(x30:Int)=>
NIL a0 fun b31 o32=>
ST H10 b31 (o32+2) [(.int .i64 (IntKind.wrap .i64 (x30+1)))] fun H11=>
Q (0,()) H11)))))
def J9:dw:=(.seq .leaf (.seq .leaf (.seq .leaf (.seq .leaf (.seq (.blk (some ⟨[(7,(aj .i64))],[],(rg 35 27 [])⟩) (.loop ⟨[(7,(aj .i64))],[],(rg 35 27 [])⟩ (.seq (.seq (.reg ⟨[(47,ah)],[],(rg 35 12 [])⟩) .leaf) .leaf))) .leaf)))))
theorem Ko(a0:Option Addr)(a1:aA)(H:Heap)(Q:Int×Unit->Heap->Prop):pF a0 a1 H Q=dN C [3] Tryz.f37.ntmps Tryz.f37.results.toList [(aj .i64)] (aP Tryz.f37) J9 [(.pointer a0),(aG.enc a1)] H Q:=by kernel_rfl
theorem Kq{a0:Option Addr}{a1:aA}{H:Heap}{Q:Int×Unit->Heap->Prop}(h:pF a0 a1 H Q):CALL P [(aj .i64)] oO [(.pointer a0),(aG.enc a1)] H Q:=aC hE Tryz.func37 rfl (by kernel_rfl) (Ko a0 a1 H Q) h
def uw(a0:aA)(H:Heap)(Q:aA×Unit->Heap->Prop):Prop:=
CALL P [aH] Bz [a0.Parts.v] H fun(x1:Sl×Unit) H1=>
Q ((aA.mk a0.Name a0.Suit a0.Kind a0.Cost a0.Power a0.Health a0.Traits a0.Token x1.1),()) H1
def PO:dw:=.leaf
theorem PS(a0:aA)(H:Heap)(Q:aA×Unit->Heap->Prop):uw a0 H Q=dN C [1,2] Tryz.f38.ntmps Tryz.f38.results.toList [aG] (aP Tryz.f38) PO [(aG.enc a0)] H Q:=by kernel_rfl
theorem PU{a0:aA}{H:Heap}{Q:aA×Unit->Heap->Prop}(h:uw a0 H Q):CALL P [aG] nI [(aG.enc a0)] H Q:=aC hE Tryz.func38 rfl (by kernel_rfl) (PS a0 H Q) h
def nT(a0:Option Addr)(a1:aA)(H:Heap)(Q:Int×Unit->Heap->Prop):Prop:=
CALL P [ah] bV [(.pointer a0)] H fun(x1:Bool×Unit) H1=>
aN x1.1 (
Q (1,()) H1) (
NIL a0 fun b2 o3=>
LD ah H1 b2 (o3+1) fun(x4:Bool)=>
aN x4 (
Q (7,()) H1) (
CALL P [(aj .i64)] wS [(aG.enc a1)] H1 fun(x5:Int×Unit) H2=>
aN (x5.1 !=0) (
Q (x5.1,()) H2) (
CALL P [(aj .i64)] jh [(.pointer a0),(.string a1.Name)] H2 fun(x6:Int×Unit) H3=>
aN (decide (x6.1≥0)) (
Q (5,()) H3) (
NIL a0 fun b7 o8=>
LD aH H3 b7 (o8+2) fun(x9:Sl)=>
aN (decide ((x9.len:Int)≥64)) (
Q (14,()) H3) (
JOIN (fun(j10:(Sl×Bool×Unit)×(Unit)->Heap->Prop)=>
LOOP (fun(r12:(Sl×Bool×Int×Unit)×(Unit)->Heap->Prop) (s13:(Sl×Bool×Int×Unit)×(Unit)) H5=>
NIL a0 fun b14 o15=>
LD aH H5 b14 (o15+2) fun(x16:Sl)=>
aN (decide (s13.1.2.2.1<(x16.len:Int))) (
JOIN (fun(j17:(Bool×Unit)×(Unit)->Heap->Prop)=>
aN (!s13.1.2.1) (
NIL a0 fun b19 o20=>
LD aH H5 b19 (o20+2) fun(x21:Sl)=>
bQ x21.p x21.len s13.1.2.2.1 9 fun b22 o23=>
LD aG H5 b22 o23 fun(x24:aA)=>
CALL P [ah] wU [(aG.enc a1),(aG.enc x24)] H5 fun(x25:Bool×Unit) H7=>
j17 ((x25.1,()),(())) H7) (
j17 ((false,()),(())) H5)) fun(y18:(Bool×Unit)×(Unit)) H6=>
JOIN (fun(j26:(Sl×Bool×Unit)×(Unit)->Heap->Prop)=>
aN y18.1.1 (
CALL P [aG] kR [(aG.enc a1)] H6 fun(x28:aA×Unit) H9=>
vk aH (lenV s13.1.1.v+1) (dR E [22,22] s13.1.1.v 1 (aG.cells x28.1) H9) fun(x29:Sl) H10=>
j26 ((x29,true,()),(())) H10) (
j26 ((s13.1.1,s13.1.2.1,()),(())) H6)) fun(y27:(Sl×Bool×Unit)×(Unit)) H8=>
NIL a0 fun b30 o31=>
LD aH H8 b30 (o31+2) fun(x32:Sl)=>
bQ x32.p x32.len s13.1.2.2.1 9 fun b33 o34=>
LD aG H8 b33 o34 fun(x35:aA)=>
vk aH (lenV y27.1.1.v+1) (dR E [22,22] y27.1.1.v 1 (aG.cells x35) H8) fun(x36:Sl) H11=>
r12 ((x36,y27.1.2.1,IntKind.wrap .i64 (s13.1.2.2.1+1),()),(())) H11) (
j10 ((s13.1.1,s13.1.2.1,()),(())) H5)) (((Sl.mk none 0 0),false,0,()),(())) H3) fun(y11:(Sl×Bool×Unit)×(Unit)) H4=>
JOIN (fun(j37:(Sl×Unit)×(Unit)->Heap->Prop)=>
aN (!y11.1.2.1) (
CALL P [aG] kR [(aG.enc a1)] H4 fun(x39:aA×Unit) H13=>
vk aH (lenV y11.1.1.v+1) (dR E [22,22] y11.1.1.v 1 (aG.cells x39.1) H13) fun(x40:Sl) H14=>
j37 ((x40,()),(())) H14) (
j37 ((y11.1.1,()),(())) H4)) fun(y38:(Sl×Unit)×(Unit)) H12=>
NIL a0 fun b41 o42=>
ST H12 b41 (o42+2) [(.slice y38.1.1.p y38.1.1.len y38.1.1.cap)] fun H15=>
Q (0,()) H15)))))
def Iw:dw:=(.seq .leaf (.seq .leaf (.seq .leaf (.seq .leaf (.seq .leaf (.seq .leaf (.seq .leaf (.seq .leaf (.seq .leaf (.seq (.seq .leaf (.blk (some ⟨[(6,aH),(7,ah)],[],(rg 8 1 (rg 31 37 []))⟩) (.loop ⟨[(6,aH),(7,ah),(8,(aj .i64))],[],(rg 31 37 [])⟩ (.seq .leaf (.seq (.blk none (.seq (.seq (.reg ⟨[(52,ah)],[],(rg 40 12 [])⟩) (.cond (some ⟨[(6,aH),(7,ah)],[],(rg 53 5 [])⟩) .leaf .leaf)) .leaf)) .leaf))))) (.seq (.seq .leaf (.cond (some ⟨[(6,aH)],[],(rg 70 5 [])⟩) .leaf .leaf)) .leaf)))))))))))
theorem Iy(a0:Option Addr)(a1:aA)(H:Heap)(Q:Int×Unit->Heap->Prop):nT a0 a1 H Q=dN C [3,56,66,73] Tryz.f39.ntmps Tryz.f39.results.toList [(aj .i64)] (aP Tryz.f39) Iw [(.pointer a0),(aG.enc a1)] H Q:=by kernel_rfl
theorem Iz{a0:Option Addr}{a1:aA}{H:Heap}{Q:Int×Unit->Heap->Prop}(h:nT a0 a1 H Q):CALL P [(aj .i64)] nJ [(.pointer a0),(aG.enc a1)] H Q:=aC hE Tryz.func39 rfl (by kernel_rfl) (Iy a0 a1 H Q) h
def pG(a0:Option Addr)(a1:au)(H:Heap)(Q:Int×Unit->Heap->Prop):Prop:=
CALL P [(aj .i64)] jc [(.pointer a0)] H fun(x1:Int×Unit) H1=>
aN (x1.1 !=0) (
Q (x1.1,()) H1) (
JOIN (fun(j2:(Bool×Unit)×(Unit)->Heap->Prop)=>
aN (decide (a1.Mark<1)) (
j2 ((true,()),(())) H1) (
aN (decide (a1.Mark>4)) (
j2 ((true,()),(())) H1) (
CALL P [ah] qo [(.int .i64 a1.Power)] H1 fun(x4:Bool×Unit) H3=>
aN (!x4.1) (
j2 ((true,()),(())) H3) (
CALL P [ah] qo [(.int .i64 a1.Health)] H3 fun(x5:Bool×Unit) H4=>
j2 ((!x5.1,()),(())) H4)))) fun(y3:(Bool×Unit)×(Unit)) H2=>
aN y3.1.1 (
Q (2,()) H2) (
CALL P [ah] CW [(.string a1.Name)] H2 fun(x6:Bool×Unit) H5=>
aN (!x6.1) (
Q (4,()) H5) (
NIL a0 fun b7 o8=>
oD 5 a1.Mark (
LD (aj .u8) H5 b7 (o8+588+a1.Mark.toNat*4+0) fun(x9:Int)=>
aN (x9 !=0) (
Q (5,()) H5) (
NIL a0 fun b10 o11=>
LD gu H5 b10 (o11+588) fun(x12:au×au×au×au×au)=>
JOIN (fun(j13:(Unit)×(Unit)->Heap->Prop)=>
LOOP (fun(r15:(Int×Unit)×(Unit)->Heap->Prop) (s16:(Int×Unit)×(Unit)) H7=>
aN (decide (s16.1.1<5)) (
dW aT (dZ E 129 (.agg #[(.int .u8 x12.1.Mark),(.string x12.1.Name),(.int .i64 x12.1.Power),(.int .i64 x12.1.Health),(.int .u8 x12.2.1.Mark),(.string x12.2.1.Name),(.int .i64 x12.2.1.Power),(.int .i64 x12.2.1.Health),(.int .u8 x12.2.2.1.Mark),(.string x12.2.2.1.Name),(.int .i64 x12.2.2.1.Power),(.int .i64 x12.2.2.1.Health),(.int .u8 x12.2.2.2.1.Mark),(.string x12.2.2.2.1.Name),(.int .i64 x12.2.2.2.1.Power),(.int .i64 x12.2.2.2.1.Health),(.int .u8 x12.2.2.2.2.Mark),(.string x12.2.2.2.2.Name),(.int .i64 x12.2.2.2.2.Power),(.int .i64 x12.2.2.2.2.Health)]) (.int .i64 s16.1.1)) fun(x17:au)=>
aN (x17.Name.toList==a1.Name.toList) (
Q (5,()) H7) (
r15 ((IntKind.wrap .i64 (s16.1.1+1),()),(())) H7)) (
j13 ((()),(())) H7)) ((0,()),(())) H5) fun(y14:(Unit)×(Unit)) H6=>
NIL a0 fun b18 o19=>
oD 5 a1.Mark (
ST H6 b18 (o19+588+a1.Mark.toNat*4) (aT.cells a1) fun H8=>
Q (0,()) H8))))))
def Kr:dw:=(.seq .leaf (.seq .leaf (.seq (.blk none (.seq (.reg ⟨[(13,ah)],[],(rg 14 20 [])⟩) .leaf)) (.seq (.seq .leaf (.blk (some ⟨[],[],(rg 4 1 (rg 7 1 (rg 53 9 [])))⟩) (.loop ⟨[(53,(aj .i64))],[],(rg 4 1 (rg 7 1 (rg 54 8 [])))⟩ .leaf))) .leaf))))
theorem Kt(a0:Option Addr)(a1:au)(H:Heap)(Q:Int×Unit->Heap->Prop):pG a0 a1 H Q=dN C [3,7] Tryz.f40.ntmps Tryz.f40.results.toList [(aj .i64)] (aP Tryz.f40) Kr [(.pointer a0),(aT.enc a1)] H Q:=by kernel_rfl
theorem Ku{a0:Option Addr}{a1:au}{H:Heap}{Q:Int×Unit->Heap->Prop}(h:pG a0 a1 H Q):CALL P [(aj .i64)] oP [(.pointer a0),(aT.enc a1)] H Q:=aC hE Tryz.func40 rfl (by kernel_rfl) (Kt a0 a1 H Q) h
def nU(a0:Option Addr)(a1:au)(H:Heap)(Q:Int×Unit->Heap->Prop):Prop:=
CALL P [ah] bV [(.pointer a0)] H fun(x1:Bool×Unit) H1=>
aN x1.1 (
Q (1,()) H1) (
NIL a0 fun b2 o3=>
LD ah H1 b2 (o3+1) fun(x4:Bool)=>
aN x4 (
Q (7,()) H1) (
JOIN (fun(j5:(Bool×Unit)×(Unit)->Heap->Prop)=>
aN (decide (a1.Mark<1)) (
j5 ((true,()),(())) H1) (
aN (decide (a1.Mark>4)) (
j5 ((true,()),(())) H1) (
aN (decide (a1.Power<(-9))) (
j5 ((true,()),(())) H1) (
aN (decide (a1.Power>9)) (
j5 ((true,()),(())) H1) (
aN (decide (a1.Health<(-9))) (
j5 ((true,()),(())) H1) (
j5 ((decide (a1.Health>9),()),(())) H1)))))) fun(y6:(Bool×Unit)×(Unit)) H2=>
aN y6.1.1 (
Q (2,()) H2) (
CALL P [ah] zM [(.string a1.Name)] H2 fun(x7:Bool×Unit) H3=>
aN (!x7.1) (
Q (4,()) H3) (
JOIN (fun(j8:(Unit)×(Unit)->Heap->Prop)=>
LOOP (fun(r10:(Int×Unit)×(Unit)->Heap->Prop) (s11:(Int×Unit)×(Unit)) H5=>
aN (decide (s11.1.1≤4)) (
JOIN (fun(j12:(Bool×Unit)×(Unit)->Heap->Prop)=>
aN ((IntKind.wrap .u8 s11.1.1)==a1.Mark) (
NIL a0 fun b14 o15=>
oD 5 s11.1.1 (
LD (aj .u8) H5 b14 (o15+12+s11.1.1.toNat*4+0) fun(x16:Int)=>
aN (x16 !=0) (
j12 ((true,()),(())) H5) (
NIL a0 fun b17 o18=>
oD 5 s11.1.1 (
LD eH H5 b17 (o18+12+s11.1.1.toNat*4+1) fun(x19:ByteArray)=>
j12 ((x19.toList==a1.Name.toList,()),(())) H5)))) (
NIL a0 fun b20 o21=>
oD 5 s11.1.1 (
LD eH H5 b20 (o21+12+s11.1.1.toNat*4+1) fun(x22:ByteArray)=>
j12 ((x22.toList==a1.Name.toList,()),(())) H5))) fun(y13:(Bool×Unit)×(Unit)) H6=>
aN y13.1.1 (
Q (5,()) H6) (
r10 ((IntKind.wrap .i64 (s11.1.1+1),()),(())) H6)) (
j8 ((()),(())) H5)) ((1,()),(())) H3) fun(y9:(Unit)×(Unit)) H4=>
NIL a0 fun b23 o24=>
oD 5 a1.Mark (
ST H4 b23 (o24+12+a1.Mark.toNat*4) (aT.cells a1) fun H7=>
Q (0,()) H7)))))
def IB:dw:=(.seq .leaf (.seq .leaf (.seq .leaf (.seq (.seq (.reg ⟨[(39,ah)],[],(rg 12 27 [])⟩) .leaf) (.seq .leaf (.seq (.seq .leaf (.blk (some ⟨[],[],(rg 4 2 (rg 44 31 []))⟩) (.loop ⟨[(5,(aj .i64))],[],(rg 4 1 (rg 44 31 []))⟩ (.seq .leaf (.seq (.blk none (.seq (.reg ⟨[(74,ah)],[],(rg 48 26 [])⟩) .leaf)) .leaf))))) .leaf))))))
theorem IC(a0:Option Addr)(a1:au)(H:Heap)(Q:Int×Unit->Heap->Prop):nU a0 a1 H Q=dN C [3] Tryz.f41.ntmps Tryz.f41.results.toList [(aj .i64)] (aP Tryz.f41) IB [(.pointer a0),(aT.enc a1)] H Q:=by kernel_rfl
theorem IE{a0:Option Addr}{a1:au}{H:Heap}{Q:Int×Unit->Heap->Prop}(h:nU a0 a1 H Q):CALL P [(aj .i64)] nK [(.pointer a0),(aT.enc a1)] H Q:=aC hE Tryz.func41 rfl (by kernel_rfl) (IC a0 a1 H Q) h
end Zv
end Go.Proofs.YtijnknjopjmiiaaGreatDoor
end
