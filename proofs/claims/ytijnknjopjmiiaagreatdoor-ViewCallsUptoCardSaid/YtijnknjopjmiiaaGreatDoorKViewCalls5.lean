/- Part 5 of the proof of ViewCalls: what its row stands on (lemmas about the model, the evaluator, contracts of functions), put together and cut to what is used. -/
import Derived.Test.YtijnknjopjmiiaaGreatDoorKViewCalls4
import Derived.KernelRfl
section
namespace Go.Proofs.YtijnknjopjmiiaaGreatDoor
open Go Zq
namespace Zv
set_option maxRecDepth 100000
set_option linter.unusedVariables false
def pI(a0:Option Addr)(H:Heap)(Q:Int×Unit->Heap->Prop):Prop:=
CALL P [(aj .i64)] jc [(.pointer a0)] H fun(x1:Int×Unit) H1=>
aN (x1.1 !=0) (
Q (x1.1,()) H1) (
NIL a0 fun b2 o3=>
NIL a0 fun b4 o5=>
LD (aj .i64) H1 b4 (o5+2) fun(x6:Int)=>
dW aH (dH E 127 (.pointer (some ⟨b2,o3+3,none⟩)) none (some (.int .i64 x6)) none H1) fun(x7:Sl)=>
JOIN (fun(j8:(Unit)×(Unit)->Heap->Prop)=>
LOOP (fun(r10:(Int×Unit)×(Unit)->Heap->Prop) (s11:(Int×Unit)×(Unit)) H3=>
aN (decide (s11.1.1<(x7.len:Int))) (
JOIN (fun(j12:(Unit)×(Unit)->Heap->Prop)=>
bQ x7.p x7.len s11.1.1 9 fun b14 o15=>
LD aG H3 b14 o15 fun(x16:aA)=>
JOIN (fun(j17:(Unit)×(Unit)->Heap->Prop)=>
LOOP (fun(r19:(Int×Unit)×(Unit)->Heap->Prop) (s20:(Int×Unit)×(Unit)) H6=>
aN (decide (s20.1.1<(x16.Parts.len:Int))) (
JOIN (fun(j21:(Unit)×(Unit)->Heap->Prop)=>
bQ x16.Parts.p x16.Parts.len s20.1.1 8 fun b23 o24=>
LD aQ H6 b23 o24 fun(x25:aU)=>
aN (x25.Verb !=7) (
j21 ((()),(())) H6) (
CALL P [(aj .i64)] iL [(.pointer a0),(.string x25.Name)] H6 fun(x26:Int×Unit) H8=>
aN (decide (x26.1<0)) (
Q (6,()) H8) (
NIL a0 fun b27 o28=>
oD 64 x26.1 (
LD (aj .u8) H8 b27 (o28+3+x26.1.toNat*9+2) fun(x29:Int)=>
aN (x29==2) (
Q (8,()) H8) (
j21 ((()),(())) H8))))) fun(y22:(Unit)×(Unit)) H7=>
r19 ((IntKind.wrap .i64 (s20.1.1+1),()),(())) H7) (
j17 ((()),(())) H6)) ((0,()),(())) H3) fun(y18:(Unit)×(Unit)) H5=>
j12 ((()),(())) H5) fun(y13:(Unit)×(Unit)) H4=>
r10 ((IntKind.wrap .i64 (s11.1.1+1),()),(())) H4) (
j8 ((()),(())) H3)) ((0,()),(())) H1) fun(y9:(Unit)×(Unit)) H2=>
NIL a0 fun b30 o31=>
ST H2 b30 (o31+1) [(.bool true)] fun H9=>
Q (0,()) H9)
def Kv:dw:=(.seq .leaf (.seq .leaf (.seq (.seq .leaf (.blk (some ⟨[],[],(rg 2 1 (rg 5 1 (rg 7 2 (rg 23 32 []))))⟩) (.loop ⟨[(23,(aj .i64))],[],(rg 2 1 (rg 5 1 (rg 7 2 (rg 24 31 []))))⟩ (.seq .leaf (.seq .leaf (.seq (.blk (some ⟨[],[],(rg 2 1 (rg 5 1 (rg 7 2 (rg 25 29 []))))⟩) (.seq .leaf (.seq .leaf (.blk (some ⟨[],[],(rg 2 1 (rg 7 2 (rg 30 24 [])))⟩) (.loop ⟨[(30,(aj .i64))],[],(rg 2 1 (rg 7 2 (rg 31 23 [])))⟩ (.seq .leaf (.seq .leaf (.seq (.blk (some ⟨[],[],(rg 2 1 (rg 7 2 (rg 32 21 [])))⟩) .leaf) .leaf)))))))) .leaf)))))) .leaf)))
theorem Ky(a0:Option Addr)(H:Heap)(Q:Int×Unit->Heap->Prop):pI a0 H Q=dN C [5,7] Tryz.f42.ntmps Tryz.f42.results.toList [(aj .i64)] (aP Tryz.f42) Kv [(.pointer a0)] H Q:=by kernel_rfl
theorem Kz{a0:Option Addr}{H:Heap}{Q:Int×Unit->Heap->Prop}(h:pI a0 H Q):CALL P [(aj .i64)] oQ [(.pointer a0)] H Q:=aC hE Tryz.func42 rfl (by kernel_rfl) (Ky a0 H Q) h
def nV(a0:Option Addr)(H:Heap)(Q:Int×Unit->Heap->Prop):Prop:=
CALL P [ah] bV [(.pointer a0)] H fun(x1:Bool×Unit) H1=>
aN x1.1 (
Q (1,()) H1) (
NIL a0 fun b2 o3=>
LD ah H1 b2 (o3+1) fun(x4:Bool)=>
aN x4 (
Q (7,()) H1) (
JOIN (fun(j5:(Unit)×(Unit)->Heap->Prop)=>
LOOP (fun(r7:(Int×Unit)×(Unit)->Heap->Prop) (s8:(Int×Unit)×(Unit)) H3=>
NIL a0 fun b9 o10=>
LD aH H3 b9 (o10+2) fun(x11:Sl)=>
aN (decide (s8.1.1<(x11.len:Int))) (
JOIN (fun(j12:(Unit)×(Unit)->Heap->Prop)=>
JOIN (fun(j14:(Unit)×(Unit)->Heap->Prop)=>
LOOP (fun(r16:(Int×Unit)×(Unit)->Heap->Prop) (s17:(Int×Unit)×(Unit)) H6=>
NIL a0 fun b18 o19=>
LD aH H6 b18 (o19+2) fun(x20:Sl)=>
bQ x20.p x20.len s8.1.1 9 fun b21 o22=>
LD aH H6 b21 (o22+8) fun(x23:Sl)=>
aN (decide (s17.1.1<(x23.len:Int))) (
JOIN (fun(j24:(Unit)×(Unit)->Heap->Prop)=>
NIL a0 fun b26 o27=>
LD aH H6 b26 (o27+2) fun(x28:Sl)=>
bQ x28.p x28.len s8.1.1 9 fun b29 o30=>
LD aH H6 b29 (o30+8) fun(x31:Sl)=>
bQ x31.p x31.len s17.1.1 8 fun b32 o33=>
LD aQ H6 b32 o33 fun(x34:aU)=>
aN (x34.Verb !=7) (
j24 ((()),(())) H6) (
CALL P [(aj .i64)] jh [(.pointer a0),(.string x34.Name)] H6 fun(x35:Int×Unit) H8=>
aN (decide (x35.1<0)) (
Q (6,()) H8) (
NIL a0 fun b36 o37=>
LD aH H8 b36 (o37+2) fun(x38:Sl)=>
bQ x38.p x38.len x35.1 9 fun b39 o40=>
LD (aj .u8) H8 b39 (o40+2) fun(x41:Int)=>
aN (x41==2) (
Q (8,()) H8) (
j24 ((()),(())) H8)))) fun(y25:(Unit)×(Unit)) H7=>
r16 ((IntKind.wrap .i64 (s17.1.1+1),()),(())) H7) (
j14 ((()),(())) H6)) ((0,()),(())) H3) fun(y15:(Unit)×(Unit)) H5=>
j12 ((()),(())) H5) fun(y13:(Unit)×(Unit)) H4=>
r7 ((IntKind.wrap .i64 (s8.1.1+1),()),(())) H4) (
j5 ((()),(())) H3)) ((0,()),(())) H1) fun(y6:(Unit)×(Unit)) H2=>
NIL a0 fun b42 o43=>
ST H2 b42 (o43+1) [(.bool true)] fun H9=>
Q (0,()) H9))
def IG:dw:=(.seq .leaf (.seq .leaf (.seq .leaf (.seq (.seq .leaf (.blk (some ⟨[],[],(rg 2 5 (rg 13 51 []))⟩) (.loop ⟨[(3,(aj .i64))],[],(rg 2 1 (rg 4 3 (rg 13 51 [])))⟩ (.seq .leaf (.seq (.blk (some ⟨[],[],(rg 2 1 (rg 4 3 (rg 22 42 [])))⟩) (.seq .leaf (.blk (some ⟨[],[],(rg 2 1 (rg 4 3 (rg 22 42 [])))⟩) (.loop ⟨[(4,(aj .i64))],[],(rg 2 1 (rg 5 2 (rg 22 42 [])))⟩ (.seq .leaf (.seq (.blk (some ⟨[],[],(rg 2 1 (rg 5 2 (rg 35 29 [])))⟩) .leaf) .leaf)))))) .leaf))))) .leaf))))
theorem II(a0:Option Addr)(H:Heap)(Q:Int×Unit->Heap->Prop):nV a0 H Q=dN C [5] Tryz.f43.ntmps Tryz.f43.results.toList [(aj .i64)] (aP Tryz.f43) IG [(.pointer a0)] H Q:=by kernel_rfl
theorem IJ{a0:Option Addr}{H:Heap}{Q:Int×Unit->Heap->Prop}(h:nV a0 H Q):CALL P [(aj .i64)] nM [(.pointer a0)] H Q:=aC hE Tryz.func43 rfl (by kernel_rfl) (II a0 H Q) h
def mJ(a0:Option Addr)(H:Heap)(Q:Bool×Unit->Heap->Prop):Prop:=
CALL P [ah] fO [(.pointer a0)] H fun(x1:Bool×Unit) H1=>
aN x1.1 (
Q (false,()) H1) (
NIL a0 fun b2 o3=>
LD ah H1 b2 (o3+1) fun(x4:Bool)=>
Q (x4,()) H1)
def Gq:dw:=.leaf
theorem Gs(a0:Option Addr)(H:Heap)(Q:Bool×Unit->Heap->Prop):mJ a0 H Q=dN C [] Tryz.f44.ntmps Tryz.f44.results.toList [ah] (aP Tryz.f44) Gq [(.pointer a0)] H Q:=by kernel_rfl
theorem Gt{a0:Option Addr}{H:Heap}{Q:Bool×Unit->Heap->Prop}(h:mJ a0 H Q):CALL P [ah] jg [(.pointer a0)] H Q:=aC hE Tryz.func44 rfl (by kernel_rfl) (Gs a0 H Q) h
def lq(a0:Option Addr)(H:Heap)(Q:Bool×Unit->Heap->Prop):Prop:=
JOIN (fun(j1:(Bool×Unit)×(Unit)->Heap->Prop)=>
CALL P [ah] bV [(.pointer a0)] H fun(x3:Bool×Unit) H2=>
aN (!x3.1) (
NIL a0 fun b4 o5=>
LD ah H2 b4 (o5+1) fun(x6:Bool)=>
j1 ((x6,()),(())) H2) (
j1 ((false,()),(())) H2)) fun(y2:(Bool×Unit)×(Unit)) H1=>
Q (y2.1.1,()) H1
def ED:dw:=(.seq .leaf (.seq (.reg ⟨[(2,ah)],[],(rg 3 9 [])⟩) .leaf))
theorem EF(a0:Option Addr)(H:Heap)(Q:Bool×Unit->Heap->Prop):lq a0 H Q=dN C [] Tryz.f45.ntmps Tryz.f45.results.toList [ah] (aP Tryz.f45) ED [(.pointer a0)] H Q:=by kernel_rfl
theorem EG{a0:Option Addr}{H:Heap}{Q:Bool×Unit->Heap->Prop}(h:lq a0 H Q):CALL P [ah] gG [(.pointer a0)] H Q:=aC hE Tryz.func45 rfl (by kernel_rfl) (EF a0 H Q) h
def xG(a0:Option Addr)(a1:Sl)(a2:Sl)(a3:aF)(H:Heap)(Q:Sl×Int×Unit->Heap->Prop):Prop:=
CALL P [aJ,(aj .i64)] iO [(.pointer a0),a1.v,a2.v] H fun(x1:aK×Int×Unit) H1=>
aN (x1.2.1 !=0) (
Q ((Sl.mk none 0 0),x1.2.1,()) H1) (
CALL P [ah] jU [(aJ.enc x1.1),(ay.enc a3)] H1 fun(x2:Bool×Unit) H2=>
aN (!x2.1) (
Q ((Sl.mk none 0 0),2,()) H2) (
CALL P [aH] fE [(aJ.enc x1.1),a2.v,(ay.enc a3)] H2 fun(x3:Sl×Unit) H3=>
Q (x3.1,0,()) H3))
def Sm:dw:=.leaf
theorem Sr(a0:Option Addr)(a1:Sl)(a2:Sl)(a3:aF)(H:Heap)(Q:Sl×Int×Unit->Heap->Prop):xG a0 a1 a2 a3 H Q=dN C [7,10] Tryz.f46.ntmps Tryz.f46.results.toList [aH,(aj .i64)] (aP Tryz.f46) Sm [(.pointer a0),a1.v,a2.v,(ay.enc a3)] H Q:=by kernel_rfl
theorem Sz{a0:Option Addr}{a1:Sl}{a2:Sl}{a3:aF}{H:Heap}{Q:Sl×Int×Unit->Heap->Prop}(h:xG a0 a1 a2 a3 H Q):CALL P [aH,(aj .i64)] wP [(.pointer a0),a1.v,a2.v,(ay.enc a3)] H Q:=aC hE Tryz.func46 rfl (by kernel_rfl) (Sr a0 a1 a2 a3 H Q) h
def iC(a0:Sl)(a1:Int)(H:Heap)(Q:Bool×Unit->Heap->Prop):Prop:=
CALL P [(aj .i64)] nN [a0.v,(.int .i64 a1)] H fun(x1:Int×Unit) H1=>
Q (decide (x1.1≥0),()) H1
def vC:dw:=.leaf
theorem vG(a0:Sl)(a1:Int)(H:Heap)(Q:Bool×Unit->Heap->Prop):iC a0 a1 H Q=dN C [] Tryz.f47.ntmps Tryz.f47.results.toList [ah] (aP Tryz.f47) vC [a0.v,(.int .i64 a1)] H Q:=by kernel_rfl
theorem vH{a0:Sl}{a1:Int}{H:Heap}{Q:Bool×Unit->Heap->Prop}(h:iC a0 a1 H Q):CALL P [ah] iq [a0.v,(.int .i64 a1)] H Q:=aC hE Tryz.func47 rfl (by kernel_rfl) (vG a0 a1 H Q) h
def xH(a0:Option Addr)(a1:Sl)(a2:Sl)(a3:aF)(H:Heap)(Q:Sl×Int×Unit->Heap->Prop):Prop:=
CALL P [aJ,(aj .i64)] iO [(.pointer a0),a1.v,a2.v] H fun(x1:aK×Int×Unit) H1=>
aN (x1.2.1 !=0) (
Q ((Sl.mk none 0 0),x1.2.1,()) H1) (
CALL P [ah] jU [(aJ.enc x1.1),(ay.enc a3)] H1 fun(x2:Bool×Unit) H2=>
aN (!x2.1) (
Q ((Sl.mk none 0 0),2,()) H2) (
CALL P [aH] gI [(aJ.enc x1.1),a2.v,(ay.enc a3)] H2 fun(x3:Sl×Unit) H3=>
Q (x3.1,0,()) H3))
def SA:dw:=.leaf
theorem SB(a0:Option Addr)(a1:Sl)(a2:Sl)(a3:aF)(H:Heap)(Q:Sl×Int×Unit->Heap->Prop):xH a0 a1 a2 a3 H Q=dN C [7,10] Tryz.f48.ntmps Tryz.f48.results.toList [aH,(aj .i64)] (aP Tryz.f48) SA [(.pointer a0),a1.v,a2.v,(ay.enc a3)] H Q:=by kernel_rfl
theorem SC{a0:Option Addr}{a1:Sl}{a2:Sl}{a3:aF}{H:Heap}{Q:Sl×Int×Unit->Heap->Prop}(h:xH a0 a1 a2 a3 H Q):CALL P [aH,(aj .i64)] wQ [(.pointer a0),a1.v,a2.v,(ay.enc a3)] H Q:=aC hE Tryz.func48 rfl (by kernel_rfl) (SB a0 a1 a2 a3 H Q) h
def pJ(a0:Sl)(a1:Sl)(H:Heap)(Q:Bool×Unit->Heap->Prop):Prop:=
aN ((a0.len:Int) !=(a1.len:Int)) (
Q (false,()) H) (
JOIN (fun(j1:(Unit)×(Unit)->Heap->Prop)=>
LOOP (fun(r3:(Int×Unit)×(Unit)->Heap->Prop) (s4:(Int×Unit)×(Unit)) H2=>
aN (decide (s4.1.1<(a0.len:Int))) (
bQ a0.p a0.len s4.1.1 11 fun b5 o6=>
LD aV H2 b5 o6 fun(x7:bf)=>
bQ a1.p a1.len s4.1.1 11 fun b8 o9=>
LD aV H2 b8 o9 fun(x10:bf)=>
aN (!((x7.Card==x10.Card)&&((x7.Owner==x10.Owner)&&((x7.Place==x10.Place)&&((x7.Stamp==x10.Stamp)&&((x7.Hurt==x10.Hurt)&&(((x7.Marks.1==x10.Marks.1)&&((x7.Marks.2.1==x10.Marks.2.1)&&((x7.Marks.2.2.1==x10.Marks.2.2.1)&&((x7.Marks.2.2.2==x10.Marks.2.2.2)&&true))))&&((x7.Done==x10.Done)&&((x7.Fresh==x10.Fresh)&&true))))))))) (
Q (false,()) H2) (
r3 ((IntKind.wrap .i64 (s4.1.1+1),()),(())) H2)) (
j1 ((()),(())) H2)) ((0,()),(())) H) fun(y2:(Unit)×(Unit)) H1=>
Q (true,()) H1)
def KA:dw:=(.seq .leaf (.seq .leaf (.seq (.seq .leaf (.blk (some ⟨[],[],(rg 4 2 (rg 11 15 []))⟩) (.loop ⟨[(5,(aj .i64))],[],(rg 4 1 (rg 11 15 []))⟩ .leaf))) .leaf)))
theorem KC(a0:Sl)(a1:Sl)(H:Heap)(Q:Bool×Unit->Heap->Prop):pJ a0 a1 H Q=dN C [] Tryz.f49.ntmps Tryz.f49.results.toList [ah] (aP Tryz.f49) KA [a0.v,a1.v] H Q:=by kernel_rfl
theorem KD{a0:Sl}{a1:Sl}{H:Heap}{Q:Bool×Unit->Heap->Prop}(h:pJ a0 a1 H Q):CALL P [ah] oU [a0.v,a1.v] H Q:=aC hE Tryz.func49 rfl (by kernel_rfl) (KC a0 a1 H Q) h
def xI(a0:Option Addr)(a1:Sl)(H:Heap)(Q:Sl×Int×Unit->Heap->Prop):Prop:=
CALL P [ah] bV [(.pointer a0)] H fun(x1:Bool×Unit) H1=>
aN x1.1 (
Q ((Sl.mk none 0 0),1,()) H1) (
aN (decide ((a1.len:Int)>2048)) (
Q ((Sl.mk none 0 0),3,()) H1) (
CALL P [ah] gG [(.pointer a0)] H1 fun(x2:Bool×Unit) H2=>
aN (!x2.1) (
Q ((Sl.mk none 0 0),2,()) H2) (
CALL P [aH,ah] qP [(.pointer a0),a1.v] H2 fun(x3:Sl×Bool×Unit) H3=>
aN (!x3.2.1) (
Q ((Sl.mk none 0 0),2,()) H3) (
CALL P [aH,(aj .i64)] lV [(.pointer a0),a1.v,x3.1.v,(.int .i64 1)] H3 fun(x4:Sl×Int×Unit) H4=>
aN (x4.2.1 !=0) (
Q ((Sl.mk none 0 0),x4.2.1,()) H4) (
JOIN (fun(j5:(Unit)×(Unit)->Heap->Prop)=>
LOOP (fun(r7:(Int×Unit)×(Unit)->Heap->Prop) (s8:(Int×Unit)×(Unit)) H6=>
aN (decide (s8.1.1<(a1.len:Int))) (
JOIN (fun(j9:(Unit)×(Unit)->Heap->Prop)=>
JOIN (fun(j11:(Unit)×(Unit)->Heap->Prop)=>
LOOP (fun(r13:(Int×Unit)×(Unit)->Heap->Prop) (s14:(Int×Unit)×(Unit)) H9=>
aN (decide (s14.1.1<4)) (
JOIN (fun(j15:(Bool×Unit)×(Unit)->Heap->Prop)=>
bQ a1.p a1.len s8.1.1 11 fun b17 o18=>
LD (aj .u8) H9 b17 (o18+2) fun(x19:Int)=>
aN (x19==4) (
bQ a1.p a1.len s8.1.1 11 fun b20 o21=>
oD 4 s14.1.1 (
LD (aj .i64) H9 b20 (o21+5+s14.1.1.toNat*1) fun(x22:Int)=>
aN (decide (x22<0)) (
j15 ((true,()),(())) H9) (
bQ a1.p a1.len s8.1.1 11 fun b23 o24=>
oD 4 s14.1.1 (
LD (aj .i64) H9 b23 (o24+5+s14.1.1.toNat*1) fun(x25:Int)=>
j15 ((decide (x25>99),()),(())) H9)))) (
j15 ((false,()),(())) H9)) fun(y16:(Bool×Unit)×(Unit)) H10=>
aN y16.1.1 (
Q ((Sl.mk none 0 0),2,()) H10) (
r13 ((IntKind.wrap .i64 (s14.1.1+1),()),(())) H10)) (
j11 ((()),(())) H9)) ((0,()),(())) H6) fun(y12:(Unit)×(Unit)) H8=>
j9 ((()),(())) H8) fun(y10:(Unit)×(Unit)) H7=>
r7 ((IntKind.wrap .i64 (s8.1.1+1),()),(())) H7) (
j5 ((()),(())) H6)) ((0,()),(())) H4) fun(y6:(Unit)×(Unit)) H5=>
Q (x3.1,0,()) H5)))))
def SE:dw:=(.seq .leaf (.seq .leaf (.seq .leaf (.seq .leaf (.seq .leaf (.seq .leaf (.seq .leaf (.seq .leaf (.seq .leaf (.seq (.seq .leaf (.blk (some ⟨[],[],(rg 4 2 (rg 11 2 (rg 40 36 [])))⟩) (.loop ⟨[(11,(aj .i64))],[],(rg 4 2 (rg 12 1 (rg 40 36 [])))⟩ (.seq .leaf (.seq (.blk (some ⟨[],[],(rg 4 2 (rg 12 1 (rg 46 30 [])))⟩) (.seq .leaf (.blk (some ⟨[],[],(rg 4 2 (rg 12 1 (rg 46 30 [])))⟩) (.loop ⟨[(12,(aj .i64))],[],(rg 4 2 (rg 46 30 []))⟩ (.seq .leaf (.seq (.blk none (.seq (.reg ⟨[(75,ah)],[],(rg 50 25 [])⟩) .leaf)) .leaf)))))) .leaf))))) .leaf))))))))))
theorem SG(a0:Option Addr)(a1:Sl)(H:Heap)(Q:Sl×Int×Unit->Heap->Prop):xI a0 a1 H Q=dN C [] Tryz.f50.ntmps Tryz.f50.results.toList [aH,(aj .i64)] (aP Tryz.f50) SE [(.pointer a0),a1.v] H Q:=by kernel_rfl
theorem SH{a0:Option Addr}{a1:Sl}{H:Heap}{Q:Sl×Int×Unit->Heap->Prop}(h:xI a0 a1 H Q):CALL P [aH,(aj .i64)] ql [(.pointer a0),a1.v] H Q:=aC hE Tryz.func50 rfl (by kernel_rfl) (SG a0 a1 H Q) h
def Dq(a0:Option Addr)(a1:Sl)(a2:Sl)(a3:Int)(H:Heap)(Q:Sl×Sl×Int×Unit->Heap->Prop):Prop:=
CALL P [aH,(aj .i64)] lV [(.pointer a0),a1.v,a2.v,(.int .i64 a3)] H fun(x1:Sl×Int×Unit) H1=>
aN (x1.2.1 !=0) (
Q ((Sl.mk none 0 0),(Sl.mk none 0 0),x1.2.1,()) H1) (
vk aH (lenV ((Sl.mk none 0 0)).v+(lX a2.v).getD 0) (dF E [30,30] ((Sl.mk none 0 0)).v a2.v H1) fun(x2:Sl) H2=>
JOIN (fun(j3:(Sl×Sl×Unit)×(Unit)->Heap->Prop)=>
LOOP (fun(r5:(Sl×Sl×Sl×Unit)×(Unit)->Heap->Prop) (s6:(Sl×Sl×Sl×Unit)×(Unit)) H4=>
aN (decide ((s6.1.1.len:Int)>0)) (
CALL P [(aj .i64)] zN [(.pointer a0),a1.v,s6.1.2.1.v,s6.1.1.v] H4 fun(x7:Int×Unit) H5=>
bQ s6.1.1.p s6.1.1.len x7.1 10 fun b8 o9=>
LD ay H5 b8 o9 fun(x10:aF)=>
CALL P [aH] lM [(.pointer a0),a1.v,s6.1.2.1.v,(ay.enc x10)] H5 fun(x11:Sl×Unit) H6=>
bQ s6.1.1.p s6.1.1.len x7.1 10 fun b12 o13=>
LD ay H6 b12 o13 fun(x14:aF)=>
vk aH (lenV s6.1.2.2.1.v+1) (dR E [37,37] s6.1.2.2.1.v 1 (ay.cells x14) H6) fun(x15:Sl) H7=>
dW aH (dH E 37 s6.1.1.v none (some (.int .i64 x7.1)) none H7) fun(x16:Sl)=>
vk aH (lenV ((Sl.mk none 0 0)).v+(lX x16.v).getD 0) (dF E [37,37] ((Sl.mk none 0 0)).v x16.v H7) fun(x17:Sl) H8=>
dW aH (dH E 37 s6.1.1.v (some (.int .i64 (IntKind.wrap .i64 (x7.1+1)))) none none H8) fun(x18:Sl)=>
vk aH (lenV x17.v+(lX x18.v).getD 0) (dF E [37,37] x17.v x18.v H8) fun(x19:Sl) H9=>
r5 ((x19,x11.1,x15,()),(())) H9) (
j3 ((s6.1.2.1,s6.1.2.2.1,()),(())) H4)) ((x1.1,x2,(Sl.mk none 0 0),()),(())) H2) fun(y4:(Sl×Sl×Unit)×(Unit)) H3=>
Q (y4.1.1,y4.1.2.1,0,()) H3)
def Zc:dw:=(.seq .leaf (.seq .leaf (.seq .leaf (.seq .leaf (.seq .leaf (.seq .leaf (.seq (.blk (some ⟨[(13,aH),(14,aH)],[],(rg 11 1 (rg 15 2 (rg 31 34 [])))⟩) (.loop ⟨[(11,aH),(13,aH),(14,aH)],[],(rg 15 2 (rg 31 34 []))⟩ .leaf)) .leaf)))))))
theorem Zd(a0:Option Addr)(a1:Sl)(a2:Sl)(a3:Int)(H:Heap)(Q:Sl×Sl×Int×Unit->Heap->Prop):Dq a0 a1 a2 a3 H Q=dN C [52] Tryz.f51.ntmps Tryz.f51.results.toList [aH,aH,(aj .i64)] (aP Tryz.f51) Zc [(.pointer a0),a1.v,a2.v,(.int .i64 a3)] H Q:=by kernel_rfl
theorem Ze{a0:Option Addr}{a1:Sl}{a2:Sl}{a3:Int}{H:Heap}{Q:Sl×Sl×Int×Unit->Heap->Prop}(h:Dq a0 a1 a2 a3 H Q):CALL P [aH,aH,(aj .i64)] wo [(.pointer a0),a1.v,a2.v,(.int .i64 a3)] H Q:=aC hE Tryz.func51 rfl (by kernel_rfl) (Zd a0 a1 a2 a3 H Q) h
def uy(a0:Option Addr)(a1:Sl)(a2:Sl)(H:Heap)(Q:Sl×Unit->Heap->Prop):Prop:=
GEN aH (dY E 30 (.int .i64 (a2.len:Int)) (.int .i64 (a2.len:Int)) H) fun(x1:Sl) H1=>
JOIN (fun(j2:(Unit)×(Unit)->Heap->Prop)=>
LOOP (fun(r4:(Int×Unit)×(Unit)->Heap->Prop) (s5:(Int×Unit)×(Unit)) H3=>
aN (decide (s5.1.1<(a2.len:Int))) (
bQ a1.p a1.len s5.1.1 11 fun b6 o7=>
LD (aj .u8) H3 b6 (o7+2) fun(x8:Int)=>
JOIN (fun(j9:(Unit)×(Unit)->Heap->Prop)=>
aN (x8==4) (
bQ a2.p a2.len s5.1.1 5 fun b11 o12=>
LD aI H3 b11 o12 fun(x13:aB)=>
bQ a1.p a1.len s5.1.1 11 fun b14 o15=>
LD cO H3 b14 (o15+5) fun(x16:Int×Int×Int×Int)=>
CALL P [aI,(aj .i64)] tX [(.pointer a0),(aI.enc x13),(cO.enc x16)] H3 fun(x17:aB×Int×Unit) H5=>
bQ x1.p x1.len s5.1.1 5 fun b18 o19=>
ST H5 b18 o19 (aI.cells x17.1) fun H6=>
j9 ((()),(())) H6) (
j9 ((()),(())) H3)) fun(y10:(Unit)×(Unit)) H4=>
r4 ((IntKind.wrap .i64 (s5.1.1+1),()),(())) H4) (
j2 ((()),(())) H3)) ((0,()),(())) H1) fun(y3:(Unit)×(Unit)) H2=>
Q (x1,()) H2
def PV:dw:=(.seq .leaf (.seq .leaf (.seq (.seq .leaf (.blk (some ⟨[],[],(rg 8 1 (rg 12 29 []))⟩) (.loop ⟨[(8,(aj .i64))],[],(rg 12 29 [])⟩ (.seq .leaf (.seq (.blk none (.seq .leaf (.cond (some ⟨[],[],(rg 24 17 [])⟩) .leaf .leaf))) .leaf))))) .leaf)))
theorem PW(a0:Option Addr)(a1:Sl)(a2:Sl)(H:Heap)(Q:Sl×Unit->Heap->Prop):uy a0 a1 a2 H Q=dN C [] Tryz.f52.ntmps Tryz.f52.results.toList [aH] (aP Tryz.f52) PV [(.pointer a0),a1.v,a2.v] H Q:=by kernel_rfl
theorem PX{a0:Option Addr}{a1:Sl}{a2:Sl}{H:Heap}{Q:Sl×Unit->Heap->Prop}(h:uy a0 a1 a2 H Q):CALL P [aH] tN [(.pointer a0),a1.v,a2.v] H Q:=aC hE Tryz.func52 rfl (by kernel_rfl) (PW a0 a1 a2 H Q) h
def xJ(a0:Option Addr)(a1:Sl)(H:Heap)(Q:Sl×Int×Unit->Heap->Prop):Prop:=
CALL P [aH,(aj .i64)] ql [(.pointer a0),a1.v] H fun(x1:Sl×Int×Unit) H1=>
aN (x1.2.1 !=0) (
Q ((Sl.mk none 0 0),x1.2.1,()) H1) (
JOIN (fun(j2:(Sl×Unit)×(Unit)->Heap->Prop)=>
LOOP (fun(r4:(Sl×Sl×Int×Unit)×(Unit)->Heap->Prop) (s5:(Sl×Sl×Int×Unit)×(Unit)) H3=>
aN (decide (s5.1.2.2.1≤5)) (
JOIN (fun(j6:(Sl×Sl×Unit)×(Unit)->Heap->Prop)=>
CALL P [aH,aH,(aj .i64)] wo [(.pointer a0),a1.v,s5.1.1.v,(.int .i64 s5.1.2.2.1)] H3 fun(x8:Sl×Sl×Int×Unit) H5=>
JOIN (fun(j9:(Sl×Sl×Unit)×(Unit)->Heap->Prop)=>
LOOP (fun(r11:(Sl×Sl×Int×Unit)×(Unit)->Heap->Prop) (s12:(Sl×Sl×Int×Unit)×(Unit)) H7=>
aN (decide (s12.1.2.2.1<(x8.2.1.len:Int))) (
bQ x8.2.1.p x8.2.1.len s12.1.2.2.1 10 fun b13 o14=>
LD ay H7 b13 o14 fun(x15:aF)=>
CALL P [aH,(aj .i64)] wV [(.pointer a0),a1.v,s12.1.1.v,(ay.enc x15)] H7 fun(x16:Sl×Int×Unit) H8=>
bQ x8.2.1.p x8.2.1.len s12.1.2.2.1 10 fun b17 o18=>
LD ay H8 b17 o18 fun(x19:aF)=>
vk aH (lenV s12.1.2.1.v+1) (dR E [110,110] s12.1.2.1.v 1 [(.int .i64 x19.Thing),(.int .i64 x19.Place),(.int .u8 x19.What.When),(.int .u8 x19.What.Verb),(.int .u8 x19.What.Whom),(.int .i64 x19.What.Count),(.int .u8 x19.What.Suit),(.int .u8 x19.What.Trait),(.int .u8 x19.What.Mark),(.string x19.What.Name),(.slice x16.1.p x16.1.len x16.1.cap)] H8) fun(x20:Sl) H9=>
bQ x8.2.1.p x8.2.1.len s12.1.2.2.1 10 fun b21 o22=>
LD ay H9 b21 o22 fun(x23:aF)=>
CALL P [aH,(aj .i64)] wW [(.pointer a0),a1.v,s12.1.1.v,(ay.enc x23)] H9 fun(x24:Sl×Int×Unit) H10=>
r11 ((x24.1,x20,IntKind.wrap .i64 (s12.1.2.2.1+1),()),(())) H10) (
j9 ((s12.1.1,s12.1.2.1,()),(())) H7)) ((s5.1.1,s5.1.2.1,0,()),(())) H5) fun(y10:(Sl×Sl×Unit)×(Unit)) H6=>
j6 ((y10.1.1,y10.1.2.1,()),(())) H6) fun(y7:(Sl×Sl×Unit)×(Unit)) H4=>
r4 ((y7.1.1,y7.1.2.1,IntKind.wrap .i64 (s5.1.2.2.1+1),()),(())) H4) (
j2 ((s5.1.2.1,()),(())) H3)) ((x1.1,(Sl.mk none 0 0),1,()),(())) H1) fun(y3:(Sl×Unit)×(Unit)) H2=>
Q (y3.1.1,0,()) H2)
def SI:dw:=(.seq .leaf (.seq .leaf (.seq .leaf (.seq .leaf (.seq (.seq .leaf (.blk (some ⟨[(8,aH)],[],(rg 6 1 (rg 9 7 (rg 25 50 [])))⟩) (.loop ⟨[(6,aH),(8,aH),(9,(aj .i64))],[],(rg 10 6 (rg 25 50 []))⟩ (.seq .leaf (.seq (.blk (some ⟨[(6,aH),(8,aH)],[],(rg 10 6 (rg 29 46 []))⟩) (.seq .leaf (.seq .leaf (.blk (some ⟨[(6,aH),(8,aH)],[],(rg 13 3 (rg 38 37 []))⟩) (.loop ⟨[(6,aH),(8,aH),(13,(aj .i64))],[],(rg 14 2 (rg 38 37 []))⟩ .leaf))))) .leaf))))) .leaf)))))
theorem SK(a0:Option Addr)(a1:Sl)(H:Heap)(Q:Sl×Int×Unit->Heap->Prop):xJ a0 a1 H Q=dN C [62] Tryz.f53.ntmps Tryz.f53.results.toList [aH,(aj .i64)] (aP Tryz.f53) SI [(.pointer a0),a1.v] H Q:=by kernel_rfl
theorem SL{a0:Option Addr}{a1:Sl}{H:Heap}{Q:Sl×Int×Unit->Heap->Prop}(h:xJ a0 a1 H Q):CALL P [aH,(aj .i64)] qm [(.pointer a0),a1.v] H Q:=aC hE Tryz.func53 rfl (by kernel_rfl) (SK a0 a1 H Q) h
def mM(a0:Int)(a1:Int)(H:Heap)(Q:aB×Unit->Heap->Prop):Prop:=
Q ((aB.mk (IntKind.wrap .i64 ((IntKind.wrap .i64 (0-a0))-1)) 0 0 a1 0),()) H
def Gu:dw:=.leaf
theorem Gw(a0:Int)(a1:Int)(H:Heap)(Q:aB×Unit->Heap->Prop):mM a0 a1 H Q=dN C [4] Tryz.f54.ntmps Tryz.f54.results.toList [aI] (aP Tryz.f54) Gu [(.int .i64 a0),(.int .i64 a1)] H Q:=by kernel_rfl
theorem Gx{a0:Int}{a1:Int}{H:Heap}{Q:aB×Unit->Heap->Prop}(h:mM a0 a1 H Q):CALL P [aI] fM [(.int .i64 a0),(.int .i64 a1)] H Q:=aC hE Tryz.func54 rfl (by kernel_rfl) (Gw a0 a1 H Q) h
def lu(a0:Int)(a1:Int)(H:Heap)(Q:aF×Unit->Heap->Prop):Prop:=
Q ((aF.mk (IntKind.wrap .i64 ((IntKind.wrap .i64 (0-a0))-1)) a1 (aU.mk 0 0 0 0 0 0 0 (ByteArray.mk #[]))),()) H
def EH:dw:=.leaf
theorem EI(a0:Int)(a1:Int)(H:Heap)(Q:aF×Unit->Heap->Prop):lu a0 a1 H Q=dN C [4] Tryz.f55.ntmps Tryz.f55.results.toList [ay] (aP Tryz.f55) EH [(.int .i64 a0),(.int .i64 a1)] H Q:=by kernel_rfl
theorem EJ{a0:Int}{a1:Int}{H:Heap}{Q:aF×Unit->Heap->Prop}(h:lu a0 a1 H Q):CALL P [ay] fD [(.int .i64 a0),(.int .i64 a1)] H Q:=aC hE Tryz.func55 rfl (by kernel_rfl) (EI a0 a1 H Q) h
def Ad(a0:Option Addr)(a1:bf)(H:Heap)(Q:aA×Int×Unit->Heap->Prop):Prop:=
CALL P [aG,(aj .i64)] tY [(.pointer a0),(.int .i64 a1.Card)] H fun(x1:aA×Int×Unit) H1=>
Q (x1.1,x1.2.1,()) H1
def Wu:dw:=.leaf
theorem Wv(a0:Option Addr)(a1:bf)(H:Heap)(Q:aA×Int×Unit->Heap->Prop):Ad a0 a1 H Q=dN C [3,4] Tryz.f56.ntmps Tryz.f56.results.toList [aG,(aj .i64)] (aP Tryz.f56) Wu [(.pointer a0),(aV.enc a1)] H Q:=by kernel_rfl
theorem Wx{a0:Option Addr}{a1:bf}{H:Heap}{Q:aA×Int×Unit->Heap->Prop}(h:Ad a0 a1 H Q):CALL P [aG,(aj .i64)] sN [(.pointer a0),(aV.enc a1)] H Q:=aC hE Tryz.func56 rfl (by kernel_rfl) (Wv a0 a1 H Q) h
def pK(a0:Option Addr)(a1:ByteArray)(H:Heap)(Q:Int×Int×Unit->Heap->Prop):Prop:=
CALL P [ah] fO [(.pointer a0)] H fun(x1:Bool×Unit) H1=>
aN x1.1 (
Q (0,1,()) H1) (
CALL P [(aj .i64)] iL [(.pointer a0),(.string a1)] H1 fun(x2:Int×Unit) H2=>
JOIN (fun(j3:(Bool×Unit)×(Unit)->Heap->Prop)=>
NIL a0 fun b5 o6=>
LD ah H2 b5 (o6+1) fun(x7:Bool)=>
aN x7 (
j3 ((decide (x2.1≥0),()),(())) H2) (
j3 ((false,()),(())) H2)) fun(y4:(Bool×Unit)×(Unit)) H3=>
aN y4.1.1 (
Q (IntKind.wrap .i64 (x2.1+1),0,()) H3) (
Q (0,6,()) H3))
def KE:dw:=(.seq .leaf (.seq .leaf (.seq (.seq .leaf (.seq (.reg ⟨[(19,ah)],[],(rg 12 7 [])⟩) .leaf)) .leaf)))
theorem KF(a0:Option Addr)(a1:ByteArray)(H:Heap)(Q:Int×Int×Unit->Heap->Prop):pK a0 a1 H Q=dN C [] Tryz.f57.ntmps Tryz.f57.results.toList [(aj .i64),(aj .i64)] (aP Tryz.f57) KE [(.pointer a0),(.string a1)] H Q:=by kernel_rfl
theorem KG{a0:Option Addr}{a1:ByteArray}{H:Heap}{Q:Int×Int×Unit->Heap->Prop}(h:pK a0 a1 H Q):CALL P [(aj .i64),(aj .i64)] kQ [(.pointer a0),(.string a1)] H Q:=aC hE Tryz.func57 rfl (by kernel_rfl) (KF a0 a1 H Q) h
def mO(a0:Option Addr)(a1:Int)(H:Heap)(Q:au×Bool×Unit->Heap->Prop):Prop:=
JOIN (fun(j1:(Bool×Unit)×(Unit)->Heap->Prop)=>
CALL P [ah] fO [(.pointer a0)] H fun(x3:Bool×Unit) H2=>
aN x3.1 (
j1 ((true,()),(())) H2) (
aN (decide (a1<1)) (
j1 ((true,()),(())) H2) (
j1 ((decide (a1>4),()),(())) H2))) fun(y2:(Bool×Unit)×(Unit)) H1=>
aN y2.1.1 (
Q ((au.mk 0 (ByteArray.mk #[]) 0 0),false,()) H1) (
NIL a0 fun b4 o5=>
oD 5 a1 (
LD aT H1 b4 (o5+588+a1.toNat*4) fun(x6:au)=>
NIL a0 fun b7 o8=>
oD 5 a1 (
LD (aj .u8) H1 b7 (o8+588+a1.toNat*4+0) fun(x9:Int)=>
LD (aj .u8) H1 b7 (o8+588+a1.toNat*4+0) fun(x10:Int)=>
qB ((aj .u8).enc x10=(.int .u8 x9)) (
Q (x6,x9 !=0,()) H1))))
def Gy:dw:=(.seq .leaf (.seq (.seq (.reg ⟨[(15,ah)],[],(rg 6 9 [])⟩) .leaf) .leaf))
theorem Gz(a0:Option Addr)(a1:Int)(H:Heap)(Q:au×Bool×Unit->Heap->Prop):mO a0 a1 H Q=dN C [4] Tryz.f58.ntmps Tryz.f58.results.toList [aT,ah] (aP Tryz.f58) Gy [(.pointer a0),(.int .u8 a1)] H Q:=by kernel_rfl
theorem GH{a0:Option Addr}{a1:Int}{H:Heap}{Q:au×Bool×Unit->Heap->Prop}(h:mO a0 a1 H Q):CALL P [aT,ah] mD [(.pointer a0),(.int .u8 a1)] H Q:=aC hE Tryz.func58 rfl (by kernel_rfl) (Gz a0 a1 H Q) h
def uz(a0:Option Addr)(a1:Sl)(H:Heap)(Q:Sl×Int×Unit->Heap->Prop):Prop:=
aN (decide ((a1.len:Int)>2048)) (
CALL P [aH,aH,(aj .i64)] qH [(.pointer a0),a1.v,((Sl.mk none 0 0)).v,(.int .i64 1)] H fun(x1:Sl×Sl×Int×Unit) H1=>
Q ((Sl.mk none 0 0),x1.2.2.1,()) H1) (
GEN aH (dY E 30 (.int .i64 (a1.len:Int)) (.int .i64 (a1.len:Int)) H) fun(x2:Sl) H2=>
JOIN (fun(j3:(Unit)×(Unit)->Heap->Prop)=>
LOOP (fun(r5:(Int×Unit)×(Unit)->Heap->Prop) (s6:(Int×Unit)×(Unit)) H4=>
aN (decide (s6.1.1<(a1.len:Int))) (
bQ a1.p a1.len s6.1.1 11 fun b7 o8=>
LD aV H4 b7 o8 fun(x9:bf)=>
CALL P [aI,(aj .i64)] qO [(.pointer a0),(aV.enc x9)] H4 fun(x10:aB×Int×Unit) H5=>
aN (x10.2.1==1) (
Q ((Sl.mk none 0 0),x10.2.1,()) H5) (
aN (x10.2.1 !=0) (
Q ((Sl.mk none 0 0),2,()) H5) (
JOIN (fun(j11:(Unit)×(Unit)->Heap->Prop)=>
aN (x9.Place==4) (
bQ x2.p x2.len s6.1.1 5 fun b13 o14=>
ST H5 b13 o14 (aI.cells x10.1) fun H7=>
j11 ((()),(())) H7) (
j11 ((()),(())) H5)) fun(y12:(Unit)×(Unit)) H6=>
r5 ((IntKind.wrap .i64 (s6.1.1+1),()),(())) H6))) (
j3 ((()),(())) H4)) ((0,()),(())) H2) fun(y4:(Unit)×(Unit)) H3=>
CALL P [aH,aH,(aj .i64)] qH [(.pointer a0),a1.v,x2.v,(.int .i64 1)] H3 fun(x15:Sl×Sl×Int×Unit) H8=>
aN (x15.2.2.1 !=0) (
Q ((Sl.mk none 0 0),x15.2.2.1,()) H8) (
JOIN (fun(j16:(Unit)×(Unit)->Heap->Prop)=>
LOOP (fun(r18:(Int×Unit)×(Unit)->Heap->Prop) (s19:(Int×Unit)×(Unit)) H10=>
aN (decide (s19.1.1<(a1.len:Int))) (
bQ a1.p a1.len s19.1.1 11 fun b20 o21=>
LD aV H10 b20 o21 fun(x22:bf)=>
NEW H10 [(.int .i64 0),(.int .i64 0),(.int .u8 0),(.int .i64 0),(.int .i64 0),(.int .i64 0),(.int .i64 0),(.int .i64 0),(.int .i64 0),(.int .i64 0),(.bool false)] 11 fun H11=>
ST H11 H10.length 0 (aV.cells x22) fun H12=>
JOIN (fun(j23:(Bool×Unit)×(Unit)->Heap->Prop)=>
LD (aj .u8) H12 H10.length 2 fun(x25:Int)=>
aN (x25==4) (
dW aH (dH E 44 (.pointer (some ⟨H10.length,5,none⟩)) none none none H12) fun(x26:Sl)=>
CALL P [(aj .i64)] ku [x26.v] H12 fun(x27:Int×Unit) H14=>
aN (decide (x27.1<0)) (
j23 ((true,()),(())) H14) (
dW aH (dH E 44 (.pointer (some ⟨H10.length,5,none⟩)) none none none H14) fun(x28:Sl)=>
CALL P [(aj .i64)] kC [x28.v] H14 fun(x29:Int×Unit) H15=>
j23 ((decide (x29.1>99),()),(())) H15)) (
j23 ((false,()),(())) H12)) fun(y24:(Bool×Unit)×(Unit)) H13=>
aN y24.1.1 (
Q ((Sl.mk none 0 0),2,()) H13) (
r18 ((IntKind.wrap .i64 (s19.1.1+1),()),(())) H13)) (
j16 ((()),(())) H10)) ((0,()),(())) H8) fun(y17:(Unit)×(Unit)) H9=>
Q (x2,0,()) H9))
def PY:dw:=(.seq .leaf (.seq .leaf (.seq .leaf (.seq (.seq .leaf (.blk (some ⟨[],[],(rg 4 2 (rg 10 4 (rg 35 24 [])))⟩) (.loop ⟨[(35,(aj .i64))],[],(rg 4 2 (rg 10 4 (rg 36 23 [])))⟩ (.seq .leaf (.seq .leaf (.seq (.blk none (.seq .leaf (.seq .leaf (.seq .leaf (.seq .leaf (.seq .leaf (.cond (some ⟨[],[],[54,55,56,57]⟩) .leaf .leaf))))))) .leaf)))))) (.seq .leaf (.seq (.seq .leaf (.blk (some ⟨[],[],(rg 4 2 (rg 18 1 (rg 72 20 [])))⟩) (.loop ⟨[(72,(aj .i64))],[],(rg 4 2 (rg 18 1 (rg 73 19 [])))⟩ (.seq .leaf (.seq .leaf (.seq (.blk none (.seq .leaf (.seq (.reg ⟨[(90,ah)],[],(rg 76 14 [])⟩) .leaf))) .leaf)))))) .leaf))))))
theorem PZ(a0:Option Addr)(a1:Sl)(H:Heap)(Q:Sl×Int×Unit->Heap->Prop):uz a0 a1 H Q=dN C [11,12] Tryz.f61.ntmps Tryz.f61.results.toList [aH,(aj .i64)] (aP Tryz.f61) PY [(.pointer a0),a1.v] H Q:=by kernel_rfl
theorem P5{a0:Option Addr}{a1:Sl}{H:Heap}{Q:Sl×Int×Unit->Heap->Prop}(h:uz a0 a1 H Q):CALL P [aH,(aj .i64)] tV [(.pointer a0),a1.v] H Q:=aC hE Tryz.func61 rfl (by kernel_rfl) (PZ a0 a1 H Q) h
def xK(c0:Nat×Nat)(c1:Nat×Nat)(c2:Nat×Nat)(c3:Nat×Nat)(H:Heap)(Q:Sl×Sl×Unit->Heap->Prop):Prop:=
LD (aj .i64) H c0.1 c0.2 fun(x1:Int)=>
ST H c0.1 c0.2 [(.int .i64 (IntKind.wrap .i64 (x1+1)))] fun H1=>
LD aH H1 c1.1 c1.2 fun(x2:Sl)=>
LD (aj .i64) H1 c0.1 c0.2 fun(x3:Int)=>
JOIN (fun(j4:(Sl×Unit)×(Unit)->Heap->Prop)=>
aN (decide (x3≤5)) (
LD fG H1 c2.1 c2.2 fun(x6:Option Addr)=>
LD aH H1 c3.1 c3.2 fun(x7:Sl)=>
LD aH H1 c1.1 c1.2 fun(x8:Sl)=>
LD (aj .i64) H1 c0.1 c0.2 fun(x9:Int)=>
CALL P [aH,aH,(aj .i64)] qH [(.pointer x6),x7.v,x8.v,(.int .i64 x9)] H1 fun(x10:Sl×Sl×Int×Unit) H3=>
ST H3 c1.1 c1.2 [(.slice x10.1.p x10.1.len x10.1.cap)] fun H4=>
j4 ((x10.2.1,()),(())) H4) (
LD (aj .i64) H1 c0.1 c0.2 fun(x11:Int)=>
JOIN (fun(j12:(Unit)×(Unit)->Heap->Prop)=>
aN (x11==6) (
LD fG H1 c2.1 c2.2 fun(x14:Option Addr)=>
LD aH H1 c3.1 c3.2 fun(x15:Sl)=>
LD aH H1 c1.1 c1.2 fun(x16:Sl)=>
CALL P [aH] wR [(.pointer x14),x15.v,x16.v] H1 fun(x17:Sl×Unit) H6=>
ST H6 c1.1 c1.2 [(.slice x17.1.p x17.1.len x17.1.cap)] fun H7=>
j12 ((()),(())) H7) (
j12 ((()),(())) H1)) fun(y13:(Unit)×(Unit)) H5=>
j4 (((Sl.mk none 0 0),()),(())) H5)) fun(y5:(Sl×Unit)×(Unit)) H2=>
Q (x2,y5.1.1,()) H2
def SN:dw:=(.seq .leaf (.seq .leaf (.seq .leaf (.seq .leaf (.seq (.blk none (.seq .leaf (.cond (some ⟨[(7,aH)],[],(rg 14 16 [])⟩) .leaf (.seq .leaf (.cond (some ⟨[],[],[26,27,28,29]⟩) .leaf .leaf))))) .leaf)))))
theorem SQ(c0:Nat×Nat)(c1:Nat×Nat)(c2:Nat×Nat)(c3:Nat×Nat)(H:Heap)(Q:Sl×Sl×Unit->Heap->Prop):xK c0 c1 c2 c3 H Q=dN C [] Tryz.f62.ntmps Tryz.f62.results.toList [aH,aH] (aP Tryz.f62) SN [(.pointer (some ⟨c0.1,c0.2,none⟩)),(.pointer (some ⟨c1.1,c1.2,none⟩)),(.pointer (some ⟨c2.1,c2.2,none⟩)),(.pointer (some ⟨c3.1,c3.2,none⟩))] H Q:=by kernel_rfl
theorem SS{c0:Nat×Nat}{c1:Nat×Nat}{c2:Nat×Nat}{c3:Nat×Nat}{H:Heap}{Q:Sl×Sl×Unit->Heap->Prop}(h:xK c0 c1 c2 c3 H Q):CALL P [aH,aH] jI [(.pointer (some ⟨c0.1,c0.2,none⟩)),(.pointer (some ⟨c1.1,c1.2,none⟩)),(.pointer (some ⟨c2.1,c2.2,none⟩)),(.pointer (some ⟨c3.1,c3.2,none⟩))] H Q:=aC hE Tryz.func62 rfl (by kernel_rfl) (SQ c0 c1 c2 c3 H Q) h
def Dt(a0:Option Addr)(a1:Sl)(a2:Sl)(a3:Int)(H:Heap)(Q:Sl×Sl×Int×Unit->Heap->Prop):Prop:=
CALL P [aH,(aj .i64)] qQ [(.pointer a0),a1.v,a2.v,(.int .i64 a3)] H fun(x1:Sl×Int×Unit) H1=>
aN (x1.2.1 !=0) (
Q ((Sl.mk none 0 0),(Sl.mk none 0 0),x1.2.1,()) H1) (
CALL P [aJ,(aj .i64)] iO [(.pointer a0),a1.v,a2.v] H1 fun(x2:aK×Int×Unit) H2=>
CALL P [aH] dh [a2.v] H2 fun(x3:Sl×Unit) H3=>
JOIN (fun(j4:(Sl×Sl×Unit)×(Unit)->Heap->Prop)=>
LOOP (fun(r6:(Sl×Sl×Sl×Unit)×(Unit)->Heap->Prop) (s7:(Sl×Sl×Sl×Unit)×(Unit)) H5=>
aN (decide ((s7.1.1.len:Int)>0)) (
CALL P [(aj .i64)] mF [(aJ.enc x2.1),s7.1.2.1.v,s7.1.1.v] H5 fun(x8:Int×Unit) H6=>
bQ s7.1.1.p s7.1.1.len x8.1 10 fun b9 o10=>
LD ay H6 b9 o10 fun(x11:aF)=>
CALL P [aH] gI [(aJ.enc x2.1),s7.1.2.1.v,(ay.enc x11)] H6 fun(x12:Sl×Unit) H7=>
bQ s7.1.1.p s7.1.1.len x8.1 10 fun b13 o14=>
LD ay H7 b13 o14 fun(x15:aF)=>
vk aH (lenV s7.1.2.2.1.v+1) (dR E [37,37] s7.1.2.2.1.v 1 (ay.cells x15) H7) fun(x16:Sl) H8=>
CALL P [aH] dO [s7.1.1.v] H8 fun(x17:Sl×Unit) H9=>
CALL P [aH] dJ [x17.1.v,(.int .i64 x8.1),(.int .i64 (IntKind.wrap .i64 (x8.1+1)))] H9 fun(x18:Sl×Unit) H10=>
r6 ((x18.1,x12.1,x16,()),(())) H10) (
j4 ((s7.1.2.1,s7.1.2.2.1,()),(())) H5)) ((x1.1,x3.1,(Sl.mk none 0 0),()),(())) H3) fun(y5:(Sl×Sl×Unit)×(Unit)) H4=>
Q (y5.1.1,y5.1.2.1,0,()) H4)
def Zf:dw:=(.seq .leaf (.seq .leaf (.seq .leaf (.seq .leaf (.seq .leaf (.seq .leaf (.seq (.blk (some ⟨[(15,aH),(16,aH)],[],(rg 11 1 (rg 17 1 (rg 38 27 [])))⟩) (.loop ⟨[(11,aH),(15,aH),(16,aH)],[],(rg 17 1 (rg 38 27 []))⟩ .leaf)) .leaf)))))))
theorem Zg(a0:Option Addr)(a1:Sl)(a2:Sl)(a3:Int)(H:Heap)(Q:Sl×Sl×Int×Unit->Heap->Prop):Dt a0 a1 a2 a3 H Q=dN C [13,57] Tryz.f63.ntmps Tryz.f63.results.toList [aH,aH,(aj .i64)] (aP Tryz.f63) Zf [(.pointer a0),a1.v,a2.v,(.int .i64 a3)] H Q:=by kernel_rfl
theorem Zh{a0:Option Addr}{a1:Sl}{a2:Sl}{a3:Int}{H:Heap}{Q:Sl×Sl×Int×Unit->Heap->Prop}(h:Dt a0 a1 a2 a3 H Q):CALL P [aH,aH,(aj .i64)] qH [(.pointer a0),a1.v,a2.v,(.int .i64 a3)] H Q:=aC hE Tryz.func63 rfl (by kernel_rfl) (Zg a0 a1 a2 a3 H Q) h
def xM(a0:Option Addr)(a1:Sl)(a2:Sl)(H:Heap)(Q:Sl×Unit->Heap->Prop):Prop:=
GEN aH (dY E 30 (.int .i64 (a2.len:Int)) (.int .i64 (a2.len:Int)) H) fun(x1:Sl) H1=>
JOIN (fun(j2:(Unit)×(Unit)->Heap->Prop)=>
LOOP (fun(r4:(Int×Unit)×(Unit)->Heap->Prop) (s5:(Int×Unit)×(Unit)) H3=>
aN (decide (s5.1.1<(a1.len:Int))) (
bQ a1.p a1.len s5.1.1 11 fun b6 o7=>
LD aV H3 b6 o7 fun(x8:bf)=>
JOIN (fun(j9:(Unit)×(Unit)->Heap->Prop)=>
aN (x8.Place==4) (
bQ a2.p a2.len s5.1.1 5 fun b11 o12=>
LD aI H3 b11 o12 fun(x13:aB)=>
CALL P [aI,(aj .i64)] tK [(.pointer a0),(aI.enc x13),(cO.enc x8.Marks)] H3 fun(x14:aB×Int×Unit) H5=>
bQ x1.p x1.len s5.1.1 5 fun b15 o16=>
ST H5 b15 o16 (aI.cells x14.1) fun H6=>
j9 ((()),(())) H6) (
j9 ((()),(())) H3)) fun(y10:(Unit)×(Unit)) H4=>
r4 ((IntKind.wrap .i64 (s5.1.1+1),()),(())) H4) (
j2 ((()),(())) H3)) ((0,()),(())) H1) fun(y3:(Unit)×(Unit)) H2=>
Q (x1,()) H2
def SV:dw:=(.seq .leaf (.seq .leaf (.seq (.seq .leaf (.blk (some ⟨[],[],(rg 8 2 (rg 15 23 []))⟩) (.loop ⟨[(15,(aj .i64))],[],(rg 8 2 (rg 16 22 []))⟩ (.seq .leaf (.seq .leaf (.seq (.blk none (.seq .leaf (.seq .leaf (.cond (some ⟨[],[],(rg 23 14 [])⟩) .leaf .leaf)))) .leaf)))))) .leaf)))
theorem SX(a0:Option Addr)(a1:Sl)(a2:Sl)(H:Heap)(Q:Sl×Unit->Heap->Prop):xM a0 a1 a2 H Q=dN C [9] Tryz.f64.ntmps Tryz.f64.results.toList [aH] (aP Tryz.f64) SV [(.pointer a0),a1.v,a2.v] H Q:=by kernel_rfl
theorem SY{a0:Option Addr}{a1:Sl}{a2:Sl}{H:Heap}{Q:Sl×Unit->Heap->Prop}(h:xM a0 a1 a2 H Q):CALL P [aH] wR [(.pointer a0),a1.v,a2.v] H Q:=aC hE Tryz.func64 rfl (by kernel_rfl) (SX a0 a1 a2 H Q) h
def pO(a0:Option Addr)(H:Heap)(Q:Int×Unit->Heap->Prop):Prop:=
CALL P [ah] fO [(.pointer a0)] H fun(x1:Bool×Unit) H1=>
aN x1.1 (
Q (1,()) H1) (
NIL a0 fun b2 o3=>
LD ah H1 b2 (o3+1) fun(x4:Bool)=>
aN x4 (
Q (7,()) H1) (
Q (0,()) H1))
def KH:dw:=.leaf
theorem KI(a0:Option Addr)(H:Heap)(Q:Int×Unit->Heap->Prop):pO a0 H Q=dN C [] Tryz.f65.ntmps Tryz.f65.results.toList [(aj .i64)] (aP Tryz.f65) KH [(.pointer a0)] H Q:=by kernel_rfl
theorem KJ{a0:Option Addr}{H:Heap}{Q:Int×Unit->Heap->Prop}(h:pO a0 H Q):CALL P [(aj .i64)] jc [(.pointer a0)] H Q:=aC hE Tryz.func65 rfl (by kernel_rfl) (KI a0 H Q) h
def Ae(a0:aA)(H:Heap)(Q:Int×Unit->Heap->Prop):Prop:=
CALL P [(aj .i64)] CX [(aG.enc a0)] H fun(x1:Int×Unit) H1=>
aN (x1.1 !=0) (
Q (x1.1,()) H1) (
JOIN (fun(j2:(Unit)×(Unit)->Heap->Prop)=>
LOOP (fun(r4:(Int×Unit)×(Unit)->Heap->Prop) (s5:(Int×Unit)×(Unit)) H3=>
aN (decide (s5.1.1<(a0.Parts.len:Int))) (
bQ a0.Parts.p a0.Parts.len s5.1.1 8 fun b6 o7=>
LD aQ H3 b6 o7 fun(x8:aU)=>
CALL P [(aj .i64)] tZ [(aQ.enc x8)] H3 fun(x9:Int×Unit) H4=>
aN (x9.1 !=0) (
Q (x9.1,()) H4) (
JOIN (fun(j10:(Bool×Unit)×(Unit)->Heap->Prop)=>
aN (a0.Kind==2) (
aN (x8.When !=1) (
j10 ((true,()),(())) H4) (
aN (a0.Kind==3) (
j10 ((x8.When==4,()),(())) H4) (
j10 ((false,()),(())) H4))) (
aN (a0.Kind==3) (
j10 ((x8.When==4,()),(())) H4) (
j10 ((false,()),(())) H4))) fun(y11:(Bool×Unit)×(Unit)) H5=>
aN y11.1.1 (
Q (8,()) H5) (
r4 ((IntKind.wrap .i64 (s5.1.1+1),()),(())) H5))) (
j2 ((()),(())) H3)) ((0,()),(())) H1) fun(y3:(Unit)×(Unit)) H2=>
Q (0,()) H2)
def Wy:dw:=(.seq .leaf (.seq .leaf (.seq (.seq .leaf (.blk (some ⟨[],[],(rg 2 1 (rg 5 2 (rg 15 28 [])))⟩) (.loop ⟨[(15,(aj .i64))],[],(rg 2 1 (rg 5 2 (rg 16 27 [])))⟩ (.seq .leaf (.seq .leaf (.seq (.blk none (.seq .leaf (.seq .leaf (.seq (.reg ⟨[(41,ah)],[],(rg 24 17 [])⟩) .leaf)))) .leaf)))))) .leaf)))
theorem WA(a0:aA)(H:Heap)(Q:Int×Unit->Heap->Prop):Ae a0 H Q=dN C [1,5] Tryz.f66.ntmps Tryz.f66.results.toList [(aj .i64)] (aP Tryz.f66) Wy [(aG.enc a0)] H Q:=by kernel_rfl
theorem WB{a0:aA}{H:Heap}{Q:Int×Unit->Heap->Prop}(h:Ae a0 H Q):CALL P [(aj .i64)] zK [(aG.enc a0)] H Q:=aC hE Tryz.func66 rfl (by kernel_rfl) (WA a0 H Q) h
def nX(a0:Option Addr)(a1:ByteArray)(H:Heap)(Q:Int×Unit->Heap->Prop):Prop:=
NIL a0 fun b1 o2=>
LD (aj .i64) H b1 (o2+2) fun(x3:Int)=>
JOIN (fun(j4:(Unit)×(Unit)->Heap->Prop)=>
LOOP (fun(r6:(Int×Unit)×(Unit)->Heap->Prop) (s7:(Int×Unit)×(Unit)) H2=>
aN (decide (s7.1.1<x3)) (
NIL a0 fun b8 o9=>
oD 64 s7.1.1 (
LD eH H2 b8 (o9+3+s7.1.1.toNat*9+0) fun(x10:ByteArray)=>
aN (x10.toList==a1.toList) (
Q (s7.1.1,()) H2) (
r6 ((IntKind.wrap .i64 (s7.1.1+1),()),(())) H2))) (
j4 ((()),(())) H2)) ((0,()),(())) H) fun(y5:(Unit)×(Unit)) H1=>
Q ((-1),()) H1
def IK:dw:=(.seq .leaf (.seq (.seq .leaf (.blk (some ⟨[],[],(rg 4 2 (rg 10 14 []))⟩) (.loop ⟨[(10,(aj .i64))],[],(rg 4 2 (rg 11 13 []))⟩ .leaf))) .leaf))
theorem IL(a0:Option Addr)(a1:ByteArray)(H:Heap)(Q:Int×Unit->Heap->Prop):nX a0 a1 H Q=dN C [] Tryz.f67.ntmps Tryz.f67.results.toList [(aj .i64)] (aP Tryz.f67) IK [(.pointer a0),(.string a1)] H Q:=by kernel_rfl
theorem IQ{a0:Option Addr}{a1:ByteArray}{H:Heap}{Q:Int×Unit->Heap->Prop}(h:nX a0 a1 H Q):CALL P [(aj .i64)] iL [(.pointer a0),(.string a1)] H Q:=aC hE Tryz.func67 rfl (by kernel_rfl) (IL a0 a1 H Q) h
def Af(a0:aA)(a1:aA)(H:Heap)(Q:Bool×Unit->Heap->Prop):Prop:=
aN (a0.Suit !=a1.Suit) (
Q (decide (a0.Suit<a1.Suit),()) H) (
Q (Op.bytesLess a0.Name.toList a1.Name.toList,()) H)
def WC:dw:=.leaf
theorem WE(a0:aA)(a1:aA)(H:Heap)(Q:Bool×Unit->Heap->Prop):Af a0 a1 H Q=dN C [2,3] Tryz.f68.ntmps Tryz.f68.results.toList [ah] (aP Tryz.f68) WC [(aG.enc a0),(aG.enc a1)] H Q:=by kernel_rfl
theorem WG{a0:aA}{a1:aA}{H:Heap}{Q:Bool×Unit->Heap->Prop}(h:Af a0 a1 H Q):CALL P [ah] zL [(aG.enc a0),(aG.enc a1)] H Q:=aC hE Tryz.func68 rfl (by kernel_rfl) (WE a0 a1 H Q) h
def Du(a0:aA)(H:Heap)(Q:aA×Unit->Heap->Prop):Prop:=
vk aH (lenV ((Sl.mk none 0 0)).v+(lX a0.Parts.v).getD 0) (dF E [95,95] ((Sl.mk none 0 0)).v a0.Parts.v H) fun(x1:Sl) H1=>
Q ((aA.mk a0.Name a0.Suit a0.Kind a0.Cost a0.Power a0.Health a0.Traits a0.Token x1),()) H1
def Zi:dw:=.leaf
theorem Zj(a0:aA)(H:Heap)(Q:aA×Unit->Heap->Prop):Du a0 H Q=dN C [1,2] Tryz.f69.ntmps Tryz.f69.results.toList [aG] (aP Tryz.f69) Zi [(aG.enc a0)] H Q:=by kernel_rfl
theorem Zk{a0:aA}{H:Heap}{Q:aA×Unit->Heap->Prop}(h:Du a0 H Q):CALL P [aG] wu [(aG.enc a0)] H Q:=aC hE Tryz.func69 rfl (by kernel_rfl) (Zj a0 H Q) h
def rF(a0:Sl)(H:Heap)(Q:Sl×Unit->Heap->Prop):Prop:=
vk aH (lenV ((Sl.mk none 0 0)).v+(lX a0.v).getD 0) (dF E [95,95] ((Sl.mk none 0 0)).v a0.v H) fun(x1:Sl) H1=>
Q (x1,()) H1
def MH:dw:=.leaf
theorem MI(a0:Sl)(H:Heap)(Q:Sl×Unit->Heap->Prop):rF a0 H Q=dN C [] Tryz.f70.ntmps Tryz.f70.results.toList [aH] (aP Tryz.f70) MH [a0.v] H Q:=by kernel_rfl
theorem MJ{a0:Sl}{H:Heap}{Q:Sl×Unit->Heap->Prop}(h:rF a0 H Q):CALL P [aH] Bz [a0.v] H Q:=aC hE Tryz.func70 rfl (by kernel_rfl) (MI a0 H Q) h
def nY(a0:Option Addr)(H:Heap)(Q:Bool×Unit->Heap->Prop):Prop:=
JOIN (fun(j1:(Bool×Unit)×(Unit)->Heap->Prop)=>
aN a0.isNone (
j1 ((true,()),(())) H) (
NIL a0 fun b3 o4=>
LD ah H b3 (o4+0) fun(x5:Bool)=>
j1 ((!x5,()),(())) H)) fun(y2:(Bool×Unit)×(Unit)) H1=>
Q (y2.1.1,()) H1
def IU:dw:=(.seq .leaf (.seq (.reg ⟨[(2,ah)],[],(rg 3 9 [])⟩) .leaf))
theorem IV(a0:Option Addr)(H:Heap)(Q:Bool×Unit->Heap->Prop):nY a0 H Q=dN C [] Tryz.f71.ntmps Tryz.f71.results.toList [ah] (aP Tryz.f71) IU [(.pointer a0)] H Q:=by kernel_rfl
theorem IW{a0:Option Addr}{H:Heap}{Q:Bool×Unit->Heap->Prop}(h:nY a0 H Q):CALL P [ah] bV [(.pointer a0)] H Q:=aC hE Tryz.func71 rfl (by kernel_rfl) (IV a0 H Q) h
def xO(a0:aA)(H:Heap)(Q:Int×Unit->Heap->Prop):Prop:=
CALL P [ah] qR [(.string a0.Name)] H fun(x1:Bool×Unit) H1=>
aN (!x1.1) (
Q (4,()) H1) (
JOIN (fun(j2:(Bool×Unit)×(Unit)->Heap->Prop)=>
CALL P [ah] gU [(.int .i64 (IntKind.wrap .i64 a0.Suit)),(.int .i64 1),(.int .i64 6)] H1 fun(x4:Bool×Unit) H3=>
aN (!x4.1) (
j2 ((true,()),(())) H3) (
CALL P [ah] gU [(.int .i64 (IntKind.wrap .i64 a0.Kind)),(.int .i64 1),(.int .i64 3)] H3 fun(x5:Bool×Unit) H4=>
j2 ((!x5.1,()),(())) H4)) fun(y3:(Bool×Unit)×(Unit)) H2=>
aN y3.1.1 (
Q (8,()) H2) (
JOIN (fun(j6:(Bool×Unit)×(Unit)->Heap->Prop)=>
CALL P [ah] gU [(.int .i64 a0.Cost),(.int .i64 0),(.int .i64 10)] H2 fun(x8:Bool×Unit) H6=>
aN (!x8.1) (
j6 ((true,()),(())) H6) (
CALL P [ah] gU [(.int .i64 a0.Power),(.int .i64 0),(.int .i64 99)] H6 fun(x9:Bool×Unit) H7=>
aN (!x9.1) (
j6 ((true,()),(())) H7) (
CALL P [ah] gU [(.int .i64 a0.Health),(.int .i64 0),(.int .i64 99)] H7 fun(x10:Bool×Unit) H8=>
j6 ((!x10.1,()),(())) H8))) fun(y7:(Bool×Unit)×(Unit)) H5=>
aN y7.1.1 (
Q (2,()) H5) (
JOIN (fun(j11:(Bool×Unit)×(Unit)->Heap->Prop)=>
aN (a0.Kind==1) (
aN (a0.Health==0) (
j11 ((true,()),(())) H5) (
aN (!(a0.Kind==1)) (
aN (a0.Power !=0) (
j11 ((true,()),(())) H5) (
j11 ((a0.Health !=0,()),(())) H5)) (
j11 ((false,()),(())) H5))) (
aN (!(a0.Kind==1)) (
aN (a0.Power !=0) (
j11 ((true,()),(())) H5) (
j11 ((a0.Health !=0,()),(())) H5)) (
j11 ((false,()),(())) H5))) fun(y12:(Bool×Unit)×(Unit)) H9=>
aN y12.1.1 (
Q (8,()) H9) (
JOIN (fun(j13:(Bool×Unit)×(Unit)->Heap->Prop)=>
CALL P [ah] qp [(.int .u16 a0.Traits)] H9 fun(x15:Bool×Unit) H11=>
aN (!x15.1) (
j13 ((true,()),(())) H11) (
aN (a0.Kind==2) (
j13 ((a0.Token,()),(())) H11) (
j13 ((false,()),(())) H11))) fun(y14:(Bool×Unit)×(Unit)) H10=>
aN y14.1.1 (
Q (8,()) H10) (
aN (decide ((a0.Parts.len:Int)>4)) (
Q (3,()) H10) (
JOIN (fun(j16:(Unit)×(Unit)->Heap->Prop)=>
LOOP (fun(r18:(Int×Unit)×(Unit)->Heap->Prop) (s19:(Int×Unit)×(Unit)) H13=>
aN (decide (s19.1.1<(a0.Parts.len:Int))) (
bQ a0.Parts.p a0.Parts.len s19.1.1 8 fun b20 o21=>
LD aQ H13 b20 o21 fun(x22:aU)=>
CALL P [(aj .i64)] wX [(aQ.enc x22)] H13 fun(x23:Int×Unit) H14=>
aN (x23.1 !=0) (
Q (x23.1,()) H14) (
JOIN (fun(j24:(Bool×Unit)×(Unit)->Heap->Prop)=>
aN (a0.Kind==2) (
bQ a0.Parts.p a0.Parts.len s19.1.1 8 fun b26 o27=>
LD (aj .u8) H14 b26 (o27+0) fun(x28:Int)=>
aN (x28 !=1) (
j24 ((true,()),(())) H14) (
aN (a0.Kind==3) (
bQ a0.Parts.p a0.Parts.len s19.1.1 8 fun b29 o30=>
LD (aj .u8) H14 b29 (o30+0) fun(x31:Int)=>
j24 ((x31==4,()),(())) H14) (
j24 ((false,()),(())) H14))) (
aN (a0.Kind==3) (
bQ a0.Parts.p a0.Parts.len s19.1.1 8 fun b32 o33=>
LD (aj .u8) H14 b32 (o33+0) fun(x34:Int)=>
j24 ((x34==4,()),(())) H14) (
j24 ((false,()),(())) H14))) fun(y25:(Bool×Unit)×(Unit)) H15=>
aN y25.1.1 (
Q (8,()) H15) (
r18 ((IntKind.wrap .i64 (s19.1.1+1),()),(())) H15))) (
j16 ((()),(())) H13)) ((0,()),(())) H10) fun(y17:(Unit)×(Unit)) H12=>
Q (0,()) H12))))))
def S9:dw:=(.seq .leaf (.seq .leaf (.seq (.blk none (.seq .leaf (.cond none .leaf (.seq (.reg ⟨[(14,ah)],[],(rg 15 12 [])⟩) (.cond none .leaf (.seq (.reg ⟨[(27,ah)],[],(rg 28 16 [])⟩) (.cond none .leaf (.seq (.reg ⟨[(44,ah)],[],(rg 45 20 [])⟩) (.cond none .leaf (.seq (.reg ⟨[(65,ah)],[],(rg 66 13 [])⟩) .leaf)))))))))) (.seq (.seq .leaf (.blk (some ⟨[],[],(rg 2 1 (rg 4 2 (rg 84 42 [])))⟩) (.loop ⟨[(4,(aj .i64))],[],(rg 2 1 (rg 5 1 (rg 84 42 [])))⟩ (.seq .leaf (.seq (.blk none (.seq .leaf (.seq .leaf (.seq (.reg ⟨[(125,ah)],[],(rg 100 25 [])⟩) .leaf)))) .leaf))))) .leaf))))
theorem Tc(a0:aA)(H:Heap)(Q:Int×Unit->Heap->Prop):xO a0 H Q=dN C [1] Tryz.f72.ntmps Tryz.f72.results.toList [(aj .i64)] (aP Tryz.f72) S9 [(aG.enc a0)] H Q:=by kernel_rfl
theorem Td{a0:aA}{H:Heap}{Q:Int×Unit->Heap->Prop}(h:xO a0 H Q):CALL P [(aj .i64)] wS [(aG.enc a0)] H Q:=aC hE Tryz.func72 rfl (by kernel_rfl) (Tc a0 H Q) h
def mP(a0:Option Addr)(a1:ByteArray)(H:Heap)(Q:Int×Unit->Heap->Prop):Prop:=
JOIN (fun(j1:(Unit)×(Unit)->Heap->Prop)=>
LOOP (fun(r3:(Int×Unit)×(Unit)->Heap->Prop) (s4:(Int×Unit)×(Unit)) H2=>
NIL a0 fun b5 o6=>
LD aH H2 b5 (o6+2) fun(x7:Sl)=>
aN (decide (s4.1.1<(x7.len:Int))) (
NIL a0 fun b8 o9=>
LD aH H2 b8 (o9+2) fun(x10:Sl)=>
bQ x10.p x10.len s4.1.1 9 fun b11 o12=>
LD eH H2 b11 (o12+0) fun(x13:ByteArray)=>
aN (x13.toList==a1.toList) (
Q (s4.1.1,()) H2) (
r3 ((IntKind.wrap .i64 (s4.1.1+1),()),(())) H2)) (
j1 ((()),(())) H2)) ((0,()),(())) H) fun(y2:(Unit)×(Unit)) H1=>
Q ((-1),()) H1
def GI:dw:=(.seq .leaf (.seq (.seq .leaf (.blk (some ⟨[],[],(rg 4 22 [])⟩) (.loop ⟨[(5,(aj .i64))],[],(rg 4 1 (rg 6 20 []))⟩ .leaf))) .leaf))
theorem GK(a0:Option Addr)(a1:ByteArray)(H:Heap)(Q:Int×Unit->Heap->Prop):mP a0 a1 H Q=dN C [] Tryz.f73.ntmps Tryz.f73.results.toList [(aj .i64)] (aP Tryz.f73) GI [(.pointer a0),(.string a1)] H Q:=by kernel_rfl
theorem GL{a0:Option Addr}{a1:ByteArray}{H:Heap}{Q:Int×Unit->Heap->Prop}(h:mP a0 a1 H Q):CALL P [(aj .i64)] jh [(.pointer a0),(.string a1)] H Q:=aC hE Tryz.func73 rfl (by kernel_rfl) (GK a0 a1 H Q) h
def xP(a0:aA)(a1:aA)(H:Heap)(Q:Bool×Unit->Heap->Prop):Prop:=
JOIN (fun(j1:(Bool×Unit)×(Unit)->Heap->Prop)=>
aN (decide (a0.Suit<a1.Suit)) (
j1 ((true,()),(())) H) (
aN (a0.Suit==a1.Suit) (
j1 ((Op.bytesLess a0.Name.toList a1.Name.toList,()),(())) H) (
j1 ((false,()),(())) H))) fun(y2:(Bool×Unit)×(Unit)) H1=>
Q (y2.1.1,()) H1
def Tf:dw:=(.seq .leaf (.seq (.reg ⟨[(4,ah)],[],(rg 5 19 [])⟩) .leaf))
theorem Ti(a0:aA)(a1:aA)(H:Heap)(Q:Bool×Unit->Heap->Prop):xP a0 a1 H Q=dN C [2,3] Tryz.f74.ntmps Tryz.f74.results.toList [ah] (aP Tryz.f74) Tf [(aG.enc a0),(aG.enc a1)] H Q:=by kernel_rfl
theorem Tj{a0:aA}{a1:aA}{H:Heap}{Q:Bool×Unit->Heap->Prop}(h:xP a0 a1 H Q):CALL P [ah] wU [(aG.enc a0),(aG.enc a1)] H Q:=aC hE Tryz.func74 rfl (by kernel_rfl) (Ti a0 a1 H Q) h
def Ag(a0:aA)(H:Heap)(Q:aA×Unit->Heap->Prop):Prop:=
vk aH (lenV ((Sl.mk none 0 0)).v+(lX a0.Parts.v).getD 0) (dF E [95,95] ((Sl.mk none 0 0)).v a0.Parts.v H) fun(x1:Sl) H1=>
Q ((aA.mk a0.Name a0.Suit a0.Kind a0.Cost a0.Power a0.Health a0.Traits a0.Token x1),()) H1
def WH:dw:=.leaf
theorem WI(a0:aA)(H:Heap)(Q:aA×Unit->Heap->Prop):Ag a0 H Q=dN C [1,2] Tryz.f75.ntmps Tryz.f75.results.toList [aG] (aP Tryz.f75) WH [(aG.enc a0)] H Q:=by kernel_rfl
theorem WJ{a0:aA}{H:Heap}{Q:aA×Unit->Heap->Prop}(h:Ag a0 H Q):CALL P [aG] kR [(aG.enc a0)] H Q:=aC hE Tryz.func75 rfl (by kernel_rfl) (WI a0 H Q) h
def xQ(a0:Int)(H:Heap)(Q:Bool×Unit->Heap->Prop):Prop:=
JOIN (fun(j1:(Bool×Unit)×(Unit)->Heap->Prop)=>
aN (decide (a0≥(-9))) (
j1 ((decide (a0≤9),()),(())) H) (
j1 ((false,()),(())) H)) fun(y2:(Bool×Unit)×(Unit)) H1=>
Q (y2.1.1,()) H1
def Tm:dw:=(.seq .leaf (.seq (.reg ⟨[(2,ah)],[],(rg 3 6 [])⟩) .leaf))
theorem Tn(a0:Int)(H:Heap)(Q:Bool×Unit->Heap->Prop):xQ a0 H Q=dN C [] Tryz.f76.ntmps Tryz.f76.results.toList [ah] (aP Tryz.f76) Tm [(.int .i64 a0)] H Q:=by kernel_rfl
theorem Tq{a0:Int}{H:Heap}{Q:Bool×Unit->Heap->Prop}(h:xQ a0 H Q):CALL P [ah] qo [(.int .i64 a0)] H Q:=aC hE Tryz.func76 rfl (by kernel_rfl) (Tn a0 H Q) h
def Dv(a0:ByteArray)(H:Heap)(Q:Bool×Unit->Heap->Prop):Prop:=
JOIN (fun(j1:(Bool×Unit)×(Unit)->Heap->Prop)=>
dW (aj .i64) (sJ E 9 (.string a0) H) fun(x3:Int)=>
aN (x3==0) (
j1 ((true,()),(())) H) (
dW (aj .i64) (sJ E 9 (.string a0) H) fun(x4:Int)=>
aN (decide (x4>20)) (
j1 ((true,()),(())) H) (
dW (aj .u8) (dZ E 9 (.string a0) (.int .i64 0)) fun(x5:Int)=>
j1 ((x5==45,()),(())) H))) fun(y2:(Bool×Unit)×(Unit)) H1=>
aN y2.1.1 (
Q (false,()) H1) (
ajp (FN E 9 (.string a0) H1) fun(x6:Value) H2=>
JOIN (fun(j7:(Unit)×(Unit)->Heap->Prop)=>
LOOP (fun(r9:(Unit)×(Unit)->Heap->Prop) (s10:(Unit)×(Unit)) H4=>
NXT (Cb x6 H4) (fun(i11:Int) (r12:Int) H5=>
JOIN (fun(j13:(Bool×Unit)×(Unit)->Heap->Prop)=>
aN (r12 !=45) (
aN (decide (r12<97)) (
j13 ((true,()),(())) H5) (
j13 ((decide (r12>122),()),(())) H5)) (
j13 ((false,()),(())) H5)) fun(y14:(Bool×Unit)×(Unit)) H7=>
aN y14.1.1 (
Q (false,()) H7) (
r9 ((()),(())) H7)) (fun H6=>
j7 ((()),(())) H6)) ((()),(())) H2) fun(y8:(Unit)×(Unit)) H3=>
Q (true,()) H3)
def Zl:dw:=(.seq .leaf (.seq (.seq (.reg ⟨[(17,ah)],[],(rg 5 12 [])⟩) .leaf) (.seq (.seq .leaf (.blk (some ⟨[],[],(rg 2 1 (rg 4 1 (rg 20 13 [])))⟩) (.loop ⟨[],[],(rg 2 1 (rg 4 1 (rg 20 13 [])))⟩ (.seq .leaf (.seq .leaf (.blk none (.seq .leaf (.seq (.reg ⟨[(32,ah)],[],(rg 23 9 [])⟩) .leaf)))))))) .leaf)))
theorem Zm(a0:ByteArray)(H:Heap)(Q:Bool×Unit->Heap->Prop):Dv a0 H Q=dN C [] Tryz.f77.ntmps Tryz.f77.results.toList [ah] (aP Tryz.f77) Zl [(.string a0)] H Q:=by kernel_rfl
theorem Zn{a0:ByteArray}{H:Heap}{Q:Bool×Unit->Heap->Prop}(h:Dv a0 H Q):CALL P [ah] CW [(.string a0)] H Q:=aC hE Tryz.func77 rfl (by kernel_rfl) (Zm a0 H Q) h
def Ah(a0:ByteArray)(H:Heap)(Q:Bool×Unit->Heap->Prop):Prop:=
JOIN (fun(j1:(Bool×Unit)×(Unit)->Heap->Prop)=>
dW (aj .i64) (sJ E 9 (.string a0) H) fun(x3:Int)=>
aN (decide (x3<1)) (
j1 ((true,()),(())) H) (
dW (aj .i64) (sJ E 9 (.string a0) H) fun(x4:Int)=>
aN (decide (x4>20)) (
j1 ((true,()),(())) H) (
dW (aj .u8) (dZ E 9 (.string a0) (.int .i64 0)) fun(x5:Int)=>
aN (decide (x5<97)) (
j1 ((true,()),(())) H) (
dW (aj .u8) (dZ E 9 (.string a0) (.int .i64 0)) fun(x6:Int)=>
j1 ((decide (x6>122),()),(())) H)))) fun(y2:(Bool×Unit)×(Unit)) H1=>
aN y2.1.1 (
Q (false,()) H1) (
JOIN (fun(j7:(Unit)×(Unit)->Heap->Prop)=>
LOOP (fun(r9:(Int×Unit)×(Unit)->Heap->Prop) (s10:(Int×Unit)×(Unit)) H3=>
dW (aj .i64) (sJ E 9 (.string a0) H3) fun(x11:Int)=>
aN (decide (s10.1.1<x11)) (
JOIN (fun(j12:(Bool×Unit)×(Unit)->Heap->Prop)=>
dW (aj .u8) (dZ E 9 (.string a0) (.int .i64 s10.1.1)) fun(x14:Int)=>
aN (decide (x14<97)) (
dW (aj .u8) (dZ E 9 (.string a0) (.int .i64 s10.1.1)) fun(x15:Int)=>
j12 ((x15 !=45,()),(())) H3) (
dW (aj .u8) (dZ E 9 (.string a0) (.int .i64 s10.1.1)) fun(x16:Int)=>
aN (decide (x16>122)) (
dW (aj .u8) (dZ E 9 (.string a0) (.int .i64 s10.1.1)) fun(x17:Int)=>
j12 ((x17 !=45,()),(())) H3) (
j12 ((false,()),(())) H3))) fun(y13:(Bool×Unit)×(Unit)) H4=>
aN y13.1.1 (
Q (false,()) H4) (
r9 ((IntKind.wrap .i64 (s10.1.1+1),()),(())) H4)) (
j7 ((()),(())) H3)) ((0,()),(())) H1) fun(y8:(Unit)×(Unit)) H2=>
Q (true,()) H2)
def WL:dw:=(.seq .leaf (.seq (.seq (.reg ⟨[(21,ah)],[],(rg 4 17 [])⟩) .leaf) (.seq (.seq .leaf (.blk (some ⟨[],[],(rg 2 2 (rg 22 22 []))⟩) (.loop ⟨[(3,(aj .i64))],[],(rg 2 1 (rg 22 22 []))⟩ (.seq .leaf (.seq (.blk none (.seq (.reg ⟨[(43,ah)],[],(rg 28 15 [])⟩) .leaf)) .leaf))))) .leaf)))
theorem WM(a0:ByteArray)(H:Heap)(Q:Bool×Unit->Heap->Prop):Ah a0 H Q=dN C [] Tryz.f78.ntmps Tryz.f78.results.toList [ah] (aP Tryz.f78) WL [(.string a0)] H Q:=by kernel_rfl
theorem WO{a0:ByteArray}{H:Heap}{Q:Bool×Unit->Heap->Prop}(h:Ah a0 H Q):CALL P [ah] zM [(.string a0)] H Q:=aC hE Tryz.func78 rfl (by kernel_rfl) (WM a0 H Q) h
def pR(a0:Option Addr)(H:Heap)(Q:Bool×Unit->Heap->Prop):Prop:=
JOIN (fun(j1:(Bool×Unit)×(Unit)->Heap->Prop)=>
aN a0.isNone (
j1 ((true,()),(())) H) (
NIL a0 fun b3 o4=>
LD ah H b3 (o4+0) fun(x5:Bool)=>
j1 ((!x5,()),(())) H)) fun(y2:(Bool×Unit)×(Unit)) H1=>
Q (y2.1.1,()) H1
def KL:dw:=(.seq .leaf (.seq (.reg ⟨[(2,ah)],[],(rg 3 9 [])⟩) .leaf))
theorem KN(a0:Option Addr)(H:Heap)(Q:Bool×Unit->Heap->Prop):pR a0 H Q=dN C [] Tryz.f79.ntmps Tryz.f79.results.toList [ah] (aP Tryz.f79) KL [(.pointer a0)] H Q:=by kernel_rfl
theorem KO{a0:Option Addr}{H:Heap}{Q:Bool×Unit->Heap->Prop}(h:pR a0 H Q):CALL P [ah] fO [(.pointer a0)] H Q:=aC hE Tryz.func79 rfl (by kernel_rfl) (KN a0 H Q) h
def xR(a0:Option Addr)(a1:Sl)(a2:Sl)(H:Heap)(Q:aK×Int×Unit->Heap->Prop):Prop:=
NEW H [(.slice a1.p a1.len a1.cap)] 1 fun H1=>
LD aH H1 H.length 0 fun(x1:Sl)=>
LD aH H1 H.length 0 fun(x2:Sl)=>
GEN aH (dY E 22 (.int .i64 (x2.len:Int)) (.int .i64 (x2.len:Int)) H1) fun(x3:Sl) H2=>
LD aH H2 H.length 0 fun(x4:Sl)=>
qB (aH.enc x4=x1.v) (
CALL P [(aj .i64),(aj .i64)] kQ [(.pointer a0),(.string (ByteArray.mk #[]))] H2 fun(x5:Int×Int×Unit) H3=>
aN (x5.2.1==1) (
Q ((aK.mk a0 x1 x3 (Sl.mk none 0 0)),x5.2.1,()) H3) (
LD aH H3 H.length 0 fun(x6:Sl)=>
aN (decide ((x6.len:Int)>2048)) (
Q ((aK.mk a0 x1 x3 (Sl.mk none 0 0)),3,()) H3) (
JOIN (fun(j7:(Bool×Unit)×(Unit)->Heap->Prop)=>
CALL P [ah] jg [(.pointer a0)] H3 fun(x9:Bool×Unit) H5=>
aN (!x9.1) (
j7 ((true,()),(())) H5) (
LD aH H5 H.length 0 fun(x10:Sl)=>
j7 (((a2.len:Int) !=(x10.len:Int),()),(())) H5)) fun(y8:(Bool×Unit)×(Unit)) H4=>
aN y8.1.1 (
Q ((aK.mk a0 x1 x3 (Sl.mk none 0 0)),2,()) H4) (
LD aH H4 H.length 0 fun(x11:Sl)=>
JOIN (fun(j12:(Unit)×(aK×aK×Unit)->Heap->Prop)=>
LOOP (fun(r14:(Int×Unit)×(aK×aK×Unit)->Heap->Prop) (s15:(Int×Unit)×(aK×aK×Unit)) H7=>
aN (decide (s15.1.1<(x11.len:Int))) (
JOIN (fun(j16:(Unit)×(aK×aK×Unit)->Heap->Prop)=>
bQ x11.p x11.len s15.1.1 11 fun b18 o19=>
LD aV H7 b18 o19 fun(x20:bf)=>
CALL P [aG,(aj .i64)] sN [(.pointer a0),(aV.enc x20)] H7 fun(x21:aA×Int×Unit) H9=>
JOIN (fun(j22:(Bool×Unit)×(Unit)->Heap->Prop)=>
aN (x21.2.1 !=0) (
j22 ((true,()),(())) H9) (
aN (x20.Owner !=0) (
aN (x20.Owner !=1) (
j22 ((true,()),(())) H9) (
aN (decide (x20.Place<1)) (
j22 ((true,()),(())) H9) (
j22 ((decide (x20.Place>5),()),(())) H9))) (
aN (decide (x20.Place<1)) (
j22 ((true,()),(())) H9) (
j22 ((decide (x20.Place>5),()),(())) H9)))) fun(y23:(Bool×Unit)×(Unit)) H10=>
aN y23.1.1 (
Q (s15.2.2.1,2,()) H10) (
aN (x20.Place !=4) (
j16 ((()),(s15.2.1,s15.2.2.1,())) H10) (
JOIN (fun(j24:(Bool×Unit)×(Unit)->Heap->Prop)=>
aN (x21.1.Kind==2) (
j24 ((true,()),(())) H10) (
aN (decide (x20.Stamp<1)) (
j24 ((true,()),(())) H10) (
bQ a2.p a2.len s15.1.1 5 fun b26 o27=>
LD (aj .i64) H10 b26 (o27+0) fun(x28:Int)=>
aN (x28 !=0) (
bQ a2.p a2.len s15.1.1 5 fun b29 o30=>
LD (aj .i64) H10 b29 (o30+0) fun(x31:Int)=>
aN (x31 !=1) (
j24 ((true,()),(())) H10) (
bQ a2.p a2.len s15.1.1 5 fun b32 o33=>
LD (aj .u16) H10 b32 (o33+2) fun(x34:Int)=>
CALL P [ah] lN [(.int .u16 x34)] H10 fun(x35:Bool×Unit) H12=>
j24 ((!x35.1,()),(())) H12)) (
bQ a2.p a2.len s15.1.1 5 fun b36 o37=>
LD (aj .u16) H10 b36 (o37+2) fun(x38:Int)=>
CALL P [ah] lN [(.int .u16 x38)] H10 fun(x39:Bool×Unit) H13=>
j24 ((!x39.1,()),(())) H13)))) fun(y25:(Bool×Unit)×(Unit)) H11=>
aN y25.1.1 (
Q (s15.2.2.1,2,()) H11) (
bQ s15.2.2.1.cards.p s15.2.2.1.cards.len s15.1.1 9 fun b40 o41=>
ST H11 b40 o41 (aG.cells x21.1) fun H14=>
vk aH (lenV s15.2.2.1.order.v+1) (dR E [27,27] s15.2.2.1.order.v 1 [(.int .i64 s15.1.1)] H14) fun(x42:Sl) H15=>
aN (decide ((x42.len:Int)>16)) (
Q ((aK.mk s15.2.2.1.b s15.2.2.1.things s15.2.2.1.cards x42),2,()) H15) (
j16 ((()),(s15.2.1,(aK.mk s15.2.2.1.b s15.2.2.1.things s15.2.2.1.cards x42),())) H15))))) fun(y17:(Unit)×(aK×aK×Unit)) H8=>
r14 ((IntKind.wrap .i64 (s15.1.1+1),()),(y17.2.1,y17.2.2.1,())) H8) (
j12 ((()),(s15.2.1,s15.2.2.1,())) H7)) ((0,()),((aK.mk none (Sl.mk none 0 0) (Sl.mk none 0 0) (Sl.mk none 0 0)),(aK.mk a0 x1 x3 (Sl.mk none 0 0)),())) H4) fun(y13:(Unit)×(aK×aK×Unit)) H6=>
CALL P [] iw [y13.2.2.1.order.v,(.func (.func fH) #[] #[(.pointer (some ⟨H.length,0,none⟩))])] H6 fun(x43:Unit) H16=>
JOIN (fun(j44:(Unit)×(aK×Unit)->Heap->Prop)=>
LOOP (fun(r46:(Int×Unit)×(aK×Unit)->Heap->Prop) (s47:(Int×Unit)×(aK×Unit)) H18=>
aN (decide (s47.1.1<(y13.2.2.1.order.len:Int))) (
LD aH H18 H.length 0 fun(x48:Sl)=>
bQ y13.2.2.1.order.p y13.2.2.1.order.len (IntKind.wrap .i64 (s47.1.1-1)) 1 fun b49 o50=>
LD (aj .i64) H18 b49 o50 fun(x51:Int)=>
bQ x48.p x48.len x51 11 fun b52 o53=>
LD (aj .i64) H18 b52 (o53+3) fun(x54:Int)=>
LD aH H18 H.length 0 fun(x55:Sl)=>
bQ y13.2.2.1.order.p y13.2.2.1.order.len s47.1.1 1 fun b56 o57=>
LD (aj .i64) H18 b56 o57 fun(x58:Int)=>
bQ x55.p x55.len x58 11 fun b59 o60=>
LD (aj .i64) H18 b59 (o60+3) fun(x61:Int)=>
aN (x54==x61) (
Q (y13.2.2.1,2,()) H18) (
r46 ((IntKind.wrap .i64 (s47.1.1+1),()),(s47.2.1,())) H18)) (
j44 ((()),(s47.2.1,())) H18)) ((1,()),(y13.2.1,())) H16) fun(y45:(Unit)×(aK×Unit)) H17=>
Q (y13.2.2.1,0,()) H17))))
def Tt:dw:=(.seq .leaf (.seq .leaf (.seq (.seq .leaf (.blk none (.seq .leaf (.cond none .leaf (.seq .leaf (.cond none .leaf (.seq (.reg ⟨[(37,ah)],[],(rg 38 10 [])⟩) .leaf))))))) (.seq (.seq .leaf (.blk (some ⟨[],[(0,aJ),(1,aJ)],(rg 7 1 (rg 11 4 (rg 51 88 [])))⟩) (.loop ⟨[(51,(aj .i64))],[(0,aJ),(1,aJ)],(rg 7 1 (rg 11 4 (rg 52 87 [])))⟩ (.seq .leaf (.seq .leaf (.seq (.blk (some ⟨[],[(0,aJ),(1,aJ)],(rg 7 1 (rg 11 4 (rg 53 85 [])))⟩) (.seq .leaf (.seq .leaf (.seq (.seq (.reg ⟨[(83,ah)],[],(rg 62 21 [])⟩) .leaf) (.seq .leaf (.seq (.seq (.reg ⟨[(120,ah)],[],(rg 88 32 [])⟩) .leaf) .leaf)))))) .leaf)))))) (.seq .leaf (.seq (.seq .leaf (.blk (some ⟨[],[(0,aJ)],(rg 7 1 (rg 15 1 (rg 143 28 [])))⟩) (.loop ⟨[(15,(aj .i64))],[(0,aJ)],(rg 7 1 (rg 143 28 []))⟩ .leaf))) .leaf))))))
theorem Tv(a0:Option Addr)(a1:Sl)(a2:Sl)(H:Heap)(Q:aK×Int×Unit->Heap->Prop):xR a0 a1 a2 H Q=dN C [6,8,12,13,130] Tryz.f80.ntmps Tryz.f80.results.toList [aJ,(aj .i64)] (aP Tryz.f80) Tt [(.pointer a0),a1.v,a2.v] H Q:=by kernel_rfl
theorem Tz{a0:Option Addr}{a1:Sl}{a2:Sl}{H:Heap}{Q:aK×Int×Unit->Heap->Prop}(h:xR a0 a1 a2 H Q):CALL P [aJ,(aj .i64)] iO [(.pointer a0),a1.v,a2.v] H Q:=aC hE Tryz.func80 rfl (by kernel_rfl) (Tv a0 a1 a2 H Q) h
def nZ(a0:aK)(a1:aF)(H:Heap)(Q:Bool×Unit->Heap->Prop):Prop:=
JOIN (fun(j1:(Bool×Unit)×(Unit)->Heap->Prop)=>
aN (decide (a1.Thing<1)) (
j1 ((true,()),(())) H) (
aN (decide (a1.Thing>(a0.things.len:Int))) (
j1 ((true,()),(())) H) (
bQ a0.things.p a0.things.len (IntKind.wrap .i64 (a1.Thing-1)) 11 fun b3 o4=>
LD (aj .u8) H b3 (o4+2) fun(x5:Int)=>
j1 ((x5 !=4,()),(())) H))) fun(y2:(Bool×Unit)×(Unit)) H1=>
aN y2.1.1 (
Q (false,()) H1) (
bQ a0.cards.p a0.cards.len (IntKind.wrap .i64 (a1.Thing-1)) 9 fun b6 o7=>
LD aH H1 b6 (o7+8) fun(x8:Sl)=>
JOIN (fun(j9:(Bool×Unit)×(Unit)->Heap->Prop)=>
aN (decide (a1.Place≥0)) (
aN (decide (a1.Place<(x8.len:Int))) (
bQ x8.p x8.len a1.Place 8 fun b11 o12=>
LD (aj .u8) H1 b11 (o12+0) fun(x13:Int)=>
aN (x13==5) (
bQ x8.p x8.len a1.Place 8 fun b14 o15=>
LD aQ H1 b14 o15 fun(x16:aU)=>
CALL P [ah] wY [(aQ.enc x16),(aQ.enc a1.What)] H1 fun(x17:Bool×Unit) H3=>
j9 ((x17.1,()),(())) H3) (
j9 ((false,()),(())) H1)) (
j9 ((false,()),(())) H1)) (
j9 ((false,()),(())) H1)) fun(y10:(Bool×Unit)×(Unit)) H2=>
Q (y10.1.1,()) H2)
def IX:dw:=(.seq .leaf (.seq (.seq (.reg ⟨[(27,ah)],[],(rg 6 21 [])⟩) .leaf) (.seq .leaf (.seq (.reg ⟨[(4,ah)],[],(rg 36 29 [])⟩) .leaf))))
theorem IY(a0:aK)(a1:aF)(H:Heap)(Q:Bool×Unit->Heap->Prop):nZ a0 a1 H Q=dN C [2,3] Tryz.f81.ntmps Tryz.f81.results.toList [ah] (aP Tryz.f81) IX [(aJ.enc a0),(ay.enc a1)] H Q:=by kernel_rfl
theorem IZ{a0:aK}{a1:aF}{H:Heap}{Q:Bool×Unit->Heap->Prop}(h:nZ a0 a1 H Q):CALL P [ah] jU [(aJ.enc a0),(ay.enc a1)] H Q:=aC hE Tryz.func81 rfl (by kernel_rfl) (IY a0 a1 H Q) h
def lC(a0:aK)(a1:Sl)(a2:aF)(H:Heap)(Q:Sl×Unit->Heap->Prop):Prop:=
JOIN (fun(j1:(Sl×Unit)×(Unit)->Heap->Prop)=>
LOOP (fun(r3:(Sl×Int×Unit)×(Unit)->Heap->Prop) (s4:(Sl×Int×Unit)×(Unit)) H2=>
aN (decide (s4.1.2.1<(a0.order.len:Int))) (
bQ a0.order.p a0.order.len s4.1.2.1 1 fun b5 o6=>
LD (aj .i64) H2 b5 o6 fun(x7:Int)=>
CALL P [ah] kV [(aJ.enc a0),a1.v,(ay.enc a2),(.int .i64 x7)] H2 fun(x8:Bool×Unit) H3=>
JOIN (fun(j9:(Sl×Unit)×(Unit)->Heap->Prop)=>
aN x8.1 (
vk aH (lenV s4.1.1.v+1) (dR E [27,27] s4.1.1.v 1 [(.int .i64 (IntKind.wrap .i64 (x7+1)))] H3) fun(x11:Sl) H5=>
j9 ((x11,()),(())) H5) (
j9 ((s4.1.1,()),(())) H3)) fun(y10:(Sl×Unit)×(Unit)) H4=>
r3 ((y10.1.1,IntKind.wrap .i64 (s4.1.2.1+1),()),(())) H4) (
j1 ((s4.1.1,()),(())) H2)) (((Sl.mk none 0 0),0,()),(())) H) fun(y2:(Sl×Unit)×(Unit)) H1=>
Q (y2.1.1,()) H1
def EK:dw:=(.seq .leaf (.seq .leaf (.seq (.seq .leaf (.blk (some ⟨[(7,aH)],[],(rg 9 1 (rg 13 15 []))⟩) (.loop ⟨[(7,aH),(13,(aj .i64))],[],(rg 9 1 (rg 14 14 []))⟩ (.seq .leaf (.seq .leaf (.seq (.blk none (.seq .leaf (.seq .leaf (.cond (some ⟨[(7,aH)],[],(rg 22 5 [])⟩) .leaf .leaf)))) .leaf)))))) .leaf)))
theorem EM(a0:aK)(a1:Sl)(a2:aF)(H:Heap)(Q:Sl×Unit->Heap->Prop):lC a0 a1 a2 H Q=dN C [3,5,25] Tryz.f82.ntmps Tryz.f82.results.toList [aH] (aP Tryz.f82) EK [(aJ.enc a0),a1.v,(ay.enc a2)] H Q:=by kernel_rfl
theorem EN{a0:aK}{a1:Sl}{a2:aF}{H:Heap}{Q:Sl×Unit->Heap->Prop}(h:lC a0 a1 a2 H Q):CALL P [aH] fE [(aJ.enc a0),a1.v,(ay.enc a2)] H Q:=aC hE Tryz.func82 rfl (by kernel_rfl) (EM a0 a1 a2 H Q) h
def jl(a0:Sl)(a1:Int)(H:Heap)(Q:Int×Unit->Heap->Prop):Prop:=
JOIN (fun(j1:(Unit)×(Unit)->Heap->Prop)=>
LOOP (fun(r3:(Int×Unit)×(Unit)->Heap->Prop) (s4:(Int×Unit)×(Unit)) H2=>
aN (decide (s4.1.1<(a0.len:Int))) (
bQ a0.p a0.len s4.1.1 1 fun b5 o6=>
LD (aj .i64) H2 b5 o6 fun(x7:Int)=>
aN (a1==x7) (
Q (s4.1.1,()) H2) (
r3 ((IntKind.wrap .i64 (s4.1.1+1),()),(())) H2)) (
j1 ((()),(())) H2)) ((0,()),(())) H) fun(y2:(Unit)×(Unit)) H1=>
Q ((-1),()) H1
def Ai:dw:=(.seq .leaf (.seq (.seq .leaf (.blk (some ⟨[],[],(rg 4 2 (rg 8 11 []))⟩) (.loop ⟨[(8,(aj .i64))],[],(rg 4 2 (rg 9 10 []))⟩ .leaf))) .leaf))
theorem Aj(a0:Sl)(a1:Int)(H:Heap)(Q:Int×Unit->Heap->Prop):jl a0 a1 H Q=dN C [] Tryz.f83.ntmps Tryz.f83.results.toList [(aj .i64)] (aP Tryz.f83) Ai [a0.v,(.int .i64 a1)] H Q:=by kernel_rfl
theorem Ak{a0:Sl}{a1:Int}{H:Heap}{Q:Int×Unit->Heap->Prop}(h:jl a0 a1 H Q):CALL P [(aj .i64)] nN [a0.v,(.int .i64 a1)] H Q:=aC hE Tryz.func83 rfl (by kernel_rfl) (Aj a0 a1 H Q) h
def lD(a0:aK)(a1:Sl)(a2:aF)(H:Heap)(Q:Sl×Unit->Heap->Prop):Prop:=
CALL P [aH] dh [a1.v] H fun(x1:Sl×Unit) H1=>
CALL P [aH] fE [(aJ.enc a0),a1.v,(ay.enc a2)] H1 fun(x2:Sl×Unit) H2=>
JOIN (fun(j3:(Unit)×(Unit)->Heap->Prop)=>
LOOP (fun(r5:(Int×Unit)×(Unit)->Heap->Prop) (s6:(Int×Unit)×(Unit)) H4=>
aN (decide (s6.1.1<(x2.1.len:Int))) (
bQ x2.1.p x2.1.len s6.1.1 1 fun b7 o8=>
LD (aj .i64) H4 b7 o8 fun(x9:Int)=>
bQ x1.1.p x1.1.len (IntKind.wrap .i64 (x9-1)) 5 fun b10 o11=>
JOIN (fun(j12:(Unit)×(Unit)->Heap->Prop)=>
aN (a2.What.Verb==10) (
bQ a1.p a1.len (IntKind.wrap .i64 (a2.Thing-1)) 5 fun b14 o15=>
LD (aj .i64) H4 b14 (o15+0) fun(x16:Int)=>
ST H4 b10 (o11+0) [(.int .i64 x16)] fun H6=>
j12 ((()),(())) H6) (
JOIN (fun(j17:(Unit)×(Unit)->Heap->Prop)=>
aN (a2.What.Verb==11) (
ST H4 b10 (o11+1) [(.int .u8 a2.What.Suit)] fun H8=>
j17 ((()),(())) H8) (
JOIN (fun(j19:(Unit)×(Unit)->Heap->Prop)=>
aN (a2.What.Verb==12) (
LD (aj .u16) H4 b10 (o11+2) fun(x21:Int)=>
CALL P [(aj .u16)] zO [(.int .u16 x21),(.int .u8 a2.What.Trait)] H4 fun(x22:Int×Unit) H10=>
ST H10 b10 (o11+2) [(.int .u16 x22.1)] fun H11=>
j19 ((()),(())) H11) (
JOIN (fun(j23:(Unit)×(Unit)->Heap->Prop)=>
aN (a2.What.Verb==13) (
LD (aj .u16) H4 b10 (o11+2) fun(x25:Int)=>
CALL P [(aj .u16)] qU [(.int .u16 x25),(.int .u8 a2.What.Trait)] H4 fun(x26:Int×Unit) H13=>
ST H13 b10 (o11+2) [(.int .u16 x26.1)] fun H14=>
j23 ((()),(())) H14) (
JOIN (fun(j27:(Unit)×(Unit)->Heap->Prop)=>
aN (a2.What.Verb==14) (
ST H4 b10 (o11+3) [(.int .i64 a2.What.Count)] fun H16=>
qB ((some (.int .i64 a2.What.Count):Option Value)=some (.int .i64 a2.What.Count)) (
ST H16 b10 (o11+4) [(.int .i64 a2.What.Count)] fun H17=>
j27 ((()),(())) H17)) (
JOIN (fun(j29:(Unit)×(Unit)->Heap->Prop)=>
aN (a2.What.Verb==15) (
LD (aj .i64) H4 b10 (o11+3) fun(x31:Int)=>
ST H4 b10 (o11+3) [(.int .i64 (IntKind.wrap .i64 (x31+a2.What.Count)))] fun H19=>
LD (aj .i64) H19 b10 (o11+4) fun(x32:Int)=>
ST H19 b10 (o11+4) [(.int .i64 (IntKind.wrap .i64 (x32+a2.What.Count)))] fun H20=>
j29 ((()),(())) H20) (
j29 ((()),(())) H4)) fun(y30:(Unit)×(Unit)) H18=>
j27 ((()),(())) H18)) fun(y28:(Unit)×(Unit)) H15=>
j23 ((()),(())) H15)) fun(y24:(Unit)×(Unit)) H12=>
j19 ((()),(())) H12)) fun(y20:(Unit)×(Unit)) H9=>
j17 ((()),(())) H9)) fun(y18:(Unit)×(Unit)) H7=>
j12 ((()),(())) H7)) fun(y13:(Unit)×(Unit)) H5=>
r5 ((IntKind.wrap .i64 (s6.1.1+1),()),(())) H5) (
j3 ((()),(())) H4)) ((0,()),(())) H2) fun(y4:(Unit)×(Unit)) H3=>
Q (x1.1,()) H3
def EO:dw:=(.seq .leaf (.seq .leaf (.seq (.seq .leaf (.blk (some ⟨[],[],(rg 9 2 (rg 18 94 []))⟩) (.loop ⟨[(18,(aj .i64))],[],(rg 9 2 (rg 19 93 []))⟩ (.seq .leaf (.seq .leaf (.seq (.blk none (.seq .leaf (.seq .leaf (.seq .leaf (.blk none (.seq .leaf (.cond (some ⟨[],[],(rg 31 80 [])⟩) .leaf (.seq .leaf (.cond (some ⟨[],[],(rg 43 68 [])⟩) .leaf (.seq .leaf (.cond (some ⟨[],[],(rg 51 60 [])⟩) .leaf (.seq .leaf (.cond (some ⟨[],[],(rg 64 47 [])⟩) .leaf (.seq .leaf (.cond (some ⟨[],[],(rg 77 34 [])⟩) .leaf (.seq .leaf (.cond (some ⟨[],[],(rg 91 20 [])⟩) .leaf .leaf))))))))))))))))) .leaf)))))) .leaf)))
theorem EP(a0:aK)(a1:Sl)(a2:aF)(H:Heap)(Q:Sl×Unit->Heap->Prop):lD a0 a1 a2 H Q=dN C [3,5] Tryz.f84.ntmps Tryz.f84.results.toList [aH] (aP Tryz.f84) EO [(aJ.enc a0),a1.v,(ay.enc a2)] H Q:=by kernel_rfl
theorem ES{a0:aK}{a1:Sl}{a2:aF}{H:Heap}{Q:Sl×Unit->Heap->Prop}(h:lD a0 a1 a2 H Q):CALL P [aH] gI [(aJ.enc a0),a1.v,(ay.enc a2)] H Q:=aC hE Tryz.func84 rfl (by kernel_rfl) (EP a0 a1 a2 H Q) h
def rG(a0:Option Addr)(a1:Sl)(H:Heap)(Q:Sl×Bool×Unit->Heap->Prop):Prop:=
GEN aH (dY E 30 (.int .i64 (a1.len:Int)) (.int .i64 (a1.len:Int)) H) fun(x1:Sl) H1=>
JOIN (fun(j2:(Unit)×(Unit)->Heap->Prop)=>
LOOP (fun(r4:(Int×Unit)×(Unit)->Heap->Prop) (s5:(Int×Unit)×(Unit)) H3=>
aN (decide (s5.1.1<(a1.len:Int))) (
bQ a1.p a1.len s5.1.1 11 fun b6 o7=>
LD aV H3 b6 o7 fun(x8:bf)=>
CALL P [aI,(aj .i64)] qV [(.pointer a0),(aV.enc x8)] H3 fun(x9:aB×Int×Unit) H4=>
aN (x9.2.1 !=0) (
Q ((Sl.mk none 0 0),false,()) H4) (
bQ a1.p a1.len s5.1.1 11 fun b10 o11=>
LD (aj .u8) H4 b10 (o11+2) fun(x12:Int)=>
JOIN (fun(j13:(Unit)×(Unit)->Heap->Prop)=>
aN (x12==4) (
bQ x1.p x1.len s5.1.1 5 fun b15 o16=>
ST H4 b15 o16 (aI.cells x9.1) fun H6=>
j13 ((()),(())) H6) (
j13 ((()),(())) H4)) fun(y14:(Unit)×(Unit)) H5=>
r4 ((IntKind.wrap .i64 (s5.1.1+1),()),(())) H5)) (
j2 ((()),(())) H3)) ((0,()),(())) H1) fun(y3:(Unit)×(Unit)) H2=>
Q (x1,true,()) H2
def MK:dw:=(.seq .leaf (.seq .leaf (.seq (.seq .leaf (.blk (some ⟨[],[],(rg 4 2 (rg 7 3 (rg 13 27 [])))⟩) (.loop ⟨[(7,(aj .i64))],[],(rg 4 2 (rg 8 2 (rg 13 27 [])))⟩ (.seq .leaf (.seq (.blk none (.seq .leaf (.seq .leaf (.seq .leaf (.cond (some ⟨[],[],[36,37,38,39]⟩) .leaf .leaf))))) .leaf))))) .leaf)))
theorem MN(a0:Option Addr)(a1:Sl)(H:Heap)(Q:Sl×Bool×Unit->Heap->Prop):rG a0 a1 H Q=dN C [8] Tryz.f85.ntmps Tryz.f85.results.toList [aH,ah] (aP Tryz.f85) MK [(.pointer a0),a1.v] H Q:=by kernel_rfl
theorem MO{a0:Option Addr}{a1:Sl}{H:Heap}{Q:Sl×Bool×Unit->Heap->Prop}(h:rG a0 a1 H Q):CALL P [aH,ah] qP [(.pointer a0),a1.v] H Q:=aC hE Tryz.func85 rfl (by kernel_rfl) (MN a0 a1 H Q) h
def rH(a0:Option Addr)(a1:Sl)(a2:Sl)(a3:Int)(H:Heap)(Q:Sl×Int×Unit->Heap->Prop):Prop:=
CALL P [(aj .i64)] lQ [(.pointer a0),a1.v,a2.v] H fun(x1:Int×Unit) H1=>
aN (x1.1 !=0) (
Q ((Sl.mk none 0 0),x1.1,()) H1) (
JOIN (fun(j2:(Bool×Unit)×(Unit)->Heap->Prop)=>
aN (decide (a3<1)) (
j2 ((true,()),(())) H1) (
j2 ((decide (a3>5),()),(())) H1)) fun(y3:(Bool×Unit)×(Unit)) H2=>
aN y3.1.1 (
Q ((Sl.mk none 0 0),2,()) H2) (
CALL P [aH] qW [(.pointer a0),a1.v,a2.v,(.int .i64 a3)] H2 fun(x4:Sl×Unit) H3=>
Q (x4.1,0,()) H3))
def MP:dw:=(.seq .leaf (.seq .leaf (.seq .leaf (.seq (.seq (.reg ⟨[(23,ah)],[],(rg 18 5 [])⟩) .leaf) .leaf))))
theorem MQ(a0:Option Addr)(a1:Sl)(a2:Sl)(a3:Int)(H:Heap)(Q:Sl×Int×Unit->Heap->Prop):rH a0 a1 a2 a3 H Q=dN C [] Tryz.f86.ntmps Tryz.f86.results.toList [aH,(aj .i64)] (aP Tryz.f86) MP [(.pointer a0),a1.v,a2.v,(.int .i64 a3)] H Q:=by kernel_rfl
theorem MR{a0:Option Addr}{a1:Sl}{a2:Sl}{a3:Int}{H:Heap}{Q:Sl×Int×Unit->Heap->Prop}(h:rH a0 a1 a2 a3 H Q):CALL P [aH,(aj .i64)] lV [(.pointer a0),a1.v,a2.v,(.int .i64 a3)] H Q:=aC hE Tryz.func86 rfl (by kernel_rfl) (MQ a0 a1 a2 a3 H Q) h
def Am(a0:Option Addr)(a1:Sl)(a2:Sl)(a3:Sl)(H:Heap)(Q:Int×Unit->Heap->Prop):Prop:=
JOIN (fun(j1:(Int×Int×Unit)×(Unit)->Heap->Prop)=>
LOOP (fun(r3:(Int×Int×Int×Unit)×(Unit)->Heap->Prop) (s4:(Int×Int×Int×Unit)×(Unit)) H2=>
aN (decide (s4.1.2.2.1<(a3.len:Int))) (
JOIN (fun(j5:(Int×Int×Unit)×(Unit)->Heap->Prop)=>
bQ a3.p a3.len s4.1.2.2.1 10 fun b7 o8=>
LD ay H2 b7 o8 fun(x9:aF)=>
bQ a3.p a3.len s4.1.2.1 10 fun b10 o11=>
LD ay H2 b10 o11 fun(x12:aF)=>
CALL P [ah] qw [a1.v,(ay.enc x9),(ay.enc x12)] H2 fun(x13:Bool×Unit) H4=>
JOIN (fun(j14:(Int×Unit)×(Unit)->Heap->Prop)=>
aN x13.1 (
j14 ((s4.1.2.2.1,()),(())) H4) (
j14 ((s4.1.2.1,()),(())) H4)) fun(y15:(Int×Unit)×(Unit)) H5=>
JOIN (fun(j16:(Bool×Unit)×(Unit)->Heap->Prop)=>
LOOP (fun(r18:(Bool×Int×Unit)×(Unit)->Heap->Prop) (s19:(Bool×Int×Unit)×(Unit)) H7=>
JOIN (fun(j20:(Bool×Unit)×(Unit)->Heap->Prop)=>
aN (decide (s19.1.2.1<(a3.len:Int))) (
j20 ((!s19.1.1,()),(())) H7) (
j20 ((false,()),(())) H7)) fun(y21:(Bool×Unit)×(Unit)) H8=>
aN y21.1.1 (
JOIN (fun(j22:(Bool×Unit)×(Unit)->Heap->Prop)=>
aN (s19.1.2.1 !=s4.1.2.2.1) (
bQ a3.p a3.len s4.1.2.2.1 10 fun b24 o25=>
LD ay H8 b24 o25 fun(x26:aF)=>
bQ a3.p a3.len s19.1.2.1 10 fun b27 o28=>
LD ay H8 b27 o28 fun(x29:aF)=>
CALL P [ah] qX [(.pointer a0),a1.v,a2.v,(ay.enc x26),(ay.enc x29)] H8 fun(x30:Bool×Unit) H10=>
j22 ((x30.1,()),(())) H10) (
j22 ((false,()),(())) H8)) fun(y23:(Bool×Unit)×(Unit)) H9=>
r18 ((y23.1.1,IntKind.wrap .i64 (s19.1.2.1+1),()),(())) H9) (
j16 ((s19.1.1,()),(())) H8)) ((false,0,()),(())) H5) fun(y17:(Bool×Unit)×(Unit)) H6=>
JOIN (fun(j31:(Bool×Unit)×(Unit)->Heap->Prop)=>
aN (!y17.1.1) (
aN (decide (s4.1.1<0)) (
j31 ((true,()),(())) H6) (
bQ a3.p a3.len s4.1.2.2.1 10 fun b33 o34=>
LD ay H6 b33 o34 fun(x35:aF)=>
bQ a3.p a3.len s4.1.1 10 fun b36 o37=>
LD ay H6 b36 o37 fun(x38:aF)=>
CALL P [ah] qw [a1.v,(ay.enc x35),(ay.enc x38)] H6 fun(x39:Bool×Unit) H12=>
j31 ((x39.1,()),(())) H12)) (
j31 ((false,()),(())) H6)) fun(y32:(Bool×Unit)×(Unit)) H11=>
JOIN (fun(j40:(Int×Unit)×(Unit)->Heap->Prop)=>
aN y32.1.1 (
j40 ((s4.1.2.2.1,()),(())) H11) (
j40 ((s4.1.1,()),(())) H11)) fun(y41:(Int×Unit)×(Unit)) H13=>
j5 ((y41.1.1,y15.1.1,()),(())) H13) fun(y6:(Int×Int×Unit)×(Unit)) H3=>
r3 ((y6.1.1,y6.1.2.1,IntKind.wrap .i64 (s4.1.2.2.1+1),()),(())) H3) (
j1 ((s4.1.1,s4.1.2.1,()),(())) H2)) (((-1),0,0,()),(())) H) fun(y2:(Int×Int×Unit)×(Unit)) H1=>
aN (decide (y2.1.1<0)) (
Q (y2.1.2.1,()) H1) (
Q (y2.1.1,()) H1)
def WQ:dw:=(.seq .leaf (.seq .leaf (.seq (.seq .leaf (.blk (some ⟨[(9,(aj .i64)),(10,(aj .i64))],[],(rg 11 66 [])⟩) (.loop ⟨[(9,(aj .i64)),(10,(aj .i64)),(11,(aj .i64))],[],(rg 12 65 [])⟩ (.seq .leaf (.seq (.blk (some ⟨[(9,(aj .i64)),(10,(aj .i64))],[],(rg 12 2 (rg 20 57 []))⟩) (.seq (.seq .leaf (.cond (some ⟨[(10,(aj .i64))],[],[30]⟩) .leaf .leaf)) (.seq .leaf (.seq (.seq .leaf (.blk (some ⟨[(12,ah)],[],(rg 13 1 (rg 31 27 []))⟩) (.loop ⟨[(12,ah),(13,(aj .i64))],[],(rg 31 27 [])⟩ (.seq (.seq (.reg ⟨[(38,ah)],[],(rg 31 7 [])⟩) .leaf) (.seq (.blk none (.reg ⟨[(12,ah)],[],(rg 41 17 [])⟩)) .leaf))))) (.seq (.reg ⟨[(75,ah)],[],(rg 58 17 [])⟩) (.cond (some ⟨[(9,(aj .i64))],[],[76]⟩) .leaf .leaf)))))) .leaf))))) .leaf)))
theorem WR(a0:Option Addr)(a1:Sl)(a2:Sl)(a3:Sl)(H:Heap)(Q:Int×Unit->Heap->Prop):Am a0 a1 a2 a3 H Q=dN C [] Tryz.f87.ntmps Tryz.f87.results.toList [(aj .i64)] (aP Tryz.f87) WQ [(.pointer a0),a1.v,a2.v,a3.v] H Q:=by kernel_rfl
theorem WS{a0:Option Addr}{a1:Sl}{a2:Sl}{a3:Sl}{H:Heap}{Q:Int×Unit->Heap->Prop}(h:Am a0 a1 a2 a3 H Q):CALL P [(aj .i64)] zN [(.pointer a0),a1.v,a2.v,a3.v] H Q:=aC hE Tryz.func87 rfl (by kernel_rfl) (WR a0 a1 a2 a3 H Q) h
def xU(a0:Option Addr)(a1:Sl)(a2:Sl)(a3:aF)(H:Heap)(Q:Sl×Unit->Heap->Prop):Prop:=
vk aH (lenV ((Sl.mk none 0 0)).v+(lX a2.v).getD 0) (dF E [30,30] ((Sl.mk none 0 0)).v a2.v H) fun(x1:Sl) H1=>
CALL P [aH] jJ [(.pointer a0),a1.v,a2.v,(ay.enc a3)] H1 fun(x2:Sl×Unit) H2=>
bQ a2.p a2.len (IntKind.wrap .i64 (a3.Thing-1)) 5 fun b3 o4=>
LD (aj .i64) H2 b3 (o4+0) fun(x5:Int)=>
JOIN (fun(j6:(Unit)×(Unit)->Heap->Prop)=>
LOOP (fun(r8:(Int×Unit)×(Unit)->Heap->Prop) (s9:(Int×Unit)×(Unit)) H4=>
aN (decide (s9.1.1<(x2.1.len:Int))) (
bQ x2.1.p x2.1.len s9.1.1 1 fun b10 o11=>
LD (aj .i64) H4 b10 o11 fun(x12:Int)=>
bQ x2.1.p x2.1.len s9.1.1 1 fun b13 o14=>
LD (aj .i64) H4 b13 o14 fun(x15:Int)=>
bQ x1.p x1.len (IntKind.wrap .i64 (x15-1)) 5 fun b16 o17=>
LD aI H4 b16 o17 fun(x18:aB)=>
CALL P [aI] zQ [(aI.enc x18),(aQ.enc a3.What),(.int .i64 x5)] H4 fun(x19:aB×Unit) H5=>
LD (aj .i64) H5 b10 o11 fun(x20:Int)=>
qB ((aj .i64).enc x20=(.int .i64 x12)) (
bQ x1.p x1.len (IntKind.wrap .i64 (x12-1)) 5 fun b21 o22=>
ST H5 b21 o22 (aI.cells x19.1) fun H6=>
r8 ((IntKind.wrap .i64 (s9.1.1+1),()),(())) H6)) (
j6 ((()),(())) H4)) ((0,()),(())) H2) fun(y7:(Unit)×(Unit)) H3=>
Q (x1,()) H3
def TA:dw:=(.seq .leaf (.seq .leaf (.seq .leaf (.seq .leaf (.seq .leaf (.seq (.seq .leaf (.blk (some ⟨[],[],(rg 12 1 (rg 28 25 []))⟩) (.loop ⟨[(12,(aj .i64))],[],(rg 28 25 [])⟩ .leaf))) .leaf))))))
theorem TB(a0:Option Addr)(a1:Sl)(a2:Sl)(a3:aF)(H:Heap)(Q:Sl×Unit->Heap->Prop):xU a0 a1 a2 a3 H Q=dN C [7] Tryz.f88.ntmps Tryz.f88.results.toList [aH] (aP Tryz.f88) TA [(.pointer a0),a1.v,a2.v,(ay.enc a3)] H Q:=by kernel_rfl
theorem TD{a0:Option Addr}{a1:Sl}{a2:Sl}{a3:aF}{H:Heap}{Q:Sl×Unit->Heap->Prop}(h:xU a0 a1 a2 a3 H Q):CALL P [aH] lM [(.pointer a0),a1.v,a2.v,(ay.enc a3)] H Q:=aC hE Tryz.func88 rfl (by kernel_rfl) (TB a0 a1 a2 a3 H Q) h
def uD(a0:Option Addr)(a1:aB)(a2:Int×Int×Int×Int)(H:Heap)(Q:aB×Int×Unit->Heap->Prop):Prop:=
NEW H [(.int .i64 a2.1),(.int .i64 a2.2.1),(.int .i64 a2.2.2.1),(.int .i64 a2.2.2.2)] 4 fun H1=>
CALL P [ah] bV [(.pointer a0)] H1 fun(x1:Bool×Unit) H2=>
aN x1.1 (
Q ((aB.mk 0 0 0 0 0),1,()) H2) (
JOIN (fun(j2:(Unit)×(aB×Unit)->Heap->Prop)=>
LOOP (fun(r4:(Int×Unit)×(aB×Unit)->Heap->Prop) (s5:(Int×Unit)×(aB×Unit)) H4=>
aN (decide (s5.1.1<4)) (
JOIN (fun(j6:(Bool×Unit)×(Unit)->Heap->Prop)=>
oD 4 s5.1.1 (
LD (aj .i64) H4 H.length (0+s5.1.1.toNat*1) fun(x8:Int)=>
aN (decide (x8<0)) (
j6 ((true,()),(())) H4) (
oD 4 s5.1.1 (
LD (aj .i64) H4 H.length (0+s5.1.1.toNat*1) fun(x9:Int)=>
j6 ((decide (x9>99),()),(())) H4)))) fun(y7:(Bool×Unit)×(Unit)) H5=>
aN y7.1.1 (
Q ((aB.mk 0 0 0 0 0),2,()) H5) (
r4 ((IntKind.wrap .i64 (s5.1.1+1),()),(s5.2.1,())) H5)) (
j2 ((()),(s5.2.1,())) H4)) ((0,()),((aB.mk 0 0 0 0 0),())) H2) fun(y3:(Unit)×(aB×Unit)) H3=>
JOIN (fun(j10:(Unit)×(aB×Unit)->Heap->Prop)=>
LOOP (fun(r12:(Int×Unit)×(aB×Unit)->Heap->Prop) (s13:(Int×Unit)×(aB×Unit)) H7=>
aN (decide (s13.1.1<4)) (
CALL P [aT,ah] kW [(.pointer a0),(.int .u8 (IntKind.wrap .u8 (IntKind.wrap .i64 (s13.1.1+1))))] H7 fun(x14:au×Bool×Unit) H8=>
JOIN (fun(j15:(Unit)×(aB×Unit)->Heap->Prop)=>
aN x14.2.1 (
oD 4 s13.1.1 (
LD (aj .i64) H8 H.length (0+s13.1.1.toNat*1) fun(x17:Int)=>
oD 4 s13.1.1 (
LD (aj .i64) H8 H.length (0+s13.1.1.toNat*1) fun(x18:Int)=>
j15 ((()),((aB.mk s13.2.1.Holder s13.2.1.Suit s13.2.1.Traits (IntKind.wrap .i64 (s13.2.1.Power+(IntKind.wrap .i64 (x17*x14.1.Power)))) (IntKind.wrap .i64 (s13.2.1.Health+(IntKind.wrap .i64 (x18*x14.1.Health))))),())) H8))) (
j15 ((()),(s13.2.1,())) H8)) fun(y16:(Unit)×(aB×Unit)) H9=>
r12 ((IntKind.wrap .i64 (s13.1.1+1),()),(y16.2.1,())) H9) (
j10 ((()),(s13.2.1,())) H7)) ((0,()),(a1,())) H3) fun(y11:(Unit)×(aB×Unit)) H6=>
JOIN (fun(j19:(Unit)×(aB×Unit)->Heap->Prop)=>
aN (decide (y11.2.1.Power<0)) (
j19 ((()),((aB.mk y11.2.1.Holder y11.2.1.Suit y11.2.1.Traits 0 y11.2.1.Health),())) H6) (
j19 ((()),(y11.2.1,())) H6)) fun(y20:(Unit)×(aB×Unit)) H10=>
Q (y20.2.1,0,()) H10)
def P6:dw:=(.seq .leaf (.seq .leaf (.seq (.seq .leaf (.blk (some ⟨[],[(1,aI)],(rg 7 2 (rg 15 15 []))⟩) (.loop ⟨[(8,(aj .i64))],[(1,aI)],(rg 7 1 (rg 15 15 []))⟩ (.seq .leaf (.seq (.blk none (.seq (.reg ⟨[(28,ah)],[],(rg 19 9 [])⟩) .leaf)) .leaf))))) (.seq (.seq .leaf (.blk (some ⟨[],[(0,aI)],(rg 9 3 (rg 30 33 []))⟩) (.loop ⟨[(9,(aj .i64))],[(0,aI)],(rg 10 2 (rg 30 33 []))⟩ (.seq .leaf (.seq (.blk none (.seq .leaf (.seq .leaf (.cond (some ⟨[],[(0,aI)],(rg 43 20 [])⟩) .leaf .leaf)))) .leaf))))) (.seq (.seq .leaf (.cond (some ⟨[],[(0,aI)],[66]⟩) .leaf .leaf)) .leaf)))))
theorem P7(a0:Option Addr)(a1:aB)(a2:Int×Int×Int×Int)(H:Heap)(Q:aB×Int×Unit->Heap->Prop):uD a0 a1 a2 H Q=dN C [4,6,10] Tryz.f89.ntmps Tryz.f89.results.toList [aI,(aj .i64)] (aP Tryz.f89) P6 [(.pointer a0),(aI.enc a1),(cO.enc a2)] H Q:=by kernel_rfl
theorem P8{a0:Option Addr}{a1:aB}{a2:Int×Int×Int×Int}{H:Heap}{Q:aB×Int×Unit->Heap->Prop}(h:uD a0 a1 a2 H Q):CALL P [aI,(aj .i64)] tX [(.pointer a0),(aI.enc a1),(cO.enc a2)] H Q:=aC hE Tryz.func89 rfl (by kernel_rfl) (P7 a0 a1 a2 H Q) h
def xW(a0:Option Addr)(a1:Sl)(a2:Sl)(a3:aF)(H:Heap)(Q:Sl×Int×Unit->Heap->Prop):Prop:=
CALL P [(aj .i64)] lQ [(.pointer a0),a1.v,a2.v] H fun(x1:Int×Unit) H1=>
aN (x1.1 !=0) (
Q ((Sl.mk none 0 0),x1.1,()) H1) (
CALL P [ah] wz [(.pointer a0),a1.v,(ay.enc a3)] H1 fun(x2:Bool×Unit) H2=>
aN (!x2.1) (
Q ((Sl.mk none 0 0),2,()) H2) (
CALL P [aH] jJ [(.pointer a0),a1.v,a2.v,(ay.enc a3)] H2 fun(x3:Sl×Unit) H3=>
Q (x3.1,0,()) H3))
def TG:dw:=.leaf
theorem TJ(a0:Option Addr)(a1:Sl)(a2:Sl)(a3:aF)(H:Heap)(Q:Sl×Int×Unit->Heap->Prop):xW a0 a1 a2 a3 H Q=dN C [7] Tryz.f90.ntmps Tryz.f90.results.toList [aH,(aj .i64)] (aP Tryz.f90) TG [(.pointer a0),a1.v,a2.v,(ay.enc a3)] H Q:=by kernel_rfl
theorem TL{a0:Option Addr}{a1:Sl}{a2:Sl}{a3:aF}{H:Heap}{Q:Sl×Int×Unit->Heap->Prop}(h:xW a0 a1 a2 a3 H Q):CALL P [aH,(aj .i64)] wV [(.pointer a0),a1.v,a2.v,(ay.enc a3)] H Q:=aC hE Tryz.func90 rfl (by kernel_rfl) (TJ a0 a1 a2 a3 H Q) h
def xX(a0:Option Addr)(a1:Sl)(a2:Sl)(a3:aF)(H:Heap)(Q:Sl×Int×Unit->Heap->Prop):Prop:=
CALL P [(aj .i64)] lQ [(.pointer a0),a1.v,a2.v] H fun(x1:Int×Unit) H1=>
aN (x1.1 !=0) (
Q ((Sl.mk none 0 0),x1.1,()) H1) (
CALL P [ah] wz [(.pointer a0),a1.v,(ay.enc a3)] H1 fun(x2:Bool×Unit) H2=>
aN (!x2.1) (
Q ((Sl.mk none 0 0),2,()) H2) (
CALL P [aH] lM [(.pointer a0),a1.v,a2.v,(ay.enc a3)] H2 fun(x3:Sl×Unit) H3=>
Q (x3.1,0,()) H3))
def TN:dw:=.leaf
theorem TQ(a0:Option Addr)(a1:Sl)(a2:Sl)(a3:aF)(H:Heap)(Q:Sl×Int×Unit->Heap->Prop):xX a0 a1 a2 a3 H Q=dN C [7] Tryz.f91.ntmps Tryz.f91.results.toList [aH,(aj .i64)] (aP Tryz.f91) TN [(.pointer a0),a1.v,a2.v,(ay.enc a3)] H Q:=by kernel_rfl
theorem TR{a0:Option Addr}{a1:Sl}{a2:Sl}{a3:aF}{H:Heap}{Q:Sl×Int×Unit->Heap->Prop}(h:xX a0 a1 a2 a3 H Q):CALL P [aH,(aj .i64)] wW [(.pointer a0),a1.v,a2.v,(ay.enc a3)] H Q:=aC hE Tryz.func91 rfl (by kernel_rfl) (TQ a0 a1 a2 a3 H Q) h
def uF(a0:Option Addr)(a1:Int)(H:Heap)(Q:aA×Int×Unit->Heap->Prop):Prop:=
CALL P [ah] fO [(.pointer a0)] H fun(x1:Bool×Unit) H1=>
aN x1.1 (
Q ((aA.mk (ByteArray.mk #[]) 0 0 0 0 0 0 false (Sl.mk none 0 0)),1,()) H1) (
JOIN (fun(j2:(Bool×Unit)×(Unit)->Heap->Prop)=>
NIL a0 fun b4 o5=>
LD ah H1 b4 (o5+1) fun(x6:Bool)=>
aN (!x6) (
j2 ((true,()),(())) H1) (
aN (decide (a1<1)) (
j2 ((true,()),(())) H1) (
NIL a0 fun b7 o8=>
LD (aj .i64) H1 b7 (o8+2) fun(x9:Int)=>
j2 ((decide (a1>x9),()),(())) H1))) fun(y3:(Bool×Unit)×(Unit)) H2=>
aN y3.1.1 (
Q ((aA.mk (ByteArray.mk #[]) 0 0 0 0 0 0 false (Sl.mk none 0 0)),6,()) H2) (
NIL a0 fun b10 o11=>
oD 64 (IntKind.wrap .i64 (a1-1)) (
LD aG H2 b10 (o11+3+(IntKind.wrap .i64 (a1-1)).toNat*9) fun(x12:aA)=>
CALL P [aG] wu [(aG.enc x12)] H2 fun(x13:aA×Unit) H3=>
Q (x13.1,0,()) H3)))
def P9:dw:=(.seq .leaf (.seq .leaf (.seq (.seq (.reg ⟨[(25,ah)],[],(rg 9 16 [])⟩) .leaf) .leaf)))
theorem Qa(a0:Option Addr)(a1:Int)(H:Heap)(Q:aA×Int×Unit->Heap->Prop):uF a0 a1 H Q=dN C [4] Tryz.f92.ntmps Tryz.f92.results.toList [aG,(aj .i64)] (aP Tryz.f92) P9 [(.pointer a0),(.int .i64 a1)] H Q:=by kernel_rfl
theorem Qb{a0:Option Addr}{a1:Int}{H:Heap}{Q:aA×Int×Unit->Heap->Prop}(h:uF a0 a1 H Q):CALL P [aG,(aj .i64)] tY [(.pointer a0),(.int .i64 a1)] H Q:=aC hE Tryz.func92 rfl (by kernel_rfl) (Qa a0 a1 H Q) h
def kG(a0:Sl)(H:Heap)(Q:Int×Unit->Heap->Prop):Prop:=
JOIN (fun(j1:(Unit)×(Unit)->Heap->Prop)=>
aN (decide ((a0.len:Int)<1)) (
False) (
j1 ((()),(())) H)) fun(y2:(Unit)×(Unit)) H1=>
bQ a0.p a0.len 0 1 fun b3 o4=>
LD (aj .i64) H1 b3 o4 fun(x5:Int)=>
JOIN (fun(j6:(Int×Unit)×(Unit)->Heap->Prop)=>
LOOP (fun(r8:(Int×Int×Unit)×(Unit)->Heap->Prop) (s9:(Int×Int×Unit)×(Unit)) H3=>
aN (decide (s9.1.2.1<(a0.len:Int))) (
bQ a0.p a0.len s9.1.2.1 1 fun b10 o11=>
LD (aj .i64) H3 b10 o11 fun(x12:Int)=>
r8 ((if x12<s9.1.1 then x12 else s9.1.1,IntKind.wrap .i64 (s9.1.2.1+1),()),(())) H3) (
j6 ((s9.1.1,()),(())) H3)) ((x5,1,()),(())) H1) fun(y7:(Int×Unit)×(Unit)) H2=>
Q (y7.1.1,()) H2
def Dw:dw:=(.seq .leaf (.seq (.seq .leaf (.cond (some ⟨[],[],[8]⟩) .leaf .leaf)) (.seq .leaf (.seq (.seq .leaf (.blk (some ⟨[(3,(aj .i64))],[],(rg 4 1 (rg 12 12 []))⟩) (.loop ⟨[(3,(aj .i64)),(4,(aj .i64))],[],(rg 12 12 [])⟩ .leaf))) .leaf))))
theorem Dx(a0:Sl)(H:Heap)(Q:Int×Unit->Heap->Prop):kG a0 H Q=dN C [] Tryz.f93.ntmps Tryz.f93.results.toList [(aj .i64)] (aP Tryz.f93) Dw [a0.v] H Q:=by kernel_rfl
theorem Dy{a0:Sl}{H:Heap}{Q:Int×Unit->Heap->Prop}(h:kG a0 H Q):CALL P [(aj .i64)] ku [a0.v] H Q:=aC hE Tryz.func93 rfl (by kernel_rfl) (Dx a0 H Q) h
def kH(a0:Sl)(H:Heap)(Q:Int×Unit->Heap->Prop):Prop:=
JOIN (fun(j1:(Unit)×(Unit)->Heap->Prop)=>
aN (decide ((a0.len:Int)<1)) (
False) (
j1 ((()),(())) H)) fun(y2:(Unit)×(Unit)) H1=>
bQ a0.p a0.len 0 1 fun b3 o4=>
LD (aj .i64) H1 b3 o4 fun(x5:Int)=>
JOIN (fun(j6:(Int×Unit)×(Unit)->Heap->Prop)=>
LOOP (fun(r8:(Int×Int×Unit)×(Unit)->Heap->Prop) (s9:(Int×Int×Unit)×(Unit)) H3=>
aN (decide (s9.1.2.1<(a0.len:Int))) (
bQ a0.p a0.len s9.1.2.1 1 fun b10 o11=>
LD (aj .i64) H3 b10 o11 fun(x12:Int)=>
r8 ((if x12>s9.1.1 then x12 else s9.1.1,IntKind.wrap .i64 (s9.1.2.1+1),()),(())) H3) (
j6 ((s9.1.1,()),(())) H3)) ((x5,1,()),(())) H1) fun(y7:(Int×Unit)×(Unit)) H2=>
Q (y7.1.1,()) H2
def Dz:dw:=(.seq .leaf (.seq (.seq .leaf (.cond (some ⟨[],[],[8]⟩) .leaf .leaf)) (.seq .leaf (.seq (.seq .leaf (.blk (some ⟨[(3,(aj .i64))],[],(rg 4 1 (rg 12 12 []))⟩) (.loop ⟨[(3,(aj .i64)),(4,(aj .i64))],[],(rg 12 12 [])⟩ .leaf))) .leaf))))
theorem DC(a0:Sl)(H:Heap)(Q:Int×Unit->Heap->Prop):kH a0 H Q=dN C [] Tryz.f94.ntmps Tryz.f94.results.toList [(aj .i64)] (aP Tryz.f94) Dz [a0.v] H Q:=by kernel_rfl
theorem DF{a0:Sl}{H:Heap}{Q:Int×Unit->Heap->Prop}(h:kH a0 H Q):CALL P [(aj .i64)] kC [a0.v] H Q:=aC hE Tryz.func94 rfl (by kernel_rfl) (DC a0 H Q) h
def rJ(a0:Option Addr)(a1:Sl)(a2:Sl)(a3:Int)(H:Heap)(Q:Sl×Int×Unit->Heap->Prop):Prop:=
CALL P [aJ,(aj .i64)] iO [(.pointer a0),a1.v,a2.v] H fun(x1:aK×Int×Unit) H1=>
aN (x1.2.1 !=0) (
Q ((Sl.mk none 0 0),x1.2.1,()) H1) (
JOIN (fun(j2:(Bool×Unit)×(Unit)->Heap->Prop)=>
aN (decide (a3<1)) (
j2 ((true,()),(())) H1) (
j2 ((decide (a3>5),()),(())) H1)) fun(y3:(Bool×Unit)×(Unit)) H2=>
aN y3.1.1 (
Q ((Sl.mk none 0 0),2,()) H2) (
CALL P [aH] jM [(aJ.enc x1.1),a2.v,(.int .i64 a3)] H2 fun(x4:Sl×Unit) H3=>
Q (x4.1,0,()) H3))
def MS:dw:=(.seq .leaf (.seq .leaf (.seq (.blk none (.seq .leaf (.cond none .leaf (.seq (.reg ⟨[(23,ah)],[],(rg 24 6 [])⟩) .leaf)))) .leaf)))
theorem MV(a0:Option Addr)(a1:Sl)(a2:Sl)(a3:Int)(H:Heap)(Q:Sl×Int×Unit->Heap->Prop):rJ a0 a1 a2 a3 H Q=dN C [10] Tryz.f95.ntmps Tryz.f95.results.toList [aH,(aj .i64)] (aP Tryz.f95) MS [(.pointer a0),a1.v,a2.v,(.int .i64 a3)] H Q:=by kernel_rfl
theorem MW{a0:Option Addr}{a1:Sl}{a2:Sl}{a3:Int}{H:Heap}{Q:Sl×Int×Unit->Heap->Prop}(h:rJ a0 a1 a2 a3 H Q):CALL P [aH,(aj .i64)] qQ [(.pointer a0),a1.v,a2.v,(.int .i64 a3)] H Q:=aC hE Tryz.func95 rfl (by kernel_rfl) (MV a0 a1 a2 a3 H Q) h
def dS(a0:Sl)(H:Heap)(Q:Sl×Unit->Heap->Prop):Prop:=
aN a0.p.isNone (
Q ((Sl.mk none 0 0),()) H) (
NEW H [] 5 fun H1=>
vk aH (lenV ((Sl.mk (some ⟨H.length,0,none⟩) 0 0)).v+(lX a0.v).getD 0) (dF E [30,30] ((Sl.mk (some ⟨H.length,0,none⟩) 0 0)).v a0.v H1) fun(x1:Sl) H2=>
Q (x1,()) H2)
def kJ:dw:=.leaf
theorem kK(a0:Sl)(H:Heap)(Q:Sl×Unit->Heap->Prop):dS a0 H Q=dN C [] Tryz.f96.ntmps Tryz.f96.results.toList [aH] (aP Tryz.f96) kJ [a0.v] H Q:=by kernel_rfl
theorem kL{a0:Sl}{H:Heap}{Q:Sl×Unit->Heap->Prop}(h:dS a0 H Q):CALL P [aH] dh [a0.v] H Q:=aC hE Tryz.func96 rfl (by kernel_rfl) (kK a0 H Q) h
end Zv
end Go.Proofs.YtijnknjopjmiiaaGreatDoor
end
