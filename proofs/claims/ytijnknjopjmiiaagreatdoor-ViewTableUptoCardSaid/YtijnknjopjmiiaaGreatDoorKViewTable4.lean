/- Part 4 of the proof of ViewTable: what its row stands on (lemmas about the model, the evaluator, contracts of functions), put together and cut to what is used. -/
import Derived.Test.YtijnknjopjmiiaaGreatDoorKViewTable3
import Derived.KernelRfl
section
namespace Go.Proofs.YtijnknjopjmiiaaGreatDoor
open Go Zq
namespace Zv
set_option maxRecDepth 100000
set_option linter.unusedVariables false
def nC(a0:Option Addr)(H:Heap)(Q:Int×Unit->Heap->Prop):Prop:=
CALL P [(au .i64)] iH [(.pointer a0)] H fun(x1:Int×Unit) H1=>
aK (x1.1 !=0) (
Q (x1.1,()) H1) (
NIL a0 fun b2 o3=>
NIL a0 fun b4 o5=>
LD (au .i64) H1 b4 (o5+2) fun(x6:Int)=>
dW aJ (dS E 127 (.pointer (some ⟨b2,o3+3,none⟩)) none (some (.int .i64 x6)) none H1) fun(x7:Sl)=>
JOIN (fun(j8:(Unit)×(Unit)->Heap->Prop)=>
LOOP (fun(r10:(Int×Unit)×(Unit)->Heap->Prop) (s11:(Int×Unit)×(Unit)) H3=>
aK (decide (s11.1.1<(x7.len:Int))) (
JOIN (fun(j12:(Unit)×(Unit)->Heap->Prop)=>
dw x7.p x7.len s11.1.1 9 fun b14 o15=>
LD aA H3 b14 o15 fun(x16:ay)=>
JOIN (fun(j17:(Unit)×(Unit)->Heap->Prop)=>
LOOP (fun(r19:(Int×Unit)×(Unit)->Heap->Prop) (s20:(Int×Unit)×(Unit)) H6=>
aK (decide (s20.1.1<(x16.Parts.len:Int))) (
JOIN (fun(j21:(Unit)×(Unit)->Heap->Prop)=>
dw x16.Parts.p x16.Parts.len s20.1.1 8 fun b23 o24=>
LD aT H6 b23 o24 fun(x25:aX)=>
aK (x25.Verb !=7) (
j21 ((()),(())) H6) (
CALL P [(au .i64)] gW [(.pointer a0),(.string x25.Name)] H6 fun(x26:Int×Unit) H8=>
aK (decide (x26.1<0)) (
Q (6,()) H8) (
NIL a0 fun b27 o28=>
yu 64 x26.1 (
LD (au .u8) H8 b27 (o28+3+x26.1.toNat*9+2) fun(x29:Int)=>
aK (x29==2) (
Q (8,()) H8) (
j21 ((()),(())) H8))))) fun(y22:(Unit)×(Unit)) H7=>
r19 ((IntKind.wrap .i64 (s20.1.1+1),()),(())) H7) (
j17 ((()),(())) H6)) ((0,()),(())) H3) fun(y18:(Unit)×(Unit)) H5=>
j12 ((()),(())) H5) fun(y13:(Unit)×(Unit)) H4=>
r10 ((IntKind.wrap .i64 (s11.1.1+1),()),(())) H4) (
j8 ((()),(())) H3)) ((0,()),(())) H1) fun(y9:(Unit)×(Unit)) H2=>
NIL a0 fun b30 o31=>
ST H2 b30 (o31+1) [(.bool true)] fun H9=>
Q (0,()) H9)
def FB:dL:=(.seq .leaf (.seq .leaf (.seq (.seq .leaf (.blk (some ⟨[],[],(rg 2 1 (rg 5 1 (rg 7 2 (rg 23 32 []))))⟩) (.loop ⟨[(23,(au .i64))],[],(rg 2 1 (rg 5 1 (rg 7 2 (rg 24 31 []))))⟩ (.seq .leaf (.seq .leaf (.seq (.blk (some ⟨[],[],(rg 2 1 (rg 5 1 (rg 7 2 (rg 25 29 []))))⟩) (.seq .leaf (.seq .leaf (.blk (some ⟨[],[],(rg 2 1 (rg 7 2 (rg 30 24 [])))⟩) (.loop ⟨[(30,(au .i64))],[],(rg 2 1 (rg 7 2 (rg 31 23 [])))⟩ (.seq .leaf (.seq .leaf (.seq (.blk (some ⟨[],[],(rg 2 1 (rg 7 2 (rg 32 21 [])))⟩) .leaf) .leaf)))))))) .leaf)))))) .leaf)))
theorem FC(a0:Option Addr)(H:Heap)(Q:Int×Unit->Heap->Prop):nC a0 H Q=fB C [5,7] Tryz.f42.ntmps Tryz.f42.results.toList [(au .i64)] (aP Tryz.f42) FB [(.pointer a0)] H Q:=by kernel_rfl
theorem FD{a0:Option Addr}{H:Heap}{Q:Int×Unit->Heap->Prop}(h:nC a0 H Q):CALL P [(au .i64)] mY [(.pointer a0)] H Q:=aB hE Tryz.func42 rfl (by kernel_rfl) (FC a0 H Q) h
def lY(a0:Option Addr)(H:Heap)(Q:Int×Unit->Heap->Prop):Prop:=
CALL P [ah] fF [(.pointer a0)] H fun(x1:Bool×Unit) H1=>
aK x1.1 (
Q (1,()) H1) (
NIL a0 fun b2 o3=>
LD ah H1 b2 (o3+1) fun(x4:Bool)=>
aK x4 (
Q (7,()) H1) (
JOIN (fun(j5:(Unit)×(Unit)->Heap->Prop)=>
LOOP (fun(r7:(Int×Unit)×(Unit)->Heap->Prop) (s8:(Int×Unit)×(Unit)) H3=>
NIL a0 fun b9 o10=>
LD aJ H3 b9 (o10+2) fun(x11:Sl)=>
aK (decide (s8.1.1<(x11.len:Int))) (
JOIN (fun(j12:(Unit)×(Unit)->Heap->Prop)=>
JOIN (fun(j14:(Unit)×(Unit)->Heap->Prop)=>
LOOP (fun(r16:(Int×Unit)×(Unit)->Heap->Prop) (s17:(Int×Unit)×(Unit)) H6=>
NIL a0 fun b18 o19=>
LD aJ H6 b18 (o19+2) fun(x20:Sl)=>
dw x20.p x20.len s8.1.1 9 fun b21 o22=>
LD aJ H6 b21 (o22+8) fun(x23:Sl)=>
aK (decide (s17.1.1<(x23.len:Int))) (
JOIN (fun(j24:(Unit)×(Unit)->Heap->Prop)=>
NIL a0 fun b26 o27=>
LD aJ H6 b26 (o27+2) fun(x28:Sl)=>
dw x28.p x28.len s8.1.1 9 fun b29 o30=>
LD aJ H6 b29 (o30+8) fun(x31:Sl)=>
dw x31.p x31.len s17.1.1 8 fun b32 o33=>
LD aT H6 b32 o33 fun(x34:aX)=>
aK (x34.Verb !=7) (
j24 ((()),(())) H6) (
CALL P [(au .i64)] iM [(.pointer a0),(.string x34.Name)] H6 fun(x35:Int×Unit) H8=>
aK (decide (x35.1<0)) (
Q (6,()) H8) (
NIL a0 fun b36 o37=>
LD aJ H8 b36 (o37+2) fun(x38:Sl)=>
dw x38.p x38.len x35.1 9 fun b39 o40=>
LD (au .u8) H8 b39 (o40+2) fun(x41:Int)=>
aK (x41==2) (
Q (8,()) H8) (
j24 ((()),(())) H8)))) fun(y25:(Unit)×(Unit)) H7=>
r16 ((IntKind.wrap .i64 (s17.1.1+1),()),(())) H7) (
j14 ((()),(())) H6)) ((0,()),(())) H3) fun(y15:(Unit)×(Unit)) H5=>
j12 ((()),(())) H5) fun(y13:(Unit)×(Unit)) H4=>
r7 ((IntKind.wrap .i64 (s8.1.1+1),()),(())) H4) (
j5 ((()),(())) H3)) ((0,()),(())) H1) fun(y6:(Unit)×(Unit)) H2=>
NIL a0 fun b42 o43=>
ST H2 b42 (o43+1) [(.bool true)] fun H9=>
Q (0,()) H9))
def DZ:dL:=(.seq .leaf (.seq .leaf (.seq .leaf (.seq (.seq .leaf (.blk (some ⟨[],[],(rg 2 5 (rg 13 51 []))⟩) (.loop ⟨[(3,(au .i64))],[],(rg 2 1 (rg 4 3 (rg 13 51 [])))⟩ (.seq .leaf (.seq (.blk (some ⟨[],[],(rg 2 1 (rg 4 3 (rg 22 42 [])))⟩) (.seq .leaf (.blk (some ⟨[],[],(rg 2 1 (rg 4 3 (rg 22 42 [])))⟩) (.loop ⟨[(4,(au .i64))],[],(rg 2 1 (rg 5 2 (rg 22 42 [])))⟩ (.seq .leaf (.seq (.blk (some ⟨[],[],(rg 2 1 (rg 5 2 (rg 35 29 [])))⟩) .leaf) .leaf)))))) .leaf))))) .leaf))))
theorem D5(a0:Option Addr)(H:Heap)(Q:Int×Unit->Heap->Prop):lY a0 H Q=fB C [5] Tryz.f43.ntmps Tryz.f43.results.toList [(au .i64)] (aP Tryz.f43) DZ [(.pointer a0)] H Q:=by kernel_rfl
theorem D6{a0:Option Addr}{H:Heap}{Q:Int×Unit->Heap->Prop}(h:lY a0 H Q):CALL P [(au .i64)] lN [(.pointer a0)] H Q:=aB hE Tryz.func43 rfl (by kernel_rfl) (D5 a0 H Q) h
def kS(a0:Option Addr)(H:Heap)(Q:Bool×Unit->Heap->Prop):Prop:=
CALL P [ah] eG [(.pointer a0)] H fun(x1:Bool×Unit) H1=>
aK x1.1 (
Q (false,()) H1) (
NIL a0 fun b2 o3=>
LD ah H1 b2 (o3+1) fun(x4:Bool)=>
Q (x4,()) H1)
def BZ:dL:=.leaf
theorem Cb(a0:Option Addr)(H:Heap)(Q:Bool×Unit->Heap->Prop):kS a0 H Q=fB C [] Tryz.f44.ntmps Tryz.f44.results.toList [ah] (aP Tryz.f44) BZ [(.pointer a0)] H Q:=by kernel_rfl
theorem Cc{a0:Option Addr}{H:Heap}{Q:Bool×Unit->Heap->Prop}(h:kS a0 H Q):CALL P [ah] iL [(.pointer a0)] H Q:=aB hE Tryz.func44 rfl (by kernel_rfl) (Cb a0 H Q) h
def jT(a0:Option Addr)(H:Heap)(Q:Bool×Unit->Heap->Prop):Prop:=
JOIN (fun(j1:(Bool×Unit)×(Unit)->Heap->Prop)=>
CALL P [ah] fF [(.pointer a0)] H fun(x3:Bool×Unit) H2=>
aK (!x3.1) (
NIL a0 fun b4 o5=>
LD ah H2 b4 (o5+1) fun(x6:Bool)=>
j1 ((x6,()),(())) H2) (
j1 ((false,()),(())) H2)) fun(y2:(Bool×Unit)×(Unit)) H1=>
Q (y2.1.1,()) H1
def Ad:dL:=(.seq .leaf (.seq (.reg ⟨[(2,ah)],[],(rg 3 9 [])⟩) .leaf))
theorem Ae(a0:Option Addr)(H:Heap)(Q:Bool×Unit->Heap->Prop):jT a0 H Q=fB C [] Tryz.f45.ntmps Tryz.f45.results.toList [ah] (aP Tryz.f45) Ad [(.pointer a0)] H Q:=by kernel_rfl
theorem Af{a0:Option Addr}{H:Heap}{Q:Bool×Unit->Heap->Prop}(h:jT a0 H Q):CALL P [ah] jO [(.pointer a0)] H Q:=aB hE Tryz.func45 rfl (by kernel_rfl) (Ae a0 H Q) h
def nD(a0:Sl)(a1:Sl)(H:Heap)(Q:Bool×Unit->Heap->Prop):Prop:=
aK ((a0.len:Int) !=(a1.len:Int)) (
Q (false,()) H) (
JOIN (fun(j1:(Unit)×(Unit)->Heap->Prop)=>
LOOP (fun(r3:(Int×Unit)×(Unit)->Heap->Prop) (s4:(Int×Unit)×(Unit)) H2=>
aK (decide (s4.1.1<(a0.len:Int))) (
dw a0.p a0.len s4.1.1 11 fun b5 o6=>
LD aV H2 b5 o6 fun(x7:bn)=>
dw a1.p a1.len s4.1.1 11 fun b8 o9=>
LD aV H2 b8 o9 fun(x10:bn)=>
aK (!((x7.Card==x10.Card)&&((x7.Owner==x10.Owner)&&((x7.Place==x10.Place)&&((x7.Stamp==x10.Stamp)&&((x7.Hurt==x10.Hurt)&&(((x7.Marks.1==x10.Marks.1)&&((x7.Marks.2.1==x10.Marks.2.1)&&((x7.Marks.2.2.1==x10.Marks.2.2.1)&&((x7.Marks.2.2.2==x10.Marks.2.2.2)&&true))))&&((x7.Done==x10.Done)&&((x7.Fresh==x10.Fresh)&&true))))))))) (
Q (false,()) H2) (
r3 ((IntKind.wrap .i64 (s4.1.1+1),()),(())) H2)) (
j1 ((()),(())) H2)) ((0,()),(())) H) fun(y2:(Unit)×(Unit)) H1=>
Q (true,()) H1)
def FH:dL:=(.seq .leaf (.seq .leaf (.seq (.seq .leaf (.blk (some ⟨[],[],(rg 4 2 (rg 11 15 []))⟩) (.loop ⟨[(5,(au .i64))],[],(rg 4 1 (rg 11 15 []))⟩ .leaf))) .leaf)))
theorem FI(a0:Sl)(a1:Sl)(H:Heap)(Q:Bool×Unit->Heap->Prop):nD a0 a1 H Q=fB C [] Tryz.f49.ntmps Tryz.f49.results.toList [ah] (aP Tryz.f49) FH [a0.v,a1.v] H Q:=by kernel_rfl
theorem FM{a0:Sl}{a1:Sl}{H:Heap}{Q:Bool×Unit->Heap->Prop}(h:nD a0 a1 H Q):CALL P [ah] vg [a0.v,a1.v] H Q:=aB hE Tryz.func49 rfl (by kernel_rfl) (FI a0 a1 H Q) h
def wH(a0:Option Addr)(a1:bn)(H:Heap)(Q:ay×Int×Unit->Heap->Prop):Prop:=
CALL P [aA,(au .i64)] qA [(.pointer a0),(.int .i64 a1.Card)] H fun(x1:ay×Int×Unit) H1=>
Q (x1.1,x1.2.1,()) H1
def PV:dL:=.leaf
theorem PW(a0:Option Addr)(a1:bn)(H:Heap)(Q:ay×Int×Unit->Heap->Prop):wH a0 a1 H Q=fB C [3,4] Tryz.f56.ntmps Tryz.f56.results.toList [aA,(au .i64)] (aP Tryz.f56) PV [(.pointer a0),(aV.enc a1)] H Q:=by kernel_rfl
theorem PX{a0:Option Addr}{a1:bn}{H:Heap}{Q:ay×Int×Unit->Heap->Prop}(h:wH a0 a1 H Q):CALL P [aA,(au .i64)] pW [(.pointer a0),(aV.enc a1)] H Q:=aB hE Tryz.func56 rfl (by kernel_rfl) (PW a0 a1 H Q) h
def nG(a0:Option Addr)(a1:ByteArray)(H:Heap)(Q:Int×Int×Unit->Heap->Prop):Prop:=
CALL P [ah] eG [(.pointer a0)] H fun(x1:Bool×Unit) H1=>
aK x1.1 (
Q (0,1,()) H1) (
CALL P [(au .i64)] gW [(.pointer a0),(.string a1)] H1 fun(x2:Int×Unit) H2=>
JOIN (fun(j3:(Bool×Unit)×(Unit)->Heap->Prop)=>
NIL a0 fun b5 o6=>
LD ah H2 b5 (o6+1) fun(x7:Bool)=>
aK x7 (
j3 ((decide (x2.1≥0),()),(())) H2) (
j3 ((false,()),(())) H2)) fun(y4:(Bool×Unit)×(Unit)) H3=>
aK y4.1.1 (
Q (IntKind.wrap .i64 (x2.1+1),0,()) H3) (
Q (0,6,()) H3))
def FN:dL:=(.seq .leaf (.seq .leaf (.seq (.seq .leaf (.seq (.reg ⟨[(19,ah)],[],(rg 12 7 [])⟩) .leaf)) .leaf)))
theorem FP(a0:Option Addr)(a1:ByteArray)(H:Heap)(Q:Int×Int×Unit->Heap->Prop):nG a0 a1 H Q=fB C [] Tryz.f57.ntmps Tryz.f57.results.toList [(au .i64),(au .i64)] (aP Tryz.f57) FN [(.pointer a0),(.string a1)] H Q:=by kernel_rfl
theorem FQ{a0:Option Addr}{a1:ByteArray}{H:Heap}{Q:Int×Int×Unit->Heap->Prop}(h:nG a0 a1 H Q):CALL P [(au .i64),(au .i64)] jJ [(.pointer a0),(.string a1)] H Q:=aB hE Tryz.func57 rfl (by kernel_rfl) (FP a0 a1 H Q) h
def kT(a0:Option Addr)(a1:Int)(H:Heap)(Q:ak×Bool×Unit->Heap->Prop):Prop:=
JOIN (fun(j1:(Bool×Unit)×(Unit)->Heap->Prop)=>
CALL P [ah] eG [(.pointer a0)] H fun(x3:Bool×Unit) H2=>
aK x3.1 (
j1 ((true,()),(())) H2) (
aK (decide (a1<1)) (
j1 ((true,()),(())) H2) (
j1 ((decide (a1>4),()),(())) H2))) fun(y2:(Bool×Unit)×(Unit)) H1=>
aK y2.1.1 (
Q ((ak.mk 0 (ByteArray.mk #[]) 0 0),false,()) H1) (
NIL a0 fun b4 o5=>
yu 5 a1 (
LD aQ H1 b4 (o5+588+a1.toNat*4) fun(x6:ak)=>
NIL a0 fun b7 o8=>
yu 5 a1 (
LD (au .u8) H1 b7 (o8+588+a1.toNat*4+0) fun(x9:Int)=>
LD (au .u8) H1 b7 (o8+588+a1.toNat*4+0) fun(x10:Int)=>
vT ((au .u8).enc x10=(.int .u8 x9)) (
Q (x6,x9 !=0,()) H1))))
def Ce:dL:=(.seq .leaf (.seq (.seq (.reg ⟨[(15,ah)],[],(rg 6 9 [])⟩) .leaf) .leaf))
theorem Ci(a0:Option Addr)(a1:Int)(H:Heap)(Q:ak×Bool×Unit->Heap->Prop):kT a0 a1 H Q=fB C [4] Tryz.f58.ntmps Tryz.f58.results.toList [aQ,ah] (aP Tryz.f58) Ce [(.pointer a0),(.int .u8 a1)] H Q:=by kernel_rfl
theorem Cj{a0:Option Addr}{a1:Int}{H:Heap}{Q:ak×Bool×Unit->Heap->Prop}(h:kT a0 a1 H Q):CALL P [aQ,ah] kP [(.pointer a0),(.int .u8 a1)] H Q:=aB hE Tryz.func58 rfl (by kernel_rfl) (Ci a0 a1 H Q) h
def qL(a0:Option Addr)(a1:Sl)(H:Heap)(Q:Sl×Int×Unit->Heap->Prop):Prop:=
aK (decide ((a1.len:Int)>2048)) (
CALL P [aJ,aJ,(au .i64)] oh [(.pointer a0),a1.v,((Sl.mk none 0 0)).v,(.int .i64 1)] H fun(x1:Sl×Sl×Int×Unit) H1=>
Q ((Sl.mk none 0 0),x1.2.2.1,()) H1) (
GEN aJ (dR E 30 (.int .i64 (a1.len:Int)) (.int .i64 (a1.len:Int)) H) fun(x2:Sl) H2=>
JOIN (fun(j3:(Unit)×(Unit)->Heap->Prop)=>
LOOP (fun(r5:(Int×Unit)×(Unit)->Heap->Prop) (s6:(Int×Unit)×(Unit)) H4=>
aK (decide (s6.1.1<(a1.len:Int))) (
dw a1.p a1.len s6.1.1 11 fun b7 o8=>
LD aV H4 b7 o8 fun(x9:bn)=>
CALL P [aO,(au .i64)] oK [(.pointer a0),(aV.enc x9)] H4 fun(x10:aG×Int×Unit) H5=>
aK (x10.2.1==1) (
Q ((Sl.mk none 0 0),x10.2.1,()) H5) (
aK (x10.2.1 !=0) (
Q ((Sl.mk none 0 0),2,()) H5) (
JOIN (fun(j11:(Unit)×(Unit)->Heap->Prop)=>
aK (x9.Place==4) (
dw x2.p x2.len s6.1.1 5 fun b13 o14=>
ST H5 b13 o14 (aO.cells x10.1) fun H7=>
j11 ((()),(())) H7) (
j11 ((()),(())) H5)) fun(y12:(Unit)×(Unit)) H6=>
r5 ((IntKind.wrap .i64 (s6.1.1+1),()),(())) H6))) (
j3 ((()),(())) H4)) ((0,()),(())) H2) fun(y4:(Unit)×(Unit)) H3=>
CALL P [aJ,aJ,(au .i64)] oh [(.pointer a0),a1.v,x2.v,(.int .i64 1)] H3 fun(x15:Sl×Sl×Int×Unit) H8=>
aK (x15.2.2.1 !=0) (
Q ((Sl.mk none 0 0),x15.2.2.1,()) H8) (
JOIN (fun(j16:(Unit)×(Unit)->Heap->Prop)=>
LOOP (fun(r18:(Int×Unit)×(Unit)->Heap->Prop) (s19:(Int×Unit)×(Unit)) H10=>
aK (decide (s19.1.1<(a1.len:Int))) (
dw a1.p a1.len s19.1.1 11 fun b20 o21=>
LD aV H10 b20 o21 fun(x22:bn)=>
NEW H10 [(.int .i64 0),(.int .i64 0),(.int .u8 0),(.int .i64 0),(.int .i64 0),(.int .i64 0),(.int .i64 0),(.int .i64 0),(.int .i64 0),(.int .i64 0),(.bool false)] 11 fun H11=>
ST H11 H10.length 0 (aV.cells x22) fun H12=>
JOIN (fun(j23:(Bool×Unit)×(Unit)->Heap->Prop)=>
LD (au .u8) H12 H10.length 2 fun(x25:Int)=>
aK (x25==4) (
dW aJ (dS E 44 (.pointer (some ⟨H10.length,5,none⟩)) none none none H12) fun(x26:Sl)=>
CALL P [(au .i64)] jv [x26.v] H12 fun(x27:Int×Unit) H14=>
aK (decide (x27.1<0)) (
j23 ((true,()),(())) H14) (
dW aJ (dS E 44 (.pointer (some ⟨H10.length,5,none⟩)) none none none H14) fun(x28:Sl)=>
CALL P [(au .i64)] jw [x28.v] H14 fun(x29:Int×Unit) H15=>
j23 ((decide (x29.1>99),()),(())) H15)) (
j23 ((false,()),(())) H12)) fun(y24:(Bool×Unit)×(Unit)) H13=>
aK y24.1.1 (
Q ((Sl.mk none 0 0),2,()) H13) (
r18 ((IntKind.wrap .i64 (s19.1.1+1),()),(())) H13)) (
j16 ((()),(())) H10)) ((0,()),(())) H8) fun(y17:(Unit)×(Unit)) H9=>
Q (x2,0,()) H9))
def JX:dL:=(.seq .leaf (.seq .leaf (.seq .leaf (.seq (.seq .leaf (.blk (some ⟨[],[],(rg 4 2 (rg 10 4 (rg 35 24 [])))⟩) (.loop ⟨[(35,(au .i64))],[],(rg 4 2 (rg 10 4 (rg 36 23 [])))⟩ (.seq .leaf (.seq .leaf (.seq (.blk none (.seq .leaf (.seq .leaf (.seq .leaf (.seq .leaf (.seq .leaf (.cond (some ⟨[],[],[54,55,56,57]⟩) .leaf .leaf))))))) .leaf)))))) (.seq .leaf (.seq (.seq .leaf (.blk (some ⟨[],[],(rg 4 2 (rg 18 1 (rg 72 20 [])))⟩) (.loop ⟨[(72,(au .i64))],[],(rg 4 2 (rg 18 1 (rg 73 19 [])))⟩ (.seq .leaf (.seq .leaf (.seq (.blk none (.seq .leaf (.seq (.reg ⟨[(90,ah)],[],(rg 76 14 [])⟩) .leaf))) .leaf)))))) .leaf))))))
theorem JY(a0:Option Addr)(a1:Sl)(H:Heap)(Q:Sl×Int×Unit->Heap->Prop):qL a0 a1 H Q=fB C [11,12] Tryz.f61.ntmps Tryz.f61.results.toList [aJ,(au .i64)] (aP Tryz.f61) JX [(.pointer a0),a1.v] H Q:=by kernel_rfl
theorem JZ{a0:Option Addr}{a1:Sl}{H:Heap}{Q:Sl×Int×Unit->Heap->Prop}(h:qL a0 a1 H Q):CALL P [aJ,(au .i64)] qy [(.pointer a0),a1.v] H Q:=aB hE Tryz.func61 rfl (by kernel_rfl) (JY a0 a1 H Q) h
def ug(c0:Nat×Nat)(c1:Nat×Nat)(c2:Nat×Nat)(c3:Nat×Nat)(H:Heap)(Q:Sl×Sl×Unit->Heap->Prop):Prop:=
LD (au .i64) H c0.1 c0.2 fun(x1:Int)=>
ST H c0.1 c0.2 [(.int .i64 (IntKind.wrap .i64 (x1+1)))] fun H1=>
LD aJ H1 c1.1 c1.2 fun(x2:Sl)=>
LD (au .i64) H1 c0.1 c0.2 fun(x3:Int)=>
JOIN (fun(j4:(Sl×Unit)×(Unit)->Heap->Prop)=>
aK (decide (x3≤5)) (
LD dJ H1 c2.1 c2.2 fun(x6:Option Addr)=>
LD aJ H1 c3.1 c3.2 fun(x7:Sl)=>
LD aJ H1 c1.1 c1.2 fun(x8:Sl)=>
LD (au .i64) H1 c0.1 c0.2 fun(x9:Int)=>
CALL P [aJ,aJ,(au .i64)] oh [(.pointer x6),x7.v,x8.v,(.int .i64 x9)] H1 fun(x10:Sl×Sl×Int×Unit) H3=>
ST H3 c1.1 c1.2 [(.slice x10.1.p x10.1.len x10.1.cap)] fun H4=>
j4 ((x10.2.1,()),(())) H4) (
LD (au .i64) H1 c0.1 c0.2 fun(x11:Int)=>
JOIN (fun(j12:(Unit)×(Unit)->Heap->Prop)=>
aK (x11==6) (
LD dJ H1 c2.1 c2.2 fun(x14:Option Addr)=>
LD aJ H1 c3.1 c3.2 fun(x15:Sl)=>
LD aJ H1 c1.1 c1.2 fun(x16:Sl)=>
CALL P [aJ] sZ [(.pointer x14),x15.v,x16.v] H1 fun(x17:Sl×Unit) H6=>
ST H6 c1.1 c1.2 [(.slice x17.1.p x17.1.len x17.1.cap)] fun H7=>
j12 ((()),(())) H7) (
j12 ((()),(())) H1)) fun(y13:(Unit)×(Unit)) H5=>
j4 (((Sl.mk none 0 0),()),(())) H5)) fun(y5:(Sl×Unit)×(Unit)) H2=>
Q (x2,y5.1.1,()) H2
def MN:dL:=(.seq .leaf (.seq .leaf (.seq .leaf (.seq .leaf (.seq (.blk none (.seq .leaf (.cond (some ⟨[(7,aJ)],[],(rg 14 16 [])⟩) .leaf (.seq .leaf (.cond (some ⟨[],[],[26,27,28,29]⟩) .leaf .leaf))))) .leaf)))))
theorem MO(c0:Nat×Nat)(c1:Nat×Nat)(c2:Nat×Nat)(c3:Nat×Nat)(H:Heap)(Q:Sl×Sl×Unit->Heap->Prop):ug c0 c1 c2 c3 H Q=fB C [] Tryz.f62.ntmps Tryz.f62.results.toList [aJ,aJ] (aP Tryz.f62) MN [(.pointer (some ⟨c0.1,c0.2,none⟩)),(.pointer (some ⟨c1.1,c1.2,none⟩)),(.pointer (some ⟨c2.1,c2.2,none⟩)),(.pointer (some ⟨c3.1,c3.2,none⟩))] H Q:=by kernel_rfl
theorem MP{c0:Nat×Nat}{c1:Nat×Nat}{c2:Nat×Nat}{c3:Nat×Nat}{H:Heap}{Q:Sl×Sl×Unit->Heap->Prop}(h:ug c0 c1 c2 c3 H Q):CALL P [aJ,aJ] jc [(.pointer (some ⟨c0.1,c0.2,none⟩)),(.pointer (some ⟨c1.1,c1.2,none⟩)),(.pointer (some ⟨c2.1,c2.2,none⟩)),(.pointer (some ⟨c3.1,c3.2,none⟩))] H Q:=aB hE Tryz.func62 rfl (by kernel_rfl) (MO c0 c1 c2 c3 H Q) h
def yQ(a0:Option Addr)(a1:Sl)(a2:Sl)(a3:Int)(H:Heap)(Q:Sl×Sl×Int×Unit->Heap->Prop):Prop:=
CALL P [aJ,(au .i64)] oM [(.pointer a0),a1.v,a2.v,(.int .i64 a3)] H fun(x1:Sl×Int×Unit) H1=>
aK (x1.2.1 !=0) (
Q ((Sl.mk none 0 0),(Sl.mk none 0 0),x1.2.1,()) H1) (
CALL P [aC,(au .i64)] kC [(.pointer a0),a1.v,a2.v] H1 fun(x2:aF×Int×Unit) H2=>
CALL P [aJ] bU [a2.v] H2 fun(x3:Sl×Unit) H3=>
JOIN (fun(j4:(Sl×Sl×Unit)×(Unit)->Heap->Prop)=>
LOOP (fun(r6:(Sl×Sl×Sl×Unit)×(Unit)->Heap->Prop) (s7:(Sl×Sl×Sl×Unit)×(Unit)) H5=>
aK (decide ((s7.1.1.len:Int)>0)) (
CALL P [(au .i64)] kQ [(aC.enc x2.1),s7.1.2.1.v,s7.1.1.v] H5 fun(x8:Int×Unit) H6=>
dw s7.1.1.p s7.1.1.len x8.1 10 fun b9 o10=>
LD aH H6 b9 o10 fun(x11:aN)=>
CALL P [aJ] iC [(aC.enc x2.1),s7.1.2.1.v,(aH.enc x11)] H6 fun(x12:Sl×Unit) H7=>
dw s7.1.1.p s7.1.1.len x8.1 10 fun b13 o14=>
LD aH H7 b13 o14 fun(x15:aN)=>
EW aJ (lenV s7.1.2.2.1.v+1) (fC E [37,37] s7.1.2.2.1.v 1 (aH.cells x15) H7) fun(x16:Sl) H8=>
CALL P [aJ] cZ [s7.1.1.v] H8 fun(x17:Sl×Unit) H9=>
CALL P [aJ] bY [x17.1.v,(.int .i64 x8.1),(.int .i64 (IntKind.wrap .i64 (x8.1+1)))] H9 fun(x18:Sl×Unit) H10=>
r6 ((x18.1,x12.1,x16,()),(())) H10) (
j4 ((s7.1.2.1,s7.1.2.2.1,()),(())) H5)) ((x1.1,x3.1,(Sl.mk none 0 0),()),(())) H3) fun(y5:(Sl×Sl×Unit)×(Unit)) H4=>
Q (y5.1.1,y5.1.2.1,0,()) H4)
def Tv:dL:=(.seq .leaf (.seq .leaf (.seq .leaf (.seq .leaf (.seq .leaf (.seq .leaf (.seq (.blk (some ⟨[(15,aJ),(16,aJ)],[],(rg 11 1 (rg 17 1 (rg 38 27 [])))⟩) (.loop ⟨[(11,aJ),(15,aJ),(16,aJ)],[],(rg 17 1 (rg 38 27 []))⟩ .leaf)) .leaf)))))))
theorem Tz(a0:Option Addr)(a1:Sl)(a2:Sl)(a3:Int)(H:Heap)(Q:Sl×Sl×Int×Unit->Heap->Prop):yQ a0 a1 a2 a3 H Q=fB C [13,57] Tryz.f63.ntmps Tryz.f63.results.toList [aJ,aJ,(au .i64)] (aP Tryz.f63) Tv [(.pointer a0),a1.v,a2.v,(.int .i64 a3)] H Q:=by kernel_rfl
theorem TA{a0:Option Addr}{a1:Sl}{a2:Sl}{a3:Int}{H:Heap}{Q:Sl×Sl×Int×Unit->Heap->Prop}(h:yQ a0 a1 a2 a3 H Q):CALL P [aJ,aJ,(au .i64)] oh [(.pointer a0),a1.v,a2.v,(.int .i64 a3)] H Q:=aB hE Tryz.func63 rfl (by kernel_rfl) (Tz a0 a1 a2 a3 H Q) h
def uh(a0:Option Addr)(a1:Sl)(a2:Sl)(H:Heap)(Q:Sl×Unit->Heap->Prop):Prop:=
GEN aJ (dR E 30 (.int .i64 (a2.len:Int)) (.int .i64 (a2.len:Int)) H) fun(x1:Sl) H1=>
JOIN (fun(j2:(Unit)×(Unit)->Heap->Prop)=>
LOOP (fun(r4:(Int×Unit)×(Unit)->Heap->Prop) (s5:(Int×Unit)×(Unit)) H3=>
aK (decide (s5.1.1<(a1.len:Int))) (
dw a1.p a1.len s5.1.1 11 fun b6 o7=>
LD aV H3 b6 o7 fun(x8:bn)=>
JOIN (fun(j9:(Unit)×(Unit)->Heap->Prop)=>
aK (x8.Place==4) (
dw a2.p a2.len s5.1.1 5 fun b11 o12=>
LD aO H3 b11 o12 fun(x13:aG)=>
CALL P [aO,(au .i64)] qx [(.pointer a0),(aO.enc x13),(iG.enc x8.Marks)] H3 fun(x14:aG×Int×Unit) H5=>
dw x1.p x1.len s5.1.1 5 fun b15 o16=>
ST H5 b15 o16 (aO.cells x14.1) fun H6=>
j9 ((()),(())) H6) (
j9 ((()),(())) H3)) fun(y10:(Unit)×(Unit)) H4=>
r4 ((IntKind.wrap .i64 (s5.1.1+1),()),(())) H4) (
j2 ((()),(())) H3)) ((0,()),(())) H1) fun(y3:(Unit)×(Unit)) H2=>
Q (x1,()) H2
def MQ:dL:=(.seq .leaf (.seq .leaf (.seq (.seq .leaf (.blk (some ⟨[],[],(rg 8 2 (rg 15 23 []))⟩) (.loop ⟨[(15,(au .i64))],[],(rg 8 2 (rg 16 22 []))⟩ (.seq .leaf (.seq .leaf (.seq (.blk none (.seq .leaf (.seq .leaf (.cond (some ⟨[],[],(rg 23 14 [])⟩) .leaf .leaf)))) .leaf)))))) .leaf)))
theorem MR(a0:Option Addr)(a1:Sl)(a2:Sl)(H:Heap)(Q:Sl×Unit->Heap->Prop):uh a0 a1 a2 H Q=fB C [9] Tryz.f64.ntmps Tryz.f64.results.toList [aJ] (aP Tryz.f64) MQ [(.pointer a0),a1.v,a2.v] H Q:=by kernel_rfl
theorem MS{a0:Option Addr}{a1:Sl}{a2:Sl}{H:Heap}{Q:Sl×Unit->Heap->Prop}(h:uh a0 a1 a2 H Q):CALL P [aJ] sZ [(.pointer a0),a1.v,a2.v] H Q:=aB hE Tryz.func64 rfl (by kernel_rfl) (MR a0 a1 a2 H Q) h
def nH(a0:Option Addr)(H:Heap)(Q:Int×Unit->Heap->Prop):Prop:=
CALL P [ah] eG [(.pointer a0)] H fun(x1:Bool×Unit) H1=>
aK x1.1 (
Q (1,()) H1) (
NIL a0 fun b2 o3=>
LD ah H1 b2 (o3+1) fun(x4:Bool)=>
aK x4 (
Q (7,()) H1) (
Q (0,()) H1))
def FT:dL:=.leaf
theorem FU(a0:Option Addr)(H:Heap)(Q:Int×Unit->Heap->Prop):nH a0 H Q=fB C [] Tryz.f65.ntmps Tryz.f65.results.toList [(au .i64)] (aP Tryz.f65) FT [(.pointer a0)] H Q:=by kernel_rfl
theorem FV{a0:Option Addr}{H:Heap}{Q:Int×Unit->Heap->Prop}(h:nH a0 H Q):CALL P [(au .i64)] iH [(.pointer a0)] H Q:=aB hE Tryz.func65 rfl (by kernel_rfl) (FU a0 H Q) h
def wI(a0:ay)(H:Heap)(Q:Int×Unit->Heap->Prop):Prop:=
CALL P [(au .i64)] yI [(aA.enc a0)] H fun(x1:Int×Unit) H1=>
aK (x1.1 !=0) (
Q (x1.1,()) H1) (
JOIN (fun(j2:(Unit)×(Unit)->Heap->Prop)=>
LOOP (fun(r4:(Int×Unit)×(Unit)->Heap->Prop) (s5:(Int×Unit)×(Unit)) H3=>
aK (decide (s5.1.1<(a0.Parts.len:Int))) (
dw a0.Parts.p a0.Parts.len s5.1.1 8 fun b6 o7=>
LD aT H3 b6 o7 fun(x8:aX)=>
CALL P [(au .i64)] qB [(aT.enc x8)] H3 fun(x9:Int×Unit) H4=>
aK (x9.1 !=0) (
Q (x9.1,()) H4) (
JOIN (fun(j10:(Bool×Unit)×(Unit)->Heap->Prop)=>
aK (a0.Kind==2) (
aK (x8.When !=1) (
j10 ((true,()),(())) H4) (
aK (a0.Kind==3) (
j10 ((x8.When==4,()),(())) H4) (
j10 ((false,()),(())) H4))) (
aK (a0.Kind==3) (
j10 ((x8.When==4,()),(())) H4) (
j10 ((false,()),(())) H4))) fun(y11:(Bool×Unit)×(Unit)) H5=>
aK y11.1.1 (
Q (8,()) H5) (
r4 ((IntKind.wrap .i64 (s5.1.1+1),()),(())) H5))) (
j2 ((()),(())) H3)) ((0,()),(())) H1) fun(y3:(Unit)×(Unit)) H2=>
Q (0,()) H2)
def PY:dL:=(.seq .leaf (.seq .leaf (.seq (.seq .leaf (.blk (some ⟨[],[],(rg 2 1 (rg 5 2 (rg 15 28 [])))⟩) (.loop ⟨[(15,(au .i64))],[],(rg 2 1 (rg 5 2 (rg 16 27 [])))⟩ (.seq .leaf (.seq .leaf (.seq (.blk none (.seq .leaf (.seq .leaf (.seq (.reg ⟨[(41,ah)],[],(rg 24 17 [])⟩) .leaf)))) .leaf)))))) .leaf)))
theorem PZ(a0:ay)(H:Heap)(Q:Int×Unit->Heap->Prop):wI a0 H Q=fB C [1,5] Tryz.f66.ntmps Tryz.f66.results.toList [(au .i64)] (aP Tryz.f66) PY [(aA.enc a0)] H Q:=by kernel_rfl
theorem P5{a0:ay}{H:Heap}{Q:Int×Unit->Heap->Prop}(h:wI a0 H Q):CALL P [(au .i64)] vZ [(aA.enc a0)] H Q:=aB hE Tryz.func66 rfl (by kernel_rfl) (PZ a0 H Q) h
def lZ(a0:Option Addr)(a1:ByteArray)(H:Heap)(Q:Int×Unit->Heap->Prop):Prop:=
NIL a0 fun b1 o2=>
LD (au .i64) H b1 (o2+2) fun(x3:Int)=>
JOIN (fun(j4:(Unit)×(Unit)->Heap->Prop)=>
LOOP (fun(r6:(Int×Unit)×(Unit)->Heap->Prop) (s7:(Int×Unit)×(Unit)) H2=>
aK (decide (s7.1.1<x3)) (
NIL a0 fun b8 o9=>
yu 64 s7.1.1 (
LD dG H2 b8 (o9+3+s7.1.1.toNat*9+0) fun(x10:ByteArray)=>
aK (x10.toList==a1.toList) (
Q (s7.1.1,()) H2) (
r6 ((IntKind.wrap .i64 (s7.1.1+1),()),(())) H2))) (
j4 ((()),(())) H2)) ((0,()),(())) H) fun(y5:(Unit)×(Unit)) H1=>
Q ((-1),()) H1
def D7:dL:=(.seq .leaf (.seq (.seq .leaf (.blk (some ⟨[],[],(rg 4 2 (rg 10 14 []))⟩) (.loop ⟨[(10,(au .i64))],[],(rg 4 2 (rg 11 13 []))⟩ .leaf))) .leaf))
theorem D8(a0:Option Addr)(a1:ByteArray)(H:Heap)(Q:Int×Unit->Heap->Prop):lZ a0 a1 H Q=fB C [] Tryz.f67.ntmps Tryz.f67.results.toList [(au .i64)] (aP Tryz.f67) D7 [(.pointer a0),(.string a1)] H Q:=by kernel_rfl
theorem D9{a0:Option Addr}{a1:ByteArray}{H:Heap}{Q:Int×Unit->Heap->Prop}(h:lZ a0 a1 H Q):CALL P [(au .i64)] gW [(.pointer a0),(.string a1)] H Q:=aB hE Tryz.func67 rfl (by kernel_rfl) (D8 a0 a1 H Q) h
def wJ(a0:ay)(a1:ay)(H:Heap)(Q:Bool×Unit->Heap->Prop):Prop:=
aK (a0.Suit !=a1.Suit) (
Q (decide (a0.Suit<a1.Suit),()) H) (
Q (Op.bytesLess a0.Name.toList a1.Name.toList,()) H)
def P6:dL:=.leaf
theorem P7(a0:ay)(a1:ay)(H:Heap)(Q:Bool×Unit->Heap->Prop):wJ a0 a1 H Q=fB C [2,3] Tryz.f68.ntmps Tryz.f68.results.toList [ah] (aP Tryz.f68) P6 [(aA.enc a0),(aA.enc a1)] H Q:=by kernel_rfl
theorem P8{a0:ay}{a1:ay}{H:Heap}{Q:Bool×Unit->Heap->Prop}(h:wJ a0 a1 H Q):CALL P [ah] wo [(aA.enc a0),(aA.enc a1)] H Q:=aB hE Tryz.func68 rfl (by kernel_rfl) (P7 a0 a1 H Q) h
def yR(a0:ay)(H:Heap)(Q:ay×Unit->Heap->Prop):Prop:=
EW aJ (lenV ((Sl.mk none 0 0)).v+(oH a0.Parts.v).getD 0) (dM E [95,95] ((Sl.mk none 0 0)).v a0.Parts.v H) fun(x1:Sl) H1=>
Q ((ay.mk a0.Name a0.Suit a0.Kind a0.Cost a0.Power a0.Health a0.Traits a0.Token x1),()) H1
def TB:dL:=.leaf
theorem TD(a0:ay)(H:Heap)(Q:ay×Unit->Heap->Prop):yR a0 H Q=fB C [1,2] Tryz.f69.ntmps Tryz.f69.results.toList [aA] (aP Tryz.f69) TB [(aA.enc a0)] H Q:=by kernel_rfl
theorem TG{a0:ay}{H:Heap}{Q:ay×Unit->Heap->Prop}(h:yR a0 H Q):CALL P [aA] rY [(aA.enc a0)] H Q:=aB hE Tryz.func69 rfl (by kernel_rfl) (TD a0 H Q) h
def oW(a0:Sl)(H:Heap)(Q:Sl×Unit->Heap->Prop):Prop:=
EW aJ (lenV ((Sl.mk none 0 0)).v+(oH a0.v).getD 0) (dM E [95,95] ((Sl.mk none 0 0)).v a0.v H) fun(x1:Sl) H1=>
Q (x1,()) H1
def He:dL:=.leaf
theorem Hf(a0:Sl)(H:Heap)(Q:Sl×Unit->Heap->Prop):oW a0 H Q=fB C [] Tryz.f70.ntmps Tryz.f70.results.toList [aJ] (aP Tryz.f70) He [a0.v] H Q:=by kernel_rfl
theorem Hg{a0:Sl}{H:Heap}{Q:Sl×Unit->Heap->Prop}(h:oW a0 H Q):CALL P [aJ] xC [a0.v] H Q:=aB hE Tryz.func70 rfl (by kernel_rfl) (Hf a0 H Q) h
def l9(a0:Option Addr)(H:Heap)(Q:Bool×Unit->Heap->Prop):Prop:=
JOIN (fun(j1:(Bool×Unit)×(Unit)->Heap->Prop)=>
aK a0.isNone (
j1 ((true,()),(())) H) (
NIL a0 fun b3 o4=>
LD ah H b3 (o4+0) fun(x5:Bool)=>
j1 ((!x5,()),(())) H)) fun(y2:(Bool×Unit)×(Unit)) H1=>
Q (y2.1.1,()) H1
def Ea:dL:=(.seq .leaf (.seq (.reg ⟨[(2,ah)],[],(rg 3 9 [])⟩) .leaf))
theorem Eb(a0:Option Addr)(H:Heap)(Q:Bool×Unit->Heap->Prop):l9 a0 H Q=fB C [] Tryz.f71.ntmps Tryz.f71.results.toList [ah] (aP Tryz.f71) Ea [(.pointer a0)] H Q:=by kernel_rfl
theorem Ec{a0:Option Addr}{H:Heap}{Q:Bool×Unit->Heap->Prop}(h:l9 a0 H Q):CALL P [ah] fF [(.pointer a0)] H Q:=aB hE Tryz.func71 rfl (by kernel_rfl) (Eb a0 H Q) h
def uj(a0:ay)(H:Heap)(Q:Int×Unit->Heap->Prop):Prop:=
CALL P [ah] oN [(.string a0.Name)] H fun(x1:Bool×Unit) H1=>
aK (!x1.1) (
Q (4,()) H1) (
JOIN (fun(j2:(Bool×Unit)×(Unit)->Heap->Prop)=>
CALL P [ah] fO [(.int .i64 (IntKind.wrap .i64 a0.Suit)),(.int .i64 1),(.int .i64 6)] H1 fun(x4:Bool×Unit) H3=>
aK (!x4.1) (
j2 ((true,()),(())) H3) (
CALL P [ah] fO [(.int .i64 (IntKind.wrap .i64 a0.Kind)),(.int .i64 1),(.int .i64 3)] H3 fun(x5:Bool×Unit) H4=>
j2 ((!x5.1,()),(())) H4)) fun(y3:(Bool×Unit)×(Unit)) H2=>
aK y3.1.1 (
Q (8,()) H2) (
JOIN (fun(j6:(Bool×Unit)×(Unit)->Heap->Prop)=>
CALL P [ah] fO [(.int .i64 a0.Cost),(.int .i64 0),(.int .i64 10)] H2 fun(x8:Bool×Unit) H6=>
aK (!x8.1) (
j6 ((true,()),(())) H6) (
CALL P [ah] fO [(.int .i64 a0.Power),(.int .i64 0),(.int .i64 99)] H6 fun(x9:Bool×Unit) H7=>
aK (!x9.1) (
j6 ((true,()),(())) H7) (
CALL P [ah] fO [(.int .i64 a0.Health),(.int .i64 0),(.int .i64 99)] H7 fun(x10:Bool×Unit) H8=>
j6 ((!x10.1,()),(())) H8))) fun(y7:(Bool×Unit)×(Unit)) H5=>
aK y7.1.1 (
Q (2,()) H5) (
JOIN (fun(j11:(Bool×Unit)×(Unit)->Heap->Prop)=>
aK (a0.Kind==1) (
aK (a0.Health==0) (
j11 ((true,()),(())) H5) (
aK (!(a0.Kind==1)) (
aK (a0.Power !=0) (
j11 ((true,()),(())) H5) (
j11 ((a0.Health !=0,()),(())) H5)) (
j11 ((false,()),(())) H5))) (
aK (!(a0.Kind==1)) (
aK (a0.Power !=0) (
j11 ((true,()),(())) H5) (
j11 ((a0.Health !=0,()),(())) H5)) (
j11 ((false,()),(())) H5))) fun(y12:(Bool×Unit)×(Unit)) H9=>
aK y12.1.1 (
Q (8,()) H9) (
JOIN (fun(j13:(Bool×Unit)×(Unit)->Heap->Prop)=>
CALL P [ah] tC [(.int .u16 a0.Traits)] H9 fun(x15:Bool×Unit) H11=>
aK (!x15.1) (
j13 ((true,()),(())) H11) (
aK (a0.Kind==2) (
j13 ((a0.Token,()),(())) H11) (
j13 ((false,()),(())) H11))) fun(y14:(Bool×Unit)×(Unit)) H10=>
aK y14.1.1 (
Q (8,()) H10) (
aK (decide ((a0.Parts.len:Int)>4)) (
Q (3,()) H10) (
JOIN (fun(j16:(Unit)×(Unit)->Heap->Prop)=>
LOOP (fun(r18:(Int×Unit)×(Unit)->Heap->Prop) (s19:(Int×Unit)×(Unit)) H13=>
aK (decide (s19.1.1<(a0.Parts.len:Int))) (
dw a0.Parts.p a0.Parts.len s19.1.1 8 fun b20 o21=>
LD aT H13 b20 o21 fun(x22:aX)=>
CALL P [(au .i64)] tH [(aT.enc x22)] H13 fun(x23:Int×Unit) H14=>
aK (x23.1 !=0) (
Q (x23.1,()) H14) (
JOIN (fun(j24:(Bool×Unit)×(Unit)->Heap->Prop)=>
aK (a0.Kind==2) (
dw a0.Parts.p a0.Parts.len s19.1.1 8 fun b26 o27=>
LD (au .u8) H14 b26 (o27+0) fun(x28:Int)=>
aK (x28 !=1) (
j24 ((true,()),(())) H14) (
aK (a0.Kind==3) (
dw a0.Parts.p a0.Parts.len s19.1.1 8 fun b29 o30=>
LD (au .u8) H14 b29 (o30+0) fun(x31:Int)=>
j24 ((x31==4,()),(())) H14) (
j24 ((false,()),(())) H14))) (
aK (a0.Kind==3) (
dw a0.Parts.p a0.Parts.len s19.1.1 8 fun b32 o33=>
LD (au .u8) H14 b32 (o33+0) fun(x34:Int)=>
j24 ((x34==4,()),(())) H14) (
j24 ((false,()),(())) H14))) fun(y25:(Bool×Unit)×(Unit)) H15=>
aK y25.1.1 (
Q (8,()) H15) (
r18 ((IntKind.wrap .i64 (s19.1.1+1),()),(())) H15))) (
j16 ((()),(())) H13)) ((0,()),(())) H10) fun(y17:(Unit)×(Unit)) H12=>
Q (0,()) H12))))))
def MV:dL:=(.seq .leaf (.seq .leaf (.seq (.blk none (.seq .leaf (.cond none .leaf (.seq (.reg ⟨[(14,ah)],[],(rg 15 12 [])⟩) (.cond none .leaf (.seq (.reg ⟨[(27,ah)],[],(rg 28 16 [])⟩) (.cond none .leaf (.seq (.reg ⟨[(44,ah)],[],(rg 45 20 [])⟩) (.cond none .leaf (.seq (.reg ⟨[(65,ah)],[],(rg 66 13 [])⟩) .leaf)))))))))) (.seq (.seq .leaf (.blk (some ⟨[],[],(rg 2 1 (rg 4 2 (rg 84 42 [])))⟩) (.loop ⟨[(4,(au .i64))],[],(rg 2 1 (rg 5 1 (rg 84 42 [])))⟩ (.seq .leaf (.seq (.blk none (.seq .leaf (.seq .leaf (.seq (.reg ⟨[(125,ah)],[],(rg 100 25 [])⟩) .leaf)))) .leaf))))) .leaf))))
theorem MW(a0:ay)(H:Heap)(Q:Int×Unit->Heap->Prop):uj a0 H Q=fB C [1] Tryz.f72.ntmps Tryz.f72.results.toList [(au .i64)] (aP Tryz.f72) MV [(aA.enc a0)] H Q:=by kernel_rfl
theorem MX{a0:ay}{H:Heap}{Q:Int×Unit->Heap->Prop}(h:uj a0 H Q):CALL P [(au .i64)] tq [(aA.enc a0)] H Q:=aB hE Tryz.func72 rfl (by kernel_rfl) (MW a0 H Q) h
def kU(a0:Option Addr)(a1:ByteArray)(H:Heap)(Q:Int×Unit->Heap->Prop):Prop:=
JOIN (fun(j1:(Unit)×(Unit)->Heap->Prop)=>
LOOP (fun(r3:(Int×Unit)×(Unit)->Heap->Prop) (s4:(Int×Unit)×(Unit)) H2=>
NIL a0 fun b5 o6=>
LD aJ H2 b5 (o6+2) fun(x7:Sl)=>
aK (decide (s4.1.1<(x7.len:Int))) (
NIL a0 fun b8 o9=>
LD aJ H2 b8 (o9+2) fun(x10:Sl)=>
dw x10.p x10.len s4.1.1 9 fun b11 o12=>
LD dG H2 b11 (o12+0) fun(x13:ByteArray)=>
aK (x13.toList==a1.toList) (
Q (s4.1.1,()) H2) (
r3 ((IntKind.wrap .i64 (s4.1.1+1),()),(())) H2)) (
j1 ((()),(())) H2)) ((0,()),(())) H) fun(y2:(Unit)×(Unit)) H1=>
Q ((-1),()) H1
def Cm:dL:=(.seq .leaf (.seq (.seq .leaf (.blk (some ⟨[],[],(rg 4 22 [])⟩) (.loop ⟨[(5,(au .i64))],[],(rg 4 1 (rg 6 20 []))⟩ .leaf))) .leaf))
theorem CB(a0:Option Addr)(a1:ByteArray)(H:Heap)(Q:Int×Unit->Heap->Prop):kU a0 a1 H Q=fB C [] Tryz.f73.ntmps Tryz.f73.results.toList [(au .i64)] (aP Tryz.f73) Cm [(.pointer a0),(.string a1)] H Q:=by kernel_rfl
theorem CG{a0:Option Addr}{a1:ByteArray}{H:Heap}{Q:Int×Unit->Heap->Prop}(h:kU a0 a1 H Q):CALL P [(au .i64)] iM [(.pointer a0),(.string a1)] H Q:=aB hE Tryz.func73 rfl (by kernel_rfl) (CB a0 a1 H Q) h
def um(a0:ay)(a1:ay)(H:Heap)(Q:Bool×Unit->Heap->Prop):Prop:=
JOIN (fun(j1:(Bool×Unit)×(Unit)->Heap->Prop)=>
aK (decide (a0.Suit<a1.Suit)) (
j1 ((true,()),(())) H) (
aK (a0.Suit==a1.Suit) (
j1 ((Op.bytesLess a0.Name.toList a1.Name.toList,()),(())) H) (
j1 ((false,()),(())) H))) fun(y2:(Bool×Unit)×(Unit)) H1=>
Q (y2.1.1,()) H1
def MZ:dL:=(.seq .leaf (.seq (.reg ⟨[(4,ah)],[],(rg 5 19 [])⟩) .leaf))
theorem Na(a0:ay)(a1:ay)(H:Heap)(Q:Bool×Unit->Heap->Prop):um a0 a1 H Q=fB C [2,3] Tryz.f74.ntmps Tryz.f74.results.toList [ah] (aP Tryz.f74) MZ [(aA.enc a0),(aA.enc a1)] H Q:=by kernel_rfl
theorem Nb{a0:ay}{a1:ay}{H:Heap}{Q:Bool×Unit->Heap->Prop}(h:um a0 a1 H Q):CALL P [ah] tu [(aA.enc a0),(aA.enc a1)] H Q:=aB hE Tryz.func74 rfl (by kernel_rfl) (Na a0 a1 H Q) h
def wK(a0:ay)(H:Heap)(Q:ay×Unit->Heap->Prop):Prop:=
EW aJ (lenV ((Sl.mk none 0 0)).v+(oH a0.Parts.v).getD 0) (dM E [95,95] ((Sl.mk none 0 0)).v a0.Parts.v H) fun(x1:Sl) H1=>
Q ((ay.mk a0.Name a0.Suit a0.Kind a0.Cost a0.Power a0.Health a0.Traits a0.Token x1),()) H1
def P9:dL:=.leaf
theorem Qa(a0:ay)(H:Heap)(Q:ay×Unit->Heap->Prop):wK a0 H Q=fB C [1,2] Tryz.f75.ntmps Tryz.f75.results.toList [aA] (aP Tryz.f75) P9 [(aA.enc a0)] H Q:=by kernel_rfl
theorem Qb{a0:ay}{H:Heap}{Q:ay×Unit->Heap->Prop}(h:wK a0 H Q):CALL P [aA] lQ [(aA.enc a0)] H Q:=aB hE Tryz.func75 rfl (by kernel_rfl) (Qa a0 H Q) h
def uo(a0:Int)(H:Heap)(Q:Bool×Unit->Heap->Prop):Prop:=
JOIN (fun(j1:(Bool×Unit)×(Unit)->Heap->Prop)=>
aK (decide (a0≥(-9))) (
j1 ((decide (a0≤9),()),(())) H) (
j1 ((false,()),(())) H)) fun(y2:(Bool×Unit)×(Unit)) H1=>
Q (y2.1.1,()) H1
def Nc:dL:=(.seq .leaf (.seq (.reg ⟨[(2,ah)],[],(rg 3 6 [])⟩) .leaf))
theorem Nh(a0:Int)(H:Heap)(Q:Bool×Unit->Heap->Prop):uo a0 H Q=fB C [] Tryz.f76.ntmps Tryz.f76.results.toList [ah] (aP Tryz.f76) Nc [(.int .i64 a0)] H Q:=by kernel_rfl
theorem Nj{a0:Int}{H:Heap}{Q:Bool×Unit->Heap->Prop}(h:uo a0 H Q):CALL P [ah] nX [(.int .i64 a0)] H Q:=aB hE Tryz.func76 rfl (by kernel_rfl) (Nh a0 H Q) h
def yS(a0:ByteArray)(H:Heap)(Q:Bool×Unit->Heap->Prop):Prop:=
JOIN (fun(j1:(Bool×Unit)×(Unit)->Heap->Prop)=>
dW (au .i64) (pU E 9 (.string a0) H) fun(x3:Int)=>
aK (x3==0) (
j1 ((true,()),(())) H) (
dW (au .i64) (pU E 9 (.string a0) H) fun(x4:Int)=>
aK (decide (x4>20)) (
j1 ((true,()),(())) H) (
dW (au .u8) (dF E 9 (.string a0) (.int .i64 0)) fun(x5:Int)=>
j1 ((x5==45,()),(())) H))) fun(y2:(Bool×Unit)×(Unit)) H1=>
aK y2.1.1 (
Q (false,()) H1) (
aeh (Bg E 9 (.string a0) H1) fun(x6:Value) H2=>
JOIN (fun(j7:(Unit)×(Unit)->Heap->Prop)=>
LOOP (fun(r9:(Unit)×(Unit)->Heap->Prop) (s10:(Unit)×(Unit)) H4=>
NXT (xZ x6 H4) (fun(i11:Int) (r12:Int) H5=>
JOIN (fun(j13:(Bool×Unit)×(Unit)->Heap->Prop)=>
aK (r12 !=45) (
aK (decide (r12<97)) (
j13 ((true,()),(())) H5) (
j13 ((decide (r12>122),()),(())) H5)) (
j13 ((false,()),(())) H5)) fun(y14:(Bool×Unit)×(Unit)) H7=>
aK y14.1.1 (
Q (false,()) H7) (
r9 ((()),(())) H7)) (fun H6=>
j7 ((()),(())) H6)) ((()),(())) H2) fun(y8:(Unit)×(Unit)) H3=>
Q (true,()) H3)
def TJ:dL:=(.seq .leaf (.seq (.seq (.reg ⟨[(17,ah)],[],(rg 5 12 [])⟩) .leaf) (.seq (.seq .leaf (.blk (some ⟨[],[],(rg 2 1 (rg 4 1 (rg 20 13 [])))⟩) (.loop ⟨[],[],(rg 2 1 (rg 4 1 (rg 20 13 [])))⟩ (.seq .leaf (.seq .leaf (.blk none (.seq .leaf (.seq (.reg ⟨[(32,ah)],[],(rg 23 9 [])⟩) .leaf)))))))) .leaf)))
theorem TL(a0:ByteArray)(H:Heap)(Q:Bool×Unit->Heap->Prop):yS a0 H Q=fB C [] Tryz.f77.ntmps Tryz.f77.results.toList [ah] (aP Tryz.f77) TJ [(.string a0)] H Q:=by kernel_rfl
theorem TN{a0:ByteArray}{H:Heap}{Q:Bool×Unit->Heap->Prop}(h:yS a0 H Q):CALL P [ah] yH [(.string a0)] H Q:=aB hE Tryz.func77 rfl (by kernel_rfl) (TL a0 H Q) h
def wL(a0:ByteArray)(H:Heap)(Q:Bool×Unit->Heap->Prop):Prop:=
JOIN (fun(j1:(Bool×Unit)×(Unit)->Heap->Prop)=>
dW (au .i64) (pU E 9 (.string a0) H) fun(x3:Int)=>
aK (decide (x3<1)) (
j1 ((true,()),(())) H) (
dW (au .i64) (pU E 9 (.string a0) H) fun(x4:Int)=>
aK (decide (x4>20)) (
j1 ((true,()),(())) H) (
dW (au .u8) (dF E 9 (.string a0) (.int .i64 0)) fun(x5:Int)=>
aK (decide (x5<97)) (
j1 ((true,()),(())) H) (
dW (au .u8) (dF E 9 (.string a0) (.int .i64 0)) fun(x6:Int)=>
j1 ((decide (x6>122),()),(())) H)))) fun(y2:(Bool×Unit)×(Unit)) H1=>
aK y2.1.1 (
Q (false,()) H1) (
JOIN (fun(j7:(Unit)×(Unit)->Heap->Prop)=>
LOOP (fun(r9:(Int×Unit)×(Unit)->Heap->Prop) (s10:(Int×Unit)×(Unit)) H3=>
dW (au .i64) (pU E 9 (.string a0) H3) fun(x11:Int)=>
aK (decide (s10.1.1<x11)) (
JOIN (fun(j12:(Bool×Unit)×(Unit)->Heap->Prop)=>
dW (au .u8) (dF E 9 (.string a0) (.int .i64 s10.1.1)) fun(x14:Int)=>
aK (decide (x14<97)) (
dW (au .u8) (dF E 9 (.string a0) (.int .i64 s10.1.1)) fun(x15:Int)=>
j12 ((x15 !=45,()),(())) H3) (
dW (au .u8) (dF E 9 (.string a0) (.int .i64 s10.1.1)) fun(x16:Int)=>
aK (decide (x16>122)) (
dW (au .u8) (dF E 9 (.string a0) (.int .i64 s10.1.1)) fun(x17:Int)=>
j12 ((x17 !=45,()),(())) H3) (
j12 ((false,()),(())) H3))) fun(y13:(Bool×Unit)×(Unit)) H4=>
aK y13.1.1 (
Q (false,()) H4) (
r9 ((IntKind.wrap .i64 (s10.1.1+1),()),(())) H4)) (
j7 ((()),(())) H3)) ((0,()),(())) H1) fun(y8:(Unit)×(Unit)) H2=>
Q (true,()) H2)
def Qc:dL:=(.seq .leaf (.seq (.seq (.reg ⟨[(21,ah)],[],(rg 4 17 [])⟩) .leaf) (.seq (.seq .leaf (.blk (some ⟨[],[],(rg 2 2 (rg 22 22 []))⟩) (.loop ⟨[(3,(au .i64))],[],(rg 2 1 (rg 22 22 []))⟩ (.seq .leaf (.seq (.blk none (.seq (.reg ⟨[(43,ah)],[],(rg 28 15 [])⟩) .leaf)) .leaf))))) .leaf)))
theorem Qe(a0:ByteArray)(H:Heap)(Q:Bool×Unit->Heap->Prop):wL a0 H Q=fB C [] Tryz.f78.ntmps Tryz.f78.results.toList [ah] (aP Tryz.f78) Qc [(.string a0)] H Q:=by kernel_rfl
theorem Qg{a0:ByteArray}{H:Heap}{Q:Bool×Unit->Heap->Prop}(h:wL a0 H Q):CALL P [ah] wu [(.string a0)] H Q:=aB hE Tryz.func78 rfl (by kernel_rfl) (Qe a0 H Q) h
def nI(a0:Option Addr)(H:Heap)(Q:Bool×Unit->Heap->Prop):Prop:=
JOIN (fun(j1:(Bool×Unit)×(Unit)->Heap->Prop)=>
aK a0.isNone (
j1 ((true,()),(())) H) (
NIL a0 fun b3 o4=>
LD ah H b3 (o4+0) fun(x5:Bool)=>
j1 ((!x5,()),(())) H)) fun(y2:(Bool×Unit)×(Unit)) H1=>
Q (y2.1.1,()) H1
def FW:dL:=(.seq .leaf (.seq (.reg ⟨[(2,ah)],[],(rg 3 9 [])⟩) .leaf))
theorem FX(a0:Option Addr)(H:Heap)(Q:Bool×Unit->Heap->Prop):nI a0 H Q=fB C [] Tryz.f79.ntmps Tryz.f79.results.toList [ah] (aP Tryz.f79) FW [(.pointer a0)] H Q:=by kernel_rfl
theorem FY{a0:Option Addr}{H:Heap}{Q:Bool×Unit->Heap->Prop}(h:nI a0 H Q):CALL P [ah] eG [(.pointer a0)] H Q:=aB hE Tryz.func79 rfl (by kernel_rfl) (FX a0 H Q) h
def uq(a0:Option Addr)(a1:Sl)(a2:Sl)(H:Heap)(Q:aF×Int×Unit->Heap->Prop):Prop:=
NEW H [(.slice a1.p a1.len a1.cap)] 1 fun H1=>
LD aJ H1 H.length 0 fun(x1:Sl)=>
LD aJ H1 H.length 0 fun(x2:Sl)=>
GEN aJ (dR E 22 (.int .i64 (x2.len:Int)) (.int .i64 (x2.len:Int)) H1) fun(x3:Sl) H2=>
LD aJ H2 H.length 0 fun(x4:Sl)=>
vT (aJ.enc x4=x1.v) (
CALL P [(au .i64),(au .i64)] jJ [(.pointer a0),(.string (ByteArray.mk #[]))] H2 fun(x5:Int×Int×Unit) H3=>
aK (x5.2.1==1) (
Q ((aF.mk a0 x1 x3 (Sl.mk none 0 0)),x5.2.1,()) H3) (
LD aJ H3 H.length 0 fun(x6:Sl)=>
aK (decide ((x6.len:Int)>2048)) (
Q ((aF.mk a0 x1 x3 (Sl.mk none 0 0)),3,()) H3) (
JOIN (fun(j7:(Bool×Unit)×(Unit)->Heap->Prop)=>
CALL P [ah] iL [(.pointer a0)] H3 fun(x9:Bool×Unit) H5=>
aK (!x9.1) (
j7 ((true,()),(())) H5) (
LD aJ H5 H.length 0 fun(x10:Sl)=>
j7 (((a2.len:Int) !=(x10.len:Int),()),(())) H5)) fun(y8:(Bool×Unit)×(Unit)) H4=>
aK y8.1.1 (
Q ((aF.mk a0 x1 x3 (Sl.mk none 0 0)),2,()) H4) (
LD aJ H4 H.length 0 fun(x11:Sl)=>
JOIN (fun(j12:(Unit)×(aF×aF×Unit)->Heap->Prop)=>
LOOP (fun(r14:(Int×Unit)×(aF×aF×Unit)->Heap->Prop) (s15:(Int×Unit)×(aF×aF×Unit)) H7=>
aK (decide (s15.1.1<(x11.len:Int))) (
JOIN (fun(j16:(Unit)×(aF×aF×Unit)->Heap->Prop)=>
dw x11.p x11.len s15.1.1 11 fun b18 o19=>
LD aV H7 b18 o19 fun(x20:bn)=>
CALL P [aA,(au .i64)] pW [(.pointer a0),(aV.enc x20)] H7 fun(x21:ay×Int×Unit) H9=>
JOIN (fun(j22:(Bool×Unit)×(Unit)->Heap->Prop)=>
aK (x21.2.1 !=0) (
j22 ((true,()),(())) H9) (
aK (x20.Owner !=0) (
aK (x20.Owner !=1) (
j22 ((true,()),(())) H9) (
aK (decide (x20.Place<1)) (
j22 ((true,()),(())) H9) (
j22 ((decide (x20.Place>5),()),(())) H9))) (
aK (decide (x20.Place<1)) (
j22 ((true,()),(())) H9) (
j22 ((decide (x20.Place>5),()),(())) H9)))) fun(y23:(Bool×Unit)×(Unit)) H10=>
aK y23.1.1 (
Q (s15.2.2.1,2,()) H10) (
aK (x20.Place !=4) (
j16 ((()),(s15.2.1,s15.2.2.1,())) H10) (
JOIN (fun(j24:(Bool×Unit)×(Unit)->Heap->Prop)=>
aK (x21.1.Kind==2) (
j24 ((true,()),(())) H10) (
aK (decide (x20.Stamp<1)) (
j24 ((true,()),(())) H10) (
dw a2.p a2.len s15.1.1 5 fun b26 o27=>
LD (au .i64) H10 b26 (o27+0) fun(x28:Int)=>
aK (x28 !=0) (
dw a2.p a2.len s15.1.1 5 fun b29 o30=>
LD (au .i64) H10 b29 (o30+0) fun(x31:Int)=>
aK (x31 !=1) (
j24 ((true,()),(())) H10) (
dw a2.p a2.len s15.1.1 5 fun b32 o33=>
LD (au .u16) H10 b32 (o33+2) fun(x34:Int)=>
CALL P [ah] kD [(.int .u16 x34)] H10 fun(x35:Bool×Unit) H12=>
j24 ((!x35.1,()),(())) H12)) (
dw a2.p a2.len s15.1.1 5 fun b36 o37=>
LD (au .u16) H10 b36 (o37+2) fun(x38:Int)=>
CALL P [ah] kD [(.int .u16 x38)] H10 fun(x39:Bool×Unit) H13=>
j24 ((!x39.1,()),(())) H13)))) fun(y25:(Bool×Unit)×(Unit)) H11=>
aK y25.1.1 (
Q (s15.2.2.1,2,()) H11) (
dw s15.2.2.1.cards.p s15.2.2.1.cards.len s15.1.1 9 fun b40 o41=>
ST H11 b40 o41 (aA.cells x21.1) fun H14=>
EW aJ (lenV s15.2.2.1.order.v+1) (fC E [27,27] s15.2.2.1.order.v 1 [(.int .i64 s15.1.1)] H14) fun(x42:Sl) H15=>
aK (decide ((x42.len:Int)>16)) (
Q ((aF.mk s15.2.2.1.b s15.2.2.1.things s15.2.2.1.cards x42),2,()) H15) (
j16 ((()),(s15.2.1,(aF.mk s15.2.2.1.b s15.2.2.1.things s15.2.2.1.cards x42),())) H15))))) fun(y17:(Unit)×(aF×aF×Unit)) H8=>
r14 ((IntKind.wrap .i64 (s15.1.1+1),()),(y17.2.1,y17.2.2.1,())) H8) (
j12 ((()),(s15.2.1,s15.2.2.1,())) H7)) ((0,()),((aF.mk none (Sl.mk none 0 0) (Sl.mk none 0 0) (Sl.mk none 0 0)),(aF.mk a0 x1 x3 (Sl.mk none 0 0)),())) H4) fun(y13:(Unit)×(aF×aF×Unit)) H6=>
CALL P [] gq [y13.2.2.1.order.v,(.func (.func dV) #[] #[(.pointer (some ⟨H.length,0,none⟩))])] H6 fun(x43:Unit) H16=>
JOIN (fun(j44:(Unit)×(aF×Unit)->Heap->Prop)=>
LOOP (fun(r46:(Int×Unit)×(aF×Unit)->Heap->Prop) (s47:(Int×Unit)×(aF×Unit)) H18=>
aK (decide (s47.1.1<(y13.2.2.1.order.len:Int))) (
LD aJ H18 H.length 0 fun(x48:Sl)=>
dw y13.2.2.1.order.p y13.2.2.1.order.len (IntKind.wrap .i64 (s47.1.1-1)) 1 fun b49 o50=>
LD (au .i64) H18 b49 o50 fun(x51:Int)=>
dw x48.p x48.len x51 11 fun b52 o53=>
LD (au .i64) H18 b52 (o53+3) fun(x54:Int)=>
LD aJ H18 H.length 0 fun(x55:Sl)=>
dw y13.2.2.1.order.p y13.2.2.1.order.len s47.1.1 1 fun b56 o57=>
LD (au .i64) H18 b56 o57 fun(x58:Int)=>
dw x55.p x55.len x58 11 fun b59 o60=>
LD (au .i64) H18 b59 (o60+3) fun(x61:Int)=>
aK (x54==x61) (
Q (y13.2.2.1,2,()) H18) (
r46 ((IntKind.wrap .i64 (s47.1.1+1),()),(s47.2.1,())) H18)) (
j44 ((()),(s47.2.1,())) H18)) ((1,()),(y13.2.1,())) H16) fun(y45:(Unit)×(aF×Unit)) H17=>
Q (y13.2.2.1,0,()) H17))))
def Nk:dL:=(.seq .leaf (.seq .leaf (.seq (.seq .leaf (.blk none (.seq .leaf (.cond none .leaf (.seq .leaf (.cond none .leaf (.seq (.reg ⟨[(37,ah)],[],(rg 38 10 [])⟩) .leaf))))))) (.seq (.seq .leaf (.blk (some ⟨[],[(0,aC),(1,aC)],(rg 7 1 (rg 11 4 (rg 51 88 [])))⟩) (.loop ⟨[(51,(au .i64))],[(0,aC),(1,aC)],(rg 7 1 (rg 11 4 (rg 52 87 [])))⟩ (.seq .leaf (.seq .leaf (.seq (.blk (some ⟨[],[(0,aC),(1,aC)],(rg 7 1 (rg 11 4 (rg 53 85 [])))⟩) (.seq .leaf (.seq .leaf (.seq (.seq (.reg ⟨[(83,ah)],[],(rg 62 21 [])⟩) .leaf) (.seq .leaf (.seq (.seq (.reg ⟨[(120,ah)],[],(rg 88 32 [])⟩) .leaf) .leaf)))))) .leaf)))))) (.seq .leaf (.seq (.seq .leaf (.blk (some ⟨[],[(0,aC)],(rg 7 1 (rg 15 1 (rg 143 28 [])))⟩) (.loop ⟨[(15,(au .i64))],[(0,aC)],(rg 7 1 (rg 143 28 []))⟩ .leaf))) .leaf))))))
theorem Nl(a0:Option Addr)(a1:Sl)(a2:Sl)(H:Heap)(Q:aF×Int×Unit->Heap->Prop):uq a0 a1 a2 H Q=fB C [6,8,12,13,130] Tryz.f80.ntmps Tryz.f80.results.toList [aC,(au .i64)] (aP Tryz.f80) Nk [(.pointer a0),a1.v,a2.v] H Q:=by kernel_rfl
theorem Np{a0:Option Addr}{a1:Sl}{a2:Sl}{H:Heap}{Q:aF×Int×Unit->Heap->Prop}(h:uq a0 a1 a2 H Q):CALL P [aC,(au .i64)] kC [(.pointer a0),a1.v,a2.v] H Q:=aB hE Tryz.func80 rfl (by kernel_rfl) (Nl a0 a1 a2 H Q) h
def jU(a0:aF)(a1:Sl)(a2:aN)(H:Heap)(Q:Sl×Unit->Heap->Prop):Prop:=
JOIN (fun(j1:(Sl×Unit)×(Unit)->Heap->Prop)=>
LOOP (fun(r3:(Sl×Int×Unit)×(Unit)->Heap->Prop) (s4:(Sl×Int×Unit)×(Unit)) H2=>
aK (decide (s4.1.2.1<(a0.order.len:Int))) (
dw a0.order.p a0.order.len s4.1.2.1 1 fun b5 o6=>
LD (au .i64) H2 b5 o6 fun(x7:Int)=>
CALL P [ah] jP [(aC.enc a0),a1.v,(aH.enc a2),(.int .i64 x7)] H2 fun(x8:Bool×Unit) H3=>
JOIN (fun(j9:(Sl×Unit)×(Unit)->Heap->Prop)=>
aK x8.1 (
EW aJ (lenV s4.1.1.v+1) (fC E [27,27] s4.1.1.v 1 [(.int .i64 (IntKind.wrap .i64 (x7+1)))] H3) fun(x11:Sl) H5=>
j9 ((x11,()),(())) H5) (
j9 ((s4.1.1,()),(())) H3)) fun(y10:(Sl×Unit)×(Unit)) H4=>
r3 ((y10.1.1,IntKind.wrap .i64 (s4.1.2.1+1),()),(())) H4) (
j1 ((s4.1.1,()),(())) H2)) (((Sl.mk none 0 0),0,()),(())) H) fun(y2:(Sl×Unit)×(Unit)) H1=>
Q (y2.1.1,()) H1
def Ag:dL:=(.seq .leaf (.seq .leaf (.seq (.seq .leaf (.blk (some ⟨[(7,aJ)],[],(rg 9 1 (rg 13 15 []))⟩) (.loop ⟨[(7,aJ),(13,(au .i64))],[],(rg 9 1 (rg 14 14 []))⟩ (.seq .leaf (.seq .leaf (.seq (.blk none (.seq .leaf (.seq .leaf (.cond (some ⟨[(7,aJ)],[],(rg 22 5 [])⟩) .leaf .leaf)))) .leaf)))))) .leaf)))
theorem Ah(a0:aF)(a1:Sl)(a2:aN)(H:Heap)(Q:Sl×Unit->Heap->Prop):jU a0 a1 a2 H Q=fB C [3,5,25] Tryz.f82.ntmps Tryz.f82.results.toList [aJ] (aP Tryz.f82) Ag [(aC.enc a0),a1.v,(aH.enc a2)] H Q:=by kernel_rfl
theorem Ai{a0:aF}{a1:Sl}{a2:aN}{H:Heap}{Q:Sl×Unit->Heap->Prop}(h:jU a0 a1 a2 H Q):CALL P [aJ] fH [(aC.enc a0),a1.v,(aH.enc a2)] H Q:=aB hE Tryz.func82 rfl (by kernel_rfl) (Ah a0 a1 a2 H Q) h
def jV(a0:aF)(a1:Sl)(a2:aN)(H:Heap)(Q:Sl×Unit->Heap->Prop):Prop:=
CALL P [aJ] bU [a1.v] H fun(x1:Sl×Unit) H1=>
CALL P [aJ] fH [(aC.enc a0),a1.v,(aH.enc a2)] H1 fun(x2:Sl×Unit) H2=>
JOIN (fun(j3:(Unit)×(Unit)->Heap->Prop)=>
LOOP (fun(r5:(Int×Unit)×(Unit)->Heap->Prop) (s6:(Int×Unit)×(Unit)) H4=>
aK (decide (s6.1.1<(x2.1.len:Int))) (
dw x2.1.p x2.1.len s6.1.1 1 fun b7 o8=>
LD (au .i64) H4 b7 o8 fun(x9:Int)=>
dw x1.1.p x1.1.len (IntKind.wrap .i64 (x9-1)) 5 fun b10 o11=>
JOIN (fun(j12:(Unit)×(Unit)->Heap->Prop)=>
aK (a2.What.Verb==10) (
dw a1.p a1.len (IntKind.wrap .i64 (a2.Thing-1)) 5 fun b14 o15=>
LD (au .i64) H4 b14 (o15+0) fun(x16:Int)=>
ST H4 b10 (o11+0) [(.int .i64 x16)] fun H6=>
j12 ((()),(())) H6) (
JOIN (fun(j17:(Unit)×(Unit)->Heap->Prop)=>
aK (a2.What.Verb==11) (
ST H4 b10 (o11+1) [(.int .u8 a2.What.Suit)] fun H8=>
j17 ((()),(())) H8) (
JOIN (fun(j19:(Unit)×(Unit)->Heap->Prop)=>
aK (a2.What.Verb==12) (
LD (au .u16) H4 b10 (o11+2) fun(x21:Int)=>
CALL P [(au .u16)] wz [(.int .u16 x21),(.int .u8 a2.What.Trait)] H4 fun(x22:Int×Unit) H10=>
ST H10 b10 (o11+2) [(.int .u16 x22.1)] fun H11=>
j19 ((()),(())) H11) (
JOIN (fun(j23:(Unit)×(Unit)->Heap->Prop)=>
aK (a2.What.Verb==13) (
LD (au .u16) H4 b10 (o11+2) fun(x25:Int)=>
CALL P [(au .u16)] oO [(.int .u16 x25),(.int .u8 a2.What.Trait)] H4 fun(x26:Int×Unit) H13=>
ST H13 b10 (o11+2) [(.int .u16 x26.1)] fun H14=>
j23 ((()),(())) H14) (
JOIN (fun(j27:(Unit)×(Unit)->Heap->Prop)=>
aK (a2.What.Verb==14) (
ST H4 b10 (o11+3) [(.int .i64 a2.What.Count)] fun H16=>
vT ((some (.int .i64 a2.What.Count):Option Value)=some (.int .i64 a2.What.Count)) (
ST H16 b10 (o11+4) [(.int .i64 a2.What.Count)] fun H17=>
j27 ((()),(())) H17)) (
JOIN (fun(j29:(Unit)×(Unit)->Heap->Prop)=>
aK (a2.What.Verb==15) (
LD (au .i64) H4 b10 (o11+3) fun(x31:Int)=>
ST H4 b10 (o11+3) [(.int .i64 (IntKind.wrap .i64 (x31+a2.What.Count)))] fun H19=>
LD (au .i64) H19 b10 (o11+4) fun(x32:Int)=>
ST H19 b10 (o11+4) [(.int .i64 (IntKind.wrap .i64 (x32+a2.What.Count)))] fun H20=>
j29 ((()),(())) H20) (
j29 ((()),(())) H4)) fun(y30:(Unit)×(Unit)) H18=>
j27 ((()),(())) H18)) fun(y28:(Unit)×(Unit)) H15=>
j23 ((()),(())) H15)) fun(y24:(Unit)×(Unit)) H12=>
j19 ((()),(())) H12)) fun(y20:(Unit)×(Unit)) H9=>
j17 ((()),(())) H9)) fun(y18:(Unit)×(Unit)) H7=>
j12 ((()),(())) H7)) fun(y13:(Unit)×(Unit)) H5=>
r5 ((IntKind.wrap .i64 (s6.1.1+1),()),(())) H5) (
j3 ((()),(())) H4)) ((0,()),(())) H2) fun(y4:(Unit)×(Unit)) H3=>
Q (x1.1,()) H3
def Aj:dL:=(.seq .leaf (.seq .leaf (.seq (.seq .leaf (.blk (some ⟨[],[],(rg 9 2 (rg 18 94 []))⟩) (.loop ⟨[(18,(au .i64))],[],(rg 9 2 (rg 19 93 []))⟩ (.seq .leaf (.seq .leaf (.seq (.blk none (.seq .leaf (.seq .leaf (.seq .leaf (.blk none (.seq .leaf (.cond (some ⟨[],[],(rg 31 80 [])⟩) .leaf (.seq .leaf (.cond (some ⟨[],[],(rg 43 68 [])⟩) .leaf (.seq .leaf (.cond (some ⟨[],[],(rg 51 60 [])⟩) .leaf (.seq .leaf (.cond (some ⟨[],[],(rg 64 47 [])⟩) .leaf (.seq .leaf (.cond (some ⟨[],[],(rg 77 34 [])⟩) .leaf (.seq .leaf (.cond (some ⟨[],[],(rg 91 20 [])⟩) .leaf .leaf))))))))))))))))) .leaf)))))) .leaf)))
theorem Ak(a0:aF)(a1:Sl)(a2:aN)(H:Heap)(Q:Sl×Unit->Heap->Prop):jV a0 a1 a2 H Q=fB C [3,5] Tryz.f84.ntmps Tryz.f84.results.toList [aJ] (aP Tryz.f84) Aj [(aC.enc a0),a1.v,(aH.enc a2)] H Q:=by kernel_rfl
theorem Am{a0:aF}{a1:Sl}{a2:aN}{H:Heap}{Q:Sl×Unit->Heap->Prop}(h:jV a0 a1 a2 H Q):CALL P [aJ] iC [(aC.enc a0),a1.v,(aH.enc a2)] H Q:=aB hE Tryz.func84 rfl (by kernel_rfl) (Ak a0 a1 a2 H Q) h
def qM(a0:Option Addr)(a1:Int)(H:Heap)(Q:ay×Int×Unit->Heap->Prop):Prop:=
CALL P [ah] eG [(.pointer a0)] H fun(x1:Bool×Unit) H1=>
aK x1.1 (
Q ((ay.mk (ByteArray.mk #[]) 0 0 0 0 0 0 false (Sl.mk none 0 0)),1,()) H1) (
JOIN (fun(j2:(Bool×Unit)×(Unit)->Heap->Prop)=>
NIL a0 fun b4 o5=>
LD ah H1 b4 (o5+1) fun(x6:Bool)=>
aK (!x6) (
j2 ((true,()),(())) H1) (
aK (decide (a1<1)) (
j2 ((true,()),(())) H1) (
NIL a0 fun b7 o8=>
LD (au .i64) H1 b7 (o8+2) fun(x9:Int)=>
j2 ((decide (a1>x9),()),(())) H1))) fun(y3:(Bool×Unit)×(Unit)) H2=>
aK y3.1.1 (
Q ((ay.mk (ByteArray.mk #[]) 0 0 0 0 0 0 false (Sl.mk none 0 0)),6,()) H2) (
NIL a0 fun b10 o11=>
yu 64 (IntKind.wrap .i64 (a1-1)) (
LD aA H2 b10 (o11+3+(IntKind.wrap .i64 (a1-1)).toNat*9) fun(x12:ay)=>
CALL P [aA] rY [(aA.enc x12)] H2 fun(x13:ay×Unit) H3=>
Q (x13.1,0,()) H3)))
def J3:dL:=(.seq .leaf (.seq .leaf (.seq (.seq (.reg ⟨[(25,ah)],[],(rg 9 16 [])⟩) .leaf) .leaf)))
theorem J4(a0:Option Addr)(a1:Int)(H:Heap)(Q:ay×Int×Unit->Heap->Prop):qM a0 a1 H Q=fB C [4] Tryz.f92.ntmps Tryz.f92.results.toList [aA,(au .i64)] (aP Tryz.f92) J3 [(.pointer a0),(.int .i64 a1)] H Q:=by kernel_rfl
theorem J5{a0:Option Addr}{a1:Int}{H:Heap}{Q:ay×Int×Unit->Heap->Prop}(h:qM a0 a1 H Q):CALL P [aA,(au .i64)] qA [(.pointer a0),(.int .i64 a1)] H Q:=aB hE Tryz.func92 rfl (by kernel_rfl) (J4 a0 a1 H Q) h
def jC(a0:Sl)(H:Heap)(Q:Int×Unit->Heap->Prop):Prop:=
JOIN (fun(j1:(Unit)×(Unit)->Heap->Prop)=>
aK (decide ((a0.len:Int)<1)) (
False) (
j1 ((()),(())) H)) fun(y2:(Unit)×(Unit)) H1=>
dw a0.p a0.len 0 1 fun b3 o4=>
LD (au .i64) H1 b3 o4 fun(x5:Int)=>
JOIN (fun(j6:(Int×Unit)×(Unit)->Heap->Prop)=>
LOOP (fun(r8:(Int×Int×Unit)×(Unit)->Heap->Prop) (s9:(Int×Int×Unit)×(Unit)) H3=>
aK (decide (s9.1.2.1<(a0.len:Int))) (
dw a0.p a0.len s9.1.2.1 1 fun b10 o11=>
LD (au .i64) H3 b10 o11 fun(x12:Int)=>
r8 ((if x12<s9.1.1 then x12 else s9.1.1,IntKind.wrap .i64 (s9.1.2.1+1),()),(())) H3) (
j6 ((s9.1.1,()),(())) H3)) ((x5,1,()),(())) H1) fun(y7:(Int×Unit)×(Unit)) H2=>
Q (y7.1.1,()) H2
def yT:dL:=(.seq .leaf (.seq (.seq .leaf (.cond (some ⟨[],[],[8]⟩) .leaf .leaf)) (.seq .leaf (.seq (.seq .leaf (.blk (some ⟨[(3,(au .i64))],[],(rg 4 1 (rg 12 12 []))⟩) (.loop ⟨[(3,(au .i64)),(4,(au .i64))],[],(rg 12 12 [])⟩ .leaf))) .leaf))))
theorem yU(a0:Sl)(H:Heap)(Q:Int×Unit->Heap->Prop):jC a0 H Q=fB C [] Tryz.f93.ntmps Tryz.f93.results.toList [(au .i64)] (aP Tryz.f93) yT [a0.v] H Q:=by kernel_rfl
theorem yV{a0:Sl}{H:Heap}{Q:Int×Unit->Heap->Prop}(h:jC a0 H Q):CALL P [(au .i64)] jv [a0.v] H Q:=aB hE Tryz.func93 rfl (by kernel_rfl) (yU a0 H Q) h
def jD(a0:Sl)(H:Heap)(Q:Int×Unit->Heap->Prop):Prop:=
JOIN (fun(j1:(Unit)×(Unit)->Heap->Prop)=>
aK (decide ((a0.len:Int)<1)) (
False) (
j1 ((()),(())) H)) fun(y2:(Unit)×(Unit)) H1=>
dw a0.p a0.len 0 1 fun b3 o4=>
LD (au .i64) H1 b3 o4 fun(x5:Int)=>
JOIN (fun(j6:(Int×Unit)×(Unit)->Heap->Prop)=>
LOOP (fun(r8:(Int×Int×Unit)×(Unit)->Heap->Prop) (s9:(Int×Int×Unit)×(Unit)) H3=>
aK (decide (s9.1.2.1<(a0.len:Int))) (
dw a0.p a0.len s9.1.2.1 1 fun b10 o11=>
LD (au .i64) H3 b10 o11 fun(x12:Int)=>
r8 ((if x12>s9.1.1 then x12 else s9.1.1,IntKind.wrap .i64 (s9.1.2.1+1),()),(())) H3) (
j6 ((s9.1.1,()),(())) H3)) ((x5,1,()),(())) H1) fun(y7:(Int×Unit)×(Unit)) H2=>
Q (y7.1.1,()) H2
def yX:dL:=(.seq .leaf (.seq (.seq .leaf (.cond (some ⟨[],[],[8]⟩) .leaf .leaf)) (.seq .leaf (.seq (.seq .leaf (.blk (some ⟨[(3,(au .i64))],[],(rg 4 1 (rg 12 12 []))⟩) (.loop ⟨[(3,(au .i64)),(4,(au .i64))],[],(rg 12 12 [])⟩ .leaf))) .leaf))))
theorem yY(a0:Sl)(H:Heap)(Q:Int×Unit->Heap->Prop):jD a0 H Q=fB C [] Tryz.f94.ntmps Tryz.f94.results.toList [(au .i64)] (aP Tryz.f94) yX [a0.v] H Q:=by kernel_rfl
theorem yZ{a0:Sl}{H:Heap}{Q:Int×Unit->Heap->Prop}(h:jD a0 H Q):CALL P [(au .i64)] jw [a0.v] H Q:=aB hE Tryz.func94 rfl (by kernel_rfl) (yY a0 H Q) h
def oZ(a0:Option Addr)(a1:Sl)(a2:Sl)(a3:Int)(H:Heap)(Q:Sl×Int×Unit->Heap->Prop):Prop:=
CALL P [aC,(au .i64)] kC [(.pointer a0),a1.v,a2.v] H fun(x1:aF×Int×Unit) H1=>
aK (x1.2.1 !=0) (
Q ((Sl.mk none 0 0),x1.2.1,()) H1) (
JOIN (fun(j2:(Bool×Unit)×(Unit)->Heap->Prop)=>
aK (decide (a3<1)) (
j2 ((true,()),(())) H1) (
j2 ((decide (a3>5),()),(())) H1)) fun(y3:(Bool×Unit)×(Unit)) H2=>
aK y3.1.1 (
Q ((Sl.mk none 0 0),2,()) H2) (
CALL P [aJ] je [(aC.enc x1.1),a2.v,(.int .i64 a3)] H2 fun(x4:Sl×Unit) H3=>
Q (x4.1,0,()) H3))
def Hl:dL:=(.seq .leaf (.seq .leaf (.seq (.blk none (.seq .leaf (.cond none .leaf (.seq (.reg ⟨[(23,ah)],[],(rg 24 6 [])⟩) .leaf)))) .leaf)))
theorem Ho(a0:Option Addr)(a1:Sl)(a2:Sl)(a3:Int)(H:Heap)(Q:Sl×Int×Unit->Heap->Prop):oZ a0 a1 a2 a3 H Q=fB C [10] Tryz.f95.ntmps Tryz.f95.results.toList [aJ,(au .i64)] (aP Tryz.f95) Hl [(.pointer a0),a1.v,a2.v,(.int .i64 a3)] H Q:=by kernel_rfl
theorem Hq{a0:Option Addr}{a1:Sl}{a2:Sl}{a3:Int}{H:Heap}{Q:Sl×Int×Unit->Heap->Prop}(h:oZ a0 a1 a2 a3 H Q):CALL P [aJ,(au .i64)] oM [(.pointer a0),a1.v,a2.v,(.int .i64 a3)] H Q:=aB hE Tryz.func95 rfl (by kernel_rfl) (Ho a0 a1 a2 a3 H Q) h
def dB(a0:Sl)(H:Heap)(Q:Sl×Unit->Heap->Prop):Prop:=
aK a0.p.isNone (
Q ((Sl.mk none 0 0),()) H) (
NEW H [] 5 fun H1=>
EW aJ (lenV ((Sl.mk (some ⟨H.length,0,none⟩) 0 0)).v+(oH a0.v).getD 0) (dM E [30,30] ((Sl.mk (some ⟨H.length,0,none⟩) 0 0)).v a0.v H1) fun(x1:Sl) H2=>
Q (x1,()) H2)
def jE:dL:=.leaf
theorem jF(a0:Sl)(H:Heap)(Q:Sl×Unit->Heap->Prop):dB a0 H Q=fB C [] Tryz.f96.ntmps Tryz.f96.results.toList [aJ] (aP Tryz.f96) jE [a0.v] H Q:=by kernel_rfl
theorem jG{a0:Sl}{H:Heap}{Q:Sl×Unit->Heap->Prop}(h:dB a0 H Q):CALL P [aJ] bU [a0.v] H Q:=aB hE Tryz.func96 rfl (by kernel_rfl) (jF a0 H Q) h
end Zv
end Go.Proofs.YtijnknjopjmiiaaGreatDoor
end
section
namespace Go.Proofs.YtijnknjopjmiiaaGreatDoor
open Go Zq
namespace Zv
set_option maxRecDepth 100000
set_option linter.unusedVariables false
def kV(a0:aF)(a1:Sl)(a2:Sl)(H:Heap)(Q:Int×Unit->Heap->Prop):Prop:=
JOIN (fun(j1:(Int×Int×Unit)×(Unit)->Heap->Prop)=>
LOOP (fun(r3:(Int×Int×Int×Unit)×(Unit)->Heap->Prop) (s4:(Int×Int×Int×Unit)×(Unit)) H2=>
aK (decide (s4.1.2.2.1<(a2.len:Int))) (
JOIN (fun(j5:(Int×Int×Unit)×(Unit)->Heap->Prop)=>
dw a2.p a2.len s4.1.2.2.1 10 fun b7 o8=>
LD aH H2 b7 o8 fun(x9:aN)=>
JOIN (fun(j10:(Bool×Unit)×(Unit)->Heap->Prop)=>
aK (decide (s4.1.2.1<0)) (
j10 ((true,()),(())) H2) (
dw a2.p a2.len s4.1.2.1 10 fun b12 o13=>
LD aH H2 b12 o13 fun(x14:aN)=>
CALL P [ah] iD [(aC.enc a0),(aH.enc x9),(aH.enc x14)] H2 fun(x15:Bool×Unit) H5=>
j10 ((x15.1,()),(())) H5)) fun(y11:(Bool×Unit)×(Unit)) H4=>
JOIN (fun(j16:(Int×Unit)×(Unit)->Heap->Prop)=>
aK y11.1.1 (
j16 ((s4.1.2.2.1,()),(())) H4) (
j16 ((s4.1.2.1,()),(())) H4)) fun(y17:(Int×Unit)×(Unit)) H6=>
JOIN (fun(j18:(Unit)×(Unit)->Heap->Prop)=>
LOOP (fun(r20:(Int×Unit)×(Unit)->Heap->Prop) (s21:(Int×Unit)×(Unit)) H8=>
aK (decide (s21.1.1<(a2.len:Int))) (
dw a2.p a2.len s21.1.1 10 fun b22 o23=>
LD aH H8 b22 o23 fun(x24:aN)=>
JOIN (fun(j25:(Bool×Unit)×(Unit)->Heap->Prop)=>
aK (s21.1.1 !=s4.1.2.2.1) (
CALL P [ah] jf [(aC.enc a0),a1.v,(aH.enc x9),(aH.enc x24)] H8 fun(x27:Bool×Unit) H10=>
j25 ((x27.1,()),(())) H10) (
j25 ((false,()),(())) H8)) fun(y26:(Bool×Unit)×(Unit)) H9=>
aK y26.1.1 (
j5 ((s4.1.1,y17.1.1,()),(())) H9) (
r20 ((IntKind.wrap .i64 (s21.1.1+1),()),(())) H9)) (
j18 ((()),(())) H8)) ((0,()),(())) H6) fun(y19:(Unit)×(Unit)) H7=>
JOIN (fun(j28:(Bool×Unit)×(Unit)->Heap->Prop)=>
aK (decide (s4.1.1<0)) (
j28 ((true,()),(())) H7) (
dw a2.p a2.len s4.1.1 10 fun b30 o31=>
LD aH H7 b30 o31 fun(x32:aN)=>
CALL P [ah] iD [(aC.enc a0),(aH.enc x9),(aH.enc x32)] H7 fun(x33:Bool×Unit) H12=>
j28 ((x33.1,()),(())) H12)) fun(y29:(Bool×Unit)×(Unit)) H11=>
JOIN (fun(j34:(Int×Unit)×(Unit)->Heap->Prop)=>
aK y29.1.1 (
j34 ((s4.1.2.2.1,()),(())) H11) (
j34 ((s4.1.1,()),(())) H11)) fun(y35:(Int×Unit)×(Unit)) H13=>
j5 ((y35.1.1,y17.1.1,()),(())) H13) fun(y6:(Int×Int×Unit)×(Unit)) H3=>
r3 ((y6.1.1,y6.1.2.1,IntKind.wrap .i64 (s4.1.2.2.1+1),()),(())) H3) (
j1 ((s4.1.1,s4.1.2.1,()),(())) H2)) (((-1),(-1),0,()),(())) H) fun(y2:(Int×Int×Unit)×(Unit)) H1=>
aK (decide (y2.1.1≥0)) (
Q (y2.1.1,()) H1) (
Q (y2.1.2.1,()) H1)
def CJ:dL:=(.seq .leaf (.seq .leaf (.seq .leaf (.seq (.seq .leaf (.blk (some ⟨[(7,(au .i64)),(8,(au .i64))],[],(rg 9 4 (rg 15 48 []))⟩) (.loop ⟨[(7,(au .i64)),(8,(au .i64)),(15,(au .i64))],[],(rg 9 4 (rg 16 47 []))⟩ (.seq .leaf (.seq .leaf (.seq (.blk (some ⟨[(7,(au .i64)),(8,(au .i64))],[],(rg 9 4 (rg 17 45 []))⟩) (.seq .leaf (.seq (.seq (.reg ⟨[(30,ah)],[],(rg 20 10 [])⟩) (.cond (some ⟨[(8,(au .i64))],[],[31]⟩) .leaf .leaf)) (.seq (.seq .leaf (.blk (some ⟨[],[],(rg 11 2 (rg 34 16 []))⟩) (.loop ⟨[(34,(au .i64))],[],(rg 11 2 (rg 35 15 []))⟩ (.seq .leaf (.seq .leaf (.seq (.blk none (.seq .leaf (.seq (.reg ⟨[(48,ah)],[],(rg 39 9 [])⟩) .leaf))) .leaf)))))) (.seq (.reg ⟨[(60,ah)],[],(rg 50 10 [])⟩) (.cond (some ⟨[(7,(au .i64))],[],[61]⟩) .leaf .leaf)))))) .leaf)))))) .leaf))))
theorem CO(a0:aF)(a1:Sl)(a2:Sl)(H:Heap)(Q:Int×Unit->Heap->Prop):kV a0 a1 a2 H Q=fB C [3,10,12] Tryz.f97.ntmps Tryz.f97.results.toList [(au .i64)] (aP Tryz.f97) CJ [(aC.enc a0),a1.v,a2.v] H Q:=by kernel_rfl
theorem CP{a0:aF}{a1:Sl}{a2:Sl}{H:Heap}{Q:Int×Unit->Heap->Prop}(h:kV a0 a1 a2 H Q):CALL P [(au .i64)] kQ [(aC.enc a0),a1.v,a2.v] H Q:=aB hE Tryz.func97 rfl (by kernel_rfl) (CO a0 a1 a2 H Q) h
def bZ(a0:Sl)(a1:Int)(a2:Int)(H:Heap)(Q:Sl×Unit->Heap->Prop):Prop:=
dW aJ (dS E 37 a0.v (some (.int .i64 a1)) (some (.int .i64 a2)) (some (.int .i64 (a0.len:Int))) H) fun(x1:Sl)=>
aK (a1==a2) (
Q (a0,()) H) (
dW aJ (dS E 37 a0.v none (some (.int .i64 a1)) none H) fun(x2:Sl)=>
dW aJ (dS E 37 a0.v (some (.int .i64 a2)) none none H) fun(x3:Sl)=>
EW aJ (lenV x2.v+(oH x3.v).getD 0) (dM E [37,37] x2.v x3.v H) fun(x4:Sl) H1=>
dW aJ (dS E 37 x4.v (some (.int .i64 (x4.len:Int))) (some (.int .i64 (a0.len:Int))) none H1) fun(x5:Sl)=>
abh (vH E [37] x5.v H1) fun H2=>
Q (x4,()) H2)
def iV:dL:=.leaf
theorem iW(a0:Sl)(a1:Int)(a2:Int)(H:Heap)(Q:Sl×Unit->Heap->Prop):bZ a0 a1 a2 H Q=fB C [] Tryz.f98.ntmps Tryz.f98.results.toList [aJ] (aP Tryz.f98) iV [a0.v,(.int .i64 a1),(.int .i64 a2)] H Q:=by kernel_rfl
theorem iY{a0:Sl}{a1:Int}{a2:Int}{H:Heap}{Q:Sl×Unit->Heap->Prop}(h:bZ a0 a1 a2 H Q):CALL P [aJ] bY [a0.v,(.int .i64 a1),(.int .i64 a2)] H Q:=aB hE Tryz.func98 rfl (by kernel_rfl) (iW a0 a1 a2 H Q) h
def dh(a0:Sl)(H:Heap)(Q:Sl×Unit->Heap->Prop):Prop:=
aK a0.p.isNone (
Q ((Sl.mk none 0 0),()) H) (
NEW H [] 10 fun H1=>
EW aJ (lenV ((Sl.mk (some ⟨H.length,0,none⟩) 0 0)).v+(oH a0.v).getD 0) (dM E [37,37] ((Sl.mk (some ⟨H.length,0,none⟩) 0 0)).v a0.v H1) fun(x1:Sl) H2=>
Q (x1,()) H2)
def jg:dL:=.leaf
theorem jh(a0:Sl)(H:Heap)(Q:Sl×Unit->Heap->Prop):dh a0 H Q=fB C [] Tryz.f99.ntmps Tryz.f99.results.toList [aJ] (aP Tryz.f99) jg [a0.v] H Q:=by kernel_rfl
theorem ji{a0:Sl}{H:Heap}{Q:Sl×Unit->Heap->Prop}(h:dh a0 H Q):CALL P [aJ] cZ [a0.v] H Q:=aB hE Tryz.func99 rfl (by kernel_rfl) (jh a0 H Q) h
def zf(a0:ay)(H:Heap)(Q:Int×Unit->Heap->Prop):Prop:=
CALL P [ah] wB [(.string a0.Name)] H fun(x1:Bool×Unit) H1=>
aK (!x1.1) (
Q (4,()) H1) (
JOIN (fun(j2:(Bool×Unit)×(Unit)->Heap->Prop)=>
CALL P [dG] yJ [(.int .u8 a0.Suit)] H1 fun(x4:ByteArray×Unit) H3=>
aK (x4.1.toList==(ByteArray.mk #[]).toList) (
j2 ((true,()),(())) H3) (
CALL P [dG] yK [(.int .u8 a0.Kind)] H3 fun(x5:ByteArray×Unit) H4=>
j2 ((x5.1.toList==(ByteArray.mk #[]).toList,()),(())) H4)) fun(y3:(Bool×Unit)×(Unit)) H2=>
aK y3.1.1 (
Q (8,()) H2) (
JOIN (fun(j6:(Bool×Unit)×(Unit)->Heap->Prop)=>
CALL P [ah] kE [(.int .i64 a0.Cost),(.int .i64 10)] H2 fun(x8:Bool×Unit) H6=>
aK (!x8.1) (
j6 ((true,()),(())) H6) (
CALL P [ah] kE [(.int .i64 a0.Power),(.int .i64 99)] H6 fun(x9:Bool×Unit) H7=>
aK (!x9.1) (
j6 ((true,()),(())) H7) (
CALL P [ah] kE [(.int .i64 a0.Health),(.int .i64 99)] H7 fun(x10:Bool×Unit) H8=>
j6 ((!x10.1,()),(())) H8))) fun(y7:(Bool×Unit)×(Unit)) H5=>
aK y7.1.1 (
Q (2,()) H5) (
JOIN (fun(j11:(Bool×Unit)×(Unit)->Heap->Prop)=>
aK (a0.Kind==1) (
aK (a0.Health==0) (
j11 ((true,()),(())) H5) (
aK (!(a0.Kind==1)) (
aK (a0.Power !=0) (
j11 ((true,()),(())) H5) (
j11 ((a0.Health !=0,()),(())) H5)) (
j11 ((false,()),(())) H5))) (
aK (!(a0.Kind==1)) (
aK (a0.Power !=0) (
j11 ((true,()),(())) H5) (
j11 ((a0.Health !=0,()),(())) H5)) (
j11 ((false,()),(())) H5))) fun(y12:(Bool×Unit)×(Unit)) H9=>
aK y12.1.1 (
Q (8,()) H9) (
JOIN (fun(j13:(Bool×Unit)×(Unit)->Heap->Prop)=>
CALL P [ah] kD [(.int .u16 a0.Traits)] H9 fun(x15:Bool×Unit) H11=>
aK (!x15.1) (
j13 ((true,()),(())) H11) (
aK (a0.Kind==2) (
j13 ((a0.Token,()),(())) H11) (
j13 ((false,()),(())) H11))) fun(y14:(Bool×Unit)×(Unit)) H10=>
aK y14.1.1 (
Q (8,()) H10) (
aK (decide ((a0.Parts.len:Int)>4)) (
Q (3,()) H10) (
Q (0,()) H10))))))
def TQ:dL:=(.seq .leaf (.seq .leaf (.seq (.blk none (.seq .leaf (.cond none .leaf (.seq (.reg ⟨[(12,ah)],[],(rg 13 10 [])⟩) (.cond none .leaf (.seq (.reg ⟨[(23,ah)],[],(rg 24 16 [])⟩) (.cond none .leaf (.seq (.reg ⟨[(40,ah)],[],(rg 41 20 [])⟩) (.cond none .leaf (.seq (.reg ⟨[(61,ah)],[],(rg 62 13 [])⟩) .leaf)))))))))) .leaf)))
theorem TR(a0:ay)(H:Heap)(Q:Int×Unit->Heap->Prop):zf a0 H Q=fB C [1] Tryz.f100.ntmps Tryz.f100.results.toList [(au .i64)] (aP Tryz.f100) TQ [(aA.enc a0)] H Q:=by kernel_rfl
theorem TS{a0:ay}{H:Heap}{Q:Int×Unit->Heap->Prop}(h:zf a0 H Q):CALL P [(au .i64)] yI [(aA.enc a0)] H Q:=aB hE Tryz.func100 rfl (by kernel_rfl) (TR a0 H Q) h
def qN(a0:aX)(H:Heap)(Q:Int×Unit->Heap->Prop):Prop:=
CALL P [ah,ah,ah,ah,ah] tJ [(.int .u8 a0.Verb),(.int .u8 a0.Whom)] H fun(x1:Bool×Bool×Bool×Bool×Bool×Unit) H1=>
CALL P [(au .i64),(au .i64),ah] oP [(.int .u8 a0.Verb)] H1 fun(x2:Int×Int×Bool×Unit) H2=>
JOIN (fun(j3:(Bool×Unit)×(Unit)->Heap->Prop)=>
aK (decide (a0.When<1)) (
j3 ((true,()),(())) H2) (
aK (decide (a0.When>6)) (
j3 ((true,()),(())) H2) (
aK (decide (a0.Verb<1)) (
j3 ((true,()),(())) H2) (
aK (decide (a0.Verb>19)) (
j3 ((true,()),(())) H2) (
aK (decide (a0.Whom<1)) (
j3 ((true,()),(())) H2) (
j3 ((decide (a0.Whom>10),()),(())) H2)))))) fun(y4:(Bool×Unit)×(Unit)) H3=>
aK y4.1.1 (
Q (2,()) H3) (
JOIN (fun(j5:(Bool×Unit)×(Unit)->Heap->Prop)=>
CALL P [ah] oQ [(.int .u8 a0.When),(.int .u8 a0.Verb)] H3 fun(x7:Bool×Unit) H5=>
aK (!x7.1) (
j5 ((true,()),(())) H5) (
aK (a0.Verb==11) (
j5 ((a0.Whom==9,()),(())) H5) (
j5 ((false,()),(())) H5))) fun(y6:(Bool×Unit)×(Unit)) H4=>
aK y6.1.1 (
Q (8,()) H4) (
CALL P [ah] qC [(aT.enc a0)] H4 fun(x8:Bool×Unit) H6=>
aK (!x8.1) (
Q (13,()) H6) (
JOIN (fun(j9:(Bool×Unit)×(Unit)->Heap->Prop)=>
CALL P [ah] jQ [(.int .i64 a0.Count),(.bool x1.1),(.int .i64 x2.1),(.int .i64 x2.2.1)] H6 fun(x11:Bool×Unit) H8=>
aK (!x11.1) (
j9 ((true,()),(())) H8) (
aK x1.1 (
aK (!x2.2.2.1) (
j9 ((a0.Count==0,()),(())) H8) (
j9 ((false,()),(())) H8)) (
j9 ((false,()),(())) H8))) fun(y10:(Bool×Unit)×(Unit)) H7=>
aK y10.1.1 (
Q (2,()) H7) (
JOIN (fun(j12:(Bool×Unit)×(Unit)->Heap->Prop)=>
CALL P [ah] gX [(.int .u8 a0.Suit),(.bool x1.2.1),(.int .u8 1),(.int .u8 6)] H7 fun(x14:Bool×Unit) H10=>
aK (!x14.1) (
j12 ((true,()),(())) H10) (
CALL P [ah] gu [(.int .u8 a0.Trait),(.bool x1.2.2.1),(.int .u8 1),(.int .u8 8)] H10 fun(x15:Bool×Unit) H11=>
aK (!x15.1) (
j12 ((true,()),(())) H11) (
CALL P [ah] gY [(.int .u8 a0.Mark),(.bool x1.2.2.2.1),(.int .u8 1),(.int .u8 4)] H11 fun(x16:Bool×Unit) H12=>
j12 ((!x16.1,()),(())) H12))) fun(y13:(Bool×Unit)×(Unit)) H9=>
aK y13.1.1 (
Q (2,()) H9) (
JOIN (fun(j17:(Bool×Unit)×(Unit)->Heap->Prop)=>
aK (!(x1.2.2.2.2.1==(!(a0.Name.toList==(ByteArray.mk #[]).toList)))) (
j17 ((true,()),(())) H9) (
aK x1.2.2.2.2.1 (
CALL P [ah] tK [(.string a0.Name)] H9 fun(x19:Bool×Unit) H14=>
j17 ((!x19.1,()),(())) H14) (
j17 ((false,()),(())) H9))) fun(y18:(Bool×Unit)×(Unit)) H13=>
aK y18.1.1 (
Q (4,()) H13) (
Q (0,()) H13))))))
def J6:dL:=(.seq .leaf (.seq .leaf (.seq .leaf (.seq (.blk none (.seq (.reg ⟨[(29,ah)],[],(rg 30 28 [])⟩) (.cond none .leaf (.seq (.reg ⟨[(58,ah)],[],(rg 59 16 [])⟩) (.cond none .leaf (.seq .leaf (.cond none .leaf (.seq (.reg ⟨[(79,ah)],[],(rg 80 19 [])⟩) (.cond none .leaf (.seq (.reg ⟨[(99,ah)],[],(rg 100 19 [])⟩) (.cond none .leaf (.seq (.reg ⟨[(119,ah)],[],(rg 120 14 [])⟩) .leaf)))))))))))) .leaf))))
theorem J7(a0:aX)(H:Heap)(Q:Int×Unit->Heap->Prop):qN a0 H Q=fB C [1] Tryz.f101.ntmps Tryz.f101.results.toList [(au .i64)] (aP Tryz.f101) J6 [(aT.enc a0)] H Q:=by kernel_rfl
theorem J8{a0:aX}{H:Heap}{Q:Int×Unit->Heap->Prop}(h:qN a0 H Q):CALL P [(au .i64)] qB [(aT.enc a0)] H Q:=aB hE Tryz.func101 rfl (by kernel_rfl) (J7 a0 H Q) h
def pq(a0:ByteArray)(H:Heap)(Q:Bool×Unit->Heap->Prop):Prop:=
JOIN (fun(j1:(Bool×Unit)×(Unit)->Heap->Prop)=>
dW (au .i64) (pU E 9 (.string a0) H) fun(x3:Int)=>
aK (decide (x3<1)) (
j1 ((true,()),(())) H) (
dW (au .i64) (pU E 9 (.string a0) H) fun(x4:Int)=>
aK (decide (x4>20)) (
j1 ((true,()),(())) H) (
dW (au .u8) (dF E 9 (.string a0) (.int .i64 0)) fun(x5:Int)=>
j1 ((x5==45,()),(())) H))) fun(y2:(Bool×Unit)×(Unit)) H1=>
aK y2.1.1 (
Q (false,()) H1) (
JOIN (fun(j6:(Unit)×(Unit)->Heap->Prop)=>
LOOP (fun(r8:(Int×Unit)×(Unit)->Heap->Prop) (s9:(Int×Unit)×(Unit)) H3=>
dW (au .i64) (pU E 9 (.string a0) H3) fun(x10:Int)=>
aK (decide (s9.1.1<x10)) (
JOIN (fun(j11:(Bool×Unit)×(Unit)->Heap->Prop)=>
dW (au .u8) (dF E 9 (.string a0) (.int .i64 s9.1.1)) fun(x13:Int)=>
aK (x13 !=45) (
dW (au .u8) (dF E 9 (.string a0) (.int .i64 s9.1.1)) fun(x14:Int)=>
aK (decide (x14<97)) (
j11 ((true,()),(())) H3) (
dW (au .u8) (dF E 9 (.string a0) (.int .i64 s9.1.1)) fun(x15:Int)=>
j11 ((decide (x15>122),()),(())) H3)) (
j11 ((false,()),(())) H3)) fun(y12:(Bool×Unit)×(Unit)) H4=>
aK y12.1.1 (
Q (false,()) H4) (
r8 ((IntKind.wrap .i64 (s9.1.1+1),()),(())) H4)) (
j6 ((()),(())) H3)) ((0,()),(())) H1) fun(y7:(Unit)×(Unit)) H2=>
Q (true,()) H2)
def Hr:dL:=(.seq .leaf (.seq (.seq (.reg ⟨[(16,ah)],[],(rg 4 12 [])⟩) .leaf) (.seq (.seq .leaf (.blk (some ⟨[],[],(rg 2 2 (rg 17 22 []))⟩) (.loop ⟨[(3,(au .i64))],[],(rg 2 1 (rg 17 22 []))⟩ (.seq .leaf (.seq (.blk none (.seq (.reg ⟨[(38,ah)],[],(rg 23 15 [])⟩) .leaf)) .leaf))))) .leaf)))
theorem Ht(a0:ByteArray)(H:Heap)(Q:Bool×Unit->Heap->Prop):pq a0 H Q=fB C [] Tryz.f102.ntmps Tryz.f102.results.toList [ah] (aP Tryz.f102) Hr [(.string a0)] H Q:=by kernel_rfl
theorem Hu{a0:ByteArray}{H:Heap}{Q:Bool×Unit->Heap->Prop}(h:pq a0 H Q):CALL P [ah] oN [(.string a0)] H Q:=aB hE Tryz.func102 rfl (by kernel_rfl) (Ht a0 H Q) h
def qO(a0:Int)(a1:Int)(a2:Int)(H:Heap)(Q:Bool×Unit->Heap->Prop):Prop:=
JOIN (fun(j1:(Bool×Unit)×(Unit)->Heap->Prop)=>
aK (decide (a0≥a1)) (
j1 ((decide (a0≤a2),()),(())) H) (
j1 ((false,()),(())) H)) fun(y2:(Bool×Unit)×(Unit)) H1=>
Q (y2.1.1,()) H1
def J9:dL:=(.seq .leaf (.seq (.reg ⟨[(6,ah)],[],(rg 7 8 [])⟩) .leaf))
theorem Ko(a0:Int)(a1:Int)(a2:Int)(H:Heap)(Q:Bool×Unit->Heap->Prop):qO a0 a1 a2 H Q=fB C [] Tryz.f103.ntmps Tryz.f103.results.toList [ah] (aP Tryz.f103) J9 [(.int .i64 a0),(.int .i64 a1),(.int .i64 a2)] H Q:=by kernel_rfl
theorem Kq{a0:Int}{a1:Int}{a2:Int}{H:Heap}{Q:Bool×Unit->Heap->Prop}(h:qO a0 a1 a2 H Q):CALL P [ah] fO [(.int .i64 a0),(.int .i64 a1),(.int .i64 a2)] H Q:=aB hE Tryz.func103 rfl (by kernel_rfl) (Ko a0 a1 a2 H Q) h
def uw(a0:Int)(H:Heap)(Q:Bool×Unit->Heap->Prop):Prop:=
Q (decide (a0<256),()) H
def Nq:dL:=.leaf
theorem Nr(a0:Int)(H:Heap)(Q:Bool×Unit->Heap->Prop):uw a0 H Q=fB C [] Tryz.f104.ntmps Tryz.f104.results.toList [ah] (aP Tryz.f104) Nq [(.int .u16 a0)] H Q:=by kernel_rfl
theorem Ns{a0:Int}{H:Heap}{Q:Bool×Unit->Heap->Prop}(h:uw a0 H Q):CALL P [ah] tC [(.int .u16 a0)] H Q:=aB hE Tryz.func104 rfl (by kernel_rfl) (Nr a0 H Q) h
def uy(a0:aX)(H:Heap)(Q:Int×Unit->Heap->Prop):Prop:=
JOIN (fun(j1:(Bool×Unit)×(Unit)->Heap->Prop)=>
aK (decide (a0.When<1)) (
j1 ((true,()),(())) H) (
aK (decide (a0.When>6)) (
j1 ((true,()),(())) H) (
aK (decide (a0.Verb<1)) (
j1 ((true,()),(())) H) (
aK (decide (a0.Verb>19)) (
j1 ((true,()),(())) H) (
aK (decide (a0.Whom<1)) (
j1 ((true,()),(())) H) (
j1 ((decide (a0.Whom>10),()),(())) H)))))) fun(y2:(Bool×Unit)×(Unit)) H1=>
aK y2.1.1 (
Q (2,()) H1) (
CALL P [ah,ah,ah,ah,ah] wC [(.int .u8 a0.Verb),(.int .u8 a0.Whom)] H1 fun(x3:Bool×Bool×Bool×Bool×Bool×Unit) H2=>
JOIN (fun(j4:(Bool×Unit)×(Unit)->Heap->Prop)=>
CALL P [(au .i64)] pX [(.int .u8 a0.Verb)] H2 fun(x6:Int×Unit) H4=>
vT ((some (.int .u8 a0.When):Option Value)=some (.int .u8 a0.When)) (
CALL P [(au .i64)] tN [(.int .u8 a0.When)] H4 fun(x7:Int×Unit) H5=>
aK (x6.1 !=x7.1) (
j4 ((true,()),(())) H5) (
aK (a0.Verb==11) (
j4 ((a0.Whom==9,()),(())) H5) (
j4 ((false,()),(())) H5)))) fun(y5:(Bool×Unit)×(Unit)) H3=>
aK y5.1.1 (
Q (8,()) H3) (
CALL P [ah] tV [(aT.enc a0)] H3 fun(x8:Bool×Unit) H6=>
aK (!x8.1) (
Q (13,()) H6) (
CALL P [ah] oU [(aT.enc a0)] H6 fun(x9:Bool×Unit) H7=>
aK (!x9.1) (
Q (2,()) H7) (
JOIN (fun(j10:(Bool×Unit)×(Unit)->Heap->Prop)=>
CALL P [ah] jA [(.bool x3.2.1),(.int .i64 (IntKind.wrap .i64 a0.Suit)),(.int .i64 6)] H7 fun(x12:Bool×Unit) H9=>
aK (!x12.1) (
j10 ((true,()),(())) H9) (
CALL P [ah] jA [(.bool x3.2.2.1),(.int .i64 (IntKind.wrap .i64 a0.Trait)),(.int .i64 8)] H9 fun(x13:Bool×Unit) H10=>
aK (!x13.1) (
j10 ((true,()),(())) H10) (
CALL P [ah] jA [(.bool x3.2.2.2.1),(.int .i64 (IntKind.wrap .i64 a0.Mark)),(.int .i64 4)] H10 fun(x14:Bool×Unit) H11=>
j10 ((!x14.1,()),(())) H11))) fun(y11:(Bool×Unit)×(Unit)) H8=>
aK y11.1.1 (
Q (2,()) H8) (
JOIN (fun(j15:(Bool×Unit)×(Unit)->Heap->Prop)=>
aK x3.2.2.2.2.1 (
CALL P [ah] wE [(.string a0.Name)] H8 fun(x17:Bool×Unit) H13=>
aK (!x17.1) (
j15 ((true,()),(())) H13) (
aK (!x3.2.2.2.2.1) (
j15 ((!(a0.Name.toList==(ByteArray.mk #[]).toList),()),(())) H13) (
j15 ((false,()),(())) H13))) (
aK (!x3.2.2.2.2.1) (
j15 ((!(a0.Name.toList==(ByteArray.mk #[]).toList),()),(())) H8) (
j15 ((false,()),(())) H8))) fun(y16:(Bool×Unit)×(Unit)) H12=>
aK y16.1.1 (
Q (4,()) H12) (
Q (0,()) H12))))))
def Nu:dL:=(.seq .leaf (.seq (.seq (.reg ⟨[(35,ah)],[],(rg 8 27 [])⟩) .leaf) (.seq .leaf (.seq (.blk none (.seq (.reg ⟨[(47,ah)],[],(rg 48 17 [])⟩) (.cond none .leaf (.seq .leaf (.cond none .leaf (.seq .leaf (.cond none .leaf (.seq (.reg ⟨[(73,ah)],[],(rg 74 22 [])⟩) (.cond none .leaf (.seq (.reg ⟨[(96,ah)],[],(rg 97 16 [])⟩) .leaf)))))))))) .leaf))))
theorem Nv(a0:aX)(H:Heap)(Q:Int×Unit->Heap->Prop):uy a0 H Q=fB C [1] Tryz.f105.ntmps Tryz.f105.results.toList [(au .i64)] (aP Tryz.f105) Nu [(aT.enc a0)] H Q:=by kernel_rfl
theorem Nw{a0:aX}{H:Heap}{Q:Int×Unit->Heap->Prop}(h:uy a0 H Q):CALL P [(au .i64)] tH [(aT.enc a0)] H Q:=aB hE Tryz.func105 rfl (by kernel_rfl) (Nv a0 H Q) h
def uz(a0:Int)(H:Heap)(Q:Bool×Unit->Heap->Prop):Prop:=
vT ((0:Int)≤8) (
Q ((Int.fdiv a0 (2 ^ (min (8:Int).toNat (IntKind.bits .u16))))==0,()) H)
def Ny:dL:=.leaf
theorem Nz(a0:Int)(H:Heap)(Q:Bool×Unit->Heap->Prop):uz a0 H Q=fB C [] Tryz.f106.ntmps Tryz.f106.results.toList [ah] (aP Tryz.f106) Ny [(.int .u16 a0)] H Q:=by kernel_rfl
theorem NC{a0:Int}{H:Heap}{Q:Bool×Unit->Heap->Prop}(h:uz a0 H Q):CALL P [ah] kD [(.int .u16 a0)] H Q:=aB hE Tryz.func106 rfl (by kernel_rfl) (Nz a0 H Q) h
def pz(a0:Int)(a1:Int)(c0:Nat×Nat)(H:Heap)(Q:Int×Unit->Heap->Prop):Prop:=
LD aJ H c0.1 c0.2 fun(x1:Sl)=>
dw x1.p x1.len a0 11 fun b2 o3=>
LD (au .i64) H b2 (o3+3) fun(x4:Int)=>
LD aJ H c0.1 c0.2 fun(x5:Sl)=>
dw x5.p x5.len a1 11 fun b6 o7=>
LD (au .i64) H b6 (o7+3) fun(x8:Int)=>
Q (IntKind.wrap .i64 (x4-x8),()) H
def Hw:dL:=.leaf
theorem Hz(a0:Int)(a1:Int)(c0:Nat×Nat)(H:Heap)(Q:Int×Unit->Heap->Prop):pz a0 a1 c0 H Q=fB C [] Tryz.f108.ntmps Tryz.f108.results.toList [(au .i64)] (aP Tryz.f108) Hw [(.int .i64 a0),(.int .i64 a1),(.pointer (some ⟨c0.1,c0.2,none⟩))] H Q:=by kernel_rfl
theorem HY{a0:Int}{a1:Int}{c0:Nat×Nat}{H:Heap}{Q:Int×Unit->Heap->Prop}(h:pz a0 a1 c0 H Q):CALL P [(au .i64)] dV [(.int .i64 a0),(.int .i64 a1),(.pointer (some ⟨c0.1,c0.2,none⟩))] H Q:=aB hE Tryz.func108 rfl (by kernel_rfl) (Hz a0 a1 c0 H Q) h
def jW(a0:aF)(a1:Sl)(a2:aN)(a3:Int)(H:Heap)(Q:Bool×Unit->Heap->Prop):Prop:=
aK (a2.What.Whom==4) (
Q (a3==(IntKind.wrap .i64 (a2.Thing-1)),()) H) (
dw a1.p a1.len a3 5 fun b1 o2=>
LD aO H b1 o2 fun(x3:aG)=>
dw a1.p a1.len (IntKind.wrap .i64 (a2.Thing-1)) 5 fun b4 o5=>
LD (au .i64) H b4 (o5+0) fun(x6:Int)=>
vT ((some (.int .i64 a2.Thing):Option Value)=some (.int .i64 a2.Thing)) (
LD (au .i64) H b4 (o5+0) fun(x7:Int)=>
vT ((au .i64).enc x7=(.int .i64 x6)) (
dw a0.cards.p a0.cards.len a3 9 fun b8 o9=>
LD (au .u8) H b8 (o9+2) fun(x10:Int)=>
aK (x10 !=1) (
Q (false,()) H) (
aK (a2.What.Whom==5) (
Q (x3.Holder==x6,()) H) (
aK (a2.What.Whom==6) (
Q (x3.Holder !=x6,()) H) (
aK (a2.What.Whom==7) (
Q (true,()) H) (
aK (a2.What.Whom==8) (
JOIN (fun(j11:(Bool×Unit)×(Unit)->Heap->Prop)=>
aK (x3.Holder==x6) (
j11 ((a3 !=(IntKind.wrap .i64 (a2.Thing-1)),()),(())) H) (
j11 ((false,()),(())) H)) fun(y12:(Bool×Unit)×(Unit)) H1=>
Q (y12.1.1,()) H1) (
aK (a2.What.Whom==9) (
Q (x3.Suit==a2.What.Suit,()) H) (
aK (a2.What.Whom==10) (
CALL P [ah] rZ [(.int .u16 x3.Traits),(.int .u8 a2.What.Trait)] H fun(x13:Bool×Unit) H2=>
Q (x13.1,()) H2) (
Q (false,()) H))))))))))
def Ap:dL:=(.seq .leaf (.seq .leaf (.seq .leaf (.seq .leaf (.seq (.seq .leaf (.blk none (.seq .leaf (.cond none .leaf (.seq .leaf (.cond none .leaf (.seq .leaf (.cond none .leaf (.seq .leaf (.cond none (.seq (.reg ⟨[(8,ah)],[],(rg 57 11 [])⟩) .leaf) .leaf)))))))))) .leaf)))))
theorem Aq(a0:aF)(a1:Sl)(a2:aN)(a3:Int)(H:Heap)(Q:Bool×Unit->Heap->Prop):jW a0 a1 a2 a3 H Q=fB C [4,6,9] Tryz.f110.ntmps Tryz.f110.results.toList [ah] (aP Tryz.f110) Ap [(aC.enc a0),a1.v,(aH.enc a2),(.int .i64 a3)] H Q:=by kernel_rfl
theorem Ar{a0:aF}{a1:Sl}{a2:aN}{a3:Int}{H:Heap}{Q:Bool×Unit->Heap->Prop}(h:jW a0 a1 a2 a3 H Q):CALL P [ah] jP [(aC.enc a0),a1.v,(aH.enc a2),(.int .i64 a3)] H Q:=aB hE Tryz.func110 rfl (by kernel_rfl) (Aq a0 a1 a2 a3 H Q) h
def wM(a0:Int)(a1:Int)(H:Heap)(Q:Int×Unit->Heap->Prop):Prop:=
CALL P [(au .u16)] ou [(.int .u8 a1)] H fun(x1:Int×Unit) H1=>
Q (IntKind.wrap .u16 (((BitVec.ofInt (IntKind.bits .u16) a0 ||| BitVec.ofInt (IntKind.bits .u16) x1.1).toNat:Int)),()) H1
def Qh:dL:=.leaf
theorem Qi(a0:Int)(a1:Int)(H:Heap)(Q:Int×Unit->Heap->Prop):wM a0 a1 H Q=fB C [] Tryz.f111.ntmps Tryz.f111.results.toList [(au .u16)] (aP Tryz.f111) Qh [(.int .u16 a0),(.int .u8 a1)] H Q:=by kernel_rfl
theorem Qj{a0:Int}{a1:Int}{H:Heap}{Q:Int×Unit->Heap->Prop}(h:wM a0 a1 H Q):CALL P [(au .u16)] wz [(.int .u16 a0),(.int .u8 a1)] H Q:=aB hE Tryz.func111 rfl (by kernel_rfl) (Qi a0 a1 H Q) h
def pF(a0:Int)(a1:Int)(H:Heap)(Q:Int×Unit->Heap->Prop):Prop:=
CALL P [(au .u16)] ou [(.int .u8 a1)] H fun(x1:Int×Unit) H1=>
Q (IntKind.wrap .u16 (((BitVec.ofInt (IntKind.bits .u16) a0 &&& ~~~BitVec.ofInt (IntKind.bits .u16) x1.1).toNat:Int)),()) H1
def Ia:dL:=.leaf
theorem Ib(a0:Int)(a1:Int)(H:Heap)(Q:Int×Unit->Heap->Prop):pF a0 a1 H Q=fB C [] Tryz.f112.ntmps Tryz.f112.results.toList [(au .u16)] (aP Tryz.f112) Ia [(.int .u16 a0),(.int .u8 a1)] H Q:=by kernel_rfl
theorem Ic{a0:Int}{a1:Int}{H:Heap}{Q:Int×Unit->Heap->Prop}(h:pF a0 a1 H Q):CALL P [(au .u16)] oO [(.int .u16 a0),(.int .u8 a1)] H Q:=aB hE Tryz.func112 rfl (by kernel_rfl) (Ib a0 a1 H Q) h
def jk(a0:aF)(a1:Sl)(a2:Int)(H:Heap)(Q:Sl×Unit->Heap->Prop):Prop:=
JOIN (fun(j1:(Sl×Unit)×(Unit)->Heap->Prop)=>
LOOP (fun(r3:(Sl×Int×Unit)×(Unit)->Heap->Prop) (s4:(Sl×Int×Unit)×(Unit)) H2=>
aK (decide (s4.1.2.1<(a0.order.len:Int))) (
JOIN (fun(j5:(Sl×Unit)×(Unit)->Heap->Prop)=>
dw a0.order.p a0.order.len s4.1.2.1 1 fun b7 o8=>
LD (au .i64) H2 b7 o8 fun(x9:Int)=>
dw a1.p a1.len x9 5 fun b10 o11=>
LD (au .u16) H2 b10 (o11+2) fun(x12:Int)=>
CALL P [ah] rZ [(.int .u16 x12),(.int .u8 6)] H2 fun(x13:Bool×Unit) H4=>
aK x13.1 (
j5 ((s4.1.1,()),(())) H4) (
dw a0.cards.p a0.cards.len x9 9 fun b14 o15=>
LD aJ H4 b14 (o15+8) fun(x16:Sl)=>
JOIN (fun(j17:(Sl×Unit)×(Unit)->Heap->Prop)=>
LOOP (fun(r19:(Sl×Int×Unit)×(Unit)->Heap->Prop) (s20:(Sl×Int×Unit)×(Unit)) H6=>
aK (decide (s20.1.2.1<(x16.len:Int))) (
dw x16.p x16.len s20.1.2.1 8 fun b21 o22=>
LD aT H6 b21 o22 fun(x23:aX)=>
JOIN (fun(j24:(Bool×Unit)×(Unit)->Heap->Prop)=>
aK (x23.When==5) (
CALL P [(au .i64)] qE [(.int .u8 x23.Verb)] H6 fun(x26:Int×Unit) H8=>
j24 ((x26.1==a2,()),(())) H8) (
j24 ((false,()),(())) H6)) fun(y25:(Bool×Unit)×(Unit)) H7=>
JOIN (fun(j27:(Sl×Unit)×(Unit)->Heap->Prop)=>
aK y25.1.1 (
EW aJ (lenV s20.1.1.v+1) (fC E [37,37] s20.1.1.v 1 [(.int .i64 (IntKind.wrap .i64 (x9+1))),(.int .i64 s20.1.2.1),(.int .u8 x23.When),(.int .u8 x23.Verb),(.int .u8 x23.Whom),(.int .i64 x23.Count),(.int .u8 x23.Suit),(.int .u8 x23.Trait),(.int .u8 x23.Mark),(.string x23.Name)] H7) fun(x29:Sl) H10=>
j27 ((x29,()),(())) H10) (
j27 ((s20.1.1,()),(())) H7)) fun(y28:(Sl×Unit)×(Unit)) H9=>
r19 ((y28.1.1,IntKind.wrap .i64 (s20.1.2.1+1),()),(())) H9) (
j17 ((s20.1.1,()),(())) H6)) ((s4.1.1,0,()),(())) H4) fun(y18:(Sl×Unit)×(Unit)) H5=>
j5 ((y18.1.1,()),(())) H5)) fun(y6:(Sl×Unit)×(Unit)) H3=>
r3 ((y6.1.1,IntKind.wrap .i64 (s4.1.2.1+1),()),(())) H3) (
j1 ((s4.1.1,()),(())) H2)) (((Sl.mk none 0 0),0,()),(())) H) fun(y2:(Sl×Unit)×(Unit)) H1=>
Q (y2.1.1,()) H1
def xJ:dL:=(.seq .leaf (.seq .leaf (.seq (.seq .leaf (.blk (some ⟨[(7,aJ)],[],(rg 9 3 (rg 15 42 []))⟩) (.loop ⟨[(7,aJ),(15,(au .i64))],[],(rg 9 3 (rg 16 41 []))⟩ (.seq .leaf (.seq .leaf (.seq (.blk (some ⟨[(7,aJ)],[],(rg 9 3 (rg 17 39 []))⟩) (.seq .leaf (.seq .leaf (.seq .leaf (.blk (some ⟨[(7,aJ)],[],(rg 10 2 (rg 32 24 []))⟩) (.loop ⟨[(7,aJ),(32,(au .i64))],[],(rg 10 2 (rg 33 23 []))⟩ (.seq .leaf (.seq .leaf (.seq (.blk none (.seq .leaf (.seq (.reg ⟨[(46,ah)],[],(rg 37 9 [])⟩) (.cond (some ⟨[(7,aJ)],[],(rg 47 8 [])⟩) .leaf .leaf)))) .leaf))))))))) .leaf)))))) .leaf)))
theorem xK(a0:aF)(a1:Sl)(a2:Int)(H:Heap)(Q:Sl×Unit->Heap->Prop):jk a0 a1 a2 H Q=fB C [3,11,53] Tryz.f122.ntmps Tryz.f122.results.toList [aJ] (aP Tryz.f122) xJ [(aC.enc a0),a1.v,(.int .i64 a2)] H Q:=by kernel_rfl
theorem xM{a0:aF}{a1:Sl}{a2:Int}{H:Heap}{Q:Sl×Unit->Heap->Prop}(h:jk a0 a1 a2 H Q):CALL P [aJ] je [(aC.enc a0),a1.v,(.int .i64 a2)] H Q:=aB hE Tryz.func122 rfl (by kernel_rfl) (xK a0 a1 a2 H Q) h
def jX(a0:aF)(a1:aN)(a2:aN)(H:Heap)(Q:Bool×Unit->Heap->Prop):Prop:=
dw a0.things.p a0.things.len (IntKind.wrap .i64 (a1.Thing-1)) 11 fun b1 o2=>
LD (au .i64) H b1 (o2+3) fun(x3:Int)=>
dw a0.things.p a0.things.len (IntKind.wrap .i64 (a2.Thing-1)) 11 fun b4 o5=>
LD (au .i64) H b4 (o5+3) fun(x6:Int)=>
JOIN (fun(j7:(Bool×Unit)×(Unit)->Heap->Prop)=>
aK (decide (x3<x6)) (
j7 ((true,()),(())) H) (
aK (x3==x6) (
j7 ((decide (a1.Place<a2.Place),()),(())) H) (
j7 ((false,()),(())) H))) fun(y8:(Bool×Unit)×(Unit)) H1=>
Q (y8.1.1,()) H1
def Au:dL:=(.seq .leaf (.seq .leaf (.seq (.reg ⟨[(6,ah)],[],(rg 25 15 [])⟩) .leaf)))
theorem Aw(a0:aF)(a1:aN)(a2:aN)(H:Heap)(Q:Bool×Unit->Heap->Prop):jX a0 a1 a2 H Q=fB C [3,4,5] Tryz.f123.ntmps Tryz.f123.results.toList [ah] (aP Tryz.f123) Au [(aC.enc a0),(aH.enc a1),(aH.enc a2)] H Q:=by kernel_rfl
theorem Az{a0:aF}{a1:aN}{a2:aN}{H:Heap}{Q:Bool×Unit->Heap->Prop}(h:jX a0 a1 a2 H Q):CALL P [ah] iD [(aC.enc a0),(aH.enc a1),(aH.enc a2)] H Q:=aB hE Tryz.func123 rfl (by kernel_rfl) (Aw a0 a1 a2 H Q) h
def jl(a0:aF)(a1:Sl)(a2:aN)(a3:aN)(H:Heap)(Q:Bool×Unit->Heap->Prop):Prop:=
CALL P [aJ] fH [(aC.enc a0),a1.v,(aH.enc a2)] H fun(x1:Sl×Unit) H1=>
vT ((some (.agg #[(.pointer a0.b),(.slice a0.things.p a0.things.len a0.things.cap),(.slice a0.cards.p a0.cards.len a0.cards.cap),(.slice a0.order.p a0.order.len a0.order.cap)]):Option Value)=some (.agg #[(.pointer a0.b),(.slice a0.things.p a0.things.len a0.things.cap),(.slice a0.cards.p a0.cards.len a0.cards.cap),(.slice a0.order.p a0.order.len a0.order.cap)])) (
vT ((some (.agg #[(.pointer a0.b),(.slice a0.things.p a0.things.len a0.things.cap),(.slice a0.cards.p a0.cards.len a0.cards.cap),(.slice a0.order.p a0.order.len a0.order.cap)]):Option Value)=some (.agg #[(.pointer a0.b),(.slice a0.things.p a0.things.len a0.things.cap),(.slice a0.cards.p a0.cards.len a0.cards.cap),(.slice a0.order.p a0.order.len a0.order.cap)])) (
vT ((some (.agg #[(.int .i64 a3.Thing),(.int .i64 a3.Place),(.int .u8 a3.What.When),(.int .u8 a3.What.Verb),(.int .u8 a3.What.Whom),(.int .i64 a3.What.Count),(.int .u8 a3.What.Suit),(.int .u8 a3.What.Trait),(.int .u8 a3.What.Mark),(.string a3.What.Name)]):Option Value)=some (.agg #[(.int .i64 a3.Thing),(.int .i64 a3.Place),(.int .u8 a3.What.When),(.int .u8 a3.What.Verb),(.int .u8 a3.What.Whom),(.int .i64 a3.What.Count),(.int .u8 a3.What.Suit),(.int .u8 a3.What.Trait),(.int .u8 a3.What.Mark),(.string a3.What.Name)])) (
vT ((some (.agg #[(.int .i64 a2.Thing),(.int .i64 a2.Place),(.int .u8 a2.What.When),(.int .u8 a2.What.Verb),(.int .u8 a2.What.Whom),(.int .i64 a2.What.Count),(.int .u8 a2.What.Suit),(.int .u8 a2.What.Trait),(.int .u8 a2.What.Mark),(.string a2.What.Name)]):Option Value)=some (.agg #[(.int .i64 a2.Thing),(.int .i64 a2.Place),(.int .u8 a2.What.When),(.int .u8 a2.What.Verb),(.int .u8 a2.What.Whom),(.int .i64 a2.What.Count),(.int .u8 a2.What.Suit),(.int .u8 a2.What.Trait),(.int .u8 a2.What.Mark),(.string a2.What.Name)])) (
CALL P [aJ] iC [(aC.enc a0),a1.v,(aH.enc a3)] H1 fun(x2:Sl×Unit) H2=>
vT ((some (.agg #[(.pointer a0.b),(.slice a0.things.p a0.things.len a0.things.cap),(.slice a0.cards.p a0.cards.len a0.cards.cap),(.slice a0.order.p a0.order.len a0.order.cap)]):Option Value)=some (.agg #[(.pointer a0.b),(.slice a0.things.p a0.things.len a0.things.cap),(.slice a0.cards.p a0.cards.len a0.cards.cap),(.slice a0.order.p a0.order.len a0.order.cap)])) (
vT ((some (.agg #[(.int .i64 a2.Thing),(.int .i64 a2.Place),(.int .u8 a2.What.When),(.int .u8 a2.What.Verb),(.int .u8 a2.What.Whom),(.int .i64 a2.What.Count),(.int .u8 a2.What.Suit),(.int .u8 a2.What.Trait),(.int .u8 a2.What.Mark),(.string a2.What.Name)]):Option Value)=some (.agg #[(.int .i64 a2.Thing),(.int .i64 a2.Place),(.int .u8 a2.What.When),(.int .u8 a2.What.Verb),(.int .u8 a2.What.Whom),(.int .i64 a2.What.Count),(.int .u8 a2.What.Suit),(.int .u8 a2.What.Trait),(.int .u8 a2.What.Mark),(.string a2.What.Name)])) (
CALL P [aJ] fH [(aC.enc a0),x2.1.v,(aH.enc a2)] H2 fun(x3:Sl×Unit) H3=>
CALL P [ah] iO [x1.1.v,x3.1.v] H3 fun(x4:Bool×Unit) H4=>
Q (!x4.1,()) H4))))))
def xO:dL:=.leaf
theorem xP(a0:aF)(a1:Sl)(a2:aN)(a3:aN)(H:Heap)(Q:Bool×Unit->Heap->Prop):jl a0 a1 a2 a3 H Q=fB C [4,6,7] Tryz.f124.ntmps Tryz.f124.results.toList [ah] (aP Tryz.f124) xO [(aC.enc a0),a1.v,(aH.enc a2),(aH.enc a3)] H Q:=by kernel_rfl
theorem xQ{a0:aF}{a1:Sl}{a2:aN}{a3:aN}{H:Heap}{Q:Bool×Unit->Heap->Prop}(h:jl a0 a1 a2 a3 H Q):CALL P [ah] jf [(aC.enc a0),a1.v,(aH.enc a2),(aH.enc a3)] H Q:=aB hE Tryz.func124 rfl (by kernel_rfl) (xP a0 a1 a2 a3 H Q) h
def wO(a0:ByteArray)(H:Heap)(Q:Bool×Unit->Heap->Prop):Prop:=
JOIN (fun(j1:(Bool×Unit)×(Unit)->Heap->Prop)=>
dW (au .i64) (pU E 9 (.string a0) H) fun(x3:Int)=>
aK (decide (x3>0)) (
dW (au .i64) (pU E 9 (.string a0) H) fun(x4:Int)=>
aK (decide (x4≤20)) (
dW (au .u8) (dF E 9 (.string a0) (.int .i64 0)) fun(x5:Int)=>
aK (x5 !=45) (
CALL P [dG] jB [(.string a0),(.string (ByteArray.mk #[97,98,99,100,101,102,103,104,105,106,107,108,109,110,111,112,113,114,115,116,117,118,119,120,121,122,45]))] H fun(x6:ByteArray×Unit) H2=>
j1 ((x6.1.toList==(ByteArray.mk #[]).toList,()),(())) H2) (
j1 ((false,()),(())) H)) (
j1 ((false,()),(())) H)) (
j1 ((false,()),(())) H)) fun(y2:(Bool×Unit)×(Unit)) H1=>
Q (y2.1.1,()) H1
def Qk:dL:=(.seq .leaf (.seq (.reg ⟨[(2,ah)],[],(rg 3 18 [])⟩) .leaf))
theorem Ql(a0:ByteArray)(H:Heap)(Q:Bool×Unit->Heap->Prop):wO a0 H Q=fB C [] Tryz.f125.ntmps Tryz.f125.results.toList [ah] (aP Tryz.f125) Qk [(.string a0)] H Q:=by kernel_rfl
theorem Qm{a0:ByteArray}{H:Heap}{Q:Bool×Unit->Heap->Prop}(h:wO a0 H Q):CALL P [ah] wB [(.string a0)] H Q:=aB hE Tryz.func125 rfl (by kernel_rfl) (Ql a0 H Q) h
def zh(a0:Int)(H:Heap)(Q:ByteArray×Unit->Heap->Prop):Prop:=
aK (a0==1) (
Q ((ByteArray.mk #[97,105,114]),()) H) (
aK (a0==2) (
Q ((ByteArray.mk #[101,97,114,116,104]),()) H) (
aK (a0==3) (
Q ((ByteArray.mk #[102,105,114,101]),()) H) (
aK (a0==4) (
Q ((ByteArray.mk #[119,97,116,101,114]),()) H) (
aK (a0==5) (
Q ((ByteArray.mk #[118,111,105,100]),()) H) (
aK (a0==6) (
Q ((ByteArray.mk #[103,111,108,100]),()) H) (
Q ((ByteArray.mk #[]),()) H))))))
def TT:dL:=.leaf
theorem TU(a0:Int)(H:Heap)(Q:ByteArray×Unit->Heap->Prop):zh a0 H Q=fB C [] Tryz.f126.ntmps Tryz.f126.results.toList [dG] (aP Tryz.f126) TT [(.int .u8 a0)] H Q:=by kernel_rfl
theorem TV{a0:Int}{H:Heap}{Q:ByteArray×Unit->Heap->Prop}(h:zh a0 H Q):CALL P [dG] yJ [(.int .u8 a0)] H Q:=aB hE Tryz.func126 rfl (by kernel_rfl) (TU a0 H Q) h
def zi(a0:Int)(H:Heap)(Q:ByteArray×Unit->Heap->Prop):Prop:=
aK (a0==1) (
Q ((ByteArray.mk #[117,110,105,116]),()) H) (
aK (a0==2) (
Q ((ByteArray.mk #[115,112,101,108,108]),()) H) (
aK (a0==3) (
Q ((ByteArray.mk #[114,101,108,105,99]),()) H) (
Q ((ByteArray.mk #[]),()) H)))
def TW:dL:=.leaf
theorem TY(a0:Int)(H:Heap)(Q:ByteArray×Unit->Heap->Prop):zi a0 H Q=fB C [] Tryz.f127.ntmps Tryz.f127.results.toList [dG] (aP Tryz.f127) TW [(.int .u8 a0)] H Q:=by kernel_rfl
theorem Ua{a0:Int}{H:Heap}{Q:ByteArray×Unit->Heap->Prop}(h:zi a0 H Q):CALL P [dG] yK [(.int .u8 a0)] H Q:=aB hE Tryz.func127 rfl (by kernel_rfl) (TY a0 H Q) h
def uD(a0:Int)(a1:Int)(H:Heap)(Q:Bool×Unit->Heap->Prop):Prop:=
JOIN (fun(j1:(Bool×Unit)×(Unit)->Heap->Prop)=>
aK (decide (a0≥0)) (
j1 ((decide (a0≤a1),()),(())) H) (
j1 ((false,()),(())) H)) fun(y2:(Bool×Unit)×(Unit)) H1=>
Q (y2.1.1,()) H1
def ND:dL:=(.seq .leaf (.seq (.reg ⟨[(4,ah)],[],(rg 5 7 [])⟩) .leaf))
theorem NG(a0:Int)(a1:Int)(H:Heap)(Q:Bool×Unit->Heap->Prop):uD a0 a1 H Q=fB C [] Tryz.f128.ntmps Tryz.f128.results.toList [ah] (aP Tryz.f128) ND [(.int .i64 a0),(.int .i64 a1)] H Q:=by kernel_rfl
theorem NH{a0:Int}{a1:Int}{H:Heap}{Q:Bool×Unit->Heap->Prop}(h:uD a0 a1 H Q):CALL P [ah] kE [(.int .i64 a0),(.int .i64 a1)] H Q:=aB hE Tryz.func128 rfl (by kernel_rfl) (NG a0 a1 H Q) h
def uF(a0:Int)(a1:Int)(H:Heap)(Q:Bool×Bool×Bool×Bool×Bool×Unit->Heap->Prop):Prop:=
JOIN (fun(j1:(Bool×Unit)×(Unit)->Heap->Prop)=>
aK (a0==1) (
j1 ((a0==1,()),(())) H) (
JOIN (fun(j3:(Bool×Unit)×(Unit)->Heap->Prop)=>
aK (a0==2) (
j3 ((a0==2,()),(())) H) (
JOIN (fun(j5:(Bool×Unit)×(Unit)->Heap->Prop)=>
aK (a0==3) (
j5 ((a0==3,()),(())) H) (
JOIN (fun(j7:(Bool×Unit)×(Unit)->Heap->Prop)=>
aK (a0==4) (
j7 ((a0==4,()),(())) H) (
JOIN (fun(j9:(Bool×Unit)×(Unit)->Heap->Prop)=>
aK (a0==5) (
j9 ((a0==5,()),(())) H) (
JOIN (fun(j11:(Bool×Unit)×(Unit)->Heap->Prop)=>
aK (a0==14) (
j11 ((a0==14,()),(())) H) (
JOIN (fun(j13:(Bool×Unit)×(Unit)->Heap->Prop)=>
aK (a0==15) (
j13 ((a0==15,()),(())) H) (
JOIN (fun(j15:(Bool×Unit)×(Unit)->Heap->Prop)=>
aK (a0==16) (
j15 ((a0==16,()),(())) H) (
j15 ((a0==19,()),(())) H)) fun(y16:(Bool×Unit)×(Unit)) H8=>
j13 ((y16.1.1,()),(())) H8)) fun(y14:(Bool×Unit)×(Unit)) H7=>
j11 ((y14.1.1,()),(())) H7)) fun(y12:(Bool×Unit)×(Unit)) H6=>
j9 ((y12.1.1,()),(())) H6)) fun(y10:(Bool×Unit)×(Unit)) H5=>
j7 ((y10.1.1,()),(())) H5)) fun(y8:(Bool×Unit)×(Unit)) H4=>
j5 ((y8.1.1,()),(())) H4)) fun(y6:(Bool×Unit)×(Unit)) H3=>
j3 ((y6.1.1,()),(())) H3)) fun(y4:(Bool×Unit)×(Unit)) H2=>
j1 ((y4.1.1,()),(())) H2)) fun(y2:(Bool×Unit)×(Unit)) H1=>
JOIN (fun(j17:(Bool×Bool×Bool×Bool×Bool×Unit)×(Unit)->Heap->Prop)=>
aK y2.1.1 (
j17 ((true,false,false,false,false,()),(())) H1) (
JOIN (fun(j19:(Bool×Bool×Bool×Bool×Bool×Unit)×(Unit)->Heap->Prop)=>
aK (a0==9) (
j19 ((true,false,false,true,false,()),(())) H1) (
JOIN (fun(j21:(Bool×Bool×Bool×Bool×Unit)×(Unit)->Heap->Prop)=>
aK (a0==7) (
j21 ((true,false,false,true,()),(())) H1) (
JOIN (fun(j23:(Bool×Bool×Unit)×(Unit)->Heap->Prop)=>
aK (a0==11) (
j23 ((true,false,()),(())) H1) (
JOIN (fun(j25:(Bool×Unit)×(Unit)->Heap->Prop)=>
aK (a0==12) (
j25 ((a0==12,()),(())) H1) (
j25 ((a0==13,()),(())) H1)) fun(y26:(Bool×Unit)×(Unit)) H13=>
JOIN (fun(j27:(Bool×Unit)×(Unit)->Heap->Prop)=>
aK y26.1.1 (
j27 ((true,()),(())) H13) (
j27 ((false,()),(())) H13)) fun(y28:(Bool×Unit)×(Unit)) H14=>
j23 ((false,y28.1.1,()),(())) H14)) fun(y24:(Bool×Bool×Unit)×(Unit)) H12=>
j21 ((false,y24.1.1,y24.1.2.1,false,()),(())) H12)) fun(y22:(Bool×Bool×Bool×Bool×Unit)×(Unit)) H11=>
j19 ((y22.1.1,y22.1.2.1,y22.1.2.2.1,false,y22.1.2.2.2.1,()),(())) H11)) fun(y20:(Bool×Bool×Bool×Bool×Bool×Unit)×(Unit)) H10=>
j17 ((y20.1.1,y20.1.2.1,y20.1.2.2.1,y20.1.2.2.2.1,y20.1.2.2.2.2.1,()),(())) H10)) fun(y18:(Bool×Bool×Bool×Bool×Bool×Unit)×(Unit)) H9=>
JOIN (fun(j29:(Bool×Bool×Bool×Bool×Bool×Unit)×(Unit)->Heap->Prop)=>
aK y18.1.2.1 (
aK y18.1.2.2.1 (
j29 ((y18.1.1,true,true,y18.1.2.2.2.1,y18.1.2.2.2.2.1,()),(())) H9) (
j29 ((y18.1.1,true,a1==10,y18.1.2.2.2.1,y18.1.2.2.2.2.1,()),(())) H9)) (
aK y18.1.2.2.1 (
j29 ((y18.1.1,a1==9,true,y18.1.2.2.2.1,y18.1.2.2.2.2.1,()),(())) H9) (
j29 ((y18.1.1,a1==9,a1==10,y18.1.2.2.2.1,y18.1.2.2.2.2.1,()),(())) H9))) fun(y30:(Bool×Bool×Bool×Bool×Bool×Unit)×(Unit)) H15=>
Q (y30.1.1,y30.1.2.1,y30.1.2.2.1,y30.1.2.2.2.1,y30.1.2.2.2.2.1,()) H15
def NI:dL:=(.seq .leaf (.seq (.seq .leaf (.blk none (.seq (.seq .leaf (.cond (some ⟨[(10,ah)],[],(rg 12 8 [])⟩) .leaf (.seq .leaf (.cond (some ⟨[(10,ah)],[],(rg 13 7 [])⟩) .leaf (.seq .leaf (.cond (some ⟨[(10,ah)],[],(rg 14 6 [])⟩) .leaf (.seq .leaf (.cond (some ⟨[(10,ah)],[],(rg 15 5 [])⟩) .leaf (.seq .leaf (.cond (some ⟨[(10,ah)],[],[16,17,18,19]⟩) .leaf (.seq .leaf (.cond (some ⟨[(10,ah)],[],[17,18,19]⟩) .leaf (.seq .leaf (.cond (some ⟨[(10,ah)],[],[18,19]⟩) .leaf (.seq .leaf (.cond (some ⟨[(10,ah)],[],[19]⟩) .leaf .leaf)))))))))))))))) (.cond (some ⟨[(4,ah),(5,ah),(6,ah),(7,ah),(8,ah)],[],(rg 20 9 [])⟩) .leaf (.seq .leaf (.cond (some ⟨[(4,ah),(5,ah),(6,ah),(7,ah),(8,ah)],[],(rg 22 7 [])⟩) .leaf (.seq .leaf (.cond (some ⟨[(4,ah),(5,ah),(6,ah),(8,ah)],[],(rg 24 5 [])⟩) .leaf (.seq .leaf (.cond (some ⟨[(5,ah),(6,ah)],[],[26,27,28]⟩) .leaf (.seq (.seq .leaf (.cond (some ⟨[(26,ah)],[],[28]⟩) .leaf .leaf)) (.cond (some ⟨[(6,ah)],[],[]⟩) .leaf .leaf)))))))))))) (.seq (.reg ⟨[(4,ah),(5,ah),(6,ah),(7,ah),(8,ah)],[],(rg 29 13 [])⟩) .leaf)))
theorem NJ(a0:Int)(a1:Int)(H:Heap)(Q:Bool×Bool×Bool×Bool×Bool×Unit->Heap->Prop):uF a0 a1 H Q=fB C [] Tryz.f129.ntmps Tryz.f129.results.toList [ah,ah,ah,ah,ah] (aP Tryz.f129) NI [(.int .u8 a0),(.int .u8 a1)] H Q:=by kernel_rfl
theorem NK{a0:Int}{a1:Int}{H:Heap}{Q:Bool×Bool×Bool×Bool×Bool×Unit->Heap->Prop}(h:uF a0 a1 H Q):CALL P [ah,ah,ah,ah,ah] tJ [(.int .u8 a0),(.int .u8 a1)] H Q:=aB hE Tryz.func129 rfl (by kernel_rfl) (NJ a0 a1 H Q) h
def pG(a0:Int)(H:Heap)(Q:Int×Int×Bool×Unit->Heap->Prop):Prop:=
JOIN (fun(j1:(Bool×Unit)×(Unit)->Heap->Prop)=>
aK (a0==9) (
j1 ((a0==9,()),(())) H) (
j1 ((a0==15,()),(())) H)) fun(y2:(Bool×Unit)×(Unit)) H1=>
aK y2.1.1 (
Q ((-99),99,false,()) H1) (
aK (a0==5) (
Q ((-9),9,false,()) H1) (
aK (a0==14) (
Q (0,99,true,()) H1) (
Q (1,99,false,()) H1)))
def Ie:dL:=(.seq .leaf (.seq (.seq .leaf (.blk none (.seq (.seq .leaf (.cond (some ⟨[(6,ah)],[],[8]⟩) .leaf .leaf)) .leaf))) .leaf))
theorem Ig(a0:Int)(H:Heap)(Q:Int×Int×Bool×Unit->Heap->Prop):pG a0 H Q=fB C [] Tryz.f130.ntmps Tryz.f130.results.toList [(au .i64),(au .i64),ah] (aP Tryz.f130) Ie [(.int .u8 a0)] H Q:=by kernel_rfl
theorem Ih{a0:Int}{H:Heap}{Q:Int×Int×Bool×Unit->Heap->Prop}(h:pG a0 H Q):CALL P [(au .i64),(au .i64),ah] oP [(.int .u8 a0)] H Q:=aB hE Tryz.func130 rfl (by kernel_rfl) (Ig a0 H Q) h
def pI(a0:Int)(a1:Int)(H:Heap)(Q:Bool×Unit->Heap->Prop):Prop:=
aK (a0==5) (
CALL P [ah] jm [(.int .u8 a1)] H fun(x1:Bool×Unit) H1=>
Q (x1.1,()) H1) (
aK (a0==6) (
CALL P [ah] jo [(.int .u8 a1)] H fun(x2:Bool×Unit) H2=>
Q (x2.1,()) H2) (
CALL P [ah] qF [(.int .u8 a1)] H fun(x3:Bool×Unit) H3=>
Q (x3.1,()) H3))
def Ii:dL:=.leaf
theorem Ij(a0:Int)(a1:Int)(H:Heap)(Q:Bool×Unit->Heap->Prop):pI a0 a1 H Q=fB C [] Tryz.f131.ntmps Tryz.f131.results.toList [ah] (aP Tryz.f131) Ii [(.int .u8 a0),(.int .u8 a1)] H Q:=by kernel_rfl
theorem Ik{a0:Int}{a1:Int}{H:Heap}{Q:Bool×Unit->Heap->Prop}(h:pI a0 a1 H Q):CALL P [ah] oQ [(.int .u8 a0),(.int .u8 a1)] H Q:=aB hE Tryz.func131 rfl (by kernel_rfl) (Ij a0 a1 H Q) h
def qP(a0:aX)(H:Heap)(Q:Bool×Unit->Heap->Prop):Prop:=
JOIN (fun(j1:(Bool×Unit)×(Unit)->Heap->Prop)=>
aK (a0.Whom==1) (
j1 ((true,()),(())) H) (
j1 ((a0.Whom==2,()),(())) H)) fun(y2:(Bool×Unit)×(Unit)) H1=>
CALL P [ah] jm [(.int .u8 a0.Verb)] H1 fun(x3:Bool×Unit) H2=>
aK x3.1 (
JOIN (fun(j4:(Bool×Unit)×(Unit)->Heap->Prop)=>
aK (!y2.1.1) (
j4 ((a0.Whom !=3,()),(())) H2) (
j4 ((false,()),(())) H2)) fun(y5:(Bool×Unit)×(Unit)) H3=>
Q (y5.1.1,()) H3) (
CALL P [ah] jo [(.int .u8 a0.Verb)] H2 fun(x6:Bool×Unit) H4=>
aK x6.1 (
Q (a0.Whom !=3,()) H4) (
aK (a0.Whom==3) (
Q (a0.When==1,()) H4) (
JOIN (fun(j7:(Bool×Unit)×(Unit)->Heap->Prop)=>
aK (!y2.1.1) (
j7 ((true,()),(())) H4) (
aK (a0.Verb !=6) (
aK (a0.Verb !=8) (
j7 ((a0.Verb !=9,()),(())) H4) (
j7 ((false,()),(())) H4)) (
j7 ((false,()),(())) H4))) fun(y8:(Bool×Unit)×(Unit)) H5=>
Q (y8.1.1,()) H5)))
def Kr:dL:=(.seq .leaf (.seq (.reg ⟨[(3,ah)],[],(rg 4 8 [])⟩) (.seq (.blk none (.seq .leaf (.cond none (.seq (.reg ⟨[(2,ah)],[],(rg 16 7 [])⟩) .leaf) .leaf))) (.seq (.reg ⟨[(2,ah)],[],(rg 37 17 [])⟩) .leaf))))
theorem Kt(a0:aX)(H:Heap)(Q:Bool×Unit->Heap->Prop):qP a0 H Q=fB C [1] Tryz.f132.ntmps Tryz.f132.results.toList [ah] (aP Tryz.f132) Kr [(aT.enc a0)] H Q:=by kernel_rfl
theorem Ku{a0:aX}{H:Heap}{Q:Bool×Unit->Heap->Prop}(h:qP a0 H Q):CALL P [ah] qC [(aT.enc a0)] H Q:=aB hE Tryz.func132 rfl (by kernel_rfl) (Kt a0 H Q) h
def jY(a0:Int)(a1:Bool)(a2:Int)(a3:Int)(H:Heap)(Q:Bool×Unit->Heap->Prop):Prop:=
aK (!a1) (
Q (a0==0,()) H) (
JOIN (fun(j1:(Bool×Unit)×(Unit)->Heap->Prop)=>
aK (decide (a0≥a2)) (
j1 ((decide (a0≤a3),()),(())) H) (
j1 ((false,()),(())) H)) fun(y2:(Bool×Unit)×(Unit)) H1=>
Q (y2.1.1,()) H1)
def AA:dL:=(.seq .leaf (.seq .leaf (.seq (.reg ⟨[(8,ah)],[],(rg 13 8 [])⟩) .leaf)))
theorem AB(a0:Int)(a1:Bool)(a2:Int)(a3:Int)(H:Heap)(Q:Bool×Unit->Heap->Prop):jY a0 a1 a2 a3 H Q=fB C [] Tryz.f133.ntmps Tryz.f133.results.toList [ah] (aP Tryz.f133) AA [(.int .i64 a0),(.bool a1),(.int .i64 a2),(.int .i64 a3)] H Q:=by kernel_rfl
theorem AL{a0:Int}{a1:Bool}{a2:Int}{a3:Int}{H:Heap}{Q:Bool×Unit->Heap->Prop}(h:jY a0 a1 a2 a3 H Q):CALL P [ah] jQ [(.int .i64 a0),(.bool a1),(.int .i64 a2),(.int .i64 a3)] H Q:=aB hE Tryz.func133 rfl (by kernel_rfl) (AB a0 a1 a2 a3 H Q) h
def gZ(a0:Int)(a1:Bool)(a2:Int)(a3:Int)(H:Heap)(Q:Bool×Unit->Heap->Prop):Prop:=
aK (!a1) (
Q (a0==0,()) H) (
JOIN (fun(j1:(Bool×Unit)×(Unit)->Heap->Prop)=>
aK (decide (a0≥a2)) (
j1 ((decide (a0≤a3),()),(())) H) (
j1 ((false,()),(())) H)) fun(y2:(Bool×Unit)×(Unit)) H1=>
Q (y2.1.1,()) H1)
def uG:dL:=(.seq .leaf (.seq .leaf (.seq (.reg ⟨[(8,ah)],[],(rg 13 8 [])⟩) .leaf)))
theorem uH(a0:Int)(a1:Bool)(a2:Int)(a3:Int)(H:Heap)(Q:Bool×Unit->Heap->Prop):gZ a0 a1 a2 a3 H Q=fB C [] Tryz.f134.ntmps Tryz.f134.results.toList [ah] (aP Tryz.f134) uG [(.int .u8 a0),(.bool a1),(.int .u8 a2),(.int .u8 a3)] H Q:=by kernel_rfl
theorem uI{a0:Int}{a1:Bool}{a2:Int}{a3:Int}{H:Heap}{Q:Bool×Unit->Heap->Prop}(h:gZ a0 a1 a2 a3 H Q):CALL P [ah] gX [(.int .u8 a0),(.bool a1),(.int .u8 a2),(.int .u8 a3)] H Q:=aB hE Tryz.func134 rfl (by kernel_rfl) (uH a0 a1 a2 a3 H Q) h
def gB(a0:Int)(a1:Bool)(a2:Int)(a3:Int)(H:Heap)(Q:Bool×Unit->Heap->Prop):Prop:=
aK (!a1) (
Q (a0==0,()) H) (
JOIN (fun(j1:(Bool×Unit)×(Unit)->Heap->Prop)=>
aK (decide (a0≥a2)) (
j1 ((decide (a0≤a3),()),(())) H) (
j1 ((false,()),(())) H)) fun(y2:(Bool×Unit)×(Unit)) H1=>
Q (y2.1.1,()) H1)
def rE:dL:=(.seq .leaf (.seq .leaf (.seq (.reg ⟨[(8,ah)],[],(rg 13 8 [])⟩) .leaf)))
theorem rF(a0:Int)(a1:Bool)(a2:Int)(a3:Int)(H:Heap)(Q:Bool×Unit->Heap->Prop):gB a0 a1 a2 a3 H Q=fB C [] Tryz.f135.ntmps Tryz.f135.results.toList [ah] (aP Tryz.f135) rE [(.int .u8 a0),(.bool a1),(.int .u8 a2),(.int .u8 a3)] H Q:=by kernel_rfl
theorem rG{a0:Int}{a1:Bool}{a2:Int}{a3:Int}{H:Heap}{Q:Bool×Unit->Heap->Prop}(h:gB a0 a1 a2 a3 H Q):CALL P [ah] gu [(.int .u8 a0),(.bool a1),(.int .u8 a2),(.int .u8 a3)] H Q:=aB hE Tryz.func135 rfl (by kernel_rfl) (rF a0 a1 a2 a3 H Q) h
def iq(a0:Int)(a1:Bool)(a2:Int)(a3:Int)(H:Heap)(Q:Bool×Unit->Heap->Prop):Prop:=
aK (!a1) (
Q (a0==0,()) H) (
JOIN (fun(j1:(Bool×Unit)×(Unit)->Heap->Prop)=>
aK (decide (a0≥a2)) (
j1 ((decide (a0≤a3),()),(())) H) (
j1 ((false,()),(())) H)) fun(y2:(Bool×Unit)×(Unit)) H1=>
Q (y2.1.1,()) H1)
def uJ:dL:=(.seq .leaf (.seq .leaf (.seq (.reg ⟨[(8,ah)],[],(rg 13 8 [])⟩) .leaf)))
theorem uK(a0:Int)(a1:Bool)(a2:Int)(a3:Int)(H:Heap)(Q:Bool×Unit->Heap->Prop):iq a0 a1 a2 a3 H Q=fB C [] Tryz.f136.ntmps Tryz.f136.results.toList [ah] (aP Tryz.f136) uJ [(.int .u8 a0),(.bool a1),(.int .u8 a2),(.int .u8 a3)] H Q:=by kernel_rfl
theorem uM{a0:Int}{a1:Bool}{a2:Int}{a3:Int}{H:Heap}{Q:Bool×Unit->Heap->Prop}(h:iq a0 a1 a2 a3 H Q):CALL P [ah] gY [(.int .u8 a0),(.bool a1),(.int .u8 a2),(.int .u8 a3)] H Q:=aB hE Tryz.func136 rfl (by kernel_rfl) (uK a0 a1 a2 a3 H Q) h
def uN(a0:ByteArray)(H:Heap)(Q:Bool×Unit->Heap->Prop):Prop:=
JOIN (fun(j1:(Bool×Unit)×(Unit)->Heap->Prop)=>
dW (au .i64) (pU E 9 (.string a0) H) fun(x3:Int)=>
aK (decide (x3≥1)) (
dW (au .i64) (pU E 9 (.string a0) H) fun(x4:Int)=>
aK (decide (x4≤20)) (
dW (au .u8) (dF E 9 (.string a0) (.int .i64 0)) fun(x5:Int)=>
aK (x5 !=45) (
CALL P [dG] jB [(.string a0),(.string (ByteArray.mk #[97,98,99,100,101,102,103,104,105,106,107,108,109,110,111,112,113,114,115,116,117,118,119,120,121,122,45]))] H fun(x6:ByteArray×Unit) H2=>
j1 ((x6.1.toList==(ByteArray.mk #[]).toList,()),(())) H2) (
j1 ((false,()),(())) H)) (
j1 ((false,()),(())) H)) (
j1 ((false,()),(())) H)) fun(y2:(Bool×Unit)×(Unit)) H1=>
Q (y2.1.1,()) H1
def NM:dL:=(.seq .leaf (.seq (.reg ⟨[(2,ah)],[],(rg 3 18 [])⟩) .leaf))
theorem NP(a0:ByteArray)(H:Heap)(Q:Bool×Unit->Heap->Prop):uN a0 H Q=fB C [] Tryz.f137.ntmps Tryz.f137.results.toList [ah] (aP Tryz.f137) NM [(.string a0)] H Q:=by kernel_rfl
theorem NQ{a0:ByteArray}{H:Heap}{Q:Bool×Unit->Heap->Prop}(h:uN a0 H Q):CALL P [ah] tK [(.string a0)] H Q:=aB hE Tryz.func137 rfl (by kernel_rfl) (NP a0 H Q) h
def wP(a0:Int)(a1:Int)(H:Heap)(Q:Bool×Bool×Bool×Bool×Bool×Unit->Heap->Prop):Prop:=
CALL P [(au .i64),(au .i64)] lS [(.int .u8 a0)] H fun(x1:Int×Int×Unit) H1=>
JOIN (fun(j2:(Bool×Bool×Bool×Bool×Bool×Unit)×(Unit)->Heap->Prop)=>
aK (a0==11) (
aK (a0==12) (
j2 ((decide (x1.2.1>0),true,true,a0==9,a0==7,()),(())) H1) (
aK (a0==13) (
j2 ((decide (x1.2.1>0),true,true,a0==9,a0==7,()),(())) H1) (
j2 ((decide (x1.2.1>0),true,a1==10,a0==9,a0==7,()),(())) H1))) (
aK (a0==12) (
j2 ((decide (x1.2.1>0),a1==9,true,a0==9,a0==7,()),(())) H1) (
aK (a0==13) (
j2 ((decide (x1.2.1>0),a1==9,true,a0==9,a0==7,()),(())) H1) (
j2 ((decide (x1.2.1>0),a1==9,a1==10,a0==9,a0==7,()),(())) H1)))) fun(y3:(Bool×Bool×Bool×Bool×Bool×Unit)×(Unit)) H2=>
Q (y3.1.1,y3.1.2.1,y3.1.2.2.1,y3.1.2.2.2.1,y3.1.2.2.2.2.1,()) H2
def Qn:dL:=(.seq .leaf (.seq .leaf (.seq (.reg ⟨[(4,ah),(5,ah),(6,ah),(7,ah),(8,ah)],[],(rg 16 22 [])⟩) .leaf)))
theorem Qo(a0:Int)(a1:Int)(H:Heap)(Q:Bool×Bool×Bool×Bool×Bool×Unit->Heap->Prop):wP a0 a1 H Q=fB C [] Tryz.f138.ntmps Tryz.f138.results.toList [ah,ah,ah,ah,ah] (aP Tryz.f138) Qn [(.int .u8 a0),(.int .u8 a1)] H Q:=by kernel_rfl
theorem Qp{a0:Int}{a1:Int}{H:Heap}{Q:Bool×Bool×Bool×Bool×Bool×Unit->Heap->Prop}(h:wP a0 a1 H Q):CALL P [ah,ah,ah,ah,ah] wC [(.int .u8 a0),(.int .u8 a1)] H Q:=aB hE Tryz.func138 rfl (by kernel_rfl) (Qo a0 a1 H Q) h
def wQ(a0:Int)(H:Heap)(Q:Int×Unit->Heap->Prop):Prop:=
JOIN (fun(j1:(Bool×Unit)×(Unit)->Heap->Prop)=>
aK (decide (a0≥1)) (
j1 ((decide (a0≤9),()),(())) H) (
j1 ((false,()),(())) H)) fun(y2:(Bool×Unit)×(Unit)) H1=>
aK y2.1.1 (
Q (1,()) H1) (
JOIN (fun(j3:(Bool×Unit)×(Unit)->Heap->Prop)=>
aK (decide (a0≥10)) (
j3 ((decide (a0≤15),()),(())) H1) (
j3 ((false,()),(())) H1)) fun(y4:(Bool×Unit)×(Unit)) H2=>
aK y4.1.1 (
Q (2,()) H2) (
JOIN (fun(j5:(Bool×Unit)×(Unit)->Heap->Prop)=>
aK (decide (a0≥16)) (
j5 ((decide (a0≤19),()),(())) H2) (
j5 ((false,()),(())) H2)) fun(y6:(Bool×Unit)×(Unit)) H3=>
aK y6.1.1 (
Q (3,()) H3) (
Q (0,()) H3)))
def Qq:dL:=(.seq .leaf (.seq (.blk none (.seq (.reg ⟨[(3,ah)],[],(rg 4 6 [])⟩) (.cond none .leaf (.seq (.reg ⟨[(10,ah)],[],(rg 11 6 [])⟩) (.cond none .leaf (.seq (.reg ⟨[(17,ah)],[],(rg 18 6 [])⟩) .leaf)))))) .leaf))
theorem Qr(a0:Int)(H:Heap)(Q:Int×Unit->Heap->Prop):wQ a0 H Q=fB C [] Tryz.f139.ntmps Tryz.f139.results.toList [(au .i64)] (aP Tryz.f139) Qq [(.int .u8 a0)] H Q:=by kernel_rfl
theorem Qs{a0:Int}{H:Heap}{Q:Int×Unit->Heap->Prop}(h:wQ a0 H Q):CALL P [(au .i64)] pX [(.int .u8 a0)] H Q:=aB hE Tryz.func139 rfl (by kernel_rfl) (Qr a0 H Q) h
def uO(a0:Int)(H:Heap)(Q:Int×Unit->Heap->Prop):Prop:=
JOIN (fun(j1:(Bool×Unit)×(Unit)->Heap->Prop)=>
aK (decide (a0≥1)) (
j1 ((decide (a0≤4),()),(())) H) (
j1 ((false,()),(())) H)) fun(y2:(Bool×Unit)×(Unit)) H1=>
aK y2.1.1 (
Q (1,()) H1) (
aK (a0==5) (
Q (2,()) H1) (
aK (a0==6) (
Q (3,()) H1) (
Q (0,()) H1)))
def NR:dL:=(.seq .leaf (.seq (.blk none (.seq (.reg ⟨[(3,ah)],[],(rg 4 6 [])⟩) .leaf)) .leaf))
theorem NS(a0:Int)(H:Heap)(Q:Int×Unit->Heap->Prop):uO a0 H Q=fB C [] Tryz.f140.ntmps Tryz.f140.results.toList [(au .i64)] (aP Tryz.f140) NR [(.int .u8 a0)] H Q:=by kernel_rfl
theorem NT{a0:Int}{H:Heap}{Q:Int×Unit->Heap->Prop}(h:uO a0 H Q):CALL P [(au .i64)] tN [(.int .u8 a0)] H Q:=aB hE Tryz.func140 rfl (by kernel_rfl) (NS a0 H Q) h
def uP(a0:aX)(H:Heap)(Q:Bool×Unit->Heap->Prop):Prop:=
JOIN (fun(j1:(Bool×Unit)×(Unit)->Heap->Prop)=>
aK (a0.Whom==1) (
j1 ((true,()),(())) H) (
j1 ((a0.Whom==2,()),(())) H)) fun(y2:(Bool×Unit)×(Unit)) H1=>
CALL P [(au .i64)] pX [(.int .u8 a0.Verb)] H1 fun(x3:Int×Unit) H2=>
aK (x3.1==1) (
JOIN (fun(j4:(Bool×Unit)×(Unit)->Heap->Prop)=>
aK y2.1.1 (
aK (a0.Verb==6) (
j4 ((true,()),(())) H2) (
aK (a0.Verb==8) (
j4 ((true,()),(())) H2) (
j4 ((a0.Verb==9,()),(())) H2))) (
j4 ((false,()),(())) H2)) fun(y5:(Bool×Unit)×(Unit)) H3=>
aK y5.1.1 (
Q (false,()) H3) (
JOIN (fun(j6:(Bool×Unit)×(Unit)->Heap->Prop)=>
aK (a0.Whom !=3) (
j6 ((true,()),(())) H3) (
j6 ((a0.When==1,()),(())) H3)) fun(y7:(Bool×Unit)×(Unit)) H4=>
Q (y7.1.1,()) H4)) (
aK (x3.1==2) (
JOIN (fun(j8:(Bool×Unit)×(Unit)->Heap->Prop)=>
aK (!y2.1.1) (
j8 ((a0.Whom !=3,()),(())) H2) (
j8 ((false,()),(())) H2)) fun(y9:(Bool×Unit)×(Unit)) H5=>
Q (y9.1.1,()) H5) (
Q (a0.Whom !=3,()) H2))
def NU:dL:=(.seq .leaf (.seq (.reg ⟨[(3,ah)],[],(rg 4 8 [])⟩) (.seq (.seq .leaf (.blk none (.seq .leaf (.cond none (.seq (.seq (.reg ⟨[(32,ah)],[],(rg 17 15 [])⟩) .leaf) (.seq (.reg ⟨[(2,ah)],[],(rg 33 8 [])⟩) .leaf)) (.seq .leaf (.cond none (.seq (.reg ⟨[(2,ah)],[],(rg 43 7 [])⟩) .leaf) .leaf)))))) .leaf)))
theorem NV(a0:aX)(H:Heap)(Q:Bool×Unit->Heap->Prop):uP a0 H Q=fB C [1] Tryz.f141.ntmps Tryz.f141.results.toList [ah] (aP Tryz.f141) NU [(aT.enc a0)] H Q:=by kernel_rfl
theorem NW{a0:aX}{H:Heap}{Q:Bool×Unit->Heap->Prop}(h:uP a0 H Q):CALL P [ah] tV [(aT.enc a0)] H Q:=aB hE Tryz.func141 rfl (by kernel_rfl) (NV a0 H Q) h
def pJ(a0:aX)(H:Heap)(Q:Bool×Unit->Heap->Prop):Prop:=
CALL P [(au .i64),(au .i64)] lS [(.int .u8 a0.Verb)] H fun(x1:Int×Int×Unit) H1=>
JOIN (fun(j2:(Bool×Unit)×(Unit)->Heap->Prop)=>
aK (decide (a0.Count≥x1.1)) (
aK (decide (a0.Count≤x1.2.1)) (
aK (decide (x1.1≥0)) (
j2 ((true,()),(())) H1) (
j2 ((a0.Count !=0,()),(())) H1)) (
j2 ((false,()),(())) H1)) (
j2 ((false,()),(())) H1)) fun(y3:(Bool×Unit)×(Unit)) H2=>
Q (y3.1.1,()) H2
def Il:dL:=(.seq .leaf (.seq .leaf (.seq (.reg ⟨[(2,ah)],[],(rg 11 19 [])⟩) .leaf)))
theorem Io(a0:aX)(H:Heap)(Q:Bool×Unit->Heap->Prop):pJ a0 H Q=fB C [1] Tryz.f142.ntmps Tryz.f142.results.toList [ah] (aP Tryz.f142) Il [(aT.enc a0)] H Q:=by kernel_rfl
theorem Ip{a0:aX}{H:Heap}{Q:Bool×Unit->Heap->Prop}(h:pJ a0 H Q):CALL P [ah] oU [(aT.enc a0)] H Q:=aB hE Tryz.func142 rfl (by kernel_rfl) (Io a0 H Q) h
def qQ(a0:Bool)(a1:Int)(a2:Int)(H:Heap)(Q:Bool×Unit->Heap->Prop):Prop:=
aK (!a0) (
Q (a1==0,()) H) (
JOIN (fun(j1:(Bool×Unit)×(Unit)->Heap->Prop)=>
aK (decide (a1≥1)) (
j1 ((decide (a1≤a2),()),(())) H) (
j1 ((false,()),(())) H)) fun(y2:(Bool×Unit)×(Unit)) H1=>
Q (y2.1.1,()) H1)
def Kv:dL:=(.seq .leaf (.seq .leaf (.seq (.reg ⟨[(6,ah)],[],(rg 11 7 [])⟩) .leaf)))
theorem Ky(a0:Bool)(a1:Int)(a2:Int)(H:Heap)(Q:Bool×Unit->Heap->Prop):qQ a0 a1 a2 H Q=fB C [] Tryz.f143.ntmps Tryz.f143.results.toList [ah] (aP Tryz.f143) Kv [(.bool a0),(.int .i64 a1),(.int .i64 a2)] H Q:=by kernel_rfl
theorem Kz{a0:Bool}{a1:Int}{a2:Int}{H:Heap}{Q:Bool×Unit->Heap->Prop}(h:qQ a0 a1 a2 H Q):CALL P [ah] jA [(.bool a0),(.int .i64 a1),(.int .i64 a2)] H Q:=aB hE Tryz.func143 rfl (by kernel_rfl) (Ky a0 a1 a2 H Q) h
def wR(a0:ByteArray)(H:Heap)(Q:Bool×Unit->Heap->Prop):Prop:=
JOIN (fun(j1:(Bool×Unit)×(Unit)->Heap->Prop)=>
dW (au .i64) (pU E 9 (.string a0) H) fun(x3:Int)=>
aK (decide (x3<1)) (
j1 ((true,()),(())) H) (
dW (au .i64) (pU E 9 (.string a0) H) fun(x4:Int)=>
aK (decide (x4>20)) (
j1 ((true,()),(())) H) (
dW (au .u8) (dF E 9 (.string a0) (.int .i64 0)) fun(x5:Int)=>
j1 ((x5==45,()),(())) H))) fun(y2:(Bool×Unit)×(Unit)) H1=>
aK y2.1.1 (
Q (false,()) H1) (
JOIN (fun(j6:(Unit)×(Unit)->Heap->Prop)=>
LOOP (fun(r8:(Int×Unit)×(Unit)->Heap->Prop) (s9:(Int×Unit)×(Unit)) H3=>
dW (au .i64) (pU E 9 (.string a0) H3) fun(x10:Int)=>
aK (decide (s9.1.1<x10)) (
JOIN (fun(j11:(Bool×Unit)×(Unit)->Heap->Prop)=>
dW (au .u8) (dF E 9 (.string a0) (.int .i64 s9.1.1)) fun(x13:Int)=>
aK (decide (x13<97)) (
dW (au .u8) (dF E 9 (.string a0) (.int .i64 s9.1.1)) fun(x14:Int)=>
j11 ((x14 !=45,()),(())) H3) (
dW (au .u8) (dF E 9 (.string a0) (.int .i64 s9.1.1)) fun(x15:Int)=>
aK (decide (x15>122)) (
dW (au .u8) (dF E 9 (.string a0) (.int .i64 s9.1.1)) fun(x16:Int)=>
j11 ((x16 !=45,()),(())) H3) (
j11 ((false,()),(())) H3))) fun(y12:(Bool×Unit)×(Unit)) H4=>
aK y12.1.1 (
Q (false,()) H4) (
r8 ((IntKind.wrap .i64 (s9.1.1+1),()),(())) H4)) (
j6 ((()),(())) H3)) ((0,()),(())) H1) fun(y7:(Unit)×(Unit)) H2=>
Q (true,()) H2)
def Qu:dL:=(.seq .leaf (.seq (.seq (.reg ⟨[(16,ah)],[],(rg 4 12 [])⟩) .leaf) (.seq (.seq .leaf (.blk (some ⟨[],[],(rg 2 2 (rg 17 22 []))⟩) (.loop ⟨[(3,(au .i64))],[],(rg 2 1 (rg 17 22 []))⟩ (.seq .leaf (.seq (.blk none (.seq (.reg ⟨[(38,ah)],[],(rg 23 15 [])⟩) .leaf)) .leaf))))) .leaf)))
theorem Qw(a0:ByteArray)(H:Heap)(Q:Bool×Unit->Heap->Prop):wR a0 H Q=fB C [] Tryz.f144.ntmps Tryz.f144.results.toList [ah] (aP Tryz.f144) Qu [(.string a0)] H Q:=by kernel_rfl
theorem Qx{a0:ByteArray}{H:Heap}{Q:Bool×Unit->Heap->Prop}(h:wR a0 H Q):CALL P [ah] wE [(.string a0)] H Q:=aB hE Tryz.func144 rfl (by kernel_rfl) (Qw a0 H Q) h
def zk(a0:Int)(a1:Int)(H:Heap)(Q:Bool×Unit->Heap->Prop):Prop:=
CALL P [(au .u16)] ou [(.int .u8 a1)] H fun(x1:Int×Unit) H1=>
Q ((IntKind.wrap .u16 (((BitVec.ofInt (IntKind.bits .u16) a0 &&& BitVec.ofInt (IntKind.bits .u16) x1.1).toNat:Int))) !=0,()) H1
def Ub:dL:=.leaf
theorem Uc(a0:Int)(a1:Int)(H:Heap)(Q:Bool×Unit->Heap->Prop):zk a0 a1 H Q=fB C [] Tryz.f147.ntmps Tryz.f147.results.toList [ah] (aP Tryz.f147) Ub [(.int .u16 a0),(.int .u8 a1)] H Q:=by kernel_rfl
theorem Ud{a0:Int}{a1:Int}{H:Heap}{Q:Bool×Unit->Heap->Prop}(h:zk a0 a1 H Q):CALL P [ah] rZ [(.int .u16 a0),(.int .u8 a1)] H Q:=aB hE Tryz.func147 rfl (by kernel_rfl) (Uc a0 a1 H Q) h
def zn(a0:Int)(H:Heap)(Q:Int×Unit->Heap->Prop):Prop:=
CALL P [ah] JH [(.int .u8 a0)] H fun(x1:Bool×Unit) H1=>
aK (!x1.1) (
Q (0,()) H1) (
vT ((0:Int)≤(IntKind.wrap .u8 (a0-1))) (
Q (IntKind.wrap .u16 (1*2 ^ (min (IntKind.wrap .u8 (a0-1)).toNat (IntKind.bits .u16))),()) H1))
def Ue:dL:=.leaf
theorem Uf(a0:Int)(H:Heap)(Q:Int×Unit->Heap->Prop):zn a0 H Q=fB C [] Tryz.f148.ntmps Tryz.f148.results.toList [(au .u16)] (aP Tryz.f148) Ue [(.int .u8 a0)] H Q:=by kernel_rfl
theorem Ug{a0:Int}{H:Heap}{Q:Int×Unit->Heap->Prop}(h:zn a0 H Q):CALL P [(au .u16)] ou [(.int .u8 a0)] H Q:=aB hE Tryz.func148 rfl (by kernel_rfl) (Uf a0 H Q) h
def qR(a0:Int)(H:Heap)(Q:Int×Unit->Heap->Prop):Prop:=
aK (a0==10) (
Q (1,()) H) (
aK (a0==11) (
Q (2,()) H) (
JOIN (fun(j1:(Bool×Unit)×(Unit)->Heap->Prop)=>
aK (a0==12) (
j1 ((a0==12,()),(())) H) (
j1 ((a0==13,()),(())) H)) fun(y2:(Bool×Unit)×(Unit)) H1=>
aK y2.1.1 (
Q (3,()) H1) (
aK (a0==14) (
Q (4,()) H1) (
aK (a0==15) (
Q (5,()) H1) (
Q (0,()) H1)))))
def KA:dL:=(.seq .leaf (.seq (.seq .leaf (.blk none (.seq .leaf (.cond none .leaf (.seq .leaf (.cond none .leaf (.seq (.seq .leaf (.cond (some ⟨[(8,ah)],[],[10]⟩) .leaf .leaf)) .leaf))))))) .leaf))
theorem KC(a0:Int)(H:Heap)(Q:Int×Unit->Heap->Prop):qR a0 H Q=fB C [] Tryz.f160.ntmps Tryz.f160.results.toList [(au .i64)] (aP Tryz.f160) KA [(.int .u8 a0)] H Q:=by kernel_rfl
theorem KD{a0:Int}{H:Heap}{Q:Int×Unit->Heap->Prop}(h:qR a0 H Q):CALL P [(au .i64)] qE [(.int .u8 a0)] H Q:=aB hE Tryz.func160 rfl (by kernel_rfl) (KC a0 H Q) h
end Zv
end Go.Proofs.YtijnknjopjmiiaaGreatDoor
end
section
namespace Go.Proofs.YtijnknjopjmiiaaGreatDoor
open Go Zq
namespace Zv
set_option maxRecDepth 100000
set_option linter.unusedVariables false
def iP(a0:Sl)(a1:Sl)(H:Heap)(Q:Bool×Unit->Heap->Prop):Prop:=
aK ((a0.len:Int) !=(a1.len:Int)) (
Q (false,()) H) (
JOIN (fun(j1:(Unit)×(Unit)->Heap->Prop)=>
LOOP (fun(r3:(Int×Unit)×(Unit)->Heap->Prop) (s4:(Int×Unit)×(Unit)) H2=>
aK (decide (s4.1.1<(a0.len:Int))) (
dw a0.p a0.len s4.1.1 1 fun b5 o6=>
LD (au .i64) H2 b5 o6 fun(x7:Int)=>
dw a1.p a1.len s4.1.1 1 fun b8 o9=>
LD (au .i64) H2 b8 o9 fun(x10:Int)=>
aK (x7 !=x10) (
Q (false,()) H2) (
r3 ((IntKind.wrap .i64 (s4.1.1+1),()),(())) H2)) (
j1 ((()),(())) H2)) ((0,()),(())) H) fun(y2:(Unit)×(Unit)) H1=>
Q (true,()) H1)
def wS:dL:=(.seq .leaf (.seq .leaf (.seq (.seq .leaf (.blk (some ⟨[],[],(rg 4 2 (rg 13 13 []))⟩) (.loop ⟨[(13,(au .i64))],[],(rg 4 2 (rg 14 12 []))⟩ .leaf))) .leaf)))
theorem wU(a0:Sl)(a1:Sl)(H:Heap)(Q:Bool×Unit->Heap->Prop):iP a0 a1 H Q=fB C [] Tryz.f161.ntmps Tryz.f161.results.toList [ah] (aP Tryz.f161) wS [a0.v,a1.v] H Q:=by kernel_rfl
theorem wV{a0:Sl}{a1:Sl}{H:Heap}{Q:Bool×Unit->Heap->Prop}(h:iP a0 a1 H Q):CALL P [ah] iO [a0.v,a1.v] H Q:=aB hE Tryz.func161 rfl (by kernel_rfl) (wU a0 a1 H Q) h
def mg(a0:Int)(H:Heap)(Q:Bool×Unit->Heap->Prop):Prop:=
JOIN (fun(j1:(Bool×Unit)×(Unit)->Heap->Prop)=>
aK (decide (a0≥10)) (
j1 ((decide (a0≤15),()),(())) H) (
j1 ((false,()),(())) H)) fun(y2:(Bool×Unit)×(Unit)) H1=>
Q (y2.1.1,()) H1
def Ed:dL:=(.seq .leaf (.seq (.reg ⟨[(2,ah)],[],(rg 3 6 [])⟩) .leaf))
theorem Ee(a0:Int)(H:Heap)(Q:Bool×Unit->Heap->Prop):mg a0 H Q=fB C [] Tryz.f163.ntmps Tryz.f163.results.toList [ah] (aP Tryz.f163) Ed [(.int .u8 a0)] H Q:=by kernel_rfl
theorem Ef{a0:Int}{H:Heap}{Q:Bool×Unit->Heap->Prop}(h:mg a0 H Q):CALL P [ah] jm [(.int .u8 a0)] H Q:=aB hE Tryz.func163 rfl (by kernel_rfl) (Ee a0 H Q) h
def mD(a0:Int)(H:Heap)(Q:Bool×Unit->Heap->Prop):Prop:=
JOIN (fun(j1:(Bool×Unit)×(Unit)->Heap->Prop)=>
aK (decide (a0≥16)) (
j1 ((decide (a0≤19),()),(())) H) (
j1 ((false,()),(())) H)) fun(y2:(Bool×Unit)×(Unit)) H1=>
Q (y2.1.1,()) H1
def Eh:dL:=(.seq .leaf (.seq (.reg ⟨[(2,ah)],[],(rg 3 6 [])⟩) .leaf))
theorem Ei(a0:Int)(H:Heap)(Q:Bool×Unit->Heap->Prop):mD a0 H Q=fB C [] Tryz.f164.ntmps Tryz.f164.results.toList [ah] (aP Tryz.f164) Eh [(.int .u8 a0)] H Q:=by kernel_rfl
theorem Ej{a0:Int}{H:Heap}{Q:Bool×Unit->Heap->Prop}(h:mD a0 H Q):CALL P [ah] jo [(.int .u8 a0)] H Q:=aB hE Tryz.func164 rfl (by kernel_rfl) (Ei a0 H Q) h
def qU(a0:Int)(H:Heap)(Q:Bool×Unit->Heap->Prop):Prop:=
JOIN (fun(j1:(Bool×Unit)×(Unit)->Heap->Prop)=>
aK (decide (a0≥1)) (
j1 ((decide (a0≤9),()),(())) H) (
j1 ((false,()),(())) H)) fun(y2:(Bool×Unit)×(Unit)) H1=>
Q (y2.1.1,()) H1
def KE:dL:=(.seq .leaf (.seq (.reg ⟨[(2,ah)],[],(rg 3 6 [])⟩) .leaf))
theorem KF(a0:Int)(H:Heap)(Q:Bool×Unit->Heap->Prop):qU a0 H Q=fB C [] Tryz.f165.ntmps Tryz.f165.results.toList [ah] (aP Tryz.f165) KE [(.int .u8 a0)] H Q:=by kernel_rfl
theorem KG{a0:Int}{H:Heap}{Q:Bool×Unit->Heap->Prop}(h:qU a0 H Q):CALL P [ah] qF [(.int .u8 a0)] H Q:=aB hE Tryz.func165 rfl (by kernel_rfl) (KF a0 H Q) h
def qV(a0:Int)(H:Heap)(Q:Int×Int×Unit->Heap->Prop):Prop:=
JOIN (fun(j1:(Bool×Unit)×(Unit)->Heap->Prop)=>
aK (a0==1) (
j1 ((a0==1,()),(())) H) (
JOIN (fun(j3:(Bool×Unit)×(Unit)->Heap->Prop)=>
aK (a0==2) (
j3 ((a0==2,()),(())) H) (
JOIN (fun(j5:(Bool×Unit)×(Unit)->Heap->Prop)=>
aK (a0==3) (
j5 ((a0==3,()),(())) H) (
JOIN (fun(j7:(Bool×Unit)×(Unit)->Heap->Prop)=>
aK (a0==4) (
j7 ((a0==4,()),(())) H) (
JOIN (fun(j9:(Bool×Unit)×(Unit)->Heap->Prop)=>
aK (a0==7) (
j9 ((a0==7,()),(())) H) (
JOIN (fun(j11:(Bool×Unit)×(Unit)->Heap->Prop)=>
aK (a0==16) (
j11 ((a0==16,()),(())) H) (
j11 ((a0==19,()),(())) H)) fun(y12:(Bool×Unit)×(Unit)) H6=>
j9 ((y12.1.1,()),(())) H6)) fun(y10:(Bool×Unit)×(Unit)) H5=>
j7 ((y10.1.1,()),(())) H5)) fun(y8:(Bool×Unit)×(Unit)) H4=>
j5 ((y8.1.1,()),(())) H4)) fun(y6:(Bool×Unit)×(Unit)) H3=>
j3 ((y6.1.1,()),(())) H3)) fun(y4:(Bool×Unit)×(Unit)) H2=>
j1 ((y4.1.1,()),(())) H2)) fun(y2:(Bool×Unit)×(Unit)) H1=>
aK y2.1.1 (
Q (1,99,()) H1) (
JOIN (fun(j13:(Bool×Unit)×(Unit)->Heap->Prop)=>
aK (a0==9) (
j13 ((a0==9,()),(())) H1) (
j13 ((a0==15,()),(())) H1)) fun(y14:(Bool×Unit)×(Unit)) H7=>
aK y14.1.1 (
Q ((-99),99,()) H7) (
aK (a0==5) (
Q ((-9),9,()) H7) (
aK (a0==14) (
Q (0,99,()) H7) (
Q (0,0,()) H7))))
def KH:dL:=(.seq .leaf (.seq (.seq .leaf (.blk none (.seq (.seq .leaf (.cond (some ⟨[(5,ah)],[],(rg 7 6 [])⟩) .leaf (.seq .leaf (.cond (some ⟨[(5,ah)],[],(rg 8 5 [])⟩) .leaf (.seq .leaf (.cond (some ⟨[(5,ah)],[],[9,10,11,12]⟩) .leaf (.seq .leaf (.cond (some ⟨[(5,ah)],[],[10,11,12]⟩) .leaf (.seq .leaf (.cond (some ⟨[(5,ah)],[],[11,12]⟩) .leaf (.seq .leaf (.cond (some ⟨[(5,ah)],[],[12]⟩) .leaf .leaf)))))))))))) (.cond none .leaf (.seq (.seq .leaf (.cond (some ⟨[(13,ah)],[],[15]⟩) .leaf .leaf)) .leaf))))) .leaf))
theorem KI(a0:Int)(H:Heap)(Q:Int×Int×Unit->Heap->Prop):qV a0 H Q=fB C [] Tryz.f166.ntmps Tryz.f166.results.toList [(au .i64),(au .i64)] (aP Tryz.f166) KH [(.int .u8 a0)] H Q:=by kernel_rfl
theorem KJ{a0:Int}{H:Heap}{Q:Int×Int×Unit->Heap->Prop}(h:qV a0 H Q):CALL P [(au .i64),(au .i64)] lS [(.int .u8 a0)] H Q:=aB hE Tryz.func166 rfl (by kernel_rfl) (KI a0 H Q) h
def CQ(a0:Int)(H:Heap)(Q:Bool×Unit->Heap->Prop):Prop:=
JOIN (fun(j1:(Bool×Unit)×(Unit)->Heap->Prop)=>
aK (decide (a0≥1)) (
j1 ((decide (a0≤8),()),(())) H) (
j1 ((false,()),(())) H)) fun(y2:(Bool×Unit)×(Unit)) H1=>
Q (y2.1.1,()) H1
def VA:dL:=(.seq .leaf (.seq (.reg ⟨[(2,ah)],[],(rg 3 6 [])⟩) .leaf))
theorem VB(a0:Int)(H:Heap)(Q:Bool×Unit->Heap->Prop):CQ a0 H Q=fB C [] Tryz.f177.ntmps Tryz.f177.results.toList [ah] (aP Tryz.f177) VA [(.int .u8 a0)] H Q:=by kernel_rfl
theorem VD{a0:Int}{H:Heap}{Q:Bool×Unit->Heap->Prop}(h:CQ a0 H Q):CALL P [ah] JH [(.int .u8 a0)] H Q:=aB hE Tryz.func177 rfl (by kernel_rfl) (VB a0 H Q) h
end Zv
end Go.Proofs.YtijnknjopjmiiaaGreatDoor
end
section
namespace Go.Proofs.YtijnknjopjmiiaaGreatDoor.Zq
open Go.Proofs Go.RowKit
theorem Stp.abC{M:Mp}{H:Heap}{w W:World}(h:HR M H w)(b:Below w.heap.size w W)(hd:w.drawn≤W.drawn):Stp M H w M H W:=by
 have hh:∀j,j<w.heap.size->W.heap[j]? =w.heap[j]? :=b.block
 refine⟨.refl M,⟨h.len,fun b e k hb hk=>(h.blk b e k hb hk).same fun hlv=>hh _ (h.lC hb ?_),h.sep⟩,b.os,b.output,b.tape,b.size,hd,fun c hc _=>hh c hc,fun b e hb hw _=>⟨b,e,hb,hw,rfl⟩,fun _ h=>⟨h,rfl⟩,fun b e hb hw _=>⟨b,e,hb,hw,rfl⟩⟩
 unfold bQ; rw[hk]; cases k<;>first|exact hlv|trivial
section
open Zv
abbrev NY:ByteArray:=ByteArray.mk #[97,98,99,100,101,102,103,104,105,106,107,108,109,110,111,112,113,114,115,116,117,118,119,120,121,122,45]
theorem trim_c{H:Heap}{s:ByteArray}(h0:0<s.size)(hs:s.size≤9223372036854775807){Q:ByteArray×Unit->Heap->Prop}(hq:Q (⟨(Lib.trimS s.data.toList NY.data.toList).toArray⟩,()) H):CALL P [dG] jB [.string s,.string NY] H Q:=by
 have hfn:∃fn,P.funcs[jB]? =some fn∧fn.body.isSome=true∧(fn.name=="runtime.NumGoroutine")=false:=⟨_,lays160.f160,by kernel_rfl,by kernel_rfl⟩
 refine⟨hfn,fun n M w args' hr hv=> ?_⟩
 obtain⟨v1,vs1,rfl,h1,hv1⟩:=hv.of_cons
 obtain⟨v2,vs2,rfl,h2,hv2⟩:=hv1.of_cons
 have:=hv2.of_nil; subst this
 have:=h1.of_string; subst this
 have:=h2.of_string; subst this
 have h116:(P.info? (rW.t 116)).map (fun i=>(i.zero,i.size))=some (some (.agg (Array.replicate 256 (.bool false))),256):=by kernel_rfl
 refine callsIn_wide.2 ((Any.strings_Trim_set lays160 (zero_of_info h116).1 (zero_of_info h116).2 s NY w (by decide) h0 hs (by decide) (ascii_of_all (by decide))).mono ?_)
 rintro en w' ⟨rfl,q,rfl⟩
 exact⟨.string _,_,M,H,rfl,Stp.abC hr (by have b:=((Below.refl w.heap.size w).alloc (Nat.le_refl _) (.cells (Lib.setCells NY.data.toList) (rW.t 116))).alloc (by show w.heap.size≤(w.heap.push _).size; simp) (.cells (Lib.setCells NY.data.toList) (rW.t 116)); exact⟨b.os,b.tape,b.output,b.size,b.block⟩) (by show w.drawn≤w.drawn+q; omega),.string _,_,rfl,hq⟩
theorem adq:∀b:UInt8,NY.data.toList.contains b=GH b:=fun b=>by
 have h:∀n:Fin 256,NY.data.toList.contains (UInt8.ofFin n)=GH (UInt8.ofFin n):=by decide +kernel
 exact h b.toFin
theorem dropWhile_nil{α:Type}{p:α->Bool}:∀{l:List α},l.dropWhile p=[]↔l.all p=true
 |[]=>by simp
 |a::l=>by
  rw[List.dropWhile_cons,List.all_cons]
  split
  ·rename_i e; rw[e,dropWhile_nil]; simp
  ·rename_i e; simp[e]
theorem X8(l:List UInt8):Lib.trimS l NY.data.toList=[]↔l.all GH=true:=by
 have e:(fun b=>NY.data.toList.contains b)=GH:=funext adq
 unfold Lib.trimS Lib.trimLeftS Lib.trimRightS
 rw[e,dropWhile_nil]
 constructor
 ·intro h
  cases hd:l.reverse.dropWhile GH with
  |nil=>
   rw[dropWhile_nil,List.all_reverse]at hd; exact hd
  |cons x r=>
   have hx:=qG hd
   rw[hd,List.all_eq_true]at h
   have:=h x (by simp)
   rw[this]at hx; cases hx
 ·intro h
  have:l.reverse.dropWhile GH=[]:=by rw[dropWhile_nil,List.all_reverse]; exact h
  rw[this]; rfl
theorem zo(s:ByteArray):s.size=s.data.toList.length:=by show s.data.size=_; rw[Array.length_toList]
theorem fU{H:Heap}{s:ByteArray}{k:Int->Prop}(hk:k (s.data.toList.length:Int)):dW (au .i64) (pU E 9 (.string s) H) k:=by
 rw[←zo]at hk
 exact⟨_,rfl,hk⟩
theorem jH{s:ByteArray}{i:Int}{n:Nat}(hi:i=n){b:UInt8}(h:s.data.toList[n]? =some b){k:Int->Prop}(hk:k (b.toNat:Int)):dW (au .u8) (dF E 9 (.string s) (.int .i64 i)) k:=by
 refine⟨(b.toNat:Int),?_,hk⟩
 show dF E 9 (.string s) (.int .i64 i)=some (.int .u8 b.toNat)
 have hn:=(List.getElem?_eq_some_iff.1 h).1
 have h1:s[n]? =some b:=by
  rw[ByteArray.getElem?_lt' s n (by rw[zo]; exact hn)]
  rw[List.getElem?_eq_getElem hn]at h
  exact h
 obtain⟨ti,hti,hk⟩:∃ti,E.ty 9=some ti∧ti.k= .string:=⟨_,rfl,rfl⟩
 subst hi
 unfold dF
 simp only[hti,hk,Option.bind_some]
 rw[if_pos (by omega),Int.toNat_natCast,h1]
end
end Go.Proofs.YtijnknjopjmiiaaGreatDoor.Zq
end
section
namespace Go.Proofs.YtijnknjopjmiiaaGreatDoor.Zq
open Zv
section
theorem dH{c:Prop}[Decidable c]{a b:Prop}(h1:c->a)(h2:¬c->b):aK (decide c) a b:=bT (fun e=>h1 (of_decide_eq_true e)) (fun e=>h2 (of_decide_eq_false e))
theorem fV{x y:Int}{a b:Prop}(h1:x=y->a)(h2:x≠y->b):aK (x==y) a b:=bT (fun e=>h1 (by simpa using e)) (fun e=>h2 (by simpa using e))
theorem AO{x y:Int}{a b:Prop}(h1:x≠y->a)(h2:x=y->b):aK (x !=y) a b:=bT (fun e=>h1 (by simpa using e)) (fun e=>h2 (by simpa using e))
theorem Qy{c:Prop}[Decidable c]{a b:Prop}(h1:¬c->a)(h2:c->b):aK (!decide c) a b:=bT (fun e=>h1 (by simpa using e)) (fun e=>h2 (by simpa using e))
theorem JD{H:Heap}{A:((Bool×Unit)×Unit->Heap->Prop)->Prop}{B:(Bool×Unit)×Unit->Heap->Prop}(c:Prop)[Decidable c](hA:∀j:(Bool×Unit)×Unit->Heap->Prop,(∀r:Bool,(r=true↔c)->j ((r,()),()) H)->A j)(hB:B ((decide c,()),()) H):JOIN A B:=
 hA _ fun r hr=>by
  have:r=decide c:=by rw[Bool.eq_iff_iff,hr]; simp
  rw[this]; exact hB
variable{H:Heap}
theorem Qd{R:Type}{Q:R->Prop}{x y:R}(h:Q x)(e:x=y):Q y:=e▸h
theorem KL{v:Int}{Q:Bool×Unit->Heap->Prop}(hq:Q (decide (10≤v∧v≤15),()) H):CALL P [ah] jm [.int .u8 v] H Q:=by
 apply Ef
 unfold mg
 exact JD (H:=H) (10≤v∧v≤15) (fun j hj=>dH (fun h=>hj _ (by simp; omega)) (fun h=>hj _ (by simp; omega))) hq
theorem abD{v:Int}{Q:Bool×Unit->Heap->Prop}(hq:Q (decide (1≤v∧v≤9),()) H):CALL P [ah] qF [.int .u8 v] H Q:=by
 apply KG
 unfold qU
 exact JD (H:=H) (1≤v∧v≤9) (fun j hj=>dH (fun h=>hj _ (by simp; omega)) (fun h=>hj _ (by simp; omega))) hq
theorem KN{v:Int}{Q:Bool×Unit->Heap->Prop}(hq:Q (decide (16≤v∧v≤19),()) H):CALL P [ah] jo [.int .u8 v] H Q:=by
 apply Ej
 unfold mD
 exact JD (H:=H) (16≤v∧v≤19) (fun j hj=>dH (fun h=>hj _ (by simp; omega)) (fun h=>hj _ (by simp; omega))) hq
theorem Em{v:Int}:lT v=1↔1≤v∧v≤9:=by
 unfold lT
 repeat' split
 all_goals (simp; try omega)
theorem Qz{v:Int}:lT v=2↔10≤v∧v≤15:=by
 unfold lT
 repeat' split
 all_goals (simp; try omega)
theorem abE{v:Int}:lT v=3↔16≤v∧v≤19:=by
 unfold lT
 repeat' split
 all_goals (simp; try omega)
theorem ZC{w v:Int}(hw:1≤w∧w≤6){Q:Bool×Unit->Heap->Prop}(hq:Q (decide (lT v=yL w),()) H):CALL P [ah] oQ [.int .u8 w,.int .u8 v] H Q:=by
 apply Ik
 unfold pI
 refine fV (fun h=>KL (Qd (Q:=fun r=>Q r H) hq ?_)) (fun h=>fV (fun h2=>KN (Qd (Q:=fun r=>Q r H) hq ?_)) (fun h2=>abD (Qd (Q:=fun r=>Q r H) hq ?_)))
 ·have:yL w=2:=by unfold yL; rw[if_neg (by omega),if_pos h]
  simp only[this,Qz]
 ·have:yL w=3:=by unfold yL; rw[if_neg (by omega),if_neg h,if_pos h2]
  simp only[this,abE]
 ·have:yL w=1:=by unfold yL; rw[if_pos (by omega)]
  simp only[this,Em]
theorem adr{v w:Int}{Q:Bool×Bool×Bool×Bool×Bool×Unit->Heap->Prop}(hq:Q (decide (cU v),decide (sU v w),decide (tU v w),decide (v=9),decide (v=7),()) H):CALL P [ah,ah,ah,ah,ah] tJ [.int .u8 v,.int .u8 w] H Q:=by
 apply NK
 unfold uF
 refine JD (H:=H) (v=1∨v=2∨v=3∨v=4∨v=5∨v=14∨v=15∨v=16∨v=19) (fun j hj=> ?_) ?_
 ·refine fV (fun h=>hj _ (by simp; omega)) (fun h1=>bF (fV (fun h=>hj _ (by simp; omega)) (fun h2=>bF (fV (fun h=>hj _ (by simp; omega)) (fun h3=>bF (fV (fun h=>hj _ (by simp; omega)) (fun h4=>bF (fV (fun h=>hj _ (by simp; omega)) (fun h5=>bF (fV (fun h=>hj _ (by simp; omega)) (fun h6=>bF (fV (fun h=>hj _ (by simp; omega)) (fun h7=>bF (fV (fun h=>hj _ (by simp; omega)) (fun h8=>hj _ (by simp; omega))))))))))))))))
 ·refine abz ((decide (cU v),decide (v=11),decide (v=12∨v=13),decide (v=9),decide (v=7),()),()) H (fun j hj=> ?_) ?_
  ·have fin:∀a b c d e:Bool,(a=true↔cU v)->(b=true↔v=11)->(c=true↔v=12∨v=13)->(d=true↔v=9)->(e=true↔v=7)->j ((a,b,c,d,e,()),()) H:=fun a b c d e h1 h2 h3 h4 h5=>by
    have e1:a=decide (cU v):=by rw[Bool.eq_iff_iff,h1]; simp
    have e2:b=decide (v=11):=by rw[Bool.eq_iff_iff,h2]; simp
    have e3:c=decide (v=12∨v=13):=by rw[Bool.eq_iff_iff,h3]; simp
    have e4:d=decide (v=9):=by rw[Bool.eq_iff_iff,h4]; simp
    have e5:e=decide (v=7):=by rw[Bool.eq_iff_iff,h5]; simp
    rw[e1,e2,e3,e4,e5]; exact hj
   refine dH (fun h=>fin _ _ _ _ _ (by simp[cU]; omega) (by simp; omega) (by simp; omega) (by simp; omega) (by simp; omega)) (fun h=>bF (fV (fun h9=>fin _ _ _ _ _ (by simp[cU]; omega) (by simp; omega) (by simp; omega) (by simp; omega) (by simp; omega)) (fun h9=>bF (fV (fun h7=>fin _ _ _ _ _ (by simp[cU]; omega) (by simp; omega) (by simp; omega) (by simp; omega) (by simp; omega)) (fun h7=>bF (fV (fun h11=>fin _ _ _ _ _ (by simp[cU]; omega) (by simp; omega) (by simp; omega) (by simp; omega) (by simp; omega)) (fun h11=> ?_)))))))
   refine JD (H:=H) (v=12∨v=13) (fun j hj=>fV (fun h=>hj _ (by simp; omega)) (fun h=>hj _ (by simp; omega))) (bF (dH (fun h=>fin _ _ _ _ _ (by simp[cU]; omega) (by simp; omega) (by simp; omega) (by simp; omega) (by simp; omega)) (fun h=>fin _ _ _ _ _ (by simp[cU]; omega) (by simp; omega) (by simp; omega) (by simp; omega) (by simp; omega))))
  ·have fin:∀b c:Bool,(b=true↔sU v w)->(c=true↔tU v w)->Q (decide (cU v),b,c,decide (v=9),decide (v=7),()) H:=fun b c h1 h2=>by
    have e1:b=decide (sU v w):=by rw[Bool.eq_iff_iff,h1]; simp
    have e2:c=decide (tU v w):=by rw[Bool.eq_iff_iff,h2]; simp
    rw[e1,e2]; exact hq
   exact bF (dH (fun h=>dH (fun h2=>fin _ _ (by simp[sU]; omega) (by simp[tU]; omega)) (fun h2=>fin _ _ (by simp[sU]; omega) (by simp[tU]; omega))) (fun h=>dH (fun h2=>fin _ _ (by simp[sU]; omega) (by simp[tU]; omega)) (fun h2=>fin _ _ (by simp[sU]; omega) (by simp[tU]; omega))))
theorem ZE{v:Int}{Q:Int×Int×Bool×Unit->Heap->Prop}(hq:Q (zW v,yM v,decide (v=14),()) H):CALL P [au .i64,au .i64,ah] oP [.int .u8 v] H Q:=by
 apply Ih
 unfold pG
 refine JD (H:=H) (v=9∨v=15) (fun j hj=>fV (fun h=>hj _ (by simp; omega)) (fun h=>hj _ (by simp; omega))) (dH (fun h=>Qd (Q:=fun r=>Q r H) hq ?_) (fun h=>fV (fun h2=>Qd (Q:=fun r=>Q r H) hq ?_) (fun h2=>fV (fun h3=>Qd (Q:=fun r=>Q r H) hq ?_) (fun h3=>Qd (Q:=fun r=>Q r H) hq ?_))))
 ·unfold zW yM; rw[if_pos h,if_neg (by omega)]; simp; omega
 ·unfold zW yM; rw[if_neg h,if_pos h2,if_pos h2]; simp; omega
 ·unfold zW yM; rw[if_neg h,if_neg h2,if_pos h3,if_neg h2]; simp; omega
 ·unfold zW yM; rw[if_neg h,if_neg h2,if_neg h3,if_neg h2]; simp; omega
theorem abG{p:Pt}{Q:Bool×Unit->Heap->Prop}(hk:1≤p.Verb∧p.Verb≤19)(hq:∀r:Bool,(r=true↔lU p)->Q (r,()) H):CALL P [ah] qC [aT.enc p] H Q:=by
 apply Ku
 unfold qP
 refine JD (H:=H) (p.Whom=1∨p.Whom=2) (fun j hj=>fV (fun h=>hj _ (by simp; omega)) (fun h=>hj _ (by simp; omega))) (KL (dH (fun h1=> ?_) (fun h1=>KN (dH (fun h2=>hq _ ?_) (fun h2=>fV (fun h3=>hq _ ?_) (fun h3=> ?_))))))
 ·have k1:lT p.Verb≠1:=fun e=>by have:=Em.1 e; omega
  have k2:lT p.Verb=2:=Qz.2 h1
  refine JD (H:=H) (¬(p.Whom=1∨p.Whom=2)∧p.Whom≠3) (fun j hj=>Qy (fun h=>hj _ (by simp; omega)) (fun h=>hj _ (by simp; omega))) (hq _ ?_)
  unfold lU
  rw[if_neg k1,if_pos k2,decide_eq_true_eq]
 ·have k1:lT p.Verb≠1:=fun e=>by have:=Em.1 e; omega
  have k2:lT p.Verb≠2:=fun e=>by have:=Qz.1 e; omega
  unfold lU
  rw[if_neg k1,if_neg k2]; simp
 ·have k1:lT p.Verb=1:=Em.2 (by omega)
  unfold lU
  rw[if_pos k1,if_pos h3]; simp
 ·have k1:lT p.Verb=1:=Em.2 (by omega)
  refine JD (H:=H) (¬((p.Whom=1∨p.Whom=2)∧(p.Verb=6∨p.Verb=8∨p.Verb=9))) (fun j hj=>Qy (fun h=>hj _ (by simp; omega)) (fun h=>AO (fun h6=>AO (fun h8=>hj _ (by simp; omega)) (fun h8=>hj _ (by simp; omega))) (fun h6=>hj _ (by simp; omega)))) (hq _ ?_)
  unfold lU
  rw[if_pos k1,if_neg h3,decide_eq_true_eq]
theorem X9{u:Prop}[Decidable u]{x lo hi:Int}{Q:Bool×Unit->Heap->Prop}(hq:Q (decide (if u then lo≤x∧x≤hi else x=0),()) H):
  aK (!decide u) (Q (x==0,()) H) (JOIN (fun(j1:(Bool×Unit)×(Unit)->Heap->Prop)=>aK (decide (x≥lo)) (j1 ((decide (x≤hi),()),(())) H) (j1 ((false,()),(())) H)) fun(y2:(Bool×Unit)×(Unit)) H1=>Q (y2.1.1,()) H1):=by
 refine Qy (fun h=>Qd (Q:=fun r=>Q r H) hq ?_) (fun h=>JD (H:=H) (lo≤x∧x≤hi) (fun j hj=>dH (fun h=>hj _ (by simp; omega)) (fun h=>hj _ (by simp; omega))) (Qd (Q:=fun r=>Q r H) hq ?_))
 ·simp only[if_neg h]; congr 1
 ·simp only[if_pos h]
theorem jq{b:UInt8}:GH b=true↔b.toNat=45∨97≤b.toNat∧b.toNat≤122:=by
 unfold GH
 simp only[Bool.or_eq_true,Bool.and_eq_true,decide_eq_true_eq,beq_iff_eq,UInt8.le_iff_toNat_le]
 constructor
 ·rintro(rfl|h)
  ·exact .inl rfl
  ·exact .inr h
 ·rintro(h|h)
  ·exact .inl (UInt8.toNat_inj.1 h)
  ·exact .inr h
instance (s:ByteArray):Decidable (oz s):=by unfold oz; infer_instance
theorem OC{s:ByteArray}{b:UInt8}{r:List UInt8}(h:s.data.toList=b::r)(h20:s.data.toList.length≤20):oz s↔b.toNat≠45∧s.data.toList.all GH=true:=by
 unfold oz
 rw[h]at h20 ⊢
 simp only[List.length_cons,List.head?_cons,ne_eq,Option.some.injEq]at h20 ⊢
 have:b=45↔b.toNat=45:=⟨fun e=>by rw[e]; rfl,fun e=>UInt8.toNat_inj.1 e⟩
 rw[this]
 constructor
 ·exact fun q=>q.2.2
 ·exact fun q=>⟨by omega,h20,q⟩
theorem zq:(ByteArray.mk #[]).toList=[]:=ByteArray.toList_mk []
theorem Xf{s:ByteArray}(hs:s.size≤9223372036854775807){b:UInt8}{r:List UInt8}(h:s.data.toList=b::r)(h20:s.data.toList.length≤20){j:(Bool×Unit)×Unit->Heap->Prop}(hj:∀r:Bool,(r=true↔oz s)->j ((r,()),()) H):
  dW (au .u8) (dF E 9 (.string s) (.int .i64 0)) fun(x5:Int)=>aK (x5 !=45) (CALL P [dG] jB [(.string s),(.string NY)] H fun(x6:ByteArray×Unit) H2=>j ((x6.1.toList==(ByteArray.mk #[]).toList,()),(())) H2) (j ((false,()),(())) H):=by
 refine jH (n:=0) rfl (b:=b) (by rw[h]; rfl) (AO (fun h3=>trim_c (by rw[zo,h]; simp) hs (hj _ ?_)) (fun h3=>hj _ ?_))
 ·rw[OC h h20,zq,ByteArray.toList_mk,beq_iff_eq,X8]
  exact⟨fun q=>⟨by omega,q⟩,fun q=>q.2⟩
 ·rw[OC h h20]
  simp; omega
theorem abH{s:ByteArray}(hs:s.size≤9223372036854775807){Q:Bool×Unit->Heap->Prop}(hq:Q (decide (oz s),()) H):CALL P [ah] tK [.string s] H Q:=by
 apply NQ
 unfold uN
 refine JD (H:=H) (oz s) (fun j hj=>fU (dH (fun h1=>fU (dH (fun h2=> ?_) (fun h2=>hj _ ?_))) (fun h1=>hj _ ?_))) hq
 ·cases hl:s.data.toList with
  |nil=>rw[hl]at h1; simp at h1
  |cons b r=>exact Xf hs hl (by omega) hj
 ·simp only[Bool.false_eq_true,false_iff]; exact fun q=>by have:=q.2.1; omega
 ·simp only[Bool.false_eq_true,false_iff]; exact fun q=>by have:=q.1; omega
theorem ZF{s:ByteArray}(hs:s.size≤9223372036854775807){Q:Bool×Unit->Heap->Prop}(hq:Q (decide (oz s),()) H):CALL P [ah] wB [.string s] H Q:=by
 apply Qm
 unfold wO
 refine JD (H:=H) (oz s) (fun j hj=>fU (dH (fun h1=>fU (dH (fun h2=> ?_) (fun h2=>hj _ ?_))) (fun h1=>hj _ ?_))) hq
 ·cases hl:s.data.toList with
  |nil=>rw[hl]at h1; simp at h1
  |cons b r=>exact Xf hs hl (by omega) hj
 ·simp only[Bool.false_eq_true,false_iff]; exact fun q=>by have:=q.2.1; omega
 ·simp only[Bool.false_eq_true,false_iff]; exact fun q=>by have:=q.1; omega
theorem FZ{L:List UInt8}{F:((Int×Unit)×Unit->Heap->Prop)->(Int×Unit)×Unit->Heap->Prop}{Qf Qt:Prop}
  (hF:∀(G:(Int×Unit)×Unit->Heap->Prop) (n:Nat),(∀b,L[n]? =some b->(GH b=true->G (((n:Int)+1,()),()) H)->(GH b=false->Qf)->F G (((n:Int),()),()) H)∧(n=L.length->Qt->F G (((n:Int),()),()) H))
  (ht:L.all GH=true->Qt) (hf:L.all GH=false->Qf):LOOP F ((0,()),()) H:=by
 refine bG (fun(t:(Int×Unit)×Unit) H'=>H'=H∧∃n:Nat,t.1.1=n∧n≤L.length∧(L.take n).all GH=true) (fun t=>L.length-t.1.1.toNat) ?_ ⟨rfl,0,rfl,Nat.zero_le _,by simp⟩
 rintro G ⟨⟨i,_⟩,_⟩ H' ⟨rfl,n,hi,hn,ha⟩ hG
 simp only at hi; subst hi
 dsimp only at hG
 obtain⟨k1,k2⟩:=hF G n
 by_cases e:n=L.length
 ·exact k2 e (ht (by rw[e,List.take_length]at ha; exact ha))
 ·have hlt:n<L.length:=by omega
  refine k1 _ (List.getElem?_eq_getElem hlt) (fun hb=>hG _ _ ⟨rfl,n+1,by simp,hlt,?_⟩ (by simp; omega)) (fun hb=>hf ?_)
  ·rw[List.take_succ_eq_append_getElem hlt,List.all_append,ha]; simp[hb]
  ·rw[List.all_eq_false]; exact⟨_,List.getElem_mem hlt,by simp[hb]⟩
theorem get_at{s:ByteArray}{n:Nat}{b:UInt8}(h:s.data.toList[n]? =some b):s.get! n=b:=by
 have hn:=(List.getElem?_eq_some_iff.1 h).1
 rw[List.getElem?_eq_getElem hn]at h
 have hn':n<s.data.size:=by rw[←Array.length_toList]; exact hn
 show s.data[n]! =b
 rw[getElem!_pos s.data n hn']
 exact Option.some.inj h
theorem Ya{s:ByteArray}{n:Nat}(h:(s.get! n).toNat<128):Utf8.decode s n=((s.get! n).toNat,1):=by
 unfold Utf8.decode
 simp[h]
theorem Yb{s:ByteArray}{n:Nat}(h:128≤(s.get! n).toNat):128≤(Utf8.decode s n).1:=by
 unfold Utf8.decode
 simp only[Nat.add_zero]
 rw[if_neg (by omega)]
 repeat' split
 all_goals first|(simp only[Utf8.runeError]; omega)|skip
 all_goals (rename_i h1; first|(simp only; omega)|(simp only[Bool.and_eq_true,decide_eq_true_eq]at h1; simp only; omega))
theorem Yc{H:Heap}{s:ByteArray}{pos:Nat}(h:pos<s.size):xZ (.pointer (some ⟨H.length,0,none⟩)) (H++[.iter s pos])=some (.tuple #[.bool true,.int .i64 pos,.int .i32 (Utf8.decode s pos).1],H++[.iter s (pos+(Utf8.decode s pos).2)]):=by
 unfold xZ xY
 simp[h]
theorem ZG{H:Heap}{s:ByteArray}{pos:Nat}(h:¬pos<s.size):xZ (.pointer (some ⟨H.length,0,none⟩)) (H++[.iter s pos])=some (.tuple #[.bool false],H++[.iter s pos]):=by
 unfold xZ xY
 simp[h]
theorem ZH{S:Type}{F:(S->Heap->Prop)->S->Heap->Prop}(I:S->Heap->Prop)(μ:S->Heap->Nat)(hF:∀(G:S->Heap->Prop) s H,I s H->(∀s' H',I s' H'->μ s' H'<μ s H->G s' H')->F G s H){s:S}{H:Heap}(h:I s H):LOOP F s H:=by
 refine⟨μ s H+1,?_⟩
 have:∀n s H,μ s H<n->I s H->itP F n s H:=by
  intro n
  induction n with
  |zero=>intro s H h; omega
  |succ n ih=>intro s H hm hi; exact hF _ s H hi fun s' H' h1 h2=>ih s' H' (by omega) h1
 exact this _ s H (by omega) h
def ZI(H:Heap)(b:Nat):Nat:=match H[b]? with|some (.iter _ pos)=>pos|_=>0
theorem OD(H:Heap)(s:ByteArray)(pos:Nat):ZI (H++[.iter s pos]) H.length=pos:=by unfold ZI; simp
theorem abI{s:ByteArray}{Q:Bool×Unit->Heap->Prop}(hq:∀H',bP [] H H'->Q (decide (oz s),()) H'):CALL P [ah] yH [.string s] H Q:=by
 apply TN
 unfold yS
 have no:∀H',bP [] H H'->¬oz s->Q (false,()) H':=fun H' f hn=>by have:=hq H' f; rwa [decide_eq_false hn]at this
 refine JD (H:=H) (s.data.toList.length=0∨20<s.data.toList.length∨s.data.toList.head? =some 45) (fun j hj=>fU (fV (fun h1=>hj _ ?_) (fun h1=>fU (dH (fun h2=>hj _ ?_) (fun h2=> ?_))))) (dH (fun hbad=>no H (.refl _ _) fun q=> ?_) (fun hgood=> ?_))
 ·simp only[true_iff]; exact .inl (by omega)
 ·simp only[true_iff]; exact .inr (.inl (by omega))
 ·cases hl:s.data.toList with
  |nil=>rw[hl]at h1; simp at h1
  |cons b r=>
   refine jH (n:=0) rfl (b:=b) (by rw[hl]; rfl) (hj _ ?_)
   have h45:b=45↔b.toNat=45:=⟨fun e=>by rw[e]; rfl,fun e=>UInt8.toNat_inj.1 e⟩
   rw[hl]at h2 ⊢
   simp only[List.length_cons,List.head?_cons,Option.some.injEq,h45,beq_iff_eq]at h2 ⊢
   constructor
   ·intro q; right; right; omega
   ·rintro(q|q|q)<;>omega
 ·rcases hbad with e|e|e
  ·have:=q.1; omega
  ·have:=q.2.1; omega
  ·exact q.2.2.1 e
 ·have h45:s.data.toList.head? ≠some 45:=fun e=>hgood (.inr (.inr e))
  have hl1:¬s.data.toList.length=0:=fun e=>hgood (.inl e)
  have hl2:¬20<s.data.toList.length:=fun e=>hgood (.inr (.inl e))
  have fx:∀pos,bP [] H (H++[.iter s pos]):=fun pos=>bP.app _ _ _
  refine⟨_,_,rfl,bF ?_⟩
  refine ZH (fun(_:Unit×Unit) H'=>∃pos:Nat,H'=H++[.iter s pos]∧pos≤s.data.toList.length∧(s.data.toList.take pos).all GH=true) (fun _ H'=>s.data.toList.length-ZI H' H.length) ?_ ⟨0,rfl,Nat.zero_le _,by simp⟩
  rintro G ⟨_,_⟩ H' ⟨pos,rfl,hp,ha⟩ hG
  by_cases hlt:pos<s.data.toList.length
  ·have hx:s.data.toList[pos]? =some (s.data.toList[pos]):=List.getElem?_eq_getElem hlt
   generalize s.data.toList[pos]=b at hx
   have hb:=get_at hx
   have tk:s.data.toList.take (pos+1)=s.data.toList.take pos++[b]:=by
    rw[List.take_succ_eq_append_getElem hlt]
    rw[List.getElem?_eq_getElem hlt]at hx
    rw[Option.some.inj hx]
   refine .inl ⟨_,_,_,Yc (by rw[zo]; exact hlt),?_⟩
   have bad:∀H2,bP [] H H2->GH b=false->Q (false,()) H2:=fun H2 f hn=>no H2 f fun q=>by
    have:=List.all_eq_true.1 q.2.2.2 b (List.mem_of_getElem? hx)
    rw[hn]at this; cases this
   by_cases hA:b.toNat<128
   ·have hd:=Ya (s:=s) (n:=pos) (by rw[hb]; exact hA)
    rw[hb]at hd
    rw[hd]
    dsimp only
    refine JD (H:=H++[.iter s (pos+1)]) (¬GH b=true) (fun j hj=>AO (fun h1=>dH (fun h2=>hj _ ?_) (fun h2=>hj _ ?_)) (fun h1=>hj _ ?_)) (dH (fun h=>bad _ (fx _) (by simpa using h)) (fun h=> ?_))
    ·rw[jq]; simp; omega
    ·rw[jq]; simp; omega
    ·rw[jq]; simp; omega
    ·have h:GH b=true:=by simpa using h
     refine hG _ _ ⟨pos+1,rfl,hlt,by rw[tk,List.all_append,ha]; simp[h]⟩ ?_
     rw[OD,OD]; omega
   ·have hd:=Yb (s:=s) (n:=pos) (by rw[hb]; omega)
    have hn:GH b=false:=by
     cases h:GH b with
     |false=>rfl
     |true=>have:=jq.1 h; omega
    generalize Utf8.decode s pos=d at hd
    refine JD (H:=H++[.iter s (pos+d.2)]) True (fun j hj=>AO (fun h1=>dH (fun h2=>hj _ (by simp)) (fun h2=>hj _ (by simp; omega))) (fun h1=>by omega)) (iJ (by simp) (bad _ (fx _) hn))
  ·have he:pos=s.data.toList.length:=by omega
   subst he
   rw[List.take_length]at ha
   refine .inr ⟨_,ZG (by rw[zo]; exact hlt),?_⟩
   have:=hq _ (fx s.data.toList.length)
   rwa [decide_eq_true (show oz s from⟨by omega,by omega,h45,ha⟩)]at this
theorem mF{s:ByteArray}:oz s↔¬(s.data.toList.length<1∨20<s.data.toList.length∨s.data.toList.head? =some 45)∧s.data.toList.all GH=true:=by
 unfold oz
 constructor
 ·exact fun q=>⟨by rintro(h|h|h)<;>first|omega|exact q.2.2.1 h,q.2.2.2⟩
 ·exact fun q=>⟨by omega,by omega,fun h=>q.1 (.inr (.inr h)),q.2⟩
theorem VE{b:UInt8}:b=45↔b.toNat=45:=⟨fun e=>by rw[e]; rfl,fun e=>UInt8.toNat_inj.1 e⟩
theorem ZJ{s:ByteArray}{Q:Bool×Unit->Heap->Prop}(hq:Q (decide (oz s),()) H):CALL P [ah] wE [.string s] H Q:=by
 apply Qx
 unfold wR
 have no:¬oz s->Q (false,()) H:=fun hn=>by rwa [decide_eq_false hn]at hq
 refine JD (H:=H) (s.data.toList.length<1∨20<s.data.toList.length∨s.data.toList.head? =some 45) (fun j hj=>fU (dH (fun h1=>hj _ ?_) (fun h1=>fU (dH (fun h2=>hj _ ?_) (fun h2=> ?_))))) (dH (fun hbad=>no fun q=>(mF.1 q).1 hbad) (fun hgood=>bF ?_))
 ·simp only[true_iff]; exact .inl (by omega)
 ·simp only[true_iff]; exact .inr (.inl (by omega))
 ·cases hl:s.data.toList with
  |nil=>rw[hl]at h1; simp at h1
  |cons b r=>
   refine jH (n:=0) rfl (b:=b) (by rw[hl]; rfl) (hj _ ?_)
   rw[hl]at h2 ⊢
   simp only[List.length_cons,List.head?_cons,Option.some.injEq,VE,beq_iff_eq]at h2 ⊢
   constructor
   ·intro q; right; right; omega
   ·rintro(q|q|q)<;>omega
 ·refine FZ (L:=s.data.toList) (Qf:=Q (false,()) H) (Qt:=Q (true,()) H) (fun G n=>⟨fun b hx k1 k2=> ?_,fun e k=>fU (bI (decide_eq_false (by simp only; omega)) k)⟩) (fun ha=>by rwa [decide_eq_true (mF.2 ⟨hgood,ha⟩)]at hq) (fun ha=>no fun q=>by have:=(mF.1 q).2; rw[ha]at this; cases this)
  have hlt:=(List.getElem?_eq_some_iff.1 hx).1
  refine fU (iJ (decide_eq_true (by simp only; omega)) ?_)
  refine JD (H:=H) (¬GH b=true) (fun j hj=>jH rfl hx (dH (fun h1=>jH rfl hx (hj _ ?_)) (fun h1=>jH rfl hx (dH (fun h2=>jH rfl hx (hj _ ?_)) (fun h2=>hj _ ?_))))) (dH (fun h=>k2 (by simpa using h)) (fun h=> ?_))
  ·rw[jq]; simp; omega
  ·rw[jq]; simp; omega
  ·rw[jq]; simp; omega
  ·dsimp only
   rw[dA (by omega) (by omega)]
   exact k1 (by simpa using h)
theorem ZK{s:ByteArray}{Q:Bool×Unit->Heap->Prop}(hq:Q (decide (oz s),()) H):CALL P [ah] oN [.string s] H Q:=by
 apply Hu
 unfold pq
 have no:¬oz s->Q (false,()) H:=fun hn=>by rwa [decide_eq_false hn]at hq
 refine JD (H:=H) (s.data.toList.length<1∨20<s.data.toList.length∨s.data.toList.head? =some 45) (fun j hj=>fU (dH (fun h1=>hj _ ?_) (fun h1=>fU (dH (fun h2=>hj _ ?_) (fun h2=> ?_))))) (dH (fun hbad=>no fun q=>(mF.1 q).1 hbad) (fun hgood=>bF ?_))
 ·simp only[true_iff]; exact .inl (by omega)
 ·simp only[true_iff]; exact .inr (.inl (by omega))
 ·cases hl:s.data.toList with
  |nil=>rw[hl]at h1; simp at h1
  |cons b r=>
   refine jH (n:=0) rfl (b:=b) (by rw[hl]; rfl) (hj _ ?_)
   rw[hl]at h2 ⊢
   simp only[List.length_cons,List.head?_cons,Option.some.injEq,VE,beq_iff_eq]at h2 ⊢
   constructor
   ·intro q; right; right; omega
   ·rintro(q|q|q)<;>omega
 ·refine FZ (L:=s.data.toList) (Qf:=Q (false,()) H) (Qt:=Q (true,()) H) (fun G n=>⟨fun b hx k1 k2=> ?_,fun e k=>fU (bI (decide_eq_false (by simp only; omega)) k)⟩) (fun ha=>by rwa [decide_eq_true (mF.2 ⟨hgood,ha⟩)]at hq) (fun ha=>no fun q=>by have:=(mF.1 q).2; rw[ha]at this; cases this)
  have hlt:=(List.getElem?_eq_some_iff.1 hx).1
  refine fU (iJ (decide_eq_true (by simp only; omega)) ?_)
  refine JD (H:=H) (¬GH b=true) (fun j hj=>jH rfl hx (AO (fun h1=>jH rfl hx (dH (fun h2=>hj _ ?_) (fun h2=>jH rfl hx (hj _ ?_)))) (fun h1=>hj _ ?_))) (dH (fun h=>k2 (by simpa using h)) (fun h=> ?_))
  ·rw[jq]; simp; omega
  ·rw[jq]; simp; omega
  ·rw[jq]; simp; omega
  ·dsimp only
   rw[dA (by omega) (by omega)]
   exact k1 (by simpa using h)
theorem ZL{s:ByteArray}{Q:Bool×Unit->Heap->Prop}(hq:Q (decide (oz s),()) H):CALL P [ah] wu [.string s] H Q:=by
 apply Qg
 unfold wL
 have no:¬oz s->Q (false,()) H:=fun hn=>by rwa [decide_eq_false hn]at hq
 refine JD (H:=H) (s.data.toList.length<1∨20<s.data.toList.length∨∃b,s.data.toList.head? =some b∧(b.toNat<97∨122<b.toNat)) (fun j hj=>fU (dH (fun h1=>hj _ ?_) (fun h1=>fU (dH (fun h2=>hj _ ?_) (fun h2=> ?_))))) (dH (fun hbad=>no fun q=> ?_) (fun hgood=>bF ?_))
 ·simp only[true_iff]; exact .inl (by omega)
 ·simp only[true_iff]; exact .inr (.inl (by omega))
 ·cases hl:s.data.toList with
  |nil=>rw[hl]at h1; simp at h1
  |cons b r=>
   rw[hl]at h2 h1
   have key:(1+r.length<1∨20<1+r.length∨∃b',(b::r).head? =some b'∧(b'.toNat<97∨122<b'.toNat))↔(b.toNat<97∨122<b.toNat):=by
    simp only[List.length_cons]at h2
    constructor
    ·rintro(q|q|⟨b',e,q⟩)
     ·omega
     ·omega
     ·cases e; exact q
    ·exact fun q=>.inr (.inr ⟨b,rfl,q⟩)
   refine jH (n:=0) rfl (b:=b) (by rw[hl]; rfl) (dH (fun h3=>hj _ ?_) (fun h3=>jH (n:=0) rfl (b:=b) (by rw[hl]; rfl) (hj _ ?_)))
   ·rw[hl,List.length_cons,Nat.add_comm,key]; simp; omega
   ·rw[hl,List.length_cons,Nat.add_comm,key]; simp; omega
 ·obtain⟨q1,q2⟩:=mF.1 q
  rcases hbad with e|e|⟨b,e,h⟩
  ·exact q1 (.inl e)
  ·exact q1 (.inr (.inl e))
  ·have hb:GH b=true:=List.all_eq_true.1 q2 b (List.mem_of_mem_head? e)
   have h45:b≠45:=fun e2=>q1 (.inr (.inr (by rw[e,e2])))
   have:=jq.1 hb
   have:=mt VE.2 h45
   omega
 ·have hgood':¬(s.data.toList.length<1∨20<s.data.toList.length∨s.data.toList.head? =some 45):=by
   rintro(e|e|e)
   ·exact hgood (.inl e)
   ·exact hgood (.inr (.inl e))
   ·exact hgood (.inr (.inr ⟨45,e,.inl (by decide)⟩))
  refine FZ (L:=s.data.toList) (Qf:=Q (false,()) H) (Qt:=Q (true,()) H) (fun G n=>⟨fun b hx k1 k2=> ?_,fun e k=>fU (bI (decide_eq_false (by simp only; omega)) k)⟩) (fun ha=>by rwa [decide_eq_true (mF.2 ⟨hgood',ha⟩)]at hq) (fun ha=>no fun q=>by have:=(mF.1 q).2; rw[ha]at this; cases this)
  have hlt:=(List.getElem?_eq_some_iff.1 hx).1
  refine fU (iJ (decide_eq_true (by simp only; omega)) ?_)
  refine JD (H:=H) (¬GH b=true) (fun j hj=>jH rfl hx (dH (fun h1=>jH rfl hx (hj _ ?_)) (fun h1=>jH rfl hx (dH (fun h2=>jH rfl hx (hj _ ?_)) (fun h2=>hj _ ?_))))) (dH (fun h=>k2 (by simpa using h)) (fun h=> ?_))
  ·rw[jq]; simp; omega
  ·rw[jq]; simp; omega
  ·rw[jq]; simp; omega
  ·dsimp only
   rw[dA (by omega) (by omega)]
   exact k1 (by simpa using h)
end
end Go.Proofs.YtijnknjopjmiiaaGreatDoor.Zq
end
