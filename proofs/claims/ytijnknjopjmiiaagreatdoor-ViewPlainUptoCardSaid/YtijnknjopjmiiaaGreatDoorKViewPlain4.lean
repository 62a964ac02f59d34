/- Part 4 of the proof of ViewPlain: what its row stands on (lemmas about the model, the evaluator, contracts of functions), put together and cut to what is used. -/
import Derived.Test.YtijnknjopjmiiaaGreatDoorKViewPlain3
import Derived.KernelRfl
section
namespace Go.Proofs.YtijnknjopjmiiaaGreatDoor
open Go Zq
namespace Zv
set_option maxRecDepth 100000
set_option linter.unusedVariables false
def mZ(a0:Option Addr)(H:Heap)(Q:Int×Unit->Heap->Prop):Prop:=
CALL P [(au .i64)] iI [(.pointer a0)] H fun(x1:Int×Unit) H1=>
aO (x1.1 !=0) (
Q (x1.1,()) H1) (
NIL a0 fun b2 o3=>
NIL a0 fun b4 o5=>
LD (au .i64) H1 b4 (o5+2) fun(x6:Int)=>
dX aK (dQ E 127 (.pointer (some ⟨b2,o3+3,none⟩)) none (some (.int .i64 x6)) none H1) fun(x7:Sl)=>
JOIN (fun(j8:(Unit)×(Unit)->Heap->Prop)=>
LOOP (fun(r10:(Int×Unit)×(Unit)->Heap->Prop) (s11:(Int×Unit)×(Unit)) H3=>
aO (decide (s11.1.1<(x7.len:Int))) (
JOIN (fun(j12:(Unit)×(Unit)->Heap->Prop)=>
dR x7.p x7.len s11.1.1 9 fun b14 o15=>
LD aA H3 b14 o15 fun(x16:ay)=>
JOIN (fun(j17:(Unit)×(Unit)->Heap->Prop)=>
LOOP (fun(r19:(Int×Unit)×(Unit)->Heap->Prop) (s20:(Int×Unit)×(Unit)) H6=>
aO (decide (s20.1.1<(x16.Parts.len:Int))) (
JOIN (fun(j21:(Unit)×(Unit)->Heap->Prop)=>
dR x16.Parts.p x16.Parts.len s20.1.1 8 fun b23 o24=>
LD aP H6 b23 o24 fun(x25:aV)=>
aO (x25.Verb !=7) (
j21 ((()),(())) H6) (
CALL P [(au .i64)] gX [(.pointer a0),(.string x25.Name)] H6 fun(x26:Int×Unit) H8=>
aO (decide (x26.1<0)) (
Q (6,()) H8) (
NIL a0 fun b27 o28=>
yh 64 x26.1 (
LD (au .u8) H8 b27 (o28+3+x26.1.toNat*9+2) fun(x29:Int)=>
aO (x29==2) (
Q (8,()) H8) (
j21 ((()),(())) H8))))) fun(y22:(Unit)×(Unit)) H7=>
r19 ((IntKind.wrap .i64 (s20.1.1+1),()),(())) H7) (
j17 ((()),(())) H6)) ((0,()),(())) H3) fun(y18:(Unit)×(Unit)) H5=>
j12 ((()),(())) H5) fun(y13:(Unit)×(Unit)) H4=>
r10 ((IntKind.wrap .i64 (s11.1.1+1),()),(())) H4) (
j8 ((()),(())) H3)) ((0,()),(())) H1) fun(y9:(Unit)×(Unit)) H2=>
NIL a0 fun b30 o31=>
ST H2 b30 (o31+1) [(.bool true)] fun H9=>
Q (0,()) H9)
def Fh:dJ:=(.seq .leaf (.seq .leaf (.seq (.seq .leaf (.blk (some ⟨[],[],(rg 2 1 (rg 5 1 (rg 7 2 (rg 23 32 []))))⟩) (.loop ⟨[(23,(au .i64))],[],(rg 2 1 (rg 5 1 (rg 7 2 (rg 24 31 []))))⟩ (.seq .leaf (.seq .leaf (.seq (.blk (some ⟨[],[],(rg 2 1 (rg 5 1 (rg 7 2 (rg 25 29 []))))⟩) (.seq .leaf (.seq .leaf (.blk (some ⟨[],[],(rg 2 1 (rg 7 2 (rg 30 24 [])))⟩) (.loop ⟨[(30,(au .i64))],[],(rg 2 1 (rg 7 2 (rg 31 23 [])))⟩ (.seq .leaf (.seq .leaf (.seq (.blk (some ⟨[],[],(rg 2 1 (rg 7 2 (rg 32 21 [])))⟩) .leaf) .leaf)))))))) .leaf)))))) .leaf)))
theorem Fj(a0:Option Addr)(H:Heap)(Q:Int×Unit->Heap->Prop):mZ a0 H Q=eP C [5,7] Tryz.f42.ntmps Tryz.f42.results.toList [(au .i64)] (aQ Tryz.f42) Fh [(.pointer a0)] H Q:=by kernel_rfl
theorem Fp{a0:Option Addr}{H:Heap}{Q:Int×Unit->Heap->Prop}(h:mZ a0 H Q):CALL P [(au .i64)] mW [(.pointer a0)] H Q:=aB hE Tryz.func42 rfl (by kernel_rfl) (Fj a0 H Q) h
def lV(a0:Option Addr)(H:Heap)(Q:Int×Unit->Heap->Prop):Prop:=
CALL P [ah] fD [(.pointer a0)] H fun(x1:Bool×Unit) H1=>
aO x1.1 (
Q (1,()) H1) (
NIL a0 fun b2 o3=>
LD ah H1 b2 (o3+1) fun(x4:Bool)=>
aO x4 (
Q (7,()) H1) (
JOIN (fun(j5:(Unit)×(Unit)->Heap->Prop)=>
LOOP (fun(r7:(Int×Unit)×(Unit)->Heap->Prop) (s8:(Int×Unit)×(Unit)) H3=>
NIL a0 fun b9 o10=>
LD aK H3 b9 (o10+2) fun(x11:Sl)=>
aO (decide (s8.1.1<(x11.len:Int))) (
JOIN (fun(j12:(Unit)×(Unit)->Heap->Prop)=>
JOIN (fun(j14:(Unit)×(Unit)->Heap->Prop)=>
LOOP (fun(r16:(Int×Unit)×(Unit)->Heap->Prop) (s17:(Int×Unit)×(Unit)) H6=>
NIL a0 fun b18 o19=>
LD aK H6 b18 (o19+2) fun(x20:Sl)=>
dR x20.p x20.len s8.1.1 9 fun b21 o22=>
LD aK H6 b21 (o22+8) fun(x23:Sl)=>
aO (decide (s17.1.1<(x23.len:Int))) (
JOIN (fun(j24:(Unit)×(Unit)->Heap->Prop)=>
NIL a0 fun b26 o27=>
LD aK H6 b26 (o27+2) fun(x28:Sl)=>
dR x28.p x28.len s8.1.1 9 fun b29 o30=>
LD aK H6 b29 (o30+8) fun(x31:Sl)=>
dR x31.p x31.len s17.1.1 8 fun b32 o33=>
LD aP H6 b32 o33 fun(x34:aV)=>
aO (x34.Verb !=7) (
j24 ((()),(())) H6) (
CALL P [(au .i64)] iM [(.pointer a0),(.string x34.Name)] H6 fun(x35:Int×Unit) H8=>
aO (decide (x35.1<0)) (
Q (6,()) H8) (
NIL a0 fun b36 o37=>
LD aK H8 b36 (o37+2) fun(x38:Sl)=>
dR x38.p x38.len x35.1 9 fun b39 o40=>
LD (au .u8) H8 b39 (o40+2) fun(x41:Int)=>
aO (x41==2) (
Q (8,()) H8) (
j24 ((()),(())) H8)))) fun(y25:(Unit)×(Unit)) H7=>
r16 ((IntKind.wrap .i64 (s17.1.1+1),()),(())) H7) (
j14 ((()),(())) H6)) ((0,()),(())) H3) fun(y15:(Unit)×(Unit)) H5=>
j12 ((()),(())) H5) fun(y13:(Unit)×(Unit)) H4=>
r7 ((IntKind.wrap .i64 (s8.1.1+1),()),(())) H4) (
j5 ((()),(())) H3)) ((0,()),(())) H1) fun(y6:(Unit)×(Unit)) H2=>
NIL a0 fun b42 o43=>
ST H2 b42 (o43+1) [(.bool true)] fun H9=>
Q (0,()) H9))
def DK:dJ:=(.seq .leaf (.seq .leaf (.seq .leaf (.seq (.seq .leaf (.blk (some ⟨[],[],(rg 2 5 (rg 13 51 []))⟩) (.loop ⟨[(3,(au .i64))],[],(rg 2 1 (rg 4 3 (rg 13 51 [])))⟩ (.seq .leaf (.seq (.blk (some ⟨[],[],(rg 2 1 (rg 4 3 (rg 22 42 [])))⟩) (.seq .leaf (.blk (some ⟨[],[],(rg 2 1 (rg 4 3 (rg 22 42 [])))⟩) (.loop ⟨[(4,(au .i64))],[],(rg 2 1 (rg 5 2 (rg 22 42 [])))⟩ (.seq .leaf (.seq (.blk (some ⟨[],[],(rg 2 1 (rg 5 2 (rg 35 29 [])))⟩) .leaf) .leaf)))))) .leaf))))) .leaf))))
theorem DL(a0:Option Addr)(H:Heap)(Q:Int×Unit->Heap->Prop):lV a0 H Q=eP C [5] Tryz.f43.ntmps Tryz.f43.results.toList [(au .i64)] (aQ Tryz.f43) DK [(.pointer a0)] H Q:=by kernel_rfl
theorem DN{a0:Option Addr}{H:Heap}{Q:Int×Unit->Heap->Prop}(h:lV a0 H Q):CALL P [(au .i64)] lI [(.pointer a0)] H Q:=aB hE Tryz.func43 rfl (by kernel_rfl) (DL a0 H Q) h
def kS(a0:Option Addr)(H:Heap)(Q:Bool×Unit->Heap->Prop):Prop:=
CALL P [ah] eH [(.pointer a0)] H fun(x1:Bool×Unit) H1=>
aO x1.1 (
Q (false,()) H1) (
NIL a0 fun b2 o3=>
LD ah H1 b2 (o3+1) fun(x4:Bool)=>
Q (x4,()) H1)
def BF:dJ:=.leaf
theorem BG(a0:Option Addr)(H:Heap)(Q:Bool×Unit->Heap->Prop):kS a0 H Q=eP C [] Tryz.f44.ntmps Tryz.f44.results.toList [ah] (aQ Tryz.f44) BF [(.pointer a0)] H Q:=by kernel_rfl
theorem BH{a0:Option Addr}{H:Heap}{Q:Bool×Unit->Heap->Prop}(h:kS a0 H Q):CALL P [ah] iL [(.pointer a0)] H Q:=aB hE Tryz.func44 rfl (by kernel_rfl) (BG a0 H Q) h
def jY(a0:Option Addr)(H:Heap)(Q:Bool×Unit->Heap->Prop):Prop:=
JOIN (fun(j1:(Bool×Unit)×(Unit)->Heap->Prop)=>
CALL P [ah] fD [(.pointer a0)] H fun(x3:Bool×Unit) H2=>
aO (!x3.1) (
NIL a0 fun b4 o5=>
LD ah H2 b4 (o5+1) fun(x6:Bool)=>
j1 ((x6,()),(())) H2) (
j1 ((false,()),(())) H2)) fun(y2:(Bool×Unit)×(Unit)) H1=>
Q (y2.1.1,()) H1
def zQ:dJ:=(.seq .leaf (.seq (.reg ⟨[(2,ah)],[],(rg 3 9 [])⟩) .leaf))
theorem zS(a0:Option Addr)(H:Heap)(Q:Bool×Unit->Heap->Prop):jY a0 H Q=eP C [] Tryz.f45.ntmps Tryz.f45.results.toList [ah] (aQ Tryz.f45) zQ [(.pointer a0)] H Q:=by kernel_rfl
theorem zT{a0:Option Addr}{H:Heap}{Q:Bool×Unit->Heap->Prop}(h:jY a0 H Q):CALL P [ah] jU [(.pointer a0)] H Q:=aB hE Tryz.func45 rfl (by kernel_rfl) (zS a0 H Q) h
def tY(a0:Option Addr)(a1:Sl)(a2:Sl)(a3:aN)(H:Heap)(Q:Sl×Int×Unit->Heap->Prop):Prop:=
CALL P [aC,(au .i64)] gY [(.pointer a0),a1.v,a2.v] H fun(x1:aH×Int×Unit) H1=>
aO (x1.2.1 !=0) (
Q ((Sl.mk none 0 0),x1.2.1,()) H1) (
CALL P [ah] jv [(aC.enc x1.1),(aF.enc a3)] H1 fun(x2:Bool×Unit) H2=>
aO (!x2.1) (
Q ((Sl.mk none 0 0),2,()) H2) (
CALL P [aK] dU [(aC.enc x1.1),a2.v,(aF.enc a3)] H2 fun(x3:Sl×Unit) H3=>
Q (x3.1,0,()) H3))
def MO:dJ:=.leaf
theorem MP(a0:Option Addr)(a1:Sl)(a2:Sl)(a3:aN)(H:Heap)(Q:Sl×Int×Unit->Heap->Prop):tY a0 a1 a2 a3 H Q=eP C [7,10] Tryz.f46.ntmps Tryz.f46.results.toList [aK,(au .i64)] (aQ Tryz.f46) MO [(.pointer a0),a1.v,a2.v,(aF.enc a3)] H Q:=by kernel_rfl
theorem MQ{a0:Option Addr}{a1:Sl}{a2:Sl}{a3:aN}{H:Heap}{Q:Sl×Int×Unit->Heap->Prop}(h:tY a0 a1 a2 a3 H Q):CALL P [aK,(au .i64)] sH [(.pointer a0),a1.v,a2.v,(aF.enc a3)] H Q:=aB hE Tryz.func46 rfl (by kernel_rfl) (MP a0 a1 a2 a3 H Q) h
def gB(a0:Sl)(a1:Int)(H:Heap)(Q:Bool×Unit->Heap->Prop):Prop:=
CALL P [(au .i64)] lK [a0.v,(.int .i64 a1)] H fun(x1:Int×Unit) H1=>
Q (decide (x1.1≥0),()) H1
def qO:dJ:=.leaf
theorem qP(a0:Sl)(a1:Int)(H:Heap)(Q:Bool×Unit->Heap->Prop):gB a0 a1 H Q=eP C [] Tryz.f47.ntmps Tryz.f47.results.toList [ah] (aQ Tryz.f47) qO [a0.v,(.int .i64 a1)] H Q:=by kernel_rfl
theorem qQ{a0:Sl}{a1:Int}{H:Heap}{Q:Bool×Unit->Heap->Prop}(h:gB a0 a1 H Q):CALL P [ah] fZ [a0.v,(.int .i64 a1)] H Q:=aB hE Tryz.func47 rfl (by kernel_rfl) (qP a0 a1 H Q) h
def tZ(a0:Option Addr)(a1:Sl)(a2:Sl)(a3:aN)(H:Heap)(Q:Sl×Int×Unit->Heap->Prop):Prop:=
CALL P [aC,(au .i64)] gY [(.pointer a0),a1.v,a2.v] H fun(x1:aH×Int×Unit) H1=>
aO (x1.2.1 !=0) (
Q ((Sl.mk none 0 0),x1.2.1,()) H1) (
CALL P [ah] jv [(aC.enc x1.1),(aF.enc a3)] H1 fun(x2:Bool×Unit) H2=>
aO (!x2.1) (
Q ((Sl.mk none 0 0),2,()) H2) (
CALL P [aK] fG [(aC.enc x1.1),a2.v,(aF.enc a3)] H2 fun(x3:Sl×Unit) H3=>
Q (x3.1,0,()) H3))
def MR:dJ:=.leaf
theorem MS(a0:Option Addr)(a1:Sl)(a2:Sl)(a3:aN)(H:Heap)(Q:Sl×Int×Unit->Heap->Prop):tZ a0 a1 a2 a3 H Q=eP C [7,10] Tryz.f48.ntmps Tryz.f48.results.toList [aK,(au .i64)] (aQ Tryz.f48) MR [(.pointer a0),a1.v,a2.v,(aF.enc a3)] H Q:=by kernel_rfl
theorem MV{a0:Option Addr}{a1:Sl}{a2:Sl}{a3:aN}{H:Heap}{Q:Sl×Int×Unit->Heap->Prop}(h:tZ a0 a1 a2 a3 H Q):CALL P [aK,(au .i64)] sJ [(.pointer a0),a1.v,a2.v,(aF.enc a3)] H Q:=aB hE Tryz.func48 rfl (by kernel_rfl) (MS a0 a1 a2 a3 H Q) h
def wB(a0:Option Addr)(a1:bT)(H:Heap)(Q:ay×Int×Unit->Heap->Prop):Prop:=
CALL P [aA,(au .i64)] qh [(.pointer a0),(.int .i64 a1.Card)] H fun(x1:ay×Int×Unit) H1=>
Q (x1.1,x1.2.1,()) H1
def Qa:dJ:=.leaf
theorem Qb(a0:Option Addr)(a1:bT)(H:Heap)(Q:ay×Int×Unit->Heap->Prop):wB a0 a1 H Q=eP C [3,4] Tryz.f56.ntmps Tryz.f56.results.toList [aA,(au .i64)] (aQ Tryz.f56) Qa [(.pointer a0),(aW.enc a1)] H Q:=by kernel_rfl
theorem Qc{a0:Option Addr}{a1:bT}{H:Heap}{Q:ay×Int×Unit->Heap->Prop}(h:wB a0 a1 H Q):CALL P [aA,(au .i64)] pz [(.pointer a0),(aW.enc a1)] H Q:=aB hE Tryz.func56 rfl (by kernel_rfl) (Qb a0 a1 H Q) h
def ng(a0:Option Addr)(a1:ByteArray)(H:Heap)(Q:Int×Int×Unit->Heap->Prop):Prop:=
CALL P [ah] eH [(.pointer a0)] H fun(x1:Bool×Unit) H1=>
aO x1.1 (
Q (0,1,()) H1) (
CALL P [(au .i64)] gX [(.pointer a0),(.string a1)] H1 fun(x2:Int×Unit) H2=>
JOIN (fun(j3:(Bool×Unit)×(Unit)->Heap->Prop)=>
NIL a0 fun b5 o6=>
LD ah H2 b5 (o6+1) fun(x7:Bool)=>
aO x7 (
j3 ((decide (x2.1≥0),()),(())) H2) (
j3 ((false,()),(())) H2)) fun(y4:(Bool×Unit)×(Unit)) H3=>
aO y4.1.1 (
Q (IntKind.wrap .i64 (x2.1+1),0,()) H3) (
Q (0,6,()) H3))
def Fq:dJ:=(.seq .leaf (.seq .leaf (.seq (.seq .leaf (.seq (.reg ⟨[(19,ah)],[],(rg 12 7 [])⟩) .leaf)) .leaf)))
theorem Fv(a0:Option Addr)(a1:ByteArray)(H:Heap)(Q:Int×Int×Unit->Heap->Prop):ng a0 a1 H Q=eP C [] Tryz.f57.ntmps Tryz.f57.results.toList [(au .i64),(au .i64)] (aQ Tryz.f57) Fq [(.pointer a0),(.string a1)] H Q:=by kernel_rfl
theorem Fz{a0:Option Addr}{a1:ByteArray}{H:Heap}{Q:Int×Int×Unit->Heap->Prop}(h:ng a0 a1 H Q):CALL P [(au .i64),(au .i64)] jR [(.pointer a0),(.string a1)] H Q:=aB hE Tryz.func57 rfl (by kernel_rfl) (Fv a0 a1 H Q) h
def kT(a0:Option Addr)(a1:Int)(H:Heap)(Q:ak×Bool×Unit->Heap->Prop):Prop:=
JOIN (fun(j1:(Bool×Unit)×(Unit)->Heap->Prop)=>
CALL P [ah] eH [(.pointer a0)] H fun(x3:Bool×Unit) H2=>
aO x3.1 (
j1 ((true,()),(())) H2) (
aO (decide (a1<1)) (
j1 ((true,()),(())) H2) (
j1 ((decide (a1>4),()),(())) H2))) fun(y2:(Bool×Unit)×(Unit)) H1=>
aO y2.1.1 (
Q ((ak.mk 0 (ByteArray.mk #[]) 0 0),false,()) H1) (
NIL a0 fun b4 o5=>
yh 5 a1 (
LD aT H1 b4 (o5+588+a1.toNat*4) fun(x6:ak)=>
NIL a0 fun b7 o8=>
yh 5 a1 (
LD (au .u8) H1 b7 (o8+588+a1.toNat*4+0) fun(x9:Int)=>
LD (au .u8) H1 b7 (o8+588+a1.toNat*4+0) fun(x10:Int)=>
xB ((au .u8).enc x10=(.int .u8 x9)) (
Q (x6,x9 !=0,()) H1))))
def BI:dJ:=(.seq .leaf (.seq (.seq (.reg ⟨[(15,ah)],[],(rg 6 9 [])⟩) .leaf) .leaf))
theorem BJ(a0:Option Addr)(a1:Int)(H:Heap)(Q:ak×Bool×Unit->Heap->Prop):kT a0 a1 H Q=eP C [4] Tryz.f58.ntmps Tryz.f58.results.toList [aT,ah] (aQ Tryz.f58) BI [(.pointer a0),(.int .u8 a1)] H Q:=by kernel_rfl
theorem BK{a0:Option Addr}{a1:Int}{H:Heap}{Q:ak×Bool×Unit->Heap->Prop}(h:kT a0 a1 H Q):CALL P [aT,ah] kQ [(.pointer a0),(.int .u8 a1)] H Q:=aB hE Tryz.func58 rfl (by kernel_rfl) (BJ a0 a1 H Q) h
def qA(a0:Option Addr)(a1:Sl)(H:Heap)(Q:Sl×Int×Unit->Heap->Prop):Prop:=
aO (decide ((a1.len:Int)>2048)) (
CALL P [aK,aK,(au .i64)] nS [(.pointer a0),a1.v,((Sl.mk none 0 0)).v,(.int .i64 1)] H fun(x1:Sl×Sl×Int×Unit) H1=>
Q ((Sl.mk none 0 0),x1.2.2.1,()) H1) (
GEN aK (fE E 30 (.int .i64 (a1.len:Int)) (.int .i64 (a1.len:Int)) H) fun(x2:Sl) H2=>
JOIN (fun(j3:(Unit)×(Unit)->Heap->Prop)=>
LOOP (fun(r5:(Int×Unit)×(Unit)->Heap->Prop) (s6:(Int×Unit)×(Unit)) H4=>
aO (decide (s6.1.1<(a1.len:Int))) (
dR a1.p a1.len s6.1.1 11 fun b7 o8=>
LD aW H4 b7 o8 fun(x9:bT)=>
CALL P [aJ,(au .i64)] iW [(.pointer a0),(aW.enc x9)] H4 fun(x10:aG×Int×Unit) H5=>
aO (x10.2.1==1) (
Q ((Sl.mk none 0 0),x10.2.1,()) H5) (
aO (x10.2.1 !=0) (
Q ((Sl.mk none 0 0),2,()) H5) (
JOIN (fun(j11:(Unit)×(Unit)->Heap->Prop)=>
aO (x9.Place==4) (
dR x2.p x2.len s6.1.1 5 fun b13 o14=>
ST H5 b13 o14 (aJ.cells x10.1) fun H7=>
j11 ((()),(())) H7) (
j11 ((()),(())) H5)) fun(y12:(Unit)×(Unit)) H6=>
r5 ((IntKind.wrap .i64 (s6.1.1+1),()),(())) H6))) (
j3 ((()),(())) H4)) ((0,()),(())) H2) fun(y4:(Unit)×(Unit)) H3=>
CALL P [aK,aK,(au .i64)] nS [(.pointer a0),a1.v,x2.v,(.int .i64 1)] H3 fun(x15:Sl×Sl×Int×Unit) H8=>
aO (x15.2.2.1 !=0) (
Q ((Sl.mk none 0 0),x15.2.2.1,()) H8) (
JOIN (fun(j16:(Unit)×(Unit)->Heap->Prop)=>
LOOP (fun(r18:(Int×Unit)×(Unit)->Heap->Prop) (s19:(Int×Unit)×(Unit)) H10=>
aO (decide (s19.1.1<(a1.len:Int))) (
dR a1.p a1.len s19.1.1 11 fun b20 o21=>
LD aW H10 b20 o21 fun(x22:bT)=>
NEW H10 [(.int .i64 0),(.int .i64 0),(.int .u8 0),(.int .i64 0),(.int .i64 0),(.int .i64 0),(.int .i64 0),(.int .i64 0),(.int .i64 0),(.int .i64 0),(.bool false)] 11 fun H11=>
ST H11 H10.length 0 (aW.cells x22) fun H12=>
JOIN (fun(j23:(Bool×Unit)×(Unit)->Heap->Prop)=>
LD (au .u8) H12 H10.length 2 fun(x25:Int)=>
aO (x25==4) (
dX aK (dQ E 44 (.pointer (some ⟨H10.length,5,none⟩)) none none none H12) fun(x26:Sl)=>
CALL P [(au .i64)] jD [x26.v] H12 fun(x27:Int×Unit) H14=>
aO (decide (x27.1<0)) (
j23 ((true,()),(())) H14) (
dX aK (dQ E 44 (.pointer (some ⟨H10.length,5,none⟩)) none none none H14) fun(x28:Sl)=>
CALL P [(au .i64)] jE [x28.v] H14 fun(x29:Int×Unit) H15=>
j23 ((decide (x29.1>99),()),(())) H15)) (
j23 ((false,()),(())) H12)) fun(y24:(Bool×Unit)×(Unit)) H13=>
aO y24.1.1 (
Q ((Sl.mk none 0 0),2,()) H13) (
r18 ((IntKind.wrap .i64 (s19.1.1+1),()),(())) H13)) (
j16 ((()),(())) H10)) ((0,()),(())) H8) fun(y17:(Unit)×(Unit)) H9=>
Q (x2,0,()) H9))
def JL:dJ:=(.seq .leaf (.seq .leaf (.seq .leaf (.seq (.seq .leaf (.blk (some ⟨[],[],(rg 4 2 (rg 10 4 (rg 35 24 [])))⟩) (.loop ⟨[(35,(au .i64))],[],(rg 4 2 (rg 10 4 (rg 36 23 [])))⟩ (.seq .leaf (.seq .leaf (.seq (.blk none (.seq .leaf (.seq .leaf (.seq .leaf (.seq .leaf (.seq .leaf (.cond (some ⟨[],[],[54,55,56,57]⟩) .leaf .leaf))))))) .leaf)))))) (.seq .leaf (.seq (.seq .leaf (.blk (some ⟨[],[],(rg 4 2 (rg 18 1 (rg 72 20 [])))⟩) (.loop ⟨[(72,(au .i64))],[],(rg 4 2 (rg 18 1 (rg 73 19 [])))⟩ (.seq .leaf (.seq .leaf (.seq (.blk none (.seq .leaf (.seq (.reg ⟨[(90,ah)],[],(rg 76 14 [])⟩) .leaf))) .leaf)))))) .leaf))))))
theorem JM(a0:Option Addr)(a1:Sl)(H:Heap)(Q:Sl×Int×Unit->Heap->Prop):qA a0 a1 H Q=eP C [11,12] Tryz.f61.ntmps Tryz.f61.results.toList [aK,(au .i64)] (aQ Tryz.f61) JL [(.pointer a0),a1.v] H Q:=by kernel_rfl
theorem JO{a0:Option Addr}{a1:Sl}{H:Heap}{Q:Sl×Int×Unit->Heap->Prop}(h:qA a0 a1 H Q):CALL P [aK,(au .i64)] qg [(.pointer a0),a1.v] H Q:=aB hE Tryz.func61 rfl (by kernel_rfl) (JM a0 a1 H Q) h
def uf(c0:Nat×Nat)(c1:Nat×Nat)(c2:Nat×Nat)(c3:Nat×Nat)(H:Heap)(Q:Sl×Sl×Unit->Heap->Prop):Prop:=
LD (au .i64) H c0.1 c0.2 fun(x1:Int)=>
ST H c0.1 c0.2 [(.int .i64 (IntKind.wrap .i64 (x1+1)))] fun H1=>
LD aK H1 c1.1 c1.2 fun(x2:Sl)=>
LD (au .i64) H1 c0.1 c0.2 fun(x3:Int)=>
JOIN (fun(j4:(Sl×Unit)×(Unit)->Heap->Prop)=>
aO (decide (x3≤5)) (
LD dK H1 c2.1 c2.2 fun(x6:Option Addr)=>
LD aK H1 c3.1 c3.2 fun(x7:Sl)=>
LD aK H1 c1.1 c1.2 fun(x8:Sl)=>
LD (au .i64) H1 c0.1 c0.2 fun(x9:Int)=>
CALL P [aK,aK,(au .i64)] nS [(.pointer x6),x7.v,x8.v,(.int .i64 x9)] H1 fun(x10:Sl×Sl×Int×Unit) H3=>
ST H3 c1.1 c1.2 [(.slice x10.1.p x10.1.len x10.1.cap)] fun H4=>
j4 ((x10.2.1,()),(())) H4) (
LD (au .i64) H1 c0.1 c0.2 fun(x11:Int)=>
JOIN (fun(j12:(Unit)×(Unit)->Heap->Prop)=>
aO (x11==6) (
LD dK H1 c2.1 c2.2 fun(x14:Option Addr)=>
LD aK H1 c3.1 c3.2 fun(x15:Sl)=>
LD aK H1 c1.1 c1.2 fun(x16:Sl)=>
CALL P [aK] sK [(.pointer x14),x15.v,x16.v] H1 fun(x17:Sl×Unit) H6=>
ST H6 c1.1 c1.2 [(.slice x17.1.p x17.1.len x17.1.cap)] fun H7=>
j12 ((()),(())) H7) (
j12 ((()),(())) H1)) fun(y13:(Unit)×(Unit)) H5=>
j4 (((Sl.mk none 0 0),()),(())) H5)) fun(y5:(Sl×Unit)×(Unit)) H2=>
Q (x2,y5.1.1,()) H2
def MW:dJ:=(.seq .leaf (.seq .leaf (.seq .leaf (.seq .leaf (.seq (.blk none (.seq .leaf (.cond (some ⟨[(7,aK)],[],(rg 14 16 [])⟩) .leaf (.seq .leaf (.cond (some ⟨[],[],[26,27,28,29]⟩) .leaf .leaf))))) .leaf)))))
theorem MX(c0:Nat×Nat)(c1:Nat×Nat)(c2:Nat×Nat)(c3:Nat×Nat)(H:Heap)(Q:Sl×Sl×Unit->Heap->Prop):uf c0 c1 c2 c3 H Q=eP C [] Tryz.f62.ntmps Tryz.f62.results.toList [aK,aK] (aQ Tryz.f62) MW [(.pointer (some ⟨c0.1,c0.2,none⟩)),(.pointer (some ⟨c1.1,c1.2,none⟩)),(.pointer (some ⟨c2.1,c2.2,none⟩)),(.pointer (some ⟨c3.1,c3.2,none⟩))] H Q:=by kernel_rfl
theorem MZ{c0:Nat×Nat}{c1:Nat×Nat}{c2:Nat×Nat}{c3:Nat×Nat}{H:Heap}{Q:Sl×Sl×Unit->Heap->Prop}(h:uf c0 c1 c2 c3 H Q):CALL P [aK,aK] jf [(.pointer (some ⟨c0.1,c0.2,none⟩)),(.pointer (some ⟨c1.1,c1.2,none⟩)),(.pointer (some ⟨c2.1,c2.2,none⟩)),(.pointer (some ⟨c3.1,c3.2,none⟩))] H Q:=aB hE Tryz.func62 rfl (by kernel_rfl) (MX c0 c1 c2 c3 H Q) h
def yM(a0:Option Addr)(a1:Sl)(a2:Sl)(a3:Int)(H:Heap)(Q:Sl×Sl×Int×Unit->Heap->Prop):Prop:=
CALL P [aK,(au .i64)] ou [(.pointer a0),a1.v,a2.v,(.int .i64 a3)] H fun(x1:Sl×Int×Unit) H1=>
aO (x1.2.1 !=0) (
Q ((Sl.mk none 0 0),(Sl.mk none 0 0),x1.2.1,()) H1) (
CALL P [aC,(au .i64)] gY [(.pointer a0),a1.v,a2.v] H1 fun(x2:aH×Int×Unit) H2=>
CALL P [aK] bU [a2.v] H2 fun(x3:Sl×Unit) H3=>
JOIN (fun(j4:(Sl×Sl×Unit)×(Unit)->Heap->Prop)=>
LOOP (fun(r6:(Sl×Sl×Sl×Unit)×(Unit)->Heap->Prop) (s7:(Sl×Sl×Sl×Unit)×(Unit)) H5=>
aO (decide ((s7.1.1.len:Int)>0)) (
CALL P [(au .i64)] kR [(aC.enc x2.1),s7.1.2.1.v,s7.1.1.v] H5 fun(x8:Int×Unit) H6=>
dR s7.1.1.p s7.1.1.len x8.1 10 fun b9 o10=>
LD aF H6 b9 o10 fun(x11:aN)=>
CALL P [aK] fG [(aC.enc x2.1),s7.1.2.1.v,(aF.enc x11)] H6 fun(x12:Sl×Unit) H7=>
dR s7.1.1.p s7.1.1.len x8.1 10 fun b13 o14=>
LD aF H7 b13 o14 fun(x15:aN)=>
Gs aK (lenV s7.1.2.2.1.v+1) (fA E [37,37] s7.1.2.2.1.v 1 (aF.cells x15) H7) fun(x16:Sl) H8=>
CALL P [aK] dh [s7.1.1.v] H8 fun(x17:Sl×Unit) H9=>
CALL P [aK] cu [x17.1.v,(.int .i64 x8.1),(.int .i64 (IntKind.wrap .i64 (x8.1+1)))] H9 fun(x18:Sl×Unit) H10=>
r6 ((x18.1,x12.1,x16,()),(())) H10) (
j4 ((s7.1.2.1,s7.1.2.2.1,()),(())) H5)) ((x1.1,x3.1,(Sl.mk none 0 0),()),(())) H3) fun(y5:(Sl×Sl×Unit)×(Unit)) H4=>
Q (y5.1.1,y5.1.2.1,0,()) H4)
def TU:dJ:=(.seq .leaf (.seq .leaf (.seq .leaf (.seq .leaf (.seq .leaf (.seq .leaf (.seq (.blk (some ⟨[(15,aK),(16,aK)],[],(rg 11 1 (rg 17 1 (rg 38 27 [])))⟩) (.loop ⟨[(11,aK),(15,aK),(16,aK)],[],(rg 17 1 (rg 38 27 []))⟩ .leaf)) .leaf)))))))
theorem TV(a0:Option Addr)(a1:Sl)(a2:Sl)(a3:Int)(H:Heap)(Q:Sl×Sl×Int×Unit->Heap->Prop):yM a0 a1 a2 a3 H Q=eP C [13,57] Tryz.f63.ntmps Tryz.f63.results.toList [aK,aK,(au .i64)] (aQ Tryz.f63) TU [(.pointer a0),a1.v,a2.v,(.int .i64 a3)] H Q:=by kernel_rfl
theorem TW{a0:Option Addr}{a1:Sl}{a2:Sl}{a3:Int}{H:Heap}{Q:Sl×Sl×Int×Unit->Heap->Prop}(h:yM a0 a1 a2 a3 H Q):CALL P [aK,aK,(au .i64)] nS [(.pointer a0),a1.v,a2.v,(.int .i64 a3)] H Q:=aB hE Tryz.func63 rfl (by kernel_rfl) (TV a0 a1 a2 a3 H Q) h
def ug(a0:Option Addr)(a1:Sl)(a2:Sl)(H:Heap)(Q:Sl×Unit->Heap->Prop):Prop:=
GEN aK (fE E 30 (.int .i64 (a2.len:Int)) (.int .i64 (a2.len:Int)) H) fun(x1:Sl) H1=>
JOIN (fun(j2:(Unit)×(Unit)->Heap->Prop)=>
LOOP (fun(r4:(Int×Unit)×(Unit)->Heap->Prop) (s5:(Int×Unit)×(Unit)) H3=>
aO (decide (s5.1.1<(a1.len:Int))) (
dR a1.p a1.len s5.1.1 11 fun b6 o7=>
LD aW H3 b6 o7 fun(x8:bT)=>
JOIN (fun(j9:(Unit)×(Unit)->Heap->Prop)=>
aO (x8.Place==4) (
dR a2.p a2.len s5.1.1 5 fun b11 o12=>
LD aJ H3 b11 o12 fun(x13:aG)=>
CALL P [aJ,(au .i64)] jC [(.pointer a0),(aJ.enc x13),(eG.enc x8.Marks)] H3 fun(x14:aG×Int×Unit) H5=>
dR x1.p x1.len s5.1.1 5 fun b15 o16=>
ST H5 b15 o16 (aJ.cells x14.1) fun H6=>
j9 ((()),(())) H6) (
j9 ((()),(())) H3)) fun(y10:(Unit)×(Unit)) H4=>
r4 ((IntKind.wrap .i64 (s5.1.1+1),()),(())) H4) (
j2 ((()),(())) H3)) ((0,()),(())) H1) fun(y3:(Unit)×(Unit)) H2=>
Q (x1,()) H2
def Na:dJ:=(.seq .leaf (.seq .leaf (.seq (.seq .leaf (.blk (some ⟨[],[],(rg 8 2 (rg 15 23 []))⟩) (.loop ⟨[(15,(au .i64))],[],(rg 8 2 (rg 16 22 []))⟩ (.seq .leaf (.seq .leaf (.seq (.blk none (.seq .leaf (.seq .leaf (.cond (some ⟨[],[],(rg 23 14 [])⟩) .leaf .leaf)))) .leaf)))))) .leaf)))
theorem Nb(a0:Option Addr)(a1:Sl)(a2:Sl)(H:Heap)(Q:Sl×Unit->Heap->Prop):ug a0 a1 a2 H Q=eP C [9] Tryz.f64.ntmps Tryz.f64.results.toList [aK] (aQ Tryz.f64) Na [(.pointer a0),a1.v,a2.v] H Q:=by kernel_rfl
theorem Nc{a0:Option Addr}{a1:Sl}{a2:Sl}{H:Heap}{Q:Sl×Unit->Heap->Prop}(h:ug a0 a1 a2 H Q):CALL P [aK] sK [(.pointer a0),a1.v,a2.v] H Q:=aB hE Tryz.func64 rfl (by kernel_rfl) (Nb a0 a1 a2 H Q) h
def ny(a0:Option Addr)(H:Heap)(Q:Int×Unit->Heap->Prop):Prop:=
CALL P [ah] eH [(.pointer a0)] H fun(x1:Bool×Unit) H1=>
aO x1.1 (
Q (1,()) H1) (
NIL a0 fun b2 o3=>
LD ah H1 b2 (o3+1) fun(x4:Bool)=>
aO x4 (
Q (7,()) H1) (
Q (0,()) H1))
def FB:dJ:=.leaf
theorem FC(a0:Option Addr)(H:Heap)(Q:Int×Unit->Heap->Prop):ny a0 H Q=eP C [] Tryz.f65.ntmps Tryz.f65.results.toList [(au .i64)] (aQ Tryz.f65) FB [(.pointer a0)] H Q:=by kernel_rfl
theorem FD{a0:Option Addr}{H:Heap}{Q:Int×Unit->Heap->Prop}(h:ny a0 H Q):CALL P [(au .i64)] iI [(.pointer a0)] H Q:=aB hE Tryz.func65 rfl (by kernel_rfl) (FC a0 H Q) h
def wC(a0:ay)(H:Heap)(Q:Int×Unit->Heap->Prop):Prop:=
CALL P [(au .i64)] yE [(aA.enc a0)] H fun(x1:Int×Unit) H1=>
aO (x1.1 !=0) (
Q (x1.1,()) H1) (
JOIN (fun(j2:(Unit)×(Unit)->Heap->Prop)=>
LOOP (fun(r4:(Int×Unit)×(Unit)->Heap->Prop) (s5:(Int×Unit)×(Unit)) H3=>
aO (decide (s5.1.1<(a0.Parts.len:Int))) (
dR a0.Parts.p a0.Parts.len s5.1.1 8 fun b6 o7=>
LD aP H3 b6 o7 fun(x8:aV)=>
CALL P [(au .i64)] qj [(aP.enc x8)] H3 fun(x9:Int×Unit) H4=>
aO (x9.1 !=0) (
Q (x9.1,()) H4) (
JOIN (fun(j10:(Bool×Unit)×(Unit)->Heap->Prop)=>
aO (a0.Kind==2) (
aO (x8.When !=1) (
j10 ((true,()),(())) H4) (
aO (a0.Kind==3) (
j10 ((x8.When==4,()),(())) H4) (
j10 ((false,()),(())) H4))) (
aO (a0.Kind==3) (
j10 ((x8.When==4,()),(())) H4) (
j10 ((false,()),(())) H4))) fun(y11:(Bool×Unit)×(Unit)) H5=>
aO y11.1.1 (
Q (8,()) H5) (
r4 ((IntKind.wrap .i64 (s5.1.1+1),()),(())) H5))) (
j2 ((()),(())) H3)) ((0,()),(())) H1) fun(y3:(Unit)×(Unit)) H2=>
Q (0,()) H2)
def Qe:dJ:=(.seq .leaf (.seq .leaf (.seq (.seq .leaf (.blk (some ⟨[],[],(rg 2 1 (rg 5 2 (rg 15 28 [])))⟩) (.loop ⟨[(15,(au .i64))],[],(rg 2 1 (rg 5 2 (rg 16 27 [])))⟩ (.seq .leaf (.seq .leaf (.seq (.blk none (.seq .leaf (.seq .leaf (.seq (.reg ⟨[(41,ah)],[],(rg 24 17 [])⟩) .leaf)))) .leaf)))))) .leaf)))
theorem Qg(a0:ay)(H:Heap)(Q:Int×Unit->Heap->Prop):wC a0 H Q=eP C [1,5] Tryz.f66.ntmps Tryz.f66.results.toList [(au .i64)] (aQ Tryz.f66) Qe [(aA.enc a0)] H Q:=by kernel_rfl
theorem Qh{a0:ay}{H:Heap}{Q:Int×Unit->Heap->Prop}(h:wC a0 H Q):CALL P [(au .i64)] vU [(aA.enc a0)] H Q:=aB hE Tryz.func66 rfl (by kernel_rfl) (Qg a0 H Q) h
def lW(a0:Option Addr)(a1:ByteArray)(H:Heap)(Q:Int×Unit->Heap->Prop):Prop:=
NIL a0 fun b1 o2=>
LD (au .i64) H b1 (o2+2) fun(x3:Int)=>
JOIN (fun(j4:(Unit)×(Unit)->Heap->Prop)=>
LOOP (fun(r6:(Int×Unit)×(Unit)->Heap->Prop) (s7:(Int×Unit)×(Unit)) H2=>
aO (decide (s7.1.1<x3)) (
NIL a0 fun b8 o9=>
yh 64 s7.1.1 (
LD dH H2 b8 (o9+3+s7.1.1.toNat*9+0) fun(x10:ByteArray)=>
aO (x10.toList==a1.toList) (
Q (s7.1.1,()) H2) (
r6 ((IntKind.wrap .i64 (s7.1.1+1),()),(())) H2))) (
j4 ((()),(())) H2)) ((0,()),(())) H) fun(y5:(Unit)×(Unit)) H1=>
Q ((-1),()) H1
def DR:dJ:=(.seq .leaf (.seq (.seq .leaf (.blk (some ⟨[],[],(rg 4 2 (rg 10 14 []))⟩) (.loop ⟨[(10,(au .i64))],[],(rg 4 2 (rg 11 13 []))⟩ .leaf))) .leaf))
theorem DT(a0:Option Addr)(a1:ByteArray)(H:Heap)(Q:Int×Unit->Heap->Prop):lW a0 a1 H Q=eP C [] Tryz.f67.ntmps Tryz.f67.results.toList [(au .i64)] (aQ Tryz.f67) DR [(.pointer a0),(.string a1)] H Q:=by kernel_rfl
theorem DU{a0:Option Addr}{a1:ByteArray}{H:Heap}{Q:Int×Unit->Heap->Prop}(h:lW a0 a1 H Q):CALL P [(au .i64)] gX [(.pointer a0),(.string a1)] H Q:=aB hE Tryz.func67 rfl (by kernel_rfl) (DT a0 a1 H Q) h
def wE(a0:ay)(a1:ay)(H:Heap)(Q:Bool×Unit->Heap->Prop):Prop:=
aO (a0.Suit !=a1.Suit) (
Q (decide (a0.Suit<a1.Suit),()) H) (
Q (Op.bytesLess a0.Name.toList a1.Name.toList,()) H)
def Qi:dJ:=.leaf
theorem Qj(a0:ay)(a1:ay)(H:Heap)(Q:Bool×Unit->Heap->Prop):wE a0 a1 H Q=eP C [2,3] Tryz.f68.ntmps Tryz.f68.results.toList [ah] (aQ Tryz.f68) Qi [(aA.enc a0),(aA.enc a1)] H Q:=by kernel_rfl
theorem Qk{a0:ay}{a1:ay}{H:Heap}{Q:Bool×Unit->Heap->Prop}(h:wE a0 a1 H Q):CALL P [ah] vV [(aA.enc a0),(aA.enc a1)] H Q:=aB hE Tryz.func68 rfl (by kernel_rfl) (Qj a0 a1 H Q) h
def yN(a0:ay)(H:Heap)(Q:ay×Unit->Heap->Prop):Prop:=
Gs aK (lenV ((Sl.mk none 0 0)).v+(oZ a0.Parts.v).getD 0) (dS E [95,95] ((Sl.mk none 0 0)).v a0.Parts.v H) fun(x1:Sl) H1=>
Q ((ay.mk a0.Name a0.Suit a0.Kind a0.Cost a0.Power a0.Health a0.Traits a0.Token x1),()) H1
def TY:dJ:=.leaf
theorem Ua(a0:ay)(H:Heap)(Q:ay×Unit->Heap->Prop):yN a0 H Q=eP C [1,2] Tryz.f69.ntmps Tryz.f69.results.toList [aA] (aQ Tryz.f69) TY [(aA.enc a0)] H Q:=by kernel_rfl
theorem Ub{a0:ay}{H:Heap}{Q:ay×Unit->Heap->Prop}(h:yN a0 H Q):CALL P [aA] rH [(aA.enc a0)] H Q:=aB hE Tryz.func69 rfl (by kernel_rfl) (Ua a0 H Q) h
def oJ(a0:Sl)(H:Heap)(Q:Sl×Unit->Heap->Prop):Prop:=
Gs aK (lenV ((Sl.mk none 0 0)).v+(oZ a0.v).getD 0) (dS E [95,95] ((Sl.mk none 0 0)).v a0.v H) fun(x1:Sl) H1=>
Q (x1,()) H1
def G5:dJ:=.leaf
theorem G6(a0:Sl)(H:Heap)(Q:Sl×Unit->Heap->Prop):oJ a0 H Q=eP C [] Tryz.f70.ntmps Tryz.f70.results.toList [aK] (aQ Tryz.f70) G5 [a0.v] H Q:=by kernel_rfl
theorem G7{a0:Sl}{H:Heap}{Q:Sl×Unit->Heap->Prop}(h:oJ a0 H Q):CALL P [aK] xq [a0.v] H Q:=aB hE Tryz.func70 rfl (by kernel_rfl) (G6 a0 H Q) h
def lX(a0:Option Addr)(H:Heap)(Q:Bool×Unit->Heap->Prop):Prop:=
JOIN (fun(j1:(Bool×Unit)×(Unit)->Heap->Prop)=>
aO a0.isNone (
j1 ((true,()),(())) H) (
NIL a0 fun b3 o4=>
LD ah H b3 (o4+0) fun(x5:Bool)=>
j1 ((!x5,()),(())) H)) fun(y2:(Bool×Unit)×(Unit)) H1=>
Q (y2.1.1,()) H1
def DV:dJ:=(.seq .leaf (.seq (.reg ⟨[(2,ah)],[],(rg 3 9 [])⟩) .leaf))
theorem DW(a0:Option Addr)(H:Heap)(Q:Bool×Unit->Heap->Prop):lX a0 H Q=eP C [] Tryz.f71.ntmps Tryz.f71.results.toList [ah] (aQ Tryz.f71) DV [(.pointer a0)] H Q:=by kernel_rfl
theorem DX{a0:Option Addr}{H:Heap}{Q:Bool×Unit->Heap->Prop}(h:lX a0 H Q):CALL P [ah] fD [(.pointer a0)] H Q:=aB hE Tryz.func71 rfl (by kernel_rfl) (DW a0 H Q) h
def uh(a0:ay)(H:Heap)(Q:Int×Unit->Heap->Prop):Prop:=
CALL P [ah] oz [(.string a0.Name)] H fun(x1:Bool×Unit) H1=>
aO (!x1.1) (
Q (4,()) H1) (
JOIN (fun(j2:(Bool×Unit)×(Unit)->Heap->Prop)=>
CALL P [ah] fP [(.int .i64 (IntKind.wrap .i64 a0.Suit)),(.int .i64 1),(.int .i64 6)] H1 fun(x4:Bool×Unit) H3=>
aO (!x4.1) (
j2 ((true,()),(())) H3) (
CALL P [ah] fP [(.int .i64 (IntKind.wrap .i64 a0.Kind)),(.int .i64 1),(.int .i64 3)] H3 fun(x5:Bool×Unit) H4=>
j2 ((!x5.1,()),(())) H4)) fun(y3:(Bool×Unit)×(Unit)) H2=>
aO y3.1.1 (
Q (8,()) H2) (
JOIN (fun(j6:(Bool×Unit)×(Unit)->Heap->Prop)=>
CALL P [ah] fP [(.int .i64 a0.Cost),(.int .i64 0),(.int .i64 10)] H2 fun(x8:Bool×Unit) H6=>
aO (!x8.1) (
j6 ((true,()),(())) H6) (
CALL P [ah] fP [(.int .i64 a0.Power),(.int .i64 0),(.int .i64 99)] H6 fun(x9:Bool×Unit) H7=>
aO (!x9.1) (
j6 ((true,()),(())) H7) (
CALL P [ah] fP [(.int .i64 a0.Health),(.int .i64 0),(.int .i64 99)] H7 fun(x10:Bool×Unit) H8=>
j6 ((!x10.1,()),(())) H8))) fun(y7:(Bool×Unit)×(Unit)) H5=>
aO y7.1.1 (
Q (2,()) H5) (
JOIN (fun(j11:(Bool×Unit)×(Unit)->Heap->Prop)=>
aO (a0.Kind==1) (
aO (a0.Health==0) (
j11 ((true,()),(())) H5) (
aO (!(a0.Kind==1)) (
aO (a0.Power !=0) (
j11 ((true,()),(())) H5) (
j11 ((a0.Health !=0,()),(())) H5)) (
j11 ((false,()),(())) H5))) (
aO (!(a0.Kind==1)) (
aO (a0.Power !=0) (
j11 ((true,()),(())) H5) (
j11 ((a0.Health !=0,()),(())) H5)) (
j11 ((false,()),(())) H5))) fun(y12:(Bool×Unit)×(Unit)) H9=>
aO y12.1.1 (
Q (8,()) H9) (
JOIN (fun(j13:(Bool×Unit)×(Unit)->Heap->Prop)=>
CALL P [ah] sQ [(.int .u16 a0.Traits)] H9 fun(x15:Bool×Unit) H11=>
aO (!x15.1) (
j13 ((true,()),(())) H11) (
aO (a0.Kind==2) (
j13 ((a0.Token,()),(())) H11) (
j13 ((false,()),(())) H11))) fun(y14:(Bool×Unit)×(Unit)) H10=>
aO y14.1.1 (
Q (8,()) H10) (
aO (decide ((a0.Parts.len:Int)>4)) (
Q (3,()) H10) (
JOIN (fun(j16:(Unit)×(Unit)->Heap->Prop)=>
LOOP (fun(r18:(Int×Unit)×(Unit)->Heap->Prop) (s19:(Int×Unit)×(Unit)) H13=>
aO (decide (s19.1.1<(a0.Parts.len:Int))) (
dR a0.Parts.p a0.Parts.len s19.1.1 8 fun b20 o21=>
LD aP H13 b20 o21 fun(x22:aV)=>
CALL P [(au .i64)] sS [(aP.enc x22)] H13 fun(x23:Int×Unit) H14=>
aO (x23.1 !=0) (
Q (x23.1,()) H14) (
JOIN (fun(j24:(Bool×Unit)×(Unit)->Heap->Prop)=>
aO (a0.Kind==2) (
dR a0.Parts.p a0.Parts.len s19.1.1 8 fun b26 o27=>
LD (au .u8) H14 b26 (o27+0) fun(x28:Int)=>
aO (x28 !=1) (
j24 ((true,()),(())) H14) (
aO (a0.Kind==3) (
dR a0.Parts.p a0.Parts.len s19.1.1 8 fun b29 o30=>
LD (au .u8) H14 b29 (o30+0) fun(x31:Int)=>
j24 ((x31==4,()),(())) H14) (
j24 ((false,()),(())) H14))) (
aO (a0.Kind==3) (
dR a0.Parts.p a0.Parts.len s19.1.1 8 fun b32 o33=>
LD (au .u8) H14 b32 (o33+0) fun(x34:Int)=>
j24 ((x34==4,()),(())) H14) (
j24 ((false,()),(())) H14))) fun(y25:(Bool×Unit)×(Unit)) H15=>
aO y25.1.1 (
Q (8,()) H15) (
r18 ((IntKind.wrap .i64 (s19.1.1+1),()),(())) H15))) (
j16 ((()),(())) H13)) ((0,()),(())) H10) fun(y17:(Unit)×(Unit)) H12=>
Q (0,()) H12))))))
def Nh:dJ:=(.seq .leaf (.seq .leaf (.seq (.blk none (.seq .leaf (.cond none .leaf (.seq (.reg ⟨[(14,ah)],[],(rg 15 12 [])⟩) (.cond none .leaf (.seq (.reg ⟨[(27,ah)],[],(rg 28 16 [])⟩) (.cond none .leaf (.seq (.reg ⟨[(44,ah)],[],(rg 45 20 [])⟩) (.cond none .leaf (.seq (.reg ⟨[(65,ah)],[],(rg 66 13 [])⟩) .leaf)))))))))) (.seq (.seq .leaf (.blk (some ⟨[],[],(rg 2 1 (rg 4 2 (rg 84 42 [])))⟩) (.loop ⟨[(4,(au .i64))],[],(rg 2 1 (rg 5 1 (rg 84 42 [])))⟩ (.seq .leaf (.seq (.blk none (.seq .leaf (.seq .leaf (.seq (.reg ⟨[(125,ah)],[],(rg 100 25 [])⟩) .leaf)))) .leaf))))) .leaf))))
theorem Nj(a0:ay)(H:Heap)(Q:Int×Unit->Heap->Prop):uh a0 H Q=eP C [1] Tryz.f72.ntmps Tryz.f72.results.toList [(au .i64)] (aQ Tryz.f72) Nh [(aA.enc a0)] H Q:=by kernel_rfl
theorem Nk{a0:ay}{H:Heap}{Q:Int×Unit->Heap->Prop}(h:uh a0 H Q):CALL P [(au .i64)] sN [(aA.enc a0)] H Q:=aB hE Tryz.func72 rfl (by kernel_rfl) (Nj a0 H Q) h
def kU(a0:Option Addr)(a1:ByteArray)(H:Heap)(Q:Int×Unit->Heap->Prop):Prop:=
JOIN (fun(j1:(Unit)×(Unit)->Heap->Prop)=>
LOOP (fun(r3:(Int×Unit)×(Unit)->Heap->Prop) (s4:(Int×Unit)×(Unit)) H2=>
NIL a0 fun b5 o6=>
LD aK H2 b5 (o6+2) fun(x7:Sl)=>
aO (decide (s4.1.1<(x7.len:Int))) (
NIL a0 fun b8 o9=>
LD aK H2 b8 (o9+2) fun(x10:Sl)=>
dR x10.p x10.len s4.1.1 9 fun b11 o12=>
LD dH H2 b11 (o12+0) fun(x13:ByteArray)=>
aO (x13.toList==a1.toList) (
Q (s4.1.1,()) H2) (
r3 ((IntKind.wrap .i64 (s4.1.1+1),()),(())) H2)) (
j1 ((()),(())) H2)) ((0,()),(())) H) fun(y2:(Unit)×(Unit)) H1=>
Q ((-1),()) H1
def BL:dJ:=(.seq .leaf (.seq (.seq .leaf (.blk (some ⟨[],[],(rg 4 22 [])⟩) (.loop ⟨[(5,(au .i64))],[],(rg 4 1 (rg 6 20 []))⟩ .leaf))) .leaf))
theorem BM(a0:Option Addr)(a1:ByteArray)(H:Heap)(Q:Int×Unit->Heap->Prop):kU a0 a1 H Q=eP C [] Tryz.f73.ntmps Tryz.f73.results.toList [(au .i64)] (aQ Tryz.f73) BL [(.pointer a0),(.string a1)] H Q:=by kernel_rfl
theorem BN{a0:Option Addr}{a1:ByteArray}{H:Heap}{Q:Int×Unit->Heap->Prop}(h:kU a0 a1 H Q):CALL P [(au .i64)] iM [(.pointer a0),(.string a1)] H Q:=aB hE Tryz.func73 rfl (by kernel_rfl) (BM a0 a1 H Q) h
def uj(a0:ay)(a1:ay)(H:Heap)(Q:Bool×Unit->Heap->Prop):Prop:=
JOIN (fun(j1:(Bool×Unit)×(Unit)->Heap->Prop)=>
aO (decide (a0.Suit<a1.Suit)) (
j1 ((true,()),(())) H) (
aO (a0.Suit==a1.Suit) (
j1 ((Op.bytesLess a0.Name.toList a1.Name.toList,()),(())) H) (
j1 ((false,()),(())) H))) fun(y2:(Bool×Unit)×(Unit)) H1=>
Q (y2.1.1,()) H1
def Nl:dJ:=(.seq .leaf (.seq (.reg ⟨[(4,ah)],[],(rg 5 19 [])⟩) .leaf))
theorem Np(a0:ay)(a1:ay)(H:Heap)(Q:Bool×Unit->Heap->Prop):uj a0 a1 H Q=eP C [2,3] Tryz.f74.ntmps Tryz.f74.results.toList [ah] (aQ Tryz.f74) Nl [(aA.enc a0),(aA.enc a1)] H Q:=by kernel_rfl
theorem Nq{a0:ay}{a1:ay}{H:Heap}{Q:Bool×Unit->Heap->Prop}(h:uj a0 a1 H Q):CALL P [ah] sO [(aA.enc a0),(aA.enc a1)] H Q:=aB hE Tryz.func74 rfl (by kernel_rfl) (Np a0 a1 H Q) h
def wF(a0:ay)(H:Heap)(Q:ay×Unit->Heap->Prop):Prop:=
Gs aK (lenV ((Sl.mk none 0 0)).v+(oZ a0.Parts.v).getD 0) (dS E [95,95] ((Sl.mk none 0 0)).v a0.Parts.v H) fun(x1:Sl) H1=>
Q ((ay.mk a0.Name a0.Suit a0.Kind a0.Cost a0.Power a0.Health a0.Traits a0.Token x1),()) H1
def Ql:dJ:=.leaf
theorem Qm(a0:ay)(H:Heap)(Q:ay×Unit->Heap->Prop):wF a0 H Q=eP C [1,2] Tryz.f75.ntmps Tryz.f75.results.toList [aA] (aQ Tryz.f75) Ql [(aA.enc a0)] H Q:=by kernel_rfl
theorem Qn{a0:ay}{H:Heap}{Q:ay×Unit->Heap->Prop}(h:wF a0 H Q):CALL P [aA] lJ [(aA.enc a0)] H Q:=aB hE Tryz.func75 rfl (by kernel_rfl) (Qm a0 H Q) h
def um(a0:Int)(H:Heap)(Q:Bool×Unit->Heap->Prop):Prop:=
JOIN (fun(j1:(Bool×Unit)×(Unit)->Heap->Prop)=>
aO (decide (a0≥(-9))) (
j1 ((decide (a0≤9),()),(())) H) (
j1 ((false,()),(())) H)) fun(y2:(Bool×Unit)×(Unit)) H1=>
Q (y2.1.1,()) H1
def Nr:dJ:=(.seq .leaf (.seq (.reg ⟨[(2,ah)],[],(rg 3 6 [])⟩) .leaf))
theorem Ns(a0:Int)(H:Heap)(Q:Bool×Unit->Heap->Prop):um a0 H Q=eP C [] Tryz.f76.ntmps Tryz.f76.results.toList [ah] (aQ Tryz.f76) Nr [(.int .i64 a0)] H Q:=by kernel_rfl
theorem Nu{a0:Int}{H:Heap}{Q:Bool×Unit->Heap->Prop}(h:um a0 H Q):CALL P [ah] nN [(.int .i64 a0)] H Q:=aB hE Tryz.func76 rfl (by kernel_rfl) (Ns a0 H Q) h
def yO(a0:ByteArray)(H:Heap)(Q:Bool×Unit->Heap->Prop):Prop:=
JOIN (fun(j1:(Bool×Unit)×(Unit)->Heap->Prop)=>
dX (au .i64) (oW E 9 (.string a0) H) fun(x3:Int)=>
aO (x3==0) (
j1 ((true,()),(())) H) (
dX (au .i64) (oW E 9 (.string a0) H) fun(x4:Int)=>
aO (decide (x4>20)) (
j1 ((true,()),(())) H) (
dX (au .u8) (dF E 9 (.string a0) (.int .i64 0)) fun(x5:Int)=>
j1 ((x5==45,()),(())) H))) fun(y2:(Bool×Unit)×(Unit)) H1=>
aO y2.1.1 (
Q (false,()) H1) (
aeu (AP E 9 (.string a0) H1) fun(x6:Value) H2=>
JOIN (fun(j7:(Unit)×(Unit)->Heap->Prop)=>
LOOP (fun(r9:(Unit)×(Unit)->Heap->Prop) (s10:(Unit)×(Unit)) H4=>
NXT (xW x6 H4) (fun(i11:Int) (r12:Int) H5=>
JOIN (fun(j13:(Bool×Unit)×(Unit)->Heap->Prop)=>
aO (r12 !=45) (
aO (decide (r12<97)) (
j13 ((true,()),(())) H5) (
j13 ((decide (r12>122),()),(())) H5)) (
j13 ((false,()),(())) H5)) fun(y14:(Bool×Unit)×(Unit)) H7=>
aO y14.1.1 (
Q (false,()) H7) (
r9 ((()),(())) H7)) (fun H6=>
j7 ((()),(())) H6)) ((()),(())) H2) fun(y8:(Unit)×(Unit)) H3=>
Q (true,()) H3)
def Uc:dJ:=(.seq .leaf (.seq (.seq (.reg ⟨[(17,ah)],[],(rg 5 12 [])⟩) .leaf) (.seq (.seq .leaf (.blk (some ⟨[],[],(rg 2 1 (rg 4 1 (rg 20 13 [])))⟩) (.loop ⟨[],[],(rg 2 1 (rg 4 1 (rg 20 13 [])))⟩ (.seq .leaf (.seq .leaf (.blk none (.seq .leaf (.seq (.reg ⟨[(32,ah)],[],(rg 23 9 [])⟩) .leaf)))))))) .leaf)))
theorem Ud(a0:ByteArray)(H:Heap)(Q:Bool×Unit->Heap->Prop):yO a0 H Q=eP C [] Tryz.f77.ntmps Tryz.f77.results.toList [ah] (aQ Tryz.f77) Uc [(.string a0)] H Q:=by kernel_rfl
theorem Ue{a0:ByteArray}{H:Heap}{Q:Bool×Unit->Heap->Prop}(h:yO a0 H Q):CALL P [ah] yD [(.string a0)] H Q:=aB hE Tryz.func77 rfl (by kernel_rfl) (Ud a0 H Q) h
def wG(a0:ByteArray)(H:Heap)(Q:Bool×Unit->Heap->Prop):Prop:=
JOIN (fun(j1:(Bool×Unit)×(Unit)->Heap->Prop)=>
dX (au .i64) (oW E 9 (.string a0) H) fun(x3:Int)=>
aO (decide (x3<1)) (
j1 ((true,()),(())) H) (
dX (au .i64) (oW E 9 (.string a0) H) fun(x4:Int)=>
aO (decide (x4>20)) (
j1 ((true,()),(())) H) (
dX (au .u8) (dF E 9 (.string a0) (.int .i64 0)) fun(x5:Int)=>
aO (decide (x5<97)) (
j1 ((true,()),(())) H) (
dX (au .u8) (dF E 9 (.string a0) (.int .i64 0)) fun(x6:Int)=>
j1 ((decide (x6>122),()),(())) H)))) fun(y2:(Bool×Unit)×(Unit)) H1=>
aO y2.1.1 (
Q (false,()) H1) (
JOIN (fun(j7:(Unit)×(Unit)->Heap->Prop)=>
LOOP (fun(r9:(Int×Unit)×(Unit)->Heap->Prop) (s10:(Int×Unit)×(Unit)) H3=>
dX (au .i64) (oW E 9 (.string a0) H3) fun(x11:Int)=>
aO (decide (s10.1.1<x11)) (
JOIN (fun(j12:(Bool×Unit)×(Unit)->Heap->Prop)=>
dX (au .u8) (dF E 9 (.string a0) (.int .i64 s10.1.1)) fun(x14:Int)=>
aO (decide (x14<97)) (
dX (au .u8) (dF E 9 (.string a0) (.int .i64 s10.1.1)) fun(x15:Int)=>
j12 ((x15 !=45,()),(())) H3) (
dX (au .u8) (dF E 9 (.string a0) (.int .i64 s10.1.1)) fun(x16:Int)=>
aO (decide (x16>122)) (
dX (au .u8) (dF E 9 (.string a0) (.int .i64 s10.1.1)) fun(x17:Int)=>
j12 ((x17 !=45,()),(())) H3) (
j12 ((false,()),(())) H3))) fun(y13:(Bool×Unit)×(Unit)) H4=>
aO y13.1.1 (
Q (false,()) H4) (
r9 ((IntKind.wrap .i64 (s10.1.1+1),()),(())) H4)) (
j7 ((()),(())) H3)) ((0,()),(())) H1) fun(y8:(Unit)×(Unit)) H2=>
Q (true,()) H2)
def Qo:dJ:=(.seq .leaf (.seq (.seq (.reg ⟨[(21,ah)],[],(rg 4 17 [])⟩) .leaf) (.seq (.seq .leaf (.blk (some ⟨[],[],(rg 2 2 (rg 22 22 []))⟩) (.loop ⟨[(3,(au .i64))],[],(rg 2 1 (rg 22 22 []))⟩ (.seq .leaf (.seq (.blk none (.seq (.reg ⟨[(43,ah)],[],(rg 28 15 [])⟩) .leaf)) .leaf))))) .leaf)))
theorem Qp(a0:ByteArray)(H:Heap)(Q:Bool×Unit->Heap->Prop):wG a0 H Q=eP C [] Tryz.f78.ntmps Tryz.f78.results.toList [ah] (aQ Tryz.f78) Qo [(.string a0)] H Q:=by kernel_rfl
theorem Qq{a0:ByteArray}{H:Heap}{Q:Bool×Unit->Heap->Prop}(h:wG a0 H Q):CALL P [ah] vW [(.string a0)] H Q:=aB hE Tryz.func78 rfl (by kernel_rfl) (Qp a0 H Q) h
def nC(a0:Option Addr)(H:Heap)(Q:Bool×Unit->Heap->Prop):Prop:=
JOIN (fun(j1:(Bool×Unit)×(Unit)->Heap->Prop)=>
aO a0.isNone (
j1 ((true,()),(())) H) (
NIL a0 fun b3 o4=>
LD ah H b3 (o4+0) fun(x5:Bool)=>
j1 ((!x5,()),(())) H)) fun(y2:(Bool×Unit)×(Unit)) H1=>
Q (y2.1.1,()) H1
def FH:dJ:=(.seq .leaf (.seq (.reg ⟨[(2,ah)],[],(rg 3 9 [])⟩) .leaf))
theorem FI(a0:Option Addr)(H:Heap)(Q:Bool×Unit->Heap->Prop):nC a0 H Q=eP C [] Tryz.f79.ntmps Tryz.f79.results.toList [ah] (aQ Tryz.f79) FH [(.pointer a0)] H Q:=by kernel_rfl
theorem FM{a0:Option Addr}{H:Heap}{Q:Bool×Unit->Heap->Prop}(h:nC a0 H Q):CALL P [ah] eH [(.pointer a0)] H Q:=aB hE Tryz.func79 rfl (by kernel_rfl) (FI a0 H Q) h
def uo(a0:Option Addr)(a1:Sl)(a2:Sl)(H:Heap)(Q:aH×Int×Unit->Heap->Prop):Prop:=
NEW H [(.slice a1.p a1.len a1.cap)] 1 fun H1=>
LD aK H1 H.length 0 fun(x1:Sl)=>
LD aK H1 H.length 0 fun(x2:Sl)=>
GEN aK (fE E 22 (.int .i64 (x2.len:Int)) (.int .i64 (x2.len:Int)) H1) fun(x3:Sl) H2=>
LD aK H2 H.length 0 fun(x4:Sl)=>
xB (aK.enc x4=x1.v) (
CALL P [(au .i64),(au .i64)] jR [(.pointer a0),(.string (ByteArray.mk #[]))] H2 fun(x5:Int×Int×Unit) H3=>
aO (x5.2.1==1) (
Q ((aH.mk a0 x1 x3 (Sl.mk none 0 0)),x5.2.1,()) H3) (
LD aK H3 H.length 0 fun(x6:Sl)=>
aO (decide ((x6.len:Int)>2048)) (
Q ((aH.mk a0 x1 x3 (Sl.mk none 0 0)),3,()) H3) (
JOIN (fun(j7:(Bool×Unit)×(Unit)->Heap->Prop)=>
CALL P [ah] iL [(.pointer a0)] H3 fun(x9:Bool×Unit) H5=>
aO (!x9.1) (
j7 ((true,()),(())) H5) (
LD aK H5 H.length 0 fun(x10:Sl)=>
j7 (((a2.len:Int) !=(x10.len:Int),()),(())) H5)) fun(y8:(Bool×Unit)×(Unit)) H4=>
aO y8.1.1 (
Q ((aH.mk a0 x1 x3 (Sl.mk none 0 0)),2,()) H4) (
LD aK H4 H.length 0 fun(x11:Sl)=>
JOIN (fun(j12:(Unit)×(aH×aH×Unit)->Heap->Prop)=>
LOOP (fun(r14:(Int×Unit)×(aH×aH×Unit)->Heap->Prop) (s15:(Int×Unit)×(aH×aH×Unit)) H7=>
aO (decide (s15.1.1<(x11.len:Int))) (
JOIN (fun(j16:(Unit)×(aH×aH×Unit)->Heap->Prop)=>
dR x11.p x11.len s15.1.1 11 fun b18 o19=>
LD aW H7 b18 o19 fun(x20:bT)=>
CALL P [aA,(au .i64)] pz [(.pointer a0),(aW.enc x20)] H7 fun(x21:ay×Int×Unit) H9=>
JOIN (fun(j22:(Bool×Unit)×(Unit)->Heap->Prop)=>
aO (x21.2.1 !=0) (
j22 ((true,()),(())) H9) (
aO (x20.Owner !=0) (
aO (x20.Owner !=1) (
j22 ((true,()),(())) H9) (
aO (decide (x20.Place<1)) (
j22 ((true,()),(())) H9) (
j22 ((decide (x20.Place>5),()),(())) H9))) (
aO (decide (x20.Place<1)) (
j22 ((true,()),(())) H9) (
j22 ((decide (x20.Place>5),()),(())) H9)))) fun(y23:(Bool×Unit)×(Unit)) H10=>
aO y23.1.1 (
Q (s15.2.2.1,2,()) H10) (
aO (x20.Place !=4) (
j16 ((()),(s15.2.1,s15.2.2.1,())) H10) (
JOIN (fun(j24:(Bool×Unit)×(Unit)->Heap->Prop)=>
aO (x21.1.Kind==2) (
j24 ((true,()),(())) H10) (
aO (decide (x20.Stamp<1)) (
j24 ((true,()),(())) H10) (
dR a2.p a2.len s15.1.1 5 fun b26 o27=>
LD (au .i64) H10 b26 (o27+0) fun(x28:Int)=>
aO (x28 !=0) (
dR a2.p a2.len s15.1.1 5 fun b29 o30=>
LD (au .i64) H10 b29 (o30+0) fun(x31:Int)=>
aO (x31 !=1) (
j24 ((true,()),(())) H10) (
dR a2.p a2.len s15.1.1 5 fun b32 o33=>
LD (au .u16) H10 b32 (o33+2) fun(x34:Int)=>
CALL P [ah] kH [(.int .u16 x34)] H10 fun(x35:Bool×Unit) H12=>
j24 ((!x35.1,()),(())) H12)) (
dR a2.p a2.len s15.1.1 5 fun b36 o37=>
LD (au .u16) H10 b36 (o37+2) fun(x38:Int)=>
CALL P [ah] kH [(.int .u16 x38)] H10 fun(x39:Bool×Unit) H13=>
j24 ((!x39.1,()),(())) H13)))) fun(y25:(Bool×Unit)×(Unit)) H11=>
aO y25.1.1 (
Q (s15.2.2.1,2,()) H11) (
dR s15.2.2.1.cards.p s15.2.2.1.cards.len s15.1.1 9 fun b40 o41=>
ST H11 b40 o41 (aA.cells x21.1) fun H14=>
Gs aK (lenV s15.2.2.1.order.v+1) (fA E [27,27] s15.2.2.1.order.v 1 [(.int .i64 s15.1.1)] H14) fun(x42:Sl) H15=>
aO (decide ((x42.len:Int)>16)) (
Q ((aH.mk s15.2.2.1.b s15.2.2.1.things s15.2.2.1.cards x42),2,()) H15) (
j16 ((()),(s15.2.1,(aH.mk s15.2.2.1.b s15.2.2.1.things s15.2.2.1.cards x42),())) H15))))) fun(y17:(Unit)×(aH×aH×Unit)) H8=>
r14 ((IntKind.wrap .i64 (s15.1.1+1),()),(y17.2.1,y17.2.2.1,())) H8) (
j12 ((()),(s15.2.1,s15.2.2.1,())) H7)) ((0,()),((aH.mk none (Sl.mk none 0 0) (Sl.mk none 0 0) (Sl.mk none 0 0)),(aH.mk a0 x1 x3 (Sl.mk none 0 0)),())) H4) fun(y13:(Unit)×(aH×aH×Unit)) H6=>
CALL P [] gq [y13.2.2.1.order.v,(.func (.func dW) #[] #[(.pointer (some ⟨H.length,0,none⟩))])] H6 fun(x43:Unit) H16=>
JOIN (fun(j44:(Unit)×(aH×Unit)->Heap->Prop)=>
LOOP (fun(r46:(Int×Unit)×(aH×Unit)->Heap->Prop) (s47:(Int×Unit)×(aH×Unit)) H18=>
aO (decide (s47.1.1<(y13.2.2.1.order.len:Int))) (
LD aK H18 H.length 0 fun(x48:Sl)=>
dR y13.2.2.1.order.p y13.2.2.1.order.len (IntKind.wrap .i64 (s47.1.1-1)) 1 fun b49 o50=>
LD (au .i64) H18 b49 o50 fun(x51:Int)=>
dR x48.p x48.len x51 11 fun b52 o53=>
LD (au .i64) H18 b52 (o53+3) fun(x54:Int)=>
LD aK H18 H.length 0 fun(x55:Sl)=>
dR y13.2.2.1.order.p y13.2.2.1.order.len s47.1.1 1 fun b56 o57=>
LD (au .i64) H18 b56 o57 fun(x58:Int)=>
dR x55.p x55.len x58 11 fun b59 o60=>
LD (au .i64) H18 b59 (o60+3) fun(x61:Int)=>
aO (x54==x61) (
Q (y13.2.2.1,2,()) H18) (
r46 ((IntKind.wrap .i64 (s47.1.1+1),()),(s47.2.1,())) H18)) (
j44 ((()),(s47.2.1,())) H18)) ((1,()),(y13.2.1,())) H16) fun(y45:(Unit)×(aH×Unit)) H17=>
Q (y13.2.2.1,0,()) H17))))
def Nv:dJ:=(.seq .leaf (.seq .leaf (.seq (.seq .leaf (.blk none (.seq .leaf (.cond none .leaf (.seq .leaf (.cond none .leaf (.seq (.reg ⟨[(37,ah)],[],(rg 38 10 [])⟩) .leaf))))))) (.seq (.seq .leaf (.blk (some ⟨[],[(0,aC),(1,aC)],(rg 7 1 (rg 11 4 (rg 51 88 [])))⟩) (.loop ⟨[(51,(au .i64))],[(0,aC),(1,aC)],(rg 7 1 (rg 11 4 (rg 52 87 [])))⟩ (.seq .leaf (.seq .leaf (.seq (.blk (some ⟨[],[(0,aC),(1,aC)],(rg 7 1 (rg 11 4 (rg 53 85 [])))⟩) (.seq .leaf (.seq .leaf (.seq (.seq (.reg ⟨[(83,ah)],[],(rg 62 21 [])⟩) .leaf) (.seq .leaf (.seq (.seq (.reg ⟨[(120,ah)],[],(rg 88 32 [])⟩) .leaf) .leaf)))))) .leaf)))))) (.seq .leaf (.seq (.seq .leaf (.blk (some ⟨[],[(0,aC)],(rg 7 1 (rg 15 1 (rg 143 28 [])))⟩) (.loop ⟨[(15,(au .i64))],[(0,aC)],(rg 7 1 (rg 143 28 []))⟩ .leaf))) .leaf))))))
theorem Nw(a0:Option Addr)(a1:Sl)(a2:Sl)(H:Heap)(Q:aH×Int×Unit->Heap->Prop):uo a0 a1 a2 H Q=eP C [6,8,12,13,130] Tryz.f80.ntmps Tryz.f80.results.toList [aC,(au .i64)] (aQ Tryz.f80) Nv [(.pointer a0),a1.v,a2.v] H Q:=by kernel_rfl
theorem Ny{a0:Option Addr}{a1:Sl}{a2:Sl}{H:Heap}{Q:aH×Int×Unit->Heap->Prop}(h:uo a0 a1 a2 H Q):CALL P [aC,(au .i64)] gY [(.pointer a0),a1.v,a2.v] H Q:=aB hE Tryz.func80 rfl (by kernel_rfl) (Nw a0 a1 a2 H Q) h
def lY(a0:aH)(a1:aN)(H:Heap)(Q:Bool×Unit->Heap->Prop):Prop:=
JOIN (fun(j1:(Bool×Unit)×(Unit)->Heap->Prop)=>
aO (decide (a1.Thing<1)) (
j1 ((true,()),(())) H) (
aO (decide (a1.Thing>(a0.things.len:Int))) (
j1 ((true,()),(())) H) (
dR a0.things.p a0.things.len (IntKind.wrap .i64 (a1.Thing-1)) 11 fun b3 o4=>
LD (au .u8) H b3 (o4+2) fun(x5:Int)=>
j1 ((x5 !=4,()),(())) H))) fun(y2:(Bool×Unit)×(Unit)) H1=>
aO y2.1.1 (
Q (false,()) H1) (
dR a0.cards.p a0.cards.len (IntKind.wrap .i64 (a1.Thing-1)) 9 fun b6 o7=>
LD aK H1 b6 (o7+8) fun(x8:Sl)=>
JOIN (fun(j9:(Bool×Unit)×(Unit)->Heap->Prop)=>
aO (decide (a1.Place≥0)) (
aO (decide (a1.Place<(x8.len:Int))) (
dR x8.p x8.len a1.Place 8 fun b11 o12=>
LD (au .u8) H1 b11 (o12+0) fun(x13:Int)=>
aO (x13==5) (
dR x8.p x8.len a1.Place 8 fun b14 o15=>
LD aP H1 b14 o15 fun(x16:aV)=>
CALL P [ah] sV [(aP.enc x16),(aP.enc a1.What)] H1 fun(x17:Bool×Unit) H3=>
j9 ((x17.1,()),(())) H3) (
j9 ((false,()),(())) H1)) (
j9 ((false,()),(())) H1)) (
j9 ((false,()),(())) H1)) fun(y10:(Bool×Unit)×(Unit)) H2=>
Q (y10.1.1,()) H2)
def DY:dJ:=(.seq .leaf (.seq (.seq (.reg ⟨[(27,ah)],[],(rg 6 21 [])⟩) .leaf) (.seq .leaf (.seq (.reg ⟨[(4,ah)],[],(rg 36 29 [])⟩) .leaf))))
theorem DZ(a0:aH)(a1:aN)(H:Heap)(Q:Bool×Unit->Heap->Prop):lY a0 a1 H Q=eP C [2,3] Tryz.f81.ntmps Tryz.f81.results.toList [ah] (aQ Tryz.f81) DY [(aC.enc a0),(aF.enc a1)] H Q:=by kernel_rfl
theorem D5{a0:aH}{a1:aN}{H:Heap}{Q:Bool×Unit->Heap->Prop}(h:lY a0 a1 H Q):CALL P [ah] jv [(aC.enc a0),(aF.enc a1)] H Q:=aB hE Tryz.func81 rfl (by kernel_rfl) (DZ a0 a1 H Q) h
def jZ(a0:aH)(a1:Sl)(a2:aN)(H:Heap)(Q:Sl×Unit->Heap->Prop):Prop:=
JOIN (fun(j1:(Sl×Unit)×(Unit)->Heap->Prop)=>
LOOP (fun(r3:(Sl×Int×Unit)×(Unit)->Heap->Prop) (s4:(Sl×Int×Unit)×(Unit)) H2=>
aO (decide (s4.1.2.1<(a0.order.len:Int))) (
dR a0.order.p a0.order.len s4.1.2.1 1 fun b5 o6=>
LD (au .i64) H2 b5 o6 fun(x7:Int)=>
CALL P [ah] jV [(aC.enc a0),a1.v,(aF.enc a2),(.int .i64 x7)] H2 fun(x8:Bool×Unit) H3=>
JOIN (fun(j9:(Sl×Unit)×(Unit)->Heap->Prop)=>
aO x8.1 (
Gs aK (lenV s4.1.1.v+1) (fA E [27,27] s4.1.1.v 1 [(.int .i64 (IntKind.wrap .i64 (x7+1)))] H3) fun(x11:Sl) H5=>
j9 ((x11,()),(())) H5) (
j9 ((s4.1.1,()),(())) H3)) fun(y10:(Sl×Unit)×(Unit)) H4=>
r3 ((y10.1.1,IntKind.wrap .i64 (s4.1.2.1+1),()),(())) H4) (
j1 ((s4.1.1,()),(())) H2)) (((Sl.mk none 0 0),0,()),(())) H) fun(y2:(Sl×Unit)×(Unit)) H1=>
Q (y2.1.1,()) H1
def zU:dJ:=(.seq .leaf (.seq .leaf (.seq (.seq .leaf (.blk (some ⟨[(7,aK)],[],(rg 9 1 (rg 13 15 []))⟩) (.loop ⟨[(7,aK),(13,(au .i64))],[],(rg 9 1 (rg 14 14 []))⟩ (.seq .leaf (.seq .leaf (.seq (.blk none (.seq .leaf (.seq .leaf (.cond (some ⟨[(7,aK)],[],(rg 22 5 [])⟩) .leaf .leaf)))) .leaf)))))) .leaf)))
theorem zV(a0:aH)(a1:Sl)(a2:aN)(H:Heap)(Q:Sl×Unit->Heap->Prop):jZ a0 a1 a2 H Q=eP C [3,5,25] Tryz.f82.ntmps Tryz.f82.results.toList [aK] (aQ Tryz.f82) zU [(aC.enc a0),a1.v,(aF.enc a2)] H Q:=by kernel_rfl
theorem zW{a0:aH}{a1:Sl}{a2:aN}{H:Heap}{Q:Sl×Unit->Heap->Prop}(h:jZ a0 a1 a2 H Q):CALL P [aK] dU [(aC.enc a0),a1.v,(aF.enc a2)] H Q:=aB hE Tryz.func82 rfl (by kernel_rfl) (zV a0 a1 a2 H Q) h
def iP(a0:Sl)(a1:Int)(H:Heap)(Q:Int×Unit->Heap->Prop):Prop:=
JOIN (fun(j1:(Unit)×(Unit)->Heap->Prop)=>
LOOP (fun(r3:(Int×Unit)×(Unit)->Heap->Prop) (s4:(Int×Unit)×(Unit)) H2=>
aO (decide (s4.1.1<(a0.len:Int))) (
dR a0.p a0.len s4.1.1 1 fun b5 o6=>
LD (au .i64) H2 b5 o6 fun(x7:Int)=>
aO (a1==x7) (
Q (s4.1.1,()) H2) (
r3 ((IntKind.wrap .i64 (s4.1.1+1),()),(())) H2)) (
j1 ((()),(())) H2)) ((0,()),(())) H) fun(y2:(Unit)×(Unit)) H1=>
Q ((-1),()) H1
def wH:dJ:=(.seq .leaf (.seq (.seq .leaf (.blk (some ⟨[],[],(rg 4 2 (rg 8 11 []))⟩) (.loop ⟨[(8,(au .i64))],[],(rg 4 2 (rg 9 10 []))⟩ .leaf))) .leaf))
theorem wI(a0:Sl)(a1:Int)(H:Heap)(Q:Int×Unit->Heap->Prop):iP a0 a1 H Q=eP C [] Tryz.f83.ntmps Tryz.f83.results.toList [(au .i64)] (aQ Tryz.f83) wH [a0.v,(.int .i64 a1)] H Q:=by kernel_rfl
theorem wJ{a0:Sl}{a1:Int}{H:Heap}{Q:Int×Unit->Heap->Prop}(h:iP a0 a1 H Q):CALL P [(au .i64)] lK [a0.v,(.int .i64 a1)] H Q:=aB hE Tryz.func83 rfl (by kernel_rfl) (wI a0 a1 H Q) h
def ku(a0:aH)(a1:Sl)(a2:aN)(H:Heap)(Q:Sl×Unit->Heap->Prop):Prop:=
CALL P [aK] bU [a1.v] H fun(x1:Sl×Unit) H1=>
CALL P [aK] dU [(aC.enc a0),a1.v,(aF.enc a2)] H1 fun(x2:Sl×Unit) H2=>
JOIN (fun(j3:(Unit)×(Unit)->Heap->Prop)=>
LOOP (fun(r5:(Int×Unit)×(Unit)->Heap->Prop) (s6:(Int×Unit)×(Unit)) H4=>
aO (decide (s6.1.1<(x2.1.len:Int))) (
dR x2.1.p x2.1.len s6.1.1 1 fun b7 o8=>
LD (au .i64) H4 b7 o8 fun(x9:Int)=>
dR x1.1.p x1.1.len (IntKind.wrap .i64 (x9-1)) 5 fun b10 o11=>
JOIN (fun(j12:(Unit)×(Unit)->Heap->Prop)=>
aO (a2.What.Verb==10) (
dR a1.p a1.len (IntKind.wrap .i64 (a2.Thing-1)) 5 fun b14 o15=>
LD (au .i64) H4 b14 (o15+0) fun(x16:Int)=>
ST H4 b10 (o11+0) [(.int .i64 x16)] fun H6=>
j12 ((()),(())) H6) (
JOIN (fun(j17:(Unit)×(Unit)->Heap->Prop)=>
aO (a2.What.Verb==11) (
ST H4 b10 (o11+1) [(.int .u8 a2.What.Suit)] fun H8=>
j17 ((()),(())) H8) (
JOIN (fun(j19:(Unit)×(Unit)->Heap->Prop)=>
aO (a2.What.Verb==12) (
LD (au .u16) H4 b10 (o11+2) fun(x21:Int)=>
CALL P [(au .u16)] vX [(.int .u16 x21),(.int .u8 a2.What.Trait)] H4 fun(x22:Int×Unit) H10=>
ST H10 b10 (o11+2) [(.int .u16 x22.1)] fun H11=>
j19 ((()),(())) H11) (
JOIN (fun(j23:(Unit)×(Unit)->Heap->Prop)=>
aO (a2.What.Verb==13) (
LD (au .u16) H4 b10 (o11+2) fun(x25:Int)=>
CALL P [(au .u16)] oC [(.int .u16 x25),(.int .u8 a2.What.Trait)] H4 fun(x26:Int×Unit) H13=>
ST H13 b10 (o11+2) [(.int .u16 x26.1)] fun H14=>
j23 ((()),(())) H14) (
JOIN (fun(j27:(Unit)×(Unit)->Heap->Prop)=>
aO (a2.What.Verb==14) (
ST H4 b10 (o11+3) [(.int .i64 a2.What.Count)] fun H16=>
xB ((some (.int .i64 a2.What.Count):Option Value)=some (.int .i64 a2.What.Count)) (
ST H16 b10 (o11+4) [(.int .i64 a2.What.Count)] fun H17=>
j27 ((()),(())) H17)) (
JOIN (fun(j29:(Unit)×(Unit)->Heap->Prop)=>
aO (a2.What.Verb==15) (
LD (au .i64) H4 b10 (o11+3) fun(x31:Int)=>
ST H4 b10 (o11+3) [(.int .i64 (IntKind.wrap .i64 (x31+a2.What.Count)))] fun H19=>
LD (au .i64) H19 b10 (o11+4) fun(x32:Int)=>
ST H19 b10 (o11+4) [(.int .i64 (IntKind.wrap .i64 (x32+a2.What.Count)))] fun H20=>
j29 ((()),(())) H20) (
j29 ((()),(())) H4)) fun(y30:(Unit)×(Unit)) H18=>
j27 ((()),(())) H18)) fun(y28:(Unit)×(Unit)) H15=>
j23 ((()),(())) H15)) fun(y24:(Unit)×(Unit)) H12=>
j19 ((()),(())) H12)) fun(y20:(Unit)×(Unit)) H9=>
j17 ((()),(())) H9)) fun(y18:(Unit)×(Unit)) H7=>
j12 ((()),(())) H7)) fun(y13:(Unit)×(Unit)) H5=>
r5 ((IntKind.wrap .i64 (s6.1.1+1),()),(())) H5) (
j3 ((()),(())) H4)) ((0,()),(())) H2) fun(y4:(Unit)×(Unit)) H3=>
Q (x1.1,()) H3
def zX:dJ:=(.seq .leaf (.seq .leaf (.seq (.seq .leaf (.blk (some ⟨[],[],(rg 9 2 (rg 18 94 []))⟩) (.loop ⟨[(18,(au .i64))],[],(rg 9 2 (rg 19 93 []))⟩ (.seq .leaf (.seq .leaf (.seq (.blk none (.seq .leaf (.seq .leaf (.seq .leaf (.blk none (.seq .leaf (.cond (some ⟨[],[],(rg 31 80 [])⟩) .leaf (.seq .leaf (.cond (some ⟨[],[],(rg 43 68 [])⟩) .leaf (.seq .leaf (.cond (some ⟨[],[],(rg 51 60 [])⟩) .leaf (.seq .leaf (.cond (some ⟨[],[],(rg 64 47 [])⟩) .leaf (.seq .leaf (.cond (some ⟨[],[],(rg 77 34 [])⟩) .leaf (.seq .leaf (.cond (some ⟨[],[],(rg 91 20 [])⟩) .leaf .leaf))))))))))))))))) .leaf)))))) .leaf)))
theorem zY(a0:aH)(a1:Sl)(a2:aN)(H:Heap)(Q:Sl×Unit->Heap->Prop):ku a0 a1 a2 H Q=eP C [3,5] Tryz.f84.ntmps Tryz.f84.results.toList [aK] (aQ Tryz.f84) zX [(aC.enc a0),a1.v,(aF.enc a2)] H Q:=by kernel_rfl
theorem zZ{a0:aH}{a1:Sl}{a2:aN}{H:Heap}{Q:Sl×Unit->Heap->Prop}(h:ku a0 a1 a2 H Q):CALL P [aK] fG [(aC.enc a0),a1.v,(aF.enc a2)] H Q:=aB hE Tryz.func84 rfl (by kernel_rfl) (zY a0 a1 a2 H Q) h
def qB(a0:Option Addr)(a1:Int)(H:Heap)(Q:ay×Int×Unit->Heap->Prop):Prop:=
CALL P [ah] eH [(.pointer a0)] H fun(x1:Bool×Unit) H1=>
aO x1.1 (
Q ((ay.mk (ByteArray.mk #[]) 0 0 0 0 0 0 false (Sl.mk none 0 0)),1,()) H1) (
JOIN (fun(j2:(Bool×Unit)×(Unit)->Heap->Prop)=>
NIL a0 fun b4 o5=>
LD ah H1 b4 (o5+1) fun(x6:Bool)=>
aO (!x6) (
j2 ((true,()),(())) H1) (
aO (decide (a1<1)) (
j2 ((true,()),(())) H1) (
NIL a0 fun b7 o8=>
LD (au .i64) H1 b7 (o8+2) fun(x9:Int)=>
j2 ((decide (a1>x9),()),(())) H1))) fun(y3:(Bool×Unit)×(Unit)) H2=>
aO y3.1.1 (
Q ((ay.mk (ByteArray.mk #[]) 0 0 0 0 0 0 false (Sl.mk none 0 0)),6,()) H2) (
NIL a0 fun b10 o11=>
yh 64 (IntKind.wrap .i64 (a1-1)) (
LD aA H2 b10 (o11+3+(IntKind.wrap .i64 (a1-1)).toNat*9) fun(x12:ay)=>
CALL P [aA] rH [(aA.enc x12)] H2 fun(x13:ay×Unit) H3=>
Q (x13.1,0,()) H3)))
def JQ:dJ:=(.seq .leaf (.seq .leaf (.seq (.seq (.reg ⟨[(25,ah)],[],(rg 9 16 [])⟩) .leaf) .leaf)))
theorem JR(a0:Option Addr)(a1:Int)(H:Heap)(Q:ay×Int×Unit->Heap->Prop):qB a0 a1 H Q=eP C [4] Tryz.f92.ntmps Tryz.f92.results.toList [aA,(au .i64)] (aQ Tryz.f92) JQ [(.pointer a0),(.int .i64 a1)] H Q:=by kernel_rfl
theorem JU{a0:Option Addr}{a1:Int}{H:Heap}{Q:ay×Int×Unit->Heap->Prop}(h:qB a0 a1 H Q):CALL P [aA,(au .i64)] qh [(.pointer a0),(.int .i64 a1)] H Q:=aB hE Tryz.func92 rfl (by kernel_rfl) (JR a0 a1 H Q) h
def jH(a0:Sl)(H:Heap)(Q:Int×Unit->Heap->Prop):Prop:=
JOIN (fun(j1:(Unit)×(Unit)->Heap->Prop)=>
aO (decide ((a0.len:Int)<1)) (
False) (
j1 ((()),(())) H)) fun(y2:(Unit)×(Unit)) H1=>
dR a0.p a0.len 0 1 fun b3 o4=>
LD (au .i64) H1 b3 o4 fun(x5:Int)=>
JOIN (fun(j6:(Int×Unit)×(Unit)->Heap->Prop)=>
LOOP (fun(r8:(Int×Int×Unit)×(Unit)->Heap->Prop) (s9:(Int×Int×Unit)×(Unit)) H3=>
aO (decide (s9.1.2.1<(a0.len:Int))) (
dR a0.p a0.len s9.1.2.1 1 fun b10 o11=>
LD (au .i64) H3 b10 o11 fun(x12:Int)=>
r8 ((if x12<s9.1.1 then x12 else s9.1.1,IntKind.wrap .i64 (s9.1.2.1+1),()),(())) H3) (
j6 ((s9.1.1,()),(())) H3)) ((x5,1,()),(())) H1) fun(y7:(Int×Unit)×(Unit)) H2=>
Q (y7.1.1,()) H2
def yP:dJ:=(.seq .leaf (.seq (.seq .leaf (.cond (some ⟨[],[],[8]⟩) .leaf .leaf)) (.seq .leaf (.seq (.seq .leaf (.blk (some ⟨[(3,(au .i64))],[],(rg 4 1 (rg 12 12 []))⟩) (.loop ⟨[(3,(au .i64)),(4,(au .i64))],[],(rg 12 12 [])⟩ .leaf))) .leaf))))
theorem yQ(a0:Sl)(H:Heap)(Q:Int×Unit->Heap->Prop):jH a0 H Q=eP C [] Tryz.f93.ntmps Tryz.f93.results.toList [(au .i64)] (aQ Tryz.f93) yP [a0.v] H Q:=by kernel_rfl
theorem yR{a0:Sl}{H:Heap}{Q:Int×Unit->Heap->Prop}(h:jH a0 H Q):CALL P [(au .i64)] jD [a0.v] H Q:=aB hE Tryz.func93 rfl (by kernel_rfl) (yQ a0 H Q) h
def jI(a0:Sl)(H:Heap)(Q:Int×Unit->Heap->Prop):Prop:=
JOIN (fun(j1:(Unit)×(Unit)->Heap->Prop)=>
aO (decide ((a0.len:Int)<1)) (
False) (
j1 ((()),(())) H)) fun(y2:(Unit)×(Unit)) H1=>
dR a0.p a0.len 0 1 fun b3 o4=>
LD (au .i64) H1 b3 o4 fun(x5:Int)=>
JOIN (fun(j6:(Int×Unit)×(Unit)->Heap->Prop)=>
LOOP (fun(r8:(Int×Int×Unit)×(Unit)->Heap->Prop) (s9:(Int×Int×Unit)×(Unit)) H3=>
aO (decide (s9.1.2.1<(a0.len:Int))) (
dR a0.p a0.len s9.1.2.1 1 fun b10 o11=>
LD (au .i64) H3 b10 o11 fun(x12:Int)=>
r8 ((if x12>s9.1.1 then x12 else s9.1.1,IntKind.wrap .i64 (s9.1.2.1+1),()),(())) H3) (
j6 ((s9.1.1,()),(())) H3)) ((x5,1,()),(())) H1) fun(y7:(Int×Unit)×(Unit)) H2=>
Q (y7.1.1,()) H2
def yS:dJ:=(.seq .leaf (.seq (.seq .leaf (.cond (some ⟨[],[],[8]⟩) .leaf .leaf)) (.seq .leaf (.seq (.seq .leaf (.blk (some ⟨[(3,(au .i64))],[],(rg 4 1 (rg 12 12 []))⟩) (.loop ⟨[(3,(au .i64)),(4,(au .i64))],[],(rg 12 12 [])⟩ .leaf))) .leaf))))
theorem yT(a0:Sl)(H:Heap)(Q:Int×Unit->Heap->Prop):jI a0 H Q=eP C [] Tryz.f94.ntmps Tryz.f94.results.toList [(au .i64)] (aQ Tryz.f94) yS [a0.v] H Q:=by kernel_rfl
theorem yU{a0:Sl}{H:Heap}{Q:Int×Unit->Heap->Prop}(h:jI a0 H Q):CALL P [(au .i64)] jE [a0.v] H Q:=aB hE Tryz.func94 rfl (by kernel_rfl) (yT a0 H Q) h
def oK(a0:Option Addr)(a1:Sl)(a2:Sl)(a3:Int)(H:Heap)(Q:Sl×Int×Unit->Heap->Prop):Prop:=
CALL P [aC,(au .i64)] gY [(.pointer a0),a1.v,a2.v] H fun(x1:aH×Int×Unit) H1=>
aO (x1.2.1 !=0) (
Q ((Sl.mk none 0 0),x1.2.1,()) H1) (
JOIN (fun(j2:(Bool×Unit)×(Unit)->Heap->Prop)=>
aO (decide (a3<1)) (
j2 ((true,()),(())) H1) (
j2 ((decide (a3>5),()),(())) H1)) fun(y3:(Bool×Unit)×(Unit)) H2=>
aO y3.1.1 (
Q ((Sl.mk none 0 0),2,()) H2) (
CALL P [aK] jh [(aC.enc x1.1),a2.v,(.int .i64 a3)] H2 fun(x4:Sl×Unit) H3=>
Q (x4.1,0,()) H3))
def G8:dJ:=(.seq .leaf (.seq .leaf (.seq (.blk none (.seq .leaf (.cond none .leaf (.seq (.reg ⟨[(23,ah)],[],(rg 24 6 [])⟩) .leaf)))) .leaf)))
theorem G9(a0:Option Addr)(a1:Sl)(a2:Sl)(a3:Int)(H:Heap)(Q:Sl×Int×Unit->Heap->Prop):oK a0 a1 a2 a3 H Q=eP C [10] Tryz.f95.ntmps Tryz.f95.results.toList [aK,(au .i64)] (aQ Tryz.f95) G8 [(.pointer a0),a1.v,a2.v,(.int .i64 a3)] H Q:=by kernel_rfl
theorem He{a0:Option Addr}{a1:Sl}{a2:Sl}{a3:Int}{H:Heap}{Q:Sl×Int×Unit->Heap->Prop}(h:oK a0 a1 a2 a3 H Q):CALL P [aK,(au .i64)] ou [(.pointer a0),a1.v,a2.v,(.int .i64 a3)] H Q:=aB hE Tryz.func95 rfl (by kernel_rfl) (G9 a0 a1 a2 a3 H Q) h
def dA(a0:Sl)(H:Heap)(Q:Sl×Unit->Heap->Prop):Prop:=
aO a0.p.isNone (
Q ((Sl.mk none 0 0),()) H) (
NEW H [] 5 fun H1=>
Gs aK (lenV ((Sl.mk (some ⟨H.length,0,none⟩) 0 0)).v+(oZ a0.v).getD 0) (dS E [30,30] ((Sl.mk (some ⟨H.length,0,none⟩) 0 0)).v a0.v H1) fun(x1:Sl) H2=>
Q (x1,()) H2)
def jJ:dJ:=.leaf
theorem jM(a0:Sl)(H:Heap)(Q:Sl×Unit->Heap->Prop):dA a0 H Q=eP C [] Tryz.f96.ntmps Tryz.f96.results.toList [aK] (aQ Tryz.f96) jJ [a0.v] H Q:=by kernel_rfl
theorem jO{a0:Sl}{H:Heap}{Q:Sl×Unit->Heap->Prop}(h:dA a0 H Q):CALL P [aK] bU [a0.v] H Q:=aB hE Tryz.func96 rfl (by kernel_rfl) (jM a0 H Q) h
end Zv
end Go.Proofs.YtijnknjopjmiiaaGreatDoor
end
section
namespace Go.Proofs.YtijnknjopjmiiaaGreatDoor
open Go Zq
namespace Zv
set_option maxRecDepth 100000
set_option linter.unusedVariables false
def kV(a0:aH)(a1:Sl)(a2:Sl)(H:Heap)(Q:Int×Unit->Heap->Prop):Prop:=
JOIN (fun(j1:(Int×Int×Unit)×(Unit)->Heap->Prop)=>
LOOP (fun(r3:(Int×Int×Int×Unit)×(Unit)->Heap->Prop) (s4:(Int×Int×Int×Unit)×(Unit)) H2=>
aO (decide (s4.1.2.2.1<(a2.len:Int))) (
JOIN (fun(j5:(Int×Int×Unit)×(Unit)->Heap->Prop)=>
dR a2.p a2.len s4.1.2.2.1 10 fun b7 o8=>
LD aF H2 b7 o8 fun(x9:aN)=>
JOIN (fun(j10:(Bool×Unit)×(Unit)->Heap->Prop)=>
aO (decide (s4.1.2.1<0)) (
j10 ((true,()),(())) H2) (
dR a2.p a2.len s4.1.2.1 10 fun b12 o13=>
LD aF H2 b12 o13 fun(x14:aN)=>
CALL P [ah] iF [(aC.enc a0),(aF.enc x9),(aF.enc x14)] H2 fun(x15:Bool×Unit) H5=>
j10 ((x15.1,()),(())) H5)) fun(y11:(Bool×Unit)×(Unit)) H4=>
JOIN (fun(j16:(Int×Unit)×(Unit)->Heap->Prop)=>
aO y11.1.1 (
j16 ((s4.1.2.2.1,()),(())) H4) (
j16 ((s4.1.2.1,()),(())) H4)) fun(y17:(Int×Unit)×(Unit)) H6=>
JOIN (fun(j18:(Unit)×(Unit)->Heap->Prop)=>
LOOP (fun(r20:(Int×Unit)×(Unit)->Heap->Prop) (s21:(Int×Unit)×(Unit)) H8=>
aO (decide (s21.1.1<(a2.len:Int))) (
dR a2.p a2.len s21.1.1 10 fun b22 o23=>
LD aF H8 b22 o23 fun(x24:aN)=>
JOIN (fun(j25:(Bool×Unit)×(Unit)->Heap->Prop)=>
aO (s21.1.1 !=s4.1.2.2.1) (
CALL P [ah] ji [(aC.enc a0),a1.v,(aF.enc x9),(aF.enc x24)] H8 fun(x27:Bool×Unit) H10=>
j25 ((x27.1,()),(())) H10) (
j25 ((false,()),(())) H8)) fun(y26:(Bool×Unit)×(Unit)) H9=>
aO y26.1.1 (
j5 ((s4.1.1,y17.1.1,()),(())) H9) (
r20 ((IntKind.wrap .i64 (s21.1.1+1),()),(())) H9)) (
j18 ((()),(())) H8)) ((0,()),(())) H6) fun(y19:(Unit)×(Unit)) H7=>
JOIN (fun(j28:(Bool×Unit)×(Unit)->Heap->Prop)=>
aO (decide (s4.1.1<0)) (
j28 ((true,()),(())) H7) (
dR a2.p a2.len s4.1.1 10 fun b30 o31=>
LD aF H7 b30 o31 fun(x32:aN)=>
CALL P [ah] iF [(aC.enc a0),(aF.enc x9),(aF.enc x32)] H7 fun(x33:Bool×Unit) H12=>
j28 ((x33.1,()),(())) H12)) fun(y29:(Bool×Unit)×(Unit)) H11=>
JOIN (fun(j34:(Int×Unit)×(Unit)->Heap->Prop)=>
aO y29.1.1 (
j34 ((s4.1.2.2.1,()),(())) H11) (
j34 ((s4.1.1,()),(())) H11)) fun(y35:(Int×Unit)×(Unit)) H13=>
j5 ((y35.1.1,y17.1.1,()),(())) H13) fun(y6:(Int×Int×Unit)×(Unit)) H3=>
r3 ((y6.1.1,y6.1.2.1,IntKind.wrap .i64 (s4.1.2.2.1+1),()),(())) H3) (
j1 ((s4.1.1,s4.1.2.1,()),(())) H2)) (((-1),(-1),0,()),(())) H) fun(y2:(Int×Int×Unit)×(Unit)) H1=>
aO (decide (y2.1.1≥0)) (
Q (y2.1.1,()) H1) (
Q (y2.1.2.1,()) H1)
def BO:dJ:=(.seq .leaf (.seq .leaf (.seq .leaf (.seq (.seq .leaf (.blk (some ⟨[(7,(au .i64)),(8,(au .i64))],[],(rg 9 4 (rg 15 48 []))⟩) (.loop ⟨[(7,(au .i64)),(8,(au .i64)),(15,(au .i64))],[],(rg 9 4 (rg 16 47 []))⟩ (.seq .leaf (.seq .leaf (.seq (.blk (some ⟨[(7,(au .i64)),(8,(au .i64))],[],(rg 9 4 (rg 17 45 []))⟩) (.seq .leaf (.seq (.seq (.reg ⟨[(30,ah)],[],(rg 20 10 [])⟩) (.cond (some ⟨[(8,(au .i64))],[],[31]⟩) .leaf .leaf)) (.seq (.seq .leaf (.blk (some ⟨[],[],(rg 11 2 (rg 34 16 []))⟩) (.loop ⟨[(34,(au .i64))],[],(rg 11 2 (rg 35 15 []))⟩ (.seq .leaf (.seq .leaf (.seq (.blk none (.seq .leaf (.seq (.reg ⟨[(48,ah)],[],(rg 39 9 [])⟩) .leaf))) .leaf)))))) (.seq (.reg ⟨[(60,ah)],[],(rg 50 10 [])⟩) (.cond (some ⟨[(7,(au .i64))],[],[61]⟩) .leaf .leaf)))))) .leaf)))))) .leaf))))
theorem BQ(a0:aH)(a1:Sl)(a2:Sl)(H:Heap)(Q:Int×Unit->Heap->Prop):kV a0 a1 a2 H Q=eP C [3,10,12] Tryz.f97.ntmps Tryz.f97.results.toList [(au .i64)] (aQ Tryz.f97) BO [(aC.enc a0),a1.v,a2.v] H Q:=by kernel_rfl
theorem BU{a0:aH}{a1:Sl}{a2:Sl}{H:Heap}{Q:Int×Unit->Heap->Prop}(h:kV a0 a1 a2 H Q):CALL P [(au .i64)] kR [(aC.enc a0),a1.v,a2.v] H Q:=aB hE Tryz.func97 rfl (by kernel_rfl) (BQ a0 a1 a2 H Q) h
def cO(a0:Sl)(a1:Int)(a2:Int)(H:Heap)(Q:Sl×Unit->Heap->Prop):Prop:=
dX aK (dQ E 37 a0.v (some (.int .i64 a1)) (some (.int .i64 a2)) (some (.int .i64 (a0.len:Int))) H) fun(x1:Sl)=>
aO (a1==a2) (
Q (a0,()) H) (
dX aK (dQ E 37 a0.v none (some (.int .i64 a1)) none H) fun(x2:Sl)=>
dX aK (dQ E 37 a0.v (some (.int .i64 a2)) none none H) fun(x3:Sl)=>
Gs aK (lenV x2.v+(oZ x3.v).getD 0) (dS E [37,37] x2.v x3.v H) fun(x4:Sl) H1=>
dX aK (dQ E 37 x4.v (some (.int .i64 (x4.len:Int))) (some (.int .i64 (a0.len:Int))) none H1) fun(x5:Sl)=>
aby (vk E [37] x5.v H1) fun H2=>
Q (x4,()) H2)
def iY:dJ:=.leaf
theorem iZ(a0:Sl)(a1:Int)(a2:Int)(H:Heap)(Q:Sl×Unit->Heap->Prop):cO a0 a1 a2 H Q=eP C [] Tryz.f98.ntmps Tryz.f98.results.toList [aK] (aQ Tryz.f98) iY [a0.v,(.int .i64 a1),(.int .i64 a2)] H Q:=by kernel_rfl
theorem jc{a0:Sl}{a1:Int}{a2:Int}{H:Heap}{Q:Sl×Unit->Heap->Prop}(h:cO a0 a1 a2 H Q):CALL P [aK] cu [a0.v,(.int .i64 a1),(.int .i64 a2)] H Q:=aB hE Tryz.func98 rfl (by kernel_rfl) (iZ a0 a1 a2 H Q) h
def dn(a0:Sl)(H:Heap)(Q:Sl×Unit->Heap->Prop):Prop:=
aO a0.p.isNone (
Q ((Sl.mk none 0 0),()) H) (
NEW H [] 10 fun H1=>
Gs aK (lenV ((Sl.mk (some ⟨H.length,0,none⟩) 0 0)).v+(oZ a0.v).getD 0) (dS E [37,37] ((Sl.mk (some ⟨H.length,0,none⟩) 0 0)).v a0.v H1) fun(x1:Sl) H2=>
Q (x1,()) H2)
def jk:dJ:=.leaf
theorem jl(a0:Sl)(H:Heap)(Q:Sl×Unit->Heap->Prop):dn a0 H Q=eP C [] Tryz.f99.ntmps Tryz.f99.results.toList [aK] (aQ Tryz.f99) jk [a0.v] H Q:=by kernel_rfl
theorem jm{a0:Sl}{H:Heap}{Q:Sl×Unit->Heap->Prop}(h:dn a0 H Q):CALL P [aK] dh [a0.v] H Q:=aB hE Tryz.func99 rfl (by kernel_rfl) (jl a0 H Q) h
def yV(a0:ay)(H:Heap)(Q:Int×Unit->Heap->Prop):Prop:=
CALL P [ah] vY [(.string a0.Name)] H fun(x1:Bool×Unit) H1=>
aO (!x1.1) (
Q (4,()) H1) (
JOIN (fun(j2:(Bool×Unit)×(Unit)->Heap->Prop)=>
CALL P [dH] yF [(.int .u8 a0.Suit)] H1 fun(x4:ByteArray×Unit) H3=>
aO (x4.1.toList==(ByteArray.mk #[]).toList) (
j2 ((true,()),(())) H3) (
CALL P [dH] yG [(.int .u8 a0.Kind)] H3 fun(x5:ByteArray×Unit) H4=>
j2 ((x5.1.toList==(ByteArray.mk #[]).toList,()),(())) H4)) fun(y3:(Bool×Unit)×(Unit)) H2=>
aO y3.1.1 (
Q (8,()) H2) (
JOIN (fun(j6:(Bool×Unit)×(Unit)->Heap->Prop)=>
CALL P [ah] kJ [(.int .i64 a0.Cost),(.int .i64 10)] H2 fun(x8:Bool×Unit) H6=>
aO (!x8.1) (
j6 ((true,()),(())) H6) (
CALL P [ah] kJ [(.int .i64 a0.Power),(.int .i64 99)] H6 fun(x9:Bool×Unit) H7=>
aO (!x9.1) (
j6 ((true,()),(())) H7) (
CALL P [ah] kJ [(.int .i64 a0.Health),(.int .i64 99)] H7 fun(x10:Bool×Unit) H8=>
j6 ((!x10.1,()),(())) H8))) fun(y7:(Bool×Unit)×(Unit)) H5=>
aO y7.1.1 (
Q (2,()) H5) (
JOIN (fun(j11:(Bool×Unit)×(Unit)->Heap->Prop)=>
aO (a0.Kind==1) (
aO (a0.Health==0) (
j11 ((true,()),(())) H5) (
aO (!(a0.Kind==1)) (
aO (a0.Power !=0) (
j11 ((true,()),(())) H5) (
j11 ((a0.Health !=0,()),(())) H5)) (
j11 ((false,()),(())) H5))) (
aO (!(a0.Kind==1)) (
aO (a0.Power !=0) (
j11 ((true,()),(())) H5) (
j11 ((a0.Health !=0,()),(())) H5)) (
j11 ((false,()),(())) H5))) fun(y12:(Bool×Unit)×(Unit)) H9=>
aO y12.1.1 (
Q (8,()) H9) (
JOIN (fun(j13:(Bool×Unit)×(Unit)->Heap->Prop)=>
CALL P [ah] kH [(.int .u16 a0.Traits)] H9 fun(x15:Bool×Unit) H11=>
aO (!x15.1) (
j13 ((true,()),(())) H11) (
aO (a0.Kind==2) (
j13 ((a0.Token,()),(())) H11) (
j13 ((false,()),(())) H11))) fun(y14:(Bool×Unit)×(Unit)) H10=>
aO y14.1.1 (
Q (8,()) H10) (
aO (decide ((a0.Parts.len:Int)>4)) (
Q (3,()) H10) (
Q (0,()) H10))))))
def Uf:dJ:=(.seq .leaf (.seq .leaf (.seq (.blk none (.seq .leaf (.cond none .leaf (.seq (.reg ⟨[(12,ah)],[],(rg 13 10 [])⟩) (.cond none .leaf (.seq (.reg ⟨[(23,ah)],[],(rg 24 16 [])⟩) (.cond none .leaf (.seq (.reg ⟨[(40,ah)],[],(rg 41 20 [])⟩) (.cond none .leaf (.seq (.reg ⟨[(61,ah)],[],(rg 62 13 [])⟩) .leaf)))))))))) .leaf)))
theorem Ug(a0:ay)(H:Heap)(Q:Int×Unit->Heap->Prop):yV a0 H Q=eP C [1] Tryz.f100.ntmps Tryz.f100.results.toList [(au .i64)] (aQ Tryz.f100) Uf [(aA.enc a0)] H Q:=by kernel_rfl
theorem Uh{a0:ay}{H:Heap}{Q:Int×Unit->Heap->Prop}(h:yV a0 H Q):CALL P [(au .i64)] yE [(aA.enc a0)] H Q:=aB hE Tryz.func100 rfl (by kernel_rfl) (Ug a0 H Q) h
def qC(a0:aV)(H:Heap)(Q:Int×Unit->Heap->Prop):Prop:=
CALL P [ah,ah,ah,ah,ah] sW [(.int .u8 a0.Verb),(.int .u8 a0.Whom)] H fun(x1:Bool×Bool×Bool×Bool×Bool×Unit) H1=>
CALL P [(au .i64),(au .i64),ah] oD [(.int .u8 a0.Verb)] H1 fun(x2:Int×Int×Bool×Unit) H2=>
JOIN (fun(j3:(Bool×Unit)×(Unit)->Heap->Prop)=>
aO (decide (a0.When<1)) (
j3 ((true,()),(())) H2) (
aO (decide (a0.When>6)) (
j3 ((true,()),(())) H2) (
aO (decide (a0.Verb<1)) (
j3 ((true,()),(())) H2) (
aO (decide (a0.Verb>19)) (
j3 ((true,()),(())) H2) (
aO (decide (a0.Whom<1)) (
j3 ((true,()),(())) H2) (
j3 ((decide (a0.Whom>10),()),(())) H2)))))) fun(y4:(Bool×Unit)×(Unit)) H3=>
aO y4.1.1 (
Q (2,()) H3) (
JOIN (fun(j5:(Bool×Unit)×(Unit)->Heap->Prop)=>
CALL P [ah] oG [(.int .u8 a0.When),(.int .u8 a0.Verb)] H3 fun(x7:Bool×Unit) H5=>
aO (!x7.1) (
j5 ((true,()),(())) H5) (
aO (a0.Verb==11) (
j5 ((a0.Whom==9,()),(())) H5) (
j5 ((false,()),(())) H5))) fun(y6:(Bool×Unit)×(Unit)) H4=>
aO y6.1.1 (
Q (8,()) H4) (
CALL P [ah] ql [(aP.enc a0)] H4 fun(x8:Bool×Unit) H6=>
aO (!x8.1) (
Q (13,()) H6) (
JOIN (fun(j9:(Bool×Unit)×(Unit)->Heap->Prop)=>
CALL P [ah] jW [(.int .i64 a0.Count),(.bool x1.1),(.int .i64 x2.1),(.int .i64 x2.2.1)] H6 fun(x11:Bool×Unit) H8=>
aO (!x11.1) (
j9 ((true,()),(())) H8) (
aO x1.1 (
aO (!x2.2.2.1) (
j9 ((a0.Count==0,()),(())) H8) (
j9 ((false,()),(())) H8)) (
j9 ((false,()),(())) H8))) fun(y10:(Bool×Unit)×(Unit)) H7=>
aO y10.1.1 (
Q (2,()) H7) (
JOIN (fun(j12:(Bool×Unit)×(Unit)->Heap->Prop)=>
CALL P [ah] gZ [(.int .u8 a0.Suit),(.bool x1.2.1),(.int .u8 1),(.int .u8 6)] H7 fun(x14:Bool×Unit) H10=>
aO (!x14.1) (
j12 ((true,()),(())) H10) (
CALL P [ah] gu [(.int .u8 a0.Trait),(.bool x1.2.2.1),(.int .u8 1),(.int .u8 8)] H10 fun(x15:Bool×Unit) H11=>
aO (!x15.1) (
j12 ((true,()),(())) H11) (
CALL P [ah] iq [(.int .u8 a0.Mark),(.bool x1.2.2.2.1),(.int .u8 1),(.int .u8 4)] H11 fun(x16:Bool×Unit) H12=>
j12 ((!x16.1,()),(())) H12))) fun(y13:(Bool×Unit)×(Unit)) H9=>
aO y13.1.1 (
Q (2,()) H9) (
JOIN (fun(j17:(Bool×Unit)×(Unit)->Heap->Prop)=>
aO (!(x1.2.2.2.2.1==(!(a0.Name.toList==(ByteArray.mk #[]).toList)))) (
j17 ((true,()),(())) H9) (
aO x1.2.2.2.2.1 (
CALL P [ah] sZ [(.string a0.Name)] H9 fun(x19:Bool×Unit) H14=>
j17 ((!x19.1,()),(())) H14) (
j17 ((false,()),(())) H9))) fun(y18:(Bool×Unit)×(Unit)) H13=>
aO y18.1.1 (
Q (4,()) H13) (
Q (0,()) H13))))))
def JV:dJ:=(.seq .leaf (.seq .leaf (.seq .leaf (.seq (.blk none (.seq (.reg ⟨[(29,ah)],[],(rg 30 28 [])⟩) (.cond none .leaf (.seq (.reg ⟨[(58,ah)],[],(rg 59 16 [])⟩) (.cond none .leaf (.seq .leaf (.cond none .leaf (.seq (.reg ⟨[(79,ah)],[],(rg 80 19 [])⟩) (.cond none .leaf (.seq (.reg ⟨[(99,ah)],[],(rg 100 19 [])⟩) (.cond none .leaf (.seq (.reg ⟨[(119,ah)],[],(rg 120 14 [])⟩) .leaf)))))))))))) .leaf))))
theorem JW(a0:aV)(H:Heap)(Q:Int×Unit->Heap->Prop):qC a0 H Q=eP C [1] Tryz.f101.ntmps Tryz.f101.results.toList [(au .i64)] (aQ Tryz.f101) JV [(aP.enc a0)] H Q:=by kernel_rfl
theorem JX{a0:aV}{H:Heap}{Q:Int×Unit->Heap->Prop}(h:qC a0 H Q):CALL P [(au .i64)] qj [(aP.enc a0)] H Q:=aB hE Tryz.func101 rfl (by kernel_rfl) (JW a0 H Q) h
def oL(a0:ByteArray)(H:Heap)(Q:Bool×Unit->Heap->Prop):Prop:=
JOIN (fun(j1:(Bool×Unit)×(Unit)->Heap->Prop)=>
dX (au .i64) (oW E 9 (.string a0) H) fun(x3:Int)=>
aO (decide (x3<1)) (
j1 ((true,()),(())) H) (
dX (au .i64) (oW E 9 (.string a0) H) fun(x4:Int)=>
aO (decide (x4>20)) (
j1 ((true,()),(())) H) (
dX (au .u8) (dF E 9 (.string a0) (.int .i64 0)) fun(x5:Int)=>
j1 ((x5==45,()),(())) H))) fun(y2:(Bool×Unit)×(Unit)) H1=>
aO y2.1.1 (
Q (false,()) H1) (
JOIN (fun(j6:(Unit)×(Unit)->Heap->Prop)=>
LOOP (fun(r8:(Int×Unit)×(Unit)->Heap->Prop) (s9:(Int×Unit)×(Unit)) H3=>
dX (au .i64) (oW E 9 (.string a0) H3) fun(x10:Int)=>
aO (decide (s9.1.1<x10)) (
JOIN (fun(j11:(Bool×Unit)×(Unit)->Heap->Prop)=>
dX (au .u8) (dF E 9 (.string a0) (.int .i64 s9.1.1)) fun(x13:Int)=>
aO (x13 !=45) (
dX (au .u8) (dF E 9 (.string a0) (.int .i64 s9.1.1)) fun(x14:Int)=>
aO (decide (x14<97)) (
j11 ((true,()),(())) H3) (
dX (au .u8) (dF E 9 (.string a0) (.int .i64 s9.1.1)) fun(x15:Int)=>
j11 ((decide (x15>122),()),(())) H3)) (
j11 ((false,()),(())) H3)) fun(y12:(Bool×Unit)×(Unit)) H4=>
aO y12.1.1 (
Q (false,()) H4) (
r8 ((IntKind.wrap .i64 (s9.1.1+1),()),(())) H4)) (
j6 ((()),(())) H3)) ((0,()),(())) H1) fun(y7:(Unit)×(Unit)) H2=>
Q (true,()) H2)
def Hf:dJ:=(.seq .leaf (.seq (.seq (.reg ⟨[(16,ah)],[],(rg 4 12 [])⟩) .leaf) (.seq (.seq .leaf (.blk (some ⟨[],[],(rg 2 2 (rg 17 22 []))⟩) (.loop ⟨[(3,(au .i64))],[],(rg 2 1 (rg 17 22 []))⟩ (.seq .leaf (.seq (.blk none (.seq (.reg ⟨[(38,ah)],[],(rg 23 15 [])⟩) .leaf)) .leaf))))) .leaf)))
theorem Hg(a0:ByteArray)(H:Heap)(Q:Bool×Unit->Heap->Prop):oL a0 H Q=eP C [] Tryz.f102.ntmps Tryz.f102.results.toList [ah] (aQ Tryz.f102) Hf [(.string a0)] H Q:=by kernel_rfl
theorem Hl{a0:ByteArray}{H:Heap}{Q:Bool×Unit->Heap->Prop}(h:oL a0 H Q):CALL P [ah] oz [(.string a0)] H Q:=aB hE Tryz.func102 rfl (by kernel_rfl) (Hg a0 H Q) h
def qE(a0:Int)(a1:Int)(a2:Int)(H:Heap)(Q:Bool×Unit->Heap->Prop):Prop:=
JOIN (fun(j1:(Bool×Unit)×(Unit)->Heap->Prop)=>
aO (decide (a0≥a1)) (
j1 ((decide (a0≤a2),()),(())) H) (
j1 ((false,()),(())) H)) fun(y2:(Bool×Unit)×(Unit)) H1=>
Q (y2.1.1,()) H1
def JY:dJ:=(.seq .leaf (.seq (.reg ⟨[(6,ah)],[],(rg 7 8 [])⟩) .leaf))
theorem JZ(a0:Int)(a1:Int)(a2:Int)(H:Heap)(Q:Bool×Unit->Heap->Prop):qE a0 a1 a2 H Q=eP C [] Tryz.f103.ntmps Tryz.f103.results.toList [ah] (aQ Tryz.f103) JY [(.int .i64 a0),(.int .i64 a1),(.int .i64 a2)] H Q:=by kernel_rfl
theorem J3{a0:Int}{a1:Int}{a2:Int}{H:Heap}{Q:Bool×Unit->Heap->Prop}(h:qE a0 a1 a2 H Q):CALL P [ah] fP [(.int .i64 a0),(.int .i64 a1),(.int .i64 a2)] H Q:=aB hE Tryz.func103 rfl (by kernel_rfl) (JZ a0 a1 a2 H Q) h
def uq(a0:Int)(H:Heap)(Q:Bool×Unit->Heap->Prop):Prop:=
Q (decide (a0<256),()) H
def Nz:dJ:=.leaf
theorem NC(a0:Int)(H:Heap)(Q:Bool×Unit->Heap->Prop):uq a0 H Q=eP C [] Tryz.f104.ntmps Tryz.f104.results.toList [ah] (aQ Tryz.f104) Nz [(.int .u16 a0)] H Q:=by kernel_rfl
theorem ND{a0:Int}{H:Heap}{Q:Bool×Unit->Heap->Prop}(h:uq a0 H Q):CALL P [ah] sQ [(.int .u16 a0)] H Q:=aB hE Tryz.func104 rfl (by kernel_rfl) (NC a0 H Q) h
def uw(a0:aV)(H:Heap)(Q:Int×Unit->Heap->Prop):Prop:=
JOIN (fun(j1:(Bool×Unit)×(Unit)->Heap->Prop)=>
aO (decide (a0.When<1)) (
j1 ((true,()),(())) H) (
aO (decide (a0.When>6)) (
j1 ((true,()),(())) H) (
aO (decide (a0.Verb<1)) (
j1 ((true,()),(())) H) (
aO (decide (a0.Verb>19)) (
j1 ((true,()),(())) H) (
aO (decide (a0.Whom<1)) (
j1 ((true,()),(())) H) (
j1 ((decide (a0.Whom>10),()),(())) H)))))) fun(y2:(Bool×Unit)×(Unit)) H1=>
aO y2.1.1 (
Q (2,()) H1) (
CALL P [ah,ah,ah,ah,ah] vZ [(.int .u8 a0.Verb),(.int .u8 a0.Whom)] H1 fun(x3:Bool×Bool×Bool×Bool×Bool×Unit) H2=>
JOIN (fun(j4:(Bool×Unit)×(Unit)->Heap->Prop)=>
CALL P [(au .i64)] pF [(.int .u8 a0.Verb)] H2 fun(x6:Int×Unit) H4=>
xB ((some (.int .u8 a0.When):Option Value)=some (.int .u8 a0.When)) (
CALL P [(au .i64)] tq [(.int .u8 a0.When)] H4 fun(x7:Int×Unit) H5=>
aO (x6.1 !=x7.1) (
j4 ((true,()),(())) H5) (
aO (a0.Verb==11) (
j4 ((a0.Whom==9,()),(())) H5) (
j4 ((false,()),(())) H5)))) fun(y5:(Bool×Unit)×(Unit)) H3=>
aO y5.1.1 (
Q (8,()) H3) (
CALL P [ah] tu [(aP.enc a0)] H3 fun(x8:Bool×Unit) H6=>
aO (!x8.1) (
Q (13,()) H6) (
CALL P [ah] oH [(aP.enc a0)] H6 fun(x9:Bool×Unit) H7=>
aO (!x9.1) (
Q (2,()) H7) (
JOIN (fun(j10:(Bool×Unit)×(Unit)->Heap->Prop)=>
CALL P [ah] jF [(.bool x3.2.1),(.int .i64 (IntKind.wrap .i64 a0.Suit)),(.int .i64 6)] H7 fun(x12:Bool×Unit) H9=>
aO (!x12.1) (
j10 ((true,()),(())) H9) (
CALL P [ah] jF [(.bool x3.2.2.1),(.int .i64 (IntKind.wrap .i64 a0.Trait)),(.int .i64 8)] H9 fun(x13:Bool×Unit) H10=>
aO (!x13.1) (
j10 ((true,()),(())) H10) (
CALL P [ah] jF [(.bool x3.2.2.2.1),(.int .i64 (IntKind.wrap .i64 a0.Mark)),(.int .i64 4)] H10 fun(x14:Bool×Unit) H11=>
j10 ((!x14.1,()),(())) H11))) fun(y11:(Bool×Unit)×(Unit)) H8=>
aO y11.1.1 (
Q (2,()) H8) (
JOIN (fun(j15:(Bool×Unit)×(Unit)->Heap->Prop)=>
aO x3.2.2.2.2.1 (
CALL P [ah] wo [(.string a0.Name)] H8 fun(x17:Bool×Unit) H13=>
aO (!x17.1) (
j15 ((true,()),(())) H13) (
aO (!x3.2.2.2.2.1) (
j15 ((!(a0.Name.toList==(ByteArray.mk #[]).toList),()),(())) H13) (
j15 ((false,()),(())) H13))) (
aO (!x3.2.2.2.2.1) (
j15 ((!(a0.Name.toList==(ByteArray.mk #[]).toList),()),(())) H8) (
j15 ((false,()),(())) H8))) fun(y16:(Bool×Unit)×(Unit)) H12=>
aO y16.1.1 (
Q (4,()) H12) (
Q (0,()) H12))))))
def NG:dJ:=(.seq .leaf (.seq (.seq (.reg ⟨[(35,ah)],[],(rg 8 27 [])⟩) .leaf) (.seq .leaf (.seq (.blk none (.seq (.reg ⟨[(47,ah)],[],(rg 48 17 [])⟩) (.cond none .leaf (.seq .leaf (.cond none .leaf (.seq .leaf (.cond none .leaf (.seq (.reg ⟨[(73,ah)],[],(rg 74 22 [])⟩) (.cond none .leaf (.seq (.reg ⟨[(96,ah)],[],(rg 97 16 [])⟩) .leaf)))))))))) .leaf))))
theorem NH(a0:aV)(H:Heap)(Q:Int×Unit->Heap->Prop):uw a0 H Q=eP C [1] Tryz.f105.ntmps Tryz.f105.results.toList [(au .i64)] (aQ Tryz.f105) NG [(aP.enc a0)] H Q:=by kernel_rfl
theorem NI{a0:aV}{H:Heap}{Q:Int×Unit->Heap->Prop}(h:uw a0 H Q):CALL P [(au .i64)] sS [(aP.enc a0)] H Q:=aB hE Tryz.func105 rfl (by kernel_rfl) (NH a0 H Q) h
def uy(a0:Int)(H:Heap)(Q:Bool×Unit->Heap->Prop):Prop:=
xB ((0:Int)≤8) (
Q ((Int.fdiv a0 (2 ^ (min (8:Int).toNat (IntKind.bits .u16))))==0,()) H)
def NJ:dJ:=.leaf
theorem NK(a0:Int)(H:Heap)(Q:Bool×Unit->Heap->Prop):uy a0 H Q=eP C [] Tryz.f106.ntmps Tryz.f106.results.toList [ah] (aQ Tryz.f106) NJ [(.int .u16 a0)] H Q:=by kernel_rfl
theorem NM{a0:Int}{H:Heap}{Q:Bool×Unit->Heap->Prop}(h:uy a0 H Q):CALL P [ah] kH [(.int .u16 a0)] H Q:=aB hE Tryz.func106 rfl (by kernel_rfl) (NK a0 H Q) h
def oM(a0:Int)(a1:Int)(c0:Nat×Nat)(H:Heap)(Q:Int×Unit->Heap->Prop):Prop:=
LD aK H c0.1 c0.2 fun(x1:Sl)=>
dR x1.p x1.len a0 11 fun b2 o3=>
LD (au .i64) H b2 (o3+3) fun(x4:Int)=>
LD aK H c0.1 c0.2 fun(x5:Sl)=>
dR x5.p x5.len a1 11 fun b6 o7=>
LD (au .i64) H b6 (o7+3) fun(x8:Int)=>
Q (IntKind.wrap .i64 (x4-x8),()) H
def Ho:dJ:=.leaf
theorem Hq(a0:Int)(a1:Int)(c0:Nat×Nat)(H:Heap)(Q:Int×Unit->Heap->Prop):oM a0 a1 c0 H Q=eP C [] Tryz.f108.ntmps Tryz.f108.results.toList [(au .i64)] (aQ Tryz.f108) Ho [(.int .i64 a0),(.int .i64 a1),(.pointer (some ⟨c0.1,c0.2,none⟩))] H Q:=by kernel_rfl
theorem Hr{a0:Int}{a1:Int}{c0:Nat×Nat}{H:Heap}{Q:Int×Unit->Heap->Prop}(h:oM a0 a1 c0 H Q):CALL P [(au .i64)] dW [(.int .i64 a0),(.int .i64 a1),(.pointer (some ⟨c0.1,c0.2,none⟩))] H Q:=aB hE Tryz.func108 rfl (by kernel_rfl) (Hq a0 a1 c0 H Q) h
def uz(a0:aV)(a1:aV)(H:Heap)(Q:Bool×Unit->Heap->Prop):Prop:=
Q (((a0.When==a1.When)&&((a0.Verb==a1.Verb)&&((a0.Whom==a1.Whom)&&((a0.Count==a1.Count)&&((a0.Suit==a1.Suit)&&((a0.Trait==a1.Trait)&&((a0.Mark==a1.Mark)&&((a0.Name.toList==a1.Name.toList)&&true)))))))),()) H
def NP:dJ:=.leaf
theorem NQ(a0:aV)(a1:aV)(H:Heap)(Q:Bool×Unit->Heap->Prop):uz a0 a1 H Q=eP C [2,3] Tryz.f109.ntmps Tryz.f109.results.toList [ah] (aQ Tryz.f109) NP [(aP.enc a0),(aP.enc a1)] H Q:=by kernel_rfl
theorem NR{a0:aV}{a1:aV}{H:Heap}{Q:Bool×Unit->Heap->Prop}(h:uz a0 a1 H Q):CALL P [ah] sV [(aP.enc a0),(aP.enc a1)] H Q:=aB hE Tryz.func109 rfl (by kernel_rfl) (NQ a0 a1 H Q) h
def kC(a0:aH)(a1:Sl)(a2:aN)(a3:Int)(H:Heap)(Q:Bool×Unit->Heap->Prop):Prop:=
aO (a2.What.Whom==4) (
Q (a3==(IntKind.wrap .i64 (a2.Thing-1)),()) H) (
dR a1.p a1.len a3 5 fun b1 o2=>
LD aJ H b1 o2 fun(x3:aG)=>
dR a1.p a1.len (IntKind.wrap .i64 (a2.Thing-1)) 5 fun b4 o5=>
LD (au .i64) H b4 (o5+0) fun(x6:Int)=>
xB ((some (.int .i64 a2.Thing):Option Value)=some (.int .i64 a2.Thing)) (
LD (au .i64) H b4 (o5+0) fun(x7:Int)=>
xB ((au .i64).enc x7=(.int .i64 x6)) (
dR a0.cards.p a0.cards.len a3 9 fun b8 o9=>
LD (au .u8) H b8 (o9+2) fun(x10:Int)=>
aO (x10 !=1) (
Q (false,()) H) (
aO (a2.What.Whom==5) (
Q (x3.Holder==x6,()) H) (
aO (a2.What.Whom==6) (
Q (x3.Holder !=x6,()) H) (
aO (a2.What.Whom==7) (
Q (true,()) H) (
aO (a2.What.Whom==8) (
JOIN (fun(j11:(Bool×Unit)×(Unit)->Heap->Prop)=>
aO (x3.Holder==x6) (
j11 ((a3 !=(IntKind.wrap .i64 (a2.Thing-1)),()),(())) H) (
j11 ((false,()),(())) H)) fun(y12:(Bool×Unit)×(Unit)) H1=>
Q (y12.1.1,()) H1) (
aO (a2.What.Whom==9) (
Q (x3.Suit==a2.What.Suit,()) H) (
aO (a2.What.Whom==10) (
CALL P [ah] rJ [(.int .u16 x3.Traits),(.int .u8 a2.What.Trait)] H fun(x13:Bool×Unit) H2=>
Q (x13.1,()) H2) (
Q (false,()) H))))))))))
def Aa:dJ:=(.seq .leaf (.seq .leaf (.seq .leaf (.seq .leaf (.seq (.seq .leaf (.blk none (.seq .leaf (.cond none .leaf (.seq .leaf (.cond none .leaf (.seq .leaf (.cond none .leaf (.seq .leaf (.cond none (.seq (.reg ⟨[(8,ah)],[],(rg 57 11 [])⟩) .leaf) .leaf)))))))))) .leaf)))))
theorem Ac(a0:aH)(a1:Sl)(a2:aN)(a3:Int)(H:Heap)(Q:Bool×Unit->Heap->Prop):kC a0 a1 a2 a3 H Q=eP C [4,6,9] Tryz.f110.ntmps Tryz.f110.results.toList [ah] (aQ Tryz.f110) Aa [(aC.enc a0),a1.v,(aF.enc a2),(.int .i64 a3)] H Q:=by kernel_rfl
theorem Ad{a0:aH}{a1:Sl}{a2:aN}{a3:Int}{H:Heap}{Q:Bool×Unit->Heap->Prop}(h:kC a0 a1 a2 a3 H Q):CALL P [ah] jV [(aC.enc a0),a1.v,(aF.enc a2),(.int .i64 a3)] H Q:=aB hE Tryz.func110 rfl (by kernel_rfl) (Ac a0 a1 a2 a3 H Q) h
def wK(a0:Int)(a1:Int)(H:Heap)(Q:Int×Unit->Heap->Prop):Prop:=
CALL P [(au .u16)] nT [(.int .u8 a1)] H fun(x1:Int×Unit) H1=>
Q (IntKind.wrap .u16 (((BitVec.ofInt (IntKind.bits .u16) a0 ||| BitVec.ofInt (IntKind.bits .u16) x1.1).toNat:Int)),()) H1
def Qr:dJ:=.leaf
theorem Qs(a0:Int)(a1:Int)(H:Heap)(Q:Int×Unit->Heap->Prop):wK a0 a1 H Q=eP C [] Tryz.f111.ntmps Tryz.f111.results.toList [(au .u16)] (aQ Tryz.f111) Qr [(.int .u16 a0),(.int .u8 a1)] H Q:=by kernel_rfl
theorem Qu{a0:Int}{a1:Int}{H:Heap}{Q:Int×Unit->Heap->Prop}(h:wK a0 a1 H Q):CALL P [(au .u16)] vX [(.int .u16 a0),(.int .u8 a1)] H Q:=aB hE Tryz.func111 rfl (by kernel_rfl) (Qs a0 a1 H Q) h
def oN(a0:Int)(a1:Int)(H:Heap)(Q:Int×Unit->Heap->Prop):Prop:=
CALL P [(au .u16)] nT [(.int .u8 a1)] H fun(x1:Int×Unit) H1=>
Q (IntKind.wrap .u16 (((BitVec.ofInt (IntKind.bits .u16) a0 &&& ~~~BitVec.ofInt (IntKind.bits .u16) x1.1).toNat:Int)),()) H1
def Ht:dJ:=.leaf
theorem Hu(a0:Int)(a1:Int)(H:Heap)(Q:Int×Unit->Heap->Prop):oN a0 a1 H Q=eP C [] Tryz.f112.ntmps Tryz.f112.results.toList [(au .u16)] (aQ Tryz.f112) Ht [(.int .u16 a0),(.int .u8 a1)] H Q:=by kernel_rfl
theorem Hw{a0:Int}{a1:Int}{H:Heap}{Q:Int×Unit->Heap->Prop}(h:oN a0 a1 H Q):CALL P [(au .u16)] oC [(.int .u16 a0),(.int .u8 a1)] H Q:=aB hE Tryz.func112 rfl (by kernel_rfl) (Hu a0 a1 H Q) h
def jo(a0:aH)(a1:Sl)(a2:Int)(H:Heap)(Q:Sl×Unit->Heap->Prop):Prop:=
JOIN (fun(j1:(Sl×Unit)×(Unit)->Heap->Prop)=>
LOOP (fun(r3:(Sl×Int×Unit)×(Unit)->Heap->Prop) (s4:(Sl×Int×Unit)×(Unit)) H2=>
aO (decide (s4.1.2.1<(a0.order.len:Int))) (
JOIN (fun(j5:(Sl×Unit)×(Unit)->Heap->Prop)=>
dR a0.order.p a0.order.len s4.1.2.1 1 fun b7 o8=>
LD (au .i64) H2 b7 o8 fun(x9:Int)=>
dR a1.p a1.len x9 5 fun b10 o11=>
LD (au .u16) H2 b10 (o11+2) fun(x12:Int)=>
CALL P [ah] rJ [(.int .u16 x12),(.int .u8 6)] H2 fun(x13:Bool×Unit) H4=>
aO x13.1 (
j5 ((s4.1.1,()),(())) H4) (
dR a0.cards.p a0.cards.len x9 9 fun b14 o15=>
LD aK H4 b14 (o15+8) fun(x16:Sl)=>
JOIN (fun(j17:(Sl×Unit)×(Unit)->Heap->Prop)=>
LOOP (fun(r19:(Sl×Int×Unit)×(Unit)->Heap->Prop) (s20:(Sl×Int×Unit)×(Unit)) H6=>
aO (decide (s20.1.2.1<(x16.len:Int))) (
dR x16.p x16.len s20.1.2.1 8 fun b21 o22=>
LD aP H6 b21 o22 fun(x23:aV)=>
JOIN (fun(j24:(Bool×Unit)×(Unit)->Heap->Prop)=>
aO (x23.When==5) (
CALL P [(au .i64)] qm [(.int .u8 x23.Verb)] H6 fun(x26:Int×Unit) H8=>
j24 ((x26.1==a2,()),(())) H8) (
j24 ((false,()),(())) H6)) fun(y25:(Bool×Unit)×(Unit)) H7=>
JOIN (fun(j27:(Sl×Unit)×(Unit)->Heap->Prop)=>
aO y25.1.1 (
Gs aK (lenV s20.1.1.v+1) (fA E [37,37] s20.1.1.v 1 [(.int .i64 (IntKind.wrap .i64 (x9+1))),(.int .i64 s20.1.2.1),(.int .u8 x23.When),(.int .u8 x23.Verb),(.int .u8 x23.Whom),(.int .i64 x23.Count),(.int .u8 x23.Suit),(.int .u8 x23.Trait),(.int .u8 x23.Mark),(.string x23.Name)] H7) fun(x29:Sl) H10=>
j27 ((x29,()),(())) H10) (
j27 ((s20.1.1,()),(())) H7)) fun(y28:(Sl×Unit)×(Unit)) H9=>
r19 ((y28.1.1,IntKind.wrap .i64 (s20.1.2.1+1),()),(())) H9) (
j17 ((s20.1.1,()),(())) H6)) ((s4.1.1,0,()),(())) H4) fun(y18:(Sl×Unit)×(Unit)) H5=>
j5 ((y18.1.1,()),(())) H5)) fun(y6:(Sl×Unit)×(Unit)) H3=>
r3 ((y6.1.1,IntKind.wrap .i64 (s4.1.2.1+1),()),(())) H3) (
j1 ((s4.1.1,()),(())) H2)) (((Sl.mk none 0 0),0,()),(())) H) fun(y2:(Sl×Unit)×(Unit)) H1=>
Q (y2.1.1,()) H1
def xG:dJ:=(.seq .leaf (.seq .leaf (.seq (.seq .leaf (.blk (some ⟨[(7,aK)],[],(rg 9 3 (rg 15 42 []))⟩) (.loop ⟨[(7,aK),(15,(au .i64))],[],(rg 9 3 (rg 16 41 []))⟩ (.seq .leaf (.seq .leaf (.seq (.blk (some ⟨[(7,aK)],[],(rg 9 3 (rg 17 39 []))⟩) (.seq .leaf (.seq .leaf (.seq .leaf (.blk (some ⟨[(7,aK)],[],(rg 10 2 (rg 32 24 []))⟩) (.loop ⟨[(7,aK),(32,(au .i64))],[],(rg 10 2 (rg 33 23 []))⟩ (.seq .leaf (.seq .leaf (.seq (.blk none (.seq .leaf (.seq (.reg ⟨[(46,ah)],[],(rg 37 9 [])⟩) (.cond (some ⟨[(7,aK)],[],(rg 47 8 [])⟩) .leaf .leaf)))) .leaf))))))))) .leaf)))))) .leaf)))
theorem xH(a0:aH)(a1:Sl)(a2:Int)(H:Heap)(Q:Sl×Unit->Heap->Prop):jo a0 a1 a2 H Q=eP C [3,11,53] Tryz.f122.ntmps Tryz.f122.results.toList [aK] (aQ Tryz.f122) xG [(aC.enc a0),a1.v,(.int .i64 a2)] H Q:=by kernel_rfl
theorem xI{a0:aH}{a1:Sl}{a2:Int}{H:Heap}{Q:Sl×Unit->Heap->Prop}(h:jo a0 a1 a2 H Q):CALL P [aK] jh [(aC.enc a0),a1.v,(.int .i64 a2)] H Q:=aB hE Tryz.func122 rfl (by kernel_rfl) (xH a0 a1 a2 H Q) h
def kD(a0:aH)(a1:aN)(a2:aN)(H:Heap)(Q:Bool×Unit->Heap->Prop):Prop:=
dR a0.things.p a0.things.len (IntKind.wrap .i64 (a1.Thing-1)) 11 fun b1 o2=>
LD (au .i64) H b1 (o2+3) fun(x3:Int)=>
dR a0.things.p a0.things.len (IntKind.wrap .i64 (a2.Thing-1)) 11 fun b4 o5=>
LD (au .i64) H b4 (o5+3) fun(x6:Int)=>
JOIN (fun(j7:(Bool×Unit)×(Unit)->Heap->Prop)=>
aO (decide (x3<x6)) (
j7 ((true,()),(())) H) (
aO (x3==x6) (
j7 ((decide (a1.Place<a2.Place),()),(())) H) (
j7 ((false,()),(())) H))) fun(y8:(Bool×Unit)×(Unit)) H1=>
Q (y8.1.1,()) H1
def Ae:dJ:=(.seq .leaf (.seq .leaf (.seq (.reg ⟨[(6,ah)],[],(rg 25 15 [])⟩) .leaf)))
theorem Af(a0:aH)(a1:aN)(a2:aN)(H:Heap)(Q:Bool×Unit->Heap->Prop):kD a0 a1 a2 H Q=eP C [3,4,5] Tryz.f123.ntmps Tryz.f123.results.toList [ah] (aQ Tryz.f123) Ae [(aC.enc a0),(aF.enc a1),(aF.enc a2)] H Q:=by kernel_rfl
theorem Ag{a0:aH}{a1:aN}{a2:aN}{H:Heap}{Q:Bool×Unit->Heap->Prop}(h:kD a0 a1 a2 H Q):CALL P [ah] iF [(aC.enc a0),(aF.enc a1),(aF.enc a2)] H Q:=aB hE Tryz.func123 rfl (by kernel_rfl) (Af a0 a1 a2 H Q) h
def jq(a0:aH)(a1:Sl)(a2:aN)(a3:aN)(H:Heap)(Q:Bool×Unit->Heap->Prop):Prop:=
CALL P [aK] dU [(aC.enc a0),a1.v,(aF.enc a2)] H fun(x1:Sl×Unit) H1=>
xB ((some (.agg #[(.pointer a0.b),(.slice a0.things.p a0.things.len a0.things.cap),(.slice a0.cards.p a0.cards.len a0.cards.cap),(.slice a0.order.p a0.order.len a0.order.cap)]):Option Value)=some (.agg #[(.pointer a0.b),(.slice a0.things.p a0.things.len a0.things.cap),(.slice a0.cards.p a0.cards.len a0.cards.cap),(.slice a0.order.p a0.order.len a0.order.cap)])) (
xB ((some (.agg #[(.pointer a0.b),(.slice a0.things.p a0.things.len a0.things.cap),(.slice a0.cards.p a0.cards.len a0.cards.cap),(.slice a0.order.p a0.order.len a0.order.cap)]):Option Value)=some (.agg #[(.pointer a0.b),(.slice a0.things.p a0.things.len a0.things.cap),(.slice a0.cards.p a0.cards.len a0.cards.cap),(.slice a0.order.p a0.order.len a0.order.cap)])) (
xB ((some (.agg #[(.int .i64 a3.Thing),(.int .i64 a3.Place),(.int .u8 a3.What.When),(.int .u8 a3.What.Verb),(.int .u8 a3.What.Whom),(.int .i64 a3.What.Count),(.int .u8 a3.What.Suit),(.int .u8 a3.What.Trait),(.int .u8 a3.What.Mark),(.string a3.What.Name)]):Option Value)=some (.agg #[(.int .i64 a3.Thing),(.int .i64 a3.Place),(.int .u8 a3.What.When),(.int .u8 a3.What.Verb),(.int .u8 a3.What.Whom),(.int .i64 a3.What.Count),(.int .u8 a3.What.Suit),(.int .u8 a3.What.Trait),(.int .u8 a3.What.Mark),(.string a3.What.Name)])) (
xB ((some (.agg #[(.int .i64 a2.Thing),(.int .i64 a2.Place),(.int .u8 a2.What.When),(.int .u8 a2.What.Verb),(.int .u8 a2.What.Whom),(.int .i64 a2.What.Count),(.int .u8 a2.What.Suit),(.int .u8 a2.What.Trait),(.int .u8 a2.What.Mark),(.string a2.What.Name)]):Option Value)=some (.agg #[(.int .i64 a2.Thing),(.int .i64 a2.Place),(.int .u8 a2.What.When),(.int .u8 a2.What.Verb),(.int .u8 a2.What.Whom),(.int .i64 a2.What.Count),(.int .u8 a2.What.Suit),(.int .u8 a2.What.Trait),(.int .u8 a2.What.Mark),(.string a2.What.Name)])) (
CALL P [aK] fG [(aC.enc a0),a1.v,(aF.enc a3)] H1 fun(x2:Sl×Unit) H2=>
xB ((some (.agg #[(.pointer a0.b),(.slice a0.things.p a0.things.len a0.things.cap),(.slice a0.cards.p a0.cards.len a0.cards.cap),(.slice a0.order.p a0.order.len a0.order.cap)]):Option Value)=some (.agg #[(.pointer a0.b),(.slice a0.things.p a0.things.len a0.things.cap),(.slice a0.cards.p a0.cards.len a0.cards.cap),(.slice a0.order.p a0.order.len a0.order.cap)])) (
xB ((some (.agg #[(.int .i64 a2.Thing),(.int .i64 a2.Place),(.int .u8 a2.What.When),(.int .u8 a2.What.Verb),(.int .u8 a2.What.Whom),(.int .i64 a2.What.Count),(.int .u8 a2.What.Suit),(.int .u8 a2.What.Trait),(.int .u8 a2.What.Mark),(.string a2.What.Name)]):Option Value)=some (.agg #[(.int .i64 a2.Thing),(.int .i64 a2.Place),(.int .u8 a2.What.When),(.int .u8 a2.What.Verb),(.int .u8 a2.What.Whom),(.int .i64 a2.What.Count),(.int .u8 a2.What.Suit),(.int .u8 a2.What.Trait),(.int .u8 a2.What.Mark),(.string a2.What.Name)])) (
CALL P [aK] dU [(aC.enc a0),x2.1.v,(aF.enc a2)] H2 fun(x3:Sl×Unit) H3=>
CALL P [ah] iO [x1.1.v,x3.1.v] H3 fun(x4:Bool×Unit) H4=>
Q (!x4.1,()) H4))))))
def xJ:dJ:=.leaf
theorem xK(a0:aH)(a1:Sl)(a2:aN)(a3:aN)(H:Heap)(Q:Bool×Unit->Heap->Prop):jq a0 a1 a2 a3 H Q=eP C [4,6,7] Tryz.f124.ntmps Tryz.f124.results.toList [ah] (aQ Tryz.f124) xJ [(aC.enc a0),a1.v,(aF.enc a2),(aF.enc a3)] H Q:=by kernel_rfl
theorem xM{a0:aH}{a1:Sl}{a2:aN}{a3:aN}{H:Heap}{Q:Bool×Unit->Heap->Prop}(h:jq a0 a1 a2 a3 H Q):CALL P [ah] ji [(aC.enc a0),a1.v,(aF.enc a2),(aF.enc a3)] H Q:=aB hE Tryz.func124 rfl (by kernel_rfl) (xK a0 a1 a2 a3 H Q) h
def wL(a0:ByteArray)(H:Heap)(Q:Bool×Unit->Heap->Prop):Prop:=
JOIN (fun(j1:(Bool×Unit)×(Unit)->Heap->Prop)=>
dX (au .i64) (oW E 9 (.string a0) H) fun(x3:Int)=>
aO (decide (x3>0)) (
dX (au .i64) (oW E 9 (.string a0) H) fun(x4:Int)=>
aO (decide (x4≤20)) (
dX (au .u8) (dF E 9 (.string a0) (.int .i64 0)) fun(x5:Int)=>
aO (x5 !=45) (
CALL P [dH] jG [(.string a0),(.string (ByteArray.mk #[97,98,99,100,101,102,103,104,105,106,107,108,109,110,111,112,113,114,115,116,117,118,119,120,121,122,45]))] H fun(x6:ByteArray×Unit) H2=>
j1 ((x6.1.toList==(ByteArray.mk #[]).toList,()),(())) H2) (
j1 ((false,()),(())) H)) (
j1 ((false,()),(())) H)) (
j1 ((false,()),(())) H)) fun(y2:(Bool×Unit)×(Unit)) H1=>
Q (y2.1.1,()) H1
def Qw:dJ:=(.seq .leaf (.seq (.reg ⟨[(2,ah)],[],(rg 3 18 [])⟩) .leaf))
theorem Qx(a0:ByteArray)(H:Heap)(Q:Bool×Unit->Heap->Prop):wL a0 H Q=eP C [] Tryz.f125.ntmps Tryz.f125.results.toList [ah] (aQ Tryz.f125) Qw [(.string a0)] H Q:=by kernel_rfl
theorem Qy{a0:ByteArray}{H:Heap}{Q:Bool×Unit->Heap->Prop}(h:wL a0 H Q):CALL P [ah] vY [(.string a0)] H Q:=aB hE Tryz.func125 rfl (by kernel_rfl) (Qx a0 H Q) h
def yX(a0:Int)(H:Heap)(Q:ByteArray×Unit->Heap->Prop):Prop:=
aO (a0==1) (
Q ((ByteArray.mk #[97,105,114]),()) H) (
aO (a0==2) (
Q ((ByteArray.mk #[101,97,114,116,104]),()) H) (
aO (a0==3) (
Q ((ByteArray.mk #[102,105,114,101]),()) H) (
aO (a0==4) (
Q ((ByteArray.mk #[119,97,116,101,114]),()) H) (
aO (a0==5) (
Q ((ByteArray.mk #[118,111,105,100]),()) H) (
aO (a0==6) (
Q ((ByteArray.mk #[103,111,108,100]),()) H) (
Q ((ByteArray.mk #[]),()) H))))))
def Ui:dJ:=.leaf
theorem Uj(a0:Int)(H:Heap)(Q:ByteArray×Unit->Heap->Prop):yX a0 H Q=eP C [] Tryz.f126.ntmps Tryz.f126.results.toList [dH] (aQ Tryz.f126) Ui [(.int .u8 a0)] H Q:=by kernel_rfl
theorem Uk{a0:Int}{H:Heap}{Q:ByteArray×Unit->Heap->Prop}(h:yX a0 H Q):CALL P [dH] yF [(.int .u8 a0)] H Q:=aB hE Tryz.func126 rfl (by kernel_rfl) (Uj a0 H Q) h
def yY(a0:Int)(H:Heap)(Q:ByteArray×Unit->Heap->Prop):Prop:=
aO (a0==1) (
Q ((ByteArray.mk #[117,110,105,116]),()) H) (
aO (a0==2) (
Q ((ByteArray.mk #[115,112,101,108,108]),()) H) (
aO (a0==3) (
Q ((ByteArray.mk #[114,101,108,105,99]),()) H) (
Q ((ByteArray.mk #[]),()) H)))
def Ul:dJ:=.leaf
theorem Um(a0:Int)(H:Heap)(Q:ByteArray×Unit->Heap->Prop):yY a0 H Q=eP C [] Tryz.f127.ntmps Tryz.f127.results.toList [dH] (aQ Tryz.f127) Ul [(.int .u8 a0)] H Q:=by kernel_rfl
theorem Un{a0:Int}{H:Heap}{Q:ByteArray×Unit->Heap->Prop}(h:yY a0 H Q):CALL P [dH] yG [(.int .u8 a0)] H Q:=aB hE Tryz.func127 rfl (by kernel_rfl) (Um a0 H Q) h
def uD(a0:Int)(a1:Int)(H:Heap)(Q:Bool×Unit->Heap->Prop):Prop:=
JOIN (fun(j1:(Bool×Unit)×(Unit)->Heap->Prop)=>
aO (decide (a0≥0)) (
j1 ((decide (a0≤a1),()),(())) H) (
j1 ((false,()),(())) H)) fun(y2:(Bool×Unit)×(Unit)) H1=>
Q (y2.1.1,()) H1
def NS:dJ:=(.seq .leaf (.seq (.reg ⟨[(4,ah)],[],(rg 5 7 [])⟩) .leaf))
theorem NT(a0:Int)(a1:Int)(H:Heap)(Q:Bool×Unit->Heap->Prop):uD a0 a1 H Q=eP C [] Tryz.f128.ntmps Tryz.f128.results.toList [ah] (aQ Tryz.f128) NS [(.int .i64 a0),(.int .i64 a1)] H Q:=by kernel_rfl
theorem NU{a0:Int}{a1:Int}{H:Heap}{Q:Bool×Unit->Heap->Prop}(h:uD a0 a1 H Q):CALL P [ah] kJ [(.int .i64 a0),(.int .i64 a1)] H Q:=aB hE Tryz.func128 rfl (by kernel_rfl) (NT a0 a1 H Q) h
def uF(a0:Int)(a1:Int)(H:Heap)(Q:Bool×Bool×Bool×Bool×Bool×Unit->Heap->Prop):Prop:=
JOIN (fun(j1:(Bool×Unit)×(Unit)->Heap->Prop)=>
aO (a0==1) (
j1 ((a0==1,()),(())) H) (
JOIN (fun(j3:(Bool×Unit)×(Unit)->Heap->Prop)=>
aO (a0==2) (
j3 ((a0==2,()),(())) H) (
JOIN (fun(j5:(Bool×Unit)×(Unit)->Heap->Prop)=>
aO (a0==3) (
j5 ((a0==3,()),(())) H) (
JOIN (fun(j7:(Bool×Unit)×(Unit)->Heap->Prop)=>
aO (a0==4) (
j7 ((a0==4,()),(())) H) (
JOIN (fun(j9:(Bool×Unit)×(Unit)->Heap->Prop)=>
aO (a0==5) (
j9 ((a0==5,()),(())) H) (
JOIN (fun(j11:(Bool×Unit)×(Unit)->Heap->Prop)=>
aO (a0==14) (
j11 ((a0==14,()),(())) H) (
JOIN (fun(j13:(Bool×Unit)×(Unit)->Heap->Prop)=>
aO (a0==15) (
j13 ((a0==15,()),(())) H) (
JOIN (fun(j15:(Bool×Unit)×(Unit)->Heap->Prop)=>
aO (a0==16) (
j15 ((a0==16,()),(())) H) (
j15 ((a0==19,()),(())) H)) fun(y16:(Bool×Unit)×(Unit)) H8=>
j13 ((y16.1.1,()),(())) H8)) fun(y14:(Bool×Unit)×(Unit)) H7=>
j11 ((y14.1.1,()),(())) H7)) fun(y12:(Bool×Unit)×(Unit)) H6=>
j9 ((y12.1.1,()),(())) H6)) fun(y10:(Bool×Unit)×(Unit)) H5=>
j7 ((y10.1.1,()),(())) H5)) fun(y8:(Bool×Unit)×(Unit)) H4=>
j5 ((y8.1.1,()),(())) H4)) fun(y6:(Bool×Unit)×(Unit)) H3=>
j3 ((y6.1.1,()),(())) H3)) fun(y4:(Bool×Unit)×(Unit)) H2=>
j1 ((y4.1.1,()),(())) H2)) fun(y2:(Bool×Unit)×(Unit)) H1=>
JOIN (fun(j17:(Bool×Bool×Bool×Bool×Bool×Unit)×(Unit)->Heap->Prop)=>
aO y2.1.1 (
j17 ((true,false,false,false,false,()),(())) H1) (
JOIN (fun(j19:(Bool×Bool×Bool×Bool×Bool×Unit)×(Unit)->Heap->Prop)=>
aO (a0==9) (
j19 ((true,false,false,true,false,()),(())) H1) (
JOIN (fun(j21:(Bool×Bool×Bool×Bool×Unit)×(Unit)->Heap->Prop)=>
aO (a0==7) (
j21 ((true,false,false,true,()),(())) H1) (
JOIN (fun(j23:(Bool×Bool×Unit)×(Unit)->Heap->Prop)=>
aO (a0==11) (
j23 ((true,false,()),(())) H1) (
JOIN (fun(j25:(Bool×Unit)×(Unit)->Heap->Prop)=>
aO (a0==12) (
j25 ((a0==12,()),(())) H1) (
j25 ((a0==13,()),(())) H1)) fun(y26:(Bool×Unit)×(Unit)) H13=>
JOIN (fun(j27:(Bool×Unit)×(Unit)->Heap->Prop)=>
aO y26.1.1 (
j27 ((true,()),(())) H13) (
j27 ((false,()),(())) H13)) fun(y28:(Bool×Unit)×(Unit)) H14=>
j23 ((false,y28.1.1,()),(())) H14)) fun(y24:(Bool×Bool×Unit)×(Unit)) H12=>
j21 ((false,y24.1.1,y24.1.2.1,false,()),(())) H12)) fun(y22:(Bool×Bool×Bool×Bool×Unit)×(Unit)) H11=>
j19 ((y22.1.1,y22.1.2.1,y22.1.2.2.1,false,y22.1.2.2.2.1,()),(())) H11)) fun(y20:(Bool×Bool×Bool×Bool×Bool×Unit)×(Unit)) H10=>
j17 ((y20.1.1,y20.1.2.1,y20.1.2.2.1,y20.1.2.2.2.1,y20.1.2.2.2.2.1,()),(())) H10)) fun(y18:(Bool×Bool×Bool×Bool×Bool×Unit)×(Unit)) H9=>
JOIN (fun(j29:(Bool×Bool×Bool×Bool×Bool×Unit)×(Unit)->Heap->Prop)=>
aO y18.1.2.1 (
aO y18.1.2.2.1 (
j29 ((y18.1.1,true,true,y18.1.2.2.2.1,y18.1.2.2.2.2.1,()),(())) H9) (
j29 ((y18.1.1,true,a1==10,y18.1.2.2.2.1,y18.1.2.2.2.2.1,()),(())) H9)) (
aO y18.1.2.2.1 (
j29 ((y18.1.1,a1==9,true,y18.1.2.2.2.1,y18.1.2.2.2.2.1,()),(())) H9) (
j29 ((y18.1.1,a1==9,a1==10,y18.1.2.2.2.1,y18.1.2.2.2.2.1,()),(())) H9))) fun(y30:(Bool×Bool×Bool×Bool×Bool×Unit)×(Unit)) H15=>
Q (y30.1.1,y30.1.2.1,y30.1.2.2.1,y30.1.2.2.2.1,y30.1.2.2.2.2.1,()) H15
def NV:dJ:=(.seq .leaf (.seq (.seq .leaf (.blk none (.seq (.seq .leaf (.cond (some ⟨[(10,ah)],[],(rg 12 8 [])⟩) .leaf (.seq .leaf (.cond (some ⟨[(10,ah)],[],(rg 13 7 [])⟩) .leaf (.seq .leaf (.cond (some ⟨[(10,ah)],[],(rg 14 6 [])⟩) .leaf (.seq .leaf (.cond (some ⟨[(10,ah)],[],(rg 15 5 [])⟩) .leaf (.seq .leaf (.cond (some ⟨[(10,ah)],[],[16,17,18,19]⟩) .leaf (.seq .leaf (.cond (some ⟨[(10,ah)],[],[17,18,19]⟩) .leaf (.seq .leaf (.cond (some ⟨[(10,ah)],[],[18,19]⟩) .leaf (.seq .leaf (.cond (some ⟨[(10,ah)],[],[19]⟩) .leaf .leaf)))))))))))))))) (.cond (some ⟨[(4,ah),(5,ah),(6,ah),(7,ah),(8,ah)],[],(rg 20 9 [])⟩) .leaf (.seq .leaf (.cond (some ⟨[(4,ah),(5,ah),(6,ah),(7,ah),(8,ah)],[],(rg 22 7 [])⟩) .leaf (.seq .leaf (.cond (some ⟨[(4,ah),(5,ah),(6,ah),(8,ah)],[],(rg 24 5 [])⟩) .leaf (.seq .leaf (.cond (some ⟨[(5,ah),(6,ah)],[],[26,27,28]⟩) .leaf (.seq (.seq .leaf (.cond (some ⟨[(26,ah)],[],[28]⟩) .leaf .leaf)) (.cond (some ⟨[(6,ah)],[],[]⟩) .leaf .leaf)))))))))))) (.seq (.reg ⟨[(4,ah),(5,ah),(6,ah),(7,ah),(8,ah)],[],(rg 29 13 [])⟩) .leaf)))
theorem NW(a0:Int)(a1:Int)(H:Heap)(Q:Bool×Bool×Bool×Bool×Bool×Unit->Heap->Prop):uF a0 a1 H Q=eP C [] Tryz.f129.ntmps Tryz.f129.results.toList [ah,ah,ah,ah,ah] (aQ Tryz.f129) NV [(.int .u8 a0),(.int .u8 a1)] H Q:=by kernel_rfl
theorem NY{a0:Int}{a1:Int}{H:Heap}{Q:Bool×Bool×Bool×Bool×Bool×Unit->Heap->Prop}(h:uF a0 a1 H Q):CALL P [ah,ah,ah,ah,ah] sW [(.int .u8 a0),(.int .u8 a1)] H Q:=aB hE Tryz.func129 rfl (by kernel_rfl) (NW a0 a1 H Q) h
def oO(a0:Int)(H:Heap)(Q:Int×Int×Bool×Unit->Heap->Prop):Prop:=
JOIN (fun(j1:(Bool×Unit)×(Unit)->Heap->Prop)=>
aO (a0==9) (
j1 ((a0==9,()),(())) H) (
j1 ((a0==15,()),(())) H)) fun(y2:(Bool×Unit)×(Unit)) H1=>
aO y2.1.1 (
Q ((-99),99,false,()) H1) (
aO (a0==5) (
Q ((-9),9,false,()) H1) (
aO (a0==14) (
Q (0,99,true,()) H1) (
Q (1,99,false,()) H1)))
def Hz:dJ:=(.seq .leaf (.seq (.seq .leaf (.blk none (.seq (.seq .leaf (.cond (some ⟨[(6,ah)],[],[8]⟩) .leaf .leaf)) .leaf))) .leaf))
theorem HY(a0:Int)(H:Heap)(Q:Int×Int×Bool×Unit->Heap->Prop):oO a0 H Q=eP C [] Tryz.f130.ntmps Tryz.f130.results.toList [(au .i64),(au .i64),ah] (aQ Tryz.f130) Hz [(.int .u8 a0)] H Q:=by kernel_rfl
theorem Ia{a0:Int}{H:Heap}{Q:Int×Int×Bool×Unit->Heap->Prop}(h:oO a0 H Q):CALL P [(au .i64),(au .i64),ah] oD [(.int .u8 a0)] H Q:=aB hE Tryz.func130 rfl (by kernel_rfl) (HY a0 H Q) h
def oP(a0:Int)(a1:Int)(H:Heap)(Q:Bool×Unit->Heap->Prop):Prop:=
aO (a0==5) (
CALL P [ah] jw [(.int .u8 a1)] H fun(x1:Bool×Unit) H1=>
Q (x1.1,()) H1) (
aO (a0==6) (
CALL P [ah] jA [(.int .u8 a1)] H fun(x2:Bool×Unit) H2=>
Q (x2.1,()) H2) (
CALL P [ah] qo [(.int .u8 a1)] H fun(x3:Bool×Unit) H3=>
Q (x3.1,()) H3))
def Ib:dJ:=.leaf
theorem Ic(a0:Int)(a1:Int)(H:Heap)(Q:Bool×Unit->Heap->Prop):oP a0 a1 H Q=eP C [] Tryz.f131.ntmps Tryz.f131.results.toList [ah] (aQ Tryz.f131) Ib [(.int .u8 a0),(.int .u8 a1)] H Q:=by kernel_rfl
theorem Ie{a0:Int}{a1:Int}{H:Heap}{Q:Bool×Unit->Heap->Prop}(h:oP a0 a1 H Q):CALL P [ah] oG [(.int .u8 a0),(.int .u8 a1)] H Q:=aB hE Tryz.func131 rfl (by kernel_rfl) (Ic a0 a1 H Q) h
def qF(a0:aV)(H:Heap)(Q:Bool×Unit->Heap->Prop):Prop:=
JOIN (fun(j1:(Bool×Unit)×(Unit)->Heap->Prop)=>
aO (a0.Whom==1) (
j1 ((true,()),(())) H) (
j1 ((a0.Whom==2,()),(())) H)) fun(y2:(Bool×Unit)×(Unit)) H1=>
CALL P [ah] jw [(.int .u8 a0.Verb)] H1 fun(x3:Bool×Unit) H2=>
aO x3.1 (
JOIN (fun(j4:(Bool×Unit)×(Unit)->Heap->Prop)=>
aO (!y2.1.1) (
j4 ((a0.Whom !=3,()),(())) H2) (
j4 ((false,()),(())) H2)) fun(y5:(Bool×Unit)×(Unit)) H3=>
Q (y5.1.1,()) H3) (
CALL P [ah] jA [(.int .u8 a0.Verb)] H2 fun(x6:Bool×Unit) H4=>
aO x6.1 (
Q (a0.Whom !=3,()) H4) (
aO (a0.Whom==3) (
Q (a0.When==1,()) H4) (
JOIN (fun(j7:(Bool×Unit)×(Unit)->Heap->Prop)=>
aO (!y2.1.1) (
j7 ((true,()),(())) H4) (
aO (a0.Verb !=6) (
aO (a0.Verb !=8) (
j7 ((a0.Verb !=9,()),(())) H4) (
j7 ((false,()),(())) H4)) (
j7 ((false,()),(())) H4))) fun(y8:(Bool×Unit)×(Unit)) H5=>
Q (y8.1.1,()) H5)))
def J4:dJ:=(.seq .leaf (.seq (.reg ⟨[(3,ah)],[],(rg 4 8 [])⟩) (.seq (.blk none (.seq .leaf (.cond none (.seq (.reg ⟨[(2,ah)],[],(rg 16 7 [])⟩) .leaf) .leaf))) (.seq (.reg ⟨[(2,ah)],[],(rg 37 17 [])⟩) .leaf))))
theorem J5(a0:aV)(H:Heap)(Q:Bool×Unit->Heap->Prop):qF a0 H Q=eP C [1] Tryz.f132.ntmps Tryz.f132.results.toList [ah] (aQ Tryz.f132) J4 [(aP.enc a0)] H Q:=by kernel_rfl
theorem J6{a0:aV}{H:Heap}{Q:Bool×Unit->Heap->Prop}(h:qF a0 H Q):CALL P [ah] ql [(aP.enc a0)] H Q:=aB hE Tryz.func132 rfl (by kernel_rfl) (J5 a0 H Q) h
def kE(a0:Int)(a1:Bool)(a2:Int)(a3:Int)(H:Heap)(Q:Bool×Unit->Heap->Prop):Prop:=
aO (!a1) (
Q (a0==0,()) H) (
JOIN (fun(j1:(Bool×Unit)×(Unit)->Heap->Prop)=>
aO (decide (a0≥a2)) (
j1 ((decide (a0≤a3),()),(())) H) (
j1 ((false,()),(())) H)) fun(y2:(Bool×Unit)×(Unit)) H1=>
Q (y2.1.1,()) H1)
def Ah:dJ:=(.seq .leaf (.seq .leaf (.seq (.reg ⟨[(8,ah)],[],(rg 13 8 [])⟩) .leaf)))
theorem Ai(a0:Int)(a1:Bool)(a2:Int)(a3:Int)(H:Heap)(Q:Bool×Unit->Heap->Prop):kE a0 a1 a2 a3 H Q=eP C [] Tryz.f133.ntmps Tryz.f133.results.toList [ah] (aQ Tryz.f133) Ah [(.int .i64 a0),(.bool a1),(.int .i64 a2),(.int .i64 a3)] H Q:=by kernel_rfl
theorem Aj{a0:Int}{a1:Bool}{a2:Int}{a3:Int}{H:Heap}{Q:Bool×Unit->Heap->Prop}(h:kE a0 a1 a2 a3 H Q):CALL P [ah] jW [(.int .i64 a0),(.bool a1),(.int .i64 a2),(.int .i64 a3)] H Q:=aB hE Tryz.func133 rfl (by kernel_rfl) (Ai a0 a1 a2 a3 H Q) h
def iw(a0:Int)(a1:Bool)(a2:Int)(a3:Int)(H:Heap)(Q:Bool×Unit->Heap->Prop):Prop:=
aO (!a1) (
Q (a0==0,()) H) (
JOIN (fun(j1:(Bool×Unit)×(Unit)->Heap->Prop)=>
aO (decide (a0≥a2)) (
j1 ((decide (a0≤a3),()),(())) H) (
j1 ((false,()),(())) H)) fun(y2:(Bool×Unit)×(Unit)) H1=>
Q (y2.1.1,()) H1)
def uG:dJ:=(.seq .leaf (.seq .leaf (.seq (.reg ⟨[(8,ah)],[],(rg 13 8 [])⟩) .leaf)))
theorem uH(a0:Int)(a1:Bool)(a2:Int)(a3:Int)(H:Heap)(Q:Bool×Unit->Heap->Prop):iw a0 a1 a2 a3 H Q=eP C [] Tryz.f134.ntmps Tryz.f134.results.toList [ah] (aQ Tryz.f134) uG [(.int .u8 a0),(.bool a1),(.int .u8 a2),(.int .u8 a3)] H Q:=by kernel_rfl
theorem uI{a0:Int}{a1:Bool}{a2:Int}{a3:Int}{H:Heap}{Q:Bool×Unit->Heap->Prop}(h:iw a0 a1 a2 a3 H Q):CALL P [ah] gZ [(.int .u8 a0),(.bool a1),(.int .u8 a2),(.int .u8 a3)] H Q:=aB hE Tryz.func134 rfl (by kernel_rfl) (uH a0 a1 a2 a3 H Q) h
def gG(a0:Int)(a1:Bool)(a2:Int)(a3:Int)(H:Heap)(Q:Bool×Unit->Heap->Prop):Prop:=
aO (!a1) (
Q (a0==0,()) H) (
JOIN (fun(j1:(Bool×Unit)×(Unit)->Heap->Prop)=>
aO (decide (a0≥a2)) (
j1 ((decide (a0≤a3),()),(())) H) (
j1 ((false,()),(())) H)) fun(y2:(Bool×Unit)×(Unit)) H1=>
Q (y2.1.1,()) H1)
def qR:dJ:=(.seq .leaf (.seq .leaf (.seq (.reg ⟨[(8,ah)],[],(rg 13 8 [])⟩) .leaf)))
theorem qU(a0:Int)(a1:Bool)(a2:Int)(a3:Int)(H:Heap)(Q:Bool×Unit->Heap->Prop):gG a0 a1 a2 a3 H Q=eP C [] Tryz.f135.ntmps Tryz.f135.results.toList [ah] (aQ Tryz.f135) qR [(.int .u8 a0),(.bool a1),(.int .u8 a2),(.int .u8 a3)] H Q:=by kernel_rfl
theorem qV{a0:Int}{a1:Bool}{a2:Int}{a3:Int}{H:Heap}{Q:Bool×Unit->Heap->Prop}(h:gG a0 a1 a2 a3 H Q):CALL P [ah] gu [(.int .u8 a0),(.bool a1),(.int .u8 a2),(.int .u8 a3)] H Q:=aB hE Tryz.func135 rfl (by kernel_rfl) (qU a0 a1 a2 a3 H Q) h
def iy(a0:Int)(a1:Bool)(a2:Int)(a3:Int)(H:Heap)(Q:Bool×Unit->Heap->Prop):Prop:=
aO (!a1) (
Q (a0==0,()) H) (
JOIN (fun(j1:(Bool×Unit)×(Unit)->Heap->Prop)=>
aO (decide (a0≥a2)) (
j1 ((decide (a0≤a3),()),(())) H) (
j1 ((false,()),(())) H)) fun(y2:(Bool×Unit)×(Unit)) H1=>
Q (y2.1.1,()) H1)
def uJ:dJ:=(.seq .leaf (.seq .leaf (.seq (.reg ⟨[(8,ah)],[],(rg 13 8 [])⟩) .leaf)))
theorem uK(a0:Int)(a1:Bool)(a2:Int)(a3:Int)(H:Heap)(Q:Bool×Unit->Heap->Prop):iy a0 a1 a2 a3 H Q=eP C [] Tryz.f136.ntmps Tryz.f136.results.toList [ah] (aQ Tryz.f136) uJ [(.int .u8 a0),(.bool a1),(.int .u8 a2),(.int .u8 a3)] H Q:=by kernel_rfl
theorem uM{a0:Int}{a1:Bool}{a2:Int}{a3:Int}{H:Heap}{Q:Bool×Unit->Heap->Prop}(h:iy a0 a1 a2 a3 H Q):CALL P [ah] iq [(.int .u8 a0),(.bool a1),(.int .u8 a2),(.int .u8 a3)] H Q:=aB hE Tryz.func136 rfl (by kernel_rfl) (uK a0 a1 a2 a3 H Q) h
def uN(a0:ByteArray)(H:Heap)(Q:Bool×Unit->Heap->Prop):Prop:=
JOIN (fun(j1:(Bool×Unit)×(Unit)->Heap->Prop)=>
dX (au .i64) (oW E 9 (.string a0) H) fun(x3:Int)=>
aO (decide (x3≥1)) (
dX (au .i64) (oW E 9 (.string a0) H) fun(x4:Int)=>
aO (decide (x4≤20)) (
dX (au .u8) (dF E 9 (.string a0) (.int .i64 0)) fun(x5:Int)=>
aO (x5 !=45) (
CALL P [dH] jG [(.string a0),(.string (ByteArray.mk #[97,98,99,100,101,102,103,104,105,106,107,108,109,110,111,112,113,114,115,116,117,118,119,120,121,122,45]))] H fun(x6:ByteArray×Unit) H2=>
j1 ((x6.1.toList==(ByteArray.mk #[]).toList,()),(())) H2) (
j1 ((false,()),(())) H)) (
j1 ((false,()),(())) H)) (
j1 ((false,()),(())) H)) fun(y2:(Bool×Unit)×(Unit)) H1=>
Q (y2.1.1,()) H1
def NZ:dJ:=(.seq .leaf (.seq (.reg ⟨[(2,ah)],[],(rg 3 18 [])⟩) .leaf))
theorem N7(a0:ByteArray)(H:Heap)(Q:Bool×Unit->Heap->Prop):uN a0 H Q=eP C [] Tryz.f137.ntmps Tryz.f137.results.toList [ah] (aQ Tryz.f137) NZ [(.string a0)] H Q:=by kernel_rfl
theorem N8{a0:ByteArray}{H:Heap}{Q:Bool×Unit->Heap->Prop}(h:uN a0 H Q):CALL P [ah] sZ [(.string a0)] H Q:=aB hE Tryz.func137 rfl (by kernel_rfl) (N7 a0 H Q) h
def wM(a0:Int)(a1:Int)(H:Heap)(Q:Bool×Bool×Bool×Bool×Bool×Unit->Heap->Prop):Prop:=
CALL P [(au .i64),(au .i64)] lM [(.int .u8 a0)] H fun(x1:Int×Int×Unit) H1=>
JOIN (fun(j2:(Bool×Bool×Bool×Bool×Bool×Unit)×(Unit)->Heap->Prop)=>
aO (a0==11) (
aO (a0==12) (
j2 ((decide (x1.2.1>0),true,true,a0==9,a0==7,()),(())) H1) (
aO (a0==13) (
j2 ((decide (x1.2.1>0),true,true,a0==9,a0==7,()),(())) H1) (
j2 ((decide (x1.2.1>0),true,a1==10,a0==9,a0==7,()),(())) H1))) (
aO (a0==12) (
j2 ((decide (x1.2.1>0),a1==9,true,a0==9,a0==7,()),(())) H1) (
aO (a0==13) (
j2 ((decide (x1.2.1>0),a1==9,true,a0==9,a0==7,()),(())) H1) (
j2 ((decide (x1.2.1>0),a1==9,a1==10,a0==9,a0==7,()),(())) H1)))) fun(y3:(Bool×Bool×Bool×Bool×Bool×Unit)×(Unit)) H2=>
Q (y3.1.1,y3.1.2.1,y3.1.2.2.1,y3.1.2.2.2.1,y3.1.2.2.2.2.1,()) H2
def Qz:dJ:=(.seq .leaf (.seq .leaf (.seq (.reg ⟨[(4,ah),(5,ah),(6,ah),(7,ah),(8,ah)],[],(rg 16 22 [])⟩) .leaf)))
theorem QA(a0:Int)(a1:Int)(H:Heap)(Q:Bool×Bool×Bool×Bool×Bool×Unit->Heap->Prop):wM a0 a1 H Q=eP C [] Tryz.f138.ntmps Tryz.f138.results.toList [ah,ah,ah,ah,ah] (aQ Tryz.f138) Qz [(.int .u8 a0),(.int .u8 a1)] H Q:=by kernel_rfl
theorem QB{a0:Int}{a1:Int}{H:Heap}{Q:Bool×Bool×Bool×Bool×Bool×Unit->Heap->Prop}(h:wM a0 a1 H Q):CALL P [ah,ah,ah,ah,ah] vZ [(.int .u8 a0),(.int .u8 a1)] H Q:=aB hE Tryz.func138 rfl (by kernel_rfl) (QA a0 a1 H Q) h
def wO(a0:Int)(H:Heap)(Q:Int×Unit->Heap->Prop):Prop:=
JOIN (fun(j1:(Bool×Unit)×(Unit)->Heap->Prop)=>
aO (decide (a0≥1)) (
j1 ((decide (a0≤9),()),(())) H) (
j1 ((false,()),(())) H)) fun(y2:(Bool×Unit)×(Unit)) H1=>
aO y2.1.1 (
Q (1,()) H1) (
JOIN (fun(j3:(Bool×Unit)×(Unit)->Heap->Prop)=>
aO (decide (a0≥10)) (
j3 ((decide (a0≤15),()),(())) H1) (
j3 ((false,()),(())) H1)) fun(y4:(Bool×Unit)×(Unit)) H2=>
aO y4.1.1 (
Q (2,()) H2) (
JOIN (fun(j5:(Bool×Unit)×(Unit)->Heap->Prop)=>
aO (decide (a0≥16)) (
j5 ((decide (a0≤19),()),(())) H2) (
j5 ((false,()),(())) H2)) fun(y6:(Bool×Unit)×(Unit)) H3=>
aO y6.1.1 (
Q (3,()) H3) (
Q (0,()) H3)))
def QC:dJ:=(.seq .leaf (.seq (.blk none (.seq (.reg ⟨[(3,ah)],[],(rg 4 6 [])⟩) (.cond none .leaf (.seq (.reg ⟨[(10,ah)],[],(rg 11 6 [])⟩) (.cond none .leaf (.seq (.reg ⟨[(17,ah)],[],(rg 18 6 [])⟩) .leaf)))))) .leaf))
theorem QD(a0:Int)(H:Heap)(Q:Int×Unit->Heap->Prop):wO a0 H Q=eP C [] Tryz.f139.ntmps Tryz.f139.results.toList [(au .i64)] (aQ Tryz.f139) QC [(.int .u8 a0)] H Q:=by kernel_rfl
theorem QE{a0:Int}{H:Heap}{Q:Int×Unit->Heap->Prop}(h:wO a0 H Q):CALL P [(au .i64)] pF [(.int .u8 a0)] H Q:=aB hE Tryz.func139 rfl (by kernel_rfl) (QD a0 H Q) h
def uO(a0:Int)(H:Heap)(Q:Int×Unit->Heap->Prop):Prop:=
JOIN (fun(j1:(Bool×Unit)×(Unit)->Heap->Prop)=>
aO (decide (a0≥1)) (
j1 ((decide (a0≤4),()),(())) H) (
j1 ((false,()),(())) H)) fun(y2:(Bool×Unit)×(Unit)) H1=>
aO y2.1.1 (
Q (1,()) H1) (
aO (a0==5) (
Q (2,()) H1) (
aO (a0==6) (
Q (3,()) H1) (
Q (0,()) H1)))
def N9:dJ:=(.seq .leaf (.seq (.blk none (.seq (.reg ⟨[(3,ah)],[],(rg 4 6 [])⟩) .leaf)) .leaf))
theorem Oa(a0:Int)(H:Heap)(Q:Int×Unit->Heap->Prop):uO a0 H Q=eP C [] Tryz.f140.ntmps Tryz.f140.results.toList [(au .i64)] (aQ Tryz.f140) N9 [(.int .u8 a0)] H Q:=by kernel_rfl
theorem Ob{a0:Int}{H:Heap}{Q:Int×Unit->Heap->Prop}(h:uO a0 H Q):CALL P [(au .i64)] tq [(.int .u8 a0)] H Q:=aB hE Tryz.func140 rfl (by kernel_rfl) (Oa a0 H Q) h
def uP(a0:aV)(H:Heap)(Q:Bool×Unit->Heap->Prop):Prop:=
JOIN (fun(j1:(Bool×Unit)×(Unit)->Heap->Prop)=>
aO (a0.Whom==1) (
j1 ((true,()),(())) H) (
j1 ((a0.Whom==2,()),(())) H)) fun(y2:(Bool×Unit)×(Unit)) H1=>
CALL P [(au .i64)] pF [(.int .u8 a0.Verb)] H1 fun(x3:Int×Unit) H2=>
aO (x3.1==1) (
JOIN (fun(j4:(Bool×Unit)×(Unit)->Heap->Prop)=>
aO y2.1.1 (
aO (a0.Verb==6) (
j4 ((true,()),(())) H2) (
aO (a0.Verb==8) (
j4 ((true,()),(())) H2) (
j4 ((a0.Verb==9,()),(())) H2))) (
j4 ((false,()),(())) H2)) fun(y5:(Bool×Unit)×(Unit)) H3=>
aO y5.1.1 (
Q (false,()) H3) (
JOIN (fun(j6:(Bool×Unit)×(Unit)->Heap->Prop)=>
aO (a0.Whom !=3) (
j6 ((true,()),(())) H3) (
j6 ((a0.When==1,()),(())) H3)) fun(y7:(Bool×Unit)×(Unit)) H4=>
Q (y7.1.1,()) H4)) (
aO (x3.1==2) (
JOIN (fun(j8:(Bool×Unit)×(Unit)->Heap->Prop)=>
aO (!y2.1.1) (
j8 ((a0.Whom !=3,()),(())) H2) (
j8 ((false,()),(())) H2)) fun(y9:(Bool×Unit)×(Unit)) H5=>
Q (y9.1.1,()) H5) (
Q (a0.Whom !=3,()) H2))
def Oc:dJ:=(.seq .leaf (.seq (.reg ⟨[(3,ah)],[],(rg 4 8 [])⟩) (.seq (.seq .leaf (.blk none (.seq .leaf (.cond none (.seq (.seq (.reg ⟨[(32,ah)],[],(rg 17 15 [])⟩) .leaf) (.seq (.reg ⟨[(2,ah)],[],(rg 33 8 [])⟩) .leaf)) (.seq .leaf (.cond none (.seq (.reg ⟨[(2,ah)],[],(rg 43 7 [])⟩) .leaf) .leaf)))))) .leaf)))
theorem Oe(a0:aV)(H:Heap)(Q:Bool×Unit->Heap->Prop):uP a0 H Q=eP C [1] Tryz.f141.ntmps Tryz.f141.results.toList [ah] (aQ Tryz.f141) Oc [(aP.enc a0)] H Q:=by kernel_rfl
theorem Og{a0:aV}{H:Heap}{Q:Bool×Unit->Heap->Prop}(h:uP a0 H Q):CALL P [ah] tu [(aP.enc a0)] H Q:=aB hE Tryz.func141 rfl (by kernel_rfl) (Oe a0 H Q) h
def oQ(a0:aV)(H:Heap)(Q:Bool×Unit->Heap->Prop):Prop:=
CALL P [(au .i64),(au .i64)] lM [(.int .u8 a0.Verb)] H fun(x1:Int×Int×Unit) H1=>
JOIN (fun(j2:(Bool×Unit)×(Unit)->Heap->Prop)=>
aO (decide (a0.Count≥x1.1)) (
aO (decide (a0.Count≤x1.2.1)) (
aO (decide (x1.1≥0)) (
j2 ((true,()),(())) H1) (
j2 ((a0.Count !=0,()),(())) H1)) (
j2 ((false,()),(())) H1)) (
j2 ((false,()),(())) H1)) fun(y3:(Bool×Unit)×(Unit)) H2=>
Q (y3.1.1,()) H2
def Ig:dJ:=(.seq .leaf (.seq .leaf (.seq (.reg ⟨[(2,ah)],[],(rg 11 19 [])⟩) .leaf)))
theorem Ih(a0:aV)(H:Heap)(Q:Bool×Unit->Heap->Prop):oQ a0 H Q=eP C [1] Tryz.f142.ntmps Tryz.f142.results.toList [ah] (aQ Tryz.f142) Ig [(aP.enc a0)] H Q:=by kernel_rfl
theorem Ii{a0:aV}{H:Heap}{Q:Bool×Unit->Heap->Prop}(h:oQ a0 H Q):CALL P [ah] oH [(aP.enc a0)] H Q:=aB hE Tryz.func142 rfl (by kernel_rfl) (Ih a0 H Q) h
def qG(a0:Bool)(a1:Int)(a2:Int)(H:Heap)(Q:Bool×Unit->Heap->Prop):Prop:=
aO (!a0) (
Q (a1==0,()) H) (
JOIN (fun(j1:(Bool×Unit)×(Unit)->Heap->Prop)=>
aO (decide (a1≥1)) (
j1 ((decide (a1≤a2),()),(())) H) (
j1 ((false,()),(())) H)) fun(y2:(Bool×Unit)×(Unit)) H1=>
Q (y2.1.1,()) H1)
def J7:dJ:=(.seq .leaf (.seq .leaf (.seq (.reg ⟨[(6,ah)],[],(rg 11 7 [])⟩) .leaf)))
theorem J8(a0:Bool)(a1:Int)(a2:Int)(H:Heap)(Q:Bool×Unit->Heap->Prop):qG a0 a1 a2 H Q=eP C [] Tryz.f143.ntmps Tryz.f143.results.toList [ah] (aQ Tryz.f143) J7 [(.bool a0),(.int .i64 a1),(.int .i64 a2)] H Q:=by kernel_rfl
theorem J9{a0:Bool}{a1:Int}{a2:Int}{H:Heap}{Q:Bool×Unit->Heap->Prop}(h:qG a0 a1 a2 H Q):CALL P [ah] jF [(.bool a0),(.int .i64 a1),(.int .i64 a2)] H Q:=aB hE Tryz.func143 rfl (by kernel_rfl) (J8 a0 a1 a2 H Q) h
def wP(a0:ByteArray)(H:Heap)(Q:Bool×Unit->Heap->Prop):Prop:=
JOIN (fun(j1:(Bool×Unit)×(Unit)->Heap->Prop)=>
dX (au .i64) (oW E 9 (.string a0) H) fun(x3:Int)=>
aO (decide (x3<1)) (
j1 ((true,()),(())) H) (
dX (au .i64) (oW E 9 (.string a0) H) fun(x4:Int)=>
aO (decide (x4>20)) (
j1 ((true,()),(())) H) (
dX (au .u8) (dF E 9 (.string a0) (.int .i64 0)) fun(x5:Int)=>
j1 ((x5==45,()),(())) H))) fun(y2:(Bool×Unit)×(Unit)) H1=>
aO y2.1.1 (
Q (false,()) H1) (
JOIN (fun(j6:(Unit)×(Unit)->Heap->Prop)=>
LOOP (fun(r8:(Int×Unit)×(Unit)->Heap->Prop) (s9:(Int×Unit)×(Unit)) H3=>
dX (au .i64) (oW E 9 (.string a0) H3) fun(x10:Int)=>
aO (decide (s9.1.1<x10)) (
JOIN (fun(j11:(Bool×Unit)×(Unit)->Heap->Prop)=>
dX (au .u8) (dF E 9 (.string a0) (.int .i64 s9.1.1)) fun(x13:Int)=>
aO (decide (x13<97)) (
dX (au .u8) (dF E 9 (.string a0) (.int .i64 s9.1.1)) fun(x14:Int)=>
j11 ((x14 !=45,()),(())) H3) (
dX (au .u8) (dF E 9 (.string a0) (.int .i64 s9.1.1)) fun(x15:Int)=>
aO (decide (x15>122)) (
dX (au .u8) (dF E 9 (.string a0) (.int .i64 s9.1.1)) fun(x16:Int)=>
j11 ((x16 !=45,()),(())) H3) (
j11 ((false,()),(())) H3))) fun(y12:(Bool×Unit)×(Unit)) H4=>
aO y12.1.1 (
Q (false,()) H4) (
r8 ((IntKind.wrap .i64 (s9.1.1+1),()),(())) H4)) (
j6 ((()),(())) H3)) ((0,()),(())) H1) fun(y7:(Unit)×(Unit)) H2=>
Q (true,()) H2)
def QF:dJ:=(.seq .leaf (.seq (.seq (.reg ⟨[(16,ah)],[],(rg 4 12 [])⟩) .leaf) (.seq (.seq .leaf (.blk (some ⟨[],[],(rg 2 2 (rg 17 22 []))⟩) (.loop ⟨[(3,(au .i64))],[],(rg 2 1 (rg 17 22 []))⟩ (.seq .leaf (.seq (.blk none (.seq (.reg ⟨[(38,ah)],[],(rg 23 15 [])⟩) .leaf)) .leaf))))) .leaf)))
theorem QG(a0:ByteArray)(H:Heap)(Q:Bool×Unit->Heap->Prop):wP a0 H Q=eP C [] Tryz.f144.ntmps Tryz.f144.results.toList [ah] (aQ Tryz.f144) QF [(.string a0)] H Q:=by kernel_rfl
theorem QH{a0:ByteArray}{H:Heap}{Q:Bool×Unit->Heap->Prop}(h:wP a0 H Q):CALL P [ah] wo [(.string a0)] H Q:=aB hE Tryz.func144 rfl (by kernel_rfl) (QG a0 H Q) h
def yZ(a0:Int)(a1:Int)(H:Heap)(Q:Bool×Unit->Heap->Prop):Prop:=
CALL P [(au .u16)] nT [(.int .u8 a1)] H fun(x1:Int×Unit) H1=>
Q ((IntKind.wrap .u16 (((BitVec.ofInt (IntKind.bits .u16) a0 &&& BitVec.ofInt (IntKind.bits .u16) x1.1).toNat:Int))) !=0,()) H1
def Uo:dJ:=.leaf
theorem Ur(a0:Int)(a1:Int)(H:Heap)(Q:Bool×Unit->Heap->Prop):yZ a0 a1 H Q=eP C [] Tryz.f147.ntmps Tryz.f147.results.toList [ah] (aQ Tryz.f147) Uo [(.int .u16 a0),(.int .u8 a1)] H Q:=by kernel_rfl
theorem Us{a0:Int}{a1:Int}{H:Heap}{Q:Bool×Unit->Heap->Prop}(h:yZ a0 a1 H Q):CALL P [ah] rJ [(.int .u16 a0),(.int .u8 a1)] H Q:=aB hE Tryz.func147 rfl (by kernel_rfl) (Ur a0 a1 H Q) h
def zf(a0:Int)(H:Heap)(Q:Int×Unit->Heap->Prop):Prop:=
CALL P [ah] JB [(.int .u8 a0)] H fun(x1:Bool×Unit) H1=>
aO (!x1.1) (
Q (0,()) H1) (
xB ((0:Int)≤(IntKind.wrap .u8 (a0-1))) (
Q (IntKind.wrap .u16 (1*2 ^ (min (IntKind.wrap .u8 (a0-1)).toNat (IntKind.bits .u16))),()) H1))
def Ut:dJ:=.leaf
theorem Uu(a0:Int)(H:Heap)(Q:Int×Unit->Heap->Prop):zf a0 H Q=eP C [] Tryz.f148.ntmps Tryz.f148.results.toList [(au .u16)] (aQ Tryz.f148) Ut [(.int .u8 a0)] H Q:=by kernel_rfl
theorem Uw{a0:Int}{H:Heap}{Q:Int×Unit->Heap->Prop}(h:zf a0 H Q):CALL P [(au .u16)] nT [(.int .u8 a0)] H Q:=aB hE Tryz.func148 rfl (by kernel_rfl) (Uu a0 H Q) h
def qH(a0:Int)(H:Heap)(Q:Int×Unit->Heap->Prop):Prop:=
aO (a0==10) (
Q (1,()) H) (
aO (a0==11) (
Q (2,()) H) (
JOIN (fun(j1:(Bool×Unit)×(Unit)->Heap->Prop)=>
aO (a0==12) (
j1 ((a0==12,()),(())) H) (
j1 ((a0==13,()),(())) H)) fun(y2:(Bool×Unit)×(Unit)) H1=>
aO y2.1.1 (
Q (3,()) H1) (
aO (a0==14) (
Q (4,()) H1) (
aO (a0==15) (
Q (5,()) H1) (
Q (0,()) H1)))))
def Ko:dJ:=(.seq .leaf (.seq (.seq .leaf (.blk none (.seq .leaf (.cond none .leaf (.seq .leaf (.cond none .leaf (.seq (.seq .leaf (.cond (some ⟨[(8,ah)],[],[10]⟩) .leaf .leaf)) .leaf))))))) .leaf))
theorem Kq(a0:Int)(H:Heap)(Q:Int×Unit->Heap->Prop):qH a0 H Q=eP C [] Tryz.f160.ntmps Tryz.f160.results.toList [(au .i64)] (aQ Tryz.f160) Ko [(.int .u8 a0)] H Q:=by kernel_rfl
theorem Kr{a0:Int}{H:Heap}{Q:Int×Unit->Heap->Prop}(h:qH a0 H Q):CALL P [(au .i64)] qm [(.int .u8 a0)] H Q:=aB hE Tryz.func160 rfl (by kernel_rfl) (Kq a0 H Q) h
end Zv
end Go.Proofs.YtijnknjopjmiiaaGreatDoor
end
section
namespace Go.Proofs.YtijnknjopjmiiaaGreatDoor
open Go Zq
namespace Zv
set_option maxRecDepth 100000
set_option linter.unusedVariables false
def iQ(a0:Sl)(a1:Sl)(H:Heap)(Q:Bool×Unit->Heap->Prop):Prop:=
aO ((a0.len:Int) !=(a1.len:Int)) (
Q (false,()) H) (
JOIN (fun(j1:(Unit)×(Unit)->Heap->Prop)=>
LOOP (fun(r3:(Int×Unit)×(Unit)->Heap->Prop) (s4:(Int×Unit)×(Unit)) H2=>
aO (decide (s4.1.1<(a0.len:Int))) (
dR a0.p a0.len s4.1.1 1 fun b5 o6=>
LD (au .i64) H2 b5 o6 fun(x7:Int)=>
dR a1.p a1.len s4.1.1 1 fun b8 o9=>
LD (au .i64) H2 b8 o9 fun(x10:Int)=>
aO (x7 !=x10) (
Q (false,()) H2) (
r3 ((IntKind.wrap .i64 (s4.1.1+1),()),(())) H2)) (
j1 ((()),(())) H2)) ((0,()),(())) H) fun(y2:(Unit)×(Unit)) H1=>
Q (true,()) H1)
def wQ:dJ:=(.seq .leaf (.seq .leaf (.seq (.seq .leaf (.blk (some ⟨[],[],(rg 4 2 (rg 13 13 []))⟩) (.loop ⟨[(13,(au .i64))],[],(rg 4 2 (rg 14 12 []))⟩ .leaf))) .leaf)))
theorem wR(a0:Sl)(a1:Sl)(H:Heap)(Q:Bool×Unit->Heap->Prop):iQ a0 a1 H Q=eP C [] Tryz.f161.ntmps Tryz.f161.results.toList [ah] (aQ Tryz.f161) wQ [a0.v,a1.v] H Q:=by kernel_rfl
theorem wS{a0:Sl}{a1:Sl}{H:Heap}{Q:Bool×Unit->Heap->Prop}(h:iQ a0 a1 H Q):CALL P [ah] iO [a0.v,a1.v] H Q:=aB hE Tryz.func161 rfl (by kernel_rfl) (wR a0 a1 H Q) h
def lZ(a0:Int)(H:Heap)(Q:Bool×Unit->Heap->Prop):Prop:=
JOIN (fun(j1:(Bool×Unit)×(Unit)->Heap->Prop)=>
aO (decide (a0≥10)) (
j1 ((decide (a0≤15),()),(())) H) (
j1 ((false,()),(())) H)) fun(y2:(Bool×Unit)×(Unit)) H1=>
Q (y2.1.1,()) H1
def D6:dJ:=(.seq .leaf (.seq (.reg ⟨[(2,ah)],[],(rg 3 6 [])⟩) .leaf))
theorem D7(a0:Int)(H:Heap)(Q:Bool×Unit->Heap->Prop):lZ a0 H Q=eP C [] Tryz.f163.ntmps Tryz.f163.results.toList [ah] (aQ Tryz.f163) D6 [(.int .u8 a0)] H Q:=by kernel_rfl
theorem D8{a0:Int}{H:Heap}{Q:Bool×Unit->Heap->Prop}(h:lZ a0 H Q):CALL P [ah] jw [(.int .u8 a0)] H Q:=aB hE Tryz.func163 rfl (by kernel_rfl) (D7 a0 H Q) h
def l9(a0:Int)(H:Heap)(Q:Bool×Unit->Heap->Prop):Prop:=
JOIN (fun(j1:(Bool×Unit)×(Unit)->Heap->Prop)=>
aO (decide (a0≥16)) (
j1 ((decide (a0≤19),()),(())) H) (
j1 ((false,()),(())) H)) fun(y2:(Bool×Unit)×(Unit)) H1=>
Q (y2.1.1,()) H1
def D9:dJ:=(.seq .leaf (.seq (.reg ⟨[(2,ah)],[],(rg 3 6 [])⟩) .leaf))
theorem Ea(a0:Int)(H:Heap)(Q:Bool×Unit->Heap->Prop):l9 a0 H Q=eP C [] Tryz.f164.ntmps Tryz.f164.results.toList [ah] (aQ Tryz.f164) D9 [(.int .u8 a0)] H Q:=by kernel_rfl
theorem Eb{a0:Int}{H:Heap}{Q:Bool×Unit->Heap->Prop}(h:l9 a0 H Q):CALL P [ah] jA [(.int .u8 a0)] H Q:=aB hE Tryz.func164 rfl (by kernel_rfl) (Ea a0 H Q) h
def qI(a0:Int)(H:Heap)(Q:Bool×Unit->Heap->Prop):Prop:=
JOIN (fun(j1:(Bool×Unit)×(Unit)->Heap->Prop)=>
aO (decide (a0≥1)) (
j1 ((decide (a0≤9),()),(())) H) (
j1 ((false,()),(())) H)) fun(y2:(Bool×Unit)×(Unit)) H1=>
Q (y2.1.1,()) H1
def Kt:dJ:=(.seq .leaf (.seq (.reg ⟨[(2,ah)],[],(rg 3 6 [])⟩) .leaf))
theorem Ku(a0:Int)(H:Heap)(Q:Bool×Unit->Heap->Prop):qI a0 H Q=eP C [] Tryz.f165.ntmps Tryz.f165.results.toList [ah] (aQ Tryz.f165) Kt [(.int .u8 a0)] H Q:=by kernel_rfl
theorem Kv{a0:Int}{H:Heap}{Q:Bool×Unit->Heap->Prop}(h:qI a0 H Q):CALL P [ah] qo [(.int .u8 a0)] H Q:=aB hE Tryz.func165 rfl (by kernel_rfl) (Ku a0 H Q) h
def qJ(a0:Int)(H:Heap)(Q:Int×Int×Unit->Heap->Prop):Prop:=
JOIN (fun(j1:(Bool×Unit)×(Unit)->Heap->Prop)=>
aO (a0==1) (
j1 ((a0==1,()),(())) H) (
JOIN (fun(j3:(Bool×Unit)×(Unit)->Heap->Prop)=>
aO (a0==2) (
j3 ((a0==2,()),(())) H) (
JOIN (fun(j5:(Bool×Unit)×(Unit)->Heap->Prop)=>
aO (a0==3) (
j5 ((a0==3,()),(())) H) (
JOIN (fun(j7:(Bool×Unit)×(Unit)->Heap->Prop)=>
aO (a0==4) (
j7 ((a0==4,()),(())) H) (
JOIN (fun(j9:(Bool×Unit)×(Unit)->Heap->Prop)=>
aO (a0==7) (
j9 ((a0==7,()),(())) H) (
JOIN (fun(j11:(Bool×Unit)×(Unit)->Heap->Prop)=>
aO (a0==16) (
j11 ((a0==16,()),(())) H) (
j11 ((a0==19,()),(())) H)) fun(y12:(Bool×Unit)×(Unit)) H6=>
j9 ((y12.1.1,()),(())) H6)) fun(y10:(Bool×Unit)×(Unit)) H5=>
j7 ((y10.1.1,()),(())) H5)) fun(y8:(Bool×Unit)×(Unit)) H4=>
j5 ((y8.1.1,()),(())) H4)) fun(y6:(Bool×Unit)×(Unit)) H3=>
j3 ((y6.1.1,()),(())) H3)) fun(y4:(Bool×Unit)×(Unit)) H2=>
j1 ((y4.1.1,()),(())) H2)) fun(y2:(Bool×Unit)×(Unit)) H1=>
aO y2.1.1 (
Q (1,99,()) H1) (
JOIN (fun(j13:(Bool×Unit)×(Unit)->Heap->Prop)=>
aO (a0==9) (
j13 ((a0==9,()),(())) H1) (
j13 ((a0==15,()),(())) H1)) fun(y14:(Bool×Unit)×(Unit)) H7=>
aO y14.1.1 (
Q ((-99),99,()) H7) (
aO (a0==5) (
Q ((-9),9,()) H7) (
aO (a0==14) (
Q (0,99,()) H7) (
Q (0,0,()) H7))))
def Ky:dJ:=(.seq .leaf (.seq (.seq .leaf (.blk none (.seq (.seq .leaf (.cond (some ⟨[(5,ah)],[],(rg 7 6 [])⟩) .leaf (.seq .leaf (.cond (some ⟨[(5,ah)],[],(rg 8 5 [])⟩) .leaf (.seq .leaf (.cond (some ⟨[(5,ah)],[],[9,10,11,12]⟩) .leaf (.seq .leaf (.cond (some ⟨[(5,ah)],[],[10,11,12]⟩) .leaf (.seq .leaf (.cond (some ⟨[(5,ah)],[],[11,12]⟩) .leaf (.seq .leaf (.cond (some ⟨[(5,ah)],[],[12]⟩) .leaf .leaf)))))))))))) (.cond none .leaf (.seq (.seq .leaf (.cond (some ⟨[(13,ah)],[],[15]⟩) .leaf .leaf)) .leaf))))) .leaf))
theorem Kz(a0:Int)(H:Heap)(Q:Int×Int×Unit->Heap->Prop):qJ a0 H Q=eP C [] Tryz.f166.ntmps Tryz.f166.results.toList [(au .i64),(au .i64)] (aQ Tryz.f166) Ky [(.int .u8 a0)] H Q:=by kernel_rfl
theorem KA{a0:Int}{H:Heap}{Q:Int×Int×Unit->Heap->Prop}(h:qJ a0 H Q):CALL P [(au .i64),(au .i64)] lM [(.int .u8 a0)] H Q:=aB hE Tryz.func166 rfl (by kernel_rfl) (Kz a0 H Q) h
def BX(a0:Int)(H:Heap)(Q:Bool×Unit->Heap->Prop):Prop:=
JOIN (fun(j1:(Bool×Unit)×(Unit)->Heap->Prop)=>
aO (decide (a0≥1)) (
j1 ((decide (a0≤8),()),(())) H) (
j1 ((false,()),(())) H)) fun(y2:(Bool×Unit)×(Unit)) H1=>
Q (y2.1.1,()) H1
def VU:dJ:=(.seq .leaf (.seq (.reg ⟨[(2,ah)],[],(rg 3 6 [])⟩) .leaf))
theorem VW(a0:Int)(H:Heap)(Q:Bool×Unit->Heap->Prop):BX a0 H Q=eP C [] Tryz.f177.ntmps Tryz.f177.results.toList [ah] (aQ Tryz.f177) VU [(.int .u8 a0)] H Q:=by kernel_rfl
theorem VX{a0:Int}{H:Heap}{Q:Bool×Unit->Heap->Prop}(h:BX a0 H Q):CALL P [ah] JB [(.int .u8 a0)] H Q:=aB hE Tryz.func177 rfl (by kernel_rfl) (VW a0 H Q) h
end Zv
end Go.Proofs.YtijnknjopjmiiaaGreatDoor
end
section
namespace Go.Proofs.YtijnknjopjmiiaaGreatDoor.Zq
open Go.Proofs Go.RowKit
theorem Stp.abT{M:Mp}{H:Heap}{w W:World}(h:HR M H w)(b:Below w.heap.size w W)(hd:w.drawn≤W.drawn):Stp M H w M H W:=by
 have hh:∀j,j<w.heap.size->W.heap[j]? =w.heap[j]? :=b.block
 refine⟨.refl M,⟨h.len,fun b e k hb hk=>(h.blk b e k hb hk).same fun hlv=>hh _ (h.lq hb ?_),h.sep⟩,b.os,b.output,b.tape,b.size,hd,fun c hc _=>hh c hc,fun b e hb hw _=>⟨b,e,hb,hw,rfl⟩,fun _ h=>⟨h,rfl⟩,fun b e hb hw _=>⟨b,e,hb,hw,rfl⟩⟩
 unfold bP; rw[hk]; cases k<;>first|exact hlv|trivial
section
open Zv
abbrev Oh:ByteArray:=ByteArray.mk #[97,98,99,100,101,102,103,104,105,106,107,108,109,110,111,112,113,114,115,116,117,118,119,120,121,122,45]
theorem trim_c{H:Heap}{s:ByteArray}(h0:0<s.size)(hs:s.size≤9223372036854775807){Q:ByteArray×Unit->Heap->Prop}(hq:Q (⟨(Lib.trimS s.data.toList Oh.data.toList).toArray⟩,()) H):CALL P [dH] jG [.string s,.string Oh] H Q:=by
 have hfn:∃fn,P.funcs[jG]? =some fn∧fn.body.isSome=true∧(fn.name=="runtime.NumGoroutine")=false:=⟨_,lays160.f160,by kernel_rfl,by kernel_rfl⟩
 refine⟨hfn,fun n M w args' hr hv=> ?_⟩
 obtain⟨v1,vs1,rfl,h1,hv1⟩:=hv.of_cons
 obtain⟨v2,vs2,rfl,h2,hv2⟩:=hv1.of_cons
 have:=hv2.of_nil; subst this
 have:=h1.of_string; subst this
 have:=h2.of_string; subst this
 have h116:(P.info? (rG.t 116)).map (fun i=>(i.zero,i.size))=some (some (.agg (Array.replicate 256 (.bool false))),256):=by kernel_rfl
 refine callsIn_wide.2 ((Any.strings_Trim_set lays160 (zero_of_info h116).1 (zero_of_info h116).2 s Oh w (by decide) h0 hs (by decide) (ascii_of_all (by decide))).mono ?_)
 rintro en w' ⟨rfl,q,rfl⟩
 exact⟨.string _,_,M,H,rfl,Stp.abT hr (by have b:=((Below.refl w.heap.size w).alloc (Nat.le_refl _) (.cells (Lib.setCells Oh.data.toList) (rG.t 116))).alloc (by show w.heap.size≤(w.heap.push _).size; simp) (.cells (Lib.setCells Oh.data.toList) (rG.t 116)); exact⟨b.os,b.tape,b.output,b.size,b.block⟩) (by show w.drawn≤w.drawn+q; omega),.string _,_,rfl,hq⟩
theorem adH:∀b:UInt8,Oh.data.toList.contains b=Gw b:=fun b=>by
 have h:∀n:Fin 256,Oh.data.toList.contains (UInt8.ofFin n)=Gw (UInt8.ofFin n):=by decide +kernel
 exact h b.toFin
theorem dropWhile_nil{α:Type}{p:α->Bool}:∀{l:List α},l.dropWhile p=[]↔l.all p=true
 |[]=>by simp
 |a::l=>by
  rw[List.dropWhile_cons,List.all_cons]
  split
  ·rename_i e; rw[e,dropWhile_nil]; simp
  ·rename_i e; simp[e]
theorem Yi(l:List UInt8):Lib.trimS l Oh.data.toList=[]↔l.all Gw=true:=by
 have e:(fun b=>Oh.data.toList.contains b)=Gw:=funext adH
 unfold Lib.trimS Lib.trimLeftS Lib.trimRightS
 rw[e,dropWhile_nil]
 constructor
 ·intro h
  cases hd:l.reverse.dropWhile Gw with
  |nil=>
   rw[dropWhile_nil,List.all_reverse]at hd; exact hd
  |cons x r=>
   have hx:=qp hd
   rw[hd,List.all_eq_true]at h
   have:=h x (by simp)
   rw[this]at hx; cases hx
 ·intro h
  have:l.reverse.dropWhile Gw=[]:=by rw[dropWhile_nil,List.all_reverse]; exact h
  rw[this]; rfl
theorem zh(s:ByteArray):s.size=s.data.toList.length:=by show s.data.size=_; rw[Array.length_toList]
theorem fU{H:Heap}{s:ByteArray}{k:Int->Prop}(hk:k (s.data.toList.length:Int)):dX (au .i64) (oW E 9 (.string s) H) k:=by
 rw[←zh]at hk
 exact⟨_,rfl,hk⟩
theorem jP{s:ByteArray}{i:Int}{n:Nat}(hi:i=n){b:UInt8}(h:s.data.toList[n]? =some b){k:Int->Prop}(hk:k (b.toNat:Int)):dX (au .u8) (dF E 9 (.string s) (.int .i64 i)) k:=by
 refine⟨(b.toNat:Int),?_,hk⟩
 show dF E 9 (.string s) (.int .i64 i)=some (.int .u8 b.toNat)
 have hn:=(List.getElem?_eq_some_iff.1 h).1
 have h1:s[n]? =some b:=by
  rw[ByteArray.getElem?_lt' s n (by rw[zh]; exact hn)]
  rw[List.getElem?_eq_getElem hn]at h
  exact h
 obtain⟨ti,hti,hk⟩:∃ti,E.ty 9=some ti∧ti.k= .string:=⟨_,rfl,rfl⟩
 subst hi
 unfold dF
 simp only[hti,hk,Option.bind_some]
 rw[if_pos (by omega),Int.toNat_natCast,h1]
end
end Go.Proofs.YtijnknjopjmiiaaGreatDoor.Zq
end
section
namespace Go.Proofs.YtijnknjopjmiiaaGreatDoor.Zq
open Zv
section
theorem dD{c:Prop}[Decidable c]{a b:Prop}(h1:c->a)(h2:¬c->b):aO (decide c) a b:=bK (fun e=>h1 (of_decide_eq_true e)) (fun e=>h2 (of_decide_eq_false e))
theorem fM{x y:Int}{a b:Prop}(h1:x=y->a)(h2:x≠y->b):aO (x==y) a b:=bK (fun e=>h1 (by simpa using e)) (fun e=>h2 (by simpa using e))
theorem Ak{x y:Int}{a b:Prop}(h1:x≠y->a)(h2:x=y->b):aO (x !=y) a b:=bK (fun e=>h1 (by simpa using e)) (fun e=>h2 (by simpa using e))
theorem QI{c:Prop}[Decidable c]{a b:Prop}(h1:¬c->a)(h2:c->b):aO (!decide c) a b:=bK (fun e=>h1 (by simpa using e)) (fun e=>h2 (by simpa using e))
theorem JD{H:Heap}{A:((Bool×Unit)×Unit->Heap->Prop)->Prop}{B:(Bool×Unit)×Unit->Heap->Prop}(c:Prop)[Decidable c](hA:∀j:(Bool×Unit)×Unit->Heap->Prop,(∀r:Bool,(r=true↔c)->j ((r,()),()) H)->A j)(hB:B ((decide c,()),()) H):JOIN A B:=
 hA _ fun r hr=>by
  have:r=decide c:=by rw[Bool.eq_iff_iff,hr]; simp
  rw[this]; exact hB
variable{H:Heap}
theorem Qd{R:Type}{Q:R->Prop}{x y:R}(h:Q x)(e:x=y):Q y:=e▸h
theorem KC{v:Int}{Q:Bool×Unit->Heap->Prop}(hq:Q (decide (10≤v∧v≤15),()) H):CALL P [ah] jw [.int .u8 v] H Q:=by
 apply D8
 unfold lZ
 exact JD (H:=H) (10≤v∧v≤15) (fun j hj=>dD (fun h=>hj _ (by simp; omega)) (fun h=>hj _ (by simp; omega))) hq
theorem abU{v:Int}{Q:Bool×Unit->Heap->Prop}(hq:Q (decide (1≤v∧v≤9),()) H):CALL P [ah] qo [.int .u8 v] H Q:=by
 apply Kv
 unfold qI
 exact JD (H:=H) (1≤v∧v≤9) (fun j hj=>dD (fun h=>hj _ (by simp; omega)) (fun h=>hj _ (by simp; omega))) hq
theorem KD{v:Int}{Q:Bool×Unit->Heap->Prop}(hq:Q (decide (16≤v∧v≤19),()) H):CALL P [ah] jA [.int .u8 v] H Q:=by
 apply Eb
 unfold l9
 exact JD (H:=H) (16≤v∧v≤19) (fun j hj=>dD (fun h=>hj _ (by simp; omega)) (fun h=>hj _ (by simp; omega))) hq
theorem Ec{v:Int}:lN v=1↔1≤v∧v≤9:=by
 unfold lN
 repeat' split
 all_goals (simp; try omega)
theorem QJ{v:Int}:lN v=2↔10≤v∧v≤15:=by
 unfold lN
 repeat' split
 all_goals (simp; try omega)
theorem abV{v:Int}:lN v=3↔16≤v∧v≤19:=by
 unfold lN
 repeat' split
 all_goals (simp; try omega)
theorem ZV{w v:Int}(hw:1≤w∧w≤6){Q:Bool×Unit->Heap->Prop}(hq:Q (decide (lN v=yH w),()) H):CALL P [ah] oG [.int .u8 w,.int .u8 v] H Q:=by
 apply Ie
 unfold oP
 refine fM (fun h=>KC (Qd (Q:=fun r=>Q r H) hq ?_)) (fun h=>fM (fun h2=>KD (Qd (Q:=fun r=>Q r H) hq ?_)) (fun h2=>abU (Qd (Q:=fun r=>Q r H) hq ?_)))
 ·have:yH w=2:=by unfold yH; rw[if_neg (by omega),if_pos h]
  simp only[this,QJ]
 ·have:yH w=3:=by unfold yH; rw[if_neg (by omega),if_neg h,if_pos h2]
  simp only[this,abV]
 ·have:yH w=1:=by unfold yH; rw[if_pos (by omega)]
  simp only[this,Ec]
theorem adI{v w:Int}{Q:Bool×Bool×Bool×Bool×Bool×Unit->Heap->Prop}(hq:Q (decide (cU v),decide (sU v w),decide (tU v w),decide (v=9),decide (v=7),()) H):CALL P [ah,ah,ah,ah,ah] sW [.int .u8 v,.int .u8 w] H Q:=by
 apply NY
 unfold uF
 refine JD (H:=H) (v=1∨v=2∨v=3∨v=4∨v=5∨v=14∨v=15∨v=16∨v=19) (fun j hj=> ?_) ?_
 ·refine fM (fun h=>hj _ (by simp; omega)) (fun h1=>bf (fM (fun h=>hj _ (by simp; omega)) (fun h2=>bf (fM (fun h=>hj _ (by simp; omega)) (fun h3=>bf (fM (fun h=>hj _ (by simp; omega)) (fun h4=>bf (fM (fun h=>hj _ (by simp; omega)) (fun h5=>bf (fM (fun h=>hj _ (by simp; omega)) (fun h6=>bf (fM (fun h=>hj _ (by simp; omega)) (fun h7=>bf (fM (fun h=>hj _ (by simp; omega)) (fun h8=>hj _ (by simp; omega))))))))))))))))
 ·refine abP ((decide (cU v),decide (v=11),decide (v=12∨v=13),decide (v=9),decide (v=7),()),()) H (fun j hj=> ?_) ?_
  ·have fin:∀a b c d e:Bool,(a=true↔cU v)->(b=true↔v=11)->(c=true↔v=12∨v=13)->(d=true↔v=9)->(e=true↔v=7)->j ((a,b,c,d,e,()),()) H:=fun a b c d e h1 h2 h3 h4 h5=>by
    have e1:a=decide (cU v):=by rw[Bool.eq_iff_iff,h1]; simp
    have e2:b=decide (v=11):=by rw[Bool.eq_iff_iff,h2]; simp
    have e3:c=decide (v=12∨v=13):=by rw[Bool.eq_iff_iff,h3]; simp
    have e4:d=decide (v=9):=by rw[Bool.eq_iff_iff,h4]; simp
    have e5:e=decide (v=7):=by rw[Bool.eq_iff_iff,h5]; simp
    rw[e1,e2,e3,e4,e5]; exact hj
   refine dD (fun h=>fin _ _ _ _ _ (by simp[cU]; omega) (by simp; omega) (by simp; omega) (by simp; omega) (by simp; omega)) (fun h=>bf (fM (fun h9=>fin _ _ _ _ _ (by simp[cU]; omega) (by simp; omega) (by simp; omega) (by simp; omega) (by simp; omega)) (fun h9=>bf (fM (fun h7=>fin _ _ _ _ _ (by simp[cU]; omega) (by simp; omega) (by simp; omega) (by simp; omega) (by simp; omega)) (fun h7=>bf (fM (fun h11=>fin _ _ _ _ _ (by simp[cU]; omega) (by simp; omega) (by simp; omega) (by simp; omega) (by simp; omega)) (fun h11=> ?_)))))))
   refine JD (H:=H) (v=12∨v=13) (fun j hj=>fM (fun h=>hj _ (by simp; omega)) (fun h=>hj _ (by simp; omega))) (bf (dD (fun h=>fin _ _ _ _ _ (by simp[cU]; omega) (by simp; omega) (by simp; omega) (by simp; omega) (by simp; omega)) (fun h=>fin _ _ _ _ _ (by simp[cU]; omega) (by simp; omega) (by simp; omega) (by simp; omega) (by simp; omega))))
  ·have fin:∀b c:Bool,(b=true↔sU v w)->(c=true↔tU v w)->Q (decide (cU v),b,c,decide (v=9),decide (v=7),()) H:=fun b c h1 h2=>by
    have e1:b=decide (sU v w):=by rw[Bool.eq_iff_iff,h1]; simp
    have e2:c=decide (tU v w):=by rw[Bool.eq_iff_iff,h2]; simp
    rw[e1,e2]; exact hq
   exact bf (dD (fun h=>dD (fun h2=>fin _ _ (by simp[sU]; omega) (by simp[tU]; omega)) (fun h2=>fin _ _ (by simp[sU]; omega) (by simp[tU]; omega))) (fun h=>dD (fun h2=>fin _ _ (by simp[sU]; omega) (by simp[tU]; omega)) (fun h2=>fin _ _ (by simp[sU]; omega) (by simp[tU]; omega))))
theorem ZW{v:Int}{Q:Int×Int×Bool×Unit->Heap->Prop}(hq:Q (zM v,yI v,decide (v=14),()) H):CALL P [au .i64,au .i64,ah] oD [.int .u8 v] H Q:=by
 apply Ia
 unfold oO
 refine JD (H:=H) (v=9∨v=15) (fun j hj=>fM (fun h=>hj _ (by simp; omega)) (fun h=>hj _ (by simp; omega))) (dD (fun h=>Qd (Q:=fun r=>Q r H) hq ?_) (fun h=>fM (fun h2=>Qd (Q:=fun r=>Q r H) hq ?_) (fun h2=>fM (fun h3=>Qd (Q:=fun r=>Q r H) hq ?_) (fun h3=>Qd (Q:=fun r=>Q r H) hq ?_))))
 ·unfold zM yI; rw[if_pos h,if_neg (by omega)]; simp; omega
 ·unfold zM yI; rw[if_neg h,if_pos h2,if_pos h2]; simp; omega
 ·unfold zM yI; rw[if_neg h,if_neg h2,if_pos h3,if_neg h2]; simp; omega
 ·unfold zM yI; rw[if_neg h,if_neg h2,if_neg h3,if_neg h2]; simp; omega
theorem abW{p:Pt}{Q:Bool×Unit->Heap->Prop}(hk:1≤p.Verb∧p.Verb≤19)(hq:∀r:Bool,(r=true↔lQ p)->Q (r,()) H):CALL P [ah] ql [aP.enc p] H Q:=by
 apply J6
 unfold qF
 refine JD (H:=H) (p.Whom=1∨p.Whom=2) (fun j hj=>fM (fun h=>hj _ (by simp; omega)) (fun h=>hj _ (by simp; omega))) (KC (dD (fun h1=> ?_) (fun h1=>KD (dD (fun h2=>hq _ ?_) (fun h2=>fM (fun h3=>hq _ ?_) (fun h3=> ?_))))))
 ·have k1:lN p.Verb≠1:=fun e=>by have:=Ec.1 e; omega
  have k2:lN p.Verb=2:=QJ.2 h1
  refine JD (H:=H) (¬(p.Whom=1∨p.Whom=2)∧p.Whom≠3) (fun j hj=>QI (fun h=>hj _ (by simp; omega)) (fun h=>hj _ (by simp; omega))) (hq _ ?_)
  unfold lQ
  rw[if_neg k1,if_pos k2,decide_eq_true_eq]
 ·have k1:lN p.Verb≠1:=fun e=>by have:=Ec.1 e; omega
  have k2:lN p.Verb≠2:=fun e=>by have:=QJ.1 e; omega
  unfold lQ
  rw[if_neg k1,if_neg k2]; simp
 ·have k1:lN p.Verb=1:=Ec.2 (by omega)
  unfold lQ
  rw[if_pos k1,if_pos h3]; simp
 ·have k1:lN p.Verb=1:=Ec.2 (by omega)
  refine JD (H:=H) (¬((p.Whom=1∨p.Whom=2)∧(p.Verb=6∨p.Verb=8∨p.Verb=9))) (fun j hj=>QI (fun h=>hj _ (by simp; omega)) (fun h=>Ak (fun h6=>Ak (fun h8=>hj _ (by simp; omega)) (fun h8=>hj _ (by simp; omega))) (fun h6=>hj _ (by simp; omega)))) (hq _ ?_)
  unfold lQ
  rw[if_pos k1,if_neg h3,decide_eq_true_eq]
theorem Yj{u:Prop}[Decidable u]{x lo hi:Int}{Q:Bool×Unit->Heap->Prop}(hq:Q (decide (if u then lo≤x∧x≤hi else x=0),()) H):
  aO (!decide u) (Q (x==0,()) H) (JOIN (fun(j1:(Bool×Unit)×(Unit)->Heap->Prop)=>aO (decide (x≥lo)) (j1 ((decide (x≤hi),()),(())) H) (j1 ((false,()),(())) H)) fun(y2:(Bool×Unit)×(Unit)) H1=>Q (y2.1.1,()) H1):=by
 refine QI (fun h=>Qd (Q:=fun r=>Q r H) hq ?_) (fun h=>JD (H:=H) (lo≤x∧x≤hi) (fun j hj=>dD (fun h=>hj _ (by simp; omega)) (fun h=>hj _ (by simp; omega))) (Qd (Q:=fun r=>Q r H) hq ?_))
 ·simp only[if_neg h]; congr 1
 ·simp only[if_pos h]
theorem jB{b:UInt8}:Gw b=true↔b.toNat=45∨97≤b.toNat∧b.toNat≤122:=by
 unfold Gw
 simp only[Bool.or_eq_true,Bool.and_eq_true,decide_eq_true_eq,beq_iff_eq,UInt8.le_iff_toNat_le]
 constructor
 ·rintro(rfl|h)
  ·exact .inl rfl
  ·exact .inr h
 ·rintro(h|h)
  ·exact .inl (UInt8.toNat_inj.1 h)
  ·exact .inr h
instance (s:ByteArray):Decidable (nU s):=by unfold nU; infer_instance
theorem OW{s:ByteArray}{b:UInt8}{r:List UInt8}(h:s.data.toList=b::r)(h20:s.data.toList.length≤20):nU s↔b.toNat≠45∧s.data.toList.all Gw=true:=by
 unfold nU
 rw[h]at h20 ⊢
 simp only[List.length_cons,List.head?_cons,ne_eq,Option.some.injEq]at h20 ⊢
 have:b=45↔b.toNat=45:=⟨fun e=>by rw[e]; rfl,fun e=>UInt8.toNat_inj.1 e⟩
 rw[this]
 constructor
 ·exact fun q=>q.2.2
 ·exact fun q=>⟨by omega,h20,q⟩
theorem zi:(ByteArray.mk #[]).toList=[]:=ByteArray.toList_mk []
theorem Xp{s:ByteArray}(hs:s.size≤9223372036854775807){b:UInt8}{r:List UInt8}(h:s.data.toList=b::r)(h20:s.data.toList.length≤20){j:(Bool×Unit)×Unit->Heap->Prop}(hj:∀r:Bool,(r=true↔nU s)->j ((r,()),()) H):
  dX (au .u8) (dF E 9 (.string s) (.int .i64 0)) fun(x5:Int)=>aO (x5 !=45) (CALL P [dH] jG [(.string s),(.string Oh)] H fun(x6:ByteArray×Unit) H2=>j ((x6.1.toList==(ByteArray.mk #[]).toList,()),(())) H2) (j ((false,()),(())) H):=by
 refine jP (n:=0) rfl (b:=b) (by rw[h]; rfl) (Ak (fun h3=>trim_c (by rw[zh,h]; simp) hs (hj _ ?_)) (fun h3=>hj _ ?_))
 ·rw[OW h h20,zi,ByteArray.toList_mk,beq_iff_eq,Yi]
  exact⟨fun q=>⟨by omega,q⟩,fun q=>q.2⟩
 ·rw[OW h h20]
  simp; omega
theorem abX{s:ByteArray}(hs:s.size≤9223372036854775807){Q:Bool×Unit->Heap->Prop}(hq:Q (decide (nU s),()) H):CALL P [ah] sZ [.string s] H Q:=by
 apply N8
 unfold uN
 refine JD (H:=H) (nU s) (fun j hj=>fU (dD (fun h1=>fU (dD (fun h2=> ?_) (fun h2=>hj _ ?_))) (fun h1=>hj _ ?_))) hq
 ·cases hl:s.data.toList with
  |nil=>rw[hl]at h1; simp at h1
  |cons b r=>exact Xp hs hl (by omega) hj
 ·simp only[Bool.false_eq_true,false_iff]; exact fun q=>by have:=q.2.1; omega
 ·simp only[Bool.false_eq_true,false_iff]; exact fun q=>by have:=q.1; omega
theorem ZX{s:ByteArray}(hs:s.size≤9223372036854775807){Q:Bool×Unit->Heap->Prop}(hq:Q (decide (nU s),()) H):CALL P [ah] vY [.string s] H Q:=by
 apply Qy
 unfold wL
 refine JD (H:=H) (nU s) (fun j hj=>fU (dD (fun h1=>fU (dD (fun h2=> ?_) (fun h2=>hj _ ?_))) (fun h1=>hj _ ?_))) hq
 ·cases hl:s.data.toList with
  |nil=>rw[hl]at h1; simp at h1
  |cons b r=>exact Xp hs hl (by omega) hj
 ·simp only[Bool.false_eq_true,false_iff]; exact fun q=>by have:=q.2.1; omega
 ·simp only[Bool.false_eq_true,false_iff]; exact fun q=>by have:=q.1; omega
theorem FN{L:List UInt8}{F:((Int×Unit)×Unit->Heap->Prop)->(Int×Unit)×Unit->Heap->Prop}{Qf Qt:Prop}
  (hF:∀(G:(Int×Unit)×Unit->Heap->Prop) (n:Nat),(∀b,L[n]? =some b->(Gw b=true->G (((n:Int)+1,()),()) H)->(Gw b=false->Qf)->F G (((n:Int),()),()) H)∧(n=L.length->Qt->F G (((n:Int),()),()) H))
  (ht:L.all Gw=true->Qt) (hf:L.all Gw=false->Qf):LOOP F ((0,()),()) H:=by
 refine bF (fun(t:(Int×Unit)×Unit) H'=>H'=H∧∃n:Nat,t.1.1=n∧n≤L.length∧(L.take n).all Gw=true) (fun t=>L.length-t.1.1.toNat) ?_ ⟨rfl,0,rfl,Nat.zero_le _,by simp⟩
 rintro G ⟨⟨i,_⟩,_⟩ H' ⟨rfl,n,hi,hn,ha⟩ hG
 simp only at hi; subst hi
 dsimp only at hG
 obtain⟨k1,k2⟩:=hF G n
 by_cases e:n=L.length
 ·exact k2 e (ht (by rw[e,List.take_length]at ha; exact ha))
 ·have hlt:n<L.length:=by omega
  refine k1 _ (List.getElem?_eq_getElem hlt) (fun hb=>hG _ _ ⟨rfl,n+1,by simp,hlt,?_⟩ (by simp; omega)) (fun hb=>hf ?_)
  ·rw[List.take_succ_eq_append_getElem hlt,List.all_append,ha]; simp[hb]
  ·rw[List.all_eq_false]; exact⟨_,List.getElem_mem hlt,by simp[hb]⟩
theorem get_at{s:ByteArray}{n:Nat}{b:UInt8}(h:s.data.toList[n]? =some b):s.get! n=b:=by
 have hn:=(List.getElem?_eq_some_iff.1 h).1
 rw[List.getElem?_eq_getElem hn]at h
 have hn':n<s.data.size:=by rw[←Array.length_toList]; exact hn
 show s.data[n]! =b
 rw[getElem!_pos s.data n hn']
 exact Option.some.inj h
theorem Yk{s:ByteArray}{n:Nat}(h:(s.get! n).toNat<128):Utf8.decode s n=((s.get! n).toNat,1):=by
 unfold Utf8.decode
 simp[h]
theorem Yl{s:ByteArray}{n:Nat}(h:128≤(s.get! n).toNat):128≤(Utf8.decode s n).1:=by
 unfold Utf8.decode
 simp only[Nat.add_zero]
 rw[if_neg (by omega)]
 repeat' split
 all_goals first|(simp only[Utf8.runeError]; omega)|skip
 all_goals (rename_i h1; first|(simp only; omega)|(simp only[Bool.and_eq_true,decide_eq_true_eq]at h1; simp only; omega))
theorem Ym{H:Heap}{s:ByteArray}{pos:Nat}(h:pos<s.size):xW (.pointer (some ⟨H.length,0,none⟩)) (H++[.iter s pos])=some (.tuple #[.bool true,.int .i64 pos,.int .i32 (Utf8.decode s pos).1],H++[.iter s (pos+(Utf8.decode s pos).2)]):=by
 unfold xW xU
 simp[h]
theorem ZY{H:Heap}{s:ByteArray}{pos:Nat}(h:¬pos<s.size):xW (.pointer (some ⟨H.length,0,none⟩)) (H++[.iter s pos])=some (.tuple #[.bool false],H++[.iter s pos]):=by
 unfold xW xU
 simp[h]
theorem Z4{S:Type}{F:(S->Heap->Prop)->S->Heap->Prop}(I:S->Heap->Prop)(μ:S->Heap->Nat)(hF:∀(G:S->Heap->Prop) s H,I s H->(∀s' H',I s' H'->μ s' H'<μ s H->G s' H')->F G s H){s:S}{H:Heap}(h:I s H):LOOP F s H:=by
 refine⟨μ s H+1,?_⟩
 have:∀n s H,μ s H<n->I s H->itP F n s H:=by
  intro n
  induction n with
  |zero=>intro s H h; omega
  |succ n ih=>intro s H hm hi; exact hF _ s H hi fun s' H' h1 h2=>ih s' H' (by omega) h1
 exact this _ s H (by omega) h
def Z5(H:Heap)(b:Nat):Nat:=match H[b]? with|some (.iter _ pos)=>pos|_=>0
theorem OX(H:Heap)(s:ByteArray)(pos:Nat):Z5 (H++[.iter s pos]) H.length=pos:=by unfold Z5; simp
theorem abY{s:ByteArray}{Q:Bool×Unit->Heap->Prop}(hq:∀H',bI [] H H'->Q (decide (nU s),()) H'):CALL P [ah] yD [.string s] H Q:=by
 apply Ue
 unfold yO
 have no:∀H',bI [] H H'->¬nU s->Q (false,()) H':=fun H' f hn=>by have:=hq H' f; rwa [decide_eq_false hn]at this
 refine JD (H:=H) (s.data.toList.length=0∨20<s.data.toList.length∨s.data.toList.head? =some 45) (fun j hj=>fU (fM (fun h1=>hj _ ?_) (fun h1=>fU (dD (fun h2=>hj _ ?_) (fun h2=> ?_))))) (dD (fun hbad=>no H (.refl _ _) fun q=> ?_) (fun hgood=> ?_))
 ·simp only[true_iff]; exact .inl (by omega)
 ·simp only[true_iff]; exact .inr (.inl (by omega))
 ·cases hl:s.data.toList with
  |nil=>rw[hl]at h1; simp at h1
  |cons b r=>
   refine jP (n:=0) rfl (b:=b) (by rw[hl]; rfl) (hj _ ?_)
   have h45:b=45↔b.toNat=45:=⟨fun e=>by rw[e]; rfl,fun e=>UInt8.toNat_inj.1 e⟩
   rw[hl]at h2 ⊢
   simp only[List.length_cons,List.head?_cons,Option.some.injEq,h45,beq_iff_eq]at h2 ⊢
   constructor
   ·intro q; right; right; omega
   ·rintro(q|q|q)<;>omega
 ·rcases hbad with e|e|e
  ·have:=q.1; omega
  ·have:=q.2.1; omega
  ·exact q.2.2.1 e
 ·have h45:s.data.toList.head? ≠some 45:=fun e=>hgood (.inr (.inr e))
  have hl1:¬s.data.toList.length=0:=fun e=>hgood (.inl e)
  have hl2:¬20<s.data.toList.length:=fun e=>hgood (.inr (.inl e))
  have fx:∀pos,bI [] H (H++[.iter s pos]):=fun pos=>bI.app _ _ _
  refine⟨_,_,rfl,bf ?_⟩
  refine Z4 (fun(_:Unit×Unit) H'=>∃pos:Nat,H'=H++[.iter s pos]∧pos≤s.data.toList.length∧(s.data.toList.take pos).all Gw=true) (fun _ H'=>s.data.toList.length-Z5 H' H.length) ?_ ⟨0,rfl,Nat.zero_le _,by simp⟩
  rintro G ⟨_,_⟩ H' ⟨pos,rfl,hp,ha⟩ hG
  by_cases hlt:pos<s.data.toList.length
  ·have hx:s.data.toList[pos]? =some (s.data.toList[pos]):=List.getElem?_eq_getElem hlt
   generalize s.data.toList[pos]=b at hx
   have hb:=get_at hx
   have tk:s.data.toList.take (pos+1)=s.data.toList.take pos++[b]:=by
    rw[List.take_succ_eq_append_getElem hlt]
    rw[List.getElem?_eq_getElem hlt]at hx
    rw[Option.some.inj hx]
   refine .inl ⟨_,_,_,Ym (by rw[zh]; exact hlt),?_⟩
   have bad:∀H2,bI [] H H2->Gw b=false->Q (false,()) H2:=fun H2 f hn=>no H2 f fun q=>by
    have:=List.all_eq_true.1 q.2.2.2 b (List.mem_of_getElem? hx)
    rw[hn]at this; cases this
   by_cases hA:b.toNat<128
   ·have hd:=Yk (s:=s) (n:=pos) (by rw[hb]; exact hA)
    rw[hb]at hd
    rw[hd]
    dsimp only
    refine JD (H:=H++[.iter s (pos+1)]) (¬Gw b=true) (fun j hj=>Ak (fun h1=>dD (fun h2=>hj _ ?_) (fun h2=>hj _ ?_)) (fun h1=>hj _ ?_)) (dD (fun h=>bad _ (fx _) (by simpa using h)) (fun h=> ?_))
    ·rw[jB]; simp; omega
    ·rw[jB]; simp; omega
    ·rw[jB]; simp; omega
    ·have h:Gw b=true:=by simpa using h
     refine hG _ _ ⟨pos+1,rfl,hlt,by rw[tk,List.all_append,ha]; simp[h]⟩ ?_
     rw[OX,OX]; omega
   ·have hd:=Yl (s:=s) (n:=pos) (by rw[hb]; omega)
    have hn:Gw b=false:=by
     cases h:Gw b with
     |false=>rfl
     |true=>have:=jB.1 h; omega
    generalize Utf8.decode s pos=d at hd
    refine JD (H:=H++[.iter s (pos+d.2)]) True (fun j hj=>Ak (fun h1=>dD (fun h2=>hj _ (by simp)) (fun h2=>hj _ (by simp; omega))) (fun h1=>by omega)) (fB (by simp) (bad _ (fx _) hn))
  ·have he:pos=s.data.toList.length:=by omega
   subst he
   rw[List.take_length]at ha
   refine .inr ⟨_,ZY (by rw[zh]; exact hlt),?_⟩
   have:=hq _ (fx s.data.toList.length)
   rwa [decide_eq_true (show nU s from⟨by omega,by omega,h45,ha⟩)]at this
theorem mg{s:ByteArray}:nU s↔¬(s.data.toList.length<1∨20<s.data.toList.length∨s.data.toList.head? =some 45)∧s.data.toList.all Gw=true:=by
 unfold nU
 constructor
 ·exact fun q=>⟨by rintro(h|h|h)<;>first|omega|exact q.2.2.1 h,q.2.2.2⟩
 ·exact fun q=>⟨by omega,by omega,fun h=>q.1 (.inr (.inr h)),q.2⟩
theorem VY{b:UInt8}:b=45↔b.toNat=45:=⟨fun e=>by rw[e]; rfl,fun e=>UInt8.toNat_inj.1 e⟩
theorem Z7{s:ByteArray}{Q:Bool×Unit->Heap->Prop}(hq:Q (decide (nU s),()) H):CALL P [ah] wo [.string s] H Q:=by
 apply QH
 unfold wP
 have no:¬nU s->Q (false,()) H:=fun hn=>by rwa [decide_eq_false hn]at hq
 refine JD (H:=H) (s.data.toList.length<1∨20<s.data.toList.length∨s.data.toList.head? =some 45) (fun j hj=>fU (dD (fun h1=>hj _ ?_) (fun h1=>fU (dD (fun h2=>hj _ ?_) (fun h2=> ?_))))) (dD (fun hbad=>no fun q=>(mg.1 q).1 hbad) (fun hgood=>bf ?_))
 ·simp only[true_iff]; exact .inl (by omega)
 ·simp only[true_iff]; exact .inr (.inl (by omega))
 ·cases hl:s.data.toList with
  |nil=>rw[hl]at h1; simp at h1
  |cons b r=>
   refine jP (n:=0) rfl (b:=b) (by rw[hl]; rfl) (hj _ ?_)
   rw[hl]at h2 ⊢
   simp only[List.length_cons,List.head?_cons,Option.some.injEq,VY,beq_iff_eq]at h2 ⊢
   constructor
   ·intro q; right; right; omega
   ·rintro(q|q|q)<;>omega
 ·refine FN (L:=s.data.toList) (Qf:=Q (false,()) H) (Qt:=Q (true,()) H) (fun G n=>⟨fun b hx k1 k2=> ?_,fun e k=>fU (bG (decide_eq_false (by simp only; omega)) k)⟩) (fun ha=>by rwa [decide_eq_true (mg.2 ⟨hgood,ha⟩)]at hq) (fun ha=>no fun q=>by have:=(mg.1 q).2; rw[ha]at this; cases this)
  have hlt:=(List.getElem?_eq_some_iff.1 hx).1
  refine fU (fB (decide_eq_true (by simp only; omega)) ?_)
  refine JD (H:=H) (¬Gw b=true) (fun j hj=>jP rfl hx (dD (fun h1=>jP rfl hx (hj _ ?_)) (fun h1=>jP rfl hx (dD (fun h2=>jP rfl hx (hj _ ?_)) (fun h2=>hj _ ?_))))) (dD (fun h=>k2 (by simpa using h)) (fun h=> ?_))
  ·rw[jB]; simp; omega
  ·rw[jB]; simp; omega
  ·rw[jB]; simp; omega
  ·dsimp only
   rw[dG (by omega) (by omega)]
   exact k1 (by simpa using h)
theorem Z8{s:ByteArray}{Q:Bool×Unit->Heap->Prop}(hq:Q (decide (nU s),()) H):CALL P [ah] oz [.string s] H Q:=by
 apply Hl
 unfold oL
 have no:¬nU s->Q (false,()) H:=fun hn=>by rwa [decide_eq_false hn]at hq
 refine JD (H:=H) (s.data.toList.length<1∨20<s.data.toList.length∨s.data.toList.head? =some 45) (fun j hj=>fU (dD (fun h1=>hj _ ?_) (fun h1=>fU (dD (fun h2=>hj _ ?_) (fun h2=> ?_))))) (dD (fun hbad=>no fun q=>(mg.1 q).1 hbad) (fun hgood=>bf ?_))
 ·simp only[true_iff]; exact .inl (by omega)
 ·simp only[true_iff]; exact .inr (.inl (by omega))
 ·cases hl:s.data.toList with
  |nil=>rw[hl]at h1; simp at h1
  |cons b r=>
   refine jP (n:=0) rfl (b:=b) (by rw[hl]; rfl) (hj _ ?_)
   rw[hl]at h2 ⊢
   simp only[List.length_cons,List.head?_cons,Option.some.injEq,VY,beq_iff_eq]at h2 ⊢
   constructor
   ·intro q; right; right; omega
   ·rintro(q|q|q)<;>omega
 ·refine FN (L:=s.data.toList) (Qf:=Q (false,()) H) (Qt:=Q (true,()) H) (fun G n=>⟨fun b hx k1 k2=> ?_,fun e k=>fU (bG (decide_eq_false (by simp only; omega)) k)⟩) (fun ha=>by rwa [decide_eq_true (mg.2 ⟨hgood,ha⟩)]at hq) (fun ha=>no fun q=>by have:=(mg.1 q).2; rw[ha]at this; cases this)
  have hlt:=(List.getElem?_eq_some_iff.1 hx).1
  refine fU (fB (decide_eq_true (by simp only; omega)) ?_)
  refine JD (H:=H) (¬Gw b=true) (fun j hj=>jP rfl hx (Ak (fun h1=>jP rfl hx (dD (fun h2=>hj _ ?_) (fun h2=>jP rfl hx (hj _ ?_)))) (fun h1=>hj _ ?_))) (dD (fun h=>k2 (by simpa using h)) (fun h=> ?_))
  ·rw[jB]; simp; omega
  ·rw[jB]; simp; omega
  ·rw[jB]; simp; omega
  ·dsimp only
   rw[dG (by omega) (by omega)]
   exact k1 (by simpa using h)
theorem Z9{s:ByteArray}{Q:Bool×Unit->Heap->Prop}(hq:Q (decide (nU s),()) H):CALL P [ah] vW [.string s] H Q:=by
 apply Qq
 unfold wG
 have no:¬nU s->Q (false,()) H:=fun hn=>by rwa [decide_eq_false hn]at hq
 refine JD (H:=H) (s.data.toList.length<1∨20<s.data.toList.length∨∃b,s.data.toList.head? =some b∧(b.toNat<97∨122<b.toNat)) (fun j hj=>fU (dD (fun h1=>hj _ ?_) (fun h1=>fU (dD (fun h2=>hj _ ?_) (fun h2=> ?_))))) (dD (fun hbad=>no fun q=> ?_) (fun hgood=>bf ?_))
 ·simp only[true_iff]; exact .inl (by omega)
 ·simp only[true_iff]; exact .inr (.inl (by omega))
 ·cases hl:s.data.toList with
  |nil=>rw[hl]at h1; simp at h1
  |cons b r=>
   rw[hl]at h2 h1
   have key:(1+r.length<1∨20<1+r.length∨∃b',(b::r).head? =some b'∧(b'.toNat<97∨122<b'.toNat))↔(b.toNat<97∨122<b.toNat):=by
    simp only[List.length_cons]at h2
    constructor
    ·rintro(q|q|⟨b',e,q⟩)
     ·omega
     ·omega
     ·cases e; exact q
    ·exact fun q=>.inr (.inr ⟨b,rfl,q⟩)
   refine jP (n:=0) rfl (b:=b) (by rw[hl]; rfl) (dD (fun h3=>hj _ ?_) (fun h3=>jP (n:=0) rfl (b:=b) (by rw[hl]; rfl) (hj _ ?_)))
   ·rw[hl,List.length_cons,Nat.add_comm,key]; simp; omega
   ·rw[hl,List.length_cons,Nat.add_comm,key]; simp; omega
 ·obtain⟨q1,q2⟩:=mg.1 q
  rcases hbad with e|e|⟨b,e,h⟩
  ·exact q1 (.inl e)
  ·exact q1 (.inr (.inl e))
  ·have hb:Gw b=true:=List.all_eq_true.1 q2 b (List.mem_of_mem_head? e)
   have h45:b≠45:=fun e2=>q1 (.inr (.inr (by rw[e,e2])))
   have:=jB.1 hb
   have:=mt VY.2 h45
   omega
 ·have hgood':¬(s.data.toList.length<1∨20<s.data.toList.length∨s.data.toList.head? =some 45):=by
   rintro(e|e|e)
   ·exact hgood (.inl e)
   ·exact hgood (.inr (.inl e))
   ·exact hgood (.inr (.inr ⟨45,e,.inl (by decide)⟩))
  refine FN (L:=s.data.toList) (Qf:=Q (false,()) H) (Qt:=Q (true,()) H) (fun G n=>⟨fun b hx k1 k2=> ?_,fun e k=>fU (bG (decide_eq_false (by simp only; omega)) k)⟩) (fun ha=>by rwa [decide_eq_true (mg.2 ⟨hgood',ha⟩)]at hq) (fun ha=>no fun q=>by have:=(mg.1 q).2; rw[ha]at this; cases this)
  have hlt:=(List.getElem?_eq_some_iff.1 hx).1
  refine fU (fB (decide_eq_true (by simp only; omega)) ?_)
  refine JD (H:=H) (¬Gw b=true) (fun j hj=>jP rfl hx (dD (fun h1=>jP rfl hx (hj _ ?_)) (fun h1=>jP rfl hx (dD (fun h2=>jP rfl hx (hj _ ?_)) (fun h2=>hj _ ?_))))) (dD (fun h=>k2 (by simpa using h)) (fun h=> ?_))
  ·rw[jB]; simp; omega
  ·rw[jB]; simp; omega
  ·rw[jB]; simp; omega
  ·dsimp only
   rw[dG (by omega) (by omega)]
   exact k1 (by simpa using h)
end
end Go.Proofs.YtijnknjopjmiiaaGreatDoor.Zq
end
