/- A part of the proof. -/
import Derived.Test.YtlfolhmfdmcmiaaGreatDoorS2
set_option linter.all false
open Bool renaming false->af,true->ag
open Int renaming ofNat->aE,toNat->ns
open List renaming drop->BW,replicate->bT,take->aY
open Option renaming none->ae,some->ab
open Sum renaming inl->bb,inr->cy
noncomputable section
namespace Go.Proofs.YtlfolhmfdmcmiaaGreatDoor
open Go.As
section
abbrev DZ:=Bool×(List Int)×Unit
abbrev DQ:=DZ×DZ×Unit
abbrev bN:=DQ×DQ×DQ×DQ×DQ×DQ×Unit
abbrev lO:=Int×Int×Int×Int×Unit
abbrev aJ:=Int×Int×Unit
abbrev cr:=Int×aJ×aJ×aJ×Unit
abbrev pg:=Int×lO×Unit
abbrev ph:=Int×Int×Int×Int×Unit
abbrev nC:=Int×Int×(List ph)×Unit
abbrev eS:=Int×lO×aJ×aJ×Int×(List pg)×Int×nC×Int×bN×Unit
abbrev rI:=Int×Int×Int×Int×(List Int)×Int×Unit
abbrev cj:=Int×Int×Int×bN×(List cr)×Int×Int×Int×Bool×Bool×(List cr)×Int×(List eS)×rI×(List eS)×nC×Int×Unit
abbrev cz:=Int×Int×lO×(List cj)×Unit
abbrev bu:=Int×Int×Int×Int×Unit
abbrev fj:=(List aJ)×Bool×Unit
abbrev lP:=bu×(List Int)×Unit
abbrev lQ:=DQ×DQ×Unit
abbrev iT:Ty:=.int .i64
abbrev tZ:Ty:=.st 2 (.cn .bool (.cn (.an (.int .u32)) .nl))
abbrev tQ:Ty:=.st 4 (.cn tZ (.cn tZ .nl))
abbrev dE:Ty:=.st 24 (.cn tQ (.cn tQ (.cn tQ (.cn tQ (.cn tQ (.cn tQ .nl))))))
abbrev LZ:Ty:=.st 4 (.cn (.int .u8) (.cn (.int .u8) (.cn (.int .u8) (.cn (.int .u8) .nl))))
abbrev aZ:Ty:=.st 2 (.cn iT (.cn iT .nl))
abbrev jB:Ty:=.st 7 (.cn iT (.cn aZ (.cn aZ (.cn aZ .nl))))
abbrev FU:Ty:=.st 5 (.cn iT (.cn LZ .nl))
abbrev u3:Ty:=.st 4 (.cn (.int .u8) (.cn (.int .u8) (.cn (.int .u8) (.cn (.int .u8) .nl))))
abbrev Bn:Ty:=.st 3 (.cn iT (.cn iT (.cn (.an u3) .nl)))
abbrev kR:Ty:=.st 40 (.cn iT (.cn LZ (.cn aZ (.cn aZ (.cn iT (.cn (.an FU) (.cn iT (.cn Bn (.cn iT (.cn dE .nl))))))))))
abbrev FV:Ty:=.st 6 (.cn iT (.cn iT (.cn iT (.cn iT (.cn (.an iT) (.cn iT .nl))))))
abbrev iW:Ty:=.st 47 (.cn iT (.cn iT (.cn iT (.cn dE (.cn (.an jB) (.cn iT (.cn (.int .u8) (.cn iT (.cn .bool (.cn .bool (.cn (.an jB) (.cn iT (.cn (.an kR) (.cn FV (.cn (.an kR) (.cn Bn (.cn iT .nl)))))))))))))))))
abbrev gx:Ty:=.st 7 (.cn iT (.cn iT (.cn LZ (.cn (.an iW) .nl))))
abbrev dA:Ty:=.st 4 (.cn iT (.cn iT (.cn iT (.cn iT .nl))))
abbrev L0:Ty:=.st 2 (.cn (.an aZ) (.cn .bool .nl))
abbrev lH:Ty:=.st 5 (.cn dA (.cn (.an (.int .u8)) .nl))
abbrev fF:Ty:=.st 8 (.cn tQ (.cn tQ .nl))
abbrev dc:=Int×Unit
abbrev fQ:=Unit×Unit
abbrev aR:=dc×fQ
abbrev bq:=List Int
abbrev dO:=List DQ
abbrev GB:=Unit×dO×Unit
abbrev tD:=bq×Unit
abbrev Ce:=Unit×tD
abbrev M7:=Int×Int×fQ×Unit
abbrev bB:=Option Bool
abbrev qp:=(Bool×fQ)×(Bool×fQ)×Unit
abbrev b8:=Option Int
abbrev hH:=List aJ
abbrev eC:=List hH
abbrev yK:=aJ×aJ×Unit
abbrev qn:=dc×(dO×List yK×Unit)×Unit
abbrev vL:=bq×dc
abbrev om:=bq×vL
abbrev oo:=dc×(lP×Unit)×Unit
abbrev kZ:=dc×Unit×bq×tD
abbrev jM:=Bool×Unit
abbrev Ca:=dO×Int×M7
abbrev jN:=Option (aR⊕Bool)
abbrev ef:=dc×Ce
abbrev eE:=aJ×fQ
abbrev Cb:=(Int×Int×Int×Bool×jM)×GB
abbrev qo:=Option (aR⊕aR⊕om)
abbrev gU:=aJ×GB
abbrev rM:=dc×(dO×Unit)×Unit
abbrev gG:=dc×GB
abbrev vH:=DQ×dc
abbrev Cl:=List vH
abbrev yL:=dc×(Cl×Unit)×Unit
abbrev vD:=List (Nat×Int)
abbrev vE:=(Int×jM)×Ca
abbrev ot:=lP×dc
abbrev vF:=dO×M7
abbrev iq:=Option DQ
abbrev jq:=Option bq
abbrev jr:=Option aJ
abbrev Cg:=List fj
abbrev Cd:=((Cg×fj×Unit)×dc)×fQ
abbrev js:=List cr
abbrev tC:=vL×fQ
abbrev yM:=Option (aR⊕aR⊕bq)
abbrev nE:=Option om
abbrev jO:=aJ×Ce
abbrev vK:=hH×dc
abbrev tE:=vK×fQ
abbrev GC:=qp×qp×qp×qp×qp×qp×Unit
abbrev yN:=(bq×aJ)×fQ
abbrev yO:=dc×dc×dO×Unit
abbrev mF:=Option DZ
abbrev nF:=List lQ
abbrev rN:=Unit×vF
abbrev GD:=Unit×(aJ×Unit)×Unit
abbrev vG:=Option vH
abbrev yP:=Option (aR⊕Int)
abbrev yQ:=Option (Int×jM)
abbrev yR:=gU⊕Bool×vF
abbrev Ck:=Unit×Ca
abbrev GF:=Option (Cb⊕Ck)
abbrev yS:=(eC×dc)×fQ
abbrev yT:=vL×Ce
abbrev Cf:=gU⊕gG⊕vE
abbrev GG:=dc×(hH×Unit)×Unit
abbrev rO:=Option bN
abbrev Ch:=gU⊕Int×Ca
abbrev GH:=Option (ef⊕om)
abbrev GI:=Option (gG⊕rN)
abbrev rP:=aJ×yK
abbrev GJ:=Option (bq×jM)
abbrev GK:=Option (aR⊕aJ)
abbrev tF:=Unit×fQ
abbrev tG:=List lP
abbrev GL:=Option (aJ×dc)
abbrev M8:=Option (aR⊕aR⊕Int)
abbrev yU:=Option ot
abbrev VX:=(vD×dc)×((Int×vD×Unit)×Unit)×Unit
abbrev GM:=(bq×tD)×fQ
abbrev GN:=(Bool×dc)×fQ
abbrev GO:=(js×dc)×fQ
abbrev GP:=(nF×dc)×fQ
abbrev vJ:=tD×fQ
abbrev yV:=List pg
abbrev tH:=List cj
abbrev yW:=Option lO
abbrev M9:=Option (eE⊕Bool)
abbrev Na:=Option (DZ×DZ×dc)
abbrev Ci:=Option vD
abbrev Cj:=oo⊕ot
abbrev VY:=dc×((Cg×fj×Unit)×Unit)×Unit
abbrev Nb:=Option (tC⊕bq)
abbrev Nc:=Option (yN⊕bq)
abbrev yX:=Cg×dc
abbrev VZ:=aJ×(List (Int×Bool)×Unit)×Unit
abbrev V1:=(tG×dc)×(cz×lO×Unit)×Unit
abbrev V2:=Option (rM⊕qn⊕qn⊕dO)
abbrev V3:=dc×(eC×Int×DQ×lQ)×Unit
abbrev V4:=Option (aR⊕aR⊕bq×jM)
abbrev B9:=Unit×GB
def De:bB:=ab ag
def abz(x:bN)(A:aR):jN:=bif ak A.1.1 ↑[x.1,x.2.1,x.2.2.1,x.2.2.2.1,x.2.2.2.2.1,x.2.2.2.2.2.1].length then aN [x.1,x.2.1,x.2.2.1,x.2.2.2.1,x.2.2.2.2.1,x.2.2.2.2.2.1] A.1.1 λI=>(aV (ak 3 ↑I.1.2.1.length) (aN [x.1,x.2.1,x.2.2.1,x.2.2.2.1,x.2.2.2.2.1,x.2.2.2.2.2.1] A.1.1 λJ=>ab (ak 3 ↑J.2.1.2.1.length))).bind λU=>bif U then ay af else aB ((w (A.1.1+1),()),(),())else ay ag
def D3(x:bN):bB:=aA (abz x) ((0,()),(),())
def Jo(d:aR)(I:List eS)(A:aR):Option (aR⊕aR⊕eE⊕Bool):=bif ak A.1.1 ↑I.length then aQ I A.1.1 λJ=>(D3 J.2.2.2.2.2.2.2.2.2.1).bind λU=>(aV (!U) (aQ I A.1.1 λZ=>ab (ak 100 ↑Z.2.2.2.2.2.2.2.1.2.2.1.length))).bind λa=>(aV a (aQ I A.1.1 λb=>ab (ak 30 ↑b.2.2.2.2.2.1.length))).bind λc=>bif c then ay (cy (cy af))else aB ((w (A.1.1+1),()),(),())else ay (bb ((w (d.1.1+1),()),(),()))
def Jp(J:eE)(A:cj)(I:aR):Option (aR⊕eE⊕Bool):=bif ak I.1.1 ↑[A.2.2.2.2.2.2.2.2.2.2.2.2.1,A.2.2.2.2.2.2.2.2.2.2.2.2.2.2.1].length then aN [A.2.2.2.2.2.2.2.2.2.2.2.2.1,A.2.2.2.2.2.2.2.2.2.2.2.2.2.2.1] I.1.1 λU=>aA (Jo I U) ((0,()),(),())else ay (bb ((w (J.1.1+bif ai (↑A.2.2.2.2.1.length) 100 then ↑A.2.2.2.2.1.length else 100),w (J.1.2.1+1),()),(),()))
def wU(x:cz)(I:eE):M9:=bif ak I.1.2.1 ↑x.2.2.2.1.length then aQ x.2.2.2.1 I.1.2.1 λA=>(D3 A.2.2.2.1).bind λZ=>(aV (!Z) (ab (ak 30 ↑A.2.2.2.2.2.2.2.2.2.2.1.length))).bind λa=>(aV a (ab (ak 2 ↑A.2.2.2.2.2.2.2.2.2.2.2.2.1.length))).bind λb=>(aV b (ab (ak 2 ↑A.2.2.2.2.2.2.2.2.2.2.2.2.2.2.1.length))).bind λc=>(aV c (ab (ak 100 ↑A.2.2.2.2.2.2.2.2.2.2.2.2.2.2.2.1.2.2.1.length))).bind λd=>(aV d (ab (ak 30 ↑A.2.2.2.2.2.2.2.2.2.2.2.2.2.1.2.2.2.2.1.length))).bind λe=>bif e then ay af else aA (Jp I A) ((0,()),(),())else((aF (ai (↑x.2.2.2.1.length) 8) (ab (ai I.1.1 24))).bind λJ=>ab J).bind λU=>ay U
def Rm(x:cz):bB:=aA (wU x) ((0,0,()),(),())
def xz(x:Int):bB:=(aF (ai (-4096) x) (ab (ai x 4096))).bind λA=>ab A
def KY(x:bu):bB:=(xz x.1).bind λA=>(aF A ((xz x.2.1).bind λI=>ab I)).bind λJ=>(aF J ((xz x.2.2.1).bind λU=>ab U)).bind λZ=>(aF Z ((xz x.2.2.2.1).bind λa=>ab a)).bind λb=>ab b
def A0(x:bu):bB:=(KY x).bind λA=>(aV (!A) (ab (ai x.2.2.1 x.1))).bind λI=>(aV I (ab (ai x.2.2.2.1 x.2.1))).bind λJ=>ab J
def sK(x:bu):yW:=(A0 x).bind λA=>bif A then ab (0,0,0,0,())else ab x
def xy(x:bu):b8:=(sK x).bind λA=>ab (w (w (A.2.2.1-A.1)*w (A.2.2.2.1-A.2.1)))
def D4(x:bu):bB:=(xy x).bind λA=>(aV (ai A 20) ((xy x).bind λI=>ab (ak 65536 I))).bind λJ=>ab J
def Em(x:Int):bB:=(aV (aj x 1) (ab (aj x 2))).bind λA=>ab A
def jV(x:Bool)(y:Int):Ci:=bif !x then ab []else ab [(169,y)]
def Jr(A:eE):b8:=([0,1,2,2,3,3,3,3,4,4,4,4,4,4,4,4,5,5,5,5,5,5,5,5,5,5,5,5,5,5,5,5,6,6,6,6,6,6,6,6,6,6,6,6,6,6,6,6,6,6,6,6,6,6,6,6,6,6,6,6,6,6,6,6,7,7,7,7,7,7,7,7,7,7,7,7,7,7,7,7,7,7,7,7,7,7,7,7,7,7,7,7,7,7,7,7,7,7,7,7,7,7,7,7,7,7,7,7,7,7,7,7,7,7,7,7,7,7,7,7,7,7,7,7,7,7,7,7,8,8,8,8,8,8,8,8,8,8,8,8,8,8,8,8,8,8,8,8,8,8,8,8,8,8,8,8,8,8,8,8,8,8,8,8,8,8,8,8,8,8,8,8,8,8,8,8,8,8,8,8,8,8,8,8,8,8,8,8,8,8,8,8,8,8,8,8,8,8,8,8,8,8,8,8,8,8,8,8,8,8,8,8,8,8,8,8,8,8,8,8,8,8,8,8,8,8,8,8,8,8,8,8,8,8,8,8,8,8,8,8,8,8,8,8,8,8,8,8,8,8,8,8,8,8,8,8]:List Nat)[(wr .u8 A.1.1).toNat]?.bind λI=>ab (w (A.1.2.1+w ↑I))
def Ro(A:eE):b8:=bt (bif ai 256 A.1.1 then aB ((A.1.1.fdiv 256,w (A.1.2.1+8),()),(),())else aB ((A.1.1,A.1.2.1,()),(),())) Jr
def D5(x:Int):b8:=bt (bif ai 65536 x then aB ((x.fdiv 65536,16,()),(),())else aB ((x,0,()),(),())) Ro
def WJ(x:bq)(A:aR):M8:=(aF (ak 0 A.1.1) (aQ x (w (A.1.1-1)) λI=>ab (aj I 0))).bind λJ=>bif J then aB ((w (A.1.1-1),()),(),())else ay (bb ((A.1.1,()),(),()))
def WK(x:bq)(A:aR):b8:=aT (ai 0 A.1.1&&ai A.1.1 ↑x.length) (aT (ai 0 A.1.1&&ai A.1.1 A.1.1) (aT (aj A.1.1 A.1.1) (bif aj (↑(aY A.1.1.toNat x).length) 0 then ab 0 else aQ (aY A.1.1.toNat x) (w (↑(aY A.1.1.toNat x).length-1)) λI=>(D5 I).bind λJ=>ab (w (w (32*w (↑(aY A.1.1.toNat x).length-1))+J)))))
def bitLen(x:bq):b8:=bt (aA (WJ x) ((↑x.length,()),(),())) (WK x)
def wK(x:DZ):b8:=(bitLen x.2.1).bind λA=>bif aj A 0 then ab 0 else bif x.1 then ab (-1)else ab 1
def acO(x:bq)(A:aR):yM:=(aF (ak 0 A.1.1) (aQ x (w (A.1.1-1)) λI=>ab (aj I 0))).bind λJ=>bif J then aB ((w (A.1.1-1),()),(),())else ay (bb ((A.1.1,()),(),()))
def acP(x:bq)(A:aR):jq:=aT (ai 0 A.1.1&&ai A.1.1 ↑x.length) (aT (ai 0 A.1.1&&ai A.1.1 A.1.1) (aT (aj A.1.1 A.1.1) (aT (bZ (aY A.1.1.toNat x).length 4) (ab (aY A.1.1.toNat x)))))
def sB(x:bq):jq:=bt (aA (acO x) ((↑x.length,()),(),())) (acP x)
def Xm(x:bq)(A:aR):M8:=(aF (ak 0 A.1.1) (aQ x (w (A.1.1-1)) λI=>ab (aj I 0))).bind λJ=>bif J then aB ((w (A.1.1-1),()),(),())else ay (bb ((A.1.1,()),(),()))
def Xn(y:bq)(A:aR):M8:=(aF (ak 0 A.1.1) (aQ y (w (A.1.1-1)) λI=>ab (aj I 0))).bind λJ=>bif J then aB ((w (A.1.1-1),()),(),())else ay (bb ((A.1.1,()),(),()))
def CY(x y:bq)(Z a A:aR):yP:=bif ai 0 A.1.1 then aQ (aY Z.1.1.toNat x) A.1.1 λb=>aQ (aY a.1.1.toNat y) A.1.1 λI=>bif ak b I then ay (-1)else aQ (aY Z.1.1.toNat x) A.1.1 λJ=>aQ (aY a.1.1.toNat y) A.1.1 λU=>bif ak U J then ay 1 else aB ((w (A.1.1-1),()),(),())else ay 0
def Xo(x y:bq)(I A:aR):b8:=aT (ai 0 A.1.1&&ai A.1.1 ↑y.length) (aT (ai 0 A.1.1&&ai A.1.1 A.1.1) (aT (aj A.1.1 A.1.1) (bif !aj ↑(aY I.1.1.toNat x).length ↑(aY A.1.1.toNat y).length then bif ak ↑(aY I.1.1.toNat x).length ↑(aY A.1.1.toNat y).length then ab (-1)else ab 1 else aA (CY x y I A) ((w (↑(aY I.1.1.toNat x).length-1),()),(),()))))
def Xp(x y:bq)(A:aR):b8:=aT (ai 0 A.1.1&&ai A.1.1 ↑x.length) (aT (ai 0 A.1.1&&ai A.1.1 A.1.1) (aT (aj A.1.1 A.1.1) (bt (aA (Xn y) ((↑y.length,()),(),())) (Xo x y A))))
def CX(x y:bq):b8:=bt (aA (Xm x) ((↑x.length,()),(),())) (Xp x y)
def RZ(I:jO)(A:aR):Option (aR⊕aR⊕vL):=(aF (ak 0 A.1.1) (aN I.2.2.1 (w (A.1.1-1)) λJ=>ab (aj J 0))).bind λU=>bif U then aB ((w (A.1.1-1),()),(),())else ay (bb ((A.1.1,()),(),()))
def R0(I:jO)(A:aR):Option vL:=aT (ai 0 A.1.1&&ai A.1.1 ↑I.2.2.1.length) (aT (ai 0 A.1.1&&ai A.1.1 A.1.1) (aT (aj A.1.1 A.1.1) (ab (aY A.1.1.toNat I.2.2.1,wr .u32 I.1.1,()))))
def Et(x:bq)(y:Int)(A:jO):Option (jO⊕vL):=bif ai 0 A.1.2.1 then aQ x A.1.2.1 λI=>kv (wu y) (aN A.2.2.1 A.1.2.1 λU=>kv (wu y) (aB (((wu ↑((word .u64 (wu (A.1.1*4294967296))).lor (word .u64 (wu I)))).tmod (wu y),w (A.1.2.1-1),()),(),A.2.2.1.set A.1.2.1.toNat (wr .u32 (wu ((wu ↑((word .u64 (wu (A.1.1*4294967296))).lor (word .u64 (wu I)))).tdiv (wu y)))),())))else(bt (aA (RZ A) ((↑A.2.2.1.length,()),(),())) (R0 A)).bind λJ=>ay J
def one(x:bq)(y:Int):Option vL:=aT (ai ↑x.length ↑x.length&&ai (↑x.length*4) 70368744177664) (aA (Et x y) ((0,w (↑x.length-1),()),(),bT (ns ↑x.length) (0:Int),()))
def ue(x:Int):jq:=(sB [wr .u32 x,wr .u32 (x.fdiv 4294967296)]).bind λA=>ab A
def Jz(x:Int):b8:=(D5 x).bind λA=>ab (w (32-A))
def digit(x:bq)(y:Int):b8:=bif ak y ↑x.length then aQ x y λA=>ab (wu A)else ab 0
def ui(x y:bq)(A:eE):Option (eE⊕Int):=bif !aj (A.1.1.fdiv 4294967296) 0 then aQ y (w (↑y.length-1)) λI=>bif !aj ((wu (A.1.2.1+wu I)).fdiv 4294967296) 0 then ay (wu (A.1.1-1))else aB ((wu (A.1.1-1),wu (A.1.2.1+wu I),()),(),())else aQ y (w (↑y.length-2)) λU=>aQ x (w (↑y.length-2)) λZ=>bif ak (wu ↑((word .u64 (wu (A.1.2.1*4294967296))).lor (word .u64 (wu Z)))) (wu (A.1.1*wu U))then aQ y (w (↑y.length-1)) λJ=>bif !aj ((wu (A.1.2.1+wu J)).fdiv 4294967296) 0 then ay (wu (A.1.1-1))else aB ((wu (A.1.1-1),wu (A.1.2.1+wu J),()),(),())else ay A.1.1
def It(x y:bq):b8:=x[(ns ↑y.length)]?.bind λA=>aQ x (w (↑y.length-1)) λI=>aQ y (w (↑y.length-1)) λJ=>kv (wu J) (aQ y (w (↑y.length-1)) λU=>kv (wu U) (aA (ui x y) ((wu ((wu ↑((word .u64 (wu (wu A*4294967296))).lor (word .u64 (wu I)))).tdiv (wu J)),(wu ↑((word .u64 (wu (wu A*4294967296))).lor (word .u64 (wu I)))).tmod (wu U),()),(),())))
def XL(x:bq)(A:aR):qo:=(aF (ak 0 A.1.1) (aQ x (w (A.1.1-1)) λI=>ab (aj I 0))).bind λJ=>bif J then aB ((w (A.1.1-1),()),(),())else ay (bb ((A.1.1,()),(),()))
def XM(y:bq)(A:aR):qo:=(aF (ak 0 A.1.1) (aQ y (w (A.1.1-1)) λI=>ab (aj I 0))).bind λJ=>bif J then aB ((w (A.1.1-1),()),(),())else ay (bb ((A.1.1,()),(),()))
def XT(y:bq)(U A:aR):qo:=(aF (ak 0 A.1.1) (aQ (aY U.1.1.toNat y) (w (A.1.1-1)) λI=>ab (aj I 0))).bind λJ=>bif J then aB ((w (A.1.1-1),()),(),())else ay (bb ((A.1.1,()),(),()))
def HH(I:ef)(A:aR):qo:=(aF (ak 0 A.1.1) (aN I.2.2.1 (w (A.1.1-1)) λJ=>ab (aj J 0))).bind λU=>bif U then aB ((w (A.1.1-1),()),(),())else ay (bb ((A.1.1,()),(),()))
def X8(x:bq)(U A:aR):qo:=(aF (ak 0 A.1.1) (aQ (aY U.1.1.toNat x) (w (A.1.1-1)) λI=>ab (aj I 0))).bind λJ=>bif J then aB ((w (A.1.1-1),()),(),())else ay (bb ((A.1.1,()),(),()))
def HI(I:ef)(A:aR):qo:=(aF (ak 0 A.1.1) (aN I.2.2.1 (w (A.1.1-1)) λJ=>ab (aj J 0))).bind λU=>bif U then aB ((w (A.1.1-1),()),(),())else ay (bb ((A.1.1,()),(),()))
def HJ(a:ef)(J:aR)(I:kZ)(b:Int)(A:jO):Option (jO⊕ef⊕kZ⊕om):=bif ak A.1.2.1 (aE J.1.1.toNat)then bif ai 0 A.1.2.1&&ak A.1.2.1 (aE J.1.1.toNat)then a.2.2.1[A.1.2.1.toNat]?.bind λU=>aT (ai 0 A.1.2.1&&ak A.1.2.1 ↑((w (w (I.1.1+(aE J.1.1.toNat))+1)).toNat-I.1.1.toNat)) (A.2.2.1[I.1.1.toNat+A.1.2.1.toNat]?.bind λZ=>aT (ai 0 A.1.2.1&&ak A.1.2.1 ↑((w (w (I.1.1+(aE J.1.1.toNat))+1)).toNat-I.1.1.toNat)) (A.2.2.1[I.1.1.toNat+A.1.2.1.toNat]?.bind λe=>aB (((wu (A.1.1+wu (wu Z+wu U))).fdiv 4294967296,w (A.1.2.1+1),()),(),A.2.2.1.set (I.1.1.toNat+A.1.2.1.toNat) (wr .u32 (wu (A.1.1+wu (wu Z+wu U)))),())))else ae else(aT (ak (aE J.1.1.toNat) ↑((w (w (I.1.1+(aE J.1.1.toNat))+1)).toNat-I.1.1.toNat)) (A.2.2.1[I.1.1.toNat+(ns (aE J.1.1.toNat))]?.bind λc=>aT (ak (aE J.1.1.toNat) ↑((w (w (I.1.1+(aE J.1.1.toNat))+1)).toNat-I.1.1.toNat)) (A.2.2.1[I.1.1.toNat+(ns (aE J.1.1.toNat))]?.bind λf=>aB ((wu (b-1),()),(),A.2.2.1.set (I.1.1.toNat+(ns (aE J.1.1.toNat))) (wr .u32 (c+wr .u32 A.1.1)),())))).bind λd=>ay d
def HK(b:ef)(J:aR)(I:kZ)(U:Int)(A:(Int×aJ)×Ce):Option ((Int×aJ)×Ce⊕ef⊕kZ⊕om):=bif ak A.1.2.2.1 (aE J.1.1.toNat)then bif ai 0 A.1.2.2.1&&ak A.1.2.2.1 (aE J.1.1.toNat)then b.2.2.1[A.1.2.2.1.toNat]?.bind λZ=>aT (ai 0 A.1.2.2.1&&ak A.1.2.2.1 ↑((w (w (I.1.1+(aE J.1.1.toNat))+1)).toNat-I.1.1.toNat)) (A.2.2.1[I.1.1.toNat+A.1.2.2.1.toNat]?.bind λc=>aT (ai 0 A.1.2.2.1&&ak A.1.2.2.1 ↑((w (w (I.1.1+(aE J.1.1.toNat))+1)).toNat-I.1.1.toNat)) (A.2.2.1[I.1.1.toNat+A.1.2.2.1.toNat]?.bind λe=>aB (((wu (A.1.1+wu (U*wu Z))).fdiv 4294967296,(wu (wu (wu c-wu ↑((word .u64 (wu (A.1.1+wu (U*wu Z)))).land 4294967295))-A.1.2.1)).fdiv 9223372036854775808,w (A.1.2.2.1+1),()),(),A.2.2.1.set (I.1.1.toNat+A.1.2.2.1.toNat) (wr .u32 (wu (wu (wu c-wu ↑((word .u64 (wu (A.1.1+wu (U*wu Z)))).land 4294967295))-A.1.2.1))),())))else ae else(aT (ak (aE J.1.1.toNat) ↑((w (w (I.1.1+(aE J.1.1.toNat))+1)).toNat-I.1.1.toNat)) (A.2.2.1[I.1.1.toNat+(ns (aE J.1.1.toNat))]?.bind λa=>aT (ak (aE J.1.1.toNat) ↑((w (w (I.1.1+(aE J.1.1.toNat))+1)).toNat-I.1.1.toNat)) (A.2.2.1[I.1.1.toNat+(ns (aE J.1.1.toNat))]?.bind λf=>bif !aj ((wu (wu (wu a-A.1.1)-A.1.2.1)).fdiv 9223372036854775808) 0 then aA (HJ b J I U) ((0,0,()),(),A.2.2.1.set (I.1.1.toNat+(ns (aE J.1.1.toNat))) (wr .u32 (wu (wu (wu a-A.1.1)-A.1.2.1))),())else aB ((U,()),(),A.2.2.1.set (I.1.1.toNat+(ns (aE J.1.1.toNat))) (wr .u32 (wu (wu (wu a-A.1.1)-A.1.2.1))),())))).bind λd=>ay d
def X9(A:kZ)(I:ef):Option (kZ⊕om):=aN A.2.2.2.1 A.1.1 λJ=>aB ((w (A.1.1-1),()),(),I.2.2.1,A.2.2.2.1.set A.1.1.toNat (wr .u32 I.1.1),())
def Ya(I:kZ)(A:aR):qo:=(aF (ak 0 A.1.1) (aN I.2.2.2.1 (w (A.1.1-1)) λJ=>ab (aj J 0))).bind λU=>bif U then aB ((w (A.1.1-1),()),(),())else ay (bb ((A.1.1,()),(),()))
def XN(I:kZ)(A:aR):qo:=(aF (ak 0 A.1.1) (aN I.2.2.1 (w (A.1.1-1)) λJ=>ab (aj J 0))).bind λU=>bif U then aB ((w (A.1.1-1),()),(),())else ay (bb ((A.1.1,()),(),()))
def XO(I:ef)(A:aR):qo:=(aF (ak 0 A.1.1) (aN I.2.2.1 (w (A.1.1-1)) λJ=>ab (aj J 0))).bind λU=>bif U then aB ((w (A.1.1-1),()),(),())else ay (bb ((A.1.1,()),(),()))
def XP(J:kZ)(U:aR)(I:ef)(A:aR):nE:=aT (ai 0 A.1.1&&ai A.1.1 ↑I.2.2.1.length) (aT (ai 0 A.1.1&&ai A.1.1 A.1.1) (aT (aj A.1.1 A.1.1) (ab (aY U.1.1.toNat J.2.2.2.1,aY A.1.1.toNat I.2.2.1,0,()))))
def HC(I:Int)(J:kZ)(Z U:aR)(A:ef):GH:=bif ak A.1.1 ↑(bT (w ((aE U.1.1.toNat)-w ((w (0-w (0-(aE I.toNat)))).tdiv 32))).toNat (0:Int)).length then(digit (aY U.1.1.toNat J.2.2.1) (w (A.1.1+w ((w (0-w (0-(aE I.toNat)))).tdiv 32)))).bind λa=>(digit (aY U.1.1.toNat J.2.2.1) (w (w (A.1.1+w ((w (0-w (0-(aE I.toNat)))).tdiv 32))+1))).bind λb=>bif ak ((w (0-w (0-(aE I.toNat)))).tmod 32) 0 then ae else aN A.2.2.1 A.1.1 λd=>aB ((w (A.1.1+1),()),(),A.2.2.1.set A.1.1.toNat (wr .u32 ((wu ↑((word .u64 a).lor (word .u64 (wu (b*4294967296))))).fdiv ↑(2^((w (0-w (0-(aE I.toNat)))).tmod 32).toNat.min 64))),())else(bt (aA (XO A) ((↑A.2.2.1.length,()),(),())) (XP J Z A)).bind λc=>ay c
def HD(I:ef)(A:aR):qo:=(aF (ak 0 A.1.1) (aN I.2.2.1 (w (A.1.1-1)) λJ=>ab (aj J 0))).bind λU=>bif U then aB ((w (A.1.1-1),()),(),())else ay (bb ((A.1.1,()),(),()))
def HE(J:kZ)(U:aR)(I:ef)(A:aR):nE:=aT (ai 0 A.1.1&&ai A.1.1 ↑I.2.2.1.length) (aT (ai 0 A.1.1&&ai A.1.1 A.1.1) (aT (aj A.1.1 A.1.1) (ab (aY U.1.1.toNat J.2.2.2.1,aY A.1.1.toNat I.2.2.1,0,()))))
def XQ(A:Int)(U:kZ)(b Z:aR)(I:ef):GH:=bif ak I.1.1 (aE Z.1.1.toNat)then bif ai 0 I.1.1&&ak I.1.1 (aE Z.1.1.toNat)then U.2.2.1[I.1.1.toNat]?.bind λJ=>bif ak ((bif ai (w (0-(aE A.toNat))) 4096 then w (0-(aE A.toNat))else 4096).tmod 32) 0 then ae else aN I.2.2.1 (w (I.1.1+w ((bif ai (w (0-(aE A.toNat))) 4096 then w (0-(aE A.toNat))else 4096).tdiv 32))) λa=>aN I.2.2.1 (w (I.1.1+w ((bif ai (w (0-(aE A.toNat))) 4096 then w (0-(aE A.toNat))else 4096).tdiv 32))) λd=>aN (I.2.2.1.set (w (I.1.1+w ((bif ai (w (0-(aE A.toNat))) 4096 then w (0-(aE A.toNat))else 4096).tdiv 32))).toNat (wr .u32 ↑((word .u32 a).lor (word .u32 (wr .u32 (wu (wu J*↑(2^((bif ai (w (0-(aE A.toNat))) 4096 then w (0-(aE A.toNat))else 4096).tmod 32).toNat.min 64)))))))) (w (w (I.1.1+w ((bif ai (w (0-(aE A.toNat))) 4096 then w (0-(aE A.toNat))else 4096).tdiv 32))+1)) λe=>aB ((w (I.1.1+1),()),(),(I.2.2.1.set (w (I.1.1+w ((bif ai (w (0-(aE A.toNat))) 4096 then w (0-(aE A.toNat))else 4096).tdiv 32))).toNat (wr .u32 ↑((word .u32 a).lor (word .u32 (wr .u32 (wu (wu J*↑(2^((bif ai (w (0-(aE A.toNat))) 4096 then w (0-(aE A.toNat))else 4096).tmod 32).toNat.min 64)))))))).set (w (w (I.1.1+w ((bif ai (w (0-(aE A.toNat))) 4096 then w (0-(aE A.toNat))else 4096).tdiv 32))+1)).toNat (wr .u32 ((wu (wu J*↑(2^((bif ai (w (0-(aE A.toNat))) 4096 then w (0-(aE A.toNat))else 4096).tmod 32).toNat.min 64))).fdiv 4294967296)),())else ae else(bt (aA (HD I) ((↑I.2.2.1.length,()),(),())) (HE U b I)).bind λc=>ay c
def OI(I:Int)(J:kZ)(U A:aR):nE:=aT (ai 0 A.1.1&&ai A.1.1 ↑J.2.2.1.length) (aT (ai 0 A.1.1&&ai A.1.1 A.1.1) (aT (aj A.1.1 A.1.1) (bif ak (w (0-(aE I.toNat))) 0 then bif ai (w (0-(aE I.toNat))) (w (-32*(aE A.1.1.toNat)))then ab (aY U.1.1.toNat J.2.2.2.1,[],0,())else aT (ai 0 (w ((aE A.1.1.toNat)-w ((w (0-w (0-(aE I.toNat)))).tdiv 32)))&&(ai (w ((aE A.1.1.toNat)-w ((w (0-w (0-(aE I.toNat)))).tdiv 32))) (w ((aE A.1.1.toNat)-w ((w (0-w (0-(aE I.toNat)))).tdiv 32)))&&ai (w ((aE A.1.1.toNat)-w ((w (0-w (0-(aE I.toNat)))).tdiv 32))*4) 70368744177664)) (aA (HC I J U A) ((0,()),(),bT (w ((aE A.1.1.toNat)-w ((w (0-w (0-(aE I.toNat)))).tdiv 32))).toNat (0:Int),()))else aT (ai 0 (w (w ((aE A.1.1.toNat)+w ((bif ai (w (0-(aE I.toNat))) 4096 then w (0-(aE I.toNat))else 4096).tdiv 32))+1))&&(ai (w (w ((aE A.1.1.toNat)+w ((bif ai (w (0-(aE I.toNat))) 4096 then w (0-(aE I.toNat))else 4096).tdiv 32))+1)) (w (w ((aE A.1.1.toNat)+w ((bif ai (w (0-(aE I.toNat))) 4096 then w (0-(aE I.toNat))else 4096).tdiv 32))+1))&&ai (w (w ((aE A.1.1.toNat)+w ((bif ai (w (0-(aE I.toNat))) 4096 then w (0-(aE I.toNat))else 4096).tdiv 32))+1)*4) 70368744177664)) (aA (XQ I J U A) ((0,()),(),bT (w (w ((aE A.1.1.toNat)+w ((bif ai (w (0-(aE I.toNat))) 4096 then w (0-(aE I.toNat))else 4096).tdiv 32))+1)).toNat (0:Int),())))))
def XS(J:Int)(I:kZ)(A:aR):nE:=aT (ai 0 A.1.1&&ai A.1.1 ↑I.2.2.2.1.length) (aT (ai 0 A.1.1&&ai A.1.1 A.1.1) (aT (aj A.1.1 A.1.1) (bt (aA (XN I) ((↑I.2.2.1.length,()),(),())) (OI J I A))))
def zs(U:Int)(J:ef)(I:aR)(A:kZ):Option (kZ⊕om):=bif ai 0 A.1.1 then aT (ai 0 (w (w (A.1.1+(aE I.1.1.toNat))+1))&&ai (w (w (A.1.1+(aE I.1.1.toNat))+1)) ↑A.2.2.1.length) (aT (ai 0 A.1.1&&ai A.1.1 ↑(w (w (A.1.1+(aE I.1.1.toNat))+1)).toNat) ((It (aY ((w (w (A.1.1+(aE I.1.1.toNat))+1)).toNat-A.1.1.toNat) (BW A.1.1.toNat A.2.2.1)) (aY I.1.1.toNat J.2.2.1)).bind λZ=>bt (aA (HK J I A Z) ((0,0,0,()),(),A.2.2.1,())) (X9 A)))else(bt (aA (Ya A) ((↑A.2.2.2.1.length,()),(),())) (XS U A)).bind λa=>ay a
def C5(x:bq)(a:aR)(J:Int)(U:ef)(I:aR)(A:vJ):Option (vJ⊕om):=bif ai ↑A.1.1.length ↑(aY a.1.1.toNat x).length then aT (bZ (A.1.1.length+[0].length) 4) (aB ((cH A.1.1 [0],()),(),()))else(aT (ai 0 (w (↑A.1.1.length-(aE I.1.1.toNat)))&&(ai (w (↑A.1.1.length-(aE I.1.1.toNat))) (w (↑A.1.1.length-(aE I.1.1.toNat)))&&ai (w (↑A.1.1.length-(aE I.1.1.toNat))*4) 70368744177664)) (aA (zs J U I) ((w (↑(bT (w (↑A.1.1.length-(aE I.1.1.toNat))).toNat (0:Int)).length-1),()),(),A.1.1,bT (w (↑A.1.1.length-(aE I.1.1.toNat))).toNat (0:Int),()))).bind λZ=>ay Z
def C6(x:bq)(a:aR)(J:Int)(U:ef)(Z:aR)(I:ef)(A:aR):nE:=aT (ai 0 A.1.1&&ai A.1.1 ↑I.2.2.1.length) (aT (ai 0 A.1.1&&ai A.1.1 A.1.1) (aT (aj A.1.1 A.1.1) (aT (bZ (A.1.1.toNat+[0].length) 4) (aA (C5 x a J U Z) ((cH (aY A.1.1.toNat I.2.2.1) [0],()),(),())))))
def XU(x:bq)(a:aR)(A:Int)(b:ef)(c U:aR)(I:ef):GH:=bif ak I.1.1 ↑(aY U.1.1.toNat (aY a.1.1.toNat x)).length then aQ (aY U.1.1.toNat (aY a.1.1.toNat x)) I.1.1 λJ=>bif ak ((bif ai ((aE A.toNat)) 4096 then(aE A.toNat)else 4096).tmod 32) 0 then ae else aN I.2.2.1 (w (I.1.1+w ((bif ai ((aE A.toNat)) 4096 then(aE A.toNat)else 4096).tdiv 32))) λZ=>aN I.2.2.1 (w (I.1.1+w ((bif ai ((aE A.toNat)) 4096 then(aE A.toNat)else 4096).tdiv 32))) λe=>aN (I.2.2.1.set (w (I.1.1+w ((bif ai ((aE A.toNat)) 4096 then(aE A.toNat)else 4096).tdiv 32))).toNat (wr .u32 ↑((word .u32 Z).lor (word .u32 (wr .u32 (wu (wu J*↑(2^((bif ai ((aE A.toNat)) 4096 then(aE A.toNat)else 4096).tmod 32).toNat.min 64)))))))) (w (w (I.1.1+w ((bif ai ((aE A.toNat)) 4096 then(aE A.toNat)else 4096).tdiv 32))+1)) λf=>aB ((w (I.1.1+1),()),(),(I.2.2.1.set (w (I.1.1+w ((bif ai ((aE A.toNat)) 4096 then(aE A.toNat)else 4096).tdiv 32))).toNat (wr .u32 ↑((word .u32 Z).lor (word .u32 (wr .u32 (wu (wu J*↑(2^((bif ai ((aE A.toNat)) 4096 then(aE A.toNat)else 4096).tmod 32).toNat.min 64)))))))).set (w (w (I.1.1+w ((bif ai ((aE A.toNat)) 4096 then(aE A.toNat)else 4096).tdiv 32))+1)).toNat (wr .u32 ((wu (wu J*↑(2^((bif ai ((aE A.toNat)) 4096 then(aE A.toNat)else 4096).tmod 32).toNat.min 64))).fdiv 4294967296)),())else(bt (aA (HI I) ((↑I.2.2.1.length,()),(),())) (C6 x a A b c I)).bind λd=>ay d
def XV(x:bq)(J:aR)(I:Int)(U:ef)(Z A:aR):nE:=aT (ai 0 A.1.1&&ai A.1.1 ↑(aY J.1.1.toNat x).length) (aT (ai 0 A.1.1&&ai A.1.1 A.1.1) (aT (aj A.1.1 A.1.1) (aT (ai 0 (w (w (↑(aY A.1.1.toNat (aY J.1.1.toNat x)).length+w ((bif ai ((aE I.toNat)) 4096 then(aE I.toNat)else 4096).tdiv 32))+1))&&(ai (w (w (↑(aY A.1.1.toNat (aY J.1.1.toNat x)).length+w ((bif ai ((aE I.toNat)) 4096 then(aE I.toNat)else 4096).tdiv 32))+1)) (w (w (↑(aY A.1.1.toNat (aY J.1.1.toNat x)).length+w ((bif ai ((aE I.toNat)) 4096 then(aE I.toNat)else 4096).tdiv 32))+1))&&ai (w (w (↑(aY A.1.1.toNat (aY J.1.1.toNat x)).length+w ((bif ai ((aE I.toNat)) 4096 then(aE I.toNat)else 4096).tdiv 32))+1)*4) 70368744177664)) (aA (XU x J I U Z A) ((0,()),(),bT (w (w (↑(aY A.1.1.toNat (aY J.1.1.toNat x)).length+w ((bif ai ((aE I.toNat)) 4096 then(aE I.toNat)else 4096).tdiv 32))+1)).toNat (0:Int),())))))
def HG(x:bq)(J:aR)(U:Int)(I:ef)(A:aR):nE:=aT (ai 0 A.1.1&&ai A.1.1 ↑I.2.2.1.length) (aT (ai 0 A.1.1&&ai A.1.1 A.1.1) (aT (aj A.1.1 A.1.1) (bt (aA (X8 x J) ((↑(aY J.1.1.toNat x).length,()),(),())) (XV x J U I A))))
def XW(x y:bq)(c b:aR)(A:Int)(U:aR)(I:ef):GH:=bif ak I.1.1 ↑(aY U.1.1.toNat (aY b.1.1.toNat y)).length then aQ (aY U.1.1.toNat (aY b.1.1.toNat y)) I.1.1 λJ=>bif ak ((bif ai ((aE A.toNat)) 4096 then(aE A.toNat)else 4096).tmod 32) 0 then ae else aN I.2.2.1 (w (I.1.1+w ((bif ai ((aE A.toNat)) 4096 then(aE A.toNat)else 4096).tdiv 32))) λZ=>aN I.2.2.1 (w (I.1.1+w ((bif ai ((aE A.toNat)) 4096 then(aE A.toNat)else 4096).tdiv 32))) λd=>aN (I.2.2.1.set (w (I.1.1+w ((bif ai ((aE A.toNat)) 4096 then(aE A.toNat)else 4096).tdiv 32))).toNat (wr .u32 ↑((word .u32 Z).lor (word .u32 (wr .u32 (wu (wu J*↑(2^((bif ai ((aE A.toNat)) 4096 then(aE A.toNat)else 4096).tmod 32).toNat.min 64)))))))) (w (w (I.1.1+w ((bif ai ((aE A.toNat)) 4096 then(aE A.toNat)else 4096).tdiv 32))+1)) λe=>aB ((w (I.1.1+1),()),(),(I.2.2.1.set (w (I.1.1+w ((bif ai ((aE A.toNat)) 4096 then(aE A.toNat)else 4096).tdiv 32))).toNat (wr .u32 ↑((word .u32 Z).lor (word .u32 (wr .u32 (wu (wu J*↑(2^((bif ai ((aE A.toNat)) 4096 then(aE A.toNat)else 4096).tmod 32).toNat.min 64)))))))).set (w (w (I.1.1+w ((bif ai ((aE A.toNat)) 4096 then(aE A.toNat)else 4096).tdiv 32))+1)).toNat (wr .u32 ((wu (wu J*↑(2^((bif ai ((aE A.toNat)) 4096 then(aE A.toNat)else 4096).tmod 32).toNat.min 64))).fdiv 4294967296)),())else(bt (aA (HH I) ((↑I.2.2.1.length,()),(),())) (HG x c A I)).bind λa=>ay a
def XX(x y:bq)(U J:aR)(I:Int)(A:aR):nE:=aT (ai 0 A.1.1&&ai A.1.1 ↑(aY J.1.1.toNat y).length) (aT (ai 0 A.1.1&&ai A.1.1 A.1.1) (aT (aj A.1.1 A.1.1) (aT (ai 0 (w (w (↑(aY A.1.1.toNat (aY J.1.1.toNat y)).length+w ((bif ai ((aE I.toNat)) 4096 then(aE I.toNat)else 4096).tdiv 32))+1))&&(ai (w (w (↑(aY A.1.1.toNat (aY J.1.1.toNat y)).length+w ((bif ai ((aE I.toNat)) 4096 then(aE I.toNat)else 4096).tdiv 32))+1)) (w (w (↑(aY A.1.1.toNat (aY J.1.1.toNat y)).length+w ((bif ai ((aE I.toNat)) 4096 then(aE I.toNat)else 4096).tdiv 32))+1))&&ai (w (w (↑(aY A.1.1.toNat (aY J.1.1.toNat y)).length+w ((bif ai ((aE I.toNat)) 4096 then(aE I.toNat)else 4096).tdiv 32))+1)*4) 70368744177664)) (aA (XW x y U J I A) ((0,()),(),bT (w (w (↑(aY A.1.1.toNat (aY J.1.1.toNat y)).length+w ((bif ai ((aE I.toNat)) 4096 then(aE I.toNat)else 4096).tdiv 32))+1)).toNat (0:Int),())))))
def XY(x y:bq)(I A:aR):nE:=aT (ai 0 A.1.1&&ai A.1.1 ↑y.length) (aT (ai 0 A.1.1&&ai A.1.1 A.1.1) (aT (aj A.1.1 A.1.1) (bif aj (↑(aY A.1.1.toNat y).length) 0 then ab ([],[],9,())else(CX (aY I.1.1.toNat x) (aY A.1.1.toNat y)).bind λb=>bif ak b 0 then aT (bZ (aY I.1.1.toNat x).length 4) (ab ([],aY I.1.1.toNat x,0,()))else bif aj (↑(aY A.1.1.toNat y).length) 1 then(aY A.1.1.toNat y)[0]?.bind λc=>(one (aY I.1.1.toNat x) c).bind λJ=>(ue (wu J.2.1)).bind λZ=>ab (J.1,Z,0,())else aQ (aY A.1.1.toNat y) (w (↑(aY A.1.1.toNat y).length-1)) λa=>(Jz a).bind λU=>aT (ai 0 U) (bt (aA (XT y A) ((↑(aY A.1.1.toNat y).length,()),(),())) (XX x y I A U)))))
def XZ(x y:bq)(A:aR):nE:=aT (ai 0 A.1.1&&ai A.1.1 ↑x.length) (aT (ai 0 A.1.1&&ai A.1.1 A.1.1) (aT (aj A.1.1 A.1.1) (bt (aA (XM y) ((↑y.length,()),(),())) (XY x y A))))
def divMod(x y:bq):nE:=bt (aA (XL x) ((↑x.length,()),(),())) (XZ x y)
def Pn(A:GM):Option (GM⊕bq):=bif ak 0 ↑A.1.2.1.length then(divMod A.1.1 A.1.2.1).bind λI=>aB ((A.1.2.1,I.2.1,()),(),())else ay A.1.1
def gcd(x y:bq):jq:=(sB x).bind λA=>(sB y).bind λI=>aA Pn ((A,I,()),(),())
def kG(x:Bool)(y:bq):mF:=(sB y).bind λA=>(aF x (ab (ak 0 ↑A.length))).bind λI=>ab (I,A,())
def sO(x y:DZ):iq:=(gcd x.2.1 y.2.1).bind λA=>(wK x).bind λI=>(wK y).bind λJ=>(divMod x.2.1 A).bind λU=>(kG (ak (w (I*J)) 0) U.1).bind λZ=>(divMod y.2.1 A).bind λa=>(kG af a.1).bind λb=>ab (Z,b,())
def xD(x y:DZ):vG:=(wK y).bind λA=>bif aj A 0 then ab (((af,[],()),(af,[],()),()),9,())else(sO x y).bind λI=>ab (I,0,())
def wJ(x:Int):mF:=bif ak x 0 then(ue (wu (0-wu x))).bind λA=>(kG ag A).bind λI=>ab I else(ue (wu x)).bind λJ=>(kG af J).bind λU=>ab U
def eN(x:Int):iq:=(wJ x).bind λA=>(wJ 1).bind λI=>ab (A,I,())
def jf(x:DQ):iq:=(xD x.1 x.2.1).bind λA=>bif !aj A.2.1 0 then(eN 0).bind λI=>ab I else ab A.1
def vP(x:bN):rO:=(jf x.1).bind λA=>(jf x.2.1).bind λI=>(jf x.2.2.1).bind λJ=>(jf x.2.2.2.1).bind λU=>(jf x.2.2.2.2.1).bind λZ=>(jf x.2.2.2.2.2.1).bind λa=>ab (A,I,J,U,Z,a,())
def DP(x:DZ):b8:=(bitLen x.2.1).bind λA=>ab A
def sM(x:DQ):b8:=(jf x).bind λA=>(DP A.1).bind λI=>(DP A.2.1).bind λJ=>ab (bif ai I J then J else I)
def tK(x:bN):bB:=(vP x).bind λA=>(sM A.1).bind λI=>bif ak 256 I then ab af else(sM A.2.1).bind λJ=>bif ak 256 J then ab af else(sM A.2.2.1).bind λU=>bif ak 256 U then ab af else(sM A.2.2.2.1).bind λZ=>bif ak 256 Z then ab af else(sM A.2.2.2.2.1).bind λa=>bif ak 256 a then ab af else(sM A.2.2.2.2.2.1).bind λb=>bif ak 256 b then ab af else ab ag
def ab6(x:bq)(A:aR):yM:=(aF (ak 0 A.1.1) (aQ x (w (A.1.1-1)) λI=>ab (aj I 0))).bind λJ=>bif J then aB ((w (A.1.1-1),()),(),())else ay (bb ((A.1.1,()),(),()))
def ab7(y:bq)(A:aR):yM:=(aF (ak 0 A.1.1) (aQ y (w (A.1.1-1)) λI=>ab (aj I 0))).bind λJ=>bif J then aB ((w (A.1.1-1),()),(),())else ay (bb ((A.1.1,()),(),()))
def RJ(y:bq)(Z:aR)(I:ef)(b:Int)(A:jO):Option (jO⊕ef⊕bq):=bif ak A.1.2.1 ↑(aY Z.1.1.toNat y).length then aQ (aY Z.1.1.toNat y) A.1.2.1 λJ=>aN A.2.2.1 (w (I.1.1+A.1.2.1)) λU=>aN A.2.2.1 (w (I.1.1+A.1.2.1)) λc=>aB (((wu (A.1.1+wu (wu (wu b*wu J)+wu U))).fdiv 4294967296,w (A.1.2.1+1),()),(),A.2.2.1.set (w (I.1.1+A.1.2.1)).toNat (wr .u32 (wu (A.1.1+wu (wu (wu b*wu J)+wu U)))),())else(aN A.2.2.1 (w (I.1.1+↑(aY Z.1.1.toNat y).length)) λd=>aB ((w (I.1.1+1),()),(),A.2.2.1.set (w (I.1.1+↑(aY Z.1.1.toNat y).length)).toNat (wr .u32 A.1.1),())).bind λa=>ay a
def ab8(U:ef)(A:aR):yM:=(aF (ak 0 A.1.1) (aN U.2.2.1 (w (A.1.1-1)) λI=>ab (aj I 0))).bind λJ=>bif J then aB ((w (A.1.1-1),()),(),())else ay (bb ((A.1.1,()),(),()))
def ab9(I:ef)(A:aR):jq:=aT (ai 0 A.1.1&&ai A.1.1 ↑I.2.2.1.length) (aT (ai 0 A.1.1&&ai A.1.1 A.1.1) (aT (aj A.1.1 A.1.1) (ab (aY A.1.1.toNat I.2.2.1))))
def RK(x y:bq)(J Z:aR)(A:ef):Option (ef⊕bq):=bif ak A.1.1 ↑(aY J.1.1.toNat x).length then aQ (aY J.1.1.toNat x) A.1.1 λU=>bif aj U 0 then aB ((w (A.1.1+1),()),(),A.2.2.1,())else aA (RJ y Z A U) ((0,0,()),(),A.2.2.1,())else(bt (aA (ab8 A) ((↑A.2.2.1.length,()),(),())) (ab9 A)).bind λI=>ay I
def aca(x y:bq)(I A:aR):jq:=aT (ai 0 A.1.1&&ai A.1.1 ↑y.length) (aT (ai 0 A.1.1&&ai A.1.1 A.1.1) (aT (aj A.1.1 A.1.1) (aT (ai 0 (w (↑(aY I.1.1.toNat x).length+↑(aY A.1.1.toNat y).length))&&(ai (w (↑(aY I.1.1.toNat x).length+↑(aY A.1.1.toNat y).length)) (w (↑(aY I.1.1.toNat x).length+↑(aY A.1.1.toNat y).length))&&ai (w (↑(aY I.1.1.toNat x).length+↑(aY A.1.1.toNat y).length)*4) 70368744177664)) (aA (RK x y I A) ((0,()),(),bT (w (↑(aY I.1.1.toNat x).length+↑(aY A.1.1.toNat y).length)).toNat (0:Int),())))))
def acb(x y:bq)(A:aR):jq:=aT (ai 0 A.1.1&&ai A.1.1 ↑x.length) (aT (ai 0 A.1.1&&ai A.1.1 A.1.1) (aT (aj A.1.1 A.1.1) (bt (aA (ab7 y) ((↑y.length,()),(),())) (aca x y A))))
def JN(x y:bq):jq:=bt (aA (ab6 x) ((↑x.length,()),(),())) (acb x y)
def pL(x y:DZ):mF:=(JN x.2.1 y.2.1).bind λA=>(kG (!cu Ty.bool x.1 y.1) A).bind λI=>ab I
def oT(x y:DQ):iq:=(jf x).bind λA=>(jf y).bind λI=>(pL A.1 I.1).bind λJ=>(pL A.2.1 I.2.1).bind λU=>(sO J U).bind λZ=>ab Z
def uR(x y:DQ):Option (DZ×DQ):=(jf x).bind λA=>(jf y).bind λI=>(pL A.1 I.2.1).bind λJ=>(pL I.1 A.2.1).bind λU=>(pL A.2.1 I.2.1).bind λZ=>ab (J,U,Z,())
def IU(x:DZ):mF:=(kG (!x.1) x.2.1).bind λA=>ab A
def V9(I:jO)(A:aR):yM:=(aF (ak 0 A.1.1) (aN I.2.2.1 (w (A.1.1-1)) λJ=>ab (aj J 0))).bind λU=>bif U then aB ((w (A.1.1-1),()),(),())else ay (bb ((A.1.1,()),(),()))
def Wa(I:jO)(A:aR):jq:=aT (ai 0 A.1.1&&ai A.1.1 ↑I.2.2.1.length) (aT (ai 0 A.1.1&&ai A.1.1 A.1.1) (aT (aj A.1.1 A.1.1) (ab (aY A.1.1.toNat I.2.2.1))))
def Nj(x y:bq)(A:jO):Option (jO⊕bq):=bif ak A.1.2.1 ↑(bT (w ((bif ai ↑x.length ↑y.length then ↑y.length else ↑x.length)+1)).toNat (0:Int)).length then(digit x A.1.2.1).bind λI=>(digit y A.1.2.1).bind λJ=>aN A.2.2.1 A.1.2.1 λZ=>aB (((wu (A.1.1+wu (I+J))).fdiv 4294967296,w (A.1.2.1+1),()),(),A.2.2.1.set A.1.2.1.toNat (wr .u32 (wu (A.1.1+wu (I+J)))),())else(bt (aA (V9 A) ((↑A.2.2.1.length,()),(),())) (Wa A)).bind λU=>ay U
def Cr(x y:bq):jq:=aT (ai 0 (w ((bif ai ↑x.length ↑y.length then ↑y.length else ↑x.length)+1))&&(ai (w ((bif ai ↑x.length ↑y.length then ↑y.length else ↑x.length)+1)) (w ((bif ai ↑x.length ↑y.length then ↑y.length else ↑x.length)+1))&&ai (w ((bif ai ↑x.length ↑y.length then ↑y.length else ↑x.length)+1)*4) 70368744177664)) (aA (Nj x y) ((0,0,()),(),bT (w ((bif ai ↑x.length ↑y.length then ↑y.length else ↑x.length)+1)).toNat (0:Int),()))
def af8(x:bq)(A:aR):V4:=(aF (ak 0 A.1.1) (aQ x (w (A.1.1-1)) λI=>ab (aj I 0))).bind λJ=>bif J then aB ((w (A.1.1-1),()),(),())else ay (bb ((A.1.1,()),(),()))
def af9(U:jO)(A:aR):V4:=(aF (ak 0 A.1.1) (aN U.2.2.1 (w (A.1.1-1)) λI=>ab (aj I 0))).bind λJ=>bif J then aB ((w (A.1.1-1),()),(),())else ay (bb ((A.1.1,()),(),()))
def aga(I:jO)(A:aR):GJ:=aT (ai 0 A.1.1&&ai A.1.1 ↑I.2.2.1.length) (aT (ai 0 A.1.1&&ai A.1.1 A.1.1) (aT (aj A.1.1 A.1.1) (ab (aY A.1.1.toNat I.2.2.1,ag,()))))
def LW(x y:bq)(Z:aR)(A:jO):Option (jO⊕bq×jM):=bif ak A.1.2.1 ↑(bT (ns ↑(aY Z.1.1.toNat x).length) (0:Int)).length then(digit x A.1.2.1).bind λJ=>(digit y A.1.2.1).bind λU=>aN A.2.2.1 A.1.2.1 λa=>aB (((wu (wu (J-U)-A.1.1)).fdiv 9223372036854775808,w (A.1.2.1+1),()),(),A.2.2.1.set A.1.2.1.toNat (wr .u32 (wu (wu (J-U)-A.1.1))),())else(bt (aA (af9 A) ((↑A.2.2.1.length,()),(),())) (aga A)).bind λI=>ay I
def agb(x y:bq)(A:aR):GJ:=aT (ai 0 A.1.1&&ai A.1.1 ↑x.length) (aT (ai 0 A.1.1&&ai A.1.1 A.1.1) (aT (aj A.1.1 A.1.1) (aT (ai ↑(aY A.1.1.toNat x).length ↑(aY A.1.1.toNat x).length&&ai (↑(aY A.1.1.toNat x).length*4) 70368744177664) (aA (LW x y A) ((0,0,()),(),bT (ns ↑(aY A.1.1.toNat x).length) (0:Int),())))))
def FP(x y:bq):GJ:=(CX x y).bind λA=>bif ak A 0 then ab ([],af,())else bt (aA (af8 x) ((↑x.length,()),(),())) (agb x y)
def wI(x y:DZ):mF:=bif cu Ty.bool x.1 y.1 then(Cr x.2.1 y.2.1).bind λI=>(kG x.1 I).bind λJ=>ab J else(FP x.2.1 y.2.1).bind λA=>bif A.2.1 then(kG x.1 A.1).bind λU=>ab U else(FP y.2.1 x.2.1).bind λZ=>(kG y.1 Z.1).bind λa=>ab a
def zV(x y:DZ):mF:=(IU y).bind λA=>(wI x A).bind λI=>ab I
def uQ(x y:DQ):iq:=(uR x y).bind λA=>(zV A.1 A.2.1).bind λI=>(sO I A.2.2.1).bind λJ=>ab J
def y6(x:bN):iq:=(oT x.1 x.2.2.2.1).bind λA=>(oT x.2.1 x.2.2.1).bind λI=>(uQ A I).bind λJ=>ab J
def Qw(x y:DZ):b8:=(zV x y).bind λA=>(wK A).bind λI=>ab I
def cV(x y:DQ):b8:=(uR x y).bind λA=>(Qw A.1 A.2.1).bind λI=>ab I
def J1(x:bN):bB:=(y6 x).bind λA=>(eN 0).bind λI=>(cV A I).bind λJ=>ab (aj J 0)
def adQ(x:Int)(A:jM×fQ):b8:=bif aj x 5 then ab 0 else ab (-1)
def pR(x:Int):b8:=bif aj x 4 then ab 3 else bif aj x 3 then ab 2 else bt (bif aj x 1 then bif aj x 1 then ay 1 else aB ((aj x 1,()),(),())else bif aj x 2 then ay 1 else aB ((aj x 2,()),(),())) (adQ x)
def I1(x y z:Int):b8:=bif ak x y then ab y else bif ak z x then ab z else ab x
def L8(x:Int):b8:=(I1 x (-1048576) 1048576).bind λA=>ab A
def rp(x:aJ):jr:=(L8 x.1).bind λA=>(L8 x.2.1).bind λI=>ab (A,I,())
def iX(x:aJ):bB:=(rp x).bind λA=>ab (cu (Ty.st 2 ((Ty.int .i64).cn ((Ty.int .i64).cn Ty.nl))) A x)
def Ku(x:cr):bB:=(iX x.2.1).bind λJ=>(aV (!J) ((pR x.1).bind λU=>(aF (ai U 0) (ab !cu (Ty.st 2 ((Ty.int .i64).cn ((Ty.int .i64).cn Ty.nl))) x.2.1 (0,0,()))).bind λZ=>ab Z)).bind λa=>bif a then ab af else(iX x.2.2.1).bind λb=>(aV (!b) ((pR x.1).bind λc=>(aF (ai c 1) (ab !cu (Ty.st 2 ((Ty.int .i64).cn ((Ty.int .i64).cn Ty.nl))) x.2.2.1 (0,0,()))).bind λd=>ab d)).bind λe=>bif e then ab af else(iX x.2.2.2.1).bind λf=>(aV (!f) ((pR x.1).bind λg=>(aF (ai g 2) (ab !cu (Ty.st 2 ((Ty.int .i64).cn ((Ty.int .i64).cn Ty.nl))) x.2.2.2.1 (0,0,()))).bind λA=>ab A)).bind λI=>bif I then ab af else ab ag
def Sy(x:js)(A:eE):Option (eE⊕aJ):=bif ak A.1.2.1 ↑x.length then aQ x A.1.2.1 λI=>(aV (aj I.1 1) ((aF (!aj A.1.1 5) ((aV (!aj I.1 5) (ab !aj A.1.1 1)).bind λJ=>ab J)).bind λU=>ab U)).bind λZ=>(pR I.1).bind λa=>bif ak a 0 then ay (2,A.1.2.1,())else bif !Z then ay (10,A.1.2.1,())else(Ku I).bind λb=>bif !b then ay (6,A.1.2.1,())else aB ((I.1,w (A.1.2.1+1),()),(),())else ay (0,0,())
def Ks(x:js):jr:=bif ak 256 ↑x.length then ab (5,256,())else aA (Sy x) ((5,0,()),(),())
def xk(x:js):bB:=(Ks x).bind λA=>ab (aj A.1 0)
def afS(x y:bq)(A:aR):jN:=bif ak A.1.1 ↑x.length then aQ x A.1.1 λI=>aQ y A.1.1 λJ=>bif !aj I J then ay af else aB ((w (A.1.1+1),()),(),())else ay ag
def LL(x y:bq):bB:=bif !aj ↑x.length ↑y.length then ab af else aA (afS x y) ((0,()),(),())
def En(x y:rI):bB:=(aF (aj x.1 y.1) (ab (aj x.2.1 y.2.1))).bind λA=>(aF A (ab (aj x.2.2.1 y.2.2.1))).bind λI=>(aF I (ab (aj x.2.2.2.1 y.2.2.2.1))).bind λJ=>(aF J (ab (aj x.2.2.2.2.2.1 y.2.2.2.2.2.1))).bind λU=>(aF U ((LL x.2.2.2.2.1 y.2.2.2.2.1).bind λZ=>ab Z)).bind λa=>ab a
def afQ(x y:List ph)(A:aR):jN:=bif ak A.1.1 ↑x.length then aQ x A.1.1 λI=>aQ y A.1.1 λJ=>bif !cu (Ty.st 4 ((Ty.int .u8).cn ((Ty.int .u8).cn ((Ty.int .u8).cn ((Ty.int .u8).cn Ty.nl))))) I J then ay af else aB ((w (A.1.1+1),()),(),())else ay ag
def LM(x y:List ph):bB:=bif !aj ↑x.length ↑y.length then ab af else aA (afQ x y) ((0,()),(),())
def DL(x y:nC):bB:=(aF (aj x.1 y.1) (ab (aj x.2.1 y.2.1))).bind λA=>(aF A ((LM x.2.2.1 y.2.2.1).bind λI=>ab I)).bind λJ=>ab J
def JW(x:cj):bB:=(aF (aj x.2.2.2.2.2.2.1 0) (ab (aj x.2.2.2.2.2.2.2.1 0))).bind λb=>(aF b (ab !x.2.2.2.2.2.2.2.2.1)).bind λc=>(aF c (ab !x.2.2.2.2.2.2.2.2.2.1)).bind λU=>(aF (aj (↑x.2.2.2.2.2.2.2.2.2.2.1.length) 0) (ab (aj x.2.2.2.2.2.2.2.2.2.2.2.1 0))).bind λd=>(aF d (ab (aj (↑x.2.2.2.2.2.2.2.2.2.2.2.2.1.length) 0))).bind λe=>(aF e (ab (aj (↑x.2.2.2.2.2.2.2.2.2.2.2.2.2.2.1.length) 0))).bind λf=>(aF f ((En x.2.2.2.2.2.2.2.2.2.2.2.2.2.1 (0,0,0,0,[],0,())).bind λg=>ab g)).bind λZ=>(DL x.2.2.2.2.2.2.2.2.2.2.2.2.2.2.2.1 (0,0,[],())).bind λh=>(aF h (ab (aj x.2.2.2.2.2.2.2.2.2.2.2.2.2.2.2.2.1 0))).bind λa=>bif aj x.2.1 1 then(aF Z (ab a)).bind λA=>ab A else bif aj x.2.1 2 then(aF U (ab a)).bind λI=>ab I else(aF U (ab Z)).bind λJ=>ab J
def El(x:List vD)(A:aR):Option (aR⊕vD):=bif ak A.1.1 ↑x.length then aQ x A.1.1 λI=>bif !cY I then ay ((169,0)::I)else aB ((w (A.1.1+1),()),(),())else ay []
def Ek(x:List vD):Ci:=aA (El x) ((0,()),(),())
def JX(x:cj):Ci:=(aF (aj (↑x.2.2.2.2.1.length) 0) (ab (aj x.2.2.2.2.2.1 0))).bind λf=>(aV f ((aF (ak 0 ↑x.2.2.2.2.1.length) ((Em x.2.2.2.2.2.1).bind λg=>ab g)).bind λh=>ab h)).bind λi=>(aV (ak x.2.1 1) (ab (ak 3 x.2.1))).bind λj=>(jV j 2).bind λk=>(aV (ak x.1 1) (ab (ak 1073741824 x.1))).bind λl=>(aV l (ab (ak x.2.2.1 0))).bind λm=>(aV m (ab (ai 8 x.2.2.1))).bind λn=>(jV n 6).bind λo=>(tK x.2.2.2.1).bind λA=>(jV (!A) 5).bind λI=>(J1 x.2.2.2.1).bind λJ=>(jV J 9).bind λU=>(xk x.2.2.2.2.1).bind λZ=>(jV (!Z) 10).bind λa=>(aV (!i) ((JW x).bind λb=>ab !b)).bind λc=>(jV c 17).bind λd=>(Ek [k,o,I,U,a,d]).bind λe=>ab e
def NX(x:Int):bB:=(aF (ai 1 x) (ab (ai x 13))).bind λA=>ab A
def Uk(x:Int):bB:=(aF (ai 1 x) (ab (ai x 16384))).bind λA=>ab A
def Uj(x:bq)(A:GN):Option (GN⊕Bool):=bif ak A.1.2.1 ↑x.length then aQ x A.1.2.1 λI=>(aV (ak I 0) (ab (ak 1048576 I))).bind λJ=>bif J then ay af else(aV A.1.1 (ab (ak 0 I))).bind λU=>aB ((U,w (A.1.2.1+1),()),(),())else((aF A.1.1 (ab (aj (Int.tmod ↑x.length 2) 0))).bind λZ=>(aF Z (ab (ai (↑x.length) 16))).bind λa=>ab a).bind λb=>ay b
def Ui(x:bq):bB:=aA (Uj x) ((aj (↑x.length) 0,0,()),(),())
def LV(x:rI):bB:=(aV (aj x.2.1 1) (ab (aj x.2.1 2))).bind λU=>(aV U (ab (aj x.2.1 3))).bind λZ=>(aV (aj x.2.2.1 3) (ab (aj x.2.2.1 4))).bind λa=>(aV a (ab (aj x.2.2.1 5))).bind λb=>(Uk x.1).bind λc=>(aF c (ab Z)).bind λd=>(aF d (ab b)).bind λe=>(aF e (ab (ai 256 x.2.2.2.1))).bind λf=>(aF f (ab (ai x.2.2.2.1 65536))).bind λg=>(aF g ((Ui x.2.2.2.2.1).bind λh=>ab h)).bind λA=>(aF A (ab (ai 0 x.2.2.2.2.2.1))).bind λI=>(aF I (ab (ai x.2.2.2.2.2.1 1048576))).bind λJ=>ab J
def EI(x:eS):Option eS:=bif aj x.1 1 then ab (x.1,(0,0,0,0,()),x.2.2.1,x.2.2.2.1,x.2.2.2.2.1,x.2.2.2.2.2.1,x.2.2.2.2.2.2.1,x.2.2.2.2.2.2.2.1,x.2.2.2.2.2.2.2.2.1,(((af,[],()),(af,[],()),()),((af,[],()),(af,[],()),()),((af,[],()),(af,[],()),()),((af,[],()),(af,[],()),()),((af,[],()),(af,[],()),()),((af,[],()),(af,[],()),()),()),())else bif aj x.1 2 then ab (x.1,x.2.1,(0,0,()),(0,0,()),x.2.2.2.2.1,[],0,x.2.2.2.2.2.2.2.1,x.2.2.2.2.2.2.2.2.1,(((af,[],()),(af,[],()),()),((af,[],()),(af,[],()),()),((af,[],()),(af,[],()),()),((af,[],()),(af,[],()),()),((af,[],()),(af,[],()),()),((af,[],()),(af,[],()),()),()),())else bif aj x.1 3 then ab (x.1,x.2.1,(0,0,()),x.2.2.2.1,0,[],0,x.2.2.2.2.2.2.2.1,x.2.2.2.2.2.2.2.2.1,(((af,[],()),(af,[],()),()),((af,[],()),(af,[],()),()),((af,[],()),(af,[],()),()),((af,[],()),(af,[],()),()),((af,[],()),(af,[],()),()),((af,[],()),(af,[],()),()),()),())else bif aj x.1 4 then ab (x.1,x.2.1,x.2.2.1,x.2.2.2.1,x.2.2.2.2.1,x.2.2.2.2.2.1,0,(0,0,[],()),0,(((af,[],()),(af,[],()),()),((af,[],()),(af,[],()),()),((af,[],()),(af,[],()),()),((af,[],()),(af,[],()),()),((af,[],()),(af,[],()),()),((af,[],()),(af,[],()),()),()),())else ab (x.1,x.2.1,x.2.2.1,x.2.2.2.1,x.2.2.2.2.1,x.2.2.2.2.2.1,x.2.2.2.2.2.2.1,x.2.2.2.2.2.2.2.1,x.2.2.2.2.2.2.2.2.1,(((af,[],()),(af,[],()),()),((af,[],()),(af,[],()),()),((af,[],()),(af,[],()),()),((af,[],()),(af,[],()),()),((af,[],()),(af,[],()),()),((af,[],()),(af,[],()),()),()),())
def afR(x y:yV)(A:aR):jN:=bif ak A.1.1 ↑x.length then aQ x A.1.1 λI=>aQ y A.1.1 λJ=>bif !cu (Ty.st 5 ((Ty.int .i64).cn ((Ty.st 4 ((Ty.int .u8).cn ((Ty.int .u8).cn ((Ty.int .u8).cn ((Ty.int .u8).cn Ty.nl))))).cn Ty.nl))) I J then ay af else aB ((w (A.1.1+1),()),(),())else ay ag
def LN(x y:yV):bB:=bif !aj ↑x.length ↑y.length then ab af else aA (afR x y) ((0,()),(),())
def tJ(x y:bN):bB:=(vP x).bind λA=>(vP y).bind λI=>(cV A.1 I.1).bind λJ=>bif !aj J 0 then ab af else(cV A.2.1 I.2.1).bind λU=>bif !aj U 0 then ab af else(cV A.2.2.1 I.2.2.1).bind λZ=>bif !aj Z 0 then ab af else(cV A.2.2.2.1 I.2.2.2.1).bind λa=>bif !aj a 0 then ab af else(cV A.2.2.2.2.1 I.2.2.2.2.1).bind λb=>bif !aj b 0 then ab af else(cV A.2.2.2.2.2.1 I.2.2.2.2.2.1).bind λc=>bif !aj c 0 then ab af else ab ag
def pQ(x y:eS):bB:=(aF (aj x.1 y.1) (ab (cu (Ty.st 4 ((Ty.int .u8).cn ((Ty.int .u8).cn ((Ty.int .u8).cn ((Ty.int .u8).cn Ty.nl))))) x.2.1 y.2.1))).bind λJ=>(aF J (ab (cu (Ty.st 2 ((Ty.int .i64).cn ((Ty.int .i64).cn Ty.nl))) x.2.2.1 y.2.2.1))).bind λU=>(aF U (ab (cu (Ty.st 2 ((Ty.int .i64).cn ((Ty.int .i64).cn Ty.nl))) x.2.2.2.1 y.2.2.2.1))).bind λZ=>(aF Z (ab (aj x.2.2.2.2.1 y.2.2.2.2.1))).bind λa=>(aF a (ab (aj x.2.2.2.2.2.2.1 y.2.2.2.2.2.2.1))).bind λb=>(aF b (ab (aj x.2.2.2.2.2.2.2.2.1 y.2.2.2.2.2.2.2.2.1))).bind λc=>(aF c ((LN x.2.2.2.2.2.1 y.2.2.2.2.2.1).bind λd=>ab d)).bind λe=>(aF e ((DL x.2.2.2.2.2.2.2.1 y.2.2.2.2.2.2.2.1).bind λf=>ab f)).bind λg=>(aF g ((tJ x.2.2.2.2.2.2.2.2.2.1 y.2.2.2.2.2.2.2.2.2.1).bind λA=>ab A)).bind λI=>ab I
def Ds(x:yV)(A:eE):M9:=bif ak A.1.2.1 ↑x.length then aQ x A.1.2.1 λI=>(aV (ak I.1 A.1.1) (ab (ak 65536 I.1))).bind λJ=>bif J then ay af else aB ((I.1,w (A.1.2.1+1),()),(),())else ay ag
def Ip(x:yV):bB:=(aV (ak (↑x.length) 1) (ab (ak 16 ↑x.length))).bind λA=>bif A then ab af else aA (Ds x) ((0,0,()),(),())
def EG(x:Int):bB:=(aF (ai 1 x) (ab (ai x 3))).bind λA=>ab A
def EH(x:eS):bB:=(Ip x.2.2.2.2.2.1).bind λA=>(aF A ((EG x.2.2.2.2.2.2.1).bind λI=>ab I)).bind λJ=>ab J
def IL(x:Int):bB:=(aF (ai 1 x) (ab (ai x 4096))).bind λA=>ab A
def Oq(x:ph):yW:=ab (bif ai x.1 x.2.2.2.1 then x.1 else x.2.2.2.1,bif ai x.2.1 x.2.2.2.1 then x.2.1 else x.2.2.2.1,bif ai x.2.2.1 x.2.2.2.1 then x.2.2.1 else x.2.2.2.1,bif ai x.2.2.2.1 x.2.2.2.1 then x.2.2.2.1 else x.2.2.2.1,())
def Hs(x:ph):bB:=(Oq x).bind λA=>ab (cu (Ty.st 4 ((Ty.int .u8).cn ((Ty.int .u8).cn ((Ty.int .u8).cn ((Ty.int .u8).cn Ty.nl))))) A x)
def Qo(x:ph):bB:=(Hs x).bind λA=>ab !A
def IK(x:nC)(A:aR):jN:=bif ak A.1.1 ↑x.2.2.1.length then aQ x.2.2.1 A.1.1 λI=>(Qo I).bind λJ=>bif J then ay !ai 0 A.1.1 else aB ((w (A.1.1+1),()),(),())else ay ag
def DM(x:nC):bB:=(IL x.1).bind λA=>(aV (!A) ((IL x.2.1).bind λI=>ab !I)).bind λJ=>(aV J (ab (ak 65536 (w (x.1*x.2.1))))).bind λU=>(aV U (ab !aj (↑x.2.2.1.length) (w (x.1*x.2.1)))).bind λZ=>bif Z then ab af else aA (IK x) ((0,()),(),())
def Sx(x:eS)(J:tF):bB:=(y6 x.2.2.2.2.2.2.2.2.2.1).bind λA=>(cV A ((af,[],()),(af,[],()),())).bind λI=>ab !aj I 0
def EF(x:eS):bB:=(tK x.2.2.2.2.2.2.2.2.2.1).bind λg=>(aV (!g) ((EI x).bind λh=>(pQ h (x.1,(0,0,0,0,()),(0,0,()),(0,0,()),0,[],0,(0,0,[],()),0,(((af,[],()),(af,[],()),()),((af,[],()),(af,[],()),()),((af,[],()),(af,[],()),()),((af,[],()),(af,[],()),()),((af,[],()),(af,[],()),()),((af,[],()),(af,[],()),()),()),())).bind λi=>ab !i)).bind λj=>bif j then ab af else bt (bif aj x.1 1 then(tJ x.2.2.2.2.2.2.2.2.2.1 (((af,[],()),(af,[],()),()),((af,[],()),(af,[],()),()),((af,[],()),(af,[],()),()),((af,[],()),(af,[],()),()),((af,[],()),(af,[],()),()),((af,[],()),(af,[],()),()),())).bind λk=>ay k else bif aj x.1 2 then(iX x.2.2.1).bind λl=>(aV (!l) ((iX x.2.2.2.1).bind λm=>ab !m)).bind λn=>(aV n ((EH x).bind λo=>ab !o)).bind λp=>bif p then ay af else aB ((),(),())else bif aj x.1 3 then(iX x.2.2.1).bind λA=>(aV (!A) (ab (ak x.2.2.2.2.1 1))).bind λI=>(aV I (ab (ak 1048576 x.2.2.2.2.1))).bind λJ=>(aV J ((EH x).bind λU=>ab !U)).bind λZ=>bif Z then ay af else aB ((),(),())else bif aj x.1 4 then(DM x.2.2.2.2.2.2.2.1).bind λa=>(aV (!a) ((aF (!aj x.2.2.2.2.2.2.1 0) ((EG x.2.2.2.2.2.2.1).bind λb=>ab !b)).bind λc=>ab c)).bind λd=>(aV d ((aF (!aj x.2.2.2.2.2.2.2.2.1 1) (ab !aj x.2.2.2.2.2.2.2.2.1 2)).bind λe=>ab e)).bind λf=>bif f then ay af else aB ((),(),())else ay af) (Sx x)
def RQ(x:eS):bB:=(EF x).bind λA=>ab !A
def RP(x:List eS)(A:aR):jN:=bif ak A.1.1 ↑x.length then aQ x A.1.1 λI=>(RQ I).bind λJ=>bif J then ay !ai 0 A.1.1 else aB ((w (A.1.1+1),()),(),())else ay ag
def JY(x:List eS):bB:=aA (RP x) ((0,()),(),())
def J0(x:cj):Ci:=(xk x.2.2.2.2.2.2.2.2.2.2.1).bind λc=>(jV (!c) 10).bind λd=>(Em x.2.2.2.2.2.2.2.2.2.2.2.1).bind λe=>(jV (!e) 2).bind λf=>(aV (ak 1 ↑x.2.2.2.2.2.2.2.2.2.2.2.2.1.length) (ab (ak 1 ↑x.2.2.2.2.2.2.2.2.2.2.2.2.2.2.1.length))).bind λg=>(jV g 5).bind λh=>(aF (ak 0 ↑x.2.2.2.2.2.2.2.2.2.2.2.2.2.2.1.length) ((LV x.2.2.2.2.2.2.2.2.2.2.2.2.2.1).bind λi=>ab !i)).bind λj=>(jV j 13).bind λk=>(aF (!ak 0 ↑x.2.2.2.2.2.2.2.2.2.2.2.2.2.2.1.length) ((En x.2.2.2.2.2.2.2.2.2.2.2.2.2.1 (0,0,0,0,[],0,())).bind λl=>ab !l)).bind λA=>(jV A 17).bind λI=>(JY x.2.2.2.2.2.2.2.2.2.2.2.2.1).bind λJ=>(aV (!J) ((JY x.2.2.2.2.2.2.2.2.2.2.2.2.2.2.1).bind λU=>ab !U)).bind λZ=>(jV Z 16).bind λa=>(Ek [d,f,h,k,I,a]).bind λb=>ab b
def JZ(x:cj):Ci:=bif aj x.2.1 1 then(NX x.2.2.2.2.2.2.2.1).bind λA=>(jV (!A) 2).bind λI=>ab I else bif aj x.2.1 2 then(J0 x).bind λJ=>ab J else(DM x.2.2.2.2.2.2.2.2.2.2.2.2.2.2.2.1).bind λU=>(jV (!U) 16).bind λZ=>(aF (!aj x.2.2.2.2.2.2.2.2.2.2.2.2.2.2.2.2.1 1) (ab !aj x.2.2.2.2.2.2.2.2.2.2.2.2.2.2.2.2.1 2)).bind λa=>(jV a 2).bind λb=>(Ek [Z,b]).bind λc=>ab c
def asv(A:VX):Option (VX⊕Int):=bif cY A.1.1 then ay A.1.2.1 else(Zn A.1.1).bind λI=>aT (aj (↑I.1) 169) (aB ((BW 1 A.1.1,I.2,()),((I.2,BW 1 A.1.1,()),()),()))
def acH(A:(vD×Unit)×fQ):b8:=aA asv ((A.1.1,0,()),((0,[],()),()),())
def JV(x:cj):b8:=(JX x).bind λA=>bt (bif cY A then(JZ x).bind λI=>aB ((I,()),(),())else aB ((A,()),(),())) acH
def FG(x:cz)(A:VZ):Option (VZ⊕aJ):=bif ak A.1.2.1 ↑x.2.2.2.1.length then aQ x.2.2.2.1 A.1.2.1 λI=>(JV I).bind λJ=>bif !aj J 0 then ay (J,A.1.2.1,())else bif lz A.2.1.1 I.1 af then ay (7,A.1.2.1,())else bif ak A.1.1 I.2.2.1 then ay (17,A.1.2.1,())else bif aj I.2.1 1 then aB ((w (I.2.2.1+1),w (A.1.2.1+1),()),(jU A.2.1.1 I.1 ag,()),())else aB ((I.2.2.1,w (A.1.2.1+1),()),(jU A.2.1.1 I.1 ag,()),())else ay (0,0,())
def LF(x:cz):jr:=(aV (ak x.1 1) (ab (ak 256 x.1))).bind λA=>(aV A (ab (ak x.2.1 1))).bind λI=>(aV I (ab (ak 256 x.2.1))).bind λJ=>bif J then ab (6,0,())else bif ak 64 ↑x.2.2.2.1.length then ab (5,64,())else aA (FG x) ((0,0,()),([],()),())
def Bf(x:cz):bB:=(LF x).bind λA=>ab (aj A.1 0)
def xG(x:Int):bB:=(aF (ai (-4096) x) (ab (ai x 4096))).bind λA=>ab A
def xF(x:bu):bB:=(xG x.1).bind λA=>(aF A ((xG x.2.1).bind λI=>ab I)).bind λJ=>(aF J ((xG x.2.2.1).bind λU=>ab U)).bind λZ=>(aF Z ((xG x.2.2.2.1).bind λa=>ab a)).bind λb=>ab b
def Fv(x:bu):bB:=(xF x).bind λA=>(aV (!A) (ab (ai x.2.2.1 x.1))).bind λI=>(aV I (ab (ai x.2.2.2.1 x.2.1))).bind λJ=>ab J
def pX(x:bu):yW:=(Fv x).bind λA=>bif A then ab (0,0,0,0,())else ab x
def uS(x:bu):b8:=(pX x).bind λA=>ab (w (w (A.2.2.1-A.1)*w (A.2.2.2.1-A.2.1)))
def CT(x:cz)(y:Int)(z:bu):b8:=(Bf x).bind λA=>bif !A then ab 18 else(aV (ak y 0) (ab (ai (↑x.2.2.2.1.length) y))).bind λI=>bif I then ab 8 else(xF z).bind λJ=>bif !J then ab 6 else(uS z).bind λU=>bif ak 65536 U then ab 5 else ab 0
def FH(x:cz)(y:Int):bB:=(aF (ai 0 y) (ab (ak y ↑x.2.2.2.1.length))).bind λA=>(aF A ((Bf x).bind λI=>ab I)).bind λJ=>ab J
def FI(x:tH)(y:Int)(A:aR):yP:=bif ai 0 A.1.1 then aQ x A.1.1 λI=>aQ x y λJ=>bif aj I.2.2.1 (w (J.2.2.1-1))then ay A.1.1 else aB ((w (A.1.1-1),()),(),())else ay (-1)
def pZ(x:tH)(y:Int):b8:=aA (FI x y) ((w (y-1),()),(),())
def LG(x:cz)(y:Int):b8:=(FH x y).bind λA=>bif !A then ab (-1)else(pZ x.2.2.2.1 y).bind λI=>ab I
def vO(x:DQ×DQ×DQ×DQ×DQ×DQ×Unit):rO:=ab (x.1,x.2.1,x.2.2.1,x.2.2.2.1,x.2.2.2.2.1,x.2.2.2.2.2.1,())
def Nq(x y z u:Int):rO:=(eN x).bind λA=>(eN y).bind λI=>(eN z).bind λJ=>(eN u).bind λU=>(eN 0).bind λZ=>(eN 0).bind λa=>(vO (A,I,J,U,Z,a,())).bind λb=>ab b
def GV:rO:=(Nq 1 0 0 1).bind λA=>ab A
def lC(x y:DQ):iq:=(uR x y).bind λA=>(wI A.1 A.2.1).bind λI=>(sO I A.2.2.1).bind λJ=>ab J
def rQ(x y z u:DQ):iq:=(oT x y).bind λA=>(oT z u).bind λI=>(lC A I).bind λJ=>ab J
def Cv(x:bN)(y z:DQ):Option lQ:=(rQ x.1 y x.2.2.1 z).bind λA=>(lC A x.2.2.2.2.1).bind λI=>(rQ x.2.1 y x.2.2.2.1 z).bind λJ=>(lC J x.2.2.2.2.2.1).bind λU=>ab (I,U,())
def GW(x y:bN):rO:=(Cv y x.2.2.2.2.1 x.2.2.2.2.2.1).bind λA=>(rQ y.1 x.1 y.2.2.1 x.2.1).bind λI=>(rQ y.2.1 x.1 y.2.2.2.1 x.2.1).bind λJ=>(rQ y.1 x.2.2.1 y.2.2.1 x.2.2.2.1).bind λU=>(rQ y.2.1 x.2.2.1 y.2.2.2.1 x.2.2.2.1).bind λZ=>(vO (I,J,U,Z,A.1,A.2.1,())).bind λa=>ab a
def Np(x:bN):rO:=(vP x).bind λA=>(vO A).bind λI=>ab I
def GU(x:List bN)(A:dc×(GC×bN×Unit)×Unit):Option (dc×(GC×bN×Unit)×Unit⊕bN×dc):=bif ak A.1.1 ↑x.length then aQ x A.1.1 λJ=>(GW A.2.1.2.1 J).bind λI=>(tK I).bind λU=>bif !U then ay ((((af,[],()),(af,[],()),()),((af,[],()),(af,[],()),()),((af,[],()),(af,[],()),()),((af,[],()),(af,[],()),()),((af,[],()),(af,[],()),()),((af,[],()),(af,[],()),()),()),5,())else aB ((w (A.1.1+1),()),((((A.2.1.1.1.1.1,(),()),(A.2.1.1.1.2.1.1,(),()),()),((A.2.1.1.2.1.1.1,(),()),(A.2.1.1.2.1.2.1.1,(),()),()),((A.2.1.1.2.2.1.1.1,(),()),(A.2.1.1.2.2.1.2.1.1,(),()),()),((A.2.1.1.2.2.2.1.1.1,(),()),(A.2.1.1.2.2.2.1.2.1.1,(),()),()),((A.2.1.1.2.2.2.2.1.1.1,(),()),(A.2.1.1.2.2.2.2.1.2.1.1,(),()),()),((A.2.1.1.2.2.2.2.2.1.1.1,(),()),(A.2.1.1.2.2.2.2.2.1.2.1.1,(),()),()),()),I,()),())else((Np A.2.1.2.1).bind λZ=>ab (Z,0,())).bind λa=>ay a
def Nn(x:List bN)(J:bN)(A:dc×(GC×Unit)×Unit):Option (dc×(GC×Unit)×Unit⊕bN×dc):=bif ak A.1.1 ↑x.length then aQ x A.1.1 λU=>(tK U).bind λZ=>bif !Z then ay ((((af,[],()),(af,[],()),()),((af,[],()),(af,[],()),()),((af,[],()),(af,[],()),()),((af,[],()),(af,[],()),()),((af,[],()),(af,[],()),()),((af,[],()),(af,[],()),()),()),5,())else aB ((w (A.1.1+1),()),((((A.2.1.1.1.1.1,(),()),(A.2.1.1.1.2.1.1,(),()),()),((A.2.1.1.2.1.1.1,(),()),(A.2.1.1.2.1.2.1.1,(),()),()),((A.2.1.1.2.2.1.1.1,(),()),(A.2.1.1.2.2.1.2.1.1,(),()),()),((A.2.1.1.2.2.2.1.1.1,(),()),(A.2.1.1.2.2.2.1.2.1.1,(),()),()),((A.2.1.1.2.2.2.2.1.1.1,(),()),(A.2.1.1.2.2.2.2.1.2.1.1,(),()),()),((A.2.1.1.2.2.2.2.2.1.1.1,(),()),(A.2.1.1.2.2.2.2.2.1.2.1.1,(),()),()),()),()),())else(aA (GU x) ((0,()),((((A.2.1.1.1.1.1,(),()),(A.2.1.1.1.2.1.1,(),()),()),((A.2.1.1.2.1.1.1,(),()),(A.2.1.1.2.1.2.1.1,(),()),()),((A.2.1.1.2.2.1.1.1,(),()),(A.2.1.1.2.2.1.2.1.1,(),()),()),((A.2.1.1.2.2.2.1.1.1,(),()),(A.2.1.1.2.2.2.1.2.1.1,(),()),()),((A.2.1.1.2.2.2.2.1.1.1,(),()),(A.2.1.1.2.2.2.2.1.2.1.1,(),()),()),((A.2.1.1.2.2.2.2.2.1.1.1,(),()),(A.2.1.1.2.2.2.2.2.1.2.1.1,(),()),()),()),J,()),())).bind λI=>ay I
def GS(x:List bN):Option (bN×dc):=GV.bind λA=>aA (Nn x A) ((0,()),((((af,(),()),(af,(),()),()),((af,(),()),(af,(),()),()),((af,(),()),(af,(),()),()),((af,(),()),(af,(),()),()),((af,(),()),(af,(),()),()),((af,(),()),(af,(),()),()),()),()),())
def zF(x:cz)(A:(Int×List bN×Unit)×fQ):Option ((Int×List bN×Unit)×fQ⊕bN×dc):=bif ai 0 A.1.1 then aQ x.2.2.2.1 A.1.1 λI=>aT (bZ (A.1.2.1.length+[I.2.2.2.1].length) 384) ((LG x A.1.1).bind λU=>aB ((U,cH A.1.2.1 [I.2.2.2.1],()),(),()))else((GS A.1.2.1).bind λJ=>ab (J.1,J.2.1,())).bind λZ=>ay Z
def Il(x:cz)(y:Int):Option (bN×dc):=(Bf x).bind λA=>bif !A then ab ((((af,[],()),(af,[],()),()),((af,[],()),(af,[],()),()),((af,[],()),(af,[],()),()),((af,[],()),(af,[],()),()),((af,[],()),(af,[],()),()),((af,[],()),(af,[],()),()),()),18,())else(aV (ak y 0) (ab (ai (↑x.2.2.2.1.length) y))).bind λI=>bif I then ab ((((af,[],()),(af,[],()),()),((af,[],()),(af,[],()),()),((af,[],()),(af,[],()),()),((af,[],()),(af,[],()),()),((af,[],()),(af,[],()),()),((af,[],()),(af,[],()),()),()),8,())else aA (zF x) ((y,[],()),(),())
def Po(x:cz)(y:Int):Option ((bN×jM)×cj×Unit):=(Il x y).bind λA=>(aV (aj A.2.1 18) (ab (aj A.2.1 8))).bind λI=>bif I then ab (((((af,[],()),(af,[],()),()),((af,[],()),(af,[],()),()),((af,[],()),(af,[],()),()),((af,[],()),(af,[],()),()),((af,[],()),(af,[],()),()),((af,[],()),(af,[],()),()),()),af,()),(0,0,0,(((af,[],()),(af,[],()),()),((af,[],()),(af,[],()),()),((af,[],()),(af,[],()),()),((af,[],()),(af,[],()),()),((af,[],()),(af,[],()),()),((af,[],()),(af,[],()),()),()),[],0,0,0,af,af,[],0,[],(0,0,0,0,[],0,()),[],(0,0,[],()),0,()),())else aQ x.2.2.2.1 y λJ=>ab ((A.1,aj A.2.1 0,()),J,())
def Kv(x:cr):Option hH:=(pR x.1).bind λA=>aT (ai 0 (bif ai A 0 then 0 else A)&&ai (bif ai A 0 then 0 else A) ↑[x.2.1,x.2.2.1,x.2.2.2.1].length) (ab (aY (bif ai A 0 then 0 else A).toNat [x.2.1,x.2.2.1,x.2.2.2.1]))
def xC(x y:Int):vG:=(wJ x).bind λI=>(wJ y).bind λJ=>(xD I J).bind λA=>ab (A.1,A.2.1,())
def Qx(A I:DZ)(U:vJ):Na:=(kG (!cu Ty.bool A.1 I.1) U.1.1).bind λJ=>(pL J I).bind λZ=>(zV A Z).bind λa=>ab (J,a,0,())
def IQ(x y:DZ):Na:=(kG x.1 x.2.1).bind λI=>(kG y.1 y.2.1).bind λJ=>(divMod I.2.1 J.2.1).bind λA=>bif !aj A.2.2.1 0 then ab ((af,[],()),(af,[],()),A.2.2.1,())else bt ((aF (!cu Ty.bool I.1 J.1) (ab (ak 0 ↑A.2.1.length))).bind λU=>bif U then(ue 1).bind λZ=>(Cr A.1 Z).bind λa=>aB ((a,()),(),())else aB ((A.1,()),(),())) (Qx I J)
def sN(x:DQ):mF:=(jf x).bind λA=>(IQ A.1 A.2.1).bind λI=>ab I.1
def uw(I:bq)(A:eE):Option (eE⊕aR⊕Int×jM):=(aF (ai 0 A.1.2.1) (ab (ai (↑I.length) 2))).bind λJ=>bif J then aQ I A.1.2.1 λU=>aB ((wu ↑((word .u64 (wu (A.1.1*4294967296))).lor (word .u64 (wu U))),w (A.1.2.1-1),()),(),())else ay (bb ((A.1.1,()),(),()))
def aal(A:aR)(I:tF):yQ:=ab (w A.1.1,ag,())
def IW(x:DZ)(I:bq)(A:aR):yQ:=bt ((aV (ak 2 ↑I.length) (ab (ak 9223372036854775808 A.1.1))).bind λJ=>(aV J ((aF (aj A.1.1 9223372036854775808) (ab !x.1)).bind λU=>ab U)).bind λZ=>bif Z then ay (0,af,())else bif x.1 then ay (w (wu (0-A.1.1)),ag,())else aB ((),(),())) (aal A)
def ss(x:DZ):yQ:=(sB x.2.1).bind λA=>bt (aA (uw A) ((0,w (↑A.length-1),()),(),())) (IW x A)
def GR(x:bN)(y:aJ):GL:=(tK x).bind λd=>bif !d then ab ((0,0,()),5,())else(iX y).bind λe=>bif !e then ab ((0,0,()),6,())else(eN y.1).bind λf=>(eN y.2.1).bind λg=>(Cv x f g).bind λb=>(xC 1 2).bind λc=>(lC b.1 c.1).bind λh=>(sN h).bind λi=>(ss i).bind λI=>(lC b.2.1 c.1).bind λj=>(sN j).bind λJ=>(ss J).bind λA=>(aF I.2.1 (ab A.2.1)).bind λU=>(aF U ((iX (I.1,A.1,())).bind λZ=>ab Z)).bind λa=>bif a then ab ((I.1,A.1,()),0,())else ab ((0,0,()),6,())
def Sz(x:Int)(y:hH):Option cr:=bif ak 0 ↑y.length then y[0]?.bind λA=>bif ak 1 ↑y.length then y[1]?.bind λI=>bif ak 2 ↑y.length then y[2]?.bind λU=>ab (x,A,I,U,())else ab (x,A,I,(0,0,()),())else bif ak 2 ↑y.length then y[2]?.bind λZ=>ab (x,A,(0,0,()),Z,())else ab (x,A,(0,0,()),(0,0,()),())else bif ak 1 ↑y.length then y[1]?.bind λJ=>bif ak 2 ↑y.length then y[2]?.bind λa=>ab (x,(0,0,()),J,a,())else ab (x,(0,0,()),J,(0,0,()),())else bif ak 2 ↑y.length then y[2]?.bind λb=>ab (x,(0,0,()),(0,0,()),b,())else ab (x,(0,0,()),(0,0,()),(0,0,()),())
def EJ(y:bN)(J:GO)(a:cr)(U:hH)(A:tE):Option (tE⊕GO⊕js×dc):=bif ak A.1.2.1 ↑U.length then aQ U A.1.2.1 λb=>(GR y b).bind λI=>bif !aj I.2.1 0 then ay (cy ([],I.2.1,()))else aT (bZ (A.1.1.length+[I.1].length) 16) (aB ((cH A.1.1 [I.1],w (A.1.2.1+1),()),(),()))else((Sz a.1 A.1.1).bind λZ=>aT (bZ (J.1.1.length+[Z].length) 56) (aB ((cH J.1.1 [Z],w (J.1.2.1+1),()),(),()))).bind λc=>ay c
def EK(x:js)(y:bN)(A:GO):Option (GO⊕js×dc):=bif ak A.1.2.1 ↑x.length then aQ x A.1.2.1 λI=>(Kv I).bind λJ=>aA (EJ y A I J) (([],0,()),(),())else ay (A.1.1,0,())
def Kt(x:js)(y:bN):Option (js×dc):=(xk x).bind λA=>bif !A then ab ([],10,())else aA (EK x y) (([],0,()),(),())
def Dp(x y z:aJ):b8:=ab (w (w (w (w (x.1-w (2*y.1))+z.1)*w (w (x.1-w (2*y.1))+z.1))+w (w (w (x.2.1-w (2*y.2.1))+z.2.1)*w (w (x.2.1-w (2*y.2.1))+z.2.1))))
def Dm(x y:Int)(A:aR):GK:=bif ai A.1.1 64 then bif ai x (w (w (w (w (w (w (16*A.1.1)*A.1.1)*A.1.1)*A.1.1)*y)*y))then ay (A.1.1,0,())else aB ((w (A.1.1+1),()),(),())else ay (0,11,())
def Pf(x y:Int)(z:hH)(A:aR):GK:=bif ak A.1.1 ↑z.length then aQ z A.1.1 λI=>(iX I).bind λJ=>bif !J then ay (0,6,())else aB ((w (A.1.1+1),()),(),())else(aA (Dm x y) ((1,()),(),())).bind λU=>ay U
def Dl(x y:Int)(z:hH):jr:=(aV (ak y 1) (ab (ak 256 y))).bind λA=>bif A then ab (0,2,())else aA (Pf x y z) ((0,()),(),())
def Ib(x:rP)(y:Int):jr:=(Dp x.1 x.2.1 x.2.2.1).bind λI=>(Dl I y [x.1,x.2.1,x.2.2.1]).bind λA=>ab (A.1,A.2.1,())
def Pe(x:hH)(y z:Int)(A:aR):jN:=bif ak A.1.1 ↑x.length then aQ x A.1.1 λI=>(iX I).bind λJ=>bif !J then ay af else aB ((w (A.1.1+1),()),(),())else((aF (ai 1 z) (ab (ai z 64))).bind λU=>(aF U (ab (ai 0 y))).bind λZ=>(aF Z (ab (ai y z))).bind λa=>ab a).bind λb=>ay b
def Ic(x:hH)(y z:Int):bB:=aA (Pe x y z) ((0,()),(),())
def pF(x y:Int):b8:=kv (w (2*y)) (kv (w (2*y)) (bif ak ((w (w (2*x)+y)).tmod (w (2*y))) 0 then ab (w (w ((w (w (2*x)+y)).tdiv (w (2*y)))-1))else ab (w ((w (w (2*x)+y)).tdiv (w (2*y))))))
def ub(x:rP)(y z:Int):jr:=(Ic [x.1,x.2.1,x.2.2.1] y z).bind λA=>bif !A then ab (0,0,())else(pF (w (w (w (w (w (z-y)*w (z-y))*x.1.1)+w (w (w (2*y)*w (z-y))*x.2.1.1))+w (w (y*y)*x.2.2.1.1))) (w (z*z))).bind λI=>(pF (w (w (w (w (w (z-y)*w (z-y))*x.1.2.1)+w (w (w (2*y)*w (z-y))*x.2.1.2.1))+w (w (y*y)*x.2.2.1.2.1))) (w (z*z))).bind λJ=>ab (I,J,())
def Dk(x:rP)(I:aJ)(A:GG):Option (GG⊕vK):=bif ai A.1.1 I.1 then(ub x A.1.1 I.1).bind λJ=>aT (bZ (A.2.1.1.length+[J].length) 16) (aB ((w (A.1.1+1),()),(cH A.2.1.1 [J],()),()))else ay (A.2.1.1,0,())
def Ia(x:rP)(y:Int):Option vK:=(Ib x y).bind λA=>bif !aj A.2.1 0 then ab ([],A.2.1,())else aA (Dk x A) ((1,()),([],()),())
def H8(x:aJ×rP)(y:Int):jr:=(Dp x.1 x.2.1 x.2.2.1).bind λA=>(Dp x.2.1 x.2.2.1 x.2.2.2.1).bind λI=>(Dl (w (9*bif ai A I then I else A)) y [x.1,x.2.1,x.2.2.1,x.2.2.2.1]).bind λJ=>ab (J.1,J.2.1,())
def ua(x:aJ×rP)(y z:Int):jr:=(Ic [x.1,x.2.1,x.2.2.1,x.2.2.2.1] y z).bind λA=>bif !A then ab (0,0,())else(pF (w (w (w (w (w (w (w (z-y)*w (z-y))*w (z-y))*x.1.1)+w (w (w (w (3*y)*w (z-y))*w (z-y))*x.2.1.1))+w (w (w (w (3*y)*y)*w (z-y))*x.2.2.1.1))+w (w (w (y*y)*y)*x.2.2.2.1.1))) (w (w (z*z)*z))).bind λI=>(pF (w (w (w (w (w (w (w (z-y)*w (z-y))*w (z-y))*x.1.2.1)+w (w (w (w (3*y)*w (z-y))*w (z-y))*x.2.1.2.1))+w (w (w (w (3*y)*y)*w (z-y))*x.2.2.1.2.1))+w (w (w (y*y)*y)*x.2.2.2.1.2.1))) (w (w (z*z)*z))).bind λJ=>ab (I,J,())
def Di(x:aJ×rP)(I:aJ)(A:GG):Option (GG⊕vK):=bif ai A.1.1 I.1 then(ua x A.1.1 I.1).bind λJ=>aT (bZ (A.2.1.1.length+[J].length) 16) (aB ((w (A.1.1+1),()),(cH A.2.1.1 [J],()),()))else ay (A.2.1.1,0,())
def H7(x:aJ×rP)(y:Int):Option vK:=(H8 x y).bind λA=>bif !aj A.2.1 0 then ab ([],A.2.1,())else aA (Di x A) ((1,()),([],()),())
def Ie(x:aJ)(y:cr)(z:Int):Option vK:=bif aj y.1 3 then(Ia (x,y.2.1,y.2.2.1,()) z).bind λA=>ab (A.1,A.2.1,())else bif aj y.1 4 then(H7 (x,y.2.1,y.2.2.1,y.2.2.2.1,()) z).bind λI=>ab (I.1,I.2.1,())else ab ([y.2.1],0,())
def zE(a:Cd)(Z:vK)(A:VY):Option (VY⊕Cd⊕yX):=bif ak A.1.1 ↑Z.1.length then aQ Z.1 A.1.1 λI=>(aV (aj (↑A.2.1.1.2.1.1.length) 0) (aN A.2.1.1.2.1.1 (w (↑A.2.1.1.2.1.1.length-1)) λJ=>ab !cu (Ty.st 2 ((Ty.int .i64).cn ((Ty.int .i64).cn Ty.nl))) J I)).bind λU=>bif U then aT (bZ (A.2.1.1.2.1.1.length+[I].length) 16) (aB ((w (A.1.1+1),()),((A.2.1.1.1,(cH A.2.1.1.2.1.1 [I],A.2.1.1.2.1.2.1,()),()),()),()))else aB ((w (A.1.1+1),()),((A.2.1.1.1,(A.2.1.1.2.1.1,A.2.1.1.2.1.2.1,()),()),()),())else ay (bb (((A.2.1.1.1,(A.2.1.1.2.1.1,A.2.1.1.2.1.2.1,()),()),w (a.1.2.1+1),()),(),()))
def Dj(I:Cd)(A:eE):Option (eE⊕yX):=bif ak A.1.2.1 ↑(cH I.1.1.1 [(I.1.1.2.1.1,I.1.1.2.1.2.1,())]).length then aN (cH I.1.1.1 [(I.1.1.2.1.1,I.1.1.2.1.2.1,())]) A.1.2.1 λJ=>aB ((w (A.1.1+↑J.1.length),w (A.1.2.1+1),()),(),())else(bif ak 4096 A.1.1 then ab ([],5,())else ab (cH I.1.1.1 [(I.1.1.2.1.1,I.1.1.2.1.2.1,())],0,())).bind λU=>ay U
def qF(x:js)(y:Int)(s4:Cd):Option (Cd⊕yX):=bif ak s4.1.2.1 ↑x.length then aQ x s4.1.2.1 λA=>bif aj A.1 1 then aT (bZ ((cH s4.1.1.1 [(s4.1.1.2.1.1,s4.1.1.2.1.2.1,())]).length+1) 32) (aB (((cH s4.1.1.1 [(s4.1.1.2.1.1,s4.1.1.2.1.2.1,())],([A.2.1],af,()),()),w (s4.1.2.1+1),()),(),()))else aT (aj (w (↑(s4.1.1.1.length+1)-1)) ↑s4.1.1.1.length) (bif !aj A.1 5 then aN s4.1.1.2.1.1 (w (↑s4.1.1.2.1.1.length-1)) λb=>(Ie b A y).bind λI=>bif !aj I.2.1 0 then ay ([],I.2.1,())else aA (zE s4 I) ((0,()),((s4.1.1.1,(s4.1.1.2.1.1,s4.1.1.2.1.2.1,()),()),()),())else(aF (ak 1 ↑s4.1.1.2.1.1.length) (aN s4.1.1.2.1.1 (w (↑s4.1.1.2.1.1.length-1)) λJ=>aT (ak 0 ↑s4.1.1.2.1.1.length) (s4.1.1.2.1.1[0]?.bind λU=>ab (cu (Ty.st 2 ((Ty.int .i64).cn ((Ty.int .i64).cn Ty.nl))) J U)))).bind λZ=>bif Z then aT (ai 0 (w (↑s4.1.1.2.1.1.length-1))&&ai (w (↑s4.1.1.2.1.1.length-1)) ↑s4.1.1.2.1.1.length) (aT (ak 0 ↑s4.1.1.2.1.1.length) (aB (((s4.1.1.1,(aY (w (↑s4.1.1.2.1.1.length-1)).toNat s4.1.1.2.1.1,ag,()),()),w (s4.1.2.1+1),()),(),())))else aB (((s4.1.1.1,(s4.1.1.2.1.1,ag,()),()),w (s4.1.2.1+1),()),(),()))else(aA (Dj s4) ((0,0,()),(),())).bind λa=>ay a
def al4(A:eE):Option (eE⊕yX):=bif ak A.1.2.1 0 then ae else(bif ak 4096 A.1.1 then ab ([],5,())else ab ([],0,())).bind λI=>ay I
def YR(x:js)(y:Int)(I:tF):Option yX:=bif ak 0 ↑x.length then x[0]?.bind λA=>aT (aj A.1 1) (aA (qF x y) ((([],([A.2.1],af,()),()),1,()),(),()))else aA al4 ((0,0,()),(),())
def H9(x:js)(y:Int):Option yX:=bt ((xk x).bind λA=>bif !A then ay ([],10,())else(aV (ak y 1) (ab (ak 256 y))).bind λI=>bif I then ay ([],2,())else aB ((),(),())) (YR x y)
def EN(x:Cg)(A:yS):Option (yS⊕eC):=bif ak A.1.2.1 ↑x.length then aQ x A.1.2.1 λI=>bif ai 3 ↑I.1.length then aT (bZ I.1.length 16) (aT (bZ (A.1.1.length+[I.1].length) 24) (aB ((cH A.1.1 [I.1],w (A.1.2.1+1),()),(),())))else aB ((A.1.1,w (A.1.2.1+1),()),(),())else ay A.1.1
def SB(x:Cg):Option eC:=aA (EN x) (([],0,()),(),())
def Kf(x:js)(y:bN)(z:Int):Option (eC×dc):=(Kt x y).bind λA=>bif !aj A.2.1 0 then bif !aj A.2.1 0 then ab ([],A.2.1,())else ab ([],A.2.1,())else(H9 A.1 z).bind λI=>(SB I.1).bind λJ=>bif !aj I.2.1 0 then ab ([],I.2.1,())else ab (J,I.2.1,())
def Pp(x:bN×jM)(y:js):Option eC:=bif !x.2.1 then ab []else(Kf y x.1 32).bind λA=>bif !aj A.2.1 0 then ab []else ab A.1
def uf(x:cz)(y:Int):Option (eC×jM):=(Po x y).bind λA=>bif aj (↑A.2.1.2.2.2.2.1.length) 0 then ab ([],af,())else(Pp A.1 A.2.1.2.2.2.2.1).bind λI=>ab (I,ag,())
def JG(y:Int)(I A:oo):Option (oo⊕Cj):=bif ak A.1.1 A.2.1.1.1.2.2.1 then aT (bZ (A.2.1.1.2.1.length+[y].length) 1) (aB ((w (A.1.1+1),()),((A.2.1.1.1,cH A.2.1.1.2.1 [y],()),()),()))else ay (bb ((w (I.1.1+1),()),((A.2.1.1.1,A.2.1.1.2.1,()),()),()))
def arY(y:Int)(A:oo):Option Cj:=bif ak A.1.1 A.2.1.1.1.2.2.2.1 then aA (JG y A) ((A.2.1.1.1.1,()),((A.2.1.1.1,A.2.1.1.2.1,()),()),())else ay ((A.2.1.1.1,A.2.1.1.2.1,()),0,())
def Aj(x:bu)(y:Int):yU:=(xF x).bind λI=>bif !I then ab (((0,0,0,0,()),[],()),6,())else(uS x).bind λJ=>bif ak 65536 J then ab (((0,0,0,0,()),[],()),5,())else(pX x).bind λA=>aA (arY y) ((A.2.1,()),((A,[],()),()),())
def SC(x:aJ):bB:=(iX x).bind λA=>ab !A
def AM(I:hH)(A:aR):jN:=bif ak A.1.1 ↑I.length then aQ I A.1.1 λJ=>(SC J).bind λU=>bif U then ay (ai 0 A.1.1)else aB ((w (A.1.1+1),()),(),())else ay (ai 0 (-1))
def ER(x:eC)(A:eE):M9:=bif ak A.1.2.1 ↑x.length then aQ x A.1.2.1 λI=>(aV (ak 4096 (w (A.1.1+↑I.length))) (aA (AM I) ((0,()),(),()))).bind λJ=>bif J then ay af else aB ((w (A.1.1+↑I.length),w (A.1.2.1+1),()),(),())else ay ag
def sD(x:eC):bB:=aA (ER x) ((0,0,()),(),())
def avG(x:eC)(A:tE):Option (tE⊕hH):=bif ak A.1.2.1 ↑x.length then aQ x A.1.2.1 λI=>aT (bZ (A.1.1.length+I.length) 16) (aB ((cH A.1.1 I,w (A.1.2.1+1),()),(),()))else ay A.1.1
def avH(x:eC)(A:tE):Option (tE⊕hH):=bif ak A.1.2.1 ↑x.length then aQ x A.1.2.1 λI=>aT (bZ (A.1.1.length+I.length) 16) (aB ((cH A.1.1 I,w (A.1.2.1+1),()),(),()))else ay A.1.1
def afP(x:eC)(A:eE)(I:tF):Option hH:=bif ak 0 (w (A.1.1-0))then aT (ak 0 (w (A.1.1-0))&&bZ (w (A.1.1-0)).toNat 16) (aT (ak 0 ↑(bT (w (A.1.1-0)).toNat ((0,0,()):Int×Int×Unit)).length) (aA (avG x) ((aY 0 (bT (w (A.1.1-0)).toNat ((0,0,()):Int×Int×Unit)),0,()),(),())))else aA (avH x) (([],0,()),(),())
def avI(x:eC)(A:eE):Option (eE⊕hH):=bif ak A.1.2.1 ↑x.length then aQ x A.1.2.1 λI=>bif ak (w (A.1.1+↑I.length)) 0 then ae else aB ((w (A.1.1+↑I.length),w (A.1.2.1+1),()),(),())else(bt (bif ak A.1.1 0 then ae else aB ((),(),())) (afP x A)).bind λJ=>ay J
def T5(x:eC):Option hH:=aA (avI x) ((0,0,()),(),())
def aty(x:eC)(J:hH)(U:Bool)(Z a:aJ)(A:dc×yK×Unit):Option (dc×yK×Unit⊕aJ×aJ×jM):=bif ak A.1.1 ↑J.length then aQ J A.1.1 λI=>aB ((w (A.1.1+1),()),((bif ai A.2.1.1.1 I.1 then A.2.1.1.1 else I.1,bif ai A.2.1.1.2.1 I.2.1 then A.2.1.1.2.1 else I.2.1,()),(bif ai A.2.1.2.1.1 I.1 then I.1 else A.2.1.2.1.1,bif ai A.2.1.2.1.2.1 I.2.1 then I.2.1 else A.2.1.2.1.2.1,()),()),())else ay (A.2.1.1,A.2.1.2.1,ag,())
def SA(x:eC):Option (aJ×aJ×jM):=(T5 x).bind λA=>(aV (aj (↑A.length) 0) ((sD x).bind λZ=>ab !Z)).bind λI=>bif I then ab ((0,0,()),(0,0,()),af,())else A[0]?.bind λJ=>A[0]?.bind λU=>aA (aty x A I J U) ((0,()),(J,U,()),())
def Kx(x:Int):b8:=ab ((w (w (x+256)-1)).fdiv 256)
def EO(x:eC):yW:=(SA x).bind λA=>bif !A.2.2.1 then ab (0,0,0,0,())else(Kx A.2.1.1).bind λI=>(Kx A.2.1.2.1).bind λJ=>(aV (ai I (A.1.1.fdiv 256)) (ab (ai J (A.1.2.1.fdiv 256)))).bind λU=>bif U then ab (0,0,0,0,())else ab (A.1.1.fdiv 256,A.1.2.1.fdiv 256,I,J,())
def Lm(x:bu)(y z:Int):bB:=(Fv x).bind λA=>(aF (!A) (ab (ai x.1 y))).bind λI=>(aF I (ab (ak y x.2.2.1))).bind λJ=>(aF J (ab (ai x.2.1 z))).bind λU=>(aF U (ab (ak z x.2.2.2.1))).bind λZ=>ab Z
def Fw(x:bu)(y z:Int):b8:=(Lm x y z).bind λA=>bif !A then ab (-1)else ab (w (w (w (w (z-x.2.1)*w (x.2.2.1-x.1))+y)-x.1))
def CA(x:Int):bB:=(aV (ak x (-4096)) (ab (ak 4096 x))).bind λA=>ab A
def y9(x y:Int):jr:=(CA x).bind λA=>(aV A ((CA y).bind λI=>ab I)).bind λJ=>bif J then ab (1048577,0,())else ab (w (x*256),w (y*256),())
def NI(x:eC)(y:Int):b8:=(sD x).bind λA=>bif !A then ab 12 else(aF (!aj y 1) (ab !aj y 2)).bind λI=>bif I then ab 2 else ab 0
def Lj(x y:DQ):iq:=(uR x y).bind λA=>(wI A.1 A.2.1).bind λI=>(wI A.2.2.1 A.2.2.1).bind λJ=>(sO I J).bind λU=>ab U
def L7(x y:aJ):jr:=(rp x).bind λA=>(rp y).bind λI=>ab (w (A.1+I.1),w (A.2.1+I.2.1),())
def adX(y:aJ)(I:yS)(J:hH)(A:tE):Option (tE⊕yS⊕eC):=bif ak A.1.2.1 ↑J.length then aQ J A.1.2.1 λZ=>(L7 Z y).bind λU=>aT (bZ (A.1.1.length+[U].length) 16) (aB ((cH A.1.1 [U],w (A.1.2.1+1),()),(),()))else(aT (bZ (I.1.1.length+[A.1.1].length) 24) (aB ((cH I.1.1 [A.1.1],w (I.1.2.1+1),()),(),()))).bind λa=>ay a
def adY(x:eC)(y:aJ)(A:yS):Option (yS⊕eC):=bif ak A.1.2.1 ↑x.length then aQ x A.1.2.1 λI=>aA (adX y A I) (([],0,()),(),())else ay A.1.1
def EP(x:eC)(y:aJ):Option eC:=(sD x).bind λA=>bif !A then ab []else aA (adY x y) (([],0,()),(),())
def QC(x:aJ):bB:=(iX x).bind λA=>ab !A
def aau(x:hH)(A:aR):jN:=bif ak A.1.1 ↑x.length then aQ x A.1.1 λI=>(QC I).bind λJ=>bif J then ay !ai 0 A.1.1 else aB ((w (A.1.1+1),()),(),())else ay ag
def zX(x:hH):bB:=aA (aau x) ((0,()),(),())
def zW(x y:Int):iq:=(xC x y).bind λA=>ab A.1
def wL(x y:Int)(z:DQ):iq:=(eN x).bind λA=>(eN (w (y-x))).bind λI=>(oT z I).bind λJ=>(lC A J).bind λU=>ab U
def QA(x y:aJ)(z:DQ):Option (DQ×jM):=(eN (bif ai x.2.1 y.2.1 then x.2.1 else y.2.1)).bind λU=>(eN (bif ai x.2.1 y.2.1 then y.2.1 else x.2.1)).bind λZ=>(zX [x,y]).bind λa=>(aV (!a) (ab (aj x.2.1 y.2.1))).bind λb=>(aV b ((cV z U).bind λc=>ab (ak c 0))).bind λd=>(aV d ((cV z Z).bind λe=>ab (ak 0 e))).bind λf=>bif f then ab (((af,[],()),(af,[],()),()),af,())else(eN x.2.1).bind λg=>(uQ z g).bind λh=>(zW 1 (w (y.2.1-x.2.1))).bind λA=>(oT h A).bind λI=>(wL x.1 y.1 I).bind λJ=>ab (J,ag,())
def On(x:Int):bB:=ab !aj x x
def Ol(x y:Int):b8:=(On x).bind λI=>(On y).bind λA=>bif I then bif A then ab 0 else ab (-1)else bif A then ab 1 else bif ak x y then ab (-1)else bif ak y x then ab 1 else ab 0
def Xr(x:bq)(A:aR):yP:=bif ak A.1.1 ↑x.length then aQ x A.1.1 λI=>bif !aj I 0 then ay I else aB ((w (A.1.1+1),()),(),())else ay 0
def Om(x:bq):b8:=aA (Xr x) ((0,()),(),())
def xS(x y:vH):b8:=(cV x.1 y.1).bind λA=>(Ol y.2.1 x.2.1).bind λI=>(Om [A,I]).bind λJ=>ab J
def age{α:Type}(a b n:Int)(A:(Int×Unit)×Unit×List α×Unit):Option ((Int×Unit)×Unit×List α×Unit⊕Unit×List α×Int×Int×Int×(Unit×Unit)×Unit):=bif ak A.1.1 n then aN A.2.2.1 (w (b+A.1.1)) λI=>aN A.2.2.1 (w (a+A.1.1)) λJ=>aN A.2.2.1 (w (a+A.1.1)) λU=>aN (A.2.2.1.set (w (a+A.1.1)).toNat I) (w (b+A.1.1)) λZ=>aB ((w (A.1.1+1),()),(),(A.2.2.1.set (w (a+A.1.1)).toNat I).set (w (b+A.1.1)).toNat J,())else ay ((),A.2.2.1,a,b,n,((),()),())
def Bl{α:Type}(d:List α)(a b n:Int):Option (Unit×List α×Int×Int×Int×(Unit×Unit)×Unit):=aA (age a b n) ((0,()),(),d,())
def ae7{α:Type}(b:Int)(A:aJ×Unit×List α×Unit):Option (aJ×Unit×List α×Unit⊕(Int×Unit)×Unit×List α×Unit⊕Unit×List α×Int×Int×Int×(Unit×Unit)×Unit):=bif !aj A.1.1 A.1.2.1 then bif ak A.1.2.1 A.1.1 then(Bl A.2.2.1 (w (b-A.1.1)) b A.1.2.1).bind λI=>aB ((w (A.1.1-A.1.2.1),A.1.2.1,()),(),I.2.1,())else(Bl A.2.2.1 (w (b-A.1.1)) (w (w (b+A.1.2.1)-A.1.1)) A.1.1).bind λJ=>aB ((A.1.1,w (A.1.2.1-A.1.1),()),(),J.2.1,())else ay (bb ((A.1.1,()),(),A.2.2.1,()))
def ae8{α:Type}(a b n:Int)(A:(Int×Unit)×Unit×List α×Unit):Option (Unit×List α×Int×Int×Int×(Unit×Unit)×Unit):=(Bl A.2.2.1 (w (b-A.1.1)) b A.1.1).bind λI=>ab ((),I.2.1,a,b,n,((),()),())
def Fx{α:Type}(d:List α)(a b n:Int):Option (Unit×List α×Int×Int×Int×(Unit×Unit)×Unit):=bt (aA (ae7 b) ((w (b-a),w (n-b),()),(),d,())) (ae8 a b n)
def aah{α:Type}(cm:α->α->Option Int)(a:Int)(A:(Int×Unit)×Unit×List α×Unit):Option ((Int×Unit)×Unit×List α×Unit⊕Unit×Unit×List α×Unit⊕(Int×Unit)×Unit×List α×Unit⊕Unit×List α×Int×Int×(Unit×Unit)×Unit):=(aF (ak a A.1.1) (aN A.2.2.1 A.1.1 λJ=>aN A.2.2.1 (w (A.1.1-1)) λU=>(cm J U).bind λZ=>ab (ak Z 0))).bind λb=>bif b then aN A.2.2.1 (w (A.1.1-1)) λI=>aN A.2.2.1 A.1.1 λc=>aN A.2.2.1 A.1.1 λd=>aN (A.2.2.1.set A.1.1.toNat I) (w (A.1.1-1)) λe=>aB ((w (A.1.1-1),()),(),(A.2.2.1.set A.1.1.toNat I).set (w (A.1.1-1)).toNat c,())else ay (bb ((),(),A.2.2.1,()))
def aai{α:Type}(I:(Int×Unit)×Unit×List α×Unit)(A:Unit×Unit×List α×Unit):Option ((Int×Unit)×Unit×List α×Unit⊕Unit×List α×Int×Int×(Unit×Unit)×Unit):=aB ((w (I.1.1+1),()),(),A.2.2.1,())
def aaj{α:Type}(cm:α->α->Option Int)(a b:Int)(A:(Int×Unit)×Unit×List α×Unit):Option ((Int×Unit)×Unit×List α×Unit⊕Unit×List α×Int×Int×(Unit×Unit)×Unit):=bif ak A.1.1 b then bt (aA (aah cm a) ((A.1.1,()),(),A.2.2.1,())) (aai A)else ay ((),A.2.2.1,a,b,((),()),())
def zU{α:Type}(cm:α->α->Option Int)(d:List α)(a b:Int):Option (Unit×List α×Int×Int×(Unit×Unit)×Unit):=aA (aaj cm a b) ((w (a+1),()),(),d,())
def Un{α:Type}(cm:α->α->Option Int)(d:List α)(a:Int)(A:eE):Option (aJ×Unit×Unit⊕(Int×Unit)×Unit×Unit⊕Unit×List α×Int×Int×Int×(Unit×Unit)×Unit):=bif ak A.1.1 A.1.2.1 then aN d (w ((wu (w (A.1.1+A.1.2.1))).fdiv 2)) λI=>aN d a λJ=>(cm I J).bind λU=>bif ak U 0 then aB ((w (w ((wu (w (A.1.1+A.1.2.1))).fdiv 2)+1),A.1.2.1,()),(),())else aB ((A.1.1,w ((wu (w (A.1.1+A.1.2.1))).fdiv 2),()),(),())else ay (bb ((A.1.1,()),(),()))
def agi{α:Type}(a b n:Int)(J:aR)(A:(Int×Unit)×Unit×List α×Unit):Option ((Int×Unit)×Unit×List α×Unit⊕Unit×List α×Int×Int×Int×(Unit×Unit)×Unit):=bif ak A.1.1 (w (J.1.1-1))then aN A.2.2.1 (w (A.1.1+1)) λI=>aN A.2.2.1 A.1.1 λU=>aN A.2.2.1 A.1.1 λZ=>aN (A.2.2.1.set A.1.1.toNat I) (w (A.1.1+1)) λc=>aB ((w (A.1.1+1),()),(),(A.2.2.1.set A.1.1.toNat I).set (w (A.1.1+1)).toNat U,())else ay ((),A.2.2.1,a,b,n,((),()),())
def agj{α:Type}(d:List α)(a b n:Int)(A:aR):Option (Unit×List α×Int×Int×Int×(Unit×Unit)×Unit):=aA (agi a b n A) ((a,()),(),d,())
def Uq{α:Type}(cm:α->α->Option Int)(d:List α)(b:Int)(A:eE):Option (aJ×Unit×Unit⊕(Int×Unit)×Unit×Unit⊕Unit×List α×Int×Int×Int×(Unit×Unit)×Unit):=bif ak A.1.1 A.1.2.1 then aN d b λI=>aN d (w ((wu (w (A.1.1+A.1.2.1))).fdiv 2)) λJ=>(cm I J).bind λU=>bif !ak U 0 then aB ((w (w ((wu (w (A.1.1+A.1.2.1))).fdiv 2)+1),A.1.2.1,()),(),())else aB ((A.1.1,w ((wu (w (A.1.1+A.1.2.1))).fdiv 2),()),(),())else ay (bb ((A.1.1,()),(),()))
def agk{α:Type}(a b n:Int)(J:aR)(A:(Int×Unit)×Unit×List α×Unit):Option ((Int×Unit)×Unit×List α×Unit⊕Unit×List α×Int×Int×Int×(Unit×Unit)×Unit):=bif ak J.1.1 A.1.1 then aN A.2.2.1 (w (A.1.1-1)) λI=>aN A.2.2.1 A.1.1 λU=>aN A.2.2.1 A.1.1 λZ=>aN (A.2.2.1.set A.1.1.toNat I) (w (A.1.1-1)) λc=>aB ((w (A.1.1-1),()),(),(A.2.2.1.set A.1.1.toNat I).set (w (A.1.1-1)).toNat U,())else ay ((),A.2.2.1,a,b,n,((),()),())
def agl{α:Type}(d:List α)(a b n:Int)(A:aR):Option (Unit×List α×Int×Int×Int×(Unit×Unit)×Unit):=aA (agk a b n A) ((b,()),(),d,())
def agm{α:Type}(cm:α->α->Option Int)(d:List α)(a b n:Int)(A:eE):Option (aJ×Unit×Unit⊕(Int×Unit)×Unit×Unit⊕Unit×List α×Int×Int×Int×(Unit×Unit)×Unit):=bif ak A.1.1 A.1.2.1 then aN d (w (w (w (w ((wu (w (a+n))).fdiv 2)+b)-1)-w ((wu (w (A.1.1+A.1.2.1))).fdiv 2))) λI=>aN d (w ((wu (w (A.1.1+A.1.2.1))).fdiv 2)) λJ=>(cm I J).bind λU=>bif !ak U 0 then aB ((w (w ((wu (w (A.1.1+A.1.2.1))).fdiv 2)+1),A.1.2.1,()),(),())else aB ((A.1.1,w ((wu (w (A.1.1+A.1.2.1))).fdiv 2),()),(),())else ay (bb ((A.1.1,()),(),()))
def Ur{α:Type}(F:List α->Int->Int->Int->Option (Unit×List α×Int×Int×Int×(Unit×Unit)×Unit))(a b n:Int)(A:aR)(I:Unit×Unit×List α×Unit):Option (Unit×List α×Int×Int×Int×(Unit×Unit)×Unit):=(aF (ak (w ((wu (w (a+n))).fdiv 2)) (w (w (w ((wu (w (a+n))).fdiv 2)+b)-A.1.1))) (ab (ak (w (w (w ((wu (w (a+n))).fdiv 2)+b)-A.1.1)) n))).bind λJ=>bif J then(F I.2.2.1 (w ((wu (w (a+n))).fdiv 2)) (w (w (w ((wu (w (a+n))).fdiv 2)+b)-A.1.1)) n).bind λU=>ab ((),U.2.1,a,b,n,((),()),())else ab ((),I.2.2.1,a,b,n,((),()),())
def Us{α:Type}(F:List α->Int->Int->Int->Option (Unit×List α×Int×Int×Int×(Unit×Unit)×Unit))(a b n:Int)(A:aR)(I:Unit×Unit×List α×Unit):Option (Unit×List α×Int×Int×Int×(Unit×Unit)×Unit):=bt ((aF (ak a A.1.1) (ab (ak A.1.1 (w ((wu (w (a+n))).fdiv 2))))).bind λJ=>bif J then(F I.2.2.1 a A.1.1 (w ((wu (w (a+n))).fdiv 2))).bind λU=>aB ((),(),U.2.1,())else aB ((),(),I.2.2.1,())) (Ur F a b n A)
def Ut{α:Type}(F:List α->Int->Int->Int->Option (Unit×List α×Int×Int×Int×(Unit×Unit)×Unit))(d:List α)(a b n:Int)(A:aR):Option (Unit×List α×Int×Int×Int×(Unit×Unit)×Unit):=bt ((aF (ak A.1.1 b) (ab (ak b (w (w (w ((wu (w (a+n))).fdiv 2)+b)-A.1.1))))).bind λI=>bif I then(Fx d A.1.1 b (w (w (w ((wu (w (a+n))).fdiv 2)+b)-A.1.1))).bind λJ=>aB ((),(),J.2.1,())else aB ((),(),d,())) (Us F a b n A)
def Uo{α:Type}(cm:α->α->Option Int)(F:List α->Int->Int->Int->Option (Unit×List α×Int×Int×Int×(Unit×Unit)×Unit))(d:List α)(a b n:Int)(A:eE):Option (Unit×List α×Int×Int×Int×(Unit×Unit)×Unit):=bt (aA (agm cm d a b n) ((A.1.1,A.1.2.1,()),(),())) (Ut F d a b n)
def Bm{α:Type}(cm:α->α->Option Int)(F:List α->Int->Int->Int->Option (Unit×List α×Int×Int×Int×(Unit×Unit)×Unit))(d:List α)(a b n:Int):Option (Unit×List α×Int×Int×Int×(Unit×Unit)×Unit):=bif aj (w (b-a)) 1 then bt (aA (Un cm d a) ((b,n,()),(),())) (agj d a b n)else bif aj (w (n-b)) 1 then bt (aA (Uq cm d b) ((a,b,()),(),())) (agl d a b n)else bt (bif ak (w ((wu (w (a+n))).fdiv 2)) b then aB ((w (w (w ((wu (w (a+n))).fdiv 2)+b)-n),w ((wu (w (a+n))).fdiv 2),()),(),())else aB ((a,b,()),(),())) (Uo cm F d a b n)
def FT{α:Type}(cm:α->α->Option Int):List α->Int->Int->Int->Option (Unit×List α×Int×Int×Int×(Unit×Unit)×Unit):=Nat.rec (λ_ _ _ _=>ae) (λ_ F=>Bm cm F) 1099511627776
def af3{α:Type}(cm:α->α->Option Int)(n:Int)(A:aJ×Unit×List α×Unit):Option (aJ×Unit×List α×Unit⊕(Int×Unit)×Unit×List α×Unit⊕Unit×List α×Int×(Unit×Unit)×Unit):=bif ai A.1.2.1 n then(zU cm A.2.2.1 A.1.1 A.1.2.1).bind λI=>aB ((A.1.2.1,w (A.1.2.1+20),()),(),I.2.1,())else ay (bb ((A.1.1,()),(),A.2.2.1,()))
def af4{α:Type}(A:(Int×Unit)×Unit×List α×Unit)(I:Unit×Unit×List α×Unit):Option ((Int×Unit)×Unit×List α×Unit⊕Unit×List α×Int×(Unit×Unit)×Unit):=aB ((w (A.1.1*2),()),(),I.2.2.1,())
def af5{α:Type}(cm:α->α->Option Int)(n:Int)(I:(Int×Unit)×Unit×List α×Unit)(A:aJ×Unit×List α×Unit):Option (aJ×Unit×List α×Unit⊕(Int×Unit)×Unit×List α×Unit⊕Unit×List α×Int×(Unit×Unit)×Unit):=bif ai A.1.2.1 n then(FT cm A.2.2.1 A.1.1 (w (A.1.1+I.1.1)) A.1.2.1).bind λJ=>aB ((A.1.2.1,w (A.1.2.1+w (2*I.1.1)),()),(),J.2.1,())else(bt (bif ak (w (A.1.1+I.1.1)) n then(FT cm A.2.2.1 A.1.1 (w (A.1.1+I.1.1)) n).bind λU=>aB ((),(),U.2.1,())else aB ((),(),A.2.2.1,())) (af4 I)).bind λZ=>ay Z
def af6{α:Type}(cm:α->α->Option Int)(n:Int)(A:(Int×Unit)×Unit×List α×Unit):Option ((Int×Unit)×Unit×List α×Unit⊕Unit×List α×Int×(Unit×Unit)×Unit):=bif ak A.1.1 n then aA (af5 cm n A) ((0,w (2*A.1.1),()),(),A.2.2.1,())else ay ((),A.2.2.1,n,((),()),())
def af7{α:Type}(cm:α->α->Option Int)(n:Int)(A:(Int×Unit)×Unit×List α×Unit):Option (Unit×List α×Int×(Unit×Unit)×Unit):=(zU cm A.2.2.1 A.1.1 n).bind λI=>aA (af6 cm n) ((20,()),(),I.2.1,())
def FM{α:Type}(cm:α->α->Option Int)(d:List α)(n:Int):Option (Unit×List α×Int×(Unit×Unit)×Unit):=bt (aA (af3 cm n) ((0,20,()),(),d,())) (af7 cm n)
def LQ{α:Type}(cm:α->α->Option Int)(d:List α):Option (Unit×List α×(Unit×Unit)×Unit):=(FM cm d ↑d.length).bind λA=>ab ((),A.2.1,((),()),())
abbrev avZ:=@Bl (DQ×Int×Unit)
abbrev auV:=@Fx (DQ×Int×Unit)
abbrev anD:=@zU (DQ×Int×Unit) xS
abbrev avQ:=@FM (DQ×Int×Unit) xS
abbrev afX:=@LQ (DQ×Int×Unit) xS
def afC(y:DQ)(b:yL)(J:hH)(A:yL):Option (yL⊕yL⊕Cl):=bif ak A.1.1 ↑J.length then aQ J A.1.1 λU=>kv (↑J.length) (aQ J ((w (A.1.1+1)).tmod ↑J.length) λZ=>bif !cu (Ty.st 2 ((Ty.int .i64).cn ((Ty.int .i64).cn Ty.nl))) U Z then(eN U.2.1).bind λc=>(cV c y).bind λd=>(eN Z.2.1).bind λe=>(cV e y).bind λa=>bif ai 0 (w (d*a))then aB ((w (A.1.1+1),()),(A.2.1.1,()),())else(QA U Z y).bind λI=>bif I.2.1 then aT (bZ (A.2.1.1.length+[(I.1,a,())].length) 72) (aB ((w (A.1.1+1),()),(cH A.2.1.1 [(I.1,a,())],()),()))else aB ((w (A.1.1+1),()),(A.2.1.1,()),())else aB ((w (A.1.1+1),()),(A.2.1.1,()),()))else ay (bb ((w (b.1.1+1),()),(A.2.1.1,()),()))
def afD(y:DQ)(U:eC)(A:yL):Option (yL⊕Cl):=bif ak A.1.1 ↑U.length then aQ U A.1.1 λZ=>aA (afC y A Z) ((0,()),(A.2.1.1,()),())else((afX A.2.1.1).bind λI=>ab I.2.1).bind λJ=>ay J
def LC(x:eC)(y:DQ):Option Cl:=(EP x (0,0,())).bind λA=>aA (afD y A) ((0,()),([],()),())
def EM(x y:Int):bB:=ab !aj (w ↑((word .i64 x).land (word .i64 (lz (jU (jU [] 1 (-1)) 2 1) y 0)))) 0
def xR(x y:lQ):b8:=(cV x.1 y.1).bind λA=>ab A
abbrev av0:=@Bl (lQ)
abbrev auW:=@Fx (lQ)
abbrev anE:=@zU (lQ) xR
abbrev avR:=@FM (lQ) xR
abbrev afY:=@LQ (lQ) xR
def afz(b:Unit×nF×fQ×Unit)(A:GP):Option (GP⊕nF):=bif ak A.1.2.1 ↑b.2.1.length then aN b.2.1 A.1.2.1 λI=>(aV (aj (↑A.1.1.length) 0) (aN A.1.1 (w (↑A.1.1.length-1)) λc=>(cV c.2.1 I.1).bind λd=>ab (ak d 0))).bind λJ=>bif J then aT (bZ (A.1.1.length+[I].length) 128) (aB ((cH A.1.1 [I],w (A.1.2.1+1),()),(),()))else aN A.1.1 (w (↑A.1.1.length-1)) λU=>(cV U.2.1 I.2.1).bind λZ=>bif ak Z 0 then aN A.1.1 (w (↑A.1.1.length-1)) λa=>aB ((A.1.1.set (w (↑A.1.1.length-1)).toNat (a.1,I.2.1,()),w (A.1.2.1+1),()),(),())else aB ((A.1.1,w (A.1.2.1+1),()),(),())else ay A.1.1
def afA(x:nF)(A:GP):Option (GP⊕nF):=bif ak A.1.2.1 ↑x.length then aQ x A.1.2.1 λI=>(cV I.1 I.2.1).bind λa=>bif ak a 0 then(jf I.1).bind λU=>(jf I.2.1).bind λZ=>aT (bZ (A.1.1.length+[(U,Z,())].length) 128) (aB ((cH A.1.1 [(U,Z,())],w (A.1.2.1+1),()),(),()))else aB ((A.1.1,w (A.1.2.1+1),()),(),())else((afY A.1.1).bind λb=>aA (afz b) (([],0,()),(),())).bind λJ=>ay J
def FF(x:nF):Option nF:=aA (afA x) (([],0,()),(),())
def afB(y:Int)(J:Cl)(A:(nF×aJ)×fQ):Option ((nF×aJ)×fQ⊕nF):=bif ak A.1.2.2.1 ↑J.length then aQ J A.1.2.2.1 λI=>(aF (ak (w (A.1.2.2.1+1)) ↑J.length) ((EM (w (A.1.2.1+I.2.1)) y).bind λZ=>ab Z)).bind λa=>bif a then aQ J (w (A.1.2.2.1+1)) λU=>aT (bZ (A.1.1.length+[(I.1,U.1,())].length) 128) (aB ((cH A.1.1 [(I.1,U.1,())],w (A.1.2.1+I.2.1),w (A.1.2.2.1+1),()),(),()))else aB ((A.1.1,w (A.1.2.1+I.2.1),w (A.1.2.2.1+1),()),(),())else((FF A.1.1).bind λb=>ab b).bind λc=>ay c
def LB(x:eC)(y:Int)(z:DQ):Option nF:=(LC x z).bind λA=>aA (afB y A) (([],0,0,()),(),())
def LA(x y:DQ)(z:Int):iq:=(cV x y).bind λA=>bif aj A z then ab x else ab y
def afy(y z:DQ)(I:nF)(A:dc×(DQ×Unit)×Unit):Option (dc×(DQ×Unit)×Unit⊕DQ):=bif ak A.1.1 ↑I.length then aQ I A.1.1 λJ=>(LA J.1 y 1).bind λU=>(LA J.2.1 z (-1)).bind λZ=>(cV U Z).bind λa=>bif ak a 0 then(uQ Z U).bind λb=>(lC A.2.1.1 b).bind λc=>aB ((w (A.1.1+1),()),(c,()),())else aB ((w (A.1.1+1),()),(A.2.1.1,()),())else ay A.2.1.1
def Lz(x:nF)(y z:DQ):iq:=(eN 0).bind λA=>(FF x).bind λI=>aA (afy y z I) ((0,()),(A,()),())
def QB(x y:aJ)(z:Int):Option (DQ×jM):=(zX [x,y]).bind λA=>(aV (!A) (ab (aj x.1 y.1))).bind λI=>(aV I (ab (ak z (bif ai x.1 y.1 then x.1 else y.1)))).bind λJ=>(aV J (ab (ak (bif ai x.1 y.1 then y.1 else x.1) z))).bind λU=>bif U then ab (((af,[],()),(af,[],()),()),af,())else(zW (w (z-x.1)) (w (y.1-x.1))).bind λZ=>(wL x.2.1 y.2.1 Z).bind λa=>ab (a,ag,())
def Bx(x y:aJ):jr:=(rp x).bind λA=>(rp y).bind λI=>ab (w (A.1-I.1),w (A.2.1-I.2.1),())
def wM(x y:aJ):b8:=ab (w (w (x.1*y.2.1)-w (x.2.1*y.1)))
def x8(x y:aJ):bB:=(rp x).bind λA=>(rp y).bind λI=>(aV (ak A.2.1 I.2.1) ((aF (aj A.2.1 I.2.1) (ab (ak A.1 I.1))).bind λJ=>ab J)).bind λU=>ab U
def IZ(x y:aJ):Option yK:=(x8 y x).bind λA=>bif A then ab (y,x,())else ab (x,y,())
def aav(A I:GD):GL:=(x8 I.2.1.1 A.2.1.1).bind λJ=>bif J then ab ((0,0,()),0,())else bif cu (Ty.st 2 ((Ty.int .i64).cn ((Ty.int .i64).cn Ty.nl))) A.2.1.1 I.2.1.1 then ab (A.2.1.1,1,())else ab ((0,0,()),2,())
def QD(A I:yK)(J:GD):GL:=bt ((x8 I.2.1 A.2.1).bind λU=>bif U then aB ((),(I.2.1,()),())else aB ((),(A.2.1,()),())) (aav J)
def I0(x y z u:aJ):GL:=(IZ x y).bind λA=>(IZ z u).bind λI=>bt ((x8 A.1 I.1).bind λJ=>bif J then aB ((),(I.1,()),())else aB ((),(A.1,()),())) (QD A I)
def aat(x y:aJ)(J g:DQ)(A:dc×(qp×qp×Unit)×Unit):Option (dc×(qp×qp×Unit)×Unit⊕DQ×vH):=bif ak A.1.1 ↑[J,g].length then aN [J,g] A.1.1 λI=>(eN 0).bind λU=>(cV I U).bind λZ=>(aV (ak Z 0) ((eN 1).bind λa=>(cV I a).bind λb=>ab (ak 0 b))).bind λc=>bif c then ay (((af,[],()),(af,[],()),()),((af,[],()),(af,[],()),()),0,())else aB ((w (A.1.1+1),()),(((A.2.1.1.1.1,(),()),(A.2.1.1.2.1.1,(),()),()),((A.2.1.2.1.1.1,(),()),(A.2.1.2.1.2.1.1,(),()),()),()),())else((wL x.1 y.1 J).bind λd=>(wL x.2.1 y.2.1 J).bind λe=>ab (d,e,1,())).bind λf=>ay f
def Qz(x y z u c:aJ)(I:GD):Option (DQ×vH):=(wM I.2.1.1 c).bind λJ=>(aV (!aj J 0) ((aF (cu (Ty.st 2 ((Ty.int .i64).cn ((Ty.int .i64).cn Ty.nl))) I.2.1.1 (0,0,())) (ab !cu (Ty.st 2 ((Ty.int .i64).cn ((Ty.int .i64).cn Ty.nl))) x z)).bind λU=>ab U)).bind λZ=>bif Z then ab (((af,[],()),(af,[],()),()),((af,[],()),(af,[],()),()),0,())else(I0 x y z u).bind λA=>bif !aj A.2.1 1 then ab (((af,[],()),(af,[],()),()),((af,[],()),(af,[],()),()),A.2.1,())else(eN A.1.1).bind λa=>(eN A.1.2.1).bind λb=>ab (a,b,1,())
def IY(x y z u:aJ):Option (DQ×vH):=(zX [x,y,z,u]).bind λZ=>bif !Z then ab (((af,[],()),(af,[],()),()),((af,[],()),(af,[],()),()),0,())else(Bx y x).bind λA=>(Bx u z).bind λI=>(Bx z x).bind λJ=>(wM A I).bind λU=>bif !aj U 0 then(wM J I).bind λa=>(zW a U).bind λb=>(wM J A).bind λc=>(zW c U).bind λd=>aA (aat x y b d) ((0,()),(((af,(),()),(af,(),()),()),((af,(),()),(af,(),()),()),()),())else bt (bif cu (Ty.st 2 ((Ty.int .i64).cn ((Ty.int .i64).cn Ty.nl))) A (0,0,())then aB ((),(I,()),())else aB ((),(A,()),())) (Qz x y z u J)
def ajP(A:eE):b8:=([0,1,2,2,3,3,3,3,4,4,4,4,4,4,4,4,5,5,5,5,5,5,5,5,5,5,5,5,5,5,5,5,6,6,6,6,6,6,6,6,6,6,6,6,6,6,6,6,6,6,6,6,6,6,6,6,6,6,6,6,6,6,6,6,7,7,7,7,7,7,7,7,7,7,7,7,7,7,7,7,7,7,7,7,7,7,7,7,7,7,7,7,7,7,7,7,7,7,7,7,7,7,7,7,7,7,7,7,7,7,7,7,7,7,7,7,7,7,7,7,7,7,7,7,7,7,7,7,8,8,8,8,8,8,8,8,8,8,8,8,8,8,8,8,8,8,8,8,8,8,8,8,8,8,8,8,8,8,8,8,8,8,8,8,8,8,8,8,8,8,8,8,8,8,8,8,8,8,8,8,8,8,8,8,8,8,8,8,8,8,8,8,8,8,8,8,8,8,8,8,8,8,8,8,8,8,8,8,8,8,8,8,8,8,8,8,8,8,8,8,8,8,8,8,8,8,8,8,8,8,8,8,8,8,8,8,8,8,8,8,8,8,8,8,8,8,8,8,8,8,8,8,8,8,8,8]:List Nat)[(wr .u8 A.1.1).toNat]?.bind λI=>ab (w (A.1.2.1+w ↑I))
def ajQ(A:eE):b8:=bt (bif ai 256 A.1.1 then aB ((A.1.1.fdiv 256,w (A.1.2.1+8),()),(),())else aB ((A.1.1,A.1.2.1,()),(),())) ajP
def WQ(A:eE):b8:=bt (bif ai 65536 A.1.1 then aB ((A.1.1.fdiv 65536,w (A.1.2.1+16),()),(),())else aB ((A.1.1,A.1.2.1,()),(),())) ajQ
def Hc(x:Int):b8:=bt (bif ai 4294967296 x then aB ((x.fdiv 4294967296,32,()),(),())else aB ((x,0,()),(),())) WQ
def vU(x:Int):b8:=(Hc x).bind λA=>ab A
def LO(x:Int):b8:=(vU (wu x)).bind λA=>bif ak A 0 then ae else ab (wu (1*↑(2^A.toNat.min 64)))
def as9(a:Int)(A:gG):Option (gG⊕B9⊕gG⊕rN):=(aF (ak a A.1.1) (aN A.2.2.1 A.1.1 λJ=>aN A.2.2.1 (w (A.1.1-1)) λU=>(cV J U).bind λZ=>ab (ak Z 0))).bind λb=>bif b then aN A.2.2.1 (w (A.1.1-1)) λI=>aN A.2.2.1 A.1.1 λc=>aN A.2.2.1 A.1.1 λd=>aN (A.2.2.1.set A.1.1.toNat I) (w (A.1.1-1)) λe=>aB ((w (A.1.1-1),()),(),(A.2.2.1.set A.1.1.toNat I).set (w (A.1.1-1)).toNat c,())else ay (bb ((),(),A.2.2.1,()))
def ata(I:gG)(A:B9):GI:=aB ((w (I.1.1+1),()),(),A.2.2.1,())
def atb(a b:Int)(A:gG):GI:=bif ak A.1.1 b then bt (aA (as9 a) ((A.1.1,()),(),A.2.2.1,())) (ata A)else ay ((),A.2.2.1,a,b,((),()),())
def Sl(d:dO)(a b:Int):Option rN:=aA (atb a b) ((w (a+1),()),(),d,())
def Sw(a b f:Int)(A:gG)(I:aR):Option (gG⊕Ck):=aN A.2.2.1 (w (f+A.1.1)) λZ=>aN A.2.2.1 (w (f+I.1.1)) λc=>(cV Z c).bind λd=>bif !ak d 0 then ay ((),A.2.2.1,a,b,f,((),()),())else aN A.2.2.1 (w (f+I.1.1)) λU=>aN A.2.2.1 (w (f+A.1.1)) λJ=>aN A.2.2.1 (w (f+A.1.1)) λe=>aN (A.2.2.1.set (w (f+A.1.1)).toNat U) (w (f+I.1.1)) λg=>aB ((I.1.1,()),(),(A.2.2.1.set (w (f+A.1.1)).toNat U).set (w (f+I.1.1)).toNat J,())
def adK(a b f:Int)(A:gG):Option (gG⊕Ck):=bif ai b (w (w (2*A.1.1)+1))then ay ((),A.2.2.1,a,b,f,((),()),())else bt ((aF (ak (w (w (w (2*A.1.1)+1)+1)) b) (aN A.2.2.1 (w (f+w (w (2*A.1.1)+1))) λI=>aN A.2.2.1 (w (w (f+w (w (2*A.1.1)+1))+1)) λJ=>(cV I J).bind λU=>ab (ak U 0))).bind λZ=>bif Z then aB ((w (w (w (2*A.1.1)+1)+1),()),(),())else aB ((w (w (2*A.1.1)+1),()),(),())) (Sw a b f A)
def ED(d:dO)(a b f:Int):Option Ck:=aA (adK a b f) ((a,()),(),d,())
def adl(a b:Int)(A:gG):GI:=bif ai 0 A.1.1 then aN A.2.2.1 (w (a+A.1.1)) λI=>aN A.2.2.1 a λJ=>aN A.2.2.1 a λZ=>aN (A.2.2.1.set a.toNat I) (w (a+A.1.1)) λc=>(ED ((A.2.2.1.set a.toNat I).set (w (a+A.1.1)).toNat J) 0 A.1.1 a).bind λU=>aB ((w (A.1.1-1),()),(),U.2.1,())else ay ((),A.2.2.1,a,b,((),()),())
def adm(a b:Int)(A:gG):GI:=bif ai 0 A.1.1 then(ED A.2.2.1 A.1.1 (w (b-a)) a).bind λI=>aB ((w (A.1.1-1),()),(),I.2.1,())else(aA (adl a b) ((w (w (b-a)-1),()),(),A.2.2.1,())).bind λJ=>ay J
def Kk(d:dO)(a b:Int):Option rN:=aA (adm a b) ((w ((w (w (b-a)-1)).tdiv 2),()),(),d,())
def Sj(a:Int)(A:yO)(I:aR):Option (yO⊕rN):=aN A.2.2.1 (w (a+I.1.1)) λJ=>aN A.2.2.1 A.1.1 λU=>aN A.2.2.1 A.1.1 λZ=>aN (A.2.2.1.set A.1.1.toNat J) (w (a+I.1.1)) λb=>aB ((w (A.1.1+1),()),(wu ↑((word .u64 (wu ↑((word .u64 (wu ↑((word .u64 A.2.1.1).xor (word .u64 (wu (A.2.1.1*8192)))))).xor (word .u64 ((wu ↑((word .u64 A.2.1.1).xor (word .u64 (wu (A.2.1.1*8192))))).fdiv 128))))).xor (word .u64 (wu (wu ↑((word .u64 (wu ↑((word .u64 A.2.1.1).xor (word .u64 (wu (A.2.1.1*8192)))))).xor (word .u64 ((wu ↑((word .u64 A.2.1.1).xor (word .u64 (wu (A.2.1.1*8192))))).fdiv 128)))*131072)))),()),(A.2.2.1.set A.1.1.toNat J).set (w (a+I.1.1)).toNat U,())
def adk(a b I:Int)(A:yO):Option (yO⊕rN):=bif ai A.1.1 (w (w (a+w (w ((w (b-a)).tdiv 4)*2))+1))then bt (bif ai (w (b-a)) (w (wu ↑((word .u64 (wu ↑((word .u64 (wu ↑((word .u64 (wu ↑((word .u64 A.2.1.1).xor (word .u64 (wu (A.2.1.1*8192)))))).xor (word .u64 ((wu ↑((word .u64 A.2.1.1).xor (word .u64 (wu (A.2.1.1*8192))))).fdiv 128))))).xor (word .u64 (wu (wu ↑((word .u64 (wu ↑((word .u64 A.2.1.1).xor (word .u64 (wu (A.2.1.1*8192)))))).xor (word .u64 ((wu ↑((word .u64 A.2.1.1).xor (word .u64 (wu (A.2.1.1*8192))))).fdiv 128)))*131072)))))).land (word .u64 (wu (I-1))))))then aB ((w (w (wu ↑((word .u64 (wu ↑((word .u64 (wu ↑((word .u64 (wu ↑((word .u64 A.2.1.1).xor (word .u64 (wu (A.2.1.1*8192)))))).xor (word .u64 ((wu ↑((word .u64 A.2.1.1).xor (word .u64 (wu (A.2.1.1*8192))))).fdiv 128))))).xor (word .u64 (wu (wu ↑((word .u64 (wu ↑((word .u64 A.2.1.1).xor (word .u64 (wu (A.2.1.1*8192)))))).xor (word .u64 ((wu ↑((word .u64 A.2.1.1).xor (word .u64 (wu (A.2.1.1*8192))))).fdiv 128)))*131072)))))).land (word .u64 (wu (I-1)))))-w (b-a)),()),(),())else aB ((w (wu ↑((word .u64 (wu ↑((word .u64 (wu ↑((word .u64 (wu ↑((word .u64 A.2.1.1).xor (word .u64 (wu (A.2.1.1*8192)))))).xor (word .u64 ((wu ↑((word .u64 A.2.1.1).xor (word .u64 (wu (A.2.1.1*8192))))).fdiv 128))))).xor (word .u64 (wu (wu ↑((word .u64 (wu ↑((word .u64 A.2.1.1).xor (word .u64 (wu (A.2.1.1*8192)))))).xor (word .u64 ((wu ↑((word .u64 A.2.1.1).xor (word .u64 (wu (A.2.1.1*8192))))).fdiv 128)))*131072)))))).land (word .u64 (wu (I-1))))),()),(),())) (Sj a A)else ay ((),A.2.2.1,a,b,((),()),())
def Kh(d:dO)(a b:Int):Option rN:=bif ai 8 (w (b-a))then(LO (w (b-a))).bind λA=>aA (adk a b A) ((w (w (a+w (w ((w (b-a)).tdiv 4)*2))-1),()),(wu (w (b-a)),()),d,())else ab ((),d,a,b,((),()),())
def EA(d:dO)(a b A:Int):Option (aJ×Ca):=aN d b λI=>aN d a λJ=>(cV I J).bind λU=>bif ak U 0 then ab ((b,a,()),d,a,b,w (A+1),((),()),())else ab ((a,b,()),d,a,b,A,((),()),())
def Ez(d:dO)(a b c U:Int):Option (Int×dO×Int×Int×M7):=(EA d a b U).bind λA=>(EA A.2.1 A.1.2.1 c A.2.2.2.2.1).bind λI=>(EA I.2.1 A.1.1 I.1.1 I.2.2.2.2.1).bind λJ=>ab (J.1.2.1,J.2.1,a,b,c,J.2.2.2.2.1,((),()),())
def AK(d:dO)(a I:Int):Option (Int×vF):=(Ez d (w (a-1)) a (w (a+1)) I).bind λA=>ab (A.1,A.2.1,a,A.2.2.2.2.2.1,((),()),())
def Sk(A:(Int×aJ)×dc×dO×Unit):Option (yO⊕aJ×vF):=(Ez A.2.2.1 A.1.1 A.1.2.1 A.1.2.2.1 A.2.1.1).bind λI=>aB ((I.1,()),(I.2.2.2.2.2.1,()),I.2.1,())
def Kj(a b:Int)(A:yO):Option (aJ×vF):=bif aj A.2.1.1 0 then ab ((A.1.1,1,()),A.2.2.1,a,b,((),()),())else bif aj A.2.1.1 12 then ab ((A.1.1,2,()),A.2.2.1,a,b,((),()),())else ab ((A.1.1,0,()),A.2.2.1,a,b,((),()),())
def Ki(d:dO)(a b:Int):Option (aJ×vF):=bt (bif ai 8 (w (b-a))then bt (bif ai 50 (w (b-a))then(AK d (w (a+w (w ((w (b-a)).tdiv 4)*1))) 0).bind λA=>(AK A.2.1 (w (a+w (w ((w (b-a)).tdiv 4)*2))) A.2.2.2.1).bind λI=>(AK I.2.1 (w (a+w (w ((w (b-a)).tdiv 4)*3))) I.2.2.2.1).bind λJ=>aB ((A.1,I.1,J.1,()),(J.2.2.2.1,()),J.2.1,())else aB ((w (a+w (w ((w (b-a)).tdiv 4)*1)),w (a+w (w ((w (b-a)).tdiv 4)*2)),w (a+w (w ((w (b-a)).tdiv 4)*3)),()),(0,()),d,())) Sk else aB ((w (a+w (w ((w (b-a)).tdiv 4)*2)),()),(0,()),d,())) (Kj a b)
def adJ(a b:Int)(A:gU):Option (gU⊕rN):=bif ak A.1.1 A.1.2.1 then aN A.2.2.1 A.1.2.1 λI=>aN A.2.2.1 A.1.1 λJ=>aN A.2.2.1 A.1.1 λU=>aN (A.2.2.1.set A.1.1.toNat I) A.1.2.1 λZ=>aB ((w (A.1.1+1),w (A.1.2.1-1),()),(),(A.2.2.1.set A.1.1.toNat I).set A.1.2.1.toNat J,())else ay ((),A.2.2.1,a,b,((),()),())
def Ko(d:dO)(a b:Int):Option rN:=aA (adJ a b) ((a,w (b-1),()),(),d,())
def adt(b:Int)(I:gU)(A:aR):Option (aR⊕aR⊕yR):=(aF (ak A.1.1 b) (aN I.2.2.1 A.1.1 λJ=>aN I.2.2.1 (w (A.1.1-1)) λU=>(cV J U).bind λZ=>ab !ak Z 0)).bind λa=>bif a then aB ((w (A.1.1+1),()),(),())else ay (bb ((A.1.1,()),(),()))
def adu(A:gG):Option (gG⊕B9⊕yR):=bif ai 1 A.1.1 then aN A.2.2.1 A.1.1 λJ=>aN A.2.2.1 (w (A.1.1-1)) λU=>(cV J U).bind λZ=>bif !ak Z 0 then ay (bb ((),(),A.2.2.1,()))else aN A.2.2.1 (w (A.1.1-1)) λI=>aN A.2.2.1 A.1.1 λa=>aN A.2.2.1 A.1.1 λb=>aN (A.2.2.1.set A.1.1.toNat I) (w (A.1.1-1)) λc=>aB ((w (A.1.1-1),()),(),(A.2.2.1.set A.1.1.toNat I).set (w (A.1.1-1)).toNat a,())else ay (bb ((),(),A.2.2.1,()))
def adv(b:Int)(c:gU)(d:aR)(A:gG):Option (gG⊕yR):=bif ak A.1.1 b then aN A.2.2.1 A.1.1 λJ=>aN A.2.2.1 (w (A.1.1-1)) λU=>(cV J U).bind λZ=>bif !ak Z 0 then ay (bb ((d.1.1,w (c.1.2.1+1),()),(),A.2.2.1,()))else aN A.2.2.1 (w (A.1.1-1)) λI=>aN A.2.2.1 A.1.1 λa=>aN A.2.2.1 A.1.1 λe=>aN (A.2.2.1.set A.1.1.toNat I) (w (A.1.1-1)) λf=>aB ((w (A.1.1+1),()),(),(A.2.2.1.set A.1.1.toNat I).set (w (A.1.1-1)).toNat a,())else ay (bb ((d.1.1,w (c.1.2.1+1),()),(),A.2.2.1,()))
def Sq(b:Int)(J:gU)(I:aR)(A:B9):Option yR:=bif ai 2 (w (b-I.1.1))then aA (adv b J I) ((w (I.1.1+1),()),(),A.2.2.1,())else aB ((I.1.1,w (J.1.2.1+1),()),(),A.2.2.1,())
def adw(a b:Int)(I:gU)(A:aR):Option yR:=bif aj A.1.1 b then ay (ag,I.2.2.1,a,b,((),()),())else bif ak (w (b-a)) 50 then ay (af,I.2.2.1,a,b,((),()),())else aN I.2.2.1 (w (A.1.1-1)) λJ=>aN I.2.2.1 A.1.1 λU=>aN I.2.2.1 A.1.1 λc=>aN (I.2.2.1.set A.1.1.toNat J) (w (A.1.1-1)) λZ=>bt (bif ai 2 (w (A.1.1-a))then aA adu ((w (A.1.1-1),()),(),(I.2.2.1.set A.1.1.toNat J).set (w (A.1.1-1)).toNat U,())else aB ((),(),(I.2.2.1.set A.1.1.toNat J).set (w (A.1.1-1)).toNat U,())) (Sq b I A)
def adx(a b:Int)(A:gU):Option yR:=bif ak A.1.2.1 5 then bt (aA (adt b A) ((A.1.1,()),(),())) (adw a b A)else ay (af,A.2.2.1,a,b,((),()),())
def Km(d:dO)(a b:Int):Option (Bool×vF):=aA (adx a b) ((w (a+1),0,()),(),d,())
def ado(a:Int)(I:gU)(A:aR):Option (aR⊕aR⊕Ch):=(aF (ai A.1.1 I.1.2.1) (aN I.2.2.1 a λJ=>aN I.2.2.1 A.1.1 λU=>(cV J U).bind λZ=>ab !ak Z 0)).bind λb=>bif b then aB ((w (A.1.1+1),()),(),())else ay (bb ((A.1.1,()),(),()))
def adp(a:Int)(c:gU)(I A:aR):Option (aR⊕aR⊕Ch):=(aF (ai I.1.1 A.1.1) (aN c.2.2.1 a λJ=>aN c.2.2.1 A.1.1 λU=>(cV J U).bind λZ=>ab (ak Z 0))).bind λb=>bif b then aB ((w (A.1.1-1),()),(),())else ay (bb ((A.1.1,()),(),()))
def adq(a b p:Int)(J:gU)(A I:aR):Option Ch:=bif ak I.1.1 A.1.1 then ay (A.1.1,J.2.2.1,a,b,p,((),()),())else aN J.2.2.1 I.1.1 λU=>aN J.2.2.1 A.1.1 λZ=>aN J.2.2.1 A.1.1 λc=>aN (J.2.2.1.set A.1.1.toNat U) I.1.1 λd=>aB ((w (A.1.1+1),w (I.1.1-1),()),(),(J.2.2.1.set A.1.1.toNat U).set I.1.1.toNat Z,())
def adr(a b p:Int)(I:gU)(A:aR):Option Ch:=bt (aA (adp a I A) ((I.1.2.1,()),(),())) (adq a b p I A)
def ads(a b p:Int)(A:gU):Option Ch:=bt (aA (ado a A) ((A.1.1,()),(),())) (adr a b p A)
def Kl(d:dO)(a b p:Int):Option (Int×Ca):=aN d p λA=>aN d a λI=>aN d a λJ=>aN (d.set a.toNat A) p λU=>aA (ads a b p) ((w (a+1),w (b-1),()),(),(d.set a.toNat A).set p.toNat I,())
def adz(d:dO)(a b p:Int)(I J:DQ)(A:aR):Option (aR⊕aR⊕vE):=(aF (ai A.1.1 (w (b-1))) (aN ((d.set a.toNat I).set p.toNat J) A.1.1 λU=>aN ((d.set a.toNat I).set p.toNat J) a λZ=>(cV U Z).bind λc=>ab (ak c 0))).bind λe=>bif e then aB ((w (A.1.1+1),()),(),())else ay (bb ((A.1.1,()),(),()))
def adA(d:dO)(a p:Int)(b c:DQ)(e A:aR):Option (aR⊕aR⊕vE):=(aF (ai e.1.1 A.1.1) (aN ((d.set a.toNat b).set p.toNat c) A.1.1 λI=>aN ((d.set a.toNat b).set p.toNat c) a λJ=>(cV I J).bind λU=>ab !ak U 0)).bind λZ=>bif Z then aB ((w (A.1.1-1),()),(),())else ay (bb ((A.1.1,()),(),()))
def adB(a:Int)(I:gU)(A:aR):Option (aR⊕aR⊕Cf):=(aF (ai A.1.1 I.1.2.1) (aN I.2.2.1 A.1.1 λJ=>aN I.2.2.1 a λU=>(cV J U).bind λZ=>ab (ak Z 0))).bind λb=>bif b then aB ((w (A.1.1+1),()),(),())else ay (bb ((A.1.1,()),(),()))
def adC(a:Int)(I:gU)(J A:aR):Option (aR⊕aR⊕Cf):=(aF (ai J.1.1 A.1.1) (aN I.2.2.1 A.1.1 λU=>aN I.2.2.1 a λZ=>(cV U Z).bind λb=>ab !ak b 0)).bind λc=>bif c then aB ((w (A.1.1-1),()),(),())else ay (bb ((A.1.1,()),(),()))
def adD(A:gU)(I J:aR):Option Cf:=bif ak J.1.1 I.1.1 then ay (bb ((J.1.1,()),(),A.2.2.1,()))else aN A.2.2.1 J.1.1 λU=>aN A.2.2.1 I.1.1 λZ=>aN A.2.2.1 I.1.1 λa=>aN (A.2.2.1.set I.1.1.toNat U) J.1.1 λb=>aB ((w (I.1.1+1),w (J.1.1-1),()),(),(A.2.2.1.set I.1.1.toNat U).set J.1.1.toNat Z,())
def adE(a:Int)(A:gU)(I:aR):Option Cf:=bt (aA (adC a A I) ((A.1.2.1,()),(),())) (adD A I)
def adF(a:Int)(A:gU):Option Cf:=bt (aA (adB a A) ((A.1.1,()),(),())) (adE a A)
def adG(a b p:Int)(A:gG):Option vE:=aN A.2.2.1 a λI=>aN A.2.2.1 A.1.1 λJ=>aN A.2.2.1 A.1.1 λU=>aN (A.2.2.1.set A.1.1.toNat I) a λZ=>ab ((A.1.1,af,()),(A.2.2.1.set A.1.1.toNat I).set a.toNat J,a,b,p,((),()),())
def adH(d:dO)(a b p:Int)(I J:DQ)(U A:aR):Option vE:=bif ak A.1.1 U.1.1 then aN ((d.set a.toNat I).set p.toNat J) a λZ=>aN ((d.set a.toNat I).set p.toNat J) A.1.1 λe=>aN ((d.set a.toNat I).set p.toNat J) A.1.1 λg=>aN (((d.set a.toNat I).set p.toNat J).set A.1.1.toNat Z) a λh=>ab ((A.1.1,ag,()),(((d.set a.toNat I).set p.toNat J).set A.1.1.toNat Z).set a.toNat e,a,b,p,((),()),())else aN ((d.set a.toNat I).set p.toNat J) A.1.1 λc=>aN ((d.set a.toNat I).set p.toNat J) U.1.1 λf=>aN ((d.set a.toNat I).set p.toNat J) U.1.1 λi=>aN (((d.set a.toNat I).set p.toNat J).set U.1.1.toNat c) A.1.1 λj=>bt (aA (adF a) ((w (U.1.1+1),w (A.1.1-1),()),(),(((d.set a.toNat I).set p.toNat J).set U.1.1.toNat c).set A.1.1.toNat f,())) (adG a b p)
def adI(d:dO)(a b p:Int)(A I:DQ)(J:aR):Option vE:=bt (aA (adA d a p A I J) ((w (b-1),()),(),())) (adH d a b p A I J)
def EC(d:dO)(a b p:Int):Option vE:=aN d p λA=>aN d a λI=>aN d a λJ=>aN (d.set a.toNat A) p λU=>bt (aA (adz d a b p A I) ((w (a+1),()),(),())) (adI d a b p A I)
def Ss(F:List DQ->Int->Int->Int->Option (Unit×List DQ×Int×Int×Int×(Unit×Unit)×Unit))(I:Cb)(U:gG)(a:gU)(J:B9):GF:=(aF (ak 0 I.1.1) (aN J.2.2.1 (w (I.1.1-1)) λb=>aN J.2.2.1 a.1.1 λc=>(cV b c).bind λd=>ab !ak d 0)).bind λe=>bif e then(Kl J.2.2.1 I.1.1 I.1.2.1 a.1.1).bind λZ=>aB ((Z.1,I.1.2.1,U.1.1,I.1.2.2.2.1,I.1.2.2.2.2.1,()),(),Z.2.1,())else(EC J.2.2.1 I.1.1 I.1.2.1 a.1.1).bind λA=>bif ak (w (A.1.1-I.1.1)) (w (I.1.2.1-A.1.1))then(F A.2.1 I.1.1 A.1.1 U.1.1).bind λf=>aB ((w (A.1.1+1),I.1.2.1,U.1.1,ai (w ((w (I.1.2.1-I.1.1)).tdiv 8)) (w (A.1.1-I.1.1)),A.1.2.1,()),(),f.2.1,())else(F A.2.1 (w (A.1.1+1)) I.1.2.1 U.1.1).bind λg=>aB ((I.1.1,A.1.1,U.1.1,ai (w ((w (I.1.2.1-I.1.1)).tdiv 8)) (w (I.1.2.1-A.1.1)),A.1.2.1,()),(),g.2.1,())
def Su(F:List DQ->Int->Int->Int->Option (Unit×List DQ×Int×Int×Int×(Unit×Unit)×Unit))(a b l:Int)(I:Cb)(U:gG)(J:gU):GF:=bt ((aF I.1.2.2.2.1 (ab I.1.2.2.2.2.1)).bind λZ=>(aF Z (ab (aj J.1.2.1 1))).bind λc=>bif c then(Km J.2.2.1 I.1.1 I.1.2.1).bind λA=>bif A.1 then ay (cy ((),A.2.1,a,b,l,((),()),()))else aB ((),(),A.2.1,())else aB ((),(),J.2.2.1,())) (Ss F I U J)
def Sv(F:List DQ->Int->Int->Int->Option (Unit×List DQ×Int×Int×Int×(Unit×Unit)×Unit))(a b l:Int)(A:Cb)(J:gG):GF:=(Ki J.2.2.1 A.1.1 A.1.2.1).bind λI=>bt (bif aj I.1.2.1 2 then(Ko I.2.1 A.1.1 A.1.2.1).bind λU=>aB ((w (w (A.1.2.1-1)-w (I.1.1-A.1.1)),1,()),(),U.2.1,())else aB ((I.1.1,I.1.2.1,()),(),I.2.1,())) (Su F a b l A J)
def ady(F:List DQ->Int->Int->Int->Option (Unit×List DQ×Int×Int×Int×(Unit×Unit)×Unit))(a b l:Int)(A:Cb):GF:=bif ai (w (A.1.2.1-A.1.1)) 12 then(Sl A.2.2.1 A.1.1 A.1.2.1).bind λI=>ay ((),I.2.1,a,b,l,((),()),())else bif aj A.1.2.2.1 0 then(Kk A.2.2.1 A.1.1 A.1.2.1).bind λJ=>ay ((),J.2.1,a,b,l,((),()),())else bt (bif !A.1.2.2.2.1 then(Kh A.2.2.1 A.1.1 A.1.2.1).bind λU=>aB ((w (A.1.2.2.1-1),()),(),U.2.1,())else aB ((A.1.2.2.1,()),(),A.2.2.1,())) (Sv F a b l A)
def EB(F:List DQ->Int->Int->Int->Option (Unit×List DQ×Int×Int×Int×(Unit×Unit)×Unit))(d:dO)(a b l:Int):Option Ck:=aA (ady F a b l) ((a,b,l,ag,ag,()),(),d,())
def Sr:List DQ->Int->Int->Int->Option (Unit×List DQ×Int×Int×Int×(Unit×Unit)×Unit):=Nat.rec (λ_ _ _ _=>ae) (λ_ F=>EB F) 1099511627776
def Kp(d:dO):Option (Unit×dO×fQ×Unit):=(vU (wu ↑d.length)).bind λA=>(Sr d 0 (↑d.length) A).bind λI=>ab ((),I.2.1,((),()),())
def aam(b c:DQ)(d:rM)(a:hH)(I:rM):Option (rM⊕rM⊕dO):=bif ak I.1.1 ↑a.length then aQ a I.1.1 λe=>(eN e.2.1).bind λA=>(cV b A).bind λJ=>(aF (ak J 0) ((cV A c).bind λU=>ab (ak U 0))).bind λZ=>bif Z then aT (bZ (I.2.1.1.length+[A].length) 64) (aB ((w (I.1.1+1),()),(cH I.2.1.1 [A],()),()))else aB ((w (I.1.1+1),()),(I.2.1.1,()),())else ay (bb ((w (d.1.1+1),()),(I.2.1.1,()),()))
def aan(f g:DQ)(I:qn)(U Z:aJ)(A:rM):V2:=bif ak A.1.1 ↑I.2.1.2.1.length then aN I.2.1.2.1 A.1.1 λa=>(IY a.1 a.2.1 U Z).bind λJ=>bif aj J.2.2.1 1 then(cV f J.2.1).bind λb=>(aF (ak b 0) ((cV J.2.1 g).bind λc=>ab (ak c 0))).bind λd=>bif d then aT (bZ (A.2.1.1.length+[J.2.1].length) 64) (aB ((w (A.1.1+1),()),(cH A.2.1.1 [J.2.1],()),()))else aB ((w (A.1.1+1),()),(A.2.1.1,()),())else aB ((w (A.1.1+1),()),(A.2.1.1,()),())else(aT (bZ (I.2.1.2.1.length+[(U,Z,())].length) 32) (aB ((w (I.1.1+1),()),(A.2.1.1,cH I.2.1.2.1 [(U,Z,())],()),()))).bind λe=>ay e
def aao(y z:aJ)(f g:DQ)(Z:qn)(J U:aJ)(A:rM):V2:=bif ak A.1.1 ↑[y.1,z.1].length then aN [y.1,z.1] A.1.1 λa=>(QB J U a).bind λI=>bif I.2.1 then(cV f I.1).bind λb=>(aF (ak b 0) ((cV I.1 g).bind λc=>ab (ak c 0))).bind λd=>bif d then aT (bZ (A.2.1.1.length+[I.1].length) 64) (aB ((w (A.1.1+1),()),(cH A.2.1.1 [I.1],()),()))else aB ((w (A.1.1+1),()),(A.2.1.1,()),())else aB ((w (A.1.1+1),()),(A.2.1.1,()),())else(aA (aan f g Z J U) ((0,()),(A.2.1.1,()),())).bind λe=>ay e
def aap(y z:aJ)(a b:DQ)(Z:qn)(I:hH)(A:qn):Option (qn⊕qn⊕dO):=bif ak A.1.1 ↑I.length then aQ I A.1.1 λJ=>kv (↑I.length) (aQ I ((w (A.1.1+1)).tmod ↑I.length) λU=>bif !cu (Ty.st 2 ((Ty.int .i64).cn ((Ty.int .i64).cn Ty.nl))) J U then aA (aao y z a b A J U) ((0,()),(A.2.1.1,()),())else aB ((w (A.1.1+1),()),(A.2.1.1,A.2.1.2.1,()),()))else ay (bb ((w (Z.1.1+1),()),(A.2.1.1,A.2.1.2.1,()),()))
def aaq(I:gG)(A:gU):Option (gU⊕gG⊕dO):=bif ak A.1.2.1 ↑(I.2.2.1.length-I.1.1.toNat)then aT (ai 0 A.1.2.1&&ak A.1.2.1 ↑(I.2.2.1.length-I.1.1.toNat)) (A.2.2.1[I.1.1.toNat+A.1.2.1.toNat]?.bind λJ=>aT (ai 0 (w (A.1.2.1-1))&&ak (w (A.1.2.1-1)) ↑(I.2.2.1.length-I.1.1.toNat)) (A.2.2.1[I.1.1.toNat+(w (A.1.2.1-1)).toNat]?.bind λU=>(cV J U).bind λZ=>bif !aj Z 0 then aT (ai 0 A.1.2.1&&ak A.1.2.1 ↑(I.2.2.1.length-I.1.1.toNat)) (A.2.2.1[I.1.1.toNat+A.1.2.1.toNat]?.bind λa=>aN A.2.2.1 A.1.1 λc=>aB ((w (A.1.1+1),w (A.1.2.1+1),()),(),A.2.2.1.set A.1.1.toNat a,()))else aB ((A.1.1,w (A.1.2.1+1),()),(),A.2.2.1,())))else(aT (ai 0 A.1.1&&ai A.1.1 ↑A.2.2.1.length) (aT (ak 0 ↑A.2.2.1.length) (aT (ai 0 A.1.1&&ai A.1.1 ↑(px (ab A.1.1.toNat) (A.2.2.1.length-A.1.1.toNat) ((af,[],()),(af,[],()),()) A.2.2.1).length) (ay (aY A.1.1.toNat (px (ab A.1.1.toNat) (A.2.2.1.length-A.1.1.toNat) ((af,[],()),(af,[],()),()) A.2.2.1)))))).bind λb=>ay b
def Qy(A:gG):Option (gG⊕dO):=bif ak A.1.1 ↑A.2.2.1.length then aN A.2.2.1 A.1.1 λI=>aN A.2.2.1 (w (A.1.1-1)) λJ=>(cV I J).bind λU=>bif aj U 0 then aT (ai 0 A.1.1&&ai A.1.1 ↑A.2.2.1.length) (aA (aaq A) ((A.1.1,1,()),(),A.2.2.1,()))else aB ((w (A.1.1+1),()),(),A.2.2.1,())else ay A.2.2.1
def aar(y z:aJ)(a b:DQ)(J:eC)(A:qn):Option (qn⊕dO):=bif ak A.1.1 ↑J.length then aQ J A.1.1 λU=>aA (aap y z a b A U) ((0,()),(A.2.1.1,A.2.1.2.1,()),())else((Kp A.2.1.1).bind λI=>bif ak (↑I.2.1.length) 2 then ab I.2.1 else aA Qy ((1,()),(),I.2.1,())).bind λZ=>ay Z
def aas(x:eC)(y z:aJ)(U Z:DQ)(A:rM):Option (rM⊕dO):=bif ak A.1.1 ↑x.length then aQ x A.1.1 λa=>aA (aam U Z A a) ((0,()),(A.2.1.1,()),())else((EP x (0,0,())).bind λI=>aA (aar y z U Z I) ((0,()),(A.2.1.1,[],()),())).bind λJ=>ay J
def IX(x:eC)(y z:aJ):Option dO:=(sD x).bind λJ=>(aV (!J) ((zX [y,z]).bind λU=>ab !U)).bind λZ=>(aV Z (ab (ai z.2.1 y.2.1))).bind λa=>bif a then ab []else(eN y.2.1).bind λA=>(eN z.2.1).bind λI=>aA (aas x y z A I) ((0,()),([A,I],()),())
def Ws(J:dO)(A:V3):Option (V3⊕vH):=bif ak (w (A.1.1+1)) ↑J.length then aQ J A.1.1 λe=>aQ J (w (A.1.1+1)) λI=>(Lj e I).bind λU=>(LB A.2.1.1 A.2.1.2.1 U).bind λZ=>(Lz Z A.2.1.2.2.2.1 A.2.1.2.2.2.2.1).bind λa=>(uQ I e).bind λb=>(oT a b).bind λc=>(lC A.2.1.2.2.1 c).bind λd=>aB ((w (A.1.1+1),()),(A.2.1.1,A.2.1.2.1,d,A.2.1.2.2.2.1,A.2.1.2.2.2.2.1,()),())else ay (A.2.1.2.2.1,0,())
def G3(x:eC)(y:Int)(z u:aJ):vG:=(NI x y).bind λA=>bif !aj A 0 then ab (((af,[],()),(af,[],()),()),A,())else(iX z).bind λJ=>(aV (!J) ((iX u).bind λU=>ab !U)).bind λZ=>bif Z then ab (((af,[],()),(af,[],()),()),6,())else(eN 0).bind λI=>bif ai u.1 z.1 then ab (I,0,())else(eN z.1).bind λa=>(eN u.1).bind λb=>(IX x z u).bind λc=>aA (Ws c) ((0,()),(x,y,I,a,b,()),())
def Lk(x y:DQ):vG:=(jf x).bind λA=>(jf y).bind λI=>(pL A.1 I.2.1).bind λU=>(pL A.2.1 I.1).bind λZ=>(xD U Z).bind λJ=>ab (J.1,J.2.1,())
def NJ(x:DQ)(y:Int):vG:=bif !aj y 0 then ab (((af,[],()),(af,[],()),()),y,())else(eN 65536).bind λA=>(Lk x A).bind λI=>ab (I.1,0,())
def Wt(x:eC)(y:Int)(J:aJ)(U:GD):vG:=(G3 x y J U.2.1.1).bind λA=>(NJ A.1 A.2.1).bind λI=>ab (I.1,I.2.1,())
def NH(x:eC)(y z u:Int):vG:=(y9 z u).bind λA=>(y9 z u).bind λI=>bt ((iX A).bind λJ=>bif J then(y9 (w (z+1)) (w (u+1))).bind λU=>aB ((),(U,()),())else aB ((),(I,()),())) (Wt x y A)
def Ow(x:DQ):b8:=(xC 1 2).bind λA=>(eN 0).bind λI=>(cV x I).bind λJ=>bif ai J 0 then ab 0 else(eN 1).bind λU=>(cV x U).bind λZ=>bif ai 0 Z then ab 255 else(eN 255).bind λa=>(oT x a).bind λb=>(lC b A.1).bind λc=>(sN c).bind λd=>(ss d).bind λe=>ab (wr .u8 e.1)
def Ht(x:eC)(y z u:Int):b8:=(NH x y z u).bind λA=>bif !aj A.2.1 0 then ab 0 else(Ow A.1).bind λI=>ab I
def Xv(x:eC)(y:Int)(J a:lO)(U A:ef):Option (ef⊕ef⊕ot):=bif ak A.1.1 (bif ai J.2.2.1 a.2.2.1 then J.2.2.1 else a.2.2.1)then(Fw J A.1.1 U.1.1).bind λI=>(Ht x y A.1.1 U.1.1).bind λZ=>aN A.2.2.1 I λb=>aB ((w (A.1.1+1),()),(),A.2.2.1.set I.toNat Z,())else ay (bb ((w (U.1.1+1),()),(),A.2.2.1,()))
def Ox(x:eC)(y:Int)(I J:lO)(A:ef):Option (ef⊕ot):=bif ak A.1.1 I.2.2.2.1 then(aV (ak A.1.1 J.2.1) (ab (ai J.2.2.2.1 A.1.1))).bind λU=>bif U then aB ((w (A.1.1+1),()),(),A.2.2.1,())else aA (Xv x y I J A) ((bif ai I.1 J.1 then J.1 else I.1,()),(),A.2.2.1,())else ay ((I,A.2.2.1,()),0,())
def Xw(x:eC)(y:Int)(z:bu)(U:Unit×((lO×fQ)×Unit)×Unit):yU:=(pX z).bind λI=>(uS I).bind λA=>aT (ai 0 A&&(ai A A&&ai (A*1) 70368744177664)) ((EO x).bind λJ=>aA (Ox x y I J) ((I.2.1,()),(),bT A.toNat (0:Int),()))
def zm(x:eC)(y:Int)(z:bu):yU:=bt ((sD x).bind λA=>bif !A then ay (((0,0,0,0,()),[],()),12,())else(aF (!aj y 1) (ab !aj y 2)).bind λI=>bif I then ay (((0,0,0,0,()),[],()),2,())else(xF z).bind λJ=>bif !J then ay (((0,0,0,0,()),[],()),6,())else(uS z).bind λU=>bif ak 65536 U then ay (((0,0,0,0,()),[],()),5,())else aB ((),(((0,0,0,0,()),(),()),()),())) (Xw x y z)
def zk(x:cz)(y:Int)(z:bu):yU:=(CT x y z).bind λA=>bif !aj A 0 then ab (((0,0,0,0,()),[],()),A,())else(uf x y).bind λI=>bif !I.2.1 then(Aj z 255).bind λJ=>ab (J.1,0,())else aQ x.2.2.2.1 y λU=>(zm I.1 U.2.2.2.2.2.1 z).bind λZ=>ab (Z.1,0,())
def A1(x:bN):Option dO:=ab [x.1,x.2.1,x.2.2.1,x.2.2.2.1,x.2.2.2.2.1,x.2.2.2.2.2.1]
def aeA(x:bq)(A:aR):yM:=(aF (ak 0 A.1.1) (aQ x (w (A.1.1-1)) λI=>ab (aj I 0))).bind λJ=>bif J then aB ((w (A.1.1-1),()),(),())else ay (bb ((A.1.1,()),(),()))
def S9(x:bq)(J:aR)(A:tC):Nb:=bif ak A.1.2.1 J.1.1 then aQ x A.1.2.1 λI=>aT (bZ (A.1.1.length+[I].length) 4) (aB ((cH A.1.1 [I],w (A.1.2.1+1),()),(),()))else ay A.1.1
def at0(x:bq)(A:aR):jq:=aA (S9 x A) (([],0,()),(),())
def jy(x:bq):jq:=bt (aA (aeA x) ((↑x.length,()),(),())) (at0 x)
def nc(x:Bool)(y:bq):mF:=(jy y).bind λA=>(aF x (ab (ak 0 ↑A.length))).bind λI=>ab (I,A,())
def uP(x:DZ):b8:=(nc x.1 x.2.1).bind λA=>bif aj (↑A.2.1.length) 0 then ab 0 else bif A.1 then ab (-1)else ab 1
def Th(x:Int)(A:aR):mF:=(nc (ak x 0) [wr .u32 A.1.1,wr .u32 (A.1.1.fdiv 4294967296)]).bind λI=>ab I
def AY(x:Int):mF:=bt (bif ak x 0 then aB ((wu (0-wu x),()),(),())else aB ((wu x,()),(),())) (Th x)
def oR(x:Int):iq:=(AY x).bind λA=>(AY 1).bind λI=>ab (A,I,())
def S3(A:eE):Option (eE⊕Int):=bif ak 0 A.1.2.1 then aB ((w (A.1.1+1),wr .u32 (A.1.2.1.tdiv 2),()),(),())else ay A.1.1
def EX(x:bq):b8:=(jy x).bind λA=>bif aj (↑A.length) 0 then ab 0 else aQ A (w (↑A.length-1)) λI=>aA S3 ((w (32*w (↑A.length-1)),I,()),(),())
def Tf(x:bq)(y:Int)(A:yN):Nc:=bif ak A.1.2.2.1 ↑x.length then aQ x A.1.2.2.1 λI=>aT (bZ (A.1.1.length+[wr .u32 (wu (wu (wu I*↑(2^(wu (y.tmod 32)).toNat.min 64))+A.1.2.1))].length) 4) (aB ((cH A.1.1 [wr .u32 (wu (wu (wu I*↑(2^(wu (y.tmod 32)).toNat.min 64))+A.1.2.1))],(wu (wu (wu I*↑(2^(wu (y.tmod 32)).toNat.min 64))+A.1.2.1)).fdiv 4294967296,w (A.1.2.2.1+1),()),(),()))else(aT (bZ (A.1.1.length+[wr .u32 A.1.2.1].length) 4) ((jy (cH A.1.1 [wr .u32 A.1.2.1])).bind λJ=>ab J)).bind λU=>ay U
def KO(x:bq)(y:Int):jq:=aT (ai 0 (w (y.tdiv 32))&&(ai (w (y.tdiv 32)) (w (y.tdiv 32))&&ai (w (y.tdiv 32)*4) 70368744177664)) (aA (Tf x y) ((bT (w (y.tdiv 32)).toNat (0:Int),0,0,()),(),()))
def mf(x:bq)(y:Int):b8:=(aV (ak y 0) (ab (ai (↑x.length) y))).bind λA=>bif A then ab 0 else aQ x y λI=>ab (wu I)
def Tc(x:bq)(y:Int)(A:tC):Nb:=bif ak A.1.2.1 ↑x.length then(mf x (w (A.1.2.1+1))).bind λI=>(mf x A.1.2.1).bind λJ=>aT (bZ (A.1.1.length+[wr .u32 ((wu (wu (I*4294967296)+J)).fdiv ↑(2^(wu ((w (0-y)).tmod 32)).toNat.min 64))].length) 4) (aB ((cH A.1.1 [wr .u32 ((wu (wu (I*4294967296)+J)).fdiv ↑(2^(wu ((w (0-y)).tmod 32)).toNat.min 64))],w (A.1.2.1+1),()),(),()))else((jy A.1.1).bind λU=>ab U).bind λZ=>ay Z
def sJ(x:bq)(y:Int):jq:=bif ai 0 y then(KO x (bif ai y 4096 then y else 4096)).bind λA=>ab A else bif ak y (w (-32*↑x.length))then ab []else aA (Tc x y) (([],w ((w (0-y)).tdiv 32),()),(),())
def Te(x:bq)(y:Int)(A:yN):Nc:=bif ak A.1.2.2.1 ↑x.length then aQ x A.1.2.2.1 λI=>aT (bZ (A.1.1.length+[wr .u32 (wu (wu (wu I*y)+A.1.2.1))].length) 4) (aB ((cH A.1.1 [wr .u32 (wu (wu (wu I*y)+A.1.2.1))],(wu (wu (wu I*y)+A.1.2.1)).fdiv 4294967296,w (A.1.2.2.1+1),()),(),()))else(aT (bZ (A.1.1.length+[wr .u32 A.1.2.1].length) 4) ((jy (cH A.1.1 [wr .u32 A.1.2.1])).bind λJ=>ab J)).bind λU=>ay U
def KN(x:bq)(y:Int):jq:=aA (Te x y) (([],0,0,()),(),())
def KJ(x y:bq)(A:aR):yP:=bif ai 0 A.1.1 then(mf x A.1.1).bind λI=>(mf y A.1.1).bind λJ=>bif ak I J then ay (-1)else(mf x A.1.1).bind λU=>(mf y A.1.1).bind λZ=>bif ak Z U then ay 1 else aB ((w (A.1.1-1),()),(),())else ay 0
def EY(x y:bq):b8:=aA (KJ x y) ((w ((bif ai ↑x.length ↑y.length then ↑y.length else ↑x.length)-1),()),(),())
def Td(x y:bq)(A:yN):Option (yN⊕bq×jM):=bif ak A.1.2.2.1 ↑x.length then(mf x A.1.2.2.1).bind λI=>(mf y A.1.2.2.1).bind λJ=>aT (bZ (A.1.1.length+[wr .u32 (wu (wu (wu (4294967296+I)-J)-A.1.2.1))].length) 4) (aB ((cH A.1.1 [wr .u32 (wu (wu (wu (4294967296+I)-J)-A.1.2.1))],wu (1-(wu (wu (wu (4294967296+I)-J)-A.1.2.1)).fdiv 4294967296),w (A.1.2.2.1+1),()),(),()))else((jy A.1.1).bind λU=>ab (U,ag,())).bind λZ=>ay Z
def xt(x y:bq):GJ:=(EY x y).bind λA=>bif ak A 0 then ab ([],af,())else aA (Td x y) (([],0,0,()),(),())
def Ta(x y:bq)(A:(Int×tD)×fQ):Option ((Int×tD)×fQ⊕Int×tD):=(EY A.1.2.1 x).bind λI=>bif ak 0 I then(xt A.1.2.1 y).bind λJ=>aB ((wu (A.1.1-1),J.1,()),(),())else((xt x A.1.2.1).bind λU=>ab (A.1.1,U.1,())).bind λZ=>ay Z
def E1(x y:bq):Option (Int×tD):=(mf x ↑y.length).bind λI=>(mf x (w (↑y.length-1))).bind λJ=>aQ y (w (↑y.length-1)) λA=>kv (wu A) ((KN y (bif ai (wu ((wu (wu (I*4294967296)+J)).tdiv (wu A))) 4294967295 then wu ((wu (wu (I*4294967296)+J)).tdiv (wu A))else 4294967295)).bind λU=>aA (Ta x y) ((bif ai (wu ((wu (wu (I*4294967296)+J)).tdiv (wu A))) 4294967295 then wu ((wu (wu (I*4294967296)+J)).tdiv (wu A))else 4294967295,U,()),(),()))
def S4(A:tC):Option (tC⊕vJ⊕om):=bif ak A.1.2.1 0 then aT (ai 0 A.1.2.1&&ak A.1.2.1 0) ae else ay (bb ((A.1.1,()),(),()))
def KK(I:yT)(A:tC):Option (tC⊕vJ⊕yT⊕om):=bif ak A.1.2.1 ↑I.1.1.length then aQ I.1.1 A.1.2.1 λJ=>aT (bZ (A.1.1.length+[J].length) 4) (aB ((cH A.1.1 [J],w (A.1.2.1+1),()),(),()))else ay (bb ((A.1.1,()),(),()))
def aew(Z:bq)(A:yT)(J:vJ):Option (yT⊕om):=(jy J.1.1).bind λU=>(E1 U Z).bind λI=>aN A.2.2.1 A.1.2.1 λa=>aB ((I.2.1,w (A.1.2.1-1),()),(),A.2.2.1.set A.1.2.1.toNat (wr .u32 I.1),())
def E0(a:bq)(b:Int)(c d:bq)(A:yT):Option (yT⊕om):=bif ai 0 A.1.2.1 then aQ c A.1.2.1 λI=>bt (aA (KK A) (([I],0,()),(),())) (aew d A)else((jy A.2.2.1).bind λJ=>(sJ A.1.1 (w (0-w (w (32*↑a.length)-b)))).bind λU=>ab (J,U,0,())).bind λZ=>ay Z
def aex(U:bq)(Z:Int)(A I:bq)(a:vJ):nE:=(jy a.1.1).bind λb=>(E1 b I).bind λJ=>aN (bT (ns ↑A.length) (0:Int)) (w (↑A.length-1)) λc=>aA (E0 U Z A I) ((J.2.1,w (w (↑A.length-1)-1),()),(),(bT (ns ↑A.length) (0:Int)).set (w (↑A.length-1)).toNat (wr .u32 J.1),())
def EZ(x y:bq):nE:=(jy y).bind λI=>bif aj (↑I.length) 0 then ab ([],[],9,())else(EX I).bind λJ=>(sJ x (w (w (32*↑I.length)-J))).bind λA=>(sJ I (w (w (32*↑I.length)-J))).bind λa=>aT (ai ↑A.length ↑A.length&&ai (↑A.length*4) 70368744177664) (bif ai 0 (w (↑A.length-1))then aQ A (w (↑A.length-1)) λb=>bt (aA S4 (([b],0,()),(),())) (aex I J A a)else(jy (bT (ns ↑A.length) (0:Int))).bind λU=>(sJ [] (w (0-w (w (32*↑I.length)-J)))).bind λZ=>ab (U,Z,0,()))
def S5(A:GM):Option (GM⊕bq):=bif ak 0 ↑A.1.2.1.length then(EZ A.1.1 A.1.2.1).bind λI=>aB ((A.1.2.1,I.2.1,()),(),())else ay A.1.1
def KL(x y:bq):jq:=(jy x).bind λA=>(jy y).bind λI=>aA S5 ((A,I,()),(),())
def xv(x:DZ):mF:=(nc (!x.1) x.2.1).bind λA=>ab A
def SZ(x y:bq)(A:yN):Nc:=bif ak A.1.2.2.1 (bif ai ↑x.length ↑y.length then ↑y.length else ↑x.length)then(mf x A.1.2.2.1).bind λI=>(mf y A.1.2.2.1).bind λJ=>aT (bZ (A.1.1.length+[wr .u32 (wu (wu (I+J)+A.1.2.1))].length) 4) (aB ((cH A.1.1 [wr .u32 (wu (wu (I+J)+A.1.2.1))],(wu (wu (I+J)+A.1.2.1)).fdiv 4294967296,w (A.1.2.2.1+1),()),(),()))else(aT (bZ (A.1.1.length+[wr .u32 A.1.2.1].length) 4) ((jy (cH A.1.1 [wr .u32 A.1.2.1])).bind λU=>ab U)).bind λZ=>ay Z
def KI(x y:bq):jq:=aA (SZ x y) (([],0,0,()),(),())
def AX(x y:DZ):mF:=bif cu Ty.bool x.1 y.1 then(KI x.2.1 y.2.1).bind λI=>(nc x.1 I).bind λJ=>ab J else(xt x.2.1 y.2.1).bind λA=>bif A.2.1 then(nc x.1 A.1).bind λU=>ab U else(xt y.2.1 x.2.1).bind λZ=>(nc y.1 Z.1).bind λa=>ab a
def E5(x y:DZ):mF:=(xv y).bind λA=>(AX x A).bind λI=>ab I
def E4(x y:DZ):Na:=(uP y).bind λU=>bif aj U 0 then ab ((af,[],()),(af,[],()),9,())else(EZ x.2.1 y.2.1).bind λI=>(nc (!cu Ty.bool x.1 y.1) I.1).bind λJ=>(nc x.1 I.2.1).bind λA=>(aF (!cu Ty.bool x.1 y.1) ((uP A).bind λZ=>ab !aj Z 0)).bind λa=>bif a then(AY 1).bind λb=>(E5 J b).bind λc=>(AX A y).bind λd=>ab (c,d,0,())else ab (J,A,0,())
def Ti(A:DZ)(I:Unit×DQ×Unit):iq:=(E4 I.2.1.1 A).bind λJ=>(E4 I.2.1.2.1 A).bind λU=>ab (J.1,U.1,())
def AZ(x y:DZ):iq:=(KL x.2.1 y.2.1).bind λA=>(nc af A).bind λI=>bt ((uP y).bind λJ=>bif ak J 0 then(xv x).bind λU=>(xv y).bind λZ=>aB ((),(U,Z,()),())else aB ((),(x,y,()),())) (Ti I)
def jz(x:DQ):iq:=(uP x.2.1).bind λA=>bif aj A 0 then(oR 0).bind λI=>ab I else(AZ x.1 x.2.1).bind λJ=>ab J
def E2(x:DZ):b8:=(EX x.2.1).bind λA=>ab A
def KQ(x:DQ):b8:=(jz x).bind λA=>(E2 A.1).bind λI=>(E2 A.2.1).bind λJ=>ab (bif ai I J then J else I)
def KZ(I:dO)(A:aR):jN:=bif ak A.1.1 ↑I.length then aQ I A.1.1 λJ=>(KQ J).bind λU=>bif ak 256 U then ay af else aB ((w (A.1.1+1),()),(),())else ay ag
def Fa(x:bN):bB:=(A1 x).bind λA=>aA (KZ A) ((0,()),(),())
def S7(x y:bq)(I:ef)(A:jO):Option (jO⊕ef⊕bq):=bif ak A.1.2.1 ↑y.length then aQ x I.1.1 λJ=>aQ y A.1.2.1 λU=>aN A.2.2.1 (w (I.1.1+A.1.2.1)) λZ=>aN A.2.2.1 (w (I.1.1+A.1.2.1)) λb=>aB (((wu (wu (wu (wu J*wu U)+wu Z)+A.1.1)).fdiv 4294967296,w (A.1.2.1+1),()),(),A.2.2.1.set (w (I.1.1+A.1.2.1)).toNat (wr .u32 (wu (wu (wu (wu J*wu U)+wu Z)+A.1.1))),())else(aN A.2.2.1 (w (I.1.1+↑y.length)) λc=>aB ((w (I.1.1+1),()),(),A.2.2.1.set (w (I.1.1+↑y.length)).toNat (wr .u32 A.1.1),())).bind λa=>ay a
def S8(x y:bq)(A:ef):Option (ef⊕bq):=bif ak A.1.1 ↑x.length then aA (S7 x y A) ((0,0,()),(),A.2.2.1,())else((jy A.2.2.1).bind λI=>ab I).bind λJ=>ay J
def KM(x y:bq):jq:=aT (ai 0 (w (w (↑x.length+↑y.length)+1))&&(ai (w (w (↑x.length+↑y.length)+1)) (w (w (↑x.length+↑y.length)+1))&&ai (w (w (↑x.length+↑y.length)+1)*4) 70368744177664)) (aA (S8 x y) ((0,()),(),bT (w (w (↑x.length+↑y.length)+1)).toNat (0:Int),()))
def qW(x y:DZ):mF:=(KM x.2.1 y.2.1).bind λA=>(nc (!cu Ty.bool x.1 y.1) A).bind λI=>ab I
def E6(x y:DQ):iq:=(jz x).bind λA=>(jz y).bind λI=>(qW A.1 I.1).bind λJ=>(qW A.2.1 I.2.1).bind λU=>(AZ J U).bind λZ=>ab Z
def KR(x:DQ):iq:=(jz x).bind λA=>(xv A.1).bind λI=>ab (I,A.2.1,())
def KP(x y:DQ):iq:=(jz x).bind λA=>(jz y).bind λI=>(qW A.1 I.2.1).bind λJ=>(qW I.1 A.2.1).bind λU=>(AX J U).bind λZ=>(qW A.2.1 I.2.1).bind λa=>(AZ Z a).bind λb=>ab b
def KT(x y:DQ):iq:=(KR y).bind λA=>(KP x A).bind λI=>ab I
def xA(x:bN):iq:=(E6 x.1 x.2.2.2.1).bind λA=>(E6 x.2.1 x.2.2.1).bind λI=>(KT A I).bind λJ=>ab J
def Tg(x y:DZ):b8:=(E5 x y).bind λA=>(uP A).bind λI=>ab I
def xw(x y:DQ):b8:=(jz x).bind λA=>(jz y).bind λI=>(qW A.1 I.2.1).bind λJ=>(qW I.1 A.2.1).bind λU=>(Tg J U).bind λZ=>ab Z
def aeE(x:Int)(A:jM×fQ):b8:=bif A.1.1 then ab 1 else bif aj x 3 then ab 2 else bif aj x 4 then ab 3 else bif aj x 5 then ab 0 else ab (-1)
def K1(x:Int):b8:=bt (bif aj x 1 then aB ((aj x 1,()),(),())else aB ((aj x 2,()),(),())) (aeE x)
def K2(x:js)(y:Int):bB:=(aV (aj y 0) (aQ x (w (y-1)) λA=>ab (aj A.1 5))).bind λI=>bif I then aQ x y λJ=>ab (aj J.1 1)else aQ x y λU=>(aV (!aj U.1 5) (aQ x (w (y-1)) λZ=>ab !aj Z.1 1)).bind λa=>ab a
def To(x:cr):Option rP:=ab (x.2.1,x.2.2.1,x.2.2.2.1,())
def oS(x:aJ):bB:=(aF (ai (-1048576) x.1) (ab (ai x.1 1048576))).bind λA=>(aF A (ab (ai (-1048576) x.2.1))).bind λI=>(aF I (ab (ai x.2.1 1048576))).bind λJ=>ab J
def K3(x:js)(y:Int):b8:=aQ x y λe=>(K1 e.1).bind λA=>bif ak A 0 then ab 2 else(K2 x y).bind λf=>bif !f then ab 10 else aQ x y λg=>(To g).bind λI=>(aF (ak 0 A) ((oS I.1).bind λh=>ab !h)).bind λi=>(aV i ((aF (ai A 0) (ab !cu (Ty.st 2 ((Ty.int .i64).cn ((Ty.int .i64).cn Ty.nl))) I.1 (0,0,()))).bind λj=>ab j)).bind λk=>bif k then ab 6 else(aF (ak 1 A) ((oS I.2.1).bind λl=>ab !l)).bind λJ=>(aV J ((aF (ai A 1) (ab !cu (Ty.st 2 ((Ty.int .i64).cn ((Ty.int .i64).cn Ty.nl))) I.2.1 (0,0,()))).bind λU=>ab U)).bind λZ=>bif Z then ab 6 else(aF (ak 2 A) ((oS I.2.2.1).bind λa=>ab !a)).bind λb=>(aV b ((aF (ai A 2) (ab !cu (Ty.st 2 ((Ty.int .i64).cn ((Ty.int .i64).cn Ty.nl))) I.2.2.1 (0,0,()))).bind λc=>ab c)).bind λd=>bif d then ab 6 else ab 0
def Tn(x:js)(A:aR):GK:=bif ak A.1.1 ↑x.length then(K3 x A.1.1).bind λI=>bif !aj I 0 then ay (I,A.1.1,())else aB ((w (A.1.1+1),()),(),())else ay (0,0,())
def K0(x:js):jr:=bif ak 256 ↑x.length then ab (5,256,())else aA (Tn x) ((0,()),(),())
def A3(x:js):bB:=(K0 x).bind λA=>ab (aj A.1 0)
def Fl(x:Int):bB:=(aV (aj x 1) (ab (aj x 2))).bind λA=>ab A
def Fj(x:cj):bB:=(aF (aj (↑x.2.2.2.2.2.2.2.2.2.2.1.length) 0) (ab (aj x.2.2.2.2.2.2.2.2.2.2.2.1 0))).bind λA=>(aF A (ab (aj (↑x.2.2.2.2.2.2.2.2.2.2.2.2.1.length) 0))).bind λI=>(aF I (ab (aj (↑x.2.2.2.2.2.2.2.2.2.2.2.2.2.2.1.length) 0))).bind λJ=>ab J
def A5(x:cj):bB:=(aF (aj x.2.2.2.2.2.2.2.2.2.2.2.2.2.1.1 0) (ab (aj x.2.2.2.2.2.2.2.2.2.2.2.2.2.1.2.1 0))).bind λA=>(aF A (ab (aj x.2.2.2.2.2.2.2.2.2.2.2.2.2.1.2.2.1 0))).bind λI=>(aF I (ab (aj x.2.2.2.2.2.2.2.2.2.2.2.2.2.1.2.2.2.1 0))).bind λJ=>(aF J (ab (aj (↑x.2.2.2.2.2.2.2.2.2.2.2.2.2.1.2.2.2.2.1.length) 0))).bind λU=>(aF U (ab (aj x.2.2.2.2.2.2.2.2.2.2.2.2.2.1.2.2.2.2.2.1 0))).bind λZ=>ab Z
def Fi(x:cj):bB:=(aF (aj x.2.2.2.2.2.2.2.2.2.2.2.2.2.2.2.1.1 0) (ab (aj x.2.2.2.2.2.2.2.2.2.2.2.2.2.2.2.1.2.1 0))).bind λA=>(aF A (ab (aj (↑x.2.2.2.2.2.2.2.2.2.2.2.2.2.2.2.1.2.2.1.length) 0))).bind λI=>(aF I (ab (aj x.2.2.2.2.2.2.2.2.2.2.2.2.2.2.2.2.1 0))).bind λJ=>ab J
def Fh(x:cj):bB:=(aF (aj x.2.2.2.2.2.2.1 0) (ab (aj x.2.2.2.2.2.2.2.1 0))).bind λA=>(aF A (ab !x.2.2.2.2.2.2.2.2.1)).bind λI=>(aF I (ab !x.2.2.2.2.2.2.2.2.2.1)).bind λJ=>ab J
def Fk(x:cj):bB:=(aF (aj (↑x.2.2.2.2.1.length) 0) (ab !aj x.2.2.2.2.2.1 0)).bind λc=>(aV c ((aF (ak 0 ↑x.2.2.2.2.1.length) ((Fl x.2.2.2.2.2.1).bind λd=>ab !d)).bind λe=>ab e)).bind λf=>bif f then ab af else bif aj x.2.1 1 then(Fj x).bind λg=>(aF g ((A5 x).bind λh=>ab h)).bind λi=>(aF i ((Fi x).bind λj=>ab j)).bind λk=>ab k else bif aj x.2.1 2 then(Fh x).bind λl=>(aF l ((Fi x).bind λA=>ab A)).bind λI=>ab I else(Fh x).bind λJ=>(aF J ((Fj x).bind λU=>ab U)).bind λZ=>(aF Z ((A5 x).bind λa=>ab a)).bind λb=>ab b
def sL(x y z:Int):bB:=(aF (ai y x) (ab (ai x z))).bind λA=>ab A
def Tr(x:Int):bB:=(sL x 1 16384).bind λA=>ab A
def Tq(x:bq)(A:GN):Option (GN⊕Bool):=bif ak A.1.2.1 ↑x.length then aQ x A.1.2.1 λI=>(sL I 0 1048576).bind λJ=>bif !J then ay af else(aV A.1.1 (aQ x A.1.2.1 λU=>ab (ak 0 U))).bind λZ=>aB ((Z,w (A.1.2.1+1),()),(),())else((aF A.1.1 (ab (ai (↑x.length) 16))).bind λa=>(aF a (ab (aj (Int.tmod ↑x.length 2) 0))).bind λb=>ab b).bind λc=>ay c
def Tp(x:bq):bB:=aA (Tq x) ((aj (↑x.length) 0,0,()),(),())
def K5(x:rI):bB:=(Tr x.1).bind λA=>(aV (!A) ((sL x.2.1 1 3).bind λI=>ab !I)).bind λJ=>(aV J ((sL x.2.2.1 3 5).bind λU=>ab !U)).bind λZ=>bif Z then ab af else(sL x.2.2.2.1 256 65536).bind λa=>(aF a ((Tp x.2.2.2.2.1).bind λb=>ab b)).bind λc=>(aF c ((sL x.2.2.2.2.2.1 0 1048576).bind λd=>ab d)).bind λe=>ab e
def K9(x:eS):bB:=(aF (cu (Ty.st 2 ((Ty.int .i64).cn ((Ty.int .i64).cn Ty.nl))) x.2.2.1 (0,0,())) (ab (cu (Ty.st 2 ((Ty.int .i64).cn ((Ty.int .i64).cn Ty.nl))) x.2.2.2.1 (0,0,())))).bind λA=>(aF A (ab (aj x.2.2.2.2.1 0))).bind λI=>(aF I (ab (aj (↑x.2.2.2.2.2.1.length) 0))).bind λJ=>ab J
def Fg(x:eS):bB:=(aF (aj x.2.2.2.2.2.2.2.1.1 0) (ab (aj x.2.2.2.2.2.2.2.1.2.1 0))).bind λA=>(aF A (ab (aj (↑x.2.2.2.2.2.2.2.1.2.2.1.length) 0))).bind λI=>(aF I (ab (aj x.2.2.2.2.2.2.2.2.1 0))).bind λJ=>ab J
def E9(x:bN):rO:=(jz x.1).bind λA=>(jz x.2.1).bind λI=>(jz x.2.2.1).bind λJ=>(jz x.2.2.2.1).bind λU=>(jz x.2.2.2.2.1).bind λZ=>(jz x.2.2.2.2.2.1).bind λa=>ab (A,I,J,U,Z,a,())
def Tk(x y:DZ)(A:aR):jN:=bif ak A.1.1 ↑x.2.1.length then aQ x.2.1 A.1.1 λI=>aQ y.2.1 A.1.1 λJ=>bif !aj I J then ay af else aB ((w (A.1.1+1),()),(),())else ay ag
def xx(x y:DZ):bB:=(aV (!cu Ty.bool x.1 y.1) (ab !aj ↑x.2.1.length ↑y.2.1.length)).bind λA=>bif A then ab af else aA (Tk x y) ((0,()),(),())
def KS(x y:DQ):bB:=(xx x.1 y.1).bind λA=>(aF A ((xx x.2.1 y.2.1).bind λI=>ab I)).bind λJ=>ab J
def Tj(x y:dO)(A:aR):jN:=bif ak A.1.1 ↑x.length then aQ x A.1.1 λI=>aQ y A.1.1 λJ=>(KS I J).bind λU=>bif !U then ay af else aB ((w (A.1.1+1),()),(),())else ay ag
def E7(x y:dO):bB:=bif !aj ↑x.length ↑y.length then ab af else aA (Tj x y) ((0,()),(),())
def Tl(x y:bN):bB:=(A1 x).bind λA=>(A1 y).bind λI=>(E7 A I).bind λJ=>ab J
def A2(x y:bN):bB:=(E9 x).bind λA=>(E9 y).bind λI=>(Tl A I).bind λJ=>ab J
def Tu(x:bN):bB:=(A2 x (((af,[],()),(af,[],()),()),((af,[],()),(af,[],()),()),((af,[],()),(af,[],()),()),((af,[],()),(af,[],()),()),((af,[],()),(af,[],()),()),((af,[],()),(af,[],()),()),())).bind λA=>ab A
def Fe(x:yV)(A:aR):jN:=bif ak A.1.1 ↑x.length then aQ x A.1.1 λI=>(aV (ak I.1 0) (aQ x A.1.1 λJ=>ab (ak 65536 J.1))).bind λU=>(aV U ((aF (ak 0 A.1.1) (aQ x A.1.1 λZ=>aQ x (w (A.1.1-1)) λa=>ab (ak Z.1 a.1))).bind λb=>ab b)).bind λc=>bif c then ay af else aB ((w (A.1.1+1),()),(),())else((aF (ai 1 ↑x.length) (ab (ai (↑x.length) 16))).bind λd=>ab d).bind λe=>ay e
def Fc(x:yV):bB:=aA (Fe x) ((0,()),(),())
def A4(x:Int):bB:=(aF (ai 1 x) (ab (ai x 3))).bind λA=>ab A
def Tt(x y:Int):bB:=(aF (ai 1 x) (ab (ai x 4096))).bind λA=>(aF A (ab (ai 1 y))).bind λI=>(aF I (ab (ai y 4096))).bind λJ=>(aF J (ab (ai (w (x*y)) 65536))).bind λU=>ab U
def K6(x:ph):bB:=(aF (ai x.1 x.2.2.2.1) (ab (ai x.2.1 x.2.2.2.1))).bind λA=>(aF A (ab (ai x.2.2.1 x.2.2.2.1))).bind λI=>ab I
def K7(x:nC)(A:aR):jN:=bif ak A.1.1 ↑x.2.2.1.length then aQ x.2.2.1 A.1.1 λI=>(K6 I).bind λJ=>bif !J then ay af else aB ((w (A.1.1+1),()),(),())else ay ag
def Ff(x:nC):bB:=(Tt x.1 x.2.1).bind λA=>(aV (!A) (ab !aj (↑x.2.2.1.length) (w (x.1*x.2.1)))).bind λI=>bif I then ab af else aA (K7 x) ((0,()),(),())
def K8(x:eS):bB:=bif aj x.1 1 then(K9 x).bind λw=>(aF w ((Fg x).bind λy=>ab y)).bind λz=>(aF z (ab (aj x.2.2.2.2.2.2.1 0))).bind λB=>(aF B ((Tu x.2.2.2.2.2.2.2.2.2.1).bind λC=>ab C)).bind λD=>ab D else bif aj x.1 2 then(Fg x).bind λE=>(aF E (ab (cu (Ty.st 4 ((Ty.int .u8).cn ((Ty.int .u8).cn ((Ty.int .u8).cn ((Ty.int .u8).cn Ty.nl))))) x.2.1 (0,0,0,0,())))).bind λF=>(aF F (ab (aj x.2.2.2.2.1 0))).bind λG=>(aF G ((oS x.2.2.1).bind λH=>ab H)).bind λA=>(aF A ((oS x.2.2.2.1).bind λI=>ab I)).bind λJ=>(aF J ((Fc x.2.2.2.2.2.1).bind λU=>ab U)).bind λZ=>(aF Z ((A4 x.2.2.2.2.2.2.1).bind λa=>ab a)).bind λb=>ab b else bif aj x.1 3 then(Fg x).bind λc=>(aF c (ab (cu (Ty.st 4 ((Ty.int .u8).cn ((Ty.int .u8).cn ((Ty.int .u8).cn ((Ty.int .u8).cn Ty.nl))))) x.2.1 (0,0,0,0,())))).bind λd=>(aF d (ab (cu (Ty.st 2 ((Ty.int .i64).cn ((Ty.int .i64).cn Ty.nl))) x.2.2.2.1 (0,0,())))).bind λe=>(aF e ((oS x.2.2.1).bind λf=>ab f)).bind λg=>(aF g (ab (ai 1 x.2.2.2.2.1))).bind λh=>(aF h (ab (ai x.2.2.2.2.1 1048576))).bind λi=>(aF i ((Fc x.2.2.2.2.2.1).bind λj=>ab j)).bind λk=>(aF k ((A4 x.2.2.2.2.2.2.1).bind λl=>ab l)).bind λm=>ab m else aF (aj x.1 4) ((K9 x).bind λn=>(aF n (ab (cu (Ty.st 4 ((Ty.int .u8).cn ((Ty.int .u8).cn ((Ty.int .u8).cn ((Ty.int .u8).cn Ty.nl))))) x.2.1 (0,0,0,0,())))).bind λo=>(aF o ((Ff x.2.2.2.2.2.2.2.1).bind λp=>ab p)).bind λq=>(aF q ((aV (aj x.2.2.2.2.2.2.1 0) ((A4 x.2.2.2.2.2.2.1).bind λr=>ab r)).bind λs=>ab s)).bind λt=>(aF t ((aV (aj x.2.2.2.2.2.2.2.2.1 1) (ab (aj x.2.2.2.2.2.2.2.2.1 2))).bind λu=>ab u)).bind λv=>ab v)
def La(x:eS):bB:=(Fa x.2.2.2.2.2.2.2.2.2.1).bind λA=>(aV (!A) ((K8 x).bind λI=>ab !I)).bind λJ=>bif J then ab af else(aV (aj x.1 1) ((xA x.2.2.2.2.2.2.2.2.2.1).bind λU=>(oR 0).bind λZ=>(xw U Z).bind λa=>ab !aj a 0)).bind λb=>ab b
def Tw(x:List eS)(A:aR):jN:=bif ak A.1.1 ↑x.length then aQ x A.1.1 λI=>(La I).bind λJ=>bif !J then ay af else aB ((w (A.1.1+1),()),(),())else ay ag
def Ld(x:List eS):bB:=aA (Tw x) ((0,()),(),())
def Lc(x:cj):b8:=(A3 x.2.2.2.2.2.2.2.2.2.2.1).bind λA=>bif !A then ab 10 else(Fl x.2.2.2.2.2.2.2.2.2.2.2.1).bind λI=>bif !I then ab 2 else(aV (ak 1 ↑x.2.2.2.2.2.2.2.2.2.2.2.2.1.length) (ab (ak 1 ↑x.2.2.2.2.2.2.2.2.2.2.2.2.2.2.1.length))).bind λJ=>bif J then ab 5 else(aF (ak 0 ↑x.2.2.2.2.2.2.2.2.2.2.2.2.2.2.1.length) ((K5 x.2.2.2.2.2.2.2.2.2.2.2.2.2.1).bind λU=>ab !U)).bind λZ=>bif Z then ab 13 else(aF (aj (↑x.2.2.2.2.2.2.2.2.2.2.2.2.2.2.1.length) 0) ((A5 x).bind λa=>ab !a)).bind λb=>bif b then ab 17 else(Ld x.2.2.2.2.2.2.2.2.2.2.2.2.1).bind λc=>(aV (!c) ((Ld x.2.2.2.2.2.2.2.2.2.2.2.2.2.2.1).bind λd=>ab !d)).bind λe=>bif e then ab 16 else ab 0
def Ts(x:Int):bB:=(aF (ai 1 x) (ab (ai x 13))).bind λA=>ab A
def Tv(x:cj)(Z:tF):b8:=bif aj x.2.1 2 then(Lc x).bind λA=>ab A else bif aj x.2.1 1 then(Ts x.2.2.2.2.2.2.2.1).bind λI=>bif !I then ab 2 else ab 0 else(Ff x.2.2.2.2.2.2.2.2.2.2.2.2.2.2.2.1).bind λJ=>bif !J then ab 16 else(aF (!aj x.2.2.2.2.2.2.2.2.2.2.2.2.2.2.2.2.1 1) (ab !aj x.2.2.2.2.2.2.2.2.2.2.2.2.2.2.2.2.1 2)).bind λU=>bif U then ab 2 else ab 0
def Lb(x:cj):b8:=bt ((aV (ak x.2.1 1) (ab (ak 3 x.2.1))).bind λA=>bif A then ay 2 else(aV (ak x.1 1) (ab (ak 1073741824 x.1))).bind λI=>(aV I (ab (ak x.2.2.1 0))).bind λJ=>(aV J (ab (ai 8 x.2.2.1))).bind λU=>bif U then ay 6 else(Fa x.2.2.2.1).bind λZ=>bif !Z then ay 5 else(xA x.2.2.2.1).bind λa=>(oR 0).bind λb=>(xw a b).bind λc=>bif aj c 0 then ay 9 else(A3 x.2.2.2.2.1).bind λd=>bif !d then ay 10 else(Fk x).bind λe=>bif !e then ay 17 else aB ((),(),())) (Tv x)
def Fo(x:tH)(y:Int)(A:aR):yP:=bif ak A.1.1 ↑x.length then aQ x A.1.1 λI=>bif aj I.1 y then ay A.1.1 else aB ((w (A.1.1+1),()),(),())else ay (-1)
def Tx(x:tH)(y:Int):b8:=aA (Fo x y) ((0,()),(),())
def Lg(x:tH)(y:Int):bB:=bif aj y 0 then aQ x y λA=>ab (aj A.2.2.1 0)else aQ x (w (y-1)) λI=>(aF (aj I.2.1 1) (aQ x y λJ=>aQ x (w (y-1)) λU=>ab (aj J.2.2.1 (w (U.2.2.1+1))))).bind λZ=>aV Z (aQ x y λa=>aQ x (w (y-1)) λb=>ab (ai a.2.2.1 b.2.2.1))
def Fq(x:tH)(y:Int):b8:=aQ x y λI=>(Lb I).bind λA=>bif !aj A 0 then ab A else aT (ai 0 y&&ai y ↑x.length) (aQ x y λJ=>(Tx (aY (y.toNat-0) (BW 0 x)) J.1).bind λU=>bif ai 0 U then ab 7 else(Lg x y).bind λZ=>bif !Z then ab 17 else ab 0)
def Fm(x:cz)(A:aR):GK:=bif ak A.1.1 ↑x.2.2.2.1.length then(Fq x.2.2.2.1 A.1.1).bind λI=>bif !aj I 0 then ay (I,A.1.1,())else aB ((w (A.1.1+1),()),(),())else ay (0,0,())
def Le(x:cz):jr:=(aV (ak x.1 1) (ab (ak 256 x.1))).bind λA=>(aV A (ab (ak x.2.1 1))).bind λI=>(aV I (ab (ak 256 x.2.1))).bind λJ=>bif J then ab (6,0,())else bif ak 64 ↑x.2.2.2.1.length then ab (5,64,())else aA (Fm x) ((0,()),(),())
def Lh(x:cz):bB:=(Le x).bind λA=>ab (aj A.1 0)
def Lf(x:cz)(y:Int):bB:=(Lh x).bind λA=>(aF A (ab (ai 0 y))).bind λI=>(aF I (ab (ak y ↑x.2.2.2.1.length))).bind λJ=>ab J
def at6(x:tH)(y:Int)(A:aR):yP:=bif ai 0 A.1.1 then aQ x A.1.1 λI=>aQ x y λJ=>bif aj I.2.2.1 (w (J.2.2.1-1))then ay A.1.1 else aB ((w (A.1.1-1),()),(),())else ay (-1)
def aeG(x:tH)(y:Int):b8:=aA (at6 x y) ((w (y-1),()),(),())
def aeD(x y z u:Int)(v w:DQ):rO:=(oR x).bind λA=>(oR y).bind λI=>(oR z).bind λJ=>(oR u).bind λU=>(jz v).bind λZ=>(jz w).bind λa=>ab (A,I,J,U,Z,a,())
def at5:rO:=(aeD 1 0 0 1 ((af,[],()),(af,[],()),()) ((af,[],()),(af,[],()),())).bind λA=>ab A
def aeF(x y:lP)(A:aR):jN:=bif ak A.1.1 ↑x.2.1.length then aQ x.2.1 A.1.1 λI=>aQ y.2.1 A.1.1 λJ=>bif !aj I J then ay af else aB ((w (A.1.1+1),()),(),())else ay ag
def Fb(x y:lP):bB:=(aV (!cu (Ty.st 4 ((Ty.int .i64).cn ((Ty.int .i64).cn ((Ty.int .i64).cn ((Ty.int .i64).cn Ty.nl))))) x.1 y.1) (ab !aj ↑x.2.1.length ↑y.2.1.length)).bind λA=>bif A then ab af else aA (aeF x y) ((0,()),(),())
def Be(x:cz)(A:tC):Nb:=bif ai 0 A.1.2.1 then aT (bZ ([A.1.2.1].length+A.1.1.length) 8) ((pZ x.2.2.2.1 A.1.2.1).bind λI=>aB ((cH [A.1.2.1] A.1.1,I,()),(),()))else ay A.1.1
def LD(x:cz)(y:Int):jq:=(FH x y).bind λA=>bif !A then ab []else aA (Be x) (([],y,()),(),())
def JH(x:lP):bB:=(uS x.1).bind λA=>(pX x.1).bind λI=>(aF (cu (Ty.st 4 ((Ty.int .i64).cn ((Ty.int .i64).cn ((Ty.int .i64).cn ((Ty.int .i64).cn Ty.nl))))) I x.1) (ab (ai A 65536))).bind λJ=>(aF J (ab (aj (↑x.2.1.length) A))).bind λU=>ab U
def RA(x:lP):bB:=(JH x).bind λA=>ab !A
def abN(x:tG)(A:aR):jN:=bif ak A.1.1 ↑x.length then aQ x A.1.1 λI=>(RA I).bind λJ=>bif J then ay !ai 0 A.1.1 else aB ((w (A.1.1+1),()),(),())else ay ag
def JI(x:tG):bB:=aA (abN x) ((0,()),(),())
def Ln(x y:bu):yW:=(pX x).bind λA=>(pX y).bind λI=>(pX (bif ai A.1 I.1 then I.1 else A.1,bif ai A.2.1 I.2.1 then I.2.1 else A.2.1,bif ai A.2.2.1 I.2.2.1 then A.2.2.1 else I.2.2.1,bif ai A.2.2.2.1 I.2.2.2.1 then A.2.2.2.1 else I.2.2.2.1,())).bind λJ=>ab J
def Eb(x:lP)(y z:Int):b8:=(Fw x.1 y z).bind λA=>bif ak A 0 then ab 0 else aQ x.2.1 A λI=>ab I
def zY(x:Int):b8:=bif ak x 0 then ab (wu (0-wu x))else ab (wu x)
def Hd(x y:Int):jr:=ab (wu (wu (wu (x.fdiv 4294967296*y.fdiv 4294967296)+(wu (wu (x.fdiv 4294967296*wu ↑((word .u64 y).land 4294967295))+(wu (wu ↑((word .u64 x).land 4294967295)*wu ↑((word .u64 y).land 4294967295))).fdiv 4294967296)).fdiv 4294967296)+(wu (wu ↑((word .u64 (wu (wu (x.fdiv 4294967296*wu ↑((word .u64 y).land 4294967295))+(wu (wu ↑((word .u64 x).land 4294967295)*wu ↑((word .u64 y).land 4294967295))).fdiv 4294967296))).land 4294967295)+wu (wu ↑((word .u64 x).land 4294967295)*y.fdiv 4294967296))).fdiv 4294967296),wu (x*y),())
def WO(x:Int):b8:=(Hc x).bind λA=>ab (w (64-A))
def ajL(y z I:Int)(A:eE):Option (eE⊕aR⊕aJ):=(aV (ai 4294967296 A.1.1) (ab (ak (wu (wu (4294967296*A.1.2.1)+(wu (y*↑(2^(wu I).toNat.min 64))).fdiv 4294967296)) (wu (A.1.1*wu ↑((word .u64 (wu (z*↑(2^(wu I).toNat.min 64)))).land 4294967295)))))).bind λJ=>bif J then bif ai 4294967296 (wu (A.1.2.1+(wu (z*↑(2^(wu I).toNat.min 64))).fdiv 4294967296))then ay (bb ((wu (A.1.1-1),()),(),()))else aB ((wu (A.1.1-1),wu (A.1.2.1+(wu (z*↑(2^(wu I).toNat.min 64))).fdiv 4294967296),()),(),())else ay (bb ((A.1.1,()),(),()))
def ajM(y z I:Int)(A:eE):Option (eE⊕aR⊕aJ):=(aV (ai 4294967296 A.1.2.1) (ab (ak (wu (wu (4294967296*A.1.1)+wu ↑((word .u64 (wu (y*↑(2^(wu I).toNat.min 64)))).land 4294967295))) (wu (A.1.2.1*wu ↑((word .u64 (wu (z*↑(2^(wu I).toNat.min 64)))).land 4294967295)))))).bind λJ=>bif J then bif ai 4294967296 (wu (A.1.1+(wu (z*↑(2^(wu I).toNat.min 64))).fdiv 4294967296))then ay (bb ((wu (A.1.2.1-1),()),(),()))else aB ((wu (A.1.1+(wu (z*↑(2^(wu I).toNat.min 64))).fdiv 4294967296),wu (A.1.2.1-1),()),(),())else ay (bb ((A.1.2.1,()),(),()))
def ajN(x y z A:Int)(I J:aR):jr:=ab (wu (wu (I.1.1*4294967296)+J.1.1),(wu (wu (wu (wu (wu (wu (wu ↑((word .u64 (wu (x*↑(2^(wu A).toNat.min 64)))).lor (word .u64 (y.fdiv ↑(2^(wu (64-wu A)).toNat.min 64))))*4294967296)+(wu (y*↑(2^(wu A).toNat.min 64))).fdiv 4294967296)-wu (I.1.1*wu (z*↑(2^(wu A).toNat.min 64))))*4294967296)+wu ↑((word .u64 (wu (y*↑(2^(wu A).toNat.min 64)))).land 4294967295))-wu (J.1.1*wu (z*↑(2^(wu A).toNat.min 64))))).fdiv ↑(2^(wu A).toNat.min 64),())
def ajO(x y z A:Int)(I:aR):jr:=kv ((wu (z*↑(2^(wu A).toNat.min 64))).fdiv 4294967296) (bt (aA (ajM y z A) ((wu (wu (wu (wu (wu ↑((word .u64 (wu (x*↑(2^(wu A).toNat.min 64)))).lor (word .u64 (y.fdiv ↑(2^(wu (64-wu A)).toNat.min 64))))*4294967296)+(wu (y*↑(2^(wu A).toNat.min 64))).fdiv 4294967296)-wu (I.1.1*wu (z*↑(2^(wu A).toNat.min 64))))-wu (wu ((wu (wu (wu (wu ↑((word .u64 (wu (x*↑(2^(wu A).toNat.min 64)))).lor (word .u64 (y.fdiv ↑(2^(wu (64-wu A)).toNat.min 64))))*4294967296)+(wu (y*↑(2^(wu A).toNat.min 64))).fdiv 4294967296)-wu (I.1.1*wu (z*↑(2^(wu A).toNat.min 64))))).tdiv ((wu (z*↑(2^(wu A).toNat.min 64))).fdiv 4294967296))*(wu (z*↑(2^(wu A).toNat.min 64))).fdiv 4294967296)),wu ((wu (wu (wu (wu ↑((word .u64 (wu (x*↑(2^(wu A).toNat.min 64)))).lor (word .u64 (y.fdiv ↑(2^(wu (64-wu A)).toNat.min 64))))*4294967296)+(wu (y*↑(2^(wu A).toNat.min 64))).fdiv 4294967296)-wu (I.1.1*wu (z*↑(2^(wu A).toNat.min 64))))).tdiv ((wu (z*↑(2^(wu A).toNat.min 64))).fdiv 4294967296)),()),(),())) (ajN x y z A I))
def WM(x y z:Int)(I:tF):jr:=bif aj x 0 then kv z (kv z (ab (wu (y.tdiv z),y.tmod z,())))else(WO z).bind λA=>kv ((wu (z*↑(2^(wu A).toNat.min 64))).fdiv 4294967296) (bt (aA (ajL y z A) ((wu ((wu ↑((word .u64 (wu (x*↑(2^(wu A).toNat.min 64)))).lor (word .u64 (y.fdiv ↑(2^(wu (64-wu A)).toNat.min 64))))).tdiv ((wu (z*↑(2^(wu A).toNat.min 64))).fdiv 4294967296)),wu (wu ↑((word .u64 (wu (x*↑(2^(wu A).toNat.min 64)))).lor (word .u64 (y.fdiv ↑(2^(wu (64-wu A)).toNat.min 64))))-wu (wu ((wu ↑((word .u64 (wu (x*↑(2^(wu A).toNat.min 64)))).lor (word .u64 (y.fdiv ↑(2^(wu (64-wu A)).toNat.min 64))))).tdiv ((wu (z*↑(2^(wu A).toNat.min 64))).fdiv 4294967296))*(wu (z*↑(2^(wu A).toNat.min 64))).fdiv 4294967296)),()),(),())) (ajO x y z A))
def WN(x y z:Int)(A:tF):jr:=bt (bif ai z x then ae else aB ((),(),())) (WM x y z)
def Hb(x y z:Int):jr:=bt (kv z (aB ((),(),()))) (WN x y z)
def I3(x:Int×aJ):yQ:=bif ai x.2.2.1 x.1 then ab (0,af,())else(Hb x.1 x.2.1 x.2.2.1).bind λA=>bif ai (wu (x.2.2.1-A.2.1)) A.2.1 then ab (wu (A.1+1),!aj (wu (A.1+1)) 0,())else ab (A.1,ag,())
def QG(A:Int×jM)(I:tF):yQ:=ab (w A.1,ag,())
def QF(x y z:Int):yQ:=bif aj z 0 then ab (0,af,())else(zY x).bind λJ=>(zY y).bind λU=>(Hd J U).bind λI=>(zY z).bind λZ=>(I3 (I.1,I.2.1,Z,())).bind λA=>bt ((aV (!A.2.1) (ab (ak 9223372036854775808 A.1))).bind λa=>(aV a ((aF (aj A.1 9223372036854775808) (ab !!cu Ty.bool (!cu Ty.bool (ak x 0) (ak y 0)) (ak z 0))).bind λb=>ab b)).bind λc=>bif c then ay (0,af,())else bif !cu Ty.bool (!cu Ty.bool (ak x 0) (ak y 0)) (ak z 0)then ay (w (wu (0-A.1)),ag,())else aB ((),(),())) (QG A)
def QE(x y:Int):b8:=(QF x 1 y).bind λA=>ab A.1
def I2(x y:Int):b8:=(QE (w (w x*w y)) 255).bind λA=>ab (wr .u8 A)
def Ry(x:tG)(b I:oo)(A:eE):Option (eE⊕oo⊕Cj):=bif ak A.1.2.1 ↑(aY (x.length-1) (BW 1 x)).length then aQ (aY (x.length-1) (BW 1 x)) A.1.2.1 λJ=>(Eb J I.1.1 b.1.1).bind λU=>(I2 A.1.1 U).bind λZ=>aB ((Z,w (A.1.2.1+1),()),(),())else(aT (bZ (I.2.1.1.2.1.length+[A.1.1].length) 1) (aB ((w (I.1.1+1),()),((I.2.1.1.1,cH I.2.1.1.2.1 [A.1.1],()),()),()))).bind λa=>ay a
def JF(x:tG)(I A:oo):Option (oo⊕Cj):=bif ak A.1.1 A.2.1.1.1.2.2.1 then x[0]?.bind λJ=>(Eb J A.1.1 I.1.1).bind λU=>aT (ai 1 ↑x.length) (aA (Ry x I A) ((U,0,()),(),()))else ay (bb ((w (I.1.1+1),()),((A.2.1.1.1,A.2.1.1.2.1,()),()),()))
def abM(x:tG)(A:oo):Option Cj:=bif ak A.1.1 A.2.1.1.1.2.2.2.1 then aA (JF x A) ((A.2.1.1.1.1,()),((A.2.1.1.1,A.2.1.1.2.1,()),()),())else ay ((A.2.1.1.1,A.2.1.1.2.1,()),0,())
def Rz(x:tG)(A:dc×(lO×Unit)×Unit):Option (dc×(lO×Unit)×Unit⊕ot):=bif ak A.1.1 ↑x.length then aQ x A.1.1 λU=>(Ln A.2.1.1 U.1).bind λZ=>aB ((w (A.1.1+1),()),(Z,()),())else((pX A.2.1.1).bind λJ=>aA (abM x) ((J.2.1,()),((J,[],()),()),())).bind λI=>ay I
def JE(x:tG):yU:=(JI x).bind λA=>bif !A then ab (((0,0,0,0,()),[],()),14,())else bif aj (↑x.length) 0 then ab (((0,0,0,0,()),[],()),0,())else x[0]?.bind λI=>aA (Rz x) ((0,()),(I.1,()),())
def Of(I:bq)(A:V1):Option (V1⊕ot):=bif ak A.1.2.1 ↑I.length then aQ I A.1.2.1 λJ=>(uf A.2.1.1 J).bind λU=>bif !U.2.1 then(Aj A.2.1.2.1 255).bind λZ=>aT (bZ (A.1.1.length+[Z.1].length) 56) (aB ((cH A.1.1 [Z.1],w (A.1.2.1+1),()),(A.2.1.1,A.2.1.2.1,()),()))else aQ A.2.1.1.2.2.2.1 J λc=>(zm U.1 c.2.2.2.2.2.1 A.2.1.2.1).bind λa=>aT (bZ (A.1.1.length+[a.1].length) 56) (aB ((cH A.1.1 [a.1],w (A.1.2.1+1),()),(A.2.1.1,A.2.1.2.1,()),()))else((JE A.1.1).bind λb=>ab (b.1,b.2.1,())).bind λd=>ay d
def v5(x:cz)(y:Int)(z:bu):yU:=(CT x y z).bind λA=>bif !aj A 0 then ab (((0,0,0,0,()),[],()),A,())else(LD x y).bind λI=>aA (Of I) (([],0,()),(x,z,()),())
def KV(x y:bu):yW:=(A0 x).bind λA=>(aV A ((A0 y).bind λI=>ab I)).bind λJ=>bif J then ab (0,0,0,0,())else(sK (bif ai x.1 y.1 then y.1 else x.1,bif ai x.2.1 y.2.1 then y.2.1 else x.2.1,bif ai x.2.2.1 y.2.2.1 then x.2.2.1 else y.2.2.1,bif ai x.2.2.2.1 y.2.2.2.1 then x.2.2.2.1 else y.2.2.2.1,())).bind λU=>ab U
def Fp(x:cz)(y:Int):b8:=(Lf x y).bind λA=>bif !A then ab (-1)else(aeG x.2.2.2.1 y).bind λI=>ab I
def K4(x:lP):bB:=(sK x.1).bind λA=>(aF (cu (Ty.st 4 ((Ty.int .i64).cn ((Ty.int .i64).cn ((Ty.int .i64).cn ((Ty.int .i64).cn Ty.nl))))) A x.1) ((xy x.1).bind λI=>ab (ai I 65536))).bind λJ=>(aF J ((xy x.1).bind λU=>ab (aj (↑x.2.1.length) U))).bind λZ=>ab Z
def E8(x:bu)(y z:Int):bB:=(sK x).bind λA=>(aF (ai A.1 y) (ab (ak y A.2.2.1))).bind λI=>(aF I (ab (ai A.2.1 z))).bind λJ=>(aF J (ab (ak z A.2.2.2.1))).bind λU=>ab U
def KW(x:bu)(y z:Int):b8:=(E8 x y z).bind λA=>bif !A then ab (-1)else ab (w (w (w (w (z-x.2.1)*w (x.2.2.1-x.1))+y)-x.1))
def pW(x:lP)(y z:Int):b8:=(K4 x).bind λA=>(aV (!A) ((E8 x.1 y z).bind λI=>ab !I)).bind λJ=>bif J then ab 0 else(KW x.1 y z).bind λU=>aQ x.2.1 U λZ=>ab Z
def KU(x y:Int):b8:=ab (wr .u8 (w ((w (w (w (2*w x)*w y)+255)).tdiv 510)))
def aby(p q:ot)(a:lO)(U b:ot)(c:Int)(Z:oo)(I A:aR):Option (aR⊕aR⊕Bool):=bif ak A.1.1 a.2.2.1 then(pW p.1 A.1.1 I.1.1).bind λJ=>(pW q.1 A.1.1 I.1.1).bind λd=>(aV (!aj J d) ((pW U.1 A.1.1 I.1.1).bind λe=>(pW b.1 A.1.1 I.1.1).bind λf=>ab !aj e f)).bind λg=>(aV g ((pW U.1 A.1.1 I.1.1).bind λh=>ab (ak h J))).bind λi=>(aV i ((pW Z.2.1.1 A.1.1 I.1.1).bind λj=>ab (ak j J))).bind λk=>bif k then ay (cy af)else(aF (!ak c 0) ((pW Z.2.1.1 A.1.1 I.1.1).bind λl=>(pW U.1 A.1.1 I.1.1).bind λm=>(KU l m).bind λn=>ab !aj J n)).bind λo=>bif o then ay (cy af)else aB ((w (A.1.1+1),()),(),())else ay (bb ((w (I.1.1+1),()),(),()))
def Rk(d e:ot)(A:lO)(J U:ot)(Z:Int)(a:oo)(I:aR):jN:=bif ak I.1.1 A.2.2.2.1 then aA (aby d e A J U Z a I) ((A.1,()),(),())else(De.bind λb=>ab b).bind λc=>ay c
def Rl(f g:ot)(I:lO)(A J:ot)(U:Int)(Z:oo):bB:=(aV (!aj A.2.1 0) (ab !aj J.2.1 0)).bind λa=>(aV a (ab !aj Z.1.1 0)).bind λb=>(aV b ((aF (ak U 0) ((Fb f.1 A.1).bind λc=>ab !c)).bind λd=>ab d)).bind λe=>bif e then ab af else aA (Rk f g I A J U Z) ((I.2.1,()),(),())
def Rj(x:cz)(y:Int)(z:bu×bu×Unit):bB:=(Rm x).bind λk=>(aV (!k) ((D4 z.1).bind λl=>ab !l)).bind λm=>(aV m ((D4 z.2.1).bind λn=>ab !n)).bind λo=>bif o then De.bind λp=>ab p else(v5 x y z.1).bind λA=>(v5 x y z.2.1).bind λI=>(aV (!aj A.2.1 0) (ab !aj I.2.1 0)).bind λq=>bif q then(aV (aj A.2.1 0) (ab (aj (↑A.1.2.1.length) 0))).bind λr=>(aF r ((aV (aj I.2.1 0) (ab (aj (↑I.1.2.1.length) 0))).bind λa=>ab a)).bind λb=>(aF b (De.bind λc=>ab c)).bind λd=>ab d else(sK z.1).bind λe=>(aV (!cu (Ty.st 4 ((Ty.int .i64).cn ((Ty.int .i64).cn ((Ty.int .i64).cn ((Ty.int .i64).cn Ty.nl))))) A.1.1 e) ((sK z.2.1).bind λf=>ab !cu (Ty.st 4 ((Ty.int .i64).cn ((Ty.int .i64).cn ((Ty.int .i64).cn ((Ty.int .i64).cn Ty.nl))))) I.1.1 f)).bind λg=>bif g then ab af else(KV A.1.1 I.1.1).bind λh=>(zk x y z.1).bind λJ=>(zk x y z.2.1).bind λi=>(Fp x y).bind λU=>bt (bif !ak U 0 then(Fp x y).bind λj=>(v5 x j z.1).bind λZ=>aB ((Z.2.1,()),(Z.1,()),())else aB ((0,()),(J.1,()),())) (Rl A I h J i U)
end
end Go.Proofs.YtlfolhmfdmcmiaaGreatDoor
end
