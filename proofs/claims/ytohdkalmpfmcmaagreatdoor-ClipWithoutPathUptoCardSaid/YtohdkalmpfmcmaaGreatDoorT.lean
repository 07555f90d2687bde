/- A part of the proof. -/
import Derived.Test.YtohdkalmpfmcmaaGreatDoorS2
set_option linter.all false
open Bool renaming false->af,true->ag
open Int renaming ofNat->aE,toNat->nn
open List renaming drop->BN,replicate->bP,take->aY
open Option renaming none->ae,some->ab
open Sum renaming inl->bb,inr->cF
noncomputable section
namespace Go.Proofs.YtohdkalmpfmcmaaGreatDoor
open Go.As
section
abbrev DZ:=Bool×(List Int)×Unit
abbrev DQ:=DZ×DZ×Unit
abbrev bQ:=DQ×DQ×DQ×DQ×DQ×DQ×Unit
abbrev od:=Int×Int×Int×Int×Unit
abbrev aJ:=Int×Int×Unit
abbrev ct:=Int×aJ×aJ×aJ×Unit
abbrev pe:=Int×od×Unit
abbrev pf:=Int×Int×Int×Int×Unit
abbrev ny:=Int×Int×(List pf)×Unit
abbrev eS:=Int×od×aJ×aJ×Int×(List pe)×Int×ny×Int×bQ×Unit
abbrev rJ:=Int×Int×Int×Int×(List Int)×Int×Unit
abbrev bJ:=Int×Int×Int×bQ×(List ct)×Int×Int×Int×Bool×Bool×(List ct)×Int×(List eS)×rJ×(List eS)×ny×Int×Unit
abbrev bY:=Int×Int×od×(List bJ)×Unit
abbrev bB:=Int×Int×Int×Int×Unit
abbrev fj:=(List aJ)×Bool×Unit
abbrev og:=bB×(List Int)×Unit
abbrev lL:=DQ×DQ×Unit
abbrev iT:Ty:=.int .i64
abbrev tZ:Ty:=.st 2 (.cn .bool (.cn (.an (.int .u32)) .nl))
abbrev tQ:Ty:=.st 4 (.cn tZ (.cn tZ .nl))
abbrev dB:Ty:=.st 24 (.cn tQ (.cn tQ (.cn tQ (.cn tQ (.cn tQ (.cn tQ .nl))))))
abbrev LR:Ty:=.st 4 (.cn (.int .u8) (.cn (.int .u8) (.cn (.int .u8) (.cn (.int .u8) .nl))))
abbrev aZ:Ty:=.st 2 (.cn iT (.cn iT .nl))
abbrev jB:Ty:=.st 7 (.cn iT (.cn aZ (.cn aZ (.cn aZ .nl))))
abbrev FO:Ty:=.st 5 (.cn iT (.cn LR .nl))
abbrev u7:Ty:=.st 4 (.cn (.int .u8) (.cn (.int .u8) (.cn (.int .u8) (.cn (.int .u8) .nl))))
abbrev Bh:Ty:=.st 3 (.cn iT (.cn iT (.cn (.an u7) .nl)))
abbrev kR:Ty:=.st 40 (.cn iT (.cn LR (.cn aZ (.cn aZ (.cn iT (.cn (.an FO) (.cn iT (.cn Bh (.cn iT (.cn dB .nl))))))))))
abbrev FP:Ty:=.st 6 (.cn iT (.cn iT (.cn iT (.cn iT (.cn (.an iT) (.cn iT .nl))))))
abbrev iQ:Ty:=.st 47 (.cn iT (.cn iT (.cn iT (.cn dB (.cn (.an jB) (.cn iT (.cn (.int .u8) (.cn iT (.cn .bool (.cn .bool (.cn (.an jB) (.cn iT (.cn (.an kR) (.cn FP (.cn (.an kR) (.cn Bh (.cn iT .nl)))))))))))))))))
abbrev gy:Ty:=.st 7 (.cn iT (.cn iT (.cn LR (.cn (.an iQ) .nl))))
abbrev eQ:Ty:=.st 4 (.cn iT (.cn iT (.cn iT (.cn iT .nl))))
abbrev LS:Ty:=.st 2 (.cn (.an aZ) (.cn .bool .nl))
abbrev nf:Ty:=.st 5 (.cn eQ (.cn (.an (.int .u8)) .nl))
abbrev fF:Ty:=.st 8 (.cn tQ (.cn tQ .nl))
abbrev dc:=Int×Unit
abbrev fS:=Unit×Unit
abbrev aS:=dc×fS
abbrev bq:=List Int
abbrev dM:=List DQ
abbrev Gx:=Unit×dM×Unit
abbrev tD:=bq×Unit
abbrev B5:=Unit×tD
abbrev MV:=Int×Int×fS×Unit
abbrev bD:=Option Bool
abbrev qq:=(Bool×fS)×(Bool×fS)×Unit
abbrev hJ:=List aJ
abbrev eC:=List hJ
abbrev cq:=Option Int
abbrev yN:=aJ×aJ×Unit
abbrev qn:=dc×(dM×List yN×Unit)×Unit
abbrev vT:=bq×dc
abbrev oj:=bq×vT
abbrev kY:=dc×Unit×bq×tD
abbrev qo:=dc×(og×Unit)×Unit
abbrev jN:=Bool×Unit
abbrev B2:=dM×Int×MV
abbrev kr:=Option (aS⊕Bool)
abbrev ec:=dc×B5
abbrev eB:=aJ×fS
abbrev B3:=(Int×Int×Int×Bool×jN)×Gx
abbrev qp:=Option (aS⊕aS⊕oj)
abbrev gW:=aJ×Gx
abbrev rN:=dc×(dM×Unit)×Unit
abbrev gG:=dc×Gx
abbrev vO:=DQ×dc
abbrev Ce:=List vO
abbrev yO:=dc×(Ce×Unit)×Unit
abbrev vH:=List (Nat×Int)
abbrev vJ:=(Int×jN)×B2
abbrev vK:=dM×MV
abbrev iq:=Option DQ
abbrev jm:=Option bq
abbrev jo:=Option aJ
abbrev B7:=List fj
abbrev B4:=((B7×fj×Unit)×dc)×fS
abbrev jq:=List ct
abbrev tC:=vT×fS
abbrev yP:=Option (aS⊕aS⊕bq)
abbrev nB:=Option oj
abbrev jO:=aJ×B5
abbrev vQ:=hJ×dc
abbrev tE:=vQ×fS
abbrev Gy:=qq×qq×qq×qq×qq×qq×Unit
abbrev yQ:=og×dc
abbrev yR:=(bq×aJ)×fS
abbrev yS:=dc×dc×dM×Unit
abbrev mB:=Option DZ
abbrev nC:=List lL
abbrev rO:=Unit×vK
abbrev Gz:=Unit×(aJ×Unit)×Unit
abbrev vL:=Option vO
abbrev yT:=Option (aS⊕Int)
abbrev yU:=Option (Int×jN)
abbrev yV:=gW⊕Bool×vK
abbrev Cd:=Unit×B2
abbrev GA:=Option (B3⊕Cd)
abbrev yW:=(eC×dc)×fS
abbrev yX:=vT×B5
abbrev B6:=gW⊕gG⊕vJ
abbrev GB:=dc×(hJ×Unit)×Unit
abbrev rP:=Option bQ
abbrev B9:=gW⊕Int×B2
abbrev GC:=Option (ec⊕oj)
abbrev GD:=Option (gG⊕rO)
abbrev rQ:=aJ×yN
abbrev vM:=Option yQ
abbrev GF:=Option (bq×jN)
abbrev GG:=Option (aS⊕aJ)
abbrev tF:=Unit×fS
abbrev tG:=List og
abbrev GH:=Option (aJ×dc)
abbrev MW:=Option (aS⊕aS⊕Int)
abbrev yY:=qo⊕yQ
abbrev VL:=(vH×dc)×((Int×vH×Unit)×Unit)×Unit
abbrev GI:=(bq×tD)×fS
abbrev GJ:=(Bool×dc)×fS
abbrev GK:=(jq×dc)×fS
abbrev GL:=(nC×dc)×fS
abbrev vP:=tD×fS
abbrev yZ:=List pe
abbrev tH:=List bJ
abbrev MX:=Option (eB⊕Bool)
abbrev MY:=Option (DZ×DZ×dc)
abbrev Ca:=Option vH
abbrev VM:=dc×((B7×fj×Unit)×Unit)×Unit
abbrev MZ:=Option (tC⊕bq)
abbrev M5:=Option (yR⊕bq)
abbrev y4:=B7×dc
abbrev VN:=aJ×(List (Int×Bool)×Unit)×Unit
abbrev VO:=(tG×dc)×(bY×od×Unit)×Unit
abbrev VP:=Option (rN⊕qn⊕qn⊕dM)
abbrev Cb:=Option od
abbrev VQ:=Option (aS⊕aS⊕bq×jN)
abbrev VS:=dc×(eC×Int×DQ×lL)×Unit
abbrev B1:=Unit×Gx
def C5:bD:=ab ag
def abq(x:bQ)(A:aS):kr:=bif ak A.1.1 ↑[x.1,x.2.1,x.2.2.1,x.2.2.2.1,x.2.2.2.2.1,x.2.2.2.2.2.1].length then aN [x.1,x.2.1,x.2.2.1,x.2.2.2.1,x.2.2.2.2.1,x.2.2.2.2.2.1] A.1.1 λI=>(aW (ak 3 ↑I.1.2.1.length) (aN [x.1,x.2.1,x.2.2.1,x.2.2.2.1,x.2.2.2.2.1,x.2.2.2.2.2.1] A.1.1 λJ=>ab (ak 3 ↑J.2.1.2.1.length))).bind λU=>bif U then az af else aB ((w (A.1.1+1),()),(),())else az ag
def DV(x:bQ):bD:=aA (abq x) ((0,()),(),())
def Jk(d:aS)(I:List eS)(A:aS):Option (aS⊕aS⊕eB⊕Bool):=bif ak A.1.1 ↑I.length then aQ I A.1.1 λJ=>(DV J.2.2.2.2.2.2.2.2.2.1).bind λU=>(aW (!U) (aQ I A.1.1 λZ=>ab (ak 100 ↑Z.2.2.2.2.2.2.2.1.2.2.1.length))).bind λa=>(aW a (aQ I A.1.1 λb=>ab (ak 30 ↑b.2.2.2.2.2.1.length))).bind λc=>bif c then az (cF (cF af))else aB ((w (A.1.1+1),()),(),())else az (bb ((w (d.1.1+1),()),(),()))
def Jl(J:eB)(A:bJ)(I:aS):Option (aS⊕eB⊕Bool):=bif ak I.1.1 ↑[A.2.2.2.2.2.2.2.2.2.2.2.2.1,A.2.2.2.2.2.2.2.2.2.2.2.2.2.2.1].length then aN [A.2.2.2.2.2.2.2.2.2.2.2.2.1,A.2.2.2.2.2.2.2.2.2.2.2.2.2.2.1] I.1.1 λU=>aA (Jk I U) ((0,()),(),())else az (bb ((w (J.1.1+bif ai (↑A.2.2.2.2.1.length) 100 then ↑A.2.2.2.2.1.length else 100),w (J.1.2.1+1),()),(),()))
def wX(x:bY)(I:eB):MX:=bif ak I.1.2.1 ↑x.2.2.2.1.length then aQ x.2.2.2.1 I.1.2.1 λA=>(DV A.2.2.2.1).bind λZ=>(aW (!Z) (ab (ak 30 ↑A.2.2.2.2.2.2.2.2.2.2.1.length))).bind λa=>(aW a (ab (ak 2 ↑A.2.2.2.2.2.2.2.2.2.2.2.2.1.length))).bind λb=>(aW b (ab (ak 2 ↑A.2.2.2.2.2.2.2.2.2.2.2.2.2.2.1.length))).bind λc=>(aW c (ab (ak 100 ↑A.2.2.2.2.2.2.2.2.2.2.2.2.2.2.2.1.2.2.1.length))).bind λd=>(aW d (ab (ak 30 ↑A.2.2.2.2.2.2.2.2.2.2.2.2.2.1.2.2.2.2.1.length))).bind λe=>bif e then az af else aA (Jl I A) ((0,()),(),())else((aG (ai (↑x.2.2.2.1.length) 8) (ab (ai I.1.1 24))).bind λJ=>ab J).bind λU=>az U
def Q7(x:bY):bD:=aA (wX x) ((0,0,()),(),())
def xC(x:Int):bD:=(aG (ai (-4096) x) (ab (ai x 4096))).bind λA=>ab A
def E2(x:bB):bD:=(xC x.1).bind λA=>(aG A ((xC x.2.1).bind λI=>ab I)).bind λJ=>(aG J ((xC x.2.2.1).bind λU=>ab U)).bind λZ=>(aG Z ((xC x.2.2.2.1).bind λa=>ab a)).bind λb=>ab b
def KQ(x:bB):bD:=(E2 x).bind λA=>(aW (!A) (ab (ai x.2.2.1 x.1))).bind λI=>(aW I (ab (ai x.2.2.2.1 x.2.1))).bind λJ=>ab J
def E1(x:bB):Cb:=(KQ x).bind λA=>bif A then ab (0,0,0,0,())else ab x
def xB(x:bB):cq:=(E1 x).bind λA=>ab (w (w (A.2.2.1-A.1)*w (A.2.2.2.1-A.2.1)))
def Jj(x:bB):bD:=(xB x).bind λA=>(aW (ai A 20) ((xB x).bind λI=>ab (ak 65536 I))).bind λJ=>ab J
def Ef(x:Int):bD:=(aW (aj x 1) (ab (aj x 2))).bind λA=>ab A
def jW(x:Bool)(y:Int):Ca:=bif !x then ab []else ab [(184,y)]
def Jn(A:eB):cq:=([0,1,2,2,3,3,3,3,4,4,4,4,4,4,4,4,5,5,5,5,5,5,5,5,5,5,5,5,5,5,5,5,6,6,6,6,6,6,6,6,6,6,6,6,6,6,6,6,6,6,6,6,6,6,6,6,6,6,6,6,6,6,6,6,7,7,7,7,7,7,7,7,7,7,7,7,7,7,7,7,7,7,7,7,7,7,7,7,7,7,7,7,7,7,7,7,7,7,7,7,7,7,7,7,7,7,7,7,7,7,7,7,7,7,7,7,7,7,7,7,7,7,7,7,7,7,7,7,8,8,8,8,8,8,8,8,8,8,8,8,8,8,8,8,8,8,8,8,8,8,8,8,8,8,8,8,8,8,8,8,8,8,8,8,8,8,8,8,8,8,8,8,8,8,8,8,8,8,8,8,8,8,8,8,8,8,8,8,8,8,8,8,8,8,8,8,8,8,8,8,8,8,8,8,8,8,8,8,8,8,8,8,8,8,8,8,8,8,8,8,8,8,8,8,8,8,8,8,8,8,8,8,8,8,8,8,8,8,8,8,8,8,8,8,8,8,8,8,8,8,8,8,8,8,8,8]:List Nat)[(wr .u8 A.1.1).toNat]?.bind λI=>ab (w (A.1.2.1+w ↑I))
def Q9(A:eB):cq:=bt (bif ai 256 A.1.1 then aB ((A.1.1.fdiv 256,w (A.1.2.1+8),()),(),())else aB ((A.1.1,A.1.2.1,()),(),())) Jn
def DW(x:Int):cq:=bt (bif ai 65536 x then aB ((x.fdiv 65536,16,()),(),())else aB ((x,0,()),(),())) Q9
def Wy(x:bq)(A:aS):MW:=(aG (ak 0 A.1.1) (aQ x (w (A.1.1-1)) λI=>ab (aj I 0))).bind λJ=>bif J then aB ((w (A.1.1-1),()),(),())else az (bb ((A.1.1,()),(),()))
def Wz(x:bq)(A:aS):cq:=aT (ai 0 A.1.1&&ai A.1.1 ↑x.length) (aT (ai 0 A.1.1&&ai A.1.1 A.1.1) (aT (aj A.1.1 A.1.1) (bif aj (↑(aY A.1.1.toNat x).length) 0 then ab 0 else aQ (aY A.1.1.toNat x) (w (↑(aY A.1.1.toNat x).length-1)) λI=>(DW I).bind λJ=>ab (w (w (32*w (↑(aY A.1.1.toNat x).length-1))+J)))))
def bitLen(x:bq):cq:=bt (aA (Wy x) ((↑x.length,()),(),())) (Wz x)
def wN(x:DZ):cq:=(bitLen x.2.1).bind λA=>bif aj A 0 then ab 0 else bif x.1 then ab (-1)else ab 1
def acE(x:bq)(A:aS):yP:=(aG (ak 0 A.1.1) (aQ x (w (A.1.1-1)) λI=>ab (aj I 0))).bind λJ=>bif J then aB ((w (A.1.1-1),()),(),())else az (bb ((A.1.1,()),(),()))
def acF(x:bq)(A:aS):jm:=aT (ai 0 A.1.1&&ai A.1.1 ↑x.length) (aT (ai 0 A.1.1&&ai A.1.1 A.1.1) (aT (aj A.1.1 A.1.1) (aT (bW (aY A.1.1.toNat x).length 4) (ab (aY A.1.1.toNat x)))))
def sA(x:bq):jm:=bt (aA (acE x) ((↑x.length,()),(),())) (acF x)
def Xe(x:bq)(A:aS):MW:=(aG (ak 0 A.1.1) (aQ x (w (A.1.1-1)) λI=>ab (aj I 0))).bind λJ=>bif J then aB ((w (A.1.1-1),()),(),())else az (bb ((A.1.1,()),(),()))
def Xf(y:bq)(A:aS):MW:=(aG (ak 0 A.1.1) (aQ y (w (A.1.1-1)) λI=>ab (aj I 0))).bind λJ=>bif J then aB ((w (A.1.1-1),()),(),())else az (bb ((A.1.1,()),(),()))
def CP(x y:bq)(Z a A:aS):yT:=bif ai 0 A.1.1 then aQ (aY Z.1.1.toNat x) A.1.1 λb=>aQ (aY a.1.1.toNat y) A.1.1 λI=>bif ak b I then az (-1)else aQ (aY Z.1.1.toNat x) A.1.1 λJ=>aQ (aY a.1.1.toNat y) A.1.1 λU=>bif ak U J then az 1 else aB ((w (A.1.1-1),()),(),())else az 0
def Xg(x y:bq)(I A:aS):cq:=aT (ai 0 A.1.1&&ai A.1.1 ↑y.length) (aT (ai 0 A.1.1&&ai A.1.1 A.1.1) (aT (aj A.1.1 A.1.1) (bif !aj ↑(aY I.1.1.toNat x).length ↑(aY A.1.1.toNat y).length then bif ak ↑(aY I.1.1.toNat x).length ↑(aY A.1.1.toNat y).length then ab (-1)else ab 1 else aA (CP x y I A) ((w (↑(aY I.1.1.toNat x).length-1),()),(),()))))
def Xh(x y:bq)(A:aS):cq:=aT (ai 0 A.1.1&&ai A.1.1 ↑x.length) (aT (ai 0 A.1.1&&ai A.1.1 A.1.1) (aT (aj A.1.1 A.1.1) (bt (aA (Xf y) ((↑y.length,()),(),())) (Xg x y A))))
def CO(x y:bq):cq:=bt (aA (Xe x) ((↑x.length,()),(),())) (Xh x y)
def RO(I:jO)(A:aS):Option (aS⊕aS⊕vT):=(aG (ak 0 A.1.1) (aN I.2.2.1 (w (A.1.1-1)) λJ=>ab (aj J 0))).bind λU=>bif U then aB ((w (A.1.1-1),()),(),())else az (bb ((A.1.1,()),(),()))
def RP(I:jO)(A:aS):Option vT:=aT (ai 0 A.1.1&&ai A.1.1 ↑I.2.2.1.length) (aT (ai 0 A.1.1&&ai A.1.1 A.1.1) (aT (aj A.1.1 A.1.1) (ab (aY A.1.1.toNat I.2.2.1,wr .u32 I.1.1,()))))
def El(x:bq)(y:Int)(A:jO):Option (jO⊕vT):=bif ai 0 A.1.2.1 then aQ x A.1.2.1 λI=>ky (wu y) (aN A.2.2.1 A.1.2.1 λU=>ky (wu y) (aB (((wu ↑((word .u64 (wu (A.1.1*4294967296))).lor (word .u64 (wu I)))).tmod (wu y),w (A.1.2.1-1),()),(),A.2.2.1.set A.1.2.1.toNat (wr .u32 (wu ((wu ↑((word .u64 (wu (A.1.1*4294967296))).lor (word .u64 (wu I)))).tdiv (wu y)))),())))else(bt (aA (RO A) ((↑A.2.2.1.length,()),(),())) (RP A)).bind λJ=>az J
def one(x:bq)(y:Int):Option vT:=aT (ai ↑x.length ↑x.length&&ai (↑x.length*4) 70368744177664) (aA (El x y) ((0,w (↑x.length-1),()),(),bP (nn ↑x.length) (0:Int),()))
def uh(x:Int):jm:=(sA [wr .u32 x,wr .u32 (x.fdiv 4294967296)]).bind λA=>ab A
def Jv(x:Int):cq:=(DW x).bind λA=>ab (w (32-A))
def digit(x:bq)(y:Int):cq:=bif ak y ↑x.length then aQ x y λA=>ab (wu A)else ab 0
def uk(x y:bq)(A:eB):Option (eB⊕Int):=bif !aj (A.1.1.fdiv 4294967296) 0 then aQ y (w (↑y.length-1)) λI=>bif !aj ((wu (A.1.2.1+wu I)).fdiv 4294967296) 0 then az (wu (A.1.1-1))else aB ((wu (A.1.1-1),wu (A.1.2.1+wu I),()),(),())else aQ y (w (↑y.length-2)) λU=>aQ x (w (↑y.length-2)) λZ=>bif ak (wu ↑((word .u64 (wu (A.1.2.1*4294967296))).lor (word .u64 (wu Z)))) (wu (A.1.1*wu U))then aQ y (w (↑y.length-1)) λJ=>bif !aj ((wu (A.1.2.1+wu J)).fdiv 4294967296) 0 then az (wu (A.1.1-1))else aB ((wu (A.1.1-1),wu (A.1.2.1+wu J),()),(),())else az A.1.1
def Ip(x y:bq):cq:=x[(nn ↑y.length)]?.bind λA=>aQ x (w (↑y.length-1)) λI=>aQ y (w (↑y.length-1)) λJ=>ky (wu J) (aQ y (w (↑y.length-1)) λU=>ky (wu U) (aA (uk x y) ((wu ((wu ↑((word .u64 (wu (wu A*4294967296))).lor (word .u64 (wu I)))).tdiv (wu J)),(wu ↑((word .u64 (wu (wu A*4294967296))).lor (word .u64 (wu I)))).tmod (wu U),()),(),())))
def XD(x:bq)(A:aS):qp:=(aG (ak 0 A.1.1) (aQ x (w (A.1.1-1)) λI=>ab (aj I 0))).bind λJ=>bif J then aB ((w (A.1.1-1),()),(),())else az (bb ((A.1.1,()),(),()))
def XE(y:bq)(A:aS):qp:=(aG (ak 0 A.1.1) (aQ y (w (A.1.1-1)) λI=>ab (aj I 0))).bind λJ=>bif J then aB ((w (A.1.1-1),()),(),())else az (bb ((A.1.1,()),(),()))
def XK(y:bq)(U A:aS):qp:=(aG (ak 0 A.1.1) (aQ (aY U.1.1.toNat y) (w (A.1.1-1)) λI=>ab (aj I 0))).bind λJ=>bif J then aB ((w (A.1.1-1),()),(),())else az (bb ((A.1.1,()),(),()))
def HC(I:ec)(A:aS):qp:=(aG (ak 0 A.1.1) (aN I.2.2.1 (w (A.1.1-1)) λJ=>ab (aj J 0))).bind λU=>bif U then aB ((w (A.1.1-1),()),(),())else az (bb ((A.1.1,()),(),()))
def XS(x:bq)(U A:aS):qp:=(aG (ak 0 A.1.1) (aQ (aY U.1.1.toNat x) (w (A.1.1-1)) λI=>ab (aj I 0))).bind λJ=>bif J then aB ((w (A.1.1-1),()),(),())else az (bb ((A.1.1,()),(),()))
def HD(I:ec)(A:aS):qp:=(aG (ak 0 A.1.1) (aN I.2.2.1 (w (A.1.1-1)) λJ=>ab (aj J 0))).bind λU=>bif U then aB ((w (A.1.1-1),()),(),())else az (bb ((A.1.1,()),(),()))
def HE(a:ec)(J:aS)(I:kY)(b:Int)(A:jO):Option (jO⊕ec⊕kY⊕oj):=bif ak A.1.2.1 (aE J.1.1.toNat)then bif ai 0 A.1.2.1&&ak A.1.2.1 (aE J.1.1.toNat)then a.2.2.1[A.1.2.1.toNat]?.bind λU=>aT (ai 0 A.1.2.1&&ak A.1.2.1 ↑((w (w (I.1.1+(aE J.1.1.toNat))+1)).toNat-I.1.1.toNat)) (A.2.2.1[I.1.1.toNat+A.1.2.1.toNat]?.bind λZ=>aT (ai 0 A.1.2.1&&ak A.1.2.1 ↑((w (w (I.1.1+(aE J.1.1.toNat))+1)).toNat-I.1.1.toNat)) (A.2.2.1[I.1.1.toNat+A.1.2.1.toNat]?.bind λe=>aB (((wu (A.1.1+wu (wu Z+wu U))).fdiv 4294967296,w (A.1.2.1+1),()),(),A.2.2.1.set (I.1.1.toNat+A.1.2.1.toNat) (wr .u32 (wu (A.1.1+wu (wu Z+wu U)))),())))else ae else(aT (ak (aE J.1.1.toNat) ↑((w (w (I.1.1+(aE J.1.1.toNat))+1)).toNat-I.1.1.toNat)) (A.2.2.1[I.1.1.toNat+(nn (aE J.1.1.toNat))]?.bind λc=>aT (ak (aE J.1.1.toNat) ↑((w (w (I.1.1+(aE J.1.1.toNat))+1)).toNat-I.1.1.toNat)) (A.2.2.1[I.1.1.toNat+(nn (aE J.1.1.toNat))]?.bind λf=>aB ((wu (b-1),()),(),A.2.2.1.set (I.1.1.toNat+(nn (aE J.1.1.toNat))) (wr .u32 (c+wr .u32 A.1.1)),())))).bind λd=>az d
def HG(b:ec)(J:aS)(I:kY)(U:Int)(A:(Int×aJ)×B5):Option ((Int×aJ)×B5⊕ec⊕kY⊕oj):=bif ak A.1.2.2.1 (aE J.1.1.toNat)then bif ai 0 A.1.2.2.1&&ak A.1.2.2.1 (aE J.1.1.toNat)then b.2.2.1[A.1.2.2.1.toNat]?.bind λZ=>aT (ai 0 A.1.2.2.1&&ak A.1.2.2.1 ↑((w (w (I.1.1+(aE J.1.1.toNat))+1)).toNat-I.1.1.toNat)) (A.2.2.1[I.1.1.toNat+A.1.2.2.1.toNat]?.bind λc=>aT (ai 0 A.1.2.2.1&&ak A.1.2.2.1 ↑((w (w (I.1.1+(aE J.1.1.toNat))+1)).toNat-I.1.1.toNat)) (A.2.2.1[I.1.1.toNat+A.1.2.2.1.toNat]?.bind λe=>aB (((wu (A.1.1+wu (U*wu Z))).fdiv 4294967296,(wu (wu (wu c-wu ↑((word .u64 (wu (A.1.1+wu (U*wu Z)))).land 4294967295))-A.1.2.1)).fdiv 9223372036854775808,w (A.1.2.2.1+1),()),(),A.2.2.1.set (I.1.1.toNat+A.1.2.2.1.toNat) (wr .u32 (wu (wu (wu c-wu ↑((word .u64 (wu (A.1.1+wu (U*wu Z)))).land 4294967295))-A.1.2.1))),())))else ae else(aT (ak (aE J.1.1.toNat) ↑((w (w (I.1.1+(aE J.1.1.toNat))+1)).toNat-I.1.1.toNat)) (A.2.2.1[I.1.1.toNat+(nn (aE J.1.1.toNat))]?.bind λa=>aT (ak (aE J.1.1.toNat) ↑((w (w (I.1.1+(aE J.1.1.toNat))+1)).toNat-I.1.1.toNat)) (A.2.2.1[I.1.1.toNat+(nn (aE J.1.1.toNat))]?.bind λf=>bif !aj ((wu (wu (wu a-A.1.1)-A.1.2.1)).fdiv 9223372036854775808) 0 then aA (HE b J I U) ((0,0,()),(),A.2.2.1.set (I.1.1.toNat+(nn (aE J.1.1.toNat))) (wr .u32 (wu (wu (wu a-A.1.1)-A.1.2.1))),())else aB ((U,()),(),A.2.2.1.set (I.1.1.toNat+(nn (aE J.1.1.toNat))) (wr .u32 (wu (wu (wu a-A.1.1)-A.1.2.1))),())))).bind λd=>az d
def XT(A:kY)(I:ec):Option (kY⊕oj):=aN A.2.2.2.1 A.1.1 λJ=>aB ((w (A.1.1-1),()),(),I.2.2.1,A.2.2.2.1.set A.1.1.toNat (wr .u32 I.1.1),())
def XU(I:kY)(A:aS):qp:=(aG (ak 0 A.1.1) (aN I.2.2.2.1 (w (A.1.1-1)) λJ=>ab (aj J 0))).bind λU=>bif U then aB ((w (A.1.1-1),()),(),())else az (bb ((A.1.1,()),(),()))
def XF(I:kY)(A:aS):qp:=(aG (ak 0 A.1.1) (aN I.2.2.1 (w (A.1.1-1)) λJ=>ab (aj J 0))).bind λU=>bif U then aB ((w (A.1.1-1),()),(),())else az (bb ((A.1.1,()),(),()))
def XG(I:ec)(A:aS):qp:=(aG (ak 0 A.1.1) (aN I.2.2.1 (w (A.1.1-1)) λJ=>ab (aj J 0))).bind λU=>bif U then aB ((w (A.1.1-1),()),(),())else az (bb ((A.1.1,()),(),()))
def XH(J:kY)(U:aS)(I:ec)(A:aS):nB:=aT (ai 0 A.1.1&&ai A.1.1 ↑I.2.2.1.length) (aT (ai 0 A.1.1&&ai A.1.1 A.1.1) (aT (aj A.1.1 A.1.1) (ab (aY U.1.1.toNat J.2.2.2.1,aY A.1.1.toNat I.2.2.1,0,()))))
def Hy(I:Int)(J:kY)(Z U:aS)(A:ec):GC:=bif ak A.1.1 ↑(bP (w ((aE U.1.1.toNat)-w ((w (0-w (0-(aE I.toNat)))).tdiv 32))).toNat (0:Int)).length then(digit (aY U.1.1.toNat J.2.2.1) (w (A.1.1+w ((w (0-w (0-(aE I.toNat)))).tdiv 32)))).bind λa=>(digit (aY U.1.1.toNat J.2.2.1) (w (w (A.1.1+w ((w (0-w (0-(aE I.toNat)))).tdiv 32))+1))).bind λb=>bif ak ((w (0-w (0-(aE I.toNat)))).tmod 32) 0 then ae else aN A.2.2.1 A.1.1 λd=>aB ((w (A.1.1+1),()),(),A.2.2.1.set A.1.1.toNat (wr .u32 ((wu ↑((word .u64 a).lor (word .u64 (wu (b*4294967296))))).fdiv ↑(2^((w (0-w (0-(aE I.toNat)))).tmod 32).toNat.min 64))),())else(bt (aA (XG A) ((↑A.2.2.1.length,()),(),())) (XH J Z A)).bind λc=>az c
def Hz(I:ec)(A:aS):qp:=(aG (ak 0 A.1.1) (aN I.2.2.1 (w (A.1.1-1)) λJ=>ab (aj J 0))).bind λU=>bif U then aB ((w (A.1.1-1),()),(),())else az (bb ((A.1.1,()),(),()))
def HA(J:kY)(U:aS)(I:ec)(A:aS):nB:=aT (ai 0 A.1.1&&ai A.1.1 ↑I.2.2.1.length) (aT (ai 0 A.1.1&&ai A.1.1 A.1.1) (aT (aj A.1.1 A.1.1) (ab (aY U.1.1.toNat J.2.2.2.1,aY A.1.1.toNat I.2.2.1,0,()))))
def XI(A:Int)(U:kY)(b Z:aS)(I:ec):GC:=bif ak I.1.1 (aE Z.1.1.toNat)then bif ai 0 I.1.1&&ak I.1.1 (aE Z.1.1.toNat)then U.2.2.1[I.1.1.toNat]?.bind λJ=>bif ak ((bif ai (w (0-(aE A.toNat))) 4096 then w (0-(aE A.toNat))else 4096).tmod 32) 0 then ae else aN I.2.2.1 (w (I.1.1+w ((bif ai (w (0-(aE A.toNat))) 4096 then w (0-(aE A.toNat))else 4096).tdiv 32))) λa=>aN I.2.2.1 (w (I.1.1+w ((bif ai (w (0-(aE A.toNat))) 4096 then w (0-(aE A.toNat))else 4096).tdiv 32))) λd=>aN (I.2.2.1.set (w (I.1.1+w ((bif ai (w (0-(aE A.toNat))) 4096 then w (0-(aE A.toNat))else 4096).tdiv 32))).toNat (wr .u32 ↑((word .u32 a).lor (word .u32 (wr .u32 (wu (wu J*↑(2^((bif ai (w (0-(aE A.toNat))) 4096 then w (0-(aE A.toNat))else 4096).tmod 32).toNat.min 64)))))))) (w (w (I.1.1+w ((bif ai (w (0-(aE A.toNat))) 4096 then w (0-(aE A.toNat))else 4096).tdiv 32))+1)) λe=>aB ((w (I.1.1+1),()),(),(I.2.2.1.set (w (I.1.1+w ((bif ai (w (0-(aE A.toNat))) 4096 then w (0-(aE A.toNat))else 4096).tdiv 32))).toNat (wr .u32 ↑((word .u32 a).lor (word .u32 (wr .u32 (wu (wu J*↑(2^((bif ai (w (0-(aE A.toNat))) 4096 then w (0-(aE A.toNat))else 4096).tmod 32).toNat.min 64)))))))).set (w (w (I.1.1+w ((bif ai (w (0-(aE A.toNat))) 4096 then w (0-(aE A.toNat))else 4096).tdiv 32))+1)).toNat (wr .u32 ((wu (wu J*↑(2^((bif ai (w (0-(aE A.toNat))) 4096 then w (0-(aE A.toNat))else 4096).tmod 32).toNat.min 64))).fdiv 4294967296)),())else ae else(bt (aA (Hz I) ((↑I.2.2.1.length,()),(),())) (HA U b I)).bind λc=>az c
def Oz(I:Int)(J:kY)(U A:aS):nB:=aT (ai 0 A.1.1&&ai A.1.1 ↑J.2.2.1.length) (aT (ai 0 A.1.1&&ai A.1.1 A.1.1) (aT (aj A.1.1 A.1.1) (bif ak (w (0-(aE I.toNat))) 0 then bif ai (w (0-(aE I.toNat))) (w (-32*(aE A.1.1.toNat)))then ab (aY U.1.1.toNat J.2.2.2.1,[],0,())else aT (ai 0 (w ((aE A.1.1.toNat)-w ((w (0-w (0-(aE I.toNat)))).tdiv 32)))&&(ai (w ((aE A.1.1.toNat)-w ((w (0-w (0-(aE I.toNat)))).tdiv 32))) (w ((aE A.1.1.toNat)-w ((w (0-w (0-(aE I.toNat)))).tdiv 32)))&&ai (w ((aE A.1.1.toNat)-w ((w (0-w (0-(aE I.toNat)))).tdiv 32))*4) 70368744177664)) (aA (Hy I J U A) ((0,()),(),bP (w ((aE A.1.1.toNat)-w ((w (0-w (0-(aE I.toNat)))).tdiv 32))).toNat (0:Int),()))else aT (ai 0 (w (w ((aE A.1.1.toNat)+w ((bif ai (w (0-(aE I.toNat))) 4096 then w (0-(aE I.toNat))else 4096).tdiv 32))+1))&&(ai (w (w ((aE A.1.1.toNat)+w ((bif ai (w (0-(aE I.toNat))) 4096 then w (0-(aE I.toNat))else 4096).tdiv 32))+1)) (w (w ((aE A.1.1.toNat)+w ((bif ai (w (0-(aE I.toNat))) 4096 then w (0-(aE I.toNat))else 4096).tdiv 32))+1))&&ai (w (w ((aE A.1.1.toNat)+w ((bif ai (w (0-(aE I.toNat))) 4096 then w (0-(aE I.toNat))else 4096).tdiv 32))+1)*4) 70368744177664)) (aA (XI I J U A) ((0,()),(),bP (w (w ((aE A.1.1.toNat)+w ((bif ai (w (0-(aE I.toNat))) 4096 then w (0-(aE I.toNat))else 4096).tdiv 32))+1)).toNat (0:Int),())))))
def XJ(J:Int)(I:kY)(A:aS):nB:=aT (ai 0 A.1.1&&ai A.1.1 ↑I.2.2.2.1.length) (aT (ai 0 A.1.1&&ai A.1.1 A.1.1) (aT (aj A.1.1 A.1.1) (bt (aA (XF I) ((↑I.2.2.1.length,()),(),())) (Oz J I A))))
def zu(U:Int)(J:ec)(I:aS)(A:kY):Option (kY⊕oj):=bif ai 0 A.1.1 then aT (ai 0 (w (w (A.1.1+(aE I.1.1.toNat))+1))&&ai (w (w (A.1.1+(aE I.1.1.toNat))+1)) ↑A.2.2.1.length) (aT (ai 0 A.1.1&&ai A.1.1 ↑(w (w (A.1.1+(aE I.1.1.toNat))+1)).toNat) ((Ip (aY ((w (w (A.1.1+(aE I.1.1.toNat))+1)).toNat-A.1.1.toNat) (BN A.1.1.toNat A.2.2.1)) (aY I.1.1.toNat J.2.2.1)).bind λZ=>bt (aA (HG J I A Z) ((0,0,0,()),(),A.2.2.1,())) (XT A)))else(bt (aA (XU A) ((↑A.2.2.2.1.length,()),(),())) (XJ U A)).bind λa=>az a
def CX(x:bq)(a:aS)(J:Int)(U:ec)(I:aS)(A:vP):Option (vP⊕oj):=bif ai ↑A.1.1.length ↑(aY a.1.1.toNat x).length then aT (bW (A.1.1.length+[0].length) 4) (aB ((cx A.1.1 [0],()),(),()))else(aT (ai 0 (w (↑A.1.1.length-(aE I.1.1.toNat)))&&(ai (w (↑A.1.1.length-(aE I.1.1.toNat))) (w (↑A.1.1.length-(aE I.1.1.toNat)))&&ai (w (↑A.1.1.length-(aE I.1.1.toNat))*4) 70368744177664)) (aA (zu J U I) ((w (↑(bP (w (↑A.1.1.length-(aE I.1.1.toNat))).toNat (0:Int)).length-1),()),(),A.1.1,bP (w (↑A.1.1.length-(aE I.1.1.toNat))).toNat (0:Int),()))).bind λZ=>az Z
def CY(x:bq)(a:aS)(J:Int)(U:ec)(Z:aS)(I:ec)(A:aS):nB:=aT (ai 0 A.1.1&&ai A.1.1 ↑I.2.2.1.length) (aT (ai 0 A.1.1&&ai A.1.1 A.1.1) (aT (aj A.1.1 A.1.1) (aT (bW (A.1.1.toNat+[0].length) 4) (aA (CX x a J U Z) ((cx (aY A.1.1.toNat I.2.2.1) [0],()),(),())))))
def XL(x:bq)(a:aS)(A:Int)(b:ec)(c U:aS)(I:ec):GC:=bif ak I.1.1 ↑(aY U.1.1.toNat (aY a.1.1.toNat x)).length then aQ (aY U.1.1.toNat (aY a.1.1.toNat x)) I.1.1 λJ=>bif ak ((bif ai ((aE A.toNat)) 4096 then(aE A.toNat)else 4096).tmod 32) 0 then ae else aN I.2.2.1 (w (I.1.1+w ((bif ai ((aE A.toNat)) 4096 then(aE A.toNat)else 4096).tdiv 32))) λZ=>aN I.2.2.1 (w (I.1.1+w ((bif ai ((aE A.toNat)) 4096 then(aE A.toNat)else 4096).tdiv 32))) λe=>aN (I.2.2.1.set (w (I.1.1+w ((bif ai ((aE A.toNat)) 4096 then(aE A.toNat)else 4096).tdiv 32))).toNat (wr .u32 ↑((word .u32 Z).lor (word .u32 (wr .u32 (wu (wu J*↑(2^((bif ai ((aE A.toNat)) 4096 then(aE A.toNat)else 4096).tmod 32).toNat.min 64)))))))) (w (w (I.1.1+w ((bif ai ((aE A.toNat)) 4096 then(aE A.toNat)else 4096).tdiv 32))+1)) λf=>aB ((w (I.1.1+1),()),(),(I.2.2.1.set (w (I.1.1+w ((bif ai ((aE A.toNat)) 4096 then(aE A.toNat)else 4096).tdiv 32))).toNat (wr .u32 ↑((word .u32 Z).lor (word .u32 (wr .u32 (wu (wu J*↑(2^((bif ai ((aE A.toNat)) 4096 then(aE A.toNat)else 4096).tmod 32).toNat.min 64)))))))).set (w (w (I.1.1+w ((bif ai ((aE A.toNat)) 4096 then(aE A.toNat)else 4096).tdiv 32))+1)).toNat (wr .u32 ((wu (wu J*↑(2^((bif ai ((aE A.toNat)) 4096 then(aE A.toNat)else 4096).tmod 32).toNat.min 64))).fdiv 4294967296)),())else(bt (aA (HD I) ((↑I.2.2.1.length,()),(),())) (CY x a A b c I)).bind λd=>az d
def XM(x:bq)(J:aS)(I:Int)(U:ec)(Z A:aS):nB:=aT (ai 0 A.1.1&&ai A.1.1 ↑(aY J.1.1.toNat x).length) (aT (ai 0 A.1.1&&ai A.1.1 A.1.1) (aT (aj A.1.1 A.1.1) (aT (ai 0 (w (w (↑(aY A.1.1.toNat (aY J.1.1.toNat x)).length+w ((bif ai ((aE I.toNat)) 4096 then(aE I.toNat)else 4096).tdiv 32))+1))&&(ai (w (w (↑(aY A.1.1.toNat (aY J.1.1.toNat x)).length+w ((bif ai ((aE I.toNat)) 4096 then(aE I.toNat)else 4096).tdiv 32))+1)) (w (w (↑(aY A.1.1.toNat (aY J.1.1.toNat x)).length+w ((bif ai ((aE I.toNat)) 4096 then(aE I.toNat)else 4096).tdiv 32))+1))&&ai (w (w (↑(aY A.1.1.toNat (aY J.1.1.toNat x)).length+w ((bif ai ((aE I.toNat)) 4096 then(aE I.toNat)else 4096).tdiv 32))+1)*4) 70368744177664)) (aA (XL x J I U Z A) ((0,()),(),bP (w (w (↑(aY A.1.1.toNat (aY J.1.1.toNat x)).length+w ((bif ai ((aE I.toNat)) 4096 then(aE I.toNat)else 4096).tdiv 32))+1)).toNat (0:Int),())))))
def HB(x:bq)(J:aS)(U:Int)(I:ec)(A:aS):nB:=aT (ai 0 A.1.1&&ai A.1.1 ↑I.2.2.1.length) (aT (ai 0 A.1.1&&ai A.1.1 A.1.1) (aT (aj A.1.1 A.1.1) (bt (aA (XS x J) ((↑(aY J.1.1.toNat x).length,()),(),())) (XM x J U I A))))
def XN(x y:bq)(c b:aS)(A:Int)(U:aS)(I:ec):GC:=bif ak I.1.1 ↑(aY U.1.1.toNat (aY b.1.1.toNat y)).length then aQ (aY U.1.1.toNat (aY b.1.1.toNat y)) I.1.1 λJ=>bif ak ((bif ai ((aE A.toNat)) 4096 then(aE A.toNat)else 4096).tmod 32) 0 then ae else aN I.2.2.1 (w (I.1.1+w ((bif ai ((aE A.toNat)) 4096 then(aE A.toNat)else 4096).tdiv 32))) λZ=>aN I.2.2.1 (w (I.1.1+w ((bif ai ((aE A.toNat)) 4096 then(aE A.toNat)else 4096).tdiv 32))) λd=>aN (I.2.2.1.set (w (I.1.1+w ((bif ai ((aE A.toNat)) 4096 then(aE A.toNat)else 4096).tdiv 32))).toNat (wr .u32 ↑((word .u32 Z).lor (word .u32 (wr .u32 (wu (wu J*↑(2^((bif ai ((aE A.toNat)) 4096 then(aE A.toNat)else 4096).tmod 32).toNat.min 64)))))))) (w (w (I.1.1+w ((bif ai ((aE A.toNat)) 4096 then(aE A.toNat)else 4096).tdiv 32))+1)) λe=>aB ((w (I.1.1+1),()),(),(I.2.2.1.set (w (I.1.1+w ((bif ai ((aE A.toNat)) 4096 then(aE A.toNat)else 4096).tdiv 32))).toNat (wr .u32 ↑((word .u32 Z).lor (word .u32 (wr .u32 (wu (wu J*↑(2^((bif ai ((aE A.toNat)) 4096 then(aE A.toNat)else 4096).tmod 32).toNat.min 64)))))))).set (w (w (I.1.1+w ((bif ai ((aE A.toNat)) 4096 then(aE A.toNat)else 4096).tdiv 32))+1)).toNat (wr .u32 ((wu (wu J*↑(2^((bif ai ((aE A.toNat)) 4096 then(aE A.toNat)else 4096).tmod 32).toNat.min 64))).fdiv 4294967296)),())else(bt (aA (HC I) ((↑I.2.2.1.length,()),(),())) (HB x c A I)).bind λa=>az a
def XO(x y:bq)(U J:aS)(I:Int)(A:aS):nB:=aT (ai 0 A.1.1&&ai A.1.1 ↑(aY J.1.1.toNat y).length) (aT (ai 0 A.1.1&&ai A.1.1 A.1.1) (aT (aj A.1.1 A.1.1) (aT (ai 0 (w (w (↑(aY A.1.1.toNat (aY J.1.1.toNat y)).length+w ((bif ai ((aE I.toNat)) 4096 then(aE I.toNat)else 4096).tdiv 32))+1))&&(ai (w (w (↑(aY A.1.1.toNat (aY J.1.1.toNat y)).length+w ((bif ai ((aE I.toNat)) 4096 then(aE I.toNat)else 4096).tdiv 32))+1)) (w (w (↑(aY A.1.1.toNat (aY J.1.1.toNat y)).length+w ((bif ai ((aE I.toNat)) 4096 then(aE I.toNat)else 4096).tdiv 32))+1))&&ai (w (w (↑(aY A.1.1.toNat (aY J.1.1.toNat y)).length+w ((bif ai ((aE I.toNat)) 4096 then(aE I.toNat)else 4096).tdiv 32))+1)*4) 70368744177664)) (aA (XN x y U J I A) ((0,()),(),bP (w (w (↑(aY A.1.1.toNat (aY J.1.1.toNat y)).length+w ((bif ai ((aE I.toNat)) 4096 then(aE I.toNat)else 4096).tdiv 32))+1)).toNat (0:Int),())))))
def XP(x y:bq)(I A:aS):nB:=aT (ai 0 A.1.1&&ai A.1.1 ↑y.length) (aT (ai 0 A.1.1&&ai A.1.1 A.1.1) (aT (aj A.1.1 A.1.1) (bif aj (↑(aY A.1.1.toNat y).length) 0 then ab ([],[],9,())else(CO (aY I.1.1.toNat x) (aY A.1.1.toNat y)).bind λb=>bif ak b 0 then aT (bW (aY I.1.1.toNat x).length 4) (ab ([],aY I.1.1.toNat x,0,()))else bif aj (↑(aY A.1.1.toNat y).length) 1 then(aY A.1.1.toNat y)[0]?.bind λc=>(one (aY I.1.1.toNat x) c).bind λJ=>(uh (wu J.2.1)).bind λZ=>ab (J.1,Z,0,())else aQ (aY A.1.1.toNat y) (w (↑(aY A.1.1.toNat y).length-1)) λa=>(Jv a).bind λU=>aT (ai 0 U) (bt (aA (XK y A) ((↑(aY A.1.1.toNat y).length,()),(),())) (XO x y I A U)))))
def XQ(x y:bq)(A:aS):nB:=aT (ai 0 A.1.1&&ai A.1.1 ↑x.length) (aT (ai 0 A.1.1&&ai A.1.1 A.1.1) (aT (aj A.1.1 A.1.1) (bt (aA (XE y) ((↑y.length,()),(),())) (XP x y A))))
def divMod(x y:bq):nB:=bt (aA (XD x) ((↑x.length,()),(),())) (XQ x y)
def Pd(A:GI):Option (GI⊕bq):=bif ak 0 ↑A.1.2.1.length then(divMod A.1.1 A.1.2.1).bind λI=>aB ((A.1.2.1,I.2.1,()),(),())else az A.1.1
def gcd(x y:bq):jm:=(sA x).bind λA=>(sA y).bind λI=>aA Pd ((A,I,()),(),())
def kH(x:Bool)(y:bq):mB:=(sA y).bind λA=>(aG x (ab (ak 0 ↑A.length))).bind λI=>ab (I,A,())
def sM(x y:DZ):iq:=(gcd x.2.1 y.2.1).bind λA=>(wN x).bind λI=>(wN y).bind λJ=>(divMod x.2.1 A).bind λU=>(kH (ak (w (I*J)) 0) U.1).bind λZ=>(divMod y.2.1 A).bind λa=>(kH af a.1).bind λb=>ab (Z,b,())
def xG(x y:DZ):vL:=(wN y).bind λA=>bif aj A 0 then ab (((af,[],()),(af,[],()),()),9,())else(sM x y).bind λI=>ab (I,0,())
def wM(x:Int):mB:=bif ak x 0 then(uh (wu (0-wu x))).bind λA=>(kH ag A).bind λI=>ab I else(uh (wu x)).bind λJ=>(kH af J).bind λU=>ab U
def eM(x:Int):iq:=(wM x).bind λA=>(wM 1).bind λI=>ab (A,I,())
def jc(x:DQ):iq:=(xG x.1 x.2.1).bind λA=>bif !aj A.2.1 0 then(eM 0).bind λI=>ab I else ab A.1
def vW(x:bQ):rP:=(jc x.1).bind λA=>(jc x.2.1).bind λI=>(jc x.2.2.1).bind λJ=>(jc x.2.2.2.1).bind λU=>(jc x.2.2.2.2.1).bind λZ=>(jc x.2.2.2.2.2.1).bind λa=>ab (A,I,J,U,Z,a,())
def DK(x:DZ):cq:=(bitLen x.2.1).bind λA=>ab A
def sK(x:DQ):cq:=(jc x).bind λA=>(DK A.1).bind λI=>(DK A.2.1).bind λJ=>ab (bif ai I J then J else I)
def tK(x:bQ):bD:=(vW x).bind λA=>(sK A.1).bind λI=>bif ak 256 I then ab af else(sK A.2.1).bind λJ=>bif ak 256 J then ab af else(sK A.2.2.1).bind λU=>bif ak 256 U then ab af else(sK A.2.2.2.1).bind λZ=>bif ak 256 Z then ab af else(sK A.2.2.2.2.1).bind λa=>bif ak 256 a then ab af else(sK A.2.2.2.2.2.1).bind λb=>bif ak 256 b then ab af else ab ag
def abZ(x:bq)(A:aS):yP:=(aG (ak 0 A.1.1) (aQ x (w (A.1.1-1)) λI=>ab (aj I 0))).bind λJ=>bif J then aB ((w (A.1.1-1),()),(),())else az (bb ((A.1.1,()),(),()))
def ab0(y:bq)(A:aS):yP:=(aG (ak 0 A.1.1) (aQ y (w (A.1.1-1)) λI=>ab (aj I 0))).bind λJ=>bif J then aB ((w (A.1.1-1),()),(),())else az (bb ((A.1.1,()),(),()))
def Rv(y:bq)(Z:aS)(I:ec)(b:Int)(A:jO):Option (jO⊕ec⊕bq):=bif ak A.1.2.1 ↑(aY Z.1.1.toNat y).length then aQ (aY Z.1.1.toNat y) A.1.2.1 λJ=>aN A.2.2.1 (w (I.1.1+A.1.2.1)) λU=>aN A.2.2.1 (w (I.1.1+A.1.2.1)) λc=>aB (((wu (A.1.1+wu (wu (wu b*wu J)+wu U))).fdiv 4294967296,w (A.1.2.1+1),()),(),A.2.2.1.set (w (I.1.1+A.1.2.1)).toNat (wr .u32 (wu (A.1.1+wu (wu (wu b*wu J)+wu U)))),())else(aN A.2.2.1 (w (I.1.1+↑(aY Z.1.1.toNat y).length)) λd=>aB ((w (I.1.1+1),()),(),A.2.2.1.set (w (I.1.1+↑(aY Z.1.1.toNat y).length)).toNat (wr .u32 A.1.1),())).bind λa=>az a
def ab1(U:ec)(A:aS):yP:=(aG (ak 0 A.1.1) (aN U.2.2.1 (w (A.1.1-1)) λI=>ab (aj I 0))).bind λJ=>bif J then aB ((w (A.1.1-1),()),(),())else az (bb ((A.1.1,()),(),()))
def ab2(I:ec)(A:aS):jm:=aT (ai 0 A.1.1&&ai A.1.1 ↑I.2.2.1.length) (aT (ai 0 A.1.1&&ai A.1.1 A.1.1) (aT (aj A.1.1 A.1.1) (ab (aY A.1.1.toNat I.2.2.1))))
def Rw(x y:bq)(J Z:aS)(A:ec):Option (ec⊕bq):=bif ak A.1.1 ↑(aY J.1.1.toNat x).length then aQ (aY J.1.1.toNat x) A.1.1 λU=>bif aj U 0 then aB ((w (A.1.1+1),()),(),A.2.2.1,())else aA (Rv y Z A U) ((0,0,()),(),A.2.2.1,())else(bt (aA (ab1 A) ((↑A.2.2.1.length,()),(),())) (ab2 A)).bind λI=>az I
def ab3(x y:bq)(I A:aS):jm:=aT (ai 0 A.1.1&&ai A.1.1 ↑y.length) (aT (ai 0 A.1.1&&ai A.1.1 A.1.1) (aT (aj A.1.1 A.1.1) (aT (ai 0 (w (↑(aY I.1.1.toNat x).length+↑(aY A.1.1.toNat y).length))&&(ai (w (↑(aY I.1.1.toNat x).length+↑(aY A.1.1.toNat y).length)) (w (↑(aY I.1.1.toNat x).length+↑(aY A.1.1.toNat y).length))&&ai (w (↑(aY I.1.1.toNat x).length+↑(aY A.1.1.toNat y).length)*4) 70368744177664)) (aA (Rw x y I A) ((0,()),(),bP (w (↑(aY I.1.1.toNat x).length+↑(aY A.1.1.toNat y).length)).toNat (0:Int),())))))
def ab4(x y:bq)(A:aS):jm:=aT (ai 0 A.1.1&&ai A.1.1 ↑x.length) (aT (ai 0 A.1.1&&ai A.1.1 A.1.1) (aT (aj A.1.1 A.1.1) (bt (aA (ab0 y) ((↑y.length,()),(),())) (ab3 x y A))))
def JI(x y:bq):jm:=bt (aA (abZ x) ((↑x.length,()),(),())) (ab4 x y)
def pK(x y:DZ):mB:=(JI x.2.1 y.2.1).bind λA=>(kH (!cJ Ty.bool x.1 y.1) A).bind λI=>ab I
def oR(x y:DQ):iq:=(jc x).bind λA=>(jc y).bind λI=>(pK A.1 I.1).bind λJ=>(pK A.2.1 I.2.1).bind λU=>(sM J U).bind λZ=>ab Z
def uV(x y:DQ):Option (DZ×DQ):=(jc x).bind λA=>(jc y).bind λI=>(pK A.1 I.2.1).bind λJ=>(pK I.1 A.2.1).bind λU=>(pK A.2.1 I.2.1).bind λZ=>ab (J,U,Z,())
def IK(x:DZ):mB:=(kH (!x.1) x.2.1).bind λA=>ab A
def VY(I:jO)(A:aS):yP:=(aG (ak 0 A.1.1) (aN I.2.2.1 (w (A.1.1-1)) λJ=>ab (aj J 0))).bind λU=>bif U then aB ((w (A.1.1-1),()),(),())else az (bb ((A.1.1,()),(),()))
def VZ(I:jO)(A:aS):jm:=aT (ai 0 A.1.1&&ai A.1.1 ↑I.2.2.1.length) (aT (ai 0 A.1.1&&ai A.1.1 A.1.1) (aT (aj A.1.1 A.1.1) (ab (aY A.1.1.toNat I.2.2.1))))
def Na(x y:bq)(A:jO):Option (jO⊕bq):=bif ak A.1.2.1 ↑(bP (w ((bif ai ↑x.length ↑y.length then ↑y.length else ↑x.length)+1)).toNat (0:Int)).length then(digit x A.1.2.1).bind λI=>(digit y A.1.2.1).bind λJ=>aN A.2.2.1 A.1.2.1 λZ=>aB (((wu (A.1.1+wu (I+J))).fdiv 4294967296,w (A.1.2.1+1),()),(),A.2.2.1.set A.1.2.1.toNat (wr .u32 (wu (A.1.1+wu (I+J)))),())else(bt (aA (VY A) ((↑A.2.2.1.length,()),(),())) (VZ A)).bind λU=>az U
def Cj(x y:bq):jm:=aT (ai 0 (w ((bif ai ↑x.length ↑y.length then ↑y.length else ↑x.length)+1))&&(ai (w ((bif ai ↑x.length ↑y.length then ↑y.length else ↑x.length)+1)) (w ((bif ai ↑x.length ↑y.length then ↑y.length else ↑x.length)+1))&&ai (w ((bif ai ↑x.length ↑y.length then ↑y.length else ↑x.length)+1)*4) 70368744177664)) (aA (Na x y) ((0,0,()),(),bP (w ((bif ai ↑x.length ↑y.length then ↑y.length else ↑x.length)+1)).toNat (0:Int),()))
def af3(x:bq)(A:aS):VQ:=(aG (ak 0 A.1.1) (aQ x (w (A.1.1-1)) λI=>ab (aj I 0))).bind λJ=>bif J then aB ((w (A.1.1-1),()),(),())else az (bb ((A.1.1,()),(),()))
def af4(U:jO)(A:aS):VQ:=(aG (ak 0 A.1.1) (aN U.2.2.1 (w (A.1.1-1)) λI=>ab (aj I 0))).bind λJ=>bif J then aB ((w (A.1.1-1),()),(),())else az (bb ((A.1.1,()),(),()))
def af5(I:jO)(A:aS):GF:=aT (ai 0 A.1.1&&ai A.1.1 ↑I.2.2.1.length) (aT (ai 0 A.1.1&&ai A.1.1 A.1.1) (aT (aj A.1.1 A.1.1) (ab (aY A.1.1.toNat I.2.2.1,ag,()))))
def LO(x y:bq)(Z:aS)(A:jO):Option (jO⊕bq×jN):=bif ak A.1.2.1 ↑(bP (nn ↑(aY Z.1.1.toNat x).length) (0:Int)).length then(digit x A.1.2.1).bind λJ=>(digit y A.1.2.1).bind λU=>aN A.2.2.1 A.1.2.1 λa=>aB (((wu (wu (J-U)-A.1.1)).fdiv 9223372036854775808,w (A.1.2.1+1),()),(),A.2.2.1.set A.1.2.1.toNat (wr .u32 (wu (wu (J-U)-A.1.1))),())else(bt (aA (af4 A) ((↑A.2.2.1.length,()),(),())) (af5 A)).bind λI=>az I
def af6(x y:bq)(A:aS):GF:=aT (ai 0 A.1.1&&ai A.1.1 ↑x.length) (aT (ai 0 A.1.1&&ai A.1.1 A.1.1) (aT (aj A.1.1 A.1.1) (aT (ai ↑(aY A.1.1.toNat x).length ↑(aY A.1.1.toNat x).length&&ai (↑(aY A.1.1.toNat x).length*4) 70368744177664) (aA (LO x y A) ((0,0,()),(),bP (nn ↑(aY A.1.1.toNat x).length) (0:Int),())))))
def FL(x y:bq):GF:=(CO x y).bind λA=>bif ak A 0 then ab ([],af,())else bt (aA (af3 x) ((↑x.length,()),(),())) (af6 x y)
def wL(x y:DZ):mB:=bif cJ Ty.bool x.1 y.1 then(Cj x.2.1 y.2.1).bind λI=>(kH x.1 I).bind λJ=>ab J else(FL x.2.1 y.2.1).bind λA=>bif A.2.1 then(kH x.1 A.1).bind λU=>ab U else(FL y.2.1 x.2.1).bind λZ=>(kH y.1 Z.1).bind λa=>ab a
def zV(x y:DZ):mB:=(IK y).bind λA=>(wL x A).bind λI=>ab I
def uU(x y:DQ):iq:=(uV x y).bind λA=>(zV A.1 A.2.1).bind λI=>(sM I A.2.2.1).bind λJ=>ab J
def y9(x:bQ):iq:=(oR x.1 x.2.2.2.1).bind λA=>(oR x.2.1 x.2.2.1).bind λI=>(uU A I).bind λJ=>ab J
def Ql(x y:DZ):cq:=(zV x y).bind λA=>(wN A).bind λI=>ab I
def cX(x y:DQ):cq:=(uV x y).bind λA=>(Ql A.1 A.2.1).bind λI=>ab I
def JX(x:bQ):bD:=(y9 x).bind λA=>(eM 0).bind λI=>(cX A I).bind λJ=>ab (aj J 0)
def adG(x:Int)(A:jN×fS):cq:=bif aj x 5 then ab 0 else ab (-1)
def pR(x:Int):cq:=bif aj x 4 then ab 3 else bif aj x 3 then ab 2 else bt (bif aj x 1 then bif aj x 1 then az 1 else aB ((aj x 1,()),(),())else bif aj x 2 then az 1 else aB ((aj x 2,()),(),())) (adG x)
def IW(x y z:Int):cq:=bif ak x y then ab y else bif ak z x then ab z else ab x
def L0(x:Int):cq:=(IW x (-1048576) 1048576).bind λA=>ab A
def rq(x:aJ):jo:=(L0 x.1).bind λA=>(L0 x.2.1).bind λI=>ab (A,I,())
def iS(x:aJ):bD:=(rq x).bind λA=>ab (cJ (Ty.st 2 ((Ty.int .i64).cn ((Ty.int .i64).cn Ty.nl))) A x)
def Kr(x:ct):bD:=(iS x.2.1).bind λJ=>(aW (!J) ((pR x.1).bind λU=>(aG (ai U 0) (ab !cJ (Ty.st 2 ((Ty.int .i64).cn ((Ty.int .i64).cn Ty.nl))) x.2.1 (0,0,()))).bind λZ=>ab Z)).bind λa=>bif a then ab af else(iS x.2.2.1).bind λb=>(aW (!b) ((pR x.1).bind λc=>(aG (ai c 1) (ab !cJ (Ty.st 2 ((Ty.int .i64).cn ((Ty.int .i64).cn Ty.nl))) x.2.2.1 (0,0,()))).bind λd=>ab d)).bind λe=>bif e then ab af else(iS x.2.2.2.1).bind λf=>(aW (!f) ((pR x.1).bind λg=>(aG (ai g 2) (ab !cJ (Ty.st 2 ((Ty.int .i64).cn ((Ty.int .i64).cn Ty.nl))) x.2.2.2.1 (0,0,()))).bind λA=>ab A)).bind λI=>bif I then ab af else ab ag
def Sj(x:jq)(A:eB):Option (eB⊕aJ):=bif ak A.1.2.1 ↑x.length then aQ x A.1.2.1 λI=>(aW (aj I.1 1) ((aG (!aj A.1.1 5) ((aW (!aj I.1 5) (ab !aj A.1.1 1)).bind λJ=>ab J)).bind λU=>ab U)).bind λZ=>(pR I.1).bind λa=>bif ak a 0 then az (2,A.1.2.1,())else bif !Z then az (10,A.1.2.1,())else(Kr I).bind λb=>bif !b then az (6,A.1.2.1,())else aB ((I.1,w (A.1.2.1+1),()),(),())else az (0,0,())
def Kp(x:jq):jo:=bif ak 256 ↑x.length then ab (5,256,())else aA (Sj x) ((5,0,()),(),())
def xp(x:jq):bD:=(Kp x).bind λA=>ab (aj A.1 0)
def afO(x y:bq)(A:aS):kr:=bif ak A.1.1 ↑x.length then aQ x A.1.1 λI=>aQ y A.1.1 λJ=>bif !aj I J then az af else aB ((w (A.1.1+1),()),(),())else az ag
def LD(x y:bq):bD:=bif !aj ↑x.length ↑y.length then ab af else aA (afO x y) ((0,()),(),())
def Eg(x y:rJ):bD:=(aG (aj x.1 y.1) (ab (aj x.2.1 y.2.1))).bind λA=>(aG A (ab (aj x.2.2.1 y.2.2.1))).bind λI=>(aG I (ab (aj x.2.2.2.1 y.2.2.2.1))).bind λJ=>(aG J (ab (aj x.2.2.2.2.2.1 y.2.2.2.2.2.1))).bind λU=>(aG U ((LD x.2.2.2.2.1 y.2.2.2.2.1).bind λZ=>ab Z)).bind λa=>ab a
def afM(x y:List pf)(A:aS):kr:=bif ak A.1.1 ↑x.length then aQ x A.1.1 λI=>aQ y A.1.1 λJ=>bif !cJ (Ty.st 4 ((Ty.int .u8).cn ((Ty.int .u8).cn ((Ty.int .u8).cn ((Ty.int .u8).cn Ty.nl))))) I J then az af else aB ((w (A.1.1+1),()),(),())else az ag
def LF(x y:List pf):bD:=bif !aj ↑x.length ↑y.length then ab af else aA (afM x y) ((0,()),(),())
def DE(x y:ny):bD:=(aG (aj x.1 y.1) (ab (aj x.2.1 y.2.1))).bind λA=>(aG A ((LF x.2.2.1 y.2.2.1).bind λI=>ab I)).bind λJ=>ab J
def JR(x:bJ):bD:=(aG (aj x.2.2.2.2.2.2.1 0) (ab (aj x.2.2.2.2.2.2.2.1 0))).bind λb=>(aG b (ab !x.2.2.2.2.2.2.2.2.1)).bind λc=>(aG c (ab !x.2.2.2.2.2.2.2.2.2.1)).bind λU=>(aG (aj (↑x.2.2.2.2.2.2.2.2.2.2.1.length) 0) (ab (aj x.2.2.2.2.2.2.2.2.2.2.2.1 0))).bind λd=>(aG d (ab (aj (↑x.2.2.2.2.2.2.2.2.2.2.2.2.1.length) 0))).bind λe=>(aG e (ab (aj (↑x.2.2.2.2.2.2.2.2.2.2.2.2.2.2.1.length) 0))).bind λf=>(aG f ((Eg x.2.2.2.2.2.2.2.2.2.2.2.2.2.1 (0,0,0,0,[],0,())).bind λg=>ab g)).bind λZ=>(DE x.2.2.2.2.2.2.2.2.2.2.2.2.2.2.2.1 (0,0,[],())).bind λh=>(aG h (ab (aj x.2.2.2.2.2.2.2.2.2.2.2.2.2.2.2.2.1 0))).bind λa=>bif aj x.2.1 1 then(aG Z (ab a)).bind λA=>ab A else bif aj x.2.1 2 then(aG U (ab a)).bind λI=>ab I else(aG U (ab Z)).bind λJ=>ab J
def Ee(x:List vH)(A:aS):Option (aS⊕vH):=bif ak A.1.1 ↑x.length then aQ x A.1.1 λI=>bif !cY I then az ((184,0)::I)else aB ((w (A.1.1+1),()),(),())else az []
def Ed(x:List vH):Ca:=aA (Ee x) ((0,()),(),())
def JT(x:bJ):Ca:=(aG (aj (↑x.2.2.2.2.1.length) 0) (ab (aj x.2.2.2.2.2.1 0))).bind λf=>(aW f ((aG (ak 0 ↑x.2.2.2.2.1.length) ((Ef x.2.2.2.2.2.1).bind λg=>ab g)).bind λh=>ab h)).bind λi=>(aW (ak x.2.1 1) (ab (ak 3 x.2.1))).bind λj=>(jW j 2).bind λk=>(aW (ak x.1 1) (ab (ak 1073741824 x.1))).bind λl=>(aW l (ab (ak x.2.2.1 0))).bind λm=>(aW m (ab (ai 8 x.2.2.1))).bind λn=>(jW n 6).bind λo=>(tK x.2.2.2.1).bind λA=>(jW (!A) 5).bind λI=>(JX x.2.2.2.1).bind λJ=>(jW J 9).bind λU=>(xp x.2.2.2.2.1).bind λZ=>(jW (!Z) 10).bind λa=>(aW (!i) ((JR x).bind λb=>ab !b)).bind λc=>(jW c 17).bind λd=>(Ed [k,o,I,U,a,d]).bind λe=>ab e
def NP(x:Int):bD:=(aG (ai 1 x) (ab (ai x 13))).bind λA=>ab A
def T9(x:Int):bD:=(aG (ai 1 x) (ab (ai x 16384))).bind λA=>ab A
def T8(x:bq)(A:GJ):Option (GJ⊕Bool):=bif ak A.1.2.1 ↑x.length then aQ x A.1.2.1 λI=>(aW (ak I 0) (ab (ak 1048576 I))).bind λJ=>bif J then az af else(aW A.1.1 (ab (ak 0 I))).bind λU=>aB ((U,w (A.1.2.1+1),()),(),())else((aG A.1.1 (ab (aj (Int.tmod ↑x.length 2) 0))).bind λZ=>(aG Z (ab (ai (↑x.length) 16))).bind λa=>ab a).bind λb=>az b
def T7(x:bq):bD:=aA (T8 x) ((aj (↑x.length) 0,0,()),(),())
def LN(x:rJ):bD:=(aW (aj x.2.1 1) (ab (aj x.2.1 2))).bind λU=>(aW U (ab (aj x.2.1 3))).bind λZ=>(aW (aj x.2.2.1 3) (ab (aj x.2.2.1 4))).bind λa=>(aW a (ab (aj x.2.2.1 5))).bind λb=>(T9 x.1).bind λc=>(aG c (ab Z)).bind λd=>(aG d (ab b)).bind λe=>(aG e (ab (ai 256 x.2.2.2.1))).bind λf=>(aG f (ab (ai x.2.2.2.1 65536))).bind λg=>(aG g ((T7 x.2.2.2.2.1).bind λh=>ab h)).bind λA=>(aG A (ab (ai 0 x.2.2.2.2.2.1))).bind λI=>(aG I (ab (ai x.2.2.2.2.2.1 1048576))).bind λJ=>ab J
def EB(x:eS):Option eS:=bif aj x.1 1 then ab (x.1,(0,0,0,0,()),x.2.2.1,x.2.2.2.1,x.2.2.2.2.1,x.2.2.2.2.2.1,x.2.2.2.2.2.2.1,x.2.2.2.2.2.2.2.1,x.2.2.2.2.2.2.2.2.1,(((af,[],()),(af,[],()),()),((af,[],()),(af,[],()),()),((af,[],()),(af,[],()),()),((af,[],()),(af,[],()),()),((af,[],()),(af,[],()),()),((af,[],()),(af,[],()),()),()),())else bif aj x.1 2 then ab (x.1,x.2.1,(0,0,()),(0,0,()),x.2.2.2.2.1,[],0,x.2.2.2.2.2.2.2.1,x.2.2.2.2.2.2.2.2.1,(((af,[],()),(af,[],()),()),((af,[],()),(af,[],()),()),((af,[],()),(af,[],()),()),((af,[],()),(af,[],()),()),((af,[],()),(af,[],()),()),((af,[],()),(af,[],()),()),()),())else bif aj x.1 3 then ab (x.1,x.2.1,(0,0,()),x.2.2.2.1,0,[],0,x.2.2.2.2.2.2.2.1,x.2.2.2.2.2.2.2.2.1,(((af,[],()),(af,[],()),()),((af,[],()),(af,[],()),()),((af,[],()),(af,[],()),()),((af,[],()),(af,[],()),()),((af,[],()),(af,[],()),()),((af,[],()),(af,[],()),()),()),())else bif aj x.1 4 then ab (x.1,x.2.1,x.2.2.1,x.2.2.2.1,x.2.2.2.2.1,x.2.2.2.2.2.1,0,(0,0,[],()),0,(((af,[],()),(af,[],()),()),((af,[],()),(af,[],()),()),((af,[],()),(af,[],()),()),((af,[],()),(af,[],()),()),((af,[],()),(af,[],()),()),((af,[],()),(af,[],()),()),()),())else ab (x.1,x.2.1,x.2.2.1,x.2.2.2.1,x.2.2.2.2.1,x.2.2.2.2.2.1,x.2.2.2.2.2.2.1,x.2.2.2.2.2.2.2.1,x.2.2.2.2.2.2.2.2.1,(((af,[],()),(af,[],()),()),((af,[],()),(af,[],()),()),((af,[],()),(af,[],()),()),((af,[],()),(af,[],()),()),((af,[],()),(af,[],()),()),((af,[],()),(af,[],()),()),()),())
def afN(x y:yZ)(A:aS):kr:=bif ak A.1.1 ↑x.length then aQ x A.1.1 λI=>aQ y A.1.1 λJ=>bif !cJ (Ty.st 5 ((Ty.int .i64).cn ((Ty.st 4 ((Ty.int .u8).cn ((Ty.int .u8).cn ((Ty.int .u8).cn ((Ty.int .u8).cn Ty.nl))))).cn Ty.nl))) I J then az af else aB ((w (A.1.1+1),()),(),())else az ag
def LG(x y:yZ):bD:=bif !aj ↑x.length ↑y.length then ab af else aA (afN x y) ((0,()),(),())
def tJ(x y:bQ):bD:=(vW x).bind λA=>(vW y).bind λI=>(cX A.1 I.1).bind λJ=>bif !aj J 0 then ab af else(cX A.2.1 I.2.1).bind λU=>bif !aj U 0 then ab af else(cX A.2.2.1 I.2.2.1).bind λZ=>bif !aj Z 0 then ab af else(cX A.2.2.2.1 I.2.2.2.1).bind λa=>bif !aj a 0 then ab af else(cX A.2.2.2.2.1 I.2.2.2.2.1).bind λb=>bif !aj b 0 then ab af else(cX A.2.2.2.2.2.1 I.2.2.2.2.2.1).bind λc=>bif !aj c 0 then ab af else ab ag
def pQ(x y:eS):bD:=(aG (aj x.1 y.1) (ab (cJ (Ty.st 4 ((Ty.int .u8).cn ((Ty.int .u8).cn ((Ty.int .u8).cn ((Ty.int .u8).cn Ty.nl))))) x.2.1 y.2.1))).bind λJ=>(aG J (ab (cJ (Ty.st 2 ((Ty.int .i64).cn ((Ty.int .i64).cn Ty.nl))) x.2.2.1 y.2.2.1))).bind λU=>(aG U (ab (cJ (Ty.st 2 ((Ty.int .i64).cn ((Ty.int .i64).cn Ty.nl))) x.2.2.2.1 y.2.2.2.1))).bind λZ=>(aG Z (ab (aj x.2.2.2.2.1 y.2.2.2.2.1))).bind λa=>(aG a (ab (aj x.2.2.2.2.2.2.1 y.2.2.2.2.2.2.1))).bind λb=>(aG b (ab (aj x.2.2.2.2.2.2.2.2.1 y.2.2.2.2.2.2.2.2.1))).bind λc=>(aG c ((LG x.2.2.2.2.2.1 y.2.2.2.2.2.1).bind λd=>ab d)).bind λe=>(aG e ((DE x.2.2.2.2.2.2.2.1 y.2.2.2.2.2.2.2.1).bind λf=>ab f)).bind λg=>(aG g ((tJ x.2.2.2.2.2.2.2.2.2.1 y.2.2.2.2.2.2.2.2.2.1).bind λA=>ab A)).bind λI=>ab I
def Di(x:yZ)(A:eB):MX:=bif ak A.1.2.1 ↑x.length then aQ x A.1.2.1 λI=>(aW (ak I.1 A.1.1) (ab (ak 65536 I.1))).bind λJ=>bif J then az af else aB ((I.1,w (A.1.2.1+1),()),(),())else az ag
def Ik(x:yZ):bD:=(aW (ak (↑x.length) 1) (ab (ak 16 ↑x.length))).bind λA=>bif A then ab af else aA (Di x) ((0,0,()),(),())
def Ez(x:Int):bD:=(aG (ai 1 x) (ab (ai x 3))).bind λA=>ab A
def EA(x:eS):bD:=(Ik x.2.2.2.2.2.1).bind λA=>(aG A ((Ez x.2.2.2.2.2.2.1).bind λI=>ab I)).bind λJ=>ab J
def IF(x:Int):bD:=(aG (ai 1 x) (ab (ai x 4096))).bind λA=>ab A
def Og(x:pf):Cb:=ab (bif ai x.1 x.2.2.2.1 then x.1 else x.2.2.2.1,bif ai x.2.1 x.2.2.2.1 then x.2.1 else x.2.2.2.1,bif ai x.2.2.1 x.2.2.2.1 then x.2.2.1 else x.2.2.2.1,bif ai x.2.2.2.1 x.2.2.2.1 then x.2.2.2.1 else x.2.2.2.1,())
def Ho(x:pf):bD:=(Og x).bind λA=>ab (cJ (Ty.st 4 ((Ty.int .u8).cn ((Ty.int .u8).cn ((Ty.int .u8).cn ((Ty.int .u8).cn Ty.nl))))) A x)
def Qd(x:pf):bD:=(Ho x).bind λA=>ab !A
def IE(x:ny)(A:aS):kr:=bif ak A.1.1 ↑x.2.2.1.length then aQ x.2.2.1 A.1.1 λI=>(Qd I).bind λJ=>bif J then az !ai 0 A.1.1 else aB ((w (A.1.1+1),()),(),())else az ag
def DG(x:ny):bD:=(IF x.1).bind λA=>(aW (!A) ((IF x.2.1).bind λI=>ab !I)).bind λJ=>(aW J (ab (ak 65536 (w (x.1*x.2.1))))).bind λU=>(aW U (ab !aj (↑x.2.2.1.length) (w (x.1*x.2.1)))).bind λZ=>bif Z then ab af else aA (IE x) ((0,()),(),())
def Si(x:eS)(J:tF):bD:=(y9 x.2.2.2.2.2.2.2.2.2.1).bind λA=>(cX A ((af,[],()),(af,[],()),())).bind λI=>ab !aj I 0
def Ey(x:eS):bD:=(tK x.2.2.2.2.2.2.2.2.2.1).bind λg=>(aW (!g) ((EB x).bind λh=>(pQ h (x.1,(0,0,0,0,()),(0,0,()),(0,0,()),0,[],0,(0,0,[],()),0,(((af,[],()),(af,[],()),()),((af,[],()),(af,[],()),()),((af,[],()),(af,[],()),()),((af,[],()),(af,[],()),()),((af,[],()),(af,[],()),()),((af,[],()),(af,[],()),()),()),())).bind λi=>ab !i)).bind λj=>bif j then ab af else bt (bif aj x.1 1 then(tJ x.2.2.2.2.2.2.2.2.2.1 (((af,[],()),(af,[],()),()),((af,[],()),(af,[],()),()),((af,[],()),(af,[],()),()),((af,[],()),(af,[],()),()),((af,[],()),(af,[],()),()),((af,[],()),(af,[],()),()),())).bind λk=>az k else bif aj x.1 2 then(iS x.2.2.1).bind λl=>(aW (!l) ((iS x.2.2.2.1).bind λm=>ab !m)).bind λn=>(aW n ((EA x).bind λo=>ab !o)).bind λp=>bif p then az af else aB ((),(),())else bif aj x.1 3 then(iS x.2.2.1).bind λA=>(aW (!A) (ab (ak x.2.2.2.2.1 1))).bind λI=>(aW I (ab (ak 1048576 x.2.2.2.2.1))).bind λJ=>(aW J ((EA x).bind λU=>ab !U)).bind λZ=>bif Z then az af else aB ((),(),())else bif aj x.1 4 then(DG x.2.2.2.2.2.2.2.1).bind λa=>(aW (!a) ((aG (!aj x.2.2.2.2.2.2.1 0) ((Ez x.2.2.2.2.2.2.1).bind λb=>ab !b)).bind λc=>ab c)).bind λd=>(aW d ((aG (!aj x.2.2.2.2.2.2.2.2.1 1) (ab !aj x.2.2.2.2.2.2.2.2.1 2)).bind λe=>ab e)).bind λf=>bif f then az af else aB ((),(),())else az af) (Si x)
def RF(x:eS):bD:=(Ey x).bind λA=>ab !A
def RE(x:List eS)(A:aS):kr:=bif ak A.1.1 ↑x.length then aQ x A.1.1 λI=>(RF I).bind λJ=>bif J then az !ai 0 A.1.1 else aB ((w (A.1.1+1),()),(),())else az ag
def JU(x:List eS):bD:=aA (RE x) ((0,()),(),())
def JW(x:bJ):Ca:=(xp x.2.2.2.2.2.2.2.2.2.2.1).bind λc=>(jW (!c) 10).bind λd=>(Ef x.2.2.2.2.2.2.2.2.2.2.2.1).bind λe=>(jW (!e) 2).bind λf=>(aW (ak 1 ↑x.2.2.2.2.2.2.2.2.2.2.2.2.1.length) (ab (ak 1 ↑x.2.2.2.2.2.2.2.2.2.2.2.2.2.2.1.length))).bind λg=>(jW g 5).bind λh=>(aG (ak 0 ↑x.2.2.2.2.2.2.2.2.2.2.2.2.2.2.1.length) ((LN x.2.2.2.2.2.2.2.2.2.2.2.2.2.1).bind λi=>ab !i)).bind λj=>(jW j 13).bind λk=>(aG (!ak 0 ↑x.2.2.2.2.2.2.2.2.2.2.2.2.2.2.1.length) ((Eg x.2.2.2.2.2.2.2.2.2.2.2.2.2.1 (0,0,0,0,[],0,())).bind λl=>ab !l)).bind λA=>(jW A 17).bind λI=>(JU x.2.2.2.2.2.2.2.2.2.2.2.2.1).bind λJ=>(aW (!J) ((JU x.2.2.2.2.2.2.2.2.2.2.2.2.2.2.1).bind λU=>ab !U)).bind λZ=>(jW Z 16).bind λa=>(Ed [d,f,h,k,I,a]).bind λb=>ab b
def JV(x:bJ):Ca:=bif aj x.2.1 1 then(NP x.2.2.2.2.2.2.2.1).bind λA=>(jW (!A) 2).bind λI=>ab I else bif aj x.2.1 2 then(JW x).bind λJ=>ab J else(DG x.2.2.2.2.2.2.2.2.2.2.2.2.2.2.2.1).bind λU=>(jW (!U) 16).bind λZ=>(aG (!aj x.2.2.2.2.2.2.2.2.2.2.2.2.2.2.2.2.1 1) (ab !aj x.2.2.2.2.2.2.2.2.2.2.2.2.2.2.2.2.1 2)).bind λa=>(jW a 2).bind λb=>(Ed [Z,b]).bind λc=>ab c
def ass(A:VL):Option (VL⊕Int):=bif cY A.1.1 then az A.1.2.1 else(Zg A.1.1).bind λI=>aT (aj (↑I.1) 184) (aB ((BN 1 A.1.1,I.2,()),((I.2,BN 1 A.1.1,()),()),()))
def acy(A:(vH×Unit)×fS):cq:=aA ass ((A.1.1,0,()),((0,[],()),()),())
def JQ(x:bJ):cq:=(JT x).bind λA=>bt (bif cY A then(JV x).bind λI=>aB ((I,()),(),())else aB ((A,()),(),())) acy
def FC(x:bY)(A:VN):Option (VN⊕aJ):=bif ak A.1.2.1 ↑x.2.2.2.1.length then aQ x.2.2.2.1 A.1.2.1 λI=>(JQ I).bind λJ=>bif !aj J 0 then az (J,A.1.2.1,())else bif lz A.2.1.1 I.1 af then az (7,A.1.2.1,())else bif ak A.1.1 I.2.2.1 then az (17,A.1.2.1,())else bif aj I.2.1 1 then aB ((w (I.2.2.1+1),w (A.1.2.1+1),()),(jV A.2.1.1 I.1 ag,()),())else aB ((I.2.2.1,w (A.1.2.1+1),()),(jV A.2.1.1 I.1 ag,()),())else az (0,0,())
def Lx(x:bY):jo:=(aW (ak x.1 1) (ab (ak 256 x.1))).bind λA=>(aW A (ab (ak x.2.1 1))).bind λI=>(aW I (ab (ak 256 x.2.1))).bind λJ=>bif J then ab (6,0,())else bif ak 64 ↑x.2.2.2.1.length then ab (5,64,())else aA (FC x) ((0,0,()),([],()),())
def A9(x:bY):bD:=(Lx x).bind λA=>ab (aj A.1 0)
def xI(x:Int):bD:=(aG (ai (-4096) x) (ab (ai x 4096))).bind λA=>ab A
def xH(x:bB):bD:=(xI x.1).bind λA=>(aG A ((xI x.2.1).bind λI=>ab I)).bind λJ=>(aG J ((xI x.2.2.1).bind λU=>ab U)).bind λZ=>(aG Z ((xI x.2.2.2.1).bind λa=>ab a)).bind λb=>ab b
def Fq(x:bB):bD:=(xH x).bind λA=>(aW (!A) (ab (ai x.2.2.1 x.1))).bind λI=>(aW I (ab (ai x.2.2.2.1 x.2.1))).bind λJ=>ab J
def pW(x:bB):Cb:=(Fq x).bind λA=>bif A then ab (0,0,0,0,())else ab x
def uW(x:bB):cq:=(pW x).bind λA=>ab (w (w (A.2.2.1-A.1)*w (A.2.2.2.1-A.2.1)))
def CL(x:bY)(y:Int)(z:bB):cq:=(A9 x).bind λA=>bif !A then ab 18 else(aW (ak y 0) (ab (ai (↑x.2.2.2.1.length) y))).bind λI=>bif I then ab 8 else(xH z).bind λJ=>bif !J then ab 6 else(uW z).bind λU=>bif ak 65536 U then ab 5 else ab 0
def FD(x:bY)(y:Int):bD:=(aG (ai 0 y) (ab (ak y ↑x.2.2.2.1.length))).bind λA=>(aG A ((A9 x).bind λI=>ab I)).bind λJ=>ab J
def FE(x:tH)(y:Int)(A:aS):yT:=bif ai 0 A.1.1 then aQ x A.1.1 λI=>aQ x y λJ=>bif aj I.2.2.1 (w (J.2.2.1-1))then az A.1.1 else aB ((w (A.1.1-1),()),(),())else az (-1)
def pY(x:tH)(y:Int):cq:=aA (FE x y) ((w (y-1),()),(),())
def Ly(x:bY)(y:Int):cq:=(FD x y).bind λA=>bif !A then ab (-1)else(pY x.2.2.2.1 y).bind λI=>ab I
def vV(x:DQ×DQ×DQ×DQ×DQ×DQ×Unit):rP:=ab (x.1,x.2.1,x.2.2.1,x.2.2.2.1,x.2.2.2.2.1,x.2.2.2.2.2.1,())
def Ng(x y z u:Int):rP:=(eM x).bind λA=>(eM y).bind λI=>(eM z).bind λJ=>(eM u).bind λU=>(eM 0).bind λZ=>(eM 0).bind λa=>(vV (A,I,J,U,Z,a,())).bind λb=>ab b
def GQ:rP:=(Ng 1 0 0 1).bind λA=>ab A
def lB(x y:DQ):iq:=(uV x y).bind λA=>(wL A.1 A.2.1).bind λI=>(sM I A.2.2.1).bind λJ=>ab J
def rR(x y z u:DQ):iq:=(oR x y).bind λA=>(oR z u).bind λI=>(lB A I).bind λJ=>ab J
def Cn(x:bQ)(y z:DQ):Option lL:=(rR x.1 y x.2.2.1 z).bind λA=>(lB A x.2.2.2.2.1).bind λI=>(rR x.2.1 y x.2.2.2.1 z).bind λJ=>(lB J x.2.2.2.2.2.1).bind λU=>ab (I,U,())
def GR(x y:bQ):rP:=(Cn y x.2.2.2.2.1 x.2.2.2.2.2.1).bind λA=>(rR y.1 x.1 y.2.2.1 x.2.1).bind λI=>(rR y.2.1 x.1 y.2.2.2.1 x.2.1).bind λJ=>(rR y.1 x.2.2.1 y.2.2.1 x.2.2.2.1).bind λU=>(rR y.2.1 x.2.2.1 y.2.2.2.1 x.2.2.2.1).bind λZ=>(vV (I,J,U,Z,A.1,A.2.1,())).bind λa=>ab a
def Nf(x:bQ):rP:=(vW x).bind λA=>(vV A).bind λI=>ab I
def GP(x:List bQ)(A:dc×(Gy×bQ×Unit)×Unit):Option (dc×(Gy×bQ×Unit)×Unit⊕bQ×dc):=bif ak A.1.1 ↑x.length then aQ x A.1.1 λJ=>(GR A.2.1.2.1 J).bind λI=>(tK I).bind λU=>bif !U then az ((((af,[],()),(af,[],()),()),((af,[],()),(af,[],()),()),((af,[],()),(af,[],()),()),((af,[],()),(af,[],()),()),((af,[],()),(af,[],()),()),((af,[],()),(af,[],()),()),()),5,())else aB ((w (A.1.1+1),()),((((A.2.1.1.1.1.1,(),()),(A.2.1.1.1.2.1.1,(),()),()),((A.2.1.1.2.1.1.1,(),()),(A.2.1.1.2.1.2.1.1,(),()),()),((A.2.1.1.2.2.1.1.1,(),()),(A.2.1.1.2.2.1.2.1.1,(),()),()),((A.2.1.1.2.2.2.1.1.1,(),()),(A.2.1.1.2.2.2.1.2.1.1,(),()),()),((A.2.1.1.2.2.2.2.1.1.1,(),()),(A.2.1.1.2.2.2.2.1.2.1.1,(),()),()),((A.2.1.1.2.2.2.2.2.1.1.1,(),()),(A.2.1.1.2.2.2.2.2.1.2.1.1,(),()),()),()),I,()),())else((Nf A.2.1.2.1).bind λZ=>ab (Z,0,())).bind λa=>az a
def Nd(x:List bQ)(J:bQ)(A:dc×(Gy×Unit)×Unit):Option (dc×(Gy×Unit)×Unit⊕bQ×dc):=bif ak A.1.1 ↑x.length then aQ x A.1.1 λU=>(tK U).bind λZ=>bif !Z then az ((((af,[],()),(af,[],()),()),((af,[],()),(af,[],()),()),((af,[],()),(af,[],()),()),((af,[],()),(af,[],()),()),((af,[],()),(af,[],()),()),((af,[],()),(af,[],()),()),()),5,())else aB ((w (A.1.1+1),()),((((A.2.1.1.1.1.1,(),()),(A.2.1.1.1.2.1.1,(),()),()),((A.2.1.1.2.1.1.1,(),()),(A.2.1.1.2.1.2.1.1,(),()),()),((A.2.1.1.2.2.1.1.1,(),()),(A.2.1.1.2.2.1.2.1.1,(),()),()),((A.2.1.1.2.2.2.1.1.1,(),()),(A.2.1.1.2.2.2.1.2.1.1,(),()),()),((A.2.1.1.2.2.2.2.1.1.1,(),()),(A.2.1.1.2.2.2.2.1.2.1.1,(),()),()),((A.2.1.1.2.2.2.2.2.1.1.1,(),()),(A.2.1.1.2.2.2.2.2.1.2.1.1,(),()),()),()),()),())else(aA (GP x) ((0,()),((((A.2.1.1.1.1.1,(),()),(A.2.1.1.1.2.1.1,(),()),()),((A.2.1.1.2.1.1.1,(),()),(A.2.1.1.2.1.2.1.1,(),()),()),((A.2.1.1.2.2.1.1.1,(),()),(A.2.1.1.2.2.1.2.1.1,(),()),()),((A.2.1.1.2.2.2.1.1.1,(),()),(A.2.1.1.2.2.2.1.2.1.1,(),()),()),((A.2.1.1.2.2.2.2.1.1.1,(),()),(A.2.1.1.2.2.2.2.1.2.1.1,(),()),()),((A.2.1.1.2.2.2.2.2.1.1.1,(),()),(A.2.1.1.2.2.2.2.2.1.2.1.1,(),()),()),()),J,()),())).bind λI=>az I
def GO(x:List bQ):Option (bQ×dc):=GQ.bind λA=>aA (Nd x A) ((0,()),((((af,(),()),(af,(),()),()),((af,(),()),(af,(),()),()),((af,(),()),(af,(),()),()),((af,(),()),(af,(),()),()),((af,(),()),(af,(),()),()),((af,(),()),(af,(),()),()),()),()),())
def zG(x:bY)(A:(Int×List bQ×Unit)×fS):Option ((Int×List bQ×Unit)×fS⊕bQ×dc):=bif ai 0 A.1.1 then aQ x.2.2.2.1 A.1.1 λI=>aT (bW (A.1.2.1.length+[I.2.2.2.1].length) 384) ((Ly x A.1.1).bind λU=>aB ((U,cx A.1.2.1 [I.2.2.2.1],()),(),()))else((GO A.1.2.1).bind λJ=>ab (J.1,J.2.1,())).bind λZ=>az Z
def Ig(x:bY)(y:Int):Option (bQ×dc):=(A9 x).bind λA=>bif !A then ab ((((af,[],()),(af,[],()),()),((af,[],()),(af,[],()),()),((af,[],()),(af,[],()),()),((af,[],()),(af,[],()),()),((af,[],()),(af,[],()),()),((af,[],()),(af,[],()),()),()),18,())else(aW (ak y 0) (ab (ai (↑x.2.2.2.1.length) y))).bind λI=>bif I then ab ((((af,[],()),(af,[],()),()),((af,[],()),(af,[],()),()),((af,[],()),(af,[],()),()),((af,[],()),(af,[],()),()),((af,[],()),(af,[],()),()),((af,[],()),(af,[],()),()),()),8,())else aA (zG x) ((y,[],()),(),())
def Ih(x:bY)(y:Int):Option ((bQ×jN)×bJ×Unit):=(Ig x y).bind λA=>(aW (aj A.2.1 18) (ab (aj A.2.1 8))).bind λI=>bif I then ab (((((af,[],()),(af,[],()),()),((af,[],()),(af,[],()),()),((af,[],()),(af,[],()),()),((af,[],()),(af,[],()),()),((af,[],()),(af,[],()),()),((af,[],()),(af,[],()),()),()),af,()),(0,0,0,(((af,[],()),(af,[],()),()),((af,[],()),(af,[],()),()),((af,[],()),(af,[],()),()),((af,[],()),(af,[],()),()),((af,[],()),(af,[],()),()),((af,[],()),(af,[],()),()),()),[],0,0,0,af,af,[],0,[],(0,0,0,0,[],0,()),[],(0,0,[],()),0,()),())else aQ x.2.2.2.1 y λJ=>ab ((A.1,aj A.2.1 0,()),J,())
def Ks(x:ct):Option hJ:=(pR x.1).bind λA=>aT (ai 0 (bif ai A 0 then 0 else A)&&ai (bif ai A 0 then 0 else A) ↑[x.2.1,x.2.2.1,x.2.2.2.1].length) (ab (aY (bif ai A 0 then 0 else A).toNat [x.2.1,x.2.2.1,x.2.2.2.1]))
def xF(x y:Int):vL:=(wM x).bind λI=>(wM y).bind λJ=>(xG I J).bind λA=>ab (A.1,A.2.1,())
def Qm(A I:DZ)(U:vP):MY:=(kH (!cJ Ty.bool A.1 I.1) U.1.1).bind λJ=>(pK J I).bind λZ=>(zV A Z).bind λa=>ab (J,a,0,())
def IJ(x y:DZ):MY:=(kH x.1 x.2.1).bind λI=>(kH y.1 y.2.1).bind λJ=>(divMod I.2.1 J.2.1).bind λA=>bif !aj A.2.2.1 0 then ab ((af,[],()),(af,[],()),A.2.2.1,())else bt ((aG (!cJ Ty.bool I.1 J.1) (ab (ak 0 ↑A.2.1.length))).bind λU=>bif U then(uh 1).bind λZ=>(Cj A.1 Z).bind λa=>aB ((a,()),(),())else aB ((A.1,()),(),())) (Qm I J)
def sL(x:DQ):mB:=(jc x).bind λA=>(IJ A.1 A.2.1).bind λI=>ab I.1
def uy(I:bq)(A:eB):Option (eB⊕aS⊕Int×jN):=(aG (ai 0 A.1.2.1) (ab (ai (↑I.length) 2))).bind λJ=>bif J then aQ I A.1.2.1 λU=>aB ((wu ↑((word .u64 (wu (A.1.1*4294967296))).lor (word .u64 (wu U))),w (A.1.2.1-1),()),(),())else az (bb ((A.1.1,()),(),()))
def aae(A:aS)(I:tF):yU:=ab (w A.1.1,ag,())
def IL(x:DZ)(I:bq)(A:aS):yU:=bt ((aW (ak 2 ↑I.length) (ab (ak 9223372036854775808 A.1.1))).bind λJ=>(aW J ((aG (aj A.1.1 9223372036854775808) (ab !x.1)).bind λU=>ab U)).bind λZ=>bif Z then az (0,af,())else bif x.1 then az (w (wu (0-A.1.1)),ag,())else aB ((),(),())) (aae A)
def ss(x:DZ):yU:=(sA x.2.1).bind λA=>bt (aA (uy A) ((0,w (↑A.length-1),()),(),())) (IL x A)
def GN(x:bQ)(y:aJ):GH:=(tK x).bind λd=>bif !d then ab ((0,0,()),5,())else(iS y).bind λe=>bif !e then ab ((0,0,()),6,())else(eM y.1).bind λf=>(eM y.2.1).bind λg=>(Cn x f g).bind λb=>(xF 1 2).bind λc=>(lB b.1 c.1).bind λh=>(sL h).bind λi=>(ss i).bind λI=>(lB b.2.1 c.1).bind λj=>(sL j).bind λJ=>(ss J).bind λA=>(aG I.2.1 (ab A.2.1)).bind λU=>(aG U ((iS (I.1,A.1,())).bind λZ=>ab Z)).bind λa=>bif a then ab ((I.1,A.1,()),0,())else ab ((0,0,()),6,())
def Sk(x:Int)(y:hJ):Option ct:=bif ak 0 ↑y.length then y[0]?.bind λA=>bif ak 1 ↑y.length then y[1]?.bind λI=>bif ak 2 ↑y.length then y[2]?.bind λU=>ab (x,A,I,U,())else ab (x,A,I,(0,0,()),())else bif ak 2 ↑y.length then y[2]?.bind λZ=>ab (x,A,(0,0,()),Z,())else ab (x,A,(0,0,()),(0,0,()),())else bif ak 1 ↑y.length then y[1]?.bind λJ=>bif ak 2 ↑y.length then y[2]?.bind λa=>ab (x,(0,0,()),J,a,())else ab (x,(0,0,()),J,(0,0,()),())else bif ak 2 ↑y.length then y[2]?.bind λb=>ab (x,(0,0,()),(0,0,()),b,())else ab (x,(0,0,()),(0,0,()),(0,0,()),())
def EC(y:bQ)(J:GK)(a:ct)(U:hJ)(A:tE):Option (tE⊕GK⊕jq×dc):=bif ak A.1.2.1 ↑U.length then aQ U A.1.2.1 λb=>(GN y b).bind λI=>bif !aj I.2.1 0 then az (cF ([],I.2.1,()))else aT (bW (A.1.1.length+[I.1].length) 16) (aB ((cx A.1.1 [I.1],w (A.1.2.1+1),()),(),()))else((Sk a.1 A.1.1).bind λZ=>aT (bW (J.1.1.length+[Z].length) 56) (aB ((cx J.1.1 [Z],w (J.1.2.1+1),()),(),()))).bind λc=>az c
def ED(x:jq)(y:bQ)(A:GK):Option (GK⊕jq×dc):=bif ak A.1.2.1 ↑x.length then aQ x A.1.2.1 λI=>(Ks I).bind λJ=>aA (EC y A I J) (([],0,()),(),())else az (A.1.1,0,())
def Kq(x:jq)(y:bQ):Option (jq×dc):=(xp x).bind λA=>bif !A then ab ([],10,())else aA (ED x y) (([],0,()),(),())
def De(x y z:aJ):cq:=ab (w (w (w (w (x.1-w (2*y.1))+z.1)*w (w (x.1-w (2*y.1))+z.1))+w (w (w (x.2.1-w (2*y.2.1))+z.2.1)*w (w (x.2.1-w (2*y.2.1))+z.2.1))))
def Dc(x y:Int)(A:aS):GG:=bif ai A.1.1 64 then bif ai x (w (w (w (w (w (w (16*A.1.1)*A.1.1)*A.1.1)*A.1.1)*y)*y))then az (A.1.1,0,())else aB ((w (A.1.1+1),()),(),())else az (0,11,())
def O3(x y:Int)(z:hJ)(A:aS):GG:=bif ak A.1.1 ↑z.length then aQ z A.1.1 λI=>(iS I).bind λJ=>bif !J then az (0,6,())else aB ((w (A.1.1+1),()),(),())else(aA (Dc x y) ((1,()),(),())).bind λU=>az U
def Db(x y:Int)(z:hJ):jo:=(aW (ak y 1) (ab (ak 256 y))).bind λA=>bif A then ab (0,2,())else aA (O3 x y z) ((0,()),(),())
def H6(x:rQ)(y:Int):jo:=(De x.1 x.2.1 x.2.2.1).bind λI=>(Db I y [x.1,x.2.1,x.2.2.1]).bind λA=>ab (A.1,A.2.1,())
def OZ(x:hJ)(y z:Int)(A:aS):kr:=bif ak A.1.1 ↑x.length then aQ x A.1.1 λI=>(iS I).bind λJ=>bif !J then az af else aB ((w (A.1.1+1),()),(),())else((aG (ai 1 z) (ab (ai z 64))).bind λU=>(aG U (ab (ai 0 y))).bind λZ=>(aG Z (ab (ai y z))).bind λa=>ab a).bind λb=>az b
def H7(x:hJ)(y z:Int):bD:=aA (OZ x y z) ((0,()),(),())
def pE(x y:Int):cq:=ky (w (2*y)) (ky (w (2*y)) (bif ak ((w (w (2*x)+y)).tmod (w (2*y))) 0 then ab (w (w ((w (w (2*x)+y)).tdiv (w (2*y)))-1))else ab (w ((w (w (2*x)+y)).tdiv (w (2*y))))))
def uf(x:rQ)(y z:Int):jo:=(H7 [x.1,x.2.1,x.2.2.1] y z).bind λA=>bif !A then ab (0,0,())else(pE (w (w (w (w (w (z-y)*w (z-y))*x.1.1)+w (w (w (2*y)*w (z-y))*x.2.1.1))+w (w (y*y)*x.2.2.1.1))) (w (z*z))).bind λI=>(pE (w (w (w (w (w (z-y)*w (z-y))*x.1.2.1)+w (w (w (2*y)*w (z-y))*x.2.1.2.1))+w (w (y*y)*x.2.2.1.2.1))) (w (z*z))).bind λJ=>ab (I,J,())
def Da(x:rQ)(I:aJ)(A:GB):Option (GB⊕vQ):=bif ai A.1.1 I.1 then(uf x A.1.1 I.1).bind λJ=>aT (bW (A.2.1.1.length+[J].length) 16) (aB ((w (A.1.1+1),()),(cx A.2.1.1 [J],()),()))else az (A.2.1.1,0,())
def H5(x:rQ)(y:Int):Option vQ:=(H6 x y).bind λA=>bif !aj A.2.1 0 then ab ([],A.2.1,())else aA (Da x A) ((1,()),([],()),())
def H3(x:aJ×rQ)(y:Int):jo:=(De x.1 x.2.1 x.2.2.1).bind λA=>(De x.2.1 x.2.2.1 x.2.2.2.1).bind λI=>(Db (w (9*bif ai A I then I else A)) y [x.1,x.2.1,x.2.2.1,x.2.2.2.1]).bind λJ=>ab (J.1,J.2.1,())
def ue(x:aJ×rQ)(y z:Int):jo:=(H7 [x.1,x.2.1,x.2.2.1,x.2.2.2.1] y z).bind λA=>bif !A then ab (0,0,())else(pE (w (w (w (w (w (w (w (z-y)*w (z-y))*w (z-y))*x.1.1)+w (w (w (w (3*y)*w (z-y))*w (z-y))*x.2.1.1))+w (w (w (w (3*y)*y)*w (z-y))*x.2.2.1.1))+w (w (w (y*y)*y)*x.2.2.2.1.1))) (w (w (z*z)*z))).bind λI=>(pE (w (w (w (w (w (w (w (z-y)*w (z-y))*w (z-y))*x.1.2.1)+w (w (w (w (3*y)*w (z-y))*w (z-y))*x.2.1.2.1))+w (w (w (w (3*y)*y)*w (z-y))*x.2.2.1.2.1))+w (w (w (y*y)*y)*x.2.2.2.1.2.1))) (w (w (z*z)*z))).bind λJ=>ab (I,J,())
def C8(x:aJ×rQ)(I:aJ)(A:GB):Option (GB⊕vQ):=bif ai A.1.1 I.1 then(ue x A.1.1 I.1).bind λJ=>aT (bW (A.2.1.1.length+[J].length) 16) (aB ((w (A.1.1+1),()),(cx A.2.1.1 [J],()),()))else az (A.2.1.1,0,())
def H2(x:aJ×rQ)(y:Int):Option vQ:=(H3 x y).bind λA=>bif !aj A.2.1 0 then ab ([],A.2.1,())else aA (C8 x A) ((1,()),([],()),())
def H8(x:aJ)(y:ct)(z:Int):Option vQ:=bif aj y.1 3 then(H5 (x,y.2.1,y.2.2.1,()) z).bind λA=>ab (A.1,A.2.1,())else bif aj y.1 4 then(H2 (x,y.2.1,y.2.2.1,y.2.2.2.1,()) z).bind λI=>ab (I.1,I.2.1,())else ab ([y.2.1],0,())
def zF(a:B4)(Z:vQ)(A:VM):Option (VM⊕B4⊕y4):=bif ak A.1.1 ↑Z.1.length then aQ Z.1 A.1.1 λI=>(aW (aj (↑A.2.1.1.2.1.1.length) 0) (aN A.2.1.1.2.1.1 (w (↑A.2.1.1.2.1.1.length-1)) λJ=>ab !cJ (Ty.st 2 ((Ty.int .i64).cn ((Ty.int .i64).cn Ty.nl))) J I)).bind λU=>bif U then aT (bW (A.2.1.1.2.1.1.length+[I].length) 16) (aB ((w (A.1.1+1),()),((A.2.1.1.1,(cx A.2.1.1.2.1.1 [I],A.2.1.1.2.1.2.1,()),()),()),()))else aB ((w (A.1.1+1),()),((A.2.1.1.1,(A.2.1.1.2.1.1,A.2.1.1.2.1.2.1,()),()),()),())else az (bb (((A.2.1.1.1,(A.2.1.1.2.1.1,A.2.1.1.2.1.2.1,()),()),w (a.1.2.1+1),()),(),()))
def C9(I:B4)(A:eB):Option (eB⊕y4):=bif ak A.1.2.1 ↑(cx I.1.1.1 [(I.1.1.2.1.1,I.1.1.2.1.2.1,())]).length then aN (cx I.1.1.1 [(I.1.1.2.1.1,I.1.1.2.1.2.1,())]) A.1.2.1 λJ=>aB ((w (A.1.1+↑J.1.length),w (A.1.2.1+1),()),(),())else(bif ak 4096 A.1.1 then ab ([],5,())else ab (cx I.1.1.1 [(I.1.1.2.1.1,I.1.1.2.1.2.1,())],0,())).bind λU=>az U
def qF(x:jq)(y:Int)(s4:B4):Option (B4⊕y4):=bif ak s4.1.2.1 ↑x.length then aQ x s4.1.2.1 λA=>bif aj A.1 1 then aT (bW ((cx s4.1.1.1 [(s4.1.1.2.1.1,s4.1.1.2.1.2.1,())]).length+1) 32) (aB (((cx s4.1.1.1 [(s4.1.1.2.1.1,s4.1.1.2.1.2.1,())],([A.2.1],af,()),()),w (s4.1.2.1+1),()),(),()))else aT (aj (w (↑(s4.1.1.1.length+1)-1)) ↑s4.1.1.1.length) (bif !aj A.1 5 then aN s4.1.1.2.1.1 (w (↑s4.1.1.2.1.1.length-1)) λb=>(H8 b A y).bind λI=>bif !aj I.2.1 0 then az ([],I.2.1,())else aA (zF s4 I) ((0,()),((s4.1.1.1,(s4.1.1.2.1.1,s4.1.1.2.1.2.1,()),()),()),())else(aG (ak 1 ↑s4.1.1.2.1.1.length) (aN s4.1.1.2.1.1 (w (↑s4.1.1.2.1.1.length-1)) λJ=>aT (ak 0 ↑s4.1.1.2.1.1.length) (s4.1.1.2.1.1[0]?.bind λU=>ab (cJ (Ty.st 2 ((Ty.int .i64).cn ((Ty.int .i64).cn Ty.nl))) J U)))).bind λZ=>bif Z then aT (ai 0 (w (↑s4.1.1.2.1.1.length-1))&&ai (w (↑s4.1.1.2.1.1.length-1)) ↑s4.1.1.2.1.1.length) (aT (ak 0 ↑s4.1.1.2.1.1.length) (aB (((s4.1.1.1,(aY (w (↑s4.1.1.2.1.1.length-1)).toNat s4.1.1.2.1.1,ag,()),()),w (s4.1.2.1+1),()),(),())))else aB (((s4.1.1.1,(s4.1.1.2.1.1,ag,()),()),w (s4.1.2.1+1),()),(),()))else(aA (C9 s4) ((0,0,()),(),())).bind λa=>az a
def al2(A:eB):Option (eB⊕y4):=bif ak A.1.2.1 0 then ae else(bif ak 4096 A.1.1 then ab ([],5,())else ab ([],0,())).bind λI=>az I
def YK(x:jq)(y:Int)(I:tF):Option y4:=bif ak 0 ↑x.length then x[0]?.bind λA=>aT (aj A.1 1) (aA (qF x y) ((([],([A.2.1],af,()),()),1,()),(),()))else aA al2 ((0,0,()),(),())
def H4(x:jq)(y:Int):Option y4:=bt ((xp x).bind λA=>bif !A then az ([],10,())else(aW (ak y 1) (ab (ak 256 y))).bind λI=>bif I then az ([],2,())else aB ((),(),())) (YK x y)
def EG(x:B7)(A:yW):Option (yW⊕eC):=bif ak A.1.2.1 ↑x.length then aQ x A.1.2.1 λI=>bif ai 3 ↑I.1.length then aT (bW I.1.length 16) (aT (bW (A.1.1.length+[I.1].length) 24) (aB ((cx A.1.1 [I.1],w (A.1.2.1+1),()),(),())))else aB ((A.1.1,w (A.1.2.1+1),()),(),())else az A.1.1
def Sn(x:B7):Option eC:=aA (EG x) (([],0,()),(),())
def Kc(x:jq)(y:bQ)(z:Int):Option (eC×dc):=(Kq x y).bind λA=>bif !aj A.2.1 0 then bif !aj A.2.1 0 then ab ([],A.2.1,())else ab ([],A.2.1,())else(H4 A.1 z).bind λI=>(Sn I.1).bind λJ=>bif !aj I.2.1 0 then ab ([],I.2.1,())else ab (J,I.2.1,())
def Pe(x:bQ×jN)(y:jq):Option eC:=bif !x.2.1 then ab []else(Kc y x.1 32).bind λA=>bif !aj A.2.1 0 then ab []else ab A.1
def qH(x:bY)(y:Int):Option (eC×jN):=(Ih x y).bind λA=>bif aj (↑A.2.1.2.2.2.2.1.length) 0 then ab ([],af,())else(Pe A.1 A.2.1.2.2.2.2.1).bind λI=>ab (I,ag,())
def JC(y:Int)(I A:qo):Option (qo⊕yY):=bif ak A.1.1 A.2.1.1.1.2.2.1 then aT (bW (A.2.1.1.2.1.length+[y].length) 1) (aB ((w (A.1.1+1),()),((A.2.1.1.1,cx A.2.1.1.2.1 [y],()),()),()))else az (bb ((w (I.1.1+1),()),((A.2.1.1.1,A.2.1.1.2.1,()),()),()))
def arS(y:Int)(A:qo):Option yY:=bif ak A.1.1 A.2.1.1.1.2.2.2.1 then aA (JC y A) ((A.2.1.1.1.1,()),((A.2.1.1.1,A.2.1.1.2.1,()),()),())else az ((A.2.1.1.1,A.2.1.1.2.1,()),0,())
def Ah(x:bB)(y:Int):vM:=(xH x).bind λI=>bif !I then ab (((0,0,0,0,()),[],()),6,())else(uW x).bind λJ=>bif ak 65536 J then ab (((0,0,0,0,()),[],()),5,())else(pW x).bind λA=>aA (arS y) ((A.2.1,()),((A,[],()),()),())
def So(x:aJ):bD:=(iS x).bind λA=>ab !A
def AK(I:hJ)(A:aS):kr:=bif ak A.1.1 ↑I.length then aQ I A.1.1 λJ=>(So J).bind λU=>bif U then az (ai 0 A.1.1)else aB ((w (A.1.1+1),()),(),())else az (ai 0 (-1))
def EJ(x:eC)(A:eB):MX:=bif ak A.1.2.1 ↑x.length then aQ x A.1.2.1 λI=>(aW (ak 4096 (w (A.1.1+↑I.length))) (aA (AK I) ((0,()),(),()))).bind λJ=>bif J then az af else aB ((w (A.1.1+↑I.length),w (A.1.2.1+1),()),(),())else az ag
def sC(x:eC):bD:=aA (EJ x) ((0,0,()),(),())
def avD(x:eC)(A:tE):Option (tE⊕hJ):=bif ak A.1.2.1 ↑x.length then aQ x A.1.2.1 λI=>aT (bW (A.1.1.length+I.length) 16) (aB ((cx A.1.1 I,w (A.1.2.1+1),()),(),()))else az A.1.1
def avE(x:eC)(A:tE):Option (tE⊕hJ):=bif ak A.1.2.1 ↑x.length then aQ x A.1.2.1 λI=>aT (bW (A.1.1.length+I.length) 16) (aB ((cx A.1.1 I,w (A.1.2.1+1),()),(),()))else az A.1.1
def afL(x:eC)(A:eB)(I:tF):Option hJ:=bif ak 0 (w (A.1.1-0))then aT (ak 0 (w (A.1.1-0))&&bW (w (A.1.1-0)).toNat 16) (aT (ak 0 ↑(bP (w (A.1.1-0)).toNat ((0,0,()):Int×Int×Unit)).length) (aA (avD x) ((aY 0 (bP (w (A.1.1-0)).toNat ((0,0,()):Int×Int×Unit)),0,()),(),())))else aA (avE x) (([],0,()),(),())
def avF(x:eC)(A:eB):Option (eB⊕hJ):=bif ak A.1.2.1 ↑x.length then aQ x A.1.2.1 λI=>bif ak (w (A.1.1+↑I.length)) 0 then ae else aB ((w (A.1.1+↑I.length),w (A.1.2.1+1),()),(),())else(bt (bif ak A.1.1 0 then ae else aB ((),(),())) (afL x A)).bind λJ=>az J
def TT(x:eC):Option hJ:=aA (avF x) ((0,0,()),(),())
def atw(x:eC)(J:hJ)(U:Bool)(Z a:aJ)(A:dc×yN×Unit):Option (dc×yN×Unit⊕aJ×aJ×jN):=bif ak A.1.1 ↑J.length then aQ J A.1.1 λI=>aB ((w (A.1.1+1),()),((bif ai A.2.1.1.1 I.1 then A.2.1.1.1 else I.1,bif ai A.2.1.1.2.1 I.2.1 then A.2.1.1.2.1 else I.2.1,()),(bif ai A.2.1.2.1.1 I.1 then I.1 else A.2.1.2.1.1,bif ai A.2.1.2.1.2.1 I.2.1 then I.2.1 else A.2.1.2.1.2.1,()),()),())else az (A.2.1.1,A.2.1.2.1,ag,())
def Sl(x:eC):Option (aJ×aJ×jN):=(TT x).bind λA=>(aW (aj (↑A.length) 0) ((sC x).bind λZ=>ab !Z)).bind λI=>bif I then ab ((0,0,()),(0,0,()),af,())else A[0]?.bind λJ=>A[0]?.bind λU=>aA (atw x A I J U) ((0,()),(J,U,()),())
def Ku(x:Int):cq:=ab ((w (w (x+256)-1)).fdiv 256)
def EH(x:eC):Cb:=(Sl x).bind λA=>bif !A.2.2.1 then ab (0,0,0,0,())else(Ku A.2.1.1).bind λI=>(Ku A.2.1.2.1).bind λJ=>(aW (ai I (A.1.1.fdiv 256)) (ab (ai J (A.1.2.1.fdiv 256)))).bind λU=>bif U then ab (0,0,0,0,())else ab (A.1.1.fdiv 256,A.1.2.1.fdiv 256,I,J,())
def Lf(x:bB)(y z:Int):bD:=(Fq x).bind λA=>(aG (!A) (ab (ai x.1 y))).bind λI=>(aG I (ab (ak y x.2.2.1))).bind λJ=>(aG J (ab (ai x.2.1 z))).bind λU=>(aG U (ab (ak z x.2.2.2.1))).bind λZ=>ab Z
def Fs(x:bB)(y z:Int):cq:=(Lf x y z).bind λA=>bif !A then ab (-1)else ab (w (w (w (w (z-x.2.1)*w (x.2.2.1-x.1))+y)-x.1))
def Cr(x:Int):bD:=(aW (ak x (-4096)) (ab (ak 4096 x))).bind λA=>ab A
def zc(x y:Int):jo:=(Cr x).bind λA=>(aW A ((Cr y).bind λI=>ab I)).bind λJ=>bif J then ab (1048577,0,())else ab (w (x*256),w (y*256),())
def Ny(x:eC)(y:Int):cq:=(sC x).bind λA=>bif !A then ab 12 else(aG (!aj y 1) (ab !aj y 2)).bind λI=>bif I then ab 2 else ab 0
def Lc(x y:DQ):iq:=(uV x y).bind λA=>(wL A.1 A.2.1).bind λI=>(wL A.2.2.1 A.2.2.1).bind λJ=>(sM I J).bind λU=>ab U
def LZ(x y:aJ):jo:=(rq x).bind λA=>(rq y).bind λI=>ab (w (A.1+I.1),w (A.2.1+I.2.1),())
def adM(y:aJ)(I:yW)(J:hJ)(A:tE):Option (tE⊕yW⊕eC):=bif ak A.1.2.1 ↑J.length then aQ J A.1.2.1 λZ=>(LZ Z y).bind λU=>aT (bW (A.1.1.length+[U].length) 16) (aB ((cx A.1.1 [U],w (A.1.2.1+1),()),(),()))else(aT (bW (I.1.1.length+[A.1.1].length) 24) (aB ((cx I.1.1 [A.1.1],w (I.1.2.1+1),()),(),()))).bind λa=>az a
def adN(x:eC)(y:aJ)(A:yW):Option (yW⊕eC):=bif ak A.1.2.1 ↑x.length then aQ x A.1.2.1 λI=>aA (adM y A I) (([],0,()),(),())else az A.1.1
def EI(x:eC)(y:aJ):Option eC:=(sC x).bind λA=>bif !A then ab []else aA (adN x y) (([],0,()),(),())
def Qr(x:aJ):bD:=(iS x).bind λA=>ab !A
def aan(x:hJ)(A:aS):kr:=bif ak A.1.1 ↑x.length then aQ x A.1.1 λI=>(Qr I).bind λJ=>bif J then az !ai 0 A.1.1 else aB ((w (A.1.1+1),()),(),())else az ag
def zX(x:hJ):bD:=aA (aan x) ((0,()),(),())
def zW(x y:Int):iq:=(xF x y).bind λA=>ab A.1
def wO(x y:Int)(z:DQ):iq:=(eM x).bind λA=>(eM (w (y-x))).bind λI=>(oR z I).bind λJ=>(lB A J).bind λU=>ab U
def Qp(x y:aJ)(z:DQ):Option (DQ×jN):=(eM (bif ai x.2.1 y.2.1 then x.2.1 else y.2.1)).bind λU=>(eM (bif ai x.2.1 y.2.1 then y.2.1 else x.2.1)).bind λZ=>(zX [x,y]).bind λa=>(aW (!a) (ab (aj x.2.1 y.2.1))).bind λb=>(aW b ((cX z U).bind λc=>ab (ak c 0))).bind λd=>(aW d ((cX z Z).bind λe=>ab (ak 0 e))).bind λf=>bif f then ab (((af,[],()),(af,[],()),()),af,())else(eM x.2.1).bind λg=>(uU z g).bind λh=>(zW 1 (w (y.2.1-x.2.1))).bind λA=>(oR h A).bind λI=>(wO x.1 y.1 I).bind λJ=>ab (J,ag,())
def Oe(x:Int):bD:=ab !aj x x
def Oc(x y:Int):cq:=(Oe x).bind λI=>(Oe y).bind λA=>bif I then bif A then ab 0 else ab (-1)else bif A then ab 1 else bif ak x y then ab (-1)else bif ak y x then ab 1 else ab 0
def Xj(x:bq)(A:aS):yT:=bif ak A.1.1 ↑x.length then aQ x A.1.1 λI=>bif !aj I 0 then az I else aB ((w (A.1.1+1),()),(),())else az 0
def Od(x:bq):cq:=aA (Xj x) ((0,()),(),())
def xV(x y:vO):cq:=(cX x.1 y.1).bind λA=>(Oc y.2.1 x.2.1).bind λI=>(Od [A,I]).bind λJ=>ab J
def af9{α:Type}(a b n:Int)(A:(Int×Unit)×Unit×List α×Unit):Option ((Int×Unit)×Unit×List α×Unit⊕Unit×List α×Int×Int×Int×(Unit×Unit)×Unit):=bif ak A.1.1 n then aN A.2.2.1 (w (b+A.1.1)) λI=>aN A.2.2.1 (w (a+A.1.1)) λJ=>aN A.2.2.1 (w (a+A.1.1)) λU=>aN (A.2.2.1.set (w (a+A.1.1)).toNat I) (w (b+A.1.1)) λZ=>aB ((w (A.1.1+1),()),(),(A.2.2.1.set (w (a+A.1.1)).toNat I).set (w (b+A.1.1)).toNat J,())else az ((),A.2.2.1,a,b,n,((),()),())
def Bf{α:Type}(d:List α)(a b n:Int):Option (Unit×List α×Int×Int×Int×(Unit×Unit)×Unit):=aA (af9 a b n) ((0,()),(),d,())
def ae2{α:Type}(b:Int)(A:aJ×Unit×List α×Unit):Option (aJ×Unit×List α×Unit⊕(Int×Unit)×Unit×List α×Unit⊕Unit×List α×Int×Int×Int×(Unit×Unit)×Unit):=bif !aj A.1.1 A.1.2.1 then bif ak A.1.2.1 A.1.1 then(Bf A.2.2.1 (w (b-A.1.1)) b A.1.2.1).bind λI=>aB ((w (A.1.1-A.1.2.1),A.1.2.1,()),(),I.2.1,())else(Bf A.2.2.1 (w (b-A.1.1)) (w (w (b+A.1.2.1)-A.1.1)) A.1.1).bind λJ=>aB ((A.1.1,w (A.1.2.1-A.1.1),()),(),J.2.1,())else az (bb ((A.1.1,()),(),A.2.2.1,()))
def ae3{α:Type}(a b n:Int)(A:(Int×Unit)×Unit×List α×Unit):Option (Unit×List α×Int×Int×Int×(Unit×Unit)×Unit):=(Bf A.2.2.1 (w (b-A.1.1)) b A.1.1).bind λI=>ab ((),I.2.1,a,b,n,((),()),())
def Ft{α:Type}(d:List α)(a b n:Int):Option (Unit×List α×Int×Int×Int×(Unit×Unit)×Unit):=bt (aA (ae2 b) ((w (b-a),w (n-b),()),(),d,())) (ae3 a b n)
def aaa{α:Type}(cm:α->α->Option Int)(a:Int)(A:(Int×Unit)×Unit×List α×Unit):Option ((Int×Unit)×Unit×List α×Unit⊕Unit×Unit×List α×Unit⊕(Int×Unit)×Unit×List α×Unit⊕Unit×List α×Int×Int×(Unit×Unit)×Unit):=(aG (ak a A.1.1) (aN A.2.2.1 A.1.1 λJ=>aN A.2.2.1 (w (A.1.1-1)) λU=>(cm J U).bind λZ=>ab (ak Z 0))).bind λb=>bif b then aN A.2.2.1 (w (A.1.1-1)) λI=>aN A.2.2.1 A.1.1 λc=>aN A.2.2.1 A.1.1 λd=>aN (A.2.2.1.set A.1.1.toNat I) (w (A.1.1-1)) λe=>aB ((w (A.1.1-1),()),(),(A.2.2.1.set A.1.1.toNat I).set (w (A.1.1-1)).toNat c,())else az (bb ((),(),A.2.2.1,()))
def aab{α:Type}(I:(Int×Unit)×Unit×List α×Unit)(A:Unit×Unit×List α×Unit):Option ((Int×Unit)×Unit×List α×Unit⊕Unit×List α×Int×Int×(Unit×Unit)×Unit):=aB ((w (I.1.1+1),()),(),A.2.2.1,())
def aac{α:Type}(cm:α->α->Option Int)(a b:Int)(A:(Int×Unit)×Unit×List α×Unit):Option ((Int×Unit)×Unit×List α×Unit⊕Unit×List α×Int×Int×(Unit×Unit)×Unit):=bif ak A.1.1 b then bt (aA (aaa cm a) ((A.1.1,()),(),A.2.2.1,())) (aab A)else az ((),A.2.2.1,a,b,((),()),())
def zU{α:Type}(cm:α->α->Option Int)(d:List α)(a b:Int):Option (Unit×List α×Int×Int×(Unit×Unit)×Unit):=aA (aac cm a b) ((w (a+1),()),(),d,())
def Uc{α:Type}(cm:α->α->Option Int)(d:List α)(a:Int)(A:eB):Option (aJ×Unit×Unit⊕(Int×Unit)×Unit×Unit⊕Unit×List α×Int×Int×Int×(Unit×Unit)×Unit):=bif ak A.1.1 A.1.2.1 then aN d (w ((wu (w (A.1.1+A.1.2.1))).fdiv 2)) λI=>aN d a λJ=>(cm I J).bind λU=>bif ak U 0 then aB ((w (w ((wu (w (A.1.1+A.1.2.1))).fdiv 2)+1),A.1.2.1,()),(),())else aB ((A.1.1,w ((wu (w (A.1.1+A.1.2.1))).fdiv 2),()),(),())else az (bb ((A.1.1,()),(),()))
def agc{α:Type}(a b n:Int)(J:aS)(A:(Int×Unit)×Unit×List α×Unit):Option ((Int×Unit)×Unit×List α×Unit⊕Unit×List α×Int×Int×Int×(Unit×Unit)×Unit):=bif ak A.1.1 (w (J.1.1-1))then aN A.2.2.1 (w (A.1.1+1)) λI=>aN A.2.2.1 A.1.1 λU=>aN A.2.2.1 A.1.1 λZ=>aN (A.2.2.1.set A.1.1.toNat I) (w (A.1.1+1)) λc=>aB ((w (A.1.1+1),()),(),(A.2.2.1.set A.1.1.toNat I).set (w (A.1.1+1)).toNat U,())else az ((),A.2.2.1,a,b,n,((),()),())
def agd{α:Type}(d:List α)(a b n:Int)(A:aS):Option (Unit×List α×Int×Int×Int×(Unit×Unit)×Unit):=aA (agc a b n A) ((a,()),(),d,())
def Ue{α:Type}(cm:α->α->Option Int)(d:List α)(b:Int)(A:eB):Option (aJ×Unit×Unit⊕(Int×Unit)×Unit×Unit⊕Unit×List α×Int×Int×Int×(Unit×Unit)×Unit):=bif ak A.1.1 A.1.2.1 then aN d b λI=>aN d (w ((wu (w (A.1.1+A.1.2.1))).fdiv 2)) λJ=>(cm I J).bind λU=>bif !ak U 0 then aB ((w (w ((wu (w (A.1.1+A.1.2.1))).fdiv 2)+1),A.1.2.1,()),(),())else aB ((A.1.1,w ((wu (w (A.1.1+A.1.2.1))).fdiv 2),()),(),())else az (bb ((A.1.1,()),(),()))
def age{α:Type}(a b n:Int)(J:aS)(A:(Int×Unit)×Unit×List α×Unit):Option ((Int×Unit)×Unit×List α×Unit⊕Unit×List α×Int×Int×Int×(Unit×Unit)×Unit):=bif ak J.1.1 A.1.1 then aN A.2.2.1 (w (A.1.1-1)) λI=>aN A.2.2.1 A.1.1 λU=>aN A.2.2.1 A.1.1 λZ=>aN (A.2.2.1.set A.1.1.toNat I) (w (A.1.1-1)) λc=>aB ((w (A.1.1-1),()),(),(A.2.2.1.set A.1.1.toNat I).set (w (A.1.1-1)).toNat U,())else az ((),A.2.2.1,a,b,n,((),()),())
def agf{α:Type}(d:List α)(a b n:Int)(A:aS):Option (Unit×List α×Int×Int×Int×(Unit×Unit)×Unit):=aA (age a b n A) ((b,()),(),d,())
def agh{α:Type}(cm:α->α->Option Int)(d:List α)(a b n:Int)(A:eB):Option (aJ×Unit×Unit⊕(Int×Unit)×Unit×Unit⊕Unit×List α×Int×Int×Int×(Unit×Unit)×Unit):=bif ak A.1.1 A.1.2.1 then aN d (w (w (w (w ((wu (w (a+n))).fdiv 2)+b)-1)-w ((wu (w (A.1.1+A.1.2.1))).fdiv 2))) λI=>aN d (w ((wu (w (A.1.1+A.1.2.1))).fdiv 2)) λJ=>(cm I J).bind λU=>bif !ak U 0 then aB ((w (w ((wu (w (A.1.1+A.1.2.1))).fdiv 2)+1),A.1.2.1,()),(),())else aB ((A.1.1,w ((wu (w (A.1.1+A.1.2.1))).fdiv 2),()),(),())else az (bb ((A.1.1,()),(),()))
def Uf{α:Type}(F:List α->Int->Int->Int->Option (Unit×List α×Int×Int×Int×(Unit×Unit)×Unit))(a b n:Int)(A:aS)(I:Unit×Unit×List α×Unit):Option (Unit×List α×Int×Int×Int×(Unit×Unit)×Unit):=(aG (ak (w ((wu (w (a+n))).fdiv 2)) (w (w (w ((wu (w (a+n))).fdiv 2)+b)-A.1.1))) (ab (ak (w (w (w ((wu (w (a+n))).fdiv 2)+b)-A.1.1)) n))).bind λJ=>bif J then(F I.2.2.1 (w ((wu (w (a+n))).fdiv 2)) (w (w (w ((wu (w (a+n))).fdiv 2)+b)-A.1.1)) n).bind λU=>ab ((),U.2.1,a,b,n,((),()),())else ab ((),I.2.2.1,a,b,n,((),()),())
def Ug{α:Type}(F:List α->Int->Int->Int->Option (Unit×List α×Int×Int×Int×(Unit×Unit)×Unit))(a b n:Int)(A:aS)(I:Unit×Unit×List α×Unit):Option (Unit×List α×Int×Int×Int×(Unit×Unit)×Unit):=bt ((aG (ak a A.1.1) (ab (ak A.1.1 (w ((wu (w (a+n))).fdiv 2))))).bind λJ=>bif J then(F I.2.2.1 a A.1.1 (w ((wu (w (a+n))).fdiv 2))).bind λU=>aB ((),(),U.2.1,())else aB ((),(),I.2.2.1,())) (Uf F a b n A)
def Uh{α:Type}(F:List α->Int->Int->Int->Option (Unit×List α×Int×Int×Int×(Unit×Unit)×Unit))(d:List α)(a b n:Int)(A:aS):Option (Unit×List α×Int×Int×Int×(Unit×Unit)×Unit):=bt ((aG (ak A.1.1 b) (ab (ak b (w (w (w ((wu (w (a+n))).fdiv 2)+b)-A.1.1))))).bind λI=>bif I then(Ft d A.1.1 b (w (w (w ((wu (w (a+n))).fdiv 2)+b)-A.1.1))).bind λJ=>aB ((),(),J.2.1,())else aB ((),(),d,())) (Ug F a b n A)
def Ud{α:Type}(cm:α->α->Option Int)(F:List α->Int->Int->Int->Option (Unit×List α×Int×Int×Int×(Unit×Unit)×Unit))(d:List α)(a b n:Int)(A:eB):Option (Unit×List α×Int×Int×Int×(Unit×Unit)×Unit):=bt (aA (agh cm d a b n) ((A.1.1,A.1.2.1,()),(),())) (Uh F d a b n)
def Bg{α:Type}(cm:α->α->Option Int)(F:List α->Int->Int->Int->Option (Unit×List α×Int×Int×Int×(Unit×Unit)×Unit))(d:List α)(a b n:Int):Option (Unit×List α×Int×Int×Int×(Unit×Unit)×Unit):=bif aj (w (b-a)) 1 then bt (aA (Uc cm d a) ((b,n,()),(),())) (agd d a b n)else bif aj (w (n-b)) 1 then bt (aA (Ue cm d b) ((a,b,()),(),())) (agf d a b n)else bt (bif ak (w ((wu (w (a+n))).fdiv 2)) b then aB ((w (w (w ((wu (w (a+n))).fdiv 2)+b)-n),w ((wu (w (a+n))).fdiv 2),()),(),())else aB ((a,b,()),(),())) (Ud cm F d a b n)
def FN{α:Type}(cm:α->α->Option Int):List α->Int->Int->Int->Option (Unit×List α×Int×Int×Int×(Unit×Unit)×Unit):=Nat.rec (λ_ _ _ _=>ae) (λ_ F=>Bg cm F) 1099511627776
def afY{α:Type}(cm:α->α->Option Int)(n:Int)(A:aJ×Unit×List α×Unit):Option (aJ×Unit×List α×Unit⊕(Int×Unit)×Unit×List α×Unit⊕Unit×List α×Int×(Unit×Unit)×Unit):=bif ai A.1.2.1 n then(zU cm A.2.2.1 A.1.1 A.1.2.1).bind λI=>aB ((A.1.2.1,w (A.1.2.1+20),()),(),I.2.1,())else az (bb ((A.1.1,()),(),A.2.2.1,()))
def afZ{α:Type}(A:(Int×Unit)×Unit×List α×Unit)(I:Unit×Unit×List α×Unit):Option ((Int×Unit)×Unit×List α×Unit⊕Unit×List α×Int×(Unit×Unit)×Unit):=aB ((w (A.1.1*2),()),(),I.2.2.1,())
def af0{α:Type}(cm:α->α->Option Int)(n:Int)(I:(Int×Unit)×Unit×List α×Unit)(A:aJ×Unit×List α×Unit):Option (aJ×Unit×List α×Unit⊕(Int×Unit)×Unit×List α×Unit⊕Unit×List α×Int×(Unit×Unit)×Unit):=bif ai A.1.2.1 n then(FN cm A.2.2.1 A.1.1 (w (A.1.1+I.1.1)) A.1.2.1).bind λJ=>aB ((A.1.2.1,w (A.1.2.1+w (2*I.1.1)),()),(),J.2.1,())else(bt (bif ak (w (A.1.1+I.1.1)) n then(FN cm A.2.2.1 A.1.1 (w (A.1.1+I.1.1)) n).bind λU=>aB ((),(),U.2.1,())else aB ((),(),A.2.2.1,())) (afZ I)).bind λZ=>az Z
def af1{α:Type}(cm:α->α->Option Int)(n:Int)(A:(Int×Unit)×Unit×List α×Unit):Option ((Int×Unit)×Unit×List α×Unit⊕Unit×List α×Int×(Unit×Unit)×Unit):=bif ak A.1.1 n then aA (af0 cm n A) ((0,w (2*A.1.1),()),(),A.2.2.1,())else az ((),A.2.2.1,n,((),()),())
def af2{α:Type}(cm:α->α->Option Int)(n:Int)(A:(Int×Unit)×Unit×List α×Unit):Option (Unit×List α×Int×(Unit×Unit)×Unit):=(zU cm A.2.2.1 A.1.1 n).bind λI=>aA (af1 cm n) ((20,()),(),I.2.1,())
def FI{α:Type}(cm:α->α->Option Int)(d:List α)(n:Int):Option (Unit×List α×Int×(Unit×Unit)×Unit):=bt (aA (afY cm n) ((0,20,()),(),d,())) (af2 cm n)
def LJ{α:Type}(cm:α->α->Option Int)(d:List α):Option (Unit×List α×(Unit×Unit)×Unit):=(FI cm d ↑d.length).bind λA=>ab ((),A.2.1,((),()),())
abbrev avW:=@Bf (DQ×Int×Unit)
abbrev auP:=@Ft (DQ×Int×Unit)
abbrev anB:=@zU (DQ×Int×Unit) xV
abbrev avN:=@FI (DQ×Int×Unit) xV
abbrev afT:=@LJ (DQ×Int×Unit) xV
def afy(y:DQ)(b:yO)(J:hJ)(A:yO):Option (yO⊕yO⊕Ce):=bif ak A.1.1 ↑J.length then aQ J A.1.1 λU=>ky (↑J.length) (aQ J ((w (A.1.1+1)).tmod ↑J.length) λZ=>bif !cJ (Ty.st 2 ((Ty.int .i64).cn ((Ty.int .i64).cn Ty.nl))) U Z then(eM U.2.1).bind λc=>(cX c y).bind λd=>(eM Z.2.1).bind λe=>(cX e y).bind λa=>bif ai 0 (w (d*a))then aB ((w (A.1.1+1),()),(A.2.1.1,()),())else(Qp U Z y).bind λI=>bif I.2.1 then aT (bW (A.2.1.1.length+[(I.1,a,())].length) 72) (aB ((w (A.1.1+1),()),(cx A.2.1.1 [(I.1,a,())],()),()))else aB ((w (A.1.1+1),()),(A.2.1.1,()),())else aB ((w (A.1.1+1),()),(A.2.1.1,()),()))else az (bb ((w (b.1.1+1),()),(A.2.1.1,()),()))
def afz(y:DQ)(U:eC)(A:yO):Option (yO⊕Ce):=bif ak A.1.1 ↑U.length then aQ U A.1.1 λZ=>aA (afy y A Z) ((0,()),(A.2.1.1,()),())else((afT A.2.1.1).bind λI=>ab I.2.1).bind λJ=>az J
def Lv(x:eC)(y:DQ):Option Ce:=(EI x (0,0,())).bind λA=>aA (afz y A) ((0,()),([],()),())
def EF(x y:Int):bD:=ab !aj (w ↑((word .i64 x).land (word .i64 (lz (jV (jV [] 1 (-1)) 2 1) y 0)))) 0
def xU(x y:lL):cq:=(cX x.1 y.1).bind λA=>ab A
abbrev avX:=@Bf (lL)
abbrev auQ:=@Ft (lL)
abbrev anC:=@zU (lL) xU
abbrev avO:=@FI (lL) xU
abbrev afU:=@LJ (lL) xU
def afv(b:Unit×nC×fS×Unit)(A:GL):Option (GL⊕nC):=bif ak A.1.2.1 ↑b.2.1.length then aN b.2.1 A.1.2.1 λI=>(aW (aj (↑A.1.1.length) 0) (aN A.1.1 (w (↑A.1.1.length-1)) λc=>(cX c.2.1 I.1).bind λd=>ab (ak d 0))).bind λJ=>bif J then aT (bW (A.1.1.length+[I].length) 128) (aB ((cx A.1.1 [I],w (A.1.2.1+1),()),(),()))else aN A.1.1 (w (↑A.1.1.length-1)) λU=>(cX U.2.1 I.2.1).bind λZ=>bif ak Z 0 then aN A.1.1 (w (↑A.1.1.length-1)) λa=>aB ((A.1.1.set (w (↑A.1.1.length-1)).toNat (a.1,I.2.1,()),w (A.1.2.1+1),()),(),())else aB ((A.1.1,w (A.1.2.1+1),()),(),())else az A.1.1
def afw(x:nC)(A:GL):Option (GL⊕nC):=bif ak A.1.2.1 ↑x.length then aQ x A.1.2.1 λI=>(cX I.1 I.2.1).bind λa=>bif ak a 0 then(jc I.1).bind λU=>(jc I.2.1).bind λZ=>aT (bW (A.1.1.length+[(U,Z,())].length) 128) (aB ((cx A.1.1 [(U,Z,())],w (A.1.2.1+1),()),(),()))else aB ((A.1.1,w (A.1.2.1+1),()),(),())else((afU A.1.1).bind λb=>aA (afv b) (([],0,()),(),())).bind λJ=>az J
def FB(x:nC):Option nC:=aA (afw x) (([],0,()),(),())
def afx(y:Int)(J:Ce)(A:(nC×aJ)×fS):Option ((nC×aJ)×fS⊕nC):=bif ak A.1.2.2.1 ↑J.length then aQ J A.1.2.2.1 λI=>(aG (ak (w (A.1.2.2.1+1)) ↑J.length) ((EF (w (A.1.2.1+I.2.1)) y).bind λZ=>ab Z)).bind λa=>bif a then aQ J (w (A.1.2.2.1+1)) λU=>aT (bW (A.1.1.length+[(I.1,U.1,())].length) 128) (aB ((cx A.1.1 [(I.1,U.1,())],w (A.1.2.1+I.2.1),w (A.1.2.2.1+1),()),(),()))else aB ((A.1.1,w (A.1.2.1+I.2.1),w (A.1.2.2.1+1),()),(),())else((FB A.1.1).bind λb=>ab b).bind λc=>az c
def Lu(x:eC)(y:Int)(z:DQ):Option nC:=(Lv x z).bind λA=>aA (afx y A) (([],0,0,()),(),())
def Lt(x y:DQ)(z:Int):iq:=(cX x y).bind λA=>bif aj A z then ab x else ab y
def afu(y z:DQ)(I:nC)(A:dc×(DQ×Unit)×Unit):Option (dc×(DQ×Unit)×Unit⊕DQ):=bif ak A.1.1 ↑I.length then aQ I A.1.1 λJ=>(Lt J.1 y 1).bind λU=>(Lt J.2.1 z (-1)).bind λZ=>(cX U Z).bind λa=>bif ak a 0 then(uU Z U).bind λb=>(lB A.2.1.1 b).bind λc=>aB ((w (A.1.1+1),()),(c,()),())else aB ((w (A.1.1+1),()),(A.2.1.1,()),())else az A.2.1.1
def Ls(x:nC)(y z:DQ):iq:=(eM 0).bind λA=>(FB x).bind λI=>aA (afu y z I) ((0,()),(A,()),())
def Qq(x y:aJ)(z:Int):Option (DQ×jN):=(zX [x,y]).bind λA=>(aW (!A) (ab (aj x.1 y.1))).bind λI=>(aW I (ab (ak z (bif ai x.1 y.1 then x.1 else y.1)))).bind λJ=>(aW J (ab (ak (bif ai x.1 y.1 then y.1 else x.1) z))).bind λU=>bif U then ab (((af,[],()),(af,[],()),()),af,())else(zW (w (z-x.1)) (w (y.1-x.1))).bind λZ=>(wO x.2.1 y.2.1 Z).bind λa=>ab (a,ag,())
def Br(x y:aJ):jo:=(rq x).bind λA=>(rq y).bind λI=>ab (w (A.1-I.1),w (A.2.1-I.2.1),())
def wP(x y:aJ):cq:=ab (w (w (x.1*y.2.1)-w (x.2.1*y.1)))
def yc(x y:aJ):bD:=(rq x).bind λA=>(rq y).bind λI=>(aW (ak A.2.1 I.2.1) ((aG (aj A.2.1 I.2.1) (ab (ak A.1 I.1))).bind λJ=>ab J)).bind λU=>ab U
def IQ(x y:aJ):Option yN:=(yc y x).bind λA=>bif A then ab (y,x,())else ab (x,y,())
def aao(A I:Gz):GH:=(yc I.2.1.1 A.2.1.1).bind λJ=>bif J then ab ((0,0,()),0,())else bif cJ (Ty.st 2 ((Ty.int .i64).cn ((Ty.int .i64).cn Ty.nl))) A.2.1.1 I.2.1.1 then ab (A.2.1.1,1,())else ab ((0,0,()),2,())
def Qs(A I:yN)(J:Gz):GH:=bt ((yc I.2.1 A.2.1).bind λU=>bif U then aB ((),(I.2.1,()),())else aB ((),(A.2.1,()),())) (aao J)
def IU(x y z u:aJ):GH:=(IQ x y).bind λA=>(IQ z u).bind λI=>bt ((yc A.1 I.1).bind λJ=>bif J then aB ((),(I.1,()),())else aB ((),(A.1,()),())) (Qs A I)
def aam(x y:aJ)(J g:DQ)(A:dc×(qq×qq×Unit)×Unit):Option (dc×(qq×qq×Unit)×Unit⊕DQ×vO):=bif ak A.1.1 ↑[J,g].length then aN [J,g] A.1.1 λI=>(eM 0).bind λU=>(cX I U).bind λZ=>(aW (ak Z 0) ((eM 1).bind λa=>(cX I a).bind λb=>ab (ak 0 b))).bind λc=>bif c then az (((af,[],()),(af,[],()),()),((af,[],()),(af,[],()),()),0,())else aB ((w (A.1.1+1),()),(((A.2.1.1.1.1,(),()),(A.2.1.1.2.1.1,(),()),()),((A.2.1.2.1.1.1,(),()),(A.2.1.2.1.2.1.1,(),()),()),()),())else((wO x.1 y.1 J).bind λd=>(wO x.2.1 y.2.1 J).bind λe=>ab (d,e,1,())).bind λf=>az f
def Qo(x y z u c:aJ)(I:Gz):Option (DQ×vO):=(wP I.2.1.1 c).bind λJ=>(aW (!aj J 0) ((aG (cJ (Ty.st 2 ((Ty.int .i64).cn ((Ty.int .i64).cn Ty.nl))) I.2.1.1 (0,0,())) (ab !cJ (Ty.st 2 ((Ty.int .i64).cn ((Ty.int .i64).cn Ty.nl))) x z)).bind λU=>ab U)).bind λZ=>bif Z then ab (((af,[],()),(af,[],()),()),((af,[],()),(af,[],()),()),0,())else(IU x y z u).bind λA=>bif !aj A.2.1 1 then ab (((af,[],()),(af,[],()),()),((af,[],()),(af,[],()),()),A.2.1,())else(eM A.1.1).bind λa=>(eM A.1.2.1).bind λb=>ab (a,b,1,())
def IP(x y z u:aJ):Option (DQ×vO):=(zX [x,y,z,u]).bind λZ=>bif !Z then ab (((af,[],()),(af,[],()),()),((af,[],()),(af,[],()),()),0,())else(Br y x).bind λA=>(Br u z).bind λI=>(Br z x).bind λJ=>(wP A I).bind λU=>bif !aj U 0 then(wP J I).bind λa=>(zW a U).bind λb=>(wP J A).bind λc=>(zW c U).bind λd=>aA (aam x y b d) ((0,()),(((af,(),()),(af,(),()),()),((af,(),()),(af,(),()),()),()),())else bt (bif cJ (Ty.st 2 ((Ty.int .i64).cn ((Ty.int .i64).cn Ty.nl))) A (0,0,())then aB ((),(I,()),())else aB ((),(A,()),())) (Qo x y z u J)
def ajM(A:eB):cq:=([0,1,2,2,3,3,3,3,4,4,4,4,4,4,4,4,5,5,5,5,5,5,5,5,5,5,5,5,5,5,5,5,6,6,6,6,6,6,6,6,6,6,6,6,6,6,6,6,6,6,6,6,6,6,6,6,6,6,6,6,6,6,6,6,7,7,7,7,7,7,7,7,7,7,7,7,7,7,7,7,7,7,7,7,7,7,7,7,7,7,7,7,7,7,7,7,7,7,7,7,7,7,7,7,7,7,7,7,7,7,7,7,7,7,7,7,7,7,7,7,7,7,7,7,7,7,7,7,8,8,8,8,8,8,8,8,8,8,8,8,8,8,8,8,8,8,8,8,8,8,8,8,8,8,8,8,8,8,8,8,8,8,8,8,8,8,8,8,8,8,8,8,8,8,8,8,8,8,8,8,8,8,8,8,8,8,8,8,8,8,8,8,8,8,8,8,8,8,8,8,8,8,8,8,8,8,8,8,8,8,8,8,8,8,8,8,8,8,8,8,8,8,8,8,8,8,8,8,8,8,8,8,8,8,8,8,8,8,8,8,8,8,8,8,8,8,8,8,8,8,8,8,8,8,8,8]:List Nat)[(wr .u8 A.1.1).toNat]?.bind λI=>ab (w (A.1.2.1+w ↑I))
def ajN(A:eB):cq:=bt (bif ai 256 A.1.1 then aB ((A.1.1.fdiv 256,w (A.1.2.1+8),()),(),())else aB ((A.1.1,A.1.2.1,()),(),())) ajM
def WE(A:eB):cq:=bt (bif ai 65536 A.1.1 then aB ((A.1.1.fdiv 65536,w (A.1.2.1+16),()),(),())else aB ((A.1.1,A.1.2.1,()),(),())) ajN
def G9(x:Int):cq:=bt (bif ai 4294967296 x then aB ((x.fdiv 4294967296,32,()),(),())else aB ((x,0,()),(),())) WE
def vZ(x:Int):cq:=(G9 x).bind λA=>ab A
def LH(x:Int):cq:=(vZ (wu x)).bind λA=>bif ak A 0 then ae else ab (wu (1*↑(2^A.toNat.min 64)))
def as7(a:Int)(A:gG):Option (gG⊕B1⊕gG⊕rO):=(aG (ak a A.1.1) (aN A.2.2.1 A.1.1 λJ=>aN A.2.2.1 (w (A.1.1-1)) λU=>(cX J U).bind λZ=>ab (ak Z 0))).bind λb=>bif b then aN A.2.2.1 (w (A.1.1-1)) λI=>aN A.2.2.1 A.1.1 λc=>aN A.2.2.1 A.1.1 λd=>aN (A.2.2.1.set A.1.1.toNat I) (w (A.1.1-1)) λe=>aB ((w (A.1.1-1),()),(),(A.2.2.1.set A.1.1.toNat I).set (w (A.1.1-1)).toNat c,())else az (bb ((),(),A.2.2.1,()))
def as8(I:gG)(A:B1):GD:=aB ((w (I.1.1+1),()),(),A.2.2.1,())
def as9(a b:Int)(A:gG):GD:=bif ak A.1.1 b then bt (aA (as7 a) ((A.1.1,()),(),A.2.2.1,())) (as8 A)else az ((),A.2.2.1,a,b,((),()),())
def R8(d:dM)(a b:Int):Option rO:=aA (as9 a b) ((w (a+1),()),(),d,())
def Sh(a b f:Int)(A:gG)(I:aS):Option (gG⊕Cd):=aN A.2.2.1 (w (f+A.1.1)) λZ=>aN A.2.2.1 (w (f+I.1.1)) λc=>(cX Z c).bind λd=>bif !ak d 0 then az ((),A.2.2.1,a,b,f,((),()),())else aN A.2.2.1 (w (f+I.1.1)) λU=>aN A.2.2.1 (w (f+A.1.1)) λJ=>aN A.2.2.1 (w (f+A.1.1)) λe=>aN (A.2.2.1.set (w (f+A.1.1)).toNat U) (w (f+I.1.1)) λg=>aB ((I.1.1,()),(),(A.2.2.1.set (w (f+A.1.1)).toNat U).set (w (f+I.1.1)).toNat J,())
def adA(a b f:Int)(A:gG):Option (gG⊕Cd):=bif ai b (w (w (2*A.1.1)+1))then az ((),A.2.2.1,a,b,f,((),()),())else bt ((aG (ak (w (w (w (2*A.1.1)+1)+1)) b) (aN A.2.2.1 (w (f+w (w (2*A.1.1)+1))) λI=>aN A.2.2.1 (w (w (f+w (w (2*A.1.1)+1))+1)) λJ=>(cX I J).bind λU=>ab (ak U 0))).bind λZ=>bif Z then aB ((w (w (w (2*A.1.1)+1)+1),()),(),())else aB ((w (w (2*A.1.1)+1),()),(),())) (Sh a b f A)
def Ev(d:dM)(a b f:Int):Option Cd:=aA (adA a b f) ((a,()),(),d,())
def ac9(a b:Int)(A:gG):GD:=bif ai 0 A.1.1 then aN A.2.2.1 (w (a+A.1.1)) λI=>aN A.2.2.1 a λJ=>aN A.2.2.1 a λZ=>aN (A.2.2.1.set a.toNat I) (w (a+A.1.1)) λc=>(Ev ((A.2.2.1.set a.toNat I).set (w (a+A.1.1)).toNat J) 0 A.1.1 a).bind λU=>aB ((w (A.1.1-1),()),(),U.2.1,())else az ((),A.2.2.1,a,b,((),()),())
def ada(a b:Int)(A:gG):GD:=bif ai 0 A.1.1 then(Ev A.2.2.1 A.1.1 (w (b-a)) a).bind λI=>aB ((w (A.1.1-1),()),(),I.2.1,())else(aA (ac9 a b) ((w (w (b-a)-1),()),(),A.2.2.1,())).bind λJ=>az J
def Kh(d:dM)(a b:Int):Option rO:=aA (ada a b) ((w ((w (w (b-a)-1)).tdiv 2),()),(),d,())
def R6(a:Int)(A:yS)(I:aS):Option (yS⊕rO):=aN A.2.2.1 (w (a+I.1.1)) λJ=>aN A.2.2.1 A.1.1 λU=>aN A.2.2.1 A.1.1 λZ=>aN (A.2.2.1.set A.1.1.toNat J) (w (a+I.1.1)) λb=>aB ((w (A.1.1+1),()),(wu ↑((word .u64 (wu ↑((word .u64 (wu ↑((word .u64 A.2.1.1).xor (word .u64 (wu (A.2.1.1*8192)))))).xor (word .u64 ((wu ↑((word .u64 A.2.1.1).xor (word .u64 (wu (A.2.1.1*8192))))).fdiv 128))))).xor (word .u64 (wu (wu ↑((word .u64 (wu ↑((word .u64 A.2.1.1).xor (word .u64 (wu (A.2.1.1*8192)))))).xor (word .u64 ((wu ↑((word .u64 A.2.1.1).xor (word .u64 (wu (A.2.1.1*8192))))).fdiv 128)))*131072)))),()),(A.2.2.1.set A.1.1.toNat J).set (w (a+I.1.1)).toNat U,())
def ac8(a b I:Int)(A:yS):Option (yS⊕rO):=bif ai A.1.1 (w (w (a+w (w ((w (b-a)).tdiv 4)*2))+1))then bt (bif ai (w (b-a)) (w (wu ↑((word .u64 (wu ↑((word .u64 (wu ↑((word .u64 (wu ↑((word .u64 A.2.1.1).xor (word .u64 (wu (A.2.1.1*8192)))))).xor (word .u64 ((wu ↑((word .u64 A.2.1.1).xor (word .u64 (wu (A.2.1.1*8192))))).fdiv 128))))).xor (word .u64 (wu (wu ↑((word .u64 (wu ↑((word .u64 A.2.1.1).xor (word .u64 (wu (A.2.1.1*8192)))))).xor (word .u64 ((wu ↑((word .u64 A.2.1.1).xor (word .u64 (wu (A.2.1.1*8192))))).fdiv 128)))*131072)))))).land (word .u64 (wu (I-1))))))then aB ((w (w (wu ↑((word .u64 (wu ↑((word .u64 (wu ↑((word .u64 (wu ↑((word .u64 A.2.1.1).xor (word .u64 (wu (A.2.1.1*8192)))))).xor (word .u64 ((wu ↑((word .u64 A.2.1.1).xor (word .u64 (wu (A.2.1.1*8192))))).fdiv 128))))).xor (word .u64 (wu (wu ↑((word .u64 (wu ↑((word .u64 A.2.1.1).xor (word .u64 (wu (A.2.1.1*8192)))))).xor (word .u64 ((wu ↑((word .u64 A.2.1.1).xor (word .u64 (wu (A.2.1.1*8192))))).fdiv 128)))*131072)))))).land (word .u64 (wu (I-1)))))-w (b-a)),()),(),())else aB ((w (wu ↑((word .u64 (wu ↑((word .u64 (wu ↑((word .u64 (wu ↑((word .u64 A.2.1.1).xor (word .u64 (wu (A.2.1.1*8192)))))).xor (word .u64 ((wu ↑((word .u64 A.2.1.1).xor (word .u64 (wu (A.2.1.1*8192))))).fdiv 128))))).xor (word .u64 (wu (wu ↑((word .u64 (wu ↑((word .u64 A.2.1.1).xor (word .u64 (wu (A.2.1.1*8192)))))).xor (word .u64 ((wu ↑((word .u64 A.2.1.1).xor (word .u64 (wu (A.2.1.1*8192))))).fdiv 128)))*131072)))))).land (word .u64 (wu (I-1))))),()),(),())) (R6 a A)else az ((),A.2.2.1,a,b,((),()),())
def Ke(d:dM)(a b:Int):Option rO:=bif ai 8 (w (b-a))then(LH (w (b-a))).bind λA=>aA (ac8 a b A) ((w (w (a+w (w ((w (b-a)).tdiv 4)*2))-1),()),(wu (w (b-a)),()),d,())else ab ((),d,a,b,((),()),())
def Es(d:dM)(a b A:Int):Option (aJ×B2):=aN d b λI=>aN d a λJ=>(cX I J).bind λU=>bif ak U 0 then ab ((b,a,()),d,a,b,w (A+1),((),()),())else ab ((a,b,()),d,a,b,A,((),()),())
def Er(d:dM)(a b c U:Int):Option (Int×dM×Int×Int×MV):=(Es d a b U).bind λA=>(Es A.2.1 A.1.2.1 c A.2.2.2.2.1).bind λI=>(Es I.2.1 A.1.1 I.1.1 I.2.2.2.2.1).bind λJ=>ab (J.1.2.1,J.2.1,a,b,c,J.2.2.2.2.1,((),()),())
def AH(d:dM)(a I:Int):Option (Int×vK):=(Er d (w (a-1)) a (w (a+1)) I).bind λA=>ab (A.1,A.2.1,a,A.2.2.2.2.2.1,((),()),())
def R7(A:(Int×aJ)×dc×dM×Unit):Option (yS⊕aJ×vK):=(Er A.2.2.1 A.1.1 A.1.2.1 A.1.2.2.1 A.2.1.1).bind λI=>aB ((I.1,()),(I.2.2.2.2.2.1,()),I.2.1,())
def Kg(a b:Int)(A:yS):Option (aJ×vK):=bif aj A.2.1.1 0 then ab ((A.1.1,1,()),A.2.2.1,a,b,((),()),())else bif aj A.2.1.1 12 then ab ((A.1.1,2,()),A.2.2.1,a,b,((),()),())else ab ((A.1.1,0,()),A.2.2.1,a,b,((),()),())
def Kf(d:dM)(a b:Int):Option (aJ×vK):=bt (bif ai 8 (w (b-a))then bt (bif ai 50 (w (b-a))then(AH d (w (a+w (w ((w (b-a)).tdiv 4)*1))) 0).bind λA=>(AH A.2.1 (w (a+w (w ((w (b-a)).tdiv 4)*2))) A.2.2.2.1).bind λI=>(AH I.2.1 (w (a+w (w ((w (b-a)).tdiv 4)*3))) I.2.2.2.1).bind λJ=>aB ((A.1,I.1,J.1,()),(J.2.2.2.1,()),J.2.1,())else aB ((w (a+w (w ((w (b-a)).tdiv 4)*1)),w (a+w (w ((w (b-a)).tdiv 4)*2)),w (a+w (w ((w (b-a)).tdiv 4)*3)),()),(0,()),d,())) R7 else aB ((w (a+w (w ((w (b-a)).tdiv 4)*2)),()),(0,()),d,())) (Kg a b)
def adz(a b:Int)(A:gW):Option (gW⊕rO):=bif ak A.1.1 A.1.2.1 then aN A.2.2.1 A.1.2.1 λI=>aN A.2.2.1 A.1.1 λJ=>aN A.2.2.1 A.1.1 λU=>aN (A.2.2.1.set A.1.1.toNat I) A.1.2.1 λZ=>aB ((w (A.1.1+1),w (A.1.2.1-1),()),(),(A.2.2.1.set A.1.1.toNat I).set A.1.2.1.toNat J,())else az ((),A.2.2.1,a,b,((),()),())
def Kk(d:dM)(a b:Int):Option rO:=aA (adz a b) ((a,w (b-1),()),(),d,())
def adj(b:Int)(I:gW)(A:aS):Option (aS⊕aS⊕yV):=(aG (ak A.1.1 b) (aN I.2.2.1 A.1.1 λJ=>aN I.2.2.1 (w (A.1.1-1)) λU=>(cX J U).bind λZ=>ab !ak Z 0)).bind λa=>bif a then aB ((w (A.1.1+1),()),(),())else az (bb ((A.1.1,()),(),()))
def adk(A:gG):Option (gG⊕B1⊕yV):=bif ai 1 A.1.1 then aN A.2.2.1 A.1.1 λJ=>aN A.2.2.1 (w (A.1.1-1)) λU=>(cX J U).bind λZ=>bif !ak Z 0 then az (bb ((),(),A.2.2.1,()))else aN A.2.2.1 (w (A.1.1-1)) λI=>aN A.2.2.1 A.1.1 λa=>aN A.2.2.1 A.1.1 λb=>aN (A.2.2.1.set A.1.1.toNat I) (w (A.1.1-1)) λc=>aB ((w (A.1.1-1),()),(),(A.2.2.1.set A.1.1.toNat I).set (w (A.1.1-1)).toNat a,())else az (bb ((),(),A.2.2.1,()))
def adl(b:Int)(c:gW)(d:aS)(A:gG):Option (gG⊕yV):=bif ak A.1.1 b then aN A.2.2.1 A.1.1 λJ=>aN A.2.2.1 (w (A.1.1-1)) λU=>(cX J U).bind λZ=>bif !ak Z 0 then az (bb ((d.1.1,w (c.1.2.1+1),()),(),A.2.2.1,()))else aN A.2.2.1 (w (A.1.1-1)) λI=>aN A.2.2.1 A.1.1 λa=>aN A.2.2.1 A.1.1 λe=>aN (A.2.2.1.set A.1.1.toNat I) (w (A.1.1-1)) λf=>aB ((w (A.1.1+1),()),(),(A.2.2.1.set A.1.1.toNat I).set (w (A.1.1-1)).toNat a,())else az (bb ((d.1.1,w (c.1.2.1+1),()),(),A.2.2.1,()))
def Sc(b:Int)(J:gW)(I:aS)(A:B1):Option yV:=bif ai 2 (w (b-I.1.1))then aA (adl b J I) ((w (I.1.1+1),()),(),A.2.2.1,())else aB ((I.1.1,w (J.1.2.1+1),()),(),A.2.2.1,())
def adm(a b:Int)(I:gW)(A:aS):Option yV:=bif aj A.1.1 b then az (ag,I.2.2.1,a,b,((),()),())else bif ak (w (b-a)) 50 then az (af,I.2.2.1,a,b,((),()),())else aN I.2.2.1 (w (A.1.1-1)) λJ=>aN I.2.2.1 A.1.1 λU=>aN I.2.2.1 A.1.1 λc=>aN (I.2.2.1.set A.1.1.toNat J) (w (A.1.1-1)) λZ=>bt (bif ai 2 (w (A.1.1-a))then aA adk ((w (A.1.1-1),()),(),(I.2.2.1.set A.1.1.toNat J).set (w (A.1.1-1)).toNat U,())else aB ((),(),(I.2.2.1.set A.1.1.toNat J).set (w (A.1.1-1)).toNat U,())) (Sc b I A)
def adn(a b:Int)(A:gW):Option yV:=bif ak A.1.2.1 5 then bt (aA (adj b A) ((A.1.1,()),(),())) (adm a b A)else az (af,A.2.2.1,a,b,((),()),())
def Kj(d:dM)(a b:Int):Option (Bool×vK):=aA (adn a b) ((w (a+1),0,()),(),d,())
def ade(a:Int)(I:gW)(A:aS):Option (aS⊕aS⊕B9):=(aG (ai A.1.1 I.1.2.1) (aN I.2.2.1 a λJ=>aN I.2.2.1 A.1.1 λU=>(cX J U).bind λZ=>ab !ak Z 0)).bind λb=>bif b then aB ((w (A.1.1+1),()),(),())else az (bb ((A.1.1,()),(),()))
def adf(a:Int)(c:gW)(I A:aS):Option (aS⊕aS⊕B9):=(aG (ai I.1.1 A.1.1) (aN c.2.2.1 a λJ=>aN c.2.2.1 A.1.1 λU=>(cX J U).bind λZ=>ab (ak Z 0))).bind λb=>bif b then aB ((w (A.1.1-1),()),(),())else az (bb ((A.1.1,()),(),()))
def adg(a b p:Int)(J:gW)(A I:aS):Option B9:=bif ak I.1.1 A.1.1 then az (A.1.1,J.2.2.1,a,b,p,((),()),())else aN J.2.2.1 I.1.1 λU=>aN J.2.2.1 A.1.1 λZ=>aN J.2.2.1 A.1.1 λc=>aN (J.2.2.1.set A.1.1.toNat U) I.1.1 λd=>aB ((w (A.1.1+1),w (I.1.1-1),()),(),(J.2.2.1.set A.1.1.toNat U).set I.1.1.toNat Z,())
def adh(a b p:Int)(I:gW)(A:aS):Option B9:=bt (aA (adf a I A) ((I.1.2.1,()),(),())) (adg a b p I A)
def adi(a b p:Int)(A:gW):Option B9:=bt (aA (ade a A) ((A.1.1,()),(),())) (adh a b p A)
def Ki(d:dM)(a b p:Int):Option (Int×B2):=aN d p λA=>aN d a λI=>aN d a λJ=>aN (d.set a.toNat A) p λU=>aA (adi a b p) ((w (a+1),w (b-1),()),(),(d.set a.toNat A).set p.toNat I,())
def adp(d:dM)(a b p:Int)(I J:DQ)(A:aS):Option (aS⊕aS⊕vJ):=(aG (ai A.1.1 (w (b-1))) (aN ((d.set a.toNat I).set p.toNat J) A.1.1 λU=>aN ((d.set a.toNat I).set p.toNat J) a λZ=>(cX U Z).bind λc=>ab (ak c 0))).bind λe=>bif e then aB ((w (A.1.1+1),()),(),())else az (bb ((A.1.1,()),(),()))
def adq(d:dM)(a p:Int)(b c:DQ)(e A:aS):Option (aS⊕aS⊕vJ):=(aG (ai e.1.1 A.1.1) (aN ((d.set a.toNat b).set p.toNat c) A.1.1 λI=>aN ((d.set a.toNat b).set p.toNat c) a λJ=>(cX I J).bind λU=>ab !ak U 0)).bind λZ=>bif Z then aB ((w (A.1.1-1),()),(),())else az (bb ((A.1.1,()),(),()))
def adr(a:Int)(I:gW)(A:aS):Option (aS⊕aS⊕B6):=(aG (ai A.1.1 I.1.2.1) (aN I.2.2.1 A.1.1 λJ=>aN I.2.2.1 a λU=>(cX J U).bind λZ=>ab (ak Z 0))).bind λb=>bif b then aB ((w (A.1.1+1),()),(),())else az (bb ((A.1.1,()),(),()))
def ads(a:Int)(I:gW)(J A:aS):Option (aS⊕aS⊕B6):=(aG (ai J.1.1 A.1.1) (aN I.2.2.1 A.1.1 λU=>aN I.2.2.1 a λZ=>(cX U Z).bind λb=>ab !ak b 0)).bind λc=>bif c then aB ((w (A.1.1-1),()),(),())else az (bb ((A.1.1,()),(),()))
def adt(A:gW)(I J:aS):Option B6:=bif ak J.1.1 I.1.1 then az (bb ((J.1.1,()),(),A.2.2.1,()))else aN A.2.2.1 J.1.1 λU=>aN A.2.2.1 I.1.1 λZ=>aN A.2.2.1 I.1.1 λa=>aN (A.2.2.1.set I.1.1.toNat U) J.1.1 λb=>aB ((w (I.1.1+1),w (J.1.1-1),()),(),(A.2.2.1.set I.1.1.toNat U).set J.1.1.toNat Z,())
def adu(a:Int)(A:gW)(I:aS):Option B6:=bt (aA (ads a A I) ((A.1.2.1,()),(),())) (adt A I)
def adv(a:Int)(A:gW):Option B6:=bt (aA (adr a A) ((A.1.1,()),(),())) (adu a A)
def adw(a b p:Int)(A:gG):Option vJ:=aN A.2.2.1 a λI=>aN A.2.2.1 A.1.1 λJ=>aN A.2.2.1 A.1.1 λU=>aN (A.2.2.1.set A.1.1.toNat I) a λZ=>ab ((A.1.1,af,()),(A.2.2.1.set A.1.1.toNat I).set a.toNat J,a,b,p,((),()),())
def adx(d:dM)(a b p:Int)(I J:DQ)(U A:aS):Option vJ:=bif ak A.1.1 U.1.1 then aN ((d.set a.toNat I).set p.toNat J) a λZ=>aN ((d.set a.toNat I).set p.toNat J) A.1.1 λe=>aN ((d.set a.toNat I).set p.toNat J) A.1.1 λg=>aN (((d.set a.toNat I).set p.toNat J).set A.1.1.toNat Z) a λh=>ab ((A.1.1,ag,()),(((d.set a.toNat I).set p.toNat J).set A.1.1.toNat Z).set a.toNat e,a,b,p,((),()),())else aN ((d.set a.toNat I).set p.toNat J) A.1.1 λc=>aN ((d.set a.toNat I).set p.toNat J) U.1.1 λf=>aN ((d.set a.toNat I).set p.toNat J) U.1.1 λi=>aN (((d.set a.toNat I).set p.toNat J).set U.1.1.toNat c) A.1.1 λj=>bt (aA (adv a) ((w (U.1.1+1),w (A.1.1-1),()),(),(((d.set a.toNat I).set p.toNat J).set U.1.1.toNat c).set A.1.1.toNat f,())) (adw a b p)
def ady(d:dM)(a b p:Int)(A I:DQ)(J:aS):Option vJ:=bt (aA (adq d a p A I J) ((w (b-1),()),(),())) (adx d a b p A I J)
def Eu(d:dM)(a b p:Int):Option vJ:=aN d p λA=>aN d a λI=>aN d a λJ=>aN (d.set a.toNat A) p λU=>bt (aA (adp d a b p A I) ((w (a+1),()),(),())) (ady d a b p A I)
def Se(F:List DQ->Int->Int->Int->Option (Unit×List DQ×Int×Int×Int×(Unit×Unit)×Unit))(I:B3)(U:gG)(a:gW)(J:B1):GA:=(aG (ak 0 I.1.1) (aN J.2.2.1 (w (I.1.1-1)) λb=>aN J.2.2.1 a.1.1 λc=>(cX b c).bind λd=>ab !ak d 0)).bind λe=>bif e then(Ki J.2.2.1 I.1.1 I.1.2.1 a.1.1).bind λZ=>aB ((Z.1,I.1.2.1,U.1.1,I.1.2.2.2.1,I.1.2.2.2.2.1,()),(),Z.2.1,())else(Eu J.2.2.1 I.1.1 I.1.2.1 a.1.1).bind λA=>bif ak (w (A.1.1-I.1.1)) (w (I.1.2.1-A.1.1))then(F A.2.1 I.1.1 A.1.1 U.1.1).bind λf=>aB ((w (A.1.1+1),I.1.2.1,U.1.1,ai (w ((w (I.1.2.1-I.1.1)).tdiv 8)) (w (A.1.1-I.1.1)),A.1.2.1,()),(),f.2.1,())else(F A.2.1 (w (A.1.1+1)) I.1.2.1 U.1.1).bind λg=>aB ((I.1.1,A.1.1,U.1.1,ai (w ((w (I.1.2.1-I.1.1)).tdiv 8)) (w (I.1.2.1-A.1.1)),A.1.2.1,()),(),g.2.1,())
def Sf(F:List DQ->Int->Int->Int->Option (Unit×List DQ×Int×Int×Int×(Unit×Unit)×Unit))(a b l:Int)(I:B3)(U:gG)(J:gW):GA:=bt ((aG I.1.2.2.2.1 (ab I.1.2.2.2.2.1)).bind λZ=>(aG Z (ab (aj J.1.2.1 1))).bind λc=>bif c then(Kj J.2.2.1 I.1.1 I.1.2.1).bind λA=>bif A.1 then az (cF ((),A.2.1,a,b,l,((),()),()))else aB ((),(),A.2.1,())else aB ((),(),J.2.2.1,())) (Se F I U J)
def Sg(F:List DQ->Int->Int->Int->Option (Unit×List DQ×Int×Int×Int×(Unit×Unit)×Unit))(a b l:Int)(A:B3)(J:gG):GA:=(Kf J.2.2.1 A.1.1 A.1.2.1).bind λI=>bt (bif aj I.1.2.1 2 then(Kk I.2.1 A.1.1 A.1.2.1).bind λU=>aB ((w (w (A.1.2.1-1)-w (I.1.1-A.1.1)),1,()),(),U.2.1,())else aB ((I.1.1,I.1.2.1,()),(),I.2.1,())) (Sf F a b l A J)
def ado(F:List DQ->Int->Int->Int->Option (Unit×List DQ×Int×Int×Int×(Unit×Unit)×Unit))(a b l:Int)(A:B3):GA:=bif ai (w (A.1.2.1-A.1.1)) 12 then(R8 A.2.2.1 A.1.1 A.1.2.1).bind λI=>az ((),I.2.1,a,b,l,((),()),())else bif aj A.1.2.2.1 0 then(Kh A.2.2.1 A.1.1 A.1.2.1).bind λJ=>az ((),J.2.1,a,b,l,((),()),())else bt (bif !A.1.2.2.2.1 then(Ke A.2.2.1 A.1.1 A.1.2.1).bind λU=>aB ((w (A.1.2.2.1-1),()),(),U.2.1,())else aB ((A.1.2.2.1,()),(),A.2.2.1,())) (Sg F a b l A)
def Et(F:List DQ->Int->Int->Int->Option (Unit×List DQ×Int×Int×Int×(Unit×Unit)×Unit))(d:dM)(a b l:Int):Option Cd:=aA (ado F a b l) ((a,b,l,ag,ag,()),(),d,())
def Sd:List DQ->Int->Int->Int->Option (Unit×List DQ×Int×Int×Int×(Unit×Unit)×Unit):=Nat.rec (λ_ _ _ _=>ae) (λ_ F=>Et F) 1099511627776
def Kl(d:dM):Option (Unit×dM×fS×Unit):=(vZ (wu ↑d.length)).bind λA=>(Sd d 0 (↑d.length) A).bind λI=>ab ((),I.2.1,((),()),())
def aaf(b c:DQ)(d:rN)(a:hJ)(I:rN):Option (rN⊕rN⊕dM):=bif ak I.1.1 ↑a.length then aQ a I.1.1 λe=>(eM e.2.1).bind λA=>(cX b A).bind λJ=>(aG (ak J 0) ((cX A c).bind λU=>ab (ak U 0))).bind λZ=>bif Z then aT (bW (I.2.1.1.length+[A].length) 64) (aB ((w (I.1.1+1),()),(cx I.2.1.1 [A],()),()))else aB ((w (I.1.1+1),()),(I.2.1.1,()),())else az (bb ((w (d.1.1+1),()),(I.2.1.1,()),()))
def aag(f g:DQ)(I:qn)(U Z:aJ)(A:rN):VP:=bif ak A.1.1 ↑I.2.1.2.1.length then aN I.2.1.2.1 A.1.1 λa=>(IP a.1 a.2.1 U Z).bind λJ=>bif aj J.2.2.1 1 then(cX f J.2.1).bind λb=>(aG (ak b 0) ((cX J.2.1 g).bind λc=>ab (ak c 0))).bind λd=>bif d then aT (bW (A.2.1.1.length+[J.2.1].length) 64) (aB ((w (A.1.1+1),()),(cx A.2.1.1 [J.2.1],()),()))else aB ((w (A.1.1+1),()),(A.2.1.1,()),())else aB ((w (A.1.1+1),()),(A.2.1.1,()),())else(aT (bW (I.2.1.2.1.length+[(U,Z,())].length) 32) (aB ((w (I.1.1+1),()),(A.2.1.1,cx I.2.1.2.1 [(U,Z,())],()),()))).bind λe=>az e
def aah(y z:aJ)(f g:DQ)(Z:qn)(J U:aJ)(A:rN):VP:=bif ak A.1.1 ↑[y.1,z.1].length then aN [y.1,z.1] A.1.1 λa=>(Qq J U a).bind λI=>bif I.2.1 then(cX f I.1).bind λb=>(aG (ak b 0) ((cX I.1 g).bind λc=>ab (ak c 0))).bind λd=>bif d then aT (bW (A.2.1.1.length+[I.1].length) 64) (aB ((w (A.1.1+1),()),(cx A.2.1.1 [I.1],()),()))else aB ((w (A.1.1+1),()),(A.2.1.1,()),())else aB ((w (A.1.1+1),()),(A.2.1.1,()),())else(aA (aag f g Z J U) ((0,()),(A.2.1.1,()),())).bind λe=>az e
def aai(y z:aJ)(a b:DQ)(Z:qn)(I:hJ)(A:qn):Option (qn⊕qn⊕dM):=bif ak A.1.1 ↑I.length then aQ I A.1.1 λJ=>ky (↑I.length) (aQ I ((w (A.1.1+1)).tmod ↑I.length) λU=>bif !cJ (Ty.st 2 ((Ty.int .i64).cn ((Ty.int .i64).cn Ty.nl))) J U then aA (aah y z a b A J U) ((0,()),(A.2.1.1,()),())else aB ((w (A.1.1+1),()),(A.2.1.1,A.2.1.2.1,()),()))else az (bb ((w (Z.1.1+1),()),(A.2.1.1,A.2.1.2.1,()),()))
def aaj(I:gG)(A:gW):Option (gW⊕gG⊕dM):=bif ak A.1.2.1 ↑(I.2.2.1.length-I.1.1.toNat)then aT (ai 0 A.1.2.1&&ak A.1.2.1 ↑(I.2.2.1.length-I.1.1.toNat)) (A.2.2.1[I.1.1.toNat+A.1.2.1.toNat]?.bind λJ=>aT (ai 0 (w (A.1.2.1-1))&&ak (w (A.1.2.1-1)) ↑(I.2.2.1.length-I.1.1.toNat)) (A.2.2.1[I.1.1.toNat+(w (A.1.2.1-1)).toNat]?.bind λU=>(cX J U).bind λZ=>bif !aj Z 0 then aT (ai 0 A.1.2.1&&ak A.1.2.1 ↑(I.2.2.1.length-I.1.1.toNat)) (A.2.2.1[I.1.1.toNat+A.1.2.1.toNat]?.bind λa=>aN A.2.2.1 A.1.1 λc=>aB ((w (A.1.1+1),w (A.1.2.1+1),()),(),A.2.2.1.set A.1.1.toNat a,()))else aB ((A.1.1,w (A.1.2.1+1),()),(),A.2.2.1,())))else(aT (ai 0 A.1.1&&ai A.1.1 ↑A.2.2.1.length) (aT (ak 0 ↑A.2.2.1.length) (aT (ai 0 A.1.1&&ai A.1.1 ↑(pv (ab A.1.1.toNat) (A.2.2.1.length-A.1.1.toNat) ((af,[],()),(af,[],()),()) A.2.2.1).length) (az (aY A.1.1.toNat (pv (ab A.1.1.toNat) (A.2.2.1.length-A.1.1.toNat) ((af,[],()),(af,[],()),()) A.2.2.1)))))).bind λb=>az b
def Qn(A:gG):Option (gG⊕dM):=bif ak A.1.1 ↑A.2.2.1.length then aN A.2.2.1 A.1.1 λI=>aN A.2.2.1 (w (A.1.1-1)) λJ=>(cX I J).bind λU=>bif aj U 0 then aT (ai 0 A.1.1&&ai A.1.1 ↑A.2.2.1.length) (aA (aaj A) ((A.1.1,1,()),(),A.2.2.1,()))else aB ((w (A.1.1+1),()),(),A.2.2.1,())else az A.2.2.1
def aak(y z:aJ)(a b:DQ)(J:eC)(A:qn):Option (qn⊕dM):=bif ak A.1.1 ↑J.length then aQ J A.1.1 λU=>aA (aai y z a b A U) ((0,()),(A.2.1.1,A.2.1.2.1,()),())else((Kl A.2.1.1).bind λI=>bif ak (↑I.2.1.length) 2 then ab I.2.1 else aA Qn ((1,()),(),I.2.1,())).bind λZ=>az Z
def aal(x:eC)(y z:aJ)(U Z:DQ)(A:rN):Option (rN⊕dM):=bif ak A.1.1 ↑x.length then aQ x A.1.1 λa=>aA (aaf U Z A a) ((0,()),(A.2.1.1,()),())else((EI x (0,0,())).bind λI=>aA (aak y z U Z I) ((0,()),(A.2.1.1,[],()),())).bind λJ=>az J
def IM(x:eC)(y z:aJ):Option dM:=(sC x).bind λJ=>(aW (!J) ((zX [y,z]).bind λU=>ab !U)).bind λZ=>(aW Z (ab (ai z.2.1 y.2.1))).bind λa=>bif a then ab []else(eM y.2.1).bind λA=>(eM z.2.1).bind λI=>aA (aal x y z A I) ((0,()),([A,I],()),())
def Wh(J:dM)(A:VS):Option (VS⊕vO):=bif ak (w (A.1.1+1)) ↑J.length then aQ J A.1.1 λe=>aQ J (w (A.1.1+1)) λI=>(Lc e I).bind λU=>(Lu A.2.1.1 A.2.1.2.1 U).bind λZ=>(Ls Z A.2.1.2.2.2.1 A.2.1.2.2.2.2.1).bind λa=>(uU I e).bind λb=>(oR a b).bind λc=>(lB A.2.1.2.2.1 c).bind λd=>aB ((w (A.1.1+1),()),(A.2.1.1,A.2.1.2.1,d,A.2.1.2.2.2.1,A.2.1.2.2.2.2.1,()),())else az (A.2.1.2.2.1,0,())
def GZ(x:eC)(y:Int)(z u:aJ):vL:=(Ny x y).bind λA=>bif !aj A 0 then ab (((af,[],()),(af,[],()),()),A,())else(iS z).bind λJ=>(aW (!J) ((iS u).bind λU=>ab !U)).bind λZ=>bif Z then ab (((af,[],()),(af,[],()),()),6,())else(eM 0).bind λI=>bif ai u.1 z.1 then ab (I,0,())else(eM z.1).bind λa=>(eM u.1).bind λb=>(IM x z u).bind λc=>aA (Wh c) ((0,()),(x,y,I,a,b,()),())
def Ld(x y:DQ):vL:=(jc x).bind λA=>(jc y).bind λI=>(pK A.1 I.2.1).bind λU=>(pK A.2.1 I.1).bind λZ=>(xG U Z).bind λJ=>ab (J.1,J.2.1,())
def Nz(x:DQ)(y:Int):vL:=bif !aj y 0 then ab (((af,[],()),(af,[],()),()),y,())else(eM 65536).bind λA=>(Ld x A).bind λI=>ab (I.1,0,())
def Wi(x:eC)(y:Int)(J:aJ)(U:Gz):vL:=(GZ x y J U.2.1.1).bind λA=>(Nz A.1 A.2.1).bind λI=>ab (I.1,I.2.1,())
def Nx(x:eC)(y z u:Int):vL:=(zc z u).bind λA=>(zc z u).bind λI=>bt ((iS A).bind λJ=>bif J then(zc (w (z+1)) (w (u+1))).bind λU=>aB ((),(U,()),())else aB ((),(I,()),())) (Wi x y A)
def Ol(x:DQ):cq:=(xF 1 2).bind λA=>(eM 0).bind λI=>(cX x I).bind λJ=>bif ai J 0 then ab 0 else(eM 1).bind λU=>(cX x U).bind λZ=>bif ai 0 Z then ab 255 else(eM 255).bind λa=>(oR x a).bind λb=>(lB b A.1).bind λc=>(sL c).bind λd=>(ss d).bind λe=>ab (wr .u8 e.1)
def Hp(x:eC)(y z u:Int):cq:=(Nx x y z u).bind λA=>bif !aj A.2.1 0 then ab 0 else(Ol A.1).bind λI=>ab I
def Xn(x:eC)(y:Int)(J a:od)(U A:ec):Option (ec⊕ec⊕yQ):=bif ak A.1.1 (bif ai J.2.2.1 a.2.2.1 then J.2.2.1 else a.2.2.1)then(Fs J A.1.1 U.1.1).bind λI=>(Hp x y A.1.1 U.1.1).bind λZ=>aN A.2.2.1 I λb=>aB ((w (A.1.1+1),()),(),A.2.2.1.set I.toNat Z,())else az (bb ((w (U.1.1+1),()),(),A.2.2.1,()))
def Om(x:eC)(y:Int)(I J:od)(A:ec):Option (ec⊕yQ):=bif ak A.1.1 I.2.2.2.1 then(aW (ak A.1.1 J.2.1) (ab (ai J.2.2.2.1 A.1.1))).bind λU=>bif U then aB ((w (A.1.1+1),()),(),A.2.2.1,())else aA (Xn x y I J A) ((bif ai I.1 J.1 then J.1 else I.1,()),(),A.2.2.1,())else az ((I,A.2.2.1,()),0,())
def Xo(x:eC)(y:Int)(z:bB)(U:Unit×((od×fS)×Unit)×Unit):vM:=(pW z).bind λI=>(uW I).bind λA=>aT (ai 0 A&&(ai A A&&ai (A*1) 70368744177664)) ((EH x).bind λJ=>aA (Om x y I J) ((I.2.1,()),(),bP A.toNat (0:Int),()))
def zp(x:eC)(y:Int)(z:bB):vM:=bt ((sC x).bind λA=>bif !A then az (((0,0,0,0,()),[],()),12,())else(aG (!aj y 1) (ab !aj y 2)).bind λI=>bif I then az (((0,0,0,0,()),[],()),2,())else(xH z).bind λJ=>bif !J then az (((0,0,0,0,()),[],()),6,())else(uW z).bind λU=>bif ak 65536 U then az (((0,0,0,0,()),[],()),5,())else aB ((),(((0,0,0,0,()),(),()),()),())) (Xo x y z)
def CK(x:bY)(y:Int)(z:bB):vM:=(CL x y z).bind λA=>bif !aj A 0 then ab (((0,0,0,0,()),[],()),A,())else(qH x y).bind λI=>bif !I.2.1 then(Ah z 255).bind λJ=>ab (J.1,0,())else aQ x.2.2.2.1 y λU=>(zp I.1 U.2.2.2.2.2.1 z).bind λZ=>ab (Z.1,0,())
def AY(x:bQ):Option dM:=ab [x.1,x.2.1,x.2.2.1,x.2.2.2.1,x.2.2.2.2.1,x.2.2.2.2.2.1]
def aer(x:bq)(A:aS):yP:=(aG (ak 0 A.1.1) (aQ x (w (A.1.1-1)) λI=>ab (aj I 0))).bind λJ=>bif J then aB ((w (A.1.1-1),()),(),())else az (bb ((A.1.1,()),(),()))
def SS(x:bq)(J:aS)(A:tC):MZ:=bif ak A.1.2.1 J.1.1 then aQ x A.1.2.1 λI=>aT (bW (A.1.1.length+[I].length) 4) (aB ((cx A.1.1 [I],w (A.1.2.1+1),()),(),()))else az A.1.1
def atZ(x:bq)(A:aS):jm:=aA (SS x A) (([],0,()),(),())
def jx(x:bq):jm:=bt (aA (aer x) ((↑x.length,()),(),())) (atZ x)
def mZ(x:Bool)(y:bq):mB:=(jx y).bind λA=>(aG x (ab (ak 0 ↑A.length))).bind λI=>ab (I,A,())
def uS(x:DZ):cq:=(mZ x.1 x.2.1).bind λA=>bif aj (↑A.2.1.length) 0 then ab 0 else bif A.1 then ab (-1)else ab 1
def S4(x:Int)(A:aS):mB:=(mZ (ak x 0) [wr .u32 A.1.1,wr .u32 (A.1.1.fdiv 4294967296)]).bind λI=>ab I
def AV(x:Int):mB:=bt (bif ak x 0 then aB ((wu (0-wu x),()),(),())else aB ((wu x,()),(),())) (S4 x)
def oP(x:Int):iq:=(AV x).bind λA=>(AV 1).bind λI=>ab (A,I,())
def SK(A:eB):Option (eB⊕Int):=bif ak 0 A.1.2.1 then aB ((w (A.1.1+1),wr .u32 (A.1.2.1.tdiv 2),()),(),())else az A.1.1
def ER(x:bq):cq:=(jx x).bind λA=>bif aj (↑A.length) 0 then ab 0 else aQ A (w (↑A.length-1)) λI=>aA SK ((w (32*w (↑A.length-1)),I,()),(),())
def SZ(x:bq)(y:Int)(A:yR):M5:=bif ak A.1.2.2.1 ↑x.length then aQ x A.1.2.2.1 λI=>aT (bW (A.1.1.length+[wr .u32 (wu (wu (wu I*↑(2^(wu (y.tmod 32)).toNat.min 64))+A.1.2.1))].length) 4) (aB ((cx A.1.1 [wr .u32 (wu (wu (wu I*↑(2^(wu (y.tmod 32)).toNat.min 64))+A.1.2.1))],(wu (wu (wu I*↑(2^(wu (y.tmod 32)).toNat.min 64))+A.1.2.1)).fdiv 4294967296,w (A.1.2.2.1+1),()),(),()))else(aT (bW (A.1.1.length+[wr .u32 A.1.2.1].length) 4) ((jx (cx A.1.1 [wr .u32 A.1.2.1])).bind λJ=>ab J)).bind λU=>az U
def KK(x:bq)(y:Int):jm:=aT (ai 0 (w (y.tdiv 32))&&(ai (w (y.tdiv 32)) (w (y.tdiv 32))&&ai (w (y.tdiv 32)*4) 70368744177664)) (aA (SZ x y) ((bP (w (y.tdiv 32)).toNat (0:Int),0,0,()),(),()))
def l8(x:bq)(y:Int):cq:=(aW (ak y 0) (ab (ai (↑x.length) y))).bind λA=>bif A then ab 0 else aQ x y λI=>ab (wu I)
def SW(x:bq)(y:Int)(A:tC):MZ:=bif ak A.1.2.1 ↑x.length then(l8 x (w (A.1.2.1+1))).bind λI=>(l8 x A.1.2.1).bind λJ=>aT (bW (A.1.1.length+[wr .u32 ((wu (wu (I*4294967296)+J)).fdiv ↑(2^(wu ((w (0-y)).tmod 32)).toNat.min 64))].length) 4) (aB ((cx A.1.1 [wr .u32 ((wu (wu (I*4294967296)+J)).fdiv ↑(2^(wu ((w (0-y)).tmod 32)).toNat.min 64))],w (A.1.2.1+1),()),(),()))else((jx A.1.1).bind λU=>ab U).bind λZ=>az Z
def sI(x:bq)(y:Int):jm:=bif ai 0 y then(KK x (bif ai y 4096 then y else 4096)).bind λA=>ab A else bif ak y (w (-32*↑x.length))then ab []else aA (SW x y) (([],w ((w (0-y)).tdiv 32),()),(),())
def SY(x:bq)(y:Int)(A:yR):M5:=bif ak A.1.2.2.1 ↑x.length then aQ x A.1.2.2.1 λI=>aT (bW (A.1.1.length+[wr .u32 (wu (wu (wu I*y)+A.1.2.1))].length) 4) (aB ((cx A.1.1 [wr .u32 (wu (wu (wu I*y)+A.1.2.1))],(wu (wu (wu I*y)+A.1.2.1)).fdiv 4294967296,w (A.1.2.2.1+1),()),(),()))else(aT (bW (A.1.1.length+[wr .u32 A.1.2.1].length) 4) ((jx (cx A.1.1 [wr .u32 A.1.2.1])).bind λJ=>ab J)).bind λU=>az U
def KJ(x:bq)(y:Int):jm:=aA (SY x y) (([],0,0,()),(),())
def KE(x y:bq)(A:aS):yT:=bif ai 0 A.1.1 then(l8 x A.1.1).bind λI=>(l8 y A.1.1).bind λJ=>bif ak I J then az (-1)else(l8 x A.1.1).bind λU=>(l8 y A.1.1).bind λZ=>bif ak Z U then az 1 else aB ((w (A.1.1-1),()),(),())else az 0
def ES(x y:bq):cq:=aA (KE x y) ((w ((bif ai ↑x.length ↑y.length then ↑y.length else ↑x.length)-1),()),(),())
def SX(x y:bq)(A:yR):Option (yR⊕bq×jN):=bif ak A.1.2.2.1 ↑x.length then(l8 x A.1.2.2.1).bind λI=>(l8 y A.1.2.2.1).bind λJ=>aT (bW (A.1.1.length+[wr .u32 (wu (wu (wu (4294967296+I)-J)-A.1.2.1))].length) 4) (aB ((cx A.1.1 [wr .u32 (wu (wu (wu (4294967296+I)-J)-A.1.2.1))],wu (1-(wu (wu (wu (4294967296+I)-J)-A.1.2.1)).fdiv 4294967296),w (A.1.2.2.1+1),()),(),()))else((jx A.1.1).bind λU=>ab (U,ag,())).bind λZ=>az Z
def xx(x y:bq):GF:=(ES x y).bind λA=>bif ak A 0 then ab ([],af,())else aA (SX x y) (([],0,0,()),(),())
def SU(x y:bq)(A:(Int×tD)×fS):Option ((Int×tD)×fS⊕Int×tD):=(ES A.1.2.1 x).bind λI=>bif ak 0 I then(xx A.1.2.1 y).bind λJ=>aB ((wu (A.1.1-1),J.1,()),(),())else((xx x A.1.2.1).bind λU=>ab (A.1.1,U.1,())).bind λZ=>az Z
def EV(x y:bq):Option (Int×tD):=(l8 x ↑y.length).bind λI=>(l8 x (w (↑y.length-1))).bind λJ=>aQ y (w (↑y.length-1)) λA=>ky (wu A) ((KJ y (bif ai (wu ((wu (wu (I*4294967296)+J)).tdiv (wu A))) 4294967295 then wu ((wu (wu (I*4294967296)+J)).tdiv (wu A))else 4294967295)).bind λU=>aA (SU x y) ((bif ai (wu ((wu (wu (I*4294967296)+J)).tdiv (wu A))) 4294967295 then wu ((wu (wu (I*4294967296)+J)).tdiv (wu A))else 4294967295,U,()),(),()))
def SL(A:tC):Option (tC⊕vP⊕oj):=bif ak A.1.2.1 0 then aT (ai 0 A.1.2.1&&ak A.1.2.1 0) ae else az (bb ((A.1.1,()),(),()))
def KF(I:yX)(A:tC):Option (tC⊕vP⊕yX⊕oj):=bif ak A.1.2.1 ↑I.1.1.length then aQ I.1.1 A.1.2.1 λJ=>aT (bW (A.1.1.length+[J].length) 4) (aB ((cx A.1.1 [J],w (A.1.2.1+1),()),(),()))else az (bb ((A.1.1,()),(),()))
def aen(Z:bq)(A:yX)(J:vP):Option (yX⊕oj):=(jx J.1.1).bind λU=>(EV U Z).bind λI=>aN A.2.2.1 A.1.2.1 λa=>aB ((I.2.1,w (A.1.2.1-1),()),(),A.2.2.1.set A.1.2.1.toNat (wr .u32 I.1),())
def EU(a:bq)(b:Int)(c d:bq)(A:yX):Option (yX⊕oj):=bif ai 0 A.1.2.1 then aQ c A.1.2.1 λI=>bt (aA (KF A) (([I],0,()),(),())) (aen d A)else((jx A.2.2.1).bind λJ=>(sI A.1.1 (w (0-w (w (32*↑a.length)-b)))).bind λU=>ab (J,U,0,())).bind λZ=>az Z
def aeo(U:bq)(Z:Int)(A I:bq)(a:vP):nB:=(jx a.1.1).bind λb=>(EV b I).bind λJ=>aN (bP (nn ↑A.length) (0:Int)) (w (↑A.length-1)) λc=>aA (EU U Z A I) ((J.2.1,w (w (↑A.length-1)-1),()),(),(bP (nn ↑A.length) (0:Int)).set (w (↑A.length-1)).toNat (wr .u32 J.1),())
def ET(x y:bq):nB:=(jx y).bind λI=>bif aj (↑I.length) 0 then ab ([],[],9,())else(ER I).bind λJ=>(sI x (w (w (32*↑I.length)-J))).bind λA=>(sI I (w (w (32*↑I.length)-J))).bind λa=>aT (ai ↑A.length ↑A.length&&ai (↑A.length*4) 70368744177664) (bif ai 0 (w (↑A.length-1))then aQ A (w (↑A.length-1)) λb=>bt (aA SL (([b],0,()),(),())) (aeo I J A a)else(jx (bP (nn ↑A.length) (0:Int))).bind λU=>(sI [] (w (0-w (w (32*↑I.length)-J)))).bind λZ=>ab (U,Z,0,()))
def SN(A:GI):Option (GI⊕bq):=bif ak 0 ↑A.1.2.1.length then(ET A.1.1 A.1.2.1).bind λI=>aB ((A.1.2.1,I.2.1,()),(),())else az A.1.1
def KG(x y:bq):jm:=(jx x).bind λA=>(jx y).bind λI=>aA SN ((A,I,()),(),())
def xy(x:DZ):mB:=(mZ (!x.1) x.2.1).bind λA=>ab A
def SJ(x y:bq)(A:yR):M5:=bif ak A.1.2.2.1 (bif ai ↑x.length ↑y.length then ↑y.length else ↑x.length)then(l8 x A.1.2.2.1).bind λI=>(l8 y A.1.2.2.1).bind λJ=>aT (bW (A.1.1.length+[wr .u32 (wu (wu (I+J)+A.1.2.1))].length) 4) (aB ((cx A.1.1 [wr .u32 (wu (wu (I+J)+A.1.2.1))],(wu (wu (I+J)+A.1.2.1)).fdiv 4294967296,w (A.1.2.2.1+1),()),(),()))else(aT (bW (A.1.1.length+[wr .u32 A.1.2.1].length) 4) ((jx (cx A.1.1 [wr .u32 A.1.2.1])).bind λU=>ab U)).bind λZ=>az Z
def KD(x y:bq):jm:=aA (SJ x y) (([],0,0,()),(),())
def AU(x y:DZ):mB:=bif cJ Ty.bool x.1 y.1 then(KD x.2.1 y.2.1).bind λI=>(mZ x.1 I).bind λJ=>ab J else(xx x.2.1 y.2.1).bind λA=>bif A.2.1 then(mZ x.1 A.1).bind λU=>ab U else(xx y.2.1 x.2.1).bind λZ=>(mZ y.1 Z.1).bind λa=>ab a
def EY(x y:DZ):mB:=(xy y).bind λA=>(AU x A).bind λI=>ab I
def EX(x y:DZ):MY:=(uS y).bind λU=>bif aj U 0 then ab ((af,[],()),(af,[],()),9,())else(ET x.2.1 y.2.1).bind λI=>(mZ (!cJ Ty.bool x.1 y.1) I.1).bind λJ=>(mZ x.1 I.2.1).bind λA=>(aG (!cJ Ty.bool x.1 y.1) ((uS A).bind λZ=>ab !aj Z 0)).bind λa=>bif a then(AV 1).bind λb=>(EY J b).bind λc=>(AU A y).bind λd=>ab (c,d,0,())else ab (J,A,0,())
def S5(A:DZ)(I:Unit×DQ×Unit):iq:=(EX I.2.1.1 A).bind λJ=>(EX I.2.1.2.1 A).bind λU=>ab (J.1,U.1,())
def AX(x y:DZ):iq:=(KG x.2.1 y.2.1).bind λA=>(mZ af A).bind λI=>bt ((uS y).bind λJ=>bif ak J 0 then(xy x).bind λU=>(xy y).bind λZ=>aB ((),(U,Z,()),())else aB ((),(x,y,()),())) (S5 I)
def jy(x:DQ):iq:=(uS x.2.1).bind λA=>bif aj A 0 then(oP 0).bind λI=>ab I else(AX x.1 x.2.1).bind λJ=>ab J
def EW(x:DZ):cq:=(ER x.2.1).bind λA=>ab A
def KM(x:DQ):cq:=(jy x).bind λA=>(EW A.1).bind λI=>(EW A.2.1).bind λJ=>ab (bif ai I J then J else I)
def KR(I:dM)(A:aS):kr:=bif ak A.1.1 ↑I.length then aQ I A.1.1 λJ=>(KM J).bind λU=>bif ak 256 U then az af else aB ((w (A.1.1+1),()),(),())else az ag
def E5(x:bQ):bD:=(AY x).bind λA=>aA (KR A) ((0,()),(),())
def SP(x y:bq)(I:ec)(A:jO):Option (jO⊕ec⊕bq):=bif ak A.1.2.1 ↑y.length then aQ x I.1.1 λJ=>aQ y A.1.2.1 λU=>aN A.2.2.1 (w (I.1.1+A.1.2.1)) λZ=>aN A.2.2.1 (w (I.1.1+A.1.2.1)) λb=>aB (((wu (wu (wu (wu J*wu U)+wu Z)+A.1.1)).fdiv 4294967296,w (A.1.2.1+1),()),(),A.2.2.1.set (w (I.1.1+A.1.2.1)).toNat (wr .u32 (wu (wu (wu (wu J*wu U)+wu Z)+A.1.1))),())else(aN A.2.2.1 (w (I.1.1+↑y.length)) λc=>aB ((w (I.1.1+1),()),(),A.2.2.1.set (w (I.1.1+↑y.length)).toNat (wr .u32 A.1.1),())).bind λa=>az a
def SQ(x y:bq)(A:ec):Option (ec⊕bq):=bif ak A.1.1 ↑x.length then aA (SP x y A) ((0,0,()),(),A.2.2.1,())else((jx A.2.2.1).bind λI=>ab I).bind λJ=>az J
def KI(x y:bq):jm:=aT (ai 0 (w (w (↑x.length+↑y.length)+1))&&(ai (w (w (↑x.length+↑y.length)+1)) (w (w (↑x.length+↑y.length)+1))&&ai (w (w (↑x.length+↑y.length)+1)*4) 70368744177664)) (aA (SQ x y) ((0,()),(),bP (w (w (↑x.length+↑y.length)+1)).toNat (0:Int),()))
def qX(x y:DZ):mB:=(KI x.2.1 y.2.1).bind λA=>(mZ (!cJ Ty.bool x.1 y.1) A).bind λI=>ab I
def EZ(x y:DQ):iq:=(jy x).bind λA=>(jy y).bind λI=>(qX A.1 I.1).bind λJ=>(qX A.2.1 I.2.1).bind λU=>(AX J U).bind λZ=>ab Z
def KN(x:DQ):iq:=(jy x).bind λA=>(xy A.1).bind λI=>ab (I,A.2.1,())
def KL(x y:DQ):iq:=(jy x).bind λA=>(jy y).bind λI=>(qX A.1 I.2.1).bind λJ=>(qX I.1 A.2.1).bind λU=>(AU J U).bind λZ=>(qX A.2.1 I.2.1).bind λa=>(AX Z a).bind λb=>ab b
def KP(x y:DQ):iq:=(KN y).bind λA=>(KL x A).bind λI=>ab I
def xD(x:bQ):iq:=(EZ x.1 x.2.2.2.1).bind λA=>(EZ x.2.1 x.2.2.1).bind λI=>(KP A I).bind λJ=>ab J
def S3(x y:DZ):cq:=(EY x y).bind λA=>(uS A).bind λI=>ab I
def xz(x y:DQ):cq:=(jy x).bind λA=>(jy y).bind λI=>(qX A.1 I.2.1).bind λJ=>(qX I.1 A.2.1).bind λU=>(S3 J U).bind λZ=>ab Z
def aev(x:Int)(A:jN×fS):cq:=bif A.1.1 then ab 1 else bif aj x 3 then ab 2 else bif aj x 4 then ab 3 else bif aj x 5 then ab 0 else ab (-1)
def KT(x:Int):cq:=bt (bif aj x 1 then aB ((aj x 1,()),(),())else aB ((aj x 2,()),(),())) (aev x)
def KU(x:jq)(y:Int):bD:=(aW (aj y 0) (aQ x (w (y-1)) λA=>ab (aj A.1 5))).bind λI=>bif I then aQ x y λJ=>ab (aj J.1 1)else aQ x y λU=>(aW (!aj U.1 5) (aQ x (w (y-1)) λZ=>ab !aj Z.1 1)).bind λa=>ab a
def Ta(x:ct):Option rQ:=ab (x.2.1,x.2.2.1,x.2.2.2.1,())
def oQ(x:aJ):bD:=(aG (ai (-1048576) x.1) (ab (ai x.1 1048576))).bind λA=>(aG A (ab (ai (-1048576) x.2.1))).bind λI=>(aG I (ab (ai x.2.1 1048576))).bind λJ=>ab J
def KV(x:jq)(y:Int):cq:=aQ x y λe=>(KT e.1).bind λA=>bif ak A 0 then ab 2 else(KU x y).bind λf=>bif !f then ab 10 else aQ x y λg=>(Ta g).bind λI=>(aG (ak 0 A) ((oQ I.1).bind λh=>ab !h)).bind λi=>(aW i ((aG (ai A 0) (ab !cJ (Ty.st 2 ((Ty.int .i64).cn ((Ty.int .i64).cn Ty.nl))) I.1 (0,0,()))).bind λj=>ab j)).bind λk=>bif k then ab 6 else(aG (ak 1 A) ((oQ I.2.1).bind λl=>ab !l)).bind λJ=>(aW J ((aG (ai A 1) (ab !cJ (Ty.st 2 ((Ty.int .i64).cn ((Ty.int .i64).cn Ty.nl))) I.2.1 (0,0,()))).bind λU=>ab U)).bind λZ=>bif Z then ab 6 else(aG (ak 2 A) ((oQ I.2.2.1).bind λa=>ab !a)).bind λb=>(aW b ((aG (ai A 2) (ab !cJ (Ty.st 2 ((Ty.int .i64).cn ((Ty.int .i64).cn Ty.nl))) I.2.2.1 (0,0,()))).bind λc=>ab c)).bind λd=>bif d then ab 6 else ab 0
def S9(x:jq)(A:aS):GG:=bif ak A.1.1 ↑x.length then(KV x A.1.1).bind λI=>bif !aj I 0 then az (I,A.1.1,())else aB ((w (A.1.1+1),()),(),())else az (0,0,())
def KS(x:jq):jo:=bif ak 256 ↑x.length then ab (5,256,())else aA (S9 x) ((0,()),(),())
def A0(x:jq):bD:=(KS x).bind λA=>ab (aj A.1 0)
def Ff(x:Int):bD:=(aW (aj x 1) (ab (aj x 2))).bind λA=>ab A
def Fc(x:bJ):bD:=(aG (aj (↑x.2.2.2.2.2.2.2.2.2.2.1.length) 0) (ab (aj x.2.2.2.2.2.2.2.2.2.2.2.1 0))).bind λA=>(aG A (ab (aj (↑x.2.2.2.2.2.2.2.2.2.2.2.2.1.length) 0))).bind λI=>(aG I (ab (aj (↑x.2.2.2.2.2.2.2.2.2.2.2.2.2.2.1.length) 0))).bind λJ=>ab J
def A2(x:bJ):bD:=(aG (aj x.2.2.2.2.2.2.2.2.2.2.2.2.2.1.1 0) (ab (aj x.2.2.2.2.2.2.2.2.2.2.2.2.2.1.2.1 0))).bind λA=>(aG A (ab (aj x.2.2.2.2.2.2.2.2.2.2.2.2.2.1.2.2.1 0))).bind λI=>(aG I (ab (aj x.2.2.2.2.2.2.2.2.2.2.2.2.2.1.2.2.2.1 0))).bind λJ=>(aG J (ab (aj (↑x.2.2.2.2.2.2.2.2.2.2.2.2.2.1.2.2.2.2.1.length) 0))).bind λU=>(aG U (ab (aj x.2.2.2.2.2.2.2.2.2.2.2.2.2.1.2.2.2.2.2.1 0))).bind λZ=>ab Z
def Fb(x:bJ):bD:=(aG (aj x.2.2.2.2.2.2.2.2.2.2.2.2.2.2.2.1.1 0) (ab (aj x.2.2.2.2.2.2.2.2.2.2.2.2.2.2.2.1.2.1 0))).bind λA=>(aG A (ab (aj (↑x.2.2.2.2.2.2.2.2.2.2.2.2.2.2.2.1.2.2.1.length) 0))).bind λI=>(aG I (ab (aj x.2.2.2.2.2.2.2.2.2.2.2.2.2.2.2.2.1 0))).bind λJ=>ab J
def Fa(x:bJ):bD:=(aG (aj x.2.2.2.2.2.2.1 0) (ab (aj x.2.2.2.2.2.2.2.1 0))).bind λA=>(aG A (ab !x.2.2.2.2.2.2.2.2.1)).bind λI=>(aG I (ab !x.2.2.2.2.2.2.2.2.2.1)).bind λJ=>ab J
def Fe(x:bJ):bD:=(aG (aj (↑x.2.2.2.2.1.length) 0) (ab !aj x.2.2.2.2.2.1 0)).bind λc=>(aW c ((aG (ak 0 ↑x.2.2.2.2.1.length) ((Ff x.2.2.2.2.2.1).bind λd=>ab !d)).bind λe=>ab e)).bind λf=>bif f then ab af else bif aj x.2.1 1 then(Fc x).bind λg=>(aG g ((A2 x).bind λh=>ab h)).bind λi=>(aG i ((Fb x).bind λj=>ab j)).bind λk=>ab k else bif aj x.2.1 2 then(Fa x).bind λl=>(aG l ((Fb x).bind λA=>ab A)).bind λI=>ab I else(Fa x).bind λJ=>(aG J ((Fc x).bind λU=>ab U)).bind λZ=>(aG Z ((A2 x).bind λa=>ab a)).bind λb=>ab b
def sJ(x y z:Int):bD:=(aG (ai y x) (ab (ai x z))).bind λA=>ab A
def Tf(x:Int):bD:=(sJ x 1 16384).bind λA=>ab A
def Te(x:bq)(A:GJ):Option (GJ⊕Bool):=bif ak A.1.2.1 ↑x.length then aQ x A.1.2.1 λI=>(sJ I 0 1048576).bind λJ=>bif !J then az af else(aW A.1.1 (aQ x A.1.2.1 λU=>ab (ak 0 U))).bind λZ=>aB ((Z,w (A.1.2.1+1),()),(),())else((aG A.1.1 (ab (ai (↑x.length) 16))).bind λa=>(aG a (ab (aj (Int.tmod ↑x.length 2) 0))).bind λb=>ab b).bind λc=>az c
def Td(x:bq):bD:=aA (Te x) ((aj (↑x.length) 0,0,()),(),())
def KY(x:rJ):bD:=(Tf x.1).bind λA=>(aW (!A) ((sJ x.2.1 1 3).bind λI=>ab !I)).bind λJ=>(aW J ((sJ x.2.2.1 3 5).bind λU=>ab !U)).bind λZ=>bif Z then ab af else(sJ x.2.2.2.1 256 65536).bind λa=>(aG a ((Td x.2.2.2.2.1).bind λb=>ab b)).bind λc=>(aG c ((sJ x.2.2.2.2.2.1 0 1048576).bind λd=>ab d)).bind λe=>ab e
def K2(x:eS):bD:=(aG (cJ (Ty.st 2 ((Ty.int .i64).cn ((Ty.int .i64).cn Ty.nl))) x.2.2.1 (0,0,())) (ab (cJ (Ty.st 2 ((Ty.int .i64).cn ((Ty.int .i64).cn Ty.nl))) x.2.2.2.1 (0,0,())))).bind λA=>(aG A (ab (aj x.2.2.2.2.1 0))).bind λI=>(aG I (ab (aj (↑x.2.2.2.2.2.1.length) 0))).bind λJ=>ab J
def E9(x:eS):bD:=(aG (aj x.2.2.2.2.2.2.2.1.1 0) (ab (aj x.2.2.2.2.2.2.2.1.2.1 0))).bind λA=>(aG A (ab (aj (↑x.2.2.2.2.2.2.2.1.2.2.1.length) 0))).bind λI=>(aG I (ab (aj x.2.2.2.2.2.2.2.2.1 0))).bind λJ=>ab J
def E4(x:bQ):rP:=(jy x.1).bind λA=>(jy x.2.1).bind λI=>(jy x.2.2.1).bind λJ=>(jy x.2.2.2.1).bind λU=>(jy x.2.2.2.2.1).bind λZ=>(jy x.2.2.2.2.2.1).bind λa=>ab (A,I,J,U,Z,a,())
def S7(x y:DZ)(A:aS):kr:=bif ak A.1.1 ↑x.2.1.length then aQ x.2.1 A.1.1 λI=>aQ y.2.1 A.1.1 λJ=>bif !aj I J then az af else aB ((w (A.1.1+1),()),(),())else az ag
def xA(x y:DZ):bD:=(aW (!cJ Ty.bool x.1 y.1) (ab !aj ↑x.2.1.length ↑y.2.1.length)).bind λA=>bif A then ab af else aA (S7 x y) ((0,()),(),())
def KO(x y:DQ):bD:=(xA x.1 y.1).bind λA=>(aG A ((xA x.2.1 y.2.1).bind λI=>ab I)).bind λJ=>ab J
def S6(x y:dM)(A:aS):kr:=bif ak A.1.1 ↑x.length then aQ x A.1.1 λI=>aQ y A.1.1 λJ=>(KO I J).bind λU=>bif !U then az af else aB ((w (A.1.1+1),()),(),())else az ag
def E0(x y:dM):bD:=bif !aj ↑x.length ↑y.length then ab af else aA (S6 x y) ((0,()),(),())
def S8(x y:bQ):bD:=(AY x).bind λA=>(AY y).bind λI=>(E0 A I).bind λJ=>ab J
def AZ(x y:bQ):bD:=(E4 x).bind λA=>(E4 y).bind λI=>(S8 A I).bind λJ=>ab J
def Ti(x:bQ):bD:=(AZ x (((af,[],()),(af,[],()),()),((af,[],()),(af,[],()),()),((af,[],()),(af,[],()),()),((af,[],()),(af,[],()),()),((af,[],()),(af,[],()),()),((af,[],()),(af,[],()),()),())).bind λA=>ab A
def E7(x:yZ)(A:aS):kr:=bif ak A.1.1 ↑x.length then aQ x A.1.1 λI=>(aW (ak I.1 0) (aQ x A.1.1 λJ=>ab (ak 65536 J.1))).bind λU=>(aW U ((aG (ak 0 A.1.1) (aQ x A.1.1 λZ=>aQ x (w (A.1.1-1)) λa=>ab (ak Z.1 a.1))).bind λb=>ab b)).bind λc=>bif c then az af else aB ((w (A.1.1+1),()),(),())else((aG (ai 1 ↑x.length) (ab (ai (↑x.length) 16))).bind λd=>ab d).bind λe=>az e
def E6(x:yZ):bD:=aA (E7 x) ((0,()),(),())
def A1(x:Int):bD:=(aG (ai 1 x) (ab (ai x 3))).bind λA=>ab A
def Th(x y:Int):bD:=(aG (ai 1 x) (ab (ai x 4096))).bind λA=>(aG A (ab (ai 1 y))).bind λI=>(aG I (ab (ai y 4096))).bind λJ=>(aG J (ab (ai (w (x*y)) 65536))).bind λU=>ab U
def KZ(x:pf):bD:=(aG (ai x.1 x.2.2.2.1) (ab (ai x.2.1 x.2.2.2.1))).bind λA=>(aG A (ab (ai x.2.2.1 x.2.2.2.1))).bind λI=>ab I
def K0(x:ny)(A:aS):kr:=bif ak A.1.1 ↑x.2.2.1.length then aQ x.2.2.1 A.1.1 λI=>(KZ I).bind λJ=>bif !J then az af else aB ((w (A.1.1+1),()),(),())else az ag
def E8(x:ny):bD:=(Th x.1 x.2.1).bind λA=>(aW (!A) (ab !aj (↑x.2.2.1.length) (w (x.1*x.2.1)))).bind λI=>bif I then ab af else aA (K0 x) ((0,()),(),())
def K1(x:eS):bD:=bif aj x.1 1 then(K2 x).bind λw=>(aG w ((E9 x).bind λy=>ab y)).bind λz=>(aG z (ab (aj x.2.2.2.2.2.2.1 0))).bind λB=>(aG B ((Ti x.2.2.2.2.2.2.2.2.2.1).bind λC=>ab C)).bind λD=>ab D else bif aj x.1 2 then(E9 x).bind λE=>(aG E (ab (cJ (Ty.st 4 ((Ty.int .u8).cn ((Ty.int .u8).cn ((Ty.int .u8).cn ((Ty.int .u8).cn Ty.nl))))) x.2.1 (0,0,0,0,())))).bind λF=>(aG F (ab (aj x.2.2.2.2.1 0))).bind λG=>(aG G ((oQ x.2.2.1).bind λH=>ab H)).bind λA=>(aG A ((oQ x.2.2.2.1).bind λI=>ab I)).bind λJ=>(aG J ((E6 x.2.2.2.2.2.1).bind λU=>ab U)).bind λZ=>(aG Z ((A1 x.2.2.2.2.2.2.1).bind λa=>ab a)).bind λb=>ab b else bif aj x.1 3 then(E9 x).bind λc=>(aG c (ab (cJ (Ty.st 4 ((Ty.int .u8).cn ((Ty.int .u8).cn ((Ty.int .u8).cn ((Ty.int .u8).cn Ty.nl))))) x.2.1 (0,0,0,0,())))).bind λd=>(aG d (ab (cJ (Ty.st 2 ((Ty.int .i64).cn ((Ty.int .i64).cn Ty.nl))) x.2.2.2.1 (0,0,())))).bind λe=>(aG e ((oQ x.2.2.1).bind λf=>ab f)).bind λg=>(aG g (ab (ai 1 x.2.2.2.2.1))).bind λh=>(aG h (ab (ai x.2.2.2.2.1 1048576))).bind λi=>(aG i ((E6 x.2.2.2.2.2.1).bind λj=>ab j)).bind λk=>(aG k ((A1 x.2.2.2.2.2.2.1).bind λl=>ab l)).bind λm=>ab m else aG (aj x.1 4) ((K2 x).bind λn=>(aG n (ab (cJ (Ty.st 4 ((Ty.int .u8).cn ((Ty.int .u8).cn ((Ty.int .u8).cn ((Ty.int .u8).cn Ty.nl))))) x.2.1 (0,0,0,0,())))).bind λo=>(aG o ((E8 x.2.2.2.2.2.2.2.1).bind λp=>ab p)).bind λq=>(aG q ((aW (aj x.2.2.2.2.2.2.1 0) ((A1 x.2.2.2.2.2.2.1).bind λr=>ab r)).bind λs=>ab s)).bind λt=>(aG t ((aW (aj x.2.2.2.2.2.2.2.2.1 1) (ab (aj x.2.2.2.2.2.2.2.2.1 2))).bind λu=>ab u)).bind λv=>ab v)
def K3(x:eS):bD:=(E5 x.2.2.2.2.2.2.2.2.2.1).bind λA=>(aW (!A) ((K1 x).bind λI=>ab !I)).bind λJ=>bif J then ab af else(aW (aj x.1 1) ((xD x.2.2.2.2.2.2.2.2.2.1).bind λU=>(oP 0).bind λZ=>(xz U Z).bind λa=>ab !aj a 0)).bind λb=>ab b
def Tk(x:List eS)(A:aS):kr:=bif ak A.1.1 ↑x.length then aQ x A.1.1 λI=>(K3 I).bind λJ=>bif !J then az af else aB ((w (A.1.1+1),()),(),())else az ag
def K6(x:List eS):bD:=aA (Tk x) ((0,()),(),())
def K5(x:bJ):cq:=(A0 x.2.2.2.2.2.2.2.2.2.2.1).bind λA=>bif !A then ab 10 else(Ff x.2.2.2.2.2.2.2.2.2.2.2.1).bind λI=>bif !I then ab 2 else(aW (ak 1 ↑x.2.2.2.2.2.2.2.2.2.2.2.2.1.length) (ab (ak 1 ↑x.2.2.2.2.2.2.2.2.2.2.2.2.2.2.1.length))).bind λJ=>bif J then ab 5 else(aG (ak 0 ↑x.2.2.2.2.2.2.2.2.2.2.2.2.2.2.1.length) ((KY x.2.2.2.2.2.2.2.2.2.2.2.2.2.1).bind λU=>ab !U)).bind λZ=>bif Z then ab 13 else(aG (aj (↑x.2.2.2.2.2.2.2.2.2.2.2.2.2.2.1.length) 0) ((A2 x).bind λa=>ab !a)).bind λb=>bif b then ab 17 else(K6 x.2.2.2.2.2.2.2.2.2.2.2.2.1).bind λc=>(aW (!c) ((K6 x.2.2.2.2.2.2.2.2.2.2.2.2.2.2.1).bind λd=>ab !d)).bind λe=>bif e then ab 16 else ab 0
def Tg(x:Int):bD:=(aG (ai 1 x) (ab (ai x 13))).bind λA=>ab A
def Tj(x:bJ)(Z:tF):cq:=bif aj x.2.1 2 then(K5 x).bind λA=>ab A else bif aj x.2.1 1 then(Tg x.2.2.2.2.2.2.2.1).bind λI=>bif !I then ab 2 else ab 0 else(E8 x.2.2.2.2.2.2.2.2.2.2.2.2.2.2.2.1).bind λJ=>bif !J then ab 16 else(aG (!aj x.2.2.2.2.2.2.2.2.2.2.2.2.2.2.2.2.1 1) (ab !aj x.2.2.2.2.2.2.2.2.2.2.2.2.2.2.2.2.1 2)).bind λU=>bif U then ab 2 else ab 0
def K4(x:bJ):cq:=bt ((aW (ak x.2.1 1) (ab (ak 3 x.2.1))).bind λA=>bif A then az 2 else(aW (ak x.1 1) (ab (ak 1073741824 x.1))).bind λI=>(aW I (ab (ak x.2.2.1 0))).bind λJ=>(aW J (ab (ai 8 x.2.2.1))).bind λU=>bif U then az 6 else(E5 x.2.2.2.1).bind λZ=>bif !Z then az 5 else(xD x.2.2.2.1).bind λa=>(oP 0).bind λb=>(xz a b).bind λc=>bif aj c 0 then az 9 else(A0 x.2.2.2.2.1).bind λd=>bif !d then az 10 else(Fe x).bind λe=>bif !e then az 17 else aB ((),(),())) (Tj x)
def Fh(x:tH)(y:Int)(A:aS):yT:=bif ak A.1.1 ↑x.length then aQ x A.1.1 λI=>bif aj I.1 y then az A.1.1 else aB ((w (A.1.1+1),()),(),())else az (-1)
def Tl(x:tH)(y:Int):cq:=aA (Fh x y) ((0,()),(),())
def K9(x:tH)(y:Int):bD:=bif aj y 0 then aQ x y λA=>ab (aj A.2.2.1 0)else aQ x (w (y-1)) λI=>(aG (aj I.2.1 1) (aQ x y λJ=>aQ x (w (y-1)) λU=>ab (aj J.2.2.1 (w (U.2.2.1+1))))).bind λZ=>aW Z (aQ x y λa=>aQ x (w (y-1)) λb=>ab (ai a.2.2.1 b.2.2.1))
def Fk(x:tH)(y:Int):cq:=aQ x y λI=>(K4 I).bind λA=>bif !aj A 0 then ab A else aT (ai 0 y&&ai y ↑x.length) (aQ x y λJ=>(Tl (aY (y.toNat-0) (BN 0 x)) J.1).bind λU=>bif ai 0 U then ab 7 else(K9 x y).bind λZ=>bif !Z then ab 17 else ab 0)
def Fg(x:bY)(A:aS):GG:=bif ak A.1.1 ↑x.2.2.2.1.length then(Fk x.2.2.2.1 A.1.1).bind λI=>bif !aj I 0 then az (I,A.1.1,())else aB ((w (A.1.1+1),()),(),())else az (0,0,())
def K7(x:bY):jo:=(aW (ak x.1 1) (ab (ak 256 x.1))).bind λA=>(aW A (ab (ak x.2.1 1))).bind λI=>(aW I (ab (ak 256 x.2.1))).bind λJ=>bif J then ab (6,0,())else bif ak 64 ↑x.2.2.2.1.length then ab (5,64,())else aA (Fg x) ((0,()),(),())
def Fj(x:bY):bD:=(K7 x).bind λA=>ab (aj A.1 0)
def K8(x:bY)(y:Int):bD:=(Fj x).bind λA=>(aG A (ab (ai 0 y))).bind λI=>(aG I (ab (ak y ↑x.2.2.2.1.length))).bind λJ=>ab J
def at5(x:tH)(y:Int)(A:aS):yT:=bif ai 0 A.1.1 then aQ x A.1.1 λI=>aQ x y λJ=>bif aj I.2.2.1 (w (J.2.2.1-1))then az A.1.1 else aB ((w (A.1.1-1),()),(),())else az (-1)
def aex(x:tH)(y:Int):cq:=aA (at5 x y) ((w (y-1),()),(),())
def aeu(x y z u:Int)(v w:DQ):rP:=(oP x).bind λA=>(oP y).bind λI=>(oP z).bind λJ=>(oP u).bind λU=>(jy v).bind λZ=>(jy w).bind λa=>ab (A,I,J,U,Z,a,())
def at4:rP:=(aeu 1 0 0 1 ((af,[],()),(af,[],()),()) ((af,[],()),(af,[],()),())).bind λA=>ab A
def aew(x y:og)(A:aS):kr:=bif ak A.1.1 ↑x.2.1.length then aQ x.2.1 A.1.1 λI=>aQ y.2.1 A.1.1 λJ=>bif !aj I J then az af else aB ((w (A.1.1+1),()),(),())else az ag
def uT(x y:og):bD:=(aW (!cJ (Ty.st 4 ((Ty.int .i64).cn ((Ty.int .i64).cn ((Ty.int .i64).cn ((Ty.int .i64).cn Ty.nl))))) x.1 y.1) (ab !aj ↑x.2.1.length ↑y.2.1.length)).bind λA=>bif A then ab af else aA (aew x y) ((0,()),(),())
def A8(x:bY)(A:tC):MZ:=bif ai 0 A.1.2.1 then aT (bW ([A.1.2.1].length+A.1.1.length) 8) ((pY x.2.2.2.1 A.1.2.1).bind λI=>aB ((cx [A.1.2.1] A.1.1,I,()),(),()))else az A.1.1
def Lw(x:bY)(y:Int):jm:=(FD x y).bind λA=>bif !A then ab []else aA (A8 x) (([],y,()),(),())
def JD(x:og):bD:=(uW x.1).bind λA=>(pW x.1).bind λI=>(aG (cJ (Ty.st 4 ((Ty.int .i64).cn ((Ty.int .i64).cn ((Ty.int .i64).cn ((Ty.int .i64).cn Ty.nl))))) I x.1) (ab (ai A 65536))).bind λJ=>(aG J (ab (aj (↑x.2.1.length) A))).bind λU=>ab U
def Rn(x:og):bD:=(JD x).bind λA=>ab !A
def abF(x:tG)(A:aS):kr:=bif ak A.1.1 ↑x.length then aQ x A.1.1 λI=>(Rn I).bind λJ=>bif J then az !ai 0 A.1.1 else aB ((w (A.1.1+1),()),(),())else az ag
def JE(x:tG):bD:=aA (abF x) ((0,()),(),())
def Lg(x y:bB):Cb:=(pW x).bind λA=>(pW y).bind λI=>(pW (bif ai A.1 I.1 then I.1 else A.1,bif ai A.2.1 I.2.1 then I.2.1 else A.2.1,bif ai A.2.2.1 I.2.2.1 then A.2.2.1 else I.2.2.1,bif ai A.2.2.2.1 I.2.2.2.1 then A.2.2.2.1 else I.2.2.2.1,())).bind λJ=>ab J
def D4(x:og)(y z:Int):cq:=(Fs x.1 y z).bind λA=>bif ak A 0 then ab 0 else aQ x.2.1 A λI=>ab I
def zY(x:Int):cq:=bif ak x 0 then ab (wu (0-wu x))else ab (wu x)
def Ha(x y:Int):jo:=ab (wu (wu (wu (x.fdiv 4294967296*y.fdiv 4294967296)+(wu (wu (x.fdiv 4294967296*wu ↑((word .u64 y).land 4294967295))+(wu (wu ↑((word .u64 x).land 4294967295)*wu ↑((word .u64 y).land 4294967295))).fdiv 4294967296)).fdiv 4294967296)+(wu (wu ↑((word .u64 (wu (wu (x.fdiv 4294967296*wu ↑((word .u64 y).land 4294967295))+(wu (wu ↑((word .u64 x).land 4294967295)*wu ↑((word .u64 y).land 4294967295))).fdiv 4294967296))).land 4294967295)+wu (wu ↑((word .u64 x).land 4294967295)*y.fdiv 4294967296))).fdiv 4294967296),wu (x*y),())
def WD(x:Int):cq:=(G9 x).bind λA=>ab (w (64-A))
def ajI(y z I:Int)(A:eB):Option (eB⊕aS⊕aJ):=(aW (ai 4294967296 A.1.1) (ab (ak (wu (wu (4294967296*A.1.2.1)+(wu (y*↑(2^(wu I).toNat.min 64))).fdiv 4294967296)) (wu (A.1.1*wu ↑((word .u64 (wu (z*↑(2^(wu I).toNat.min 64)))).land 4294967295)))))).bind λJ=>bif J then bif ai 4294967296 (wu (A.1.2.1+(wu (z*↑(2^(wu I).toNat.min 64))).fdiv 4294967296))then az (bb ((wu (A.1.1-1),()),(),()))else aB ((wu (A.1.1-1),wu (A.1.2.1+(wu (z*↑(2^(wu I).toNat.min 64))).fdiv 4294967296),()),(),())else az (bb ((A.1.1,()),(),()))
def ajJ(y z I:Int)(A:eB):Option (eB⊕aS⊕aJ):=(aW (ai 4294967296 A.1.2.1) (ab (ak (wu (wu (4294967296*A.1.1)+wu ↑((word .u64 (wu (y*↑(2^(wu I).toNat.min 64)))).land 4294967295))) (wu (A.1.2.1*wu ↑((word .u64 (wu (z*↑(2^(wu I).toNat.min 64)))).land 4294967295)))))).bind λJ=>bif J then bif ai 4294967296 (wu (A.1.1+(wu (z*↑(2^(wu I).toNat.min 64))).fdiv 4294967296))then az (bb ((wu (A.1.2.1-1),()),(),()))else aB ((wu (A.1.1+(wu (z*↑(2^(wu I).toNat.min 64))).fdiv 4294967296),wu (A.1.2.1-1),()),(),())else az (bb ((A.1.2.1,()),(),()))
def ajK(x y z A:Int)(I J:aS):jo:=ab (wu (wu (I.1.1*4294967296)+J.1.1),(wu (wu (wu (wu (wu (wu (wu ↑((word .u64 (wu (x*↑(2^(wu A).toNat.min 64)))).lor (word .u64 (y.fdiv ↑(2^(wu (64-wu A)).toNat.min 64))))*4294967296)+(wu (y*↑(2^(wu A).toNat.min 64))).fdiv 4294967296)-wu (I.1.1*wu (z*↑(2^(wu A).toNat.min 64))))*4294967296)+wu ↑((word .u64 (wu (y*↑(2^(wu A).toNat.min 64)))).land 4294967295))-wu (J.1.1*wu (z*↑(2^(wu A).toNat.min 64))))).fdiv ↑(2^(wu A).toNat.min 64),())
def ajL(x y z A:Int)(I:aS):jo:=ky ((wu (z*↑(2^(wu A).toNat.min 64))).fdiv 4294967296) (bt (aA (ajJ y z A) ((wu (wu (wu (wu (wu ↑((word .u64 (wu (x*↑(2^(wu A).toNat.min 64)))).lor (word .u64 (y.fdiv ↑(2^(wu (64-wu A)).toNat.min 64))))*4294967296)+(wu (y*↑(2^(wu A).toNat.min 64))).fdiv 4294967296)-wu (I.1.1*wu (z*↑(2^(wu A).toNat.min 64))))-wu (wu ((wu (wu (wu (wu ↑((word .u64 (wu (x*↑(2^(wu A).toNat.min 64)))).lor (word .u64 (y.fdiv ↑(2^(wu (64-wu A)).toNat.min 64))))*4294967296)+(wu (y*↑(2^(wu A).toNat.min 64))).fdiv 4294967296)-wu (I.1.1*wu (z*↑(2^(wu A).toNat.min 64))))).tdiv ((wu (z*↑(2^(wu A).toNat.min 64))).fdiv 4294967296))*(wu (z*↑(2^(wu A).toNat.min 64))).fdiv 4294967296)),wu ((wu (wu (wu (wu ↑((word .u64 (wu (x*↑(2^(wu A).toNat.min 64)))).lor (word .u64 (y.fdiv ↑(2^(wu (64-wu A)).toNat.min 64))))*4294967296)+(wu (y*↑(2^(wu A).toNat.min 64))).fdiv 4294967296)-wu (I.1.1*wu (z*↑(2^(wu A).toNat.min 64))))).tdiv ((wu (z*↑(2^(wu A).toNat.min 64))).fdiv 4294967296)),()),(),())) (ajK x y z A I))
def WB(x y z:Int)(I:tF):jo:=bif aj x 0 then ky z (ky z (ab (wu (y.tdiv z),y.tmod z,())))else(WD z).bind λA=>ky ((wu (z*↑(2^(wu A).toNat.min 64))).fdiv 4294967296) (bt (aA (ajI y z A) ((wu ((wu ↑((word .u64 (wu (x*↑(2^(wu A).toNat.min 64)))).lor (word .u64 (y.fdiv ↑(2^(wu (64-wu A)).toNat.min 64))))).tdiv ((wu (z*↑(2^(wu A).toNat.min 64))).fdiv 4294967296)),wu (wu ↑((word .u64 (wu (x*↑(2^(wu A).toNat.min 64)))).lor (word .u64 (y.fdiv ↑(2^(wu (64-wu A)).toNat.min 64))))-wu (wu ((wu ↑((word .u64 (wu (x*↑(2^(wu A).toNat.min 64)))).lor (word .u64 (y.fdiv ↑(2^(wu (64-wu A)).toNat.min 64))))).tdiv ((wu (z*↑(2^(wu A).toNat.min 64))).fdiv 4294967296))*(wu (z*↑(2^(wu A).toNat.min 64))).fdiv 4294967296)),()),(),())) (ajL x y z A))
def WC(x y z:Int)(A:tF):jo:=bt (bif ai z x then ae else aB ((),(),())) (WB x y z)
def G8(x y z:Int):jo:=bt (ky z (aB ((),(),()))) (WC x y z)
def IY(x:Int×aJ):yU:=bif ai x.2.2.1 x.1 then ab (0,af,())else(G8 x.1 x.2.1 x.2.2.1).bind λA=>bif ai (wu (x.2.2.1-A.2.1)) A.2.1 then ab (wu (A.1+1),!aj (wu (A.1+1)) 0,())else ab (A.1,ag,())
def Qv(A:Int×jN)(I:tF):yU:=ab (w A.1,ag,())
def Qu(x y z:Int):yU:=bif aj z 0 then ab (0,af,())else(zY x).bind λJ=>(zY y).bind λU=>(Ha J U).bind λI=>(zY z).bind λZ=>(IY (I.1,I.2.1,Z,())).bind λA=>bt ((aW (!A.2.1) (ab (ak 9223372036854775808 A.1))).bind λa=>(aW a ((aG (aj A.1 9223372036854775808) (ab !!cJ Ty.bool (!cJ Ty.bool (ak x 0) (ak y 0)) (ak z 0))).bind λb=>ab b)).bind λc=>bif c then az (0,af,())else bif !cJ Ty.bool (!cJ Ty.bool (ak x 0) (ak y 0)) (ak z 0)then az (w (wu (0-A.1)),ag,())else aB ((),(),())) (Qv A)
def Qt(x y:Int):cq:=(Qu x 1 y).bind λA=>ab A.1
def IX(x y:Int):cq:=(Qt (w (w x*w y)) 255).bind λA=>ab (wr .u8 A)
def Rl(x:tG)(b I:qo)(A:eB):Option (eB⊕qo⊕yY):=bif ak A.1.2.1 ↑(aY (x.length-1) (BN 1 x)).length then aQ (aY (x.length-1) (BN 1 x)) A.1.2.1 λJ=>(D4 J I.1.1 b.1.1).bind λU=>(IX A.1.1 U).bind λZ=>aB ((Z,w (A.1.2.1+1),()),(),())else(aT (bW (I.2.1.1.2.1.length+[A.1.1].length) 1) (aB ((w (I.1.1+1),()),((I.2.1.1.1,cx I.2.1.1.2.1 [A.1.1],()),()),()))).bind λa=>az a
def JB(x:tG)(I A:qo):Option (qo⊕yY):=bif ak A.1.1 A.2.1.1.1.2.2.1 then x[0]?.bind λJ=>(D4 J A.1.1 I.1.1).bind λU=>aT (ai 1 ↑x.length) (aA (Rl x I A) ((U,0,()),(),()))else az (bb ((w (I.1.1+1),()),((A.2.1.1.1,A.2.1.1.2.1,()),()),()))
def abE(x:tG)(A:qo):Option yY:=bif ak A.1.1 A.2.1.1.1.2.2.2.1 then aA (JB x A) ((A.2.1.1.1.1,()),((A.2.1.1.1,A.2.1.1.2.1,()),()),())else az ((A.2.1.1.1,A.2.1.1.2.1,()),0,())
def Rm(x:tG)(A:dc×(od×Unit)×Unit):Option (dc×(od×Unit)×Unit⊕yQ):=bif ak A.1.1 ↑x.length then aQ x A.1.1 λU=>(Lg A.2.1.1 U.1).bind λZ=>aB ((w (A.1.1+1),()),(Z,()),())else((pW A.2.1.1).bind λJ=>aA (abE x) ((J.2.1,()),((J,[],()),()),())).bind λI=>az I
def JA(x:tG):vM:=(JE x).bind λA=>bif !A then ab (((0,0,0,0,()),[],()),14,())else bif aj (↑x.length) 0 then ab (((0,0,0,0,()),[],()),0,())else x[0]?.bind λI=>aA (Rm x) ((0,()),(I.1,()),())
def N7(I:bq)(A:VO):Option (VO⊕yQ):=bif ak A.1.2.1 ↑I.length then aQ I A.1.2.1 λJ=>(qH A.2.1.1 J).bind λU=>bif !U.2.1 then(Ah A.2.1.2.1 255).bind λZ=>aT (bW (A.1.1.length+[Z.1].length) 56) (aB ((cx A.1.1 [Z.1],w (A.1.2.1+1),()),(A.2.1.1,A.2.1.2.1,()),()))else aQ A.2.1.1.2.2.2.1 J λc=>(zp U.1 c.2.2.2.2.2.1 A.2.1.2.1).bind λa=>aT (bW (A.1.1.length+[a.1].length) 56) (aB ((cx A.1.1 [a.1],w (A.1.2.1+1),()),(A.2.1.1,A.2.1.2.1,()),()))else((JA A.1.1).bind λb=>ab (b.1,b.2.1,())).bind λd=>az d
def zn(x:bY)(y:Int)(z:bB):vM:=(CL x y z).bind λA=>bif !aj A 0 then ab (((0,0,0,0,()),[],()),A,())else(Lw x y).bind λI=>aA (N7 I) (([],0,()),(x,z,()),())
def Fi(x:bY)(y:Int):cq:=(K8 x y).bind λA=>bif !A then ab (-1)else(aex x.2.2.2.1 y).bind λI=>ab I
def Tc(x:bB)(y:Int)(A:qo):Option yY:=(xB x).bind λI=>bif ak A.1.1 I then aT (bW (A.2.1.1.2.1.length+[y].length) 1) (aB ((w (A.1.1+1),()),((A.2.1.1.1,cx A.2.1.1.2.1 [y],()),()),()))else az ((A.2.1.1.1,A.2.1.1.2.1,()),0,())
def KW(x:bB)(y:Int):vM:=(E2 x).bind λA=>bif !A then ab (((0,0,0,0,()),[],()),6,())else(xB x).bind λI=>bif ak 65536 I then ab (((0,0,0,0,()),[],()),5,())else(E1 x).bind λJ=>aA (Tc x y) ((0,()),((J,[],()),()),())
def UF(y:bJ):bJ:=(y.1,y.2.1,y.2.2.1,y.2.2.2.1,[],y.2.2.2.2.2.1,y.2.2.2.2.2.2.1,y.2.2.2.2.2.2.2.1,y.2.2.2.2.2.2.2.2.1,y.2.2.2.2.2.2.2.2.2.1,y.2.2.2.2.2.2.2.2.2.2.1,y.2.2.2.2.2.2.2.2.2.2.2.1,y.2.2.2.2.2.2.2.2.2.2.2.2.1,y.2.2.2.2.2.2.2.2.2.2.2.2.2.1,y.2.2.2.2.2.2.2.2.2.2.2.2.2.2.1,y.2.2.2.2.2.2.2.2.2.2.2.2.2.2.2.1,y.2.2.2.2.2.2.2.2.2.2.2.2.2.2.2.2.1,())
def wpB(y:bJ):bJ:=(y.1,y.2.1,y.2.2.1,y.2.2.2.1,y.2.2.2.2.1,0,y.2.2.2.2.2.2.1,y.2.2.2.2.2.2.2.1,y.2.2.2.2.2.2.2.2.1,y.2.2.2.2.2.2.2.2.2.1,y.2.2.2.2.2.2.2.2.2.2.1,y.2.2.2.2.2.2.2.2.2.2.2.1,y.2.2.2.2.2.2.2.2.2.2.2.2.1,y.2.2.2.2.2.2.2.2.2.2.2.2.2.1,y.2.2.2.2.2.2.2.2.2.2.2.2.2.2.1,y.2.2.2.2.2.2.2.2.2.2.2.2.2.2.2.1,y.2.2.2.2.2.2.2.2.2.2.2.2.2.2.2.2.1,())
def wpS(x:bY)(y:Int)(a b:bJ):bY:=(x.1,x.2.1,x.2.2.1,((cx [] x.2.2.2.1).set y.toNat (UF a)).set y.toNat (wpB b),())
def Q6(x:bY)(y:Int)(z:bB):bD:=(Q7 x).bind λl=>(aW (!l) ((Jj z).bind λm=>ab !m)).bind λn=>(aW n ((Fj x).bind λo=>ab !o)).bind λp=>(aW p (ab (ak y 0))).bind λq=>(aW q (ab (ai (↑x.2.2.2.1.length) y))).bind λr=>bif r then C5.bind λs=>ab s else aT (bW (0+x.2.2.2.1.length) 656) (aN (cx [] x.2.2.2.1) y λI=>aN ((cx [] x.2.2.2.1).set y.toNat (UF I)) y λb=>(CK (wpS x y I b) y z).bind λA=>(KW z 255).bind λJ=>(uT A.1 J.1).bind λc=>(aW (!c) (ab !aj A.2.1 J.2.1)).bind λd=>bif d then ab af else(Fi (wpS x y I b) y).bind λU=>(aW (!aj A.2.1 0) (ab (ak U 0))).bind λe=>bif e then C5.bind λf=>ab f else(zn (wpS x y I b) y z).bind λZ=>(zn (wpS x y I b) U z).bind λa=>(aG (aj Z.2.1 0) (ab (aj a.2.1 0))).bind λg=>(aG g ((uT Z.1 a.1).bind λh=>ab h)).bind λi=>(aG i (C5.bind λj=>ab j)).bind λk=>ab k)
end
end Go.Proofs.YtohdkalmpfmcmaaGreatDoor
end
