/- A part of the proof. -/
import Derived.Test.YtdlceoleaifhmaaGreatDoorS2
set_option linter.all false
open Bool renaming false->Y,true->N
open Int renaming ofNat->aB,toNat->m9
open List renaming drop->yW,replicate->bR,take->aW
open Option renaming none->U,some->I
open Sum renaming inl->aZ,inr->bT
noncomputable section
namespace Go.Cc
abbrev A:Unit:=()
abbrev Z{a b:Type}(m:Option a)(c:a->Option b):Option b:=m.bind c
theorem ae{c d:Type}(a:c)(b:c->Option d):Z (I a) b=b a:=rfl
def aAH{b c:Type}(a:b->Option c):Z U a=U:=rfl
def avK{d e:Type}{m:Option d}{c:d->Option e}{b:e}:Z m c=I b<->∃a,m=I a/\c a=I b:=Option.bind_eq_some_iff
theorem pH{b c d:Type}(m:Option b)(a:b->Option c)(g:c->Option d):Z (Z m a) g=Z m λy=>Z (a y) g:=Option.bind_assoc ..
theorem xy{a:Type}(m:Option a):Z m (λy=>I y)=m:=by cases m<;>rfl
end Go.Cc
namespace Go.Proofs.YtdlceoleaifhmaaGreatDoor
section
open Go.As Go.Cc
section
abbrev DZ:=Bool×(List Int)×Unit
abbrev DQ:=DZ×DZ×Unit
abbrev cf:=DQ×DQ×DQ×DQ×DQ×DQ×Unit
abbrev rC:=Int×Int×Int×Int×Unit
abbrev aF:=Int×Int×Unit
abbrev cX:=Int×aF×aF×aF×Unit
abbrev o7:=Int×rC×Unit
abbrev o8:=Int×Int×Int×Int×Unit
abbrev ni:=Int×Int×(List o8)×Unit
abbrev fI:=Int×rC×aF×aF×Int×(List o7)×Int×ni×Int×cf×Unit
abbrev rD:=Int×Int×Int×Int×(List Int)×Int×Unit
abbrev du:=Int×Int×Int×cf×(List cX)×Int×Int×Int×Bool×Bool×(List cX)×Int×(List fI)×rD×(List fI)×ni×Int×Unit
abbrev cZ:=Int×Int×rC×(List du)×Unit
abbrev dC:=Int×Int×Int×Int×Unit
abbrev hK:=(List aF)×Bool×Unit
abbrev v7:=dC×(List Int)×Unit
abbrev fo:=DQ×DQ×Unit
abbrev iT:Ty:=.int .i64
abbrev tZ:Ty:=.st 2 (.cn .bool (.cn (.aw (.int .u32)) .nl))
abbrev tQ:Ty:=.st 4 (.cn tZ (.cn tZ .nl))
abbrev db:Ty:=.st 24 (.cn tQ (.cn tQ (.cn tQ (.cn tQ (.cn tQ (.cn tQ .nl))))))
abbrev Oj:Ty:=.st 4 (.cn (.int .u8) (.cn (.int .u8) (.cn (.int .u8) (.cn (.int .u8) .nl))))
abbrev aT:Ty:=.st 2 (.cn iT (.cn iT .nl))
abbrev pQ:Ty:=.st 7 (.cn iT (.cn aT (.cn aT (.cn aT .nl))))
abbrev tCs:Ty:=.st 5 (.cn iT (.cn Oj .nl))
abbrev vz:Ty:=.st 4 (.cn (.int .u8) (.cn (.int .u8) (.cn (.int .u8) (.cn (.int .u8) .nl))))
abbrev Ck:Ty:=.st 3 (.cn iT (.cn iT (.cn (.aw vz) .nl)))
abbrev kV:Ty:=.st 40 (.cn iT (.cn Oj (.cn aT (.cn aT (.cn iT (.cn (.aw tCs) (.cn iT (.cn Ck (.cn iT (.cn db .nl))))))))))
abbrev Ho:Ty:=.st 6 (.cn iT (.cn iT (.cn iT (.cn iT (.cn (.aw iT) (.cn iT .nl))))))
abbrev kU:Ty:=.st 47 (.cn iT (.cn iT (.cn iT (.cn db (.cn (.aw pQ) (.cn iT (.cn (.int .u8) (.cn iT (.cn .bool (.cn .bool (.cn (.aw pQ) (.cn iT (.cn (.aw kV) (.cn Ho (.cn (.aw kV) (.cn Ck (.cn iT .nl)))))))))))))))))
abbrev fO:Ty:=.st 7 (.cn iT (.cn iT (.cn Oj (.cn (.aw kU) .nl))))
abbrev eN:Ty:=.st 4 (.cn iT (.cn iT (.cn iT (.cn iT .nl))))
abbrev s7:Ty:=.st 2 (.cn (.aw aT) (.cn .bool .nl))
abbrev Ww:Ty:=.st 5 (.cn eN (.cn (.aw (.int .u8)) .nl))
abbrev fu:Ty:=.st 8 (.cn tQ (.cn tQ .nl))
abbrev dh:=Int×Unit
abbrev eF:=Unit×Unit
abbrev aP:=dh×eF
abbrev bc:=List Int
abbrev di:=List DQ
abbrev Dk:=di×Unit
abbrev Ih:=Unit×Dk
abbrev qe:=(Bool×eF)×(Bool×eF)×Unit
abbrev bp:=Option Bool
abbrev fJ:=List aF
abbrev cF:=List fJ
abbrev rL:=bc×Unit
abbrev Dw:=Unit×rL
abbrev PQ:=Int×Int×eF×Unit
abbrev wg:=dh×(v7×Unit)×Unit
abbrev rJ:=aF×aF×Unit
abbrev b9:=Option Int
abbrev jR:=Bool×Unit
abbrev wh:=dh×(hK×aF×(Unit×jR)×Unit)×Unit
abbrev tT:=bc×dh
abbrev rO:=List rJ
abbrev qb:=dh×(di×rO×Unit)×Unit
abbrev lj:=dh×Unit×bc×rL
abbrev kt:=Option (aP⊕Bool)
abbrev Dn:=di×Int×PQ
abbrev mw:=(di×dh)×eF
abbrev eT:=aF×eF
abbrev n7:=bc×tT
abbrev qc:=Option (aP⊕aP⊕n7)
abbrev ek:=dh×Dw
abbrev Ie:=v7×dh
abbrev iX:=List fo
abbrev Dp:=(Int×Int×Int×Bool×jR)×Ih
abbrev tV:=fJ×dh
abbrev mx:=tV×eF
abbrev gW:=aF×Ih
abbrev iD:=Option aF
abbrev nn:=Option n7
abbrev rK:=dh×Dk×Unit
abbrev hL:=List cX
abbrev gF:=dh×Ih
abbrev PN:=qe×qe×qe×qe×qe×qe×Unit
abbrev Ig:=dh×(PN×cf×Unit)×Unit
abbrev fZ:=Option DQ
abbrev PE:=(DQ×Unit)×Unit
abbrev zm:=dh×PE
abbrev zn:=DQ×dh
abbrev wi:=List (Nat×Int)
abbrev Ic:=Int×jR
abbrev wj:=Ic×Dn
abbrev wm:=di×PQ
abbrev iY:=Option bc
abbrev zo:=Unit×(aF×Unit)×Unit
abbrev qd:=Option (DQ×zn)
abbrev Dl:=List zn
abbrev zp:=dh×(Dl×Unit)×Unit
abbrev rM:=List hK
abbrev Dq:=((rM×hK×Unit)×dh)×eF
abbrev wo:=(iX×dh)×eF
abbrev zq:=Option (aP⊕aP⊕bc)
abbrev qf:=aF×rJ
abbrev zr:=(di×tT)×eF
abbrev aEb:=dh×(rC×Unit)×Unit
abbrev jS:=aF×Dw
abbrev aEc:=List v7
abbrev n6:=Option zn
abbrev Ii:=Option Ic
abbrev Dr:=(rO×dh)×eF
abbrev lL:=Option DZ
abbrev zs:=(cF×dh)×eF
abbrev zt:=(bc×aF)×eF
abbrev zu:=dh×dh×Dk
abbrev Yr:=wg⊕Ie
abbrev tU:=Option Ie
abbrev pb:=tT×eF
abbrev rN:=Unit×wm
abbrev zw:=Option (aP⊕Int)
abbrev zx:=gW⊕Bool×wm
abbrev Dj:=Unit×Dn
abbrev Ij:=Option (Dp⊕Dj)
abbrev Ds:=Option (mw⊕di)
abbrev qg:=Option cf
abbrev zk:=hL×dh
abbrev zy:=zk×eF
abbrev Dt:=Option (aP⊕aF)
abbrev Du:=Option (zm⊕DQ)
abbrev Dv:=gW⊕gF⊕wj
abbrev Ik:=dh×(fJ×Unit)×Unit
abbrev Il:=wh⊕wh⊕hK×aF
abbrev Dx:=Option (aF×dh)
abbrev Dy:=gW⊕Int×Dn
abbrev PO:=Unit×rJ×Unit
abbrev zB:=di×rL
abbrev Im:=Option (eT⊕Bool)
abbrev Io:=Option (ek⊕n7)
abbrev Ys:=Option (wg⊕Yr)
abbrev Ip:=Option (wo⊕iX)
abbrev Iq:=Option (gF⊕rN)
abbrev Ir:=Option (pb⊕bc)
abbrev Is:=Option (bc×jR)
abbrev Dz:=Unit×eF
abbrev tX:=aF×qf
abbrev tY:=rM×dh
abbrev rP:=List cf
abbrev rQ:=cf×dh
abbrev It:=Option (DQ×jR)
abbrev PD:=Option (aP⊕aP⊕Int)
abbrev akm:=((rC×eF)×Unit)×Unit
abbrev zi:=Option tV
abbrev Yk:=(wi×dh)×((Int×wi×Unit)×Unit)×Unit
abbrev H8:=(bc×rL)×eF
abbrev H9:=(Bool×dh)×eF
abbrev Ia:=(iX×aF)×eF
abbrev we:=rL×eF
abbrev zj:=List o7
abbrev tP:=List du
abbrev Ib:=Option rC
abbrev PF:=Option (DZ×DZ×dh)
abbrev PG:=Option (mx⊕fJ)
abbrev PH:=Option (zr⊕zB)
abbrev Yl:=Unit×(hK×(Unit×jR)×Unit)×Unit
abbrev Dh:=Option wi
abbrev PJ:=Option Yr
abbrev Di:=Option iX
abbrev Ym:=dh×((rM×hK×Unit)×Unit)×Unit
abbrev PK:=Option (zs⊕cF)
abbrev PL:=Option (zt⊕bc)
abbrev zl:=tT×Dw
abbrev Yn:=aF×(List (Int×Bool)×Unit)×Unit
abbrev aEd:=(aEc×dh)×(cZ×rC×Unit)×Unit
abbrev Yo:=Option (rK⊕qb⊕qb⊕di)
abbrev PM:=aP⊕eT⊕Bool
abbrev Yp:=Option (aP⊕aP⊕bc×jR)
abbrev Yq:=dh×(cF×Int×DQ×fo)×Unit
abbrev Dm:=Unit×Ih
abbrev fj:Ty:=(Ty.st 2 ((Ty.int .i64).cn ((Ty.int .i64).cn Ty.nl)))
abbrev tR4:Ty:=(Ty.st 4 ((Ty.int .i64).cn ((Ty.int .i64).cn ((Ty.int .i64).cn ((Ty.int .i64).cn Ty.nl)))))
abbrev yp:Ty:=(Ty.st 4 ((Ty.int .u8).cn ((Ty.int .u8).cn ((Ty.int .u8).cn ((Ty.int .u8).cn Ty.nl)))))
abbrev dc:DQ:=((Y,[],A),(Y,[],A),A)
abbrev jG:cf:=(dc,dc,dc,dc,dc,dc,A)
def aFP:List Nat:=[0,1,2,2]++bR 4 3++bR 8 4++bR 16 5++bR 32 6++bR 64 7++bR 128 8
def JE:bp:=I N
def S7(x:cf)(a:aP):kt:=bif ag a.1.1 ↑[x.1,x.2.1,x.2.2.1,x.2.2.2.1,x.2.2.2.2.1,x.2.2.2.2.2.1].length then aG [x.1,x.2.1,x.2.2.1,x.2.2.2.1,x.2.2.2.2.1,x.2.2.2.2.2.1] a.1.1 λb=>Z (aQ (ag 3 ↑b.1.2.1.length) (aG [x.1,x.2.1,x.2.2.1,x.2.2.2.1,x.2.2.2.2.1,x.2.2.2.2.2.1] a.1.1 λc=>I (ag 3 ↑c.2.1.2.1.length))) λd=>bif d then au Y else aq ((w (a.1.1+1),A),A,A)else au N
def Fk(x:cf):bp:=ar (S7 x) ((0,A),A,A)
def KM(c:aP)(b:List fI)(a:aP):Option (aP⊕PM):=bif ag a.1.1 ↑b.length then aD b a.1.1 λd=>Z (Fk d.2.2.2.2.2.2.2.2.2.1) λe=>Z (aQ (!e) (aD b a.1.1 λf=>I (ag 100 ↑f.2.2.2.2.2.2.2.1.2.2.1.length))) λg=>Z (aQ g (aD b a.1.1 λh=>I (ag 30 ↑h.2.2.2.2.2.1.length))) λi=>bif i then au (bT (bT Y))else aq ((w (a.1.1+1),A),A,A)else au (aZ ((w (c.1.1+1),A),A,A))
def KN(c:eT)(a:du)(b:aP):Option PM:=bif ag b.1.1 ↑[a.2.2.2.2.2.2.2.2.2.2.2.2.1,a.2.2.2.2.2.2.2.2.2.2.2.2.2.2.1].length then aG [a.2.2.2.2.2.2.2.2.2.2.2.2.1,a.2.2.2.2.2.2.2.2.2.2.2.2.2.2.1] b.1.1 λd=>ar (KM b d) ((0,A),A,A)else au (aZ ((w (c.1.1+bif ad (↑a.2.2.2.2.1.length) 100 then↑a.2.2.2.2.1.length else 100),w (c.1.2.1+1),A),A,A))
def xn(x:cZ)(b:eT):Im:=bif ag b.1.2.1 ↑x.2.2.2.1.length then aD x.2.2.2.1 b.1.2.1 λa=>Z (Fk a.2.2.2.1) λe=>Z (aQ (!e) (I (ag 30 ↑a.2.2.2.2.2.2.2.2.2.2.1.length))) λf=>Z (aQ f (I (ag 2 ↑a.2.2.2.2.2.2.2.2.2.2.2.2.1.length))) λg=>Z (aQ g (I (ag 2 ↑a.2.2.2.2.2.2.2.2.2.2.2.2.2.2.1.length))) λh=>Z (aQ h (I (ag 100 ↑a.2.2.2.2.2.2.2.2.2.2.2.2.2.2.2.1.2.2.1.length))) λi=>Z (aQ i (I (ag 30 ↑a.2.2.2.2.2.2.2.2.2.2.2.2.2.1.2.2.2.2.1.length))) λj=>bif j then au Y else ar (KN b a) ((0,A),A,A)else Z (Z (aA (ad (↑x.2.2.2.1.length) 8) (I (ad b.1.1 24))) λc=>I c) λd=>au d
def S8(x:cZ):bp:=ar (xn x) ((0,0,A),A,A)
def xL(x:Int):bp:=Z (aA (ad (-4096) x) (I (ad x 4096))) λa=>I a
def xM(x:dC):bp:=Z (xL x.1) λa=>Z (aA a (Z (xL x.2.1) λb=>I b)) λc=>Z (aA c (Z (xL x.2.2.1) λd=>I d)) λe=>Z (aA e (Z (xL x.2.2.2.1) λf=>I f)) λg=>I g
def Mv(x:dC):bp:=Z (xM x) λa=>Z (aQ (!a) (I (ad x.2.2.1 x.1))) λb=>Z (aQ b (I (ad x.2.2.2.1 x.2.1))) λc=>I c
def BC(x:dC):Ib:=Z (Mv x) λa=>bif a then I (0,0,0,0,A)else I x
def sP(x:dC):b9:=Z (BC x) λa=>I (w (w (a.2.2.1-a.1)*w (a.2.2.2.1-a.2.1)))
def KL(x:dC):bp:=Z (sP x) λa=>Z (aQ (ad a 20) (Z (sP x) λb=>I (ag 65536 b))) λc=>I c
def FD(x:Int):bp:=Z (aQ (af x 1) (I (af x 2))) λa=>I a
def ka(x:Bool)(y:Int):Dh:=bif !x then I []else I [(171,y)]
def KP(a:eT):b9:=Z aFP[(wr .u8 a.1.1).toNat]? λb=>I (w (a.1.2.1+w ↑b))
def Ta(a:eT):b9:=bb (bif ad 256 a.1.1 then aq ((a.1.1.fdiv 256,w (a.1.2.1+8),A),A,A)else aq a) KP
def Fl(x:Int):b9:=bb (bif ad 65536 x then aq ((x.fdiv 65536,16,A),A,A)else aq ((x,0,A),A,A)) Ta
def Y5(x:bc)(a:aP):PD:=Z (aA (ag 0 a.1.1) (aD x (w (a.1.1-1)) λb=>I (af b 0))) λc=>bif c then aq ((w (a.1.1-1),A),A,A)else au (aZ a)
def Y6(x:bc)(a:aP):b9:=aJ (ad 0 a.1.1&&ad a.1.1 ↑x.length) (aJ (ad 0 a.1.1&&ad a.1.1 a.1.1) (aJ (af a.1.1 a.1.1) (bif af (↑(aW a.1.1.toNat x).length) 0 then I 0 else aD (aW a.1.1.toNat x) (w (↑(aW a.1.1.toNat x).length-1)) λb=>Z (Fl b) λc=>I (w (w (32*w (↑(aW a.1.1.toNat x).length-1))+c)))))
def bitLen(x:bc):b9:=bb (ar (Y5 x) ((↑x.length,A),A,A)) (Y6 x)
def xe(x:DZ):b9:=Z (bitLen x.2.1) λa=>bif af a 0 then I 0 else bif x.1 then I (-1)else I 1
def adr(x:bc)(a:aP):zq:=Z (aA (ag 0 a.1.1) (aD x (w (a.1.1-1)) λb=>I (af b 0))) λc=>bif c then aq ((w (a.1.1-1),A),A,A)else au (aZ a)
def ads(x:bc)(a:aP):iY:=aJ (ad 0 a.1.1&&ad a.1.1 ↑x.length) (aJ (ad 0 a.1.1&&ad a.1.1 a.1.1) (aJ (af a.1.1 a.1.1) (aJ (bg (aW a.1.1.toNat x).length 4) (I (aW a.1.1.toNat x)))))
def sC(x:bc):iY:=bb (ar (adr x) ((↑x.length,A),A,A)) (ads x)
def ZB(x:bc)(a:aP):PD:=Z (aA (ag 0 a.1.1) (aD x (w (a.1.1-1)) λb=>I (af b 0))) λc=>bif c then aq ((w (a.1.1-1),A),A,A)else au (aZ a)
def ZC(y:bc)(a:aP):PD:=Z (aA (ag 0 a.1.1) (aD y (w (a.1.1-1)) λb=>I (af b 0))) λc=>bif c then aq ((w (a.1.1-1),A),A,A)else au (aZ a)
def D8(x y:bc)(b c a:aP):zw:=bif ad 0 a.1.1 then aD (aW b.1.1.toNat x) a.1.1 λg=>aD (aW c.1.1.toNat y) a.1.1 λd=>bif ag g d then au (-1)else aD (aW b.1.1.toNat x) a.1.1 λe=>aD (aW c.1.1.toNat y) a.1.1 λf=>bif ag f e then au 1 else aq ((w (a.1.1-1),A),A,A)else au 0
def ZD(x y:bc)(b a:aP):b9:=aJ (ad 0 a.1.1&&ad a.1.1 ↑y.length) (aJ (ad 0 a.1.1&&ad a.1.1 a.1.1) (aJ (af a.1.1 a.1.1) (bif !af ↑(aW b.1.1.toNat x).length ↑(aW a.1.1.toNat y).length then bif ag ↑(aW b.1.1.toNat x).length ↑(aW a.1.1.toNat y).length then I (-1)else I 1 else ar (D8 x y b a) ((w (↑(aW b.1.1.toNat x).length-1),A),A,A))))
def ZE(x y:bc)(a:aP):b9:=aJ (ad 0 a.1.1&&ad a.1.1 ↑x.length) (aJ (ad 0 a.1.1&&ad a.1.1 a.1.1) (aJ (af a.1.1 a.1.1) (bb (ar (ZC y) ((↑y.length,A),A,A)) (ZD x y a))))
def D7(x y:bc):b9:=bb (ar (ZB x) ((↑x.length,A),A,A)) (ZE x y)
def TO(b:jS)(a:aP):Option (aP⊕aP⊕tT):=Z (aA (ag 0 a.1.1) (aG b.2.2.1 (w (a.1.1-1)) λc=>I (af c 0))) λd=>bif d then aq ((w (a.1.1-1),A),A,A)else au (aZ a)
def TP(b:jS)(a:aP):Option tT:=aJ (ad 0 a.1.1&&ad a.1.1 ↑b.2.2.1.length) (aJ (ad 0 a.1.1&&ad a.1.1 a.1.1) (aJ (af a.1.1 a.1.1) (I (aW a.1.1.toNat b.2.2.1,wr .u32 b.1.1,A))))
def FK(x:bc)(y:Int)(a:jS):Option (jS⊕tT):=bif ad 0 a.1.2.1 then aD x a.1.2.1 λb=>jw (wu y) (aG a.2.2.1 a.1.2.1 λd=>jw (wu y) (aq (((wu ↑((word .u64 (wu (a.1.1*4294967296))).lor (word .u64 (wu b)))).tmod (wu y),w (a.1.2.1-1),A),A,a.2.2.1.set a.1.2.1.toNat (wr .u32 (wu ((wu ↑((word .u64 (wu (a.1.1*4294967296))).lor (word .u64 (wu b)))).tdiv (wu y)))),A)))else Z (bb (ar (TO a) ((↑a.2.2.1.length,A),A,A)) (TP a)) λc=>au c
def one(x:bc)(y:Int):Option tT:=aJ (ad ↑x.length ↑x.length&&ad (↑x.length*4) 70368744177664) (ar (FK x y) ((0,w (↑x.length-1),A),A,bR (m9 ↑x.length) (0:Int),A))
def uB(x:Int):iY:=Z (sC [wr .u32 x,wr .u32 (x.fdiv 4294967296)]) λa=>I a
def KZ(x:Int):b9:=Z (Fl x) λa=>I (w (32-a))
def digit(x:bc)(y:Int):b9:=bif ag y ↑x.length then aD x y λa=>I (wu a)else I 0
def uE(x y:bc)(a:eT):Option (eT⊕Int):=bif !af (a.1.1.fdiv 4294967296) 0 then aD y (w (↑y.length-1)) λb=>bif !af ((wu (a.1.2.1+wu b)).fdiv 4294967296) 0 then au (wu (a.1.1-1))else aq ((wu (a.1.1-1),wu (a.1.2.1+wu b),A),A,A)else aD y (w (↑y.length-2)) λd=>aD x (w (↑y.length-2)) λe=>bif ag (wu ↑((word .u64 (wu (a.1.2.1*4294967296))).lor (word .u64 (wu e)))) (wu (a.1.1*wu d))then aD y (w (↑y.length-1)) λc=>bif !af ((wu (a.1.2.1+wu c)).fdiv 4294967296) 0 then au (wu (a.1.1-1))else aq ((wu (a.1.1-1),wu (a.1.2.1+wu c),A),A,A)else au a.1.1
def J7(x y:bc):b9:=Z x[(m9 ↑y.length)]? λa=>aD x (w (↑y.length-1)) λb=>aD y (w (↑y.length-1)) λc=>jw (wu c) (aD y (w (↑y.length-1)) λd=>jw (wu d) (ar (uE x y) ((wu ((wu ↑((word .u64 (wu (wu a*4294967296))).lor (word .u64 (wu b)))).tdiv (wu c)),(wu ↑((word .u64 (wu (wu a*4294967296))).lor (word .u64 (wu b)))).tmod (wu d),A),A,A)))
def ZX(x:bc)(a:aP):qc:=Z (aA (ag 0 a.1.1) (aD x (w (a.1.1-1)) λb=>I (af b 0))) λc=>bif c then aq ((w (a.1.1-1),A),A,A)else au (aZ a)
def ZY(y:bc)(a:aP):qc:=Z (aA (ag 0 a.1.1) (aD y (w (a.1.1-1)) λb=>I (af b 0))) λc=>bif c then aq ((w (a.1.1-1),A),A,A)else au (aZ a)
def Z4(y:bc)(b a:aP):qc:=Z (aA (ag 0 a.1.1) (aD (aW b.1.1.toNat y) (w (a.1.1-1)) λc=>I (af c 0))) λd=>bif d then aq ((w (a.1.1-1),A),A,A)else au (aZ a)
def Jr(b:ek)(a:aP):qc:=Z (aA (ag 0 a.1.1) (aG b.2.2.1 (w (a.1.1-1)) λc=>I (af c 0))) λd=>bif d then aq ((w (a.1.1-1),A),A,A)else au (aZ a)
def aab(x:bc)(b a:aP):qc:=Z (aA (ag 0 a.1.1) (aD (aW b.1.1.toNat x) (w (a.1.1-1)) λc=>I (af c 0))) λd=>bif d then aq ((w (a.1.1-1),A),A,A)else au (aZ a)
def Js(b:ek)(a:aP):qc:=Z (aA (ag 0 a.1.1) (aG b.2.2.1 (w (a.1.1-1)) λc=>I (af c 0))) λd=>bif d then aq ((w (a.1.1-1),A),A,A)else au (aZ a)
def Jt(f:ek)(c:aP)(b:lj)(g:Int)(a:jS):Option (jS⊕ek⊕lj⊕n7):=bif ag a.1.2.1 (aB c.1.1.toNat)then bif ad 0 a.1.2.1&&ag a.1.2.1 (aB c.1.1.toNat)then Z f.2.2.1[a.1.2.1.toNat]? λd=>aJ (ad 0 a.1.2.1&&ag a.1.2.1 ↑((w (w (b.1.1+(aB c.1.1.toNat))+1)).toNat-b.1.1.toNat)) (Z a.2.2.1[b.1.1.toNat+a.1.2.1.toNat]? λe=>aJ (ad 0 a.1.2.1&&ag a.1.2.1 ↑((w (w (b.1.1+(aB c.1.1.toNat))+1)).toNat-b.1.1.toNat)) (Z a.2.2.1[b.1.1.toNat+a.1.2.1.toNat]? λj=>aq (((wu (a.1.1+wu (wu e+wu d))).fdiv 4294967296,w (a.1.2.1+1),A),A,a.2.2.1.set (b.1.1.toNat+a.1.2.1.toNat) (wr .u32 (wu (a.1.1+wu (wu e+wu d)))),A)))else U else Z (aJ (ag (aB c.1.1.toNat) ↑((w (w (b.1.1+(aB c.1.1.toNat))+1)).toNat-b.1.1.toNat)) (Z a.2.2.1[b.1.1.toNat+(m9 (aB c.1.1.toNat))]? λh=>aJ (ag (aB c.1.1.toNat) ↑((w (w (b.1.1+(aB c.1.1.toNat))+1)).toNat-b.1.1.toNat)) (Z a.2.2.1[b.1.1.toNat+(m9 (aB c.1.1.toNat))]? λk=>aq ((wu (g-1),A),A,a.2.2.1.set (b.1.1.toNat+(m9 (aB c.1.1.toNat))) (wr .u32 (h+wr .u32 a.1.1)),A)))) λi=>au i
def Ju(g:ek)(c:aP)(b:lj)(d:Int)(a:(Int×aF)×Dw):Option ((Int×aF)×Dw⊕ek⊕lj⊕n7):=bif ag a.1.2.2.1 (aB c.1.1.toNat)then bif ad 0 a.1.2.2.1&&ag a.1.2.2.1 (aB c.1.1.toNat)then Z g.2.2.1[a.1.2.2.1.toNat]? λe=>aJ (ad 0 a.1.2.2.1&&ag a.1.2.2.1 ↑((w (w (b.1.1+(aB c.1.1.toNat))+1)).toNat-b.1.1.toNat)) (Z a.2.2.1[b.1.1.toNat+a.1.2.2.1.toNat]? λh=>aJ (ad 0 a.1.2.2.1&&ag a.1.2.2.1 ↑((w (w (b.1.1+(aB c.1.1.toNat))+1)).toNat-b.1.1.toNat)) (Z a.2.2.1[b.1.1.toNat+a.1.2.2.1.toNat]? λj=>aq (((wu (a.1.1+wu (d*wu e))).fdiv 4294967296,(wu (wu (wu h-wu ↑((word .u64 (wu (a.1.1+wu (d*wu e)))).land 4294967295))-a.1.2.1)).fdiv 9223372036854775808,w (a.1.2.2.1+1),A),A,a.2.2.1.set (b.1.1.toNat+a.1.2.2.1.toNat) (wr .u32 (wu (wu (wu h-wu ↑((word .u64 (wu (a.1.1+wu (d*wu e)))).land 4294967295))-a.1.2.1))),A)))else U else Z (aJ (ag (aB c.1.1.toNat) ↑((w (w (b.1.1+(aB c.1.1.toNat))+1)).toNat-b.1.1.toNat)) (Z a.2.2.1[b.1.1.toNat+(m9 (aB c.1.1.toNat))]? λf=>aJ (ag (aB c.1.1.toNat) ↑((w (w (b.1.1+(aB c.1.1.toNat))+1)).toNat-b.1.1.toNat)) (Z a.2.2.1[b.1.1.toNat+(m9 (aB c.1.1.toNat))]? λk=>bif !af ((wu (wu (wu f-a.1.1)-a.1.2.1)).fdiv 9223372036854775808) 0 then ar (Jt g c b d) ((0,0,A),A,a.2.2.1.set (b.1.1.toNat+(m9 (aB c.1.1.toNat))) (wr .u32 (wu (wu (wu f-a.1.1)-a.1.2.1))),A)else aq ((d,A),A,a.2.2.1.set (b.1.1.toNat+(m9 (aB c.1.1.toNat))) (wr .u32 (wu (wu (wu f-a.1.1)-a.1.2.1))),A)))) λi=>au i
def aac(a:lj)(b:ek):Option (lj⊕n7):=aG a.2.2.2.1 a.1.1 λc=>aq ((w (a.1.1-1),A),A,b.2.2.1,a.2.2.2.1.set a.1.1.toNat (wr .u32 b.1.1),A)
def aad(b:lj)(a:aP):qc:=Z (aA (ag 0 a.1.1) (aG b.2.2.2.1 (w (a.1.1-1)) λc=>I (af c 0))) λd=>bif d then aq ((w (a.1.1-1),A),A,A)else au (aZ a)
def ZZ(b:lj)(a:aP):qc:=Z (aA (ag 0 a.1.1) (aG b.2.2.1 (w (a.1.1-1)) λc=>I (af c 0))) λd=>bif d then aq ((w (a.1.1-1),A),A,A)else au (aZ a)
def Z0(b:ek)(a:aP):qc:=Z (aA (ag 0 a.1.1) (aG b.2.2.1 (w (a.1.1-1)) λc=>I (af c 0))) λd=>bif d then aq ((w (a.1.1-1),A),A,A)else au (aZ a)
def Z1(c:lj)(d:aP)(b:ek)(a:aP):nn:=aJ (ad 0 a.1.1&&ad a.1.1 ↑b.2.2.1.length) (aJ (ad 0 a.1.1&&ad a.1.1 a.1.1) (aJ (af a.1.1 a.1.1) (I (aW d.1.1.toNat c.2.2.2.1,aW a.1.1.toNat b.2.2.1,0,A))))
def Jn(b:Int)(c:lj)(e d:aP)(a:ek):Io:=bif ag a.1.1 ↑(bR (w ((aB d.1.1.toNat)-w ((w (0-w (0-(aB b.toNat)))).tdiv 32))).toNat (0:Int)).length then Z (digit (aW d.1.1.toNat c.2.2.1) (w (a.1.1+w ((w (0-w (0-(aB b.toNat)))).tdiv 32)))) λf=>Z (digit (aW d.1.1.toNat c.2.2.1) (w (w (a.1.1+w ((w (0-w (0-(aB b.toNat)))).tdiv 32))+1))) λg=>bif ag ((w (0-w (0-(aB b.toNat)))).tmod 32) 0 then U else aG a.2.2.1 a.1.1 λi=>aq ((w (a.1.1+1),A),A,a.2.2.1.set a.1.1.toNat (wr .u32 ((wu ↑((word .u64 f).lor (word .u64 (wu (g*4294967296))))).fdiv ↑(2^((w (0-w (0-(aB b.toNat)))).tmod 32).toNat.min 64))),A)else Z (bb (ar (Z0 a) ((↑a.2.2.1.length,A),A,A)) (Z1 c e a)) λh=>au h
def Jo(b:ek)(a:aP):qc:=Z (aA (ag 0 a.1.1) (aG b.2.2.1 (w (a.1.1-1)) λc=>I (af c 0))) λd=>bif d then aq ((w (a.1.1-1),A),A,A)else au (aZ a)
def Jp(c:lj)(d:aP)(b:ek)(a:aP):nn:=aJ (ad 0 a.1.1&&ad a.1.1 ↑b.2.2.1.length) (aJ (ad 0 a.1.1&&ad a.1.1 a.1.1) (aJ (af a.1.1 a.1.1) (I (aW d.1.1.toNat c.2.2.2.1,aW a.1.1.toNat b.2.2.1,0,A))))
def Z2(a:Int)(d:lj)(g e:aP)(b:ek):Io:=bif ag b.1.1 (aB e.1.1.toNat)then bif ad 0 b.1.1&&ag b.1.1 (aB e.1.1.toNat)then Z d.2.2.1[b.1.1.toNat]? λc=>bif ag ((bif ad (w (0-(aB a.toNat))) 4096 then w (0-(aB a.toNat))else 4096).tmod 32) 0 then U else aG b.2.2.1 (w (b.1.1+w ((bif ad (w (0-(aB a.toNat))) 4096 then w (0-(aB a.toNat))else 4096).tdiv 32))) λf=>aG b.2.2.1 (w (b.1.1+w ((bif ad (w (0-(aB a.toNat))) 4096 then w (0-(aB a.toNat))else 4096).tdiv 32))) λi=>aG (b.2.2.1.set (w (b.1.1+w ((bif ad (w (0-(aB a.toNat))) 4096 then w (0-(aB a.toNat))else 4096).tdiv 32))).toNat (wr .u32 ↑((word .u32 f).lor (word .u32 (wr .u32 (wu (wu c*↑(2^((bif ad (w (0-(aB a.toNat))) 4096 then w (0-(aB a.toNat))else 4096).tmod 32).toNat.min 64)))))))) (w (w (b.1.1+w ((bif ad (w (0-(aB a.toNat))) 4096 then w (0-(aB a.toNat))else 4096).tdiv 32))+1)) λj=>aq ((w (b.1.1+1),A),A,(b.2.2.1.set (w (b.1.1+w ((bif ad (w (0-(aB a.toNat))) 4096 then w (0-(aB a.toNat))else 4096).tdiv 32))).toNat (wr .u32 ↑((word .u32 f).lor (word .u32 (wr .u32 (wu (wu c*↑(2^((bif ad (w (0-(aB a.toNat))) 4096 then w (0-(aB a.toNat))else 4096).tmod 32).toNat.min 64)))))))).set (w (w (b.1.1+w ((bif ad (w (0-(aB a.toNat))) 4096 then w (0-(aB a.toNat))else 4096).tdiv 32))+1)).toNat (wr .u32 ((wu (wu c*↑(2^((bif ad (w (0-(aB a.toNat))) 4096 then w (0-(aB a.toNat))else 4096).tmod 32).toNat.min 64))).fdiv 4294967296)),A)else U else Z (bb (ar (Jo b) ((↑b.2.2.1.length,A),A,A)) (Jp d g b)) λh=>au h
def Q7(b:Int)(c:lj)(d a:aP):nn:=aJ (ad 0 a.1.1&&ad a.1.1 ↑c.2.2.1.length) (aJ (ad 0 a.1.1&&ad a.1.1 a.1.1) (aJ (af a.1.1 a.1.1) (bif ag (w (0-(aB b.toNat))) 0 then bif ad (w (0-(aB b.toNat))) (w (-32*(aB a.1.1.toNat)))then I (aW d.1.1.toNat c.2.2.2.1,[],0,A)else aJ (ad 0 (w ((aB a.1.1.toNat)-w ((w (0-w (0-(aB b.toNat)))).tdiv 32)))&&(ad (w ((aB a.1.1.toNat)-w ((w (0-w (0-(aB b.toNat)))).tdiv 32))) (w ((aB a.1.1.toNat)-w ((w (0-w (0-(aB b.toNat)))).tdiv 32)))&&ad (w ((aB a.1.1.toNat)-w ((w (0-w (0-(aB b.toNat)))).tdiv 32))*4) 70368744177664)) (ar (Jn b c d a) ((0,A),A,bR (w ((aB a.1.1.toNat)-w ((w (0-w (0-(aB b.toNat)))).tdiv 32))).toNat (0:Int),A))else aJ (ad 0 (w (w ((aB a.1.1.toNat)+w ((bif ad (w (0-(aB b.toNat))) 4096 then w (0-(aB b.toNat))else 4096).tdiv 32))+1))&&(ad (w (w ((aB a.1.1.toNat)+w ((bif ad (w (0-(aB b.toNat))) 4096 then w (0-(aB b.toNat))else 4096).tdiv 32))+1)) (w (w ((aB a.1.1.toNat)+w ((bif ad (w (0-(aB b.toNat))) 4096 then w (0-(aB b.toNat))else 4096).tdiv 32))+1))&&ad (w (w ((aB a.1.1.toNat)+w ((bif ad (w (0-(aB b.toNat))) 4096 then w (0-(aB b.toNat))else 4096).tdiv 32))+1)*4) 70368744177664)) (ar (Z2 b c d a) ((0,A),A,bR (w (w ((aB a.1.1.toNat)+w ((bif ad (w (0-(aB b.toNat))) 4096 then w (0-(aB b.toNat))else 4096).tdiv 32))+1)).toNat (0:Int),A)))))
def Z3(c:Int)(b:lj)(a:aP):nn:=aJ (ad 0 a.1.1&&ad a.1.1 ↑b.2.2.2.1.length) (aJ (ad 0 a.1.1&&ad a.1.1 a.1.1) (aJ (af a.1.1 a.1.1) (bb (ar (ZZ b) ((↑b.2.2.1.length,A),A,A)) (Q7 c b a))))
def Ae(d:Int)(c:ek)(b:aP)(a:lj):Option (lj⊕n7):=bif ad 0 a.1.1 then aJ (ad 0 (w (w (a.1.1+(aB b.1.1.toNat))+1))&&ad (w (w (a.1.1+(aB b.1.1.toNat))+1)) ↑a.2.2.1.length) (aJ (ad 0 a.1.1&&ad a.1.1 ↑(w (w (a.1.1+(aB b.1.1.toNat))+1)).toNat) (Z (J7 (aW ((w (w (a.1.1+(aB b.1.1.toNat))+1)).toNat-a.1.1.toNat) (yW a.1.1.toNat a.2.2.1)) (aW b.1.1.toNat c.2.2.1)) λe=>bb (ar (Ju c b a e) ((0,0,0,A),A,a.2.2.1,A)) (aac a)))else Z (bb (ar (aad a) ((↑a.2.2.2.1.length,A),A,A)) (Z3 d a)) λf=>au f
def Ej(x:bc)(d:aP)(e:Int)(c:ek)(b:aP)(a:we):Option (we⊕n7):=bif ad ↑a.1.1.length ↑(aW d.1.1.toNat x).length then aJ (bg (a.1.1.length+[0].length) 4) (aq ((bh a.1.1 [0],A),A,A))else Z (aJ (ad 0 (w (↑a.1.1.length-(aB b.1.1.toNat)))&&(ad (w (↑a.1.1.length-(aB b.1.1.toNat))) (w (↑a.1.1.length-(aB b.1.1.toNat)))&&ad (w (↑a.1.1.length-(aB b.1.1.toNat))*4) 70368744177664)) (ar (Ae e c b) ((w (↑(bR (w (↑a.1.1.length-(aB b.1.1.toNat))).toNat (0:Int)).length-1),A),A,a.1.1,bR (w (↑a.1.1.length-(aB b.1.1.toNat))).toNat (0:Int),A))) λf=>au f
def Ek(x:bc)(e:aP)(f:Int)(c:ek)(d:aP)(b:ek)(a:aP):nn:=aJ (ad 0 a.1.1&&ad a.1.1 ↑b.2.2.1.length) (aJ (ad 0 a.1.1&&ad a.1.1 a.1.1) (aJ (af a.1.1 a.1.1) (aJ (bg (a.1.1.toNat+[0].length) 4) (ar (Ej x e f c d) ((bh (aW a.1.1.toNat b.2.2.1) [0],A),A,A)))))
def Z5(x:bc)(c:aP)(a:Int)(g:ek)(h e:aP)(b:ek):Io:=bif ag b.1.1 ↑(aW e.1.1.toNat (aW c.1.1.toNat x)).length then aD (aW e.1.1.toNat (aW c.1.1.toNat x)) b.1.1 λd=>bif ag ((bif ad ((aB a.toNat)) 4096 then(aB a.toNat)else 4096).tmod 32) 0 then U else aG b.2.2.1 (w (b.1.1+w ((bif ad ((aB a.toNat)) 4096 then(aB a.toNat)else 4096).tdiv 32))) λf=>aG b.2.2.1 (w (b.1.1+w ((bif ad ((aB a.toNat)) 4096 then(aB a.toNat)else 4096).tdiv 32))) λj=>aG (b.2.2.1.set (w (b.1.1+w ((bif ad ((aB a.toNat)) 4096 then(aB a.toNat)else 4096).tdiv 32))).toNat (wr .u32 ↑((word .u32 f).lor (word .u32 (wr .u32 (wu (wu d*↑(2^((bif ad ((aB a.toNat)) 4096 then(aB a.toNat)else 4096).tmod 32).toNat.min 64)))))))) (w (w (b.1.1+w ((bif ad ((aB a.toNat)) 4096 then(aB a.toNat)else 4096).tdiv 32))+1)) λk=>aq ((w (b.1.1+1),A),A,(b.2.2.1.set (w (b.1.1+w ((bif ad ((aB a.toNat)) 4096 then(aB a.toNat)else 4096).tdiv 32))).toNat (wr .u32 ↑((word .u32 f).lor (word .u32 (wr .u32 (wu (wu d*↑(2^((bif ad ((aB a.toNat)) 4096 then(aB a.toNat)else 4096).tmod 32).toNat.min 64)))))))).set (w (w (b.1.1+w ((bif ad ((aB a.toNat)) 4096 then(aB a.toNat)else 4096).tdiv 32))+1)).toNat (wr .u32 ((wu (wu d*↑(2^((bif ad ((aB a.toNat)) 4096 then(aB a.toNat)else 4096).tmod 32).toNat.min 64))).fdiv 4294967296)),A)else Z (bb (ar (Js b) ((↑b.2.2.1.length,A),A,A)) (Ek x c a g h b)) λi=>au i
def Z6(x:bc)(c:aP)(b:Int)(d:ek)(e a:aP):nn:=aJ (ad 0 a.1.1&&ad a.1.1 ↑(aW c.1.1.toNat x).length) (aJ (ad 0 a.1.1&&ad a.1.1 a.1.1) (aJ (af a.1.1 a.1.1) (aJ (ad 0 (w (w (↑(aW a.1.1.toNat (aW c.1.1.toNat x)).length+w ((bif ad ((aB b.toNat)) 4096 then(aB b.toNat)else 4096).tdiv 32))+1))&&(ad (w (w (↑(aW a.1.1.toNat (aW c.1.1.toNat x)).length+w ((bif ad ((aB b.toNat)) 4096 then(aB b.toNat)else 4096).tdiv 32))+1)) (w (w (↑(aW a.1.1.toNat (aW c.1.1.toNat x)).length+w ((bif ad ((aB b.toNat)) 4096 then(aB b.toNat)else 4096).tdiv 32))+1))&&ad (w (w (↑(aW a.1.1.toNat (aW c.1.1.toNat x)).length+w ((bif ad ((aB b.toNat)) 4096 then(aB b.toNat)else 4096).tdiv 32))+1)*4) 70368744177664)) (ar (Z5 x c b d e a) ((0,A),A,bR (w (w (↑(aW a.1.1.toNat (aW c.1.1.toNat x)).length+w ((bif ad ((aB b.toNat)) 4096 then(aB b.toNat)else 4096).tdiv 32))+1)).toNat (0:Int),A)))))
def Jq(x:bc)(b:aP)(d:Int)(c:ek)(a:aP):nn:=aJ (ad 0 a.1.1&&ad a.1.1 ↑c.2.2.1.length) (aJ (ad 0 a.1.1&&ad a.1.1 a.1.1) (aJ (af a.1.1 a.1.1) (bb (ar (aab x b) ((↑(aW b.1.1.toNat x).length,A),A,A)) (Z6 x b d c a))))
def Z7(x y:bc)(g e:aP)(a:Int)(d:aP)(b:ek):Io:=bif ag b.1.1 ↑(aW d.1.1.toNat (aW e.1.1.toNat y)).length then aD (aW d.1.1.toNat (aW e.1.1.toNat y)) b.1.1 λc=>bif ag ((bif ad ((aB a.toNat)) 4096 then(aB a.toNat)else 4096).tmod 32) 0 then U else aG b.2.2.1 (w (b.1.1+w ((bif ad ((aB a.toNat)) 4096 then(aB a.toNat)else 4096).tdiv 32))) λf=>aG b.2.2.1 (w (b.1.1+w ((bif ad ((aB a.toNat)) 4096 then(aB a.toNat)else 4096).tdiv 32))) λi=>aG (b.2.2.1.set (w (b.1.1+w ((bif ad ((aB a.toNat)) 4096 then(aB a.toNat)else 4096).tdiv 32))).toNat (wr .u32 ↑((word .u32 f).lor (word .u32 (wr .u32 (wu (wu c*↑(2^((bif ad ((aB a.toNat)) 4096 then(aB a.toNat)else 4096).tmod 32).toNat.min 64)))))))) (w (w (b.1.1+w ((bif ad ((aB a.toNat)) 4096 then(aB a.toNat)else 4096).tdiv 32))+1)) λj=>aq ((w (b.1.1+1),A),A,(b.2.2.1.set (w (b.1.1+w ((bif ad ((aB a.toNat)) 4096 then(aB a.toNat)else 4096).tdiv 32))).toNat (wr .u32 ↑((word .u32 f).lor (word .u32 (wr .u32 (wu (wu c*↑(2^((bif ad ((aB a.toNat)) 4096 then(aB a.toNat)else 4096).tmod 32).toNat.min 64)))))))).set (w (w (b.1.1+w ((bif ad ((aB a.toNat)) 4096 then(aB a.toNat)else 4096).tdiv 32))+1)).toNat (wr .u32 ((wu (wu c*↑(2^((bif ad ((aB a.toNat)) 4096 then(aB a.toNat)else 4096).tmod 32).toNat.min 64))).fdiv 4294967296)),A)else Z (bb (ar (Jr b) ((↑b.2.2.1.length,A),A,A)) (Jq x g a b)) λh=>au h
def Z8(x y:bc)(d c:aP)(b:Int)(a:aP):nn:=aJ (ad 0 a.1.1&&ad a.1.1 ↑(aW c.1.1.toNat y).length) (aJ (ad 0 a.1.1&&ad a.1.1 a.1.1) (aJ (af a.1.1 a.1.1) (aJ (ad 0 (w (w (↑(aW a.1.1.toNat (aW c.1.1.toNat y)).length+w ((bif ad ((aB b.toNat)) 4096 then(aB b.toNat)else 4096).tdiv 32))+1))&&(ad (w (w (↑(aW a.1.1.toNat (aW c.1.1.toNat y)).length+w ((bif ad ((aB b.toNat)) 4096 then(aB b.toNat)else 4096).tdiv 32))+1)) (w (w (↑(aW a.1.1.toNat (aW c.1.1.toNat y)).length+w ((bif ad ((aB b.toNat)) 4096 then(aB b.toNat)else 4096).tdiv 32))+1))&&ad (w (w (↑(aW a.1.1.toNat (aW c.1.1.toNat y)).length+w ((bif ad ((aB b.toNat)) 4096 then(aB b.toNat)else 4096).tdiv 32))+1)*4) 70368744177664)) (ar (Z7 x y d c b a) ((0,A),A,bR (w (w (↑(aW a.1.1.toNat (aW c.1.1.toNat y)).length+w ((bif ad ((aB b.toNat)) 4096 then(aB b.toNat)else 4096).tdiv 32))+1)).toNat (0:Int),A)))))
def Z9(x y:bc)(b a:aP):nn:=aJ (ad 0 a.1.1&&ad a.1.1 ↑y.length) (aJ (ad 0 a.1.1&&ad a.1.1 a.1.1) (aJ (af a.1.1 a.1.1) (bif af (↑(aW a.1.1.toNat y).length) 0 then I ([],[],9,A)else Z (D7 (aW b.1.1.toNat x) (aW a.1.1.toNat y)) λg=>bif ag g 0 then aJ (bg (aW b.1.1.toNat x).length 4) (I ([],aW b.1.1.toNat x,0,A))else bif af (↑(aW a.1.1.toNat y).length) 1 then Z (aW a.1.1.toNat y)[0]? λh=>Z (one (aW b.1.1.toNat x) h) λc=>Z (uB (wu c.2.1)) λe=>I (c.1,e,0,A)else aD (aW a.1.1.toNat y) (w (↑(aW a.1.1.toNat y).length-1)) λf=>Z (KZ f) λd=>aJ (ad 0 d) (bb (ar (Z4 y a) ((↑(aW a.1.1.toNat y).length,A),A,A)) (Z8 x y b a d)))))
def aaa(x y:bc)(a:aP):nn:=aJ (ad 0 a.1.1&&ad a.1.1 ↑x.length) (aJ (ad 0 a.1.1&&ad a.1.1 a.1.1) (aJ (af a.1.1 a.1.1) (bb (ar (ZY y) ((↑y.length,A),A,A)) (Z9 x y a))))
def divMod(x y:bc):nn:=bb (ar (ZX x) ((↑x.length,A),A,A)) (aaa x y)
def RG(a:H8):Option (H8⊕bc):=bif ag 0 ↑a.1.2.1.length then Z (divMod a.1.1 a.1.2.1) λb=>aq ((a.1.2.1,b.2.1,A),A,A)else au a.1.1
def gcd(x y:bc):iY:=Z (sC x) λa=>Z (sC y) λb=>ar RG ((a,b,A),A,A)
def kF(x:Bool)(y:bc):lL:=Z (sC y) λa=>Z (aA x (I (ag 0 ↑a.length))) λb=>I (b,a,A)
def sT(x y:DZ):fZ:=Z (gcd x.2.1 y.2.1) λa=>Z (xe x) λb=>Z (xe y) λc=>Z (divMod x.2.1 a) λd=>Z (kF (ag (w (b*c)) 0) d.1) λe=>Z (divMod y.2.1 a) λf=>Z (kF Y f.1) λg=>I (e,g,A)
def BX(x y:DZ):n6:=Z (xe y) λa=>bif af a 0 then I (dc,9,A)else Z (sT x y) λb=>I (b,0,A)
def xd(x:Int):lL:=bif ag x 0 then Z (uB (wu (0-wu x))) λa=>Z (kF N a) λb=>I b else Z (uB (wu x)) λc=>Z (kF Y c) λd=>I d
def eM(x:Int):fZ:=Z (xd x) λa=>Z (xd 1) λb=>I (a,b,A)
def jk(x:DQ):fZ:=Z (BX x.1 x.2.1) λa=>bif !af a.2.1 0 then Z (eM 0) λb=>I b else I a.1
def wx(x:cf):qg:=Z (jk x.1) λa=>Z (jk x.2.1) λb=>Z (jk x.2.2.1) λc=>Z (jk x.2.2.2.1) λd=>Z (jk x.2.2.2.2.1) λe=>Z (jk x.2.2.2.2.2.1) λf=>I (a,b,c,d,e,f,A)
def E8(x:DZ):b9:=Z (bitLen x.2.1) λa=>I a
def sS(x:DQ):b9:=Z (jk x) λa=>Z (E8 a.1) λb=>Z (E8 a.2.1) λc=>I (bif ad b c then c else b)
def uc(x:cf):bp:=Z (wx x) λa=>Z (sS a.1) λb=>bif ag 256 b then I Y else Z (sS a.2.1) λc=>bif ag 256 c then I Y else Z (sS a.2.2.1) λd=>bif ag 256 d then I Y else Z (sS a.2.2.2.1) λe=>bif ag 256 e then I Y else Z (sS a.2.2.2.2.1) λf=>bif ag 256 f then I Y else Z (sS a.2.2.2.2.2.1) λg=>bif ag 256 g then I Y else I N
def acI(x:bc)(a:aP):zq:=Z (aA (ag 0 a.1.1) (aD x (w (a.1.1-1)) λb=>I (af b 0))) λc=>bif c then aq ((w (a.1.1-1),A),A,A)else au (aZ a)
def acJ(y:bc)(a:aP):zq:=Z (aA (ag 0 a.1.1) (aD y (w (a.1.1-1)) λb=>I (af b 0))) λc=>bif c then aq ((w (a.1.1-1),A),A,A)else au (aZ a)
def Tu(y:bc)(c:aP)(b:ek)(f:Int)(a:jS):Option (jS⊕ek⊕bc):=bif ag a.1.2.1 ↑(aW c.1.1.toNat y).length then aD (aW c.1.1.toNat y) a.1.2.1 λd=>aG a.2.2.1 (w (b.1.1+a.1.2.1)) λe=>aG a.2.2.1 (w (b.1.1+a.1.2.1)) λh=>aq (((wu (a.1.1+wu (wu (wu f*wu d)+wu e))).fdiv 4294967296,w (a.1.2.1+1),A),A,a.2.2.1.set (w (b.1.1+a.1.2.1)).toNat (wr .u32 (wu (a.1.1+wu (wu (wu f*wu d)+wu e)))),A)else Z (aG a.2.2.1 (w (b.1.1+↑(aW c.1.1.toNat y).length)) λi=>aq ((w (b.1.1+1),A),A,a.2.2.1.set (w (b.1.1+↑(aW c.1.1.toNat y).length)).toNat (wr .u32 a.1.1),A)) λg=>au g
def acK(b:ek)(a:aP):zq:=Z (aA (ag 0 a.1.1) (aG b.2.2.1 (w (a.1.1-1)) λc=>I (af c 0))) λd=>bif d then aq ((w (a.1.1-1),A),A,A)else au (aZ a)
def acL(b:ek)(a:aP):iY:=aJ (ad 0 a.1.1&&ad a.1.1 ↑b.2.2.1.length) (aJ (ad 0 a.1.1&&ad a.1.1 a.1.1) (aJ (af a.1.1 a.1.1) (I (aW a.1.1.toNat b.2.2.1))))
def Tv(x y:bc)(b d:aP)(a:ek):Option (ek⊕bc):=bif ag a.1.1 ↑(aW b.1.1.toNat x).length then aD (aW b.1.1.toNat x) a.1.1 λc=>bif af c 0 then aq ((w (a.1.1+1),A),A,a.2.2.1,A)else ar (Tu y d a c) ((0,0,A),A,a.2.2.1,A)else Z (bb (ar (acK a) ((↑a.2.2.1.length,A),A,A)) (acL a)) λe=>au e
def acM(x y:bc)(b a:aP):iY:=aJ (ad 0 a.1.1&&ad a.1.1 ↑y.length) (aJ (ad 0 a.1.1&&ad a.1.1 a.1.1) (aJ (af a.1.1 a.1.1) (aJ (ad 0 (w (↑(aW b.1.1.toNat x).length+↑(aW a.1.1.toNat y).length))&&(ad (w (↑(aW b.1.1.toNat x).length+↑(aW a.1.1.toNat y).length)) (w (↑(aW b.1.1.toNat x).length+↑(aW a.1.1.toNat y).length))&&ad (w (↑(aW b.1.1.toNat x).length+↑(aW a.1.1.toNat y).length)*4) 70368744177664)) (ar (Tv x y b a) ((0,A),A,bR (w (↑(aW b.1.1.toNat x).length+↑(aW a.1.1.toNat y).length)).toNat (0:Int),A)))))
def acN(x y:bc)(a:aP):iY:=aJ (ad 0 a.1.1&&ad a.1.1 ↑x.length) (aJ (ad 0 a.1.1&&ad a.1.1 a.1.1) (aJ (af a.1.1 a.1.1) (bb (ar (acJ y) ((↑y.length,A),A,A)) (acM x y a))))
def La(x y:bc):iY:=bb (ar (acI x) ((↑x.length,A),A,A)) (acN x y)
def pA(x y:DZ):lL:=Z (La x.2.1 y.2.1) λa=>Z (kF (!cx Ty.bool x.1 y.1) a) λb=>I b
def oH(x y:DQ):fZ:=Z (jk x) λa=>Z (jk y) λb=>Z (pA a.1 b.1) λc=>Z (pA a.2.1 b.2.1) λd=>Z (sT c d) λe=>I e
def vl(x y:DQ):Option (DZ×DQ):=Z (jk x) λa=>Z (jk y) λb=>Z (pA a.1 b.2.1) λc=>Z (pA b.1 a.2.1) λd=>Z (pA a.2.1 b.2.1) λe=>I (c,d,e,A)
def Kx(x:DZ):lL:=Z (kF (!x.1) x.2.1) λa=>I a
def Yy(b:jS)(a:aP):zq:=Z (aA (ag 0 a.1.1) (aG b.2.2.1 (w (a.1.1-1)) λc=>I (af c 0))) λd=>bif d then aq ((w (a.1.1-1),A),A,A)else au (aZ a)
def Yz(b:jS)(a:aP):iY:=aJ (ad 0 a.1.1&&ad a.1.1 ↑b.2.2.1.length) (aJ (ad 0 a.1.1&&ad a.1.1 a.1.1) (aJ (af a.1.1 a.1.1) (I (aW a.1.1.toNat b.2.2.1))))
def PV(x y:bc)(a:jS):Option (jS⊕bc):=bif ag a.1.2.1 ↑(bR (w ((bif ad ↑x.length ↑y.length then↑y.length else↑x.length)+1)).toNat (0:Int)).length then Z (digit x a.1.2.1) λb=>Z (digit y a.1.2.1) λc=>aG a.2.2.1 a.1.2.1 λe=>aq (((wu (a.1.1+wu (b+c))).fdiv 4294967296,w (a.1.2.1+1),A),A,a.2.2.1.set a.1.2.1.toNat (wr .u32 (wu (a.1.1+wu (b+c)))),A)else Z (bb (ar (Yy a) ((↑a.2.2.1.length,A),A,A)) (Yz a)) λd=>au d
def DC(x y:bc):iY:=aJ (ad 0 (w ((bif ad ↑x.length ↑y.length then↑y.length else↑x.length)+1))&&(ad (w ((bif ad ↑x.length ↑y.length then↑y.length else↑x.length)+1)) (w ((bif ad ↑x.length ↑y.length then↑y.length else↑x.length)+1))&&ad (w ((bif ad ↑x.length ↑y.length then↑y.length else↑x.length)+1)*4) 70368744177664)) (ar (PV x y) ((0,0,A),A,bR (w ((bif ad ↑x.length ↑y.length then↑y.length else↑x.length)+1)).toNat (0:Int),A))
def ahe(x:bc)(a:aP):Yp:=Z (aA (ag 0 a.1.1) (aD x (w (a.1.1-1)) λb=>I (af b 0))) λc=>bif c then aq ((w (a.1.1-1),A),A,A)else au (aZ a)
def ahf(b:jS)(a:aP):Yp:=Z (aA (ag 0 a.1.1) (aG b.2.2.1 (w (a.1.1-1)) λc=>I (af c 0))) λd=>bif d then aq ((w (a.1.1-1),A),A,A)else au (aZ a)
def ahg(b:jS)(a:aP):Is:=aJ (ad 0 a.1.1&&ad a.1.1 ↑b.2.2.1.length) (aJ (ad 0 a.1.1&&ad a.1.1 a.1.1) (aJ (af a.1.1 a.1.1) (I (aW a.1.1.toNat b.2.2.1,N,A))))
def Od(x y:bc)(d:aP)(a:jS):Option (jS⊕bc×jR):=bif ag a.1.2.1 ↑(bR (m9 ↑(aW d.1.1.toNat x).length) (0:Int)).length then Z (digit x a.1.2.1) λb=>Z (digit y a.1.2.1) λc=>aG a.2.2.1 a.1.2.1 λf=>aq (((wu (wu (b-c)-a.1.1)).fdiv 9223372036854775808,w (a.1.2.1+1),A),A,a.2.2.1.set a.1.2.1.toNat (wr .u32 (wu (wu (b-c)-a.1.1))),A)else Z (bb (ar (ahf a) ((↑a.2.2.1.length,A),A,A)) (ahg a)) λe=>au e
def ahh(x y:bc)(a:aP):Is:=aJ (ad 0 a.1.1&&ad a.1.1 ↑x.length) (aJ (ad 0 a.1.1&&ad a.1.1 a.1.1) (aJ (af a.1.1 a.1.1) (aJ (ad ↑(aW a.1.1.toNat x).length ↑(aW a.1.1.toNat x).length&&ad (↑(aW a.1.1.toNat x).length*4) 70368744177664) (ar (Od x y a) ((0,0,A),A,bR (m9 ↑(aW a.1.1.toNat x).length) (0:Int),A)))))
def Hn(x y:bc):Is:=Z (D7 x y) λa=>bif ag a 0 then I ([],Y,A)else bb (ar (ahe x) ((↑x.length,A),A,A)) (ahh x y)
def xc(x y:DZ):lL:=bif cx Ty.bool x.1 y.1 then Z (DC x.2.1 y.2.1) λb=>Z (kF x.1 b) λc=>I c else Z (Hn x.2.1 y.2.1) λa=>bif a.2.1 then Z (kF x.1 a.1) λd=>I d else Z (Hn y.2.1 x.2.1) λe=>Z (kF y.1 e.1) λf=>I f
def AR(x y:DZ):lL:=Z (Kx y) λa=>Z (xc x a) λb=>I b
def vk(x y:DQ):fZ:=Z (vl x y) λa=>Z (AR a.1 a.2.1) λb=>Z (sT b a.2.2.1) λc=>I c
def zK(x:cf):fZ:=Z (oH x.1 x.2.2.2.1) λa=>Z (oH x.2.1 x.2.2.1) λb=>Z (vk a b) λc=>I c
def SL(x y:DZ):b9:=Z (AR x y) λa=>Z (xe a) λb=>I b
def cQ(x y:DQ):b9:=Z (vl x y) λa=>Z (SL a.1 a.2.1) λb=>I b
def Lo(x:cf):bp:=Z (zK x) λa=>Z (eM 0) λb=>Z (cQ a b) λc=>I (af c 0)
def aer(x:Int)(a:jR×eF):b9:=bif af x 5 then I 0 else I (-1)
def pJ(x:Int):b9:=bif af x 4 then I 3 else bif af x 3 then I 2 else bb (bif af x 1 then bif af x 1 then au 1 else aq ((af x 1,A),A,A)else bif af x 2 then au 1 else aq ((af x 2,A),A,A)) (aer x)
def Fb(x y z:Int):b9:=bif ag x y then I y else bif ag z x then I z else I x
def OE(x:Int):b9:=Z (Fb x (-1048576) 1048576) λa=>I a
def ra(x:aF):iD:=Z (OE x.1) λa=>Z (OE x.2.1) λb=>I (a,b,A)
def iN(x:aF):bp:=Z (ra x) λa=>I (cx fj a x)
def LY(x:cX):bp:=Z (iN x.2.1) λa=>Z (aQ (!a) (Z (pJ x.1) λb=>Z (aA (ad b 0) (I !cx fj x.2.1 (0,0,A))) λe=>I e)) λf=>bif f then I Y else Z (iN x.2.2.1) λg=>Z (aQ (!g) (Z (pJ x.1) λh=>Z (aA (ad h 1) (I !cx fj x.2.2.1 (0,0,A))) λi=>I i)) λj=>bif j then I Y else Z (iN x.2.2.2.1) λk=>Z (aQ (!k) (Z (pJ x.1) λl=>Z (aA (ad l 2) (I !cx fj x.2.2.2.1 (0,0,A))) λc=>I c)) λd=>bif d then I Y else I N
def Ui(x:hL)(a:eT):Option (eT⊕aF):=bif ag a.1.2.1 ↑x.length then aD x a.1.2.1 λb=>Z (aQ (af b.1 1) (Z (aA (!af a.1.1 5) (Z (aQ (!af b.1 5) (I !af a.1.1 1)) λc=>I c)) λd=>I d)) λe=>Z (pJ b.1) λf=>bif ag f 0 then au (2,a.1.2.1,A)else bif !e then au (10,a.1.2.1,A)else Z (LY b) λg=>bif !g then au (6,a.1.2.1,A)else aq ((b.1,w (a.1.2.1+1),A),A,A)else au (0,0,A)
def LV(x:hL):iD:=bif ag 256 ↑x.length then I (5,256,A)else ar (Ui x) ((5,0,A),A,A)
def xD(x:hL):bp:=Z (LV x) λa=>I (af a.1 0)
def agZ(x y:bc)(a:aP):kt:=bif ag a.1.1 ↑x.length then aD x a.1.1 λb=>aD y a.1.1 λc=>bif !af b c then au Y else aq ((w (a.1.1+1),A),A,A)else au N
def N0(x y:bc):bp:=bif !af ↑x.length ↑y.length then I Y else ar (agZ x y) ((0,A),A,A)
def FE(x y:rD):bp:=Z (aA (af x.1 y.1) (I (af x.2.1 y.2.1))) λa=>Z (aA a (I (af x.2.2.1 y.2.2.1))) λb=>Z (aA b (I (af x.2.2.2.1 y.2.2.2.1))) λc=>Z (aA c (I (af x.2.2.2.2.2.1 y.2.2.2.2.2.1))) λd=>Z (aA d (Z (N0 x.2.2.2.2.1 y.2.2.2.2.1) λe=>I e)) λf=>I f
def agX(x y:List o8)(a:aP):kt:=bif ag a.1.1 ↑x.length then aD x a.1.1 λb=>aD y a.1.1 λc=>bif !cx yp b c then au Y else aq ((w (a.1.1+1),A),A,A)else au N
def N1(x y:List o8):bp:=bif !af ↑x.length ↑y.length then I Y else ar (agX x y) ((0,A),A,A)
def E2(x y:ni):bp:=Z (aA (af x.1 y.1) (I (af x.2.1 y.2.1))) λa=>Z (aA a (Z (N1 x.2.2.1 y.2.2.1) λb=>I b)) λc=>I c
def Li(x:du):bp:=Z (aA (af x.2.2.2.2.2.2.1 0) (I (af x.2.2.2.2.2.2.2.1 0))) λd=>Z (aA d (I !x.2.2.2.2.2.2.2.2.1)) λe=>Z (aA e (I !x.2.2.2.2.2.2.2.2.2.1)) λa=>Z (aA (af (↑x.2.2.2.2.2.2.2.2.2.2.1.length) 0) (I (af x.2.2.2.2.2.2.2.2.2.2.2.1 0))) λi=>Z (aA i (I (af (↑x.2.2.2.2.2.2.2.2.2.2.2.2.1.length) 0))) λj=>Z (aA j (I (af (↑x.2.2.2.2.2.2.2.2.2.2.2.2.2.2.1.length) 0))) λk=>Z (aA k (Z (FE x.2.2.2.2.2.2.2.2.2.2.2.2.2.1 (0,0,0,0,[],0,A)) λl=>I l)) λb=>Z (E2 x.2.2.2.2.2.2.2.2.2.2.2.2.2.2.2.1 (0,0,[],A)) λm=>Z (aA m (I (af x.2.2.2.2.2.2.2.2.2.2.2.2.2.2.2.2.1 0))) λc=>bif af x.2.1 1 then Z (aA b (I c)) λf=>I f else bif af x.2.1 2 then Z (aA a (I c)) λg=>I g else Z (aA a (I b)) λh=>I h
def FC(x:List wi)(a:aP):Option (aP⊕wi):=bif ag a.1.1 ↑x.length then aD x a.1.1 λb=>bif !cT b then au ((171,0)::b)else aq ((w (a.1.1+1),A),A,A)else au []
def FB(x:List wi):Dh:=ar (FC x) ((0,A),A,A)
def Lj(x:du):Dh:=Z (aA (af (↑x.2.2.2.2.1.length) 0) (I (af x.2.2.2.2.2.1 0))) λa=>Z (aQ a (Z (aA (ag 0 ↑x.2.2.2.2.1.length) (Z (FD x.2.2.2.2.2.1) λb=>I b)) λm=>I m)) λn=>Z (aQ (ag x.2.1 1) (I (ag 3 x.2.1))) λo=>Z (ka o 2) λp=>Z (aQ (ag x.1 1) (I (ag 1073741824 x.1))) λq=>Z (aQ q (I (ag x.2.2.1 0))) λr=>Z (aQ r (I (ad 8 x.2.2.1))) λs=>Z (ka s 6) λt=>Z (uc x.2.2.2.1) λc=>Z (ka (!c) 5) λd=>Z (Lo x.2.2.2.1) λe=>Z (ka e 9) λf=>Z (xD x.2.2.2.2.1) λg=>Z (ka (!g) 10) λh=>Z (aQ (!n) (Z (Li x) λi=>I !i)) λj=>Z (ka j 17) λk=>Z (FB [p,t,d,f,h,k]) λl=>I l
def Qw(x:Int):bp:=Z (aA (ad 1 x) (I (ad x 13))) λa=>I a
def Wh(x:Int):bp:=Z (aA (ad 1 x) (I (ad x 16384))) λa=>I a
def Wg(x:bc)(a:H9):Option (H9⊕Bool):=bif ag a.1.2.1 ↑x.length then aD x a.1.2.1 λb=>Z (aQ (ag b 0) (I (ag 1048576 b))) λc=>bif c then au Y else Z (aQ a.1.1 (I (ag 0 b))) λd=>aq ((d,w (a.1.2.1+1),A),A,A)else Z (Z (aA a.1.1 (I (af (Int.tmod ↑x.length 2) 0))) λe=>Z (aA e (I (ad (↑x.length) 16))) λf=>I f) λg=>au g
def Wf(x:bc):bp:=ar (Wg x) ((af (↑x.length) 0,0,A),A,A)
def Ob(x:rD):bp:=Z (aQ (af x.2.1 1) (I (af x.2.1 2))) λa=>Z (aQ a (I (af x.2.1 3))) λb=>Z (aQ (af x.2.2.1 3) (I (af x.2.2.1 4))) λf=>Z (aQ f (I (af x.2.2.1 5))) λg=>Z (Wh x.1) λh=>Z (aA h (I b)) λi=>Z (aA i (I g)) λj=>Z (aA j (I (ad 256 x.2.2.2.1))) λk=>Z (aA k (I (ad x.2.2.2.1 65536))) λl=>Z (aA l (Z (Wf x.2.2.2.2.1) λm=>I m)) λc=>Z (aA c (I (ad 0 x.2.2.2.2.2.1))) λd=>Z (aA d (I (ad x.2.2.2.2.2.1 1048576))) λe=>I e
def F5(x:fI):Option fI:=bif af x.1 1 then I (x.1,(0,0,0,0,A),x.2.2.1,x.2.2.2.1,x.2.2.2.2.1,x.2.2.2.2.2.1,x.2.2.2.2.2.2.1,x.2.2.2.2.2.2.2.1,x.2.2.2.2.2.2.2.2.1,jG,A)else bif af x.1 2 then I (x.1,x.2.1,(0,0,A),(0,0,A),x.2.2.2.2.1,[],0,x.2.2.2.2.2.2.2.1,x.2.2.2.2.2.2.2.2.1,jG,A)else bif af x.1 3 then I (x.1,x.2.1,(0,0,A),x.2.2.2.1,0,[],0,x.2.2.2.2.2.2.2.1,x.2.2.2.2.2.2.2.2.1,jG,A)else bif af x.1 4 then I (x.1,x.2.1,x.2.2.1,x.2.2.2.1,x.2.2.2.2.1,x.2.2.2.2.2.1,0,(0,0,[],A),0,jG,A)else I (x.1,x.2.1,x.2.2.1,x.2.2.2.1,x.2.2.2.2.1,x.2.2.2.2.2.1,x.2.2.2.2.2.2.1,x.2.2.2.2.2.2.2.1,x.2.2.2.2.2.2.2.2.1,jG,A)
def agY(x y:zj)(a:aP):kt:=bif ag a.1.1 ↑x.length then aD x a.1.1 λb=>aD y a.1.1 λc=>bif !cx (Ty.st 5 ((Ty.int .i64).cn (yp.cn Ty.nl))) b c then au Y else aq ((w (a.1.1+1),A),A,A)else au N
def N2(x y:zj):bp:=bif !af ↑x.length ↑y.length then I Y else ar (agY x y) ((0,A),A,A)
def ub(x y:cf):bp:=Z (wx x) λa=>Z (wx y) λb=>Z (cQ a.1 b.1) λc=>bif !af c 0 then I Y else Z (cQ a.2.1 b.2.1) λd=>bif !af d 0 then I Y else Z (cQ a.2.2.1 b.2.2.1) λe=>bif !af e 0 then I Y else Z (cQ a.2.2.2.1 b.2.2.2.1) λf=>bif !af f 0 then I Y else Z (cQ a.2.2.2.2.1 b.2.2.2.2.1) λg=>bif !af g 0 then I Y else Z (cQ a.2.2.2.2.2.1 b.2.2.2.2.2.1) λh=>bif !af h 0 then I Y else I N
def pI(x y:fI):bp:=Z (aA (af x.1 y.1) (I (cx yp x.2.1 y.2.1))) λa=>Z (aA a (I (cx fj x.2.2.1 y.2.2.1))) λb=>Z (aA b (I (cx fj x.2.2.2.1 y.2.2.2.1))) λe=>Z (aA e (I (af x.2.2.2.2.1 y.2.2.2.2.1))) λf=>Z (aA f (I (af x.2.2.2.2.2.2.1 y.2.2.2.2.2.2.1))) λg=>Z (aA g (I (af x.2.2.2.2.2.2.2.2.1 y.2.2.2.2.2.2.2.2.1))) λh=>Z (aA h (Z (N2 x.2.2.2.2.2.1 y.2.2.2.2.2.1) λi=>I i)) λj=>Z (aA j (Z (E2 x.2.2.2.2.2.2.2.1 y.2.2.2.2.2.2.2.1) λk=>I k)) λl=>Z (aA l (Z (ub x.2.2.2.2.2.2.2.2.2.1 y.2.2.2.2.2.2.2.2.2.1) λc=>I c)) λd=>I d
def EA(x:zj)(a:eT):Im:=bif ag a.1.2.1 ↑x.length then aD x a.1.2.1 λb=>Z (aQ (ag b.1 a.1.1) (I (ag 65536 b.1))) λc=>bif c then au Y else aq ((b.1,w (a.1.2.1+1),A),A,A)else au N
def J2(x:zj):bp:=Z (aQ (ag (↑x.length) 1) (I (ag 16 ↑x.length))) λa=>bif a then I Y else ar (EA x) ((0,0,A),A,A)
def F3(x:Int):bp:=Z (aA (ad 1 x) (I (ad x 3))) λa=>I a
def F4(x:fI):bp:=Z (J2 x.2.2.2.2.2.1) λa=>Z (aA a (Z (F3 x.2.2.2.2.2.2.1) λb=>I b)) λc=>I c
def Kt(x:Int):bp:=Z (aA (ad 1 x) (I (ad x 4096))) λa=>I a
def QT(x:o8):Ib:=I (bif ad x.1 x.2.2.2.1 then x.1 else x.2.2.2.1,bif ad x.2.1 x.2.2.2.1 then x.2.1 else x.2.2.2.1,bif ad x.2.2.1 x.2.2.2.1 then x.2.2.1 else x.2.2.2.1,bif ad x.2.2.2.1 x.2.2.2.1 then x.2.2.2.1 else x.2.2.2.1,A)
def Jd(x:o8):bp:=Z (QT x) λa=>I (cx yp a x)
def SC(x:o8):bp:=Z (Jd x) λa=>I !a
def Ks(x:ni)(a:aP):kt:=bif ag a.1.1 ↑x.2.2.1.length then aD x.2.2.1 a.1.1 λb=>Z (SC b) λc=>bif c then au !ad 0 a.1.1 else aq ((w (a.1.1+1),A),A,A)else au N
def E4(x:ni):bp:=Z (Kt x.1) λa=>Z (aQ (!a) (Z (Kt x.2.1) λb=>I !b)) λc=>Z (aQ c (I (ag 65536 (w (x.1*x.2.1))))) λd=>Z (aQ d (I !af (↑x.2.2.1.length) (w (x.1*x.2.1)))) λe=>bif e then I Y else ar (Ks x) ((0,A),A,A)
def Ug(x:fI)(c:Dz):bp:=Z (zK x.2.2.2.2.2.2.2.2.2.1) λa=>Z (cQ a dc) λb=>I !af b 0
def F2(x:fI):bp:=Z (uc x.2.2.2.2.2.2.2.2.2.1) λa=>Z (aQ (!a) (Z (F5 x) λb=>Z (pI b (x.1,(0,0,0,0,A),(0,0,A),(0,0,A),0,[],0,(0,0,[],A),0,jG,A)) λm=>I !m)) λo=>bif o then I Y else bb (bif af x.1 1 then Z (ub x.2.2.2.2.2.2.2.2.2.1 jG) λp=>au p else bif af x.1 2 then Z (iN x.2.2.1) λq=>Z (aQ (!q) (Z (iN x.2.2.2.1) λr=>I !r)) λs=>Z (aQ s (Z (F4 x) λt=>I !t)) λu=>bif u then au Y else aq (A,A,A)else bif af x.1 3 then Z (iN x.2.2.1) λc=>Z (aQ (!c) (I (ag x.2.2.2.2.1 1))) λd=>Z (aQ d (I (ag 1048576 x.2.2.2.2.1))) λe=>Z (aQ e (Z (F4 x) λf=>I !f)) λg=>bif g then au Y else aq (A,A,A)else bif af x.1 4 then Z (E4 x.2.2.2.2.2.2.2.1) λh=>Z (aQ (!h) (Z (aA (!af x.2.2.2.2.2.2.1 0) (Z (F3 x.2.2.2.2.2.2.1) λi=>I !i)) λj=>I j)) λk=>Z (aQ k (Z (aA (!af x.2.2.2.2.2.2.2.2.1 1) (I !af x.2.2.2.2.2.2.2.2.1 2)) λl=>I l)) λn=>bif n then au Y else aq (A,A,A)else au Y) (Ug x)
def TF(x:fI):bp:=Z (F2 x) λa=>I !a
def TE(x:List fI)(a:aP):kt:=bif ag a.1.1 ↑x.length then aD x a.1.1 λb=>Z (TF b) λc=>bif c then au !ad 0 a.1.1 else aq ((w (a.1.1+1),A),A,A)else au N
def Lk(x:List fI):bp:=ar (TE x) ((0,A),A,A)
def Lm(x:du):Dh:=Z (xD x.2.2.2.2.2.2.2.2.2.2.1) λa=>Z (ka (!a) 10) λb=>Z (FD x.2.2.2.2.2.2.2.2.2.2.2.1) λj=>Z (ka (!j) 2) λk=>Z (aQ (ag 1 ↑x.2.2.2.2.2.2.2.2.2.2.2.2.1.length) (I (ag 1 ↑x.2.2.2.2.2.2.2.2.2.2.2.2.2.2.1.length))) λl=>Z (ka l 5) λm=>Z (aA (ag 0 ↑x.2.2.2.2.2.2.2.2.2.2.2.2.2.2.1.length) (Z (Ob x.2.2.2.2.2.2.2.2.2.2.2.2.2.1) λn=>I !n)) λo=>Z (ka o 13) λp=>Z (aA (!ag 0 ↑x.2.2.2.2.2.2.2.2.2.2.2.2.2.2.1.length) (Z (FE x.2.2.2.2.2.2.2.2.2.2.2.2.2.1 (0,0,0,0,[],0,A)) λq=>I !q)) λc=>Z (ka c 17) λd=>Z (Lk x.2.2.2.2.2.2.2.2.2.2.2.2.1) λe=>Z (aQ (!e) (Z (Lk x.2.2.2.2.2.2.2.2.2.2.2.2.2.2.1) λf=>I !f)) λg=>Z (ka g 16) λh=>Z (FB [b,k,m,p,d,h]) λi=>I i
def Ll(x:du):Dh:=bif af x.2.1 1 then Z (Qw x.2.2.2.2.2.2.2.1) λa=>Z (ka (!a) 2) λb=>I b else bif af x.2.1 2 then Z (Lm x) λc=>I c else Z (E4 x.2.2.2.2.2.2.2.2.2.2.2.2.2.2.2.1) λd=>Z (ka (!d) 16) λe=>Z (aA (!af x.2.2.2.2.2.2.2.2.2.2.2.2.2.2.2.2.1 1) (I !af x.2.2.2.2.2.2.2.2.2.2.2.2.2.2.2.2.1 2)) λf=>Z (ka f 2) λg=>Z (FB [e,g]) λh=>I h
def avA(a:Yk):Option (Yk⊕Int):=bif cT a.1.1 then au a.1.2.1 else Z (abf a.1.1) λb=>aJ (af (↑b.1) 171) (aq ((yW 1 a.1.1,b.2,A),((b.2,yW 1 a.1.1,A),A),A))
def adm(a:(wi×Unit)×eF):b9:=ar avA ((a.1.1,0,A),((0,[],A),A),A)
def Lh(x:du):b9:=Z (Lj x) λa=>bb (bif cT a then Z (Ll x) λb=>aq ((b,A),A,A)else aq ((a,A),A,A)) adm
def Hf(x:cZ)(a:Yn):Option (Yn⊕aF):=bif ag a.1.2.1 ↑x.2.2.2.1.length then aD x.2.2.2.1 a.1.2.1 λb=>Z (Lh b) λc=>bif !af c 0 then au (c,a.1.2.1,A)else bif kL a.2.1.1 b.1 Y then au (7,a.1.2.1,A)else bif ag a.1.1 b.2.2.1 then au (17,a.1.2.1,A)else bif af b.2.1 1 then aq ((w (b.2.2.1+1),w (a.1.2.1+1),A),(jd a.2.1.1 b.1 N,A),A)else aq ((b.2.2.1,w (a.1.2.1+1),A),(jd a.2.1.1 b.1 N,A),A)else au (0,0,A)
def NS(x:cZ):iD:=Z (aQ (ag x.1 1) (I (ag 256 x.1))) λa=>Z (aQ a (I (ag x.2.1 1))) λb=>Z (aQ b (I (ag 256 x.2.1))) λc=>bif c then I (6,0,A)else bif ag 64 ↑x.2.2.2.1.length then I (5,64,A)else ar (Hf x) ((0,0,A),([],A),A)
def B7(x:cZ):bp:=Z (NS x) λa=>I (af a.1 0)
def x0(x:Int):bp:=Z (aA (ad (-4096) x) (I (ad x 4096))) λa=>I a
def xZ(x:dC):bp:=Z (x0 x.1) λa=>Z (aA a (Z (x0 x.2.1) λb=>I b)) λc=>Z (aA c (Z (x0 x.2.2.1) λd=>I d)) λe=>Z (aA e (Z (x0 x.2.2.2.1) λf=>I f)) λg=>I g
def G1(x:dC):bp:=Z (xZ x) λa=>Z (aQ (!a) (I (ad x.2.2.1 x.1))) λb=>Z (aQ b (I (ad x.2.2.2.1 x.2.1))) λc=>I c
def BZ(x:dC):Ib:=Z (G1 x) λa=>bif a then I (0,0,0,0,A)else I x
def xY(x:dC):b9:=Z (BZ x) λa=>I (w (w (a.2.2.1-a.1)*w (a.2.2.2.1-a.2.1)))
def I7(x:cZ)(y:Int)(z:dC):b9:=Z (B7 x) λa=>bif !a then I 18 else Z (aQ (ag y 0) (I (ad (↑x.2.2.2.1.length) y))) λb=>bif b then I 8 else Z (xZ z) λc=>bif !c then I 6 else Z (xY z) λd=>bif ag 65536 d then I 5 else I 0
def Hg(x:cZ)(y:Int):bp:=Z (aA (ad 0 y) (I (ag y ↑x.2.2.2.1.length))) λa=>Z (aA a (Z (B7 x) λb=>I b)) λc=>I c
def Hh(x:tP)(y:Int)(a:aP):zw:=bif ad 0 a.1.1 then aD x a.1.1 λb=>aD x y λc=>bif af b.2.2.1 (w (c.2.2.1-1))then au a.1.1 else aq ((w (a.1.1-1),A),A,A)else au (-1)
def oK(x:tP)(y:Int):b9:=ar (Hh x y) ((w (y-1),A),A,A)
def NT(x:cZ)(y:Int):b9:=Z (Hg x y) λa=>bif !a then I (-1)else Z (oK x.2.2.2.1 y) λb=>I b
def wt(x:DQ×DQ×DQ×DQ×DQ×DQ×Unit):qg:=I x
def PZ(x y z u:Int):qg:=Z (eM x) λa=>Z (eM y) λb=>Z (eM z) λc=>Z (eM u) λd=>Z (eM 0) λe=>Z (eM 0) λf=>Z (wt (a,b,c,d,e,f,A)) λg=>I g
def IA:qg:=Z (PZ 1 0 0 1) λa=>I a
def lA(x y:DQ):fZ:=Z (vl x y) λa=>Z (xc a.1 a.2.1) λb=>Z (sT b a.2.2.1) λc=>I c
def rR(x y z u:DQ):fZ:=Z (oH x y) λa=>Z (oH z u) λb=>Z (lA a b) λc=>I c
def DG(x:cf)(y z:DQ):Option fo:=Z (rR x.1 y x.2.2.1 z) λa=>Z (lA a x.2.2.2.2.1) λb=>Z (rR x.2.1 y x.2.2.2.1 z) λc=>Z (lA c x.2.2.2.2.2.1) λd=>I (b,d,A)
def IB(x y:cf):qg:=Z (DG y x.2.2.2.2.1 x.2.2.2.2.2.1) λa=>Z (rR y.1 x.1 y.2.2.1 x.2.1) λb=>Z (rR y.2.1 x.1 y.2.2.2.1 x.2.1) λc=>Z (rR y.1 x.2.2.1 y.2.2.1 x.2.2.2.1) λd=>Z (rR y.2.1 x.2.2.1 y.2.2.2.1 x.2.2.2.1) λe=>Z (wt (b,c,d,e,a.1,a.2.1,A)) λf=>I f
def PY(x:cf):qg:=Z (wx x) λa=>Z (wt a) λb=>I b
def Iz(x:rP)(a:Ig):Option (Ig⊕rQ):=bif ag a.1.1 ↑x.length then aD x a.1.1 λc=>Z (IB a.2.1.2.1 c) λb=>Z (uc b) λd=>bif !d then au (jG,5,A)else aq ((w (a.1.1+1),A),(a.2.1.1,b,A),A)else Z (Z (PY a.2.1.2.1) λe=>I (e,0,A)) λf=>au f
def PX(x:rP)(b:cf)(a:dh×(PN×Unit)×Unit):Option (dh×(PN×Unit)×Unit⊕rQ):=bif ag a.1.1 ↑x.length then aD x a.1.1 λd=>Z (uc d) λe=>bif !e then au (jG,5,A)else aq ((w (a.1.1+1),A),a.2.1,A)else Z (ar (Iz x) ((0,A),(a.2.1.1,b,A),A)) λc=>au c
def Iy(x:rP):Option rQ:=Z IA λa=>ar (PX x a) ((0,A),((((Y,A,A),(Y,A,A),A),((Y,A,A),(Y,A,A),A),((Y,A,A),(Y,A,A),A),((Y,A,A),(Y,A,A),A),((Y,A,A),(Y,A,A),A),((Y,A,A),(Y,A,A),A),A),A),A)
def Au(x:cZ)(a:(Int×rP×Unit)×eF):Option ((Int×rP×Unit)×eF⊕rQ):=bif ad 0 a.1.1 then aD x.2.2.2.1 a.1.1 λb=>aJ (bg (a.1.2.1.length+[b.2.2.2.1].length) 384) (Z (NT x a.1.1) λd=>aq ((d,bh a.1.2.1 [b.2.2.2.1],A),A,A))else Z (Z (Iy a.1.2.1) λc=>I (c.1,c.2.1,A)) λe=>au e
def JZ(x:cZ)(y:Int):Option rQ:=Z (B7 x) λa=>bif !a then I (jG,18,A)else Z (aQ (ag y 0) (I (ad (↑x.2.2.2.1.length) y))) λb=>bif b then I (jG,8,A)else ar (Au x) ((y,[],A),A,A)
def RH(x:cZ)(y:Int):Option ((cf×jR)×du×Unit):=Z (JZ x y) λa=>Z (aQ (af a.2.1 18) (I (af a.2.1 8))) λb=>bif b then I ((jG,Y,A),(0,0,0,jG,[],0,0,0,Y,Y,[],0,[],(0,0,0,0,[],0,A),[],(0,0,[],A),0,A),A)else aD x.2.2.2.1 y λc=>I ((a.1,af a.2.1 0,A),c,A)
def LZ(x:cX):Option fJ:=Z (pJ x.1) λa=>aJ (ad 0 (bif ad a 0 then 0 else a)&&ad (bif ad a 0 then 0 else a) ↑[x.2.1,x.2.2.1,x.2.2.2.1].length) (I (aW (bif ad a 0 then 0 else a).toNat [x.2.1,x.2.2.1,x.2.2.2.1]))
def xW(x y:Int):n6:=Z (xd x) λb=>Z (xd y) λc=>Z (BX b c) λa=>I (a.1,a.2.1,A)
def SN(a b:DZ)(d:we):PF:=Z (kF (!cx Ty.bool a.1 b.1) d.1.1) λc=>Z (pA c b) λe=>Z (AR a e) λf=>I (c,f,0,A)
def Kw(x y:DZ):PF:=Z (kF x.1 x.2.1) λb=>Z (kF y.1 y.2.1) λc=>Z (divMod b.2.1 c.2.1) λa=>bif !af a.2.2.1 0 then I ((Y,[],A),(Y,[],A),a.2.2.1,A)else bb (Z (aA (!cx Ty.bool b.1 c.1) (I (ag 0 ↑a.2.1.length))) λd=>bif d then Z (uB 1) λe=>Z (DC a.1 e) λf=>aq ((f,A),A,A)else aq ((a.1,A),A,A)) (SN b c)
def vj(x:DQ):lL:=Z (jk x) λa=>Z (Kw a.1 a.2.1) λb=>I b.1
def uQ(b:bc)(a:eT):Option (eT⊕aP⊕Ic):=Z (aA (ad 0 a.1.2.1) (I (ad (↑b.length) 2))) λc=>bif c then aD b a.1.2.1 λd=>aq ((wu ↑((word .u64 (wu (a.1.1*4294967296))).lor (word .u64 (wu d))),w (a.1.2.1-1),A),A,A)else au (aZ ((a.1.1,A),A,A))
def abO(a:aP)(b:Dz):Ii:=I (w a.1.1,N,A)
def Ky(x:DZ)(b:bc)(a:aP):Ii:=bb (Z (aQ (ag 2 ↑b.length) (I (ag 9223372036854775808 a.1.1))) λc=>Z (aQ c (Z (aA (af a.1.1 9223372036854775808) (I !x.1)) λd=>I d)) λe=>bif e then au (0,Y,A)else bif x.1 then au (w (wu (0-a.1.1)),N,A)else aq (A,A,A)) (abO a)
def uP(x:DZ):Ii:=Z (sC x.2.1) λa=>bb (ar (uQ a) ((0,w (↑a.length-1),A),A,A)) (Ky x a)
def Ix(x:cf)(y:aF):Dx:=Z (uc x) λe=>bif !e then I ((0,0,A),5,A)else Z (iN y) λf=>bif !f then I ((0,0,A),6,A)else Z (eM y.1) λk=>Z (eM y.2.1) λl=>Z (DG x k l) λc=>Z (xW 1 2) λd=>Z (lA c.1 d.1) λm=>Z (vj m) λn=>Z (uP n) λb=>Z (lA c.2.1 d.1) λo=>Z (vj o) λg=>Z (uP g) λa=>Z (aA b.2.1 (I a.2.1)) λh=>Z (aA h (Z (iN (b.1,a.1,A)) λi=>I i)) λj=>bif j then I ((b.1,a.1,A),0,A)else I ((0,0,A),6,A)
def Uj(x:Int)(y:fJ):Option cX:=bif ag 0 ↑y.length then Z y[0]? λa=>bif ag 1 ↑y.length then Z y[1]? λb=>bif ag 2 ↑y.length then Z y[2]? λd=>I (x,a,b,d,A)else I (x,a,b,(0,0,A),A)else bif ag 2 ↑y.length then Z y[2]? λe=>I (x,a,(0,0,A),e,A)else I (x,a,(0,0,A),(0,0,A),A)else bif ag 1 ↑y.length then Z y[1]? λc=>bif ag 2 ↑y.length then Z y[2]? λf=>I (x,(0,0,A),c,f,A)else I (x,(0,0,A),c,(0,0,A),A)else bif ag 2 ↑y.length then Z y[2]? λg=>I (x,(0,0,A),(0,0,A),g,A)else I (x,(0,0,A),(0,0,A),(0,0,A),A)
def F6(y:cf)(c:zy)(f:cX)(d:fJ)(a:mx):Option (mx⊕zy⊕zk):=bif ag a.1.2.1 ↑d.length then aD d a.1.2.1 λg=>Z (Ix y g) λb=>bif !af b.2.1 0 then au (bT ([],b.2.1,A))else aJ (bg (a.1.1.length+[b.1].length) 16) (aq ((bh a.1.1 [b.1],w (a.1.2.1+1),A),A,A))else Z (Z (Uj f.1 a.1.1) λe=>aJ (bg (c.1.1.length+[e].length) 56) (aq ((bh c.1.1 [e],w (c.1.2.1+1),A),A,A))) λh=>au h
def LX(x:hL)(y:cf)(a:zy):Option (zy⊕zk):=bif ag a.1.2.1 ↑x.length then aD x a.1.2.1 λb=>Z (LZ b) λc=>ar (F6 y a b c) (([],0,A),A,A)else au (a.1.1,0,A)
def LW(x:hL)(y:cf):Option zk:=Z (xD x) λa=>bif !a then I ([],10,A)else ar (LX x y) (([],0,A),A,A)
def JU(x y z:aF):b9:=I (w (w (w (w (x.1-w (2*y.1))+z.1)*w (w (x.1-w (2*y.1))+z.1))+w (w (w (x.2.1-w (2*y.2.1))+z.2.1)*w (w (x.2.1-w (2*y.2.1))+z.2.1))))
def Eu(x y:Int)(a:aP):Dt:=bif ad a.1.1 64 then bif ad x (w (w (w (w (w (w (16*a.1.1)*a.1.1)*a.1.1)*a.1.1)*y)*y))then au (a.1.1,0,A)else aq ((w (a.1.1+1),A),A,A)else au (0,11,A)
def aaV(x y:Int)(z:fJ)(a:aP):Dt:=bif ag a.1.1 ↑z.length then aD z a.1.1 λb=>Z (iN b) λc=>bif !c then au (0,6,A)else aq ((w (a.1.1+1),A),A,A)else Z (ar (Eu x y) ((1,A),A,A)) λd=>au d
def wO(x y:Int)(z:fJ):iD:=Z (aQ (ag y 1) (I (ag 256 y))) λa=>bif a then I (0,2,A)else ar (aaV x y z) ((0,A),A,A)
def JR(x:qf)(y:Int):iD:=Z (JU x.1 x.2.1 x.2.2.1) λb=>Z (wO b y [x.1,x.2.1,x.2.2.1]) λa=>I (a.1,a.2.1,A)
def aaU(x:fJ)(y z:Int)(a:aP):kt:=bif ag a.1.1 ↑x.length then aD x a.1.1 λb=>Z (iN b) λc=>bif !c then au Y else aq ((w (a.1.1+1),A),A,A)else Z (Z (aA (ad 1 z) (I (ad z 64))) λd=>Z (aA d (I (ad 0 y))) λe=>Z (aA e (I (ad y z))) λf=>I f) λg=>au g
def At(x:fJ)(y z:Int):bp:=ar (aaU x y z) ((0,A),A,A)
def pq(x y:Int):b9:=jw (w (2*y)) (jw (w (2*y)) (bif ag ((w (w (2*x)+y)).tmod (w (2*y))) 0 then I (w (w ((w (w (2*x)+y)).tdiv (w (2*y)))-1))else I (w ((w (w (2*x)+y)).tdiv (w (2*y))))))
def JQ(x:qf)(y z:Int):iD:=Z (At [x.1,x.2.1,x.2.2.1] y z) λa=>bif !a then I (0,0,A)else Z (pq (w (w (w (w (w (z-y)*w (z-y))*x.1.1)+w (w (w (2*y)*w (z-y))*x.2.1.1))+w (w (y*y)*x.2.2.1.1))) (w (z*z))) λb=>Z (pq (w (w (w (w (w (z-y)*w (z-y))*x.1.2.1)+w (w (w (2*y)*w (z-y))*x.2.1.2.1))+w (w (y*y)*x.2.2.1.2.1))) (w (z*z))) λc=>I (b,c,A)
def anp(x:qf)(b:aF)(a:Ik):Option (Ik⊕tV):=bif ad a.1.1 b.1 then Z (JQ x a.1.1 b.1) λc=>aJ (bg (a.2.1.1.length+[c].length) 16) (aq ((w (a.1.1+1),A),(bh a.2.1.1 [c],A),A))else au (a.2.1.1,0,A)
def RB(x:qf)(y:Int):zi:=Z (JR x y) λa=>bif !af a.2.1 0 then I ([],a.2.1,A)else ar (anp x a) ((1,A),([],A),A)
def JN(x:tX)(y:Int):iD:=Z (JU x.1 x.2.1 x.2.2.1) λa=>Z (JU x.2.1 x.2.2.1 x.2.2.2.1) λb=>Z (wO (w (9*bif ad a b then b else a)) y [x.1,x.2.1,x.2.2.1,x.2.2.2.1]) λc=>I (c.1,c.2.1,A)
def JM(x:tX)(y z:Int):iD:=Z (At [x.1,x.2.1,x.2.2.1,x.2.2.2.1] y z) λa=>bif !a then I (0,0,A)else Z (pq (w (w (w (w (w (w (w (z-y)*w (z-y))*w (z-y))*x.1.1)+w (w (w (w (3*y)*w (z-y))*w (z-y))*x.2.1.1))+w (w (w (w (3*y)*y)*w (z-y))*x.2.2.1.1))+w (w (w (y*y)*y)*x.2.2.2.1.1))) (w (w (z*z)*z))) λb=>Z (pq (w (w (w (w (w (w (w (z-y)*w (z-y))*w (z-y))*x.1.2.1)+w (w (w (w (3*y)*w (z-y))*w (z-y))*x.2.1.2.1))+w (w (w (w (3*y)*y)*w (z-y))*x.2.2.1.2.1))+w (w (w (y*y)*y)*x.2.2.2.1.2.1))) (w (w (z*z)*z))) λc=>I (b,c,A)
def ann(x:tX)(b:aF)(a:Ik):Option (Ik⊕tV):=bif ad a.1.1 b.1 then Z (JM x a.1.1 b.1) λc=>aJ (bg (a.2.1.1.length+[c].length) 16) (aq ((w (a.1.1+1),A),(bh a.2.1.1 [c],A),A))else au (a.2.1.1,0,A)
def Rz(x:tX)(y:Int):zi:=Z (JN x y) λa=>bif !af a.2.1 0 then I ([],a.2.1,A)else ar (ann x a) ((1,A),([],A),A)
def JT(x:aF)(y:cX)(z:Int):zi:=bif af y.1 3 then Z (RB (x,y.2.1,y.2.2.1,A) z) λa=>I (a.1,a.2.1,A)else bif af y.1 4 then Z (Rz (x,y.2.1,y.2.2.1,y.2.2.2.1,A) z) λb=>I (b.1,b.2.1,A)else I ([y.2.1],0,A)
def JP(d:Dq)(c:tV)(a:Ym):Option (Ym⊕Dq⊕tY):=bif ag a.1.1 ↑c.1.length then aD c.1 a.1.1 λb=>Z (aQ (af (↑a.2.1.1.2.1.1.length) 0) (aG a.2.1.1.2.1.1 (w (↑a.2.1.1.2.1.1.length-1)) λe=>I !cx fj e b)) λf=>bif f then aJ (bg (a.2.1.1.2.1.1.length+[b].length) 16) (aq ((w (a.1.1+1),A),((a.2.1.1.1,(bh a.2.1.1.2.1.1 [b],a.2.1.1.2.1.2.1,A),A),A),A))else aq ((w (a.1.1+1),A),a.2.1,A)else au (aZ ((a.2.1.1,w (d.1.2.1+1),A),A,A))
def Et(a:Dq)(b:eT):Option (eT⊕tY):=bif ag b.1.2.1 ↑(bh a.1.1.1 [a.1.1.2.1]).length then aG (bh a.1.1.1 [a.1.1.2.1]) b.1.2.1 λc=>aq ((w (b.1.1+↑c.1.length),w (b.1.2.1+1),A),A,A)else Z (bif ag 4096 b.1.1 then I ([],5,A)else I (bh a.1.1.1 [a.1.1.2.1],0,A)) λd=>au d
def nB(x:hL)(y:Int)(a:Dq):Option (Dq⊕tY):=bif ag a.1.2.1 ↑x.length then aD x a.1.2.1 λb=>bif af b.1 1 then aJ (bg ((bh a.1.1.1 [a.1.1.2.1]).length+1) 32) (aq (((bh a.1.1.1 [a.1.1.2.1],([b.2.1],Y,A),A),w (a.1.2.1+1),A),A,A))else aJ (af (w (↑(a.1.1.1.length+1)-1)) ↑a.1.1.1.length) (bif !af b.1 5 then aG a.1.1.2.1.1 (w (↑a.1.1.2.1.1.length-1)) λh=>Z (JT h b y) λc=>bif !af c.2.1 0 then au ([],c.2.1,A)else ar (JP a c) ((0,A),(a.1.1,A),A)else Z (aA (ag 1 ↑a.1.1.2.1.1.length) (aG a.1.1.2.1.1 (w (↑a.1.1.2.1.1.length-1)) λd=>aJ (ag 0 ↑a.1.1.2.1.1.length) (Z a.1.1.2.1.1[0]? λe=>I (cx fj d e)))) λf=>bif f then aJ (ad 0 (w (↑a.1.1.2.1.1.length-1))&&ad (w (↑a.1.1.2.1.1.length-1)) ↑a.1.1.2.1.1.length) (aJ (ag 0 ↑a.1.1.2.1.1.length) (aq (((a.1.1.1,(aW (w (↑a.1.1.2.1.1.length-1)).toNat a.1.1.2.1.1,N,A),A),w (a.1.2.1+1),A),A,A)))else aq (((a.1.1.1,(a.1.1.2.1.1,N,A),A),w (a.1.2.1+1),A),A,A))else Z (ar (Et a) ((0,0,A),A,A)) λg=>au g
def ano(a:eT):Option (eT⊕tY):=bif ag a.1.2.1 0 then U else Z (bif ag 4096 a.1.1 then I ([],5,A)else I ([],0,A)) λb=>au b
def RA(x:hL)(y:Int)(b:Dz):Option tY:=bif ag 0 ↑x.length then Z x[0]? λa=>aJ (af a.1 1) (ar (nB x y) ((([],([a.2.1],Y,A),A),1,A),A,A))else ar ano ((0,0,A),A,A)
def JO(x:hL)(y:Int):Option tY:=bb (Z (xD x) λa=>bif !a then au ([],10,A)else Z (aQ (ag y 1) (I (ag 256 y))) λb=>bif b then au ([],2,A)else aq (A,A,A)) (RA x y)
def aey(x:rM)(a:zs):PK:=bif ag a.1.2.1 ↑x.length then aD x a.1.2.1 λb=>bif ad 3 ↑b.1.length then aJ (bg b.1.length 16) (aJ (bg (a.1.1.length+[b.1].length) 24) (aq ((bh a.1.1 [b.1],w (a.1.2.1+1),A),A,A)))else aq ((a.1.1,w (a.1.2.1+1),A),A,A)else au a.1.1
def L2(x:rM):Option cF:=ar (aey x) (([],0,A),A,A)
def LH(x:hL)(y:cf)(z:Int):Option (cF×dh):=Z (LW x y) λa=>bif !af a.2.1 0 then bif !af a.2.1 0 then I ([],a.2.1,A)else I ([],a.2.1,A)else Z (JO a.1 z) λb=>Z (L2 b.1) λc=>bif !af b.2.1 0 then I ([],b.2.1,A)else I (c,b.2.1,A)
def RI(x:cf×jR)(y:hL):Option cF:=bif !x.2.1 then I []else Z (LH y x.1 32) λa=>bif !af a.2.1 0 then I []else I a.1
def wQ(x:cZ)(y:Int):Option (cF×jR):=Z (RH x y) λa=>bif af (↑a.2.1.2.2.2.2.1.length) 0 then I ([],Y,A)else Z (RI a.1 a.2.1.2.2.2.2.1) λb=>I (b,N,A)
def K4(y:Int)(b a:wg):Ys:=bif ag a.1.1 a.2.1.1.1.2.2.1 then aJ (bg (a.2.1.1.2.1.length+[y].length) 1) (aq ((w (a.1.1+1),A),((a.2.1.1.1,bh a.2.1.1.2.1 [y],A),A),A))else au (aZ ((w (b.1.1+1),A),a.2.1,A))
def au5(y:Int)(a:wg):PJ:=bif ag a.1.1 a.2.1.1.1.2.2.2.1 then ar (K4 y a) ((a.2.1.1.1.1,A),a.2.1,A)else au (a.2.1.1,0,A)
def Fs(x:dC)(y:Int):tU:=Z (xZ x) λb=>bif !b then I (((0,0,0,0,A),[],A),6,A)else Z (xY x) λc=>bif ag 65536 c then I (((0,0,0,0,A),[],A),5,A)else Z (BZ x) λa=>ar (au5 y) ((a.2.1,A),((a,[],A),A),A)
def Uk(x:aF):bp:=Z (iN x) λa=>I !a
def Bs(b:fJ)(a:aP):kt:=bif ag a.1.1 ↑b.length then aD b a.1.1 λc=>Z (Uk c) λd=>bif d then au (ad 0 a.1.1)else aq ((w (a.1.1+1),A),A,A)else au (ad 0 (-1))
def F9(x:cF)(a:eT):Im:=bif ag a.1.2.1 ↑x.length then aD x a.1.2.1 λb=>Z (aQ (ag 4096 (w (a.1.1+↑b.length))) (ar (Bs b) ((0,A),A,A))) λc=>bif c then au Y else aq ((w (a.1.1+↑b.length),w (a.1.2.1+1),A),A,A)else au N
def xE(x:cF):bp:=ar (F9 x) ((0,0,A),A,A)
def ayZ(x:cF)(a:mx):PG:=bif ag a.1.2.1 ↑x.length then aD x a.1.2.1 λb=>aJ (bg (a.1.1.length+b.length) 16) (aq ((bh a.1.1 b,w (a.1.2.1+1),A),A,A))else au a.1.1
def ay0(x:cF)(a:mx):PG:=bif ag a.1.2.1 ↑x.length then aD x a.1.2.1 λb=>aJ (bg (a.1.1.length+b.length) 16) (aq ((bh a.1.1 b,w (a.1.2.1+1),A),A,A))else au a.1.1
def agV(x:cF)(a:eT)(b:Dz):Option fJ:=bif ag 0 (w (a.1.1-0))then aJ (ag 0 (w (a.1.1-0))&&bg (w (a.1.1-0)).toNat 16) (aJ (ag 0 ↑(bR (w (a.1.1-0)).toNat ((0,0,A):Int×Int×Unit)).length) (ar (ayZ x) ((aW 0 (bR (w (a.1.1-0)).toNat ((0,0,A):Int×Int×Unit)),0,A),A,A)))else ar (ay0 x) (([],0,A),A,A)
def agW(x:cF)(a:eT):Option (eT⊕fJ):=bif ag a.1.2.1 ↑x.length then aD x a.1.2.1 λb=>bif ag (w (a.1.1+↑b.length)) 0 then U else aq ((w (a.1.1+↑b.length),w (a.1.2.1+1),A),A,A)else Z (bb (bif ag a.1.1 0 then U else aq (A,A,A)) (agV x a)) λc=>au c
def NZ(x:cF):Option fJ:=ar (agW x) ((0,0,A),A,A)
def aex(x:cF)(c:fJ)(d:Bool)(e f:aF)(a:dh×rJ×Unit):Option (dh×rJ×Unit⊕aF×aF×jR):=bif ag a.1.1 ↑c.length then aD c a.1.1 λb=>aq ((w (a.1.1+1),A),((bif ad a.2.1.1.1 b.1 then a.2.1.1.1 else b.1,bif ad a.2.1.1.2.1 b.2.1 then a.2.1.1.2.1 else b.2.1,A),(bif ad a.2.1.2.1.1 b.1 then b.1 else a.2.1.2.1.1,bif ad a.2.1.2.1.2.1 b.2.1 then b.2.1 else a.2.1.2.1.2.1,A),A),A)else au (a.2.1.1,a.2.1.2.1,N,A)
def L0(x:cF):Option (aF×aF×jR):=Z (NZ x) λa=>Z (aQ (af (↑a.length) 0) (Z (xE x) λe=>I !e)) λb=>bif b then I ((0,0,A),(0,0,A),Y,A)else Z a[0]? λc=>Z a[0]? λd=>ar (aex x a b c d) ((0,A),(c,d,A),A)
def L4(x:Int):b9:=I ((w (w (x+256)-1)).fdiv 256)
def L3(x:cF):Ib:=Z (L0 x) λa=>bif !a.2.2.1 then I (0,0,0,0,A)else Z (L4 a.2.1.1) λb=>Z (L4 a.2.1.2.1) λc=>Z (aQ (ad b (a.1.1.fdiv 256)) (I (ad c (a.1.2.1.fdiv 256)))) λd=>bif d then I (0,0,0,0,A)else I (a.1.1.fdiv 256,a.1.2.1.fdiv 256,b,c,A)
def Nz(x:dC)(y z:Int):bp:=Z (G1 x) λa=>Z (aA (!a) (I (ad x.1 y))) λb=>Z (aA b (I (ag y x.2.2.1))) λc=>Z (aA c (I (ad x.2.1 z))) λd=>Z (aA d (I (ag z x.2.2.2.1))) λe=>I e
def NA(x:dC)(y z:Int):b9:=Z (Nz x y z) λa=>bif !a then I (-1)else I (w (w (w (w (z-x.2.1)*w (x.2.2.1-x.1))+y)-x.1))
def DL(x:Int):bp:=Z (aQ (ag x (-4096)) (I (ag 4096 x))) λa=>I a
def zN(x y:Int):iD:=Z (DL x) λa=>Z (aQ a (Z (DL y) λb=>I b)) λc=>bif c then I (1048577,0,A)else I (w (x*256),w (y*256),A)
def II(x:cF)(y:Int):b9:=Z (xE x) λa=>bif !a then I 12 else Z (aA (!af y 1) (I !af y 2)) λb=>bif b then I 2 else I 0
def BW(x y:DQ):fZ:=Z (vl x y) λa=>Z (xc a.1 a.2.1) λb=>Z (xc a.2.2.1 a.2.2.1) λc=>Z (sT b c) λd=>I d
def OD(x y:aF):iD:=Z (ra x) λa=>Z (ra y) λb=>I (w (a.1+b.1),w (a.2.1+b.2.1),A)
def aez(y:aF)(b:zs)(c:fJ)(a:mx):Option (mx⊕zs⊕cF):=bif ag a.1.2.1 ↑c.length then aD c a.1.2.1 λe=>Z (OD e y) λd=>aJ (bg (a.1.1.length+[d].length) 16) (aq ((bh a.1.1 [d],w (a.1.2.1+1),A),A,A))else Z (aJ (bg (b.1.1.length+[a.1.1].length) 24) (aq ((bh b.1.1 [a.1.1],w (b.1.2.1+1),A),A,A))) λf=>au f
def aeA(x:cF)(y:aF)(a:zs):PK:=bif ag a.1.2.1 ↑x.length then aD x a.1.2.1 λb=>ar (aez y a b) (([],0,A),A,A)else au a.1.1
def F8(x:cF)(y:aF):Option cF:=Z (xE x) λa=>bif !a then I []else ar (aeA x y) (([],0,A),A,A)
def SQ(x:aF):bp:=Z (iN x) λa=>I !a
def abY(x:fJ)(a:aP):kt:=bif ag a.1.1 ↑x.length then aD x a.1.1 λb=>Z (SQ b) λc=>bif c then au !ad 0 a.1.1 else aq ((w (a.1.1+1),A),A,A)else au N
def AV(x:fJ):bp:=ar (abY x) ((0,A),A,A)
def AU(x y:Int):fZ:=Z (xW x y) λa=>I a.1
def xf(x y:Int)(z:DQ):fZ:=Z (eM x) λa=>Z (eM (w (y-x))) λb=>Z (oH z b) λc=>Z (lA a c) λd=>I d
def SO(x y:aF)(z:DQ):It:=Z (eM (bif ad x.2.1 y.2.1 then x.2.1 else y.2.1)) λa=>Z (eM (bif ad x.2.1 y.2.1 then y.2.1 else x.2.1)) λb=>Z (AV [x,y]) λf=>Z (aQ (!f) (I (af x.2.1 y.2.1))) λg=>Z (aQ g (Z (cQ z a) λh=>I (ag h 0))) λi=>Z (aQ i (Z (cQ z b) λj=>I (ag 0 j))) λk=>bif k then I (dc,Y,A)else Z (eM x.2.1) λl=>Z (vk z l) λm=>Z (AU 1 (w (y.2.1-x.2.1))) λc=>Z (oH m c) λd=>Z (xf x.1 y.1 d) λe=>I (e,N,A)
def Jc(x:Int):bp:=I !af x x
def Ja(x y:Int):b9:=Z (Jc x) λb=>Z (Jc y) λa=>bif b then bif a then I 0 else I (-1)else bif a then I 1 else bif ag x y then I (-1)else bif ag y x then I 1 else I 0
def ZG(x:bc)(a:aP):zw:=bif ag a.1.1 ↑x.length then aD x a.1.1 λb=>bif !af b 0 then au b else aq ((w (a.1.1+1),A),A,A)else au 0
def Jb(x:bc):b9:=ar (ZG x) ((0,A),A,A)
def vv(x y:zn):b9:=Z (cQ x.1 y.1) λa=>Z (Ja y.2.1 x.2.1) λb=>Z (Jb [a,b]) λc=>I c
def ahk{d:Type}(a c e:Int)(b:(Int×Unit)×Unit×List d×Unit):Option ((Int×Unit)×Unit×List d×Unit⊕Unit×List d×Int×Int×Int×(Unit×Unit)×Unit):=bif ag b.1.1 e then aG b.2.2.1 (w (c+b.1.1)) λf=>aG b.2.2.1 (w (a+b.1.1)) λg=>aG b.2.2.1 (w (a+b.1.1)) λh=>aG (b.2.2.1.set (w (a+b.1.1)).toNat f) (w (c+b.1.1)) λi=>aq ((w (b.1.1+1),A),A,(b.2.2.1.set (w (a+b.1.1)).toNat f).set (w (c+b.1.1)).toNat g,A)else au (A,b.2.2.1,a,c,e,(A,A),A)
def Ch{b:Type}(d:List b)(a c e:Int):Option (Unit×List b×Int×Int×Int×(Unit×Unit)×Unit):=ar (ahk a c e) ((0,A),A,d,A)
def af6{c:Type}(b:Int)(a:aF×Unit×List c×Unit):Option (aF×Unit×List c×Unit⊕(Int×Unit)×Unit×List c×Unit⊕Unit×List c×Int×Int×Int×(Unit×Unit)×Unit):=bif !af a.1.1 a.1.2.1 then bif ag a.1.2.1 a.1.1 then Z (Ch a.2.2.1 (w (b-a.1.1)) b a.1.2.1) λd=>aq ((w (a.1.1-a.1.2.1),a.1.2.1,A),A,d.2.1,A)else Z (Ch a.2.2.1 (w (b-a.1.1)) (w (w (b+a.1.2.1)-a.1.1)) a.1.1) λe=>aq ((a.1.1,w (a.1.2.1-a.1.1),A),A,e.2.1,A)else au (aZ ((a.1.1,A),A,a.2.2.1,A))
def af7{d:Type}(a b e:Int)(c:(Int×Unit)×Unit×List d×Unit):Option (Unit×List d×Int×Int×Int×(Unit×Unit)×Unit):=Z (Ch c.2.2.1 (w (b-c.1.1)) b c.1.1) λf=>I (A,f.2.1,a,b,e,(A,A),A)
def G5{c:Type}(d:List c)(a b n:Int):Option (Unit×List c×Int×Int×Int×(Unit×Unit)×Unit):=bb (ar (af6 b) ((w (b-a),w (n-b),A),A,d,A)) (af7 a b n)
def abL{c:Type}(e:c->c->Option Int)(a:Int)(b:(Int×Unit)×Unit×List c×Unit):Option ((Int×Unit)×Unit×List c×Unit⊕Unit×Unit×List c×Unit⊕(Int×Unit)×Unit×List c×Unit⊕Unit×List c×Int×Int×(Unit×Unit)×Unit):=Z (aA (ag a b.1.1) (aG b.2.2.1 b.1.1 λf=>aG b.2.2.1 (w (b.1.1-1)) λg=>Z (e f g) λh=>I (ag h 0))) λi=>bif i then aG b.2.2.1 (w (b.1.1-1)) λd=>aG b.2.2.1 b.1.1 λj=>aG b.2.2.1 b.1.1 λk=>aG (b.2.2.1.set b.1.1.toNat d) (w (b.1.1-1)) λl=>aq ((w (b.1.1-1),A),A,(b.2.2.1.set b.1.1.toNat d).set (w (b.1.1-1)).toNat j,A)else au (aZ (A,A,b.2.2.1,A))
def abM{a:Type}(b:(Int×Unit)×Unit×List a×Unit)(c:Unit×Unit×List a×Unit):Option ((Int×Unit)×Unit×List a×Unit⊕Unit×List a×Int×Int×(Unit×Unit)×Unit):=aq ((w (b.1.1+1),A),A,c.2.2.1,A)
def abN{b:Type}(e:b->b->Option Int)(a d:Int)(c:(Int×Unit)×Unit×List b×Unit):Option ((Int×Unit)×Unit×List b×Unit⊕Unit×List b×Int×Int×(Unit×Unit)×Unit):=bif ag c.1.1 d then bb (ar (abL e a) c) (abM c)else au (A,c.2.2.1,a,d,(A,A),A)
def AQ{b:Type}(d:b->b->Option Int)(e:List b)(a c:Int):Option (Unit×List b×Int×Int×(Unit×Unit)×Unit):=ar (abN d a c) ((w (a+1),A),A,e,A)
def Oh{c:Type}(e:c->c->Option Int)(d:List c)(a:Int)(b:eT):Option (aF×Unit×Unit⊕(Int×Unit)×Unit×Unit⊕Unit×List c×Int×Int×Int×(Unit×Unit)×Unit):=bif ag b.1.1 b.1.2.1 then aG d (w ((wu (w (b.1.1+b.1.2.1))).fdiv 2)) λf=>aG d a λg=>Z (e f g) λh=>bif ag h 0 then aq ((w (w ((wu (w (b.1.1+b.1.2.1))).fdiv 2)+1),b.1.2.1,A),A,A)else aq ((b.1.1,w ((wu (w (b.1.1+b.1.2.1))).fdiv 2),A),A,A)else au (aZ ((b.1.1,A),A,A))
def ahn{c:Type}(a e f:Int)(g:aP)(b:(Int×Unit)×Unit×List c×Unit):Option ((Int×Unit)×Unit×List c×Unit⊕Unit×List c×Int×Int×Int×(Unit×Unit)×Unit):=bif ag b.1.1 (w (g.1.1-1))then aG b.2.2.1 (w (b.1.1+1)) λd=>aG b.2.2.1 b.1.1 λh=>aG b.2.2.1 b.1.1 λi=>aG (b.2.2.1.set b.1.1.toNat d) (w (b.1.1+1)) λj=>aq ((w (b.1.1+1),A),A,(b.2.2.1.set b.1.1.toNat d).set (w (b.1.1+1)).toNat h,A)else au (A,b.2.2.1,a,e,f,(A,A),A)
def Wo{b:Type}(d:List b)(a c e:Int)(f:aP):Option (Unit×List b×Int×Int×Int×(Unit×Unit)×Unit):=ar (ahn a c e f) ((a,A),A,d,A)
def Oi{b:Type}(e:b->b->Option Int)(c:List b)(d:Int)(a:eT):Option (aF×Unit×Unit⊕(Int×Unit)×Unit×Unit⊕Unit×List b×Int×Int×Int×(Unit×Unit)×Unit):=bif ag a.1.1 a.1.2.1 then aG c d λf=>aG c (w ((wu (w (a.1.1+a.1.2.1))).fdiv 2)) λg=>Z (e f g) λh=>bif !ag h 0 then aq ((w (w ((wu (w (a.1.1+a.1.2.1))).fdiv 2)+1),a.1.2.1,A),A,A)else aq ((a.1.1,w ((wu (w (a.1.1+a.1.2.1))).fdiv 2),A),A,A)else au (aZ ((a.1.1,A),A,A))
def aho{c:Type}(a e f:Int)(g:aP)(b:(Int×Unit)×Unit×List c×Unit):Option ((Int×Unit)×Unit×List c×Unit⊕Unit×List c×Int×Int×Int×(Unit×Unit)×Unit):=bif ag g.1.1 b.1.1 then aG b.2.2.1 (w (b.1.1-1)) λd=>aG b.2.2.1 b.1.1 λh=>aG b.2.2.1 b.1.1 λi=>aG (b.2.2.1.set b.1.1.toNat d) (w (b.1.1-1)) λj=>aq ((w (b.1.1-1),A),A,(b.2.2.1.set b.1.1.toNat d).set (w (b.1.1-1)).toNat h,A)else au (A,b.2.2.1,a,e,f,(A,A),A)
def Wp{c:Type}(d:List c)(a b e:Int)(f:aP):Option (Unit×List c×Int×Int×Int×(Unit×Unit)×Unit):=ar (aho a b e f) ((b,A),A,d,A)
def Wr{c:Type}(f:c->c->Option Int)(d:List c)(a e g:Int)(b:eT):Option (aF×Unit×Unit⊕(Int×Unit)×Unit×Unit⊕Unit×List c×Int×Int×Int×(Unit×Unit)×Unit):=bif ag b.1.1 b.1.2.1 then aG d (w (w (w (w ((wu (w (a+g))).fdiv 2)+e)-1)-w ((wu (w (b.1.1+b.1.2.1))).fdiv 2))) λh=>aG d (w ((wu (w (b.1.1+b.1.2.1))).fdiv 2)) λi=>Z (f h i) λj=>bif !ag j 0 then aq ((w (w ((wu (w (b.1.1+b.1.2.1))).fdiv 2)+1),b.1.2.1,A),A,A)else aq ((b.1.1,w ((wu (w (b.1.1+b.1.2.1))).fdiv 2),A),A,A)else au (aZ ((b.1.1,A),A,A))
def Ws{d:Type}(g:List d->Int->Int->Int->Option (Unit×List d×Int×Int×Int×(Unit×Unit)×Unit))(a c b:Int)(e:aP)(f:Unit×Unit×List d×Unit):Option (Unit×List d×Int×Int×Int×(Unit×Unit)×Unit):=Z (aA (ag (w ((wu (w (a+b))).fdiv 2)) (w (w (w ((wu (w (a+b))).fdiv 2)+c)-e.1.1))) (I (ag (w (w (w ((wu (w (a+b))).fdiv 2)+c)-e.1.1)) b))) λh=>bif h then Z (g f.2.2.1 (w ((wu (w (a+b))).fdiv 2)) (w (w (w ((wu (w (a+b))).fdiv 2)+c)-e.1.1)) b) λi=>I (A,i.2.1,a,c,b,(A,A),A)else I (A,f.2.2.1,a,c,b,(A,A),A)
def Wt{c:Type}(e:List c->Int->Int->Int->Option (Unit×List c×Int×Int×Int×(Unit×Unit)×Unit))(a g d:Int)(b:aP)(f:Unit×Unit×List c×Unit):Option (Unit×List c×Int×Int×Int×(Unit×Unit)×Unit):=bb (Z (aA (ag a b.1.1) (I (ag b.1.1 (w ((wu (w (a+d))).fdiv 2))))) λh=>bif h then Z (e f.2.2.1 a b.1.1 (w ((wu (w (a+d))).fdiv 2))) λi=>aq (A,A,i.2.1,A)else aq f) (Ws e a g d b)
def Wu{d:Type}(g:List d->Int->Int->Int->Option (Unit×List d×Int×Int×Int×(Unit×Unit)×Unit))(f:List d)(a b e:Int)(c:aP):Option (Unit×List d×Int×Int×Int×(Unit×Unit)×Unit):=bb (Z (aA (ag c.1.1 b) (I (ag b (w (w (w ((wu (w (a+e))).fdiv 2)+b)-c.1.1))))) λh=>bif h then Z (G5 f c.1.1 b (w (w (w ((wu (w (a+e))).fdiv 2)+b)-c.1.1))) λi=>aq (A,A,i.2.1,A)else aq (A,A,f,A)) (Wt g a b e c)
def Wn{b:Type}(g:b->b->Option Int)(f:List b->Int->Int->Int->Option (Unit×List b×Int×Int×Int×(Unit×Unit)×Unit))(d:List b)(a c e:Int)(h:eT):Option (Unit×List b×Int×Int×Int×(Unit×Unit)×Unit):=bb (ar (Wr g d a c e) h) (Wu f d a c e)
def Cj{c:Type}(e:c->c->Option Int)(f:List c->Int->Int->Int->Option (Unit×List c×Int×Int×Int×(Unit×Unit)×Unit))(d:List c)(a b n:Int):Option (Unit×List c×Int×Int×Int×(Unit×Unit)×Unit):=bif af (w (b-a)) 1 then bb (ar (Oh e d a) ((b,n,A),A,A)) (Wo d a b n)else bif af (w (n-b)) 1 then bb (ar (Oi e d b) ((a,b,A),A,A)) (Wp d a b n)else bb (bif ag (w ((wu (w (a+n))).fdiv 2)) b then aq ((w (w (w ((wu (w (a+n))).fdiv 2)+b)-n),w ((wu (w (a+n))).fdiv 2),A),A,A)else aq ((a,b,A),A,A)) (Wn e f d a b n)
def Ci{a:Type}(c:a->a->Option Int):List a->Int->Int->Int->Option (Unit×List a×Int×Int×Int×(Unit×Unit)×Unit):=Nat.rec (λ_ _ _ _=>U) (λ_ b=>Cj c b) 1099511627776
def ag9{b:Type}(c:b->b->Option Int)(d:Int)(a:aF×Unit×List b×Unit):Option (aF×Unit×List b×Unit⊕(Int×Unit)×Unit×List b×Unit⊕Unit×List b×Int×(Unit×Unit)×Unit):=bif ad a.1.2.1 d then Z (AQ c a.2.2.1 a.1.1 a.1.2.1) λe=>aq ((a.1.2.1,w (a.1.2.1+20),A),A,e.2.1,A)else au (aZ ((a.1.1,A),A,a.2.2.1,A))
def aha{a:Type}(b:(Int×Unit)×Unit×List a×Unit)(c:Unit×Unit×List a×Unit):Option ((Int×Unit)×Unit×List a×Unit⊕Unit×List a×Int×(Unit×Unit)×Unit):=aq ((w (b.1.1*2),A),A,c.2.2.1,A)
def ahb{b:Type}(e:b->b->Option Int)(d:Int)(c:(Int×Unit)×Unit×List b×Unit)(a:aF×Unit×List b×Unit):Option (aF×Unit×List b×Unit⊕(Int×Unit)×Unit×List b×Unit⊕Unit×List b×Int×(Unit×Unit)×Unit):=bif ad a.1.2.1 d then Z (Ci e a.2.2.1 a.1.1 (w (a.1.1+c.1.1)) a.1.2.1) λf=>aq ((a.1.2.1,w (a.1.2.1+w (2*c.1.1)),A),A,f.2.1,A)else Z (bb (bif ag (w (a.1.1+c.1.1)) d then Z (Ci e a.2.2.1 a.1.1 (w (a.1.1+c.1.1)) d) λg=>aq (A,A,g.2.1,A)else aq (A,A,a.2.2.1,A)) (aha c)) λh=>au h
def ahc{b:Type}(d:b->b->Option Int)(c:Int)(a:(Int×Unit)×Unit×List b×Unit):Option ((Int×Unit)×Unit×List b×Unit⊕Unit×List b×Int×(Unit×Unit)×Unit):=bif ag a.1.1 c then ar (ahb d c a) ((0,w (2*a.1.1),A),A,a.2.2.1,A)else au (A,a.2.2.1,c,(A,A),A)
def ahd{a:Type}(b:a->a->Option Int)(c:Int)(d:(Int×Unit)×Unit×List a×Unit):Option (Unit×List a×Int×(Unit×Unit)×Unit):=Z (AQ b d.2.2.1 d.1.1 c) λe=>ar (ahc b c) ((20,A),A,e.2.1,A)
def Hk{a:Type}(b:a->a->Option Int)(d:List a)(c:Int):Option (Unit×List a×Int×(Unit×Unit)×Unit):=bb (ar (ag9 b c) ((0,20,A),A,d,A)) (ahd b c)
def N6{a:Type}(c:a->a->Option Int)(b:List a):Option (Unit×List a×(Unit×Unit)×Unit):=Z (Hk c b ↑b.length) λd=>I (A,d.2.1,(A,A),A)
abbrev azm:=@Ch (DQ×Int×Unit)
abbrev ax9:=@G5 (DQ×Int×Unit)
abbrev aot:=@AQ (DQ×Int×Unit) vv
abbrev azc:=@Hk (DQ×Int×Unit) vv
abbrev ag4:=@N6 (DQ×Int×Unit) vv
def agH(y:DQ)(g:zp)(b:fJ)(a:zp):Option (zp⊕zp⊕Dl):=bif ag a.1.1 ↑b.length then aD b a.1.1 λd=>jw (↑b.length) (aD b ((w (a.1.1+1)).tmod ↑b.length) λe=>bif !cx fj d e then Z (eM d.2.1) λh=>Z (cQ h y) λi=>Z (eM e.2.1) λj=>Z (cQ j y) λf=>bif ad 0 (w (i*f))then aq ((w (a.1.1+1),A),a.2.1,A)else Z (SO d e y) λc=>bif c.2.1 then aJ (bg (a.2.1.1.length+[(c.1,f,A)].length) 72) (aq ((w (a.1.1+1),A),(bh a.2.1.1 [(c.1,f,A)],A),A))else aq ((w (a.1.1+1),A),a.2.1,A)else aq ((w (a.1.1+1),A),a.2.1,A))else au (aZ ((w (g.1.1+1),A),a.2.1,A))
def agI(y:DQ)(b:cF)(a:zp):Option (zp⊕Dl):=bif ag a.1.1 ↑b.length then aD b a.1.1 λe=>ar (agH y a e) ((0,A),a.2.1,A)else Z (Z (ag4 a.2.1.1) λc=>I c.2.1) λd=>au d
def He(x:cF)(y:DQ):Option Dl:=Z (F8 x (0,0,A)) λa=>ar (agI y a) ((0,A),([],A),A)
def L1(x y:Int):bp:=I !af (w ↑((word .i64 x).land (word .i64 (kL (jd (jd [] 1 (-1)) 2 1) y 0)))) 0
def vt(x y:fo):b9:=Z (cQ x.1 y.1) λa=>I a
abbrev azn:=@Ch (fo)
abbrev aya:=@G5 (fo)
abbrev aou:=@AQ (fo) vt
abbrev azd:=@Hk (fo) vt
abbrev V4:=@N6 (fo) vt
def agF(c:Unit×iX×eF×Unit)(a:wo):Ip:=bif ag a.1.2.1 ↑c.2.1.length then aG c.2.1 a.1.2.1 λb=>Z (aQ (af (↑a.1.1.length) 0) (aG a.1.1 (w (↑a.1.1.length-1)) λh=>Z (cQ h.2.1 b.1) λi=>I (ag i 0))) λd=>bif d then aJ (bg (a.1.1.length+[b].length) 128) (aq ((bh a.1.1 [b],w (a.1.2.1+1),A),A,A))else aG a.1.1 (w (↑a.1.1.length-1)) λe=>Z (cQ e.2.1 b.2.1) λf=>bif ag f 0 then aG a.1.1 (w (↑a.1.1.length-1)) λg=>aq ((a.1.1.set (w (↑a.1.1.length-1)).toNat (g.1,b.2.1,A),w (a.1.2.1+1),A),A,A)else aq ((a.1.1,w (a.1.2.1+1),A),A,A)else au a.1.1
def agG(x:iX)(a:wo):Ip:=bif ag a.1.2.1 ↑x.length then aD x a.1.2.1 λb=>Z (cQ b.1 b.2.1) λf=>bif ag f 0 then Z (jk b.1) λc=>Z (jk b.2.1) λd=>aJ (bg (a.1.1.length+[(c,d,A)].length) 128) (aq ((bh a.1.1 [(c,d,A)],w (a.1.2.1+1),A),A,A))else aq ((a.1.1,w (a.1.2.1+1),A),A,A)else Z (Z (V4 a.1.1) λg=>ar (agF g) (([],0,A),A,A)) λe=>au e
def yh(x:iX):Di:=ar (agG x) (([],0,A),A,A)
def vu(y:Int)(c:Dl)(a:Ia):Option (Ia⊕iX):=bif ag a.1.2.2.1 ↑c.length then aD c a.1.2.2.1 λb=>Z (aA (ag (w (a.1.2.2.1+1)) ↑c.length) (Z (L1 (w (a.1.2.1+b.2.1)) y) λe=>I e)) λf=>bif f then aD c (w (a.1.2.2.1+1)) λd=>aJ (bg (a.1.1.length+[(b.1,d.1,A)].length) 128) (aq ((bh a.1.1 [(b.1,d.1,A)],w (a.1.2.1+b.2.1),w (a.1.2.2.1+1),A),A,A))else aq ((a.1.1,w (a.1.2.1+b.2.1),w (a.1.2.2.1+1),A),A,A)else Z (Z (yh a.1.1) λg=>I g) λh=>au h
def NR(x:cF)(y:Int)(z:DQ):Di:=Z (He x z) λa=>ar (vu y a) (([],0,0,A),A,A)
def yg(x y:DQ)(z:Int):fZ:=Z (cQ x y) λa=>bif af a z then I x else I y
def agE(y z:DQ)(b:iX)(a:zm):Du:=bif ag a.1.1 ↑b.length then aD b a.1.1 λc=>Z (yg c.1 y 1) λd=>Z (yg c.2.1 z (-1)) λe=>Z (cQ d e) λf=>bif ag f 0 then Z (vk e d) λg=>Z (lA a.2.1.1 g) λh=>aq ((w (a.1.1+1),A),(h,A),A)else aq ((w (a.1.1+1),A),a.2.1,A)else au a.2.1.1
def NQ(x:iX)(y z:DQ):fZ:=Z (eM 0) λa=>Z (yh x) λb=>ar (agE y z b) ((0,A),(a,A),A)
def SP(x y:aF)(z:Int):It:=Z (AV [x,y]) λa=>Z (aQ (!a) (I (af x.1 y.1))) λb=>Z (aQ b (I (ag z (bif ad x.1 y.1 then x.1 else y.1)))) λc=>Z (aQ c (I (ag (bif ad x.1 y.1 then y.1 else x.1) z))) λd=>bif d then I (dc,Y,A)else Z (AU (w (z-x.1)) (w (y.1-x.1))) λe=>Z (xf x.2.1 y.2.1 e) λf=>I (f,N,A)
def Cw(x y:aF):iD:=Z (ra x) λa=>Z (ra y) λb=>I (w (a.1-b.1),w (a.2.1-b.2.1),A)
def xg(x y:aF):b9:=I (w (w (x.1*y.2.1)-w (x.2.1*y.1)))
def yy(x y:aF):bp:=Z (ra x) λa=>Z (ra y) λb=>Z (aQ (ag a.2.1 b.2.1) (Z (aA (af a.2.1 b.2.1) (I (ag a.1 b.1))) λc=>I c)) λd=>I d
def Fa(x y:aF):Option rJ:=Z (yy y x) λa=>bif a then I (y,x,A)else I (x,y,A)
def abZ(a b:zo):Dx:=Z (yy b.2.1.1 a.2.1.1) λc=>bif c then I ((0,0,A),0,A)else bif cx fj a.2.1.1 b.2.1.1 then I (a.2.1.1,1,A)else I ((0,0,A),2,A)
def ab0(a b:rJ)(c:zo):Dx:=bb (Z (yy b.2.1 a.2.1) λd=>bif d then aq (A,b.2,A)else aq (A,a.2,A)) (abZ c)
def KB(x y z u:aF):Dx:=Z (Fa x y) λa=>Z (Fa z u) λb=>bb (Z (yy a.1 b.1) λc=>bif c then aq (A,(b.1,A),A)else aq (A,(a.1,A),A)) (ab0 a b)
def abW(x y:aF)(b d:DQ)(a:dh×(qe×qe×Unit)×Unit):Option (dh×(qe×qe×Unit)×Unit⊕DQ×zn):=bif ag a.1.1 ↑[b,d].length then aG [b,d] a.1.1 λc=>Z (eM 0) λe=>Z (cQ c e) λf=>Z (aQ (ag f 0) (Z (eM 1) λg=>Z (cQ c g) λh=>I (ag 0 h))) λi=>bif i then au (dc,dc,0,A)else aq ((w (a.1.1+1),A),a.2.1,A)else Z (Z (xf x.1 y.1 b) λj=>Z (xf x.2.1 y.2.1 b) λk=>I (j,k,1,A)) λl=>au l
def abX(x y z u h:aF)(b:zo):qd:=Z (xg b.2.1.1 h) λc=>Z (aQ (!af c 0) (Z (aA (cx fj b.2.1.1 (0,0,A)) (I !cx fj x z)) λd=>I d)) λe=>bif e then I (dc,dc,0,A)else Z (KB x y z u) λa=>bif !af a.2.1 1 then I (dc,dc,a.2.1,A)else Z (eM a.1.1) λf=>Z (eM a.1.2.1) λg=>I (f,g,1,A)
def KA(x y z u:aF):qd:=Z (AV [x,y,z,u]) λe=>bif !e then I (dc,dc,0,A)else Z (Cw y x) λa=>Z (Cw u z) λb=>Z (Cw z x) λc=>Z (xg a b) λd=>bif !af d 0 then Z (xg c b) λf=>Z (AU f d) λg=>Z (xg c a) λh=>Z (AU h d) λi=>ar (abW x y g i) ((0,A),(((Y,A,A),(Y,A,A),A),((Y,A,A),(Y,A,A),A),A),A)else bb (bif cx fj a (0,0,A)then aq (A,(b,A),A)else aq (A,(a,A),A)) (abX x y z u c)
def ak3(a:eT):b9:=Z aFP[(wr .u8 a.1.1).toNat]? λb=>I (w (a.1.2.1+w ↑b))
def ak4(a:eT):b9:=bb (bif ad 256 a.1.1 then aq ((a.1.1.fdiv 256,w (a.1.2.1+8),A),A,A)else aq a) ak3
def Y8(a:eT):b9:=bb (bif ad 65536 a.1.1 then aq ((a.1.1.fdiv 65536,w (a.1.2.1+16),A),A,A)else aq a) ak4
def Qu(x:Int):b9:=bb (bif ad 4294967296 x then aq ((x.fdiv 4294967296,32,A),A,A)else aq ((x,0,A),A,A)) Y8
def wD(x:Int):b9:=Z (Qu x) λa=>I a
def N3(x:Int):b9:=Z (wD (wu x)) λa=>bif ag a 0 then U else I (wu (1*↑(2^a.toNat.min 64)))
def awg(a:Int)(b:gF):Option (gF⊕Dm⊕gF⊕rN):=Z (aA (ag a b.1.1) (aG b.2.2.1 b.1.1 λd=>aG b.2.2.1 (w (b.1.1-1)) λe=>Z (cQ d e) λf=>I (ag f 0))) λg=>bif g then aG b.2.2.1 (w (b.1.1-1)) λc=>aG b.2.2.1 b.1.1 λh=>aG b.2.2.1 b.1.1 λi=>aG (b.2.2.1.set b.1.1.toNat c) (w (b.1.1-1)) λj=>aq ((w (b.1.1-1),A),A,(b.2.2.1.set b.1.1.toNat c).set (w (b.1.1-1)).toNat h,A)else au (aZ (A,A,b.2.2.1,A))
def awh(a:gF)(b:Dm):Iq:=aq ((w (a.1.1+1),A),A,b.2.2.1,A)
def awi(a c:Int)(b:gF):Iq:=bif ag b.1.1 c then bb (ar (awg a) b) (awh b)else au (A,b.2.2.1,a,c,(A,A),A)
def T7(c:di)(a b:Int):Option rN:=ar (awi a b) ((w (a+1),A),A,c,A)
def Uf(a f c:Int)(b:gF)(d:aP):Option (gF⊕Dj):=aG b.2.2.1 (w (c+b.1.1)) λh=>aG b.2.2.1 (w (c+d.1.1)) λi=>Z (cQ h i) λj=>bif !ag j 0 then au (A,b.2.2.1,a,f,c,(A,A),A)else aG b.2.2.1 (w (c+d.1.1)) λe=>aG b.2.2.1 (w (c+b.1.1)) λg=>aG b.2.2.1 (w (c+b.1.1)) λk=>aG (b.2.2.1.set (w (c+b.1.1)).toNat e) (w (c+d.1.1)) λl=>aq (d.1,A,(b.2.2.1.set (w (c+b.1.1)).toNat e).set (w (c+d.1.1)).toNat g,A)
def ael(a c d:Int)(b:gF):Option (gF⊕Dj):=bif ad c (w (w (2*b.1.1)+1))then au (A,b.2.2.1,a,c,d,(A,A),A)else bb (Z (aA (ag (w (w (w (2*b.1.1)+1)+1)) c) (aG b.2.2.1 (w (d+w (w (2*b.1.1)+1))) λe=>aG b.2.2.1 (w (w (d+w (w (2*b.1.1)+1))+1)) λf=>Z (cQ e f) λg=>I (ag g 0))) λh=>bif h then aq ((w (w (w (2*b.1.1)+1)+1),A),A,A)else aq ((w (w (2*b.1.1)+1),A),A,A)) (Uf a c d b)
def FY(c:di)(a b d:Int):Option Dj:=ar (ael a b d) ((a,A),A,c,A)
def adW(a d:Int)(b:gF):Iq:=bif ad 0 b.1.1 then aG b.2.2.1 (w (a+b.1.1)) λc=>aG b.2.2.1 a λe=>aG b.2.2.1 a λg=>aG (b.2.2.1.set a.toNat c) (w (a+b.1.1)) λh=>Z (FY ((b.2.2.1.set a.toNat c).set (w (a+b.1.1)).toNat e) 0 b.1.1 a) λf=>aq ((w (b.1.1-1),A),A,f.2.1,A)else au (A,b.2.2.1,a,d,(A,A),A)
def adX(a c:Int)(b:gF):Iq:=bif ad 0 b.1.1 then Z (FY b.2.2.1 b.1.1 (w (c-a)) a) λd=>aq ((w (b.1.1-1),A),A,d.2.1,A)else Z (ar (adW a c) ((w (w (c-a)-1),A),A,b.2.2.1,A)) λe=>au e
def LO(c:di)(a b:Int):Option rN:=ar (adX a b) ((w ((w (w (b-a)-1)).tdiv 2),A),A,c,A)
def T5(a:Int)(b:zu)(c:aP):Option (zu⊕rN):=aG b.2.2.1 (w (a+c.1.1)) λd=>aG b.2.2.1 b.1.1 λe=>aG b.2.2.1 b.1.1 λf=>aG (b.2.2.1.set b.1.1.toNat d) (w (a+c.1.1)) λg=>aq ((w (b.1.1+1),A),(wu ↑((word .u64 (wu ↑((word .u64 (wu ↑((word .u64 b.2.1.1).xor (word .u64 (wu (b.2.1.1*8192)))))).xor (word .u64 ((wu ↑((word .u64 b.2.1.1).xor (word .u64 (wu (b.2.1.1*8192))))).fdiv 128))))).xor (word .u64 (wu (wu ↑((word .u64 (wu ↑((word .u64 b.2.1.1).xor (word .u64 (wu (b.2.1.1*8192)))))).xor (word .u64 ((wu ↑((word .u64 b.2.1.1).xor (word .u64 (wu (b.2.1.1*8192))))).fdiv 128)))*131072)))),A),(b.2.2.1.set b.1.1.toNat d).set (w (a+c.1.1)).toNat e,A)
def adV(a c d:Int)(b:zu):Option (zu⊕rN):=bif ad b.1.1 (w (w (a+w (w ((w (c-a)).tdiv 4)*2))+1))then bb (bif ad (w (c-a)) (w (wu ↑((word .u64 (wu ↑((word .u64 (wu ↑((word .u64 (wu ↑((word .u64 b.2.1.1).xor (word .u64 (wu (b.2.1.1*8192)))))).xor (word .u64 ((wu ↑((word .u64 b.2.1.1).xor (word .u64 (wu (b.2.1.1*8192))))).fdiv 128))))).xor (word .u64 (wu (wu ↑((word .u64 (wu ↑((word .u64 b.2.1.1).xor (word .u64 (wu (b.2.1.1*8192)))))).xor (word .u64 ((wu ↑((word .u64 b.2.1.1).xor (word .u64 (wu (b.2.1.1*8192))))).fdiv 128)))*131072)))))).land (word .u64 (wu (d-1))))))then aq ((w (w (wu ↑((word .u64 (wu ↑((word .u64 (wu ↑((word .u64 (wu ↑((word .u64 b.2.1.1).xor (word .u64 (wu (b.2.1.1*8192)))))).xor (word .u64 ((wu ↑((word .u64 b.2.1.1).xor (word .u64 (wu (b.2.1.1*8192))))).fdiv 128))))).xor (word .u64 (wu (wu ↑((word .u64 (wu ↑((word .u64 b.2.1.1).xor (word .u64 (wu (b.2.1.1*8192)))))).xor (word .u64 ((wu ↑((word .u64 b.2.1.1).xor (word .u64 (wu (b.2.1.1*8192))))).fdiv 128)))*131072)))))).land (word .u64 (wu (d-1)))))-w (c-a)),A),A,A)else aq ((w (wu ↑((word .u64 (wu ↑((word .u64 (wu ↑((word .u64 (wu ↑((word .u64 b.2.1.1).xor (word .u64 (wu (b.2.1.1*8192)))))).xor (word .u64 ((wu ↑((word .u64 b.2.1.1).xor (word .u64 (wu (b.2.1.1*8192))))).fdiv 128))))).xor (word .u64 (wu (wu ↑((word .u64 (wu ↑((word .u64 b.2.1.1).xor (word .u64 (wu (b.2.1.1*8192)))))).xor (word .u64 ((wu ↑((word .u64 b.2.1.1).xor (word .u64 (wu (b.2.1.1*8192))))).fdiv 128)))*131072)))))).land (word .u64 (wu (d-1))))),A),A,A)) (T5 a b)else au (A,b.2.2.1,a,c,(A,A),A)
def LL(c:di)(a b:Int):Option rN:=bif ad 8 (w (b-a))then Z (N3 (w (b-a))) λd=>ar (adV a b d) ((w (w (a+w (w ((w (b-a)).tdiv 4)*2))-1),A),(wu (w (b-a)),A),c,A)else I (A,c,a,b,(A,A),A)
def FU(c:di)(a b sw:Int):Option (aF×Dn):=aG c b λd=>aG c a λe=>Z (cQ d e) λf=>bif ag f 0 then I ((b,a,A),c,a,b,w (sw+1),(A,A),A)else I ((a,b,A),c,a,b,sw,(A,A),A)
def FT(g:di)(a e f sw:Int):Option (Int×di×Int×Int×PQ):=Z (FU g a e sw) λb=>Z (FU b.2.1 b.1.2.1 f b.2.2.2.2.1) λc=>Z (FU c.2.1 b.1.1 c.1.1 c.2.2.2.2.1) λd=>I (d.1.2.1,d.2.1,a,e,f,d.2.2.2.2.1,(A,A),A)
def Bq(c:di)(a sw:Int):Option (Int×wm):=Z (FT c (w (a-1)) a (w (a+1)) sw) λb=>I (b.1,b.2.1,a,b.2.2.2.2.2.1,(A,A),A)
def T6(a:(Int×aF)×dh×Dk):Option (zu⊕aF×wm):=Z (FT a.2.2.1 a.1.1 a.1.2.1 a.1.2.2.1 a.2.1.1) λb=>aq ((b.1,A),(b.2.2.2.2.2.1,A),b.2.1,A)
def LN(a c:Int)(b:zu):Option (aF×wm):=bif af b.2.1.1 0 then I ((b.1.1,1,A),b.2.2.1,a,c,(A,A),A)else bif af b.2.1.1 12 then I ((b.1.1,2,A),b.2.2.1,a,c,(A,A),A)else I ((b.1.1,0,A),b.2.2.1,a,c,(A,A),A)
def LM(c:di)(a b:Int):Option (aF×wm):=bb (bif ad 8 (w (b-a))then bb (bif ad 50 (w (b-a))then Z (Bq c (w (a+w (w ((w (b-a)).tdiv 4)*1))) 0) λd=>Z (Bq d.2.1 (w (a+w (w ((w (b-a)).tdiv 4)*2))) d.2.2.2.1) λe=>Z (Bq e.2.1 (w (a+w (w ((w (b-a)).tdiv 4)*3))) e.2.2.2.1) λf=>aq ((d.1,e.1,f.1,A),(f.2.2.2.1,A),f.2.1,A)else aq ((w (a+w (w ((w (b-a)).tdiv 4)*1)),w (a+w (w ((w (b-a)).tdiv 4)*2)),w (a+w (w ((w (b-a)).tdiv 4)*3)),A),(0,A),c,A)) T6 else aq ((w (a+w (w ((w (b-a)).tdiv 4)*2)),A),(0,A),c,A)) (LN a b)
def aek(a d:Int)(b:gW):Option (gW⊕rN):=bif ag b.1.1 b.1.2.1 then aG b.2.2.1 b.1.2.1 λc=>aG b.2.2.1 b.1.1 λe=>aG b.2.2.1 b.1.1 λf=>aG (b.2.2.1.set b.1.1.toNat c) b.1.2.1 λg=>aq ((w (b.1.1+1),w (b.1.2.1-1),A),A,(b.2.2.1.set b.1.1.toNat c).set b.1.2.1.toNat e,A)else au (A,b.2.2.1,a,d,(A,A),A)
def LQ(c:di)(a b:Int):Option rN:=ar (aek a b) ((a,w (b-1),A),A,c,A)
def ad4(c:Int)(b:gW)(a:aP):Option (aP⊕aP⊕zx):=Z (aA (ag a.1.1 c) (aG b.2.2.1 a.1.1 λd=>aG b.2.2.1 (w (a.1.1-1)) λe=>Z (cQ d e) λf=>I !ag f 0)) λg=>bif g then aq ((w (a.1.1+1),A),A,A)else au (aZ a)
def ad5(a:gF):Option (gF⊕Dm⊕zx):=bif ad 1 a.1.1 then aG a.2.2.1 a.1.1 λc=>aG a.2.2.1 (w (a.1.1-1)) λd=>Z (cQ c d) λe=>bif !ag e 0 then au (aZ (A,A,a.2.2.1,A))else aG a.2.2.1 (w (a.1.1-1)) λb=>aG a.2.2.1 a.1.1 λf=>aG a.2.2.1 a.1.1 λg=>aG (a.2.2.1.set a.1.1.toNat b) (w (a.1.1-1)) λh=>aq ((w (a.1.1-1),A),A,(a.2.2.1.set a.1.1.toNat b).set (w (a.1.1-1)).toNat f,A)else au (aZ (A,A,a.2.2.1,A))
def ad6(e:Int)(b:gW)(c:aP)(a:gF):Option (gF⊕zx):=bif ag a.1.1 e then aG a.2.2.1 a.1.1 λf=>aG a.2.2.1 (w (a.1.1-1)) λg=>Z (cQ f g) λh=>bif !ag h 0 then au (aZ ((c.1.1,w (b.1.2.1+1),A),A,a.2.2.1,A))else aG a.2.2.1 (w (a.1.1-1)) λd=>aG a.2.2.1 a.1.1 λi=>aG a.2.2.1 a.1.1 λj=>aG (a.2.2.1.set a.1.1.toNat d) (w (a.1.1-1)) λk=>aq ((w (a.1.1+1),A),A,(a.2.2.1.set a.1.1.toNat d).set (w (a.1.1-1)).toNat i,A)else au (aZ ((c.1.1,w (b.1.2.1+1),A),A,a.2.2.1,A))
def Ua(b:Int)(c:gW)(a:aP)(d:Dm):Option zx:=bif ad 2 (w (b-a.1.1))then ar (ad6 b c a) ((w (a.1.1+1),A),A,d.2.2.1,A)else aq ((a.1.1,w (c.1.2.1+1),A),A,d.2.2.1,A)
def ad7(a d:Int)(c:gW)(b:aP):Option zx:=bif af b.1.1 d then au (N,c.2.2.1,a,d,(A,A),A)else bif ag (w (d-a)) 50 then au (Y,c.2.2.1,a,d,(A,A),A)else aG c.2.2.1 (w (b.1.1-1)) λe=>aG c.2.2.1 b.1.1 λf=>aG c.2.2.1 b.1.1 λh=>aG (c.2.2.1.set b.1.1.toNat e) (w (b.1.1-1)) λg=>bb (bif ad 2 (w (b.1.1-a))then ar ad5 ((w (b.1.1-1),A),A,(c.2.2.1.set b.1.1.toNat e).set (w (b.1.1-1)).toNat f,A)else aq (A,A,(c.2.2.1.set b.1.1.toNat e).set (w (b.1.1-1)).toNat f,A)) (Ua d c b)
def ad8(a c:Int)(b:gW):Option zx:=bif ag b.1.2.1 5 then bb (ar (ad4 c b) ((b.1.1,A),A,A)) (ad7 a c b)else au (Y,b.2.2.1,a,c,(A,A),A)
def LP(c:di)(a b:Int):Option (Bool×wm):=ar (ad8 a b) ((w (a+1),0,A),A,c,A)
def adZ(a:Int)(c:gW)(b:aP):Option (aP⊕aP⊕Dy):=Z (aA (ad b.1.1 c.1.2.1) (aG c.2.2.1 a λd=>aG c.2.2.1 b.1.1 λe=>Z (cQ d e) λf=>I !ag f 0)) λg=>bif g then aq ((w (b.1.1+1),A),A,A)else au (aZ b)
def ad0(a:Int)(c:gW)(d b:aP):Option (aP⊕aP⊕Dy):=Z (aA (ad d.1.1 b.1.1) (aG c.2.2.1 a λe=>aG c.2.2.1 b.1.1 λf=>Z (cQ e f) λg=>I (ag g 0))) λh=>bif h then aq ((w (b.1.1-1),A),A,A)else au (aZ b)
def ad1(a f p:Int)(c:gW)(b d:aP):Option Dy:=bif ag d.1.1 b.1.1 then au (b.1.1,c.2.2.1,a,f,p,(A,A),A)else aG c.2.2.1 d.1.1 λe=>aG c.2.2.1 b.1.1 λg=>aG c.2.2.1 b.1.1 λh=>aG (c.2.2.1.set b.1.1.toNat e) d.1.1 λi=>aq ((w (b.1.1+1),w (d.1.1-1),A),A,(c.2.2.1.set b.1.1.toNat e).set d.1.1.toNat g,A)
def ad2(a d p:Int)(b:gW)(c:aP):Option Dy:=bb (ar (ad0 a b c) (b.1.2,A,A)) (ad1 a d p b c)
def ad3(a c p:Int)(b:gW):Option Dy:=bb (ar (adZ a b) ((b.1.1,A),A,A)) (ad2 a c p b)
def FV(b:di)(a c p:Int):Option (Int×Dn):=aG b p λd=>aG b a λe=>aG b a λf=>aG (b.set a.toNat d) p λg=>ar (ad3 a c p) ((w (a+1),w (c-1),A),A,(b.set a.toNat d).set p.toNat e,A)
def aea(c:di)(a f p:Int)(d e:DQ)(b:aP):Option (aP⊕aP⊕wj):=Z (aA (ad b.1.1 (w (f-1))) (aG ((c.set a.toNat d).set p.toNat e) b.1.1 λg=>aG ((c.set a.toNat d).set p.toNat e) a λh=>Z (cQ g h) λi=>I (ag i 0))) λj=>bif j then aq ((w (b.1.1+1),A),A,A)else au (aZ b)
def aeb(c:di)(a p:Int)(d e:DQ)(f b:aP):Option (aP⊕aP⊕wj):=Z (aA (ad f.1.1 b.1.1) (aG ((c.set a.toNat d).set p.toNat e) b.1.1 λg=>aG ((c.set a.toNat d).set p.toNat e) a λh=>Z (cQ g h) λi=>I !ag i 0)) λj=>bif j then aq ((w (b.1.1-1),A),A,A)else au (aZ b)
def aec(a:Int)(c:gW)(b:aP):Option (aP⊕aP⊕Dv):=Z (aA (ad b.1.1 c.1.2.1) (aG c.2.2.1 b.1.1 λd=>aG c.2.2.1 a λe=>Z (cQ d e) λf=>I (ag f 0))) λg=>bif g then aq ((w (b.1.1+1),A),A,A)else au (aZ b)
def aed(a:Int)(c:gW)(d b:aP):Option (aP⊕aP⊕Dv):=Z (aA (ad d.1.1 b.1.1) (aG c.2.2.1 b.1.1 λe=>aG c.2.2.1 a λf=>Z (cQ e f) λg=>I !ag g 0)) λh=>bif h then aq ((w (b.1.1-1),A),A,A)else au (aZ b)
def aee(a:gW)(b c:aP):Option Dv:=bif ag c.1.1 b.1.1 then au (aZ (c.1,A,a.2.2.1,A))else aG a.2.2.1 c.1.1 λd=>aG a.2.2.1 b.1.1 λe=>aG a.2.2.1 b.1.1 λf=>aG (a.2.2.1.set b.1.1.toNat d) c.1.1 λg=>aq ((w (b.1.1+1),w (c.1.1-1),A),A,(a.2.2.1.set b.1.1.toNat d).set c.1.1.toNat e,A)
def aef(a:Int)(b:gW)(c:aP):Option Dv:=bb (ar (aed a b c) (b.1.2,A,A)) (aee b c)
def aeg(a:Int)(b:gW):Option Dv:=bb (ar (aec a b) ((b.1.1,A),A,A)) (aef a b)
def aeh(a d p:Int)(b:gF):Option wj:=aG b.2.2.1 a λc=>aG b.2.2.1 b.1.1 λe=>aG b.2.2.1 b.1.1 λf=>aG (b.2.2.1.set b.1.1.toNat c) a λg=>I ((b.1.1,Y,A),(b.2.2.1.set b.1.1.toNat c).set a.toNat e,a,d,p,(A,A),A)
def aei(b:di)(a g p:Int)(d e:DQ)(f c:aP):Option wj:=bif ag c.1.1 f.1.1 then aG ((b.set a.toNat d).set p.toNat e) a λh=>aG ((b.set a.toNat d).set p.toNat e) c.1.1 λj=>aG ((b.set a.toNat d).set p.toNat e) c.1.1 λl=>aG (((b.set a.toNat d).set p.toNat e).set c.1.1.toNat h) a λm=>I ((c.1.1,N,A),(((b.set a.toNat d).set p.toNat e).set c.1.1.toNat h).set a.toNat j,a,g,p,(A,A),A)else aG ((b.set a.toNat d).set p.toNat e) c.1.1 λi=>aG ((b.set a.toNat d).set p.toNat e) f.1.1 λk=>aG ((b.set a.toNat d).set p.toNat e) f.1.1 λn=>aG (((b.set a.toNat d).set p.toNat e).set f.1.1.toNat i) c.1.1 λo=>bb (ar (aeg a) ((w (f.1.1+1),w (c.1.1-1),A),A,(((b.set a.toNat d).set p.toNat e).set f.1.1.toNat i).set c.1.1.toNat k,A)) (aeh a g p)
def aej(c:di)(a b p:Int)(e f:DQ)(d:aP):Option wj:=bb (ar (aeb c a p e f d) ((w (b-1),A),A,A)) (aei c a b p e f d)
def FX(b:di)(a d p:Int):Option wj:=aG b p λc=>aG b a λe=>aG b a λf=>aG (b.set a.toNat c) p λg=>bb (ar (aea b a d p c e) ((w (a+1),A),A,A)) (aej b a d p c e)
def Uc(f:List DQ->Int->Int->Int->Option (Unit×List DQ×Int×Int×Int×(Unit×Unit)×Unit))(a:Dp)(c:gF)(e:gW)(d:Dm):Ij:=Z (aA (ag 0 a.1.1) (aG d.2.2.1 (w (a.1.1-1)) λh=>aG d.2.2.1 e.1.1 λi=>Z (cQ h i) λj=>I !ag j 0)) λk=>bif k then Z (FV d.2.2.1 a.1.1 a.1.2.1 e.1.1) λg=>aq ((g.1,a.1.2.1,c.1.1,a.1.2.2.2.1,a.1.2.2.2.2.1,A),A,g.2.1,A)else Z (FX d.2.2.1 a.1.1 a.1.2.1 e.1.1) λb=>bif ag (w (b.1.1-a.1.1)) (w (a.1.2.1-b.1.1))then Z (f b.2.1 a.1.1 b.1.1 c.1.1) λl=>aq ((w (b.1.1+1),a.1.2.1,c.1.1,ad (w ((w (a.1.2.1-a.1.1)).tdiv 8)) (w (b.1.1-a.1.1)),b.1.2.1,A),A,l.2.1,A)else Z (f b.2.1 (w (b.1.1+1)) a.1.2.1 c.1.1) λm=>aq ((a.1.1,b.1.1,c.1.1,ad (w ((w (a.1.2.1-a.1.1)).tdiv 8)) (w (a.1.2.1-b.1.1)),b.1.2.1,A),A,m.2.1,A)
def Ud(e:List DQ->Int->Int->Int->Option (Unit×List DQ×Int×Int×Int×(Unit×Unit)×Unit))(a f l:Int)(b:Dp)(g:gF)(c:gW):Ij:=bb (Z (aA b.1.2.2.2.1 (I b.1.2.2.2.2.1)) λh=>Z (aA h (I (af c.1.2.1 1))) λi=>bif i then Z (LP c.2.2.1 b.1.1 b.1.2.1) λd=>bif d.1 then au (bT (A,d.2.1,a,f,l,(A,A),A))else aq (A,A,d.2.1,A)else aq (A,A,c.2.2.1,A)) (Uc e b g c)
def Ue(e:List DQ->Int->Int->Int->Option (Unit×List DQ×Int×Int×Int×(Unit×Unit)×Unit))(a f l:Int)(b:Dp)(d:gF):Ij:=Z (LM d.2.2.1 b.1.1 b.1.2.1) λc=>bb (bif af c.1.2.1 2 then Z (LQ c.2.1 b.1.1 b.1.2.1) λg=>aq ((w (w (b.1.2.1-1)-w (c.1.1-b.1.1)),1,A),A,g.2.1,A)else aq ((c.1.1,c.1.2.1,A),A,c.2.1,A)) (Ud e a f l b d)
def ad9(d:List DQ->Int->Int->Int->Option (Unit×List DQ×Int×Int×Int×(Unit×Unit)×Unit))(a c l:Int)(b:Dp):Ij:=bif ad (w (b.1.2.1-b.1.1)) 12 then Z (T7 b.2.2.1 b.1.1 b.1.2.1) λe=>au (A,e.2.1,a,c,l,(A,A),A)else bif af b.1.2.2.1 0 then Z (LO b.2.2.1 b.1.1 b.1.2.1) λf=>au (A,f.2.1,a,c,l,(A,A),A)else bb (bif !b.1.2.2.2.1 then Z (LL b.2.2.1 b.1.1 b.1.2.1) λg=>aq ((w (b.1.2.2.1-1),A),A,g.2.1,A)else aq ((b.1.2.2.1,A),A,b.2.2.1,A)) (Ue d a c l b)
def FW(c:List DQ->Int->Int->Int->Option (Unit×List DQ×Int×Int×Int×(Unit×Unit)×Unit))(d:di)(a b l:Int):Option Dj:=ar (ad9 c a b l) ((a,b,l,N,N,A),A,d,A)
def Ub:List DQ->Int->Int->Int->Option (Unit×List DQ×Int×Int×Int×(Unit×Unit)×Unit):=Nat.rec (λ_ _ _ _=>U) (λ_ a=>FW a) 1099511627776
def FZ(a:di):Option (Unit×di×eF×Unit):=Z (wD (wu ↑a.length)) λb=>Z (Ub a 0 (↑a.length) b) λc=>I (A,c.2.1,(A,A),A)
def abP(h i:DQ)(d:rK)(c:fJ)(a:rK):Option (rK⊕rK⊕di):=bif ag a.1.1 ↑c.length then aD c a.1.1 λj=>Z (eM j.2.1) λb=>Z (cQ h b) λe=>Z (aA (ag e 0) (Z (cQ b i) λf=>I (ag f 0))) λg=>bif g then aJ (bg (a.2.1.1.length+[b].length) 64) (aq ((w (a.1.1+1),A),(bh a.2.1.1 [b],A),A))else aq ((w (a.1.1+1),A),a.2.1,A)else au (aZ ((w (d.1.1+1),A),a.2.1,A))
def abQ(k l:DQ)(b:qb)(d e:aF)(a:rK):Yo:=bif ag a.1.1 ↑b.2.1.2.1.length then aG b.2.1.2.1 a.1.1 λf=>Z (KA f.1 f.2.1 d e) λc=>bif af c.2.2.1 1 then Z (cQ k c.2.1) λg=>Z (aA (ag g 0) (Z (cQ c.2.1 l) λh=>I (ag h 0))) λi=>bif i then aJ (bg (a.2.1.1.length+[c.2.1].length) 64) (aq ((w (a.1.1+1),A),(bh a.2.1.1 [c.2.1],A),A))else aq ((w (a.1.1+1),A),a.2.1,A)else aq ((w (a.1.1+1),A),a.2.1,A)else Z (aJ (bg (b.2.1.2.1.length+[(d,e,A)].length) 32) (aq ((w (b.1.1+1),A),(a.2.1.1,bh b.2.1.2.1 [(d,e,A)],A),A))) λj=>au j
def abR(y z:aF)(e f:DQ)(g:qb)(c d:aF)(a:rK):Yo:=bif ag a.1.1 ↑[y.1,z.1].length then aG [y.1,z.1] a.1.1 λh=>Z (SP c d h) λb=>bif b.2.1 then Z (cQ e b.1) λi=>Z (aA (ag i 0) (Z (cQ b.1 f) λj=>I (ag j 0))) λk=>bif k then aJ (bg (a.2.1.1.length+[b.1].length) 64) (aq ((w (a.1.1+1),A),(bh a.2.1.1 [b.1],A),A))else aq ((w (a.1.1+1),A),a.2.1,A)else aq ((w (a.1.1+1),A),a.2.1,A)else Z (ar (abQ e f g c d) ((0,A),a.2.1,A)) λl=>au l
def abS(y z:aF)(f g:DQ)(e:qb)(b:fJ)(a:qb):Option (qb⊕qb⊕di):=bif ag a.1.1 ↑b.length then aD b a.1.1 λc=>jw (↑b.length) (aD b ((w (a.1.1+1)).tmod ↑b.length) λd=>bif !cx fj c d then ar (abR y z f g a c d) ((0,A),(a.2.1.1,A),A)else aq ((w (a.1.1+1),A),a.2.1,A))else au (aZ ((w (e.1.1+1),A),a.2.1,A))
def abT(b:gF)(a:gW):Option (gW⊕gF⊕di):=bif ag a.1.2.1 ↑(b.2.2.1.length-b.1.1.toNat)then aJ (ad 0 a.1.2.1&&ag a.1.2.1 ↑(b.2.2.1.length-b.1.1.toNat)) (Z a.2.2.1[b.1.1.toNat+a.1.2.1.toNat]? λc=>aJ (ad 0 (w (a.1.2.1-1))&&ag (w (a.1.2.1-1)) ↑(b.2.2.1.length-b.1.1.toNat)) (Z a.2.2.1[b.1.1.toNat+(w (a.1.2.1-1)).toNat]? λd=>Z (cQ c d) λe=>bif !af e 0 then aJ (ad 0 a.1.2.1&&ag a.1.2.1 ↑(b.2.2.1.length-b.1.1.toNat)) (Z a.2.2.1[b.1.1.toNat+a.1.2.1.toNat]? λf=>aG a.2.2.1 a.1.1 λh=>aq ((w (a.1.1+1),w (a.1.2.1+1),A),A,a.2.2.1.set a.1.1.toNat f,A))else aq ((a.1.1,w (a.1.2.1+1),A),A,a.2.2.1,A)))else Z (aJ (ad 0 a.1.1&&ad a.1.1 ↑a.2.2.1.length) (aJ (ag 0 ↑a.2.2.1.length) (aJ (ad 0 a.1.1&&ad a.1.1 ↑(pf (I a.1.1.toNat) (a.2.2.1.length-a.1.1.toNat) dc a.2.2.1).length) (au (aW a.1.1.toNat (pf (I a.1.1.toNat) (a.2.2.1.length-a.1.1.toNat) dc a.2.2.1)))))) λg=>au g
def Kz(a:gF):Option (gF⊕di):=bif ag a.1.1 ↑a.2.2.1.length then aG a.2.2.1 a.1.1 λb=>aG a.2.2.1 (w (a.1.1-1)) λc=>Z (cQ b c) λd=>bif af d 0 then aJ (ad 0 a.1.1&&ad a.1.1 ↑a.2.2.1.length) (ar (abT a) ((a.1.1,1,A),A,a.2.2.1,A))else aq ((w (a.1.1+1),A),A,a.2.2.1,A)else au a.2.2.1
def abU(y z:aF)(e g:DQ)(c:cF)(a:qb):Option (qb⊕di):=bif ag a.1.1 ↑c.length then aD c a.1.1 λd=>ar (abS y z e g a d) ((0,A),a.2.1,A)else Z (Z (FZ a.2.1.1) λb=>bif ag (↑b.2.1.length) 2 then I b.2.1 else ar Kz ((1,A),A,b.2.1,A)) λf=>au f
def abV(x:cF)(y z:aF)(b c:DQ)(a:rK):Option (rK⊕di):=bif ag a.1.1 ↑x.length then aD x a.1.1 λf=>ar (abP b c a f) ((0,A),a.2.1,A)else Z (Z (F8 x (0,0,A)) λd=>ar (abU y z b c d) ((0,A),(a.2.1.1,[],A),A)) λe=>au e
def E9(x:cF)(y z:aF):Option di:=Z (xE x) λc=>Z (aQ (!c) (Z (AV [y,z]) λd=>I !d)) λe=>Z (aQ e (I (ad z.2.1 y.2.1))) λf=>bif f then I []else Z (eM y.2.1) λa=>Z (eM z.2.1) λb=>ar (abV x y z a b) ((0,A),([a,b],A),A)
def Qf(b:di)(a:Yq):Option (Yq⊕zn):=bif ag (w (a.1.1+1)) ↑b.length then aD b a.1.1 λd=>aD b (w (a.1.1+1)) λc=>Z (BW d c) λe=>Z (NR a.2.1.1 a.2.1.2.1 e) λf=>Z (NQ f a.2.1.2.2.2.1 a.2.1.2.2.2.2.1) λg=>Z (vk c d) λh=>Z (oH g h) λi=>Z (lA a.2.1.2.2.1 i) λj=>aq ((w (a.1.1+1),A),(a.2.1.1,a.2.1.2.1,j,a.2.1.2.2.2.1,a.2.1.2.2.2.2.1,A),A)else au (a.2.1.2.2.1,0,A)
def IG(x:cF)(y:Int)(z u:aF):n6:=Z (II x y) λa=>bif !af a 0 then I (dc,a,A)else Z (iN z) λc=>Z (aQ (!c) (Z (iN u) λd=>I !d)) λe=>bif e then I (dc,6,A)else Z (eM 0) λb=>bif ad u.1 z.1 then I (b,0,A)else Z (eM z.1) λf=>Z (eM u.1) λg=>Z (E9 x z u) λh=>ar (Qf h) ((0,A),(x,y,b,f,g,A),A)
def Vx(x y:DQ):n6:=Z (jk x) λa=>Z (jk y) λb=>Z (pA a.1 b.2.1) λd=>Z (pA a.2.1 b.1) λe=>Z (BX d e) λc=>I (c.1,c.2.1,A)
def Qh(x:DQ)(y:Int):n6:=bif !af y 0 then I (dc,y,A)else Z (eM 65536) λa=>Z (Vx x a) λb=>I (b.1,0,A)
def YP(x:cF)(y:Int)(d:aF)(c:zo):n6:=Z (IG x y d c.2.1.1) λa=>Z (Qh a.1 a.2.1) λb=>I (b.1,b.2.1,A)
def Qg(x:cF)(y z u:Int):n6:=Z (zN z u) λa=>Z (zN z u) λb=>bb (Z (iN a) λc=>bif c then Z (zN (w (z+1)) (w (u+1))) λd=>aq (A,(d,A),A)else aq (A,(b,A),A)) (YP x y a)
def Je(x:DQ):b9:=Z (xW 1 2) λa=>Z (eM 0) λb=>Z (cQ x b) λc=>bif ad c 0 then I 0 else Z (eM 1) λd=>Z (cQ x d) λe=>bif ad 0 e then I 255 else Z (eM 255) λf=>Z (oH x f) λg=>Z (lA g a.1) λh=>Z (vj h) λi=>Z (uP i) λj=>I (wr .u8 j.1)
def Eb(x:cF)(y z u:Int):b9:=Z (Qg x y z u) λa=>bif !af a.2.1 0 then I 0 else Z (Je a.1) λb=>I b
def ZK(x:cF)(y:Int)(c e:rC)(b a:ek):Option (ek⊕ek⊕Ie):=bif ag a.1.1 (bif ad c.2.2.1 e.2.2.1 then c.2.2.1 else e.2.2.1)then Z (NA c a.1.1 b.1.1) λd=>Z (Eb x y a.1.1 b.1.1) λf=>aG a.2.2.1 d λg=>aq ((w (a.1.1+1),A),A,a.2.2.1.set d.toNat f,A)else au (aZ ((w (b.1.1+1),A),A,a.2.2.1,A))
def QV(x:cF)(y:Int)(b c:rC)(a:ek):Option (ek⊕Ie):=bif ag a.1.1 b.2.2.2.1 then Z (aQ (ag a.1.1 c.2.1) (I (ad c.2.2.2.1 a.1.1))) λd=>bif d then aq ((w (a.1.1+1),A),A,a.2.2.1,A)else ar (ZK x y b c a) ((bif ad b.1 c.1 then c.1 else b.1,A),A,a.2.2.1,A)else au ((b,a.2.2.1,A),0,A)
def ZL(x:cF)(y:Int)(z:dC)(d:Unit×akm):tU:=Z (BZ z) λb=>Z (xY b) λa=>aJ (ad 0 a&&(ad a a&&ad (a*1) 70368744177664)) (Z (L3 x) λc=>ar (QV x y b c) ((b.2.1,A),A,bR a.toNat (0:Int),A))
def Ea(x:cF)(y:Int)(z:dC):tU:=bb (Z (xE x) λa=>bif !a then au (((0,0,0,0,A),[],A),12,A)else Z (aA (!af y 1) (I !af y 2)) λb=>bif b then au (((0,0,0,0,A),[],A),2,A)else Z (xZ z) λc=>bif !c then au (((0,0,0,0,A),[],A),6,A)else Z (xY z) λd=>bif ag 65536 d then au (((0,0,0,0,A),[],A),5,A)else aq (A,(((0,0,0,0,A),A,A),A),A)) (ZL x y z)
def BF(x:cf):Option di:=I [x.1,x.2.1,x.2.2.1,x.2.2.2.1,x.2.2.2.2.1,x.2.2.2.2.2.1]
def afa(x:bc)(a:aP):zq:=Z (aA (ag 0 a.1.1) (aD x (w (a.1.1-1)) λb=>I (af b 0))) λc=>bif c then aq ((w (a.1.1-1),A),A,A)else au (aZ a)
def UJ(x:bc)(c:aP)(a:pb):Ir:=bif ag a.1.2.1 c.1.1 then aD x a.1.2.1 λb=>aJ (bg (a.1.1.length+[b].length) 4) (aq ((bh a.1.1 [b],w (a.1.2.1+1),A),A,A))else au a.1.1
def aw7(x:bc)(a:aP):iY:=ar (UJ x a) (([],0,A),A,A)
def jC(x:bc):iY:=bb (ar (afa x) ((↑x.length,A),A,A)) (aw7 x)
def lz(x:Bool)(y:bc):lL:=Z (jC y) λa=>Z (aA x (I (ag 0 ↑a.length))) λb=>I (b,a,A)
def sM(x:DZ):b9:=Z (lz x.1 x.2.1) λa=>bif af (↑a.2.1.length) 0 then I 0 else bif a.1 then I (-1)else I 1
def UR(x:Int)(a:aP):lL:=Z (lz (ag x 0) [wr .u32 a.1.1,wr .u32 (a.1.1.fdiv 4294967296)]) λb=>I b
def sL(x:Int):lL:=bb (bif ag x 0 then aq ((wu (0-wu x),A),A,A)else aq ((wu x,A),A,A)) (UR x)
def dK(x:Int):fZ:=Z (sL x) λa=>Z (sL 1) λb=>I (a,b,A)
def UD(a:eT):Option (eT⊕Int):=bif ag 0 a.1.2.1 then aq ((w (a.1.1+1),wr .u32 (a.1.2.1.tdiv 2),A),A,A)else au a.1.1
def Gf(x:bc):b9:=Z (jC x) λa=>bif af (↑a.length) 0 then I 0 else aD a (w (↑a.length-1)) λb=>ar UD ((w (32*w (↑a.length-1)),b,A),A,A)
def UO(x:bc)(y:Int)(a:zt):PL:=bif ag a.1.2.2.1 ↑x.length then aD x a.1.2.2.1 λb=>aJ (bg (a.1.1.length+[wr .u32 (wu (wu (wu b*↑(2^(wu (y.tmod 32)).toNat.min 64))+a.1.2.1))].length) 4) (aq ((bh a.1.1 [wr .u32 (wu (wu (wu b*↑(2^(wu (y.tmod 32)).toNat.min 64))+a.1.2.1))],(wu (wu (wu b*↑(2^(wu (y.tmod 32)).toNat.min 64))+a.1.2.1)).fdiv 4294967296,w (a.1.2.2.1+1),A),A,A))else Z (aJ (bg (a.1.1.length+[wr .u32 a.1.2.1].length) 4) (Z (jC (bh a.1.1 [wr .u32 a.1.2.1])) λc=>I c)) λd=>au d
def Mn(x:bc)(y:Int):iY:=aJ (ad 0 (w (y.tdiv 32))&&(ad (w (y.tdiv 32)) (w (y.tdiv 32))&&ad (w (y.tdiv 32)*4) 70368744177664)) (ar (UO x y) ((bR (w (y.tdiv 32)).toNat (0:Int),0,0,A),A,A))
def lZ(x:bc)(y:Int):b9:=Z (aQ (ag y 0) (I (ad (↑x.length) y))) λa=>bif a then I 0 else aD x y λb=>I (wu b)
def UL(x:bc)(y:Int)(a:pb):Ir:=bif ag a.1.2.1 ↑x.length then Z (lZ x (w (a.1.2.1+1))) λb=>Z (lZ x a.1.2.1) λc=>aJ (bg (a.1.1.length+[wr .u32 ((wu (wu (b*4294967296)+c)).fdiv ↑(2^(wu ((w (0-y)).tmod 32)).toNat.min 64))].length) 4) (aq ((bh a.1.1 [wr .u32 ((wu (wu (b*4294967296)+c)).fdiv ↑(2^(wu ((w (0-y)).tmod 32)).toNat.min 64))],w (a.1.2.1+1),A),A,A))else Z (Z (jC a.1.1) λd=>I d) λe=>au e
def sK(x:bc)(y:Int):iY:=bif ad 0 y then Z (Mn x (bif ad y 4096 then y else 4096)) λa=>I a else bif ag y (w (-32*↑x.length))then I []else ar (UL x y) (([],w ((w (0-y)).tdiv 32),A),A,A)
def UN(x:bc)(y:Int)(a:zt):PL:=bif ag a.1.2.2.1 ↑x.length then aD x a.1.2.2.1 λb=>aJ (bg (a.1.1.length+[wr .u32 (wu (wu (wu b*y)+a.1.2.1))].length) 4) (aq ((bh a.1.1 [wr .u32 (wu (wu (wu b*y)+a.1.2.1))],(wu (wu (wu b*y)+a.1.2.1)).fdiv 4294967296,w (a.1.2.2.1+1),A),A,A))else Z (aJ (bg (a.1.1.length+[wr .u32 a.1.2.1].length) 4) (Z (jC (bh a.1.1 [wr .u32 a.1.2.1])) λc=>I c)) λd=>au d
def Mm(x:bc)(y:Int):iY:=ar (UN x y) (([],0,0,A),A,A)
def Mi(x y:bc)(a:aP):zw:=bif ad 0 a.1.1 then Z (lZ x a.1.1) λb=>Z (lZ y a.1.1) λc=>bif ag b c then au (-1)else Z (lZ x a.1.1) λd=>Z (lZ y a.1.1) λe=>bif ag e d then au 1 else aq ((w (a.1.1-1),A),A,A)else au 0
def Gg(x y:bc):b9:=ar (Mi x y) ((w ((bif ad ↑x.length ↑y.length then↑y.length else↑x.length)-1),A),A,A)
def UM(x y:bc)(a:zt):Option (zt⊕bc×jR):=bif ag a.1.2.2.1 ↑x.length then Z (lZ x a.1.2.2.1) λb=>Z (lZ y a.1.2.2.1) λc=>aJ (bg (a.1.1.length+[wr .u32 (wu (wu (wu (4294967296+b)-c)-a.1.2.1))].length) 4) (aq ((bh a.1.1 [wr .u32 (wu (wu (wu (4294967296+b)-c)-a.1.2.1))],wu (1-(wu (wu (wu (4294967296+b)-c)-a.1.2.1)).fdiv 4294967296),w (a.1.2.2.1+1),A),A,A))else Z (Z (jC a.1.1) λd=>I (d,N,A)) λe=>au e
def xI(x y:bc):Is:=Z (Gg x y) λa=>bif ag a 0 then I ([],Y,A)else ar (UM x y) (([],0,0,A),A,A)
def UK(x y:bc)(a:(Int×rL)×eF):Option ((Int×rL)×eF⊕Int×rL):=Z (Gg a.1.2.1 x) λb=>bif ag 0 b then Z (xI a.1.2.1 y) λc=>aq ((wu (a.1.1-1),c.1,A),A,A)else Z (Z (xI x a.1.2.1) λd=>I (a.1.1,d.1,A)) λe=>au e
def Gk(x y:bc):Option (Int×rL):=Z (lZ x ↑y.length) λb=>Z (lZ x (w (↑y.length-1))) λc=>aD y (w (↑y.length-1)) λa=>jw (wu a) (Z (Mm y (bif ad (wu ((wu (wu (b*4294967296)+c)).tdiv (wu a))) 4294967295 then wu ((wu (wu (b*4294967296)+c)).tdiv (wu a))else 4294967295)) λd=>ar (UK x y) ((bif ad (wu ((wu (wu (b*4294967296)+c)).tdiv (wu a))) 4294967295 then wu ((wu (wu (b*4294967296)+c)).tdiv (wu a))else 4294967295,d,A),A,A))
def UE(a:pb):Option (pb⊕we⊕n7):=bif ag a.1.2.1 0 then aJ (ad 0 a.1.2.1&&ag a.1.2.1 0) U else au (aZ ((a.1.1,A),A,A))
def Mj(b:zl)(a:pb):Option (pb⊕we⊕zl⊕n7):=bif ag a.1.2.1 ↑b.1.1.length then aD b.1.1 a.1.2.1 λc=>aJ (bg (a.1.1.length+[c].length) 4) (aq ((bh a.1.1 [c],w (a.1.2.1+1),A),A,A))else au (aZ ((a.1.1,A),A,A))
def ae6(e:bc)(a:zl)(c:we):Option (zl⊕n7):=Z (jC c.1.1) λd=>Z (Gk d e) λb=>aG a.2.2.1 a.1.2.1 λf=>aq ((b.2.1,w (a.1.2.1-1),A),A,a.2.2.1.set a.1.2.1.toNat (wr .u32 b.1),A)
def Gj(b:bc)(c:Int)(g i:bc)(a:zl):Option (zl⊕n7):=bif ad 0 a.1.2.1 then aD g a.1.2.1 λd=>bb (ar (Mj a) (([d],0,A),A,A)) (ae6 i a)else Z (Z (jC a.2.2.1) λe=>Z (sK a.1.1 (w (0-w (w (32*↑b.length)-c)))) λf=>I (e,f,0,A)) λh=>au h
def ae7(e:bc)(f:Int)(a b:bc)(d:we):nn:=Z (jC d.1.1) λg=>Z (Gk g b) λc=>aG (bR (m9 ↑a.length) (0:Int)) (w (↑a.length-1)) λh=>ar (Gj e f a b) ((c.2.1,w (w (↑a.length-1)-1),A),A,(bR (m9 ↑a.length) (0:Int)).set (w (↑a.length-1)).toNat (wr .u32 c.1),A)
def Gi(x y:bc):nn:=Z (jC y) λb=>bif af (↑b.length) 0 then I ([],[],9,A)else Z (Gf b) λc=>Z (sK x (w (w (32*↑b.length)-c))) λa=>Z (sK b (w (w (32*↑b.length)-c))) λf=>aJ (ad ↑a.length ↑a.length&&ad (↑a.length*4) 70368744177664) (bif ad 0 (w (↑a.length-1))then aD a (w (↑a.length-1)) λg=>bb (ar UE (([g],0,A),A,A)) (ae7 b c a f)else Z (jC (bR (m9 ↑a.length) (0:Int))) λd=>Z (sK [] (w (0-w (w (32*↑b.length)-c)))) λe=>I (d,e,0,A))
def UF(a:H8):Option (H8⊕bc):=bif ag 0 ↑a.1.2.1.length then Z (Gi a.1.1 a.1.2.1) λb=>aq ((a.1.2.1,b.2.1,A),A,A)else au a.1.1
def Mk(x y:bc):iY:=Z (jC x) λa=>Z (jC y) λb=>ar UF ((a,b,A),A,A)
def xJ(x:DZ):lL:=Z (lz (!x.1) x.2.1) λa=>I a
def UC(x y:bc)(a:zt):PL:=bif ag a.1.2.2.1 (bif ad ↑x.length ↑y.length then↑y.length else↑x.length)then Z (lZ x a.1.2.2.1) λb=>Z (lZ y a.1.2.2.1) λc=>aJ (bg (a.1.1.length+[wr .u32 (wu (wu (b+c)+a.1.2.1))].length) 4) (aq ((bh a.1.1 [wr .u32 (wu (wu (b+c)+a.1.2.1))],(wu (wu (b+c)+a.1.2.1)).fdiv 4294967296,w (a.1.2.2.1+1),A),A,A))else Z (aJ (bg (a.1.1.length+[wr .u32 a.1.2.1].length) 4) (Z (jC (bh a.1.1 [wr .u32 a.1.2.1])) λd=>I d)) λe=>au e
def Mh(x y:bc):iY:=ar (UC x y) (([],0,0,A),A,A)
def BA(x y:DZ):lL:=bif cx Ty.bool x.1 y.1 then Z (Mh x.2.1 y.2.1) λb=>Z (lz x.1 b) λc=>I c else Z (xI x.2.1 y.2.1) λa=>bif a.2.1 then Z (lz x.1 a.1) λd=>I d else Z (xI y.2.1 x.2.1) λe=>Z (lz y.1 e.1) λf=>I f
def Gm(x y:DZ):lL:=Z (xJ y) λa=>Z (BA x a) λb=>I b
def BB(x y:DZ):PF:=Z (sM y) λd=>bif af d 0 then I ((Y,[],A),(Y,[],A),9,A)else Z (Gi x.2.1 y.2.1) λb=>Z (lz (!cx Ty.bool x.1 y.1) b.1) λc=>Z (lz x.1 b.2.1) λa=>Z (aA (!cx Ty.bool x.1 y.1) (Z (sM a) λe=>I !af e 0)) λf=>bif f then Z (sL 1) λg=>Z (Gm c g) λh=>Z (BA a y) λi=>I (h,i,0,A)else I (c,a,0,A)
def UU(b:DZ)(a:Unit×DQ×Unit):fZ:=Z (BB a.2.1.1 b) λc=>Z (BB a.2.1.2.1 b) λd=>I (c.1,d.1,A)
def va(x y:DZ):fZ:=Z (Mk x.2.1 y.2.1) λa=>Z (lz Y a) λb=>bb (Z (sM y) λc=>bif ag c 0 then Z (xJ x) λd=>Z (xJ y) λe=>aq (A,(d,e,A),A)else aq (A,(x,y,A),A)) (UU b)
def gO(x:DQ):fZ:=Z (sM x.2.1) λa=>bif af a 0 then Z (dK 0) λb=>I b else Z (va x.1 x.2.1) λc=>I c
def Gl(x:DZ):b9:=Z (Gf x.2.1) λa=>I a
def Mo(x:DQ):b9:=Z (gO x) λa=>Z (Gl a.1) λb=>Z (Gl a.2.1) λc=>I (bif ad b c then c else b)
def MA(b:di)(a:aP):kt:=bif ag a.1.1 ↑b.length then aD b a.1.1 λc=>Z (Mo c) λd=>bif ag 256 d then au Y else aq ((w (a.1.1+1),A),A,A)else au N
def vd(x:cf):bp:=Z (BF x) λa=>ar (MA a) ((0,A),A,A)
def UH(x y:bc)(b:ek)(a:jS):Option (jS⊕ek⊕bc):=bif ag a.1.2.1 ↑y.length then aD x b.1.1 λc=>aD y a.1.2.1 λd=>aG a.2.2.1 (w (b.1.1+a.1.2.1)) λe=>aG a.2.2.1 (w (b.1.1+a.1.2.1)) λg=>aq (((wu (wu (wu (wu c*wu d)+wu e)+a.1.1)).fdiv 4294967296,w (a.1.2.1+1),A),A,a.2.2.1.set (w (b.1.1+a.1.2.1)).toNat (wr .u32 (wu (wu (wu (wu c*wu d)+wu e)+a.1.1))),A)else Z (aG a.2.2.1 (w (b.1.1+↑y.length)) λh=>aq ((w (b.1.1+1),A),A,a.2.2.1.set (w (b.1.1+↑y.length)).toNat (wr .u32 a.1.1),A)) λf=>au f
def UI(x y:bc)(a:ek):Option (ek⊕bc):=bif ag a.1.1 ↑x.length then ar (UH x y a) ((0,0,A),A,a.2.2.1,A)else Z (Z (jC a.2.2.1) λb=>I b) λc=>au c
def Ml(x y:bc):iY:=aJ (ad 0 (w (w (↑x.length+↑y.length)+1))&&(ad (w (w (↑x.length+↑y.length)+1)) (w (w (↑x.length+↑y.length)+1))&&ad (w (w (↑x.length+↑y.length)+1)*4) 70368744177664)) (ar (UI x y) ((0,A),A,bR (w (w (↑x.length+↑y.length)+1)).toNat (0:Int),A))
def nQ(x y:DZ):lL:=Z (Ml x.2.1 y.2.1) λa=>Z (lz (!cx Ty.bool x.1 y.1) a) λb=>I b
def mV(x y:DQ):fZ:=Z (gO x) λa=>Z (gO y) λb=>Z (nQ a.1 b.1) λc=>Z (nQ a.2.1 b.2.1) λd=>Z (va c d) λe=>I e
def Mr(x:DQ):fZ:=Z (gO x) λa=>Z (xJ a.1) λb=>I (b,a.2.1,A)
def gZ(x y:DQ):fZ:=Z (gO x) λa=>Z (gO y) λb=>Z (nQ a.1 b.2.1) λc=>Z (nQ b.1 a.2.1) λd=>Z (BA c d) λe=>Z (nQ a.2.1 b.2.1) λf=>Z (va e f) λg=>I g
def vb(x y:DQ):fZ:=Z (Mr y) λa=>Z (gZ x a) λb=>I b
def xP(x:cf):fZ:=Z (mV x.1 x.2.2.2.1) λa=>Z (mV x.2.1 x.2.2.1) λb=>Z (vb a b) λc=>I c
def UP(x y:DZ):b9:=Z (Gm x y) λa=>Z (sM a) λb=>I b
def iL(x y:DQ):b9:=Z (gO x) λa=>Z (gO y) λb=>Z (nQ a.1 b.2.1) λc=>Z (nQ b.1 a.2.1) λd=>Z (UP c d) λe=>I e
def afc(x:Int)(a:jR×eF):b9:=bif a.1.1 then I 1 else bif af x 3 then I 2 else bif af x 4 then I 3 else bif af x 5 then I 0 else I (-1)
def ve(x:Int):b9:=bb (bif af x 1 then aq ((af x 1,A),A,A)else aq ((af x 2,A),A,A)) (afc x)
def MC(x:hL)(y:Int):bp:=Z (aQ (af y 0) (aD x (w (y-1)) λa=>I (af a.1 5))) λb=>bif b then aD x y λc=>I (af c.1 1)else aD x y λd=>Z (aQ (!af d.1 5) (aD x (w (y-1)) λe=>I !af e.1 1)) λf=>I f
def Gt(x:cX):Option qf:=I x.2
def fD(x:aF):bp:=Z (aA (ad (-1048576) x.1) (I (ad x.1 1048576))) λa=>Z (aA a (I (ad (-1048576) x.2.1))) λb=>Z (aA b (I (ad x.2.1 1048576))) λc=>I c
def MF(x:hL)(y:Int):b9:=aD x y λc=>Z (ve c.1) λa=>bif ag a 0 then I 2 else Z (MC x y) λk=>bif !k then I 10 else aD x y λl=>Z (Gt l) λb=>Z (aA (ag 0 a) (Z (fD b.1) λm=>I !m)) λn=>Z (aQ n (Z (aA (ad a 0) (I !cx fj b.1 (0,0,A))) λo=>I o)) λp=>bif p then I 6 else Z (aA (ag 1 a) (Z (fD b.2.1) λq=>I !q)) λd=>Z (aQ d (Z (aA (ad a 1) (I !cx fj b.2.1 (0,0,A))) λe=>I e)) λf=>bif f then I 6 else Z (aA (ag 2 a) (Z (fD b.2.2.1) λg=>I !g)) λh=>Z (aQ h (Z (aA (ad a 2) (I !cx fj b.2.2.1 (0,0,A))) λi=>I i)) λj=>bif j then I 6 else I 0
def U1(x:hL)(a:aP):Dt:=bif ag a.1.1 ↑x.length then Z (MF x a.1.1) λb=>bif !af b 0 then au (b,a.1.1,A)else aq ((w (a.1.1+1),A),A,A)else au (0,0,A)
def MB(x:hL):iD:=bif ag 256 ↑x.length then I (5,256,A)else ar (U1 x) ((0,A),A,A)
def vf(x:hL):bp:=Z (MB x) λa=>I (af a.1 0)
def GM(x:Int):bp:=Z (aQ (af x 1) (I (af x 2))) λa=>I a
def GK(x:du):bp:=Z (aA (af (↑x.2.2.2.2.2.2.2.2.2.2.1.length) 0) (I (af x.2.2.2.2.2.2.2.2.2.2.2.1 0))) λa=>Z (aA a (I (af (↑x.2.2.2.2.2.2.2.2.2.2.2.2.1.length) 0))) λb=>Z (aA b (I (af (↑x.2.2.2.2.2.2.2.2.2.2.2.2.2.2.1.length) 0))) λc=>I c
def BN(x:du):bp:=Z (aA (af x.2.2.2.2.2.2.2.2.2.2.2.2.2.1.1 0) (I (af x.2.2.2.2.2.2.2.2.2.2.2.2.2.1.2.1 0))) λa=>Z (aA a (I (af x.2.2.2.2.2.2.2.2.2.2.2.2.2.1.2.2.1 0))) λb=>Z (aA b (I (af x.2.2.2.2.2.2.2.2.2.2.2.2.2.1.2.2.2.1 0))) λc=>Z (aA c (I (af (↑x.2.2.2.2.2.2.2.2.2.2.2.2.2.1.2.2.2.2.1.length) 0))) λd=>Z (aA d (I (af x.2.2.2.2.2.2.2.2.2.2.2.2.2.1.2.2.2.2.2.1 0))) λe=>I e
def GJ(x:du):bp:=Z (aA (af x.2.2.2.2.2.2.2.2.2.2.2.2.2.2.2.1.1 0) (I (af x.2.2.2.2.2.2.2.2.2.2.2.2.2.2.2.1.2.1 0))) λa=>Z (aA a (I (af (↑x.2.2.2.2.2.2.2.2.2.2.2.2.2.2.2.1.2.2.1.length) 0))) λb=>Z (aA b (I (af x.2.2.2.2.2.2.2.2.2.2.2.2.2.2.2.2.1 0))) λc=>I c
def GI(x:du):bp:=Z (aA (af x.2.2.2.2.2.2.1 0) (I (af x.2.2.2.2.2.2.2.1 0))) λa=>Z (aA a (I !x.2.2.2.2.2.2.2.2.1)) λb=>Z (aA b (I !x.2.2.2.2.2.2.2.2.2.1)) λc=>I c
def GL(x:du):bp:=Z (aA (af (↑x.2.2.2.2.1.length) 0) (I !af x.2.2.2.2.2.1 0)) λa=>Z (aQ a (Z (aA (ag 0 ↑x.2.2.2.2.1.length) (Z (GM x.2.2.2.2.2.1) λb=>I !b)) λj=>I j)) λk=>bif k then I Y else bif af x.2.1 1 then Z (GK x) λl=>Z (aA l (Z (BN x) λm=>I m)) λn=>Z (aA n (Z (GJ x) λo=>I o)) λp=>I p else bif af x.2.1 2 then Z (GI x) λq=>Z (aA q (Z (GJ x) λc=>I c)) λd=>I d else Z (GI x) λe=>Z (aA e (Z (GK x) λf=>I f)) λg=>Z (aA g (Z (BN x) λh=>I h)) λi=>I i
def sQ(x y z:Int):bp:=Z (aA (ad y x) (I (ad x z))) λa=>I a
def Vk(x:Int):bp:=Z (sQ x 1 16384) λa=>I a
def Vj(x:bc)(a:H9):Option (H9⊕Bool):=bif ag a.1.2.1 ↑x.length then aD x a.1.2.1 λb=>Z (sQ b 0 1048576) λc=>bif !c then au Y else Z (aQ a.1.1 (aD x a.1.2.1 λd=>I (ag 0 d))) λe=>aq ((e,w (a.1.2.1+1),A),A,A)else Z (Z (aA a.1.1 (I (ad (↑x.length) 16))) λf=>Z (aA f (I (af (Int.tmod ↑x.length 2) 0))) λg=>I g) λh=>au h
def Vi(x:bc):bp:=ar (Vj x) ((af (↑x.length) 0,0,A),A,A)
def M8(x:rD):bp:=Z (Vk x.1) λa=>Z (aQ (!a) (Z (sQ x.2.1 1 3) λb=>I !b)) λc=>Z (aQ c (Z (sQ x.2.2.1 3 5) λd=>I !d)) λe=>bif e then I Y else Z (sQ x.2.2.2.1 256 65536) λf=>Z (aA f (Z (Vi x.2.2.2.2.1) λg=>I g)) λh=>Z (aA h (Z (sQ x.2.2.2.2.2.1 0 1048576) λi=>I i)) λj=>I j
def Nd(x:fI):bp:=Z (aA (cx fj x.2.2.1 (0,0,A)) (I (cx fj x.2.2.2.1 (0,0,A)))) λa=>Z (aA a (I (af x.2.2.2.2.1 0))) λb=>Z (aA b (I (af (↑x.2.2.2.2.2.1.length) 0))) λc=>I c
def GH(x:fI):bp:=Z (aA (af x.2.2.2.2.2.2.2.1.1 0) (I (af x.2.2.2.2.2.2.2.1.2.1 0))) λa=>Z (aA a (I (af (↑x.2.2.2.2.2.2.2.1.2.2.1.length) 0))) λb=>Z (aA b (I (af x.2.2.2.2.2.2.2.2.1 0))) λc=>I c
def Gq(x:cf):qg:=Z (gO x.1) λa=>Z (gO x.2.1) λb=>Z (gO x.2.2.1) λc=>Z (gO x.2.2.2.1) λd=>Z (gO x.2.2.2.2.1) λe=>Z (gO x.2.2.2.2.2.1) λf=>I (a,b,c,d,e,f,A)
def UX(x y:DZ)(a:aP):kt:=bif ag a.1.1 ↑x.2.1.length then aD x.2.1 a.1.1 λb=>aD y.2.1 a.1.1 λc=>bif !af b c then au Y else aq ((w (a.1.1+1),A),A,A)else au N
def xK(x y:DZ):bp:=Z (aQ (!cx Ty.bool x.1 y.1) (I !af ↑x.2.1.length ↑y.2.1.length)) λa=>bif a then I Y else ar (UX x y) ((0,A),A,A)
def Ms(x y:DQ):bp:=Z (xK x.1 y.1) λa=>Z (aA a (Z (xK x.2.1 y.2.1) λb=>I b)) λc=>I c
def UW(x y:di)(a:aP):kt:=bif ag a.1.1 ↑x.length then aD x a.1.1 λb=>aD y a.1.1 λc=>Z (Ms b c) λd=>bif !d then au Y else aq ((w (a.1.1+1),A),A,A)else au N
def Gp(x y:di):bp:=bif !af ↑x.length ↑y.length then I Y else ar (UW x y) ((0,A),A,A)
def UZ(x y:cf):bp:=Z (BF x) λa=>Z (BF y) λb=>Z (Gp a b) λc=>I c
def BG(x y:cf):bp:=Z (Gq x) λa=>Z (Gq y) λb=>Z (UZ a b) λc=>I c
def Vn(x:cf):bp:=Z (BG x jG) λa=>I a
def GF(x:zj)(a:aP):kt:=bif ag a.1.1 ↑x.length then aD x a.1.1 λb=>Z (aQ (ag b.1 0) (aD x a.1.1 λc=>I (ag 65536 c.1))) λd=>Z (aQ d (Z (aA (ag 0 a.1.1) (aD x a.1.1 λe=>aD x (w (a.1.1-1)) λf=>I (ag e.1 f.1))) λg=>I g)) λh=>bif h then au Y else aq ((w (a.1.1+1),A),A,A)else Z (Z (aA (ad 1 ↑x.length) (I (ad (↑x.length) 16))) λi=>I i) λj=>au j
def GD(x:zj):bp:=ar (GF x) ((0,A),A,A)
def BM(x:Int):bp:=Z (aA (ad 1 x) (I (ad x 3))) λa=>I a
def Vm(x y:Int):bp:=Z (aA (ad 1 x) (I (ad x 4096))) λa=>Z (aA a (I (ad 1 y))) λb=>Z (aA b (I (ad y 4096))) λc=>Z (aA c (I (ad (w (x*y)) 65536))) λd=>I d
def Na(x:o8):bp:=Z (aA (ad x.1 x.2.2.2.1) (I (ad x.2.1 x.2.2.2.1))) λa=>Z (aA a (I (ad x.2.2.1 x.2.2.2.1))) λb=>I b
def Nb(x:ni)(a:aP):kt:=bif ag a.1.1 ↑x.2.2.1.length then aD x.2.2.1 a.1.1 λb=>Z (Na b) λc=>bif !c then au Y else aq ((w (a.1.1+1),A),A,A)else au N
def GG(x:ni):bp:=Z (Vm x.1 x.2.1) λa=>Z (aQ (!a) (I !af (↑x.2.2.1.length) (w (x.1*x.2.1)))) λb=>bif b then I Y else ar (Nb x) ((0,A),A,A)
def Nc(x:fI):bp:=bif af x.1 1 then Z (Nd x) λa=>Z (aA a (Z (GH x) λb=>I b)) λm=>Z (aA m (I (af x.2.2.2.2.2.2.1 0))) λy=>Z (aA y (Z (Vn x.2.2.2.2.2.2.2.2.2.1) λH=>I H)) λK=>I K else bif af x.1 2 then Z (GH x) λL=>Z (aA L (I (cx yp x.2.1 (0,0,0,0,A)))) λM=>Z (aA M (I (af x.2.2.2.2.1 0))) λO=>Z (aA O (Z (fD x.2.2.1) λP=>I P)) λc=>Z (aA c (Z (fD x.2.2.2.1) λd=>I d)) λe=>Z (aA e (Z (GD x.2.2.2.2.2.1) λf=>I f)) λg=>Z (aA g (Z (BM x.2.2.2.2.2.2.1) λh=>I h)) λi=>I i else bif af x.1 3 then Z (GH x) λj=>Z (aA j (I (cx yp x.2.1 (0,0,0,0,A)))) λk=>Z (aA k (I (cx fj x.2.2.2.1 (0,0,A)))) λl=>Z (aA l (Z (fD x.2.2.1) λn=>I n)) λo=>Z (aA o (I (ad 1 x.2.2.2.2.1))) λp=>Z (aA p (I (ad x.2.2.2.2.1 1048576))) λq=>Z (aA q (Z (GD x.2.2.2.2.2.1) λr=>I r)) λs=>Z (aA s (Z (BM x.2.2.2.2.2.2.1) λt=>I t)) λu=>I u else aA (af x.1 4) (Z (Nd x) λv=>Z (aA v (I (cx yp x.2.1 (0,0,0,0,A)))) λw=>Z (aA w (Z (GG x.2.2.2.2.2.2.2.1) λz=>I z)) λB=>Z (aA B (Z (aQ (af x.2.2.2.2.2.2.1 0) (Z (BM x.2.2.2.2.2.2.1) λC=>I C)) λD=>I D)) λE=>Z (aA E (Z (aQ (af x.2.2.2.2.2.2.2.2.1 1) (I (af x.2.2.2.2.2.2.2.2.1 2))) λF=>I F)) λG=>I G)
def Nf(x:fI):bp:=Z (vd x.2.2.2.2.2.2.2.2.2.1) λa=>Z (aQ (!a) (Z (Nc x) λb=>I !b)) λc=>bif c then I Y else Z (aQ (af x.1 1) (Z (xP x.2.2.2.2.2.2.2.2.2.1) λd=>Z (dK 0) λe=>Z (iL d e) λf=>I !af f 0)) λg=>I g
def Vp(x:List fI)(a:aP):kt:=bif ag a.1.1 ↑x.length then aD x a.1.1 λb=>Z (Nf b) λc=>bif !c then au Y else aq ((w (a.1.1+1),A),A,A)else au N
def Ni(x:List fI):bp:=ar (Vp x) ((0,A),A,A)
def Nh(x:du):b9:=Z (vf x.2.2.2.2.2.2.2.2.2.2.1) λa=>bif !a then I 10 else Z (GM x.2.2.2.2.2.2.2.2.2.2.2.1) λb=>bif !b then I 2 else Z (aQ (ag 1 ↑x.2.2.2.2.2.2.2.2.2.2.2.2.1.length) (I (ag 1 ↑x.2.2.2.2.2.2.2.2.2.2.2.2.2.2.1.length))) λc=>bif c then I 5 else Z (aA (ag 0 ↑x.2.2.2.2.2.2.2.2.2.2.2.2.2.2.1.length) (Z (M8 x.2.2.2.2.2.2.2.2.2.2.2.2.2.1) λd=>I !d)) λe=>bif e then I 13 else Z (aA (af (↑x.2.2.2.2.2.2.2.2.2.2.2.2.2.2.1.length) 0) (Z (BN x) λf=>I !f)) λg=>bif g then I 17 else Z (Ni x.2.2.2.2.2.2.2.2.2.2.2.2.1) λh=>Z (aQ (!h) (Z (Ni x.2.2.2.2.2.2.2.2.2.2.2.2.2.2.1) λi=>I !i)) λj=>bif j then I 16 else I 0
def Vl(x:Int):bp:=Z (aA (ad 1 x) (I (ad x 13))) λa=>I a
def Vo(x:du)(e:Dz):b9:=bif af x.2.1 2 then Z (Nh x) λa=>I a else bif af x.2.1 1 then Z (Vl x.2.2.2.2.2.2.2.1) λb=>bif !b then I 2 else I 0 else Z (GG x.2.2.2.2.2.2.2.2.2.2.2.2.2.2.2.1) λc=>bif !c then I 16 else Z (aA (!af x.2.2.2.2.2.2.2.2.2.2.2.2.2.2.2.2.1 1) (I !af x.2.2.2.2.2.2.2.2.2.2.2.2.2.2.2.2.1 2)) λd=>bif d then I 2 else I 0
def Ng(x:du):b9:=bb (Z (aQ (ag x.2.1 1) (I (ag 3 x.2.1))) λa=>bif a then au 2 else Z (aQ (ag x.1 1) (I (ag 1073741824 x.1))) λb=>Z (aQ b (I (ag x.2.2.1 0))) λc=>Z (aQ c (I (ad 8 x.2.2.1))) λd=>bif d then au 6 else Z (vd x.2.2.2.1) λe=>bif !e then au 5 else Z (xP x.2.2.2.1) λf=>Z (dK 0) λg=>Z (iL f g) λh=>bif af h 0 then au 9 else Z (vf x.2.2.2.2.1) λi=>bif !i then au 10 else Z (GL x) λj=>bif !j then au 17 else aq (A,A,A)) (Vo x)
def GQ(x:tP)(y:Int)(a:aP):zw:=bif ag a.1.1 ↑x.length then aD x a.1.1 λb=>bif af b.1 y then au a.1.1 else aq ((w (a.1.1+1),A),A,A)else au (-1)
def Vq(x:tP)(y:Int):b9:=ar (GQ x y) ((0,A),A,A)
def Nl(x:tP)(y:Int):bp:=bif af y 0 then aD x y λa=>I (af a.2.2.1 0)else aD x (w (y-1)) λb=>Z (aA (af b.2.1 1) (aD x y λc=>aD x (w (y-1)) λd=>I (af c.2.2.1 (w (d.2.2.1+1))))) λe=>aQ e (aD x y λf=>aD x (w (y-1)) λg=>I (ad f.2.2.1 g.2.2.1))
def GR(x:tP)(y:Int):b9:=aD x y λb=>Z (Ng b) λa=>bif !af a 0 then I a else aJ (ad 0 y&&ad y ↑x.length) (aD x y λc=>Z (Vq (aW (y.toNat-0) (yW 0 x)) c.1) λd=>bif ad 0 d then I 7 else Z (Nl x y) λe=>bif !e then I 17 else I 0)
def GP(x:cZ)(a:aP):Dt:=bif ag a.1.1 ↑x.2.2.2.1.length then Z (GR x.2.2.2.1 a.1.1) λb=>bif !af b 0 then au (b,a.1.1,A)else aq ((w (a.1.1+1),A),A,A)else au (0,0,A)
def Nj(x:cZ):iD:=Z (aQ (ag x.1 1) (I (ag 256 x.1))) λa=>Z (aQ a (I (ag x.2.1 1))) λb=>Z (aQ b (I (ag 256 x.2.1))) λc=>bif c then I (6,0,A)else bif ag 64 ↑x.2.2.2.1.length then I (5,64,A)else ar (GP x) ((0,A),A,A)
def BP(x:cZ):bp:=Z (Nj x) λa=>I (af a.1 0)
def Nk(x:cZ)(y:Int):bp:=Z (BP x) λa=>Z (aA a (I (ad 0 y))) λb=>Z (aA b (I (ag y ↑x.2.2.2.1.length))) λc=>I c
def axg(x:tP)(y:Int)(a:aP):zw:=bif ad 0 a.1.1 then aD x a.1.1 λb=>aD x y λc=>bif af b.2.2.1 (w (c.2.2.1-1))then au a.1.1 else aq ((w (a.1.1-1),A),A,A)else au (-1)
def Vr(x:tP)(y:Int):b9:=ar (axg x y) ((w (y-1),A),A,A)
def U0(x y z u:Int)(v w:DQ):qg:=Z (dK x) λa=>Z (dK y) λb=>Z (dK z) λc=>Z (dK u) λd=>Z (gO v) λe=>Z (gO w) λf=>I (a,b,c,d,e,f,A)
def Mz:qg:=Z (U0 1 0 0 1 dc dc) λa=>I a
def afA(x y:v7)(a:aP):kt:=bif ag a.1.1 ↑x.2.1.length then aD x.2.1 a.1.1 λb=>aD y.2.1 a.1.1 λc=>bif !af b c then au Y else aq ((w (a.1.1+1),A),A,A)else au N
def GC(x y:v7):bp:=Z (aQ (!cx tR4 x.1 y.1) (I !af ↑x.2.1.length ↑y.2.1.length)) λa=>bif a then I Y else ar (afA x y) ((0,A),A,A)
def B6(x:cZ)(a:pb):Ir:=bif ad 0 a.1.2.1 then aJ (bg ([a.1.2.1].length+a.1.1.length) 8) (Z (oK x.2.2.2.1 a.1.2.1) λb=>aq ((bh [a.1.2.1] a.1.1,b,A),A,A))else au a.1.1
def agJ(x:cZ)(y:Int):iY:=Z (Hg x y) λa=>bif !a then I []else ar (B6 x) (([],y,A),A,A)
def aEe(x:v7):bp:=Z (xY x.1) λa=>Z (BZ x.1) λb=>Z (aA (cx tR4 b x.1) (I (ad a 65536))) λc=>Z (aA c (I (af (↑x.2.1.length) a))) λd=>I d
def aEf(x:v7):bp:=Z (aEe x) λa=>I !a
def aEg(x:aEc)(a:aP):kt:=bif ag a.1.1 ↑x.length then aD x a.1.1 λb=>Z (aEf b) λc=>bif c then au !ad 0 a.1.1 else aq ((w (a.1.1+1),A),A,A)else au N
def aEh(x:aEc):bp:=ar (aEg x) ((0,A),A,A)
def aEi(x y:dC):Ib:=Z (BZ x) λa=>Z (BZ y) λb=>Z (BZ (bif ad a.1 b.1 then b.1 else a.1,bif ad a.2.1 b.2.1 then b.2.1 else a.2.1,bif ad a.2.2.1 b.2.2.1 then a.2.2.1 else b.2.2.1,bif ad a.2.2.2.1 b.2.2.2.1 then a.2.2.2.1 else b.2.2.2.1,A)) λc=>I c
def aEj(x:v7)(y z:Int):b9:=Z (NA x.1 y z) λa=>bif ag a 0 then I 0 else aD x.2.1 a λb=>I b
def aEk(x:Int):b9:=bif ag x 0 then I (wu (0-wu x))else I (wu x)
def aEl(x y:Int):iD:=I (wu (wu (wu (x.fdiv 4294967296*y.fdiv 4294967296)+(wu (wu (x.fdiv 4294967296*wu ↑((word .u64 y).land 4294967295))+(wu (wu ↑((word .u64 x).land 4294967295)*wu ↑((word .u64 y).land 4294967295))).fdiv 4294967296)).fdiv 4294967296)+(wu (wu ↑((word .u64 (wu (wu (x.fdiv 4294967296*wu ↑((word .u64 y).land 4294967295))+(wu (wu ↑((word .u64 x).land 4294967295)*wu ↑((word .u64 y).land 4294967295))).fdiv 4294967296))).land 4294967295)+wu (wu ↑((word .u64 x).land 4294967295)*y.fdiv 4294967296))).fdiv 4294967296),wu (x*y),A)
def aEm(x:Int):b9:=Z (Qu x) λa=>I (w (64-a))
def aEn(y z b:Int)(a:eT):Option (eT⊕aP⊕aF):=Z (aQ (ad 4294967296 a.1.1) (I (ag (wu (wu (4294967296*a.1.2.1)+(wu (y*↑(2^(wu b).toNat.min 64))).fdiv 4294967296)) (wu (a.1.1*wu ↑((word .u64 (wu (z*↑(2^(wu b).toNat.min 64)))).land 4294967295)))))) λc=>bif c then bif ad 4294967296 (wu (a.1.2.1+(wu (z*↑(2^(wu b).toNat.min 64))).fdiv 4294967296))then au (aZ ((wu (a.1.1-1),A),A,A))else aq ((wu (a.1.1-1),wu (a.1.2.1+(wu (z*↑(2^(wu b).toNat.min 64))).fdiv 4294967296),A),A,A)else au (aZ ((a.1.1,A),A,A))
def aEo(y z b:Int)(a:eT):Option (eT⊕aP⊕aF):=Z (aQ (ad 4294967296 a.1.2.1) (I (ag (wu (wu (4294967296*a.1.1)+wu ↑((word .u64 (wu (y*↑(2^(wu b).toNat.min 64)))).land 4294967295))) (wu (a.1.2.1*wu ↑((word .u64 (wu (z*↑(2^(wu b).toNat.min 64)))).land 4294967295)))))) λc=>bif c then bif ad 4294967296 (wu (a.1.1+(wu (z*↑(2^(wu b).toNat.min 64))).fdiv 4294967296))then au (aZ ((wu (a.1.2.1-1),A),A,A))else aq ((wu (a.1.1+(wu (z*↑(2^(wu b).toNat.min 64))).fdiv 4294967296),wu (a.1.2.1-1),A),A,A)else au (aZ (a.1.2,A,A))
def aEp(x y z a:Int)(b c:aP):iD:=I (wu (wu (b.1.1*4294967296)+c.1.1),(wu (wu (wu (wu (wu (wu (wu ↑((word .u64 (wu (x*↑(2^(wu a).toNat.min 64)))).lor (word .u64 (y.fdiv ↑(2^(wu (64-wu a)).toNat.min 64))))*4294967296)+(wu (y*↑(2^(wu a).toNat.min 64))).fdiv 4294967296)-wu (b.1.1*wu (z*↑(2^(wu a).toNat.min 64))))*4294967296)+wu ↑((word .u64 (wu (y*↑(2^(wu a).toNat.min 64)))).land 4294967295))-wu (c.1.1*wu (z*↑(2^(wu a).toNat.min 64))))).fdiv ↑(2^(wu a).toNat.min 64),A)
def aEq(x y z a:Int)(b:aP):iD:=jw ((wu (z*↑(2^(wu a).toNat.min 64))).fdiv 4294967296) (bb (ar (aEo y z a) ((wu (wu (wu (wu (wu ↑((word .u64 (wu (x*↑(2^(wu a).toNat.min 64)))).lor (word .u64 (y.fdiv ↑(2^(wu (64-wu a)).toNat.min 64))))*4294967296)+(wu (y*↑(2^(wu a).toNat.min 64))).fdiv 4294967296)-wu (b.1.1*wu (z*↑(2^(wu a).toNat.min 64))))-wu (wu ((wu (wu (wu (wu ↑((word .u64 (wu (x*↑(2^(wu a).toNat.min 64)))).lor (word .u64 (y.fdiv ↑(2^(wu (64-wu a)).toNat.min 64))))*4294967296)+(wu (y*↑(2^(wu a).toNat.min 64))).fdiv 4294967296)-wu (b.1.1*wu (z*↑(2^(wu a).toNat.min 64))))).tdiv ((wu (z*↑(2^(wu a).toNat.min 64))).fdiv 4294967296))*(wu (z*↑(2^(wu a).toNat.min 64))).fdiv 4294967296)),wu ((wu (wu (wu (wu ↑((word .u64 (wu (x*↑(2^(wu a).toNat.min 64)))).lor (word .u64 (y.fdiv ↑(2^(wu (64-wu a)).toNat.min 64))))*4294967296)+(wu (y*↑(2^(wu a).toNat.min 64))).fdiv 4294967296)-wu (b.1.1*wu (z*↑(2^(wu a).toNat.min 64))))).tdiv ((wu (z*↑(2^(wu a).toNat.min 64))).fdiv 4294967296)),A),A,A)) (aEp x y z a b))
def aEr(x y z:Int)(b:Dz):iD:=bif af x 0 then jw z (jw z (I (wu (y.tdiv z),y.tmod z,A)))else Z (aEm z) λa=>jw ((wu (z*↑(2^(wu a).toNat.min 64))).fdiv 4294967296) (bb (ar (aEn y z a) ((wu ((wu ↑((word .u64 (wu (x*↑(2^(wu a).toNat.min 64)))).lor (word .u64 (y.fdiv ↑(2^(wu (64-wu a)).toNat.min 64))))).tdiv ((wu (z*↑(2^(wu a).toNat.min 64))).fdiv 4294967296)),wu (wu ↑((word .u64 (wu (x*↑(2^(wu a).toNat.min 64)))).lor (word .u64 (y.fdiv ↑(2^(wu (64-wu a)).toNat.min 64))))-wu (wu ((wu ↑((word .u64 (wu (x*↑(2^(wu a).toNat.min 64)))).lor (word .u64 (y.fdiv ↑(2^(wu (64-wu a)).toNat.min 64))))).tdiv ((wu (z*↑(2^(wu a).toNat.min 64))).fdiv 4294967296))*(wu (z*↑(2^(wu a).toNat.min 64))).fdiv 4294967296)),A),A,A)) (aEq x y z a))
def aEs(x y z:Int)(a:Dz):iD:=bb (bif ad z x then U else aq (A,A,A)) (aEr x y z)
def aEt(x y z:Int):iD:=bb (jw z (aq (A,A,A))) (aEs x y z)
def aEu(x:Int×aF):Ii:=bif ad x.2.2.1 x.1 then I (0,Y,A)else Z (aEt x.1 x.2.1 x.2.2.1) λa=>bif ad (wu (x.2.2.1-a.2.1)) a.2.1 then I (wu (a.1+1),!af (wu (a.1+1)) 0,A)else I (a.1,N,A)
def aEv(a:Ic)(b:Dz):Ii:=I (w a.1,N,A)
def aEw(x y z:Int):Ii:=bif af z 0 then I (0,Y,A)else Z (aEk x) λc=>Z (aEk y) λd=>Z (aEl c d) λb=>Z (aEk z) λe=>Z (aEu (b.1,b.2.1,e,A)) λa=>bb (Z (aQ (!a.2.1) (I (ag 9223372036854775808 a.1))) λf=>Z (aQ f (Z (aA (af a.1 9223372036854775808) (I !!cx Ty.bool (!cx Ty.bool (ag x 0) (ag y 0)) (ag z 0))) λg=>I g)) λh=>bif h then au (0,Y,A)else bif !cx Ty.bool (!cx Ty.bool (ag x 0) (ag y 0)) (ag z 0)then au (w (wu (0-a.1)),N,A)else aq (A,A,A)) (aEv a)
def aEx(x y:Int):b9:=Z (aEw x 1 y) λa=>I a.1
def aEy(x y:Int):b9:=Z (aEx (w (w x*w y)) 255) λa=>I (wr .u8 a)
def aEz(x:aEc)(c b:wg)(a:eT):Option (eT⊕wg⊕Yr):=bif ag a.1.2.1 ↑(aW (x.length-1) (yW 1 x)).length then aD (aW (x.length-1) (yW 1 x)) a.1.2.1 λd=>Z (aEj d b.1.1 c.1.1) λe=>Z (aEy a.1.1 e) λf=>aq ((f,w (a.1.2.1+1),A),A,A)else Z (aJ (bg (b.2.1.1.2.1.length+[a.1.1].length) 1) (aq ((w (b.1.1+1),A),((b.2.1.1.1,bh b.2.1.1.2.1 [a.1.1],A),A),A))) λg=>au g
def aEA(x:aEc)(b a:wg):Ys:=bif ag a.1.1 a.2.1.1.1.2.2.1 then Z x[0]? λc=>Z (aEj c a.1.1 b.1.1) λd=>aJ (ad 1 ↑x.length) (ar (aEz x b a) ((d,0,A),A,A))else au (aZ ((w (b.1.1+1),A),a.2.1,A))
def aEB(x:aEc)(a:wg):PJ:=bif ag a.1.1 a.2.1.1.1.2.2.2.1 then ar (aEA x a) ((a.2.1.1.1.1,A),a.2.1,A)else au (a.2.1.1,0,A)
def aEC(x:aEc)(a:aEb):Option (aEb⊕Ie):=bif ag a.1.1 ↑x.length then aD x a.1.1 λd=>Z (aEi a.2.1.1 d.1) λe=>aq ((w (a.1.1+1),A),(e,A),A)else Z (Z (BZ a.2.1.1) λb=>ar (aEB x) ((b.2.1,A),((b,[],A),A),A)) λc=>au c
def aED(x:aEc):tU:=Z (aEh x) λa=>bif !a then I (((0,0,0,0,A),[],A),14,A)else bif af (↑x.length) 0 then I (((0,0,0,0,A),[],A),0,A)else Z x[0]? λb=>ar (aEC x) ((0,A),(b.1,A),A)
def aEE(b:bc)(a:aEd):Option (aEd⊕Ie):=bif ag a.1.2.1 ↑b.length then aD b a.1.2.1 λc=>Z (wQ a.2.1.1 c) λd=>bif !d.2.1 then Z (Fs a.2.1.2.1 255) λe=>aJ (bg (a.1.1.length+[e.1].length) 56) (aq ((bh a.1.1 [e.1],w (a.1.2.1+1),A),a.2.1,A))else aD a.2.1.1.2.2.2.1 c λh=>Z (Ea d.1 h.2.2.2.2.2.1 a.2.1.2.1) λf=>aJ (bg (a.1.1.length+[f.1].length) 56) (aq ((bh a.1.1 [f.1],w (a.1.2.1+1),A),a.2.1,A))else Z (Z (aED a.1.1) λg=>I (g.1,g.2.1,A)) λi=>au i
def aEF(x:cZ)(y:Int)(z:dC):tU:=Z (I7 x y z) λa=>bif !af a 0 then I (((0,0,0,0,A),[],A),a,A)else Z (agJ x y) λb=>ar (aEE b) (([],0,A),(x,z,A),A)
def aEG(x y:dC):Ib:=Z (Mv x) λa=>Z (aQ a (Z (Mv y) λb=>I b)) λc=>bif c then I (0,0,0,0,A)else Z (BC (bif ad x.1 y.1 then y.1 else x.1,bif ad x.2.1 y.2.1 then y.2.1 else x.2.1,bif ad x.2.2.1 y.2.2.1 then x.2.2.1 else y.2.2.1,bif ad x.2.2.2.1 y.2.2.2.1 then x.2.2.2.1 else y.2.2.2.1,A)) λd=>I d
def aEH(x:v7):bp:=Z (BC x.1) λa=>Z (aA (cx tR4 a x.1) (Z (sP x.1) λb=>I (ad b 65536))) λc=>Z (aA c (Z (sP x.1) λd=>I (af (↑x.2.1.length) d))) λe=>I e
def aEI(x:dC)(y z:Int):bp:=Z (BC x) λa=>Z (aA (ad a.1 y) (I (ag y a.2.2.1))) λb=>Z (aA b (I (ad a.2.1 z))) λc=>Z (aA c (I (ag z a.2.2.2.1))) λd=>I d
def aEJ(x:dC)(y z:Int):b9:=Z (aEI x y z) λa=>bif !a then I (-1)else I (w (w (w (w (z-x.2.1)*w (x.2.2.1-x.1))+y)-x.1))
def aEK(x y:Int):b9:=I (wr .u8 (w ((w (w (w (2*w x)*w y)+255)).tdiv 510)))
def Nu(x:cZ)(y:Int):bp:=Z (aA (ad 0 y) (I (ag y ↑x.2.2.2.1.length))) λa=>I a
def Ns(x:dC):bp:=Z (fD (w (256*x.1),w (256*x.2.1),A)) λa=>Z (aA a (Z (fD (w (256*x.2.2.1),w (256*x.2.2.2.1),A)) λb=>I b)) λc=>I c
def Nq(x:cZ)(y:Int)(z:dC):b9:=Z (BP x) λa=>bif !a then I 18 else Z (Nu x y) λb=>bif !b then I 8 else Z (xM z) λc=>Z (aQ (!c) (Z (Ns z) λd=>I !d)) λe=>bif e then I 6 else Z (sP z) λf=>bif ag 65536 f then I 5 else I 0
def BO(x:cZ)(a:pb)(b:aP):Option (aP⊕pb⊕bc):=aD x.2.2.2.1 b.1.1 λc=>bif ag a.1.2.1 c.2.2.1 then Z (Vr x.2.2.2.1 b.1.1) λd=>aq ((d,A),A,A)else Z (aJ (bg (a.1.1.length+[b.1.1].length) 8) (aq ((bh a.1.1 [b.1.1],w (a.1.2.1+1),A),A,A))) λe=>au e
def GO(x:cZ)(y:Int)(a:pb):Ir:=aD x.2.2.2.1 y λb=>bif ad a.1.2.1 b.2.2.1 then ar (BO x a) ((y,A),A,A)else au a.1.1
def GN(x:cZ)(y:Int):iY:=Z (Nk x y) λa=>bif !a then I []else ar (GO x y) (([],0,A),A,A)
def pM(x y z u:DQ):fZ:=Z (mV x y) λa=>Z (mV z u) λb=>Z (gZ a b) λc=>I c
def Mx(x y:cf):qg:=Z (pM y.1 x.1 y.2.2.1 x.2.1) λa=>Z (pM y.2.1 x.1 y.2.2.2.1 x.2.1) λb=>Z (pM y.1 x.2.2.1 y.2.2.1 x.2.2.2.1) λc=>Z (pM y.2.1 x.2.2.1 y.2.2.2.1 x.2.2.2.1) λd=>Z (pM y.1 x.2.2.2.2.1 y.2.2.1 x.2.2.2.2.2.1) λe=>Z (gZ e y.2.2.2.2.1) λf=>Z (pM y.2.1 x.2.2.2.2.1 y.2.2.2.1 x.2.2.2.2.2.1) λg=>Z (gZ g y.2.2.2.2.2.1) λh=>I (a,b,c,d,f,h,A)
def UY(x:rP)(a:Ig):Option (Ig⊕rQ):=bif ag a.1.1 ↑x.length then aD x a.1.1 λc=>Z (vd c) λd=>bif !d then au (jG,5,A)else aD x a.1.1 λe=>Z (Mx a.2.1.2.1 e) λb=>Z (vd b) λf=>bif !f then au (jG,5,A)else aq ((w (a.1.1+1),A),(a.2.1.1,b,A),A)else au (a.2.1.2.1,0,A)
def My(x:rP):Option rQ:=Z Mz λa=>ar (UY x) ((0,A),((((Y,A,A),(Y,A,A),A),((Y,A,A),(Y,A,A),A),((Y,A,A),(Y,A,A),A),((Y,A,A),(Y,A,A),A),((Y,A,A),(Y,A,A),A),((Y,A,A),(Y,A,A),A),A),a,A),A)
def GS(x:cZ)(d:bc)(a:(rP×dh)×eF):Option ((rP×dh)×eF⊕rQ):=bif ad 0 a.1.2.1 then aD d a.1.2.1 λe=>aD x.2.2.2.1 e λb=>aJ (bg (a.1.1.length+[b.2.2.2.1].length) 384) (aq ((bh a.1.1 [b.2.2.2.1],w (a.1.2.1-1),A),A,A))else Z (Z (My a.1.1) λc=>I (c.1,c.2.1,A)) λf=>au f
def Np(x:cZ)(y:Int):Option rQ:=Z (BP x) λb=>bif !b then I (jG,18,A)else Z (aQ (ag y 0) (I (ad (↑x.2.2.2.1.length) y))) λc=>bif c then I (jG,8,A)else Z (GN x y) λa=>ar (GS x a) (([],w (↑a.length-1),A),A,A)
def Mw(x:cf)(y z:DQ):Option fo:=Z (pM x.1 y x.2.2.1 z) λa=>Z (gZ a x.2.2.2.2.1) λb=>Z (pM x.2.1 y x.2.2.2.1 z) λc=>Z (gZ c x.2.2.2.2.2.1) λd=>I (b,d,A)
def Gn(x y:DZ):n6:=Z (sM y) λa=>bif af a 0 then I (dc,9,A)else Z (va x y) λb=>I (b,0,A)
def qK(x y:Int):n6:=Z (sL x) λb=>Z (sL y) λc=>Z (Gn b c) λa=>I (a.1,a.2.1,A)
def sO(x:DQ):lL:=Z (gO x) λa=>Z (BB a.1 a.2.1) λb=>I b.1
def qJ(b:DZ)(a:eT):Option (eT⊕Ic):=bif ag a.1.2.1 ↑b.2.1.length then bif ag 1 a.1.2.1 then au (0,Y,A)else aD b.2.1 a.1.2.1 λc=>aq ((wu ↑((word .u64 a.1.1).lor (word .u64 (wu (wu c*↑(2^(wu (32*wu a.1.2.1)).toNat.min 64))))),w (a.1.2.1+1),A),A,A)else Z (Z (aA b.1 (I (ad a.1.1 9223372036854775808))) λd=>bif d then I (w (wu (0-a.1.1)),N,A)else Z (aA (!b.1) (I (ag a.1.1 9223372036854775808))) λe=>bif e then I (w a.1.1,N,A)else I (0,Y,A)) λf=>au f
def sN(x:DZ):Ii:=Z (lz x.1 x.2.1) λa=>ar (qJ a) ((0,0,A),A,A)
def BE(x:cf)(y:aF):Dx:=Z (vd x) λe=>bif !e then I ((0,0,A),5,A)else Z (fD y) λf=>bif !f then I ((0,0,A),6,A)else Z (dK y.1) λk=>Z (dK y.2.1) λl=>Z (Mw x k l) λc=>Z (qK 1 2) λd=>Z (gZ c.1 d.1) λm=>Z (sO m) λn=>Z (sN n) λb=>Z (gZ c.2.1 d.1) λo=>Z (sO o) λg=>Z (sN g) λa=>Z (aQ (!b.2.1) (I !a.2.1)) λh=>Z (aQ h (Z (fD (b.1,a.1,A)) λi=>I !i)) λj=>bif j then I ((0,0,A),6,A)else I ((b.1,a.1,A),0,A)
def ME(x:hL)(y:cf)(a:zy):Option (zy⊕zk):=bif ag a.1.2.1 ↑x.length then aD x a.1.2.1 λn=>Z (Gt n) λb=>aD x a.1.2.1 λo=>Z (ve o.1) λp=>bif ag 0 p then Z (BE y b.1) λc=>bif !af c.2.1 0 then au ([],c.2.1,A)else aD x a.1.2.1 λq=>Z (ve q.1) λr=>bif ag 1 r then Z (BE y b.2.1) λd=>bif !af d.2.1 0 then au ([],d.2.1,A)else aD x a.1.2.1 λj=>Z (ve j.1) λk=>bif ag 2 k then Z (BE y b.2.2.1) λe=>bif !af e.2.1 0 then au ([],e.2.1,A)else aD x a.1.2.1 λl=>Z (ve l.1) λm=>bif ag 3 m then U else aD x a.1.2.1 λf=>aJ (bg (a.1.1.length+[(f.1,c.1,d.1,e.1,A)].length) 56) (aq ((bh a.1.1 [(f.1,c.1,d.1,e.1,A)],w (a.1.2.1+1),A),A,A))else aD x a.1.2.1 λg=>aJ (bg (a.1.1.length+[(g.1,c.1,d.1,b.2.2.1,A)].length) 56) (aq ((bh a.1.1 [(g.1,c.1,d.1,b.2.2.1,A)],w (a.1.2.1+1),A),A,A))else aD x a.1.2.1 λh=>aJ (bg (a.1.1.length+[(h.1,c.1,b.2.1,b.2.2.1,A)].length) 56) (aq ((bh a.1.1 [(h.1,c.1,b.2.1,b.2.2.1,A)],w (a.1.2.1+1),A),A,A))else aD x a.1.2.1 λi=>aJ (bg (a.1.1.length+[(i.1,b.1,b.2.1,b.2.2.1,A)].length) 56) (aq ((bh a.1.1 [(i.1,b.1,b.2.1,b.2.2.1,A)],w (a.1.2.1+1),A),A,A))else au (a.1.1,0,A)
def MD(x:hL)(y:cf):Option zk:=Z (vf x) λa=>bif !a then I ([],10,A)else ar (ME x y) (([],0,A),A,A)
def U6(x:Int):bp:=Z (aA (ad 1 x) (I (ad x 256))) λa=>I a
def afd(x:fJ)(a:aP):kt:=bif ag a.1.1 ↑x.length then aD x a.1.1 λb=>Z (fD b) λc=>bif !c then au Y else aq ((w (a.1.1+1),A),A,A)else au N
def xQ(x:fJ):bp:=ar (afd x) ((0,A),A,A)
def U2(x y z:aF):b9:=I (w (w (w (w (x.1-w (2*y.1))+z.1)*w (w (x.1-w (2*y.1))+z.1))+w (w (w (x.2.1-w (2*y.2.1))+z.2.1)*w (w (x.2.1-w (2*y.2.1))+z.2.1))))
def MM(y z:Int)(b a:aP):Dt:=bif ad a.1.1 64 then bif ad (w (z*b.1.1)) (w (w (w (w (w (w (16*a.1.1)*a.1.1)*a.1.1)*a.1.1)*y)*y))then au (a.1.1,0,A)else aq ((w (a.1.1+1),A),A,A)else au (0,11,A)
def axe(y z:Int)(a:aP):iD:=ar (MM y z a) ((1,A),A,A)
def Gu(x:fJ)(y z:Int):iD:=Z (U6 y) λc=>bif !c then I (0,2,A)else Z (xQ x) λd=>bif !d then I (0,6,A)else Z x[0]? λe=>Z x[1]? λf=>Z x[2]? λg=>Z (U2 e f g) λa=>bb (bif ag 3 ↑x.length then Z x[1]? λh=>Z x[2]? λi=>Z x[3]? λj=>Z (U2 h i j) λb=>aq ((bif ad a b then b else a,A),A,A)else aq ((a,A),A,A)) (axe y z)
def MK(x:qf)(y:Int):iD:=Z (Gu [x.1,x.2.1,x.2.2.1] y 1) λa=>I (a.1,a.2.1,A)
def Gv(x y:Int):bp:=Z (aA (ad 1 y) (I (ad y 64))) λa=>Z (aA a (I (ad 0 x))) λb=>Z (aA b (I (ad x y))) λc=>I c
def xS(x y:Int):b9:=jw (w (2*y)) (Z (aA (ag (w (w (2*x)+y)) 0) (jw (w (2*y)) (I !af ((w (w (2*x)+y)).tmod (w (2*y))) 0))) λa=>bif a then I (w (w ((w (w (2*x)+y)).tdiv (w (2*y)))-1))else I (w ((w (w (2*x)+y)).tdiv (w (2*y)))))
def MJ(x:qf)(y z:Int):iD:=Z (Gv y z) λa=>Z (aQ (!a) (Z (xQ [x.1,x.2.1,x.2.2.1]) λb=>I !b)) λc=>bif c then I (0,0,A)else Z (xS (w (w (w (w (w (z-y)*w (z-y))*x.1.1)+w (w (w (2*y)*w (z-y))*x.2.1.1))+w (w (y*y)*x.2.2.1.1))) (w (z*z))) λd=>Z (xS (w (w (w (w (w (z-y)*w (z-y))*x.1.2.1)+w (w (w (2*y)*w (z-y))*x.2.1.2.1))+w (w (y*y)*x.2.2.1.2.1))) (w (z*z))) λe=>I (d,e,A)
def axd(x:qf)(b:aF)(a:mx):Option (mx⊕tV):=bif ad a.1.2.1 b.1 then Z (MJ x a.1.2.1 b.1) λc=>aJ (bg (a.1.1.length+[c].length) 16) (aq ((bh a.1.1 [c],w (a.1.2.1+1),A),A,A))else au (a.1.1,0,A)
def U4(x:qf)(y:Int):zi:=Z (MK x y) λa=>bif !af a.2.1 0 then I ([],a.2.1,A)else ar (axd x a) (([],1,A),A,A)
def MH(x:tX)(y:Int):iD:=Z (Gu [x.1,x.2.1,x.2.2.1,x.2.2.2.1] y 9) λa=>I (a.1,a.2.1,A)
def MG(x:tX)(y z:Int):iD:=Z (Gv y z) λa=>Z (aQ (!a) (Z (xQ [x.1,x.2.1,x.2.2.1,x.2.2.2.1]) λb=>I !b)) λc=>bif c then I (0,0,A)else Z (xS (w (w (w (w (w (w (w (z-y)*w (z-y))*w (z-y))*x.1.1)+w (w (w (w (3*y)*w (z-y))*w (z-y))*x.2.1.1))+w (w (w (w (3*y)*y)*w (z-y))*x.2.2.1.1))+w (w (w (y*y)*y)*x.2.2.2.1.1))) (w (w (z*z)*z))) λd=>Z (xS (w (w (w (w (w (w (w (z-y)*w (z-y))*w (z-y))*x.1.2.1)+w (w (w (w (3*y)*w (z-y))*w (z-y))*x.2.1.2.1))+w (w (w (w (3*y)*y)*w (z-y))*x.2.2.1.2.1))+w (w (w (y*y)*y)*x.2.2.2.1.2.1))) (w (w (z*z)*z))) λe=>I (d,e,A)
def axc(x:tX)(b:aF)(a:mx):Option (mx⊕tV):=bif ad a.1.2.1 b.1 then Z (MG x a.1.2.1 b.1) λc=>aJ (bg (a.1.1.length+[c].length) 16) (aq ((bh a.1.1 [c],w (a.1.2.1+1),A),A,A))else au (a.1.1,0,A)
def U3(x:tX)(y:Int):zi:=Z (MH x y) λa=>bif !af a.2.1 0 then I ([],a.2.1,A)else ar (axc x a) (([],1,A),A,A)
def ML(x:aF)(y:cX)(z:Int):zi:=bif af y.1 3 then Z (U4 (x,y.2.1,y.2.2.1,A) z) λa=>I (a.1,a.2.1,A)else bif af y.1 4 then Z (U3 (x,y.2.1,y.2.2.1,y.2.2.2.1,A) z) λb=>I (b.1,b.2.1,A)else I ([y.2.1],0,A)
def MO(b:wh)(a:Unit×(hK×Unit)×Unit):Option (Unit×(hK×Unit)×Unit⊕Yl⊕Il):=Z (aA (ag 1 ↑a.2.1.1.1.length) (aD a.2.1.1.1 (w (↑a.2.1.1.1.length-1)) λc=>Z a.2.1.1.1[0]? λd=>I (cx fj c d))) λe=>bif e then aJ (ad 0 (w (↑a.2.1.1.1.length-1))&&ad (w (↑a.2.1.1.1.length-1)) ↑a.2.1.1.1.length) (aq (A,((aW ((w (↑a.2.1.1.1.length-1)).toNat-0) (yW 0 a.2.1.1.1),a.2.1.1.2.1,A),A),A))else au (aZ (A,(a.2.1.1,b.2.1.2.2.1,A),A))
def MP(a:wh)(b:Yl):Option Il:=au (bT (b.2.1.1,w (a.1.1+1),0,A))
def MQ(c:wh)(b:tV)(a:mx):Option (mx⊕Il):=bif ag a.1.2.1 ↑b.1.length then Z (aQ (af (↑a.1.1.length) 0) (aG a.1.1 (w (↑a.1.1.length-1)) λe=>aD b.1 a.1.2.1 λf=>I !cx fj e f)) λg=>bif g then aD b.1 a.1.2.1 λd=>aJ (bg (a.1.1.length+[d].length) 16) (aq ((bh a.1.1 [d],w (a.1.2.1+1),A),A,A))else aq ((a.1.1,w (a.1.2.1+1),A),A,A)else Z (aD b.1 (w (↑b.1.length-1)) λh=>aq ((w (c.1.1+1),A),((a.1.1,c.2.1.1.2.1,A),h,c.2.1.2.2.1,A),A)) λi=>au i
def qL(x:hL)(z:Int)(a:wh):Option Il:=Z (aA (ag a.1.1 ↑x.length) (aD x a.1.1 λd=>I !af d.1 1)) λe=>bif e then aD x a.1.1 λf=>bif af f.1 5 then bb (ar (MO a) (A,((a.2.1.1.1,N,A),A),A)) (MP a)else aD x a.1.1 λc=>Z (ML a.2.1.2.1 c z) λb=>bif !af b.2.1 0 then au (bT (([],Y,A),0,b.2.1,A))else ar (MQ a b) ((a.2.1.1.1,0,A),A,A)else au (aZ a)
def MR(a:wh):Option (hK×aF):=I (a.2.1.1,a.1.1,0,A)
def U5(x:hL)(y z:Int):Option (hK×aF):=aD x y λa=>bb (ar (qL x z) ((w (y+1),A),(([a.2.1],Y,A),a.2.1,(A,Y,A),A),A)) MR
def xR(x:hL)(y:Int)(a:(rM×aF)×eF):Option ((rM×aF)×eF⊕tY):=bif ag a.1.2.2.1 ↑x.length then Z (U5 x a.1.2.2.1 y) λb=>bif !af b.2.2.1 0 then au ([],b.2.2.1,A)else aJ (bg (a.1.1.length+[b.1].length) 32) (aq ((bh a.1.1 [b.1],w (a.1.2.1+↑b.1.1.length),b.2.1,A),A,A))else Z (bif ag 4096 a.1.2.1 then I ([],5,A)else I (a.1.1,0,A)) λc=>au c
def MI(x:hL)(y:Int):Option tY:=Z (vf x) λa=>bif !a then I ([],10,A)else Z (U6 y) λb=>bif !b then I ([],2,A)else ar (xR x y) (([],0,0,A),A,A)
def afe(x:fJ)(a:mx):PG:=bif ag a.1.2.1 ↑x.length then aD x a.1.2.1 λb=>aJ (bg (a.1.1.length+[b].length) 16) (aq ((bh a.1.1 [b],w (a.1.2.1+1),A),A,A))else au a.1.1
def Gw(x:fJ):Option fJ:=ar (afe x) (([],0,A),A,A)
def aff(x:rM)(a:zs):PK:=bif ag a.1.2.1 ↑x.length then aD x a.1.2.1 λc=>bif ad 3 ↑c.1.length then aD x a.1.2.1 λd=>Z (Gw d.1) λb=>aJ (bg (a.1.1.length+[b].length) 24) (aq ((bh a.1.1 [b],w (a.1.2.1+1),A),A,A))else aq ((a.1.1,w (a.1.2.1+1),A),A,A)else au a.1.1
def Gx(x:rM):Option cF:=ar (aff x) (([],0,A),A,A)
def M9(x:hL)(y:cf)(z:Int):Option (cF×dh):=Z (MD x y) λa=>bif !af a.2.1 0 then I ([],a.2.1,A)else Z (MI a.1 z) λb=>bif !af b.2.1 0 then I ([],b.2.1,A)else Z (Gx b.1) λc=>I (c,0,A)
def Nn(x:cZ)(y:Int):Option (cF×jR):=Z (Np x y) λa=>Z (aQ (af a.2.1 18) (I (af a.2.1 8))) λb=>Z (aQ b (aD x.2.2.2.1 y λc=>I (af (↑c.2.2.2.2.1.length) 0))) λd=>bif d then I ([],Y,A)else bif !af a.2.1 0 then I ([],N,A)else aD x.2.2.2.1 y λe=>Z (M9 e.2.2.2.2.1 a.1 32) λf=>I (f.1,N,A)
def Vh(x:dC)(y:Int)(a:wg):PJ:=Z (sP x) λb=>bif ag a.1.1 b then aJ (bg (a.2.1.1.2.1.length+[y].length) 1) (aq ((w (a.1.1+1),A),((a.2.1.1.1,bh a.2.1.1.2.1 [y],A),A),A))else au (a.2.1.1,0,A)
def M7(x:dC)(y:Int):tU:=Z (xM x) λa=>bif !a then I (((0,0,0,0,A),[],A),6,A)else Z (sP x) λb=>bif ag 65536 b then I (((0,0,0,0,A),[],A),5,A)else Z (BC x) λc=>ar (Vh x y) ((0,A),((c,[],A),A),A)
def MS(x:cF)(a:eT)(c:fJ)(b:aP):Option PM:=aD x a.1.2.1 λd=>bif ag b.1.1 ↑d.length then aD x a.1.2.1 λe=>aD e b.1.1 λf=>Z (fD f) λg=>bif !g then au (bT Y)else aq ((w (b.1.1+1),A),A,A)else au (aZ ((w (a.1.1+↑c.length),w (a.1.2.1+1),A),A,A))
def Gy(x:cF)(a:eT):Im:=bif ag a.1.2.1 ↑x.length then aD x a.1.2.1 λb=>bif ag (w (4096-a.1.1)) ↑b.length then au Y else aD x a.1.2.1 λc=>ar (MS x a c) ((0,A),A,A)else au N
def xT(x:cF):bp:=ar (Gy x) ((0,0,A),A,A)
def xV(x:cF)(y:Int):b9:=Z (xT x) λa=>bif !a then I 12 else Z (aA (!af y 1) (I !af y 2)) λb=>bif b then I 2 else I 0
def M0(x y:Int):Option (aF×jR):=Z (aQ (ag x (-4096)) (I (ag 4096 x))) λa=>Z (aQ a (I (ag y (-4096)))) λb=>Z (aQ b (I (ag 4096 y))) λc=>bif c then I ((0,0,A),Y,A)else I ((w (x*256),w (y*256),A),N,A)
def afk(x:cF)(b a:Dr):Option (Dr⊕Dr⊕rO):=aD x b.1.2.1 λf=>bif ag a.1.2.1 ↑f.length then aD x b.1.2.1 λg=>aD g a.1.2.1 λc=>aD x b.1.2.1 λh=>aD x b.1.2.1 λe=>jw (↑e.length) (aD h ((w (a.1.2.1+1)).tmod ↑e.length) λd=>bif !cx fj c d then aJ (bg (a.1.1.length+[(c,d,A)].length) 32) (aq ((bh a.1.1 [(c,d,A)],w (a.1.2.1+1),A),A,A))else aq ((a.1.1,w (a.1.2.1+1),A),A,A))else au (aZ ((a.1.1,w (b.1.2.1+1),A),A,A))
def afl(x:cF)(a:Dr):Option (Dr⊕rO):=bif ag a.1.2.1 ↑x.length then ar (afk x a) ((a.1.1,0,A),A,A)else au a.1.1
def Gz(x:cF):Option rO:=Z (xT x) λa=>bif !a then I []else ar (afl x) (([],0,A),A,A)
def Mt(x y z:Int):b9:=bif ag x y then I y else bif ag z x then I z else I x
def xN(x:aF):iD:=Z (Mt x.1 (-1048576) 1048576) λa=>Z (Mt x.2.1 (-1048576) 1048576) λb=>I (a,b,A)
def BD(x y:aF):iD:=Z (xN x) λa=>Z (xN y) λb=>I (w (a.1-b.1),w (a.2.1-b.2.1),A)
def xO(x y:aF):b9:=I (w (w (x.1*y.2.1)-w (x.2.1*y.1)))
def vc(x y:aF):bp:=Z (xN x) λa=>Z (xN y) λb=>Z (aQ (ag a.2.1 b.2.1) (Z (aA (af a.2.1 b.2.1) (I (ag a.1 b.1))) λc=>I c)) λd=>I d
def afs(x:aF):qd:=Z (dK x.1) λa=>Z (dK x.2.1) λb=>I (a,b,1,A)
def afg(a c:zo):qd:=Z (vc c.2.1.1 a.2.1.1) λd=>bif d then I (dc,dc,0,A)else bif cx fj a.2.1.1 c.2.1.1 then Z (afs a.2.1.1) λb=>I (b.1,b.2.1,b.2.2.1,A)else I (dc,dc,2,A)
def afh(a b:PO)(c:zo):qd:=bb (Z (vc b.2.1.2.1 a.2.1.2.1) λd=>bif d then aq (A,b.2.1.2,A)else aq (A,a.2.1.2,A)) (afg c)
def afi(a b:PO):qd:=bb (Z (vc a.2.1.1 b.2.1.1) λc=>bif c then aq (A,(b.2.1.1,A),A)else aq (A,(a.2.1.1,A),A)) (afh a b)
def afj(z u:aF)(a:PO):qd:=bb (Z (vc u z) λb=>bif b then aq (A,(u,z,A),A)else aq (A,(z,u,A),A)) (afi a)
def MT(x y z u:aF):qd:=bb (Z (vc y x) λa=>bif a then aq (A,(y,x,A),A)else aq (A,(x,y,A),A)) (afj z u)
def U9(x c:aF)(a:(Int×aF)×eF):qd:=Z (aQ (ag a.1.2.1 0) (I (ag a.1.1 a.1.2.1))) λd=>Z (aQ d (I (ag a.1.2.2.1 0))) λe=>Z (aQ e (I (ag a.1.1 a.1.2.2.1))) λf=>bif f then I (dc,dc,0,A)else Z (qK a.1.2.1 a.1.1) λb=>Z (dK x.1) λg=>Z (dK c.1) λh=>Z (mV b.1 h) λi=>Z (gZ g i) λj=>Z (dK x.2.1) λk=>Z (dK c.2.1) λl=>Z (mV b.1 l) λm=>Z (gZ k m) λn=>I (j,n,1,A)
def MU(x y z u:aF):qd:=Z (fD x) λh=>Z (aQ (!h) (Z (fD y) λi=>I !i)) λo=>Z (aQ o (Z (fD z) λp=>I !p)) λq=>Z (aQ q (Z (fD u) λr=>I !r)) λs=>bif s then I (dc,dc,0,A)else Z (BD y x) λb=>Z (BD u z) λe=>Z (BD z x) λc=>Z (xO b e) λa=>bif af a 0 then Z (xO b c) λj=>Z (aQ (!af j 0) (Z (xO e c) λk=>I !af k 0)) λl=>bif l then I (dc,dc,0,A)else Z (aA (cx fj x y) (I (cx fj z u))) λm=>Z (aA m (I !cx fj x z)) λn=>bif n then I (dc,dc,0,A)else Z (MT x y z u) λd=>I (d.1,d.2.1,d.2.2.1,A)else Z (xO c e) λf=>Z (xO c b) λg=>bb (bif ag a 0 then aq ((w (0-a),w (0-f),w (0-g),A),A,A)else aq ((a,f,g,A),A,A)) (U9 x b)
def BJ(x y:aF)(z:Int):It:=Z (fD x) λa=>Z (aQ (!a) (Z (fD y) λb=>I !b)) λc=>Z (aQ c (I (af x.1 y.1))) λd=>Z (aQ d (I (ag z (bif ad x.1 y.1 then x.1 else y.1)))) λe=>Z (aQ e (I (ag (bif ad x.1 y.1 then y.1 else x.1) z))) λf=>bif f then I (dc,Y,A)else Z (qK (w (w (y.2.1-x.2.1)*w (z-x.1))) (w (y.1-x.1))) λg=>Z (dK x.2.1) λh=>Z (gZ h g.1) λi=>I (i,N,A)
def afm(x:cF)(b a:mw):Option (mw⊕mw⊕di):=aD x b.1.2.1 λe=>bif ag a.1.2.1 ↑e.length then aD x b.1.2.1 λf=>aD f a.1.2.1 λd=>Z (dK d.2.1) λc=>aJ (bg (a.1.1.length+[c].length) 64) (aq ((bh a.1.1 [c],w (a.1.2.1+1),A),A,A))else au (aZ ((a.1.1,w (b.1.2.1+1),A),A,A))
def U7(z:aF)(d:rO)(a:mw)(b:Dk×eF):Ds:=aD d a.1.2.1 λe=>aD d a.1.2.1 λf=>Z (BJ e.1 f.2.1 z.1) λc=>bif c.2.1 then aJ (bg (b.1.1.length+[c.1].length) 64) (aq ((bh b.1.1 [c.1],w (a.1.2.1+1),A),A,A))else aq ((b.1.1,w (a.1.2.1+1),A),A,A)
def afn(y z:aF)(b:rO)(c a:mw):Option (mw⊕mw⊕di):=bif ag a.1.2.1 c.1.2.1 then aD b c.1.2.1 λf=>aD b c.1.2.1 λg=>aD b a.1.2.1 λh=>aD b a.1.2.1 λi=>Z (MU f.1 g.2.1 h.1 i.2.1) λd=>bif af d.2.2.1 1 then aJ (bg (a.1.1.length+[d.2.1].length) 64) (aq ((bh a.1.1 [d.2.1],w (a.1.2.1+1),A),A,A))else aq ((a.1.1,w (a.1.2.1+1),A),A,A)else Z (bb (aD b c.1.2.1 λj=>aD b c.1.2.1 λk=>Z (BJ j.1 k.2.1 y.1) λe=>bif e.2.1 then aJ (bg (a.1.1.length+[e.1].length) 64) (aq ((bh a.1.1 [e.1],A),A,A))else aq ((a.1.1,A),A,A)) (U7 z b c)) λl=>au l
def afo(b:mw)(c:DQ)(a:aP):Option (aP⊕aP⊕mw⊕di):=Z (aA (ag a.1.1 ↑b.1.1.length) (aG b.1.1 a.1.1 λd=>Z (iL d c) λe=>I (ag e 0))) λf=>bif f then aq ((w (a.1.1+1),A),A,A)else au (aZ a)
def afp(a:mw)(c:DQ)(b:aP):Ds:=Z (aA (ag b.1.1 ↑a.1.1.length) (aG a.1.1 b.1.1 λd=>Z (iL d c) λe=>I (af e 0))) λf=>bif f then aq ((a.1.1,w (a.1.2.1+1),A),A,A)else aJ (ad 0 b.1.1&&ad b.1.1 ↑a.1.1.length) (aJ (bg (aW b.1.1.toNat a.1.1).length 64) (aJ (bg ((aW b.1.1.toNat a.1.1).length+[c].length) 64) (aJ (ad 0 b.1.1&&ad b.1.1 ↑a.1.1.length) (aJ (bg ((bh (aW b.1.1.toNat a.1.1) [c]).length+(aW (a.1.1.length-b.1.1.toNat) (yW b.1.1.toNat a.1.1)).length) 64) (aq ((bh (bh (aW b.1.1.toNat a.1.1) [c]) (aW (a.1.1.length-b.1.1.toNat) (yW b.1.1.toNat a.1.1)),w (a.1.2.1+1),A),A,A))))))
def U8(b a:mw):Ds:=bif ag a.1.2.1 ↑b.1.1.length then aG b.1.1 a.1.2.1 λd=>aJ (ag 0 ↑a.1.1.length) (Z a.1.1[0]? λe=>Z (iL d e) λf=>Z (aA (ag 0 f) (aG b.1.1 a.1.2.1 λg=>aG a.1.1 (w (↑a.1.1.length-1)) λh=>Z (iL g h) λi=>I (ag i 0))) λj=>bif j then aG b.1.1 a.1.2.1 λc=>bb (ar (afo a c) ((0,A),A,A)) (afp a c)else aq ((a.1.1,w (a.1.2.1+1),A),A,A))else au a.1.1
def afq(y z:aF)(b:rO)(a:mw):Ds:=bif ag a.1.2.1 ↑b.length then ar (afn y z b a) ((a.1.1,0,A),A,A)else Z (Z (dK y.2.1) λc=>Z (dK z.2.1) λd=>ar (U8 a) (([c,d],0,A),A,A)) λe=>au e
def afr(x:cF)(y z:aF)(a:mw):Ds:=bif ag a.1.2.1 ↑x.length then ar (afm x a) ((a.1.1,0,A),A,A)else Z (Z (Gz x) λb=>ar (afq y z b) ((a.1.1,0,A),A,A)) λc=>au c
def GA(x:cF)(y z:aF):Option di:=Z (xT x) λa=>Z (aQ (!a) (Z (fD y) λb=>I !b)) λc=>Z (aQ c (Z (fD z) λd=>I !d)) λe=>Z (aQ e (I (ad z.2.1 y.2.1))) λf=>bif f then I []else ar (afr x y z) (([],0,A),A,A)
def Mp(x y:DQ):fZ:=Z (gZ x y) λa=>Z (sL 2) λb=>Z (nQ a.2.1 b) λc=>Z (va a.1 c) λd=>I d
def ji(x y:DQ):bp:=Z (iL x y) λa=>I (ag a 0)
def MV(x y:aF)(z:DQ):It:=Z (fD x) λa=>Z (aQ (!a) (Z (fD y) λb=>I !b)) λi=>Z (aQ i (I (af x.2.1 y.2.1))) λj=>Z (aQ j (Z (dK (bif ad x.2.1 y.2.1 then x.2.1 else y.2.1)) λk=>Z (iL z k) λl=>I (ag l 0))) λm=>Z (aQ m (Z (dK (bif ad x.2.1 y.2.1 then y.2.1 else x.2.1)) λn=>Z (iL z n) λo=>I (ag 0 o))) λp=>bif p then I (dc,Y,A)else Z (qK (w (y.1-x.1)) (w (y.2.1-x.2.1))) λc=>Z (dK x.1) λd=>Z (dK x.2.1) λe=>Z (vb z e) λf=>Z (mV c.1 f) λg=>Z (gZ d g) λh=>I (h,N,A)
def MW(x:DQ)(y:Int)(z:DQ)(u:Int):bp:=Z (iL x z) λa=>Z (aQ (ag a 0) (Z (aA (af a 0) (I (ag u y))) λb=>I b)) λc=>I c
def aft(d:zr)(a:dh×Unit×zB):Option (dh×Unit×zB⊕zr⊕zB):=Z (aA (ag 0 a.1.1) (aG a.2.2.1 a.1.1 λe=>aG a.2.2.2.1 a.1.1 λf=>aG a.2.2.1 (w (a.1.1-1)) λg=>aG a.2.2.2.1 (w (a.1.1-1)) λh=>Z (MW e f g h) λi=>I i)) λj=>bif j then aG a.2.2.1 a.1.1 λk=>aG a.2.2.2.1 a.1.1 λl=>aG a.2.2.1 (w (a.1.1-1)) λb=>aG a.2.2.1 a.1.1 λm=>aG (a.2.2.1.set a.1.1.toNat b) (w (a.1.1-1)) λn=>aG a.2.2.2.1 (w (a.1.1-1)) λc=>aG a.2.2.2.1 a.1.1 λo=>aG (a.2.2.2.1.set a.1.1.toNat c) (w (a.1.1-1)) λp=>aq ((w (a.1.1-1),A),A,(a.2.2.1.set a.1.1.toNat b).set (w (a.1.1-1)).toNat k,(a.2.2.2.1.set a.1.1.toNat c).set (w (a.1.1-1)).toNat l,A)else au (aZ ((a.2.2.1,a.2.2.2.1,w (d.1.2.2.1+1),A),A,A))
def Va(y:DQ)(a:zr)(d e:rJ)(b:aP):PH:=bif af b.1.1 0 then aq ((a.1.1,a.1.2.1,w (a.1.2.2.1+1),A),A,A)else Z (MV d.1 e.2.1 y) λc=>aJ (bg (a.1.1.length+[c.1].length) 64) (aJ (bg (a.1.2.1.length+[b.1.1].length) 8) (ar (aft a) ((w (↑(bh a.1.1 [c.1]).length-1),A),A,bh a.1.1 [c.1],bh a.1.2.1 [b.1.1],A)))
def Vb(y:DQ)(b:zr)(f g:rJ)(h i:DQ)(a:aP):PH:=bb (Z (ji i y) λc=>Z (aA c (Z (ji y h) λd=>I d)) λe=>bif e then aq ((-1,A),A,A)else aq a) (Va y b f g)
def afu(y:DQ)(b:rO)(a:zr):PH:=bif ag a.1.2.2.1 ↑b.length then aD b a.1.2.2.1 λc=>aD b a.1.2.2.1 λd=>Z (dK c.1.2.1) λe=>Z (dK d.2.1.2.1) λf=>bb (Z (ji e y) λg=>Z (aA g (Z (ji y f) λh=>I h)) λi=>bif i then aq ((1,A),A,A)else aq ((0,A),A,A)) (Vb y a c d e f)else au (a.1.1,a.1.2.1,A)
def GB(x:cF)(y:DQ):Option zB:=Z (xT x) λa=>bif !a then I ([],[],A)else Z (Gz x) λb=>ar (afu y b) (([],[],0,A),A,A)
def BH(x y:Int):bp:=Z (aA (af y 1) (I !af x 0)) λa=>Z (aQ a (Z (aA (af y 2) (I !af (x.tmod 2) 0)) λb=>I b)) λc=>I c
def afy(c:wo)(a:dh×Unit×iX×Unit):Option (dh×Unit×iX×Unit⊕wo⊕iX):=Z (aA (ag 0 a.1.1) (aG a.2.2.1 a.1.1 λh=>aG a.2.2.1 (w (a.1.1-1)) λd=>Z (ji h.1 d.1) λe=>I e)) λf=>bif f then aG a.2.2.1 a.1.1 λg=>aG a.2.2.1 (w (a.1.1-1)) λb=>aG a.2.2.1 a.1.1 λi=>aG (a.2.2.1.set a.1.1.toNat b) (w (a.1.1-1)) λj=>aq ((w (a.1.1-1),A),A,(a.2.2.1.set a.1.1.toNat b).set (w (a.1.1-1)).toNat g,A)else au (aZ ((a.2.2.1,w (c.1.2.1+1),A),A,A))
def afz(x:iX)(a:wo):Ip:=bif ag a.1.2.1 ↑x.length then aD x a.1.2.1 λd=>aD x a.1.2.1 λe=>Z (ji d.1 e.2.1) λf=>bif !f then aq ((a.1.1,w (a.1.2.1+1),A),A,A)else aD x a.1.2.1 λg=>Z (gO g.1) λb=>aD x a.1.2.1 λh=>Z (gO h.2.1) λc=>aJ (bg (a.1.1.length+[(b,c,A)].length) 128) (ar (afy a) ((w (↑(bh a.1.1 [(b,c,A)]).length-1),A),A,bh a.1.1 [(b,c,A)],A))else au a.1.1
def MY(x:iX):Di:=ar (afz x) (([],0,A),A,A)
def Vc(b:iX)(a:wo):Ip:=bif ag a.1.2.1 ↑b.length then Z (aQ (ag (w (↑a.1.1.length-1)) 0) (aG a.1.1 (w (↑a.1.1.length-1)) λf=>aD b a.1.2.1 λg=>Z (ji f.2.1 g.1) λh=>I h)) λi=>bif i then aD b a.1.2.1 λc=>aJ (bg (a.1.1.length+[c].length) 128) (aq ((bh a.1.1 [c],w (a.1.2.1+1),A),A,A))else aG a.1.1 (w (↑a.1.1.length-1)) λj=>aD b a.1.2.1 λk=>Z (ji j.2.1 k.2.1) λl=>bif l then aD b a.1.2.1 λd=>aG a.1.1 (w (↑a.1.1.length-1)) λe=>aq ((a.1.1.set (w (↑a.1.1.length-1)).toNat (e.1,d.2.1,A),w (a.1.2.1+1),A),A,A)else aq ((a.1.1,w (a.1.2.1+1),A),A,A)else au a.1.1
def xU(x:iX):Di:=Z (MY x) λa=>ar (Vc a) (([],0,A),A,A)
def BK(y:Int)(b:zB)(a:Ia):Option (Ia⊕iX):=bif ag (w (a.1.2.2.1+1)) ↑b.1.length then aD b.2.1 a.1.2.2.1 λc=>Z (BH (w (a.1.2.1+c)) y) λf=>bif f then aD b.1 a.1.2.2.1 λd=>aD b.1 (w (a.1.2.2.1+1)) λe=>aJ (bg (a.1.1.length+[(d,e,A)].length) 128) (aq ((bh a.1.1 [(d,e,A)],w (a.1.2.1+c),w (a.1.2.2.1+1),A),A,A))else aq ((a.1.1,w (a.1.2.1+c),w (a.1.2.2.1+1),A),A,A)else Z (Z (xU a.1.1) λg=>I g) λh=>au h
def MZ(x:cF)(y:Int)(z:DQ):Di:=Z (GB x z) λa=>ar (BK y a) (([],0,0,A),A,A)
def afv(a:zm)(b c:Unit×PE):Du:=Z (ji b.2.1.1 c.2.1.1) λf=>bif f then Z (vb c.2.1.1 b.2.1.1) λd=>Z (gZ a.2.1.1 d) λe=>aq ((w (a.1.1+1),A),(e,A),A)else aq ((w (a.1.1+1),A),a.2.1,A)
def afw(z:DQ)(b:zm)(a:fo)(c:Unit×PE):Du:=bb (Z (ji z a.2.1) λd=>bif d then aq (A,(z,A),A)else aq (A,a.2,A)) (afv b c)
def afx(y z:DQ)(b:iX)(a:zm):Du:=bif ag a.1.1 ↑b.length then aD b a.1.1 λc=>aD b a.1.1 λd=>bb (Z (ji c.1 y) λe=>bif e then aq (A,(y,A),A)else aq (A,(c.1,A),A)) (afw z a d)else au a.2.1.1
def MX(x:iX)(y z:DQ):fZ:=Z (dK 0) λa=>Z (xU x) λb=>ar (afx y z b) ((0,A),(a,A),A)
def Ve(x:cF)(y:Int)(z u:aF)(b:di)(a:zm):Du:=bif ag (w (a.1.1+1)) ↑b.length then aD b a.1.1 λh=>aD b (w (a.1.1+1)) λi=>Z (Mp h i) λj=>Z (MZ x y j) λk=>Z (dK z.1) λl=>Z (dK u.1) λm=>Z (MX k l m) λn=>aD b (w (a.1.1+1)) λc=>aD b a.1.1 λd=>Z (vb c d) λe=>Z (mV n e) λf=>Z (gZ a.2.1.1 f) λg=>aq ((w (a.1.1+1),A),(g,A),A)else au a.2.1.1
def Vd(x:cF)(y:Int)(z u:aF):fZ:=Z (dK 0) λa=>Z (GA x z u) λb=>ar (Ve x y z u b) ((0,A),(a,A),A)
def M1(x:cF)(y:Int)(z u:aF):n6:=Z (xV x y) λa=>bif !af a 0 then I (dc,a,A)else Z (fD z) λb=>Z (aQ (!b) (Z (fD u) λc=>I !c)) λd=>bif d then I (dc,6,A)else Z (aQ (ad u.1 z.1) (I (ad u.2.1 z.2.1))) λe=>bif e then Z (dK 0) λf=>I (f,0,A)else Z (Vd x y z u) λg=>I (g,0,A)
def UT(x y:DQ):n6:=Z (gO x) λa=>Z (gO y) λb=>Z (nQ a.1 b.2.1) λd=>Z (nQ a.2.1 b.1) λe=>Z (Gn d e) λc=>I (c.1,c.2.1,A)
def Vf(x:DQ):fZ:=Z (dK 65536) λa=>Z (UT x a) λb=>I b.1
def Vg(x:cF)(y z u:Int):n6:=Z (xV x y) λb=>bif !af b 0 then I (dc,b,A)else Z (M0 z u) λa=>Z (aQ (!a.2.1) (I (af z 4096))) λd=>Z (aQ d (I (af u 4096))) λe=>bif e then I (dc,6,A)else Z (M1 x y a.1 (w (a.1.1+256),w (a.1.2.1+256),A)) λc=>Z (Vf c.1) λf=>I (f,c.2.1,A)
def M4(x:DQ):b9:=Z (dK 0) λa=>Z (iL x a) λb=>bif ag b 0 then I 0 else Z (dK 1) λc=>Z (iL x c) λd=>bif ag 0 d then I 255 else Z (qK 1 2) λe=>Z (dK 255) λf=>Z (mV f x) λg=>Z (gZ g e.1) λh=>Z (sO h) λi=>Z (sN i) λj=>I (wr .u8 j.1)
def BL(x:cF)(y z u:Int):b9:=Z (Vg x y z u) λa=>bif !af a.2.1 0 then I 0 else Z (M4 a.1) λb=>I b
def M6(x:cF)(y:Int)(b a:wg):Ys:=bif ag a.1.1 a.2.1.1.1.2.2.1 then Z (BL x y a.1.1 b.1.1) λc=>aJ (bg (a.2.1.1.2.1.length+[c].length) 1) (aq ((w (a.1.1+1),A),((a.2.1.1.1,bh a.2.1.1.2.1 [c],A),A),A))else au (aZ ((w (b.1.1+1),A),a.2.1,A))
def axf(x:cF)(y:Int)(a:wg):PJ:=bif ag a.1.1 a.2.1.1.1.2.2.2.1 then ar (M6 x y a) ((a.2.1.1.1.1,A),a.2.1,A)else au (a.2.1.1,0,A)
def M5(x:cF)(y:Int)(z:dC):tU:=Z (xT x) λb=>bif !b then I (((0,0,0,0,A),[],A),12,A)else Z (aA (!af y 1) (I !af y 2)) λc=>bif c then I (((0,0,0,0,A),[],A),2,A)else Z (xM z) λd=>bif !d then I (((0,0,0,0,A),[],A),6,A)else Z (sP z) λe=>bif ag 65536 e then I (((0,0,0,0,A),[],A),5,A)else Z (BC z) λa=>ar (axf x y) ((a.2.1,A),((a,[],A),A),A)
def Nr(x:cZ)(y:Int)(z:dC):tU:=Z (Nn x y) λa=>bif !a.2.1 then Z (M7 z 255) λb=>I (b.1,b.2.1,A)else aD x.2.2.2.1 y λd=>Z (M5 a.1 d.2.2.2.2.2.1 z) λc=>I (c.1,c.2.1,A)
def aEL(x:aEc)(a:aP):kt:=bif ag a.1.1 ↑x.length then aD x a.1.1 λb=>Z (aEH b) λc=>bif !c then au Y else aq ((w (a.1.1+1),A),A,A)else au N
def aEM(x:aEc):bp:=ar (aEL x) ((0,A),A,A)
def aEN(x:v7)(y z:Int):b9:=Z (aEI x.1 y z) λa=>bif !a then I 0 else Z (aEJ x.1 y z) λb=>aD x.2.1 b λc=>I c
def aEO(x:aEc)(c b:wg)(a:eT):Option (eT⊕wg⊕Yr):=bif ag a.1.2.1 ↑x.length then aD x a.1.2.1 λd=>Z (aEN d b.1.1 c.1.1) λe=>Z (aEK a.1.1 e) λf=>aq ((f,w (a.1.2.1+1),A),A,A)else Z (aJ (bg (b.2.1.1.2.1.length+[a.1.1].length) 1) (aq ((w (b.1.1+1),A),((b.2.1.1.1,bh b.2.1.1.2.1 [a.1.1],A),A),A))) λg=>au g
def aEP(x:aEc)(c:aEb)(b a:wg):Ys:=bif ag a.1.1 c.2.1.1.2.2.1 then Z x[0]? λd=>Z (aEN d a.1.1 b.1.1) λe=>ar (aEO x b a) ((e,1,A),A,A)else au (aZ ((w (b.1.1+1),A),a.2.1,A))
def aEQ(x:aEc)(b:aEb)(a:wg):PJ:=bif ag a.1.1 b.2.1.1.2.2.2.1 then ar (aEP x b a) ((b.2.1.1.1,A),a.2.1,A)else au (a.2.1.1,0,A)
def aER(x:aEc)(a:aEb):Option (aEb⊕Ie):=bif ag a.1.1 ↑x.length then aD x a.1.1 λc=>Z (aEG a.2.1.1 c.1) λd=>aq ((w (a.1.1+1),A),(d,A),A)else Z (ar (aEQ x a) ((a.2.1.1.2.1,A),((a.2.1.1,[],A),A),A)) λb=>au b
def aES(x:aEc):tU:=Z (aEM x) λa=>bif !a then I (((0,0,0,0,A),[],A),14,A)else bif af (↑x.length) 0 then I (((0,0,0,0,A),[],A),0,A)else Z x[0]? λb=>ar (aER x) ((1,A),(b.1,A),A)
def aET(x:cZ)(z:dC)(c:bc)(a:(aEc×dh)×akm):Option ((aEc×dh)×akm⊕Ie):=bif ag a.1.2.1 ↑c.length then aD c a.1.2.1 λe=>Z (Nr x e z) λb=>bif !af b.2.1 0 then au (((0,0,0,0,A),[],A),b.2.1,A)else aJ (bg (a.1.1.length+[b.1].length) 56) (aq ((bh a.1.1 [b.1],w (a.1.2.1+1),A),a.2.1,A))else Z (Z (aES a.1.1) λd=>I (d.1,d.2.1,A)) λf=>au f
def aEU(x:cZ)(y:Int)(z:dC):tU:=Z (Nq x y z) λa=>bif !af a 0 then I (((0,0,0,0,A),[],A),a,A)else Z (GN x y) λb=>ar (aET x z b) (([],0,A),(((0,0,0,0,A),A,A),A),A)
def aEV(x:cZ)(y:Int)(z:dC):bp:=Z (S8 x) λc=>Z (aQ (!c) (Z (KL z) λd=>I !d)) λe=>bif e then Z JE λf=>I f else Z (aEF x y z) λa=>Z (aEU x y z) λb=>Z (GC a.1 b.1) λg=>Z (aA g (I (af a.2.1 b.2.1))) λh=>Z (aA h (Z JE λi=>I i)) λj=>I j
end
end
end Go.Proofs.YtdlceoleaifhmaaGreatDoor
end
