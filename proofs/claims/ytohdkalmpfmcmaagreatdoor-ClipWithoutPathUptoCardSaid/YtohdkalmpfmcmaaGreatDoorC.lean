/- A part of the proof. -/
import Derived.Test.YtohdkalmpfmcmaaGreatDoorB
import Derived.Test.YtohdkalmpfmcmaaGreatDoorT
set_option linter.all false
open Bool renaming false->af
noncomputable section
namespace Go.Proofs.YtohdkalmpfmcmaaGreatDoor
open Go.As
section
variable [Gh]
abbrev tu:Ty:=.int .u32
abbrev tv:Ty:=.int .u64
abbrev tb:Ty:=.int .u8
abbrev tn:Ty:=.an tu
abbrev tM:Ty:=.st 5 (.cn tQ (.cn iT .nl))
abbrev c1(a:Ty):Ty:=.cn a .nl
abbrev c2(a b:Ty):Ty:=.cn a (.cn b .nl)
abbrev vI:Pt:=.val iT
abbrev vA:Ap:=.val iT
abbrev bA(a:Ty):Ap:=.buf true a
abbrev fA(n:Nat):Ap:=.fn n [] []
def hA(l:List (Nat×Pt)):Hint:=⟨l,[],[]⟩
def hB(l:List (Nat×Pt))(r:List (Nat×Ty)):Hint:=⟨l,[],r⟩
def hC(l c:List (Nat×Pt))(r:List (Nat×Ty)):Hint:=⟨l,c,r⟩
def HS:List (Nat×Nat×Hint):=[(9,7,hC [(7,vI)] [(1000006,.agg 5 [.val eQ,.buf af tb])] []),(4,3,hI [3,12]),(4,10,hI [68]),(4,13,hI [74]),(10,4,hI [5]),(12,7,hC [(10,.buf af nf),(28,vI)] [(3,.val gy),(4,.val eQ)] []),(13,3,hI [20]),(15,6,hI [4]),(24,2,hI [5]),(25,5,hA [(5,.buf af iT),(6,vI)]),(26,7,hC [(21,vI)] [(1000004,.val eQ)] []),(37,13,hB [(10,vI)] [(1000040,tb)]),(37,17,hB [(11,vI)] [(1000040,tb)]),(41,2,hI [5]),(44,3,hC [(6,vI)] [(1000005,.agg 5 [.val eQ,.buf af tb])] []),(44,6,hC [(7,vI)] [(1000005,.agg 5 [.val eQ,.buf af tb])] []),(45,3,hA [(6,.val tb),(18,vI)]),(49,2,hI [5]),(58,8,hC [(5,vI),(35,vI)] [(1000004,.mp .i64 .bool)] []),(62,3,hI [3,8]),(70,3,hI [4]),(77,4,hI [3]),(82,6,hA [(1,vI),(6,.buf af dB)]),(87,6,hC [(3,.val .err),(4,vI)] [(1000005,.val (.st 2 (c2 iT .err)))] []),(91,6,hC [(30,vI)] [(1000006,.val aZ),(1000007,.val aZ)] []),(96,2,hI [8]),(104,4,hI [4]),(111,2,hI [3]),(115,2,hA [(5,.val tn),(6,.val tn)]),(120,3,hC [(12,vI)] [(1000002,.agg 24 [.agg 4 [.agg 2 [.val .bool,.nil],.agg 2 [.val .bool,.nil]],.agg 4 [.agg 2 [.val .bool,.nil],.agg 2 [.val .bool,.nil]],.agg 4 [.agg 2 [.val .bool,.nil],.agg 2 [.val .bool,.nil]],.agg 4 [.agg 2 [.val .bool,.nil],.agg 2 [.val .bool,.nil]],.agg 4 [.agg 2 [.val .bool,.nil],.agg 2 [.val .bool,.nil]],.agg 4 [.agg 2 [.val .bool,.nil],.agg 2 [.val .bool,.nil]]])] []),(120,9,hC [(23,vI)] [(1000002,.agg 24 [.agg 4 [.agg 2 [.val .bool,.nil],.agg 2 [.val .bool,.nil]],.agg 4 [.agg 2 [.val .bool,.nil],.agg 2 [.val .bool,.nil]],.agg 4 [.agg 2 [.val .bool,.nil],.agg 2 [.val .bool,.nil]],.agg 4 [.agg 2 [.val .bool,.nil],.agg 2 [.val .bool,.nil]],.agg 4 [.agg 2 [.val .bool,.nil],.agg 2 [.val .bool,.nil]],.agg 4 [.agg 2 [.val .bool,.nil],.agg 2 [.val .bool,.nil]]]),(1000004,.val dB)] []),(122,5,hA [(6,.buf af jB),(19,vI)]),(122,9,hA [(9,.buf af aZ),(26,vI)]),(123,7,hA [(6,.cC LS (.agg 2 [.buf af aZ,.val .bool])),(29,vI)]),(123,24,hI [13,115]),(124,3,hA [(3,.buf af (.an aZ)),(8,vI)]),(130,2,hI [8]),(131,3,hI [3,11]),(131,11,hA [(6,.buf af aZ),(27,vI)]),(134,13,hC [(16,vI)] [(1000004,.val (.an (.an aZ))),(1000005,vI),(1000011,.val tQ),(1000012,.val tQ),(1000013,.val tQ)] []),(138,4,hA [(5,.val tv),(6,vI)]),(148,3,hB [(6,vI)] [(1000005,tu)]),(148,7,hB [(7,.val tv),(8,vI)] [(1000005,tu)]),(154,3,hA [(3,.val .bool),(4,vI)]),(156,2,hI [3]),(156,6,hA [(4,.buf af tu),(5,vI)]),(157,9,hB [(12,.val tn),(13,vI)] [(1000011,tu)]),(157,13,hA [(14,.buf af tu),(15,vI)]),(168,1,hC [(9,vI)] [(1000000,.qy LS (.agg 2 [.buf af aZ,.val .bool]))] []),(171,2,hI [7]),(187,4,hC [(17,vI)] [(1000007,.val tQ)] []),(188,5,hA [(7,.buf af fF),(8,vI),(17,vI)]),(191,7,hC [(56,vI)] [(1000009,.buf af tQ)] []),(191,10,hC [(62,vI)] [(1000009,.buf af tQ)] []),(191,20,hC [(83,vI)] [(1000009,.buf af tQ)] []),(191,27,hC [(101,vI)] [(1000009,.buf af tQ)] []),(202,17,hA [(15,.val tv),(16,.val tv)]),(202,24,hA [(16,.val tv),(18,.val tv)]),(203,6,hA [(4,vI),(5,.val tu)]),(209,7,hA [(5,.buf af tu),(6,vI)]),(210,5,hA [(8,.val tv),(9,.val tn)]),(211,4,hA [(5,.buf af tu),(6,.val tv),(7,vI)]),(212,6,hA [(6,.buf af tu),(7,.val tv),(8,vI)]),(219,5,hI [4,13]),(236,3,hA [(3,.buf af fF),(12,vI)]),(236,11,hA [(6,.buf af fF),(37,vI)]),(243,8,hC [(59,vI)] [(1000008,.agg 4 [.agg 2 [.val .bool,.nil],.agg 2 [.val .bool,.nil]]),(1000009,.agg 4 [.agg 2 [.val .bool,.nil],.agg 2 [.val .bool,.nil]])] []),(249,2,hI [3]),(250,11,hA [(11,.buf af tu)]),(250,15,hB [(13,vI)] [(1000011,tu),(1000012,tu)]),(250,23,hB [(16,.val tv),(105,vI)] [(1000011,tu)]),(251,4,hB [(6,.val tv),(17,vI)] [(1000005,tu)]),(253,2,hA [(0,.val tn),(1,.val tn)]),(255,6,hB [(7,.val tv),(20,vI)] [(1000006,tu)]),(256,4,hB [(23,vI)] [(1000005,tu)]),(256,9,hB [(8,.val tv),(32,vI)] [(1000005,tu)]),(261,2,hI [3]),(263,4,hA [(5,.buf af tu),(6,.val tv),(7,vI)]),(265,4,hA [(5,.buf af tu),(6,.val tv),(7,vI)]),(266,2,hI [5]),(277,4,hI [13]),(278,4,hI [13]),(280,3,hA [(3,.val .bool),(11,vI)]),(284,2,hI [8]),(291,3,hI [8]),(295,5,hA [(5,.buf af (.an aZ)),(16,vI)]),(295,9,hA [(8,.buf af aZ),(22,vI)]),(296,1910000001,hC [(10,vI)] [(5,.buf af tQ),(8,.buf af (.st 4 (c2 aZ aZ)))] []),(296,1910000004,hC [(16,vI)] [(5,.buf af tQ),(8,.buf af (.st 4 (c2 aZ aZ)))] []),(296,2370000001,hC [(10,vI)] [(1,.buf af tM)] []),(296,2370000004,hC [(16,vI)] [(1,.buf af tM)] []),(302,4,hB [(5,vI)] [(1000000,tQ)]),(302,9,hB [(5,vI),(7,vI)] [(1000000,tQ)]),(305,7,hI [5]),(306,4,hB [(7,.val tv),(8,vI)] [(1000006,tu)]),(308,8,hB [(37,vI)] [(1000007,tu)]),(308,17,hB [(76,vI)] [(1000011,tu)]),(309,4,hA [(7,.val tv),(8,.val tv)]),(310,3,hB [(7,.val tv),(8,.val tv),(15,vI)] [(1000000,tu)]),(315,4,hI [19]),(315,10,hI [10]),(317,1,hC [(4,vI)] [(3,.buf af aZ)] []),(318,2,hI [11]),(322,2,hI [8]),(330,2,hB [(7,vI),(8,vI)] [(0,fF)]),(330,7,hB [(6,vI)] [(0,fF)]),(330,9,hB [(7,vI),(8,vI)] [(0,fF)]),(331,2,hB [(7,vI),(8,vI)] [(0,tM)]),(331,7,hB [(6,vI)] [(0,tM)]),(331,9,hB [(7,vI),(8,vI)] [(0,tM)]),(336,2,hB [(1,vI),(2,vI),(3,vI),(10,.val .bool),(11,.val .bool)] [(1000000,tQ)]),(341,4,hI [13]),(342,5,hI [3,16]),(343,1,hB [(8,vI)] [(0,fF)]),(343,4,hB [(9,vI)] [(0,fF)]),(344,3,hI [10,11]),(344,9,hB [(13,vI)] [(0,fF)]),(344,15,hI [14,15]),(344,21,hB [(17,vI)] [(0,fF)]),(344,33,hI [20,21]),(345,1,hB [(8,vI)] [(0,tM)]),(345,4,hB [(9,vI)] [(0,tM)]),(346,3,hI [10,11]),(346,9,hB [(13,vI)] [(0,tM)]),(346,15,hI [14,15]),(346,21,hB [(17,vI)] [(0,tM)]),(346,33,hI [20,21]),(347,1,hB [(8,vI)] [(0,tQ)]),(347,4,hB [(9,vI)] [(0,tQ)]),(348,4,hB [(11,vI)] [(1000000,tQ)]),(348,8,hB [(12,vI)] [(1000000,tQ)]),(349,5,hC [(11,vI)] [(1000009,.val tv)] [(1000000,tQ)]),(351,2,hB [(8,vI),(9,vI)] [(1000000,tQ)]),(352,3,hB [(9,vI),(10,vI)] [(1000000,tQ)]),(352,5,hI [9]),(352,14,hB [(11,vI)] [(1000000,tQ)]),(352,20,hB [(12,vI)] [(1000000,tQ)]),(353,3,hI [11]),(353,5,hI [12]),(353,500003,hB [(11,vI),(12,vI)] [(1000000,tQ)]),(354,3,hI [12]),(354,5,hI [13]),(354,13,hI [12]),(354,15,hI [13]),(354,500013,hB [(12,vI),(13,vI)] [(1000000,tQ)]),(355,4,hI [5]),(356,2,hB [(10,vI),(11,vI)] [(0,fF)]),(357,2,hB [(10,vI),(11,vI)] [(0,tM)]),(358,1,hB [(10,vI)] [(1000000,tQ)]),(364,1,hB [(10,vI)] [(0,fF)]),(365,1,hB [(10,vI)] [(0,tM)]),(367,4,hI [5])]
def JS:List (Nat×Nat×Hint):=[(37,9,hC [] [(1000006,.agg 5 [.val eQ,.nil])] []),(48,13,hI []),(78,4,hA [(3,.val tv)]),(80,5,hC [] [(1000002,.val tZ),(1000003,.val tZ)] []),(87,4,hA [(3,.val .err)]),(93,4,hC [] [(1000011,.val aZ)] []),(123,5,hI []),(138,7,hA [(5,.val tv)]),(138,11,hI []),(144,6,hI []),(156,4,hI [3]),(157,16,hA [(14,.buf af tu)]),(182,3,hI []),(198,7,hA [(7,.val tn)]),(202,3,hI []),(202,5,hI []),(202,21,hA [(15,.val tv)]),(202,28,hA [(18,.val tv)]),(204,4,hA [(4,.val .bool)]),(220,7,hA [(9,.val .bool)]),(243,17,hC [] [(1000019,.val aZ)] []),(249,4,hI [3]),(250,30,hB [(15,.val tv)] [(1000011,tu)]),(283,16,hI []),(300,5,hC [] [(1000004,.val aZ)] []),(300,7,hC [] [(1000005,.val aZ)] []),(313,4,hA [(0,.val tv),(2,vI)]),(313,7,hA [(0,.val tv),(2,vI)]),(313,10,hA [(0,.val tv),(2,vI)]),(330,6,hB [(7,vI)] [(0,fF)]),(330,16,hB [] [(0,fF)]),(331,6,hB [(7,vI)] [(0,tM)]),(331,16,hB [] [(0,tM)]),(336,10,hB [(3,vI)] [(1000000,tQ)]),(336,15,hB [(13,vI),(14,vI)] [(1000000,tQ)]),(336,17,hB [] [(1000000,tQ)]),(338,4,hA [(0,.val tu),(2,vI)]),(338,7,hA [(0,.val tu),(2,vI)]),(343,2,hB [] [(0,fF)]),(344,8,hI [10]),(344,20,hI [14]),(344,32,hI [20,21]),(344,38,hI [20]),(344,41,hB [] [(0,fF)]),(344,43,hB [] [(0,fF)]),(345,2,hB [] [(0,tM)]),(346,8,hI [10]),(346,20,hI [14]),(346,32,hI [20,21]),(346,38,hI [20]),(346,41,hB [] [(0,tM)]),(346,43,hB [] [(0,tM)]),(347,2,hB [] [(0,tQ)]),(349,10,hI [12]),(350,11,hC [(12,vI),(13,vI),(14,vI)] [(1000011,vI)] [(1000000,tQ)]),(350,12,hC [(13,vI)] [(1000011,vI)] [(1000000,tQ)]),(352,7,hI [9]),(352,18,hB [] [(1000000,tQ)]),(353,5,hI [11]),(353,7,hI [12]),(354,5,hI [12]),(354,7,hI [13]),(354,15,hI [12]),(354,17,hI [13]),(354,21,hB [(13,vI)] [(1000000,tQ)]),(356,8,hB [(10,vI)] [(0,fF)]),(357,8,hB [(10,vI)] [(0,tM)]),(358,5,hI [11])]
def US:List (Nat×Nat):=[(123,1000008),(151,8),(157,1000010),(160,2),(166,3),(214,3),(268,2),(307,1000000),(325,3)]
def kE(l:List (Kn fk))(g:Nat)(a r:Ty)(f:a.den->Option r.den)(A:List (my fk):=[])(hm:fk.sm g=none:=by rfl)(h:∀x,pn (k0 fk (kT l) (kM A) (hF HS) (hF JS) (uF US)) 200 g a r x=f x:=by intro x;kernel_rfl):Kn fk:=knm HS JS US l A g a r f hm h
def kA(l:List (Kn fk))(g:Nat)(a r:Ty)(f:a.den->Option r.den)(A:List (my fk):=[])(hm:fk.sm g=none:=by rfl)(h:∀x,pn (k0 fk (kT l) (kM A) (hF HS) (hF JS) (uF US)) 200 g (c1 a) r x=f x.1:=by intro x;kernel_rfl):Kn fk:=kE l g (c1 a) r (λx=>f x.1) A hm h
def kB(l:List (Kn fk))(g:Nat)(a b r:Ty)(f:a.den->b.den->Option r.den)(A:List (my fk):=[])(hm:fk.sm g=none:=by rfl)(h:∀x,pn (k0 fk (kT l) (kM A) (hF HS) (hF JS) (uF US)) 200 g (c2 a b) r x=f x.1 x.2.1:=by intro x;kernel_rfl):Kn fk:=kE l g (c2 a b) r (λx=>f x.1 x.2.1) A hm h
def kC(l:List (Kn fk))(g:Nat)(a b c r:Ty)(f:a.den->b.den->c.den->Option r.den)(A:List (my fk):=[])(hm:fk.sm g=none:=by rfl)(h:∀x,pn (k0 fk (kT l) (kM A) (hF HS) (hF JS) (uF US)) 200 g (.cn a (c2 b c)) r x=f x.1 x.2.1 x.2.2.1:=by intro x;kernel_rfl):Kn fk:=kE l g (.cn a (c2 b c)) r (λx=>f x.1 x.2.1 x.2.2.1) A hm h
def kD(l:List (Kn fk))(g:Nat)(a b c d r:Ty)(f:a.den->b.den->c.den->d.den->Option r.den)(A:List (my fk):=[])(hm:fk.sm g=none:=by rfl)(h:∀x,pn (k0 fk (kT l) (kM A) (hF HS) (hF JS) (uF US)) 200 g (.cn a (.cn b (c2 c d))) r x=f x.1 x.2.1 x.2.2.1 x.2.2.2.1:=by intro x;kernel_rfl):Kn fk:=kE l g (.cn a (.cn b (c2 c d))) r (λx=>f x.1 x.2.1 x.2.2.1 x.2.2.2.1) A hm h
def ia(l:List (Kn fk))(A:List (my fk))(g:Nat)(ps:List Ap)(r:Ty)(f:(a9.ty ps).den->Option (r.den×(a9.ty ps).den))(h:∀x,Hg (k0 fk (kT l) (kM A) (hF HS) (hF JS) (uF US)) 200 g ps r x=f x:=by intro x;kernel_rfl):my fk:=knM HS JS US l A g ps r f h
def aoc:Kn fk:=⟨7,⟨.nl,.bool,λx=>C5⟩,λx y e=>(by cases e;cases x;kernel_rfl)⟩
def aoO:=kA [] 13 dB .bool DV
def aoP:=kA [aoO] 4 gy .bool Q7
def apY:=kA [] 38 iT .bool xC
def aa2:=kA [apY] 21 eQ .bool E2
def apX:=kA [aa2] 39 eQ .bool KQ
def aa1:=kA [apX] 22 eQ eQ E1
def aa0:=kA [aa1] 14 eQ iT xB
def aoQ:=kA [aa0] 5 eQ .bool Jj
def aaO:=kA [] 170 iT .bool Ef
def QR:=kB [] 172 .bool iT .err jW
def QP:=kA [] 338 tu iT DW
def aaz:=kA [QP] 304 tn iT bitLen
def QL:=kA [aaz] 245 tZ iT wN
def I8:=kA [] 196 tn tn sA
def aaC:=kB [] 305 tn tn iT CO
def ao6:=kB [] 306 tn tu (.aH (c2 tn tu)) one
def QJ:=kA [I8] 247 tv tn uh
def aoR:=kA [QP] 307 tu iT Jv
def QH:=kB [] 311 tn iT tv digit
def aoq:=kB [] 309 tn tn tv Ip
def QI:=kB [aaC,ao6,QJ,aoR,QH,aoq] 250 tn tn (.aH (.cn tn (c2 tn iT))) divMod
def aol:=kB [I8,QI] 253 tn tn tn gcd
def z5:=kB [I8] 246 .bool tn tZ kH
def DT:=kB [aol,QI,QL,z5] 199 tZ tZ tQ sM
def Q0:=kB [QL,DT] 192 tZ tZ (.aH (c2 tQ iT)) xG
def aaL:=kA [QJ,z5] 193 iT tZ wM
def nM:=kA [aaL] 137 iT tQ eM
def wW:=kA [Q0,nM] 197 tQ tQ jc
def QF:=kA [wW] 214 dB (.st 24 (.cn tQ (.cn tQ (.cn tQ (.cn tQ (c2 tQ tQ)))))) vW
def aov:=kA [aaz] 267 tZ iT DK
def aqB:=kA [wW,aov] 215 tQ iT sK
def I5:=kA [QF,aqB] 160 dB .bool tK
def aoX:=kB [] 256 tn tn tn JI
def I6:=kB [aoX,z5] 201 tZ tZ tZ pK
def z6:=kB [wW,I6,DT] 141 tQ tQ tQ oR
def Jd:=kB [wW,I6] 194 tQ tQ (.aH (.cn tZ (c2 tZ tZ))) uV
def aoy:=kA [z5] 293 tZ tZ IK
def aau:=kB [QH] 251 tn tn tn Cj
def aq1:=kB [aaC,QH] 255 tn tn (.aH (c2 tn .bool)) FL
def QK:=kB [aau,z5,aq1] 200 tZ tZ tZ wL
def QM:=kB [aoy,QK] 238 tZ tZ tZ zV
def Jc:=kB [Jd,QM,DT] 190 tQ tQ tQ uU
def aaw:=kA [z6,Jc] 223 dB tQ y9
def aow:=kB [QM,QL] 195 tZ tZ iT Ql
def i0:=kB [Jd,aow] 136 tQ tQ iT cX
def ao5:=kA [aaw,nM,i0] 173 dB .bool JX
def QT:=kA [] 220 iT iT pR
def aoH:=kC [] 118 iT iT iT iT IW
def aq8:=kA [aoH] 81 iT iT L0
def Jg:=kA [aq8] 53 aZ aZ rq
def su:=kA [Jg] 29 aZ .bool iS
def aps:=kA [su,QT] 268 jB .bool Kr
def apq:=kA [QT,aps] 219 (.an jB) (.aH (c2 iT iT)) Kp
def I9:=kA [apq] 163 (.an jB) .bool xp
def aqR:=kB [] 277 (.an iT) (.an iT) .bool LD
def aaP:=kB [aqR] 224 FP FP .bool Eg
def aqS:=kB [] 278 (.an u7) (.an u7) .bool LF
def aaJ:=kB [aqS] 225 Bh Bh .bool DE
def aoZ:=kA [aaP,aaJ] 174 iQ .bool JR
def QQ:=kA [] 171 (.an .err) .err Ed
def ao0:=kA [aaO,QR,I5,ao5,I9,aoZ,QQ] 127 iQ .err JT
def an2:=kA [] 175 iT .bool NP
def aq0:=kA [] 279 iT .bool T9
def aqZ:=kA [] 280 (.an iT) .bool T7
def aqY:=kA [aq0,aqZ] 226 FP .bool LN
def apo:=kA [] 324 kR kR EB
def aqT:=kB [] 341 (.an FO) (.an FO) .bool LG
def aax:=kB [QF,i0] 325 dB dB .bool tJ
def apl:=kB [aqT,aaJ,aax] 323 kR kR .bool pQ
def aop:=kA [] 342 (.an FO) .bool Ik
def aaR:=kA [] 327 iT .bool Ez
def apn:=kA [aop,aaR] 326 kR .bool EA
def aor:=kA [] 228 iT .bool IF
def an8:=kA [] 285 u7 u7 Og
def an9:=kA [an8] 231 u7 .bool Ho
def aos:=kA [an9] 230 u7 .bool Qd
def aaK:=kA [aor,aos] 177 Bh .bool DG
def apm:=kA [I5,apo,apl,aax,su,apn,aaK,aaR,aaw,i0] 283 kR .bool Ey
def ao2:=kA [apm] 282 kR .bool RF
def ao1:=kA [ao2] 227 (.an kR) .bool JU
def ao4:=kA [I9,QR,aaO,aqY,aaP,ao1,QQ] 176 iQ .err JW
def ao3:=kA [an2,QR,ao4,aaK,QQ] 128 iQ .err JV
def aoY:=kA [ao0,ao3] 87 iQ iT JQ
def aqO:=kA [aoY] 58 gy (.aH (c2 iT iT)) Lx
def Q1:=kA [aqO] 32 gy .bool A9
def aqG:=kA [] 59 iT .bool xI
def Jf:=kA [aqG] 33 eQ .bool xH
def abd:=kA [Jf] 88 eQ .bool Fq
def z7:=kA [abd] 60 eQ eQ pW
def Je:=kA [z7] 34 eQ iT uW
def aaB:=kC [Q1,Jf,Je] 19 gy iT eQ iT CL
def abi:=kB [Q1] 40 gy iT .bool FD
def abj:=kB [] 41 (.an iQ) iT iT pY
def aqP:=kB [abi,abj] 119 gy iT iT Ly
def QE:=kA [] 217 (.st 24 (.cn tQ (.cn tQ (.cn tQ (.cn tQ (c2 tQ tQ)))))) dB vV
def anS:=kD [nM,QE] 213 iT iT iT iT dB Ng
def anP:=kE [anS] 159 .nl dB (λx=>GQ)
def wV:=kB [Jd,QK,DT] 140 tQ tQ tQ lB
def aay:=kD [z6,wV] 218 tQ tQ tQ tQ tQ rR
def aav:=kC [aay,wV] 216 dB tQ tQ (.aH (c2 tQ tQ)) Cn
def anR:=kB [aav,aay,QE] 161 dB dB dB GR
def anQ:=kA [QF,QE] 162 dB dB Nf
def anO:=kA [anP,I5,anR,anQ] 120 (.an dB) (.aH (c2 dB iT)) GO
def aom:=kB [Q1,aqP,anO] 82 gy iT (.aH (c2 dB iT)) Ig
def aon:=kB [aom] 54 gy iT (.st 72 (.cn (.st 25 (c2 dB .bool)) (c1 iQ))) Ih
def apt:=kA [QT] 164 jB (.an aZ) Ks
def QZ:=kB [aaL,Q0] 135 iT iT (.aH (c2 tQ iT)) xF
def aox:=kB [z5,QI,QJ,aau,I6,QM] 198 tZ tZ (.aH (.cn tZ (c2 tZ iT))) IJ
def abc:=kA [wW,aox] 139 tQ tZ sL
def aaM:=kA [I8] 138 tZ (.aH (c2 iT .bool)) ss
def anN:=kB [I5,su,nM,aav,QZ,wV,abc,aaM] 165 dB aZ (.aH (c2 aZ iT)) GN
def apu:=kB [] 166 iT (.an aZ) jB Sk
def apr:=kB [I9,apt,anN,apu] 122 (.an jB) dB (.aH (c2 (.an jB) iT)) Kq
def aaH:=kC [] 316 aZ aZ aZ iT De
def aaG:=kC [su] 315 iT iT (.an aZ) (.aH (c2 iT iT)) Db
def aoj:=kB [aaH,aaG] 269 (.st 6 (.cn aZ (c2 aZ aZ))) iT (.aH (c2 iT iT)) H6
def aaE:=kC [su] 318 (.an aZ) iT iT .bool H7
def aaF:=kB [] 320 iT iT iT pE
def aoi:=kC [aaE,aaF] 273 (.st 6 (.cn aZ (c2 aZ aZ))) iT iT aZ uf
def aoh:=kB [aoj,aoi] 221 (.st 6 (.cn aZ (c2 aZ aZ))) iT (.aH (c2 (.an aZ) iT)) H5
def aof:=kB [aaH,aaG] 274 (.st 8 (.cn aZ (.cn aZ (c2 aZ aZ)))) iT (.aH (c2 iT iT)) H3
def aoe:=kC [aaE,aaF] 276 (.st 8 (.cn aZ (.cn aZ (c2 aZ aZ)))) iT iT aZ ue
def aod:=kB [aof,aoe] 222 (.st 8 (.cn aZ (.cn aZ (c2 aZ aZ)))) iT (.aH (c2 (.an aZ) iT)) H2
def aok:=kC [aoh,aod] 167 aZ jB iT (.aH (c2 (.an aZ) iT)) H8
def aog:=kB [I9,aok] 123 (.an jB) iT (.aH (c2 (.an LS) iT)) H4
def apx:=kA [] 124 (.an LS) (.an (.an aZ)) Sn
def ao7:=kC [apr,aog,apx] 83 (.an jB) dB iT (.aH (.cn (.an (.an aZ)) (c1 iT))) Kc
def aoo:=kB [ao7] 55 (.st 25 (c2 dB .bool)) (.an jB) (.an (.an aZ)) Pe
def aaI:=kB [aon,aoo] 30 gy iT (.aH (.cn (.an (.an aZ)) (c1 .bool))) qH
def aaN:=kB [Jf,Je,z7] 36 eQ tb (.aH (c2 nf iT)) Ah
def apB:=kA [su] 90 aZ .bool So
def DP:=kA [apB] 62 (.an (.an aZ)) .bool sC
def aqQ:=kA [] 131 (.an (.an aZ)) (.an aZ) TT
def apv:=kA [aqQ,DP] 91 (.an (.an aZ)) (.aH (.cn aZ (c2 aZ .bool))) Sl
def apz:=kA [] 92 iT iT Ku
def apy:=kA [apv,apz] 63 (.an (.an aZ)) eQ EH
def aqE:=kC [abd] 95 eQ iT iT .bool Lf
def abe:=kC [aqE] 65 eQ iT iT iT Fs
def anW:=kA [] 183 iT .bool Cr
def anV:=kB [anW] 132 iT iT aZ zc
def anX:=kB [DP] 185 (.an (.an aZ)) iT iT Ny
def aqC:=kB [Jd,QK,DT] 189 tQ tQ tQ Lc
def aq6:=kB [Jg] 333 aZ aZ aZ LZ
def aaS:=kB [DP,aq6] 295 (.an (.an aZ)) aZ (.an (.an aZ)) EI
def aoF:=kA [su] 294 aZ .bool Qr
def I7:=kA [aoF] 239 (.an aZ) .bool zX
def QO:=kB [QZ] 298 iT iT tQ zW
def QN:=kC [nM,z6,wV] 297 iT iT tQ tQ wO
def aoB:=kC [nM,I7,i0,Jc,QO,z6,QN] 288 aZ aZ tQ (.aH (c2 tQ .bool)) Qp
def an7:=kA [] 332 iT .bool Oe
def an5:=kB [an7] 292 iT iT iT Oc
def an6:=kA [] 291 (.an iT) iT Od
def abh:=kB [i0,an5,an6] 290 tM tM iT xV
def aq2:=ia [] [] 365 [bA tM,vA,vA,vA,fA 290] (.aH .nl) (λx=>avW x.1 x.2.1 x.2.2.1 x.2.2.2.1)
def aqH:=ia [] [aq2] 357 [bA tM,vA,vA,vA,fA 290] (.aH .nl) (λx=>auP x.1 x.2.1 x.2.2.1 x.2.2.2.1)
def aot:=ia [abh] [] 345 [bA tM,vA,vA,fA 290] (.aH .nl) (λx=>anB x.1 x.2.1 x.2.2.1)
def aq4:=Q4 HS JS US [abh] [aqH] 346 [bA tM,vA,vA,vA,fA 290] (.aH .nl) (λF x=>F x.1 x.2.1 x.2.2.1 x.2.2.2.1) (λ_ _ _ _=>none) (@Bg (DQ×Int×Unit) xV) (λx=>rfl) (λF x=>by kernel_rfl) 1099511627776 (@FN (DQ×Int×Unit) xV) (by kernel_rfl)
def aqW:=ia [] [aot,aq4] 331 [bA tM,vA,fA 290] (.aH .nl) (λx=>avN x.1 x.2.1)
def aqU:=ia [] [aqW] 289 [bA tM,fA 290] (.aH .nl) (λx=>afT x.1)
def aqM:=kB [aaS,nM,i0,aoB] 237 (.an (.an aZ)) tQ (.an tM) Lv [aqU]
def apw:=kB [] 56 iT iT .bool EF
def abg:=kB [i0] 287 fF fF iT xU
def aq3:=ia [] [] 364 [bA fF,vA,vA,vA,fA 287] (.aH .nl) (λx=>avX x.1 x.2.1 x.2.2.1 x.2.2.2.1)
def aqI:=ia [] [aq3] 356 [bA fF,vA,vA,vA,fA 287] (.aH .nl) (λx=>auQ x.1 x.2.1 x.2.2.1 x.2.2.2.1)
def aou:=ia [abg] [] 343 [bA fF,vA,vA,fA 287] (.aH .nl) (λx=>anC x.1 x.2.1 x.2.2.1)
def aq5:=Q4 HS JS US [abg] [aqI] 344 [bA fF,vA,vA,vA,fA 287] (.aH .nl) (λF x=>F x.1 x.2.1 x.2.2.1 x.2.2.2.1) (λ_ _ _ _=>none) (@Bg (lL) xU) (λx=>rfl) (λF x=>by kernel_rfl) 1099511627776 (@FN (lL) xU) (by kernel_rfl)
def aqX:=ia [] [aou,aq5] 330 [bA fF,vA,fA 287] (.aH .nl) (λx=>avO x.1 x.2.1)
def aqV:=ia [] [aqX] 286 [bA fF,fA 287] (.aH .nl) (λx=>afU x.1)
def abf:=kA [i0,wW] 236 (.an fF) (.an fF) FB [aqV]
def aqL:=kC [aqM,apw,abf] 188 (.an (.an aZ)) iT tQ (.an fF) Lu
def aqK:=kC [i0] 235 tQ tQ iT tQ Lt
def aqJ:=kC [nM,aqK,abf,i0,Jc,wV] 187 (.an fF) tQ tQ tQ Ls
def aoC:=kC [I7,QO,QN] 242 aZ aZ iT (.aH (c2 tQ .bool)) Qq
def aq7:=kB [Jg] 126 aZ aZ aZ Br
def aoD:=kB [] 299 aZ aZ iT wP
def abl:=kB [Jg] 335 aZ aZ .bool yc
def aoE:=kB [abl] 334 aZ aZ (.aH (c2 aZ aZ)) IQ
def aoG:=kD [aoE,abl] 300 aZ aZ aZ aZ (.aH (c2 aZ iT)) IU
def aoA:=kD [I7,aq7,aoD,QO,nM,i0,QN,aoG] 243 aZ aZ aZ aZ (.aH (.cn tQ (c2 tQ iT))) IP
def aaA:=kA [] 313 tv iT G9
def QG:=kA [QP,aaA] 337 tv iT vZ
def abk:=kA [QG] 359 iT tv LH
def apb:=ia [i0] [] 347 [bA tQ,vA,vA,fA 136] (.aH .nl) (λx=>R8 x.1 x.2.1 x.2.2.1)
def apj:=ia [i0] [] 358 [bA tQ,vA,vA,vA,fA 136] (.aH .nl) (λx=>Ev x.1 x.2.1 x.2.2.1 x.2.2.2.1)
def apa:=ia [] [apj] 348 [bA tQ,vA,vA,fA 136] (.aH .nl) (λx=>Kh x.1 x.2.1 x.2.2.1)
def ao8:=ia [abk] [] 349 [bA tQ,vA,vA,fA 136] (.aH .nl) (λx=>Ke x.1 x.2.1 x.2.2.1)
def apd:=ia [i0] [] 366 [bA tQ,vA,vA,.cell true iT,fA 136] (.aH (c2 iT iT)) (λx=>Es x.1 x.2.1 x.2.2.1 x.2.2.2.1)
def aaQ:=ia [] [apd] 362 [bA tQ,vA,vA,vA,.cell true iT,fA 136] iT (λx=>Er x.1 x.2.1 x.2.2.1 x.2.2.2.1 x.2.2.2.2.1)
def apc:=ia [] [aaQ] 361 [bA tQ,vA,.cell true iT,fA 136] iT (λx=>AH x.1 x.2.1 x.2.2.1)
def ao9:=ia [] [aaQ,apc] 350 [bA tQ,vA,vA,fA 136] (.aH (c2 iT iT)) (λx=>Kf x.1 x.2.1 x.2.2.1)
def api:=ia [] [] 351 [bA tQ,vA,vA,fA 136] (.aH .nl) (λx=>Kk x.1 x.2.1 x.2.2.1)
def apf:=ia [i0] [] 352 [bA tQ,vA,vA,fA 136] .bool (λx=>Kj x.1 x.2.1 x.2.2.1)
def ape:=ia [i0] [] 353 [bA tQ,vA,vA,vA,fA 136] iT (λx=>Ki x.1 x.2.1 x.2.2.1 x.2.2.2.1)
def aph:=ia [i0] [] 354 [bA tQ,vA,vA,vA,fA 136] (.aH (c2 iT .bool)) (λx=>Eu x.1 x.2.1 x.2.2.1 x.2.2.2.1)
def apg:=Q4 HS JS US [i0] [apb,apa,ao8,ao9,api,apf,ape,aph] 336 [bA tQ,vA,vA,vA,fA 136] (.aH .nl) (λF x=>F x.1 x.2.1 x.2.2.1 x.2.2.2.1) (λ_ _ _ _=>none) Et (λx=>rfl) (λF x=>by kernel_rfl) 1099511627776 Sd (by kernel_rfl)
def apk:=ia [QG] [apg] 301 [bA tQ,fA 136] (.aH .nl) (λx=>Kl x.1)
def aoz:=kC [DP,I7,nM,i0,aaS,aoC,aoA,QG,abk] 191 (.an (.an aZ)) aZ aZ (.an tQ) IM [apk]
def anT:=kD [anX,su,nM,aqC,aqL,aqJ,Jc,z6,wV,aoz] 134 (.an (.an aZ)) iT aZ aZ (.aH (c2 tQ iT)) GZ
def aqD:=kB [wW,I6,Q0] 184 tQ tQ (.aH (c2 tQ iT)) Ld
def anY:=kB [nM,aqD] 133 tQ iT (.aH (c2 tQ iT)) Nz
def anU:=kD [anV,su,anT,anY] 93 (.an (.an aZ)) iT iT iT (.aH (c2 tQ iT)) Nx
def aoa:=kA [QZ,nM,i0,z6,wV,abc,aaM] 94 tQ tb Ol
def aob:=kD [anU,aoa] 64 (.an (.an aZ)) iT iT iT tb Hp
def aaD:=kC [DP,Jf,Je,z7,apy,abe,aob] 37 (.an (.an aZ)) iT eQ (.aH (c2 nf iT)) zp
def an4:=kC [aaB,aaI,aaN,aaD] 8 gy iT eQ (.aH (c2 nf iT)) CK
def aa4:=kA [] 98 dB (.an tQ) AY
def qL:=kA [] 156 tn tn jx
def wT:=kB [qL] 114 .bool tn tZ mZ
def Ja:=kA [wT] 79 tZ iT uS
def aaX:=kA [wT] 78 iT tZ AV
def Jb:=kA [aaX] 51 iT tQ oP
def aaT:=kA [qL] 203 tn iT ER
def apJ:=kB [qL] 263 tn iT tn KK
def DR:=kB [] 264 tn iT tv l8
def apH:=kB [apJ,DR,qL] 209 tn iT tn sI
def apI:=kB [qL] 265 tn tv tn KJ
def aaU:=kB [DR] 266 tn tn iT ES
def aaW:=kB [aaU,DR,qL] 212 tn tn (.aH (c2 tn .bool)) xx
def apG:=kB [DR,apI,aaU,aaW] 210 tn tn (.aH (c2 tv tn)) EV
def aaV:=kB [qL,aaT,apH,apG] 157 tn tn (.aH (.cn tn (c2 tn iT))) ET
def apD:=kB [qL,aaV] 115 tn tn tn KG
def QW:=kA [wT] 116 tZ tZ xy
def apC:=kB [DR,qL] 211 tn tn tn KD
def QU:=kB [apC,wT,aaW] 158 tZ tZ tZ AU
def aaY:=kB [QW,QU] 147 tZ tZ tZ EY
def apN:=kB [Ja,aaV,wT,aaX,aaY,QU] 117 tZ tZ (.aH (.cn tZ (c2 tZ iT))) EX
def QX:=kB [apD,wT,Ja,QW,apN] 80 tZ tZ tQ AX
def wU:=kA [Ja,Jb,QX] 52 tQ tQ jy
def apK:=kA [aaT] 146 tZ iT EW
def apQ:=kA [wU,apK] 99 tQ iT KM
def aa6:=kA [aa4,apQ] 70 dB .bool E5
def apF:=kB [qL] 148 tn tn tn KI
def QV:=kB [apF,wT] 101 tZ tZ tZ qX
def apR:=kB [wU,QV,QX] 103 tQ tQ tQ EZ
def apS:=kA [wU,QW] 150 tQ tQ KN
def apP:=kB [wU,QV,QU,QX] 149 tQ tQ tQ KL
def apW:=kB [apS,apP] 102 tQ tQ tQ KP
def aa5:=kA [apR,apW] 72 dB tQ xD
def apM:=kB [aaY,Ja] 100 tZ tZ iT S3
def aaZ:=kB [wU,QV,apM] 71 tQ tQ iT xz
def ap4:=kA [] 204 iT iT KT
def ap5:=kB [] 205 (.an jB) iT .bool KU
def ap6:=kA [] 206 jB (.st 6 (.cn aZ (c2 aZ aZ))) Ta
def aa3:=kA [] 207 aZ .bool oQ
def ap7:=kB [ap4,ap5,ap6,aa3] 151 (.an jB) iT iT KV
def ap3:=kA [ap7] 104 (.an jB) (.aH (c2 iT iT)) KS
def aa7:=kA [ap3] 73 (.an jB) .bool A0
def aba:=kA [] 105 iT .bool Ff
def aqr:=kA [] 106 iQ .bool Fc
def aa9:=kA [] 107 iQ .bool A2
def aqq:=kA [] 108 iQ .bool Fb
def aqp:=kA [] 109 iQ .bool Fa
def aqs:=kA [aba,aqr,aa9,aqq,aqp] 74 iQ .bool Fe
def QY:=kC [] 153 iT iT iT .bool sJ
def aqc:=kA [QY] 152 iT .bool Tf
def aqa:=kA [QY] 154 (.an iT) .bool Td
def aqb:=kA [aqc,QY,aqa] 110 FP .bool KY
def aqj:=kA [] 258 kR .bool K2
def aqi:=kA [] 259 kR .bool E9
def ap2:=kA [wU] 340 dB dB E4
def apV:=kB [] 367 tZ tZ .bool xA
def apT:=kB [apV] 363 tQ tQ .bool KO
def apU:=kB [apT] 355 (.an tQ) (.an tQ) .bool E0
def ap0:=kB [aa4,apU] 339 dB dB .bool S8
def apZ:=kB [ap2,ap0] 314 dB dB .bool AZ
def aqm:=kA [apZ] 260 dB .bool Ti
def aqf:=kA [] 261 (.an FO) .bool E6
def aqk:=kA [] 262 iT .bool A1
def aqg:=kB [] 112 iT iT .bool Th
def aqd:=kA [] 113 u7 .bool KZ
def aa8:=kA [aqg,aqd] 77 Bh .bool E8
def aqh:=kA [aqj,aqi,aqm,aa3,aqf,aqk,aa8] 208 kR .bool K1
def aql:=kA [aa6,aqh,aa5,Jb,aaZ] 155 kR .bool K3
def aqt:=kA [aql] 111 (.an kR) .bool K6
def aqo:=kA [aa7,aba,aqb,aa9,aqt] 75 iQ iT K5
def aqe:=kA [] 76 iT .bool Tg
def aqn:=kA [aa6,aa5,Jb,aaZ,aa7,aqs,aqo,aqe,aa8] 48 iQ iT K4
def aqv:=kB [] 49 (.an iQ) iT iT Tl
def aqz:=kB [] 50 (.an iQ) iT .bool K9
def aqA:=kB [aqn,aqv,aqz] 27 (.an iQ) iT iT Fk
def aqu:=kA [aqA] 15 gy (.aH (c2 iT iT)) K7
def abb:=kA [aqu] 6 gy .bool Fj
def aqy:=kB [abb] 23 gy iT .bool K8
def aqw:=kB [] 24 (.an iQ) iT iT aex
def ap1:=kE [Jb,wU] 28 (.cn iT (.cn iT (.cn iT (.cn iT (c2 tQ tQ))))) dB (λx=>aeu x.1 x.2.1 x.2.2.1 x.2.2.2.1 x.2.2.2.2.1 x.2.2.2.2.2.1)
def axo:=kE [ap1] 16 .nl dB (λx=>at4)
def ap8:=kB [] 10 nf nf .bool uT
def aqN:=kB [abi,abj] 25 gy iT (.an iT) Lw
def aoT:=kA [Je,z7] 68 nf .bool JD
def aoV:=kA [aoT] 67 nf .bool Rn
def aoU:=kA [aoV] 42 (.an nf) .bool JE
def aqF:=kB [z7] 43 eQ eQ eQ Lg
def aoW:=kC [abe] 46 nf iT iT tb D4
def aoM:=kA [] 143 iT tv zY
def an1:=kB [] 142 tv tv (.aH (c2 tv tv)) Ha
def an0:=kA [aaA] 257 tv iT WD
def anZ:=kC [an0] 202 tv tv tv (.aH (c2 tv tv)) G8
def aoL:=kA [anZ] 145 (.st 3 (.cn tv (c2 tv tv))) (.aH (c2 tv .bool)) IY
def aoJ:=kC [aoM,an1,aoL] 97 iT iT iT (.aH (c2 iT .bool)) Qu
def aoI:=kB [aoJ] 69 iT iT iT Qt
def aoK:=kB [aoI] 47 tb tb tb IX
def aoS:=kA [aoU,aqF,aoW,aoK,z7] 26 (.an nf) (.aH (c2 nf iT)) JA
def an3:=kC [aaB,aaI,aaN,aaD,aqN,aoS] 12 gy iT eQ (.aH (c2 nf iT)) zn
def aqx:=kB [aqy,aqw] 11 gy iT iT Fi
def ap9:=kB [aa2,aa0,aa1] 9 eQ tb (.aH (c2 nf iT)) KW
def aoN:=kC [aoP,aoQ,abb,aoc,an4,ap9,ap8,aqx,an3] 3 gy iT eQ .bool Q6
end
end Go.Proofs.YtohdkalmpfmcmaaGreatDoor
end
