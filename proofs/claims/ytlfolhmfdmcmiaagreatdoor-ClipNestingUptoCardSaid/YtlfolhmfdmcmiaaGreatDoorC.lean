/- A part of the proof. -/
import Derived.Test.YtlfolhmfdmcmiaaGreatDoorB
import Derived.Test.YtlfolhmfdmcmiaaGreatDoorT
set_option linter.all false
open Bool renaming false->af
noncomputable section
namespace Go.Proofs.YtlfolhmfdmcmiaaGreatDoor
open Go.As
section
variable [Gh]
abbrev tu:Ty:=.int .u32
abbrev tv:Ty:=.int .u64
abbrev tb:Ty:=.int .u8
abbrev tn:Ty:=.an tu
abbrev tM:Ty:=.st 5 (.cn tQ (.cn iT .nl))
abbrev c1(a:Ty):Ty:=.cn a .nl
abbrev c2(a b:Ty):Ty:=.cn a (.cn b .nl)
abbrev vI:Pt:=.val iT
abbrev vA:Ap:=.val iT
abbrev bA(a:Ty):Ap:=.buf true a
abbrev fA(n:Nat):Ap:=.fn n [] []
def hA(l:List (Nat×Pt)):Hint:=⟨l,[],[]⟩
def hB(l:List (Nat×Pt))(r:List (Nat×Ty)):Hint:=⟨l,[],r⟩
def hC(l c:List (Nat×Pt))(r:List (Nat×Ty)):Hint:=⟨l,c,r⟩
def HS:List (Nat×Nat×Hint):=[(3,19,hI [19]),(3,22,hI [20]),(4,3,hI [3,12]),(4,10,hI [68]),(4,13,hI [74]),(7,7,hC [(10,.buf af lH),(28,vI)] [(3,.val gx),(4,.val dA)] []),(12,4,hI [5]),(15,3,hI [20]),(22,5,hA [(5,.buf af iT),(6,vI)]),(23,7,hC [(21,vI)] [(1000004,.val dA)] []),(26,2,hI [5]),(39,13,hB [(10,vI)] [(1000040,tb)]),(39,17,hB [(11,vI)] [(1000040,tb)]),(41,2,hI [5]),(44,3,hC [(6,vI)] [(1000005,.agg 5 [.val dA,.buf af tb])] []),(44,6,hC [(7,vI)] [(1000005,.agg 5 [.val dA,.buf af tb])] []),(45,3,hA [(6,.val tb),(18,vI)]),(57,8,hC [(5,vI),(35,vI)] [(1000004,.mp .i64 .bool)] []),(61,3,hI [3,8]),(70,6,hI [4]),(75,6,hA [(1,vI),(6,.buf af dE)]),(80,6,hC [(3,.val .err),(4,vI)] [(1000005,.val (.st 2 (c2 iT .err)))] []),(84,6,hC [(30,vI)] [(1000006,.val aZ),(1000007,.val aZ)] []),(89,2,hI [8]),(93,2,hA [(5,.val tn),(6,.val tn)]),(98,3,hC [(12,vI)] [(1000002,.agg 24 [.agg 4 [.agg 2 [.val .bool,.nil],.agg 2 [.val .bool,.nil]],.agg 4 [.agg 2 [.val .bool,.nil],.agg 2 [.val .bool,.nil]],.agg 4 [.agg 2 [.val .bool,.nil],.agg 2 [.val .bool,.nil]],.agg 4 [.agg 2 [.val .bool,.nil],.agg 2 [.val .bool,.nil]],.agg 4 [.agg 2 [.val .bool,.nil],.agg 2 [.val .bool,.nil]],.agg 4 [.agg 2 [.val .bool,.nil],.agg 2 [.val .bool,.nil]]])] []),(98,9,hC [(23,vI)] [(1000002,.agg 24 [.agg 4 [.agg 2 [.val .bool,.nil],.agg 2 [.val .bool,.nil]],.agg 4 [.agg 2 [.val .bool,.nil],.agg 2 [.val .bool,.nil]],.agg 4 [.agg 2 [.val .bool,.nil],.agg 2 [.val .bool,.nil]],.agg 4 [.agg 2 [.val .bool,.nil],.agg 2 [.val .bool,.nil]],.agg 4 [.agg 2 [.val .bool,.nil],.agg 2 [.val .bool,.nil]],.agg 4 [.agg 2 [.val .bool,.nil],.agg 2 [.val .bool,.nil]]]),(1000004,.val dE)] []),(100,5,hA [(6,.buf af jB),(19,vI)]),(100,9,hA [(9,.buf af aZ),(26,vI)]),(101,7,hA [(6,.cD L0 (.agg 2 [.buf af aZ,.val .bool])),(29,vI)]),(101,24,hI [13,115]),(102,3,hA [(3,.buf af (.an aZ)),(8,vI)]),(108,2,hI [8]),(109,3,hI [3,11]),(109,11,hA [(6,.buf af aZ),(27,vI)]),(112,13,hC [(16,vI)] [(1000004,.val (.an (.an aZ))),(1000005,vI),(1000011,.val tQ),(1000012,.val tQ),(1000013,.val tQ)] []),(116,4,hA [(5,.val tv),(6,vI)]),(125,2,hI [5]),(127,2,hI [3]),(127,6,hA [(4,.buf af tu),(5,vI)]),(128,9,hB [(12,.val tn),(13,vI)] [(1000011,tu)]),(128,13,hA [(14,.buf af tu),(15,vI)]),(140,1,hC [(9,vI)] [(1000000,.qx L0 (.agg 2 [.buf af aZ,.val .bool]))] []),(143,2,hI [7]),(159,4,hC [(17,vI)] [(1000007,.val tQ)] []),(160,5,hA [(7,.buf af fF),(8,vI),(17,vI)]),(163,7,hC [(56,vI)] [(1000009,.buf af tQ)] []),(163,10,hC [(62,vI)] [(1000009,.buf af tQ)] []),(163,20,hC [(83,vI)] [(1000009,.buf af tQ)] []),(163,27,hC [(101,vI)] [(1000009,.buf af tQ)] []),(174,17,hA [(15,.val tv),(16,.val tv)]),(174,24,hA [(16,.val tv),(18,.val tv)]),(175,3,hI [4]),(182,4,hI [3]),(183,6,hA [(4,vI),(5,.val tu)]),(184,7,hA [(5,.buf af tu),(6,vI)]),(185,5,hA [(8,.val tv),(9,.val tn)]),(186,4,hA [(5,.buf af tu),(6,.val tv),(7,vI)]),(187,6,hA [(6,.buf af tu),(7,.val tv),(8,vI)]),(194,5,hI [4,13]),(211,3,hA [(3,.buf af fF),(12,vI)]),(211,11,hA [(6,.buf af fF),(37,vI)]),(218,8,hC [(59,vI)] [(1000008,.agg 4 [.agg 2 [.val .bool,.nil],.agg 2 [.val .bool,.nil]]),(1000009,.agg 4 [.agg 2 [.val .bool,.nil],.agg 2 [.val .bool,.nil]])] []),(224,2,hI [3]),(225,11,hA [(11,.buf af tu)]),(225,15,hB [(13,vI)] [(1000011,tu),(1000012,tu)]),(225,23,hB [(16,.val tv),(105,vI)] [(1000011,tu)]),(226,4,hB [(6,.val tv),(17,vI)] [(1000005,tu)]),(228,2,hA [(0,.val tn),(1,.val tn)]),(230,6,hB [(7,.val tv),(20,vI)] [(1000006,tu)]),(231,4,hB [(23,vI)] [(1000005,tu)]),(231,9,hB [(8,.val tv),(32,vI)] [(1000005,tu)]),(239,4,hI [4]),(246,2,hI [3]),(249,4,hA [(5,.buf af tu),(6,.val tv),(7,vI)]),(251,4,hA [(5,.buf af tu),(6,.val tv),(7,vI)]),(252,2,hI [5]),(263,4,hI [13]),(264,4,hI [13]),(266,3,hA [(3,.val .bool),(11,vI)]),(270,2,hI [8]),(277,3,hI [8]),(281,5,hA [(5,.buf af (.an aZ)),(16,vI)]),(281,9,hA [(8,.buf af aZ),(22,vI)]),(282,1630000001,hC [(10,vI)] [(5,.buf af tQ),(8,.buf af (.st 4 (c2 aZ aZ)))] []),(282,1630000004,hC [(16,vI)] [(5,.buf af tQ),(8,.buf af (.st 4 (c2 aZ aZ)))] []),(282,2120000001,hC [(10,vI)] [(1,.buf af tM)] []),(282,2120000004,hC [(16,vI)] [(1,.buf af tM)] []),(288,4,hB [(5,vI)] [(1000000,tQ)]),(288,9,hB [(5,vI),(7,vI)] [(1000000,tQ)]),(291,7,hI [5]),(292,4,hB [(7,.val tv),(8,vI)] [(1000006,tu)]),(294,8,hB [(37,vI)] [(1000007,tu)]),(294,17,hB [(76,vI)] [(1000011,tu)]),(295,4,hA [(7,.val tv),(8,.val tv)]),(296,3,hB [(7,.val tv),(8,.val tv),(15,vI)] [(1000000,tu)]),(301,3,hB [(6,vI)] [(1000005,tu)]),(301,7,hB [(7,.val tv),(8,vI)] [(1000005,tu)]),(307,3,hA [(3,.val .bool),(4,vI)]),(309,4,hI [19]),(309,10,hI [10]),(311,1,hC [(4,vI)] [(3,.buf af aZ)] []),(312,2,hI [11]),(316,2,hI [8]),(324,2,hB [(7,vI),(8,vI)] [(0,fF)]),(324,7,hB [(6,vI)] [(0,fF)]),(324,9,hB [(7,vI),(8,vI)] [(0,fF)]),(325,2,hB [(7,vI),(8,vI)] [(0,tM)]),(325,7,hB [(6,vI)] [(0,tM)]),(325,9,hB [(7,vI),(8,vI)] [(0,tM)]),(330,2,hB [(1,vI),(2,vI),(3,vI),(10,.val .bool),(11,.val .bool)] [(1000000,tQ)]),(338,4,hI [13]),(339,5,hI [3,16]),(340,1,hB [(8,vI)] [(0,fF)]),(340,4,hB [(9,vI)] [(0,fF)]),(341,3,hI [10,11]),(341,9,hB [(13,vI)] [(0,fF)]),(341,15,hI [14,15]),(341,21,hB [(17,vI)] [(0,fF)]),(341,33,hI [20,21]),(342,1,hB [(8,vI)] [(0,tM)]),(342,4,hB [(9,vI)] [(0,tM)]),(343,3,hI [10,11]),(343,9,hB [(13,vI)] [(0,tM)]),(343,15,hI [14,15]),(343,21,hB [(17,vI)] [(0,tM)]),(343,33,hI [20,21]),(344,1,hB [(8,vI)] [(0,tQ)]),(344,4,hB [(9,vI)] [(0,tQ)]),(345,4,hB [(11,vI)] [(1000000,tQ)]),(345,8,hB [(12,vI)] [(1000000,tQ)]),(346,5,hC [(11,vI)] [(1000009,.val tv)] [(1000000,tQ)]),(348,2,hB [(8,vI),(9,vI)] [(1000000,tQ)]),(349,3,hB [(9,vI),(10,vI)] [(1000000,tQ)]),(349,5,hI [9]),(349,14,hB [(11,vI)] [(1000000,tQ)]),(349,20,hB [(12,vI)] [(1000000,tQ)]),(350,3,hI [11]),(350,5,hI [12]),(350,500003,hB [(11,vI),(12,vI)] [(1000000,tQ)]),(351,3,hI [12]),(351,5,hI [13]),(351,13,hI [12]),(351,15,hI [13]),(351,500013,hB [(12,vI),(13,vI)] [(1000000,tQ)]),(355,2,hI [3]),(357,2,hB [(10,vI),(11,vI)] [(0,fF)]),(358,2,hB [(10,vI),(11,vI)] [(0,tM)]),(359,1,hB [(10,vI)] [(1000000,tQ)]),(365,1,hB [(10,vI)] [(0,fF)]),(366,1,hB [(10,vI)] [(0,tM)]),(370,4,hI [5]),(372,4,hI [5])]
def JS:List (Nat×Nat×Hint):=[(3,16,hC [(17,vI)] [(1000016,.val lH)] []),(39,9,hC [] [(1000006,.agg 5 [.val dA,.nil])] []),(71,4,hA [(3,.val tv)]),(73,5,hC [] [(1000002,.val tZ),(1000003,.val tZ)] []),(80,4,hA [(3,.val .err)]),(86,4,hC [] [(1000011,.val aZ)] []),(101,5,hI []),(116,7,hA [(5,.val tv)]),(116,11,hI []),(122,6,hI []),(124,13,hI []),(127,4,hI [3]),(128,16,hA [(14,.buf af tu)]),(154,3,hI []),(170,7,hA [(7,.val tn)]),(174,3,hI []),(174,5,hI []),(174,21,hA [(15,.val tv)]),(174,28,hA [(18,.val tv)]),(195,7,hA [(9,.val .bool)]),(218,17,hC [] [(1000019,.val aZ)] []),(224,4,hI [3]),(225,30,hB [(15,.val tv)] [(1000011,tu)]),(269,16,hI []),(286,5,hC [] [(1000004,.val aZ)] []),(286,7,hC [] [(1000005,.val aZ)] []),(299,4,hA [(0,.val tv),(2,vI)]),(299,7,hA [(0,.val tv),(2,vI)]),(299,10,hA [(0,.val tv),(2,vI)]),(324,6,hB [(7,vI)] [(0,fF)]),(324,16,hB [] [(0,fF)]),(325,6,hB [(7,vI)] [(0,tM)]),(325,16,hB [] [(0,tM)]),(330,10,hB [(3,vI)] [(1000000,tQ)]),(330,15,hB [(13,vI),(14,vI)] [(1000000,tQ)]),(330,17,hB [] [(1000000,tQ)]),(332,4,hA [(0,.val tu),(2,vI)]),(332,7,hA [(0,.val tu),(2,vI)]),(333,4,hA [(4,.val .bool)]),(340,2,hB [] [(0,fF)]),(341,8,hI [10]),(341,20,hI [14]),(341,32,hI [20,21]),(341,38,hI [20]),(341,41,hB [] [(0,fF)]),(341,43,hB [] [(0,fF)]),(342,2,hB [] [(0,tM)]),(343,8,hI [10]),(343,20,hI [14]),(343,32,hI [20,21]),(343,38,hI [20]),(343,41,hB [] [(0,tM)]),(343,43,hB [] [(0,tM)]),(344,2,hB [] [(0,tQ)]),(346,10,hI [12]),(347,11,hC [(12,vI),(13,vI),(14,vI)] [(1000011,vI)] [(1000000,tQ)]),(347,12,hC [(13,vI)] [(1000011,vI)] [(1000000,tQ)]),(349,7,hI [9]),(349,18,hB [] [(1000000,tQ)]),(350,5,hI [11]),(350,7,hI [12]),(351,5,hI [12]),(351,7,hI [13]),(351,15,hI [12]),(351,17,hI [13]),(351,21,hB [(13,vI)] [(1000000,tQ)]),(357,8,hB [(10,vI)] [(0,fF)]),(358,8,hB [(10,vI)] [(0,tM)]),(359,5,hI [11])]
def US:List (Nat×Nat):=[(293,1000000),(189,3),(132,2),(254,2),(319,3),(138,3),(101,1000008),(128,1000010),(304,8)]
def kE(l:List (Kn fk))(g:Nat)(a r:Ty)(f:a.den->Option r.den)(A:List (mC fk):=[])(hm:fk.sm g=none:=by rfl)(h:∀x,pq (ld fk (kT l) (kM A) (hF HS) (hF JS) (uF US)) 200 g a r x=f x:=by intro x;kernel_rfl):Kn fk:=knm HS JS US l A g a r f hm h
def kA(l:List (Kn fk))(g:Nat)(a r:Ty)(f:a.den->Option r.den)(A:List (mC fk):=[])(hm:fk.sm g=none:=by rfl)(h:∀x,pq (ld fk (kT l) (kM A) (hF HS) (hF JS) (uF US)) 200 g (c1 a) r x=f x.1:=by intro x;kernel_rfl):Kn fk:=kE l g (c1 a) r (λx=>f x.1) A hm h
def kB(l:List (Kn fk))(g:Nat)(a b r:Ty)(f:a.den->b.den->Option r.den)(A:List (mC fk):=[])(hm:fk.sm g=none:=by rfl)(h:∀x,pq (ld fk (kT l) (kM A) (hF HS) (hF JS) (uF US)) 200 g (c2 a b) r x=f x.1 x.2.1:=by intro x;kernel_rfl):Kn fk:=kE l g (c2 a b) r (λx=>f x.1 x.2.1) A hm h
def kC(l:List (Kn fk))(g:Nat)(a b c r:Ty)(f:a.den->b.den->c.den->Option r.den)(A:List (mC fk):=[])(hm:fk.sm g=none:=by rfl)(h:∀x,pq (ld fk (kT l) (kM A) (hF HS) (hF JS) (uF US)) 200 g (.cn a (c2 b c)) r x=f x.1 x.2.1 x.2.2.1:=by intro x;kernel_rfl):Kn fk:=kE l g (.cn a (c2 b c)) r (λx=>f x.1 x.2.1 x.2.2.1) A hm h
def kD(l:List (Kn fk))(g:Nat)(a b c d r:Ty)(f:a.den->b.den->c.den->d.den->Option r.den)(A:List (mC fk):=[])(hm:fk.sm g=none:=by rfl)(h:∀x,pq (ld fk (kT l) (kM A) (hF HS) (hF JS) (uF US)) 200 g (.cn a (.cn b (c2 c d))) r x=f x.1 x.2.1 x.2.2.1 x.2.2.2.1:=by intro x;kernel_rfl):Kn fk:=kE l g (.cn a (.cn b (c2 c d))) r (λx=>f x.1 x.2.1 x.2.2.1 x.2.2.2.1) A hm h
def h8(l:List (Kn fk))(A:List (mC fk))(g:Nat)(ps:List Ap)(r:Ty)(f:(a9.ty ps).den->Option (r.den×(a9.ty ps).den))(h:∀x,Hj (ld fk (kT l) (kM A) (hF HS) (hF JS) (uF US)) 200 g ps r x=f x:=by intro x;kernel_rfl):mC fk:=knM HS JS US l A g ps r f h
def aod : Kn fk :=⟨6,⟨.nl,.bool, λx => De⟩, λx y e =>(by cases e; cases x; kernel_rfl)⟩
def aoP:=kA [] 15 dE .bool D3
def aoQ:=kA [aoP] 4 gx .bool Rm
def apZ:=kA [] 69 iT .bool xz
def ap2:=kA [apZ] 48 dA .bool KY
def aba:=kA [ap2] 24 dA .bool A0
def DY:=kA [aba] 8 dA dA sK
def aa8:=kA [DY] 16 dA iT xy
def aoR:=kA [aa8] 5 dA .bool D4
def aaW:=kA [] 142 iT .bool Em
def Q4:=kB [] 144 .bool iT .err jV
def Q1:=kA [] 332 tu iT D5
def aaH:=kA [Q1] 290 tn iT bitLen
def QX:=kA [aaH] 220 tZ iT wK
def Jd:=kA [] 168 tn tn sB
def aaK:=kB [] 291 tn tn iT CX
def ao7:=kB [] 292 tn tu (.aH (c2 tn tu)) one
def QV:=kA [Jd] 222 tv tn ue
def aoS:=kA [Q1] 293 tu iT Jz
def QT:=kB [] 297 tn iT tv digit
def aor:=kB [] 295 tn tn tv It
def QU:=kB [aaK,ao7,QV,aoS,QT,aor] 225 tn tn (.aH (.cn tn (c2 tn iT))) divMod
def aom:=kB [Jd,QU] 228 tn tn tn gcd
def z6:=kB [Jd] 221 .bool tn tZ kG
def D0:=kB [aom,QU,QX,z6] 171 tZ tZ tQ sO
def Rf:=kB [QX,D0] 164 tZ tZ (.aH (c2 tQ iT)) xD
def aaT:=kA [QV,z6] 165 iT tZ wJ
def nP:=kA [aaT] 115 iT tQ eN
def wT:=kA [Rf,nP] 169 tQ tQ jf
def QQ:=kA [wT] 189 dE (.st 24 (.cn tQ (.cn tQ (.cn tQ (.cn tQ (c2 tQ tQ)))))) vP
def aow:=kA [aaH] 253 tZ iT DP
def aqH:=kA [wT,aow] 190 tQ iT sM
def Ja:=kA [QQ,aqH] 132 dE .bool tK
def aoY:=kB [] 231 tn tn tn JN
def Jb:=kB [aoY,z6] 173 tZ tZ tZ pL
def z7:=kB [wT,Jb,D0] 119 tQ tQ tQ oT
def Ji:=kB [wT,Jb] 166 tQ tQ (.aH (.cn tZ (c2 tZ tZ))) uR
def aoz:=kA [z6] 279 tZ tZ IU
def aaC:=kB [QT] 226 tn tn tn Cr
def aq7:=kB [aaK,QT] 230 tn tn (.aH (c2 tn .bool)) FP
def QW:=kB [aaC,z6,aq7] 172 tZ tZ tZ wI
def QY:=kB [aoz,QW] 213 tZ tZ tZ zV
def Jh:=kB [Ji,QY,D0] 162 tQ tQ tQ uQ
def aaE:=kA [z7,Jh] 198 dE tQ y6
def aox:=kB [QY,QX] 167 tZ tZ iT Qw
def jb:=kB [Ji,aox] 114 tQ tQ iT cV
def ao6:=kA [aaE,nP,jb] 145 dE .bool J1
def Q6:=kA [] 195 iT iT pR
def aoI:=kC [] 96 iT iT iT iT I1
def arf:=kA [aoI] 74 iT iT L8
def Jl:=kA [arf] 52 aZ aZ rp
def su:=kA [Jl] 31 aZ .bool iX
def apt:=kA [su,Q6] 254 jB .bool Ku
def apr:=kA [Q6,apt] 194 (.an jB) (.aH (c2 iT iT)) Ks
def Je:=kA [apr] 135 (.an jB) .bool xk
def aqX:=kB [] 263 (.an iT) (.an iT) .bool LL
def aaX:=kB [aqX] 199 FV FV .bool En
def aqY:=kB [] 264 (.an u3) (.an u3) .bool LM
def aaR:=kB [aqY] 200 Bn Bn .bool DL
def ao0:=kA [aaX,aaR] 146 iW .bool JW
def Q3:=kA [] 143 (.an .err) .err Ek
def ao1:=kA [aaW,Q4,Ja,ao6,Je,ao0,Q3] 105 iW .err JX
def an3:=kA [] 147 iT .bool NX
def aq6:=kA [] 265 iT .bool Uk
def aq5:=kA [] 266 (.an iT) .bool Ui
def aq4:=kA [aq6,aq5] 201 FV .bool LV
def apq:=kA [] 318 kR kR EI
def aqZ:=kB [] 338 (.an FU) (.an FU) .bool LN
def aaF:=kB [QQ,jb] 319 dE dE .bool tJ
def apm:=kB [aqZ,aaR,aaF] 317 kR kR .bool pQ
def aoq:=kA [] 339 (.an FU) .bool Ip
def aaZ:=kA [] 321 iT .bool EG
def apo:=kA [aoq,aaZ] 320 kR .bool EH
def aos:=kA [] 203 iT .bool IL
def an9:=kA [] 271 u3 u3 Oq
def aoa:=kA [an9] 206 u3 .bool Hs
def aot:=kA [aoa] 205 u3 .bool Qo
def aaS:=kA [aos,aot] 149 Bn .bool DM
def apn:=kA [Ja,apq,apm,aaF,su,apo,aaS,aaZ,aaE,jb] 269 kR .bool EF
def ao3:=kA [apn] 268 kR .bool RQ
def ao2:=kA [ao3] 202 (.an kR) .bool JY
def ao5:=kA [Je,Q4,aaW,aq4,aaX,ao2,Q3] 148 iW .err J0
def ao4:=kA [an3,Q4,ao5,aaS,Q3] 106 iW .err JZ
def aoZ:=kA [ao1,ao4] 80 iW iT JV
def aqU:=kA [aoZ] 57 gx (.aH (c2 iT iT)) LF
def Rg:=kA [aqU] 34 gx .bool Bf
def aqM:=kA [] 58 iT .bool xG
def Jk:=kA [aqM] 35 dA .bool xF
def abk:=kA [Jk] 81 dA .bool Fv
def z8:=kA [abk] 59 dA dA pX
def Jj:=kA [z8] 36 dA iT uS
def aaJ:=kC [Rg,Jk,Jj] 20 gx iT dA iT CT
def abp:=kB [Rg] 40 gx iT .bool FH
def abq:=kB [] 41 (.an iW) iT iT pZ
def aqV:=kB [abp,abq] 97 gx iT iT LG
def QP:=kA [] 192 (.st 24 (.cn tQ (.cn tQ (.cn tQ (.cn tQ (c2 tQ tQ)))))) dE vO
def anT:=kD [nP,QP] 188 iT iT iT iT dE Nq
def anQ:=kE [anT] 131 .nl dE (λx => GV)
def wR:=kB [Ji,QW,D0] 118 tQ tQ tQ lC
def aaG:=kD [z7,wR] 193 tQ tQ tQ tQ tQ rQ
def aaD:=kC [aaG,wR] 191 dE tQ tQ (.aH (c2 tQ tQ)) Cv
def anS:=kB [aaD,aaG,QP] 133 dE dE dE GW
def anR:=kA [QQ,QP] 134 dE dE Np
def anP:=kA [anQ,Ja,anS,anR] 98 (.an dE) (.aH (c2 dE iT)) GS
def aon:=kB [Rg,aqV,anP] 75 gx iT (.aH (c2 dE iT)) Il
def aoo:=kB [aon] 53 gx iT (.st 72 (.cn (.st 25 (c2 dE .bool)) (c1 iW))) Po
def apu:=kA [Q6] 136 jB (.an aZ) Kv
def Re:=kB [aaT,Rf] 113 iT iT (.aH (c2 tQ iT)) xC
def aoy:=kB [z6,QU,QV,aaC,Jb,QY] 170 tZ tZ (.aH (.cn tZ (c2 tZ iT))) IQ
def abj:=kA [wT,aoy] 117 tQ tZ sN
def aaU:=kA [Jd] 116 tZ (.aH (c2 iT .bool)) ss
def anO:=kB [Ja,su,nP,aaD,Re,wR,abj,aaU] 137 dE aZ (.aH (c2 aZ iT)) GR
def apv:=kB [] 138 iT (.an aZ) jB Sz
def aps:=kB [Je,apu,anO,apv] 100 (.an jB) dE (.aH (c2 (.an jB) iT)) Kt
def aaP:=kC [] 310 aZ aZ aZ iT Dp
def aaO:=kC [su] 309 iT iT (.an aZ) (.aH (c2 iT iT)) Dl
def aok:=kB [aaP,aaO] 255 (.st 6 (.cn aZ (c2 aZ aZ))) iT (.aH (c2 iT iT)) Ib
def aaM:=kC [su] 312 (.an aZ) iT iT .bool Ic
def aaN:=kB [] 314 iT iT iT pF
def aoj:=kC [aaM,aaN] 259 (.st 6 (.cn aZ (c2 aZ aZ))) iT iT aZ ub
def aoi:=kB [aok,aoj] 196 (.st 6 (.cn aZ (c2 aZ aZ))) iT (.aH (c2 (.an aZ) iT)) Ia
def aog:=kB [aaP,aaO] 260 (.st 8 (.cn aZ (.cn aZ (c2 aZ aZ)))) iT (.aH (c2 iT iT)) H8
def aof:=kC [aaM,aaN] 262 (.st 8 (.cn aZ (.cn aZ (c2 aZ aZ)))) iT iT aZ ua
def aoe:=kB [aog,aof] 197 (.st 8 (.cn aZ (.cn aZ (c2 aZ aZ)))) iT (.aH (c2 (.an aZ) iT)) H7
def aol:=kC [aoi,aoe] 139 aZ jB iT (.aH (c2 (.an aZ) iT)) Ie
def aoh:=kB [Je,aol] 101 (.an jB) iT (.aH (c2 (.an L0) iT)) H9
def apy:=kA [] 102 (.an L0) (.an (.an aZ)) SB
def ao8:=kC [aps,aoh,apy] 76 (.an jB) dE iT (.aH (.cn (.an (.an aZ)) (c1 iT))) Kf
def aop:=kB [ao8] 54 (.st 25 (c2 dE .bool)) (.an jB) (.an (.an aZ)) Pp
def aaQ:=kB [aoo,aop] 32 gx iT (.aH (.cn (.an (.an aZ)) (c1 .bool))) uf
def aaV:=kB [Jk,Jj,z8] 38 dA tb (.aH (c2 lH iT)) Aj
def apC:=kA [su] 83 aZ .bool SC
def DW:=kA [apC] 61 (.an (.an aZ)) .bool sD
def aqW:=kA [] 109 (.an (.an aZ)) (.an aZ) T5
def apw:=kA [aqW,DW] 84 (.an (.an aZ)) (.aH (.cn aZ (c2 aZ .bool))) SA
def apB:=kA [] 85 iT iT Kx
def apz:=kA [apw,apB] 62 (.an (.an aZ)) dA EO
def aqK:=kC [abk] 88 dA iT iT .bool Lm
def abl:=kC [aqK] 64 dA iT iT iT Fw
def anX:=kA [] 155 iT .bool CA
def anW:=kB [anX] 110 iT iT aZ y9
def anY:=kB [DW] 157 (.an (.an aZ)) iT iT NI
def aqI:=kB [Ji,QW,D0] 161 tQ tQ tQ Lj
def arc:=kB [Jl] 327 aZ aZ aZ L7
def aa0:=kB [DW,arc] 281 (.an (.an aZ)) aZ (.an (.an aZ)) EP
def aoG:=kA [su] 280 aZ .bool QC
def Jc:=kA [aoG] 214 (.an aZ) .bool zX
def Q0:=kB [Re] 284 iT iT tQ zW
def QZ:=kC [nP,z7,wR] 283 iT iT tQ tQ wL
def aoC:=kC [nP,Jc,jb,Jh,Q0,z7,QZ] 274 aZ aZ tQ (.aH (c2 tQ .bool)) QA
def an8:=kA [] 326 iT .bool On
def an6:=kB [an8] 278 iT iT iT Ol
def an7:=kA [] 277 (.an iT) iT Om
def abo:=kB [jb,an6,an7] 276 tM tM iT xS
def aq8:=h8 [] [] 366 [bA tM,vA,vA,vA,fA 276] (.aH .nl) (λx => avZ x.1 x.2.1 x.2.2.1 x.2.2.2.1)
def aqN:=h8 [] [aq8] 358 [bA tM,vA,vA,vA,fA 276] (.aH .nl) (λx => auV x.1 x.2.1 x.2.2.1 x.2.2.2.1)
def aou:=h8 [abo] [] 342 [bA tM,vA,vA,fA 276] (.aH .nl) (λx => anD x.1 x.2.1 x.2.2.1)
def ara:=Ri HS JS US [abo] [aqN] 343 [bA tM,vA,vA,vA,fA 276] (.aH .nl) (λF x => F x.1 x.2.1 x.2.2.1 x.2.2.2.1) (λ_ _ _ _ => none) (@Bm (DQ × Int × Unit) xS) (λx => rfl) (λF x => by kernel_rfl) 1099511627776 (@FT (DQ × Int × Unit) xS) (by kernel_rfl)
def aq2:=h8 [] [aou,ara] 325 [bA tM,vA,fA 276] (.aH .nl) (λx => avQ x.1 x.2.1)
def aq0:=h8 [] [aq2] 275 [bA tM,fA 276] (.aH .nl) (λx => afX x.1)
def aqS:=kB [aa0,nP,jb,aoC] 212 (.an (.an aZ)) tQ (.an tM) LC [aq0]
def apx:=kB [] 55 iT iT .bool EM
def abn:=kB [jb] 273 fF fF iT xR
def aq9:=h8 [] [] 365 [bA fF,vA,vA,vA,fA 273] (.aH .nl) (λx => av0 x.1 x.2.1 x.2.2.1 x.2.2.2.1)
def aqO:=h8 [] [aq9] 357 [bA fF,vA,vA,vA,fA 273] (.aH .nl) (λx => auW x.1 x.2.1 x.2.2.1 x.2.2.2.1)
def aov:=h8 [abn] [] 340 [bA fF,vA,vA,fA 273] (.aH .nl) (λx => anE x.1 x.2.1 x.2.2.1)
def arb:=Ri HS JS US [abn] [aqO] 341 [bA fF,vA,vA,vA,fA 273] (.aH .nl) (λF x => F x.1 x.2.1 x.2.2.1 x.2.2.2.1) (λ_ _ _ _ => none) (@Bm (lQ) xR) (λx => rfl) (λF x => by kernel_rfl) 1099511627776 (@FT (lQ) xR) (by kernel_rfl)
def aq3:=h8 [] [aov,arb] 324 [bA fF,vA,fA 273] (.aH .nl) (λx => avR x.1 x.2.1)
def aq1:=h8 [] [aq3] 272 [bA fF,fA 273] (.aH .nl) (λx => afY x.1)
def abm:=kA [jb,wT] 211 (.an fF) (.an fF) FF [aq1]
def aqR:=kC [aqS,apx,abm] 160 (.an (.an aZ)) iT tQ (.an fF) LB
def aqQ:=kC [jb] 210 tQ tQ iT tQ LA
def aqP:=kC [nP,aqQ,abm,jb,Jh,wR] 159 (.an fF) tQ tQ tQ Lz
def aoD:=kC [Jc,Q0,QZ] 217 aZ aZ iT (.aH (c2 tQ .bool)) QB
def ard:=kB [Jl] 104 aZ aZ aZ Bx
def aoE:=kB [] 285 aZ aZ iT wM
def abt:=kB [Jl] 329 aZ aZ .bool x8
def aoF:=kB [abt] 328 aZ aZ (.aH (c2 aZ aZ)) IZ
def aoH:=kD [aoF,abt] 286 aZ aZ aZ aZ (.aH (c2 aZ iT)) I0
def aoB:=kD [Jc,ard,aoE,Q0,nP,jb,QZ,aoH] 218 aZ aZ aZ aZ (.aH (.cn tQ (c2 tQ iT))) IY
def aaI:=kA [] 299 tv iT Hc
def QR:=kA [Q1,aaI] 331 tv iT vU
def abr:=kA [QR] 360 iT tv LO
def apc:=h8 [jb] [] 344 [bA tQ,vA,vA,fA 114] (.aH .nl) (λx => Sl x.1 x.2.1 x.2.2.1)
def apk:=h8 [jb] [] 359 [bA tQ,vA,vA,vA,fA 114] (.aH .nl) (λx => ED x.1 x.2.1 x.2.2.1 x.2.2.2.1)
def apb:=h8 [] [apk] 345 [bA tQ,vA,vA,fA 114] (.aH .nl) (λx => Kk x.1 x.2.1 x.2.2.1)
def ao9:=h8 [abr] [] 346 [bA tQ,vA,vA,fA 114] (.aH .nl) (λx => Kh x.1 x.2.1 x.2.2.1)
def ape:=h8 [jb] [] 367 [bA tQ,vA,vA,.cell true iT,fA 114] (.aH (c2 iT iT)) (λx => EA x.1 x.2.1 x.2.2.1 x.2.2.2.1)
def aaY:=h8 [] [ape] 363 [bA tQ,vA,vA,vA,.cell true iT,fA 114] iT (λx => Ez x.1 x.2.1 x.2.2.1 x.2.2.2.1 x.2.2.2.2.1)
def apd:=h8 [] [aaY] 362 [bA tQ,vA,.cell true iT,fA 114] iT (λx => AK x.1 x.2.1 x.2.2.1)
def apa:=h8 [] [aaY,apd] 347 [bA tQ,vA,vA,fA 114] (.aH (c2 iT iT)) (λx => Ki x.1 x.2.1 x.2.2.1)
def apj:=h8 [] [] 348 [bA tQ,vA,vA,fA 114] (.aH .nl) (λx => Ko x.1 x.2.1 x.2.2.1)
def apg:=h8 [jb] [] 349 [bA tQ,vA,vA,fA 114] .bool (λx => Km x.1 x.2.1 x.2.2.1)
def apf:=h8 [jb] [] 350 [bA tQ,vA,vA,vA,fA 114] iT (λx => Kl x.1 x.2.1 x.2.2.1 x.2.2.2.1)
def api:=h8 [jb] [] 351 [bA tQ,vA,vA,vA,fA 114] (.aH (c2 iT .bool)) (λx => EC x.1 x.2.1 x.2.2.1 x.2.2.2.1)
def aph:=Ri HS JS US [jb] [apc,apb,ao9,apa,apj,apg,apf,api] 330 [bA tQ,vA,vA,vA,fA 114] (.aH .nl) (λF x => F x.1 x.2.1 x.2.2.1 x.2.2.2.1) (λ_ _ _ _ => none) EB (λx => rfl) (λF x => by kernel_rfl) 1099511627776 Sr (by kernel_rfl)
def apl:=h8 [QR] [aph] 287 [bA tQ,fA 114] (.aH .nl) (λx => Kp x.1)
def aoA:=kC [DW,Jc,nP,jb,aa0,aoD,aoB,QR,abr] 163 (.an (.an aZ)) aZ aZ (.an tQ) IX [apl]
def anU:=kD [anY,su,nP,aqI,aqR,aqP,Jh,z7,wR,aoA] 112 (.an (.an aZ)) iT aZ aZ (.aH (c2 tQ iT)) G3
def aqJ:=kB [wT,Jb,Rf] 156 tQ tQ (.aH (c2 tQ iT)) Lk
def anZ:=kB [nP,aqJ] 111 tQ iT (.aH (c2 tQ iT)) NJ
def anV:=kD [anW,su,anU,anZ] 86 (.an (.an aZ)) iT iT iT (.aH (c2 tQ iT)) NH
def aob:=kA [Re,nP,jb,z7,wR,abj,aaU] 87 tQ tb Ow
def aoc:=kD [anV,aob] 63 (.an (.an aZ)) iT iT iT tb Ht
def aaL:=kC [DW,Jk,Jj,z8,apz,abl,aoc] 39 (.an (.an aZ)) iT dA (.aH (c2 lH iT)) zm
def an5:=kC [aaJ,aaQ,aaV,aaL] 10 gx iT dA (.aH (c2 lH iT)) zk
def abc:=kA [] 233 dE (.an tQ) A1
def qK:=kA [] 127 tn tn jy
def wP:=kB [qK] 92 .bool tn tZ nc
def Jf:=kA [wP] 72 tZ iT uP
def aa5:=kA [wP] 71 iT tZ AY
def Jg:=kA [aa5] 50 iT tQ oR
def aa1:=kA [qK] 183 tn iT EX
def apK:=kB [qK] 249 tn iT tn KO
def DX:=kB [] 250 tn iT tv mf
def apI:=kB [apK,DX,qK] 184 tn iT tn sJ
def apJ:=kB [qK] 251 tn tv tn KN
def aa2:=kB [DX] 252 tn tn iT EY
def aa4:=kB [aa2,DX,qK] 187 tn tn (.aH (c2 tn .bool)) xt
def apH:=kB [DX,apJ,aa2,aa4] 185 tn tn (.aH (c2 tv tn)) E1
def aa3:=kB [qK,aa1,apI,apH] 128 tn tn (.aH (.cn tn (c2 tn iT))) EZ
def apF:=kB [qK,aa3] 93 tn tn tn KL
def Q9:=kA [wP] 94 tZ tZ xv
def apD:=kB [DX,qK] 186 tn tn tn KI
def Q7:=kB [apD,wP,aa4] 130 tZ tZ tZ AX
def aa6:=kB [Q9,Q7] 129 tZ tZ tZ E5
def apP:=kB [Jf,aa3,wP,aa5,aa6,Q7] 95 tZ tZ (.aH (.cn tZ (c2 tZ iT))) E4
def Ra:=kB [apF,wP,Jf,Q9,apP] 73 tZ tZ tQ AZ
def wQ:=kA [Jf,Jg,Ra] 51 tQ tQ jz
def apM:=kA [aa1] 300 tZ iT E2
def apR:=kA [wQ,apM] 234 tQ iT KQ
def abe:=kA [abc,apR] 175 dE .bool Fa
def apG:=kB [qK] 301 tn tn tn KM
def Q8:=kB [apG,wP] 236 tZ tZ tZ qW
def apS:=kB [wQ,Q8,Ra] 238 tQ tQ tQ E6
def apT:=kA [wQ,Q9] 303 tQ tQ KR
def apQ:=kB [wQ,Q8,Q7,Ra] 302 tQ tQ tQ KP
def apX:=kB [apT,apQ] 237 tQ tQ tQ KT
def abd:=kA [apS,apX] 177 dE tQ xA
def apN:=kB [aa6,Jf] 235 tZ tZ iT Tg
def aa7:=kB [wQ,Q8,apN] 176 tQ tQ iT xw
def ap8:=kA [] 333 iT iT K1
def ap9:=kB [] 334 (.an jB) iT .bool K2
def aqa:=kA [] 335 jB (.st 6 (.cn aZ (c2 aZ aZ))) To
def abb:=kA [] 336 aZ .bool oS
def aqb:=kB [ap8,ap9,aqa,abb] 304 (.an jB) iT iT K3
def ap7:=kA [aqb] 239 (.an jB) (.aH (c2 iT iT)) K0
def abf:=kA [ap7] 178 (.an jB) .bool A3
def abi:=kA [] 240 iT .bool Fl
def aqw:=kA [] 241 iW .bool Fj
def abh:=kA [] 242 iW .bool A5
def aqv:=kA [] 243 iW .bool Fi
def aqu:=kA [] 244 iW .bool Fh
def aqx:=kA [abi,aqw,abh,aqv,aqu] 179 iW .bool Fk
def Rb:=kC [] 306 iT iT iT .bool sL
def aqh:=kA [Rb] 305 iT .bool Tr
def aqf:=kA [Rb] 307 (.an iT) .bool Tp
def aqg:=kA [aqh,Rb,aqf] 245 FV .bool K5
def aqo:=kA [] 352 kR .bool K9
def aqn:=kA [] 353 kR .bool Fg
def ap6:=kA [wQ] 369 dE dE E9
def apW:=kB [] 372 tZ tZ .bool xx
def apU:=kB [apW] 371 tQ tQ .bool KS
def apV:=kB [apU] 370 (.an tQ) (.an tQ) .bool E7
def ap4:=kB [abc,apV] 368 dE dE .bool Tl
def ap3:=kB [ap6,ap4] 364 dE dE .bool A2
def aqr:=kA [ap3] 354 dE .bool Tu
def aqk:=kA [] 355 (.an FU) .bool Fc
def aqp:=kA [] 356 iT .bool A4
def aql:=kB [] 247 iT iT .bool Tt
def aqi:=kA [] 248 u3 .bool K6
def abg:=kA [aql,aqi] 182 Bn .bool Ff
def aqm:=kA [aqo,aqn,aqr,abb,aqk,aqp,abg] 337 kR .bool K8
def aqq:=kA [abe,aqm,abd,Jg,aa7] 308 kR .bool La
def aqy:=kA [aqq] 246 (.an kR) .bool Ld
def aqt:=kA [abf,abi,aqg,abh,aqy] 180 iW iT Lc
def aqj:=kA [] 181 iT .bool Ts
def aqs:=kA [abe,abd,Jg,aa7,abf,aqx,aqt,aqj,abg] 124 iW iT Lb
def aqA:=kB [] 125 (.an iW) iT iT Tx
def aqE:=kB [] 126 (.an iW) iT .bool Lg
def aqG:=kB [aqs,aqA,aqE] 91 (.an iW) iT iT Fq
def aqz:=kA [aqG] 70 gx (.aH (c2 iT iT)) Le
def aqF:=kA [aqz] 49 gx .bool Lh
def aqD:=kB [aqF] 25 gx iT .bool Lf
def aqB:=kB [] 26 (.an iW) iT iT aeG
def ap5:=kE [Jg,wQ] 30 (.cn iT (.cn iT (.cn iT (.cn iT (c2 tQ tQ))))) dE (λx => aeD x.1 x.2.1 x.2.2.1 x.2.2.2.1 x.2.2.2.2.1 x.2.2.2.2.2.1)
def axr:=kE [ap5] 17 .nl dE (λx => at5)
def aqd:=kB [] 12 lH lH .bool Fb
def aqT:=kB [abp,abq] 22 gx iT (.an iT) LD
def aoU:=kA [Jj,z8] 67 lH .bool JH
def aoW:=kA [aoU] 66 lH .bool RA
def aoV:=kA [aoW] 42 (.an lH) .bool JI
def aqL:=kB [z8] 43 dA dA dA Ln
def aoX:=kC [abl] 46 lH iT iT tb Eb
def aoN:=kA [] 121 iT tv zY
def an2:=kB [] 120 tv tv (.aH (c2 tv tv)) Hd
def an1:=kA [aaI] 232 tv iT WO
def an0:=kC [an1] 174 tv tv tv (.aH (c2 tv tv)) Hb
def aoM:=kA [an0] 123 (.st 3 (.cn tv (c2 tv tv))) (.aH (c2 tv .bool)) I3
def aoK:=kC [aoN,an2,aoM] 90 iT iT iT (.aH (c2 iT .bool)) QF
def aoJ:=kB [aoK] 68 iT iT iT QE
def aoL:=kB [aoJ] 47 tb tb tb I2
def aoT:=kA [aoV,aqL,aoX,aoL,z8] 23 (.an lH) (.aH (c2 lH iT)) JE
def an4:=kC [aaJ,aaQ,aaV,aaL,aqT,aoT] 7 gx iT dA (.aH (c2 lH iT)) v5
def ap0:=kB [aba,DY] 9 dA dA dA KV
def aqC:=kB [aqD,aqB] 11 gx iT iT Fp
def aqe:=kA [DY,aa8] 27 lH .bool K4
def aa9:=kC [DY] 28 dA iT iT .bool E8
def ap1:=kC [aa9] 29 dA iT iT iT KW
def aqc:=kC [aqe,aa9,ap1] 13 lH iT iT tb pW
def apY:=kB [] 14 tb tb tb KU
def aoO:=kC [aoQ,aoR,an4,DY,ap0,an5,aqC,aqd,aqc,apY,aod] 3 gx iT (.st 8 (c2 dA dA)) .bool Rj
end
end Go.Proofs.YtlfolhmfdmcmiaaGreatDoor
end
