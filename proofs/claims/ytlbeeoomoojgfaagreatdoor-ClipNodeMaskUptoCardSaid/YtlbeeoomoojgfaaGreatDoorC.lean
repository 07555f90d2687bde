/- A part of the proof. -/
import Derived.Test.YtlbeeoomoojgfaaGreatDoorB
import Derived.Test.YtlbeeoomoojgfaaGreatDoorT
set_option linter.all false
open Bool renaming false->Y
noncomputable section
namespace Go.Proofs.YtlbeeoomoojgfaaGreatDoor
open Go.As
section
variable [Gh]
abbrev tu:Ty:=.int .u32
abbrev tv:Ty:=.int .u64
abbrev tb:Ty:=.int .u8
abbrev tn:Ty:=.aw tu
abbrev aBX:Ty:=.st 5 (.cn tQ (.cn iT .nl))
abbrev c1(a:Ty):Ty:=.cn a .nl
abbrev c2(a b:Ty):Ty:=.cn a (.cn b .nl)
abbrev vI:Pt:=.val iT
abbrev vA:Ap:=.val iT
abbrev bA(a:Ty):Ap:=.buf true a
abbrev fA(a:Nat):Ap:=.fn a [] []
def hA(l:List (Nat×Pt)):Hint:=⟨l,[],[]⟩
def hB(l:List (Nat×Pt))(a:List (Nat×Ty)):Hint:=⟨l,[],a⟩
def hC(l a:List (Nat×Pt))(b:List (Nat×Ty)):Hint:=⟨l,a,b⟩
def HS:List (Nat×Nat×Hint):=[(4,3,hI [3,12]),(4,10,hI [68]),(4,13,hI [74]),(9,4,hI [5]),(10,3,hI [20]),(32,13,hB [(10,vI)] [(1000040,tb)]),(32,17,hB [(11,vI)] [(1000040,tb)]),(38,7,hC [(7,vI)] [(1000006,.agg 5 [.val eN,.buf Y tb])] []),(39,11,hC [(9,vI)] [(1000008,.agg 5 [.val eN,.buf Y tb])] []),(39,14,hC [(10,vI)] [(1000008,.agg 5 [.val eN,.buf Y tb])] []),(44,2,hI [5]),(47,3,hC [(6,vI)] [(1000005,.agg 5 [.val eN,.buf Y tb])] []),(47,6,hC [(7,vI)] [(1000005,.agg 5 [.val eN,.buf Y tb])] []),(48,3,hA [(6,.val tb),(18,vI)]),(56,8,hC [(5,vI),(35,vI)] [(1000004,.mp .i64 .bool)] []),(60,3,hI [3,8]),(64,6,hI [4]),(67,8,hA [(7,.buf Y db),(8,vI)]),(69,3,hI [3,4]),(69,9,hI [5]),(79,6,hA [(1,vI),(6,.buf Y db)]),(84,6,hC [(3,.val .err),(4,vI)] [(1000005,.val (.st 2 (c2 iT .err)))] []),(88,6,hC [(30,vI)] [(1000006,.val aT),(1000007,.val aT)] []),(94,5,hA [(5,.buf Y iT),(6,vI)]),(94,8,hI [7]),(95,3,hC [(5,vI)] [(1000002,.agg 24 [.agg 4 [.agg 2 [.val .bool,.nil],.agg 2 [.val .bool,.nil]],.agg 4 [.agg 2 [.val .bool,.nil],.agg 2 [.val .bool,.nil]],.agg 4 [.agg 2 [.val .bool,.nil],.agg 2 [.val .bool,.nil]],.agg 4 [.agg 2 [.val .bool,.nil],.agg 2 [.val .bool,.nil]],.agg 4 [.agg 2 [.val .bool,.nil],.agg 2 [.val .bool,.nil]],.agg 4 [.agg 2 [.val .bool,.nil],.agg 2 [.val .bool,.nil]]]),(1000004,.val db)] []),(96,5,hA [(6,.buf Y pQ),(7,vI)]),(97,8,hA [(6,.buf Y s7),(7,vI),(8,vI)]),(98,3,hA [(3,.buf Y (.aw aT)),(4,vI)]),(102,2,hA [(5,.val tn),(6,.val tn)]),(105,2,hI [8]),(109,3,hC [(12,vI)] [(1000002,.agg 24 [.agg 4 [.agg 2 [.val .bool,.nil],.agg 2 [.val .bool,.nil]],.agg 4 [.agg 2 [.val .bool,.nil],.agg 2 [.val .bool,.nil]],.agg 4 [.agg 2 [.val .bool,.nil],.agg 2 [.val .bool,.nil]],.agg 4 [.agg 2 [.val .bool,.nil],.agg 2 [.val .bool,.nil]],.agg 4 [.agg 2 [.val .bool,.nil],.agg 2 [.val .bool,.nil]],.agg 4 [.agg 2 [.val .bool,.nil],.agg 2 [.val .bool,.nil]]])] []),(109,9,hC [(23,vI)] [(1000002,.agg 24 [.agg 4 [.agg 2 [.val .bool,.nil],.agg 2 [.val .bool,.nil]],.agg 4 [.agg 2 [.val .bool,.nil],.agg 2 [.val .bool,.nil]],.agg 4 [.agg 2 [.val .bool,.nil],.agg 2 [.val .bool,.nil]],.agg 4 [.agg 2 [.val .bool,.nil],.agg 2 [.val .bool,.nil]],.agg 4 [.agg 2 [.val .bool,.nil],.agg 2 [.val .bool,.nil]],.agg 4 [.agg 2 [.val .bool,.nil],.agg 2 [.val .bool,.nil]]]),(1000004,.val db)] []),(111,5,hA [(6,.buf Y pQ),(19,vI)]),(111,9,hA [(9,.buf Y aT),(26,vI)]),(112,7,hA [(6,.cB s7 (.agg 2 [.buf Y aT,.val .bool])),(29,vI)]),(112,24,hI [13,115]),(113,3,hA [(3,.buf Y (.aw aT)),(8,vI)]),(119,2,hI [8]),(120,3,hI [3,11]),(120,11,hA [(6,.buf Y aT),(27,vI)]),(123,13,hC [(16,vI)] [(1000004,.val (.aw (.aw aT))),(1000005,vI),(1000011,.val tQ),(1000012,.val tQ),(1000013,.val tQ)] []),(127,4,hA [(5,.val tv),(6,vI)]),(132,2,hI [5]),(135,2,hI [5]),(136,3,hI [4]),(143,4,hC [(11,vI)] [(1000010,.agg 2 [.buf Y aT,.val .bool]),(1000009,.val aT),(1000006,.agg 2 [.nil,.val .bool])] []),(143,7,hC [] [(1000010,.val s7)] []),(144,3,hA [(3,.buf Y aT),(4,vI)]),(151,4,hA [(5,.val tv),(6,vI)]),(155,2,hI [3]),(155,6,hA [(4,.buf Y tu),(5,vI)]),(156,9,hB [(12,.val tn),(13,vI)] [(1000011,tu)]),(156,13,hA [(14,.buf Y tu),(15,vI)]),(172,1,hC [(9,vI)] [(1000000,.qj s7 (.agg 2 [.buf Y aT,.val .bool]))] []),(175,2,hI [7]),(191,4,hC [(17,vI)] [(1000007,.val tQ)] []),(192,5,hA [(7,.buf Y fu),(8,vI),(17,vI)]),(195,7,hC [(56,vI)] [(1000009,.buf Y tQ)] []),(195,10,hC [(62,vI)] [(1000009,.buf Y tQ)] []),(195,20,hC [(83,vI)] [(1000009,.buf Y tQ)] []),(195,27,hC [(101,vI)] [(1000009,.buf Y tQ)] []),(210,4,hI [3]),(214,4,hI [4]),(217,2,hA [(0,.buf Y aT),(5,vI)]),(218,4,hC [(11,vI)] [(1000009,.val tQ)] []),(223,6,hA [(4,vI),(5,.val tu)]),(224,7,hA [(5,.buf Y tu),(6,vI)]),(225,5,hA [(8,.val tv),(9,.val tn)]),(226,4,hA [(5,.buf Y tu),(6,.val tv),(7,vI)]),(227,6,hA [(6,.buf Y tu),(7,.val tv),(8,vI)]),(235,5,hI [4,13]),(252,3,hA [(3,.buf Y fu),(12,vI)]),(252,11,hA [(6,.buf Y fu),(37,vI)]),(259,8,hC [(59,vI)] [(1000008,.agg 4 [.agg 2 [.val .bool,.nil],.agg 2 [.val .bool,.nil]]),(1000009,.agg 4 [.agg 2 [.val .bool,.nil],.agg 2 [.val .bool,.nil]])] []),(265,2,hI [3]),(266,11,hA [(11,.buf Y tu)]),(266,15,hB [(13,vI)] [(1000011,tu),(1000012,tu)]),(266,23,hB [(16,.val tv),(105,vI)] [(1000011,tu)]),(267,4,hB [(6,.val tv),(17,vI)] [(1000005,tu)]),(269,2,hA [(0,.val tn),(1,.val tn)]),(271,6,hB [(7,.val tv),(20,vI)] [(1000006,tu)]),(272,4,hB [(23,vI)] [(1000005,tu)]),(272,9,hB [(8,.val tv),(32,vI)] [(1000005,tu)]),(280,2,hI [3]),(285,6,hA [(8,.buf Y aT),(9,vI)]),(286,6,hA [(8,.buf Y aT),(9,vI)]),(287,5,hA [(7,.buf Y tQ),(8,vI)]),(287,8,hA [(7,.buf Y tQ),(9,vI)]),(287,13,hA [(7,.buf Y tQ),(11,vI)]),(287,16,hA [(7,.buf Y tQ),(12,vI)]),(287,29,hA [(20,.buf Y tQ),(21,vI)]),(288,5,hA [(9,.buf Y fu),(10,vI),(11,vI)]),(290,4,hC [(9,vI)] [(1000007,.val tQ)] []),(291,3,hB [(6,vI)] [(1000005,tu)]),(291,7,hB [(7,.val tv),(8,vI)] [(1000005,tu)]),(292,4,hA [(5,.buf Y tu),(6,.val tv),(7,vI)]),(294,4,hA [(5,.buf Y tu),(6,.val tv),(7,vI)]),(295,2,hI [5]),(307,4,hI [13]),(308,4,hI [13]),(310,3,hA [(3,.val .bool),(11,vI)]),(314,2,hI [8]),(321,3,hI [8]),(325,5,hA [(5,.buf Y (.aw aT)),(16,vI)]),(325,9,hA [(8,.buf Y aT),(22,vI)]),(326,1950000001,hC [(10,vI)] [(5,.buf Y tQ),(8,.buf Y (.st 4 (c2 aT aT)))] []),(326,1950000004,hC [(16,vI)] [(5,.buf Y tQ),(8,.buf Y (.st 4 (c2 aT aT)))] []),(326,2530000001,hC [(10,vI)] [(1,.buf Y aBX)] []),(326,2530000004,hC [(16,vI)] [(1,.buf Y aBX)] []),(332,4,hB [(5,vI)] [(1000000,tQ)]),(332,9,hB [(5,vI),(7,vI)] [(1000000,tQ)]),(335,7,hI [5]),(336,4,hB [(7,.val tv),(8,vI)] [(1000006,tu)]),(338,8,hB [(37,vI)] [(1000007,tu)]),(338,17,hB [(76,vI)] [(1000011,tu)]),(339,4,hA [(7,.val tv),(8,.val tv)]),(340,3,hB [(7,.val tv),(8,.val tv),(15,vI)] [(1000000,tu)]),(346,3,hA [(3,.val .bool),(4,vI)]),(353,5,hA [(3,.buf Y (.st 4 (c2 aT aT))),(4,vI)]),(353,8,hA [(3,.buf Y (.st 4 (c2 aT aT))),(5,vI)]),(356,2,hI [5]),(357,7,hA [(6,.buf Y tQ),(7,.buf Y iT),(9,vI)]),(357,21,hB [(17,vI)] [(1000006,tQ),(1000007,iT)]),(359,4,hA [(4,.buf Y fu),(5,vI)]),(362,4,hI [19]),(362,10,hI [10]),(364,1,hC [(4,vI)] [(3,.buf Y aT)] []),(365,2,hI [11]),(369,2,hI [8]),(377,2,hB [(7,vI),(8,vI)] [(0,fu)]),(377,7,hB [(6,vI)] [(0,fu)]),(377,9,hB [(7,vI),(8,vI)] [(0,fu)]),(378,2,hB [(7,vI),(8,vI)] [(0,aBX)]),(378,7,hB [(6,vI)] [(0,aBX)]),(378,9,hB [(7,vI),(8,vI)] [(0,aBX)]),(383,2,hB [(1,vI),(2,vI),(3,vI),(10,.val .bool),(11,.val .bool)] [(1000000,tQ)]),(387,9,hI [9]),(389,2,hI [3]),(396,3,hA [(3,.buf Y fu),(4,vI)]),(396,8,hB [(5,vI)] [(1000003,fu)]),(397,4,hI [13]),(398,5,hI [3,16]),(399,1,hB [(8,vI)] [(0,fu)]),(399,4,hB [(9,vI)] [(0,fu)]),(400,3,hI [10,11]),(400,9,hB [(13,vI)] [(0,fu)]),(400,15,hI [14,15]),(400,21,hB [(17,vI)] [(0,fu)]),(400,33,hI [20,21]),(401,1,hB [(8,vI)] [(0,aBX)]),(401,4,hB [(9,vI)] [(0,aBX)]),(402,3,hI [10,11]),(402,9,hB [(13,vI)] [(0,aBX)]),(402,15,hI [14,15]),(402,21,hB [(17,vI)] [(0,aBX)]),(402,33,hI [20,21]),(403,1,hB [(8,vI)] [(0,tQ)]),(403,4,hB [(9,vI)] [(0,tQ)]),(404,4,hB [(11,vI)] [(1000000,tQ)]),(404,8,hB [(12,vI)] [(1000000,tQ)]),(405,5,hC [(11,vI)] [(1000009,.val tv)] [(1000000,tQ)]),(407,2,hB [(8,vI),(9,vI)] [(1000000,tQ)]),(408,3,hB [(9,vI),(10,vI)] [(1000000,tQ)]),(408,5,hI [9]),(408,14,hB [(11,vI)] [(1000000,tQ)]),(408,20,hB [(12,vI)] [(1000000,tQ)]),(409,3,hI [11]),(409,5,hI [12]),(409,500003,hB [(11,vI),(12,vI)] [(1000000,tQ)]),(410,3,hI [12]),(410,5,hI [13]),(410,13,hI [12]),(410,15,hI [13]),(410,500013,hB [(12,vI),(13,vI)] [(1000000,tQ)]),(414,2,hI [3]),(420,2,hB [(10,vI),(11,vI)] [(0,fu)]),(421,2,hB [(10,vI),(11,vI)] [(0,aBX)]),(422,1,hB [(10,vI)] [(1000000,tQ)]),(429,1,hB [(10,vI)] [(0,fu)]),(430,1,hB [(10,vI)] [(0,aBX)]),(434,4,hI [5]),(436,4,hI [5])]
def JS:List (Nat×Nat×Hint):=[(32,9,hC [] [(1000006,.agg 5 [.val eN,.nil])] []),(71,4,hA [(3,.val tv)]),(73,5,hC [] [(1000002,.val tZ),(1000003,.val tZ)] []),(84,4,hA [(3,.val .err)]),(90,4,hC [] [(1000011,.val aT)] []),(112,5,hI []),(127,7,hA [(5,.val tv)]),(127,11,hI []),(131,13,hI []),(140,4,hA [(4,.val .bool)]),(143,9,hC [] [(1000010,.val s7),(1000006,.agg 2 [.nil,.val .bool])] []),(143,16,hC [(11,vI)] [(1000010,.agg 2 [.buf Y aT,.val .bool]),(1000009,.val aT),(1000006,.agg 2 [.nil,.val .bool])] []),(155,4,hI [3]),(156,16,hA [(14,.buf Y tu)]),(161,6,hI []),(186,3,hI []),(202,7,hA [(7,.val tn)]),(236,7,hA [(9,.val .bool)]),(259,17,hC [] [(1000019,.val aT)] []),(265,4,hI [3]),(266,30,hB [(15,.val tv)] [(1000011,tu)]),(287,24,hA [(7,.buf Y tQ)]),(290,9,hC [] [(1000010,.val tQ)] []),(290,11,hC [] [(1000011,.val tQ)] []),(313,16,hI []),(330,5,hC [] [(1000004,.val aT)] []),(330,7,hC [] [(1000005,.val aT)] []),(354,14,hI [14,15,16]),(356,4,hI [5]),(357,14,hI [14]),(357,16,hI [14]),(361,4,hA [(0,.val tv),(2,vI)]),(361,7,hA [(0,.val tv),(2,vI)]),(361,10,hA [(0,.val tv),(2,vI)]),(377,6,hB [(7,vI)] [(0,fu)]),(377,16,hB [] [(0,fu)]),(378,6,hB [(7,vI)] [(0,aBX)]),(378,16,hB [] [(0,aBX)]),(383,10,hB [(3,vI)] [(1000000,tQ)]),(383,15,hB [(13,vI),(14,vI)] [(1000000,tQ)]),(383,17,hB [] [(1000000,tQ)]),(385,4,hA [(0,.val tu),(2,vI)]),(385,7,hA [(0,.val tu),(2,vI)]),(387,8,hI [8]),(393,3,hC [] [(1000004,.val aT),(1000005,.val aT)] []),(393,5,hC [] [(1000006,.val aT),(1000007,.val aT)] []),(393,8,hC [] [(1000011,.val aT)] []),(393,10,hC [] [(1000012,.val aT)] []),(399,2,hB [] [(0,fu)]),(400,8,hI [10]),(400,20,hI [14]),(400,32,hI [20,21]),(400,38,hI [20]),(400,41,hB [] [(0,fu)]),(400,43,hB [] [(0,fu)]),(401,2,hB [] [(0,aBX)]),(402,8,hI [10]),(402,20,hI [14]),(402,32,hI [20,21]),(402,38,hI [20]),(402,41,hB [] [(0,aBX)]),(402,43,hB [] [(0,aBX)]),(403,2,hB [] [(0,tQ)]),(405,10,hI [12]),(406,11,hC [(12,vI),(13,vI),(14,vI)] [(1000011,vI)] [(1000000,tQ)]),(406,12,hC [(13,vI)] [(1000011,vI)] [(1000000,tQ)]),(408,7,hI [9]),(408,18,hB [] [(1000000,tQ)]),(409,5,hI [11]),(409,7,hI [12]),(410,5,hI [12]),(410,7,hI [13]),(410,15,hI [12]),(410,17,hI [13]),(410,21,hB [(13,vI)] [(1000000,tQ)]),(420,8,hB [(10,vI)] [(0,fu)]),(421,8,hB [(10,vI)] [(0,aBX)]),(422,5,hI [11])]
def US:List (Nat×Nat):=[(96,9),(112,1000008),(156,1000010),(164,2),(170,3),(230,3),(284,8),(298,2),(337,1000000),(372,3)]
def kE0(l:List (Kn dO))(b:Nat)(a c:Ty)(d:a.den->Option c.den)(e:List (ld dO):=[])(hm:dO.sm b=none:=by rfl)(h:∀x,nv (jW dO (kT l) (kM e) (hF HS) (hF JS) (uF US)) 200 b a c x=d x:=by intro x;kernel_rfl):Kn dO:=knm HS JS US l e b a c d hm h
def kE(l:List (Kn dO))(b:Nat)(a c:Ty)(d:a.den->Option c.den)(e:List (ld dO):=[])(hm:dO.sm b=none:=by rfl)(h:∀x,nv (jW dO (kT l) (kM e) (hF HS) (hF JS) (uF US)) 200 b a c x=d x:=by intro x;kernel_rfl):List (Kn dO):=kE0 l b a c d e hm h::l
def kA(l:List (Kn dO))(b:Nat)(a c:Ty)(d:a.den->Option c.den)(e:List (ld dO):=[])(hm:dO.sm b=none:=by rfl)(h:∀x,nv (jW dO (kT l) (kM e) (hF HS) (hF JS) (uF US)) 200 b (c1 a) c x=d x.1:=by intro x;kernel_rfl):List (Kn dO):=kE l b (c1 a) c (λx=>d x.1) e hm h
def kB(l:List (Kn dO))(c:Nat)(a b d:Ty)(e:a.den->b.den->Option d.den)(f:List (ld dO):=[])(hm:dO.sm c=none:=by rfl)(h:∀x,nv (jW dO (kT l) (kM f) (hF HS) (hF JS) (uF US)) 200 c (c2 a b) d x=e x.1 x.2.1:=by intro x;kernel_rfl):List (Kn dO):=kE l c (c2 a b) d (λx=>e x.1 x.2.1) f hm h
def kC0(l:List (Kn dO))(d:Nat)(a b c e:Ty)(f:a.den->b.den->c.den->Option e.den)(g:List (ld dO):=[])(hm:dO.sm d=none:=by rfl)(h:∀x,nv (jW dO (kT l) (kM g) (hF HS) (hF JS) (uF US)) 200 d (.cn a (c2 b c)) e x=f x.1 x.2.1 x.2.2.1:=by intro x;kernel_rfl):Kn dO:=kE0 l d (.cn a (c2 b c)) e (λx=>f x.1 x.2.1 x.2.2.1) g hm h
def kC(l:List (Kn dO))(d:Nat)(a b c e:Ty)(f:a.den->b.den->c.den->Option e.den)(g:List (ld dO):=[])(hm:dO.sm d=none:=by rfl)(h:∀x,nv (jW dO (kT l) (kM g) (hF HS) (hF JS) (uF US)) 200 d (.cn a (c2 b c)) e x=f x.1 x.2.1 x.2.2.1:=by intro x;kernel_rfl):List (Kn dO):=kE l d (.cn a (c2 b c)) e (λx=>f x.1 x.2.1 x.2.2.1) g hm h
def kD(l:List (Kn dO))(e:Nat)(a b c d f:Ty)(g:a.den->b.den->c.den->d.den->Option f.den)(i:List (ld dO):=[])(hm:dO.sm e=none:=by rfl)(h:∀x,nv (jW dO (kT l) (kM i) (hF HS) (hF JS) (uF US)) 200 e (.cn a (.cn b (c2 c d))) f x=g x.1 x.2.1 x.2.2.1 x.2.2.2.1:=by intro x;kernel_rfl):List (Kn dO):=kE l e (.cn a (.cn b (c2 c d))) f (λx=>g x.1 x.2.1 x.2.2.1 x.2.2.2.1) i hm h
def hU(l:List (Kn dO))(d:List (ld dO))(c:Nat)(ps:List Ap)(a:Ty)(b:(aY.ty ps).den->Option (a.den×(aY.ty ps).den))(h:∀x,I2 (jW dO (kT l) (kM d) (hF HS) (hF JS) (uF US)) 200 c ps a x=b x:=by intro x;kernel_rfl):ld dO:=knM HS JS US l d c ps a b h
abbrev fG:Ty:=.aw (.aw aT)
abbrev ty2:Ty:=.cn aT (c2 aT aT)
abbrev oS:Ty:=.aI (c2 iT iT)
abbrev pR:Ty:=.aI (c2 tQ iT)
abbrev jE:Ty:=.aI .nl
abbrev Cp:Ty:=.aI (c2 (.aw aT) iT)
abbrev lG:Ty:=.aw pQ
abbrev Cr:Ty:=.st 8 (.cn aT ty2)
abbrev yw:Ty:=.aI (c2 Ww iT)
abbrev Oq:Ty:=.aI (.cn tQ (c2 tQ iT))
abbrev qY:Ty:=.aw aT
abbrev qZ:Ty:=.aw fu
abbrev ahC:Ty:=.st 24 (.cn tQ (.cn tQ (.cn tQ (.cn tQ (c2 tQ tQ)))))
abbrev Ot:Ty:=.aI (c2 tQ .bool)
abbrev yt:Ty:=.st 6 ty2
abbrev Ou:Ty:=.aI (c2 db iT)
abbrev yu:Ty:=.aw iT
abbrev WH:Ty:=.aI (c2 iT .bool)
abbrev WI:Ty:=.aI (c2 aT iT)
abbrev Co:Ty:=.aw tQ
abbrev Ht:Ty:=.aw kU
abbrev ahD:Ty:=.aI (.cn fG (c1 .bool))
abbrev ahE:Ty:=.aI (.cn tn (c2 tn iT))
abbrev ahF:Ty:=.aI (.cn tZ (c2 tZ iT))
abbrev ahG:Ty:=.aI (c2 (.aw s7) iT)
abbrev Ov:Ty:=.aw tCs
abbrev ahH:Ty:=.aI (.cn fG (c1 iT))
abbrev ahI:Ty:=.st 25 (c2 db .bool)
def kb0:List (Kn dO):=[⟨6,⟨.nl,.bool,λx=>JE⟩,λx y e=>(by cases e;cases x;kernel_rfl)⟩]
def kb1:=kA kb0 10 db .bool Fk
def kb2:=kA kb1 4 fO .bool S8
def kb3:=kA kb2 65 iT .bool xL
def kb4:=kA kb3 35 eN .bool xM
def kb5:=kA kb4 40 eN .bool Mv
def kb6:=kA kb5 20 eN eN BC
def kb7:=kA kb6 11 eN iT sP
def kb8:=kA kb7 5 eN .bool KL
def kb9:=kA kb8 174 iT .bool FD
def ao3:=kB kb9 176 .bool iT .err ka
def ape:=kA ao3 385 tu iT Fl
def apq:=kA ape 334 tn iT bitLen
def apC:=kA apq 261 tZ iT xe
def apQ:=kA apC 200 tn tn sC
def ap1:=kB apQ 335 tn tn iT D7
def aqa:=kB ap1 336 tn tu (.aI (c2 tn tu)) one
def aql:=kA aqa 263 tv tn uB
def aqv:=kA aql 337 tu iT KZ
def aqG:=kB aqv 341 tn iT tv digit
def aqR:=kB aqG 339 tn tn tv J7
def aq2:=kB aqR 266 tn tn ahE divMod
def ard:=kB aq2 269 tn tn tn gcd
def ars:=kB ard 262 .bool tn tZ kF
def arF:=kB ars 203 tZ tZ tQ sT
def arQ:=kB arF 196 tZ tZ pR BX
def ar1:=kA arQ 197 iT tZ xd
def asc:=kA ar1 126 iT tQ eM
def asp:=kA asc 201 tQ tQ jk
def asA:=kA asp 230 db ahC wx
def asM:=kA asA 297 tZ iT E8
def asX:=kA asM 231 tQ iT sS
def as9:=kA asX 164 db .bool uc
def atk:=kB as9 272 tn tn tn La
def atm:=kB atk 205 tZ tZ tZ pA
def atn:=kB atm 130 tQ tQ tQ oH
def ato:=kB atn 198 tQ tQ (.aI (.cn tZ (c2 tZ tZ))) vl
def atp:=kA ato 323 tZ tZ Kx
def atq:=kB atp 267 tn tn tn DC
def atr:=kB atq 271 tn tn (.aI (c2 tn .bool)) Hn
def ats:=kB atr 204 tZ tZ tZ xc
def att:=kB ats 254 tZ tZ tZ AR
def atu:=kB att 194 tQ tQ tQ vk
def atv:=kA atu 239 db tQ zK
def atw:=kB atv 199 tZ tZ iT SL
def atx:=kB atw 125 tQ tQ iT cQ
def aty:=kA atx 177 db .bool Lo
def atz:=kA aty 236 iT iT pJ
def atA:=kC atz 107 iT iT iT iT Fb
def atB:=kA atA 78 iT iT OE
def atD:=kA atB 51 aT aT ra
def atE:=kA atD 24 aT .bool iN
def atF:=kA atE 298 pQ .bool LY
def atG:=kA atF 235 lG oS LV
def atH:=kA atG 167 lG .bool xD
def atI:=kB atH 307 yu yu .bool N0
def atJ:=kB atI 240 Ho Ho .bool FE
def atK:=kB atJ 308 (.aw vz) (.aw vz) .bool N1
def atL:=kB atK 241 Ck Ck .bool E2
def atM:=kA atL 178 kU .bool Li
def atN:=kA atM 175 (.aw .err) .err FB
def atO:=kA atN 116 kU .err Lj
def atP:=kA atO 179 iT .bool Qw
def atQ:=kA atP 309 iT .bool Wh
def atS:=kA atQ 310 yu .bool Wf
def atT:=kA atS 242 Ho .bool Ob
def atU:=kA atT 371 kV kV F5
def atV:=kB atU 397 Ov Ov .bool N2
def atW:=kB atV 372 db db .bool ub
def atX:=kB atW 370 kV kV .bool pI
def atY:=kA atX 398 Ov .bool J2
def atZ:=kA atY 374 iT .bool F3
def at0:=kA atZ 373 kV .bool F4
def at1:=kA at0 244 iT .bool Kt
def at2:=kA at1 315 vz vz QT
def at3:=kA at2 247 vz .bool Jd
def at4:=kA at3 246 vz .bool SC
def at5:=kA at4 181 Ck .bool E4
def at6:=kA at5 313 kV .bool F2
def at7:=kA at6 312 kV .bool TF
def at8:=kA at7 243 (.aw kV) .bool Lk
def at9:=kA at8 180 kU .err Lm
def aua:=kA at9 117 kU .err Ll
def aub:=kA aua 84 kU iT Lh
def auc:=kA aub 56 fO oS NS
def aud:=kA auc 27 fO .bool B7
def aue:=kA aud 57 iT .bool x0
def auf:=kA aue 28 eN .bool xZ
def aug:=kA auf 85 eN .bool G1
def auh:=kA aug 58 eN eN BZ
def aui:=kA auh 29 eN iT xY
def auj:=kC aui 16 fO iT eN iT I7
def auk:=kB auj 43 fO iT .bool Hg
def aul:=kB auk 44 Ht iT iT oK
def aum:=kB aul 108 fO iT iT NT
def aun:=kA aum 233 ahC db wt
def auo:=kD aun 229 iT iT iT iT db PZ
def aup:=kE auo 163 .nl db (λx=>IA)
def auq:=kB aup 129 tQ tQ tQ lA
def aur:=kD auq 234 tQ tQ tQ tQ tQ rR
def ao4:=kC aur 232 db tQ tQ (.aI (c2 tQ tQ)) DG
def ao5:=kB ao4 165 db db db IB
def ao6:=kA ao5 166 db db PY
def ao7:=kA ao6 109 (.aw db) Ou Iy
def ao8:=kB ao7 79 fO iT Ou JZ
def ao9:=kB ao8 52 fO iT (.st 72 (.cn ahI (c1 kU))) RH
def apa:=kA ao9 168 pQ qY LZ
def apb:=kB apa 124 iT iT pR xW
def apc:=kB apb 202 tZ tZ ahF Kw
def apd:=kA apc 128 tQ tZ vj
def apf:=kA apd 127 tZ WH uP
def apg:=kB apf 169 db aT WI Ix
def aph:=kB apg 170 iT qY pQ Uj
def api:=kB aph 111 lG db (.aI (c2 lG iT)) LW
def apj:=kC api 363 aT aT aT iT JU
def apk:=kC apj 362 iT iT qY oS wO
def apl:=kB apk 299 yt iT oS JR
def apm:=kC apl 365 qY iT iT .bool At
def apn:=kB apm 367 iT iT iT pq
def apo:=kC apn 303 yt iT iT aT JQ
def apr:=kB apo 237 yt iT Cp RB
def aps:=kB apr 304 Cr iT oS JN
def apt:=kC aps 306 Cr iT iT aT JM
def apu:=kB apt 238 Cr iT Cp Rz
def apv:=kC apu 171 aT pQ iT Cp JT
def apw:=kB apv 112 lG iT ahG JO
def apx:=kA apw 113 (.aw s7) fG L2
def apy:=kC apx 80 lG db iT ahH LH
def apz:=kB apy 53 ahI lG fG RI
def apB:=kB apz 25 fO iT ahD wQ
def apD:=kB apB 31 eN tb yw Fs
def apF:=kA apD 87 aT .bool Uk
def apG:=kA apF 60 fG .bool xE
def apH:=kA apG 120 fG qY NZ
def apI:=kA apH 88 fG (.aI (.cn aT (c2 aT .bool))) L0
def apJ:=kA apI 89 iT iT L4
def apK:=kA apJ 61 fG eN L3
def apM:=kC apK 92 eN iT iT .bool Nz
def apN:=kC apM 63 eN iT iT iT NA
def apP:=kA apN 187 iT .bool DL
def apR:=kB apP 121 iT iT aT zN
def apS:=kB apR 189 fG iT iT II
def apT:=kB apS 193 tQ tQ tQ BW
def apU:=kB apT 380 aT aT aT OD
def apV:=kB apU 325 fG aT fG F8
def apW:=kA apV 324 aT .bool SQ
def apX:=kA apW 255 qY .bool AV
def apY:=kB apX 328 iT iT tQ AU
def apZ:=kC apY 327 iT iT tQ tQ xf
def ap0:=kC apZ 318 aT aT tQ Ot SO
def ap2:=kA ap0 379 iT .bool Jc
def ap3:=kB ap2 322 iT iT iT Ja
def ap4:=kA ap3 321 yu iT Jb
def xl:=kB ap4 320 aBX aBX iT vv
def aoZ:=hU xl [] 430 [bA aBX,vA,vA,vA,fA 320] jE (λx=>azm x.1 x.2.1 x.2.2.1 x.2.2.2.1)
def aoT:=hU xl [aoZ] 421 [bA aBX,vA,vA,vA,fA 320] jE (λx=>ax9 x.1 x.2.1 x.2.2.1 x.2.2.2.1)
def aoD:=hU xl [] 401 [bA aBX,vA,vA,fA 320] jE (λx=>aot x.1 x.2.1 x.2.2.1)
def ao1:=S5 HS JS US xl [aoT] 402 [bA aBX,vA,vA,vA,fA 320] jE (λa x=>a x.1 x.2.1 x.2.2.1 x.2.2.2.1) (λ_ _ _ _=>none) (@Cj (DQ×Int×Unit) vv) (λx=>rfl) (λa x=>by kernel_rfl) 1099511627776 (@Ci (DQ×Int×Unit) vv) (by kernel_rfl)
def aoX:=hU xl [aoD,ao1] 378 [bA aBX,vA,fA 320] jE (λx=>azc x.1 x.2.1)
def aoV:=hU xl [aoX] 319 [bA aBX,fA 320] jE (λx=>ag4 x.1)
def ap5:=kB xl 253 fG tQ (.aw aBX) He [aoV]
def ap6:=kB ap5 54 iT iT .bool L1
def xm:=kB ap6 317 fu fu iT vt
def ao0:=hU xm [] 429 [bA fu,vA,vA,vA,fA 317] jE (λx=>azn x.1 x.2.1 x.2.2.1 x.2.2.2.1)
def aoU:=hU xm [ao0] 420 [bA fu,vA,vA,vA,fA 317] jE (λx=>aya x.1 x.2.1 x.2.2.1 x.2.2.2.1)
def aoE:=hU xm [] 399 [bA fu,vA,vA,fA 317] jE (λx=>aou x.1 x.2.1 x.2.2.1)
def ao2:=S5 HS JS US xm [aoU] 400 [bA fu,vA,vA,vA,fA 317] jE (λa x=>a x.1 x.2.1 x.2.2.1 x.2.2.2.1) (λ_ _ _ _=>none) (@Cj (fo) vt) (λx=>rfl) (λa x=>by kernel_rfl) 1099511627776 (@Ci (fo) vt) (by kernel_rfl)
def aoY:=hU xm [aoE,ao2] 377 [bA fu,vA,fA 317] jE (λx=>azd x.1 x.2.1)
def aoW:=hU xm [aoY] 316 [bA fu,fA 317] jE (λx=>V4 x.1)
def ap7:=kA xm 252 qZ qZ yh [aoW]
def ap8:=kC ap7 192 fG iT tQ qZ NR
def ap9:=kC ap8 251 tQ tQ iT tQ yg
def aqb:=kC ap9 191 qZ tQ tQ tQ NQ
def aqc:=kC aqb 258 aT aT iT Ot SP
def aqd:=kB aqc 115 aT aT aT Cw
def aqe:=kB aqd 329 aT aT iT xg
def aqf:=kB aqe 382 aT aT .bool yy
def aqg:=kB aqf 381 aT aT (.aI (c2 aT aT)) Fa
def aqh:=kD aqg 330 aT aT aT aT WI KB
def aqi:=kD aqh 259 aT aT aT aT Oq KA
def aqj:=kA aqi 361 tv iT Qu
def aqk:=kA aqj 384 tv iT wD
def lS:=kA aqk 423 iT tv N3
def aoJ:=hU lS [] 403 [bA tQ,vA,vA,fA 125] jE (λx=>T7 x.1 x.2.1 x.2.2.1)
def aoR:=hU lS [] 422 [bA tQ,vA,vA,vA,fA 125] jE (λx=>FY x.1 x.2.1 x.2.2.1 x.2.2.2.1)
def aoI:=hU lS [aoR] 404 [bA tQ,vA,vA,fA 125] jE (λx=>LO x.1 x.2.1 x.2.2.1)
def aoG:=hU lS [] 405 [bA tQ,vA,vA,fA 125] jE (λx=>LL x.1 x.2.1 x.2.2.1)
def aoL:=hU lS [] 431 [bA tQ,vA,vA,.cell true iT,fA 125] oS (λx=>FU x.1 x.2.1 x.2.2.1 x.2.2.2.1)
def ab5:=hU lS [aoL] 426 [bA tQ,vA,vA,vA,.cell true iT,fA 125] iT (λx=>FT x.1 x.2.1 x.2.2.1 x.2.2.2.1 x.2.2.2.2.1)
def aoK:=hU lS [ab5] 425 [bA tQ,vA,.cell true iT,fA 125] iT (λx=>Bq x.1 x.2.1 x.2.2.1)
def aoH:=hU lS [ab5,aoK] 406 [bA tQ,vA,vA,fA 125] oS (λx=>LM x.1 x.2.1 x.2.2.1)
def aoQ:=hU lS [] 407 [bA tQ,vA,vA,fA 125] jE (λx=>LQ x.1 x.2.1 x.2.2.1)
def aoN:=hU lS [] 408 [bA tQ,vA,vA,fA 125] .bool (λx=>LP x.1 x.2.1 x.2.2.1)
def aoM:=hU lS [] 409 [bA tQ,vA,vA,vA,fA 125] iT (λx=>FV x.1 x.2.1 x.2.2.1 x.2.2.2.1)
def aoP:=hU lS [] 410 [bA tQ,vA,vA,vA,fA 125] WH (λx=>FX x.1 x.2.1 x.2.2.1 x.2.2.2.1)
def aoO:=S5 HS JS US lS [aoJ,aoI,aoG,aoH,aoQ,aoN,aoM,aoP] 383 [bA tQ,vA,vA,vA,fA 125] jE (λa x=>a x.1 x.2.1 x.2.2.1 x.2.2.2.1) (λ_ _ _ _=>none) FW (λx=>rfl) (λa x=>by kernel_rfl) 1099511627776 Ub (by kernel_rfl)
def aoS:=hU lS [aoO] 331 [bA tQ,fA 125] jE (λx=>FZ x.1)
def aqm:=kC lS 195 fG aT aT Co E9 [aoS]
def aqn:=kD aqm 123 fG iT aT aT pR IG
def aqo:=kB aqn 188 tQ tQ pR Vx
def aqp:=kB aqo 122 tQ iT pR Qh
def aqq:=kD aqp 90 fG iT iT iT pR Qg
def aqr:=kA aqq 91 tQ tb Je
def aqs:=kD aqr 62 fG iT iT iT tb Eb
def aqt:=kC aqs 32 fG iT eN yw Ea
def aqu:=kC aqt 7 fO iT eN yw D3
def aqw:=kA aqu 211 db Co BF
def aqx:=kA aqw 155 tn tn jC
def aqy:=kB aqx 101 .bool tn tZ lz
def aqz:=kA aqy 72 tZ iT sM
def aqA:=kA aqz 71 iT tZ sL
def aqB:=kA aqA 41 iT tQ dK
def aqC:=kA aqB 223 tn iT Gf
def aqD:=kB aqC 292 tn iT tn Mn
def aqE:=kB aqD 293 tn iT tv lZ
def aqF:=kB aqE 224 tn iT tn sK
def aqH:=kB aqF 294 tn tv tn Mm
def aqI:=kB aqH 295 tn tn iT Gg
def aqJ:=kB aqI 227 tn tn (.aI (c2 tn .bool)) xI
def aqK:=kB aqJ 225 tn tn (.aI (c2 tv tn)) Gk
def aqL:=kB aqK 156 tn tn ahE Gi
def aqM:=kB aqL 102 tn tn tn Mk
def aqN:=kA aqM 103 tZ tZ xJ
def aqO:=kB aqN 226 tn tn tn Mh
def aqP:=kB aqO 158 tZ tZ tZ BA
def aqQ:=kB aqP 157 tZ tZ tZ Gm
def aqS:=kB aqQ 104 tZ tZ ahF BB
def aqT:=kB aqS 73 tZ tZ tQ va
def aqU:=kA aqT 42 tQ tQ gO
def aqV:=kA aqU 283 tZ iT Gl
def aqW:=kA aqV 212 tQ iT Mo
def aqX:=kA aqW 136 db .bool vd
def aqY:=kB aqX 291 tn tn tn Ml
def aqZ:=kB aqY 221 tZ tZ tZ nQ
def aq0:=kB aqZ 154 tQ tQ tQ mV
def aq1:=kA aq0 343 tQ tQ Mr
def aq3:=kB aq1 153 tQ tQ tQ gZ
def aq4:=kB aq3 273 tQ tQ tQ vb
def aq5:=kA aq4 206 db tQ xP
def aq6:=kB aq5 220 tZ tZ iT UP
def aq7:=kB aq6 149 tQ tQ iT iL
def aq8:=kA aq7 140 iT iT ve
def aq9:=kB aq8 348 lG iT .bool MC
def ara:=kA aq9 139 pQ yt Gt
def arb:=kA ara 66 aT .bool fD
def arc:=kB arb 284 lG iT iT MF
def arf:=kA arc 214 lG oS MB
def arh:=kA arf 138 lG .bool vf
def ari:=kA arh 274 iT .bool GM
def arj:=kA ari 275 kU .bool GK
def ark:=kA arj 276 kU .bool BN
def arl:=kA ark 277 kU .bool GJ
def arn:=kA arl 278 kU .bool GI
def aro:=kA arn 207 kU .bool GL
def arp:=kC aro 345 iT iT iT .bool sQ
def arq:=kA arp 344 iT .bool Vk
def art:=kA arq 346 yu .bool Vi
def aru:=kA art 279 Ho .bool M8
def arx:=kA aru 411 kV .bool Nd
def ary:=kA arx 412 kV .bool GH
def arz:=kA ary 433 db db Gq
def arA:=kB arz 436 tZ tZ .bool xK
def arB:=kB arA 435 tQ tQ .bool Ms
def arC:=kB arB 434 Co Co .bool Gp
def arD:=kB arC 432 db db .bool UZ
def arE:=kB arD 427 db db .bool BG
def arG:=kA arE 413 db .bool Vn
def arH:=kA arG 414 Ov .bool GD
def arI:=kA arH 415 iT .bool BM
def arJ:=kB arI 281 iT iT .bool Vm
def arK:=kA arJ 282 vz .bool Na
def arL:=kA arK 210 Ck .bool GG
def arM:=kA arL 386 kV .bool Nc
def arN:=kA arM 347 kV .bool Nf
def arO:=kA arN 280 (.aw kV) .bool Ni
def arP:=kA arO 208 kU iT Nh
def arR:=kA arP 209 iT .bool Vl
def arS:=kA arR 131 kU iT Ng
def arT:=kB arS 132 Ht iT iT Vq
def arU:=kB arT 133 Ht iT .bool Nl
def arV:=kB arU 93 Ht iT iT GR
def arW:=kA arV 64 fO oS Nj
def arX:=kA arW 33 fO .bool BP
def arY:=kB arX 134 fO iT .bool Nk
def arZ:=kB arY 135 Ht iT iT Vr
def ar0:=kE arZ 21 (.cn iT (.cn iT (.cn iT (.cn iT (c2 tQ tQ))))) db (λx=>U0 x.1 x.2.1 x.2.2.1 x.2.2.2.1 x.2.2.2.2.1 x.2.2.2.2.2.1)
def ar2:=kE ar0 12 .nl db (λx=>Mz)
def ar3:=kB ar2 9 Ww Ww .bool GC
def ar4:=kB ar3 34 fO iT .bool Nu
def ar5:=kA ar4 36 eN .bool Ns
def ar6:=kC ar5 18 fO iT eN iT Nq
def ar7:=kB ar6 94 fO iT yu GN
def ar8:=kD ar7 213 tQ tQ tQ tQ tQ pM
def ar9:=kB ar8 137 db db db Mx
def asa:=kA ar9 95 (.aw db) Ou My
def asb:=kB asa 67 fO iT Ou Np
def asd:=kC asb 215 db tQ tQ (.aI (c2 tQ tQ)) Mw
def ase:=kB asd 222 tZ tZ pR Gn
def asf:=kB ase 150 iT iT pR qK
def ash:=kA asf 152 tQ tZ sO
def asi:=kA ash 151 tZ WH sN
def asj:=kB asi 141 db aT WI BE
def asl:=kB asj 96 lG db (.aI (c2 lG iT)) MD
def asm:=kA asl 142 iT .bool U6
def asn:=kA asm 389 qY .bool xQ
def aso:=kC asn 416 aT aT aT iT U2
def asq:=kC aso 387 qY iT iT oS Gu
def asr:=kB asq 349 yt iT oS MK
def ass:=kB asr 388 iT iT .bool Gv
def ast:=kB ass 390 iT iT iT xS
def asu:=kC ast 350 yt iT iT aT MJ
def asv:=kB asu 285 yt iT Cp U4
def asw:=kB asv 351 Cr iT oS MH
def asx:=kC asw 352 Cr iT iT aT MG
def asy:=kB asx 286 Cr iT Cp U3
def asz:=kC asy 216 aT pQ iT Cp ML
def asB:=kC asz 143 lG iT iT (.aI (.cn s7 (c2 iT iT))) U5
def asD:=kB asB 97 lG iT ahG MI
def asE:=kA asD 144 qY qY Gw
def asF:=kA asE 98 (.aw s7) fG Gx
def asG:=kC asF 68 lG db iT ahH M9
def asH:=kB asG 37 fO iT ahD Nn
def asI:=kB asH 38 eN tb yw M7
def asJ:=kA asI 69 fG .bool xT
def asK:=kB asJ 145 fG iT iT xV
def asL:=kB asK 146 iT iT (.aI (c2 aT .bool)) M0
def asN:=kA asL 353 fG (.aw (.st 4 (c2 aT aT))) Gz
def asO:=kC asN 428 iT iT iT iT Mt
def asP:=kA asO 417 aT aT xN
def asQ:=kB asP 391 aT aT aT BD
def asR:=kB asQ 392 aT aT iT xO
def asS:=kB asR 418 aT aT .bool vc
def asT:=kA asS 419 aT Oq afs
def asU:=kD asT 393 aT aT aT aT Oq MT
def asV:=kD asU 354 aT aT aT aT Oq MU
def asW:=kC asV 355 aT aT iT Ot BJ
def asY:=kC asW 287 fG aT aT Co GA
def asZ:=kB asY 289 tQ tQ tQ Mp
def as0:=kB asZ 360 tQ tQ .bool ji
def as2:=kC as0 394 aT aT tQ Ot MV
def as3:=kD as2 395 tQ iT tQ iT .bool MW
def as4:=kB as3 357 fG tQ (.aI (c2 Co yu)) GB
def as5:=kB as4 358 iT iT .bool BH
def as6:=kA as5 396 qZ qZ MY
def as7:=kA as6 359 qZ qZ xU
def as8:=kC as7 288 fG iT tQ qZ MZ
def ata:=kC as8 290 qZ tQ tQ tQ MX
def atb:=kD ata 218 fG iT aT aT tQ Vd
def atc:=kD atb 147 fG iT aT aT pR M1
def atd:=kB atc 219 tQ tQ pR UT
def ate:=kA atd 148 tQ tQ Vf
def atf:=kD ate 99 fG iT iT iT pR Vg
def atg:=kA atf 100 tQ tb M4
def ath:=kD atg 70 fG iT iT iT tb BL
def ati:=kC ath 39 fG iT eN yw M5
def atj:=kC ati 19 fO iT eN yw Nr
def atl:=kC atj 8 fO iT eN yw Vs
def aoF:=kC0 atl 3 fO iT eN .bool S6
end
end Go.Proofs.YtlbeeoomoojgfaaGreatDoor
end
