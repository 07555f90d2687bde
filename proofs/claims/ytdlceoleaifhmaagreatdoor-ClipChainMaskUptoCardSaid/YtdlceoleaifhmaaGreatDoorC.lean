/- A part of the proof. -/
import Derived.Test.YtdlceoleaifhmaaGreatDoorB
import Derived.Test.YtdlceoleaifhmaaGreatDoorT
set_option linter.all false
open Bool renaming false->Y
noncomputable section
namespace Go.Proofs.YtdlceoleaifhmaaGreatDoor
open Go.As
section
variable [Gh]
abbrev tu:Ty:=.int .u32
abbrev tv:Ty:=.int .u64
abbrev tb:Ty:=.int .u8
abbrev tn:Ty:=.aw tu
abbrev aBX:Ty:=.st 5 (.cn tQ (.cn iT .nl))
abbrev c1(a:Ty):Ty:=.cn a .nl
abbrev c2(a b:Ty):Ty:=.cn a (.cn b .nl)
abbrev vI:Pt:=.val iT
abbrev vA:Ap:=.val iT
abbrev bA(a:Ty):Ap:=.buf true a
abbrev fA(a:Nat):Ap:=.fn a [] []
def hA(l:List (Nat×Pt)):Hint:=⟨l,[],[]⟩
def hB(l:List (Nat×Pt))(a:List (Nat×Ty)):Hint:=⟨l,[],a⟩
def hC(l a:List (Nat×Pt))(b:List (Nat×Ty)):Hint:=⟨l,a,b⟩
def HS:List (Nat×Nat×Hint):=[(4,3,hI [3,12]),(4,10,hI [68]),(4,13,hI [74]),(7,7,hC [(10,.buf Y Ww),(28,vI)] [(3,.val fO),(4,.val eN)] []),(9,4,hI [5]),(10,3,hI [20]),(18,5,hA [(5,.buf Y iT),(6,vI)]),(19,7,hC [(21,vI)] [(1000004,.val eN)] []),(34,13,hB [(10,vI)] [(1000040,tb)]),(34,17,hB [(11,vI)] [(1000040,tb)]),(36,2,hI [5]),(39,3,hC [(6,vI)] [(1000005,.agg 5 [.val eN,.buf Y tb])] []),(39,6,hC [(7,vI)] [(1000005,.agg 5 [.val eN,.buf Y tb])] []),(40,3,hA [(6,.val tb),(18,vI)]),(48,2,hI [5]),(64,8,hC [(5,vI),(35,vI)] [(1000004,.mp .i64 .bool)] []),(68,3,hI [3,8]),(76,6,hI [4]),(90,6,hA [(1,vI),(6,.buf Y db)]),(95,6,hC [(3,.val .err),(4,vI)] [(1000005,.val (.st 2 (c2 iT .err)))] []),(99,6,hC [(30,vI)] [(1000006,.val aT),(1000007,.val aT)] []),(104,2,hI [8]),(114,2,hA [(5,.val tn),(6,.val tn)]),(119,3,hC [(12,vI)] [(1000002,.agg 24 [.agg 4 [.agg 2 [.val .bool,.nil],.agg 2 [.val .bool,.nil]],.agg 4 [.agg 2 [.val .bool,.nil],.agg 2 [.val .bool,.nil]],.agg 4 [.agg 2 [.val .bool,.nil],.agg 2 [.val .bool,.nil]],.agg 4 [.agg 2 [.val .bool,.nil],.agg 2 [.val .bool,.nil]],.agg 4 [.agg 2 [.val .bool,.nil],.agg 2 [.val .bool,.nil]],.agg 4 [.agg 2 [.val .bool,.nil],.agg 2 [.val .bool,.nil]]])] []),(119,9,hC [(23,vI)] [(1000002,.agg 24 [.agg 4 [.agg 2 [.val .bool,.nil],.agg 2 [.val .bool,.nil]],.agg 4 [.agg 2 [.val .bool,.nil],.agg 2 [.val .bool,.nil]],.agg 4 [.agg 2 [.val .bool,.nil],.agg 2 [.val .bool,.nil]],.agg 4 [.agg 2 [.val .bool,.nil],.agg 2 [.val .bool,.nil]],.agg 4 [.agg 2 [.val .bool,.nil],.agg 2 [.val .bool,.nil]],.agg 4 [.agg 2 [.val .bool,.nil],.agg 2 [.val .bool,.nil]]]),(1000004,.val db)] []),(121,5,hA [(6,.buf Y pQ),(19,vI)]),(121,9,hA [(9,.buf Y aT),(26,vI)]),(122,7,hA [(6,.cB s7 (.agg 2 [.buf Y aT,.val .bool])),(29,vI)]),(122,24,hI [13,115]),(123,3,hA [(3,.buf Y (.aw aT)),(8,vI)]),(129,2,hI [8]),(130,3,hI [3,11]),(130,11,hA [(6,.buf Y aT),(27,vI)]),(133,13,hC [(16,vI)] [(1000004,.val (.aw (.aw aT))),(1000005,vI),(1000011,.val tQ),(1000012,.val tQ),(1000013,.val tQ)] []),(137,4,hA [(5,.val tv),(6,vI)]),(146,2,hI [5]),(148,3,hI [4]),(167,2,hI [3]),(167,6,hA [(4,.buf Y tu),(5,vI)]),(168,9,hB [(12,.val tn),(13,vI)] [(1000011,tu)]),(168,13,hA [(14,.buf Y tu),(15,vI)]),(180,1,hC [(9,vI)] [(1000000,.qj s7 (.agg 2 [.buf Y aT,.val .bool]))] []),(183,2,hI [7]),(199,4,hC [(17,vI)] [(1000007,.val tQ)] []),(200,5,hA [(7,.buf Y fu),(8,vI),(17,vI)]),(203,7,hC [(56,vI)] [(1000009,.buf Y tQ)] []),(203,10,hC [(62,vI)] [(1000009,.buf Y tQ)] []),(203,20,hC [(83,vI)] [(1000009,.buf Y tQ)] []),(203,27,hC [(101,vI)] [(1000009,.buf Y tQ)] []),(214,17,hA [(15,.val tv),(16,.val tv)]),(214,24,hA [(16,.val tv),(18,.val tv)]),(219,4,hI [3]),(223,4,hI [4]),(232,6,hA [(4,vI),(5,.val tu)]),(233,7,hA [(5,.buf Y tu),(6,vI)]),(234,5,hA [(8,.val tv),(9,.val tn)]),(235,4,hA [(5,.buf Y tu),(6,.val tv),(7,vI)]),(236,6,hA [(6,.buf Y tu),(7,.val tv),(8,vI)]),(243,5,hI [4,13]),(260,3,hA [(3,.buf Y fu),(12,vI)]),(260,11,hA [(6,.buf Y fu),(37,vI)]),(267,8,hC [(59,vI)] [(1000008,.agg 4 [.agg 2 [.val .bool,.nil],.agg 2 [.val .bool,.nil]]),(1000009,.agg 4 [.agg 2 [.val .bool,.nil],.agg 2 [.val .bool,.nil]])] []),(273,2,hI [3]),(274,11,hA [(11,.buf Y tu)]),(274,15,hB [(13,vI)] [(1000011,tu),(1000012,tu)]),(274,23,hB [(16,.val tv),(105,vI)] [(1000011,tu)]),(275,4,hB [(6,.val tv),(17,vI)] [(1000005,tu)]),(277,2,hA [(0,.val tn),(1,.val tn)]),(279,6,hB [(7,.val tv),(20,vI)] [(1000006,tu)]),(280,4,hB [(23,vI)] [(1000005,tu)]),(280,9,hB [(8,.val tv),(32,vI)] [(1000005,tu)]),(289,2,hI [3]),(300,3,hB [(6,vI)] [(1000005,tu)]),(300,7,hB [(7,.val tv),(8,vI)] [(1000005,tu)]),(301,4,hA [(5,.buf Y tu),(6,.val tv),(7,vI)]),(303,4,hA [(5,.buf Y tu),(6,.val tv),(7,vI)]),(304,2,hI [5]),(315,4,hI [13]),(316,4,hI [13]),(318,3,hA [(3,.val .bool),(11,vI)]),(322,2,hI [8]),(329,3,hI [8]),(333,5,hA [(5,.buf Y (.aw aT)),(16,vI)]),(333,9,hA [(8,.buf Y aT),(22,vI)]),(334,2030000001,hC [(10,vI)] [(5,.buf Y tQ),(8,.buf Y (.st 4 (c2 aT aT)))] []),(334,2030000004,hC [(16,vI)] [(5,.buf Y tQ),(8,.buf Y (.st 4 (c2 aT aT)))] []),(334,2610000001,hC [(10,vI)] [(1,.buf Y aBX)] []),(334,2610000004,hC [(16,vI)] [(1,.buf Y aBX)] []),(340,4,hB [(5,vI)] [(1000000,tQ)]),(340,9,hB [(5,vI),(7,vI)] [(1000000,tQ)]),(343,7,hI [5]),(344,4,hB [(7,.val tv),(8,vI)] [(1000006,tu)]),(346,8,hB [(37,vI)] [(1000007,tu)]),(346,17,hB [(76,vI)] [(1000011,tu)]),(347,4,hA [(7,.val tv),(8,.val tv)]),(348,3,hB [(7,.val tv),(8,.val tv),(15,vI)] [(1000000,tu)]),(355,3,hA [(3,.val .bool),(4,vI)]),(370,4,hI [19]),(370,10,hI [10]),(372,1,hC [(4,vI)] [(3,.buf Y aT)] []),(373,2,hI [11]),(377,2,hI [8]),(385,2,hB [(7,vI),(8,vI)] [(0,fu)]),(385,7,hB [(6,vI)] [(0,fu)]),(385,9,hB [(7,vI),(8,vI)] [(0,fu)]),(386,2,hB [(7,vI),(8,vI)] [(0,aBX)]),(386,7,hB [(6,vI)] [(0,aBX)]),(386,9,hB [(7,vI),(8,vI)] [(0,aBX)]),(391,2,hB [(1,vI),(2,vI),(3,vI),(10,.val .bool),(11,.val .bool)] [(1000000,tQ)]),(405,4,hI [13]),(406,5,hI [3,16]),(407,1,hB [(8,vI)] [(0,fu)]),(407,4,hB [(9,vI)] [(0,fu)]),(408,3,hI [10,11]),(408,9,hB [(13,vI)] [(0,fu)]),(408,15,hI [14,15]),(408,21,hB [(17,vI)] [(0,fu)]),(408,33,hI [20,21]),(409,1,hB [(8,vI)] [(0,aBX)]),(409,4,hB [(9,vI)] [(0,aBX)]),(410,3,hI [10,11]),(410,9,hB [(13,vI)] [(0,aBX)]),(410,15,hI [14,15]),(410,21,hB [(17,vI)] [(0,aBX)]),(410,33,hI [20,21]),(411,1,hB [(8,vI)] [(0,tQ)]),(411,4,hB [(9,vI)] [(0,tQ)]),(412,4,hB [(11,vI)] [(1000000,tQ)]),(412,8,hB [(12,vI)] [(1000000,tQ)]),(413,5,hC [(11,vI)] [(1000009,.val tv)] [(1000000,tQ)]),(415,2,hB [(8,vI),(9,vI)] [(1000000,tQ)]),(416,3,hB [(9,vI),(10,vI)] [(1000000,tQ)]),(416,5,hI [9]),(416,14,hB [(11,vI)] [(1000000,tQ)]),(416,20,hB [(12,vI)] [(1000000,tQ)]),(417,3,hI [11]),(417,5,hI [12]),(417,500003,hB [(11,vI),(12,vI)] [(1000000,tQ)]),(418,3,hI [12]),(418,5,hI [13]),(418,13,hI [12]),(418,15,hI [13]),(418,500013,hB [(12,vI),(13,vI)] [(1000000,tQ)]),(422,2,hI [3]),(428,2,hB [(10,vI),(11,vI)] [(0,fu)]),(429,2,hB [(10,vI),(11,vI)] [(0,aBX)]),(430,1,hB [(10,vI)] [(1000000,tQ)]),(437,1,hB [(10,vI)] [(0,fu)]),(438,1,hB [(10,vI)] [(0,aBX)]),(442,4,hI [5]),(444,4,hI [5]),(8,7,hC [(9,.buf Y Ww),(11,vI)] [(1000006,.agg 5 [.val eN,.nil])] []),(21,5,hA [(5,.buf Y iT),(6,vI)]),(21,8,hI [7]),(23,7,hC [(5,vI)] [(1000004,.val eN)] []),(23,12,hC [(7,vI)] [(1000006,.agg 5 [.val eN,.buf Y tb])] []),(23,15,hC [(8,vI)] [(1000006,.agg 5 [.val eN,.buf Y tb])] []),(23,19,hA [(9,.val tb),(10,vI)]),(50,7,hC [(7,vI)] [(1000006,.agg 5 [.val eN,.buf Y tb])] []),(51,11,hC [(9,vI)] [(1000008,.agg 5 [.val eN,.buf Y tb])] []),(51,14,hC [(10,vI)] [(1000008,.agg 5 [.val eN,.buf Y tb])] []),(52,2,hI [3]),(79,8,hA [(7,.buf Y db),(8,vI)]),(81,3,hI [3,4]),(81,9,hI [5]),(107,3,hC [(5,vI)] [(1000002,.agg 24 [.agg 4 [.agg 2 [.val .bool,.nil],.agg 2 [.val .bool,.nil]],.agg 4 [.agg 2 [.val .bool,.nil],.agg 2 [.val .bool,.nil]],.agg 4 [.agg 2 [.val .bool,.nil],.agg 2 [.val .bool,.nil]],.agg 4 [.agg 2 [.val .bool,.nil],.agg 2 [.val .bool,.nil]],.agg 4 [.agg 2 [.val .bool,.nil],.agg 2 [.val .bool,.nil]],.agg 4 [.agg 2 [.val .bool,.nil],.agg 2 [.val .bool,.nil]]]),(1000004,.val db)] []),(108,5,hA [(6,.buf Y pQ),(7,vI)]),(109,8,hA [(6,.buf Y s7),(7,vI),(8,vI)]),(110,3,hA [(3,.buf Y (.aw aT)),(4,vI)]),(155,4,hC [(11,vI)] [(1000010,.agg 2 [.buf Y aT,.val .bool]),(1000009,.val aT),(1000006,.agg 2 [.nil,.val .bool])] []),(155,7,hC [] [(1000010,.val s7)] []),(156,3,hA [(3,.buf Y aT),(4,vI)]),(163,4,hA [(5,.val tv),(6,vI)]),(226,2,hA [(0,.buf Y aT),(5,vI)]),(227,4,hC [(11,vI)] [(1000009,.val tQ)] []),(294,6,hA [(8,.buf Y aT),(9,vI)]),(295,6,hA [(8,.buf Y aT),(9,vI)]),(296,5,hA [(7,.buf Y tQ),(8,vI)]),(296,8,hA [(7,.buf Y tQ),(9,vI)]),(296,13,hA [(7,.buf Y tQ),(11,vI)]),(296,16,hA [(7,.buf Y tQ),(12,vI)]),(296,29,hA [(20,.buf Y tQ),(21,vI)]),(297,5,hA [(9,.buf Y fu),(10,vI),(11,vI)]),(299,4,hC [(9,vI)] [(1000007,.val tQ)] []),(362,5,hA [(3,.buf Y (.st 4 (c2 aT aT))),(4,vI)]),(362,8,hA [(3,.buf Y (.st 4 (c2 aT aT))),(5,vI)]),(365,2,hI [5]),(366,7,hA [(6,.buf Y tQ),(7,.buf Y iT),(9,vI)]),(366,21,hB [(17,vI)] [(1000006,tQ),(1000007,iT)]),(368,4,hA [(4,.buf Y fu),(5,vI)]),(395,9,hI [9]),(397,2,hI [3]),(404,3,hA [(3,.buf Y fu),(4,vI)]),(404,8,hB [(5,vI)] [(1000003,fu)])]
def JS:List (Nat×Nat×Hint):=[(34,9,hC [] [(1000006,.agg 5 [.val eN,.nil])] []),(86,4,hA [(3,.val tv)]),(88,5,hC [] [(1000002,.val tZ),(1000003,.val tZ)] []),(95,4,hA [(3,.val .err)]),(101,4,hC [] [(1000011,.val aT)] []),(122,5,hI []),(137,7,hA [(5,.val tv)]),(137,11,hI []),(143,6,hI []),(145,13,hI []),(152,4,hA [(4,.val .bool)]),(167,4,hI [3]),(168,16,hA [(14,.buf Y tu)]),(194,3,hI []),(210,7,hA [(7,.val tn)]),(214,3,hI []),(214,5,hI []),(214,21,hA [(15,.val tv)]),(214,28,hA [(18,.val tv)]),(244,7,hA [(9,.val .bool)]),(267,17,hC [] [(1000019,.val aT)] []),(273,4,hI [3]),(274,30,hB [(15,.val tv)] [(1000011,tu)]),(321,16,hI []),(338,5,hC [] [(1000004,.val aT)] []),(338,7,hC [] [(1000005,.val aT)] []),(351,4,hA [(0,.val tv),(2,vI)]),(351,7,hA [(0,.val tv),(2,vI)]),(351,10,hA [(0,.val tv),(2,vI)]),(385,6,hB [(7,vI)] [(0,fu)]),(385,16,hB [] [(0,fu)]),(386,6,hB [(7,vI)] [(0,aBX)]),(386,16,hB [] [(0,aBX)]),(391,10,hB [(3,vI)] [(1000000,tQ)]),(391,15,hB [(13,vI),(14,vI)] [(1000000,tQ)]),(391,17,hB [] [(1000000,tQ)]),(393,4,hA [(0,.val tu),(2,vI)]),(393,7,hA [(0,.val tu),(2,vI)]),(407,2,hB [] [(0,fu)]),(408,8,hI [10]),(408,20,hI [14]),(408,32,hI [20,21]),(408,38,hI [20]),(408,41,hB [] [(0,fu)]),(408,43,hB [] [(0,fu)]),(409,2,hB [] [(0,aBX)]),(410,8,hI [10]),(410,20,hI [14]),(410,32,hI [20,21]),(410,38,hI [20]),(410,41,hB [] [(0,aBX)]),(410,43,hB [] [(0,aBX)]),(411,2,hB [] [(0,tQ)]),(413,10,hI [12]),(414,11,hC [(12,vI),(13,vI),(14,vI)] [(1000011,vI)] [(1000000,tQ)]),(414,12,hC [(13,vI)] [(1000011,vI)] [(1000000,tQ)]),(416,7,hI [9]),(416,18,hB [] [(1000000,tQ)]),(417,5,hI [11]),(417,7,hI [12]),(418,5,hI [12]),(418,7,hI [13]),(418,15,hI [12]),(418,17,hI [13]),(418,21,hB [(13,vI)] [(1000000,tQ)]),(428,8,hB [(10,vI)] [(0,fu)]),(429,8,hB [(10,vI)] [(0,aBX)]),(430,5,hI [11]),(155,9,hC [] [(1000010,.val s7),(1000006,.agg 2 [.nil,.val .bool])] []),(155,16,hC [(11,vI)] [(1000010,.agg 2 [.buf Y aT,.val .bool]),(1000009,.val aT),(1000006,.agg 2 [.nil,.val .bool])] []),(296,24,hA [(7,.buf Y tQ)]),(299,9,hC [] [(1000010,.val tQ)] []),(299,11,hC [] [(1000011,.val tQ)] []),(363,14,hI [14,15,16]),(365,4,hI [5]),(366,14,hI [14]),(366,16,hI [14]),(395,8,hI [8]),(401,3,hC [] [(1000004,.val aT),(1000005,.val aT)] []),(401,5,hC [] [(1000006,.val aT),(1000007,.val aT)] []),(401,8,hC [] [(1000011,.val aT)] []),(401,10,hC [] [(1000012,.val aT)] [])]
def US:List (Nat×Nat):=[(122,1000008),(168,1000010),(172,2),(178,3),(238,3),(293,8),(306,2),(345,1000000),(380,3),(108,9)]
def kE0(l:List (Kn dO))(b:Nat)(a c:Ty)(d:a.den->Option c.den)(e:List (ld dO):=[])(hm:dO.sm b=none:=by rfl)(h:∀x,nv (jW dO (kT l) (kM e) (hF HS) (hF JS) (uF US)) 200 b a c x=d x:=by intro x;kernel_rfl):Kn dO:=knm HS JS US l e b a c d hm h
def kE(l:List (Kn dO))(b:Nat)(a c:Ty)(d:a.den->Option c.den)(e:List (ld dO):=[])(hm:dO.sm b=none:=by rfl)(h:∀x,nv (jW dO (kT l) (kM e) (hF HS) (hF JS) (uF US)) 200 b a c x=d x:=by intro x;kernel_rfl):List (Kn dO):=kE0 l b a c d e hm h::l
def kA(l:List (Kn dO))(b:Nat)(a c:Ty)(d:a.den->Option c.den)(e:List (ld dO):=[])(hm:dO.sm b=none:=by rfl)(h:∀x,nv (jW dO (kT l) (kM e) (hF HS) (hF JS) (uF US)) 200 b (c1 a) c x=d x.1:=by intro x;kernel_rfl):List (Kn dO):=kE l b (c1 a) c (λx=>d x.1) e hm h
def kB(l:List (Kn dO))(c:Nat)(a b d:Ty)(e:a.den->b.den->Option d.den)(f:List (ld dO):=[])(hm:dO.sm c=none:=by rfl)(h:∀x,nv (jW dO (kT l) (kM f) (hF HS) (hF JS) (uF US)) 200 c (c2 a b) d x=e x.1 x.2.1:=by intro x;kernel_rfl):List (Kn dO):=kE l c (c2 a b) d (λx=>e x.1 x.2.1) f hm h
def kC0(l:List (Kn dO))(d:Nat)(a b c e:Ty)(f:a.den->b.den->c.den->Option e.den)(g:List (ld dO):=[])(hm:dO.sm d=none:=by rfl)(h:∀x,nv (jW dO (kT l) (kM g) (hF HS) (hF JS) (uF US)) 200 d (.cn a (c2 b c)) e x=f x.1 x.2.1 x.2.2.1:=by intro x;kernel_rfl):Kn dO:=kE0 l d (.cn a (c2 b c)) e (λx=>f x.1 x.2.1 x.2.2.1) g hm h
def kC(l:List (Kn dO))(d:Nat)(a b c e:Ty)(f:a.den->b.den->c.den->Option e.den)(g:List (ld dO):=[])(hm:dO.sm d=none:=by rfl)(h:∀x,nv (jW dO (kT l) (kM g) (hF HS) (hF JS) (uF US)) 200 d (.cn a (c2 b c)) e x=f x.1 x.2.1 x.2.2.1:=by intro x;kernel_rfl):List (Kn dO):=kE l d (.cn a (c2 b c)) e (λx=>f x.1 x.2.1 x.2.2.1) g hm h
def kD(l:List (Kn dO))(e:Nat)(a b c d f:Ty)(g:a.den->b.den->c.den->d.den->Option f.den)(i:List (ld dO):=[])(hm:dO.sm e=none:=by rfl)(h:∀x,nv (jW dO (kT l) (kM i) (hF HS) (hF JS) (uF US)) 200 e (.cn a (.cn b (c2 c d))) f x=g x.1 x.2.1 x.2.2.1 x.2.2.2.1:=by intro x;kernel_rfl):List (Kn dO):=kE l e (.cn a (.cn b (c2 c d))) f (λx=>g x.1 x.2.1 x.2.2.1 x.2.2.2.1) i hm h
def hU(l:List (Kn dO))(d:List (ld dO))(c:Nat)(ps:List Ap)(a:Ty)(b:(aY.ty ps).den->Option (a.den×(aY.ty ps).den))(h:∀x,I2 (jW dO (kT l) (kM d) (hF HS) (hF JS) (uF US)) 200 c ps a x=b x:=by intro x;kernel_rfl):ld dO:=knM HS JS US l d c ps a b h
abbrev fG:Ty:=.aw (.aw aT)
abbrev ty2:Ty:=.cn aT (c2 aT aT)
abbrev oS:Ty:=.aI (c2 iT iT)
abbrev pR:Ty:=.aI (c2 tQ iT)
abbrev jE:Ty:=.aI .nl
abbrev Cp:Ty:=.aI (c2 Ww iT)
abbrev lG:Ty:=.aI (c2 (.aw aT) iT)
abbrev Cr:Ty:=.aw pQ
abbrev yw:Ty:=.st 8 (.cn aT ty2)
abbrev Oq:Ty:=.aI (.cn tQ (c2 tQ iT))
abbrev qY:Ty:=.aw aT
abbrev qZ:Ty:=.aw fu
abbrev ahC:Ty:=.st 24 (.cn tQ (.cn tQ (.cn tQ (.cn tQ (c2 tQ tQ)))))
abbrev Ot:Ty:=.aI (c2 iT .bool)
abbrev yt:Ty:=.aI (c2 tQ .bool)
abbrev Ou:Ty:=.st 6 ty2
abbrev yu:Ty:=.aI (c2 db iT)
abbrev WH:Ty:=.aw iT
abbrev WI:Ty:=.aI (c2 aT iT)
abbrev Co:Ty:=.aw tQ
abbrev Ht:Ty:=.aw kU
abbrev ahD:Ty:=.aI (.cn fG (c1 .bool))
abbrev ahE:Ty:=.aI (.cn tn (c2 tn iT))
abbrev ahF:Ty:=.aI (.cn tZ (c2 tZ iT))
abbrev ahG:Ty:=.aI (c2 (.aw s7) iT)
abbrev Ov:Ty:=.aw tCs
abbrev ahH:Ty:=.aI (.cn fG (c1 iT))
abbrev ahI:Ty:=.aw Ww
abbrev aEY:Ty:=.st 25 (c2 db .bool)
def kb0:List (Kn dO):=[⟨6,⟨.nl,.bool,λx=>JE⟩,λx y e=>(by cases e;cases x;kernel_rfl)⟩]
def kb1:=kA kb0 10 db .bool Fk
def kb2:=kA kb1 4 fO .bool S8
def kb3:=kA kb2 77 iT .bool xL
def kb4:=kA kb3 45 eN .bool xM
def kb5:=kA kb4 56 eN .bool Mv
def kb6:=kA kb5 24 eN eN BC
def kb7:=kA kb6 11 eN iT sP
def kb8:=kA kb7 5 eN .bool KL
def kb9:=kA kb8 182 iT .bool FD
def ao3:=kB kb9 184 .bool iT .err ka
def ape:=kA ao3 393 tu iT Fl
def apq:=kA ape 342 tn iT bitLen
def apC:=kA apq 269 tZ iT xe
def apQ:=kA apC 208 tn tn sC
def ap1:=kB apQ 343 tn tn iT D7
def aqa:=kB ap1 344 tn tu (.aI (c2 tn tu)) one
def aql:=kA aqa 271 tv tn uB
def aqv:=kA aql 345 tu iT KZ
def aqG:=kB aqv 349 tn iT tv digit
def aqR:=kB aqG 347 tn tn tv J7
def aq2:=kB aqR 274 tn tn ahE divMod
def ard:=kB aq2 277 tn tn tn gcd
def ars:=kB ard 270 .bool tn tZ kF
def arF:=kB ars 211 tZ tZ tQ sT
def arQ:=kB arF 204 tZ tZ pR BX
def ar1:=kA arQ 205 iT tZ xd
def asc:=kA ar1 136 iT tQ eM
def asp:=kA asc 209 tQ tQ jk
def asA:=kA asp 238 db ahC wx
def asM:=kA asA 305 tZ iT E8
def asX:=kA asM 239 tQ iT sS
def as9:=kA asX 172 db .bool uc
def atk:=kB as9 280 tn tn tn La
def atm:=kB atk 213 tZ tZ tZ pA
def atn:=kB atm 140 tQ tQ tQ oH
def ato:=kB atn 206 tQ tQ (.aI (.cn tZ (c2 tZ tZ))) vl
def atp:=kA ato 331 tZ tZ Kx
def atq:=kB atp 275 tn tn tn DC
def atr:=kB atq 279 tn tn (.aI (c2 tn .bool)) Hn
def ats:=kB atr 212 tZ tZ tZ xc
def att:=kB ats 262 tZ tZ tZ AR
def atu:=kB att 202 tQ tQ tQ vk
def atv:=kA atu 247 db tQ zK
def atw:=kB atv 207 tZ tZ iT SL
def atx:=kB atw 135 tQ tQ iT cQ
def aty:=kA atx 185 db .bool Lo
def atz:=kA aty 244 iT iT pJ
def atA:=kC atz 117 iT iT iT iT Fb
def atB:=kA atA 89 iT iT OE
def atD:=kA atB 59 aT aT ra
def atE:=kA atD 26 aT .bool iN
def atF:=kA atE 306 pQ .bool LY
def atG:=kA atF 243 Cr oS LV
def atH:=kA atG 175 Cr .bool xD
def atI:=kB atH 315 WH WH .bool N0
def atJ:=kB atI 248 Ho Ho .bool FE
def atK:=kB atJ 316 (.aw vz) (.aw vz) .bool N1
def atL:=kB atK 249 Ck Ck .bool E2
def atM:=kA atL 186 kU .bool Li
def atN:=kA atM 183 (.aw .err) .err FB
def atO:=kA atN 126 kU .err Lj
def atP:=kA atO 187 iT .bool Qw
def atQ:=kA atP 317 iT .bool Wh
def atS:=kA atQ 318 WH .bool Wf
def atT:=kA atS 250 Ho .bool Ob
def atU:=kA atT 379 kV kV F5
def atV:=kB atU 405 Ov Ov .bool N2
def atW:=kB atV 380 db db .bool ub
def atX:=kB atW 378 kV kV .bool pI
def atY:=kA atX 406 Ov .bool J2
def atZ:=kA atY 382 iT .bool F3
def at0:=kA atZ 381 kV .bool F4
def at1:=kA at0 252 iT .bool Kt
def at2:=kA at1 323 vz vz QT
def at3:=kA at2 255 vz .bool Jd
def at4:=kA at3 254 vz .bool SC
def at5:=kA at4 189 Ck .bool E4
def at6:=kA at5 321 kV .bool F2
def at7:=kA at6 320 kV .bool TF
def at8:=kA at7 251 (.aw kV) .bool Lk
def at9:=kA at8 188 kU .err Lm
def aua:=kA at9 127 kU .err Ll
def aub:=kA aua 95 kU iT Lh
def auc:=kA aub 64 fO oS NS
def aud:=kA auc 29 fO .bool B7
def aue:=kA aud 65 iT .bool x0
def auf:=kA aue 30 eN .bool xZ
def aug:=kA auf 96 eN .bool G1
def auh:=kA aug 66 eN eN BZ
def aui:=kA auh 31 eN iT xY
def auj:=kC aui 16 fO iT eN iT I7
def auk:=kB auj 35 fO iT .bool Hg
def aul:=kB auk 36 Ht iT iT oK
def aum:=kB aul 118 fO iT iT NT
def aun:=kA aum 241 ahC db wt
def auo:=kD aun 237 iT iT iT iT db PZ
def aup:=kE auo 171 .nl db (λx=>IA)
def auq:=kB aup 139 tQ tQ tQ lA
def aur:=kD auq 242 tQ tQ tQ tQ tQ rR
def ao4:=kC aur 240 db tQ tQ (.aI (c2 tQ tQ)) DG
def ao5:=kB ao4 173 db db db IB
def ao6:=kA ao5 174 db db PY
def ao7:=kA ao6 119 (.aw db) yu Iy
def ao8:=kB ao7 90 fO iT yu JZ
def ao9:=kB ao8 60 fO iT (.st 72 (.cn aEY (c1 kU))) RH
def apa:=kA ao9 176 pQ qY LZ
def apb:=kB apa 134 iT iT pR xW
def apc:=kB apb 210 tZ tZ ahF Kw
def apd:=kA apc 138 tQ tZ vj
def apf:=kA apd 137 tZ Ot uP
def apg:=kB apf 177 db aT WI Ix
def aph:=kB apg 178 iT qY pQ Uj
def api:=kB aph 121 Cr db (.aI (c2 Cr iT)) LW
def apj:=kC api 371 aT aT aT iT JU
def apk:=kC apj 370 iT iT qY oS wO
def apl:=kB apk 307 Ou iT oS JR
def apm:=kC apl 373 qY iT iT .bool At
def apn:=kB apm 375 iT iT iT pq
def apo:=kC apn 311 Ou iT iT aT JQ
def apr:=kB apo 245 Ou iT lG RB
def aps:=kB apr 312 yw iT oS JN
def apt:=kC aps 314 yw iT iT aT JM
def apu:=kB apt 246 yw iT lG Rz
def apv:=kC apu 179 aT pQ iT lG JT
def apw:=kB apv 122 Cr iT ahG JO
def apx:=kA apw 123 (.aw s7) fG L2
def apy:=kC apx 91 Cr db iT ahH LH
def apz:=kB apy 61 aEY Cr fG RI
def apB:=kB apz 27 fO iT ahD wQ
def apD:=kB apB 33 eN tb Cp Fs
def apF:=kA apD 98 aT .bool Uk
def apG:=kA apF 68 fG .bool xE
def apH:=kA apG 130 fG qY NZ
def apI:=kA apH 99 fG (.aI (.cn aT (c2 aT .bool))) L0
def apJ:=kA apI 100 iT iT L4
def apK:=kA apJ 69 fG eN L3
def apM:=kC apK 103 eN iT iT .bool Nz
def apN:=kC apM 71 eN iT iT iT NA
def apP:=kA apN 195 iT .bool DL
def apR:=kB apP 131 iT iT aT zN
def apS:=kB apR 197 fG iT iT II
def apT:=kB apS 201 tQ tQ tQ BW
def apU:=kB apT 388 aT aT aT OD
def apV:=kB apU 333 fG aT fG F8
def apW:=kA apV 332 aT .bool SQ
def apX:=kA apW 263 qY .bool AV
def apY:=kB apX 336 iT iT tQ AU
def apZ:=kC apY 335 iT iT tQ tQ xf
def ap0:=kC apZ 326 aT aT tQ yt SO
def ap2:=kA ap0 387 iT .bool Jc
def ap3:=kB ap2 330 iT iT iT Ja
def ap4:=kA ap3 329 WH iT Jb
def xl:=kB ap4 328 aBX aBX iT vv
def aoZ:=hU xl [] 438 [bA aBX,vA,vA,vA,fA 328] jE (λx=>azm x.1 x.2.1 x.2.2.1 x.2.2.2.1)
def aoT:=hU xl [aoZ] 429 [bA aBX,vA,vA,vA,fA 328] jE (λx=>ax9 x.1 x.2.1 x.2.2.1 x.2.2.2.1)
def aoD:=hU xl [] 409 [bA aBX,vA,vA,fA 328] jE (λx=>aot x.1 x.2.1 x.2.2.1)
def ao1:=S5 HS JS US xl [aoT] 410 [bA aBX,vA,vA,vA,fA 328] jE (λa x=>a x.1 x.2.1 x.2.2.1 x.2.2.2.1) (λ_ _ _ _=>none) (@Cj (DQ×Int×Unit) vv) (λx=>rfl) (λa x=>by kernel_rfl) 1099511627776 (@Ci (DQ×Int×Unit) vv) (by kernel_rfl)
def aoX:=hU xl [aoD,ao1] 386 [bA aBX,vA,fA 328] jE (λx=>azc x.1 x.2.1)
def aoV:=hU xl [aoX] 327 [bA aBX,fA 328] jE (λx=>ag4 x.1)
def ap5:=kB xl 261 fG tQ (.aw aBX) He [aoV]
def ap6:=kB ap5 62 iT iT .bool L1
def xm:=kB ap6 325 fu fu iT vt
def ao0:=hU xm [] 437 [bA fu,vA,vA,vA,fA 325] jE (λx=>azn x.1 x.2.1 x.2.2.1 x.2.2.2.1)
def aoU:=hU xm [ao0] 428 [bA fu,vA,vA,vA,fA 325] jE (λx=>aya x.1 x.2.1 x.2.2.1 x.2.2.2.1)
def aoE:=hU xm [] 407 [bA fu,vA,vA,fA 325] jE (λx=>aou x.1 x.2.1 x.2.2.1)
def ao2:=S5 HS JS US xm [aoU] 408 [bA fu,vA,vA,vA,fA 325] jE (λa x=>a x.1 x.2.1 x.2.2.1 x.2.2.2.1) (λ_ _ _ _=>none) (@Cj (fo) vt) (λx=>rfl) (λa x=>by kernel_rfl) 1099511627776 (@Ci (fo) vt) (by kernel_rfl)
def aoY:=hU xm [aoE,ao2] 385 [bA fu,vA,fA 325] jE (λx=>azd x.1 x.2.1)
def aoW:=hU xm [aoY] 324 [bA fu,fA 325] jE (λx=>V4 x.1)
def ap7:=kA xm 260 qZ qZ yh [aoW]
def ap8:=kC ap7 200 fG iT tQ qZ NR
def ap9:=kC ap8 259 tQ tQ iT tQ yg
def aqb:=kC ap9 199 qZ tQ tQ tQ NQ
def aqc:=kC aqb 266 aT aT iT yt SP
def aqd:=kB aqc 125 aT aT aT Cw
def aqe:=kB aqd 337 aT aT iT xg
def aqf:=kB aqe 390 aT aT .bool yy
def aqg:=kB aqf 389 aT aT (.aI (c2 aT aT)) Fa
def aqh:=kD aqg 338 aT aT aT aT WI KB
def aqi:=kD aqh 267 aT aT aT aT Oq KA
def aqj:=kA aqi 351 tv iT Qu
def aqk:=kA aqj 392 tv iT wD
def lS:=kA aqk 431 iT tv N3
def aoJ:=hU lS [] 411 [bA tQ,vA,vA,fA 135] jE (λx=>T7 x.1 x.2.1 x.2.2.1)
def aoR:=hU lS [] 430 [bA tQ,vA,vA,vA,fA 135] jE (λx=>FY x.1 x.2.1 x.2.2.1 x.2.2.2.1)
def aoI:=hU lS [aoR] 412 [bA tQ,vA,vA,fA 135] jE (λx=>LO x.1 x.2.1 x.2.2.1)
def aoG:=hU lS [] 413 [bA tQ,vA,vA,fA 135] jE (λx=>LL x.1 x.2.1 x.2.2.1)
def aoL:=hU lS [] 439 [bA tQ,vA,vA,.cell true iT,fA 135] oS (λx=>FU x.1 x.2.1 x.2.2.1 x.2.2.2.1)
def ab5:=hU lS [aoL] 434 [bA tQ,vA,vA,vA,.cell true iT,fA 135] iT (λx=>FT x.1 x.2.1 x.2.2.1 x.2.2.2.1 x.2.2.2.2.1)
def aoK:=hU lS [ab5] 433 [bA tQ,vA,.cell true iT,fA 135] iT (λx=>Bq x.1 x.2.1 x.2.2.1)
def aoH:=hU lS [ab5,aoK] 414 [bA tQ,vA,vA,fA 135] oS (λx=>LM x.1 x.2.1 x.2.2.1)
def aoQ:=hU lS [] 415 [bA tQ,vA,vA,fA 135] jE (λx=>LQ x.1 x.2.1 x.2.2.1)
def aoN:=hU lS [] 416 [bA tQ,vA,vA,fA 135] .bool (λx=>LP x.1 x.2.1 x.2.2.1)
def aoM:=hU lS [] 417 [bA tQ,vA,vA,vA,fA 135] iT (λx=>FV x.1 x.2.1 x.2.2.1 x.2.2.2.1)
def aoP:=hU lS [] 418 [bA tQ,vA,vA,vA,fA 135] Ot (λx=>FX x.1 x.2.1 x.2.2.1 x.2.2.2.1)
def aoO:=S5 HS JS US lS [aoJ,aoI,aoG,aoH,aoQ,aoN,aoM,aoP] 391 [bA tQ,vA,vA,vA,fA 135] jE (λa x=>a x.1 x.2.1 x.2.2.1 x.2.2.2.1) (λ_ _ _ _=>none) FW (λx=>rfl) (λa x=>by kernel_rfl) 1099511627776 Ub (by kernel_rfl)
def aoS:=hU lS [aoO] 339 [bA tQ,fA 135] jE (λx=>FZ x.1)
def aqm:=kC lS 203 fG aT aT Co E9 [aoS]
def aqn:=kD aqm 133 fG iT aT aT pR IG
def aqo:=kB aqn 196 tQ tQ pR Vx
def aqp:=kB aqo 132 tQ iT pR Qh
def aqq:=kD aqp 101 fG iT iT iT pR Qg
def aqr:=kA aqq 102 tQ tb Je
def aqs:=kD aqr 70 fG iT iT iT tb Eb
def aqt:=kC aqs 34 fG iT eN Cp Ea
def aqu:=kA aqt 220 db Co BF
def aqw:=kA aqu 167 tn tn jC
def aqx:=kB aqw 113 .bool tn tZ lz
def aqy:=kA aqx 87 tZ iT sM
def aqz:=kA aqy 86 iT tZ sL
def aqA:=kA aqz 57 iT tQ dK
def aqB:=kA aqA 232 tn iT Gf
def aqC:=kB aqB 301 tn iT tn Mn
def aqD:=kB aqC 302 tn iT tv lZ
def aqE:=kB aqD 233 tn iT tn sK
def aqF:=kB aqE 303 tn tv tn Mm
def aqH:=kB aqF 304 tn tn iT Gg
def aqI:=kB aqH 236 tn tn (.aI (c2 tn .bool)) xI
def aqJ:=kB aqI 234 tn tn (.aI (c2 tv tn)) Gk
def aqK:=kB aqJ 168 tn tn ahE Gi
def aqL:=kB aqK 114 tn tn tn Mk
def aqM:=kA aqL 115 tZ tZ xJ
def aqN:=kB aqM 235 tn tn tn Mh
def aqO:=kB aqN 170 tZ tZ tZ BA
def aqP:=kB aqO 169 tZ tZ tZ Gm
def aqQ:=kB aqP 116 tZ tZ ahF BB
def aqS:=kB aqQ 88 tZ tZ tQ va
def aqT:=kA aqS 58 tQ tQ gO
def aqU:=kA aqT 292 tZ iT Gl
def aqV:=kA aqU 221 tQ iT Mo
def aqW:=kA aqV 148 db .bool vd
def aqX:=kB aqW 300 tn tn tn Ml
def aqY:=kB aqX 230 tZ tZ tZ nQ
def aqZ:=kB aqY 166 tQ tQ tQ mV
def aq0:=kA aqZ 352 tQ tQ Mr
def aq1:=kB aq0 165 tQ tQ tQ gZ
def aq3:=kB aq1 282 tQ tQ tQ vb
def aq4:=kA aq3 215 db tQ xP
def aq5:=kB aq4 229 tZ tZ iT UP
def aq6:=kB aq5 161 tQ tQ iT iL
def aq7:=kA aq6 152 iT iT ve
def aq8:=kB aq7 357 Cr iT .bool MC
def aq9:=kA aq8 151 pQ Ou Gt
def ara:=kA aq9 78 aT .bool fD
def arb:=kB ara 293 Cr iT iT MF
def arc:=kA arb 223 Cr oS MB
def arf:=kA arc 150 Cr .bool vf
def arh:=kA arf 283 iT .bool GM
def ari:=kA arh 284 kU .bool GK
def arj:=kA ari 285 kU .bool BN
def ark:=kA arj 286 kU .bool GJ
def arl:=kA ark 287 kU .bool GI
def arn:=kA arl 216 kU .bool GL
def aro:=kC arn 354 iT iT iT .bool sQ
def arp:=kA aro 353 iT .bool Vk
def arq:=kA arp 355 WH .bool Vi
def art:=kA arq 288 Ho .bool M8
def aru:=kA art 419 kV .bool Nd
def arx:=kA aru 420 kV .bool GH
def ary:=kA arx 441 db db Gq
def arz:=kB ary 444 tZ tZ .bool xK
def arA:=kB arz 443 tQ tQ .bool Ms
def arB:=kB arA 442 Co Co .bool Gp
def arC:=kB arB 440 db db .bool UZ
def arD:=kB arC 435 db db .bool BG
def arE:=kA arD 421 db .bool Vn
def arG:=kA arE 422 Ov .bool GD
def arH:=kA arG 423 iT .bool BM
def arI:=kB arH 290 iT iT .bool Vm
def arJ:=kA arI 291 vz .bool Na
def arK:=kA arJ 219 Ck .bool GG
def arL:=kA arK 394 kV .bool Nc
def arM:=kA arL 356 kV .bool Nf
def arN:=kA arM 289 (.aw kV) .bool Ni
def arO:=kA arN 217 kU iT Nh
def arP:=kA arO 218 iT .bool Vl
def arR:=kA arP 145 kU iT Ng
def arS:=kB arR 146 Ht iT iT Vq
def arT:=kB arS 147 Ht iT .bool Nl
def arU:=kB arT 106 Ht iT iT GR
def arV:=kA arU 76 fO oS Nj
def arW:=kA arV 43 fO .bool BP
def arX:=kB arW 47 fO iT .bool Nk
def arY:=kB arX 48 Ht iT iT Vr
def arZ:=kE arY 25 (.cn iT (.cn iT (.cn iT (.cn iT (c2 tQ tQ))))) db (λx=>U0 x.1 x.2.1 x.2.2.1 x.2.2.2.1 x.2.2.2.2.1 x.2.2.2.2.2.1)
def ar0:=kE arZ 12 .nl db (λx=>Mz)
def ar2:=kB ar0 9 Ww Ww .bool GC
def ar3:=kB ar2 18 fO iT WH agJ
def ar4:=kA ar3 74 Ww .bool aEe
def ar5:=kA ar4 73 Ww .bool aEf
def ar6:=kA ar5 37 ahI .bool aEh
def ar7:=kB ar6 38 eN eN eN aEi
def ar8:=kC ar7 41 Ww iT iT tb aEj
def ar9:=kA ar8 142 iT tv aEk
def asa:=kB ar9 141 tv tv (.aI (c2 tv tv)) aEl
def asb:=kA asa 281 tv iT aEm
def asd:=kC asb 214 tv tv tv (.aI (c2 tv tv)) aEt
def ase:=kA asd 144 (.st 3 (.cn tv (c2 tv tv))) (.aI (c2 tv .bool)) aEu
def asf:=kC ase 105 iT iT iT Ot aEw
def ash:=kB asf 75 iT iT iT aEx
def asi:=kB ash 42 tb tb tb aEy
def asj:=kA asi 19 ahI Cp aED
def asl:=kC asj 7 fO iT eN Cp aEF
def asm:=kB asl 53 eN eN eN aEG
def asn:=kA asm 83 Ww .bool aEH
def aso:=kC asn 84 eN iT iT .bool aEI
def asq:=kC aso 85 eN iT iT iT aEJ
def asr:=kB asq 55 tb tb tb aEK
def ass:=kB asr 44 fO iT .bool Nu
def ast:=kA ass 46 eN .bool Ns
def asu:=kC ast 20 fO iT eN iT Nq
def asv:=kB asu 21 fO iT WH GN
def asw:=kD asv 222 tQ tQ tQ tQ tQ pM
def asx:=kB asw 149 db db db Mx
def asy:=kA asx 107 (.aw db) yu My
def asz:=kB asy 79 fO iT yu Np
def asB:=kC asz 224 db tQ tQ (.aI (c2 tQ tQ)) Mw
def asD:=kB asB 231 tZ tZ pR Gn
def asE:=kB asD 162 iT iT pR qK
def asF:=kA asE 164 tQ tZ sO
def asG:=kA asF 163 tZ Ot sN
def asH:=kB asG 153 db aT WI BE
def asI:=kB asH 108 Cr db (.aI (c2 Cr iT)) MD
def asJ:=kA asI 154 iT .bool U6
def asK:=kA asJ 397 qY .bool xQ
def asL:=kC asK 424 aT aT aT iT U2
def asN:=kC asL 395 qY iT iT oS Gu
def asO:=kB asN 358 Ou iT oS MK
def asP:=kB asO 396 iT iT .bool Gv
def asQ:=kB asP 398 iT iT iT xS
def asR:=kC asQ 359 Ou iT iT aT MJ
def asS:=kB asR 294 Ou iT lG U4
def asT:=kB asS 360 yw iT oS MH
def asU:=kC asT 361 yw iT iT aT MG
def asV:=kB asU 295 yw iT lG U3
def asW:=kC asV 225 aT pQ iT lG ML
def asY:=kC asW 155 Cr iT iT (.aI (.cn s7 (c2 iT iT))) U5
def asZ:=kB asY 109 Cr iT ahG MI
def as0:=kA asZ 156 qY qY Gw
def as2:=kA as0 110 (.aw s7) fG Gx
def as3:=kC as2 80 Cr db iT ahH M9
def as4:=kB as3 49 fO iT ahD Nn
def as5:=kB as4 50 eN tb Cp M7
def as6:=kA as5 81 fG .bool xT
def as7:=kB as6 157 fG iT iT xV
def as8:=kB as7 158 iT iT (.aI (c2 aT .bool)) M0
def ata:=kA as8 362 fG (.aw (.st 4 (c2 aT aT))) Gz
def atb:=kC ata 436 iT iT iT iT Mt
def atc:=kA atb 425 aT aT xN
def atd:=kB atc 399 aT aT aT BD
def ate:=kB atd 400 aT aT iT xO
def atf:=kB ate 426 aT aT .bool vc
def atg:=kA atf 427 aT Oq afs
def ath:=kD atg 401 aT aT aT aT Oq MT
def ati:=kD ath 363 aT aT aT aT Oq MU
def atj:=kC ati 364 aT aT iT yt BJ
def atl:=kC atj 296 fG aT aT Co GA
def aEZ:=kB atl 298 tQ tQ tQ Mp
def aE0:=kB aEZ 369 tQ tQ .bool ji
def aE1:=kC aE0 402 aT aT tQ yt MV
def aE2:=kD aE1 403 tQ iT tQ iT .bool MW
def aE3:=kB aE2 366 fG tQ (.aI (c2 Co WH)) GB
def aE4:=kB aE3 367 iT iT .bool BH
def aE5:=kA aE4 404 qZ qZ MY
def aE6:=kA aE5 368 qZ qZ xU
def aE7:=kC aE6 297 fG iT tQ qZ MZ
def aE8:=kC aE7 299 qZ tQ tQ tQ MX
def aE9:=kD aE8 227 fG iT aT aT tQ Vd
def aFa:=kD aE9 159 fG iT aT aT pR M1
def aFb:=kB aFa 228 tQ tQ pR UT
def aFc:=kA aFb 160 tQ tQ Vf
def aFd:=kD aFc 111 fG iT iT iT pR Vg
def aFe:=kA aFd 112 tQ tb M4
def aFf:=kD aFe 82 fG iT iT iT tb BL
def aFg:=kC aFf 51 fG iT eN Cp M5
def aFh:=kC aFg 22 fO iT eN Cp Nr
def aFi:=kA aFh 52 ahI .bool aEM
def aFj:=kC aFi 54 Ww iT iT tb aEN
def aFk:=kA aFj 23 ahI Cp aES
def aFl:=kC aFk 8 fO iT eN Cp aEU
def aFm:=kC0 aFl 3 fO iT eN .bool aEV
end
end Go.Proofs.YtdlceoleaifhmaaGreatDoor
end
