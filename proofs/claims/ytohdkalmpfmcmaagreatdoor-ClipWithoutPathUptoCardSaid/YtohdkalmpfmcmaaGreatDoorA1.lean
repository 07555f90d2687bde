/- A part of the proof. -/
import Derived.RangeFuncIn
import Derived.Below
import Derived.OrdersIn
import Derived.RangeFuncLeaves
import Derived.RangeFuncOwn
import Derived.RangeFuncNested
import Derived.Lib.FrozenHead
import Derived.WalkKit
import Derived.Laws.Closers25b
import Derived.Laws.StructEq
import Derived.ChangeKeysEq
set_option linter.all false
open BitVec renaming ofInt->tf,toNat_and->agZ
open Bool renaming and_eq_true->aM,eq_iff_iff->Mp,false->af,rec->ke,true->ag
open Go.Addr renaming add->yj
open Go.Instr renaming alloc->ahd,box->ahe
open Go.IntKind renaming rec->U7
open Go.Obj renaming isCells->yp
open Go.Op renaming eqFields->ahl,intArith->Mx,intBits->F7,intCmp->yq,intDiv->Vc
open Go.Program renaming eqGuardType->Ve
open Go.Region renaming binds->vj
open Go.Result renaming andThen_ok->tj
open Go.Sem renaming run_bind->kg
open Go.Value renaming oneCell'->rC
open Go.World renaming block_lt_of_cell?->yr,cell?_setCell_other->Vf
open Int renaming lt_or_le->qd,natAbs_tmod->ahF,ofNat->aE,rec->yx,tmod_nonneg->ahL
open List renaming flatten_cons->pa,getElem?_append_left->gP,getElem?_append_right->jE,getElem?_eq_some_iff->e7,getElem?_take->pc,length_append->dH,length_cons->fH,length_take->gi,mem_append->cD,mem_cons->du,mem_of_getElem?->jG,rec->bn,replicate->bP
open Nat renaming add_mul->ns,beq->al,ble->bu,blt->cQ,blt_eq->MK,div->nu,eq_of_beq_eq_true->bU,le_of_lt->dj,le_refl->aL,le_trans->b8,lor->vy,lt_of_lt_of_le->fY,min_def->aif,min_eq_left->nv,mod_le->aih,mul_le_mul_right->eA,one_mul->Vz,pow_pos->nx,rec->hG,zero_add->db,zero_le->bH
open Option renaming bind_some->ah,map_some->jJ,none->ae,rec->eN,some->ab
open Option.some renaming inj->hH,injEq->iV
open UInt8 renaming toNat->aiz
noncomputable section
namespace Go.As
theorem ao{α}{a b:α}:cond true a b=a:=rfl
theorem au{α}{a b:α}:cond false a b=b:=rfl
theorem aK{c:Prop}{_:Decidable c}(h:c){α:Sort _}{t e:α}:ite c t e=t:=if_pos h
theorem ax{c:Prop}{_:Decidable c}(h:¬c){α:Sort _}{t e:α}:ite c t e=e:=if_neg h
section
inductive D where
 |bool (b:Bool)
 |int (k:IntKind) (n:Int)
 |str (s:List Nat)
 |nil
 |ref (d:D)
 |an (l:List D)
 |agg (w:Nat) (l:List D)
 |aH (l:List D)
 |fn (f:Nat)
 |dD
 |ifc (t:Nat) (d:D)
 |eE
 |mN
 deriving Inhabited
def D.wd:D->Nat
 |.agg w _=>w
 |_=>1
inductive V where
 |undef
 |im (d:D)
 |agg (w:Nat) (l:List V)
 |aH (l:List V)
 |own (b g off len:Nat) (aP:Bool)
 |full (l:List D)
 |ptr (b g:Nat) (p:List (Nat×Nat))
 |fn (f:Nat) (first captured:List V)
 |ifc (t:Nat) (v:V)
 |mp (b:Nat)
 |jh (i:Nat)
 deriving Inhabited
def V.wd:V->Nat
 |.im d=>d.wd
 |.agg w _=>w
 |_=>1
inductive Tm where
 |e
 |n (v:V) (l r:Tm)
 deriving Inhabited
inductive cj where
 |cell (v:V)
 |arr (g s ro:Nat) (l:List D)
 |mp (es:List (D×V))
 |cG (g s:Nat) (l:List V)
 |lp (f:Nat) (t:Tm) (ps:List Nat) (bT body:Code)
 deriving Inhabited
abbrev Heap:=List (Option cj)
def Tm.get(t:Tm):Nat->V:=
 Tm.rec (λ_=>V.undef) (λv _ _ gl gr i=>ke (ke (gr (Nat.sub (nu i 2) 1)) (gl (nu i 2)) (al (Nat.mod i 2) 1)) v (al i 0)) t
def Tm.set(t:Tm):Nat->V->Tm:=
 Tm.rec (λ_ _=>Tm.e) (λv l r sl A i x=>ke (ke (Tm.n v l (A (Nat.sub (nu i 2) 1) x)) (Tm.n v (sl (nu i 2) x) r) (al (Nat.mod i 2) 1)) (Tm.n x l r) (al i 0)) t
def Tm.mk(d:Nat):Tm:=hG Tm.e (λ_ t=>Tm.n .undef t t) d
structure Rec where
 f:Nat
 t:Tm
 ps:List Nat
 bT:Code
 body:Code
 sta:Nat
 axu:Option Code
 deriving Inhabited
structure St where
 t:Tm
 h:Heap
 lp:List Rec
 df:List (Nat×List V)
 deriving Inhabited
inductive TK where
 |bool|int (k:IntKind)|str|ptr|an (e:Nat)|arr (n e:Nat)|st (fs:List (Nat×Nat×Nat))|fn|ifc (named:Bool)|map (k e:Nat)|oth
 deriving Inhabited
structure TI where
 k:TK
 size:Nat
 bytes:Nat
 zero:V
 deriving Inhabited
inductive Tb(α:Type) where
 |e
 |n (k:Nat) (v:α) (l r:Tb α)
def Tb.find{α:Type}(t:Tb α)(i:Nat):Option α:=
 Tb.rec ae (λk v _ _ fl fr=>bif al i k then ab v else bif cQ i k then fl else fr) t
structure Env where
 ty:Nat->Option TI
 fn:Nat->Option Func
 sm:Nat->Option (List D->Option D)
 clone:Nat->Option Nat
 ext:Nat->Nat
 inl:Nat->Bool
 keep:Nat->Bool
 dr:Nat->Nat->Option (List (Nat×List Nat))
 Dh:Nat->Nat->Option (Nat×Nat)
inductive Ex where
 |nm|exit (id:Nat)|ret
 deriving Inhabited,DecidableEq
def bG{α:Type}(l:List α):Nat->Option α:=
 bn (λ_=>ae) (λb _ ih i=>match i with|0=>ab b|j+1=>ih j) l
def bC{α:Type}(l:List α):Nat->α->List α:=
 bn (λ_ _=>[]) (λb r ih i x=>match i with|0=>x::r|j+1=>b::ih j x) l
def aI(l:Heap):Nat->cj->Heap:=
 bn (λ_ x=>[ab x]) (λb r ih i x=>match i with|0=>ab x::r|j+1=>b::ih j x) l
def ar(h:Heap)(b:Nat):Option cj:=eN ae (λx=>x) (bG h b)
def aF{α:Type}(l:List α):Nat:=bn 0 (λ_ _ n=>n+1) l
def iU(l:List V):Nat->Nat:=
 bn (λ_=>0) (λv _ ih i=>match i with|0=>0|j+1=>v.wd+ih j) l
def FW(l:List D):Nat->Nat:=
 bn (λ_=>0) (λv _ ih i=>match i with|0=>0|j+1=>v.wd+ih j) l
def mJ(l:List D):List V:=bn [] (λd _ ih=>V.im d::ih) l
def ga(l:List V):Option (List D):=
 bn (ab []) (λv _ ih=>match v with
  |.im d=>eN ae (λds=>ab (d::ds)) ih
  |_=>ae) l
def fJ(w:Nat)(l:List V):V:=eN (V.agg w l) (λds=>V.im (.agg w ds)) (ga l)
def mM(l:List V):V:=eN (V.aH l) (λds=>V.im (.aH ds)) (ga l)
def V.kids:V->Option (List V)
 |.im (.agg _ l)=>ab (mJ l)
 |.agg _ l=>ab l
 |_=>ae
def V.part(v:V)(i:Nat):Option V:=
 match v with
 |.im (.aH l)=>(bG l i).map .im
 |.aH l=>bG l i
 |_=>ae
def V.eF(v:V)(k o:Nat):Option V:=
 match v with
 |.im (.agg _ l)=>bif al (FW l k) o then(bG l k).map .im else ae
 |.agg _ l=>bif al (iU l k) o then bG l k else ae
 |_=>ae
def V.eZ(v:V)(p:List (Nat×Nat)):Option V:=
 bn (λv=>ab v) (λs _ ih v=>(V.eF v s.1 s.2).bind ih) p v
def V.put(x:V)(p:List (Nat×Nat))(v:V):Option V:=
 bn (λv=>bif al x.wd v.wd then ab x else ae) (λs _ ih v=>
  v.kids.bind λl=>bif al (iU l s.1) s.2 then(bG l s.1).bind λc=>(ih c).map λA=>fJ v.wd (bC l s.1 A)else ae) p v
def ir{α:Type}(l:List α)(off len:Nat):List α:=bif al off 0&&al len (aF l)then l else(l.drop off).take len
def fx{α:Type}(g A off len:Nat)(l:List α):Bool:=al g A&&bu (off+len) (aF l)
mutual
def V.cV(o:Nat->Nat->Nat->Nat->Option (List D)):V->Option D
 |.im d=>ab d
 |.full l=>ab (.an l)
 |.own b g off len _=>(o b g off len).map .an
 |.agg w l=>(V.dW o l).map (.agg w)
 |.aH l=>(V.dW o l).map .aH
 |.fn f [] []=>ab (.fn f)
 |_=>ae
def V.dW(o:Nat->Nat->Nat->Nat->Option (List D)):List V->Option (List D)
 |[]=>ab []
 |v::l=>match v.cV o,V.dW o l with
  |some d,ab ds=>ab (d::ds)
  |_,_=>ae
end
def gL(h:Heap)(b g off len:Nat):Option (List D):=
 match ar h b with
 |some (.arr A _ _ l)=>bif fx g A off len l then ab (ir l off len)else ae
 |_=>ae
def V.data(h:Heap)(v:V):Option D:=
 match v with
 |.im d=>ab d
 |.own b g off len _=>(gL h b g off len).map .an
 |v=>v.cV (gL h)
mutual
def V.fe:V->List Nat
 |.own b _ _ _ _=>[b]
 |.agg _ l=>V.eP l
 |.aH l=>V.eP l
 |.ifc _ v=>v.fe
 |_=>[]
def V.eP:List V->List Nat
 |[]=>[]
 |v::l=>v.fe++V.eP l
end
def V.owns(v:V):List Nat:=
 match v with
 |.im _=>[]
 |.own b _ _ _ _=>[b]
 |v=>v.fe
def V.nT(l:List V):List Nat:=bn [] (λv _ ih=>match v with|.im _=>ih|v=>v.owns++ih) l
def gH(h:Heap)(A:List Nat):Bool:=bn ag (λb _ ih=>match ar h b with|some (.arr ..)=>ih|_=>af) A
def close(h:Heap)(A:List Nat):Heap:=
 bn (λh=>h) (λb _ ih h=>match ar h b with
  |some (.arr g s _ l)=>ih (aI h b (.arr g s (aF l) l))
  |_=>ih h) A h
mutual
def D.flat:D->Bool
 |.bool _|.int _ _|.str _|.nil|.fn _|.dD|.eE|.mN=>ag
 |.agg _ l=>D.mG l
 |.aH l=>D.mG l
 |.ifc _ d=>d.flat
 |.ref _|.an _=>af
def D.mG:List D->Bool
 |[]=>ag
 |d::l=>d.flat&&D.mG l
end
mutual
def V.m7:V->List Nat
 |.undef|.im _|.full _=>[]
 |.agg _ l|.aH l=>V.oS l
 |.own b _ _ _ _=>[b]
 |.ptr b _ _=>[b]
 |.fn _ a c=>V.oS a++V.oS c
 |.ifc _ v=>v.m7
 |.mp b=>[b]
 |.jh b=>[b]
def V.oS:List V->List Nat
 |[]=>[]
 |v::l=>v.m7++V.oS l
end
def V.refs(v:V):List Nat:=
 match v with
 |.undef|.im _|.full _=>[]
 |.own b _ _ _ _=>[b]
 |.ptr b _ _=>[b]
 |v=>v.m7
def Tm.refs(t:Tm):List Nat:=Tm.rec [] (λv _ _ a b=>V.refs v++(a++b)) t
def fu(l:List V):List Nat:=bn [] (λv _ ih=>match V.refs v with|[]=>ih|r=>r++ih) l
def aeU(l:List (D×V)):List Nat:=bn [] (λe _ ih=>match V.refs e.2 with|[]=>ih|r=>r++ih) l
def wz(h:Heap):List Nat:=bn [] (λb _ ih=>match b with|some (.cell v)=>V.refs v++ih|some (.mp es)=>aeU es++ih|some (.cG _ _ l)=>fu l++ih|some (.lp _ t _ _ _)=>Tm.refs t++ih|_=>ih) h
def bg(l:List Nat)(b:Nat):Bool:=bn af (λa _ ih=>bif al a b then ag else ih) l
def iH(fb:Nat)(l:List Nat):List Nat->List Nat:=
 bn (λA=>A) (λb _ ih A=>ih (bif cQ b fb then A else bif bg A b then A else A++[b])) l
def l9(h:Heap)(fb n:Nat):List Nat->List Nat:=
 hG (λA=>A) (λ_ ih A=>match iH fb (wz (A.map λb=>ar h b)) A with
  |I=>bif al (aF I) (aF A)then A else ih I) n
def axm(l:List Nat)(b:Nat):Option Nat:=bn ae (λa _ ih=>bif al a b then ab 0 else ih.map (· +1)) l
def uM:Value->Option V
 |.bool b=>ab (.im (.bool b))
 |.int k n=>ab (.im (.int k n))
 |.string s=>ab (.im (.str (s.data.toList.map aiz)))
 |.slice ae 0 0=>ab (.full [])
 |.nilIface=>ab (.im .eE)
 |_=>ae
def ev(t:Tm):Operand->V
 |.tmp n=>t.get n
 |.const v=>eN V.undef (λx=>x) (uM v)
 |.func f=>.fn f [] []
 |.global _=>.undef
def dk(t:Tm)(l:Array Operand):List V:=bn [] (λo _ ih=>ev t o::ih) l.toList
def ak(x y:Int):Bool:=
 yx (λa=>yx (λb=>cQ a b) (λ_=>af) y) (λa=>yx (λ_=>ag) (λb=>cQ b a) y) x
def ai(a b:Int):Bool:=not (ak b a)
def aj(x y:Int):Bool:=
 yx (λa=>yx (λb=>al a b) (λ_=>af) y) (λa=>yx (λ_=>af) (λb=>al a b) y) x
def umod(n:Int)(m:Nat):Nat:=yx (λa=>a%m) (λa=>m-1-a%m) n
def Ba(h m:Nat)(n:Int):Int:=bif cQ (umod n m) h then aE (umod n m)else aE (umod n m)-aE m
def wr(k:IntKind)(n:Int):Int:=
 U7 (Ba 128 256 n) (Ba 32768 65536 n) (Ba 2147483648 4294967296 n) (Ba 9223372036854775808 18446744073709551616 n)
  (aE (umod n 256)) (aE (umod n 65536)) (aE (umod n 4294967296)) (aE (umod n 18446744073709551616)) k
def kb(k:IntKind):Nat:=U7 8 16 32 64 8 16 32 64 k
def gu(a b:IntKind):Bool:=al (kn a) (kn b)
where kn (k:IntKind):Nat:=U7 0 1 2 3 4 5 6 7 k
def word(k:IntKind)(n:Int):Nat:=umod n (2^kb k)
def im(k:IntKind)(n:Int):Option V:=ab (.im (.int k n))
def bm(b:Bool):Option V:=ab (.im (.bool b))
def intArith(op:BinOp)(k:IntKind)(x y:Int):Option V:=
 match op with
 |.add=>im k (wr k (x+y))
 |.sub=>im k (wr k (x-y))
 |.mul=>im k (wr k (x*y))
 |.quo=>bif aj y 0 then ae else im k (wr k (x.tdiv y))
 |.rem=>bif aj y 0 then ae else im k (x.tmod y)
 |.and=>im k (wr k (aE (Nat.land (word k x) (word k y))))
 |.or=>im k (wr k (aE (vy (word k x) (word k y))))
 |.xor=>im k (wr k (aE (Nat.xor (word k x) (word k y))))
 |.andNot=>im k (wr k (aE (Nat.land (word k x) (2^kb k-1-word k y))))
 |.eql=>bm (aj x y)
 |.neq=>bm (not (aj x y))
 |.lss=>bm (ak x y)
 |.leq=>bm (ai x y)
 |.gtr=>bm (ak y x)
 |.geq=>bm (ai y x)
 |.shl=>bif ak y 0 then ae else im k (wr k (x*aE (2^Nat.min y.toNat (kb k))))
 |.shr=>bif ak y 0 then ae else im k (x.fdiv (aE (2^Nat.min y.toNat (kb k))))
def iy(k:TK)(v:V):Bool:=
 match v with
 |.im d=>J3 k d
 |.agg _ _=>kJ k
 |.aH _|.undef=>af
 |_=>not (kJ k)
where
 kJ (k:TK):Bool:=match k with|.st _|.arr _ _=>ag|_=>af
 J3 (k:TK) (d:D):Bool:=match d with|.agg _ _=>kJ k|.aH _=>af|_=>not (kJ k)
def cA(ti:TI)(v:V):Bool:=al v.wd ti.size&&iy ti.k v
def hZ(E:Env):Nat->Nat->D->D->Option Bool
 |0,_,_,_=>ae
 |n+1,t,x,y=>(E.ty t).bind λti=>bif cA ti (.im x)&&cA ti (.im y)then
  (match ti.k,x,y with
  |.bool,.bool a,.bool b=>ab (a==b)
  |.int _,.int k a,.int I b=>bif gu k I then ab (aj a b)else ae
  |.st fs,.agg _ xs,.agg _ A=>se fs 0 xs A (hZ E n)
  |_,_,_=>ae)else ae
where
 se:List (Nat×Nat×Nat)->Nat->List D->List D->(Nat->D->D->Option Bool)->Option Bool
  |[],_,[],[],_=>ab ag
  |(off,_,t)::fs,o,x::xs,y::A,f=>bif al off o then(match f t x y,se fs (o+x.wd) xs A f with
   |some b,ab c=>ab (b&&c)
   |_,_=>ae)else ae
  |_,_,_,_,_=>ae
def qP(k:TK)(x:V):Option Bool:=
 match k,x with
 |.ifc _,.im .eE=>ab ag
 |.ifc _,.im (.ifc _ _)=>ab af
 |_,_=>ae
def oH:V->Bool
 |.im .eE=>ag
 |_=>af
def agy(k:TK)(lit:Bool):Bool:=match k with|.ifc ag=>lit|_=>ag
def tX(E:Env):Nat->Nat->Bool
 |0,_=>af
 |n+1,t=>match E.ty t with
  |none=>af
  |some ti=>match ti.k with
   |.bool|.int _=>ag
   |.st fs=>fs.all λf=>tX E n f.2.2
   |_=>af
def oC(E:Env)(t:Nat)(lit:Bool)(x y:V):Option Bool:=
 bif oH x||oH y then(E.ty t).bind λti=>(qP ti.k x).bind λa=>(qP ti.k y).bind λb=>bif a&&b then(bif agy ti.k lit then ab ag else ae)else ab af else
 match x,y with
 |.im a,.im b=>bif tX E 12 t then hZ E 12 t a b else ae
 |_,_=>ae
def oB(E:Env)(op:BinOp)(t:Nat)(lit:Bool)(x y:V):Option V:=
 match op with
 |.eql=>(oC E t lit x y).map λb=>.im (.bool b)
 |.neq=>(oC E t lit x y).map λb=>.im (.bool (not b))
 |_=>ae
def isConst:Operand->Bool
 |.const _=>ag
 |_=>af
def DJ(op:BinOp)(k:IntKind)(a:Int)(A:IntKind)(b:Int):Option V:=
 match op with
 |.shl=>intArith .shl k a b
 |.shr=>intArith .shr k a b
 |op=>bif gu k A then intArith op k a b else ae
def jP(E:Env)(op:BinOp)(t:Nat)(lit:Bool)(x y:V):Option V:=
 match x with
 |.im (.int k a)=>match y with
  |.im (.int A b)=>DJ op k a A b
  |_=>ae
 |x=>oB E op t lit x y
def Bo(op:UnOp)(x:V):Option V:=
 match op,x with
 |.not,.im (.bool b)=>bm (not b)
 |.neg,.im (.int k n)=>im k (wr k (0-n))
 |_,_=>ae
def aka(c:Nat):D:=.int .u8 (aE c)
def Env.kind(E:Env)(t:Nat):Option TK:=(E.ty t).map TI.k
def sd(E:Env)(h:Heap)(aC:Nat)(s d:Nat)(x:V):Option (V×Heap):=
 match E.kind s,E.kind d,x with
 |some (.int _),ab (.int k),.im (.int _ n)=>ab (.im (.int k (wr k n)),h)
 |_,_,_=>ae
def bound(hi:Nat)(x:Option V)(A:Nat):Option Nat:=
 match x with
 |none=>ab A
 |some (.im (.int _ n))=>bif ai 0 n&&ai n (aE hi)then ab n.toNat else ae
 |_=>ae
def bounds(len:Nat)(lo hi mx:Option V):Option (Nat×Nat×Nat):=
 (bound len mx len).bind λm=>(match hi,mx with|none,ab _=>ae|_,_=>bound m hi len).bind λj=>(bound j lo 0).map λi=>(i,j,m)
def cut{α:Type}(l:List α)(i j:Nat):List α:=(l.drop i).take (j-i)
def sS(b g off len:Nat)(aP:Bool)(lo hi mx:Option V):Option V:=
 (bounds len lo hi mx).bind λr=>
  eN (ab (.own b g (off+r.1) (r.2.1-r.1) (aP&&al r.2.1 len))) (λ_=>bif al r.2.1 r.2.2 then ab (.own b g (off+r.1) (r.2.1-r.1) ag)else ae) mx
def isNone(l:List D):Bool:=match l with|[]=>ag|_::_=>af
def Qx(l:List V):Bool:=match l with|[]=>ag|_::_=>af
def js(sz:Nat)(l:List D):Bool:=match l with|[]=>ag|d::_=>al d.wd sz
def u4(h:Heap)(sz:Nat)(x:V)(lo hi mx:Option V):Option V:=
 match x with
 |.im (.an l)=>bif js sz l then(bounds (aF l) lo hi mx).bind λb=>
  eN (ab (.im (.an (cut l b.1 b.2.1)))) (λ_=>bif al b.2.1 b.2.2 then ab (.full (cut l b.1 b.2.1))else ae) mx else ae
 |.full l=>bif js sz l then(bounds (aF l) lo hi mx).map λb=>bif al b.2.1 b.2.2 then .full (cut l b.1 b.2.1)else .im (.an (cut l b.1 b.2.1))else ae
 |.own b g off len aP=>match ar h b with
  |some (.arr A s _ l)=>bif fx g A off len l&&(al s sz||isNone l)then sS b g off len aP lo hi mx else ae
  |_=>ae
 |_=>ae
def TQ(m sz:Nat)(x:V)(lo hi mx:Option V):Option V:=
 match x,lo,hi,mx with
 |.im (.ref (.agg _ l)),ae,ae,ae=>bif al (aF l) m&&(bu m 16777216&&l.all λd=>al d.wd sz)then ab (.full l)else ae
 |_,_,_,_=>ae
def xY(E:Env)(t:Nat)(h:Heap)(x:V)(lo hi mx:Option V):Option V:=
 (E.ty t).bind λti=>match ti.k with
  |.arr m el=>(E.ty el).bind λte=>TQ m te.size x lo hi mx
  |.an el=>(E.ty el).bind λte=>u4 h te.size x lo hi mx
  |_=>ae
def eU(h:Heap)(b g:Nat)(p:List (Nat×Nat)):Option V:=
 match ar h b with
 |some (.cell v)=>bif al g 0 then v.eZ p else ae
 |some (.arr A s _ l)=>match p with
  |(i,o)::q=>bif al g A&&al o (i*s)then(bG l i).bind λd=>(V.im d).eZ q else ae
  |[]=>ae
 |some (.cG A s l)=>match p with
  |(i,o)::q=>bif al g A&&al o (i*s)then(bG l i).bind λv=>v.eZ q else ae
  |[]=>ae
 |_=>ae
def lE(h:Heap)(b g:Nat)(p:List (Nat×Nat))(x:V):Option Heap:=
 match ar h b with
 |some (.cell v)=>bif al g 0 then(V.put x p v).map λA=>aI h b (.cell A)else ae
 |some (.arr I s ro l)=>match p with
  |(i,o)::q=>
   bif al g I&&(al o (i*s)&&bu ro i)then
    (bG l i).bind λd=>(x.data h).bind λJ=>(V.put (.im J) q (.im d)).bind λA=>match A with
     |.im d'=>bif gH h x.owns&&not (bg x.owns b)then ab (aI (close h x.owns) b (.arr I s ro (bC l i d')))else ae
     |_=>ae
   else ae
  |[]=>ae
 |some (.cG I s l)=>match p with
  |(i,o)::q=>bif al g I&&al o (i*s)then(bG l i).bind λv=>(V.put x q v).map λA=>aI h b (.cG I s (bC l i A))else ae
  |[]=>ae
 |_=>ae
def jU(v:V):Bool:=match v with|.undef|.aH _|.im (.aH _)=>af|_=>ag
def mE(kids:List V)(A:Nat->Option (Nat×Nat))(ps:List (Nat×V)):Option (List V):=
 bn (λl=>ab l) (λp _ ih l=>(A p.1).bind λI=>(bG l p.1).bind λc=>
  bif al (iU l p.1) I.1&&(al c.wd I.2&&(al p.2.wd I.2&&jU p.2))then ih (bC l p.1 p.2)else ae) ps kids
def lj(h:Heap)(sz:Nat)(l:List D)(ps:List (Nat×V)):Option (List D):=
 bn (λl=>ab l) (λp _ ih l=>(p.2.data h).bind λd=>(bG l p.1).bind λ_=>bif al d.wd sz&&jU p.2 then ih (bC l p.1 d)else ae) ps l
def ja(ps:List (Nat×V)):List Nat:=bn [] (λp _ ih=>match V.owns p.2 with|[]=>ih|A=>A++ih) ps
abbrev R:=Option (V×Heap)
def l7(h:Heap)(x:Option V):R:=eN ae (λv=>ab (v,h)) x
def lO(e:Operand->V)(ps:Array (Nat×Operand)):List (Nat×V):=bn [] (λp _ ih=>(p.1,e p.2)::ih) ps.toList
def oU(h:Heap)(c a b:V):R:=match c with|.im (.bool t)=>bif t then ab (a,h)else ab (b,h)|_=>ae
def xP(E:Env)(aC:Nat)(h:Heap)(t:Nat):R:=
 (E.ty t).bind λti=>bif cA ti ti.zero then
  ab (.ptr aC 0 [],aI h aC (.cell ti.zero))else ae
def nW(E:Env)(aC:Nat)(h:Heap)(t:Nat)(x:V):R:=
 (E.ty t).bind λti=>bif cA ti x then v5 aC h ti.k x else ae
where
 v5 (aC:Nat) (h:Heap) (k:TK) (x:V):R:=
  match k,x with
  |.arr _ _,.im d=>ab (.im (.ref d),aI h aC (.arr 0 0 0 []))
  |_,x=>ab (.ptr aC 0 [],aI h aC (.cell x))
def xQ(E:Env)(h:Heap)(t:Nat)(ps:List (Nat×V)):R:=
 (E.ty t).bind λti=>ti.zero.kids.bind λl=>
  match ti.k with
  |.st fs=>(mE l (λi=>(bG fs i).map (λf=>(f.1,f.2.1))) ps).map λA=>(fJ ti.zero.wd A,h)
  |.arr _ el=>(E.ty el).bind λte=>(mE l (λi=>ab (i*te.size,te.size)) ps).map λA=>(fJ ti.zero.wd A,h)
  |_=>ae
def jz{α:Type}(n:Nat)(x:α):List α:=hG [] (λ_ ih=>x::ih) n
def rV(ps:List (Nat×V)):Bool:=bn af (λp _ ih=>match p.2 with|.im _=>ih|_=>ag) ps
def mf(E:Env)(keep:Bool)(aC:Nat)(h:Heap)(t n:Nat)(ps:List (Nat×V)):R:=
 (E.ty t).bind λti=>match ti.k with
  |.an el=>(E.ty el).bind λte=>bif bu (n*te.size) 16777216&&bu n 16777216 then(te.zero.data []).bind λz=>bif not (cA te (.im z))then ae else match(bif keep&&rV ps then ae else lj h te.size (jz n z) ps)with
   |some l=>bif gH h (ja ps)then ab (.own aC 0 0 n af,aI (close h (ja ps)) aC (.arr 0 te.size 0 l))else ae
   |none=>(mE (jz n te.zero) (λi=>ab (i*te.size,te.size)) ps).map λl=>(.own aC 0 0 n af,aI h aC (.cG 0 te.size l))else ae
  |_=>ae
def gd(E:Env)(h:Heap)(t:Nat)(a:V):R:=
 (E.ty t).bind λti=>match a with
  |.ptr b g p=>(eU h b g p).bind λv=>bif cA ti v then ab (v,h)else ae
  |.im (.ref d)=>bif cA ti (.im d)then ab (.im d,h)else ae
  |_=>ae
def ra(E:Env)(h:Heap)(t:Nat)(a x:V):R:=
 (E.ty t).bind λti=>match a with
  |.ptr b g p=>bif cA ti x then(lE h b g p x).map λh'=>(.undef,h')else ae
  |_=>ae
def Fz(h:Heap)(x:V):R:=match x with|.ptr b g p=>ab (.ptr b g p,h)|_=>ae
def uZ(E:Env)(aC:Nat)(h:Heap)(t:Nat)(l c:V):R:=
 (E.ty t).bind λti=>match ti.k with
  |.an el=>(E.ty el).bind λte=>(te.zero.data []).bind λz=>match l,c with
   |.im (.int .i64 n),.im (.int .i64 m)=>
    bif cA te (.im z)&&(ai 0 n&&(ai n m&&ai (m*aE te.bytes) 70368744177664))then ab (.own aC 0 0 n.toNat af,aI h aC (.arr 0 te.size 0 (jz n.toNat z)))else ae
   |_,_=>ae
  |_=>ae
def Fw(E:Env)(h:Heap)(t:Nat)(x:V):R:=
 match E.kind t with
 |some (.ifc _)=>ae
 |some _=>(match x with|.im d=>ab (.im (.ifc t d),h)|.undef=>ae|v=>ab (.ifc t v,h))
 |none=>ae
def A6(E:Env)(h:Heap)(t:Nat)(x:V)(k:Nat):R:=
 (E.ty t).bind λti=>match ti.k with
  |.st fs=>(bG fs k).bind λf=>bif al f.2.1 0 then ae else match x with
   |.ptr b g p=>ab (.ptr b g (p++[(k,f.1)]),h)
   |.im (.ref d)=>(match V.eF (.im d) k f.1 with
    |some (.im d')=>bif al d'.wd f.2.1 then ab (.im (.ref d'),h)else ae
    |_=>ae)
   |_=>ae
  |_=>ae
def oz(E:Env)(h:Heap)(el:Nat)(l:List D)(n:Int):R:=
 (E.ty el).bind λte=>bif ai 0 n then(bG l n.toNat).bind λd=>bif al d.wd te.size then ab (.im (.ref d),h)else ae else ae
def rh(h:Heap)(b sz:Nat):Bool:=match ar h b with|some (.arr _ s _ _)=>al s sz|some (.cG _ s _)=>al s sz|_=>af
def pX(E:Env)(h:Heap)(t:Nat)(x i:V):R:=
 match i with
 |.im (.int _ n)=>(E.ty t).bind λti=>match ti.k with
  |.an el=>(match x with
   |.own b g off len _=>(E.ty el).bind λte=>bif ai 0 n&&(ak n (aE len)&&(al off 0||rh h b te.size))then ab (.ptr b g [(off+n.toNat,(off+n.toNat)*te.size)],h)else ae
   |.im (.an l)=>oz E h el l n
   |.full l=>oz E h el l n
   |_=>ae)
  |.arr m el=>(E.ty el).bind λte=>bif ai 0 n&&(ak n (aE m)&&cQ 0 te.size)then(match x with
   |.ptr b g p=>ab (.ptr b g (p++[(n.toNat,n.toNat*te.size)]),h)
   |.im (.ref d)=>(match V.eF (.im d) n.toNat (n.toNat*te.size)with
    |some (.im d')=>bif al d'.wd te.size then ab (.im (.ref d'),h)else ae
    |_=>ae)
   |_=>ae)else ae
  |_=>ae
 |_=>ae
def A7(E:Env)(h:Heap)(t:Nat)(x i:V):R:=
 match i with
 |.im (.int _ n)=>(match x with
  |.im (.str s)=>(E.ty t).bind λti=>(match ti.k with|.str=>bif ai 0 n then(bG s n.toNat).map λc=>(.im (aka c),h)else ae|_=>ae)
  |x=>(E.ty t).bind λti=>match ti.k with
   |.arr m el=>(E.ty el).bind λte=>bif ai 0 n&&ak n (aE m)then(x.eF n.toNat (n.toNat*te.size)).bind λw=>bif cA te w then ab (w,h)else ae else ae
   |_=>ae)
 |_=>ae
def z8(a b:D):Option Bool:=
 match a,b with
 |.int k x,.int A y=>bif gu k A then ab (aj x y)else ae
 |_,_=>ae
def pD(k:D)(es:List (D×V)):Option Nat:=
 bn (ab 0) (λe _ ih=>(z8 k e.1).bind λb=>bif b then ab 0 else ih.map (· +1)) es
def mT(E:Env)(t:Nat)(k:D):Bool:=
 match E.kind t,k with
 |some (.int j),.int A _=>gu j A
 |_,_=>af
def Fy(E:Env)(aC:Nat)(h:Heap)(t:Nat)(r:Option V):R:=
 match E.kind t with
 |some (.map _ _)=>(match r with
  |none=>ab (.mp aC,aI h aC (.mp []))
  |_=>ae)
 |_=>ae
def entries(h:Heap)(m:V):Option (List (D×V)):=
 match m with
 |.mp b=>match ar h b with|some (.mp es)=>ab es|_=>ae
 |_=>ae
def Fx(E:Env)(h:Heap)(t:Nat)(m k:V)(ok:Bool):R:=
 match E.kind t,k with
 |some (.map I et),.im A=>bif mT E I A then
   (entries h m).bind λes=>(pD A es).bind λi=>
    match bG es i with
    |some e=>ab (bif ok then .aH [e.2,.im (.bool ag)]else e.2,h)
    |none=>(E.ty et).bind λte=>bif jU te.zero then ab (bif ok then .aH [te.zero,.im (.bool af)]else te.zero,h)else ae
  else ae
 |_,_=>ae
def sP(E:Env)(h:Heap)(t:Nat)(m k v:V):R:=
 match E.kind t,m,k with
 |some (.map I et),.mp b,.im A=>bif mT E I A then
   (entries h m).bind λes=>(pD A es).bind λi=>(E.ty et).bind λte=>bif cA te v then
    (match ar h b with
    |some (.mp _)=>ab (.undef,aI h b (bif cQ i (aF es)then .mp (bC es i (A,v))else .mp (es++[(A,v)])))
    |_=>ae)else ae
  else ae
 |_,_,_=>ae
def isNil{α:Type}(l:List α):Bool:=match l with|[]=>ag|_=>af
def xd(k:IntKind)(l:List V):Int->Option Int:=
 bn (λa=>ab a) (λv _ ih a=>match v with|.im (.int A b)=>bif gu k A then ih (bif ai a b then a else b)else ae|_=>ae) l
def xb(k:IntKind)(l:List V):Int->Option Int:=
 bn (λa=>ab a) (λv _ ih a=>match v with|.im (.int A b)=>bif gu k A then ih (bif ai a b then b else a)else ae|_=>ae) l
def rX(E:Env)(t:Nat)(h:Heap)(x:V):R:=
 match E.kind t,x with
 |some (.an _),.own _ _ _ n _=>ab (.im (.int .i64 (aE n)),h)
 |some (.an _),.im (.an l)=>ab (.im (.int .i64 (aE (aF l))),h)
 |some (.an _),.full l=>ab (.im (.int .i64 (aE (aF l))),h)
 |_,_=>ae
def Ct(E:Env)(t:Nat)(h:Heap)(x:V):R:=
 match E.kind t,x with
 |some (.an _),.full l=>ab (.im (.int .i64 (aE (aF l))),h)
 |_,_=>ae
def room(n bytes:Nat):Bool:=bu (n*bytes) 70368744177664&&bu n 70368744177664
def Cq(te:TI)(aC:Nat)(s:V)(new:List D)(h:Heap):R:=
 match s with
 |.own b g off len aP=>(match ar h b with
  |some (.arr A sz ro l)=>
   bif aP then
    bif isNone new then ab (.own b g off len aP,h)else
    bif fx g A off len l&&(al sz te.size&&room (len+aF new) te.bytes)
    then ab (.own aC 0 0 (len+aF new) af,aI h aC (.arr 0 te.size 0 (ir l off len++new)))else ae
   else
    bif fx g A off len l&&(al off 0&&(bu ro len&&(al sz te.size&&room (len+aF new) te.bytes)))
    then ab (.own b (g+1) 0 (len+aF new) af,aI h b (.arr (g+1) te.size ro (ir l 0 len++new)))else ae
  |_=>ae)
 |.full l=>bif js te.size l&&room (aF l+aF new) te.bytes then
   ab (.own aC 0 0 (aF l+aF new) af,aI h aC (.arr 0 te.size (bif isNone new then aF l else 0) (l++new)))else ae
 |_=>ae
def V.pz(h:Heap):V->Option (List D)
 |.im (.an l)=>ab l
 |.full l=>ab l
 |.own b g off len _=>(match ar h b with
  |some (.arr A _ _ l)=>bif fx g A off len l then ab (ir l off len)else ae
  |_=>ae)
 |_=>ae
def xg(E:Env)(te:TI)(t:Nat)(x:V)(h:Heap):Option (List D):=
 match E.kind t,x with
 |some (.an _),v=>(v.pz h).bind λl=>bif js te.size l then ab l else ae
 |_,_=>ae
def nL(h:Heap)(v:V):Bool:=match v with
 |.own b _ _ _ _=>(match ar h b with|some (.cG _ _ _)=>ag|_=>af)
 |_=>af
def V.Bs(h:Heap)(x:V):Option (List V):=
 match x with
 |.own b g off len _=>(match ar h b with
  |some (.cG A _ l)=>bif fx g A off len l then ab (ir l off len)else ae
  |_=>ae)
 |_=>ae
def Qy(k:Option TK):Bool:=match k with|some (.an _)=>ag|_=>af
def vX(te:TI)(l:List V):Bool:=bn ag (λv _ ih=>bif cA te v then ih else af) l
def zb(te:TI)(aC:Nat)(s:V)(new:List V)(h:Heap):R:=
 match s with
 |.own b g off len aP=>(match ar h b with
  |some (.cG A sz l)=>bif not aP&&(fx g A off len l&&(al off 0&&(al sz te.size&&room (len+aF new) te.bytes)))
    then ab (.own b (g+1) 0 (len+aF new) af,aI h b (.cG (g+1) te.size (ir l 0 len++new)))else ae
  |_=>ae)
 |.full l=>bif js te.size l&&(not (Qx new)&&room (aF l+aF new) te.bytes)then
   ab (.own aC 0 0 (aF l+aF new) af,aI h aC (.cG 0 te.size (mJ l++new)))else ae
 |_=>ae
def wQ(k:Option TK):Bool:=match k with|some (.int _)=>ag|_=>af
def Nw(te:TI)(aC:Nat)(s:V)(n:Int)(h:Heap):R:=
 match s with
 |.full l=>bif js te.size l&&(ak 0 n&&room (aF l+n.toNat) te.bytes)then
   (te.zero.data []).bind λz=>bif cA te (.im z)then ab (.own aC 0 0 (aF l+n.toNat) af,aI h aC (.arr 0 te.size 0 (l++jz n.toNat z)))else ae else ae
 |_=>ae
def qx(E:Env)(te:TI)(aC A:Nat)(s x:V)(h:Heap):R:=
 bif wQ (E.kind A)then(match x with|.im (.int .i64 n)=>Nw te aC s n h|_=>ae)
 else bif nL h s||nL h x then(bif Qy (E.kind A)then(x.Bs h).bind λnew=>bif vX te new then zb te aC s new h else ae else ae)
 else(xg E te A x h).bind λnew=>Cq te aC s new h
def tT(E:Env)(aC:Nat)(A:Array Nat)(s x:V)(h:Heap):R:=
 ((bG A.toList 0).bind E.ty).bind λti=>match ti.k with
  |.an el=>(E.ty el).bind λte=>(bG A.toList 1).bind λI=>bif cA te te.zero then qx E te aC I s x h else ae
  |_=>ae
def G4(E:Env)(I:Array Nat)(x:V)(h:Heap):R:=
 ((bG I.toList 0).bind E.ty).bind λti=>match ti.k with
  |.an el=>(E.ty el).bind λte=>(te.zero.data []).bind λz=>(match x with
   |.own b g off len _=>(match ar h b with
    |some (.arr A sz ro l)=>bif cA te (.im z)&&(fx g A off len l&&(al sz te.size&&bu ro off))then ab (.im (.aH []),aI h b (.arr A sz ro (l.take off++(jz len z++l.drop (off+len)))))else ae
    |_=>ae)
   |_=>ae)
  |_=>ae
def hU(E:Env)(aC:Nat)(b:Builtin)(A:Array Nat)(xs:List V)(h:Heap):R:=
 match b with
 |.len=>(match xs with|[x]=>(bG A.toList 0).bind λt=>rX E t h x|_=>ae)
 |.append=>(match xs with|[s,x]=>tT E aC A s x h|_=>ae)
 |.min=>(match xs with|.im (.int k a)::l=>(xd k l a).map λn=>(.im (.int k n),h)|_=>ae)
 |.max=>(match xs with|.im (.int k a)::l=>(xb k l a).map λn=>(.im (.int k n),h)|_=>ae)
 |.cap=>(match xs with|[x]=>(bG A.toList 0).bind λt=>Ct E t h x|_=>ae)
 |.clear=>(match xs with|[x]=>G4 E A x h|_=>ae)
 |_=>ae
def guardOf(ops:Array Oper)(t:Tm)(g:Option (Nat×Bool)):Option Bool:=
 match g with
 |none=>ab ag
 |some (j,A)=>(bG ops.toList j).bind λo=>o.dst.bind λd=>match t.get d with
  |.im (.bool b)=>ab (bif b then A else not A)
  |.im (.aH [])=>ab af
  |_=>ae
def putDst(t:Tm)(d:Option Nat)(v:V):Tm:=eN t (λn=>t.set n v) d
def Oy(n:Nat):Nat:=bif cQ n 8 then 3 else bif cQ n 16 then 4 else bif cQ n 32 then 5 else bif cQ n 64 then 6 else bif cQ n 128 then 7 else bif cQ n 256 then 8 else 12
def xt(l:List V):Nat->Tm->Tm:=bn (λ_ t=>t) (λv _ ih i t=>ih (i+1) (t.set i v)) l
def jd(n:Nat)(args:List V):Tm:=xt args 0 (Tm.mk (Oy n))
section
variable (E:Env) (ih:Nat->Nat->Nat->Code->St->Option (Ex×St))
def A3(h:Heap)(t:Tm)(r:ResultVar):Option V:=
 match r with
 |.tmp n=>ab (t.get n)
 |.cell a ty=>match t.get a,E.ty ty with
  |.ptr b g p,ab ti=>(eU h b g p).bind λv=>bif cA ti v then ab v else ae
  |_,_=>ae
def xJ(h:Heap)(t:Tm)(l:List ResultVar):Option (List V):=
 bn (ab []) (λr _ ih=>(A3 E h t r).bind λv=>ih.map (v:: ·)) l
def me(h:Heap)(fn:Func)(t:Tm):Option V:=
 (xJ E h t fn.results.toList).map λl=>match l with
  |[v]=>v
  |l=>mM l
def Mm(te:TI):Bool:=match te.zero.data []with|some z=>cA te (.im z)|none=>af
def zo(aC el:Nat)(xs:List V)(h:Heap):R:=
 match xs with
 |[x]=>(E.ty el).bind λte=>(x.pz h).bind λl=>bif(cA te te.zero&&Mm te)&&(js te.size l&&room (aF l) te.bytes)then ab (.own aC 1 0 (aF l) af,aI h aC (.arr 1 te.size 0 l))else ae
 |_=>ae
def ld(x:Nat)(xs:List V)(h:Heap):R:=
 match x,xs with
 |x,[.im .eE,.ifc t (.ptr _ 0 [])]=>bif tR x t then ab (.im (.bool af),h)else ae
 |x,[.im (.ifc u (.agg 2 l)),.ifc t (.ptr b 0 [])]=>bif tR x t&&al u (x/1000000)then(match ar h b with
  |some (.cell v)=>bif al v.wd 2 then ab (.im (.bool ag),aI h b (.cell (.im (.agg 2 l))))else ae
  |_=>ae)else ae
 |_,_=>ae
where
 tR (x t:Nat):Bool:=al (x%1000000) (t+1000)&&cQ 0 (x/1000000)
def nD(h:Heap)(l:List V):Option (List D):=
 bn (ab []) (λv _ ih=>(V.data h v).bind λd=>ih.map (d:: ·)) l
def axn(o:Oper):Bool:=
 match o.op with
 |.call _|.defer _=>ag
 |_=>af
def Lp(e:Operand->V)(h:Heap)(f:Fn)(a c:Array Operand):R:=
 match f with
 |.func g=>ab (.fn g (bn [] (λo _ ih=>e o::ih) a.toList) (bn [] (λo _ ih=>e o::ih) c.toList),h)
 |_=>ae
def di(keep:Bool)(aC:Nat)(t:Tm)(h:Heap)(op:Op):R:=
 match op with
 |.move x=>ab (ev t x,h)
 |.assign x=>ab (ev t x,h)
 |.pick c a b=>oU h (ev t c) (ev t a) (ev t b)
 |.alloc ty=>xP E aC h ty
 |.box ty x=>nW E aC h ty (ev t x)
 |.build ty ps=>xQ E h ty (lO (ev t) ps)
 |.buildSlice ty n ps=>mf E keep aC h ty n (lO (ev t) ps)
 |.load ty a=>gd E h ty (ev t a)
 |.store ty a x=>ra E h ty (ev t a) (ev t x)
 |.nilCheck x=>Fz h (ev t x)
 |.binOp op ty x y _=>l7 h (jP E op ty (isConst x||isConst y) (ev t x) (ev t y))
 |.unOp op _ x=>l7 h (Bo op (ev t x))
 |.convert s d x=>sd E h aC s d (ev t x)
 |.makeInterface ty x=>Fw E h ty (ev t x)
 |.makeFunc f a c=>Lp (ev t) h f a c
 |.makeSlice ty l c=>uZ E aC h ty (ev t l) (ev t c)
 |.slice ty x lo hi mx=>l7 h (xY E ty h (ev t x) (lo.map (ev t)) (hi.map (ev t)) (mx.map (ev t)))
 |.fieldAddr ty x k=>A6 E h ty (ev t x) k
 |.indexAddr ty x i=>pX E h ty (ev t x) (ev t i)
 |.index ty x i=>A7 E h ty (ev t x) (ev t i)
 |.extract x i=>l7 h ((ev t x).part i)
 |.makeMap ty r=>Fy E aC h ty (r.map (ev t))
 |.lookup ty m k ok=>Fx E h ty (ev t m) (ev t k) ok
 |.mapUpdate ty m k v=>sP E h ty (ev t m) (ev t k) (ev t v)
 |.insert ty m k v=>sP E h ty (ev t m) (ev t k) (ev t v)
 |.call c=>(match c.callee with
  |.builtin b=>hU E aC b c.argTypes (dk t c.args) h
  |_=>ae)
 |_=>ae
abbrev RC:=Option (V×Heap×List Rec)
def lift(lp:List Rec)(r:R):RC:=eN ae (λx=>ab (x.1,x.2,lp)) r
def m9(f:Nat)(args:List V)(h:Heap)(lp:List Rec):Option (Func×St):=
 (E.fn f).bind λfn=>fn.body.bind λc=>
  match(bif bu (aF args) fn.ntmps then ih f 0 0 c ⟨jd fn.ntmps args,h,lp,[]⟩else ae)with
  |some (.exit _,_)=>ae
  |some (_,st)=>ab (fn,st)
  |none=>ae
def lY(d:Nat×List V):Bool:=match d.2 with|[.undef]=>ag|_=>af
def jY(A:Nat)(df:List (Nat×List V)):Heap->List Rec->Option (Heap×List Rec):=
 bn (λh lp=>ab (h,lp)) (λd _ k h lp=>bif lY d then(bif bu A d.1 then k h lp else ae)else match m9 E ih d.1 d.2 h lp with
  |some (fn,st)=>(match st.df with
   |[]=>(match me E st.h fn st.t with
    |some _=>k st.h st.lp
    |none=>ae)
   |_=>ae)
  |none=>ae) df
def gK(f:Nat)(args:List V)(h:Heap)(lp:List Rec):RC:=
 match m9 E ih f args h lp with
 |some (fn,st)=>(match st.df with
  |[]=>(me E st.h fn st.t).map λv=>(v,st.h,st.lp)
  |df=>(jY E ih (aF h) df st.h st.lp).bind λr=>(me E r.1 fn st.t).map λv=>(v,r.1,r.2))
 |none=>ae
def qC(f:Nat)(args:List D):Option D:=(gK E ih f (mJ args) [] []).bind λr=>r.1.data r.2.1
def iu(f:Nat)(args:List D):Option D:=match E.sm f with|some F=>(match F args with|some r=>ab r|none=>qC E ih f args)|none=>qC E ih f args
def qA(f:Nat)(args:List V)(h:Heap)(lp:List Rec):RC:=
 bif E.inl f then gK E ih f args h lp else
 match nD h args with
 |some ds=>(iu E ih f ds).bind λr=>
   match V.nT args with
   |[]=>ab (.im r,h,lp)
   |A=>bif r.flat then ab (.im r,h,lp)else bif gH h A then ab (.im r,close h A,lp)else ae
 |none=>gK E ih f args h lp
def v8(aC:Nat)(g:Nat)(args:List V)(h:Heap)(lp:List Rec):RC:=
 match E.clone g with
 |some sz=>lift lp (zo E aC sz args h)
 |none=>match E.ext g with
  |0=>qA E ih g args h lp
  |x=>lift lp (ld x args h)
def target(t:Tm)(c:Call):Option (Nat×List V):=
 match c.callee with
 |.value f=>(match ev t f with
  |.fn g a cap=>ab (g,a++(dk t c.args++cap))
  |.im (.fn g)=>ab (g,dk t c.args)
  |_=>ae)
 |_=>ae
def ry(t:Tm)(c:Call):Option (Nat×List V):=
 match c.callee with
 |.value f=>(match ev t f with
  |.jh b=>ab (b,dk t c.args)
  |_=>ae)
 |_=>ae
def AM(ps:List Nat):List V->Tm->Option Tm:=
 bn (λxs t=>match xs with|[]=>ab t|_=>ae) (λp _ ih xs t=>match xs with|[]=>ae|x::xs=>ih xs (t.set p x)) ps
def xL(b:Nat)(xs:List V)(h:Heap):R:=
 match ar h b with
 |some (.lp f t ps bT body)=>(AM ps xs t).bind λt0=>match ih f 1 0 bT ⟨t0,bC h b ae,[],[]⟩with
  |some (.nm,A)=>(match A.df with
   |[]=>(match ih f 1 0 body ⟨A.t,A.h,[],[]⟩with
    |some (.nm,I)=>(match I.df with
     |[]=>ab (.im (.bool ag),aI I.h b (.lp f t ps bT body))
     |_=>ae)
    |_=>ae)
   |_=>ae)
  |_=>ae
 |_=>ae
def kG(aC:Nat)(t:Tm)(c:Call)(h:Heap)(lp:List Rec):RC:=
 match ry t c with
 |some (b,xs)=>lift lp (xL ih b xs h)
 |none=>(target t c).bind λg=>v8 E ih aC g.1 g.2 h lp
def e6(keep:Bool)(ops:Array Oper)(aC:Nat)(o:Oper)(st:St):Option St:=
 match guardOf ops st.t o.guard with
 |none=>ae
 |some af=>ab ⟨putDst st.t o.dst (.im (.aH [])),st.h,st.lp,st.df⟩
 |some ag=>match o.op with
  |.defer c=>(match c.callee with
   |.value f=>(match ev st.t f with
    |.fn g a cap=>bif lY (g,a++(dk st.t c.args++cap))then ae else ab ⟨putDst st.t o.dst .undef,st.h,st.lp,(g,a++(dk st.t c.args++cap))::st.df⟩
    |_=>ae)
   |_=>ae)
  |op=>match(match op with
    |.call c=>(match c.callee with
     |.builtin _=>lift st.lp (di E keep aC st.t st.h op)
     |_=>kG E ih aC st.t c st.h st.lp)
    |op=>lift st.lp (di E keep aC st.t st.h op))with
   |none=>ae
   |some (v,h,lp)=>ab ⟨putDst st.t o.dst v,h,lp,st.df⟩
def dQ(keep:Bool)(ops:Array Oper)(l:List Oper):St->Option St:=
 bn (λst=>ab st) (λo _ k st=>match e6 E ih keep ops (aF st.h) o st with
  |none=>ae
  |some A=>k A) l
def bS:Op->Bool
 |.alloc _|.box _ _|.buildSlice ..|.makeSlice ..|.makeMap .. =>ag
 |.convert .. =>ag
 |.call {callee:=.builtin .append, ..}=>ag
 |.call {callee:=.value (.func g), ..}=>(E.clone g).isSome
 |_=>af
def dg(k:Nat)(m:List Nat)(h:Heap):Heap:=bn (λh=>h) (λi _ ih h=>ih (bC h (k+i) ae)) m h
def V.snap(h:Heap)(v:V):Option D:=
 match v with
 |.ptr b 0 []=>(match ar h b with
  |some (.cell u)=>(u.data h).map .ref
  |_=>ae)
 |v=>v.data h
def nE(h:Heap)(l:List V):Option (List D):=
 bn (ab []) (λv _ ih=>(V.snap h v).bind λd=>ih.map (d:: ·)) l
def awY(h:Heap):Bool:=bn ag (λb _ ih=>match b with|none=>ih|some _=>af) h
mutual
def D.same:D->D->Bool
 |.bool a,.bool b=>decide (a=b)
 |.int k n,.int A m=>decide (k=A)&&decide (n=m)
 |.str s,.str t=>decide (s=t)
 |.nil,.nil=>ag
 |.dD,.dD=>ag
 |.eE,.eE=>ag
 |.mN,.mN=>ag
 |.ref a,.ref b=>D.same a b
 |.an a,.an b=>D.nc a b
 |.agg w a,.agg v b=>al w v&&D.nc a b
 |.aH a,.aH b=>D.nc a b
 |.fn f,.fn g=>al f g
 |.ifc t a,.ifc u b=>al t u&&D.same a b
 |_,_=>af
def D.nc:List D->List D->Bool
 |[],[]=>ag
 |a::l,b::r=>bif D.same a b then D.nc l r else af
 |_,_=>af
end
def cj.same:cj->cj->Bool
 |.cell (.im a),.cell (.im b)=>D.same a b
 |_,_=>af
def lC:Heap->Heap->Bool
 |[],[]=>ag
 |none::l,ae::r=>lC l r
 |some a::l,ab b::r=>bif cj.same a b then lC l r else af
 |_,_=>af
def only(bs:List Nat)(h:Heap):Heap:=bn (λ_=>[]) (λb _ ih i=>(bif bg bs i then b else ae)::ih (i+1)) h 0
def Eb(l:List V):Bool:=match fu l with|[]=>ag|_=>af
def pL:Op->Bool
 |.move _|.assign _|.pick ..|.build ..|.fieldAddr ..|.unOp ..|.extract ..|.nilCheck _|.binOp .. =>ag
 |_=>af
def isQ:Op->Bool
 |.load ..|.indexAddr ..|.index ..|.slice ..|.alloc _|.box ..|.makeSlice .. =>ag
 |op=>pL op
def fL(keep:Bool)(aC:Nat)(t:Tm)(view:Heap)(op:Op):Option (V×Option cj):=
 match op with
 |.call c=>(match c.callee with
  |.builtin .len=>(hU E aC .len c.argTypes (dk t c.args) view).map λr=>(r.1,ae)
  |.builtin .min=>(hU E aC .min c.argTypes (dk t c.args) view).map λr=>(r.1,ae)
  |.builtin .max=>(hU E aC .max c.argTypes (dk t c.args) view).map λr=>(r.1,ae)
  |.builtin _=>ae
  |_=>(target t c).bind λg=>match E.clone g.1 with
   |some _=>ae
   |none=>match E.ext g.1 with
    |0=>bif E.inl g.1 then ae else(nD view g.2).bind λds=>(iu E ih g.1 ds).bind λr=>
     (match V.nT g.2 with
     |[]=>ab (.im r,ae)
     |_=>bif r.flat then ab (.im r,ae)else ae)
    |_=>ae)
 |.buildSlice ty n ps=>bif Eb ((lO (ev t) ps).map Prod.snd)then(mf E keep aC view ty n (lO (ev t) ps)).map λr=>(r.1,ar r.2 aC)else ae
 |op=>bif isQ op then(di E keep aC t view op).map λr=>(r.1,bif bS E op then ar r.2 aC else ae)else ae
def sR(t:Tm)(view:Heap)(op:Op):Option V:=
 match op with
 |.load ty a=>(gd E view ty (ev t a)).map λr=>r.1
 |_=>ae
def dP(h:Heap)(aC:Nat)(k:Option cj):Heap:=match k with|none=>h|some b=>aI h aC b
def jX(t:Tm)(b:Nat)(m:List Nat):Bool:=bn ag (λs _ ih=>match t.get s with|.ptr c _ _=>bif al b c then af else ih|_=>af) m
def oT(t:Tm)(b:Nat)(m:List Nat):Bool:=match m with|[]=>ag|s::_=>(match t.get s with|.ptr c _ _=>al b c|_=>af)
def DL(b:Option cj):Bool:=match b with|some (.cell _)=>ag|_=>af
def dn(keep:Bool)(ops:Array Oper)(k n i cls:Nat)(m:List Nat)(o:Oper)(st:St):Option St:=
 match guardOf ops st.t o.guard with
 |none=>ae
 |some af=>ab ⟨putDst st.t o.dst (.im (.aH [])),st.h,st.lp,st.df⟩
 |some ag=>match cls with
  |0=>(di E keep (k+i) st.t [] o.op).map λr=>⟨putDst st.t o.dst r.1,st.h,st.lp,st.df⟩
  |1=>bif bS E o.op then(match ar st.h (k+i)with
    |none=>(fL E ih keep (k+i) st.t (dg k m st.h) o.op).map λr=>⟨putDst st.t o.dst r.1,dP st.h (k+i) r.2,st.lp,st.df⟩
    |some _=>ae)
   else(fL E ih keep (aF st.h) st.t (dg k m st.h) o.op).bind λr=>(match r.2 with
    |none=>ab ⟨putDst st.t o.dst r.1,st.h,st.lp,st.df⟩
    |some _=>ae)
  |2=>(sR E st.t (dg k m (st.h.take (k+n))) o.op).map λv=>⟨putDst st.t o.dst v,st.h,st.lp,st.df⟩
  |3=>e6 E ih keep ops (aF st.h) o st
  |4=>(match o.op with
   |.call c=>(target st.t c).bind λg=>(gK E ih g.1 g.2 (only (l9 st.h 0 64 (iH 0 (fu g.2) [])) st.h) st.lp).bind λr=>
     bif lC (only (l9 st.h 0 64 (iH 0 (fu g.2) [])) st.h) (r.2.1.take (aF st.h))then ab ⟨putDst st.t o.dst r.1,st.h++r.2.1.drop (aF st.h),r.2.2,st.df⟩else ae
   |_=>ae)
  |6=>(match o.op with
   |.store ty a x=>(match ev st.t a with
    |.ptr b g p=>bif jX st.t b m&&DL (ar st.h b)then(ra E st.h ty (.ptr b g p) (ev st.t x)).map λr=>⟨putDst st.t o.dst r.1,r.2,st.lp,st.df⟩else ae
    |_=>ae)
   |_=>ae)
  |7=>(match o.op with
   |.load ty a=>(match ev st.t a with
    |.ptr b g p=>bif oT st.t b m then(gd E (st.h.take k) ty (.ptr b g p)).map λr=>⟨putDst st.t o.dst r.1,st.h,st.lp,st.df⟩else ae
    |_=>ae)
   |_=>ae)
  |_=>(match o.op with
   |.call c=>(target st.t c).bind λg=>(nE (dg k m st.h) g.2).bind λds=>(iu E ih g.1 ds).bind λr=>
     bif r.flat then ab ⟨putDst st.t o.dst (.im r),st.h,st.lp,st.df⟩else ae
   |_=>ae)
def news:List Oper->Nat
 |[]=>0
 |o::l=>(bif bS E o.op then 1 else 0)+news l
def ie(keep:Bool)(ops:Array Oper)(k n:Nat)(l:List Oper):List (Nat×List Nat)->Nat->St->Option St:=
 bn (λ_ _ st=>ab st) (λo _ I ds i st=>match ds with
  |[]=>ae
  |(c,m)::ds=>match dn E ih keep ops k n i c m o st with
   |none=>ae
   |some A=>I ds (bif bS E o.op then i+1 else i) A) l
def qZ(f id:Nat)(ops:Array Oper)(st:St):Option St:=
 (E.dr f id).bind λds=>(news E ops.toList |>λn=>
  ie E ih (E.keep f) ops (aF st.h) n ops.toList ds 0 ⟨st.t,st.h++jz n ae,st.lp,st.df⟩)
def DM:Op->Bool
 |.load ..|.indexAddr .. =>ag
 |.convert s d _=>(match E.kind s,E.kind d with|some (.int _),ab (.int _)=>ag|_,_=>af)
 |_=>af
def tmpsOf(l:List Operand):List Nat:=bn [] (λo _ ih=>match o with|.tmp t=>t::ih|_=>ih) l
def reads(ops:Array Oper)(o:Oper):List Nat:=
 tmpsOf o.op.operands.toList++(match o.guard with
  |some (j,_)=>(match bG ops.toList j with|some g=>g.dst.toList|none=>[])
  |none=>[])
def Ns(ops:Array Oper)(a b:Oper):Bool:=
 (match a.dst with|some d=>not (bg (reads ops b) d)&&not (b.dst==ab d)|none=>ag)&&
 (match b.dst with|some d=>not (bg (reads ops a) d)|none=>ag)
def zB(o:Oper)(m:List Nat):Bool:=match o.dst with|some d=>not (bg m d)|none=>ag
def Qf(ma mb:List Nat):Bool:=match mb with|[]=>af|s::_=>bg ma s
def SI(c:Nat):Bool:=al c 1||(al c 2||al c 5)
def Wd(ca cb:Nat)(ma mb:List Nat):Bool:=(SI ca&&al cb 7)||(al ca 7&&(al cb 6&&Qf mb ma))
def vY(ops:Array Oper)(a b:Oper)(ca cb:Nat)(ma mb:List Nat)(na nb:Nat):Bool:=
 (Ns ops a b&&((not (al ca 6||al ca 7)||zB b ma)&&(not (al cb 6||al cb 7)||zB a mb)))&&
 (al ca 0||(al cb 0||(Wd ca cb ma mb||
  ((al ca 4&&al cb 2)||(
   ((al ca 1||(al ca 2||al ca 5))&&((al cb 1||(al cb 2||al cb 5))&&
    ((not (bS E a.op&&al ca 1)||bg mb na)&&(not (bS E b.op&&al cb 1)||bg ma nb)))))))))
def tU(l:List Oper):List Nat->List Nat:=
 bn (λA=>A) (λo _ ih A=>ih (A++[o.after.toList.foldl (λs e=>bif vj .any e then vy s (vy (2^e.on) ((bG A e.on).getD 0))else s) 0])) l
def Az(o:Oper)(i:Nat)(c:Nat):Bool:=
 (o.after.toList.all λe=>not (vj .any e)||cQ e.on i)&&
 (bif al c 0 then pL o.op||DM E o.op else ag)
def Ay(ops:Array Oper)(o:Oper)(bf:Nat)(c:Nat)(m:List Nat)(I:Nat)(l:List Oper)(ds:List (Nat×List Nat)):Nat->Nat->Bool:=
 bn (λ_ _ _=>ag) (λp _ ih ds j A=>match ds with
  |[]=>ag
  |(J,U)::ds=>(Nat.testBit bf j||vY E ops p o J c U m A I)&&ih ds (j+1) (bif bS E p.op then A+1 else A)) l ds
def J4(ops:Array Oper)(A:List Nat)(I:List (Nat×List Nat))(l:List Oper)(ds:List (Nat×List Nat)):Nat->Nat->Bool:=
 bn (λ_ _ _=>ag) (λo _ ih ds i J=>match ds with
  |[]=>af
  |(c,m)::ds=>Az E o i c&&(Ay E ops o ((bG A i).getD 0) c m J (ops.toList.take i) (I.take i) 0 0&&ih ds (i+1) (bif bS E o.op then J+1 else J))) l ds
def HI(ops:Array Oper)(ds:List (Nat×List Nat)):Bool:=J4 E ops (tU ops.toList []) ds ops.toList ds 0 0
def pF(a:Bool)(h:Heap)(v:V):Heap:=
 match v with
 |.own b _ _ _ _=>(match ar h b with
  |some (.cG g s l)=>(match V.dW (gL h) l with
   |some ds=>bif gH h (V.eP l)then aI (close h (V.eP l)) b (bif a then .arr g s 0 ds else .cG g s (mJ ds))else h
   |none=>h)
  |_=>h)
 |_=>h
def x8(h:Heap)(c n:Nat):Heap:=
 match ar h c with
 |some (.arr A s ro l)=>bif bu ro n&&bu n (aF l)then aI h c (.arr A s ro (l.take n))else h
 |_=>h
def sX(h:Heap)(v:V):Heap:=
 match v with
 |.ptr b g p=>(match eU h b g p with
  |some (.own c _ _ n _)=>x8 h c n
  |_=>h)
 |.own c _ _ n _=>x8 h c n
 |_=>h
def gn(q:Bool)(f id:Nat)(st:St):St:=
 match E.Dh f id with
 |none=>st
 |some (a,k)=>match q,a with
  |false,0=>⟨st.t,pF af st.h (st.t.get k),st.lp,st.df⟩
  |true,1=>⟨st.t,pF ag st.h (st.t.get k),st.lp,st.df⟩
  |true,2=>⟨st.t,sX st.h (st.t.get k),st.lp,st.df⟩
  |_,_=>st
def pA(f fb cur:Nat)(c:Code)(st:St):Option (Ex×St):=
 match c with
 |.skip=>ab (.nm,st)
 |.label _=>ab (.nm,st)
 |.region id ops I=>match(bif I then qZ E ih f id ops (gn E af f id st)else dQ E ih (E.keep f) ops ops.toList (gn E af f id st))with
  |some A=>ab (.nm,gn E ag f id A)
  |none=>ae
 |.seq a b=>match ih f fb cur a st with
  |some (.nm,A)=>ih f fb cur b A
  |r=>r
 |.cond c a b=>match ev st.t c with
  |.im (.bool t)=>bif t then ih f fb cur a st else ih f fb cur b st
  |_=>ae
 |.block id b=>match ih f fb id b st with
  |some (.exit j,A)=>bif al j id then ab (.nm,A)else ab (.exit j,A)
  |r=>r
 |.loop b=>match ih f fb cur b st with
  |some (.nm,A)=>ih f fb cur (.loop b) A
  |r=>r
 |.scope b=>ih f fb cur b st
 |.rangeFunc g ps bT body=>(match(match ev st.t g with|.fn g a cap=>ab (g,a,cap)|.im (.fn g)=>ab (g,[],[])|_=>ae:Option (Nat×List V×List V))with
  |some (g,a,cap)=>(match gK E ih g (a++(.jh (aF st.h+1)::cap)) (st.h++[ae,ab (.lp f st.t ps.toList bT body)]) st.lp with
   |some (_,h',lp)=>(match ar h' (aF st.h+1)with
    |some (.lp ..)=>ab (.nm,⟨st.t,bC h' (aF st.h+1) ae,lp,bif al fb 0 then(aF st.h,[V.undef])::st.df else st.df⟩)
    |_=>ae)
   |none=>ae)
  |none=>ae)
 |.exit id=>ab (.exit id,st)
 |.ret=>ab (.ret,st)
 |_=>ae
end
def exec(E:Env)(n:Nat):Nat->Nat->Nat->Code->St->Option (Ex×St):=
 hG (λ_ _ _ _ _=>ae) (λ_ ih=>pA E ih) n
def WT(E:Env)(n f:Nat)(args:List D):Option D:=qC E (exec E n) f args
end
open Go.RowKit (Below)
abbrev IV:=Addr->Option Value
def fv:Nat:=9223372036854775807
def cK(C:IV)(a:Addr)(vs:List Value):Prop:=∀j v,vs[j]? =ab v->C (a.add j)=ab v
def dz(k:IntKind)(n:Int):Prop:=k.min<=n/\n<=k.max
def CC(b:ByteArray):List Nat:=b.data.toList.map aiz
mutual
def aR(C:IV):D->Bool->List Value->Prop
 |.bool b,_,vs=>vs=[.bool b]
 |.int k n,_,vs=>vs=[.int k n]/\dz k n
 |.str s,_,vs=>∃b:ByteArray,vs=[.string b]/\CC b=s/\b.size<=fv
 |.nil,_,vs=>vs=[.pointer ae]
 |.ref d,_,vs=>∃a ws,vs=[.pointer (ab a)]/\a.spot=ae/\aR C d af ws/\cK C a ws
 |.an l,_,vs=>∃a n cap,vs=[.slice a n cap]/\n=l.length/\n<=cap/\n<=fv/\
   (n=0∨∃I A s,a=ab I/\I.spot=ae/\bI C l af A/\(∀ws∈A,ws.length=s)/\cK C I A.flatten)
 |.agg w l,ag,vs=>∃cs A,vs=[.agg cs]/\cs.toList=A.flatten/\bI C l af A/\cs.size=w
 |.agg w l,af,vs=>∃A,vs=A.flatten/\bI C l af A/\vs.length=w
 |.aH l,ag,vs=>∃J A,vs=[.tuple J]/\bI C l ag A/\J.toList=A.flatten
 |.aH _,af,_=>False
 |.fn f,_,vs=>vs=[.func (.func f) #[] #[]]
 |.dD,_,vs=>vs=[.nilFunc]
 |.ifc t d,_,vs=>∃x,vs=[.iface t x]/\aR C d ag [x]
 |.eE,_,vs=>vs=[.nilIface]
 |.mN,_,vs=>vs=[.map ae]
def bI(C:IV):List D->Bool->List (List Value)->Prop
 |[],_,A=>A=[]
 |d::l,m,A=>∃ws r,A=ws::r/\aR C d m ws/\bI C l m r
end
def IV.le(C C':IV):Prop:=∀a v,C a=ab v->C' a=ab v
theorem IV.le.refl(C:IV):C.le C:=λ_ _ h=>h
theorem IV.le.trans{A B C:IV}(h:A.le B)(k:B.le C):A.le C:=λa v e=>k a v (h a v e)
theorem cK.mono{C C':IV}(h:C.le C'){a:Addr}{vs:List Value}(k:cK C a vs):cK C' a vs:=λj v e=>h _ _ (k j v e)
mutual
theorem aR.mono{C C':IV}(h:C.le C'):∀(d:D) (m:Bool) (vs:List Value),aR C d m vs->aR C' d m vs
 |.bool _,_,_,k|.nil,_,_,k|.fn _,_,_,k|.dD,_,_,k|.eE,_,_,k|.mN,_,_,k|.int _ _,_,_,k|.str _,_,_,k=>by simpa[aR]using k
 |.ref d,_,_,k=>by
  simp only[aR]at k|-
  obtain⟨a,ws,e,s,r,c⟩:=k
  exact⟨a,ws,e,s,aR.mono h d af ws r,c.mono h⟩
 |.an l,_,_,k=>by
  simp only[aR]at k|-
  obtain⟨a,n,cap,e,U,J,hm,r⟩:=k
  refine⟨a,n,cap,e,U,J,hm,r.imp id ?_⟩
  rintro⟨Z,A,s,b,f,g,hw,J⟩
  exact⟨Z,A,s,b,f,bI.mono h l af A g,hw,J.mono h⟩
 |.agg w l,ag,_,k=>by
  simp only[aR]at k|-
  obtain⟨cs,A,e,h1,h2,I⟩:=k
  exact⟨cs,A,e,h1,bI.mono h l af A h2,I⟩
 |.agg w l,af,_,k=>by
  simp only[aR]at k|-
  obtain⟨A,e,h2,I⟩:=k
  exact⟨A,e,bI.mono h l af A h2,I⟩
 |.aH l,ag,_,k=>by
  simp only[aR]at k|-
  obtain⟨i,A,e,h2,I⟩:=k
  exact⟨i,A,e,bI.mono h l ag A h2,I⟩
 |.aH l,af,_,k=>by simp[aR]at k
 |.ifc t d,_,_,k=>by
  simp only[aR]at k|-
  obtain⟨x,e,r⟩:=k
  exact⟨x,e,aR.mono h d ag [x] r⟩
theorem bI.mono{C C':IV}(h:C.le C'):∀(l:List D) (m:Bool) (aX:List (List Value)),bI C l m aX->bI C' l m aX
 |[],_,_,k=>by simpa[bI]using k
 |d::l,m,_,k=>by
  simp only[bI]at k|-
  obtain⟨ws,r,e,h1,h2⟩:=k
  exact⟨ws,r,e,aR.mono h d m ws h1,bI.mono h l m r h2⟩
end
structure BI where
 g:Nat
 base:Option Addr
 s:Nat
 cap:Nat
 fix:Bool
structure Cx where
 C:IV
 M:Nat->Option BI
 L:Nat->Option Nat
def ph(X:Cx)(b g off len:Nat)(aP:Bool)(v:Value):Prop:=
 (∃a cap,v=.slice a len cap/\len<=cap/\len<=fv/\(cap=0∨∃A,a=ab A))/\∃bi,X.M b=ab bi/\g<=bi.g/\(g=bi.g->∃a cap,v=.slice a len cap/\len<=cap/\len<=fv/\off+cap<=bi.cap/\
  (aP=ag->cap=len)/\(cap=0∨∃A,bi.base=ab A/\A.spot=ae/\a=ab (A.add (off*bi.s))))
def ju(p:List (Nat×Nat)):Nat:=(p.map (·.2)).sum
def tB(X:Cx)(b g:Nat)(p:List (Nat×Nat))(v:Value):Prop:=
 (∃a,v=.pointer (ab a))/\∃bi,X.M b=ab bi/\g<=bi.g/\(g=bi.g->∃A,bi.base=ab A/\A.spot=ae/\v=.pointer (ab (A.add (ju p))))
theorem ph.one{X:Cx}{b g off len:Nat}{aP:Bool}{v:Value}(h:ph X b g off len aP v):v.oneCell'=ag:=by obtain⟨⟨a,n,e,_⟩,_⟩:=h;subst e;rfl
theorem tB.one{X:Cx}{b g:Nat}{p:List (Nat×Nat)}{v:Value}(h:tB X b g p v):v.oneCell'=ag:=by obtain⟨⟨a,e⟩,_⟩:=h;subst e;rfl
def yJ(C:IV)(l:List D)(v:Value):Prop:=
 ∃a n,v=.slice a n n/\n=l.length/\n<=fv/\
  (n=0∨∃I A s,a=ab I/\I.spot=ae/\bI C l af A/\(∀ws∈A,ws.length=s)/\cK C I A.flatten)
mutual
def aq(X:Cx):V->Bool->List Value->Prop
 |.undef,ag,vs=>vs.length=1
 |.undef,af,_=>False
 |.im d,m,vs=>aR X.C d m vs
 |.agg w l,ag,vs=>∃cs A,vs=[.agg cs]/\cs.toList=A.flatten/\bM X l af A/\cs.size=w
 |.agg w l,af,vs=>∃A,vs=A.flatten/\bM X l af A/\vs.length=w
 |.aH l,ag,vs=>∃I A,vs=[.tuple I]/\bM X l ag A/\I.toList=A.flatten
 |.aH _,af,_=>False
 |.own b g off len aP,_,vs=>∃v,vs=[v]/\ph X b g off len aP v
 |.full l,_,vs=>∃v,vs=[v]/\yJ X.C l v
 |.ptr b g p,_,vs=>∃v,vs=[v]/\tB X b g p v
 |.fn f a c,_,vs=>∃fs cs J U,vs=[.func (.func f) fs cs]/\bM X a ag J/\fs.toList=J.flatten/\bM X c ag U/\cs.toList=U.flatten
 |.ifc t v,_,vs=>∃x,vs=[.iface t x]/\aq X v ag [x]
 |.mp b,_,vs=>∃r bi,vs=[.map (ab r)]/\X.M b=ab bi/\bi.base=ab ⟨r,0,ae⟩/\bi.fix=ag
 |.jh i,_,vs=>∃l,vs=[.func (.yield l) #[] #[]]/\∃bi,X.M i=ab bi/\bi.base=ab ⟨l,0,ae⟩/\bi.fix=ag
def bM(X:Cx):List V->Bool->List (List Value)->Prop
 |[],_,A=>A=[]
 |v::l,m,A=>∃ws r,A=ws::r/\aq X v m ws/\bM X l m r
end
structure Cx.le(fb:Nat)(X Y:Cx):Prop where
 C:X.C.le Y.C
 M:∀b bi,b< fb->X.M b=ab bi->∃bj,Y.M b=ab bj/\bi.g<=bj.g/\(bi.g=bj.g->bi=bj)/\(bi.fix=ag->bi=bj)
 L:∀i l,X.L i=ab l->Y.L i=ab l
theorem Cx.le.refl(fb:Nat)(X:Cx):X.le fb X:=⟨.refl _,λ_ bi _ h=>⟨bi,h,aL _,λ_=>rfl,λ_=>rfl⟩,λ_ _ h=>h⟩
theorem Cx.le.trans{fb:Nat}{X Y Z:Cx}(h:X.le fb Y)(k:Y.le fb Z):X.le fb Z:=
 ⟨h.C.trans k.C,λb bi A e=>by
  obtain⟨bj,I,J,h1,f1⟩:=h.M b bi A e;obtain⟨bk,U,a,h2,f2⟩:=k.M b bj A I;grind,λi l e=>k.L i l (h.L i l e)⟩
theorem Cx.le.less{fb A:Nat}{X Y:Cx}(h:X.le fb Y)(hf:A<=fb):X.le A Y:=⟨h.C,λb bi I e=>h.M b bi (by omega) e,h.L⟩
def Cx.lt(X:Cx)(n:Nat):Prop:=∀b bi,X.M b=ab bi->b< n
mutual
def V.low(fb:Nat):V->Prop
 |.undef|.im _|.full _=>True
 |.agg _ l|.aH l=>V.lZ fb l
 |.own b _ _ _ _|.ptr b _ _|.mp b|.jh b=>b< fb
 |.fn _ a c=>V.lZ fb a/\V.lZ fb c
 |.ifc _ v=>v.low fb
def V.lZ(fb:Nat):List V->Prop
 |[]=>True
 |v::l=>v.low fb/\V.lZ fb l
end
theorem ph.mono{fb:Nat}{X Y:Cx}(h:X.le fb Y){b g off len:Nat}{aP:Bool}{v:Value}(A:b< fb)(k:ph X b g off len aP v):ph Y b g off len aP v:=by
 obtain⟨h1,bi,e,I,r⟩:=k;obtain⟨bj,J,U,h2,_⟩:=h.M b bi A e;refine⟨h1,bj,J,b8 I U,λZ=>?_⟩
 grind
theorem tB.mono{fb:Nat}{X Y:Cx}(h:X.le fb Y){b g:Nat}{p:List (Nat×Nat)}{v:Value}(A:b< fb)(k:tB X b g p v):tB Y b g p v:=by
 obtain⟨h1,bi,e,I,r⟩:=k;obtain⟨bj,J,U,h2,_⟩:=h.M b bi A e;refine⟨h1,bj,J,b8 I U,λZ=>?_⟩
 grind
theorem yJ.mono{C C':IV}(h:C.le C'){l:List D}{v:Value}(k:yJ C l v):yJ C' l v:=by
 obtain⟨a,n,e,I,hm,r⟩:=k;refine⟨a,n,e,I,hm,r.imp id ?_⟩;rintro⟨J,A,s,U,Z,b,hw,c⟩;exact⟨J,A,s,U,Z,b.mono h,hw,c.mono h⟩
mutual
theorem aq.mono{fb:Nat}{X Y:Cx}(h:X.le fb Y):∀(v:V) (m:Bool) (vs:List Value),v.low fb->aq X v m vs->aq Y v m vs
 |.undef,ag,_,_,k=>by simpa[aq]using k
 |.undef,af,_,_,k=>by simp[aq]at k
 |.im d,m,vs,_,k=>by simp only[aq]at k|-;exact aR.mono h.C d m vs k
 |.agg w l,ag,_,A,k=>by
  simp only[aq]at k|-
  obtain⟨cs,I,e,h1,h2,J⟩:=k
  exact⟨cs,I,e,h1,bM.mono h l af I (by simpa[V.low]using A) h2,J⟩
 |.agg w l,af,_,A,k=>by
  simp only[aq]at k|-
  obtain⟨I,e,h2,J⟩:=k
  exact⟨I,e,bM.mono h l af I (by simpa[V.low]using A) h2,J⟩
 |.aH l,ag,_,A,k=>by
  simp only[aq]at k|-
  obtain⟨n,I,e,h2,J⟩:=k
  exact⟨n,I,e,bM.mono h l ag I (by simpa[V.low]using A) h2,J⟩
 |.aH _,af,_,_,k=>by simp[aq]at k
 |.own b g off len aP,_,_,A,k=>by
  simp only[aq]at k|-
  obtain⟨v,e,r⟩:=k
  exact⟨v,e,r.mono h (by simpa[V.low]using A)⟩
 |.full l,_,_,_,k=>by
  simp only[aq]at k|-
  obtain⟨v,e,r⟩:=k
  exact⟨v,e,r.mono h.C⟩
 |.ptr b g p,_,_,A,k=>by
  simp only[aq]at k|-
  obtain⟨v,e,r⟩:=k
  exact⟨v,e,r.mono h (by simpa[V.low]using A)⟩
 |.fn f a c,_,_,A,k=>by
  simp only[aq]at k|-
  simp only[V.low]at A
  obtain⟨fs,cs,Z,j,e,h1,o,h2,U⟩:=k
  exact⟨fs,cs,Z,j,e,bM.mono h a ag Z A.1 h1,o,bM.mono h c ag j A.2 h2,U⟩
 |.ifc t v,_,_,A,k=>by
  simp only[aq]at k|-
  obtain⟨x,e,r⟩:=k
  exact⟨x,e,aq.mono h v ag [x] (by simpa[V.low]using A) r⟩
 |.mp b,_,_,A,k=>by
  simp only[aq]at k|-
  obtain⟨r,bi,e,h1,h2,J⟩:=k
  obtain⟨bj,U,q,s,hf⟩:=h.M b bi (by simpa[V.low]using A) h1
  have:=hf J;subst this
  exact⟨r,bi,e,U,h2,J⟩
 |.jh i,_,_,A,k=>by
  simp only[aq]at k|-
  obtain⟨l,e,bi,h1,h2,J⟩:=k
  obtain⟨bj,U,q,s,hf⟩:=h.M i bi (by simpa[V.low]using A) h1
  have:=hf J;subst this
  exact⟨l,e,bi,U,h2,J⟩
theorem bM.mono{fb:Nat}{X Y:Cx}(h:X.le fb Y):∀(l:List V) (m:Bool) (aX:List (List Value)),V.lZ fb l->bM X l m aX->bM Y l m aX
 |[],_,_,_,k=>by simpa[bM]using k
 |v::l,m,_,A,k=>by
  simp only[bM]at k|-
  simp only[V.lZ]at A
  obtain⟨ws,r,e,h1,h2⟩:=k
  exact⟨ws,r,e,aq.mono h v m ws A.1 h1,bM.mono h l m r A.2 h2⟩
end
mutual
theorem aq.low{X:Cx}{n:Nat}(I:X.lt n):∀(v:V) (m:Bool) (vs:List Value),aq X v m vs->v.low n
 |.undef,_,_,_|.im _,_,_,_|.full _,_,_,_=>by simp[V.low]
 |.agg w l,ag,_,k=>by
  simp only[aq]at k
  obtain⟨cs,A,e,h1,h2,J⟩:=k
  simpa[V.low]using bM.low I l af A h2
 |.agg w l,af,_,k=>by
  simp only[aq]at k
  obtain⟨A,e,h2,J⟩:=k
  simpa[V.low]using bM.low I l af A h2
 |.aH l,ag,_,k=>by
  simp only[aq]at k
  obtain⟨d,A,e,h2,J⟩:=k
  simpa[V.low]using bM.low I l ag A h2
 |.aH _,af,_,k=>by simp[aq]at k
 |.own b g off len aP,_,_,k=>by
  simp only[aq]at k
  obtain⟨v,e,h1,bi,h2,r⟩:=k
  simpa[V.low]using I b bi h2
 |.ptr b g p,_,_,k=>by
  simp only[aq]at k
  obtain⟨v,e,h1,bi,h2,r⟩:=k
  simpa[V.low]using I b bi h2
 |.fn f a c,_,_,k=>by
  simp only[aq]at k
  obtain⟨fs,cs,U,Z,e,h1,i,h2,j⟩:=k
  simp only[V.low]
  exact⟨bM.low I a ag U h1,bM.low I c ag Z h2⟩
 |.ifc t v,_,_,k=>by
  simp only[aq]at k
  obtain⟨x,e,r⟩:=k
  simpa[V.low]using aq.low I v ag [x] r
 |.mp b,_,_,k=>by
  simp only[aq]at k
  obtain⟨r,bi,e,h1,h2⟩:=k
  simpa[V.low]using I b bi h1
 |.jh b,_,_,k=>by
  simp only[aq]at k
  obtain⟨l,e,bi,h1,h2⟩:=k
  simpa[V.low]using I b bi h1
theorem bM.low{X:Cx}{n:Nat}(I:X.lt n):∀(l:List V) (m:Bool) (A:List (List Value)),bM X l m A->V.lZ n l
 |[],_,_,_=>by simp[V.lZ]
 |v::l,m,_,k=>by
  simp only[bM]at k
  obtain⟨ws,r,e,h1,h2⟩:=k
  simp only[V.lZ]
  exact⟨aq.low I v m ws h1,bM.low I l m r h2⟩
end
section
@[simp] theorem cu{α:Type}(l:List α)(i:Nat):bG l i=l[i]? :=by
 induction l generalizing i with
 |nil=>rfl
 |cons a l ih=>cases i<;>first|rename_i i;exact(ih i).trans (by simp)|rfl
@[simp] theorem bz{α:Type}(l:List α):aF l=l.length:=by
 induction l with
 |nil=>rfl
 |cons a l ih=>show aF l+1=_;rw[ih];rfl
@[simp] theorem eO{α:Type}(l:List α)(i:Nat)(x:α):bC l i x=l.set i x:=by
 induction l generalizing i with
 |nil=>rfl
 |cons a l ih=>cases i<;>first|rename_i i;show a::bC l i x=_;rw[ih];rfl|rfl
@[simp] theorem mc{α:Type}(n:Nat)(x:α):jz n x=bP n x:=by
 induction n with
 |zero=>rfl
 |succ n ih=>show x::jz n x=_;rw[ih];rfl
@[simp] theorem oG(l:List D):mJ l=l.map V.im:=by
 induction l with
 |nil=>rfl
 |cons a l ih=>show V.im a::mJ l=_;rw[ih];rfl
theorem cy(h:Heap)(b:Nat):ar h b=(h[b]?).join:=by
 unfold ar;rw[cu];cases h[b]?<;>rfl
theorem Dx(b:Option cj)(r:Heap)(n:Nat)(x:cj):aI (b::r) (n+1) x=b::aI r n x:=rfl
theorem b9(h:Heap)(n:Nat)(x:cj):(aI h n x).length=if n< h.length then h.length else h.length+1:=by
 induction h generalizing n with
 |nil=>rfl
 |cons b r ih=>cases n with
  |zero=>rfl
  |succ n=>
   rw[Dx,fH];grind
theorem bR(h:Heap)(n m:Nat)(x:cj)(A:n<=h.length):ar (aI h n x) m=if m=n then ab x else ar h m:=by
 induction h generalizing n m with
 |nil=>
  grind[cy,aI]
 |cons b r ih=>cases n with
  |zero=>grind[aI,cy]
  |succ n=>cases m with
   |zero=>rfl
   |succ m=>
    simp_all[Dx,cy,List.getElem?_cons_succ,ih n m (by simpa using A)]
theorem e8{h:Heap}{b:Nat}{k:cj}(e:ar h b=ab k):b< h.length:=by
 rw[cy]at e;grind
structure eJ(w w':World):Prop where
 block:∀r:Nat,r< w.heap.size->w'.heap[r]? =w.heap[r]?
theorem eJ.cell{w w':World}(k:eJ w w'):∀a v,w.cell? a=ab v->w'.cell? a=ab v:=λa v e=>
 (World.cell?_of_block (w:=w) (k.block a.block (yr w a e))).trans e
theorem eJ.frozen{w w':World}(k:eJ w w'):∀a v,w.cell? a=ab v->w'.frozen? a=w.frozen? a:=λa _ e=>
 World.frozen?_of_block (w:=w) (k.block a.block (yr w a e))
theorem eJ.obj{w w':World}(k:eJ w w'):∀(r:Nat) (o:Obj),w.heap[r]? =ab o->w'.heap[r]? =ab o:=λr _ e=>
 (k.block r (Array.getElem?_eq_some_iff.1 e).1).trans e
theorem eJ.refl(w:World):eJ w w:=⟨λ_ _=>rfl⟩
theorem avw{w w':World}(k:∀r:Nat,r< w.heap.size->w'.heap[r]? =w.heap[r]?):w.heap.size<=w'.heap.size:=by
 grind
theorem eJ.trans{a b c:World}(h:eJ a b)(k:eJ b c):eJ a c:=
 ⟨λr e=>(k.block r (fY e (avw h.block))).trans (h.block r e)⟩
theorem eJ.Ax{w w':World}(h:Below w.heap.size w w'):eJ w w':=⟨h.block⟩
theorem NI(w:World)(o:Obj):Below w.heap.size w (w.alloc o):=(Below.refl _ _).alloc (aL _) o
theorem G5(w:World):Below w.heap.size w w.drew:=(Below.refl _ _).drew
theorem eJ.alloc(w:World)(o:Obj):eJ w (w.alloc o):=.Ax (NI w o)
class Gh where
 K:Nat->Nat->Code->Prop
 G:IV->Prop
 gm:∀{C C':IV},C.le C'->G C->G C'
variable [Gh]
structure CI(C:IV)(w:World):Prop where
 ci:∀a v,C a=ab v->w.cell? a=ab v
 gl:Gh.G C
instance {C:IV}{w:World}:CoeFun (CI C w) λ_=>∀a v,C a=ab v->w.cell? a=ab v:=⟨CI.ci⟩
theorem CI.keep{C:IV}{w w':World}(h:CI C w)(k:eJ w w'):CI C w':=⟨λa v e=>k.cell a v (h a v e),h.gl⟩
theorem cK.keep{w w':World}{a:Addr}{vs:List Value}(h:cK w.cell? a vs)(k:eJ w w'):cK w'.cell? a vs:=λj v e=>k.cell _ v (h j v e)
def fZ(w:World)(O:Addr->Prop)(a:Addr)(i n:Nat):Prop:=∀j,i<=j->j< n->O (a.add j)/\(∃v,w.cell? (a.add j)=ab v)/\w.frozen? (a.add j)=af
theorem fZ.keep{w w':World}{O:Addr->Prop}{a:Addr}{i n:Nat}(h:fZ w O a i n)(k:eJ w w'):fZ w' O a i n:=λj h1 h2=>
 let⟨o,⟨v,e⟩,f⟩:=h j h1 h2
 ⟨o,⟨v,k.cell _ v e⟩,(k.frozen _ v e).trans f⟩
structure Gs(X:Cx)(f:Nat)(t:Tm)(ps:List Nat)(bT body:Code)(r:Loop):Prop where
 SH:r.state=.ready
 aed:r.pending=ae
 SF:r.params.toList=ps
 aeb:r.assign=bT
 aec:r.body=body
 qt:∀i,aq X (t.get i) ag [r.tmps.getD i undef]
 qlt:∀p∈ps,p< r.tmps.size
 k1:Gh.K f r.tmps.size bT
 k2:Gh.K f r.tmps.size body
theorem Gs.mono{n:Nat}{X Y:Cx}{f:Nat}{t:Tm}{ps:List Nat}{bT body:Code}{r:Loop}(h:Gs X f t ps bT body r)(I:∀i,(t.get i).low n)(A:X.le n Y):Gs Y f t ps bT body r:=
 ⟨h.SH,h.aed,h.SF,h.aeb,h.aec,λi=>(h.qt i).mono A _ _ _ (I i),h.qlt,h.k1,h.k2⟩
def iF(X:Cx):List (D×V)->List MapEntry->Prop
 |[],A=>A=[]
 |e::es,A=>∃m r,A=m::r/\aR X.C e.1 ag [m.key]/\aq X e.2 ag [m.val]/\iF X es r
def BR(X:Cx)(w:World)(O:Addr->Prop)(b:Nat):cj->Prop
 |.cell v=>∃bi I ws,X.M b=ab bi/\bi.g=0/\bi.fix=ag/\bi.base=ab I/\I.spot=ae/\aq X v af ws/\cK w.cell? I ws/\fZ w O I 0 ws.length
 |.arr g s ro l=>∃bi,X.M b=ab bi/\bi.g=g/\bi.fix=af/\(l.length<=bi.cap/\ro<=l.length)/\bi.cap<=fv/\(bi.cap=0∨(bi.s=s/\∃I A,bi.base=ab I/\I.spot=ae/\
   bI X.C l af A/\(∀ws∈A,ws.length=s)/\cK w.cell? I A.flatten/\cK X.C I (A.flatten.take (ro*s))/\fZ w O I (ro*s) (bi.cap*s)))
 |.cG g s l=>∃bi,X.M b=ab bi/\bi.g=g/\bi.fix=af/\l.length<=bi.cap/\bi.cap<=fv/\(bi.cap=0∨(bi.s=s/\∃I A,bi.base=ab I/\I.spot=ae/\
   bM X l af A/\(∀ws∈A,ws.length=s)/\cK w.cell? I A.flatten/\fZ w O I 0 (bi.cap*s)))
 |.mp es=>∃bi r J U,X.M b=ab bi/\bi.g=0/\bi.fix=ag/\bi.base=ab ⟨r,0,ae⟩/\w.heap[r]? =ab (.map J U)/\O ⟨r,0,ae⟩/\iF X es J.toList
 |.lp f t ps bT body=>∃bi l r,X.M b=ab bi/\bi.g=0/\bi.fix=ag/\bi.base=ab ⟨l,0,ae⟩/\w.heap[l]? =ab (.loop r)/\O ⟨l,0,ae⟩/\Gs X f t ps bT body r
structure HR(B:Nat)(X:Cx)(O:Nat->Addr->Prop)(w:World)(h:Heap):Prop where
 dO:∀b k,ar h b=ab k->BR X w (O b) b k
 own:∀b a,O b a->B<=a.block/\a.block< w.heap.size/\X.C a=ae
 gJ:∀b c a,O b a->O c a->b=c
 lt:X.lt h.length
 ci:CI X.C w
 wb:B<=w.heap.size
def cj.lZ(n:Nat):cj->Prop
 |.cell v=>v.low n
 |.arr _ _ _ _=>True
 |.cG _ _ l=>V.lZ n l
 |.mp es=>∀e∈es,e.2.low n
 |.lp _ t _ _ _=>∀i,(t.get i).low n
theorem iF.mono{n:Nat}{X Y:Cx}(h:X.le n Y):∀{es:List (D×V)} {A:List MapEntry},(∀e∈es,e.2.low n)->iF X es A->iF Y es A
 |[],_,_,k=>by trivial
 |e::es,_,I,k=>by
  obtain⟨m,r,J,h1,h2,U⟩:=k;exact⟨m,r,J,h1.mono h.C,h2.mono h _ _ _ (I _ (by simp)),iF.mono h (λx Z=>I x (by simp[Z])) U⟩
theorem iF.low{n:Nat}{X:Cx}(I:X.lt n):∀{es:List (D×V)} {J:List MapEntry},iF X es J->∀e∈es,e.2.low n
 |[],_,_=>by simp
 |e::es,_,k=>by
  obtain⟨m,r,Z,h1,h2,U⟩:=k;intro x A;rcases du.1 A with rfl|A
  .exact aq.low I _ _ _ h2
  exact iF.low I U x A
theorem BR.low{n:Nat}{X:Cx}{w:World}{O:Addr->Prop}{b:Nat}{k:cj}(A:X.lt n)(h:BR X w O b k):k.lZ n:=by
 cases k with
 |cell v=>obtain⟨bi,I,ws,_,_,_,_,_,h,_⟩:=h;exact aq.low A _ _ _ h
 |cG g s l=>
  obtain⟨bi,U,Z,hf,a,_,h⟩:=h;rcases h with h|⟨_,I,J,_,_,h,_⟩
  .simp_all[cj.lZ,V.lZ]
  exact bM.low A _ _ _ h
 |mp es=>obtain⟨bi,r,c,d,_,_,_,_,_,_,h⟩:=h;exact iF.low A h
 |arr g s ro l=>trivial
 |lp f t ps bT body=>obtain⟨bi,l,r,_,_,_,_,_,_,h⟩:=h;exact λi=>aq.low A _ _ _ (h.qt i)
theorem BR.later{n:Nat}{X Y:Cx}{w w':World}{O O':Addr->Prop}{b:Nat}{k:cj}(h:BR X w O b k)(H:X.lt n)(I:X.le n Y)(u:Y.M b=X.M b)(i:eJ w w')(v:∀a,O a->O' a):BR Y w' O' b k:=by
 have A:=h.low H;cases k<;>first|rename_i g s ro l;obtain⟨bi,h1,h2,J,U,Z,c⟩:=h;refine⟨bi,u.trans h1,h2,J,U,Z,c.imp id ?_⟩;rintro⟨e,z,m,d,D,F,o,p,q,G⟩;exact⟨e,z,m,d,D,F.mono I.C,o,p.keep i,q.mono I.C,λj a b=>let⟨x,y⟩:=G.keep i j a b;⟨v _ x,y⟩⟩|rename_i g s l;obtain⟨bi,h1,h2,J,U,Z,c⟩:=h;refine⟨bi,u.trans h1,h2,J,U,Z,c.imp id ?_⟩;rintro⟨e,z,m,d,D,F,o,p,q⟩;exact⟨e,z,m,d,D,F.mono I _ _ _ A,o,p.keep i,λj a b=>let⟨x,y⟩:=q.keep i j a b;⟨v _ x,y⟩⟩|obtain⟨bi,z,ws,h1,h2,J,U,Z,c,d,D⟩:=h;exact⟨bi,z,ws,u.trans h1,h2,J,U,Z,c.mono I _ _ _ A,d.keep i,λj a b=>let⟨x,y⟩:=D.keep i j a b;⟨v _ x,y⟩⟩|obtain⟨bi,r,K,L,h1,h2,J,U,Z,c,d⟩:=h;exact⟨bi,r,K,L,u.trans h1,h2,J,U,i.obj _ _ Z,v _ c,d.mono I A⟩|rename_i f t ps bT body;obtain⟨bi,l,r,h1,h2,J,U,Z,c,d⟩:=h;exact⟨bi,l,r,u.trans h1,h2,J,U,i.obj _ _ Z,v _ c,d.mono A I⟩
theorem HR.keep{B:Nat}{X:Cx}{O:Nat->Addr->Prop}{w w':World}{h:Heap}(A:HR B X O w h)(I:eJ w w')(hw:w.heap.size<=w'.heap.size):HR B X O w' h:=
 ⟨λb k e=>(A.dO b k e).later A.lt (.refl _ _) rfl I (λ_ h=>h),λb a o=>let⟨x,y,z⟩:=A.own b a o;⟨x,fY y hw,z⟩,A.gJ,A.lt,A.ci.keep I,b8 A.wb hw⟩
structure FR(X:Cx)(O:Nat->Addr->Prop)(w:World)(h:Heap)(X':Cx)(O':Nat->Addr->Prop)(w':World)(h':Heap):Prop where
 fm:∀b bi,X.M b=ab bi->ar h b=ae->ar h' b=ae
 M:∀b bi,X.M b=ab bi->ar h b=ae->X'.M b=ab bi
 own:∀b bi,X.M b=ab bi->ar h b=ae->∀a,O b a->O' b a
 cell:∀b bi,X.M b=ab bi->ar h b=ae->∀a,O b a->∀v,w.cell? a=ab v->w'.cell? a=ab v/\w'.frozen? a=w.frozen? a
 obj:∀b bi,X.M b=ab bi->ar h b=ae->∀r:Nat,O b ⟨r,0,ae⟩->∀o,w.heap[r]? =ab o->o.isCells=af->w'.heap[r]? =ab o
 o7:∀b,ar h' b=ae->ar h b=ae
 rp:∀b,b< h.length->X.M b=ae->ar h' b=ae->X'.M b=ae
theorem FR.refl(X:Cx)(O:Nat->Addr->Prop)(w:World)(h:Heap):FR X O w h X O w h:=
 ⟨λ_ _ _ e=>e,λ_ _ e _=>e,λ_ _ _ _ _ o=>o,λ_ _ _ _ _ _ _ e=>⟨e,rfl⟩,λ_ _ _ _ _ _ _ e _=>e,λ_ e=>e,λ_ _ e _=>e⟩
theorem FR.trans{X Y Z:Cx}{O O' I:Nat->Addr->Prop}{a b c:World}{h h' J:Heap}(f:FR X O a h Y O' b h')(g:FR Y O' b h' Z I c J)(r:a.heap.size<=b.heap.size)(j:h.length<=h'.length):FR X O a h Z I c J where
 fm:=λn bi e A=>g.fm n bi (f.M n bi e A) (f.fm n bi e A)
 M:=λn bi e A=>g.M n bi (f.M n bi e A) (f.fm n bi e A)
 own:=λn bi e A x o=>g.own n bi (f.M n bi e A) (f.fm n bi e A) x (f.own n bi e A x o)
 cell:=λn bi e A x o v ev=>
  let⟨p,q⟩:=f.cell n bi e A x o v ev
  let⟨k,l⟩:=g.cell n bi (f.M n bi e A) (f.fm n bi e A) x (f.own n bi e A x o) v p
  ⟨k,l.trans q⟩
 obj:=λn bi e A x o d m i=>g.obj n bi (f.M n bi e A) (f.fm n bi e A) x (f.own n bi e A _ o) d (f.obj n bi e A x o d m i) i
 o7:=λn e=>f.o7 n (g.o7 n e)
 rp:=λn U e A=>g.rp n (fY U j) (f.rp n U e (g.o7 n A)) A
theorem FR.keep{X:Cx}{O:Nat->Addr->Prop}{w w':World}{h:Heap}(A:eJ w w'):FR X O w h X O w' h:=
 ⟨λ_ _ _ e=>e,λ_ _ e _=>e,λ_ _ _ _ _ o=>o,λ_ _ _ _ _ _ _ e=>⟨A.cell _ _ e,A.frozen _ _ e⟩,λ_ _ _ _ _ _ _ e _=>A.obj _ _ e,λ_ e=>e,λ_ _ e _=>e⟩
theorem BR.al4{n:Nat}{X Y:Cx}{w w':World}{O O':Nat->Addr->Prop}{h h':Heap}(f:FR X O w h Y O' w' h')(hci:CI Y.C w'){b:Nat}{bi:BI}(U:X.M b=ab bi)(z:ar h b=ae)
  {k:cj} (r:BR X w (O b) b k) (hX:X.lt n) (I:X.le n Y):BR Y w' (O' b) b k:=by
 have J:=r.low hX;have Q:Y.M b=X.M b:=(f.M b bi U z).trans U.symm;have Z:∀{a:Addr} {i n:Nat},fZ w (O b) a i n->fZ w' (O' b) a i n:=λho j h1 h2=>
  let⟨o,⟨v,e⟩,fz⟩:=ho j h1 h2
  let⟨p,q⟩:=f.cell b bi U z _ o v e
  ⟨f.own b bi U z _ o,⟨v,p⟩,q.trans fz⟩
 cases k with
 |cell v=>
  obtain⟨bi,S,ws,h1,h2,F,c,G,d,H,N⟩:=r;exact⟨bi,S,ws,Q.trans h1,h2,F,c,G,d.mono I _ _ _ J,λj v e=>(f.cell b _ U z _ (N j (bH _) (e7.1 e).1).1 v (H j v e)).1,Z N⟩
 |arr g s ro l=>
  obtain⟨bi,h1,h2,F,c,G,d⟩:=r;refine⟨bi,Q.trans h1,h2,F,c,G,d.imp id ?_⟩;rintro⟨e,S,A,H,N,T,m,K,u,W⟩;refine⟨e,S,A,H,N,T.mono I.C,m,λj v ev=>?_,u.mono I.C,Z W⟩
  by_cases hj:j< ro*s
  .exact hci _ _ (I.C _ _ (u j v (by grind)))
  have x:A.flatten.length=l.length*s:=by
   have:=by
    have key:∀l:List (List Value),(∀ws∈l,ws.length=s)->l.flatten.length=l.length*s:=by
     intro l hl;induction l with
     |nil=>simp
     |cons a l ih=>grind
    exact key A m
   rw[this];have y:∀{l:List D} {A:List (List Value)},bI X.C l af A->A.length=l.length:=by
    intro l;induction l with
    |nil=>simp[bI]
    |cons a l ih=>simp_all[bI,ih,h2]
   rw[y T]
  have L:j< bi.cap*s:=by
   have:=(e7.1 ev).1;rw[x]at this;exact fY this (eA _ c.1)
  exact(f.cell b _ U z _ (W j (by omega) L).1 v (K j v ev)).1
 |cG g s l=>
  obtain⟨bi,h1,h2,F,c,G,d⟩:=r;refine⟨bi,Q.trans h1,h2,F,c,G,d.imp id ?_⟩;rintro⟨e,S,A,H,N,T,m,K,u⟩;refine⟨e,S,A,H,N,T.mono I _ _ _ J,m,λj v ev=>?_,Z u⟩
  have x:A.flatten.length=l.length*s:=by
   have key:∀l:List (List Value),(∀ws∈l,ws.length=s)->l.flatten.length=l.length*s:=by
    intro l hl;induction l with
    |nil=>simp
    |cons a l ih=>grind
   rw[key A m];have y:∀{l:List V} {A:List (List Value)},bM X l af A->A.length=l.length:=by
    intro l;induction l with
    |nil=>simp[bM]
    |cons a l ih=>simp_all[bM,ih,h2]
   rw[y T]
  have L:j< bi.cap*s:=by
   have:=(e7.1 ev).1;rw[x]at this;exact fY this (eA _ c)
  exact(f.cell b _ U z _ (u j (bH _) L).1 v (K j v ev)).1
 |mp es=>
  obtain⟨bi,r,ms,ck,h1,h2,F,c,G,d,H⟩:=r;exact⟨bi,r,ms,ck,Q.trans h1,h2,F,c,f.obj b _ U z _ d _ G rfl,f.own b _ U z _ d,H.mono I J⟩
 |lp f0 t ps bT body=>
  obtain⟨bi,l,r,h1,h2,F,c,G,d,H⟩:=r;exact⟨bi,l,r,Q.trans h1,h2,F,c,f.obj b _ U z _ d _ G rfl,f.own b _ U z _ d,H.mono J I⟩
def Cx.jf(X:Cx)(C:IV):Cx:={X with C}
theorem HR.more{B:Nat}{X:Cx}{O:Nat->Addr->Prop}{w:World}{h:Heap}(A:HR B X O w h){C:IV}(hC:X.C.le C)(I:CI C w)(J:∀b a,O b a->C a=ae):HR B (X.jf C) O w h:=
 ⟨λb k e=>(A.dO b k e).later A.lt ⟨hC,λ_ bi _ e=>⟨bi,e,aL _,λ_=>rfl,λ_=>rfl⟩,λ_ _ e=>e⟩ rfl (.refl w) (λ_ h=>h),
  λb a o=>⟨(A.own b a o).1,(A.own b a o).2.1,J b a o⟩,A.gJ,A.lt,I,A.wb⟩
end
section
variable [Gh]
def a8{α β:Type}(R:α->β->Prop):List α->List β->Prop
 |[],A=>A=[]
 |x::xs,A=>∃y r,A=y::r/\R x y/\a8 R xs r
namespace a8
variable {α β γ:Type} {R:α->β->Prop}
theorem nil:a8 R [] []:=rfl
theorem cons{x:α}{y:β}{xs:List α}{A:List β}(h:R x y)(k:a8 R xs A):a8 R (x::xs) (y::A):=⟨y,A,rfl,h,k⟩
theorem aw2{x:α}{y:β}{xs:List α}{A:List β}:a8 R (x::xs) (y::A)↔R x y/\a8 R xs A:=
 ⟨λ⟨_,_,e,h,k⟩=>by grind,λ⟨h,k⟩=>cons h k⟩
theorem len:∀{xs:List α} {A:List β},a8 R xs A->A.length=xs.length
 |[],_,h=>by cases h;rfl
 |_::_,_,⟨_,_,e,_,k⟩=>by subst e;simp[len k]
theorem get:∀{xs:List α} {A:List β} {i:Nat} {x:α},a8 R xs A->xs[i]? =ab x->∃y,A[i]? =ab y/\R x y
 |[],_,_,_,_,e=>by trivial
 |_::_,_,0,_,⟨y,r,e,h,_⟩,I=>by grind
 |_::_,_,i+1,_,⟨_,_,e,_,k⟩,I=>by subst e;simpa using get (i:=i) k (by trivial)
theorem set:∀{xs:List α} {I:List β} {i:Nat} {x:α} {y:β},a8 R xs I->R x y->a8 R (xs.set i x) (I.set i y)
 |[],_,_,_,_,h,_=>by cases h;rfl
 |_::_,_,0,_,_,⟨_,r,e,_,k⟩,A=>by simp_all[cons,A,k]
 |_::_,_,i+1,_,_,⟨_,_,e,h,k⟩,A=>by subst e;exact cons h (set k A)
theorem app:∀{xs A:List α} {J I:List β},a8 R xs J->a8 R A I->a8 R (xs++A) (J++I)
 |[],_,_,_,h,k=>by cases h;exact k
 |_::_,_,_,_,⟨_,_,e,h,k⟩,U=>by subst e;exact cons h (app k U)
theorem take:∀{xs:List α} {A:List β} (n:Nat),a8 R xs A->a8 R (xs.take n) (A.take n)
 |_,_,0,_=>by rfl
 |[],_,_+1,h=>by cases h;rfl
 |_::_,_,n+1,⟨_,_,e,h,k⟩=>by subst e;exact cons h (take n k)
theorem drop:∀{xs:List α} {A:List β} (n:Nat),a8 R xs A->a8 R (xs.drop n) (A.drop n)
 |_,_,0,h=>by trivial
 |[],_,_+1,h=>by cases h;rfl
 |_::_,_,n+1,⟨_,_,e,_,k⟩=>by subst e;exact drop n k
theorem rep{x:α}{y:β}(h:R x y):∀n:Nat,a8 R (bP n x) (bP n y)
 |0=>rfl
 |n+1=>cons h (rep h n)
theorem imp{S:α->β->Prop}(f:∀x y,R x y->S x y):∀{xs:List α} {A:List β},a8 R xs A->a8 S xs A
 |[],_,h=>h
 |_::_,_,⟨y,r,e,h,k⟩=>⟨y,r,e,f _ _ h,imp f k⟩
theorem imp'{S:α->β->Prop}:∀{xs:List α} {A:List β},(∀x∈xs,∀y,R x y->S x y)->a8 R xs A->a8 S xs A
 |[],_,_,h=>h
 |x::_,_,f,⟨y,r,e,h,k⟩=>⟨y,r,e,f x (by simp) y h,imp' (λz I=>f z (by simp[I])) k⟩
theorem Jy{f:γ->α}:∀{xs:List γ} {A:List β},a8 (λx y=>R (f x) y) xs A↔a8 R (xs.map f) A
 |[],_=>Iff.rfl
 |_::_,_=>⟨λ⟨y,r,e,h,k⟩=>⟨y,r,e,h,Jy.1 k⟩,λ⟨y,r,e,h,k⟩=>⟨y,r,e,h,Jy.2 k⟩⟩
theorem erase:∀{xs:List α} {A:List β} (i:Nat),a8 R xs A->a8 R (xs.eraseIdx i) (A.eraseIdx i)
 |[],_,_,h=>by cases h;rfl
 |_::_,_,0,⟨_,_,e,_,k⟩=>by simp_all[k]
 |_::_,_,i+1,⟨_,_,e,h,k⟩=>by subst e;exact cons h (erase i k)
theorem ajk:∀{xs I:List α} {J:List β},a8 R (xs++I) J->∃U A,J=U++A/\a8 R xs U/\a8 R I A
 |[],_,J,h=>⟨[],J,rfl,rfl,h⟩
 |_::_,_,_,⟨y,_,e,h,k⟩=>by
  subst e;obtain⟨U,A,e,h1,h2⟩:=ajk k;exact⟨y::U,A,by simp[e],cons h h1,h2⟩
end a8
theorem cz{C:IV}{m:Bool}:∀{l:List D} {aX:List (List Value)},bI C l m aX↔a8 (λd ws=>aR C d m ws) l aX
 |[],_=>by rfl
 |d::l,aX=>by simp[bI,a8];simp[cz (l:=l)]
theorem fi{X:Cx}{m:Bool}:∀{l:List V} {A:List (List Value)},bM X l m A↔a8 (λd ws=>aq X d m ws) l A
 |[],_=>by rfl
 |d::l,A=>by simp[bM,a8];simp[fi (l:=l)]
theorem vE{X:Cx}:∀{l:List (D×V)} {A:List MapEntry},iF X l A↔a8 (λe m=>aR X.C e.1 ag [m.key]/\aq X e.2 ag [m.val]) l A
 |[],_=>by rfl
 |d::l,A=>by simp[iF,a8];simp[vE (l:=l),and_assoc]
def bl(s:Nat)(A:List (List Value)):Prop:=∀ws∈A,ws.length=s
theorem bl.len{s:Nat}{aX:List (List Value)}(h:bl s aX):aX.flatten.length=aX.length*s:=by
 induction aX with
 |nil=>simp
 |cons a l ih=>
  rw[pa,dH,h a (by simp),ih (λx A=>h x (by simp[A])),fH,ns,Vz,Nat.add_comm]
theorem bl.get{s:Nat}:∀{A:List (List Value)} {i j:Nat} {ws:List Value},bl s A->A[i]? =ab ws->j< s->A.flatten[i*s+j]? =ws[j]?
 |[],_,_,_,_,e,_=>by trivial
 |a::l,0,j,ws,h,e,I=>by
  simp at e;subst e;rw[pa,Nat.zero_mul,db,gP (by rw[h a (by simp)];omega)]
 |a::l,i+1,j,ws,h,e,I=>by
  have J:=h a (by simp)
  rw[pa,jE (by grind),J]
  have:(i+1)*s+j-s=i*s+j:=by grind
  rw[this];exact bl.get (λx U=>h x (by simp[U])) (by trivial) I
theorem bl.take{s:Nat}{aX:List (List Value)}(h:bl s aX)(n:Nat):bl s (aX.take n):=λx A=>h x (List.mem_of_mem_take A)
theorem bl.drop{s:Nat}{aX:List (List Value)}(h:bl s aX)(n:Nat):bl s (aX.drop n):=λx A=>h x (List.mem_of_mem_drop A)
theorem bl.app{s:Nat}{a b:List (List Value)}(h:bl s a)(k:bl s b):bl s (a++b):=λx A=>(cD.1 A).elim (h x) (k x)
theorem bl.set{s:Nat}{a:List (List Value)}(h:bl s a){i:Nat}{ws:List Value}(k:ws.length=s):bl s (a.set i ws):=λx A=>by
 rcases List.mem_or_eq_of_mem_set A with A|rfl
 .exact h x A
 omega
theorem bl.rep{s n:Nat}{ws:List Value}(k:ws.length=s):bl s (bP n ws):=λx A=>by grind
theorem bl.ll{s:Nat}:∀{A:List (List Value)} {n:Nat},bl s A->(A.take n).flatten=A.flatten.take (n*s)
 |[],n,_|a::l,0,_=>by simp
 |a::l,n+1,h=>by
  have I:=h a (by simp)
  have J:(n+1)*s-s=n*s:=by grind
  have U:a.take ((n+1)*s)=a:=List.take_of_length_le (by grind)
  rw[List.take_succ_cons,pa,pa,bl.ll (λx Z=>h x (by simp[Z])),List.take_append,I,J,U]
theorem bl.ug{s:Nat}:∀{A:List (List Value)} {n:Nat},bl s A->(A.drop n).flatten=A.flatten.drop (n*s)
 |[],n,_|a::l,0,_=>by simp
 |a::l,n+1,h=>by
  have I:=h a (by simp)
  have J:(n+1)*s-s=n*s:=by grind
  have U:a.drop ((n+1)*s)=[]:=List.drop_eq_nil_of_le (by grind)
  rw[List.drop_succ_cons,pa,bl.ug (λx Z=>h x (by simp[Z])),List.drop_append,I,J,U,List.nil_append]
theorem Addr.add_add(a:Addr)(i j:Nat)(h:a.spot=ae):(a.add i).add j=a.add (i+j):=by
 unfold yj;grind
theorem Addr.iI(a:Addr)(i:Nat)(h:a.spot=ae):(a.add i).spot=ae:=by
 grind[yj]
theorem Addr.y6(a:Addr)(i:Nat):(a.add i).block=a.block:=by grind[yj]
theorem Addr.pj{a:Addr}{i j:Nat}(h:a.spot=ae)(e:a.add i=a.add j):i=j:=by
 unfold yj at e;grind
@[simp] theorem Addr.add_zero(a:Addr):a.add 0=a:=by rfl
theorem cK.drop{C:IV}{a:Addr}(A:a.spot=ae){vs:List Value}(h:cK C a vs)(n:Nat):cK C (a.add n) (vs.drop n):=λj v e=>by
 rw[Addr.add_add a n j A];exact h _ v (by simpa using e)
theorem cK.take{C:IV}{a:Addr}{vs:List Value}(h:cK C a vs)(n:Nat):cK C a (vs.take n):=λj v e=>h j v (by
 grind)
theorem cK.row{C:IV}{a:Addr}(J:a.spot=ae){s:Nat}{A:List (List Value)}(I:bl s A)(h:cK C a A.flatten){i:Nat}{ws:List Value}(e:A[i]? =ab ws):cK C (a.add (i*s)) ws:=λj v ev=>by
 have Z:=I ws (jG e);have U:j< s:=by grind
 rw[Addr.add_add a _ j J];exact h _ v (by simp[I.get,e,U,ev])
theorem cK.nil{C:IV}{a:Addr}:cK C a []:=λj v e=>by trivial
def Obj.lp:Obj->Bool
 |.loop _=>ag
 |_=>af
theorem w9{o:Obj}(h:Obj.lp o=ag):o.isCells=af:=by cases o<;>simp_all[Obj.lp,yp]
structure Up(B:Nat)(X:Cx)(w:World)(n:Nat)(X':Cx)(w':World):Prop where
 le:X.le n X'
 below:Below B w w'
 fresh:∀a v,X'.C a=ab v->X.C a=ae->B<=a.block
 obj:∀(r:Nat) (o:Obj),w.heap[r]? =ab o->Obj.lp o=ag->w'.heap[r]? =ab o
theorem Up.refl(B n:Nat)(X:Cx)(w:World):Up B X w n X w:=⟨.refl _ _,.refl _ _,λa v e h=>(by grind),λ_ _ h _=>h⟩
theorem Up.trans{B n:Nat}{X Y Z:Cx}{a b c:World}(h:Up B X a n Y b)(k:Up B Y b n Z c):Up B X a n Z c:=
 ⟨h.le.trans k.le,h.below.trans k.below,λx v e I=>by
  cases A:Y.C x<;>first|rename_i u;exact h.fresh x u A I|exact k.fresh x v e A,λr o e l=>k.obj r o (h.obj r o e l) l⟩
theorem Up.less{B n A:Nat}{X Y:Cx}{a b:World}(h:Up B X a n Y b)(I:A<=n):Up B X a A Y b:=⟨h.le.less I,h.below,h.fresh,h.obj⟩
theorem Up.keep{B n:Nat}{X:Cx}{w w':World}(hB:Below B w w')(A:eJ w w'):Up B X w n X w':=
 ⟨.refl _ _,hB,λa v e h=>(by grind),λr o e _=>A.obj r o e⟩
def Cx.eg(X:Cx)(b:Nat)(bi:BI):Cx:={X with M:=λc=>if c=b then ab bi else X.M c}
theorem Cx.yd{X:Cx}{b:Nat}{bi:BI}(n:Nat)(h:X.M b=ae):X.le n (X.eg b bi):=
 ⟨.refl _,λc ci _ e=>⟨ci,by simp[Cx.eg];grind,aL _,λ_=>rfl,λ_=>rfl⟩,λ_ _ e=>e⟩
theorem Cx.fN(X:Cx)(b:Nat)(bi:BI):(X.eg b bi).M b=ab bi:=by simp[Cx.eg]
theorem Cx.fX(X:Cx){b c:Nat}(bi:BI)(h:c≠b):(X.eg b bi).M c=X.M c:=by simp[Cx.eg,h]
theorem HR.add{B:Nat}{X:Cx}{O:Nat->Addr->Prop}{w w':World}{h:Heap}(I:HR B X O w h){n:Nat}(q:ar h n=ae)(i:X.M n=ae)(d:n<=h.length)
  (g:eJ w w') (hw:w.heap.size<=w'.heap.size) (bi:BI) (f:Addr->Prop) (k:cj) (J:∀a,f a->w.heap.size<=a.block/\a.block< w'.heap.size) (r:BR (X.eg n bi) w' f n k):
  HR B (X.eg n bi) (λb=>if b=n then f else O b) w' (aI h n k):=by
 have j:=λa v e=>yr w a (I.ci a v e)
 refine⟨λb l e=>?_,λb a o=>?_,λb c a o Z=>?_,λb bj e=>?_,I.ci.keep g,b8 I.wb hw⟩
 .rw [bR h n b k d]at e;by_cases A:b=n
  .grind
  simp[ax A]at e|-;exact(I.dO b l e).later I.lt (Cx.yd _ i) (Cx.fX X bi A) g (λ_ h=>h)
 .by_cases A:b=n
  .simp [A]at o;obtain⟨h1,h2⟩:=J a o;refine⟨b8 I.wb h1,h2,?_⟩;cases m:X.C a with
   |none=>exact m
   |some v=>grind
  simp[ax A]at o;obtain⟨h1,h2,p⟩:=I.own b a o;exact⟨h1,fY h2 hw,p⟩
 .by_cases A:b=n<;>by_cases U:c=n
  .omega
  .simp [A]at o;simp[ax U]at Z;have:=(J a o).1;have:=(I.own c a Z).2.1;omega
  .simp [U]at Z;simp[ax A]at o;have:=(J a Z).1;have:=(I.own b a o).2.1;omega
  simp[ax A]at o;simp[ax U]at Z;exact I.gJ b c a o Z
 rw[b9];by_cases A:b=n
 .grind
 rw[Cx.fX X bi A]at e;have:=I.lt b bj e;split<;>omega
theorem Up.add{B:Nat}{X:Cx}{w w':World}{n:Nat}(A:X.M n=ae)(hB:Below B w w')(I:eJ w w')(m:Nat)(bi:BI):Up B X w m (X.eg n bi) w':=
 ⟨Cx.yd _ A,hB,λa v e h=>(by simp_all[Cx.eg,h]),λr o e _=>I.obj r o e⟩
theorem FR.add{X:Cx}{O:Nat->Addr->Prop}{w w':World}{h:Heap}{n:Nat}(f:X.M n=ae)(A:n<=h.length)(J:eJ w w')(bi:BI)(c:Addr->Prop)(k:cj):
  FR X O w h (X.eg n bi) (λb=>if b=n then c else O b) w' (aI h n k):=by
 have I:∀b bj,X.M b=ab bj->b≠n:=λb bj e g=>by grind
 refine⟨λb bj e U=>?_,λb bj e _=>?_,λb bj e _ a o=>?_,λb bj _ _ a _ v ev=>⟨J.cell _ _ ev,J.frozen _ _ ev⟩,λb bj _ _ a _ o d _=>J.obj _ _ d,λb e=>?_,λb _ e U=>?_⟩
 .rw [bR h n b k A,ax (I b bj e)];omega
 .rw [Cx.fX X bi (I b bj e)];exact e
 .grind
 .rw [bR h n b k A]at e;grind
 rw[bR h n b k A]at U;split at U<;>try trivial
 rename_i Z;rw[Cx.fX X bi Z];exact e
theorem asA{w:World}{a:Addr}{v:Value}{r:Nat}{o:Obj}(e:w.heap[r]? =ab o)(A:o.isCells=af):(w.setCell a v).heap[r]? =ab o:=by
 simp[World.setCell,Array.getElem?_modify];split
 .grind[yp]
 omega
def putCells(w:World)(a:Addr)(vs:List Value)(i:Nat):World:=
 match vs with
 |[]=>w
 |v::r=>putCells (w.setCell (a.add i) v) a r (i+1)
theorem Sx(a:Addr):∀(vs:List Value) (w:World) (i:Nat),(putCells w a vs i).heap.size=w.heap.size
 |[],_,_=>rfl
 |v::r,w,i=>by rw[putCells,Sx a r];simp
theorem Sv(a:Addr):∀(vs:List Value) (w:World) (i:Nat) (x:Addr),(putCells w a vs i).frozen? x=w.frozen? x
 |[],_,_,_=>rfl
 |v::r,w,i,x=>by rw[putCells,Sv a r];simp
theorem pT(a:Addr){r:Nat}{o:Obj}(A:o.isCells=af):∀(vs:List Value) (w:World) (i:Nat),w.heap[r]? =ab o->(putCells w a vs i).heap[r]? =ab o
 |[],_,_,e=>e
 |v::t,w,i,e=>by exact pT a A t _ _ (asA e A)
theorem oO(a:Addr):∀(vs:List Value) (w:World) (i:Nat) (x:Addr),(∀j,j< vs.length->x≠a.add (i+j))->(putCells w a vs i).cell? x=w.cell? x
 |[],_,_,_,_=>rfl
 |v::r,w,i,x,h=>by
  rw[putCells,oO a r _ _ x (λj A=>by have:=h (j+1) (by simp;omega);grind)]
  exact Vf w (a.add i) x v (λe=>h 0 (by simp) e.symm)
theorem AL(a:Addr)(A:a.spot=ae):∀(vs:List Value) (w:World) (i:Nat),(∀j,j< vs.length->∃u,w.cell? (a.add (i+j))=ab u)->
  ∀j v,vs[j]? =ab v->(putCells w a vs i).cell? (a.add (i+j))=ab v
 |[],_,_,_,_,_,e=>by trivial
 |u::r,w,i,h,0,v,e=>by
  simp at e;subst e;rw[putCells,oO a r _ _ _ (λj _ he=>by have:=Addr.pj A he;omega)]
  obtain⟨x,I⟩:=h 0 (by simp)
  exact World.cell?_setCell_same w (a.add i) _ I
 |u::r,w,i,h,j+1,v,e=>by
  rw[show i+(j+1)=i+1+j from by omega]
  refine AL a A r _ _ (λk J=>?_) j v (by trivial)
  obtain⟨x,I⟩:=h (k+1) (by simp;omega)
  rw[show i+(k+1)=i+1+k from by omega]at I
  refine⟨x,?_⟩;rw[Vf w (a.add i) (a.add (i+1+k)) u (λhe=>by have:=Addr.pj A he;omega)]
  omega
theorem Su{B:Nat}(a:Addr)(hB:B<=a.block):∀(vs:List Value) (w:World) (i:Nat),Below B w (putCells w a vs i)
 |[],_,_=>.refl _ _
 |v::r,w,i=>by
  exact((Below.refl B w).setCell (p:=a.add i) (by simp[Addr.y6,hB]) v).trans (Su a hB r _ _)
theorem Lo{P:Program}(a:Addr)(b:a.spot=ae):∀(vs:List Value) (w:World) (i:Nat),(∀v∈vs,v.oneCell'=ag)->
  (∀j,j< vs.length->(∃u,w.cell? (a.add (i+j))=ab u)/\w.frozen? (a.add (i+j))=af)->(storeCells a vs i).run P w=.ok () (putCells w a vs i)
 |[],w,i,_,_=>rfl
 |v::r,w,i,h1,h=>by
  obtain⟨⟨u,c⟩,hf⟩:=h 0 (by simp)
  rw[Nat.add_zero]at c hf;have I:(store (a.add i) v).run P w=.ok () (w.setCell (a.add i) v):=by
   unfold store;have J:=h1 v (by simp)
   cases v<;>simp[Sem.run,c,hf,rC]at J|-
  have A:=Lo (P:=P) a b r (w.setCell (a.add i) v) (i+1) (λx U=>h1 x (by simp[U])) (λj d=>by
   obtain⟨⟨x,U⟩,Z⟩:=h (j+1) (by simp;omega)
   rw[show i+(j+1)=i+1+j from by omega]at U Z
   refine⟨⟨x,?_⟩,by simp_all⟩
   rw[Vf w (a.add i) (a.add (i+1+j)) v (λhe=>by have:=Addr.pj b he;omega)]
   omega)
  simp[storeCells,kg,putCells,I,tj,A]
theorem cK.put{w:World}{a b:Addr}{vs A:List Value}(h:cK w.cell? b A)(i:Nat)(I:∀j k,j< A.length->k< vs.length->b.add j≠a.add (i+k)):cK (putCells w a vs i).cell? b A:=λj v e=>by
 rw[oO a vs w i _ (λk J=>I j k (e7.1 e).1 J)]
 exact h j v e
theorem fZ.put{w:World}{O:Addr->Prop}{b:Addr}{i n:Nat}(h:fZ w O b i n)(a:Addr)(I:a.spot=ae)(vs:List Value)(k:Nat)(J:∀j,j< vs.length->∃u,w.cell? (a.add (k+j))=ab u):fZ (putCells w a vs k) O b i n:=λj h1 h2=>by
 obtain⟨o,⟨v,e⟩,f⟩:=h j h1 h2;refine⟨o,?_,by simp[Sv,f]⟩
 by_cases A:∃m,m< vs.length/\b.add j=a.add (k+m)
 .obtain ⟨m,hm,he⟩:=A;exact⟨_,by rw[he];exact AL a I vs w k J m vs[m] (by simp)⟩
 refine⟨v,?_⟩;rw[oO a vs w k _ (λm hm he=>A ⟨m,hm,he⟩)]
 exact e
theorem BR.put{X:Cx}{w:World}{O:Addr->Prop}{c:Nat}{k:cj}(h:BR X w O c k)(S:CI X.C w)(a:Addr)(K:a.spot=ae)(vs:List Value)(i:Nat)
  (L:∀j,j< vs.length->¬O (a.add (i+j))/\X.C (a.add (i+j))=ae) (M:∀j,j< vs.length->∃u,w.cell? (a.add (i+j))=ab u):BR X (putCells w a vs i) O c k:=by
 have A:∀{b:Addr} {m n:Nat},fZ w O b m n->∀j,m<=j->j< n->∀q,q< vs.length->b.add j≠a.add (i+q):=λT j h1 h2 q z e=>
  (L q z).1 (by rw[<-e];exact(T j h1 h2).1)
 cases k with
 |cell v=>
  obtain⟨bi,D,ws,h1,h2,d,J,o,p,x,F⟩:=h;exact⟨bi,D,ws,h1,h2,d,J,o,p,x.put i (λj q N z=>A F j (bH _) N q z),F.put a K vs i M⟩
 |arr g s ro l=>
  obtain⟨bi,h1,h2,d,J,o,p⟩:=h;refine⟨bi,h1,h2,d,J,o,p.imp id ?_⟩;rintro⟨e,D,I,x,F,G,U,y,Z,Q⟩;refine⟨e,D,I,x,F,G,U,y.put i (λj q N z he=>?_),Z,Q.put a K vs i M⟩
  have H:I.flatten.length=l.length*s:=by rw[bl.len U,(cz.1 G).len]
  by_cases Y:j< ro*s
  .have hx:X.C (D.add j)=ab I.flatten[j]:=Z j _ (by grind)
   grind
  have:l.length*s<=bi.cap*s:=eA _ J.1;grind
 |cG g s l=>
  obtain⟨bi,h1,h2,d,J,o,p⟩:=h;refine⟨bi,h1,h2,d,J,o,p.imp id ?_⟩;rintro⟨e,D,I,x,F,G,U,y,Z⟩;have H:I.flatten.length=l.length*s:=by rw[bl.len U,(fi.1 G).len]
  have:l.length*s<=bi.cap*s:=eA _ J;exact⟨e,D,I,x,F,G,U,y.put i (λj q N z=>A Z j (bH _) (by omega) q z),Z.put a K vs i M⟩
 |mp es=>
  obtain⟨bi,r,V,W,h1,h2,d,J,o,p,x⟩:=h;exact⟨bi,r,V,W,h1,h2,d,J,pT a rfl vs w i o,p,x⟩
 |lp f t ps bT body=>
  obtain⟨bi,l,r,h1,h2,d,J,o,p,x⟩:=h;exact⟨bi,l,r,h1,h2,d,J,pT a rfl vs w i o,p,x⟩
theorem CI.put{C:IV}{w:World}(h:CI C w)(a:Addr)(vs:List Value)(i:Nat)(A:∀j,j< vs.length->C (a.add (i+j))=ae):CI C (putCells w a vs i):=⟨λx v e=>by
 rw[oO a vs w i x (λj I he=>by grind)]
 exact h x v e,h.gl⟩
theorem HR.put{B:Nat}{X Y:Cx}{O:Nat->Addr->Prop}{w:World}{h:Heap}(A:HR B X O w h){b:Nat}(f:b< h.length)(U:X.le h.length Y)(hC:Y.C=X.C)(g:∀c,c≠b->Y.M c=X.M c)(Z:Y.lt h.length)
  (a:Addr) (l:a.spot=ae) (vs:List Value) (i:Nat) (d:∀j,j< vs.length->O b (a.add (i+j))) (m:∀j,j< vs.length->∃u,w.cell? (a.add (i+j))=ab u) (k:cj) (n:BR Y (putCells w a vs i) (O b) b k):
  HR B Y O (putCells w a vs i) (aI h b k):=by
 refine⟨λc p e=>?_,λc x o=>?_,A.gJ,λc bi e=>?_,?_,?_⟩
 .rw [bR h b c k (dj f)]at e;by_cases I:c=b
  .grind
  simp[ax I]at e;exact((A.dO c p e).put A.ci a l vs i (λj J=>⟨λo=>I (A.gJ c b _ o (d j J)),(A.own b _ (d j J)).2.2⟩) m).later A.lt U (g c I) (.refl _) (λ_ h=>h)
 .rw [Sx,hC];exact A.own c x o
 .rw [b9,aK f];exact Z c bi e
 .rw [hC];exact A.ci.put a vs i (λj J=>(A.own b _ (d j J)).2.2)
 simp[Sx,A.wb]
theorem FR.put{B:Nat}{X Y:Cx}{O:Nat->Addr->Prop}{w:World}{h:Heap}(Z:HR B X O w h){b:Nat}{d:cj}(I:ar h b=ab d)(n:∀c,c≠b->Y.M c=X.M c)
  (a:Addr) (vs:List Value) (i:Nat) (f:∀j,j< vs.length->O b (a.add (i+j))) (k:cj):FR X O w h Y O (putCells w a vs i) (aI h b k):=by
 have J:∀c bj,X.M c=ab bj->ar h c=ae->c≠b:=λc bj _ A p=>by grind
 have U:∀c bj,X.M c=ab bj->ar h c=ae->∀x,O c x->∀j,j< vs.length->x≠a.add (i+j):=λc bj e A x o j g he=>by
  subst he;exact J c bj e A (Z.gJ c b _ o (f j g))
 refine⟨λc bj e A=>?_,λc bj e A=>?_,λ_ _ _ _ _ o=>o,λc bj e A x o v ev=>⟨?_,?_⟩,λc bj e A x o q l m=>pT a m vs w i l,λc e=>?_,λc _ e A=>?_⟩
 .rw [bR h b c k (dj (e8 I)),ax (J c bj e A)];omega
 .grind
 .rw [oO a vs w i x (U c bj e A x o)];omega
 .rw [Sv]
 .rw [bR h b c k (dj (e8 I))]at e;grind
 rw[bR h b c k (dj (e8 I))]at A;grind
theorem HR.size{B:Nat}{X:Cx}{O:Nat->Addr->Prop}{w:World}{h:Heap}(_:HR B X O w h){w':World}(A:Below B w w'):w.heap.size<=w'.heap.size:=A.size
theorem tL:∀{l:List V} {ds:List D},ga l=ab ds->l=ds.map V.im
 |[],ds,h=>by grind[ga]
 |v::l,ds,h=>by
  cases v<;>simp[ga]at h<;>try contradiction
  cases A:ga l with
  |none=>simp_all[ga,A]
  |some es=>
   have:=tL A
   simp[ga]at A;rw[A]at h;grind
theorem y5{X:Cx}{m:Bool}{ds:List D}{A:List (List Value)}:bM X (ds.map V.im) m A↔bI X.C ds m A:=by
 grind[fi,cz,a8.Jy,aq]
theorem M8{X:Cx}{w:Nat}{l:List V}{m:Bool}{ws:List Value}(h:aq X (.agg w l) m ws):aq X (fJ w l) m ws:=by
 unfold fJ;cases A:ga l<;>first|have:=tL A;subst this;cases m<;>simp only[aq,aR]at h|-<;>simpa only[y5]using h|exact h
theorem aiY{X:Cx}{l:List V}{ws:List Value}(h:aq X (.aH l) ag ws):aq X (mM l) ag ws:=by
 unfold mM;cases A:ga l with
 |none=>exact h
 |some ds=>
  have:=tL A;grind[aq,aR,y5]
theorem M7{X:Cx}{w:Nat}{l:List D}{m:Bool}{ws:List Value}:aq X (.im (.agg w l)) m ws↔aq X (.agg w (l.map V.im)) m ws:=by
 cases m<;>simp[aq,aR,y5]
theorem Rs(w:Nat)(l:List V):(fJ w l).wd=w:=by unfold fJ;cases ga l<;>rfl
theorem aq.wd{X:Cx}:∀{v:V} {ws:List Value},aq X v af ws->ws.length=v.wd
 |.undef,_,h=>by trivial
 |.im d,ws,h=>by
  simp[aq]at h
  cases d<;>simp[aR,V.wd,D.wd]at h|-<;>try contradiction
  all_goals grind
 |.agg w l,ws,h=>by obtain⟨_,_,_,h⟩:=h;exact h
 |.aH _,_,h=>by trivial
 |.own ..,_,h=>by obtain⟨_,h,_⟩:=h;subst h;rfl
 |.full _,_,h=>by obtain⟨_,h,_⟩:=h;subst h;rfl
 |.ptr ..,_,h=>by obtain⟨_,h,_⟩:=h;subst h;rfl
 |.fn ..,_,h=>by obtain⟨_,_,_,_,h,_⟩:=h;subst h;rfl
 |.ifc ..,_,h=>by obtain⟨_,h,_⟩:=h;subst h;rfl
 |.mp _,_,h=>by obtain⟨_,_,h,_⟩:=h;subst h;rfl
 |.jh _,_,h=>by obtain⟨_,h,_⟩:=h;subst h;rfl
def V.isAgg:V->Bool
 |.im (.agg _ _)|.agg _ _=>ag
 |_=>af
def V.plain:V->Bool
 |.undef|.aH _|.im (.aH _)=>af
 |_=>ag
theorem yJ.one{C:IV}{l:List D}{v:Value}(h:yJ C l v):v.oneCell'=ag:=by obtain⟨a,n,e,_⟩:=h;subst e;rfl
theorem aq.one{X:Cx}{v:V}(hp:v.plain=ag)(I:v.isAgg=af){m:Bool}{ws:List Value}(h:aq X v m ws):∃x,ws=[x]/\x.oneCell'=ag/\∀A,aq X v A [x]:=by
 cases v with
 |undef=>trivial
 |im d=>
  cases d<;>simp only[aq,aR]at h<;>simp[V.plain]at hp I<;>try contradiction
  all_goals first
   |(subst h;refine⟨_,rfl,rfl,λA=>?_⟩;rfl)
   |(have e:=h.1;subst e;refine⟨_,rfl,rfl,λA=>?_⟩;trivial)
   |(obtain⟨b,e,r⟩:=h;subst e;refine⟨_,rfl,rfl,λA=>?_⟩;simp only[aq,aR];grind)
   |(obtain⟨b,c,e,r⟩:=h;subst e;refine⟨_,rfl,rfl,λA=>?_⟩;simp[aq,aR];grind)
   |(obtain⟨b,c,d,e,r⟩:=h;subst e;refine⟨_,rfl,rfl,λA=>?_⟩;exact⟨b,c,d,rfl,r⟩)
 |agg w l=>trivial
 |aH l=>trivial
 |own b g off len aP=>obtain⟨x,e,r⟩:=h;exact⟨x,e,r.one,λA=>by simp[aq];grind⟩
 |full l=>obtain⟨x,e,r⟩:=h;exact⟨x,e,r.one,λA=>by simp[aq];grind⟩
 |ptr b g p=>obtain⟨x,e,r⟩:=h;exact⟨x,e,r.one,λA=>by simp[aq];grind⟩
 |fn f a c=>obtain⟨fs,cs,J,U,e,r⟩:=h;subst e;exact⟨_,rfl,rfl,λA=>by simp only[aq];grind⟩
 |ifc t v=>obtain⟨x,e,r⟩:=h;subst e;exact⟨_,rfl,rfl,λA=>by simp[aq];grind⟩
 |mp b=>obtain⟨r,bi,e,h⟩:=h;subst e;exact⟨_,rfl,rfl,λA=>by simp only[aq];grind⟩
 |jh i=>obtain⟨l,e,r⟩:=h;subst e;exact⟨_,rfl,rfl,λA=>by simp only[aq];grind⟩
theorem aq.Co{X:Cx}{v:V}(A:v.isAgg=ag){ws:List Value}:aq X v ag ws↔∃cs:Array Value,ws=[.agg cs]/\aq X v af cs.toList:=by
 have key:∀w l,aq X (.agg w l) ag ws↔∃cs:Array Value,ws=[.agg cs]/\aq X (.agg w l) af cs.toList:=λw l=>by
  simp only[aq]
  simp
 cases v with
 |im d=>
  cases d<;>simp[V.isAgg]at A<;>try contradiction
  grind[M7]
 |agg w l=>exact key w l
 |_=>trivial
theorem asG{x:Value}(h:x.oneCell'=ag):x.cells=#[x]:=by cases x<;>first|rfl|trivial
theorem aq.cells{X:Cx}{v:V}(hp:v.plain=ag){x:Value}(h:aq X v ag [x]):aq X v af x.cells.toList:=by
 cases A:v.isAgg with
 |true=>
  obtain⟨cs,e,r⟩:=(aq.Co A).1 h;cases e;exact r
 |false=>
  obtain⟨y,e,I,r⟩:=h.one hp A;simp_all[asG,I,r,af]
theorem awC(l:List V)(k:Nat):iU l k=((l.take k).map V.wd).sum:=by
 induction l generalizing k with
 |nil=>simp[iU]
 |cons a l ih=>cases k with
  |zero=>rfl
  |succ k=>show a.wd+iU l k=_;simp[ih]
theorem agF(l:List D)(k:Nat):FW l k=iU (l.map V.im) k:=by
 induction l generalizing k with
 |nil=>rfl
 |cons a l ih=>cases k<;>first|rename_i k;show a.wd+FW l k=(V.im a).wd+iU (l.map V.im) k;rw[ih];rfl|rfl
theorem ae4{X:Cx}:∀{l:List V} {aX:List (List Value)},bM X l af aX->aX.flatten.length=(l.map V.wd).sum
 |[],_,h=>by grind[bM]
 |v::l,_,h=>by
  obtain⟨ws,r,e,h1,h2⟩:=h;subst e;simp[h1.wd,ae4 h2]
theorem aq.split{X:Cx}{w:Nat}{l:List V}{ws:List Value}(h:aq X (.agg w l) af ws){k o:Nat}(b:iU l k=o){c:V}(d:l[k]? =ab c):
  ∃pre cs post,ws=pre++(cs++post)/\pre.length=o/\aq X c af cs/\∀U A,aq X U af A->A.length=cs.length->aq X (.agg w (l.set k U)) af (pre++(A++post)):=by
 obtain⟨aX,e,h2,i⟩:=h;have I:=fi.1 h2;obtain⟨cs,f,Z⟩:=I.get d;have g:=(e7.1 f).1;have J:aX=aX.take k++(cs::aX.drop (k+1)):=by
  have:aX.drop k=cs::aX.drop (k+1):=by
   rw[List.drop_eq_getElem_cons g];grind
  rw[<-this,List.take_append_drop]
 refine⟨(aX.take k).flatten,cs,(aX.drop (k+1)).flatten,?_,?_,Z,λU A a j=>?_⟩
 .grind
 .have:=ae4 (X:=X) (l:=l.take k) (aX:=aX.take k) (fi.2 (I.take k));rw[this,<-b,awC]
 .refine ⟨aX.set k A,?_,fi.2 (I.set a),?_⟩
  all_goals grind
def Part(X:Cx)(v:V)(ws:List Value)(o:Nat)(c:V)(cs:List Value):Prop:=
 ∃pre post,ws=pre++(cs++post)/\pre.length=o/\aq X c af cs
theorem Ji{X:Cx}{v c:V}{k o:Nat}(h:v.eF k o=ab c){ws:List Value}(J:aq X v af ws):∃cs,Part X v ws o c cs:=by
 have key:∀w l,aq X (.agg w l) af ws->iU l k=o->l[k]? =ab c->∃cs,Part X v ws o c cs:=λw l J U Z=>by
  obtain⟨pre,cs,post,h1,h2,a,_⟩:=J.split U Z;exact⟨cs,pre,post,h1,h2,a⟩
 unfold V.eF at h;split at h
 .rename_i w l;cases A:al (FW l k) o<;>rw[A]at h<;>simp only[au,ao]at h
  .cases h
  .have I:=bU A;rw[agF]at I;exact key w (l.map V.im) (M7.1 J) I (by simpa using h)
 .rename_i w l;cases A:al (iU l k) o<;>rw[A]at h<;>simp only[au,ao]at h
  .cases h
  .rw [cu]at h;exact key w l J (bU A) h
 trivial
theorem JJ{X:Cx}:∀{p:List (Nat×Nat)} {v c:V},v.eZ p=ab c->∀{ws:List Value},aq X v af ws->∃cs,Part X v ws (ju p) c cs
 |[],v,c,h,ws,J=>by
  cases h;exact⟨ws,[],[],by simp,rfl,J⟩
 |s::p,v,c,h,ws,J=>by
  have h':(V.eF v s.1 s.2).bind (λv=>V.eZ v p)=ab c:=h
  cases U:V.eF v s.1 s.2 with
  |none=>grind
  |some d=>
   rw[U]at h';obtain⟨ds,pre,post,Z,a,b⟩:=Ji U J;obtain⟨cs,I,A,e,f,g⟩:=JJ (p:=p) h' b;refine⟨cs,pre++I,A++post,?_,?_,g⟩
   all_goals simp[Z,e,ju,a,f]
theorem abo{X:Cx}{v:V}{l:List V}(h:v.kids=ab l){ws:List Value}(A:aq X v af ws):aq X (.agg v.wd l) af ws:=by
 unfold V.kids at h;split at h
 .cases h;rw[oG];exact M7.1 A
 .cases h;exact A
 trivial
theorem Kz{X:Cx}{x:V}{xs:List Value}(a:aq X x af xs):∀{p:List (Nat×Nat)} {v U:V},V.put x p v=ab U->∀{ws:List Value},aq X v af ws->
  ∃pre I post,ws=pre++(I++post)/\pre.length=ju p/\I.length=xs.length/\aq X U af (pre++(xs++post))/\U.wd=v.wd
 |[],v,U,h,ws,b=>by
  have h':(bif al x.wd v.wd then ab x else ae)=ab U:=h;cases Z:al x.wd v.wd<;>rw[Z]at h'<;>simp only[au,ao]at h'
  .cases h'
  .cases h';have e:=bU Z;exact⟨[],ws,[],by simp,rfl,by rw[b.wd,a.wd,e],by simpa using a,e⟩
 |s::p,v,U,h,ws,b=>by
  have h':(v.kids.bind λl=>bif al (iU l s.1) s.2 then(bG l s.1).bind λc=>(V.put x p c).map λd=>fJ v.wd (bC l s.1 d)else ae)=ab U:=h
  cases f:v.kids with
  |none=>grind
  |some l=>
   rw[f]at h';simp at h';cases Z:al (iU l s.1) s.2<;>rw[Z]at h'<;>simp only[au,ao]at h'
   .cases h'
   .cases g:l[s.1]? with
    |none=>grind
    |some c=>
     rw[g]at h';simp at h';cases hp:V.put x p c with
     |none=>grind
     |some d=>
      rw[hp]at h';simp at h';subst h';obtain⟨pre,cs,post,k,m,n,f1⟩:=(abo f b).split (bU Z) g;obtain⟨J,I,A,i,o,j,q,hw⟩:=Kz a hp n;refine⟨pre++J,I,A++post,?_,?_,j,?_,Rs _ _⟩
      .simp[k,i]
      .simp[ju,m,o]
      .have:=f1 d (J++(xs++A)) q (by simp[i,j])
       have:=M8 this;simpa using this
def X0:Cx:=⟨λ_=>ae,λ_=>ae,λ_=>ae⟩
theorem GM(X:Cx):X0.le 0 X:=⟨λ_ _ h=>by trivial,λ_ _ h=>by omega,λ_ _ h=>by trivial⟩
theorem Cf:X0.lt 0:=λ_ _ h=>by trivial
def gV(P:Program)(t:Nat):TK->Prop
 |.bool=>P.underlying t=ab .bool
 |.int k=>P.underlying t=ab (.int k)
 |.str=>P.underlying t=ab .string
 |.ptr=>∃e,P.underlying t=ab (.pointer e)
 |.an e=>P.underlying t=ab (.slice e)
 |.arr n e=>P.underlying t=ab (.array n e)
 |.st fs=>∃A:Array Field,P.underlying t=some (.struct A)∧A.toList.map (λf=>(f.offset,P.cellsOf f.type,f.type))=fs∧(∀f∈A.toList,f.name≠ "_" ∧∃i,P.info? f.type=some i)∧P.stoodInHeld t=false
 |.fn=>∃a b c,P.underlying t=ab (.func a b c)
 |.ifc nm=>∃I,P.underlying t=ab (.interface I)/\nm= !I.isEmpty
 |.map k e=>P.underlying t=ab (.map k e)
 |.oth=>∃d,P.underlying t=ab d/\(∀fs,d≠.struct fs)/\(∀n e,d≠.array n e)/\∀I,d≠.interface I
structure iG(P:Program)(t:Nat)(ti:TI):Prop where
 info:∃i,P.info? t=ab i/\i.size=ti.size/\i.bytes=ti.bytes/\∀x,ti.zero=x->x.plain=ag->∃z,i.zero=ab z/\aq X0 x ag [z]
 kind:gV P t ti.k
theorem run_sizeOf{P:Program}{t:Nat}{ti:TI}(h:iG P t ti)(w:World):(sizeOf t).run P w=.ok ti.size w:=by
 obtain⟨i,h1,h2,_⟩:=h.info;simp[sizeOf,typeInfo,h1,h2]
theorem Ln{P:Program}{t:Nat}{ti:TI}(h:iG P t ti)(w:World):(isAgg t).run P w=.ok (iy.kJ ti.k) w:=by
 have A:=h.kind;cases I:ti.k with
 |ptr=>rw[I]at A;obtain⟨e,A⟩:=A;simp[isAgg,run_underlying A,iy.kJ]
 |st fs=>rw[I]at A;obtain⟨e,A,_⟩:=A;simp[isAgg,run_underlying A,iy.kJ]
 |fn=>rw[I]at A;obtain⟨_,_,_,A⟩:=A;simp[isAgg,run_underlying A,iy.kJ]
 |ifc nm=>rw[I]at A;obtain⟨_,A,_⟩:=A;simp[isAgg,run_underlying A,iy.kJ]
 |oth=>
  rw[I]at A;obtain⟨d,A,h1,h2,_⟩:=A;cases d<;>simp[isAgg,run_underlying A,iy.kJ]
  all_goals grind
 |_=>simp_all[gV,isAgg,run_underlying,A,iy.kJ]
theorem acL{k:TK}{v:V}(h:iy k v=ag):v.isAgg=iy.kJ k/\v.plain=ag:=by
 cases v with
 |im d=>cases d<;>simp_all[iy,iy.J3,V.isAgg,V.plain]
 |_=>grind[iy,V.isAgg,V.plain]
theorem nR{ti:TI}{v:V}(h:cA ti v=ag):v.wd=ti.size/\v.isAgg=iy.kJ ti.k/\v.plain=ag:=by
 simp only[cA,aM]at h;exact⟨bU h.1,(acL h.2).1,(acL h.2).2⟩
theorem axA{P:Program}{w:World}{a:Addr}{v:Value}(h:w.cell? a=ab v)(m:Mode):(load a m).run P w=.ok v w:=by simp_all
theorem TB{P:Program}{t:Nat}{ti:TI}(I:iG P t ti){X:Cx}{v:V}(Z:cA ti v=ag){a:Addr}{ws:List Value}{w:World}(h:aq X v af ws)(U:cK w.cell? a ws):
  ∃x,(loadVar t a).run P w=.ok x w/\aq X v ag [x]:=by
 obtain⟨h1,h2,b⟩:=nR Z;have c:=h.wd;cases A:v.isAgg with
 |true=>
  refine⟨.agg ws.toArray,?_,(aq.Co A).2 ⟨ws.toArray,rfl,by omega⟩⟩
  have J:=run_loadCells_list (P:=P) (w:=w) a ws (λj v e=>U j v e)
  simp[loadVar,kg,Ln I,<-h2,A,tj,if_true,run_sizeOf I,<-h1,<-c];simp[J]
 |false=>
  obtain⟨x,e,d,r⟩:=h.one b A;subst e;have:=U 0 x rfl;simp[loadVar,kg,Ln I,A];simp_all
mutual
theorem aR.mV{C:IV}:∀{d:D} {ws:List Value},aR C d af ws->∀x∈ws,x.oneCell'=ag
 |.agg w l,_,h=>by
  simp only[aR]at h
  obtain⟨A,e,h2,_⟩:=h
  subst e
  exact bI.mV h2
 |.aH _,_,h=>by simp[aR]at h
 |.bool _,ws,h|.int _ _,ws,h|.str _,ws,h|.nil,ws,h|.ref _,ws,h|.an _,ws,h|.fn _,ws,h|.dD,ws,h|.ifc _ _,ws,h|.eE,ws,h|.mN,ws,h=>by
  simp only[aR]at h
  first
   |(subst h;simp[rC];done)
   |(obtain⟨h,_⟩:=h;subst h;simp[rC];done)
   |(obtain⟨_,h,_⟩:=h;subst h;simp[rC];done)
   |(obtain⟨_,_,h,_⟩:=h;subst h;simp[rC];done)
   |(obtain⟨_,_,_,h,_⟩:=h;subst h;simp[rC];done)
theorem bI.mV{C:IV}:∀{l:List D} {A:List (List Value)},bI C l af A->∀x∈A.flatten,x.oneCell'=ag
 |[],_,h=>by simp only[bI]at h;subst h;simp
 |d::l,_,h=>by
  simp only[bI]at h
  obtain⟨ws,r,e,h1,h2⟩:=h
  subst e
  intro x I
  rw[pa,cD]at I
  exact I.elim (aR.mV h1 x) (bI.mV h2 x)
end
mutual
theorem aq.mV{X:Cx}:∀{v:V} {ws:List Value},aq X v af ws->∀x∈ws,x.oneCell'=ag
 |.agg w l,_,h=>by
  simp only[aq]at h
  obtain⟨A,e,h2,_⟩:=h
  subst e
  exact bM.mV h2
 |.im d,_,h=>by simp only[aq]at h;exact h.mV
 |.undef,_,h=>by simp[aq]at h
 |.aH _,_,h=>by simp[aq]at h
 |.own ..,ws,h=>by simp only[aq]at h;obtain⟨x,e,r⟩:=h;subst e;simp[r.one]
 |.full ..,ws,h=>by simp only[aq]at h;obtain⟨x,e,r⟩:=h;subst e;simp[r.one]
 |.ptr ..,ws,h=>by simp only[aq]at h;obtain⟨x,e,r⟩:=h;subst e;simp[r.one]
 |.fn ..,ws,h=>by simp only[aq]at h;obtain⟨_,_,_,_,e,_⟩:=h;subst e;simp[rC]
 |.ifc ..,ws,h=>by simp only[aq]at h;obtain⟨_,e,_⟩:=h;subst e;simp[rC]
 |.mp _,ws,h=>by simp only[aq]at h;obtain⟨_,_,e,_⟩:=h;subst e;simp[rC]
 |.jh _,ws,h=>by simp only[aq]at h;obtain⟨_,e,_⟩:=h;subst e;simp[rC]
theorem bM.mV{X:Cx}:∀{l:List V} {A:List (List Value)},bM X l af A->∀x∈A.flatten,x.oneCell'=ag
 |[],_,h=>by simp only[bM]at h;subst h;simp
 |d::l,_,h=>by
  simp only[bM]at h
  obtain⟨ws,r,e,h1,h2⟩:=h
  subst e
  intro x I
  rw[pa,cD]at I
  exact I.elim (aq.mV h1 x) (bM.mV h2 x)
end
theorem au8{P:Program}{t:Nat}{ti:TI}(J:iG P t ti){X:Cx}{v:V}(U:cA ti v=ag){x:Value}(h:aq X v ag [x]){a:Addr}(Z:a.spot=ae){w:World}
  (d:∀j,j< ti.size->(∃u,w.cell? (a.add j)=ab u)/\w.frozen? (a.add j)=af):
  (storeVar t a x).run P w=.ok () (putCells w a x.cells.toList 0):=by
 obtain⟨h1,_,b⟩:=nR U;have A:=h.cells b;have c:x.cells.size=ti.size:=by rw[<-h1,<-A.wd];simp
 have I:=Lo (P:=P) a Z x.cells.toList w 0 (A.mV) (λj e=>by grind)
 simp[storeVar,kg,run_sizeOf J,c];simp[I]
theorem dU{a b:Nat}(h:al a b=ag):a=b:=bU h
theorem rY{a b:Nat}(h:bu a b=ag):a<=b:=Nat.le_of_ble_eq_true h
theorem aU{α:Type}{c:Bool}{x:Option α}{y:α}(h:(bif c then x else ae)=ab y):c=ag/\x=ab y:=by
 cases c<;>simp_all
theorem Ck(a:Addr)(A:a.spot=ae){pre cs post:List Value}{C:IV}(h:cK C a (pre++(cs++post))):cK C (a.add pre.length) cs:=λj v e=>by
 rw[Addr.add_add a _ j A];exact h _ v (by grind)
theorem abw{B:Nat}{X:Cx}{O:Nat->Addr->Prop}{w:World}{h:Heap}(D:HR B X O w h){b g:Nat}{p:List (Nat×Nat)}{v:V}(U:eU h b g p=ab v){x:Value}(hp:tB X b g p x):
  ∃a ws,x=.pointer (ab a)/\a.spot=ae/\aq X v af ws/\cK w.cell? a ws:=by
 obtain⟨_,bi,F,hg,G⟩:=hp;unfold eU at U;split at U
 .rename_i c k;obtain⟨T,I⟩:=aU U;obtain⟨bj,H,ws,h1,h2,S,K,y,Z,z,A⟩:=D.dO b _ k;rw[F]at h1;cases h1;obtain⟨C,J,_,m⟩:=G (by omega)
  rw[K]at J;cases J;obtain⟨cs,pre,post,e,l,r⟩:=JJ I Z;refine⟨_,cs,m,Addr.iI _ _ y,r,?_⟩;rw[<-l];exact Ck H y (by rw[<-e];omega)
 .rename_i W s ro l k;split at U
  .rename_i i o q;obtain⟨n,I⟩:=aU U;rw[aM]at n;obtain⟨bj,h1,h2,S,K,y,Z⟩:=D.dO b _ k;rw[F]at h1;cases h1;obtain⟨C,J,Y,m⟩:=G (by simp_all)
   rw[cu]at I;cases hi:l[i]? with
   |none=>grind
   |some d=>
    rw[hi]at I;have L:i< l.length:=(e7.1 hi).1;rcases Z with Z|⟨es,H,M,z,A,N,f,j,_,_⟩<;>try grind
    rw[z]at J;cases J;obtain⟨ws,Q,t⟩:=(cz.1 N).get hi;have u:=j.row A f Q;obtain⟨cs,pre,post,e,lp,r⟩:=JJ (X:=X) (v:=.im d) I (ws:=ws) (by trivial)
    refine⟨_,cs,m,Addr.iI _ _ A,r,?_⟩;have:ju ((i,o)::q)=i*s+ju q:=by simp[ju,dU n.2]
    rw[this,<-Addr.add_add C _ _ A,<-lp];exact Ck _ (Addr.iI _ _ A) (by rw[<-e];omega)
  trivial
 .rename_i W s l k;split at U
  .rename_i i o q;obtain⟨n,I⟩:=aU U;rw[aM]at n;obtain⟨bj,h1,h2,S,K,y,Z⟩:=D.dO b _ k;rw[F]at h1;cases h1;obtain⟨C,J,Y,m⟩:=G (by simp_all)
   rw[cu]at I;cases hi:l[i]? with
   |none=>grind
   |some d=>
    rw[hi]at I;have L:i< l.length:=(e7.1 hi).1;rcases Z with Z|⟨es,H,M,z,A,N,f,j,_⟩<;>try grind
    rw[z]at J;cases J;obtain⟨ws,Q,t⟩:=(fi.1 N).get hi;have u:=j.row A f Q;obtain⟨cs,pre,post,e,lp,r⟩:=JJ (X:=X) I (ws:=ws) t;refine⟨_,cs,m,Addr.iI _ _ A,r,?_⟩;have:ju ((i,o)::q)=i*s+ju q:=by simp[ju,dU n.2]
    rw[this,<-Addr.add_add C _ _ A,<-lp];exact Ck _ (Addr.iI _ _ A) (by rw[<-e];omega)
  trivial
 trivial
def rM(X:Cx)(w:World)(h:Heap)(C:IV)(S:Nat->Prop):Prop:=
 X.C.le C/\∀b bi A,S b->X.M b=ab bi->bi.base=ab A->
  (∀g s ro l,ar h b=ab (.arr g s ro l)->∀j v,j< l.length*s->w.cell? (A.add j)=ab v->C (A.add j)=ab v)
theorem afK{X:Cx}{b g off len:Nat}{aP:Bool}{x:Value}(h:ph X b g off len aP x){bi:BI}(J:X.M b=ab bi)(U:g=bi.g){C:IV}{l:List D}(Z:l.length=len){a0:Addr}{aX:List (List Value)}
  (A:bi.cap≠0->bi.base=ab a0/\a0.spot=ae/\bI C l af aX/\bl bi.s aX/\cK C (a0.add (off*bi.s)) aX.flatten) {m:Bool}:aR C (.an l) m [x]:=by
 obtain⟨_,bj,e,_,r⟩:=h;rw[J]at e;cases e;obtain⟨a,cap,c,d,f,o,_,I⟩:=r U;refine⟨a,len,cap,by rw[c],Z.symm,d,f,?_⟩
 rcases I with I|⟨p,I,q,i⟩<;>try grind
 by_cases t:len=0
 .omega
 obtain⟨h1,h2,j,k,n⟩:=A (by omega)
 rw[h1]at I;cases I;exact .inr ⟨_,aX,bi.s,i,Addr.iI _ _ h2,j,k,n⟩
theorem CQ{α:Type}(l:List α)(off len:Nat)(h:off+len<=l.length):ir l off len=(l.drop off).take len:=by
 unfold ir;cases A:(al off 0&&al len (aF l))with
 |false=>rfl
 |true=>
  simp_all
theorem tY{α:Type}{g A off len:Nat}{l:List α}(h:fx g A off len l=ag):g=A/\off+len<=l.length:=by
 simp[fx,bz]at h;simp_all
mutual
theorem Xw{X:Cx}{C:IV}(hC:X.C.le C){o:Nat->Nat->Nat->Nat->Option (List D)}{S:Nat->Prop}
  (Z:∀b g off len l,S b->o b g off len=ab l->∀aP x m,ph X b g off len aP x->aR C (.an l) m [x]):
  ∀(v:V) (d:D) (m:Bool) (ws:List Value),V.cV o v=ab d->(∀b∈v.fe,S b)->aq X v m ws->aR C d m ws
 |.im d,_,m,ws,h,_,r=>by simp only[V.cV]at h;cases h;simp only[aq]at r;exact r.mono hC
 |.full l,d,m,ws,h,_,r=>by
  simp only[V.cV]at h;cases h;simp only[aq]at r;obtain⟨x,e,a,n,i,j,k,p⟩:=r.imp λ_ h=>h
  subst e;simp only[aR];refine⟨a,n,n,by rw[i],j,aL _,k,p.imp id ?_⟩
  rintro⟨q,A,s,h1,h2,J,c,t⟩;exact⟨q,A,s,h1,h2,J.mono hC,c,t.mono hC⟩
 |.own b g off len aP,d,m,ws,h,U,r=>by
  simp only[V.cV]at h;cases I:o b g off len
  .rw [I]at h;cases h
  rename_i l;rw[I]at h;simp only[jJ,iV]at h;subst h;simp only[aq]at r;obtain⟨x,e,r⟩:=r;subst e;exact Z b g off len l (U b (by simp[V.fe])) I aP x m r
 |.agg w l,d,m,ws,h,U,r=>by
  simp only[V.cV]at h;cases I:V.dW o l
  .rw [I]at h;cases h
  rename_i ds;rw[I]at h;simp only[jJ,iV]at h;subst h;have:=λA=>Hu hC Z l ds af A I (by simpa[V.fe]using U)
  cases m<;>simp only[aq,aR]at r|-
  .obtain ⟨A,e,h2,J⟩:=r;exact⟨A,e,this A h2,J⟩
  obtain⟨cs,A,e,h1,h2,J⟩:=r;exact⟨cs,A,e,h1,this A h2,J⟩
 |.aH l,d,m,ws,h,U,r=>by
  simp only[V.cV]at h;cases I:V.dW o l
  .rw [I]at h;cases h
  rename_i ds;rw[I]at h;simp only[jJ,iV]at h;subst h;have:=λA=>Hu hC Z l ds ag A I (by simpa[V.fe]using U)
  cases m<;>simp only[aq,aR]at r|-;obtain⟨u,A,e,h2,J⟩:=r;exact⟨u,A,e,this A h2,J⟩
 |.fn f [] [],d,m,ws,h,U,r=>by
  simp only[V.cV]at h;cases h;simp only[aq,bM]at r;obtain⟨fs,cs,y,z,e,h1,h2,J,c⟩:=r;subst h1;subst J;simp only[aR];have:fs=#[]:=by simpa using h2
  have:cs=#[]:=by simpa using c
  simp_all
 |.fn f (_::_) _,d,m,ws,h,_,_=>by simp[V.cV]at h
 |.fn f [] (_::_),d,m,ws,h,_,_=>by simp[V.cV]at h
 |.ifc ..,_,_,_,h,_,_=>by simp[V.cV]at h
 |.undef,_,_,_,h,_,_=>by simp[V.cV]at h
 |.ptr ..,_,_,_,h,_,_=>by simp[V.cV]at h
 |.mp _,_,_,_,h,_,_=>by simp[V.cV]at h
 |.jh _,_,_,_,h,_,_=>by simp[V.cV]at h
theorem Hu{X:Cx}{C:IV}(hC:X.C.le C){o:Nat->Nat->Nat->Nat->Option (List D)}{S:Nat->Prop}
  (J:∀b g off len l,S b->o b g off len=ab l->∀aP x m,ph X b g off len aP x->aR C (.an l) m [x]):
  ∀(l:List V) (ds:List D) (m:Bool) (A:List (List Value)),V.dW o l=ab ds->(∀b∈V.eP l,S b)->bM X l m A->bI C ds m A
 |[],ds,m,A,h,_,r=>by simp only[V.dW]at h;cases h;simpa only[bM,bI]using r
 |v::l,ds,m,A,h,U,r=>by
  simp only[V.dW]at h;cases h1:V.cV o v with
  |none=>rw[h1]at h;cases h
  |some d=>
   cases h2:V.dW o l
   .rw [h1,h2]at h;cases h
   rename_i es;rw[h1,h2]at h;cases h;simp only[bM]at r;obtain⟨ws,Z,e,a,c⟩:=r;simp only[bI];exact⟨ws,Z,e,Xw hC J v d m ws h1 (λb I=>U b (by simp[V.eP,I])) a,Hu hC J l es m Z h2 (λb I=>U b (by simp[V.eP,I])) c⟩
end
theorem ac0{B:Nat}{X:Cx}{O:Nat->Addr->Prop}{w:World}{h:Heap}(o:HR B X O w h){C:IV}{S:Nat->Prop}(c:rM X w h C S)(b g off len:Nat)(l:List D)(p:S b)(U:gL h b g off len=ab l)(aP:Bool)(x:Value)(m:Bool)(d:ph X b g off len aP x):aR C (.an l) m [x]:=by
 unfold gL at U;split at U
 .rename_i y s ro e J;obtain⟨q,r⟩:=aU U;obtain⟨z,Z⟩:=tY q;cases r;rw[CQ e off len Z];obtain⟨bi,h1,h2,F,G,H,f⟩:=o.dO b _ J;have I:((e.drop off).take len).length=len:=by simp;omega
  by_cases t:bi.cap=0
  .exact afK d h1 (by omega) I (a0:=⟨0,0,ae⟩) (aX:=[]) (λu=>absurd t u)
  rcases f with f|⟨es,a0,aX,i,k,n,A,a,_,_⟩<;>try trivial
  subst es;refine afK d h1 (by omega) I (a0:=a0) (aX:=(aX.drop off).take len) (λ_=>⟨i,k,?_,(bl.drop A off).take len,?_⟩)
  .exact (cz.2 (((cz.1 n).drop off).take len)).mono c.1
  intro j v ev;rw[Addr.add_add a0 _ _ k];rw[bl.ll (bl.drop A off),bl.ug A,pc]at ev;split at ev
  .rename_i K;rw[List.getElem?_drop]at ev;refine c.2 b bi a0 p h1 i _ _ _ _ J _ v ?_ (a _ v ev);have:=(e7.1 ev).1;rw[bl.len A,(cz.1 n).len]at this;omega
  trivial
 trivial
theorem ak0(h:Heap)(v:V):V.data h v=V.cV (gL h) v:=by
 unfold V.data;split<;>simp only[V.cV]
theorem ac6(v:V):v.owns=v.fe:=by
 cases v<;>simp[V.owns,V.fe]
theorem wg{B:Nat}{X:Cx}{O:Nat->Addr->Prop}{w:World}{h:Heap}(J:HR B X O w h){C:IV}{S:Nat->Prop}(A:rM X w h C S){v:V}{d:D}(e:V.data h v=ab d)(I:∀b∈v.owns,S b)
  {m:Bool} {ws:List Value} (r:aq X v m ws):aR C d m ws:=by
 rw[ak0]at e;rw[ac6]at I;exact Xw A.1 (ac0 J A) v d m ws e I r
def ov(B:Nat)(X:Cx)(w:World):IV:=λa=>if B<=a.block then w.cell? a else X.C a
theorem G6{B:Nat}{X:Cx}{w:World}(h:CI X.C w):CI (ov B X w) w:=⟨λa v e=>by
 unfold ov at e;split at e<;>try grind
 exact h a v e,Gh.gm (λa v e=>by
 unfold ov;split
 .exact h a v e
 omega) h.gl⟩
theorem Wx{B:Nat}{X:Cx}{w:World}(h:CI X.C w):X.C.le (ov B X w):=λa v e=>by
 unfold ov;split
 .exact h a v e
 omega
theorem Cu{B:Nat}{X:Cx}{O:Nat->Addr->Prop}{w:World}{h:Heap}(I:HR B X O w h):rM X w h (ov B X w) (λ_=>True):=by
 refine⟨Wx I.ci,λb bi q _ d f=>λg s ro l i j v r e=>?_⟩
 unfold ov;split<;>try trivial
 rename_i hB;obtain⟨bj,h1,h2,t,k,u,a⟩:=I.dO b _ i;rw[d]at h1;cases h1;have m:l.length*s<=bi.cap*s:=eA _ k.1;rcases a with a|⟨es,x,A,c,y,n,J,o,U,Z⟩
 .grind
 rw[f]at c;cases c;by_cases p:j< ro*s
 .have z:j< A.flatten.length:=by rw[bl.len J,(cz.1 n).len];omega
  have:=U j A.flatten[j] (by grind)
  have C:=I.ci _ _ this;grind
 exact absurd (I.own b _ (Z j (by omega) (by omega)).1).1 hB
def BU(X:Cx)(b n:Nat)(a:Addr):Prop:=∃bi A j,X.M b=ab bi/\bi.base=ab A/\j< n/\a=A.add j
open Classical in
def mg(X:Cx)(w:World)(b n:Nat):IV:=λa=>if BU X b n a then w.cell? a else X.C a
theorem L1{X:Cx}{w:World}(h:CI X.C w)(b n:Nat):X.C.le (mg X w b n):=λa v e=>by
 unfold mg;split
 .exact h a v e
 omega
theorem awv{X:Cx}{w:World}(h:CI X.C w)(b n:Nat):CI (mg X w b n) w:=⟨λa v e=>by
 unfold mg at e;split at e<;>try grind
 exact h a v e,Gh.gm (L1 h b n) h.gl⟩
theorem Oa{B:Nat}{X:Cx}{O:Nat->Addr->Prop}{w:World}{h:Heap}(I:HR B X O w h){b g s ro:Nat}{l:List D}(S:ar h b=ab (.arr g s ro l)):
  HR B (X.jf (mg X w b (l.length*s))) (λc a=>O c a/\¬BU X b (l.length*s) a) w (aI h b (.arr g s l.length l))/\
  (∀a v,mg X w b (l.length*s) a=ab v->X.C a=ae->B<=a.block)/\(∀c a,c≠b->O c a->¬BU X b (l.length*s) a):=by
 have p:=e8 S;obtain⟨bi,h1,h2,W,z,Y,F⟩:=I.dO b _ S;have T:l.length*s<=bi.cap*s:=eA _ z.1;have G:ro*s<=l.length*s:=eA _ z.2;have J:∀a,BU X b (l.length*s) a->O b a∨∃v,X.C a=ab v:=by
  rintro a ⟨bj,r,j,H,K,e3,rfl⟩;rw[h1]at H;cases H;rcases F with F|⟨es,a1,U,n,L,M,Z,d,q,f⟩<;>try grind
  rw[K]at n;cases n;by_cases uw:j< ro*s
  .have hl:j< U.flatten.length:=by rw[bl.len Z,(cz.1 M).len];omega
   exact .inr ⟨_,q j U.flatten[j] (by grind)⟩
  exact .inl (f j (by omega) (by omega)).1
 have A:∀c a,c≠b->O c a->¬BU X b (l.length*s) a:=λc a hc o N=>by
  rcases J a N with h|⟨v,h⟩
  .exact hc (I.gJ c b a o h)
  rw[(I.own c a o).2.2]at h;cases h
 refine⟨⟨λc k e=>?_,λc a o=>?_,λc c' a o o'=>I.gJ c c' a o.1 o'.1,λc bj e=>?_,awv I.ci _ _,I.wb⟩,λa v e hn=>?_,A⟩
 .rw [bR h b c _ (dj p)]at e;have Q:X.le h.length (X.jf (mg X w b (l.length*s))):=⟨L1 I.ci _ _,λ_ bi _ e=>⟨bi,e,aL _,λ_=>rfl,λ_=>rfl⟩,λ_ _ e=>e⟩
  by_cases m:c=b
  .subst m;simp only[if_true]at e;cases e;refine⟨bi,h1,h2,W,⟨z.1,aL _⟩,Y,F.imp id ?_⟩;rintro⟨es,r,U,n,L,M,Z,d,q,f⟩;refine⟨es,r,U,n,L,M.mono (L1 I.ci _ _),Z,d,λj v e=>?_,λj H K=>?_⟩
   .rw [pc]at e;split at e
    .rename_i hj;show mg X w c (l.length*s) (r.add j)=ab v;unfold mg;rw[aK ⟨bi,r,j,h1,n,hj,rfl⟩];exact d j v e
    trivial
   obtain⟨o,x⟩:=f j (by omega) K
   refine⟨⟨o,?_⟩,x⟩;rintro⟨bj,a1,i,t,y,V,q4⟩;rw[h1]at t;cases t;rw[n]at y;cases y;have:=Addr.pj L q4;omega
  simp only[ax m]at e;exact(I.dO c k e).later I.lt Q rfl (.refl w) (λa o=>⟨o,A c a m o⟩)
 .obtain ⟨t,y,V⟩:=I.own c a o.1;refine⟨t,y,?_⟩;show mg X w b (l.length*s) a=ae;simp[mg,ax,o,V]
 .rw [b9,aK p];exact I.lt c bj e
 unfold mg at e;split at e
 .rename_i N;rcases J a N with h|⟨u,h⟩
  .exact (I.own b a h).1
  grind
 grind
theorem akC(h:Heap)(b:Nat)(A:List Nat):close h (b::A)=(match ar h b with|some (.arr g s _ l)=>close (aI h b (.arr g s (aF l) l)) A|_=>close h A):=rfl
theorem Nh(h:Heap)(b:Nat)(A:List Nat):gH h (b::A)=(match ar h b with|some (.arr ..)=>gH h A|_=>af):=rfl
theorem Ni{h:Heap}{b g s ro:Nat}{l:List D}(A:b<=h.length):∀{I:List Nat},gH h I=ag->gH (aI h b (.arr g s ro l)) I=ag
 |[],_=>rfl
 |c::I,e=>by
  rw[Nh]at e|-;rw[bR h b c _ A];by_cases J:c=b
  .simp [J];split at e
   .exact Ni A e
   trivial
  simp[ax J];split at e
  .first|exact Ni A e|(rw[q])
  omega
theorem CM{B:Nat}{w:World}:∀(J:List Nat) {X:Cx} {O:Nat->Addr->Prop} {h:Heap},HR B X O w h->gH h J=ag->
  ∃C O',HR B (X.jf C) O' w (close h J)/\X.C.le C/\CI C w/\(∀a v,C a=ab v->X.C a=ae->B<=a.block)/\(close h J).length=h.length/\(∀c a,O' c a->O c a)/\
   (∀b∈J,∀bi Z,X.M b=ab bi->bi.base=ab Z->∀g s ro l,ar h b=ab (.arr g s ro l)->∀j v,j< l.length*s->w.cell? (Z.add j)=ab v->C (Z.add j)=ab v)/\
   (∀b,(∀g s ro l,ar h b=ab (.arr g s ro l)->∃A,ar (close h J) b=ab (.arr g s A l)/\(b ∉ J->A=ro))/\((∀g s ro l,ar h b≠ab (.arr g s ro l))->ar (close h J) b=ar h b))/\
   (∀c a,c ∉ J->O c a->O' c a)
 |[],X,O,h,r,_=>⟨X.C,O,r,.refl _,r.ci,λa v e F=>(by grind),rfl,λ_ _ o=>o,λb q=>(by cases q),λb=>⟨λg s ro l e=>⟨ro,e,λ_=>rfl⟩,λ_=>rfl⟩,λ_ _ _ o=>o⟩
 |b::J,X,O,h,r,y=>by
  rw[Nh]at y;rw[akC];split at y
  .rename_i g s ro l q;have d:=dj (e8 q);obtain⟨z,L,f⟩:=Oa r q;obtain⟨C,O',N,G,Q,S,T,V,W,q8,Y⟩:=CM J z (Ni (s:=s) (g:=g) (ro:=l.length) (l:=l) d y);simp only[bz];have i:∀c,(∀k m A n,ar h c=ab (.arr k m A n)->∃U,ar (aI h b (.arr g s l.length l)) c=ab (.arr k m U n)/\(c≠b->U=A))/\((∀k m A n,ar h c≠ab (.arr k m A n))->ar (aI h b (.arr g s l.length l)) c=ar h c):=λc=>by
    refine⟨λk m A n e=>?_,λF=>?_⟩
    .rw [bR h b c _ d];grind
    rw[bR h b c _ d,ax];grind
   have p:=L1 (w:=w) r.ci b (l.length*s);refine⟨C,O',N,p.trans G,Q,λa v e F=>?_,by rw[T,b9,aK (e8 q)],λc a o=>(V c a o).1,λc x bi Z H I k m A n D j v K e=>?_,λc=>?_,λc a x o=>Y c a (λh=>x (by simp[h])) ⟨o,f c a (λh=>x (by simp[h])) o⟩⟩
   .cases hx:mg X w b (l.length*s) a with
    |none=>exact S a v e hx
    |some u=>grind
   .by_cases t:c=b
    .subst t;rw[q]at D;cases D;refine G _ _ ?_;show mg X w c (l.length*s) (Z.add j)=ab v;unfold mg;rw[aK ⟨bi,Z,j,H,I,K,rfl⟩];exact e
    obtain⟨U,e2,_⟩:=(i c).1 _ _ _ _ D;exact W c ((du.1 x).resolve_left t) bi Z H I k m U n e2 j v K e
   grind
  trivial
theorem GU{h:Heap}:∀{I:List Nat},gH h I=ag->∀b∈I,∃g s ro l,ar h b=ab (.arr g s ro l)
 |[],_,_,A=>by cases A
 |c::I,J,b,A=>by
  rw[Nh]at J;split at J
  .rcases du.1 A with rfl|A<;>try grind
   exact GU J b A
  trivial
theorem Hm{X:Cx}{w:World}{O O':Nat->Addr->Prop}{h:Heap}{A:List Nat}{C:IV}(J:gH h A=ag)
  (i:∀b,(∀g s ro l,ar h b≠ab (.arr g s ro l))->ar (close h A) b=ar h b) (U:∀b g s ro l,ar h b=ab (.arr g s ro l)->∃I,ar (close h A) b=ab (.arr g s I l)/\(b ∉ A->I=ro)) (Z:∀c a,c ∉ A->O c a->O' c a):FR X O w h (X.jf C) O' w (close h A):=by
 refine⟨λb bi _ d=>?_,λ_ _ e _=>e,λb bi _ d a o=>Z b a (λf=>?_) o,λ_ _ _ _ _ _ _ e=>⟨e,rfl⟩,λ_ _ _ _ _ _ _ e _=>e,λb e=>?_,λ_ _ e _=>e⟩
 .grind
 .obtain ⟨g,s,ro,l,e⟩:=GU J b f;grind
 grind
theorem Hn{X:Cx}{w:World}{h:Heap}{I:List Nat}{C:IV}(_:gH h I=ag)(hC:X.C.le C)
  (J:∀b∈I,∀bi A,X.M b=ab bi->bi.base=ab A->∀g s ro l,ar h b=ab (.arr g s ro l)->∀j v,j< l.length*s->w.cell? (A.add j)=ab v->C (A.add j)=ab v):rM X w h C (· ∈I):=⟨hC,λb bi A U=>J b U bi A⟩
def dK(P:Program)(B:Nat)(X:Cx)(O:Nat->Addr->Prop)(w:World)(h:Heap)(m:Sem Value)(v:V)(h':Heap):Prop:=
 ∃x w' X' O',m.run P w=.ok x w'/\HR B X' O' w' h'/\Up B X w h.length X' w'/\aq X' v ag [x]/\h.length<=h'.length/\FR X O w h X' O' w' h'
def Gv(P:Program)(B:Nat)(X:Cx)(O:Nat->Addr->Prop)(w:World)(h:Heap)(m:Sem Unit)(h':Heap):Prop:=
 ∃w' X' O',m.run P w=.ok () w'/\HR B X' O' w' h'/\Up B X w h.length X' w'/\h.length<=h'.length/\FR X O w h X' O' w' h'
section
variable {P:Program} {B:Nat} {X:Cx} {O:Nat->Addr->Prop} {w:World} {h:Heap}
theorem dK.same(A:HR B X O w h){m:Sem Value}{v:V}{x:Value}(e:m.run P w=.ok x w)(r:aq X v ag [x]):dK P B X O w h m v h:=
 ⟨x,w,X,O,e,A,.refl _ _ _ _,r,aL _,.refl _ _ _ _⟩
theorem aci(c:HR B X O w h){n:Nat}(f:ar h n=ae)(b:X.M n=ae)(J:n<=h.length){v:V}(hp:v.plain=ag){x:Value}(r:aq X v ag [x])(T:Nat):
  ∃X' O',HR B X' O' (w.alloc (.cells x.cells T)) (aI h n (.cell v))/\Up B X w h.length X' (w.alloc (.cells x.cells T))/\aq X' (.ptr n 0 []) ag [.pointer (ab ⟨w.heap.size,0,ae⟩)]/\h.length<=(aI h n (.cell v)).length/\FR X O w h X' O' (w.alloc (.cells x.cells T)) (aI h n (.cell v)):=by
 let bi:BI:=⟨0,ab ⟨w.heap.size,0,ae⟩,0,1,ag⟩;let d:=λa=>∃j,j< x.cells.size/\a=(⟨w.heap.size,0,ae⟩:Addr).add j
 have A:=r.cells hp;have I:∀j y,x.cells.toList[j]? =ab y->(w.alloc (.cells x.cells T)).cell? ((⟨w.heap.size,0,ae⟩:Addr).add j)=ab y:=λj y e=>by
  have:(⟨w.heap.size,0,ae⟩:Addr).add j=⟨w.heap.size,j,ae⟩:=by grind[yj]
  simp_all
 have U:∀j,(w.alloc (.cells x.cells T)).frozen? ((⟨w.heap.size,0,ae⟩:Addr).add j)=af:=λj=>by
  have:(⟨w.heap.size,0,ae⟩:Addr).add j=⟨w.heap.size,j,ae⟩:=by grind[yj]
  simp_all
 have Z:=aq.low c.lt _ _ _ A;refine⟨X.eg n bi,_,c.add f b J (.alloc _ _) (by simp) bi d (.cell v) (λa ⟨j,g,e⟩=>?_) ?_,Up.add b ((Below.refl B w).alloc c.wb _) (.alloc _ _) _ bi,?_,?_,.add b J (.alloc _ _) bi d _⟩
 .simp_all[Addr.y6]
 .refine ⟨bi,⟨w.heap.size,0,ae⟩,x.cells.toList,Cx.fN _ _ _,rfl,rfl,rfl,rfl,aq.mono (Cx.yd h.length b) _ _ _ Z A,I,λj _ g=>⟨⟨j,by omega,rfl⟩,⟨x.cells[j]'(by omega),I j _ (by simp)⟩,U j⟩⟩
 .exact ⟨_,rfl,⟨_,rfl⟩,bi,Cx.fN _ _ _,aL _,λ_=>⟨_,rfl,rfl,by rfl⟩⟩
 grind[b9]
theorem aje(Z:HR B X O w h){n:Nat}(a:ar h n=ae)(b:X.M n=ae)(A:n<=h.length){t:Nat}{ti:TI}(c:iG P t ti)(J:ti.zero.plain=ag):
  dK P B X O w h (ahd t ag (.tuple #[])) (.ptr n 0 []) (aI h n (.cell ti.zero)):=by
 obtain⟨i,h1,h2,m,d⟩:=c.info;obtain⟨z,e,U⟩:=d _ rfl J;have I:=aq.mono (GM X) _ _ _ (aq.low Cf _ _ _ U) U;obtain⟨X',O',f,g,j,k,l⟩:=aci Z a b A J I t;refine⟨_,_,X',O',?_,f,g,j,k,l⟩;simp[ahd,zeroValue,typeInfo,h1,e,newVar,newRow,Sem.run]
theorem aj0(I:HR B X O w h){n:Nat}(J:ar h n=ae)(U:X.M n=ae)(A:n<=h.length){t:Nat}{v:V}(hp:v.plain=ag){x:Value}(r:aq X v ag [x]):
  dK P B X O w h (ahe t x) (.ptr n 0 []) (aI h n (.cell v)):=by
 obtain⟨X',O',Z,a,b,c,d⟩:=aci I J U A hp r t;refine⟨_,_,X',O',?_,Z,a,b,c,d⟩;rfl
theorem ajX(U:HR B X O w h){n:Nat}(k:ar h n=ae)(c:X.M n=ae)(Z:n<=h.length){t:Nat}{d:D}(hp:(V.im d).plain=ag){x:Value}(r:aq X (.im d) ag [x]):
  dK P B X O w h (ahe t x) (.im (.ref d)) (aI h n (.arr 0 0 0 [])):=by
 let bi:BI:=⟨0,ae,0,0,af⟩;let w':=w.alloc (.cells x.cells t);let C':=λa=>if a.block=w.heap.size then w'.cell? a else X.C a
 have f:eJ w w':=.alloc _ _;have l:=λa v e=>yr w a (U.ci a v e)
 have hC:X.C.le C':=λa v e=>by
  grind
 have h1:HR B (X.eg n bi) (λb=>if b=n then(λ_=>False)else O b) w' (aI h n (.arr 0 0 0 [])):=
  U.add k c Z f (by simp[w']) bi (λ_=>False) _ (λa h=>h.elim) ⟨bi,Cx.fN _ _ _,rfl,rfl,⟨aL _,aL _⟩,bH _,.inl rfl⟩
 have g:CI C' w':=⟨λa v e=>by
  have e:(if a.block=w.heap.size then w'.cell? a else X.C a)=ab v:=e;split at e
  .exact e
  .exact h1.ci a v e,Gh.gm hC U.ci.gl⟩
 have h2:=h1.more hC g λb a o=>by
  by_cases i:b=n
  .simp_all
  .simp [ax i]at o;obtain⟨_,p,q⟩:=U.own b a o;grind
 have I:=by simpa only[aq]using r.cells hp
 have J:∀j y,x.cells.toList[j]? =ab y->C' ((⟨w.heap.size,0,ae⟩:Addr).add j)=ab y:=λj y e=>by
  have:(⟨w.heap.size,0,ae⟩:Addr).add j=⟨w.heap.size,j,ae⟩:=by grind[yj]
  rw[this];show(if w.heap.size=w.heap.size then _ else _)=_;rw[World.cell?_alloc_new];simpa using e
 have A:=FR.add (O:=O) (w:=w) (w':=w') (X:=X) (h:=h) c Z f bi (λ_=>False) (.arr 0 0 0 [])
 refine⟨.pointer (ab ⟨w.heap.size,0,ae⟩),w',_,_,?_,h2,⟨⟨hC,λb bj i e=>?_,λ_ _ e=>e⟩,(Below.refl B w).alloc U.wb _,λa v e k=>?_,λr o e _=>f.obj r o e⟩,?_,?_,⟨A.fm,A.M,A.own,A.cell,A.obj,A.o7,A.rp⟩⟩
 .rfl
 .exact (Cx.yd h.length c).M b bj i e
 .have e:(if a.block=w.heap.size then w'.cell? a else X.C a)=ab v:=e;split at e
  .rename_i m;simp[m,U.wb]
  grind
 .exact ⟨_,_,rfl,rfl,I.mono hC,J⟩
 grind[b9]
theorem arx(I:HR B X O w h){E:Env}{t:Nat}(m:∀ti,E.ty t=ab ti->iG P t ti){av v:V}{a:Value}{h':Heap}(e:gd E h t av=ab (v,h'))(r:aq X av ag [a]):
  dK P B X O w h (Instr.loadAt t a) v h':=by
 unfold gd at e;cases f:E.ty t with
 |none=>grind
 |some ti=>
  rw[f]at e;have A:=m ti f;split at e
  .rename_i b g p;cases i:eU h b g p with
   |none=>grind
   |some u=>
    rw[i]at e;obtain⟨J,e⟩:=aU e;cases e;obtain⟨y,n,o⟩:=r;cases n;obtain⟨k,ws,U,q,l,Z⟩:=abw I i o;subst U;obtain⟨x,s,c⟩:=TB (P:=P) A J l Z;exact .same I (by trivial) c
  .rename_i d;obtain⟨J,e⟩:=aU e;cases e;obtain⟨k,ws,U,q,l,Z⟩:=r;cases U;obtain⟨x,s,c⟩:=TB (P:=P) (X:=X) (v:=.im d) A J (ws:=ws) (by trivial) (a:=k) (w:=w) (λj v e=>I.ci _ _ (Z j v e))
   exact .same I (by trivial) c
  trivial
theorem fZ.sub{O:Addr->Prop}{a:Addr}{i n:Nat}(A:fZ w O a i n)(I:a.spot=ae){k m:Nat}(h1:i<=k)(h2:k+m<=n):fZ w O (a.add k) 0 m:=λj _ J=>by
 rw[Addr.add_add a _ _ I];exact A _ (by omega) (by omega)
theorem Dd{s:Nat}{A:List (List Value)}(J:bl s A){i:Nat}{ws I:List Value}(hi:A[i]? =ab ws)(Z:I.length=s):(A.set i I).flatten=A.flatten.take (i*s)++(I++A.flatten.drop (i*s+s)):=by
 have U:=(e7.1 hi).1;rw[List.set_eq_take_append_cons_drop,aK U,List.flatten_append,pa,bl.ll J,bl.ug J];grind
theorem OY{s:Nat}{A:List (List Value)}(I:bl s A){i:Nat}{ws:List Value}(hi:A[i]? =ab ws):A.flatten=A.flatten.take (i*s)++(ws++A.flatten.drop (i*s+s)):=by
 have J:=(e7.1 hi).1;have:=Dd I hi (I _ (jG hi));rw[<-this];congr 1;simp_all[List.ext_getElem?_iff,List.getElem?_set,hi,aK,J]
theorem NZ{a:Addr}(A:a.spot=ae){pre old post xs:List Value}(I:cK w.cell? a (pre++(old++post)))(U:old.length=xs.length):cK (putCells w (a.add pre.length) xs 0).cell? a (pre++(xs++post)):=λj v e=>by
 have hex:∀k,k< xs.length->∃u,w.cell? ((a.add pre.length).add (0+k))=ab u:=λk J=>by
  rw[db,Addr.add_add a _ _ A];exact⟨_,I (pre.length+k) old[k] (by grind)⟩
 by_cases h1:j< pre.length
 .rw [oO _ xs w 0 _ (λk J he=>by rw[Addr.add_add a _ _ A]at he;have:=Addr.pj A he;omega)]
  exact I j v (by grind)
 .rw [jE (by omega)]at e
  by_cases h2:j-pre.length< xs.length
  .rw [gP h2]at e;have:=AL (a.add pre.length) (Addr.iI _ _ A) xs w 0 hex _ v e;rw[db,Addr.add_add a _ _ A,show pre.length+(j-pre.length)=j from by omega]at this
   omega
  .rw [oO _ xs w 0 _ (λk J he=>by rw[Addr.add_add a _ _ A]at he;have:=Addr.pj A he;omega)]
   exact I j v (by grind)
end
section
variable {P:Program} {B:Nat} {X:Cx} {O:Nat->Addr->Prop} {w:World} {h:Heap}
theorem Up.put{n:Nat}{a:Addr}(hB:B<=a.block)(vs:List Value)(i:Nat){Y:Cx}(A:X.le n Y)(hC:Y.C=X.C):Up B X w n Y (putCells w a vs i):=
 ⟨A,Su a hB vs w i,λx v e I=>(by grind),λ_ _ e l=>pT a (w9 l) vs w i e⟩
theorem AF{b:Nat}{a:Addr}{i n:Nat}(A:HR B X O w h)(I:fZ w (O b) a i n){j:Nat}(h1:i<=j)(h2:j< n):B<=a.block:=by
 have:=(A.own b _ (I j h1 h2).1).1;grind[Addr.y6]
theorem zg{xs:List Value}{a:Addr}(hB:xs≠[]->B<=a.block):Below B w (putCells w a xs 0):=by
 cases xs<;>first|exact .refl _ _|rename_i x xs;exact Su a (hB (by simp)) _ _ _
theorem amv{l:List Nat}{b:Nat}(h:bg l b=af):b ∉ l:=by
 induction l with
 |nil=>simp
 |cons a l ih=>
  have h':(bif al a b then ag else bg l b)=af:=h;grind[Nat.beq_refl]
theorem T6(z:HR B X O w h){b g:Nat}{p:List (Nat×Nat)}{Q:V}{h':Heap}(S:lE h b g p Q=ab h'){x:Value}(hp:tB X b g p x){xs:List Value}(rx:aq X Q af xs):
  ∃a X' O',x=.pointer (ab a)/\a.spot=ae/\(∀j,j< xs.length->(∃u,w.cell? (a.add j)=ab u)/\w.frozen? (a.add j)=af)/\HR B X' O' (putCells w a xs 0) h'/\Up B X w h.length X' (putCells w a xs 0)/\h.length<=h'.length/\FR X O w h X' O' (putCells w a xs 0) h':=by
 obtain⟨_,bi,hM,hg,hx⟩:=hp;unfold lE at S;split at S
 .rename_i c n;have f:=e8 n;obtain⟨PB,I⟩:=aU S;obtain⟨bj,a0,ws,h1,h2,h3,h4,L,h6,h7,D⟩:=z.dO b _ n;rw[hM]at h1;cases h1;obtain⟨N,T,_,W⟩:=hx (by omega)
  rw[h4]at T;cases T;cases hv:V.put Q p c with
  |none=>grind
  |some v'=>
   rw[hv]at I;simp only[jJ,iV]at I;subst I;obtain⟨pre,old,post,q1,q2,q3,q4,q5⟩:=Kz rx hv h6;have hlen:ws.length=pre.length+(xs.length+post.length):=by simp[q1,q3]
   have A:fZ w (O b) (a0.add pre.length) 0 xs.length:=D.sub L (bH _) (by omega)
   rw[<-q2]at W;refine⟨_,X,O,W,Addr.iI _ _ L,λj U=>(A j (bH _) U).2,?_,?_,by simp[b9,aK,f,aL],FR.put z n (λ_ _=>rfl) _ xs 0 (λj U=>by rw[db];exact(A j (bH _) U).1) _⟩
   .refine z.put f (.refl _ _) rfl (λ_ _=>rfl) z.lt _ (Addr.iI _ _ L) xs 0 (λj U=>by rw[db];exact(A j (bH _) U).1) (λj U=>by rw[db];exact(A j (bH _) U).2.1) _ ?_
    refine⟨bi,a0,_,hM,h2,h3,h4,L,q4,NZ L (by grind) q3,?_⟩
    have:(pre++(xs++post)).length=ws.length:=by simp[hlen]
    rw[this];exact D.put _ (Addr.iI _ _ L) xs 0 (λj U=>by rw[db];exact(A j (bH _) U).2.1)
   .exact ⟨.refl _ _,zg (λln=>AF z A (aL _) (by grind)),λy v e I=>(by grind),λ_ _ e l=>pT _ (w9 l) xs w 0 e⟩
 .rename_i g' s ro l n;split at S
  .rename_i i o q;obtain⟨hc,I⟩:=aU S;simp only[aM]at hc;obtain⟨Dp,PQ,ane⟩:=hc;rw[cu]at I;cases hi:l[i]? with
   |none=>grind
   |some d=>
    rw[hi]at I;simp only[ah]at I;cases hd:Q.data h with
    |none=>grind
    |some dx=>
     rw[hd]at I;simp only[ah]at I;cases r:V.put (.im dx) q (.im d)with
     |none=>grind
     |some v'=>
      rw[r]at I;simp only[ah]at I;split at I
      .rename_i d';obtain⟨um,I⟩:=aU I;cases I;rw[aM]at um;obtain⟨ha,zN⟩:=um;have amX:b ∉ Q.owns:=amv (by simpa using zN)
       obtain⟨C,O1,k1,k2,k3,k4,k5,k6,k7,k8,k9⟩:=CM Q.owns z ha;have ang:=Hn ha k2 k7;have rdx:aR C dx af xs:=wg z ang hd (λb n=>n) rx
       obtain⟨ro',qJ,anc⟩:=(k8 b).1 _ _ _ _ n;have anf:=anc amX;subst anf;have f:b<(close h Q.owns).length:=e8 qJ;obtain⟨bj,h1,h2,h3,h4,L,h6⟩:=k1.dO b _ qJ;have Y0:X.M b=ab bj:=h1;rw[hM]at Y0;cases Y0;obtain⟨N,T,s1,W⟩:=hx (by rw[h2];exact dU Dp)
       have hil:i< l.length:=(e7.1 hi).1;rcases h6 with h6|⟨es,a0,Z,h7,D,h9,J,F,h12,G⟩
       .omega
       .rw [h7]at T;cases T;obtain⟨ws,ew,rws⟩:=(cz.1 h9).get hi;have ux:ws.length=s:=J ws (jG ew);obtain⟨pre,old,post,q1,q2,q3,q4,q5⟩:=Kz (X:=X.jf C) (x:=.im dx) (xs:=xs) (by simp only[aq];exact rdx) r (ws:=ws) (by simp only[aq];exact rws)
        have k:pre.length+(xs.length+post.length)=s:=by rw[<-ux,q1];simp[q3]
        have H:(i+1)*s<=bi.cap*s:=eA _ (by omega)
        rw[ns,Vz]at H;have ZR:ro'*s<=i*s:=eA _ (rY ane);have PY:ju ((i,o)::q)=i*s+pre.length:=by rw[q2];simp[ju,dU PQ]
        rw[PY]at W;have A:fZ w (O1 b) (N.add (i*s+pre.length)) 0 xs.length:=G.sub D (by omega) (by omega)
        have hex:∀j,j< xs.length->∃u,w.cell? ((N.add (i*s+pre.length)).add (0+j))=ab u:=λj U=>by rw[db];exact(A j (bH _) U).2.1
        have m:=Addr.iI N (i*s+pre.length) D;refine⟨_,X.jf C,O1,W,m,λj U=>(A j (bH _) U).2,?_,?_,?_⟩
        .refine k1.put f (.refl _ _) rfl (λ_ _=>rfl) k1.lt _ m xs 0 (λj U=>by rw[db];exact(A j (bH _) U).1) hex _ ?_
         have t:(pre++(xs++post)).length=s:=by simp[k]
         refine⟨bi,hM,h2,h3,by simpa using h4,L,.inr ⟨es,N,Z.set i (pre++(xs++post)),h7,D,?_,bl.set J t,?_,?_,?_⟩⟩
         .rw [eO];exact cz.2 ((cz.1 h9).set (by simp only[aq]at q4;exact q4))
         .rw [Dd J ew t];have K:=OY J ew;rw[q1]at K;have:=NZ (w:=w) (pre:=Z.flatten.take (i*s)++pre) (old:=old) (post:=post++Z.flatten.drop (i*s+s)) (xs:=xs) D (by rw[K]at F;simpa using F) q3
          have so:(Z.flatten.take (i*s)++pre).length=i*s+pre.length:=by
           have:i*s<=Z.flatten.length:=by rw[bl.len J,(cz.1 h9).len];exact eA _ (by omega)
           rw[dH,gi,nv this]
          rw[so]at this;simpa using this
         .rw [Dd J ew t,List.take_append_of_le_length (by
           have:i*s<=Z.flatten.length:=by rw[bl.len J,(cz.1 h9).len];exact eA _ (by omega)
           rw[gi,nv this];exact ZR),List.take_take,nv ZR]
          exact h12
         .exact G.put _ m xs 0 hex
        .refine ⟨⟨k2,λ_ bi _ e=>⟨bi,e,aL _,λ_=>rfl,λ_=>rfl⟩,λ_ _ e=>e⟩,zg (λln=>AF k1 A (aL _) (by cases xs<;>simp_all)),k4,λ_ _ e l=>pT _ (w9 l) xs w 0 e⟩
        .rw [b9,aK f,k5];exact⟨aL _,(Hm (w:=w) ha (λb n=>(k8 b).2 n) (λb=>(k8 b).1) k9).trans (FR.put (Y:=X.jf C) k1 qJ (λ_ _=>rfl) _ xs 0 (λj U=>by rw[db];exact(A j (bH _) U).1) _) (aL _) (by rw[k5];exact aL _)⟩
      trivial
  trivial
 .rename_i g' s l n;split at S
  .rename_i i o q;obtain⟨hc,I⟩:=aU S;simp only[aM]at hc;obtain⟨Dp,PQ⟩:=hc;rw[cu]at I;cases hi:l[i]? with
   |none=>rw[hi]at I;cases I
   |some d=>
    rw[hi]at I;simp only[ah]at I;cases r:V.put Q q d with
    |none=>rw[r]at I;cases I
    |some v'=>
     rw[r]at I;simp only[jJ,iV]at I;subst I;have f:=e8 n;obtain⟨bj,h1,h2,h3,h4,L,h6⟩:=z.dO b _ n;rw[hM]at h1;cases h1;obtain⟨N,T,s1,W⟩:=hx (by rw[h2];exact dU Dp)
     have hil:i< l.length:=(e7.1 hi).1;rcases h6 with h6|⟨es,a0,Z,h7,D,h9,J,F,G⟩
     .omega
     .rw [h7]at T;cases T;obtain⟨ws,ew,rws⟩:=(fi.1 h9).get hi;have ux:ws.length=s:=J ws (jG ew);obtain⟨pre,old,post,q1,q2,q3,q4,q5⟩:=Kz rx r rws;have k:pre.length+(xs.length+post.length)=s:=by rw[<-ux,q1];simp[q3]
      have H:(i+1)*s<=bi.cap*s:=eA _ (by omega)
      rw[ns,Vz]at H;have PY:ju ((i,o)::q)=i*s+pre.length:=by rw[q2];simp[ju,dU PQ]
      rw[PY]at W;have A:fZ w (O b) (N.add (i*s+pre.length)) 0 xs.length:=G.sub D (by omega) (by omega)
      have hex:∀j,j< xs.length->∃u,w.cell? ((N.add (i*s+pre.length)).add (0+j))=ab u:=λj U=>by rw[db];exact(A j (bH _) U).2.1
      have m:=Addr.iI N (i*s+pre.length) D;refine⟨_,X,O,W,m,λj U=>(A j (bH _) U).2,?_,?_,by rw[b9,aK f];exact aL _,FR.put z n (λ_ _=>rfl) _ xs 0 (λj U=>by rw[db];exact(A j (bH _) U).1) _⟩
      .refine z.put f (.refl _ _) rfl (λ_ _=>rfl) z.lt _ m xs 0 (λj U=>by rw[db];exact(A j (bH _) U).1) hex _ ?_
       have t:(pre++(xs++post)).length=s:=by simp[k]
       refine⟨bi,hM,h2,h3,by simpa using h4,L,.inr ⟨es,N,Z.set i (pre++(xs++post)),h7,D,?_,bl.set J t,?_,?_⟩⟩
       .rw [eO];exact fi.2 ((fi.1 h9).set q4)
       .rw [Dd J ew t];have K:=OY J ew;rw[q1]at K;have:=NZ (w:=w) (pre:=Z.flatten.take (i*s)++pre) (old:=old) (post:=post++Z.flatten.drop (i*s+s)) (xs:=xs) D (by rw[K]at F;simpa using F) q3
        have so:(Z.flatten.take (i*s)++pre).length=i*s+pre.length:=by
         have:i*s<=Z.flatten.length:=by rw[bl.len J,(fi.1 h9).len];exact eA _ (by omega)
         rw[dH,gi,nv this]
        rw[so]at this;simpa using this
       .exact G.put _ m xs 0 hex
      .exact ⟨.refl _ _,zg (λln=>AF z A (aL _) (by cases xs<;>simp_all)),λy v e I=>(by rw[I]at e;cases e),λ_ _ e l=>pT _ (w9 l) xs w 0 e⟩
  .cases S
 trivial
theorem avU(i:HR B X O w h){E:Env}{t:Nat}(k:∀ti,E.ty t=ab ti->iG P t ti){av I v:V}{a x:Value}{h':Heap}(e:ra E h t av I=ab (v,h'))(l:aq X av ag [a])(U:aq X I ag [x]):
  v=.undef/\Gv P B X O w h (Instr.storeAt t a x) h':=by
 unfold ra at e;cases Z:E.ty t with
 |none=>grind
 |some ti=>
  rw[Z]at e;have J:=k ti Z;split at e
  .rename_i b g p;obtain⟨c,e⟩:=aU e;cases d:lE h b g p I with
   |none=>grind
   |some h1=>
    rw[d]at e;simp at e;obtain⟨m,n⟩:=e;subst m;subst n;obtain⟨y,o,q⟩:=l;cases o;obtain⟨k1,_,r⟩:=nR c;have A:=U.cells r;obtain⟨H,X',O',s,u,z,C,D,F,G⟩:=T6 i d q A;subst s;have f:x.cells.toList.length=ti.size:=by rw[A.wd,k1]
    have:=au8 (P:=P) J c U u (w:=w) (λj K=>z j (by omega))
    exact⟨rfl,_,X',O',by trivial,C,D,F,G⟩
  trivial
end
theorem oF(x y:Int):ak x y=decide (x< y):=by
 cases x with
 |ofNat a=>cases y with
  |ofNat b=>show cQ a b=_;rw[Mp,MK];simp
  |negSucc b=>rfl
 |negSucc a=>cases y<;>first|rename_i b;show cQ b a=_;rw[Mp,decide_eq_true_iff,MK];omega|show ag=_;simp;omega
theorem gX(x y:Int):ai x y=decide (x<=y):=by
 unfold ai;rw[oF,Mp];simp
theorem An(a b:Nat):al a b=decide (a=b):=by
 rw[Mp,decide_eq_true_iff,Nat.beq_eq]
theorem pJ(x y:Int):aj x y=decide (x=y):=by
 cases x with
 |ofNat a=>cases y with
  |ofNat b=>show al a b=_;simp[An,Int.ofNat_inj.symm]
  |negSucc b=>rfl
 |negSucc a=>cases y with
  |ofNat b=>rfl
  |negSucc b=>show al a b=_;simp[An]
theorem umod_eq(n:Int)(m:Nat)(hm:0< m):(umod n m:Int)=n%m:=by
 cases n with
 |ofNat a=>rfl
 |negSucc a=>
  show((m-1-a%m:Nat):Int)=_;have:a%m< m:=Nat.mod_lt _ hm;rw[Int.negSucc_emod _ (by omega)]
  omega
theorem umod_lt(n:Int)(m:Nat)(hm:0< m):umod n m< m:=by
 have h1:=umod_eq n m hm;have h2:=Int.emod_lt_of_pos n (b:=m) (by omega)
 omega
theorem LB(h m:Nat)(n:Int)(hm:0< m):Ba h m n=if n%m>=h then n%m-m else n%m:=by
 have h1:=umod_eq n m hm;unfold Ba;cases A:cQ (umod n m) h with
 |true=>
  rw[MK]at A;grind
 |false=>
  have J:¬umod n m< h:=λI=>by rw[<-MK,A]at I;cases I
  grind
theorem n4(k:IntKind)(n:Int):wr k n=k.wrap n:=by
 cases k<;>simp[wr,IntKind.wrap,IntKind.bits,IntKind.signed,Bool.true_and]
 .rw [LB _ _ _ (by decide)];simp
 .rw [LB _ _ _ (by decide)];simp
 .rw [LB _ _ _ (by decide)];simp
 .rw [LB _ _ _ (by decide)];simp
 all_goals(show((umod n _):Int)=_;rw[umod_eq _ _ (by decide)];simp)
theorem Jh(k:IntKind):kb k=k.bits:=by cases k<;>rfl
theorem uA{a b:IntKind}(h:gu a b=ag):a=b:=by cases a<;>cases b<;>first|rfl|trivial
theorem qa(k:IntKind)(n:Int):dz k (wr k n):=by rw[n4];exact wrap_within k n
theorem L9(k:IntKind)(n:Int):word k n=(tf k.bits n).toNat:=by
 have h:=umod_eq n (2^kb k) (nx (by decide))
 grind[BitVec.toNat_ofInt,Jh,word]
theorem axF(k:IntKind)(n:Int):word k n< 2^kb k:=umod_lt _ _ (nx (by decide))
theorem Z6(k:IntKind):k.min<=0/\0<=k.max:=by cases k<;>decide
theorem av9{k:IntKind}{x y:Int}(A:dz k x):dz k (x.tmod y):=by
 have hm:=Z6 k;obtain⟨h1,h2⟩:=A;unfold dz;rcases qd x 0 with h|h
 .have Z:x.tmod y= -((-x).tmod y):=by simp
  have I:0<=(-x).tmod y:=ahL _ (by omega)
  have J:(-x).tmod y<= -x:=by
   have:=ahF (-x) y;have U:(-x).natAbs%y.natAbs<=(-x).natAbs:=aih _ _;omega
  omega
 .have I:0<=x.tmod y:=ahL _ h;have J:x.tmod y<=x:=by
   have:=ahF x y;have U:x.natAbs%y.natAbs<=x.natAbs:=aih _ _;omega
  omega
theorem alL{k:IntKind}{x:Int}(A:dz k x)(n:Nat):dz k (x.fdiv (aE (2^n))):=by
 have hm:=Z6 k;obtain⟨h1,h2⟩:=A;have hp:(0)< aE (2^n):=by exact Int.ofNat_lt.2 (nx (by decide))
 rw[Int.fdiv_eq_ediv_of_nonneg _ (by omega)]
 constructor
 .refine (Int.le_ediv_iff_mul_le hp).2 ?_;have:k.min*aE (2^n)<=k.min*1:=Int.mul_le_mul_of_nonpos_left (by omega) (by omega)
  omega
 .rcases qd x 0 with h|h
  .have:=Int.le_of_lt (Int.ediv_neg_of_neg_of_pos h hp);omega
  .have:=Int.ediv_le_self (aE (2^n)) h;omega
section
variable {P:Program} {w:World}
def nA(P:Program)(w:World)(m:Sem Value)(v:V):Prop:=∃d x,v=.im d/\m.run P w=.ok x w/\∀C,aR C d ag [x]
theorem anq{k:IntKind}{n:Int}{v:V}(e:im k n=ab v):v=.im (.int k n):=(hH e).symm
theorem ajR{b:Bool}{v:V}(e:bm b=ab v):v=.im (.bool b):=(hH e).symm
theorem nA.int{m:Sem Value}{k:IntKind}{n n':Int}{v:V}(e:im k n=ab v)(hm:m.run P w=.ok (.int k n') w)(A:n'=n)(hi:dz k n):nA P w m v:=
 ⟨_,_,anq e,hm,λC=>by simp_all[aR,trivial,hi]⟩
theorem nA.bool{m:Sem Value}{b b':Bool}{v:V}(e:bm b=ab v)(hm:m.run P w=.ok (.bool b') w)(A:b'=b):nA P w m v:=
 ⟨_,_,ajR e,hm,λC=>by grind[aR]⟩
theorem lM(op:BinOp)(t:TypeId)(k:IntKind)(a:Int)(A:IntKind)(b:Int)(h1:op≠.shl)(h2:op≠.shr):binOp op t (.int k a) (.int A b)=
  (if k≠A then stuck "BinOp: operands of different kinds" else
  match op with
  |.add|.sub|.mul=>Mx op k a b
  |.quo|.rem=>Vc op k a b
  |.and|.or|.xor|.andNot=>F7 op k a b
  |_=>yq op a b):=by cases op<;>first|rfl|exact absurd rfl h1|trivial
theorem Qj{op:BinOp}{k:IntKind}{a b:Int}{v:V}(e:intArith op k a b=ab v)(J:dz k a)(t:TypeId)(U:IntKind)(A:op=.shl∨op=.shr∨k=U):
  nA P w (binOp op t (.int k a) (.int U b)) v:=by
 cases op<;>simp only[intArith]at e;case add=>rcases A with h|h|rfl;cases h;cases h;exact .int e (by simp[lM,Mx]) (n4 _ _).symm (qa _ _)
 case sub=>rcases A with h|h|rfl;cases h;cases h;exact .int e (by simp[lM,Mx]) (n4 _ _).symm (qa _ _)
 case mul=>rcases A with h|h|rfl;cases h;cases h;exact .int e (by simp[lM,Mx]) (n4 _ _).symm (qa _ _)
 case quo=>
  rcases A with h|h|rfl;cases h;cases h;rw[pJ]at e;cases I:decide (b=0)<;>rw[I]at e
  .rw [decide_eq_false_iff_not]at I;exact .int e (by simp[lM,Vc,I]) (n4 _ _).symm (qa _ _)
  trivial
 case rem=>
  rcases A with h|h|rfl;cases h;cases h;rw[pJ]at e;cases I:decide (b=0)<;>rw[I]at e
  .rw [decide_eq_false_iff_not]at I;exact .int e (by simp[lM,Vc,I]) rfl (av9 J)
  trivial
 case and=>
  rcases A with h|h|rfl;cases h;cases h;refine .int e (n':=k.wrap (tf k.bits a&&&tf k.bits b).toNat) (by simp[lM,F7]) ?_ (qa _ _)
  simp[n4,L9,agZ]
 case or=>
  rcases A with h|h|rfl;cases h;cases h;refine .int e (n':=k.wrap (tf k.bits a|||tf k.bits b).toNat) (by simp[lM,F7]) ?_ (qa _ _)
  simp[n4,L9,BitVec.toNat_or]
 case xor=>
  rcases A with h|h|rfl;cases h;cases h;refine .int e (n':=k.wrap (tf k.bits a^^^tf k.bits b).toNat) (by simp[lM,F7]) ?_ (qa _ _)
  simp[n4,L9,BitVec.toNat_xor]
 case andNot=>
  rcases A with h|h|rfl;cases h;cases h;refine .int e (n':=k.wrap (tf k.bits a&&& ~~~tf k.bits b).toNat) (by simp[lM,F7]) ?_ (qa _ _)
  simp[n4,L9,agZ,BitVec.toNat_not,Jh]
 case eql=>rcases A with h|h|rfl;cases h;cases h;exact .bool e (by simp[lM,yq];rfl) (by grind[pJ])
 case neq=>rcases A with h|h|rfl;cases h;cases h;exact .bool e (by simp[lM,yq];rfl) (by grind[pJ])
 case lss=>rcases A with h|h|rfl;cases h;cases h;exact .bool e (by simp[lM,yq];rfl) (by rw[oF])
 case leq=>rcases A with h|h|rfl;cases h;cases h;exact .bool e (by simp[lM,yq];rfl) (by rw[gX])
 case gtr=>rcases A with h|h|rfl;cases h;cases h;exact .bool e (by simp[lM,yq];rfl) (by rw[oF])
 case geq=>rcases A with h|h|rfl;cases h;cases h;exact .bool e (by simp[lM,yq];rfl) (by rw[gX])
 case shl=>
  rw[oF]at e;cases I:decide (b< 0)<;>rw[I]at e
  .rw [decide_eq_false_iff_not]at I;refine .int e (n':=k.wrap (a*2^(min b.toNat k.bits))) (by simp[binOp,Op.shift,I]) ?_ (qa _ _)
   simp[n4,Jh,aif]
  trivial
 case shr=>
  rw[oF]at e;cases I:decide (b< 0)<;>rw[I]at e
  .rw [decide_eq_false_iff_not]at I;refine .int e (n':=a.fdiv (2^(min b.toNat k.bits))) (by simp[binOp,Op.shift,I]) ?_ (alL J _)
   simp[Jh,aif]
  trivial
theorem anD{op:BinOp}{k A:IntKind}{a b:Int}{v:V}(e:DJ op k a A b=ab v)(I:dz k a)(t:TypeId):nA P w (binOp op t (.int k a) (.int A b)) v:=by
 unfold DJ at e;split at e
 .exact Qj e I t A (.inl rfl)
 .exact Qj e I t A (.inr (.inl rfl))
 .cases J:gu k A<;>rw[J]at e
  .cases e
  .exact Qj e I t A (.inr (.inr (uA J)))
theorem awn{op:UnOp}{X:Cx}{x:V}{v:V}(e:Bo op x=ab v){A:Value}(r:aq X x ag [A]):nA P w (Op.unary op A) v:=by
 unfold Bo at e;split at e
 .cases r;exact .bool e rfl rfl
 .obtain ⟨r,_⟩:=r;cases r;rename_i k n I;exact .int e (n':=k.wrap (0-n)) (by rfl) (n4 _ _).symm (qa _ _)
 trivial
end
structure EnvTy(P:Program)(E:Env):Prop where
 ty:∀t ti,E.ty t=ab ti->iG P t ti
 depth:12< P.depth
section
variable {P:Program} {w:World} {E:Env}
theorem iG.sizeOf{t:Nat}{ti:TI}(h:iG P t ti):P.cellsOf t=ti.size:=by
 obtain⟨i,h1,h2,_⟩:=h.info;simp[Program.cellsOf,h1,h2]
theorem TD{t:Nat}{ti:TI}(I:iG P t ti){X:Cx}{v:V}(U:cA ti v=ag){cs:Array Value}{pre ws post:List Value}(Z:cs.toList=pre++(ws++post))(h:aq X v af ws){o:Nat}(J:pre.length=o):
  ∃x,(part t cs o).run P w=.ok x w/\aq X v ag [x]:=by
 obtain⟨h1,h2,a⟩:=nR U;have c:=h.wd;subst J;cases A:v.isAgg with
 |true=>
  refine⟨.agg ws.toArray,?_,(aq.Co A).2 ⟨ws.toArray,rfl,by omega⟩⟩
  have hex:cs.extract pre.length (pre.length+ti.size)=ws.toArray:=by
   apply Array.toList_inj.1;simp_all
  simp only[part,kg,Ln I,<-h2,A,tj,if_true,run_sizeOf I,hex];simp
 |false=>
  obtain⟨x,e,J,r⟩:=h.one a A;subst e;refine⟨x,?_,r ag⟩;have b:cs[pre.length]? =ab x:=by
   rw[<-Array.getElem?_toList,Z];simp
  simp only[part,kg,Ln I,<-h2,A,b];simp
theorem Yj(U:EnvTy P E):∀{n t:Nat},tX E n t=ag->∀{d:Nat},n<=d->P.eqGuardType d t=af
 |0,_,h,_,_=>by trivial
 |n+1,t,h,0,a=>by omega
 |n+1,t,h,d+1,a=>by
  unfold tX at h;cases Z:E.ty t with
  |none=>grind
  |some ti=>
   rw[Z]at h;have A:=(U.ty t ti Z).kind;simp at h;split at h
   .rename_i e;simp_all[e,gV,Ve,A]
   .rename_i e;simp_all[e,gV,Ve,A]
   .rename_i fs e;rw[e]at A;obtain⟨I,b,hf,_⟩:=A;simp only[Ve,b];rw[<-hf]at h;rw[List.all_eq_true]at h;rw[<-Array.any_toList,List.any_eq_false];intro f J;have:=h _ (List.mem_map.2 ⟨f,J,rfl⟩);simp[Yj U this (by omega:n<=d)]
   trivial
theorem alz{n t:Nat}{x y:D}{b:Bool}(h:hZ E n t x y=ab b):∃ti,E.ty t=ab ti/\cA ti (.im x)=ag/\cA ti (.im y)=ag:=by
 cases n with
 |zero=>trivial
 |succ n=>
  unfold hZ at h;cases A:E.ty t with
  |none=>grind
  |some ti=>
   grind
theorem Yi(F:EnvTy P E){C:IV}{n d:Nat}(A:∀{t:Nat} {x y:D} {b:Bool},hZ E n t x y=some b→∀{U Z:Value},aR C x true [U]→aR C y true [Z]→(Op.equalIn d t U Z).run P w=.ok b w){a c:Array Value}:∀(fl:List Field) {o:Nat} {xs e:List D} {b:Bool},(∀f∈fl,f.name≠ "_")→
  hZ.se (fl.map λf=>(f.offset,P.cellsOf f.type,f.type)) o xs e (hZ E n)=ab b->∀{pre pre':List Value} {i j:List (List Value)},
  a.toList=pre++i.flatten->c.toList=pre'++j.flatten->pre.length=o->pre'.length=o->bI C xs af i->bI C e af j->(ahl d a c fl).run P w=.ok b w
 |[],_,[],[],_,_,h,_,_,_,_,_,_,_,_,_,_=>by cases h;rfl
 |[],_,_::_,_,_,_,h,_,_,_,_,_,_,_,_,_,_=>by simp[hZ.se]at h
 |[],_,[],_::_,_,_,h,_,_,_,_,_,_,_,_,_,_=>by trivial
 |f::fl,_,[],_,_,_,h,_,_,_,_,_,_,_,_,_,_=>by trivial
 |f::fl,_,_::_,[],_,_,h,_,_,_,_,_,_,_,_,_,_=>by simp[hZ.se]at h
 |f::fl,o,x::xs,y::e,b,G,h,pre,pre',i,j,H,K,e1,e2,L,M=>by
  simp only[List.map_cons,hZ.se]at h;obtain⟨N,h⟩:=aU h;have N:=dU N;split at h
  .rename_i Y b2 I k;cases h;simp only[bI]at L M;obtain⟨l,m,q1,rx1,p⟩:=L;obtain⟨q,r,q2,ry1,s⟩:=M;subst q1;subst q2;obtain⟨ti,ht,k1,k2⟩:=alz I;have J:=F.ty _ _ ht;have Q:aq ⟨C,λ_=>ae,λ_=>ae⟩ (.im x) af l:=by trivial
   have S:aq ⟨C,λ_=>ae,λ_=>ae⟩ (.im y) af q:=by trivial
   obtain⟨U,p1,T⟩:=TD (w:=w) J k1 (cs:=a) (pre:=pre) (ws:=l) (post:=m.flatten) (by rw[H];simp) Q (o:=f.offset) (by omega)
   obtain⟨Z,p3,W⟩:=TD (w:=w) J k2 (cs:=c) (pre:=pre') (ws:=q) (post:=r.flatten) (by rw[K];simp) S (o:=f.offset) (by omega)
   simp only[aq]at T W;have p5:=A I T W;have u:=Q.wd;have v:=S.wd;have hwo:x.wd=y.wd:=by
    have a1:=(nR k1).1;have a2:=(nR k2).1;grind[V.wd]
   simp only[V.wd]at u v;have p6:=Yi F A fl (λg hg=>G g (by simp[hg])) k (pre:=pre++l) (by rw[H];simp) (pre':=pre'++q) (by rw[K];simp) (by simp;omega) (by simp;omega) p s
   have z:f.name≠ "_" :=G f (by simp)
   simp only[ahl,z,ne_eq,not_false_eq_true,if_true,kg,p1,p3,p5,tj];cases Y
   .simp
   .simp [p6]
  .cases h
theorem Ym(a:EnvTy P E){C:IV}:∀{n t:Nat} {x y:D} {b:Bool},hZ E n t x y=ab b->∀{d:Nat},n<=d->∀{c g:Value},aR C x ag [c]->aR C y ag [g]->
  (Op.equalIn d t c g).run P w=.ok b w
 |0,_,_,_,_,h,_,_,_,_,_,_=>by trivial
 |n+1,t,x,y,b,h,0,j,_,_,_,_=>by omega
 |n+1,t,x,y,b,h,d+1,j,c,g,I,J=>by
  unfold hZ at h;cases k:E.ty t with
  |none=>grind
  |some ti=>
   rw[k]at h;replace h:=aU h;obtain⟨m,h⟩:=h;have i:=a.ty t ti k;have U:=i.kind;split at h
   .rename_i e;simp_all[e,gV,aR,run_equalIn_bool',U]
   .rename_i e;rw[e]at U;obtain⟨I,_⟩:=I;obtain⟨J,_⟩:=J;cases I;cases J;obtain⟨o,h⟩:=aU h;cases h;rw[<-uA o,pJ];exact run_equalIn_int _ _ _ _ _ _ _ U
   .rename_i fs r xs s u e;rw[e]at U;obtain⟨A,l,hf,p,hp⟩:=U;have Z:P.fieldsOf t=A:=by simp[Program.fieldsOf,l]
    obtain⟨v,z,ex,F,I,_⟩:=I;obtain⟨G,H,q,K,J,_⟩:=J;cases ex;cases q;rw[run_equalIn_struct _ _ _ _ _ (by simp[Z,l]) hp,Z]
    rw[<-hf]at h;refine Yi a (λh=>Ym a h (Nat.le_of_succ_le_succ j)) A.toList (λf hf=>(p f hf).1) h (pre:=[]) (by trivial) (pre':=[]) (by trivial) rfl rfl I J
   trivial
end
end
end Go.As
end
