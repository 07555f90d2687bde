/- A part of the proof. -/
import Derived.RangeFuncIn
import Derived.Below
import Derived.OrdersIn
import Derived.RangeFuncLeaves
import Derived.RangeFuncOwn
import Derived.RangeFuncNested
import Derived.Lib.FrozenHead
import Derived.WalkKit
import Derived.Laws.Closers25b
import Derived.Laws.StructEq
import Derived.ChangeKeysEq
set_option linter.all false
open BitVec renaming ofInt->tg,toNat_and->aia
open Bool renaming and_eq_true->aK,eq_iff_iff->OX,false->Y,rec->kh,true->N
open Go.Addr renaming add->yI
open Go.Instr renaming alloc->aio,box->aip
open Go.IntKind renaming rec->Xr
open Go.Obj renaming isCells->yP
open Go.Op renaming eqFields->aiw,intArith->O7,intBits->HC,intCmp->yQ,intDiv->Xu
open Go.Program renaming eqGuardType->Xw
open Go.Region renaming binds->vL
open Go.Result renaming andThen_ok->tm
open Go.Sem renaming run_bind->kj
open Go.Value renaming oneCell'->rm
open Go.World renaming block_lt_of_cell?->yR,cell?_setCell_other->Xx
open Int renaming lt_or_le->m8,natAbs_tmod->aiQ,ofNat->aB,rec->yU,tmod_nonneg->HM
open List renaming flatten_cons->oZ,getElem?_append_left->fQ,getElem?_append_right->jJ,getElem?_eq_some_iff->cH,getElem?_take->jK,length_append->b8,length_cons->lJ,length_take->ee,mem_append->b7,mem_cons->dM,mem_of_getElem?->cY,rec->a9,replicate->bR
open Nat renaming add_mul->nc,beq->ah,ble->br,blt->cM,blt_eq->Pp,div->nf,eq_of_beq_eq_true->bQ,le_of_lt->dj,le_refl->aH,le_trans->bY,lor->vX,lt_of_lt_of_le->fx,min_def->ajv,min_eq_left->ng,mod_le->ajw,mul_le_mul_right->ew,one_mul->XU,pow_pos->nh,rec->fW,zero_add->dk,zero_le->bN
open Option renaming bind_some->aN,map_some->jN,none->U,rec->eO,some->I
open Option.some renaming inj->gk,injEq->iW
open UInt8 renaming toNat->ajW
noncomputable section
theorem J{p:Prop}(h:p:=by omega):p:=h
theorem zD{p:Prop}(h:p:=by dsimp only;omega):p:=h
theorem zG{p:Prop}(h:p:=by grind):p:=h
theorem zT{p:Prop}(h:p:=by trivial):p:=h
theorem zC{p:Prop}(h:p:=by decide):p:=h
theorem zS{p:Prop}(h:p:=by simp):p:=h
theorem zP{p:Prop}(h:p:=by simp;omega):p:=h
theorem zU{p:Prop}(h:p:=by simp_all):p:=h
def zI{p:Prop}(h:p:=by dsimp only at*;omega):p:=h
namespace Go.As
theorem ai{α}{a b:α}:cond true a b=a:=rfl
theorem al{α}{a b:α}:cond false a b=b:=rfl
theorem ay{c:Prop}{_:Decidable c}(h:c){α:Sort _}{t e:α}:ite c t e=t:=if_pos h
theorem aj{c:Prop}{_:Decidable c}(h:¬c){α:Sort _}{a e:α}:ite c a e=e:=if_neg h
section
inductive D where
 |bool (b:Bool)
 |int (k:IntKind)(n:Int)
 |str (s:List Nat)
 |nil
 |ref (d:D)
 |aw (l:List D)
 |agg (w:Nat)(l:List D)
 |aI (l:List D)
 |fn (f:Nat)
 |dP
 |ifc (t:Nat)(d:D)
 |ez
 |mI
 deriving Inhabited
def D.wd:D->Nat|.agg w _=>w|_=>1
inductive V where
 |undef
 |im (d:D)
 |agg (w:Nat)(l:List V)
 |aI (l:List V)
 |own (b g off len:Nat)(aL:Bool)
 |full (l:List D)
 |ptr (b g:Nat)(p:List (Nat×Nat))
 |fn (f:Nat)(first captured:List V)
 |ifc (t:Nat)(v:V)
 |mp (b:Nat)
 |jr (i:Nat)
 deriving Inhabited
def V.wd:V->Nat|.im a=>a.wd|.agg w _=>w|_=>1
inductive Tm where
 |e
 |n (v:V)(l r:Tm)
 deriving Inhabited
inductive dn where
 |cell (v:V)
 |arr (g s ro:Nat)(l:List D)
 |mp (es:List (D×V))
 |cG (g s:Nat)(l:List V)
 |lp (f:Nat)(t:Tm)(ps:List Nat)(rV body:Code)
 deriving Inhabited
abbrev Heap:=List (Option dn)
def Tm.get(b:Tm):Nat->V:=Tm.rec (λ_=>V.undef) (λv _ _ a gr i=>kh (kh (gr (Nat.sub (nf i 2) 1)) (a (nf i 2)) (ah (Nat.mod i 2) 1)) v (ah i 0)) b
def Tm.set(d:Tm):Nat->V->Tm:=Tm.rec (λ_ _=>Tm.e) (λv l a b c i x=>kh (kh (Tm.n v l (c (Nat.sub (nf i 2) 1) x)) (Tm.n v (b (nf i 2) x) a) (ah (Nat.mod i 2) 1)) (Tm.n x l a) (ah i 0)) d
def Tm.mk(b:Nat):Tm:=fW Tm.e (λ_ a=>Tm.n .undef a a) b
structure Rec where
 f:Nat
 t:Tm
 ps:List Nat
 rV:Code
 body:Code
 sta:Nat
 aAJ:Option Code
 deriving Inhabited
structure St where
 t:Tm
 h:Heap
 lp:List Rec
 df:List (Nat×List V)
 deriving Inhabited
inductive TK where
 |bool|int (k:IntKind)|str|ptr|aw (e:Nat)|arr (n e:Nat)|st (fs:List (Nat×Nat×Nat))|fn|ifc (named:Bool)|map (k e:Nat)|oth
 deriving Inhabited
structure TI where
 k:TK
 size:Nat
 bytes:Nat
 zero:V
 deriving Inhabited
inductive Tb(α:Type)where
 |e
 |n (k:Nat)(v:α)(l r:Tb α)
def Tb.find{α:Type}(t:Tb α)(i:Nat):Option α:=Tb.rec U (λa v _ _ b c=>bif ah i a then I v else bif cM i a then b else c) t
structure Env where
 ty:Nat->Option TI
 fn:Nat->Option Func
 sm:Nat->Option (List D->Option D)
 clone:Nat->Option Nat
 ext:Nat->Nat
 inl:Nat->Bool
 keep:Nat->Bool
 dr:Nat->Nat->Option (List (Nat×List Nat))
 Ey:Nat->Nat->Option (Nat×Nat)
inductive Ex where
 |nm|exit (id:Nat)|ret
 deriving Inhabited,DecidableEq
def bE{α:Type}(l:List α):Nat->Option α:=a9 (λ_=>U) (λa _ G i=>match i with|0=>I a|b+1=>G b) l
def bn{α:Type}(l:List α):Nat->α->List α:=a9 (λ_ _=>[]) (λa c G i x=>match i with|0=>x::c|b+1=>a::G b x) l
def aE(l:Heap):Nat->dn->Heap:=a9 (λ_ x=>[I x]) (λa c G i x=>match i with|0=>I x::c|b+1=>a::G b x) l
def ao(h:Heap)(b:Nat):Option dn:=eO U (λx=>x) (bE h b)
def aC{α:Type}(l:List α):Nat:=a9 0 (λ_ _ a=>a+1) l
def iO(l:List V):Nat->Nat:=a9 (λ_=>0) (λv _ G i=>match i with|0=>0|a+1=>v.wd+G a) l
def Hv(l:List D):Nat->Nat:=a9 (λ_=>0) (λv _ G i=>match i with|0=>0|a+1=>v.wd+G a) l
def mE(l:List D):List V:=a9 [] (λa _ G=>V.im a::G) l
def ga(l:List V):Option (List D):=a9 (I []) (λv _ G=>match v with|.im a=>eO U (λb=>I (a::b)) G|_=>U) l
def fK(w:Nat)(l:List V):V:=eO (V.agg w l) (λa=>V.im (.agg w a)) (ga l)
def mH(l:List V):V:=eO (V.aI l) (λa=>V.im (.aI a)) (ga l)
def V.kids:V->Option (List V)|.im (.agg _ l)=>I (mE l)|.agg _ l=>I l|_=>U
def V.part(v:V)(i:Nat):Option V:=match v with|.im (.aI l)=>(bE l i).map .im|.aI l=>bE l i|_=>U
def V.eA(v:V)(a b:Nat):Option V:=match v with|.im (.agg _ l)=>bif ah (Hv l a) b then(bE l a).map .im else U|.agg _ l=>bif ah (iO l a) b then bE l a else U|_=>U
def V.e5(v:V)(p:List (Nat×Nat)):Option V:=a9 (λv=>I v) (λa _ G v=>(V.eA v a.1 a.2).bind G) p v
def V.put(x:V)(p:List (Nat×Nat))(v:V):Option V:=a9 (λv=>bif ah x.wd v.wd then I x else U) (λa _ G v=>v.kids.bind λl=>bif ah (iO l a.1) a.2 then(bE l a.1).bind λb=>(G b).map λc=>fK v.wd (bn l a.1 c)else U) p v
def ic{α:Type}(l:List α)(a len:Nat):List α:=bif ah a 0&&ah len (aC l)then l else(l.drop a).take len
def fB{α:Type}(a b c len:Nat)(l:List α):Bool:=ah a b&&br (c+len) (aC l)
mutual
def V.cO(o:Nat->Nat->Nat->Nat->Option (List D)):V->Option D|.im b=>I b|.full l=>I (.aw l)|.own a d e len _=>(o a d e len).map .aw|.agg w l=>(V.eg o l).map (.agg w)|.aI l=>(V.eg o l).map .aI|.fn c [] []=>I (.fn c)|_=>U
def V.eg(a:Nat->Nat->Nat->Nat->Option (List D)):List V->Option (List D)|[]=>I []|v::l=>match v.cO a,V.eg a l with|some b,I c=>I (b::c)|_,_=>U
end
def gL(h:Heap)(b c a len:Nat):Option (List D):=match ao h b with|some (.arr d _ _ l)=>bif fB c d a len l then I (ic l a len)else U|_=>U
def V.data(h:Heap)(v:V):Option D:=match v with|.im b=>I b|.own a c d len _=>(gL h a c d len).map .aw|v=>v.cO (gL h)
mutual
def V.fc:V->List Nat|.own a _ _ _ _=>[a]|.agg _ l=>V.eP l|.aI l=>V.eP l|.ifc _ v=>v.fc|_=>[]
def V.eP:List V->List Nat|[]=>[]|v::l=>v.fc++V.eP l
end
def V.owns(v:V):List Nat:=match v with|.im _=>[]|.own a _ _ _ _=>[a]|v=>v.fc
def V.nN(l:List V):List Nat:=a9 [] (λv _ G=>match v with|.im _=>G|v=>v.owns++G) l
def fS(h:Heap)(b:List Nat):Bool:=a9 N (λa _ G=>match ao h a with|some (.arr ..)=>G|_=>Y) b
def close(h:Heap)(b:List Nat):Heap:=a9 (λh=>h) (λa _ G h=>match ao h a with|some (.arr c d _ l)=>G (aE h a (.arr c d (aC l) l))|_=>G h) b h
mutual
def D.flat:D->Bool|.bool _|.int _ _|.str _|.nil|.fn _|.dP|.ez|.mI=>N|.agg _ l=>D.mA l|.aI l=>D.mA l|.ifc _ a=>a.flat|.ref _|.aw _=>Y
def D.mA:List D->Bool|[]=>N|a::l=>a.flat&&D.mA l
end
mutual
def V.l5:V->List Nat|.undef|.im _|.full _=>[]|.agg _ l|.aI l=>V.oI l|.own b _ _ _ _=>[b]|.ptr b _ _=>[b]|.fn _ a c=>V.oI a++V.oI c|.ifc _ v=>v.l5|.mp b=>[b]|.jr b=>[b]
def V.oI:List V->List Nat|[]=>[]|v::l=>v.l5++V.oI l
end
def V.refs(v:V):List Nat:=match v with|.undef|.im _|.full _=>[]|.own a _ _ _ _=>[a]|.ptr a _ _=>[a]|v=>v.l5
def Tm.refs(c:Tm):List Nat:=Tm.rec [] (λv _ _ a b=>V.refs v++(a++b)) c
def fi(l:List V):List Nat:=a9 [] (λv _ G=>match V.refs v with|[]=>G|a=>a++G) l
def afY(l:List (D×V)):List Nat:=a9 [] (λe _ G=>match V.refs e.2 with|[]=>G|a=>a++G) l
def uI(h:Heap):List Nat:=a9 [] (λa _ G=>match a with|some (.cell v)=>V.refs v++G|some (.mp b)=>afY b++G|some (.cG _ _ l)=>fi l++G|some (.lp _ c _ _ _)=>Tm.refs c++G|_=>G) h
def a6(l:List Nat)(b:Nat):Bool:=a9 Y (λa _ G=>bif ah a b then N else G) l
def ib(c:Nat)(l:List Nat):List Nat->List Nat:=a9 (λa=>a) (λb _ G a=>G (bif cM b c then a else bif a6 a b then a else a++[b])) l
def l1(h:Heap)(d e:Nat):List Nat->List Nat:=fW (λa=>a) (λ_ G a=>match ib d (uI (a.map λc=>ao h c)) a with|b=>bif ah (aC b) (aC a)then a else G b) e
def aAC(l:List Nat)(b:Nat):Option Nat:=a9 U (λa _ G=>bif ah a b then I 0 else G.map (·+1)) l
def u4:Value->Option V|.bool a=>I (.im (.bool a))|.int b c=>I (.im (.int b c))|.string d=>I (.im (.str (d.data.toList.map ajW)))|.slice U 0 0=>I (.full [])|.nilIface=>I (.im .ez)|_=>U
def ev(t:Tm):Operand->V|.tmp b=>t.get b|.const v=>eO V.undef (λx=>x) (u4 v)|.func a=>.fn a [] []|.global _=>.undef
def dA(b:Tm)(l:Array Operand):List V:=a9 [] (λa _ G=>ev b a::G) l.toList
def ag(x y:Int):Bool:=yU (λa=>yU (λb=>cM a b) (λ_=>Y) y) (λa=>yU (λ_=>N) (λb=>cM b a) y) x
def ad(a b:Int):Bool:=not (ag b a)
def af(x y:Int):Bool:=yU (λa=>yU (λb=>ah a b) (λ_=>Y) y) (λa=>yU (λ_=>Y) (λb=>ah a b) y) x
def umod(b:Int)(m:Nat):Nat:=yU (λa=>a%m) (λa=>m-1-a%m) b
def B9(h m:Nat)(a:Int):Int:=bif cM (umod a m) h then aB (umod a m)else aB (umod a m)-aB m
def wr(b:IntKind)(a:Int):Int:=Xr (B9 128 256 a) (B9 32768 65536 a) (B9 2147483648 4294967296 a) (B9 9223372036854775808 18446744073709551616 a) (aB (umod a 256)) (aB (umod a 65536)) (aB (umod a 4294967296)) (aB (umod a 18446744073709551616)) b
def kb(a:IntKind):Nat:=Xr 8 16 32 64 8 16 32 64 a
def gw(a b:IntKind):Bool:=ah (kn a) (kn b)where kn (c:IntKind):Nat:=Xr 0 1 2 3 4 5 6 7 c
def word(a:IntKind)(n:Int):Nat:=umod n (2^kb a)
def im(k:IntKind)(a:Int):Option V:=I (.im (.int k a))
def bm(a:Bool):Option V:=I (.im (.bool a))
def intArith(op:BinOp)(a:IntKind)(x y:Int):Option V:=match op with|.add=>im a (wr a (x+y))|.sub=>im a (wr a (x-y))|.mul=>im a (wr a (x*y))|.quo=>bif af y 0 then U else im a (wr a (x.tdiv y))|.rem=>bif af y 0 then U else im a (x.tmod y)|.and=>im a (wr a (aB (Nat.land (word a x) (word a y))))|.or=>im a (wr a (aB (vX (word a x) (word a y))))|.xor=>im a (wr a (aB (Nat.xor (word a x) (word a y))))|.andNot=>im a (wr a (aB (Nat.land (word a x) (2^kb a-1-word a y))))|.eql=>bm (af x y)|.neq=>bm (not (af x y))|.lss=>bm (ag x y)|.leq=>bm (ad x y)|.gtr=>bm (ag y x)|.geq=>bm (ad y x)|.shl=>bif ag y 0 then U else im a (wr a (x*aB (2^Nat.min y.toNat (kb a))))|.shr=>bif ag y 0 then U else im a (x.fdiv (aB (2^Nat.min y.toNat (kb a))))
def iw(a:TK)(v:V):Bool:=match v with|.im b=>Lx a b|.agg _ _=>kG a|.aI _|.undef=>Y|_=>not (kG a)where kG (a:TK):Bool:=match a with|.st _|.arr _ _=>N|_=>Y;Lx (a:TK)(b:D):Bool:=match b with|.agg _ _=>kG a|.aI _=>Y|_=>not (kG a)
def cz(a:TI)(v:V):Bool:=ah v.wd a.size&&iw a.k v
def hS(E:Env):Nat->Nat->D->D->Option Bool|0,_,_,_=>U|n+1,d,x,y=>(E.ty d).bind λe=>bif cz e (.im x)&&cz e (.im y)then(match e.k,x,y with|.bool,.bool a,.bool b=>I (a==b)|.int _,.int k a,.int l b=>bif gw k l then I (af a b)else U|.st c,.agg _ f,.agg _ g=>sg c 0 f g (hS E n)|_,_,_=>U)else U where sg:List (Nat×Nat×Nat)->Nat->List D->List D->(Nat->D->D->Option Bool)->Option Bool|[],_,[],[],_=>I N|(m,_,d)::c,i,x::f,y::g,h=>bif ah m i then(match h d x y,sg c (i+x.wd) f g h with|some b,I j=>I (b&&j)|_,_=>U)else U|_,_,_,_,_=>U
def qA(a:TK)(x:V):Option Bool:=match a,x with|.ifc _,.im .ez=>I N|.ifc _,.im (.ifc _ _)=>I Y|_,_=>U
def ou:V->Bool|.im .ez=>N|_=>Y
def ahA(a:TK)(b:Bool):Bool:=match a with|.ifc N=>b|_=>N
def uo(E:Env):Nat->Nat->Bool|0,_=>Y|n+1,c=>match E.ty c with|none=>Y|some d=>match d.k with|.bool|.int _=>N|.st b=>b.all λa=>uo E n a.2.2|_=>Y
def oi(E:Env)(c:Nat)(e:Bool)(x y:V):Option Bool:=bif ou x||ou y then(E.ty c).bind λd=>(qA d.k x).bind λa=>(qA d.k y).bind λb=>bif a&&b then(bif ahA d.k e then I N else U)else I Y else match x,y with|.im a,.im b=>bif uo E 12 c then hS E 12 c a b else U|_,_=>U
def oh(E:Env)(op:BinOp)(c:Nat)(b:Bool)(x y:V):Option V:=match op with|.eql=>(oi E c b x y).map λa=>.im (.bool a)|.neq=>(oi E c b x y).map λa=>.im (.bool (not a))|_=>U
def isConst:Operand->Bool|.const _=>N|_=>Y
def E6(op:BinOp)(b:IntKind)(a:Int)(d:IntKind)(c:Int):Option V:=match op with|.shl=>intArith .shl b a c|.shr=>intArith .shr b a c|op=>bif gw b d then intArith op b a c else U
def jU(E:Env)(op:BinOp)(f:Nat)(e:Bool)(x y:V):Option V:=match x with|.im (.int c a)=>(match y with|.im (.int d b)=>E6 op c a d b|_=>U)|x=>oh E op f e x y
def Ct(op:UnOp)(x:V):Option V:=match op,x with|.not,.im (.bool b)=>bm (not b)|.neg,.im (.int a c)=>im a (wr a (0-c))|_,_=>U
def als(a:Nat):D:=.int .u8 (aB a)
def Env.kind(E:Env)(a:Nat):Option TK:=(E.ty a).map TI.k
def se(E:Env)(h:Heap)(e:Nat)(d b:Nat)(x:V):Option (V×Heap):=match E.kind d,E.kind b,x with|some (.int _),I (.int a),.im (.int _ c)=>I (.im (.int a (wr a c)),h)|_,_,_=>U
def bound(c:Nat)(x:Option V)(b:Nat):Option Nat:=match x with|none=>I b|some (.im (.int _ a))=>bif ad 0 a&&ad a (aB c)then I a.toNat else U|_=>U
def bounds(len:Nat)(d a c:Option V):Option (Nat×Nat×Nat):=(bound len c len).bind λm=>(match a,c with|none,I _=>U|_,_=>bound m a len).bind λb=>(bound b d 0).map λi=>(i,b,m)
def cut{α:Type}(l:List α)(i a:Nat):List α:=(l.drop i).take (a-i)
def sZ(b c e len:Nat)(aL:Bool)(g f d:Option V):Option V:=(bounds len g f d).bind λa=>eO (I (.own b c (e+a.1) (a.2.1-a.1) (aL&&ah a.2.1 len))) (λ_=>bif ah a.2.1 a.2.2 then I (.own b c (e+a.1) (a.2.1-a.1) N)else U) d
def isNone(l:List D):Bool:=match l with|[]=>N|_::_=>Y
def SW(l:List V):Bool:=match l with|[]=>N|_::_=>Y
def i0(b:Nat)(l:List D):Bool:=match l with|[]=>N|a::_=>ah a.wd b
def vx(h:Heap)(e:Nat)(x:V)(d c b:Option V):Option V:=match x with|.im (.aw l)=>bif i0 e l then(bounds (aC l) d c b).bind λa=>eO (I (.im (.aw (cut l a.1 a.2.1)))) (λ_=>bif ah a.2.1 a.2.2 then I (.full (cut l a.1 a.2.1))else U) b else U|.full l=>bif i0 e l then(bounds (aC l) d c b).map λa=>bif ah a.2.1 a.2.2 then .full (cut l a.1 a.2.1)else .im (.aw (cut l a.1 a.2.1))else U|.own a f g len aL=>(match ao h a with|some (.arr i j _ l)=>bif fB f i g len l&&(ah j e||isNone l)then sZ a f g len aL d c b else U|_=>U)|_=>U
def VY(m e:Nat)(x:V)(c b d:Option V):Option V:=match x,c,b,d with|.im (.ref (.agg _ l)),U,U,U=>bif ah (aC l) m&&(br m 16777216&&l.all λa=>ah a.wd e)then I (.full l)else U|_,_,_,_=>U
def yk(E:Env)(f:Nat)(h:Heap)(x:V)(d c e:Option V):Option V:=(E.ty f).bind λg=>match g.k with|.arr m a=>(E.ty a).bind λb=>VY m b.size x d c e|.aw a=>(E.ty a).bind λb=>vx h b.size x d c e|_=>U
def eX(h:Heap)(e a:Nat)(p:List (Nat×Nat)):Option V:=match ao h e with|some (.cell v)=>bif ah a 0 then v.e5 p else U|some (.arr b d _ l)=>(match p with|(i,c)::q=>bif ah a b&&ah c (i*d)then(bE l i).bind λf=>(V.im f).e5 q else U|[]=>U)|some (.cG b d l)=>(match p with|(i,c)::q=>bif ah a b&&ah c (i*d)then(bE l i).bind λv=>v.e5 q else U|[]=>U)|_=>U
def lE(h:Heap)(a e:Nat)(p:List (Nat×Nat))(x:V):Option Heap:=match ao h a with|some (.cell v)=>bif ah e 0 then(V.put x p v).map λd=>aE h a (.cell d)else U|some (.arr b c g l)=>(match p with|(i,f)::q=>bif ah e b&&(ah f (i*c)&&br g i)then(bE l i).bind λj=>(x.data h).bind λm=>(V.put (.im m) q (.im j)).bind λd=>match d with|.im k=>bif fS h x.owns&&not (a6 x.owns a)then I (aE (close h x.owns) a (.arr b c g (bn l i k)))else U|_=>U else U|[]=>U)|some (.cG b c l)=>(match p with|(i,f)::q=>bif ah e b&&ah f (i*c)then(bE l i).bind λv=>(V.put x q v).map λd=>aE h a (.cG b c (bn l i d))else U|[]=>U)|_=>U
def ja(v:V):Bool:=match v with|.undef|.aI _|.im (.aI _)=>Y|_=>N
def mz(kids:List V)(c:Nat->Option (Nat×Nat))(ps:List (Nat×V)):Option (List V):=a9 (λl=>I l) (λp _ G l=>(c p.1).bind λa=>(bE l p.1).bind λb=>bif ah (iO l p.1) a.1&&(ah b.wd a.2&&(ah p.2.wd a.2&&ja p.2))then G (bn l p.1 p.2)else U) ps kids
def jY(h:Heap)(b:Nat)(l:List D)(ps:List (Nat×V)):Option (List D):=a9 (λl=>I l) (λp _ G l=>(p.2.data h).bind λa=>(bE l p.1).bind λ_=>bif ah a.wd b&&ja p.2 then G (bn l p.1 a)else U) ps l
def jg(ps:List (Nat×V)):List Nat:=a9 [] (λp _ G=>match V.owns p.2 with|[]=>G|a=>a++G) ps
abbrev R:=Option (V×Heap)
def lY(h:Heap)(x:Option V):R:=eO U (λv=>I (v,h)) x
def lO(e:Operand->V)(ps:Array (Nat×Operand)):List (Nat×V):=a9 [] (λp _ G=>(p.1,e p.2)::G) ps.toList
def oJ(h:Heap)(c a b:V):R:=match c with|.im (.bool d)=>bif d then I (a,h)else I (b,h)|_=>U
def yb(E:Env)(b:Nat)(h:Heap)(c:Nat):R:=(E.ty c).bind λa=>bif cz a a.zero then I (.ptr b 0 [],aE h b (.cell a.zero))else U
def nS(E:Env)(a:Nat)(h:Heap)(e:Nat)(x:V):R:=(E.ty e).bind λb=>bif cz b x then wG a h b.k x else U where wG (a:Nat)(h:Heap)(d:TK)(x:V):R:=match d,x with|.arr _ _,.im c=>I (.im (.ref c),aE h a (.arr 0 0 0 []))|_,x=>I (.ptr a 0 [],aE h a (.cell x))
def yd(E:Env)(h:Heap)(g:Nat)(ps:List (Nat×V)):R:=(E.ty g).bind λa=>a.zero.kids.bind λl=>match a.k with|.st f=>(mz l (λi=>(bE f i).map (λc=>(c.1,c.2.1))) ps).map λb=>(fK a.zero.wd b,h)|.arr _ e=>(E.ty e).bind λd=>(mz l (λi=>I (i*d.size,d.size)) ps).map λb=>(fK a.zero.wd b,h)|_=>U
def jl{α:Type}(n:Nat)(x:α):List α:=fW [] (λ_ G=>x::G) n
def rU(ps:List (Nat×V)):Bool:=a9 Y (λp _ G=>match p.2 with|.im _=>G|_=>N) ps
def lB(E:Env)(keep:Bool)(c:Nat)(h:Heap)(e b:Nat)(ps:List (Nat×V)):R:=(E.ty e).bind λf=>match f.k with|.aw d=>(E.ty d).bind λa=>bif br (b*a.size) 16777216&&br b 16777216 then(a.zero.data []).bind λz=>bif not (cz a (.im z))then U else match(bif keep&&rU ps then U else jY h a.size (jl b z) ps)with|some l=>bif fS h (jg ps)then I (.own c 0 0 b Y,aE (close h (jg ps)) c (.arr 0 a.size 0 l))else U|none=>(mz (jl b a.zero) (λi=>I (i*a.size,a.size)) ps).map λl=>(.own c 0 0 b Y,aE h c (.cG 0 a.size l))else U|_=>U
def fN(E:Env)(h:Heap)(f:Nat)(a:V):R:=(E.ty f).bind λc=>match a with|.ptr d e p=>(eX h d e p).bind λv=>bif cz c v then I (v,h)else U|.im (.ref b)=>bif cz c (.im b)then I (.im b,h)else U|_=>U
def qQ(E:Env)(h:Heap)(e:Nat)(a x:V):R:=(E.ty e).bind λf=>match a with|.ptr b c p=>bif cz f x then(lE h b c p x).map λd=>(.undef,d)else U|_=>U
def Hc(h:Heap)(x:V):R:=match x with|.ptr a b p=>I (.ptr a b p,h)|_=>U
def vq(E:Env)(c:Nat)(h:Heap)(f:Nat)(l d:V):R:=(E.ty f).bind λg=>match g.k with|.aw e=>((E.ty e).bind λb=>(b.zero.data []).bind λz=>match l,d with|.im (.int .i64 a),.im (.int .i64 m)=>bif cz b (.im z)&&(ad 0 a&&(ad a m&&ad (m*aB b.bytes) 70368744177664))then I (.own c 0 0 a.toNat Y,aE h c (.arr 0 b.size 0 (jl a.toNat z)))else U|_,_=>U)|_=>U
def G9(E:Env)(h:Heap)(a:Nat)(x:V):R:=match E.kind a with|some (.ifc _)=>U|some _=>(match x with|.im b=>I (.im (.ifc a b),h)|.undef=>U|v=>I (.ifc a v,h))|none=>U
def B3(E:Env)(h:Heap)(i:Nat)(x:V)(b:Nat):R:=(E.ty i).bind λj=>match j.k with|.st f=>((bE f b).bind λa=>bif ah a.2.1 0 then U else match x with|.ptr d g p=>I (.ptr d g (p++[(b,a.1)]),h)|.im (.ref e)=>(match V.eA (.im e) b a.1 with|some (.im c)=>bif ah c.wd a.2.1 then I (.im (.ref c),h)else U|_=>U)|_=>U)|_=>U
def ny(E:Env)(h:Heap)(c:Nat)(l:List D)(b:Int):R:=(E.ty c).bind λd=>bif ad 0 b then(bE l b.toNat).bind λa=>bif ah a.wd d.size then I (.im (.ref a),h)else U else U
def qT(h:Heap)(c b:Nat):Bool:=match ao h c with|some (.arr _ a _ _)=>ah a b|some (.cG _ a _)=>ah a b|_=>Y
def l9(E:Env)(h:Heap)(k:Nat)(x i:V):R:=match i with|.im (.int _ a)=>((E.ty k).bind λn=>match n.k with|.aw c=>(match x with|.own d e f len _=>(E.ty c).bind λb=>bif ad 0 a&&(ag a (aB len)&&(ah f 0||qT h d b.size))then I (.ptr d e [(f+a.toNat,(f+a.toNat)*b.size)],h)else U|.im (.aw l)=>ny E h c l a|.full l=>ny E h c l a|_=>U)|.arr m c=>(E.ty c).bind λb=>bif ad 0 a&&(ag a (aB m)&&cM 0 b.size)then(match x with|.ptr d e p=>I (.ptr d e (p++[(a.toNat,a.toNat*b.size)]),h)|.im (.ref j)=>(match V.eA (.im j) a.toNat (a.toNat*b.size)with|some (.im g)=>bif ah g.wd b.size then I (.im (.ref g),h)else U|_=>U)|_=>U)else U|_=>U)|_=>U
def B4(E:Env)(h:Heap)(c:Nat)(x i:V):R:=match i with|.im (.int _ a)=>(match x with|.im (.str g)=>(E.ty c).bind λb=>(match b.k with|.str=>bif ad 0 a then(bE g a.toNat).map λe=>(.im (als e),h)else U|_=>U)|x=>(E.ty c).bind λb=>match b.k with|.arr m f=>(E.ty f).bind λd=>bif ad 0 a&&ag a (aB m)then(x.eA a.toNat (a.toNat*d.size)).bind λw=>bif cz d w then I (w,h)else U else U|_=>U)|_=>U
def AZ(a b:D):Option Bool:=match a,b with|.int c x,.int d y=>bif gw c d then I (af x y)else U|_,_=>U
def po(c:D)(b:List (D×V)):Option Nat:=a9 (I 0) (λe _ G=>(AZ c e.1).bind λa=>bif a then I 0 else G.map (·+1)) b
def mN(E:Env)(d:Nat)(c:D):Bool:=match E.kind d,c with|some (.int a),.int b _=>gw a b|_,_=>Y
def Hb(E:Env)(a:Nat)(h:Heap)(c:Nat)(b:Option V):R:=match E.kind c with|some (.map _ _)=>(match b with|none=>I (.mp a,aE h a (.mp []))|_=>U)|_=>U
def entries(h:Heap)(m:V):Option (List (D×V)):=match m with|.mp a=>(match ao h a with|some (.mp b)=>I b|_=>U)|_=>U
def Ha(E:Env)(h:Heap)(g:Nat)(m d:V)(ok:Bool):R:=match E.kind g,d with|some (.map f et),.im c=>bif mN E f c then(entries h m).bind λb=>(po c b).bind λi=>match bE b i with|some e=>I (bif ok then .aI [e.2,.im (.bool N)]else e.2,h)|none=>(E.ty et).bind λa=>bif ja a.zero then I (bif ok then .aI [a.zero,.im (.bool Y)]else a.zero,h)else U else U|_,_=>U
def sW(E:Env)(h:Heap)(f:Nat)(m d v:V):R:=match E.kind f,m,d with|some (.map e et),.mp c,.im b=>bif mN E e b then(entries h m).bind λa=>(po b a).bind λi=>(E.ty et).bind λg=>bif cz g v then(match ao h c with|some (.mp _)=>I (.undef,aE h c (bif cM i (aC a)then .mp (bn a i (b,v))else .mp (a++[(b,v)])))|_=>U)else U else U|_,_,_=>U
def isNil{α:Type}(l:List α):Bool:=match l with|[]=>N|_=>Y
def xu(c:IntKind)(l:List V):Int->Option Int:=a9 (λa=>I a) (λv _ G a=>match v with|.im (.int d b)=>bif gw c d then G (bif ad a b then a else b)else U|_=>U) l
def xq(c:IntKind)(l:List V):Int->Option Int:=a9 (λa=>I a) (λv _ G a=>match v with|.im (.int d b)=>bif gw c d then G (bif ad a b then b else a)else U|_=>U) l
def rW(E:Env)(b:Nat)(h:Heap)(x:V):R:=match E.kind b,x with|some (.aw _),.own _ _ _ a _=>I (.im (.int .i64 (aB a)),h)|some (.aw _),.im (.aw l)=>I (.im (.int .i64 (aB (aC l))),h)|some (.aw _),.full l=>I (.im (.int .i64 (aB (aC l))),h)|_,_=>U
def DM(E:Env)(a:Nat)(h:Heap)(x:V):R:=match E.kind a,x with|some (.aw _),.full l=>I (.im (.int .i64 (aB (aC l))),h)|_,_=>U
def room(n bytes:Nat):Bool:=br (n*bytes) 70368744177664&&br n 70368744177664
def DK(b:TI)(f:Nat)(k:V)(a:List D)(h:Heap):R:=match k with|.own e c d len aL=>(match ao h e with|some (.arr g j i l)=>bif aL then bif isNone a then I (.own e c d len aL,h)else bif fB c g d len l&&(ah j b.size&&room (len+aC a) b.bytes)then I (.own f 0 0 (len+aC a) Y,aE h f (.arr 0 b.size 0 (ic l d len++a)))else U else bif fB c g d len l&&(ah d 0&&(br i len&&(ah j b.size&&room (len+aC a) b.bytes)))then I (.own e (c+1) 0 (len+aC a) Y,aE h e (.arr (c+1) b.size i (ic l 0 len++a)))else U|_=>U)|.full l=>bif i0 b.size l&&room (aC l+aC a) b.bytes then I (.own f 0 0 (aC l+aC a) Y,aE h f (.arr 0 b.size (bif isNone a then aC l else 0) (l++a)))else U|_=>U
def V.pk(h:Heap):V->Option (List D)|.im (.aw l)=>I l|.full l=>I l|.own b c a len _=>(match ao h b with|some (.arr d _ _ l)=>bif fB c d a len l then I (ic l a len)else U|_=>U)|_=>U
def xw(E:Env)(b:TI)(a:Nat)(x:V)(h:Heap):Option (List D):=match E.kind a,x with|some (.aw _),v=>(v.pk h).bind λl=>bif i0 b.size l then I l else U|_,_=>U
def nJ(h:Heap)(v:V):Bool:=match v with|.own a _ _ _ _=>(match ao h a with|some (.cG _ _ _)=>N|_=>Y)|_=>Y
def V.Cy(h:Heap)(x:V):Option (List V):=match x with|.own b c a len _=>(match ao h b with|some (.cG d _ l)=>bif fB c d a len l then I (ic l a len)else U|_=>U)|_=>U
def SX(a:Option TK):Bool:=match a with|some (.aw _)=>N|_=>Y
def wy(a:TI)(l:List V):Bool:=a9 N (λv _ G=>bif cz a v then G else Y) l
def zM(b:TI)(e:Nat)(i:V)(a:List V)(h:Heap):R:=match i with|.own c d f len aL=>(match ao h c with|some (.cG g j l)=>bif not aL&&(fB d g f len l&&(ah f 0&&(ah j b.size&&room (len+aC a) b.bytes)))then I (.own c (d+1) 0 (len+aC a) Y,aE h c (.cG (d+1) b.size (ic l 0 len++a)))else U|_=>U)|.full l=>bif i0 b.size l&&(not (SW a)&&room (aC l+aC a) b.bytes)then I (.own e 0 0 (aC l+aC a) Y,aE h e (.cG 0 b.size (mE l++a)))else U|_=>U
def xi(a:Option TK):Bool:=match a with|some (.int _)=>N|_=>Y
def Qe(a:TI)(c:Nat)(d:V)(b:Int)(h:Heap):R:=match d with|.full l=>bif i0 a.size l&&(ag 0 b&&room (aC l+b.toNat) a.bytes)then(a.zero.data []).bind λz=>bif cz a (.im z)then I (.own c 0 0 (aC l+b.toNat) Y,aE h c (.arr 0 a.size 0 (l++jl b.toNat z)))else U else U|_=>U
def qi(E:Env)(a:TI)(d e:Nat)(c x:V)(h:Heap):R:=bif xi (E.kind e)then(match x with|.im (.int .i64 f)=>Qe a d c f h|_=>U)else bif nJ h c||nJ h x then(bif SX (E.kind e)then(x.Cy h).bind λb=>bif wy a b then zM a d c b h else U else U)else(xw E a e x h).bind λb=>DK a d c b h
def uj(E:Env)(d:Nat)(b:Array Nat)(e x:V)(h:Heap):R:=((bE b.toList 0).bind E.ty).bind λf=>match f.k with|.aw c=>(E.ty c).bind λa=>(bE b.toList 1).bind λg=>bif cz a a.zero then qi E a d g e x h else U|_=>U
def IM(E:Env)(k:Array Nat)(x:V)(h:Heap):R:=((bE k.toList 0).bind E.ty).bind λj=>match j.k with|.aw g=>(E.ty g).bind λb=>(b.zero.data []).bind λz=>(match x with|.own c i a len _=>(match ao h c with|some (.arr d f e l)=>bif cz b (.im z)&&(fB i d a len l&&(ah f b.size&&br e a))then I (.im (.aI []),aE h c (.arr d f e (l.take a++(jl len z++l.drop (a+len)))))else U|_=>U)|_=>U)|_=>U
def hN(E:Env)(bB:Nat)(g:Builtin)(d:Array Nat)(b:List V)(h:Heap):R:=match g with|.len=>(match b with|[x]=>(bE d.toList 0).bind λf=>rW E f h x|_=>U)|.append=>(match b with|[i,x]=>uj E bB d i x h|_=>U)|.min=>(match b with|.im (.int c a)::l=>(xu c l a).map λe=>(.im (.int c e),h)|_=>U)|.max=>(match b with|.im (.int c a)::l=>(xq c l a).map λe=>(.im (.int c e),h)|_=>U)|.cap=>(match b with|[x]=>(bE d.toList 0).bind λf=>DM E f h x|_=>U)|.clear=>(match b with|[x]=>IM E d x h|_=>U)|_=>U
def guardOf(ops:Array Oper)(g:Tm)(d:Option (Nat×Bool)):Option Bool:=match d with|none=>I N|some (e,a)=>(bE ops.toList e).bind λf=>f.dst.bind λc=>match g.get c with|.im (.bool b)=>I (bif b then a else not a)|.im (.aI [])=>I Y|_=>U
def putDst(t:Tm)(a:Option Nat)(v:V):Tm:=eO t (λb=>t.set b v) a
def Q6(a:Nat):Nat:=bif cM a 8 then 3 else bif cM a 16 then 4 else bif cM a 32 then 5 else bif cM a 64 then 6 else bif cM a 128 then 7 else bif cM a 256 then 8 else 12
def xF(l:List V):Nat->Tm->Tm:=a9 (λ_ a=>a) (λv _ G i a=>G (i+1) (a.set i v)) l
def jo(a:Nat)(args:List V):Tm:=xF args 0 (Tm.mk (Q6 a))
section
variable (E:Env)(G:Nat->Nat->Nat->Code->St->Option (Ex×St))
def B0(h:Heap)(b:Tm)(f:ResultVar):Option V:=match f with|.tmp e=>I (b.get e)|.cell a ty=>match b.get a,E.ty ty with|.ptr c d p,I g=>(eX h c d p).bind λv=>bif cz g v then I v else U|_,_=>U
def x3(h:Heap)(b:Tm)(l:List ResultVar):Option (List V):=a9 (I []) (λa _ G=>(B0 E h b a).bind λv=>G.map (v::·)) l
def l7(h:Heap)(fn:Func)(a:Tm):Option V:=(x3 E h a fn.results.toList).map λl=>match l with|[v]=>v|l=>mH l
def OU(a:TI):Bool:=match a.zero.data []with|some z=>cz a (.im z)|none=>Y
def z7(b c:Nat)(d:List V)(h:Heap):R:=match d with|[x]=>(E.ty c).bind λa=>(x.pk h).bind λl=>bif(cz a a.zero&&OU a)&&(i0 a.size l&&room (aC l) a.bytes)then I (.own b 1 0 (aC l) Y,aE h b (.arr 1 a.size 0 l))else U|_=>U
def ln(x:Nat)(c:List V)(h:Heap):R:=match x,c with|x,[.im .ez,.ifc a (.ptr _ 0 [])]=>bif ui x a then I (.im (.bool Y),h)else U|x,[.im (.ifc u (.agg 2 l)),.ifc a (.ptr b 0 [])]=>bif ui x a&&ah u (x/1000000)then(match ao h b with|some (.cell v)=>bif ah v.wd 2 then I (.im (.bool N),aE h b (.cell (.im (.agg 2 l))))else U|_=>U)else U|_,_=>U where ui (x a:Nat):Bool:=ah (x%1000000) (a+1000)&&cM 0 (x/1000000)
def np(h:Heap)(l:List V):Option (List D):=a9 (I []) (λv _ G=>(V.data h v).bind λa=>G.map (a::·)) l
def aAD(a:Oper):Bool:=match a.op with|.call _|.defer _=>N|_=>Y
def NN(e:Operand->V)(h:Heap)(d:Fn)(a c:Array Operand):R:=match d with|.func f=>I (.fn f (a9 [] (λb _ G=>e b::G) a.toList) (a9 [] (λb _ G=>e b::G) c.toList),h)|_=>U
def dy(keep:Bool)(e:Nat)(b:Tm)(h:Heap)(op:Op):R:=match op with|.move x=>I (ev b x,h)|.assign x=>I (ev b x,h)|.pick c a f=>oJ h (ev b c) (ev b a) (ev b f)|.alloc ty=>yb E e h ty|.box ty x=>nS E e h ty (ev b x)|.build ty ps=>yd E h ty (lO (ev b) ps)|.buildSlice ty p ps=>lB E keep e h ty p (lO (ev b) ps)|.load ty a=>fN E h ty (ev b a)|.store ty a x=>qQ E h ty (ev b a) (ev b x)|.nilCheck x=>Hc h (ev b x)|.binOp op ty x y _=>lY h (jU E op ty (isConst x||isConst y) (ev b x) (ev b y))|.unOp op _ x=>lY h (Ct op (ev b x))|.convert r g x=>se E h e r g (ev b x)|.makeInterface ty x=>G9 E h ty (ev b x)|.makeFunc j a c=>NN (ev b) h j a c|.makeSlice ty l c=>vq E e h ty (ev b l) (ev b c)|.slice ty x n k o=>lY h (yk E ty h (ev b x) (n.map (ev b)) (k.map (ev b)) (o.map (ev b)))|.fieldAddr ty x d=>B3 E h ty (ev b x) d|.indexAddr ty x i=>l9 E h ty (ev b x) (ev b i)|.index ty x i=>B4 E h ty (ev b x) (ev b i)|.extract x i=>lY h ((ev b x).part i)|.makeMap ty q=>Hb E e h ty (q.map (ev b))|.lookup ty m d ok=>Ha E h ty (ev b m) (ev b d) ok|.mapUpdate ty m d v=>sW E h ty (ev b m) (ev b d) (ev b v)|.insert ty m d v=>sW E h ty (ev b m) (ev b d) (ev b v)|.call c=>(match c.callee with|.builtin f=>hN E e f c.argTypes (dA b c.args) h|_=>U)|_=>U
abbrev RC:=Option (V×Heap×List Rec)
def lift(lp:List Rec)(a:R):RC:=eO U (λx=>I (x.1,x.2,lp)) a
def mX(a:Nat)(args:List V)(h:Heap)(lp:List Rec):Option (Func×St):=(E.fn a).bind λfn=>fn.body.bind λb=>match(bif br (aC args) fn.ntmps then G a 0 0 b ⟨jo fn.ntmps args,h,lp,[]⟩else U)with|some (.exit _,_)=>U|some (_,c)=>I (fn,c)|none=>U
def lR(a:Nat×List V):Bool:=match a.2 with|[.undef]=>N|_=>Y
def kd(e:Nat)(d:List (Nat×List V)):Heap->List Rec->Option (Heap×List Rec):=a9 (λh lp=>I (h,lp)) (λb _ c h lp=>bif lR b then(bif br e b.1 then c h lp else U)else match mX E G b.1 b.2 h lp with|some (fn,a)=>(match a.df with|[]=>(match l7 E a.h fn a.t with|some _=>c a.h a.lp|none=>U)|_=>U)|none=>U) d
def gK(d:Nat)(args:List V)(h:Heap)(lp:List Rec):RC:=match mX E G d args h lp with|some (fn,a)=>(match a.df with|[]=>(l7 E a.h fn a.t).map λv=>(v,a.h,a.lp)|c=>(kd E G (aC h) c a.h a.lp).bind λb=>(l7 E b.1 fn a.t).map λv=>(v,b.1,b.2))|none=>U
def pj(b:Nat)(args:List D):Option D:=(gK E G b (mE args) [] []).bind λa=>a.1.data a.2.1
def ie(a:Nat)(args:List D):Option D:=match E.sm a with|some b=>(match b args with|some c=>I c|none=>pj E G a args)|none=>pj E G a args
def qk(a:Nat)(args:List V)(h:Heap)(lp:List Rec):RC:=bif E.inl a then gK E G a args h lp else match np h args with|some d=>((ie E G a d).bind λb=>match V.nN args with|[]=>I (.im b,h,lp)|c=>bif b.flat then I (.im b,h,lp)else bif fS h c then I (.im b,close h c,lp)else U)|none=>gK E G a args h lp
def wH(b:Nat)(a:Nat)(args:List V)(h:Heap)(lp:List Rec):RC:=match E.clone a with|some c=>lift lp (z7 E b c args h)|none=>match E.ext a with|0=>qk E G a args h lp|x=>lift lp (ln x args h)
def target(d:Tm)(b:Call):Option (Nat×List V):=match b.callee with|.value e=>(match ev d e with|.fn c a cap=>I (c,a++(dA d b.args++cap))|.im (.fn c)=>I (c,dA d b.args)|_=>U)|_=>U
def ri(b:Tm)(a:Call):Option (Nat×List V):=match a.callee with|.value d=>(match ev b d with|.jr c=>I (c,dA b a.args)|_=>U)|_=>U
def Bu(ps:List Nat):List V->Tm->Option Tm:=a9 (λa b=>match a with|[]=>I b|_=>U) (λp _ G a b=>match a with|[]=>U|x::a=>G a (b.set p x)) ps
def x7(a:Nat)(g:List V)(h:Heap):R:=match ao h a with|some (.lp b f ps d body)=>((Bu ps g f).bind λt0=>match G b 1 0 d ⟨t0,bn h a U,[],[]⟩with|some (.nm,c)=>(match c.df with|[]=>(match G b 1 0 body ⟨c.t,c.h,[],[]⟩with|some (.nm,e)=>(match e.df with|[]=>I (.im (.bool N),aE e.h a (.lp b f ps d body))|_=>U)|_=>U)|_=>U)|_=>U)|_=>U
def kz(e:Nat)(c:Tm)(a:Call)(h:Heap)(lp:List Rec):RC:=match ri c a with|some (d,f)=>lift lp (x7 G d f h)|none=>(target c a).bind λb=>wH E G e b.1 b.2 h lp
def e7(keep:Bool)(ops:Array Oper)(e:Nat)(d:Oper)(b:St):Option St:=match guardOf ops b.t d.guard with|none=>U|some Y=>I ⟨putDst b.t d.dst (.im (.aI [])),b.h,b.lp,b.df⟩|some N=>match d.op with|.defer c=>(match c.callee with|.value g=>(match ev b.t g with|.fn f a cap=>bif lR (f,a++(dA b.t c.args++cap))then U else I ⟨putDst b.t d.dst .undef,b.h,b.lp,(f,a++(dA b.t c.args++cap))::b.df⟩|_=>U)|_=>U)|op=>match(match op with|.call c=>(match c.callee with|.builtin _=>lift b.lp (dy E keep e b.t b.h op)|_=>kz E G e b.t c b.h b.lp)|op=>lift b.lp (dy E keep e b.t b.h op))with|none=>U|some (v,h,lp)=>I ⟨putDst b.t d.dst v,h,lp,b.df⟩
def eb(keep:Bool)(ops:Array Oper)(l:List Oper):St->Option St:=a9 (λa=>I a) (λc _ b a=>match e7 E G keep ops (aC a.h) c a with|none=>U|some d=>b d) l
def bJ:Op->Bool|.alloc _|.box _ _|.buildSlice ..|.makeSlice ..|.makeMap ..=>N|.convert ..=>N|.call {callee:=.builtin .append,..}=>N|.call {callee:=.value (.func a),..}=>(E.clone a).isSome|_=>Y
def de(a:Nat)(m:List Nat)(h:Heap):Heap:=a9 (λh=>h) (λi _ G h=>G (bn h (a+i) U)) m h
def V.snap(h:Heap)(v:V):Option D:=match v with|.ptr a 0 []=>(match ao h a with|some (.cell u)=>(u.data h).map .ref|_=>U)|v=>v.data h
def nr(h:Heap)(l:List V):Option (List D):=a9 (I []) (λv _ G=>(V.snap h v).bind λa=>G.map (a::·)) l
def aAq(h:Heap):Bool:=a9 N (λa _ G=>match a with|none=>G|some _=>Y) h
mutual
def D.same:D->D->Bool|.bool a,.bool b=>decide (a=b)|.int f h,.int g m=>decide (f=g)&&decide (h=m)|.str i,.str c=>decide (i=c)|.nil,.nil=>N|.dP,.dP=>N|.ez,.ez=>N|.mI,.mI=>N|.ref a,.ref b=>D.same a b|.aw a,.aw b=>D.mY a b|.agg w a,.agg v b=>ah w v&&D.mY a b|.aI a,.aI b=>D.mY a b|.fn d,.fn e=>ah d e|.ifc c a,.ifc u b=>ah c u&&D.same a b|_,_=>Y
def D.mY:List D->List D->Bool|[],[]=>N|a::l,b::c=>bif D.same a b then D.mY l c else Y|_,_=>Y
end
def dn.same:dn->dn->Bool|.cell (.im a),.cell (.im b)=>D.same a b|_,_=>Y
def lC:Heap->Heap->Bool|[],[]=>N|none::l,U::b=>lC l b|some a::l,I c::b=>bif dn.same a c then lC l b else Y|_,_=>Y
def only(bs:List Nat)(h:Heap):Heap:=a9 (λ_=>[]) (λa _ G i=>(bif a6 bs i then a else U)::G (i+1)) h 0
def Bf(l:List V):Bool:=match fi l with|[]=>N|_=>Y
def pC:Op->Bool|.move _|.assign _|.pick ..|.build ..|.fieldAddr ..|.unOp ..|.extract ..|.nilCheck _|.binOp ..=>N|_=>Y
def isQ:Op->Bool|.load ..|.indexAddr ..|.index ..|.slice ..|.alloc _|.box ..|.makeSlice ..=>N|op=>pC op
def fM(keep:Bool)(c:Nat)(d:Tm)(view:Heap)(op:Op):Option (V×Option dn):=match op with|.call b=>(match b.callee with|.builtin .len=>(hN E c .len b.argTypes (dA d b.args) view).map λa=>(a.1,U)|.builtin .min=>(hN E c .min b.argTypes (dA d b.args) view).map λa=>(a.1,U)|.builtin .max=>(hN E c .max b.argTypes (dA d b.args) view).map λa=>(a.1,U)|.builtin _=>U|_=>(target d b).bind λe=>match E.clone e.1 with|some _=>U|none=>match E.ext e.1 with|0=>bif E.inl e.1 then U else(np view e.2).bind λf=>(ie E G e.1 f).bind λa=>(match V.nN e.2 with|[]=>I (.im a,U)|_=>bif a.flat then I (.im a,U)else U)|_=>U)|.buildSlice ty g ps=>bif Bf ((lO (ev d) ps).map Prod.snd)then(lB E keep c view ty g (lO (ev d) ps)).map λa=>(a.1,ao a.2 c)else U|op=>bif isQ op then(dy E keep c d view op).map λa=>(a.1,bif bJ E op then ao a.2 c else U)else U
def sX(c:Tm)(view:Heap)(op:Op):Option V:=match op with|.load ty a=>(fN E view ty (ev c a)).map λb=>b.1|_=>U
def ea(h:Heap)(c:Nat)(b:Option dn):Heap:=match b with|none=>h|some a=>aE h c a
def rZ:V->Option Nat|.ptr a _ _=>I a|.own a _ _ _ _=>I a|_=>U
def iv(d:Tm)(a:Nat)(m:List Nat):Bool:=a9 N (λc _ G=>match rZ (d.get c)with|some b=>bif ah a b then Y else G|none=>G) m
def mW(d:Tm)(a:Nat)(m:List Nat):Bool:=match m with|[]=>N|c::_=>(match rZ (d.get c)with|some b=>ah a b|none=>Y)
def Fc(a:Option dn):Bool:=match a with|some (.cell _)=>N|_=>Y
def dx(keep:Bool)(ops:Array Oper)(f l i j:Nat)(m:List Nat)(c:Oper)(b:St):Option St:=match guardOf ops b.t c.guard with|none=>U|some Y=>I ⟨putDst b.t c.dst (.im (.aI [])),b.h,b.lp,b.df⟩|some N=>match j with|0=>(dy E keep (f+i) b.t [] c.op).map λd=>⟨putDst b.t c.dst d.1,b.h,b.lp,b.df⟩|1=>bif bJ E c.op then(match ao b.h (f+i)with|none=>(fM E G keep (f+i) b.t (de f m b.h) c.op).map λd=>⟨putDst b.t c.dst d.1,ea b.h (f+i) d.2,b.lp,b.df⟩|some _=>U)else(fM E G keep (aC b.h) b.t (de f m b.h) c.op).bind λd=>(match d.2 with|none=>I ⟨putDst b.t c.dst d.1,b.h,b.lp,b.df⟩|some _=>U)|2=>(sX E b.t (de f m (b.h.take (f+l))) c.op).map λv=>⟨putDst b.t c.dst v,b.h,b.lp,b.df⟩|3=>e7 E G keep ops (aC b.h) c b|4=>(match c.op with|.call h=>(target b.t h).bind λe=>(gK E G e.1 e.2 (only (l1 b.h 0 64 (ib 0 (fi e.2) [])) b.h) b.lp).bind λd=>bif lC (only (l1 b.h 0 64 (ib 0 (fi e.2) [])) b.h) (d.2.1.take (aC b.h))then I ⟨putDst b.t c.dst d.1,b.h++d.2.1.drop (aC b.h),d.2.2,b.df⟩else U|_=>U)|6=>(match c.op with|.store ty a x=>(match ev b.t a with|.ptr g e p=>bif iv b.t g m&&Fc (ao b.h g)then(qQ E b.h ty (.ptr g e p) (ev b.t x)).map λd=>⟨putDst b.t c.dst d.1,d.2,b.lp,b.df⟩else U|_=>U)|_=>U)|7=>(match c.op with|.load ty a=>(match ev b.t a with|.ptr g e p=>bif mW b.t g m then(fN E (b.h.take f) ty (.ptr g e p)).map λd=>⟨putDst b.t c.dst d.1,b.h,b.lp,b.df⟩else U|_=>U)|_=>U)|_=>(match c.op with|.call h=>(target b.t h).bind λe=>(nr (de f m b.h) e.2).bind λk=>(ie E G e.1 k).bind λd=>bif d.flat then I ⟨putDst b.t c.dst (.im d),b.h,b.lp,b.df⟩else U|_=>U)
def news:List Oper->Nat|[]=>0|a::l=>(bif bJ E a.op then 1 else 0)+news l
def hZ(keep:Bool)(ops:Array Oper)(e f:Nat)(l:List Oper):List (Nat×List Nat)->Nat->St->Option St:=a9 (λ_ _ b=>I b) (λc _ g a i b=>match a with|[]=>U|(d,m)::a=>match dx E G keep ops e f i d m c b with|none=>U|some h=>g a (bif bJ E c.op then i+1 else i) h) l
def qO(b id:Nat)(ops:Array Oper)(a:St):Option St:=(E.dr b id).bind λd=>(news E ops.toList|>λc=>hZ E G (E.keep b) ops (aC a.h) c ops.toList d 0 ⟨a.t,a.h++jl c U,a.lp,a.df⟩)
def Fe:Op->Bool|.load ..|.indexAddr ..=>N|.convert b a _=>(match E.kind b,E.kind a with|some (.int _),I (.int _)=>N|_,_=>Y)|_=>Y
def tmpsOf(l:List Operand):List Nat:=a9 [] (λa _ G=>match a with|.tmp b=>b::G|_=>G) l
def reads(ops:Array Oper)(a:Oper):List Nat:=tmpsOf a.op.operands.toList++(match a.guard with|some (c,_)=>(match bE ops.toList c with|some b=>b.dst.toList|none=>[])|none=>[])
def Qa(ops:Array Oper)(a c:Oper):Bool:=(match a.dst with|some b=>not (a6 (reads ops c) b)&&not (c.dst==I b)|none=>N)&&(match c.dst with|some b=>not (a6 (reads ops a) b)|none=>N)
def Ak(b:Oper)(m:List Nat):Bool:=match b.dst with|some a=>not (a6 m a)|none=>N
def SF(a b:List Nat):Bool:=match b with|[]=>Y|c::_=>a6 a c
def Me(a:Nat):Bool:=ah a 1||(ah a 2||ah a 5)
def YL(a b:Nat)(c d:List Nat):Bool:=(Me a&&ah b 7)||((Me b&&ah a 7)||(ah a 7&&(ah b 6&&SF d c)))
def wA(ops:Array Oper)(a d:Oper)(b c:Nat)(e f:List Nat)(na g:Nat):Bool:=(Qa ops a d&&((not (ah b 6||ah b 7)||Ak d e)&&(not (ah c 6||ah c 7)||Ak a f)))&&(ah b 0||(ah c 0||(YL b c e f||((ah b 4&&ah c 2)||(((ah b 1||(ah b 2||ah b 5))&&((ah c 1||(ah c 2||ah c 5))&&((not (bJ E a.op&&ah b 1)||a6 f na)&&(not (bJ E d.op&&ah c 1)||a6 e g)))))))))
def uk(l:List Oper):List Nat->List Nat:=a9 (λa=>a) (λc _ G a=>G (a++[c.after.toList.foldl (λb e=>bif vL .any e then vX b (vX (2^e.on) ((bE a e.on).getD 0))else b) 0])) l
def Bm(a:Oper)(i:Nat)(b:Nat):Bool:=(a.after.toList.all λe=>not (vL .any e)||cM e.on i)&&(bif ah b 0 then pC a.op||Fe E a.op else N)
def Bk(ops:Array Oper)(i:Oper)(d:Nat)(e:Nat)(m:List Nat)(h:Nat)(l:List Oper)(a:List (Nat×List Nat)):Nat->Nat->Bool:=a9 (λ_ _ _=>N) (λp _ G a c b=>match a with|[]=>N|(f,g)::a=>(Nat.testBit d c||wA E ops p i f e g m b h)&&G a (c+1) (bif bJ E p.op then b+1 else b)) l a
def Ly(ops:Array Oper)(e:List Nat)(f:List (Nat×List Nat))(l:List Oper)(a:List (Nat×List Nat)):Nat->Nat->Bool:=a9 (λ_ _ _=>N) (λc _ G a i b=>match a with|[]=>Y|(d,m)::a=>Bm E c i d&&(Bk E ops c ((bE e i).getD 0) d m b (ops.toList.take i) (f.take i) 0 0&&G a (i+1) (bif bJ E c.op then b+1 else b))) l a
def Jw(ops:Array Oper)(a:List (Nat×List Nat)):Bool:=Ly E ops (uk ops.toList []) a ops.toList a 0 0
def nC(a:Bool)(h:Heap)(v:V):Heap:=match v with|.ptr b 0 []=>(match ao h b with|some (.cell u)=>(match u.data h with|some f=>bif fS h u.owns then aE (close h u.owns) b (.cell (.im f))else h|none=>h)|_=>h)|.own b _ _ _ _=>(match ao h b with|some (.cG d e l)=>(match V.eg (gL h) l with|some c=>bif fS h (V.eP l)then aE (close h (V.eP l)) b (bif a then .arr d e 0 c else .cG d e (mE c))else h|none=>h)|_=>h)|_=>h
def yr(h:Heap)(b a:Nat):Heap:=match ao h b with|some (.arr d e c l)=>bif br c a&&br a (aC l)then aE h b (.arr d e c (l.take a))else h|_=>h
def ta(h:Heap)(v:V):Heap:=match v with|.ptr c d p=>(match eX h c d p with|some (.own a _ _ b _)=>yr h a b|_=>h)|.own a _ _ b _=>yr h a b|_=>h
def gp(q:Bool)(f id:Nat)(b:St):St:=match E.Ey f id with|none=>b|some (a,c)=>match q,a with|false,0=>⟨b.t,nC Y b.h (b.t.get c),b.lp,b.df⟩|true,1=>⟨b.t,nC N b.h (b.t.get c),b.lp,b.df⟩|true,2=>⟨b.t,ta b.h (b.t.get c),b.lp,b.df⟩|_,_=>b
def pn(f d g:Nat)(j:Code)(b:St):Option (Ex×St):=match j with|.skip=>I (.nm,b)|.label _=>I (.nm,b)|.region id ops n=>(match(bif n then qO E G f id ops (gp E Y f id b)else eb E G (E.keep f) ops ops.toList (gp E Y f id b))with|some e=>I (.nm,gp E N f id e)|none=>U)|.seq a c=>(match G f d g a b with|some (.nm,e)=>G f d g c e|i=>i)|.cond j a c=>(match ev b.t j with|.im (.bool o)=>bif o then G f d g a b else G f d g c b|_=>U)|.block id c=>(match G f d id c b with|some (.exit l,e)=>bif ah l id then I (.nm,e)else I (.exit l,e)|i=>i)|.loop c=>(match G f d g c b with|some (.nm,e)=>G f d g (.loop c) e|i=>i)|.scope c=>G f d g c b|.rangeFunc h ps m body=>(match(match ev b.t h with|.fn h a cap=>I (h,a,cap)|.im (.fn h)=>I (h,[],[])|_=>U:Option (Nat×List V×List V))with|some (h,a,cap)=>(match gK E G h (a++(.jr (aC b.h+1)::cap)) (b.h++[U,I (.lp f b.t ps.toList m body)]) b.lp with|some (_,k,lp)=>(match ao k (aC b.h+1)with|some (.lp ..)=>I (.nm,⟨b.t,bn k (aC b.h+1) U,lp,bif ah d 0 then(aC b.h,[V.undef])::b.df else b.df⟩)|_=>U)|none=>U)|none=>U)|.exit id=>I (.exit id,b)|.ret=>I (.ret,b)|_=>U
end
def exec(E:Env)(a:Nat):Nat->Nat->Nat->Code->St->Option (Ex×St):=fW (λ_ _ _ _ _=>U) (λ_ G=>pn E G) a
def Zj(E:Env)(b a:Nat)(args:List D):Option D:=pj E (exec E b) a args
end
open Go.RowKit (Below)
abbrev IV:=Addr->Option Value
def fy:Nat:=9223372036854775807
def cK(c:IV)(a:Addr)(d:List Value):Prop:=∀b v,d[b]?=I v->c (a.add b)=I v
def dJ(a:IntKind)(n:Int):Prop:=a.min<=n/\n<=a.max
def DV(a:ByteArray):List Nat:=a.data.toList.map ajW
mutual
def aR(C:IV):D->Bool->List Value->Prop|.bool e,_,b=>b=[.bool e]|.int i d,_,b=>b=[.int i d]/\dJ i d|.str h,_,b=>∃e:ByteArray,b=[.string e]/\DV e=h/\e.size<=fy|.nil,_,b=>b=[.pointer U]|.ref g,_,b=>∃a ws,b=[.pointer (I a)]/\a.spot=U/\aR C g Y ws/\cK C a ws|.aw l,_,b=>∃a d cap,b=[.slice a d cap]/\d=l.length/\d<=cap/\d<=fy/\ (d=0∨∃f c h,a=I f/\f.spot=U/\bH C l Y c/\(∀ws∈c,ws.length=h)/\cK C f c.flatten)|.agg w l,N,b=>∃cs c,b=[.agg cs]/\cs.toList=c.flatten/\bH C l Y c/\cs.size=w|.agg w l,Y,b=>∃c,b=c.flatten/\bH C l Y c/\b.length=w|.aI l,N,b=>∃j c,b=[.tuple j]/\bH C l N c/\j.toList=c.flatten|.aI _,Y,_=>False|.fn k,_,b=>b=[.func (.func k) #[] #[]]|.dP,_,b=>b=[.nilFunc]|.ifc m g,_,b=>∃x,b=[.iface m x]/\aR C g N [x]|.ez,_,b=>b=[.nilIface]|.mI,_,b=>b=[.map U]
def bH(C:IV):List D->Bool->List (List Value)->Prop|[],_,a=>a=[]|c::l,m,a=>∃ws b,a=ws::b/\aR C c m ws/\bH C l m b
end
def IV.le(b c:IV):Prop:=∀a v,b a=I v->c a=I v
theorem IV.le.refl(C:IV):C.le C:=λ_ _ h=>h
theorem IV.le.trans{b B C:IV}(h:b.le B)(c:B.le C):b.le C:=λa v e=>c a v (h a v e)
theorem cK.mono{b c}(h:b.le c){a}{vs}(k:cK b a vs):cK c a vs:=λd v e=>h _ _ (k d v e)
mutual
theorem aR.mono{n o:IV}(h:n.le o):∀(d:D) (m:Bool) (p:List Value),aR n d m p->aR o d m p|.bool _,_,_,b|.nil,_,_,b|.fn _,_,_,b|.dP,_,_,b|.ez,_,_,b|.mI,_,_,b|.int _ _,_,_,b|.str _,_,_,b=>by simpa[aR]using b|.ref d,_,_,b=>by simp only[aR]at b|-;have⟨a,ws,e,k,i,r⟩:=b;exact⟨a,ws,e,k,aR.mono h d Y ws i,r.mono h⟩|.aw l,_,_,b=>by simp only[aR]at b|-;have⟨a,B,cap,e,u,j,hm,i⟩:=b;refine⟨a,B,cap,e,u,j,hm,i.imp id ?_⟩;rintro⟨q,c,k,s,y,v,z,j⟩;exact⟨q,c,k,s,y,bH.mono h l Y c v,z,j.mono h⟩|.agg w l,N,_,b=>by simp only[aR]at b|-;have⟨cs,c,e,t,f,g⟩:=b;exact⟨cs,c,e,t,bH.mono h l Y c f,g⟩|.agg w l,Y,_,b=>by simp only[aR]at b|-;have⟨c,e,f,g⟩:=b;exact⟨c,e,bH.mono h l Y c f,g⟩|.aI l,N,_,b=>by simp only[aR]at b|-;have⟨C,c,e,f,g⟩:=b;exact⟨C,c,e,bH.mono h l N c f,g⟩|.aI l,Y,_,b=>by simp[aR]at b|.ifc E d,_,_,b=>by simp only[aR]at b|-;have⟨x,e,i⟩:=b;exact⟨x,e,aR.mono h d N [x] i⟩
theorem bH.mono{b c:IV}(h:b.le c):∀(l:List D) (m:Bool) (aV:List (List Value)),bH b l m aV->bH c l m aV|[],_,_,a=>by simpa[bH]using a|f::l,m,_,a=>by simp only[bH]at a|-;have⟨ws,d,e,g,i⟩:=a;exact⟨ws,d,e,aR.mono h f m ws g,bH.mono h l m d i⟩
end
structure BI where
 g:Nat
 base:Option Addr
 s:Nat
 cap:Nat
 fix:Bool
structure Cx where
 C:IV
 M:Nat->Option BI
 L:Nat->Option Nat
def pa(X:Cx)(e c d len:Nat)(aL:Bool)(v:Value):Prop:=(∃a cap,v=.slice a len cap/\len<=cap/\len<=fy/\(cap=0∨∃b,a=I b))/\∃bi,X.M e=I bi/\c<=bi.g/\(c=bi.g->∃a cap,v=.slice a len cap/\len<=cap/\len<=fy/\d+cap<=bi.cap/\(aL=N->cap=len)/\(cap=0∨∃b,bi.base=I b/\b.spot=U/\a=I (b.add (d*bi.s))))
def jA(p:List (Nat×Nat)):Nat:=(p.map (·.2)).sum
def tN(X:Cx)(d c:Nat)(p:List (Nat×Nat))(v:Value):Prop:=(∃a,v=.pointer (I a))/\∃bi,X.M d=I bi/\c<=bi.g/\(c=bi.g->∃b,bi.base=I b/\b.spot=U/\v=.pointer (I (b.add (jA p))))
theorem pa.one{X}{b c d len}{aL}{v}(h:pa X b c d len aL v):v.oneCell'=N:=by have⟨⟨a,f,e,_⟩,_⟩:=h;subst e;rfl
theorem tN.one{X}{b c}{p}{v}(h:tN X b c p v):v.oneCell'=N:=by have⟨⟨a,e⟩,_⟩:=h;subst e;rfl
def ze(e:IV)(l:List D)(v:Value):Prop:=∃a b,v=.slice a b b/\b=l.length/\b<=fy/\(b=0∨∃c d f,a=I c/\c.spot=U/\bH e l Y d/\(∀ws∈d,ws.length=f)/\cK e c d.flatten)
mutual
def an(X:Cx):V->Bool->List Value->Prop|.undef,N,b=>b.length=1|.undef,Y,_=>False|.im o,m,b=>aR X.C o m b|.agg w l,N,b=>∃cs c,b=[.agg cs]/\cs.toList=c.flatten/\bL X l Y c/\cs.size=w|.agg w l,Y,b=>∃c,b=c.flatten/\bL X l Y c/\b.length=w|.aI l,N,b=>∃h c,b=[.tuple h]/\bL X l N c/\h.toList=c.flatten|.aI _,Y,_=>False|.own d e r len aL,_,b=>∃v,b=[v]/\pa X d e r len aL v|.full l,_,b=>∃v,b=[v]/\ze X.C l v|.ptr d e p,_,b=>∃v,b=[v]/\tN X d e p v|.fn q a n,_,b=>∃f cs j k,b=[.func (.func q) f cs]/\bL X a N j/\f.toList=j.flatten/\bL X n N k/\cs.toList=k.flatten|.ifc s v,_,b=>∃x,b=[.iface s x]/\an X v N [x]|.mp d,_,b=>∃g bi,b=[.map (I g)]/\X.M d=I bi/\bi.base=I ⟨g,0,U⟩/\bi.fix=N|.jr i,_,b=>∃l,b=[.func (.yield l) #[] #[]]/\∃bi,X.M i=I bi/\bi.base=I ⟨l,0,U⟩/\bi.fix=N
def bL(X:Cx):List V->Bool->List (List Value)->Prop|[],_,a=>a=[]|v::l,m,a=>∃ws b,a=ws::b/\an X v m ws/\bL X l m b
end
structure Cx.le(fb:Nat)(X Q:Cx):Prop where
 C:X.C.le Q.C
 M:∀b bi,b<fb->X.M b=I bi->∃bj,Q.M b=I bj/\bi.g<=bj.g/\(bi.g=bj.g->bi=bj)/\(bi.fix=N->bi=bj)
 L:∀i l,X.L i=I l->Q.L i=I l
theorem Cx.le.refl(a)(X:Cx):X.le a X:=⟨.refl _,λ_ bi _ h=>⟨bi,h,aH _,λ_=>rfl,λ_=>rfl⟩,λ_ _ h=>h⟩
theorem Cx.le.trans{a}{X c d:Cx}(h:X.le a c)(b:c.le a d):X.le a d:=⟨h.C.trans b.C,λf bi g e=>by have⟨j,e1,n,p,f1⟩:=h.M f bi g e;have⟨k,m,o,q,f2⟩:=b.M f j g e1;grind,λi l e=>b.L i l (h.L i l e)⟩
theorem Cx.le.less{b c}{X a:Cx}(h:X.le b a)(hf:c<=b):X.le c a:=⟨h.C,λd bi f e=>h.M d bi J e,h.L⟩
def Cx.lt(X:Cx)(n:Nat):Prop:=∀a bi,X.M a=I bi->a<n
mutual
def V.low(b:Nat):V->Prop|.undef|.im _|.full _=>True|.agg _ l|.aI l=>V.lT b l|.own c _ _ _ _|.ptr c _ _|.mp c|.jr c=>c< b|.fn _ a d=>V.lT b a/\V.lT b d|.ifc _ v=>v.low b
def V.lT(a:Nat):List V->Prop|[]=>True|v::l=>v.low a/\V.lT a l
end
theorem pa.mono{c}{X a}(h:X.le c a){b d f len}{aL}{v}(m:b<c)(k:pa X b d f len aL v):pa a b d f len aL v:=by have⟨l,bi,e,n,q⟩:=k;have⟨g,i,j,o,_⟩:=h.M b bi m e;refine⟨l,g,i,bY n j,λp=>?_⟩;grind
theorem tN.mono{c}{X a}(h:X.le c a){b d}{p}{v}(l:b<c)(k:tN X b d p v):tN a b d p v:=by have⟨j,bi,e,m,q⟩:=k;have⟨f,g,i,n,_⟩:=h.M b bi l e;refine⟨j,f,g,bY m i,λo=>?_⟩;grind
theorem ze.mono{b c}(h:b.le c){l}{v}(k:ze b l v):ze c l v:=by have⟨a,o,e,i,hm,p⟩:=k;refine⟨a,o,e,i,hm,p.imp id ?_⟩;rintro⟨d,r,q,f,m,j,n,g⟩;exact⟨d,r,q,f,m,j.mono h,n,g.mono h⟩
mutual
theorem an.mono{s:Nat}{X r:Cx}(h:X.le s r):∀(v:V) (m:Bool) (o:List Value),v.low s->an X v m o->an r v m o|.undef,N,_,_,b=>by simpa[an]using b|.undef,Y,_,_,b=>by simp[an]at b|.im B,m,o,_,b=>by simp only[an]at b|-;exact aR.mono h.C B m o b|.agg w l,N,_,c,b=>by simp only[an]at b|-;have⟨cs,j,e,k,d,f⟩:=b;exact⟨cs,j,e,k,bL.mono h l Y j (by simpa[V.low]using c) d,f⟩|.agg w l,Y,_,c,b=>by simp only[an]at b|-;have⟨j,e,d,f⟩:=b;exact⟨j,e,bL.mono h l Y j (by simpa[V.low]using c) d,f⟩|.aI l,N,_,c,b=>by simp only[an]at b|-;have⟨G,j,e,d,f⟩:=b;exact⟨G,j,e,bL.mono h l N j (by simpa[V.low]using c) d,f⟩|.aI _,Y,_,_,b=>by simp[an]at b|.own q D K len aL,_,_,c,b=>by simp only[an]at b|-;have⟨v,e,g⟩:=b;exact⟨v,e,g.mono h (by simpa[V.low]using c)⟩|.full l,_,_,_,b=>by simp only[an]at b|-;have⟨v,e,g⟩:=b;exact⟨v,e,g.mono h.C⟩|.ptr q D p,_,_,c,b=>by simp only[an]at b|-;have⟨v,e,g⟩:=b;exact⟨v,e,g.mono h (by simpa[V.low]using c)⟩|.fn H a z,_,_,c,b=>by simp only[an]at b|-;simp only[V.low]at c;have⟨C,cs,t,u,e,k,e1,d,n⟩:=b;exact⟨C,cs,t,u,e,bL.mono h a N t c.1 k,e1,bL.mono h z N u c.2 d,n⟩|.ifc L v,_,_,c,b=>by simp only[an]at b|-;have⟨x,e,g⟩:=b;exact⟨x,e,an.mono h v N [x] (by simpa[V.low]using c) g⟩|.mp q,_,_,c,b=>by simp only[an]at b|-;have⟨g,bi,e,k,d,f⟩:=b;have⟨y,n,E,F,hf⟩:=h.M q bi (by simpa[V.low]using c) k;have:=hf f;subst this;exact⟨g,bi,e,n,d,f⟩|.jr i,_,_,c,b=>by simp only[an]at b|-;have⟨l,e,bi,k,d,f⟩:=b;have⟨y,n,E,F,hf⟩:=h.M i bi (by simpa[V.low]using c) k;have:=hf f;subst this;exact⟨l,e,bi,n,d,f⟩
theorem bL.mono{d:Nat}{X c:Cx}(h:X.le d c):∀(l:List V) (m:Bool) (aV:List (List Value)),V.lT d l->bL X l m aV->bL c l m aV|[],_,_,_,a=>by simpa[bL]using a|v::l,m,_,b,a=>by simp only[bL]at a|-;simp only[V.lT]at b;have⟨ws,f,e,g,i⟩:=a;exact⟨ws,f,e,an.mono h v m ws b.1 g,bL.mono h l m f b.2 i⟩
end
mutual
theorem an.low{X:Cx}{k:Nat}(d:X.lt k):∀(v:V) (m:Bool) (q:List Value),an X v m q->v.low k|.undef,_,_,_|.im _,_,_,_|.full _,_,_,_=>by simp[V.low]|.agg w l,N,_,b=>by simp only[an]at b;have⟨cs,h,e,f,c,j⟩:=b;simpa[V.low]using bL.low d l Y h c|.agg w l,Y,_,b=>by simp only[an]at b;have⟨h,e,c,j⟩:=b;simpa[V.low]using bL.low d l Y h c|.aI l,N,_,b=>by simp only[an]at b;have⟨C,h,e,c,j⟩:=b;simpa[V.low]using bL.low d l N h c|.aI _,Y,_,b=>by simp[an]at b|.own g o z len aL,_,_,b=>by simp only[an]at b;have⟨v,e,f,bi,c,i⟩:=b;simpa[V.low]using d g bi c|.ptr g o p,_,_,b=>by simp only[an]at b;have⟨v,e,f,bi,c,i⟩:=b;simpa[V.low]using d g bi c|.fn u a n,_,_,b=>by simp only[an]at b;have⟨y,cs,r,s,e,f,e1,c,t⟩:=b;simp only[V.low];exact⟨bL.low d a N r f,bL.low d n N s c⟩|.ifc B v,_,_,b=>by simp only[an]at b;have⟨x,e,i⟩:=b;simpa[V.low]using an.low d v N [x] i|.mp g,_,_,b=>by simp only[an]at b;have⟨i,bi,e,f,c⟩:=b;simpa[V.low]using d g bi f|.jr g,_,_,b=>by simp only[an]at b;have⟨l,e,bi,f,c⟩:=b;simpa[V.low]using d g bi f
theorem bL.low{X:Cx}{c:Nat}(a:X.lt c):∀(l:List V) (m:Bool) (h:List (List Value)),bL X l m h->V.lT c l|[],_,_,_=>by simp[V.lT]|v::l,m,_,b=>by simp only[bL]at b;have⟨ws,g,e,d,f⟩:=b;simp only[V.lT];exact⟨an.low a v m ws d,bL.low a l m g f⟩
end
section
@[simp]theorem cu{α}(l:List α)(i):bE l i=l[i]?:=by induction l generalizing i with|nil=>rfl|cons a l G=>cases i<;>first|rename_i i;exact(G i).trans zS|rfl
@[simp]theorem bw{α}(l:List α):aC l=l.length:=by induction l with|nil=>rfl|cons a l G=>show aC l+1=_;rw[G];rfl
@[simp]theorem eK{α}(l)(i)(x:α):bn l i x=l.set i x:=by induction l generalizing i with|nil=>rfl|cons a l G=>cases i<;>first|rename_i i;show a::bn l i x=_;rw[G];rfl|rfl
@[simp]theorem l6{α}(n)(x:α):jl n x=bR n x:=by induction n with|zero=>rfl|succ n G=>show x::jl n x=_;rw[G];rfl
@[simp]theorem ot(l):mE l=l.map V.im:=by induction l with|nil=>rfl|cons a l G=>show V.im a::mE l=_;rw[G];rfl
theorem ct(h)(a):ao h a=(h[a]?).join:=by unfold ao;rw[cu];cases h[a]?<;>rfl
theorem EU(a)(c:Heap)(b)(x):aE (a::c) (b+1) x=a::aE c b x:=rfl
theorem bX(h)(a)(x):(aE h a x).length=if a<h.length then h.length else h.length+1:=by induction h generalizing a with|nil=>rfl|cons b c G=>cases a with|zero=>rfl|succ a=>rw[EU,lJ];grind
theorem bP(h)(a m)(x)(b:a<=h.length):ao (aE h a x) m=if m=a then I x else ao h m:=by induction h generalizing a m with|nil=>grind[ct,aE]|cons c d G=>cases a with|zero=>grind[aE,ct]|succ a=>cases m with|zero=>rfl|succ m=>simp_all[EU,ct,List.getElem?_cons_succ,G a m (by simpa using b)]
theorem eV{h}{a}{b}(e:ao h a=I b):a<h.length:=by rw[ct]at e;grind
structure eE(w w':World):Prop where
 block:∀r:Nat,r<w.heap.size->w'.heap[r]?=w.heap[r]?
def eE.cell{w b}(c:eE w b):∀a v,w.cell? a=I v->b.cell? a=I v:=λa v e=>(World.cell?_of_block (w:=w) (c.block a.block (yR w a e))).trans e
theorem eE.frozen{w b}(c:eE w b):∀a v,w.cell? a=I v->b.frozen? a=w.frozen? a:=λa _ e=>World.frozen?_of_block (w:=w) (c.block a.block (yR w a e))
def eE.obj{w b}(c:eE w b):∀(a:Nat)(o),w.heap[a]?=I o->b.heap[a]?=I o:=λa _ e=>(c.block a (Array.getElem?_eq_some_iff.1 e).1).trans e
def eE.refl(w):eE w w:=⟨λ_ _=>rfl⟩
def ayS{w b:World}(c:∀a:Nat,a<w.heap.size->b.heap[a]?=w.heap[a]?):w.heap.size<=b.heap.size:=by grind
theorem eE.trans{a b c}(h:eE a b)(f:eE b c):eE a c:=⟨λd e=>(f.block d (fx e (ayS h.block))).trans (h.block d e)⟩
def eE.Bj{w a}(h:Below w.heap.size w a):eE w a:=⟨h.block⟩
def Qp(w)(a):Below w.heap.size w (w.alloc a):=(Below.refl _ _).alloc (aH _) a
def IP(w):Below w.heap.size w w.drew:=(Below.refl _ _).drew
def eE.alloc(w)(a):eE w (w.alloc a):=.Bj (Qp w a)
class Gh where
 K:Nat->Nat->Code->Prop
 G:IV->Prop
 gm:∀{C C':IV},C.le C'->G C->G C'
variable [Gh]
structure CI(C:IV)(w:World):Prop where
 ci:∀a v,C a=I v->w.cell? a=I v
 gl:Gh.G C
instance{b:IV}{w:World}:CoeFun (CI b w) λ_=>∀a v,b a=I v->w.cell? a=I v:=⟨CI.ci⟩
theorem CI.keep{b}{w c}(h:CI b w)(k:eE w c):CI b c:=⟨λa v e=>k.cell a v (h a v e),h.gl⟩
theorem cK.keep{w b}{a}{vs}(h:cK w.cell? a vs)(k:eE w b):cK b.cell? a vs:=λc v e=>k.cell _ v (h c v e)
def fY(w:World)(O:Addr->Prop)(a:Addr)(i c:Nat):Prop:=∀b,i<=b->b<c->O (a.add b)/\(∃v,w.cell? (a.add b)=I v)/\w.frozen? (a.add b)=Y
theorem fY.keep{w b}{O}{a}{i n}(h:fY w O a i n)(k:eE w b):fY b O a i n:=λg d f=>let⟨j,⟨v,e⟩,c⟩:=h g d f;⟨j,⟨v,k.cell _ v e⟩,(k.frozen _ v e).trans c⟩
structure H2(X:Cx)(f:Nat)(t:Tm)(ps:List Nat)(rV body:Code)(r:Loop):Prop where
 UB:r.state=.ready
 aeY:r.pending=U
 Uz:r.params.toList=ps
 aeW:r.assign=rV
 aeX:r.body=body
 qt:∀i,an X (t.get i) N [r.tmps.getD i undef]
 qlt:∀p∈ps,p<r.tmps.size
 k1:Gh.K f r.tmps.size rV
 k2:Gh.K f r.tmps.size body
theorem H2.mono{n}{X b}{d}{a}{ps}{c body}{r}(h:H2 X d a ps c body r)(e:∀i,(a.get i).low n)(f:X.le n b):H2 b d a ps c body r:=⟨h.UB,h.aeY,h.Uz,h.aeW,h.aeX,λi=>(h.qt i).mono f _ _ _ (e i),h.qlt,h.k1,h.k2⟩
def iC(X:Cx):List (D×V)->List MapEntry->Prop|[],a=>a=[]|e::c,a=>∃m b,a=m::b/\aR X.C e.1 N [m.key]/\an X e.2 N [m.val]/\iC X c b
def BR(X:Cx)(w:World)(O:Addr->Prop)(e:Nat):dn->Prop|.cell v=>∃bi a ws,X.M e=I bi/\bi.g=0/\bi.fix=N/\bi.base=I a/\a.spot=U/\an X v Y ws/\cK w.cell? a ws/\fY w O a 0 ws.length|.arr f b g l=>∃bi,X.M e=I bi/\bi.g=f/\bi.fix=Y/\(l.length<=bi.cap/\g<=l.length)/\bi.cap<=fy/\(bi.cap=0∨(bi.s=b/\∃a c,bi.base=I a/\a.spot=U/\bH X.C l Y c/\(∀ws∈c,ws.length=b)/\cK w.cell? a c.flatten/\cK X.C a (c.flatten.take (g*b))/\fY w O a (g*b) (bi.cap*b)))|.cG f b l=>∃bi,X.M e=I bi/\bi.g=f/\bi.fix=Y/\l.length<=bi.cap/\bi.cap<=fy/\(bi.cap=0∨(bi.s=b/\∃a c,bi.base=I a/\a.spot=U/\bL X l Y c/\(∀ws∈c,ws.length=b)/\cK w.cell? a c.flatten/\fY w O a 0 (bi.cap*b)))|.mp k=>∃bi d h j,X.M e=I bi/\bi.g=0/\bi.fix=N/\bi.base=I ⟨d,0,U⟩/\w.heap[d]?=I (.map h j)/\O ⟨d,0,U⟩/\iC X k h.toList|.lp m n ps i body=>∃bi l d,X.M e=I bi/\bi.g=0/\bi.fix=N/\bi.base=I ⟨l,0,U⟩/\w.heap[l]?=I (.loop d)/\O ⟨l,0,U⟩/\H2 X m n ps i body d
structure HR(B:Nat)(X:Cx)(O:Nat->Addr->Prop)(w:World)(h:Heap):Prop where
 dN:∀b k,ao h b=I k->BR X w (O b) b k
 own:∀b a,O b a->B<=a.block/\a.block<w.heap.size/\X.C a=U
 gH:∀b c a,O b a->O c a->b=c
 lt:X.lt h.length
 ci:CI X.C w
 wb:B<=w.heap.size
def dn.lT(a:Nat):dn->Prop|.cell v=>v.low a|.arr _ _ _ _=>True|.cG _ _ l=>V.lT a l|.mp b=>∀e∈b,e.2.low a|.lp _ c _ _ _=>∀i,(c.get i).low a
theorem iC.mono{n}{X b}(h:X.le n b):∀{a}{f},(∀e∈a,e.2.low n)->iC X a f->iC b a f|[],_,_,d=>zT|e::a,_,c,d=>by have⟨m,l,e1,g,i,j⟩:=d;exact⟨m,l,e1,g.mono h.C,i.mono h _ _ _ (c _ zS),iC.mono h (λx k=>c x (by simp[k])) j⟩
theorem iC.low{d}{X}(c:X.lt d):∀{a}{i},iC X a i->∀e∈a,e.2.low d|[],_,_=>zS|e::a,_,h=>by have⟨m,k,e1,j,f,g⟩:=h;intro x b;rcases dM.1 b with rfl|b;exact an.low c _ _ _ f;exact iC.low c g x b
theorem BR.low{n}{X}{w}{O}{d}{b}(a:X.lt n)(h:BR X w O d b):b.lT n:=by cases b with|cell v=>have⟨bi,c,ws,_,_,_,_,_,h,_⟩:=h;exact an.low a _ _ _ h|cG e g l=>have⟨bi,p,q,hf,r,_,h⟩:=h;rcases h with h|⟨_,c,x,_,_,h,_⟩;simp_all[dn.lT,V.lT];exact bL.low a _ _ _ h|mp m=>have⟨bi,f,s,k,_,_,_,_,_,_,h⟩:=h;exact iC.low a h|arr e g t l=>trivial|lp o u ps j body=>have⟨bi,l,f,_,_,_,_,_,_,h⟩:=h;exactλi=>an.low a _ _ _ (h.qt i)
def BR.later{H}{X v}{w K}{O G}{b}{k}(h:BR X w O b k)(c:X.lt H)(o:X.le H v)(r:v.M b=X.M b)(n:eE w K)(s:∀a,O a->G a):BR v K G b k:=by have u:=h.low c;cases k<;>first|rename_i M E m l;have⟨bi,c,d,f,g,i,j⟩:=h;refine⟨bi,r.trans c,d,f,g,i,j.imp id ?_⟩;rintro⟨e,p,F,m,q,D,z,B,C,v⟩;exact⟨e,p,F,m,q,D.mono o.C,z,B.keep n,C.mono o.C,λt a b=>let⟨x,y⟩:=v.keep n t a b;⟨s _ x,y⟩⟩|rename_i M E l;have⟨bi,c,d,f,g,i,j⟩:=h;refine⟨bi,r.trans c,d,f,g,i,j.imp id ?_⟩;rintro⟨e,p,F,m,q,D,z,B,C⟩;exact⟨e,p,F,m,q,D.mono o _ _ _ u,z,B.keep n,λt a b=>let⟨x,y⟩:=C.keep n t a b;⟨s _ x,y⟩⟩|have⟨bi,p,ws,c,d,f,g,i,j,m,q⟩:=h;exact⟨bi,p,ws,r.trans c,d,f,g,i,j.mono o _ _ _ u,m.keep n,λt a b=>let⟨x,y⟩:=q.keep n t a b;⟨s _ x,y⟩⟩|have⟨bi,E,b,L,c,d,f,g,i,j,m⟩:=h;exact⟨bi,E,b,L,r.trans c,d,f,g,n.obj _ _ i,s _ j,m.mono o u⟩|rename_i p q ps b body;have⟨bi,l,E,c,d,f,g,i,j,m⟩:=h;exact⟨bi,l,E,r.trans c,d,f,g,n.obj _ _ i,s _ j,m.mono u o⟩
theorem HR.keep{B}{X}{O}{w d}{h}(b:HR B X O w h)(f:eE w d)(g:w.heap.size<=d.heap.size):HR B X O d h:=⟨λc i e=>(b.dN c i e).later b.lt (.refl _ _) rfl f (λ_ h=>h),λc a j=>let⟨x,y,z⟩:=b.own c a j;⟨x,fx y g,z⟩,b.gH,b.lt,b.ci.keep f,bY b.wb g⟩
structure FR(X:Cx)(O:Nat->Addr->Prop)(w:World)(h:Heap)(X':Cx)(O':Nat->Addr->Prop)(w':World)(h':Heap):Prop where
 gJ:∀b bi,X.M b=I bi->ao h b=U->ao h' b=U
 M:∀b bi,X.M b=I bi->ao h b=U->X'.M b=I bi
 own:∀b bi,X.M b=I bi->ao h b=U->∀a,O b a->O' b a
 cell:∀b bi,X.M b=I bi->ao h b=U->∀a,O b a->∀v,w.cell? a=I v->w'.cell? a=I v/\w'.frozen? a=w.frozen? a
 obj:∀b bi,X.M b=I bi->ao h b=U->∀r:Nat,O b ⟨r,0,U⟩->∀o,w.heap[r]?=I o->o.isCells=Y->w'.heap[r]?=I o
 oU:∀b,ao h' b=U->ao h b=U
 q9:∀b,b<h.length->X.M b=U->ao h' b=U->X'.M b=U
def FR.refl(X)(O)(w)(h):FR X O w h X O w h:=⟨λ_ _ _ e=>e,λ_ _ e _=>e,λ_ _ _ _ _ a=>a,λ_ _ _ _ _ _ _ e=>⟨e,rfl⟩,λ_ _ _ _ _ _ _ e _=>e,λ_ e=>e,λ_ _ e _=>e⟩
theorem FR.trans{X m n}{O k l}{a i o}{h j r}(f:FR X O a h m k i j)(g:FR m k i j n l o r)(C:a.heap.size<=i.heap.size)(y:h.length<=j.length):FR X O a h n l o r where gJ:=λb bi e c=>g.gJ b bi (f.M b bi e c) (f.gJ b bi e c);M:=λb bi e c=>g.M b bi (f.M b bi e c) (f.gJ b bi e c);own:=λb bi e c x d=>g.own b bi (f.M b bi e c) (f.gJ b bi e c) x (f.own b bi e c x d);cell:=λb bi e c x d v ev=>let⟨p,q⟩:=f.cell b bi e c x d v ev;let⟨z,B⟩:=g.cell b bi (f.M b bi e c) (f.gJ b bi e c) x (f.own b bi e c x d) v p;⟨z,B.trans q⟩;obj:=λb bi e c x d u w t=>g.obj b bi (f.M b bi e c) (f.gJ b bi e c) x (f.own b bi e c _ d) u (f.obj b bi e c x d u w t) t;oU:=λb e=>f.oU b (g.oU b e);q9:=λb s e c=>g.q9 b (fx s y) (f.q9 b s e (g.oU b c)) c
theorem FR.keep{X}{O}{w b}{h}(a:eE w b):FR X O w h X O b h:=⟨λ_ _ _ e=>e,λ_ _ e _=>e,λ_ _ _ _ _ c=>c,λ_ _ _ _ _ _ _ e=>⟨a.cell _ _ e,a.frozen _ _ e⟩,λ_ _ _ _ _ _ _ e _=>a.obj _ _ e,λ_ e=>e,λ_ _ e _=>e⟩
def BR.ans{n}{X D}{w c}{O d}{h f}(r:FR X O w h D d c f)(P:CI D.C c){b}{bi}(o:X.M b=I bi)(t:ao h b=U){k}(u:BR X w (O b) b k)(g:X.lt n)(B:X.le n D):BR D c (d b) b k:=by have M:=u.low g;have L:D.M b=X.M b:=(r.M b bi o t).trans o.symm;have R:∀{a}{i n},fY w (O b) a i n->fY c (d b) a i n:=λm c g d=>let⟨f,⟨v,e⟩,j⟩:=m c g d;let⟨p,q⟩:=r.cell b bi o t _ f v e;⟨r.own b bi o t _ f,⟨v,p⟩,q.trans j⟩;cases k with|cell v=>have⟨bi,E,ws,g,d,x,j,y,m,z,C⟩:=u;exact⟨bi,E,ws,L.trans g,d,x,j,y,m.mono B _ _ _ M,λc v e=>(r.cell b _ o t _ (C c (bN _) (cH.1 e).1).1 v (z c v e)).1,R C⟩|arr V s Q l=>have⟨bi,g,d,x,j,y,m⟩:=u;refine⟨bi,L.trans g,d,x,j,y,m.imp id ?_⟩;rintro⟨e,E,f,z,C,K,F,D,H,T⟩;refine⟨e,E,f,z,C,K.mono B.C,F,λc v ev=>?_,H.mono B.C,R T⟩;by_cases S:c<Q*s;exact P _ _ (B.C _ _ (H c v zG));(have Q:f.flatten.length=l.length*s:=by(have:=by(have key:∀l:List (List Value),(∀ws∈l,ws.length=s)->l.flatten.length=l.length*s:=by intro l W;induction l with|nil=>simp|cons a l G=>grind);exact key f F);rw[this];(have S:∀{l}{f},bH X.C l Y f->f.length=l.length:=by intro l;induction l with|nil=>simp[bH]|cons a l G=>simp_all[bH,G,d]);rw[S K]);(have P:c<bi.cap*s:=by have:=(cH.1 ev).1;rw[Q]at this;exact fx this (ew _ j.1));exact(r.cell b _ o t _ (T c J P).1 v (D c v ev)).1|cG V s l=>have⟨bi,g,d,x,j,y,m⟩:=u;refine⟨bi,L.trans g,d,x,j,y,m.imp id ?_⟩;rintro⟨e,E,f,z,C,K,F,D,H⟩;refine⟨e,E,f,z,C,K.mono B _ _ _ M,F,λc v ev=>?_,R H⟩;(have Q:f.flatten.length=l.length*s:=by(have key:∀l:List (List Value),(∀ws∈l,ws.length=s)->l.flatten.length=l.length*s:=by intro l W;induction l with|nil=>simp|cons a l G=>grind);rw[key f F];(have S:∀{l}{f},bL X l Y f->f.length=l.length:=by intro l;induction l with|nil=>simp[bL]|cons a l G=>simp_all[bL,G,d]);rw[S K]);(have P:c<bi.cap*s:=by have:=(cH.1 ev).1;rw[Q]at this;exact fx this (ew _ j));exact(r.cell b _ o t _ (H c (bN _) P).1 v (D c v ev)).1|mp c=>have⟨bi,u,f,c,g,d,x,j,y,m,z⟩:=u;exact⟨bi,u,f,c,L.trans g,d,x,j,r.obj b _ o t _ m _ y rfl,r.own b _ o t _ m,z.mono B M⟩|lp f0 f ps c body=>have⟨bi,l,u,g,d,x,j,y,m,z⟩:=u;exact⟨bi,l,u,L.trans g,d,x,j,r.obj b _ o t _ m _ y rfl,r.own b _ o t _ m,z.mono M B⟩
def Cx.h9(X:Cx)(C:IV):Cx:={X with C}
def HR.more{B}{X}{O}{w}{h}(c:HR B X O w h){d}(hC:X.C.le d)(g:CI d w)(i:∀b a,O b a->d a=U):HR B (X.h9 d) O w h:=⟨λb j e=>(c.dN b j e).later c.lt ⟨hC,λ_ bi _ e=>⟨bi,e,aH _,λ_=>rfl,λ_=>rfl⟩,λ_ _ e=>e⟩ rfl (.refl w) (λ_ h=>h),λb a f=>⟨(c.own b a f).1,(c.own b a f).2.1,i b a f⟩,c.gH,c.lt,g,c.wb⟩
end
section
variable [Gh]
def aX{α β:Type}(R:α->β->Prop):List α->List β->Prop|[],a=>a=[]|x::c,a=>∃y b,a=y::b/\R x y/\aX R c b
namespace aX
variable{α β γ:Type}{R:α->β->Prop}
theorem nil:aX R [] []:=rfl
theorem cons{x}{y}{b}{a}(h:R x y)(c:aX R b a):aX R (x::b) (y::a):=⟨y,a,rfl,h,c⟩
def aAs{x}{y}{b}{c}:aX R (x::b) (y::c)↔R x y/\aX R b c:=⟨λ⟨_,_,e,h,a⟩=>zG,λ⟨h,a⟩=>cons h a⟩
theorem len:∀{a}{b},aX R a b->b.length=a.length|[],_,h=>by cases h;rfl|_::_,_,⟨_,_,e,_,c⟩=>by subst e;simp[len c]
theorem get:∀{xs}{a}{i:Nat}{x},aX R xs a->xs[i]?=I x->∃y,a[i]?=I y/\R x y|[],_,_,_,_,e=>zT|_::_,_,0,_,⟨y,c,e,h,_⟩,e1=>zG|_::_,_,i+1,_,⟨_,_,e,_,b⟩,e1=>by subst e;simpa using get (i:=i) b zT
theorem set:∀{xs}{c}{i}{x}{y},aX R xs c->R x y->aX R (xs.set i x) (c.set i y)|[],_,_,_,_,h,_=>by cases h;rfl|_::_,_,0,_,_,⟨_,d,e,_,b⟩,a=>by simp_all[cons,a,b]|_::_,_,i+1,_,_,⟨_,_,e,h,b⟩,a=>by subst e;exact cons h (set b a)
theorem app:∀{b c}{d f},aX R b d->aX R c f->aX R (b++c) (d++f)|[],_,_,_,h,a=>by cases h;exact a|_::_,_,_,_,⟨_,_,e,h,a⟩,g=>by subst e;exact cons h (app a g)
theorem take:∀{xs}{a}(n),aX R xs a->aX R (xs.take n) (a.take n)|_,_,0,_=>by rfl|[],_,_+1,h=>by cases h;rfl|_::_,_,n+1,⟨_,_,e,h,b⟩=>by subst e;exact cons h (take n b)
theorem drop:∀{xs}{a}(n),aX R xs a->aX R (xs.drop n) (a.drop n)|_,_,0,h=>zT|[],_,_+1,h=>by cases h;rfl|_::_,_,n+1,⟨_,_,e,_,b⟩=>by subst e;exact drop n b
theorem rep{x}{y}(h:R x y):∀n:Nat,aX R (bR n x) (bR n y)|0=>rfl|n+1=>cons h (rep h n)
def imp{a}(b:∀x y,R x y->a x y):∀{c}{d},aX R c d->aX a c d|[],_,h=>h|_::_,_,⟨y,g,e,h,f⟩=>⟨y,g,e,b _ _ h,imp b f⟩
def imp'{b}:∀{a}{d},(∀x∈a,∀y,R x y->b x y)->aX R a d->aX b a d|[],_,_,h=>h|x::_,_,c,⟨y,i,e,h,g⟩=>⟨y,i,e,c x zS y h,imp' (λz f=>c z (by simp[f])) g⟩
theorem K2{c}:∀{d:List γ}{f},aX (λx y=>R (c x) y) d f↔aX R (d.map c) f|[],_=>Iff.rfl|_::_,_=>⟨λ⟨y,b,e,h,a⟩=>⟨y,b,e,h,K2.1 a⟩,λ⟨y,b,e,h,a⟩=>⟨y,b,e,h,K2.2 a⟩⟩
def erase:∀{b}{c}(i),aX R b c->aX R (b.eraseIdx i) (c.eraseIdx i)|[],_,_,h=>by cases h;rfl|_::_,_,0,⟨_,_,e,_,a⟩=>by simp_all[a]|_::_,_,i+1,⟨_,_,e,h,a⟩=>by subst e;exact cons h (erase i a)
def akF:∀{d f}{c},aX R (d++f) c->∃a b,c=a++b/\aX R d a/\aX R f b|[],_,c,h=>⟨[],c,rfl,rfl,h⟩|_::_,_,_,⟨y,_,e,h,j⟩=>by subst e;have⟨a,b,e,g,i⟩:=akF j;exact⟨y::a,b,by simp[e],cons h g,i⟩
end aX
theorem cA{a}{m}:∀{l}{aV},bH a l m aV↔aX (λb ws=>aR a b m ws) l aV|[],_=>by rfl|b::l,aV=>by simp[bH,aX];simp[cA (l:=l)]
theorem ff{X}{m}:∀{l}{a},bL X l m a↔aX (λb ws=>an X b m ws) l a|[],_=>by rfl|b::l,a=>by simp[bL,aX];simp[ff (l:=l)]
theorem v9{X}:∀{l}{a},iC X l a↔aX (λe m=>aR X.C e.1 N [m.key]/\an X e.2 N [m.val]) l a|[],_=>by rfl|b::l,a=>by simp[iC,aX];simp[v9 (l:=l),and_assoc]
def a8(a:Nat)(b:List (List Value)):Prop:=∀ws∈b,ws.length=a
theorem a8.len{s}{aV}(h:a8 s aV):aV.flatten.length=aV.length*s:=by induction aV with|nil=>simp|cons a l G=>rw[oZ,b8,h a zS,G (λx b=>h x (by simp[b])),lJ,nc,XU,Nat.add_comm]
theorem a8.get{c}:∀{d}{i b}{ws},a8 c d->d[i]?=I ws->b<c->d.flatten[i*c+b]?=ws[b]?|[],_,_,_,_,e,_=>zT|a::l,0,b,ws,h,e,f=>by simp at e;subst e;rw[oZ,Nat.zero_mul,dk,fQ (by rw[h a zS];omega)]|a::l,i+1,b,ws,h,e,f=>by have g:=h a zS;rw[oZ,jJ zG,g];have:(i+1)*c+b-c=i*c+b:=zG;rw[this];exact a8.get (λx j=>h x (by simp[j])) zT f
theorem a8.take{s}{aV}(h:a8 s aV)(n):a8 s (aV.take n):=λx a=>h x (List.mem_of_mem_take a)
theorem a8.drop{s}{aV}(h:a8 s aV)(n):a8 s (aV.drop n):=λx a=>h x (List.mem_of_mem_drop a)
theorem a8.app{b}{a c}(h:a8 b a)(e:a8 b c):a8 b (a++c):=λx d=>(b7.1 d).elim (h x) (e x)
theorem a8.set{c}{a}(h:a8 c a){i}{ws}(d:ws.length=c):a8 c (a.set i ws):=λx b=>by rcases List.mem_or_eq_of_mem_set b with b|rfl;exact h x b;omega
theorem a8.rep{a b}{ws}(d:ws.length=a):a8 a (bR b ws):=λx c=>zG
theorem a8.lq{s}:∀{c}{b},a8 s c->(c.take b).flatten=c.flatten.take (b*s)|[],b,_|a::l,0,_=>zS|a::l,b+1,h=>by have e:=h a zS;have e1:(b+1)*s-s=b*s:=zG;have d:a.take ((b+1)*s)=a:=List.take_of_length_le zG;rw[List.take_succ_cons,oZ,oZ,a8.lq (λx f=>h x (by simp[f])),List.take_append,e,e1,d]
theorem a8.uA{s}:∀{c}{b},a8 s c->(c.drop b).flatten=c.flatten.drop (b*s)|[],b,_|a::l,0,_=>zS|a::l,b+1,h=>by have e:=h a zS;have e1:(b+1)*s-s=b*s:=zG;have d:a.drop ((b+1)*s)=[]:=List.drop_eq_nil_of_le zG;rw[List.drop_succ_cons,oZ,a8.uA (λx f=>h x (by simp[f])),List.drop_append,e,e1,d,List.nil_append]
theorem Addr.add_add(a:Addr)(i b)(h:a.spot=U):(a.add i).add b=a.add (i+b):=by unfold yI;grind
theorem Addr.iF(a:Addr)(i)(h:a.spot=U):(a.add i).spot=U:=by grind[yI]
theorem Addr.zF(a:Addr)(i):(a.add i).block=a.block:=by grind[yI]
theorem Addr.pc{a:Addr}{i b}(h:a.spot=U)(e:a.add i=a.add b):i=b:=by unfold yI at e;grind
@[simp]theorem Addr.add_zero(a:Addr):a.add 0=a:=by rfl
theorem cK.drop{b}{a}(d:a.spot=U){c}(h:cK b a c)(n):cK b (a.add n) (c.drop n):=λf v e=>by rw[Addr.add_add a n f d];exact h _ v (by simpa using e)
theorem cK.take{b}{a}{c}(h:cK b a c)(n):cK b a (c.take n):=λd v e=>h d v (by grind)
def cK.row{c}{a}(g:a.spot=U){s}{b}(d:a8 s b)(h:cK c a b.flatten){i}{ws}(e:b[i]?=I ws):cK c (a.add (i*s)) ws:=λf v ev=>by have k:=d ws (cY e);have j:f<s:=zG;rw[Addr.add_add a _ f g];exact h _ v (by simp[d.get,e,j,ev])
theorem cK.nil{b}{a}:cK b a []:=λc v e=>zT
def Obj.lp:Obj->Bool|.loop _=>N|_=>Y
def xp{a}(h:Obj.lp a=N):a.isCells=Y:=by cases a<;>simp_all[Obj.lp,yP]
structure Up(B:Nat)(X:Cx)(w:World)(n:Nat)(X':Cx)(w':World):Prop where
 le:X.le n X'
 below:Below B w w'
 fresh:∀a v,X'.C a=I v->X.C a=U->B<=a.block
 obj:∀(r:Nat)(o:Obj),w.heap[r]?=I o->Obj.lp o=N->w'.heap[r]?=I o
def Up.refl(B n)(X)(w):Up B X w n X w:=⟨.refl _ _,.refl _ _,λa v e h=>zG,λ_ _ h _=>h⟩
theorem Up.trans{B n}{X d f}{a g c}(h:Up B X a n d g)(b:Up B d g n f c):Up B X a n f c:=⟨h.le.trans b.le,h.below.trans b.below,λx v e m=>by cases i:d.C x<;>first|rename_i u;exact h.fresh x u i m|exact b.fresh x v e i,λk j e l=>b.obj k j (h.obj k j e l) l⟩
def Up.less{B n d}{X c}{a b}(h:Up B X a n c b)(e:d<=n):Up B X a d c b:=⟨h.le.less e,h.below,h.fresh,h.obj⟩
theorem Up.keep{B n}{X}{w b}(hB:Below B w b)(c:eE w b):Up B X w n X b:=⟨.refl _ _,hB,λa v e h=>zG,λf d e _=>c.obj f d e⟩
def Cx.er(X:Cx)(b:Nat)(bi:BI):Cx:={X with M:=λa=>if a=b then I bi else X.M a}
theorem Cx.yA{X:Cx}{a}{bi}(c)(h:X.M a=U):X.le c (X.er a bi):=⟨.refl _,λd b _ e=>⟨b,by simp[Cx.er];grind,aH _,λ_=>rfl,λ_=>rfl⟩,λ_ _ e=>e⟩
theorem Cx.fP(X:Cx)(a)(bi):(X.er a bi).M a=I bi:=by simp[Cx.er]
theorem Cx.fV(X:Cx){a c}(bi)(h:c≠a):(X.er a bi).M c=X.M c:=by simp[Cx.er,h]
theorem HR.add{B}{X}{O}{w w'}{h}(f:HR B X O w h){c}(E:ao h c=U)(u:X.M c=U)(y:c<=h.length)(q:eE w w')(r:w.heap.size<=w'.heap.size)(bi)(j)(p)(o:∀a,j a->w.heap.size<=a.block/\a.block<w'.heap.size)(C:BR (X.er c bi) w' j c p):HR B (X.er c bi) (λb=>if b=c then j else O b) w' (aE h c p):=by have D:=λa v e=>yR w a (f.ci a v e);refine⟨λb z e=>?_,λb a g=>?_,λb k a g i=>?_,λb s e=>?_,f.ci.keep q,bY f.wb r⟩;rw[bP h c b p y]at e;by_cases d:b=c;grind;simp[aj d]at e|-;exact(f.dN b z e).later f.lt (Cx.yA _ u) (Cx.fV X bi d) q (λ_ h=>h);by_cases d:b=c;simp[d]at g;have⟨l,m⟩:=o a g;refine⟨bY f.wb l,m,?_⟩;(cases x:X.C a with|none=>exact x|some v=>grind);simp[aj d]at g;have⟨l,m,t⟩:=f.own b a g;exact⟨l,fx m r,t⟩;by_cases d:b=c<;>by_cases n:k=c;omega;simp[d]at g;simp[aj n]at i;have:=(o a g).1;have:=(f.own k a i).2.1;omega;simp[n]at i;simp[aj d]at g;have:=(o a i).1;have:=(f.own b a g).2.1;omega;simp[aj d]at g;simp[aj n]at i;exact f.gH b k a g i;rw[bX];by_cases d:b=c;grind;rw[Cx.fV X bi d]at e;have:=f.lt b s e;split<;>omega
theorem Up.add{B}{X}{w w'}{b}(c:X.M b=U)(hB:Below B w w')(d:eE w w')(m)(bi):Up B X w m (X.er b bi) w':=⟨Cx.yA _ c,hB,λa v e h=>(by simp_all[Cx.er,h]),λg f e _=>d.obj g f e⟩
theorem FR.add{X}{O}{w w'}{h}{n}(p:X.M n=U)(g:n<=h.length)(f:eE w w')(bi)(k)(d):FR X O w h (X.er n bi) (λb=>if b=n then k else O b) w' (aE h n d):=by have j:∀b c,X.M b=I c->b≠n:=λb c e q=>zG;refine⟨λb c e i=>?_,λb c e _=>?_,λb c e _ a o=>?_,λb c _ _ a _ v ev=>⟨f.cell _ _ ev,f.frozen _ _ ev⟩,λb c _ _ a _ o l _=>f.obj _ _ l,λb e=>?_,λb _ e i=>?_⟩;rw[bP h n b d g,aj (j b c e)];omega;rw[Cx.fV X bi (j b c e)];exact e;grind;rw[bP h n b d g]at e;grind;rw[bP h n b d g]at i;(split at i<;>try trivial);rename_i m;rw[Cx.fV X bi m];exact e
def avL{w:World}{a}{v}{b:Nat}{o}(e:w.heap[b]?=I o)(c:o.isCells=Y):(w.setCell a v).heap[b]?=I o:=by simp[World.setCell,Array.getElem?_modify];split;grind[yP];omega
def putCells(w:World)(a:Addr)(c:List Value)(i:Nat):World:=match c with|[]=>w|v::b=>putCells (w.setCell (a.add i) v) a b (i+1)
theorem Us(a):∀(c)(w)(i),(putCells w a c i).heap.size=w.heap.size|[],_,_=>rfl|v::b,w,i=>by rw[putCells,Us a b];simp
theorem Uq(a):∀(c)(w)(i)(x),(putCells w a c i).frozen? x=w.frozen? x|[],_,_,_=>rfl|v::b,w,i,x=>by rw[putCells,Uq a b];simp
def pL(a){d:Nat}{b}(c:b.isCells=Y):∀(g)(w)(i),w.heap[d]?=I b->(putCells w a g i).heap[d]?=I b|[],_,_,e=>e|v::f,w,i,e=>by exact pL a c f _ _ (avL e c)
theorem oF(a):∀(c)(w)(i)(x),(∀b,b<c.length->x≠a.add (i+b))->(putCells w a c i).cell? x=w.cell? x|[],_,_,_,_=>rfl|v::d,w,i,x,h=>by rw[putCells,oF a d _ _ x (λb f=>by have:=h (b+1) zP;grind)];exact Xx w (a.add i) x v (λe=>h 0 zS e.symm)
def Bt(a)(d:a.spot=U):∀(k)(w)(i),(∀b,b<k.length->∃u,w.cell? (a.add (i+b))=I u)->∀b v,k[b]?=I v->(putCells w a k i).cell? (a.add (i+b))=I v|[],_,_,_,_,_,e=>zT|u::j,w,i,h,0,v,e=>by simp at e;subst e;rw[putCells,oF a j _ _ _ (λb _ f=>by have:=Addr.pc d f;omega)];have⟨x,g⟩:=h 0 zS;exact World.cell?_setCell_same w (a.add i) _ g|u::j,w,i,h,b+1,v,e=>by rw[show i+(b+1)=i+1+b from J];refine Bt a d j _ _ (λc l=>?_) b v zT;have⟨x,g⟩:=h (c+1) zP;rw[show i+(c+1)=i+1+c from J]at g;refine⟨x,?_⟩;rw[Xx w (a.add i) (a.add (i+1+c)) u (λf=>by have:=Addr.pc d f;omega)];omega
def Uo{B}(a)(hB:B<=a.block):∀(c)(w)(i),Below B w (putCells w a c i)|[],_,_=>.refl _ _|v::b,w,i=>by exact((Below.refl B w).setCell (p:=a.add i) (by simp[Addr.zF,hB]) v).trans (Uo a hB b _ _)
theorem NJ{P}(a)(f:a.spot=U):∀(c)(w)(i),(∀v∈c,v.oneCell'=N)->(∀b,b<c.length->(∃u,w.cell? (a.add (i+b))=I u)/\w.frozen? (a.add (i+b))=Y)->(storeCells a c i).run P w=.ok () (putCells w a c i)|[],w,i,_,_=>rfl|v::o,w,i,e,h=>by have⟨⟨u,g⟩,hf⟩:=h 0 zS;rw[Nat.add_zero]at g hf;(have n:(store (a.add i) v).run P w=.ok () (w.setCell (a.add i) v):=by unfold store;have j:=e v zS;cases v<;>simp[Sem.run,g,hf,rm]at j|-);have m:=NJ (P:=P) a f o (w.setCell (a.add i) v) (i+1) (λx d=>e x (by simp[d])) (λb p=>by have⟨⟨x,d⟩,l⟩:=h (b+1) zP;rw[show i+(b+1)=i+1+b from J]at d l;refine⟨⟨x,?_⟩,zU⟩;rw[Xx w (a.add i) (a.add (i+1+b)) v (λk=>by have:=Addr.pc f k;omega)];omega);simp[storeCells,kj,putCells,n,tm,m]
theorem cK.put{w}{a b}{g f}(h:cK w.cell? b f)(i)(k:∀c d,c<f.length->d<g.length->b.add c≠a.add (i+d)):cK (putCells w a g i).cell? b f:=λc v e=>by rw[oF a g w i _ (λd j=>k c d (cH.1 e).1 j)];exact h c v e
theorem fY.put{w}{O}{b}{i n}(h:fY w O b i n)(a)(p:a.spot=U)(c)(f)(q:∀d,d<c.length->∃u,w.cell? (a.add (f+d))=I u):fY (putCells w a c f) O b i n:=λd l o=>by have⟨r,⟨v,e⟩,k⟩:=h d l o;refine⟨r,?_,by simp[Uq,k]⟩;by_cases j:∃m,m<c.length/\b.add d=a.add (f+m);have⟨m,hm,g⟩:=j;exact⟨_,by rw[g];exact Bt a p c w f q m c[m] zS⟩;refine⟨v,?_⟩;rw[oF a c w f _ (λm hm g=>j ⟨m,hm,g⟩)];exact e
theorem BR.put{X}{w}{O}{L}{k}(h:BR X w O L k)(c:CI X.C w)(a)(E:a.spot=U)(p)(i)(f:∀b,b<p.length->¬O (a.add (i+b))/\X.C (a.add (i+b))=U)(F:∀b,b<p.length->∃u,w.cell? (a.add (i+b))=I u):BR X (putCells w a p i) O L k:=by have H:∀{K}{m M},fY w O K m M->∀b,m<=b->b<M->∀q,q<p.length->K.add b≠a.add (i+q):=λg b c d q x e=>(f q x).1 (by rw[<-e];exact(g b c d).1);cases k with|cell v=>have⟨bi,r,ws,c,d,g,f,j,n,o,t⟩:=h;exact⟨bi,r,ws,c,d,g,f,j,n,o.put i (λb q G x=>H t b (bN _) G q x),t.put a E p i F⟩|arr K s M l=>have⟨bi,c,d,g,f,j,n⟩:=h;refine⟨bi,c,d,g,f,j,n.imp id ?_⟩;rintro⟨e,r,y,o,t,C,z,D,B,L⟩;refine⟨e,r,y,o,t,C,z,D.put i (λb q G x P=>?_),B,L.put a E p i F⟩;(have L:y.flatten.length=l.length*s:=by rw[a8.len z,(cA.1 C).len]);by_cases P:b<M*s;have M:X.C (r.add b)=I y.flatten[b]:=B b _ zG;grind;have:l.length*s<=bi.cap*s:=ew _ f.1;grind|cG K s l=>have⟨bi,c,d,g,f,j,n⟩:=h;refine⟨bi,c,d,g,f,j,n.imp id ?_⟩;rintro⟨e,r,y,o,t,C,z,D,B⟩;(have L:y.flatten.length=l.length*s:=by rw[a8.len z,(ff.1 C).len]);have:l.length*s<=bi.cap*s:=ew _ f;exact⟨e,r,y,o,t,C,z,D.put i (λb q G x=>H B b (bN _) J q x),B.put a E p i F⟩|mp b=>have⟨bi,H,r,b,c,d,g,f,j,n,o⟩:=h;exact⟨bi,H,r,b,c,d,g,f,pL a rfl p w i j,n,o⟩|lp r t ps b body=>have⟨bi,l,H,c,d,g,f,j,n,o⟩:=h;exact⟨bi,l,H,c,d,g,f,pL a rfl p w i j,n,o⟩
theorem CI.put{b}{w}(h:CI b w)(a)(d)(i)(j:∀c,c<d.length->b (a.add (i+c))=U):CI b (putCells w a d i):=⟨λx v e=>by rw[oF a d w i x (λc g f=>zG)];exact h x v e,h.gl⟩
theorem HR.put{B}{X zY}{O}{w}{h}(d:HR B X O w h){b}(o:b<h.length)(q:X.le h.length zY)(hC:zY.C=X.C)(p:∀c,c≠b->zY.M c=X.M c)(t:zY.lt h.length)(a)(r:a.spot=U)(g)(i)(k:∀f,f<g.length->O b (a.add (i+f)))(s:∀f,f<g.length->∃u,w.cell? (a.add (i+f))=I u)(m)(y:BR zY (putCells w a g i) (O b) b m):HR B zY O (putCells w a g i) (aE h b m):=by refine⟨λc v e=>?_,λc x n=>?_,d.gH,λc bi e=>?_,?_,?_⟩;rw[bP h b c m (dj o)]at e;by_cases l:c=b;grind;simp[aj l]at e;exact((d.dN c v e).put d.ci a r g i (λf j=>⟨λn=>l (d.gH c b _ n (k f j)),(d.own b _ (k f j)).2.2⟩) s).later d.lt q (p c l) (.refl _) (λ_ h=>h);rw[Us,hC];exact d.own c x n;rw[bX,ay o];exact t c bi e;rw[hC];exact d.ci.put a g i (λf j=>(d.own b _ (k f j)).2.2);simp[Us,d.wb]
theorem FR.put{B}{X zY}{O}{w}{h}(u:HR B X O w h){b}{y}(m:ao h b=I y)(z:∀c,c≠b->zY.M c=X.M c)(a)(k)(i)(p:∀g,g<k.length->O b (a.add (i+g)))(l):FR X O w h zY O (putCells w a k i) (aE h b l):=by have n:∀c d,X.M c=I d->ao h c=U->c≠b:=λc d _ f C=>zG;(have t:∀c d,X.M c=I d->ao h c=U->∀x,O c x->∀g,g<k.length->x≠a.add (i+g):=λc d e f x j g r q=>by subst q;exact n c d e f (u.gH c b _ j (p g r)));refine⟨λc d e f=>?_,λc d e f=>?_,λ_ _ _ _ _ j=>j,λc d e f x j v ev=>⟨?_,?_⟩,λc d e f x j D o s=>pL a s k w i o,λc e=>?_,λc _ e f=>?_⟩;rw[bP h b c l (dj (eV m)),aj (n c d e f)];omega;grind;rw[oF a k w i x (t c d e f x j)];omega;rw[Uq];rw[bP h b c l (dj (eV m))]at e;grind;rw[bP h b c l (dj (eV m))]at f;grind
theorem HR.size{B}{X}{O}{w}{h}(_:HR B X O w h){w'}(a:Below B w w'):w.heap.size<=w'.heap.size:=a.size
theorem ud:∀{l}{a},ga l=I a->l=a.map V.im|[],a,h=>by grind[ga]|v::l,a,h=>by(cases v<;>simp[ga]at h<;>try contradiction);cases b:ga l with|none=>simp_all[ga,b]|some c=>have:=ud b;simp[ga]at b;rw[b]at h;grind
theorem zE{X}{m}{a}{b}:bL X (a.map V.im) m b↔bH X.C a m b:=by grind[ff,cA,aX.K2,an]
def PU{X}{w}{l}{m}{ws}(h:an X (.agg w l) m ws):an X (fK w l) m ws:=by unfold fK;cases a:ga l<;>first|have:=ud a;subst this;cases m<;>simp only[an,aR]at h|-<;>simpa only[zE]using h|exact h
def akn{X}{l}{ws}(h:an X (.aI l) N ws):an X (mH l) N ws:=by unfold mH;cases a:ga l with|none=>exact h|some b=>have:=ud a;grind[an,aR,zE]
theorem PT{X}{w}{l}{m}{ws}:an X (.im (.agg w l)) m ws↔an X (.agg w (l.map V.im)) m ws:=by cases m<;>simp[an,aR,zE]
theorem Tq(w)(l):(fK w l).wd=w:=by unfold fK;cases ga l<;>rfl
theorem an.wd{X}:∀{v}{ws},an X v Y ws->ws.length=v.wd|.undef,_,h=>zT|.im a,ws,h=>by simp[an]at h;(cases a<;>simp[aR,V.wd,D.wd]at h|-<;>try contradiction);all_goals grind|.agg w l,ws,h=>by have⟨_,_,_,h⟩:=h;exact h|.aI _,_,h=>zT|.own ..,_,h=>by have⟨_,h,_⟩:=h;subst h;rfl|.full _,_,h=>by have⟨_,h,_⟩:=h;subst h;rfl|.ptr ..,_,h=>by have⟨_,h,_⟩:=h;subst h;rfl|.fn ..,_,h=>by have⟨_,_,_,_,h,_⟩:=h;subst h;rfl|.ifc ..,_,h=>by have⟨_,h,_⟩:=h;subst h;rfl|.mp _,_,h=>by have⟨_,_,h,_⟩:=h;subst h;rfl|.jr _,_,h=>by have⟨_,h,_⟩:=h;subst h;rfl
def V.isAgg:V->Bool|.im (.agg _ _)|.agg _ _=>N|_=>Y
def V.plain:V->Bool|.undef|.aI _|.im (.aI _)=>Y|_=>N
theorem ze.one{b}{l}{v}(h:ze b l v):v.oneCell'=N:=by have⟨a,c,e,_⟩:=h;subst e;rfl
theorem an.one{X}{v}(n:v.plain=N)(k:v.isAgg=Y){m}{ws}(h:an X v m ws):∃x,ws=[x]/\x.oneCell'=N/\∀b,an X v b [x]:=by cases v with|undef=>trivial|im g=>(cases g<;>simp only[an,aR]at h<;>simp[V.plain]at n k<;>try contradiction);(all_goals first|subst h;refine⟨_,rfl,rfl,λb=>?_⟩;rfl|have e:=h.1;subst e;refine⟨_,rfl,rfl,λb=>?_⟩;trivial|have⟨d,e,c⟩:=h;subst e;refine⟨_,rfl,rfl,λb=>?_⟩;simp only[an,aR];grind|have⟨d,f,e,c⟩:=h;subst e;refine⟨_,rfl,rfl,λb=>?_⟩;simp[an,aR];grind|have⟨d,f,g,e,c⟩:=h;subst e;refine⟨_,rfl,rfl,λb=>?_⟩;exact⟨d,f,g,rfl,c⟩)|agg w l=>trivial|aI l=>trivial|own d j r len aL=>have⟨x,e,c⟩:=h;exact⟨x,e,c.one,λb=>by simp[an];grind⟩|full l=>have⟨x,e,c⟩:=h;exact⟨x,e,c.one,λb=>by simp[an];grind⟩|ptr d j p=>have⟨x,e,c⟩:=h;exact⟨x,e,c.one,λb=>by simp[an];grind⟩|fn o a f=>have⟨q,cs,t,u,e,c⟩:=h;subst e;exact⟨_,rfl,rfl,λb=>by simp only[an];grind⟩|ifc s v=>have⟨x,e,c⟩:=h;subst e;exact⟨_,rfl,rfl,λb=>by simp[an];grind⟩|mp d=>have⟨c,bi,e,h⟩:=h;subst e;exact⟨_,rfl,rfl,λb=>by simp only[an];grind⟩|jr i=>have⟨l,e,c⟩:=h;subst e;exact⟨_,rfl,rfl,λb=>by simp only[an];grind⟩
theorem an.DH{X}{v}(b:v.isAgg=N){ws}:an X v N ws↔∃cs:Array Value,ws=[.agg cs]/\an X v Y cs.toList:=by(have key:∀w l,an X (.agg w l) N ws↔∃cs:Array Value,ws=[.agg cs]/\an X (.agg w l) Y cs.toList:=λw l=>by simp only[an];simp);cases v with|im a=>(cases a<;>simp[V.isAgg]at b<;>try contradiction);grind[PT]|agg w l=>exact key w l|_=>trivial
theorem avQ{x:Value}(h:x.oneCell'=N):x.cells=#[x]:=by cases x<;>first|rfl|trivial
theorem an.cells{X}{v}(d:v.plain=N){x}(h:an X v N [x]):an X v Y x.cells.toList:=by cases b:v.isAgg with|true=>have⟨cs,e,a⟩:=(an.DH b).1 h;cases e;exact a|false=>have⟨y,e,c,a⟩:=h.one d b;simp_all[avQ,c,a,Y]
theorem azZ(l)(b):iO l b=((l.take b).map V.wd).sum:=by induction l generalizing b with|nil=>simp[iO]|cons a l G=>cases b with|zero=>rfl|succ b=>show a.wd+iO l b=_;simp[G]
theorem ahR(l)(k):Hv l k=iO (l.map V.im) k:=by induction l generalizing k with|nil=>rfl|cons a l G=>cases k<;>first|rename_i k;show a.wd+Hv l k=(V.im a).wd+iO (l.map V.im) k;rw[G];rfl|rfl
theorem aga{X}:∀{l}{aV},bL X l Y aV->aV.flatten.length=(l.map V.wd).sum|[],_,h=>by grind[bL]|v::l,_,h=>by have⟨ws,c,e,a,b⟩:=h;subst e;simp[a.wd,aga b]
theorem an.split{X}{w}{l}{ws}(h:an X (.agg w l) Y ws){a g}(p:iO l a=g){c}(k:l[a]?=I c):∃pre cs post,ws=pre++(cs++post)/\pre.length=g/\an X c Y cs/\∀d b,an X d Y b->b.length=cs.length->an X (.agg w (l.set a d)) Y (pre++(b++post)):=by have⟨aV,e,j,q⟩:=h;have f:=ff.1 j;have⟨cs,i,n⟩:=f.get k;have o:=(cH.1 i).1;(have s:aV=aV.take a++(cs::aV.drop (a+1)):=by(have:aV.drop a=cs::aV.drop (a+1):=by rw[List.drop_eq_getElem_cons o];grind);rw[<-this,List.take_append_drop]);refine⟨(aV.take a).flatten,cs,(aV.drop (a+1)).flatten,?_,?_,n,λd b m r=>?_⟩;grind;have:=aga (X:=X) (l:=l.take a) (aV:=aV.take a) (ff.2 (f.take a));rw[this,<-p,azZ];refine⟨aV.set a b,?_,ff.2 (f.set m),?_⟩;all_goals grind
def Part(X:Cx)(v:V)(ws:List Value)(b:Nat)(a:V)(cs:List Value):Prop:=∃pre post,ws=pre++(cs++post)/\pre.length=b/\an X a Y cs
def KK{X}{v d}{c a}(h:v.eA c a=I d){ws}(e:an X v Y ws):∃cs,Part X v ws a d cs:=by(have key:∀w l,an X (.agg w l) Y ws->iO l c=a->l[c]?=I d->∃cs,Part X v ws a d cs:=λw l e m k=>by have⟨pre,cs,post,g,i,j,_⟩:=e.split m k;exact⟨cs,pre,post,g,i,j⟩);unfold V.eA at h;split at h;rename_i w l;cases b:ah (Hv l c) a<;>rw[b]at h<;>simp only[al,ai]at h;cases h;have f:=bQ b;rw[ahR]at f;exact key w (l.map V.im) (PT.1 e) f (by simpa using h);rename_i w l;cases b:ah (iO l c) a<;>rw[b]at h<;>simp only[al,ai]at h;cases h;rw[cu]at h;exact key w l e (bQ b) h;trivial
def Lc{X}:∀{p}{v c},v.e5 p=I c->∀{ws},an X v Y ws->∃cs,Part X v ws (jA p) c cs|[],v,c,h,ws,b=>by cases h;exact⟨ws,[],[],zS,rfl,b⟩|a::p,v,c,h,ws,b=>by have d:(V.eA v a.1 a.2).bind (λv=>V.e5 v p)=I c:=h;cases e:V.eA v a.1 a.2 with|none=>grind|some n=>rw[e]at d;have⟨o,pre,post,e1,g,l⟩:=KK e b;have⟨cs,k,j,f,i,m⟩:=Lc (p:=p) d l;refine⟨cs,pre++k,j++post,?_,?_,m⟩;all_goals simp[e1,f,jA,g,i]
def ab8{X}{v}{l}(h:v.kids=I l){ws}(a:an X v Y ws):an X (.agg v.wd l) Y ws:=by unfold V.kids at h;split at h;cases h;rw[ot];exact PT.1 a;cases h;exact a;trivial
def L9{X}{x}{xs}(k:an X x Y xs):∀{p}{v c},V.put x p v=I c->∀{ws},an X v Y ws->∃pre f post,ws=pre++(f++post)/\pre.length=jA p/\f.length=xs.length/\an X c Y (pre++(xs++post))/\c.wd=v.wd|[],v,c,h,ws,j=>by have a:(bif ah x.wd v.wd then I x else U)=I c:=h;cases d:ah x.wd v.wd<;>rw[d]at a<;>simp only[al,ai]at a;cases a;cases a;have e:=bQ d;exact⟨[],ws,[],zS,rfl,by rw[j.wd,k.wd,e],by simpa using k,e⟩|b::p,v,c,h,ws,j=>by have a:(v.kids.bind λl=>bif ah (iO l b.1) b.2 then(bE l b.1).bind λg=>(V.put x p g).map λi=>fK v.wd (bn l b.1 i)else U)=I c:=h;cases o:v.kids with|none=>grind|some l=>rw[o]at a;simp at a;cases d:ah (iO l b.1) b.2<;>rw[d]at a<;>simp only[al,ai]at a;cases a;cases n:l[b.1]? with|none=>grind|some g=>rw[n]at a;simp at a;cases q:V.put x p g with|none=>grind|some i=>rw[q]at a;simp at a;subst a;have⟨pre,cs,post,e1,u,y,f1⟩:=(ab8 o j).split (bQ d) n;have⟨t,f,s,m,w,r,z,B⟩:=L9 k q y;refine⟨pre++t,f,s++post,?_,?_,r,?_,Tq _ _⟩;simp[e1,m];simp[jA,u,w];have:=f1 i (t++(xs++s)) z (by simp[m,r]);have:=PU this;simpa using this
def X0:Cx:=⟨λ_=>U,λ_=>U,λ_=>U⟩
def Iu(X):X0.le 0 X:=⟨λ_ _ h=>zT,λ_ _ h=>J,λ_ _ h=>zT⟩
def DA:X0.lt 0:=λ_ _ h=>zT
def gU(P:Program)(b:Nat):TK->Prop|.bool=>P.underlying b=I .bool|.int j=>P.underlying b=I (.int j)|.str=>P.underlying b=I .string|.ptr=>∃e,P.underlying b=I (.pointer e)|.aw e=>P.underlying b=I (.slice e)|.arr k e=>P.underlying b=I (.array k e)|.st h=>∃g:Array Field,P.underlying b=some (.struct g)∧g.toList.map (λc=>(c.offset,P.cellsOf c.type,c.type))=h∧(∀c∈g.toList,c.name≠ "_"∧∃i,P.info? c.type=some i)∧P.stoodInHeld b=false|.fn=>∃a l m,P.underlying b=I (.func a l m)|.ifc nm=>∃f,P.underlying b=I (.interface f)/\nm=!f.isEmpty|.map j e=>P.underlying b=I (.map j e)|.oth=>∃d,P.underlying b=I d/\(∀h,d≠.struct h)/\(∀k e,d≠.array k e)/\∀f,d≠.interface f
structure iE(P:Program)(t:Nat)(ti:TI):Prop where
 info:∃i,P.info? t=I i/\i.size=ti.size/\i.bytes=ti.bytes/\∀x,ti.zero=x->x.plain=N->∃z,i.zero=I z/\an X0 x N [z]
 kind:gU P t ti.k
theorem run_sizeOf{P}{a}{b}(h:iE P a b)(w):(sizeOf a).run P w=.ok b.size w:=by have⟨i,c,d,_⟩:=h.info;simp[sizeOf,typeInfo,c,d]
theorem NI{P}{d}{c}(h:iE P d c)(w):(isAgg d).run P w=.ok (iw.kG c.k) w:=by have a:=h.kind;cases b:c.k with|ptr=>rw[b]at a;have⟨e,a⟩:=a;simp[isAgg,run_underlying a,iw.kG]|st g=>rw[b]at a;have⟨e,a,_⟩:=a;simp[isAgg,run_underlying a,iw.kG]|fn=>rw[b]at a;have⟨_,_,_,a⟩:=a;simp[isAgg,run_underlying a,iw.kG]|ifc nm=>rw[b]at a;have⟨_,a,_⟩:=a;simp[isAgg,run_underlying a,iw.kG]|oth=>rw[b]at a;have⟨f,a,i,j,_⟩:=a;cases f<;>simp[isAgg,run_underlying a,iw.kG];all_goals grind|_=>simp_all[gU,isAgg,run_underlying,a,iw.kG]
def ady{a}{v}(h:iw a v=N):v.isAgg=iw.kG a/\v.plain=N:=by cases v with|im b=>cases b<;>simp_all[iw,iw.Lx,V.isAgg,V.plain]|_=>grind[iw,V.isAgg,V.plain]
def nM{a}{v}(h:cz a v=N):v.wd=a.size/\v.isAgg=iw.kG a.k/\v.plain=N:=by simp only[cz,aK]at h;exact⟨bQ h.1,(ady h.2).1,(ady h.2).2⟩
def aAP{P}{w}{a}{v}(h:w.cell? a=I v)(m):(load a m).run P w=.ok v w:=zU
def VK{P}{f}{g}(c:iE P f g){X}{v}(n:cz g v=N){a}{ws}{w}(h:an X v Y ws)(d:cK w.cell? a ws):∃x,(loadVar f a).run P w=.ok x w/\an X v N [x]:=by have⟨i,j,k⟩:=nM n;have l:=h.wd;cases b:v.isAgg with|true=>refine⟨.agg ws.toArray,?_,(an.DH b).2 ⟨ws.toArray,rfl,J⟩⟩;have m:=run_loadCells_list (P:=P) (w:=w) a ws (λo v e=>d o v e);simp[loadVar,kj,NI c,<-j,b,tm,if_true,run_sizeOf c,<-i,<-l];simp[m]|false=>have⟨x,e,p,q⟩:=h.one k b;subst e;have:=d 0 x rfl;simp[loadVar,kj,NI c,b];simp_all
mutual
theorem aR.mP{a:IV}:∀{b:D} {ws:List Value},aR a b Y ws->∀x∈ws,x.oneCell'=N|.agg w l,_,h=>by simp only[aR]at h;have⟨d,e,c,_⟩:=h;subst e;exact bH.mP c|.aI _,_,h=>by simp[aR]at h|.bool _,ws,h|.int _ _,ws,h|.str _,ws,h|.nil,ws,h|.ref _,ws,h|.aw _,ws,h|.fn _,ws,h|.dP,ws,h|.ifc _ _,ws,h|.ez,ws,h|.mI,ws,h=>by simp only[aR]at h;first|subst h;simp[rm];done|have⟨h,_⟩:=h;subst h;simp[rm];done|have⟨_,h,_⟩:=h;subst h;simp[rm];done|have⟨_,_,h,_⟩:=h;subst h;simp[rm];done|have⟨_,_,_,h,_⟩:=h;subst h;simp[rm];done
theorem bH.mP{c:IV}:∀{l:List D} {b:List (List Value)},bH c l Y b->∀x∈b.flatten,x.oneCell'=N|[],_,h=>by simp only[bH]at h;subst h;simp|g::l,_,h=>by simp only[bH]at h;have⟨ws,i,e,d,f⟩:=h;subst e;intro x a;rw[oZ,b7]at a;exact a.elim (aR.mP d x) (bH.mP f x)
end
mutual
theorem an.mP{X:Cx}:∀{v:V} {ws:List Value},an X v Y ws->∀x∈ws,x.oneCell'=N|.agg w l,_,h=>by simp only[an]at h;have⟨d,e,b,_⟩:=h;subst e;exact bL.mP b|.im c,_,h=>by simp only[an]at h;exact h.mP|.undef,_,h=>by simp[an]at h|.aI _,_,h=>by simp[an]at h|.own ..,ws,h=>by simp only[an]at h;have⟨x,e,a⟩:=h;subst e;simp[a.one]|.full ..,ws,h=>by simp only[an]at h;have⟨x,e,a⟩:=h;subst e;simp[a.one]|.ptr ..,ws,h=>by simp only[an]at h;have⟨x,e,a⟩:=h;subst e;simp[a.one]|.fn ..,ws,h=>by simp only[an]at h;have⟨_,_,_,_,e,_⟩:=h;subst e;simp[rm]|.ifc ..,ws,h=>by simp only[an]at h;have⟨_,e,_⟩:=h;subst e;simp[rm]|.mp _,ws,h=>by simp only[an]at h;have⟨_,_,e,_⟩:=h;subst e;simp[rm]|.jr _,ws,h=>by simp only[an]at h;have⟨_,e,_⟩:=h;subst e;simp[rm]
theorem bL.mP{X:Cx}:∀{l:List V} {b:List (List Value)},bL X l Y b->∀x∈b.flatten,x.oneCell'=N|[],_,h=>by simp only[bL]at h;subst h;simp|f::l,_,h=>by simp only[bL]at h;have⟨ws,g,e,c,d⟩:=h;subst e;intro x a;rw[oZ,b7]at a;exact a.elim (an.mP c x) (bL.mP d x)
end
def ays{P}{e}{c}(l:iE P e c){X}{v}(m:cz c v=N){x}(h:an X v N [x]){a}(i:a.spot=U){w}(n:∀b,b<c.size->(∃u,w.cell? (a.add b)=I u)/\w.frozen? (a.add b)=Y):(storeVar e a x).run P w=.ok () (putCells w a x.cells.toList 0):=by have⟨f,_,g⟩:=nM m;have d:=h.cells g;(have j:x.cells.size=c.size:=by rw[<-f,<-d.wd];simp);have k:=NJ (P:=P) a i x.cells.toList w 0 (d.mP) (λb o=>zG);simp[storeVar,kj,run_sizeOf l,j];simp[k]
theorem ef{a b:Nat}(h:ah a b=N):a=b:=bQ h
theorem rY{a b:Nat}(h:br a b=N):a<=b:=Nat.le_of_ble_eq_true h
theorem aO{α:Type}{c}{x}{y:α}(h:(bif c then x else U)=I y):c=N/\x=I y:=by cases c<;>simp_all
def DD(a)(c:a.spot=U){pre cs post}{b}(h:cK b a (pre++(cs++post))):cK b (a.add pre.length) cs:=λd v e=>by rw[Addr.add_add a _ d c];exact h _ v zG
def acf{B}{X}{O}{w}{h}(H:HR B X O w h){k b}{p}{v}(j:eX h k b p=I v){x}(c:tN X k b p x):∃a ws,x=.pointer (I a)/\a.spot=U/\an X v Y ws/\cK w.cell? a ws:=by
 have⟨_,bi,G,b,K⟩:=c;unfold eX at j;split at j;rename_i b n;have⟨d,c⟩:=aO j;have⟨P,y,ws,d,R,S,E,t,f,u,b⟩:=H.dN k _ n;rw[G]at d;cases d;have⟨s,e1,_,m⟩:=K J;rw[E]at e1;cases e1;have⟨cs,pre,post,e,l,r⟩:=Lc c f;refine⟨_,cs,m,Addr.iF _ _ t,r,?_⟩;rw[<-l];exact DD y t (by rw[<-e];omega);rename_i W M g l n;split at j;rename_i i L q;have⟨o,c⟩:=aO j;rw[aK]at o;have⟨P,d,R,S,E,t,f⟩:=H.dN k _ n;rw[G]at d;cases d;have⟨s,e1,s1,m⟩:=K zU;rw[cu]at c;cases g:l[i]? with|none=>grind|some Q=>rw[g]at c;have R2:i<l.length:=(cH.1 g).1;(rcases f with f|⟨V,y,aV,u,b,F,C,D,_,_⟩<;>try grind);rw[u]at e1;cases e1;have⟨ws,z,T⟩:=(cA.1 F).get g;have EX:=D.row b C z;have⟨cs,pre,post,e,lp,r⟩:=Lc (X:=X) (v:=.im Q) c (ws:=ws) zT;refine⟨_,cs,m,Addr.iF _ _ b,r,?_⟩;(have:jA ((i,L)::q)=i*M+jA q:=by simp[jA,ef o.2]);rw[this,<-Addr.add_add s _ _ b,<-lp];exact DD _ (Addr.iF _ _ b) (by rw[<-e];omega)
 trivial;rename_i W M l n;split at j;rename_i i L q;have⟨o,c⟩:=aO j;rw[aK]at o;have⟨P,d,R,S,E,t,f⟩:=H.dN k _ n;rw[G]at d;cases d;have⟨s,e1,s1,m⟩:=K zU;rw[cu]at c;cases g:l[i]? with|none=>grind|some Q=>rw[g]at c;have R2:i<l.length:=(cH.1 g).1;(rcases f with f|⟨V,y,aV,u,b,F,C,D,_⟩<;>try grind);rw[u]at e1;cases e1;have⟨ws,z,T⟩:=(ff.1 F).get g;have EX:=D.row b C z;have⟨cs,pre,post,e,lp,r⟩:=Lc (X:=X) c (ws:=ws) T;refine⟨_,cs,m,Addr.iF _ _ b,r,?_⟩;(have:jA ((i,L)::q)=i*M+jA q:=by simp[jA,ef o.2]);rw[this,<-Addr.add_add s _ _ b,<-lp];exact DD _ (Addr.iF _ _ b) (by rw[<-e];omega)
 trivial;trivial
def rI(X:Cx)(w:World)(h:Heap)(d:IV)(f:Nat->Prop):Prop:=X.C.le d/\∀b bi a,f b->X.M b=I bi->bi.base=I a->(∀g e i l,ao h b=I (.arr g e i l)->∀c v,c<l.length*e->w.cell? (a.add c)=I v->d (a.add c)=I v)
def agU{X}{d f g len}{aL}{x}(h:pa X d f g len aL x){bi}(s:X.M d=I bi)(t:f=bi.g){c}{l}(u:l.length=len){a0}{aV}(v:bi.cap≠0->bi.base=I a0/\a0.spot=U/\bH c l Y aV/\a8 bi.s aV/\cK c (a0.add (g*bi.s)) aV.flatten){m}:aR c (.aw l) m [x]:=by have⟨_,z,e,_,w⟩:=h;rw[s]at e;cases e;have⟨a,cap,e1,i,j,B,_,b⟩:=w t;refine⟨a,len,cap,by rw[e1],u.symm,i,j,?_⟩;(rcases b with b|⟨y,b,C,k⟩<;>try grind);by_cases D:len=0;omega;have⟨n,o,p,q,r⟩:=v J;rw[n]at b;cases b;exact .inr ⟨_,aV,bi.s,k,Addr.iF _ _ o,p,q,r⟩
theorem Ec{α}(l:List α)(a len)(h:a+len<=l.length):ic l a len=(l.drop a).take len:=by unfold ic;cases b:(ah a 0&&ah len (aC l))with|false=>rfl|true=>simp_all
def uv{α}{a b c len}{l:List α}(h:fB a b c len l=N):a=b/\c+len<=l.length:=by simp[fB,bw]at h;simp_all
mutual
theorem ZR{X:Cx}{r:IV}(hC:X.C.le r){p:Nat->Nat->Nat->Nat->Option (List D)}{y:Nat->Prop}(u:∀g n q len l,y g->p g n q len=I l->∀aL x m,pa X g n q len aL x->aR r (.aw l) m [x]):∀(v:V) (f:D) (m:Bool) (ws:List Value),V.cO p v=I f->(∀g∈v.fc,y g)->an X v m ws->aR r f m ws|.im f,_,m,ws,h,_,b=>by simp only[V.cO]at h;cases h;simp only[an]at b;exact b.mono hC|.full l,f,m,ws,h,_,b=>by simp only[V.cO]at h;cases h;simp only[an]at b;obtain⟨x,e,a,B,e1,E,F,G⟩:=b.imp λ_ h=>h;subst e;simp only[aR];refine⟨a,B,B,by rw[e1],E,aH _,F,G.imp id ?_⟩;rintro⟨C,c,L,o,i,j,t,K⟩;exact⟨C,c,L,o,i,j.mono hC,t,K.mono hC⟩|.own g n q len aL,f,m,ws,h,k,b=>by simp only[V.cO]at h;cases d:p g n q len;rw[d]at h;cases h;rename_i l;rw[d]at h;simp only[jN,iW]at h;subst h;simp only[an]at b;obtain⟨x,e,b⟩:=b;subst e;exact u g n q len l (k g (by simp[V.fc])) d aL x m b|.agg w l,f,m,ws,h,k,b=>by simp only[V.cO]at h;cases d:V.eg p l;rw[d]at h;cases h;rename_i s;rw[d]at h;simp only[jN,iW]at h;subst h;have:=λc=>Ji hC u l s Y c d (by simpa[V.fc]using k);cases m<;>simp only[an,aR]at b|-;obtain⟨c,e,i,j⟩:=b;exact⟨c,e,this c i,j⟩;obtain⟨cs,c,e,o,i,j⟩:=b;exact⟨cs,c,e,o,this c i,j⟩|.aI l,f,m,ws,h,k,b=>by simp only[V.cO]at h;cases d:V.eg p l;rw[d]at h;cases h;rename_i s;rw[d]at h;simp only[jN,iW]at h;subst h;have:=λc=>Ji hC u l s N c d (by simpa[V.fc]using k);cases m<;>simp only[an,aR]at b|-;obtain⟨M,c,e,i,j⟩:=b;exact⟨M,c,e,this c i,j⟩|.fn z [] [],f,m,ws,h,k,b=>by simp only[V.cO]at h;cases h;simp only[an,bL]at b;obtain⟨H,cs,c,d,e,o,i,j,t⟩:=b;subst o;subst j;simp only[aR];(have:H=#[]:=by simpa using i);(have:cs=#[]:=by simpa using t);simp_all|.fn z (_::_) _,f,m,ws,h,_,_=>by simp[V.cO]at h|.fn z [] (_::_),f,m,ws,h,_,_=>by simp[V.cO]at h|.ifc ..,_,_,_,h,_,_=>by simp[V.cO]at h|.undef,_,_,_,h,_,_=>by simp[V.cO]at h|.ptr ..,_,_,_,h,_,_=>by simp[V.cO]at h|.mp _,_,_,_,h,_,_=>by simp[V.cO]at h|.jr _,_,_,_,h,_,_=>by simp[V.cO]at h
theorem Ji{X:Cx}{i:IV}(hC:X.C.le i){d:Nat->Nat->Nat->Nat->Option (List D)}{n:Nat->Prop}(q:∀a o r len l,n a->d a o r len=I l->∀aL x m,pa X a o r len aL x->aR i (.aw l) m [x]):∀(l:List V) (b:List D) (m:Bool) (g:List (List Value)),V.eg d l=I b->(∀a∈V.eP l,n a)->bL X l m g->bH i b m g|[],b,m,g,h,_,f=>by simp only[V.eg]at h;cases h;simpa only[bL,bH]using f|v::l,b,m,g,h,p,f=>by simp only[V.eg]at h;cases c:V.cO d v with|none=>rw[c]at h;cases h|some t=> cases j:V.eg d l;rw[c,j]at h;cases h;rename_i u;rw[c,j]at h;cases h;simp only[bL]at f;have⟨ws,s,e,w,y⟩:=f;simp only[bH];exact⟨ws,s,e,ZR hC q v t m ws c (λa k=>p a (by simp[V.eP,k])) w,Ji hC q l u m s j (λa k=>p a (by simp[V.eP,k])) y⟩
end
def adN{B}{X}{O}{w}{h}(F:HR B X O w h){f}{g}(p:rI X w h f g)(b i a len)(l)(z:g b)(d:gL h b i a len=I l)(aL)(x)(m)(s:pa X b i a len aL x):aR f (.aw l) m [x]:=by
 unfold gL at d;split at d;rename_i H e c t q;have⟨C,e1⟩:=aO d;have⟨c,D⟩:=uv C;cases e1;rw[Ec t a len D];have⟨bi,e,K,L,M,c,j⟩:=F.dN b _ q;have r:((t.drop a).take len).length=len:=by simp;omega
 by_cases G:bi.cap=0;exact agU s e J r (a0:=⟨0,0,U⟩) (aV:=[]) (λE=>absurd G E);rcases j with j|⟨u,a0,aV,k,n,o,c,y,_,_⟩<;>try trivial
 subst u;refine agU s e J r (a0:=a0) (aV:=(aV.drop a).take len) (λ_=>⟨k,n,?_,(a8.drop c a).take len,?_⟩);exact(cA.2 (((cA.1 o).drop a).take len)).mono p.1;intro d v ev;rw[Addr.add_add a0 _ _ n];rw[a8.lq (a8.drop c a),a8.uA c,jK]at ev;split at ev;rename_i a;rw[List.getElem?_drop]at ev;refine p.2 b bi a0 z e k _ _ _ _ q _ v ?_ (y _ v ev);have:=(cH.1 ev).1;rw[a8.len c,(cA.1 o).len]at this;omega;trivial;trivial
theorem amo(h)(v):V.data h v=V.cO (gL h) v:=by unfold V.data;split<;>simp only[V.cO]
theorem adS(v:V):v.owns=v.fc:=by cases v<;>simp[V.owns,V.fc]
def uw{B}{X}{O}{w}{h}(i:HR B X O w h){b}{c}(d:rI X w h b c){v}{a}(e:V.data h v=I a)(f:∀g∈v.owns,c g){m}{ws}(j:an X v m ws):aR b a m ws:=by rw[amo]at e;rw[adS]at f;exact ZR d.1 (adN i d) v a m ws e f j
def oa(B:Nat)(X:Cx)(w:World):IV:=λa=>if B<=a.block then w.cell? a else X.C a
def IU{B}{X}{w}(h:CI X.C w):CI (oa B X w) w:=⟨λa v e=>by unfold oa at e;(split at e<;>try grind);exact h a v e,Gh.gm (λa v e=>by unfold oa;split;exact h a v e;omega) h.gl⟩
def Y4{B}{X:Cx}{w}(h:CI X.C w):X.C.le (oa B X w):=λa v e=>by unfold oa;split;exact h a v e;omega
def DN{B}{X}{O}{w}{h}(b:HR B X O w h):rI X w h (oa B X w) (λ_=>True):=by
 refine⟨Y4 b.ci,λc bi u _ p q=>λD s t l r a v M e=>?_⟩;unfold oa;split<;>try trivial
 rename_i hB;have⟨y,d,F,G,n,K,f⟩:=b.dN c _ r;rw[p]at d;cases d;have H:l.length*s<=bi.cap*s:=ew _ n.1;rcases f with f|⟨C,x,i,g,L,o,j,E,k,m⟩;grind;rw[q]at g;cases g;by_cases f:a<t*s;have d:a<i.flatten.length:=by rw[a8.len j,(cA.1 o).len];omega
 have:=k a i.flatten[a] zG;have z:=b.ci _ _ this;grind;exact absurd (b.own c _ (m a J J).1).1 hB
def Db(X:Cx)(d e:Nat)(a:Addr):Prop:=∃bi b c,X.M d=I bi/\bi.base=I b/\c<e/\a=b.add c
open Classical in def mc(X:Cx)(w:World)(b c:Nat):IV:=λa=>if Db X b c a then w.cell? a else X.C a
def OG{X:Cx}{w}(h:CI X.C w)(b c):X.C.le (mc X w b c):=λa v e=>by unfold mc;split;exact h a v e;omega
def azU{X}{w}(h:CI X.C w)(b c):CI (mc X w b c) w:=⟨λa v e=>by unfold mc at e;(split at e<;>try grind);exact h a v e,Gh.gm (OG h b c) h.gl⟩
def QQ{B}{X}{O}{w}{h}(d:HR B X O w h){c g s ro}{l}(f:ao h c=I (.arr g s ro l)):HR B (X.h9 (mc X w c (l.length*s))) (λb a=>O b a/\¬Db X c (l.length*s) a) w (aE h c (.arr g s l.length l))/\(∀a v,mc X w c (l.length*s) a=I v->X.C a=U->B<=a.block)/\(∀b a,b≠c->O b a->¬Db X c (l.length*s) a):=by
 have P:=eV f;have⟨bi,o,S,T,E,V,F⟩:=d.dN c _ f;have f:l.length*s<=bi.cap*s:=ew _ E.1;have f:ro*s<=l.length*s:=ew _ E.2;have Q:∀a,Db X c (l.length*s) a->O c a∨∃v,X.C a=I v:=by rintro a ⟨t,n,j,e1,y,f,rfl⟩;rw[o]at e1;cases e1;(rcases F with F|⟨M,q,r,m,G,H,z,C,p,D⟩<;>try grind);rw[y]at m;cases m;by_cases L:j<ro*s;(have K:j<r.flatten.length:=by rw[a8.len z,(cA.1 H).len];omega);exact .inr ⟨_,p j r.flatten[j] zG⟩;exact .inl (D j J J).1
 have R:∀b a,b≠c->O b a->¬Db X c (l.length*s) a:=λb a K f L=>by rcases Q a L with h|⟨v,h⟩;exact K (d.gH b c a f h);rw[(d.own b a f).2.2]at h;cases h
 refine⟨⟨λb k e=>?_,λb a f=>?_,λb K a f W=>d.gH b K a f.1 W.1,λb t e=>?_,azU d.ci _ _,d.wb⟩,λa v e K=>?_,R⟩;rw[bP h c b _ (dj P)]at e;have W:X.le h.length (X.h9 (mc X w c (l.length*s))):=⟨OG d.ci _ _,λ_ bi _ e=>⟨bi,e,aH _,λ_=>rfl,λ_=>rfl⟩,λ_ _ e=>e⟩;by_cases K:b=c;subst K;simp only[if_true]at e;cases e;refine⟨bi,o,S,T,⟨E.1,aH _⟩,V,F.imp id ?_⟩;rintro⟨M,n,r,m,G,H,z,C,p,D⟩;refine⟨M,n,r,m,G,H.mono (OG d.ci _ _),z,C,λj v e=>?_,λj e1 y=>?_⟩;rw[jK]at e;split at e;rename_i p;show mc X w b (l.length*s) (n.add j)=I v;unfold mc;rw[ay ⟨bi,n,j,o,m,p,rfl⟩];exact C j v e;trivial;have⟨f,x⟩:=D j J y;refine⟨⟨f,?_⟩,x⟩;rintro⟨t,q,i,p,q,j,n⟩;rw[o]at p;cases p;rw[m]at q;cases q;have:=Addr.pc G n;omega;simp only[aj K]at e;exact(d.dN b k e).later d.lt W rfl (.refl w) (λa f=>⟨f,R b a K f⟩);have⟨p,q,j⟩:=d.own b a f.1;refine⟨p,q,?_⟩;show mc X w c (l.length*s) a=U;simp[mc,aj,f,j];rw[bX,ay P];exact d.lt b t e;unfold mc at e;split at e;rename_i L;rcases Q a L with h|⟨u,h⟩;exact(d.own c a h).1;grind;grind
theorem alV(h)(a)(b):close h (a::b)=(match ao h a with|some (.arr g s _ l)=>close (aE h a (.arr g s (aC l) l)) b|_=>close h b):=rfl
theorem P0(h)(a)(b):fS h (a::b)=(match ao h a with|some (.arr ..)=>fS h b|_=>Y):=rfl
def P1{h}{a g s ro}{l}(c:a<=h.length):∀{b},fS h b=N->fS (aE h a (.arr g s ro l)) b=N|[],_=>rfl|d::b,e=>by rw[P0]at e|-;rw[bP h a d _ c];by_cases f:d=a;simp[f];split at e;exact P1 c e;trivial;simp[aj f];split at e;(first|exact P1 c e|rw[q]);omega
def z8{B}{w}:∀(i){X}{O}{h},HR B X O w h->fS h i=N->∃C D,HR B (X.h9 C) D w (close h i)/\X.C.le C/\CI C w/\(∀a v,C a=I v->X.C a=U->B<=a.block)/\(close h i).length=h.length/\(∀c a,D c a->O c a)/\(∀b∈i,∀bi m,X.M b=I bi->bi.base=I m->∀g s ro l,ao h b=I (.arr g s ro l)->∀j v,j<l.length*s->w.cell? (m.add j)=I v->C (m.add j)=I v)/\(∀b,(∀g s ro l,ao h b=I (.arr g s ro l)->∃d,ao (close h i) b=I (.arr g s d l)/\(b∉i->d=ro))/\((∀g s ro l,ao h b≠I (.arr g s ro l))->ao (close h i) b=ao h b))/\(∀c a,c∉i->O c a->D c a)|[],X,O,h,E,_=>⟨X.C,O,E,.refl _,E.ci,λa v e M=>zG,rfl,λ_ _ o=>o,λb z=>(by cases z),λb=>⟨λg s ro l e=>⟨ro,e,λ_=>rfl⟩,λ_=>rfl⟩,λ_ _ _ o=>o⟩|b::i,X,O,h,E,H=>by rw[P0]at H;rw[alV];split at H;(.rename_i g s ro l z;have n:=dj (eV z);have⟨K,S,p⟩:=QQ E z;have⟨C,D,T,P,V,W,q5,q6,q7,q8,q9⟩:=z8 i K (P1 (s:=s) (g:=g) (ro:=l.length) (l:=l) n H);simp only[bw];(have q:∀c,(∀r t d x,ao h c=I (.arr r t d x)->∃k,ao (aE h b (.arr g s l.length l)) c=I (.arr r t k x)/\(c≠b->k=d))/\((∀r t d x,ao h c≠I (.arr r t d x))->ao (aE h b (.arr g s l.length l)) c=ao h c):=λc=>by refine⟨λr t d x e=>?_,λM=>?_⟩;(.rw [bP h b c _ n];grind);rw[bP h b c _ n,aj];grind);have y:=OG (w:=w) E.ci b (l.length*s);refine⟨C,D,T,y.trans P,V,λa v e M=>?_,by rw[q5,bX,ay (eV z)],λc a o=>(q6 c a o).1,λc G bi m Q f r t d x L j v R e=>?_,λc=>?_,λc a G o=>q9 c a (λh=>G (by simp[h])) ⟨o,p c a (λh=>G (by simp[h])) o⟩⟩;(.cases hx:mc X w b (l.length*s) a with|none=>exact W a v e hx|some u=>grind);(.by_cases F:c=b;(.subst F;rw[z]at L;cases L;refine P _ _ ?_;show mc X w c (l.length*s) (m.add j)=I v;unfold mc;rw[ay ⟨bi,m,j,Q,f,R,rfl⟩];exact e);have⟨k,e2,_⟩:=(q c).1 _ _ _ _ L;exact q7 c ((dM.1 G).resolve_left F) bi m Q f r t k x e2 j v R e);grind);trivial
def DI{h}:∀{c},fS h c=N->∀b∈c,∃e g f l,ao h b=I (.arr e g f l)|[],_,_,a=>by cases a|i::c,d,b,a=>by rw[P0]at d;split at d;(rcases dM.1 a with rfl|a<;>try grind);exact DI d b a;trivial
def D4{X}{w}{O j}{h}{c}{m}(o:fS h c=N)(s:∀b,(∀d g f l,ao h b≠I (.arr d g f l))->ao (close h c) b=ao h b)(t:∀b d g f l,ao h b=I (.arr d g f l)->∃k,ao (close h c) b=I (.arr d g k l)/\(b∉c->k=f))(n:∀i a,i∉c->O i a->j i a):FR X O w h (X.h9 m) j w (close h c):=by refine⟨λb bi _ q=>?_,λ_ _ e _=>e,λb bi _ q a r=>n b a (λp=>?_) r,λ_ _ _ _ _ _ _ e=>⟨e,rfl⟩,λ_ _ _ _ _ _ _ e _=>e,λb e=>?_,λ_ _ e _=>e⟩;grind;have⟨d,g,f,l,e⟩:=DI o b p;grind;grind
def D5{X}{w}{h}{d}{c}(_:fS h d=N)(hC:X.C.le c)(j:∀b∈d,∀bi a,X.M b=I bi->bi.base=I a->∀g f k l,ao h b=I (.arr g f k l)->∀e v,e<l.length*f->w.cell? (a.add e)=I v->c (a.add e)=I v):rI X w h c (·∈d):=⟨hC,λb bi a i=>j b i bi a⟩
def dV(P:Program)(B:Nat)(X:Cx)(O:Nat->Addr->Prop)(w:World)(h:Heap)(m:Sem Value)(v:V)(c:Heap):Prop:=∃x b a d,m.run P w=.ok x b/\HR B a d b c/\Up B X w h.length a b/\an a v N [x]/\h.length<=c.length/\FR X O w h a d b c
def H4(P:Program)(B:Nat)(X:Cx)(O:Nat->Addr->Prop)(w:World)(h:Heap)(m:Sem Unit)(c:Heap):Prop:=∃a b d,m.run P w=.ok () a/\HR B b d a c/\Up B X w h.length b a/\h.length<=c.length/\FR X O w h b d a c
section
variable{P:Program}{B:Nat}{X:Cx}{O:Nat->Addr->Prop}{w:World}{h:Heap}
theorem dV.same(a:HR B X O w h){m}{v}{x}(e:m.run P w=.ok x w)(b:an X v N [x]):dV P B X O w h m v h:=⟨x,w,X,O,e,a,.refl _ _ _ _,b,aH _,.refl _ _ _ _⟩
def ac5(g:HR B X O w h){c}(q:ao h c=U)(f:X.M c=U)(m:c<=h.length){v}(r:v.plain=N){x}(s:an X v N [x])(T:Nat):∃d i,HR B d i (w.alloc (.cells x.cells T)) (aE h c (.cell v))/\Up B X w h.length d (w.alloc (.cells x.cells T))/\an d (.ptr c 0 []) N [.pointer (I ⟨w.heap.size,0,U⟩)]/\h.length<=(aE h c (.cell v)).length/\FR X O w h d i (w.alloc (.cells x.cells T)) (aE h c (.cell v)):=by
 let bi:BI:=⟨0,I ⟨w.heap.size,0,U⟩,0,1,N⟩;let j:=λa=>∃b,b<x.cells.size/\a=(⟨w.heap.size,0,U⟩:Addr).add b;have l:=s.cells r;have k:∀b y,x.cells.toList[b]?=I y->(w.alloc (.cells x.cells T)).cell? ((⟨w.heap.size,0,U⟩:Addr).add b)=I y:=λb y e=>by(have:(⟨w.heap.size,0,U⟩:Addr).add b=⟨w.heap.size,b,U⟩:=by grind[yI]);simp_all
 have n:∀b,(w.alloc (.cells x.cells T)).frozen? ((⟨w.heap.size,0,U⟩:Addr).add b)=Y:=λb=>by(have:(⟨w.heap.size,0,U⟩:Addr).add b=⟨w.heap.size,b,U⟩:=by grind[yI]);simp_all
 have p:=an.low g.lt _ _ _ l;refine⟨X.er c bi,_,g.add q f m (.alloc _ _) zS bi j (.cell v) (λa ⟨b,o,e⟩=>?_) ?_,Up.add f ((Below.refl B w).alloc g.wb _) (.alloc _ _) _ bi,?_,?_,.add f m (.alloc _ _) bi j _⟩;simp_all[Addr.zF];refine⟨bi,⟨w.heap.size,0,U⟩,x.cells.toList,Cx.fP _ _ _,rfl,rfl,rfl,rfl,an.mono (Cx.yA h.length f) _ _ _ p l,k,λb _ o=>⟨⟨b,J,rfl⟩,⟨x.cells[b]' J,k b _ zS⟩,n b⟩⟩;exact⟨_,rfl,⟨_,rfl⟩,bi,Cx.fP _ _ _,aH _,λ_=>⟨_,rfl,rfl,by rfl⟩⟩;grind[bX]
def aky(q:HR B X O w h){a}(p:ao h a=U)(n:X.M a=U)(o:a<=h.length){b}{c}(r:iE P b c)(e:c.zero.plain=N):dV P B X O w h (aio b N (.tuple #[])) (.ptr a 0 []) (aE h a (.cell c.zero)):=by have⟨i,j,y,C,k⟩:=r.info;have⟨z,l,d⟩:=k _ rfl e;have m:=an.mono (Iu X) _ _ _ (an.low DA _ _ _ d) d;have⟨g,f,s,t,u,v,x⟩:=ac5 q p n o e m b;refine⟨_,_,g,f,?_,s,t,u,v,x⟩;simp[aio,zeroValue,typeInfo,j,l,newVar,newRow,Sem.run]
def alh(j:HR B X O w h){a}(g:ao h a=U)(e:X.M a=U)(f:a<=h.length){b:Nat}{v}(i:v.plain=N){x}(p:an X v N [x]):dV P B X O w h (aip b x) (.ptr a 0 []) (aE h a (.cell v)):=by have⟨d,c,k,l,m,n,o⟩:=ac5 j g e f i p b;refine⟨_,_,d,c,?_,k,l,m,n,o⟩;rfl
def ale(f:HR B X O w h){b}(r:ao h b=U)(l:X.M b=U)(q:b<=h.length){s:Nat}{k}(F:(V.im k).plain=N){x}(o:an X (.im k) N [x]):dV P B X O w h (aip s x) (.im (.ref k)) (aE h b (.arr 0 0 0 [])):=by
 let bi:BI:=⟨0,U,0,0,Y⟩;let w':=w.alloc (.cells x.cells s);let j:=λa=>if a.block=w.heap.size then w'.cell? a else X.C a;have n:eE w w':=.alloc _ _;have G:=λa v e=>yR w a (f.ci a v e);have hC:X.C.le j:=λa v e=>by grind
 have p:HR B (X.er b bi) (λc=>if c=b then(λ_=>False)else O c) w' (aE h b (.arr 0 0 0 [])):=f.add r l q n (by simp[w']) bi (λ_=>False) _ (λa h=>h.elim) ⟨bi,Cx.fP _ _ _,rfl,rfl,⟨aH _,aH _⟩,bN _,.inl rfl⟩;have D:CI j w':=⟨λa v e=>by have e:(if a.block=w.heap.size then w'.cell? a else X.C a)=I v:=e;split at e;exact e;exact p.ci a v e,Gh.gm hC f.ci.gl⟩;have u:=p.more hC D λc a i=>by by_cases m:c=b;simp_all;simp[aj m]at i;have⟨_,H,K⟩:=f.own c a i;grind
 have C:=by simpa only[an]using o.cells F
 have z:∀g y,x.cells.toList[g]?=I y->j ((⟨w.heap.size,0,U⟩:Addr).add g)=I y:=λg y e=>by(have:(⟨w.heap.size,0,U⟩:Addr).add g=⟨w.heap.size,g,U⟩:=by grind[yI]);rw[this];show(if w.heap.size=w.heap.size then _ else _)=_;rw[World.cell?_alloc_new];simpa using e
 have d:=FR.add (O:=O) (w:=w) (w':=w') (X:=X) (h:=h) l q n bi (λ_=>False) (.arr 0 0 0 []);refine⟨.pointer (I ⟨w.heap.size,0,U⟩),w',_,_,?_,u,⟨⟨hC,λc t m e=>?_,λ_ _ e=>e⟩,(Below.refl B w).alloc f.wb _,λa v e r=>?_,λo i e _=>n.obj o i e⟩,?_,?_,⟨d.gJ,d.M,d.own,d.cell,d.obj,d.oU,d.q9⟩⟩;rfl;exact(Cx.yA h.length l).M c t m e;have e:(if a.block=w.heap.size then w'.cell? a else X.C a)=I v:=e;split at e;rename_i E;simp[E,f.wb];grind;exact⟨_,_,rfl,rfl,C.mono hC,z⟩;grind[bX]
def auM(c:HR B X O w h){E}{b}(D:∀d,E.ty b=I d->iE P b d){av v}{a}{l}(e:fN E h b av=I (v,l))(r:an X av N [a]):dV P B X O w h (Instr.loadAt b a) v l:=by unfold fN at e;cases o:E.ty b with|none=>grind|some d=>rw[o]at e;have n:=D d o;split at e;rename_i s C p;(cases m:eX h s C p with|none=>grind|some u=>rw[m]at e;have⟨f,e⟩:=aO e;cases e;have⟨y,z,K⟩:=r;cases z;have⟨k,ws,g,G,q,i⟩:=acf c m K;subst g;have⟨x,H,j⟩:=VK (P:=P) n f q i;exact .same c zT j);rename_i t;have⟨f,e⟩:=aO e;cases e;have⟨k,ws,g,G,q,i⟩:=r;cases g;have⟨x,H,j⟩:=VK (P:=P) (X:=X) (v:=.im t) n f (ws:=ws) zT (a:=k) (w:=w) (λF v e=>c.ci _ _ (i F v e));exact .same c zT j;trivial
def fY.sub{O}{a}{i c}(d:fY w O a i c)(e:a.spot=U){b m}(f:i<=b)(g:b+m<=c):fY w O (a.add b) 0 m:=λj _ h=>by rw[Addr.add_add a _ _ e];exact d _ J J
theorem Ev{a}{b}(d:a8 a b){i}{ws c}(e:b[i]?=I ws)(g:c.length=a):(b.set i c).flatten=b.flatten.take (i*a)++(c++b.flatten.drop (i*a+a)):=by have f:=(cH.1 e).1;rw[List.set_eq_take_append_cons_drop,ay f,List.flatten_append,oZ,a8.lq d,a8.uA d];grind
def RD{c}{a}(d:a8 c a){i}{ws}(b:a[i]?=I ws):a.flatten=a.flatten.take (i*c)++(ws++a.flatten.drop (i*c+c)):=by have e:=(cH.1 b).1;have:=Ev d b (d _ (cY b));rw[<-this];congr 1;simp_all[List.ext_getElem?_iff,List.getElem?_set,b,ay,e]
def QH{a}(b:a.spot=U){pre old post xs}(g:cK w.cell? a (pre++(old++post)))(k:old.length=xs.length):cK (putCells w (a.add pre.length) xs 0).cell? a (pre++(xs++post)):=λd v e=>by(have hex:∀c,c<xs.length->∃u,w.cell? ((a.add pre.length).add (0+c))=I u:=λc h=>by rw[dk,Addr.add_add a _ _ b];exact⟨_,g (pre.length+c) old[c] zG⟩);by_cases j:d<pre.length;rw[oF _ xs w 0 _ (λc h f=>by rw[Addr.add_add a _ _ b]at f;have:=Addr.pc b f;omega)];exact g d v zG;rw[jJ J]at e;by_cases i:d-pre.length<xs.length;rw[fQ i]at e;have:=Bt (a.add pre.length) (Addr.iF _ _ b) xs w 0 hex _ v e;rw[dk,Addr.add_add a _ _ b,show pre.length+(d-pre.length)=d from J]at this;omega;rw[oF _ xs w 0 _ (λc h f=>by rw[Addr.add_add a _ _ b]at f;have:=Addr.pc b f;omega)];exact g d v zG
end
section
variable{P:Program}{B:Nat}{X:Cx}{O:Nat->Addr->Prop}{w:World}{h:Heap}
theorem Up.put{c}{a}(hB:B<=a.block)(b)(i){zY}(d:X.le c zY)(hC:zY.C=X.C):Up B X w c zY (putCells w a b i):=⟨d,Uo a hB b w i,λx v e f=>zG,λ_ _ e l=>pL a (xp l) b w i e⟩
def Bp{c}{a}{i d}(j:HR B X O w h)(g:fY w (O c) a i d){b}(e:i<=b)(f:b<d):B<=a.block:=by have:=(j.own c _ (g b e f).1).1;grind[Addr.zF]
def zV{b}{a}(hB:b≠[]->B<=a.block):Below B w (putCells w a b 0):=by cases b<;>first|exact .refl _ _|rename_i x b;exact Uo a (hB zS) _ _ _
def anN{l}{b}(h:a6 l b=Y):b∉l:=by induction l with|nil=>simp|cons a l G=>have c:(bif ah a b then N else a6 l b)=Y:=h;grind[Nat.beq_refl]
def We(r:HR B X O w h){j b}{p}{P}{c}(L:lE h j b p P=I c){x}(k:tN X j b p x){xs}(rx:an X P Y xs):∃a f g,x=.pointer (I a)/\a.spot=U/\(∀b,b<xs.length->(∃u,w.cell? (a.add b)=I u)/\w.frozen? (a.add b)=Y)/\HR B f g (putCells w a xs 0) c/\Up B X w h.length f (putCells w a xs 0)/\h.length<=c.length/\FR X O w h f g (putCells w a xs 0) c:=by
 have⟨_,bi,hM,c,hx⟩:=k;unfold lE at L;split at L;rename_i g m;have H:=eV m;have⟨f,c⟩:=aO L;have⟨bj,a0,ws,Q,R,h3,h4,D,S,h7,n⟩:=r.dN j _ m;rw[hM]at Q;cases Q;have⟨z,e1,_,E⟩:=hx J;rw[h4]at e1;cases e1;cases f:V.put P p g with|none=>grind|some v'=>rw[f]at c;simp only[jN,iW]at c;subst c;have⟨pre,old,post,W,q2,M,q4,q5⟩:=L9 rx f S;(have k:ws.length=pre.length+(xs.length+post.length):=by simp[W,M]);have g:fY w (O j) (a0.add pre.length) 0 xs.length:=n.sub D (bN _) J;rw[<-q2]at E;refine⟨_,X,O,E,Addr.iF _ _ D,λb f=>(g b (bN _) f).2,?_,?_,by simp[bX,ay,H,aH],FR.put r m (λ_ _=>rfl) _ xs 0 (λb f=>by rw[dk];exact(g b (bN _) f).1) _⟩;refine r.put H (.refl _ _) rfl (λ_ _=>rfl) r.lt _ (Addr.iF _ _ D) xs 0 (λb f=>by rw[dk];exact(g b (bN _) f).1) (λb f=>by rw[dk];exact(g b (bN _) f).2.1) _ ?_;refine⟨bi,a0,_,hM,R,h3,h4,D,q4,QH D zG M,?_⟩;(have:(pre++(xs++post)).length=ws.length:=by simp[k]);rw[this];exact n.put _ (Addr.iF _ _ D) xs 0 (λb f=>by rw[dk];exact(g b (bN _) f).2.1);exact⟨.refl _ _,zV (λER=>Bp r g (aH _) zG),λy v e c=>zG,λ_ _ e l=>pL _ (xp l) xs w 0 e⟩
 rename_i g' s k l m;split at L;rename_i i o q;have⟨hc,c⟩:=aO L;simp only[aK]at hc;have⟨RV,R7,aoc⟩:=hc;rw[cu]at c;cases K:l[i]? with|none=>grind|some d=>rw[K]at c;simp only[aN]at c;cases t:P.data h with|none=>grind|some T=>rw[t]at c;simp only[aN]at c;cases AJ:V.put (.im T) q (.im d)with|none=>grind|some v'=>rw[AJ]at c;simp only[aN]at c;split at c;rename_i F;have⟨k,c⟩:=aO c;cases c;rw[aK]at k;have⟨ha,F⟩:=k;have k:j∉P.owns:=anN (by simpa using F);have⟨C,O1,k1,k2,F,k4,k5,k6,G,k8,k9⟩:=z8 P.owns r ha;have F:=D5 ha k2 G;have rdx:aR C T Y xs:=uw r F t (λj m=>m) rx;have⟨ro',EF,t⟩:=(k8 j).1 _ _ _ _ m;have F:=t k;subst F;have H:j<(close h P.owns).length:=eV EF;have⟨bj,Q,R,h3,h4,D,S⟩:=k1.dN j _ EF;have k:X.M j=I bj:=Q;rw[hM]at k;cases k;have⟨z,e1,s1,E⟩:=hx (by rw[R];exact ef RV);have R2:i<l.length:=(cH.1 K).1;rcases S with S|⟨es,a0,t,h7,n,G,k,EB,h12,EC⟩;omega;rw[h7]at e1;cases e1;have⟨ws,F,rws⟩:=(cA.1 G).get K;have AM:ws.length=s:=k ws (cY F);have⟨pre,old,post,W,q2,M,q4,q5⟩:=L9 (X:=X.h9 C) (x:=.im T) (xs:=xs) (by simp only[an];exact rdx) AJ (ws:=ws) (by simp only[an];exact rws);(have Sr:pre.length+(xs.length+post.length)=s:=by rw[<-AM,W];simp[M]);have EX:(i+1)*s<=bi.cap*s:=ew _ J;rw[nc,XU]at EX;have abC:ro'*s<=i*s:=ew _ (rY aoc);(have Se:jA ((i,o)::q)=i*s+pre.length:=by rw[q2];simp[jA,ef R7]);rw[Se]at E;have g:fY w (O1 j) (z.add (i*s+pre.length)) 0 xs.length:=EC.sub n J J;(have hex:∀b,b<xs.length->∃u,w.cell? ((z.add (i*s+pre.length)).add (0+b))=I u:=λb f=>by rw[dk];exact(g b (bN _) f).2.1);have T:=Addr.iF z (i*s+pre.length) n;refine⟨_,X.h9 C,O1,E,T,λb f=>(g b (bN _) f).2,?_,?_,?_⟩;refine k1.put H (.refl _ _) rfl (λ_ _=>rfl) k1.lt _ T xs 0 (λb f=>by rw[dk];exact(g b (bN _) f).1) hex _ ?_;(have sq:(pre++(xs++post)).length=s:=by simp[Sr]);refine⟨bi,hM,R,h3,by simpa using h4,D,.inr ⟨es,z,t.set i (pre++(xs++post)),h7,n,?_,a8.set k sq,?_,?_,?_⟩⟩;rw[eK];exact cA.2 ((cA.1 G).set (by simp only[an]at q4;exact q4));rw[Ev k F sq];have lQ:=RD k F;rw[W]at lQ;have:=QH (w:=w) (pre:=t.flatten.take (i*s)++pre) (old:=old) (post:=post++t.flatten.drop (i*s+s)) (xs:=xs) n (by rw[lQ]at EB;simpa using EB) M;(have so:(t.flatten.take (i*s)++pre).length=i*s+pre.length:=by(have:i*s<=t.flatten.length:=by rw[a8.len k,(cA.1 G).len];exact ew _ J);rw[b8,ee,ng this]);rw[so]at this;simpa using this;rw[Ev k F sq,List.take_append_of_le_length (by(have:i*s<=t.flatten.length:=by rw[a8.len k,(cA.1 G).len];exact ew _ J);rw[ee,ng this];exact abC),List.take_take,ng abC];exact h12;exact EC.put _ T xs 0 hex;refine⟨⟨k2,λ_ bi _ e=>⟨bi,e,aH _,λ_=>rfl,λ_=>rfl⟩,λ_ _ e=>e⟩,zV (λER=>Bp k1 g (aH _) (by cases xs<;>simp_all)),k4,λ_ _ e l=>pL _ (xp l) xs w 0 e⟩;rw[bX,ay H,k5];exact⟨aH _,(D4 (w:=w) ha (λj m=>(k8 j).2 m) (λj=>(k8 j).1) k9).trans (FR.put (zY:=X.h9 C) k1 EF (λ_ _=>rfl) _ xs 0 (λb f=>by rw[dk];exact(g b (bN _) f).1) _) (aH _) (by rw[k5];exact aH _)⟩;trivial
 trivial;rename_i g' s l m;split at L;rename_i i o q;have⟨hc,c⟩:=aO L;simp only[aK]at hc;have⟨RV,R7⟩:=hc;rw[cu]at c;cases K:l[i]? with|none=>rw[K]at c;cases c|some d=>rw[K]at c;simp only[aN]at c;cases AJ:V.put P q d with|none=>rw[AJ]at c;cases c|some v'=>rw[AJ]at c;simp only[jN,iW]at c;subst c;have H:=eV m;have⟨bj,Q,R,h3,h4,D,S⟩:=r.dN j _ m;rw[hM]at Q;cases Q;have⟨z,e1,s1,E⟩:=hx (by rw[R];exact ef RV);have R2:i<l.length:=(cH.1 K).1;rcases S with S|⟨es,a0,t,h7,n,G,k,EB,EC⟩;omega;rw[h7]at e1;cases e1;have⟨ws,F,rws⟩:=(ff.1 G).get K;have AM:ws.length=s:=k ws (cY F);have⟨pre,old,post,W,q2,M,q4,q5⟩:=L9 rx AJ rws;(have Sr:pre.length+(xs.length+post.length)=s:=by rw[<-AM,W];simp[M]);have EX:(i+1)*s<=bi.cap*s:=ew _ J;rw[nc,XU]at EX;(have Se:jA ((i,o)::q)=i*s+pre.length:=by rw[q2];simp[jA,ef R7]);rw[Se]at E;have g:fY w (O j) (z.add (i*s+pre.length)) 0 xs.length:=EC.sub n J J;(have hex:∀b,b<xs.length->∃u,w.cell? ((z.add (i*s+pre.length)).add (0+b))=I u:=λb f=>by rw[dk];exact(g b (bN _) f).2.1);have T:=Addr.iF z (i*s+pre.length) n;refine⟨_,X,O,E,T,λb f=>(g b (bN _) f).2,?_,?_,by rw[bX,ay H];exact aH _,FR.put r m (λ_ _=>rfl) _ xs 0 (λb f=>by rw[dk];exact(g b (bN _) f).1) _⟩;refine r.put H (.refl _ _) rfl (λ_ _=>rfl) r.lt _ T xs 0 (λb f=>by rw[dk];exact(g b (bN _) f).1) hex _ ?_;(have sq:(pre++(xs++post)).length=s:=by simp[Sr]);refine⟨bi,hM,R,h3,by simpa using h4,D,.inr ⟨es,z,t.set i (pre++(xs++post)),h7,n,?_,a8.set k sq,?_,?_⟩⟩;rw[eK];exact ff.2 ((ff.1 G).set q4);rw[Ev k F sq];have lQ:=RD k F;rw[W]at lQ;have:=QH (w:=w) (pre:=t.flatten.take (i*s)++pre) (old:=old) (post:=post++t.flatten.drop (i*s+s)) (xs:=xs) n (by rw[lQ]at EB;simpa using EB) M;(have so:(t.flatten.take (i*s)++pre).length=i*s+pre.length:=by(have:i*s<=t.flatten.length:=by rw[a8.len k,(ff.1 G).len];exact ew _ J);rw[b8,ee,ng this]);rw[so]at this;simpa using this;exact EC.put _ T xs 0 hex;exact⟨.refl _ _,zV (λER=>Bp r g (aH _) (by cases xs<;>simp_all)),λy v e c=>(by rw[c]at e;cases e),λ_ _ e l=>pL _ (xp l) xs w 0 e⟩
 cases L;trivial
def azj(z:HR B X O w h){E}{b}(t:∀c,E.ty b=I c->iE P b c){av d v}{a x}{f}(e:qQ E h b av d=I (v,f))(g:an X av N [a])(l:an X d N [x]):v=.undef/\H4 P B X O w h (Instr.storeAt b a x) f:=by unfold qQ at e;cases j:E.ty b with|none=>grind|some c=>rw[j]at e;have u:=t c j;split at e;rename_i o s p;obtain⟨k,e⟩:=aO e;(cases i:lE h o s p d with|none=>grind|some b=>rw[i]at e;simp at e;obtain⟨e1,q⟩:=e;subst e1;subst q;obtain⟨y,r,j⟩:=g;cases r;obtain⟨D,_,F⟩:=nM k;have g:=l.cells F;obtain⟨o,n,m,G,H,K,L,b,d,f⟩:=We z i j g;subst G;(have i:x.cells.toList.length=c.size:=by rw[g.wd,D]);have:=ays (P:=P) u k l H (w:=w) (λC c=>K C J);exact⟨rfl,_,n,m,zT,L,b,d,f⟩);trivial
end
theorem oq(x y):ag x y=decide (x<y):=by cases x with|ofNat a=>(cases y with|ofNat b=>show cM a b=_;rw[OX,Pp];simp|negSucc b=>rfl)|negSucc a=>cases y<;>first|rename_i b;show cM b a=_;rw[OX,decide_eq_true_iff,Pp];omega|show N=_;simp;omega
theorem gX(x y):ad x y=decide (x<=y):=by unfold ad;rw[oq,OX];simp
theorem Bb(a b:Nat):ah a b=decide (a=b):=by rw[OX,decide_eq_true_iff,Nat.beq_eq]
theorem pz(x y):af x y=decide (x=y):=by cases x with|ofNat a=>(cases y with|ofNat b=>show ah a b=_;simp[Bb,Int.ofNat_inj.symm]|negSucc b=>rfl)|negSucc a=>cases y with|ofNat b=>rfl|negSucc b=>show ah a b=_;simp[Bb]
theorem umod_eq(b)(m)(hm:0<m):(umod b m:Int)=b%m:=by cases b with|ofNat a=>rfl|negSucc a=>show((m-1-a%m:Nat):Int)=_;have:a%m<m:=Nat.mod_lt _ hm;rw[Int.negSucc_emod _ J];omega
def umod_lt(a)(m)(hm:0<m):umod a m<m:=by have c:=umod_eq a m hm;have d:=Int.emod_lt_of_pos a (b:=m) J;omega
theorem NX(h m)(a)(hm:0<m):B9 h m a=if a%m>=h then a%m-m else a%m:=by have d:=umod_eq a m hm;unfold B9;cases b:cM (umod a m) h with|true=>rw[Pp]at b;grind|false=>(have e:¬umod a m<h:=λc=>by rw[<-Pp,b]at c;cases c);grind
theorem nX(a)(n):wr a n=a.wrap n:=by cases a<;>simp[wr,IntKind.wrap,IntKind.bits,IntKind.signed,Bool.true_and];rw[NX _ _ _ zC];simp;rw[NX _ _ _ zC];simp;rw[NX _ _ _ zC];simp;rw[NX _ _ _ zC];simp;all_goals show((umod n _):Int)=_;rw[umod_eq _ _ zC];simp
theorem KJ(a):kb a=a.bits:=by cases a<;>rfl
theorem uR{a b}(h:gw a b=N):a=b:=by cases a<;>cases b<;>first|rfl|trivial
theorem pV(a)(b):dJ a (wr a b):=by rw[nX];exact wrap_within a b
theorem OK(a)(b):word a b=(tg a.bits b).toNat:=by have h:=umod_eq b (2^kb a) (nh zC);grind[BitVec.toNat_ofInt,KJ,word]
def aAT(k)(a):word k a<2^kb k:=umod_lt _ _ (nh zC)
def abI(a:IntKind):a.min<=0/\0<=a.max:=by cases a<;>decide
def azA{a}{x y:Int}(e:dJ a x):dJ a (x.tmod y):=by
 have hm:=abI a;have⟨f,g⟩:=e;unfold dJ;rcases m8 x 0 with h|h;have i:x.tmod y= -((-x).tmod y):=by simp
 have b:0<=(-x).tmod y:=HM _ J;have c:(-x).tmod y<= -x:=by have:=aiQ (-x) y;have d:(-x).natAbs%y.natAbs<=(-x).natAbs:=ajw _ _;omega
 omega;have b:0<=x.tmod y:=HM _ h;have c:x.tmod y<=x:=by have:=aiQ x y;have d:x.natAbs%y.natAbs<=x.natAbs:=ajw _ _;omega
 omega
def am9{a}{x}(d:dJ a x)(b):dJ a (x.fdiv (aB (2^b))):=by have hm:=abI a;have⟨e,f⟩:=d;(have c:(0)<aB (2^b):=by exact Int.ofNat_lt.2 (nh zC));rw[Int.fdiv_eq_ediv_of_nonneg _ J];constructor;refine(Int.le_ediv_iff_mul_le c).2 ?_;have:a.min*aB (2^b)<=a.min*1:=Int.mul_le_mul_of_nonpos_left J J;omega;rcases m8 x 0 with h|h;have:=Int.le_of_lt (Int.ediv_neg_of_neg_of_pos h c);omega;have:=Int.ediv_le_self (aB (2^b)) h;omega
section
variable{P:Program}{w:World}
def nj(P:Program)(w:World)(m:Sem Value)(v:V):Prop:=∃a x,v=.im a/\m.run P w=.ok x w/\∀b,aR b a N [x]
def aoj{a}{b}{v}(e:im a b=I v):v=.im (.int a b):=(gk e).symm
def ak8{a}{v}(e:bm a=I v):v=.im (.bool a):=(gk e).symm
def nj.int{m}{a}{b n'}{v}(e:im a b=I v)(hm:m.run P w=.ok (.int a n') w)(f:n'=b)(c:dJ a b):nj P w m v:=⟨_,_,aoj e,hm,λd=>by simp_all[aR,trivial,c]⟩
theorem nj.bool{m}{a b}{v}(e:bm a=I v)(hm:m.run P w=.ok (.bool b) w)(d:b=a):nj P w m v:=⟨_,_,ak8 e,hm,λc=>by grind[aR]⟩
theorem lM(op:BinOp)(f)(c)(a)(d)(b)(e:op≠.shl)(g:op≠.shr):binOp op f (.int c a) (.int d b)=(if c≠d then stuck "BinOp: operands of different kinds"else match op with|.add|.sub|.mul=>O7 op c a b|.quo|.rem=>Xu op c a b|.and|.or|.xor|.andNot=>HC op c a b|_=>yQ op a b):=by cases op<;>first|rfl|exact absurd rfl e|trivial
def SJ{op}{b}{a f}{v}(e:intArith op b a f=I v)(g:dJ b a)(j)(i)(d:op=.shl∨op=.shr∨b=i):nj P w (binOp op j (.int b a) (.int i f)) v:=by
 cases op<;>simp only[intArith]at e;case add=>rcases d with h|h|rfl;cases h;cases h;exact .int e (by simp[lM,O7]) (nX _ _).symm (pV _ _)
 case sub=>rcases d with h|h|rfl;cases h;cases h;exact .int e (by simp[lM,O7]) (nX _ _).symm (pV _ _)
 case mul=>rcases d with h|h|rfl;cases h;cases h;exact .int e (by simp[lM,O7]) (nX _ _).symm (pV _ _)
 case quo=>rcases d with h|h|rfl;cases h;cases h;rw[pz]at e;cases c:decide (f=0)<;>rw[c]at e;rw[decide_eq_false_iff_not]at c;exact .int e (by simp[lM,Xu,c]) (nX _ _).symm (pV _ _);trivial
 case rem=>rcases d with h|h|rfl;cases h;cases h;rw[pz]at e;cases c:decide (f=0)<;>rw[c]at e;rw[decide_eq_false_iff_not]at c;exact .int e (by simp[lM,Xu,c]) rfl (azA g);trivial
 case and=>rcases d with h|h|rfl;cases h;cases h;refine .int e (n':=b.wrap (tg b.bits a&&&tg b.bits f).toNat) (by simp[lM,HC]) ?_ (pV _ _);simp[nX,OK,aia]
 case or=>rcases d with h|h|rfl;cases h;cases h;refine .int e (n':=b.wrap (tg b.bits a|||tg b.bits f).toNat) (by simp[lM,HC]) ?_ (pV _ _);simp[nX,OK,BitVec.toNat_or]
 case xor=>rcases d with h|h|rfl;cases h;cases h;refine .int e (n':=b.wrap (tg b.bits a^^^tg b.bits f).toNat) (by simp[lM,HC]) ?_ (pV _ _);simp[nX,OK,BitVec.toNat_xor]
 case andNot=>rcases d with h|h|rfl;cases h;cases h;refine .int e (n':=b.wrap (tg b.bits a&&&~~~tg b.bits f).toNat) (by simp[lM,HC]) ?_ (pV _ _);simp[nX,OK,aia,BitVec.toNat_not,KJ]
 case eql=>rcases d with h|h|rfl;cases h;cases h;exact .bool e (by simp[lM,yQ];rfl) (by grind[pz])
 case neq=>rcases d with h|h|rfl;cases h;cases h;exact .bool e (by simp[lM,yQ];rfl) (by grind[pz])
 case lss=>rcases d with h|h|rfl;cases h;cases h;exact .bool e (by simp[lM,yQ];rfl) (by rw[oq])
 case leq=>rcases d with h|h|rfl;cases h;cases h;exact .bool e (by simp[lM,yQ];rfl) (by rw[gX])
 case gtr=>rcases d with h|h|rfl;cases h;cases h;exact .bool e (by simp[lM,yQ];rfl) (by rw[oq])
 case geq=>rcases d with h|h|rfl;cases h;cases h;exact .bool e (by simp[lM,yQ];rfl) (by rw[gX])
 case shl=>rw[oq]at e;cases c:decide (f<0)<;>rw[c]at e;rw[decide_eq_false_iff_not]at c;refine .int e (n':=b.wrap (a*2^(min f.toNat b.bits))) (by simp[binOp,Op.shift,c]) ?_ (pV _ _);simp[nX,KJ,ajv];trivial
 case shr=>rw[oq]at e;cases c:decide (f<0)<;>rw[c]at e;rw[decide_eq_false_iff_not]at c;refine .int e (n':=a.fdiv (2^(min f.toNat b.bits))) (by simp[binOp,Op.shift,c]) ?_ (am9 g _);simp[KJ,ajv];trivial
def aov{op}{c b}{a g}{v}(e:E6 op c a b g=I v)(f:dJ c a)(d):nj P w (binOp op d (.int c a) (.int b g)) v:=by unfold E6 at e;split at e;exact SJ e f d b (.inl rfl);exact SJ e f d b (.inr (.inl rfl));cases h:gw c b<;>rw[h]at e;cases e;exact SJ e f d b (.inr (.inr (uR h)))
def azM{op}{X}{x}{v}(e:Ct op x=I v){b}(a:an X x N [b]):nj P w (Op.unary op b) v:=by unfold Ct at e;split at e;cases a;exact .bool e rfl rfl;have⟨a,_⟩:=a;cases a;rename_i c d f;exact .int e (n':=c.wrap (0-d)) (by rfl) (nX _ _).symm (pV _ _);trivial
end
structure EnvTy(P:Program)(E:Env):Prop where
 ty:∀t ti,E.ty t=I ti->iE P t ti
 depth:12<P.depth
section
variable{P:Program}{w:World}{E:Env}
theorem iE.sizeOf{a}{b}(h:iE P a b):P.cellsOf a=b.size:=by have⟨i,c,d,_⟩:=h.info;simp[Program.cellsOf,c,d]
def VL{g}{c}(b:iE P g c){X}{v}(k:cz c v=N){cs}{pre ws post}(j:cs.toList=pre++(ws++post))(h:an X v Y ws){o}(f:pre.length=o):∃x,(part g cs o).run P w=.ok x w/\an X v N [x]:=by have⟨n,d,i⟩:=nM k;have p:=h.wd;subst f;cases a:v.isAgg with|true=>refine⟨.agg ws.toArray,?_,(an.DH a).2 ⟨ws.toArray,rfl,J⟩⟩;(have hex:cs.extract pre.length (pre.length+c.size)=ws.toArray:=by apply Array.toList_inj.1;simp_all);simp only[part,kj,NI b,<-d,a,tm,if_true,run_sizeOf b,hex];simp|false=>have⟨x,e,f,m⟩:=h.one i a;subst e;refine⟨x,?_,m N⟩;(have l:cs[pre.length]?=I x:=by rw[<-Array.getElem?_toList,j];simp);simp only[part,kj,NI b,<-d,a,l];simp
theorem aax(d:EnvTy P E):∀{n a},uo E n a=N->∀{b},n<=b->P.eqGuardType b a=Y|0,_,h,_,_=>zT|n+1,a,h,0,i=>J|n+1,a,h,b+1,i=>by unfold uo at h;cases f:E.ty a with|none=>grind|some l=>rw[f]at h;have c:=(d.ty a l f).kind;simp at h;split at h;rename_i e;simp_all[e,gU,Xw,c];rename_i e;simp_all[e,gU,Xw,c];rename_i o e;rw[e]at c;have⟨m,k,hf,_⟩:=c;simp only[Xw,k];rw[<-hf]at h;rw[List.all_eq_true]at h;rw[<-Array.any_toList,List.any_eq_false];intro g j;have:=h _ (List.mem_map.2 ⟨g,j,rfl⟩);simp[aax d this (by omega:n<=b)];trivial
def amW{b c}{x y}{d}(h:hS E b c x y=I d):∃a,E.ty c=I a/\cz a (.im x)=N/\cz a (.im y)=N:=by cases b with|zero=>trivial|succ b=>unfold hS at h;cases e:E.ty c with|none=>grind|some a=>grind
def aaw(r:EnvTy P E){c}{K q}(v:∀{g}{x y}{d},hS E K g x y=some d→∀{j k},aR c x true [j]→aR c y true [k]→(Op.equalIn q g j k).run P w=.ok d w){e f}:∀(b){o}{n p}{d},(∀a∈b,a.name≠ "_")→hS.sg (b.map λa=>(a.offset,P.cellsOf a.type,a.type)) o n p (hS E K)=I d->∀{pre pre'}{l m},e.toList=pre++l.flatten->f.toList=pre'++m.flatten->pre.length=o->pre'.length=o->bH c n Y l->bH c p Y m->(aiw q e f b).run P w=.ok d w|[],_,[],[],_,_,h,_,_,_,_,_,_,_,_,_,_=>by cases h;rfl|[],_,_::_,_,_,_,h,_,_,_,_,_,_,_,_,_,_=>by simp[hS.sg]at h|[],_,[],_::_,_,_,h,_,_,_,_,_,_,_,_,_,_=>zT|a::b,_,[],_,_,_,h,_,_,_,_,_,_,_,_,_,_=>zT|a::b,_,_::_,[],_,_,h,_,_,_,_,_,_,_,_,_,_=>by simp[hS.sg]at h|a::b,o,x::n,y::p,d,t,h,pre,pre',l,m,G,H,e1,g,i,q=>by simp only[List.map_cons,hS.sg]at h;obtain⟨u,h⟩:=aO h;have u:=ef u;split at h;rename_i d n s l;cases h;simp only[bH]at i q;obtain⟨g,K,m,u,p⟩:=i;obtain⟨i,O,n,z,u⟩:=q;subst m;subst n;obtain⟨n,m,D,F⟩:=amW s;have z:=r.ty _ _ m;(have B:an ⟨c,λ_=>U,λ_=>U⟩ (.im x) Y g:=by trivial);have C:an ⟨c,λ_=>U,λ_=>U⟩ (.im y) Y i:=zT;obtain⟨j,m,L⟩:=VL (w:=w) z D (cs:=e) (pre:=pre) (ws:=g) (post:=K.flatten) (by rw[G];simp) B (o:=a.offset) J;obtain⟨k,j,M⟩:=VL (w:=w) z F (cs:=f) (pre:=pre') (ws:=i) (post:=O.flatten) (by rw[H];simp) C (o:=a.offset) J;simp only[an]at L M;have f:=v s L M;have c:=B.wd;have e:=C.wd;(have k:x.wd=y.wd:=by have k:=(nM D).1;have k:=(nM F).1;grind[V.wd]);simp only[V.wd]at c e;have k:=aaw r v b (λc e=>t c (by simp[e])) l (pre:=pre++g) (by rw[G];simp) (pre':=pre'++i) (by rw[H];simp) zP zP p u;have b:a.name≠ "_":=t a zS;simp only[aiw,b,ne_eq,not_false_eq_true,if_true,kj,m,j,f,tm];cases d;simp;simp[k];cases h
def aaz(i:EnvTy P E){l}:∀{n a}{x y}{f},hS E n a x y=I f->∀{g},n<=g->∀{j k},aR l x N [j]->aR l y N [k]->(Op.equalIn g a j k).run P w=.ok f w|0,_,_,_,_,h,_,_,_,_,_,_=>zT|n+1,a,x,y,f,h,0,o,_,_,_,_=>J|n+1,a,x,y,f,h,g+1,o,j,k,b,c=>by unfold hS at h;cases q:E.ty a with|none=>grind|some C=>rw[q]at h;replace h:=aO h;obtain⟨H,h⟩:=h;have B:=i.ty a C q;have d:=B.kind;split at h;rename_i e;simp_all[e,gU,aR,run_equalIn_bool',d];rename_i e;rw[e]at d;obtain⟨b,_⟩:=b;obtain⟨c,_⟩:=c;cases b;cases c;obtain⟨u,h⟩:=aO h;cases h;rw[<-uR u,pz];exact run_equalIn_int _ _ _ _ _ _ _ d;rename_i G M f O g e;rw[e]at d;obtain⟨m,r,hf,v,z⟩:=d;(have p:P.fieldsOf a=m:=by simp[Program.fieldsOf,r]);obtain⟨D,a,ex,K,b,_⟩:=b;obtain⟨F,a,s,L,c,_⟩:=c;cases ex;cases s;rw[run_equalIn_struct _ _ _ _ _ (by simp[p,r]) z,p];rw[<-hf]at h;refine aaw i (λh=>aaz i h (Nat.le_of_succ_le_succ o)) m.toList (λt hf=>(v t hf).1) h (pre:=[]) zT (pre':=[]) zT rfl rfl b c;trivial
end
end
end Go.As
end
