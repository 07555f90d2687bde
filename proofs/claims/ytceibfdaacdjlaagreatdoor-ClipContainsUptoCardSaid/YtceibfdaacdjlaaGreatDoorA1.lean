/- A part of the proof. -/
import Derived.RangeFuncIn
import Derived.Below
import Derived.OrdersIn
import Derived.RangeFuncLeaves
import Derived.RangeFuncOwn
import Derived.RangeFuncNested
import Derived.Lib.FrozenHead
import Derived.WalkKit
import Derived.Laws.Closers25b
import Derived.Laws.StructEq
import Derived.ChangeKeysEq
set_option linter.all false
open Array renaming getElem?_eq_some_iff->tG,toList_inj->acx
open BitVec renaming ofInt->nP,toNat_and->acA,toNat_not->acB
open Bool renaming and_eq_true->aM,eq_iff_iff->tI,false->af,rec->jt,true->ag
open Go.Addr renaming add->wI
open Go.Instr renaming alloc->Ej,box->acT
open Go.IntKind renaming i64->Ai,rec->Su
open Go.Obj renaming isCells->wO
open Go.Op renaming bytesLess->Sw,eqFields->ac4,equalIn->rE,intArith->KB,intBits->Em,intCmp->wQ,intDiv->Sy
open Go.Program renaming eqGuardType->En
open Go.Region renaming binds->tN
open Go.Result renaming andThen_ok->iJ
open Go.Sem renaming run_bind->eZ
open Go.Value renaming oneCell'->pW
open Go.World renaming block_lt_of_cell?->wS,cell?_setCell_other->SB
open Int renaming lt_or_le->l7,natAbs_tmod->adp,ofNat->aC,rec->wX,tmod_nonneg->Ez
open List renaming flatten_cons->nR,getElem?_append_left->hH,getElem?_append_right->jx,getElem?_drop->adG,getElem?_eq_some_iff->e7,getElem?_take->pZ,length_append->dD,length_cons->jP,length_take->gz,mem_append->cB,mem_cons->eT,mem_of_getElem?->lj,rec->a8,replicate->bT
open Nat renaming add_mul->mf,beq->ak,beq_eq->lk,ble->bp,blt->cA,blt_eq->EJ,div->mg,eq_of_beq_eq_true->bR,le_of_lt->cX,le_of_succ_le_succ->adY,le_refl->aJ,le_trans->bU,lor->tY,lt_of_lt_of_le->eU,min->mh,min_def->ad3,min_eq_left->mi,mod_le->ad5,mul_le_mul_right->dM,one_mul->SO,pow_pos->mj,rec->ko,zero_add->cV,zero_le->bX
open Option renaming bind_some->ah,map_some->hY,none->ae,rec->dB,some->ab
open Option.some renaming inj->fu,injEq->fH
open UInt8 renaming toNat->ua,toNat_inj->aem
noncomputable section
namespace Go.As
theorem au{α}{a b:α}:cond true a b=a:=rfl
theorem ax{α}{a b:α}:cond false a b=b:=rfl
theorem aK{c:Prop}{_:Decidable c}(h:c){α:Sort _}{t e:α}:ite c t e=t:=if_pos h
theorem az{c:Prop}{_:Decidable c}(h:¬c){α:Sort _}{t e:α}:ite c t e=e:=if_neg h
section
inductive D where
 |bool (b:Bool)
 |int (k:IntKind) (n:Int)
 |str (s:List Nat)
 |nil
 |ref (d:D)
 |ar (l:List D)
 |agg (w:Nat) (l:List D)
 |aG (l:List D)
 |fn (f:Nat)
 |eR
 |ifc (t:Nat) (d:D)
 |dn
 |g8
 deriving Inhabited
def D.wd:D->Nat
 |.agg w _=>w
 |_=>1
inductive V where
 |undef
 |im (d:D)
 |agg (w:Nat) (l:List V)
 |aG (l:List V)
 |own (b g off len:Nat) (aR:Bool)
 |full (l:List D)
 |ptr (b g:Nat) (p:List (Nat×Nat))
 |fn (f:Nat) (first captured:List V)
 |ifc (t:Nat) (v:V)
 |mp (b:Nat)
 |gT (i:Nat)
 deriving Inhabited
def V.wd:V->Nat
 |.im d=>d.wd
 |.agg w _=>w
 |_=>1
inductive Tm where
 |e
 |n (v:V) (l r:Tm)
 deriving Inhabited
inductive bK where
 |cell (v:V)
 |arr (g s ro:Nat) (l:List D)
 |mp (es:List (D×V)) (s:List Nat) (ck:Nat)
 |bN (g s:Nat) (l:List V)
 |jU (t e:Nat) (s:List Nat)
 |lp (f:Nat) (t:Tm) (ps:List Nat) (bO body:Code)
 |it (v:V) (since:Nat) (seen:List Nat) (last:Nat)
 deriving Inhabited
abbrev Heap:=List (Option bK)
def Tm.get(t:Tm):Nat->V:=
 Tm.rec (λ_=>V.undef) (λv _ _ gl gr i=>jt (jt (gr (Nat.sub (mg i 2) 1)) (gl (mg i 2)) (ak (Nat.mod i 2) 1)) v (ak i 0)) t
def Tm.set(t:Tm):Nat->V->Tm:=
 Tm.rec (λ_ _=>Tm.e) (λv l r sl A i x=>jt (jt (Tm.n v l (A (Nat.sub (mg i 2) 1) x)) (Tm.n v (sl (mg i 2) x) r) (ak (Nat.mod i 2) 1)) (Tm.n x l r) (ak i 0)) t
def Tm.mk(d:Nat):Tm:=ko Tm.e (λ_ t=>Tm.n .undef t t) d
structure Rec where
 f:Nat
 t:Tm
 ps:List Nat
 bO:Code
 body:Code
 sta:Nat
 arN:Option Code
 deriving Inhabited
structure St where
 t:Tm
 h:Heap
 lp:List Rec
 df:List (Nat×List V)
 deriving Inhabited
inductive TK where
 |bool|int (k:IntKind)|str|ptr|ar (e:Nat)|arr (n e:Nat)|st (fs:List (Nat×Nat×Nat))|fn|ifc (named:Bool)|map (k e:Nat)|ZH
 deriving Inhabited
structure TI where
 k:TK
 size:Nat
 bytes:Nat
 zero:V
 deriving Inhabited
inductive Tb(α:Type) where
 |e
 |n (k:Nat) (v:α) (l r:Tb α)
def Tb.find{α:Type}(t:Tb α)(i:Nat):Option α:=
 Tb.rec ae (λk v _ _ fl fr=>bif ak i k then ab v else bif cA i k then fl else fr) t
structure Env where
 ty:Nat->Option TI
 fn:Nat->Option Func
 sm:Nat->Option (List D->Option D)
 clone:Nat->Option Nat
 ext:Nat->Nat
 qM:Nat->String->Option Nat
 inl:Nat->Bool
 keep:Nat->Bool
 dr:Nat->Nat->Option (List (Nat×List Nat))
 fy:Nat×Nat
 Bx:Nat->Nat->Option (Nat×Nat)
inductive Ex where
 |nm|exit (id:Nat)|ret
 deriving Inhabited,DecidableEq
def bC{α:Type}(l:List α):Nat->Option α:=
 a8 (λ_=>ae) (λb _ ih i=>match i with|0=>ab b|j+1=>ih j) l
def bB{α:Type}(l:List α):Nat->α->List α:=
 a8 (λ_ _=>[]) (λb r ih i x=>match i with|0=>x::r|j+1=>b::ih j x) l
def aD(l:Heap):Nat->bK->Heap:=
 a8 (λ_ x=>[ab x]) (λb r ih i x=>match i with|0=>ab x::r|j+1=>b::ih j x) l
def aq(h:Heap)(b:Nat):Option bK:=dB ae (λx=>x) (bC h b)
def aA{α:Type}(l:List α):Nat:=a8 0 (λ_ _ n=>n+1) l
def iw(l:List V):Nat->Nat:=
 a8 (λ_=>0) (λv _ ih i=>match i with|0=>0|j+1=>v.wd+ih j) l
def Ea(l:List D):Nat->Nat:=
 a8 (λ_=>0) (λv _ ih i=>match i with|0=>0|j+1=>v.wd+ih j) l
def jj(l:List D):List V:=a8 [] (λd _ ih=>V.im d::ih) l
def fx(l:List V):Option (List D):=
 a8 (ab []) (λv _ ih=>match v with
  |.im d=>dB ae (λds=>ab (d::ds)) ih
  |_=>ae) l
def ff(w:Nat)(l:List V):V:=dB (V.agg w l) (λds=>V.im (.agg w ds)) (fx l)
def lK(l:List V):V:=dB (V.aG l) (λds=>V.im (.aG ds)) (fx l)
def V.kids:V->Option (List V)
 |.im (.agg _ l)=>ab (jj l)
 |.agg _ l=>ab l
 |_=>ae
def V.part(v:V)(i:Nat):Option V:=
 match v with
 |.im (.aG l)=>(bC l i).map .im
 |.aG l=>bC l i
 |_=>ae
def V.dw(v:V)(k o:Nat):Option V:=
 match v with
 |.im (.agg _ l)=>bif ak (Ea l k) o then(bC l k).map .im else ae
 |.agg _ l=>bif ak (iw l k) o then bC l k else ae
 |_=>ae
def V.eQ(v:V)(p:List (Nat×Nat)):Option V:=
 a8 (λv=>ab v) (λs _ ih v=>(V.dw v s.1 s.2).bind ih) p v
def V.put(x:V)(p:List (Nat×Nat))(v:V):Option V:=
 a8 (λv=>bif ak x.wd v.wd then ab x else ae) (λs _ ih v=>
  v.kids.bind λl=>bif ak (iw l s.1) s.2 then(bC l s.1).bind λc=>(ih c).map λA=>ff v.wd (bB l s.1 A)else ae) p v
def eP{α:Type}(l:List α)(off len:Nat):=bif ak off 0&&ak len (aA l)then l else(l.drop off).take len
def dc{α:Type}(g A off len:Nat)(l:List α):=ak g A&&bp (off+len) (aA l)
mutual
def V.cm(o:Nat->Nat->Nat->Nat->Option (List D)):V->Option D
 |.im d=>ab d
 |.full l=>ab (.ar l)
 |.own b g off len _=>(o b g off len).map .ar
 |.agg w l=>(V.cP o l).map (.agg w)
 |.aG l=>(V.cP o l).map .aG
 |.fn f [] []=>ab (.fn f)
 |.ifc t v=>(v.cm o).map (.ifc t)
 |_=>ae
def V.cP(o:Nat->Nat->Nat->Nat->Option (List D)):List V->Option (List D)
 |[]=>ab []
 |v::l=>match v.cm o,V.cP o l with
  |some d,ab ds=>ab (d::ds)
  |_,_=>ae
end
def pk(h:Heap)(n:Nat):Nat->Nat->Nat->Nat->Option (List D):=
 ko (λ_ _ _ _=>ae) (λ_ ih b g off len=>match aq h b with
  |some (.arr A _ _ l)=>bif dc g A off len l then ab (eP l off len)else ae
  |some (.bN A _ l)=>bif dc g A off len l then V.cP ih (eP l off len)else ae
  |_=>ae) n
def gM h b g off len:=pk h 4 b g off len
def V.data h(v:V):=
 match v with
 |.im d=>ab d
 |.own b g off len _=>(gM h b g off len).map .ar
 |v=>v.cm (gM h)
mutual
def V.eB:V->List Nat
 |.own b _ _ _ _=>[b]
 |.agg _ l=>V.de l
 |.aG l=>V.de l
 |.ifc _ v=>v.eB
 |_=>[]
def V.de:List V->List Nat
 |[]=>[]
 |v::l=>v.eB++V.de l
end
def V.owns(v:V):=
 match v with
 |.im _=>[]
 |.own b _ _ _ _=>[b]
 |v=>v.eB
def V.j0(l:List V):List Nat:=a8 [] (λv _ ih=>match v with|.im _=>ih|v=>v.owns++ih) l
def fi(h:Heap)(A:List Nat):Bool:=a8 ag (λb _ ih=>match aq h b with|some (.arr ..)=>ih|_=>af) A
def close(h:Heap)(A:List Nat):Heap:=
 a8 (λh=>h) (λb _ ih h=>match aq h b with
  |some (.arr g s _ l)=>ih (aD h b (.arr g s (aA l) l))
  |_=>ih h) A h
mutual
def D.flat:D->Bool
 |.bool _|.int _ _|.str _|.nil|.fn _|.eR|.dn|.g8=>ag
 |.agg _ l=>D.lE l
 |.aG l=>D.lE l
 |.ifc _ d=>d.flat
 |.ref _|.ar _=>af
def D.lE:List D->Bool
 |[]=>ag
 |d::l=>d.flat&&D.lE l
end
mutual
def V.kS:V->List Nat
 |.undef|.im _|.full _=>[]
 |.agg _ l|.aG l=>V.oy l
 |.own b _ _ _ _=>[b]
 |.ptr b _ _=>[b]
 |.fn _ a c=>V.oy a++V.oy c
 |.ifc _ v=>v.kS
 |.mp b=>[b]
 |.gT b=>[b]
def V.oy:List V->List Nat
 |[]=>[]
 |v::l=>v.kS++V.oy l
end
def V.refs(v:V):=
 match v with
 |.undef|.im _|.full _=>[]
 |.own b _ _ _ _=>[b]
 |.ptr b _ _=>[b]
 |v=>v.kS
mutual
def V.QZ(f:Nat->Option Nat):V->Option V
 |.undef=>ab .undef
 |.im d=>ab (.im d)
 |.full l=>ab (.full l)
 |.agg w l=>(V.DN f l).map (.agg w)
 |.aG l=>(V.DN f l).map .aG
 |.own b g o n m=>(f b).map λb'=>.own b' g o n m
 |.ptr b g p=>(f b).map λb'=>.ptr b' g p
 |.fn k a c=>match V.DN f a,V.DN f c with
  |some A,ab I=>ab (.fn k A I)
  |_,_=>ae
 |.ifc t v=>(v.QZ f).map (.ifc t)
 |.mp b=>(f b).map .mp
 |.gT b=>(f b).map .gT
def V.DN(f:Nat->Option Nat):List V->Option (List V)
 |[]=>ab []
 |v::l=>match v.QZ f,V.DN f l with
  |some A,ab I=>ab (A::I)
  |_,_=>ae
end
def V.DM(f:Nat->Option Nat)(v:V):Option V:=
 match v with
 |.undef=>ab .undef
 |.im d=>ab (.im d)
 |.own b g o n m=>(f b).map λb'=>.own b' g o n m
 |.ptr b g p=>(f b).map λb'=>.ptr b' g p
 |v=>v.QZ f
mutual
def V.MY(k:Nat):V->V×Nat
 |.full []=>(.own k 0 0 0 af,k+1)
 |.agg w l=>let(A,I):=V.MZ k l;(.agg w A,I)
 |.aG l=>let(A,I):=V.MZ k l;(.aG A,I)
 |v=>(v,k)
def V.MZ(k:Nat):List V->List V×Nat
 |[]=>([],k)
 |v::l=>let(I,J):=V.MY k v;let(U,A):=V.MZ J l;(I::U,A)
end
def V.grow(k:Nat)(v:V):V×Nat:=
 match v with
 |.full []=>(.own k 0 0 0 af,k+1)
 |.agg w l=>V.MY k (.agg w l)
 |.aG l=>V.MY k (.aG l)
 |v=>(v,k)
def ahX(l:List V):Nat->List V×Nat:=
 a8 (λk=>([],k)) (λv _ ih k=>match V.grow k v with|(I,J)=>match ih J with|(U,A)=>(I::U,A)) l
def ahW(l:List (D×V)):Nat->List (D×V)×Nat:=
 a8 (λk=>([],k)) (λe _ ih k=>match V.grow k e.2 with|(I,J)=>match ih J with|(U,A)=>((e.1,I)::U,A)) l
def arn(h:Heap):Nat->Heap×Nat:=
 a8 (λk=>([],k)) (λb _ ih k=>match b with
  |some (.cell v)=>match V.grow k v with|(a,J)=>match ih J with|(I,A)=>(ab (.cell a)::I,A)
  |some (.mp es s ck)=>match ahW es k with|(U,J)=>match ih J with|(I,A)=>(ab (.mp U s ck)::I,A)
  |some (.bN g s vs)=>match ahX vs k with|(Z,J)=>match ih J with|(I,A)=>(ab (.bN g s Z)::I,A)
  |b=>match ih k with|(I,A)=>(b::I,A)) h
def ao1(f:Nat->Option Nat)(l:List V):Option (List V):=
 a8 (ab []) (λv _ ih=>match V.DM f v with|some A=>dB ae (λI=>ab (A::I)) ih|none=>ae) l
def ao0(f:Nat->Option Nat)(l:List (D×V)):Option (List (D×V)):=
 a8 (ab []) (λe _ ih=>match V.DM f e.2 with|some A=>dB ae (λI=>ab ((e.1,A)::I)) ih|none=>ae) l
def bK.DM(f:Nat->Option Nat)(b:Option bK):Option (Option bK):=
 match b with
 |some (.cell v)=>(v.DM f).map λI=>ab (.cell I)
 |some (.mp es s ck)=>(ao0 f es).map λA=>ab (.mp A s ck)
 |some (.bN g s l)=>(ao1 f l).map λJ=>ab (.bN g s J)
 |b=>ab b
def arT(f:Nat->Option Nat)(h:Heap):Option Heap:=
 a8 (ab []) (λb _ ih=>match bK.DM f b with|some b'=>dB ae (λA=>ab (b'::A)) ih|none=>ae) h
def Tm.refs(t:Tm):List Nat:=Tm.rec [] (λv _ _ a b=>V.refs v++(a++b)) t
def fg(l:List V):List Nat:=a8 [] (λv _ ih=>match V.refs v with|[]=>ih|r=>r++ih) l
def aaY(l:List (D×V)):List Nat:=a8 [] (λe _ ih=>match V.refs e.2 with|[]=>ih|r=>r++ih) l
def qA(h:Heap):List Nat:=a8 [] (λb _ ih=>match b with|some (.cell v)=>V.refs v++ih|some (.mp es _ _)=>aaY es++ih|some (.it v _ _ _)=>V.refs v++ih|some (.bN _ _ l)=>fg l++ih|some (.lp _ t _ _ _)=>Tm.refs t++ih|_=>ih) h
def aY(l:List Nat)(b:Nat):Bool:=a8 af (λa _ ih=>bif ak a b then ag else ih) l
def iz(fb:Nat)(l:List Nat):List Nat->List Nat:=
 a8 (λA=>A) (λb _ ih A=>ih (bif cA b fb then A else bif aY A b then A else A++[b])) l
def mH(h:Heap)(fb n:Nat):List Nat->List Nat:=
 ko (λA=>A) (λ_ ih A=>match iz fb (qA (A.map λb=>aq h b)) A with
  |I=>bif ak (aA I) (aA A)then A else ih I) n
def GU(l:List Nat)(b:Nat):Option Nat:=a8 ae (λa _ ih=>bif ak a b then ab 0 else ih.map (· +1)) l
def sM:Value->Option V
 |.bool b=>ab (.im (.bool b))
 |.int k n=>ab (.im (.int k n))
 |.string s=>ab (.im (.str (s.data.toList.map ua)))
 |.pointer ae=>ab (.im .nil)
 |.slice ae 0 0=>ab (.full [])
 |.nilFunc=>ab (.im .eR)
 |.nilIface=>ab (.im .dn)
 |.map ae=>ab (.im .g8)
 |_=>ae
def ev(t:Tm):Operand->V
 |.tmp n=>t.get n
 |.const v=>dB V.undef (λx=>x) (sM v)
 |.func f=>.fn f [] []
 |.global _=>.undef
def dm(t:Tm)(l:Array Operand):List V:=a8 [] (λo _ ih=>ev t o::ih) l.toList
def ao(x y:Int):Bool:=
 wX (λa=>wX (λb=>cA a b) (λ_=>af) y) (λa=>wX (λ_=>ag) (λb=>cA b a) y) x
def aj(a b:Int):=not (ao b a)
def ai(x y:Int):Bool:=
 wX (λa=>wX (λb=>ak a b) (λ_=>af) y) (λa=>wX (λ_=>af) (λb=>ak a b) y) x
def umod(n:Int)(m:Nat):Nat:=wX (λa=>a%m) (λa=>m-1-a%m) n
def zM(h m:Nat)(n:Int):=bif cA (umod n m) h then aC (umod n m)else aC (umod n m)-aC m
def wr(k:IntKind)(n:Int):Int:=
 Su (zM 128 256 n) (zM 32768 65536 n) (zM 2147483648 4294967296 n) (zM 9223372036854775808 18446744073709551616 n)
  (aC (umod n 256)) (aC (umod n 65536)) (aC (umod n 4294967296)) (aC (umod n 18446744073709551616)) k
def kb(k:IntKind):Nat:=Su 8 16 32 64 8 16 32 64 k
def fP(a b:IntKind):=ak (kn a) (kn b)
where kn k:Nat:=Su 0 1 2 3 4 5 6 7 k
def word(k:IntKind)(n:Int):=umod n (2^kb k)
def im(k:IntKind)(n:Int):Option V:=ab (.im (.int k n))
def bm(b:Bool):Option V:=ab (.im (.bool b))
def intArith(op:BinOp)(k:IntKind)(x y:Int):=
 match op with
 |.add=>im k (wr k (x+y))
 |.sub=>im k (wr k (x-y))
 |.mul=>im k (wr k (x*y))
 |.quo=>bif ai y 0 then ae else im k (wr k (x.tdiv y))
 |.rem=>bif ai y 0 then ae else im k (x.tmod y)
 |.and=>im k (wr k (aC (Nat.land (word k x) (word k y))))
 |.or=>im k (wr k (aC (tY (word k x) (word k y))))
 |.xor=>im k (wr k (aC (Nat.xor (word k x) (word k y))))
 |.andNot=>im k (wr k (aC (Nat.land (word k x) (2^kb k-1-word k y))))
 |.eql=>bm (ai x y)
 |.neq=>bm (not (ai x y))
 |.lss=>bm (ao x y)
 |.leq=>bm (aj x y)
 |.gtr=>bm (ao y x)
 |.geq=>bm (aj y x)
 |.shl=>bif ao y 0 then ae else im k (wr k (x*aC (2^mh y.toNat (kb k))))
 |.shr=>bif ao y 0 then ae else im k (x.fdiv (aC (2^mh y.toNat (kb k))))
def seq(x y:List Nat):Bool:=
 a8 (λy=>match y with|[]=>ag|_::_=>af) (λa _ ih y=>match y with|[]=>af|b::r=>bif ak a b then ih r else af) x y
def slt(x y:List Nat):Bool:=
 a8 (λy=>match y with|[]=>af|_::_=>ag) (λa _ ih y=>match y with|[]=>af|b::r=>bif cA a b then ag else bif ak a b then ih r else af) x y
def Rv(op:BinOp)(x y:List Nat):Option V:=
 match op with
 |.add=>bif bp (aA x+aA y) 4611686018427387904 then ab (.im (.str (x++y)))else ae
 |.eql=>bm (seq x y)
 |.neq=>bm (not (seq x y))
 |.lss=>bm (slt x y)
 |.leq=>bm (or (slt x y) (seq x y))
 |.gtr=>bm (not (or (slt x y) (seq x y)))
 |.geq=>bm (not (slt x y))
 |_=>ae
def gL(k:TK)(v:V):=
 match v with
 |.im d=>HX k d
 |.agg _ _=>jE k
 |.aG _|.undef=>af
 |_=>not (jE k)
where
 jE (k:TK):Bool:=match k with|.st _|.arr _ _=>ag|_=>af
 HX k (d:D):Bool:=match d with|.agg _ _=>jE k|.aG _=>af|_=>not (jE k)
def cq(ti:TI) v:=ak v.wd ti.size&&gL ti.k v
def dW(E:Env):Nat->Nat->D->D->Option Bool
 |0,_,_,_=>ae
 |n+1,t,x,y=>(E.ty t).bind λti=>bif cq ti (.im x)&&cq ti (.im y)then
  match ti.k,x,y with
  |.bool,.bool a,.bool b=>ab (a==b)
  |.int _,.int k a,.int I b=>bif fP k I then ab (ai a b)else ae
  |.str,.str a,.str b=>ab (seq a b)
  |.st fs,.agg _ xs,.agg _ A=>qw fs 0 xs A (dW E n)
  |.arr m e,.agg _ xs,.agg _ A=>(E.ty e).bind λ_=>bif ak (aA xs) m&&ak (aA A) m then sc xs A (dW E n e)else ae
  |_,_,_=>ae else ae
where
 qw:List (Nat×Nat×Nat)->Nat->List D->List D->(Nat->D->D->Option Bool)->Option Bool
  |[],_,[],[],_=>ab ag
  |(off,_,t)::fs,o,x::xs,y::A,f=>bif ak off o then match f t x y,qw fs (o+x.wd) xs A f with
   |some b,ab c=>ab (b&&c)
   |_,_=>ae else ae
  |_,_,_,_,_=>ae
 sc:List D->List D->(D->D->Option Bool)->Option Bool
  |[],[],_=>ab ag
  |x::xs,y::A,f=>match f x y,sc xs A f with
   |some b,ab c=>ab (b&&c)
   |_,_=>ae
  |_,_,_=>ae
def pg(k:TK)(x:V):=
 match k,x with
 |.ptr,.im .nil=>ab ag
 |.ptr,.im (.ref _)=>ab af
 |.ptr,.ptr _ _ _=>ab af
 |.fn,.im .eR=>ab ag
 |.fn,.im (.fn _)=>ab af
 |.fn,.fn _ _ _=>ab af
 |.ifc _,.im .dn=>ab ag
 |.ifc _,.im (.ifc _ _)=>ab af
 |.ifc _,.ifc _ _=>ab af
 |.map _ _,.im .g8=>ab ag
 |.map _ _,.mp _=>ab af
 |_,_=>ae
def qI:V->Bool
 |.im .nil|.im .eR|.im .dn|.im .g8=>ag
 |_=>af
def ab6(k:TK)(lit:Bool):=match k with|.ifc ag=>lit|_=>ag
def mq(E:Env)
 |0,_=>af
 |n+1,t=>match E.ty t with
  |none=>af
  |some ti=>match ti.k with
   |.bool|.int _|.str=>ag
   |.st fs=>fs.all λf=>mq E n f.2.2
   |.arr _ e=>mq E n e
   |_=>af
def o0 E t lit x y:=
 bif qI x||qI y then(E.ty t).bind λti=>(pg ti.k x).bind λa=>(pg ti.k y).bind λb=>bif a&&b then bif ab6 ti.k lit then ab ag else ae else ab af else
 match x,y with
 |.im a,.im b=>bif mq E 12 t then dW E 12 t a b else ae
 |_,_=>ae
def n5(E:Env)(op:BinOp)(t:Nat)(lit:Bool)(x y:V):Option V:=
 match op with
 |.eql=>(o0 E t lit x y).map λb=>.im (.bool b)
 |.neq=>(o0 E t lit x y).map λb=>.im (.bool (not b))
 |_=>ae
def isConst:Operand->Bool
 |.const _=>ag
 |_=>af
def B0(op:BinOp)(k:IntKind)(a:Int)(A:IntKind)(b:Int):=
 match op with
 |.shl=>intArith .shl k a b
 |.shr=>intArith .shr k a b
 |op=>bif fP k A then intArith op k a b else ae
def jA E op t lit(x y:V):=
 match x with
 |.im (.int k a)=>match y with
  |.im (.int A b)=>B0 op k a A b
  |_=>ae
 |.im (.str a)=>match y with
  |.im (.str b)=>Rv op a b
  |_=>ae
 |x=>n5 E op t lit x y
def wy(op:UnOp)(x:V):=
 match op,x with
 |.not,.im (.bool b)=>bm (not b)
 |.neg,.im (.int k n)=>im k (wr k (0-n))
 |.xor,.im (.int k n)=>im k (wr k (aC (2^kb k-1-word k n)))
 |_,_=>ae
def oS(c:Nat):D:=.int .u8 (aC c)
def bytesOf(l:List D):Option (List Nat):=
 a8 (ab []) (λd _ ih=>match d with|.int .u8 n=>ih.map (n.toNat:: ·)|_=>ae) l
def V.elems(h:Heap):V->Option (List D)
 |.im (.ar l)=>ab l
 |.full l=>ab l
 |.own b g off len _=>gM h b g off len
 |_=>ae
def Env.kind(E:Env) t:=(E.ty t).map TI.k
def oV(E:Env)(h:Heap)(aw:Nat)(s d:Nat)(x:V):Option (V×Heap):=
 match E.kind s,E.kind d,x with
 |some (.int _),ab (.int k),.im (.int _ n)=>ab (.im (.int k (wr k n)),h)
 |some .str,ab .str,.im (.str b)=>ab (.im (.str b),h)
 |some .str,ab (.ar e),.im (.str b)=>
  match E.kind e with
  |some (.int .u8)=>ab (.own aw 0 0 (aA b) af,aD h aw (.arr 0 1 0 (b.map oS)))
  |_=>ae
 |some (.ar e),ab .str,x=>
  match E.kind e,x.elems h with
  |some (.int .u8),ab l=>(bytesOf l).map λA=>(.im (.str A),h)
  |_,_=>ae
 |_,_,_=>ae
def bound hi(x:Option V)(A:Nat):=
 match x with
 |none=>ab A
 |some (.im (.int _ n))=>bif aj 0 n&&aj n (aC hi)then ab n.toNat else ae
 |_=>ae
def bounds len(lo hi mx:Option V):=
 (bound len mx len).bind λm=>(match hi,mx with|none,ab _=>ae|_,_=>bound m hi len).bind λj=>(bound j lo 0).map λi=>(i,j,m)
def cut{α:Type}(l:List α) i j:=(l.drop i).take (j-i)
def kY(b g off len:Nat)(aR:Bool)(lo hi mx:Option V):Option V:=
 (bounds len lo hi mx).bind λr=>
  dB (ab (.own b g (off+r.1) (r.2.1-r.1) (aR&&ak r.2.1 len))) (λ_=>bif ak r.2.1 r.2.2 then ab (.own b g (off+r.1) (r.2.1-r.1) ag)else ae) mx
def isNone(l:List D):=match l with|[]=>ag|_::_=>af
def yz(l:List V):=match l with|[]=>ag|_::_=>af
def gZ(sz:Nat)(l:List D):=match l with|[]=>ag|d::_=>ak d.wd sz
def Rj(x:V)(lo hi mx:Option V):Option V:=
 match x with
 |.im (.str s)=>dB ((bounds (aA s) lo hi ae).map λb=>.im (.str (cut s b.1 b.2.1))) (λ_=>ae) mx
 |_=>ae
def rn(h:Heap)(sz:Nat)(x:V)(lo hi mx:Option V):Option V:=
 match x with
 |.im (.ar l)=>bif gZ sz l then(bounds (aA l) lo hi mx).bind λb=>
  dB (ab (.im (.ar (cut l b.1 b.2.1)))) (λ_=>bif ak b.2.1 b.2.2 then ab (.full (cut l b.1 b.2.1))else ae) mx else ae
 |.full l=>bif gZ sz l then(bounds (aA l) lo hi mx).map λb=>bif ak b.2.1 b.2.2 then .full (cut l b.1 b.2.1)else .im (.ar (cut l b.1 b.2.1))else ae
 |.own b g off len aR=>match aq h b with
  |some (.arr A s _ l)=>bif dc g A off len l&&(ak s sz||isNone l)then kY b g off len aR lo hi mx else ae
  |some (.bN A s l)=>bif dc g A off len l&&(ak s sz||yz l)then kY b g off len aR lo hi mx else ae
  |_=>ae
 |_=>ae
def Rh(m sz:Nat)(x:V)(lo hi mx:Option V):Option V:=
 match x,lo,hi,mx with
 |.im (.ref (.agg _ l)),ae,ae,ae=>bif ak (aA l) m&&(bp m 16777216&&l.all λd=>ak d.wd sz)then ab (.full l)else ae
 |_,_,_,_=>ae
def tq(E:Env) t h x(lo hi mx:Option V):=
 (E.ty t).bind λti=>match ti.k with
  |.arr m el=>(E.ty el).bind λte=>Rh m te.size x lo hi mx
  |.str=>Rj x lo hi mx
  |.ar el=>(E.ty el).bind λte=>rn h te.size x lo hi mx
  |_=>ae
def eJ(h:Heap)(b g:Nat)(p:List (Nat×Nat)):Option V:=
 match aq h b with
 |some (.cell v)=>bif ak g 0 then v.eQ p else ae
 |some (.arr A s _ l)=>match p with
  |(i,o)::q=>bif ak g A&&ak o (i*s)then(bC l i).bind λd=>(V.im d).eQ q else ae
  |[]=>ae
 |some (.bN A s l)=>match p with
  |(i,o)::q=>bif ak g A&&ak o (i*s)then(bC l i).bind λv=>v.eQ q else ae
  |[]=>ae
 |_=>ae
def jJ(h:Heap)(b g:Nat)(p:List (Nat×Nat))(x:V):Option Heap:=
 match aq h b with
 |some (.cell v)=>bif ak g 0 then(V.put x p v).map λA=>aD h b (.cell A)else ae
 |some (.arr I s ro l)=>match p with
  |(i,o)::q=>
   bif ak g I&&(ak o (i*s)&&bp ro i)then
    (bC l i).bind λd=>(x.data h).bind λJ=>(V.put (.im J) q (.im d)).bind λA=>match A with
     |.im U=>bif fi h x.owns&&not (aY x.owns b)then ab (aD (close h x.owns) b (.arr I s ro (bB l i U)))else ae
     |_=>ae
   else ae
  |[]=>ae
 |some (.bN I s l)=>match p with
  |(i,o)::q=>bif ak g I&&ak o (i*s)then(bC l i).bind λv=>(V.put x q v).map λA=>aD h b (.bN I s (bB l i A))else ae
  |[]=>ae
 |_=>ae
def ij(v:V):=match v with|.undef|.aG _|.im (.aG _)=>af|_=>ag
def nf(kids:List V)(A:Nat->Option (Nat×Nat))(ps:List (Nat×V)):Option (List V):=
 a8 (λl=>ab l) (λp _ ih l=>(A p.1).bind λI=>(bC l p.1).bind λc=>
  bif ak (iw l p.1) I.1&&(ak c.wd I.2&&(ak p.2.wd I.2&&ij p.2))then ih (bB l p.1 p.2)else ae) ps kids
def lC(h:Heap)(sz:Nat)(l:List D)(ps:List (Nat×V)):Option (List D):=
 a8 (λl=>ab l) (λp _ ih l=>(p.2.data h).bind λd=>(bC l p.1).bind λ_=>bif ak d.wd sz&&ij p.2 then ih (bB l p.1 d)else ae) ps l
def jo(ps:List (Nat×V)):List Nat:=a8 [] (λp _ ih=>match V.owns p.2 with|[]=>ih|A=>A++ih) ps
abbrev R:=Option (V×Heap)
def jq(h:Heap)(x:Option V):R:=dB ae (λv=>ab (v,h)) x
def mv(e:Operand->V)(ps:Array (Nat×Operand)):List (Nat×V):=a8 [] (λp _ ih=>(p.1,e p.2)::ih) ps.toList
def kX(h:Heap)(c a b:V):R:=match c with|.im (.bool t)=>bif t then ab (a,h)else ab (b,h)|_=>ae
def wg(E:Env)(aw:Nat)(h:Heap)(t:Nat):R:=
 (E.ty t).bind λti=>bif cq ti ti.zero then
  bif ak t E.fy.1 then ab (.ptr aw 0 [],aD h aw (.jU t E.fy.2 []))else ab (.ptr aw 0 [],aD h aw (.cell ti.zero))else ae
def mI(E:Env)(aw:Nat)(h:Heap)(t:Nat)(x:V):R:=
 (E.ty t).bind λti=>bif cq ti x then uw aw h ti.k x else ae
where
 uw aw h (k:TK) (x:V):R:=
  match k,x with
  |.arr _ _,.im d=>ab (.im (.ref d),aD h aw (.arr 0 0 0 []))
  |_,x=>ab (.ptr aw 0 [],aD h aw (.cell x))
def wh(E:Env)(h:Heap)(t:Nat)(ps:List (Nat×V)):R:=
 (E.ty t).bind λti=>ti.zero.kids.bind λl=>
  match ti.k with
  |.st fs=>(nf l (λi=>(bC fs i).map λf=>(f.1,f.2.1)) ps).map λA=>(ff ti.zero.wd A,h)
  |.arr _ el=>(E.ty el).bind λte=>(nf l (λi=>ab (i*te.size,te.size)) ps).map λA=>(ff ti.zero.wd A,h)
  |_=>ae
def kU{α:Type}(n:Nat)(x:α):List α:=ko [] (λ_ ih=>x::ih) n
def rR(ps:List (Nat×V)):Bool:=a8 af (λp _ ih=>match p.2 with|.im _=>ih|_=>ag) ps
def kW(E:Env)(keep:Bool)(aw:Nat)(h:Heap)(t n:Nat)(ps:List (Nat×V)):R:=
 (E.ty t).bind λti=>match ti.k with
  |.ar el=>(E.ty el).bind λte=>bif bp (n*te.size) 16777216&&bp n 16777216 then(te.zero.data []).bind λz=>bif not (cq te (.im z))then ae else match bif keep&&rR ps then ae else lC h te.size (kU n z) ps with
   |some l=>bif fi h (jo ps)then ab (.own aw 0 0 n af,aD (close h (jo ps)) aw (.arr 0 te.size 0 l))else ae
   |none=>(nf (kU n te.zero) (λi=>ab (i*te.size,te.size)) ps).map λl=>(.own aw 0 0 n af,aD h aw (.bN 0 te.size l))else ae
  |_=>ae
def iV(E:Env)(h:Heap)(t:Nat)(a:V):R:=
 (E.ty t).bind λti=>match a with
  |.ptr b g p=>(eJ h b g p).bind λv=>bif cq ti v then ab (v,h)else ae
  |.im (.ref d)=>bif cq ti (.im d)then ab (.im d,h)else ae
  |_=>ae
def oz(E:Env)(h:Heap)(t:Nat)(a x:V):R:=
 (E.ty t).bind λti=>match a with
  |.ptr b g p=>bif cq ti x then(jJ h b g p x).map λh'=>(.undef,h')else ae
  |_=>ae
def zK(h:Heap)(x:V):R:=match x with|.ptr b g p=>ab (.ptr b g p,h)|.im (.ref d)=>ab (.im (.ref d),h)|_=>ae
def tk(E:Env)(aw:Nat)(h:Heap)(t:Nat)(l c:V):R:=
 (E.ty t).bind λti=>match ti.k with
  |.ar el=>(E.ty el).bind λte=>(te.zero.data []).bind λz=>match l,c with
   |.im (.int .i64 n),.im (.int .i64 m)=>
    bif cq te (.im z)&&(aj 0 n&&(aj n m&&aj (m*aC te.bytes) 70368744177664))then ab (.own aw 0 0 n.toNat af,aD h aw (.arr 0 te.size 0 (kU n.toNat z)))else ae
   |_,_=>ae
  |_=>ae
def zG(E:Env)(h:Heap)(t:Nat)(x:V):R:=
 match E.kind t with
 |some (.ifc _)=>ae
 |some _=>match x with|.im d=>ab (.im (.ifc t d),h)|.undef=>ae|v=>ab (.ifc t v,h)
 |none=>ae
def zF(E:Env)(h:Heap)(t:Nat)(x:V)(k:Nat):R:=
 (E.ty t).bind λti=>match ti.k with
  |.st fs=>(bC fs k).bind λf=>bif ak f.2.1 0 then ae else match x with
   |.ptr b g p=>ab (.ptr b g (p++[(k,f.1)]),h)
   |.im (.ref d)=>match V.dw (.im d) k f.1 with
    |some (.im A)=>bif ak A.wd f.2.1 then ab (.im (.ref A),h)else ae
    |_=>ae
   |_=>ae
  |_=>ae
def zE(E:Env)(h:Heap)(t:Nat)(x:V)(k:Nat):R:=
 (E.ty t).bind λti=>match ti.k with
  |.st fs=>(bC fs k).bind λf=>(E.ty f.2.2).bind λA=>(x.dw k f.1).bind λv=>bif ak v.wd f.2.1&&gL A.k v then ab (v,h)else ae
  |_=>ae
def mu(E:Env)(h:Heap)(el:Nat)(l:List D)(n:Int):R:=
 (E.ty el).bind λte=>bif aj 0 n then(bC l n.toNat).bind λd=>bif ak d.wd te.size then ab (.im (.ref d),h)else ae else ae
def iI(h:Heap)(b sz:Nat):Bool:=match aq h b with|some (.arr _ s _ _)=>ak s sz|some (.bN _ s _)=>ak s sz|_=>af
def pI(E:Env)(h:Heap)(t:Nat)(x i:V):R:=
 match i with
 |.im (.int _ n)=>(E.ty t).bind λti=>match ti.k with
  |.ar el=>match x with
   |.own b g off len _=>(E.ty el).bind λte=>bif aj 0 n&&(ao n (aC len)&&(ak off 0||iI h b te.size))then ab (.ptr b g [(off+n.toNat,(off+n.toNat)*te.size)],h)else ae
   |.im (.ar l)=>mu E h el l n
   |.full l=>mu E h el l n
   |_=>ae
  |.arr m el=>(E.ty el).bind λte=>bif aj 0 n&&(ao n (aC m)&&cA 0 te.size)then match x with
   |.ptr b g p=>ab (.ptr b g (p++[(n.toNat,n.toNat*te.size)]),h)
   |.im (.ref d)=>match V.dw (.im d) n.toNat (n.toNat*te.size)with
    |some (.im A)=>bif ak A.wd te.size then ab (.im (.ref A),h)else ae
    |_=>ae
   |_=>ae else ae
  |_=>ae
 |_=>ae
def zH(E:Env)(h:Heap)(t:Nat)(x i:V):R:=
 match i with
 |.im (.int _ n)=>match x with
  |.im (.str s)=>(E.ty t).bind λti=>match ti.k with|.str=>bif aj 0 n then(bC s n.toNat).map λc=>(.im (oS c),h)else ae|_=>ae
  |x=>(E.ty t).bind λti=>match ti.k with
   |.arr m el=>(E.ty el).bind λte=>bif aj 0 n&&ao n (aC m)then(x.dw n.toNat (n.toNat*te.size)).bind λw=>bif cq te w then ab (w,h)else ae else ae
   |_=>ae
 |_=>ae
def sC(a b:D):=
 match a,b with
 |.int k x,.int A y=>bif fP k A then ab (ai x y)else ae
 |.str x,.str y=>ab (seq x y)
 |.bool x,.bool y=>ab (bif x then y else not y)
 |_,_=>ae
def ng(k:D)(es:List (D×V)):Option Nat:=
 a8 (ab 0) (λe _ ih=>(sC k e.1).bind λb=>bif b then ab 0 else ih.map (· +1)) es
def kN(E:Env)(t:Nat)(k:D):Bool:=
 match E.kind t,k with
 |some (.int j),.int A _=>fP j A
 |some .str,.str _=>ag
 |some .bool,.bool _=>ag
 |_,_=>af
def zJ(E:Env)(aw:Nat)(h:Heap)(t:Nat)(r:Option V):R:=
 match E.kind t with
 |some (.map _ _)=>match r with
  |none=>ab (.mp aw,aD h aw (.mp [] [] 0))
  |some (.im (.int _ _))=>ab (.mp aw,aD h aw (.mp [] [] 0))
  |_=>ae
 |_=>ae
def entries h(m:V):=
 match m with
 |.im .g8=>ab []
 |.mp b=>match aq h b with|some (.mp es _ _)=>ab es|_=>ae
 |_=>ae
def zI(E:Env)(h:Heap)(t:Nat)(m k:V)(ok:Bool):R:=
 match E.kind t,k with
 |some (.map I et),.im A=>bif kN E I A then
   (entries h m).bind λes=>(ng A es).bind λi=>
    match bC es i with
    |some e=>ab (bif ok then .aG [e.2,.im (.bool ag)]else e.2,h)
    |none=>(E.ty et).bind λte=>bif ij te.zero then ab (bif ok then .aG [te.zero,.im (.bool af)]else te.zero,h)else ae
  else ae
 |_,_=>ae
def rl(E:Env)(h:Heap)(t:Nat)(m k v:V):R:=
 match E.kind t,m,k with
 |some (.map I et),.mp b,.im A=>bif kN E I A then
   (entries h m).bind λes=>(ng A es).bind λi=>(E.ty et).bind λte=>bif cq te v then
    match aq h b with
    |some (.mp _ s ck)=>ab (.undef,aD h b (bif cA i (aA es)then .mp (bB es i (A,v)) s ck else .mp (es++[(A,v)]) (s++[ck]) (ck+1)))
    |_=>ae else ae
  else ae
 |_,_,_=>ae
def LB(E:Env)(I:Array Nat)(m k:V)(h:Heap):R:=
 match(bC I.toList 0).bind E.kind,m,k with
 |some (.map J _),.mp b,.im A=>bif kN E J A then
   (entries h m).bind λes=>(ng A es).bind λi=>match aq h b with|some (.mp _ s ck)=>ab (.im (.aG []),aD h b (.mp (es.eraseIdx i) (s.eraseIdx i) ck))|_=>ae
  else ae
 |_,_,_=>ae
def Q8(E:Env)(aw:Nat)(h:Heap)(t:Nat)(x:V):R:=
 match E.kind t,x with
 |some (.map _ _),.im .g8=>ab (.ptr aw 0 [],aD h aw (.it (.im .g8) 0 [] 0))
 |some (.map _ _),.mp b=>match aq h b with|some (.mp _ _ ck)=>ab (.ptr aw 0 [],aD h aw (.it (.mp b) ck [] ck))|_=>ae
 |_,_=>ae
def leftOf(seen:List Nat)(s:List Nat):Nat->List (Nat×Nat):=
 a8 (λ_=>[]) (λa _ ih i=>bif aY seen a then ih (i+1)else(i,a)::ih (i+1)) s
def AM(last:Nat)(s:List Nat):Bool:=a8 ag (λa _ ih=>bif bp last a then ih else af) s
def isNil{α:Type}(l:List α):=match l with|[]=>ag|_=>af
def Q7(h:Heap)(x:V)(str:Bool):R:=
 match x,str with
 |.ptr b 0 [],af=>match aq h b with
  |some (.it (.im .g8) _ _ _)=>ab (.im (.aG [.bool af]),h)
  |some (.it (.mp c) since seen last)=>match aq h c with
   |some (.mp es s ck)=>bif not (isNil seen)&&(not (isNil s)&&AM last s)then ae else match leftOf seen s 0 with
    |[]=>ab (.im (.aG [.bool af]),h)
    |[(i,a)]=>bif cA a since then(bC es i).map λe=>(.aG [.im (.bool ag),.im e.1,e.2],aD h b (.it (.mp c) since (seen++[a]) ck))else ae
    |_=>ae
   |_=>ae
  |_=>ae
 |_,_=>ae
def Hi(l:List Nat):Option Nat:=a8 ae (λa _ ih=>match ih with|some b=>ab b|none=>ab a) l
def Q6(h:Heap)(x:V):R:=
 match x with
 |.ptr b 0 []=>match aq h b with
  |some (.it (.mp c) _ seen last)=>match aq h c with
   |some (.mp es s ck)=>bif ak ck last then(Hi seen).bind λa=>(GU s a).bind λi=>(bC es i).map λe=>(.aG [.im e.1,e.2],h)else ae
   |_=>ae
  |_=>ae
 |_=>ae
def JI(E:Env)(h:Heap)(x:V)(t:Nat)(ok:Bool):R:=
 match E.kind t,E.ty t with
 |some (.ifc _),_=>ae
 |some _,ab ti=>match x with
  |.im (.ifc u d)=>bif ak u t then ab (bif ok then .im (.aG [d,.bool ag])else .im d,h)else bif ok&&ij ti.zero then ab (.aG [ti.zero,.im (.bool af)],h)else ae
  |.ifc u v=>bif ak u t then ab (bif ok then .aG [v,.im (.bool ag)]else v,h)else bif ok&&ij ti.zero then ab (.aG [ti.zero,.im (.bool af)],h)else ae
  |.im .dn=>bif ok&&ij ti.zero then ab (.aG [ti.zero,.im (.bool af)],h)else ae
  |_=>ae
 |_,_=>ae
def vg(k:IntKind)(l:List V):Int->Option Int:=
 a8 (λa=>ab a) (λv _ ih a=>match v with|.im (.int A b)=>bif fP k A then ih (bif aj a b then a else b)else ae|_=>ae) l
def ve(k:IntKind)(l:List V):Int->Option Int:=
 a8 (λa=>ab a) (λv _ ih a=>match v with|.im (.int A b)=>bif fP k A then ih (bif aj a b then b else a)else ae|_=>ae) l
def qj(E:Env)(t:Nat)(h:Heap)(x:V):R:=
 match E.kind t,x with
 |some (.ar _),.own _ _ _ n _=>ab (.im (.int .i64 (aC n)),h)
 |some (.ar _),.im (.ar l)=>ab (.im (.int .i64 (aC (aA l))),h)
 |some (.ar _),.full l=>ab (.im (.int .i64 (aC (aA l))),h)
 |some .str,.im (.str s)=>ab (.im (.int .i64 (aC (aA s))),h)
 |some (.map _ _),.im .g8=>ab (.im (.int .i64 0),h)
 |some (.map _ _),.mp b=>match aq h b with|some (.mp es _ _)=>bif bp (aA es) 9223372036854775807 then ab (.im (.int .i64 (aC (aA es))),h)else ae|_=>ae
 |_,_=>ae
def Lz(E:Env)(t:Nat)(h:Heap)(x:V):R:=
 match E.kind t,x with
 |some (.ar _),.full l=>ab (.im (.int .i64 (aC (aA l))),h)
 |_,_=>ae
def room(n bytes:Nat):=bp (n*bytes) 70368744177664&&bp n 70368744177664
def uo(te:TI)(aw:Nat)(s:V)(new:List D)(h:Heap):R:=
 match s with
 |.own b g off len aR=>match aq h b with
  |some (.arr A sz ro l)=>
   bif aR then
    bif isNone new then ab (.own b g off len aR,h)else
    bif dc g A off len l&&(ak sz te.size&&room (len+aA new) te.bytes)
    then ab (.own aw 0 0 (len+aA new) af,aD h aw (.arr 0 te.size 0 (eP l off len++new)))else ae
   else
    bif dc g A off len l&&(ak off 0&&(bp ro len&&(ak sz te.size&&room (len+aA new) te.bytes)))
    then ab (.own b (g+1) 0 (len+aA new) af,aD h b (.arr (g+1) te.size ro (eP l 0 len++new)))else ae
  |_=>ae
 |.full l=>bif gZ te.size l&&room (aA l+aA new) te.bytes then
   ab (.own aw 0 0 (aA l+aA new) af,aD h aw (.arr 0 te.size (bif isNone new then aA l else 0) (l++new)))else ae
 |_=>ae
def V.ks(h:Heap):V->Option (List D)
 |.im (.ar l)=>ab l
 |.full l=>ab l
 |.own b g off len _=>match aq h b with
  |some (.arr A _ _ l)=>bif dc g A off len l then ab (eP l off len)else ae
  |_=>ae
 |_=>ae
def vj(E:Env)(te:TI)(t:Nat)(x:V)(h:Heap):Option (List D):=
 match E.kind t,x with
 |some .str,.im (.str b)=>bif ak te.size 1 then ab (b.map oS)else ae
 |some (.ar _),v=>(v.ks h).bind λl=>bif gZ te.size l then ab l else ae
 |_,_=>ae
def kD(h:Heap)(v:V):=match v with
 |.own b _ _ _ _=>match aq h b with|some (.bN _ _ _)=>ag|_=>af
 |_=>af
def V.z5 h(x:V):=
 match x with
 |.own b g off len _=>match aq h b with
  |some (.bN A _ l)=>bif dc g A off len l then ab (eP l off len)else ae
  |_=>(x.ks h).map jj
 |x=>(x.ks h).map jj
def G3(k:Option TK):=match k with|some (.ar _)=>ag|_=>af
def uj(te:TI)(l:List V):Bool:=a8 ag (λv _ ih=>bif cq te v then ih else af) l
def rT(te:TI)(aw:Nat)(s:V)(new:List V)(h:Heap):R:=
 match s with
 |.own b g off len aR=>match aq h b with
  |some (.bN A sz l)=>bif not aR&&(dc g A off len l&&(ak off 0&&(ak sz te.size&&room (len+aA new) te.bytes)))
    then ab (.own b (g+1) 0 (len+aA new) af,aD h b (.bN (g+1) te.size (eP l 0 len++new)))else ae
  |_=>ae
 |.full l=>bif gZ te.size l&&(not (yz new)&&room (aA l+aA new) te.bytes)then
   ab (.own aw 0 0 (aA l+aA new) af,aD h aw (.bN 0 te.size (jj l++new)))else ae
 |_=>ae
def u6(k:Option TK):=match k with|some (.int _)=>ag|_=>af
def Fc(te:TI)(aw:Nat)(s:V)(n:Int)(h:Heap):R:=
 match s with
 |.full l=>bif gZ te.size l&&(ao 0 n&&room (aA l+n.toNat) te.bytes)then
   (te.zero.data []).bind λz=>bif cq te (.im z)then ab (.own aw 0 0 (aA l+n.toNat) af,aD h aw (.arr 0 te.size 0 (l++kU n.toNat z)))else ae else ae
 |_=>ae
def oQ(E:Env)(te:TI)(aw A:Nat)(s x:V)(h:Heap):R:=
 bif u6 (E.kind A)then match x with|.im (.int .i64 n)=>Fc te aw s n h|_=>ae
 else bif kD h s||kD h x then bif G3 (E.kind A)then(x.z5 h).bind λnew=>bif uj te new then rT te aw s new h else ae else ae
 else(vj E te A x h).bind λnew=>uo te aw s new h
def uu(E:Env)(aw:Nat)(A:Array Nat)(s x:V)(h:Heap):R:=
 ((bC A.toList 0).bind E.ty).bind λti=>match ti.k with
  |.ar el=>(E.ty el).bind λte=>(bC A.toList 1).bind λI=>bif cq te te.zero then oQ E te aw I s x h else ae
  |_=>ae
def LA(E:Env)(A:Array Nat)(d s:V)(h:Heap):R:=
 ((bC A.toList 0).bind E.ty).bind λti=>match ti.k with
  |.ar el=>(E.ty el).bind λte=>(bC A.toList 1).bind λJ=>bif G3 (E.kind J)then(s.ks h).bind λsrc=>match d with
   |.own b g off len _=>match aq h b with
    |some (.arr I sz ro l)=>bif not (aY s.owns b)&&(dc g I off len l&&(ak sz te.size&&(bp ro off&&gZ te.size src)))then
      (λn=>ab (.im (.int .i64 (aC n)),aD h b (.arr I sz ro (l.take off++(src.take n++l.drop (off+n)))))) (mh len (aA src))else ae
    |_=>ae
   |_=>ae else ae
  |_=>ae
def fc(E:Env)(aw:Nat)(b:Builtin)(A:Array Nat)(xs:List V)(h:Heap):R:=
 match b with
 |.len=>match xs with|[x]=>(bC A.toList 0).bind λt=>qj E t h x|_=>ae
 |.append=>match xs with|[s,x]=>uu E aw A s x h|_=>ae
 |.min=>match xs with|.im (.int k a)::l=>(vg k l a).map λn=>(.im (.int k n),h)|_=>ae
 |.max=>match xs with|.im (.int k a)::l=>(ve k l a).map λn=>(.im (.int k n),h)|_=>ae
 |.cap=>match xs with|[x]=>(bC A.toList 0).bind λt=>Lz E t h x|_=>ae
 |.delete=>match xs with|[m,k]=>LB E A m k h|_=>ae
 |.copy=>match xs with|[d,s]=>LA E A d s h|_=>ae
 |_=>ae
def guardOf(ops:Array Oper)(t:Tm)(g:Option (Nat×Bool)):=
 match g with
 |none=>ab ag
 |some (j,A)=>(bC ops.toList j).bind λo=>o.dst.bind λd=>match t.get d with
  |.im (.bool b)=>ab (bif b then A else not A)
  |.im (.aG [])=>ab af
  |_=>ae
def putDst(t:Tm)(d:Option Nat)(v:V):Tm:=dB t (λn=>t.set n v) d
def Mj(n:Nat):=bif cA n 8 then 3 else bif cA n 16 then 4 else bif cA n 32 then 5 else bif cA n 64 then 6 else bif cA n 128 then 7 else bif cA n 256 then 8 else 12
def vH(l:List V):Nat->Tm->Tm:=a8 (λ_ t=>t) (λv _ ih i t=>ih (i+1) (t.set i v)) l
def gP(n:Nat)(args:List V):=vH args 0 (Tm.mk (Mj n))
section
variable (E:Env) (ih:Nat->Nat->Nat->Code->St->Option (Ex×St))
def zx h(t:Tm)(r:ResultVar):=
 match r with
 |.tmp n=>ab (t.get n)
 |.cell a ty=>match t.get a,E.ty ty with
  |.ptr b g p,ab ti=>(eJ h b g p).bind λv=>bif cq ti v then ab v else ae
  |_,_=>ae
def wa(h:Heap)(t:Tm)(l:List ResultVar):Option (List V):=
 a8 (ab []) (λr _ ih=>(zx E h t r).bind λv=>ih.map (v:: ·)) l
def kV h(fn:Func) t:=
 (wa E h t fn.results.toList).map λl=>match l with
  |[v]=>v
  |l=>lK l
def Kr(te:TI):Bool:=match te.zero.data []with|some z=>cq te (.im z)|none=>af
def qo(aw el:Nat)(xs:List V)(h:Heap):R:=
 match xs with
 |[x]=>(E.ty el).bind λte=>(x.ks h).bind λl=>bif cq te te.zero&&Kr te&&(gZ te.size l&&room (aA l) te.bytes)then ab (.own aw 1 0 (aA l) af,aD h aw (.arr 1 te.size 0 l))else ae
 |_=>ae
def Fk(h:Heap)(b:Nat):Option (Nat×Nat×List Nat):=
 match aq h b with
 |some (.jU t e s)=>ab (t,e,s)
 |_=>ae
def agu(l:List Nat)(b:Nat):Nat:=a8 0 (λa _ ih=>bif ak a b then ih+1 else ih) l
def gI(x:Nat)(xs:List V)(h:Heap):R:=
 match x,xs with
 |1,[.im (.str s),.im (.int .u8 c)]=>ab (.im (.int .i64 (A s c)),h)
 |2,[.im (.str s),.im (.int .u8 c)]=>ab (.im (.int .i64 (aC (agu s c.toNat))),h)
 |3,[.ptr b 0 [],.im (.int .u8 c)]=>(Fk h b).bind λs=>bif room (aA s.2.2+1) 1 then ab (.im .dn,aD h b (.jU s.1 s.2.1 (s.2.2++[c.toNat])))else ae
 |4,[.ptr b 0 [],.im (.str t)]=>(Fk h b).bind λs=>bif room (aA s.2.2+aA t) 1 then ab (.im (.aG [.int .i64 (aC (aA t)),.dn]),aD h b (.jU s.1 s.2.1 (s.2.2++t)))else ae
 |5,[.ptr b 0 []]=>(Fk h b).map λs=>(.im (.str s.2.2),h)
 |6,[.ptr b 0 [],.im (.int .i64 n)]=>(Fk h b).bind λs=>bif aj 0 n&&room (3*aA s.2.2+n.toNat) 1 then ab (.im (.aG []),aD h b (.jU s.1 s.2.1 s.2.2))else ae
 |x,[.im .dn,.ifc t (.ptr _ 0 [])]=>bif rX x t then ab (.im (.bool af),h)else ae
 |x,[.im (.ifc u (.agg 2 l)),.ifc t (.ptr b 0 [])]=>bif rX x t&&ak u (x/1000000)then match aq h b with
  |some (.cell v)=>bif ak v.wd 2 then ab (.im (.bool ag),aD h b (.cell (.im (.agg 2 l))))else ae
  |_=>ae else ae
 |_,_=>ae
where
 rX x t:=ak (x%1000000) (t+1000)&&cA 0 (x/1000000)
 A s c:=dB (-1) aC (GU s c.toNat)
def gG(h:Heap)(l:List V):Option (List D):=
 a8 (ab []) (λv _ ih=>(V.data h v).bind λd=>ih.map (d:: ·)) l
def qJ(o:Oper):=
 match o.op with
 |.call c=>match c.callee with|.builtin .recover=>ag|_=>af
 |_=>af
def Of(o:Oper):=
 match o.op with
 |.call _|.defer _=>ag
 |_=>af
def DU(e:Operand->V)(h:Heap)(f:Fn)(a c:Array Operand):R:=
 match f with
 |.func g=>ab (.fn g (a8 [] (λo _ ih=>e o::ih) a.toList) (a8 [] (λo _ ih=>e o::ih) c.toList),h)
 |_=>ae
def bY(keep:Bool)(aw:Nat)(t:Tm)(h:Heap)(op:Op):R:=
 match op with
 |.move x=>ab (ev t x,h)
 |.assign x=>ab (ev t x,h)
 |.pick c a b=>kX h (ev t c) (ev t a) (ev t b)
 |.alloc ty=>wg E aw h ty
 |.box ty x=>mI E aw h ty (ev t x)
 |.build ty ps=>wh E h ty (mv (ev t) ps)
 |.buildSlice ty n ps=>kW E keep aw h ty n (mv (ev t) ps)
 |.load ty a=>iV E h ty (ev t a)
 |.store ty a x=>oz E h ty (ev t a) (ev t x)
 |.nilCheck x=>zK h (ev t x)
 |.binOp op ty x y _=>jq h (jA E op ty (isConst x||isConst y) (ev t x) (ev t y))
 |.unOp op _ x=>jq h (wy op (ev t x))
 |.convert s d x=>oV E h aw s d (ev t x)
 |.makeInterface ty x=>zG E h ty (ev t x)
 |.makeFunc f a c=>DU (ev t) h f a c
 |.makeSlice ty l c=>tk E aw h ty (ev t l) (ev t c)
 |.slice ty x lo hi mx=>jq h (tq E ty h (ev t x) (lo.map (ev t)) (hi.map (ev t)) (mx.map (ev t)))
 |.fieldAddr ty x k=>zF E h ty (ev t x) k
 |.field ty x k=>zE E h ty (ev t x) k
 |.indexAddr ty x i=>pI E h ty (ev t x) (ev t i)
 |.index ty x i=>zH E h ty (ev t x) (ev t i)
 |.extract x i=>jq h ((ev t x).part i)
 |.makeMap ty r=>zJ E aw h ty (r.map (ev t))
 |.lookup ty m k ok=>zI E h ty (ev t m) (ev t k) ok
 |.mapUpdate ty m k v=>rl E h ty (ev t m) (ev t k) (ev t v)
 |.insert ty m k v=>rl E h ty (ev t m) (ev t k) (ev t v)
 |.typeAssert x _ ty ok=>JI E h (ev t x) ty ok
 |.range ty x=>Q8 E aw h ty (ev t x)
 |.next x str=>Q7 h (ev t x) str
 |.entry x=>Q6 h (ev t x)
 |.call c=>match c.callee with
  |.builtin b=>fc E aw b c.argTypes (dm t c.args) h
  |_=>ae
 |_=>ae
abbrev RC:=Option (V×Heap×List Rec)
def lift(lp:List Rec)(r:R):RC:=dB ae (λx=>ab (x.1,x.2,lp)) r
def tg f args h lp:=
 (E.fn f).bind λfn=>fn.body.bind λc=>
  match bif bp (aA args) fn.ntmps then ih f 0 0 c ⟨gP fn.ntmps args,h,lp,[]⟩else ae with
  |some (.exit _,_)=>ae
  |some (_,st)=>ab (fn,st)
  |none=>ae
def rh(keep:Bool)(ops:Array Oper)(l:List Oper):St->Option St:=
 a8 (λst=>ab st) (λo _ k st=>match guardOf ops st.t o.guard with
  |none=>ae
  |some af=>k ⟨putDst st.t o.dst (.im (.aG [])),st.h,st.lp,st.df⟩
  |some ag=>bif qJ o then k ⟨putDst st.t o.dst (.im .dn),st.h,st.lp,st.df⟩
   else bif Of o then ae else match bY E keep (aA st.h) st.t st.h o.op with
    |none=>ae
    |some (v,h)=>k ⟨putDst st.t o.dst v,h,st.lp,st.df⟩) l
def gY(f fb:Nat)(n:Nat):Code->St->Option (Ex×St):=
 ko (λ_ _=>ae) (λ_ I c st=>match c with
  |.seq a b=>match I a st with
   |some (.nm,A)=>I b A
   |r=>r
  |.cond c a b=>match ev st.t c with
   |.im (.bool t)=>bif t then I a st else I b st
   |_=>ae
  |.region id ops af=>bif ops.toList.any qJ then match rh E (E.keep f) ops ops.toList st with
   |some A=>ab (.nm,A)
   |none=>ae else ih f fb 0 (.region id ops af) st
  |c=>ih f fb 0 c st) n
def th f args h lp:=
 (E.fn f).bind λfn=>fn.body.bind λc=>
  match bif bp (aA args) fn.ntmps then gY E ih f 0 64 c ⟨gP fn.ntmps args,h,lp,[]⟩else ae with
  |some (.exit _,_)=>ae
  |some (_,st)=>ab (fn,st)
  |none=>ae
def kE(d:Nat×List V):Bool:=match d.2 with|[.undef]=>ag|_=>af
def js(A:Nat)(df:List (Nat×List V)):Heap->List Rec->Option (Heap×List Rec):=
 a8 (λh lp=>ab (h,lp)) (λd _ k h lp=>bif kE d then bif bp A d.1 then k h lp else ae else match th E ih d.1 d.2 h lp with
  |some (fn,st)=>match st.df with
   |[]=>match kV E st.h fn st.t with
    |some _=>k st.h st.lp
    |none=>ae
   |_=>ae
  |none=>ae) df
def gp(f:Nat)(args:List V)(h:Heap)(lp:List Rec):RC:=
 match tg E ih f args h lp with
 |some (fn,st)=>match st.df with
  |[]=>(kV E st.h fn st.t).map λv=>(v,st.h,st.lp)
  |df=>(js E ih (aA h) df st.h st.lp).bind λr=>(kV E r.1 fn st.t).map λv=>(v,r.1,r.2)
 |none=>ae
def oX f(args:List D):=(gp E ih f (jj args) [] []).bind λr=>r.1.data r.2.1
def fY(f:Nat)(args:List D):Option D:=match E.sm f with|some F=>(match F args with|some r=>ab r|none=>oX E ih f args)|none=>oX E ih f args
def oT(f:Nat)(args:List V)(h:Heap)(lp:List Rec):=
 bif E.inl f then gp E ih f args h lp else
 match gG h args with
 |some ds=>(fY E ih f ds).bind λr=>
   match V.j0 args with
   |[]=>ab (.im r,h,lp)
   |A=>bif r.flat then ab (.im r,h,lp)else bif fi h A then ab (.im r,close h A,lp)else ae
 |none=>gp E ih f args h lp
def ux(aw:Nat)(g:Nat)(args:List V)(h:Heap)(lp:List Rec):RC:=
 match E.clone g with
 |some sz=>lift lp (qo E aw sz args h)
 |none=>match E.ext g with
  |0=>oT E ih g args h lp
  |x=>lift lp (gI x args h)
def target t(c:Call):=
 match c.callee with
 |.builtin _=>ae
 |.value f=>match ev t f with
  |.fn g a cap=>ab (g,a++(dm t c.args++cap))
  |.im (.fn g)=>ab (g,dm t c.args)
  |_=>ae
 |.invoke r name=>match ev t r with
  |.ifc u v=>(E.qM u name).map λg=>(g,v::dm t c.args)
  |.im (.ifc u d)=>(E.qM u name).map λg=>(g,.im d::dm t c.args)
  |_=>ae
def pU t(c:Call):=
 match c.callee with
 |.value f=>match ev t f with
  |.gT b=>ab (b,dm t c.args)
  |_=>ae
 |_=>ae
def y4(ps:List Nat):List V->Tm->Option Tm:=
 a8 (λxs t=>match xs with|[]=>ab t|_=>ae) (λp _ ih xs t=>match xs with|[]=>ae|x::xs=>ih xs (t.set p x)) ps
def wc(b:Nat)(xs:List V)(h:Heap):R:=
 match aq h b with
 |some (.lp f t ps bO body)=>(y4 ps xs t).bind λt0=>match ih f 1 0 bO ⟨t0,bB h b ae,[],[]⟩with
  |some (.nm,A)=>match A.df with
   |[]=>match ih f 1 0 body ⟨A.t,A.h,[],[]⟩with
    |some (.nm,I)=>match I.df with
     |[]=>ab (.im (.bool ag),aD I.h b (.lp f t ps bO body))
     |_=>ae
    |_=>ae
   |_=>ae
  |_=>ae
 |_=>ae
def jW(aw:Nat)(t:Tm)(c:Call)(h:Heap)(lp:List Rec):RC:=
 match pU t c with
 |some (b,xs)=>lift lp (wc ih b xs h)
 |none=>(target E t c).bind λg=>ux E ih aw g.1 g.2 h lp
def ee(keep:Bool)(ops:Array Oper)(aw:Nat)(o:Oper)(st:St):Option St:=
 match guardOf ops st.t o.guard with
 |none=>ae
 |some af=>ab ⟨putDst st.t o.dst (.im (.aG [])),st.h,st.lp,st.df⟩
 |some ag=>match o.op with
  |.defer c=>match c.callee with
   |.value f=>match ev st.t f with
    |.fn g a cap=>bif kE (g,a++(dm st.t c.args++cap))then ae else ab ⟨putDst st.t o.dst .undef,st.h,st.lp,(g,a++(dm st.t c.args++cap))::st.df⟩
    |_=>ae
   |_=>ae
  |op=>match match op with
    |.call c=>match c.callee with
     |.builtin _=>lift st.lp (bY E keep aw st.t st.h op)
     |_=>jW E ih aw st.t c st.h st.lp
    |op=>lift st.lp (bY E keep aw st.t st.h op)with
   |none=>ae
   |some (v,h,lp)=>ab ⟨putDst st.t o.dst v,h,lp,st.df⟩
def dH(keep:Bool)(ops:Array Oper)(l:List Oper):St->Option St:=
 a8 (λst=>ab st) (λo _ k st=>match ee E ih keep ops (aA st.h) o st with
  |none=>ae
  |some A=>k A) l
def bJ:Op->Bool
 |.alloc _|.box _ _|.buildSlice ..|.makeSlice ..|.makeMap .. =>ag
 |.convert .. =>ag
 |.call {callee:=.builtin .append, ..}=>ag
 |.call {callee:=.value (.func g), ..}=>(E.clone g).isSome
 |_=>af
def cU(k:Nat)(m:List Nat)(h:Heap):Heap:=a8 (λh=>h) (λi _ ih h=>ih (bB h (k+i) ae)) m h
def V.snap(h:Heap)(v:V):Option D:=
 match v with
 |.ptr b 0 []=>match aq h b with
  |some (.cell u)=>(u.data h).map .ref
  |_=>ae
 |v=>v.data h
def mX(h:Heap)(l:List V):Option (List D):=
 a8 (ab []) (λv _ ih=>(V.snap h v).bind λd=>ih.map (d:: ·)) l
def aeV(h:Heap):Bool:=a8 ag (λb _ ih=>match b with|none=>ih|some _=>af) h
def yI:List Nat->List Nat->Bool
 |[],[]=>ag
 |a::l,b::r=>bif ak a b then yI l r else af
 |_,_=>af
def Ie:List (Nat×Nat)->List (Nat×Nat)->Bool
 |[],[]=>ag
 |a::l,b::r=>bif ak a.1 b.1&&ak a.2 b.2 then Ie l r else af
 |_,_=>af
mutual
def D.same:D->D->Bool
 |.bool a,.bool b=>decide (a=b)
 |.int k n,.int A m=>decide (k=A)&&decide (n=m)
 |.str s,.str t=>yI s t
 |.nil,.nil=>ag
 |.eR,.eR=>ag
 |.dn,.dn=>ag
 |.g8,.g8=>ag
 |.ref a,.ref b=>D.same a b
 |.ar a,.ar b=>D.fU a b
 |.agg w a,.agg v b=>ak w v&&D.fU a b
 |.aG a,.aG b=>D.fU a b
 |.fn f,.fn g=>ak f g
 |.ifc t a,.ifc u b=>ak t u&&D.same a b
 |_,_=>af
def D.fU:List D->List D->Bool
 |[],[]=>ag
 |a::l,b::r=>bif D.same a b then D.fU l r else af
 |_,_=>af
end
mutual
def V.same:V->V->Bool
 |.im a,.im b=>D.same a b
 |.agg w a,.agg v b=>ak w v&&V.fU a b
 |.own b g o n l,.own b' A I J U=>ak b b'&&(ak g A&&(ak o I&&(ak n J&&decide (l=U))))
 |.full a,.full b=>D.fU a b
 |.ptr b g p,.ptr b' A Z=>ak b b'&&(ak g A&&Ie p Z)
 |.fn f a c,.fn d e i=>ak f d&&(V.fU a e&&V.fU c i)
 |.ifc t v,.ifc j k=>ak t j&&V.same v k
 |.mp b,.mp b'=>ak b b'
 |_,_=>af
def V.fU:List V->List V->Bool
 |[],[]=>ag
 |a::l,b::r=>bif V.same a b then V.fU l r else af
 |_,_=>af
end
def bK.same:bK->bK->Bool
 |.cell a,.cell b=>V.same a b
 |.arr g s ro l,.arr A I J U=>ak g A&&(ak s I&&(ak ro J&&D.fU l U))
 |.bN g s l,.bN A I U=>ak g A&&(ak s I&&V.fU l U)
 |_,_=>af
def nD:Heap->Heap->Bool
 |[],[]=>ag
 |none::l,ae::r=>nD l r
 |some a::l,ab b::r=>bif bK.same a b then nD l r else af
 |_,_=>af
def only(bs:List Nat)(h:Heap):Heap:=a8 (λ_=>[]) (λb _ ih i=>(bif aY bs i then b else ae)::ih (i+1)) h 0
def Cq(l:List V):Bool:=match fg l with|[]=>ag|_=>af
def eE(keep:Bool)(aw:Nat)(t:Tm)(view:Heap)(op:Op):Option (V×Option bK):=
 match op with
 |.store ..|.mapUpdate ..|.insert ..|.range ..|.next ..|.entry _=>ae
 |.call c=>match c.callee with
  |.builtin .append=>match fc E aw .append c.argTypes (dm t c.args) view with
   |some (.own b g o n l,h')=>bif ak b aw then ab (.own b g o n l,aq h' aw)else ae
   |_=>ae
  |.builtin .len=>(fc E aw .len c.argTypes (dm t c.args) view).map λr=>(r.1,ae)
  |.builtin .min=>(fc E aw .min c.argTypes (dm t c.args) view).map λr=>(r.1,ae)
  |.builtin .max=>(fc E aw .max c.argTypes (dm t c.args) view).map λr=>(r.1,ae)
  |.builtin _=>ae
  |_=>(target E t c).bind λg=>match E.clone g.1 with
   |some sz=>(qo E aw sz g.2 view).map λr=>(r.1,aq r.2 aw)
   |none=>match E.ext g.1 with
    |1=>(gI 1 g.2 view).map λr=>(r.1,ae)
    |2=>(gI 2 g.2 view).map λr=>(r.1,ae)
    |0=>bif E.inl g.1 then ae else(gG view g.2).bind λds=>(fY E ih g.1 ds).bind λr=>
     match V.j0 g.2 with
     |[]=>ab (.im r,ae)
     |_=>bif r.flat then ab (.im r,ae)else ae
    |_=>ae
 |.buildSlice ty n ps=>bif Cq ((mv (ev t) ps).map Prod.snd)then(kW E keep aw view ty n (mv (ev t) ps)).map λr=>(r.1,aq r.2 aw)else ae
 |op=>(bY E keep aw t view op).map λr=>(r.1,bif bJ E op then aq r.2 aw else ae)
def kf(keep:Bool)(aw:Nat)(t:Tm)(view:Heap)(op:Op):Option V:=
 match op with
 |.call c=>match c.callee with
  |.builtin .len=>(fc E aw .len c.argTypes (dm t c.args) view).map λr=>r.1
  |.builtin _=>ae
  |_=>(target E t c).bind λg=>bif E.inl g.1 then ae else match E.clone g.1,E.ext g.1 with
   |none,0=>(gG view g.2).bind λds=>(fY E ih g.1 ds).bind λr=>
     match V.j0 g.2 with
     |[]=>ab (.im r)
     |_=>bif r.flat then ab (.im r)else ae
   |_,_=>ae
 |op=>(bY E keep aw t view op).map λr=>r.1
def dh(h:Heap)(aw:Nat)(k:Option bK):=match k with|none=>h|some b=>aD h aw b
def jH(t:Tm)(b:Nat)(m:List Nat):Bool:=a8 ag (λs _ ih=>match t.get s with|.ptr c _ _=>bif ak b c then af else ih|_=>af) m
def jY(b:Option bK):=match b with|some (.cell _)=>ag|_=>af
def cZ(keep:Bool)(ops:Array Oper)(k n i cls:Nat)(m:List Nat)(o:Oper)(st:St):Option St:=
 match guardOf ops st.t o.guard with
 |none=>ae
 |some af=>ab ⟨putDst st.t o.dst (.im (.aG [])),st.h,st.lp,st.df⟩
 |some ag=>match cls with
  |0=>(bY E keep (k+i) st.t [] o.op).map λr=>⟨putDst st.t o.dst r.1,st.h,st.lp,st.df⟩
  |1=>bif bJ E o.op then match aq st.h (k+i)with
    |none=>(eE E ih keep (k+i) st.t (cU k m st.h) o.op).map λr=>⟨putDst st.t o.dst r.1,dh st.h (k+i) r.2,st.lp,st.df⟩
    |some _=>ae
   else(eE E ih keep (aA st.h) st.t (cU k m st.h) o.op).bind λr=>match r.2 with
    |none=>ab ⟨putDst st.t o.dst r.1,st.h,st.lp,st.df⟩
    |some _=>ae
  |2=>(kf E ih keep (k+i) st.t (cU k m (st.h.take (k+n))) o.op).map λv=>⟨putDst st.t o.dst v,st.h,st.lp,st.df⟩
  |3=>ee E ih keep ops (aA st.h) o st
  |4=>match o.op with
   |.call c=>(target E st.t c).bind λg=>(gp E ih g.1 g.2 (only (mH st.h 0 64 (iz 0 (fg g.2) [])) st.h) st.lp).bind λr=>
     bif nD (only (mH st.h 0 64 (iz 0 (fg g.2) [])) st.h) (r.2.1.take (aA st.h))then ab ⟨putDst st.t o.dst r.1,st.h++r.2.1.drop (aA st.h),r.2.2,st.df⟩else ae
   |_=>ae
  |6=>match o.op with
   |.store ty a x=>match ev st.t a with
    |.ptr b g p=>bif jH st.t b m&&jY (aq st.h b)then(oz E st.h ty (.ptr b g p) (ev st.t x)).map λr=>⟨putDst st.t o.dst r.1,r.2,st.lp,st.df⟩else ae
    |_=>ae
   |_=>ae
  |9=>match o.op with
   |.store ty a x=>match ev st.t a with
    |.ptr b g p=>bif bp k b&&jY (aq st.h b)then(oz E st.h ty (.ptr b g p) (ev st.t x)).map λr=>⟨putDst st.t o.dst r.1,r.2,st.lp,st.df⟩else ae
    |_=>ae
   |_=>ae
  |7=>match o.op with
   |.load ty a=>match ev st.t a with
    |.ptr b g p=>(iV E (st.h.take k) ty (.ptr b g p)).map λr=>⟨putDst st.t o.dst r.1,st.h,st.lp,st.df⟩
    |_=>ae
   |_=>ae
  |8=>match o.op with
   |.indexAddr ty x i=>(pI E (st.h.take k) ty (ev st.t x) (ev st.t i)).map λr=>⟨putDst st.t o.dst r.1,st.h,st.lp,st.df⟩
   |_=>ae
  |_=>match o.op with
   |.call c=>(target E st.t c).bind λg=>(mX (cU k m st.h) g.2).bind λds=>(fY E ih g.1 ds).bind λr=>
     bif r.flat then ab ⟨putDst st.t o.dst (.im r),st.h,st.lp,st.df⟩else ae
   |_=>ae
def news:List Oper->Nat
 |[]=>0
 |o::l=>(bif bJ E o.op then 1 else 0)+news l
def gO(keep:Bool)(ops:Array Oper)(k n:Nat)(l:List Oper):List (Nat×List Nat)->Nat->St->Option St:=
 a8 (λ_ _ st=>ab st) (λo _ I ds i st=>match ds with
  |[]=>ae
  |(c,m)::ds=>match cZ E ih keep ops k n i c m o st with
   |none=>ae
   |some A=>I ds (bif bJ E o.op then i+1 else i) A) l
def rj f id(ops:Array Oper)(st:St):=
 (E.dr f id).bind λds=>news E ops.toList |>λn=>
  gO E ih (E.keep f) ops (aA st.h) n ops.toList ds 0 ⟨st.t,st.h++kU n ae,st.lp,st.df⟩
def su:Op->Bool
 |.move _|.assign _|.pick ..|.build ..|.fieldAddr ..|.field ..|.unOp ..|.makeInterface ..|.makeFunc ..|.extract ..|.nilCheck _|.binOp .. =>ag
 |_=>af
def isSimple:Op->Bool
 |.load ..|.indexAddr ..|.index ..|.call _=>ag
 |_=>af
def tmpsOf(l:List Operand):List Nat:=a8 [] (λo _ ih=>match o with|.tmp t=>t::ih|_=>ih) l
def reads(ops:Array Oper)(o:Oper):=
 tmpsOf o.op.operands.toList++match o.guard with
  |some (j,_)=>match bC ops.toList j with|some g=>g.dst.toList|none=>[]
  |none=>[]
def Lq(ops:Array Oper)(a b:Oper):=
 (match a.dst with|some d=>not (aY (reads ops b) d)&&not (b.dst==ab d)|none=>ag)&&
 match b.dst with|some d=>not (aY (reads ops a) d)|none=>ag
def xU(o:Oper)(m:List Nat):=match o.dst with|some d=>not (aY m d)|none=>ag
def yr(m:List Nat)(o:Oper):=match o.op with|.load _ (.tmp s)=>aY m s|_=>af
def y8(c:Nat):=ak c 1||(ak c 2||ak c 5)
def Lp(a b:Oper)(ca cb:Nat)(ma mb:List Nat):=
 ak ca 9&&(ak cb 7||ak cb 8)||(ak cb 9&&(ak ca 7||ak ca 8)||(
 ak ca 8&&(y8 cb||(ak cb 7||(ak cb 8||ak cb 6)))||(ak cb 8&&(y8 ca||(ak ca 7||ak ca 6))||(
 ak ca 7&&(y8 cb||ak cb 7)||(y8 ca&&ak cb 7||(ak ca 6&&(ak cb 7&&yr ma b)||ak ca 7&&(ak cb 6&&yr mb a)))))))
def um(ops:Array Oper)(a b:Oper)(ca cb:Nat)(ma mb:List Nat)(na nb:Nat):=
 Lq ops a b&&((not (ak ca 6)||xU b ma)&&(not (ak cb 6)||xU a mb))&&
 (ak ca 0||(ak cb 0||(Lp a b ca cb ma mb||
  (ak ca 4&&ak cb 2||(ak ca 2&&ak cb 4||
   (ak ca 1||(ak ca 2||ak ca 5))&&((ak cb 1||(ak cb 2||ak cb 5))&&
    ((not (bJ E a.op&&ak ca 1)||aY mb na)&&(not (bJ E b.op&&ak cb 1)||aY ma nb))))))))
def rY(l:List Oper):List Nat->List Nat:=
 a8 (λA=>A) (λo _ ih A=>ih (A++[o.after.toList.foldl (λs e=>bif tN .any e then tY s (tY (2^e.on) ((bC A e.on).getD 0))else s) 0])) l
def yT(o:Oper)(i:Nat)(c:Nat):=
 (o.after.toList.all λe=>not (tN .any e)||cA e.on i)&&
 bif ak c 0 then su o.op else bif ak c 2 then isSimple o.op else ag
def yS(ops:Array Oper)(o:Oper)(bf:Nat)(c:Nat)(m:List Nat)(I:Nat)(l:List Oper)(ds:List (Nat×List Nat)):Nat->Nat->Bool:=
 a8 (λ_ _ _=>ag) (λp _ ih ds j A=>match ds with
  |[]=>ag
  |(J,U)::ds=>(Nat.testBit bf j||um E ops p o J c U m A I)&&ih ds (j+1) (bif bJ E p.op then A+1 else A)) l ds
def HY(ops:Array Oper)(A:List Nat)(I:List (Nat×List Nat))(l:List Oper)(ds:List (Nat×List Nat)):Nat->Nat->Bool:=
 a8 (λ_ _ _=>ag) (λo _ ih ds i J=>match ds with
  |[]=>af
  |(c,m)::ds=>yT o i c&&(yS E ops o ((bC A i).getD 0) c m J (ops.toList.take i) (I.take i) 0 0&&ih ds (i+1) (bif bJ E o.op then J+1 else J))) l ds
def Mm(ops:Array Oper)(ds:List (Nat×List Nat)):=HY E ops (rY ops.toList []) ds ops.toList ds 0 0
def my(a:Bool)(h:Heap)(v:V):=
 match v with
 |.ptr b 0 []=>match aq h b with
  |some (.cell u)=>match u.data h with
   |some d=>bif fi h u.owns then aD (close h u.owns) b (.cell (.im d))else h
   |none=>h
  |_=>h
 |.own b _ _ _ _=>match aq h b with
  |some (.bN g s l)=>match V.cP (gM h) l with
   |some ds=>bif fi h (V.de l)then aD (close h (V.de l)) b (bif a then .arr g s 0 ds else .bN g s (jj ds))else h
   |none=>h
  |_=>h
 |_=>h
def wx(h:Heap)(v:V):=
 match v with
 |.ptr b g p=>match eJ h b g p with
  |some (.own c _ _ n _)=>match aq h c with
   |some (.arr A s ro l)=>bif bp ro n&&bp n (aA l)then aD h c (.arr A s ro (l.take n))else h
   |_=>h
  |_=>h
 |_=>h
def fL(q:Bool)(f id:Nat)(st:St):St:=
 match E.Bx f id with
 |none=>st
 |some (a,k)=>match q,a with
  |false,0=>⟨st.t,my af st.h (st.t.get k),st.lp,st.df⟩
  |true,1=>⟨st.t,my ag st.h (st.t.get k),st.lp,st.df⟩
  |true,2=>⟨st.t,wx st.h (st.t.get k),st.lp,st.df⟩
  |_,_=>st
def nc(f fb cur:Nat)(c:Code)(st:St):Option (Ex×St):=
 match c with
 |.skip=>ab (.nm,st)
 |.label _=>ab (.nm,st)
 |.region id ops I=>match bif I then rj E ih f id ops (fL E af f id st)else dH E ih (E.keep f) ops ops.toList (fL E af f id st)with
  |some A=>ab (.nm,fL E ag f id A)
  |none=>ae
 |.seq a b=>match ih f fb cur a st with
  |some (.nm,A)=>ih f fb cur b A
  |r=>r
 |.cond c a b=>match ev st.t c with
  |.im (.bool t)=>bif t then ih f fb cur a st else ih f fb cur b st
  |_=>ae
 |.block id b=>match ih f fb id b st with
  |some (.exit j,A)=>bif ak j id then ab (.nm,A)else ab (.exit j,A)
  |r=>r
 |.loop b=>match ih f fb cur b st with
  |some (.nm,A)=>ih f fb cur (.loop b) A
  |r=>r
 |.scope b=>ih f fb cur b st
 |.rangeFunc g ps bO body=>match(match ev st.t g with|.fn g a cap=>ab (g,a,cap)|.im (.fn g)=>ab (g,[],[])|_=>ae:Option (Nat×List V×List V))with
  |some (g,a,cap)=>match gp E ih g (a++.gT (aA st.h+1)::cap) (st.h++[ae,ab (.lp f st.t ps.toList bO body)]) st.lp with
   |some (_,h',lp)=>match aq h' (aA st.h+1)with
    |some (.lp ..)=>ab (.nm,⟨st.t,bB h' (aA st.h+1) ae,lp,bif ak fb 0 then(aA st.h,[V.undef])::st.df else st.df⟩)
    |_=>ae
   |none=>ae
  |none=>ae
 |.exit id=>ab (.exit id,st)
 |.ret=>ab (.ret,st)
 |_=>ae
end
def exec(E:Env)(n:Nat):Nat->Nat->Nat->Code->St->Option (Ex×St):=
 ko (λ_ _ _ _ _=>ae) (λ_ ih=>nc E ih) n
def T4 E n f(args:List D):=oX E (exec E n) f args
end
open Go.RowKit (Below)
abbrev IV:=Addr->Option Value
def eO:Nat:=9223372036854775807
def cz(C:IV)(a:Addr)(vs:List Value):Prop:=∀j v,vs[j]? =ab v->C (a.add j)=ab v
def ig(k:IntKind)(n:Int):Prop:=k.min<=n/\n<=k.max
def dN(b:ByteArray):List Nat:=b.data.toList.map ua
mutual
def aN(C:IV):D->Bool->List Value->Prop
 |.bool b,_,vs=>vs=[.bool b]
 |.int k n,_,vs=>vs=[.int k n]/\ig k n
 |.str s,_,vs=>∃b:ByteArray,vs=[.string b]/\dN b=s/\b.size<=eO
 |.nil,_,vs=>vs=[.pointer ae]
 |.ref d,_,vs=>∃a ws,vs=[.pointer (ab a)]/\a.spot=ae/\aN C d af ws/\cz C a ws
 |.ar l,_,vs=>∃a n cap,vs=[.slice a n cap]/\n=l.length/\n<=cap/\n<=eO/\
   (n=0∨∃I A s,a=ab I/\I.spot=ae/\bw C l af A/\(∀ws∈A,ws.length=s)/\cz C I A.flatten)
 |.agg w l,ag,vs=>∃cs A,vs=[.agg cs]/\cs.toList=A.flatten/\bw C l af A/\cs.size=w
 |.agg w l,af,vs=>∃A,vs=A.flatten/\bw C l af A/\vs.length=w
 |.aG l,ag,vs=>∃J A,vs=[.tuple J]/\bw C l ag A/\J.toList=A.flatten
 |.aG _,af,_=>False
 |.fn f,_,vs=>vs=[.func (.func f) #[] #[]]
 |.eR,_,vs=>vs=[.nilFunc]
 |.ifc t d,_,vs=>∃x,vs=[.iface t x]/\aN C d ag [x]
 |.dn,_,vs=>vs=[.nilIface]
 |.g8,_,vs=>vs=[.map ae]
def bw(C:IV):List D->Bool->List (List Value)->Prop
 |[],_,A=>A=[]
 |d::l,m,A=>∃ws r,A=ws::r/\aN C d m ws/\bw C l m r
end
def IV.le(C C':IV):Prop:=∀a v,C a=ab v->C' a=ab v
theorem IV.le.refl(C:IV):C.le C:=λ_ _ h=>h
theorem IV.le.trans{A B C:IV}(h:A.le B)(k:B.le C):A.le C:=λa v e=>k a v (h a v e)
theorem cz.mono{C C':IV}(h:C.le C'){a:Addr}{vs:List Value}(k:cz C a vs):cz C' a vs:=λj v e=>h _ _ (k j v e)
mutual
theorem aN.mono{C C':IV}(h:C.le C'):∀(d:D) (m:Bool) (vs:List Value),aN C d m vs->aN C' d m vs
 |.bool _,_,_,k|.nil,_,_,k|.fn _,_,_,k|.eR,_,_,k|.dn,_,_,k|.g8,_,_,k|.int _ _,_,_,k|.str _,_,_,k=>by simpa[aN]using k
 |.ref d,_,_,k=>by
  simp only[aN]at k|-
  obtain⟨a,ws,e,s,r,c⟩:=k
  exact⟨a,ws,e,s,aN.mono h d af ws r,c.mono h⟩
 |.ar l,_,_,k=>by
  simp only[aN]at k|-
  obtain⟨a,n,cap,e,J,I,hm,r⟩:=k
  refine⟨a,n,cap,e,J,I,hm,r.imp id ?_⟩
  rintro⟨U,A,s,Z,b,f,hw,I⟩
  exact⟨U,A,s,Z,b,bw.mono h l af A f,hw,I.mono h⟩
 |.agg w l,ag,_,k=>by
  simp only[aN]at k|-
  obtain⟨cs,A,e,h1,h2,h3⟩:=k
  exact⟨cs,A,e,h1,bw.mono h l af A h2,h3⟩
 |.agg w l,af,_,k=>by
  simp only[aN]at k|-
  obtain⟨A,e,h2,h3⟩:=k
  exact⟨A,e,bw.mono h l af A h2,h3⟩
 |.aG l,ag,_,k=>by
  simp only[aN]at k|-
  obtain⟨g,A,e,h2,h3⟩:=k
  exact⟨g,A,e,bw.mono h l ag A h2,h3⟩
 |.aG l,af,_,k=>by simp[aN]at k
 |.ifc t d,_,_,k=>by
  simp only[aN]at k|-
  obtain⟨x,e,r⟩:=k
  exact⟨x,e,aN.mono h d ag [x] r⟩
theorem bw.mono{C C':IV}(h:C.le C'):∀(l:List D) (m:Bool) (aV:List (List Value)),bw C l m aV->bw C' l m aV
 |[],_,_,k=>by simpa[bw]using k
 |d::l,m,_,k=>by
  simp only[bw]at k|-
  obtain⟨ws,r,e,h1,h2⟩:=k
  exact⟨ws,r,e,aN.mono h d m ws h1,bw.mono h l m r h2⟩
end
structure BI where
 g:Nat
 base:Option Addr
 s:Nat
 cap:Nat
 fix:Bool
structure Cx where
 C:IV
 M:Nat->Option BI
 L:Nat->Option Nat
def nW(X:Cx)(b g off len:Nat)(aR:Bool)(v:Value):Prop:=
 (∃a cap,v=.slice a len cap/\len<=cap/\len<=eO/\(cap=0∨∃A,a=ab A))/\∃bi,X.M b=ab bi/\g<=bi.g/\(g=bi.g->∃a cap,v=.slice a len cap/\len<=cap/\len<=eO/\off+cap<=bi.cap/\
  (aR=ag->cap=len)/\(cap=0∨∃A,bi.base=ab A/\A.spot=ae/\a=ab (A.add (off*bi.s))))
def iR(p:List (Nat×Nat)):Nat:=(p.map (·.2)).sum
def rM(X:Cx)(b g:Nat)(p:List (Nat×Nat))(v:Value):Prop:=
 (∃a,v=.pointer (ab a))/\∃bi,X.M b=ab bi/\g<=bi.g/\(g=bi.g->∃A,bi.base=ab A/\A.spot=ae/\v=.pointer (ab (A.add (iR p))))
theorem nW.one{X:Cx}{b g off len:Nat}{aR:Bool}{v:Value}(h:nW X b g off len aR v):v.oneCell'=ag:=by obtain⟨⟨a,n,e,_⟩,_⟩:=h;subst e;rfl
theorem rM.one{X:Cx}{b g:Nat}{p:List (Nat×Nat)}{v:Value}(h:rM X b g p v):v.oneCell'=ag:=by obtain⟨⟨a,e⟩,_⟩:=h;subst e;rfl
def xi(C:IV)(l:List D)(v:Value):Prop:=
 ∃a n,v=.slice a n n/\n=l.length/\n<=eO/\
  (n=0∨∃I A s,a=ab I/\I.spot=ae/\bw C l af A/\(∀ws∈A,ws.length=s)/\cz C I A.flatten)
mutual
def an(X:Cx):V->Bool->List Value->Prop
 |.undef,ag,vs=>vs.length=1
 |.undef,af,_=>False
 |.im d,m,vs=>aN X.C d m vs
 |.agg w l,ag,vs=>∃cs A,vs=[.agg cs]/\cs.toList=A.flatten/\bF X l af A/\cs.size=w
 |.agg w l,af,vs=>∃A,vs=A.flatten/\bF X l af A/\vs.length=w
 |.aG l,ag,vs=>∃I A,vs=[.tuple I]/\bF X l ag A/\I.toList=A.flatten
 |.aG _,af,_=>False
 |.own b g off len aR,_,vs=>∃v,vs=[v]/\nW X b g off len aR v
 |.full l,_,vs=>∃v,vs=[v]/\xi X.C l v
 |.ptr b g p,_,vs=>∃v,vs=[v]/\rM X b g p v
 |.fn f a c,_,vs=>∃fs cs J U,vs=[.func (.func f) fs cs]/\bF X a ag J/\fs.toList=J.flatten/\bF X c ag U/\cs.toList=U.flatten
 |.ifc t v,_,vs=>∃x,vs=[.iface t x]/\an X v ag [x]
 |.mp b,_,vs=>∃r bi,vs=[.map (ab r)]/\X.M b=ab bi/\bi.base=ab ⟨r,0,ae⟩/\bi.fix=ag
 |.gT i,_,vs=>∃l,vs=[.func (.yield l) #[] #[]]/\∃bi,X.M i=ab bi/\bi.base=ab ⟨l,0,ae⟩/\bi.fix=ag
def bF(X:Cx):List V->Bool->List (List Value)->Prop
 |[],_,A=>A=[]
 |v::l,m,A=>∃ws r,A=ws::r/\an X v m ws/\bF X l m r
end
structure Cx.le(fb:Nat)(X Y:Cx):Prop where
 C:X.C.le Y.C
 M:∀b bi,b< fb->X.M b=ab bi->∃bj,Y.M b=ab bj/\bi.g<=bj.g/\(bi.g=bj.g->bi=bj)/\(bi.fix=ag->bi=bj)
 L:∀i l,X.L i=ab l->Y.L i=ab l
theorem Cx.le.refl(fb:Nat)(X:Cx):X.le fb X:=⟨.refl _,λ_ bi _ h=>⟨bi,h,aJ _,λ_=>rfl,λ_=>rfl⟩,λ_ _ h=>h⟩
theorem Cx.le.trans{fb:Nat}{X Y Z:Cx}(h:X.le fb Y)(k:Y.le fb Z):X.le fb Z:=
 ⟨h.C.trans k.C,λb bi A e=>by
  obtain⟨bj,I,J,h1,f1⟩:=h.M b bi A e;obtain⟨bk,U,a,h2,f2⟩:=k.M b bj A I;grind,λi l e=>k.L i l (h.L i l e)⟩
theorem Cx.le.less{fb A:Nat}{X Y:Cx}(h:X.le fb Y)(hf:A<=fb):X.le A Y:=⟨h.C,λb bi I e=>h.M b bi (by omega) e,h.L⟩
def Cx.lt(X:Cx)(n:Nat):Prop:=∀b bi,X.M b=ab bi->b< n
mutual
def V.low(fb:Nat):V->Prop
 |.undef|.im _|.full _=>True
 |.agg _ l|.aG l=>V.kF fb l
 |.own b _ _ _ _|.ptr b _ _|.mp b|.gT b=>b< fb
 |.fn _ a c=>V.kF fb a/\V.kF fb c
 |.ifc _ v=>v.low fb
def V.kF(fb:Nat):List V->Prop
 |[]=>True
 |v::l=>v.low fb/\V.kF fb l
end
theorem nW.mono{fb:Nat}{X Y:Cx}(h:X.le fb Y){b g off len:Nat}{aR:Bool}{v:Value}(A:b< fb)(k:nW X b g off len aR v):nW Y b g off len aR v:=by
 obtain⟨h1,bi,e,I,r⟩:=k;obtain⟨bj,J,U,h2,_⟩:=h.M b bi A e;refine⟨h1,bj,J,bU I U,λZ=>?_⟩
 grind
theorem rM.mono{fb:Nat}{X Y:Cx}(h:X.le fb Y){b g:Nat}{p:List (Nat×Nat)}{v:Value}(A:b< fb)(k:rM X b g p v):rM Y b g p v:=by
 obtain⟨h1,bi,e,I,r⟩:=k;obtain⟨bj,J,U,h2,_⟩:=h.M b bi A e;refine⟨h1,bj,J,bU I U,λZ=>?_⟩
 grind
theorem xi.mono{C C':IV}(h:C.le C'){l:List D}{v:Value}(k:xi C l v):xi C' l v:=by
 obtain⟨a,n,e,I,hm,r⟩:=k;refine⟨a,n,e,I,hm,r.imp id ?_⟩;rintro⟨J,A,s,U,Z,b,hw,c⟩;exact⟨J,A,s,U,Z,b.mono h,hw,c.mono h⟩
mutual
theorem an.mono{fb:Nat}{X Y:Cx}(h:X.le fb Y):∀(v:V) (m:Bool) (vs:List Value),v.low fb->an X v m vs->an Y v m vs
 |.undef,ag,_,_,k=>by simpa[an]using k
 |.undef,af,_,_,k=>by simp[an]at k
 |.im d,m,vs,_,k=>by simp only[an]at k|-;exact aN.mono h.C d m vs k
 |.agg w l,ag,_,A,k=>by
  simp only[an]at k|-
  obtain⟨cs,I,e,h1,h2,h3⟩:=k
  exact⟨cs,I,e,h1,bF.mono h l af I (by simpa[V.low]using A) h2,h3⟩
 |.agg w l,af,_,A,k=>by
  simp only[an]at k|-
  obtain⟨I,e,h2,h3⟩:=k
  exact⟨I,e,bF.mono h l af I (by simpa[V.low]using A) h2,h3⟩
 |.aG l,ag,_,A,k=>by
  simp only[an]at k|-
  obtain⟨j,I,e,h2,h3⟩:=k
  exact⟨j,I,e,bF.mono h l ag I (by simpa[V.low]using A) h2,h3⟩
 |.aG _,af,_,_,k=>by simp[an]at k
 |.own b g off len aR,_,_,A,k=>by
  simp only[an]at k|-
  obtain⟨v,e,r⟩:=k
  exact⟨v,e,r.mono h (by simpa[V.low]using A)⟩
 |.full l,_,_,_,k=>by
  simp only[an]at k|-
  obtain⟨v,e,r⟩:=k
  exact⟨v,e,r.mono h.C⟩
 |.ptr b g p,_,_,A,k=>by
  simp only[an]at k|-
  obtain⟨v,e,r⟩:=k
  exact⟨v,e,r.mono h (by simpa[V.low]using A)⟩
 |.fn f a c,_,_,A,k=>by
  simp only[an]at k|-
  simp only[V.low]at A
  obtain⟨fs,cs,U,Z,e,h1,n,h2,J⟩:=k
  exact⟨fs,cs,U,Z,e,bF.mono h a ag U A.1 h1,n,bF.mono h c ag Z A.2 h2,J⟩
 |.ifc t v,_,_,A,k=>by
  simp only[an]at k|-
  obtain⟨x,e,r⟩:=k
  exact⟨x,e,an.mono h v ag [x] (by simpa[V.low]using A) r⟩
 |.mp b,_,_,A,k=>by
  simp only[an]at k|-
  obtain⟨r,bi,e,h1,h2,h3⟩:=k
  obtain⟨bj,J,o,q,hf⟩:=h.M b bi (by simpa[V.low]using A) h1
  have:=hf h3;subst this
  exact⟨r,bi,e,J,h2,h3⟩
 |.gT i,_,_,A,k=>by
  simp only[an]at k|-
  obtain⟨l,e,bi,h1,h2,h3⟩:=k
  obtain⟨bj,J,o,q,hf⟩:=h.M i bi (by simpa[V.low]using A) h1
  have:=hf h3;subst this
  exact⟨l,e,bi,J,h2,h3⟩
theorem bF.mono{fb:Nat}{X Y:Cx}(h:X.le fb Y):∀(l:List V) (m:Bool) (aV:List (List Value)),V.kF fb l->bF X l m aV->bF Y l m aV
 |[],_,_,_,k=>by simpa[bF]using k
 |v::l,m,_,A,k=>by
  simp only[bF]at k|-
  simp only[V.kF]at A
  obtain⟨ws,r,e,h1,h2⟩:=k
  exact⟨ws,r,e,an.mono h v m ws A.1 h1,bF.mono h l m r A.2 h2⟩
end
mutual
theorem an.low{X:Cx}{n:Nat}(I:X.lt n):∀(v:V) (m:Bool) (vs:List Value),an X v m vs->v.low n
 |.undef,_,_,_|.im _,_,_,_|.full _,_,_,_=>by simp[V.low]
 |.agg w l,ag,_,k=>by
  simp only[an]at k
  obtain⟨cs,A,e,h1,h2,h3⟩:=k
  simpa[V.low]using bF.low I l af A h2
 |.agg w l,af,_,k=>by
  simp only[an]at k
  obtain⟨A,e,h2,h3⟩:=k
  simpa[V.low]using bF.low I l af A h2
 |.aG l,ag,_,k=>by
  simp only[an]at k
  obtain⟨Z,A,e,h2,h3⟩:=k
  simpa[V.low]using bF.low I l ag A h2
 |.aG _,af,_,k=>by simp[an]at k
 |.own b g off len aR,_,_,k=>by
  simp only[an]at k
  obtain⟨v,e,h1,bi,h2,r⟩:=k
  simpa[V.low]using I b bi h2
 |.ptr b g p,_,_,k=>by
  simp only[an]at k
  obtain⟨v,e,h1,bi,h2,r⟩:=k
  simpa[V.low]using I b bi h2
 |.fn f a c,_,_,k=>by
  simp only[an]at k
  obtain⟨fs,cs,J,U,e,h1,d,h2,i⟩:=k
  simp only[V.low]
  exact⟨bF.low I a ag J h1,bF.low I c ag U h2⟩
 |.ifc t v,_,_,k=>by
  simp only[an]at k
  obtain⟨x,e,r⟩:=k
  simpa[V.low]using an.low I v ag [x] r
 |.mp b,_,_,k=>by
  simp only[an]at k
  obtain⟨r,bi,e,h1,h2⟩:=k
  simpa[V.low]using I b bi h1
 |.gT b,_,_,k=>by
  simp only[an]at k
  obtain⟨l,e,bi,h1,h2⟩:=k
  simpa[V.low]using I b bi h1
theorem bF.low{X:Cx}{n:Nat}(I:X.lt n):∀(l:List V) (m:Bool) (A:List (List Value)),bF X l m A->V.kF n l
 |[],_,_,_=>by simp[V.kF]
 |v::l,m,_,k=>by
  simp only[bF]at k
  obtain⟨ws,r,e,h1,h2⟩:=k
  simp only[V.kF]
  exact⟨an.low I v m ws h1,bF.low I l m r h2⟩
end
section
@[simp] theorem b8{α:Type}(l:List α)(i:Nat):bC l i=l[i]? :=by
 induction l generalizing i with
 |nil=>rfl
 |cons a l ih=>cases i<;>first|rename_i i;exact(ih i).trans (by simp)|rfl
@[simp] theorem bn{α:Type}(l:List α):aA l=l.length:=by
 induction l with
 |nil=>rfl
 |cons a l ih=>show aA l+1=_;rw[ih];rfl
@[simp] theorem dR{α:Type}(l:List α)(i:Nat)(x:α):bB l i x=l.set i x:=by
 induction l generalizing i with
 |nil=>rfl
 |cons a l ih=>cases i<;>first|rename_i i;show a::bB l i x=_;rw[ih];rfl|rfl
@[simp] theorem nC{α:Type}(n:Nat)(x:α):kU n x=bT n x:=by
 induction n with
 |zero=>rfl
 |succ n ih=>show x::kU n x=_;rw[ih];rfl
@[simp] theorem mC(l:List D):jj l=l.map V.im:=by
 induction l with
 |nil=>rfl
 |cons a l ih=>show V.im a::jj l=_;rw[ih];rfl
theorem cF(h:Heap)(b:Nat):aq h b=(h[b]?).join:=by
 unfold aq;rw[b8];cases h[b]?<;>rfl
theorem GI(b:Option bK)(r:Heap)(n:Nat)(x:bK):aD (b::r) (n+1) x=b::aD r n x:=rfl
theorem bL(h:Heap)(n:Nat)(x:bK):(aD h n x).length=if n< h.length then h.length else h.length+1:=by
 induction h generalizing n with
 |nil=>rfl
 |cons b r ih=>cases n with
  |zero=>rfl
  |succ n=>
   rw[GI,jP];grind
theorem bG(h:Heap)(n m:Nat)(x:bK)(A:n<=h.length):aq (aD h n x) m=if m=n then ab x else aq h m:=by
 induction h generalizing n m with
 |nil=>
  grind[cF,aD]
 |cons b r ih=>cases n with
  |zero=>grind[aD,cF]
  |succ n=>cases m with
   |zero=>rfl
   |succ m=>
    have:=ih n m (by simpa using A)
    simp_all[GI,cF,List.getElem?_cons_succ,this]
theorem dI{h:Heap}{b:Nat}{k:bK}(e:aq h b=ab k):b< h.length:=by
 rw[cF]at e;grind
structure dP(w w':World):Prop where
 block:∀r:Nat,r< w.heap.size->w'.heap[r]? =w.heap[r]?
theorem dP.cell{w w':World}(k:dP w w'):∀a v,w.cell? a=ab v->w'.cell? a=ab v:=λa v e=>
 (World.cell?_of_block (w:=w) (k.block a.block (wS w a e))).trans e
theorem dP.frozen{w w':World}(k:dP w w'):∀a v,w.cell? a=ab v->w'.frozen? a=w.frozen? a:=λa _ e=>
 World.frozen?_of_block (w:=w) (k.block a.block (wS w a e))
theorem dP.obj{w w':World}(k:dP w w'):∀(r:Nat) (o:Obj),w.heap[r]? =ab o->w'.heap[r]? =ab o:=λr _ e=>
 (k.block r (tG.1 e).1).trans e
theorem dP.refl(w:World):dP w w:=⟨λ_ _=>rfl⟩
theorem apP{w w':World}(k:∀r:Nat,r< w.heap.size->w'.heap[r]? =w.heap[r]?):w.heap.size<=w'.heap.size:=by
 grind
theorem dP.trans{a b c:World}(h:dP a b)(k:dP b c):dP a c:=
 ⟨λr e=>(k.block r (eU e (apP h.block))).trans (h.block r e)⟩
theorem dP.vt{w w':World}(h:Below w.heap.size w w'):dP w w':=⟨h.block⟩
theorem LF(w:World)(o:Obj):Below w.heap.size w (w.alloc o):=(Below.refl _ _).alloc (aJ _) o
theorem Fh(w:World):Below w.heap.size w w.drew:=(Below.refl _ _).drew
theorem dP.alloc(w:World)(o:Obj):dP w (w.alloc o):=.vt (LF w o)
class Gh where
 K:Nat->Nat->Code->Prop
 G:IV->Prop
 gm:∀{C C':IV},C.le C'->G C->G C'
variable [Gh]
structure CI(C:IV)(w:World):Prop where
 ci:∀a v,C a=ab v->w.cell? a=ab v
 gl:Gh.G C
instance {C:IV}{w:World}:CoeFun (CI C w) λ_=>∀a v,C a=ab v->w.cell? a=ab v:=⟨CI.ci⟩
theorem CI.keep{C:IV}{w w':World}(h:CI C w)(k:dP w w'):CI C w':=⟨λa v e=>k.cell a v (h a v e),h.gl⟩
theorem cz.keep{w w':World}{a:Addr}{vs:List Value}(h:cz w.cell? a vs)(k:dP w w'):cz w'.cell? a vs:=λj v e=>k.cell _ v (h j v e)
def fw(w:World)(O:Addr->Prop)(a:Addr)(i n:Nat):Prop:=∀j,i<=j->j< n->O (a.add j)/\(∃v,w.cell? (a.add j)=ab v)/\w.frozen? (a.add j)=af
theorem fw.keep{w w':World}{O:Addr->Prop}{a:Addr}{i n:Nat}(h:fw w O a i n)(k:dP w w'):fw w' O a i n:=λj h1 h2=>
 let⟨o,⟨v,e⟩,f⟩:=h j h1 h2
 ⟨o,⟨v,k.cell _ v e⟩,(k.frozen _ v e).trans f⟩
def ER(T e:TypeId)(w:World)(O:Addr->Prop)(r:Nat)(s:List Nat):Prop:=
 ∃p v,w.heap[r]? =ab (.cells #[p,v] T (0,0))/\(p=.pointer ae∨p=.pointer (ab ⟨r,0,ae⟩))/\w.ownsRowF 0 e 1 v s.length (s.map λc=>Value.int .u8 (aC c))/\
  (∀c∈s,c< 256)/\v.ownBlock≠ab r/\(∀a,a.block=r->O a)/\(∀g,v.ownBlock=ab g->∀a:Addr,a.block=g->O a)
theorem ER.kept{T e:TypeId}{w w':World}{O O':Addr->Prop}{r:Nat}{s:List Nat}(h:ER T e w O r s)(A:∀g,(∀a:Addr,a.block=g->O a)->g< w.heap.size->w'.heap[g]? =w.heap[g]?)(I:∀a,O a->O' a):ER T e w' O' r s:=by
 obtain⟨p,v,h1,h2,h3,c,d,J,U⟩:=h;refine⟨p,v,(A r J (tG.1 h1).1).trans h1,h2,⟨h3.1,?_⟩,c,d,λa e=>I a (J a e),λg e a f=>I a (U g e a f)⟩
 rcases h3.2 with h|⟨g,cap,cur,i,Z,q2,b,q4⟩
 .exact .inl h
 .refine .inr ⟨g,cap,cur,i,Z,q2,(A g (U g ?_) (tG.1 b).1).trans b,q4⟩;subst Z;rfl
structure EU(X:Cx)(f:Nat)(t:Tm)(ps:List Nat)(bO body:Code)(r:Loop):Prop where
 Qd:r.state=.ready
 aam:r.pending=ae
 Qc:r.params.toList=ps
 aak:r.assign=bO
 aal:r.body=body
 qt:∀i,an X (t.get i) ag [r.tmps.getD i undef]
 qlt:∀p∈ps,p< r.tmps.size
 k1:Gh.K f r.tmps.size bO
 k2:Gh.K f r.tmps.size body
theorem EU.mono{n:Nat}{X Y:Cx}{f:Nat}{t:Tm}{ps:List Nat}{bO body:Code}{r:Loop}(h:EU X f t ps bO body r)(I:∀i,(t.get i).low n)(A:X.le n Y):EU Y f t ps bO body r:=
 ⟨h.Qd,h.aam,h.Qc,h.aak,h.aal,λi=>(h.qt i).mono A _ _ _ (I i),h.qlt,h.k1,h.k2⟩
def gf(X:Cx):List (D×V)->List MapEntry->Prop
 |[],ms=>ms=[]
 |e::es,ms=>∃m r,ms=m::r/\aN X.C e.1 ag [m.key]/\an X e.2 ag [m.val]/\gf X es r
structure ES(X:Cx)(es:List (D×V))(s:List Nat)(ck:Nat)(ms:List MapEntry)(jB:Nat):Prop where
 n4:gf X es ms
 born:ms.map (·.born)=s
 Fs:jB=ck
def BR(X:Cx)(w:World)(O:Addr->Prop)(b:Nat):bK->Prop
 |.cell v=>∃bi I ws,X.M b=ab bi/\bi.g=0/\bi.fix=ag/\bi.base=ab I/\I.spot=ae/\an X v af ws/\cz w.cell? I ws/\fw w O I 0 ws.length
 |.arr g s ro l=>∃bi,X.M b=ab bi/\bi.g=g/\bi.fix=af/\(l.length<=bi.cap/\ro<=l.length)/\bi.cap<=eO/\(bi.cap=0∨(bi.s=s/\∃I A,bi.base=ab I/\I.spot=ae/\
   bw X.C l af A/\(∀ws∈A,ws.length=s)/\cz w.cell? I A.flatten/\cz X.C I (A.flatten.take (ro*s))/\fw w O I (ro*s) (bi.cap*s)))
 |.bN g s l=>∃bi,X.M b=ab bi/\bi.g=g/\bi.fix=af/\l.length<=bi.cap/\bi.cap<=eO/\(bi.cap=0∨(bi.s=s/\∃I A,bi.base=ab I/\I.spot=ae/\
   bF X l af A/\(∀ws∈A,ws.length=s)/\cz w.cell? I A.flatten/\fw w O I 0 (bi.cap*s)))
 |.mp es s c=>∃bi r ms ck,X.M b=ab bi/\bi.g=0/\bi.fix=ag/\bi.base=ab ⟨r,0,ae⟩/\w.heap[r]? =ab (.map ms ck)/\O ⟨r,0,ae⟩/\ES X es s c ms.toList ck
 |.jU T e s=>∃bi r,X.M b=ab bi/\bi.g=0/\bi.fix=ag/\bi.base=ab ⟨r,0,ae⟩/\ER T e w O r s
 |.lp f t ps bO body=>∃bi l r,X.M b=ab bi/\bi.g=0/\bi.fix=ag/\bi.base=ab ⟨l,0,ae⟩/\w.heap[l]? =ab (.loop r)/\O ⟨l,0,ae⟩/\EU X f t ps bO body r
 |.it v since seen last=>∃bi r m,X.M b=ab bi/\bi.g=0/\bi.fix=ag/\bi.base=ab ⟨r,0,ae⟩/\w.heap[r]? =ab (.mapIter m since seen.toArray last)/\O ⟨r,0,ae⟩/\an X v ag [.map m]
structure HR(B:Nat)(X:Cx)(O:Nat->Addr->Prop)(w:World)(h:Heap):Prop where
 cy:∀b k,aq h b=ab k->BR X w (O b) b k
 own:∀b a,O b a->B<=a.block/\a.block< w.heap.size/\X.C a=ae
 fj:∀b c a,O b a->O c a->b=c
 lt:X.lt h.length
 ci:CI X.C w
 wb:B<=w.heap.size
def bK.kF(n:Nat):bK->Prop
 |.cell v=>v.low n
 |.arr _ _ _ _=>True
 |.bN _ _ l=>V.kF n l
 |.mp es _ _=>∀e∈es,e.2.low n
 |.jU _ _ _=>True
 |.lp _ t _ _ _=>∀i,(t.get i).low n
 |.it v _ _ _=>v.low n
theorem gf.mono{n:Nat}{X Y:Cx}(h:X.le n Y):∀{es:List (D×V)} {ms:List MapEntry},(∀e∈es,e.2.low n)->gf X es ms->gf Y es ms
 |[],_,_,k=>by trivial
 |e::es,_,A,k=>by
  obtain⟨m,r,I,h1,h2,h3⟩:=k;exact⟨m,r,I,h1.mono h.C,h2.mono h _ _ _ (A _ (by simp)),gf.mono h (λx J=>A x (by simp[J])) h3⟩
theorem gf.low{n:Nat}{X:Cx}(I:X.lt n):∀{es:List (D×V)} {ms:List MapEntry},gf X es ms->∀e∈es,e.2.low n
 |[],_,_=>by simp
 |e::es,_,k=>by
  obtain⟨m,r,J,h1,h2,h3⟩:=k;intro x A;rcases eT.1 A with rfl|A
  .exact an.low I _ _ _ h2
  .exact gf.low I h3 x A
theorem BR.low{n:Nat}{X:Cx}{w:World}{O:Addr->Prop}{b:Nat}{k:bK}(A:X.lt n)(h:BR X w O b k):k.kF n:=by
 cases k with
 |cell v=>obtain⟨bi,I,ws,_,_,_,_,_,h,_⟩:=h;exact an.low A _ _ _ h
 |bN g s l=>
  obtain⟨bi,U,Z,hf,d,_,h⟩:=h;rcases h with h|⟨_,I,J,_,_,h,_⟩
  .simp_all[bK.kF,V.kF]
  .exact bF.low A _ _ _ h
 |mp es s c=>obtain⟨bi,r,ms,ck,_,_,_,_,_,_,h⟩:=h;exact gf.low A h.n4
 |arr g s ro l|jU=>trivial
 |lp f t ps bO body=>obtain⟨bi,l,r,_,_,_,_,_,_,h⟩:=h;exact λi=>an.low A _ _ _ (h.qt i)
 |it v a s l=>obtain⟨bi,r,m,_,_,_,_,_,_,h⟩:=h;exact an.low A _ _ _ h
theorem BR.later{n:Nat}{X Y:Cx}{w w':World}{O O':Addr->Prop}{b:Nat}{k:bK}(h:BR X w O b k)(L:X.lt n)(I:X.le n Y)(o:Y.M b=X.M b)(i:dP w w')(p:∀a,O a->O' a):BR Y w' O' b k:=by
 have A:=h.low L;cases k<;>first|rename_i g s ro l;obtain⟨bi,h1,h2,h3,J,U,d⟩:=h;refine⟨bi,o.trans h1,h2,h3,J,U,d.imp id ?_⟩;rintro⟨e,F,q,Z,G,H,u,z,D,K⟩;exact⟨e,F,q,Z,G,H.mono I.C,u,z.keep i,D.mono I.C,λj a b=>let⟨x,y⟩:=K.keep i j a b;⟨p _ x,y⟩⟩|rename_i g s l;obtain⟨bi,h1,h2,h3,J,U,d⟩:=h;refine⟨bi,o.trans h1,h2,h3,J,U,d.imp id ?_⟩;rintro⟨e,F,q,Z,G,H,u,z,D⟩;exact⟨e,F,q,Z,G,H.mono I _ _ _ A,u,z.keep i,λj a b=>let⟨x,y⟩:=D.keep i j a b;⟨p _ x,y⟩⟩|obtain⟨bi,F,ws,h1,h2,h3,J,U,d,Z,G⟩:=h;exact⟨bi,F,ws,o.trans h1,h2,h3,J,U,d.mono I _ _ _ A,Z.keep i,λj a b=>let⟨x,y⟩:=G.keep i j a b;⟨p _ x,y⟩⟩|rename_i es s c;obtain⟨bi,r,ms,ck,h1,h2,h3,J,U,d,Z⟩:=h;exact⟨bi,r,ms,ck,o.trans h1,h2,h3,J,i.obj _ _ U,p _ d,⟨Z.n4.mono I A,Z.born,Z.Fs⟩⟩|rename_i f t ps bO body;obtain⟨bi,l,r,h1,h2,h3,J,U,d,Z⟩:=h;exact⟨bi,l,r,o.trans h1,h2,h3,J,i.obj _ _ U,p _ d,Z.mono A I⟩|rename_i v a s l;obtain⟨bi,r,m,h1,h2,h3,J,U,d,Z⟩:=h;exact⟨bi,r,m,o.trans h1,h2,h3,J,i.obj _ _ U,p _ d,Z.mono I _ _ _ A⟩|rename_i T e s;obtain⟨bi,r,h1,h2,h3,J,U⟩:=h;exact⟨bi,r,o.trans h1,h2,h3,J,U.kept (λg _ N=>i.block g N) p⟩
theorem HR.keep{B:Nat}{X:Cx}{O:Nat->Addr->Prop}{w w':World}{h:Heap}(A:HR B X O w h)(I:dP w w')(hw:w.heap.size<=w'.heap.size):HR B X O w' h:=
 ⟨λb k e=>(A.cy b k e).later A.lt (.refl _ _) rfl I (λ_ h=>h),λb a o=>let⟨x,y,z⟩:=A.own b a o;⟨x,eU y hw,z⟩,A.fj,A.lt,A.ci.keep I,bU A.wb hw⟩
structure FR(X:Cx)(O:Nat->Addr->Prop)(w:World)(h:Heap)(X':Cx)(O':Nat->Addr->Prop)(w':World)(h':Heap):Prop where
 eH:∀b bi,X.M b=ab bi->aq h b=ae->aq h' b=ae
 M:∀b bi,X.M b=ab bi->aq h b=ae->X'.M b=ab bi
 own:∀b bi,X.M b=ab bi->aq h b=ae->∀a,O b a->O' b a
 cell:∀b bi,X.M b=ab bi->aq h b=ae->∀a,O b a->∀v,w.cell? a=ab v->w'.cell? a=ab v/\w'.frozen? a=w.frozen? a
 obj:∀b bi,X.M b=ab bi->aq h b=ae->∀r:Nat,O b ⟨r,0,ae⟩->∀o,w.heap[r]? =ab o->o.isCells=af->w'.heap[r]? =ab o
 cy:∀b bi,X.M b=ab bi->aq h b=ae->∀g,(∀a:Addr,a.block=g->O b a)->g< w.heap.size->w'.heap[g]? =w.heap[g]?
 nL:∀b,aq h' b=ae->aq h b=ae
 pQ:∀b,b< h.length->X.M b=ae->aq h' b=ae->X'.M b=ae
theorem FR.refl(X:Cx)(O:Nat->Addr->Prop)(w:World)(h:Heap):FR X O w h X O w h:=
 ⟨λ_ _ _ e=>e,λ_ _ e _=>e,λ_ _ _ _ _ o=>o,λ_ _ _ _ _ _ _ e=>⟨e,rfl⟩,λ_ _ _ _ _ _ _ e _=>e,λ_ _ _ _ _ _ _=>rfl,λ_ e=>e,λ_ _ e _=>e⟩
theorem FR.trans{X Y Z:Cx}{O O' I:Nat->Addr->Prop}{a b c:World}{h h' J:Heap}(f:FR X O a h Y O' b h')(g:FR Y O' b h' Z I c J)(l:a.heap.size<=b.heap.size)(m:h.length<=h'.length):FR X O a h Z I c J where
 eH:=λn bi e A=>g.eH n bi (f.M n bi e A) (f.eH n bi e A)
 M:=λn bi e A=>g.M n bi (f.M n bi e A) (f.eH n bi e A)
 own:=λn bi e A x o=>g.own n bi (f.M n bi e A) (f.eH n bi e A) x (f.own n bi e A x o)
 cell:=λn bi e A x o v ev=>
  let⟨p,q⟩:=f.cell n bi e A x o v ev
  let⟨r,s⟩:=g.cell n bi (f.M n bi e A) (f.eH n bi e A) x (f.own n bi e A x o) v p
  ⟨r,s.trans q⟩
 obj:=λn bi e A x o i t U=>g.obj n bi (f.M n bi e A) (f.eH n bi e A) x (f.own n bi e A _ o) i (f.obj n bi e A x o i t U) U
 cy:=λn bi e A k U j=>(g.cy n bi (f.M n bi e A) (f.eH n bi e A) k (λa u=>f.own n bi e A a (U a u)) (eU j l)).trans (f.cy n bi e A k U j)
 nL:=λn e=>f.nL n (g.nL n e)
 pQ:=λn d e A=>g.pQ n (eU d m) (f.pQ n d e (g.nL n A)) A
theorem FR.keep{X:Cx}{O:Nat->Addr->Prop}{w w':World}{h:Heap}(A:dP w w'):FR X O w h X O w' h:=
 ⟨λ_ _ _ e=>e,λ_ _ e _=>e,λ_ _ _ _ _ o=>o,λ_ _ _ _ _ _ _ e=>⟨A.cell _ _ e,A.frozen _ _ e⟩,λ_ _ _ _ _ _ _ e _=>A.obj _ _ e,λ_ _ _ _ g _ I=>A.block g I,λ_ e=>e,λ_ _ e _=>e⟩
theorem BR.ahD{n:Nat}{X Y:Cx}{w w':World}{O O':Nat->Addr->Prop}{h h':Heap}(f:FR X O w h Y O' w' h')(hci:CI Y.C w'){b:Nat}{bi:BI}(U:X.M b=ab bi)(d:aq h b=ae)
  {k:bK} (r:BR X w (O b) b k) (hX:X.lt n) (I:X.le n Y):BR Y w' (O' b) b k:=by
 have J:=r.low hX;have L:Y.M b=X.M b:=(f.M b bi U d).trans U.symm;have z:∀{a:Addr} {i n:Nat},fw w (O b) a i n->fw w' (O' b) a i n:=λho j h1 h2=>
  let⟨o,⟨v,e⟩,fz⟩:=ho j h1 h2
  let⟨p,q⟩:=f.cell b bi U d _ o v e
  ⟨f.own b bi U d _ o,⟨v,p⟩,q.trans fz⟩
 cases k with
 |cell v=>
  obtain⟨bi,W,ws,h1,h2,h3,Z,x,u,y,S⟩:=r;exact⟨bi,W,ws,L.trans h1,h2,h3,Z,x,u.mono I _ _ _ J,λj v e=>(f.cell b _ U d _ (S j (bX _) (e7.1 e).1).1 v (y j v e)).1,z S⟩
 |arr g s ro l=>
  obtain⟨bi,h1,h2,h3,Z,x,u⟩:=r;refine⟨bi,L.trans h1,h2,h3,Z,x,u.imp id ?_⟩;rintro⟨e,W,A,y,S,h9,F,N,G,VN⟩;refine⟨e,W,A,y,S,h9.mono I.C,F,λj v ev=>?_,G.mono I.C,z VN⟩
  by_cases hj:j< ro*s
  .exact hci _ _ (I.C _ _ (G j v (by grind)))
  .have H:A.flatten.length=l.length*s:=by
    have:=by
     have key:∀l:List (List Value),(∀ws∈l,ws.length=s)->l.flatten.length=l.length*s:=by
      intro l hl;induction l with
      |nil=>simp
      |cons a l ih=>grind
     exact key A F
    rw[this];have K:∀{l:List D} {A:List (List Value)},bw X.C l af A->A.length=l.length:=by
     intro l;induction l with
     |nil=>simp[bw]
     |cons a l ih=>simp_all[bw,ih,h2]
    rw[K h9]
   have Q:j< bi.cap*s:=by
    have:=(e7.1 ev).1;rw[H]at this;exact eU this (dM _ Z.1)
   exact(f.cell b _ U d _ (VN j (by omega) Q).1 v (N j v ev)).1
 |bN g s l=>
  obtain⟨bi,h1,h2,h3,Z,x,u⟩:=r;refine⟨bi,L.trans h1,h2,h3,Z,x,u.imp id ?_⟩;rintro⟨e,W,A,y,S,h9,F,N,G⟩;refine⟨e,W,A,y,S,h9.mono I _ _ _ J,F,λj v ev=>?_,z G⟩
  have H:A.flatten.length=l.length*s:=by
   have key:∀l:List (List Value),(∀ws∈l,ws.length=s)->l.flatten.length=l.length*s:=by
    intro l hl;induction l with
    |nil=>simp
    |cons a l ih=>grind
   rw[key A F];have K:∀{l:List V} {A:List (List Value)},bF X l af A->A.length=l.length:=by
    intro l;induction l with
    |nil=>simp[bF]
    |cons a l ih=>simp_all[bF,ih,h2]
   rw[K h9]
  have Q:j< bi.cap*s:=by
   have:=(e7.1 ev).1;rw[H]at this;exact eU this (dM _ Z)
  exact(f.cell b _ U d _ (G j (bX _) Q).1 v (N j v ev)).1
 |mp es s c=>
  obtain⟨bi,r,ms,ck,h1,h2,h3,Z,x,u,y⟩:=r;exact⟨bi,r,ms,ck,L.trans h1,h2,h3,Z,f.obj b _ U d _ u _ x rfl,f.own b _ U d _ u,⟨y.n4.mono I J,y.born,y.Fs⟩⟩
 |jU T e s=>
  obtain⟨bi,r,h1,h2,h3,Z,x⟩:=r;exact⟨bi,r,L.trans h1,h2,h3,Z,x.kept (λg hO hg=>f.cy b _ U d g hO hg) (λa o=>f.own b _ U d a o)⟩
 |lp f0 t ps bO body=>
  obtain⟨bi,l,r,h1,h2,h3,Z,x,u,y⟩:=r;exact⟨bi,l,r,L.trans h1,h2,h3,Z,f.obj b _ U d _ u _ x rfl,f.own b _ U d _ u,y.mono J I⟩
 |it v a s l=>
  obtain⟨bi,r,m,h1,h2,h3,Z,x,u,y⟩:=r;exact⟨bi,r,m,L.trans h1,h2,h3,Z,f.obj b _ U d _ u _ x rfl,f.own b _ U d _ u,y.mono I _ _ _ J⟩
def Cx.gx(X:Cx)(C:IV):Cx:={X with C}
theorem HR.more{B:Nat}{X:Cx}{O:Nat->Addr->Prop}{w:World}{h:Heap}(A:HR B X O w h){C:IV}(J:X.C.le C)(I:CI C w)(U:∀b a,O b a->C a=ae):HR B (X.gx C) O w h:=
 ⟨λb k e=>(A.cy b k e).later A.lt ⟨J,λ_ bi _ e=>⟨bi,e,aJ _,λ_=>rfl,λ_=>rfl⟩,λ_ _ e=>e⟩ rfl (.refl w) (λ_ h=>h),
  λb a o=>⟨(A.own b a o).1,(A.own b a o).2.1,U b a o⟩,A.fj,A.lt,I,A.wb⟩
end
section
variable [Gh]
def aZ{α β:Type}(R:α->β->Prop):List α->List β->Prop
 |[],A=>A=[]
 |x::xs,A=>∃y r,A=y::r/\R x y/\aZ R xs r
namespace aZ
variable {α β γ:Type} {R:α->β->Prop}
theorem nil:aZ R [] []:=rfl
theorem cons{x:α}{y:β}{xs:List α}{A:List β}(h:R x y)(k:aZ R xs A):aZ R (x::xs) (y::A):=⟨y,A,rfl,h,k⟩
theorem ara{x:α}{y:β}{xs:List α}{A:List β}:aZ R (x::xs) (y::A)↔R x y/\aZ R xs A:=
 ⟨λ⟨_,_,e,h,k⟩=>by grind,λ⟨h,k⟩=>cons h k⟩
theorem len:∀{xs:List α} {A:List β},aZ R xs A->A.length=xs.length
 |[],_,h=>by cases h;rfl
 |_::_,_,⟨_,_,e,_,k⟩=>by subst e;simp[len k]
theorem get:∀{xs:List α} {A:List β} {i:Nat} {x:α},aZ R xs A->xs[i]? =ab x->∃y,A[i]? =ab y/\R x y
 |[],_,_,_,_,e=>by trivial
 |_::_,_,0,_,⟨y,r,e,h,_⟩,I=>by grind
 |_::_,_,i+1,_,⟨_,_,e,_,k⟩,I=>by subst e;simpa using get (i:=i) k (by trivial)
theorem set:∀{xs:List α} {I:List β} {i:Nat} {x:α} {y:β},aZ R xs I->R x y->aZ R (xs.set i x) (I.set i y)
 |[],_,_,_,_,h,_=>by cases h;rfl
 |_::_,_,0,_,_,⟨_,r,e,_,k⟩,A=>by simp_all[cons,A,k]
 |_::_,_,i+1,_,_,⟨_,_,e,h,k⟩,A=>by subst e;exact cons h (set k A)
theorem app:∀{xs A:List α} {J I:List β},aZ R xs J->aZ R A I->aZ R (xs++A) (J++I)
 |[],_,_,_,h,k=>by cases h;exact k
 |_::_,_,_,_,⟨_,_,e,h,k⟩,U=>by subst e;exact cons h (app k U)
theorem take:∀{xs:List α} {A:List β} (n:Nat),aZ R xs A->aZ R (xs.take n) (A.take n)
 |_,_,0,_=>by rfl
 |[],_,_+1,h=>by cases h;rfl
 |_::_,_,n+1,⟨_,_,e,h,k⟩=>by subst e;exact cons h (take n k)
theorem drop:∀{xs:List α} {A:List β} (n:Nat),aZ R xs A->aZ R (xs.drop n) (A.drop n)
 |_,_,0,h=>by trivial
 |[],_,_+1,h=>by cases h;rfl
 |_::_,_,n+1,⟨_,_,e,_,k⟩=>by subst e;exact drop n k
theorem rep{x:α}{y:β}(h:R x y):∀n:Nat,aZ R (bT n x) (bT n y)
 |0=>rfl
 |n+1=>cons h (rep h n)
theorem imp{S:α->β->Prop}(f:∀x y,R x y->S x y):∀{xs:List α} {A:List β},aZ R xs A->aZ S xs A
 |[],_,h=>h
 |_::_,_,⟨y,r,e,h,k⟩=>⟨y,r,e,f _ _ h,imp f k⟩
theorem imp'{S:α->β->Prop}:∀{xs:List α} {A:List β},(∀x∈xs,∀y,R x y->S x y)->aZ R xs A->aZ S xs A
 |[],_,_,h=>h
 |x::_,_,f,⟨y,r,e,h,k⟩=>⟨y,r,e,f x (by simp) y h,imp' (λz I=>f z (by simp[I])) k⟩
theorem Hs{f:γ->α}:∀{xs:List γ} {A:List β},aZ (λx y=>R (f x) y) xs A↔aZ R (xs.map f) A
 |[],_=>Iff.rfl
 |_::_,_=>⟨λ⟨y,r,e,h,k⟩=>⟨y,r,e,h,Hs.1 k⟩,λ⟨y,r,e,h,k⟩=>⟨y,r,e,h,Hs.2 k⟩⟩
theorem erase:∀{xs:List α} {A:List β} (i:Nat),aZ R xs A->aZ R (xs.eraseIdx i) (A.eraseIdx i)
 |[],_,_,h=>by cases h;rfl
 |_::_,_,0,⟨_,_,e,_,k⟩=>by simp_all[k]
 |_::_,_,i+1,⟨_,_,e,h,k⟩=>by subst e;exact cons h (erase i k)
theorem ae4:∀{xs I:List α} {J:List β},aZ R (xs++I) J->∃U A,J=U++A/\aZ R xs U/\aZ R I A
 |[],_,J,h=>⟨[],J,rfl,rfl,h⟩
 |_::_,_,_,⟨y,_,e,h,k⟩=>by
  subst e;obtain⟨U,A,e,h1,h2⟩:=ae4 k;exact⟨y::U,A,by simp[e],cons h h1,h2⟩
end aZ
theorem cf{C:IV}{m:Bool}:∀{l:List D} {aV:List (List Value)},bw C l m aV↔aZ (λd ws=>aN C d m ws) l aV
 |[],_=>by rfl
 |d::l,aV=>by simp[bw,aZ];simp[cf (l:=l)]
theorem dU{X:Cx}{m:Bool}:∀{l:List V} {A:List (List Value)},bF X l m A↔aZ (λd ws=>an X d m ws) l A
 |[],_=>by rfl
 |d::l,A=>by simp[bF,aZ];simp[dU (l:=l)]
theorem ml{X:Cx}:∀{l:List (D×V)} {ms:List MapEntry},gf X l ms↔aZ (λe m=>aN X.C e.1 ag [m.key]/\an X e.2 ag [m.val]) l ms
 |[],_=>by rfl
 |d::l,ms=>by simp[gf,aZ];simp[ml (l:=l),and_assoc]
def bc(s:Nat)(A:List (List Value)):Prop:=∀ws∈A,ws.length=s
theorem bc.len{s:Nat}{aV:List (List Value)}(h:bc s aV):aV.flatten.length=aV.length*s:=by
 induction aV with
 |nil=>simp
 |cons a l ih=>
  rw[nR,dD,h a (by simp),ih (λx A=>h x (by simp[A])),jP,mf,SO,Nat.add_comm]
theorem bc.get{s:Nat}:∀{A:List (List Value)} {i j:Nat} {ws:List Value},bc s A->A[i]? =ab ws->j< s->A.flatten[i*s+j]? =ws[j]?
 |[],_,_,_,_,e,_=>by trivial
 |a::l,0,j,ws,h,e,I=>by
  simp at e;subst e;rw[nR,Nat.zero_mul,cV,hH (by rw[h a (by simp)];omega)]
 |a::l,i+1,j,ws,h,e,I=>by
  have J:=h a (by simp)
  rw[nR,jx (by grind),J]
  have:(i+1)*s+j-s=i*s+j:=by grind
  rw[this];exact bc.get (λx U=>h x (by simp[U])) (by trivial) I
theorem bc.take{s:Nat}{aV:List (List Value)}(h:bc s aV)(n:Nat):bc s (aV.take n):=λx A=>h x (List.mem_of_mem_take A)
theorem bc.drop{s:Nat}{aV:List (List Value)}(h:bc s aV)(n:Nat):bc s (aV.drop n):=λx A=>h x (List.mem_of_mem_drop A)
theorem bc.app{s:Nat}{a b:List (List Value)}(h:bc s a)(k:bc s b):bc s (a++b):=λx A=>(cB.1 A).elim (h x) (k x)
theorem bc.set{s:Nat}{a:List (List Value)}(h:bc s a){i:Nat}{ws:List Value}(k:ws.length=s):bc s (a.set i ws):=λx A=>by
 rcases List.mem_or_eq_of_mem_set A with A|rfl
 .exact h x A
 omega
theorem bc.rep{s n:Nat}{ws:List Value}(k:ws.length=s):bc s (bT n ws):=λx A=>by grind
theorem bc.jh{s:Nat}:∀{A:List (List Value)} {n:Nat},bc s A->(A.take n).flatten=A.flatten.take (n*s)
 |[],n,_|a::l,0,_=>by simp
 |a::l,n+1,h=>by
  have I:=h a (by simp)
  have J:(n+1)*s-s=n*s:=by grind
  have U:a.take ((n+1)*s)=a:=List.take_of_length_le (by grind)
  rw[List.take_succ_cons,nR,nR,bc.jh (λx Z=>h x (by simp[Z])),List.take_append,I,J,U]
theorem bc.qy{s:Nat}:∀{A:List (List Value)} {n:Nat},bc s A->(A.drop n).flatten=A.flatten.drop (n*s)
 |[],n,_|a::l,0,_=>by simp
 |a::l,n+1,h=>by
  have I:=h a (by simp)
  have J:(n+1)*s-s=n*s:=by grind
  have U:a.drop ((n+1)*s)=[]:=List.drop_eq_nil_of_le (by grind)
  rw[List.drop_succ_cons,nR,bc.qy (λx Z=>h x (by simp[Z])),List.drop_append,I,J,U,List.nil_append]
theorem Addr.add_add(a:Addr)(i j:Nat)(h:a.spot=ae):(a.add i).add j=a.add (i+j):=by
 unfold wI;grind
theorem Addr.h8(a:Addr)(i:Nat)(h:a.spot=ae):(a.add i).spot=ae:=by
 grind[wI]
theorem Addr.qf(a:Addr)(i:Nat):(a.add i).block=a.block:=by grind[wI]
theorem Addr.nX{a:Addr}{i j:Nat}(h:a.spot=ae)(e:a.add i=a.add j):i=j:=by
 unfold wI at e;grind
@[simp] theorem Addr.add_zero(a:Addr):a.add 0=a:=by rfl
theorem cz.drop{C:IV}{a:Addr}(A:a.spot=ae){vs:List Value}(h:cz C a vs)(n:Nat):cz C (a.add n) (vs.drop n):=λj v e=>by
 rw[Addr.add_add a n j A];exact h _ v (by simpa using e)
theorem cz.take{C:IV}{a:Addr}{vs:List Value}(h:cz C a vs)(n:Nat):cz C a (vs.take n):=λj v e=>h j v (by
 grind)
theorem cz.row{C:IV}{a:Addr}(J:a.spot=ae){s:Nat}{A:List (List Value)}(I:bc s A)(h:cz C a A.flatten){i:Nat}{ws:List Value}(e:A[i]? =ab ws):cz C (a.add (i*s)) ws:=λj v ev=>by
 have Z:=I ws (lj e);have U:j< s:=by grind
 rw[Addr.add_add a _ j J];exact h _ v (by simp[I.get,e,U,ev])
theorem cz.nil{C:IV}{a:Addr}:cz C a []:=λj v e=>by trivial
def Obj.lp:Obj->Bool
 |.loop _=>ag
 |_=>af
theorem vc{o:Obj}(h:Obj.lp o=ag):o.isCells=af:=by cases o<;>simp_all[Obj.lp,wO]
structure Up(B:Nat)(X:Cx)(w:World)(n:Nat)(X':Cx)(w':World):Prop where
 le:X.le n X'
 below:Below B w w'
 fresh:∀a v,X'.C a=ab v->X.C a=ae->B<=a.block
 obj:∀(r:Nat) (o:Obj),w.heap[r]? =ab o->Obj.lp o=ag->w'.heap[r]? =ab o
theorem Up.refl(B n:Nat)(X:Cx)(w:World):Up B X w n X w:=⟨.refl _ _,.refl _ _,λa v e h=>(by grind),λ_ _ h _=>h⟩
theorem Up.trans{B n:Nat}{X Y Z:Cx}{a b c:World}(h:Up B X a n Y b)(k:Up B Y b n Z c):Up B X a n Z c:=
 ⟨h.le.trans k.le,h.below.trans k.below,λx v e I=>by
  cases A:Y.C x<;>first|rename_i u;exact h.fresh x u A I|exact k.fresh x v e A,λr o e l=>k.obj r o (h.obj r o e l) l⟩
theorem Up.less{B n A:Nat}{X Y:Cx}{a b:World}(h:Up B X a n Y b)(I:A<=n):Up B X a A Y b:=⟨h.le.less I,h.below,h.fresh,h.obj⟩
theorem Up.keep{B n:Nat}{X:Cx}{w w':World}(hB:Below B w w')(A:dP w w'):Up B X w n X w':=
 ⟨.refl _ _,hB,λa v e h=>(by grind),λr o e _=>A.obj r o e⟩
def Cx.du(X:Cx)(b:Nat)(bi:BI):Cx:={X with M:=λc=>if c=b then ab bi else X.M c}
theorem Cx.tC{X:Cx}{b:Nat}{bi:BI}(n:Nat)(h:X.M b=ae):X.le n (X.du b bi):=
 ⟨.refl _,λc ci _ e=>⟨ci,by simp[Cx.du];grind,aJ _,λ_=>rfl,λ_=>rfl⟩,λ_ _ e=>e⟩
theorem Cx.eL(X:Cx)(b:Nat)(bi:BI):(X.du b bi).M b=ab bi:=by simp[Cx.du]
theorem Cx.ft(X:Cx){b c:Nat}(bi:BI)(h:c≠b):(X.du b bi).M c=X.M c:=by simp[Cx.du,h]
theorem HR.add{B:Nat}{X:Cx}{O:Nat->Addr->Prop}{w w':World}{h:Heap}(I:HR B X O w h){n:Nat}(p:aq h n=ae)(i:X.M n=ae)(d:n<=h.length)
  (g:dP w w') (hw:w.heap.size<=w'.heap.size) (bi:BI) (f:Addr->Prop) (k:bK) (J:∀a,f a->w.heap.size<=a.block/\a.block< w'.heap.size) (q:BR (X.du n bi) w' f n k):
  HR B (X.du n bi) (λb=>if b=n then f else O b) w' (aD h n k):=by
 have j:=λa v e=>wS w a (I.ci a v e)
 refine⟨λb l e=>?_,λb a o=>?_,λb c a o Z=>?_,λb bj e=>?_,I.ci.keep g,bU I.wb hw⟩
 .rw [bG h n b k d]at e;by_cases A:b=n
  .grind
  .simp [az A]at e|-;exact(I.cy b l e).later I.lt (Cx.tC _ i) (Cx.ft X bi A) g (λ_ h=>h)
 .by_cases A:b=n
  .simp [A]at o;obtain⟨h1,h2⟩:=J a o;refine⟨bU I.wb h1,h2,?_⟩;cases m:X.C a with
   |none=>exact m
   |some v=>grind
  .simp [az A]at o;obtain⟨h1,h2,h3⟩:=I.own b a o;exact⟨h1,eU h2 hw,h3⟩
 .by_cases A:b=n<;>by_cases U:c=n
  .omega
  .simp [A]at o;simp[az U]at Z;have:=(J a o).1;have:=(I.own c a Z).2.1;omega
  .simp [U]at Z;simp[az A]at o;have:=(J a Z).1;have:=(I.own b a o).2.1;omega
  .simp [az A]at o;simp[az U]at Z;exact I.fj b c a o Z
 .rw [bL];by_cases A:b=n
  .grind
  .rw [Cx.ft X bi A]at e;have:=I.lt b bj e;split<;>omega
theorem Up.add{B:Nat}{X:Cx}{w w':World}{n:Nat}(A:X.M n=ae)(hB:Below B w w')(I:dP w w')(m:Nat)(bi:BI):Up B X w m (X.du n bi) w':=
 ⟨Cx.tC _ A,hB,λa v e h=>(by simp_all[Cx.du,h]),λr o e _=>I.obj r o e⟩
theorem FR.add{X:Cx}{O:Nat->Addr->Prop}{w w':World}{h:Heap}{n:Nat}(i:X.M n=ae)(A:n<=h.length)(J:dP w w')(bi:BI)(c:Addr->Prop)(k:bK):
  FR X O w h (X.du n bi) (λb=>if b=n then c else O b) w' (aD h n k):=by
 have I:∀b bj,X.M b=ab bj->b≠n:=λb bj e j=>by grind
 refine⟨λb bj e U=>?_,λb bj e _=>?_,λb bj e _ a o=>?_,λb bj _ _ a _ v ev=>⟨J.cell _ _ ev,J.frozen _ _ ev⟩,λb bj _ _ a _ o d _=>J.obj _ _ d,λb bj _ _ g _ f=>J.block g f,λb e=>?_,λb _ e U=>?_⟩
 .rw [bG h n b k A,az (I b bj e)];omega
 .rw [Cx.ft X bi (I b bj e)];exact e
 .grind
 .rw [bG h n b k A]at e;grind
 .rw [bG h n b k A]at U;split at U
  .cases U
  .rename_i Z;rw[Cx.ft X bi Z];exact e
theorem amX{w:World}{a:Addr}{v:Value}{r:Nat}{o:Obj}(e:w.heap[r]? =ab o)(A:o.isCells=af):(w.setCell a v).heap[r]? =ab o:=by
 simp[World.setCell,Array.getElem?_modify];split
 .grind[wO]
 omega
def putCells(w:World)(a:Addr)(vs:List Value)(i:Nat):World:=
 match vs with
 |[]=>w
 |v::r=>putCells (w.setCell (a.add i) v) a r (i+1)
theorem P7(a:Addr):∀(vs:List Value) (w:World) (i:Nat),(putCells w a vs i).heap.size=w.heap.size
 |[],_,_=>rfl
 |v::r,w,i=>by rw[putCells,P7 a r];simp
theorem P5(a:Addr):∀(vs:List Value) (w:World) (i:Nat) (x:Addr),(putCells w a vs i).frozen? x=w.frozen? x
 |[],_,_,_=>rfl
 |v::r,w,i,x=>by rw[putCells,P5 a r];simp
theorem nv(a:Addr){r:Nat}{o:Obj}(A:o.isCells=af):∀(vs:List Value) (w:World) (i:Nat),w.heap[r]? =ab o->(putCells w a vs i).heap[r]? =ab o
 |[],_,_,e=>e
 |v::t,w,i,e=>by exact nv a A t _ _ (amX e A)
theorem nx(a:Addr):∀(vs:List Value) (w:World) (i:Nat) (x:Addr),(∀j,j< vs.length->x≠a.add (i+j))->(putCells w a vs i).cell? x=w.cell? x
 |[],_,_,_,_=>rfl
 |v::r,w,i,x,h=>by
  rw[putCells,nx a r _ _ x (λj A=>by have:=h (j+1) (by simp;omega);grind)]
  exact SB w (a.add i) x v (λe=>h 0 (by simp) e.symm)
theorem yZ(a:Addr)(A:a.spot=ae):∀(vs:List Value) (w:World) (i:Nat),(∀j,j< vs.length->∃u,w.cell? (a.add (i+j))=ab u)->
  ∀j v,vs[j]? =ab v->(putCells w a vs i).cell? (a.add (i+j))=ab v
 |[],_,_,_,_,_,e=>by trivial
 |u::r,w,i,h,0,v,e=>by
  simp at e;subst e;rw[putCells,nx a r _ _ _ (λj _ he=>by have:=Addr.nX A he;omega)]
  obtain⟨x,I⟩:=h 0 (by simp)
  exact World.cell?_setCell_same w (a.add i) _ I
 |u::r,w,i,h,j+1,v,e=>by
  rw[show i+(j+1)=i+1+j from by omega]
  refine yZ a A r _ _ (λk J=>?_) j v (by trivial)
  obtain⟨x,I⟩:=h (k+1) (by simp;omega)
  rw[show i+(k+1)=i+1+k from by omega]at I
  refine⟨x,?_⟩;rw[SB w (a.add i) (a.add (i+1+k)) u (λhe=>by have:=Addr.nX A he;omega)]
  omega
theorem P3{B:Nat}(a:Addr)(hB:B<=a.block):∀(vs:List Value) (w:World) (i:Nat),Below B w (putCells w a vs i)
 |[],_,_=>.refl _ _
 |v::r,w,i=>by
  exact((Below.refl B w).setCell (p:=a.add i) (by simp[Addr.qf,hB]) v).trans (P3 a hB r _ _)
theorem P4(a:Addr)(g:Nat):∀(vs:List Value) (w:World) (i:Nat),(0< vs.length->a.block≠g)->(putCells w a vs i).heap[g]? =w.heap[g]?
 |[],_,_,_=>rfl
 |v::r,w,i,h=>by
  rw[putCells,P4 a g r _ _ (λ_=>h (by simp)),Below.heap_setCell _ _ _ _ (by rw[Addr.qf];grind)]
theorem JH{P:Program}(a:Addr)(b:a.spot=ae):∀(vs:List Value) (w:World) (i:Nat),(∀v∈vs,v.oneCell'=ag)->
  (∀j,j< vs.length->(∃u,w.cell? (a.add (i+j))=ab u)/\w.frozen? (a.add (i+j))=af)->(storeCells a vs i).run P w=.ok () (putCells w a vs i)
 |[],w,i,_,_=>rfl
 |v::r,w,i,h1,h=>by
  obtain⟨⟨u,c⟩,hf⟩:=h 0 (by simp)
  rw[Nat.add_zero]at c hf;have I:(store (a.add i) v).run P w=.ok () (w.setCell (a.add i) v):=by
   unfold store;have J:=h1 v (by simp)
   cases v<;>simp[Sem.run,c,hf,pW]at J|-
  have A:=JH (P:=P) a b r (w.setCell (a.add i) v) (i+1) (λx U=>h1 x (by simp[U])) (λj d=>by
   obtain⟨⟨x,U⟩,Z⟩:=h (j+1) (by simp;omega)
   rw[show i+(j+1)=i+1+j from by omega]at U Z
   refine⟨⟨x,?_⟩,by simp_all⟩
   rw[SB w (a.add i) (a.add (i+1+j)) v (λhe=>by have:=Addr.nX b he;omega)]
   omega)
  simp[storeCells,eZ,putCells,I,iJ,A]
theorem cz.put{w:World}{a b:Addr}{vs A:List Value}(h:cz w.cell? b A)(i:Nat)(I:∀j k,j< A.length->k< vs.length->b.add j≠a.add (i+k)):cz (putCells w a vs i).cell? b A:=λj v e=>by
 have J:=(e7.1 e).1;rw[nx a vs w i _ (λk U=>I j k J U)]
 exact h j v e
theorem fw.put{w:World}{O:Addr->Prop}{b:Addr}{i n:Nat}(h:fw w O b i n)(a:Addr)(I:a.spot=ae)(vs:List Value)(k:Nat)(J:∀j,j< vs.length->∃u,w.cell? (a.add (k+j))=ab u):fw (putCells w a vs k) O b i n:=λj h1 h2=>by
 obtain⟨o,⟨v,e⟩,f⟩:=h j h1 h2;refine⟨o,?_,by simp[P5,f]⟩
 by_cases A:∃m,m< vs.length/\b.add j=a.add (k+m)
 .obtain ⟨m,hm,he⟩:=A;exact⟨_,by rw[he];exact yZ a I vs w k J m vs[m] (by simp)⟩
 .refine ⟨v,?_⟩;rw[nx a vs w k _ (λm hm he=>A ⟨m,hm,he⟩)]
  exact e
theorem BR.put{X:Cx}{w:World}{O:Addr->Prop}{c:Nat}{k:bK}(h:BR X w O c k)(S:CI X.C w)(a:Addr)(L:a.spot=ae)(vs:List Value)(i:Nat)
  (G:∀j,j< vs.length->¬O (a.add (i+j))/\X.C (a.add (i+j))=ae) (M:∀j,j< vs.length->∃u,w.cell? (a.add (i+j))=ab u):BR X (putCells w a vs i) O c k:=by
 have I:∀{b:Addr} {m n:Nat},fw w O b m n->∀j,m<=j->j< n->∀q,q< vs.length->b.add j≠a.add (i+q):=λV j h1 h2 q z e=>
  (G q z).1 (by rw[<-e];exact(V j h1 h2).1)
 cases k with
 |cell v=>
  obtain⟨bi,D,ws,h1,h2,h3,A,J,Z,d,F⟩:=h;exact⟨bi,D,ws,h1,h2,h3,A,J,Z,d.put i (λj q N z=>I F j (bX _) N q z),F.put a L vs i M⟩
 |arr g s ro l=>
  obtain⟨bi,h1,h2,h3,A,J,Z⟩:=h;refine⟨bi,h1,h2,h3,A,J,Z.imp id ?_⟩;rintro⟨e,D,U,d,F,H,p,y,x,Q⟩;refine⟨e,D,U,d,F,H,p,y.put i (λj q N z he=>?_),x,Q.put a L vs i M⟩
  have K:U.flatten.length=l.length*s:=by rw[bc.len p,(cf.1 H).len]
  by_cases hr:j< ro*s
  .have hx:X.C (D.add j)=ab U.flatten[j]:=x j _ (by grind)
   grind
  .have:l.length*s<=bi.cap*s:=dM _ A.1;grind
 |bN g s l=>
  obtain⟨bi,h1,h2,h3,A,J,Z⟩:=h;refine⟨bi,h1,h2,h3,A,J,Z.imp id ?_⟩;rintro⟨e,D,U,d,F,H,p,y,x⟩;have K:U.flatten.length=l.length*s:=by rw[bc.len p,(dU.1 H).len]
  have:l.length*s<=bi.cap*s:=dM _ A;exact⟨e,D,U,d,F,H,p,y.put i (λj q N z=>I x j (bX _) (by omega) q z),x.put a L vs i M⟩
 |mp es s c=>
  obtain⟨bi,r,ms,ck,h1,h2,h3,A,J,Z,d⟩:=h;exact⟨bi,r,ms,ck,h1,h2,h3,A,nv a rfl vs w i J,Z,d⟩
 |jU T e s=>
  obtain⟨bi,r,h1,h2,h3,A,J⟩:=h;refine⟨bi,r,h1,h2,h3,A,J.kept (λg W _=>P4 a g vs w i λY e=>?_) (λ_ o=>o)⟩
  exact(G 0 Y).1 (W _ (by simp[Addr.qf,e]))
 |lp f t ps bO body=>
  obtain⟨bi,l,r,h1,h2,h3,A,J,Z,d⟩:=h;exact⟨bi,l,r,h1,h2,h3,A,nv a rfl vs w i J,Z,d⟩
 |it v a' s l=>
  obtain⟨bi,r,m,h1,h2,h3,A,J,Z,d⟩:=h;exact⟨bi,r,m,h1,h2,h3,A,nv a rfl vs w i J,Z,d⟩
theorem CI.put{C:IV}{w:World}(h:CI C w)(a:Addr)(vs:List Value)(i:Nat)(A:∀j,j< vs.length->C (a.add (i+j))=ae):CI C (putCells w a vs i):=⟨λx v e=>by
 rw[nx a vs w i x (λj I he=>by grind)]
 exact h x v e,h.gl⟩
theorem HR.put{B:Nat}{X Y:Cx}{O:Nat->Addr->Prop}{w:World}{h:Heap}(A:HR B X O w h){b:Nat}(f:b< h.length)(U:X.le h.length Y)(g:Y.C=X.C)(l:∀c,c≠b->Y.M c=X.M c)(Z:Y.lt h.length)
  (a:Addr) (m:a.spot=ae) (vs:List Value) (i:Nat) (d:∀j,j< vs.length->O b (a.add (i+j))) (n:∀j,j< vs.length->∃u,w.cell? (a.add (i+j))=ab u) (k:bK) (p:BR Y (putCells w a vs i) (O b) b k):
  HR B Y O (putCells w a vs i) (aD h b k):=by
 refine⟨λc q e=>?_,λc x o=>?_,A.fj,λc bi e=>?_,?_,?_⟩
 .rw [bG h b c k (cX f)]at e;by_cases I:c=b
  .grind
  .simp [az I]at e;have h1:=(A.cy c q e).put A.ci a m vs i (λj J=>⟨λo=>I (A.fj c b _ o (d j J)),(A.own b _ (d j J)).2.2⟩) n
   exact h1.later A.lt U (l c I) (.refl _) (λ_ h=>h)
 .rw [P7,g];exact A.own c x o
 .rw [bL,aK f];exact Z c bi e
 .rw [g];exact A.ci.put a vs i (λj J=>(A.own b _ (d j J)).2.2)
 simp[P7,A.wb]
theorem FR.put{B:Nat}{X Y:Cx}{O:Nat->Addr->Prop}{w:World}{h:Heap}(d:HR B X O w h){b:Nat}{l:bK}(I:aq h b=ab l)(s:∀c,c≠b->Y.M c=X.M c)
  (a:Addr) (vs:List Value) (i:Nat) (f:∀j,j< vs.length->O b (a.add (i+j))) (k:bK):FR X O w h Y O (putCells w a vs i) (aD h b k):=by
 have J:∀c bj,X.M c=ab bj->aq h c=ae->c≠b:=λc bj _ A t=>by grind
 have U:∀c bj,X.M c=ab bj->aq h c=ae->∀x,O c x->∀j,j< vs.length->x≠a.add (i+j):=λc bj e A x o j m he=>by
  subst he;exact J c bj e A (d.fj c b _ o (f j m))
 refine⟨λc bj e A=>?_,λc bj e A=>?_,λ_ _ _ _ _ o=>o,λc bj e A x o v ev=>⟨?_,?_⟩,λc bj e A x o u n p=>nv a p vs w i n,λc bj e A g q _=>P4 a g vs w i λr Z=>?_,λc e=>?_,λc _ e A=>?_⟩
 .rw [bG h b c k (cX (dI I)),az (J c bj e A)];omega
 .grind
 .rw [nx a vs w i x (U c bj e A x o)];omega
 .rw [P5]
 .exact J c bj e A (d.fj c b _ (q (a.add (i+0)) (by simp[Addr.qf,Z])) (f 0 r))
 .rw [bG h b c k (cX (dI I))]at e;grind
 .rw [bG h b c k (cX (dI I))]at A;grind
theorem HR.size{B:Nat}{X:Cx}{O:Nat->Addr->Prop}{w:World}{h:Heap}(_:HR B X O w h){w':World}(A:Below B w w'):w.heap.size<=w'.heap.size:=A.size
theorem rQ:∀{l:List V} {ds:List D},fx l=ab ds->l=ds.map V.im
 |[],ds,h=>by grind[fx]
 |v::l,ds,h=>by
  cases v<;>simp[fx]at h<;>try contradiction
  cases A:fx l with
  |none=>simp_all[fx,A]
  |some es=>
   have:=rQ A
   simp[fx]at A;rw[A]at h;grind
theorem ug{X:Cx}{m:Bool}{ds:List D}{A:List (List Value)}:bF X (ds.map V.im) m A↔bw X.C ds m A:=by
 grind[dU,cf,aZ.Hs,an]
theorem K7{X:Cx}{w:Nat}{l:List V}{m:Bool}{ws:List Value}(h:an X (.agg w l) m ws):an X (ff w l) m ws:=by
 unfold ff;cases A:fx l<;>first|have:=rQ A;subst this;cases m<;>simp only[an,aN]at h|-<;>simpa only[ug]using h|exact h
theorem aeM{X:Cx}{l:List V}{ws:List Value}(h:an X (.aG l) ag ws):an X (lK l) ag ws:=by
 unfold lK;cases A:fx l with
 |none=>exact h
 |some ds=>
  have:=rQ A;grind[an,aN,ug]
theorem K6{X:Cx}{w:Nat}{l:List D}{m:Bool}{ws:List Value}:an X (.im (.agg w l)) m ws↔an X (.agg w (l.map V.im)) m ws:=by
 cases m<;>simp[an,aN,ug]
theorem Pg(w:Nat)(l:List V):(ff w l).wd=w:=by unfold ff;cases fx l<;>rfl
theorem an.wd{X:Cx}:∀{v:V} {ws:List Value},an X v af ws->ws.length=v.wd
 |.undef,_,h=>by trivial
 |.im d,ws,h=>by
  simp[an]at h
  cases d<;>simp[aN,V.wd,D.wd]at h|-<;>try contradiction
  all_goals grind
 |.agg w l,ws,h=>by obtain⟨_,_,_,h⟩:=h;exact h
 |.aG _,_,h=>by trivial
 |.own ..,_,h=>by obtain⟨_,h,_⟩:=h;subst h;rfl
 |.full _,_,h=>by obtain⟨_,h,_⟩:=h;subst h;rfl
 |.ptr ..,_,h=>by obtain⟨_,h,_⟩:=h;subst h;rfl
 |.fn ..,_,h=>by obtain⟨_,_,_,_,h,_⟩:=h;subst h;rfl
 |.ifc ..,_,h=>by obtain⟨_,h,_⟩:=h;subst h;rfl
 |.mp _,_,h=>by obtain⟨_,_,h,_⟩:=h;subst h;rfl
 |.gT _,_,h=>by obtain⟨_,h,_⟩:=h;subst h;rfl
def V.isAgg:V->Bool
 |.im (.agg _ _)|.agg _ _=>ag
 |_=>af
def V.plain:V->Bool
 |.undef|.aG _|.im (.aG _)=>af
 |_=>ag
theorem xi.one{C:IV}{l:List D}{v:Value}(h:xi C l v):v.oneCell'=ag:=by obtain⟨a,n,e,_⟩:=h;subst e;rfl
theorem an.one{X:Cx}{v:V}(hp:v.plain=ag)(I:v.isAgg=af){m:Bool}{ws:List Value}(h:an X v m ws):∃x,ws=[x]/\x.oneCell'=ag/\∀A,an X v A [x]:=by
 cases v with
 |undef=>trivial
 |im d=>
  cases d<;>simp only[an,aN]at h<;>simp[V.plain]at hp I<;>try contradiction
  all_goals first
   |(subst h;refine⟨_,rfl,rfl,λA=>?_⟩;rfl)
   |(have e:=h.1;subst e;refine⟨_,rfl,rfl,λA=>?_⟩;trivial)
   |(obtain⟨b,e,r⟩:=h;subst e;refine⟨_,rfl,rfl,λA=>?_⟩;simp only[an,aN];grind)
   |(obtain⟨b,c,e,r⟩:=h;subst e;refine⟨_,rfl,rfl,λA=>?_⟩;simp[an,aN];grind)
   |(obtain⟨b,c,d,e,r⟩:=h;subst e;refine⟨_,rfl,rfl,λA=>?_⟩;exact⟨b,c,d,rfl,r⟩)
 |agg w l=>trivial
 |aG l=>trivial
 |own b g off len aR=>obtain⟨x,e,r⟩:=h;exact⟨x,e,r.one,λA=>by simp[an];grind⟩
 |full l=>obtain⟨x,e,r⟩:=h;exact⟨x,e,r.one,λA=>by simp[an];grind⟩
 |ptr b g p=>obtain⟨x,e,r⟩:=h;exact⟨x,e,r.one,λA=>by simp[an];grind⟩
 |fn f a c=>obtain⟨fs,cs,J,U,e,r⟩:=h;subst e;exact⟨_,rfl,rfl,λA=>by simp only[an];grind⟩
 |ifc t v=>obtain⟨x,e,r⟩:=h;subst e;exact⟨_,rfl,rfl,λA=>by simp[an];grind⟩
 |mp b=>obtain⟨r,bi,e,h⟩:=h;subst e;exact⟨_,rfl,rfl,λA=>by simp only[an];grind⟩
 |gT i=>obtain⟨l,e,r⟩:=h;subst e;exact⟨_,rfl,rfl,λA=>by simp only[an];grind⟩
theorem an.xp{X:Cx}{v:V}(A:v.isAgg=ag){ws:List Value}:an X v ag ws↔∃cs:Array Value,ws=[.agg cs]/\an X v af cs.toList:=by
 have key:∀w l,an X (.agg w l) ag ws↔∃cs:Array Value,ws=[.agg cs]/\an X (.agg w l) af cs.toList:=λw l=>by
  simp only[an]
  simp
 cases v with
 |im d=>
  cases d<;>simp[V.isAgg]at A<;>try contradiction
  grind[K6]
 |agg w l=>exact key w l
 |_=>trivial
theorem am4{x:Value}(h:x.oneCell'=ag):x.cells=#[x]:=by cases x<;>first|rfl|trivial
theorem an.cells{X:Cx}{v:V}(hp:v.plain=ag){x:Value}(h:an X v ag [x]):an X v af x.cells.toList:=by
 cases A:v.isAgg with
 |true=>
  obtain⟨cs,e,r⟩:=(an.xp A).1 h;cases e;exact r
 |false=>
  obtain⟨y,e,I,r⟩:=h.one hp A;simp_all[am4,I,r,af]
theorem aqF(l:List V)(k:Nat):iw l k=((l.take k).map V.wd).sum:=by
 induction l generalizing k with
 |nil=>simp[iw]
 |cons a l ih=>cases k with
  |zero=>rfl
  |succ k=>show a.wd+iw l k=_;simp[ih]
theorem acf(l:List D)(k:Nat):Ea l k=iw (l.map V.im) k:=by
 induction l generalizing k with
 |nil=>rfl
 |cons a l ih=>cases k<;>first|rename_i k;show a.wd+Ea l k=(V.im a).wd+iw (l.map V.im) k;rw[ih];rfl|rfl
theorem aa7{X:Cx}:∀{l:List V} {aV:List (List Value)},bF X l af aV->aV.flatten.length=(l.map V.wd).sum
 |[],_,h=>by grind[bF]
 |v::l,_,h=>by
  obtain⟨ws,r,e,h1,h2⟩:=h;subst e;simp[h1.wd,aa7 h2]
theorem an.split{X:Cx}{w:Nat}{l:List V}{ws:List Value}(h:an X (.agg w l) af ws){k o:Nat}(b:iw l k=o){c:V}(d:l[k]? =ab c):
  ∃pre cs post,ws=pre++(cs++post)/\pre.length=o/\an X c af cs/\∀U A,an X U af A->A.length=cs.length->an X (.agg w (l.set k U)) af (pre++(A++post)):=by
 obtain⟨aV,e,h2,h3⟩:=h;have I:=dU.1 h2;obtain⟨cs,f,Z⟩:=I.get d;have g:=(e7.1 f).1;have J:aV=aV.take k++(cs::aV.drop (k+1)):=by
  have:aV.drop k=cs::aV.drop (k+1):=by
   rw[List.drop_eq_getElem_cons g];grind
  rw[<-this,List.take_append_drop]
 refine⟨(aV.take k).flatten,cs,(aV.drop (k+1)).flatten,?_,?_,Z,λU A a i=>?_⟩
 .grind
 .have:=aa7 (X:=X) (l:=l.take k) (aV:=aV.take k) (dU.2 (I.take k));rw[this,<-b,aqF]
 .refine ⟨aV.set k A,?_,dU.2 (I.set a),?_⟩
  all_goals grind
def Part(X:Cx)(v:V)(ws:List Value)(o:Nat)(c:V)(cs:List Value):Prop:=
 ∃pre post,ws=pre++(cs++post)/\pre.length=o/\an X c af cs
theorem Cb{X:Cx}{v c:V}{k o:Nat}(h:v.dw k o=ab c){ws:List Value}(J:an X v af ws):∃cs,Part X v ws o c cs:=by
 have key:∀w l,an X (.agg w l) af ws->iw l k=o->l[k]? =ab c->∃cs,Part X v ws o c cs:=λw l J U Z=>by
  obtain⟨pre,cs,post,h1,h2,h3,_⟩:=J.split U Z;exact⟨cs,pre,post,h1,h2,h3⟩
 unfold V.dw at h;split at h
 .rename_i w l;cases A:ak (Ea l k) o<;>rw[A]at h<;>simp only[ax,au]at h
  .cases h
  .have I:=bR A;rw[acf]at I;exact key w (l.map V.im) (K6.1 J) I (by simpa using h)
 .rename_i w l;cases A:ak (iw l k) o<;>rw[A]at h<;>simp only[ax,au]at h
  .cases h
  .rw [b8]at h;exact key w l J (bR A) h
 trivial
theorem HA{X:Cx}:∀{p:List (Nat×Nat)} {v c:V},v.eQ p=ab c->∀{ws:List Value},an X v af ws->∃cs,Part X v ws (iR p) c cs
 |[],v,c,h,ws,J=>by
  cases h;exact⟨ws,[],[],by simp,rfl,J⟩
 |s::p,v,c,h,ws,J=>by
  have h':(V.dw v s.1 s.2).bind (λv=>V.eQ v p)=ab c:=h
  cases U:V.dw v s.1 s.2 with
  |none=>grind
  |some d=>
   rw[U]at h';obtain⟨ds,pre,post,Z,a,b⟩:=Cb U J;obtain⟨cs,I,A,e,f,g⟩:=HA (p:=p) h' b;refine⟨cs,pre++I,A++post,?_,?_,g⟩
   all_goals simp[Z,e,iR,a,f]
theorem XZ{X:Cx}{v:V}{l:List V}(h:v.kids=ab l){ws:List Value}(A:an X v af ws):an X (.agg v.wd l) af ws:=by
 unfold V.kids at h;split at h
 .cases h;rw[mC];exact K6.1 A
 .cases h;exact A
 trivial
theorem Iu{X:Cx}{x:V}{xs:List Value}(a:an X x af xs):∀{p:List (Nat×Nat)} {v U:V},V.put x p v=ab U->∀{ws:List Value},an X v af ws->
  ∃pre I post,ws=pre++(I++post)/\pre.length=iR p/\I.length=xs.length/\an X U af (pre++(xs++post))/\U.wd=v.wd
 |[],v,U,h,ws,b=>by
  have h':(bif ak x.wd v.wd then ab x else ae)=ab U:=h;cases Z:ak x.wd v.wd<;>rw[Z]at h'<;>simp only[ax,au]at h'
  .cases h'
  .cases h';have e:=bR Z;exact⟨[],ws,[],by simp,rfl,by rw[b.wd,a.wd,e],by simpa using a,e⟩
 |s::p,v,U,h,ws,b=>by
  have h':(v.kids.bind λl=>bif ak (iw l s.1) s.2 then(bC l s.1).bind λc=>(V.put x p c).map λd=>ff v.wd (bB l s.1 d)else ae)=ab U:=h
  cases f:v.kids with
  |none=>grind
  |some l=>
   rw[f]at h';simp at h';cases Z:ak (iw l s.1) s.2<;>rw[Z]at h'<;>simp only[ax,au]at h'
   .cases h'
   .cases g:l[s.1]? with
    |none=>grind
    |some c=>
     rw[g]at h';simp at h';cases hp:V.put x p c with
     |none=>grind
     |some d=>
      rw[hp]at h';simp at h';subst h';obtain⟨pre,cs,post,k,m,n,f1⟩:=(XZ f b).split (bR Z) g;obtain⟨J,I,A,i,o,j,q,hw⟩:=Iu a hp n;refine⟨pre++J,I,A++post,?_,?_,j,?_,Pg _ _⟩
      .simp[k,i]
      .simp[iR,m,o]
      .have:=f1 d (J++(xs++A)) q (by simp[i,j])
       have:=K7 this;simpa using this
def X0:Cx:=⟨λ_=>ae,λ_=>ae,λ_=>ae⟩
theorem EZ(X:Cx):X0.le 0 X:=⟨λ_ _ h=>by trivial,λ_ _ h=>by omega,λ_ _ h=>by trivial⟩
theorem AB:X0.lt 0:=λ_ _ h=>by trivial
def dE(P:Program)(t:Nat):TK->Prop
 |.bool=>P.underlying t=ab .bool
 |.int k=>P.underlying t=ab (.int k)
 |.str=>P.underlying t=ab .string
 |.ptr=>∃e,P.underlying t=ab (.pointer e)
 |.ar e=>P.underlying t=ab (.slice e)
 |.arr n e=>P.underlying t=ab (.array n e)
 |.st fs=>∃A:Array Field,P.underlying t=some (.struct A)∧A.toList.map (λf=>(f.offset,P.cellsOf f.type,f.type))=fs∧(∀f∈A.toList,f.name≠ "_" ∧∃i,P.info? f.type=some i)∧P.stoodInHeld t=false
 |.fn=>∃a b c,P.underlying t=ab (.func a b c)
 |.ifc nm=>∃ms,P.underlying t=ab (.interface ms)/\nm= !ms.isEmpty
 |.map k e=>P.underlying t=ab (.map k e)
 |.ZH=>∃d,P.underlying t=ab d/\(∀fs,d≠.struct fs)/\(∀n e,d≠.array n e)/\∀ms,d≠.interface ms
structure hZ(P:Program)(t:Nat)(ti:TI):Prop where
 info:∃i,P.info? t=ab i/\i.size=ti.size/\i.bytes=ti.bytes/\∀x,ti.zero=x->x.plain=ag->∃z,i.zero=ab z/\an X0 x ag [z]
 kind:dE P t ti.k
theorem run_sizeOf{P:Program}{t:Nat}{ti:TI}(h:hZ P t ti)(w:World):(sizeOf t).run P w=.ok ti.size w:=by
 obtain⟨i,h1,h2,_⟩:=h.info;simp[sizeOf,typeInfo,h1,h2]
theorem JG{P:Program}{t:Nat}{ti:TI}(h:hZ P t ti)(w:World):(isAgg t).run P w=.ok (gL.jE ti.k) w:=by
 have A:=h.kind;cases I:ti.k with
 |ptr=>rw[I]at A;obtain⟨e,A⟩:=A;simp[isAgg,run_underlying A,gL.jE]
 |st fs=>rw[I]at A;obtain⟨e,A,_⟩:=A;simp[isAgg,run_underlying A,gL.jE]
 |fn=>rw[I]at A;obtain⟨_,_,_,A⟩:=A;simp[isAgg,run_underlying A,gL.jE]
 |ifc nm=>rw[I]at A;obtain⟨_,A,_⟩:=A;simp[isAgg,run_underlying A,gL.jE]
 |ZH=>
  rw[I]at A;obtain⟨d,A,h1,h2,_⟩:=A;cases d<;>simp[isAgg,run_underlying A,gL.jE]
  all_goals grind
 |_=>simp_all[dE,isAgg,run_underlying,A,gL.jE]
theorem Zu{k:TK}{v:V}(h:gL k v=ag):v.isAgg=gL.jE k/\v.plain=ag:=by
 cases v with
 |im d=>cases d<;>simp_all[gL,gL.HX,V.isAgg,V.plain]
 |_=>grind[gL,V.isAgg,V.plain]
theorem kO{ti:TI}{v:V}(h:cq ti v=ag):v.wd=ti.size/\v.isAgg=gL.jE ti.k/\v.plain=ag:=by
 simp only[cq,aM]at h;exact⟨bR h.1,(Zu h.2).1,(Zu h.2).2⟩
theorem arV{P:Program}{w:World}{a:Addr}{v:Value}(h:w.cell? a=ab v)(m:Mode):(load a m).run P w=.ok v w:=by simp_all
theorem Q4{P:Program}{t:Nat}{ti:TI}(I:hZ P t ti){X:Cx}{v:V}(Z:cq ti v=ag){a:Addr}{ws:List Value}{w:World}(h:an X v af ws)(U:cz w.cell? a ws):
  ∃x,(loadVar t a).run P w=.ok x w/\an X v ag [x]:=by
 obtain⟨h1,h2,h3⟩:=kO Z;have b:=h.wd;cases A:v.isAgg with
 |true=>
  refine⟨.agg ws.toArray,?_,(an.xp A).2 ⟨ws.toArray,rfl,by omega⟩⟩
  have J:=run_loadCells_list (P:=P) (w:=w) a ws (λj v e=>U j v e)
  simp[loadVar,eZ,JG I,<-h2,A,iJ,if_true,run_sizeOf I,<-h1,<-b];simp[J]
 |false=>
  obtain⟨x,e,c,r⟩:=h.one h3 A;subst e;have:=U 0 x rfl;simp[loadVar,eZ,JG I,A];simp_all
mutual
theorem aN.lQ{C:IV}:∀{d:D} {ws:List Value},aN C d af ws->∀x∈ws,x.oneCell'=ag
 |.agg w l,_,h=>by
  simp only[aN]at h
  obtain⟨A,e,h2,_⟩:=h
  subst e
  exact bw.lQ h2
 |.aG _,_,h=>by simp[aN]at h
 |.bool _,ws,h|.int _ _,ws,h|.str _,ws,h|.nil,ws,h|.ref _,ws,h|.ar _,ws,h|.fn _,ws,h|.eR,ws,h|.ifc _ _,ws,h|.dn,ws,h|.g8,ws,h=>by
  simp only[aN]at h
  first
   |(subst h;simp[pW];done)
   |(obtain⟨h,_⟩:=h;subst h;simp[pW];done)
   |(obtain⟨_,h,_⟩:=h;subst h;simp[pW];done)
   |(obtain⟨_,_,h,_⟩:=h;subst h;simp[pW];done)
   |(obtain⟨_,_,_,h,_⟩:=h;subst h;simp[pW];done)
theorem bw.lQ{C:IV}:∀{l:List D} {A:List (List Value)},bw C l af A->∀x∈A.flatten,x.oneCell'=ag
 |[],_,h=>by simp only[bw]at h;subst h;simp
 |d::l,_,h=>by
  simp only[bw]at h
  obtain⟨ws,r,e,h1,h2⟩:=h
  subst e
  intro x I
  rw[nR,cB]at I
  exact I.elim (aN.lQ h1 x) (bw.lQ h2 x)
end
mutual
theorem an.lQ{X:Cx}:∀{v:V} {ws:List Value},an X v af ws->∀x∈ws,x.oneCell'=ag
 |.agg w l,_,h=>by
  simp only[an]at h
  obtain⟨A,e,h2,_⟩:=h
  subst e
  exact bF.lQ h2
 |.im d,_,h=>by simp only[an]at h;exact h.lQ
 |.undef,_,h=>by simp[an]at h
 |.aG _,_,h=>by simp[an]at h
 |.own ..,ws,h=>by simp only[an]at h;obtain⟨x,e,r⟩:=h;subst e;simp[r.one]
 |.full ..,ws,h=>by simp only[an]at h;obtain⟨x,e,r⟩:=h;subst e;simp[r.one]
 |.ptr ..,ws,h=>by simp only[an]at h;obtain⟨x,e,r⟩:=h;subst e;simp[r.one]
 |.fn ..,ws,h=>by simp only[an]at h;obtain⟨_,_,_,_,e,_⟩:=h;subst e;simp[pW]
 |.ifc ..,ws,h=>by simp only[an]at h;obtain⟨_,e,_⟩:=h;subst e;simp[pW]
 |.mp _,ws,h=>by simp only[an]at h;obtain⟨_,_,e,_⟩:=h;subst e;simp[pW]
 |.gT _,ws,h=>by simp only[an]at h;obtain⟨_,e,_⟩:=h;subst e;simp[pW]
theorem bF.lQ{X:Cx}:∀{l:List V} {A:List (List Value)},bF X l af A->∀x∈A.flatten,x.oneCell'=ag
 |[],_,h=>by simp only[bF]at h;subst h;simp
 |d::l,_,h=>by
  simp only[bF]at h
  obtain⟨ws,r,e,h1,h2⟩:=h
  subst e
  intro x I
  rw[nR,cB]at I
  exact I.elim (an.lQ h1 x) (bF.lQ h2 x)
end
theorem apo{P:Program}{t:Nat}{ti:TI}(J:hZ P t ti){X:Cx}{v:V}(U:cq ti v=ag){x:Value}(h:an X v ag [x]){a:Addr}(Z:a.spot=ae){w:World}
  (c:∀j,j< ti.size->(∃u,w.cell? (a.add j)=ab u)/\w.frozen? (a.add j)=af):
  (storeVar t a x).run P w=.ok () (putCells w a x.cells.toList 0):=by
 obtain⟨h1,_,h3⟩:=kO U;have A:=h.cells h3;have b:x.cells.size=ti.size:=by rw[<-h1,<-A.wd];simp
 have I:=JH (P:=P) a Z x.cells.toList w 0 (A.lQ) (λj d=>by grind)
 simp[storeVar,eZ,run_sizeOf J,b];simp[I]
theorem b9{a b:Nat}(h:ak a b=ag):a=b:=bR h
theorem nY{a b:Nat}(h:bp a b=ag):a<=b:=Nat.le_of_ble_eq_true h
theorem aQ{α:Type}{c:Bool}{x:Option α}{y:α}(h:(bif c then x else ae)=ab y):c=ag/\x=ab y:=by
 cases c<;>simp_all
theorem AH(a:Addr)(A:a.spot=ae){pre cs post:List Value}{C:IV}(h:cz C a (pre++(cs++post))):cz C (a.add pre.length) cs:=λj v e=>by
 rw[Addr.add_add a _ j A];exact h _ v (by grind)
theorem Yj{B:Nat}{X:Cx}{O:Nat->Addr->Prop}{w:World}{h:Heap}(D:HR B X O w h){b g:Nat}{p:List (Nat×Nat)}{v:V}(U:eJ h b g p=ab v){x:Value}(hp:rM X b g p x):
  ∃a ws,x=.pointer (ab a)/\a.spot=ae/\an X v af ws/\cz w.cell? a ws:=by
 obtain⟨_,bi,F,Y,G⟩:=hp;unfold eJ at U;split at U
 .rename_i c k;obtain⟨S,I⟩:=aQ U;obtain⟨bj,H,ws,h1,h2,h3,K,y,Z,z,A⟩:=D.cy b _ k;rw[F]at h1;cases h1;obtain⟨C,J,_,m⟩:=G (by omega)
  rw[K]at J;cases J;obtain⟨cs,pre,post,e,l,r⟩:=HA I Z;refine⟨_,cs,m,Addr.h8 _ _ y,r,?_⟩;rw[<-l];exact AH H y (by rw[<-e];omega)
 .rename_i T s ro l k;split at U
  .rename_i i o q;obtain⟨n,I⟩:=aQ U;rw[aM]at n;obtain⟨bj,h1,h2,h3,K,y,Z⟩:=D.cy b _ k;rw[F]at h1;cases h1;obtain⟨C,J,W,m⟩:=G (by simp_all)
   rw[b8]at I;cases hi:l[i]? with
   |none=>grind
   |some d=>
    rw[hi]at I;have L:i< l.length:=(e7.1 hi).1;rcases Z with Z|⟨es,H,M,z,A,N,f,j,_,_⟩
    .omega
    .rw [z]at J;cases J;obtain⟨ws,Q,t⟩:=(cf.1 N).get hi;have u:=j.row A f Q;obtain⟨cs,pre,post,e,lp,r⟩:=HA (X:=X) (v:=.im d) I (ws:=ws) (by trivial)
     refine⟨_,cs,m,Addr.h8 _ _ A,r,?_⟩;have:iR ((i,o)::q)=i*s+iR q:=by simp[iR,b9 n.2]
     rw[this,<-Addr.add_add C _ _ A,<-lp];exact AH _ (Addr.h8 _ _ A) (by rw[<-e];omega)
  trivial
 .rename_i T s l k;split at U
  .rename_i i o q;obtain⟨n,I⟩:=aQ U;rw[aM]at n;obtain⟨bj,h1,h2,h3,K,y,Z⟩:=D.cy b _ k;rw[F]at h1;cases h1;obtain⟨C,J,W,m⟩:=G (by simp_all)
   rw[b8]at I;cases hi:l[i]? with
   |none=>grind
   |some d=>
    rw[hi]at I;have L:i< l.length:=(e7.1 hi).1;rcases Z with Z|⟨es,H,M,z,A,N,f,j,_⟩
    .omega
    .rw [z]at J;cases J;obtain⟨ws,Q,t⟩:=(dU.1 N).get hi;have u:=j.row A f Q;obtain⟨cs,pre,post,e,lp,r⟩:=HA (X:=X) I (ws:=ws) t;refine⟨_,cs,m,Addr.h8 _ _ A,r,?_⟩;have:iR ((i,o)::q)=i*s+iR q:=by simp[iR,b9 n.2]
     rw[this,<-Addr.add_add C _ _ A,<-lp];exact AH _ (Addr.h8 _ _ A) (by rw[<-e];omega)
  trivial
 trivial
def qe(X:Cx)(w:World)(h:Heap)(C:IV)(S:Nat->Prop):Prop:=
 X.C.le C/\∀b bi A,S b->X.M b=ab bi->bi.base=ab A->
  (∀g s ro l,aq h b=ab (.arr g s ro l)->∀j v,j< l.length*s->w.cell? (A.add j)=ab v->C (A.add j)=ab v)/\
  (∀g s l,aq h b=ab (.bN g s l)->(∀c∈V.de l,S c)/\∀j v,j< l.length*s->w.cell? (A.add j)=ab v->C (A.add j)=ab v)
theorem JX{X:Cx}{b g off len:Nat}{aR:Bool}{x:Value}(h:nW X b g off len aR x){bi:BI}(J:X.M b=ab bi)(U:g=bi.g){C:IV}{l:List D}(Z:l.length=len){a0:Addr}{aV:List (List Value)}
  (A:bi.cap≠0->bi.base=ab a0/\a0.spot=ae/\bw C l af aV/\bc bi.s aV/\cz C (a0.add (off*bi.s)) aV.flatten) {m:Bool}:aN C (.ar l) m [x]:=by
 obtain⟨_,bj,e,_,r⟩:=h;rw[J]at e;cases e;obtain⟨a,cap,c,d,f,n,_,I⟩:=r U;refine⟨a,len,cap,by rw[c],Z.symm,d,f,?_⟩
 rcases I with I|⟨o,I,p,i⟩
 .omega
 .by_cases q:len=0
  .omega
  .obtain ⟨h1,h2,h3,j,k⟩:=A (by omega)
   rw[h1]at I;cases I;exact .inr ⟨_,aV,bi.s,i,Addr.h8 _ _ h2,h3,j,k⟩
theorem xG{α:Type}(l:List α)(off len:Nat)(h:off+len<=l.length):eP l off len=(l.drop off).take len:=by
 unfold eP;cases A:(ak off 0&&ak len (aA l))with
 |false=>rfl
 |true=>
  simp_all
theorem oW{α:Type}{g A off len:Nat}{l:List α}(h:dc g A off len l=ag):g=A/\off+len<=l.length:=by
 simp[dc,bn]at h;simp_all
mutual
theorem Mf{X:Cx}{C:IV}(U:X.C.le C){o:Nat->Nat->Nat->Nat->Option (List D)}{S:Nat->Prop}
  (Z:∀b g off len l,S b->o b g off len=ab l->∀aR x m,nW X b g off len aR x->aN C (.ar l) m [x]):
  ∀(v:V) (d:D) (m:Bool) (ws:List Value),V.cm o v=ab d->(∀b∈v.eB,S b)->an X v m ws->aN C d m ws
 |.im d,_,m,ws,h,_,r=>by simp only[V.cm]at h;cases h;simp only[an]at r;exact r.mono U
 |.full l,d,m,ws,h,_,r=>by
  simp only[V.cm]at h;cases h
  simp only[an]at r
  obtain⟨x,e,a,n,i,j,k,p⟩:=r.imp λ_ h=>h
  subst e
  simp only[aN]
  refine⟨a,n,n,by rw[i],j,aJ _,k,p.imp id ?_⟩
  rintro⟨q,A,s,h1,h2,h3,c,u⟩
  exact⟨q,A,s,h1,h2,h3.mono U,c,u.mono U⟩
 |.own b g off len aR,d,m,ws,h,J,r=>by
  simp only[V.cm]at h
  cases I:o b g off len with
  |none=>rw[I]at h;cases h
  |some l=>
   rw[I]at h;simp only[hY,fH]at h;subst h
   simp only[an]at r
   obtain⟨x,e,r⟩:=r
   subst e
   exact Z b g off len l (J b (by simp[V.eB])) I aR x m r
 |.agg w l,d,m,ws,h,J,r=>by
  simp only[V.cm]at h
  cases I:V.cP o l with
  |none=>rw[I]at h;cases h
  |some ds=>
   rw[I]at h;simp only[hY,fH]at h;subst h
   have:=λA=>Be U Z l ds af A I (by simpa[V.eB]using J)
   cases m<;>simp only[an,aN]at r|-
   .obtain ⟨A,e,h2,h3⟩:=r;exact⟨A,e,this A h2,h3⟩
   .obtain ⟨cs,A,e,h1,h2,h3⟩:=r;exact⟨cs,A,e,h1,this A h2,h3⟩
 |.aG l,d,m,ws,h,J,r=>by
  simp only[V.cm]at h
  cases I:V.cP o l with
  |none=>rw[I]at h;cases h
  |some ds=>
   rw[I]at h;simp only[hY,fH]at h;subst h
   have:=λA=>Be U Z l ds ag A I (by simpa[V.eB]using J)
   cases m<;>simp only[an,aN]at r|-
   .obtain ⟨y,A,e,h2,h3⟩:=r;exact⟨y,A,e,this A h2,h3⟩
 |.fn f [] [],d,m,ws,h,J,r=>by
  simp only[V.cm]at h;cases h
  simp only[an,bF]at r
  obtain⟨fs,cs,F,G,e,h1,h2,h3,c⟩:=r
  subst h1;subst h3
  simp only[aN]
  have:fs=#[]:=by simpa using h2
  have:cs=#[]:=by simpa using c
  simp_all
 |.fn f (_::_) _,d,m,ws,h,_,_=>by simp[V.cm]at h
 |.fn f [] (_::_),d,m,ws,h,_,_=>by simp[V.cm]at h
 |.ifc t v,d,m,ws,h,J,r=>by
  simp only[V.cm]at h
  cases I:V.cm o v with
  |none=>rw[I]at h;cases h
  |some z=>
   rw[I]at h;simp only[hY,fH]at h;subst h
   simp only[an]at r
   obtain⟨x,e,r⟩:=r
   simp only[aN]
   exact⟨x,e,Mf U Z v z ag [x] I (by simpa[V.eB]using J) r⟩
 |.undef,_,_,_,h,_,_=>by simp[V.cm]at h
 |.ptr ..,_,_,_,h,_,_=>by simp[V.cm]at h
 |.mp _,_,_,_,h,_,_=>by simp[V.cm]at h
 |.gT _,_,_,_,h,_,_=>by simp[V.cm]at h
theorem Be{X:Cx}{C:IV}(J:X.C.le C){o:Nat->Nat->Nat->Nat->Option (List D)}{S:Nat->Prop}
  (U:∀b g off len l,S b->o b g off len=ab l->∀aR x m,nW X b g off len aR x->aN C (.ar l) m [x]):
  ∀(l:List V) (ds:List D) (m:Bool) (A:List (List Value)),V.cP o l=ab ds->(∀b∈V.de l,S b)->bF X l m A->bw C ds m A
 |[],ds,m,A,h,_,r=>by simp only[V.cP]at h;cases h;simpa only[bF,bw]using r
 |v::l,ds,m,A,h,Z,r=>by
  simp only[V.cP]at h
  cases h1:V.cm o v with
  |none=>rw[h1]at h;cases h
  |some d=>
   cases h2:V.cP o l with
   |none=>rw[h1,h2]at h;cases h
   |some es=>
    rw[h1,h2]at h;cases h
    simp only[bF]at r
    obtain⟨ws,a,e,c,f⟩:=r
    simp only[bw]
    exact⟨ws,a,e,Mf J U v d m ws h1 (λb I=>Z b (by simp[V.de,I])) c,Be J U l es m a h2 (λb I=>Z b (by simp[V.de,I])) f⟩
end
theorem PM{B:Nat}{X:Cx}{O:Nat->Addr->Prop}{w:World}{h:Heap}(H:HR B X O w h){C:IV}{S:Nat->Prop}(i:qe X w h C S):
  ∀(n:Nat) (b g off len:Nat) (l:List D),S b->pk h n b g off len=ab l->∀aR x m,nW X b g off len aR x->aN C (.ar l) m [x]
 |0,_,_,_,_,_,_,e,_,_,_,_=>by cases e
 |n+1,b,g,off,len,l,z,e,aR,x,m,f=>by
  have K:(match aq h b with
   |some (.arr k _ _ l)=>bif dc g k off len l then ab (eP l off len)else ae
   |some (.bN k _ l)=>bif dc g k off len l then V.cP (pk h n) (eP l off len)else ae
   |_=>ae)=ab l:=e
  split at K
  .rename_i k s ro F J;obtain⟨U,G⟩:=aQ K;obtain⟨N,a⟩:=oW U;cases G;rw[xG F off len a];obtain⟨bi,h1,h2,h3,Q,T,o⟩:=H.cy b _ J;have I:((F.drop off).take len).length=len:=by simp;omega
   by_cases L:bi.cap=0
   .exact JX f h1 (by omega) I (a0:=⟨0,0,ae⟩) (aV:=[]) (λM=>absurd L M)
   .rcases o with o|⟨es,a0,aV,p,q,r,A,d,_,_⟩
    .omega
    .subst es;refine JX f h1 (by omega) I (a0:=a0) (aV:=(aV.drop off).take len) (λ_=>⟨p,q,?_,(bc.drop A off).take len,?_⟩)
     .exact (cf.2 (((cf.1 r).drop off).take len)).mono i.1
     .intro j v ev;rw[Addr.add_add a0 _ _ q];rw[bc.jh (bc.drop A off),bc.qy A,pZ]at ev;split at ev
      .rename_i W;rw[adG]at ev;refine(i.2 b bi a0 z h1 p).1 _ _ _ _ J _ v ?_ (d _ v ev);have:=(e7.1 ev).1;rw[bc.len A,(cf.1 r).len]at this;omega
      trivial
  .rename_i k s F J;obtain⟨U,G⟩:=aQ K;obtain⟨N,a⟩:=oW U;rw[xG F off len a]at G;obtain⟨bi,h1,h2,h3,Q,T,o⟩:=H.cy b _ J;have Y:∀(vs:List V) (ds:List D),V.cP (pk h n) vs=ab ds->ds.length=vs.length:=by
    intro vs;induction vs with
    |nil=>simp[V.cP]
    |cons v vs ih=>
     intro ds hd;simp only[V.cP]at hd;grind
   have I:l.length=len:=by grind
   by_cases L:bi.cap=0
   .exact JX f h1 (by omega) I (a0:=⟨0,0,ae⟩) (aV:=[]) (λM=>absurd L M)
   .rcases o with o|⟨es,a0,aV,p,q,r,A,d,_⟩
    .omega
    .subst es;have t:=(i.2 b bi a0 z h1 p).2 _ _ _ J;refine JX f h1 (by omega) I (a0:=a0) (aV:=(aV.drop off).take len) (λ_=>⟨p,q,?_,(bc.drop A off).take len,?_⟩)
     .refine Be i.1 (λb g off len l z e aR x m f=>PM H i n b g off len l z e aR x m f) _ _ af _ G (λc U=>t.1 c ?_) (dU.2 (((dU.1 r).drop off).take len))
      have sub:∀(vs y:List V),(∀v∈vs,v∈y)->∀c∈V.de vs,c∈V.de y:=by
       intro vs;induction vs with
       |nil=>simp[V.de]
       |cons v vs ih=>
        intro y Z c U;simp only[V.de,cB]at U;rcases U with U|U
        .have hv:=Z v (by simp)
         clear ih Z;induction y with
         |nil=>cases hv
         |cons u y ihu=>
          simp only[V.de,cB];grind
        grind
      grind
     .intro j v ev;rw[Addr.add_add a0 _ _ q];rw[bc.jh (bc.drop A off),bc.qy A,pZ]at ev;split at ev
      .rename_i W;rw[adG]at ev;refine t.2 _ v ?_ (d _ v ev);have:=(e7.1 ev).1;rw[bc.len A,(dU.1 r).len]at this;omega
      trivial
  trivial
theorem UB(h:Heap)(v:V):V.data h v=V.cm (gM h) v:=by
 cases v<;>simp[V.data,V.cm]
theorem ZO(v:V):v.owns=v.eB:=by
 cases v<;>simp[V.owns,V.eB]
theorem qu{B:Nat}{X:Cx}{O:Nat->Addr->Prop}{w:World}{h:Heap}(J:HR B X O w h){C:IV}{S:Nat->Prop}(A:qe X w h C S){v:V}{d:D}(e:V.data h v=ab d)(I:∀b∈v.owns,S b)
  {m:Bool} {ws:List Value} (r:an X v m ws):aN C d m ws:=by
 rw[UB]at e;rw[ZO]at I;exact Mf A.1 (λb g off len l U e aR x m Z=>PM J A 4 b g off len l U e aR x m Z) v d m ws e I r
def lA(B:Nat)(X:Cx)(w:World):IV:=λa=>if B<=a.block then w.cell? a else X.C a
theorem AP{B:Nat}{X:Cx}{w:World}(h:CI X.C w):CI (lA B X w) w:=⟨λa v e=>by
 unfold lA at e;split at e
 .exact e
 .exact h a v e,Gh.gm (λa v e=>by
 unfold lA;split
 .exact h a v e
 omega) h.gl⟩
theorem TM{B:Nat}{X:Cx}{w:World}(h:CI X.C w):X.C.le (lA B X w):=λa v e=>by
 unfold lA;split
 .exact h a v e
 omega
theorem xw{B:Nat}{X:Cx}{O:Nat->Addr->Prop}{w:World}{h:Heap}(J:HR B X O w h):qe X w h (lA B X w) (λ_=>True):=by
 refine⟨TM J.ci,λb bi x _ m n=>⟨λg s ro l c j v p e=>?_,λg s l c=>⟨λ_ _=>trivial,λj v p e=>?_⟩⟩⟩
 .unfold lA;split
  .exact e
  .rename_i hB;obtain⟨bj,h1,h2,h3,d,q,U⟩:=J.cy b _ c;rw[m]at h1;cases h1;have f:l.length*s<=bi.cap*s:=dM _ d.1;rcases U with U|⟨es,r,A,Z,t,o,a,i,I,k⟩
   .grind
   .rw [n]at Z;cases Z;by_cases u:j< ro*s
    .have y:j< A.flatten.length:=by rw[bc.len a,(cf.1 o).len];omega
     have:=I j A.flatten[j] (by grind)
     have z:=J.ci _ _ this;grind
    .exact absurd (J.own b _ (k j (by omega) (by omega)).1).1 hB
 .unfold lA;split
  .exact e
  .rename_i hB;obtain⟨bj,h1,h2,h3,d,q,U⟩:=J.cy b _ c;rw[m]at h1;cases h1;have f:l.length*s<=bi.cap*s:=dM _ d;rcases U with U|⟨es,r,A,Z,t,o,a,i,I⟩
   .grind
   .rw [n]at Z;cases Z;exact absurd (J.own b _ (I j (bX _) (by omega)).1).1 hB
def Ax(X:Cx)(b n:Nat)(a:Addr):Prop:=∃bi A j,X.M b=ab bi/\bi.base=ab A/\j< n/\a=A.add j
open Classical in
def kZ(X:Cx)(w:World)(b n:Nat):IV:=λa=>if Ax X b n a then w.cell? a else X.C a
theorem Ke{X:Cx}{w:World}(h:CI X.C w)(b n:Nat):X.C.le (kZ X w b n):=λa v e=>by
 unfold kZ;split
 .exact h a v e
 omega
theorem aqD{X:Cx}{w:World}(h:CI X.C w)(b n:Nat):CI (kZ X w b n) w:=⟨λa v e=>by
 unfold kZ at e;split at e
 .exact e
 .exact h a v e,Gh.gm (Ke h b n) h.gl⟩
theorem L7{B:Nat}{X:Cx}{O:Nat->Addr->Prop}{w:World}{h:Heap}(I:HR B X O w h){b g s ro:Nat}{l:List D}(Q:aq h b=ab (.arr g s ro l)):
  HR B (X.gx (kZ X w b (l.length*s))) (λc a=>O c a/\¬Ax X b (l.length*s) a) w (aD h b (.arr g s l.length l))/\
  (∀a v,kZ X w b (l.length*s) a=ab v->X.C a=ae->B<=a.block)/\(∀c a,c≠b->O c a->¬Ax X b (l.length*s) a):=by
 have p:=dI Q;obtain⟨bi,h1,h2,h3,y,V,z⟩:=I.cy b _ Q;have S:l.length*s<=bi.cap*s:=dM _ y.1;have F:ro*s<=l.length*s:=dM _ y.2;have J:∀a,Ax X b (l.length*s) a->O b a∨∃v,X.C a=ab v:=by
  rintro a ⟨bj,r,j,G,H,e3,rfl⟩;rw[h1]at G;cases G;rcases z with z|⟨es,W,U,n,K,L,Z,d,q,f⟩
  .grind
  .rw [H]at n;cases n;by_cases Y:j< ro*s
   .have hl:j< U.flatten.length:=by rw[bc.len Z,(cf.1 L).len];omega
    exact .inr ⟨_,q j U.flatten[j] (by grind)⟩
   .exact .inl (f j (by omega) (by omega)).1
 have A:∀c a,c≠b->O c a->¬Ax X b (l.length*s) a:=λc a hc o M=>by
  rcases J a M with h|⟨v,h⟩
  .exact hc (I.fj c b a o h)
  .rw [(I.own c a o).2.2]at h;cases h
 refine⟨⟨λc k e=>?_,λc a o=>?_,λc c' a o o'=>I.fj c c' a o.1 o'.1,λc bj e=>?_,aqD I.ci _ _,I.wb⟩,λa v e hn=>?_,A⟩
 .rw [bG h b c _ (cX p)]at e;have N:X.le h.length (X.gx (kZ X w b (l.length*s))):=⟨Ke I.ci _ _,λ_ bi _ e=>⟨bi,e,aJ _,λ_=>rfl,λ_=>rfl⟩,λ_ _ e=>e⟩
  by_cases m:c=b
  .subst m;simp only[if_true]at e;cases e;refine⟨bi,h1,h2,h3,⟨y.1,aJ _⟩,V,z.imp id ?_⟩;rintro⟨es,r,U,n,K,L,Z,d,q,f⟩;refine⟨es,r,U,n,K,L.mono (Ke I.ci _ _),Z,d,λj v e=>?_,λj G H=>?_⟩
   .rw [pZ]at e;split at e
    .rename_i hj;show kZ X w c (l.length*s) (r.add j)=ab v;unfold kZ;rw[aK ⟨bi,r,j,h1,n,hj,rfl⟩];exact d j v e
    trivial
   .obtain ⟨o,x⟩:=f j (by omega) H
    refine⟨⟨o,?_⟩,x⟩;rintro⟨bj,W,i,t,q2,T,q4⟩;rw[h1]at t;cases t;rw[n]at q2;cases q2;have:=Addr.nX K q4;omega
  .simp only[az m]at e;exact(I.cy c k e).later I.lt N rfl (.refl w) (λa o=>⟨o,A c a m o⟩)
 .obtain ⟨t,q2,T⟩:=I.own c a o.1;refine⟨t,q2,?_⟩;show kZ X w b (l.length*s) a=ae;simp[kZ,az,o,T]
 .rw [bL,aK p];exact I.lt c bj e
 .unfold kZ at e;split at e
  .rename_i M;rcases J a M with h|⟨u,h⟩
   .exact (I.own b a h).1
   grind
  grind
theorem agj(h:Heap)(b:Nat)(A:List Nat):close h (b::A)=(match aq h b with|some (.arr g s _ l)=>close (aD h b (.arr g s (aA l) l)) A|_=>close h A):=rfl
theorem E7(h:Heap)(b:Nat)(A:List Nat):fi h (b::A)=(match aq h b with|some (.arr ..)=>fi h A|_=>af):=rfl
theorem Lg{h:Heap}{b g s ro:Nat}{l:List D}(A:b<=h.length):∀{I:List Nat},fi h I=ag->fi (aD h b (.arr g s ro l)) I=ag
 |[],_=>rfl
 |c::I,e=>by
  rw[E7]at e|-;rw[bG h b c _ A];by_cases J:c=b
  .simp [J];split at e
   .exact Lg A e
   trivial
  .simp [az J];split at e
   .first|exact Lg A e|(rw[q])
   omega
theorem xE{B:Nat}{w:World}:∀(J:List Nat) {X:Cx} {O:Nat->Addr->Prop} {h:Heap},HR B X O w h->fi h J=ag->
  ∃C O',HR B (X.gx C) O' w (close h J)/\X.C.le C/\CI C w/\(∀a v,C a=ab v->X.C a=ae->B<=a.block)/\(close h J).length=h.length/\(∀c a,O' c a->O c a)/\
   (∀b∈J,∀bi Z,X.M b=ab bi->bi.base=ab Z->∀g s ro l,aq h b=ab (.arr g s ro l)->∀j v,j< l.length*s->w.cell? (Z.add j)=ab v->C (Z.add j)=ab v)/\
   (∀b,(∀g s ro l,aq h b=ab (.arr g s ro l)->∃A,aq (close h J) b=ab (.arr g s A l)/\(b ∉ J->A=ro))/\((∀g s ro l,aq h b≠ab (.arr g s ro l))->aq (close h J) b=aq h b))/\
   (∀c a,c ∉ J->O c a->O' c a)
 |[],X,O,h,r,_=>⟨X.C,O,r,.refl _,r.ci,λa v e F=>(by grind),rfl,λ_ _ o=>o,λb q=>(by cases q),λb=>⟨λg s ro l e=>⟨ro,e,λ_=>rfl⟩,λ_=>rfl⟩,λ_ _ _ o=>o⟩
 |b::J,X,O,h,r,y=>by
  rw[E7]at y;rw[agj];split at y
  .rename_i g s ro l q;have d:=cX (dI q);obtain⟨z,K,f⟩:=L7 r q;obtain⟨C,O',L,q2,N,q4,Q,q6,S,Y,T⟩:=xE J z (Lg (s:=s) (g:=g) (ro:=l.length) (l:=l) d y);simp only[bn];have i:∀c,(∀k m A n,aq h c=ab (.arr k m A n)->∃U,aq (aD h b (.arr g s l.length l)) c=ab (.arr k m U n)/\(c≠b->U=A))/\((∀k m A n,aq h c≠ab (.arr k m A n))->aq (aD h b (.arr g s l.length l)) c=aq h c):=λc=>by
    refine⟨λk m A n e=>?_,λF=>?_⟩
    .rw [bG h b c _ d];grind
    .rw [bG h b c _ d,az];grind
   have p:=Ke (w:=w) r.ci b (l.length*s);refine⟨C,O',L,p.trans q2,N,λa v e F=>?_,by rw[Q,bL,aK (dI q)],λc a o=>(q6 c a o).1,λc x bi Z G I k m A n D j v H e=>?_,λc=>?_,λc a x o=>T c a (λh=>x (by simp[h])) ⟨o,f c a (λh=>x (by simp[h])) o⟩⟩
   .cases V:kZ X w b (l.length*s) a with
    |none=>exact q4 a v e V
    |some u=>grind
   .by_cases t:c=b
    .subst t;rw[q]at D;cases D;refine q2 _ _ ?_;show kZ X w c (l.length*s) (Z.add j)=ab v;unfold kZ;rw[aK ⟨bi,Z,j,G,I,H,rfl⟩];exact e
    .obtain ⟨U,W,_⟩:=(i c).1 _ _ _ _ D;exact S c ((eT.1 x).resolve_left t) bi Z G I k m U n W j v H e
   grind
  trivial
theorem AL{h:Heap}:∀{I:List Nat},fi h I=ag->∀b∈I,∃g s ro l,aq h b=ab (.arr g s ro l)
 |[],_,_,A=>by cases A
 |c::I,J,b,A=>by
  rw[E7]at J;split at J
  .rcases eT.1 A with rfl|A
   .grind
   .exact AL J b A
  trivial
theorem A5{X:Cx}{w:World}{O O':Nat->Addr->Prop}{h:Heap}{A:List Nat}{C:IV}(J:fi h A=ag)
  (i:∀b,(∀g s ro l,aq h b≠ab (.arr g s ro l))->aq (close h A) b=aq h b) (U:∀b g s ro l,aq h b=ab (.arr g s ro l)->∃I,aq (close h A) b=ab (.arr g s I l)/\(b ∉ A->I=ro)) (Z:∀c a,c ∉ A->O c a->O' c a):FR X O w h (X.gx C) O' w (close h A):=by
 refine⟨λb bi _ d=>?_,λ_ _ e _=>e,λb bi _ d a o=>Z b a (λf=>?_) o,λ_ _ _ _ _ _ _ e=>⟨e,rfl⟩,λ_ _ _ _ _ _ _ e _=>e,λ_ _ _ _ _ _ _=>rfl,λb e=>?_,λ_ _ e _=>e⟩
 .grind
 .obtain ⟨g,s,ro,l,e⟩:=AL J b f;grind
 grind
theorem A6{X:Cx}{w:World}{h:Heap}{A:List Nat}{C:IV}(U:fi h A=ag)(a:X.C.le C)
  (d:∀b∈A,∀bi J,X.M b=ab bi->bi.base=ab J->∀g s ro l,aq h b=ab (.arr g s ro l)->∀j v,j< l.length*s->w.cell? (J.add j)=ab v->C (J.add j)=ab v):qe X w h C (· ∈A):=by
 refine⟨a,λb bi J Z f I=>⟨d b Z bi J f I,λg s l e=>?_⟩⟩
 exfalso;have:∀{A:List Nat},fi h A=ag->b∈A->False:=by
  intro A;induction A with
  |nil=>simp
  |cons c A ih=>
   intro U Z;rw[E7]at U;grind
 exact this U Z
def cY(P:Program)(B:Nat)(X:Cx)(O:Nat->Addr->Prop)(w:World)(h:Heap)(m:Sem Value)(v:V)(h':Heap):Prop:=
 ∃x w' X' O',m.run P w=.ok x w'/\HR B X' O' w' h'/\Up B X w h.length X' w'/\an X' v ag [x]/\h.length<=h'.length/\FR X O w h X' O' w' h'
def EX(P:Program)(B:Nat)(X:Cx)(O:Nat->Addr->Prop)(w:World)(h:Heap)(m:Sem Unit)(h':Heap):Prop:=
 ∃w' X' O',m.run P w=.ok () w'/\HR B X' O' w' h'/\Up B X w h.length X' w'/\h.length<=h'.length/\FR X O w h X' O' w' h'
section
variable {P:Program} {B:Nat} {X:Cx} {O:Nat->Addr->Prop} {w:World} {h:Heap}
theorem cY.same(A:HR B X O w h){m:Sem Value}{v:V}{x:Value}(e:m.run P w=.ok x w)(r:an X v ag [x]):cY P B X O w h m v h:=
 ⟨x,w,X,O,e,A,.refl _ _ _ _,r,aJ _,.refl _ _ _ _⟩
theorem Y2(c:HR B X O w h){n:Nat}(f:aq h n=ae)(b:X.M n=ae)(J:n<=h.length){v:V}(hp:v.plain=ag){x:Value}(r:an X v ag [x])(T:Nat):
  ∃X' O',HR B X' O' (w.alloc (.cells x.cells T)) (aD h n (.cell v))/\Up B X w h.length X' (w.alloc (.cells x.cells T))/\an X' (.ptr n 0 []) ag [.pointer (ab ⟨w.heap.size,0,ae⟩)]/\h.length<=(aD h n (.cell v)).length/\FR X O w h X' O' (w.alloc (.cells x.cells T)) (aD h n (.cell v)):=by
 let bi:BI:=⟨0,ab ⟨w.heap.size,0,ae⟩,0,1,ag⟩;let d:=λa=>∃j,j< x.cells.size/\a=(⟨w.heap.size,0,ae⟩:Addr).add j
 have A:=r.cells hp;have I:∀j y,x.cells.toList[j]? =ab y->(w.alloc (.cells x.cells T)).cell? ((⟨w.heap.size,0,ae⟩:Addr).add j)=ab y:=λj y e=>by
  have:(⟨w.heap.size,0,ae⟩:Addr).add j=⟨w.heap.size,j,ae⟩:=by grind[wI]
  simp_all
 have U:∀j,(w.alloc (.cells x.cells T)).frozen? ((⟨w.heap.size,0,ae⟩:Addr).add j)=af:=λj=>by
  have:(⟨w.heap.size,0,ae⟩:Addr).add j=⟨w.heap.size,j,ae⟩:=by grind[wI]
  simp_all
 have Z:=an.low c.lt _ _ _ A;refine⟨X.du n bi,_,c.add f b J (.alloc _ _) (by simp) bi d (.cell v) (λa ⟨j,g,e⟩=>?_) ?_,Up.add b ((Below.refl B w).alloc c.wb _) (.alloc _ _) _ bi,?_,?_,.add b J (.alloc _ _) bi d _⟩
 .simp_all[Addr.qf]
 .refine ⟨bi,⟨w.heap.size,0,ae⟩,x.cells.toList,Cx.eL _ _ _,rfl,rfl,rfl,rfl,an.mono (Cx.tC h.length b) _ _ _ Z A,I,λj _ g=>⟨⟨j,by omega,rfl⟩,⟨x.cells[j]'(by omega),I j _ (by simp)⟩,U j⟩⟩
 .exact ⟨_,rfl,⟨_,rfl⟩,bi,Cx.eL _ _ _,aJ _,λ_=>⟨_,rfl,rfl,by rfl⟩⟩
 grind[bL]
theorem aeY(Z:HR B X O w h){n:Nat}(a:aq h n=ae)(b:X.M n=ae)(A:n<=h.length){t:Nat}{ti:TI}(c:hZ P t ti)(J:ti.zero.plain=ag):
  cY P B X O w h (Ej t ag (.tuple #[])) (.ptr n 0 []) (aD h n (.cell ti.zero)):=by
 obtain⟨i,h1,h2,h3,d⟩:=c.info;obtain⟨z,e,U⟩:=d _ rfl J;have I:=an.mono (EZ X) _ _ _ (an.low AB _ _ _ U) U;obtain⟨X',O',f,q2,g,q4,j⟩:=Y2 Z a b A J I t;refine⟨_,_,X',O',?_,f,q2,g,q4,j⟩;simp[Ej,zeroValue,typeInfo,h1,e,newVar,newRow,Sem.run]
theorem afF(I:HR B X O w h){n:Nat}(J:aq h n=ae)(U:X.M n=ae)(A:n<=h.length){t:Nat}{v:V}(hp:v.plain=ag){x:Value}(r:an X v ag [x]):
  cY P B X O w h (acT t x) (.ptr n 0 []) (aD h n (.cell v)):=by
 obtain⟨X',O',Z,q2,a,q4,b⟩:=Y2 I J U A hp r t;refine⟨_,_,X',O',?_,Z,q2,a,q4,b⟩;rfl
theorem afD(U:HR B X O w h){n:Nat}(l:aq h n=ae)(f:X.M n=ae)(Z:n<=h.length){t:Nat}{d:D}(hp:(V.im d).plain=ag){x:Value}(r:an X (.im d) ag [x]):
  cY P B X O w h (acT t x) (.im (.ref d)) (aD h n (.arr 0 0 0 [])):=by
 let bi:BI:=⟨0,ae,0,0,af⟩;let w':=w.alloc (.cells x.cells t);let C':=λa=>if a.block=w.heap.size then w'.cell? a else X.C a
 have g:dP w w':=.alloc _ _;have m:=λa v e=>wS w a (U.ci a v e)
 have c:X.C.le C':=λa v e=>by
  grind
 have h1:HR B (X.du n bi) (λb=>if b=n then(λ_=>False)else O b) w' (aD h n (.arr 0 0 0 [])):=
  U.add l f Z g (by simp[w']) bi (λ_=>False) _ (λa h=>h.elim) ⟨bi,Cx.eL _ _ _,rfl,rfl,⟨aJ _,aJ _⟩,bX _,.inl rfl⟩
 have i:CI C' w':=⟨λa v e=>by
  have e:(if a.block=w.heap.size then w'.cell? a else X.C a)=ab v:=e;split at e
  .exact e
  .exact h1.ci a v e,Gh.gm c U.ci.gl⟩
 have h2:=h1.more c i λb a o=>by
  by_cases k:b=n
  .simp_all
  .simp [az k]at o;obtain⟨_,q,q2⟩:=U.own b a o;grind
 have I:=by simpa only[an]using r.cells hp
 have J:∀j y,x.cells.toList[j]? =ab y->C' ((⟨w.heap.size,0,ae⟩:Addr).add j)=ab y:=λj y e=>by
  have:(⟨w.heap.size,0,ae⟩:Addr).add j=⟨w.heap.size,j,ae⟩:=by grind[wI]
  rw[this];show(if w.heap.size=w.heap.size then _ else _)=_;rw[World.cell?_alloc_new];simpa using e
 have A:=FR.add (O:=O) (w:=w) (w':=w') (X:=X) (h:=h) f Z g bi (λ_=>False) (.arr 0 0 0 [])
 refine⟨.pointer (ab ⟨w.heap.size,0,ae⟩),w',_,_,?_,h2,⟨⟨c,λb bj k e=>?_,λ_ _ e=>e⟩,(Below.refl B w).alloc U.wb _,λa v e l=>?_,λr o e _=>g.obj r o e⟩,?_,?_,⟨A.eH,A.M,A.own,A.cell,A.obj,A.cy,A.nL,A.pQ⟩⟩
 .rfl
 .exact (Cx.tC h.length f).M b bj k e
 .have e:(if a.block=w.heap.size then w'.cell? a else X.C a)=ab v:=e;split at e
  .rename_i p;simp[p,U.wb]
  grind
 .exact ⟨_,_,rfl,rfl,I.mono c,J⟩
 grind[bL]
theorem al5(I:HR B X O w h){E:Env}{t:Nat}(k:∀ti,E.ty t=ab ti->hZ P t ti){av v:V}{a:Value}{h':Heap}(e:iV E h t av=ab (v,h'))(r:an X av ag [a]):
  cY P B X O w h (Instr.loadAt t a) v h':=by
 unfold iV at e;cases Z:E.ty t with
 |none=>grind
 |some ti=>
  rw[Z]at e;have A:=k ti Z;split at e
  .rename_i b g p;cases c:eJ h b g p with
   |none=>grind
   |some u=>
    rw[c]at e;obtain⟨J,e⟩:=aQ e;cases e;obtain⟨y,l,m⟩:=r;cases l;obtain⟨f,ws,U,q2,i,q4⟩:=Yj I c m;subst U;obtain⟨x,n,q6⟩:=Q4 (P:=P) A J i q4;exact .same I (by trivial) q6
  .rename_i d;obtain⟨J,e⟩:=aQ e;cases e;obtain⟨f,ws,U,q2,i,q4⟩:=r;cases U;obtain⟨x,n,q6⟩:=Q4 (P:=P) (X:=X) (v:=.im d) A J (ws:=ws) (by trivial) (a:=f) (w:=w) (λj v e=>I.ci _ _ (q4 j v e))
   exact .same I (by trivial) q6
  trivial
theorem fw.sub{O:Addr->Prop}{a:Addr}{i n:Nat}(A:fw w O a i n)(I:a.spot=ae){k m:Nat}(h1:i<=k)(h2:k+m<=n):fw w O (a.add k) 0 m:=λj _ J=>by
 rw[Addr.add_add a _ _ I];exact A _ (by omega) (by omega)
theorem Bv{s:Nat}{A:List (List Value)}(J:bc s A){i:Nat}{ws I:List Value}(hi:A[i]? =ab ws)(Z:I.length=s):(A.set i I).flatten=A.flatten.take (i*s)++(I++A.flatten.drop (i*s+s)):=by
 have U:=(e7.1 hi).1;rw[List.set_eq_take_append_cons_drop,aK U,List.flatten_append,nR,bc.jh J,bc.qy J];grind
theorem MK{s:Nat}{A:List (List Value)}(I:bc s A){i:Nat}{ws:List Value}(hi:A[i]? =ab ws):A.flatten=A.flatten.take (i*s)++(ws++A.flatten.drop (i*s+s)):=by
 have J:=(e7.1 hi).1;have:=Bv I hi (I _ (lj hi));rw[<-this];congr 1;simp_all[List.ext_getElem?_iff,List.getElem?_set,hi,aK,J]
theorem LY{a:Addr}(A:a.spot=ae){pre old post xs:List Value}(I:cz w.cell? a (pre++(old++post)))(U:old.length=xs.length):cz (putCells w (a.add pre.length) xs 0).cell? a (pre++(xs++post)):=λj v e=>by
 have hex:∀k,k< xs.length->∃u,w.cell? ((a.add pre.length).add (0+k))=ab u:=λk J=>by
  rw[cV,Addr.add_add a _ _ A];exact⟨_,I (pre.length+k) old[k] (by grind)⟩
 by_cases h1:j< pre.length
 .rw [nx _ xs w 0 _ (λk J he=>by rw[Addr.add_add a _ _ A]at he;have:=Addr.nX A he;omega)]
  exact I j v (by grind)
 .rw [jx (by omega)]at e
  by_cases h2:j-pre.length< xs.length
  .rw [hH h2]at e;have:=yZ (a.add pre.length) (Addr.h8 _ _ A) xs w 0 hex _ v e;rw[cV,Addr.add_add a _ _ A,show pre.length+(j-pre.length)=j from by omega]at this
   omega
  .rw [nx _ xs w 0 _ (λk J he=>by rw[Addr.add_add a _ _ A]at he;have:=Addr.nX A he;omega)]
   exact I j v (by grind)
end
section
variable {P:Program} {B:Nat} {X:Cx} {O:Nat->Addr->Prop} {w:World} {h:Heap}
theorem Up.put{n:Nat}{a:Addr}(hB:B<=a.block)(vs:List Value)(i:Nat){Y:Cx}(A:X.le n Y)(I:Y.C=X.C):Up B X w n Y (putCells w a vs i):=
 ⟨A,P3 a hB vs w i,λx v e J=>(by grind),λ_ _ e l=>nv a (vc l) vs w i e⟩
theorem yW{b:Nat}{a:Addr}{i n:Nat}(A:HR B X O w h)(I:fw w (O b) a i n){j:Nat}(h1:i<=j)(h2:j< n):B<=a.block:=by
 have:=(A.own b _ (I j h1 h2).1).1;grind[Addr.qf]
theorem xv{xs:List Value}{a:Addr}(hB:xs≠[]->B<=a.block):Below B w (putCells w a xs 0):=by
 cases xs<;>first|exact .refl _ _|rename_i x xs;exact P3 a (hB (by simp)) _ _ _
theorem ah5{l:List Nat}{b:Nat}(h:aY l b=af):b ∉ l:=by
 induction l with
 |nil=>simp
 |cons a l ih=>
  have h':(bif ak a b then ag else aY l b)=af:=h;grind[Nat.beq_refl]
theorem Ru(z:HR B X O w h){b g:Nat}{p:List (Nat×Nat)}{Q:V}{h':Heap}(S:jJ h b g p Q=ab h'){x:Value}(hp:rM X b g p x){xs:List Value}(rx:an X Q af xs):
  ∃a X' O',x=.pointer (ab a)/\a.spot=ae/\(∀j,j< xs.length->(∃u,w.cell? (a.add j)=ab u)/\w.frozen? (a.add j)=af)/\HR B X' O' (putCells w a xs 0) h'/\Up B X w h.length X' (putCells w a xs 0)/\h.length<=h'.length/\FR X O w h X' O' (putCells w a xs 0) h':=by
 obtain⟨_,bi,hM,hg,hx⟩:=hp;unfold jJ at S;split at S
 .rename_i c n;have f:=dI n;obtain⟨Nr,I⟩:=aQ S;obtain⟨bj,a0,ws,h1,h2,h3,h4,L,h6,h7,D⟩:=z.cy b _ n;rw[hM]at h1;cases h1;obtain⟨N,T,_,W⟩:=hx (by omega)
  rw[h4]at T;cases T;cases hv:V.put Q p c with
  |none=>grind
  |some v'=>
   rw[hv]at I;simp only[hY,fH]at I;subst I;obtain⟨pre,old,post,q1,q2,q3,q4,q5⟩:=Iu rx hv h6;have hlen:ws.length=pre.length+(xs.length+post.length):=by simp[q1,q3]
   have A:fw w (O b) (a0.add pre.length) 0 xs.length:=D.sub L (bX _) (by omega)
   rw[<-q2]at W;refine⟨_,X,O,W,Addr.h8 _ _ L,λj U=>(A j (bX _) U).2,?_,?_,by simp[bL,aK,f,aJ],FR.put z n (λ_ _=>rfl) _ xs 0 (λj U=>by rw[cV];exact(A j (bX _) U).1) _⟩
   .refine z.put f (.refl _ _) rfl (λ_ _=>rfl) z.lt _ (Addr.h8 _ _ L) xs 0 (λj U=>by rw[cV];exact(A j (bX _) U).1) (λj U=>by rw[cV];exact(A j (bX _) U).2.1) _ ?_
    refine⟨bi,a0,_,hM,h2,h3,h4,L,q4,LY L (by grind) q3,?_⟩
    have:(pre++(xs++post)).length=ws.length:=by simp[hlen]
    rw[this];exact D.put _ (Addr.h8 _ _ L) xs 0 (λj U=>by rw[cV];exact(A j (bX _) U).2.1)
   .exact ⟨.refl _ _,xv (λiB=>yW z A (aJ _) (by grind)),λy v e I=>(by grind),λ_ _ e l=>nv _ (vc l) xs w 0 e⟩
 .rename_i g' s ro l n;split at S
  .rename_i i o q;obtain⟨hc,I⟩:=aQ S;simp only[aM]at hc;obtain⟨BJ,NJ,aiH⟩:=hc;rw[b8]at I;cases hi:l[i]? with
   |none=>grind
   |some d=>
    rw[hi]at I;simp only[ah]at I;cases hd:Q.data h with
    |none=>grind
    |some dx=>
     rw[hd]at I;simp only[ah]at I;cases r:V.put (.im dx) q (.im d)with
     |none=>grind
     |some v'=>
      rw[r]at I;simp only[ah]at I;split at I
      .rename_i d';obtain⟨sj,I⟩:=aQ I;cases I;rw[aM]at sj;obtain⟨ha,qE⟩:=sj;have aiu:b ∉ Q.owns:=ah5 (by simpa using qE)
       obtain⟨C,O1,k1,k2,k3,k4,k5,k6,k7,k8,k9⟩:=xE Q.owns z ha;have aiJ:=A6 ha k2 k7;have rdx:aN C dx af xs:=qu z aiJ hd (λb n=>n) rx
       obtain⟨ro',lG,aiG⟩:=(k8 b).1 _ _ _ _ n;have aiI:=aiG aiu;subst aiI;have f:b<(close h Q.owns).length:=dI lG;obtain⟨bj,h1,h2,h3,h4,L,h6⟩:=k1.cy b _ lG;have VM:X.M b=ab bj:=h1;rw[hM]at VM;cases VM;obtain⟨N,T,s1,W⟩:=hx (by rw[h2];exact b9 BJ)
       have hil:i< l.length:=(e7.1 hi).1;rcases h6 with h6|⟨es,a0,Z,h7,D,h9,J,F,h12,G⟩
       .omega
       .rw [h7]at T;cases T;obtain⟨ws,ew,rws⟩:=(cf.1 h9).get hi;have yq:ws.length=s:=J ws (lj ew);obtain⟨pre,old,post,q1,q2,q3,q4,q5⟩:=Iu (X:=X.gx C) (x:=.im dx) (xs:=xs) (by simp only[an];exact rdx) r (ws:=ws) (by simp only[an];exact rws)
        have k:pre.length+(xs.length+post.length)=s:=by rw[<-yq,q1];simp[q3]
        have H:(i+1)*s<=bi.cap*s:=dM _ (by omega)
        rw[mf,SO]at H;have WB:ro'*s<=i*s:=dM _ (nY aiH);have NR:iR ((i,o)::q)=i*s+pre.length:=by rw[q2];simp[iR,b9 NJ]
        rw[NR]at W;have A:fw w (O1 b) (N.add (i*s+pre.length)) 0 xs.length:=G.sub D (by omega) (by omega)
        have hex:∀j,j< xs.length->∃u,w.cell? ((N.add (i*s+pre.length)).add (0+j))=ab u:=λj U=>by rw[cV];exact(A j (bX _) U).2.1
        have m:=Addr.h8 N (i*s+pre.length) D;refine⟨_,X.gx C,O1,W,m,λj U=>(A j (bX _) U).2,?_,?_,?_⟩
        .refine k1.put f (.refl _ _) rfl (λ_ _=>rfl) k1.lt _ m xs 0 (λj U=>by rw[cV];exact(A j (bX _) U).1) hex _ ?_
         have t:(pre++(xs++post)).length=s:=by simp[k]
         refine⟨bi,hM,h2,h3,by simpa using h4,L,.inr ⟨es,N,Z.set i (pre++(xs++post)),h7,D,?_,bc.set J t,?_,?_,?_⟩⟩
         .rw [dR];exact cf.2 ((cf.1 h9).set (by simp only[an]at q4;exact q4))
         .rw [Bv J ew t];have K:=MK J ew;rw[q1]at K;have:=LY (w:=w) (pre:=Z.flatten.take (i*s)++pre) (old:=old) (post:=post++Z.flatten.drop (i*s+s)) (xs:=xs) D (by rw[K]at F;simpa using F) q3
          have lH:(Z.flatten.take (i*s)++pre).length=i*s+pre.length:=by
           have:i*s<=Z.flatten.length:=by rw[bc.len J,(cf.1 h9).len];exact dM _ (by omega)
           rw[dD,gz,mi this]
          rw[lH]at this;simpa using this
         .rw [Bv J ew t,List.take_append_of_le_length (by
           have:i*s<=Z.flatten.length:=by rw[bc.len J,(cf.1 h9).len];exact dM _ (by omega)
           rw[gz,mi this];exact WB),List.take_take,mi WB]
          exact h12
         .exact G.put _ m xs 0 hex
        .refine ⟨⟨k2,λ_ bi _ e=>⟨bi,e,aJ _,λ_=>rfl,λ_=>rfl⟩,λ_ _ e=>e⟩,xv (λiB=>yW k1 A (aJ _) (by cases xs<;>simp_all)),k4,λ_ _ e l=>nv _ (vc l) xs w 0 e⟩
        .rw [bL,aK f,k5];exact⟨aJ _,(A5 (w:=w) ha (λb n=>(k8 b).2 n) (λb=>(k8 b).1) k9).trans (FR.put (Y:=X.gx C) k1 lG (λ_ _=>rfl) _ xs 0 (λj U=>by rw[cV];exact(A j (bX _) U).1) _) (aJ _) (by rw[k5];exact aJ _)⟩
      trivial
  trivial
 .rename_i g' s l n;split at S
  .rename_i i o q;obtain⟨hc,I⟩:=aQ S;simp only[aM]at hc;obtain⟨BJ,NJ⟩:=hc;rw[b8]at I;cases hi:l[i]? with
   |none=>rw[hi]at I;cases I
   |some d=>
    rw[hi]at I;simp only[ah]at I;cases r:V.put Q q d with
    |none=>rw[r]at I;cases I
    |some v'=>
     rw[r]at I;simp only[hY,fH]at I;subst I;have f:=dI n;obtain⟨bj,h1,h2,h3,h4,L,h6⟩:=z.cy b _ n;rw[hM]at h1;cases h1;obtain⟨N,T,s1,W⟩:=hx (by rw[h2];exact b9 BJ)
     have hil:i< l.length:=(e7.1 hi).1;rcases h6 with h6|⟨es,a0,Z,h7,D,h9,J,F,G⟩
     .omega
     .rw [h7]at T;cases T;obtain⟨ws,ew,rws⟩:=(dU.1 h9).get hi;have yq:ws.length=s:=J ws (lj ew);obtain⟨pre,old,post,q1,q2,q3,q4,q5⟩:=Iu rx r rws;have k:pre.length+(xs.length+post.length)=s:=by rw[<-yq,q1];simp[q3]
      have H:(i+1)*s<=bi.cap*s:=dM _ (by omega)
      rw[mf,SO]at H;have NR:iR ((i,o)::q)=i*s+pre.length:=by rw[q2];simp[iR,b9 NJ]
      rw[NR]at W;have A:fw w (O b) (N.add (i*s+pre.length)) 0 xs.length:=G.sub D (by omega) (by omega)
      have hex:∀j,j< xs.length->∃u,w.cell? ((N.add (i*s+pre.length)).add (0+j))=ab u:=λj U=>by rw[cV];exact(A j (bX _) U).2.1
      have m:=Addr.h8 N (i*s+pre.length) D;refine⟨_,X,O,W,m,λj U=>(A j (bX _) U).2,?_,?_,by rw[bL,aK f];exact aJ _,FR.put z n (λ_ _=>rfl) _ xs 0 (λj U=>by rw[cV];exact(A j (bX _) U).1) _⟩
      .refine z.put f (.refl _ _) rfl (λ_ _=>rfl) z.lt _ m xs 0 (λj U=>by rw[cV];exact(A j (bX _) U).1) hex _ ?_
       have t:(pre++(xs++post)).length=s:=by simp[k]
       refine⟨bi,hM,h2,h3,by simpa using h4,L,.inr ⟨es,N,Z.set i (pre++(xs++post)),h7,D,?_,bc.set J t,?_,?_⟩⟩
       .rw [dR];exact dU.2 ((dU.1 h9).set q4)
       .rw [Bv J ew t];have K:=MK J ew;rw[q1]at K;have:=LY (w:=w) (pre:=Z.flatten.take (i*s)++pre) (old:=old) (post:=post++Z.flatten.drop (i*s+s)) (xs:=xs) D (by rw[K]at F;simpa using F) q3
        have lH:(Z.flatten.take (i*s)++pre).length=i*s+pre.length:=by
         have:i*s<=Z.flatten.length:=by rw[bc.len J,(dU.1 h9).len];exact dM _ (by omega)
         rw[dD,gz,mi this]
        rw[lH]at this;simpa using this
       .exact G.put _ m xs 0 hex
      .exact ⟨.refl _ _,xv (λiB=>yW z A (aJ _) (by cases xs<;>simp_all)),λy v e I=>(by rw[I]at e;cases e),λ_ _ e l=>nv _ (vc l) xs w 0 e⟩
  .cases S
 trivial
theorem ap4(i:HR B X O w h){E:Env}{t:Nat}(k:∀ti,E.ty t=ab ti->hZ P t ti){av I v:V}{a x:Value}{h':Heap}(e:oz E h t av I=ab (v,h'))(l:an X av ag [a])(U:an X I ag [x]):
  v=.undef/\EX P B X O w h (Instr.storeAt t a x) h':=by
 unfold oz at e;cases Z:E.ty t with
 |none=>grind
 |some ti=>
  rw[Z]at e;have J:=k ti Z;split at e
  .rename_i b g p;obtain⟨c,e⟩:=aQ e;cases d:jJ h b g p I with
   |none=>grind
   |some h1=>
    rw[d]at e;simp at e;obtain⟨m,n⟩:=e;subst m;subst n;obtain⟨y,o,q⟩:=l;cases o;obtain⟨k1,_,r⟩:=kO c;have A:=U.cells r;obtain⟨D,X',O',s,q2,u,q4,z,q6,C⟩:=Ru i d q A;subst s;have f:x.cells.toList.length=ti.size:=by rw[A.wd,k1]
    have:=apo (P:=P) J c U q2 (w:=w) (λj F=>u j (by omega))
    exact⟨rfl,_,X',O',by trivial,q4,z,q6,C⟩
  trivial
end
theorem oi(x y:Int):ao x y=decide (x< y):=by
 cases x with
 |ofNat a=>cases y with
  |ofNat b=>show cA a b=_;rw[tI,EJ];simp
  |negSucc b=>rfl
 |negSucc a=>cases y<;>first|rename_i b;show cA b a=_;rw[tI,decide_eq_true_iff,EJ];omega|show ag=_;simp;omega
theorem gn(x y:Int):aj x y=decide (x<=y):=by
 unfold aj;rw[oi,tI];simp
theorem yL(a b:Nat):ak a b=decide (a=b):=by
 rw[tI,decide_eq_true_iff,lk]
theorem og(x y:Int):ai x y=decide (x=y):=by
 cases x with
 |ofNat a=>cases y with
  |ofNat b=>show ak a b=_;simp[yL,Int.ofNat_inj.symm]
  |negSucc b=>rfl
 |negSucc a=>cases y with
  |ofNat b=>rfl
  |negSucc b=>show ak a b=_;simp[yL]
theorem umod_eq(n:Int)(m:Nat)(hm:0< m):(umod n m:Int)=n%m:=by
 cases n with
 |ofNat a=>rfl
 |negSucc a=>
  show((m-1-a%m:Nat):Int)=_;have:a%m< m:=Nat.mod_lt _ hm;rw[Int.negSucc_emod _ (by omega)]
  omega
theorem umod_lt(n:Int)(m:Nat)(hm:0< m):umod n m< m:=by
 have h1:=umod_eq n m hm;have h2:=Int.emod_lt_of_pos n (b:=m) (by omega)
 omega
theorem JT(h m:Nat)(n:Int)(hm:0< m):zM h m n=if n%m>=h then n%m-m else n%m:=by
 have h1:=umod_eq n m hm;unfold zM;cases A:cA (umod n m) h with
 |true=>
  rw[EJ]at A;grind
 |false=>
  have J:¬umod n m< h:=λI=>by rw[<-EJ,A]at I;cases I
  grind
theorem lZ(k:IntKind)(n:Int):wr k n=k.wrap n:=by
 cases k<;>simp[wr,IntKind.wrap,IntKind.bits,IntKind.signed,Bool.true_and]
 .rw [JT _ _ _ (by decide)];simp
 .rw [JT _ _ _ (by decide)];simp
 .rw [JT _ _ _ (by decide)];simp
 .rw [JT _ _ _ (by decide)];simp
 all_goals(show((umod n _):Int)=_;rw[umod_eq _ _ (by decide)];simp)
theorem Ca(k:IntKind):kb k=k.bits:=by cases k<;>rfl
theorem sB{a b:IntKind}(h:fP a b=ag):a=b:=by cases a<;>cases b<;>first|rfl|trivial
theorem nM(k:IntKind)(n:Int):ig k (wr k n):=by rw[lZ];exact wrap_within k n
theorem Eb(k:IntKind)(n:Int):word k n=(nP k.bits n).toNat:=by
 have h:=umod_eq n (2^kb k) (mj (by decide))
 grind[BitVec.toNat_ofInt,Ca,word]
theorem ar2(k:IntKind)(n:Int):word k n< 2^kb k:=umod_lt _ _ (mj (by decide))
theorem WS(k:IntKind):k.min<=0/\0<=k.max:=by cases k<;>decide
theorem aqf{k:IntKind}{x y:Int}(A:ig k x):ig k (x.tmod y):=by
 have hm:=WS k;obtain⟨h1,h2⟩:=A;unfold ig;rcases l7 x 0 with h|h
 .have h3:x.tmod y= -((-x).tmod y):=by simp
  have I:0<=(-x).tmod y:=Ez _ (by omega)
  have J:(-x).tmod y<= -x:=by
   have:=adp (-x) y;have U:(-x).natAbs%y.natAbs<=(-x).natAbs:=ad5 _ _;omega
  omega
 .have I:0<=x.tmod y:=Ez _ h;have J:x.tmod y<=x:=by
   have:=adp x y;have U:x.natAbs%y.natAbs<=x.natAbs:=ad5 _ _;omega
  omega
theorem ahm{k:IntKind}{x:Int}(A:ig k x)(n:Nat):ig k (x.fdiv (aC (2^n))):=by
 have hm:=WS k;obtain⟨h1,h2⟩:=A;have hp:(0)< aC (2^n):=by exact Int.ofNat_lt.2 (mj (by decide))
 rw[Int.fdiv_eq_ediv_of_nonneg _ (by omega)]
 constructor
 .refine (Int.le_ediv_iff_mul_le hp).2 ?_;have:k.min*aC (2^n)<=k.min*1:=Int.mul_le_mul_of_nonpos_left (by omega) (by omega)
  omega
 .rcases l7 x 0 with h|h
  .have:=Int.le_of_lt (Int.ediv_neg_of_neg_of_pos h hp);omega
  .have:=Int.ediv_le_self (aC (2^n)) h;omega
section
variable {P:Program} {w:World}
def lr(P:Program)(w:World)(m:Sem Value)(v:V):Prop:=∃d x,v=.im d/\m.run P w=.ok x w/\∀C,aN C d ag [x]
theorem aiS{k:IntKind}{n:Int}{v:V}(e:im k n=ab v):v=.im (.int k n):=(fu e).symm
theorem afx{b:Bool}{v:V}(e:bm b=ab v):v=.im (.bool b):=(fu e).symm
theorem lr.int{m:Sem Value}{k:IntKind}{n n':Int}{v:V}(e:im k n=ab v)(hm:m.run P w=.ok (.int k n') w)(A:n'=n)(hi:ig k n):lr P w m v:=
 ⟨_,_,aiS e,hm,λC=>by simp_all[aN,trivial,hi]⟩
theorem lr.bool{m:Sem Value}{b b':Bool}{v:V}(e:bm b=ab v)(hm:m.run P w=.ok (.bool b') w)(A:b'=b):lr P w m v:=
 ⟨_,_,afx e,hm,λC=>by grind[aN]⟩
theorem kr(op:BinOp)(t:TypeId)(k:IntKind)(a:Int)(A:IntKind)(b:Int)(h1:op≠.shl)(h2:op≠.shr):binOp op t (.int k a) (.int A b)=
  (if k≠A then stuck "BinOp: operands of different kinds" else
  match op with
  |.add|.sub|.mul=>KB op k a b
  |.quo|.rem=>Sy op k a b
  |.and|.or|.xor|.andNot=>Em op k a b
  |_=>wQ op a b):=by cases op<;>first|rfl|exact absurd rfl h1|trivial
theorem Oa{op:BinOp}{k:IntKind}{a b:Int}{v:V}(e:intArith op k a b=ab v)(J:ig k a)(t:TypeId)(U:IntKind)(A:op=.shl∨op=.shr∨k=U):
  lr P w (binOp op t (.int k a) (.int U b)) v:=by
 cases op<;>simp only[intArith]at e;case add=>rcases A with h|h|rfl;cases h;cases h;exact .int e (by simp[kr,KB]) (lZ _ _).symm (nM _ _)
 case sub=>rcases A with h|h|rfl;cases h;cases h;exact .int e (by simp[kr,KB]) (lZ _ _).symm (nM _ _)
 case mul=>rcases A with h|h|rfl;cases h;cases h;exact .int e (by simp[kr,KB]) (lZ _ _).symm (nM _ _)
 case quo=>
  rcases A with h|h|rfl;cases h;cases h;rw[og]at e;cases I:decide (b=0)<;>rw[I]at e
  .rw [decide_eq_false_iff_not]at I;exact .int e (by simp[kr,Sy,I]) (lZ _ _).symm (nM _ _)
  trivial
 case rem=>
  rcases A with h|h|rfl;cases h;cases h;rw[og]at e;cases I:decide (b=0)<;>rw[I]at e
  .rw [decide_eq_false_iff_not]at I;exact .int e (by simp[kr,Sy,I]) rfl (aqf J)
  trivial
 case and=>
  rcases A with h|h|rfl;cases h;cases h;refine .int e (n':=k.wrap (nP k.bits a&&&nP k.bits b).toNat) (by simp[kr,Em]) ?_ (nM _ _)
  simp[lZ,Eb,acA]
 case or=>
  rcases A with h|h|rfl;cases h;cases h;refine .int e (n':=k.wrap (nP k.bits a|||nP k.bits b).toNat) (by simp[kr,Em]) ?_ (nM _ _)
  simp[lZ,Eb,BitVec.toNat_or]
 case xor=>
  rcases A with h|h|rfl;cases h;cases h;refine .int e (n':=k.wrap (nP k.bits a^^^nP k.bits b).toNat) (by simp[kr,Em]) ?_ (nM _ _)
  simp[lZ,Eb,BitVec.toNat_xor]
 case andNot=>
  rcases A with h|h|rfl;cases h;cases h;refine .int e (n':=k.wrap (nP k.bits a&&& ~~~nP k.bits b).toNat) (by simp[kr,Em]) ?_ (nM _ _)
  simp[lZ,Eb,acA,acB,Ca]
 case eql=>rcases A with h|h|rfl;cases h;cases h;exact .bool e (by simp[kr,wQ];rfl) (by grind[og])
 case neq=>rcases A with h|h|rfl;cases h;cases h;exact .bool e (by simp[kr,wQ];rfl) (by grind[og])
 case lss=>rcases A with h|h|rfl;cases h;cases h;exact .bool e (by simp[kr,wQ];rfl) (by rw[oi])
 case leq=>rcases A with h|h|rfl;cases h;cases h;exact .bool e (by simp[kr,wQ];rfl) (by rw[gn])
 case gtr=>rcases A with h|h|rfl;cases h;cases h;exact .bool e (by simp[kr,wQ];rfl) (by rw[oi])
 case geq=>rcases A with h|h|rfl;cases h;cases h;exact .bool e (by simp[kr,wQ];rfl) (by rw[gn])
 case shl=>
  rw[oi]at e;cases I:decide (b< 0)<;>rw[I]at e
  .rw [decide_eq_false_iff_not]at I;refine .int e (n':=k.wrap (a*2^(min b.toNat k.bits))) (by simp[binOp,Op.shift,I]) ?_ (nM _ _)
   simp[lZ,Ca,ad3]
  trivial
 case shr=>
  rw[oi]at e;cases I:decide (b< 0)<;>rw[I]at e
  .rw [decide_eq_false_iff_not]at I;refine .int e (n':=a.fdiv (2^(min b.toNat k.bits))) (by simp[binOp,Op.shift,I]) ?_ (ahm J _)
   simp[Ca,ad3]
  trivial
theorem ai0{op:BinOp}{k A:IntKind}{a b:Int}{v:V}(e:B0 op k a A b=ab v)(I:ig k a)(t:TypeId):lr P w (binOp op t (.int k a) (.int A b)) v:=by
 unfold B0 at e;split at e
 .exact Oa e I t A (.inl rfl)
 .exact Oa e I t A (.inr (.inl rfl))
 .cases J:fP k A<;>rw[J]at e
  .cases e
  .exact Oa e I t A (.inr (.inr (sB J)))
theorem amY(k:IntKind):nP k.bits (if k.signed then -1 else k.max)=BitVec.allOnes k.bits:=by cases k<;>rfl
theorem aqv{op:UnOp}{X:Cx}{x:V}{v:V}(e:wy op x=ab v){A:Value}(r:an X x ag [A]):lr P w (Op.unary op A) v:=by
 unfold wy at e;split at e
 .cases r;exact .bool e rfl rfl
 .obtain ⟨r,_⟩:=r;cases r;rename_i k n I;exact .int e (n':=k.wrap (0-n)) (by rfl) (lZ _ _).symm (nM _ _)
 .obtain ⟨r,_⟩:=r;cases r;rename_i k n I;refine .int e (n':=k.wrap (nP k.bits (if k.signed then -1 else k.max)^^^nP k.bits n).toNat) rfl ?_ (nM _ _);rw[lZ,amY,Eb,BitVec.allOnes_xor,acB,Ca];rfl
 trivial
theorem JQ{x y:List Nat}:seq x y=ag↔x=y:=by
 induction x generalizing y with
 |nil=>grind[seq]
 |cons a x ih=>
  cases y with
  |nil=>simp[seq]
  |cons b y=>
   show(bif ak a b then seq x y else af)=ag↔_;simp_all
theorem LQ{a b:ByteArray}(h:dN a=dN b):a=b:=by
 have h1:∀{x y:List UInt8},x.map ua=y.map ua->x=y:=by
  intro x;induction x with
  |nil=>simp
  |cons c x ih=>intro y h;cases y with
   |nil=>trivial
   |cons d y=>simp at h;rw[aem.1 h.1,ih h.2]
 have h2:=acx.1 (h1 h);cases a;simp_all
theorem toList_eq(b:ByteArray):b.toList=b.data.toList:=ByteArray.toList_eq b
theorem xz(b:ByteArray):(dN b).length=b.size:=by simp[dN,List.length_map,Array.length_toList]
theorem apT{x y:List UInt8}:slt (x.map ua) (y.map ua)=Sw x y:=by
 induction x generalizing y with
 |nil=>cases y<;>rfl
 |cons a x ih=>
  cases y with
  |nil=>rfl
  |cons b y=>
   show(bif cA a.toNat b.toNat then ag else bif ak a.toNat b.toNat then slt (x.map ua) (y.map ua)else af)=(decide (a< b)||(a==b&&Sw x y))
   have h1:cA a.toNat b.toNat=decide (a< b):=by rw[tI,EJ,decide_eq_true_iff,UInt8.lt_iff_toNat_lt]
   have h2:ak a.toNat b.toNat=(a==b):=by rw[tI,lk,beq_iff_eq,aem]
   grind
theorem ap5{op:BinOp}{x y:ByteArray}{v:V}(e:Rv op (dN x) (dN y)=ab v)(t:TypeId):lr P w (binOp op t (.string x) (.string y)) v:=by
 have A:seq (dN x) (dN y)=(x.toList==y.toList):=by
  rw[tI,JQ,beq_iff_eq,toList_eq,toList_eq];constructor
  .intro h;rw[LQ h]
  .intro h;simp[dN,h]
 have I:slt (dN x) (dN y)=Sw x.toList y.toList:=by rw[toList_eq,toList_eq];exact apT
 cases op<;>simp only[Rv]at e;case add=>
  rw[bn,bn,xz,xz]at e;obtain⟨h1,e⟩:=aQ e;have h1:=nY h1;cases e;refine⟨_,.string (x++y),rfl,?_,λC=>?_⟩
  .have:¬((x.size+y.size))>Ai.max:=by
    have:Ai.max=9223372036854775807:=by decide
    omega
   simp_all[binOp,Op.stringOp,az,this]
  .exact ⟨_,rfl,by simp[dN,ByteArray.data_append,Array.toList_append,List.map_append],by grind[ByteArray.size_append,eO]⟩
 case eql=>exact .bool e (by rfl) A.symm
 case neq=>exact .bool e (by rfl) (by rw[A])
 case lss=>exact .bool e (by rfl) I.symm
 case leq=>exact .bool e (by rfl) (by rw[A,I])
 case gtr=>exact .bool e (by rfl) (by rw[A,I])
 case geq=>exact .bool e (by rfl) (by rw[I])
 all_goals cases e
end
structure EnvTy(P:Program)(E:Env):Prop where
 ty:∀t ti,E.ty t=ab ti->hZ P t ti
 depth:12< P.depth
section
variable {P:Program} {w:World} {E:Env}
theorem hZ.sizeOf{t:Nat}{ti:TI}(h:hZ P t ti):P.cellsOf t=ti.size:=by
 obtain⟨i,h1,h2,_⟩:=h.info;simp[Program.cellsOf,h1,h2]
theorem zD{t:Nat}{ti:TI}(I:hZ P t ti){X:Cx}{v:V}(U:cq ti v=ag){cs:Array Value}{pre ws post:List Value}(Z:cs.toList=pre++(ws++post))(h:an X v af ws){o:Nat}(J:pre.length=o):
  ∃x,(part t cs o).run P w=.ok x w/\an X v ag [x]:=by
 obtain⟨h1,h2,h3⟩:=kO U;have b:=h.wd;subst J;cases A:v.isAgg with
 |true=>
  refine⟨.agg ws.toArray,?_,(an.xp A).2 ⟨ws.toArray,rfl,by omega⟩⟩
  have hex:cs.extract pre.length (pre.length+ti.size)=ws.toArray:=by
   apply acx.1;simp_all
  simp only[part,eZ,JG I,<-h2,A,iJ,if_true,run_sizeOf I,hex];simp
 |false=>
  obtain⟨x,e,J,r⟩:=h.one h3 A;subst e;refine⟨x,?_,r ag⟩;have a:cs[pre.length]? =ab x:=by
   rw[<-Array.getElem?_toList,Z];simp
  simp only[part,eZ,JG I,<-h2,A,a];simp
theorem Mv(J:EnvTy P E):∀{n t:Nat},mq E n t=ag->∀{d:Nat},n<=d->P.eqGuardType d t=af
 |0,_,h,_,_=>by trivial
 |n+1,t,h,0,a=>by omega
 |n+1,t,h,d+1,a=>by
  unfold mq at h;cases Z:E.ty t with
  |none=>grind
  |some ti=>
   rw[Z]at h;have A:=(J.ty t ti Z).kind;simp at h;split at h
   .rename_i e;simp_all[e,dE,En,A]
   .rename_i e;simp_all[e,dE,En,A]
   .rename_i e;simp_all[e,dE,En,A]
   .rename_i fs e;rw[e]at A;obtain⟨I,b,hf,_⟩:=A;simp only[En,b];rw[<-hf]at h;rw[List.all_eq_true]at h;rw[<-Array.any_toList,List.any_eq_false];intro f U;have:=h _ (List.mem_map.2 ⟨f,U,rfl⟩);simp[Mv J this (by omega:n<=d)]
   .rename_i m e c;rw[c]at A;simp[dE]at A;simp[En,A];exact Mv J h (by omega)
   trivial
theorem Va{n t:Nat}{x y:D}{b:Bool}(h:dW E n t x y=ab b):∃ti,E.ty t=ab ti/\cq ti (.im x)=ag/\cq ti (.im y)=ag:=by
 cases n with
 |zero=>trivial
 |succ n=>
  unfold dW at h;cases A:E.ty t with
  |none=>grind
  |some ti=>
   grind
theorem U9(F:EnvTy P E){C:IV}{n d:Nat}(A:∀{t:Nat} {x y:D} {b:Bool},dW E n t x y=some b→∀{U Z:Value},aN C x true [U]→aN C y true [Z]→(rE d t U Z).run P w=.ok b w){a c:Array Value}:∀(fl:List Field) {o:Nat} {xs e:List D} {b:Bool},(∀f∈fl,f.name≠ "_")→
  dW.qw (fl.map λf=>(f.offset,P.cellsOf f.type,f.type)) o xs e (dW E n)=ab b->∀{pre pre':List Value} {i j:List (List Value)},
  a.toList=pre++i.flatten->c.toList=pre'++j.flatten->pre.length=o->pre'.length=o->bw C xs af i->bw C e af j->(ac4 d a c fl).run P w=.ok b w
 |[],_,[],[],_,_,h,_,_,_,_,_,_,_,_,_,_=>by cases h;rfl
 |[],_,_::_,_,_,_,h,_,_,_,_,_,_,_,_,_,_=>by simp[dW.qw]at h
 |[],_,[],_::_,_,_,h,_,_,_,_,_,_,_,_,_,_=>by trivial
 |f::fl,_,[],_,_,_,h,_,_,_,_,_,_,_,_,_,_=>by trivial
 |f::fl,_,_::_,[],_,_,h,_,_,_,_,_,_,_,_,_,_=>by simp[dW.qw]at h
 |f::fl,o,x::xs,y::e,b,G,h,pre,pre',i,j,H,K,e1,e2,L,M=>by
  simp only[List.map_cons,dW.qw]at h;obtain⟨N,h⟩:=aQ h;have N:=b9 N;split at h
  .rename_i Y b2 I k;cases h;simp only[bw]at L M;obtain⟨l,m,q1,rx1,p⟩:=L;obtain⟨q,r,q2,ry1,s⟩:=M;subst q1;subst q2;obtain⟨ti,ht,k1,k2⟩:=Va I;have J:=F.ty _ _ ht;have Q:an ⟨C,λ_=>ae,λ_=>ae⟩ (.im x) af l:=by trivial
   have S:an ⟨C,λ_=>ae,λ_=>ae⟩ (.im y) af q:=by trivial
   obtain⟨U,p1,T⟩:=zD (w:=w) J k1 (cs:=a) (pre:=pre) (ws:=l) (post:=m.flatten) (by rw[H];simp) Q (o:=f.offset) (by omega)
   obtain⟨Z,p3,W⟩:=zD (w:=w) J k2 (cs:=c) (pre:=pre') (ws:=q) (post:=r.flatten) (by rw[K];simp) S (o:=f.offset) (by omega)
   simp only[an]at T W;have p5:=A I T W;have u:=Q.wd;have v:=S.wd;have hwo:x.wd=y.wd:=by
    have a1:=(kO k1).1;have a2:=(kO k2).1;grind[V.wd]
   simp only[V.wd]at u v;have p6:=U9 F A fl (λg hg=>G g (by simp[hg])) k (pre:=pre++l) (by rw[H];simp) (pre':=pre'++q) (by rw[K];simp) (by simp;omega) (by simp;omega) p s
   have z:f.name≠ "_" :=G f (by simp)
   simp only[ac4,z,ne_eq,not_false_eq_true,if_true,eZ,p1,p3,p5,iJ];cases Y
   .simp
   .simp [p6]
  .cases h
theorem U8(r:EnvTy P E){C:IV}{n d:Nat}(A:∀{t:Nat} {x y:D} {b:Bool},dW E n t x y=ab b->∀{U Z:Value},aN C x ag [U]->aN C y ag [Z]->(rE d t U Z).run P w=.ok b w){a c:Array Value}{el:Nat}{te:TI}(hte:E.ty el=ab te):∀(xs:List D) {o:Nat} {e:List D} {b:Bool},
  dW.sc xs e (dW E n el)=ab b->∀{pre pre':List Value} {f g:List (List Value)},
  a.toList=pre++f.flatten->c.toList=pre'++g.flatten->pre.length=o*te.size->pre'.length=o*te.size->bw C xs af f->bw C e af g->(Op.eqItems d el te.size a c (List.range' o xs.length)).run P w=.ok b w
 |[],_,[],_,h,_,_,_,_,_,_,_,_,_,_=>by cases h;rfl
 |[],_,_::_,_,h,_,_,_,_,_,_,_,_,_,_=>by trivial
 |_::_,_,[],_,h,_,_,_,_,_,_,_,_,_,_=>by trivial
 |x::xs,o,y::e,b,h,pre,pre',f,g,z,F,e1,e2,G,H=>by
  simp only[dW.sc]at h;split at h
  .rename_i K b2 I i;cases h;obtain⟨j,k,L,M,l⟩:=G;obtain⟨m,p,q2,N,q⟩:=H;subst L;subst q2;obtain⟨ti,s,k1,k2⟩:=Va I;rw[hte]at s;cases s;have J:=r.ty _ _ hte;have u:an ⟨C,λ_=>ae,λ_=>ae⟩ (.im x) af j:=by trivial
   have v:an ⟨C,λ_=>ae,λ_=>ae⟩ (.im y) af m:=by trivial
   obtain⟨U,Q,S⟩:=zD (w:=w) J k1 (cs:=a) (pre:=pre) (ws:=j) (post:=k.flatten) (by trivial) u (o:=o*te.size) (by omega)
   obtain⟨Z,T,V⟩:=zD (w:=w) J k2 (cs:=c) (pre:=pre') (ws:=m) (post:=p.flatten) (by trivial) v (o:=o*te.size) (by omega)
   have W:=A I S V;have Y:=u.wd;have hwy:=v.wd;have a1:=(kO k1).1;have a2:=(kO k2).1;have p6:=U8 r A hte xs (o:=o+1) i (pre:=pre++j) (by rw[z];simp) (pre':=pre'++m) (by rw[F];simp) (by grind) (by grind) l q
   simp only[jP,List.range'_succ,Op.eqItems,eZ,Q,T,W,iJ];cases K
   all_goals trivial
  trivial
theorem Mx(Z:EnvTy P E){C:IV}:∀{n t:Nat} {x y:D} {b:Bool},dW E n t x y=ab b->∀{d:Nat},n<=d->∀{g j:Value},aN C x ag [g]->aN C y ag [j]->
  (rE d t g j).run P w=.ok b w
 |0,_,_,_,_,h,_,_,_,_,_,_=>by trivial
 |n+1,t,x,y,b,h,0,k,_,_,_,_=>by omega
 |n+1,t,x,y,b,h,d+1,k,g,j,I,J=>by
  unfold dW at h;cases q:E.ty t with
  |none=>grind
  |some ti=>
   rw[q]at h;replace h:=aQ h;obtain⟨u,h⟩:=h;have l:=Z.ty t ti q;have U:=l.kind;split at h
   .rename_i e;simp_all[e,dE,aN,run_equalIn_bool',U]
   .rename_i e;rw[e]at U;obtain⟨I,_⟩:=I;obtain⟨J,_⟩:=J;cases I;cases J;obtain⟨v,h⟩:=aQ h;cases h;rw[<-sB v,og];exact run_equalIn_int _ _ _ _ _ _ _ U
   .rename_i e;rw[e]at U;obtain⟨W,I,z,_⟩:=I;obtain⟨Y,J,F,_⟩:=J;cases I;cases J;cases h;rw[run_equalIn_string _ _ _ _ _ U];subst z;subst F;congr 1;rw[tI,JQ,beq_iff_eq,toList_eq,toList_eq];constructor
    .intro h;simp[dN,h]
    .intro h;rw[LQ h]
   .rename_i fs G xs H K e;rw[e]at U;obtain⟨A,r,hf,L,hp⟩:=U;have a:P.fieldsOf t=A:=by simp[Program.fieldsOf,r]
    obtain⟨M,N,ex,Q,I,_⟩:=I;obtain⟨S,T,p,V,J,_⟩:=J;cases ex;cases p;rw[run_equalIn_struct _ _ _ _ _ (by simp[a,r]) hp,a]
    rw[<-hf]at h;refine U9 Z (λh=>Mx Z h (adY k)) A.toList (λf hf=>(L f hf).1) h (pre:=[]) (by trivial) (pre':=[]) (by trivial) rfl rfl I J
   .rename_i m el G xs H K e;rw[e]at U;cases hte:E.ty el with
    |none=>grind
    |some te=>
     rw[hte]at h;obtain⟨s,h⟩:=aQ h;rw[aM,bn,bn]at s;obtain⟨M,N,ex,Q,I,_⟩:=I;obtain⟨S,T,p,V,J,_⟩:=J;cases ex;cases p;have c:=Z.ty _ _ hte;obtain⟨i,hi,_⟩:=c.info;have h1:=b9 s.1;rw[run_equalIn_array _ _ _ _ U hi,List.range_eq_range',c.sizeOf,<-h1];exact U8 Z (λh=>Mx Z h (adY k)) hte xs (o:=0) h (pre:=[]) (by trivial) (pre':=[]) (by trivial) (by simp) (by simp) I J
   trivial
end
end
end Go.As
end
