/- A part of the proof. -/
import Derived.Test.YtohdkalmpfmcmaaGreatDoorA2
import Derived.RecoverIn
import Derived.Scope
set_option linter.all false
open Array renaming getD_eq_getD_getElem?->ka,getElem?_eq_none->agV,getElem?_eq_some_iff->Mn,getElem?_toList->ve,replicate->qb,toList_append->rA
open Bool renaming and_eq_true->aM,false->af,not_eq_true'->yi,or_eq_true->kc,true->ag
open Go.Call renaming operands->ni
open Go.CallsIn renaming mono->yk
open Go.Deferred renaming ofValue->F5
open Go.Op renaming operands->bw
open Go.Oper renaming semAt_none->ahm,uponIn->ahn
open Go.Region renaming binds->vj,ready->Mz,wanted->th
open Go.RoundIn renaming mono->ahr
open Go.Value renaming func->MC
open Go.World renaming alloc_heap_new->MD
open List renaming all_eq_true->lI,append_assoc->mj,cons_append->ahR,drop_drop->rF,getElem?_append_left->gP,getElem?_cons_succ->Vn,getElem?_cons_zero->ahU,getElem?_drop->yz,getElem?_eq_getElem->gD,getElem?_eq_none->jF,getElem?_eq_some_iff->e7,getElem?_set->vt,getElem?_take->pc,length->MI,length_append->dH,length_cons->fH,length_drop->n9,length_nil->yB,length_set->fQ,length_take->gi,map_congr_left->ahZ,mem_append->cD,mem_cons->du,mem_of_getElem?->jG,pairwise_cons->Gj,range'->Vt,rec->bn,take_add_one->yD
open List.Pairwise renaming nil->Vm
open List.Sublist renaming refl->awV
open List.cons renaming inj->yy
open Nat renaming add_assoc->ah5,add_comm->Gk,beq->al,beq_eq->mr,beq_refl->gj,ble->bu,blt->cQ,le_of_ble_eq_true->jl,le_of_lt->dj,le_refl->aL,le_trans->b8,lor->vy,lt_irrefl->gE,lt_of_lt_of_le->fY,lt_or_ge->jH,ne_of_lt->aio,strongRecOn->aiu,testBit->oc,testBit_or->aiw,zero_add->db,zero_le->bH
open Ne renaming symm->BS
open Option renaming bind_eq_some_iff->ay,bind_some->ah,map_eq_some_iff->cE,map_map->Gq,map_some->jJ,none->ae,some->ab
open Option.some renaming inj->hH,injEq->iV
noncomputable section
namespace Go.As
open Go.RowKit (Below)
section
variable [Gh]
structure dJ(F:Fence):Prop where
 fn:∀f,F.fn f
 depth:F.depth=ae
 round:F.round=ae
theorem dJ.room{F:Fence}{n:Nat}(h:dJ F):F.depth.isSome=ag->1<=n:=λe=>by grind[h.depth]
theorem dJ.wide:dJ Fence.wide:=⟨λ_=>trivial,rfl,rfl⟩
def vB(F:Fence)(n:Nat)(P:Program)(f:FuncId)(args:Array Value)(w:World)(R:Value->World->Prop):Prop:=
 CallsIn F n P f args w λ
  |.returned v,w'=>R v w'
  |_,_=>False
theorem vB.mono{F:Fence}{n:Nat}{P:Program}{f:FuncId}{args:Array Value}{w:World}{R A:Value->World->Prop}(h:vB F n P f args w R)(I:∀v w',R v w'->A v w'):vB F n P f args w A:=
 yk h λe w' he=>by grind
def tz(B:Nat)(X:Cx)(O:Nat->Addr->Prop)(w:World)(h:Heap)(v:V)(h':Heap)(x:Value)(w':World):Prop:=
 ∃X' O',HR B X' O' w' h'/\aq X' v ag [x]/\Step B X O w h X' O' w' h'
def fR(F:Fence)(n:Nat)(P:Program)(B:Nat)(X:Cx)(O:Nat->Addr->Prop)(w:World)(h:Heap)(m:Sem Next)(v:V)(h':Heap):Prop:=
 yL P B X O w h m v h'∨∃f args,m.run P w=.ok (.enter f args) w/\vB F n P f args w (tz B X O w h v h')
def sB(nt:Nat)(o:Oper):Bool:=(match o.dst with|some d=>cQ d nt|none=>ag)&&o.op.operands.toList.all mU
def gY:Code->Bool
 |.region _ ops _=>ops.toList.all λo=>match o.op with|.defer _=>af|_=>ag
 |.seq a b=>gY a&&gY b
 |.cond _ a b=>gY a&&gY b
 |.block _ b=>gY b
 |.loop b=>gY b
 |.scope b=>gY b
 |.rangeFunc _ _ a b=>gY a&&gY b
 |_=>ag
def codeOk(E:Env)(f nt:Nat):Code->Bool
 |.region id ops A=>ops.toList.all (sB nt)&&(bif A then(match E.dr f id with|some ds=>HI E ops ds|none=>ag)else ag)
 |.seq a b=>codeOk E f nt a&&codeOk E f nt b
 |.cond c a b=>mU c&&(codeOk E f nt a&&codeOk E f nt b)
 |.block _ b=>codeOk E f nt b
 |.loop b=>codeOk E f nt b
 |.scope b=>codeOk E f nt b
 |.rangeFunc g ps a b=>mU g&&(ps.toList.all (λp=>cQ p nt)&&((codeOk E f nt a&&gY a)&&(codeOk E f nt b&&gY b)))
 |_=>ag
def vD(F:Fence)(P:Program)(g:Nat)(ds:List D)(d:D):Prop:=
 ∀(n:Nat) (C:IV) (w:World) (args:Array Value),CI C w->a8 (λd x=>aR C d ag [x]) ds args.toList->
  vB F n P g args w λx w'=>∃C',C.le C'/\CI C' w'/\Below w.heap.size w w'/\(∀a v,C' a=ab v->C a=ae->w.heap.size<=a.block)/\aR C' d ag [x]
structure gF(F:Fence)(P:Program)(E:Env):Prop extends EnvTy P E where
 mixed:P.follows .mixedOrders=ag
 gh:∀f nt c,Gh.K f nt c↔(codeOk E f nt c=ag/\gY c=ag)
 fn:∀f fn,E.fn f=some fn→P.funcs[f]? =some fn∧(fn.name== "runtime.NumGoroutine")=false∧∀c,fn.body=some c→codeOk E f fn.ntmps c=true
 sm:∀g S,E.sm g=some S→(∃fn c,P.funcs[g]? =some fn∧fn.body=some c∧(fn.name== "runtime.NumGoroutine")=false)∧∀ds d,S ds=some d→vD F P g ds d
 ext:∀g,E.ext g≠0->∀(n B:Nat) (X:Cx) (O:Nat->Addr->Prop) (w:World) (h:Heap),HR B X O w h->∀(xs:List V) (args:Array Value),a8 (λv x=>aq X v ag [x]) xs args.toList->∀v h',ld (E.ext g) xs h=ab (v,h')->
  fR F n P B X O w h (callFunc g args) v h'
 clone:∀g sz,E.clone g=ab sz->∀(n B:Nat) (X:Cx) (O:Nat->Addr->Prop) (w:World) (h:Heap),HR B X O w h->∀(xs:List V) (args:Array Value),a8 (λv x=>aq X v ag [x]) xs args.toList->
  ∀aC,ar h aC=ae->X.M aC=ae->aC<=h.length->∀v h',zo E aC sz xs h=ab (v,h')->fR F n P B X O w h (callFunc g args) v h'
def MR(X:Cx)(O:Nat->Addr->Prop)(w:World)(h:Heap)(p:Nat×List V)(d:Deferred):Prop:=
 (lY p=ag/\∃D bi,d.target=.collected D/\w.heap[D]? =ab (.deferred (ab []))/\X.M p.1=ab bi/\ar h p.1=ae/\O p.1 ⟨D,0,ae⟩)∨
 (lY p=af/\∃cap,d.target=.fn (.func p.1) cap/\a8 (λv x=>aq X v ag [x]) p.2 (d.args++cap).toList)
def aiA(d d':Deferred):Prop:=∀D,d.target=.collected D->d'.target≠.collected D
def DF(X:Cx)(O:Nat->Addr->Prop)(w:World)(h:Heap)(ds:List Deferred)(df:List (Nat×List V)):Prop:=a8 (MR X O w h) df ds/\ds.Pairwise aiA
structure SR(nt B:Nat)(X:Cx)(O:Nat->Addr->Prop)(w:World)(a:Act)(st:St):Prop where
 t:TR X st.t a.tmps
 n:a.tmps.size=nt
 h:HR B X O w st.h
 df:DF X O w st.h a.defers st.df
 lp:st.lp=[]
section
variable {F:Fence} {P:Program} {B:Nat} {X:Cx} {O:Nat->Addr->Prop} {w:World} {h:Heap} {E:Env}
theorem Uz{n:Nat}{X Y:Cx}(I:X.lt n)(A:X.le n Y){l:List V}{xs:List Value}(h:a8 (λv x=>aq X v ag [x]) l xs):a8 (λv x=>aq Y v ag [x]) l xs:=
 h.imp λv x r=>aq.mono A _ _ _ (aq.low I _ _ _ r) r
theorem DF.step{X':Cx}{O':Nat->Addr->Prop}{w':World}{h':Heap}(Z:X.lt h.length)(A:Step B X O w h X' O' w' h'){ds:List Deferred}{df:List (Nat×List V)}(d:DF X O w h ds df):DF X' O' w' h' ds df:=
 ⟨d.1.imp λp d h=>h.elim (λ⟨hm,D,bi,c,f,I,J,U⟩=>.inl ⟨hm,D,bi,c,A.fr.obj p.1 bi I J D U _ f rfl,A.fr.M _ _ I J,A.fr.fm _ _ I J,A.fr.own _ _ I J _ U⟩)
  (λ⟨hm,cap,e,r⟩=>.inr ⟨hm,cap,e,Uz Z A.up.le r⟩),d.2⟩
theorem atA(v:V)(l:List V)(i:Nat)(t:Tm):xt (v::l) i t=xt l (i+1) (t.set i v):=rfl
theorem adT:∀(l:List V) (i:Nat) (t:Tm) (j:Nat),((xt l i t).get j=t.get j/\(j< i∨i+l.length<=j))∨(∃v,l[j-i]? =ab v/\i<=j/\((xt l i t).get j=v∨(xt l i t).get j=.undef))
 |[],i,t,j=>.inl ⟨rfl,by simp;omega⟩
 |v::l,i,t,j=>by
  rw[atA];rcases adT l (i+1) (t.set i v) j with⟨e,I⟩|⟨u,J,I,e⟩
  .by_cases A:j=i
   .subst A;refine .inr ⟨v,by simp,aL _,?_⟩
    rw[e];exact Tm.YU t j v
   .refine .inl ⟨by rw[e];exact Tm.Pf t i j v A,?_⟩
    grind
  grind
theorem avQ{l:List V}{args:Array Value}(h:a8 (λv x=>aq X v ag [x]) l args.toList)(nt:Nat):TR X (jd nt l) (args++qb (nt-args.size) undef):=λi=>by
 unfold jd;rcases adT l 0 (Tm.mk (Oy nt)) i with⟨e,hi⟩|⟨v,U,_,e⟩
 .simp[e,Tm.amj,Bp]
 .obtain ⟨x,Z,c⟩:=h.get (i:=i) (x:=v) (by omega)
  have J:(args++qb (nt-args.size) undef).getD i undef=x:=by
   have A:args[i]? =ab x:=by grind
   have I:=(Mn.1 A).1;rw[ka,Array.getElem?_append_left I,A];rfl
  rw[J];rcases e with e|e<;>rw[e]
  all_goals trivial
theorem T2(I:HR B X O w h){l:List V}{args:Array Value}(A:a8 (λv x=>aq X v ag [x]) l args.toList){nt:Nat}(J:bu (aF l) nt=ag):
  SR nt B X O w {tmps:=args++qb (nt-args.size) undef,defers:=[]} ⟨jd nt l,h,[],[]⟩:=by
 refine⟨avQ A nt,?_,I,⟨a8.nil,Vm⟩,rfl⟩;have:=rY J;grind[bz,A.len,Array.length_toList]
def Li(tmps:Array Value):ResultVar->Sem Value
 |.tmp t=>pure (tmps.getD t undef)
 |.cell a t=>do loadVar t (<-asAddr (tmps.getD a undef))
theorem auJ(fn:Func)(tmps:Array Value):results fn tmps=(do let vs<-fn.results.mapM (Li tmps);pure (if h:vs.size=1 then vs[0]else .tuple vs)):=by
 rfl
theorem auH(U:EnvTy P E)(Z:HR B X O w h){t:Tm}{tmps:Array Value}(J:TR X t tmps){r:ResultVar}{v:V}(e:A3 E h t r=ab v):
  ∃x,(Li tmps r).run P w=.ok x w/\aq X v ag [x]:=by
 unfold A3 at e;cases r with
 |tmp i=>cases e;exact⟨_,rfl,J i⟩
 |cell a ty=>
  simp at e;split at e
  .rename_i b g p ti c A;obtain⟨u,d,e⟩:=ay.1 e;obtain⟨I,e⟩:=aU e;cases e;have:=J a;rw[c]at this;obtain⟨y,f,j⟩:=this;obtain⟨C,ws,l,D,q,s⟩:=abw Z d j;obtain⟨x,G,z⟩:=TB (P:=P) (U.ty _ _ A) I q s;refine⟨x,?_,z⟩;unfold Li;simp[(yy f).1,l];trivial
  trivial
theorem axz(r:ResultVar)(l:List ResultVar)(t:Tm):xJ E h t (r::l)=(A3 E h t r).bind λv=>(xJ E h t l).map (v:: ·):=rfl
theorem aeW(I:EnvTy P E)(J:HR B X O w h){t:Tm}{tmps:Array Value}(U:TR X t tmps):∀{l:List ResultVar} {vs:List V},xJ E h t l=ab vs->
  ∃xs,(l.mapM (Li tmps)).run P w=.ok xs w/\a8 (λv x=>aq X v ag [x]) vs xs
 |[],vs,e=>by simp_all[xJ,a8.nil]
 |r::l,vs,e=>by
  obtain⟨v,Z,e⟩:=ay.1 e;obtain⟨c,A,e⟩:=cE.1 e;subst e;obtain⟨x,h1,h2⟩:=auH I J U Z;obtain⟨xs,f,d⟩:=aeW I J U A;refine⟨x::xs,?_,a8.cons h2 d⟩;simp_all
theorem awj{vs:List V}{xs:List Value}(h:a8 (λv x=>aq X v ag [x]) vs xs):aq X (.aH vs) ag [.tuple xs.toArray]:=by
 have A:∀l:List Value,(l.map λx=>[x]).flatten=l:=by intro l;induction l<;>simp_all
 refine⟨xs.toArray,xs.map λx=>[x],rfl,?_,by rw[A]⟩
 induction vs generalizing xs with
 |nil=>cases h;rfl
 |cons v vs ih=>obtain⟨x,r,rfl,h1,h2⟩:=h;simp[bM];grind
theorem Lj(U:EnvTy P E)(Z:HR B X O w h){t:Tm}{tmps:Array Value}(c:TR X t tmps){fn:Func}{v:V}(e:me E h fn t=ab v):∃x,(results fn tmps).run P w=.ok x w/\aq X v ag [x]:=by
 obtain⟨vs,I,e⟩:=cE.1 e;obtain⟨xs,h1,h2⟩:=aeW U Z c I;have A:(results fn tmps).run P w=.ok (if h:xs.toArray.size=1 then xs.toArray[0]else .tuple xs.toArray) w:=by
  simp[auJ,Array.mapM_eq_mapM_toList,Sem.run_bind,Sem.run_map,h1]
 split at e
 .obtain ⟨x,r,rfl,g,d⟩:=h2;cases d;grind
 .rename_i J;subst e;have j:=h2.len;refine⟨.tuple xs.toArray,?_,aiY (awj h2)⟩;rw[A,dif_neg];intro f;have:vs.length=1:=by grind
  obtain⟨v,rfl⟩:=List.length_eq_one_iff.1 this;exact J v rfl
end
def mv:Ex->Exit->Prop
 |.nm,.normal=>True
 |.exit i,.exit j=>i=j
 |.ret,.ret=>True
 |_,_=>False
def yM(nt B:Nat)(X:Cx)(O:Nat->Addr->Prop)(w:World)(st:St)(r:Ex×St):Exit->Act->World->Prop:=λe A w'=>
 mv r.1 e/\∃X' O',SR nt B X' O' w' A r.2/\Step B X O w st.h X' O' w' r.2.h
def si(F:Fence)(rd:Option Nat):Fence:={F with round:=rd}
theorem alK{F:Fence}(hF:dJ F):si F ae=F:=by
 have:=hF.round;cases F;simp_all[si,this]
def qm(w:World)(fb:Nat)(c:Code):Option Nat->Prop
 |none=>fb=0
 |some l=>fb≠0/\gY c=ag/\∃r,w.heap[l]? =ab (.loop r)
def jL(F:Fence)(P:Program)(E:Env)(ih:Nat->Nat->Nat->Code->St->Option (Ex×St)):Prop:=
 ∀(f fb cur:Nat) (c:Code) (st:St) (r:Ex×St),ih f fb cur c st=ab r->∀nt,codeOk E f nt c=ag->∀(n B:Nat) (X:Cx) (O:Nat->Addr->Prop) (w:World) (a:Act),SR nt B X O w a st->∀rd,qm w fb c rd->c.wpIn (si F rd) n P (yM nt B X O w st r) a w
theorem jL.out{F:Fence}{P:Program}{E:Env}{ih:Nat->Nat->Nat->Code->St->Option (Ex×St)}(A:jL F P E ih)(hF:dJ F){f cur:Nat}{c:Code}{st:St}{r:Ex×St}(e:ih f 0 cur c st=ab r){nt:Nat}(I:codeOk E f nt c=ag)
  (n B:Nat) (X:Cx) (O:Nat->Addr->Prop) (w:World) (a:Act) (s:SR nt B X O w a st):c.wpIn F n P (yM nt B X O w st r) a w:=by
 have:=A f 0 cur c st r e nt I n B X O w a s ae rfl;simp_all[alK,hF]
section
variable {F:Fence} {P:Program} {B:Nat} {X:Cx} {O:Nat->Addr->Prop} {w:World} {h:Heap} {E:Env} {ih:Nat->Nat->Nat->Code->St->Option (Ex×St)}
theorem SR.step{nt:Nat}{a:Act}{st:St}(s:SR nt B X O w a st){X':Cx}{O':Nat->Addr->Prop}{w':World}{h':Heap}(I:HR B X' O' w' h')(A:Step B X O w st.h X' O' w' h'):SR nt B X' O' w' a ⟨st.t,h',st.lp,st.df⟩:=
 ⟨s.t.mono s.h.lt A.up.le,s.n,I,s.df.step s.h.lt A,s.lp⟩
theorem SR.put{nt:Nat}{a:Act}{st:St}(s:SR nt B X O w a st){dst:Option Nat}(A:∀d,dst=ab d->d< nt){v:V}{x:Value}(r:aq X v ag [x]):SR nt B X O w (a.put dst x) ⟨putDst st.t dst v,st.h,st.lp,st.df⟩:=
 ⟨s.t.put (λd e=>by rw[s.n];exact A d e) r,by simp[atI,s.n],s.h,by simp[atH,s.df],s.lp⟩
theorem YZ{t:Tm}{a:Act}(Z:TR X t a.tmps){ops:Array Oper}{o:Oper}{b:Bool}(e:guardOf ops t o.guard=ab b):th o (yielded ops a.tmps)=b:=by
 unfold guardOf at e;unfold th;cases f:o.guard with
 |none=>grind
 |some g=>
  obtain⟨j,A⟩:=g;rw[f]at e;simp only at e|-;obtain⟨r,l,e⟩:=ay.1 e;obtain⟨d,s,e⟩:=ay.1 e;rw[cu]at l;have p:yielded ops a.tmps j=(match a.tmps[d]? with|some (.bool b)=>ab b|_=>ae):=by
   unfold yielded;grind
  have I:=Z d;split at e
  .rename_i c J;rw[J]at I;have q:=(yy I).1;have x:a.tmps[d]? =ab (.bool c):=by
    rw[ka]at q;cases U:a.tmps[d]? with
    |none=>simp_all[U,undef]
    |some y=>grind
   cases c<;>cases A<;>simp_all
  .rename_i J;rw[J]at I;simp[aq,aR]at I;cases e;rw[p];have:∀c,a.tmps[d]?≠ab (.bool c):=λc U=>by
    simp_all
   simp
  trivial
theorem rZ{g:Nat}{fn:Func}{c:Code}(hf:P.funcs[g]? =some fn)(I:fn.body=some c)(J:(fn.name== "runtime.NumGoroutine")=false)(args:Array Value):(callFunc g args).run P w=.ok (.enter g args) w:=by
 have A:¬fn.name= "runtime.NumGoroutine" :=λe=>by grind
 simp[callFunc,hf,A,I]
theorem zq(I:HR B X O w h){C:IV}{S:Nat->Prop}(J:rM X w h C S):∀{l:List V} {ds:List D} {xs:List Value},nD h l=ab ds->(∀v∈l,∀b∈v.owns,S b)->a8 (λv x=>aq X v ag [x]) l xs->a8 (λd x=>aR C d ag [x]) ds xs
 |[],ds,xs,e,_,r=>by simp[nD]at e;subst e;trivial
 |v::l,ds,xs,e,U,r=>by
  obtain⟨d,Z,e⟩:=ay.1 e;obtain⟨c,A,e⟩:=cE.1 e;subst e;obtain⟨x,p,rfl,f,g⟩:=r;exact a8.cons (wg I J Z (U v (by simp)) f) (zq I J A (λu j=>U u (by simp[j])) g)
theorem asY(v:V)(l:List V):V.nT (v::l)=(match v with|.im _=>V.nT l|v=>v.owns++V.nT l):=rfl
theorem ac3{v:V}{l:List V}(A:v∈l){b:Nat}(I:b∈v.owns):b∈V.nT l:=by
 induction l with
 |nil=>cases A
 |cons u l ih=>
  rw[asY];rcases du.1 A with rfl|A
  .cases v<;>first|(cases I;done)|grind
  grind
mutual
theorem D.C7{C C':IV}:∀(d:D) (m:Bool) (vs:List Value),d.flat=ag->aR C d m vs->aR C' d m vs
 |.bool _,_,_,_,k|.nil,_,_,_,k|.fn _,_,_,_,k|.dD,_,_,_,k|.eE,_,_,_,k|.mN,_,_,_,k|.int _ _,_,_,_,k|.str _,_,_,_,k=>by simpa[aR]using k
 |.ref _,_,_,h,_=>by simp[D.flat]at h
 |.an _,_,_,h,_=>by simp[D.flat]at h
 |.agg w l,ag,_,h,k=>by
  simp only[aR]at k|-
  obtain⟨cs,A,e,h1,h2,I⟩:=k
  exact⟨cs,A,e,h1,D.H0 l af A (by simpa[D.flat]using h) h2,I⟩
 |.agg w l,af,_,h,k=>by
  simp only[aR]at k|-
  obtain⟨A,e,h2,I⟩:=k
  exact⟨A,e,D.H0 l af A (by simpa[D.flat]using h) h2,I⟩
 |.aH l,ag,_,h,k=>by
  simp only[aR]at k|-
  obtain⟨J,A,e,h2,I⟩:=k
  exact⟨J,A,e,D.H0 l ag A (by simpa[D.flat]using h) h2,I⟩
 |.aH l,af,_,_,k=>by simp[aR]at k
 |.ifc t d,_,_,h,k=>by
  simp only[aR]at k|-
  obtain⟨x,e,r⟩:=k
  exact⟨x,e,D.C7 d ag [x] (by simpa[D.flat]using h) r⟩
theorem D.H0{C C':IV}:∀(l:List D) (m:Bool) (A:List (List Value)),D.mG l=ag->bI C l m A->bI C' l m A
 |[],_,_,_,k=>by simpa[bI]using k
 |d::l,m,_,h,k=>by
  simp only[D.mG,aM]at h
  simp only[bI]at k|-
  obtain⟨ws,r,e,h1,h2⟩:=k
  exact⟨ws,r,e,D.C7 d m ws h.1 h1,D.H0 l m r h.2 h2⟩
end
theorem Pj(I:HR B X O w h){w':World}{C':IV}(hC:X.C.le C')(J:CI C' w')(U:Below w.heap.size w w')(hf:∀a v,C' a=ab v->X.C a=ae->w.heap.size<=a.block):
  HR B (X.jf C') O w' h/\Step B X O w h (X.jf C') O w' h:=by
 have A:=eJ.Ax U;have Z:∀b a,O b a->C' a=ae:=λb a o=>by
  obtain⟨_,h2,c⟩:=I.own b a o;cases e:C' a with
  |none=>rfl
  |some v=>grind
 refine⟨(I.keep A U.size).more hC J Z,⟨⟨hC,λ_ bi _ e=>⟨bi,e,aL _,λ_=>rfl,λ_=>rfl⟩,λ_ _ e=>e⟩,U.mono I.wb,λa v e Z=>b8 I.wb (hf a v e Z),λr o e _=>A.obj r o e⟩,aL _,?_⟩
 exact⟨λ_ _ _ e=>e,λ_ _ e _=>e,λ_ _ _ _ _ o=>o,λ_ _ _ _ _ _ _ e=>⟨A.cell _ _ e,A.frozen _ _ e⟩,λ_ _ _ _ _ _ _ e _=>A.obj _ _ e,λ_ e=>e,λ_ _ e _=>e⟩
theorem Im(J:HR B X O w h){w':World}(A:Below w.heap.size w w'):HR B X O w' h/\Step B X O w h X O w' h:=by
 have I:=eJ.Ax A;exact⟨J.keep I A.size,⟨.refl _ _,A.mono J.wb,λa v e U=>(by grind),λr o e _=>I.obj r o e⟩,aL _,.keep I⟩
theorem Tw{f:Nat}{args:List V}{lp:List Rec}{fn:Func}{st:St}(e:m9 E ih f args h lp=ab (fn,st)):
  ∃c r,E.fn f=ab fn/\fn.body=ab c/\bu (aF args) fn.ntmps=ag/\ih f 0 0 c ⟨jd fn.ntmps args,h,lp,[]⟩=ab (r,st)/\(r=.nm∨r=.ret):=by
 obtain⟨A,hf,e⟩:=ay.1 e;obtain⟨c,J,e⟩:=ay.1 e;cases I:bu (aF args) A.ntmps with
 |false=>grind
 |true=>
  rw[I]at e;split at e
  .cases e
  .rename_i ex U Z d;cases e;refine⟨c,ex,hf,J,I,d,?_⟩;cases ex with
   |nm=>trivial
   |ret=>trivial
   |exit i=>grind
  trivial
theorem agB(X:Cx):aq X (.im (.aH [])) ag [undef]:=by exact⟨#[],[],rfl,by rfl,rfl⟩
theorem pO{n:Nat}(A:n=h.length):ar h n=ae:=by grind[cy]
theorem oL(A:HR B X O w h):X.M h.length=ae:=by
 cases e:X.M h.length<;>first|exact absurd (A.lt _ _ e) (gE _)|rfl
theorem RU{nt:Nat}{o:Oper}(h:sB nt o=ag):(∀d,o.dst=ab d->d< nt)/\∀x∈o.op.operands.toList,mU x=ag:=by
 unfold sB at h;rw[aM]at h;refine⟨λd e=>?_,λx A=>lI.1 h.2 x A⟩
 simp_all
theorem akO{nt:Nat}{a:Act}{st:St}(s:SR nt B X O w a st){c:Operand}(A:mU c=ag){t:Bool}(e:ev st.t c=.im (.bool t)):a.eval c=.bool t:=by
 have:=sg s.t A;rw[e]at this;simp[aq,aR]at this;grind
end
section
variable {F:Fence} {P:Program} {B:Nat} {X:Cx} {O:Nat->Addr->Prop} {w:World} {h:Heap} {E:Env} {ih:Nat->Nat->Nat->Code->St->Option (Ex×St)}
def Sub(v h:Heap):Prop:=∀b k,ar v b=ab k->ar h b=ab k
theorem HR.view(A:HR B X O w h){v:Heap}(I:Sub v h)(J:v.length=h.length):HR B X O w v:=
 ⟨λb k e=>A.dO b k (I b k e),A.own,A.gJ,by simp[J,A.lt],A.ci,A.wb⟩
theorem BR.known{b:Nat}{k:cj}{Q:Addr->Prop}(h:BR X w Q b k):∃bi,X.M b=ab bi:=by
 cases k<;>first|obtain⟨bi,_,_,h,_⟩:=h;exact⟨bi,h⟩|obtain⟨bi,h,_⟩:=h;exact⟨bi,h⟩|obtain⟨bi,_,_,_,h,_⟩:=h;exact⟨bi,h⟩|rename_i f t ps bT body;obtain⟨bi,_,_,h,_⟩:=h;exact⟨bi,h⟩
theorem Ux(j:HR B X O w h){v Z h':Heap}{X':Cx}{O':Nat->Addr->Prop}{w':World}(l:Sub v h)(d:v.length=h.length)(c:h'.length=Z.length)(A:HR B X' O' w' Z)(st:Step B X O w v X' O' w' Z)
  (h1:∀b k,ar h' b=ab k->(ar h b=ab k/\ar v b=ae)∨ar Z b=ab k) (h2:∀b,ar h' b=ae->ar h b=ae/\ar Z b=ae):
  HR B X' O' w' h'/\Step B X O w h X' O' w' h':=by
 have I:∀b,ar h b=ae->ar v b=ae:=λb e=>by
  cases p:ar v b<;>first|rfl|rename_i k;rw[l b k p]at e;cases e
 refine⟨⟨λb k e=>?_,A.own,A.gJ,by simp[c,A.lt],A.ci,A.wb⟩,⟨by rw[<-d];exact st.up,by rw[<-d,c];exact st.len,?_⟩⟩
 .rcases h1 b k e with⟨U,q⟩|U
  .have f:=j.dO b k U;obtain⟨bi,g⟩:=f.known;exact BR.al4 st.fr A.ci g q f (by simp[d,j.lt]) st.up.le
  .exact A.dO b k U
 .refine ⟨λb bi e J=>?_,λb bi e J=>st.fr.M b bi e (I b J),λb bi e J=>st.fr.own b bi e (I b J),λb bi e J=>st.fr.cell b bi e (I b J),λb bi e J=>st.fr.obj b bi e (I b J),λb e=>(h2 b e).1,λb f e J=>st.fr.rp b (by omega) e (h2 b J).2⟩
  cases r:ar h' b with
  |none=>rfl
  |some k=>
   rcases h1 b k r with⟨U,_⟩|U
   .grind
   .rw [st.fr.fm b bi e (I b J)]at U;cases U
theorem DF.D8{ds:List Deferred}(d:DF X O w h ds []):ds=[]:=by
 have:=d.1;trivial
def BZ(F:Fence)(n:Nat)(P:Program)(B:Nat)(X:Cx)(O:Nat->Addr->Prop)(w:World)(h:Heap)(m:Sem Next)(v:V)(h':Heap):Prop:=
 ∃l f tmps bT body,m.run P w=.ok (.round l f tmps bT body) w/\RoundIn F n P l f tmps bT body w λ
  |.returned x,w'=>tz B X O w h v h' x w'
  |_,_=>False
theorem BZ.upon(hF:dJ F){n:Nat}{o:Oper}{a:Act}{K:Act->World->Prop}{Q:Exit->Act->World->Prop}{m:Sem Next}{v:V}{h':Heap}(hm:BZ F (n-1) P B X O w h m v h')
  (J:∀x w',tz B X O w h v h' x w'->K (a.put o.dst x) w'):o.uponIn F n P a K Q (m.run P w):=by
 obtain⟨l,f,tmps,bT,body,A,I⟩:=hm;rw[A];exact⟨hF.room,ahr I λe w' he=>by grind⟩
theorem Step.round{v z D:Heap}{g G:Cx}{H K:Nat->Addr->Prop}{U Z:World}(T:HR B X O w v){b l:Nat}{r d:Loop}(W:O b ⟨l,0,ae⟩)(Y:w.heap[l]? =ab (.loop r))
  (A:Step B X O w v g H U z) (J:Step B g H (eH U l (.loop d)) z G K Z D):Step B X O w v G K (eH Z l (.loop r)) D:=by
 have hB:=(T.own b _ W).1;have j:=A.up.obj l _ Y rfl;have p:(eH U l (.loop d)).heap[l]? =ab (.loop d):=Aw j;have s:=J.up.obj l _ p rfl;have l3:(eH Z l (.loop r)).heap[l]? =ab (.loop r):=Aw s;have z1:=A.up.below.size;refine⟨⟨A.up.le.trans (J.up.le.less A.len),A.up.below.trans ((Eh U _ hB).trans (J.up.below.trans (Eh Z _ hB))),λa u e I=>?_,λq o e lp=>?_⟩,b8 A.len J.len,
  ⟨λc ci e I=>J.fr.fm c ci (A.fr.M c ci e I) (A.fr.fm c ci e I),λc ci e I=>J.fr.M c ci (A.fr.M c ci e I) (A.fr.fm c ci e I),λc ci e I a o=>J.fr.own c ci (A.fr.M c ci e I) (A.fr.fm c ci e I) a (A.fr.own c ci e I a o),
   λc ci e I a o u eu=>?_,λc ci e I q o L eo N=>?_,λc e=>A.fr.o7 c (J.fr.o7 c e),λc R e I=>J.fr.rp c (fY R A.len) (A.fr.rp c R e (J.fr.o7 c I)) I⟩⟩
 .cases S:g.C a with
  |none=>exact J.up.fresh a u e S
  |some x=>exact A.up.fresh a x S I
 .by_cases f:q=l
  .grind
  .have h1:=A.up.obj q o e lp;rw[<-kO U (.loop d) f]at h1;have h2:=J.up.obj q o h1 lp;rw[kO Z _ f];omega
 .obtain ⟨p1,q1⟩:=A.fr.cell c ci e I a o u eu;have y:(eH U l (.loop d)).cell? a=ab u:=by rw[uI j rfl rfl];omega
  obtain⟨p2,q2⟩:=J.fr.cell c ci (A.fr.M c ci e I) (A.fr.fm c ci e I) a (A.fr.own c ci e I a o) u y;rw[uI s rfl rfl,Av s rfl rfl];rw[Av j rfl rfl]at q2;grind
 .by_cases f:q=l
  .grind
  .have h1:=A.fr.obj c ci e I q o L eo N;rw[<-kO U (.loop d) f]at h1;have h2:=J.fr.obj c ci (A.fr.M c ci e I) (A.fr.fm c ci e I) q (A.fr.own c ci e I _ o) L h1 N;rw[kO Z _ f];omega
theorem axw(xs:List V)(t:Tm):AM [] xs t=(match xs with|[]=>ab t|_=>ae):=rfl
theorem atF(p:Nat)(ps:List Nat)(xs:List V)(t:Tm):AM (p::ps) xs t=(match xs with|[]=>ae|x::xs=>AM ps xs (t.set p x)):=rfl
theorem adZ:∀{ps:List Nat} {xs:List V} {t A:Tm} {tmps:Array Value} {args:List Value},AM ps xs t=ab A->a8 (λv x=>aq X v ag [x]) xs args->TR X t tmps->(∀p∈ps,p< tmps.size)->
  args.length=ps.length/\TR X A ((ps.zip args).foldl (λt (p:Nat×Value)=>t.setIfInBounds p.1 p.2) tmps)/\((ps.zip args).foldl (λt (p:Nat×Value)=>t.setIfInBounds p.1 p.2) tmps).size=tmps.size
 |[],xs,t,A,tmps,args,e,I,J,_=>by
  cases xs with
  |nil=>
   cases e;have:args=[]:=by trivial
   simp_all
  |cons x xs=>cases e
 |p::ps,xs,t,A,tmps,args,e,I,J,hp=>by
  rw[atF]at e;cases xs with
  |nil=>cases e
  |cons x xs=>
   obtain⟨y,U,rfl,h1,h2⟩:=I;obtain⟨Z,c,d⟩:=adZ (tmps:=tmps.setIfInBounds p y) e h2 (J.set (hp p (by simp)) h1) (λq f=>by grind)
   simp_all
theorem auS(L:jL F P E ih)(hE:gF F P E)(hF:dJ F){b:Nat}{xs:List V}{v:V}{h':Heap}(e:xL ih b xs h=ab (v,h'))(s:HR B X O w h){l:Nat}{bi:BI}(hM:X.M b=ab bi)(hb:bi.base=ab ⟨l,0,ae⟩)
  {args:Array Value} (ha:a8 (λv x=>aq X v ag [x]) xs args.toList) (n:Nat):BZ F n P B X O w h (invoke (.fn (.yield l) #[]) args) v h':=by
 unfold xL at e;split at e
 .rename_i f t ps bT body hk;obtain⟨t0,P1,e⟩:=ay.1 e;split at e
  .rename_i s1 h1;split at e
   .rename_i d1;split at e
    .rename_i y h2;split at e
     .rename_i d2;cases e;have hB:=s.dO b _ hk;obtain⟨bi',l',r,c1,c2,c3,c4,c5,c6,Z⟩:=hB;rw[hM]at c1;cases c1;rw[hb]at c4;cases c4;obtain⟨g1,g2⟩:=(hE.gh _ _ _).1 Z.k1;obtain⟨g3,g4⟩:=(hE.gh _ _ _).1 Z.k2;obtain⟨z1,z2,z3⟩:=adZ (args:=args.toList) P1 ha Z.qt Z.qlt;have wH:args.size=r.params.size:=by
       have:=congrArg MI Z.SF;simp at this;simp at z1;omega
      have D:((r.params.zip args).foldl (λtmps (t,a)=>tmps.setIfInBounds t a) r.tmps)=((ps.zip args.toList).foldl (λt (p:Nat×Value)=>t.setIfInBounds p.1 p.2) r.tmps):=by
       rw[<-Array.foldl_toList,Array.toList_zip,Z.SF]
      have hy:(invoke (.fn (.yield l) #[]) args).run P w=.ok (.round l r.fn ((r.params.zip args).foldl (λtmps (t,a)=>tmps.setIfInBounds t a) r.tmps) r.assign r.body) w:=by
       show(Instr.yield l args).run P w=_;exact run_yield c5 wH
      rw[D]at hy;generalize hT:((ps.zip args.toList).foldl (λt (p:Nat×Value)=>t.setIfInBounds p.1 p.2) r.tmps)=tm0 at hy z2 z3
      refine⟨l,r.fn,_,_,_,hy,?_⟩;refine roundIn_of_wpIn (hF.fn _) ?_;rw[Z.aeb,Z.aec];have hbl:=e8 hk;have d:∀c k,ar (bC h b ae) c=ab k->ar h c=ab k/\c≠b:=λc k A=>by
       rw[eO,cy,vt]at A;by_cases I:b=c
       .subst I;simp at A;split at A<;>simp at A
       .rw [ax I]at A;exact⟨by rw[cy];exact A,BS I⟩
      have J:ar (bC h b ae) b=ae:=by
       cases A:ar (bC h b ae) b with
       |none=>rfl
       |some k=>exact absurd rfl (d b k A).2
      have G:∀c,ar (bC h b ae) c=ae->c=b∨ar h c=ae:=λc A=>by
       by_cases I:c=b
       .exact .inl I
       .right;rw[eO,cy,vt,ax (BS I)]at A;rw[cy];exact A
      have U:(bC h b ae).length=h.length:=by rw[eO,fQ]
      have hv:HR B X O w (bC h b ae):=⟨λc k A=>s.dO c k (d c k A).1,s.own,s.gJ,by rw[U];exact s.lt,s.ci,s.wb⟩
      have sr0:SR r.tmps.size B X O w {tmps:=tm0,defers:=[]} ⟨t0,bC h b ae,[],[]⟩:=⟨z2,z3,hv,⟨a8.nil,Vm⟩,rfl⟩;refine wpIn_mono (L f 1 0 bT _ _ h1 _ g1 n B X O w _ sr0 (ab l) ⟨by decide,g2,r,c5⟩) λe1 a1 w1 ⟨hex,X1,O1,g,N⟩=>?_
      cases e1<;>simp only[mv]at hex;have l1:=N.up.obj l _ c5 rfl;refine⟨_,run_beginRound l1 Z.SH,?_⟩;have zJ:a1.defers=[]:=DF.D8 (by have:=g.df;rw[d1]at this;exact this)
      have H:=N.fr.M b _ hM J;have R:=N.fr.own b _ hM J _ c6;have j:=N.fr.fm b _ hM J;have S:∀c k,ar s1.h c=ab k->¬O1 c ⟨l,0,ae⟩:=λc k A o=>by
       have:=g.h.gJ c b _ o R;subst this;rw[j]at A;cases A
      have Dy:HR B X1 O1 (eH w1 l (.loop {r with state:=.busy})) s1.h:=g.h.obj l1 rfl rfl S;have sr1:SR r.tmps.size B X1 O1 (eH w1 l (.loop {r with state:=.busy})) a1 ⟨s1.t,s1.h,[],[]⟩:=⟨g.t,g.n,Dy,by rw[zJ];exact⟨a8.nil,Vm⟩,rfl⟩
      have T:(eH w1 l (.loop {r with state:=.busy})).heap[l]? =ab (.loop {r with state:=.busy}):=Aw l1;refine wpIn_mono (L f 1 0 body _ _ h2 _ g3 n B X1 O1 _ _ sr1 (ab l) ⟨by decide,g4,_,T⟩) λe2 a2 w2 ⟨W,X2,O2,Y,p2⟩=>?_
      cases e2<;>simp only[mv]at W;have l2:=p2.up.obj l _ T rfl;have z:=run_endRound (P:=P) ae l2;have K:({({r with state:=.busy}:Loop)with state:=if(ae:Option Code).isNone then .ready else .done,pending:=ae}:Loop)=r:=by
       have q1:=Z.SH;have q2:=Z.aed;cases r;simp_all
      rw[K]at z;refine⟨_,_,z,?_⟩;have Pk:=p2.fr.M b _ H j;have wq:=p2.fr.own b _ H j _ R;have hh2:=p2.fr.fm b _ H j;have amZ:∀c k,ar y.h c=ab k->¬O2 c ⟨l,0,ae⟩:=λc k A o=>by
       have:=Y.h.gJ c b _ o wq;subst this;rw[hh2]at A;cases A
      have PZ:HR B X2 O2 (eH w2 l (.loop r)) y.h:=Y.h.obj l2 rfl rfl amZ;have q:Step B X O w (bC h b ae) X2 O2 (eH w2 l (.loop r)) y.h:=Step.round hv c6 c5 N p2;have C:b<=y.h.length:=by have:=q.len;rw[U]at this;omega
      have amW:b< y.h.length:=by have:=q.len;rw[U]at this;omega
      obtain⟨u1,u2⟩:=Ux (h':=aI y.h b (.lp f t ps bT body)) s (λc k A=>(d c k A).1) U (by rw[b9,aK amW]) PZ q (λc k A=>by
       rw[bR y.h b c _ C]at A;by_cases I:c=b
       .rw [aK I]at A;cases A;subst I;exact .inl ⟨hk,J⟩
       .rw [ax I]at A;exact .inr A) (λc A=>by
       rw[bR y.h b c _ C]at A;by_cases I:c=b
       .rw [aK I]at A;cases A
       .rw [ax I]at A;exact⟨(G c (q.fr.o7 c A)).resolve_left I,A⟩)
      exact⟨X2,O2,u1,by simp[aq,aR],u2⟩
     trivial
    trivial
   trivial
  trivial
 trivial
end
section
variable {F:Fence} {P:Program} {B:Nat} {X:Cx} {O:Nat->Addr->Prop} {w:World} {h:Heap} {E:Env} {ih:Nat->Nat->Nat->Code->St->Option (Ex×St)}
theorem auY A d df h lp:jY E ih A (d::df) h lp=bif lY d then bif bu A d.1 then jY E ih A df h lp else ae else match m9 E ih d.1 d.2 h lp with
  |some (fn,st)=>match st.df with
   |[]=>match me E st.h fn st.t with
    |some _=>jY E ih A df st.h st.lp
    |none=>ae
   |_=>ae
  |none=>ae:=rfl
theorem a8.put{b D:Nat}{o:Obj}:∀{df:List (Nat×List V)} {ds:List Deferred},a8 (MR X O w h) df ds->(∀d∈ds,d.target≠.collected D)->a8 (MR X O (eH w D o) h) df ds
 |[],_,r,_=>by trivial
 |p::df,_,r,A=>by
  obtain⟨d,J,rfl,U,Z⟩:=r;refine a8.cons (U.elim (λ⟨hm,c,bi,I,l,f⟩=>.inl ⟨hm,c,bi,I,?_,f⟩) λg=>.inr g) (a8.put (b:=b) Z λd j=>A d (by simp[j]))
  rw[kO w o λe=>A d (by simp) (by rw[I,e])];omega
theorem Step.obj{X0:Cx}{J:Nat->Addr->Prop}{f:World}{U:Heap}(s:Step B X0 J f U X O w h)(j:HR B X O w h){b D:Nat}{Z o:Obj}(p:O b ⟨D,0,ae⟩)(G:X0.M b=ae)(x:w.heap[D]? =ab Z)(h1:Z.isCells=af)(h2:o.isCells=af)
  (H:Obj.lp Z=af):Step B X0 J f U X O (eH w D o) h:=by
 have d:∀c ci,X0.M c=ab ci->ar U c=ae->∀g,J c ⟨g,0,ae⟩->g≠D:=λc ci e A g I y=>by
  subst y;have:=j.gJ c b _ (s.fr.own c ci e A _ I) p;grind
 refine⟨⟨s.up.le,s.up.below.trans (Eh w o (j.own b _ p).1),s.up.fresh,λr q e l=>?_⟩,s.len,⟨s.fr.fm,s.fr.M,s.fr.own,λc ci e A a I v ev=>?_,λc ci e A r I q eq z=>?_,s.fr.o7,s.fr.rp⟩⟩
 .have:=s.up.obj r q e l;rw[kO w o λC=>by grind];omega
 .rw [uI x h1 h2,Av x h1 h2];exact s.fr.cell c ci e A a I v ev
 .rw [kO w o (d c ci e A r I)];exact s.fr.obj c ci e A r I q eq z
theorem Ox(z:jL F P E ih)(hE:gF F P E)(hF:dJ F){fn:Func}{tmps:Array Value}{t:Tm}{R:Ending->World->Prop}{B:Nat}{X0:Cx}{O0:Nat->Addr->Prop}{w0:World}{h0:Heap}(C:X0.lt h0.length):∀df {n:Nat} {X:Cx} {O:Nat->Addr->Prop} {w:World} {h h2:Heap} {mK:List Rec} {ds:List Deferred},
  jY E ih h0.length df h []=ab (h2,mK)->DF X O w h ds df->HR B X O w h->Step B X0 O0 w0 h0 X O w h->TR X t tmps->
  (∀X' O' w',HR B X' O' w' h2->TR X' t tmps->Step B X0 O0 w0 h0 X' O' w' h2->∃v,(results fn tmps).run P w'=.ok v w'/\R (.returned v) w')->LeavesInM F n P fn tmps R ds .returning w/\mK=[]
 |[],n,X,O,w,h,h2,mK,ds,e,hd,l,j,ht,hR=>by
  have e:ab (h,([]:List Rec))=ab (h2,mK):=e;cases e;have:=DF.D8 hd;subst this;exact⟨hR X O w l ht j,rfl⟩
 |d::df,n,X,O,w,h,h2,mK,ds,e,hd,l,j,ht,hR=>by
  rw[auY]at e;obtain⟨⟨dd,OB,rfl,hdd,U⟩,hpw⟩:=hd;obtain⟨am9,p⟩:=Gj.1 hpw;rcases hdd with⟨hm,D,bi,I,hD,hM,axf,hO⟩|⟨hm,cap,I,G⟩
  ·-- the mark of a loop
   rw[hm,ao]at e;obtain⟨hle,e⟩:=aU e;have hb0:X0.M d.1=ae:=by
    cases hx:X0.M d.1<;>first|have:=C _ _ hx;have:=rY hle;omega|rfl
   have PN:∀b k,ar h b=ab k->¬O b ⟨D,0,ae⟩:=λb k hk ho=>by
    have:=l.gJ b d.1 _ ho hO;grind
   obtain⟨q1,q2⟩:=Ox z hE hF (fn:=fn) (t:=t) (tmps:=tmps) (R:=R) C df (n:=n) e ⟨a8.put (b:=0) (o:=.deferred ae) U λd' Pz=>am9 d' Pz D I,p⟩ (l.obj hD rfl rfl PN) (j.obj l hO hb0 hD rfl rfl rfl) ht hR
   exact⟨⟨by simp,.inl ⟨D,_,I,run_takeDeferred hD,q1⟩⟩,q2⟩
  rw[hm,au]at e;split at e
  .rename_i Z st Dz;split at e
   .rename_i wx;split at e
    .rename_i rv hrv;obtain⟨c,r,Iu,A,amx,hx,hrr⟩:=Tw Dz;obtain⟨uu,H,K⟩:=hE.fn _ _ Iu;have hs:=T2 (X:=X) l G amx;obtain⟨dt,T⟩:=dd;subst I;have hinv:(invoke (Target.fn (.func d.1) cap) T).run P w=.ok (.enter d.1 (T++cap)) w:=by
      show(callFunc d.1 (T++cap)).run P w=_;simp[rZ,uu,A,H]
     have L:∀(W:Cx) Y (f:World) (q:Act) (s:Exit),mv r s->SR Z.ntmps B W Y f q st->Step B X O w h W Y f st.h->
       q.defers=[]/\(∃v,(results Z q.tmps).run P f=.ok v f)/\LeavesInM F n P fn tmps R OB .returning f/\mK=[]:=λW Y f q s hex x p1=>by
      have N:=DF.D8 (by have:=x.df;rw[wx]at this;omega)
      obtain⟨v,hv,_⟩:=Lj hE.toEnvTy x.h x.t hrv;have Du:=x.lp;rw[Du]at e;have axk:=Ox z hE hF (fn:=fn) (t:=t) (tmps:=tmps) (R:=R) C df (n:=n) e (DF.step l.lt p1 ⟨U,p⟩) x.h (j.trans p1) (ht.mono l.lt p1.up.le) hR;grind
     have ZX:∀(y:Frame) (cs:List Frame),y.mode=.returning->c.wpSIn F (n-1) P (λe a' Xp w'=>Xp=y::cs/\yM Z.ntmps B X O w ⟨jd Z.ntmps d.2,h,[],[]⟩ (r,st) e a' w') {tmps:=(T++cap)++qb (Z.ntmps-(T++cap).size) undef,defers:=[]} (y::cs) w:=λy cs hu=>
      wpSIn_of_wpIn hF.round (wpIn_mono (z.out hF hx (K c A) (n-1) B X O w _ hs) λe a' w' hp=>⟨rfl,hp⟩)
     have J:∀k,F.room k:=λk d hd=>by grind[hF.depth]
     have amV:mK=[]:=by
      obtain⟨s,q,cs1,f,_,⟨_,hex,W,Y,x,p1⟩,_⟩:=ZX {(default:Frame)with mode:=.returning} [] rfl {(default:Frame)with kind:=.deferred,roundOf:=ae} [] rfl rfl (hF.fn _) (J _);grind
     refine⟨⟨by simp,.inr ⟨hF.room,_,cap,d.1,T++cap,rfl,hinv,λg _=>hF.fn g,?_⟩⟩,amV⟩
     refine callsDIn_of_wpSIn uu A (hF.fn _) λy cs hu=>?_
     intro b kk hb uw hFn S;obtain⟨s,q,cs1,f,hl,⟨rfl,hex,W,Y,x,p1⟩,amu⟩:=ZX y cs hu b kk hb uw hFn S;refine⟨s,q,_,f,hl,?_,amu⟩;obtain⟨N,⟨v,hv⟩,Zy,_⟩:=L W Y f q s hex x p1;have Y9:({y with mode:=FrameMode.returning}:Frame)=y:=by rw[<-hu]
     rcases hrr with rfl|rfl
     .cases s<;>simp only[mv]at hex;exact⟨N,.returning,by rw[Y9],v,hv,Zy⟩
     .cases s<;>simp only[mv]at hex;exact⟨N,.returning,by rw[Y9],v,hv,Zy⟩
    trivial
   trivial
  trivial
theorem aeY{F:Fence}(hF:dJ F) k:F.room k:=λd A=>by grind[hF.depth]
theorem awH{n:Nat}(hF:dJ F){c:Code}{Q:Exit->Act->World->Prop}{a:Act}(hw:c.wpIn F n P Q a w):∃e A w',Q e A w':=by
 obtain⟨e,A,w',q,_⟩:=hw {(default:Frame)with roundOf:=ae} [] [] hF.round.symm (hF.fn _) (aeY hF _);grind
theorem II(z:jL F P E ih)(H:gF F P E)(hF:dJ F){f:Nat}{args:List V}{v:V}{h':Heap}{j:List Rec}(e:gK E ih f args h []=ab (v,h',j))(W:HR B X O w h){xs:Array Value}(ha:a8 (λv x=>aq X v ag [x]) args xs.toList):
  j=[]∧(∃fn c,P.funcs[f]? =some fn∧fn.body=some c∧(fn.name== "runtime.NumGoroutine")=false)∧∀n,vB F n P f xs w (tz B X O w h v h'):=by
 unfold gK at e;split at e
 .rename_i fn st C;obtain⟨c,r,K,A,D,hx,L⟩:=Tw C;obtain⟨G,l,p⟩:=H.fn _ _ K;have hs:=T2 (X:=X) W ha D;let R:Ending->World->Prop:=λ|.returned x,w'=>tz B X O w h v h' x w'|_,_=>False
  have I:∀n U Z d g,SR fn.ntmps B U Z d g st->Step B X O w h U Z d st.h->LeavesInM F n P fn g.tmps R g.defers .returning d/\j=[]:=λn U Z d g J q=>by
   split at e
   .rename_i M;obtain⟨v',N,e⟩:=cE.1 e;cases e;have S:=DF.D8 (by have:=J.df;rw[M]at this;omega)
    obtain⟨x,s,y⟩:=Lj H.toEnvTy J.h J.t N;rw[S];exact⟨⟨x,s,U,Z,J.h,y,q⟩,J.lp⟩
   .obtain ⟨hl,Y,e⟩:=ay.1 e;obtain⟨v',N,e⟩:=cE.1 e;cases e;rw[J.lp,bz]at Y;exact Ox z H hF W.lt _ (n:=n) Y J.df J.h q J.t λX' O' w' q1 q2 q3=>by
     obtain⟨x,s,y⟩:=Lj H.toEnvTy q1 q2 N;exact⟨x,s,X',O',q1,y,q3⟩
  have hw:=λn=>
   z.out hF hx (p c A) n B X O w _ hs
  refine⟨?_,⟨fn,c,G,A,l⟩,λn=>?_⟩
  .obtain ⟨T,g,d,hex,U,Z,J,q⟩:=awH hF (hw 0);exact(I 0 U Z d g J q).2
  .have:=callsIn_of_wp_marks (F:=F) (n:=n) (P:=P) (R:=R) G A (hF.fn f) (wpIn_mono (hw n) λT g d ⟨hex,U,Z,J,q⟩=>by
    rcases L with rfl|rfl
    .cases T<;>simp[mv]at hex;exact(I n U Z d g J q).1
    .cases T<;>simp[mv]at hex;exact(I n U Z d g J q).1) hF.round
   trivial
 trivial
theorem awt{C:IV}{M:Nat->Option BI}{L:Nat->Option Nat}{ds:List D}{xs:List Value}(h:a8 (λd x=>aR C d ag [x]) ds xs):a8 (λv x=>aq ⟨C,M,L⟩ v ag [x]) (mJ ds) xs:=by
 rw[oG];exact a8.Jy.1 (h.imp λd x r=>by trivial)
theorem CW(U:jL F P E ih)(s:gF F P E)(hF:dJ F){f:Nat}{ds:List D}{d:D}(e:qC E ih f ds=ab d):
  (∃fn c,P.funcs[f]? =some fn∧fn.body=some c∧(fn.name== "runtime.NumGoroutine")=false)∧vD F P f ds d:=by
 obtain⟨⟨v,h',y⟩,he,z⟩:=ay.1 e;have key:∀C w args,CI C w→a8 _ ds _→(∃fn c,P.funcs[f]? =some fn∧fn.body=some c∧(fn.name== "runtime.NumGoroutine")=false)∧∀n,vB F n P f args w λx w'=>∃C',C.le C'∧CI C' w'∧Below _ w w'∧(∀a v,C' a=some v→C a=none→w.heap.size≤a.block)∧aR C' d _ _:=λC w args I Z=>by
  let X:Cx:=⟨C,λ_=>ae,λ_=>ae⟩
  have G:HR _ X (λ_ _=>False) w []:=⟨λb k e=>by trivial,λ_ _ h=>h.elim,λ_ _ _ h=>h.elim,λ_ _ e=>(by cases e),I,aL _⟩
  obtain⟨_,H,K⟩:=II U s hF he G (awt Z);refine⟨H,λn=>(K n).mono λx w' ⟨X',O',g,L,j⟩=>?_⟩
  have A:=g.ci;refine⟨ov _ X' w',j.up.le.C.trans (Wx A),G6 A,j.up.below,λa v e M=>?_,wg g (Cu g) z (λ_ _=>trivial) L⟩
  unfold ov at e;split at e
  .omega
  .exact j.up.fresh a v e M
 refine⟨?_,λn C w args I Z=>(key C w _ I Z).2 n⟩
 unfold gK at he;split at he
 .rename_i fn st J;obtain⟨c,r,l,p,_,_,_⟩:=Tw J;obtain⟨N,q,_⟩:=s.fn _ _ l;grind
 trivial
theorem Ov(A:jL F P E ih)(I:gF F P E)(hF:dJ F){f:Nat}{ds:List D}{d:D}(e:iu E ih f ds=ab d):
  (∃fn c,P.funcs[f]? =some fn∧fn.body=some c∧(fn.name== "runtime.NumGoroutine")=false)∧vD F P f ds d:=by
 unfold iu at e;split at e
 .rename_i S J;split at e
  .obtain ⟨h1,h2⟩:=I.sm _ _ J;grind
  .exact CW A I hF e
 .exact CW A I hF e
theorem acr{l:List V}(h:V.nT l=[]):∀v∈l,∀b∈v.owns,False:=λv A b I=>by
 have:=ac3 A I;grind
theorem aki(s:jL F P E ih)(hE:gF F P E)(hF:dJ F){f:Nat}{args:List V}{v:V}{h':Heap}{d:List Rec}(e:qA E ih f args h []=ab (v,h',d))(Z:HR B X O w h){xs:Array Value}(H:a8 (λv x=>aq X v ag [x]) args xs.toList):
  d=[]/\∀n,fR F n P B X O w h (callFunc f xs) v h':=by
 have inl:gK E ih f _ h []=ab _->d=[]/\∀n,fR F n P B X O w h _ v h':=λe=>by
  obtain⟨h1,⟨fn,c,g,J,N⟩,h2⟩:=II s hE hF e Z H;exact⟨h1,λn=>.inr ⟨f,xs,rZ g J N xs,h2 n⟩⟩
 unfold qA at e;cases y:E.inl f with
 |true=>grind
 |false=>
  rw[y,au]at e;split at e
  .rename_i ds j;obtain⟨r,R,e⟩:=ay.1 e;obtain⟨⟨fn,c,g,J,N⟩,I⟩:=Ov s hE hF R;have U:=rZ (w:=w) g J N xs;split at e
   .rename_i S;cases e;refine⟨rfl,λn=>.inr ⟨f,xs,U,?_⟩⟩
    have hS:rM X w h _ λ_=>False:=⟨.refl _,λb bi a0 J=>J.elim⟩
    have A:=zq Z hS j (λv T b J=>acr S v T b J) H
    refine(I n _ w xs Z.ci A).mono λx w' ⟨C',K,L,z,M,W⟩=>?_
    obtain⟨D,G⟩:=Pj Z K L z M;exact⟨X.jf C',O,D,by trivial,G⟩
   .cases l:r.flat with
    |true=>
     rw[l]at e;cases e;refine⟨rfl,λn=>.inr ⟨f,xs,U,?_⟩⟩
     have A:=zq Z (Cu Z) j (λ_ _ _ _=>trivial) H
     refine(I n _ w xs (G6 Z.ci) A).mono λx w' ⟨C',K,L,z,M,W⟩=>?_
     obtain⟨D,G⟩:=Im Z z;exact⟨X,O,D,by exact r.C7 _ _ l W,G⟩
    |false=>
     rw[l]at e;obtain⟨p,e⟩:=aU e;cases e;refine⟨rfl,λn=>.inr ⟨f,xs,U,?_⟩⟩
     obtain⟨C,O1,k1,k2,k3,k4,k5,k6,k7,k8,k9⟩:=CM _ Z p;have q:=Hn p k2 k7;have A:=zq Z q j (λv T b J=>ac3 T J) H
     have Y:Step B X O w h _ O1 w _:=⟨Up.jf _ k2 k4,by omega,Hm p (λb J=>(k8 b).2 J) (λb=>(k8 b).1) k9⟩
     refine(I n C w xs k3 A).mono λx w' ⟨C',K,L,z,M,W⟩=>?_
     obtain⟨D,G⟩:=Pj k1 K L z M;exact⟨_,O1,D,by trivial,Y.trans G⟩
  simp[inl,e]
theorem akf(J:jL F P E ih)(U:gF F P E)(hF:dJ F){aC g:Nat}{args:List V}{v:V}{h':Heap}{I:List Rec}(e:v8 E ih aC g args h []=ab (v,h',I))(Z:HR B X O w h)(j:ar h aC=ae)(l:X.M aC=ae)(c:aC<=h.length)
  {xs:Array Value} (d:a8 (λv x=>aq X v ag [x]) args xs.toList):I=[]/\∀n,fR F n P B X O w h (callFunc g xs) v h':=by
 have A:∀{r:R},lift [] r=ab _->I=[]/\r=ab (v,h'):=λ{r} e=>by
  cases r<;>first|rename_i x;have e:ab _=ab (v,h',I):=e;grind|cases e
 unfold v8 at e;split at e
 .rename_i sz f;obtain⟨h1,h2⟩:=A e;exact⟨h1,λn=>U.clone g sz f n B X O w h Z _ xs d _ j l c v h' h2⟩
 .split at e
  .exact aki J U hF e Z d
  .rename_i p;obtain⟨h1,h2⟩:=A e;exact⟨h1,λn=>U.ext g (λq=>p q) n B X O w h Z _ xs d v h' h2⟩
theorem LV(L:gF F P E){t:Tm}{a:Act}(q:TR X t a.tmps){c:Call}(s:∀x∈c.operands.toList,mU x=ag){g:Nat}{xs:List V}(e:target t c=ab (g,xs)) ty:
  ∃args:Array Value,a8 (λv x=>aq X v ag [x]) xs args.toList/\∀w,(do let d<-resolve a.eval c ty;invoke d.target d.args).run P w=(callFunc g args).run P w:=by
 have U:∀x∈c.args.toList,mU x=ag:=λx M=>s x (by grind[ni])
 have j:=HO q U;have A:∀{l:List V} {Z:List _},bM X l ag Z->a8 (λv x=>aq X v ag [x]) l Z.flatten:=by
  intro l;induction l with
  |nil=>simp[bM,a8.nil]
  |cons v l ih=>
   intro Z h;obtain⟨ws,r,rfl,h1,h2⟩:=h;obtain⟨y,rfl⟩:=aq.single h1;exact a8.cons h1 (ih h2)
 unfold target at e;split at e
 .rename_i f I;have hf:=sg q (s f (by simp[ni,I]))
  split at e
  .rename_i D N cap p;cases e;rw[p]at hf;obtain⟨fs,cs,R,S,G,h1,h2,H,K⟩:=hf;refine⟨fs++c.args.map a.eval++cs,?_,λw=>?_⟩
   .have z:=A h1;have C:=A H;rw[<-h2]at z;rw[<-K]at C;simp only[rA,mj];exact z.app (j.app C)
   .have J:resolve a.eval c ty=pure {target:=.fn (.func g) cs,args:=fs++c.args.map a.eval}:=by
     unfold resolve;rw[I];show F5 _ _=_;rw[(yy G).1];rfl
    simp only[J];rfl
  .rename_i D p;cases e;rw[p]at hf;refine⟨#[]++c.args.map _++#[],by simpa using j,λw=>?_⟩
   have J:resolve a.eval c ty=pure {target:=.fn (.func g) #[],args:=#[]++c.args.map a.eval}:=by
    unfold resolve;rw[I];show F5 _ _=_;rw[(yy hf).1];rfl
   simp[J];rfl
  trivial
 trivial
theorem fR.upon(hF:dJ F){n:Nat}{o:Oper}{a:Act}{K:Act->World->Prop}{Q:Exit->Act->World->Prop}{m:Sem Next}{v:V}{h':Heap}(hm:fR F (n-1) P B X O w h m v h')
  (I:∀x w',tz B X O w h v h' x w'->K (a.put o.dst x) w'):o.uponIn F n P a K Q (m.run P w):=by
 rcases hm with⟨x,w',X',O',A,J,U,Z⟩|⟨f,args,A,c⟩
 .rcases A with A|⟨A,rfl⟩<;>rw[A]
  .exact I _ _ ⟨X',O',J,U,Z⟩
  .exact I _ _ ⟨X',O',J,U,Z⟩
 .rw [A];exact⟨hF.room,yk c λe w' he=>by grind⟩
theorem fR.acK{n:Nat}{m A:Sem Next}{v:V}{h':Heap}(hm:fR F n P B X O w h m v h')(e:A.run P w=m.run P w):fR F n P B X O w h A v h':=by
 simp_all[fR,yL]
theorem asO(Z:jL F P E ih)(z:gF F P E)(hF:dJ F){keep:Bool}{aC:Nat}{st:St}{nt:Nat}{a:Act}(s:SR nt B X O w a st){o:Oper}(C:∀x∈o.op.operands.toList,mU x=ag)(N:ar st.h aC=ae)(S:X.M aC=ae)(j:aC<=st.h.length){v:V}{h':Heap}{I:List Rec}
  (e:(match o.op with
    |.call c=>match c.callee with
     |.builtin _=>lift st.lp (di E keep aC st.t st.h o.op)
     |_=>kG E ih aC st.t c st.h st.lp
    |op=>lift st.lp (di E keep aC st.t st.h op))=ab (v,h',I)):I=[]/\∀n,fR F n P B X O w st.h (execOp a.eval o) v h'∨BZ F n P B X O w st.h (execOp a.eval o) v h':=by
 have A:∀{r:R},lift st.lp r=ab _->I=[]/\r=ab (v,h'):=λ{r} e=>by
  rw[s.lp]at e;cases r<;>first|rename_i x;have e:ab (x.1,x.2,([]))=ab (v,h',I):=e;grind|cases e
 have plain:lift _ (di E keep _ _ _ _)=ab _->I=[]/\∀n,fR F n P B X O w _ _ v h'∨BZ F n P B X O w st.h (execOp a.eval o) v h':=λe=>by
  obtain⟨h1,h2⟩:=A e;exact⟨h1,λn=>.inl<| .inl (FK z.toEnvTy s.h N S j s.t C h2)⟩
 split at e
 .rename_i c J;split at e
  .grind
  .have hex:execOp a.eval o=(do let d<-resolve a.eval c o.type;invoke d.target d.args):=by simp[execOp,J]
   unfold kG at e;split at e
   ·-- a D yield
    rename_i b xs G;obtain⟨h1,h2⟩:=A e;refine⟨h1,λn=>.inr ?_⟩
    rw[hex];unfold ry at G;split at G
    .rename_i f U;split at G
     .rename_i b' H;cases G;have hf:=sg s.t (C f (by simp[J,bw,ni,U]))
      rw[H]at hf;obtain⟨l,W,bi,Y,e3,e4⟩:=hf;have K:=HO s.t (l:=c.args) λx L=>C x (by rw[J];simp only[bw,ni,rA,cD];exact .inr L)
      have p:resolve a.eval c o.type=pure {target:=.fn (.yield l) #[],args:=#[]++c.args.map a.eval}:=by
       unfold resolve;rw[U];show F5 _ _=_;rw[(yy W).1];rfl
      simp only[p];have q:#[]++c.args.map a.eval=c.args.map a.eval:=by simp
      rw[q];exact auS Z z hF h2 s.h Y e3 K n
     trivial
    trivial
   obtain⟨⟨g,xs⟩,y,e⟩:=ay.1 e;rw[s.lp]at e;obtain⟨args,K,T⟩:=LV z s.t (c:=c) (λx L=>C x (by rw[J];exact L)) y o.type
   obtain⟨h1,h2⟩:=akf Z z hF e s.h N S j K;refine⟨h1,λn=>.inl ((h2 n).acK ?_)⟩
   grind
 simp[plain,e]
theorem acT(G:jL F P E ih)(hE:gF F P E)(hF:dJ F){keep:Bool}{ops:Array Oper}{aC:Nat}{st I:St}{nt n:Nat}{a:Act}{o:Oper}(e:e6 E ih keep ops aC o st=ab I)(s:SR nt B X O w a st)(H:sB nt o=ag)(hn:ar st.h aC=ae)(hM:X.M aC=ae)(L:aC<=st.h.length)
  {K:Act->World->Prop} {Q:Exit->Act->World->Prop} (N:∀X' O' w' a',SR nt B X' O' w' a' I->Step B X O w st.h X' O' w' I.h->K a' w'):
  if th o (yielded ops a.tmps)=ag then o.wpIn F n P a w K Q else(∀f,o.about P w a.eval=ab f->F.fn f)/\K (a.put o.dst undef) w:=by
 obtain⟨R,S⟩:=RU H;unfold e6 at e;cases hg:guardOf ops st.t o.guard with
 |none=>grind
 |some b=>
  rw[hg]at e;have hw:=YZ s.t hg;cases b with
  |false=>
   cases e;rw[hw];exact⟨λf _=>hF.fn f,N X O w _ (s.put R (agB X)) (.refl _ _ _ _ _)⟩
  |true=>
   simp at e;rw[hw];refine⟨λf _=>hF.fn f,?_⟩
   rw[hF.round,ahm];split at e
   ·-- a deferred call
    rename_i c U;split at e
    .rename_i f J;split at e
     .rename_i g T cap W;obtain⟨Y,e⟩:lY (g,T++(dk st.t c.args++cap))=af/\ab (⟨putDst st.t o.dst .undef,st.h,st.lp,(g,T++(dk st.t c.args++cap))::st.df⟩)=ab I:=by
       grind
      cases e;have hf:=sg s.t (S f (by simp[U,bw,ni,J]))
      rw[W]at hf;obtain⟨fs,cs,w1,w2,e1,h1,h2,h3,h4⟩:=hf;have lS:=HO s.t (l:=c.args) λx hx=>S x (by rw[U];simp only[bw,ni,rA,cD];exact .inr hx)
      have d:resolve a.eval c o.type=pure {target:=.fn (.func g) cs,args:=fs++c.args.map a.eval}:=by
       unfold resolve;rw[J];show F5 _ _=_;rw[(yy e1).1];rfl
      have j:(execOp a.eval o).run P w=.ok (.defer {target:=.fn (.func g) cs,args:=fs++c.args.map a.eval}) w:=by
       simp[execOp,U,d]
      rw[j];have A:∀{l:List V} {Z:List _},bM X l ag Z->a8 (λv x=>aq X v ag [x]) l Z.flatten:=by
       intro l;induction l with
       |nil=>simp[bM,a8.nil]
       |cons v l ih=>
        intro Z h;obtain⟨ws,r,rfl,h1,h2⟩:=h;obtain⟨y,rfl⟩:=aq.single h1;exact a8.cons h1 (ih h2)
      have z:=A h1;have p:=A h3;rw[<-h2]at z;rw[<-h4]at p;have s2:SR nt B X O w {a with defers:={target:=.fn _ cs,args:=fs++c.args.map _}::a.defers} ⟨st.t,st.h,st.lp,(g,T++(dk _ _++cap))::st.df⟩:=
       ⟨s.t,s.n,s.h,⟨a8.cons (.inr ⟨Y,cs,rfl,by simp only[rA,mj];exact z.app (lS.app p)⟩) s.df.1,Gj.2 ⟨λd' _ D hD=>(by cases hD),s.df.2⟩⟩,s.lp⟩
      exact N X O w _ (s2.put R (Bp X _)) (.refl _ _ _ _ _)
     trivial
    trivial
   .split at e
    .cases e
    .rename_i v h1 ly hx;cases e;obtain⟨rfl,hc⟩:=asO G hE hF s S hn hM L hx;have q:∀x w',tz B X O w st.h v h1 x w'->K (a.put o.dst x) w':=?_
     .exact (hc _).elim (λh=>h.upon hF q) λh=>h.upon hF q
     intro x w' ⟨X',O',z,q2,p⟩;have C:=(s.step z p).put R q2;exact N X' O' w' _ ⟨C.t,C.n,C.h,C.df,rfl⟩ p
theorem au0 keep ops o l st:dQ E ih keep ops (o::l) st=match e6 E ih keep ops (aF st.h) o st with
  |none=>ae
  |some A=>dQ E ih keep ops l A:=rfl
theorem afe(I:jL F P E ih)(d:gF F P E)(hF:dJ F){keep:Bool}{ops:Array Oper}{nt n:Nat}{Q:Exit->Act->World->Prop}:∀l i,ops.toList.drop i=l->(∀o∈l,sB nt o=ag)->
  ∀{B:Nat} {X:Cx} {O:Nat->Addr->Prop} {w:World} {a:Act} {st A:St},SR nt B X O w a st->dQ E ih keep ops l st=ab A->
   (∀X' O' w' U,SR nt B X' O' w' U A->Step B X O w st.h X' O' w' A.h->Q .normal U w')->wpOpsIn F n P ops Q (Vt i l.length) a w
 |[],i,_,_,B,X,O,w,a,st,A,s,e,Z=>by
  cases e;exact Z X O w a s (.refl _ _ _ _ _)
 |o::l,i,f,J,B,X,O,w,a,st,A,s,e,Z=>by
  have hi:ops[i]? =ab o:=by
   have:(ops.toList.drop i)[0]? =ab o:=by simp[f]
   grind
  have c:ops.toList.drop (i+1)=l:=by
   rw[<-rF,f];rfl
  rw[fH,List.range'_succ];simp[wpOpsIn,hi];rw[au0]at e;split at e
  .cases e
  .rename_i g h1;rw[bz]at h1;exact acT I d hF h1 s (J o (by simp)) (pO rfl) (oL s.h) (aL _) λX' O' w' U j p=>
    afe I d hF l _ c (λq h'=>J q (by simp[h'])) j e λr x y z C D=>Z r x y z C (p.trans D)
end
section
variable {F:Fence} {P:Program} {B:Nat} {X:Cx} {O:Nat->Addr->Prop} {w:World} {h:Heap} {E:Env} {ih:Nat->Nat->Nat->Code->St->Option (Ex×St)}
theorem Zn(k i:Nat)(m:List Nat)(h:Heap):dg k (i::m) h=dg k m (bC h (k+i) ae):=rfl
theorem nK(k:Nat):∀(m:List Nat) (h:Heap),(dg k m h).length=h.length
 |[],h=>rfl
 |i::m,h=>by rw[Zn,nK k m,eO,fQ]
theorem amK(h:Heap)(j b:Nat):ar (h.set j ae) b=if b=j then ae else ar h b:=by
 rw[cy,cy,vt]
 by_cases A:j=b
 .subst A;simp;split<;>rfl
 .rw [ax A,ax (BS A)]
theorem wA(k:Nat):∀(m:List Nat) (h:Heap) (b:Nat),ar (dg k m h) b=if∃i∈m,b=k+i then ae else ar h b
 |[],h,b=>by simp[dg]
 |i::m,h,b=>by
  rw[Zn,wA k m,eO,amK]
  by_cases h1:∃j∈m,b=k+j
  .rw [aK h1,aK];obtain⟨j,A,e⟩:=h1;exact⟨j,by simp[A],e⟩
  .rw [ax h1]
   by_cases h2:b=k+i
   .rw [aK h2,aK ⟨i,by simp,h2⟩]
   .rw [ax h2,ax]
    rintro⟨j,A,e⟩
    rcases du.1 A with rfl|A
    .exact h2 e
    .exact h1 ⟨j,A,e⟩
theorem zK(k:Nat)(m:List Nat)(h:Heap):Sub (dg k m h) h:=λb x e=>by
 rw[wA]at e;split at e
 .cases e
 .exact e
theorem agi(n:Nat)(h:Heap):Sub (h.take n) h:=λb x e=>by
 rw[cy,pc]at e
 rw[cy]
 split at e
 .exact e
 .cases e
theorem Sub.trans{a b c:Heap}(h:Sub a b)(k:Sub b c):Sub a c:=λi x e=>k i x (h i x e)
theorem Sr{keep:Bool}{aC:Nat}{t:Tm}{op:Op}(hp:pL op=ag){v:V}{h1 h2:Heap}(e:di E keep aC t h1 op=ab (v,h2))(I:Nat)(h':Heap):di E keep I t h' op=ab (v,h'):=by
 cases op<;>simp only[pL]at hp<;>try(cases hp;done)
 all_goals simp only[di]at e|-
 case move x=>cases e;rfl
 case assign x=>cases e;rfl
 case pick c a b=>
  unfold oU at e|-
  split at e
  .rename_i q p;cases q<;>simp_all
  .cases e
 case build ty ps=>
  unfold xQ at e|-
  obtain⟨ti,A,e⟩:=ay.1 e
  obtain⟨l,Z,e⟩:=ay.1 e
  rw[A];simp only[ah,Z]
  split at e
  .rename_i fs J;try rw[J]
   obtain⟨d,hf,e⟩:=cE.1 e
   cases e;simp only[hf,jJ]
  .rename_i n el J;try rw[J]
   obtain⟨te,hte,e⟩:=ay.1 e
   obtain⟨d,hf,e⟩:=cE.1 e
   cases e;simp only[hte,ah,hf,jJ]
  .cases e
 case nilCheck x=>
  unfold Fz at e|-
  split at e<;>first|(cases e;rfl)|(cases e;done)
 case binOp op ty x y yt=>
  cases U:jP E op ty (isConst x||isConst y) (ev t x) (ev t y)<;>rw[U]at e<;>first|cases e;done|(cases e;rfl)
 case unOp op ty x=>
  cases U:Bo op (ev t x)<;>rw[U]at e<;>first|cases e;done|(cases e;rfl)
 case fieldAddr ty x k=>
  unfold A6 at e|-
  obtain⟨ti,A,e⟩:=ay.1 e
  rw[A];simp only[ah]
  split at e
  .rename_i fs J;try rw[J]
   obtain⟨f,hf,e⟩:=ay.1 e
   simp only[hf,ah]
   cases g:al f.2.1 0<;>rw[g]at e<;>simp only[ao,au]at e|-
   .split at e
    .cases e;rfl
    .split at e
     .obtain ⟨j,e⟩:=aU e
      cases e;simp only[j,ao]
     .cases e
    .cases e
   .cases e
  .cases e
 case extract x i=>
  cases U:(ev t x).part i<;>rw[U]at e<;>first|cases e;done|(cases e;rfl)
theorem akZ{keep:Bool}{aC:Nat}{t:Tm}{op:Op}(hp:(pL op||DM E op)=ag){v:V}{h2:Heap}(e:di E keep aC t [] op=ab (v,h2))(A:Nat)(h':Heap):di E keep A t h' op=ab (v,h'):=by
 rw[kc]at hp
 rcases hp with hp|hp
 .exact Sr hp e A h'
 cases op<;>simp only[DM]at hp<;>try(cases hp;done)
 all_goals simp only[di]at e|-
 case convert s d x=>
  split at hp
  .rename_i h1 h2
   unfold sd at e|-
   rw[h1,h2]at e|-
   split at e<;>simp_all
  .cases hp
 case load ty a=>
  unfold gd at e|-
  obtain⟨ti,J,e⟩:=ay.1 e
  simp only[J,ah]
  split at e
  .obtain ⟨u,g,e⟩:=ay.1 e
   exact absurd g (by unfold eU;simp[cy])
  .obtain ⟨Z,e⟩:=aU e
   cases e
   simp only[Z,ao]
  .cases e
 case indexAddr ty x i=>
  unfold pX at e|-
  split at e
  .obtain ⟨ti,J,e⟩:=ay.1 e
   simp only[J,ah]
   split at e
   .rename_i el c;try rw[c]
    split at e
    .obtain ⟨te,hte,e⟩:=ay.1 e
     obtain⟨I,e⟩:=aU e
     cases e
     rw[aM,aM,kc]at I
     have j:=I.2.2.resolve_right (by unfold rh;simp[cy])
     simp only[hte,ah,I.1,I.2.1,j,Bool.true_or,Bool.and_self,ao]
    all_goals first
     |(unfold oz at e|-;obtain⟨te,hte,e⟩:=ay.1 e;obtain⟨I,e⟩:=aU e;obtain⟨d,l,e⟩:=ay.1 e;obtain⟨U,e⟩:=aU e;cases e;simp only[hte,ah,I,ao,l,U])
     |cases e
   .rename_i m el c;try rw[c]
    obtain⟨te,hte,e⟩:=ay.1 e
    obtain⟨I,e⟩:=aU e
    simp only[hte,ah,I,ao]
    split at e
    .cases e;rfl
    .split at e
     .rename_i d' f
      obtain⟨U,e⟩:=aU e
      cases e
      simp only[f,U,ao]
     .cases e
    .cases e
   .cases e
  .cases e
theorem aru{v:Heap}(I:Sub v h){b g:Nat}{p:List (Nat×Nat)}{x:V}(e:eU v b g p=ab x):eU h b g p=ab x:=by
 unfold eU at e|-
 cases A:ar v b with
 |none=>rw[A]at e;cases e
 |some k=>rw[A]at e;rw[I b k A];exact e
theorem ary{v:Heap}(J:Sub v h){ty:Nat}{a x:V}{h2:Heap}(e:gd E v ty a=ab (x,h2)):gd E h ty a=ab (x,h):=by
 unfold gd at e|-
 obtain⟨ti,A,e⟩:=ay.1 e
 rw[A];simp only[ah]
 split at e
 .obtain ⟨u,U,e⟩:=ay.1 e
  obtain⟨I,e⟩:=aU e
  cases e
  simp only[aru J U,ah,I,ao]
 .obtain ⟨I,e⟩:=aU e
  cases e;simp only[I,ao]
 .cases e
theorem afI{v:Heap}(I:Sub v h){keep:Bool}{t:Tm}{op:Op}{x:V}(e:sR E t v op=ab x)(A:Nat):fL E ih keep A t h op=ab (x,ae):=by
 unfold sR at e;split at e
 .obtain ⟨r,h1,e⟩:=cE.1 e
  show(bif ag then(gd E h _ (ev t _)).map _ else ae)=_
  rw[ary I h1,<-e];rfl
 .cases e
mutual
theorem D.xS:∀{a b:D},D.same a b=ag->a=b:=λ{a b} h=>by
 cases a<;>cases b<;>simp only[D.same,aM,decide_eq_true_eq,Bool.false_eq_true]at h
 case bool.bool=>rw[h]
 case int.int=>rw[h.1,h.2]
 case str.str=>rw[h]
 case ref.ref=>rw[D.xS h]
 case an.an=>rw[D.FA h]
 case agg.agg=>rw[dU h.1,D.FA h.2]
 case aH.aH=>rw[D.FA h]
 case fn.fn=>rw[dU h]
 case ifc.ifc=>rw[dU h.1,D.xS h.2]
 all_goals rfl
theorem D.FA:∀{a b:List D},D.nc a b=ag->a=b:=λ{a b} h=>by
 cases a<;>cases b
 .rfl
 .simp [D.nc]at h
 .simp [D.nc]at h
 .simp only[D.nc]at h
  rename_i a l b r
  cases h1:D.same a b with
  |false=>rw[h1]at h;cases h
  |true=>rw[h1,ao]at h;rw[D.xS h1,D.FA h]
end
theorem cj.xS{a b:cj}(h:cj.same a b=ag):a=b:=by
 unfold cj.same at h;split at h
 .rw [D.xS h]
 .cases h
theorem TG:∀{a b:Heap},lC a b=ag->a=b
 |[],[],_=>rfl
 |[],_::_,h=>by simp[lC]at h
 |_::_,[],h=>by simp[lC]at h
 |none::l,ae::r,h=>by simp only[lC]at h;rw[TG h]
 |none::l,ab _::r,h=>by simp[lC]at h
 |some _::l,ae::r,h=>by simp[lC]at h
 |some a::l,ab b::r,h=>by
  simp only[lC]at h
  cases h1:cj.same a b with
  |false=>rw[h1]at h;cases h
  |true=>rw[h1,ao]at h;rw[cj.xS h1,TG h]
theorem J5(A:List Nat)(h:Heap)(b:Nat):ar (only A h) b=if bg A b=ag then ar h b else ae:=by
 have key:∀(h:Heap) (i b:Nat),ar (bn (λ_=>[]) (λb _ ih i=>(bif bg A i then b else ae)::ih (i+1)) h i:Heap) b=if bg A (i+b)=ag then ar h b else ae:=by
  intro h
  induction h with
  |nil=>intro i b;show ar [] b=_;rw[cy];simp
  |cons a l ih=>
   intro i b
   cases b with
   |zero=>
    show(ar ((bif bg A i then a else ae)::_) 0)=_
    rw[cy,cy]
    simp only[ahU,Nat.add_zero]
    cases bg A i<;>rfl
   |succ b=>
    have:=ih (i+1) b
    rw[cy]at this
    show ar (_::(bn (λ_=>[]) (λb _ ih i=>(bif bg A i then b else ae)::ih (i+1)) l (i+1):Heap)) (b+1)=_
    rw[cy,Vn,this,cy,cy,Vn,ah5,Gk 1 b]
 have:=key h 0 b
 rw[db]at this
 exact this
theorem RS(A:List Nat)(h:Heap):(only A h).length=h.length:=by
 have key:∀(h:Heap) (i:Nat),(bn (λ_=>[]) (λb _ ih i=>(bif bg A i then b else ae)::ih (i+1)) h i:Heap).length=h.length:=by
  intro h
  induction h with
  |nil=>intro i;rfl
  |cons a l ih=>intro i;show(_::(bn (λ_=>[]) (λb _ ih i=>(bif bg A i then b else ae)::ih (i+1)) l (i+1):Heap)).length=_;rw[fH,ih,fH]
 exact key h 0
theorem asJ(A:List Nat)(h:Heap):Sub (only A h) h:=λb x e=>by
 rw[J5]at e
 split at e
 .exact e
 .cases e
end
section
variable {F:Fence} {P:Program} {B:Nat} {X:Cx} {O:Nat->Addr->Prop} {w:World} {h:Heap} {E:Env} {ih:Nat->Nat->Nat->Code->St->Option (Ex×St)}
theorem atD h n:dP h n ae=h:=rfl
theorem am7{n:Nat}(A:n<=h.length) k:dP h n (ar (aI h n k) n)=aI h n k:=by rw[bR h n n k A,aK rfl];rfl
theorem ave{n:Nat}(A:ar h n=ae):dP h n (ar h n)=h:=by rw[A];rfl
theorem acv:∀{l:List V},Eb l=ag->∀v∈l,V.refs v=[]
 |[],_,v,I=>by cases I
 |u::l,A,v,I=>by
  have e:fu (u::l)=match V.refs u with|[]=>fu l|r=>r++fu l:=rfl
  unfold Eb at A;rw[e]at A;cases J:V.refs u with
  |cons a r=>rw[J]at A;cases A
  |nil=>
   rw[J]at A;rcases du.1 I with rfl|I
   .omega
   .exact acv (l:=l) A v I
mutual
theorem R0:∀(v:V) (b:Nat),b∈v.fe->b∈v.m7
 |.own c _ _ _ _,b,h=>by simpa[V.fe,V.m7]using h
 |.agg _ l,b,h=>by simp only[V.fe,V.m7]at h|-;exact R3 l b h
 |.aH l,b,h=>by simp only[V.fe,V.m7]at h|-;exact R3 l b h
 |.ifc _ v,b,h=>by simp only[V.fe,V.m7]at h|-;exact R0 v b h
 |.undef,b,h|.im _,b,h|.full _,b,h|.ptr _ _ _,b,h|.fn _ _ _,b,h|.mp _,b,h|.jh _,b,h=>by simp[V.fe]at h
theorem R3:∀(l:List V) (b:Nat),b∈V.eP l->b∈V.oS l
 |[],b,h=>by simp[V.eP]at h
 |v::l,b,h=>by
  simp only[V.eP,V.oS,cD]at h|-
  exact h.imp (R0 v b) (R3 l b)
end
theorem auB{v:V}(h:V.refs v=[]):v.owns=[]:=by
 rw[ac6];have I:v.m7=[]:=by cases v<;>simp_all[V.refs,V.m7]
 cases A:v.fe with
 |nil=>rfl
 |cons b r=>have:=R0 v b (by simp[A]);grind
theorem as0{ps:List (Nat×V)}(h:∀p∈ps,V.owns p.2=[]):ja ps=[]:=by
 induction ps with
 |nil=>rfl
 |cons p ps ih=>rw[ac4];grind
theorem T4{keep:Bool}{n:Nat}{t:Tm}{op:Op}{v:V}{h':Heap}(j:ar h n=ae)(I:n<=h.length)(e:di E keep n t h op=ab (v,h'))(J:isQ op=ag∨∃ty len ps,op=.buildSlice ty len ps/\Eb ((lO (ev t) ps).map Prod.snd)=ag):
  h'=dP h n (bif bS E op then ar h' n else ae):=by
 have same:∀{b:Bool},h'=h->h'=dP h n (bif b then ar h' n else ae):=λ{b} e=>by
  subst e;cases b
  .rfl
  .exact (ave j).symm
 have new:bS E op=ag->(∃k,h'=aI h n k)->h'=dP h n (bif bS E op then ar h' n else ae):=λU ⟨k,e⟩=>by
  subst e;rw[U,ao];exact(am7 I k).symm
 have q:pL op=ag->h'=dP h n (bif bS E op then ar h' n else ae):=λhp=>by
  have:=Sr hp e n h;rw[e]at this;cases this;exact same rfl
 rcases J with J|⟨ty,len,ps,rfl,Z⟩
 cases op<;>simp only[di]at e<;>try(cases J;done)
 all_goals first|exact q rfl|skip
 case alloc ty=>
  unfold xP at e
  obtain⟨ti,A,e⟩:=ay.1 e
  obtain⟨f,e⟩:=aU e
  cases e;exact new rfl ⟨_,rfl⟩
 case box ty x=>
  unfold nW at e
  obtain⟨ti,A,e⟩:=ay.1 e
  obtain⟨f,e⟩:=aU e
  unfold nW.v5 at e
  split at e<;>(cases e;exact new rfl ⟨_,rfl⟩)
 case load ty a=>
  unfold gd at e
  obtain⟨ti,A,e⟩:=ay.1 e
  split at e
  .obtain ⟨u,s,e⟩:=ay.1 e
   obtain⟨_,e⟩:=aU e
   cases e;rfl
  .obtain ⟨_,e⟩:=aU e
   cases e;rfl
  trivial
 case makeSlice ty l c=>
  unfold uZ at e
  obtain⟨ti,A,e⟩:=ay.1 e
  split at e
  .obtain ⟨te,hte,e⟩:=ay.1 e
   obtain⟨z,f,e⟩:=ay.1 e
   split at e
   .obtain ⟨_,e⟩:=aU e
    cases e;exact new rfl ⟨_,rfl⟩
   trivial
  trivial
 case slice ty x lo hi mx=>cases U:xY E ty h (ev t x) (lo.map (ev t)) (hi.map (ev t)) (mx.map (ev t))<;>rw[U]at e<;>first|(cases e;done)|(cases e;rfl)
 case indexAddr ty x i=>
  have key:∀{el l k},oz E h el l k=ab (v,h')->h'=h:=λ{el l k} e=>by
   unfold oz at e;obtain⟨te,_,e⟩:=ay.1 e;obtain⟨_,e⟩:=aU e;obtain⟨d,_,e⟩:=ay.1 e;grind
  unfold pX at e;refine same ?_;split at e<;>try(cases e;done)
  obtain⟨ti,_,e⟩:=ay.1 e;split at e<;>try(cases e;done)
  .split at e<;>first|exact key e|(cases e;done)|(obtain⟨te,_,e⟩:=ay.1 e;grind)
  .obtain ⟨te,_,e⟩:=ay.1 e;grind
 case index ty x i=>
  unfold A7 at e;refine same ?_;split at e<;>try(cases e;done)
  split at e<;>(obtain⟨ti,_,e⟩:=ay.1 e;split at e<;>try(cases e;done))
  .obtain ⟨_,e⟩:=aU e;obtain⟨c,_,e⟩:=cE.1 e;cases e;rfl
  .obtain ⟨te,_,e⟩:=ay.1 e;obtain⟨_,e⟩:=aU e;obtain⟨u,_,e⟩:=ay.1 e;grind
 simp only[di]at e
 have g:ja (lO (ev t) ps)=[]:=as0 λp hp=>auB (acv Z p.2 (List.mem_map.2 ⟨p,hp,rfl⟩))
 unfold mf at e
 obtain⟨ti,A,e⟩:=ay.1 e
 split at e
 .obtain ⟨te,hte,e⟩:=ay.1 e
  obtain⟨_,e⟩:=aU e
  obtain⟨z,f,e⟩:=ay.1 e
  cases r:cA te (.im z)<;>rw[r]at e<;>simp only[Bool.not_false,Bool.not_true,ao,au]at e
  .cases e
  .split at e
   .obtain ⟨_,e⟩:=aU e
    rw[g]at e
    cases e;exact new rfl ⟨_,rfl⟩
   .obtain ⟨l,y,e⟩:=cE.1 e
    cases e;exact new rfl ⟨_,rfl⟩
 trivial
theorem OO{a:Act}{o:Oper}{c:Call}(A:o.op=.call c):execOp a.eval o=(do let d<-resolve a.eval c o.type;invoke d.target d.args):=by simp[execOp,A]
theorem KB(G:jL F P E ih)(H:gF F P E)(hF:dJ F)(f:HR B X O w h){keep:Bool}{aC:Nat}(K:ar h aC=ae)(hM:X.M aC=ae)(l:aC<=h.length){t:Tm}{a:Act}(ht:TR X t a.tmps){o:Oper}(ho:∀x∈o.op.operands.toList,mU x=ag){v:V}{bo:Option cj}
  (e:fL E ih keep aC t h o.op=ab (v,bo)) (n:Nat):fR F n P B X O w h (execOp a.eval o) v (dP h aC bo):=by
 have plain:∀{h':Heap},di E keep aC t h o.op=ab (v,h')->(h'=dP h aC bo)->fR F n P B X O w h (execOp a.eval o) v (dP h aC bo):=λ{h'} L N=>by
  rw[<-N];exact .inl (FK H.toEnvTy f K hM l ht ho L)
 unfold fL at e;split at e
 .rename_i c J;have bi:∀{b:Builtin} {h':Heap},c.callee=.builtin b->hU E aC b c.argTypes (dk t c.args) h=ab (v,h')->h'=dP h aC bo->fR F n P B X O w h (execOp a.eval o) v (dP h aC bo):=λ{b h'} I L N=>
   plain (h':=h') (by simp[J,di,I,L]) N
  split at e
  .rename_i I;obtain⟨r,A,e⟩:=cE.1 e;cases e;refine bi (h':=r.2) I A ?_;unfold hU at A;simp only at A;split at A
   .obtain ⟨t',_,A⟩:=ay.1 A;unfold rX at A;split at A<;>first|(cases A;rfl)|trivial
   trivial
  .rename_i I;obtain⟨r,A,e⟩:=cE.1 e;cases e;refine bi (h':=r.2) I A ?_;unfold hU at A;simp only at A;split at A
   .obtain ⟨m,_,A⟩:=cE.1 A;cases A;rfl
   trivial
  .rename_i I;obtain⟨r,A,e⟩:=cE.1 e;cases e;refine bi (h':=r.2) I A ?_;unfold hU at A;simp only at A;split at A
   .obtain ⟨m,_,A⟩:=cE.1 A;cases A;rfl
   trivial
  .cases e
  ·-- a function
   obtain⟨⟨g,xs⟩,q,e⟩:=ay.1 e;obtain⟨args,ha,s⟩:=LV H ht (c:=c) (λx hx=>ho x (by rw[J];exact hx)) q o.type
   have y:∀{h':Heap},fR F n P B X O w h (callFunc g args) v h'->fR F n P B X O w h (execOp a.eval o) v h':=λ{h'} hc=>hc.acK (by rw[OO J];exact s w)
   split at e
   .cases e
   .split at e
    .cases z:E.inl g with
     |true=>grind
     |false=>
      simp only[z,au]at e;obtain⟨ds,D,e⟩:=ay.1 e;obtain⟨r,U,e⟩:=ay.1 e;obtain⟨⟨fn,cd,R,A,S⟩,Z⟩:=Ov G H hF U;have j:=rZ (w:=w) R A S args;split at e
      .rename_i p;cases e;refine y (.inr ⟨g,args,j,?_⟩);have hS:rM X w h X.C (λ_=>False):=⟨.refl _,λb bi a0 A=>A.elim⟩
       have d:=zq f hS D (λv hv b A=>acr p v hv b A) ha
       refine(Z n X.C w args f.ci d).mono λx w' ⟨C',q1,q2,T,q4,q5⟩=>?_
       obtain⟨W,Y⟩:=Pj f q1 q2 T q4;exact⟨X.jf C',O,W,by trivial,Y⟩
      .obtain ⟨nJ,e⟩:=aU e;cases e;refine y (.inr ⟨g,args,j,?_⟩);have d:=zq f (Cu f) D (λ_ _ _ _=>trivial) ha
       refine(Z n _ w args (G6 f.ci) d).mono λx w' ⟨C',q1,q2,T,q4,q5⟩=>?_
       obtain⟨W,Y⟩:=Im f T;exact⟨X,O,W,by simp only[aq];exact r.C7 ag [x] nJ q5,Y⟩
    trivial
 .rename_i ty len ps J;obtain⟨p,e⟩:=aU e;obtain⟨r,U,e⟩:=cE.1 e;cases e;have he:di E keep aC t h o.op=ab (r.1,r.2):=by simp[J,di,U]
  refine plain he ?_;have:=T4 K l he (.inr ⟨_,_,_,J,p⟩);rw[J]at this;trivial
 .obtain ⟨hq,e⟩:=aU e;obtain⟨r,U,e⟩:=cE.1 e;cases e;exact plain U (T4 K l U (.inl hq))
def PS(X:Cx)(k n:Nat)(h:Heap):=∀b,k<=b->b< k+n->ar h b=ae->X.M b=ae
theorem PS.step{k n:Nat}(hp:PS X k n h)(I:k+n<=h.length){X':Cx}{O':Nat->Addr->Prop}{w':World}{h':Heap}(st:Step B X O w h X' O' w' h'):PS X' k n h':=λb h1 h2 A=>
 st.fr.rp b (by omega) (hp b h1 h2 (st.fr.o7 b A)) A
theorem Ix{k i:Nat}{m:List Nat}(A:ar h i=ae):ar (dg k m h) i=ae:=by
 simp[wA,A]
theorem Iw a b i:ar (a++b) i=if i< a.length then ar a i else ar b (i-a.length):=by
 grind[cy]
theorem amJ a n i:ar (a.drop n) i=ar a (n+i):=by simp[cy,yz]
theorem wC a n i:ar (a.take n) i=if i< n then ar a i else ae:=by
 grind[cy]
theorem avJ(A:HR B X O w h){v:V}{d:D}(e:V.snap h v=ab d){x:Value}(r:aq X v ag [x]):aR (ov B X w) d ag [x]:=by
 unfold V.snap at e;split at e
 .rename_i b;split at e
  .rename_i u Z;obtain⟨d',c,e⟩:=cE.1 e;subst e;obtain⟨bi,f,ws,h1,h2,K,g,l,p,q,s⟩:=A.dO b _ Z;obtain⟨y,z,_,bj,J,L,C⟩:=r;rw[h1]at J;cases J;obtain⟨M,U,N,G⟩:=C h2.symm;rw[g]at U;cases U;have I:=wg A (Cu A) c (λ_ _=>trivial) p
   refine⟨f,ws,by simp[z,G,ju],l,I,λj v ev=>?_⟩
   have H:=(e7.1 ev).1;have hB:=(A.own b _ (s j (bH _) H).1).1;unfold ov;rw[aK hB];exact q j v ev
  trivial
 .exact wg A (Cu A) e (λ_ _=>trivial) r
theorem afS(I:HR B X O w h):∀{l:List V} {ds:List D} {xs:List Value},nE h l=ab ds->a8 (λv x=>aq X v ag [x]) l xs->a8 (λd x=>aR (ov B X w) d ag [x]) ds xs
 |[],ds,xs,e,r=>by simp[nE]at e;subst e;cases r;exact a8.nil
 |v::l,ds,xs,e,r=>by
  have e:((V.snap h v).bind λd=>(nE h l).map _)=ab ds:=e
  obtain⟨d,J,e⟩:=ay.1 e;obtain⟨U,A,e⟩:=cE.1 e;subst e;obtain⟨x,f,rfl,Z,c⟩:=r;exact a8.cons (avJ I J Z) (afS I A c)
theorem asL(z:jL F P E ih)(M:gF F P E)(hF:dJ F){keep:Bool}{ops:Array Oper}{k n i cls:Nat}{m:List Nat}{st rj:St}{nt q:Nat}{a:Act}{o:Oper}(e:dn E ih keep ops k n i cls m o st=ab rj)(s:SR nt B X O w a st)(uq:sB nt o=ag)
  (am5:cls=0->(pL o.op||DM E o.op)=ag) (uv:PS X k n st.h) (hi:bS E o.op=ag->i< n) (Zw:k+n<=st.h.length)
  {K:Act->World->Prop} {Q:Exit->Act->World->Prop} (hK:∀X' O' w' a',SR nt B X' O' w' a' rj->Step B X O w st.h X' O' w' rj.h->K a' w'):
  if th o (yielded ops a.tmps)=ag then o.wpIn F q P a w K Q else(∀f,o.about P w a.eval=ab f->F.fn f)/\K (a.put o.dst undef) w:=by
 obtain⟨hd,ho⟩:=RU uq;unfold dn at e;cases hg:guardOf ops st.t o.guard with
 |none=>rw[hg]at e;cases e
 |some b=>
  rw[hg]at e;have hw:=YZ s.t hg;cases b with
  |false=>
   simp only at e;cases e;rw[hw,ax (by simp)]
   exact⟨λf _=>hF.fn f,hK X O w _ (s.put hd (agB X)) (.refl _ _ _ _ _)⟩
  |true=>
   simp only at e;have j:∀{v:V} {h':Heap},rj=⟨putDst st.t o.dst v,h',st.lp,st.df⟩->fR F (q-1) P B X O w st.h (execOp a.eval o) v h'->
     if th o (yielded ops a.tmps)=ag then o.wpIn F q P a w K Q else(∀f,o.about P w a.eval=ab f->F.fn f)/\K (a.put o.dst undef) w:=λ{v h'} he y=>by
    subst he;rw[hw,aK rfl];unfold Oper.wpIn;refine⟨λf _=>hF.fn f,?_⟩
    rw[hF.round,ahm];refine y.upon hF λx w' ⟨X',O',q1,q2,q3⟩=>?_
    exact hK X' O' w' _ ((s.step q1 q3).put hd q2) q3
   have U:∀{view v' h':Heap} {v:V} {m:Sem Next},Sub view st.h->view.length=st.h.length->h'.length=v'.length->
     (∀b k,ar h' b=ab k->(ar st.h b=ab k/\ar view b=ae)∨ar v' b=ab k)->(∀b,ar h' b=ae->ar st.h b=ae/\ar v' b=ae)->
     fR F (q-1) P B X O w view m v v'->fR F (q-1) P B X O w st.h m v h':=λ{view v' h' v m} c1 c2 c3 c4 c5 y=>by
    rcases y with⟨x,w',X',O',r1,r2,r3,r4⟩|⟨f,args,r1,r2⟩
    .obtain ⟨u1,u2⟩:=Ux s.h c1 c2 c3 r2 r4 c4 c5;exact .inl ⟨x,w',X',O',r1,u1,r3,u2⟩
    .refine .inr ⟨f,args,r1,r2.mono λx w' ⟨X',O',t1,t2,t3⟩=>?_⟩
     obtain⟨u1,u2⟩:=Ux s.h c1 c2 c3 t1 t3 c4 c5;exact⟨X',O',u1,t2,u2⟩
   have C:∀m,HR B X O w (dg k m st.h):=λm=>s.h.view (zK k m st.h) (nK k m st.h)
   have G:∀{aC:Nat} {bo:Option cj} {v:V} {m:List Nat},ar st.h aC=ae->(bo≠ae->aC< st.h.length)->aC<=st.h.length->fR F (q-1) P B X O w (dg k m st.h) (execOp a.eval o) v (dP (dg k m st.h) aC bo)->
     fR F (q-1) P B X O w st.h (execOp a.eval o) v (dP st.h aC bo):=λ{aC bo v m} hn L hle y=>by
    cases bo with
    |none=>
     simp only[atD]at y|-;refine U (zK k m st.h) (nK k m st.h) (nK k m st.h).symm (λb kk A=>?_) (λb A=>⟨A,Ix A⟩) y
     cases hv:ar (dg k m st.h) b with
     |none=>exact .inl ⟨A,rfl⟩
     |some k2=>right;rw[zK k m st.h b k2 hv]at A;exact A
    |some bk=>
     have L:=L (by simp)
     have amQ:aC<=(dg k m st.h).length:=by rw[nK];exact hle
     have g1:∀b,ar (dP st.h aC (ab bk)) b=if b=aC then ab bk else ar st.h b:=λb=>bR st.h aC b bk hle
     have g2:∀b,ar (dP (dg k m st.h) aC (ab bk)) b=if b=aC then ab bk else ar (dg k m st.h) b:=λb=>bR _ aC b bk amQ
     refine U (zK k m st.h) (nK k m st.h) ?_ (λb kk A=>?_) (λb A=>?_) y
     .show (aI st.h aC bk).length=(aI (dg k m st.h) aC bk).length;rw[b9,b9,nK]
     .rw [g1]at A;by_cases l:b=aC
      .rw [aK l]at A;right;rw[g2,aK l];exact A
      .rw [ax l]at A;cases hv:ar (dg k m st.h) b with
       |none=>exact .inl ⟨A,rfl⟩
       |some k2=>right;rw[g2,ax l,hv];rw[zK k m st.h b k2 hv]at A;exact A
     .rw [g1]at A;by_cases l:b=aC
      .rw [aK l]at A;cases A
      .rw [ax l]at A;exact⟨A,by rw[g2,ax l];exact Ix A⟩
   split at e
   ·-- by the dF alone
    obtain⟨r,I,e⟩:=cE.1 e;have amr:=akZ (am5 rfl) (show di E keep (k+i) st.t [] o.op=ab (r.1,r.2)from I) st.h.length st.h;exact j e.symm (.inl (FK M.toEnvTy s.h (pO rfl) (oL s.h) (aL _) s.t ho amr))
   .cases N:bS E o.op with
    |true=>
     rw[N,ao]at e;have sn:=hi N;split at e
     .rename_i D;obtain⟨r,I,e⟩:=cE.1 e;have hM:=uv (k+i) (by omega) (by omega) D
      have y:=KB z M hF (C m) (Ix D) hM (by rw[nK];omega) s.t ho (v:=r.1) (bo:=r.2) I (q-1)
      exact j e.symm (G D (λ_=>by omega) (by omega) y)
     .cases e
    |false=>
     rw[N,au]at e;obtain⟨r,I,e⟩:=ay.1 e;split at e
     .rename_i hbo;rw[bz]at I;have y:=KB z M hF (C m) (Ix (pO rfl)) (oL s.h) (by rw[nK];exact aL _) s.t ho (v:=r.1) (bo:=r.2) I (q-1)
      rw[hbo]at y;have:=G (pO rfl) (λhh=>absurd rfl hh) (aL _) y
      exact j (hH e).symm this
     .cases e
   .obtain ⟨r,I,e⟩:=cE.1 e;have anj:Sub (dg k m (st.h.take (k+n))) st.h:=(zK k m _).trans (agi _ _);have hq:=afI (ih:=ih) (keep:=keep) anj I st.h.length;exact j e.symm (KB z M hF s.h (pO rfl) (oL s.h) (aL _) s.t ho hq (q-1))
   .rw [bz]at e;exact acT z M hF e s uq (pO rfl) (oL s.h) (aL _) hK
   .split at e
    .rename_i c Z;obtain⟨⟨g,xs⟩,R,e⟩:=ay.1 e;obtain⟨⟨v,h',lp'⟩,sn,e⟩:=ay.1 e;obtain⟨H,e⟩:=aU e;have J:Sub (only (l9 st.h 0 64 (iH 0 (fu xs) [])) st.h) st.h:=asJ _ _;have d:(only (l9 st.h 0 64 (iH 0 (fu xs) [])) st.h).length=st.h.length:=RS _ _;have H:=TG H;generalize only (l9 st.h 0 64 (iH 0 (fu xs) [])) st.h=vw at sn H J d;rw[s.lp]at sn;have hvr:HR B X O w vw:=s.h.view J d;obtain⟨args,ha,S⟩:=LV M s.t (c:=c) (λx hx=>ho x (by rw[Z];exact hx)) R o.type
     obtain⟨Du,⟨fn,cd,uu,A,Dv⟩,T⟩:=II z M hF sn hvr ha;have hlen:st.h.length<=h'.length:=by
      obtain⟨e1,w1,_,hR,_⟩:=(T 0).2 [] (aeY hF _);cases e1 with
      |returned x=>
       obtain⟨X',O',_,_,t3⟩:=hR;have:=t3.len;rw[d]at this;exact this
      |panicked=>exact hR.elim
      |outgrown=>exact hR.elim
     have y:fR F (q-1) P B X O w vw (execOp a.eval o) v h':=
      .inr ⟨g,args,by rw[OO Z,S w];exact rZ uu A Dv args,T (q-1)⟩
     have W:∀b,b< st.h.length->ar h' b=ar vw b:=λb A=>by
      rw[H,bz,wC,aK A]
     have Y:∀b,ar (st.h++h'.drop (aF st.h)) b=if b< st.h.length then ar st.h b else ar h' b:=λb=>by
      rw[Iw];split
      .rfl
      .rename_i A;rw[amJ,bz];congr 1;omega
     have:=U (h':=st.h++h'.drop (aF st.h)) J d (by rw[dH,n9,bz];omega) (λb kk A=>by
       rw[Y]at A;split at A
       .rename_i L;cases hv:ar vw b with
        |none=>exact .inl ⟨A,rfl⟩
        |some k2=>
         have:=J b k2 hv;rw[A]at this;cases this;exact .inr (by rw[W b L];exact hv)
       .exact .inr A) (λb A=>by
       rw[Y]at A;split at A
       .rename_i L;refine⟨A,?_⟩;rw[W b L];cases hv:ar vw b with
        |none=>rfl
        |some k2=>have:=J b k2 hv;rw[A]at this;cases this
       .rename_i hge;refine⟨?_,A⟩;rw[cy,jF (by omega)];rfl) y
     have e:=hH e;subst Du;exact j (by rw[<-e,s.lp]) this
    .cases e
   .split at e
    .rename_i ty a' x Z;split at e
     .rename_i b g p lS;obtain⟨_,e⟩:=aU e;obtain⟨r,I,e⟩:=cE.1 e;have DA:di E keep st.h.length st.t st.h o.op=ab (r.1,r.2):=by
       rw[Z];simp only[di];rw[lS];exact I
      exact j e.symm (.inl (FK M.toEnvTy s.h (pO rfl) (oL s.h) (aL _) s.t ho DA))
     .cases e
    .cases e
   .split at e
    .rename_i ty a' Z;split at e
     .rename_i b g p lS;obtain⟨_,e⟩:=aU e;obtain⟨r,I,e⟩:=cE.1 e;have hsv:sR E st.t (st.h.take k) o.op=ab r.1:=by
       rw[Z];simp only[sR];rw[lS,I];rfl
      have hq:=afI (ih:=ih) (keep:=keep) (agi k st.h) hsv st.h.length;exact j e.symm (KB z M hF s.h (pO rfl) (oL s.h) (aL _) s.t ho hq (q-1))
     .cases e
    .cases e
   .split at e
    .rename_i c Z;obtain⟨⟨g,xs⟩,R,e⟩:=ay.1 e;obtain⟨ds,wy,e⟩:=ay.1 e;obtain⟨r,I,e⟩:=ay.1 e;obtain⟨nJ,e⟩:=aU e;obtain⟨args,ha,S⟩:=LV M s.t (c:=c) (λx hx=>ho x (by rw[Z];exact hx)) R o.type
     obtain⟨⟨fn,cd,uu,A,Dv⟩,amB⟩:=Ov z M hF I;have anb:=afS (C m) wy ha;have y:fR F (q-1) P B X O w st.h (execOp a.eval o) (.im r) st.h:=by
      refine .inr ⟨g,args,by rw[OO Z,S w];exact rZ uu A Dv args,?_⟩
      refine(amB (q-1) _ w args (G6 s.h.ci) anb).mono λx w' ⟨C',q1,q2,q3,q4,q5⟩=>?_
      obtain⟨g1,g2⟩:=Im s.h q3;exact⟨X,O,g1,by simp only[aq];exact r.C7 ag [x] nJ q5,g2⟩
     exact j (hH e).symm y
    .cases e
end
def Ag(l:List Nat)(t A:Tm):Prop:=∀i∈l,t.get i=A.get i
theorem awa{l:List Operand}{i:Nat}(h:Operand.tmp i∈l):i∈tmpsOf l:=by
 induction l with
 |nil=>cases h
 |cons o l ih=>
  rcases du.1 h with rfl|h
  .exact List.mem_cons_self
  have:=ih h;cases o
  .exact List.mem_cons_of_mem _ this
  all_goals exact this
theorem Ag.ev{ops:Array Oper}{o:Oper}{t t':Tm}(h:Ag (reads ops o) t t'){x:Operand}(A:x∈o.op.operands.toList):ev t x=ev t' x:=by
 cases x with
 |tmp i=>exact h i (List.mem_append_left _ (awa A))
 |_=>rfl
theorem Ag.guard{ops:Array Oper}{o:Oper}{t A:Tm}(h:Ag (reads ops o) t A):guardOf ops t o.guard=guardOf ops A o.guard:=by
 unfold guardOf;cases J:o.guard with
 |none=>rfl
 |some g=>
  obtain⟨j,I⟩:=g;simp only;cases U:bG ops.toList j with
  |none=>rfl
  |some Z=>
   simp only[ah];cases c:Z.dst
   .rfl
   rename_i d;simp only[ah];rw[h d (List.mem_append_right _ (by rw[J];simp only[U,c];simp))]
theorem Ps{l:List Nat}{b:Nat}(h:bg l b=ag):b∈l:=by
 induction l with
 |nil=>cases h
 |cons a l ih=>
  have e:bg (a::l) b=(bif al a b then ag else bg l b):=rfl;rw[e]at h;cases A:al a b with
  |true=>rw[dU A];simp
  |false=>rw[A,au]at h;simp[ih h]
theorem Pu{l:List Nat}{b:Nat}(h:bg l b=af):b ∉ l:=λI=>by
 induction l with
 |nil=>cases I
 |cons a l ih=>
  have e:bg (a::l) b=(bif al a b then ag else bg l b):=rfl;rw[e]at h;cases A:al a b with
  |true=>rw[A]at h;cases h
  |false=>
   rw[A,au]at h;rcases du.1 I with rfl|I<;>try grind
   rw[gj]at A;cases A
theorem Ag.put{l:List Nat}{t:Tm}{dst:Option Nat}{v:V}(h:∀d,dst=ab d->d ∉ l):Ag l t (putDst t dst v):=λi hi=>by
 cases dst
 .rfl
 rename_i d;exact(Tm.Pf t d i v (λe=>h d rfl (by rw[<-e];exact hi))).symm
theorem Tm.set_comm(t:Tm):∀{i j:Nat} (_:i≠j) (x y:V),(t.set i x).set j y=(t.set j y).set i x:=by
 induction t with
 |e=>intros;rfl
 |n v l r U Z=>
  intro i j c x y;by_cases hi:i=0
  .subst hi;have J:j≠0:=BS c;by_cases A:j%2=1<;>simp[Tm.pZ,J,A]
  by_cases J:j=0
  .subst J;by_cases I:i%2=1<;>simp[Tm.pZ,hi,I]
  by_cases I:i%2=1<;>by_cases A:j%2=1<;>simp only[Tm.pZ,hi,J,I,A,if_true,if_false]
  .rw [U (by omega)]
  rw[Z (by omega)]
theorem atE(t:Tm){x y:Option Nat}(h:∀d,x=ab d->y≠ab d)(u v:V):putDst (putDst t x u) y v=putDst (putDst t y v) x u:=by
 cases x
 .rfl
 rename_i d;cases y
 .rfl
 rename_i c;exact Tm.set_comm t (λe=>h d rfl (by rw[e])) u v
section
variable {F:Fence} {P:Program} {B:Nat} {X:Cx} {O:Nat->Addr->Prop} {w:World} {E:Env} {ih:Nat->Nat->Nat->Code->St->Option (Ex×St)}
theorem C3{t t':Tm}{l:Array Operand}(h:∀x∈l.toList,ev t x=ev t' x):dk t l=dk t' l:=by
 rw[OM,OM];exact ahZ h
theorem OK{t A:Tm}{l:Array (Nat×Operand)}(h:∀p∈l.toList,ev t p.2=ev A p.2):lO (ev t) l=lO (ev A) l:=by
 rw[OL,OL];exact ahZ λp hp=>by rw[h p hp]
theorem aeT{t A:Tm}{l:List Operand}(h:∀x∈l,ev t x=ev A x):(bn [] (λo _ ih=>ev t o::ih) l:List V)=bn [] (λo _ ih=>ev A o::ih) l:=by
 induction l with
 |nil=>rfl
 |cons a l ih=>show ev t a::_=ev A a::_;rw[h a (by simp),ih λx I=>h x (by simp[I])]
theorem Ka{t A:Tm}{x:Option Operand}(h:∀y,x=ab y->ev t y=ev A y):x.map (ev t)=x.map (ev A):=by
 cases x
 .rfl
 rename_i y;simp[h y rfl]
theorem T3{keep:Bool}{aC:Nat}{t t':Tm}{h:Heap}{op:Op}(A:∀x∈op.operands.toList,ev t x=ev t' x):di E keep aC t h op=di E keep aC t' h op:=by
 cases op<;>simp only[di];case move x=>rw[A x (by simp[bw])]
 case assign x=>rw[A x (by simp[bw])]
 case pick c a b=>rw[A c (by simp[bw]),A a (by simp[bw]),A b (by simp[bw])]
 case box ty x=>rw[A x (by simp[bw])]
 case build ty ps=>rw[OK λp hp=>A p.2 (by simp[bw];exact⟨p.1,by simpa using hp⟩)]
 case buildSlice ty n ps=>rw[OK λp hp=>A p.2 (by simp[bw];exact⟨p.1,by simpa using hp⟩)]
 case load ty a=>rw[A a (by simp[bw])]
 case store ty a x=>rw[A a (by simp[bw]),A x (by simp[bw])]
 case nilCheck x=>rw[A x (by simp[bw])]
 case binOp op ty x y yt=>rw[A x (by simp[bw]),A y (by simp[bw])]
 case unOp op ty x=>rw[A x (by simp[bw])]
 case convert s d x=>rw[A x (by simp[bw])]
 case makeInterface ty x=>rw[A x (by simp[bw])]
 case makeFunc f a c=>
  unfold Lp;rw[aeT (l:=a.toList) λx J=>A x (by simp[bw];exact .inl (by simpa using J)),aeT (l:=c.toList) λx J=>A x (by simp[bw];exact .inr (by simpa using J))]
 case makeSlice ty l c=>rw[A l (by simp[bw]),A c (by simp[bw])]
 case slice ty x lo hi mx=>rw[A x (by simp[bw]),Ka λy I=>A y (by subst I;simp[bw]),Ka (x:=hi) λy I=>A y (by subst I;simp[bw]),Ka (x:=mx) λy I=>A y (by subst I;simp[bw])]
 case fieldAddr ty x k=>rw[A x (by simp[bw])]
 case indexAddr ty x i=>rw[A x (by simp[bw]),A i (by simp[bw])]
 case index ty x i=>rw[A x (by simp[bw]),A i (by simp[bw])]
 case extract x i=>rw[A x (by simp[bw])]
 case makeMap ty r=>rw[Ka λy I=>A y (by subst I;simp[bw])]
 case lookup ty m k ok=>rw[A m (by simp[bw]),A k (by simp[bw])]
 case mapUpdate ty m k x=>rw[A m (by simp[bw]),A k (by simp[bw]),A x (by simp[bw])]
 case insert ty m k x=>rw[A m (by simp[bw]),A k (by simp[bw]),A x (by simp[bw])]
 case call c=>
  split
  .rw [C3 λx J=>A x (by simp only[bw,ni,rA,cD];exact .inr J)]
  rfl
theorem Uk{t I:Tm}{c:Call}(A:∀x∈c.operands.toList,ev t x=ev I x):target t c=target I c:=by
 have J:dk t c.args=dk I c.args:=C3 λx U=>A x (by simp only[ni,rA,cD];exact .inr U)
 unfold target;split
 .rename_i f hf;rw[J,A f (by simp[ni,hf])]
 rfl
theorem aml{aC:Nat}{t t':Tm}{c:Call}{h:Heap}{lp:List Rec}(A:∀x∈c.operands.toList,ev t x=ev t' x):kG E ih aC t c h lp=kG E ih aC t' c h lp:=by
 have I:dk t c.args=dk t' c.args:=C3 λx J=>A x (by simp only[ni,rA,cD];exact .inr J)
 have U:ry t c=ry t' c:=by
  unfold ry;split
  .rename_i f hf;rw[I,A f (by simp[ni,hf])]
  rfl
 unfold kG;rw[U,Uk A]
theorem aeh{keep:Bool}{aC:Nat}{t t':Tm}{h:Heap}{op:Op}(A:∀x∈op.operands.toList,ev t x=ev t' x):fL E ih keep aC t h op=fL E ih keep aC t' h op:=by
 unfold fL;split
 .rename_i c;have I:dk t c.args=dk t' c.args:=C3 λx J=>A x (by simp only[bw,ni,rA,cD];exact .inr J)
  rw[I,Uk (c:=c) A]
 .rename_i ty n ps;rw[OK λp hp=>A p.2 (by simp[bw];exact⟨p.1,by simpa using hp⟩)]
 rw[T3 A]
theorem avv{t t':Tm}{h:Heap}{op:Op}(A:∀x∈op.operands.toList,ev t x=ev t' x):sR E t h op=sR E t' h op:=by
 unfold sR;split
 .rename_i ty a;rw[A a (by simp[bw])]
 rfl
def eL(E:Env)(ih:Nat->Nat->Nat->Code->St->Option (Ex×St))(keep:Bool)(ops:Array Oper)(k n i cls:Nat)(m:List Nat)(o:Oper)(t:Tm)(h:Heap)(lp:List Rec)(df:List (Nat×List V)):Option (V×Heap×List Rec×List (Nat×List V)):=
 match guardOf ops t o.guard with
 |none=>ae
 |some af=>ab (.im (.aH []),h,lp,df)
 |some ag=>match cls with
  |0=>(di E keep (k+i) t [] o.op).map λr=>(r.1,h,lp,df)
  |1=>bif bS E o.op then(match ar h (k+i)with
    |none=>(fL E ih keep (k+i) t (dg k m h) o.op).map λr=>(r.1,dP h (k+i) r.2,lp,df)
    |some _=>ae)
   else(fL E ih keep (aF h) t (dg k m h) o.op).bind λr=>(match r.2 with
    |none=>ab (r.1,h,lp,df)
    |some _=>ae)
  |2=>(sR E t (dg k m (h.take (k+n))) o.op).map λv=>(v,h,lp,df)
  |3=>(match o.op with
   |.defer c=>(match c.callee with
    |.value f=>(match ev t f with
     |.fn g a cap=>bif lY (g,a++(dk t c.args++cap))then ae else ab (.undef,h,lp,(g,a++(dk t c.args++cap))::df)
     |_=>ae)
    |_=>ae)
   |op=>((match op with
     |.call c=>(match c.callee with
      |.builtin _=>lift lp (di E keep (aF h) t h op)
      |_=>kG E ih (aF h) t c h lp)
     |op=>lift lp (di E keep (aF h) t h op):RC)).map λr=>(r.1,r.2.1,r.2.2,df))
  |4=>(match o.op with
   |.call c=>(target t c).bind λg=>(gK E ih g.1 g.2 (only (l9 h 0 64 (iH 0 (fu g.2) [])) h) lp).bind λr=>
     bif lC (only (l9 h 0 64 (iH 0 (fu g.2) [])) h) (r.2.1.take (aF h))then ab (r.1,h++r.2.1.drop (aF h),r.2.2,df)else ae
   |_=>ae)
  |6=>(match o.op with
   |.store ty a x=>(match ev t a with
    |.ptr b g p=>bif jX t b m&&DL (ar h b)then(ra E h ty (.ptr b g p) (ev t x)).map λr=>(r.1,r.2,lp,df)else ae
    |_=>ae)
   |_=>ae)
  |7=>(match o.op with
   |.load ty a=>(match ev t a with
    |.ptr b g p=>bif oT t b m then(gd E (h.take k) ty (.ptr b g p)).map λr=>(r.1,h,lp,df)else ae
    |_=>ae)
   |_=>ae)
  |_=>(match o.op with
   |.call c=>(target t c).bind λg=>(nE (dg k m h) g.2).bind λds=>(iu E ih g.1 ds).bind λr=>
     bif r.flat then ab (.im r,h,lp,df)else ae
   |_=>ae)
def UH(o:Oper)(t:Tm)(r:V×Heap×List Rec×List (Nat×List V)):St:=⟨putDst t o.dst r.1,r.2.1,r.2.2.1,r.2.2.2⟩
theorem En(keep:Bool)(ops:Array Oper)(k n i cls:Nat)(m:List Nat)(o:Oper)(t:Tm)(h:Heap)(lp:List Rec)(df:List (Nat×List V)):
  dn E ih keep ops k n i cls m o ⟨t,h,lp,df⟩=(eL E ih keep ops k n i cls m o t h lp df).map (UH o t):=by
 unfold dn eL
 simp only
 cases I:guardOf ops t o.guard with
 |none=>rfl
 |some b=>
  cases b with
  |false=>rfl
  |true=>
   rcases cls with _|_|_|_|_|_|_|_|cls
   all_goals simp only
   .simp only[Gq];rfl
   .cases A:bS E o.op
    .simp only[au]
     cases fL E ih keep (aF h) t (dg k m h) o.op
     .rfl
     rename_i r;simp only[ah]
     cases r.2<;>rfl
    simp only[ao]
    cases ar h (k+i)
    .simp only[Gq];rfl
    rfl
   .simp only[Gq];rfl
   .unfold e6
    simp only[I]
    cases J:o.op with
    |defer c=>
     simp only
     cases c.callee with
     |value f=>
      simp only;cases ev t f<;>try rfl
      rename_i g a cap;simp only;cases lY (g,a++(dk t c.args++cap))<;>rfl
     |_=>rfl
    |call c=>
     simp only
     cases c.callee with
     |builtin b=>simp only;cases lift lp (di E keep (aF h) t h (.call c))<;>rfl
     |_=>simp only;cases(kG E ih (aF h) t c h lp)<;>rfl
    |_=>
     simp only
     generalize lift lp _=r;cases r<;>rfl
   .cases o.op with
    |call c=>
     simp only
     cases target t c
     .rfl
     rename_i g;simp only[ah]
     cases gK E ih g.1 g.2 (only (l9 h 0 64 (iH 0 (fu g.2) [])) h) lp
     .rfl
     rename_i r;simp only[ah];cases lC (only (l9 h 0 64 (iH 0 (fu g.2) [])) h) (r.2.1.take (aF h))<;>rfl
    |_=>rfl
   .cases o.op with
    |call c=>
     simp only
     cases target t c with
     |none=>rfl
     |some g=>
      simp only[ah]
      cases nE (dg k m h) g.2
      .rfl
      rename_i ds;simp only[ah]
      cases iu E ih g.1 ds
      .rfl
      rename_i r;simp only[ah];cases r.flat<;>rfl
    |_=>rfl
   .cases o.op with
    |store ty a x=>
     simp only
     cases ev t a with
     |ptr b g p=>simp only;cases(jX t b m&&DL (ar h b))with
      |true=>simp only[ao,Gq];rfl
      |false=>rfl
     |_=>rfl
    |_=>rfl
   .cases o.op with
    |load ty a=>
     simp only
     cases ev t a with
     |ptr b g p=>simp only;cases oT t b m with
      |true=>simp only[ao,Gq];rfl
      |false=>rfl
     |_=>rfl
    |_=>rfl
   .cases o.op with
    |call c=>
     simp only
     cases target t c with
     |none=>rfl
     |some g=>
      simp only[ah]
      cases nE (dg k m h) g.2
      .rfl
      rename_i ds;simp only[ah]
      cases iu E ih g.1 ds
      .rfl
      rename_i r;simp only[ah];cases r.flat<;>rfl
    |_=>rfl
theorem asu{m:List Nat}{t A:Tm}(h:Ag m t A)(b:Nat):jX t b m=jX A b m:=by
 induction m with
 |nil=>rfl
 |cons s m ih=>
  have e:∀t:Tm,jX t b (s::m)=(match t.get s with|.ptr c _ _=>bif al b c then af else jX t b m|_=>af):=λ_=>rfl
  rw[e,e,h s (by simp),ih λx I=>h x (by simp[I])]
theorem auM{m:List Nat}{t A:Tm}(h:Ag m t A)(b:Nat):oT t b m=oT A b m:=by
 cases m
 .rfl
 rename_i s m;unfold oT;simp only[h s (by simp)]
theorem acW{keep:Bool}{ops:Array Oper}{k n i cls:Nat}{m:List Nat}{o:Oper}{t t':Tm}{h:Heap}{lp:List Rec}{df:List (Nat×List V)}(Z:Ag (reads ops o) t t')(hm:cls=6∨cls=7->Ag m t t'):
  eL E ih keep ops k n i cls m o t h lp df=eL E ih keep ops k n i cls m o t' h lp df:=by
 have I:∀x∈o.op.operands.toList,ev t x=ev t' x:=λx J=>Z.ev J
 have U:∀c,o.op=.call c->target t c=target t' c:=λc A=>Uk λx J=>I x (by rw[A];exact J)
 have d:=T3 (E:=E) (keep:=keep) (aC:=aF h) (h:=h) I
 unfold eL
 rw[Z.guard]
 cases guardOf ops t' o.guard with
 |none=>rfl
 |some b=>
  cases b
  .rfl
  simp only
  split
  .rw [T3 I]
  .rw [aeh (aC:=k+i) I,aeh (aC:=aF h) I]
  .rw [avv I]
  .split
   .rename_i c A
    split<;>try trivial
    rename_i f hf
    have g:∀x∈c.operands.toList,ev t x=ev t' x:=λx J=>I x (by rw[A];exact J)
    rw[C3 (t:=t) (t':=t') λx J=>g x (by simp only[ni,rA,cD];exact .inr J),g f (by simp[ni,hf])]
   split<;>try grind
   rename_i c A
   rw[aml (t':=t') (λx J=>I x (by rw[A];exact J)),d]
  .split
   .rename_i c A
    rw[U c A]
   rfl
  .split<;>try trivial
   rename_i ty a x A
   have h1:ev t a=ev t' a:=I a (by rw[A];simp[bw])
   have h2:ev t x=ev t' x:=I x (by rw[A];simp[bw])
   have e:∀b,jX t b m=jX t' b m:=asu (hm (.inl rfl))
   rw[h1,h2]
   simp only[e]
  .split<;>try trivial
   rename_i ty a A
   have h1:ev t a=ev t' a:=I a (by rw[A];simp[bw])
   have e:∀b,oT t b m=oT t' b m:=auM (hm (.inr rfl))
   rw[h1]
   simp only[e]
  split
  .rename_i c A
   rw[U c A]
  rfl
end
theorem It{a b:Heap}(A:a.length=b.length)(h:∀i,ar a i=ar b i):a=b:=by
 refine List.ext_getElem? λi=>?_
 by_cases hi:i< a.length
 .have:=h i
  rw[cy,cy,gD hi,gD (A▸hi)]at this
  rw[gD hi,gD (A▸hi)]
  simpa using this
 .rw [jF (by omega),jF (by omega)]
theorem qS{h:Heap}{i:Nat}{r:Option cj}(hi:i< h.length):(dP h i r).length=h.length:=by
 cases r with
 |none=>rfl
 |some b=>show(aI h i b).length=_;rw[b9,aK hi]
theorem sj{h:Heap}{i:Nat}{r:Option cj}(hi:i< h.length)(j:Nat):ar (dP h i r) j=if j=i/\r≠ae then r else ar h j:=by
 cases r with
 |none=>simp[dP]
 |some b=>show ar (aI h i b) j=_;rw[bR h i j b (by omega)];simp
theorem atB{h:Heap}{i j:Nat}{r s:Option cj}(hi:i< h.length)(J:j< h.length)(I:i≠j):dP (dP h i r) j s=dP (dP h j s) i r:=by
 have h1:=qS (r:=r) hi
 have h2:=qS (r:=s) J
 refine It ((qS (by omega)).trans (h1.trans (h2.symm.trans (qS (by omega)).symm))) λb=>?_
 rw[sj (by omega),sj (by omega),sj (by omega),sj (by omega)]
 by_cases A:b=j/\s≠ae
 .have:¬(b=i/\r≠ae):=λh=>I (h.1.symm.trans A.1)
  rw[aK A,ax this]
  rw[aK A]
 .rw [ax A]
  split
  .rfl
  .rfl
theorem PG{k i:Nat}{m:List Nat}{h:Heap}{r:Option cj}(hi:k+i< h.length)(hm:r≠ae->i∈m):dg k m (dP h (k+i) r)=dg k m h:=by
 refine It (by rw[nK,nK,qS hi]) λb=>?_
 rw[wA,wA,sj hi]
 by_cases h1:∃j∈m,b=k+j
 .rw [aK h1,aK h1]
 .rw [ax h1,ax h1,ax]
  rintro⟨e,A⟩
  exact h1 ⟨i,hm A,e⟩
theorem PH{k i n:Nat}{m:List Nat}{h:Heap}{r:Option cj}(hi:k+i< h.length)(hm:r≠ae->i∈m):dg k m ((dP h (k+i) r).take n)=dg k m (h.take n):=by
 refine It (by rw[nK,nK,gi,gi,qS hi]) λb=>?_
 rw[wA,wA,wC,wC,sj hi]
 by_cases h1:∃j∈m,b=k+j
 .rw [aK h1,aK h1]
 .have:¬(b=k+i/\r≠ae):=λh=>h1 ⟨i,hm h.2,h.1⟩
  rw[ax h1,ax h1,ax this]
section
variable {F:Fence} {P:Program} {B:Nat} {X:Cx} {O:Nat->Addr->Prop} {w:World} {E:Env} {ih:Nat->Nat->Nat->Code->St->Option (Ex×St)}
 {keep:Bool} {ops:Array Oper} {k n i na nb ca cb cls:Nat} {m ma mb:List Nat} {o a b:Oper} {t:Tm} {h h1 h2:Heap} {lp ly mK:List Rec} {df lN zr:List (Nat×List V)} {u v:V}
def Idle(E:Env)(ih:Nat->Nat->Nat->Code->St->Option (Ex×St))(keep:Bool)(ops:Array Oper)(k n i cls:Nat)(m:List Nat)(o:Oper)(t:Tm)(v:V):Prop:=∀h lp df,eL E ih keep ops k n i cls m o t h lp df=ab (v,h,lp,df)
theorem asQ(A:guardOf ops t o.guard=ab af):Idle E ih keep ops k n i cls m o t (.im (.aH [])):=λh lp df=>by unfold eL;rw[A]
theorem J6(e:eL E ih keep ops k n i cls m o t h lp df=ab (v,h1,ly,lN)):guardOf ops t o.guard=ab af∨guardOf ops t o.guard=ab ag:=by
 unfold eL at e
 cases A:guardOf ops t o.guard with
 |none=>rw[A]at e;cases e
 |some b=>cases b<;>simp
theorem RX(e:eL E ih keep ops k n i cls m o t h lp df=ab (v,h1,ly,lN))(I:guardOf ops t o.guard=ab af∨cls=0):h1=h/\ly=lp/\lN=df/\Idle E ih keep ops k n i cls m o t v:=by
 rcases J6 e with A|A
 .have:=asQ (E:=E) (ih:=ih) (keep:=keep) (k:=k) (n:=n) (i:=i) (cls:=cls) (m:=m) A
  rw[this h lp df]at e
  cases e
  exact⟨rfl,rfl,rfl,this⟩
 .obtain rfl:=I.resolve_left (by rw[A];simp)
  unfold eL at e
  rw[A]at e
  simp only[cE]at e
  obtain⟨r,J,e⟩:=e
  cases e
  refine⟨rfl,rfl,rfl,λh lp df=>?_⟩
  unfold eL
  rw[A]
  simp only[J,jJ]
theorem acX(J:guardOf ops t o.guard=ab ag)(e:eL E ih keep ops k n i 2 m o t h lp df=ab (v,h1,ly,lN)):h1=h/\ly=lp/\lN=df/\
  ∀h' A I,dg k m (h'.take (k+n))=dg k m (h.take (k+n))->eL E ih keep ops k n i 2 m o t h' A I=ab (v,h',A,I):=by
 unfold eL at e
 rw[J]at e
 simp only[cE]at e
 obtain⟨r,U,e⟩:=e
 cases e
 refine⟨rfl,rfl,rfl,λh lp df Z=>?_⟩
 unfold eL
 rw[J]
 simp only[Z,U,jJ]
theorem J7(x:cls=1∨cls=2∨cls=5)(U:guardOf ops t o.guard=ab ag)(e:eL E ih keep ops k n i cls m o t h lp df=ab (v,h1,ly,lN)):
  ly=lp/\lN=df/\∃r,h1=dP h (k+i) r/\(r≠ae->(bS E o.op&&al cls 1)=ag)/\((bS E o.op&&al cls 1)=ag->ar h (k+i)=ae)/\
  ∀h' A I,h'.length=h.length->dg k m h'=dg k m h->dg k m (h'.take (k+n))=dg k m (h.take (k+n))->((bS E o.op&&al cls 1)=ag->ar h' (k+i)=ae)->
   eL E ih keep ops k n i cls m o t h' A I=ab (v,dP h' (k+i) r,A,I):=by
 rcases x with rfl|rfl|rfl
 .have C:=e
  unfold eL at e
  rw[U]at e
  simp only at e
  cases J:bS E o.op with
  |true=>
   rw[J,ao]at e
   split at e
   .rename_i f
    simp only[cE]at e
    obtain⟨r,Z,e⟩:=e
    cases e
    refine⟨rfl,rfl,r.2,rfl,λ_=>rfl,λ_=>f,λh' A I s d _ j=>?_⟩
    unfold eL
    rw[U]
    simp only[J,ao,j rfl,d,Z,jJ]
   .cases e
  |false=>
   rw[J,au]at e
   simp only[ay]at e
   obtain⟨r,Z,e⟩:=e
   split at e
   .rename_i f
    cases e
    refine⟨rfl,rfl,ae,rfl,λh=>absurd rfl h,λh=>by simp at h,λh' A I s d _ _=>?_⟩
    unfold eL
    rw[U]
    simp only[J,au,bz,s,d]
    simp only[bz]at Z
    rw[Z]
    simp only[ah,f]
    rfl
   .cases e
 .obtain ⟨rfl,rfl,rfl,y⟩:=acX U e
  exact⟨rfl,rfl,ae,rfl,λh=>absurd rfl h,λh=>by simp at h,λh' A I _ _ z _=>y h' A I z⟩
 .unfold eL at e
  rw[U]at e
  simp only at e
  split at e
  .rename_i c l
   simp only[ay]at e
   obtain⟨g,p,ds,q,r,Z,e⟩:=e
   cases hf:r.flat with
   |false=>rw[hf]at e;cases e
   |true=>
    rw[hf,ao]at e
    cases e
    refine⟨rfl,rfl,ae,rfl,λh=>absurd rfl h,λh=>by simp at h,λh' A I _ d _ _=>?_⟩
    unfold eL
    rw[U]
    simp only[l,p,ah,d,q,Z,hf,ao]
    rfl
  .cases e
theorem acV(A:guardOf ops t o.guard=ab ag)(e:eL E ih keep ops k n i 4 m o t h lp df=ab (v,h1,ly,lN)):∃x,h1=h++x:=by
 unfold eL at e
 rw[A]at e
 simp only at e
 split at e
 .simp only[ay]at e
  obtain⟨g,_,r,_,e⟩:=e
  obtain⟨_,e⟩:=aU e
  cases e
  exact⟨_,rfl⟩
 .cases e
theorem ajE{c:Nat}(h:SI c=ag):c=1∨c=2∨c=5:=by
 unfold SI at h
 simpa only[kc,mr]using h
theorem RY(j:guardOf ops t o.guard=ab ag)(e:eL E ih keep ops k n i 7 m o t h lp df=ab (v,h1,ly,lN)):h1=h/\ly=lp/\lN=df/\∃ty a b,o.op=.load ty a/\oT t b m=ag/\
  ∀h' I J,ar (h'.take k) b=ar (h.take k) b->eL E ih keep ops k n i 7 m o t h' I J=ab (v,h',I,J):=by
 unfold eL at e
 rw[j]at e
 simp only at e
 split at e
 .rename_i ty a U
  split at e
  .rename_i b g p c
   obtain⟨Z,e⟩:=aU e
   obtain⟨r,A,e⟩:=cE.1 e
   cases e
   refine⟨rfl,rfl,rfl,ty,a,b,U,Z,λh' I J l=>?_⟩
   unfold eL
   rw[j]
   simp only[U,c,Z,ao]
   have q:eU (h'.take k) b g p=eU (h.take k) b g p:=by unfold eU;rw[l]
   unfold gd at A|-
   obtain⟨ti,d,A⟩:=ay.1 A
   simp only[d,ah,q]
   obtain⟨u,s,A⟩:=ay.1 A
   obtain⟨f,A⟩:=aU A
   cases A
   simp only[s,ah,f,ao,jJ]
  .cases e
 .cases e
theorem asv{m:List Nat}{b s c g:Nat}{p:List (Nat×Nat)}(h:jX t b m=ag)(A:s∈m)(U:t.get s=.ptr c g p):c≠b:=by
 induction m with
 |nil=>cases A
 |cons x m ih=>
  have e:jX t b (x::m)=(match t.get x with|.ptr c _ _=>bif al b c then af else jX t b m|_=>af):=rfl
  rw[e]at h
  split at h
  .rename_i Z d f J
   cases I:al b Z with
   |true=>rw[I]at h;cases h
   |false=>
    rw[I,au]at h
    rcases du.1 A with rfl|A
    .rw [U]at J;cases J
     exact λhe=>by rw[he,gj]at I;cases I
    .exact ih h A
  .cases h
theorem acY(c:guardOf ops t o.guard=ab ag)(e:eL E ih keep ops k n i 6 m o t h lp df=ab (v,h1,ly,lN)):ly=lp/\lN=df/\∃b x,b< h.length/\h1=aI h b x/\jX t b m=ag:=by
 unfold eL at e
 rw[c]at e
 simp only at e
 split at e
 .rename_i ty a x d
  split at e
  .rename_i b g p f
   obtain⟨A,e⟩:=aU e
   obtain⟨r,I,e⟩:=cE.1 e
   cases e
   rw[aM]at A
   unfold ra at I
   obtain⟨ti,j,I⟩:=ay.1 I
   obtain⟨l,I⟩:=aU I
   obtain⟨h',J,I⟩:=cE.1 I
   cases I
   unfold DL at A
   cases U:ar h b with
   |none=>rw[U]at A;cases A.2
   |some bk=>
    have Z:=e8 U
    rw[U]at A
    cases bk<;>simp only at A<;>try(cases A.2;done)
    unfold lE at J
    rw[U]at J
    obtain⟨_,J⟩:=aU J
    obtain⟨q,_,J⟩:=cE.1 J
    subst J
    exact⟨rfl,rfl,b,_,Z,rfl,A.1⟩
  .cases e
 .cases e
theorem amL{b c:Nat}{x:cj}(I:b< h.length)(A:c≠b):ar ((aI h b x).take k) c=ar (h.take k) c:=by
 rw[wC,wC,bR h b c x (dj I),ax A]
theorem amM{j c:Nat}{r:Option cj}(A:r≠ae->k+j< h.length):ar ((dP h (k+j) r).take k) c=ar (h.take k) c:=by
 cases r with
 |none=>rfl
 |some x=>
  rw[wC,wC]
  split
  .show ar (aI h (k+j) x) c=_
   rw[bR h _ c x (dj (A (by simp))),ax (by omega)]
  .rfl
theorem anr{ma mb:List Nat}{b c:Nat}(hi:Qf ma mb=ag)(I:jX t b ma=ag)(A:oT t c mb=ag):c≠b:=by
 cases mb with
 |nil=>cases hi
 |cons s mb=>
  replace hi:bg ma s=ag:=hi
  replace A:(match t.get s with|.ptr d _ _=>al c d|_=>af)=ag:=A
  split at A
  .rename_i J
   rw[Nat.eq_of_beq_eq_true A]
   exact asv I (Ps hi) J
  .cases A
def VG(E:Env)(a b:Oper)(ca cb:Nat)(ma mb:List Nat)(na nb:Nat):Prop:=
 ca=0∨cb=0∨((ca=1∨ca=2∨ca=5)/\cb=7)∨(ca=7/\cb=6/\Qf mb ma=ag)∨(ca=4/\cb=2)∨((ca=1∨ca=2∨ca=5)/\(cb=1∨cb=2∨cb=5)/\((bS E a.op&&al ca 1)=ag->na∈mb)/\((bS E b.op&&al cb 1)=ag->nb∈ma))
theorem We(I:vY E ops a b ca cb ma mb na nb=ag):(Ns ops a b=ag/\(ca=6∨ca=7->zB b ma=ag)/\(cb=6∨cb=7->zB a mb=ag))/\VG E a b ca cb ma mb na nb:=by
 unfold vY at I
 rw[aM]at I
 have A:=I.1
 rw[aM,aM]at A
 have U:∀{c:Nat} {x:Bool},(!(al c 6||al c 7)||x)=ag->c=6∨c=7->x=ag:=λ{c x} Z d=>by rcases d with rfl|rfl<;>simpa using Z
 refine⟨⟨A.1,U A.2.1,U A.2.2⟩,?_⟩
 have:=I.2
 unfold Wd at this;simp only[kc,aM,mr,yi]at this
 rcases this with h|h|(h|h)|h|h
 .exact .inl h
 .exact .inr (.inl h)
 .exact .inr (.inr (.inl ⟨ajE h.1,h.2⟩))
 .exact .inr (.inr (.inr (.inl h)))
 .exact .inr (.inr (.inr (.inr (.inl h))))
 .refine .inr (.inr (.inr (.inr (.inr ⟨h.1,h.2.1,λJ=>?_,λJ=>?_⟩))))
  .rcases h.2.2.1 with h|h
   .rw [J]at h;cases h
   .exact Ps h
  .rcases h.2.2.2 with h|h
   .rw [J]at h;cases h
   .exact Ps h
theorem asR(Pr:VG E a b ca cb ma mb na nb)(y:ca=0∨cb=0∨k+n<=h.length)(g:bS E a.op=ag->na< n/\na≠nb)(L:bS E b.op=ag->nb< n)
  (U:eL E ih keep ops k n na ca ma a t h lp df=ab (v,h1,ly,lN)) (z:eL E ih keep ops k n nb cb mb b t h1 ly lN=ab (u,h2,mK,zr)):
  ∃h' M N,eL E ih keep ops k n nb cb mb b t h lp df=ab (u,h',M,N)/\eL E ih keep ops k n na ca ma a t h' M N=ab (v,h2,mK,zr):=by
 by_cases Z:guardOf ops t a.guard=ab af∨ca=0
 .obtain ⟨rfl,rfl,rfl,hi⟩:=RX U Z
  exact⟨_,_,_,z,hi _ _ _⟩
 by_cases d:guardOf ops t b.guard=ab af∨cb=0
 .obtain ⟨rfl,rfl,rfl,hi⟩:=RX z d
  exact⟨_,_,_,hi _ _ _,U⟩
 rw[not_or]at Z d
 have j:=(J6 U).resolve_left Z.1
 have l:=(J6 z).resolve_left d.1
 have Zw:=(y.resolve_left Z.2).resolve_left d.2
 clear y
 have I:∀{o:Oper} {c:Nat},(bS E o.op&&al c 1)=ag->bS E o.op=ag:=λh=>by rw[aM]at h;exact h.1
 rcases(Pr.resolve_left Z.2).resolve_left d.2 with⟨C,rfl⟩|⟨rfl,rfl,sn⟩|⟨rfl,rfl⟩|⟨C,hqb,R,p⟩
 .obtain ⟨rfl,rfl,r,rfl,D,_,_⟩:=J7 C j U
  obtain⟨rfl,rfl,rfl,_,_,_,_,_,hb⟩:=RY l z
  exact⟨_,_,_,hb _ _ _ (amM λG=>by have:=(g (I (D G))).1;omega).symm,U⟩
 .obtain ⟨rfl,rfl,rfl,ty,a0,b0,Dw,lS,ha⟩:=RY j U
  obtain⟨rfl,rfl,b1,x,uo,rfl,S⟩:=acY l z
  exact⟨_,_,_,z,ha _ _ _ (amL uo (anr sn S lS))⟩
 .obtain ⟨x,rfl⟩:=acV j U
  obtain⟨rfl,rfl,rfl,hx⟩:=acX l z
  refine⟨_,_,_,hx _ _ _ ?_,U⟩
  rw[List.take_append_of_le_length Zw]
 .obtain ⟨rfl,rfl,r,rfl,D,T,ha⟩:=J7 C j U
  obtain⟨rfl,rfl,s,rfl,W,Y,hb⟩:=J7 hqb l z
  by_cases hr:r=ae
  .subst hr
   have H:=hb h mK zr rfl rfl rfl Y
   refine⟨_,_,_,H,?_⟩
   by_cases G:s=ae
   .subst G;exact U
   .have J:=W G
    have A:k+nb< h.length:=by have:=L (I J);omega
    refine(ha (dP h (k+nb) s) mK zr (qS A) (PG A λ_=>p J) (PH A λ_=>p J) λK=>?_).trans rfl
    rw[sj A,ax (λe=>(g (I K)).2 (by omega))]
    exact T K
  .have q:=D hr
   have f:k+na< h.length:=by have:=(g (I q)).1;omega
   have Y2:na≠nb:=(g (I q)).2
   have H:=hb h mK zr (qS f).symm (PG f λ_=>R q).symm (PH f λ_=>R q).symm λK=>by
    have:=Y K
    rw[sj f,ax (λe=>Y2 (by omega))]at this
    exact this
   refine⟨_,_,_,H,?_⟩
   by_cases G:s=ae
   .subst G;exact U
   .have J:=W G
    have A:k+nb< h.length:=by have:=L (I J);omega
    rw[atB f A (by omega)]
    refine ha (dP h (k+nb) s) mK zr (qS A) (PG A λ_=>p J) (PH A λ_=>p J) λK=>?_
    rw[sj A,ax (λe=>Y2 (by omega))]
    exact T K
theorem asP(f:cls=0∨cls=1∨cls=2∨cls=4∨cls=5∨cls=6∨cls=7)(hi:bS E o.op=ag->i< n)(A:k+n<=h.length)(e:eL E ih keep ops k n i cls m o t h lp df=ab (v,h1,ly,lN)):k+n<=h1.length:=by
 by_cases fm:guardOf ops t o.guard=ab af∨cls=0
 .obtain ⟨rfl,_⟩:=RX e fm;exact A
 rw[not_or]at fm
 have I:=(J6 e).resolve_left fm.1
 by_cases U:cls=4
 .subst U
  obtain⟨x,rfl⟩:=acV I e
  simp;omega
 by_cases Z:cls=6
 .subst Z
  obtain⟨_,_,b,x,J,rfl,_⟩:=acY I e
  rw[b9,aK J];exact A
 by_cases c:cls=7
 .subst c
  obtain⟨rfl,_⟩:=RY I e
  exact A
 .obtain ⟨_,_,r,rfl,d,_⟩:=J7 (by omega) I e
  cases r with
  |none=>exact A
  |some b=>
   have:=d (by simp)
   rw[aM]at this
   have:=hi this.1
   rw[qS (by omega)];exact A
theorem asM{st z C:St}(g:vY E ops a b ca cb ma mb na nb=ag)(Z:ca=0∨cb=0∨k+n<=st.h.length)(j:bS E a.op=ag->na< n/\na≠nb)(l:bS E b.op=ag->nb< n)
  (f:dn E ih keep ops k n na ca ma a st=ab z) (U:dn E ih keep ops k n nb cb mb b z=ab C):
  ∃D,dn E ih keep ops k n nb cb mb b st=ab D/\dn E ih keep ops k n na ca ma a D=ab C:=by
 obtain⟨⟨p,q,r⟩,hC⟩:=We g
 have c:∀{o:Oper} {m:List Nat} {t:Tm} {v:V},zB o m=ag->Ag m t (putDst t o.dst v):=λ{o m t v} A=>Ag.put λd he=>by
  unfold zB at A
  rw[he]at A
  exact Pu (by simpa using A)
 unfold Ns at p
 rw[aM]at p
 obtain⟨I,J⟩:=p
 have h1:∀d,a.dst=ab d->d ∉ reads ops b/\b.dst≠ab d:=λd A=>by
  rw[A]at I
  simp only[aM,yi]at I
  exact⟨Pu I.1,λe=>by rw[e]at I;simp at I⟩
 have h2:∀d,b.dst=ab d->d ∉ reads ops a:=λd A=>by
  rw[A]at J
  simp only[yi]at J
  exact Pu J
 obtain⟨t,h,lp,df⟩:=st
 rw[En,cE]at f
 obtain⟨⟨v,G,H,d1⟩,f,rfl⟩:=f
 simp only[UH]at U
 rw[En,cE]at U
 obtain⟨⟨u,K,L,d2⟩,U,rfl⟩:=U
 rw[<-acW (t:=t) (Ag.put λd A=>(h1 d A).1) (λs=>c (r s))]at U
 obtain⟨h',x,y,f1,f2⟩:=asR hC Z j l f U
 refine⟨⟨putDst t b.dst u,h',x,y⟩,by rw[En,f1];rfl,?_⟩
 rw[En,<-acW (t:=t) (Ag.put λd A=>h2 d A) (λs=>c (q s)),f2]
 simp only[jJ,UH]
 rw[atE t (λd A=>(h1 d A).2)]
end
theorem JO(E:Env):∀(a b:List Oper),news E (a++b)=news E a+news E b
 |[],b=>by show news E b=0+news E b;omega
 |o::a,b=>by show _+news E (a++b)=(_+news E a)+news E b;rw[JO E a b];omega
theorem axr(E:Env)(o:Oper)(l:List Oper):news E (o::l)=(bif bS E o.op then 1 else 0)+news E l:=rfl
section
variable {F:Fence} {P:Program} {B:Nat} {X:Cx} {O:Nat->Addr->Prop} {w:World} {E:Env} {ih:Nat->Nat->Nat->Code->St->Option (Ex×St)}
def gx(E:Env)(ops:Array Oper)(j:Nat):Nat:=news E (ops.toList.take j)
theorem RH{ops:Array Oper}{j:Nat}{o:Oper}(h:ops.toList[j]? =ab o):gx E ops (j+1)=gx E ops j+(bif bS E o.op then 1 else 0):=by
 unfold gx
 rw[yD,h,JO]
 rfl
theorem asy{ops:Array Oper}{i j:Nat}(h:i<=j):gx E ops i<=gx E ops j:=by
 unfold gx
 obtain⟨d,rfl⟩:∃d,j=i+d:=⟨j-i,by omega⟩
 rw[List.take_add,JO];omega
theorem acI{ops:Array Oper}{i j:Nat}{o:Oper}(hi:ops.toList[i]? =ab o)(A:bS E o.op=ag)(h:i< j):gx E ops i< gx E ops j:=by
 have h1:=RH (E:=E) hi
 rw[A,ao]at h1
 have h2:=asy (E:=E) (ops:=ops) (show i+1<=j by omega)
 omega
theorem J1{ops:Array Oper}{i:Nat}{o:Oper}(hi:ops.toList[i]? =ab o)(I:bS E o.op=ag):gx E ops i< news E ops.toList:=by
 have A:=(e7.1 hi).1
 have:=acI (E:=E) hi I A
 rwa[gx,gx,List.take_length]at this
def uN(E:Env)(ih:Nat->Nat->Nat->Code->St->Option (Ex×St))(keep:Bool)(ops:Array Oper)(ds:List (Nat×List Nat))(k n:Nat)(j:Nat)(st:St):Option St:=
 match ops.toList[j]?,ds[j]? with
 |some o,ab d=>dn E ih keep ops k n (gx E ops j) d.1 d.2 o st
 |_,_=>ae
def sO(E:Env)(ih:Nat->Nat->Nat->Code->St->Option (Ex×St))(keep:Bool)(ops:Array Oper)(ds:List (Nat×List Nat))(k n:Nat):List Nat->St->Option St
 |[],st=>ab st
 |j::l,st=>(uN E ih keep ops ds k n j st).bind (sO E ih keep ops ds k n l)
theorem auZ(keep:Bool)(ops:Array Oper)(k n:Nat)(o:Oper)(l:List Oper)(ds:List (Nat×List Nat))(i:Nat)(st:St):
  ie E ih keep ops k n (o::l) ds i st=(match ds with
   |[]=>ae
   |(c,m)::ds=>match dn E ih keep ops k n i c m o st with
    |none=>ae
    |some A=>ie E ih keep ops k n l ds (bif bS E o.op then i+1 else i) A):=rfl
theorem ae9{keep:Bool}{ops:Array Oper}{ds:List (Nat×List Nat)}{k n:Nat}:∀(l:List Oper) (j:Nat) (st:St),l=ops.toList.drop j->
  ∀A,ie E ih keep ops k n l (ds.drop j) (gx E ops j) st=ab A->sO E ih keep ops ds k n (Vt j l.length) st=ab A
 |[],j,st,U,A,e=>e
 |o::l,j,st,U,A,e=>by
  have p:ops.toList[j]? =ab o:=by
   have:(ops.toList.drop j)[0]? =ab o:=by rw[<-U];rfl
   rwa[yz]at this
  have Z:l=ops.toList.drop (j+1):=by
   have:(ops.toList.drop j).drop 1=l:=by rw[<-U];rfl
   rw[<-this,rF]
  rw[auZ]at e
  cases J:ds.drop j with
  |nil=>rw[J]at e;cases e
  |cons d I=>
   obtain⟨c,m⟩:=d
   rw[J]at e
   simp only at e
   have f:ds[j]? =ab (c,m):=by
    have:(ds.drop j)[0]? =ab (c,m):=by rw[J];rfl
    rwa[yz]at this
   have g:I=ds.drop (j+1):=by
    have:(ds.drop j).drop 1=I:=by rw[J];rfl
    rw[<-this,rF]
   cases h1:dn E ih keep ops k n (gx E ops j) c m o st with
   |none=>rw[h1]at e;cases e
   |some q=>
    rw[h1]at e
    simp only at e
    have r:(bif bS E o.op then gx E ops j+1 else gx E ops j)=gx E ops (j+1):=by
     rw[RH p];cases bS E o.op<;>rfl
    rw[r,g]at e
    have:=ae9 l (j+1) q Z A e
    show sO E ih keep ops ds k n (j::Vt (j+1) l.length) st=ab A
    unfold sO uN
    rw[p,f]
    simp only[h1,ah]
    exact this
theorem asF(ops:Array Oper)(A:List Nat)(I:List (Nat×List Nat))(o:Oper)(l:List Oper)(ds:List (Nat×List Nat))(i J:Nat):
  J4 E ops A I (o::l) ds i J=(match ds with
   |[]=>af
   |(c,m)::ds=>Az E o i c&&(Ay E ops o ((bG A i).getD 0) c m J (ops.toList.take i) (I.take i) 0 0&&J4 E ops A I l ds (i+1) (bif bS E o.op then J+1 else J))):=rfl
theorem acN{ops:Array Oper}{NK:List Nat}{jr:List (Nat×List Nat)}:∀(l:List Oper) (j:Nat),l=ops.toList.drop j->J4 E ops NK jr l (jr.drop j) j (gx E ops j)=ag->
  ∀i o,j<=i->ops.toList[i]? =ab o->∃d,jr[i]? =ab d/\Az E o i d.1=ag/\Ay E ops o ((bG NK i).getD 0) d.1 d.2 (gx E ops i) (ops.toList.take i) (jr.take i) 0 0=ag
 |[],j,I,e,i,o,U,hi=>by
  have:=(e7.1 hi).1
  have:ops.toList.length<=j:=by
   have h:=congrArg MI I
   simp only[yB,n9]at h;omega
  omega
 |p::l,j,I,e,i,o,U,hi=>by
  have r:ops.toList[j]? =ab p:=by
   have:(ops.toList.drop j)[0]? =ab p:=by rw[<-I];rfl
   rwa[yz]at this
  have Z:l=ops.toList.drop (j+1):=by
   have:(ops.toList.drop j).drop 1=l:=by rw[<-I];rfl
   rw[<-this,rF]
  rw[asF]at e
  cases J:jr.drop j with
  |nil=>rw[J]at e;cases e
  |cons d A=>
   obtain⟨c,m⟩:=d
   rw[J]at e
   simp only[aM]at e
   have f:jr[j]? =ab (c,m):=by
    have:(jr.drop j)[0]? =ab (c,m):=by rw[J];rfl
    rwa[yz]at this
   have g:A=jr.drop (j+1):=by
    have:(jr.drop j).drop 1=A:=by rw[J];rfl
    rw[<-this,rF]
   by_cases q:i=j
   .subst q
    rw[r]at hi;cases hi
    exact⟨_,f,e.1,e.2.1⟩
   .have s:(bif bS E p.op then gx E ops j+1 else gx E ops j)=gx E ops (j+1):=by
     rw[RH r];cases bS E p.op<;>rfl
    refine acN l (j+1) Z ?_ i o (by omega) hi
    rw[<-s,<-g];exact e.2.2
theorem asE(ops:Array Oper)(o:Oper)(bf c:Nat)(m:List Nat)(I:Nat)(p:Oper)(l:List Oper)(ds:List (Nat×List Nat))(j A:Nat):
  Ay E ops o bf c m I (p::l) ds j A=(match ds with
   |[]=>ag
   |(J,U)::ds=>(oc bf j||vY E ops p o J c U m A I)&&Ay E ops o bf c m I l ds (j+1) (bif bS E p.op then A+1 else A)):=rfl
theorem acM{ops:Array Oper}{o:Oper}{bf c:Nat}{m:List Nat}{x:Nat}{l0:List Oper}{jr:List (Nat×List Nat)}:∀(l:List Oper) (j:Nat),l=l0.drop j->Ay E ops o bf c m x l (jr.drop j) j (news E (l0.take j))=ag->
  ∀i p d,j<=i->l0[i]? =ab p->jr[i]? =ab d->oc bf i=ag∨vY E ops p o d.1 c d.2 m (news E (l0.take i)) x=ag
 |[],j,J,e,i,p,d,Z,hi,A=>by
  have:=(e7.1 hi).1
  have:l0.length<=j:=by
   have h:=congrArg MI J
   simp only[yB,n9]at h;omega
  omega
 |q::l,j,J,e,i,p,d,Z,hi,A=>by
  have y:l0[j]? =ab q:=by
   have:(l0.drop j)[0]? =ab q:=by rw[<-J];rfl
   rwa[yz]at this
  have f:l=l0.drop (j+1):=by
   have:(l0.drop j).drop 1=l:=by rw[<-J];rfl
   rw[<-this,rF]
  rw[asE]at e
  cases U:jr.drop j with
  |nil=>
   have h:=congrArg MI U
   have:=(e7.1 A).1
   simp only[yB,n9]at h;omega
  |cons d' I=>
   obtain⟨z,C⟩:=d'
   rw[U]at e
   simp only[aM,kc]at e
   have g:jr[j]? =ab (z,C):=by
    have:(jr.drop j)[0]? =ab (z,C):=by rw[U];rfl
    rwa[yz]at this
   have r:I=jr.drop (j+1):=by
    have:(jr.drop j).drop 1=I:=by rw[U];rfl
    rw[<-this,rF]
   by_cases s:i=j
   .subst s
    rw[y]at hi;cases hi
    rw[g]at A;cases A
    exact e.1
   .have D:(bif bS E q.op then news E (l0.take j)+1 else news E (l0.take j))=news E (l0.take (j+1)):=by
     rw[yD,y,JO]
     show _=_+(_+0)
     cases bS E q.op<;>rfl
    refine acM l (j+1) f ?_ i p d (by omega) hi A
    rw[<-D,<-r];exact e.2
def NJ(A:List Nat)(o:Oper):Nat:=o.after.toList.foldl (λs e=>bif vj .any e then vy s (vy (2^e.on) ((bG A e.on).getD 0))else s) 0
theorem Wu(o:Oper)(l:List Oper)(A:List Nat):tU (o::l) A=tU l (A++[NJ A o]):=rfl
theorem NH:∀(l:List Oper) (A:List Nat) (i x:Nat),A[i]? =ab x->(tU l A)[i]? =ab x
 |[],_,_,_,h=>h
 |o::l,A,i,x,h=>by
  rw[Wu]
  refine NH l _ i x ?_
  rw[gP (e7.1 h).1];exact h
theorem ajC(l:List Oper):∀(A:List Nat) (i:Nat) (o:Oper),l[i]? =ab o->∃I:List Nat,(tU l A)[A.length+i]? =ab (NJ I o)/\∀(j x:Nat),I[j]? =ab x->(tU l A)[j]? =ab x:=by
 induction l with
 |nil=>intro A i o h;simp at h
 |cons o l ih=>
  intro A i p h
  rw[Wu]
  cases i with
  |zero=>
   simp only[ahU,iV]at h
   subst h
   refine⟨A,NH l _ _ _ ?_,λj x J=>NH l _ _ _ ?_⟩
   .simp
   .rw [gP (e7.1 J).1];exact J
  |succ i=>
   simp only[Vn]at h
   obtain⟨I,h1,h2⟩:=ih (A++[NJ A o]) i p h
   refine⟨I,?_,h2⟩
   rw[<-h1,dH,List.length_singleton,ah5,Gk 1 i]
theorem Wv{A:List Nat}{b:Nat}:∀(l:List Edge) (s:Nat),oc (l.foldl (λs e=>bif vj .any e then vy s (vy (2^e.on) ((bG A e.on).getD 0))else s) s) b=ag->
  oc s b=ag∨∃e∈l,vj .any e=ag/\(b=e.on∨∃x,A[e.on]? =ab x/\oc x b=ag)
 |[],s,h=>.inl h
 |e::l,s,h=>by
  rw[List.foldl_cons]at h
  rcases Wv l _ h with h|⟨U,he,Z⟩
  .cases I:vj .any e with
   |false=>rw[I,au]at h;exact .inl h
   |true=>
    rw[I,ao]at h
    have h:oc (s|||(2^e.on|||(bG A e.on).getD 0)) b=ag:=h
    rw[aiw,aiw,kc,kc]at h
    rcases h with h|h|h
    .exact .inl h
    .refine .inr ⟨e,by simp,I,.inl ?_⟩
     rw[Nat.testBit_two_pow]at h
     simpa using(of_decide_eq_true h).symm
    .refine .inr ⟨e,by simp,I,.inr ?_⟩
     rw[cu]at h
     cases J:A[e.on]? with
     |none=>rw[J]at h;simp at h
     |some x=>rw[J]at h;exact⟨x,rfl,h⟩
  .exact .inr ⟨U,by simp[he],Z⟩
structure MS(E:Env)(ops:Array Oper)(ds:List (Nat×List Nat))(bf:Nat->Nat):Prop where
 one:∀i o,ops.toList[i]? =ab o->∃d,ds[i]? =ab d/\Az E o i d.1=ag
 all:∀i j o p d c,j< i->ops.toList[i]? =ab o->ops.toList[j]? =ab p->ds[i]? =ab d->ds[j]? =ab c->oc (bf i) j=ag∨vY E ops p o c.1 d.1 c.2 d.2 (gx E ops j) (gx E ops i)=ag
 bit:∀i o b,ops.toList[i]? =ab o->oc (bf i) b=ag->∃e∈o.after,vj .any e=ag/\(b=e.on∨oc (bf e.on) b=ag)
theorem alk{ops:Array Oper}{ds:List (Nat×List Nat)}(h:HI E ops ds=ag):∃bf,MS E ops ds bf:=by
 unfold HI at h
 have key:=acN (E:=E) (ops:=ops) (NK:=tU ops.toList []) (jr:=ds) ops.toList 0 rfl h
 refine⟨λi=>(bG (tU ops.toList []) i).getD 0,⟨λi o hi=>?_,λi j o p d c I hi U Z f=>?_,λi o b hi A=>?_⟩⟩
 .obtain ⟨d,h1,h2,_⟩:=key i o (bH _) hi
  exact⟨d,h1,h2⟩
 .obtain ⟨d',h1,_,h2⟩:=key i o (bH _) hi
  rw[Z]at h1;cases h1
  have:=acM (E:=E) (l0:=ops.toList.take i) (jr:=ds.take i) (ops.toList.take i) 0 rfl h2 j p c (bH _) (by rw[pc,aK I];exact U) (by rw[pc,aK I];exact f)
  rw[List.take_take,Nat.min_eq_left (by omega)]at this
  exact this
 .obtain ⟨g,h1,h2⟩:=ajC ops.toList [] i o hi
  simp only[yB,db]at h1
  rw[cu,h1]at A
  rcases Wv _ _ A with A|⟨e,he,J,A⟩
  .simp at A
  .refine ⟨e,by simpa using he,J,?_⟩
   rcases A with A|⟨x,l,A⟩
   .exact .inl A
   .refine .inr ?_
    rw[cu,h2 _ _ l];exact A
end
section
variable {F:Fence} {P:Program} {B:Nat} {X:Cx} {O:Nat->Addr->Prop} {w:World} {E:Env} {ih:Nat->Nat->Nat->Code->St->Option (Ex×St)}
 {keep:Bool} {ops:Array Oper} {ds:List (Nat×List Nat)} {bf:Nat->Nat} {k:Nat}
theorem Tz(j:Nat)(l:List Nat)(st:St){n:Nat}:sO E ih keep ops ds k n (j::l) st=(uN E ih keep ops ds k n j st).bind (sO E ih keep ops ds k n l):=rfl
theorem RT{n j:Nat}{st A:St}(e:uN E ih keep ops ds k n j st=ab A):∃o d,ops.toList[j]? =ab o/\ds[j]? =ab d/\dn E ih keep ops k n (gx E ops j) d.1 d.2 o st=ab A:=by
 unfold uN at e
 split at e
 .rename_i o d I J
  exact⟨o,d,I,J,e⟩
 .cases e
theorem acR{n j:Nat}{st A:St}{o:Oper}{d:Nat×List Nat}(I:ops.toList[j]? =ab o)(J:ds[j]? =ab d)(e:dn E ih keep ops k n (gx E ops j) d.1 d.2 o st=ab A):uN E ih keep ops ds k n j st=ab A:=by
 unfold uN
 rw[I,J];exact e
theorem WM(D:MS E ops ds bf){q:Nat}{G:Oper}{f:Nat×List Nat}(g:ops.toList[q]? =ab G)(J:ds[q]? =ab f):∀(j:List Nat),(∀p∈j,p< q/\oc (bf q) p=af)->∀(l:List Nat) (st A:St),
  (f.1=0∨k+news E ops.toList<=st.h.length)->sO E ih keep ops ds k (news E ops.toList) (j++q::l) st=ab A->
  ∃mid,uN E ih keep ops ds k (news E ops.toList) q st=ab mid/\sO E ih keep ops ds k (news E ops.toList) (j++l) mid=ab A
 |[],_,l,st,A,_,e=>by
  rw[List.nil_append,Tz,ay]at e
  exact e
 |p::j,H,l,st,A,U,e=>by
  rw[ahR,Tz,ay]at e
  obtain⟨K,N,R⟩:=e
  obtain⟨op,dp,hp,r,I⟩:=RT N
  obtain⟨s,x⟩:=H p (by simp)
  have y:=(D.all q p G op f dp s g hp J r).resolve_left (by rw[x];simp)
  obtain⟨_,hC⟩:=We y
  have c:f.1=0∨k+news E ops.toList<=K.h.length:=by
   by_cases L:f.1=0
   .exact .inl L
   .refine .inr ?_
    have S:=U.resolve_left L
    obtain⟨t,h,lp,df⟩:=st
    rw[En,cE]at I
    obtain⟨⟨v,M,T,d1⟩,I,rfl⟩:=I
    refine asP ?_ (λd=>J1 hp d) S I
    rcases hC with h|h|h|h|h|h<;>omega
  obtain⟨s2,f1,f2⟩:=WM D g J j (λp hp=>H p (by simp[hp])) l K A c R
  obtain⟨W,Y,z,Z,C⟩:=RT f1
  rw[g]at z;cases z
  rw[J]at Z;cases Z
  obtain⟨s',M,g2⟩:=asM y (U.elim (λh=>.inr (.inl h)) λh=>.inr (.inr h)) (λd=>⟨J1 hp d,by have:=acI (E:=E) hp d s;omega⟩) (λd=>J1 g d) I C
  refine⟨s',acR g J M,?_⟩
  rw[ahR,Tz,acR hp r g2]
  exact f2
theorem ajj(hih:jL F P E ih)(hE:gF F P E)(hF:dJ F)(hd:MS E ops ds bf){q nt:Nat}(am2:∀o∈ops.toList,sB nt o=ag){H:St}{X0:Cx}{O0:Nat->Addr->Prop}{w0:World}{h0:Heap}
  {Q:Exit->Act->World->Prop} (hQ:∀X' O' w' a',SR nt B X' O' w' a' H->Step B X0 O0 w0 h0 X' O' w' H.h->Q .normal a' w'):
  ∀(fuel:Nat) (R:List Nat) (A:Array Bool) (st:St) (X:Cx) (O:Nat->Addr->Prop) (w:World) (a:Act),R.length<=fuel->R.Pairwise (· < ·)->A.size=ops.size->
   (∀j,A.getD j ag=af↔j∈R)->(∀j,j ∉ R->j< ops.size->∀b,oc (bf j) b=ag->b ∉ R)->
   sO E ih keep ops ds k (news E ops.toList) R st=ab H->SR nt B X O w a st->PS X k (news E ops.toList) st.h->k+news E ops.toList<=st.h.length->Step B X0 O0 w0 h0 X O w st.h->
   wpAnyIn F q P .any ops Q fuel A a w:=by
 intro fuel
 have ready:∀(R:List Nat) (A:Array Bool),R.Pairwise (· < ·)->A.size=ops.size->(∀j,A.getD j ag=af↔j∈R)->Mz .any ops A=[]->R=[]:=by
  intro R A hR K J hr
  cases R with
  |nil=>rfl
  |cons j R=>
   exfalso
   have hj:j∈Mz .any ops A:=by
    rw[mem_ready]
    have W:=(J j).2 (by simp)
    refine⟨W,?_⟩
    have L:j< ops.size:=by
     rcases jH j ops.size with h|h
     .exact h
     .rw [ka,agV (by omega)]at W;cases W
    refine⟨ops[j],by simp[L],λe he D=>?_⟩
    obtain⟨d,_,h1⟩:=hd.one j ops[j] (by simp[L])
    unfold Az at h1
    rw[aM]at h1
    have h2:=lI.1 h1.1 e (by simpa using he)
    rw[D]at h2
    have h2:e.on< j:=by simpa[Nat.blt_eq]using h2
    cases hg:A.getD e.on ag with
    |false=>
     have:=(J e.on).1 hg
     rcases du.1 this with h|h
     .omega
     .have:=(Gj.1 hR).1 _ h;omega
    |true=>
     rw[ka,Array.getElem?_eq_getElem (by omega)]at hg|-
     exact hg
   rw[hr]at hj;cases hj
 induction fuel with
 |zero=>
  intro R A st X O w a hl hR K J Y e s uv y M
  obtain rfl:R=[]:=List.length_eq_zero_iff.1 (by omega)
  cases e
  refine⟨?_,hQ X O w a s M⟩
  cases hr:Mz .any ops A with
  |nil=>rfl
  |cons j l=>
   have:j∈Mz .any ops A:=by rw[hr];simp
   rw[mem_ready]at this
   exact absurd ((J j).1 this.1) (by simp)
 |succ fuel Qc=>
  intro R A st X O w a hl hR K J Y e s uv y M
  refine⟨λhr=>?_,λf ZP=>?_⟩
  .obtain rfl:=ready R A hR K J hr
   cases e
   exact hQ X O w a s M
  .rw [mem_ready]at ZP
   obtain⟨hlq,oq,PW,N⟩:=ZP
   have hqR:=(J f).1 hlq
   obtain⟨S,T,rfl⟩:=List.append_of_mem hqR
   have I:ops.toList[f]? =ab oq:=by simpa using PW
   have hqs:f< ops.size:=(Mn.1 PW).1
   obtain⟨dq,Ze,z⟩:=hd.one f oq I
   have Z:∀b,oc (bf f) b=ag->b ∉ S++f::T:=λb D C=>by
    obtain⟨e',he,hbi,D⟩:=hd.bit f oq b I D
    have c:=N e' he hbi
    have ZC:e'.on ∉ S++f::T:=λh=>by
     have:=(J e'.on).2 h
     rw[ka]at c this
     cases G:A[e'.on]? with
     |none=>rw[G]at c;cases c
     |some x=>rw[G]at c this;simp only[Option.getD_some]at c this;rw[c]at this;cases this
    rcases D with rfl|D
    .exact ZC C
    .refine Y e'.on ZC ?_ b D C
     rcases jH e'.on ops.size with h|h
     .exact h
     .rw [ka,agV (by omega)]at c;cases c
   have U:=List.pairwise_append.1 hR
   obtain⟨mid,e1,e2⟩:=WM hd I Ze S (λp hp=>⟨U.2.2 p hp f (by simp),by
    cases G:oc (bf f) p with
    |false=>rfl
    |true=>exact absurd (by simp[hp]) (Z p G)⟩) T st H (.inr y) e
   obtain⟨oq2,dq2,h1,h2,e1'⟩:=RT e1
   rw[I]at h1;cases h1
   rw[Ze]at h2;cases h2
   have am1:dq.1=0->(pL oq.op||DM E oq.op)=ag:=by
    unfold Az at z
    rw[aM]at z
    intro h;have:=z.2;rw[h]at this;exact this
   unfold wpOpIn
   rw[PW]
   simp only
   refine asL hih hE hF e1' s (am2 oq (jG I)) am1 uv (λhn=>J1 I hn) y λX' O' w' a' s' hs=>?_
   have hnq:∀x∈S++T,x≠f:=λx G he=>by
    subst he
    rcases cD.1 G with G|G
    .exact gE _ (U.2.2 _ G _ (by simp))
    .exact gE _ ((Gj.1 U.2.1).1 _ G)
   have g:∀x,x∈S++f::T↔x=f∨x∈S++T:=λx=>by simp only[cD,du];constructor<;>(intro h;rcases h with h|h|h<;>simp[h])
   refine Qc (S++T) _ mid X' O' w' a' (by simp only[dH,fH]at hl|-;omega) ?_ (by simp[K]) (λj=>?_) (λj hj L b D C=>?_) e2 s' (uv.step y hs) (b8 y hs.len) (M.trans hs)
   .exact hR.sublist ((awV S).append (List.sublist_cons_self f T))
   .by_cases r:f=j
    .subst r
     constructor
     .intro h
      exfalso
      rw[ka,Array.getElem?_setIfInBounds_self_of_lt (by omega)]at h;cases h
     .intro h;exact absurd rfl (hnq _ h)
    .rw [getD_set_ne ag r,J j,g]
     constructor
     .intro h;exact h.resolve_left (λe=>r e.symm)
     .exact .inr
   .by_cases r:j=f
    .subst r
     exact Z b D ((g b).2 (.inr C))
    .exact Y j (λh=>((g j).1 h).elim r hj) L b D ((g b).2 (.inr C))
end
section
variable {F:Fence} {n:Nat} {P:Program} {Q:Exit->Act->World->Prop} {a:Act} {w:World}
theorem least{p:Nat->Prop}(h:∃m,p m):∃m,p m/\∀k,p k->m<=k:=by
 obtain⟨m,hm⟩:=h;induction m using aiu with
 |_ m ih=>
  grind
open Classical in
theorem awF{c:Code}(J:Nat->Act->World->Prop){m:Nat}(Z:J m a w)
  (round:∀m a w,J m a w->c.wpIn F n P (Exit.then (λI w'=>∃A,A< m/\J A I w') Q) a w):(Code.loop c).wpIn F n P Q a w:=by
 refine wpIn_loop (λa w=>∃m,J m a w) (λa w=>if h:∃m,J m a w then Classical.choose (least h)else 0) ⟨m,Z⟩ λa w h=>?_
 refine wpIn_mono (round _ a w (Classical.choose_spec (least h)).1) λe I w' he=>?_
 cases e with
 |normal=>
  obtain⟨A,d,U⟩:=he;refine⟨⟨A,U⟩,?_⟩;rw[dif_pos ⟨A,U⟩];grind
 |_=>exact he
theorem LM{b:Frame}{k:List Item}{cs:List Frame}{c:Code}:step P (lone (b.atR a (.code (.scope c)::k)) cs w)=.next (lone (b.atR a (.code c::.inScope c::k)) cs w):=
 step_lone_go (by rfl)
theorem avR{b:Frame}{k:List Item}{cs:List Frame}{c:Code}:step P (lone (b.atR a (.inScope c::k)) cs w)=.next (lone (b.atR a k) cs w):=
 step_lone_go (by rfl)
theorem awG{c:Code}(h:c.wpIn F n P (Exit.noGoto Q) a w):(Code.scope c).wpIn F n P Q a w:=by
 intro b k cs J U Z;have I:(lone (b.atR a (.code (.scope c)::k)) cs w).fenced P F:=fenced_calm U Z rfl;obtain⟨e,d,f,g,A⟩:=h b _ cs J U Z;cases e with
 |normal=>exact⟨.normal,d,f,g,.head I LM (StepsIn.trans A (.one (fenced_calm U Z rfl) avR))⟩
 |exit id=>
  have s:exitTo id (.inScope c::k)=exitTo id k:=by rfl
  exact⟨.exit id,d,f,g,λp q=>.head I LM (A.1 p (by trivial)),
   λj q=>let⟨r,h1,h2⟩:=A.2 j (by trivial);⟨r,h1,.head I LM h2⟩⟩
 |goto l=>trivial
 |ret|panic ch|outgrown=>exact⟨_,d,f,g,.of_steps (.one I LM) A⟩
end
section
variable {F:Fence} {P:Program} {B:Nat} {X:Cx} {O:Nat->Addr->Prop} {w:World} {h:Heap} {E:Env} {ih:Nat->Nat->Nat->Code->St->Option (Ex×St)}
theorem ae0(U:HR B X O w h) n{w':World}(Z:Below w.heap.size w w'):HR B X O w' (h++jz n ae)/\Step B X O w h X O w' (h++jz n ae):=by
 obtain⟨A,I⟩:=Im U Z;have J:∀b,ar (h++jz n _) b=ar h b:=λb=>by
  rw[Iw];split
  .rfl
  have h2:ar h b=ae:=by rw[cy,jF (by omega)];rfl
  rw[h2,cy,mc,List.getElem?_replicate];split<;>rfl
 exact⟨⟨λb k e=>A.dO b k (by grind),A.own,A.gJ,λb bi e=>by have:=A.lt b bi e;simp;omega,A.ci,A.wb⟩,I.up,by simp,⟨λb bi e c=>by rw[J];omega,I.fr.M,I.fr.own,I.fr.cell,I.fr.obj,λb e=>by grind,λb _ e _=>e⟩⟩
def uH(o:Oper):=match o.op with|.defer _=>af|_=>ag
theorem Aq{o:Oper}(h:uH o=ag) rd ρ:o.semAt rd ρ=execOp ρ o:=by
 unfold uH at h;cases rd with
 |none=>rfl
 |some l=>unfold Oper.semAt;grind
theorem awq{F:Fence}{n:Nat}{o:Oper}{a:Act}{K J:Act->World->Prop}{Q:Exit->Act->World->Prop} rd(I:∀a w,K a w->J a w){r:Result Next}(h:o.uponIn F n P a K Q r):o.uponIn (si F rd) n P a J Q r:=by
 cases r with
 |ok x w'=>
  cases x<;>simp[ahn]at h|-;case value u=>simp[I,h]
  case skip=>simp[I,h]
  case defer d=>simp[I,h]
  case enter f args=>
   refine⟨h.1,yk (F:=F) h.2 λe A he=>?_⟩
   grind
  case row row args=>exact⟨h.1,RowsIn.mono (F:=F) h.2 λu A he=>I _ _ he⟩
  case round l f tmps assign body=>
   refine⟨h.1,ahr (F:=F) h.2 λe A he=>?_⟩
   grind
 |halt x w'=>
  cases x<;>simp[ahn]at h|-;omega
theorem acZ{F:Fence}(hF:F.round=ae){n:Nat}{o:Oper}{a:Act}{w:World}{K I:Act->World->Prop}{Q:Exit->Act->World->Prop}{rd:Option Nat}(A:rd=ae∨uH o=ag)(J:∀a w,K a w->I a w)(h:o.wpIn F n P a w K Q):o.wpIn (si F rd) n P a w I Q:=by
 refine⟨h.1,?_⟩;have h2:=h.2;rw[hF]at h2;have:o.semAt (si F rd).round a.eval=o.semAt ae a.eval:=by
  rcases A with rfl|A
  .rfl
  simp[Aq,A]
 rw[this];exact awq rd J h2
theorem Mc{F:Fence}(hF:F.round=ae){n:Nat}{ops:Array Oper}{Q:Exit->Act->World->Prop}{rd:Option Nat}(I:rd=ae∨∀o∈ops.toList,uH o=ag):∀l a w,wpOpsIn F n P ops Q l a w->wpOpsIn (si F rd) n P ops Q l a w
 |[],_,_,h=>h
 |i::l,a,w,h=>by
  simp[wpOpsIn]at h|-;cases J:ops[i]? with
  |none=>rw[J]at h;exact Mc hF I l a w h
  |some o=>
   rw[J]at h;simp at h|-;have A:=by
    rw[<-ve]at J;exact jG J
   split
   .rename_i hw;rw[aK hw]at h;exact acZ hF (I.imp id λh=>h o A) (λa w h=>Mc hF I l a w h) h
   rename_i hw;rw[ax hw]at h;exact⟨h.1,Mc hF I l _ w h.2⟩
theorem Ma{F:Fence}(hF:F.round=ae){n:Nat}{Z:Region.Mode}{ops:Array Oper}{Q:Exit->Act->World->Prop}{rd:Option Nat}(J:rd=ae∨∀o∈ops.toList,uH o=ag):∀fuel A a w,wpAnyIn F n P Z ops Q fuel A a w->wpAnyIn (si F rd) n P Z ops Q fuel A a w
 |0,_,_,_,h=>h
 |fuel+1,A,a,w,h=>by
  refine⟨h.1,λi hi=>?_⟩
  have h2:=h.2 i hi;unfold wpOpIn at h2|-;cases U:ops[i]? with
  |none=>rw[U]at h2;exact Ma hF J _ _ a w h2
  |some o=>
   rw[U]at h2;simp at h2|-;have I:=by
    rw[<-ve]at U;exact jG U
   split
   .rename_i hw;rw[aK hw]at h2;exact acZ hF (J.imp id λh=>h o I) (λa w h=>Ma hF J _ _ a w h) h2
   rename_i hw;rw[ax hw]at h2;exact⟨h2.1,Ma hF J _ _ _ w h2.2⟩
theorem HR.swap(A:HR B X O w h){b:Nat}{k I:cj}(J:ar h b=ab k)(U:BR X w (O b) b I):HR B X O w (aI h b I):=
 ⟨λc q e=>by
  rw[bR h b c _ (dj (e8 J))]at e;split at e
  .grind
  exact A.dO c q e,A.own,A.gJ,λc bi e=>by rw[b9,aK (e8 J)];exact A.lt c bi e,A.ci,A.wb⟩
theorem FR.swap{b:Nat}{k A:cj}(J:ar h b=ab k):FR X O w h X O w (aI h b A):=by
 have I:∀c,ar h c=ae↔ar (aI h b A) c=ae:=λc=>by
  rw[bR h b c _ (dj (e8 J))];grind
 exact⟨λc _ _ e=>(I c).1 e,λ_ _ e _=>e,λ_ _ _ _ _ o=>o,λ_ _ _ _ _ _ _ e=>⟨e,rfl⟩,λ_ _ _ _ _ _ _ e _=>e,λc e=>(I c).2 e,λ_ _ e _=>e⟩
theorem YS(H:HR B X O w h) a v:∃X' O',HR B X' O' w (pF a h v)/\Step B X O w h X' O' w (pF a h v):=by
 have same:∃X' O',HR B X' O' w h/\Step B X O w h X' O' w h:=⟨X,O,H,.refl ..⟩;unfold pF;split
 .rename_i b _ _ _ _;split
  .rename_i g s l q;split
   .rename_i ds r;cases d:gH h _ with
    |false=>trivial
    |true=>
     obtain⟨C,K,k1,k2,k3,Y,k5,k6,k7,M,k9⟩:=CM _ H d;have I:=Hn d k2 k7;have zN:b ∉ V.eP l:=λhm=>by
      obtain⟨g,s,ro,l,e⟩:=GU d b hm;rw[q]at e;cases e
     have p:=((M b).2 λg s ro l e=>by rw[q]at e;cases e).trans q
     obtain⟨bi,h1,h2,T,h4,W,h6⟩:=H.dO b _ q;have N:Step B X O w h _ K w _:=⟨Up.jf _ k2 Y,by omega,Hm d (λb q=>(M b).2 q) (λb=>(M b).1) k9⟩
     have y:∀vs ds,V.dW (gL h) vs=ab ds->ds.length=vs.length:=by
      intro vs;induction vs with
      |nil=>simp[V.dW]
      |cons v vs ih=>
       intro ds r;simp[V.dW]at r;cases R:V.cV _ v<;>cases L:V.dW _ vs<;>rw[R,L]at r<;>cases r;simp[ih _ L]
     have hl:=y _ _ r;have S:BR (X.jf C) w (K b) b (bif a then .arr g s 0 ds else .cG g s (mJ ds)):=by
      have key:bi.cap=0∨(bi.s=s/\∃Z A,bi.base=ab Z/\Z.spot=ae/\bI C ds af A/\(∀ws∈A,ws.length=s)/\cK w.cell? Z A.flatten/\fZ w (K b) Z 0 (bi.cap*s)):=by
       refine h6.imp id ?_;rintro⟨es,Z,A,z,D,G,J,U,f⟩;refine⟨es,Z,A,z,D,?_,J,U,λj R L=>?_⟩
       .exact Hu I.1 (ac0 H I) _ _ _ _ r (λc hc=>hc) G
       obtain⟨o,x⟩:=f j R L;grind
      cases a with
      |true=>exact⟨bi,h1,h2,T,⟨by omega,bH _⟩,W,key.imp id λ⟨es,Z,A,z,D,G,J,U,f⟩=>⟨es,Z,A,z,D,G,J,U,by rw[Nat.zero_mul];exact λj v e=>by trivial,by grind⟩⟩
      |false=>exact⟨bi,h1,h2,T,by simp_all,W,key.imp id λ⟨es,Z,A,z,D,G,J,U,f⟩=>⟨es,Z,A,z,D,by rw[oG];exact y5.2 G,J,U,f⟩⟩
     refine⟨X.jf C,K,k1.swap p S,N.trans ⟨.refl _ _ _ _,?_,FR.swap p⟩⟩;show _<=(aI _ b _).length;rw[b9,aK (e8 p)];omega
   omega
  omega
 omega
theorem agu(J:HR B X O w h) c n:HR B X O w (x8 h c n)/\Step B X O w h X O w (x8 h c n):=by
 have same:HR B X O w h/\Step B X O w h X O w h:=⟨J,.refl ..⟩;unfold x8;split
 .rename_i r s ro l I;cases U:bu ro n&&bu n _ with
  |false=>trivial
  |true=>
   rw[aM,bz]at U;have h1:=jl U.1;have h2:=jl U.2;show HR B X O w _/\Step B X O w h X O w (aI h c _);have M:(l.take n).length=n:=by grind
   obtain⟨bi,x,y,z,N,C,D⟩:=J.dO c _ I;have Z:BR X w (O c) c (.arr r s ro (l.take n)):=by
    refine⟨bi,x,y,z,⟨by omega,by omega⟩,C,D.imp id ?_⟩
    rintro⟨es,G,d,H,K,L,A,f,g,p⟩;refine⟨es,G,d.take n,H,K,cz.2 ((cz.1 L).take n),λws q=>A ws (List.mem_of_mem_take q),λj v e=>?_,λj v e=>?_,p⟩
    .rw [bl.ll A,pc]at e;split at e
     .exact f j v e
     trivial
    rw[bl.ll A,pc]at e;split at e
    .exact g j v (by grind)
    trivial
   exact⟨J.swap I Z,⟨.refl _ _ _ _,by rw[b9,aK (e8 I)];omega,FR.swap I⟩⟩
 omega
theorem awf(A:HR B X O w h) v:HR B X O w (sX h v)/\Step B X O w h X O w (sX h v):=by
 unfold sX;split
 .split
  .simp[agu,A]
  exact⟨A,.refl ..⟩
 .simp[agu,A]
 exact⟨A,.refl ..⟩
theorem Pc{q:Bool}{f id nt:Nat}{a:Act}{st:St}(s:SR nt B X O w a st):∃X' O',SR nt B X' O' w a (gn E q f id st)/\Step B X O w st.h X' O' w (gn E q f id st).h:=by
 unfold gn;split
 .exact ⟨X,O,s,.refl ..⟩
 rename_i b k A;split
 .obtain ⟨X',O',h1,h2⟩:=YS s.h _ _;exact⟨X',O',s.step h1 h2,h2⟩
 .obtain ⟨X',O',h1,h2⟩:=YS s.h _ _;exact⟨X',O',s.step h1 h2,h2⟩
 .obtain ⟨h1,h2⟩:=awf s.h _;exact⟨X,O,s.step h1 h2,h2⟩
 exact⟨X,O,s,.refl ..⟩
theorem qm.step{fb:Nat}{c A:Code}{rd:Option Nat}(h:qm w fb c rd){X':Cx}{O':Nat->Addr->Prop}{w':World}{I h':Heap}(s:Step B X O w I X' O' w' h')(J:gY c=ag->gY A=ag):qm w' fb A rd:=by
 cases rd<;>first|rename_i l;obtain⟨h1,h2,r,U⟩:=h;exact⟨h1,J h2,r,s.up.obj l _ U rfl⟩|exact h
theorem qm.sub{fb:Nat}{c A:Code}{rd:Option Nat}(h:qm w fb c rd)(I:gY c=ag->gY A=ag):qm w fb A rd:=by
 cases rd<;>first|obtain⟨h1,h2,r,J⟩:=h;exact⟨h1,I h2,r,J⟩|exact h
theorem qm.ops{fb id:Nat}{ops:Array Oper}{d:Bool}{rd:Option Nat}(h:qm w fb (.region id ops d) rd):rd=ae∨∀o∈ops.toList,uH o=ag:=by
 cases rd
 .simp
 rename_i l;obtain⟨h1,h2,r,I⟩:=h;refine .inr λo A=>?_
 have:=lI.1 h2 o A;trivial
theorem auD(U:jL F P E ih)(d:gF F P E)(hF:dJ F){f id:Nat}{ops:Array Oper}{st A:St}{nt q:Nat}{a:Act}(e:qZ E ih f id ops st=ab A)(s:SR nt B X O w a st)
  (I:∀o∈ops.toList,sB nt o=ag) (J:(match E.dr f id with|some ds=>HI E ops ds|none=>ag)=ag) {rd:Option Nat} (Z:rd=ae∨∀o∈ops.toList,uH o=ag):(Code.region id ops ag).wpIn (si F rd) q P (yM nt B X O w st (.nm,A)) a w:=by
 unfold qZ at e;rw[ay]at e;obtain⟨ds,c,e⟩:=e;rw[c]at J;obtain⟨bf,p⟩:=alk J;refine wpIn_region_any d.mixed (Ma hF.round Z _ _ _ _ ?_);obtain⟨r,g⟩:=ae0 s.h _ (w':={w with drawn:=w.drawn+1}) (Below.refl _ w).drew;have l:=ae9 (ds:=ds) _ 0 _ rfl _ e;rw[bz]at l;refine ajj (F:=F) (X0:=X) (O0:=O) (w0:=w) (h0:=st.h) U d hF p I (λX' O' w' C x y=>⟨trivial,X',O',x,y⟩) _ _ _ _ X O _ a (by simp) List.pairwise_lt_range' (by simp) (λj=>?_) (λj D z=>?_) l (s.step r g) (λb h1 h2 _=>?_) (by simp) g
 .rw [ka];grind
 .grind
 cases hm:X.M b<;>first|rename_i bi;have:=s.h.lt b bi hm;omega|rfl
theorem am6 h k:aI h h.length k=h++[ab k]:=by
 induction h with
 |nil=>rfl
 |cons b h ih=>simp[fH,Dx,ih]
theorem amN(I:HR B X O w h){w':World}(U:eJ w w')(hB:Below w.heap.size w w') D(h1:w.heap.size<=D)(h2:D< w'.heap.size):HR B (X.eg h.length ⟨0,ae,0,0,ag⟩) (λb=>if b=h.length then λa=>a=⟨D,0,ae⟩else O b) w' (h++[ae])/\
  Step B X O w h (X.eg h.length ⟨0,ae,0,0,ag⟩) (λb=>if b=h.length then λa=>a=⟨D,0,ae⟩else O b) w' (h++[ae]):=by
 have j:=oL I;have Z:∀b,ar _ b=ar h b:=λb=>by
  rw[Iw h [ae] b];split
  .rfl
  have h2:ar h b=ae:=by rw[cy,jF (by omega)];rfl
  rw[cy];grind
 have d:∀b k,ar h b=ab k->b≠h.length:=λb k e=>aio (e8 e)
 have g:∀b bj,X.M b=ab bj->b≠h.length:=λb bj e l=>by grind
 have p:=λa v e=>World.block_lt_of_cell? w a (I.ci a v e)
 refine⟨⟨λb k e=>?_,λb a o=>?_,λb c a o f=>?_,λb bj e=>?_,I.ci.keep U,b8 I.wb hB.size⟩,⟨Up.add j (hB.mono I.wb) U _ _,by simp,⟨λb bj e q=>by simp[Z,q],λb bj e _=>by rw[Cx.fX X _ (g b bj e)];exact e,λb bj e _ a o=>by grind,
  λb bj _ _ a _ v ev=>⟨U.cell _ _ ev,U.frozen _ _ ev⟩,λb bj _ _ a _ o r _=>U.obj _ _ r,λb e=>by grind,λb l e _=>by rw[Cx.fX X _ (aio l)];exact e⟩⟩⟩
 .rw [Z]at e;simp[ax (d b k e)];exact(I.dO b k e).later I.lt (Cx.yd _ j) (Cx.fX X _ (d b k e)) U λ_ h=>h
 .by_cases A:b=h.length
  .simp [A]at o;subst o;refine⟨b8 I.wb h1,h2,?_⟩;show X.C _=ae;cases z:X.C _ with
   |none=>rfl
   |some v=>grind
  simp[ax A]at o;obtain⟨s,x,y⟩:=I.own b a o;exact⟨s,fY x hB.size,y⟩
 .by_cases A:b=h.length<;>by_cases J:c=h.length
  .omega
  .simp [A]at o;simp[ax J]at f;have:=(I.own c _ f).2.1;grind
  .simp [J]at f;simp[ax A]at o;have:=(I.own b _ o).2.1;grind
  simp[ax A]at o;simp[ax J]at f;exact I.gJ b c a o f
 by_cases A:b=h.length<;>try grind
 rw[Cx.fX X _ A]at e;have:=I.lt b bj e;simp;omega
theorem att(A:HR B X O w h):HR B X O w (h++[ae])/\Step B X O w h X O w (h++[ae]):=by
 have:=ae0 A 1 (Below.refl _ w);trivial
theorem alr(q:HR B X O w h){fb:Nat}{c:Code}{rd:Option Nat}(U:qm w fb c rd)(fn:Nat)(tmps:Array Value)(ps:Array Nat)(bT body:Code){f:Nat}{t:Tm}(R:TR X t tmps)(S:∀p∈ps.toList,p< tmps.size)(k1:Gh.K f tmps.size bT)(k2:Gh.K f tmps.size body):
  ∃(l:Nat) (mark:List Deferred) (Z:World) (r:Loop) (e:Cx) (s:Nat->Addr->Prop) (bi:BI),(Instr.enterLoop fn tmps ps bT body rd).run P w=.ok (l,mark) Z/\Z.heap[l]? =ab (.loop r)/\r.state=.ready/\r.pending=ae/\w.heap.size<=l/\
   HR B e s Z (h++[ae,ab (.lp f t ps.toList bT body)])/\Step B X O w h e s Z (h++[ae,ab (.lp f t ps.toList bT body)])/\e.M (h.length+1)=ab bi/\bi.base=ab ⟨l,0,ae⟩/\bi.fix=ag/\
   ((fb=0/\∃D T,mark=[{target:=.collected D,args:=#[]}]/\w.heap.size<=D/\D≠l/\Z.heap[D]? =ab (.deferred (ab []))/\e.M h.length=ab T/\s h.length ⟨D,0,ae⟩)∨(fb≠0/\mark=[])):=by
 have I:∀{X':Cx} {O':Nat->Addr->Prop} {w':World} (r:Loop),HR B X' O' w' (h++[ae])->Step B X O w h X' O' w' (h++[ae])->r.state=.ready->r.pending=ae->r.params=ps->r.assign=bT->r.body=body->r.tmps=tmps->
   HR B (X'.eg (h.length+1) ⟨0,ab ⟨w'.heap.size,0,ae⟩,0,0,ag⟩) (λb=>if b=h.length+1 then(λa=>a=⟨w'.heap.size,0,ae⟩)else O' b) (w'.alloc (.loop r)) (h++[ae,ab (.lp f t ps.toList bT body)])/\
   Step B X O w h (X'.eg (h.length+1) ⟨0,ab ⟨w'.heap.size,0,ae⟩,0,0,ag⟩) (λb=>if b=h.length+1 then(λa=>a=⟨w'.heap.size,0,ae⟩)else O' b) (w'.alloc (.loop r)) (h++[ae,ab (.lp f t ps.toList bT body)]):=λ{X' O' w'} r A st W Y e3 e4 e5 g=>by
  have J:(h++[ae]).length=h.length+1:=by simp
  have j:X'.M (h.length+1)=ae:=by have:=oL A;simp_all[J]
  have x:=eJ.alloc w' (.loop r);have d:(w'.alloc (.loop r)).heap.size=w'.heap.size+1:=by simp
  have y:h++[ae,ab (.lp f t ps.toList bT body)]=aI (h++[ae]) (h.length+1) (.lp f t ps.toList bT body):=by
   rw[<-J,am6];simp
  have hn:ar (h++[ae]) (h.length+1)=ae:=by rw[cy,jF (by simp)];rfl
  have z:TR X' t tmps:=R.mono q.lt st.up.le;have C:BR (X'.eg (h.length+1) ⟨0,ab ⟨w'.heap.size,0,ae⟩,0,0,ag⟩) (w'.alloc (.loop r)) (λa=>a=⟨w'.heap.size,0,ae⟩) (h.length+1) (.lp f t ps.toList bT body):=by
   refine⟨_,w'.heap.size,r,Cx.fN _ _ _,rfl,rfl,rfl,MD w' _,rfl,⟨W,Y,by rw[e3],e4,e5,?_,by rw[g];omega,by simp[g,k1],by simp[g,k2]⟩⟩
   rw[g];exact z.mono A.lt (Cx.yd _ j)
  rw[y];refine⟨A.add hn j (by omega) x (by omega) ⟨0,ab ⟨w'.heap.size,0,ae⟩,0,0,ag⟩ (λa=>a=⟨w'.heap.size,0,ae⟩) (.lp f t ps.toList bT body) (λa ha=>by subst ha;simp) C,st.trans ⟨Up.add j ((NI w' (.loop r)).mono A.wb) x _ _,by grind,FR.add j (by omega) x _ _ _⟩⟩
 cases rd with
 |none=>
  let w':=w.alloc (.deferred (ab []));have d:w'.heap.size=w.heap.size+1:=by simp[w']
  obtain⟨G,H⟩:=amN q (eJ.alloc w (.deferred (ab []))) (NI w (.deferred (ab []))) w.heap.size (aL _) (by simp)
  let r:Loop:={state:=.ready,pending:=ae,fn,tmps,params:=ps,assign:=bT,body,defers:=w.heap.size};obtain⟨L,N⟩:=I r G H rfl rfl rfl rfl rfl rfl;refine⟨w.heap.size+1,[{target:=.collected w.heap.size,args:=#[]}],w'.alloc (.loop r),r,_,_,_,run_enterLoop_outer _ _ _ _ _,?_,rfl,rfl,by omega,L,N,Cx.fN _ _ _,by simp,rfl,.inl ⟨U,w.heap.size,⟨0,ae,0,0,ag⟩,rfl,aL _,by omega,?_,?_,?_⟩⟩
  .have:=MD w' (.loop r);simp_all[d]
  .exact (Below.heap_alloc w' _ _ (by omega)).trans (MD w _)
  .rw [Cx.fX _ _ (by omega)];simp[Cx.fN]
  simp
 |some l0=>
  obtain⟨h1,h2,r0,h3⟩:=U;obtain⟨G,H⟩:=att q;let r:Loop:={state:=.ready,pending:=ae,fn,tmps,params:=ps,assign:=bT,body,defers:=r0.defers};obtain⟨L,N⟩:=I r G H rfl rfl rfl rfl rfl rfl;exact⟨w.heap.size,_,_,r,_,_,_,run_enterLoop_inner h3 _ _ _ _ _,MD w _,rfl,rfl,aL _,L,N,Cx.fN _ _ _,rfl,rfl,.inr ⟨h1,rfl⟩⟩
theorem a8.abM{α β:Type}{R:α->β->Prop}:∀{l:List α} {r:List β},a8 R l r->∀{y:β},y∈r->∃x,R x y
 |[],r,h,y,A=>by subst h;cases A
 |x::l,r,h,y,A=>by
  obtain⟨z,I,rfl,h1,h2⟩:=h;rcases du.1 A with rfl|A
  .exact ⟨x,h1⟩
  exact a8.abM h2 A
theorem OP(hE:gF F P E)(hF:dJ F):∀m,jL F P E (exec E m):=by
 intro m;induction m using aiu with
 |_ m Z1=>
 cases m with
 |zero=>intro f fb cur c st r e;cases e
 |succ m=>
  have U:=Z1 m (Nat.lt_succ_self m);intro f fb cur c st r e nt A n B X O w a s rd I;have e:pA E (exec E m) f fb cur c st=ab r:=e;cases c with
  |skip=>cases e;exact wpIn_skip ⟨trivial,X,O,s,.refl _ _ _ _ _⟩
  |label l=>cases e;exact wpIn_label ⟨trivial,X,O,s,.refl _ _ _ _ _⟩
  |exit id=>cases e;exact wpIn_exit ⟨rfl,X,O,s,.refl _ _ _ _ _⟩
  |ret=>cases e;exact wpIn_ret ⟨trivial,X,O,s,.refl _ _ _ _ _⟩
  |region id ops draw=>
   simp only[codeOk,aM]at A;simp only[pA]at e;split at e
   .rename_i rj h1;cases e;obtain⟨Z,H,N,d⟩:=Pc (E:=E) (q:=false) (f:=f) (id:=id) s;cases draw with
    |true=>
     refine wpIn_mono (auD U hE hF h1 N (λo ho=>lI.1 A.1 o ho) A.2 I.ops) λe2 a2 w2 ⟨hex,X2,O2,s2,p2⟩=>?_
     obtain⟨X3,W,s3,p3⟩:=Pc (E:=E) (q:=true) (f:=f) (id:=id) s2;exact⟨hex,X3,W,s3,(d.trans p2).trans p3⟩
    |false=>
     refine wpIn_region ?_;have:=afe (n:=n) (Q:=yM nt B X O w st (.nm,gn E ag f id rj)) U hE hF ops.toList 0 (by simp) (λo ho=>lI.1 A.1 o ho) N h1 λX' O' w' a' s' p'=>(by
      obtain⟨X3,W,s3,p3⟩:=Pc (E:=E) (q:=true) (f:=f) (id:=id) s';exact⟨trivial,X3,W,s3,(d.trans p').trans p3⟩)
     rw[List.range_eq_range'];refine Mc hF.round I.ops _ _ _ ?_;omega
   trivial
  |seq x y=>
   simp only[codeOk,aM]at A;simp only[pA]at e;refine wpIn_seq ?_;split at e
   .rename_i L h1;refine wpIn_mono (U _ _ _ _ _ _ h1 nt A.1 n B X O w a s rd (I.sub λh=>by simp_all[gY,aM,h])) λC a1 G h=>?_
    obtain⟨hex,Z,H,N,d⟩:=h;cases C<;>simp only[mv]at hex;refine wpIn_mono (U _ _ _ _ _ _ e nt A.2 n B Z H G a1 N rd (I.step d λh=>by simp_all[gY,aM,h])) λe2 a2 w2 h=>?_
    obtain⟨amG,X2,O2,s2,p2⟩:=h;exact⟨amG,X2,O2,s2,d.trans p2⟩
   rename_i ln;refine wpIn_mono (U _ _ _ _ _ _ e nt A.1 n B X O w a s rd (I.sub λh=>by simp_all[gY,aM,h])) λC a1 G h=>?_
   obtain⟨hex,Z,H,N,d⟩:=h;obtain⟨r1,r2⟩:=r;cases C with
   |normal=>
    cases r1<;>simp only[mv]at hex;grind
   |_=>exact⟨hex,Z,H,N,d⟩
  |cond x y z=>
   simp only[codeOk,aM]at A;simp only[pA]at e;split at e
   .rename_i t ht;refine wpIn_cond (akO s A.1 ht) ?_;cases t with
    |true=>exact U _ _ _ _ _ _ e nt A.2.1 n B X O w a s rd (I.sub λh=>by simp_all[gY,aM,h])
    |false=>exact U _ _ _ _ _ _ e nt A.2.2 n B X O w a s rd (I.sub λh=>by simp_all[gY,aM,h])
   trivial
  |block id x=>
   simp only[codeOk]at A;simp only[pA]at e;refine wpIn_block ?_;split at e
   .rename_i j L h1;refine wpIn_mono (U _ _ _ _ _ _ h1 nt A n B X O w a s rd (I.sub λh=>h)) λC a1 G h=>?_
    obtain⟨hex,Z,H,N,d⟩:=h;cases C<;>simp only[mv]at hex;subst hex;simp only[Exit.inBlock];cases hj:al j id with
    |true=>
     rw[hj,ao]at e;cases e;rw[aK (dU hj)];exact⟨trivial,Z,H,N,d⟩
    |false=>
     rw[hj,au]at e;cases e;rw[ax (λh=>by simp_all)]
     exact⟨rfl,Z,H,N,d⟩
   rename_i ln;refine wpIn_mono (U _ _ _ _ _ _ e nt A n B X O w a s rd (I.sub λh=>h)) λC a1 G h=>?_
   obtain⟨hex,Z,H,N,d⟩:=h;obtain⟨r1,r2⟩:=r;cases C with
   |exit id'=>
    cases r1<;>simp only[mv]at hex;grind
   |_=>exact⟨hex,Z,H,N,d⟩
  |loop x=>
   simp only[codeOk]at A;refine awF (λm' a' w'=>m'<=m+1/\∃L Z H,SR nt B Z H w' a' L/\Step B X O w st.h Z H w' L.h/\exec E m' f fb cur (.loop x) L=ab r) (m:=m+1) ⟨aL _,st,X,O,s,.refl _ _ _ _ _,e⟩ λm' a1 G h=>?_
   obtain⟨hm,L,Z,H,N,d,C⟩:=h;cases m' with
   |zero=>cases C
   |succ m'=>
    have C:pA E (exec E m') f fb cur (.loop x) L=ab r:=C;simp only[pA]at C;have Zz:=Z1 m' (by omega)
    split at C
    .rename_i st2 h2;refine wpIn_mono (Zz _ _ _ _ _ _ h2 nt A n B Z H G a1 N rd (I.step d λh=>h)) λe2 a2 w2 h=>?_
     obtain⟨hex,X2,O2,s2,p2⟩:=h;cases e2<;>simp only[mv]at hex;exact⟨m',by omega,by omega,st2,X2,O2,s2,d.trans p2,C⟩
    rename_i ln;refine wpIn_mono (Zz _ _ _ _ _ _ C nt A n B Z H G a1 N rd (I.step d λh=>h)) λe2 a2 w2 h=>?_
    obtain⟨hex,X2,O2,s2,p2⟩:=h;obtain⟨r1,r2⟩:=r;cases e2 with
    |normal=>
     cases r1<;>simp only[mv]at hex;grind
    |_=>exact⟨hex,X2,O2,s2,d.trans p2⟩
  |scope x=>
   simp only[codeOk]at A;refine awG ?_;refine wpIn_mono (U _ _ _ _ _ _ e nt A n B X O w a s rd (I.sub λh=>h)) λC a1 G h=>?_
   cases C with
   |goto l=>obtain⟨hex,_⟩:=h;cases hr:r.1<;>rw[hr]at hex<;>exact hex.elim
   |_=>exact h
  |rangeFunc g ps bT NG=>
   simp only[codeOk,aM]at A;obtain⟨hg,uv,⟨Pp,Pq⟩,zH,Y5⟩:=A;have am3:∀p∈ps.toList,p< a.tmps.size:=λp hp=>by
    rw[s.n];exact jl (lI.1 uv p hp)
   have k1:Gh.K f a.tmps.size bT:=by rw[s.n];exact(hE.gh _ _ _).2 ⟨Pp,Pq⟩
   have k2:Gh.K f a.tmps.size NG:=by rw[s.n];exact(hE.gh _ _ _).2 ⟨zH,Y5⟩
   simp only[pA]at e;split at e
   .rename_i q g0 fa cap lS;split at e
    .rename_i v h' lp sn;split at e
     .rename_i bk f1 t1 ps1 as1 bd1 zI;cases e;rw[s.lp,bz]at sn;rw[bz]at zI;refine wpIn_rangeFunc λfn Iu=>?_
      obtain⟨l,mark,G,rr,Z,H,bi,c1,c2,c3,c4,c5,c6,c7,c8,c9,c10,c11⟩:=alr (P:=P) s.h I fn a.tmps ps bT NG s.t am3 k1 k2;have PF:∃fs cs:Array Value,a.eval g=.func (.func g0) fs cs/\a8 (λv x=>aq X v ag [x]) fa fs.toList/\a8 (λv x=>aq X v ag [x]) cap cs.toList:=by
       have hf:aq X (ev st.t g) ag [a.eval g]:=sg s.t hg;have axd:∀{l:List V} {aX:List (List Value)},bM X l ag aX->a8 (λv x=>aq X v ag [x]) l aX.flatten:=by
        intro l;induction l with
        |nil=>simp[bM,a8.nil]
        |cons v l ih=>
         intro aX h;simp only[bM]at h;obtain⟨ws,r,rfl,h1,h2⟩:=h;obtain⟨y,rfl⟩:=aq.single h1;exact a8.cons h1 (ih h2)
       split at lS
       .rename_i g' as' CD he;cases lS;rw[he]at hf;simp only[aq]at hf;grind
       .rename_i g' he;cases lS;rw[he]at hf;simp only[aq,aR]at hf;exact⟨#[],#[],(yy hf).1,a8.nil,a8.nil⟩
       trivial
      obtain⟨fs,cs,PF,hfa,Y7⟩:=PF;have hX:=s.h.lt;have amt:a8 (λv x=>aq Z v ag [x]) (fa++(.jh (st.h.length+1)::cap)) ((fs++#[MC (.yield l) #[] #[]])++cs).toList:=by
       simp only[rA,mj];refine(Uz hX c7.up.le hfa).app (a8.cons ?_ (Uz hX c7.up.le Y7));simp only[aq];grind
      obtain⟨Du,⟨fn0,cd,uu,amy,Dv⟩,amz⟩:=II U hE hF sn c6 amt;have P0:(resolve a.eval (rangeCall g l) 0).run P G=.ok {target:=.fn (.func g0) cs,args:=fs++#[.func (.yield l) #[] #[]]} G:=by
       have:(rangeCall g l).args.map a.eval=#[MC (.yield l) #[] #[]]:=by simp[rangeCall,Act.eval]
       unfold resolve;show(F5 (a.eval g) ((rangeCall g l).args.map a.eval)).run P G=_;rw[PF,this];rfl
      refine⟨l,mark,G,_,G,g0,(fs++#[MC (.yield l) #[] #[]])++cs,G,c1,P0,λf' _=>hF.fn f',?_,hF.room,?_⟩
      .show (callFunc g0 _).run P G=_;simp[rZ,uu,amy,Dv]
      have lR:CallsIn F (n-1) P g0 ((fs++#[MC (.yield l) #[] #[]])++cs) G _:=amz (n-1);refine yk (F:=F) lR λe3 w3 he=>?_
      cases e3 with
      |panicked c=>trivial
      |outgrown=>trivial
      |returned x=>
       obtain⟨X3,W,d1,d2,d3⟩:=he;have l3:=d3.up.obj l _ c2 rfl;have R:=run_endLoop (P:=P) l3 (by rw[c3];simp)
       have hw4:∀{o:Obj},World.putObj w3 l o=eH w3 l o:=λ{_}=>rfl
       rw[hw4]at R;generalize hoe:Obj.loop {rr with state:=.exhausted}=oe at R;rw[c4]at R;refine⟨ae,_,R,?_⟩;show yM nt B X O w st _ .normal _ _;have PU:oe.isCells=af:=by rw[<-hoe];rfl
       have J:=c7.trans d3;have S:∀c k,ar (bC h' (st.h.length+1) ae) c=ab k->ar h' c=ab k/\c≠st.h.length+1:=λc k A=>by
        rw[eO,cy,vt]at A;by_cases Y:st.h.length+1=c
        .subst Y;simp at A;split at A<;>simp at A
        rw[ax Y]at A;exact⟨by rw[cy];exact A,BS Y⟩
       have ZD:∀c,ar (bC h' (st.h.length+1) ae) c=ae->c=st.h.length+1∨ar h' c=ae:=λc A=>by
        by_cases Y:c=st.h.length+1<;>try grind
        right;rw[eO,cy,vt,ax (BS Y)]at A;rw[cy];exact A
       have hlen:(bC h' (st.h.length+1) ae).length=h'.length:=by rw[eO,fQ]
       have Y1:W (st.h.length+1) ⟨l,0,ae⟩:=by
        obtain⟨bi',l',r',b1,b2,b3,b4,b5,b6,b7⟩:=d1.dO _ _ zI;obtain⟨bj,m1,m2,m3,m4⟩:=d3.up.le.M _ _ (by simp) c8
        have:=m4 c10;subst this;rw[b1]at m1;cases m1;rw[c9]at b4;cases b4;exact b6
       have PN:∀c k,ar (bC h' (st.h.length+1) ae) c=ab k->¬W c ⟨l,0,ae⟩:=λc k A o=>(S c k A).2 (d1.gJ c _ _ o Y1)
       have hv:HR B X3 W w3 (bC h' (st.h.length+1) ae):=⟨λc k A=>d1.dO c k (S c k A).1,d1.own,d1.gJ,by rw[hlen];exact d1.lt,d1.ci,d1.wb⟩
       have hr4:HR B X3 W (eH w3 l oe) (bC h' (st.h.length+1) ae):=hv.obj l3 rfl PU PN;have hB:B<=l:=(d1.own _ _ Y1).1;have ux:∀(g:Nat) (o:Obj),w.heap[g]? =ab o->g≠l:=λg o e hgl=>by
        have:=(Mn.1 e).1;omega
       have wH:=J.up.below.size;have DA:Step B X O w st.h X3 W (eH w3 l oe) (bC h' (st.h.length+1) ae):=by
        refine⟨⟨J.up.le,J.up.below.trans (Eh w3 _ hB),J.up.fresh,λr o e lp=>?_⟩,by rw[hlen];exact J.len,⟨λc ci e hn=>?_,J.fr.M,J.fr.own,λc ci e hn x o u eu=>?_,λc ci e hn r o ob eo ho=>?_,λc A=>?_,λc lR e hn=>?_⟩⟩
        .rw [kO w3 _ (ux r o e)];exact J.up.obj r o e lp
        .cases hq:ar (bC h' (st.h.length+1) ae) c with
         |none=>rfl
         |some k=>exact absurd (S c k hq).1 (by rw[J.fr.fm c ci e hn];simp)
        .rw [uI l3 rfl PU,Av l3 rfl PU];exact J.fr.cell c ci e hn x o u eu
        .rw [kO w3 _ (ux r ob eo)];exact J.fr.obj c ci e hn r o ob eo ho
        .rcases ZD c A with rfl|A
         .rw [cy,jF (by omega)];rfl
         exact J.fr.o7 c A
        exact J.fr.rp c lR e ((ZD c hn).resolve_left (by omega))
       refine⟨trivial,X3,W,⟨s.t.mono hX DA.up.le,s.n,by simpa using hr4,?_,Du⟩,by simpa using DA⟩
       have wx:DF X3 W (eH w3 l oe) (bC h' (st.h.length+1) ae) a.defers st.df:=s.df.step hX DA;rcases c11 with⟨PA,D,bd,m1,m2,m3,m4,m5,m6⟩|⟨PA,m1⟩
       .subst PA;subst m1;have T:ar (st.h++[ae,ab (.lp f st.t ps.toList bT NG)]) st.h.length=ae:=by
         rw[Iw,ax (gE _),Nat.sub_self];rfl
        simp only[gj,ao,bz];refine⟨a8.cons (.inl ⟨rfl,D,bd,rfl,?_,d3.fr.M _ _ m5 T,?_,d3.fr.own _ _ m5 T _ m6⟩) wx.1,Gj.2 ⟨λd' Pz D' hD' h2=>?_,wx.2⟩⟩
        .rw [kO w3 _ m3];exact d3.fr.obj _ _ m5 T D m6 _ m4 rfl
        .cases hq:ar (bC h' (st.h.length+1) ae) st.h.length with
         |none=>rfl
         |some k=>have:=(S _ k hq).1;rw[d3.fr.fm _ _ m5 T]at this;cases this
        cases hD';obtain⟨p,hp⟩:=a8.abM s.df.1 Pz;rcases hp with⟨_,D2,_,t1,t2,_⟩|⟨_,cp,t1,_⟩
        .rw [h2]at t1;cases t1;have:=(Mn.1 t2).1;omega
        rw[h2]at t1;cases t1
       subst m1;have:al fb 0=af:=by
        cases hb:al fb 0
        .rfl
        exact absurd (dU hb) PA
       simp only[this,au];simpa using wx
     trivial
    trivial
   trivial
  |_=>cases e
end
def fh{α:Type}(p:Nat->α->Prop):Tb α->Prop
 |.e=>True
 |.n k v l r=>p k v/\fh p l/\fh p r
def Tb.om{α:Type}(p:Nat->α->Bool)(t:Tb α):Bool:=Tb.rec ag (λk v _ _ l r=>bif p k v then(bif l then r else af)else af) t
theorem Tb.alV{α:Type}(k:Nat)(v:α)(l r:Tb α)(i:Nat):(Tb.n k v l r).find i=bif al i k then ab v else bif cQ i k then l.find i else r.find i:=rfl
theorem fh.find{α:Type}{p:Nat->α->Prop}{i:Nat}{v:α}:∀{t:Tb α},fh p t->t.find i=ab v->p i v
 |.e,_,e=>by cases e
 |.n k u l r,h,e=>by
  rw[Tb.alV]at e;cases A:al i k with
  |true=>rw[A]at e;cases e;rw[dU A];exact h.1
  |false=>
   rw[A]at e;cases I:cQ i k<;>first|rw[I,ao]at e;exact fh.find h.2.1 e|rw[I,au]at e;exact fh.find h.2.2 e
theorem fh.of{α:Type}{p:Nat->α->Bool}:∀{t:Tb α},t.om p=ag->fh (λk v=>p k v=ag) t
 |.e,_=>trivial
 |.n k u l r,h=>by
  have h:(bif p k u then(bif l.om p then r.om p else af)else af)=ag:=h;cases h1:p k u with
  |false=>grind
  |true=>
   rw[h1]at h;cases h2:l.om p with
   |false=>grind
   |true=>rw[h2]at h;exact⟨h1,fh.of h2,fh.of h⟩
def I0:Int->Bool
 |.ofNat 0=>ag
 |_=>af
theorem QA:∀{n:Int},I0 n=ag->n=0
 |.ofNat 0,_=>rfl
 |.ofNat (n+1),h|.negSucc n,h=>Bool.noConfusion (show af=ag from h)
mutual
def kU:D->Option (List Value)
 |.bool b=>ab [.bool b]
 |.int k n=>bif I0 n then ab [.int k 0]else ae
 |.str []=>ab [.string ⟨#[]⟩]
 |.nil=>ab [.pointer ae]
 |.dD=>ab [.nilFunc]
 |.eE=>ab [.nilIface]
 |.mN=>ab [.map ae]
 |.agg w l=>(F0 l).bind λcs=>bif al cs.length w then ab cs else ae
 |_=>ae
def F0:List D->Option (List Value)
 |[]=>ab []
 |d::l=>(kU d).bind λa=>(F0 l).map λb=>a++b
end
mutual
def zeroV:V->Option (List Value)
 |.im d=>kU d
 |.full []=>ab [.slice ae 0 0]
 |.agg w l=>(F1 l).bind λcs=>bif al cs.length w then ab cs else ae
 |_=>ae
def F1:List V->Option (List Value)
 |[]=>ab []
 |d::l=>(zeroV d).bind λa=>(F1 l).map λb=>a++b
end
theorem anu(k:IntKind):dz k 0:=by
 show k.min<=0/\0<=k.max;cases k<;>decide
mutual
theorem agR{C:IV}:∀{d:D} {cs:List Value},kU d=ab cs->aR C d af cs
 |.bool b,cs,e=>by simp only[kU,iV]at e;subst e;simp[aR]
 |.int k n,cs,e=>by
  simp only[kU]at e
  obtain⟨I,e⟩:=aU e
  cases e
  simp only[aR]
  rw[QA I]
  exact⟨rfl,anu k⟩
 |.str [],cs,e=>by simp only[kU,iV]at e;subst e;exact⟨_,rfl,rfl,by simp[ByteArray.size]⟩
 |.str (_::_),cs,e=>by simp[kU]at e
 |.nil,cs,e=>by simp only[kU,iV]at e;subst e;simp[aR]
 |.dD,cs,e=>by simp only[kU,iV]at e;subst e;simp[aR]
 |.eE,cs,e=>by simp only[kU,iV]at e;subst e;simp[aR]
 |.mN,cs,e=>by simp only[kU,iV]at e;subst e;simp[aR]
 |.agg w l,cs,e=>by
  simp only[kU,ay]at e
  obtain⟨J,h1,e⟩:=e
  obtain⟨U,e⟩:=aU e
  cases e
  obtain⟨A,h2,Z⟩:=agS (C:=C) h1
  simp only[aR]
  exact⟨A,Z,h2,dU U⟩
 |.ref _,cs,e=>by simp[kU]at e
 |.an _,cs,e=>by simp[kU]at e
 |.aH _,cs,e=>by simp[kU]at e
 |.fn _,cs,e=>by simp[kU]at e
 |.ifc _ _,cs,e=>by simp[kU]at e
theorem agS{C:IV}:∀{l:List D} {cs:List Value},F0 l=ab cs->∃A,bI C l af A/\cs=A.flatten
 |[],cs,e=>by simp only[F0,iV]at e;subst e;exact⟨[],by simp[bI],rfl⟩
 |d::l,cs,e=>by
  simp only[F0,ay,cE]at e
  obtain⟨a,h1,b,h2,e⟩:=e
  obtain⟨A,I,rfl⟩:=agS (C:=C) h2
  exact⟨a::A,by simp only[bI];exact⟨a,A,rfl,agR h1,I⟩,e.symm⟩
end
mutual
theorem agT{X:Cx}:∀{v:V} {cs:List Value},zeroV v=ab cs->aq X v af cs
 |.im d,cs,e=>by simp only[zeroV]at e;simp only[aq];exact agR e
 |.full [],cs,e=>by
  simp only[zeroV,iV]at e;subst e
  simp only[aq]
  exact⟨_,rfl,ae,0,rfl,rfl,bH _,.inl rfl⟩
 |.full (_::_),cs,e=>by simp[zeroV]at e
 |.agg w l,cs,e=>by
  simp only[zeroV,ay]at e
  obtain⟨I,h1,e⟩:=e
  obtain⟨J,e⟩:=aU e
  cases e
  obtain⟨A,h2,U⟩:=agU (X:=X) h1
  simp only[aq]
  exact⟨A,U,h2,dU J⟩
 |.undef,cs,e=>by simp[zeroV]at e
 |.aH _,cs,e=>by simp[zeroV]at e
 |.own ..,cs,e=>by simp[zeroV]at e
 |.ptr ..,cs,e=>by simp[zeroV]at e
 |.fn ..,cs,e=>by simp[zeroV]at e
 |.ifc ..,cs,e=>by simp[zeroV]at e
 |.mp _,cs,e=>by simp[zeroV]at e
 |.jh _,cs,e=>by simp[zeroV]at e
theorem agU{X:Cx}:∀{l:List V} {cs:List Value},F1 l=ab cs->∃A,bM X l af A/\cs=A.flatten
 |[],cs,e=>by simp only[F1,iV]at e;subst e;exact⟨[],by simp[bM],rfl⟩
 |d::l,cs,e=>by
  simp only[F1,ay,cE]at e
  obtain⟨a,h1,b,h2,e⟩:=e
  obtain⟨A,I,rfl⟩:=agU (X:=X) h2
  exact⟨a::A,by simp only[bM];exact⟨a,A,rfl,agT h1,I⟩,e.symm⟩
end
def z9:Value->Value->Bool
 |.bool a,.bool b=>(match a,b with|true,ag=>ag|false,af=>ag|_,_=>af)
 |.int k n,.int A m=>I0 n&&(I0 m&&decide (k=A))
 |.string ⟨⟨[]⟩⟩,.string ⟨⟨[]⟩⟩=>ag
 |.pointer ae,.pointer ae=>ag
 |.slice ae 0 0,.slice ae 0 0=>ag
 |.map ae,.map ae=>ag
 |.nilFunc,.nilFunc=>ag
 |.nilIface,.nilIface=>ag
 |_,_=>af
theorem abt{a b:Value}(h:z9 a b=ag):a=b:=by
 unfold z9 at h;split at h
 .grind
 .simp only[aM]at h;rw[QA h.1,QA h.2.1,of_decide_eq_true h.2.2]
 all_goals trivial
def Jm:List Value->List Value->Bool
 |[],[]=>ag
 |a::l,b::r=>bif z9 a b then Jm l r else af
 |_,_=>af
theorem abu:∀{a b:List Value},Jm a b=ag->a=b
 |[],[],_=>rfl
 |[],_::_,h|_::_,[],h=>by cases h
 |a::l,b::r,h=>by
  have h:(bif z9 a b then Jm l r else af)=ag:=h;cases h1:z9 a b with
  |false=>grind
  |true=>rw[h1]at h;rw[abt h1,abu h]
def Ml(v:V)(z:Value):Bool:=
 match zeroV v with
 |none=>af
 |some cs=>bif v.isAgg then(match z with|.agg A=>Jm A.toList cs|_=>af)else(match cs with|[c]=>z9 z c|_=>af)
theorem awP{X:Cx}{v:V}{z:Value}(hp:v.plain=ag)(h:Ml v z=ag):aq X v ag [z]:=by
 unfold Ml at h;split at h
 .cases h
 .rename_i cs I;have J:=agT (X:=X) I;cases A:v.isAgg with
  |true=>
   rw[A]at h;split at h
   .rename_i U;have:=abu h;exact(aq.Co A).2 ⟨U,rfl,by simp[this,J]⟩
   trivial
  |false=>
   rw[A,au]at h;split at h
   .obtain ⟨x,e,_,r⟩:=J.one hp A;cases e;rw[abt h];exact r ag
   trivial
def triples:List (Nat×Nat×Nat)->List (Nat×Nat×Nat)->Bool
 |[],[]=>ag
 |a::l,b::r=>bif al a.1 b.1&&(al a.2.1 b.2.1&&al a.2.2 b.2.2)then triples l r else af
 |_,_=>af
theorem agv:∀{a b:List (Nat×Nat×Nat)},triples a b=ag->a=b
 |[],[],_=>rfl
 |[],_::_,h|_::_,[],h=>by cases h
 |(A,I,J)::l,(U,Z,c)::r,h=>by
  have h:(bif al A U&&(al I Z&&al J c)then triples l r else af)=ag:=h;cases h1:al A U&&(al I Z&&al J c)with
  |false=>grind
  |true=>
   rw[h1]at h;simp only[aM]at h1;rw[dU h1.1,dU h1.2.1,dU h1.2.2,agv h]
def Q3(P:Program)(t:Nat)(k:TK):Bool:=
 match P.underlying t with
 |none=>af
 |some d=>match k,d with
  |.bool,.bool=>ag
  |.int k,.int J=>decide (k=J)
  |.str,.string=>ag
  |.ptr,.pointer _=>ag
  |.an e,.slice I=>al e I
  |.arr n e,.array U I=>al n U&&al e I
  |.st fs,.struct A=>triples (A.toList.map λf=>(f.offset,P.cellsOf f.type,f.type)) fs&&(A.toList.all (λf=>!(decide (f.name= "_"))&&(P.info? f.type).isSome)&&!P.stoodInHeld t)
  |.fn,.func _ _ _=>ag
  |.ifc nm,.interface Z=>(match nm,!Z.isEmpty with|true,ag=>ag|false,af=>ag|_,_=>af)
  |.map k e,.map J I=>al k J&&al e I
  |_,_=>af
theorem arh{P:Program}{t:Nat}{k:TK}(h:Q3 P t k=ag):gV P t k:=by
 unfold Q3 at h;split at h
 .cases h
 .rename_i d A;split at h<;>simp only[gV]
  .omega
  .grind
  .omega
  .simp[A]
  .simp_all
  .simp_all
  .simp only[aM,lI,yi,decide_eq_false_iff_not]at h;exact⟨_,A,agv h.1,λf hf=>⟨(h.2.1 f hf).1,Option.isSome_iff_exists.1 (h.2.1 f hf).2⟩,h.2.2⟩
  .grind
  .grind
  all_goals simp_all
def LX(P:Program)(t:Nat)(ti:TI):Bool:=
 match P.info? t with
 |none=>af
 |some i=>bif al i.size ti.size&&al i.bytes ti.bytes then(bif(bif ti.zero.plain then(match i.zero with|some z=>Ml ti.zero z|none=>af)else ag)then Q3 P t ti.k else af)else af
theorem awk{P:Program}{t:Nat}{ti:TI}(h:LX P t ti=ag):iG P t ti:=by
 unfold LX at h;split at h
 .cases h
 .rename_i i hi;cases h1:al i.size ti.size&&al i.bytes ti.bytes with
  |false=>grind
  |true=>
   rw[h1]at h;rw[aM]at h1;cases h2:(bif ti.zero.plain then(match i.zero with|some z=>Ml ti.zero z|none=>af)else ag)with
   |false=>grind
   |true=>
    rw[h2]at h;refine⟨⟨i,hi,dU h1.1,dU h1.2,λx A hp=>?_⟩,arh h⟩
    subst A;rw[hp]at h2;split at h2
    .rename_i z I;exact⟨z,I,awP hp h2⟩
    trivial
def Df(E:Env)(f:Nat)(fn:Func):Bool:=(!(fn.name== "runtime.NumGoroutine"))&&(match fn.body with|some c=>codeOk E f fn.ntmps c|none=>true)
theorem YL{E:Env}{f:Nat}{fn:Func}(h:Df E f fn=true):(fn.name== "runtime.NumGoroutine")=false∧∀c,fn.body=some c→codeOk E f fn.ntmps c=true:=by
 unfold Df at h;grind
end
end Go.As
end
