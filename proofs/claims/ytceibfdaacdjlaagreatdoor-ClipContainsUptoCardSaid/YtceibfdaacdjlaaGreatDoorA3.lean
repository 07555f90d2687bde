/- A part of the proof. -/
import Derived.Test.YtceibfdaacdjlaaGreatDoorA2
import Derived.RecoverIn
import Derived.Scope
set_option linter.all false
open Array renaming getD_eq_getD_getElem?->k0,getElem?_eq_some_iff->tG,replicate->oE,toList_append->nO
open Bool renaming and_eq_true->aM,false->af,false_eq_true->R9,not_eq_true'->Eg,or_eq_true->mP,true->ag
open Go.Call renaming operands->jN
open Go.CallsIn renaming mono->wK
open Go.Deferred renaming ofValue->Ei
open Go.Op renaming operands->bq
open Go.Oper renaming semAt_none->ac5,uponIn->ac6
open Go.Region renaming binds->tN,ready->KF,wanted->rF
open Go.RoundIn renaming mono->ac9
open Go.Value renaming func->KI,iface->SA
open Go.World renaming alloc_heap_new->KJ
open List renaming all_eq_true->l9,append_assoc->mc,cons_append->adA,drop_drop->tU,getElem?_cons_succ->adF,getElem?_eq_none->jO,getElem?_eq_some_iff->e7,getElem?_set->wZ,getElem?_take->pZ,length_append->dD,length_cons->jP,length_drop->oK,length_nil->At,length_set->hV,map_congr_left->adI,mem_append->cB,mem_cons->eT,pairwise_cons->ED,range'->EF,range'_succ->adM,range_eq_range'->adN,rec->a8,take_add_one->adO
open List.Pairwise renaming nil->SH
open List.Sublist renaming refl->aq2
open List.cons renaming inj->tT
open Nat renaming beq->ak,ble->bp,blt->cA,le_of_ble_eq_true->gX,le_of_lt->cX,le_refl->aJ,le_trans->bU,lor->tY,lt_irrefl->gE,lt_of_lt_of_le->eU,ne_of_lt->aea,strongRecOn->aeg,testBit->mS,testBit_or->aei,zero_le->bX
open Ne renaming symm->EP
open Option renaming bind_eq_some_iff->ay,bind_some->ah,map_eq_some_iff->bu,map_map->xd,map_some->hY,none->ae,some->ab
open Option.some renaming inj->fu,injEq->fH
noncomputable section
namespace Go.As
open Go.RowKit (Below)
section
variable [Gh]
structure dk(F:Fence):Prop where
 fn:∀f,F.fn f
 depth:F.depth=ae
 round:F.round=ae
theorem dk.room{F:Fence}{n:Nat}(h:dk F):F.depth.isSome=ag->1<=n:=λe=>by grind[h.depth]
theorem dk.wide:dk Fence.wide:=⟨λ_=>trivial,rfl,rfl⟩
def ub(F:Fence)(n:Nat)(P:Program)(f:FuncId)(args:Array Value)(w:World)(R:Value->World->Prop):Prop:=
 CallsIn F n P f args w λ
  |.returned v,w'=>R v w'
  |_,_=>False
theorem ub.mono{F:Fence}{n:Nat}{P:Program}{f:FuncId}{args:Array Value}{w:World}{R A:Value->World->Prop}(h:ub F n P f args w R)(I:∀v w',R v w'->A v w'):ub F n P f args w A:=
 wK h λe w' he=>by grind
def rJ(B:Nat)(X:Cx)(O:Nat->Addr->Prop)(w:World)(h:Heap)(v:V)(h':Heap)(x:Value)(w':World):Prop:=
 ∃X' O',HR B X' O' w' h'/\an X' v ag [x]/\Step B X O w h X' O' w' h'
def e9(F:Fence)(n:Nat)(P:Program)(B:Nat)(X:Cx)(O:Nat->Addr->Prop)(w:World)(h:Heap)(m:Sem Next)(v:V)(h':Heap):Prop:=
 xk P B X O w h m v h'∨∃f args,m.run P w=.ok (.enter f args) w/\ub F n P f args w (rJ B X O w h v h')
def pj(nt:Nat)(o:Oper):Bool:=(match o.dst with|some d=>cA d nt|none=>ag)&&o.op.operands.toList.all lP
def gq:Code->Bool
 |.region _ ops _=>ops.toList.all λo=>match o.op with|.defer _=>af|_=>ag
 |.seq a b=>gq a&&gq b
 |.cond _ a b=>gq a&&gq b
 |.block _ b=>gq b
 |.loop b=>gq b
 |.scope b=>gq b
 |.rangeFunc _ _ a b=>gq a&&gq b
 |_=>ag
def codeOk(E:Env)(f nt:Nat):Code->Bool
 |.region id ops A=>ops.toList.all (pj nt)&&(bif A then(match E.dr f id with|some ds=>Mm E ops ds|none=>ag)else ag)
 |.seq a b=>codeOk E f nt a&&codeOk E f nt b
 |.cond c a b=>lP c&&(codeOk E f nt a&&codeOk E f nt b)
 |.block _ b=>codeOk E f nt b
 |.loop b=>codeOk E f nt b
 |.scope b=>codeOk E f nt b
 |.rangeFunc g ps a b=>lP g&&(ps.toList.all (λp=>cA p nt)&&((codeOk E f nt a&&gq a)&&(codeOk E f nt b&&gq b)))
 |_=>ag
def ud(F:Fence)(P:Program)(g:Nat)(ds:List D)(d:D):Prop:=
 ∀(n:Nat) (C:IV) (w:World) (args:Array Value),CI C w->aZ (λd x=>aN C d ag [x]) ds args.toList->
  ub F n P g args w λx w'=>∃C',C.le C'/\CI C' w'/\Below w.heap.size w w'/\(∀a v,C' a=ab v->C a=ae->w.heap.size<=a.block)/\aN C' d ag [x]
structure fv(F:Fence)(P:Program)(E:Env):Prop extends EnvB P E where
 mixed:P.follows .mixedOrders=ag
 gh:∀f nt c,Gh.K f nt c↔(codeOk E f nt c=ag/\gq c=ag)
 fn:∀f fn,E.fn f=some fn→P.funcs[f]? =some fn∧(fn.name== "runtime.NumGoroutine")=false∧∀c,fn.body=some c→codeOk E f fn.ntmps c=true
 qM:∀u nm g,E.qM u nm=ab g->∀v w,(method (P.types.size+Made.depth) u v nm).run P w=.ok (g,v) w
 sm:∀g S,E.sm g=some S→(∃fn c,P.funcs[g]? =some fn∧fn.body=some c∧(fn.name== "runtime.NumGoroutine")=false)∧∀ds d,S ds=some d→ud F P g ds d
 ext:∀g,E.ext g≠0->∀(n B:Nat) (X:Cx) (O:Nat->Addr->Prop) (w:World) (h:Heap),HR B X O w h->∀(xs:List V) (args:Array Value),aZ (λv x=>an X v ag [x]) xs args.toList->∀v h',gI (E.ext g) xs h=ab (v,h')->
  e9 F n P B X O w h (callFunc g args) v h'
 clone:∀g sz,E.clone g=ab sz->∀(n B:Nat) (X:Cx) (O:Nat->Addr->Prop) (w:World) (h:Heap),HR B X O w h->∀(xs:List V) (args:Array Value),aZ (λv x=>an X v ag [x]) xs args.toList->
  ∀aw,aq h aw=ae->X.M aw=ae->aw<=h.length->∀v h',qo E aw sz xs h=ab (v,h')->e9 F n P B X O w h (callFunc g args) v h'
def K2(X:Cx)(O:Nat->Addr->Prop)(w:World)(h:Heap)(p:Nat×List V)(d:Deferred):Prop:=
 (kE p=ag/\∃D bi,d.target=.collected D/\w.heap[D]? =ab (.deferred (ab []))/\X.M p.1=ab bi/\aq h p.1=ae/\O p.1 ⟨D,0,ae⟩)∨
 (kE p=af/\∃cap,d.target=.fn (.func p.1) cap/\aZ (λv x=>an X v ag [x]) p.2 (d.args++cap).toList)
def aen(d A:Deferred):Prop:=∀D,d.target=.collected D->A.target≠.collected D
def DF(X:Cx)(O:Nat->Addr->Prop)(w:World)(h:Heap)(ds:List Deferred)(df:List (Nat×List V)):Prop:=aZ (K2 X O w h) df ds/\ds.Pairwise aen
structure SR(nt B:Nat)(X:Cx)(O:Nat->Addr->Prop)(w:World)(a:Act)(st:St):Prop where
 t:TR X st.t a.tmps
 n:a.tmps.size=nt
 h:HR B X O w st.h
 df:DF X O w st.h a.defers st.df
 lp:st.lp=[]
section
variable {F:Fence} {P:Program} {B:Nat} {X:Cx} {O:Nat->Addr->Prop} {w:World} {h:Heap} {E:Env}
theorem RV{n:Nat}{X Y:Cx}(I:X.lt n)(A:X.le n Y){l:List V}{xs:List Value}(h:aZ (λv x=>an X v ag [x]) l xs):aZ (λv x=>an Y v ag [x]) l xs:=
 h.imp λv x r=>an.mono A _ _ _ (an.low I _ _ _ r) r
theorem DF.step{X':Cx}{O':Nat->Addr->Prop}{w':World}{h':Heap}(Z:X.lt h.length)(A:Step B X O w h X' O' w' h'){ds:List Deferred}{df:List (Nat×List V)}(d:DF X O w h ds df):DF X' O' w' h' ds df:=
 ⟨d.1.imp λp d h=>h.elim (λ⟨hm,D,bi,c,f,I,J,U⟩=>.inl ⟨hm,D,bi,c,A.fr.obj p.1 bi I J D U _ f rfl,A.fr.M _ _ I J,A.fr.eH _ _ I J,A.fr.own _ _ I J _ U⟩)
  (λ⟨hm,cap,e,r⟩=>.inr ⟨hm,cap,e,RV Z A.up.le r⟩),d.2⟩
theorem anI(v:V)(l:List V)(i:Nat)(t:Tm):vH (v::l) i t=vH l (i+1) (t.set i v):=rfl
theorem Z8:∀(l:List V) (i:Nat) (t:Tm) (j:Nat),((vH l i t).get j=t.get j/\(j< i∨i+l.length<=j))∨(∃v,l[j-i]? =ab v/\i<=j/\((vH l i t).get j=v∨(vH l i t).get j=.undef))
 |[],i,t,j=>.inl ⟨rfl,by simp;omega⟩
 |v::l,i,t,j=>by
  rw[anI];rcases Z8 l (i+1) (t.set i v) j with⟨e,I⟩|⟨u,J,I,e⟩
  .by_cases A:j=i
   .subst A;refine .inr ⟨v,by simp,aJ _,?_⟩
    rw[e];exact Tm.VH t j v
   .refine .inl ⟨by rw[e];exact Tm.MV t i j v A,?_⟩
    grind
  grind
theorem aZ.getD{l:List V}{xs:List Value}(h:aZ (λv x=>an X v ag [x]) l xs){i:Nat}{v:V}(e:l[i]? =ab v):∃x,xs[i]? =ab x/\an X v ag [x]:=h.get e
theorem ap0{l:List V}{args:Array Value}(h:aZ (λv x=>an X v ag [x]) l args.toList)(nt:Nat):TR X (gP nt l) (args++oE (nt-args.size) undef):=λi=>by
 unfold gP;rcases Z8 l 0 (Tm.mk (Mj nt)) i with⟨e,hi⟩|⟨v,U,_,e⟩
 .simp[e,Tm.ahQ,RR]
 .obtain ⟨x,Z,c⟩:=h.get (i:=i) (x:=v) (by omega)
  have J:(args++oE (nt-args.size) undef).getD i undef=x:=by
   have A:args[i]? =ab x:=by grind
   have I:=(tG.1 A).1;rw[k0,Array.getElem?_append_left I,A];rfl
  rw[J];rcases e with e|e<;>rw[e]
  all_goals trivial
theorem Rs(I:HR B X O w h){l:List V}{args:Array Value}(A:aZ (λv x=>an X v ag [x]) l args.toList){nt:Nat}(J:bp (aA l) nt=ag):
  SR nt B X O w {tmps:=args++oE (nt-args.size) undef,defers:=[]} ⟨gP nt l,h,[],[]⟩:=by
 refine⟨ap0 A nt,?_,I,⟨aZ.nil,SH⟩,rfl⟩;have:=nY J;grind[bn,A.len,Array.length_toList]
def JD(tmps:Array Value):ResultVar->Sem Value
 |.tmp t=>pure (tmps.getD t undef)
 |.cell a t=>do loadVar t (<-asAddr (tmps.getD a undef))
theorem ao4(fn:Func)(tmps:Array Value):results fn tmps=(do let vs<-fn.results.mapM (JD tmps);pure (if h:vs.size=1 then vs[0]else .tuple vs)):=by
 rfl
theorem ao2(U:EnvTy P E)(Z:HR B X O w h){t:Tm}{tmps:Array Value}(J:TR X t tmps){r:ResultVar}{v:V}(e:zx E h t r=ab v):
  ∃x,(JD tmps r).run P w=.ok x w/\an X v ag [x]:=by
 unfold zx at e;cases r with
 |tmp i=>cases e;exact⟨_,rfl,J i⟩
 |cell a ty=>
  simp at e;split at e
  .rename_i b g p ti c A;obtain⟨u,d,e⟩:=ay.1 e;obtain⟨I,e⟩:=aQ e;cases e;have:=J a;rw[c]at this;obtain⟨y,f,j⟩:=this;obtain⟨s,ws,l,q2,q,q4⟩:=Yj Z d j;obtain⟨x,z,q6⟩:=Q4 (P:=P) (U.ty _ _ A) I q q4;refine⟨x,?_,q6⟩;unfold JD;simp[(tT f).1,l];trivial
  trivial
theorem arU(r:ResultVar)(l:List ResultVar)(t:Tm):wa E h t (r::l)=(zx E h t r).bind λv=>(wa E h t l).map (v:: ·):=rfl
theorem aa2(I:EnvTy P E)(J:HR B X O w h){t:Tm}{tmps:Array Value}(U:TR X t tmps):∀{l:List ResultVar} {vs:List V},wa E h t l=ab vs->
  ∃xs,(l.mapM (JD tmps)).run P w=.ok xs w/\aZ (λv x=>an X v ag [x]) vs xs
 |[],vs,e=>by simp_all[wa,aZ.nil]
 |r::l,vs,e=>by
  obtain⟨v,Z,e⟩:=ay.1 e;obtain⟨c,A,e⟩:=bu.1 e;subst e;obtain⟨x,h1,h2⟩:=ao2 I J U Z;obtain⟨xs,h3,d⟩:=aa2 I J U A;refine⟨x::xs,?_,aZ.cons h2 d⟩;simp_all
theorem aqq{vs:List V}{xs:List Value}(h:aZ (λv x=>an X v ag [x]) vs xs):an X (.aG vs) ag [.tuple xs.toArray]:=by
 have A:∀l:List Value,(l.map λx=>[x]).flatten=l:=by intro l;induction l<;>simp_all
 refine⟨xs.toArray,xs.map λx=>[x],rfl,?_,by rw[A]⟩
 induction vs generalizing xs with
 |nil=>cases h;rfl
 |cons v vs ih=>obtain⟨x,r,rfl,h1,h2⟩:=h;simp[bF];grind
theorem JE(U:EnvTy P E)(Z:HR B X O w h){t:Tm}{tmps:Array Value}(c:TR X t tmps){fn:Func}{v:V}(e:kV E h fn t=ab v):∃x,(results fn tmps).run P w=.ok x w/\an X v ag [x]:=by
 obtain⟨vs,I,e⟩:=bu.1 e;obtain⟨xs,h1,h2⟩:=aa2 U Z c I;have A:(results fn tmps).run P w=.ok (if h:xs.toArray.size=1 then xs.toArray[0]else .tuple xs.toArray) w:=by
  simp[ao4,Array.mapM_eq_mapM_toList,Sem.run_bind,Sem.run_map,h1]
 split at e
 .obtain ⟨x,r,rfl,g,d⟩:=h2;cases d;grind
 .rename_i J;subst e;have j:=h2.len;refine⟨.tuple xs.toArray,?_,aeM (aqq h2)⟩;rw[A,dif_neg];intro f;have:vs.length=1:=by grind
  obtain⟨v,rfl⟩:=List.length_eq_one_iff.1 this;exact J v rfl
end
def jR:Ex->Exit->Prop
 |.nm,.normal=>True
 |.exit i,.exit j=>i=j
 |.ret,.ret=>True
 |_,_=>False
def qd(nt B:Nat)(X:Cx)(O:Nat->Addr->Prop)(w:World)(st:St)(r:Ex×St):Exit->Act->World->Prop:=λe A w'=>
 jR r.1 e/\∃X' O',SR nt B X' O' w' A r.2/\Step B X O w st.h X' O' w' r.2.h
def qx(F:Fence)(rd:Option Nat):Fence:={F with round:=rd}
theorem ahl{F:Fence}(hF:dk F):qx F ae=F:=by
 have:=hF.round;cases F;simp_all[qx,this]
def oO(w:World)(fb:Nat)(c:Code):Option Nat->Prop
 |none=>fb=0
 |some l=>fb≠0/\gq c=ag/\∃r,w.heap[l]? =ab (.loop r)
def iL(F:Fence)(P:Program)(E:Env)(ih:Nat->Nat->Nat->Code->St->Option (Ex×St)):Prop:=
 ∀(f fb cur:Nat) (c:Code) (st:St) (r:Ex×St),ih f fb cur c st=ab r->∀nt,codeOk E f nt c=ag->∀(n B:Nat) (X:Cx) (O:Nat->Addr->Prop) (w:World) (a:Act),SR nt B X O w a st->∀rd,oO w fb c rd->c.wpIn (qx F rd) n P (qd nt B X O w st r) a w
theorem iL.out{F:Fence}{P:Program}{E:Env}{ih:Nat->Nat->Nat->Code->St->Option (Ex×St)}(A:iL F P E ih)(hF:dk F){f cur:Nat}{c:Code}{st:St}{r:Ex×St}(e:ih f 0 cur c st=ab r){nt:Nat}(I:codeOk E f nt c=ag)
  (n B:Nat) (X:Cx) (O:Nat->Addr->Prop) (w:World) (a:Act) (s:SR nt B X O w a st):c.wpIn F n P (qd nt B X O w st r) a w:=by
 have:=A f 0 cur c st r e nt I n B X O w a s ae rfl;simp_all[ahl,hF]
section
variable {F:Fence} {P:Program} {B:Nat} {X:Cx} {O:Nat->Addr->Prop} {w:World} {h:Heap} {E:Env} {ih:Nat->Nat->Nat->Code->St->Option (Ex×St)}
theorem SR.step{nt:Nat}{a:Act}{st:St}(s:SR nt B X O w a st){X':Cx}{O':Nat->Addr->Prop}{w':World}{h':Heap}(I:HR B X' O' w' h')(A:Step B X O w st.h X' O' w' h'):SR nt B X' O' w' a ⟨st.t,h',st.lp,st.df⟩:=
 ⟨s.t.mono s.h.lt A.up.le,s.n,I,s.df.step s.h.lt A,s.lp⟩
theorem SR.put{nt:Nat}{a:Act}{st:St}(s:SR nt B X O w a st){dst:Option Nat}(A:∀d,dst=ab d->d< nt){v:V}{x:Value}(r:an X v ag [x]):SR nt B X O w (a.put dst x) ⟨putDst st.t dst v,st.h,st.lp,st.df⟩:=
 ⟨s.t.put (λd e=>by rw[s.n];exact A d e) r,by simp[anQ,s.n],s.h,by simp[anP,s.df],s.lp⟩
theorem M6{t:Tm}{a:Act}(Z:TR X t a.tmps){ops:Array Oper}{o:Oper}{b:Bool}(e:guardOf ops t o.guard=ab b):rF o (yielded ops a.tmps)=b:=by
 unfold guardOf at e;unfold rF;cases f:o.guard with
 |none=>grind
 |some g=>
  obtain⟨j,A⟩:=g;rw[f]at e;simp only at e|-;obtain⟨r,l,e⟩:=ay.1 e;obtain⟨d,s,e⟩:=ay.1 e;rw[b8]at l;have p:yielded ops a.tmps j=(match a.tmps[d]? with|some (.bool b)=>ab b|_=>ae):=by
   unfold yielded;grind
  have I:=Z d;split at e
  .rename_i c J;rw[J]at I;have q:=(tT I).1;have x:a.tmps[d]? =ab (.bool c):=by
    rw[k0]at q;cases U:a.tmps[d]? with
    |none=>simp_all[U,undef]
    |some y=>grind
   cases c<;>cases A<;>simp_all
  .rename_i J;rw[J]at I;simp[an,aN]at I;cases e;rw[p];have:∀c,a.tmps[d]?≠ab (.bool c):=λc U=>by
    simp_all
   simp
  trivial
theorem ql{g:Nat}{fn:Func}{c:Code}(hf:P.funcs[g]? =some fn)(I:fn.body=some c)(J:(fn.name== "runtime.NumGoroutine")=false)(args:Array Value):(callFunc g args).run P w=.ok (.enter g args) w:=by
 have A:¬fn.name= "runtime.NumGoroutine" :=λe=>by grind
 simp[callFunc,hf,A,I]
theorem xL(I:HR B X O w h){C:IV}{S:Nat->Prop}(J:qe X w h C S):∀{l:List V} {ds:List D} {xs:List Value},gG h l=ab ds->(∀v∈l,∀b∈v.owns,S b)->aZ (λv x=>an X v ag [x]) l xs->aZ (λd x=>aN C d ag [x]) ds xs
 |[],ds,xs,e,_,r=>by simp[gG]at e;subst e;trivial
 |v::l,ds,xs,e,U,r=>by
  obtain⟨d,Z,e⟩:=ay.1 e;obtain⟨c,A,e⟩:=bu.1 e;subst e;obtain⟨x,p,rfl,f,g⟩:=r;exact aZ.cons (qu I J Z (U v (by simp)) f) (xL I J A (λu j=>U u (by simp[j])) g)
theorem ann(v:V)(l:List V):V.j0 (v::l)=(match v with|.im _=>V.j0 l|v=>v.owns++V.j0 l):=rfl
theorem ZL{v:V}{l:List V}(A:v∈l){b:Nat}(I:b∈v.owns):b∈V.j0 l:=by
 induction l with
 |nil=>cases A
 |cons u l ih=>
  rw[ann];rcases eT.1 A with rfl|A
  .cases v<;>first|(cases I;done)|grind
  grind
mutual
theorem D.Bq{C C':IV}:∀(d:D) (m:Bool) (vs:List Value),d.flat=ag->aN C d m vs->aN C' d m vs
 |.bool _,_,_,_,k|.nil,_,_,_,k|.fn _,_,_,_,k|.eR,_,_,_,k|.dn,_,_,_,k|.g8,_,_,_,k|.int _ _,_,_,_,k|.str _,_,_,_,k=>by simpa[aN]using k
 |.ref _,_,_,h,_=>by simp[D.flat]at h
 |.ar _,_,_,h,_=>by simp[D.flat]at h
 |.agg w l,ag,_,h,k=>by
  simp only[aN]at k|-
  obtain⟨cs,A,e,h1,h2,h3⟩:=k
  exact⟨cs,A,e,h1,D.F7 l af A (by simpa[D.flat]using h) h2,h3⟩
 |.agg w l,af,_,h,k=>by
  simp only[aN]at k|-
  obtain⟨A,e,h2,h3⟩:=k
  exact⟨A,e,D.F7 l af A (by simpa[D.flat]using h) h2,h3⟩
 |.aG l,ag,_,h,k=>by
  simp only[aN]at k|-
  obtain⟨I,A,e,h2,h3⟩:=k
  exact⟨I,A,e,D.F7 l ag A (by simpa[D.flat]using h) h2,h3⟩
 |.aG l,af,_,_,k=>by simp[aN]at k
 |.ifc t d,_,_,h,k=>by
  simp only[aN]at k|-
  obtain⟨x,e,r⟩:=k
  exact⟨x,e,D.Bq d ag [x] (by simpa[D.flat]using h) r⟩
theorem D.F7{C C':IV}:∀(l:List D) (m:Bool) (A:List (List Value)),D.lE l=ag->bw C l m A->bw C' l m A
 |[],_,_,_,k=>by simpa[bw]using k
 |d::l,m,_,h,k=>by
  simp only[D.lE,aM]at h
  simp only[bw]at k|-
  obtain⟨ws,r,e,h1,h2⟩:=k
  exact⟨ws,r,e,D.Bq d m ws h.1 h1,D.F7 l m r h.2 h2⟩
end
theorem M5(I:HR B X O w h){w':World}{C':IV}(c:X.C.le C')(J:CI C' w')(U:Below w.heap.size w w')(hf:∀a v,C' a=ab v->X.C a=ae->w.heap.size<=a.block):
  HR B (X.gx C') O w' h/\Step B X O w h (X.gx C') O w' h:=by
 have A:=dP.vt U;have Z:∀b a,O b a->C' a=ae:=λb a o=>by
  obtain⟨_,h2,h3⟩:=I.own b a o;cases e:C' a with
  |none=>rfl
  |some v=>grind
 refine⟨(I.keep A U.size).more c J Z,⟨⟨c,λ_ bi _ e=>⟨bi,e,aJ _,λ_=>rfl,λ_=>rfl⟩,λ_ _ e=>e⟩,U.mono I.wb,λa v e Z=>bU I.wb (hf a v e Z),λr o e _=>A.obj r o e⟩,aJ _,?_⟩
 exact⟨λ_ _ _ e=>e,λ_ _ e _=>e,λ_ _ _ _ _ o=>o,λ_ _ _ _ _ _ _ e=>⟨A.cell _ _ e,A.frozen _ _ e⟩,λ_ _ _ _ _ _ _ e _=>A.obj _ _ e,λ_ _ _ _ g _ d=>A.block g d,λ_ e=>e,λ_ _ e _=>e⟩
theorem Gp(J:HR B X O w h){w':World}(A:Below w.heap.size w w'):HR B X O w' h/\Step B X O w h X O w' h:=by
 have I:=dP.vt A;exact⟨J.keep I A.size,⟨.refl _ _,A.mono J.wb,λa v e U=>(by grind),λr o e _=>I.obj r o e⟩,aJ _,.keep I⟩
theorem aa9{f:Nat}{args:List V}{lp:List Rec}{fn:Func}{st:St}(e:tg E ih f args h lp=ab (fn,st)):
  ∃c r,E.fn f=ab fn/\fn.body=ab c/\bp (aA args) fn.ntmps=ag/\ih f 0 0 c ⟨gP fn.ntmps args,h,lp,[]⟩=ab (r,st)/\(r=.nm∨r=.ret):=by
 obtain⟨A,hf,e⟩:=ay.1 e;obtain⟨c,J,e⟩:=ay.1 e;cases I:bp (aA args) A.ntmps with
 |false=>grind
 |true=>
  rw[I]at e;split at e
  .cases e
  .rename_i ex U Z d;cases e;refine⟨c,ex,hf,J,I,d,?_⟩;cases ex with
   |nm=>trivial
   |ret=>trivial
   |exit i=>grind
  trivial
theorem apa{f:Nat}{args:List V}{lp:List Rec}{fn:Func}{st:St}(e:th E ih f args h lp=ab (fn,st)):
  ∃c r,E.fn f=ab fn/\fn.body=ab c/\bp (aA args) fn.ntmps=ag/\gY E ih f 0 64 c ⟨gP fn.ntmps args,h,lp,[]⟩=ab (r,st)/\(r=.nm∨r=.ret):=by
 obtain⟨A,hf,e⟩:=ay.1 e;obtain⟨c,J,e⟩:=ay.1 e;cases I:bp (aA args) A.ntmps with
 |false=>grind
 |true=>
  rw[I]at e;split at e
  .cases e
  .rename_i ex U Z d;cases e;refine⟨c,ex,hf,J,I,d,?_⟩;cases ex with
   |nm=>trivial
   |ret=>trivial
   |exit i=>grind
  trivial
theorem aoT(keep:Bool)(ops:Array Oper)(o:Oper)(l:List Oper)(st:St):rh E keep ops (o::l) st=(match guardOf ops st.t o.guard with
  |none=>ae
  |some af=>rh E keep ops l ⟨putDst st.t o.dst (.im (.aG [])),st.h,st.lp,st.df⟩
  |some ag=>bif qJ o then rh E keep ops l ⟨putDst st.t o.dst (.im .dn),st.h,st.lp,st.df⟩
   else bif Of o then ae else match bY E keep (aA st.h) st.t st.h o.op with
    |none=>ae
    |some (v,h)=>rh E keep ops l ⟨putDst st.t o.dst v,h,st.lp,st.df⟩):=rfl
theorem RS(X:Cx):an X (.im (.aG [])) ag [undef]:=by exact⟨#[],[],rfl,by rfl,rfl⟩
theorem lN{n:Nat}(A:n=h.length):aq h n=ae:=by grind[cF]
theorem kJ(A:HR B X O w h):X.M h.length=ae:=by
 cases e:X.M h.length<;>first|exact absurd (A.lt _ _ e) (gE _)|rfl
theorem H2{nt:Nat}{o:Oper}(h:pj nt o=ag):(∀d,o.dst=ab d->d< nt)/\∀x∈o.op.operands.toList,lP x=ag:=by
 unfold pj at h;rw[aM]at h;refine⟨λd e=>?_,λx A=>l9.1 h.2 x A⟩
 simp_all
theorem JB(y:fv F P E)(hF:dk F){keep:Bool}{ops:Array Oper}{cs:List Frame}(J:recoverD cs=ae){nt n:Nat}{Q:Exit->Act->List Frame->World->Prop}:∀(l:List Oper) (i:Nat),ops.toList.drop i=l->(∀o∈l,pj nt o=ag)->
  ∀{B:Nat} {X:Cx} {O:Nat->Addr->Prop} {w:World} {a:Act} {st I:St},SR nt B X O w a st->rh E keep ops l st=ab I->
   (∀X' O' w' z,SR nt B X' O' w' z I->Step B X O w st.h X' O' w' I.h->Q .normal z cs w')->wpOpsSIn F n P ops Q (EF i l.length) a cs w
 |[],i,_,_,B,X,O,w,a,st,I,s,e,j=>by
  have e:ab st=ab I:=e;cases e;exact j X O w a s (.refl _ _ _ _ _)
 |o::l,i,G,U,B,X,O,w,a,st,I,s,e,j=>by
  have hi:ops[i]? =ab o:=by
   have:(ops.toList.drop i)[0]? =ab o:=by simp[G]
   grind
  have d:ops.toList.drop (i+1)=l:=by
   rw[<-tU,G];rfl
  obtain⟨C,M⟩:=H2 (U o (by simp))
  rw[jP,adM];simp only[wpOpsSIn,hi];refine⟨λf _=>hF.fn f,?_⟩
  rw[aoT]at e;cases H:guardOf ops st.t o.guard with
  |none=>grind
  |some b=>
   rw[H]at e;have hw:=M6 s.t H;cases b with
   |false=>
    simp only at e;rw[hw];exact JB y hF J l (i+1) d (λp h'=>U p (by simp[h'])) (s.put C (RS X)) e j
   |true=>
    simp only at e;rw[hw];simp only[if_true];cases A:qJ o with
    |true=>
     rw[A,au]at e;have Z:(execOp a.eval o).run P w=.ok .recover w:=by
      unfold qJ at A;split at A
      .rename_i c N;split at A
       .rename_i q;have r:(resolve a.eval c o.type)=pure {target:=.builtin .recover c.argTypes o.type (c.args.map λ|.const _=>ag|_=>af),args:=c.args.map a.eval}:=by
         unfold resolve;rw[q];rfl
        unfold execOp;rw[N];simp only[r,pure_bind,invoke];rfl
       trivial
      trivial
     rw[Z];simp only[J];exact JB y hF J l (i+1) d (λp h'=>U p (by simp[h'])) (s.put C (by rfl)) e j
    |false=>
     rw[A,ax]at e;cases g:Of o with
     |true=>grind
     |false=>
      rw[g,ax]at e;split at e
      .cases e
      .rename_i v h1 K;rw[bn]at K;obtain⟨x,R,Y,O1,Z,S,q2,L⟩:=wq y.toEnvB s.h (lN rfl) (kJ s.h) (aJ _) s.t M K;have T:=(s.step S L).put C q2;have hk:wpOpsSIn F n P ops Q (EF (i+1) l.length) (a.put o.dst x) cs R:=
        JB y hF J l (i+1) d (λp h'=>U p (by simp[h'])) T e (λX' O' w' z W D=>j X' O' w' z W (L.trans D))
       grind
theorem ahe(f fb n:Nat)(c:Code)(st:St):gY E ih f fb (n+1) c st=(match c with
  |.seq a b=>(match gY E ih f fb n a st with
   |some (.nm,A)=>gY E ih f fb n b A
   |r=>r)
  |.cond c a b=>(match ev st.t c with
   |.im (.bool t)=>bif t then gY E ih f fb n a st else gY E ih f fb n b st
   |_=>ae)
  |.region id ops af=>bif ops.toList.any qJ then(match rh E (E.keep f) ops ops.toList st with
   |some A=>ab (.nm,A)
   |none=>ae)else ih f fb 0 (.region id ops af) st
  |c=>ih f fb 0 c st):=rfl
theorem Ut{nt:Nat}{a:Act}{st:St}(s:SR nt B X O w a st){c:Operand}(A:lP c=ag){t:Bool}(e:ev st.t c=.im (.bool t)):a.eval c=.bool t:=by
 have:=o4 s.t A;rw[e]at this;simp[an,aN]at this;grind
theorem xX(I:iL F P E ih)(x:fv F P E)(hF:dk F){cs:List Frame}(J:recoverD cs=ae){f nt n:Nat}:∀(k:Nat) {c:Code} {st:St} {r:Ex×St},gY E ih f 0 k c st=ab r->codeOk E f nt c=ag->
  ∀{B:Nat} {X:Cx} {O:Nat->Addr->Prop} {w:World} {a:Act},SR nt B X O w a st->c.wpSIn F n P (λe j U w'=>U=cs/\qd nt B X O w st r e j w') a cs w
 |0,_,_,_,e,_,_,_,_,_,_,_=>by cases e
 |k+1,c,st,r,e,Z,B,X,O,w,a,s=>by
  have base:ih f 0 0 c st=ab r->c.wpSIn F n P (λe j U w'=>U=cs/\qd nt B X O w st r e j w') a cs w:=λe=>
   wpSIn_of_wpIn hF.round (wpIn_mono (I.out hF e Z n B X O w a s) λe j w' hp=>⟨rfl,hp⟩)
  rw[ahe]at e;split at e
  .simp [codeOk,aM]at Z;refine wpSIn_seq ?_;split at e
   .rename_i y h1;have L:=xX I x hF J (n:=n) k h1 Z.1 s;intro b M N l p A;obtain⟨z,R,S,T,W,⟨rfl,hex,X1,O1,Y,p1⟩,d⟩:=L b M N l p A;refine⟨z,R,_,T,W,?_,d⟩;cases z<;>simp[jR]at hex;intro b2 kk2 uJ C D g;obtain⟨e2,a2,cs2,w2,lH,⟨G,H,X2,O2,s2,p2⟩,q⟩:=xX I x hF J (n:=n) k e Z.2 Y b2 kk2 uJ C D g;exact⟨e2,a2,cs2,w2,lH,⟨G,H,X2,O2,s2,p1.trans p2⟩,q⟩
   .have L:=xX I x hF J (n:=n) k e Z.1 s;intro b M N l p A;obtain⟨z,R,S,T,W,⟨K,hex,X1,O1,Y,p1⟩,d⟩:=L b M N l p A;refine⟨z,R,_,T,W,?_,d⟩;obtain⟨r1,r2⟩:=r;cases z with
    |normal=>
     cases r1<;>simp[jR]at hex;grind
    |_=>exact⟨K,hex,X1,O1,Y,p1⟩
  .simp [codeOk,aM]at Z;split at e
   .rename_i t ht;have hv:=Ut s Z.1 ht;refine wpSIn_cond hv ?_;cases t with
    |true=>exact xX I x hF J k (by trivial) Z.2.1 s
    |false=>exact xX I x hF J k (by trivial) Z.2.2 s
   trivial
  .rename_i id ops;cases ha:ops.toList.any qJ with
   |false=>grind
   |true=>
    rw[ha]at e;split at e
    .rename_i y h1;cases e;simp only[codeOk,aM]at Z;refine wpSIn_region ?_;have:=JB x hF J (n:=n) (Q:=λe j U w'=>U=cs/\qd nt B X O w st (.nm,y) e j w') ops.toList 0 (by simp) (λo ho=>l9.1 Z.1 o ho) s h1 (λX' O' w' j s' hs=>⟨rfl,trivial,X',O',s',hs⟩)
     grind[adN]
    trivial
  simp[base,e]
end
section
variable {F:Fence} {P:Program} {B:Nat} {X:Cx} {O:Nat->Addr->Prop} {w:World} {h:Heap} {E:Env} {ih:Nat->Nat->Nat->Code->St->Option (Ex×St)}
def Sub(v h:Heap):Prop:=∀b k,aq v b=ab k->aq h b=ab k
theorem HR.view(A:HR B X O w h){v:Heap}(I:Sub v h)(J:v.length=h.length):HR B X O w v:=
 ⟨λb k e=>A.cy b k (I b k e),A.own,A.fj,by simp[J,A.lt],A.ci,A.wb⟩
theorem BR.known{b:Nat}{k:bK}{Q:Addr->Prop}(h:BR X w Q b k):∃bi,X.M b=ab bi:=by
 cases k<;>first|obtain⟨bi,_,_,h,_⟩:=h;exact⟨bi,h⟩|obtain⟨bi,h,_⟩:=h;exact⟨bi,h⟩|rename_i es s c;obtain⟨bi,_,_,_,h,_⟩:=h;exact⟨bi,h⟩|rename_i t e s;obtain⟨bi,_,h,_⟩:=h;exact⟨bi,h⟩|rename_i f t ps bO body;obtain⟨bi,_,_,h,_⟩:=h;exact⟨bi,h⟩|rename_i v a s l;obtain⟨bi,_,_,h,_⟩:=h;exact⟨bi,h⟩
theorem RU(j:HR B X O w h){v Z h':Heap}{X':Cx}{O':Nat->Addr->Prop}{w':World}(l:Sub v h)(d:v.length=h.length)(c:h'.length=Z.length)(A:HR B X' O' w' Z)(st:Step B X O w v X' O' w' Z)
  (h1:∀b k,aq h' b=ab k->(aq h b=ab k/\aq v b=ae)∨aq Z b=ab k) (h2:∀b,aq h' b=ae->aq h b=ae/\aq Z b=ae):
  HR B X' O' w' h'/\Step B X O w h X' O' w' h':=by
 have I:∀b,aq h b=ae->aq v b=ae:=λb e=>by
  cases p:aq v b<;>first|rfl|rename_i k;rw[l b k p]at e;cases e
 refine⟨⟨λb k e=>?_,A.own,A.fj,by simp[c,A.lt],A.ci,A.wb⟩,⟨by rw[<-d];exact st.up,by rw[<-d,c];exact st.len,?_⟩⟩
 .rcases h1 b k e with⟨U,q⟩|U
  .have f:=j.cy b k U;obtain⟨bi,g⟩:=f.known;exact BR.ahD st.fr A.ci g q f (by simp[d,j.lt]) st.up.le
  .exact A.cy b k U
 .refine ⟨λb bi e J=>?_,λb bi e J=>st.fr.M b bi e (I b J),λb bi e J=>st.fr.own b bi e (I b J),λb bi e J=>st.fr.cell b bi e (I b J),λb bi e J=>st.fr.obj b bi e (I b J),λb bi e J=>st.fr.cy b bi e (I b J),λb e=>(h2 b e).1,λb f e J=>st.fr.pQ b (by omega) e (h2 b J).2⟩
  cases r:aq h' b with
  |none=>rfl
  |some k=>
   rcases h1 b k r with⟨U,_⟩|U
   .grind
   .rw [st.fr.eH b bi e (I b J)]at U;cases U
theorem DF.Cn{ds:List Deferred}(d:DF X O w h ds []):ds=[]:=by
 have:=d.1;trivial
def AA(F:Fence)(n:Nat)(P:Program)(B:Nat)(X:Cx)(O:Nat->Addr->Prop)(w:World)(h:Heap)(m:Sem Next)(v:V)(h':Heap):Prop:=
 ∃l f tmps bO body,m.run P w=.ok (.round l f tmps bO body) w/\RoundIn F n P l f tmps bO body w λ
  |.returned x,w'=>rJ B X O w h v h' x w'
  |_,_=>False
theorem AA.upon(hF:dk F){n:Nat}{o:Oper}{a:Act}{K:Act->World->Prop}{Q:Exit->Act->World->Prop}{m:Sem Next}{v:V}{h':Heap}(hm:AA F (n-1) P B X O w h m v h')
  (J:∀x w',rJ B X O w h v h' x w'->K (a.put o.dst x) w'):o.uponIn F n P a K Q (m.run P w):=by
 obtain⟨l,f,tmps,bO,body,A,I⟩:=hm;rw[A];exact⟨hF.room,ac9 I λe w' he=>by grind⟩
theorem Step.round{v G H:Heap}{p K:Cx}{L N:Nat->Addr->Prop}{U d:World}(W:HR B X O w v){b l:Nat}{r f:Loop}(Y:O b ⟨l,0,ae⟩)(hl:w.heap[l]? =ab (.loop r))
  (A:Step B X O w v p L U G) (J:Step B p L (dy U l (.loop f)) G K N d H):Step B X O w v K N (dy d l (.loop r)) H:=by
 have hB:=(W.own b _ Y).1;have s:=A.up.obj l _ hl rfl;have y:(dy U l (.loop f)).heap[l]? =ab (.loop f):=vo s;have z:=J.up.obj l _ y rfl;have l3:(dy d l (.loop r)).heap[l]? =ab (.loop r):=vo z;have z1:=A.up.below.size;refine⟨⟨A.up.le.trans (J.up.le.less A.len),A.up.below.trans ((yR U _ hB).trans (J.up.below.trans (yR d _ hB))),λa u e I=>?_,λq o e lp=>?_⟩,bU A.len J.len,
  ⟨λc ci e I=>J.fr.eH c ci (A.fr.M c ci e I) (A.fr.eH c ci e I),λc ci e I=>J.fr.M c ci (A.fr.M c ci e I) (A.fr.eH c ci e I),λc ci e I a o=>J.fr.own c ci (A.fr.M c ci e I) (A.fr.eH c ci e I) a (A.fr.own c ci e I a o),
   λc ci e I a o u eu=>?_,λc ci e I q o R eo j=>?_,λc ci e I g j hg=>?_,λc e=>A.fr.nL c (J.fr.nL c e),λc S e I=>J.fr.pQ c (eU S A.len) (A.fr.pQ c S e (J.fr.nL c I)) I⟩⟩
 .cases T:p.C a with
  |none=>exact J.up.fresh a u e T
  |some x=>exact A.up.fresh a x T I
 .by_cases Z:q=l
  .grind
  .have h1:=A.up.obj q o e lp;rw[<-fB U (.loop f) Z]at h1;have h2:=J.up.obj q o h1 lp;rw[fB d _ Z];omega
 .obtain ⟨p1,q1⟩:=A.fr.cell c ci e I a o u eu;have D:(dy U l (.loop f)).cell? a=ab u:=by rw[qU s rfl rfl];omega
  obtain⟨p2,q2⟩:=J.fr.cell c ci (A.fr.M c ci e I) (A.fr.eH c ci e I) a (A.fr.own c ci e I a o) u D;rw[qU z rfl rfl,vn z rfl rfl];rw[vn s rfl rfl]at q2;grind
 .by_cases Z:q=l
  .grind
  .have h1:=A.fr.obj c ci e I q o R eo j;rw[<-fB U (.loop f) Z]at h1;have h2:=J.fr.obj c ci (A.fr.M c ci e I) (A.fr.eH c ci e I) q (A.fr.own c ci e I _ o) R h1 j;rw[fB d _ Z];omega
 .by_cases Z:g=l
  .grind
  .have h1:=A.fr.cy c ci e I g j hg;have h2:=J.fr.cy c ci (A.fr.M c ci e I) (A.fr.eH c ci e I) g (λa ea=>A.fr.own c ci e I a (j a ea)) (by grind[vp])
   rw[fB d _ Z,h2,fB U _ Z,h1]
theorem arP(xs:List V)(t:Tm):y4 [] xs t=(match xs with|[]=>ab t|_=>ae):=rfl
theorem anN(p:Nat)(ps:List Nat)(xs:List V)(t:Tm):y4 (p::ps) xs t=(match xs with|[]=>ae|x::xs=>y4 ps xs (t.set p x)):=rfl
theorem aac:∀{ps:List Nat} {xs:List V} {t A:Tm} {tmps:Array Value} {args:List Value},y4 ps xs t=ab A->aZ (λv x=>an X v ag [x]) xs args->TR X t tmps->(∀p∈ps,p< tmps.size)->
  args.length=ps.length/\TR X A ((ps.zip args).foldl (λt (p:Nat×Value)=>t.setIfInBounds p.1 p.2) tmps)/\((ps.zip args).foldl (λt (p:Nat×Value)=>t.setIfInBounds p.1 p.2) tmps).size=tmps.size
 |[],xs,t,A,tmps,args,e,I,J,_=>by
  cases xs with
  |nil=>
   cases e;have:args=[]:=by trivial
   simp_all
  |cons x xs=>cases e
 |p::ps,xs,t,A,tmps,args,e,I,J,hp=>by
  rw[anN]at e;cases xs with
  |nil=>cases e
  |cons x xs=>
   obtain⟨y,U,rfl,h1,h2⟩:=I;obtain⟨Z,q2,c⟩:=aac (tmps:=tmps.setIfInBounds p y) e h2 (J.set (hp p (by simp)) h1) (λq d=>by grind)
   simp_all
theorem ao6(L:iL F P E ih)(hE:fv F P E)(hF:dk F){b:Nat}{xs:List V}{v:V}{h':Heap}(e:wc ih b xs h=ab (v,h'))(s:HR B X O w h){l:Nat}{bi:BI}(hM:X.M b=ab bi)(hb:bi.base=ab ⟨l,0,ae⟩)
  {args:Array Value} (ha:aZ (λv x=>an X v ag [x]) xs args.toList) (n:Nat):AA F n P B X O w h (invoke (.fn (.yield l) #[]) args) v h':=by
 unfold wc at e;split at e
 .rename_i f t ps bO body hk;obtain⟨t0,NX,e⟩:=ay.1 e;split at e
  .rename_i s1 h1;split at e
   .rename_i d1;split at e
    .rename_i y h2;split at e
     .rename_i d2;cases e;have hB:=s.cy b _ hk;obtain⟨bi',l',r,c1,c2,c3,c4,c5,c6,Z⟩:=hB;rw[hM]at c1;cases c1;rw[hb]at c4;cases c4;obtain⟨g1,g2⟩:=(hE.gh _ _ _).1 Z.k1;obtain⟨g3,g4⟩:=(hE.gh _ _ _).1 Z.k2;obtain⟨z1,z2,z3⟩:=aac (args:=args.toList) NX ha Z.qt Z.qlt;have pa:args.size=r.params.size:=by
       have:=congrArg List.length Z.Qc;simp at this;simp at z1;omega
      have D:((r.params.zip args).foldl (λtmps (t,a)=>tmps.setIfInBounds t a) r.tmps)=((ps.zip args.toList).foldl (λt (p:Nat×Value)=>t.setIfInBounds p.1 p.2) r.tmps):=by
       rw[<-Array.foldl_toList,Array.toList_zip,Z.Qc]
      have hy:(invoke (.fn (.yield l) #[]) args).run P w=.ok (.round l r.fn ((r.params.zip args).foldl (λtmps (t,a)=>tmps.setIfInBounds t a) r.tmps) r.assign r.body) w:=by
       show(Instr.yield l args).run P w=_;exact run_yield c5 pa
      rw[D]at hy;generalize hT:((ps.zip args.toList).foldl (λt (p:Nat×Value)=>t.setIfInBounds p.1 p.2) r.tmps)=tm0 at hy z2 z3
      refine⟨l,r.fn,_,_,_,hy,?_⟩;refine roundIn_of_wpIn (hF.fn _) ?_;rw[Z.aak,Z.aal];have hbl:=dI hk;have d:∀c k,aq (bB h b ae) c=ab k->aq h c=ab k/\c≠b:=λc k A=>by
       rw[dR,cF,wZ]at A;by_cases I:b=c
       .subst I;simp at A;split at A<;>simp at A
       .rw [az I]at A;exact⟨by rw[cF];exact A,EP I⟩
      have J:aq (bB h b ae) b=ae:=by
       cases A:aq (bB h b ae) b with
       |none=>rfl
       |some k=>exact absurd rfl (d b k A).2
      have G:∀c,aq (bB h b ae) c=ae->c=b∨aq h c=ae:=λc A=>by
       by_cases I:c=b
       .exact .inl I
       .right;rw[dR,cF,wZ,az (EP I)]at A;rw[cF];exact A
      have U:(bB h b ae).length=h.length:=by rw[dR,hV]
      have hv:HR B X O w (bB h b ae):=⟨λc k A=>s.cy c k (d c k A).1,s.own,s.fj,by rw[U];exact s.lt,s.ci,s.wb⟩
      have sr0:SR r.tmps.size B X O w {tmps:=tm0,defers:=[]} ⟨t0,bB h b ae,[],[]⟩:=⟨z2,z3,hv,⟨aZ.nil,SH⟩,rfl⟩;refine wpIn_mono (L f 1 0 bO _ _ h1 _ g1 n B X O w _ sr0 (ab l) ⟨by decide,g2,r,c5⟩) λe1 a1 w1 ⟨hex,X1,O1,g,N⟩=>?_
      cases e1<;>simp only[jR]at hex;have l1:=N.up.obj l _ c5 rfl;refine⟨_,run_beginRound l1 Z.Qd,?_⟩;have ye:a1.defers=[]:=DF.Cn (by have:=g.df;rw[d1]at this;exact this)
      have H:=N.fr.M b _ hM J;have R:=N.fr.own b _ hM J _ c6;have j:=N.fr.eH b _ hM J;have S:∀c k,aq s1.h c=ab k->¬O1 c ⟨l,0,ae⟩:=λc k A o=>by
       have:=g.h.fj c b _ o R;subst this;rw[j]at A;cases A
      have sn:HR B X1 O1 (dy w1 l (.loop {r with state:=.busy})) s1.h:=g.h.obj l1 rfl rfl S;have sr1:SR r.tmps.size B X1 O1 (dy w1 l (.loop {r with state:=.busy})) a1 ⟨s1.t,s1.h,[],[]⟩:=⟨g.t,g.n,sn,by rw[ye];exact⟨aZ.nil,SH⟩,rfl⟩
      have T:(dy w1 l (.loop {r with state:=.busy})).heap[l]? =ab (.loop {r with state:=.busy}):=vo l1;refine wpIn_mono (L f 1 0 body _ _ h2 _ g3 n B X1 O1 _ _ sr1 (ab l) ⟨by decide,g4,_,T⟩) λe2 a2 w2 ⟨W,X2,O2,Y,p2⟩=>?_
      cases e2<;>simp only[jR]at W;have l2:=p2.up.obj l _ T rfl;have z:=run_endRound (P:=P) ae l2;have K:({({r with state:=.busy}:Loop)with state:=if(ae:Option Code).isNone then .ready else .done,pending:=ae}:Loop)=r:=by
       have q1:=Z.Qd;have q2:=Z.aam;cases r;simp_all
      rw[K]at z;refine⟨_,_,z,?_⟩;have M7:=p2.fr.M b _ H j;have o8:=p2.fr.own b _ H j _ R;have hh2:=p2.fr.eH b _ H j;have aiw:∀c k,aq y.h c=ab k->¬O2 c ⟨l,0,ae⟩:=λc k A o=>by
       have:=Y.h.fj c b _ o o8;subst this;rw[hh2]at A;cases A
      have GJ:HR B X2 O2 (dy w2 l (.loop r)) y.h:=Y.h.obj l2 rfl rfl aiw;have q:Step B X O w (bB h b ae) X2 O2 (dy w2 l (.loop r)) y.h:=Step.round hv c6 c5 N p2;have C:b<=y.h.length:=by have:=q.len;rw[U]at this;omega
      have ait:b< y.h.length:=by have:=q.len;rw[U]at this;omega
      obtain⟨u1,u2⟩:=RU (h':=aD y.h b (.lp f t ps bO body)) s (λc k A=>(d c k A).1) U (by rw[bL,aK ait]) GJ q (λc k A=>by
       rw[bG y.h b c _ C]at A;by_cases I:c=b
       .rw [aK I]at A;cases A;subst I;exact .inl ⟨hk,J⟩
       .rw [az I]at A;exact .inr A) (λc A=>by
       rw[bG y.h b c _ C]at A;by_cases I:c=b
       .rw [aK I]at A;cases A
       .rw [az I]at A;exact⟨(G c (q.fr.nL c A)).resolve_left I,A⟩)
      exact⟨X2,O2,u1,by simp[an,aN],u2⟩
     trivial
    trivial
   trivial
  trivial
 trivial
end
section
variable {F:Fence} {P:Program} {B:Nat} {X:Cx} {O:Nat->Addr->Prop} {w:World} {h:Heap} {E:Env} {ih:Nat->Nat->Nat->Code->St->Option (Ex×St)}
theorem apd A d df h lp:js E ih A (d::df) h lp=bif kE d then bif bp A d.1 then js E ih A df h lp else ae else match th E ih d.1 d.2 h lp with
  |some (fn,st)=>match st.df with
   |[]=>match kV E st.h fn st.t with
    |some _=>js E ih A df st.h st.lp
    |none=>ae
   |_=>ae
  |none=>ae:=rfl
theorem aZ.put{b D:Nat}{o:Obj}:∀{df:List (Nat×List V)} {ds:List Deferred},aZ (K2 X O w h) df ds->(∀d∈ds,d.target≠.collected D)->aZ (K2 X O (dy w D o) h) df ds
 |[],_,r,_=>by trivial
 |p::df,_,r,A=>by
  obtain⟨d,J,rfl,U,Z⟩:=r;refine aZ.cons (U.elim (λ⟨hm,c,bi,I,l,f⟩=>.inl ⟨hm,c,bi,I,?_,f⟩) λg=>.inr g) (aZ.put (b:=b) Z λd j=>A d (by simp[j]))
  rw[fB w o λe=>A d (by simp) (by rw[I,e])];omega
theorem Step.obj{X0:Cx}{U:Nat->Addr->Prop}{j:World}{Z:Heap}(s:Step B X0 U j Z X O w h)(p:HR B X O w h){b D:Nat}{d o:Obj}(x:O b ⟨D,0,ae⟩)(G:X0.M b=ae)(y:w.heap[D]? =ab d)(h1:d.isCells=af)(h2:o.isCells=af)
  (h3:Obj.lp d=af):Step B X0 U j Z X O (dy w D o) h:=by
 have J:∀c ci,X0.M c=ab ci->aq Z c=ae->∀g,U c ⟨g,0,ae⟩->g≠D:=λc ci e A g I f=>by
  subst f;have:=p.fj c b _ (s.fr.own c ci e A _ I) x;grind
 refine⟨⟨s.up.le,s.up.below.trans (yR w o (p.own b _ x).1),s.up.fresh,λr q e l=>?_⟩,s.len,⟨s.fr.eH,s.fr.M,s.fr.own,λc ci e A a I v ev=>?_,λc ci e A r I q eq z=>?_,λc ci e A g I f=>?_,s.fr.nL,s.fr.pQ⟩⟩
 .have:=s.up.obj r q e l;rw[fB w o λC=>by grind];omega
 .rw [qU y h1 h2,vn y h1 h2];exact s.fr.cell c ci e A a I v ev
 .rw [fB w o (J c ci e A r I)];exact s.fr.obj c ci e A r I q eq z
 .rw [fB w o (J c ci e A g (I _ rfl))];exact s.fr.cy c ci e A g I f
theorem Mi(z:iL F P E ih)(hE:fv F P E)(hF:dk F){fn:Func}{tmps:Array Value}{t:Tm}{R:Ending->World->Prop}{B:Nat}{X0:Cx}{O0:Nat->Addr->Prop}{w0:World}{h0:Heap}(C:X0.lt h0.length):∀df {n:Nat} {X:Cx} {O:Nat->Addr->Prop} {w:World} {h h2:Heap} {lI:List Rec} {ds:List Deferred},
  js E ih h0.length df h []=ab (h2,lI)->DF X O w h ds df->HR B X O w h->Step B X0 O0 w0 h0 X O w h->TR X t tmps->
  (∀X' O' w',HR B X' O' w' h2->TR X' t tmps->Step B X0 O0 w0 h0 X' O' w' h2->∃v,(results fn tmps).run P w'=.ok v w'/\R (.returned v) w')->LeavesInM F n P fn tmps R ds .returning w/\lI=[]
 |[],n,X,O,w,h,h2,lI,ds,e,hd,p,j,ht,hR=>by
  have e:ab (h,([]:List Rec))=ab (h2,lI):=e;cases e;have:=DF.Cn hd;subst this;exact⟨hR X O w p ht j,rfl⟩
 |d::df,n,X,O,w,h,h2,lI,ds,e,hd,p,j,ht,hR=>by
  rw[apd]at e;obtain⟨⟨dd,Mn,rfl,hdd,U⟩,hpw⟩:=hd;obtain⟨aiD,q⟩:=ED.1 hpw;rcases hdd with⟨hm,D,bi,I,hD,hM,ary,hO⟩|⟨hm,cap,I,G⟩
  ·-- the mark of a loop
   rw[hm,au]at e;obtain⟨hle,e⟩:=aQ e;have hb0:X0.M d.1=ae:=by
    cases hx:X0.M d.1<;>first|have:=C _ _ hx;have:=nY hle;omega|rfl
   have NH:∀b k,aq h b=ab k->¬O b ⟨D,0,ae⟩:=λb k hk ho=>by
    have:=p.fj b d.1 _ ho hO;grind
   obtain⟨q1,q2⟩:=Mi z hE hF (fn:=fn) (t:=t) (tmps:=tmps) (R:=R) C df (n:=n) e ⟨aZ.put (b:=0) (o:=.deferred ae) U λd' Nn=>aiD d' Nn D I,q⟩ (p.obj hD rfl rfl NH) (j.obj p hO hb0 hD rfl rfl rfl) ht hR
   exact⟨⟨by simp,.inl ⟨D,_,I,run_takeDeferred hD,q1⟩⟩,q2⟩
  rw[hm,ax]at e;split at e
  .rename_i Z st BQ;split at e
   .rename_i uK;split at e
    .rename_i rv hrv;obtain⟨c,r,Gy,A,ah7,hx,hrr⟩:=apa BQ;obtain⟨o9,H,K⟩:=hE.fn _ _ Gy;have hs:=Rs (X:=X) p G ah7;obtain⟨dt,T⟩:=dd;subst I;have hinv:(invoke (Target.fn (.func d.1) cap) T).run P w=.ok (.enter d.1 (T++cap)) w:=by
      show(callFunc d.1 (T++cap)).run P w=_;simp[ql,o9,A,H]
     have L:∀(W:Cx) Y (f:World) (l:Act) (s:Exit),jR r s->SR Z.ntmps B W Y f l st->Step B X O w h W Y f st.h->
       l.defers=[]/\(∃v,(results Z l.tmps).run P f=.ok v f)/\LeavesInM F n P fn tmps R Mn .returning f/\lI=[]:=λW Y f l s hex x p1=>by
      have N:l.defers=[]:=DF.Cn (by have:=x.df;rw[uK]at this;omega)
      obtain⟨v,hv,_⟩:=JE hE.toEnvTy x.h x.t hrv;have BN:=x.lp;rw[BN]at e;have arD:=Mi z hE hF (fn:=fn) (t:=t) (tmps:=tmps) (R:=R) C df (n:=n) e (DF.step p.lt p1 ⟨U,q⟩) x.h (j.trans p1) (ht.mono p.lt p1.up.le) hR;grind
     have WI:∀(y:Frame) (cs:List Frame),y.mode=.returning->c.wpSIn F (n-1) P (λe a' Uu w'=>Uu=y::cs/\qd Z.ntmps B X O w ⟨gP Z.ntmps d.2,h,[],[]⟩ (r,st) e a' w') {tmps:=(T++cap)++oE (Z.ntmps-(T++cap).size) undef,defers:=[]} (y::cs) w:=λy cs hu=>
      xX z hE hF (by simp[recoverD,hu]) (n:=n-1) 64 hx (K c A) hs
     have J:∀k,F.room k:=λk d hd=>by grind[hF.depth]
     have ais:lI=[]:=by
      obtain⟨s,l,cs1,f,_,⟨_,hex,W,Y,x,p1⟩,_⟩:=WI {(default:Frame)with mode:=.returning} [] rfl {(default:Frame)with kind:=.deferred,roundOf:=ae} [] rfl rfl (hF.fn _) (J _);grind
     refine⟨⟨by simp,.inr ⟨hF.room,_,cap,d.1,T++cap,rfl,hinv,λg _=>hF.fn g,?_⟩⟩,ais⟩
     refine callsDIn_of_wpSIn o9 A (hF.fn _) λy cs hu=>?_
     intro b kk hb uV hFn S;obtain⟨s,l,cs1,f,hl,⟨rfl,hex,W,Y,x,p1⟩,ah4⟩:=WI y cs hu b kk hb uV hFn S;refine⟨s,l,_,f,hl,?_,ah4⟩;obtain⟨N,⟨v,hv⟩,Wj,_⟩:=L W Y f l s hex x p1;have VV:({y with mode:=FrameMode.returning}:Frame)=y:=by rw[<-hu]
     rcases hrr with rfl|rfl
     .cases s<;>simp only[jR]at hex;exact⟨N,.returning,by rw[VV],v,hv,Wj⟩
     .cases s<;>simp only[jR]at hex;exact⟨N,.returning,by rw[VV],v,hv,Wj⟩
    trivial
   trivial
  trivial
theorem aa4{F:Fence}(hF:dk F) k:F.room k:=λd A=>by grind[hF.depth]
theorem aqO{n:Nat}(hF:dk F){c:Code}{Q:Exit->Act->World->Prop}{a:Act}(hw:c.wpIn F n P Q a w):∃e A w',Q e A w':=by
 obtain⟨e,A,w',q,_⟩:=hw {(default:Frame)with roundOf:=ae} [] [] hF.round.symm (hF.fn _) (aa4 hF _);grind
theorem GV(z:iL F P E ih)(H:fv F P E)(hF:dk F){f:Nat}{args:List V}{v:V}{h':Heap}{j:List Rec}(e:gp E ih f args h []=ab (v,h',j))(W:HR B X O w h){xs:Array Value}(ha:aZ (λv x=>an X v ag [x]) args xs.toList):
  j=[]∧(∃fn c,P.funcs[f]? =some fn∧fn.body=some c∧(fn.name== "runtime.NumGoroutine")=false)∧∀n,ub F n P f xs w (rJ B X O w h v h'):=by
 unfold gp at e;split at e
 .rename_i fn st C;obtain⟨c,r,K,A,D,hx,L⟩:=aa9 C;obtain⟨G,l,p⟩:=H.fn _ _ K;have hs:=Rs (X:=X) W ha D;let R:Ending->World->Prop:=λ|.returned x,w'=>rJ B X O w h v h' x w'|_,_=>False
  have I:∀n U Z d g,SR fn.ntmps B U Z d g st->Step B X O w h U Z d st.h->LeavesInM F n P fn g.tmps R g.defers .returning d/\j=[]:=λn U Z d g J q=>by
   split at e
   .rename_i M;obtain⟨v',N,e⟩:=bu.1 e;cases e;have S:=DF.Cn (by have:=J.df;rw[M]at this;omega)
    obtain⟨x,s,y⟩:=JE H.toEnvTy J.h J.t N;rw[S];exact⟨⟨x,s,U,Z,J.h,y,q⟩,J.lp⟩
   .obtain ⟨hl,Y,e⟩:=ay.1 e;obtain⟨v',N,e⟩:=bu.1 e;cases e;rw[J.lp,bn]at Y;exact Mi z H hF W.lt _ (n:=n) Y J.df J.h q J.t λX' O' w' q1 q2 q3=>by
     obtain⟨x,s,y⟩:=JE H.toEnvTy q1 q2 N;exact⟨x,s,X',O',q1,y,q3⟩
  have hw:=λn=>
   z.out hF hx (p c A) n B X O w _ hs
  refine⟨?_,⟨fn,c,G,A,l⟩,λn=>?_⟩
  .obtain ⟨T,g,d,hex,U,Z,J,q⟩:=aqO hF (hw 0);exact(I 0 U Z d g J q).2
  .have:=callsIn_of_wp_marks (F:=F) (n:=n) (P:=P) (R:=R) G A (hF.fn f) (wpIn_mono (hw n) λT g d ⟨hex,U,Z,J,q⟩=>by
    rcases L with rfl|rfl
    .cases T<;>simp[jR]at hex;exact(I n U Z d g J q).1
    .cases T<;>simp[jR]at hex;exact(I n U Z d g J q).1) hF.round
   trivial
 trivial
theorem aqB{C:IV}{M:Nat->Option BI}{L:Nat->Option Nat}{ds:List D}{xs:List Value}(h:aZ (λd x=>aN C d ag [x]) ds xs):aZ (λv x=>an ⟨C,M,L⟩ v ag [x]) (jj ds) xs:=by
 rw[mC];exact aZ.Hs.1 (h.imp λd x r=>by trivial)
theorem Bf(U:iL F P E ih)(s:fv F P E)(hF:dk F){f:Nat}{ds:List D}{d:D}(e:oX E ih f ds=ab d):
  (∃fn c,P.funcs[f]? =some fn∧fn.body=some c∧(fn.name== "runtime.NumGoroutine")=false)∧ud F P f ds d:=by
 obtain⟨⟨v,h',y⟩,he,z⟩:=ay.1 e;have key:∀C w args,CI C w→aZ _ ds _→(∃fn c,P.funcs[f]? =some fn∧fn.body=some c∧(fn.name== "runtime.NumGoroutine")=false)∧∀n,ub F n P f args w λx w'=>∃C',C.le C'∧CI C' w'∧Below _ w w'∧(∀a v,C' a=some v→C a=none→w.heap.size≤a.block)∧aN C' d _ _:=λC w args I Z=>by
  let X:Cx:=⟨C,λ_=>ae,λ_=>ae⟩
  have G:HR _ X (λ_ _=>False) w []:=⟨λb k e=>by trivial,λ_ _ h=>h.elim,λ_ _ _ h=>h.elim,λ_ _ e=>(by cases e),I,aJ _⟩
  obtain⟨_,H,K⟩:=GV U s hF he G (aqB Z);refine⟨H,λn=>(K n).mono λx w' ⟨X',O',g,q2,j⟩=>?_⟩
  have A:=g.ci;refine⟨lA _ X' w',j.up.le.C.trans (TM A),AP A,j.up.below,λa v e L=>?_,qu g (xw g) z (λ_ _=>trivial) q2⟩
  unfold lA at e;split at e
  .omega
  .exact j.up.fresh a v e L
 refine⟨?_,λn C w args I Z=>(key C w _ I Z).2 n⟩
 unfold gp at he;split at he
 .rename_i fn st J;obtain⟨c,r,l,p,_,_,_⟩:=aa9 J;obtain⟨M,q,_⟩:=s.fn _ _ l;grind
 trivial
theorem Me(A:iL F P E ih)(I:fv F P E)(hF:dk F){f:Nat}{ds:List D}{d:D}(e:fY E ih f ds=ab d):
  (∃fn c,P.funcs[f]? =some fn∧fn.body=some c∧(fn.name== "runtime.NumGoroutine")=false)∧ud F P f ds d:=by
 unfold fY at e;split at e
 .rename_i S J;split at e
  .obtain ⟨h1,h2⟩:=I.sm _ _ J;grind
  .exact Bf A I hF e
 .exact Bf A I hF e
theorem Za{l:List V}(h:V.j0 l=[]):∀v∈l,∀b∈v.owns,False:=λv A b I=>by
 have:=ZL A I;grind
theorem af0(s:iL F P E ih)(W:fv F P E)(hF:dk F){f:Nat}{args:List V}{v:V}{h':Heap}{d:List Rec}(e:oT E ih f args h []=ab (v,h',d))(Z:HR B X O w h){xs:Array Value}(H:aZ (λv x=>an X v ag [x]) args xs.toList):
  d=[]/\∀n,e9 F n P B X O w h (callFunc f xs) v h':=by
 have inl:gp E ih f _ h []=ab _->d=[]/\∀n,e9 F n P B X O w h _ v h':=λe=>by
  obtain⟨h1,⟨fn,c,g,J,L⟩,h2⟩:=GV s W hF e Z H;exact⟨h1,λn=>.inr ⟨f,xs,ql g J L xs,h2 n⟩⟩
 unfold oT at e;cases y:E.inl f with
 |true=>grind
 |false=>
  rw[y,ax]at e;split at e
  .rename_i ds j;obtain⟨r,M,e⟩:=ay.1 e;obtain⟨⟨fn,c,g,J,L⟩,I⟩:=Me s W hF M;have U:=ql (w:=w) g J L xs;split at e
   .rename_i N;cases e;refine⟨rfl,λn=>.inr ⟨f,xs,U,?_⟩⟩
    have hS:qe X w h _ λ_=>False:=⟨.refl _,λb bi a0 J=>J.elim⟩
    have A:=xL Z hS j (λv R b J=>Za N v R b J) H
    refine(I n _ w xs Z.ci A).mono λx w' ⟨C',K,q2,z,q4,S⟩=>?_
    obtain⟨D,G⟩:=M5 Z K q2 z q4;exact⟨X.gx C',O,D,by trivial,G⟩
   .cases l:r.flat with
    |true=>
     rw[l]at e;cases e;refine⟨rfl,λn=>.inr ⟨f,xs,U,?_⟩⟩
     have A:=xL Z (xw Z) j (λ_ _ _ _=>trivial) H
     refine(I n _ w xs (AP Z.ci) A).mono λx w' ⟨C',K,q2,z,q4,S⟩=>?_
     obtain⟨D,G⟩:=Gp Z z;exact⟨X,O,D,by exact r.Bq _ _ l S,G⟩
    |false=>
     rw[l]at e;obtain⟨p,e⟩:=aQ e;cases e;refine⟨rfl,λn=>.inr ⟨f,xs,U,?_⟩⟩
     obtain⟨C,Y,k1,k2,k3,k4,k5,k6,k7,k8,k9⟩:=xE _ Z p;have q:=A6 p k2 k7;have A:=xL Z q j (λv R b J=>ZL R J) H
     have T:Step B X O w h _ Y w _:=⟨Up.gx _ k2 k4,by omega,A5 p (λb J=>(k8 b).2 J) (λb=>(k8 b).1) k9⟩
     refine(I n C w xs k3 A).mono λx w' ⟨C',K,q2,z,q4,S⟩=>?_
     obtain⟨D,G⟩:=M5 k1 K q2 z q4;exact⟨_,Y,D,by trivial,T.trans G⟩
  simp[inl,e]
theorem afW(J:iL F P E ih)(U:fv F P E)(hF:dk F){aw g:Nat}{args:List V}{v:V}{h':Heap}{I:List Rec}(e:ux E ih aw g args h []=ab (v,h',I))(Z:HR B X O w h)(j:aq h aw=ae)(l:X.M aw=ae)(c:aw<=h.length)
  {xs:Array Value} (d:aZ (λv x=>an X v ag [x]) args xs.toList):I=[]/\∀n,e9 F n P B X O w h (callFunc g xs) v h':=by
 have A:∀{r:R},lift [] r=ab _->I=[]/\r=ab (v,h'):=λ{r} e=>by
  cases r<;>first|rename_i x;have e:ab (x.1,x.2,([]))=ab (v,h',I):=e;grind|cases e
 unfold ux at e;split at e
 .rename_i sz f;obtain⟨h1,h2⟩:=A e;exact⟨h1,λn=>U.clone g sz f n B X O w h Z _ xs d _ j l c v h' h2⟩
 .split at e
  .exact af0 J U hF e Z d
  .rename_i p;obtain⟨h1,h2⟩:=A e;exact⟨h1,λn=>U.ext g (λq=>p q) n B X O w h Z _ xs d v h' h2⟩
theorem Ka(W:fv F P E){t:Tm}{a:Act}(z:TR X t a.tmps){c:Call}(C:∀x∈c.operands.toList,lP x=ag){g:Nat}{xs:List V}(e:target E t c=ab (g,xs)) ty:
  ∃args:Array Value,aZ (λv x=>an X v ag [x]) xs args.toList/\∀w,(do let d<-resolve a.eval c ty;invoke d.target d.args).run P w=(callFunc g args).run P w:=by
 have U:(∀x∈c.args.toList,lP x=ag):=λx hx=>C x (by grind[jN])
 have Z:=FU z U;have J:∀{l:List V} {j:List _},bF X l ag j->aZ (λv x=>an X v ag [x]) l j.flatten:=by
  intro l;induction l with
  |nil=>simp[bF,aZ.nil]
  |cons v l ih=>
   intro j h;obtain⟨ws,r,rfl,h1,h2⟩:=h;obtain⟨y,rfl⟩:=an.single h1;exact aZ.cons h1 (ih h2)
 unfold target at e;split at e
 .cases e
 .rename_i f A;have hf:=o4 z (C f (by simp[jN,A]))
  split at e
  .rename_i D as cap q;cases e;rw[q]at hf;obtain⟨fs,cs,w1,w2,G,h1,h2,h3,Y⟩:=hf;refine⟨(fs++c.args.map a.eval)++cs,?_,λw=>?_⟩
   .have N:=J h1;have R:=J h3;rw[<-h2]at N;rw[<-Y]at R;simp only[nO,mc];exact N.app (Z.app R)
   .have I:resolve a.eval c ty=pure {target:=.fn (.func g) cs,args:=fs++c.args.map a.eval}:=by
     unfold resolve;rw[A];show Ei _ _=_;rw[(tT G).1];rfl
    simp only[I];rfl
  .rename_i D q;cases e;rw[q]at hf;refine⟨(#[]++c.args.map a.eval)++#[],by simpa using Z,λw=>?_⟩
   have I:resolve a.eval c ty=pure {target:=.fn (.func g) #[],args:=#[]++c.args.map a.eval}:=by
    unfold resolve;rw[A];show Ei _ _=_;rw[(tT hf).1];rfl
   simp[I];rfl
  trivial
 .rename_i r nm A;have S:=o4 z (C r (by simp[jN,A]))
  have H:∀{u:Nat} {y:Value} {v:V},a.eval r=.iface u y->an X v ag [y]->E.qM u nm=ab g->xs=v::dm t c.args->
    ∃args:Array Value,aZ _ xs args.toList/\∀w,(do let d<-resolve a.eval c ty;invoke d.target d.args).run P w=(callFunc g args).run P w:=λ{u y v} K T hm L=>by
   subst L;refine⟨#[y]++c.args.map a.eval,?_,λw=>?_⟩
   .rw [nO];exact aZ.cons T Z
   .have I:resolve a.eval c ty=pure {target:=.fn (.method nm) #[],args:=#[a.eval r]++c.args.map a.eval}:=by
     simp[resolve,A]
    have M:=W.qM u nm g hm y w;have p:(#[SA u y]++c.args.map a.eval)[0]? =ab (.iface u y):=by
     grind
    have s:(#[SA u y]++c.args.map a.eval).extract 1 (#[SA u y]++c.args.map a.eval).size=c.args.map a.eval:=by
     simp
    simp only[I,pure_bind,invoke,K,p,s,callMethod,program];simp[Sem.run,M]
  split at e
  .rename_i u v q;obtain⟨D,hm,e⟩:=bu.1 e;grind[an]
  .rename_i u d q;obtain⟨D,hm,e⟩:=bu.1 e;cases e;rw[q]at S;obtain⟨y,G,T⟩:=S;exact H (tT G).1 (by trivial) hm rfl
  trivial
theorem e9.upon(hF:dk F){n:Nat}{o:Oper}{a:Act}{K:Act->World->Prop}{Q:Exit->Act->World->Prop}{m:Sem Next}{v:V}{h':Heap}(hm:e9 F (n-1) P B X O w h m v h')
  (I:∀x w',rJ B X O w h v h' x w'->K (a.put o.dst x) w'):o.uponIn F n P a K Q (m.run P w):=by
 rcases hm with⟨x,w',X',O',A,J,q2,U⟩|⟨f,args,A,Z⟩
 .rcases A with A|⟨A,rfl⟩<;>rw[A]
  .exact I _ _ ⟨X',O',J,q2,U⟩
  .exact I _ _ ⟨X',O',J,q2,U⟩
 .rw [A];exact⟨hF.room,wK Z λe w' he=>by grind⟩
theorem e9.Zt{n:Nat}{m A:Sem Next}{v:V}{h':Heap}(hm:e9 F n P B X O w h m v h')(e:A.run P w=m.run P w):e9 F n P B X O w h A v h':=by
 simp_all[e9,xk,e]
theorem anc(Z:iL F P E ih)(z:fv F P E)(hF:dk F){keep:Bool}{aw:Nat}{st:St}{nt:Nat}{a:Act}(s:SR nt B X O w a st){o:Oper}(C:∀x∈o.op.operands.toList,lP x=ag)(N:aq st.h aw=ae)(S:X.M aw=ae)(j:aw<=st.h.length){v:V}{h':Heap}{I:List Rec}
  (e:(match o.op with
    |.call c=>match c.callee with
     |.builtin _=>lift st.lp (bY E keep aw st.t st.h o.op)
     |_=>jW E ih aw st.t c st.h st.lp
    |op=>lift st.lp (bY E keep aw st.t st.h op))=ab (v,h',I)):I=[]/\∀n,e9 F n P B X O w st.h (execOp a.eval o) v h'∨AA F n P B X O w st.h (execOp a.eval o) v h':=by
 have A:∀{r:R},lift st.lp r=ab _->I=[]/\r=ab (v,h'):=λ{r} e=>by
  rw[s.lp]at e;cases r<;>first|rename_i x;have e:ab (x.1,x.2,([]:List Rec))=ab (v,h',I):=e;grind|cases e
 have plain:lift _ (bY E keep _ _ _ _)=ab _->I=[]/\∀n,e9 F n P B X O w _ _ v h'∨AA F n P B X O w st.h (execOp a.eval o) v h':=λe=>by
  obtain⟨h1,h2⟩:=A e;exact⟨h1,λn=>.inl<| .inl (wq z.toEnvB s.h N S j s.t C h2)⟩
 split at e
 .rename_i c J;split at e
  .grind
  .have hex:execOp a.eval o=(do let d<-resolve a.eval c o.type;invoke d.target d.args):=by simp[execOp,J]
   unfold jW at e;split at e
   ·-- a D yield
    rename_i b xs G;obtain⟨h1,h2⟩:=A e;refine⟨h1,λn=>.inr ?_⟩
    rw[hex];unfold pU at G;split at G
    .rename_i f U;split at G
     .rename_i b' H;cases G;have hf:=o4 s.t (C f (by simp[J,bq,jN,U]))
      rw[H]at hf;obtain⟨l,W,bi,Y,e3,e4⟩:=hf;have K:=FU s.t (l:=c.args) λx L=>C x (by rw[J];simp only[bq,jN,nO,cB];exact .inr L)
      have p:resolve a.eval c o.type=pure {target:=.fn (.yield l) #[],args:=#[]++c.args.map a.eval}:=by
       unfold resolve;rw[U];show Ei _ _=_;rw[(tT W).1];rfl
      simp only[p];have q:(#[]++c.args.map a.eval)=c.args.map a.eval:=by simp
      rw[q];exact ao6 Z z hF h2 s.h Y e3 K n
     trivial
    trivial
   obtain⟨⟨g,xs⟩,y,e⟩:=ay.1 e;rw[s.lp]at e;obtain⟨args,K,T⟩:=Ka z s.t (c:=c) (λx L=>C x (by rw[J];exact L)) y o.type
   obtain⟨h1,h2⟩:=afW Z z hF e s.h N S j K;refine⟨h1,λn=>.inl ((h2 n).Zt ?_)⟩
   grind
 simp[plain,e]
theorem ZC(G:iL F P E ih)(hE:fv F P E)(hF:dk F){keep:Bool}{ops:Array Oper}{aw:Nat}{st I:St}{nt n:Nat}{a:Act}{o:Oper}(e:ee E ih keep ops aw o st=ab I)(s:SR nt B X O w a st)(H:pj nt o=ag)(hn:aq st.h aw=ae)(hM:X.M aw=ae)(L:aw<=st.h.length)
  {K:Act->World->Prop} {Q:Exit->Act->World->Prop} (N:∀X' O' w' a',SR nt B X' O' w' a' I->Step B X O w st.h X' O' w' I.h->K a' w'):
  if rF o (yielded ops a.tmps)=ag then o.wpIn F n P a w K Q else(∀f,o.about P w a.eval=ab f->F.fn f)/\K (a.put o.dst undef) w:=by
 obtain⟨R,S⟩:=H2 H;unfold ee at e;cases hg:guardOf ops st.t o.guard with
 |none=>grind
 |some b=>
  rw[hg]at e;have hw:=M6 s.t hg;cases b with
  |false=>
   cases e;rw[hw]
   exact⟨λf _=>hF.fn f,N X O w _ (s.put R (RS X)) (.refl _ _ _ _ _)⟩
  |true=>
   simp at e;rw[hw];refine⟨λf _=>hF.fn f,?_⟩
   rw[hF.round,ac5];split at e
   ·-- a deferred call
    rename_i c U;split at e
    .rename_i f J;split at e
     .rename_i g T cap W;obtain⟨Y,e⟩:kE (g,T++(dm st.t c.args++cap))=af/\ab (⟨putDst st.t o.dst .undef,st.h,st.lp,(g,T++(dm st.t c.args++cap))::st.df⟩)=ab I:=by
       grind
      cases e;have hf:=o4 s.t (S f (by simp[U,bq,jN,J]))
      rw[W]at hf;obtain⟨fs,cs,w1,w2,e1,h1,h2,h3,h4⟩:=hf;have ky:=FU s.t (l:=c.args) λx hx=>S x (by rw[U];simp only[bq,jN,nO,cB];exact .inr hx)
      have d:resolve a.eval c o.type=pure {target:=.fn (.func g) cs,args:=fs++c.args.map a.eval}:=by
       unfold resolve;rw[J];show Ei _ _=_;rw[(tT e1).1];rfl
      have j:(execOp a.eval o).run P w=.ok (.defer {target:=.fn (.func g) cs,args:=fs++c.args.map a.eval}) w:=by
       simp[execOp,U,d]
      rw[j];have A:∀{l:List V} {Z:List _},bF X l ag Z->aZ (λv x=>an X v ag [x]) l Z.flatten:=by
       intro l;induction l with
       |nil=>simp[bF,aZ.nil]
       |cons v l ih=>
        intro Z h;obtain⟨ws,r,rfl,h1,h2⟩:=h;obtain⟨y,rfl⟩:=an.single h1;exact aZ.cons h1 (ih h2)
      have z:=A h1;have p:=A h3;rw[<-h2]at z;rw[<-h4]at p;have s2:SR nt B X O w {a with defers:={target:=.fn _ cs,args:=fs++c.args.map _}::a.defers} ⟨st.t,st.h,st.lp,(g,T++(dm _ _++cap))::st.df⟩:=
       ⟨s.t,s.n,s.h,⟨aZ.cons (.inr ⟨Y,cs,rfl,by simp only[nO,mc];exact z.app (ky.app p)⟩) s.df.1,ED.2 ⟨λd' _ D hD=>(by cases hD),s.df.2⟩⟩,s.lp⟩
      exact N X O w _ (s2.put R (RR X _)) (.refl _ _ _ _ _)
     trivial
    trivial
   .split at e
    .cases e
    .rename_i v h1 iC hx;cases e;obtain⟨rfl,hc⟩:=anc G hE hF s S hn hM L hx;have q:∀x w',rJ B X O w st.h v h1 x w'->K (a.put o.dst x) w':=?_
     .exact (hc _).elim (λh=>h.upon hF q) λh=>h.upon hF q
     intro x w' ⟨X',O',z,q2,p⟩;have C:=(s.step z p).put R q2;exact N X' O' w' _ ⟨C.t,C.n,C.h,C.df,rfl⟩ p
theorem apf keep ops o l st:dH E ih keep ops (o::l) st=match ee E ih keep ops (aA st.h) o st with
  |none=>ae
  |some A=>dH E ih keep ops l A:=rfl
theorem abh(I:iL F P E ih)(d:fv F P E)(hF:dk F){keep:Bool}{ops:Array Oper}{nt n:Nat}{Q:Exit->Act->World->Prop}:∀l i,ops.toList.drop i=l->(∀o∈l,pj nt o=ag)->
  ∀{B:Nat} {X:Cx} {O:Nat->Addr->Prop} {w:World} {a:Act} {st A:St},SR nt B X O w a st->dH E ih keep ops l st=ab A->
   (∀X' O' w' U,SR nt B X' O' w' U A->Step B X O w st.h X' O' w' A.h->Q .normal U w')->wpOpsIn F n P ops Q (EF i l.length) a w
 |[],i,_,_,B,X,O,w,a,st,A,s,e,Z=>by
  cases e;exact Z X O w a s (.refl _ _ _ _ _)
 |o::l,i,f,J,B,X,O,w,a,st,A,s,e,Z=>by
  have hi:ops[i]? =ab o:=by
   have:(ops.toList.drop i)[0]? =ab o:=by simp[f]
   grind
  have c:ops.toList.drop (i+1)=l:=by
   rw[<-tU,f];rfl
  rw[jP,adM];simp[wpOpsIn,hi];rw[apf]at e;split at e
  .cases e
  .rename_i g h1;rw[bn]at h1;exact ZC I d hF h1 s (J o (by simp)) (lN rfl) (kJ s.h) (aJ _) λX' O' w' U j p=>
    abh I d hF l _ c (λq h'=>J q (by simp[h'])) j e λr x y z C D=>Z r x y z C (p.trans D)
end
section
variable {F:Fence} {P:Program} {B:Nat} {X:Cx} {O:Nat->Addr->Prop} {w:World} {h:Heap} {E:Env} {ih:Nat->Nat->Nat->Code->St->Option (Ex×St)}
theorem Wa(k i:Nat)(m:List Nat)(h:Heap):cU k (i::m) h=cU k m (bB h (k+i) ae):=rfl
theorem oa(k:Nat):∀(m:List Nat) (h:Heap),(cU k m h).length=h.length
 |[],h=>rfl
 |i::m,h=>by rw[Wa,oa k m,dR,hV]
theorem ail(h:Heap)(j b:Nat):aq (h.set j ae) b=if b=j then ae else aq h b:=by
 rw[cF,cF];grind
theorem uO(k:Nat):∀(m:List Nat) (h:Heap) (b:Nat),aq (cU k m h) b=if∃i∈m,b=k+i then ae else aq h b
 |[],h,b=>by rfl
 |i::m,h,b=>by
  rw[Wa,uO k m,dR,ail];by_cases h1:∃j∈m,b=k+j
  .simp_all
  .by_cases h2:b=k+i
   all_goals simp_all
theorem yg(k:Nat)(m:List Nat)(h:Heap):Sub (cU k m h) h:=λb x e=>by
 simp_all[uO,e]
theorem RB(n:Nat)(h:Heap):Sub (h.take n) h:=λb x e=>by
 rw[cF]at e;rw[cF];grind
theorem Sub.trans{a b c:Heap}(h:Sub a b)(k:Sub b c):Sub a c:=λi x e=>k i x (h i x e)
theorem sQ{keep:Bool}{aw:Nat}{t:Tm}{op:Op}(hp:su op=ag){v:V}{h1 h2:Heap}(e:bY E keep aw t h1 op=ab (v,h2))(J:Nat)(h':Heap):bY E keep J t h' op=ab (v,h'):=by
 cases op<;>simp only[su]at hp<;>try(cases hp;done)
 all_goals simp only[bY]at e|-
 case move x=>cases e;rfl
 case assign x=>cases e;rfl
 case pick c a b=>
  unfold kX at e|-
  split at e
  all_goals grind
 case build ty ps=>
  unfold wh at e|-
  obtain⟨ti,A,e⟩:=ay.1 e
  obtain⟨l,g,e⟩:=ay.1 e
  rw[A];split at e
  .rename_i fs I;try rw[I]
   obtain⟨Z,hf,e⟩:=bu.1 e
   grind
  .rename_i n el I;try rw[I]
   obtain⟨te,hte,e⟩:=ay.1 e
   obtain⟨Z,hf,e⟩:=bu.1 e
   grind
  trivial
 case nilCheck x=>
  unfold zK at e|-
  split at e<;>first|(cases e;rfl)|trivial
 case binOp op ty x y yt=>
  cases U:jA E op ty (isConst x||isConst y) (ev t x) (ev t y)<;>rw[U]at e<;>first|cases e;done|(cases e;rfl)
 case unOp op ty x=>
  cases U:wy op (ev t x)<;>rw[U]at e<;>first|cases e;done|(cases e;rfl)
 case makeInterface ty x=>
  unfold zG at e|-
  grind
 case makeFunc f a c=>
  unfold DU at e|-
  split at e
  all_goals grind
 case fieldAddr ty x k=>
  unfold zF at e|-
  obtain⟨ti,A,e⟩:=ay.1 e
  rw[A];simp only[ah]
  split at e
  .rename_i fs I;try rw[I]
   obtain⟨f,hf,e⟩:=ay.1 e
   simp only[hf,ah]
   grind
  trivial
 case field ty x k=>
  unfold zE at e|-
  obtain⟨ti,A,e⟩:=ay.1 e
  rw[A];split at e
  .rename_i fs I;try rw[I]
   obtain⟨f,hf,e⟩:=ay.1 e
   obtain⟨j,d,e⟩:=ay.1 e
   obtain⟨u,p,e⟩:=ay.1 e
   grind
  trivial
 case extract x i=>
  cases U:(ev t x).part i<;>rw[U]at e<;>first|cases e;done|(cases e;rfl)
theorem al4{v:Heap}(I:Sub v h){b g:Nat}{p:List (Nat×Nat)}{x:V}(e:eJ v b g p=ab x):eJ h b g p=ab x:=by
 unfold eJ at e|-;cases A:aq v b with
 |none=>grind
 |some k=>rw[A]at e;rw[I b k A];exact e
theorem JV{v:Heap}(z:Sub v h){keep:Bool}{aw:Nat}{t:Tm}{op:Op}(hp:isSimple op=ag)(G:∀c,op≠.call c){x:V}{h2:Heap}(e:bY E keep aw t v op=ab (x,h2))(Z:Nat):bY E keep Z t h op=ab (x,h):=by
 cases op<;>simp only[isSimple]at hp<;>try(cases hp;done)
 case call c=>grind
 all_goals simp only[bY]at e|-
 case load ty a=>
  unfold iV at e|-
  obtain⟨ti,A,e⟩:=ay.1 e
  rw[A];simp only[ah]
  split at e
  .rename_i b g p f;try rw[f]
   obtain⟨u,j,e⟩:=ay.1 e
   obtain⟨I,e⟩:=aQ e
   cases e
   simp only[al4 z j,ah,I,au]
  all_goals grind
 case indexAddr ty a i=>
  unfold pI at e|-
  split at e
  .rename_i k n hi;try rw[hi]
   obtain⟨ti,A,e⟩:=ay.1 e
   rw[A];simp only[ah]
   split at e
   .rename_i el J;try rw[J]
    have H:∀{l:List D},mu E v el l n=ab (x,h2)->mu E h el l n=ab (x,h):=λ{l} e=>by
     unfold mu at e|-
     obtain⟨te,hte,e⟩:=ay.1 e
     obtain⟨I,e⟩:=aQ e
     obtain⟨d,L,e⟩:=ay.1 e
     grind
    split at e
    .rename_i b g off len aR f;try rw[f]
     obtain⟨te,hte,e⟩:=ay.1 e
     obtain⟨I,e⟩:=aQ e
     cases e
     simp only[hte,ah]
     have q:(aj 0 n&&(ao n (Int.ofNat len)&&(ak off 0||iI h b te.size)))=ag:=by
      simp only[aM,mP]at I|-
      refine⟨I.1,I.2.1,I.2.2.imp id λr=>?_⟩
      unfold iI at r|-
      cases C:aq v b with
      |none=>grind
      |some k=>rw[C]at r;rw[z b k C];exact r
     rw[q];rfl
    all_goals grind
   .rename_i m el J;try rw[J]
    obtain⟨te,hte,e⟩:=ay.1 e
    obtain⟨I,e⟩:=aQ e
    simp only[hte,ah,I,au]
    split at e
    .cases e;rfl
    .split at e
     .obtain ⟨U,e⟩:=aQ e
      cases e;simp only[U,au]
     .cases e
    .cases e
   trivial
  trivial
 case index ty a i=>
  unfold zH at e|-
  split at e
  .rename_i k n hi;try rw[hi]
   split at e
   .rename_i s f;try rw[f]
    obtain⟨ti,A,e⟩:=ay.1 e
    rw[A];simp only[ah]
    split at e
    .rename_i J;try rw[J]
     obtain⟨I,e⟩:=aQ e
     obtain⟨c,y,e⟩:=bu.1 e
     cases e;simp only[I,au,y,hY]
    .cases e
   .rename_i K
    obtain⟨ti,A,e⟩:=ay.1 e
    split at e
    .rename_i m el J
     obtain⟨te,hte,e⟩:=ay.1 e
     obtain⟨I,e⟩:=aQ e
     obtain⟨u,j,e⟩:=ay.1 e
     obtain⟨U,e⟩:=aQ e
     cases e
     simp only[A,ah,J,hte,I,au,j,U]
    .cases e
  .cases e
mutual
theorem Mg{o I:Nat->Nat->Nat->Nat->Option (List D)}(A:∀b g off len l,o b g off len=ab l->I b g off len=ab l):∀{x:V} {d:D},x.cm o=ab d->x.cm I=ab d
 |.im _,_,e=>e
 |.full _,_,e=>e
 |.own b g off len _,d,e=>by
  simp only[V.cm,bu]at e|-
  obtain⟨l,h,rfl⟩:=e
  exact⟨l,A _ _ _ _ _ h,rfl⟩
 |.agg w l,d,e=>by
  simp only[V.cm,bu]at e|-
  obtain⟨l,h,rfl⟩:=e
  exact⟨l,Fy A h,rfl⟩
 |.aG l,d,e=>by
  simp only[V.cm,bu]at e|-
  obtain⟨l,h,rfl⟩:=e
  exact⟨l,Fy A h,rfl⟩
 |.fn f [] [],d,e=>e
 |.fn f (_::_) _,d,e=>by simp[V.cm]at e
 |.fn f [] (_::_),d,e=>by simp[V.cm]at e
 |.ifc t v,d,e=>by
  simp only[V.cm,bu]at e|-
  obtain⟨l,h,rfl⟩:=e
  exact⟨l,Mg A h,rfl⟩
 |.undef,d,e=>by simp[V.cm]at e
 |.ptr ..,d,e=>by simp[V.cm]at e
 |.mp _,d,e=>by simp[V.cm]at e
 |.gT _,d,e=>by simp[V.cm]at e
theorem Fy{o A:Nat->Nat->Nat->Nat->Option (List D)}(I:∀b g off len l,o b g off len=ab l->A b g off len=ab l):∀{x:List V} {d:List D},V.cP o x=ab d->V.cP A x=ab d
 |[],_,e=>e
 |v::l,d,e=>by
  simp only[V.cP]at e|-
  cases h1:v.cm o with
  |none=>rw[h1]at e;cases e
  |some a=>
   rw[h1]at e
   cases h2:V.cP o l with
   |none=>rw[h2]at e;cases e
   |some b=>
    rw[h2]at e
    rw[Mg I h1,Fy I h2];exact e
end
theorem ZJ{v:Heap}(I:Sub v h):∀(n:Nat) (b g off len:Nat) (l:List D),pk v n b g off len=ab l->pk h n b g off len=ab l
 |0,_,_,_,_,_,e=>by cases e
 |n+1,b,g,off,len,l,e=>by
  have e:(match aq v b with
   |some (.arr A _ _ l)=>bif dc g A off len l then ab (eP l off len)else ae
   |some (.bN A _ l)=>bif dc g A off len l then V.cP (pk v n) (eP l off len)else ae
   |_=>ae)=ab l:=e
  show(match aq h b with
   |some (.arr A _ _ l)=>bif dc g A off len l then ab (eP l off len)else ae
   |some (.bN A _ l)=>bif dc g A off len l then V.cP (pk h n) (eP l off len)else ae
   |_=>ae)=ab l
  split at e
  .rename_i J;rw[I _ _ J];exact e
  .rename_i J;rw[I _ _ J];obtain⟨U,e⟩:=aQ e;simp[U];exact Fy (ZJ I n) e
  trivial
theorem agA{v:Heap}(A:Sub v h){x:V}{d:D}(e:V.data v x=ab d):V.data h x=ab d:=by
 rw[UB]at e|-;exact Mg (ZJ A 4) e
theorem aeT(x:V)(l:List V):gG h (x::l)=(V.data h x).bind λd=>(gG h l).map (d:: ·):=rfl
theorem Tk{v:Heap}(A:Sub v h):∀{l:List V} {ds:List D},gG v l=ab ds->gG h l=ab ds
 |[],_,e=>e
 |x::l,ds,e=>by
  rw[aeT]at e|-;obtain⟨d,h1,e⟩:=ay.1 e;obtain⟨r,h2,e⟩:=bu.1 e;rw[agA A h1,Tk A h2];grind
theorem al1{v:Heap}(J:Sub v h){aw:Nat}{I:Array Nat}{xs:List V}{r:V×Heap}(e:fc E aw .len I xs v=ab r)(A:Nat):fc E A .len I xs h=ab (r.1,h):=by
 unfold fc at e|-;simp at e|-;split at e
 .obtain ⟨t,U,e⟩:=ay.1 e;rw[U];simp;unfold qj at e|-;split at e<;>first|(cases e;rfl)|(cases e)|skip
  split at e
  .rename_i es Z;rw[J _ _ Z];grind
  trivial
 trivial
theorem Rf{v:Heap}(I:Sub v h){keep:Bool}{aw:Nat}{t:Tm}{op:Op}(hp:isSimple op=ag){x:V}(e:kf E ih keep aw t v op=ab x)(A:Nat):eE E ih keep A t h op=ab (x,ae):=by
 have plain:(∀c,op≠.call c)->(bY E keep aw t v op).map (λr=>r.1)=ab x->(bY E keep A t h op).map (λr=>(r.1,bif bJ E op then aq r.2 A else ae))=ab (x,ae):=λJ e=>by
  obtain⟨r,h1,e⟩:=bu.1 e;have:=JV I hp J (show bY E keep aw t v op=ab (r.1,r.2)from h1) A;rw[this,e];have d:bJ E op=af:=by cases op<;>simp only[isSimple]at hp<;>first|(cases hp;done)|rfl|grind
  simp[d]
 cases op with
 |call c=>
  simp only[kf]at e;simp only[eE];split at e
  .rename_i f;rw[f];obtain⟨r,h1,e⟩:=bu.1 e;simp only[al1 I h1 A,hY,e]
  .cases e
  .obtain ⟨g,j,e⟩:=ay.1 e;cases hi:E.inl g.1 with
   |true=>grind
   |false=>
    rw[hi,ax]at e;split at e
    .have key:((target E t c).bind λg=>match E.clone g.1 with
      |some sz=>(qo E A sz g.2 h).map λr=>(r.1,aq r.2 A)
      |none=>match E.ext g.1 with
       |1=>(gI 1 g.2 h).map λr=>(r.1,ae)
       |2=>(gI 2 g.2 h).map λr=>(r.1,ae)
       |0=>bif E.inl g.1 then ae else(gG h g.2).bind λds=>(fY E ih g.1 ds).bind λr=>
        (match V.j0 g.2 with
        |[]=>ab (.im r,ae)
        |_=>bif r.flat then ab (.im r,ae)else ae)
       |_=>ae)=ab (x,ae):=by
      rw[j];obtain⟨ds,U,e⟩:=ay.1 e;obtain⟨r,l,e⟩:=ay.1 e;simp only[Tk I U,ah,l];grind
     cases Z:c.callee with
     |builtin b=>grind
     |value _=>omega
     |invoke _ _=>omega
    trivial
 |_=>first|(cases hp;done)|exact plain (λc h=>by cases h) e
theorem YQ:∀{a b:List Nat},yI a b=ag->a=b
 |[],[],_=>rfl
 |[],_::_,h|_::_,[],h=>by cases h
 |a::l,b::r,h=>by
  have h:(bif ak a b then yI l r else af)=ag:=h;cases h1:ak a b with
  |false=>grind
  |true=>rw[h1]at h;rw[b9 h1,YQ h]
theorem ZS:∀{a b:List (Nat×Nat)},Ie a b=ag->a=b
 |[],[],_=>rfl
 |[],_::_,h|_::_,[],h=>by cases h
 |(A,I)::l,(J,U)::r,h=>by
  have h:(bif ak A J&&ak I U then Ie l r else af)=ag:=h;cases h1:ak A J&&ak I U with
  |false=>grind
  |true=>
   rw[h1]at h;rw[aM]at h1;rw[b9 h1.1,b9 h1.2,ZS h]
mutual
theorem D.oA:∀{a b:D},D.same a b=ag->a=b:=λ{a b} h=>by
 cases a<;>cases b<;>simp only[D.same,aM,decide_eq_true_eq,R9]at h
 case bool.bool=>rw[h]
 case int.int=>rw[h.1,h.2]
 case str.str=>rw[YQ h]
 case ref.ref=>rw[D.oA h]
 case ar.ar=>rw[D.mJ h]
 case agg.agg=>rw[b9 h.1,D.mJ h.2]
 case aG.aG=>rw[D.mJ h]
 case fn.fn=>rw[b9 h]
 case ifc.ifc=>rw[b9 h.1,D.oA h.2]
 all_goals rfl
theorem D.mJ:∀{a b:List D},D.fU a b=ag->a=b:=λ{a b} h=>by
 cases a<;>cases b
 .rfl
 .simp [D.fU]at h
 .simp [D.fU]at h
 .simp only[D.fU]at h
  rename_i a l b r
  cases h1:D.same a b with
  |false=>rw[h1]at h;cases h
  |true=>rw[h1,au]at h;rw[D.oA h1,D.mJ h]
end
mutual
theorem V.oA:∀{a b:V},V.same a b=ag->a=b:=λ{a b} h=>by
 cases a<;>cases b<;>simp only[V.same,aM,decide_eq_true_eq,R9]at h
 case im.im=>rw[D.oA h]
 case agg.agg=>rw[b9 h.1,V.mJ h.2]
 case own.own=>rw[b9 h.1,b9 h.2.1,b9 h.2.2.1,b9 h.2.2.2.1,h.2.2.2.2]
 case full.full=>rw[D.mJ h]
 case ptr.ptr=>rw[b9 h.1,b9 h.2.1,ZS h.2.2]
 case fn.fn=>rw[b9 h.1,V.mJ h.2.1,V.mJ h.2.2]
 case ifc.ifc=>rw[b9 h.1,V.oA h.2]
 case mp.mp=>rw[b9 h]
theorem V.mJ:∀{a b:List V},V.fU a b=ag->a=b:=λ{a b} h=>by
 cases a<;>cases b
 .rfl
 .simp [V.fU]at h
 .simp [V.fU]at h
 .simp only[V.fU]at h
  rename_i a l b r
  cases h1:V.same a b with
  |false=>rw[h1]at h;cases h
  |true=>rw[h1,au]at h;rw[V.oA h1,V.mJ h]
end
theorem bK.oA{a b:bK}(h:bK.same a b=ag):a=b:=by
 cases a<;>cases b<;>simp only[bK.same,aM,R9]at h;case cell.cell=>rw[V.oA h]
 case arr.arr=>rw[b9 h.1,b9 h.2.1,b9 h.2.2.1,D.mJ h.2.2.2]
 case bN.bN=>rw[b9 h.1,b9 h.2.1,V.mJ h.2.2]
theorem Q9:∀{a b:Heap},nD a b=ag->a=b
 |[],[],_=>rfl
 |[],_::_,h=>by trivial
 |_::_,[],h=>by grind[nD]
 |none::l,ae::r,h=>by simp[nD]at h;rw[Q9 h]
 |none::l,ab _::r,h=>by trivial
 |some _::l,ae::r,h=>by trivial
 |some a::l,ab b::r,h=>by
  simp only[nD]at h;cases h1:bK.same a b with
  |false=>grind
  |true=>rw[h1]at h;rw[bK.oA h1,Q9 h]
theorem H0(A:List Nat)(h:Heap)(b:Nat):aq (only A h) b=if aY A b=ag then aq h b else ae:=by
 have key:∀h i b,aq (a8 (λ_=>[]) (λb _ ih i=>(bif aY A i then b else ae)::ih (i+1)) h i) b=if aY A (i+b)=ag then aq h b else ae:=by
  intro h;induction h with
  |nil=>simp[cF]
  |cons a l ih=>
   intro i b;cases b with
   |zero=>
    simp[cF,List.getElem?_cons_zero,Nat.add_zero]
   |succ b=>
    have:=ih (i+1) b;rw[cF]at this;rw[cF,adF,this,cF,cF,adF,Nat.add_assoc,Nat.add_comm 1 b]
 have:=key h 0 b;rw[Nat.zero_add]at this;trivial
theorem PD(A:List Nat)(h:Heap):(only A h).length=h.length:=by
 have key:∀h i,(a8 (λ_=>[]) (λb _ ih i=>(bif aY A i then b else ae)::ih (i+1)) h i:Heap).length=h.length:=by
  intro h;induction h with
  |nil=>simp
  |cons a l ih=>grind
 exact key h 0
theorem am7(A:List Nat)(h:Heap):Sub (only A h) h:=λb x e=>by
 simp_all[H0,e]
end
section
variable {F:Fence} {P:Program} {B:Nat} {X:Cx} {O:Nat->Addr->Prop} {w:World} {h:Heap} {E:Env} {ih:Nat->Nat->Nat->Code->St->Option (Ex×St)}
theorem anL h n:dh h n ae=h:=rfl
theorem NS{n:Nat}(A:n<=h.length) k:dh h n (aq (aD h n k) n)=aD h n k:=by rw[bG h n n k A,aK rfl];rfl
theorem apw{n:Nat}(A:aq h n=ae):dh h n (aq h n)=h:=by rw[A];rfl
theorem Ze:∀{l:List V},Cq l=ag->∀v∈l,V.refs v=[]
 |[],_,v,A=>by cases A
 |u::l,I,v,A=>by
  have e:fg (u::l)=match V.refs u with|[]=>fg l|r=>r++fg l:=rfl
  unfold Cq at I;rw[e]at I;cases J:V.refs u with
  |cons a r=>grind
  |nil=>
   rw[J]at I;rcases eT.1 A with rfl|A
   .omega
   .exact Ze (l:=l) I v A
mutual
theorem PN:∀(v:V) (b:Nat),b∈v.eB->b∈v.kS
 |.own c _ _ _ _,b,h=>by simpa[V.eB,V.kS]using h
 |.agg _ l,b,h=>by simp only[V.eB,V.kS]at h|-;exact PQ l b h
 |.aG l,b,h=>by simp only[V.eB,V.kS]at h|-;exact PQ l b h
 |.ifc _ v,b,h=>by simp only[V.eB,V.kS]at h|-;exact PN v b h
 |.undef,b,h|.im _,b,h|.full _,b,h|.ptr _ _ _,b,h|.fn _ _ _,b,h|.mp _,b,h|.gT _,b,h=>by simp[V.eB]at h
theorem PQ:∀(l:List V) (b:Nat),b∈V.de l->b∈V.oy l
 |[],b,h=>by simp[V.de]at h
 |v::l,b,h=>by
  simp only[V.de,V.oy,cB]at h|-
  exact h.imp (PN v b) (PQ l b)
end
theorem aoU{v:V}(h:V.refs v=[]):v.owns=[]:=by
 rw[ZO];have I:v.kS=[]:=by cases v<;>simp_all[V.refs,V.kS]
 cases A:v.eB<;>first|rename_i b r;have:=PN v b (by simp[A]);grind|rfl
theorem anp{ps:List (Nat×V)}(h:∀p∈ps,V.owns p.2=[]):jo ps=[]:=by
 induction ps with
 |nil=>rfl
 |cons p ps ih=>grind[ZM]
theorem abQ{keep:Bool}{n:Nat}{t:Tm}{op:Op}{v:V}{h':Heap}(C:aq h n=ae)(J:n<=h.length)(e:bY E keep n t h op=ab (v,h'))
  (h1:∀ty a x,op≠.store ty a x) (h2:∀ty m k x,op≠.mapUpdate ty m k x) (h3:∀ty m k x,op≠.insert ty m k x) (H:∀c,op≠.call c) (D:∀ty len ps,op=.buildSlice ty len ps->Cq ((mv (ev t) ps).map Prod.snd)=ag) (K:∀ty x,op≠.range ty x) (L:∀x b,op≠.next x b) (M:∀x,op≠.entry x):
  h'=dh h n (bif bJ E op then aq h' n else ae):=by
 have same:∀{b:Bool},h'=h->h'=dh h n (bif b then aq h' n else ae):=λ{b} e=>by
  subst e;cases b
  .rfl
  .exact (apw C).symm
 have new:bJ E op=ag->(∃k,h'=aD h n k)->h'=dh h n (bif bJ E op then aq h' n else ae):=λA ⟨k,e⟩=>by
  subst e;rw[A,au];exact(NS J k).symm
 cases op<;>simp only[bY]at e<;>try(cases e;done)
 case move x=>cases e;rfl
 case range ty x=>grind
 case next x b=>grind
 case entry x=>grind
 case assign x=>cases e;rfl
 case pick c a b=>
  unfold kX at e
  split at e
  .rename_i q _;cases q<;>(cases e;rfl)
  trivial
 case alloc ty=>
  unfold wg at e
  obtain⟨ti,I,e⟩:=ay.1 e
  obtain⟨U,e⟩:=aQ e
  cases A:ak ty E.fy.1<;>rw[A]at e<;>(cases e;exact new rfl ⟨_,rfl⟩)
 case box ty x=>
  unfold mI at e
  obtain⟨ti,I,e⟩:=ay.1 e
  obtain⟨U,e⟩:=aQ e
  unfold mI.uw at e
  split at e<;>(cases e;exact new rfl ⟨_,rfl⟩)
 case build ty ps=>have:=sQ (op:=.build ty ps) rfl (show bY E keep n t h (.build ty ps)=ab (v,h')from e) n h;simp only[bY]at this;rw[e]at this;cases this;rfl
 case buildSlice ty len ps=>
  have Z:=D ty len ps rfl
  have g:jo (mv (ev t) ps)=[]:=anp λp hp=>aoU (Ze Z p.2 (List.mem_map.2 ⟨p,hp,rfl⟩))
  unfold kW at e
  obtain⟨ti,I,e⟩:=ay.1 e
  split at e
  .obtain ⟨te,hte,e⟩:=ay.1 e
   obtain⟨_,e⟩:=aQ e
   obtain⟨z,U,e⟩:=ay.1 e
   cases G:cq te (.im z)<;>rw[G]at e<;>simp only[Bool.not_false,Bool.not_true,au,ax]at e
   .cases e
   .split at e
    .obtain ⟨_,e⟩:=aQ e
     rw[g]at e
     cases e;exact new rfl ⟨_,rfl⟩
    .obtain ⟨l,N,e⟩:=bu.1 e
     cases e;exact new rfl ⟨_,rfl⟩
  trivial
 case load ty a=>
  unfold iV at e
  obtain⟨ti,I,e⟩:=ay.1 e
  split at e
  .obtain ⟨u,R,e⟩:=ay.1 e
   obtain⟨_,e⟩:=aQ e
   cases e;rfl
  .obtain ⟨_,e⟩:=aQ e
   cases e;rfl
  trivial
 case store ty a x=>grind
 case nilCheck x=>
  unfold zK at e
  split at e<;>first|(cases e;rfl)|trivial
 case binOp op ty x y yt=>cases A:jA E op ty (isConst x||isConst y) (ev t x) (ev t y)<;>rw[A]at e<;>first|(cases e;done)|(cases e;rfl)
 case unOp op ty x=>cases A:wy op (ev t x)<;>rw[A]at e<;>first|(cases e;done)|(cases e;rfl)
 case convert s d x=>
  unfold oV at e
  split at e
  .cases e;exact same rfl
  .cases e;exact same rfl
  .split at e
   .cases e;exact new rfl ⟨_,rfl⟩
   trivial
  .split at e
   .obtain ⟨S,_,e⟩:=bu.1 e
    cases e;exact same rfl
   trivial
  trivial
 case makeInterface ty x=>have:=sQ (op:=.makeInterface ty x) rfl (show bY E keep n t h (.makeInterface ty x)=ab (v,h')from e) n h;simp only[bY]at this;rw[e]at this;cases this;rfl
 case makeFunc f a c=>have:=sQ (op:=.makeFunc f a c) rfl (show bY E keep n t h (.makeFunc f a c)=ab (v,h')from e) n h;simp only[bY]at this;rw[e]at this;cases this;rfl
 case makeSlice ty l c=>
  unfold tk at e
  obtain⟨ti,I,e⟩:=ay.1 e
  split at e
  .obtain ⟨te,hte,e⟩:=ay.1 e
   obtain⟨z,U,e⟩:=ay.1 e
   split at e
   .obtain ⟨_,e⟩:=aQ e
    cases e;exact new rfl ⟨_,rfl⟩
   trivial
  trivial
 case slice ty x lo hi mx=>cases A:tq E ty h (ev t x) (lo.map (ev t)) (hi.map (ev t)) (mx.map (ev t))<;>rw[A]at e<;>first|(cases e;done)|(cases e;rfl)
 case fieldAddr ty x k=>have:=sQ (op:=.fieldAddr ty x k) rfl (show bY E keep n t h (.fieldAddr ty x k)=ab (v,h')from e) n h;simp only[bY]at this;rw[e]at this;cases this;rfl
 case field ty x k=>have:=sQ (op:=.field ty x k) rfl (show bY E keep n t h (.field ty x k)=ab (v,h')from e) n h;simp only[bY]at this;rw[e]at this;cases this;rfl
 case indexAddr ty x i=>have:=JV (op:=.indexAddr ty x i) (λ_ _ j=>j) rfl (λc h=>by cases h) (show bY E keep n t h (.indexAddr ty x i)=ab (v,h')from e) n;simp only[bY]at this;rw[e]at this;cases this;rfl
 case index ty x i=>have:=JV (op:=.index ty x i) (λ_ _ j=>j) rfl (λc h=>by cases h) (show bY E keep n t h (.index ty x i)=ab (v,h')from e) n;simp only[bY]at this;rw[e]at this;cases this;rfl
 case extract x i=>cases A:(ev t x).part i<;>rw[A]at e<;>first|(cases e;done)|(cases e;rfl)
 case makeMap ty r=>
  unfold zJ at e
  split at e
  .split at e<;>first|(cases e;exact new rfl ⟨_,rfl⟩)|trivial
  trivial
 case lookup ty m k ok=>
  unfold zI at e
  split at e
  .obtain ⟨_,e⟩:=aQ e
   obtain⟨es,_,e⟩:=ay.1 e
   obtain⟨i,_,e⟩:=ay.1 e
   split at e
   .cases e;rfl
   .obtain ⟨te,_,e⟩:=ay.1 e
    obtain⟨_,e⟩:=aQ e
    cases e;rfl
  trivial
 case mapUpdate ty m k x=>grind
 case insert ty m k x=>grind
 case typeAssert x xt ty ok=>
  unfold JI at e
  split at e
  .cases e
  .split at e
   .rename_i u d _
    cases A:ak u ty<;>rw[A]at e<;>simp only[au,ax]at e
    .obtain ⟨_,e⟩:=aQ e;cases e;rfl
    .cases e;rfl
   .rename_i u d _
    cases A:ak u ty<;>rw[A]at e<;>simp only[au,ax]at e
    .obtain ⟨_,e⟩:=aQ e;cases e;rfl
    .cases e;rfl
   .obtain ⟨_,e⟩:=aQ e;cases e;rfl
   trivial
  trivial
 grind
theorem FW{a:Act}{o:Oper}{c:Call}(A:o.op=.call c):execOp a.eval o=(do let d<-resolve a.eval c o.type;invoke d.target d.args):=by simp[execOp,A]
theorem aq8{a:Act}{o:Oper}{c:Call}{b:Builtin}(J:o.op=.call c)(A:c.callee=.builtin b):
  execOp a.eval o=builtin b c.argTypes o.type (c.args.map λ|.const _=>ag|_=>af) (c.args.map a.eval):=by
 rw[FW J];have I:resolve a.eval c o.type=pure {target:=.builtin b c.argTypes o.type (c.args.map λ|.const _=>ag|_=>af),args:=c.args.map a.eval}:=by
  unfold resolve;rw[A];rfl
 simp[I];rfl
theorem CZ(NB:iL F P E ih)(G:fv F P E)(hF:dk F)(q:HR B X O w h){keep:Bool}{aw:Nat}(H:aq h aw=ae)(hM:X.M aw=ae)(f:aw<=h.length){t:Tm}{a:Act}(ht:TR X t a.tmps){o:Oper}(ho:∀x∈o.op.operands.toList,lP x=ag){v:V}{bo:Option bK}
  (e:eE E ih keep aw t h o.op=ab (v,bo)) (n:Nat):e9 F n P B X O w h (execOp a.eval o) v (dh h aw bo):=by
 have plain:∀{h':Heap},bY E keep aw t h o.op=ab (v,h')->(h'=dh h aw bo)->e9 F n P B X O w h (execOp a.eval o) v (dh h aw bo):=λ{h'} D K=>by
  rw[<-K];exact .inl (wq G.toEnvB q H hM f ht ho D)
 unfold eE at e;split at e
 .cases e
 .cases e
 .cases e
 .cases e
 .cases e
 .cases e
 .rename_i c Z;have bi:∀{b:Builtin} {h':Heap},c.callee=.builtin b->fc E aw b c.argTypes (dm t c.args) h=ab (v,h')->h'=dh h aw bo->e9 F n P B X O w h (execOp a.eval o) v (dh h aw bo):=λ{b h'} U D K=>
   plain (h':=h') (by simp[Z,bY,U,D]) K
  split at e
  .rename_i U;split at e
   .rename_i b g off len l h1 I;obtain⟨y,e⟩:=aQ e;have y:=b9 y;subst y;cases e;refine bi U I ?_;unfold fc at I;simp only at I;split at I
    .obtain ⟨k,rfl⟩:=afn H I;exact(NS f _).symm
    trivial
   trivial
  .rename_i U;obtain⟨r,I,e⟩:=bu.1 e;cases e;refine bi (h':=r.2) U I ?_;unfold fc at I;simp only at I;split at I
   .obtain ⟨t',_,I⟩:=ay.1 I;unfold qj at I;split at I<;>first|(cases I;rfl)|(cases I;done)|skip
    split at I
    .obtain ⟨_,I⟩:=aQ I;cases I;rfl
    trivial
   trivial
  .rename_i U;obtain⟨r,I,e⟩:=bu.1 e;cases e;refine bi (h':=r.2) U I ?_;unfold fc at I;simp only at I;split at I
   .obtain ⟨m,_,I⟩:=bu.1 I;cases I;rfl
   trivial
  .rename_i U;obtain⟨r,I,e⟩:=bu.1 e;cases e;refine bi (h':=r.2) U I ?_;unfold fc at I;simp only at I;split at I
   .obtain ⟨m,_,I⟩:=bu.1 I;cases I;rfl
   .cases I
  .cases e
  ·-- a function
   rename_i _ _ _ _ qE;obtain⟨⟨g,xs⟩,L,e⟩:=ay.1 e;obtain⟨args,Y,N⟩:=Ka G ht (c:=c) (λx R=>ho x (by rw[Z];exact R)) L o.type
   have z:∀{h':Heap},e9 F n P B X O w h (callFunc g args) v h'->e9 F n P B X O w h (execOp a.eval o) v h':=λ{h'} hc=>hc.Zt (by rw[FW Z];exact N w)
   split at e
   .rename_i sz pa;obtain⟨r,A,e⟩:=bu.1 e;cases e;have hc:=G.clone g sz pa n B X O w h q xs args Y aw H hM f r.1 r.2 A;have:r.2=dh h aw (aq r.2 aw):=by
     unfold qo at A;split at A
     .obtain ⟨te,_,A⟩:=ay.1 A;obtain⟨l,_,A⟩:=ay.1 A;obtain⟨_,A⟩:=aQ A;cases A;exact(NS f _).symm
     .cases A
    grind
   .have ex:∀{x:Nat} {r:V×Heap},E.ext g=x->x≠0->gI x xs h=ab r->r.2=h->r.1=v->bo=ae->e9 F n P B X O w h (execOp a.eval o) v (dh h aw bo):=λ{x r} D K e3 e4 e5 e6=>by
     subst e6;obtain⟨r1,r2⟩:=r;simp only at e4 e5;subst e4;subst e5;exact z (G.ext g (by rw[D];exact K) n B X O w _ q xs args Y _ _ (by rw[D];exact e3))
    split at e
    .rename_i R;obtain⟨r,A,e⟩:=bu.1 e;cases e;refine ex R (by decide) A ?_ rfl rfl
     unfold gI at A;split at A<;>first|(cases A;rfl)|(cases A;done)|(simp at*;done)
    .rename_i R;obtain⟨r,A,e⟩:=bu.1 e;cases e;refine ex R (by decide) A ?_ rfl rfl
     unfold gI at A;split at A<;>first|(cases A;rfl)|(cases A;done)|(simp at*;done)
    .cases S:E.inl g with
     |true=>grind
     |false=>
      simp only[S,ax]at e;obtain⟨ds,T,e⟩:=ay.1 e;obtain⟨r,A,e⟩:=ay.1 e;obtain⟨⟨fn,cd,o9,I,uT⟩,j⟩:=Me NB G hF A;have s:=ql (w:=w) o9 I uT args;split at e
      .rename_i W;cases e;refine z (.inr ⟨g,args,s,?_⟩);have hS:qe X w h X.C (λ_=>False):=⟨.refl _,λb bi a0 I=>I.elim⟩
       have p:=xL q hS T (λv hv b I=>Za W v hv b I) Y
       refine(j n X.C w args q.ci p).mono λx w' ⟨C',q1,q2,q3,q4,q5⟩=>?_
       obtain⟨g1,g2⟩:=M5 q q1 q2 q3 q4;exact⟨X.gx C',O,g1,by trivial,g2⟩
      .obtain ⟨uM,e⟩:=aQ e;cases e;refine z (.inr ⟨g,args,s,?_⟩);have p:=xL q (xw q) T (λ_ _ _ _=>trivial) Y
       refine(j n _ w args (AP q.ci) p).mono λx w' ⟨C',q1,q2,q3,q4,q5⟩=>?_
       obtain⟨g1,g2⟩:=Gp q q3;exact⟨X,O,g1,by simp only[an];exact r.Bq ag [x] uM q5,g2⟩
    .cases e
 .rename_i ty len ps Z;obtain⟨W,e⟩:=aQ e;obtain⟨r,A,e⟩:=bu.1 e;cases e;have he:bY E keep aw t h o.op=ab (r.1,r.2):=by rw[Z];simp only[bY];exact A
  refine plain he ?_;have:=abQ H f he (λ_ _ _ J=>by rw[Z]at J;cases J) (λ_ _ _ _ J=>by rw[Z]at J;cases J) (λ_ _ _ _ J=>by rw[Z]at J;cases J) (λ_ J=>by rw[Z]at J;cases J) (λty' arJ ps' J=>by grind) (λ_ _ J=>by rw[Z]at J;cases J) (λ_ _ J=>by rw[Z]at J;cases J) (λ_ J=>by rw[Z]at J;cases J)
  rw[Z]at this;exact this
 .rename_i h1 h2 h3 r1 r2 r3 h4 h5;obtain⟨r,A,e⟩:=bu.1 e;cases e;exact plain A (abQ H f A (λa b c J=>h1 a b c J) (λa b c d J=>h2 a b c d J) (λa b c d J=>h3 a b c d J) (λc J=>h4 c J) (λa b c J=>absurd J (h5 a b c)) (λa b J=>r1 a b J) (λa b J=>r2 a b J) (λa J=>r3 a J))
def PS(X:Cx)(k n:Nat)(h:Heap):=∀b,k<=b->b< k+n->aq h b=ae->X.M b=ae
theorem PS.step{k n:Nat}(hp:PS X k n h)(I:k+n<=h.length){X':Cx}{O':Nat->Addr->Prop}{w':World}{h':Heap}(st:Step B X O w h X' O' w' h'):PS X' k n h':=λb h1 h2 A=>
 st.fr.pQ b (by omega) (hp b h1 h2 (st.fr.nL b A)) A
theorem GC{k i:Nat}{m:List Nat}(A:aq h i=ae):aq (cU k m h) i=ae:=by
 simp[uO,A]
theorem aeW:∀{l:Heap},aeV l=ag->∀b,aq l b=ae
 |[],_,b|none::l,e,0=>by rfl
 |none::l,e,b+1=>by have:=aeW (l:=l) e b;trivial
 |some _::l,e,b=>by cases e
theorem GA a b i:aq (a++b) i=if i< a.length then aq a i else aq b (i-a.length):=by
 grind[cF]
theorem aik a n i:aq (a.drop n) i=aq a (n+i):=by simp[cF]
theorem n9 a n i:aq (a.take n) i=if i< n then aq a i else ae:=by
 grind[cF]
theorem apX(A:HR B X O w h){v:V}{d:D}(e:V.snap h v=ab d){x:Value}(r:an X v ag [x]):aN (lA B X w) d ag [x]:=by
 unfold V.snap at e;split at e
 .rename_i b;split at e
  .rename_i u Z;obtain⟨K,c,e⟩:=bu.1 e;subst e;obtain⟨bi,f,ws,h1,h2,h3,g,l,p,q,s⟩:=A.cy b _ Z;obtain⟨y,z,_,bj,J,L,C⟩:=r;rw[h1]at J;cases J;obtain⟨M,U,N,G⟩:=C h2.symm;rw[g]at U;cases U;have I:=qu A (xw A) c (λ_ _=>trivial) p
   refine⟨f,ws,by simp[z,G,iR],l,I,λj v ev=>?_⟩
   have H:=(e7.1 ev).1;have hB:=(A.own b _ (s j (bX _) H).1).1;unfold lA;rw[aK hB];exact q j v ev
  trivial
 .exact qu A (xw A) e (λ_ _=>trivial) r
theorem abN(I:HR B X O w h):∀{l:List V} {ds:List D} {xs:List Value},mX h l=ab ds->aZ (λv x=>an X v ag [x]) l xs->aZ (λd x=>aN (lA B X w) d ag [x]) ds xs
 |[],ds,xs,e,r=>by simp[mX]at e;subst e;trivial
 |v::l,ds,xs,e,r=>by
  obtain⟨d,J,e⟩:=ay.1 e;obtain⟨U,A,e⟩:=bu.1 e;subst e;obtain⟨x,f,rfl,Z,c⟩:=r;exact aZ.cons (apX I J Z) (abN I A c)
theorem am9(l:iL F P E ih)(H:fv F P E)(hF:dk F){keep:Bool}{ops:Array Oper}{k n i cls:Nat}{m:List Nat}{st pL:St}{nt q:Nat}{a:Act}{o:Oper}(e:cZ E ih keep ops k n i cls m o st=ab pL)(s:SR nt B X O w a st)(sk:pj nt o=ag)
  (aiA:cls=0->su o.op=ag) (M:cls=2->isSimple o.op=ag) (GH:PS X k n st.h) (hi:bJ E o.op=ag->i< n) (hkn:k+n<=st.h.length)
  {K:Act->World->Prop} {Q:Exit->Act->World->Prop} (hK:∀X' O' w' a',SR nt B X' O' w' a' pL->Step B X O w st.h X' O' w' pL.h->K a' w'):
  if rF o (yielded ops a.tmps)=ag then o.wpIn F q P a w K Q else(∀f,o.about P w a.eval=ab f->F.fn f)/\K (a.put o.dst undef) w:=by
 obtain⟨hd,ho⟩:=H2 sk;unfold cZ at e;cases hg:guardOf ops st.t o.guard with
 |none=>grind
 |some b=>
  rw[hg]at e;have hw:=M6 s.t hg;cases b with
  |false=>
   simp only at e;cases e;rw[hw,az (by simp)]
   exact⟨λf _=>hF.fn f,hK X O w _ (s.put hd (RS X)) (.refl _ _ _ _ _)⟩
  |true=>
   simp only at e;have Z:∀{v:V} {h':Heap},pL=⟨putDst st.t o.dst v,h',st.lp,st.df⟩->e9 F (q-1) P B X O w st.h (execOp a.eval o) v h'->
     if rF o (yielded ops a.tmps)=ag then o.wpIn F q P a w K Q else(∀f,o.about P w a.eval=ab f->F.fn f)/\K (a.put o.dst undef) w:=λ{v h'} he y=>by
    subst he;rw[hw,aK rfl];unfold Oper.wpIn;refine⟨λf _=>hF.fn f,?_⟩
    rw[hF.round,ac5];refine y.upon hF λx w' ⟨X',O',q1,q2,q3⟩=>?_
    exact hK X' O' w' _ ((s.step q1 q3).put hd q2) q3
   have d:∀{view v' h':Heap} {v:V} {m:Sem Next},Sub view st.h->view.length=st.h.length->h'.length=v'.length->
     (∀b k,aq h' b=ab k->(aq st.h b=ab k/\aq view b=ae)∨aq v' b=ab k)->(∀b,aq h' b=ae->aq st.h b=ae/\aq v' b=ae)->
     e9 F (q-1) P B X O w view m v v'->e9 F (q-1) P B X O w st.h m v h':=λ{view v' h' v m} c1 c2 c3 c4 c5 y=>by
    rcases y with⟨x,w',X',O',r1,r2,r3,r4⟩|⟨f,args,r1,r2⟩
    .obtain ⟨u1,u2⟩:=RU s.h c1 c2 c3 r2 r4 c4 c5;exact .inl ⟨x,w',X',O',r1,u1,r3,u2⟩
    .refine .inr ⟨f,args,r1,r2.mono λx w' ⟨X',O',t1,t2,t3⟩=>?_⟩
     obtain⟨u1,u2⟩:=RU s.h c1 c2 c3 t1 t3 c4 c5;exact⟨X',O',u1,t2,u2⟩
   have z:∀m,HR B X O w (cU k m st.h):=λm=>s.h.view (yg k m st.h) (oa k m st.h)
   have D:∀{aw:Nat} {bo:Option bK} {v:V} {m:List Nat},aq st.h aw=ae->(bo≠ae->aw< st.h.length)->aw<=st.h.length->e9 F (q-1) P B X O w (cU k m st.h) (execOp a.eval o) v (dh (cU k m st.h) aw bo)->
     e9 F (q-1) P B X O w st.h (execOp a.eval o) v (dh st.h aw bo):=λ{aw bo v m} hn L hle y=>by
    cases bo with
    |none=>
     simp only[anL]at y|-;refine d (yg k m st.h) (oa k m st.h) (oa k m st.h).symm (λb kk J=>?_) (λb J=>⟨J,GC J⟩) y
     cases hv:aq (cU k m st.h) b with
     |none=>grind
     |some k2=>right;rw[yg k m st.h b k2 hv]at J;omega
    |some bk=>
     have L:=L (by simp)
     have aip:aw<=(cU k m st.h).length:=by simp[oa,hle]
     have g1:∀b,aq (dh st.h aw (ab bk)) b=if b=aw then ab bk else aq st.h b:=λb=>bG st.h aw b bk hle
     have g2:∀b,aq (dh (cU k m st.h) aw (ab bk)) b=if b=aw then ab bk else aq (cU k m st.h) b:=λb=>bG _ aw b bk aip
     refine d (yg k m st.h) (oa k m st.h) ?_ (λb kk J=>?_) (λb J=>?_) y
     .show (aD st.h aw bk).length=(aD (cU k m st.h) aw bk).length;simp[bL,oa]
     .rw [g1]at J;by_cases yd:b=aw
      .grind
      .rw [az yd]at J;cases hv:aq (cU k m st.h) b with
       |none=>grind
       |some k2=>right;rw[g2,az yd,hv];rw[yg k m st.h b k2 hv]at J;omega
     .rw [g1]at J;by_cases yd:b=aw
      .grind
      simp_all[az,yd,J,g2,GC]
   split at e
   ·-- by the dz alone
    obtain⟨r,A,e⟩:=bu.1 e;have ah1:=sQ (aiA rfl) (show bY E keep (k+i) st.t [] o.op=ab (r.1,r.2)from A) st.h.length st.h;exact Z e.symm (.inl (wq H.toEnvB s.h (lN rfl) (kJ s.h) (aJ _) s.t ho ah1))
   .cases N:bJ E o.op with
    |true=>
     rw[N,au]at e;have oc:=hi N;split at e
     .rename_i C;obtain⟨r,A,e⟩:=bu.1 e;have hM:=GH (k+i) (by omega) (by omega) C
      have y:=CZ l H hF (z m) (GC C) hM (by grind[oa]) s.t ho (v:=r.1) (bo:=r.2) A (q-1)
      exact Z e.symm (D C (λ_=>by omega) (by omega) y)
     trivial
    |false=>
     rw[N,ax]at e;obtain⟨r,A,e⟩:=ay.1 e;split at e
     .rename_i hbo;rw[bn]at A;have y:=CZ l H hF (z m) (GC (lN rfl)) (kJ s.h) (by simp[oa,aJ]) s.t ho (v:=r.1) (bo:=r.2) A (q-1)
      rw[hbo]at y;have:=D (lN rfl) (λhh=>absurd rfl hh) (aJ _) y
      exact Z (fu e).symm this
     trivial
   .obtain ⟨r,A,e⟩:=bu.1 e;have aiM:Sub (cU k m (st.h.take (k+n))) st.h:=(yg k m _).trans (RB _ _);have hq:=Rf aiM (M rfl) A st.h.length;exact Z e.symm (CZ l H hF s.h (lN rfl) (kJ s.h) (aJ _) s.t ho hq (q-1))
   .rw [bn]at e;exact ZC l H hF e s sk (lN rfl) (kJ s.h) (aJ _) hK
   .split at e
    .rename_i c I;obtain⟨⟨g,xs⟩,R,e⟩:=ay.1 e;obtain⟨⟨v,h',OZ⟩,oc,e⟩:=ay.1 e;obtain⟨G,e⟩:=aQ e;have U:Sub (only (mH st.h 0 64 (iz 0 (fg xs) [])) st.h) st.h:=am7 _ _;have j:(only (mH st.h 0 64 (iz 0 (fg xs) [])) st.h).length=st.h.length:=PD _ _;have G:=Q9 G;generalize only (mH st.h 0 64 (iz 0 (fg xs) [])) st.h=vw at oc G U j;rw[s.lp]at oc;have hvr:HR B X O w vw:=s.h.view U j;obtain⟨args,ha,S⟩:=Ka H s.t (c:=c) (λx hx=>ho x (by rw[I];exact hx)) R o.type
     obtain⟨BN,⟨fn,cd,o9,J,uT⟩,T⟩:=GV l H hF oc hvr ha;have hlen:st.h.length<=h'.length:=by
      obtain⟨e1,w1,_,hR,_⟩:=(T 0).2 [] (aa4 hF _);cases e1 with
      |returned x=>
       obtain⟨X',O',_,_,t3⟩:=hR;have:=t3.len;rw[j]at this;exact this
      |panicked=>exact hR.elim
      |outgrown=>exact hR.elim
     have y:e9 F (q-1) P B X O w vw (execOp a.eval o) v h':=
      .inr ⟨g,args,by rw[FW I,S w];exact ql o9 J uT args,T (q-1)⟩
     have W:∀b,b< st.h.length->aq h' b=aq vw b:=λb J=>by
      rw[G,bn,n9,aK J]
     have Y:∀b,aq (st.h++h'.drop (aA st.h)) b=if b< st.h.length then aq st.h b else aq h' b:=λb=>by
      rw[GA];split
      .rfl
      .rename_i J;rw[aik,bn];congr 1;omega
     have:=d (h':=st.h++h'.drop (aA st.h)) U j (by rw[dD,oK,bn];omega) (λb kk J=>by
       rw[Y]at J;split at J
       .rename_i L;cases hv:aq vw b with
        |none=>exact .inl ⟨J,rfl⟩
        |some k2=>
         have:=U b k2 hv;rw[J]at this;cases this;exact .inr (by rw[W b L];exact hv)
       .exact .inr J) (λb J=>by
       rw[Y]at J;split at J
       .rename_i L;refine⟨J,?_⟩;rw[W b L];cases hv:aq vw b with
        |none=>rfl
        |some k2=>have:=U b k2 hv;rw[J]at this;cases this
       .rename_i hge;refine⟨?_,J⟩;rw[cF,jO (by omega)];rfl) y
     have e:=fu e;subst BN;exact Z (by rw[<-e,s.lp]) this
    trivial
   .split at e
    .rename_i ty a' x I;split at e
     .rename_i b g p ky;obtain⟨_,e⟩:=aQ e;obtain⟨r,A,e⟩:=bu.1 e;have uX:bY E keep st.h.length st.t st.h o.op=ab (r.1,r.2):=by
       rw[I];simp only[bY];rw[ky];exact A
      exact Z e.symm (.inl (wq H.toEnvB s.h (lN rfl) (kJ s.h) (aJ _) s.t ho uX))
     .cases e
    .cases e
   .split at e
    .rename_i ty a' x I;split at e
     .rename_i b g p ky;obtain⟨_,e⟩:=aQ e;obtain⟨r,A,e⟩:=bu.1 e;have uX:bY E keep st.h.length st.t st.h o.op=ab (r.1,r.2):=by
       rw[I];simp only[bY];rw[ky];exact A
      exact Z e.symm (.inl (wq H.toEnvB s.h (lN rfl) (kJ s.h) (aJ _) s.t ho uX))
     .cases e
    .cases e
   .split at e
    .rename_i ty a' I;split at e
     .rename_i b g p ky;obtain⟨r,A,e⟩:=bu.1 e;have NW:kf E ih keep st.h.length st.t (st.h.take k) o.op=ab r.1:=by
       rw[I];simp only[kf,bY];rw[ky,A];rfl
      have hq:=Rf (RB k st.h) (by rw[I];rfl) NW st.h.length
      exact Z e.symm (CZ l H hF s.h (lN rfl) (kJ s.h) (aJ _) s.t ho hq (q-1))
     .cases e
    .cases e
   .split at e
    .rename_i ty x i' I;obtain⟨r,A,e⟩:=bu.1 e;have NW:kf E ih keep st.h.length st.t (st.h.take k) o.op=ab r.1:=by
      rw[I];simp only[kf,bY];rw[A];rfl
     have hq:=Rf (RB k st.h) (by rw[I];rfl) NW st.h.length
     exact Z e.symm (CZ l H hF s.h (lN rfl) (kJ s.h) (aJ _) s.t ho hq (q-1))
    .cases e
   .split at e
    .rename_i c I;obtain⟨⟨g,xs⟩,R,e⟩:=ay.1 e;obtain⟨ds,uL,e⟩:=ay.1 e;obtain⟨r,A,e⟩:=ay.1 e;obtain⟨uM,e⟩:=aQ e;obtain⟨args,ha,S⟩:=Ka H s.t (c:=c) (λx hx=>ho x (by rw[I];exact hx)) R o.type
     obtain⟨⟨fn,cd,o9,J,uT⟩,aib⟩:=Me l H hF A;have aiF:=abN (z m) uL ha;have y:e9 F (q-1) P B X O w st.h (execOp a.eval o) (.im r) st.h:=by
      refine .inr ⟨g,args,by rw[FW I,S w];exact ql o9 J uT args,?_⟩
      refine(aib (q-1) _ w args (AP s.h.ci) aiF).mono λx w' ⟨C',q1,q2,q3,q4,q5⟩=>?_
      obtain⟨g1,g2⟩:=Gp s.h q3;exact⟨X,O,g1,by simp only[an];exact r.Bq ag [x] uM q5,g2⟩
     exact Z (fu e).symm y
    .cases e
end
def Ag(l:List Nat)(t A:Tm):Prop:=∀i∈l,t.get i=A.get i
theorem aqg{l:List Operand}{i:Nat}(h:Operand.tmp i∈l):i∈tmpsOf l:=by
 induction l with
 |nil=>cases h
 |cons o l ih=>
  rcases eT.1 h with rfl|h
  .exact List.mem_cons_self
  .have:=ih h;cases o
   .exact List.mem_cons_of_mem _ this
   all_goals trivial
theorem Ag.ev{ops:Array Oper}{o:Oper}{t t':Tm}(h:Ag (reads ops o) t t'){x:Operand}(A:x∈o.op.operands.toList):ev t x=ev t' x:=by
 cases x<;>first|rename_i i;exact h i (List.mem_append_left _ (aqg A))|rfl
theorem Ag.guard{ops:Array Oper}{o:Oper}{t A:Tm}(h:Ag (reads ops o) t A):guardOf ops t o.guard=guardOf ops A o.guard:=by
 unfold guardOf;cases U:o.guard with
 |none=>rfl
 |some g=>
  obtain⟨j,I⟩:=g;simp only;cases Z:bC ops.toList j with
  |none=>rfl
  |some J=>
   simp;cases c:J.dst with
   |none=>rfl
   |some d=>
    simp;rw[h d (List.mem_append_right _ (by grind))]
theorem Ng{l:List Nat}{b:Nat}(h:aY l b=ag):b∈l:=by
 induction l with
 |nil=>cases h
 |cons a l ih=>
  have e:aY (a::l) b=(bif ak a b then ag else aY l b):=rfl;cases A:ak a b with
  |true=>simp_all
  |false=>grind
theorem Nh{l:List Nat}{b:Nat}(h:aY l b=af):b ∉ l:=λA=>by
 induction l with
 |nil=>cases A
 |cons a l ih=>
  have e:aY (a::l) b=(bif ak a b then ag else aY l b):=rfl;simp_all
theorem Ag.put{l:List Nat}{t:Tm}{dst:Option Nat}{v:V}(h:∀d,dst=ab d->d ∉ l):Ag l t (putDst t dst v):=λi hi=>by
 cases dst with
 |none=>rfl
 |some d=>exact(Tm.MV t d i v (λe=>h d rfl (by simp_all[e,hi]))).symm
theorem Tm.set_comm(t:Tm):∀{i j:Nat} (_:i≠j) (x y:V),(t.set i x).set j y=(t.set j y).set i x:=by
 induction t with
 |e=>intros;rfl
 |n v l r Z c=>
  intro i j U x y;by_cases hi:i=0
  .subst hi;have J:=EP U;by_cases A:j%2=1<;>simp[Tm.oB,J,A]
  .by_cases J:j=0
   .subst J;by_cases I:i%2=1<;>simp[Tm.oB,hi,I]
   .by_cases I:i%2=1<;>by_cases A:j%2=1<;>simp[Tm.oB,hi,J,I,A,if_true,if_false]
    all_goals grind
theorem anM(t:Tm){x y:Option Nat}(h:∀d,x=ab d->y≠ab d)(u v:V):putDst (putDst t x u) y v=putDst (putDst t y v) x u:=by
 cases x with
 |none=>rfl
 |some d=>
  cases y<;>first|rename_i c;exact Tm.set_comm t (λe=>h d rfl (by rw[e])) u v|rfl
section
variable {F:Fence} {P:Program} {B:Nat} {X:Cx} {O:Nat->Addr->Prop} {w:World} {E:Env} {ih:Nat->Nat->Nat->Code->St->Option (Ex×St)}
theorem xW{t t':Tm}{l:Array Operand}(h:∀x∈l.toList,ev t x=ev t' x):dm t l=dm t' l:=by
 simp_all[Ve,adI,h]
theorem Mz{t A:Tm}{l:Array (Nat×Operand)}(h:∀p∈l.toList,ev t p.2=ev A p.2):mv (ev t) l=mv (ev A) l:=by
 rw[MA,MA];exact adI λp hp=>by rw[h p hp]
theorem aaX{t A:Tm}{l:List Operand}(h:∀x∈l,ev t x=ev A x):(a8 [] (λo _ ih=>ev t o::ih) l:List V)=a8 [] (λo _ ih=>ev A o::ih) l:=by
 induction l with
 |nil=>rfl
 |cons a l ih=>grind
theorem H6{t A:Tm}{x:Option Operand}(h:∀y,x=ab y->ev t y=ev A y):x.map (ev t)=x.map (ev A):=by
 cases x<;>first|rename_i y;simp[h y rfl]|rfl
theorem J3{keep:Bool}{aw:Nat}{t t':Tm}{h:Heap}{op:Op}(A:∀x∈op.operands.toList,ev t x=ev t' x):bY E keep aw t h op=bY E keep aw t' h op:=by
 cases op<;>simp only[bY];case move x=>rw[A x (by simp[bq])]
 case assign x=>rw[A x (by simp[bq])]
 case pick c a b=>rw[A c (by simp[bq]),A a (by simp[bq]),A b (by simp[bq])]
 case box ty x=>rw[A x (by simp[bq])]
 case build ty ps=>rw[Mz λp hp=>A p.2 (by simp[bq];grind)]
 case buildSlice ty n ps=>rw[Mz λp hp=>A p.2 (by simp[bq];grind)]
 case load ty a=>rw[A a (by simp[bq])]
 case store ty a x=>rw[A a (by simp[bq]),A x (by simp[bq])]
 case nilCheck x=>rw[A x (by simp[bq])]
 case binOp op ty x y yt=>rw[A x (by simp[bq]),A y (by simp[bq])]
 case unOp op ty x=>rw[A x (by simp[bq])]
 case convert s d x=>rw[A x (by simp[bq])]
 case makeInterface ty x=>rw[A x (by simp[bq])]
 case makeFunc f a c=>
  unfold DU;rw[aaX (l:=a.toList) λx I=>A x (by simp[bq];grind),aaX (l:=c.toList) λx I=>A x (by simp[bq];grind)]
 case makeSlice ty l c=>rw[A l (by simp[bq]),A c (by simp[bq])]
 case slice ty x lo hi mx=>rw[A x (by simp[bq]),H6 λy J=>A y (by grind[bq]),H6 (x:=hi) λy J=>A y (by grind[bq]),H6 (x:=mx) λy J=>A y (by grind[bq])]
 case fieldAddr ty x k=>rw[A x (by simp[bq])]
 case field ty x k=>rw[A x (by simp[bq])]
 case indexAddr ty x i=>rw[A x (by simp[bq]),A i (by simp[bq])]
 case index ty x i=>rw[A x (by simp[bq]),A i (by simp[bq])]
 case extract x i=>rw[A x (by simp[bq])]
 case makeMap ty r=>rw[H6 λy J=>A y (by grind[bq])]
 case lookup ty m k ok=>rw[A m (by simp[bq]),A k (by simp[bq])]
 case mapUpdate ty m k x=>rw[A m (by simp[bq]),A k (by simp[bq]),A x (by simp[bq])]
 case insert ty m k x=>rw[A m (by simp[bq]),A k (by simp[bq]),A x (by simp[bq])]
 case typeAssert x xt ty ok=>rw[A x (by simp[bq])]
 case range ty x=>rw[A x (by simp[bq])]
 case next x str=>rw[A x (by simp[bq])]
 case entry x=>rw[A x (by simp[bq])]
 case call c=>
  split
  .rw [xW λx I=>A x (by simp only[bq,jN,nO,cB];exact .inr I)]
  .rfl
theorem J9{t I:Tm}{c:Call}(A:∀x∈c.operands.toList,ev t x=ev I x):target E t c=target E I c:=by
 have J:=xW λx U=>A x (by simp only[jN,nO,cB];exact .inr U)
 unfold target;split
 .rfl
 .rename_i f hf;rw[J,A f (by simp[jN,hf])]
 .rename_i r nm hf;rw[J,A r (by simp[jN,hf])]
theorem ahS{aw:Nat}{t t':Tm}{c:Call}{h:Heap}{lp:List Rec}(A:∀x∈c.operands.toList,ev t x=ev t' x):jW E ih aw t c h lp=jW E ih aw t' c h lp:=by
 have I:=xW λx J=>A x (by simp only[jN,nO,cB];exact .inr J)
 have U:pU t c=pU t' c:=by
  unfold pU;split
  .rename_i f hf;rw[I,A f (by simp[jN,hf])]
  .rfl
 unfold jW;rw[U,J9 A]
theorem aap{keep:Bool}{aw:Nat}{t t':Tm}{h:Heap}{op:Op}(A:∀x∈op.operands.toList,ev t x=ev t' x):eE E ih keep aw t h op=eE E ih keep aw t' h op:=by
 unfold eE;split
 .rfl
 .rfl
 .rfl
 .rfl
 .rfl
 .rfl
 .rename_i c;have I:=xW λx J=>A x (by simp only[bq,jN,nO,cB];exact .inr J)
  rw[I,J9 (c:=c) A]
 .rw [Mz λp hp=>A p.2 (by simp[bq];grind)]
 .rw [J3 A]
theorem apM{keep:Bool}{aw:Nat}{t t':Tm}{h:Heap}{op:Op}(A:∀x∈op.operands.toList,ev t x=ev t' x):kf E ih keep aw t h op=kf E ih keep aw t' h op:=by
 unfold kf;split
 .rename_i c;have I:=xW λx J=>A x (by simp only[bq,jN,nO,cB];exact .inr J)
  rw[I,J9 (c:=c) A]
 .rw [J3 A]
def dg(E:Env)(ih:Nat->Nat->Nat->Code->St->Option (Ex×St))(keep:Bool)(ops:Array Oper)(k n i cls:Nat)(m:List Nat)(o:Oper)(t:Tm)(h:Heap)(lp:List Rec)(df:List (Nat×List V)):Option (V×Heap×List Rec×List (Nat×List V)):=
 match guardOf ops t o.guard with
 |none=>ae
 |some af=>ab (.im (.aG []),h,lp,df)
 |some ag=>match cls with
  |0=>(bY E keep (k+i) t [] o.op).map λr=>(r.1,h,lp,df)
  |1=>bif bJ E o.op then(match aq h (k+i)with
    |none=>(eE E ih keep (k+i) t (cU k m h) o.op).map λr=>(r.1,dh h (k+i) r.2,lp,df)
    |some _=>ae)
   else(eE E ih keep (aA h) t (cU k m h) o.op).bind λr=>(match r.2 with
    |none=>ab (r.1,h,lp,df)
    |some _=>ae)
  |2=>(kf E ih keep (k+i) t (cU k m (h.take (k+n))) o.op).map λv=>(v,h,lp,df)
  |3=>(match o.op with
   |.defer c=>(match c.callee with
    |.value f=>(match ev t f with
     |.fn g a cap=>bif kE (g,a++(dm t c.args++cap))then ae else ab (.undef,h,lp,(g,a++(dm t c.args++cap))::df)
     |_=>ae)
    |_=>ae)
   |op=>((match op with
     |.call c=>(match c.callee with
      |.builtin _=>lift lp (bY E keep (aA h) t h op)
      |_=>jW E ih (aA h) t c h lp)
     |op=>lift lp (bY E keep (aA h) t h op):RC)).map λr=>(r.1,r.2.1,r.2.2,df))
  |4=>(match o.op with
   |.call c=>(target E t c).bind λg=>(gp E ih g.1 g.2 (only (mH h 0 64 (iz 0 (fg g.2) [])) h) lp).bind λr=>
     bif nD (only (mH h 0 64 (iz 0 (fg g.2) [])) h) (r.2.1.take (aA h))then ab (r.1,h++r.2.1.drop (aA h),r.2.2,df)else ae
   |_=>ae)
  |6=>(match o.op with
   |.store ty a x=>(match ev t a with
    |.ptr b g p=>bif jH t b m&&jY (aq h b)then(oz E h ty (.ptr b g p) (ev t x)).map λr=>(r.1,r.2,lp,df)else ae
    |_=>ae)
   |_=>ae)
  |9=>(match o.op with
   |.store ty a x=>(match ev t a with
    |.ptr b g p=>bif bp k b&&jY (aq h b)then(oz E h ty (.ptr b g p) (ev t x)).map λr=>(r.1,r.2,lp,df)else ae
    |_=>ae)
   |_=>ae)
  |7=>(match o.op with
   |.load ty a=>(match ev t a with
    |.ptr b g p=>(iV E (h.take k) ty (.ptr b g p)).map λr=>(r.1,h,lp,df)
    |_=>ae)
   |_=>ae)
  |8=>(match o.op with
   |.indexAddr ty x i=>(pI E (h.take k) ty (ev t x) (ev t i)).map λr=>(r.1,h,lp,df)
   |_=>ae)
  |_=>(match o.op with
   |.call c=>(target E t c).bind λg=>(mX (cU k m h) g.2).bind λds=>(fY E ih g.1 ds).bind λr=>
     bif r.flat then ab (.im r,h,lp,df)else ae
   |_=>ae)
def R0(o:Oper)(t:Tm)(r:V×Heap×List Rec×List (Nat×List V)):St:=⟨putDst t o.dst r.1,r.2.1,r.2.2.1,r.2.2.2⟩
theorem CD(keep:Bool)(ops:Array Oper)(k n i cls:Nat)(m:List Nat)(o:Oper)(t:Tm)(h:Heap)(lp:List Rec)(df:List (Nat×List V)):
  cZ E ih keep ops k n i cls m o ⟨t,h,lp,df⟩=(dg E ih keep ops k n i cls m o t h lp df).map (R0 o t):=by
 unfold cZ dg
 simp only
 cases I:guardOf ops t o.guard with
 |none=>rfl
 |some b=>
  cases b with
  |false=>rfl
  |true=>
   rcases cls with _|_|_|_|_|_|_|_|_|_|cls
   all_goals simp only
   .simp only[xd];rfl
   .cases A:bJ E o.op
    .simp only[ax]
     cases eE E ih keep (aA h) t (cU k m h) o.op with
     |none=>rfl
     |some r=>
      simp only[ah]
      cases r.2<;>rfl
    .simp only[au]
     cases aq h (k+i)with
     |none=>simp only[xd];rfl
     |some _=>rfl
   .simp only[xd];rfl
   .unfold ee
    simp only[I]
    cases J:o.op with
    |defer c=>
     simp only
     cases c.callee with
     |value f=>
      simp only;cases ev t f<;>try rfl
      rename_i g a cap;simp only;cases kE (g,a++(dm t c.args++cap))<;>rfl
     |_=>rfl
    |call c=>
     simp only
     cases c.callee with
     |builtin b=>simp only;cases lift lp (bY E keep (aA h) t h (.call c))<;>rfl
     |_=>simp only;cases(jW E ih (aA h) t c h lp)<;>rfl
    |_=>
     simp only
     generalize lift lp _=r;cases r<;>rfl
   .cases o.op with
    |call c=>
     simp only
     cases target E t c with
     |none=>rfl
     |some g=>
      simp only[ah]
      cases gp E ih g.1 g.2 (only (mH h 0 64 (iz 0 (fg g.2) [])) h) lp with
      |none=>rfl
      |some r=>simp only[ah];cases nD (only (mH h 0 64 (iz 0 (fg g.2) [])) h) (r.2.1.take (aA h))<;>rfl
    |_=>rfl
   .cases o.op with
    |call c=>
     simp only
     cases target E t c with
     |none=>rfl
     |some g=>
      simp only[ah]
      cases mX (cU k m h) g.2 with
      |none=>rfl
      |some ds=>
       simp only[ah]
       cases fY E ih g.1 ds with
       |none=>rfl
       |some r=>simp only[ah];cases r.flat<;>rfl
    |_=>rfl
   .cases o.op with
    |store ty a x=>
     simp only
     cases ev t a with
     |ptr b g p=>simp only;cases(jH t b m&&jY (aq h b))with
      |true=>simp only[au,xd];rfl
      |false=>rfl
     |_=>rfl
    |_=>rfl
   .cases o.op with
    |load ty a=>
     simp only
     cases ev t a with
     |ptr b g p=>simp only[xd];rfl
     |_=>rfl
    |_=>rfl
   .cases o.op with
    |indexAddr ty x i=>simp only[xd];rfl
    |_=>rfl
   .cases o.op with
    |store ty a x=>
     simp only
     cases ev t a with
     |ptr b g p=>simp only;cases(bp k b&&jY (aq h b))with
      |true=>simp only[au,xd];rfl
      |false=>rfl
     |_=>rfl
    |_=>rfl
   .cases o.op with
    |call c=>
     simp only
     cases target E t c with
     |none=>rfl
     |some g=>
      simp only[ah]
      cases mX (cU k m h) g.2 with
      |none=>rfl
      |some ds=>
       simp only[ah]
       cases fY E ih g.1 ds with
       |none=>rfl
       |some r=>simp only[ah];cases r.flat<;>rfl
    |_=>rfl
theorem amS{m:List Nat}{t A:Tm}(h:Ag m t A)(b:Nat):jH t b m=jH A b m:=by
 induction m with
 |nil=>rfl
 |cons s m ih=>
  have e:∀t,jH t b (s::m)=(match t.get s with|.ptr c _ _=>bif ak b c then af else jH t b m|_=>af):=λ_=>rfl
  rw[e,e,h s (by simp),ih λx I=>h x (by simp[I])]
theorem ZE{keep:Bool}{ops:Array Oper}{k n i cls:Nat}{m:List Nat}{o:Oper}{t t':Tm}{h:Heap}{lp:List Rec}{df:List (Nat×List V)}(U:Ag (reads ops o) t t')(hm:cls=6->Ag m t t'):
  dg E ih keep ops k n i cls m o t h lp df=dg E ih keep ops k n i cls m o t' h lp df:=by
 have I:∀x∈o.op.operands.toList,ev t x=ev t' x:=λx J=>U.ev J
 have e:∀c,o.op=.call c->target E t c=target E t' c:=λc A=>J9 λx J=>I x (by rw[A];exact J)
 have Z:=J3 (E:=E) (keep:=keep) (aw:=aA h) (h:=h) I;unfold dg;rw[U.guard];cases guardOf ops t' o.guard with
 |none=>rfl
 |some b=>
  cases b with
  |false=>rfl
  |true=>
   simp only;split
   .rw [J3 I]
   .rw [aap (aw:=k+i) I,aap (aw:=aA h) I]
   .rw [apM I]
   .split
    .rename_i c A;split
     .rename_i f hf;have g:∀x∈c.operands.toList,ev t x=ev t' x:=λx J=>I x (by rw[A];exact J)
      rw[xW (t:=t) (t':=t') λx J=>g x (by simp only[jN,nO,cB];exact .inr J),g f (by simp[jN,hf])]
     .rfl
    .split
     .rename_i c A;rw[ahS (t':=t') (λx J=>I x (by rw[A];exact J)),Z]
     .rw [Z]
   .grind
   .split
    .rename_i ty a x A;have h1:ev t a=ev t' a:=I a (by rw[A];simp[bq])
     have h2:ev t x=ev t' x:=I x (by rw[A];simp[bq])
     have h3:∀b,jH t b m=jH t' b m:=amS (hm rfl);rw[h1,h2];simp only[h3]
    .rfl
   .split
    .rename_i ty a x A;have h1:ev t a=ev t' a:=I a (by rw[A];simp[bq])
     have h2:ev t x=ev t' x:=I x (by rw[A];simp[bq])
     rw[h1,h2]
    .rfl
   .split
    .rename_i ty a A;have h1:ev t a=ev t' a:=I a (by rw[A];simp[bq])
     rw[h1]
    .rfl
   .split
    .rename_i ty x d A;have h1:ev t x=ev t' x:=I x (by rw[A];simp[bq])
     have h2:ev t d=ev t' d:=I d (by rw[A];simp[bq])
     rw[h1,h2]
    .rfl
   grind
end
theorem Gv{a b:Heap}(A:a.length=b.length)(h:∀i,aq a i=aq b i):a=b:=by
 refine List.ext_getElem? λi=>?_
 by_cases hi:i< a.length
 .have:=h i;rw[cF,cF,List.getElem?_eq_getElem hi]at this;grind
 grind
theorem pt{h:Heap}{i:Nat}{r:Option bK}(hi:i< h.length):(dh h i r).length=h.length:=by
 cases r<;>first|rename_i b;show(aD h i b).length=_;rw[bL,aK hi]|rfl
theorem qC{h:Heap}{i:Nat}{r:Option bK}(hi:i< h.length)(j:Nat):aq (dh h i r) j=if j=i/\r≠ae then r else aq h j:=by
 cases r<;>first|rename_i b;show aq (aD h i b) j=_;rw[bG h i j b (by omega)];simp|simp[dh]
theorem anK{h:Heap}{i j:Nat}{r s:Option bK}(hi:i< h.length)(A:j< h.length)(I:i≠j):dh (dh h i r) j s=dh (dh h j s) i r:=by
 have h1:=pt (r:=r) hi;have h2:=pt (r:=s) A;refine Gv ((pt (by omega)).trans (h1.trans (h2.symm.trans (pt (by omega)).symm))) λb=>?_
 rw[qC (by omega),qC (by omega),qC (by omega),qC (by omega)]
 grind
theorem Nz{k i:Nat}{m:List Nat}{h:Heap}{r:Option bK}(hi:k+i< h.length)(hm:r≠ae->i∈m):cU k m (dh h (k+i) r)=cU k m h:=by
 refine Gv (by simp[oa,pt,hi]) λb=>?_
 rw[uO,uO,qC hi];by_cases h1:∃j∈m,b=k+j
 all_goals grind
theorem NA{k i n:Nat}{m:List Nat}{h:Heap}{r:Option bK}(hi:k+i< h.length)(hm:r≠ae->i∈m):cU k m ((dh h (k+i) r).take n)=cU k m (h.take n):=by
 refine Gv (by simp[oa,List.length_take,pt,hi]) λb=>?_
 rw[uO,uO,n9,n9,qC hi];by_cases h1:∃j∈m,b=k+j
 all_goals grind
section
variable {F:Fence} {P:Program} {B:Nat} {X:Cx} {O:Nat->Addr->Prop} {w:World} {E:Env} {ih:Nat->Nat->Nat->Code->St->Option (Ex×St)}
 {keep:Bool} {ops:Array Oper} {k n i na nb ca cb cls:Nat} {m ma mb:List Nat} {o a b:Oper} {t:Tm} {h h1 h2:Heap} {lp iC lI:List Rec} {df iM xN:List (Nat×List V)} {u v:V}
def Idle(E:Env)(ih:Nat->Nat->Nat->Code->St->Option (Ex×St))(keep:Bool)(ops:Array Oper)(k n i cls:Nat)(m:List Nat)(o:Oper)(t:Tm)(v:V):Prop:=∀h lp df,dg E ih keep ops k n i cls m o t h lp df=ab (v,h,lp,df)
theorem anf(A:guardOf ops t o.guard=ab af):Idle E ih keep ops k n i cls m o t (.im (.aG [])):=λh lp df=>by simp[dg,A]
theorem H3(e:dg E ih keep ops k n i cls m o t h lp df=ab (v,h1,iC,iM)):guardOf ops t o.guard=ab af∨guardOf ops t o.guard=ab ag:=by
 unfold dg at e;grind
theorem PJ(e:dg E ih keep ops k n i cls m o t h lp df=ab (v,h1,iC,iM))(I:guardOf ops t o.guard=ab af∨cls=0):h1=h/\iC=lp/\iM=df/\Idle E ih keep ops k n i cls m o t v:=by
 rcases H3 e with A|A
 .have:=anf (E:=E) (ih:=ih) (keep:=keep) (k:=k) (n:=n) (i:=i) (cls:=cls) (m:=m) A;rw[this h lp df]at e;grind
 .obtain rfl:=I.resolve_left (by simp[A])
  unfold dg at e;rw[A]at e;simp only[bu]at e;obtain⟨r,J,e⟩:=e;cases e;refine⟨rfl,rfl,rfl,λh lp df=>?_⟩
  simp[dg,A,J,hY]
theorem PK(J:guardOf ops t o.guard=ab ag)(e:dg E ih keep ops k n i 2 m o t h lp df=ab (v,h1,iC,iM)):h1=h/\iC=lp/\iM=df/\
  ∀h' A I,cU k m (h'.take (k+n))=cU k m (h.take (k+n))->dg E ih keep ops k n i 2 m o t h' A I=ab (v,h',A,I):=by
 unfold dg at e;rw[J]at e;simp only[bu]at e;obtain⟨r,U,e⟩:=e;cases e;refine⟨rfl,rfl,rfl,λh lp df Z=>?_⟩
 simp[dg,J,Z,U,hY]
theorem vy(s:cls=1∨cls=2∨cls=5)(U:guardOf ops t o.guard=ab ag)(e:dg E ih keep ops k n i cls m o t h lp df=ab (v,h1,iC,iM)):
  iC=lp/\iM=df/\∃r,h1=dh h (k+i) r/\(r≠ae->(bJ E o.op&&ak cls 1)=ag)/\((bJ E o.op&&ak cls 1)=ag->aq h (k+i)=ae)/\
  ∀h' A I,h'.length=h.length->cU k m h'=cU k m h->cU k m (h'.take (k+n))=cU k m (h.take (k+n))->((bJ E o.op&&ak cls 1)=ag->aq h' (k+i)=ae)->
   dg E ih keep ops k n i cls m o t h' A I=ab (v,dh h' (k+i) r,A,I):=by
 rcases s with rfl|rfl|rfl
 .unfold dg at e;rw[U]at e;simp only at e;cases J:bJ E o.op with
  |true=>
   rw[J,au]at e;split at e
   .rename_i f;simp only[bu]at e;obtain⟨r,Z,e⟩:=e;cases e;refine⟨rfl,rfl,r.2,rfl,λ_=>rfl,λ_=>f,λh' A I q d _ x=>?_⟩
    unfold dg;simp_all
   trivial
  |false=>
   rw[J,ax]at e;simp only[ay]at e;obtain⟨r,Z,e⟩:=e;split at e
   .rename_i f;cases e;refine⟨rfl,rfl,ae,rfl,λh=>absurd rfl h,λh=>by trivial,λh' A I q d _ _=>?_⟩
    unfold dg;rw[U];simp[J,bn,q,d];simp at Z;rw[Z];simp[ah,f];rfl
   trivial
 .obtain ⟨rfl,rfl,rfl,y⟩:=PK U e;exact⟨rfl,rfl,ae,rfl,λh=>absurd rfl h,λh=>by simp at h,λh' A I _ _ z _=>y h' A I z⟩
 .unfold dg at e;rw[U]at e;simp at e;split at e
  .rename_i c j;simp only[ay]at e;obtain⟨g,l,ds,p,r,Z,e⟩:=e;cases hf:r.flat with
   |false=>grind
   |true=>
    rw[hf]at e;cases e;refine⟨rfl,rfl,ae,rfl,λh=>absurd rfl h,λh=>by simp at h,λh' A I _ d _ _=>?_⟩
    unfold dg;rw[U];simp[j,l,ah,d,p,Z,hf];rfl
  trivial
theorem PH(A:guardOf ops t o.guard=ab ag)(e:dg E ih keep ops k n i 4 m o t h lp df=ab (v,h1,iC,iM)):∃x,h1=h++x:=by
 unfold dg at e;rw[A]at e;simp at e;split at e
 .simp [ay]at e;grind
 trivial
theorem Fi{c:Nat}(h:y8 c=ag):c=1∨c=2∨c=5:=by
 simp_all[y8,h,mP,Nat.beq_eq]
theorem om(c:guardOf ops t o.guard=ab ag)(e:dg E ih keep ops k n i 7 m o t h lp df=ab (v,h1,iC,iM)):h1=h/\iC=lp/\iM=df/\∃ty a b g p,o.op=.load ty a/\ev t a=.ptr b g p/\
  ∀h' A I,aq (h'.take k) b=aq (h.take k) b->dg E ih keep ops k n i 7 m o t h' A I=ab (v,h',A,I):=by
 unfold dg at e;rw[c]at e;simp at e;split at e
 .rename_i ty a U;split at e
  .rename_i b g p Z;obtain⟨r,J,e⟩:=bu.1 e;cases e;refine⟨rfl,rfl,rfl,ty,a,b,g,p,U,Z,λh' A I d=>?_⟩
   unfold dg;have j:eJ (h'.take k) b g p=eJ (h.take k) b g p:=by simp[eJ,d]
   unfold iV at J|-;obtain⟨ti,f,J⟩:=ay.1 J;obtain⟨u,l,J⟩:=ay.1 J;grind
  trivial
 trivial
theorem Zk{m:List Nat}{b s c g:Nat}{p:List (Nat×Nat)}(h:jH t b m=ag)(A:s∈m)(I:t.get s=.ptr c g p):c≠b:=by
 induction m with
 |nil=>cases A
 |cons x m ih=>
  have e:jH t b (x::m)=(match t.get x with|.ptr c _ _=>bif ak b c then af else jH t b m|_=>af):=rfl
  rw[e]at h;split at h
  .rename_i J d f U;cases Z:ak b J with
   |true=>grind
   |false=>
    rw[Z,ax]at h;rcases eT.1 A with rfl|A
    .rw [I]at U;exact λhe=>by simp_all
    simp[ih,h,A]
  trivial
theorem CG(f:guardOf ops t o.guard=ab ag)(e:dg E ih keep ops k n i 6 m o t h lp df=ab (v,h1,iC,iM)):iC=lp/\iM=df/\∃b x,b< h.length/\h1=aD h b x/\jH t b m=ag/\jY (aq h b)=ag/\jY (ab x)=ag/\
  ∀A I,dg E ih keep ops k n i 6 m o t h A I=ab (v,h1,A,I):=by
 unfold dg at e
 rw[f]at e
 simp at e
 split at e
 .split at e
  .rename_i b g p j
   obtain⟨Z,e⟩:=aQ e
   obtain⟨r,J,e⟩:=bu.1 e
   cases e
   rw[aM]at Z
   obtain⟨ti,l,J⟩:=ay.1 J
   obtain⟨q,J⟩:=aQ J
   obtain⟨h',U,J⟩:=bu.1 J
   cases J
   unfold jY at Z
   cases c:aq h b with
   |none=>grind
   |some bk=>
    have d:=dI c
    rw[c]at Z
    cases bk<;>simp only at Z<;>try(cases Z.2)
    unfold jJ at U
    rw[c]at U
    obtain⟨_,U⟩:=aQ U
    obtain⟨s,_,U⟩:=bu.1 U
    subst U
    refine⟨rfl,rfl,b,_,d,rfl,Z.1,by rw[c];rfl,rfl,λA I=>?_⟩
    unfold dg
    grind
  trivial
 trivial
theorem CF(c:guardOf ops t o.guard=ab ag)(e:dg E ih keep ops k n i 9 m o t h lp df=ab (v,h1,iC,iM)):iC=lp/\iM=df/\∃b x,k<=b/\b< h.length/\h1=aD h b x:=by
 unfold dg at e
 rw[c]at e
 simp at e
 split at e
 .split at e
  .rename_i b g p d
   obtain⟨J,e⟩:=aQ e
   obtain⟨r,A,e⟩:=bu.1 e
   cases e
   rw[aM]at J
   obtain⟨ti,f,A⟩:=ay.1 A
   obtain⟨j,A⟩:=aQ A
   obtain⟨h',I,A⟩:=bu.1 A
   cases A
   unfold jY at J
   cases U:aq h b with
   |none=>grind
   |some bk=>
    have Z:=dI U
    rw[U]at J
    cases bk<;>simp only at J<;>try(cases J.2)
    unfold jJ at I
    rw[U]at I
    obtain⟨_,I⟩:=aQ I
    obtain⟨l,_,I⟩:=bu.1 I
    subst I
    exact⟨rfl,rfl,b,_,nY J.1,Z,rfl⟩
  trivial
 trivial
theorem GB{b:Nat}{x:bK}(I:k<=b)(A:b< h.length)(c:Nat):aq ((aD h b x).take k) c=aq (h.take k) c:=by
 rw[n9,n9,bG h b c x (cX A)];grind
theorem V9{b c:Nat}{x:bK}(I:b< h.length)(A:c≠b):aq ((aD h b x).take k) c=aq (h.take k) c:=by
 rw[n9,n9,bG h b c x (cX I),az A]
theorem Nv{j c:Nat}{r:Option bK}(A:r≠ae->k+j< h.length):aq ((dh h (k+j) r).take k) c=aq (h.take k) c:=by
 cases r with
 |none=>rfl
 |some x=>
  rw[n9,n9];split
  .show aq (aD h (k+j) x) c=_;rw[bG h _ c x (cX (A (by simp))),az (by omega)]
  .rfl
theorem WQ{m:List Nat}{o:Oper}(hi:yr m o=ag):∃ty s,o.op=.load ty (.tmp s)/\s∈m:=by
 unfold yr at hi;split at hi
 .rename_i ty s A;exact⟨ty,s,A,Ng hi⟩
 trivial
theorem JW{h h':Heap}(A:∀b,aq h' b=aq h b∨(jY (aq h' b)=ag/\jY (aq h b)=ag))(b sz:Nat):iI h' b sz=iI h b sz:=by
 unfold iI;rcases A b with e|⟨I,J⟩
 .rw [e]
 .unfold jY at I J;grind
theorem size_put{b:Nat}{x:bK}(A:b< h.length)(h1:jY (aq h b)=ag)(h2:jY (ab x)=ag)(c sz:Nat):iI ((aD h b x).take k) c sz=iI (h.take k) c sz:=by
 refine JW (λc=>?_) c sz
 rw[n9,n9,bG h b c x (cX A)];grind
theorem abC{j:Nat}{r:Option bK}(A:r≠ae->k+j< h.length)(c sz:Nat):iI ((dh h (k+j) r).take k) c sz=iI (h.take k) c sz:=JW (λc=>.inl (Nv A)) c sz
theorem oo(p:guardOf ops t o.guard=ab ag)(e:dg E ih keep ops k n i 8 m o t h lp df=ab (v,h1,iC,iM)):h1=h/\iC=lp/\iM=df/\
  ∀h' I J,(∀b sz,iI (h'.take k) b sz=iI (h.take k) b sz)->dg E ih keep ops k n i 8 m o t h' I J=ab (v,h',I,J):=by
 unfold dg at e
 rw[p]at e
 simp only at e
 split at e
 .rename_i ty x y U
  obtain⟨r,A,e⟩:=bu.1 e
  cases e
  refine⟨rfl,rfl,rfl,λh' I J z=>?_⟩
  unfold dg
  rw[p]
  simp only[U]
  have key:∀(x i:V) (r:V×Heap),pI E (h.take k) ty x i=ab r->∃q,pI E (h'.take k) ty x i=ab q/\q.1=r.1:=λx i r A=>by
   unfold pI at A|-
   split at A
   .rename_i C D
    obtain⟨ti,Z,A⟩:=ay.1 A
    simp only[Z,ah]
    split at A
    .rename_i el c;try rw[c]
     split at A
     .rename_i b g off len aR
      obtain⟨te,hte,A⟩:=ay.1 A
      grind
     .unfold mu at A|-
      obtain⟨te,hte,A⟩:=ay.1 A
      simp only[hte,ah]
      obtain⟨f,A⟩:=aQ A
      obtain⟨d,s,A⟩:=ay.1 A
      grind
     .unfold mu at A|-
      obtain⟨te,hte,A⟩:=ay.1 A
      simp only[hte,ah]
      obtain⟨f,A⟩:=aQ A
      obtain⟨d,s,A⟩:=ay.1 A
      grind
     trivial
    .rename_i G el c;try rw[c]
     obtain⟨te,hte,A⟩:=ay.1 A
     simp only[hte,ah]
     obtain⟨f,A⟩:=aQ A
     simp only[f,au]
     split at A
     .cases A;exact⟨_,rfl,rfl⟩
     .split at A
      .rename_i H j
       obtain⟨l,A⟩:=aQ A
       cases A
       simp only[j,l,au]
       exact⟨_,rfl,rfl⟩
      .cases A
     .cases A
    trivial
   trivial
  grind
 trivial
def S3(a b:Oper)(ca cb:Nat)(ma mb:List Nat):Prop:=
 (ca=9/\(cb=7∨cb=8))∨(cb=9/\(ca=7∨ca=8))∨(ca=8/\((cb=1∨cb=2∨cb=5)∨cb=7∨cb=8∨cb=6))∨(cb=8/\((ca=1∨ca=2∨ca=5)∨ca=7∨ca=6))∨(ca=7/\((cb=1∨cb=2∨cb=5)∨cb=7))∨((ca=1∨ca=2∨ca=5)/\cb=7)∨(ca=6/\cb=7/\yr ma b=ag)∨(ca=7/\cb=6/\yr mb a=ag)
theorem ae3(A:Lp a b ca cb ma mb=ag):S3 a b ca cb ma mb:=by
 unfold Lp at A;simp at A;rcases A with⟨h1,h2⟩|⟨h1,h2⟩|⟨h1,h2⟩|⟨h1,h2⟩|⟨h1,h2⟩|⟨h1,h2⟩|h|h
 .exact .inl ⟨h1,h2⟩
 .exact .inr (.inl ⟨h1,h2⟩)
 .exact .inr (.inr (.inl ⟨h1,h2.imp Fi id⟩))
 .exact .inr (.inr (.inr (.inl ⟨h1,h2.imp Fi id⟩)))
 .exact .inr (.inr (.inr (.inr (.inl ⟨h1,h2.imp Fi id⟩))))
 .exact .inr (.inr (.inr (.inr (.inr (.inl ⟨Fi h1,h2⟩)))))
 .exact .inr (.inr (.inr (.inr (.inr (.inr (.inl h))))))
 .exact .inr (.inr (.inr (.inr (.inr (.inr (.inr h))))))
def SZ(E:Env)(a b:Oper)(ca cb:Nat)(ma mb:List Nat)(na nb:Nat):Prop:=
 ca=0∨cb=0∨S3 a b ca cb ma mb∨(ca=4/\cb=2)∨(ca=2/\cb=4)∨((ca=1∨ca=2∨ca=5)/\(cb=1∨cb=2∨cb=5)/\((bJ E a.op&&ak ca 1)=ag->na∈mb)/\((bJ E b.op&&ak cb 1)=ag->nb∈ma))
theorem Tw(I:um E ops a b ca cb ma mb na nb=ag):(Lq ops a b=ag/\(ca=6->xU b ma=ag)/\(cb=6->xU a mb=ag))/\SZ E a b ca cb ma mb na nb:=by
 unfold um at I;rw[aM]at I;have A:=I.1;rw[aM,aM]at A;have J:∀{c:Nat} {x:Bool},(!Nat.beq c 6||x)=ag->c=6->x=ag:=λ{c x} Z d=>by simp_all
 refine⟨⟨A.1,J A.2.1,J A.2.2⟩,?_⟩;have:=I.2;simp at this;rcases this with h|h|h|h|h|h
 .exact .inl h
 .exact .inr (.inl h)
 .exact .inr (.inr (.inl (ae3 h)))
 .exact .inr (.inr (.inr (.inl h)))
 .exact .inr (.inr (.inr (.inr (.inl h))))
 .refine .inr (.inr (.inr (.inr (.inr ⟨h.1,h.2.1,λU=>?_,λU=>?_⟩))))
  .rcases h.2.2.1 with h|h
   .grind
   simp[Ng,h]
  .rcases h.2.2.2 with h|h
   .grind
   simp[Ng,h]
theorem ang(Nc:SZ E a b ca cb ma mb na nb)(Y:ca=0∨cb=0∨k+n<=h.length)(NG:bJ E a.op=ag->na< n/\na≠nb)(qE:bJ E b.op=ag->nb< n)
  (U:dg E ih keep ops k n na ca ma a t h lp df=ab (v,h1,iC,iM)) (Z:dg E ih keep ops k n nb cb mb b t h1 iC iM=ab (u,h2,lI,xN)):
  ∃h' OZ UE,dg E ih keep ops k n nb cb mb b t h lp df=ab (u,h',OZ,UE)/\dg E ih keep ops k n na ca ma a t h' OZ UE=ab (v,h2,lI,xN):=by
 by_cases D:guardOf ops t a.guard=ab af∨ca=0
 .obtain ⟨rfl,rfl,rfl,hi⟩:=PJ U D;exact⟨_,_,_,Z,hi _ _ _⟩
 by_cases G:guardOf ops t b.guard=ab af∨cb=0
 .obtain ⟨rfl,rfl,rfl,hi⟩:=PJ Z G;exact⟨_,_,_,hi _ _ _,U⟩
 rw[not_or]at D G;have A:=(H3 U).resolve_left D.1;have I:=(H3 Z).resolve_left G.1;have hkn:=(Y.resolve_left D.2).resolve_left G.2;clear Y;rcases(Nc.resolve_left D.2).resolve_left G.2 with h67|⟨rfl,rfl⟩|⟨rfl,rfl⟩|⟨H,K,Wl,S⟩
 .have f:∀{o:Oper} {c:Nat},(bJ E o.op&&ak c 1)=ag->bJ E o.op=ag:=λh=>by grind
  rcases h67 with⟨rfl,rfl|rfl⟩|⟨rfl,rfl|rfl⟩|⟨rfl,K|rfl|rfl|rfl⟩|⟨rfl,H|rfl|rfl⟩|⟨rfl,K|rfl⟩|⟨H,rfl⟩|⟨rfl,rfl,oc⟩|⟨rfl,rfl,oc⟩
  .obtain ⟨rfl,rfl,b1,x,y,J,rfl⟩:=CF A U;obtain⟨rfl,rfl,rfl,ty,a0,b0,g,p,L,M,q⟩:=om I Z;exact⟨_,_,_,q _ _ _ (GB y J _).symm,U⟩
  .obtain ⟨rfl,rfl,b1,x,y,J,rfl⟩:=CF A U;obtain⟨rfl,rfl,rfl,q⟩:=oo I Z;exact⟨_,_,_,q _ _ _ (JW λc=>.inl (GB y J c).symm),U⟩
  .obtain ⟨rfl,rfl,rfl,ty,a0,b0,g,p,L,M,j⟩:=om A U;obtain⟨rfl,rfl,b1,x,y,J,rfl⟩:=CF I Z;exact⟨_,_,_,Z,j _ _ _ (GB y J _)⟩
  .obtain ⟨rfl,rfl,rfl,j⟩:=oo A U;obtain⟨rfl,rfl,b1,x,y,J,rfl⟩:=CF I Z;exact⟨_,_,_,Z,j _ _ _ (JW λc=>.inl (GB y J c))⟩
  .obtain ⟨rfl,rfl,rfl,j⟩:=oo A U;obtain⟨rfl,rfl,s,rfl,T,_,_⟩:=vy K I Z;exact⟨_,_,_,Z,j _ _ _ (abC λC=>by grind)⟩
  .obtain ⟨rfl,rfl,rfl,j⟩:=oo A U;obtain⟨rfl,rfl,rfl,_⟩:=om I Z;grind
  .obtain ⟨rfl,rfl,rfl,j⟩:=oo A U;obtain⟨rfl,rfl,rfl,_⟩:=oo I Z;grind
  .obtain ⟨rfl,rfl,rfl,j⟩:=oo A U;obtain⟨rfl,rfl,b1,x,J,rfl,_,BG,Nj,_⟩:=CG I Z;exact⟨_,_,_,Z,j _ _ _ (size_put J BG Nj)⟩
  .obtain ⟨rfl,rfl,r,rfl,NT,_,_⟩:=vy H A U;obtain⟨rfl,rfl,rfl,q⟩:=oo I Z;exact⟨_,_,_,q _ _ _ (λc sz=>(abC (λC=>by grind) c sz).symm),U⟩
  .obtain ⟨rfl,rfl,rfl,_⟩:=om A U;obtain⟨rfl,rfl,rfl,q⟩:=oo I Z;grind
  .obtain ⟨rfl,rfl,b1,x,J,rfl,_,BG,Nj,_⟩:=CG A U;obtain⟨rfl,rfl,rfl,q⟩:=oo I Z;exact⟨_,_,_,q _ _ _ (λc sz=>(size_put J BG Nj c sz).symm),U⟩
  .obtain ⟨rfl,rfl,rfl,ty,a0,b0,g,p,_,_,j⟩:=om A U;obtain⟨rfl,rfl,s,rfl,T,_,_⟩:=vy K I Z;exact⟨_,_,_,Z,j _ _ _ (Nv λC=>by grind)⟩
  .obtain ⟨rfl,rfl,rfl,ty,a0,b0,g,p,_,_,j⟩:=om A U;obtain⟨rfl,rfl,rfl,_,_,_,_,_,_,_,q⟩:=om I Z;grind
  .obtain ⟨rfl,rfl,r,rfl,NT,_,_⟩:=vy H A U;obtain⟨rfl,rfl,rfl,_,_,_,_,_,_,_,q⟩:=om I Z;exact⟨_,_,_,q _ _ _ (Nv λC=>by grind).symm,U⟩
  .obtain ⟨rfl,rfl,b1,x,J,rfl,N,_,_,_⟩:=CG A U;obtain⟨rfl,rfl,rfl,ty,a0,b0,g,p,L,M,q⟩:=om I Z;obtain⟨ty',s,l,C⟩:=WQ oc;rw[L]at l;cases l;have iB:=Zk N C M;exact⟨_,_,_,q _ _ _ (V9 J iB).symm,U⟩
  .obtain ⟨rfl,rfl,rfl,ty,a0,b0,g,p,L,M,j⟩:=om A U;obtain⟨rfl,rfl,b1,x,J,rfl,N,_,_,_⟩:=CG I Z;obtain⟨ty',s,l,C⟩:=WQ oc;rw[L]at l;cases l;have iB:=Zk N C M;exact⟨_,_,_,Z,j _ _ _ (V9 J iB)⟩
 .obtain ⟨x,rfl⟩:=PH A U;obtain⟨rfl,rfl,rfl,hx⟩:=PK I Z;grind
 .obtain ⟨rfl,rfl,rfl,hx⟩:=PK A U;obtain⟨x,rfl⟩:=PH I Z;grind
 .obtain ⟨rfl,rfl,r,rfl,NT,Wt,j⟩:=vy H A U;obtain⟨rfl,rfl,s,rfl,T,Wu,q⟩:=vy K I Z;have f:∀{o:Oper} {c:Nat},(bJ E o.op&&ak c 1)=ag->bJ E o.op=ag:=λh=>by grind
  by_cases hr:r=ae
  .subst hr;have lG:=q h lI xN rfl rfl rfl Wu;refine⟨_,_,_,lG,?_⟩;by_cases C:s=ae
   .subst C;exact U
   .have z:=T C;have d:k+nb< h.length:=by have:=qE (f z);omega
    refine(j (dh h (k+nb) s) lI xN (pt d) (Nz d λ_=>S z) (NA d λ_=>S z) λhh=>?_).trans rfl
    rw[qC d,az (λe=>(NG (f hh)).2 (by omega))]
    exact Wt hh
  .have W:=NT hr;have R:k+na< h.length:=by have:=(NG (f W)).1;omega
   have VP:na≠nb:=(NG (f W)).2;have lG:=q h lI xN (pt R).symm (Nz R λ_=>Wl W).symm (NA R λ_=>Wl W).symm λhh=>by
    have:=Wu hh;rw[qC R,az (λe=>VP (by omega))]at this
    exact this
   refine⟨_,_,_,lG,?_⟩;by_cases C:s=ae
   .subst C;exact U
   .have z:=T C;have d:k+nb< h.length:=by have:=qE (f z);omega
    rw[anK R d (by omega)]
    refine j (dh h (k+nb) s) lI xN (pt d) (Nz d λ_=>S z) (NA d λ_=>S z) λhh=>?_
    rw[qC d,az (λe=>VP (by omega))]
    exact Wt hh
theorem ane(j:cls=0∨cls=1∨cls=2∨cls=4∨cls=5∨cls=6∨cls=7∨cls=8∨cls=9)(hi:bJ E o.op=ag->i< n)(J:k+n<=h.length)(e:dg E ih keep ops k n i cls m o t h lp df=ab (v,h1,iC,iM)):k+n<=h1.length:=by
 by_cases eH:guardOf ops t o.guard=ab af∨cls=0
 .obtain ⟨rfl,_⟩:=PJ e eH;omega
 rw[not_or]at eH;have I:=(H3 e).resolve_left eH.1;by_cases U:cls=4
 .subst U;obtain⟨x,rfl⟩:=PH I e;simp;omega
 by_cases Z:cls=6
 .subst Z;obtain⟨_,_,b,x,A,rfl,_⟩:=CG I e;simp[bL,aK,A,J]
 by_cases c:cls=7
 .subst c;obtain⟨rfl,_⟩:=om I e;omega
 by_cases d:cls=8
 .subst d;obtain⟨rfl,_⟩:=oo I e;omega
 by_cases f:cls=9
 .subst f;obtain⟨_,_,b,x,_,A,rfl⟩:=CF I e;simp[bL,aK,A,J]
 .obtain ⟨_,_,r,rfl,g,_⟩:=vy (by omega) I e
  cases r with
  |none=>trivial
  |some b=>
   have:=g (by simp)
   rw[aM]at this;have:=hi this.1;rw[pt (by omega)];omega
theorem ana{st z C:St}(f:um E ops a b ca cb ma mb na nb=ag)(U:ca=0∨cb=0∨k+n<=st.h.length)(g:bJ E a.op=ag->na< n/\na≠nb)(j:bJ E b.op=ag->nb< n)
  (c:cZ E ih keep ops k n na ca ma a st=ab z) (J:cZ E ih keep ops k n nb cb mb b z=ab C):
  ∃D,cZ E ih keep ops k n nb cb mb b st=ab D/\cZ E ih keep ops k n na ca ma a D=ab C:=by
 obtain⟨⟨l,p,q⟩,G⟩:=Tw f;have Z:∀{o:Oper} {m:List Nat} {t:Tm} {v:V},xU o m=ag->Ag m t (putDst t o.dst v):=λ{o m t v} A=>Ag.put λd he=>by
  unfold xU at A;rw[he]at A;exact Nh (by simpa using A)
 unfold Lq at l;rw[aM]at l;obtain⟨I,r⟩:=l;have h1:∀d,a.dst=ab d->d ∉ reads ops b/\b.dst≠ab d:=λd A=>by
  rw[A]at I;simp at I;exact⟨Nh I.1,λe=>by grind⟩
 have h2:∀d,b.dst=ab d->d ∉ reads ops a:=λd A=>by
  simp_all[A,Eg,Nh,r]
 obtain⟨t,h,lp,df⟩:=st;rw[CD,bu]at c;obtain⟨⟨v,H,K,d1⟩,c,rfl⟩:=c;simp[R0]at J;rw[CD,bu]at J;obtain⟨⟨u,L,M,d2⟩,J,rfl⟩:=J;rw[<-ZE (t:=t) (Ag.put λd A=>(h1 d A).1) (λs=>Z (q s))]at J
 obtain⟨h',x,y,f1,f2⟩:=ang G U g j c J;refine⟨⟨putDst t b.dst u,h',x,y⟩,by rw[CD,f1];rfl,?_⟩
 rw[CD,<-ZE (t:=t) (Ag.put λd A=>h2 d A) (λs=>Z (p s)),f2]
 simp[hY,R0];rw[anM t (λd A=>(h1 d A).2)]
end
theorem HG(E:Env):∀(a b:List Oper),news E (a++b)=news E a+news E b
 |[],b=>by show news E b=0+news E b;omega
 |o::a,b=>by show _+news E (a++b)=(_+news E a)+news E b;rw[HG E a b];omega
theorem arM(E:Env)(o:Oper)(l:List Oper):news E (o::l)=(bif bJ E o.op then 1 else 0)+news E l:=rfl
section
variable {F:Fence} {P:Program} {B:Nat} {X:Cx} {O:Nat->Addr->Prop} {w:World} {E:Env} {ih:Nat->Nat->Nat->Code->St->Option (Ex×St)}
def fZ(E:Env)(ops:Array Oper)(j:Nat):Nat:=news E (ops.toList.take j)
theorem Pu{ops:Array Oper}{j:Nat}{o:Oper}(h:ops.toList[j]? =ab o):fZ E ops (j+1)=fZ E ops j+(bif bJ E o.op then 1 else 0):=by
 unfold fZ;rw[adO,h,HG];rfl
theorem amV{ops:Array Oper}{i j:Nat}(h:i<=j):fZ E ops i<=fZ E ops j:=by
 unfold fZ;obtain⟨d,rfl⟩:∃d,j=i+d:=⟨j-i,by omega⟩
 simp[List.take_add,HG]
theorem Zq{ops:Array Oper}{i j:Nat}{o:Oper}(hi:ops.toList[i]? =ab o)(A:bJ E o.op=ag)(h:i< j):fZ E ops i< fZ E ops j:=by
 have h1:=Pu (E:=E) hi;rw[A,au]at h1;have h2:=amV (E:=E) (ops:=ops) (show i+1<=j by omega)
 omega
theorem HV{ops:Array Oper}{i:Nat}{o:Oper}(hi:ops.toList[i]? =ab o)(I:bJ E o.op=ag):fZ E ops i< news E ops.toList:=by
 have A:=(e7.1 hi).1;have:=Zq (E:=E) hi I A;grind[fZ,List.take_length]
def sN(E:Env)(ih:Nat->Nat->Nat->Code->St->Option (Ex×St))(keep:Bool)(ops:Array Oper)(ds:List (Nat×List Nat))(k n:Nat)(j:Nat)(st:St):Option St:=
 match ops.toList[j]?,ds[j]? with
 |some o,ab d=>cZ E ih keep ops k n (fZ E ops j) d.1 d.2 o st
 |_,_=>ae
def rk(E:Env)(ih:Nat->Nat->Nat->Code->St->Option (Ex×St))(keep:Bool)(ops:Array Oper)(ds:List (Nat×List Nat))(k n:Nat):List Nat->St->Option St
 |[],st=>ab st
 |j::l,st=>(sN E ih keep ops ds k n j st).bind (rk E ih keep ops ds k n l)
theorem ape(keep:Bool)(ops:Array Oper)(k n:Nat)(o:Oper)(l:List Oper)(ds:List (Nat×List Nat))(i:Nat)(st:St):
  gO E ih keep ops k n (o::l) ds i st=(match ds with
   |[]=>ae
   |(c,m)::ds=>match cZ E ih keep ops k n i c m o st with
    |none=>ae
    |some A=>gO E ih keep ops k n l ds (bif bJ E o.op then i+1 else i) A):=rfl
theorem abc{keep:Bool}{ops:Array Oper}{ds:List (Nat×List Nat)}{k n:Nat}:∀(l:List Oper) (j:Nat) (st:St),l=ops.toList.drop j->
  ∀A,gO E ih keep ops k n l (ds.drop j) (fZ E ops j) st=ab A->rk E ih keep ops ds k n (EF j l.length) st=ab A
 |[],j,st,J,A,e=>e
 |o::l,j,st,J,A,e=>by
  have g:ops.toList[j]? =ab o:=by
   have:(ops.toList.drop j)[0]? =ab o:=by rw[<-J];rfl
   grind
  have U:l=ops.toList.drop (j+1):=by
   have:(ops.toList.drop j).drop 1=l:=by rw[<-J];rfl
   simp_all
  rw[ape]at e;cases Z:ds.drop j with
  |nil=>grind
  |cons d I=>
   obtain⟨c,m⟩:=d;rw[Z]at e;simp at e;have p:ds[j]? =ab (c,m):=by
    have:(ds.drop j)[0]? =ab (c,m):=by simp[Z]
    grind
   have f:I=ds.drop (j+1):=by
    have:(ds.drop j).drop 1=I:=by simp[Z]
    rw[<-this,tU]
   cases h1:cZ E ih keep ops k n (fZ E ops j) c m o st with
   |none=>grind
   |some q=>
    rw[h1]at e;have r:(bif bJ E o.op then fZ E ops j+1 else fZ E ops j)=fZ E ops (j+1):=by
     rw[Pu g];grind
    rw[r,f]at e;have:=abc l (j+1) q U A e;show rk E ih keep ops ds k n (j::EF (j+1) l.length) st=ab A;unfold rk sN;grind
theorem am3(ops:Array Oper)(A:List Nat)(I:List (Nat×List Nat))(o:Oper)(l:List Oper)(ds:List (Nat×List Nat))(i J:Nat):
  HY E ops A I (o::l) ds i J=(match ds with
   |[]=>af
   |(c,m)::ds=>yT o i c&&(yS E ops o ((bC A i).getD 0) c m J (ops.toList.take i) (I.take i) 0 0&&HY E ops A I l ds (i+1) (bif bJ E o.op then J+1 else J))):=rfl
theorem Zw{ops:Array Oper}{LH:List Nat}{iN:List (Nat×List Nat)}:∀(l:List Oper) (j:Nat),l=ops.toList.drop j->HY E ops LH iN l (iN.drop j) j (fZ E ops j)=ag->
  ∀i o,j<=i->ops.toList[i]? =ab o->∃d,iN[i]? =ab d/\yT o i d.1=ag/\yS E ops o ((bC LH i).getD 0) d.1 d.2 (fZ E ops i) (ops.toList.take i) (iN.take i) 0 0=ag
 |[],j,I,e,i,o,J,hi=>by
  grind[At,oK]
 |p::l,j,I,e,i,o,J,hi=>by
  have f:ops.toList[j]? =ab p:=by
   have:(ops.toList.drop j)[0]? =ab p:=by rw[<-I];rfl
   grind
  have U:l=ops.toList.drop (j+1):=by
   have:(ops.toList.drop j).drop 1=l:=by rw[<-I];rfl
   simp_all
  rw[am3]at e;cases Z:iN.drop j with
  |nil=>grind
  |cons d A=>
   obtain⟨c,m⟩:=d;rw[Z]at e;have g:iN[j]? =ab (c,m):=by
    have:(iN.drop j)[0]? =ab (c,m):=by simp[Z]
    grind
   have q:A=iN.drop (j+1):=by
    have:(iN.drop j).drop 1=A:=by simp[Z]
    rw[<-this,tU]
   by_cases r:i=j
   .grind
   .have s:(bif bJ E p.op then fZ E ops j+1 else fZ E ops j)=fZ E ops (j+1):=by
     rw[Pu f];grind
    refine Zw l (j+1) U ?_ i o (by omega) hi
    grind
theorem am2(ops:Array Oper)(o:Oper)(bf c:Nat)(m:List Nat)(I:Nat)(p:Oper)(l:List Oper)(ds:List (Nat×List Nat))(j A:Nat):
  yS E ops o bf c m I (p::l) ds j A=(match ds with
   |[]=>ag
   |(J,U)::ds=>(mS bf j||um E ops p o J c U m A I)&&yS E ops o bf c m I l ds (j+1) (bif bJ E p.op then A+1 else A)):=rfl
theorem Zv{ops:Array Oper}{o:Oper}{bf c:Nat}{m:List Nat}{g:Nat}{l0:List Oper}{iN:List (Nat×List Nat)}:∀(l:List Oper) (j:Nat),l=l0.drop j->yS E ops o bf c m g l (iN.drop j) j (news E (l0.take j))=ag->
  ∀i p d,j<=i->l0[i]? =ab p->iN[i]? =ab d->mS bf i=ag∨um E ops p o d.1 c d.2 m (news E (l0.take i)) g=ag
 |[],j,J,e,i,p,d,U,hi,A=>by
  grind[At,oK]
 |q::l,j,J,e,i,p,d,U,hi,A=>by
  have x:l0[j]? =ab q:=by
   have:(l0.drop j)[0]? =ab q:=by rw[<-J];rfl
   grind
  have Z:l=l0.drop (j+1):=by
   have:(l0.drop j).drop 1=l:=by rw[<-J];rfl
   simp_all
  rw[am2]at e;cases f:iN.drop j with
  |nil=>
   grind[At,oK]
  |cons y I=>
   obtain⟨r,s⟩:=y;rw[f]at e;have z:iN[j]? =ab (r,s):=by
    have:(iN.drop j)[0]? =ab (r,s):=by simp[f]
    grind
   have C:I=iN.drop (j+1):=by
    have:(iN.drop j).drop 1=I:=by simp[f]
    rw[<-this,tU]
   by_cases D:i=j
   .grind
   .have G:(bif bJ E q.op then news E (l0.take j)+1 else news E (l0.take j))=news E (l0.take (j+1)):=by
     rw[adO,x,HG];show _=_+(_+0);grind
    refine Zv l (j+1) Z ?_ i p d (by omega) hi A
    grind
def LG(A:List Nat)(o:Oper):Nat:=o.after.toList.foldl (λs e=>bif tN .any e then tY s (tY (2^e.on) ((bC A e.on).getD 0))else s) 0
theorem afq(o:Oper)(l:List Oper)(A:List Nat):rY (o::l) A=rY l (A++[LG A o]):=rfl
theorem LD:∀(l:List Oper) (A:List Nat) (i x:Nat),A[i]? =ab x->(rY l A)[i]? =ab x
 |[],_,_,_,h=>h
 |o::l,A,i,x,h=>by
  refine LD l _ i x ?_;grind
theorem afp(l:List Oper):∀(A:List Nat) (i:Nat) (o:Oper),l[i]? =ab o->∃I:List Nat,(rY l A)[A.length+i]? =ab (LG I o)/\∀(j x:Nat),I[j]? =ab x->(rY l A)[j]? =ab x:=by
 induction l with
 |nil=>simp
 |cons o l ih=>
  intro A i p h;rw[afq];cases i with
  |zero=>
   simp at h;refine⟨A,LD l _ _ _ ?_,λj x J=>LD l _ _ _ ?_⟩
   all_goals grind
  |succ i=>
   obtain⟨I,h1,h2⟩:=ih (A++[LG A o]) i p h;grind
theorem TL{A:List Nat}{b:Nat}:∀(l:List Edge) (s:Nat),mS (l.foldl (λs e=>bif tN .any e then tY s (tY (2^e.on) ((bC A e.on).getD 0))else s) s) b=ag->
  mS s b=ag∨∃e∈l,tN .any e=ag/\(b=e.on∨∃x,A[e.on]? =ab x/\mS x b=ag)
 |[],s,h=>.inl h
 |e::l,s,h=>by
  rw[List.foldl_cons]at h;rcases TL l _ h with h|⟨J,he,U⟩
  .cases I:tN .any e with
   |false=>grind
   |true=>
    rw[I]at h;have h:mS (s|||(2^e.on|||(bC A e.on).getD 0)) b=ag:=h
    rw[aei,aei,mP,mP]at h;rcases h with h|h|h
    .exact .inl h
    .grind
    .rw [b8]at h;grind
  grind
structure K3(E:Env)(ops:Array Oper)(ds:List (Nat×List Nat))(bf:Nat->Nat):Prop where
 one:∀i o,ops.toList[i]? =ab o->∃d,ds[i]? =ab d/\yT o i d.1=ag
 all:∀i j o p d c,j< i->ops.toList[i]? =ab o->ops.toList[j]? =ab p->ds[i]? =ab d->ds[j]? =ab c->mS (bf i) j=ag∨um E ops p o c.1 d.1 c.2 d.2 (fZ E ops j) (fZ E ops i)=ag
 bit:∀i o b,ops.toList[i]? =ab o->mS (bf i) b=ag->∃e∈o.after,tN .any e=ag/\(b=e.on∨mS (bf e.on) b=ag)
theorem agU{ops:Array Oper}{ds:List (Nat×List Nat)}(h:Mm E ops ds=ag):∃bf,K3 E ops ds bf:=by
 have key:=Zw (E:=E) (ops:=ops) (LH:=rY ops.toList []) (iN:=ds) ops.toList 0 rfl h;refine⟨λi=>(bC (rY ops.toList []) i).getD 0,⟨λi o hi=>?_,λi j o p d c J hi f U g=>?_,λi o b hi A=>?_⟩⟩
 .grind
 .obtain ⟨l,h1,_,h2⟩:=key i o (bX _) hi;rw[U]at h1;cases h1;have:=Zv (E:=E) (l0:=ops.toList.take i) (iN:=ds.take i) (ops.toList.take i) 0 rfl h2 j p c (bX _) (by grind) (by grind)
  rw[List.take_take,Nat.min_eq_left (by omega)]at this
  trivial
 .obtain ⟨Z,h1,h2⟩:=afp ops.toList [] i o hi;simp at h1;rw[b8,h1]at A;rcases TL _ _ A with A|⟨e,he,I,A⟩
  .simp at A
  .refine ⟨e,by simpa using he,I,?_⟩
   rcases A with A|⟨x,q,A⟩
   all_goals simp_all
end
section
variable {F:Fence} {P:Program} {B:Nat} {X:Cx} {O:Nat->Addr->Prop} {w:World} {E:Env} {ih:Nat->Nat->Nat->Code->St->Option (Ex×St)}
 {keep:Bool} {ops:Array Oper} {ds:List (Nat×List Nat)} {bf:Nat->Nat} {k:Nat}
theorem Q3(j:Nat)(l:List Nat)(st:St){n:Nat}:rk E ih keep ops ds k n (j::l) st=(sN E ih keep ops ds k n j st).bind (rk E ih keep ops ds k n l):=rfl
theorem PE{n j:Nat}{st A:St}(e:sN E ih keep ops ds k n j st=ab A):∃o d,ops.toList[j]? =ab o/\ds[j]? =ab d/\cZ E ih keep ops k n (fZ E ops j) d.1 d.2 o st=ab A:=by
 unfold sN at e;grind
theorem ZA{n j:Nat}{st A:St}{o:Oper}{d:Nat×List Nat}(I:ops.toList[j]? =ab o)(J:ds[j]? =ab d)(e:cZ E ih keep ops k n (fZ E ops j) d.1 d.2 o st=ab A):sN E ih keep ops ds k n j st=ab A:=by
 simp[sN,I,J,e]
theorem TY(D:K3 E ops ds bf){q:Nat}{G:Oper}{f:Nat×List Nat}(g:ops.toList[q]? =ab G)(J:ds[q]? =ab f):∀(j:List Nat),(∀p∈j,p< q/\mS (bf q) p=af)->∀(l:List Nat) (st A:St),
  (f.1=0∨k+news E ops.toList<=st.h.length)->rk E ih keep ops ds k (news E ops.toList) (j++q::l) st=ab A->
  ∃mid,sN E ih keep ops ds k (news E ops.toList) q st=ab mid/\rk E ih keep ops ds k (news E ops.toList) (j++l) mid=ab A
 |[],_,l,st,A,_,e=>by
  simp_all[List.nil_append,Q3,ay,e]
 |p::j,H,l,st,A,U,e=>by
  rw[adA,Q3,ay]at e;obtain⟨K,M,N⟩:=e;obtain⟨op,dp,hp,r,I⟩:=PE M;obtain⟨s,x⟩:=H p (by simp)
  have y:=(D.all q p G op f dp s g hp J r).resolve_left (by simp[x])
  obtain⟨_,R⟩:=Tw y;have c:f.1=0∨k+news E ops.toList<=K.h.length:=by
   by_cases S:f.1=0
   .omega
   .refine .inr ?_;have T:=U.resolve_left S;rw[CD,bu]at I;obtain⟨⟨v,L,W,d1⟩,I,rfl⟩:=I;refine ane ?_ (λd=>HV hp d) T I
    rcases R with h|h|h|h|h|h
    .omega
    .omega
    .rcases h with h|h|h|h|h|h|h|h<;>omega
    all_goals omega
  obtain⟨s2,f1,f2⟩:=TY D g J j (λp hp=>H p (by simp[hp])) l K A c N
  obtain⟨Y,dq',z,Z,C⟩:=PE f1;rw[g]at z;cases z;rw[J]at Z;cases Z;obtain⟨s',L,g2⟩:=ana y (U.elim (λh=>.inr (.inl h)) λh=>.inr (.inr h)) (λd=>⟨HV hp d,by have:=Zq (E:=E) hp d s;omega⟩) (λd=>HV g d) I C
  refine⟨s',ZA g J L,?_⟩;rw[adA,Q3,ZA hp r g2];exact f2
theorem ae1(NB:iL F P E ih)(hE:fv F P E)(hF:dk F)(hd:K3 E ops ds bf){q nt:Nat}(aix:∀o∈ops.toList,pj nt o=ag){K:St}{X0:Cx}{O0:Nat->Addr->Prop}{w0:World}{h0:Heap}
  {Q:Exit->Act->World->Prop} (hQ:∀X' O' w' a',SR nt B X' O' w' a' K->Step B X0 O0 w0 h0 X' O' w' K.h->Q .normal a' w'):
  ∀(fuel:Nat) (R:List Nat) (A:Array Bool) (st:St) (X:Cx) (O:Nat->Addr->Prop) (w:World) (a:Act),R.length<=fuel->R.Pairwise (· < ·)->A.size=ops.size->
   (∀j,A.getD j ag=af↔j∈R)->(∀j,j ∉ R->j< ops.size->∀b,mS (bf j) b=ag->b ∉ R)->
   rk E ih keep ops ds k (news E ops.toList) R st=ab K->SR nt B X O w a st->PS X k (news E ops.toList) st.h->k+news E ops.toList<=st.h.length->Step B X0 O0 w0 h0 X O w st.h->
   wpAnyIn F q P .any ops Q fuel A a w:=by
 intro fuel;have ready:∀(R:List Nat) (A:Array Bool),R.Pairwise (· < ·)->A.size=ops.size->(∀j,A.getD j ag=af↔j∈R)->KF .any ops A=[]->R=[]:=by
  intro R A hR L U hr;cases R with
  |nil=>rfl
  |cons j R=>
   exfalso;have hj:j∈KF .any ops A:=by
    rw[mem_ready];have yh:=(U j).2 (by simp)
    refine⟨yh,?_⟩;have Wg:j< ops.size:=by
     grind
    refine⟨ops[j],by simp,λe he G=>?_⟩
    obtain⟨d,_,h1⟩:=hd.one j ops[j] (by simp)
    unfold yT at h1;rw[aM]at h1;have h2:=l9.1 h1.1 e (by simpa using he)
    rw[G]at h2;have h2:e.on< j:=by simp_all
    cases hg:A.getD e.on ag with
    |false=>
     have:=(U e.on).1 hg;rcases eT.1 this with h|h
     .omega
     .have:=(ED.1 hR).1 _ h;omega
    |true=>
     grind
   grind
 induction fuel with
 |zero=>
  intro R A st X O w a hl hR L U T e s W z Y;obtain rfl:R=[]:=List.length_eq_zero_iff.1 (by omega)
  cases e;refine⟨?_,hQ X O w a s Y⟩;cases hr:KF .any ops A with
  |nil=>rfl
  |cons j l=>
   have:j∈KF .any ops A:=by simp[hr]
   rw[mem_ready]at this;grind
 |succ fuel N5=>
  intro R A st X O w a hl hR L U T e s W z Y;refine⟨λhr=>?_,λf Wy=>?_⟩
  .obtain rfl:=ready R A hR L U hr;cases e;grind
  .rw [mem_ready]at Wy;obtain⟨hlq,oq,NP,M⟩:=Wy;have hqR:=(U f).1 hlq;obtain⟨N,S,rfl⟩:=List.append_of_mem hqR;have I:ops.toList[f]? =ab oq:=by simpa using NP
   have hqs:f< ops.size:=(tG.1 NP).1;obtain⟨dq,V1,g⟩:=hd.one f oq I;have Z:∀b,mS (bf f) b=ag->b ∉ N++f::S:=λb G C=>by
    obtain⟨e',he,hbi,G⟩:=hd.bit f oq b I G;have c:=M e' he hbi;have BP:e'.on ∉ N++f::S:=λh=>by
     have:=(U e'.on).2 h;rw[k0]at c this;cases H:A[e'.on]? with
     |none=>rw[H]at c;cases c
     |some x=>rw[H]at c this;simp only[Option.getD_some]at c this;rw[c]at this;cases this
    rcases G with rfl|G
    .exact BP C
    .refine T e'.on BP ?_ b G C;rcases Nat.lt_or_ge e'.on ops.size with h|h
     .exact h
     .rw [k0,Array.getElem?_eq_none (by omega)]at c;cases c
   have J:=List.pairwise_append.1 hR;obtain⟨mid,e1,e2⟩:=TY hd I V1 N (λp hp=>⟨J.2.2 p hp f (by simp),by
    cases H:mS (bf f) p with
    |false=>rfl
    |true=>exact absurd (by simp[hp]) (Z p H)⟩) S st K (.inr z) e
   obtain⟨oq2,dq2,h1,h2,e1'⟩:=PE e1;rw[I]at h1;cases h1;rw[V1]at h2;cases h2;have D:(dq.1=0->su oq.op=ag)/\(dq.1=2->isSimple oq.op=ag):=by
    unfold yT at g;rw[aM]at g;refine⟨λh=>?_,λh=>?_⟩
    .have:=g.2;rw[h]at this;exact this
    .have:=g.2;rw[h]at this;exact this
   unfold wpOpIn;rw[NP];simp only;refine am9 NB hE hF e1' s (aix oq (List.mem_of_getElem? I)) D.1 D.2 W (λhn=>HV I hn) z λX' O' w' a' s' hs=>?_
   have hnq:∀x∈N++S,x≠f:=λx H he=>by
    subst he;rcases cB.1 H with H|H
    .exact gE _ (J.2.2 _ H _ (by simp))
    .exact gE _ ((ED.1 J.2.1).1 _ H)
   have r:∀x,x∈N++f::S↔x=f∨x∈N++S:=λx=>by simp only[cB,eT];constructor<;>(intro h;rcases h with h|h|h<;>simp[h])
   refine N5 (N++S) _ mid X' O' w' a' (by simp only[dD,jP]at hl|-;omega) ?_ (by simp[L]) (λj=>?_) (λj hj Wg b G C=>?_) e2 s' (W.step z hs) (bU z hs.len) (Y.trans hs)
   .exact hR.sublist ((aq2 N).append (List.sublist_cons_self f S))
   .by_cases y:f=j
    .subst y;constructor
     .intro h;exfalso;rw[k0,Array.getElem?_setIfInBounds_self_of_lt (by omega)]at h;cases h
     .intro h;exact absurd rfl (hnq _ h)
    .rw [getD_set_ne ag y,U j,r];constructor
     .intro h;exact h.resolve_left (λe=>y e.symm)
     .exact .inr
   .by_cases y:j=f
    .subst y;exact Z b G ((r b).2 (.inr C))
    .exact T j (λh=>((r j).1 h).elim y hj) Wg b G ((r b).2 (.inr C))
end
section
variable {F:Fence} {n:Nat} {P:Program} {Q:Exit->Act->World->Prop} {a:Act} {w:World}
theorem least{p:Nat->Prop}(h:∃m,p m):∃m,p m/\∀k,p k->m<=k:=by
 obtain⟨m,hm⟩:=h;induction m using aeg with
 |_ m ih=>
  grind
open Classical in
theorem aqM{c:Code}(J:Nat->Act->World->Prop){m:Nat}(Z:J m a w)
  (round:∀m a w,J m a w->c.wpIn F n P (Exit.then (λI w'=>∃A,A< m/\J A I w') Q) a w):(Code.loop c).wpIn F n P Q a w:=by
 refine wpIn_loop (λa w=>∃m,J m a w) (λa w=>if h:∃m,J m a w then Classical.choose (least h)else 0) ⟨m,Z⟩ λa w h=>?_
 refine wpIn_mono (round _ a w (Classical.choose_spec (least h)).1) λe I w' he=>?_
 cases e<;>first|obtain⟨A,d,U⟩:=he;refine⟨⟨A,U⟩,?_⟩;rw[dif_pos ⟨A,U⟩];grind|exact he
theorem J4{b:Frame}{k:List Item}{cs:List Frame}{c:Code}:step P (lone (b.atR a (.code (.scope c)::k)) cs w)=.next (lone (b.atR a (.code c::.inScope c::k)) cs w):=
 step_lone_go (by rfl)
theorem ap1{b:Frame}{k:List Item}{cs:List Frame}{c:Code}:step P (lone (b.atR a (.inScope c::k)) cs w)=.next (lone (b.atR a k) cs w):=
 step_lone_go (by rfl)
theorem aqN{c:Code}(h:c.wpIn F n P (Exit.noGoto Q) a w):(Code.scope c).wpIn F n P Q a w:=by
 intro b k cs J U Z;have I:(lone (b.atR a (.code (.scope c)::k)) cs w).fenced P F:=fenced_calm U Z rfl;obtain⟨e,d,f,g,A⟩:=h b _ cs J U Z;cases e with
 |normal=>exact⟨.normal,d,f,g,.head I J4 (StepsIn.trans A (.one (fenced_calm U Z rfl) ap1))⟩
 |exit id=>
  exact⟨.exit id,d,f,g,λp q=>.head I J4 (A.1 p (by trivial)),
   λj q=>let⟨r,h1,h2⟩:=A.2 j (by trivial);⟨r,h1,.head I J4 h2⟩⟩
 |goto l=>trivial
 |ret|panic ch|outgrown=>exact⟨_,d,f,g,.of_steps (.one I J4) A⟩
end
section
variable {F:Fence} {P:Program} {B:Nat} {X:Cx} {O:Nat->Addr->Prop} {w:World} {h:Heap} {E:Env} {ih:Nat->Nat->Nat->Code->St->Option (Ex×St)}
theorem aa6(U:HR B X O w h) n{w':World}(Z:Below w.heap.size w w'):HR B X O w' (h++kU n ae)/\Step B X O w h X O w' (h++kU n ae):=by
 obtain⟨A,I⟩:=Gp U Z;have J:∀b,aq (h++kU n _) b=aq h b:=λb=>by
  rw[GA];split
  .rfl
  .have h2:aq h b=ae:=by rw[cF,jO (by omega)];rfl
   rw[h2,cF,nC,List.getElem?_replicate];split<;>rfl
 refine⟨⟨λb k e=>A.cy b k (by grind),A.own,A.fj,λb bi e=>by have:=A.lt b bi e;simp;omega,A.ci,A.wb⟩,I.up,by simp,?_⟩
 exact⟨λb bi e c=>by rw[J];omega,I.fr.M,I.fr.own,I.fr.cell,I.fr.obj,I.fr.cy,λb e=>by grind,λb _ e _=>e⟩
def sI(o:Oper):=match o.op with|.defer _=>af|_=>ag
theorem yN{o:Oper}(h:sI o=ag) rd ρ:o.semAt rd ρ=execOp ρ o:=by
 unfold sI at h;cases rd<;>first|rename_i l;unfold Oper.semAt;grind|rfl
theorem aqy{F:Fence}{n:Nat}{o:Oper}{a:Act}{K J:Act->World->Prop}{Q:Exit->Act->World->Prop} rd(I:∀a w,K a w->J a w){r:Result Next}(h:o.uponIn F n P a K Q r):o.uponIn (qx F rd) n P a J Q r:=by
 cases r with
 |ok x w'=>
  cases x<;>simp[ac6]at h|-;case value u=>simp[I,h]
  case skip=>simp[I,h]
  case defer d=>simp[I,h]
  case enter f args=>
   refine⟨h.1,wK (F:=F) h.2 λe A he=>?_⟩
   grind
  case row row args=>exact⟨h.1,RowsIn.mono (F:=F) h.2 λu A he=>I _ _ he⟩
  case round l f tmps assign body=>
   refine⟨h.1,ac9 (F:=F) h.2 λe A he=>?_⟩
   grind
 |halt x w'=>
  cases x<;>simp[ac6]at h|-;omega
theorem ZF{F:Fence}(hF:F.round=ae){n:Nat}{o:Oper}{a:Act}{w:World}{K I:Act->World->Prop}{Q:Exit->Act->World->Prop}{rd:Option Nat}(A:rd=ae∨sI o=ag)(J:∀a w,K a w->I a w)(h:o.wpIn F n P a w K Q):o.wpIn (qx F rd) n P a w I Q:=by
 refine⟨h.1,?_⟩;have h2:=h.2;rw[hF]at h2;have:o.semAt (qx F rd).round a.eval=o.semAt ae a.eval:=by
  rcases A with rfl|A
  .rfl
  simp[yN,A]
 rw[this];exact aqy rd J h2
theorem Kj{F:Fence}(hF:F.round=ae){n:Nat}{ops:Array Oper}{Q:Exit->Act->World->Prop}{rd:Option Nat}(I:rd=ae∨∀o∈ops.toList,sI o=ag):∀l a w,wpOpsIn F n P ops Q l a w->wpOpsIn (qx F rd) n P ops Q l a w
 |[],_,_,h=>h
 |i::l,a,w,h=>by
  simp[wpOpsIn]at h|-;cases J:ops[i]? with
  |none=>rw[J]at h;exact Kj hF I l a w h
  |some o=>
   rw[J]at h;simp at h|-;have A:o∈ops.toList:=by
    grind
   split
   .rename_i hw;rw[aK hw]at h;exact ZF hF (I.imp id λh=>h o A) (λa w h=>Kj hF I l a w h) h
   .rename_i hw;rw[az hw]at h;exact⟨h.1,Kj hF I l _ w h.2⟩
theorem Ki{F:Fence}(hF:F.round=ae){n:Nat}{U:Region.Mode}{ops:Array Oper}{Q:Exit->Act->World->Prop}{rd:Option Nat}(J:rd=ae∨∀o∈ops.toList,sI o=ag):∀fuel A a w,wpAnyIn F n P U ops Q fuel A a w->wpAnyIn (qx F rd) n P U ops Q fuel A a w
 |0,_,_,_,h=>h
 |fuel+1,A,a,w,h=>by
  refine⟨h.1,λi hi=>?_⟩
  have h2:=h.2 i hi;unfold wpOpIn at h2|-;cases Z:ops[i]? with
  |none=>rw[Z]at h2;exact Ki hF J _ _ a w h2
  |some o=>
   rw[Z]at h2;simp at h2|-;have I:o∈ops.toList:=by
    grind
   split
   .rename_i hw;rw[aK hw]at h2;exact ZF hF (J.imp id λh=>h o I) (λa w h=>Ki hF J _ _ a w h) h2
   .rename_i hw;rw[az hw]at h2;exact⟨h2.1,Ki hF J _ _ _ w h2.2⟩
theorem HR.swap(A:HR B X O w h){b:Nat}{k I:bK}(J:aq h b=ab k)(U:BR X w (O b) b I):HR B X O w (aD h b I):=
 ⟨λc q e=>by
  rw[bG h b c _ (cX (dI J))]at e;split at e
  .grind
  .exact A.cy c q e,A.own,A.fj,λc bi e=>by rw[bL,aK (dI J)];exact A.lt c bi e,A.ci,A.wb⟩
theorem FR.swap{b:Nat}{k A:bK}(J:aq h b=ab k):FR X O w h X O w (aD h b A):=by
 have I:∀c,aq h c=ae↔aq (aD h b A) c=ae:=λc=>by
  rw[bG h b c _ (cX (dI J))];grind
 exact⟨λc _ _ e=>(I c).1 e,λ_ _ e _=>e,λ_ _ _ _ _ o=>o,λ_ _ _ _ _ _ _ e=>⟨e,rfl⟩,λ_ _ _ _ _ _ _ e _=>e,λ_ _ _ _ _ _ _=>rfl,λc e=>(I c).2 e,λ_ _ e _=>e⟩
theorem VF(y:HR B X O w h) a(v:V):∃X' O',HR B X' O' w (my a h v)/\Step B X O w h X' O' w (my a h v):=by
 have same:∃X' O',HR B X' O' w h/\Step B X O w h X' O' w h:=⟨X,O,y,.refl ..⟩;unfold my;split
 .rename_i b;split
  .rename_i u Z;split
   .rename_i d N;cases A:fi h u.owns with
    |false=>trivial
    |true=>
     obtain⟨C,z,k1,k2,k3,S,k5,k6,T,D,W⟩:=xE u.owns y A;have I:=A6 A k2 T;have Y:b ∉ u.owns:=λhm=>by
      obtain⟨g,s,ro,l,e⟩:=AL A b hm;grind
     have U:=((D b).2 λg s ro l e=>by grind).trans Z
     obtain⟨bi,f,ws,h1,h2,h3,h4,R,h6,G,H⟩:=y.cy b _ Z;have K:Step B X O w h (X.gx C) z w (close h u.owns):=⟨Up.gx _ k2 S,by omega,A5 A (λb Z=>(D b).2 Z) (λb=>(D b).1) W⟩
     refine⟨X.gx C,z,k1.swap U ⟨bi,f,ws,h1,h2,h3,h4,R,?_,G,λj q1 q2=>?_⟩,K.trans ⟨.refl _ _ _ _,?_,FR.swap U⟩⟩
     .exact qu y I N (λb Z=>Z) h6
     .obtain ⟨o,x⟩:=H j q1 q2;grind
     .show _<=(aD (close h u.owns) b (.cell (.im d))).length;rw[bL,aK (dI U)];omega
   omega
  omega
 .rename_i b _ _ _ _;split
  .rename_i g s l Z;split
   .rename_i ds N;cases A:fi h (V.de l)with
    |false=>trivial
    |true=>
     obtain⟨C,z,k1,k2,k3,S,k5,k6,T,D,W⟩:=xE (V.de l) y A;have I:=A6 A k2 T;have Y:b ∉ V.de l:=λhm=>by
      obtain⟨g,s,ro,l,e⟩:=AL A b hm;grind
     have U:=((D b).2 λg s ro l e=>by grind).trans Z
     obtain⟨bi,h1,h2,h3,h4,R,h6⟩:=y.cy b _ Z;have K:Step B X O w h (X.gx C) z w (close h (V.de l)):=⟨Up.gx _ k2 S,by omega,A5 A (λb Z=>(D b).2 Z) (λb=>(D b).1) W⟩
     have L:∀vs ds,V.cP (gM h) vs=ab ds->ds.length=vs.length:=by
      intro vs;induction vs with
      |nil=>simp[V.cP]
      |cons v vs ih=>
       grind[V.cP]
     have hl:=L _ _ N;have BF:BR (X.gx C) w (z b) b (bif a then .arr g s 0 ds else .bN g s (jj ds)):=by
      have key:bi.cap=0∨(bi.s=s/\∃f J,bi.base=ab f/\f.spot=ae/\bw C ds af J/\(∀ws∈J,ws.length=s)/\cz w.cell? f J.flatten/\fw w (z b) f 0 (bi.cap*s)):=by
       refine h6.imp id ?_;rintro⟨es,f,J,G,H,M,p,q,r⟩;refine⟨es,f,J,G,H,?_,p,q,λj q1 q2=>?_⟩
       .exact Be I.1 (λb g off len l Z e aR x m ho=>PM y I 4 b g off len l Z e aR x m ho) _ _ af _ N (λc hc=>hc) M
       .obtain ⟨o,x⟩:=r j q1 q2;grind
      cases a<;>first|exact⟨bi,h1,h2,h3,⟨by omega,bX _⟩,R,key.imp id λ⟨es,f,J,G,H,M,p,q,r⟩=>⟨es,f,J,G,H,M,p,q,by rw[Nat.zero_mul];exact λj v e=>by trivial,by grind⟩⟩|exact⟨bi,h1,h2,h3,by simp_all,R,key.imp id λ⟨es,f,J,G,H,M,p,q,r⟩=>⟨es,f,J,G,H,by rw[mC];exact ug.2 M,p,q,r⟩⟩
     refine⟨X.gx C,z,k1.swap U BF,K.trans ⟨.refl _ _ _ _,?_,FR.swap U⟩⟩
     .show _<=(aD (close h (V.de l)) b (bif a then .arr g s 0 ds else .bN g s (jj ds))).length;rw[bL,aK (dI U)];omega
   omega
  omega
 omega
theorem aqj(J:HR B X O w h) v:HR B X O w (wx h v)/\Step B X O w h X O w (wx h v):=by
 have same:HR B X O w h/\Step B X O w h X O w h:=⟨J,.refl ..⟩;unfold wx;split
 .split
  .split
   .rename_i c _ _ n _ _ _ r s ro l I;cases U:bp ro n&&bp n _ with
    |false=>trivial
    |true=>
     rw[aM,bn]at U;have h1:=gX U.1;have h2:=gX U.2;show HR B X O w _/\Step B X O w h X O w (aD h c _);have M:(l.take n).length=n:=by grind
     obtain⟨bi,x,y,z,N,C,D⟩:=J.cy c _ I;have Z:BR X w (O c) c (.arr r s ro (l.take n)):=by
      refine⟨bi,x,y,z,⟨by omega,by omega⟩,C,D.imp id ?_⟩
      rintro⟨es,G,d,H,K,L,A,f,g,p⟩;refine⟨es,G,d.take n,H,K,cf.2 ((cf.1 L).take n),λws q=>A ws (List.mem_of_mem_take q),λj v e=>?_,λj v e=>?_,p⟩
      .rw [bc.jh A,pZ]at e;split at e
       .exact f j v e
       trivial
      .rw [bc.jh A,pZ]at e;split at e
       .exact g j v (by grind)
       trivial
     exact⟨J.swap I Z,⟨.refl _ _ _ _,by rw[bL,aK (dI I)];omega,FR.swap I⟩⟩
   omega
  omega
 omega
theorem MR{q:Bool}{f id nt:Nat}{a:Act}{st:St}(s:SR nt B X O w a st):∃X' O',SR nt B X' O' w a (fL E q f id st)/\Step B X O w st.h X' O' w (fL E q f id st).h:=by
 unfold fL;split
 .exact ⟨X,O,s,.refl ..⟩
 .rename_i b k A;split
  .obtain ⟨X',O',h1,h2⟩:=VF s.h _ _;exact⟨X',O',s.step h1 h2,h2⟩
  .obtain ⟨X',O',h1,h2⟩:=VF s.h _ _;exact⟨X',O',s.step h1 h2,h2⟩
  .obtain ⟨h1,h2⟩:=aqj s.h _;exact⟨X,O,s.step h1 h2,h2⟩
  .exact ⟨X,O,s,.refl ..⟩
theorem oO.step{fb:Nat}{c A:Code}{rd:Option Nat}(h:oO w fb c rd){X':Cx}{O':Nat->Addr->Prop}{w':World}{I h':Heap}(s:Step B X O w I X' O' w' h')(J:gq c=ag->gq A=ag):oO w' fb A rd:=by
 cases rd<;>first|rename_i l;obtain⟨h1,h2,r,h3⟩:=h;exact⟨h1,J h2,r,s.up.obj l _ h3 rfl⟩|exact h
theorem oO.sub{fb:Nat}{c A:Code}{rd:Option Nat}(h:oO w fb c rd)(I:gq c=ag->gq A=ag):oO w fb A rd:=by
 cases rd<;>first|obtain⟨h1,h2,r,h3⟩:=h;exact⟨h1,I h2,r,h3⟩|exact h
theorem oO.ops{fb id:Nat}{ops:Array Oper}{d:Bool}{rd:Option Nat}(h:oO w fb (.region id ops d) rd):rd=ae∨∀o∈ops.toList,sI o=ag:=by
 cases rd<;>first|rename_i l;obtain⟨h1,h2,r,h3⟩:=h;refine .inr λo A=>?_;have:=l9.1 h2 o A;trivial|simp
theorem aoW(U:iL F P E ih)(d:fv F P E)(hF:dk F){f id:Nat}{ops:Array Oper}{st A:St}{nt q:Nat}{a:Act}(e:rj E ih f id ops st=ab A)(s:SR nt B X O w a st)
  (I:∀o∈ops.toList,pj nt o=ag) (J:(match E.dr f id with|some ds=>Mm E ops ds|none=>ag)=ag) {rd:Option Nat} (Z:rd=ae∨∀o∈ops.toList,sI o=ag):(Code.region id ops ag).wpIn (qx F rd) q P (qd nt B X O w st (.nm,A)) a w:=by
 unfold rj at e;rw[ay]at e;obtain⟨ds,c,e⟩:=e;rw[c]at J;obtain⟨bf,p⟩:=agU J;refine wpIn_region_any d.mixed (Ki hF.round Z _ _ _ _ ?_);obtain⟨r,g⟩:=aa6 s.h _ (w':={w with drawn:=w.drawn+1}) (Below.refl _ w).drew;have l:=abc (ds:=ds) _ 0 _ rfl _ e;rw[bn]at l;refine ae1 (F:=F) (X0:=X) (O0:=O) (w0:=w) (h0:=st.h) U d hF p I (λX' O' w' C x y=>⟨trivial,X',O',x,y⟩) _ _ _ _ X O _ a (by simp) List.pairwise_lt_range' (by simp) (λj=>?_) (λj D z=>?_) l (s.step r g) (λb h1 h2 _=>?_) (by simp) g
 .rw [k0];grind
 .grind
 .cases hm:X.M b<;>first|rename_i bi;have:=s.h.lt b bi hm;omega|rfl
theorem aiB h k:aD h h.length k=h++[ab k]:=by
 induction h with
 |nil=>rfl
 |cons b h ih=>simp[GI,ih]
theorem aim(I:HR B X O w h){w':World}(J:dP w w')(hB:Below w.heap.size w w') D(h1:w.heap.size<=D)(h2:D< w'.heap.size):HR B (X.du h.length ⟨0,ae,0,0,ag⟩) (λb=>if b=h.length then λa=>a=⟨D,0,ae⟩else O b) w' (h++[ae])/\
  Step B X O w h (X.du h.length ⟨0,ae,0,0,ag⟩) (λb=>if b=h.length then λa=>a=⟨D,0,ae⟩else O b) w' (h++[ae]):=by
 have l:=kJ I;have Z:∀b,aq _ b=aq h b:=λb=>by
  have:=GA h [ae] b;rw[this];split
  .rfl
  .have h2:aq h b=ae:=by rw[cF,jO (by omega)];rfl
   rw[cF];grind
 have d:∀b k,aq h b=ab k->b≠h.length:=λb k e=>aea (dI e)
 have j:∀b bj,X.M b=ab bj->b≠h.length:=λb bj e p=>by grind
 have q:=λa v e=>World.block_lt_of_cell? w a (I.ci a v e)
 refine⟨⟨λb k e=>?_,λb a o=>?_,λb c a o f=>?_,λb bj e=>?_,I.ci.keep J,bU I.wb hB.size⟩,⟨Up.add l (hB.mono I.wb) J _ _,by simp,⟨λb bj e r=>by simp[Z,r],λb bj e _=>by rw[Cx.ft X _ (j b bj e)];exact e,λb bj e _ a o=>by grind,
  λb bj _ _ a _ v ev=>⟨J.cell _ _ ev,J.frozen _ _ ev⟩,λb bj _ _ a _ o s _=>J.obj _ _ s,λb bj _ _ g _ x=>J.block g x,λb e=>by grind,λb p e _=>by rw[Cx.ft X _ (aea p)];exact e⟩⟩⟩
 .rw [Z]at e;simp[az (d b k e)];exact(I.cy b k e).later I.lt (Cx.tC _ l) (Cx.ft X _ (d b k e)) J λ_ h=>h
 .by_cases A:b=h.length
  .simp [A]at o;subst o;refine⟨bU I.wb h1,h2,?_⟩;show X.C _=ae;cases G:X.C ⟨D,0,ae⟩<;>first|grind|rfl
  .simp [az A]at o;obtain⟨y,q2,z⟩:=I.own b a o;exact⟨y,eU q2 hB.size,z⟩
 .by_cases A:b=h.length<;>by_cases U:c=h.length
  .omega
  .simp [A]at o;simp[az U]at f;have:=(I.own c _ f).2.1;grind
  .simp [U]at f;simp[az A]at o;have:=(I.own b _ o).2.1;grind
  .simp [az A]at o;simp[az U]at f;exact I.fj b c a o f
 .by_cases A:b=h.length
  .subst A;simp
  .rw [Cx.ft X _ A]at e;have:=I.lt b bj e;simp;omega
theorem anD(A:HR B X O w h):HR B X O w (h++[ae])/\Step B X O w h X O w (h++[ae]):=by
 have:=aa6 A 1 (Below.refl _ w);trivial
theorem ag2(q:HR B X O w h){fb:Nat}{c:Code}{rd:Option Nat}(J:oO w fb c rd)(fn:Nat)(tmps:Array Value)(ps:Array Nat)(bO body:Code){f:Nat}{t:Tm}(N:TR X t tmps)(R:∀p∈ps.toList,p< tmps.size)(k1:Gh.K f tmps.size bO)(k2:Gh.K f tmps.size body):
  ∃(l:Nat) (mark:List Deferred) (U:World) (r:Loop) (e:Cx) (s:Nat->Addr->Prop) (bi:BI),(Instr.enterLoop fn tmps ps bO body rd).run P w=.ok (l,mark) U/\U.heap[l]? =ab (.loop r)/\r.state=.ready/\r.pending=ae/\w.heap.size<=l/\
   HR B e s U (h++[ae,ab (.lp f t ps.toList bO body)])/\Step B X O w h e s U (h++[ae,ab (.lp f t ps.toList bO body)])/\e.M (h.length+1)=ab bi/\bi.base=ab ⟨l,0,ae⟩/\bi.fix=ag/\
   ((fb=0/\∃D S,mark=[{target:=.collected D,args:=#[]}]/\w.heap.size<=D/\D≠l/\U.heap[D]? =ab (.deferred (ab []))/\e.M h.length=ab S/\s h.length ⟨D,0,ae⟩)∨(fb≠0/\mark=[])):=by
 have last:∀{X':Cx} {O':Nat->Addr->Prop} {w':World} (r:Loop),HR B X' O' w' (h++[ae])->Step B X O w h X' O' w' (h++[ae])->r.state=.ready->r.pending=ae->r.params=ps->r.assign=bO->r.body=body->r.tmps=tmps->
   HR B (X'.du (h.length+1) ⟨0,ab ⟨w'.heap.size,0,ae⟩,0,0,ag⟩) (λb=>if b=h.length+1 then(λa=>a=⟨w'.heap.size,0,ae⟩)else O' b) (w'.alloc (.loop r)) (h++[ae,ab (.lp f t ps.toList bO body)])/\
   Step B X O w h (X'.du (h.length+1) ⟨0,ab ⟨w'.heap.size,0,ae⟩,0,0,ag⟩) (λb=>if b=h.length+1 then(λa=>a=⟨w'.heap.size,0,ae⟩)else O' b) (w'.alloc (.loop r)) (h++[ae,ab (.lp f t ps.toList bO body)]):=λ{X' O' w'} r A st T W Y e4 e5 g=>by
  have I:(h++[ae]).length=h.length+1:=by simp
  have j:X'.M (h.length+1)=ae:=by have:=kJ A;simp_all[I]
  have x:=dP.alloc w' (.loop r);have Z:(w'.alloc (.loop r)).heap.size=w'.heap.size+1:=by simp
  have y:h++[ae,ab (.lp f t ps.toList bO body)]=aD (h++[ae]) (h.length+1) (.lp f t ps.toList bO body):=by
   rw[<-I,aiB];simp
  have hn:aq (h++[ae]) (h.length+1)=ae:=by rw[cF,jO (by simp)];rfl
  have z:TR X' t tmps:=N.mono q.lt st.up.le;have C:BR (X'.du (h.length+1) ⟨0,ab ⟨w'.heap.size,0,ae⟩,0,0,ag⟩) (w'.alloc (.loop r)) (λa=>a=⟨w'.heap.size,0,ae⟩) (h.length+1) (.lp f t ps.toList bO body):=by
   refine⟨_,w'.heap.size,r,Cx.eL _ _ _,rfl,rfl,rfl,KJ w' _,rfl,⟨T,W,by rw[Y],e4,e5,?_,by rw[g];omega,by simp[g,k1],by simp[g,k2]⟩⟩
   rw[g];exact z.mono A.lt (Cx.tC _ j)
  rw[y];have d:=A.add hn j (by omega) x (by omega) ⟨0,ab ⟨w'.heap.size,0,ae⟩,0,0,ag⟩ (λa=>a=⟨w'.heap.size,0,ae⟩) (.lp f t ps.toList bO body) (λa ha=>by subst ha;simp) C
  refine⟨d,st.trans ⟨Up.add j ((LF w' (.loop r)).mono A.wb) x _ _,by grind,FR.add j (by omega) x _ _ _⟩⟩
 cases rd with
 |none=>
  let w':=w.alloc (.deferred (ab []));have Z:w'.heap.size=w.heap.size+1:=by simp[w']
  obtain⟨G,q2⟩:=aim q (dP.alloc w (.deferred (ab []))) (LF w (.deferred (ab []))) w.heap.size (aJ _) (by simp)
  let r:Loop:={state:=.ready,pending:=ae,fn,tmps,params:=ps,assign:=bO,body,defers:=w.heap.size};obtain⟨H,L⟩:=last r G q2 rfl rfl rfl rfl rfl rfl;refine⟨w.heap.size+1,[{target:=.collected w.heap.size,args:=#[]}],w'.alloc (.loop r),r,_,_,_,run_enterLoop_outer _ _ _ _ _,?_,rfl,rfl,by omega,H,L,Cx.eL _ _ _,by simp,rfl,.inl ⟨J,w.heap.size,⟨0,ae,0,0,ag⟩,rfl,aJ _,by omega,?_,?_,?_⟩⟩
  .have:=KJ w' (.loop r);simp_all[Z]
  .exact (Below.heap_alloc w' _ _ (by omega)).trans (KJ w _)
  .rw [Cx.ft _ _ (by omega)];simp[Cx.eL]
  .simp
 |some l0=>
  obtain⟨h1,h2,r0,h3⟩:=J;obtain⟨G,q2⟩:=anD q;let r:Loop:={state:=.ready,pending:=ae,fn,tmps,params:=ps,assign:=bO,body,defers:=r0.defers};obtain⟨H,L⟩:=last r G q2 rfl rfl rfl rfl rfl rfl;exact⟨w.heap.size,_,_,r,_,_,_,run_enterLoop_inner h3 _ _ _ _ _,KJ w _,rfl,rfl,aJ _,H,L,Cx.eL _ _ _,rfl,rfl,.inr ⟨h1,rfl⟩⟩
theorem aZ.Yx{α β:Type}{R:α->β->Prop}:∀{l:List α} {r:List β},aZ R l r->∀{y:β},y∈r->∃x,R x y
 |[],r,h,y,A=>by grind[aZ]
 |x::l,r,h,y,A=>by
  obtain⟨z,I,rfl,h1,h2⟩:=h;rcases eT.1 A with rfl|A
  .exact ⟨x,h1⟩
  .exact aZ.Yx h2 A
theorem MC(hE:fv F P E)(hF:dk F):∀m,iL F P E (exec E m):=by
 intro m;induction m using aeg with
 |_ m WK=>
 cases m with
 |zero=>intro f fb cur c st r e;cases e
 |succ m=>
  have U:=WK m (Nat.lt_succ_self m);intro f fb cur c st r e nt A n B X O w a s rd J;have e:nc E (exec E m) f fb cur c st=ab r:=e;cases c with
  |skip=>cases e;exact wpIn_skip ⟨trivial,X,O,s,.refl _ _ _ _ _⟩
  |label l=>cases e;exact wpIn_label ⟨trivial,X,O,s,.refl _ _ _ _ _⟩
  |exit id=>cases e;exact wpIn_exit ⟨rfl,X,O,s,.refl _ _ _ _ _⟩
  |ret=>cases e;exact wpIn_ret ⟨trivial,X,O,s,.refl _ _ _ _ _⟩
  |region id ops draw=>
   simp only[codeOk,aM]at A;simp only[nc]at e;split at e
   .rename_i pL h1;cases e;obtain⟨Z,H,N,d⟩:=MR (E:=E) (q:=false) (f:=f) (id:=id) s;cases draw with
    |true=>
     refine wpIn_mono (aoW U hE hF h1 N (λo ho=>l9.1 A.1 o ho) A.2 J.ops) λe2 a2 w2 ⟨hex,X2,O2,s2,p2⟩=>?_
     obtain⟨X3,Y,s3,p3⟩:=MR (E:=E) (q:=true) (f:=f) (id:=id) s2;exact⟨hex,X3,Y,s3,(d.trans p2).trans p3⟩
    |false=>
     refine wpIn_region ?_;have:=abh (n:=n) (Q:=qd nt B X O w st (.nm,fL E ag f id pL)) U hE hF ops.toList 0 (by simp) (λo ho=>l9.1 A.1 o ho) N h1 λX' O' w' a' s' p'=>(by
      obtain⟨X3,Y,s3,p3⟩:=MR (E:=E) (q:=true) (f:=f) (id:=id) s';exact⟨trivial,X3,Y,s3,(d.trans p').trans p3⟩)
     rw[adN];refine Kj hF.round J.ops _ _ _ ?_;omega
   trivial
  |seq x y=>
   simp only[codeOk,aM]at A;simp only[nc]at e;refine wpIn_seq ?_;split at e
   .rename_i L h1;refine wpIn_mono (U _ _ _ _ _ _ h1 nt A.1 n B X O w a s rd (J.sub λh=>by simp_all[gq,aM,h])) λC a1 G h=>?_
    obtain⟨hex,Z,H,N,d⟩:=h;cases C<;>simp only[jR]at hex;refine wpIn_mono (U _ _ _ _ _ _ e nt A.2 n B Z H G a1 N rd (J.step d λh=>by simp_all[gq,aM,h])) λe2 a2 w2 h=>?_
    obtain⟨aih,X2,O2,s2,p2⟩:=h;exact⟨aih,X2,O2,s2,d.trans p2⟩
   .rename_i iB;refine wpIn_mono (U _ _ _ _ _ _ e nt A.1 n B X O w a s rd (J.sub λh=>by simp_all[gq,aM,h])) λC a1 G h=>?_
    obtain⟨hex,Z,H,N,d⟩:=h;obtain⟨r1,r2⟩:=r;cases C with
    |normal=>
     simp_all[jR]
    |_=>exact⟨hex,Z,H,N,d⟩
  |cond x y z=>
   simp only[codeOk,aM]at A;simp only[nc]at e;split at e
   .rename_i t ht;refine wpIn_cond (Ut s A.1 ht) ?_;cases t with
    |true=>exact U _ _ _ _ _ _ e nt A.2.1 n B X O w a s rd (J.sub λh=>by simp_all[gq,aM,h])
    |false=>exact U _ _ _ _ _ _ e nt A.2.2 n B X O w a s rd (J.sub λh=>by simp_all[gq,aM,h])
   trivial
  |block id x=>
   simp only[codeOk]at A;simp only[nc]at e;refine wpIn_block ?_;split at e
   .rename_i j L h1;refine wpIn_mono (U _ _ _ _ _ _ h1 nt A n B X O w a s rd (J.sub λh=>h)) λC a1 G h=>?_
    obtain⟨hex,Z,H,N,d⟩:=h;cases C<;>simp only[jR]at hex;subst hex;simp only[Exit.inBlock];cases hj:ak j id with
    |true=>
     rw[hj,au]at e;cases e;rw[aK (b9 hj)];exact⟨trivial,Z,H,N,d⟩
    |false=>
     rw[hj,ax]at e;cases e;rw[az (λh=>by simp_all)]
     exact⟨rfl,Z,H,N,d⟩
   .rename_i iB;refine wpIn_mono (U _ _ _ _ _ _ e nt A n B X O w a s rd (J.sub λh=>h)) λC a1 G h=>?_
    obtain⟨hex,Z,H,N,d⟩:=h;obtain⟨r1,r2⟩:=r;cases C with
    |exit id'=>
     simp_all[jR]
    |_=>exact⟨hex,Z,H,N,d⟩
  |loop x=>
   simp only[codeOk]at A;refine aqM (λm' a' w'=>m'<=m+1/\∃L Z H,SR nt B Z H w' a' L/\Step B X O w st.h Z H w' L.h/\exec E m' f fb cur (.loop x) L=ab r) (m:=m+1) ⟨aJ _,st,X,O,s,.refl _ _ _ _ _,e⟩ λm' a1 G h=>?_
   obtain⟨hm,L,Z,H,N,d,C⟩:=h;cases m' with
   |zero=>cases C
   |succ m'=>
    have C:nc E (exec E m') f fb cur (.loop x) L=ab r:=C;simp only[nc]at C;have Wk:=WK m' (by omega)
    split at C
    .rename_i st2 h2;refine wpIn_mono (Wk _ _ _ _ _ _ h2 nt A n B Z H G a1 N rd (J.step d λh=>h)) λe2 a2 w2 h=>?_
     obtain⟨hex,X2,O2,s2,p2⟩:=h;cases e2<;>simp only[jR]at hex;exact⟨m',by omega,by omega,st2,X2,O2,s2,d.trans p2,C⟩
    .rename_i iB;refine wpIn_mono (Wk _ _ _ _ _ _ C nt A n B Z H G a1 N rd (J.step d λh=>h)) λe2 a2 w2 h=>?_
     obtain⟨hex,X2,O2,s2,p2⟩:=h;obtain⟨r1,r2⟩:=r;cases e2 with
     |normal=>
      simp_all[jR]
     |_=>exact⟨hex,X2,O2,s2,d.trans p2⟩
  |scope x=>
   simp only[codeOk]at A;refine aqN ?_;refine wpIn_mono (U _ _ _ _ _ _ e nt A n B X O w a s rd (J.sub λh=>h)) λC a1 G h=>?_
   cases C with
   |goto l=>obtain⟨hex,_⟩:=h;cases hr:r.1<;>rw[hr]at hex<;>exact hex.elim
   |_=>exact h
  |rangeFunc g ps bO LC=>
   simp only[codeOk,aM]at A;obtain⟨hg,GH,⟨Na,Nb⟩,uI,uJ⟩:=A;have aiy:∀p∈ps.toList,p< a.tmps.size:=λp hp=>by
    rw[s.n];exact gX (l9.1 GH p hp)
   have k1:Gh.K f a.tmps.size bO:=by rw[s.n];exact(hE.gh _ _ _).2 ⟨Na,Nb⟩
   have k2:Gh.K f a.tmps.size LC:=by rw[s.n];exact(hE.gh _ _ _).2 ⟨uI,uJ⟩
   simp only[nc]at e;split at e
   .rename_i q g0 fa cap ky;split at e
    .rename_i v h' lp oc;split at e
     .rename_i bk f1 t1 ps1 as1 bd1 yc;cases e;rw[s.lp,bn]at oc;rw[bn]at yc;refine wpIn_rangeFunc λfn Gy=>?_
      obtain⟨l,mark,G,rr,Z,H,bi,c1,c2,c3,c4,c5,c6,c7,c8,c9,c10,c11⟩:=ag2 (P:=P) s.h J fn a.tmps ps bO LC s.t aiy k1 k2;have Nx:∃fs cs:Array Value,a.eval g=.func (.func g0) fs cs/\aZ (λv x=>an X v ag [x]) fa fs.toList/\aZ (λv x=>an X v ag [x]) cap cs.toList:=by
       have hf:an X (ev st.t g) ag [a.eval g]:=o4 s.t hg;have aru:∀{l:List V} {aV:List (List Value)},bF X l ag aV->aZ (λv x=>an X v ag [x]) l aV.flatten:=by
        intro l;induction l with
        |nil=>simp[bF,aZ.nil]
        |cons v l ih=>
         intro aV h;simp only[bF]at h;obtain⟨ws,r,rfl,h1,h2⟩:=h;obtain⟨y,rfl⟩:=an.single h1;exact aZ.cons h1 (ih h2)
       split at ky
       .rename_i g' as' AZ he;cases ky;rw[he]at hf;simp only[an]at hf;grind
       .rename_i g' he;cases ky;rw[he]at hf;simp only[an,aN]at hf;exact⟨#[],#[],(tT hf).1,aZ.nil,aZ.nil⟩
       trivial
      obtain⟨fs,cs,Nx,hfa,VT⟩:=Nx;have hX:=s.h.lt;have ah3:aZ (λv x=>an Z v ag [x]) (fa++(.gT (st.h.length+1)::cap)) ((fs++#[KI (.yield l) #[] #[]])++cs).toList:=by
       simp only[nO,mc];refine(RV hX c7.up.le hfa).app (aZ.cons ?_ (RV hX c7.up.le VT));simp only[an];grind
      obtain⟨BN,⟨fn0,cd,o9,ah8,uT⟩,ah9⟩:=GV U hE hF oc c6 ah3;have NU:(resolve a.eval (rangeCall g l) 0).run P G=.ok {target:=.fn (.func g0) cs,args:=fs++#[.func (.yield l) #[] #[]]} G:=by
       have:(rangeCall g l).args.map a.eval=#[KI (.yield l) #[] #[]]:=by simp[rangeCall,Act.eval]
       unfold resolve;show(Ei (a.eval g) ((rangeCall g l).args.map a.eval)).run P G=_;rw[Nx,this];rfl
      refine⟨l,mark,G,_,G,g0,(fs++#[KI (.yield l) #[] #[]])++cs,G,c1,NU,λf' _=>hF.fn f',?_,hF.room,?_⟩
      .show (callFunc g0 _).run P G=_;simp[ql,o9,ah8,uT]
      have kx:CallsIn F (n-1) P g0 ((fs++#[KI (.yield l) #[] #[]])++cs) G _:=ah9 (n-1);refine wK (F:=F) kx λe3 w3 he=>?_
      cases e3 with
      |panicked c=>trivial
      |outgrown=>trivial
      |returned x=>
       obtain⟨X3,Y,d1,d2,d3⟩:=he;have l3:=d3.up.obj l _ c2 rfl;have R:=run_endLoop (P:=P) l3 (by rw[c3];simp)
       have hw4:∀{o:Obj},World.putObj w3 l o=dy w3 l o:=λ{_}=>rfl
       rw[hw4]at R;generalize hoe:Obj.loop {rr with state:=.exhausted}=oe at R;rw[c4]at R;refine⟨ae,_,R,?_⟩;show qd nt B X O w st _ .normal _ _;have NM:oe.isCells=af:=by rw[<-hoe];rfl
       have I:=c7.trans d3;have S:∀c k,aq (bB h' (st.h.length+1) ae) c=ab k->aq h' c=ab k/\c≠st.h.length+1:=λc k A=>by
        rw[dR,cF,wZ]at A;by_cases W:st.h.length+1=c
        .subst W;simp at A;split at A<;>simp at A
        .rw [az W]at A;exact⟨by rw[cF];exact A,EP W⟩
       have Wn:∀c,aq (bB h' (st.h.length+1) ae) c=ae->c=st.h.length+1∨aq h' c=ae:=λc A=>by
        by_cases W:c=st.h.length+1
        .exact .inl W
        .right;rw[dR,cF,wZ,az (EP W)]at A;rw[cF];exact A
       have hlen:(bB h' (st.h.length+1) ae).length=h'.length:=by rw[dR,hV]
       have VO:Y (st.h.length+1) ⟨l,0,ae⟩:=by
        obtain⟨bi',l',r',b1,b2,b3,b4,b5,b6,b7⟩:=d1.cy _ _ yc;obtain⟨bj,m1,m2,m3,m4⟩:=d3.up.le.M _ _ (by simp) c8
        have:=m4 c10;subst this;rw[b1]at m1;cases m1;rw[c9]at b4;cases b4;exact b6
       have NH:∀c k,aq (bB h' (st.h.length+1) ae) c=ab k->¬Y c ⟨l,0,ae⟩:=λc k A o=>(S c k A).2 (d1.fj c _ _ o VO)
       have hv:HR B X3 Y w3 (bB h' (st.h.length+1) ae):=⟨λc k A=>d1.cy c k (S c k A).1,d1.own,d1.fj,by rw[hlen];exact d1.lt,d1.ci,d1.wb⟩
       have hr4:HR B X3 Y (dy w3 l oe) (bB h' (st.h.length+1) ae):=hv.obj l3 rfl NM NH;have hB:B<=l:=(d1.own _ _ VO).1;have yq:∀(g:Nat) (o:Obj),w.heap[g]? =ab o->g≠l:=λg o e hgl=>by
        have:=(tG.1 e).1;omega
       have pa:=I.up.below.size;have uX:Step B X O w st.h X3 Y (dy w3 l oe) (bB h' (st.h.length+1) ae):=by
        refine⟨⟨I.up.le,I.up.below.trans (yR w3 _ hB),I.up.fresh,λr o e lp=>?_⟩,by rw[hlen];exact I.len,⟨λc ci e hn=>?_,I.fr.M,I.fr.own,λc ci e hn x o u eu=>?_,λc ci e hn r o ob eo ho=>?_,λc ci e hn g ho hg=>?_,λc A=>?_,λc kx e hn=>?_⟩⟩
        .rw [fB w3 _ (yq r o e)];exact I.up.obj r o e lp
        .cases hq:aq (bB h' (st.h.length+1) ae) c with
         |none=>rfl
         |some k=>exact absurd (S c k hq).1 (by rw[I.fr.eH c ci e hn];simp)
        .rw [qU l3 rfl NM,vn l3 rfl NM];exact I.fr.cell c ci e hn x o u eu
        .rw [fB w3 _ (yq r ob eo)];exact I.fr.obj c ci e hn r o ob eo ho
        .rw [fB w3 _ (by omega)];exact I.fr.cy c ci e hn g ho hg
        .rcases Wn c A with rfl|A
         .rw [cF,jO (by omega)];rfl
         .exact I.fr.nL c A
        .exact I.fr.pQ c kx e ((Wn c hn).resolve_left (by omega))
       refine⟨trivial,X3,Y,⟨s.t.mono hX uX.up.le,s.n,by simpa using hr4,?_,BN⟩,by simpa using uX⟩
       have uK:DF X3 Y (dy w3 l oe) (bB h' (st.h.length+1) ae) a.defers st.df:=s.df.step hX uX;rcases c11 with⟨BH,D,bd,m1,m2,m3,m4,m5,m6⟩|⟨BH,m1⟩
       .subst BH;subst m1;have T:aq (st.h++[ae,ab (.lp f st.t ps.toList bO LC)]) st.h.length=ae:=by
         rw[GA,az (gE _),Nat.sub_self];rfl
        have hD3:=d3.fr.obj _ _ m5 T D m6 _ m4 rfl;have hM3:=d3.fr.M _ _ m5 T;have ahZ:=d3.fr.own _ _ m5 T _ m6;have hh3:=d3.fr.eH _ _ m5 T;simp only[Nat.beq_refl,au,bn];refine⟨aZ.cons (.inl ⟨rfl,D,bd,rfl,?_,hM3,?_,ahZ⟩) uK.1,ED.2 ⟨λd' Nn D' hD' h2=>?_,uK.2⟩⟩
        .rw [fB w3 _ m3];exact hD3
        .cases hq:aq (bB h' (st.h.length+1) ae) st.h.length with
         |none=>rfl
         |some k=>have:=(S _ k hq).1;rw[hh3]at this;cases this
        .cases hD';obtain⟨p,hp⟩:=aZ.Yx s.df.1 Nn;rcases hp with⟨_,D2,_,t1,t2,_⟩|⟨_,cp,t1,_⟩
         .rw [h2]at t1;cases t1;have:=(tG.1 t2).1;omega
         .rw [h2]at t1;cases t1
       .subst m1;have:ak fb 0=af:=by
         cases hb:ak fb 0 with
         |false=>rfl
         |true=>exact absurd (b9 hb) BH
        simp only[this,ax];simpa using uK
     trivial
    trivial
   trivial
  |_=>cases e
end
def eG{α:Type}(p:Nat->α->Prop):Tb α->Prop
 |.e=>True
 |.n k v l r=>p k v/\eG p l/\eG p r
def Tb.lz{α:Type}(p:Nat->α->Bool)(t:Tb α):Bool:=Tb.rec ag (λk v _ _ l r=>bif p k v then(bif l then r else af)else af) t
theorem Tb.ahw{α:Type}(k:Nat)(v:α)(l r:Tb α)(i:Nat):(Tb.n k v l r).find i=bif ak i k then ab v else bif cA i k then l.find i else r.find i:=rfl
theorem eG.find{α:Type}{p:Nat->α->Prop}{i:Nat}{v:α}:∀{t:Tb α},eG p t->t.find i=ab v->p i v
 |.e,_,e=>by cases e
 |.n k u l r,h,e=>by
  rw[Tb.ahw]at e;cases A:ak i k with
  |true=>rw[A]at e;cases e;rw[b9 A];exact h.1
  |false=>
   rw[A]at e;cases I:cA i k<;>first|rw[I,au]at e;exact eG.find h.2.1 e|rw[I,ax]at e;exact eG.find h.2.2 e
theorem eG.of{α:Type}{p:Nat->α->Bool}:∀{t:Tb α},t.lz p=ag->eG (λk v=>p k v=ag) t
 |.e,_=>trivial
 |.n k u l r,h=>by
  have h:(bif p k u then(bif l.lz p then r.lz p else af)else af)=ag:=h;cases h1:p k u with
  |false=>grind
  |true=>
   rw[h1]at h;cases h2:l.lz p with
   |false=>grind
   |true=>rw[h2]at h;exact⟨h1,eG.of h2,eG.of h⟩
def G4:Int->Bool
 |.ofNat 0=>ag
 |_=>af
theorem Oh:∀{n:Int},G4 n=ag->n=0
 |.ofNat 0,_=>rfl
 |.ofNat (n+1),h|.negSucc n,h=>Bool.noConfusion (show af=ag from h)
mutual
def jM:D->Option (List Value)
 |.bool b=>ab [.bool b]
 |.int k n=>bif G4 n then ab [.int k 0]else ae
 |.str []=>ab [.string ⟨#[]⟩]
 |.nil=>ab [.pointer ae]
 |.eR=>ab [.nilFunc]
 |.dn=>ab [.nilIface]
 |.g8=>ab [.map ae]
 |.agg w l=>(Ed l).bind λcs=>bif ak cs.length w then ab cs else ae
 |_=>ae
def Ed:List D->Option (List Value)
 |[]=>ab []
 |d::l=>(jM d).bind λa=>(Ed l).map λb=>a++b
end
mutual
def zeroV:V->Option (List Value)
 |.im d=>jM d
 |.full []=>ab [.slice ae 0 0]
 |.agg w l=>(Ee l).bind λcs=>bif ak cs.length w then ab cs else ae
 |_=>ae
def Ee:List V->Option (List Value)
 |[]=>ab []
 |d::l=>(zeroV d).bind λa=>(Ee l).map λb=>a++b
end
theorem aiU(k:IntKind):ig k 0:=by
 show k.min<=0/\0<=k.max;cases k<;>decide
mutual
theorem acr{C:IV}:∀{d:D} {cs:List Value},jM d=ab cs->aN C d af cs
 |.bool b,cs,e=>by simp only[jM,fH]at e;subst e;simp[aN]
 |.int k n,cs,e=>by
  simp only[jM]at e
  obtain⟨I,e⟩:=aQ e
  cases e
  simp only[aN]
  rw[Oh I]
  exact⟨rfl,aiU k⟩
 |.str [],cs,e=>by simp only[jM,fH]at e;subst e;exact⟨_,rfl,rfl,by simp[ByteArray.size]⟩
 |.str (_::_),cs,e=>by simp[jM]at e
 |.nil,cs,e=>by simp only[jM,fH]at e;subst e;simp[aN]
 |.eR,cs,e=>by simp only[jM,fH]at e;subst e;simp[aN]
 |.dn,cs,e=>by simp only[jM,fH]at e;subst e;simp[aN]
 |.g8,cs,e=>by simp only[jM,fH]at e;subst e;simp[aN]
 |.agg w l,cs,e=>by
  simp only[jM,ay]at e
  obtain⟨J,h1,e⟩:=e
  obtain⟨U,e⟩:=aQ e
  cases e
  obtain⟨A,h2,h3⟩:=acs (C:=C) h1
  simp only[aN]
  exact⟨A,h3,h2,b9 U⟩
 |.ref _,cs,e=>by simp[jM]at e
 |.ar _,cs,e=>by simp[jM]at e
 |.aG _,cs,e=>by simp[jM]at e
 |.fn _,cs,e=>by simp[jM]at e
 |.ifc _ _,cs,e=>by simp[jM]at e
theorem acs{C:IV}:∀{l:List D} {cs:List Value},Ed l=ab cs->∃A,bw C l af A/\cs=A.flatten
 |[],cs,e=>by simp only[Ed,fH]at e;subst e;exact⟨[],by simp[bw],rfl⟩
 |d::l,cs,e=>by
  simp only[Ed,ay,bu]at e
  obtain⟨a,h1,b,h2,e⟩:=e
  obtain⟨A,h3,rfl⟩:=acs (C:=C) h2
  exact⟨a::A,by simp only[bw];exact⟨a,A,rfl,acr h1,h3⟩,e.symm⟩
end
mutual
theorem acu{X:Cx}:∀{v:V} {cs:List Value},zeroV v=ab cs->an X v af cs
 |.im d,cs,e=>by simp only[zeroV]at e;simp only[an];exact acr e
 |.full [],cs,e=>by
  simp only[zeroV,fH]at e;subst e
  simp only[an]
  exact⟨_,rfl,ae,0,rfl,rfl,bX _,.inl rfl⟩
 |.full (_::_),cs,e=>by simp[zeroV]at e
 |.agg w l,cs,e=>by
  simp only[zeroV,ay]at e
  obtain⟨I,h1,e⟩:=e
  obtain⟨J,e⟩:=aQ e
  cases e
  obtain⟨A,h2,h3⟩:=acv (X:=X) h1
  simp only[an]
  exact⟨A,h3,h2,b9 J⟩
 |.undef,cs,e=>by simp[zeroV]at e
 |.aG _,cs,e=>by simp[zeroV]at e
 |.own ..,cs,e=>by simp[zeroV]at e
 |.ptr ..,cs,e=>by simp[zeroV]at e
 |.fn ..,cs,e=>by simp[zeroV]at e
 |.ifc ..,cs,e=>by simp[zeroV]at e
 |.mp _,cs,e=>by simp[zeroV]at e
 |.gT _,cs,e=>by simp[zeroV]at e
theorem acv{X:Cx}:∀{l:List V} {cs:List Value},Ee l=ab cs->∃A,bF X l af A/\cs=A.flatten
 |[],cs,e=>by simp only[Ee,fH]at e;subst e;exact⟨[],by simp[bF],rfl⟩
 |d::l,cs,e=>by
  simp only[Ee,ay,bu]at e
  obtain⟨a,h1,b,h2,e⟩:=e
  obtain⟨A,h3,rfl⟩:=acv (X:=X) h2
  exact⟨a::A,by simp only[bF];exact⟨a,A,rfl,acu h1,h3⟩,e.symm⟩
end
def yB:Value->Value->Bool
 |.bool a,.bool b=>(match a,b with|true,ag=>ag|false,af=>ag|_,_=>af)
 |.int k n,.int A m=>G4 n&&(G4 m&&decide (k=A))
 |.string ⟨⟨[]⟩⟩,.string ⟨⟨[]⟩⟩=>ag
 |.pointer ae,.pointer ae=>ag
 |.slice ae 0 0,.slice ae 0 0=>ag
 |.map ae,.map ae=>ag
 |.nilFunc,.nilFunc=>ag
 |.nilIface,.nilIface=>ag
 |_,_=>af
theorem Yd{a b:Value}(h:yB a b=ag):a=b:=by
 unfold yB at h;split at h
 .grind
 .simp only[aM]at h;rw[Oh h.1,Oh h.2.1,of_decide_eq_true h.2.2]
 all_goals trivial
def Hj:List Value->List Value->Bool
 |[],[]=>ag
 |a::l,b::r=>bif yB a b then Hj l r else af
 |_,_=>af
theorem Ye:∀{a b:List Value},Hj a b=ag->a=b
 |[],[],_=>rfl
 |[],_::_,h|_::_,[],h=>by cases h
 |a::l,b::r,h=>by
  have h:(bif yB a b then Hj l r else af)=ag:=h;cases h1:yB a b with
  |false=>grind
  |true=>rw[h1]at h;rw[Yd h1,Ye h]
def Kq(v:V)(z:Value):Bool:=
 match zeroV v with
 |none=>af
 |some cs=>bif v.isAgg then(match z with|.agg A=>Hj A.toList cs|_=>af)else(match cs with|[c]=>yB z c|_=>af)
theorem aqX{X:Cx}{v:V}{z:Value}(hp:v.plain=ag)(h:Kq v z=ag):an X v ag [z]:=by
 unfold Kq at h;split at h
 .cases h
 .rename_i cs I;have J:=acu (X:=X) I;cases A:v.isAgg with
  |true=>
   rw[A]at h;split at h
   .rename_i U;have:=Ye h;exact(an.xp A).2 ⟨U,rfl,by simp[this,J]⟩
   trivial
  |false=>
   rw[A,ax]at h;split at h
   .obtain ⟨x,e,_,r⟩:=J.one hp A;cases e;rw[Yd h];exact r ag
   trivial
def triples:List (Nat×Nat×Nat)->List (Nat×Nat×Nat)->Bool
 |[],[]=>ag
 |a::l,b::r=>bif ak a.1 b.1&&(ak a.2.1 b.2.1&&ak a.2.2 b.2.2)then triples l r else af
 |_,_=>af
theorem ab4:∀{a b:List (Nat×Nat×Nat)},triples a b=ag->a=b
 |[],[],_=>rfl
 |[],_::_,h|_::_,[],h=>by cases h
 |(A,I,J)::l,(U,Z,c)::r,h=>by
  have h:(bif ak A U&&(ak I Z&&ak J c)then triples l r else af)=ag:=h;cases h1:ak A U&&(ak I Z&&ak J c)with
  |false=>grind
  |true=>
   rw[h1]at h;simp only[aM]at h1;rw[b9 h1.1,b9 h1.2.1,b9 h1.2.2,ab4 h]
def OL(P:Program)(t:Nat)(k:TK):Bool:=
 match P.underlying t with
 |none=>af
 |some d=>match k,d with
  |.bool,.bool=>ag
  |.int k,.int J=>decide (k=J)
  |.str,.string=>ag
  |.ptr,.pointer _=>ag
  |.ar e,.slice I=>ak e I
  |.arr n e,.array U I=>ak n U&&ak e I
  |.st fs,.struct A=>triples (A.toList.map λf=>(f.offset,P.cellsOf f.type,f.type)) fs&&(A.toList.all (λf=>!(decide (f.name= "_"))&&(P.info? f.type).isSome)&&!P.stoodInHeld t)
  |.fn,.func _ _ _=>ag
  |.ifc nm,.interface ms=>(match nm,!ms.isEmpty with|true,ag=>ag|false,af=>ag|_,_=>af)
  |.map k e,.map J I=>ak k J&&ak e I
  |_,_=>af
theorem alR{P:Program}{t:Nat}{k:TK}(h:OL P t k=ag):dE P t k:=by
 unfold OL at h;split at h
 .cases h
 .rename_i d A;split at h<;>simp only[dE]
  .omega
  .grind
  .omega
  .simp[A]
  .simp_all
  .simp_all
  .simp only[aM,l9,Eg,decide_eq_false_iff_not]at h;exact⟨_,A,ab4 h.1,λf hf=>⟨(h.2.1 f hf).1,Option.isSome_iff_exists.1 (h.2.1 f hf).2⟩,h.2.2⟩
  .grind
  .grind
  all_goals simp_all
def Kb(P:Program)(t:Nat)(ti:TI):Bool:=
 match P.info? t with
 |none=>af
 |some i=>bif ak i.size ti.size&&ak i.bytes ti.bytes then(bif(bif ti.zero.plain then(match i.zero with|some z=>Kq ti.zero z|none=>af)else ag)then OL P t ti.k else af)else af
theorem aqs{P:Program}{t:Nat}{ti:TI}(h:Kb P t ti=ag):hZ P t ti:=by
 unfold Kb at h;split at h
 .cases h
 .rename_i i hi;cases h1:ak i.size ti.size&&ak i.bytes ti.bytes with
  |false=>grind
  |true=>
   rw[h1]at h;rw[aM]at h1;cases h2:(bif ti.zero.plain then(match i.zero with|some z=>Kq ti.zero z|none=>af)else ag)with
   |false=>grind
   |true=>
    rw[h2]at h;refine⟨⟨i,hi,b9 h1.1,b9 h1.2,λx A hp=>?_⟩,alR h⟩
    subst A;rw[hp]at h2;split at h2
    .rename_i z I;exact⟨z,I,aqX hp h2⟩
    trivial
def Bw(E:Env)(f:Nat)(fn:Func):Bool:=(!(fn.name== "runtime.NumGoroutine"))&&(match fn.body with|some c=>codeOk E f fn.ntmps c|none=>true)
theorem Vz{E:Env}{f:Nat}{fn:Func}(h:Bw E f fn=true):(fn.name== "runtime.NumGoroutine")=false∧∀c,fn.body=some c→codeOk E f fn.ntmps c=true:=by
 unfold Bw at h;grind
end
end Go.As
end
