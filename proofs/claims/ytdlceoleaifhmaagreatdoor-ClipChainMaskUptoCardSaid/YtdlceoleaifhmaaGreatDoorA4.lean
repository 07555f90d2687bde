/- A part of the proof. -/
import Derived.Test.YtdlceoleaifhmaaGreatDoorA3
import Derived.ProofKit
import GoSem.ClaimGoes
import Derived.Deep.Slices
import Derived.ChangeStays
import Derived.ChangeOld
import Derived.Lib.SmallJoins
set_option linter.all false
open Array renaming getD_eq_getD_getElem?->kf,getElem?_setIfInBounds_self_of_lt->ah8,replicate->pX
open Bool renaming and_eq_true->aK,false->Y,true->N
open Go.Builtin renaming append->aih
open Go.Callee renaming builtin->aij
open Go.CallsIn renaming mono->yJ
open Go.Code renaming region->O3,wpIn->CK
open Go.DataW renaming Trod->aik,TrodAll->CL,TrodVars->ail,Whole->aim,trod->ain
open Go.Fence renaming wide->m6
open Go.Func renaming goes->Xf
open Go.Ground renaming data->O4,phase->Xg
open Go.Lit renaming int->CO
open Go.Op renaming assign->Xs
open Go.Oper renaming wpIn->O8
open Go.Operand renaming const->Xv,tmp->n1
open Go.Region renaming wanted->tk
open Go.Value renaming okWide->HD,slice->rn
open List renaming drop_drop->ru,flatten_cons->oZ,getElem?_eq_getElem->cC,getElem_mem->fw,map_cons->km,mem_append->b7,mem_cons->dM,mem_cons_of_mem->gj,mem_cons_self->eS,mem_map->mq,range->ts,rec->a9,take_append_drop->vV
open Nat renaming beq->ah,ble->br,ble_eq_true_of_le->kp,blt->cM,eq_of_beq_eq_true->bQ,le_max_left->ajp,le_max_right->ajq,le_of_ble_eq_true->ju,le_refl->aH,le_trans->bY,lt_or_ge->iV,rec->fW,succ_mul->ajK,zero_add->dk,zero_le->bN,zero_mul->o5
open Option renaming bind_eq_some_iff->ax,bind_some->aN,isSome_iff_exists->ajN,none->U,some->I
open Option.some renaming inj->gk
noncomputable section
namespace Go.As
section
structure HZ where
 id:Nat
 a:List D
 r:D
abbrev rG:=Tb (List HZ)
def Ar(i:Nat)(l:List HZ)(a:List D):Option D:=a9 U (λe _ G=>bif cM e.id i then(bif D.mY e.a a then I e.r else G)else G) l
def Env.ku(E:Env)(T:rG)(i:Nat):Env:={E with sm:=λa=>match T.find a with|some b=>I (Ar i b)|none=>U}
def D1(E:Env)(T:rG)(b a:Nat)(e:HZ):Bool:=match Zj (E.ku T e.id) b a e.a with|some c=>D.same c e.r|none=>Y
def QK(E:Env)(T:rG)(d c b a:Nat)(l:List HZ):Bool:=a9 N (λe _ G=>bif(bif br c e.id then(bif cM e.id b then D1 E T d a e else N)else N)then G else Y) l
def chkR(E:Env)(T:rG)(c b a:Nat)(R:rG):Bool:=R.n8 (QK E T c b a)
end
section
variable [Gh]{F:Fence}{P:Program}{E:Env}
theorem pg(E)(T)(i c d):∀e,codeOk (E.ku T i) c d e=codeOk E c d e|.seq a b=>by simp[codeOk,pg E T i c d a,pg E T i c d b]|.cond e a b=>by simp[codeOk,pg E T i c d a,pg E T i c d b]|.block _ b=>by simp[codeOk,pg E T i c d b]|.loop b=>by simp[codeOk,pg E T i c d b]|.scope b=>by simp[codeOk,pg E T i c d b]|.rangeFunc g ps a b=>by simp[codeOk,pg E T i c d a,pg E T i c d b]|.region id ops f|.skip|.label _|.exit _|.ret|.goto _|.refuse _=>rfl
abbrev y9(P:Program)(b:Nat):Prop:=∃fn a,P.funcs[b]?=some fn∧fn.body=some a∧(fn.name== "runtime.NumGoroutine")=false
def PB(F:Fence)(P:Program)(b:Nat)(a:List D)(c:D):Prop:=y9 P b/\v8 F P b a c
def Claim(F:Fence)(P:Program)(T:rG)(i:Nat):Prop:=∀a l,T.find a=I l->∀e∈l,e.id<i->PB F P a e.a e.r
def Claim.zero(T):Claim F P T 0:=λ_ _ _ _ _ h=>absurd h (Nat.not_lt_zero _)
def aaP{i}:∀{l}{a}{r},Ar i l a=I r->∃e∈l,e.id<i/\e.a=a/\e.r=r|[],_,_,h=>by cases h|x::l,a,r,h=>by have h:(bif cM x.id i then(bif D.mY x.a a then I x.r else Ar i l a)else Ar i l a)=I r:=h;(have g:Ar i l a=I r->∃e∈x::l,e.id<i/\e.a=a/\e.r=r:=λh=>by have⟨e,d,f⟩:=aaP h;grind);cases b:cM x.id i with|false=>grind|true=>rw[b]at h;cases c:D.mY x.a a with|true=>rw[c]at h;exact⟨x,zS,ju b,D.Hd c,gk h⟩|false=>grind
def gE.ku(b:gE F P E){T}{i}(h:Claim F P T i)(m:∀a t,T.find a=I t->y9 P a):gE F P (E.ku T i)where toEnvTy:={b.toEnvTy with};mixed:=b.mixed;gh:=λa p c=>(by rw[pg];exact b.gh a p c);fn:=λa fn e=>let⟨f,g,l⟩:=b.fn a fn e;⟨f,g,λc n=>by rw[pg];exact l c n⟩;ext:=b.ext;clone:=b.clone;sm:=λd k e=>by have e:(match T.find d with|some t=>I (Ar i t)|none=>U)=I k:=e;split at e;rename_i t j;cases e;refine⟨m d t j,λr q o=>?_⟩;obtain⟨e,f,g,rfl,rfl⟩:=aaP o;exact(h d t j e f g).2;trivial
def Zs{T}{d c a b}:∀{l},QK E T d c a b l=N->∀e∈l,c<=e.id->e.id<a->D1 E T d b e=N|[],_,e,he,_,_=>by cases he|x::l,h,e,he,f,g=>by have h:(bif(bif br c x.id then(bif cM x.id a then D1 E T d b x else N)else N)then QK E T d c a b l else Y)=N:=h;cases i:(bif br c x.id then(bif cM x.id a then D1 E T d b x else N)else N)with|false=>grind|true=>rw[i]at h;rcases dM.1 he with rfl|he;rw[kp f,ai,show cM e.id a=N from kp g,ai]at i;omega;exact Zs h e he f g
def Claim.more(p:gE F P E)(hF:dU F){T}{o b d}(h:Claim F P T b)(q:∀a w,T.find a=I w->y9 P a)(r:chkR E T o b d T=N):Claim F P T d:=by(have key:∀i,b<=i->i<=d->Claim F P T i:=by intro i;induction i with|zero=>grind|succ i G=>intro x y;rcases iV i b with m|m;grind;have k:=G m J;intro a l f e c u;rcases iV e.id i with g|g;exact k a l f e c g;(have t:e.id=i:=by omega);have:=Zs ((fe.of r).find f) e c J J;unfold D1 at this;split at this;rename_i z n;have v:=D.yf this;rw[t]at n;have j:=p.ku k q;have:=Ei (Rq j hF o) j hF n;rw[v]at this;trivial;trivial);rcases iV d b with s|s;exactλa l f e c u=>h a l f e c J;grind
end
def lf{a}(b:Nat)(v:a):Tb a:=.n b v .e .e
def Tb.qW{b}(e:Tb b):List (Nat×b):=Tb.rec [] (λd v _ _ a c=>(d,v)::(a++c)) e
def fe.qW{f}{p}:∀{d:Tb f},(∀x∈d.qW,p x.1 x.2)->fe p d|.e,_=>trivial|.n b v l c,h=>by have e:(Tb.n b v l c).qW=(b,v)::(l.qW++c.qW):=rfl;rw[e]at h;exact⟨h (b,v) zS,fe.qW λx a=>h x (by simp[a]),fe.qW λx a=>h x (by simp[a])⟩
def fe.maps{c}{f:Nat->Option c}{t}(h:t.qW.map (λx=>f x.1)=t.qW.map λx=>I x.2):fe (λb v=>f b=I v) t:=fe.qW λ_ a=>(List.map_inj_left.1 h) _ a
def dL(a:Nat):List (Nat×List Nat):=(fW (λ_=>[]) (λ_ G a=>bif br a 1 then[]else(a%10,[])::G (a/10)) 200:Nat->List (Nat×List Nat)) a
def D.p(n:Nat):D:=.int .i64 (.ofNat n)
def D.q(n:Nat):D:=.int .i64 (.negSucc n)
def D.u(n:Nat):D:=.aw [.int .u32 (.ofNat n)]
def D.v(a b:Nat):D:=.agg 2 [.p a,.p b]
def V.z:V:=.im (.p 0)
def V.y:V:=.im (.int .u8 (.ofNat 0))
open Go.RowKit (Below)
section
variable [Gh]
section
variable{F:Fence}{P:Program}{B:Nat}{X:Cx}{O:Nat->Addr->Prop}{w:World}{h:Heap}{E:Env}
def Zw(T:Nat):Array Oper:=#[{dst:=some 2,op:=Xs (Xv (rn none 0 0)),type:=T,pos:= "slices.go:355",after:=#[],guard:=none}]
def I8(T bt:Nat):Array Oper:=#[{dst:=some 3,op:=Op.move (n1 0),type:=T,pos:= "slices.go:357",after:=#[],guard:=none},{dst:=some 4,op:=Op.binOp BinOp.eql T (n1 3) (Xv (rn none 0 0)) T,type:=bt,pos:= "slices.go:357",after:=#[{on:=0,ground:=O4}],guard:=none}]
def Zx(T:Nat):Array Oper:=#[{dst:=some 2,op:=Xs (Xv (rn none 0 0)),type:=T,pos:= "slices.go:358",after:=#[],guard:=none}]
def Zy(T:Nat):Array Oper:=#[{dst:=some 5,op:=Op.buildSlice T 0 #[],type:=T,pos:= "slices.go:362",after:=#[],guard:=none},{dst:=some 6,op:=Op.move (n1 0),type:=T,pos:= "slices.go:362",after:=#[],guard:=none},{dst:=some 7,op:=Op.call {callee:=aij aih,args:=#[n1 5,n1 6],argTypes:=#[T,T]},type:=T,pos:= "slices.go:362",after:=#[{on:=0,ground:=O4},{on:=1,ground:=O4}],guard:=U},{dst:=some 2,op:=Xs (n1 7),type:=T,pos:= "slices.go:362",after:=#[{on:=2,ground:=O4},{on:=2,ground:=Ground.chain},{on:=0,ground:=Xg},{on:=1,ground:=Xg},{on:=2,ground:=Xg}],guard:=U}]
def QP(T bt:Nat):Code:=(O3 0 (Zw T) Y).seq (((O3 1 (I8 T bt) Y).seq (Code.cond (n1 4) ((O3 2 (Zx T) Y).seq Code.ret) Code.skip)).seq ((O3 3 (Zy T) Y).seq Code.ret))
def LD(q:EnvTy P E)(hF:dU F){ops}{b}{g L}{a}{c}(h:SR g B X O w a c)(y:b.guard=U)(t:uX b=N)(G:sD g b=N){bB}{v}{h'}(C:ao c.h bB=U)(s:X.M bB=U)(z:bB<=c.h.length)(e:dy E Y bB c.t c.h b.op=I (v,h')){K}{o}(r:∀k j i l,SR g B k j i l ⟨putDst c.t b.dst v,h',c.lp,c.df⟩->Step B X O w c.h k j i h'->K l i):if tk b (yielded ops a.tmps)=N then b.wpIn F L P a w K o else(∀d,b.about P w a.eval=I d->F.fn d)/\K (a.put b.dst undef) w:=by have⟨u,D⟩:=TV G;(have H:tk b (yielded ops a.tmps)=N:=by simp[tk,y]);rw[ay H];refine⟨λd _=>hF.fn d,?_⟩;rw[Bc t];have⟨x,d,p,n,f,b,c,m⟩:=Hm q h.h C s z h.t D e;rcases f with f|⟨f,rfl⟩<;>rw[f]<;>exact r p n d _ ((h.step b m).put u c) m
theorem amX{T d:Nat}(g:P.underlying T=I (.slice d))(a)(c b):(do eqGuard .eql T (.tmp 3) (.const (.slice U 0 0)) (.slice a c b) (.slice U 0 0);binOp .eql T (.slice a c b) (.slice U 0 0):Sem Value).run P w=.ok (.bool a.isNone) w:=by
 have e:(eqGuard .eql T (.tmp 3) (.const (.slice U 0 0)) (.slice a c b) (.slice U 0 0)).run P w=.ok () w:=by rfl
 have f:(Op.equal T (.slice a c b) (.slice U 0 0)).run P w=.ok a.isNone w:=by
  unfold Op.equal;rw[show Op.maxDepth=9999+1 from rfl];unfold Op.equalIn;cases a<;>simp[run_underlying g]
 simp[e,binOp,f]
theorem aoa(h){c}(a b)(d:c<=h.length):aE (aE h c a) c b=aE h c b:=by have g:=bX h c a;have j:=bX h c b;have e:=bX (aE h c a) c b;have f:c<(aE h c a).length:=zG;rw[ay f]at e;refine Kb J λi=>?_;rw[bP _ c i b J,bP h c i b d,bP h c i a d];split<;>rfl
def amq{x}{l}{a}{k}(b:x.pk h=I l)(q:ao h a=U)(g:a<=h.length):x.pk (aE h a k)=I l/\nJ (aE h a k) x=Y:=by
 unfold V.pk at b;split at b;trivial;trivial;rename_i c o r len aL;split at b;rename_i d n m j p;have i:c≠a:=λe=>by grind
 have f:ao (aE h a k) c=I (.arr d n m j):=by rw[bP h a c k g,aj i];omega
 simp[V.pk,f,b,nJ];trivial;trivial
def alU(hE:EnvTy P E)(hF:dU F){g T bt el:Nat}{fn}{ti a}(hf:P.funcs[g]?=some fn)(hb:fn.body=some (QP T bt))(L:(fn.name== "runtime.NumGoroutine")=false)(hnt:fn.ntmps=8)(qu:fn.results=#[.tmp 2])
  (hT:E.ty T=I ti)(s:ti.k=.aw el)(M:E.ty el=I a)(n)(hr:HR B X O w h)(xs)(args)(ha:aX (λv x=>an X v N [x]) xs args.toList)
  (bB)(hn:ao h bB=U)(hM:X.M bB=U)(i:bB<=h.length)(v)(h')(e:z7 E bB el xs h=I (v,h')):fR F n P B X O w h (callFunc g args) v h':=by
 have hTu:P.underlying T=I (.slice el):=by have:=(hE.ty T ti hT).kind;rw[s]at this;trivial
 unfold z7 at e;split at e
 .rename_i x;rw[M,aN]at e;have⟨l,hl,e⟩:=ax.1 e;have⟨hc,e⟩:=aO e;cases e;simp only[aK]at hc;have⟨⟨hz,Q⟩,hfw,R⟩:=hc;have⟨vx,r,ea,rx,rr⟩:=ha;cases rr;have aBQ:args=#[vx]:=by apply Array.toList_inj.1;rw[ea]
  subst aBQ;refine .inr ⟨g,#[vx],r9 hf hb L _,?_⟩;refine callsIn_of_wp hf hb (hF.fn g) ?_ hF.round;have⟨b,m,o,e1,e2,e3,e4,e5⟩:=ZU hr hl rx;subst e1;have s0:SR 8 B X O w {tmps:=#[rn b m o]++pX (fn.ntmps-1) undef,defers:=[]} ⟨jo 8 [x],h,[],[]⟩:=by
   have:=Wa hr (l:=[x]) (args:=#[rn b m o]) (aX.cons rx aX.nil) (nt:=8) rfl;rw[hnt];exact this
  show(QP T bt).wpIn F n P (bodyPost P fn _) {tmps:=#[rn b m o]++pX (fn.ntmps-1) undef,defers:=[]} w;have C:({tmps:=#[rn b m o]++pX (fn.ntmps-1) undef,defers:=[]}:Act).tmps.getD 0 undef=.slice b m o:=by
   show(#[rn b m o]++pX (fn.ntmps-1) undef).getD 0 undef=_;rw[kf,Array.getElem?_append_left zS];rfl
  have aBR:({tmps:=#[rn b m o]++pX (fn.ntmps-1) undef,defers:=[]}:Act).tmps.size=8:=s0.n;generalize({tmps:=#[rn b m o]++pX (fn.ntmps-1) undef,defers:=[]}:Act)=a0 at s0 C aBR|-;have p:an X (.full []) N [.slice U 0 0]:=by simp only[an];exact⟨_,rfl,U,0,rfl,rfl,bN _,.inl rfl⟩
  have G:∀{X1}{O1}{w1}{c}{H},SR 8 B X1 O1 w1 c H->H.df=[]->
    (∀y,an X1 (H.t.get 2) N [y]->∃X2 O2,HR B X2 O2 w1 (aE h bB (.arr 1 a.size 0 l))/\an X2 (.own bB 1 0 (aC l) Y) N [y]/\Step B X O w h X2 O2 w1 (aE h bB (.arr 1 a.size 0 l)))->
    bodyPost P fn (λe w'=>match e with|.returned x=>tF B X O w h (.own bB 1 0 (aC l) Y) (aE h bB (.arr 1 a.size 0 l)) x w'|_=>False) .ret c w1:=λ{X1 O1 w1 c H}S hdf hk=>by
   have had:c.defers=[]:=DF.Fx (by have:=S.df;rw[hdf]at this;exact this)
   have⟨y,hy1,hy2⟩:=NC hE S.h S.t (fn:=fn) (v:=H.t.get 2) (by unfold l7;rw[qu];rfl)
   have⟨X2,O2,q1,q2,q3⟩:=hk _ hy2;exact⟨had,y,hy1,X2,O2,q1,q2,q3⟩
  refine wpIn_seq (wpIn_region ?_);show wpOpsIn F n P (Zw T) _ [0] a0 w;refine(show O8 F n P _ a0 w _ _ from ?_);refine⟨λf _=>hF.fn f,?_⟩
  rw[Bc (by rfl)]
  have S:=s0.put (dst:=some 2) (λd V=>by cases V;decide) p
  show CK F n P _ _ (a0.put (I 2) (.slice U 0 0)) w;generalize ha1:a0.put (I 2) (.slice U 0 0)=c at S|-;have K:c.tmps.getD 0 undef=.slice b m o:=by
   rw[<-ha1];show(a0.tmps.setIfInBounds 2 (.slice U 0 0)).getD 0 undef=_;rw[kf,Array.getElem?_setIfInBounds,aj zC,<-kf]
   exact C
  refine wpIn_seq (wpIn_seq (wpIn_region ?_));show wpOpsIn F n P (I8 T bt) _ [0,1] c w;refine(show O8 F n P _ c w _ _ from ?_);refine⟨λf _=>hF.fn f,?_⟩
  rw[Bc (by rfl)]
  have hmv:an X x N [c.eval (.tmp 0)]:=by
   show an X x N [c.tmps.getD 0 undef];rw[K];exact rx
  have s2:=S.put (dst:=some 3) (λd V=>by cases V;decide) hmv
  show wpOpsIn F n P (I8 T bt) _ [1] (c.put (I 3) (c.eval (.tmp 0))) w;generalize ha2:c.put (I 3) (c.eval (.tmp 0))=t at s2|-;have aBS:t.eval (.tmp 3)=.slice b m o:=by
   rw[<-ha2];show(c.tmps.setIfInBounds 3 (c.tmps.getD 0 undef)).getD 3 undef=_;have hs:3<c.tmps.size:=by have:=S.n;omega
   rw[K,kf,ah8 hs];rfl
  refine(show O8 F n P _ t w _ _ from ?_);refine⟨λf _=>hF.fn f,?_⟩
  rw[Bc (by rfl)]
  have EY:(execOp t.eval ((I8 T bt)[1]'(by show 1<2;decide))).run P w=.ok (.value (.bool b.isNone)) w:=by
   show(do pure (Next.value (<-(do eqGuard .eql T (.tmp 3) (.const (.slice U 0 0)) (t.eval (.tmp 3)) (.slice U 0 0);binOp .eql T (t.eval (.tmp 3)) (.slice U 0 0)))):Sem Next).run P w=_;rw[aBS];rw[Sem.run_bind,amX (w:=w) hTu b m o];rfl
  rw[EY];have s3:=s2.put (dst:=some 4) (λd V=>by cases V;decide) (v:=.im (.bool b.isNone)) (x:=.bool b.isNone) (by simp[an,aR])
  show CK F n P _ _ (t.put (I 4) (.bool b.isNone)) w;generalize ha3:t.put (I 4) (.bool b.isNone)=W at s3|-;have aBT:W.eval (.tmp 4)=.bool b.isNone:=by
   rw[<-ha3];show(t.tmps.setIfInBounds 4 _).getD 4 undef=_;have hs:4<t.tmps.size:=by have:=s2.n;omega
   rw[kf,ah8 hs];rfl
  refine wpIn_cond aBT ?_;cases b with
  |none=>
   have hnx:m=0:=by
    rcases e5 with e5|⟨a0',_,_,q,_⟩
    .exact e5
    cases q
   have hl0:l=[]:=List.eq_nil_of_length_eq_zero J
   subst hl0;show CK F n P _ _ W w;refine wpIn_seq (wpIn_region ?_);show wpOpsIn F n P (Zx T) _ [0] W w;refine(show O8 F n P _ W w _ _ from ?_);refine⟨λf _=>hF.fn f,?_⟩
   rw[Bc (by rfl)]
   have s4:=s3.put (dst:=some 2) (λd V=>by cases V;decide) p
   show CK F n P _ _ (W.put (I 2) (.slice U 0 0)) w;refine wpIn_ret ?_;refine G s4 rfl λy u=>?_
   have hg2:(putDst (putDst (putDst (putDst (jo 8 [x]) (I 2) (.full [])) (I 3) x) (I 4) (.im (.bool (U:Option Addr).isNone))) (I 2) (.full [])).get 2=.full []:=rfl;have u:an X (.full []) N [y]:=by rw[<-hg2];exact u
   simp only[an]at u;have⟨y',ey,ya,yn,y1,y2,_,_⟩:=u;cases ey;subst y1;have yn0:yn=0:=y2;subst yn0;let bi:BI:=⟨1,ya,a.size,0,Y⟩;have hbr:BR (X.er bB bi) w (λ_=>False) bB (.arr 1 a.size 0 []):=⟨bi,Cx.fP _ _ _,rfl,rfl,⟨aH _,aH _⟩,bN _,.inl rfl⟩
   refine⟨X.er bB bi,_,hr.add hn hM i (.refl w) (aH _) bi (λ_=>False) _ (λ_ h=>h.elim) hbr,?_,⟨Up.add hM (.refl _ _) (.refl w) _ bi,by rw[bX];split<;>omega,.add hM i (.refl w) bi _ _⟩⟩
   simp only[an];exact⟨_,rfl,⟨ya,0,rfl,aH _,zC,.inl rfl⟩,bi,Cx.fP _ _ _,aH _,λ_=>⟨ya,0,rfl,aH _,zC,aH _,(λh=>by cases h),.inl rfl⟩⟩
  |some j=>
   show CK F n P _ _ W w;refine wpIn_skip ?_;refine wpIn_seq (wpIn_region ?_);show wpOpsIn F n P (Zy T) _ [0,1,2,3] W w;simp only[wpOpsIn];have hbs:dy E Y bB (putDst (putDst (putDst (jo 8 [x]) (I 2) (.full [])) (I 3) x) (I 4) (.im (.bool (I j:Option Addr).isNone))) h (.buildSlice T 0 #[])=I (.own bB 0 0 0 Y,aE h bB (.arr 0 a.size 0 [])):=by
    show lB E Y bB h T 0 []=_;unfold lB;rw[hT,aN,s];simp only[M,aN];unfold OU at Q;split at Q<;>try trivial
    rename_i z hz2;rw[hz2];simp only[aN,Q,Bool.not_true,al];simp[jY,fS,jg,close,jl];rfl
   refine LD hE hF s3 rfl rfl rfl hn hM i hbs λX4 O4 w4 a4 s4 p4=>?_
   have s4:SR 8 B X4 O4 w4 a4 ⟨putDst (putDst (putDst (putDst (jo 8 [x]) (I 2) (.full [])) (I 3) x) (I 4) (.im (.bool (I j:Option Addr).isNone))) (I 5) (.own bB 0 0 0 Y),aE h bB (.arr 0 a.size 0 []),[],[]⟩:=s4;refine LD (bB:=(aE h bB (.arr 0 a.size 0 [])).length) hE hF s4 rfl rfl rfl (pG rfl) (oA s4.h) (aH _) (v:=x) (h':=aE h bB (.arr 0 a.size 0 [])) rfl λX5 O5 w5 a5 s5 p5=>?_
   have s5:SR 8 B X5 O5 w5 a5 ⟨putDst (putDst (putDst (putDst (putDst (jo 8 [x]) (I 2) (.full [])) (I 3) x) (I 4) (.im (.bool (I j:Option Addr).isNone))) (I 5) (.own bB 0 0 0 Y)) (I 6) x,aE h bB (.arr 0 a.size 0 []),[],[]⟩:=s5;have hd5:=amq (k:=.arr 0 a.size 0 []) hl hn i;have hap:hN E (aE h bB (.arr 0 a.size 0 [])).length .append #[T,T] [.own bB 0 0 0 Y,x] (aE h bB (.arr 0 a.size 0 []))=I (.own bB 1 0 (0+aC l) Y,aE (aE h bB (.arr 0 a.size 0 [])) bB (.arr 1 a.size 0 ([]++l))):=by
    have hg0:ao (aE h bB (.arr 0 a.size 0 [])) bB=I (.arr 0 a.size 0 []):=by rw[bP h bB bB _ i,ay rfl]
    show uj E _ #[T,T] (.own bB 0 0 0 Y) x _=_;unfold uj;show((E.ty T).bind _)=_;rw[hT,aN,s];simp only[M,aN];show(Option.bind (I T) _)=_;rw[aN,hz,ai];have hkT:E.kind T=I (.aw el):=by unfold Env.kind;rw[hT];simp[s]
    unfold qi;rw[hkT];have aBU:nJ (aE h bB (.arr 0 a.size 0 [])) (.own bB 0 0 0 Y)=Y:=by unfold nJ;simp only[hg0]
    simp only[xi,al,aBU,hd5.2,Bool.or_self];have aBx:xw E a T x (aE h bB (.arr 0 a.size 0 []))=I l:=by
     unfold xw;rw[hkT];have EM:(x.pk (aE h bB (.arr 0 a.size 0 []))).bind (λl=>bif i0 a.size l then I l else U)=I l:=by
      rw[hd5.1,aN,hfw,ai]
     cases x<;>exact EM
    rw[aBx,aN];unfold DK;simp only[hg0,al];have aBV:fB 0 0 0 0 ([]:List D)=N:=rfl;rw[aBV];have hrm:room (0+aC l) a.bytes=N:=by rw[dk];exact R
    simp only[Nat.beq_refl,hrm,Bool.and_self,kp (aH 0),ai];rfl
   have AK:dy E Y (aE h bB (.arr 0 a.size 0 [])).length (putDst (putDst (putDst (putDst (putDst (jo 8 [x]) (I 2) (.full [])) (I 3) x) (I 4) (.im (.bool (I j:Option Addr).isNone))) (I 5) (.own bB 0 0 0 Y)) (I 6) x) (aE h bB (.arr 0 a.size 0 []))
     (.call {callee:=aij aih,args:=#[n1 5,n1 6],argTypes:=#[T,T]})=I (.own bB 1 0 (0+aC l) Y,aE (aE h bB (.arr 0 a.size 0 [])) bB (.arr 1 a.size 0 ([]++l))):=by
    have aBW:dA (putDst (putDst (putDst (putDst (putDst (jo 8 [x]) (I 2) (.full [])) (I 3) x) (I 4) (.im (.bool (I j:Option Addr).isNone))) (I 5) (.own bB 0 0 0 Y)) (I 6) x) #[n1 5,n1 6]=[.own bB 0 0 0 Y,x]:=rfl;show hN E _ .append #[T,T] (dA _ #[n1 5,n1 6]) _=_;rw[aBW];exact hap
   refine LD (bB:=(aE h bB (.arr 0 a.size 0 [])).length) hE hF s5 rfl rfl rfl (pG rfl) (oA s5.h) (aH _) AK λX6 O6 w6 a6 s6 p6=>?_
   have s6:SR 8 B X6 O6 w6 a6 ⟨putDst (putDst (putDst (putDst (putDst (putDst (jo 8 [x]) (I 2) (.full [])) (I 3) x) (I 4) (.im (.bool (I j:Option Addr).isNone))) (I 5) (.own bB 0 0 0 Y)) (I 6) x) (I 7) (.own bB 1 0 (0+aC l) Y),aE (aE h bB (.arr 0 a.size 0 [])) bB (.arr 1 a.size 0 ([]++l)),[],[]⟩:=s6;refine LD (bB:=(aE (aE h bB (.arr 0 a.size 0 [])) bB (.arr 1 a.size 0 ([]++l))).length) hE hF s6 rfl rfl rfl (pG rfl) (oA s6.h) (aH _) (v:=.own bB 1 0 (0+aC l) Y) (h':=aE (aE h bB (.arr 0 a.size 0 [])) bB (.arr 1 a.size 0 ([]++l))) rfl λX7 O7 w7 a7 s7 p7=>?_
   show CK F n P _ _ a7 w7;refine wpIn_ret ?_;refine G s7 rfl λy u=>?_
   have u:an X7 (.own bB 1 0 (0+aC l) Y) N [y]:=u;rw[dk]at u;have hh:aE (aE h bB (.arr 0 a.size 0 [])) bB (.arr 1 a.size 0 ([]++l))=aE h bB (.arr 1 a.size 0 l):=by rw[aoa h _ _ i];rfl
   have s7h:=s7.h;have H:=((p4.trans p5).trans p6).trans p7;simp only[hh]at s7h H;exact⟨X7,O7,s7h,u,H⟩
 trivial
end
def adp(P:Program)(u:Nat):Bool:=match P.underlying u with|some (.pointer _)=>Y|some _=>N|none=>Y
def aAG{P}{u}(h:adp P u=N):∃a,P.underlying u=I a/\∀e,a≠.pointer e:=by unfold adp at h;split at h;cases h;rename_i a c b;exact⟨a,b,λe q=>c e q⟩;cases h
def za(P:Program)(E:Env)(b a:Nat):Prop:=∃fn T bt,P.funcs[b]?=some fn∧fn.body=some (QP T bt)∧(fn.name== "runtime.NumGoroutine")=false∧fn.ntmps=8∧fn.results=#[.tmp 2]∧(match E.ty T with|some c=>(match c.k with|.aw e=>bif ah e a then(E.ty a).isSome else Y|_=>Y)|none=>Y)=N
def za.sound{F}{P}{E}{j f}(p:EnvTy P E)(hF:dU F)(h:za P E j f):∀(i B)(X)(O)(w)(h),HR B X O w h->∀(d)(args),aX (λv x=>an X v N [x]) d args.toList->∀b,ao h b=U->X.M b=U->b<=h.length->∀v c,z7 E b f d h=I (v,c)->fR F i P B X O w h (callFunc j args) v c:=by have⟨fn,T,bt,k,l,m,n,o,a⟩:=h;split at a;rename_i G u;split at a;rename_i e r;(cases g:ah e f with|false=>rw[g,al]at a;cases a|true=>rw[g,ai]at a;have:=ef g;subst this;have⟨D,t⟩:=ajN.1 a;intro i B X O w h s d args q b y z C v c e;exact alU p hF k l m n o u r t i s d args q b y z C v c e);cases a;cases a
abbrev A7(ty:Tb TI)(fn:Tb Func)(cl:Tb Nat)(inl keep:Nat->Bool)(a:Nat->Nat->Option (List (Nat×List Nat)))(ex:Tb Nat)(b:Nat->Nat->Option (Nat×Nat)):Env:=⟨ty.find,fn.find,λ_=>U,cl.find,λc=>(ex.find c).getD 0,inl,keep,a,b⟩
def H0(F:Fence)(P:Program)(c x:Nat):Prop:=∀(d B)(X)(O)(w)(h),HR B X O w h->∀(b)(args),aX (λv x=>an X v N [x]) b args.toList->∀v a,ln x b h=I (v,a)->fR F d P B X O w h (callFunc c args) v a
def amP{F}{P}(hF:dU F){ty}{fn}{cl}{inl keep}{c}{ex}{d}(j:ty.n8 (Ow P)=N)(l:cM 12 P.depth=N)(hm:P.follows .mixedOrders=N)(f:∀a i g,Gh.K a i g↔(codeOk (A7 ty fn cl inl keep c ex d) a i g=N/\gY g=N))(hf:fe (λa h=>P.funcs[a]?=I h) fn)(m:fn.n8 (Ew (A7 ty fn cl inl keep c ex d))=N)(k:fe (za P (A7 ty fn cl inl keep c ex d)) cl)(n:fe (H0 F P) ex):gE F P (A7 ty fn cl inl keep c ex d):=have hB:EnvTy P (A7 ty fn cl inl keep c ex d):={ty:=λs t e=>azJ ((fe.of j).find e),depth:=ju l};{toEnvTy:=hB,mixed:=hm,gh:=f,fn:=λa h e=>(by have e:fn.find a=I h:=e;have⟨o,p⟩:=aaW ((fe.of m).find e);exact⟨hf.find e,o,p⟩),sm:=λb q e=>(by cases e),ext:=λb e=>(by have e:(ex.find b).getD 0≠0:=e;show H0 F P b ((ex.find b).getD 0);cases f:ex.find b with|none=>rw[f]at e;exact absurd rfl e|some x=>exact n.find f),clone:=λb r e=>(k.find e).sound hB hF}
def ak9{P}{E}{T:rG}{fn}(hf:fe (λf a=>P.funcs[f]?=I a) fn)(i:fn.n8 (Ew E)=N)(h:T.n8 (λf _=>match fn.find f with|some fn=>fn.body.isSome|none=>Y)=N):∀f c,T.find f=I c->y9 P f:=λf c e=>by have h:=(fe.of h).find e;split at h;rename_i a b;have⟨d,g⟩:=ajN.1 h;exact⟨a,d,hf.find b,g,(aaW ((fe.of i).find b)).1⟩;cases h
end
section
open Go.ChangeShapes Go.WideShapes
variable [Gh]
variable{P:Program}
theorem vF{a}{n}(h:(CO a n).wf=N):dJ a n:=by simp[Lit.wf,aK]at h;exact h
def aAN{c}{a}{b}{m}(h:(CO a b).wf=N):aR c (.int a b) m [.int a b]:=by refine⟨?_,vF h⟩;trivial
def aAM{i}{a b c d}{e f g h}(j:(CO a e).wf=N)(k:(CO b f).wf=N)(l:(CO c g).wf=N)(m:(CO d h).wf=N):aR i (.agg 4 [.int a e,.int b f,.int c g,.int d h]) N [.agg #[.int a e,.int b f,.int c g,.int d h]]:=by exact⟨_,[[.int a e],[.int b f],[.int c g],[.int d h]],rfl,rfl,⟨_,_,rfl,⟨rfl,vF j⟩,_,_,rfl,⟨rfl,vF k⟩,_,_,rfl,⟨rfl,vF l⟩,_,_,rfl,⟨rfl,vF m⟩,rfl⟩,rfl⟩
def aAr{c}{b}(h:v8 m6 P c b (.bool N)){args}w{a}(i:CI a w)(g:aX (λf x=>aR a f N [x]) b args.toList):Calls P c args w λe d=>e=.returned (.bool N)/\Below w.heap.size w d:=by refine callsIn_wide.1 (yJ (h 1 a w _ i g) λe d q=>?_);grind[aR]
def aAK{H}{enc}{a}{c:ChangeSpec}{apart n q m}{W b}{args}{v}{d e}(o:aim enc P a.params.toList c.vars apart W args.toList d e [])(h:∀f sp r,CL enc P b f sp r a.resultTypes.toList (v.resultList a.resultTypes.size) (c.fn H (d++e)).results [])(g:∀sp,CL enc P b 0 sp N a.params.toList args.toList (c.fn H (d++e)).args [])(i:∀sp,ail enc P b sp c.vars (c.fn H (d++e)).vars [])(s:Below W.heap.size W b)(t:∀(j:Nat)l k,a.resultTypes[j]?=I l->(v.resultList a.resultTypes.size)[j]?=I k->HD P b .any 0 l k):c.post enc P a apart n q m W args v b:=by refine⟨d,e,[],[],[],[],o,h _ _ _,g _,i _,s.frame _,λ_=>?_⟩;exact⟨t,_,_,[]++[]++[],⟨[]++[],[],trodAll_append (g _) (h _ _ _),i _,rfl,λf w u=>zT,λ_=>zS⟩,λp u _=>zT⟩
def goesBy_none{a:OpenClaim}(f:a.start=.entering)(h:P.funcs.toList.any Xf=Y):Y=a.goesBy P:=by
 have d:P.funcs.any Xf=Y:=zG;have e:∀c:Nat,P.funcs[c]?.any Xf=Y:=λc=>by grind
 have hf:∀b,P.goes b=Y:=λb=>by simp[Program.goes,e,d]
 unfold OpenClaim.goesBy Program.goesAt Program.goesFrom;cases P.funcNamed _<;>first|grind|rfl
end
section
abbrev IH:=Nat->Nat->Nat->Code->St->Option (Ex×St)
structure Ask where
 f:Nat
 fb:Nat
 cur:Nat
 c:Code
 st:St
 r:Ex×St
def Holds(S:List Ask)(G:IH):Prop:=∀p∈S,G p.f p.fb p.cur p.c p.st=I p.r
def aa{e:Type}(b:IH->Option e):Prop:=∀G d,b G=I d->∃a,Holds a G/\∀c,Holds a c->b c=I d
theorem aa.const{b}(a:Option b):aa (λ_=>a):=λ_ _ h=>⟨[],(λ_ h=>by cases h),λ_ _=>h⟩
theorem aa.ask(c d b)(a)(e):aa (λG=>G c d b a e):=λG g h=>⟨[⟨c,d,b,a,e,g⟩],(λp i=>zG),λj f=>f _ (List.mem_singleton.2 rfl)⟩
theorem aa.bind{n o}{a}{k:n->IH->Option o}(g:aa a)(i:∀x,aa (k x)):aa (λG=>(a G).bind λx=>k x G):=λG j h=>by have⟨x,e,f⟩:=ax.1 h;have⟨d,l,m⟩:=g G x e;have⟨T,t1,t2⟩:=i x G j f;refine⟨d++T,λp hp=>?_,λb c=>?_⟩;rcases b7.1 hp with hp|hp;exact l p hp;exact t1 p hp;show(a b).bind _=_;rw[m b λp hp=>c p (b7.2 (.inl hp))];exact t2 b λp hp=>c p (b7.2 (.inr hp))
theorem aa.of{b}{c a:IH->Option b}(h:aa a)(e:∀G,c G=a G):aa c:=by simp[funext e,h]
theorem aa.nL{f g}{a}{F}(d:aa a)(b:f->IH->Option g)(e:∀x,aa (b x))(c:∀G,a G=U->F G=U)(e1:∀G x,a G=I x->F G=b x G):aa F:=(d.bind e).of λG=>by cases h:a G<;>first|rename_i x;rw[e1 G x h];rfl|rw[c G h];rfl
theorem aa.cond{d}{b}{a c:IH->Option d}(e:aa a)(f:aa c):aa (λG=>bif b then a G else c G):=by cases b;all_goals trivial
theorem aa.map{d e}{c}(b:aa c)(a:d->e):aa (λG=>(c G).map a):=(b.bind (k:=λx _=>I (a x)) λx=>aa.const _).of λG=>by cases c G<;>rfl
section
variable (E:Env)
def agc(a)(args)(h)(lp):aa (λG=>mX E G a args h lp):=by refine aa.bind (aa.const _) λfn=>aa.bind (aa.const _) λb=>?_;have:aa (λG=>bif br (aC args) fn.ntmps then G a 0 0 b ⟨jo fn.ntmps args,h,lp,[]⟩else U):=aa.cond (aa.ask _ _ _ _ _) (aa.const _);refine aa.nL this (λx _=>match x with|(.exit _,_)=>U|(_,c)=>I (fn,c)) (λx=>aa.const _) (λG e=>?_) (λG x e=>?_);all_goals grind
def VH(b):∀(a)(h)(lp),aa (λG=>kd E G b a h lp)|[],h,lp=>aa.const _|c::a,h,lp=>by show aa (λG=>bif lR c then(bif br b c.1 then kd E G b a h lp else U)else match mX E G c.1 c.2 h lp with|some (fn,d)=>(match d.df with|[]=>(match l7 E d.h fn d.t with|some _=>kd E G b a d.h d.lp|none=>U)|_=>U)|none=>U);refine aa.cond (aa.cond (VH b a h lp) (aa.const _)) ?_;refine aa.nL (agc E c.1 c.2 h lp) (λx G=>match x.2.df with|[]=>(match l7 E x.2.h x.1 x.2.t with|some _=>kd E G b a x.2.h x.2.lp|none=>U)|_=>U) (λx=>?_) (λG e=>by simp[e]) (λG x e=>by simp[e]);split;split;exact VH b a _ _;simp[aa.const];simp[aa.const]
def E5(b)(args)(h)(lp):aa (λG=>gK E G b args h lp):=by unfold gK;refine aa.nL (agc E b args h lp) (λx G=>match x.2.df with|[]=>(l7 E x.2.h x.1 x.2.t).map λv=>(v,x.2.h,x.2.lp)|c=>(kd E G (aC h) c x.2.h x.2.lp).bind λa=>(l7 E a.1 x.1 x.2.t).map λv=>(v,a.1,a.2)) (λx=>?_) (λG e=>by simp[e]) (λG x e=>zG);split;simp[aa.const];exact aa.bind (VH E _ _ _ _) λa=>aa.const _
def ZT(a)(args):aa (λG=>pj E G a args):=by exact aa.bind (E5 E a _ _ _) λb=>aa.const _
def Q2(a)(args):aa (λG=>ie E G a args):=by unfold ie;split;split;simp[aa.const];exact ZT E a args;exact ZT E a args
def alB(a)(args)(h)(lp):aa (λG=>qk E G a args h lp):=by refine aa.cond (E5 E a args h lp) ?_;split;exact aa.bind (Q2 E a _) λb=>aa.const _;exact E5 E a args h lp
def alx(b a)(args)(h)(lp):aa (λG=>wH E G b a args h lp):=by unfold wH;split;simp[aa.const];split;exact alB E a args h lp;simp[aa.const]
def ayb(f)(i)(h):aa (λG=>x7 G f i h):=by unfold x7;split;rename_i b g ps d body _;refine aa.bind (aa.const _) λt0=>?_;refine aa.nL (aa.ask b 1 0 d _) (λx G=>match x with|(.nm,c)=>(match c.df with|[]=>(match G b 1 0 body ⟨c.t,c.h,[],[]⟩with|some (.nm,a)=>(match a.df with|[]=>I (.im (.bool N),aE a.h f (.lp b g ps d body))|_=>U)|_=>U)|_=>U)|_=>U) (λx=>?_) (λG e=>by rw[e]) (λG x e=>by grind);have⟨ex,c⟩:=x;(cases ex with|nm=>show aa (λG=>match c.df with|[]=>(match G b 1 0 body ⟨c.t,c.h,[],[]⟩with|some (.nm,a)=>(match a.df with|[]=>(I (V.im (.bool N),aE a.h f (.lp b g ps d body)))|_=>U)|_=>U)|_=>U);split;refine aa.nL (aa.ask b 1 0 body _) (λx _=>match x with|(.nm,a)=>(match a.df with|[]=>I (.im (.bool N),aE a.h f (.lp b g ps d body))|_=>U)|_=>U) (λx=>aa.const _) (λG e=>by rw[e]) (λG x e=>by grind);simp[aa.const]|exit _=>simp[aa.const]|ret=>simp[aa.const]);simp[aa.const]
def auJ(lp){a:IH->R}(b:aa a):aa (λG=>lift lp (a G)):=(b.map λx=>(x.1,x.2,lp)).of λG=>by cases a G<;>rfl
def anH(b)(c)(a)(h)(lp):aa (λG=>kz E G b c a h lp):=by unfold kz;split;exact auJ lp (ayb _ _ _);exact aa.bind (aa.const _) λd=>alx E _ _ _ _ _
def adE(keep)(ops)(d)(c)(a):aa (λG=>e7 E G keep ops d c a):=by have key:∀b,aa b->aa (λG=>match b G with|none=>U|some (v,h,lp)=>I (⟨putDst a.t c.dst v,h,lp,a.df⟩:St)):=λb f=>aa.nL f (λx _=>I ⟨putDst a.t c.dst x.1,x.2.1,x.2.2,a.df⟩) (λx=>aa.const _) (λG e=>by simp[e]) (λG x e=>by simp[e]);unfold e7;split;simp[aa.const];simp[aa.const];split;simp[aa.const];refine key (λG=>match c.op with|.call b=>(match b.callee with|.builtin _=>lift a.lp (dy E keep d a.t a.h c.op)|_=>kz E G d a.t b a.h a.lp)|op=>lift a.lp (dy E keep d a.t a.h op)) ?_;split;split;simp[aa.const];exact anH E _ _ _ _ _;simp[aa.const]
def agj(keep)(ops):∀(l)(a),aa (λG=>eb E G keep ops l a)|[],a=>aa.const _|b::l,a=>by show aa (λG=>match e7 E G keep ops (aC a.h) b a with|none=>U|some c=>eb E G keep ops l c);exact aa.nL (adE E keep ops _ b a) (λx G=>eb E G keep ops l x) (λx=>agj keep ops l x) (λG e=>by have e:e7 E G keep ops (aC a.h) b a=U:=e;grind) (λG x e=>by grind)
def ae1(keep)(b)(c)(view)(op):aa (λG=>fM E G keep b c view op):=by
 unfold fM;split;all_goals first|exact aa.const _|skip
 split;all_goals first|exact aa.const _|skip
 refine aa.bind (aa.const _) λd=>?_;split;simp[aa.const];split;exact aa.cond (aa.const _) (aa.bind (aa.const _) λa=>aa.bind (Q2 E _ a) λe=>aa.const _);simp[aa.const]
def avU(keep)(ops)(g h i d)(m)(a)(c):aa (λG=>dx E G keep ops g h i d m a c):=by unfold dx;(split<;>try simp[aa.const];done);split;simp[aa.const];refine aa.cond ?_ ?_;split;exact(ae1 E keep _ _ _ _).map _;simp[aa.const];exact aa.bind (ae1 E keep _ _ _ _) λb=>aa.const _;simp[aa.const];exact adE E keep ops _ a c;split;exact aa.bind (aa.const _) λf=>aa.bind (E5 E _ _ _ _) λb=>aa.const _;simp[aa.const];simp[aa.const];simp[aa.const];split;exact aa.bind (aa.const _) λf=>aa.bind (aa.const _) λe=>aa.bind (Q2 E _ e) λb=>aa.const _;simp[aa.const]
def age(keep)(ops)(b c):∀(l)(a)(i)(d),aa (λG=>hZ E G keep ops b c l a i d)|[],a,i,d|f::l,[],i,d=>aa.const _|f::l,(g,m)::a,i,d=>by show aa (λG=>match dx E G keep ops b c i g m f d with|none=>U|some h=>hZ E G keep ops b c l a (bif bJ E f.op then i+1 else i) h);exact aa.nL (avU E keep ops b c i g m f d) (λx G=>hZ E G keep ops b c l a (bif bJ E f.op then i+1 else i) x) (λx=>age keep ops b c l a _ x) (λG e=>by simp[e]) (λG x e=>by simp[e])
def axU(b id)(ops)(c):aa (λG=>qO E G b id ops c):=by exact aa.bind (aa.const _) λa=>age E _ ops _ _ _ a _ _
def Ro(d g h)(l)(c):aa (λG=>pn E G d g h l c):=by cases l with|region id ops n=>show aa (λG=>match(bif n then qO E G d id ops (gp E Y d id c)else eb E G (E.keep d) ops ops.toList (gp E Y d id c))with|some f=>(I (Ex.nm,gp E N d id f))|none=>U);exact aa.nL (aa.cond (b:=n) (axU E d id ops (gp E Y d id c)) (agj E (E.keep d) ops ops.toList (gp E Y d id c))) (λx _=>I (Ex.nm,gp E N d id x)) (λx=>aa.const _) (λG e=>by simp[e]) (λG x e=>by simp[e])|seq a b=>show aa (λG=>match G d g h a c with|some (.nm,f)=>G d g h b f|i=>i);exact aa.nL (aa.ask d g h a c) (λx G=>match x with|(.nm,f)=>G d g h b f|i=>I i) (λx=>by have⟨ex,f⟩:=x;cases ex<;>first|exact aa.ask _ _ _ _ _|simp[aa.const]) (λG e=>by simp[e]) (λG x e=>zG)|cond l a b=>show aa (λG=>match ev c.t l with|.im (.bool p)=>bif p then G d g h a c else G d g h b c|_=>U);split;exact aa.cond (aa.ask _ _ _ _ _) (aa.ask _ _ _ _ _);simp[aa.const]|block id b=>show aa (λG=>match G d g id b c with|some (.exit k,f)=>bif ah k id then I (.nm,f)else I (.exit k,f)|i=>i);exact aa.nL (aa.ask d g id b c) (λx _=>match x with|(.exit k,f)=>bif ah k id then I (.nm,f)else I (.exit k,f)|i=>I i) (λx=>aa.const _) (λG e=>by simp[e]) (λG x e=>zG)|loop b=>show aa (λG=>match G d g h b c with|some (.nm,f)=>G d g h (.loop b) f|i=>i);exact aa.nL (aa.ask d g h b c) (λx G=>match x with|(.nm,f)=>G d g h (.loop b) f|i=>I i) (λx=>by have⟨ex,f⟩:=x;cases ex<;>first|exact aa.ask _ _ _ _ _|simp[aa.const]) (λG e=>by simp[e]) (λG x e=>zG)|scope b=>exact aa.ask _ _ _ _ _|rangeFunc j ps m body=>show aa (λG=>match(match ev c.t j with|.fn j a cap=>I (j,a,cap)|.im (.fn j)=>I (j,[],[])|_=>U)with|some (j,a,cap)=>(match gK E G j (a++(.jr (aC c.h+1)::cap)) (c.h++[U,I (.lp d c.t ps.toList m body)]) c.lp with|some (_,o,lp)=>(match ao o (aC c.h+1)with|some (.lp ..)=>(I (Ex.nm,⟨c.t,bn o (aC c.h+1) U,lp,bif ah g 0 then(aC c.h,[V.undef])::c.df else c.df⟩):Option (Ex×St))|_=>U)|none=>U)|none=>U);split;rename_i j a cap _;exact aa.nL (E5 E j (a++(.jr (aC c.h+1)::cap)) (c.h++[U,I (.lp d c.t ps.toList m body)]) c.lp) (λx _=>match ao x.2.1 (aC c.h+1)with|some (.lp ..)=>I (Ex.nm,⟨c.t,bn x.2.1 (aC c.h+1) U,x.2.2,bif ah g 0 then(aC c.h,[V.undef])::c.df else c.df⟩)|_=>U) (λx=>aa.const _) (λG e=>by simp_all[e]) (λG x e=>by simp_all[e]);simp[aa.const]|_=>exact aa.const _
end
def Rr(E):∀(n c d b)(a)(f)(e),exec E n c d b a f=I e->exec E (n+1) c d b a f=I e|0,_,_,_,_,_,_,h=>by cases h|n+1,c,d,b,a,f,e,h=>by have⟨k,g,i⟩:=Ro E c d b a f (exec E n) e h;exact i _ λp j=>Rr E n _ _ _ _ _ _ (g p j)
def JF(E){g m}(e:g<=m){c d b}{a}{i}{r}(h:exec E g c d b a i=I r):exec E m c d b a i=I r:=by obtain⟨f,rfl⟩:=Nat.exists_eq_add_of_le e;clear e;induction f with|zero=>exact h|succ f G=>exact Rr E _ _ _ _ _ _ _ G
open Classical in def X(E:Env):IH:=λc d b a g=>if h:∃e f,exec E e c d b a g=I f then I h.choose_spec.choose else U
def DB{E}{e f d}{c}{g}{r}:X E e f d c g=I r↔∃b,exec E b e f d c g=I r:=by unfold X;constructor;(.intro h;split at h;all_goals grind);rintro⟨b,h⟩;have q:∃b r,exec E b e f d c g=I r:=⟨b,r,h⟩;have a:=JF E (ajp b q.choose) h;have i:=JF E (ajq b q.choose) q.choose_spec.choose_spec;grind
def aby{E}:∀{S},Holds S (X E)->∃b,Holds S (exec E b)|[],_=>⟨0,(λ_ h=>by cases h)⟩|p::S,h=>by have⟨b,c⟩:=DB.1 (h p (eS ..));have⟨m,hm⟩:=aby (S:=S) λq a=>h q (gj _ a);refine⟨max b m,λq a=>?_⟩;rcases dM.1 a with rfl|a;exact JF E (ajp ..) c;exact JF E (ajq ..) (hm q a)
theorem lk(E)(e f d)(c)(st):X E e f d c st=pn E (X E) e f d c st:=by apply Option.ext;intro j;constructor;intro h;have⟨b,a⟩:=DB.1 h;have a:=Rr E b _ _ _ _ _ _ a;have⟨k,g,i⟩:=Ro E e f d c st (exec E b) j a;exact i _ λp l=>DB.2 ⟨b,g p l⟩;intro h;have⟨k,g,i⟩:=Ro E e f d c st (X E) j h;have⟨b,a⟩:=aby g;exact DB.2 ⟨b+1,i _ a⟩
def akq[Gh]{F}{P}{E}(e:gE F P E)(hF:dU F):jQ F P E (X E):=λc d b a j i h=>by have⟨g,f⟩:=DB.1 h;exact Rq e hF g c d b a j i f
end
section
inductive Ty where
 |bool
 |int (k:IntKind)
 |str
 |aw (t:Ty)
 |st (w:Nat)(l:Ty)
 |aI (l:Ty)
 |nl
 |cn (t l:Ty)
 |jZ
 |err
@[reducible]def Ty.den(d):=Ty.rec (motive:=λ_=>Type) Bool (λ_=>Int) (List Nat) (λ_ b=>List b) (λ_ _ b=>b) (λ_ b=>b) Unit (λ_ _ a c=>a×c) Nat (List (Nat×Int)) d
def iH:List (Nat×Int)->D|[]=>.ez|(b,a)::l=>.ifc b (.agg 2 [.int .i64 a,iH l])
mutual
def Ty.enc:(a:Ty)->a.den->D|.bool,b=>.bool b|.int d,e=>.int d e|.str,f=>.str f|.aw a,l=>.aw (List.map (Ty.enc a) l)|.st w l,x=>.agg w (Ty.eh l x)|.aI l,x=>.aI (Ty.eh l x)|.nl,_=>.nil|.cn _ _,_=>.nil|.jZ,c=>.fn c|.err,l=>iH l
def Ty.eh:(l:Ty)->l.den->List D|.cn a l,x=>Ty.enc a x.1::Ty.eh l x.2|_,_=>[]
end
def Ty.wd:Ty->Nat|.st w _=>w|_=>1
def KG:IntKind->IntKind->Bool|.i8,.i8|.i16,.i16|.i32,.i32|.i64,.i64|.u8,.u8|.u16,.u16|.u32,.u32|.u64,.u64=>N|_,_=>Y
def Ty.beq:Ty->Ty->Bool|.bool,.bool|.str,.str|.nl,.nl|.jZ,.jZ|.err,.err=>N|.int c,.int d=>KG c d|.aw a,.aw b=>Ty.beq a b|.st w a,.st v b=>ah w v&&Ty.beq a b|.aI a,.aI b=>Ty.beq a b|.cn a l,.cn b e=>Ty.beq a b&&Ty.beq l e|_,_=>Y
theorem S2:∀{a b},KG a b=N->a=b:=by intro a b h;cases a<;>cases b<;>first|rfl|cases h
theorem Ty.beq_eq:∀{a b},Ty.beq a b=N->a=b:=by intro a;induction a with|bool|str|nl|jZ|err=>intro b h;(cases b<;>first|rfl|cases h)|int c=>intro b h;(cases b<;>first|rename_i d;rw[S2 (show KG c d=N from h)]|cases h)|aw a G|aI a G=>intro b h;(cases b<;>first|rename_i b;rw[G (show Ty.beq a b=N from h)]|cases h)|st w a G=>intro b h;(cases b<;>first|rename_i v b;have h:(ah w v&&Ty.beq a b)=N:=h;rw[aK]at h;rw[bQ h.1,G h.2]|cases h)|cn a l f g=>intro b h;cases b<;>first|rename_i b e;have h:(Ty.beq a b&&Ty.beq l e)=N:=h;grind|cases h
def Ty.cs(a b:Ty)(x:a.den):=if h:Ty.beq a b=N then I (Ty.beq_eq h▸x)else U
mutual
def Ty.flat:Ty->Bool|.aw _=>Y|.st _ l=>Ty.mA l|.aI l=>Ty.mA l|_=>N
def Ty.mA:Ty->Bool|.cn a l=>Ty.flat a&&Ty.mA l|_=>N
end
def pS(E:Env)(g:Nat):Nat->Option Ty:=fW (λ_=>U) (λ_ G i=>(E.ty i).bind λb=>match b.k with|.bool=>I .bool|.int f=>I (.int f)|.str=>I .str|.aw e=>(G e).map .aw|.st d=>(a9 (I .nl) (λc _ h=>(G c.2.2).bind λa=>h.map λl=>.cn a l) d:Option Ty).map (.st b.size)|.arr m e=>(G e).map λa=>.st b.size (fW .nl (λ_ l=>.cn a l) m)|.fn=>I .jZ|.ifc _=>I .err|_=>U) g
end
section
open Go.ChangeShapes Go.WideShapes Go.Joins
variable [Gh]
def Ty.Ok:(a:Ty)->a.den->Prop|.bool,_=>True|.int d,e=>dJ d e|.str,b=>b.length<=fy/\∀c∈b,c<256|.aw a,l=>l.length<=maxLen/\∀x∈l,Ty.Ok a x|.st _ l,x=>Ty.Ok l x|.aI l,x=>Ty.Ok l x|.nl,_=>True|.cn a l,x=>Ty.Ok a x.1/\Ty.Ok l x.2|.jZ,_|.err,_=>False
def Ty.Sm(a:Nat):(b:Ty)->b.den->Prop|.aw b,l=>l.length<=a/\∀x∈l,Ty.Sm a b x|.st _ l,x=>Ty.Sm a l x|.aI l,x=>Ty.Sm a l x|.cn b l,x=>Ty.Sm a b x.1/\Ty.Sm a l x.2|.bool,_|.int _,_|.str,_|.nl,_|.jZ,_|.err,_=>True
structure wa{H:Type}(bk:DataW H->Nat):Prop where
 part:∀{d:DataW H}{l:List (DataW H)},d∈l->bk d<=bk (.agg l)
 elem:∀{d:DataW H}{l r:List (DataW H)},d∈l->bk d<=bk (.slice l r)
 len:∀(l r:List (DataW H)),l.length<=bk (.slice l r)
def ug(ok:Nat->Ty->Bool)(w:Nat):List (Nat×Nat×Nat)->Ty->Nat->Bool|[],.nl,b=>ah b w|c::d,.cn a l,b=>ah c.1 b&&(ah a.wd c.2.1&&(ok c.2.2 a&&ug ok w d l (b+a.wd)))|_,_,_=>Y
def zQ(ok:Ty->Bool)(c w:Nat):Nat->Ty->Nat->Bool|0,.nl,b=>ah b w|m+1,.cn a l,b=>ah a.wd c&&(ok a&&zQ ok c w m l (b+c))|_,_,_=>Y
def iG(E:Env):Nat->Nat->Ty->Bool|0,_,_=>Y|n+1,b,u=>match E.ty b with|none=>Y|some c=>ah u.wd c.size&&(match c.k,u with|.bool,.bool=>N|.int f,.int g=>KG f g|.str,.str=>N|.aw e,.aw a=>cM 0 a.wd&&iG E n e a|.st d,.st w l=>ug (λb u=>iG E n b u) w d l 0|.arr m e,.st w l=>cM 0 m&&(match E.ty e with|some h=>zQ (λu=>iG E n e u) h.size w m l 0|none=>Y)|_,_=>Y)
section
variable{P:Program}{E:Env}{W:World}{H:Type}{enc:TypeId×Value->H}{sp:Nat->Bool}{held:Bool}
theorem Qi(c:EnvTy P E){a b}{u}(h:iG E a b u=N):P.cellsOf b=u.wd:=by cases a;cases h;rename_i a;unfold iG at h;(split at h<;>try grind);rename_i e d;rw[aK]at h;rw[(c.ty b e d).sizeOf,bQ h.1]
theorem Yj{c}:∀{l}{b}{a}{ws},bH c l Y b->aR c a Y ws->bH c (l++[a]) Y (b++[ws])|[],b,a,ws,h,d=>by subst h;simp[List.nil_append,bH];grind|_::l,b,a,ws,h,d=>by obtain⟨w,g,rfl,e,f⟩:=h;exact⟨w,_,rfl,e,Yj f d⟩
def agT{a:Ty}{a0}{s}{Q:Nat->a.den->Prop}:∀(n),(∀i,i<n->∃(y:a.den)(ws:List Value),aR (λp=>W.cell? p) (a.enc y) Y ws/\Q i y/\ws.length=s/\∀b,b<s->W.cell? ((a0.add (i*s)).add b)=ws[b]?)->∃(d:List a.den)(c:List (List Value)),d.length=n/\bH (λp=>W.cell? p) (d.map a.enc) Y c/\(∀ws∈c,ws.length=s)/\c.flatten.length=n*s/\(∀x∈d,∃i,i<n/\Q i x)/\cK (λp=>W.cell? p) a0 c.flatten|0,_=>⟨[],[],rfl,by rfl,zS,zS,zS,λb v e=>zT⟩|n+1,h=>by have⟨d,c,f,g,q,r,t,j⟩:=agT n λi u=>h i J;have⟨y,ws,m,w,z,o⟩:=h n J;refine⟨d++[y],c++[ws],by simp[f],?_,?_,?_,?_,?_⟩;simp[List.map_append,Yj,g,m];grind;grind;grind;intro b v e;rw[List.flatten_append]at e;by_cases k:b<c.flatten.length;rw[List.getElem?_append_left k]at e;exact j b v e;rw[List.getElem?_append_right J]at e;(have l:b-c.flatten.length<s:=by grind);have:=o _ l;simp_all[e,this,Go.Deep.add_add]
def azF(hE:EnvTy P E):∀(n t)(u),iG E n t u=N->∀(T)(cs)(x),ain enc P W 0 sp held T t cs=I x->
  ∃y:u.den,aR (λp=>W.cell? p) (u.enc y) Y cs/\(u.Ok y/\∀(d)(q),wa q->q x.1<=d->u.Sm d y)/\cs.length=u.wd:=by
 intro n;induction n with
 |zero=>intro t u h;cases h
 |succ n G=>
  intro t u h T cs x F;unfold iG at h;split at h
  .cases h
  rename_i ti hti;rw[aK]at h;obtain⟨hw0,h⟩:=h;have hw:=bQ hw0;clear hw0;have hT:=hE.ty t ti hti;have K:=hT.kind;split at h
  .rename_i r;rw[r]at K;obtain⟨b,rfl,rfl⟩:=DataW.trod_bool K F;exact⟨b,by rfl,⟨trivial,λ_ _ _ _=>trivial⟩,rfl⟩
  .rename_i k k' r;rw[r]at K;have:=S2 h;subst this;obtain⟨m,rfl,rfl,hm⟩:=DataW.trod_int K F;exact⟨m,by simp only[Ty.enc,aR];first|exact⟨rfl,vF hm⟩|simp[trivial,vF,hm],⟨vF hm,λ_ _ _ _=>trivial⟩,rfl⟩
  .rename_i r;rw[r]at K;obtain⟨s,rfl,rfl,hs⟩:=DataW.trod_string K F;refine⟨DV s,?_,⟨⟨?_,?_⟩,λ_ _ _ _=>trivial⟩,rfl⟩
   .simp only[Ty.enc,aR];exact⟨s,rfl,rfl,zT⟩
   .simp_all[maxLen,hs,fy,DV]
   intro c hc;unfold DV at hc;obtain⟨b,_,rfl⟩:=mq.1 hc;exact b.toNat_lt
  .rename_i e a r;rw[r]at K;rw[aK]at h;obtain⟨h0,ha⟩:=h;have h0:0<a.wd:=ju h0;have AL:=Qi hE ha;rcases Go.Deep.open_slice K F with⟨rfl,rfl⟩|⟨a0,len,cap,m,k,Dt,Pl,rfl,_,hl,hc,hm,rfl,hel⟩
   .refine ⟨[],?_,⟨⟨zS,zS⟩,λ_ _ _ _=>⟨zS,zS⟩⟩,rfl⟩
    simp only[Ty.enc,aR,List.map_nil];grind
   .have hlm:len<=m:=by grind
    obtain⟨L,o,v,h2,h3,h4,h5,h6⟩:=agT (W:=W) (a:=a) (a0:=a0) (s:=a.wd) (Q:=λi y=>a.Ok y/\∀(d)(q),wa q->q (Dt i)<=d->a.Sm d y) len λi hi=>by
     obtain⟨cs',c1,c2⟩:=hel i J
     obtain⟨y,V,M,X⟩:=G e a ha _ _ _ c2;obtain⟨_,c3,c4⟩:=World.cells?_some c1;grind
    refine⟨L,?_,⟨⟨J,λx F=>(h5 x F).choose_spec.2.1⟩,λd q B O=>⟨?_,λx F=>?_⟩⟩,rfl⟩
    rotate_left
    .have:=B.len ((ts len).map Dt) ((ts (m-len)).map λj=>Dt (len+j))
     grind
    .obtain ⟨i,hi,_,hq⟩:=h5 x F;exact hq d q B (bY (B.elem (mq.2 ⟨i,List.mem_range.2 hi,rfl⟩)) O)
    simp only[Ty.enc,aR];refine⟨I a0,len,cap,rfl,by simp[v],hl,by unfold maxLen at hc;grind[fy],?_⟩
    by_cases hz:len=0<;>try grind
    refine .inr ⟨a0,o,a.wd,rfl,?_,h2,h3,h6⟩;have uL:0<o.flatten.length:=by rw[h4];exact Nat.mul_pos J h0
    have:=h6 0 _ (cC uL);rw[Addr.add_zero]at this;replace this:W.cell? a0=_:=this;unfold World.cell? at this;split at this<;>try trivial
    cases hs:a0.spot with
    |none=>rfl
    |some _=>rw[hs]at this;simp at this
  .rename_i fs w l r;rw[r]at K;obtain⟨H,hu,hf,_⟩:=K;obtain⟨xs,k,_,rfl,R,hxl,Ss⟩:=DataW.trod_struct hu F;have C:cs.length=w:=by rw[R,hT.sizeOf,<-hw];rfl
   have aux:∀(fl:List Field)(l)(D),ug (λt u=>iG E n t u) w (fl.map λf=>(f.offset,P.cellsOf f.type,f.type)) l D=N->
     (∀f∈fl,∃y,ain enc P W 0 sp held k f.type ((cs.drop f.offset).take (P.cellsOf f.type))=I y/\y∈xs)->∃(y:l.den)(o:List (List Value)),bH (λp=>W.cell? p) (l.eh y) Y o/\o.flatten=cs.drop D/\(l.Ok y/\∀(d)(q),wa q->(∀x∈xs,q x.1<=d)->l.Sm d y):=by
    intro fl;induction fl with
    |nil=>
     intro l D v _;cases l with
     |nl=>
      have:D=w:=bQ v;exact⟨(),[],by simp[Ty.eh,bH],by rw[this,<-C];simp,trivial,λ_ _ _ _=>trivial⟩
     |_=>cases v
    |cons f fl SA=>
     intro l D v h2;cases l with
     |cn a l=>
      simp only[km,ug,aK]at v;obtain⟨e1,e2,e3,e4⟩:=v;have e1:f.offset=D:=bQ e1;have e2:a.wd=P.cellsOf f.type:=bQ e2;obtain⟨z,hz,hzm⟩:=h2 f (eS ..);obtain⟨y,V,M,X⟩:=G f.type a e3 _ _ _ hz;obtain⟨ys,o,r4,r5,r6,r7⟩:=SA l (D+a.wd) e4 λg hg=>h2 g (gj _ hg)
      refine⟨(y,ys),((cs.drop f.offset).take (P.cellsOf f.type))::o,?_,?_,⟨M.1,r6⟩,λd q B O=>⟨M.2 d q B (O z hzm),r7 d q B O⟩⟩
      .simp only[Ty.eh,bH];exact⟨_,_,rfl,V,r4⟩
      rw[oZ,r5,e1,<-e2,<-ru,vV]
     |_=>cases v
   rw[<-hf]at h;obtain⟨y,o,V,M,X⟩:=aux H.toList l 0 h λf hf'=>by
    obtain⟨i,hi⟩:=List.getElem?_of_mem hf';have EL:H[i]?=I f:=by rw[<-Array.getElem?_toList];exact hi
    have S:i<xs.length:=by
     rw[hxl];have:=(List.getElem?_eq_some_iff.1 hi).1;simpa using this
    exact⟨xs[i],by rw[Ss i f EL,cC S],fw S⟩
   refine⟨y,?_,⟨X.1,λd q B O=>X.2 d q B λx F=>bY (B.part (mq.2 ⟨x,F,rfl⟩)) O⟩,C⟩
   simp only[Ty.enc,aR];exact⟨o,by rw[M];rfl,V,C⟩
  .rename_i m e w l r;rw[r]at K;obtain⟨xs,k,_,rfl,R,hxl,Ss⟩:=DataW.trod_array K F;have C:cs.length=w:=by rw[R,hT.sizeOf,<-hw];rfl
   have aux:∀(m')(l)(i),zQ (λu=>iG E n e u) (P.cellsOf e) w m' l (i*P.cellsOf e)=N->i+m'=m->
     ∃(y:l.den)(o:List (List Value)),bH (λp=>W.cell? p) (l.eh y) Y o/\o.flatten=cs.drop (i*P.cellsOf e)/\(l.Ok y/\∀(d)(q),wa q->(∀x∈xs,q x.1<=d)->l.Sm d y):=by
    intro m';induction m' with
    |zero=>
     intro l i v _;cases l with
     |nl=>
      have:i*P.cellsOf e=w:=bQ v;exact⟨(),[],by simp[Ty.eh,bH],by rw[this,<-C];simp,trivial,λ_ _ _ _=>trivial⟩
     |_=>cases v
    |succ m' ihm=>
     intro l i v h2;cases l with
     |cn a l=>
      simp only[zQ,aK]at v;obtain⟨e2,e3,e4⟩:=v;have e2:a.wd=P.cellsOf e:=bQ e2;have S:i<xs.length:=J
      have hz:=Ss i J
      rw[cC S]at hz;obtain⟨y,V,M,X⟩:=G e a e3 _ _ _ hz;obtain⟨ys,o,r4,r5,r6,r7⟩:=ihm l (i+1) (by rw[ajK];exact e4) J
      refine⟨(y,ys),((cs.drop (i*P.cellsOf e)).take (P.cellsOf e))::o,?_,?_,⟨M.1,r6⟩,λd q B O=>⟨M.2 d q B (O _ (fw S)),r7 d q B O⟩⟩
      .simp only[Ty.eh,bH];exact⟨_,_,rfl,V,r4⟩
      rw[oZ,r5,ajK,<-ru,vV]
     |_=>cases v
   rw[aK]at h;obtain⟨_,h⟩:=h;split at h;case h_2=>cases h
   case h_1 te hte=>
    rw[<-(hE.ty e te hte).sizeOf]at h;obtain⟨y,o,V,M,X⟩:=aux m l 0 (by rw[o5];exact h) J
    refine⟨y,?_,⟨X.1,λd q B O=>X.2 d q B λx F=>bY (B.part (mq.2 ⟨x,F,rfl⟩)) O⟩,C⟩
    simp only[Ty.enc,aR];rw[o5]at M;exact⟨o,by rw[M];rfl,V,C⟩
  trivial
def YU(x:EnvTy P E){n t}{u}(h:iG E n t u=N){v}{d}{p}{r}{C}(g:HD P W r C t v)(D:aik enc P W 0 sp held t v d p):∃y:u.den,aR (λp=>W.cell? p) (u.enc y) N [v]/\u.Ok y/\∀(b)(z),wa z->z d<=b->u.Sm b y:=by have⟨j,hf⟩:=D;have⟨y,B,F,L⟩:=azF x n t u h j _ _ hf;refine⟨y,?_,F⟩;cases n with|zero=>cases h|succ n=>unfold iG at h;split at h;(.cases h);rename_i G q;rw[aK]at h;have f:=(x.ty t G q).kind;replace h:=h.2;split at h;(.rename_i c;rw[c]at f;obtain⟨_,rfl⟩:=okWide_bool f g;trivial);(.rename_i k M c;rw[c]at f;obtain⟨_,rfl⟩:=okWide_int f g;trivial);(.rename_i c;rw[c]at f;obtain⟨_,rfl⟩:=okWide_string f g;trivial);(.rename_i O a c;rw[c]at f;obtain⟨_,_,_,rfl⟩:=okWide_slice f g;trivial);(.rename_i Q w l c;rw[c]at f;have⟨o,H,_⟩:=f;obtain⟨cs,rfl,_⟩:=okWide_struct H g;have⟨i,e1,s,K⟩:=B;exact⟨cs,i,rfl,zT,s,zT⟩);(.rename_i m e w l c;rw[c]at f;(obtain⟨cs,rfl,_⟩:∃cs,v=.agg cs/\cs.size=P.cellsOf t:=by unfold HD at g;rw[show P.underlying t=I (.array m e)from f]at g;grind);have⟨i,e1,s,K⟩:=B;exact⟨cs,i,rfl,zT,s,zT⟩);trivial
def YT(f:EnvTy P E){j b}{u}(h:iG E j b u=N){v}{e}{p}{k}{d}(g:HD P W k d b v)(i:aik enc P W 0 sp held b v e p):∃y:u.den,aR (λp=>W.cell? p) (u.enc y) N [v]/\u.Ok y:=let⟨y,a,c,_⟩:=YU f h g i;⟨y,a,c⟩
def qh(E:Env)(b:Nat):Prop:=∃a u,iG E a b u=N
def YS{ok}{w}{P:Program}:∀(c:List Field)(l)(d),ug ok w (c.map λb=>(b.offset,P.cellsOf b.type,b.type)) l d=N->(∀b∈c,∃a,ok b.type a=N)/\w=d+(c.map λb=>P.cellsOf b.type).sum/\∀(e)b,c[e]?=I b->b.offset=d+((c.take e).map λb=>P.cellsOf b.type).sum|[],l,d,h=>(by cases l<;>first|exact⟨zS,by have:d=w:=bQ h;simp[this],zS⟩|cases h)|b::c,l,d,h=>by cases l with|cn a l=>simp only[km,ug,aK]at h;have⟨e1,f,k,g⟩:=h;have e1:=bQ e1;have f:=bQ f;have⟨m,n,o⟩:=YS c l _ g;refine⟨λi j=>?_,zG,λe i j=>?_⟩;grind;cases e;grind;grind|_=>cases h
def YR{ok}{c w}:∀(m)(l)(b),zQ ok c w m l b=N->w=b+m*c/\(0<m->∃a,ok a=N)|0,l,b,h=>(by cases l with|nl=>exact⟨by have:=bQ h;omega,λh=>absurd h (Nat.lt_irrefl 0)⟩|_=>cases h)|m+1,l,b,h=>by cases l with|cn a l=>simp[zQ,aK]at h;have⟨d,_⟩:=YR m l _ h.2.2;grind|_=>cases h
theorem qh.cases(i:EnvTy P E){t}(h:qh E t):P.underlying t=I .bool∨(∃r,P.underlying t=I (.int r))∨P.underlying t=I .string∨(∃e,P.underlying t=I (.slice e)/\qh E e/\0<P.cellsOf e)∨(∃d:Array Field,P.underlying t=I (.struct d)/\(∀f∈d.toList,qh E f.type)/\P.cellsOf t=(d.toList.map λf=>P.cellsOf f.type).sum/\∀(j)f,d.toList[j]?=I f->f.offset=((d.toList.take j).map λf=>P.cellsOf f.type).sum)∨(∃m e,P.underlying t=I (.array m e)/\qh E e/\P.cellsOf t=m*P.cellsOf e):=by have⟨g,u,h⟩:=h;have q:=Qi i h;cases g with|zero=>cases h|succ g=>unfold iG at h;split at h;cases h;rename_i z v;rw[aK]at h;have b:=(i.ty t z v).kind;replace h:=h.2;split at h;rename_i c;rw[c]at b;exact .inl b;rename_i r D c;rw[c]at b;exact .inr (.inl ⟨_,b⟩);rename_i c;rw[c]at b;exact .inr (.inr (.inl b));rename_i e a c;rw[c]at b;rw[aK]at h;exact .inr (.inr (.inr (.inl ⟨e,b,⟨g,a,h.2⟩,by rw[Qi i h.2];simp_all⟩)));rename_i d w l c;rw[c]at b;have⟨n,x,hf,_⟩:=b;rw[<-hf]at h;have⟨o,p,B⟩:=YS n.toList l 0 h;refine .inr (.inr (.inr (.inr (.inl ⟨n,x,λf hf=>?_,?_,λj f C=>?_⟩))));have⟨a,k⟩:=o f hf;exact⟨g,a,k⟩;rw[q];show w=_;omega;grind;rename_i m e w l c;rw[c]at b;rw[aK]at h;have⟨hm,h⟩:=h;split at h;rename_i y s;have⟨o,p⟩:=YR m l 0 h;have⟨a,k⟩:=p (ju hm);refine .inr (.inr (.inr (.inr (.inr ⟨m,e,b,⟨g,a,k⟩,?_⟩))));rw[q,(i.ty e y s).sizeOf];show w=_;omega;trivial;trivial
def auy(b:EnvTy P E):Kids P (qh E)where pointer:=λ{c e}h a=>(by rcases h.cases b with q|⟨_,q⟩|q|⟨_,q,_⟩|⟨_,q,_⟩|⟨_,_,q,_⟩<;>rw[a]at q<;>cases q);slice:=λ{c e}h a=>(by rcases h.cases b with q|⟨_,q⟩|q|⟨_,q,d,_⟩|⟨_,q,_⟩|⟨_,_,q,_⟩<;>rw[a]at q<;>cases q;omega);array:=λ{c e j}h a=>(by rcases h.cases b with q|⟨_,q⟩|q|⟨_,q,_⟩|⟨_,q,_⟩|⟨_,_,q,d,g⟩<;>rw[a]at q<;>cases q;trivial);struct:=λ{c f}h a=>(by rcases h.cases b with q|⟨_,q⟩|q|⟨_,q,_⟩|⟨_,q,d⟩|⟨_,_,q,_⟩<;>rw[a]at q<;>cases q;omega);map:=λ{c i e}h a=>by rcases h.cases b with q|⟨_,q⟩|q|⟨_,q,_⟩|⟨_,q,_⟩|⟨_,_,q,_⟩<;>rw[a]at q<;>cases q
def ayT(b:EnvTy P E){a e:Nat}(h:qh E a)(c:P.underlying a=I (.slice e)):0<P.cellsOf e:=by rcases h.cases b with q|⟨_,q⟩|q|⟨_,q,_,d⟩|⟨_,q,_⟩|⟨_,_,q,_⟩<;>rw[c]at q<;>cases q;omega
def ahy(g:EnvTy P E){k}(m:Below W.heap.size W k){s}:∀{d:List TypeId}{j}{f}{ps},(∀b∈d,qh E b)->CL enc P W 0 (λ_=>N) N d j f ps->(∀c,c<W.heap.size->s c=N)->CL enc P k 0 s N d j f ps|[],[],[],_,_,h,_=>h|b::d,v::j,w::f,_,r,⟨p,q,⟨u,l⟩,t,e⟩,o=>by refine⟨p,q,⟨u,?_⟩,ahy g m (λb h=>r b (gj _ h)) t o,e⟩;have n:=DataW.trod_lt _ _ _ _ l;exact DataW.trod_stays (auy g) (λa c=>ayT g a c) (λh=>by cases h) (r b (eS ..)) l (λx i=>m.same (n x i)) (λx i=>o _ (n x i))
def awH(B:EnvTy P E){c:Func}{a:ChangeSpec}{apart z F y}{f}{args}{v}{b g}{before}(m:aim enc P c.params.toList a.vars Y W args.toList b g before)(G:apart=Y)(s:a.vars=[])(C:∀i∈c.params.toList,qh E i)(r:∀(d)(sp)(M),CL enc P f d sp M c.resultTypes.toList (v.resultList c.resultTypes.size) (a.fn H (b++g)).results [])(K:(a.fn H (b++g)).args=b)(L:(a.fn H (b++g)).vars=[])(j:Below W.heap.size W f)(o:∀(u:Nat)(i)(w),c.resultTypes[u]?=I i->(v.resultList c.resultTypes.size)[u]?=I w->HD P f .any 0 i w):a.post enc P c apart z F y W args v f:=by
 subst G;have D:=m;have⟨p,q,k,l,e,i,_⟩:=m;rw[s]at l;obtain⟨rfl,rfl⟩:g=[]/\q=[]:=by cases g;trivial;cases l
 rw[List.append_nil]at e;obtain rfl:p=before:=e.symm;have n:∀sp,(∀d,d<W.heap.size->sp d=N)->CL enc P f 0 sp N c.params.toList args.toList (a.fn H (b++[])).args p:=λsp c=>by rw[K];exact ahy B j C k c
 have t:∀sp,ail enc P f sp a.vars (a.fn H (b++[])).vars []:=λsp=>by rw[s,L];rfl
 refine⟨b,[],p,[],p,[],D,r _ _ _,n _ (λd L=>by simpa using L),t _,j.frame _,λ_=>?_⟩;refine⟨o,_,_,([]++p)++[],⟨[]++p,[],trodAll_append (n _ (λ_ _=>rfl)) (r _ _ _),t _,rfl,λd c a=>?_,λh=>by cases h⟩,λx b _=>by simpa using b⟩;have o:=by simpa using a
 rw[j.frozen (k.lt _ o)];exact i d c o
def alE{b}{a}(h:v8 m6 P b a (.bool N)){args}(w)(f:Gh.G λp=>w.cell? p)(g:aX (λd x=>aR (λp=>w.cell? p) d N [x]) a args.toList):Calls P b args w λe c=>e=.returned (.bool N)/\Below w.heap.size w c:=by refine callsIn_wide.1 (yJ (h 1 (λp=>w.cell? p) w args ⟨λ_ _ e=>e,f⟩ g) λe c q=>?_);cases e with|returned x=>have⟨j,_,_,k,_,i⟩:=q;simp[aR]at i;grind|_=>trivial
end
end
end Go.As
end
