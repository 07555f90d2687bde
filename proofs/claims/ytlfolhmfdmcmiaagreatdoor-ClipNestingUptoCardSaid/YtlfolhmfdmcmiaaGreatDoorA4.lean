/- A part of the proof. -/
import Derived.Test.YtlfolhmfdmcmiaaGreatDoorA3
import Derived.ProofKit
import GoSem.ClaimGoes
import Derived.Deep.Slices
import Derived.ChangeStays
import Derived.ChangeOld
import Derived.Lib.SmallJoins
set_option linter.all false
open Array renaming getD_eq_getD_getElem?->ka,getElem?_setIfInBounds_self_of_lt->ag0,replicate->qc
open Bool renaming and_eq_true->aM,false->af,true->ag
open Go.Builtin renaming append->aha
open Go.Callee renaming builtin->ahc
open Go.CallsIn renaming mono->yh
open Go.Code renaming region->MA,wpIn->BH
open Go.DataW renaming Trod->ahd,TrodAll->BJ,TrodVars->ahe,Whole->ahf,trod->ahg
open Go.Fence renaming wide->nr
open Go.Func renaming goes->U6
open Go.Ground renaming data->MB,phase->U7
open Go.Lit renaming int->BM
open Go.Op renaming assign->Vm
open Go.Oper renaming wpIn->MF
open Go.Operand renaming const->Vp,tmp->n9
open Go.Region renaming wanted->tg
open Go.Value renaming okWide->Gd,slice->rC
open List renaming drop_drop->rD,flatten_cons->pc,getElem?_eq_getElem->gB,getElem_mem->g7,map_cons->mv,mem_append->cE,mem_cons->dy,mem_cons_of_mem->ff,mem_cons_self->eA,mem_map->kj,range->vo,rec->bn,take_append_drop->ah5
open Nat renaming beq->al,ble->bw,ble_eq_true_of_le->kl,blt->cS,eq_of_beq_eq_true->bU,le_max_left->aic,le_max_right->aid,le_of_ble_eq_true->jo,le_refl->aL,le_trans->bX,lt_or_ge->jH,rec->g9,succ_mul->aiy,zero_add->db,zero_le->bI,zero_mul->tr
open Option renaming bind_eq_some_iff->az,bind_some->ah,isSome_iff_exists->aiB,none->ae,some->ab
open Option.some renaming inj->hG
noncomputable section
namespace Go.As
section
structure yF where
 id:Nat
 a:List D
 r:D
abbrev mD:=Tb (List yF)
def zD(i:Nat)(l:List yF)(ds:List D):Option D:=bn ae (λe _ ih=>bif cS e.id i then(bif D.ni e.a ds then ab e.r else ih)else ih) l
def Env.kq(E:Env)(T:mD)(i:Nat):Env:={E with sm:=λf=>match T.find f with|some t=>ab (zD i t)|none=>ae}
def CR(E:Env)(T:mD)(n f:Nat)(e:yF):Bool:=match W2 (E.kq T e.id) n f e.a with|some r=>D.same r e.r|none=>af
def Od(E:Env)(T:mD)(n lo hi f:Nat)(l:List yF):Bool:=bn ag (λe _ ih=>bif(bif bw lo e.id then(bif cS e.id hi then CR E T n f e else ag)else ag)then ih else af) l
def chkR(E:Env)(T:mD)(n lo hi:Nat)(R:mD):Bool:=R.ou (Od E T n lo hi)
end
section
variable [Gh] {F:Fence} {P:Program} {E:Env}
theorem py(E:Env)(T:mD)(i f nt:Nat):∀c,codeOk (E.kq T i) f nt c=codeOk E f nt c
 |.seq a b=>by simp[codeOk,py E T i f nt a,py E T i f nt b]
 |.cond c a b=>by simp[codeOk,py E T i f nt a,py E T i f nt b]
 |.block _ b=>by simp[codeOk,py E T i f nt b]
 |.loop b=>by simp[codeOk,py E T i f nt b]
 |.scope b=>by simp[codeOk,py E T i f nt b]
 |.rangeFunc g ps a b=>by simp[codeOk,py E T i f nt a,py E T i f nt b]
 |.region id ops A|.skip|.label _|.exit _|.ret|.goto _|.refuse _=>rfl
abbrev yD(P:Program)(f:Nat):Prop:=∃fn c,P.funcs[f]? =some fn∧fn.body=some c∧(fn.name== "runtime.NumGoroutine")=false
def M5(F:Fence)(P:Program)(f:Nat)(a:List D)(r:D):Prop:=yD P f/\vu F P f a r
def Claim(F:Fence)(P:Program)(T:mD)(i:Nat):Prop:=∀f l,T.find f=ab l->∀e∈l,e.id< i->M5 F P f e.a e.r
theorem Claim.zero(T:mD):Claim F P T 0:=λ_ _ _ _ _ h=>absurd h (Nat.not_lt_zero _)
theorem YK{i:Nat}:∀{l:List yF} {ds:List D} {r:D},zD i l ds=ab r->∃e∈l,e.id< i/\e.a=ds/\e.r=r
 |[],_,_,h=>by cases h
 |x::l,ds,r,h=>by
  have h:(bif cS x.id i then(bif D.ni x.a ds then ab x.r else zD i l ds)else zD i l ds)=ab r:=h;have A:zD i l ds=ab r->∃e∈x::l,e.id< i/\e.a=ds/\e.r=r:=λh=>by
   obtain⟨e,h1,h2⟩:=YK h;grind
  cases I:cS x.id i with
  |false=>grind
  |true=>
   rw[I]at h;cases J:D.ni x.a ds with
   |true=>
    rw[J]at h;exact⟨x,by simp,jo I,D.FE J,hG h⟩
   |false=>grind
theorem gE.kq(I:gE F P E){T:mD}{i:Nat}(h:Claim F P T i)(A:∀f t,T.find f=ab t->yD P f):gE F P (E.kq T i) where
 toEnvTy:={I.toEnvTy with}
 mixed:=I.mixed
 gh:=λf nt c=>by rw[py];exact I.gh f nt c
 fn:=λf fn e=>let⟨h1,h2,U⟩:=I.fn f fn e;⟨h1,h2,λc Z=>by rw[py];exact U c Z⟩
 ext:=I.ext
 clone:=I.clone
 sm:=λg S e=>by
  have e:(match T.find g with|some t=>ab (zD i t)|none=>ae)=ab S:=e
  split at e
  .rename_i t J;cases e;refine⟨A g t J,λds d a=>?_⟩
   obtain⟨e,h1,h2,rfl,rfl⟩:=YK a;exact(h g t J e h1 h2).2
  trivial
theorem Xb{T:mD}{n lo hi f:Nat}:∀{l:List yF},Od E T n lo hi f l=ag->∀e∈l,lo<=e.id->e.id< hi->CR E T n f e=ag
 |[],_,e,he,_,_=>by cases he
 |x::l,h,e,he,h1,h2=>by
  have h:(bif(bif bw lo x.id then(bif cS x.id hi then CR E T n f x else ag)else ag)then Od E T n lo hi f l else af)=ag:=h;cases A:(bif bw lo x.id then(bif cS x.id hi then CR E T n f x else ag)else ag)with
  |false=>grind
  |true=>
   rw[A]at h;rcases dy.1 he with rfl|he
   .rw [kl h1,ao,show cS e.id hi=ag from kl h2,ao]at A;omega
   .exact Xb h e he h1 h2
theorem Claim.more(d:gE F P E)(hF:dM F){T:mD}{n lo hi:Nat}(h:Claim F P T lo)(A:∀f t,T.find f=ab t->yD P f)(g:chkR E T n lo hi T=ag):Claim F P T hi:=by
 have key:∀i,lo<=i->i<=hi->Claim F P T i:=by
  intro i;induction i with
  |zero=>grind
  |succ i ih=>
   intro h1 h2;rcases jH i lo with a|a
   .grind
   .have I:=ih a (by omega)
    intro f l U e he Z;rcases jH e.id i with b|b
    .exact I f l U e he b
    .have fm:e.id=i:=by omega
     have:=Xb ((fh.of g).find U) e he (by omega) (by omega)
     unfold CR at this;split at this
     .rename_i r c;have j:=D.xQ this;rw[fm]at c;have J:=d.kq I A;have:=C4 (OY J hF n) J hF c;rw[j]at this;trivial
     trivial
 rcases jH hi lo with k|k
 .exact λf l U e he Z=>h f l U e he (by omega)
 grind
end
def lf{α:Type}(k:Nat)(v:α):Tb α:=.n k v .e .e
def Tb.rj{α:Type}(t:Tb α):List (Nat×α):=Tb.rec [] (λk v _ _ a b=>(k,v)::(a++b)) t
theorem fh.rj{α:Type}{p:Nat->α->Prop}:∀{t:Tb α},(∀x∈t.rj,p x.1 x.2)->fh p t
 |.e,_=>trivial
 |.n k v l r,h=>by
  have e:(Tb.n k v l r).rj=(k,v)::(l.rj++r.rj):=rfl;rw[e]at h;exact⟨h (k,v) (by simp),fh.rj λx A=>h x (by simp[A]),fh.rj λx A=>h x (by simp[A])⟩
theorem fh.maps{α:Type}{f:Nat->Option α}{t:Tb α}(h:t.rj.map (λx=>f x.1)=t.rj.map λx=>ab x.2):fh (λk v=>f k=ab v) t:=
 fh.rj λ_ A=>(List.map_inj_left.1 h) _ A
def dL(n:Nat):List (Nat×List Nat):=(g9 (λ_=>[]) (λ_ ih n=>bif bw n 1 then[]else(n%10,[])::ih (n/10)) 200:Nat->List (Nat×List Nat)) n
def D.p(n:Nat):D:=.int .i64 (.ofNat n)
def D.q(n:Nat):D:=.int .i64 (.negSucc n)
def D.u(n:Nat):D:=.an [.int .u32 (.ofNat n)]
def D.v(a b:Nat):D:=.agg 2 [.p a,.p b]
def V.z:V:=.im (.p 0)
def V.y:V:=.im (.int .u8 (.ofNat 0))
open Go.RowKit (Below)
section
variable [Gh]
section
variable {F:Fence} {P:Program} {B:Nat} {X:Cx} {O:Nat->Addr->Prop} {w:World} {h:Heap} {E:Env}
def Xh(T:Nat):Array Oper:=#[{dst:=some 2,op:=Vm (Vp (rC none 0 0)),type:=T,pos:= "slices.go:355",after:=#[],guard:=none}]
def Hp(T A:Nat):Array Oper:=#[{dst:=some 3,op:=Op.move (n9 0),type:=T,pos:= "slices.go:357",after:=#[],guard:=none},
 {dst:=some 4,op:=Op.binOp BinOp.eql T (n9 3) (Vp (rC none 0 0)) T,type:=A,pos:= "slices.go:357",after:=#[{on:=0,ground:=MB}],guard:=none}]
def Xi(T:Nat):Array Oper:=#[{dst:=some 2,op:=Vm (Vp (rC none 0 0)),type:=T,pos:= "slices.go:358",after:=#[],guard:=none}]
def Xj(T:Nat):Array Oper:=#[{dst:=some 5,op:=Op.buildSlice T 0 #[],type:=T,pos:= "slices.go:362",after:=#[],guard:=none},
 {dst:=some 6,op:=Op.move (n9 0),type:=T,pos:= "slices.go:362",after:=#[],guard:=none},
 {dst:=some 7,op:=Op.call {callee:=ahc aha,args:=#[n9 5,n9 6],argTypes:=#[T,T]},type:=T,pos:= "slices.go:362",
  after:=#[{on:=0,ground:=MB},{on:=1,ground:=MB}],guard:=ae},
 {dst:=some 2,op:=Vm (n9 7),type:=T,pos:= "slices.go:362",
  after:=#[{on:=2,ground:=MB},{on:=2,ground:=Ground.chain},{on:=0,ground:=U7},{on:=1,ground:=U7},{on:=2,ground:=U7}],guard:=ae}]
def Oh(T A:Nat):Code:=
 (MA 0 (Xh T) af).seq (((MA 1 (Hp T A) af).seq (Code.cond (n9 4) ((MA 2 (Xi T) af).seq Code.ret) Code.skip)).seq ((MA 3 (Xj T) af).seq Code.ret))
theorem Kc(c:EnvTy P E)(hF:dM F){ops:Array Oper}{o:Oper}{nt n:Nat}{a:Act}{st:St}(s:SR nt B X O w a st)(d:o.guard=ae)(g:uD o=ag)(I:sC nt o=ag){aC:Nat}{v:V}{h':Heap}(i:ar st.h aC=ae)(j:X.M aC=ae)(J:aC<=st.h.length)
  (e:dj E af aC st.t st.h o.op=ab (v,h')) {K:Act->World->Prop} {Q:Exit->Act->World->Prop} (k:∀X' O' w' Z,SR nt B X' O' w' Z ⟨putDst st.t o.dst v,h',st.lp,st.df⟩->Step B X O w st.h X' O' w' h'->K Z w'):
  if tg o (yielded ops a.tmps)=ag then o.wpIn F n P a w K Q else(∀f,o.about P w a.eval=ab f->F.fn f)/\K (a.put o.dst undef) w:=by
 obtain⟨U,l⟩:=R6 I;have hw:tg o (yielded ops a.tmps)=ag:=by simp[tg,d]
 rw[aK hw];refine⟨λf _=>hF.fn f,?_⟩
 rw[At g];obtain⟨x,m,p,q,A,r,u,b⟩:=FO c s.h i j J s.t l e;have y:=(s.step r b).put U u;rcases A with A|⟨A,rfl⟩<;>rw[A]<;>exact k p q m _ y b
theorem alC{T el:Nat}(A:P.underlying T=ab (.slice el))(b:Option Addr)(n c:Nat):(do eqGuard .eql T (.tmp 3) (.const (.slice ae 0 0)) (.slice b n c) (.slice ae 0 0);binOp .eql T (.slice b n c) (.slice ae 0 0):Sem Value).run P w=.ok (.bool b.isNone) w:=by
 have h1:(eqGuard .eql T (.tmp 3) (.const (.slice ae 0 0)) (.slice b n c) (.slice ae 0 0)).run P w=.ok () w:=by rfl
 have h2:(Op.equal T (.slice b n c) (.slice ae 0 0)).run P w=.ok b.isNone w:=by
  unfold Op.equal;rw[show Op.maxDepth=9999+1 from rfl];unfold Op.equalIn;cases b<;>simp[run_underlying A]
 simp[h1,binOp,h2]
theorem ana(h:Heap){n:Nat}(a b:cg)(I:n<=h.length):aI (aI h n a) n b=aI h n b:=by
 have h1:=bY h n a;have h2:=bY h n b;have J:=bY (aI h n a) n b;have A:n<(aI h n a).length:=by grind
 rw[aK A]at J;refine Ix (by omega) λi=>?_
 rw[bO _ n i b (by omega),bO h n i b I,bO h n i a I]
 split<;>rfl
theorem ak4{x:V}{l:List D}{aC:Nat}{k:cg}(A:x.pA h=ab l)(c:ar h aC=ae)(I:aC<=h.length):x.pA (aI h aC k)=ab l/\nO (aI h aC k) x=af:=by
 unfold V.pA at A;split at A
 .trivial
 .trivial
 .rename_i b g off len aP;split at A
  .rename_i Z s ro a d;have J:b≠aC:=λe=>by grind
   have U:ar (aI h aC k) b=ab (.arr Z s ro a):=by rw[bO h aC b k I,ax J];omega
   simp[V.pA,U,A,nO]
  trivial
 trivial
theorem akD(R:EnvTy P E)(hF:dM F){g T Y el:Nat}{fn:Func}{ti te:TI}(hf:P.funcs[g]? =some fn)(hb:fn.body=some (Oh T Y))(u:(fn.name== "runtime.NumGoroutine")=false)(hnt:fn.ntmps=8)(Qb:fn.results=#[.tmp 2])
  (hT:E.ty T=ab ti) (c:ti.k=.an el) (C:E.ty el=ab te) (n:Nat) (hr:HR B X O w h) (xs:List V) (args:Array Value) (ha:a8 (λv x=>aq X v ag [x]) xs args.toList)
  (aC:Nat) (hn:ar h aC=ae) (hM:X.M aC=ae) (J:aC<=h.length) (v:V) (h':Heap) (e:zl E aC el xs h=ab (v,h')):fO F n P B X O w h (callFunc g args) v h':=by
 have hTu:P.underlying T=ab (.slice el):=by have:=(R.ty T ti hT).kind;rw[c]at this;trivial
 unfold zl at e;split at e
 .rename_i x;rw[C,ah]at e;obtain⟨l,hl,e⟩:=az.1 e;obtain⟨hc,e⟩:=aU e;cases e;simp only[aM]at hc;obtain⟨⟨hz,i⟩,hfw,G⟩:=hc;obtain⟨vx,r,ea,rx,rr⟩:=ha;cases rr;have amu:args=#[vx]:=by apply Array.toList_inj.1;rw[ea]
  subst amu;refine .inr ⟨g,#[vx],sa hf hb u _,?_⟩;refine callsIn_of_wp hf hb (hF.fn g) ?_ hF.round;obtain⟨A,Z,a,e1,e2,e3,e4,e5⟩:=XH hr hl rx;subst e1;have s0:SR 8 B X O w {tmps:=#[rC A Z a]++qc (fn.ntmps-1) undef,defers:=[]} ⟨jg 8 [x],h,[],[]⟩:=by
   have:=Ud hr (l:=[x]) (args:=#[rC A Z a]) (a8.cons rx a8.nil) (nt:=8) rfl;rw[hnt];exact this
  show(Oh T Y).wpIn F n P (bodyPost P fn _) {tmps:=#[rC A Z a]++qc (fn.ntmps-1) undef,defers:=[]} w;have o:({tmps:=#[rC A Z a]++qc (fn.ntmps-1) undef,defers:=[]}:Act).tmps.getD 0 undef=.slice A Z a:=by
   show(#[rC A Z a]++qc (fn.ntmps-1) undef).getD 0 undef=_;rw[ka,Array.getElem?_append_left (by simp)];rfl
  have anm:({tmps:=#[rC A Z a]++qc (fn.ntmps-1) undef,defers:=[]}:Act).tmps.size=8:=s0.n;generalize({tmps:=#[rC A Z a]++qc (fn.ntmps-1) undef,defers:=[]}:Act)=a0 at s0 o anm|-;have b:aq X (.full []) ag [.slice ae 0 0]:=by simp only[aq];exact⟨_,rfl,ae,0,rfl,rfl,bI _,.inl rfl⟩
  have p:∀{X1:Cx} {O1:Nat->Addr->Prop} {w1:World} {I:Act} {st:St},SR 8 B X1 O1 w1 I st->st.df=[]->
    (∀y,aq X1 (st.t.get 2) ag [y]->∃X2 O2,HR B X2 O2 w1 (aI h aC (.arr 1 te.size 0 l))/\aq X2 (.own aC 1 0 (aG l) af) ag [y]/\Step B X O w h X2 O2 w1 (aI h aC (.arr 1 te.size 0 l)))->
    bodyPost P fn (λe w'=>match e with|.returned x=>tw B X O w h (.own aC 1 0 (aG l) af) (aI h aC (.arr 1 te.size 0 l)) x w'|_=>False) .ret I w1:=λ{X1 O1 w1 I st} K wm hk=>by
   have had:I.defers=[]:=DF.Ef (by have:=K.df;rw[wm]at this;exact this)
   obtain⟨y,hy1,hy2⟩:=Lq R K.h K.t (fn:=fn) (v:=st.t.get 2) (by unfold mh;rw[Qb];rfl)
   obtain⟨X2,O2,q1,q2,q3⟩:=hk _ hy2;exact⟨had,y,hy1,X2,O2,q1,q2,q3⟩
  refine wpIn_seq (wpIn_region ?_);show wpOpsIn F n P (Xh T) _ [0] a0 w;refine(show MF F n P _ a0 w _ _ from ?_);refine⟨λf _=>hF.fn f,?_⟩
  rw[At (by rfl)]
  have K:=s0.put (dst:=some 2) (λd L=>by cases L;decide) b
  show BH F n P _ _ (a0.put (ab 2) (.slice ae 0 0)) w;generalize Pz:a0.put (ab 2) (.slice ae 0 0)=I at K|-;have s:I.tmps.getD 0 undef=.slice A Z a:=by
   rw[<-Pz];show(a0.tmps.setIfInBounds 2 (.slice ae 0 0)).getD 0 undef=_;rw[ka,Array.getElem?_setIfInBounds,ax (by decide),<-ka]
   exact o
  refine wpIn_seq (wpIn_seq (wpIn_region ?_));show wpOpsIn F n P (Hp T Y) _ [0,1] I w;refine(show MF F n P _ I w _ _ from ?_);refine⟨λf _=>hF.fn f,?_⟩
  rw[At (by rfl)]
  have hmv:aq X x ag [I.eval (.tmp 0)]:=by
   show aq X x ag [I.tmps.getD 0 undef];rw[s];exact rx
  have s2:=K.put (dst:=some 3) (λd L=>by cases L;decide) hmv
  show wpOpsIn F n P (Hp T Y) _ [1] (I.put (ab 3) (I.eval (.tmp 0))) w;generalize PA:I.put (ab 3) (I.eval (.tmp 0))=j at s2|-;have amF:j.eval (.tmp 3)=.slice A Z a:=by
   rw[<-PA];show(I.tmps.setIfInBounds 3 (I.tmps.getD 0 undef)).getD 3 undef=_;have hs:3< I.tmps.size:=by have:=K.n;omega
   rw[s,ka,ag0 hs];rfl
  refine(show MF F n P _ j w _ _ from ?_);refine⟨λf _=>hF.fn f,?_⟩
  rw[At (by rfl)]
  have DH:(execOp j.eval ((Hp T Y)[1]'(by show 1< 2;decide))).run P w=.ok (.value (.bool A.isNone)) w:=by
   show(do pure (Next.value (<-(do eqGuard .eql T (.tmp 3) (.const (.slice ae 0 0)) (j.eval (.tmp 3)) (.slice ae 0 0);binOp .eql T (j.eval (.tmp 3)) (.slice ae 0 0)))):Sem Next).run P w=_;rw[amF];have:=alC (w:=w) hTu A Z a;rw[Sem.run_bind,this];rfl
  rw[DH];have s3:=s2.put (dst:=some 4) (λd L=>by cases L;decide) (v:=.im (.bool A.isNone)) (x:=.bool A.isNone) (by simp[aq,aS])
  show BH F n P _ _ (j.put (ab 4) (.bool A.isNone)) w;generalize ha3:j.put (ab 4) (.bool A.isNone)=N at s3|-;have amG:N.eval (.tmp 4)=.bool A.isNone:=by
   rw[<-ha3];show(j.tmps.setIfInBounds 4 _).getD 4 undef=_;have hs:4< j.tmps.size:=by have:=s2.n;omega
   rw[ka,ag0 hs];rfl
  refine wpIn_cond amG ?_;cases A with
  |none=>
   have hnx:Z=0:=by
    rcases e5 with e5|⟨a0',_,_,q,_⟩
    .exact e5
    .cases q
   have PY:l=[]:=List.eq_nil_of_length_eq_zero (by omega)
   subst PY;show BH F n P _ _ N w;refine wpIn_seq (wpIn_region ?_);show wpOpsIn F n P (Xi T) _ [0] N w;refine(show MF F n P _ N w _ _ from ?_);refine⟨λf _=>hF.fn f,?_⟩
   rw[At (by rfl)]
   have S:=s3.put (dst:=some 2) (λd L=>by cases L;decide) b
   show BH F n P _ _ (N.put (ab 2) (.slice ae 0 0)) w;refine wpIn_ret ?_;refine p S rfl λy m=>?_
   have PM:(putDst (putDst (putDst (putDst (jg 8 [x]) (ab 2) (.full [])) (ab 3) x) (ab 4) (.im (.bool (ae:Option Addr).isNone))) (ab 2) (.full [])).get 2=.full []:=rfl;have m:aq X (.full []) ag [y]:=by rw[<-PM];exact m
   simp only[aq]at m;obtain⟨y',ey,ya,yn,y1,y2,_,_⟩:=m;cases ey;subst y1;have yn0:yn=0:=y2;subst yn0;let bi:BI:=⟨1,ya,te.size,0,af⟩;have PE:BR (X.eh aC bi) w (λ_=>False) aC (.arr 1 te.size 0 []):=⟨bi,Cx.fM _ _ _,rfl,rfl,⟨aL _,aL _⟩,bI _,.inl rfl⟩
   refine⟨X.eh aC bi,_,hr.add hn hM J (.refl w) (aL _) bi (λ_=>False) _ (λ_ h=>h.elim) PE,?_,⟨Up.add hM (.refl _ _) (.refl w) _ bi,by rw[bY];split<;>omega,.add hM J (.refl w) bi _ _⟩⟩
   simp only[aq];exact⟨_,rfl,⟨ya,0,rfl,aL _,by decide,.inl rfl⟩,bi,Cx.fM _ _ _,aL _,λ_=>⟨ya,0,rfl,aL _,by decide,aL _,(λh=>by cases h),.inl rfl⟩⟩
  |some U=>
   show BH F n P _ _ N w;refine wpIn_skip ?_;refine wpIn_seq (wpIn_region ?_);show wpOpsIn F n P (Xj T) _ [0,1,2,3] N w;simp only[wpOpsIn];have hbs:dj E af aC (putDst (putDst (putDst (jg 8 [x]) (ab 2) (.full [])) (ab 3) x) (ab 4) (.im (.bool (ab U:Option Addr).isNone))) h (.buildSlice T 0 #[])=ab (.own aC 0 0 0 af,aI h aC (.arr 0 te.size 0 [])):=by
    show mi E af aC h T 0 []=_;unfold mi;rw[hT,ah,c];simp only[C,ah];unfold Mt at i;split at i
    .rename_i z hz2;rw[hz2];simp only[ah,i,Bool.not_true,aw];simp[lj,gH,jd,close,jA];rfl
    .cases i
   refine Kc R hF s3 rfl rfl rfl hn hM J hbs λX4 O4 w4 a4 S p4=>?_
   have S:SR 8 B X4 O4 w4 a4 ⟨putDst (putDst (putDst (putDst (jg 8 [x]) (ab 2) (.full [])) (ab 3) x) (ab 4) (.im (.bool (ab U:Option Addr).isNone))) (ab 5) (.own aC 0 0 0 af),aI h aC (.arr 0 te.size 0 []),[],[]⟩:=S;refine Kc (aC:=(aI h aC (.arr 0 te.size 0 [])).length) R hF S rfl rfl rfl (pP rfl) (oN S.h) (aL _) (v:=x) (h':=aI h aC (.arr 0 te.size 0 [])) rfl λX5 O5 w5 a5 s5 p5=>?_
   have s5:SR 8 B X5 O5 w5 a5 ⟨putDst (putDst (putDst (putDst (putDst (jg 8 [x]) (ab 2) (.full [])) (ab 3) x) (ab 4) (.im (.bool (ab U:Option Addr).isNone))) (ab 5) (.own aC 0 0 0 af)) (ab 6) x,aI h aC (.arr 0 te.size 0 []),[],[]⟩:=s5;have Zk:=ak4 (k:=.arr 0 te.size 0 []) hl hn J;have PB:hJ E (aI h aC (.arr 0 te.size 0 [])).length .append #[T,T] [.own aC 0 0 0 af,x] (aI h aC (.arr 0 te.size 0 []))=ab (.own aC 1 0 (0+aG l) af,aI (aI h aC (.arr 0 te.size 0 [])) aC (.arr 1 te.size 0 ([]++l))):=by
    have PL:ar (aI h aC (.arr 0 te.size 0 [])) aC=ab (.arr 0 te.size 0 []):=by rw[bO h aC aC _ J,aK rfl]
    show rX E _ #[T,T] (.own aC 0 0 0 af) x _=_;unfold rX;show((E.ty T).bind _)=_;rw[hT,ah,c];simp only[C,ah];show(Option.bind (ab T) _)=_;rw[ah,hz,ao];have ZB:E.kind T=ab (.an el):=by unfold Env.kind;rw[hT];simp[c]
    unfold qw;rw[ZB];have amQ:nO (aI h aC (.arr 0 te.size 0 [])) (.own aC 0 0 0 af)=af:=by unfold nO;simp only[PL]
    simp only[wN,aw,amQ,Zk.2,Bool.or_self];have am0:xd E te T x (aI h aC (.arr 0 te.size 0 []))=ab l:=by
     unfold xd;rw[ZB];have wy:(x.pA (aI h aC (.arr 0 te.size 0 []))).bind (λl=>bif ju te.size l then ab l else ae)=ab l:=by
      rw[Zk.1,ah,hfw,ao]
     cases x<;>exact wy
    rw[am0,ah];unfold Cz;simp only[PL,aw];have PH:fx 0 0 0 0 ([]:List D)=ag:=rfl;rw[PH];have hrm:room (0+aG l) te.bytes=ag:=by rw[db];exact G
    simp only[Nat.beq_refl,hrm,Bool.and_self,kl (aL 0),ao];rfl
   have Q:dj E af (aI h aC (.arr 0 te.size 0 [])).length (putDst (putDst (putDst (putDst (putDst (jg 8 [x]) (ab 2) (.full [])) (ab 3) x) (ab 4) (.im (.bool (ab U:Option Addr).isNone))) (ab 5) (.own aC 0 0 0 af)) (ab 6) x) (aI h aC (.arr 0 te.size 0 []))
     (.call {callee:=ahc aha,args:=#[n9 5,n9 6],argTypes:=#[T,T]})=ab (.own aC 1 0 (0+aG l) af,aI (aI h aC (.arr 0 te.size 0 [])) aC (.arr 1 te.size 0 ([]++l))):=by
    have amH:dm (putDst (putDst (putDst (putDst (putDst (jg 8 [x]) (ab 2) (.full [])) (ab 3) x) (ab 4) (.im (.bool (ab U:Option Addr).isNone))) (ab 5) (.own aC 0 0 0 af)) (ab 6) x) #[n9 5,n9 6]=[.own aC 0 0 0 af,x]:=rfl;show hJ E _ .append #[T,T] (dm _ #[n9 5,n9 6]) _=_;rw[amH];exact PB
   refine Kc (aC:=(aI h aC (.arr 0 te.size 0 [])).length) R hF s5 rfl rfl rfl (pP rfl) (oN s5.h) (aL _) Q λX6 O6 w6 a6 s6 p6=>?_
   have s6:SR 8 B X6 O6 w6 a6 ⟨putDst (putDst (putDst (putDst (putDst (putDst (jg 8 [x]) (ab 2) (.full [])) (ab 3) x) (ab 4) (.im (.bool (ab U:Option Addr).isNone))) (ab 5) (.own aC 0 0 0 af)) (ab 6) x) (ab 7) (.own aC 1 0 (0+aG l) af),aI (aI h aC (.arr 0 te.size 0 [])) aC (.arr 1 te.size 0 ([]++l)),[],[]⟩:=s6;refine Kc (aC:=(aI (aI h aC (.arr 0 te.size 0 [])) aC (.arr 1 te.size 0 ([]++l))).length) R hF s6 rfl rfl rfl (pP rfl) (oN s6.h) (aL _) (v:=.own aC 1 0 (0+aG l) af) (h':=aI (aI h aC (.arr 0 te.size 0 [])) aC (.arr 1 te.size 0 ([]++l))) rfl λX7 O7 w7 a7 s7 p7=>?_
   show BH F n P _ _ a7 w7;refine wpIn_ret ?_;refine p s7 rfl λy m=>?_
   have m:aq X7 (.own aC 1 0 (0+aG l) af) ag [y]:=m;rw[db]at m;have hh:aI (aI h aC (.arr 0 te.size 0 [])) aC (.arr 1 te.size 0 ([]++l))=aI h aC (.arr 1 te.size 0 l):=by rw[ana h _ _ J];rfl
   have s7h:=s7.h;have st:=((p4.trans p5).trans p6).trans p7;simp only[hh]at s7h st;exact⟨X7,O7,s7h,m,st⟩
 trivial
end
def acM(P:Program)(u:Nat):Bool:=match P.underlying u with|some (.pointer _)=>af|some _=>ag|none=>af
theorem axv{P:Program}{u:Nat}(h:acM P u=ag):∃d,P.underlying u=ab d/\∀e,d≠.pointer e:=by
 unfold acM at h
 split at h
 .cases h
 .rename_i d A I
  exact⟨d,I,λe q=>A e q⟩
 .cases h
def yE(P:Program)(E:Env)(g el:Nat):Prop:=
 ∃fn T A,P.funcs[g]? =some fn∧fn.body=some (Oh T A)∧(fn.name== "runtime.NumGoroutine")=false∧fn.ntmps=8∧fn.results=#[.tmp 2]∧
  (match E.ty T with|some ti=>(match ti.k with|.an e=>bif al e el then(E.ty el).isSome else af|_=>af)|none=>af)=ag
theorem yE.sound{F:Fence}{P:Program}{E:Env}{g el:Nat}(U:EnvTy P E)(hF:dM F)(h:yE P E g el):∀(n B:Nat) (X:Cx) (O:Nat->Addr->Prop) (w:World) (h:Heap),HR B X O w h->∀(xs:List V) (args:Array Value),a8 (λv x=>aq X v ag [x]) xs args.toList->
  ∀aC,ar h aC=ae->X.M aC=ae->aC<=h.length->∀v h',zl E aC el xs h=ab (v,h')->fO F n P B X O w h (callFunc g args) v h':=by
 obtain⟨fn,T,k,h1,h2,Z,a,b,A⟩:=h
 split at A
 .rename_i ti I
  split at A
  .rename_i e he
   cases J:al e el with
   |false=>rw[J,aw]at A;cases A
   |true=>
    rw[J,ao]at A
    have:=dY J
    subst this
    obtain⟨te,hte⟩:=aiB.1 A
    intro n B X O w h c xs args d aC f i j v h' e
    exact akD U hF h1 h2 Z a b I he hte n c xs args d aC f i j v h' e
  .cases A
 .cases A
abbrev Ak(ty:Tb TI)(fn:Tb Func)(cl:Tb Nat)(inl keep:Nat->Bool)(dr:Nat->Nat->Option (List (Nat×List Nat)))(ex:Tb Nat)(A:Nat->Nat->Option (Nat×Nat)):Env:=
 ⟨ty.find,fn.find,λ_=>ae,cl.find,λg=>(ex.find g).getD 0,inl,keep,dr,A⟩
def Gv(F:Fence)(P:Program)(g x:Nat):Prop:=∀(n B:Nat) (X:Cx) (O:Nat->Addr->Prop) (w:World) (h:Heap),HR B X O w h->∀(xs:List V) (args:Array Value),a8 (λv x=>aq X v ag [x]) xs args.toList->∀v h',lg x xs h=ab (v,h')->fO F n P B X O w h (callFunc g args) v h'
theorem alv{F:Fence}{P:Program}(hF:dM F){ty:Tb TI}{fn:Tb Func}{cl:Tb Nat}{inl keep:Nat->Bool}{dr:Nat->Nat->Option (List (Nat×List Nat))}{ex:Tb Nat}{I:Nat->Nat->Option (Nat×Nat)}
  (h1:ty.ou (L5 P)=ag) (a:cS 12 P.depth=ag) (hm:P.follows .mixedOrders=ag)
  (J:∀f nt c,Gh.K f nt c↔(codeOk (Ak ty fn cl inl keep dr ex I) f nt c=ag/\gW c=ag))
  (hf:fh (λf A=>P.funcs[f]? =ab A) fn) (U:fn.ou (Dq (Ak ty fn cl inl keep dr ex I))=ag)
  (Z:fh (yE P (Ak ty fn cl inl keep dr ex I)) cl) (b:fh (Gv F P) ex):gE F P (Ak ty fn cl inl keep dr ex I):=
 have hB:EnvTy P (Ak ty fn cl inl keep dr ex I):={
  ty:=λt ti e=>awn ((fh.of h1).find e)
  depth:=jo a}
 {toEnvTy:=hB
  mixed:=hm
  gh:=J
  fn:=λf A e=>by
   have e:fn.find f=ab A:=e
   obtain⟨d,i⟩:=YS ((fh.of U).find e)
   exact⟨hf.find e,d,i⟩
  sm:=λg S e=>by cases e
  ext:=λg e=>by
   have e:(ex.find g).getD 0≠0:=e
   show Gv F P g ((ex.find g).getD 0)
   cases J:ex.find g with
   |none=>rw[J]at e;exact absurd rfl e
   |some x=>exact b.find J
  clone:=λg el e=>(Z.find e).sound hB hF}
theorem ajV{P:Program}{E:Env}{T:mD}{fn:Tb Func}(hf:fh (λf A=>P.funcs[f]? =ab A) fn)(J:fn.ou (Dq E)=ag)(h:T.ou (λf _=>match fn.find f with|some fn=>fn.body.isSome|none=>af)=ag):
  ∀f t,T.find f=ab t->yD P f:=λf t e=>by
 have h:=(fh.of h).find e
 split at h
 .rename_i A I
  obtain⟨c,U⟩:=aiB.1 h
  exact⟨A,c,hf.find I,U,(YS ((fh.of J).find I)).1⟩
 .cases h
end
section
open Go.ChangeShapes Go.WideShapes
variable [Gh]
variable {P:Program}
theorem u6{k:IntKind}{n:Int}(h:(BM k n).wf=ag):dh k n:=by
 simp[Lit.wf,aM]at h;exact h
theorem axB{C:IV}{k:IntKind}{n:Int}{m:Bool}(h:(BM k n).wf=ag):aS C (.int k n) m [.int k n]:=by
 refine⟨?_,u6 h⟩;trivial
theorem axA{C:IV}{A k1 k2 I:IntKind}{J U Z a:Int}(b:(BM A J).wf=ag)(c:(BM k1 U).wf=ag)(d:(BM k2 Z).wf=ag)(e:(BM I a).wf=ag):
  aS C (.agg 4 [.int A J,.int k1 U,.int k2 Z,.int I a]) ag [.agg #[.int A J,.int k1 U,.int k2 Z,.int I a]]:=by
 exact⟨_,[[.int A J],[.int k1 U],[.int k2 Z],[.int I a]],rfl,rfl,⟨_,_,rfl,⟨rfl,u6 b⟩,_,_,rfl,⟨rfl,u6 c⟩,_,_,rfl,⟨rfl,u6 d⟩,_,_,rfl,⟨rfl,u6 e⟩,rfl⟩,rfl⟩
theorem aw4{f:Nat}{ds:List D}(h:vu nr P f ds (.bool ag)){args:Array Value} w{C:IV}(A:CI C w)(I:a8 (λd x=>aS C d ag [x]) ds args.toList):
  Calls P f args w λe w'=>e=.returned (.bool ag)/\Below w.heap.size w w':=by
 refine callsIn_wide.1 (yh (h 1 C w _ A I) λe w' q=>?_)
 grind[aS]
theorem axy{H:Type}{enc:TypeId×Value->H}{f:Func}{s:ChangeSpec}{apart fresh A Z:Bool}{W a:World}{args:Array Value}{v:Value}{ds c:List (DataW H)}
  (e:ahf enc P f.params.toList s.vars apart W args.toList ds c [])
  (U:∀b sp g,BJ enc P a b sp g f.resultTypes.toList (v.resultList f.resultTypes.size) (s.fn H (ds++c)).results [])
  (I:∀sp,BJ enc P a 0 sp ag f.params.toList args.toList (s.fn H (ds++c)).args [])
  (J:∀sp,ahe enc P a sp s.vars (s.fn H (ds++c)).vars [])
  (i:Below W.heap.size W a)
  (d:∀(j:Nat) t r,f.resultTypes[j]? =ab t->(v.resultList f.resultTypes.size)[j]? =ab r->Gd P a .any 0 t r):
  s.post enc P f apart fresh A Z W args v a:=by
 refine⟨ds,c,[],[],[],[],e,U _ _ _,I _,J _,i.frame _,λ_=>?_⟩
 exact⟨d,_,_,[]++[]++[],⟨[]++[],[],trodAll_append (I _) (U _ _ _),J _,rfl,λb off hp=>by trivial,λ_=>by simp⟩,λp hp _=>by trivial⟩
theorem goesBy_none{c:OpenClaim}(I:c.start=.entering)(h:P.funcs.toList.any U6=af):af=c.goesBy P:=by
 have h2:P.funcs.any U6=af:=by grind
 have A:∀g:Nat,P.funcs[g]?.any U6=af:=λg=>by
  grind
 have hf:∀f,P.goes f=af:=λf=>by
  simp[Program.goes,A,h2]
 unfold OpenClaim.goesBy Program.goesAt Program.goesFrom;cases P.funcNamed _<;>first|grind|rfl
end
section
abbrev IH:=Nat->Nat->Nat->Code->St->Option (Ex×St)
structure Ask where
 f:Nat
 fb:Nat
 cur:Nat
 c:Code
 st:St
 r:Ex×St
def Holds(S:List Ask)(ih:IH):Prop:=∀p∈S,ih p.f p.fb p.cur p.c p.st=ab p.r
def aa{α:Type}(c:IH->Option α):Prop:=∀ih r,c ih=ab r->∃S,Holds S ih/\∀A,Holds S A->c A=ab r
theorem aa.const{α:Type}(o:Option α):aa (λ_=>o):=λ_ _ h=>⟨[],(λ_ h=>by cases h),λ_ _=>h⟩
theorem aa.ask(f fb cur:Nat)(c:Code)(st:St):aa (λih=>ih f fb cur c st):=λih r h=>
 ⟨[⟨f,fb,cur,c,st,r⟩],(λp hp=>by grind),λA h'=>h' _ (List.mem_singleton.2 rfl)⟩
theorem aa.bind{α β:Type}{c:IH->Option α}{k:α->IH->Option β}(I:aa c)(J:∀x,aa (k x)):aa (λih=>(c ih).bind λx=>k x ih):=λih r h=>by
 obtain⟨x,h1,h2⟩:=az.1 h;obtain⟨S,U,Z⟩:=I ih x h1;obtain⟨T,t1,t2⟩:=J x ih r h2;refine⟨S++T,λp hp=>?_,λA h'=>?_⟩
 .rcases cE.1 hp with hp|hp
  .exact U p hp
  .exact t1 p hp
 .show (c A).bind _=_;rw[Z A λp hp=>h' p (cE.2 (.inl hp))]
  exact t2 A λp hp=>h' p (cE.2 (.inr hp))
theorem aa.of{α:Type}{c d:IH->Option α}(h:aa d)(e:∀ih,c ih=d ih):aa c:=by
 have:=funext e;simp[this,h]
theorem aa.nS{α β:Type}{c:IH->Option α}{F:IH->Option β}(A:aa c)(k:α->IH->Option β)(I:∀x,aa (k x))(J:∀ih,c ih=ae->F ih=ae)(U:∀ih x,c ih=ab x->F ih=k x ih):aa F:=
 (A.bind I).of λih=>by
  cases h:c ih<;>first|rename_i x;rw[U ih x h];rfl|rw[J ih h];rfl
theorem aa.cond{α:Type}{b:Bool}{c d:IH->Option α}(A:aa c)(I:aa d):aa (λih=>bif b then c ih else d ih):=by
 cases b
 all_goals trivial
theorem aa.map{α β:Type}{c:IH->Option α}(A:aa c)(g:α->β):aa (λih=>(c ih).map g):=
 (A.bind (k:=λx _=>ab (g x)) λx=>aa.const _).of λih=>by cases c ih<;>rfl
section
variable (E:Env)
theorem afb(f:Nat)(args:List V)(h:Heap)(lp:List Rec):aa (λih=>nh E ih f args h lp):=by
 refine aa.bind (aa.const _) λfn=>aa.bind (aa.const _) λc=>?_
 have:aa (λih=>bif bw (aG args) fn.ntmps then ih f 0 0 c ⟨jg fn.ntmps args,h,lp,[]⟩else ae):=aa.cond (aa.ask _ _ _ _ _) (aa.const _)
 refine aa.nS this (λx _=>match x with|(.exit _,_)=>ae|(_,st)=>ab (fn,st)) (λx=>aa.const _) (λih e=>?_) (λih x e=>?_)
 all_goals grind
theorem TN(A:Nat):∀(df:List (Nat×List V)) (h:Heap) (lp:List Rec),aa (λih=>jY E ih A df h lp)
 |[],h,lp=>aa.const _
 |d::df,h,lp=>by
  show aa (λih=>bif l7 d then(bif bw A d.1 then jY E ih A df h lp else ae)else match nh E ih d.1 d.2 h lp with
   |some (fn,st)=>(match st.df with
    |[]=>(match mh E st.h fn st.t with
     |some _=>jY E ih A df st.h st.lp
     |none=>ae)
    |_=>ae)
   |none=>ae)
  refine aa.cond (aa.cond (TN A df h lp) (aa.const _)) ?_;refine aa.nS (afb E d.1 d.2 h lp) (λx ih=>match x.2.df with
    |[]=>(match mh E x.2.h x.1 x.2.t with
     |some _=>jY E ih A df x.2.h x.2.lp
     |none=>ae)
    |_=>ae) (λx=>?_) (λih e=>by simp[e]) (λih x e=>by simp[e])
  split
  .split
   .exact TN A df _ _
   simp[aa.const]
  simp[aa.const]
theorem DN(f:Nat)(args:List V)(h:Heap)(lp:List Rec):aa (λih=>gK E ih f args h lp):=by
 unfold gK;refine aa.nS (afb E f args h lp) (λx ih=>match x.2.df with
  |[]=>(mh E x.2.h x.1 x.2.t).map λv=>(v,x.2.h,x.2.lp)
  |df=>(jY E ih (aG h) df x.2.h x.2.lp).bind λr=>(mh E r.1 x.1 x.2.t).map λv=>(v,r.1,r.2)) (λx=>?_) (λih e=>by simp[e]) (λih x e=>by grind)
 split
 .simp[aa.const]
 .exact aa.bind (TN E _ _ _ _) λr=>aa.const _
theorem XG(f:Nat)(args:List D):aa (λih=>qC E ih f args):=by
 exact aa.bind (DN E f _ _ _) λr=>aa.const _
theorem OC(f:Nat)(args:List D):aa (λih=>iu E ih f args):=by
 unfold iu;split
 .split
  .simp[aa.const]
  .exact XG E f args
 .exact XG E f args
theorem akk(f:Nat)(args:List V)(h:Heap)(lp:List Rec):aa (λih=>qy E ih f args h lp):=by
 refine aa.cond (DN E f args h lp) ?_;split
 .exact aa.bind (OC E f _) λr=>aa.const _
 .exact DN E f args h lp
theorem akg(aC g:Nat)(args:List V)(h:Heap)(lp:List Rec):aa (λih=>vW E ih aC g args h lp):=by
 unfold vW;split
 .simp[aa.const]
 .split
  .exact akk E g args h lp
  simp[aa.const]
theorem auX(b:Nat)(xs:List V)(h:Heap):aa (λih=>xJ ih b xs h):=by
 unfold xJ;split
 .rename_i f t ps bR body _;refine aa.bind (aa.const _) λt0=>?_
  refine aa.nS (aa.ask f 1 0 bR _) (λx ih=>match x with
   |(.nm,I)=>(match I.df with
    |[]=>(match ih f 1 0 body ⟨I.t,I.h,[],[]⟩with
     |some (.nm,A)=>(match A.df with
      |[]=>ab (.im (.bool ag),aI A.h b (.lp f t ps bR body))
      |_=>ae)
     |_=>ae)
    |_=>ae)
   |_=>ae) (λx=>?_) (λih e=>by
    rw[e]) (λih x e=>by
    grind)
  obtain⟨ex,I⟩:=x;cases ex with
  |nm=>
   show aa (λih=>match I.df with
    |[]=>(match ih f 1 0 body ⟨I.t,I.h,[],[]⟩with
     |some (.nm,A)=>(match A.df with
      |[]=>(ab (V.im (.bool ag),aI A.h b (.lp f t ps bR body)))
      |_=>ae)
     |_=>ae)
    |_=>ae)
   split
   .refine aa.nS (aa.ask f 1 0 body _) (λx _=>match x with
     |(.nm,A)=>(match A.df with
      |[]=>ab (.im (.bool ag),aI A.h b (.lp f t ps bR body))
      |_=>ae)
     |_=>ae) (λx=>aa.const _) (λih e=>by
     rw[e]) (λih x e=>by
     grind)
   simp[aa.const]
  |exit _=>simp[aa.const]
  |ret=>simp[aa.const]
 simp[aa.const]
theorem arB(lp:List Rec){c:IH->R}(A:aa c):aa (λih=>lift lp (c ih)):=
 (A.map λx=>(x.1,x.2,lp)).of λih=>by cases c ih<;>rfl
theorem amo(aC:Nat)(t:Tm)(c:Call)(h:Heap)(lp:List Rec):aa (λih=>kz E ih aC t c h lp):=by
 unfold kz;split
 .exact arB lp (auX _ _ _)
 .exact aa.bind (aa.const _) λg=>akg E _ _ _ _ _
theorem ac2(keep:Bool)(ops:Array Oper)(aC:Nat)(o:Oper)(st:St):aa (λih=>eZ E ih keep ops aC o st):=by
 have key:∀c,aa c->aa (λih=>match c ih with|none=>ae|some (v,h,lp)=>ab (⟨putDst st.t o.dst v,h,lp,st.df⟩:St)):=λc A=>
  aa.nS A (λx _=>ab ⟨putDst st.t o.dst x.1,x.2.1,x.2.2,st.df⟩) (λx=>aa.const _) (λih e=>by simp[e]) (λih x e=>by simp[e])
 unfold eZ;split
 .simp[aa.const]
 .simp[aa.const]
 .split
  .simp[aa.const]
  .refine key (λih=>match o.op with
    |.call c=>(match c.callee with
     |.builtin _=>lift st.lp (dj E keep aC st.t st.h o.op)
     |_=>kz E ih aC st.t c st.h st.lp)
    |op=>lift st.lp (dj E keep aC st.t st.h op)) ?_
   split
   .split
    .simp[aa.const]
    .exact amo E _ _ _ _ _
   simp[aa.const]
theorem afh(keep:Bool)(ops:Array Oper):∀(l:List Oper) (st:St),aa (λih=>dS E ih keep ops l st)
 |[],st=>aa.const _
 |o::l,st=>by
  show aa (λih=>match eZ E ih keep ops (aG st.h) o st with
   |none=>ae
   |some A=>dS E ih keep ops l A)
  exact aa.nS (ac2 E keep ops _ o st) (λx ih=>dS E ih keep ops l x) (λx=>afh keep ops l x) (λih e=>by
   have e:eZ E ih keep ops (aG st.h) o st=ae:=e;grind) (λih x e=>by
   grind)
theorem aer(keep:Bool)(aC:Nat)(t:Tm)(view:Heap)(op:Op):aa (λih=>fK E ih keep aC t view op):=by
 unfold fK;split;all_goals first
  |exact aa.const _
  |skip
 split;all_goals first
  |exact aa.const _
  |skip
 refine aa.bind (aa.const _) λg=>?_
 split
 .simp[aa.const]
 .split
  .exact aa.cond (aa.const _) (aa.bind (aa.const _) λds=>aa.bind (OC E _ ds) λr=>aa.const _)
  simp[aa.const]
theorem asM(keep:Bool)(ops:Array Oper)(k n i cls:Nat)(m:List Nat)(o:Oper)(st:St):aa (λih=>du E ih keep ops k n i cls m o st):=by
 unfold du;split
 .simp[aa.const]
 .simp[aa.const]
 .split
  .simp[aa.const]
  .refine aa.cond ?_ ?_
   .split
    .exact (aer E keep _ _ _ _).map _
    simp[aa.const]
   .exact aa.bind (aer E keep _ _ _ _) λr=>aa.const _
  .simp[aa.const]
  .exact ac2 E keep ops _ o st
  .split
   .exact aa.bind (aa.const _) λg=>aa.bind (DN E _ _ _ _) λr=>aa.const _
   simp[aa.const]
  .simp[aa.const]
  .simp[aa.const]
  .split
   .exact aa.bind (aa.const _) λg=>aa.bind (aa.const _) λds=>aa.bind (OC E _ ds) λr=>aa.const _
   simp[aa.const]
theorem afd(keep:Bool)(ops:Array Oper)(k n:Nat):∀(l:List Oper) (ds:List (Nat×List Nat)) (i:Nat) (st:St),aa (λih=>ie E ih keep ops k n l ds i st)
 |[],ds,i,st|o::l,[],i,st=>aa.const _
 |o::l,(c,m)::ds,i,st=>by
  show aa (λih=>match du E ih keep ops k n i c m o st with
   |none=>ae
   |some A=>ie E ih keep ops k n l ds (bif bP E o.op then i+1 else i) A)
  exact aa.nS (asM E keep ops k n i c m o st) (λx ih=>ie E ih keep ops k n l ds (bif bP E o.op then i+1 else i) x) (λx=>afd keep ops k n l ds _ x) (λih e=>by simp[e]) (λih x e=>by simp[e])
theorem auE(f id:Nat)(ops:Array Oper)(st:St):aa (λih=>qY E ih f id ops st):=by
 exact aa.bind (aa.const _) λds=>afd E _ ops _ _ _ ds _ _
theorem OW(f fb cur:Nat)(c:Code)(st:St):aa (λih=>pC E ih f fb cur c st):=by
 cases c with
 |region id ops I=>
  show aa (λih=>match(bif I then qY E ih f id ops (gk E af f id st)else dS E ih (E.keep f) ops ops.toList (gk E af f id st))with
   |some A=>(ab (Ex.nm,gk E ag f id A))
   |none=>ae)
  exact aa.nS (aa.cond (b:=I) (auE E f id ops (gk E af f id st)) (afh E (E.keep f) ops ops.toList (gk E af f id st))) (λx _=>ab (Ex.nm,gk E ag f id x)) (λx=>aa.const _) (λih e=>by simp[e]) (λih x e=>by simp[e])
 |seq a b=>
  show aa (λih=>match ih f fb cur a st with
   |some (.nm,A)=>ih f fb cur b A
   |r=>r)
  exact aa.nS (aa.ask f fb cur a st) (λx ih=>match x with|(.nm,A)=>ih f fb cur b A|r=>ab r) (λx=>by obtain⟨ex,A⟩:=x;cases ex<;>first|exact aa.ask _ _ _ _ _|simp[aa.const])
   (λih e=>by simp[e]) (λih x e=>by grind)
 |cond c a b=>
  show aa (λih=>match ev st.t c with
   |.im (.bool t)=>bif t then ih f fb cur a st else ih f fb cur b st
   |_=>ae)
  split
  .exact aa.cond (aa.ask _ _ _ _ _) (aa.ask _ _ _ _ _)
  simp[aa.const]
 |block id b=>
  show aa (λih=>match ih f fb id b st with
   |some (.exit j,A)=>bif al j id then ab (.nm,A)else ab (.exit j,A)
   |r=>r)
  exact aa.nS (aa.ask f fb id b st) (λx _=>match x with|(.exit j,A)=>bif al j id then ab (.nm,A)else ab (.exit j,A)|r=>ab r) (λx=>aa.const _)
   (λih e=>by simp[e]) (λih x e=>by grind)
 |loop b=>
  show aa (λih=>match ih f fb cur b st with
   |some (.nm,A)=>ih f fb cur (.loop b) A
   |r=>r)
  exact aa.nS (aa.ask f fb cur b st) (λx ih=>match x with|(.nm,A)=>ih f fb cur (.loop b) A|r=>ab r) (λx=>by obtain⟨ex,A⟩:=x;cases ex<;>first|exact aa.ask _ _ _ _ _|simp[aa.const])
   (λih e=>by simp[e]) (λih x e=>by grind)
 |scope b=>exact aa.ask _ _ _ _ _
 |rangeFunc g ps bR body=>
  show aa (λih=>match(match ev st.t g with|.fn g a cap=>ab (g,a,cap)|.im (.fn g)=>ab (g,[],[])|_=>ae)with
   |some (g,a,cap)=>(match gK E ih g (a++(.jl (aG st.h+1)::cap)) (st.h++[ae,ab (.lp f st.t ps.toList bR body)]) st.lp with
    |some (_,h',lp)=>(match ar h' (aG st.h+1)with
     |some (.lp ..)=>(ab (Ex.nm,⟨st.t,bD h' (aG st.h+1) ae,lp,bif al fb 0 then(aG st.h,[V.undef])::st.df else st.df⟩):Option (Ex×St))
     |_=>ae)
    |none=>ae)
   |none=>ae)
  split
  .rename_i g a cap _;exact aa.nS (DN E g (a++(.jl (aG st.h+1)::cap)) (st.h++[ae,ab (.lp f st.t ps.toList bR body)]) st.lp) (λx _=>match ar x.2.1 (aG st.h+1)with
     |some (.lp ..)=>ab (Ex.nm,⟨st.t,bD x.2.1 (aG st.h+1) ae,x.2.2,bif al fb 0 then(aG st.h,[V.undef])::st.df else st.df⟩)
     |_=>ae) (λx=>aa.const _) (λih e=>by simp_all[e]) (λih x e=>by simp_all[e])
  simp[aa.const]
 |_=>exact aa.const _
end
theorem OZ(E:Env):∀(n f fb cur:Nat) (c:Code) (st:St) (r:Ex×St),exec E n f fb cur c st=ab r->exec E (n+1) f fb cur c st=ab r
 |0,_,_,_,_,_,_,h=>by cases h
 |n+1,f,fb,cur,c,st,r,h=>by
  obtain⟨S,h1,h2⟩:=OW E f fb cur c st (exec E n) r h;exact h2 _ λp hp=>OZ E n _ _ _ _ _ _ (h1 p hp)
theorem HV(E:Env){n m:Nat}(A:n<=m){f fb cur:Nat}{c:Code}{st:St}{r:Ex×St}(h:exec E n f fb cur c st=ab r):exec E m f fb cur c st=ab r:=by
 obtain⟨k,rfl⟩:=Nat.exists_eq_add_of_le A;clear A;induction k with
 |zero=>exact h
 |succ k ih=>exact OZ E _ _ _ _ _ _ _ ih
open Classical in
def X(E:Env):IH:=λf fb cur c st=>if h:∃n r,exec E n f fb cur c st=ab r then ab h.choose_spec.choose else ae
theorem Co{E:Env}{f fb cur:Nat}{c:Code}{st:St}{r:Ex×St}:X E f fb cur c st=ab r↔∃n,exec E n f fb cur c st=ab r:=by
 unfold X;constructor
 .intro h;split at h
  all_goals grind
 .rintro ⟨n,h⟩;have q:∃n r,exec E n f fb cur c st=ab r:=⟨n,r,h⟩;have h2:=q.choose_spec.choose_spec;have a:=HV E (aic n q.choose) h;have b:=HV E (aid n q.choose) h2;grind
theorem ZO{E:Env}:∀{S:List Ask},Holds S (X E)->∃n,Holds S (exec E n)
 |[],_=>⟨0,(λ_ h=>by cases h)⟩
 |p::S,h=>by
  obtain⟨n,I⟩:=Co.1 (h p (eA ..));obtain⟨m,hm⟩:=ZO (S:=S) λq A=>h q (ff _ A)
  refine⟨max n m,λq A=>?_⟩
  rcases dy.1 A with rfl|A
  .exact HV E (aic ..) I
  .exact HV E (aid ..) (hm q A)
theorem k0(E:Env)(f fb cur:Nat)(c:Code)(st:St):X E f fb cur c st=pC E (X E) f fb cur c st:=by
 apply Option.ext;intro r;constructor
 .intro h;obtain⟨n,A⟩:=Co.1 h;have A:=OZ E n _ _ _ _ _ _ A;obtain⟨S,h1,h2⟩:=OW E f fb cur c st (exec E n) r A;exact h2 _ λp hp=>Co.2 ⟨n,h1 p hp⟩
 .intro h;obtain⟨S,h1,h2⟩:=OW E f fb cur c st (X E) r h;obtain⟨n,A⟩:=ZO h1;exact Co.2 ⟨n+1,h2 _ A⟩
theorem ai5[Gh]{F:Fence}{P:Program}{E:Env}(A:gE F P E)(hF:dM F):jK F P E (X E):=λf fb cur c st r h=>by
 obtain⟨n,I⟩:=Co.1 h;exact OY A hF n f fb cur c st r I
end
section
inductive Ty where
 |bool
 |int (k:IntKind)
 |str
 |an (t:Ty)
 |st (w:Nat) (l:Ty)
 |aH (l:Ty)
 |nl
 |cn (t l:Ty)
 |jR
 |err
@[reducible] def Ty.den(t:Ty):=
 Ty.rec (motive:=λ_=>Type) Bool (λ_=>Int) (List Nat) (λ_ d=>List d) (λ_ _ d=>d) (λ_ d=>d) Unit (λ_ _ a b=>a×b) Nat (List (Nat×Int)) t
def iN:List (Nat×Int)->D
 |[]=>.eF
 |(t,c)::l=>.ifc t (.agg 2 [.int .i64 c,iN l])
mutual
def Ty.enc:(t:Ty)->t.den->D
 |.bool,b=>.bool b
 |.int k,n=>.int k n
 |.str,s=>.str s
 |.an t,l=>.an (List.map (Ty.enc t) l)
 |.st w l,x=>.agg w (Ty.ec l x)
 |.aH l,x=>.aH (Ty.ec l x)
 |.nl,_=>.nil
 |.cn _ _,_=>.nil
 |.jR,f=>.fn f
 |.err,l=>iN l
def Ty.ec:(l:Ty)->l.den->List D
 |.cn t l,x=>Ty.enc t x.1::Ty.ec l x.2
 |_,_=>[]
end
def Ty.wd:Ty->Nat
 |.st w _=>w
 |_=>1
def I8:IntKind->IntKind->Bool
 |.i8,.i8|.i16,.i16|.i32,.i32|.i64,.i64|.u8,.u8|.u16,.u16|.u32,.u32|.u64,.u64=>ag
 |_,_=>af
def Ty.beq:Ty->Ty->Bool
 |.bool,.bool|.str,.str|.nl,.nl|.jR,.jR|.err,.err=>ag
 |.int k,.int A=>I8 k A
 |.an a,.an b=>Ty.beq a b
 |.st w a,.st v b=>al w v&&Ty.beq a b
 |.aH a,.aH b=>Ty.beq a b
 |.cn a l,.cn b r=>Ty.beq a b&&Ty.beq l r
 |_,_=>af
theorem QO:∀{a b:IntKind},I8 a b=ag->a=b:=by
 intro a b h;cases a<;>cases b<;>first|rfl|cases h
theorem Ty.beq_eq:∀{a b:Ty},Ty.beq a b=ag->a=b:=by
 intro a;induction a with
 |bool|str|nl|jR|err=>intro b h;cases b<;>first|rfl|cases h
 |int k=>intro b h;cases b<;>first|rename_i A;rw[QO (show I8 k A=ag from h)]|cases h
 |an a ih|aH a ih=>intro b h;cases b<;>first|rename_i b;rw[ih (show Ty.beq a b=ag from h)]|cases h
 |st w a ih=>intro b h;cases b<;>first|rename_i v b;have h:(al w v&&Ty.beq a b)=ag:=h;rw[aM]at h;rw[bU h.1,ih h.2]|cases h
 |cn a l I J=>intro b h;cases b<;>first|rename_i b r;have h:(Ty.beq a b&&Ty.beq l r)=ag:=h;grind|cases h
def Ty.cs(a b:Ty)(x:a.den):=if h:Ty.beq a b=ag then ab (Ty.beq_eq h▸x)else ae
mutual
def Ty.flat:Ty->Bool
 |.an _=>af
 |.st _ l=>Ty.mM l
 |.aH l=>Ty.mM l
 |_=>ag
def Ty.mM:Ty->Bool
 |.cn t l=>Ty.flat t&&Ty.mM l
 |_=>ag
end
def p9(E:Env)(n:Nat):Nat->Option Ty:=
 g9 (λ_=>ae) (λ_ ih t=>(E.ty t).bind λti=>match ti.k with
  |.bool=>ab .bool
  |.int k=>ab (.int k)
  |.str=>ab .str
  |.an e=>(ih e).map .an
  |.st fs=>(bn (ab .nl) (λf _ r=>(ih f.2.2).bind λa=>r.map λl=>.cn a l) fs:Option Ty).map (.st ti.size)
  |.arr m e=>(ih e).map λa=>.st ti.size (g9 .nl (λ_ l=>.cn a l) m)
  |.fn=>ab .jR
  |.ifc _=>ab .err
  |_=>ae) n
end
section
open Go.ChangeShapes Go.WideShapes Go.Joins
variable [Gh]
def Ty.Ok:(t:Ty)->t.den->Prop
 |.bool,_=>True
 |.int k,n=>dh k n
 |.str,s=>s.length<=fv/\∀c∈s,c< 256
 |.an t,l=>l.length<=maxLen/\∀x∈l,Ty.Ok t x
 |.st _ l,x=>Ty.Ok l x
 |.aH l,x=>Ty.Ok l x
 |.nl,_=>True
 |.cn t l,x=>Ty.Ok t x.1/\Ty.Ok l x.2
 |.jR,_|.err,_=>False
def Ty.Sm(N:Nat):(t:Ty)->t.den->Prop
 |.an t,l=>l.length<=N/\∀x∈l,Ty.Sm N t x
 |.st _ l,x=>Ty.Sm N l x
 |.aH l,x=>Ty.Sm N l x
 |.cn t l,x=>Ty.Sm N t x.1/\Ty.Sm N l x.2
 |.bool,_|.int _,_|.str,_|.nl,_|.jR,_|.err,_=>True
structure vz{H:Type}(bk:DataW H->Nat):Prop where
 part:∀{d:DataW H} {l:List (DataW H)},d∈l->bk d<=bk (.agg l)
 elem:∀{d:DataW H} {l r:List (DataW H)},d∈l->bk d<=bk (.slice l r)
 len:∀(l r:List (DataW H)),l.length<=bk (.slice l r)
def tN(ok:Nat->Ty->Bool)(w:Nat):List (Nat×Nat×Nat)->Ty->Nat->Bool
 |[],.nl,off=>al off w
 |f::fs,.cn a l,off=>al f.1 off&&(al a.wd f.2.1&&(ok f.2.2 a&&tN ok w fs l (off+a.wd)))
 |_,_,_=>af
def za(ok:Ty->Bool)(s w:Nat):Nat->Ty->Nat->Bool
 |0,.nl,off=>al off w
 |m+1,.cn a l,off=>al a.wd s&&(ok a&&za ok s w m l (off+s))
 |_,_,_=>af
def iL(E:Env):Nat->Nat->Ty->Bool
 |0,_,_=>af
 |n+1,t,u=>match E.ty t with
  |none=>af
  |some ti=>al u.wd ti.size&&(match ti.k,u with
   |.bool,.bool=>ag
   |.int k,.int A=>I8 k A
   |.str,.str=>ag
   |.an e,.an a=>cS 0 a.wd&&iL E n e a
   |.st fs,.st w l=>tN (λt u=>iL E n t u) w fs l 0
   |.arr m e,.st w l=>cS 0 m&&(match E.ty e with|some te=>za (λu=>iL E n e u) te.size w m l 0|none=>af)
   |_,_=>af)
section
variable {P:Program} {E:Env} {W:World} {H:Type} {enc:TypeId×Value->H} {sp:Nat->Bool} {held:Bool}
theorem NK(I:EnvTy P E){n t:Nat}{u:Ty}(h:iL E n t u=ag):P.cellsOf t=u.wd:=by
 cases n
 .cases h
 rename_i n;unfold iL at h;split at h<;>try grind
 rename_i ti A;rw[aM]at h;rw[(I.ty t ti A).sizeOf,bU h.1]
theorem VW{C:IV}:∀{l:List D} {A:List (List Value)} {d:D} {ws:List Value},bH C l af A->aS C d af ws->bH C (l++[d]) af (A++[ws])
 |[],A,d,ws,h,k=>by
  subst h;simp[List.nil_append,bH];grind
 |_::l,A,d,ws,h,k=>by
  obtain⟨w,r,rfl,h1,h2⟩:=h;exact⟨w,_,rfl,h1,VW h2 k⟩
theorem afN{a:Ty}{a0:Addr}{s:Nat}{Q:Nat->a.den->Prop}:∀(n:Nat),(∀i,i< n->∃(y:a.den) (ws:List Value),aS (λp=>W.cell? p) (a.enc y) af ws/\Q i y/\ws.length=s/\∀j,j< s->W.cell? ((a0.add (i*s)).add j)=ws[j]?)->
  ∃(L:List a.den) (A:List (List Value)),L.length=n/\bH (λp=>W.cell? p) (L.map a.enc) af A/\(∀ws∈A,ws.length=s)/\A.flatten.length=n*s/\(∀x∈L,∃i,i< n/\Q i x)/\cL (λp=>W.cell? p) a0 A.flatten
 |0,_=>⟨[],[],rfl,by rfl,by simp,by simp,by simp,λj v e=>by trivial⟩
 |n+1,h=>by
  obtain⟨L,A,h1,h2,c,d,f,J⟩:=afN n λi hi=>h i (by omega)
  obtain⟨y,ws,U,g,k,Z⟩:=h n (by omega)
  refine⟨L++[y],A++[ws],by simp[h1],?_,?_,?_,?_,?_⟩
  .simp[List.map_append,VW,h2,U]
  .grind
  .grind
  .grind
  intro j v e;rw[List.flatten_append]at e;by_cases b:j< A.flatten.length
  .rw [List.getElem?_append_left b]at e;exact J j v e
  rw[List.getElem?_append_right (by omega)]at e
  have I:j-A.flatten.length< s:=by
   grind
  have:=Z _ I;simp_all[e,this,Go.Deep.add_add]
theorem awk(hE:EnvTy P E):∀(n t:Nat) (u:Ty),iL E n t u=ag->∀(fuel:Nat) (cs:List Value) (x:DataW H×List MemPlace),ahg enc P W 0 sp held fuel t cs=ab x->
  ∃y:u.den,aS (λp=>W.cell? p) (u.enc y) af cs/\(u.Ok y/\∀(N:Nat) (bk:DataW H->Nat),vz bk->bk x.1<=N->u.Sm N y)/\cs.length=u.wd:=by
 intro n;induction n with
 |zero=>intro t u h;cases h
 |succ n ih=>
  intro t u h fuel cs x Z;unfold iL at h;split at h
  .cases h
  rename_i ti hti;rw[aM]at h;obtain⟨S,h⟩:=h;have hw:=bU S;clear S;have hT:=hE.ty t ti hti;have o:=hT.kind;split at h
  .rename_i I;rw[I]at o;obtain⟨b,rfl,rfl⟩:=DataW.trod_bool o Z;exact⟨b,by rfl,⟨trivial,λ_ _ _ _=>trivial⟩,rfl⟩
  .rename_i k k' I;rw[I]at o;have:=QO h;subst this;obtain⟨m,rfl,rfl,hm⟩:=DataW.trod_int o Z;exact⟨m,by simp only[Ty.enc,aS];first|exact⟨rfl,u6 hm⟩|simp[trivial,u6,hm],⟨u6 hm,λ_ _ _ _=>trivial⟩,rfl⟩
  .rename_i I;rw[I]at o;obtain⟨s,rfl,rfl,hs⟩:=DataW.trod_string o Z;refine⟨CN s,?_,⟨⟨?_,?_⟩,λ_ _ _ _=>trivial⟩,rfl⟩
   .simp only[Ty.enc,aS];exact⟨s,rfl,rfl,by trivial⟩
   .simp_all[maxLen,hs,fv,CN]
   intro c hc;unfold CN at hc;obtain⟨b,_,rfl⟩:=kj.1 hc;exact b.toNat_lt
  .rename_i e a I;rw[I]at o;rw[aM]at h;obtain⟨h0,ha⟩:=h;have h0:0< a.wd:=jo h0;have wD:=NK hE ha;rcases Go.Deep.open_slice o Z with⟨rfl,rfl⟩|⟨a0,len,cap,m,k,Dt,Pl,rfl,_,hl,hc,hm,rfl,hel⟩
   .refine ⟨[],?_,⟨⟨by simp,by simp⟩,λ_ _ _ _=>⟨by simp,by simp⟩⟩,rfl⟩
    simp only[Ty.enc,aS,List.map_nil];grind
   .have hlm:len<=m:=by grind
    obtain⟨L,A,h1,h2,h3,h4,h5,h6⟩:=afN (W:=W) (a:=a) (a0:=a0) (s:=a.wd) (Q:=λi y=>a.Ok y/\∀(N:Nat) (bk:DataW H->Nat),vz bk->bk (Dt i)<=N->a.Sm N y) len λi hi=>by
     obtain⟨Xx,c1,c2⟩:=hel i (by omega)
     obtain⟨y,D,q,G⟩:=ih e a ha _ _ _ c2;obtain⟨_,c3,c4⟩:=World.cells?_some c1;grind
    refine⟨L,?_,⟨⟨by omega,λx Z=>(h5 x Z).choose_spec.2.1⟩,λN bk J r=>⟨?_,λx Z=>?_⟩⟩,rfl⟩
    rotate_left
    .have:=J.len ((vo len).map Dt) ((vo (m-len)).map λj=>Dt (len+j))
     grind
    .obtain ⟨i,hi,_,hq⟩:=h5 x Z;exact hq N bk J (bX (J.elem (kj.2 ⟨i,List.mem_range.2 hi,rfl⟩)) r)
    simp only[Ty.enc,aS];refine⟨ab a0,len,cap,rfl,by simp[h1],hl,by unfold maxLen at hc;grind[fv],?_⟩
    by_cases T:len=0<;>try grind
    refine .inr ⟨a0,A,a.wd,rfl,?_,h2,h3,h6⟩;have V:0< A.flatten.length:=by rw[h4];exact Nat.mul_pos (by omega) h0
    have:=h6 0 _ (gB V);rw[Addr.add_zero]at this;replace this:W.cell? a0=_:=this;unfold World.cell? at this;split at this<;>try trivial
    cases hs:a0.spot with
    |none=>rfl
    |some _=>rw[hs]at this;simp at this
  .rename_i fs w l I;rw[I]at o;obtain⟨d,hu,hf,_⟩:=o;obtain⟨xs,k,_,rfl,v,Y,K⟩:=DataW.trod_struct hu Z;have U:cs.length=w:=by rw[v,hT.sizeOf,<-hw];rfl
   have M:∀(fl:List Field) (l:Ty) (off:Nat),tN (λt u=>iL E n t u) w (fl.map λf=>(f.offset,P.cellsOf f.type,f.type)) l off=ag->
     (∀f∈fl,∃y,ahg enc P W 0 sp held k f.type ((cs.drop f.offset).take (P.cellsOf f.type))=ab y/\y∈xs)->∃(y:l.den) (A:List (List Value)),bH (λp=>W.cell? p) (l.ec y) af A/\A.flatten=cs.drop off/\(l.Ok y/\∀(N:Nat) (bk:DataW H->Nat),vz bk->(∀x∈xs,bk x.1<=N)->l.Sm N y):=by
    intro fl;induction fl with
    |nil=>
     intro l off h1 _;cases l with
     |nl=>
      have:off=w:=bU h1;exact⟨(),[],by simp[Ty.ec,bH],by rw[this,<-U];simp,trivial,λ_ _ _ _=>trivial⟩
     |_=>cases h1
    |cons f fl Qn=>
     intro l off h1 h2;cases l with
     |cn a l=>
      simp only[mv,tN,aM]at h1;obtain⟨e1,R,e3,e4⟩:=h1;have e1:f.offset=off:=bU e1;have R:a.wd=P.cellsOf f.type:=bU R;obtain⟨z,T,hzm⟩:=h2 f (eA ..);obtain⟨y,D,q,G⟩:=ih f.type a e3 _ _ _ T;obtain⟨ys,A,r4,r5,r6,r7⟩:=Qn l (off+a.wd) e4 λg hg=>h2 g (ff _ hg)
      refine⟨(y,ys),((cs.drop f.offset).take (P.cellsOf f.type))::A,?_,?_,⟨q.1,r6⟩,λN bk J r=>⟨q.2 N bk J (r z hzm),r7 N bk J r⟩⟩
      .simp only[Ty.ec,bH];exact⟨_,_,rfl,D,r4⟩
      rw[pc,r5,e1,<-R,<-rD,ah5]
     |_=>cases h1
   rw[<-hf]at h;obtain⟨y,A,D,q,G⟩:=M d.toList l 0 h λf hf'=>by
    obtain⟨i,hi⟩:=List.getElem?_of_mem hf';have sk:d[i]? =ab f:=by rw[<-Array.getElem?_toList];exact hi
    have C:i< xs.length:=by
     rw[Y];have:=(List.getElem?_eq_some_iff.1 hi).1;simpa using this
    exact⟨xs[i],by rw[K i f sk,gB C],g7 C⟩
   refine⟨y,?_,⟨G.1,λN bk J r=>G.2 N bk J λx Z=>bX (J.part (kj.2 ⟨x,Z,rfl⟩)) r⟩,U⟩
   simp only[Ty.enc,aS];exact⟨A,by rw[q];rfl,D,U⟩
  .rename_i m e w l I;rw[I]at o;obtain⟨xs,k,_,rfl,v,Y,K⟩:=DataW.trod_array o Z;have U:cs.length=w:=by rw[v,hT.sizeOf,<-hw];rfl
   have M:∀(m':Nat) (l:Ty) (i:Nat),za (λu=>iL E n e u) (P.cellsOf e) w m' l (i*P.cellsOf e)=ag->i+m'=m->
     ∃(y:l.den) (A:List (List Value)),bH (λp=>W.cell? p) (l.ec y) af A/\A.flatten=cs.drop (i*P.cellsOf e)/\(l.Ok y/\∀(N:Nat) (bk:DataW H->Nat),vz bk->(∀x∈xs,bk x.1<=N)->l.Sm N y):=by
    intro m';induction m' with
    |zero=>
     intro l i h1 _;cases l with
     |nl=>
      have:i*P.cellsOf e=w:=bU h1;exact⟨(),[],by simp[Ty.ec,bH],by rw[this,<-U];simp,trivial,λ_ _ _ _=>trivial⟩
     |_=>cases h1
    |succ m' ihm=>
     intro l i h1 h2;cases l with
     |cn a l=>
      simp only[za,aM]at h1;obtain⟨R,e3,e4⟩:=h1;have R:a.wd=P.cellsOf e:=bU R;have C:i< xs.length:=by omega
      have T:=K i (by omega)
      rw[gB C]at T;obtain⟨y,D,q,G⟩:=ih e a e3 _ _ _ T;obtain⟨ys,A,r4,r5,r6,r7⟩:=ihm l (i+1) (by rw[aiy];exact e4) (by omega)
      refine⟨(y,ys),((cs.drop (i*P.cellsOf e)).take (P.cellsOf e))::A,?_,?_,⟨q.1,r6⟩,λN bk J r=>⟨q.2 N bk J (r _ (g7 C)),r7 N bk J r⟩⟩
      .simp only[Ty.ec,bH];exact⟨_,_,rfl,D,r4⟩
      rw[pc,r5,aiy,<-rD,ah5]
     |_=>cases h1
   rw[aM]at h;obtain⟨_,h⟩:=h;split at h;case h_2=>cases h
   case h_1 te hte=>
    rw[<-(hE.ty e te hte).sizeOf]at h;obtain⟨y,A,D,q,G⟩:=M m l 0 (by rw[tr];exact h) (by omega)
    refine⟨y,?_,⟨G.1,λN bk J r=>G.2 N bk J λx Z=>bX (J.part (kj.2 ⟨x,Z,rfl⟩)) r⟩,U⟩
    simp only[Ty.enc,aS];rw[tr]at q;exact⟨A,by rw[q];rfl,D,U⟩
  trivial
theorem Wy(f:EnvTy P E){n t:Nat}{u:Ty}(h:iL E n t u=ag){v:Value}{d:DataW H}{p:List MemPlace}{r:Reach}{b0:Nat}(J:Gd P W r b0 t v)(i:ahd enc P W 0 sp held t v d p):
  ∃y:u.den,aS (λp=>W.cell? p) (u.enc y) ag [v]/\u.Ok y/\∀(N:Nat) (bk:DataW H->Nat),vz bk->bk d<=N->u.Sm N y:=by
 obtain⟨fuel,hf⟩:=i;obtain⟨y,g,j,x⟩:=awk f n t u h fuel _ _ hf;refine⟨y,?_,j⟩;cases n with
 |zero=>cases h
 |succ n=>
  unfold iL at h;split at h
  .cases h
  rename_i ti b;rw[aM]at h;have I:=(f.ty t ti b).kind;replace h:=h.2;split at h
  .rename_i A;rw[A]at I;obtain⟨_,rfl⟩:=okWide_bool I J;trivial
  .rename_i k z A;rw[A]at I;obtain⟨_,rfl⟩:=okWide_int I J;trivial
  .rename_i A;rw[A]at I;obtain⟨_,rfl⟩:=okWide_string I J;trivial
  .rename_i C a A;rw[A]at I;obtain⟨_,_,_,rfl⟩:=okWide_slice I J;trivial
  .rename_i fs w l A;rw[A]at I;obtain⟨Z,o,_⟩:=I;obtain⟨cs,rfl,_⟩:=okWide_struct o J;obtain⟨U,q,c,s⟩:=g;exact⟨cs,U,rfl,by trivial,c,by trivial⟩
  .rename_i m e w l A;rw[A]at I;obtain⟨cs,rfl,_⟩:∃cs,v=.agg cs/\cs.size=P.cellsOf t:=by
    unfold Gd at J;rw[show P.underlying t=ab (.array m e)from I]at J;grind
   obtain⟨U,q,c,s⟩:=g;exact⟨cs,U,rfl,by trivial,c,by trivial⟩
  trivial
theorem Wx(A:EnvTy P E){n t:Nat}{u:Ty}(h:iL E n t u=ag){v:Value}{d:DataW H}{p:List MemPlace}{r:Reach}{b0:Nat}(I:Gd P W r b0 t v)(J:ahd enc P W 0 sp held t v d p):
  ∃y:u.den,aS (λp=>W.cell? p) (u.enc y) ag [v]/\u.Ok y:=
 let⟨y,a,b,_⟩:=Wy A h I J
 ⟨y,a,b⟩
def qq(E:Env)(t:Nat):Prop:=∃n u,iL E n t u=ag
theorem Ww{ok:Nat->Ty->Bool}{w:Nat}{P:Program}:∀(fl:List Field) (l:Ty) (off:Nat),tN ok w (fl.map λf=>(f.offset,P.cellsOf f.type,f.type)) l off=ag->
  (∀f∈fl,∃a,ok f.type a=ag)/\w=off+(fl.map λf=>P.cellsOf f.type).sum/\∀(j:Nat) f,fl[j]? =ab f->f.offset=off+((fl.take j).map λf=>P.cellsOf f.type).sum
 |[],l,off,h=>by
  cases l<;>first|exact⟨by simp,by have:off=w:=bU h;simp[this],by simp⟩|cases h
 |f::fl,l,off,h=>by
  cases l with
  |cn a l=>
   simp only[mv,tN,aM]at h;obtain⟨A,I,Z,J⟩:=h;have A:=bU A;have I:=bU I;obtain⟨h1,h2,b⟩:=Ww fl l _ J;refine⟨λg U=>?_,by grind,λj g U=>?_⟩
   .grind
   cases j
   .grind
   grind
  |_=>cases h
theorem Wv{ok:Ty->Bool}{s w:Nat}:∀(m:Nat) (l:Ty) (off:Nat),za ok s w m l off=ag->w=off+m*s/\(0< m->∃a,ok a=ag)
 |0,l,off,h=>by
  cases l with
  |nl=>exact⟨by have:=bU h;omega,λh=>absurd h (Nat.lt_irrefl 0)⟩
  |_=>cases h
 |m+1,l,off,h=>by
  cases l with
  |cn a l=>
   simp[za,aM]at h;obtain⟨h1,_⟩:=Wv m l _ h.2.2;grind
  |_=>cases h
theorem qq.cases(Z:EnvTy P E){t:Nat}(h:qq E t):P.underlying t=ab .bool∨(∃k,P.underlying t=ab (.int k))∨P.underlying t=ab .string∨
  (∃e,P.underlying t=ab (.slice e)/\qq E e/\0< P.cellsOf e)∨
  (∃fs:Array Field,P.underlying t=ab (.struct fs)/\(∀f∈fs.toList,qq E f.type)/\P.cellsOf t=(fs.toList.map λf=>P.cellsOf f.type).sum/\∀(j:Nat) f,fs.toList[j]? =ab f->f.offset=((fs.toList.take j).map λf=>P.cellsOf f.type).sum)∨
  (∃m e,P.underlying t=ab (.array m e)/\qq E e/\P.cellsOf t=m*P.cellsOf e):=by
 obtain⟨n,u,h⟩:=h;have U:=NK Z h;cases n with
 |zero=>cases h
 |succ n=>
  unfold iL at h;split at h
  .cases h
  rename_i ti b;rw[aM]at h;have J:=(Z.ty t ti b).kind;replace h:=h.2;split at h
  .rename_i A;rw[A]at J;exact .inl J
  .rename_i k g A;rw[A]at J;exact .inr (.inl ⟨_,J⟩)
  .rename_i A;rw[A]at J;exact .inr (.inr (.inl J))
  .rename_i e a A;rw[A]at J;rw[aM]at h;exact .inr (.inr (.inr (.inl ⟨e,J,⟨n,a,h.2⟩,by rw[NK Z h.2];simp_all⟩)))
  .rename_i fs w l A;rw[A]at J;obtain⟨I,d,hf,_⟩:=J;rw[<-hf]at h;obtain⟨h1,h2,i⟩:=Ww I.toList l 0 h;refine .inr (.inr (.inr (.inr (.inl ⟨I,d,λf hf=>?_,?_,λj f o=>?_⟩))))
   .obtain ⟨a,c⟩:=h1 f hf;exact⟨n,a,c⟩
   .rw [U];show w=_;omega
   grind
  .rename_i m e w l A;rw[A]at J;rw[aM]at h;obtain⟨hm,h⟩:=h;split at h
   .rename_i te hte;obtain⟨h1,h2⟩:=Wv m l 0 h;obtain⟨a,c⟩:=h2 (jo hm);refine .inr (.inr (.inr (.inr (.inr ⟨m,e,J,⟨n,a,c⟩,?_⟩))));rw[U,(Z.ty e te hte).sizeOf];show w=_;omega
   trivial
  trivial
theorem arn(I:EnvTy P E):Kids P (qq E) where
 pointer:=λ{t e} h A=>by
  rcases h.cases I with q|⟨_,q⟩|q|⟨_,q,_⟩|⟨_,q,_⟩|⟨_,_,q,_⟩<;>rw[A]at q<;>cases q
 slice:=λ{t e} h A=>by
  rcases h.cases I with q|⟨_,q⟩|q|⟨_,q,h1,_⟩|⟨_,q,_⟩|⟨_,_,q,_⟩<;>rw[A]at q<;>cases q
  omega
 array:=λ{t e n} h A=>by
  rcases h.cases I with q|⟨_,q⟩|q|⟨_,q,_⟩|⟨_,q,_⟩|⟨_,_,q,h1,h2⟩<;>rw[A]at q<;>cases q
  trivial
 struct:=λ{t fs} h A=>by
  rcases h.cases I with q|⟨_,q⟩|q|⟨_,q,_⟩|⟨_,q,h1⟩|⟨_,_,q,_⟩<;>rw[A]at q<;>cases q
  omega
 map:=λ{t k e} h A=>by
  rcases h.cases I with q|⟨_,q⟩|q|⟨_,q,_⟩|⟨_,q,_⟩|⟨_,_,q,_⟩<;>rw[A]at q<;>cases q
theorem avA(A:EnvTy P E){t e:Nat}(h:qq E t)(I:P.underlying t=ab (.slice e)):0< P.cellsOf e:=by
 rcases h.cases A with q|⟨_,q⟩|q|⟨_,q,_,h1⟩|⟨_,q,_⟩|⟨_,_,q,_⟩<;>rw[I]at q<;>cases q
 omega
theorem agB(U:EnvTy P E){c:World}(f:Below W.heap.size W c){A:Nat->Bool}:∀{J:List TypeId} {vs:List Value} {ds:List (DataW H)} {ps:List MemPlace},(∀t∈J,qq E t)->
  BJ enc P W 0 (λ_=>ag) ag J vs ds ps->(∀b,b< W.heap.size->A b=ag)->BJ enc P c 0 A ag J vs ds ps
 |[],[],[],_,_,h,_=>h
 |t::J,v::vs,d::ds,_,g,⟨p,q,⟨n,h1⟩,h2,e⟩,i=>by
  refine⟨p,q,⟨n,?_⟩,agB U f (λt h=>g t (ff _ h)) h2 i,e⟩
  have I:=DataW.trod_lt _ _ _ _ h1;exact DataW.trod_stays (arn U) (λa b=>avA U a b) (λh=>by cases h) (g t (eA ..)) h1 (λx Z=>f.same (I x Z)) (λx Z=>i _ (I x Z))
theorem atz(y:EnvTy P E){f:Func}{s:ChangeSpec}{apart fresh A J:Bool}{a:World}{args:Array Value}{v:Value}{ds c:List (DataW H)}{before:List MemPlace}
  (n:ahf enc P f.params.toList s.vars af W args.toList ds c before) (i:apart=af) (o:s.vars=[]) (z:∀t∈f.params.toList,qq E t)
  (I:∀(b:Nat) (sp:Nat->Bool) (C:Bool),BJ enc P a b sp C f.resultTypes.toList (v.resultList f.resultTypes.size) (s.fn H (ds++c)).results [])
  (U:(s.fn H (ds++c)).args=ds) (Z:(s.fn H (ds++c)).vars=[])
  (k:Below W.heap.size W a)
  (l:∀(j:Nat) (t:TypeId) (r:Value),f.resultTypes[j]? =ab t->(v.resultList f.resultTypes.size)[j]? =ab r->Gd P a .any 0 t r):
  s.post enc P f apart fresh A J W args v a:=by
 subst i;have m:=n;obtain⟨p,q,h1,h2,e,D,_⟩:=n;rw[o]at h2;obtain⟨rfl,rfl⟩:c=[]/\q=[]:=by
  cases c
  .trivial
  cases h2
 rw[List.append_nil]at e;obtain rfl:p=before:=e.symm;have u:∀sp,(∀b,b< W.heap.size->sp b=ag)->BJ enc P a 0 sp ag f.params.toList args.toList (s.fn H (ds++[])).args p:=λsp G=>by
  rw[U];exact agB y k z h1 G
 have d:∀sp,ahe enc P a sp s.vars (s.fn H (ds++[])).vars []:=λsp=>by rw[o,Z];rfl
 refine⟨ds,[],p,[],p,[],m,I _ _ _,u _ (λb K=>by simpa using K),d _,k.frame _,λ_=>?_⟩
 refine⟨l,_,_,([]++p)++[],⟨[]++p,[],trodAll_append (u _ (λ_ _=>rfl)) (I _ _ _),d _,rfl,λb off hp=>?_,λh=>by cases h⟩,λx L _=>by simpa using L⟩
 have g:=by simpa using hp
 rw[k.frozen (h1.lt _ g)];exact D b off g
theorem akn{f:Nat}{ds:List D}(h:vu nr P f ds (.bool ag)){args:Array Value}(w:World)(A:Gh.G λp=>w.cell? p)(I:a8 (λd x=>aS (λp=>w.cell? p) d ag [x]) ds args.toList):
  Calls P f args w λe w'=>e=.returned (.bool ag)/\Below w.heap.size w w':=by
 refine callsIn_wide.1 (yh (h 1 (λp=>w.cell? p) w args ⟨λ_ _ e=>e,A⟩ I) λe w' q=>?_)
 cases e with
 |returned x=>
  obtain⟨C',_,_,U,_,J⟩:=q;simp[aS]at J;grind
 |_=>trivial
end
end
end Go.As
end
