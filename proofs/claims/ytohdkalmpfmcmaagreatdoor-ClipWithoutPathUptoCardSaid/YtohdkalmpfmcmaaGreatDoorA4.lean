/- A part of the proof. -/
import Derived.Test.YtohdkalmpfmcmaaGreatDoorA3
import Derived.ProofKit
import GoSem.ClaimGoes
import Derived.Deep.Slices
import Derived.ChangeStays
import Derived.ChangeOld
import Derived.Lib.SmallJoins
set_option linter.all false
open Array renaming getD_eq_getD_getElem?->ka,getElem?_setIfInBounds_self_of_lt->agX,replicate->qb
open Bool renaming and_eq_true->aM,false->af,true->ag
open Go.Builtin renaming append->ag6
open Go.Callee renaming builtin->ag8
open Go.CallsIn renaming mono->yk
open Go.Code renaming region->Ms,wpIn->BA
open Go.DataW renaming Trod->ag9,TrodAll->BB,TrodVars->aha,Whole->ahb,trod->ahc
open Go.Fence renaming wide->nj
open Go.Func renaming goes->UT
open Go.Ground renaming data->Mt,phase->UU
open Go.Lit renaming int->BE
open Go.Op renaming assign->Va
open Go.Oper renaming wpIn->My
open Go.Operand renaming const->Vd,tmp->n6
open Go.Region renaming wanted->th
open Go.Value renaming okWide->F8,slice->rD
open List renaming drop_drop->rF,flatten_cons->pa,getElem?_eq_getElem->gD,getElem_mem->gR,map_cons->mo,mem_append->cD,mem_cons->du,mem_cons_of_mem->ff,mem_cons_self->eh,mem_map->kl,range->vu,rec->bn,take_append_drop->ah2
open Nat renaming beq->al,ble->bu,ble_eq_true_of_le->km,blt->cQ,eq_of_beq_eq_true->bU,le_max_left->ah9,le_max_right->aia,le_of_ble_eq_true->jl,le_refl->aL,le_trans->b8,lt_or_ge->jH,rec->hG,succ_mul->aiv,zero_add->db,zero_le->bH,zero_mul->tw
open Option renaming bind_eq_some_iff->ay,bind_some->ah,isSome_iff_exists->aiy,none->ae,some->ab
open Option.some renaming inj->hH
noncomputable section
namespace Go.As
section
structure yI where
 id:Nat
 a:List D
 r:D
abbrev mz:=Tb (List yI)
def zE(i:Nat)(l:List yI)(ds:List D):Option D:=bn ae (λe _ ih=>bif cQ e.id i then(bif D.nc e.a ds then ab e.r else ih)else ih) l
def Env.ks(E:Env)(T:mz)(i:Nat):Env:={E with sm:=λf=>match T.find f with|some t=>ab (zE i t)|none=>ae}
def CJ(E:Env)(T:mz)(n f:Nat)(e:yI):Bool:=match WT (E.ks T e.id) n f e.a with|some r=>D.same r e.r|none=>af
def N3(E:Env)(T:mz)(n lo hi f:Nat)(l:List yI):Bool:=bn ag (λe _ ih=>bif(bif bu lo e.id then(bif cQ e.id hi then CJ E T n f e else ag)else ag)then ih else af) l
def chkR(E:Env)(T:mz)(n lo hi:Nat)(R:mz):Bool:=R.om (N3 E T n lo hi)
end
section
variable [Gh] {F:Fence} {P:Program} {E:Env}
theorem px(E:Env)(T:mz)(i f nt:Nat):∀c,codeOk (E.ks T i) f nt c=codeOk E f nt c
 |.seq a b=>by simp[codeOk,px E T i f nt a,px E T i f nt b]
 |.cond c a b=>by simp[codeOk,px E T i f nt a,px E T i f nt b]
 |.block _ b=>by simp[codeOk,px E T i f nt b]
 |.loop b=>by simp[codeOk,px E T i f nt b]
 |.scope b=>by simp[codeOk,px E T i f nt b]
 |.rangeFunc g ps a b=>by simp[codeOk,px E T i f nt a,px E T i f nt b]
 |.region id ops A|.skip|.label _|.exit _|.ret|.goto _|.refuse _=>rfl
abbrev yG(P:Program)(f:Nat):Prop:=∃fn c,P.funcs[f]? =some fn∧fn.body=some c∧(fn.name== "runtime.NumGoroutine")=false
def MT(F:Fence)(P:Program)(f:Nat)(a:List D)(r:D):Prop:=yG P f/\vD F P f a r
def Claim(F:Fence)(P:Program)(T:mz)(i:Nat):Prop:=∀f l,T.find f=ab l->∀e∈l,e.id< i->MT F P f e.a e.r
theorem Claim.zero(T:mz):Claim F P T 0:=λ_ _ _ _ _ h=>absurd h (Nat.not_lt_zero _)
theorem YD{i:Nat}:∀{l:List yI} {ds:List D} {r:D},zE i l ds=ab r->∃e∈l,e.id< i/\e.a=ds/\e.r=r
 |[],_,_,h=>by cases h
 |x::l,ds,r,h=>by
  have h:(bif cQ x.id i then(bif D.nc x.a ds then ab x.r else zE i l ds)else zE i l ds)=ab r:=h;have A:zE i l ds=ab r->∃e∈x::l,e.id< i/\e.a=ds/\e.r=r:=λh=>by
   obtain⟨e,h1,h2⟩:=YD h;grind
  cases I:cQ x.id i with
  |false=>grind
  |true=>
   rw[I]at h;cases J:D.nc x.a ds with
   |true=>
    rw[J]at h;exact⟨x,by simp,jl I,D.FA J,hH h⟩
   |false=>grind
theorem gF.ks(I:gF F P E){T:mz}{i:Nat}(h:Claim F P T i)(A:∀f t,T.find f=ab t->yG P f):gF F P (E.ks T i) where
 toEnvTy:={I.toEnvTy with}
 mixed:=I.mixed
 gh:=λf nt c=>by rw[px];exact I.gh f nt c
 fn:=λf fn e=>let⟨h1,h2,U⟩:=I.fn f fn e;⟨h1,h2,λc Z=>by rw[px];exact U c Z⟩
 ext:=I.ext
 clone:=I.clone
 sm:=λg S e=>by
  have e:(match T.find g with|some t=>ab (zE i t)|none=>ae)=ab S:=e
  split at e
  .rename_i t J;cases e;refine⟨A g t J,λds d a=>?_⟩
   obtain⟨e,h1,h2,rfl,rfl⟩:=YD a;exact(h g t J e h1 h2).2
  trivial
theorem W4{T:mz}{n lo hi f:Nat}:∀{l:List yI},N3 E T n lo hi f l=ag->∀e∈l,lo<=e.id->e.id< hi->CJ E T n f e=ag
 |[],_,e,he,_,_=>by cases he
 |x::l,h,e,he,h1,h2=>by
  have h:(bif(bif bu lo x.id then(bif cQ x.id hi then CJ E T n f x else ag)else ag)then N3 E T n lo hi f l else af)=ag:=h;cases A:(bif bu lo x.id then(bif cQ x.id hi then CJ E T n f x else ag)else ag)with
  |false=>grind
  |true=>
   rw[A]at h;rcases du.1 he with rfl|he
   .rw [km h1,ao,show cQ e.id hi=ag from km h2,ao]at A;omega
   .exact W4 h e he h1 h2
theorem Claim.more(d:gF F P E)(hF:dJ F){T:mz}{n lo hi:Nat}(h:Claim F P T lo)(A:∀f t,T.find f=ab t->yG P f)(g:chkR E T n lo hi T=ag):Claim F P T hi:=by
 have key:∀i,lo<=i->i<=hi->Claim F P T i:=by
  intro i;induction i with
  |zero=>grind
  |succ i ih=>
   intro h1 h2;rcases jH i lo with a|a
   .grind
   .have I:=ih a (by omega)
    intro f l U e he Z;rcases jH e.id i with b|b
    .exact I f l U e he b
    .have fm:e.id=i:=by omega
     have:=W4 ((fh.of g).find U) e he (by omega) (by omega)
     unfold CJ at this;split at this
     .rename_i r c;have j:=D.xS this;rw[fm]at c;have J:=d.ks I A;have:=CW (OP J hF n) J hF c;rw[j]at this;trivial
     trivial
 rcases jH hi lo with k|k
 .exact λf l U e he Z=>h f l U e he (by omega)
 grind
end
def lf{α:Type}(k:Nat)(v:α):Tb α:=.n k v .e .e
def Tb.rk{α:Type}(t:Tb α):List (Nat×α):=Tb.rec [] (λk v _ _ a b=>(k,v)::(a++b)) t
theorem fh.rk{α:Type}{p:Nat->α->Prop}:∀{t:Tb α},(∀x∈t.rk,p x.1 x.2)->fh p t
 |.e,_=>trivial
 |.n k v l r,h=>by
  have e:(Tb.n k v l r).rk=(k,v)::(l.rk++r.rk):=rfl;rw[e]at h;exact⟨h (k,v) (by simp),fh.rk λx A=>h x (by simp[A]),fh.rk λx A=>h x (by simp[A])⟩
theorem fh.maps{α:Type}{f:Nat->Option α}{t:Tb α}(h:t.rk.map (λx=>f x.1)=t.rk.map λx=>ab x.2):fh (λk v=>f k=ab v) t:=
 fh.rk λ_ A=>(List.map_inj_left.1 h) _ A
def dL(n:Nat):List (Nat×List Nat):=(hG (λ_=>[]) (λ_ ih n=>bif bu n 1 then[]else(n%10,[])::ih (n/10)) 200:Nat->List (Nat×List Nat)) n
def D.p(n:Nat):D:=.int .i64 (.ofNat n)
def D.q(n:Nat):D:=.int .i64 (.negSucc n)
def D.u(n:Nat):D:=.an [.int .u32 (.ofNat n)]
def D.v(a b:Nat):D:=.agg 2 [.p a,.p b]
def V.z:V:=.im (.p 0)
def V.y:V:=.im (.int .u8 (.ofNat 0))
open Go.RowKit (Below)
section
variable [Gh]
section
variable {F:Fence} {P:Program} {B:Nat} {X:Cx} {O:Nat->Addr->Prop} {w:World} {h:Heap} {E:Env}
def W9(T:Nat):Array Oper:=#[{dst:=some 2,op:=Va (Vd (rD none 0 0)),type:=T,pos:= "slices.go:355",after:=#[],guard:=none}]
def Hl(T A:Nat):Array Oper:=#[{dst:=some 3,op:=Op.move (n6 0),type:=T,pos:= "slices.go:357",after:=#[],guard:=none},
 {dst:=some 4,op:=Op.binOp BinOp.eql T (n6 3) (Vd (rD none 0 0)) T,type:=A,pos:= "slices.go:357",after:=#[{on:=0,ground:=Mt}],guard:=none}]
def Xa(T:Nat):Array Oper:=#[{dst:=some 2,op:=Va (Vd (rD none 0 0)),type:=T,pos:= "slices.go:358",after:=#[],guard:=none}]
def Xb(T:Nat):Array Oper:=#[{dst:=some 5,op:=Op.buildSlice T 0 #[],type:=T,pos:= "slices.go:362",after:=#[],guard:=none},
 {dst:=some 6,op:=Op.move (n6 0),type:=T,pos:= "slices.go:362",after:=#[],guard:=none},
 {dst:=some 7,op:=Op.call {callee:=ag8 ag6,args:=#[n6 5,n6 6],argTypes:=#[T,T]},type:=T,pos:= "slices.go:362",
  after:=#[{on:=0,ground:=Mt},{on:=1,ground:=Mt}],guard:=ae},
 {dst:=some 2,op:=Va (n6 7),type:=T,pos:= "slices.go:362",
  after:=#[{on:=2,ground:=Mt},{on:=2,ground:=Ground.chain},{on:=0,ground:=UU},{on:=1,ground:=UU},{on:=2,ground:=UU}],guard:=ae}]
def N9(T A:Nat):Code:=
 (Ms 0 (W9 T) af).seq (((Ms 1 (Hl T A) af).seq (Code.cond (n6 4) ((Ms 2 (Xa T) af).seq Code.ret) Code.skip)).seq ((Ms 3 (Xb T) af).seq Code.ret))
theorem J8(c:EnvTy P E)(hF:dJ F){ops:Array Oper}{o:Oper}{nt n:Nat}{a:Act}{st:St}(s:SR nt B X O w a st)(d:o.guard=ae)(g:uH o=ag)(I:sB nt o=ag){aC:Nat}{v:V}{h':Heap}(i:ar st.h aC=ae)(j:X.M aC=ae)(J:aC<=st.h.length)
  (e:di E af aC st.t st.h o.op=ab (v,h')) {K:Act->World->Prop} {Q:Exit->Act->World->Prop} (k:∀X' O' w' Z,SR nt B X' O' w' Z ⟨putDst st.t o.dst v,h',st.lp,st.df⟩->Step B X O w st.h X' O' w' h'->K Z w'):
  if th o (yielded ops a.tmps)=ag then o.wpIn F n P a w K Q else(∀f,o.about P w a.eval=ab f->F.fn f)/\K (a.put o.dst undef) w:=by
 obtain⟨U,l⟩:=RU I;have hw:th o (yielded ops a.tmps)=ag:=by simp[th,d]
 rw[aK hw];refine⟨λf _=>hF.fn f,?_⟩
 rw[Aq g];obtain⟨x,m,p,q,A,r,u,b⟩:=FK c s.h i j J s.t l e;rcases A with A|⟨A,rfl⟩<;>rw[A]<;>exact k p q m _ ((s.step r b).put U u) b
theorem alA{T el:Nat}(A:P.underlying T=ab (.slice el))(b:Option Addr)(n c:Nat):(do eqGuard .eql T (.tmp 3) (.const (.slice ae 0 0)) (.slice b n c) (.slice ae 0 0);binOp .eql T (.slice b n c) (.slice ae 0 0):Sem Value).run P w=.ok (.bool b.isNone) w:=by
 have h1:(eqGuard .eql T (.tmp 3) (.const (.slice ae 0 0)) (.slice b n c) (.slice ae 0 0)).run P w=.ok () w:=by rfl
 have h2:(Op.equal T (.slice b n c) (.slice ae 0 0)).run P w=.ok b.isNone w:=by
  unfold Op.equal;rw[show Op.maxDepth=9999+1 from rfl];unfold Op.equalIn;cases b<;>simp[run_underlying A]
 simp[h1,binOp,h2]
theorem am8(h:Heap){n:Nat}(a b:cj)(I:n<=h.length):aI (aI h n a) n b=aI h n b:=by
 have h1:=b9 h n a;have h2:=b9 h n b;have J:=b9 (aI h n a) n b;have A:n<(aI h n a).length:=by grind
 rw[aK A]at J;refine It (by omega) λi=>?_
 rw[bR _ n i b (by omega),bR h n i b I,bR h n i a I]
 split<;>rfl
theorem ak2{x:V}{l:List D}{aC:Nat}{k:cj}(A:x.pz h=ab l)(c:ar h aC=ae)(I:aC<=h.length):x.pz (aI h aC k)=ab l/\nL (aI h aC k) x=af:=by
 unfold V.pz at A;split at A
 .trivial
 .trivial
 .rename_i b g off len aP;split at A
  .rename_i Z s ro a d;have J:b≠aC:=λe=>by grind
   have U:ar (aI h aC k) b=ab (.arr Z s ro a):=by rw[bR h aC b k I,ax J];omega
   simp[V.pz,U,A,nL]
  trivial
 trivial
theorem akB(R:EnvTy P E)(hF:dJ F){g T Y el:Nat}{fn:Func}{ti te:TI}(hf:P.funcs[g]? =some fn)(hb:fn.body=some (N9 T Y))(s:(fn.name== "runtime.NumGoroutine")=false)(hnt:fn.ntmps=8)(P0:fn.results=#[.tmp 2])
  (hT:E.ty T=ab ti) (c:ti.k=.an el) (u:E.ty el=ab te) (n:Nat) (hr:HR B X O w h) (xs:List V) (args:Array Value) (ha:a8 (λv x=>aq X v ag [x]) xs args.toList)
  (aC:Nat) (hn:ar h aC=ae) (hM:X.M aC=ae) (J:aC<=h.length) (v:V) (h':Heap) (e:zo E aC el xs h=ab (v,h')):fR F n P B X O w h (callFunc g args) v h':=by
 have hTu:P.underlying T=ab (.slice el):=by have:=(R.ty T ti hT).kind;rw[c]at this;trivial
 unfold zo at e;split at e
 .rename_i x;rw[u,ah]at e;obtain⟨l,hl,e⟩:=ay.1 e;obtain⟨hc,e⟩:=aU e;cases e;simp only[aM]at hc;obtain⟨⟨hz,C⟩,hfw,G⟩:=hc;obtain⟨vx,r,ea,rx,rr⟩:=ha;cases rr;have ams:args=#[vx]:=by apply Array.toList_inj.1;rw[ea]
  subst ams;refine .inr ⟨g,#[vx],rZ hf hb s _,?_⟩;refine callsIn_of_wp hf hb (hF.fn g) ?_ hF.round;obtain⟨A,Z,a,e1,e2,e3,e4,e5⟩:=Xz hr hl rx;subst e1;have s0:SR 8 B X O w {tmps:=#[rD A Z a]++qb (fn.ntmps-1) undef,defers:=[]} ⟨jd 8 [x],h,[],[]⟩:=by
   have:=T2 hr (l:=[x]) (args:=#[rD A Z a]) (a8.cons rx a8.nil) (nt:=8) rfl;rw[hnt];exact this
  show(N9 T Y).wpIn F n P (bodyPost P fn _) {tmps:=#[rD A Z a]++qb (fn.ntmps-1) undef,defers:=[]} w;have m:({tmps:=#[rD A Z a]++qb (fn.ntmps-1) undef,defers:=[]}:Act).tmps.getD 0 undef=.slice A Z a:=by
   show(#[rD A Z a]++qb (fn.ntmps-1) undef).getD 0 undef=_;rw[ka,Array.getElem?_append_left (by simp)];rfl
  have ank:({tmps:=#[rD A Z a]++qb (fn.ntmps-1) undef,defers:=[]}:Act).tmps.size=8:=s0.n;generalize({tmps:=#[rD A Z a]++qb (fn.ntmps-1) undef,defers:=[]}:Act)=a0 at s0 m ank|-;have b:aq X (.full []) ag [.slice ae 0 0]:=by simp only[aq];exact⟨_,rfl,ae,0,rfl,rfl,bH _,.inl rfl⟩
  have o:∀{X1:Cx} {O1:Nat->Addr->Prop} {w1:World} {I:Act} {st:St},SR 8 B X1 O1 w1 I st->st.df=[]->
    (∀y,aq X1 (st.t.get 2) ag [y]->∃X2 O2,HR B X2 O2 w1 (aI h aC (.arr 1 te.size 0 l))/\aq X2 (.own aC 1 0 (aF l) af) ag [y]/\Step B X O w h X2 O2 w1 (aI h aC (.arr 1 te.size 0 l)))->
    bodyPost P fn (λe w'=>match e with|.returned x=>tz B X O w h (.own aC 1 0 (aF l) af) (aI h aC (.arr 1 te.size 0 l)) x w'|_=>False) .ret I w1:=λ{X1 O1 w1 I st} K wx hk=>by
   have had:I.defers=[]:=DF.D8 (by have:=K.df;rw[wx]at this;exact this)
   obtain⟨y,hy1,hy2⟩:=Lj R K.h K.t (fn:=fn) (v:=st.t.get 2) (by unfold me;rw[P0];rfl)
   obtain⟨X2,O2,q1,q2,q3⟩:=hk _ hy2;exact⟨had,y,hy1,X2,O2,q1,q2,q3⟩
  refine wpIn_seq (wpIn_region ?_);show wpOpsIn F n P (W9 T) _ [0] a0 w;refine(show My F n P _ a0 w _ _ from ?_);refine⟨λf _=>hF.fn f,?_⟩
  rw[Aq (by rfl)]
  have K:=s0.put (dst:=some 2) (λd L=>by cases L;decide) b
  show BA F n P _ _ (a0.put (ab 2) (.slice ae 0 0)) w;generalize Pp:a0.put (ab 2) (.slice ae 0 0)=I at K|-;have p:I.tmps.getD 0 undef=.slice A Z a:=by
   rw[<-Pp];show(a0.tmps.setIfInBounds 2 (.slice ae 0 0)).getD 0 undef=_;rw[ka,Array.getElem?_setIfInBounds,ax (by decide),<-ka]
   exact m
  refine wpIn_seq (wpIn_seq (wpIn_region ?_));show wpOpsIn F n P (Hl T Y) _ [0,1] I w;refine(show My F n P _ I w _ _ from ?_);refine⟨λf _=>hF.fn f,?_⟩
  rw[Aq (by rfl)]
  have hmv:aq X x ag [I.eval (.tmp 0)]:=by
   show aq X x ag [I.tmps.getD 0 undef];rw[p];exact rx
  have s2:=K.put (dst:=some 3) (λd L=>by cases L;decide) hmv
  show wpOpsIn F n P (Hl T Y) _ [1] (I.put (ab 3) (I.eval (.tmp 0))) w;generalize Pq:I.put (ab 3) (I.eval (.tmp 0))=i at s2|-;have amD:i.eval (.tmp 3)=.slice A Z a:=by
   rw[<-Pq];show(I.tmps.setIfInBounds 3 (I.tmps.getD 0 undef)).getD 3 undef=_;have hs:3< I.tmps.size:=by have:=K.n;omega
   rw[p,ka,agX hs];rfl
  refine(show My F n P _ i w _ _ from ?_);refine⟨λf _=>hF.fn f,?_⟩
  rw[Aq (by rfl)]
  have Dz:(execOp i.eval ((Hl T Y)[1]'(by show 1< 2;decide))).run P w=.ok (.value (.bool A.isNone)) w:=by
   show(do pure (Next.value (<-(do eqGuard .eql T (.tmp 3) (.const (.slice ae 0 0)) (i.eval (.tmp 3)) (.slice ae 0 0);binOp .eql T (i.eval (.tmp 3)) (.slice ae 0 0)))):Sem Next).run P w=_;rw[amD];rw[Sem.run_bind,alA (w:=w) hTu A Z a];rfl
  rw[Dz];have s3:=s2.put (dst:=some 4) (λd L=>by cases L;decide) (v:=.im (.bool A.isNone)) (x:=.bool A.isNone) (by simp[aq,aR])
  show BA F n P _ _ (i.put (ab 4) (.bool A.isNone)) w;generalize ha3:i.put (ab 4) (.bool A.isNone)=N at s3|-;have amE:N.eval (.tmp 4)=.bool A.isNone:=by
   rw[<-ha3];show(i.tmps.setIfInBounds 4 _).getD 4 undef=_;have hs:4< i.tmps.size:=by have:=s2.n;omega
   rw[ka,agX hs];rfl
  refine wpIn_cond amE ?_;cases A with
  |none=>
   have hnx:Z=0:=by
    rcases e5 with e5|⟨a0',_,_,q,_⟩
    .exact e5
    cases q
   have PM:l=[]:=List.eq_nil_of_length_eq_zero (by omega)
   subst PM;show BA F n P _ _ N w;refine wpIn_seq (wpIn_region ?_);show wpOpsIn F n P (Xa T) _ [0] N w;refine(show My F n P _ N w _ _ from ?_);refine⟨λf _=>hF.fn f,?_⟩
   rw[Aq (by rfl)]
   have S:=s3.put (dst:=some 2) (λd L=>by cases L;decide) b
   show BA F n P _ _ (N.put (ab 2) (.slice ae 0 0)) w;refine wpIn_ret ?_;refine o S rfl λy j=>?_
   have PC:(putDst (putDst (putDst (putDst (jd 8 [x]) (ab 2) (.full [])) (ab 3) x) (ab 4) (.im (.bool (ae:Option Addr).isNone))) (ab 2) (.full [])).get 2=.full []:=rfl;have j:aq X (.full []) ag [y]:=by rw[<-PC];exact j
   simp only[aq]at j;obtain⟨y',ey,ya,yn,y1,y2,_,_⟩:=j;cases ey;subst y1;have yn0:yn=0:=y2;subst yn0;let bi:BI:=⟨1,ya,te.size,0,af⟩;have Pv:BR (X.eg aC bi) w (λ_=>False) aC (.arr 1 te.size 0 []):=⟨bi,Cx.fN _ _ _,rfl,rfl,⟨aL _,aL _⟩,bH _,.inl rfl⟩
   refine⟨X.eg aC bi,_,hr.add hn hM J (.refl w) (aL _) bi (λ_=>False) _ (λ_ h=>h.elim) Pv,?_,⟨Up.add hM (.refl _ _) (.refl w) _ bi,by rw[b9];split<;>omega,.add hM J (.refl w) bi _ _⟩⟩
   simp only[aq];exact⟨_,rfl,⟨ya,0,rfl,aL _,by decide,.inl rfl⟩,bi,Cx.fN _ _ _,aL _,λ_=>⟨ya,0,rfl,aL _,by decide,aL _,(λh=>by cases h),.inl rfl⟩⟩
  |some U=>
   show BA F n P _ _ N w;refine wpIn_skip ?_;refine wpIn_seq (wpIn_region ?_);show wpOpsIn F n P (Xb T) _ [0,1,2,3] N w;simp only[wpOpsIn];have hbs:di E af aC (putDst (putDst (putDst (jd 8 [x]) (ab 2) (.full [])) (ab 3) x) (ab 4) (.im (.bool (ab U:Option Addr).isNone))) h (.buildSlice T 0 #[])=ab (.own aC 0 0 0 af,aI h aC (.arr 0 te.size 0 [])):=by
    show mf E af aC h T 0 []=_;unfold mf;rw[hT,ah,c];simp only[u,ah];unfold Mm at C;split at C<;>try trivial
    rename_i z hz2;rw[hz2];simp only[ah,C,Bool.not_true,au];simp[lj,gH,ja,close,jz];rfl
   refine J8 R hF s3 rfl rfl rfl hn hM J hbs λX4 O4 w4 a4 S p4=>?_
   have S:SR 8 B X4 O4 w4 a4 ⟨putDst (putDst (putDst (putDst (jd 8 [x]) (ab 2) (.full [])) (ab 3) x) (ab 4) (.im (.bool (ab U:Option Addr).isNone))) (ab 5) (.own aC 0 0 0 af),aI h aC (.arr 0 te.size 0 []),[],[]⟩:=S;refine J8 (aC:=(aI h aC (.arr 0 te.size 0 [])).length) R hF S rfl rfl rfl (pO rfl) (oL S.h) (aL _) (v:=x) (h':=aI h aC (.arr 0 te.size 0 [])) rfl λX5 O5 w5 a5 s5 p5=>?_
   have s5:SR 8 B X5 O5 w5 a5 ⟨putDst (putDst (putDst (putDst (putDst (jd 8 [x]) (ab 2) (.full [])) (ab 3) x) (ab 4) (.im (.bool (ab U:Option Addr).isNone))) (ab 5) (.own aC 0 0 0 af)) (ab 6) x,aI h aC (.arr 0 te.size 0 []),[],[]⟩:=s5;have Zd:=ak2 (k:=.arr 0 te.size 0 []) hl hn J;have Pr:hU E (aI h aC (.arr 0 te.size 0 [])).length .append #[T,T] [.own aC 0 0 0 af,x] (aI h aC (.arr 0 te.size 0 []))=ab (.own aC 1 0 (0+aF l) af,aI (aI h aC (.arr 0 te.size 0 [])) aC (.arr 1 te.size 0 ([]++l))):=by
    have PB:ar (aI h aC (.arr 0 te.size 0 [])) aC=ab (.arr 0 te.size 0 []):=by rw[bR h aC aC _ J,aK rfl]
    show tT E _ #[T,T] (.own aC 0 0 0 af) x _=_;unfold tT;show((E.ty T).bind _)=_;rw[hT,ah,c];simp only[u,ah];show(Option.bind (ab T) _)=_;rw[ah,hz,ao];have Zv:E.kind T=ab (.an el):=by unfold Env.kind;rw[hT];simp[c]
    unfold qx;rw[Zv];have amO:nL (aI h aC (.arr 0 te.size 0 [])) (.own aC 0 0 0 af)=af:=by unfold nL;simp only[PB]
    simp only[wQ,au,amO,Zd.2,Bool.or_self];have amY:xg E te T x (aI h aC (.arr 0 te.size 0 []))=ab l:=by
     unfold xg;rw[Zv];have wD:(x.pz (aI h aC (.arr 0 te.size 0 []))).bind (λl=>bif js te.size l then ab l else ae)=ab l:=by
      rw[Zd.1,ah,hfw,ao]
     cases x<;>exact wD
    rw[amY,ah];unfold Cq;simp only[PB,au];have Py:fx 0 0 0 0 ([]:List D)=ag:=rfl;rw[Py];have hrm:room (0+aF l) te.bytes=ag:=by rw[db];exact G
    simp only[Nat.beq_refl,hrm,Bool.and_self,km (aL 0),ao];rfl
   have Q:di E af (aI h aC (.arr 0 te.size 0 [])).length (putDst (putDst (putDst (putDst (putDst (jd 8 [x]) (ab 2) (.full [])) (ab 3) x) (ab 4) (.im (.bool (ab U:Option Addr).isNone))) (ab 5) (.own aC 0 0 0 af)) (ab 6) x) (aI h aC (.arr 0 te.size 0 []))
     (.call {callee:=ag8 ag6,args:=#[n6 5,n6 6],argTypes:=#[T,T]})=ab (.own aC 1 0 (0+aF l) af,aI (aI h aC (.arr 0 te.size 0 [])) aC (.arr 1 te.size 0 ([]++l))):=by
    have amF:dk (putDst (putDst (putDst (putDst (putDst (jd 8 [x]) (ab 2) (.full [])) (ab 3) x) (ab 4) (.im (.bool (ab U:Option Addr).isNone))) (ab 5) (.own aC 0 0 0 af)) (ab 6) x) #[n6 5,n6 6]=[.own aC 0 0 0 af,x]:=rfl;show hU E _ .append #[T,T] (dk _ #[n6 5,n6 6]) _=_;rw[amF];exact Pr
   refine J8 (aC:=(aI h aC (.arr 0 te.size 0 [])).length) R hF s5 rfl rfl rfl (pO rfl) (oL s5.h) (aL _) Q λX6 O6 w6 a6 s6 p6=>?_
   have s6:SR 8 B X6 O6 w6 a6 ⟨putDst (putDst (putDst (putDst (putDst (putDst (jd 8 [x]) (ab 2) (.full [])) (ab 3) x) (ab 4) (.im (.bool (ab U:Option Addr).isNone))) (ab 5) (.own aC 0 0 0 af)) (ab 6) x) (ab 7) (.own aC 1 0 (0+aF l) af),aI (aI h aC (.arr 0 te.size 0 [])) aC (.arr 1 te.size 0 ([]++l)),[],[]⟩:=s6;refine J8 (aC:=(aI (aI h aC (.arr 0 te.size 0 [])) aC (.arr 1 te.size 0 ([]++l))).length) R hF s6 rfl rfl rfl (pO rfl) (oL s6.h) (aL _) (v:=.own aC 1 0 (0+aF l) af) (h':=aI (aI h aC (.arr 0 te.size 0 [])) aC (.arr 1 te.size 0 ([]++l))) rfl λX7 O7 w7 a7 s7 p7=>?_
   show BA F n P _ _ a7 w7;refine wpIn_ret ?_;refine o s7 rfl λy j=>?_
   have j:aq X7 (.own aC 1 0 (0+aF l) af) ag [y]:=j;rw[db]at j;have hh:aI (aI h aC (.arr 0 te.size 0 [])) aC (.arr 1 te.size 0 ([]++l))=aI h aC (.arr 1 te.size 0 l):=by rw[am8 h _ _ J];rfl
   have s7h:=s7.h;have st:=((p4.trans p5).trans p6).trans p7;simp only[hh]at s7h st;exact⟨X7,O7,s7h,j,st⟩
 trivial
end
def acC(P:Program)(u:Nat):Bool:=match P.underlying u with|some (.pointer _)=>af|some _=>ag|none=>af
theorem axs{P:Program}{u:Nat}(h:acC P u=ag):∃d,P.underlying u=ab d/\∀e,d≠.pointer e:=by
 unfold acC at h
 split at h
 .cases h
 .rename_i d A I
  exact⟨d,I,λe q=>A e q⟩
 .cases h
def yH(P:Program)(E:Env)(g el:Nat):Prop:=
 ∃fn T A,P.funcs[g]? =some fn∧fn.body=some (N9 T A)∧(fn.name== "runtime.NumGoroutine")=false∧fn.ntmps=8∧fn.results=#[.tmp 2]∧
  (match E.ty T with|some ti=>(match ti.k with|.an e=>bif al e el then(E.ty el).isSome else af|_=>af)|none=>af)=ag
theorem yH.sound{F:Fence}{P:Program}{E:Env}{g el:Nat}(U:EnvTy P E)(hF:dJ F)(h:yH P E g el):∀(n B:Nat) (X:Cx) (O:Nat->Addr->Prop) (w:World) (h:Heap),HR B X O w h->∀(xs:List V) (args:Array Value),a8 (λv x=>aq X v ag [x]) xs args.toList->
  ∀aC,ar h aC=ae->X.M aC=ae->aC<=h.length->∀v h',zo E aC el xs h=ab (v,h')->fR F n P B X O w h (callFunc g args) v h':=by
 obtain⟨fn,T,k,h1,h2,Z,a,b,A⟩:=h
 split at A
 .rename_i ti I
  split at A
  .rename_i e he
   cases J:al e el with
   |false=>rw[J,au]at A;cases A
   |true=>
    rw[J,ao]at A
    have:=dU J
    subst this
    obtain⟨te,hte⟩:=aiy.1 A
    intro n B X O w h c xs args d aC f i j v h' e
    exact akB U hF h1 h2 Z a b I he hte n c xs args d aC f i j v h' e
  .cases A
 .cases A
abbrev Ai(ty:Tb TI)(fn:Tb Func)(cl:Tb Nat)(inl keep:Nat->Bool)(dr:Nat->Nat->Option (List (Nat×List Nat)))(ex:Tb Nat)(A:Nat->Nat->Option (Nat×Nat)):Env:=
 ⟨ty.find,fn.find,λ_=>ae,cl.find,λg=>(ex.find g).getD 0,inl,keep,dr,A⟩
def Gr(F:Fence)(P:Program)(g x:Nat):Prop:=∀(n B:Nat) (X:Cx) (O:Nat->Addr->Prop) (w:World) (h:Heap),HR B X O w h->∀(xs:List V) (args:Array Value),a8 (λv x=>aq X v ag [x]) xs args.toList->∀v h',ld x xs h=ab (v,h')->fR F n P B X O w h (callFunc g args) v h'
theorem als{F:Fence}{P:Program}(hF:dJ F){ty:Tb TI}{fn:Tb Func}{cl:Tb Nat}{inl keep:Nat->Bool}{dr:Nat->Nat->Option (List (Nat×List Nat))}{ex:Tb Nat}{I:Nat->Nat->Option (Nat×Nat)}
  (h1:ty.om (LX P)=ag) (a:cQ 12 P.depth=ag) (hm:P.follows .mixedOrders=ag)
  (J:∀f nt c,Gh.K f nt c↔(codeOk (Ai ty fn cl inl keep dr ex I) f nt c=ag/\gY c=ag))
  (hf:fh (λf A=>P.funcs[f]? =ab A) fn) (U:fn.om (Df (Ai ty fn cl inl keep dr ex I))=ag)
  (Z:fh (yH P (Ai ty fn cl inl keep dr ex I)) cl) (b:fh (Gr F P) ex):gF F P (Ai ty fn cl inl keep dr ex I):=
 have hB:EnvTy P (Ai ty fn cl inl keep dr ex I):={
  ty:=λt ti e=>awk ((fh.of h1).find e)
  depth:=jl a}
 {toEnvTy:=hB
  mixed:=hm
  gh:=J
  fn:=λf A e=>by
   have e:fn.find f=ab A:=e
   obtain⟨d,i⟩:=YL ((fh.of U).find e)
   exact⟨hf.find e,d,i⟩
  sm:=λg S e=>by cases e
  ext:=λg e=>by
   have e:(ex.find g).getD 0≠0:=e
   show Gr F P g ((ex.find g).getD 0)
   cases J:ex.find g with
   |none=>rw[J]at e;exact absurd rfl e
   |some x=>exact b.find J
  clone:=λg el e=>(Z.find e).sound hB hF}
theorem ajS{P:Program}{E:Env}{T:mz}{fn:Tb Func}(hf:fh (λf A=>P.funcs[f]? =ab A) fn)(J:fn.om (Df E)=ag)(h:T.om (λf _=>match fn.find f with|some fn=>fn.body.isSome|none=>af)=ag):
  ∀f t,T.find f=ab t->yG P f:=λf t e=>by
 have h:=(fh.of h).find e
 split at h
 .rename_i A I
  obtain⟨c,U⟩:=aiy.1 h
  exact⟨A,c,hf.find I,U,(YL ((fh.of J).find I)).1⟩
 .cases h
end
section
open Go.ChangeShapes Go.WideShapes
variable [Gh]
variable {P:Program}
theorem vb{k:IntKind}{n:Int}(h:(BE k n).wf=ag):dz k n:=by
 simp[Lit.wf,aM]at h;exact h
theorem axy{C:IV}{k:IntKind}{n:Int}{m:Bool}(h:(BE k n).wf=ag):aR C (.int k n) m [.int k n]:=by
 refine⟨?_,vb h⟩;trivial
theorem axx{C:IV}{A k1 k2 I:IntKind}{J U Z a:Int}(b:(BE A J).wf=ag)(c:(BE k1 U).wf=ag)(d:(BE k2 Z).wf=ag)(e:(BE I a).wf=ag):
  aR C (.agg 4 [.int A J,.int k1 U,.int k2 Z,.int I a]) ag [.agg #[.int A J,.int k1 U,.int k2 Z,.int I a]]:=by
 exact⟨_,[[.int A J],[.int k1 U],[.int k2 Z],[.int I a]],rfl,rfl,⟨_,_,rfl,⟨rfl,vb b⟩,_,_,rfl,⟨rfl,vb c⟩,_,_,rfl,⟨rfl,vb d⟩,_,_,rfl,⟨rfl,vb e⟩,rfl⟩,rfl⟩
theorem aw1{f:Nat}{ds:List D}(h:vD nj P f ds (.bool ag)){args:Array Value} w{C:IV}(A:CI C w)(I:a8 (λd x=>aR C d ag [x]) ds args.toList):
  Calls P f args w λe w'=>e=.returned (.bool ag)/\Below w.heap.size w w':=by
 refine callsIn_wide.1 (yk (h 1 C w _ A I) λe w' q=>?_)
 grind[aR]
theorem axv{H:Type}{enc:TypeId×Value->H}{f:Func}{s:ChangeSpec}{apart fresh A Z:Bool}{W a:World}{args:Array Value}{v:Value}{ds c:List (DataW H)}
  (e:ahb enc P f.params.toList s.vars apart W args.toList ds c [])
  (U:∀b sp g,BB enc P a b sp g f.resultTypes.toList (v.resultList f.resultTypes.size) (s.fn H (ds++c)).results [])
  (I:∀sp,BB enc P a 0 sp ag f.params.toList args.toList (s.fn H (ds++c)).args [])
  (J:∀sp,aha enc P a sp s.vars (s.fn H (ds++c)).vars [])
  (i:Below W.heap.size W a)
  (d:∀(j:Nat) t r,f.resultTypes[j]? =ab t->(v.resultList f.resultTypes.size)[j]? =ab r->F8 P a .any 0 t r):
  s.post enc P f apart fresh A Z W args v a:=by
 refine⟨ds,c,[],[],[],[],e,U _ _ _,I _,J _,i.frame _,λ_=>?_⟩
 exact⟨d,_,_,[]++[]++[],⟨[]++[],[],trodAll_append (I _) (U _ _ _),J _,rfl,λb off hp=>by trivial,λ_=>by simp⟩,λp hp _=>by trivial⟩
theorem goesBy_none{c:OpenClaim}(I:c.start=.entering)(h:P.funcs.toList.any UT=af):af=c.goesBy P:=by
 have h2:P.funcs.any UT=af:=by grind
 have A:∀g:Nat,P.funcs[g]?.any UT=af:=λg=>by
  grind
 have hf:∀f,P.goes f=af:=λf=>by
  simp[Program.goes,A,h2]
 unfold OpenClaim.goesBy Program.goesAt Program.goesFrom;cases P.funcNamed _<;>first|grind|rfl
end
section
abbrev IH:=Nat->Nat->Nat->Code->St->Option (Ex×St)
structure Ask where
 f:Nat
 fb:Nat
 cur:Nat
 c:Code
 st:St
 r:Ex×St
def Holds(S:List Ask)(ih:IH):Prop:=∀p∈S,ih p.f p.fb p.cur p.c p.st=ab p.r
def aa{α:Type}(c:IH->Option α):Prop:=∀ih r,c ih=ab r->∃S,Holds S ih/\∀A,Holds S A->c A=ab r
theorem aa.const{α:Type}(o:Option α):aa (λ_=>o):=λ_ _ h=>⟨[],(λ_ h=>by cases h),λ_ _=>h⟩
theorem aa.ask(f fb cur:Nat)(c:Code)(st:St):aa (λih=>ih f fb cur c st):=λih r h=>
 ⟨[⟨f,fb,cur,c,st,r⟩],(λp hp=>by grind),λA h'=>h' _ (List.mem_singleton.2 rfl)⟩
theorem aa.bind{α β:Type}{c:IH->Option α}{k:α->IH->Option β}(I:aa c)(J:∀x,aa (k x)):aa (λih=>(c ih).bind λx=>k x ih):=λih r h=>by
 obtain⟨x,h1,h2⟩:=ay.1 h;obtain⟨S,U,Z⟩:=I ih x h1;obtain⟨T,t1,t2⟩:=J x ih r h2;refine⟨S++T,λp hp=>?_,λA h'=>?_⟩
 .rcases cD.1 hp with hp|hp
  .exact U p hp
  exact t1 p hp
 show(c A).bind _=_;rw[Z A λp hp=>h' p (cD.2 (.inl hp))]
 exact t2 A λp hp=>h' p (cD.2 (.inr hp))
theorem aa.of{α:Type}{c d:IH->Option α}(h:aa d)(e:∀ih,c ih=d ih):aa c:=by
 simp[funext e,h]
theorem aa.nP{α β:Type}{c:IH->Option α}{F:IH->Option β}(A:aa c)(k:α->IH->Option β)(I:∀x,aa (k x))(J:∀ih,c ih=ae->F ih=ae)(U:∀ih x,c ih=ab x->F ih=k x ih):aa F:=
 (A.bind I).of λih=>by
  cases h:c ih<;>first|rename_i x;rw[U ih x h];rfl|rw[J ih h];rfl
theorem aa.cond{α:Type}{b:Bool}{c d:IH->Option α}(A:aa c)(I:aa d):aa (λih=>bif b then c ih else d ih):=by
 cases b;all_goals trivial
theorem aa.map{α β:Type}{c:IH->Option α}(A:aa c)(g:α->β):aa (λih=>(c ih).map g):=
 (A.bind (k:=λx _=>ab (g x)) λx=>aa.const _).of λih=>by cases c ih<;>rfl
section
variable (E:Env)
theorem ae6(f:Nat)(args:List V)(h:Heap)(lp:List Rec):aa (λih=>m9 E ih f args h lp):=by
 refine aa.bind (aa.const _) λfn=>aa.bind (aa.const _) λc=>?_
 have:aa (λih=>bif bu (aF args) fn.ntmps then ih f 0 0 c ⟨jd fn.ntmps args,h,lp,[]⟩else ae):=aa.cond (aa.ask _ _ _ _ _) (aa.const _)
 refine aa.nP this (λx _=>match x with|(.exit _,_)=>ae|(_,st)=>ab (fn,st)) (λx=>aa.const _) (λih e=>?_) (λih x e=>?_)
 all_goals grind
theorem Tx(A:Nat):∀(df:List (Nat×List V)) (h:Heap) (lp:List Rec),aa (λih=>jY E ih A df h lp)
 |[],h,lp=>aa.const _
 |d::df,h,lp=>by
  show aa (λih=>bif lY d then(bif bu A d.1 then jY E ih A df h lp else ae)else match m9 E ih d.1 d.2 h lp with
   |some (fn,st)=>(match st.df with
    |[]=>(match me E st.h fn st.t with
     |some _=>jY E ih A df st.h st.lp
     |none=>ae)
    |_=>ae)
   |none=>ae)
  refine aa.cond (aa.cond (Tx A df h lp) (aa.const _)) ?_;refine aa.nP (ae6 E d.1 d.2 h lp) (λx ih=>match x.2.df with
    |[]=>(match me E x.2.h x.1 x.2.t with
     |some _=>jY E ih A df x.2.h x.2.lp
     |none=>ae)
    |_=>ae) (λx=>?_) (λih e=>by simp[e]) (λih x e=>by simp[e])
  split
  .split
   .exact Tx A df _ _
   simp[aa.const]
  simp[aa.const]
theorem DI(f:Nat)(args:List V)(h:Heap)(lp:List Rec):aa (λih=>gK E ih f args h lp):=by
 unfold gK;refine aa.nP (ae6 E f args h lp) (λx ih=>match x.2.df with
  |[]=>(me E x.2.h x.1 x.2.t).map λv=>(v,x.2.h,x.2.lp)
  |df=>(jY E ih (aF h) df x.2.h x.2.lp).bind λr=>(me E r.1 x.1 x.2.t).map λv=>(v,r.1,r.2)) (λx=>?_) (λih e=>by simp[e]) (λih x e=>by grind)
 split
 .simp[aa.const]
 exact aa.bind (Tx E _ _ _ _) λr=>aa.const _
theorem Xy(f:Nat)(args:List D):aa (λih=>qC E ih f args):=by
 exact aa.bind (DI E f _ _ _) λr=>aa.const _
theorem Ou(f:Nat)(args:List D):aa (λih=>iu E ih f args):=by
 unfold iu;split
 .split
  .simp[aa.const]
  exact Xy E f args
 exact Xy E f args
theorem akh(f:Nat)(args:List V)(h:Heap)(lp:List Rec):aa (λih=>qA E ih f args h lp):=by
 refine aa.cond (DI E f args h lp) ?_;split
 .exact aa.bind (Ou E f _) λr=>aa.const _
 exact DI E f args h lp
theorem akd(aC g:Nat)(args:List V)(h:Heap)(lp:List Rec):aa (λih=>v8 E ih aC g args h lp):=by
 unfold v8;split
 .simp[aa.const]
 split
 .exact akh E g args h lp
 simp[aa.const]
theorem auR(b:Nat)(xs:List V)(h:Heap):aa (λih=>xL ih b xs h):=by
 unfold xL;split
 .rename_i f t ps bT body _;refine aa.bind (aa.const _) λt0=>?_
  refine aa.nP (aa.ask f 1 0 bT _) (λx ih=>match x with
   |(.nm,I)=>(match I.df with
    |[]=>(match ih f 1 0 body ⟨I.t,I.h,[],[]⟩with
     |some (.nm,A)=>(match A.df with
      |[]=>ab (.im (.bool ag),aI A.h b (.lp f t ps bT body))
      |_=>ae)
     |_=>ae)
    |_=>ae)
   |_=>ae) (λx=>?_) (λih e=>by
    rw[e]) (λih x e=>by
    grind)
  obtain⟨ex,I⟩:=x;cases ex with
  |nm=>
   show aa (λih=>match I.df with
    |[]=>(match ih f 1 0 body ⟨I.t,I.h,[],[]⟩with
     |some (.nm,A)=>(match A.df with
      |[]=>(ab (V.im (.bool ag),aI A.h b (.lp f t ps bT body)))
      |_=>ae)
     |_=>ae)
    |_=>ae)
   split
   .refine aa.nP (aa.ask f 1 0 body _) (λx _=>match x with
     |(.nm,A)=>(match A.df with
      |[]=>ab (.im (.bool ag),aI A.h b (.lp f t ps bT body))
      |_=>ae)
     |_=>ae) (λx=>aa.const _) (λih e=>by
     rw[e]) (λih x e=>by
     grind)
   simp[aa.const]
  |exit _=>simp[aa.const]
  |ret=>simp[aa.const]
 simp[aa.const]
theorem art(lp:List Rec){c:IH->R}(A:aa c):aa (λih=>lift lp (c ih)):=
 (A.map λx=>(x.1,x.2,lp)).of λih=>by cases c ih<;>rfl
theorem amm(aC:Nat)(t:Tm)(c:Call)(h:Heap)(lp:List Rec):aa (λih=>kG E ih aC t c h lp):=by
 unfold kG;split
 .exact art lp (auR _ _ _)
 exact aa.bind (aa.const _) λg=>akd E _ _ _ _ _
theorem acS(keep:Bool)(ops:Array Oper)(aC:Nat)(o:Oper)(st:St):aa (λih=>e6 E ih keep ops aC o st):=by
 have key:∀c,aa c->aa (λih=>match c ih with|none=>ae|some (v,h,lp)=>ab (⟨putDst st.t o.dst v,h,lp,st.df⟩:St)):=λc A=>
  aa.nP A (λx _=>ab ⟨putDst st.t o.dst x.1,x.2.1,x.2.2,st.df⟩) (λx=>aa.const _) (λih e=>by simp[e]) (λih x e=>by simp[e])
 unfold e6;split
 .simp[aa.const]
 .simp[aa.const]
 split
 .simp[aa.const]
 refine key (λih=>match o.op with
  |.call c=>(match c.callee with
   |.builtin _=>lift st.lp (di E keep aC st.t st.h o.op)
   |_=>kG E ih aC st.t c st.h st.lp)
  |op=>lift st.lp (di E keep aC st.t st.h op)) ?_
 split
 .split
  .simp[aa.const]
  exact amm E _ _ _ _ _
 simp[aa.const]
theorem afc(keep:Bool)(ops:Array Oper):∀(l:List Oper) (st:St),aa (λih=>dQ E ih keep ops l st)
 |[],st=>aa.const _
 |o::l,st=>by
  show aa (λih=>match e6 E ih keep ops (aF st.h) o st with
   |none=>ae
   |some A=>dQ E ih keep ops l A)
  exact aa.nP (acS E keep ops _ o st) (λx ih=>dQ E ih keep ops l x) (λx=>afc keep ops l x) (λih e=>by
   have e:e6 E ih keep ops (aF st.h) o st=ae:=e;grind) (λih x e=>by
   grind)
theorem aei(keep:Bool)(aC:Nat)(t:Tm)(view:Heap)(op:Op):aa (λih=>fL E ih keep aC t view op):=by
 unfold fL;split;all_goals first
  |exact aa.const _
  |skip
 split;all_goals first
  |exact aa.const _
  |skip
 refine aa.bind (aa.const _) λg=>?_
 split
 .simp[aa.const]
 split
 .exact aa.cond (aa.const _) (aa.bind (aa.const _) λds=>aa.bind (Ou E _ ds) λr=>aa.const _)
 simp[aa.const]
theorem asK(keep:Bool)(ops:Array Oper)(k n i cls:Nat)(m:List Nat)(o:Oper)(st:St):aa (λih=>dn E ih keep ops k n i cls m o st):=by
 unfold dn;split<;>try(simp[aa.const];done)
 split
 .simp[aa.const]
 .refine aa.cond ?_ ?_
  .split
   .exact (aei E keep _ _ _ _).map _
   simp[aa.const]
  exact aa.bind (aei E keep _ _ _ _) λr=>aa.const _
 .simp[aa.const]
 .exact acS E keep ops _ o st
 .split
  .exact aa.bind (aa.const _) λg=>aa.bind (DI E _ _ _ _) λr=>aa.const _
  simp[aa.const]
 .simp[aa.const]
 .simp[aa.const]
 split
 .exact aa.bind (aa.const _) λg=>aa.bind (aa.const _) λds=>aa.bind (Ou E _ ds) λr=>aa.const _
 simp[aa.const]
theorem ae8(keep:Bool)(ops:Array Oper)(k n:Nat):∀(l:List Oper) (ds:List (Nat×List Nat)) (i:Nat) (st:St),aa (λih=>ie E ih keep ops k n l ds i st)
 |[],ds,i,st|o::l,[],i,st=>aa.const _
 |o::l,(c,m)::ds,i,st=>by
  show aa (λih=>match dn E ih keep ops k n i c m o st with
   |none=>ae
   |some A=>ie E ih keep ops k n l ds (bif bS E o.op then i+1 else i) A)
  exact aa.nP (asK E keep ops k n i c m o st) (λx ih=>ie E ih keep ops k n l ds (bif bS E o.op then i+1 else i) x) (λx=>ae8 keep ops k n l ds _ x) (λih e=>by simp[e]) (λih x e=>by simp[e])
theorem auC(f id:Nat)(ops:Array Oper)(st:St):aa (λih=>qZ E ih f id ops st):=by
 exact aa.bind (aa.const _) λds=>ae8 E _ ops _ _ _ ds _ _
theorem ON(f fb cur:Nat)(c:Code)(st:St):aa (λih=>pA E ih f fb cur c st):=by
 cases c with
 |region id ops I=>
  show aa (λih=>match(bif I then qZ E ih f id ops (gn E af f id st)else dQ E ih (E.keep f) ops ops.toList (gn E af f id st))with
   |some A=>(ab (Ex.nm,gn E ag f id A))
   |none=>ae)
  exact aa.nP (aa.cond (b:=I) (auC E f id ops (gn E af f id st)) (afc E (E.keep f) ops ops.toList (gn E af f id st))) (λx _=>ab (Ex.nm,gn E ag f id x)) (λx=>aa.const _) (λih e=>by simp[e]) (λih x e=>by simp[e])
 |seq a b=>
  show aa (λih=>match ih f fb cur a st with
   |some (.nm,A)=>ih f fb cur b A
   |r=>r)
  exact aa.nP (aa.ask f fb cur a st) (λx ih=>match x with|(.nm,A)=>ih f fb cur b A|r=>ab r) (λx=>by obtain⟨ex,A⟩:=x;cases ex<;>first|exact aa.ask _ _ _ _ _|simp[aa.const])
   (λih e=>by simp[e]) (λih x e=>by grind)
 |cond c a b=>
  show aa (λih=>match ev st.t c with
   |.im (.bool t)=>bif t then ih f fb cur a st else ih f fb cur b st
   |_=>ae)
  split
  .exact aa.cond (aa.ask _ _ _ _ _) (aa.ask _ _ _ _ _)
  simp[aa.const]
 |block id b=>
  show aa (λih=>match ih f fb id b st with
   |some (.exit j,A)=>bif al j id then ab (.nm,A)else ab (.exit j,A)
   |r=>r)
  exact aa.nP (aa.ask f fb id b st) (λx _=>match x with|(.exit j,A)=>bif al j id then ab (.nm,A)else ab (.exit j,A)|r=>ab r) (λx=>aa.const _)
   (λih e=>by simp[e]) (λih x e=>by grind)
 |loop b=>
  show aa (λih=>match ih f fb cur b st with
   |some (.nm,A)=>ih f fb cur (.loop b) A
   |r=>r)
  exact aa.nP (aa.ask f fb cur b st) (λx ih=>match x with|(.nm,A)=>ih f fb cur (.loop b) A|r=>ab r) (λx=>by obtain⟨ex,A⟩:=x;cases ex<;>first|exact aa.ask _ _ _ _ _|simp[aa.const])
   (λih e=>by simp[e]) (λih x e=>by grind)
 |scope b=>exact aa.ask _ _ _ _ _
 |rangeFunc g ps bT body=>
  show aa (λih=>match(match ev st.t g with|.fn g a cap=>ab (g,a,cap)|.im (.fn g)=>ab (g,[],[])|_=>ae)with
   |some (g,a,cap)=>(match gK E ih g (a++(.jh (aF st.h+1)::cap)) (st.h++[ae,ab (.lp f st.t ps.toList bT body)]) st.lp with
    |some (_,h',lp)=>(match ar h' (aF st.h+1)with
     |some (.lp ..)=>(ab (Ex.nm,⟨st.t,bC h' (aF st.h+1) ae,lp,bif al fb 0 then(aF st.h,[V.undef])::st.df else st.df⟩):Option (Ex×St))
     |_=>ae)
    |none=>ae)
   |none=>ae)
  split
  .rename_i g a cap _;exact aa.nP (DI E g (a++(.jh (aF st.h+1)::cap)) (st.h++[ae,ab (.lp f st.t ps.toList bT body)]) st.lp) (λx _=>match ar x.2.1 (aF st.h+1)with
     |some (.lp ..)=>ab (Ex.nm,⟨st.t,bC x.2.1 (aF st.h+1) ae,x.2.2,bif al fb 0 then(aF st.h,[V.undef])::st.df else st.df⟩)
     |_=>ae) (λx=>aa.const _) (λih e=>by simp_all[e]) (λih x e=>by simp_all[e])
  simp[aa.const]
 |_=>exact aa.const _
end
theorem OQ(E:Env):∀(n f fb cur:Nat) (c:Code) (st:St) (r:Ex×St),exec E n f fb cur c st=ab r->exec E (n+1) f fb cur c st=ab r
 |0,_,_,_,_,_,_,h=>by cases h
 |n+1,f,fb,cur,c,st,r,h=>by
  obtain⟨S,h1,h2⟩:=ON E f fb cur c st (exec E n) r h;exact h2 _ λp hp=>OQ E n _ _ _ _ _ _ (h1 p hp)
theorem HP(E:Env){n m:Nat}(A:n<=m){f fb cur:Nat}{c:Code}{st:St}{r:Ex×St}(h:exec E n f fb cur c st=ab r):exec E m f fb cur c st=ab r:=by
 obtain⟨k,rfl⟩:=Nat.exists_eq_add_of_le A;clear A;induction k with
 |zero=>exact h
 |succ k ih=>exact OQ E _ _ _ _ _ _ _ ih
open Classical in
def X(E:Env):IH:=λf fb cur c st=>if h:∃n r,exec E n f fb cur c st=ab r then ab h.choose_spec.choose else ae
theorem Cg{E:Env}{f fb cur:Nat}{c:Code}{st:St}{r:Ex×St}:X E f fb cur c st=ab r↔∃n,exec E n f fb cur c st=ab r:=by
 unfold X;constructor
 .intro h;split at h;all_goals grind
 rintro⟨n,h⟩;have q:∃n r,exec E n f fb cur c st=ab r:=⟨n,r,h⟩;have a:=HP E (ah9 n q.choose) h;have b:=HP E (aia n q.choose) q.choose_spec.choose_spec;grind
theorem ZI{E:Env}:∀{S:List Ask},Holds S (X E)->∃n,Holds S (exec E n)
 |[],_=>⟨0,(λ_ h=>by cases h)⟩
 |p::S,h=>by
  obtain⟨n,I⟩:=Cg.1 (h p (eh ..));obtain⟨m,hm⟩:=ZI (S:=S) λq A=>h q (ff _ A)
  refine⟨max n m,λq A=>?_⟩
  rcases du.1 A with rfl|A
  .exact HP E (ah9 ..) I
  exact HP E (aia ..) (hm q A)
theorem kZ(E:Env)(f fb cur:Nat)(c:Code)(st:St):X E f fb cur c st=pA E (X E) f fb cur c st:=by
 apply Option.ext;intro r;constructor
 .intro h;obtain⟨n,A⟩:=Cg.1 h;have A:=OQ E n _ _ _ _ _ _ A;obtain⟨S,h1,h2⟩:=ON E f fb cur c st (exec E n) r A;exact h2 _ λp hp=>Cg.2 ⟨n,h1 p hp⟩
 intro h;obtain⟨S,h1,h2⟩:=ON E f fb cur c st (X E) r h;obtain⟨n,A⟩:=ZI h1;exact Cg.2 ⟨n+1,h2 _ A⟩
theorem ai2[Gh]{F:Fence}{P:Program}{E:Env}(A:gF F P E)(hF:dJ F):jL F P E (X E):=λf fb cur c st r h=>by
 obtain⟨n,I⟩:=Cg.1 h;exact OP A hF n f fb cur c st r I
end
section
inductive Ty where
 |bool
 |int (k:IntKind)
 |str
 |an (t:Ty)
 |st (w:Nat) (l:Ty)
 |aH (l:Ty)
 |nl
 |cn (t l:Ty)
 |jS
 |err
@[reducible] def Ty.den(t:Ty):=
 Ty.rec (motive:=λ_=>Type) Bool (λ_=>Int) (List Nat) (λ_ d=>List d) (λ_ _ d=>d) (λ_ d=>d) Unit (λ_ _ a b=>a×b) Nat (List (Nat×Int)) t
def iL:List (Nat×Int)->D
 |[]=>.eE
 |(t,c)::l=>.ifc t (.agg 2 [.int .i64 c,iL l])
mutual
def Ty.enc:(t:Ty)->t.den->D
 |.bool,b=>.bool b
 |.int k,n=>.int k n
 |.str,s=>.str s
 |.an t,l=>.an (List.map (Ty.enc t) l)
 |.st w l,x=>.agg w (Ty.dY l x)
 |.aH l,x=>.aH (Ty.dY l x)
 |.nl,_=>.nil
 |.cn _ _,_=>.nil
 |.jS,f=>.fn f
 |.err,l=>iL l
def Ty.dY:(l:Ty)->l.den->List D
 |.cn t l,x=>Ty.enc t x.1::Ty.dY l x.2
 |_,_=>[]
end
def Ty.wd:Ty->Nat
 |.st w _=>w
 |_=>1
def I3:IntKind->IntKind->Bool
 |.i8,.i8|.i16,.i16|.i32,.i32|.i64,.i64|.u8,.u8|.u16,.u16|.u32,.u32|.u64,.u64=>ag
 |_,_=>af
def Ty.beq:Ty->Ty->Bool
 |.bool,.bool|.str,.str|.nl,.nl|.jS,.jS|.err,.err=>ag
 |.int k,.int A=>I3 k A
 |.an a,.an b=>Ty.beq a b
 |.st w a,.st v b=>al w v&&Ty.beq a b
 |.aH a,.aH b=>Ty.beq a b
 |.cn a l,.cn b r=>Ty.beq a b&&Ty.beq l r
 |_,_=>af
theorem QD:∀{a b:IntKind},I3 a b=ag->a=b:=by
 intro a b h;cases a<;>cases b<;>first|rfl|cases h
theorem Ty.beq_eq:∀{a b:Ty},Ty.beq a b=ag->a=b:=by
 intro a;induction a with
 |bool|str|nl|jS|err=>intro b h;cases b<;>first|rfl|cases h
 |int k=>intro b h;cases b<;>first|rename_i A;rw[QD (show I3 k A=ag from h)]|cases h
 |an a ih|aH a ih=>intro b h;cases b<;>first|rename_i b;rw[ih (show Ty.beq a b=ag from h)]|cases h
 |st w a ih=>intro b h;cases b<;>first|rename_i v b;have h:(al w v&&Ty.beq a b)=ag:=h;rw[aM]at h;rw[bU h.1,ih h.2]|cases h
 |cn a l I J=>intro b h;cases b<;>first|rename_i b r;have h:(Ty.beq a b&&Ty.beq l r)=ag:=h;grind|cases h
def Ty.cs(a b:Ty)(x:a.den):=if h:Ty.beq a b=ag then ab (Ty.beq_eq h▸x)else ae
mutual
def Ty.flat:Ty->Bool
 |.an _=>af
 |.st _ l=>Ty.mG l
 |.aH l=>Ty.mG l
 |_=>ag
def Ty.mG:Ty->Bool
 |.cn t l=>Ty.flat t&&Ty.mG l
 |_=>ag
end
def p8(E:Env)(n:Nat):Nat->Option Ty:=
 hG (λ_=>ae) (λ_ ih t=>(E.ty t).bind λti=>match ti.k with
  |.bool=>ab .bool
  |.int k=>ab (.int k)
  |.str=>ab .str
  |.an e=>(ih e).map .an
  |.st fs=>(bn (ab .nl) (λf _ r=>(ih f.2.2).bind λa=>r.map λl=>.cn a l) fs:Option Ty).map (.st ti.size)
  |.arr m e=>(ih e).map λa=>.st ti.size (hG .nl (λ_ l=>.cn a l) m)
  |.fn=>ab .jS
  |.ifc _=>ab .err
  |_=>ae) n
end
section
open Go.ChangeShapes Go.WideShapes Go.Joins
variable [Gh]
def Ty.Ok:(t:Ty)->t.den->Prop
 |.bool,_=>True
 |.int k,n=>dz k n
 |.str,s=>s.length<=fv/\∀c∈s,c< 256
 |.an t,l=>l.length<=maxLen/\∀x∈l,Ty.Ok t x
 |.st _ l,x=>Ty.Ok l x
 |.aH l,x=>Ty.Ok l x
 |.nl,_=>True
 |.cn t l,x=>Ty.Ok t x.1/\Ty.Ok l x.2
 |.jS,_|.err,_=>False
def Ty.Sm(N:Nat):(t:Ty)->t.den->Prop
 |.an t,l=>l.length<=N/\∀x∈l,Ty.Sm N t x
 |.st _ l,x=>Ty.Sm N l x
 |.aH l,x=>Ty.Sm N l x
 |.cn t l,x=>Ty.Sm N t x.1/\Ty.Sm N l x.2
 |.bool,_|.int _,_|.str,_|.nl,_|.jS,_|.err,_=>True
structure vF{H:Type}(bk:DataW H->Nat):Prop where
 part:∀{d:DataW H} {l:List (DataW H)},d∈l->bk d<=bk (.agg l)
 elem:∀{d:DataW H} {l r:List (DataW H)},d∈l->bk d<=bk (.slice l r)
 len:∀(l r:List (DataW H)),l.length<=bk (.slice l r)
def tO(ok:Nat->Ty->Bool)(w:Nat):List (Nat×Nat×Nat)->Ty->Nat->Bool
 |[],.nl,off=>al off w
 |f::fs,.cn a l,off=>al f.1 off&&(al a.wd f.2.1&&(ok f.2.2 a&&tO ok w fs l (off+a.wd)))
 |_,_,_=>af
def ze(ok:Ty->Bool)(s w:Nat):Nat->Ty->Nat->Bool
 |0,.nl,off=>al off w
 |m+1,.cn a l,off=>al a.wd s&&(ok a&&ze ok s w m l (off+s))
 |_,_,_=>af
def iJ(E:Env):Nat->Nat->Ty->Bool
 |0,_,_=>af
 |n+1,t,u=>match E.ty t with
  |none=>af
  |some ti=>al u.wd ti.size&&(match ti.k,u with
   |.bool,.bool=>ag
   |.int k,.int A=>I3 k A
   |.str,.str=>ag
   |.an e,.an a=>cQ 0 a.wd&&iJ E n e a
   |.st fs,.st w l=>tO (λt u=>iJ E n t u) w fs l 0
   |.arr m e,.st w l=>cQ 0 m&&(match E.ty e with|some te=>ze (λu=>iJ E n e u) te.size w m l 0|none=>af)
   |_,_=>af)
section
variable {P:Program} {E:Env} {W:World} {H:Type} {enc:TypeId×Value->H} {sp:Nat->Bool} {held:Bool}
theorem NA(I:EnvTy P E){n t:Nat}{u:Ty}(h:iJ E n t u=ag):P.cellsOf t=u.wd:=by
 cases n
 .cases h
 rename_i n;unfold iJ at h;split at h<;>try grind
 rename_i ti A;rw[aM]at h;rw[(I.ty t ti A).sizeOf,bU h.1]
theorem VK{C:IV}:∀{l:List D} {A:List (List Value)} {d:D} {ws:List Value},bI C l af A->aR C d af ws->bI C (l++[d]) af (A++[ws])
 |[],A,d,ws,h,k=>by
  subst h;simp[List.nil_append,bI];grind
 |_::l,A,d,ws,h,k=>by
  obtain⟨w,r,rfl,h1,h2⟩:=h;exact⟨w,_,rfl,h1,VK h2 k⟩
theorem afJ{a:Ty}{a0:Addr}{s:Nat}{Q:Nat->a.den->Prop}:∀(n:Nat),(∀i,i< n->∃(y:a.den) (ws:List Value),aR (λp=>W.cell? p) (a.enc y) af ws/\Q i y/\ws.length=s/\∀j,j< s->W.cell? ((a0.add (i*s)).add j)=ws[j]?)->
  ∃(L:List a.den) (A:List (List Value)),L.length=n/\bI (λp=>W.cell? p) (L.map a.enc) af A/\(∀ws∈A,ws.length=s)/\A.flatten.length=n*s/\(∀x∈L,∃i,i< n/\Q i x)/\cK (λp=>W.cell? p) a0 A.flatten
 |0,_=>⟨[],[],rfl,by rfl,by simp,by simp,by simp,λj v e=>by trivial⟩
 |n+1,h=>by
  obtain⟨L,A,h1,h2,c,d,f,J⟩:=afJ n λi hi=>h i (by omega)
  obtain⟨y,ws,U,g,k,Z⟩:=h n (by omega)
  refine⟨L++[y],A++[ws],by simp[h1],?_,?_,?_,?_,?_⟩
  .simp[List.map_append,VK,h2,U]
  .grind
  .grind
  .grind
  intro j v e;rw[List.flatten_append]at e;by_cases b:j< A.flatten.length
  .rw [List.getElem?_append_left b]at e;exact J j v e
  rw[List.getElem?_append_right (by omega)]at e
  have I:j-A.flatten.length< s:=by
   grind
  have:=Z _ I;simp_all[e,this,Go.Deep.add_add]
theorem awh(hE:EnvTy P E):∀(n t:Nat) (u:Ty),iJ E n t u=ag->∀(fuel:Nat) (cs:List Value) (x:DataW H×List MemPlace),ahc enc P W 0 sp held fuel t cs=ab x->
  ∃y:u.den,aR (λp=>W.cell? p) (u.enc y) af cs/\(u.Ok y/\∀(N:Nat) (bk:DataW H->Nat),vF bk->bk x.1<=N->u.Sm N y)/\cs.length=u.wd:=by
 intro n;induction n with
 |zero=>intro t u h;cases h
 |succ n ih=>
  intro t u h fuel cs x Z;unfold iJ at h;split at h
  .cases h
  rename_i ti hti;rw[aM]at h;obtain⟨S,h⟩:=h;have hw:=bU S;clear S;have hT:=hE.ty t ti hti;have o:=hT.kind;split at h
  .rename_i I;rw[I]at o;obtain⟨b,rfl,rfl⟩:=DataW.trod_bool o Z;exact⟨b,by rfl,⟨trivial,λ_ _ _ _=>trivial⟩,rfl⟩
  .rename_i k k' I;rw[I]at o;have:=QD h;subst this;obtain⟨m,rfl,rfl,hm⟩:=DataW.trod_int o Z;exact⟨m,by simp only[Ty.enc,aR];first|exact⟨rfl,vb hm⟩|simp[trivial,vb,hm],⟨vb hm,λ_ _ _ _=>trivial⟩,rfl⟩
  .rename_i I;rw[I]at o;obtain⟨s,rfl,rfl,hs⟩:=DataW.trod_string o Z;refine⟨CC s,?_,⟨⟨?_,?_⟩,λ_ _ _ _=>trivial⟩,rfl⟩
   .simp only[Ty.enc,aR];exact⟨s,rfl,rfl,by trivial⟩
   .simp_all[maxLen,hs,fv,CC]
   intro c hc;unfold CC at hc;obtain⟨b,_,rfl⟩:=kl.1 hc;exact b.toNat_lt
  .rename_i e a I;rw[I]at o;rw[aM]at h;obtain⟨h0,ha⟩:=h;have h0:0< a.wd:=jl h0;have wH:=NA hE ha;rcases Go.Deep.open_slice o Z with⟨rfl,rfl⟩|⟨a0,len,cap,m,k,Dt,Pl,rfl,_,hl,hc,hm,rfl,hel⟩
   .refine ⟨[],?_,⟨⟨by simp,by simp⟩,λ_ _ _ _=>⟨by simp,by simp⟩⟩,rfl⟩
    simp only[Ty.enc,aR,List.map_nil];grind
   .have hlm:len<=m:=by grind
    obtain⟨L,A,h1,h2,h3,h4,h5,h6⟩:=afJ (W:=W) (a:=a) (a0:=a0) (s:=a.wd) (Q:=λi y=>a.Ok y/\∀(N:Nat) (bk:DataW H->Nat),vF bk->bk (Dt i)<=N->a.Sm N y) len λi hi=>by
     obtain⟨Xp,c1,c2⟩:=hel i (by omega)
     obtain⟨y,D,q,G⟩:=ih e a ha _ _ _ c2;obtain⟨_,c3,c4⟩:=World.cells?_some c1;grind
    refine⟨L,?_,⟨⟨by omega,λx Z=>(h5 x Z).choose_spec.2.1⟩,λN bk J r=>⟨?_,λx Z=>?_⟩⟩,rfl⟩
    rotate_left
    .have:=J.len ((vu len).map Dt) ((vu (m-len)).map λj=>Dt (len+j))
     grind
    .obtain ⟨i,hi,_,hq⟩:=h5 x Z;exact hq N bk J (b8 (J.elem (kl.2 ⟨i,List.mem_range.2 hi,rfl⟩)) r)
    simp only[Ty.enc,aR];refine⟨ab a0,len,cap,rfl,by simp[h1],hl,by unfold maxLen at hc;grind[fv],?_⟩
    by_cases T:len=0<;>try grind
    refine .inr ⟨a0,A,a.wd,rfl,?_,h2,h3,h6⟩;have V:0< A.flatten.length:=by rw[h4];exact Nat.mul_pos (by omega) h0
    have:=h6 0 _ (gD V);rw[Addr.add_zero]at this;replace this:W.cell? a0=_:=this;unfold World.cell? at this;split at this<;>try trivial
    cases hs:a0.spot with
    |none=>rfl
    |some _=>rw[hs]at this;simp at this
  .rename_i fs w l I;rw[I]at o;obtain⟨d,hu,hf,_⟩:=o;obtain⟨xs,k,_,rfl,v,Y,K⟩:=DataW.trod_struct hu Z;have U:cs.length=w:=by rw[v,hT.sizeOf,<-hw];rfl
   have M:∀(fl:List Field) (l:Ty) (off:Nat),tO (λt u=>iJ E n t u) w (fl.map λf=>(f.offset,P.cellsOf f.type,f.type)) l off=ag->
     (∀f∈fl,∃y,ahc enc P W 0 sp held k f.type ((cs.drop f.offset).take (P.cellsOf f.type))=ab y/\y∈xs)->∃(y:l.den) (A:List (List Value)),bI (λp=>W.cell? p) (l.dY y) af A/\A.flatten=cs.drop off/\(l.Ok y/\∀(N:Nat) (bk:DataW H->Nat),vF bk->(∀x∈xs,bk x.1<=N)->l.Sm N y):=by
    intro fl;induction fl with
    |nil=>
     intro l off h1 _;cases l with
     |nl=>
      have:off=w:=bU h1;exact⟨(),[],by simp[Ty.dY,bI],by rw[this,<-U];simp,trivial,λ_ _ _ _=>trivial⟩
     |_=>cases h1
    |cons f fl Qc=>
     intro l off h1 h2;cases l with
     |cn a l=>
      simp only[mo,tO,aM]at h1;obtain⟨e1,R,e3,e4⟩:=h1;have e1:f.offset=off:=bU e1;have R:a.wd=P.cellsOf f.type:=bU R;obtain⟨z,T,hzm⟩:=h2 f (eh ..);obtain⟨y,D,q,G⟩:=ih f.type a e3 _ _ _ T;obtain⟨ys,A,r4,r5,r6,r7⟩:=Qc l (off+a.wd) e4 λg hg=>h2 g (ff _ hg)
      refine⟨(y,ys),((cs.drop f.offset).take (P.cellsOf f.type))::A,?_,?_,⟨q.1,r6⟩,λN bk J r=>⟨q.2 N bk J (r z hzm),r7 N bk J r⟩⟩
      .simp only[Ty.dY,bI];exact⟨_,_,rfl,D,r4⟩
      rw[pa,r5,e1,<-R,<-rF,ah2]
     |_=>cases h1
   rw[<-hf]at h;obtain⟨y,A,D,q,G⟩:=M d.toList l 0 h λf hf'=>by
    obtain⟨i,hi⟩:=List.getElem?_of_mem hf';have sk:d[i]? =ab f:=by rw[<-Array.getElem?_toList];exact hi
    have C:i< xs.length:=by
     rw[Y];have:=(List.getElem?_eq_some_iff.1 hi).1;simpa using this
    exact⟨xs[i],by rw[K i f sk,gD C],gR C⟩
   refine⟨y,?_,⟨G.1,λN bk J r=>G.2 N bk J λx Z=>b8 (J.part (kl.2 ⟨x,Z,rfl⟩)) r⟩,U⟩
   simp only[Ty.enc,aR];exact⟨A,by rw[q];rfl,D,U⟩
  .rename_i m e w l I;rw[I]at o;obtain⟨xs,k,_,rfl,v,Y,K⟩:=DataW.trod_array o Z;have U:cs.length=w:=by rw[v,hT.sizeOf,<-hw];rfl
   have M:∀(m':Nat) (l:Ty) (i:Nat),ze (λu=>iJ E n e u) (P.cellsOf e) w m' l (i*P.cellsOf e)=ag->i+m'=m->
     ∃(y:l.den) (A:List (List Value)),bI (λp=>W.cell? p) (l.dY y) af A/\A.flatten=cs.drop (i*P.cellsOf e)/\(l.Ok y/\∀(N:Nat) (bk:DataW H->Nat),vF bk->(∀x∈xs,bk x.1<=N)->l.Sm N y):=by
    intro m';induction m' with
    |zero=>
     intro l i h1 _;cases l with
     |nl=>
      have:i*P.cellsOf e=w:=bU h1;exact⟨(),[],by simp[Ty.dY,bI],by rw[this,<-U];simp,trivial,λ_ _ _ _=>trivial⟩
     |_=>cases h1
    |succ m' ihm=>
     intro l i h1 h2;cases l with
     |cn a l=>
      simp only[ze,aM]at h1;obtain⟨R,e3,e4⟩:=h1;have R:a.wd=P.cellsOf e:=bU R;have C:i< xs.length:=by omega
      have T:=K i (by omega)
      rw[gD C]at T;obtain⟨y,D,q,G⟩:=ih e a e3 _ _ _ T;obtain⟨ys,A,r4,r5,r6,r7⟩:=ihm l (i+1) (by rw[aiv];exact e4) (by omega)
      refine⟨(y,ys),((cs.drop (i*P.cellsOf e)).take (P.cellsOf e))::A,?_,?_,⟨q.1,r6⟩,λN bk J r=>⟨q.2 N bk J (r _ (gR C)),r7 N bk J r⟩⟩
      .simp only[Ty.dY,bI];exact⟨_,_,rfl,D,r4⟩
      rw[pa,r5,aiv,<-rF,ah2]
     |_=>cases h1
   rw[aM]at h;obtain⟨_,h⟩:=h;split at h;case h_2=>cases h
   case h_1 te hte=>
    rw[<-(hE.ty e te hte).sizeOf]at h;obtain⟨y,A,D,q,G⟩:=M m l 0 (by rw[tw];exact h) (by omega)
    refine⟨y,?_,⟨G.1,λN bk J r=>G.2 N bk J λx Z=>b8 (J.part (kl.2 ⟨x,Z,rfl⟩)) r⟩,U⟩
    simp only[Ty.enc,aR];rw[tw]at q;exact⟨A,by rw[q];rfl,D,U⟩
  trivial
theorem Wn(f:EnvTy P E){n t:Nat}{u:Ty}(h:iJ E n t u=ag){v:Value}{d:DataW H}{p:List MemPlace}{r:Reach}{b0:Nat}(J:F8 P W r b0 t v)(i:ag9 enc P W 0 sp held t v d p):
  ∃y:u.den,aR (λp=>W.cell? p) (u.enc y) ag [v]/\u.Ok y/\∀(N:Nat) (bk:DataW H->Nat),vF bk->bk d<=N->u.Sm N y:=by
 obtain⟨fuel,hf⟩:=i;obtain⟨y,g,j,x⟩:=awh f n t u h fuel _ _ hf;refine⟨y,?_,j⟩;cases n with
 |zero=>cases h
 |succ n=>
  unfold iJ at h;split at h
  .cases h
  rename_i ti b;rw[aM]at h;have I:=(f.ty t ti b).kind;replace h:=h.2;split at h
  .rename_i A;rw[A]at I;obtain⟨_,rfl⟩:=okWide_bool I J;trivial
  .rename_i k z A;rw[A]at I;obtain⟨_,rfl⟩:=okWide_int I J;trivial
  .rename_i A;rw[A]at I;obtain⟨_,rfl⟩:=okWide_string I J;trivial
  .rename_i C a A;rw[A]at I;obtain⟨_,_,_,rfl⟩:=okWide_slice I J;trivial
  .rename_i fs w l A;rw[A]at I;obtain⟨Z,o,_⟩:=I;obtain⟨cs,rfl,_⟩:=okWide_struct o J;obtain⟨U,q,c,s⟩:=g;exact⟨cs,U,rfl,by trivial,c,by trivial⟩
  .rename_i m e w l A;rw[A]at I;obtain⟨cs,rfl,_⟩:∃cs,v=.agg cs/\cs.size=P.cellsOf t:=by
    unfold F8 at J;rw[show P.underlying t=ab (.array m e)from I]at J;grind
   obtain⟨U,q,c,s⟩:=g;exact⟨cs,U,rfl,by trivial,c,by trivial⟩
  trivial
theorem Wm(A:EnvTy P E){n t:Nat}{u:Ty}(h:iJ E n t u=ag){v:Value}{d:DataW H}{p:List MemPlace}{r:Reach}{b0:Nat}(I:F8 P W r b0 t v)(J:ag9 enc P W 0 sp held t v d p):
  ∃y:u.den,aR (λp=>W.cell? p) (u.enc y) ag [v]/\u.Ok y:=
 let⟨y,a,b,_⟩:=Wn A h I J
 ⟨y,a,b⟩
def qu(E:Env)(t:Nat):Prop:=∃n u,iJ E n t u=ag
theorem Wl{ok:Nat->Ty->Bool}{w:Nat}{P:Program}:∀(fl:List Field) (l:Ty) (off:Nat),tO ok w (fl.map λf=>(f.offset,P.cellsOf f.type,f.type)) l off=ag->
  (∀f∈fl,∃a,ok f.type a=ag)/\w=off+(fl.map λf=>P.cellsOf f.type).sum/\∀(j:Nat) f,fl[j]? =ab f->f.offset=off+((fl.take j).map λf=>P.cellsOf f.type).sum
 |[],l,off,h=>by
  cases l<;>first|exact⟨by simp,by have:off=w:=bU h;simp[this],by simp⟩|cases h
 |f::fl,l,off,h=>by
  cases l with
  |cn a l=>
   simp only[mo,tO,aM]at h;obtain⟨A,I,Z,J⟩:=h;have A:=bU A;have I:=bU I;obtain⟨h1,h2,b⟩:=Wl fl l _ J;refine⟨λg U=>?_,by grind,λj g U=>?_⟩
   .grind
   cases j
   .grind
   grind
  |_=>cases h
theorem Wk{ok:Ty->Bool}{s w:Nat}:∀(m:Nat) (l:Ty) (off:Nat),ze ok s w m l off=ag->w=off+m*s/\(0< m->∃a,ok a=ag)
 |0,l,off,h=>by
  cases l with
  |nl=>exact⟨by have:=bU h;omega,λh=>absurd h (Nat.lt_irrefl 0)⟩
  |_=>cases h
 |m+1,l,off,h=>by
  cases l with
  |cn a l=>
   simp[ze,aM]at h;obtain⟨h1,_⟩:=Wk m l _ h.2.2;grind
  |_=>cases h
theorem qu.cases(Z:EnvTy P E){t:Nat}(h:qu E t):P.underlying t=ab .bool∨(∃k,P.underlying t=ab (.int k))∨P.underlying t=ab .string∨
  (∃e,P.underlying t=ab (.slice e)/\qu E e/\0< P.cellsOf e)∨
  (∃fs:Array Field,P.underlying t=ab (.struct fs)/\(∀f∈fs.toList,qu E f.type)/\P.cellsOf t=(fs.toList.map λf=>P.cellsOf f.type).sum/\∀(j:Nat) f,fs.toList[j]? =ab f->f.offset=((fs.toList.take j).map λf=>P.cellsOf f.type).sum)∨
  (∃m e,P.underlying t=ab (.array m e)/\qu E e/\P.cellsOf t=m*P.cellsOf e):=by
 obtain⟨n,u,h⟩:=h;have U:=NA Z h;cases n with
 |zero=>cases h
 |succ n=>
  unfold iJ at h;split at h
  .cases h
  rename_i ti b;rw[aM]at h;have J:=(Z.ty t ti b).kind;replace h:=h.2;split at h
  .rename_i A;rw[A]at J;exact .inl J
  .rename_i k g A;rw[A]at J;exact .inr (.inl ⟨_,J⟩)
  .rename_i A;rw[A]at J;exact .inr (.inr (.inl J))
  .rename_i e a A;rw[A]at J;rw[aM]at h;exact .inr (.inr (.inr (.inl ⟨e,J,⟨n,a,h.2⟩,by rw[NA Z h.2];simp_all⟩)))
  .rename_i fs w l A;rw[A]at J;obtain⟨I,d,hf,_⟩:=J;rw[<-hf]at h;obtain⟨h1,h2,i⟩:=Wl I.toList l 0 h;refine .inr (.inr (.inr (.inr (.inl ⟨I,d,λf hf=>?_,?_,λj f o=>?_⟩))))
   .obtain ⟨a,c⟩:=h1 f hf;exact⟨n,a,c⟩
   .rw [U];show w=_;omega
   grind
  .rename_i m e w l A;rw[A]at J;rw[aM]at h;obtain⟨hm,h⟩:=h;split at h
   .rename_i te hte;obtain⟨h1,h2⟩:=Wk m l 0 h;obtain⟨a,c⟩:=h2 (jl hm);refine .inr (.inr (.inr (.inr (.inr ⟨m,e,J,⟨n,a,c⟩,?_⟩))));rw[U,(Z.ty e te hte).sizeOf];show w=_;omega
   trivial
  trivial
theorem arf(I:EnvTy P E):Kids P (qu E) where
 pointer:=λ{t e} h A=>by
  rcases h.cases I with q|⟨_,q⟩|q|⟨_,q,_⟩|⟨_,q,_⟩|⟨_,_,q,_⟩<;>rw[A]at q<;>cases q
 slice:=λ{t e} h A=>by
  rcases h.cases I with q|⟨_,q⟩|q|⟨_,q,h1,_⟩|⟨_,q,_⟩|⟨_,_,q,_⟩<;>rw[A]at q<;>cases q
  omega
 array:=λ{t e n} h A=>by
  rcases h.cases I with q|⟨_,q⟩|q|⟨_,q,_⟩|⟨_,q,_⟩|⟨_,_,q,h1,h2⟩<;>rw[A]at q<;>cases q
  trivial
 struct:=λ{t fs} h A=>by
  rcases h.cases I with q|⟨_,q⟩|q|⟨_,q,_⟩|⟨_,q,h1⟩|⟨_,_,q,_⟩<;>rw[A]at q<;>cases q
  omega
 map:=λ{t k e} h A=>by
  rcases h.cases I with q|⟨_,q⟩|q|⟨_,q,_⟩|⟨_,q,_⟩|⟨_,_,q,_⟩<;>rw[A]at q<;>cases q
theorem avx(A:EnvTy P E){t e:Nat}(h:qu E t)(I:P.underlying t=ab (.slice e)):0< P.cellsOf e:=by
 rcases h.cases A with q|⟨_,q⟩|q|⟨_,q,_,h1⟩|⟨_,q,_⟩|⟨_,_,q,_⟩<;>rw[I]at q<;>cases q
 omega
theorem agw(U:EnvTy P E){c:World}(f:Below W.heap.size W c){A:Nat->Bool}:∀{J:List TypeId} {vs:List Value} {ds:List (DataW H)} {ps:List MemPlace},(∀t∈J,qu E t)->
  BB enc P W 0 (λ_=>ag) ag J vs ds ps->(∀b,b< W.heap.size->A b=ag)->BB enc P c 0 A ag J vs ds ps
 |[],[],[],_,_,h,_=>h
 |t::J,v::vs,d::ds,_,g,⟨p,q,⟨n,h1⟩,h2,e⟩,i=>by
  refine⟨p,q,⟨n,?_⟩,agw U f (λt h=>g t (ff _ h)) h2 i,e⟩
  have I:=DataW.trod_lt _ _ _ _ h1;exact DataW.trod_stays (arf U) (λa b=>avx U a b) (λh=>by cases h) (g t (eh ..)) h1 (λx Z=>f.same (I x Z)) (λx Z=>i _ (I x Z))
theorem atx(y:EnvTy P E){f:Func}{s:ChangeSpec}{apart fresh A J:Bool}{a:World}{args:Array Value}{v:Value}{ds c:List (DataW H)}{before:List MemPlace}
  (n:ahb enc P f.params.toList s.vars af W args.toList ds c before) (i:apart=af) (o:s.vars=[]) (z:∀t∈f.params.toList,qu E t)
  (I:∀(b:Nat) (sp:Nat->Bool) (C:Bool),BB enc P a b sp C f.resultTypes.toList (v.resultList f.resultTypes.size) (s.fn H (ds++c)).results [])
  (U:(s.fn H (ds++c)).args=ds) (Z:(s.fn H (ds++c)).vars=[])
  (k:Below W.heap.size W a)
  (l:∀(j:Nat) (t:TypeId) (r:Value),f.resultTypes[j]? =ab t->(v.resultList f.resultTypes.size)[j]? =ab r->F8 P a .any 0 t r):
  s.post enc P f apart fresh A J W args v a:=by
 subst i;have m:=n;obtain⟨p,q,h1,h2,e,D,_⟩:=n;rw[o]at h2;obtain⟨rfl,rfl⟩:c=[]/\q=[]:=by
  cases c
  .trivial
  cases h2
 rw[List.append_nil]at e;obtain rfl:p=before:=e.symm;have u:∀sp,(∀b,b< W.heap.size->sp b=ag)->BB enc P a 0 sp ag f.params.toList args.toList (s.fn H (ds++[])).args p:=λsp G=>by
  rw[U];exact agw y k z h1 G
 have d:∀sp,aha enc P a sp s.vars (s.fn H (ds++[])).vars []:=λsp=>by rw[o,Z];rfl
 refine⟨ds,[],p,[],p,[],m,I _ _ _,u _ (λb K=>by simpa using K),d _,k.frame _,λ_=>?_⟩
 refine⟨l,_,_,([]++p)++[],⟨[]++p,[],trodAll_append (u _ (λ_ _=>rfl)) (I _ _ _),d _,rfl,λb off hp=>?_,λh=>by cases h⟩,λx L _=>by simpa using L⟩
 have g:=by simpa using hp
 rw[k.frozen (h1.lt _ g)];exact D b off g
theorem akk{f:Nat}{ds:List D}(h:vD nj P f ds (.bool ag)){args:Array Value}(w:World)(A:Gh.G λp=>w.cell? p)(I:a8 (λd x=>aR (λp=>w.cell? p) d ag [x]) ds args.toList):
  Calls P f args w λe w'=>e=.returned (.bool ag)/\Below w.heap.size w w':=by
 refine callsIn_wide.1 (yk (h 1 (λp=>w.cell? p) w args ⟨λ_ _ e=>e,A⟩ I) λe w' q=>?_)
 cases e with
 |returned x=>
  obtain⟨C',_,_,U,_,J⟩:=q;simp[aR]at J;grind
 |_=>trivial
end
end
end Go.As
end
