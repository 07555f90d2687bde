/- A part of the proof. -/
import Derived.Test.YtceibfdaacdjlaaGreatDoorA3
import Derived.ProofKit
import GoSem.ClaimGoes
import Derived.Deep.Slices
import Derived.ChangeStays
import Derived.ChangeOld
import Derived.Lib.SmallJoins
set_option linter.all false
open Array renaming getD_eq_getD_getElem?->k0,getElem?_setIfInBounds_self_of_lt->acw,replicate->oE
open Bool renaming and_eq_true->aM,false->af,true->ag
open Go.Builtin renaming append->acL
open Go.Callee renaming builtin->acO
open Go.CallsIn renaming mono->wK
open Go.Code renaming region->Kv,wpIn->Ac
open Go.DataW renaming Trod->acP,TrodAll->Ad,TrodVars->acQ,Whole->acR,trod->acS
open Go.Fence renaming wide->l6
open Go.Func renaming goes->Sg
open Go.Ground renaming data->Kw,phase->Sh
open Go.Lit renaming int->Aj
open Go.Made renaming depth->ac3
open Go.Op renaming assign->Sv
open Go.Oper renaming wpIn->KD
open Go.Operand renaming const->Sz,tmp->mQ
open Go.Region renaming wanted->rF
open Go.Result renaming andThen_ok->iJ
open Go.Sem renaming run_bind->eZ
open Go.Value renaming okWide->Eo,slice->pX
open List renaming drop_drop->tU,flatten_cons->nR,getElem?_eq_getElem->hJ,getElem_mem->fh,map_cons->oL,mem_append->cB,mem_cons->eT,mem_cons_of_mem->gB,mem_cons_self->e8,mem_map->lg,range->EE,rec->a8,take_append_drop->adP
open Nat renaming beq->ak,ble->bp,ble_eq_true_of_le->kl,blt->cA,eq_of_beq_eq_true->bR,le_max_left->EM,le_max_right->EN,le_of_ble_eq_true->gX,le_refl->aJ,le_trans->bU,lt_or_ge->km,rec->ko,succ_mul->aeh,zero_add->cV,zero_le->bX,zero_mul->rI
open Option renaming bind_eq_some_iff->ay,bind_some->ah,isSome_iff_exists->aej,none->ae,some->ab
open Option.some renaming inj->fu
noncomputable section
namespace Go.As
section
structure xh where
 id:Nat
 a:List D
 r:D
abbrev lq:=Tb (List xh)
def xY(i:Nat)(l:List xh)(ds:List D):Option D:=a8 ae (λe _ ih=>bif cA e.id i then(bif D.fU e.a ds then ab e.r else ih)else ih) l
def Env.jT(E:Env)(T:lq)(i:Nat):Env:={E with sm:=λf=>match T.find f with|some t=>ab (xY i t)|none=>ae}
def A3(E:Env)(T:lq)(n f:Nat)(e:xh):Bool:=match T4 (E.jT T e.id) n f e.a with|some r=>D.same r e.r|none=>af
def L3(E:Env)(T:lq)(n lo hi f:Nat)(l:List xh):Bool:=a8 ag (λe _ ih=>bif(bif bp lo e.id then(bif cA e.id hi then A3 E T n f e else ag)else ag)then ih else af) l
def chkR(E:Env)(T:lq)(n lo hi:Nat)(R:lq):Bool:=R.lz (L3 E T n lo hi)
end
section
variable [Gh] {F:Fence} {P:Program} {E:Env}
theorem n1(E:Env)(T:lq)(i f nt:Nat):∀c,codeOk (E.jT T i) f nt c=codeOk E f nt c
 |.seq a b=>by simp[codeOk,n1 E T i f nt a,n1 E T i f nt b]
 |.cond c a b=>by simp[codeOk,n1 E T i f nt a,n1 E T i f nt b]
 |.block _ b=>by simp[codeOk,n1 E T i f nt b]
 |.loop b=>by simp[codeOk,n1 E T i f nt b]
 |.scope b=>by simp[codeOk,n1 E T i f nt b]
 |.rangeFunc g ps a b=>by simp[codeOk,n1 E T i f nt a,n1 E T i f nt b]
 |.region id ops A|.skip|.label _|.exit _|.ret|.goto _|.refuse _=>rfl
abbrev xe(P:Program)(f:Nat):Prop:=∃fn c,P.funcs[f]? =some fn∧fn.body=some c∧(fn.name== "runtime.NumGoroutine")=false
def K4(F:Fence)(P:Program)(f:Nat)(a:List D)(r:D):Prop:=xe P f/\ud F P f a r
def Claim(F:Fence)(P:Program)(T:lq)(i:Nat):Prop:=∀f l,T.find f=ab l->∀e∈l,e.id< i->K4 F P f e.a e.r
theorem Claim.zero(T:lq):Claim F P T 0:=λ_ _ _ _ _ h=>absurd h (Nat.not_lt_zero _)
theorem Vt{i:Nat}:∀{l:List xh} {ds:List D} {r:D},xY i l ds=ab r->∃e∈l,e.id< i/\e.a=ds/\e.r=r
 |[],_,_,h=>by cases h
 |x::l,ds,r,h=>by
  have h:(bif cA x.id i then(bif D.fU x.a ds then ab x.r else xY i l ds)else xY i l ds)=ab r:=h;have A:xY i l ds=ab r->∃e∈x::l,e.id< i/\e.a=ds/\e.r=r:=λh=>by
   obtain⟨e,h1,h2⟩:=Vt h;grind
  cases I:cA x.id i with
  |false=>grind
  |true=>
   rw[I]at h;cases J:D.fU x.a ds with
   |true=>
    rw[J]at h;exact⟨x,by simp,gX I,D.mJ J,fu h⟩
   |false=>grind
theorem fv.jT(A:fv F P E){T:lq}{i:Nat}(h:Claim F P T i)(I:∀f t,T.find f=ab t->xe P f):fv F P (E.jT T i) where
 toEnvB:={A.toEnvB with}
 mixed:=A.mixed
 gh:=λf nt c=>by rw[n1];exact A.gh f nt c
 fn:=λf fn e=>let⟨h1,h2,h3⟩:=A.fn f fn e;⟨h1,h2,λc U=>by rw[n1];exact h3 c U⟩
 qM:=A.qM
 ext:=A.ext
 clone:=A.clone
 sm:=λg S e=>by
  have e:(match T.find g with|some t=>ab (xY i t)|none=>ae)=ab S:=e
  split at e
  .rename_i t J;cases e;refine⟨I g t J,λds d Z=>?_⟩
   obtain⟨e,h1,h2,rfl,rfl⟩:=Vt Z;exact(h g t J e h1 h2).2
  trivial
theorem Ub{T:lq}{n lo hi f:Nat}:∀{l:List xh},L3 E T n lo hi f l=ag->∀e∈l,lo<=e.id->e.id< hi->A3 E T n f e=ag
 |[],_,e,he,_,_=>by cases he
 |x::l,h,e,he,h1,h2=>by
  have h:(bif(bif bp lo x.id then(bif cA x.id hi then A3 E T n f x else ag)else ag)then L3 E T n lo hi f l else af)=ag:=h;cases A:(bif bp lo x.id then(bif cA x.id hi then A3 E T n f x else ag)else ag)with
  |false=>grind
  |true=>
   rw[A]at h;rcases eT.1 he with rfl|he
   .rw [kl h1,au,show cA e.id hi=ag from kl h2,au]at A;omega
   .exact Ub h e he h1 h2
theorem Claim.more(c:fv F P E)(hF:dk F){T:lq}{n lo hi:Nat}(h:Claim F P T lo)(A:∀f t,T.find f=ab t->xe P f)(d:chkR E T n lo hi T=ag):Claim F P T hi:=by
 have key:∀i,lo<=i->i<=hi->Claim F P T i:=by
  intro i;induction i with
  |zero=>grind
  |succ i ih=>
   intro h1 h2;rcases km i lo with a|a
   .grind
   .have I:=ih a (by omega)
    intro f l U e he Z;rcases km e.id i with h3|h3
    .exact I f l U e he h3
    .have eH:e.id=i:=by omega
     have:=Ub ((eG.of d).find U) e he (by omega) (by omega)
     unfold A3 at this;split at this
     .rename_i r b;have g:=D.oA this;rw[eH]at b;have J:=c.jT I A;have:=Bf (MC J hF n) J hF b;rw[g]at this;trivial
     trivial
 rcases km hi lo with j|j
 .exact λf l U e he Z=>h f l U e he (by omega)
 grind
end
def Hx(l:List (String×Nat))(nm:String):Option Nat:=a8 ae (λp _ ih=>bif decide (p.1=nm)then ab p.2 else ih) l
def aml(t:Tb (List (String×Nat)))(u:Nat)(nm:String):Option Nat:=(t.find u).bind λl=>Hx l nm
def lf{α:Type}(k:Nat)(v:α):Tb α:=.n k v .e .e
def Tb.pN{α:Type}(t:Tb α):List (Nat×α):=Tb.rec [] (λk v _ _ a b=>(k,v)::(a++b)) t
theorem eG.pN{α:Type}{p:Nat->α->Prop}:∀{t:Tb α},(∀x∈t.pN,p x.1 x.2)->eG p t
 |.e,_=>trivial
 |.n k v l r,h=>by
  have e:(Tb.n k v l r).pN=(k,v)::(l.pN++r.pN):=rfl;rw[e]at h;exact⟨h (k,v) (by simp),eG.pN λx A=>h x (by simp[A]),eG.pN λx A=>h x (by simp[A])⟩
theorem eG.maps{α:Type}{f:Nat->Option α}{t:Tb α}(h:t.pN.map (λx=>f x.1)=t.pN.map λx=>ab x.2):eG (λk v=>f k=ab v) t:=
 eG.pN λ_ A=>(List.map_inj_left.1 h) _ A
def dL(n:Nat):List (Nat×List Nat):=(ko (λ_=>[]) (λ_ ih n=>bif bp n 1 then[]else(n%10,[])::ih (n/10)) 200:Nat->List (Nat×List Nat)) n
def D.p(n:Nat):D:=.int .i64 (.ofNat n)
def D.q(n:Nat):D:=.int .i64 (.negSucc n)
def D.u(n:Nat):D:=.ar [.int .u32 (.ofNat n)]
def D.v(a b:Nat):D:=.agg 2 [.p a,.p b]
def V.z:V:=.im (.p 0)
def V.y:V:=.im (.int .u8 (.ofNat 0))
open Go.RowKit (Below)
section
variable [Gh]
section
variable {F:Fence} {P:Program} {B:Nat} {X:Cx} {O:Nat->Addr->Prop} {w:World} {h:Heap} {E:Env}
def Uf(T:Nat):Array Oper:=#[{dst:=some 2,op:=Sv (Sz (pX none 0 0)),type:=T,pos:= "slices.go:355",after:=#[],guard:=none}]
def Ft(T A:Nat):Array Oper:=#[{dst:=some 3,op:=Op.move (mQ 0),type:=T,pos:= "slices.go:357",after:=#[],guard:=none},
 {dst:=some 4,op:=Op.binOp BinOp.eql T (mQ 3) (Sz (pX none 0 0)) T,type:=A,pos:= "slices.go:357",after:=#[{on:=0,ground:=Kw}],guard:=none}]
def Ug(T:Nat):Array Oper:=#[{dst:=some 2,op:=Sv (Sz (pX none 0 0)),type:=T,pos:= "slices.go:358",after:=#[],guard:=none}]
def Uh(T:Nat):Array Oper:=#[{dst:=some 5,op:=Op.buildSlice T 0 #[],type:=T,pos:= "slices.go:362",after:=#[],guard:=none},
 {dst:=some 6,op:=Op.move (mQ 0),type:=T,pos:= "slices.go:362",after:=#[],guard:=none},
 {dst:=some 7,op:=Op.call {callee:=acO acL,args:=#[mQ 5,mQ 6],argTypes:=#[T,T]},type:=T,pos:= "slices.go:362",
  after:=#[{on:=0,ground:=Kw},{on:=1,ground:=Kw}],guard:=ae},
 {dst:=some 2,op:=Sv (mQ 7),type:=T,pos:= "slices.go:362",
  after:=#[{on:=2,ground:=Kw},{on:=2,ground:=Ground.chain},{on:=0,ground:=Sh},{on:=1,ground:=Sh},{on:=2,ground:=Sh}],guard:=ae}]
def L6(T A:Nat):Code:=
 (Kv 0 (Uf T) af).seq (((Kv 1 (Ft T A) af).seq (Code.cond (mQ 4) ((Kv 2 (Ug T) af).seq Code.ret) Code.skip)).seq ((Kv 3 (Uh T) af).seq Code.ret))
theorem H4(c:EnvB P E)(hF:dk F){ops:Array Oper}{o:Oper}{nt n:Nat}{a:Act}{st:St}(s:SR nt B X O w a st)(d:o.guard=ae)(g:sI o=ag)(I:pj nt o=ag){aw:Nat}{v:V}{h':Heap}(i:aq st.h aw=ae)(j:X.M aw=ae)(J:aw<=st.h.length)
  (e:bY E af aw st.t st.h o.op=ab (v,h')) {K:Act->World->Prop} {Q:Exit->Act->World->Prop} (k:∀X' O' w' Z,SR nt B X' O' w' Z ⟨putDst st.t o.dst v,h',st.lp,st.df⟩->Step B X O w st.h X' O' w' h'->K Z w'):
  if rF o (yielded ops a.tmps)=ag then o.wpIn F n P a w K Q else(∀f,o.about P w a.eval=ab f->F.fn f)/\K (a.put o.dst undef) w:=by
 obtain⟨U,l⟩:=H2 I;have hw:rF o (yielded ops a.tmps)=ag:=by simp[rF,d]
 rw[aK hw];refine⟨λf _=>hF.fn f,?_⟩
 rw[yN g];obtain⟨x,m,p,q,A,r,q2,b⟩:=wq c s.h i j J s.t l e;have u:=(s.step r b).put U q2;rcases A with A|⟨A,rfl⟩<;>rw[A]<;>exact k p q m _ u b
theorem ahb{T el:Nat}(A:P.underlying T=ab (.slice el))(b:Option Addr)(n c:Nat):(do eqGuard .eql T (.tmp 3) (.const (.slice ae 0 0)) (.slice b n c) (.slice ae 0 0);binOp .eql T (.slice b n c) (.slice ae 0 0):Sem Value).run P w=.ok (.bool b.isNone) w:=by
 have h1:(eqGuard .eql T (.tmp 3) (.const (.slice ae 0 0)) (.slice b n c) (.slice ae 0 0)).run P w=.ok () w:=by rfl
 have h2:(Op.equal T (.slice b n c) (.slice ae 0 0)).run P w=.ok b.isNone w:=by
  unfold Op.equal;rw[show Op.maxDepth=9999+1 from rfl];unfold Op.equalIn;cases b<;>simp[run_underlying A]
 simp[h1,binOp,h2]
theorem aiC(h:Heap){n:Nat}(a b:bK)(I:n<=h.length):aD (aD h n a) n b=aD h n b:=by
 have h1:=bL h n a;have h2:=bL h n b;have h3:=bL (aD h n a) n b;have A:n<(aD h n a).length:=by grind
 rw[aK A]at h3;refine Gv (by omega) λi=>?_
 rw[bG _ n i b (by omega),bG h n i b I,bG h n i a I]
 split<;>rfl
theorem agC{x:V}{l:List D}{aw:Nat}{k:bK}(A:x.ks h=ab l)(c:aq h aw=ae)(I:aw<=h.length):x.ks (aD h aw k)=ab l/\kD (aD h aw k) x=af:=by
 unfold V.ks at A;split at A
 .trivial
 .trivial
 .rename_i b g off len aR;split at A
  .rename_i Z s ro a d;have J:b≠aw:=λe=>by grind
   have U:aq (aD h aw k) b=ab (.arr Z s ro a):=by rw[bG h aw b k I,az J];omega
   simp[V.ks,U,A,kD]
  trivial
 trivial
theorem agi(R:EnvB P E)(hF:dk F){g T Y el:Nat}{fn:Func}{ti te:TI}(hf:P.funcs[g]? =some fn)(hb:fn.body=some (L6 T Y))(u:(fn.name== "runtime.NumGoroutine")=false)(hnt:fn.ntmps=8)(NU:fn.results=#[.tmp 2])
  (hT:E.ty T=ab ti) (c:ti.k=.ar el) (C:E.ty el=ab te) (n:Nat) (hr:HR B X O w h) (xs:List V) (args:Array Value) (ha:aZ (λv x=>an X v ag [x]) xs args.toList)
  (aw:Nat) (hn:aq h aw=ae) (hM:X.M aw=ae) (J:aw<=h.length) (v:V) (h':Heap) (e:qo E aw el xs h=ab (v,h')):e9 F n P B X O w h (callFunc g args) v h':=by
 have hTu:P.underlying T=ab (.slice el):=by have:=(R.ty T ti hT).kind;rw[c]at this;trivial
 unfold qo at e;split at e
 .rename_i x;rw[C,ah]at e;obtain⟨l,hl,e⟩:=ay.1 e;obtain⟨hc,e⟩:=aQ e;cases e;simp only[aM]at hc;obtain⟨⟨hz,i⟩,Nq,G⟩:=hc;obtain⟨vx,r,ea,rx,rr⟩:=ha;cases rr;have ah2:args=#[vx]:=by apply Array.toList_inj.1;rw[ea]
  subst ah2;refine .inr ⟨g,#[vx],ql hf hb u _,?_⟩;refine callsIn_of_wp hf hb (hF.fn g) ?_ hF.round;obtain⟨A,Z,a,e1,e2,e3,e4,e5⟩:=FA hr hl rx;subst e1;have s0:SR 8 B X O w {tmps:=#[pX A Z a]++oE (fn.ntmps-1) undef,defers:=[]} ⟨gP 8 [x],h,[],[]⟩:=by
   have:=Rs hr (l:=[x]) (args:=#[pX A Z a]) (aZ.cons rx aZ.nil) (nt:=8) rfl;rw[hnt];exact this
  show(L6 T Y).wpIn F n P (bodyPost P fn _) {tmps:=#[pX A Z a]++oE (fn.ntmps-1) undef,defers:=[]} w;have o:({tmps:=#[pX A Z a]++oE (fn.ntmps-1) undef,defers:=[]}:Act).tmps.getD 0 undef=.slice A Z a:=by
   show(#[pX A Z a]++oE (fn.ntmps-1) undef).getD 0 undef=_;rw[k0,Array.getElem?_append_left (by simp)];rfl
  have aiN:({tmps:=#[pX A Z a]++oE (fn.ntmps-1) undef,defers:=[]}:Act).tmps.size=8:=s0.n;generalize({tmps:=#[pX A Z a]++oE (fn.ntmps-1) undef,defers:=[]}:Act)=a0 at s0 o aiN|-;have b:an X (.full []) ag [.slice ae 0 0]:=by simp only[an];exact⟨_,rfl,ae,0,rfl,rfl,bX _,.inl rfl⟩
  have p:∀{X1:Cx} {O1:Nat->Addr->Prop} {w1:World} {I:Act} {st:St},SR 8 B X1 O1 w1 I st->st.df=[]->
    (∀y,an X1 (st.t.get 2) ag [y]->∃X2 O2,HR B X2 O2 w1 (aD h aw (.arr 1 te.size 0 l))/\an X2 (.own aw 1 0 (aA l) af) ag [y]/\Step B X O w h X2 O2 w1 (aD h aw (.arr 1 te.size 0 l)))->
    bodyPost P fn (λe w'=>match e with|.returned x=>rJ B X O w h (.own aw 1 0 (aA l) af) (aD h aw (.arr 1 te.size 0 l)) x w'|_=>False) .ret I w1:=λ{X1 O1 w1 I st} K uK hk=>by
   have had:I.defers=[]:=DF.Cn (by have:=K.df;rw[uK]at this;exact this)
   obtain⟨y,hy1,hy2⟩:=JE R.toEnvTy K.h K.t (fn:=fn) (v:=st.t.get 2) (by unfold kV;rw[NU];rfl)
   obtain⟨X2,O2,q1,q2,q3⟩:=hk _ hy2;exact⟨had,y,hy1,X2,O2,q1,q2,q3⟩
  refine wpIn_seq (wpIn_region ?_);show wpOpsIn F n P (Uf T) _ [0] a0 w;refine(show KD F n P _ a0 w _ _ from ?_);refine⟨λf _=>hF.fn f,?_⟩
  rw[yN (by rfl)]
  have K:=s0.put (dst:=some 2) (λd L=>by cases L;decide) b
  show Ac F n P _ _ (a0.put (ab 2) (.slice ae 0 0)) w;generalize Na:a0.put (ab 2) (.slice ae 0 0)=I at K|-;have s:I.tmps.getD 0 undef=.slice A Z a:=by
   rw[<-Na];show(a0.tmps.setIfInBounds 2 (.slice ae 0 0)).getD 0 undef=_;rw[k0,Array.getElem?_setIfInBounds,az (by decide),<-k0]
   exact o
  refine wpIn_seq (wpIn_seq (wpIn_region ?_));show wpOpsIn F n P (Ft T Y) _ [0,1] I w;refine(show KD F n P _ I w _ _ from ?_);refine⟨λf _=>hF.fn f,?_⟩
  rw[yN (by rfl)]
  have hmv:an X x ag [I.eval (.tmp 0)]:=by
   show an X x ag [I.tmps.getD 0 undef];rw[s];exact rx
  have s2:=K.put (dst:=some 3) (λd L=>by cases L;decide) hmv
  show wpOpsIn F n P (Ft T Y) _ [1] (I.put (ab 3) (I.eval (.tmp 0))) w;generalize Nb:I.put (ab 3) (I.eval (.tmp 0))=j at s2|-;have aid:j.eval (.tmp 3)=.slice A Z a:=by
   rw[<-Nb];show(I.tmps.setIfInBounds 3 (I.tmps.getD 0 undef)).getD 3 undef=_;have hs:3< I.tmps.size:=by have:=K.n;omega
   rw[s,k0,acw hs];rfl
  refine(show KD F n P _ j w _ _ from ?_);refine⟨λf _=>hF.fn f,?_⟩
  rw[yN (by rfl)]
  have BQ:(execOp j.eval ((Ft T Y)[1]'(by show 1< 2;decide))).run P w=.ok (.value (.bool A.isNone)) w:=by
   show(do pure (Next.value (<-(do eqGuard .eql T (.tmp 3) (.const (.slice ae 0 0)) (j.eval (.tmp 3)) (.slice ae 0 0);binOp .eql T (j.eval (.tmp 3)) (.slice ae 0 0)))):Sem Next).run P w=_;rw[aid];have:=ahb (w:=w) hTu A Z a;rw[eZ,this];rfl
  rw[BQ];have s3:=s2.put (dst:=some 4) (λd L=>by cases L;decide) (v:=.im (.bool A.isNone)) (x:=.bool A.isNone) (by simp[an,aN])
  show Ac F n P _ _ (j.put (ab 4) (.bool A.isNone)) w;generalize ha3:j.put (ab 4) (.bool A.isNone)=N at s3|-;have aie:N.eval (.tmp 4)=.bool A.isNone:=by
   rw[<-ha3];show(j.tmps.setIfInBounds 4 _).getD 4 undef=_;have hs:4< j.tmps.size:=by have:=s2.n;omega
   rw[k0,acw hs];rfl
  refine wpIn_cond aie ?_;cases A with
  |none=>
   have hnx:Z=0:=by
    rcases e5 with e5|⟨a0',_,_,q,_⟩
    .exact e5
    .cases q
   have BM:l=[]:=List.eq_nil_of_length_eq_zero (by omega)
   subst BM;show Ac F n P _ _ N w;refine wpIn_seq (wpIn_region ?_);show wpOpsIn F n P (Ug T) _ [0] N w;refine(show KD F n P _ N w _ _ from ?_);refine⟨λf _=>hF.fn f,?_⟩
   rw[yN (by rfl)]
   have S:=s3.put (dst:=some 2) (λd L=>by cases L;decide) b
   show Ac F n P _ _ (N.put (ab 2) (.slice ae 0 0)) w;refine wpIn_ret ?_;refine p S rfl λy m=>?_
   have Ns:(putDst (putDst (putDst (putDst (gP 8 [x]) (ab 2) (.full [])) (ab 3) x) (ab 4) (.im (.bool (ae:Option Addr).isNone))) (ab 2) (.full [])).get 2=.full []:=rfl;have m:an X (.full []) ag [y]:=by rw[<-Ns];exact m
   simp only[an]at m;obtain⟨y',ey,ya,yn,y1,y2,_,_⟩:=m;cases ey;subst y1;have yn0:yn=0:=y2;subst yn0;let bi:BI:=⟨1,ya,te.size,0,af⟩;have BF:BR (X.du aw bi) w (λ_=>False) aw (.arr 1 te.size 0 []):=⟨bi,Cx.eL _ _ _,rfl,rfl,⟨aJ _,aJ _⟩,bX _,.inl rfl⟩
   refine⟨X.du aw bi,_,hr.add hn hM J (.refl w) (aJ _) bi (λ_=>False) _ (λ_ h=>h.elim) BF,?_,⟨Up.add hM (.refl _ _) (.refl w) _ bi,by rw[bL];split<;>omega,.add hM J (.refl w) bi _ _⟩⟩
   simp only[an];exact⟨_,rfl,⟨ya,0,rfl,aJ _,by decide,.inl rfl⟩,bi,Cx.eL _ _ _,aJ _,λ_=>⟨ya,0,rfl,aJ _,by decide,aJ _,(λh=>by cases h),.inl rfl⟩⟩
  |some U=>
   show Ac F n P _ _ N w;refine wpIn_skip ?_;refine wpIn_seq (wpIn_region ?_);show wpOpsIn F n P (Uh T) _ [0,1,2,3] N w;simp only[wpOpsIn];have hbs:bY E af aw (putDst (putDst (putDst (gP 8 [x]) (ab 2) (.full [])) (ab 3) x) (ab 4) (.im (.bool (ab U:Option Addr).isNone))) h (.buildSlice T 0 #[])=ab (.own aw 0 0 0 af,aD h aw (.arr 0 te.size 0 [])):=by
    show kW E af aw h T 0 []=_;unfold kW;rw[hT,ah,c];simp only[C,ah];unfold Kr at i;split at i
    .rename_i z N0;rw[N0];simp only[ah,i,Bool.not_true,ax];simp[lC,fi,jo,close,kU];rfl
    .cases i
   refine H4 R hF s3 rfl rfl rfl hn hM J hbs λX4 O4 w4 a4 S p4=>?_
   have S:SR 8 B X4 O4 w4 a4 ⟨putDst (putDst (putDst (putDst (gP 8 [x]) (ab 2) (.full [])) (ab 3) x) (ab 4) (.im (.bool (ab U:Option Addr).isNone))) (ab 5) (.own aw 0 0 0 af),aD h aw (.arr 0 te.size 0 []),[],[]⟩:=S;refine H4 (aw:=(aD h aw (.arr 0 te.size 0 [])).length) R hF S rfl rfl rfl (lN rfl) (kJ S.h) (aJ _) (v:=x) (h':=aD h aw (.arr 0 te.size 0 [])) rfl λX5 O5 w5 a5 s5 p5=>?_
   have s5:SR 8 B X5 O5 w5 a5 ⟨putDst (putDst (putDst (putDst (putDst (gP 8 [x]) (ab 2) (.full [])) (ab 3) x) (ab 4) (.im (.bool (ab U:Option Addr).isNone))) (ab 5) (.own aw 0 0 0 af)) (ab 6) x,aD h aw (.arr 0 te.size 0 []),[],[]⟩:=s5;have VZ:=agC (k:=.arr 0 te.size 0 []) hl hn J;have Nc:fc E (aD h aw (.arr 0 te.size 0 [])).length .append #[T,T] [.own aw 0 0 0 af,x] (aD h aw (.arr 0 te.size 0 []))=ab (.own aw 1 0 (0+aA l) af,aD (aD h aw (.arr 0 te.size 0 [])) aw (.arr 1 te.size 0 ([]++l))):=by
    have Nr:aq (aD h aw (.arr 0 te.size 0 [])) aw=ab (.arr 0 te.size 0 []):=by rw[bG h aw aw _ J,aK rfl]
    show uu E _ #[T,T] (.own aw 0 0 0 af) x _=_;unfold uu;show((E.ty T).bind _)=_;rw[hT,ah,c];simp only[C,ah];show(Option.bind (ab T) _)=_;rw[ah,hz,au];have Wh:E.kind T=ab (.ar el):=by unfold Env.kind;rw[hT];simp[c]
    unfold oQ;rw[Wh];have ain:kD (aD h aw (.arr 0 te.size 0 [])) (.own aw 0 0 0 af)=af:=by unfold kD;simp only[Nr]
    simp only[u6,ax,ain,VZ.2,Bool.or_self];have aiv:vj E te T x (aD h aw (.arr 0 te.size 0 []))=ab l:=by
     unfold vj;rw[Wh];have uQ:(x.ks (aD h aw (.arr 0 te.size 0 []))).bind (λl=>bif gZ te.size l then ab l else ae)=ab l:=by
      rw[VZ.1,ah,Nq,au]
     cases x<;>exact uQ
    rw[aiv,ah];unfold uo;simp only[Nr,ax];have Nk:dc 0 0 0 0 ([]:List D)=ag:=rfl;rw[Nk];have hrm:room (0+aA l) te.bytes=ag:=by rw[cV];exact G
    simp only[Nat.beq_refl,hrm,Bool.and_self,kl (aJ 0),au];rfl
   have Q:bY E af (aD h aw (.arr 0 te.size 0 [])).length (putDst (putDst (putDst (putDst (putDst (gP 8 [x]) (ab 2) (.full [])) (ab 3) x) (ab 4) (.im (.bool (ab U:Option Addr).isNone))) (ab 5) (.own aw 0 0 0 af)) (ab 6) x) (aD h aw (.arr 0 te.size 0 []))
     (.call {callee:=acO acL,args:=#[mQ 5,mQ 6],argTypes:=#[T,T]})=ab (.own aw 1 0 (0+aA l) af,aD (aD h aw (.arr 0 te.size 0 [])) aw (.arr 1 te.size 0 ([]++l))):=by
    have aif:dm (putDst (putDst (putDst (putDst (putDst (gP 8 [x]) (ab 2) (.full [])) (ab 3) x) (ab 4) (.im (.bool (ab U:Option Addr).isNone))) (ab 5) (.own aw 0 0 0 af)) (ab 6) x) #[mQ 5,mQ 6]=[.own aw 0 0 0 af,x]:=rfl;show fc E _ .append #[T,T] (dm _ #[mQ 5,mQ 6]) _=_;rw[aif];exact Nc
   refine H4 (aw:=(aD h aw (.arr 0 te.size 0 [])).length) R hF s5 rfl rfl rfl (lN rfl) (kJ s5.h) (aJ _) Q λX6 O6 w6 a6 s6 p6=>?_
   have s6:SR 8 B X6 O6 w6 a6 ⟨putDst (putDst (putDst (putDst (putDst (putDst (gP 8 [x]) (ab 2) (.full [])) (ab 3) x) (ab 4) (.im (.bool (ab U:Option Addr).isNone))) (ab 5) (.own aw 0 0 0 af)) (ab 6) x) (ab 7) (.own aw 1 0 (0+aA l) af),aD (aD h aw (.arr 0 te.size 0 [])) aw (.arr 1 te.size 0 ([]++l)),[],[]⟩:=s6;refine H4 (aw:=(aD (aD h aw (.arr 0 te.size 0 [])) aw (.arr 1 te.size 0 ([]++l))).length) R hF s6 rfl rfl rfl (lN rfl) (kJ s6.h) (aJ _) (v:=.own aw 1 0 (0+aA l) af) (h':=aD (aD h aw (.arr 0 te.size 0 [])) aw (.arr 1 te.size 0 ([]++l))) rfl λX7 O7 w7 a7 s7 p7=>?_
   show Ac F n P _ _ a7 w7;refine wpIn_ret ?_;refine p s7 rfl λy m=>?_
   have m:an X7 (.own aw 1 0 (0+aA l) af) ag [y]:=m;rw[cV]at m;have hh:aD (aD h aw (.arr 0 te.size 0 [])) aw (.arr 1 te.size 0 ([]++l))=aD h aw (.arr 1 te.size 0 l):=by rw[aiC h _ _ J];rfl
   have s7h:=s7.h;have st:=((p4.trans p5).trans p6).trans p7;simp only[hh]at s7h st;exact⟨X7,O7,s7h,m,st⟩
 trivial
end
def HQ(P:Program)(u:Nat):Bool:=match P.underlying u with|some (.pointer _)=>af|some _=>ag|none=>af
def Pd(P:Program)(u:Nat)(nm:String)(g:Nat):Bool:=
 match P.info? u with
 |some i=>(match i.methods.find? (λm=>m.name==nm)with
  |some m=>(match m.path.toList,m.func with|[],ab (f,af)=>bif ak f g then HQ P u else af|_,_=>af)
  |none=>af)
 |none=>af
def YA(P:Program)(u:Nat)(l:List (String×Nat)):Bool:=l.all λp=>Pd P u p.1 p.2
theorem YB{nm:String}{g:Nat}:∀{l:List (String×Nat)},Hx l nm=ab g->(nm,g)∈l
 |[],e=>by cases e
 |p::l,e=>by
  have e:(bif decide (p.1=nm)then ab p.2 else Hx l nm)=ab g:=e
  cases h:decide (p.1=nm)with
  |true=>
   rw[h,au]at e
   have:=of_decide_eq_true h
   cases e;subst this;simp
  |false=>
   rw[h,ax]at e
   exact gB _ (YB e)
theorem amU{P:Program}{u:Nat}(h:HQ P u=ag):∃d,P.underlying u=ab d/\∀e,d≠.pointer e:=by
 unfold HQ at h
 split at h
 .cases h
 .rename_i d A I
  exact⟨d,I,λe q=>A e q⟩
 .cases h
theorem amn{P:Program}{u g:Nat}{nm:String}(h:Pd P u nm g=ag)(n:Nat)(v:Value)(w:World):(method (n+1) u v nm).run P w=.ok (g,v) w:=by
 unfold Pd at h
 split at h
 .rename_i i hi
  split at h
  .rename_i m hm
   split at h
   .rename_i f hp hf
    obtain⟨A,h2⟩:ak f g=ag/\HQ P u=ag:=by
     cases A:ak f g with
     |true=>rw[A,au]at h;exact⟨rfl,h⟩
     |false=>rw[A,ax]at h;cases h
    have I:=b9 A
    subst I
    obtain⟨d,J,U⟩:=amU h2
    have Z:(typeInfo u).run P w=.ok i w:=by simp[typeInfo,hi]
    have a:=run_underlying (w:=w) J
    unfold method
    simp only[eZ,Z,iJ,hm,hp,follow,hf]
    have b:∀o,(receiverAt u (.val v) af o).run P w=.ok v w:=λo=>by
     unfold receiverAt
     rw[eZ,a,iJ]
     split
     .simp_all
     .simp_all
     .simp_all
     .simp_all
     .rename_i q;cases q;simp[Place.get]
    simp[b]
   .cases h
  .cases h
 .cases h
def xf(P:Program)(E:Env)(g el:Nat):Prop:=
 ∃fn T A,P.funcs[g]? =some fn∧fn.body=some (L6 T A)∧(fn.name== "runtime.NumGoroutine")=false∧fn.ntmps=8∧fn.results=#[.tmp 2]∧
  (match E.ty T with|some ti=>(match ti.k with|.ar e=>bif ak e el then(E.ty el).isSome else af|_=>af)|none=>af)=ag
theorem xf.sound{F:Fence}{P:Program}{E:Env}{g el:Nat}(U:EnvB P E)(hF:dk F)(h:xf P E g el):∀(n B:Nat) (X:Cx) (O:Nat->Addr->Prop) (w:World) (h:Heap),HR B X O w h->∀(xs:List V) (args:Array Value),aZ (λv x=>an X v ag [x]) xs args.toList->
  ∀aw,aq h aw=ae->X.M aw=ae->aw<=h.length->∀v h',qo E aw el xs h=ab (v,h')->e9 F n P B X O w h (callFunc g args) v h':=by
 obtain⟨fn,T,i,h1,h2,h3,Z,a,A⟩:=h
 split at A
 .rename_i ti I
  split at A
  .rename_i e he
   cases J:ak e el with
   |false=>rw[J,ax]at A;cases A
   |true=>
    rw[J,au]at A
    have:=b9 J
    subst this
    obtain⟨te,hte⟩:=aej.1 A
    intro n B X O w h b xs args c aw d q2 f v h' e
    exact agi U hF h1 h2 h3 Z a I he hte n b xs args c aw d q2 f v h' e
  .cases A
 .cases A
abbrev yF(ty:Tb TI)(fn:Tb Func)(cl:Tb Nat)(mt:Tb (List (String×Nat)))(inl keep:Nat->Bool)(dr:Nat->Nat->Option (List (Nat×List Nat)))(fy:Nat×Nat)(ex:Tb Nat)(A:Nat->Nat->Option (Nat×Nat)):Env:=
 ⟨ty.find,fn.find,λ_=>ae,cl.find,λg=>(ex.find g).getD 0,aml mt,inl,keep,dr,fy,A⟩
def ET(F:Fence)(P:Program)(g x:Nat):Prop:=∀(n B:Nat) (X:Cx) (O:Nat->Addr->Prop) (w:World) (h:Heap),HR B X O w h->∀(xs:List V) (args:Array Value),aZ (λv x=>an X v ag [x]) xs args.toList->∀v h',gI x xs h=ab (v,h')->e9 F n P B X O w h (callFunc g args) v h'
theorem ag4{F:Fence}{P:Program}(hF:dk F){ty:Tb TI}{fn:Tb Func}{cl:Tb Nat}{mt:Tb (List (String×Nat))}{inl keep:Nat->Bool}{dr:Nat->Nat->Option (List (Nat×List Nat))}{fy:Nat×Nat}{ex:Tb Nat}{I:Nat->Nat->Option (Nat×Nat)}
  (h1:ty.lz (Kb P)=ag) (d:cA 12 P.depth=ag) (b:(ty.find fy.1).isNone=ag) (hm:P.follows .mixedOrders=ag)
  (J:∀f nt c,Gh.K f nt c↔(codeOk (yF ty fn cl mt inl keep dr fy ex I) f nt c=ag/\gq c=ag))
  (hf:eG (λf A=>P.funcs[f]? =ab A) fn) (U:fn.lz (Bw (yF ty fn cl mt inl keep dr fy ex I))=ag)
  (Z:mt.lz (YA P)=ag) (a:eG (xf P (yF ty fn cl mt inl keep dr fy ex I)) cl) (i:eG (ET F P) ex):fv F P (yF ty fn cl mt inl keep dr fy ex I):=
 have hB:EnvB P (yF ty fn cl mt inl keep dr fy ex I):={
  ty:=λt ti e=>aqs ((eG.of h1).find e)
  depth:=gX d
  jU:=λti e=>by
   have e:ty.find fy.1=ab ti:=e
   rw[e]at b;cases b}
 {toEnvB:=hB
  mixed:=hm
  gh:=J
  fn:=λf A e=>by
   have e:fn.find f=ab A:=e
   obtain⟨j,q2⟩:=Vz ((eG.of U).find e)
   exact⟨hf.find e,j,q2⟩
  qM:=λu nm g e v w=>by
   have e:((mt.find u).bind λl=>Hx l nm)=ab g:=e
   obtain⟨l,k,e⟩:=ay.1 e
   have h:=(eG.of Z).find k
   have h:=(List.all_eq_true.1 h) _ (YB e)
   obtain⟨n,m⟩:=Nat.exists_eq_succ_of_ne_zero (n:=P.types.size+ac3) (by unfold ac3;omega)
   rw[m]
   exact amn h n v w
  sm:=λg S e=>by cases e
  ext:=λg e=>by
   have e:(ex.find g).getD 0≠0:=e
   show ET F P g ((ex.find g).getD 0)
   cases J:ex.find g with
   |none=>rw[J]at e;exact absurd rfl e
   |some x=>exact i.find J
  clone:=λg el e=>(a.find e).sound hB hF}
theorem afy{P:Program}{E:Env}{T:lq}{fn:Tb Func}(hf:eG (λf A=>P.funcs[f]? =ab A) fn)(J:fn.lz (Bw E)=ag)(h:T.lz (λf _=>match fn.find f with|some fn=>fn.body.isSome|none=>af)=ag):
  ∀f t,T.find f=ab t->xe P f:=λf t e=>by
 have h:=(eG.of h).find e
 split at h
 .rename_i A I
  obtain⟨c,U⟩:=aej.1 h
  exact⟨A,c,hf.find I,U,(Vz ((eG.of J).find I)).1⟩
 .cases h
end
section
open Go.ChangeShapes Go.WideShapes
variable [Gh]
variable {P:Program}
theorem tB{k:IntKind}{n:Int}(h:(Aj k n).wf=ag):ig k n:=by
 simp[Lit.wf,aM]at h;exact h
theorem arS{C:IV}{k:IntKind}{n:Int}{m:Bool}(h:(Aj k n).wf=ag):aN C (.int k n) m [.int k n]:=by
 refine⟨?_,tB h⟩;trivial
theorem arR{C:IV}{A k1 k2 I:IntKind}{J U Z a:Int}(b:(Aj A J).wf=ag)(c:(Aj k1 U).wf=ag)(d:(Aj k2 Z).wf=ag)(e:(Aj I a).wf=ag):
  aN C (.agg 4 [.int A J,.int k1 U,.int k2 Z,.int I a]) ag [.agg #[.int A J,.int k1 U,.int k2 Z,.int I a]]:=by
 exact⟨_,[[.int A J],[.int k1 U],[.int k2 Z],[.int I a]],rfl,rfl,⟨_,_,rfl,⟨rfl,tB b⟩,_,_,rfl,⟨rfl,tB c⟩,_,_,rfl,⟨rfl,tB d⟩,_,_,rfl,⟨rfl,tB e⟩,rfl⟩,rfl⟩
theorem aq9{f:Nat}{ds:List D}(h:ud l6 P f ds (.bool ag)){args:Array Value} w{C:IV}(A:CI C w)(I:aZ (λd x=>aN C d ag [x]) ds args.toList):
  Calls P f args w λe w'=>e=.returned (.bool ag)/\Below w.heap.size w w':=by
 refine callsIn_wide.1 (wK (h 1 C w _ A I) λe w' q=>?_)
 grind[aN]
theorem arO{H:Type}{enc:TypeId×Value->H}{f:Func}{s:ChangeSpec}{apart fresh A Z:Bool}{W a:World}{args:Array Value}{v:Value}{ds c:List (DataW H)}
  (e:acR enc P f.params.toList s.vars apart W args.toList ds c [])
  (U:∀b sp g,Ad enc P a b sp g f.resultTypes.toList (v.resultList f.resultTypes.size) (s.fn H (ds++c)).results [])
  (I:∀sp,Ad enc P a 0 sp ag f.params.toList args.toList (s.fn H (ds++c)).args [])
  (J:∀sp,acQ enc P a sp s.vars (s.fn H (ds++c)).vars [])
  (i:Below W.heap.size W a)
  (d:∀(j:Nat) t r,f.resultTypes[j]? =ab t->(v.resultList f.resultTypes.size)[j]? =ab r->Eo P a .any 0 t r):
  s.post enc P f apart fresh A Z W args v a:=by
 refine⟨ds,c,[],[],[],[],e,U _ _ _,I _,J _,i.frame _,λ_=>?_⟩
 exact⟨d,_,_,[]++[]++[],⟨[]++[],[],trodAll_append (I _) (U _ _ _),J _,rfl,λb off hp=>by trivial,λ_=>by simp⟩,λp hp _=>by trivial⟩
theorem goesBy_none{c:OpenClaim}(I:c.start=.entering)(h:P.funcs.toList.any Sg=af):af=c.goesBy P:=by
 have h2:P.funcs.any Sg=af:=by grind
 have A:∀g:Nat,P.funcs[g]?.any Sg=af:=λg=>by
  grind
 have hf:∀f,P.goes f=af:=λf=>by
  simp[Program.goes,A,h2]
 unfold OpenClaim.goesBy Program.goesAt Program.goesFrom;cases P.funcNamed _<;>first|grind|rfl
end
section
abbrev IH:=Nat->Nat->Nat->Code->St->Option (Ex×St)
structure Ask where
 f:Nat
 fb:Nat
 cur:Nat
 c:Code
 st:St
 r:Ex×St
def Holds(S:List Ask)(ih:IH):Prop:=∀p∈S,ih p.f p.fb p.cur p.c p.st=ab p.r
def aa{α:Type}(c:IH->Option α):Prop:=∀ih r,c ih=ab r->∃S,Holds S ih/\∀A,Holds S A->c A=ab r
theorem aa.const{α:Type}(o:Option α):aa (λ_=>o):=λ_ _ h=>⟨[],(λ_ h=>by cases h),λ_ _=>h⟩
theorem aa.ask(f fb cur:Nat)(c:Code)(st:St):aa (λih=>ih f fb cur c st):=λih r h=>
 ⟨[⟨f,fb,cur,c,st,r⟩],(λp hp=>by grind),λA h'=>h' _ (List.mem_singleton.2 rfl)⟩
theorem aa.bind{α β:Type}{c:IH->Option α}{k:α->IH->Option β}(I:aa c)(J:∀x,aa (k x)):aa (λih=>(c ih).bind λx=>k x ih):=λih r h=>by
 obtain⟨x,h1,h2⟩:=ay.1 h;obtain⟨S,U,Z⟩:=I ih x h1;obtain⟨T,t1,t2⟩:=J x ih r h2;refine⟨S++T,λp hp=>?_,λA h'=>?_⟩
 .rcases cB.1 hp with hp|hp
  .exact U p hp
  .exact t1 p hp
 .show (c A).bind _=_;rw[Z A λp hp=>h' p (cB.2 (.inl hp))]
  exact t2 A λp hp=>h' p (cB.2 (.inr hp))
theorem aa.of{α:Type}{c d:IH->Option α}(h:aa d)(e:∀ih,c ih=d ih):aa c:=by
 have:=funext e;simp[this,h]
theorem aa.kG{α β:Type}{c:IH->Option α}{F:IH->Option β}(A:aa c)(k:α->IH->Option β)(I:∀x,aa (k x))(J:∀ih,c ih=ae->F ih=ae)(U:∀ih x,c ih=ab x->F ih=k x ih):aa F:=
 (A.bind I).of λih=>by
  cases h:c ih<;>first|rename_i x;rw[U ih x h];rfl|rw[J ih h];rfl
theorem aa.cond{α:Type}{b:Bool}{c d:IH->Option α}(A:aa c)(I:aa d):aa (λih=>bif b then c ih else d ih):=by
 cases b
 all_goals trivial
theorem aa.map{α β:Type}{c:IH->Option α}(A:aa c)(g:α->β):aa (λih=>(c ih).map g):=
 (A.bind (k:=λx _=>ab (g x)) λx=>aa.const _).of λih=>by cases c ih<;>rfl
section
variable (E:Env)
theorem apb(f:Nat)(args:List V)(h:Heap)(lp:List Rec):aa (λih=>tg E ih f args h lp):=by
 refine aa.bind (aa.const _) λfn=>aa.bind (aa.const _) λc=>?_
 have:aa (λih=>bif bp (aA args) fn.ntmps then ih f 0 0 c ⟨gP fn.ntmps args,h,lp,[]⟩else ae):=aa.cond (aa.ask _ _ _ _ _) (aa.const _)
 refine aa.kG this (λx _=>match x with|(.exit _,_)=>ae|(_,st)=>ab (fn,st)) (λx=>aa.const _) (λih e=>?_) (λih x e=>?_)
 all_goals grind
theorem Bp(f fb:Nat):∀(n:Nat) (c:Code) (st:St),aa (λih=>gY E ih f fb n c st)
 |0,c,st=>aa.const ae
 |n+1,c,st=>by
  have J:=λa b=>
   aa.kG (Bp f fb n a st) (λx ih=>match x with|(.nm,A)=>gY E ih f fb n b A|r=>ab r) (λx=>by obtain⟨ex,A⟩:=x;cases ex<;>first|exact Bp f fb n b A|simp[aa.const])
    (λih e=>by show(match gY E ih f fb n a st with|some (.nm,A)=>gY E ih f fb n b A|r=>r)=ae;rw[e]) (λih x e=>by
     show(match gY E ih f fb n a st with|some (.nm,A)=>gY E ih f fb n b A|r=>r)=_
     grind)
  cases c with
  |seq a b=>exact J a b
  |cond c a b=>
   show aa (λih=>match ev st.t c with|.im (.bool t)=>bif t then gY E ih f fb n a st else gY E ih f fb n b st|_=>ae)
   split
   .exact aa.cond (Bp f fb n a st) (Bp f fb n b st)
   simp[aa.const]
  |region id ops I=>
   cases I<;>first|exact aa.cond (c:=λ_=>match rh E (E.keep f) ops ops.toList st with|some A=>ab (.nm,A)|none=>ae) (aa.const _) (aa.ask _ _ _ _ _)|exact aa.ask _ _ _ _ _
  |_=>exact aa.ask _ _ _ _ _
theorem ao9(f:Nat)(args:List V)(h:Heap)(lp:List Rec):aa (λih=>th E ih f args h lp):=by
 refine aa.bind (aa.const _) λfn=>aa.bind (aa.const _) λc=>?_
 have:aa (λih=>bif bp (aA args) fn.ntmps then gY E ih f 0 64 c ⟨gP fn.ntmps args,h,lp,[]⟩else ae):=aa.cond (Bp E f 0 64 c _) (aa.const _)
 refine aa.kG this (λx _=>match x with|(.exit _,_)=>ae|(_,st)=>ab (fn,st)) (λx=>aa.const _) (λih e=>?_) (λih x e=>?_)
 all_goals grind
theorem Q2(A:Nat):∀(df:List (Nat×List V)) (h:Heap) (lp:List Rec),aa (λih=>js E ih A df h lp)
 |[],h,lp=>aa.const _
 |d::df,h,lp=>by
  show aa (λih=>bif kE d then(bif bp A d.1 then js E ih A df h lp else ae)else match th E ih d.1 d.2 h lp with
   |some (fn,st)=>(match st.df with
    |[]=>(match kV E st.h fn st.t with
     |some _=>js E ih A df st.h st.lp
     |none=>ae)
    |_=>ae)
   |none=>ae)
  refine aa.cond (aa.cond (Q2 A df h lp) (aa.const _)) ?_;refine aa.kG (ao9 E d.1 d.2 h lp) (λx ih=>match x.2.df with
    |[]=>(match kV E x.2.h x.1 x.2.t with
     |some _=>js E ih A df x.2.h x.2.lp
     |none=>ae)
    |_=>ae) (λx=>?_) (λih e=>by simp[e]) (λih x e=>by simp[e])
  split
  .split
   .exact Q2 A df _ _
   simp[aa.const]
  simp[aa.const]
theorem BZ(f:Nat)(args:List V)(h:Heap)(lp:List Rec):aa (λih=>gp E ih f args h lp):=by
 unfold gp;refine aa.kG (apb E f args h lp) (λx ih=>match x.2.df with
  |[]=>(kV E x.2.h x.1 x.2.t).map λv=>(v,x.2.h,x.2.lp)
  |df=>(js E ih (aA h) df x.2.h x.2.lp).bind λr=>(kV E r.1 x.1 x.2.t).map λv=>(v,r.1,r.2)) (λx=>?_) (λih e=>by simp[e]) (λih x e=>by grind)
 split
 .simp[aa.const]
 .exact aa.bind (Q2 E _ _ _ _) λr=>aa.const _
theorem UA(f:Nat)(args:List D):aa (λih=>oX E ih f args):=by
 exact aa.bind (BZ E f _ _ _) λr=>aa.const _
theorem Bc(f:Nat)(args:List D):aa (λih=>fY E ih f args):=by
 unfold fY;split
 .split
  .simp[aa.const]
  .exact UA E f args
 .exact UA E f args
theorem afZ(f:Nat)(args:List V)(h:Heap)(lp:List Rec):aa (λih=>oT E ih f args h lp):=by
 refine aa.cond (BZ E f args h lp) ?_;split
 .exact aa.bind (Bc E f _) λr=>aa.const _
 .exact BZ E f args h lp
theorem afU(aw g:Nat)(args:List V)(h:Heap)(lp:List Rec):aa (λih=>ux E ih aw g args h lp):=by
 unfold ux;split
 .simp[aa.const]
 .split
  .exact afZ E g args h lp
  simp[aa.const]
theorem ao5(b:Nat)(xs:List V)(h:Heap):aa (λih=>wc ih b xs h):=by
 unfold wc;split
 .rename_i f t ps bO body _;refine aa.bind (aa.const _) λt0=>?_
  refine aa.kG (aa.ask f 1 0 bO _) (λx ih=>match x with
   |(.nm,I)=>(match I.df with
    |[]=>(match ih f 1 0 body ⟨I.t,I.h,[],[]⟩with
     |some (.nm,A)=>(match A.df with
      |[]=>ab (.im (.bool ag),aD A.h b (.lp f t ps bO body))
      |_=>ae)
     |_=>ae)
    |_=>ae)
   |_=>ae) (λx=>?_) (λih e=>by
    rw[e]) (λih x e=>by
    grind)
  obtain⟨ex,I⟩:=x;cases ex with
  |nm=>
   show aa (λih=>match I.df with
    |[]=>(match ih f 1 0 body ⟨I.t,I.h,[],[]⟩with
     |some (.nm,A)=>(match A.df with
      |[]=>(ab (V.im (.bool ag),aD A.h b (.lp f t ps bO body)))
      |_=>ae)
     |_=>ae)
    |_=>ae)
   split
   .refine aa.kG (aa.ask f 1 0 body _) (λx _=>match x with
     |(.nm,A)=>(match A.df with
      |[]=>ab (.im (.bool ag),aD A.h b (.lp f t ps bO body))
      |_=>ae)
     |_=>ae) (λx=>aa.const _) (λih e=>by
     rw[e]) (λih x e=>by
     grind)
   simp[aa.const]
  |exit _=>simp[aa.const]
  |ret=>simp[aa.const]
 simp[aa.const]
theorem al2(lp:List Rec){c:IH->R}(A:aa c):aa (λih=>lift lp (c ih)):=
 (A.map λx=>(x.1,x.2,lp)).of λih=>by cases c ih<;>rfl
theorem ahT(aw:Nat)(t:Tm)(c:Call)(h:Heap)(lp:List Rec):aa (λih=>jW E ih aw t c h lp):=by
 unfold jW;split
 .exact al2 lp (ao5 _ _ _)
 .exact aa.bind (aa.const _) λg=>afU E _ _ _ _ _
theorem ZB(keep:Bool)(ops:Array Oper)(aw:Nat)(o:Oper)(st:St):aa (λih=>ee E ih keep ops aw o st):=by
 have key:∀c,aa c->aa (λih=>match c ih with|none=>ae|some (v,h,lp)=>ab (⟨putDst st.t o.dst v,h,lp,st.df⟩:St)):=λc A=>
  aa.kG A (λx _=>ab ⟨putDst st.t o.dst x.1,x.2.1,x.2.2,st.df⟩) (λx=>aa.const _) (λih e=>by simp[e]) (λih x e=>by simp[e])
 unfold ee;split
 .simp[aa.const]
 .simp[aa.const]
 .split
  .simp[aa.const]
  .refine key (λih=>match o.op with
    |.call c=>(match c.callee with
     |.builtin _=>lift st.lp (bY E keep aw st.t st.h o.op)
     |_=>jW E ih aw st.t c st.h st.lp)
    |op=>lift st.lp (bY E keep aw st.t st.h op)) ?_
   split
   .split
    .simp[aa.const]
    .exact ahT E _ _ _ _ _
   simp[aa.const]
theorem abf(keep:Bool)(ops:Array Oper):∀(l:List Oper) (st:St),aa (λih=>dH E ih keep ops l st)
 |[],st=>aa.const _
 |o::l,st=>by
  show aa (λih=>match ee E ih keep ops (aA st.h) o st with
   |none=>ae
   |some A=>dH E ih keep ops l A)
  exact aa.kG (ZB E keep ops _ o st) (λx ih=>dH E ih keep ops l x) (λx=>abf keep ops l x) (λih e=>by
   have e:ee E ih keep ops (aA st.h) o st=ae:=e;grind) (λih x e=>by
   grind)
theorem arb(view:Heap)(g:Nat)(args:List V)(k:D->Option (V×Option bK)):aa (λih=>(gG view args).bind λds=>(fY E ih g ds).bind λr=>k r):=
 aa.bind (aa.const _) λds=>aa.bind (Bc E g ds) λr=>aa.const _
theorem aaq(keep:Bool)(aw:Nat)(t:Tm)(view:Heap)(op:Op):aa (λih=>eE E ih keep aw t view op):=by
 unfold eE;split;all_goals first
  |exact aa.const _
  |skip
 split;all_goals first
  |exact aa.const _
  |skip
 refine aa.bind (aa.const _) λg=>?_
 split
 .simp[aa.const]
 .split
  .simp[aa.const]
  .simp[aa.const]
  .exact aa.cond (aa.const _) (aa.bind (aa.const _) λds=>aa.bind (Bc E _ ds) λr=>aa.const _)
  simp[aa.const]
theorem apN(keep:Bool)(aw:Nat)(t:Tm)(view:Heap)(op:Op):aa (λih=>kf E ih keep aw t view op):=by
 unfold kf;split
 .split
  .simp[aa.const]
  .simp[aa.const]
  .refine aa.bind (aa.const _) λg=>aa.cond (aa.const _) ?_
   split
   .exact aa.bind (aa.const _) λds=>aa.bind (Bc E _ ds) λr=>aa.const _
   simp[aa.const]
 simp[aa.const]
theorem am8(keep:Bool)(ops:Array Oper)(k n i cls:Nat)(m:List Nat)(o:Oper)(st:St):aa (λih=>cZ E ih keep ops k n i cls m o st):=by
 unfold cZ;split
 .simp[aa.const]
 .simp[aa.const]
 .split
  .simp[aa.const]
  .refine aa.cond ?_ ?_
   .split
    .exact (aaq E keep _ _ _ _).map _
    simp[aa.const]
   .exact aa.bind (aaq E keep _ _ _ _) λr=>aa.const _
  .exact (apN E keep _ _ _ _).map _
  .exact ZB E keep ops _ o st
  .split
   .exact aa.bind (aa.const _) λg=>aa.bind (BZ E _ _ _ _) λr=>aa.const _
   simp[aa.const]
  .simp[aa.const]
  .simp[aa.const]
  .simp[aa.const]
  .simp[aa.const]
  .split
   .exact aa.bind (aa.const _) λg=>aa.bind (aa.const _) λds=>aa.bind (Bc E _ ds) λr=>aa.const _
   simp[aa.const]
theorem abb(keep:Bool)(ops:Array Oper)(k n:Nat):∀(l:List Oper) (ds:List (Nat×List Nat)) (i:Nat) (st:St),aa (λih=>gO E ih keep ops k n l ds i st)
 |[],ds,i,st|o::l,[],i,st=>aa.const _
 |o::l,(c,m)::ds,i,st=>by
  show aa (λih=>match cZ E ih keep ops k n i c m o st with
   |none=>ae
   |some A=>gO E ih keep ops k n l ds (bif bJ E o.op then i+1 else i) A)
  exact aa.kG (am8 E keep ops k n i c m o st) (λx ih=>gO E ih keep ops k n l ds (bif bJ E o.op then i+1 else i) x) (λx=>abb keep ops k n l ds _ x) (λih e=>by simp[e]) (λih x e=>by simp[e])
theorem aoV(f id:Nat)(ops:Array Oper)(st:St):aa (λih=>rj E ih f id ops st):=by
 exact aa.bind (aa.const _) λds=>abb E _ ops _ _ _ ds _ _
theorem MB(f fb cur:Nat)(c:Code)(st:St):aa (λih=>nc E ih f fb cur c st):=by
 cases c with
 |region id ops I=>
  show aa (λih=>match(bif I then rj E ih f id ops (fL E af f id st)else dH E ih (E.keep f) ops ops.toList (fL E af f id st))with
   |some A=>(ab (Ex.nm,fL E ag f id A))
   |none=>ae)
  exact aa.kG (aa.cond (b:=I) (aoV E f id ops (fL E af f id st)) (abf E (E.keep f) ops ops.toList (fL E af f id st))) (λx _=>ab (Ex.nm,fL E ag f id x)) (λx=>aa.const _) (λih e=>by simp[e]) (λih x e=>by simp[e])
 |seq a b=>
  show aa (λih=>match ih f fb cur a st with
   |some (.nm,A)=>ih f fb cur b A
   |r=>r)
  exact aa.kG (aa.ask f fb cur a st) (λx ih=>match x with|(.nm,A)=>ih f fb cur b A|r=>ab r) (λx=>by obtain⟨ex,A⟩:=x;cases ex<;>first|exact aa.ask _ _ _ _ _|simp[aa.const])
   (λih e=>by simp[e]) (λih x e=>by grind)
 |cond c a b=>
  show aa (λih=>match ev st.t c with
   |.im (.bool t)=>bif t then ih f fb cur a st else ih f fb cur b st
   |_=>ae)
  split
  .exact aa.cond (aa.ask _ _ _ _ _) (aa.ask _ _ _ _ _)
  simp[aa.const]
 |block id b=>
  show aa (λih=>match ih f fb id b st with
   |some (.exit j,A)=>bif ak j id then ab (.nm,A)else ab (.exit j,A)
   |r=>r)
  exact aa.kG (aa.ask f fb id b st) (λx _=>match x with|(.exit j,A)=>bif ak j id then ab (.nm,A)else ab (.exit j,A)|r=>ab r) (λx=>aa.const _)
   (λih e=>by simp[e]) (λih x e=>by grind)
 |loop b=>
  show aa (λih=>match ih f fb cur b st with
   |some (.nm,A)=>ih f fb cur (.loop b) A
   |r=>r)
  exact aa.kG (aa.ask f fb cur b st) (λx ih=>match x with|(.nm,A)=>ih f fb cur (.loop b) A|r=>ab r) (λx=>by obtain⟨ex,A⟩:=x;cases ex<;>first|exact aa.ask _ _ _ _ _|simp[aa.const])
   (λih e=>by simp[e]) (λih x e=>by grind)
 |scope b=>exact aa.ask _ _ _ _ _
 |rangeFunc g ps bO body=>
  show aa (λih=>match(match ev st.t g with|.fn g a cap=>ab (g,a,cap)|.im (.fn g)=>ab (g,[],[])|_=>ae)with
   |some (g,a,cap)=>(match gp E ih g (a++(.gT (aA st.h+1)::cap)) (st.h++[ae,ab (.lp f st.t ps.toList bO body)]) st.lp with
    |some (_,h',lp)=>(match aq h' (aA st.h+1)with
     |some (.lp ..)=>(ab (Ex.nm,⟨st.t,bB h' (aA st.h+1) ae,lp,bif ak fb 0 then(aA st.h,[V.undef])::st.df else st.df⟩):Option (Ex×St))
     |_=>ae)
    |none=>ae)
   |none=>ae)
  split
  .rename_i g a cap _;exact aa.kG (BZ E g (a++(.gT (aA st.h+1)::cap)) (st.h++[ae,ab (.lp f st.t ps.toList bO body)]) st.lp) (λx _=>match aq x.2.1 (aA st.h+1)with
     |some (.lp ..)=>ab (Ex.nm,⟨st.t,bB x.2.1 (aA st.h+1) ae,x.2.2,bif ak fb 0 then(aA st.h,[V.undef])::st.df else st.df⟩)
     |_=>ae) (λx=>aa.const _) (λih e=>by simp_all[e]) (λih x e=>by simp_all[e])
  simp[aa.const]
 |_=>exact aa.const _
end
theorem arf(E:Env)(n:Nat):exec E (n+1)=nc E (exec E n):=rfl
theorem MD(E:Env):∀(n f fb cur:Nat) (c:Code) (st:St) (r:Ex×St),exec E n f fb cur c st=ab r->exec E (n+1) f fb cur c st=ab r
 |0,_,_,_,_,_,_,h=>by cases h
 |n+1,f,fb,cur,c,st,r,h=>by
  obtain⟨S,h1,h2⟩:=MB E f fb cur c st (exec E n) r h;exact h2 _ λp hp=>MD E n _ _ _ _ _ _ (h1 p hp)
theorem FX(E:Env){n m:Nat}(A:n<=m){f fb cur:Nat}{c:Code}{st:St}{r:Ex×St}(h:exec E n f fb cur c st=ab r):exec E m f fb cur c st=ab r:=by
 obtain⟨k,rfl⟩:=Nat.exists_eq_add_of_le A;clear A;induction k with
 |zero=>exact h
 |succ k ih=>exact MD E _ _ _ _ _ _ _ ih
open Classical in
def X(E:Env):IH:=λf fb cur c st=>if h:∃n r,exec E n f fb cur c st=ab r then ab h.choose_spec.choose else ae
theorem AD{E:Env}{f fb cur:Nat}{c:Code}{st:St}{r:Ex×St}:X E f fb cur c st=ab r↔∃n,exec E n f fb cur c st=ab r:=by
 unfold X;constructor
 .intro h;split at h
  all_goals grind
 .rintro ⟨n,h⟩;have q:∃n r,exec E n f fb cur c st=ab r:=⟨n,r,h⟩;have h2:=q.choose_spec.choose_spec;have a:=FX E (EM n q.choose) h;have b:=FX E (EN n q.choose) h2;grind
theorem Wr{E:Env}:∀{S:List Ask},Holds S (X E)->∃n,Holds S (exec E n)
 |[],_=>⟨0,(λ_ h=>by cases h)⟩
 |p::S,h=>by
  obtain⟨n,I⟩:=AD.1 (h p (e8 ..));obtain⟨m,hm⟩:=Wr (S:=S) λq A=>h q (gB _ A)
  refine⟨max n m,λq A=>?_⟩
  rcases eT.1 A with rfl|A
  .exact FX E (EM ..) I
  .exact FX E (EN ..) (hm q A)
theorem jb(E:Env)(f fb cur:Nat)(c:Code)(st:St):X E f fb cur c st=nc E (X E) f fb cur c st:=by
 apply Option.ext;intro r;constructor
 .intro h;obtain⟨n,A⟩:=AD.1 h;have A:=MD E n _ _ _ _ _ _ A;obtain⟨S,h1,h2⟩:=MB E f fb cur c st (exec E n) r A;exact h2 _ λp hp=>AD.2 ⟨n,h1 p hp⟩
 .intro h;obtain⟨S,h1,h2⟩:=MB E f fb cur c st (X E) r h;obtain⟨n,A⟩:=Wr h1;exact AD.2 ⟨n+1,h2 _ A⟩
theorem aeP[Gh]{F:Fence}{P:Program}{E:Env}(A:fv F P E)(hF:dk F):iL F P E (X E):=λf fb cur c st r h=>by
 obtain⟨n,I⟩:=AD.1 h;exact MC A hF n f fb cur c st r I
end
section
inductive Ty where
 |bool
 |int (k:IntKind)
 |str
 |ar (t:Ty)
 |st (w:Nat) (l:Ty)
 |aG (l:Ty)
 |nl
 |cn (t l:Ty)
 |iO
 |err
@[reducible] def Ty.den(t:Ty):=
 Ty.rec (motive:=λ_=>Type) Bool (λ_=>Int) (List Nat) (λ_ d=>List d) (λ_ _ d=>d) (λ_ d=>d) Unit (λ_ _ a b=>a×b) Nat (List (Nat×Int)) t
def ib:List (Nat×Int)->D
 |[]=>.dn
 |(t,c)::l=>.ifc t (.agg 2 [.int .i64 c,ib l])
mutual
def Ty.enc:(t:Ty)->t.den->D
 |.bool,b=>.bool b
 |.int k,n=>.int k n
 |.str,s=>.str s
 |.ar t,l=>.ar (List.map (Ty.enc t) l)
 |.st w l,x=>.agg w (Ty.cL l x)
 |.aG l,x=>.aG (Ty.cL l x)
 |.nl,_=>.nil
 |.cn _ _,_=>.nil
 |.iO,f=>.fn f
 |.err,l=>ib l
def Ty.cL:(l:Ty)->l.den->List D
 |.cn t l,x=>Ty.enc t x.1::Ty.cL l x.2
 |_,_=>[]
end
def Ty.wd:Ty->Nat
 |.st w _=>w
 |_=>1
def G7:IntKind->IntKind->Bool
 |.i8,.i8|.i16,.i16|.i32,.i32|.i64,.i64|.u8,.u8|.u16,.u16|.u32,.u32|.u64,.u64=>ag
 |_,_=>af
def Ty.beq:Ty->Ty->Bool
 |.bool,.bool|.str,.str|.nl,.nl|.iO,.iO|.err,.err=>ag
 |.int k,.int A=>G7 k A
 |.ar a,.ar b=>Ty.beq a b
 |.st w a,.st v b=>ak w v&&Ty.beq a b
 |.aG a,.aG b=>Ty.beq a b
 |.cn a l,.cn b r=>Ty.beq a b&&Ty.beq l r
 |_,_=>af
theorem Ol:∀{a b:IntKind},G7 a b=ag->a=b:=by
 intro a b h;cases a<;>cases b<;>first|rfl|cases h
theorem Ty.beq_eq:∀{a b:Ty},Ty.beq a b=ag->a=b:=by
 intro a;induction a with
 |bool|str|nl|iO|err=>intro b h;cases b<;>first|rfl|cases h
 |int k=>intro b h;cases b<;>first|rename_i A;rw[Ol (show G7 k A=ag from h)]|cases h
 |ar a ih|aG a ih=>intro b h;cases b<;>first|rename_i b;rw[ih (show Ty.beq a b=ag from h)]|cases h
 |st w a ih=>intro b h;cases b<;>first|rename_i v b;have h:(ak w v&&Ty.beq a b)=ag:=h;rw[aM]at h;rw[bR h.1,ih h.2]|cases h
 |cn a l I J=>intro b h;cases b<;>first|rename_i b r;have h:(Ty.beq a b&&Ty.beq l r)=ag:=h;grind|cases h
def Ty.cs(a b:Ty)(x:a.den):=if h:Ty.beq a b=ag then ab (Ty.beq_eq h▸x)else ae
mutual
def Ty.flat:Ty->Bool
 |.ar _=>af
 |.st _ l=>Ty.lE l
 |.aG l=>Ty.lE l
 |_=>ag
def Ty.lE:Ty->Bool
 |.cn t l=>Ty.flat t&&Ty.lE l
 |_=>ag
end
def pP(E:Env)(n:Nat):Nat->Option Ty:=
 ko (λ_=>ae) (λ_ ih t=>(E.ty t).bind λti=>match ti.k with
  |.bool=>ab .bool
  |.int k=>ab (.int k)
  |.str=>ab .str
  |.ar e=>(ih e).map .ar
  |.st fs=>(a8 (ab .nl) (λf _ r=>(ih f.2.2).bind λa=>r.map λl=>.cn a l) fs:Option Ty).map (.st ti.size)
  |.arr m e=>(ih e).map λa=>.st ti.size (ko .nl (λ_ l=>.cn a l) m)
  |.fn=>ab .iO
  |.ifc _=>ab .err
  |_=>ae) n
end
section
open Go.ChangeShapes Go.WideShapes Go.Joins
variable [Gh]
def Ty.Ok:(t:Ty)->t.den->Prop
 |.bool,_=>True
 |.int k,n=>ig k n
 |.str,s=>s.length<=eO/\∀c∈s,c< 256
 |.ar t,l=>l.length<=maxLen/\∀x∈l,Ty.Ok t x
 |.st _ l,x=>Ty.Ok l x
 |.aG l,x=>Ty.Ok l x
 |.nl,_=>True
 |.cn t l,x=>Ty.Ok t x.1/\Ty.Ok l x.2
 |.iO,_|.err,_=>False
def Ty.Sm(N:Nat):(t:Ty)->t.den->Prop
 |.ar t,l=>l.length<=N/\∀x∈l,Ty.Sm N t x
 |.st _ l,x=>Ty.Sm N l x
 |.aG l,x=>Ty.Sm N l x
 |.cn t l,x=>Ty.Sm N t x.1/\Ty.Sm N l x.2
 |.bool,_|.int _,_|.str,_|.nl,_|.iO,_|.err,_=>True
structure ue{H:Type}(bk:DataW H->Nat):Prop where
 part:∀{d:DataW H} {l:List (DataW H)},d∈l->bk d<=bk (.agg l)
 elem:∀{d:DataW H} {l r:List (DataW H)},d∈l->bk d<=bk (.slice l r)
 len:∀(l r:List (DataW H)),l.length<=bk (.slice l r)
def rV(ok:Nat->Ty->Bool)(w:Nat):List (Nat×Nat×Nat)->Ty->Nat->Bool
 |[],.nl,off=>ak off w
 |f::fs,.cn a l,off=>ak f.1 off&&(ak a.wd f.2.1&&(ok f.2.2 a&&rV ok w fs l (off+a.wd)))
 |_,_,_=>af
def rU(ok:Ty->Bool)(s w:Nat):Nat->Ty->Nat->Bool
 |0,.nl,off=>ak off w
 |m+1,.cn a l,off=>ak a.wd s&&(ok a&&rU ok s w m l (off+s))
 |_,_,_=>af
def gi(E:Env):Nat->Nat->Ty->Bool
 |0,_,_=>af
 |n+1,t,u=>match E.ty t with
  |none=>af
  |some ti=>ak u.wd ti.size&&(match ti.k,u with
   |.bool,.bool=>ag
   |.int k,.int A=>G7 k A
   |.str,.str=>ag
   |.ar e,.ar a=>cA 0 a.wd&&gi E n e a
   |.st fs,.st w l=>rV (λt u=>gi E n t u) w fs l 0
   |.arr m e,.st w l=>cA 0 m&&(match E.ty e with|some te=>rU (λu=>gi E n e u) te.size w m l 0|none=>af)
   |_,_=>af)
section
variable {P:Program} {E:Env} {W:World} {H:Type} {enc:TypeId×Value->H} {sp:Nat->Bool} {held:Bool}
theorem Lu(I:EnvTy P E){n t:Nat}{u:Ty}(h:gi E n t u=ag):P.cellsOf t=u.wd:=by
 cases n with
 |zero=>cases h
 |succ n=>
  unfold gi at h;split at h
  .cases h
  .rename_i ti A;rw[aM]at h;rw[(I.ty t ti A).sizeOf,bR h.1]
theorem S7{C:IV}:∀{l:List D} {A:List (List Value)} {d:D} {ws:List Value},bw C l af A->aN C d af ws->bw C (l++[d]) af (A++[ws])
 |[],A,d,ws,h,k=>by
  subst h;simp[List.nil_append,bw];grind
 |_::l,A,d,ws,h,k=>by
  obtain⟨w,r,rfl,h1,h2⟩:=h;exact⟨w,_,rfl,h1,S7 h2 k⟩
theorem abD{a:Ty}{a0:Addr}{s:Nat}{Q:Nat->a.den->Prop}:∀(n:Nat),(∀i,i< n->∃(y:a.den) (ws:List Value),aN (λp=>W.cell? p) (a.enc y) af ws/\Q i y/\ws.length=s/\∀j,j< s->W.cell? ((a0.add (i*s)).add j)=ws[j]?)->
  ∃(L:List a.den) (A:List (List Value)),L.length=n/\bw (λp=>W.cell? p) (L.map a.enc) af A/\(∀ws∈A,ws.length=s)/\A.flatten.length=n*s/\(∀x∈L,∃i,i< n/\Q i x)/\cz (λp=>W.cell? p) a0 A.flatten
 |0,_=>⟨[],[],rfl,by rfl,by simp,by simp,by simp,λj v e=>by trivial⟩
 |n+1,h=>by
  obtain⟨L,A,h1,h2,h3,b,c,J⟩:=abD n λi hi=>h i (by omega)
  obtain⟨y,ws,U,q2,d,q4⟩:=h n (by omega)
  refine⟨L++[y],A++[ws],by simp[h1],?_,?_,?_,?_,?_⟩
  .simp[List.map_append,S7,h2,U]
  .grind
  .grind
  .grind
  .intro j v e;rw[List.flatten_append]at e;by_cases Z:j< A.flatten.length
   .rw [List.getElem?_append_left Z]at e;exact J j v e
   .rw [List.getElem?_append_right (by omega)]at e
    have I:j-A.flatten.length< s:=by
     grind
    have:=q4 _ I;simp_all[e,this,Go.Deep.add_add]
theorem aql(hE:EnvTy P E):∀(n t:Nat) (u:Ty),gi E n t u=ag->∀(fuel:Nat) (cs:List Value) (x:DataW H×List MemPlace),acS enc P W 0 sp held fuel t cs=ab x->
  ∃y:u.den,aN (λp=>W.cell? p) (u.enc y) af cs/\(u.Ok y/\∀(N:Nat) (bk:DataW H->Nat),ue bk->bk x.1<=N->u.Sm N y)/\cs.length=u.wd:=by
 intro n;induction n with
 |zero=>intro t u h;cases h
 |succ n ih=>
  intro t u h fuel cs x Z;unfold gi at h;split at h
  .cases h
  rename_i ti NY;rw[aM]at h;obtain⟨S,h⟩:=h;have hw:=bR S;clear S;have hT:=hE.ty t ti NY;have o:=hT.kind;split at h
  .rename_i I;rw[I]at o;obtain⟨b,rfl,rfl⟩:=DataW.trod_bool o Z;exact⟨b,by rfl,⟨trivial,λ_ _ _ _=>trivial⟩,rfl⟩
  .rename_i k k' I;rw[I]at o;have:=Ol h;subst this;obtain⟨m,rfl,rfl,hm⟩:=DataW.trod_int o Z;exact⟨m,by simp only[Ty.enc,aN];first|exact⟨rfl,tB hm⟩|simp[trivial,tB,hm],⟨tB hm,λ_ _ _ _=>trivial⟩,rfl⟩
  .rename_i I;rw[I]at o;obtain⟨s,rfl,rfl,hs⟩:=DataW.trod_string o Z;refine⟨dN s,?_,⟨⟨?_,?_⟩,λ_ _ _ _=>trivial⟩,rfl⟩
   .simp only[Ty.enc,aN];exact⟨s,rfl,rfl,by trivial⟩
   .simp_all[maxLen,hs,eO,dN]
   .intro c hc;unfold dN at hc;obtain⟨b,_,rfl⟩:=lg.1 hc;exact b.toNat_lt
  .rename_i e a I;rw[I]at o;rw[aM]at h;obtain⟨h0,ha⟩:=h;have h0:0< a.wd:=gX h0;have pa:=Lu hE ha;rcases Go.Deep.open_slice o Z with⟨rfl,rfl⟩|⟨a0,len,cap,m,k,Dt,Pl,rfl,_,hl,hc,hm,rfl,hel⟩
   .refine ⟨[],?_,⟨⟨by simp,by simp⟩,λ_ _ _ _=>⟨by simp,by simp⟩⟩,rfl⟩
    simp only[Ty.enc,aN,List.map_nil];grind
   .have hlm:len<=m:=by grind
    obtain⟨L,A,h1,h2,h3,h4,h5,h6⟩:=abD (W:=W) (a:=a) (a0:=a0) (s:=a.wd) (Q:=λi y=>a.Ok y/\∀(N:Nat) (bk:DataW H->Nat),ue bk->bk (Dt i)<=N->a.Sm N y) len λi hi=>by
     obtain⟨Uu,c1,c2⟩:=hel i (by omega)
     obtain⟨y,D,q,G⟩:=ih e a ha _ _ _ c2;obtain⟨_,c3,c4⟩:=World.cells?_some c1;grind
    refine⟨L,?_,⟨⟨by omega,λx Z=>(h5 x Z).choose_spec.2.1⟩,λN bk J r=>⟨?_,λx Z=>?_⟩⟩,rfl⟩
    rotate_left
    .have:=J.len ((EE len).map Dt) ((EE (m-len)).map λj=>Dt (len+j))
     grind
    .obtain ⟨i,hi,_,hq⟩:=h5 x Z;exact hq N bk J (bU (J.elem (lg.2 ⟨i,List.mem_range.2 hi,rfl⟩)) r)
    simp only[Ty.enc,aN];refine⟨ab a0,len,cap,rfl,by simp[h1],hl,by unfold maxLen at hc;grind[eO],?_⟩
    by_cases T:len=0
    .omega
    .refine .inr ⟨a0,A,a.wd,rfl,?_,h2,h3,h6⟩;have V:0< A.flatten.length:=by rw[h4];exact Nat.mul_pos (by omega) h0
     have:=h6 0 _ (hJ V);rw[Addr.add_zero]at this;replace this:W.cell? a0=_:=this;unfold World.cell? at this;split at this
     .cases hs:a0.spot with
      |none=>rfl
      |some _=>rw[hs]at this;simp at this
     .cases this
  .rename_i fs w l I;rw[I]at o;obtain⟨d,hu,hf,_⟩:=o;obtain⟨xs,k,_,rfl,v,Y,K⟩:=DataW.trod_struct hu Z;have U:cs.length=w:=by rw[v,hT.sizeOf,<-hw];rfl
   have M:∀(fl:List Field) (l:Ty) (off:Nat),rV (λt u=>gi E n t u) w (fl.map λf=>(f.offset,P.cellsOf f.type,f.type)) l off=ag->
     (∀f∈fl,∃y,acS enc P W 0 sp held k f.type ((cs.drop f.offset).take (P.cellsOf f.type))=ab y/\y∈xs)->∃(y:l.den) (A:List (List Value)),bw (λp=>W.cell? p) (l.cL y) af A/\A.flatten=cs.drop off/\(l.Ok y/\∀(N:Nat) (bk:DataW H->Nat),ue bk->(∀x∈xs,bk x.1<=N)->l.Sm N y):=by
    intro fl;induction fl with
    |nil=>
     intro l off h1 _;cases l with
     |nl=>
      have:off=w:=bR h1;exact⟨(),[],by simp[Ty.cL,bw],by rw[this,<-U];simp,trivial,λ_ _ _ _=>trivial⟩
     |_=>cases h1
    |cons f fl N5=>
     intro l off h1 h2;cases l with
     |cn a l=>
      simp only[oL,rV,aM]at h1;obtain⟨e1,R,e3,e4⟩:=h1;have e1:f.offset=off:=bR e1;have R:a.wd=P.cellsOf f.type:=bR R;obtain⟨z,T,hzm⟩:=h2 f (e8 ..);obtain⟨y,D,q,G⟩:=ih f.type a e3 _ _ _ T;obtain⟨ys,A,r4,r5,r6,r7⟩:=N5 l (off+a.wd) e4 λg hg=>h2 g (gB _ hg)
      refine⟨(y,ys),((cs.drop f.offset).take (P.cellsOf f.type))::A,?_,?_,⟨q.1,r6⟩,λN bk J r=>⟨q.2 N bk J (r z hzm),r7 N bk J r⟩⟩
      .simp only[Ty.cL,bw];exact⟨_,_,rfl,D,r4⟩
      .rw [nR,r5,e1,<-R,<-tU,adP]
     |_=>cases h1
   rw[<-hf]at h;obtain⟨y,A,D,q,G⟩:=M d.toList l 0 h λf hf'=>by
    obtain⟨i,hi⟩:=List.getElem?_of_mem hf';have qD:d[i]? =ab f:=by rw[<-Array.getElem?_toList];exact hi
    have C:i< xs.length:=by
     rw[Y];have:=(List.getElem?_eq_some_iff.1 hi).1;simpa using this
    exact⟨xs[i],by rw[K i f qD,hJ C],fh C⟩
   refine⟨y,?_,⟨G.1,λN bk J r=>G.2 N bk J λx Z=>bU (J.part (lg.2 ⟨x,Z,rfl⟩)) r⟩,U⟩
   simp only[Ty.enc,aN];exact⟨A,by rw[q];rfl,D,U⟩
  .rename_i m e w l I;rw[I]at o;obtain⟨xs,k,_,rfl,v,Y,K⟩:=DataW.trod_array o Z;have U:cs.length=w:=by rw[v,hT.sizeOf,<-hw];rfl
   have M:∀(m':Nat) (l:Ty) (i:Nat),rU (λu=>gi E n e u) (P.cellsOf e) w m' l (i*P.cellsOf e)=ag->i+m'=m->
     ∃(y:l.den) (A:List (List Value)),bw (λp=>W.cell? p) (l.cL y) af A/\A.flatten=cs.drop (i*P.cellsOf e)/\(l.Ok y/\∀(N:Nat) (bk:DataW H->Nat),ue bk->(∀x∈xs,bk x.1<=N)->l.Sm N y):=by
    intro m';induction m' with
    |zero=>
     intro l i h1 _;cases l with
     |nl=>
      have:i*P.cellsOf e=w:=bR h1;exact⟨(),[],by simp[Ty.cL,bw],by rw[this,<-U];simp,trivial,λ_ _ _ _=>trivial⟩
     |_=>cases h1
    |succ m' ihm=>
     intro l i h1 h2;cases l with
     |cn a l=>
      simp only[rU,aM]at h1;obtain⟨R,e3,e4⟩:=h1;have R:a.wd=P.cellsOf e:=bR R;have C:i< xs.length:=by omega
      have T:=K i (by omega)
      rw[hJ C]at T;obtain⟨y,D,q,G⟩:=ih e a e3 _ _ _ T;obtain⟨ys,A,r4,r5,r6,r7⟩:=ihm l (i+1) (by rw[aeh];exact e4) (by omega)
      refine⟨(y,ys),((cs.drop (i*P.cellsOf e)).take (P.cellsOf e))::A,?_,?_,⟨q.1,r6⟩,λN bk J r=>⟨q.2 N bk J (r _ (fh C)),r7 N bk J r⟩⟩
      .simp only[Ty.cL,bw];exact⟨_,_,rfl,D,r4⟩
      .rw [nR,r5,aeh,<-tU,adP]
     |_=>cases h1
   rw[aM]at h;obtain⟨_,h⟩:=h;split at h;case h_2=>cases h
   case h_1 te hte=>
    rw[<-(hE.ty e te hte).sizeOf]at h;obtain⟨y,A,D,q,G⟩:=M m l 0 (by rw[rI];exact h) (by omega)
    refine⟨y,?_,⟨G.1,λN bk J r=>G.2 N bk J λx Z=>bU (J.part (lg.2 ⟨x,Z,rfl⟩)) r⟩,U⟩
    simp only[Ty.enc,aN];rw[rI]at q;exact⟨A,by rw[q];rfl,D,U⟩
  trivial
theorem TD(f:EnvTy P E){n t:Nat}{u:Ty}(h:gi E n t u=ag){v:Value}{d:DataW H}{p:List MemPlace}{r:Reach}{b0:Nat}(J:Eo P W r b0 t v)(i:acP enc P W 0 sp held t v d p):
  ∃y:u.den,aN (λp=>W.cell? p) (u.enc y) ag [v]/\u.Ok y/\∀(N:Nat) (bk:DataW H->Nat),ue bk->bk d<=N->u.Sm N y:=by
 obtain⟨fuel,hf⟩:=i;obtain⟨y,g,j,x⟩:=aql f n t u h fuel _ _ hf;refine⟨y,?_,j⟩;cases n with
 |zero=>cases h
 |succ n=>
  unfold gi at h;split at h
  .cases h
  rename_i ti b;rw[aM]at h;have I:=(f.ty t ti b).kind;replace h:=h.2;split at h
  .rename_i A;rw[A]at I;obtain⟨_,rfl⟩:=okWide_bool I J;trivial
  .rename_i k z A;rw[A]at I;obtain⟨_,rfl⟩:=okWide_int I J;trivial
  .rename_i A;rw[A]at I;obtain⟨_,rfl⟩:=okWide_string I J;trivial
  .rename_i C a A;rw[A]at I;obtain⟨_,_,_,rfl⟩:=okWide_slice I J;trivial
  .rename_i fs w l A;rw[A]at I;obtain⟨Z,o,_⟩:=I;obtain⟨cs,rfl,_⟩:=okWide_struct o J;obtain⟨U,q,c,s⟩:=g;exact⟨cs,U,rfl,by trivial,c,by trivial⟩
  .rename_i m e w l A;rw[A]at I;obtain⟨cs,rfl,_⟩:∃cs,v=.agg cs/\cs.size=P.cellsOf t:=by
    unfold Eo at J;rw[show P.underlying t=ab (.array m e)from I]at J;grind
   obtain⟨U,q,c,s⟩:=g;exact⟨cs,U,rfl,by trivial,c,by trivial⟩
  trivial
theorem TB(A:EnvTy P E){n t:Nat}{u:Ty}(h:gi E n t u=ag){v:Value}{d:DataW H}{p:List MemPlace}{r:Reach}{b0:Nat}(I:Eo P W r b0 t v)(J:acP enc P W 0 sp held t v d p):
  ∃y:u.den,aN (λp=>W.cell? p) (u.enc y) ag [v]/\u.Ok y:=
 let⟨y,a,b,_⟩:=TD A h I J
 ⟨y,a,b⟩
def oP(E:Env)(t:Nat):Prop:=∃n u,gi E n t u=ag
theorem TA{ok:Nat->Ty->Bool}{w:Nat}{P:Program}:∀(fl:List Field) (l:Ty) (off:Nat),rV ok w (fl.map λf=>(f.offset,P.cellsOf f.type,f.type)) l off=ag->
  (∀f∈fl,∃a,ok f.type a=ag)/\w=off+(fl.map λf=>P.cellsOf f.type).sum/\∀(j:Nat) f,fl[j]? =ab f->f.offset=off+((fl.take j).map λf=>P.cellsOf f.type).sum
 |[],l,off,h=>by
  cases l<;>first|exact⟨by simp,by have:off=w:=bR h;simp[this],by simp⟩|cases h
 |f::fl,l,off,h=>by
  cases l with
  |cn a l=>
   simp only[oL,rV,aM]at h;obtain⟨A,I,Z,J⟩:=h;have A:=bR A;have I:=bR I;obtain⟨h1,h2,h3⟩:=TA fl l _ J;refine⟨λg U=>?_,by grind,λj g U=>?_⟩
   .grind
   .cases j with
    |zero=>grind
    |succ j=>
     grind
  |_=>cases h
theorem Tz{ok:Ty->Bool}{s w:Nat}:∀(m:Nat) (l:Ty) (off:Nat),rU ok s w m l off=ag->w=off+m*s/\(0< m->∃a,ok a=ag)
 |0,l,off,h=>by
  cases l with
  |nl=>exact⟨by have:=bR h;omega,λh=>absurd h (Nat.lt_irrefl 0)⟩
  |_=>cases h
 |m+1,l,off,h=>by
  cases l with
  |cn a l=>
   simp[rU,aM]at h;obtain⟨h1,_⟩:=Tz m l _ h.2.2;grind
  |_=>cases h
theorem oP.cases(Z:EnvTy P E){t:Nat}(h:oP E t):P.underlying t=ab .bool∨(∃k,P.underlying t=ab (.int k))∨P.underlying t=ab .string∨
  (∃e,P.underlying t=ab (.slice e)/\oP E e/\0< P.cellsOf e)∨
  (∃fs:Array Field,P.underlying t=ab (.struct fs)/\(∀f∈fs.toList,oP E f.type)/\P.cellsOf t=(fs.toList.map λf=>P.cellsOf f.type).sum/\∀(j:Nat) f,fs.toList[j]? =ab f->f.offset=((fs.toList.take j).map λf=>P.cellsOf f.type).sum)∨
  (∃m e,P.underlying t=ab (.array m e)/\oP E e/\P.cellsOf t=m*P.cellsOf e):=by
 obtain⟨n,u,h⟩:=h;have U:=Lu Z h;cases n with
 |zero=>cases h
 |succ n=>
  unfold gi at h;split at h
  .cases h
  rename_i ti b;rw[aM]at h;have J:=(Z.ty t ti b).kind;replace h:=h.2;split at h
  .rename_i A;rw[A]at J;exact .inl J
  .rename_i k g A;rw[A]at J;exact .inr (.inl ⟨_,J⟩)
  .rename_i A;rw[A]at J;exact .inr (.inr (.inl J))
  .rename_i e a A;rw[A]at J;rw[aM]at h;exact .inr (.inr (.inr (.inl ⟨e,J,⟨n,a,h.2⟩,by rw[Lu Z h.2];simp_all⟩)))
  .rename_i fs w l A;rw[A]at J;obtain⟨I,d,hf,_⟩:=J;rw[<-hf]at h;obtain⟨h1,h2,h3⟩:=TA I.toList l 0 h;refine .inr (.inr (.inr (.inr (.inl ⟨I,d,λf hf=>?_,?_,λj f i=>?_⟩))))
   .obtain ⟨a,c⟩:=h1 f hf;exact⟨n,a,c⟩
   .rw [U];show w=_;omega
   grind
  .rename_i m e w l A;rw[A]at J;rw[aM]at h;obtain⟨hm,h⟩:=h;split at h
   .rename_i te hte;obtain⟨h1,h2⟩:=Tz m l 0 h;obtain⟨a,c⟩:=h2 (gX hm);refine .inr (.inr (.inr (.inr (.inr ⟨m,e,J,⟨n,a,c⟩,?_⟩))));rw[U,(Z.ty e te hte).sizeOf];show w=_;omega
   trivial
  trivial
theorem alQ(I:EnvTy P E):Kids P (oP E) where
 pointer:=λ{t e} h A=>by
  rcases h.cases I with q|⟨_,q⟩|q|⟨_,q,_⟩|⟨_,q,_⟩|⟨_,_,q,_⟩<;>rw[A]at q<;>cases q
 slice:=λ{t e} h A=>by
  rcases h.cases I with q|⟨_,q⟩|q|⟨_,q,h1,_⟩|⟨_,q,_⟩|⟨_,_,q,_⟩<;>rw[A]at q<;>cases q
  omega
 array:=λ{t e n} h A=>by
  rcases h.cases I with q|⟨_,q⟩|q|⟨_,q,_⟩|⟨_,q,_⟩|⟨_,_,q,h1,h2⟩<;>rw[A]at q<;>cases q
  trivial
 struct:=λ{t fs} h A=>by
  rcases h.cases I with q|⟨_,q⟩|q|⟨_,q,_⟩|⟨_,q,h1⟩|⟨_,_,q,_⟩<;>rw[A]at q<;>cases q
  omega
 map:=λ{t k e} h A=>by
  rcases h.cases I with q|⟨_,q⟩|q|⟨_,q,_⟩|⟨_,q,_⟩|⟨_,_,q,_⟩<;>rw[A]at q<;>cases q
theorem apQ(A:EnvTy P E){t e:Nat}(h:oP E t)(I:P.underlying t=ab (.slice e)):0< P.cellsOf e:=by
 rcases h.cases A with q|⟨_,q⟩|q|⟨_,q,_,h1⟩|⟨_,q,_⟩|⟨_,_,q,_⟩<;>rw[I]at q<;>cases q
 omega
theorem ab5(U:EnvTy P E){c:World}(f:Below W.heap.size W c){A:Nat->Bool}:∀{J:List TypeId} {vs:List Value} {ds:List (DataW H)} {ps:List MemPlace},(∀t∈J,oP E t)->
  Ad enc P W 0 (λ_=>ag) ag J vs ds ps->(∀b,b< W.heap.size->A b=ag)->Ad enc P c 0 A ag J vs ds ps
 |[],[],[],_,_,h,_=>h
 |t::J,v::vs,d::ds,_,g,⟨p,q,⟨n,h1⟩,h2,e⟩,i=>by
  refine⟨p,q,⟨n,?_⟩,ab5 U f (λt h=>g t (gB _ h)) h2 i,e⟩
  have I:=DataW.trod_lt _ _ _ _ h1;exact DataW.trod_stays (alQ U) (λa b=>apQ U a b) (λh=>by cases h) (g t (e8 ..)) h1 (λx Z=>f.same (I x Z)) (λx Z=>i _ (I x Z))
theorem anF(C:EnvTy P E){f:Func}{s:ChangeSpec}{apart fresh A J:Bool}{a:World}{args:Array Value}{v:Value}{ds c:List (DataW H)}{before:List MemPlace}
  (u:acR enc P f.params.toList s.vars af W args.toList ds c before) (k:apart=af) (y:s.vars=[]) (D:∀t∈f.params.toList,oP E t)
  (I:∀(b:Nat) (sp:Nat->Bool) (G:Bool),Ad enc P a b sp G f.resultTypes.toList (v.resultList f.resultTypes.size) (s.fn H (ds++c)).results [])
  (U:(s.fn H (ds++c)).args=ds) (Z:(s.fn H (ds++c)).vars=[])
  (l:Below W.heap.size W a)
  (m:∀(j:Nat) (t:TypeId) (r:Value),f.resultTypes[j]? =ab t->(v.resultList f.resultTypes.size)[j]? =ab r->Eo P a .any 0 t r):
  s.post enc P f apart fresh A J W args v a:=by
 subst k;have n:=u;obtain⟨p,q,h1,h2,e,K,_⟩:=u;rw[y]at h2;obtain⟨rfl,rfl⟩:c=[]/\q=[]:=by
  cases c with
  |nil=>trivial
  |cons g r=>cases h2
 rw[List.append_nil]at e;obtain rfl:p=before:=e.symm;have z:∀sp,(∀b,b< W.heap.size->sp b=ag)->Ad enc P a 0 sp ag f.params.toList args.toList (s.fn H (ds++[])).args p:=λsp L=>by
  rw[U];exact ab5 C l D h1 L
 have d:∀sp,acQ enc P a sp s.vars (s.fn H (ds++[])).vars []:=λsp=>by rw[y,Z];rfl
 refine⟨ds,[],p,[],p,[],n,I _ _ _,z _ (λb M=>by simpa using M),d _,l.frame _,λ_=>?_⟩
 refine⟨m,_,_,([]++p)++[],⟨[]++p,[],trodAll_append (z _ (λ_ _=>rfl)) (I _ _ _),d _,rfl,λb off hp=>?_,λh=>by cases h⟩,λx N _=>by simpa using N⟩
 have i:=by simpa using hp
 have o:=h1.lt _ i;rw[l.frozen o];exact K b off i
theorem af2{f:Nat}{ds:List D}(h:ud l6 P f ds (.bool ag)){args:Array Value}(w:World)(A:Gh.G λp=>w.cell? p)(I:aZ (λd x=>aN (λp=>w.cell? p) d ag [x]) ds args.toList):
  Calls P f args w λe w'=>e=.returned (.bool ag)/\Below w.heap.size w w':=by
 refine callsIn_wide.1 (wK (h 1 (λp=>w.cell? p) w args ⟨λ_ _ e=>e,A⟩ I) λe w' q=>?_)
 cases e with
 |returned x=>
  obtain⟨C',_,_,U,_,J⟩:=q;simp[aN]at J;grind
 |_=>trivial
end
end
end Go.As
end
