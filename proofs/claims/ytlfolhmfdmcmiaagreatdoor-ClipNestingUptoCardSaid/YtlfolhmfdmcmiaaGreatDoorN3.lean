/- A part of the proof. -/
import Derived.Test.YtlfolhmfdmcmiaaGreatDoorN2
set_option linter.all false
open Bool renaming and_eq_true->aM,and_false->ye,false->af,false_and->n8,false_or->BF,not_false->fN,not_true->b9,or_eq_false_iff->ml,or_false->BG,true->ag,true_and->kV,true_or->vb
open Int renaming add_sub_cancel->ahz,add_zero->lK,ediv_lt_of_lt_mul->BP,ediv_nonneg->ve,eq_ofNat_of_zero_le->fW,le_refl->cf,mul_assoc->jD,mul_le_mul->qf,mul_le_mul_of_nonneg_left->qg,mul_nonneg->oc,natCast_mul->kW,tdiv_eq_ediv_of_nonneg->og,tmod_eq_emod_of_nonneg->Gj,toNat_natCast->cW
open List renaming all_eq_true->lL,getElem?_eq_none->jF,getElem_mem->g7,length_append->dF,length_cons->fH,length_map->gf,length_set->gg,length_take->fI,map_append->mu,mem_append->cE,mem_cons->dy,mem_cons_of_mem->ff,mem_cons_self->eA,mem_map->kj,mem_of_mem_take->VD,mem_singleton->gR,range->vo,take_add_one->yA,take_of_length_le->rF
open Nat renaming add_zero->qj,div_eq_of_lt->tm,le_refl->aL,le_trans->bX,mod_eq_of_lt->rG,mul_add_div->vq,mul_add_mod->B0,mul_comm->lN,mul_le_mul->Gt,mul_le_mul_left->ain,rec->g9,zero_le->bI
open Option renaming bind->aiA,bind_some->ah,some->ab
open Sum renaming inl->bb,inr->cy
noncomputable section
namespace Go.Cc
open Go.As
def Wq{ρ:Type}(m:Option ρ)(Q:ρ->Prop):Prop:=∃r,m=ab r/\Q r
theorem jj{ρ:Type}(r:ρ)(Q:ρ->Prop):Wq (ab r) Q↔Q r:=⟨λ⟨_,e,h⟩=>(by simp_all[h]),λh=>⟨_,rfl,h⟩⟩
theorem fG{α ρ:Type}(m:Option α)(f:α->Option ρ)(Q:ρ->Prop):Wq (m.bind f) Q↔Wq m (λy=>Wq (f y) Q):=by
 constructor
 .rintro ⟨r,e,h⟩;obtain⟨y,A,I⟩:=Option.bind_eq_some_iff.1 e;exact⟨y,A,r,I,h⟩
 rintro⟨y,A,r,I,h⟩;exact⟨r,by simp[A,I],h⟩
theorem lI{ρ:Type}(c:Bool)(a b:Option ρ)(Q:ρ->Prop):Wq (bif c then a else b) Q↔(c=ag->Wq a Q)/\(c=af->Wq b Q):=by cases c<;>simp
theorem UR{ρ:Type}(c:Bool)(a:Option ρ)(Q:ρ->Prop):Wq (aT c a) Q↔c=ag/\Wq a Q:=by
 cases c
 .exact ⟨λ⟨_,e,_⟩=>(by cases e),λh=>(by cases h.1)⟩
 exact⟨λh=>⟨rfl,h⟩,λh=>h.2⟩
theorem Ml{ρ:Type}(y:Int)(a:Option ρ)(Q:ρ->Prop):Wq (kv y a) Q↔y≠0/\Wq a Q:=by
 by_cases h:y=0
 .subst h;exact⟨λ⟨_,e,_⟩=>(by cases e),λh=>absurd rfl h.1⟩
 rw[nJ h];grind
theorem F2(c:Bool)(a:Option Bool)(Q:Bool->Prop):Wq (aF c a) Q↔(c=ag->Wq a Q)/\(c=af->Q af):=by
 cases c
 .exact ⟨λh=>⟨λh=>(by cases h),λ_=>(jj _ _).1 h⟩,λh=>(jj _ _).2 (h.2 rfl)⟩
 exact⟨λh=>⟨λ_=>h,λh=>(by cases h)⟩,λh=>h.1 rfl⟩
theorem F3(c:Bool)(a:Option Bool)(Q:Bool->Prop):Wq (aV c a) Q↔(c=af->Wq a Q)/\(c=ag->Q ag):=by
 cases c
 .exact ⟨λh=>⟨λ_=>h,λh=>(by cases h)⟩,λh=>h.1 rfl⟩
 exact⟨λh=>⟨λh=>(by cases h),λ_=>(jj _ _).1 h⟩,λh=>(jj _ _).2 (h.2 rfl)⟩
theorem bW{σ ρ:Type}(s:σ)(Q:σ⊕ρ->Prop):Wq (aB s) Q↔Q (.inl s):=jj _ _
theorem dC{σ ρ:Type}(s:ρ)(Q:σ⊕ρ->Prop):Wq (ay s) Q↔Q (.inr s):=jj _ _
def jn{σ ρ:Type}(k:σ->Prop)(Q:ρ->Prop):σ⊕ρ->Prop
 |.inl s=>k s
 |.inr r=>Q r
theorem bV{σ ρ:Type}(s:σ)(k:σ->Prop)(Q:ρ->Prop):jn k Q (.inl s)=k s:=rfl
theorem lr{σ ρ:Type}(s:ρ)(k:σ->Prop)(Q:ρ->Prop):jn k Q (.inr s)=Q s:=rfl
theorem iF{σ ρ:Type}(m:Option (σ⊕ρ))(k:σ->Option ρ)(Q:ρ->Prop):Wq (bt m k) Q↔Wq m (jn (λs=>Wq (k s) Q) Q):=by
 constructor
 .rintro ⟨r,e,h⟩;cases m with
  |none=>cases e
  |some v=>cases v<;>first|exact⟨_,rfl,r,e,h⟩|rename_i s;cases e;exact⟨_,rfl,h⟩
 rintro⟨v,rfl,h⟩;cases v<;>first|exact⟨_,rfl,h⟩|exact h
theorem cC{ρ:Type}{m:Option ρ}{P Q:ρ->Prop}(h:Wq m P)(k:∀r,P r->Q r):Wq m Q:=by
 obtain⟨r,e,h⟩:=h;exact⟨r,e,k r h⟩
theorem cJ{σ ρ:Type}{step:σ->Option (σ⊕ρ)}{Q:ρ->Prop}(I:σ->Prop)(m:σ->Nat){s:σ}(U:I s)(h:∀s,I s->Wq (step s) (jn (λA=>I A/\m A< m s) Q)):Wq (aA step s) Q:=
 eW I m Q (λs Z=>by
  obtain⟨v,e,J⟩:=h s Z;cases v with
  |inl A=>exact .inl ⟨A,e,J⟩
  |inr r=>exact .inr ⟨r,e,J⟩) s U
theorem gy{α ρ:Type}{l:List α}{i:Int}{f:α->Option ρ}{Q:ρ->Prop}(A:0<=i)(h1:i< l.length)(h:∀x,l[i.toNat]? =ab x->x∈l->Wq (f x) Q):Wq (aQ l i f) Q:=by
 obtain⟨n,rfl⟩:=fW A;have I:n< l.length:=by omega
 rw[cO I];grind
theorem dJ{α ρ:Type}{l:List α}{i:Int}{f:α->Option ρ}{Q:ρ->Prop}(A:0<=i)(h1:i< l.length)(h:∀x,l[i.toNat]? =ab x->x∈l->Wq (f x) Q):Wq (aN l i f) Q:=by
 obtain⟨n,rfl⟩:=fW A;have I:n< l.length:=by omega
 rw[z5 I];grind
theorem cZ{x y:Int}:(ak x y=ag)↔x< y:=by simp[mO]
theorem kK{x y:Int}:(ak x y=af)↔y<=x:=by simp[mO]
theorem ix{x y:Int}:(ai x y=ag)↔x<=y:=by simp[l5]
theorem Aa{x y:Int}:(ai x y=af)↔y< x:=by simp[l5]
theorem wc{x y:Int}:(aj x y=ag)↔x=y:=by simp[fB]
theorem zB{x y:Int}:(aj x y=af)↔x≠y:=by simp[fB]
theorem TL{n b:Nat}:(bZ n b=ag)↔n*b<=70368744177664/\n<=70368744177664:=by
 simp[bZ,aM,Nat.ble_eq]
theorem wB{α ρ:Type}{m:Option α}{f:α->Option ρ}{P:α->Prop}{Q:ρ->Prop}(h:Wq m P)(g:∀y,P y->Wq (f y) Q):Wq (m.bind f) Q:=(fG _ _ _).2 (cC h g)
theorem wS{ρ:Type}{r:ρ}{Q:ρ->Prop}(h:Q r):Wq (ab r) Q:=(jj _ _).2 h
theorem bE{ρ:Type}{c:Bool}{a b:Option ρ}{Q:ρ->Prop}(h:c=ag->Wq a Q)(g:c=af->Wq b Q):Wq (bif c then a else b) Q:=(lI _ _ _ _).2 ⟨h,g⟩
def T{α:Type}:α->Prop:=λ_=>True
theorem n4{c:Bool}{m:Option Bool}(h:Wq m T):Wq (aV c m) T:=(F3 _ _ _).2 ⟨λ_=>h,λ_=>trivial⟩
theorem LY{c:Bool}{m:Option Bool}(h:Wq m T):Wq (aF c m) T:=(F2 _ _ _).2 ⟨λ_=>h,λ_=>trivial⟩
theorem tS{ρ:Type}{r:ρ}:Wq (ab r) T:=wS trivial
theorem acR{b:Bool}:((!b)=ag)↔b=af:=by simp
theorem xg{b:Bool}:((!b)=af)↔b=ag:=by simp
theorem ov{a b:Bool}:((a&&b)=ag)↔a=ag/\b=ag:=by simp
theorem Xu{α:Type}{a b:α}:(bif ag then a else b)=a:=rfl
theorem Xt{α:Type}{a b:α}:(bif af then a else b)=b:=rfl
theorem wk:type_of% @jj/\type_of% @fG/\type_of% @lI/\type_of% @UR/\type_of% @Ml/\type_of% @F2/\type_of% @F3/\type_of% @bW/\type_of% @dC/\type_of% @bV/\type_of% @lr/\type_of% @iF/\type_of% @cZ/\type_of% @kK/\type_of% @ix/\type_of% @Aa/\type_of% @wc/\type_of% @zB/\type_of% @TL/\type_of% @acR/\type_of% @xg/\type_of% @ov/\type_of% @Xu/\type_of% @Xt:=
 ⟨@jj,@fG,@lI,@UR,@Ml,@F2,@F3,@bW,@dC,@bV,@lr,@iF,@cZ,@kK,@ix,@Aa,@wc,@zB,@TL,@acR,@xg,@ov,@Xu,@Xt⟩
theorem uB{i j:Int}(A:0<=i:=by omega)(h1:0<=j:=by omega)(h2:i+j< 4611686018427387904:=by omega):w ((wu (w (i+j))).fdiv 2)=(i+j)/2:=by
 rw[au (n:=i+j),bM,Int.fdiv_eq_ediv_of_nonneg _ (by omega),au]
end Go.Cc
namespace Go.Proofs.YtlfolhmfdmcmiaaGreatDoor
open Go.As Go.Nt Go.Cc
section
structure Sb{α:Type}(d d':List α):Prop where
 len:d'.length=d.length
 mem:∀x∈d',x∈d
theorem Sb.refl{α:Type}(d:List α):Sb d d:=⟨rfl,λ_ h=>h⟩
theorem Sb.trans{α:Type}{a b c:List α}(h:Sb a b)(g:Sb b c):Sb a c:=⟨g.len.trans h.len,λx A=>h.mem x (g.mem x A)⟩
theorem Sb.set{α:Type}{d d':List α}{i:Nat}{x:α}(h:Sb d d')(I:x∈d):Sb d (d'.set i x):=⟨by simp[h.len],λy A=>by
 rcases List.mem_or_eq_of_mem_set A with A|rfl
 .exact h.mem y A
 omega⟩
variable {α:Type}
theorem Um{d:List α}{a b n:Int}(c:d.length<=1099511627776:=by omega)(e:0<=a:=by omega)(f:0<=b:=by omega)(I:0<=n:=by omega)(h1:a+n<=d.length:=by omega)(h2:b+n<=d.length:=by omega):Wq (Bl d a b n) λr=>Sb d r.2.1:=by
 refine cJ (λs=>0<=s.1.1/\s.1.1<=n/\Sb d s.2.2.1) (λs=>(n-s.1.1).toNat) ⟨cf _,I,.refl _⟩ ?_
 rintro⟨⟨i,⟨⟩⟩,⟨⟩,d1,⟨⟩⟩ ⟨g,h,A⟩;have J:=A.len;unfold age;dsimp only at*;simp[lI,cZ,dC];refine⟨λhi=>?_,λhi=>A⟩
 simp(disch:=omega) only [au];refine dJ (by omega) (by omega) λj _ U=>dJ (by omega) (by omega) λk _ Z=>dJ (by omega) (by omega) λl _ m=>dJ (by omega) (by grind) λo _ p=>?_
 rw[bW];exact⟨⟨by dsimp only;omega,by dsimp only;omega,(A.set (A.mem _ U)).set (A.mem _ Z)⟩,by dsimp only;omega⟩
theorem auU{d:List α}{a b n:Int}(g:d.length<=1099511627776)(h:0<=a)(k:a< b)(l:b< n)(h1:n<=d.length:=by omega):Wq (Fx d a b n) λr=>Sb d r.2.1:=by
 unfold Fx;rw[au (n:=b-a),au (n:=n-b),iF];refine cC (P:=λr=>∃i d1,r=.inl ((i,()),(),d1,())/\0< i/\i<=b-a/\i<=n-b/\Sb d d1) (cJ (λs=>0< s.1.1/\0< s.1.2.1/\s.1.1<=b-a/\s.1.2.1<=n-b/\Sb d s.2.2.1) (λs=>(s.1.1+s.1.2.1).toNat) ⟨by dsimp only;omega,by dsimp only;omega,cf _,cf _,.refl _⟩ ?_) ?_
 .rintro ⟨⟨i,j,⟨⟩⟩,⟨⟩,d1,⟨⟩⟩ ⟨J,c,U,e,A⟩;have Z:=A.len;unfold ae7;dsimp only at*;simp only[lI,cZ,kK,dC,Bool.not_eq_true',Bool.not_eq_false',wc,zB,fG,bW,bV];refine⟨λhi=>⟨λf=>?_,λf=>?_⟩,λhi=>⟨_,_,rfl,J,U,by omega,A⟩⟩
  .simp (disch:=omega) only [au];exact cC (Um) λr I=>⟨⟨by omega,c,by omega,e,A.trans I⟩,by omega⟩
  simp(disch:=omega) only [au];exact cC (Um) λr I=>⟨⟨J,by omega,U,by omega,A.trans I⟩,by omega⟩
 rintro _ ⟨i,d1,rfl,J,U,m,A⟩;have Z:=A.len;rw[bV];unfold ae8;rw[fG,au (by dsimp only;omega) (by dsimp only;omega)]
 exact cC (Um (by dsimp only;omega) (by dsimp only;omega) (by omega) (by dsimp only;omega) (by dsimp only;omega) (by dsimp only;omega)) λr I=>(jj _ _).2 (A.trans I)
theorem Qt{cm:α->α->Option Int}{d:List α}{a b:Int}(Z:∀x∈d,∀y∈d,Wq (cm x y) λ_=>True)(k:d.length<=1099511627776)(l:0<=a)(c:a<=b:=by omega)(m:b<=d.length:=by omega):Wq (zU cm d a b) λr=>Sb d r.2.1:=by
 unfold zU;rw[au (n:=a+1)];refine cJ (λs=>a+1<=s.1.1/\s.1.1<=b+1/\Sb d s.2.2.1) (λs=>(b+1-s.1.1).toNat) ⟨cf _,by dsimp only;omega,.refl _⟩ ?_
 rintro⟨⟨i,⟨⟩⟩,⟨⟩,d1,⟨⟩⟩ ⟨o,p,U⟩;unfold aaj;dsimp only at*;simp[wk];refine⟨λhi=>?_,λhi=>U⟩
 refine cC (P:=λr=>∃d3,r=.inl ((),(),d3,())/\Sb d d3) (cJ (λs=>a<=s.1.1/\s.1.1< b/\Sb d s.2.2.1) (λs=>(s.1.1-a).toNat) ⟨by dsimp only;omega,hi,U⟩ ?_) ?_
 .rintro ⟨⟨j,⟨⟩⟩,⟨⟩,d2,⟨⟩⟩ ⟨q,t,A⟩;have e:=A.len;unfold aah;dsimp only at*;simp only[wk];refine⟨λu=>?_,λ_=>⟨λh=>(by cases h),λ_=>⟨_,rfl,A⟩⟩⟩
  simp(disch:=omega) only [au];refine dJ (by omega) (by omega) λf _ I=>dJ (by omega) (by omega) λg _ J=>?_
  simp only[wk];refine cC (Z _ (A.mem _ I) _ (A.mem _ J)) λv _=>⟨λ_=>?_,λ_=>⟨_,rfl,A⟩⟩
  refine dJ (by omega) (by omega) λf _ I=>dJ (by omega) (by omega) λg _ J=>dJ (by omega) (by omega) λw _ z=>dJ (by omega) (by rw[gg];omega) λB _ C=>?_
  rw[bW];exact⟨⟨by dsimp only;omega,by dsimp only;omega,(A.set (A.mem _ I)).set (A.mem _ J)⟩,by dsimp only;omega⟩
 rintro _ ⟨d3,rfl,D⟩;rw[bV];unfold aai;rw[bW,bV];dsimp only;rw[au];grind
def Cm(cm:α->α->Option Int)(d:List α):=∀x∈d,∀y∈d,Wq (cm x y) λ_=>True
theorem Cm.sb{cm:α->α->Option Int}{d d':List α}(h:Cm cm d)(g:Sb d d'):Cm cm d':=λx A y I=>h x (g.mem x A) y (g.mem y I)
theorem NU{ρ:Type}{step:aJ×Unit×Unit->Option (aJ×Unit×Unit⊕(Int×Unit)×Unit×Unit⊕ρ)}{i j:Int}(a:0<=i)(A:i<=j)(b:j<=1099511627776)
  (h:∀p q,i<=p->p<=q->q<=j->Wq (step ((p,q,()),(),())) (jn (λs=>p< q/\(s=(((p+q)/2+1,q,()),(),())∨s=((p,(p+q)/2,()),(),()))) λr=>r=.inl ((p,()),(),()))):
  Wq (aA step ((i,j,()),(),())) λr=>∃t,r=.inl ((t,()),(),())/\i<=t/\t<=j:=by
 refine cJ (λs=>i<=s.1.1/\s.1.1<=s.1.2.1/\s.1.2.1<=j) (λs=>(s.1.2.1-s.1.1).toNat) ⟨cf _,A,cf _⟩ ?_
 rintro⟨⟨p,q,⟨⟩⟩,⟨⟩,⟨⟩⟩ ⟨p0,J,I⟩;dsimp only at p0 J I;refine cC (h p q p0 J I) λr U=>?_
 rcases r with s|r
 .obtain ⟨Z,rfl|rfl⟩:=U
  .exact ⟨⟨by dsimp only;omega,by dsimp only;omega,I⟩,by dsimp only;omega⟩
  exact⟨⟨p0,by dsimp only;omega,by dsimp only;omega⟩,by dsimp only;omega⟩
 cases U;exact⟨p,rfl,p0,by omega⟩
def B3(cm:α->α->Option Int)(k:Nat)(F:List α->Int->Int->Int->Option (Unit×List α×Int×Int×Int×(Unit×Unit)×Unit)):=
 ∀d (a b n:Int),Cm cm d->d.length<=1099511627776->0<=a->a< b->b< n->n<=d.length->n-a<=k->Wq (F d a b n) λr=>Sb d r.2.1
variable {cm:α->α->Option Int}
theorem av3{d:List α}{a b n:Int}(U:Cm cm d)(j:d.length<=1099511627776)(k:0<=a)(Z:a< b)(c:b< n)(l:n<=d.length):
  Wq (bt (aA (Un cm d a) ((b,n,()),(),())) (agj d a b n)) λr=>Sb d r.2.1:=by
 rw[iF];refine cC (NU (by omega) (by omega) (by omega) λp q h1 h2 m=>?_) ?_
 .unfold Un;simp only[wk];refine⟨λh=>?_,λ_=>trivial⟩
  rw[uB];refine dJ (by omega) (by omega) λe _ I=>dJ (by omega) (by omega) λf _ J=>?_
  simp only[wk];refine cC (U _ I _ J) λv _=>⟨λ_=>⟨h,.inl ?_⟩,λ_=>⟨h,.inr trivial⟩⟩
  rw[au]
 rintro _ ⟨t,rfl,t0,t1⟩;refine cJ (λs=>a<=s.1.1/\s.1.1<=t/\Sb d s.2.2.1) (λs=>(n-s.1.1).toNat) ⟨cf _,by dsimp only;omega,.refl _⟩ ?_
 rintro⟨⟨i,⟨⟩⟩,⟨⟩,d1,⟨⟩⟩ ⟨o,u,A⟩;have g:=A.len;unfold agi;dsimp only at*;simp(disch:=omega) only [au];simp[wk];refine⟨λhi=>?_,λhi=>A⟩
 refine dJ (by omega) (by omega) λe _ I=>dJ (by omega) (by omega) λf _ J=>dJ (by omega) (by omega) λw _ x=>dJ (by omega) (by grind) λy _ z=>?_
 rw[bW];exact⟨⟨by dsimp only;omega,by dsimp only;omega,(A.set (A.mem _ I)).set (A.mem _ J)⟩,by dsimp only;omega⟩
theorem av4{d:List α}{a b n:Int}(U:Cm cm d)(j:d.length<=1099511627776)(k:0<=a)(Z:a< b)(c:b< n)(l:n<=d.length):
  Wq (bt (aA (Uq cm d b) ((a,b,()),(),())) (agl d a b n)) λr=>Sb d r.2.1:=by
 rw[iF];refine cC (NU (by omega) (by omega) (by omega) λp q h1 h2 m=>?_) ?_
 .unfold Uq;simp only[wk];refine⟨λh=>?_,λ_=>trivial⟩
  rw[uB];refine dJ (by omega) (by omega) λe _ I=>dJ (by omega) (by omega) λf _ J=>?_
  simp only[wk];refine cC (U _ I _ J) λv _=>⟨λ_=>⟨h,.inl ?_⟩,λ_=>⟨h,.inr trivial⟩⟩
  rw[au]
 rintro _ ⟨t,rfl,t0,t1⟩;refine cJ (λs=>t<=s.1.1/\s.1.1<=b/\Sb d s.2.2.1) (λs=>s.1.1.toNat) ⟨by omega,cf _,.refl _⟩ ?_
 rintro⟨⟨i,⟨⟩⟩,⟨⟩,d1,⟨⟩⟩ ⟨o,u,A⟩;have g:=A.len;unfold agk;dsimp only at*;simp[wk];refine⟨λhi=>?_,λhi=>A⟩
 simp(disch:=omega) only [au];refine dJ (by omega) (by omega) λe _ I=>dJ (by omega) (by omega) λf _ J=>dJ (by omega) (by omega) λw _ x=>dJ (by omega) (by rw[gg];omega) λy _ z=>?_
 rw[bW];exact⟨⟨by dsimp only;omega,by dsimp only;omega,(A.set (A.mem _ I)).set (A.mem _ J)⟩,by dsimp only;omega⟩
theorem av2{k:Nat}{F:List α->Int->Int->Int->Option (Unit×List α×Int×Int×Int×(Unit×Unit)×Unit)}(hF:B3 cm k F){d:List α}{a b n t:Int}(c:Cm cm d)(j:d.length<=1099511627776)(l:0<=a)(e:a< b)(f:b< n)(m:n<=d.length)(o:n-a<=k+1)
  (t1:a<=t:=by omega) (t2:t<=(a+n)/2:=by omega) (t3:t<=b:=by omega) (t4:(a+n)/2+b-t<=n:=by omega):Wq (Ut F d a b n ((t,()),(),())) λr=>Sb d r.2.1:=by
 unfold Ut;rw[uB];simp(disch:=omega) only [au];simp only[wk];have key:∀d1,Sb d d1->Wq (Us F a b n _ ((),(),d1,())) _:=λd1 I=>by
  have g:=I.len;unfold Us;rw[uB];simp only[wk];have key:∀d2,Sb d d2->Wq (Ur F a b n ((t,()),(),()) ((),(),d2,())) λr=>Sb d r.2.1:=λd2 A=>by
   have i:=A.len;unfold Ur;rw[uB];simp only[wk];exact⟨λJ=>⟨λU=>cC (hF d2 _ _ _ (c.sb A) (by omega) (by omega) J U (by omega) (by omega)) λr Z=>A.trans Z,λ_=>A⟩,λ_=>⟨λh=>(by cases h),λ_=>A⟩⟩
  exact⟨λJ=>⟨λU=>cC (hF d1 _ _ _ (c.sb I) (by omega) (by omega) J U (by omega) (by omega)) λr Z=>key _ (I.trans Z),λ_=>key _ I⟩,λ_=>⟨λh=>(by cases h),λ_=>key _ I⟩⟩
 exact⟨λJ=>⟨λU=>cC (auU (by omega) (by omega) J U) λr Z=>key _ Z,λ_=>key _ (.refl _)⟩,λ_=>⟨λh=>(by cases h),λ_=>key _ (.refl _)⟩⟩
theorem agf{k:Nat}{F:List α->Int->Int->Int->Option (Unit×List α×Int×Int×Int×(Unit×Unit)×Unit)}(hF:B3 cm k F){d:List α}{a b n A I:Int}(Z:Cm cm d)(c:d.length<=1099511627776)(e:0<=a)(J:a< b)(U:b< n)(f:n<=d.length)(g:n-a<=k+1:=by omega)
  (t1:a<=A:=by omega) (t2:A<=I:=by omega) (t3:I<=(a+n)/2:=by omega) (t4:I<=b:=by omega) (t5:(a+n)/2+b-A<=n:=by omega):Wq (Uo cm F d a b n ((A,I,()),(),())) λr=>Sb d r.2.1:=by
 unfold Uo;dsimp only;rw[iF];refine cC (NU (by omega) (by omega) (by omega) λp q h1 h2 l=>?_) ?_
 .unfold agm;simp only[wk];refine⟨λh=>?_,λ_=>trivial⟩
  rw[uB,uB];simp(disch:=omega) only [au];refine dJ (by omega) (by omega) λm _ i=>dJ (by omega) (by omega) λo _ j=>?_
  simp only[wk];exact cC (Z _ i _ j) λv _=>⟨λ_=>⟨h,.inl trivial⟩,λ_=>⟨h,.inr trivial⟩⟩
 rintro _ ⟨t,rfl,s,u⟩;exact av2 hF Z c e J U f g
theorem av6{k:Nat}{F:List α->Int->Int->Int->Option (Unit×List α×Int×Int×Int×(Unit×Unit)×Unit)}(hF:B3 cm k F):B3 cm (k+1) (Bm cm F):=λd a b n J U Z A I c e=>by
  unfold Bm;rw[uB,au (n:=(a+n)/2+b),au (n:=(a+n)/2+b-n),lI,lI,iF];refine⟨λ_=>(iF _ _ _).1 (av3 J U Z A I c),λf=>⟨λ_=>av4 J U Z A I c,λg=>?_⟩⟩
  simp[wk];exact⟨λ_=>agf hF J U Z A I c,λ_=>agf hF J U Z A I c⟩
theorem av5 k:B3 cm k (g9 (λ_ _ _ _=>none) (λ_ F=>Bm cm F) k):=
 g9 (λd a b n J U Z A I c e=>by grind) (λ_ ih=>av6 ih) k
theorem agh{d:List α}{a b n:Int}(J:Cm cm d)(U:d.length<=1099511627776)(Z:0<=a)(A:a< b:=by omega)(I:b< n:=by omega)(c:n<=d.length:=by omega):Wq (FT cm d a b n) λr=>Sb d r.2.1:=
 av5 1099511627776 d a b n J U Z A I c (by omega)
theorem avP{d:List α}{n:Int}(b:Cm cm d)(p:d.length<=1099511627776)(f:0<=n:=by omega)(q:n<=d.length:=by omega):Wq (FM cm d n) λr=>Sb d r.2.1:=by
 unfold FM;rw[iF];refine cC (P:=λr=>∃a d1,r=.inl ((a,()),(),d1,())/\0<=a/\a<=n/\Sb d d1) (cJ (λs=>0<=s.1.1/\s.1.1<=n/\s.1.2.1=s.1.1+20/\Sb d s.2.2.1) (λs=>(n-s.1.1).toNat) ⟨cf _,f,rfl,.refl _⟩ ?_) ?_
 .rintro ⟨⟨i,j,⟨⟩⟩,⟨⟩,d1,⟨⟩⟩ ⟨U,g,e,I⟩;have c:=I.len;unfold af3;dsimp only at*;simp only[wk];refine⟨λhi=>cC (Qt (b.sb I) (by omega) U) λr J=>⟨⟨by omega,hi,au,I.trans J⟩,by omega⟩,λhi=>⟨_,_,rfl,U,g,I⟩⟩
 rintro _ ⟨a,d1,rfl,l,m,I⟩;have c:=I.len;rw[bV];unfold af7;rw[fG];refine cC (Qt (b.sb I) (by dsimp only;omega) l m (by dsimp only;omega)) λr J=>?_
 refine cJ (λs=>20<=s.1.1/\s.1.1<=2199023255552/\Sb d s.2.2.1) (λs=>(n-s.1.1).toNat) ⟨cf _,by simp,I.trans J⟩ ?_
 rintro⟨⟨k,⟨⟩⟩,⟨⟩,d2,⟨⟩⟩ ⟨t,k1,Z⟩;unfold af6;dsimp only at*;simp[wk];refine⟨λu=>?_,λ_=>Z⟩
 rw[au];refine cJ (λs=>0<=s.1.1/\s.1.1<=n/\s.1.2.1=s.1.1+2*k/\Sb d s.2.2.1) (λs=>(n-s.1.1).toNat) ⟨cf _,f,by simp,Z⟩ ?_
 rintro⟨⟨i,j,⟨⟩⟩,⟨⟩,d3,⟨⟩⟩ ⟨U,g,e,A⟩;have o:=A.len;unfold af5 af4;dsimp only at*;simp(disch:=omega) only [au];simp only[wk];refine⟨λhi=>?_,λhi=>⟨λh=>?_,λh=>?_⟩⟩
 .exact cC (agh (b.sb A) (by omega) U) λr J=>⟨⟨by omega,hi,trivial,A.trans J⟩,by omega⟩
 .exact cC (agh (b.sb A) (by omega) U (by omega) h) λr J=>⟨⟨by omega,by omega,A.trans J⟩,by omega⟩
 grind
theorem afZ{d:List α}(A:Cm cm d)(I:d.length<=1099511627776:=by omega):Wq (LQ cm d) λr=>Sb d r.2.1:=by
 unfold LQ;rw[fG];exact cC (avP A I) λr J=>(jj _ _).2 J
end
theorem nj{α ρ:Type}{l:List α}{i j:Int}{K:α->α->Option ρ}{Q:ρ->Prop}(hi:0<=i)(I:i< l.length)(J:0<=j)(A:j< l.length)(h:∀x∈l,∀y∈l,Wq (K x y) Q):
  Wq (aN l i λx=>aN l j λy=>aN l j λ_=>aN (l.set j.toNat x) i λ_=>K x y) Q:=
 dJ hi I λx _ mx=>dJ J A λy _ U=>dJ J A λ_ _ _=>dJ hi (by grind) λ_ _ _=>h x mx y U
theorem n6{α ρ:Type}{cm:α->α->Option Int}{l:List α}{i j:Int}{K:Int->Option ρ}{Q:ρ->Prop}(J:Cm cm l)(hi:0<=i)(A:i< l.length)(U:0<=j)(I:j< l.length)(h:∀v,Wq (K v) Q):
  Wq (aN l i λx=>aN l j λy=>(cm x y).bind K) Q:=
 dJ hi A λx _ mx=>dJ U I λy _ Z=>(fG _ _ _).2 (cC (J x mx y Z) λv _=>h v)
abbrev mz:=Cm cV
theorem atc{d:List DQ}{a b:Int}(I:mz d)(J:d.length<=1099511627776)(U:0<=a)(A:a<=b)(Z:b<=d.length:=by omega):Wq (Sl d a b) (λr=>Sb d r.2.1):=Qt (cm:=cV) I J U A Z
theorem adL{d:List DQ}{a b f:Int}(Z:mz d)(m:d.length<=1099511627776)(c:0<=a)(U:a<=1099511627776)(hf:0<=f)(o:f+b<=d.length:=by omega)(e:0<=b:=by omega):Wq (ED d a b f) (λr=>Sb d r.2.1):=by
 unfold ED;refine cJ (λs=>0<=s.1.1/\s.1.1<=1099511627776/\Sb d s.2.2.1) (λs=>(b-s.1.1).toNat) ⟨c,U,.refl _⟩ ?_
 rintro⟨⟨i,⟨⟩⟩,⟨⟩,d1,⟨⟩⟩ ⟨p,q,A⟩;have g:=A.len;have I:=Z.sb A;unfold adK;dsimp only at*;rw[au (n:=2*i),au (n:=2*i+1),au (n:=2*i+1+1),lI,ix,Aa];refine⟨λ_=>(dC _ _).2 A,λhi=>?_⟩
 have key:∀j:Int,i< j->j< b->Wq (Sw a b f ((i,()),(),d1,()) ((j,()),(),())) (jn (λJ=>(0<=J.1.1/\J.1.1<=1099511627776/\Sb d J.2.2.1)/\(b-J.1.1).toNat<(b-i).toNat) λr=>Sb d r.2.1):=λj t k=>by
  unfold Sw;dsimp only;rw[au (n:=f+i),au (n:=f+j)];refine n6 I (by omega) (by omega) (by omega) (by omega) λv=>?_
  simp only[wk];refine⟨λ_=>A,λ_=>nj (by omega) (by omega) (by omega) (by omega) λx mx y l=>?_⟩
  rw[bW,bV];exact⟨⟨by dsimp only;omega,by dsimp only;omega,(A.set (A.mem _ mx)).set (A.mem _ l)⟩,by dsimp only;omega⟩
 simp only[wk];rw[au (n:=f+(2*i+1))];refine⟨λh=>?_,λ_=>⟨λh=>(by cases h),λ_=>key _ (by omega) hi⟩⟩
 rw[au (n:=f+(2*i+1)+1)];refine n6 I (by omega) (by omega) (by omega) (by omega) λv=>?_
 simp only[wk];grind
theorem as8{d:List DQ}{a b:Int}(Z:mz d)(l:d.length<=1099511627776:=by omega)(c:0<=a:=by omega)(e:a< b:=by omega)(m:b<=d.length:=by omega):Wq (Kk d a b) (λr=>Sb d r.2.1):=by
 unfold Kk;rw[au (n:=b-a),au (n:=b-a-1),og (by omega),au]
 refine cJ (λs=> -1<=s.1.1/\s.1.1<=b-a/\Sb d s.2.2.1) (λs=>(s.1.1+1).toNat) ⟨by dsimp only;omega,by dsimp only;omega,.refl _⟩ ?_
 rintro⟨⟨i,⟨⟩⟩,⟨⟩,d1,⟨⟩⟩ ⟨o,p,I⟩;have f:=I.len;unfold adm;dsimp only at*;rw[au (n:=b-a),au (n:=b-a-1)];simp only[wk];refine⟨λhi=>cC (adL (Z.sb I) (by omega) hi (by omega) c) λr J=>?_,λhi=>?_⟩
 .rw [au];exact⟨⟨by omega,by omega,I.trans J⟩,by omega⟩
 refine cJ (λs=> -1<=s.1.1/\s.1.1< b-a/\Sb d s.2.2.1) (λs=>(s.1.1+1).toNat) ⟨by dsimp only;omega,by dsimp only;omega,I⟩ ?_
 rintro⟨⟨j,⟨⟩⟩,⟨⟩,d2,⟨⟩⟩ ⟨q,t,A⟩;have g:=A.len;unfold adl;dsimp only at*;rw[au (n:=a+j)];simp only[wk];refine⟨λu=>nj (by omega) (by omega) (by omega) (by omega) λx mx y h=>?_,λ_=>A⟩
 have U:=(A.set (i:=a.toNat) (A.mem _ mx)).set (i:=(a+j).toNat) (A.mem _ h);have k:=U.len;rw[fG];refine cC (adL (Z.sb U) (by omega) (by omega) (by omega) c) λr J=>?_
 rw[au,bW,bV];exact⟨⟨by dsimp only;omega,by dsimp only;omega,U.trans J⟩,by dsimp only;omega⟩
theorem atj{d:List DQ}{a b:Int}(Z:d.length<=1099511627776:=by omega)(c:0<=a:=by omega)(I:a<=b:=by omega)(e:b<=d.length:=by omega):Wq (Ko d a b) (λr=>Sb d r.2.1):=by
 unfold Ko;rw[au (n:=b-1)];refine cJ (λs=>a<=s.1.1/\s.1.2.1< b/\ -1<=s.1.2.1/\s.1.1<=b+1/\Sb d s.2.2.1) (λs=>(b-s.1.1+1).toNat) ⟨cf _,by dsimp only;omega,by dsimp only;omega,by dsimp only;omega,.refl _⟩ ?_
 rintro⟨⟨i,j,⟨⟩⟩,⟨⟩,d1,⟨⟩⟩ ⟨f,g,h,k,A⟩;have J:=A.len;unfold adJ;dsimp only at*;simp[wk];refine⟨λhi=>nj (by omega) (by omega) (by omega) (by omega) λx mx y U=>?_,λ_=>A⟩
 rw[au,au,bW];exact⟨⟨by dsimp only;omega,by dsimp only;omega,by dsimp only;omega,by dsimp only;omega,(A.set (A.mem _ mx)).set (A.mem _ U)⟩,by dsimp only;omega⟩
theorem So{d:List DQ}{a b s:Int}(J:mz d)(U:0<=a:=by omega)(A:a< d.length:=by omega)(Z:0<=b:=by omega)(I:b< d.length:=by omega):Wq (EA d a b s) (λr=>r.2.1=d/\(r.1=(a,b,())∨r.1=(b,a,()))):=by
 refine n6 J Z I U A λv=>?_
 simp only[wk];simp
theorem adn{d:List DQ}{a b c s lo hi:Int}(I:mz d)(J:0<=lo)(h1:hi<=d.length)(k:lo<=a:=by omega)(Z:a< hi:=by omega)(l:lo<=b:=by omega)(e:b< hi:=by omega)(m:lo<=c:=by omega)(f:c< hi:=by omega):Wq (Ez d a b c s) (λr=>r.2.1=d/\lo<=r.1/\r.1< hi):=by
 unfold Ez;rw[fG];refine cC (So I) λA ⟨g,J⟩=>?_
 rw[fG,g];have i:lo<=A.1.1/\A.1.1< hi/\lo<=A.1.2.1/\A.1.2.1< hi:=by rcases J with h|h<;>rw[h]<;>exact⟨by assumption,by assumption,by assumption,by assumption⟩
 obtain⟨n,o,p,q⟩:=i;refine cC (So I) λU ⟨j,h1⟩=>?_
 rw[fG,j];have t:lo<=U.1.1/\U.1.1< hi:=by rcases h1 with h|h<;>rw[h]<;>exact⟨by assumption,by assumption⟩
 refine cC (So I) λu ⟨v,h2⟩=>?_
 rw[jj];grind
theorem Sn{d:List DQ}{a s lo hi:Int}(A:mz d)(I:0<=lo)(h1:hi<=d.length)(Z:d.length<=1099511627776)(b:lo< a:=by omega)(J:a+1< hi:=by omega):Wq (AK d a s) (λr=>r.2.1=d/\lo<=r.1/\r.1< hi):=by
 unfold AK;rw[fG,au (n:=a-1),au (n:=a+1)];exact cC (adn A I h1) λr U=>(jj _ _).2 U
theorem as7{d:List DQ}{a b:Int}(A:mz d)(U:d.length<=1099511627776:=by omega)(I:0<=a:=by omega)(f:a+12< b:=by omega)(J:b<=d.length:=by omega):Wq (Ki d a b) (λr=>r.2.1=d/\a<=r.1.1/\r.1.1< b):=by
 unfold Ki;rw[au (n:=b-a),og (by omega)]
 simp(disch:=omega) only [au];have k1:∀(p q:Int),a<=p->p< b->Wq (Kj a b ((p,()),(q,()),d,())) (λr=>r.2.1=d/\a<=r.1.1/\r.1.1< b):=λp q h1 h2=>by
  unfold Kj;dsimp only;simp only[wk];exact⟨λ_=>⟨trivial,h1,h2⟩,λ_=>⟨λ_=>⟨trivial,h1,h2⟩,λ_=>⟨trivial,h1,h2⟩⟩⟩
 have g:∀(p q r s:Int),a<=p->p< b->a<=q->q< b->a<=r->r< b->Wq (Sk ((p,q,r,()),(s,()),d,())) (jn (λs=>Wq (Kj a b s) (λr=>r.2.1=d/\a<=r.1.1/\r.1.1< b)) (λr=>r.2.1=d/\a<=r.1.1/\r.1.1< b)):=λp q r s i j k l m o=>by
  unfold Sk;dsimp only;rw[fG];refine cC (adn A I J i j k l m o) λy ⟨e,Z,c⟩=>?_
  rw[bW,bV,e];simp[k1,Z,c]
 simp only[wk];refine⟨λ_=>⟨λt=>?_,λ_=>g _ _ _ _ (by omega) (by omega) (by omega) (by omega) (by omega) (by omega)⟩,λh=>k1 _ _ (by omega) (by omega)⟩
 refine cC (Sn A I J U) λB ⟨u,C,v⟩=>?_
 rw[u];refine cC (Sn A I J U) λZ ⟨w,h1,x⟩=>?_
 rw[w];refine cC (Sn A I J U) λc ⟨D,h2,z⟩=>?_
 grind
theorem WR{n:Nat}(A:0< n)(h1:n< 4294967296):∃k:Nat,vU (wu (n))=ab (k:Int)/\k<=32/\n< 2^k/\2^k<=2*n:=by
 obtain⟨k,e,k1,k2,I,J⟩:=Rp A h1;refine⟨k,?_,k2,I,?_⟩
 .unfold vU Hc WQ;rw[bM,NV,di (x:=4294967296)];exact e
 obtain⟨m,rfl⟩:∃m,k=m+1:=⟨k-1,by omega⟩
 grind
theorem asz{n:Nat}(A:0< n:=by omega)(h1:n< 4294967296:=by omega):∃m:Nat,LO (n)=ab (m:Int)/\n< m/\m<=2*n:=by
 obtain⟨k,e,k1,k2,I⟩:=WR A h1;refine⟨2^k,?_,k2,I⟩;unfold LO;rw[e,ah,bc,aw,Int.one_mul,cW,show Nat.min k 64=k from Nat.min_eq_left (by omega)]
 have J:((2^k:Nat):Int)=2^k:=Int.natCast_pow 2 k;rw[<-J,bM]
theorem ajl a{n:Int}(A:0<=n)(h1:n< 4294967296*2):0<=w (wu (((word .u64 a).land (word .u64 (wu n)))))/\w (wu (((word .u64 a).land (word .u64 (wu n)))))<=n:=by
 obtain⟨m,rfl⟩:=fW A;have h2:(word .u64 a).land (word .u64 (wu m))<=m:=by
  rw[bM,BB];exact Nat.and_le_right
 rw[bM,au];omega
theorem as6{d:List DQ}{a b:Int}(g:d.length< 4294967296:=by omega)(h:0<=a:=by omega)(U:a+12< b:=by omega)(k:b<=d.length:=by omega):Wq (Kh d a b) (λr=>Sb d r.2.1):=by
 unfold Kh;rw[au (n:=b-a),og (by omega)]
 rw[au (n:=(b-a)/4),au (n:=(b-a)/4*2),au (n:=a+(b-a)/4*2),au (n:=a+(b-a)/4*2-1)];have I:∃n:Nat,b-a=(n:Int):=fW (by omega)
 obtain⟨n,I⟩:=I;obtain⟨m,e,l,o⟩:=asz (n:=n);rw[I,e];simp only[wk];refine⟨λ_=>?_,λ_=>.refl _⟩
 refine cJ (λs=>a+(n:Int)/4*2-1<=s.1.1/\s.1.1<=a+(n:Int)/4*2+2/\Sb d s.2.2.1) (λs=>(a+(n:Int)/4*2+2-s.1.1).toNat) ⟨cf _,by dsimp only;omega,.refl _⟩ ?_
 rintro⟨⟨i,⟨⟩⟩,⟨⟨r,⟨⟩⟩,⟨d1,⟨⟩⟩⟩⟩ ⟨p,t,A⟩;have Z:=A.len;unfold adk;dsimp only at*;rw[I,au (n:=(n:Int)),og (by omega)]
 rw[au (n:=(n:Int)/4),au (n:=(n:Int)/4*2),au (n:=a+(n:Int)/4*2),au (n:=a+(n:Int)/4*2+1)];rw[lI,ix,Aa];refine⟨λhi=>?_,λ_=>(dC _ _).2 A⟩
 generalize u:w (wu (((word .u64 _).land _:Nat):Int))=q;have c:=ajl (wu ↑((word .u64 (wu ↑((word .u64 (wu ↑((word .u64 r).xor (word .u64 (wu (r*8192)))))).xor (word .u64 ((wu ↑((word .u64 r).xor (word .u64 (wu (r*8192))))).fdiv 128))))).xor (word .u64 (wu (wu ↑((word .u64 (wu ↑((word .u64 r).xor (word .u64 (wu (r*8192)))))).xor (word .u64 ((wu ↑((word .u64 r).xor (word .u64 (wu (r*8192))))).fdiv 128)))*131072))))) (n:=(m:Int)-1) (by omega) (by omega)
 have key:∀j:Int,0<=j->j< n->Wq (Sj a ((i,()),(r,()),d1,()) ((j,()),(),())) (jn (λJ=>(a+(n:Int)/4*2-1<=J.1.1/\J.1.1<=a+(n:Int)/4*2+2/\Sb d J.2.2.1)/\(a+(n:Int)/4*2+2-J.1.1).toNat<(a+(n:Int)/4*2+2-i).toNat) λr=>Sb d r.2.1):=λj v z=>by
  unfold Sj;dsimp only;rw[au (n:=a+j)];refine nj (by omega) (by omega) (by omega) (by omega) λx mx y f=>?_
  rw[bW,bV,au (n:=i+1)];exact⟨⟨by dsimp only;omega,by dsimp only;omega,(A.set (A.mem _ mx)).set (A.mem _ f)⟩,by dsimp only;omega⟩
 simp only[wk];rw[au (n:=q-n)];grind
theorem ate{d:List DQ}{a b:Int}(f:mz d)(z:d.length<=1099511627776:=by omega)(B:0<=a:=by omega)(m:a< b:=by omega)(C:b<=d.length:=by omega):Wq (Km d a b) (λr=>Sb d r.2.1):=by
 unfold Km;rw[au (n:=a+1)];refine cJ (λs=>a+1<=s.1.1/\s.1.1<=b/\0<=s.1.2.1/\s.1.2.1<=5/\Sb d s.2.2.1) (λs=>(5-s.1.2.1).toNat) ⟨cf _,by dsimp only;omega,cf _,by simp,.refl _⟩ ?_
 rintro⟨⟨i,k,⟨⟩⟩,⟨⟩,d1,⟨⟩⟩ ⟨o,p,D,k1,I⟩;have q:=I.len;unfold adx;dsimp only at*;simp only[wk];refine⟨λE=>?_,λ_=>I⟩
 refine cC (P:=λr=>∃t,r=.inl ((t,()),(),())/\a+1<=t/\t<=b) (cJ (λs=>a+1<=s.1.1/\s.1.1<=b) (λs=>(b-s.1.1).toNat) ⟨o,p⟩ ?_) ?_
 .rintro ⟨⟨j,⟨⟩⟩,⟨⟩,⟨⟩⟩ ⟨c,e⟩;unfold adt;dsimp only at*;simp only[wk];refine⟨λl=>?_,λ_=>⟨λh=>(by cases h),λ_=>⟨_,rfl,c,e⟩⟩⟩
  rw[au (n:=j-1)];refine n6 (f.sb I) (by omega) (by omega) (by omega) (by omega) λv=>?_
  simp only[wk];refine⟨λ_=>?_,λ_=>⟨_,rfl,c,e⟩⟩
  rw[au (n:=j+1)];omega
 rintro _ ⟨t,rfl,t0,t1⟩;rw[bV];unfold adw;dsimp only;rw[au (n:=t-1),au (n:=t-a)];simp only[wk];refine⟨λ_=>I,λF=>⟨λ_=>I,λ_=>?_⟩⟩
 refine nj (by omega) (by omega) (by omega) (by omega) λx mx y U=>?_
 have h2:=(I.set (i:=t.toNat) (I.mem _ mx)).set (i:=(t-1).toNat) (I.mem _ U);have u:=h2.len;have key:∀d3,Sb d d3->Wq (Sq b ((i,k,()),(),d1,()) ((t,()),(),()) ((),(),d3,())) (jn (λJ=>(a+1<=J.1.1/\J.1.1<=b/\0<=J.1.2.1/\J.1.2.1<=5/\Sb d J.2.2.1)/\(5-J.1.2.1).toNat<(5-k).toNat) λr=>Sb d r.2.1):=λd3 Z=>by
  have w:=Z.len;unfold Sq;dsimp only;rw[au (n:=k+1),au (n:=t+1)];simp only[wk];refine⟨λ_=>?_,λ_=>⟨⟨t0,t1,by omega,by omega,Z⟩,by omega⟩⟩
  refine cJ (λs=>t+1<=s.1.1/\s.1.1<=b+1/\Sb d s.2.2.1) (λs=>(b+1-s.1.1).toNat) ⟨cf _,by dsimp only;omega,Z⟩ ?_
  rintro⟨⟨j,⟨⟩⟩,⟨⟩,d4,⟨⟩⟩ ⟨c,e,A⟩;have g:=A.len;unfold adv;dsimp only at*;rw[au (n:=k+1)];simp only[wk];refine⟨λl=>?_,λ_=>⟨⟨t0,t1,by omega,by omega,A⟩,by omega⟩⟩
  rw[au (n:=j-1)];refine n6 (f.sb A) (by omega) (by omega) (by omega) (by omega) λv=>?_
  simp only[wk];refine⟨λ_=>⟨⟨t0,t1,by omega,by omega,A⟩,by omega⟩,λ_=>?_⟩
  refine nj (by omega) (by omega) (by omega) (by omega) λx mx y U=>?_
  rw[bW,bV,au (n:=j+1)];exact⟨⟨by dsimp only;omega,by dsimp only;omega,(A.set (A.mem _ mx)).set (A.mem _ U)⟩,by dsimp only;omega⟩
 simp only[wk];refine⟨λ_=>?_,λ_=>key _ h2⟩
 refine cC (P:=λr=>∃d3,r=.inl ((),(),d3,())/\Sb d d3) (cJ (λs=>0<=s.1.1/\s.1.1< t/\Sb d s.2.2.1) (λs=>s.1.1.toNat) ⟨by dsimp only;omega,by dsimp only;omega,h2⟩ ?_) ?_
 .rintro ⟨⟨j,⟨⟩⟩,⟨⟩,d4,⟨⟩⟩ ⟨c,e,A⟩;have g:=A.len;unfold adu;dsimp only at*;simp only[wk];refine⟨λl=>?_,λ_=>⟨_,rfl,A⟩⟩
  rw[au (n:=j-1)];refine n6 (f.sb A) (by omega) (by omega) (by omega) (by omega) λv=>?_
  simp only[wk];refine⟨λ_=>⟨_,rfl,A⟩,λ_=>?_⟩
  refine nj (by omega) (by omega) (by omega) (by omega) λx mx y U=>?_
  rw[bW,bV];exact⟨⟨by dsimp only;omega,by dsimp only;omega,(A.set (A.mem _ mx)).set (A.mem _ U)⟩,by dsimp only;omega⟩
 rintro _ ⟨d3,rfl,Z⟩;exact key _ Z
theorem TY{ρ:Type}{step:(Int×Unit)×Unit×Unit->Option ((Int×Unit)×Unit×Unit⊕(Int×Unit)×Unit×Unit⊕ρ)}{i:Int} j
  (h:∀p,i<=p->p<=j+1∨p=i->Wq (step ((p,()),(),())) (jn (λs=>p<=j/\s=((p+1,()),(),())) λr=>r=.inl ((p,()),(),()))):
  Wq (aA step ((i,()),(),())) λr=>∃t,r=.inl ((t,()),(),())/\i<=t/\(t<=j+1∨t=i):=by
 refine cJ (λs=>i<=s.1.1/\(s.1.1<=j+1∨s.1.1=i)) (λs=>(j+1-s.1.1).toNat) ⟨cf _,.inr rfl⟩ ?_
 rintro⟨⟨p,⟨⟩⟩,⟨⟩,⟨⟩⟩ ⟨p0,A⟩;dsimp only at p0 A;refine cC (h p p0 A) λr I=>?_
 rcases r with s|r
 .obtain ⟨hp,rfl⟩:=I;exact⟨⟨by dsimp only;omega,by dsimp only;omega⟩,by dsimp only;omega⟩
 cases I;exact⟨p,rfl,p0,A⟩
theorem TW{ρ:Type}{step:(Int×Unit)×Unit×Unit->Option ((Int×Unit)×Unit×Unit⊕(Int×Unit)×Unit×Unit⊕ρ)} i{j:Int}
  (h:∀p,p<=j->i<=p+1∨p=j->Wq (step ((p,()),(),())) (jn (λs=>i<=p/\s=((p-1,()),(),())) λr=>r=.inl ((p,()),(),()))):
  Wq (aA step ((j,()),(),())) λr=>∃t,r=.inl ((t,()),(),())/\t<=j/\(i<=t+1∨t=j):=by
 refine cJ (λs=>s.1.1<=j/\(i<=s.1.1+1∨s.1.1=j)) (λs=>(s.1.1+1-i).toNat) ⟨cf _,.inr rfl⟩ ?_
 rintro⟨⟨p,⟨⟩⟩,⟨⟩,⟨⟩⟩ ⟨p0,A⟩;dsimp only at p0 A;refine cC (h p p0 A) λr I=>?_
 rcases r with s|r
 .obtain ⟨hp,rfl⟩:=I;exact⟨⟨by dsimp only;omega,by dsimp only;omega⟩,by dsimp only;omega⟩
 cases I;exact⟨p,rfl,p0,A⟩
theorem atd{d:List DQ}{a b p:Int}(Z:mz d)(l:d.length<=1099511627776)(m:0<=a)(c:a< b)(o:b<=d.length)(hp:a<=p)(e:p< b):Wq (Kl d a b p) (λr=>Sb d r.2.1/\a< r.1/\r.1<=b):=by
 refine nj (by omega) (by omega) (by omega) (by omega) λx mx y J=>?_
 rw[au (n:=a+1),au (n:=b-1)];refine cJ (λs=>a+1<=s.1.1/\s.1.1<=b/\s.1.2.1<=b-1/\a<=s.1.2.1/\Sb d s.2.2.1) (λs=>(s.1.2.1+2-s.1.1).toNat) ⟨cf _,by dsimp only;omega,cf _,by dsimp only;omega,((Sb.refl d).set mx).set J⟩ ?_
 rintro⟨⟨i,j,⟨⟩⟩,⟨⟩,d1,⟨⟩⟩ ⟨w,z,B,C,A⟩;have f:=A.len;have I:=Z.sb A;unfold ads;dsimp only at*;rw[iF];refine cC (TY j λq g k=>?_) ?_
 .unfold ado;simp only[wk];refine⟨λU=>?_,λ_=>⟨λh=>(by cases h),λ_=>trivial⟩⟩
  refine n6 I (by omega) (by omega) (by omega) (by omega) λv=>?_
  simp only[wk];exact⟨λ_=>⟨U,by rw[au]⟩,λ_=>trivial⟩
 rintro _ ⟨t,rfl,t0,t1⟩;rw[bV];unfold adr;dsimp only;rw[iF];refine cC (TW t λq g k=>?_) ?_
 .unfold adp;simp only[wk];refine⟨λU=>?_,λ_=>⟨λh=>(by cases h),λ_=>trivial⟩⟩
  refine n6 I (by omega) (by omega) (by omega) (by omega) λv=>?_
  simp only[wk];exact⟨λ_=>⟨U,by rw[au]⟩,λ_=>trivial⟩
 rintro _ ⟨u,rfl,D,E⟩;unfold adq;simp[wk];refine⟨λ_=>⟨A,by omega,by omega⟩,λh=>nj (by omega) (by omega) (by omega) (by omega) λx mx y J=>?_⟩
 rw[bW,au (n:=t+1),au (n:=u-1)];exact⟨⟨by dsimp only;omega,by dsimp only;omega,by dsimp only;omega,by dsimp only;omega,(A.set (A.mem _ mx)).set (A.mem _ J)⟩,by dsimp only;omega⟩
theorem ati{d:List DQ}{a b p:Int}(g:mz d)(C:d.length<=1099511627776)(D:0<=a)(m:a< b)(E:b<=d.length)(hp:a<=p)(o:p< b):Wq (EC d a b p) (λr=>Sb d r.2.1/\a<=r.1.1/\r.1.1< b):=by
 unfold EC;refine nj (by omega) (by omega) (by omega) (by omega) λx mx y I=>?_
 have h1:=((Sb.refl d).set (i:=a.toNat) mx).set (i:=p.toNat) I;have Z:=h1.len;have A:=g.sb h1;rw[au (n:=a+1),iF];refine cC (TY (b-1) λq e f=>?_) ?_
 .unfold adz;dsimp only;rw[au (n:=b-1)];simp only[wk];refine⟨λJ=>?_,λ_=>⟨λh=>(by cases h),λ_=>trivial⟩⟩
  refine n6 A (by omega) (by omega) (by omega) (by omega) λv=>?_
  simp only[wk];exact⟨λ_=>⟨J,by rw[au]⟩,λ_=>trivial⟩
 rintro _ ⟨t,rfl,t0,t1⟩;rw[bV];unfold adI;rw[au (n:=b-1),iF];refine cC (TW t λq e f=>?_) ?_
 .unfold adA;dsimp only;simp only[wk];refine⟨λJ=>?_,λ_=>⟨λh=>(by cases h),λ_=>trivial⟩⟩
  refine n6 A (by omega) (by omega) (by omega) (by omega) λv=>?_
  simp only[wk];exact⟨λ_=>⟨J,by rw[au]⟩,λ_=>trivial⟩
 rintro _ ⟨u,rfl,w,z⟩;rw[bV];unfold adH;dsimp only;generalize(d.set a.toNat x).set p.toNat y=d1 at h1 Z A|-;rw[lI,cZ,kK];refine⟨λh=>nj (by omega) (by omega) (by omega) (by omega) λx mx y I=>?_,λh=>nj (by omega) (by omega) (by omega) (by omega) λx mx y I=>?_⟩
 .rw [jj];exact⟨(h1.set (h1.mem _ mx)).set (h1.mem _ I),by dsimp only;omega,by dsimp only;omega⟩
 rw[au (n:=t+1),au (n:=u-1),iF];refine cC (P:=λr=>∃j d3,r=.inl ((j,()),(),d3,())/\a<=j/\j< b/\Sb d d3) (cJ (λs=>a+1<=s.1.1/\s.1.1<=b/\s.1.2.1<=b-1/\a<=s.1.2.1/\Sb d s.2.2.1) (λs=>(s.1.2.1+2-s.1.1).toNat) ⟨by dsimp only;omega,by dsimp only;omega,by dsimp only;omega,by dsimp only;omega,(h1.set (i:=t.toNat) (h1.mem _ mx)).set (i:=u.toNat) (h1.mem _ I)⟩ ?_) ?_
 .rintro ⟨⟨i,j,⟨⟩⟩,⟨⟩,d1,⟨⟩⟩ ⟨F,G,k,l,U⟩;have Z:=U.len;have A:=g.sb U;unfold adF;dsimp only at*;rw[iF];refine cC (TY j λq e f=>?_) ?_
  .unfold adB;dsimp only;simp only[wk];refine⟨λJ=>?_,λ_=>⟨λh=>(by cases h),λ_=>trivial⟩⟩
   refine n6 A (by omega) (by omega) (by omega) (by omega) λv=>?_
   simp only[wk];exact⟨λ_=>⟨J,by rw[au]⟩,λ_=>trivial⟩
  rintro _ ⟨t,rfl,t0,t1⟩;rw[bV];unfold adE;dsimp only;rw[iF];refine cC (TW t λq e f=>?_) ?_
  .unfold adC;dsimp only;simp only[wk];refine⟨λJ=>?_,λ_=>⟨λh=>(by cases h),λ_=>trivial⟩⟩
   refine n6 A (by omega) (by omega) (by omega) (by omega) λv=>?_
   simp only[wk];exact⟨λ_=>⟨J,by rw[au]⟩,λ_=>trivial⟩
  rintro _ ⟨u,rfl,w,z⟩;rw[bV];unfold adD;dsimp only;simp only[wk];refine⟨λ_=>⟨_,_,rfl,by omega,by omega,U⟩,λh=>nj (by omega) (by omega) (by omega) (by omega) λx mx y I=>?_⟩
  rw[bW,bV,au (n:=t+1),au (n:=u-1)];exact⟨⟨by dsimp only;omega,by dsimp only;omega,by dsimp only;omega,by dsimp only;omega,(U.set (U.mem _ mx)).set (U.mem _ I)⟩,by dsimp only;omega⟩
 rintro _ ⟨j,d3,rfl,l,k,c⟩;have B:=c.len;rw[bV];unfold adG;dsimp only;refine nj (by omega) (by omega) (by omega) (by omega) λx mx y I=>?_
 rw[jj];exact⟨(c.set (c.mem _ mx)).set (c.mem _ I),l,k⟩
def M6(k:Nat)(F:List DQ->Int->Int->Int->Option (Unit×List DQ×Int×Int×Int×(Unit×Unit)×Unit)):=∀d (a b l:Int),mz d->d.length< 4294967296->0<=a->a<=b->b<=d.length->b-a< k->Wq (F d a b l) λr=>Sb d r.2.1
theorem ath{k:Nat}{F:List DQ->Int->Int->Int->Option (Unit×List DQ×Int×Int×Int×(Unit×Unit)×Unit)}(hF:M6 k F):M6 (k+1) (EB F):=λd a b l U Y ha x hb hk=>by
 unfold EB;refine cJ (λs=>a<=s.1.1/\s.1.1<=s.1.2.1/\s.1.2.1<=b/\Sb d s.2.2.1) (λs=>(s.1.2.1-s.1.1).toNat) ⟨cf _,x,cf _,.refl _⟩ ?_
 rintro⟨⟨J,b',B,u,v,⟨⟩⟩,⟨⟩,d1,⟨⟩⟩ ⟨L,M,b0,i⟩;have N:=i.len;unfold ady;dsimp only at*;rw[au (n:=b'-J)];simp only[wk];refine⟨λ_=>cC (atc (U.sb i) (by omega) (by omega) M) λr Z=>i.trans Z,λO=>⟨λ_=>cC (as8 (U.sb i)) λr Z=>i.trans Z,λ_=>?_⟩⟩
 have key:∀(m:Int) (d2:List DQ),Sb d d2->Wq (Sv F a b l ((J,b',B,u,v,()),(),d1,()) ((m,()),(),d2,())) (jn (λA=>(a<=A.1.1/\A.1.1<=A.1.2.1/\A.1.2.1<=b/\Sb d A.2.2.1)/\(A.1.2.1-A.1.1).toNat<(b'-J).toNat) λr=>Sb d r.2.1):=λm d2 h2=>by
  have P:=h2.len;unfold Sv;dsimp only;rw[fG];refine cC (as7 (U.sb h2)) λy ⟨e,Q,R⟩=>?_
  rw[e];have c:∀(q h:Int) (d3:List DQ),Sb d d3->J<=q->q< b'->Wq (Su F a b l ((J,b',B,u,v,()),(),d1,()) ((m,()),(),d2,()) ((q,h,()),(),d3,())) (jn (λA=>(a<=A.1.1/\A.1.1<=A.1.2.1/\A.1.2.1<=b/\Sb d A.2.2.1)/\(A.1.2.1-A.1.1).toNat<(b'-J).toNat) λr=>Sb d r.2.1):=λq h d3 o G H=>by
   have S:=o.len;unfold Su;dsimp only;have f:∀(d4:List DQ),Sb d d4->Wq (Ss F ((J,b',B,u,v,()),(),d1,()) ((m,()),(),d2,()) ((q,h,()),(),d3,()) ((),(),d4,())) (jn (λA=>(a<=A.1.1/\A.1.1<=A.1.2.1/\A.1.2.1<=b/\Sb d A.2.2.1)/\(A.1.2.1-A.1.1).toNat<(b'-J).toNat) λr=>Sb d r.2.1):=λd4 j=>by
    have T:=j.len;unfold Ss;dsimp only;have kA:Wq ((Kl d4 J b' q).bind λp=>aB (ρ:=Unit×List DQ×Int×Int×Int×(Unit×Unit)×Unit) ((p.1,b',m,u,v,()),(),p.2.1,())) (jn (λA=>(a<=A.1.1/\A.1.1<=A.1.2.1/\A.1.2.1<=b/\Sb d A.2.2.1)/\(A.1.2.1-A.1.1).toNat<(b'-J).toNat) λr=>Sb d r.2.1):=by
     rw[fG];refine cC (atd (U.sb j) (by omega) (by omega) (by omega) (by omega) G H) λy ⟨g,C,V⟩=>?_
     rw[bW,bV];exact⟨⟨by dsimp only;omega,by omega,b0,j.trans g⟩,by dsimp only;omega⟩
    have kB:Wq ((EC d4 J b' q).bind λI=>bif ak (w (I.1.1-J)) (w (b'-I.1.1))then(F I.2.1 J I.1.1 m).bind λD=>aB (ρ:=Unit×List DQ×Int×Int×Int×(Unit×Unit)×Unit) ((w (I.1.1+1),b',m,ai (w ((w (b'-J)).tdiv 8)) (w (I.1.1-J)),I.1.2.1,()),(),D.2.1,())else(F I.2.1 (w (I.1.1+1)) b' m).bind λE=>aB ((J,I.1.1,m,ai (w ((w (b'-J)).tdiv 8)) (w (b'-I.1.1)),I.1.2.1,()),(),E.2.1,())) (jn (λA=>(a<=A.1.1/\A.1.1<=A.1.2.1/\A.1.2.1<=b/\Sb d A.2.2.1)/\(A.1.2.1-A.1.1).toNat<(b'-J).toNat) λr=>Sb d r.2.1):=by
     rw[fG];refine cC (ati (U.sb j) (by omega) (by omega) (by omega) (by omega) G H) λy ⟨g,C,V⟩=>?_
     have t:=j.trans g;have W:=t.len;rw[au (n:=y.1.1+1),lI,fG,fG];refine⟨λ_=>cC (hF _ _ _ _ (U.sb t) (by omega) (by omega) C (by omega) (by omega)) λr Z=>?_,λ_=>cC (hF _ _ _ _ (U.sb t) (by omega) (by omega) (by omega) (by omega) (by omega)) λr Z=>?_⟩
     .rw [bW,bV];exact⟨⟨by dsimp only;omega,by dsimp only;omega,b0,t.trans Z⟩,by dsimp only;omega⟩
     rw[bW,bV];exact⟨⟨L,C,by dsimp only;omega,t.trans Z⟩,by dsimp only;omega⟩
    rw[fG,F2,cZ,kK];refine⟨λh=>?_,λ_=>kB⟩
    rw[au (n:=J-1)];refine n6 (U.sb j) (by omega) (by omega) (by omega) (by omega) λv=>?_
    simp_all[jj,lI,kA,kB]
   rw[iF,cK,ah,cK,ah,lI,fG,bW,bV];refine⟨λ_=>cC (ate (U.sb o)) λy K=>?_,λ_=>f _ o⟩
   rw[lI,dC,bW,bV,lr,lr];exact⟨λ_=>o.trans K,λ_=>f _ (o.trans K)⟩
  rw[iF,lI,fG,bW,bV];refine⟨λ_=>cC (atj) λz X=>?_,λ_=>c _ _ _ h2 Q R⟩
  rw[bW,bV,au (n:=b'-1),au (n:=y.1.1-J),au];exact c _ _ _ (h2.trans X) (by omega) (by omega)
 exact⟨λ_=>cC (as6) λr Z=>key _ _ (i.trans Z),λ_=>key _ _ i⟩
theorem atf k:M6 k (g9 (λ_ _ _ _=>none) (λ_ F=>EB F) k):=
 g9 (λd a b l I J U A Z c=>by grind) (λ_ ih=>ath ih) k
theorem atg{d:List DQ}{a b l:Int}(I:mz d)(J:d.length< 4294967296)(U:0<=a:=by omega)(A:a<=b:=by omega)(Z:b<=d.length:=by omega):Wq (Sr d a b l) λr=>Sb d r.2.1:=
 atf 1099511627776 d a b l I J U A Z (by omega)
theorem ajK:vU (wu ((0:Nat)))=ab 0:=by kernel_rfl
theorem atk{d:List DQ}(I:mz d)(A:d.length< 4294967296:=by omega):Wq (Kp d) λr=>Sb d r.2.1:=by
 unfold Kp;have J:∃k:Int,vU (wu d.length)=ab k:=by
  by_cases Z:d.length=0
  .grind[ajK]
  obtain⟨k,e,_⟩:=WR (n:=d.length) (by omega) A
  simp[e]
 obtain⟨k,e⟩:=J;rw[e,ah,fG];exact cC (atg I A) λr U=>(jj _ _).2 U
theorem SW{n d:Int}{k:Nat}(A:d≠0)(I:(n.natAbs:Int)< 4294967296^k)(J:(d.natAbs:Int)< 4294967296^k):QS k (Rat.divInt n d):=by
 have:=zr n d A;exact⟨by omega,by omega⟩
theorem Ma{x y:DQ}{k m:Nat}(A:bp k x)(I:bp m y)(J:1<=k/\k<=mid:=by omega)(hm:1<=m/\m<=mid:=by omega):Wq (lC x y) (bp (k+m+1)):=
 ⟨_,ET (A.mono J.2) (I.mono hm.2),fo (EW (eJ A J.1) (eJ I hm.1))⟩
theorem UO{x y:DQ}{k m:Nat}(A:bp k x)(I:bp m y)(J:1<=k/\k<=mid:=by omega)(hm:1<=m/\m<=mid:=by omega):Wq (uQ x y) (bp (k+m+1)):=
 ⟨_,aej (A.mono J.2) (I.mono hm.2),fo (aen (eJ A J.1) (eJ I hm.1))⟩
theorem Mc{x y:DQ}{k m:Nat}(A:bp k x)(I:bp m y)(J:1<=k/\k<=mid:=by omega)(hm:1<=m/\m<=mid:=by omega):Wq (oT x y) (bp (k+m)):=
 ⟨_,EV (A.mono J.2) (I.mono hm.2),fo (pV (eJ A J.1) (eJ I hm.1))⟩
theorem iD{x y:DQ}{k m:Nat}(A:bp k x)(I:bp m y)(J:k<=mid:=by omega)(hm:m<=mid:=by omega):Wq (cV x y) λv=> -1<=v/\v<=1:=
 ⟨_,sI (A.mono J) (I.mono hm),by
  grind⟩
theorem Md{x:DQ}{k:Nat}(A:bp k x)(I:1<=k/\k<=mid:=by omega):Wq (jf x) (bp k):=
 ⟨_,nX (A.mono (bX I.2 (by simp[mid,aP]))),mc A I.1⟩
theorem iE{x:Int}(h:x.natAbs< 4294967296:=by omega):Wq (eN x) (bp 1):=⟨_,xq,fo (AU)⟩
theorem XK{n:Int}(h:n.natAbs< 18446744073709551616:=by omega):(n.natAbs:Int)< 4294967296^2:=by
 omega
theorem agT{k:Nat}:cP k (nz 0):=⟨eH _,bI _⟩
theorem pU{k:Nat}:bp k ((af,[],()),(af,[],()),()):=⟨agT,agT⟩
theorem agJ{n d:Int}(A:n.natAbs< 9223372036854775808)(I:d.natAbs< 9223372036854775808):Wq (xC n d) (λr=>bp 2 r.1):=by
 refine⟨_,aei,?_⟩;split
 .exact pU
 rename_i h;exact fo (SW h (XK) (XK))
theorem awA{x y:DZ}{k:Nat}(A:cP k x)(I:cP k y)(J:k<=aP)(U:zv y≠0):Wq (sO x y) (bp k):=
 ⟨_,EU (A.mono J) (I.mono J) U,fo (SW U A.lt I.lt)⟩
theorem awC{x y:DZ}{k:Nat}(A:cP k x)(I:cP k y)(J:k<=aP):Wq (xD x y) (λr=>bp k r.1):=by
 refine⟨_,SS (A.mono J) (I.mono J),?_⟩;split
 .exact pU
 rename_i h;exact fo (SW h A.lt I.lt)
theorem awz{x y:DQ}{k m:Nat}(I:bp k x)(J:bp m y)(U:1<=k/\k<=mid)(hm:1<=m/\m<=mid):Wq (uR x y) (λr=>cP (k+m) r.1/\cP (k+m) r.2.1/\cP (k+m) r.2.2.1/\0< zv r.2.2.1):=by
 have A:=eJ I U.1;have sy:=eJ J hm.1;refine⟨_,KF (I.mono U.2) (J.mono hm.2),dD (ft A.1 (fD sy)),dD (by rw[Nat.add_comm];exact ft sy.1 (fD A)),dD (ft (fD A) (fD sy)),?_⟩
 rw[bJ];have h1:=(qv x).den_pos;have h2:=(qv y).den_pos;exact Int.mul_pos (by omega) (by omega)
theorem awB{x y:DQ}{k m:Nat}(J:bp k x)(U:bp m y)(Z:1<=k/\k<=mid:=by omega)(hm:1<=m/\m<=mid:=by omega):Wq (Lj x y) (bp (k+m+1)):=by
 unfold Lj;rw[fG];refine cC (awz J U Z hm) λr ⟨h1,h2,I,a⟩=>?_
 have A:k+m<=half:=by grind[mid,half]
 rw[Mp (h1.mono A) (h2.mono A),ah,Mp (I.mono A) (I.mono A),ah,NV];exact awA (dD (uZ h1.lt h2.lt)) (dD (uZ I.lt I.lt)) (by unfold half at A;grind[aP]) (by grind[bJ])
theorem awD{x y:DQ}{k m:Nat}(I:bp k x)(J:bp m y)(U:1<=k/\k<=mid:=by omega)(hm:1<=m/\m<=mid:=by omega):Wq (Lk x y) (λr=>bp (k+m) r.1):=by
 unfold Lk;rw[fG];refine cC (Md I U) λa h1=>?_
 rw[fG];refine cC (Md J hm) λb h2=>?_
 have A:k<=half/\m<=half:=by grind[mid,half]
 rw[u9 (h1.1.mono A.1) (h2.2.mono A.2),ah,u9 (h1.2.mono A.1) (h2.1.mono A.2),ah,fG];refine cC (awC (dD (ft h1.1.lt h2.2.lt)) (dD (ft h1.2.lt h2.1.lt)) (by grind[mid,aP])) λr Z=>(jj _ _).2 Z
theorem nR:100000<=mid:=by simp[mid]
theorem IM{x:List aJ}(I:x.length<=1000000):Wq (zX x) (λb=>b=ag->∀p∈x,br p=ag):=by
 refine cJ (λs=>0<=s.1.1/\s.1.1<=(x.length:Int)/\∀p∈x.take s.1.1.toNat,br p=ag) (λs=>((x.length:Int)-s.1.1).toNat) ⟨cf _,by simp,λp hp=>by cases hp⟩ ?_
 rintro⟨⟨i,⟨⟩⟩,⟨⟩,⟨⟩⟩ ⟨A,J,h⟩;unfold aau;dsimp only at*;simp only[wk];refine⟨λhi=>?_,λhi _ p hp=>h p (by rw[rF (by omega)];omega)⟩
 refine gy A hi λy e _=>?_
 unfold QC;rw[qa,ah,ah,lI];refine⟨λ_=>(dC _ _).2 λh=>?_,λU=>?_⟩
 .simp_all[bS,A]
 rw[bW,au];refine⟨⟨by dsimp only;omega,by dsimp only;omega,λp hp=>?_⟩,by dsimp only;omega⟩
 rw[show(i+1).toNat=i.toNat+1 by omega,yA]at hp
 grind
theorem Hg{n d:Int}(A:n.natAbs< 9223372036854775808:=by omega)(I:d.natAbs< 9223372036854775808:=by omega):Wq (zW n d) (bp 2):=by
 exact wB (agJ A I) λr J=>wS J
theorem G0{a b:Int}{t:DQ}{k:Nat}(c:a.natAbs<=1048576)(d:b.natAbs<=1048576)(A:bp k t)(h1:1<=k:=by omega)(e:k<=1000:=by omega):Wq (wL a b t) (bp (k+3)):=by
 have:=nR;unfold wL;rw[au];exact wB (iE) λx I=>wB (iE) λy J=>wB (Mc A J) λz U=>wB (Ma I U) λr Z=>wS (Z.mono (by omega))
theorem WH{c:Bool}{a b m:Int}(A:a.natAbs<=m:=by omega)(I:b.natAbs<=m:=by omega):((bif c then a else b).natAbs:Int)<=m:=by grind
theorem ai4{x y:aJ}{z:DQ}{k:Nat}(I:br x=ag)(J:br y=ag)(A:bp k z)(h1:1<=k:=by omega)(g:k<=900:=by omega):Wq (QA x y z) (λr=>bp (k+7) r.1):=by
 have:=nR;have h:=iA I;have i:=iA J;have f1:=WH (c:=ai x.2.1 y.2.1) (a:=x.2.1) (b:=y.2.1) (m:=1048576);have f2:=WH (c:=ai x.2.1 y.2.1) (a:=y.2.1) (b:=x.2.1) (m:=1048576);refine wB (iE) λj U=>wB (iE) λl Z=>wB (IM (by simp)) λb _=>wB (n4 tS) λ_ _=>wB (n4 (wB (iD A U) λ_ _=>tS)) λ_ _=>wB (n4 (wB (iD A Z) λ_ _=>tS)) λ_ _=>bE (λ_=>wS pU) λ_=>?_
 rw[au];exact wB (iE) λb0 d=>wB (UO A d) λn h1=>wB (Hg) λo h2=>wB (Mc h1 h2) λp e=>wB (G0 (by omega) (by omega) e) λr f=>wS (f.mono (by omega))
theorem ai6{x y:aJ}{z:Int}(A:br x=ag)(I:br y=ag)(U:z.natAbs<=1048576):Wq (QB x y z) (λr=>bp 5 r.1):=by
 have Z:=iA A;have a:=iA I;refine wB (IM (by simp)) λb _=>wB (n4 tS) λ_ _=>wB (n4 tS) λ_ _=>wB (n4 tS) λ_ _=>bE (λ_=>wS pU) λ_=>?_
 rw[au,au];exact wB (Hg) λc h2=>wB (G0 (by omega) (by omega) h2) λr J=>wS J
theorem Jt(x y:aJ):Wq (x8 x y) T:=by
 unfold x8;rw[zO,ah,zO,ah];exact wB (n4 (wB (LY tS) λ_ _=>tS)) λ_ _=>tS
theorem Ym(x y:aJ):Wq (IZ x y) (λr=>(r.1=x∨r.1=y)/\(r.2.1=x∨r.2.1=y)):=by
 exact wB (Jt y x) λ_ _=>bE (λ_=>wS ⟨.inr rfl,.inl rfl⟩) λ_=>wS ⟨.inl rfl,.inr rfl⟩
theorem sV(x y:aJ):(FQ x y).1.natAbs<=2097152/\(FQ x y).2.1.natAbs<=2097152:=by
 have h1:=oA x.1;have h2:=oA y.1;have A:=oA x.2.1;have I:=oA y.2.1;grind[FQ,oG]
theorem acd{a b:Int}{m:Nat}(A:a.natAbs<=m)(I:b.natAbs<=m):(a*b).natAbs<=m*m:=by
 simp[Int.natAbs_mul,Gt,A,I]
theorem Hu{x y:aJ}(h1:x.1.natAbs<=2097152/\x.2.1.natAbs<=2097152)(h2:y.1.natAbs<=2097152/\y.2.1.natAbs<=2097152):Wq (wM x y) (λn=>n.natAbs<=9223372036854775807):=by
 have A:=acd h1.1 h2.2;have I:=acd h1.2 h2.1;unfold wM;rw[au (n:=x.1*y.2.1),au (n:=x.2.1*y.1),au];exact wS (by omega)
theorem avw{x y z u:aJ}(I:br x=ag)(J:br y=ag)(U:br z=ag)(Z:br u=ag):Wq (I0 x y z u) (λr=>r.1.1.natAbs<=1048576/\r.1.2.1.natAbs<=1048576):=by
 have key:∀p:aJ,br p=ag->p.1.natAbs<=1048576/\p.2.1.natAbs<=1048576:=λp h=>by have:=iA h;omega
 unfold I0;refine wB (Ym x y) λa ⟨c,d⟩=>wB (Ym z u) λb ⟨e,f⟩=>?_
 have k1:br a.1=ag:=by grind
 have k2:br a.2.1=ag:=by grind
 have A:br b.1=ag:=by grind
 have g:br b.2.1=ag:=by grind
 have f0:∀p q:aJ,br p=ag->Wq (aav ((),(p,()),()) ((),(q,()),())) (λr=>r.1.1.natAbs<=1048576/\r.1.2.1.natAbs<=1048576):=λp q hp=>by
  exact wB (Jt _ _) λ_ _=>bE (λ_=>wS ⟨by decide,by decide⟩) λ_=>bE (λ_=>wS (key p hp)) λ_=>wS ⟨by decide,by decide⟩
 have f1:∀p:aJ,br p=ag->Wq (QD a b ((),(p,()),())) (λr=>r.1.1.natAbs<=1048576/\r.1.2.1.natAbs<=1048576):=λp hp=>by
  unfold QD;rw[iF];exact wB (Jt _ _) λ_ _=>bE (λ_=>(bW _ _).2 (f0 _ _ hp)) λ_=>(bW _ _).2 (f0 _ _ hp)
 rw[iF];exact wB (Jt _ _) λ_ _=>bE (λ_=>(bW _ _).2 (f1 _ A)) λ_=>(bW _ _).2 (f1 _ k1)
theorem ai0{x y z u:aJ}(J:br x=ag)(U:br y=ag)(c:br z=ag)(d:br u=ag):Wq (IY x y z u) (λr=>bp 5 r.2.1):=by
 have:=nR;have o:=iA J;have p:=iA U;unfold IY;refine wB (IM (by simp)) λb _=>bE (λ_=>wS pU) λ_=>?_
 rw[Ul,ah,Ul,ah,Ul,ah];refine wB (Hu (sV _ _) (sV _ _)) λn q=>bE (λ_=>?_) λ_=>?_
 .refine wB (Hu (sV _ _) (sV _ _)) λw e=>wB (Hg) λt Z=>wB (Hu (sV _ _) (sV _ _)) λB f=>wB (Hg) λs g=>?_
  refine cJ (λs=>0<=s.1.1/\s.1.1<=2) (λs=>(2-s.1.1).toNat) ⟨cf _,by decide⟩ ?_
  rintro⟨⟨i,⟨⟩⟩,⟨⟨⟨⟨C,⟨⟩,⟨⟩⟩,⟨D,⟨⟩,⟨⟩⟩,⟨⟩⟩,⟨⟨E,⟨⟩,⟨⟩⟩,⟨F,⟨⟩,⟨⟩⟩,⟨⟩⟩,⟨⟩⟩,⟨⟩⟩⟩ ⟨h,G⟩;unfold aat;dsimp only at*;refine bE (λhi=>?_) λ_=>?_
  .have hi:=cZ.1 hi;refine dJ h hi λv _ A=>?_
   have A:bp 2 v:=by
    rcases dy.1 A with rfl|A<;>try trivial
    rw[gR.1 A];exact g
   refine wB (iE (by decide)) λH j=>wB (iD A j) λ_ _=>wB (n4 (wB (iE (by decide)) λK h1=>wB (iD A h1) λ_ _=>tS)) λ_ _=>bE (λ_=>(dC _ _).2 pU) λ_=>?_
   have hi:i< 2:=hi;rw[bW,bV,au];exact⟨⟨by dsimp only;omega,by dsimp only;omega⟩,by dsimp only;omega⟩
  exact wB (wB (G0 (by omega) (by omega) Z) λa k=>wB (G0 (by omega) (by omega) Z) λb I=>wS I) λr l=>(dC _ _).2 l
 have key:∀v:aJ,(v.1.natAbs<=2097152/\v.2.1.natAbs<=2097152)->Wq (Qz x y z u (FQ z x) ((),(v,()),())) (λr=>bp 5 r.2.1):=λv A=>by
  unfold Qz;exact wB (Hu A (sV _ _)) λm hm=>wB (n4 (wB (LY tS) λ_ _=>tS)) λ_ _=>bE (λ_=>wS pU) λ_=>wB (avw J U c d) λr ⟨L,M⟩=>bE (λ_=>wS pU) λ_=> wB (iE) λa k=>wB (iE) λb I=>wS (I.mono (by omega))
 rw[iF];exact bE (λ_=>(bW _ _).2 (key _ (sV _ _))) λ_=>(bW _ _).2 (key _ (sV _ _))
def tt{α:Type}(l:List (List α)):Nat:=(l.map List.length).sum
theorem Bs{α:Type}(a b:List (List α)):tt (a++b)=tt a+tt b:=by simp[tt,mu,List.sum_append]
theorem FX{α:Type}(r:List α):tt [r]=r.length:=by simp[tt]
theorem x6{α:Type}{l:List (List α)}{i:Nat}{r:List α}(e:l[i]? =ab r):tt (l.take (i+1))=tt (l.take i)+r.length:=by
 simp[yA,e,Bs,FX]
theorem sZ{α:Type}(l:List (List α))(i:Nat):tt (l.take i)<=tt l:=by
 conv=>rhs;rw[<-List.take_append_drop i l,Bs]
 omega
structure Vq(N:Nat)(y:List (List aJ)):Prop where
 len:y.length<=100000
 L4:tt y<=N
 ok:∀r∈y,∀p∈r,br p=ag
theorem Vq.ring{N:Nat}{y:List (List aJ)}(h:Vq N y){i:Nat}{r:List aJ}(e:y[i]? =ab r):tt (y.take i)+r.length<=N:=by
 have:=sZ y (i+1);rw[x6 e]at this;have:=h.L4;omega
theorem am2(p:aJ):br (oG p)=ag:=by
 have h1:=oA p.1;have h2:=oA p.2.1;simp_all[br,oG,aM,decide_eq_true_eq]
theorem ai9(p:aJ):L7 p (0,0,())=ab (oG p):=by
 have h1:=oA p.1;have h2:=oA p.2.1;unfold L7;rw[zO];show ab ((w ((oG p).1+0),w ((oG p).2.1+0),()))=_;unfold oG;dsimp only;rw[lK,lK,au,au]
theorem qu{α:Type}{a:List α}{x:α}{P:α->Prop}(h:∀y∈a,P y)(I:P x):∀y∈cH a [x],P y:=λy A=>by
 rcases cE.1 A with A|A
 all_goals grind
theorem po{α:Type}(a:List α)(x:α):(cH a [x]).length=a.length+1:=by simp[mI,dF]
theorem nY{α:Type}{a:List α}{x:α}{n:Nat}(h:a.length<=4000000:=by omega)(A:n<=1000:=by omega):bZ (a.length+[x].length) n=ag:=by
 have:(a.length+1)*n<=4000001*1000:=Gt (by omega) A
 exact jX (by grind) (by grind)
theorem j0{ρ:Type}{c:Bool}{a:Option ρ}{Q:ρ->Prop}(h:c=ag)(g:Wq a Q):Wq (aT c a) Q:=(UR _ _ _).2 ⟨h,g⟩
theorem agy{x:List (List aJ)}{N:Nat}(h:jL x)(c:N<=1000000)(d:tt x<=N):Wq (EP x (0,0,())) (Vq N):=by
 unfold EP;rw[ES h,ah];refine bE (λ_=>wS ⟨by simp,bI _,λr I=>by cases I⟩) λ_=>?_
 refine cJ (λs=>0<=s.1.2.1/\s.1.2.1<=(x.length:Int)/\(s.1.1.length:Int)<=s.1.2.1/\tt s.1.1<=tt (x.take s.1.2.1.toNat)/\∀r∈s.1.1,∀p∈r,br p=ag) (λs=>((x.length:Int)-s.1.2.1).toNat) ⟨cf _,by simp,cf _,bI _,λr I=>by cases I⟩ ?_
 rintro⟨⟨U,i,⟨⟩⟩,⟨⟩,⟨⟩⟩ ⟨Z,f,g,k,J⟩;unfold adY;dsimp only at*;have l:=h.1;refine bE (λhi=>?_) λhi=>?_
 .have hi:=cZ.1 hi;refine gy Z hi λr e a=>?_
  have I:=h.2 r a;refine cJ (λs=>0<=s.1.2.1/\s.1.2.1<=(r.length:Int)/\(s.1.1.length:Int)<=s.1.2.1/\∀p∈s.1.1,br p=ag) (λs=>((r.length:Int)-s.1.2.1).toNat) ⟨cf _,by simp,cf _,λp hp=>by cases hp⟩ ?_
  rintro⟨⟨m,j,⟨⟩⟩,⟨⟩,⟨⟩⟩ ⟨b,n,o,h2⟩;unfold adX;dsimp only at*;refine bE (λA=>?_) λA=>?_
  .have A:=cZ.1 A;refine gy b A λp _ _=>?_
   rw[ai9,ah];refine j0 (nY) ?_;rw[bW,bV,au];exact⟨⟨by dsimp only;omega,by dsimp only;omega,by dsimp only;rw[po];omega,qu h2 (am2 p)⟩,by dsimp only;omega⟩
  have A:=kK.1 A;rw[cX (nY),au,fG,bW,dC,lr,bV];refine⟨⟨by dsimp only;omega,by dsimp only;omega,by dsimp only;rw[po];omega,?_,qu J h2⟩,by dsimp only;omega⟩
  dsimp only;rw[show(i+1).toNat=i.toNat+1 by omega,x6 e,mI,Bs,FX]
  omega
 exact(dC _ _).2 ⟨by omega,by have:=sZ x i.toNat;omega,J⟩
def Mk(m:DQ×Int×Unit):Prop:=bp 18 m.1/\ -1<=m.2.1/\m.2.1<=1
theorem asV(a b:Int):Wq (Om [a,b]) T:=by
 refine cJ (λs=>0<=s.1.1/\s.1.1<=2) (λs=>(2-s.1.1).toNat) ⟨cf _,by decide⟩ ?_
 rintro⟨⟨i,⟨⟩⟩,⟨⟩,⟨⟩⟩ ⟨A,I⟩;unfold Xr;refine bE (λhi=>?_) λ_=>(dC _ _).2 trivial
 refine gy A (cZ.1 hi) λv _ _=>bE (λ_=>(dC _ _).2 trivial) λ_=>?_
 rw[bW,bV,au];grind
theorem akI(a b:Int):Wq (Ol a b) T:=by
 exact bE (λ_=>bE (λ_=>tS) λ_=>tS) λ_=>bE (λ_=>tS) λ_=>bE (λ_=>tS) λ_=>bE (λ_=>tS) λ_=>tS
theorem cmM{d:List (DQ×Int×Unit)}(h:∀m∈d,Mk m):Cm xS d:=λx A y I=>by
 have:=nR;exact wB (iD (h x A).1 (h y I).1) λ_ _=>wB (akI _ _) λ_ _=>wB (asV _ _) λ_ _=>wS trivial
theorem ab4{n:Nat}{j:Int}(A:0<=j)(I:j< n)(J:n<=1000000:=by omega):0<=(w (j+1)).tmod n/\(w (j+1)).tmod n< n:=by
 rw[au,Gj (by omega)]
 exact⟨Int.emod_nonneg _ (by omega),Int.emod_lt_of_pos _ (by omega)⟩
theorem arX{x:List (List aJ)}{N:Nat}(h:jL x)(o:N<=1000000)(t:tt x<=N){y:DQ}(d:bp 11 y):Wq (LC x y) (λr=>r.length<=N/\∀m∈r,Mk m):=by
 have:=nR;unfold LC;refine wB (agy h o t) λI c=>?_
 have k:=c.len;refine cJ (λs=>0<=s.1.1/\s.1.1<=(I.length:Int)/\s.2.1.1.length<=tt (I.take s.1.1.toNat)/\∀m∈s.2.1.1,Mk m) (λs=>((I.length:Int)-s.1.1).toNat) ⟨cf _,by simp,bI _,λr U=>by cases U⟩ ?_
 rintro⟨⟨i,⟨⟩⟩,⟨out,⟨⟩⟩,⟨⟩⟩ ⟨u,G,H,f⟩;unfold afD;dsimp only at*;refine bE (λhi=>?_) λhi=>?_
 .have hi:=cZ.1 hi;refine gy u hi λr e z=>?_
  have U:=c.ring e;have J:=c.ok r z;refine cJ (λs=>0<=s.1.1/\s.1.1<=(r.length:Int)/\(s.2.1.1.length:Int)<=tt (I.take i.toNat)+s.1.1/\∀m∈s.2.1.1,Mk m) (λs=>((r.length:Int)-s.1.1).toNat) ⟨cf _,by dsimp only;omega,by dsimp only;omega,f⟩ ?_
  rintro⟨⟨j,⟨⟩⟩,⟨B,⟨⟩⟩,⟨⟩⟩ ⟨l,K,L,h2⟩;unfold afC;dsimp only at*;refine bE (λZ=>?_) λZ=>?_
  .have Z:=cZ.1 Z;obtain⟨C,k1⟩:=ab4 l Z;have g:Wq (aB (ρ:=(Int×Unit)×(List (DQ×Int×Unit)×Unit)×Unit⊕List (DQ×Int×Unit)) ((w (j+1),()),(B,()),())) (jn (λA=>(0<=A.1.1/\A.1.1<=(r.length:Int)/\(A.2.1.1.length:Int)<=tt (I.take i.toNat)+A.1.1/\∀m∈A.2.1.1,Mk m)/\((r.length:Int)-A.1.1).toNat<((r.length:Int)-j).toNat) (jn (λA=>(0<=A.1.1/\A.1.1<=(I.length:Int)/\A.2.1.1.length<=tt (I.take A.1.1.toNat)/\∀m∈A.2.1.1,Mk m)/\((I.length:Int)-A.1.1).toNat<((I.length:Int)-i).toNat) λr=>r.length<=N/\∀m∈r,Mk m)):=by
    rw[bW,bV,au];exact⟨⟨by dsimp only;omega,by dsimp only;omega,by dsimp only;omega,h2⟩,by dsimp only;omega⟩
   refine gy l Z λp _ mp=>(Ml _ _ _).2 ⟨by omega,gy C k1 λq _ n=>bE (λ_=>?_) λ_=>g⟩
   have op:=iA (J p mp);have M:=iA (J q n);refine wB (iE) λa D=>wB (iD D d) λ_ _=>wB (iE) λb E=>wB (iD E d) λv c=>bE (λ_=>g) λ_=>wB (ai4 (J p mp) (J q n) d) λm hm=>bE (λ_=>j0 (nY) ?_) λ_=>g
   rw[bW,bV,au];exact⟨⟨by dsimp only;omega,by dsimp only;omega,by dsimp only;rw[po];omega,qu h2 ⟨hm,c⟩⟩,by dsimp only;omega⟩
  have Z:=kK.1 Z;rw[dC,lr,bV,au];refine⟨⟨by dsimp only;omega,by dsimp only;omega,?_,h2⟩,by dsimp only;omega⟩
  dsimp only;rw[show(i+1).toNat=i.toNat+1 by omega,x6 e]
  omega
 have O:=sZ I i.toNat;have F:=c.L4;exact wB (wB (afZ (cmM f)) λr U=>wS U) λr U=>(dC _ _).2 ⟨by rw[U.len];omega,λm hm=>f m (U.mem m hm)⟩
def Sp(s:lQ):Prop:=bp 18 s.1/\bp 18 s.2.1
theorem cmS{d:List lQ}(h:∀m∈d,Sp m):Cm xR d:=λx A y I=>by
 have:=nR;exact wB (iD (h x A).1 (h y I).1) λ_ _=>wS trivial
theorem afH{α:Type}{a:List α}{i:Nat}{x:α}{P:α->Prop}(h:∀y∈a,P y)(A:P x):∀y∈a.set i x,P y:=λy I=>by
 grind
theorem abX{x:List lQ}{N:Nat}(B:x.length<=N)(C:N<=1000000)(h:∀s∈x,Sp s):Wq (FF x) (λr=>r.length<=N/\∀s∈r,Sp s):=by
 have:=nR;unfold FF;refine cJ (λs=>0<=s.1.2.1/\s.1.2.1<=(x.length:Int)/\(s.1.1.length:Int)<=s.1.2.1/\∀m∈s.1.1,Sp m) (λs=>((x.length:Int)-s.1.2.1).toNat) ⟨cf _,by simp,cf _,λr J=>by cases J⟩ ?_
 rintro⟨⟨a,i,⟨⟩⟩,⟨⟩,⟨⟩⟩ ⟨k,D,E,Z⟩;unfold afA;dsimp only at*;refine bE (λhi=>?_) λhi=>?_
 .have hi:=cZ.1 hi;refine gy k hi λs _ e=>?_
  obtain⟨U,I⟩:=h s e;refine wB (iD U I) λ_ _=>bE (λ_=>wB (Md U) λF h1=>wB (Md I) λG h2=>j0 (nY) ?_) λ_=>?_
  .rw [bW,bV,au];exact⟨⟨by dsimp only;omega,by dsimp only;omega,by dsimp only;rw[po];omega,qu Z ⟨h1,h2⟩⟩,by dsimp only;omega⟩
  rw[bW,bV,au];exact⟨⟨by dsimp only;omega,by dsimp only;omega,by dsimp only;omega,Z⟩,by dsimp only;omega⟩
 refine wB (wB (afZ (cmS Z)) λy g=>?_) λr J=>(dC _ _).2 J
 have l:=g.len;have o:∀m∈y.2.1,Sp m:=λm hm=>Z m (g.mem m hm)
 refine cJ (λs=>0<=s.1.2.1/\s.1.2.1<=(y.2.1.length:Int)/\(s.1.1.length:Int)<=s.1.2.1/\∀m∈s.1.1,Sp m) (λs=>((y.2.1.length:Int)-s.1.2.1).toNat) ⟨cf _,by dsimp only;omega,cf _,λr J=>by cases J⟩ ?_
 rintro⟨⟨b,j,⟨⟩⟩,⟨⟩,⟨⟩⟩ ⟨p,H,K,A⟩;unfold afz;dsimp only at*;refine bE (λd=>?_) λd=>(dC _ _).2 ⟨by omega,A⟩
 have d:=cZ.1 d;refine dJ p d λs _ e=>?_
 obtain⟨U,I⟩:=o s e;rw[au (n:=(b.length:Int)-1),au (n:=j+1)];have f:Wq (aV (aj (b.length:Int) 0) (aN b ((b.length:Int)-1) λq=>(cV q.2.1 s.1).bind λv=>ab (ak v 0))) (λc=>c=af->b.length≠0):=by
  rw[F3,wc,zB];refine⟨λL=>dJ (by omega) (by omega) λt _ mt=>wB (iD (A t mt).2 U) λ_ _=>wS λ_=>by omega,λ_ h=>by cases h⟩
 refine wB f λc w=>bE (λ_=>j0 (nY) ?_) λh=>?_
 .rw [bW,bV];exact⟨⟨by dsimp only;omega,by dsimp only;omega,by dsimp only;rw[po];omega,qu A ⟨U,I⟩⟩,by dsimp only;omega⟩
 have:=w h;refine dJ (by omega) (by omega) λt _ mt=>wB (iD (A t mt).2 I) λ_ _=>bE (λ_=>dJ (by omega) (by omega) λu _ z=>?_) λ_=>?_
 .rw [bW,bV];exact⟨⟨by dsimp only;omega,by dsimp only;omega,by dsimp only;rw[gg];omega,afH A ⟨(A u z).1,I⟩⟩,by dsimp only;omega⟩
 rw[bW,bV];exact⟨⟨by dsimp only;omega,by dsimp only;omega,by dsimp only;omega,A⟩,by dsimp only;omega⟩
theorem alW(n y:Int):Wq (EM n y) T:=by
 simp[EM,tS]
theorem avN{x:List (List aJ)}{N:Nat}(h:jL x)(Z:N<=1000000)(d:tt x<=N){y:DQ}(e:bp 11 y)(A:Int):Wq (LB x A y) (λr=>r.length<=N/\∀s∈r,Sp s):=by
 unfold LB;refine wB (arX h Z d e) λm ⟨p,b⟩=>?_
 refine cJ (λs=>0<=s.1.2.2.1/\s.1.2.2.1<=(m.length:Int)/\(s.1.1.length:Int)<=s.1.2.2.1/\ -s.1.2.2.1<=s.1.2.1/\s.1.2.1<=s.1.2.2.1/\∀m∈s.1.1,Sp m) (λs=>((m.length:Int)-s.1.2.2.1).toNat) ⟨cf _,by dsimp only;omega,cf _,cf _,cf _,λr I=>by cases I⟩ ?_
 rintro⟨⟨a,n,i,⟨⟩⟩,⟨⟩,⟨⟩⟩ ⟨f,t,u,v,w,J⟩;unfold afB;dsimp only at*;refine bE (λhi=>?_) λhi=>wB (wB (abX (N:=N) (by omega) Z J) λr I=>wS I) λr I=>(dC _ _).2 I
 have hi:=cZ.1 hi;refine gy f hi λq _ g=>?_
 obtain⟨j,z,B⟩:=b q g;rw[au (n:=i+1),au (n:=n+q.2.1)];have U:Wq (aF (ak (i+1) (m.length:Int)) ((EM (n+q.2.1) A).bind λk=>ab k)) (λc=>c=ag->i+1< m.length):=by
  rw[F2,cZ,kK];exact⟨λh=>wB (alW _ _) λ_ _=>wS λ_=>h,λ_ h=>by cases h⟩
 refine wB U λc l=>bE (λh=>?_) λ_=>?_
 .refine gy (by omega) (l h) λr _ o=>j0 (nY) ?_
  rw[bW,bV];exact⟨⟨by dsimp only;omega,by dsimp only;omega,by dsimp only;rw[po];omega,by dsimp only;omega,by dsimp only;omega,qu J ⟨j,(b r o).1⟩⟩,by dsimp only;omega⟩
 rw[bW,bV];exact⟨⟨by dsimp only;omega,by dsimp only;omega,by dsimp only;omega,by dsimp only;omega,by dsimp only;omega,J⟩,by dsimp only;omega⟩
theorem aag{a b:DQ}{k:Nat}(A:bp 18 a)(I:bp 18 b)(n:Int):Wq (LA a b n) (bp 18):=by
 have:=nR;exact wB (iD A I) λ_ _=>bE (λ_=>wS A) λ_=>wS I
theorem arA{x:List lQ}{N:Nat}(Z:x.length<=N)(d:N<=1000000)(h:∀s∈x,Sp s){y z:DQ}(e:bp 18 y)(f:bp 18 z):Wq (Lz x y z) (bp (38*N+1)):=by
 have:=nR;have I:38000001<=mid:=by unfold mid;omega
 unfold Lz;refine wB (iE (by decide)) λv g=>wB (abX Z d h) λm ⟨w,j⟩=>?_
 refine cJ (λs=>0<=s.1.1/\s.1.1<=(m.length:Int)/\bp (38*s.1.1.toNat+1) s.2.1.1) (λs=>((m.length:Int)-s.1.1).toNat) ⟨cf _,by dsimp only;omega,g⟩ ?_
 rintro⟨⟨i,⟨⟩⟩,⟨s,⟨⟩⟩,⟨⟩⟩ ⟨l,B,A⟩;unfold afy;dsimp only at*;refine bE (λhi=>?_) λhi=>(dC _ _).2 (A.mono (by omega))
 have hi:=cZ.1 hi;refine gy l hi λq _ n=>?_
 obtain⟨o,p⟩:=j q n;refine wB (aag (k:=0) o e _) λa J=>wB (aag (k:=0) p f _) λb U=>wB (iD J U) λ_ _=>bE (λ_=>wB (UO U J) λc r=>wB (Ma A r) λt u=>?_) λ_=>?_
 .rw [bW,bV,au];exact⟨⟨by dsimp only;omega,by dsimp only;omega,u.mono (by dsimp only;omega)⟩,by dsimp only;omega⟩
 rw[bW,bV,au];exact⟨⟨by dsimp only;omega,by dsimp only;omega,A.mono (by dsimp only;omega)⟩,by dsimp only;omega⟩
theorem F0{α ρ:Type}{l:List α}{n:Nat}{f:α->Option ρ}{Q:ρ->Prop}(h:n< l.length)(g:∀x∈l,Wq (f x) Q):Wq (l[n]?.bind f) Q:=by
 grind
def Q5(l:List DQ):=∀q∈l,bp 5 q
theorem cm5{d:List DQ}(h:Q5 d):mz d:=λx A y I=>by
 have:=nR;exact cC (iD (h x A) (h y I)) λ_ _=>trivial
theorem akG{i n:Nat}{z:DQ}{l:List DQ}(h:i+n<=l.length:=by omega):(px (ab i) n z l).length=l.length:=by
 grind[px]
theorem akH{i n:Nat}{z:DQ}{l:List DQ}(h:i<=l.length:=by omega):(px (ab i) n z l).take i=l.take i:=by
 grind[px]
theorem akM{l:List DQ}(d:l.length<=4000000)(h:Q5 l):Wq (aA Qy ((1,()),(),l,())) (λr=>r.length<=l.length/\Q5 r):=by
 have:=nR;refine cJ (λs=>1<=s.1.1/\s.2.2.1=l) (λs=>((l.length:Int)-s.1.1).toNat) ⟨cf _,rfl⟩ ?_
 rintro⟨⟨i,⟨⟩⟩,⟨⟩,A,⟨⟩⟩ ⟨f,e⟩;unfold Qy;dsimp only at*;subst e;refine bE (λhi=>?_) λ_=>(dC _ _).2 ⟨aL _,h⟩
 have hi:=cZ.1 hi;rw[au (n:=i-1),au (n:=i+1)];refine dJ (by omega) hi λx _ mx=>dJ (by omega) (by omega) λy _ I=>wB (iD (h x mx) (h y I)) λ_ _=>bE (λ_=>j0 (by rw[ov,ix,ix];omega) ?_) λ_=>?_
 .refine cJ (λs=>i<=s.1.1/\s.1.1< i+s.1.2.1/\s.1.2.1<=A.length-i/\s.2.2.1.length=A.length/\Q5 s.2.2.1) (λs=>((A.length:Int)-s.1.2.1).toNat) ⟨cf _,by dsimp only;omega,by dsimp only;omega,rfl,h⟩ ?_
  rintro⟨⟨p,q,⟨⟩⟩,⟨⟩,U,⟨⟩⟩ ⟨p0,g,j,Z,h2⟩;unfold aaq;dsimp only at*;refine bE (λJ=>?_) λJ=>?_
  .have J:=cZ.1 J;rw[au (n:=q-1),au (n:=p+1),au (n:=q+1)];refine j0 (by rw[ov,ix,cZ];omega) (F0 (by omega) λx mx=>j0 (by rw[ov,ix,cZ];omega) (F0 (by omega) λy I=>wB (iD (h2 x mx) (h2 y I)) λ_ _=>bE (λ_=>j0 (by rw[ov,ix,cZ];omega) (F0 (by omega) λz a=>dJ (by omega) (by omega) λ_ _ _=>?_)) λ_=>?_))
   .rw [bW,bV];exact⟨⟨by dsimp only;omega,by dsimp only;omega,by dsimp only;omega,by simp_all,afH h2 (h2 z a)⟩,by dsimp only;omega⟩
   rw[bW,bV];exact⟨⟨p0,by dsimp only;omega,by dsimp only;omega,Z,h2⟩,by dsimp only;omega⟩
  refine wB (j0 (by rw[ov,ix,ix];omega) (j0 (by rw[cZ];omega) (j0 (by rw[ov,ix,ix,akG (i:=p.toNat) (n:=U.length-p.toNat) (z:=((af,[],()),(af,[],()),())) (l:=U)];omega) ((dC _ _).2 ?_)))) λr b=>(dC _ _).2 b
  rw[akH];exact⟨by rw[fI];omega,λx c=>h2 x (VD c)⟩
 rw[bW,bV];exact⟨⟨by dsimp only;omega,rfl⟩,by dsimp only;omega⟩
theorem SN{q hi:DQ}(A:bp 5 q)(I:bp 1 hi) c:Wq (aF (ak c 0) ((cV q hi).bind λy=>ab (ak y 0))) T:=by
 have:=nR;exact LY (wB (iD A I) λ_ _=>tS)
theorem alE{x:List (List aJ)}(h:jL x)(g:Vq 1560 x){a b:aJ}(K:br a=ag)(L:br b=ag):Wq (IX x a b) (λr=>r.length<=2500000/\Q5 r):=by
 have:=nR;have oa:=iA K;have ob:=iA L;have hx:=h.1;have J:=g.L4;unfold IX;refine wB (P:=T) (by rw[ES h];exact tS) λ_ _=>wB (n4 (wB (IM (by simp)) λ_ _=>tS)) λ_ _=>wB (n4 tS) λ_ _=>bE (λ_=>wS ⟨by simp,λr A=>by cases A⟩) λ_=>wB (iE) λlo c=>wB (iE) λhi d=>?_
 refine cJ (λs=>0<=s.1.1/\s.1.1<=(x.length:Int)/\s.2.1.1.length<=2+tt (x.take s.1.1.toNat)/\Q5 s.2.1.1) (λs=>((x.length:Int)-s.1.1).toNat) ⟨cf _,by dsimp only;omega,by simp,λq U=>?_⟩ ?_
 .rcases dy.1 U with rfl|U
  .exact c.mono (by omega)
  rw[gR.1 U];exact d.mono (by omega)
 rintro⟨⟨i,⟨⟩⟩,⟨out,⟨⟩⟩,⟨⟩⟩ ⟨M,i1,i2,l⟩;unfold aas;dsimp only at*;refine bE (λhi=>?_) λhi=>?_
 .have hi:=cZ.1 hi;refine gy M hi λr e z=>?_
  have N:=x6 e;have O:=sZ x (i.toNat+1);have A:=h.2 r z;refine cJ (λs=>0<=s.1.1/\s.1.1<=(r.length:Int)/\(s.2.1.1.length:Int)<=2+tt (x.take i.toNat)+s.1.1/\Q5 s.2.1.1) (λs=>((r.length:Int)-s.1.1).toNat) ⟨cf _,by dsimp only;omega,by dsimp only;omega,l⟩ ?_
  rintro⟨⟨j,⟨⟩⟩,⟨Q,⟨⟩⟩,⟨⟩⟩ ⟨B,R,S,h2⟩;unfold aam;dsimp only at*;refine bE (λI=>?_) λI=>?_
  .have I:=cZ.1 I;refine gy B I λp _ mp=>?_
   have op:=iA (g.ok r z p mp);refine wB (iE) λv g=>wB (iD c g) λ_ _=>wB (SN (g.mono (by omega)) d _) λ_ _=>bE (λ_=>j0 (nY) ?_) λ_=>?_
   .rw [bW,bV,au];exact⟨⟨by dsimp only;omega,by dsimp only;omega,by dsimp only;rw[po];omega,qu h2 (g.mono (by omega))⟩,by dsimp only;omega⟩
   rw[bW,bV,au];exact⟨⟨by dsimp only;omega,by dsimp only;omega,by dsimp only;omega,h2⟩,by dsimp only;omega⟩
  have I:=kK.1 I;rw[dC,lr,bV,au];refine⟨⟨by dsimp only;omega,by dsimp only;omega,?_,h2⟩,by dsimp only;omega⟩
  dsimp only;rw[show(i+1).toNat=i.toNat+1 by omega,N]
  omega
 have V:=sZ x i.toNat;refine wB (wB (agy h (by omega) J) λw C=>?_) λr A=>(dC _ _).2 A
 have W:=C.len;refine cJ (λs=>0<=s.1.1/\s.1.1<=(w.length:Int)/\s.2.1.2.1.length<=tt (w.take s.1.1.toNat)/\(∀e∈s.2.1.2.1,br e.1=ag/\br e.2.1=ag)/\s.2.1.1.length<=1562+1562*s.2.1.2.1.length/\Q5 s.2.1.1) (λs=>((w.length:Int)-s.1.1).toNat) ⟨cf _,by dsimp only;omega,bI _,λe he=>(by cases he),by dsimp only;omega,l⟩ ?_
 rintro⟨⟨k,⟨⟩⟩,⟨out,es,⟨⟩⟩,⟨⟩⟩ ⟨X,k1,k2,he,Y,l⟩;unfold aar;dsimp only at*;refine bE (λD=>?_) λD=>?_
 .have D:=cZ.1 D;refine gy X D λr e z=>?_
  have O:=C.ring e;have y:=C.ok r z;refine cJ (λs=>0<=s.1.1/\s.1.1<=(r.length:Int)/\(s.2.1.2.1.length:Int)<=tt (w.take k.toNat)+s.1.1/\(∀e∈s.2.1.2.1,br e.1=ag/\br e.2.1=ag)/\s.2.1.1.length<=1562+1562*s.2.1.2.1.length/\Q5 s.2.1.1) (λs=>((r.length:Int)-s.1.1).toNat) ⟨cf _,by dsimp only;omega,by dsimp only;omega,he,Y,l⟩ ?_
  rintro⟨⟨j,⟨⟩⟩,⟨Q,f,⟨⟩⟩,⟨⟩⟩ ⟨B,R,S,Z,H,h2⟩;unfold aap;dsimp only at*;refine bE (λI=>?_) λI=>?_
  .have I:=cZ.1 I;obtain⟨q0,G⟩:=ab4 B I;refine gy B I λp _ mp=>(Ml _ _ _).2 ⟨by omega,gy q0 G λq _ mq=>bE (λ_=>?_) λ_=>?_⟩
   .have hp:=y p mp;have U:=y q mq;refine cJ (λs=>0<=s.1.1/\s.1.1<=2/\(s.2.1.1.length:Int)<=1562+1562*f.length+s.1.1/\Q5 s.2.1.1) (λs=>(2-s.1.1).toNat) ⟨cf _,by dsimp only;omega,by dsimp only;omega,h2⟩ ?_
    rintro⟨⟨t,⟨⟩⟩,⟨o3,⟨⟩⟩,⟨⟩⟩ ⟨t0,t1,t2,E⟩;unfold aao;dsimp only at*;refine bE (λJ=>?_) λJ=>?_
    .have J:t< 2:=cZ.1 J;rw[au (n:=t+1)];refine dJ t0 J λv _ o=>?_
     have g:v.natAbs<=1048576:=by
      rcases dy.1 o with rfl|o
      .omega
      rw[gR.1 o];omega
     refine wB (ai6 hp U g) λu m=>bE (λ_=>wB (iD c m) λ_ _=>wB (SN m d _) λ_ _=>bE (λ_=>j0 (nY) ?_) λ_=>?_) λ_=>?_
     .rw [bW,bV];exact⟨⟨by dsimp only;omega,by dsimp only;omega,by dsimp only;rw[po];omega,qu E m⟩,by dsimp only;omega⟩
     .rw [bW,bV];exact⟨⟨by dsimp only;omega,by dsimp only;omega,by dsimp only;omega,E⟩,by dsimp only;omega⟩
     rw[bW,bV];exact⟨⟨by dsimp only;omega,by dsimp only;omega,by dsimp only;omega,E⟩,by dsimp only;omega⟩
    refine wB ?_ λr A=>(dC _ _).2 A
    refine cJ (λs=>0<=s.1.1/\s.1.1<=(f.length:Int)/\(s.2.1.1.length:Int)<=1564+1562*f.length+s.1.1/\Q5 s.2.1.1) (λs=>((f.length:Int)-s.1.1).toNat) ⟨cf _,by dsimp only;omega,by dsimp only;omega,E⟩ ?_
    rintro⟨⟨t,⟨⟩⟩,⟨o4,⟨⟩⟩,⟨⟩⟩ ⟨t0,t1,t2,F⟩;unfold aan;dsimp only at*;refine bE (λJ=>?_) λJ=>?_
    .have J:=cZ.1 J;rw[au (n:=t+1)];refine dJ t0 J λv _ o=>wB (ai0 (Z v o).1 (Z v o).2 hp U) λu m=>bE (λ_=>wB (iD c m) λ_ _=>wB (SN m d _) λ_ _=>bE (λ_=>j0 (nY) ?_) λ_=>?_) λ_=>?_
     .rw [bW,bV];exact⟨⟨by dsimp only;omega,by dsimp only;omega,by dsimp only;rw[po];omega,qu F m⟩,by dsimp only;omega⟩
     .rw [bW,bV];exact⟨⟨by dsimp only;omega,by dsimp only;omega,by dsimp only;omega,F⟩,by dsimp only;omega⟩
     rw[bW,bV];exact⟨⟨by dsimp only;omega,by dsimp only;omega,by dsimp only;omega,F⟩,by dsimp only;omega⟩
    rw[cX (nY),fG,bW,dC,lr,lr,bV,au];exact⟨⟨by dsimp only;omega,by dsimp only;omega,by dsimp only;rw[po];omega,qu Z ⟨hp,U⟩,by dsimp only;rw[po];omega,F⟩,by dsimp only;omega⟩
   rw[bW,bV,au];exact⟨⟨by dsimp only;omega,by dsimp only;omega,by dsimp only;omega,Z,H,h2⟩,by dsimp only;omega⟩
  have I:=kK.1 I;rw[dC,lr,bV,au];refine⟨⟨by dsimp only;omega,by dsimp only;omega,?_,Z,H,h2⟩,by dsimp only;omega⟩
  dsimp only;rw[show(k+1).toNat=k.toNat+1 by omega,x6 e]
  omega
 have hkl:=sZ w k.toNat;have hyt:=C.L4;refine wB (wB (atk (cm5 l)) λr A=>bE (λ_=>wS ⟨by rw[A.len];omega,λq U=>l q (A.mem q U)⟩) λ_=>cC (akM (by rw[A.len];omega) λq U=>l q (A.mem q U)) λq ⟨G,q2⟩=>⟨by rw[A.len]at G;omega,q2⟩) λr A=>(dC _ _).2 A
theorem aef:∀(n:Nat) (x:List (List aJ)),sH n x=ag->∀r∈x,∀p∈r,br p=ag
 |n,[],_,r,A=>by cases A
 |n,I::l,h,r,A=>by
  rw[SP]at h;cases h1:ak 4096 ((n)+I.length)with
  |true=>rw[h1]at h;cases h
  |false=>
   rw[h1,aw]at h;cases h2:I.all br with
   |false=>rw[h2]at h;cases h
   |true=>
    rw[h2,ao]at h;rcases dy.1 A with rfl|A
    .exact λp hp=>lL.1 h2 p hp
    exact aef _ l h r A
theorem aj1{x:List (List aJ)}(h:jL x)(f:tt x<=1560)(A:Int)(a b:aJ):Wq (G3 x A a b) (λr=>bp 148232500001 r.1):=by
 have hm:148232500001<=mid:=by unfold mid;omega
 unfold G3 NI;have hf:Wq ((sD x).bind λw=>bif !w then ab 12 else(aF (!aj A 1) (ab !aj A 2)).bind λz=>bif z then ab 2 else ab (0:Int)) (λv=>v=0->Vq 1560 x):=by
  rw[ES h,ah];exact bE (λ_=>wS λh=>(by cases h)) λhp=> wB (LY tS) λ_ _=>bE (λ_=>wS λh=>(by cases h)) λ_=>wS λ_=>⟨h.1,f,aef 0 x (xg.1 hp)⟩
 refine wB hf λv B=>bE (λ_=>wS pU) λU=>?_
 rw[qa,ah,qa,ah,cI,ah];refine bE (λ_=>wS pU) λI=>?_
 have I:br a=ag/\br b=ag:=by revert I;cases br a<;>cases br b<;>decide
 have L:=iA I.1;have M:=iA I.2;refine wB (iE (by decide)) λN g=>bE (λ_=>wS (g.mono (by omega))) λ_=>wB (iE) λfr Z=>wB (iE) λto c=>wB (alE h (B (wc.1 (xg.1 U))) I.1 I.2) λev ⟨O,j⟩=>?_
 refine cJ (λs=>0<=s.1.1/\s.1.1<=(ev.length:Int)/\∃t,s.2=((x,A,t,fr,to,()),())/\bp (59293*s.1.1.toNat+1) t) (λs=>((ev.length:Int)-s.1.1).toNat) ⟨cf _,by dsimp only;omega,_,rfl,g⟩ ?_
 rintro⟨⟨i,⟨⟩⟩,k⟩ ⟨C,P,t,rfl,J⟩;unfold Ws;dsimp only at*;rw[au (n:=i+1)];refine bE (λhi=>?_) λ_=>(dC _ _).2 (J.mono (by omega))
 have hi:=cZ.1 hi;refine gy C (by omega) λp _ mp=>gy (by omega) hi λq _ D=>?_
 have hp:=j p mp;have o:=j q D;refine wB (awB hp o) λy E=>wB (avN h (by omega) f E A) λsp ⟨F,k⟩=>wB (arA F (by omega) k (Z.mono (by omega)) (c.mono (by omega))) λl G=>wB (UO o hp) λd H=>wB (Mc G H) λm e=>wB (Ma J e) λu K=>?_
 rw[bW,bV];exact⟨⟨by dsimp only;omega,by dsimp only;omega,_,rfl,K.mono (by dsimp only;omega)⟩,by dsimp only;omega⟩
theorem att{q:DQ}(A:bp 148232500001 q)(e:Int):Wq (NJ q e) (λr=>bp 148232500002 r.1):=by
 have hm:148232500001<=mid:=by simp[mid]
 exact bE (λ_=>wS pU) λ_=>wB (iE (by decide)) λd I=>wB (awD A I) λr J=>wS J
theorem Yy(n:Int):CA n=ab (ak n (-4096)||ak 4096 n):=by
 simp[CA,cI]
theorem Ov(x y:Int):Wq (y9 x y) T:=by
 unfold y9;rw[Yy,Yy,ah];exact wB (n4 tS) λ_ _=>bE (λ_=>tS) λ_=>tS
theorem ai7{x:List (List aJ)}(h:jL x)(I:tt x<=1560)(A u v:Int):Wq (NH x A u v) (λr=>bp 148232500002 r.1):=by
 have key:∀a b,Wq (Wt x A a ((),(b,()),())) (λr=>bp 148232500002 r.1):=λa b=>by
  exact wB (aj1 h I _ _ _) λr J=>wB (att J _) λs U=>wS U
 refine wB (Ov _ _) λa _=>wB (Ov _ _) λb _=>?_
 rw[iF,qa];exact bE (λ_=>wB (Ov _ _) λc _=>(bW _ _).2 (key _ _)) λ_=>(bW _ _).2 (key _ _)
theorem floor_le(q:Rat):q.floor.natAbs<=q.num.natAbs:=by
 unfold Rat.floor;split;all_goals simp[aL,Int.natAbs_ediv_le_natAbs]
theorem u8_in(n:Int):0<=wr .u8 n/\wr .u8 n<=255:=by grind[UT]
theorem al7{q:DQ}(A:bp 148232500002 q):Wq (Ow q) (λv=>0<=v/\v<=255):=by
 have hm:148232500100<=mid:=by simp[mid]
 refine wB (agJ (by decide) (by decide)) λb h1=>wB (iE (by decide)) λz U=>wB (iD A U) λ_ _=>bE (λ_=>wS (by decide)) λ_=>wB (iE (by decide)) λo Z=>wB (iD A Z) λ_ _=>bE (λ_=>wS (by decide)) λ_=>wB (iE (by decide)) λf hf=>wB (Mc A hf) λm I=>wB (Ma I h1) λs J=>?_
 have a:148232500002+1+2+1<=aP:=by simp[aP]
 rw[aeh (J.mono (by omega)),ah,agR]
 .exact wS (u8_in _)
 exact(dD (Int.lt_of_le_of_lt (Int.ofNat_le.2 (floor_le (qv s))) (eJ J).1)).mono a
theorem W1{x:List (List aJ)}(h:jL x)(I:tt x<=1560)(A u v:Int):Wq (Ht x A u v) (λv=>0<=v/\v<=255):=by
 exact wB (ai7 h I _ _ _) λr J=>bE (λ_=>wS (by decide)) λ_=>wB (al7 J) λs U=>wS U
section
def mR(n:Int):Bool:=ai (-4096) n&&ai n 4096
def vR(r:bu):Bool:=mR r.1&&mR r.2.1&&mR r.2.2.1&&mR r.2.2.2.1
def eR(r:bu):Bool:=!vR r||ai r.2.2.1 r.1||ai r.2.2.2.1 r.2.1
def cR(r:bu):bu:=bif eR r then(0,0,0,0,())else r
def cq(r:bu):Nat:=((cR r).2.2.1-(cR r).1).toNat
def hR(r:bu):Nat:=((cR r).2.2.2.1-(cR r).2.1).toNat
theorem arQ(n:Int):xG n=ab (mR n):=by unfold xG;rw[cK];rfl
theorem auO(n:Int):xz n=ab (mR n):=by unfold xz;rw[cK];rfl
theorem L6(r:bu):xF r=ab (vR r):=by
 unfold xF;simp[arQ,ah,cK];rfl
theorem avf(r:bu):KY r=ab (vR r):=by
 unfold KY;simp[auO,ah,cK];rfl
theorem Yk(r:bu):Fv r=ab (eR r):=by
 unfold Fv;simp[L6,cI];rfl
theorem TE(r:bu):A0 r=ab (eR r):=by
 unfold A0;simp[avf,cI];rfl
theorem aU{α:Type}(c:Bool)(a b:α):(bif c then ab a else ab b)=ab (bif c then a else b):=by cases c<;>rfl
theorem zg(r:bu):pX r=ab (cR r):=by
 unfold pX;rw[Yk,ah,aU];rfl
theorem A7(r:bu):sK r=ab (cR r):=by
 unfold sK;rw[TE,ah,aU];rfl
theorem Yj{r:bu}(h:eR r=af): -4096<=r.1/\r.1< r.2.2.1/\r.2.2.1<=4096/\ -4096<=r.2.1/\r.2.1< r.2.2.2.1/\r.2.2.2.1<=4096:=by
 unfold eR vR mR at h;simp_all[ml,xg,aM,ix,Aa]
theorem N3(r:bu): -4096<=(cR r).1/\(cR r).1<=(cR r).2.2.1/\(cR r).2.2.1<=4096/\ -4096<=(cR r).2.1/\(cR r).2.1<=(cR r).2.2.2.1/\(cR r).2.2.2.1<=4096:=by
 unfold cR;cases h:eR r with
 |true=>simp
 |false=>
  have:=Yj h;grind
theorem Hh(r:bu):cR (cR r)=cR r:=by
 cases h:eR r with
 |true=>simp[cR,h,ao]
 |false=>
  have:cR r=r:=by simp[cR,h,aw]
  simp[this]
theorem Wu(r:bu):w (w ((cR r).2.2.1-(cR r).1)*w ((cR r).2.2.2.1-(cR r).2.1))=((cq r*hR r:Nat):Int):=by
 have:=N3 r;have A:(cR r).2.2.1-(cR r).1=(cq r):=by grind[cq]
 have I:(cR r).2.2.2.1-(cR r).2.1=(hR r):=by grind[hR]
 have J:cq r<=8192:=by omega
 have U:hR r<=8192:=by omega
 have Z:=Gt J U;rw[A,I,au (n:=(cq r)),au (n:=(hR r)),<-kW,au]
theorem Cp(r:bu):uS r=ab ((cq r*hR r:Nat):Int):=by
 simp[uS,zg,ah,Wu]
theorem aeW(r:bu):xy r=ab ((cq r*hR r:Nat):Int):=by
 simp[xy,A7,ah,Wu]
theorem UN(r:bu):cq (cR r)=cq r:=by simp[cq,Hh]
theorem Pw(r:bu):hR (cR r)=hR r:=by simp[hR,Hh]
def dh(r:bu)(u v:Int):Prop:=(cR r).1<=u/\u<(cR r).2.2.1/\(cR r).2.1<=v/\v<(cR r).2.2.2.1
def iR(r:bu)(u v:Int):Bool:=ai (cR r).1 u&&ak u (cR r).2.2.1&&ai (cR r).2.1 v&&ak v (cR r).2.2.2.1
theorem zR{r:bu}{u v:Int}:iR r u v=ag↔dh r u v:=by
 unfold iR dh;simp[ov,ix,cZ,and_assoc]
theorem akO(r:bu)(u v:Int):Lm r u v=ab (iR r u v):=by
 unfold Lm;rw[Yk];simp[cK];cases h:eR r with
 |true=>
  have A:cR r=(0,0,0,0,()):=by simp[cR,h]
  cases hi:iR r u v
  .simp
  have:=zR.1 hi;unfold dh at this;grind
 |false=>
  have A:cR r=r:=by simp[cR,h]
  simp[iR,A]
theorem aeX(r:bu)(u v:Int):E8 r u v=ab (iR r u v):=by
 unfold E8;rw[A7];simp[cK];rfl
theorem anv{r:bu}{u v:Int}(h:dh r u v):eR r=af:=by
 cases A:eR r
 .rfl
 unfold dh cR at h;grind
def iO(r:bu)(u v:Int):Nat:=(v-(cR r).2.1).toNat*cq r+(u-(cR r).1).toNat
theorem aaB{r:bu}{u v:Int}(h:dh r u v):w (w (w (w (v-r.2.1)*w (r.2.2.1-r.1))+u)-r.1)=(iO r u v:Int):=by
 have he:=anv h;have I:cR r=r:=by simp[cR,he,aw]
 have hi:=Yj he;unfold dh at h;rw[I]at h;unfold iO cq;rw[I];obtain⟨a,U⟩:=fW (a:=v-r.2.1) (by omega)
 obtain⟨b,Z⟩:=fW (a:=r.2.2.1-r.1) (by omega)
 obtain⟨c,d⟩:=fW (a:=u-r.1) (by omega)
 have A:a*b<=8192*8192:=Gt (by omega) (by omega)
 rw[U,Z,au (n:=(a)),au (n:=(b)),<-kW];simp only[cW];generalize a*b=J at A|-;rw[au (n:=(J)),au (n:=(J)+u),au];omega
theorem aaA(r:bu)(u v:Int):Fw r u v=ab (bif iR r u v then(iO r u v:Int)else -1):=by
 unfold Fw;rw[akO,ah];cases h:iR r u v<;>first|rw[b9,aw,ao,aaB (zR.1 h)]|rfl
theorem auN(r:bu)(u v:Int):KW r u v=ab (bif iR r u v then(iO r u v:Int)else -1):=by
 unfold KW;rw[aeX,ah];cases h:iR r u v<;>first|rw[b9,aw,ao,aaB (zR.1 h)]|rfl
theorem QN{r:bu}{u v:Int}(h:dh r u v):iO r u v< cq r*hR r:=by
 unfold dh at h;unfold iO hR;have h1:(u-(cR r).1).toNat< cq r:=by grind[cq]
 have h2:(v-(cR r).2.1).toNat+1<=((cR r).2.2.2.1-(cR r).2.1).toNat:=by omega
 have A:=ain (cq r) h2;grind
def dw(r:bu)(f:Int->Int->Int):List Int:=(vo (cq r*hR r)).map λk=>f ((cR r).1+(k%cq r:Nat)) ((cR r).2.1+(k/cq r:Nat))
theorem KE(r:bu)(f:Int->Int->Int):(dw r f).length=cq r*hR r:=by simp[dw,gf,List.length_range]
theorem I6{r:bu}{u v:Int}(h:dh r u v):(cR r).1+(iO r u v%cq r:Nat)=u/\(cR r).2.1+(iO r u v/cq r:Nat)=v:=by
 unfold dh at h;have h1:(u-(cR r).1).toNat< cq r:=by grind[cq]
 have A:iO r u v%cq r=(u-(cR r).1).toNat:=by
  simp[iO,lN,B0,rG,h1]
 have I:iO r u v/cq r=(v-(cR r).2.1).toNat:=by
  unfold iO;rw[lN,vq (by omega),tm h1,qj]
 omega
theorem SQ{r:bu}{f:Int->Int->Int}{u v:Int}(h:dh r u v):(dw r f)[iO r u v]? =ab (f u v):=by
 unfold dw;rw[List.getElem?_map,List.getElem?_range (QN h),Option.map_some,(I6 h).1,(I6 h).2]
theorem atS{r:bu}{f:Int->Int->Int}{L:List Int}(J:L.length=cq r*hR r)(h:∀u v,dh r u v->L[iO r u v]? =ab (f u v)):L=dw r f:=by
 apply List.ext_getElem?;intro k;by_cases I:k< cq r*hR r
 .have hw:0< cq r:=by
   grind
  have h1:k%cq r< cq r:=Nat.mod_lt _ hw;have h2:=Nat.div_lt_of_lt_mul I;have A:=Nat.div_add_mod k (cq r);obtain⟨hi,e⟩:dh r ((cR r).1+(k%cq r:Nat)) ((cR r).2.1+(k/cq r:Nat))/\iO r ((cR r).1+(k%cq r:Nat)) ((cR r).2.1+(k/cq r:Nat))=k:=by
   generalize k%cq r=p at h1 A|-;generalize k/cq r=q at h2 A|-;refine⟨?_,?_⟩
   .unfold dh;unfold cq at h1;unfold hR at h2;omega
   unfold iO;grind
  have:=h _ _ hi;rw[e]at this;rw[this,<-SQ (f:=f) hi,e]
 rw[jF (by omega),jF (by grind[KE])]
end
section
theorem aco{x n:Int}(h1:1<=n)(h2:n<=1000000:=by omega)(J:-(1048576*n)<=x:=by omega)(U:x<=1048576*n:=by omega):Wq (pF x n) (λv=> -1048576<=v/\v<=1048576):=by
 unfold pF;rw[au (n:=2*n),au (n:=2*x),au (n:=2*x+n),nJ,nJ];have A: -1048575<=(2*x+n).tdiv (2*n)/\(2*x+n).tdiv (2*n)<=1048576:=by
  rcases Int.lt_or_le (2*x+n) 0 with h|h
  .obtain ⟨t,I⟩:∃t,2*x+n= -t:=⟨-(2*x+n),by omega⟩
   rw[I,Int.neg_tdiv,og (by omega)]
   have:=BP (a:=t) (b:=1048576) (c:=2*n) (by omega) (by omega)
   have:=ve (a:=t) (b:=2*n) (by omega) (by omega)
   omega
  rw[og h];have:=BP (a:=2*x+n) (b:=1048577) (c:=2*n) (by omega) (by omega)
  have:=ve (a:=2*x+n) (b:=2*n) h (by omega)
  omega
 generalize(2*x+n).tdiv (2*n)=q at A|-;rw[au (n:=q),au (n:=q-1)];exact bE (λ_=>wS (by omega)) λ_=>wS (by omega)
theorem mulM{A a:Int}(hA:0<=A)(h1: -1048576<=a)(h2:a<=1048576): -(1048576*A)<=A*a/\A*a<=1048576*A:=by
 have I:=qg h1 hA;have J:=qg h2 hA;omega
theorem ajd{a b c:aJ}(h:([a,b,c]:List aJ).all br=ag):br a=ag/\br b=ag/\br c=ag:=by
 grind
theorem aje{a b c d:aJ}(h:([a,b,c,d]:List aJ).all br=ag):br a=ag/\br b=ag/\br c=ag/\br d=ag:=by
 grind
theorem adN{i n:Int}(h:uM i n=ag):0<=i/\i<=n:=by
 simp_all[uM,h,aM,l5,decide_eq_true_eq]
theorem acY{p:aJ}(h1: -1048576<=p.1/\p.1<=1048576)(h2: -1048576<=p.2.1/\p.2.1<=1048576):br p=ag:=by
 simp_all[br,aM,decide_eq_true_eq]
theorem Bj{a b:Int}(A:0<=a)(I:a<=64)(b0:0<=b)(J:b<=64:=by omega):0<=a*b/\a*b<=4096:=⟨oc A b0,by have:=qf I J b0 (by omega);omega⟩
theorem aep{k i a b c:Int}(I:0<=k)(J:0<=i)(f:1<=k+i)(g:k+i<=64)(U: -1048576<=a/\a<=1048576)(b0: -1048576<=b/\b<=1048576)(c0: -1048576<=c/\c<=1048576):
  Wq (pF (w (w (w (w (w k*w k)*a)+w (w (w (2*i)*w k)*b))+w (w (i*i)*c))) (w ((k+i)*(k+i)))) (λv=> -1048576<=v/\v<=1048576):=by
 have A:=Bj I (by omega) I
 have B:=Bj J (by omega) I
 have C:=Bj J (by omega) J
 have N:=FL f g;have e:k*k+2*i*k+i*i=(k+i)*(k+i):=by grind
 rw[au (n:=k),au (n:=2*i)];rw[jD 2 i k]at e|-;generalize k*k=p at A e|-;generalize i*k=q at B e|-;generalize i*i=r at C e|-;generalize(k+i)*(k+i)=n at N e|-;have ma:=mulM A.1 U.1 U.2;have mb:=mulM (A:=2*q) (by omega) b0.1 b0.2
 have h:=mulM C.1 c0.1 c0.2;rw[au (n:=p),au (n:=2*q),au (n:=r),au (n:=n)];generalize p*a=Z at ma|-;generalize 2*q*b=d at mb|-;generalize r*c=j at h|-;rw[au (n:=Z),au (n:=d),au (n:=j),au (n:=Z+d),au];exact aco N.1
theorem ame(x:aJ×aJ×aJ×Unit)(n i:Int):br (gQ x n i)=ag:=by
 have d:([x.1,x.2.1,x.2.2.1]:List aJ).length<=big:=by simp[big]
 have key:Wq (ub x i n) (λv=>br v=ag):=by
  unfold ub;rw[JJ d,ah];refine bE (λ_=>wS (by decide)) λh=>?_
  have h:=xg.1 h;rw[aM]at h;obtain⟨A,I,J⟩:=ajd h.1;obtain⟨U,Z⟩:=Kq h.2;obtain⟨c,l⟩:=adN h.2;have A:=iA A;have I:=iA I;have J:=iA J;obtain⟨k,rfl⟩:∃k,n=k+i:=⟨n-i,by omega⟩
  rw[ahz];exact wB (aep (by omega) c U Z ⟨A.1,A.2.1⟩ ⟨I.1,I.2.1⟩ ⟨J.1,J.2.1⟩) λa f=>wB (aep (by omega) c U Z A.2.2 I.2.2 J.2.2) λb g=>wS (acY f g)
 obtain⟨v,e,j⟩:=key;simp[gQ,e,j]
theorem LP{p b:Int}(p0:0<=p)(A:p<=4096)(b0:0<=b)(I:b<=64:=by omega):0<=p*b/\p*b<=262144:=⟨oc p0 b0,by have:=qf A I b0 (by omega);omega⟩
theorem Xz{k i a b c d:Int}(I:0<=k)(J:0<=i)(f:1<=k+i)(g:k+i<=64)(h: -1048576<=a/\a<=1048576)(b0: -1048576<=b/\b<=1048576)(c0: -1048576<=c/\c<=1048576)(d0: -1048576<=d/\d<=1048576):
  Wq (pF (w (w (w (w (w (w (w k*w k)*w k)*a)+w (w (w (w (3*i)*w k)*w k)*b))+w (w (w (w (3*i)*i)*w k)*c))+w (w (w (i*i)*i)*d))) (w (w ((k+i)*(k+i))*(k+i)))) (λv=> -1048576<=v/\v<=1048576):=by
 have A:=Bj I (by omega) I
 have B:=Bj J (by omega) I
 have C:=Bj J (by omega) J
 have N:=FL f g;have j:=Xy f g;have l:=LP A.1 A.2 I;have t:=LP B.1 B.2 I;have u:=LP C.1 C.2 I;have m:=LP C.1 C.2 J;have e:k*k*k+3*(i*k*k)+3*(i*i*k)+i*i*i=(k+i)*(k+i)*(k+i):=by grind
 rw[au (n:=k),au (n:=3*i),au (n:=k*k),jD 3 i k,au (n:=3*(i*k)),jD 3 i i,au (n:=3*(i*i)),au (n:=i*i),au (n:=(k+i)*(k+i)),jD 3 (i*k) k,jD 3 (i*i) k];generalize k*k*k=p at l e|-;generalize i*k*k=q at t e|-;generalize i*i*k=r at u e|-;generalize i*i*i=s at m e|-;generalize(k+i)*(k+i)*(k+i)=n at j e|-;have ma:=mulM l.1 h.1 h.2;have mb:=mulM (A:=3*q) (by omega) b0.1 b0.2
 have x:=mulM (A:=3*r) (by omega) c0.1 c0.2
 have y:=mulM m.1 d0.1 d0.2;rw[au (n:=p),au (n:=3*q),au (n:=3*r),au (n:=s),au (n:=n)];generalize p*a=U at ma|-;generalize 3*q*b=Z at mb|-;generalize 3*r*c=o at x|-;generalize s*d=z at y|-;rw[au (n:=U),au (n:=Z),au (n:=o),au (n:=z),au (n:=U+Z),au (n:=U+Z+o),au];exact aco j.1
theorem amc(x:aJ×aJ×aJ×aJ×Unit)(n i:Int):br (gC x n i)=ag:=by
 have f:([x.1,x.2.1,x.2.2.1,x.2.2.2.1]:List aJ).length<=big:=by simp[big]
 have key:Wq (ua x i n) (λv=>br v=ag):=by
  unfold ua;rw[JJ f,ah];refine bE (λ_=>wS (by decide)) λh=>?_
  have h:=xg.1 h;rw[aM]at h;obtain⟨A,I,J,U⟩:=aje h.1;obtain⟨Z,c⟩:=Kq h.2;obtain⟨d,m⟩:=adN h.2;have A:=iA A;have I:=iA I;have J:=iA J;have U:=iA U;obtain⟨k,rfl⟩:∃k,n=k+i:=⟨n-i,by omega⟩
  rw[ahz];exact wB (Xz (by omega) d Z c ⟨A.1,A.2.1⟩ ⟨I.1,I.2.1⟩ ⟨J.1,J.2.1⟩ ⟨U.1,U.2.1⟩) λa g=>wB (Xz (by omega) d Z c A.2.2 I.2.2 J.2.2 U.2.2) λb j=>wS (acY g j)
 obtain⟨v,e,l⟩:=key;simp[gC,e,l]
end
section
def AO(l:List aJ):Prop:=∀p∈l,br p=ag
theorem AO.app{a b:List aJ}(h:AO a)(g:AO b):AO (a++b):=λp hp=>(cE.1 hp).elim (h p) (g p)
theorem AO.one{x:aJ}(h:br x=ag):AO [x]:=λp hp=>by grind
theorem Pk{g:Int->aJ}(h:∀i,br (g i)=ag):∀(k:Nat) (i:Int),AO (qG g i k)
 |0,_=>λp hp=>by cases hp
 |k+1,i=>λp hp=>by
  rcases dy.1 hp with rfl|hp
  .exact h _
  exact Pk h k _ p hp
theorem avq{p:aJ}{s:cr}{t:Int}(h:br s.2.1=ag):AO (fL p s t).1:=by
 have n:AO []:=λp hp=>by cases hp
 unfold fL;cases aj s.1 3 with
 |true=>
  cases(!aj (qN (p,s.2.1,s.2.2.1,()) t).2.1 0)<;>first|exact Pk (λi=>ame _ _ _) _ _|exact n
 |false=>
  cases aj s.1 4 with
  |true=>
   cases(!aj (cN (p,s.2.1,s.2.2.1,s.2.2.2.1,()) t).2.1 0)<;>first|exact Pk (λi=>amc _ _ _) _ _|exact n
  |false=>exact AO.one h
theorem Ni:∀(m l:List aJ),AO l->AO m->AO (mG l m)
 |[],l,h,_=>h
 |x::m,l,h,g=>by
  have hm:AO m:=λp hp=>g p (ff _ hp)
  unfold mG;cases nK (e9 l) x<;>first|exact Ni m l h hm|exact Ni m _ (h.app (AO.one (g x (eA ..)))) hm
theorem awj{l:List aJ}(h:AO l):AO (o7 l):=by
 unfold o7;cases(ak 1 (l.length:Int)&&nK (e9 l) ((l[0]?).getD z2))<;>first|exact λp hp=>h p (VD hp)|exact h
def tq(q:List fj):Nat:=tt (q.map λp=>p.1)
theorem UC(a b:List fj):tq (a++b)=tq a+tq b:=by simp[tq,mu,Bs]
theorem UD(p:fj):tq [p]=p.1.length:=FX _
theorem H4{t:Int}:∀(l:List cr) (pre:List fj) (aW:List aJ) (cl:Bool) (q:List fj),(∀p∈pre,AO p.1)->AO aW->(∀s∈l,br s.2.1=ag)->lk t pre aW cl l=bb q->(∀p∈q,AO p.1)/\tq q<=tq pre+aW.length+64*l.length
 |[],pre,aW,cl,q,h1,h2,_,e=>by
  cases e;refine⟨λp hp=>?_,by rw[UC,UD];simp⟩
  rcases cE.1 hp with hp|hp
  .exact h1 p hp
  rw[gR.1 hp];exact h2
 |s::l,pre,aW,cl,q,h1,h2,Z,e=>by
  have I:=Z s (eA ..);have J:=λs I=>Z s (ff _ I)
  have e:(bif aj s.1 1 then lk t (pre++[(aW,cl,())]) [s.2.1] af l
   else bif !aj s.1 5 then(bif !aj (fL (e9 aW) s t).2.1 0 then cy (fL (e9 aW) s t).2.1 else lk t pre (mG aW (fL (e9 aW) s t).1) cl l)
   else lk t pre (o7 aW) ag l)=bb q:=e
  rw[fH];cases hm:aj s.1 1 with
  |true=>
   rw[hm,ao]at e;have:=H4 l _ _ _ q (λp hp=>by
    rcases cE.1 hp with hp|hp
    .exact h1 p hp
    rw[gR.1 hp];exact h2) (AO.one I) J e
   rw[UC,UD]at this;refine⟨this.1,bX this.2 ?_⟩;simp only[fH,List.length_nil];omega
  |false=>
   rw[hm,aw]at e;cases a:aj s.1 5 with
   |true=>
    rw[a,b9,aw]at e;have U:=UE aW;have:=H4 l _ _ _ q h1 (awj h2) J e;exact⟨this.1,by omega⟩
   |false=>
    rw[a,fN,ao]at e;cases A:aj (fL (e9 aW) s t).2.1 0<;>first|rw[A,b9,aw]at e;rw[fB,decide_eq_true_eq]at A;have n:=TZ A;have U:=Cq (fL (e9 aW) s t).1 aW;have:=H4 l _ _ _ q h1 (Ni _ _ h2 (avq I)) J e;exact⟨this.1,by omega⟩|rw[A]at e;cases e
theorem YN{s:cr}(h:qE s=ag):br s.2.1=ag:=by
 unfold qE at h;rw[aM]at h;have h:=h.1;unfold mL at h;cases A:ai (nm s.1) 0 with
 |true=>rw[A]at h;rw[anJ h];decide
 |false=>grind
theorem al1(x:List cr)(t:Int):(∀p∈(ky x t).1,AO p.1)/\tq (ky x t).1<=64*x.length:=by
 have n:(∀p∈([]:List fj),AO p.1)/\tq []<=64*x.length:=⟨λp h=>(by cases h),bI _⟩
 unfold ky;cases hp:pB x with
 |false=>exact n
 |true=>
  cases rk t with
  |false=>exact n
  |true=>
   have hf:=as5 hp;unfold AF;cases A:Ot t [] x with
   |inr e=>exact n
   |inl q=>
    dsimp only;cases ak 4096 (jZ q)with
    |true=>exact n
    |false=>
     cases x<;>first|rename_i s l;have:=H4 l [] [s.2.1] af q (λp h=>by cases h) (AO.one (YN (hf s (eA ..)).2)) (λs I=>YN (hf s (ff _ I)).2) A;refine⟨this.1,bX this.2 ?_⟩;show 0+1+64*l.length<=64*(l.length+1);omega|cases A;exact n
theorem YX:∀(l:List fj),(∀p∈l,AO p.1)->(∀r∈ja l,AO r)/\tt (ja l)<=tq l
 |[],_=>⟨λr h=>(by cases h),aL _⟩
 |p::l,h=>by
  have ih:=YX l λq I=>h q (ff _ I)
  have e:tq (p::l)=p.1.length+tq l:=(UC [p] l).trans (by rw[UD])
  show(∀r∈(bif ai 3 (p.1.length)then p.1::ja l else ja l),AO r)/\tt (bif ai 3 (p.1.length)then p.1::ja l else ja l)<=_;rw[e];cases ai 3 (p.1.length)with
  |true=>
   refine⟨λr A=>?_,?_⟩
   .rcases dy.1 A with rfl|A
    .exact h p (eA ..)
    exact ih.1 r A
   show tt ([p.1]++ja l)<=_;rw[Bs,FX];omega
  |false=>exact⟨ih.1,by rw[aw];omega⟩
theorem agu{T:Af}:∀{x:List cr} {q:List cr},sX T x=bb q->q.length=x.length
 |[],q,e=>by cases e;rfl
 |s::l,q,e=>by
  unfold sX at e;cases h1:Br T s with
  |inr v=>rw[h1]at e;cases e
  |inl v=>
   rw[h1]at e;cases h2:sX T l<;>first|rw[h2]at e;cases e;rw[fH,fH,agu h2]|rw[h2]at e;cases e
theorem awg(x:List cr)(T:Af):(iC x T).1.length<=x.length:=by
 unfold iC;cases pB x with
 |false=>simp
 |true=>
  unfold Sd;cases h:sX T x with
  |inr e=>simp
  |inl q=>exact Nat.le_of_eq (agu h)
theorem alQ(x:List cr)(T:Af)(t:Int):(∀r∈(pD x T t).1,AO r)/\tt (pD x T t).1<=64*x.length:=by
 have n:(∀r∈([]),AO r)/\tt ([]:List (List aJ))<=64*x.length:=⟨λp h=>(by cases h),bI _⟩
 unfold pD;cases aj (iC x T).2.1 0 with
 |false=>exact n
 |true=>
  cases aj (ky (iC x T).1 t).2.1 0
  .exact n
  obtain⟨k1,k2⟩:=al1 (iC x T).1 t;obtain⟨A,I⟩:=YX _ k1;have:=awg x T;grind
theorem aee:∀(n:Nat) (x:List (List aJ)),(∀r∈x,AO r)->n+tt x<=4096->sH n x=ag
 |n,[],_,_=>rfl
 |n,r::l,h,I=>by
  have e:tt (r::l)=r.length+tt l:=(Bs [r] l).trans (by rw[FX])
  rw[SP,bc,aw,lL.2 (h r (eA ..)),ao];exact aee _ l (λq A=>h q (ff _ A)) (by omega)
end
section
def B8(n:Int):Prop:=0<=n/\n<=255
def lA(a b:Int):Int:=(2*(a*b)+255)/510
theorem Nh{a b:Int}(A:B8 a)(I:B8 b):0<=a*b/\a*b<=255*a/\a*b<=255*b:=by
 have h1:=oc A.1 I.1;have h2:=qg I.2 A.1;have J:=Int.mul_le_mul_of_nonneg_right A.2 I.1;omega
theorem JM{a b:Int}(A:B8 a)(I:B8 b):B8 (lA a b)/\lA a b<=a/\lA a b<=b:=by
 have:=Nh A I;grind[lA,B8]
theorem auQ{a b:Int}(A:B8 a)(I:B8 b):KU a b=ab (lA a b):=by
 have h:=Nh A I;have J:=(JM A I).1;obtain⟨U,Z⟩:=A;obtain⟨b0,c⟩:=I;unfold KU;rw[au (n:=a),au (n:=b),au (n:=2*a),jD];unfold lA at J|-;generalize a*b=p at h J|-;rw[au (n:=2*p),au (n:=2*p+255),og (by omega),au,UT]
 congr 1;omega
theorem ar4{x:Int}(A:0<=x)(h1:x<=65025:=by omega):Hd x 1=ab (0,x,()):=by
 unfold Hd;rw[kx 1,Jw (t:=x) A,Jw (t:=1),show x%4294967296=x by omega]
 have z:wu 0=0:=bM;have I:wu (((word .u64 0).land 4294967295))=0:=(Jw (t:=0)).trans rfl;simp only[Int.mul_zero,lK,z,I,show(0:Int).fdiv 4294967296=0 from rfl,show(1:Int)/4294967296=0 from rfl,show(1:Int)%4294967296=1 from rfl,Int.mul_one,bM (n:=x) A (show x< 18446744073709551616 by omega),kx x,show x/4294967296=0 by omega]
theorem ak8{x:Int}(A:0<=x)(h1:x<=65025:=by omega):Hb 0 x 255=ab (x/255,x%255,()):=by
 unfold Hb WN WM;rw[nJ (by decide),iw,di (x:=255) (y:=0) (by decide),aw,iw,cM rfl,ao,nJ (by decide),nJ (by decide),og A,Gj A,bM]
theorem atw{a b:Int}(A:B8 a)(I:B8 b):I2 a b=ab (lA a b):=by
 have h:=Nh A I;have J:=(JM A I).1;obtain⟨d,e⟩:=A;obtain⟨b0,f⟩:=I;unfold I2 QE QF;rw[au (n:=a),au (n:=b)];unfold lA at J|-;unfold B8 at J;generalize a*b=p at h J|-;have sz:∀n:Int,0<=n->n<=65025->zY n=ab n:=λn Z g=>by
  unfold zY;rw[bc Z,aw,bM]
 rw[au (n:=p),bQ (x:=255) (y:=0) (by decide),aw,sz p h.1 (by omega),ah,sz 1 (by decide) (by decide),ah,ar4 h.1,ah,sz 255 (by decide) (by decide),ah]
 have key:I3 (0,p,255,())=ab ((2*p+255)/510,ag,()):=by
  unfold I3;dsimp only;rw[di (x:=255) (y:=0) (by decide),aw,ak8 h.1,ah]
  dsimp only;rw[bM (n:=255-p%255)];by_cases c:255-p%255<=p%255
  .rw [bS c,ao,bM,bQ,fN,show p/255+1=(2*p+255)/510 by omega]
  rw[di,aw,show p/255=(2*p+255)/510 by omega]
 rw[key,ah];dsimp only;rw[bc (x:=9223372036854775808),b9,iU,ah,iU,bQ (y:=9223372036854775808),rU,ah,ah,aw,bc (x:=p) h.1,bc (x:=1) (y:=0) (by decide),bc (x:=255) (y:=0) (by decide)]
 show(aiA (aiA (bt (aB ((),(),())) (QG ((2*p+255)/510,ag,()))) λU=>ab U.1) λU=>ab (wr .u8 U))=_
 rw[iw];unfold QG;rw[ah,ah];dsimp only;rw[au,UT];congr 1;omega
end
section
abbrev SM:=(Int×Unit)×(lP×Unit)×Unit
structure Rc(r:bu):Prop where
 c:cR r=r
 a:cq r*hR r<=65536
theorem Rc.zS{r:bu}(h:Rc r): -4096<=r.1/\r.1<=r.2.2.1/\r.2.2.1<=4096/\ -4096<=r.2.1/\r.2.1<=r.2.2.2.1/\r.2.2.2.1<=4096:=by
 have:=N3 r;simp_all[h.c]
theorem Rc.w{r:bu}(h:Rc r):(cq r)=r.2.2.1-r.1:=by
 have:=h.zS;grind[cq,h.c]
theorem Rc.h{r:bu}(h:Rc r):(hR r)=r.2.2.2.1-r.2.1:=by
 have:=h.zS;grind[hR,h.c]
theorem Rc.i{r:bu}(h:Rc r){u v:Int}:dh r u v↔r.1<=u/\u< r.2.2.1/\r.2.1<=v/\v< r.2.2.2.1:=by
 simp[dh,h.c]
def qU r(f:Int->Int->Int) n:=(vo n).map λk=>f (r.1+(k%cq r:Nat)) (r.2.1+(k/cq r:Nat))
theorem atO{r:bu}(h:Rc r) f:qU r f (cq r*hR r)=dw r f:=by
 simp[qU,dw,h.c]
theorem atP r f n:(qU r f n).length=n:=by simp[qU,gf]
theorem atQ{r:bu}{f:Int->Int->Int}{i j:Nat}(hi:i< cq r:=by omega):qU r f (j*cq r+i)++[f (r.1+(i)) (r.2.1+(j))]=qU r f (j*cq r+(i+1)):=by
 unfold qU;rw[<-Nat.add_assoc,List.range_succ,mu,List.map_singleton];have A:(j*cq r+i)%cq r=i:=by rw[lN,B0,rG hi]
 have I:(j*cq r+i)/cq r=j:=by rw[lN,vq (by omega),tm hi,qj]
 rw[A,I]
theorem au0{r:bu}{i j:Nat}(hi:i<=cq r)(A:j< hR r:=by omega):j*cq r+i<=cq r*hR r:=by
 have I:=ain (cq r) (show j+1<=hR r from A);grind
theorem abJ{ρ:Type}{FN:SM->SM->Option (SM⊕SM⊕ρ)}{A:SM->Option (SM⊕ρ)}{r:bu}(h:Rc r){f:Int->Int->Int}{fin:bu->List Int->ρ}
  (c:∀s,A s=bif ak s.1.1 s.2.1.1.1.2.2.2.1 then aA (FN s) ((s.2.1.1.1.1,()),((s.2.1.1.1,s.2.1.1.2.1,()),()),())else ay (fin s.2.1.1.1 s.2.1.1.2.1))
  (hI:∀I u L,dh r u I.1.1->L.length< 65536->FN I ((u,()),((r,L,()),()),())=ab (.inl ((u+1,()),((r,L++[f u I.1.1],()),()),())))
  (d:∀I u L,r.2.2.1<=u->FN I ((u,()),((r,L,()),()),())=ab (.inr (.inl ((w (I.1.1+1),()),((r,L,()),()),())))):
  aA A ((r.2.1,()),((r,[],()),()),())=ab (fin r (dw r f)):=by
 have hi:=h.zS;have hw:=h.w;have m:=h.h;have key:Wq (aA A ((r.2.1,()),((r,[],()),()),())) (λv=>v=fin r (dw r f)):=by
  refine cJ (λs=>∃j:Nat,j<=hR r/\s=((r.2.1+(j),()),((r,qU r f (j*cq r),()),()),())) (λs=>(r.2.2.2.1-s.1.1).toNat) ⟨0,bI _,by simp[qU]⟩ ?_
  rintro _ ⟨j,n,rfl⟩;rw[c];dsimp only;refine bE (λJ=>?_) λU=>(dC _ _).2 ?_
  .have J:=cZ.1 J;refine cJ (λs=>∃i:Nat,i<=cq r/\s=((r.1+(i),()),((r,qU r f (j*cq r+i),()),()),())) (λs=>(r.2.2.1-s.1.1).toNat) ⟨0,bI _,by simp⟩ ?_
   rintro _ ⟨i,g,rfl⟩;by_cases o:r.1+(i)< r.2.2.1
   .have k:=au0 (r:=r) (i:=i+1) (by omega) (j:=j)
    have p:=h.a;rw[hI _ _ _ (h.i.2 (by dsimp only;omega)) (by grind[atP]),jj,bV]
    dsimp only;rw[atQ];exact⟨⟨i+1,by omega,by grind⟩,by omega⟩
   rw[d _ _ _ (by omega),jj,lr,bV]
   have Z:i=cq r:=by omega
   subst Z;dsimp only;refine⟨⟨j+1,by omega,?_⟩,by rw[au];omega⟩
   rw[au,Nat.add_mul,Nat.one_mul,Int.natCast_add,<-Int.add_assoc];rfl
  have U:=kK.1 U;have b:j=hR r:=by omega
  rw[b,lN,atO h,lr]
 obtain⟨v,e,l⟩:=key;rw[e,l]
theorem xE{z:bu}(h:cq z*hR z<=65536):Rc (cR z):=⟨Hh z,by simp[UN,Pw,h]⟩
theorem xp z f:dw (cR z) f=dw z f:=by simp[dw,UN,Pw,Hh]
def rE(z:bu):Int:=bif !vR z then 6 else bif ak 65536 (cq z*hR z:Nat)then 5 else 0
theorem A6{z:bu}(h:rE z=0):vR z=ag/\cq z*hR z<=65536:=by
 unfold rE at h;cases I:vR z with
 |false=>grind
 |true=>
  cases A:ak 65536 ((cq z*hR z))<;>first|exact⟨rfl,by have:=kK.1 A;omega⟩|grind
theorem aws{z:bu}(I:rE z=0) v:Aj z v=ab ((cR z,dw z λ_ _=>v,()),0,()):=by
 obtain⟨h1,h2⟩:=A6 I;unfold Aj;rw[L6,ah,h1,Cp,ah,bc,zg,<-xp];refine abJ (xE h2) (FN:=JG v) (fin:=λr L=>((r,L,()),0,())) (λs=>rfl) (λJ u L A U=>?_) λJ u L A=>?_
 .have A:=(xE h2).i.1 A;have:=(xE h2).zS;unfold JG;dsimp only;rw[bg A.2.1,cX (nY),au];rfl
 unfold JG;rw[bc A];rfl
theorem abI{r:bu}{f:Int->Int->Int}{u v:Int}(h:dh r u v):Eb (r,dw r f,()) u v=ab (f u v):=by
 unfold Eb aQ;rw[aaA,ah,zR.2 h,ao,cW,SQ h];rfl
abbrev Uv:=Ty.st 4 ((Ty.int .i64).cn ((Ty.int .i64).cn ((Ty.int .i64).cn ((Ty.int .i64).cn Ty.nl))))
theorem Db{a b:bu}:cu Uv a b=ag↔a=b:=by
 obtain⟨A,I,J,U,⟨⟩⟩:=a;obtain⟨Z,c,d,e,⟨⟩⟩:=b;show(aj A Z&&(aj I c&&(aj J d&&(aj U e&&ag))))=ag↔_;simp[Bool.and_true,aM,wc]
theorem arR{r:bu}(h:Rc r) f:JH (r,dw r f,())=ab ag:=by
 have A:=h.a;unfold JH;dsimp only;rw[Cp,ah,zg,ah,h.c,show cu _ r r=ag from Db.2 rfl,ow,ah,bS,ow,ah,KE,cM rfl]
theorem auP{r:bu}(h:Rc r) f:K4 (r,dw r f,())=ab ag:=by
 have A:=h.a;unfold K4;dsimp only;rw[A7,ah,h.c,show cu _ r r=ag from Db.2 rfl,ow,aeW,ah,ah,ah,bS,ow,ah,KE,cM rfl]
theorem Fs{r:bu}(h:Rc r) f{u v:Int}(hi:dh r u v):pW (r,dw r f,()) u v=ab (f u v):=by
 unfold pW aQ;rw[auP h,ah,b9,iU,aeX,ah,ah,auN,ah,zR.2 hi,ao,cW,SQ hi];rfl
theorem anG{r:bu}(h:Rc r):Ln r r=ab r:=by
 unfold Ln;simp[zg,ah,congrArg,ab,h.c]
def ee(r:bu)(fs:List (Int->Int->Int)):List lP:=fs.map λf=>(r,dw r f,())
def uO(f0:Int->Int->Int)(fs:List (Int->Int->Int))(u v:Int):=fs.foldl (λa f=>lA a (f u v)) (f0 u v)
theorem RH{r:bu}{fs:List (Int->Int->Int)}{i:Nat}{m:lP}(h:(ee r fs)[i]? =ab m):∃f,fs[i]? =ab f/\m=(r,dw r f,()):=by
 unfold ee at h;grind
theorem qM r fs:(ee r fs).length=fs.length:=gf ..
theorem ajf{r:bu}(h:Rc r) fs(U:fs.length<=1000):JI (ee r fs)=ab ag:=by
 have A:=qM r fs;have key:Wq (JI (ee r fs)) λb=>b=ag:=by
  refine cJ (λs=>0<=s.1.1) (λs=>((fs.length:Int)-s.1.1).toNat) (cf _) ?_
  rintro⟨⟨i,⟨⟩⟩,⟨⟩,⟨⟩⟩ I;unfold abN RA;refine bE (λhi=>gy I (cZ.1 hi) λm e _=>?_) λ_=>(dC _ _).2 rfl
  have hi:=cZ.1 hi;obtain⟨f,_,rfl⟩:=RH e;rw[arR h,ah,ah,b9,aw,bW,bV,au];grind
 obtain⟨b,e,J⟩:=key;rw[e,J]
theorem SD{f0:Int->Int->Int}{u v:Int}:∀(fs:List (Int->Int->Int)) a,B8 a->(∀f∈fs,B8 (f u v))->B8 (fs.foldl (λa f=>lA a (f u v)) a)
 |[],a,h,_=>h
 |f::fs,a,h,hf=>SD (f0:=f0) fs _ (JM h (hf f eA ..)).1 λg A=>hf g (ff _ A)
theorem ar7{r:bu}(h:Rc r) f0 fs(q:fs.length<=100)(U:∀f∈f0::fs,∀u v,B8 (f u v)):JE (ee r (f0::fs))=ab ((r,dw r (uO f0 fs),()),0,()):=by
 have Z:(ee r (f0::fs)).length=fs.length+1:=qM r _;have k:=h.zS;have g:(ee r (f0::fs))[0]? =ab (r,dw r f0,()):=rfl;unfold JE;rw[ajf h _ (by simp;omega),ah,b9,aw,Z,bQ,aw,g,ah]
 have I:aA (abM (ee r (f0::fs))) ((r.2.1,()),((r,[],()),()),())=ab ((r,dw r (uO f0 fs),()),0,()):=by
  refine abJ h (FN:=JF (ee r (f0::fs))) (fin:=λr L=>((r,L,()),0,())) (λs=>rfl) (λA u L J t=>?_) (λA u L J=>?_)
  .have b:=h.i.1 J;unfold JF;rw[bg b.2.1,ao,g,ah,abI J,ah,cX (bS)];have l:List.take ((ee r (f0::fs)).length-1) (List.drop 1 (ee r (f0::fs)))=ee r fs:=by
    exact rF (by simp[qM])
   have key:Wq (aA (Ry (ee r (f0::fs)) A ((u,()),((r,L,()),()),())) ((f0 u A.1.1,0,()),(),())) (λv=>v=.inl ((u+1,()),((r,L++[uO f0 fs u A.1.1],()),()),())):=by
    refine cJ (λs=>∃i:Nat,i<=fs.length/\s=(((fs.take i).foldl (λa f=>lA a (f u A.1.1)) (f0 u A.1.1),(i:Int),()),(),())) (λs=>((fs.length:Int)-s.1.2.1).toNat) ⟨0,bI _,rfl⟩ ?_
    rintro _ ⟨i,n,rfl⟩;have o:B8 ((fs.take i).foldl (λa f=>lA a (f u A.1.1)) (f0 u A.1.1)):=SD (f0:=f0) _ _ (U f0 (eA ..) _ _) λf hf=>U f (ff _ (VD hf)) _ _
    unfold Ry;dsimp only;rw[l,qM];refine bE (λhi=>gy (by omega) (by simp_all[qM,cZ,hi]) λm e _=>?_) λhi=>?_
    .have hi:=cZ.1 hi;rw[cW]at e;obtain⟨f,j,rfl⟩:=RH e;rw[abI J,ah,atw o (U f (ff _ (List.mem_of_getElem? j)) _ _),ah,bW,bV,au];refine⟨⟨i+1,by omega,?_⟩,by dsimp only;omega⟩
     simp[yA,j]
    have hi:=kK.1 hi;rw[cX (nY),fG,bW,dC,au,rF (by omega)]
    rfl
   obtain⟨v,e,d⟩:=key;rw[e,d]
  unfold JF;rw[bc J];rfl
 have key:Wq (aA (Rz (ee r (f0::fs))) ((0,()),(r,()),())) (λv=>v=((r,dw r (uO f0 fs),()),0,())):=by
  refine cJ (λs=>0<=s.1.1/\s.2.1.1=r) (λs=>((fs.length:Int)+1-s.1.1).toNat) ⟨cf _,rfl⟩ ?_
  rintro⟨⟨i,⟨⟩⟩,⟨w,⟨⟩⟩,⟨⟩⟩ ⟨p,e⟩;unfold Rz;dsimp only at*;subst e;refine bE (λhi=>gy p (cZ.1 hi) λm e _=>?_) λ_=>?_
  .have hi:=cZ.1 hi;obtain⟨f,_,rfl⟩:=RH e;rw[anG h,ah,bW,bV,au];grind
  rw[zg,ah,h.c,I,ah,dC,lr]
 obtain⟨v,e,d⟩:=key;rw[e,d]
end
section
theorem auR{a b n:Nat}(h:a+b<=4000000:=by omega)(A:n<=1000:=by omega):bZ (a+b) n=ag:=by
 have:=Gt h A;exact jX
theorem akY{α:Type}(a b:List α):(cH a b).length=a.length+b.length:=by rw[mI,dF]
theorem akP{x:List (List aJ)}(h:jL x)(p:tt x<=1560):Wq (T5 x) (λl=>l.length<=10000):=by
 have q:=h.1;refine cJ (λs=>0<=s.1.2.1/\s.1.2.1<=(x.length:Int)/\0<=s.1.1/\s.1.1<=((tt (x.take s.1.2.1.toNat)):Int)) (λs=>((x.length:Int)-s.1.2.1).toNat) ⟨cf _,by simp,cf _,by simp⟩ ?_
 rintro⟨⟨n,i,⟨⟩⟩,⟨⟩,⟨⟩⟩ ⟨d,t,f,u⟩;have g:=sZ x i.toNat;dsimp only at*;refine bE (λhi=>?_) λhi=>?_
 .refine gy d (cZ.1 hi) λr e U=>?_
  have k:=x6 e;have Z:=h.2 r U;rw[au (n:=n+r.length),au (n:=i+1)];refine bE (λA=>?_) λ_=>?_
  .have A:=cZ.1 A;omega
  rw[bW,bV];grind
 refine wB (P:=λl=>l.length<=10000) ?_ λr Z=>(dC _ _).2 Z
 rw[bc f,aw];have lp:∀st,(∀a j,st ((a,j,()),(),())=bif ak j (x.length)then aQ x j λy=>aT (bZ (a.length+y.length) 16) (aB ((cH a y,w (j+1),()),(),()))else ay a)->Wq (aA st (([],0,()),(),())) (λl=>l.length<=10000):=λst J=>by
  refine cJ (λs=>0<=s.1.2.1/\s.1.2.1<=(x.length:Int)/\s.1.1.length<=tt (x.take s.1.2.1.toNat)) (λs=>((x.length:Int)-s.1.2.1).toNat) ⟨cf _,by simp,bI _⟩ ?_
  rintro⟨⟨a,j,⟨⟩⟩,⟨⟩,⟨⟩⟩ ⟨m,v,z⟩;have o:=sZ x j.toNat;rw[J];dsimp only at*;refine bE (λI=>?_) λI=>(dC _ _).2 (show a.length<=10000 by omega)
  have I:=cZ.1 I;refine gy m I λr e U=>?_
  have k:=x6 e;have c:=sZ x (j.toNat+1);refine j0 (auR (a:=a.length) (b:=r.length)) ?_;rw[bW,bV,au];dsimp only;rw[akY,show(j+1).toNat=j.toNat+1 by omega]
  omega
 unfold afP;rw[Int.sub_zero,au (n:=n)];refine bE (λA=>?_) λ_=>lp _ λa j=>rfl
 have A:=cZ.1 A;exact j0 (by rw[ov,cZ,TL];omega) (j0 (by grind) (lp _ λa j=>rfl))
theorem ajZ{x:List (List aJ)}(h:jL x)(I:tt x<=1560):Wq (SA x) T:=by
 refine wB (akP h I) λl d=>?_
 have A:Wq (aV (aj l.length 0) ((sD x).bind λJ=>ab !J)) λc=>c=af->l.length≠0:=by
  simp_all[F3,zB,ES,h,wS]
 refine wB A λc U=>bE (λ_=>tS) λh=>?_
 have:=U h;refine F0 (by omega) λp _=>F0 (by omega) λq _=>?_
 refine cJ (λs=>0<=s.1.1) (λs=>((l.length:Int)-s.1.1).toNat) (cf _) ?_
 rintro⟨⟨i,⟨⟩⟩,⟨a,b,⟨⟩⟩,⟨⟩⟩ Z;refine bE (λhi=>gy Z (cZ.1 hi) λ_ _ _=>?_) λ_=>(dC _ _).2 trivial
 have hi:=cZ.1 hi;rw[bW,bV,au];grind
theorem ats{x:List (List aJ)}(h:jL x)(A:tt x<=1560):Wq (EO x) T:=by
 unfold EO Kx;refine wB (ajZ h A) λb _=>bE (λ_=>tS) λ_=>?_
 rw[ah,ah];exact wB (n4 tS) λ_ _=>bE (λ_=>tS) λ_=>tS
def N2(x:List (List aJ)):bu:=(EO x).getD (0,0,0,0,())
def tT(b:bu)(u v:Int):=ai b.1 u&&ak u b.2.2.1&&ai b.2.1 v&&ak v b.2.2.2.1
def kP(x:List (List aJ))(A u v:Int):=bif tT (N2 x) u v then(Ht x A u v).getD 0 else 0
theorem atM{x:List (List aJ)}(h:jL x)(I:tt x<=1560) A u v:B8 (kP x A u v):=by
 unfold kP;cases tT _ u v<;>first|obtain⟨n,e,J⟩:=W1 h I _ u v;rw[e];exact J|rw[aw];exact⟨by decide,by decide⟩
theorem anL{r:bu}{u v A I:Int}(h:dh r u v)(h':dh r A I)(e:iO r u v=iO r A I):u=A/\v=I:=by
 have a:=I6 h;have b:=I6 h';grind
def B7(r:bu)(F:Int->Int->Int)(y u:Int)(L:List Int):=L.length=cq r*hR r/\∀a b,dh r a b->L[iO r a b]? =ab (bif ak b y||aj b y&&ak a u then F a b else 0)
theorem akT{x:List (List aJ)}(h:jL x)(F:tt x<=1560)(B:sH 0 x=ag){A:Int}(H:A=1∨A=2){z:bu}(G:rE z=0):zm x A z=ab ((cR z,dw z (kP x A),()),0,()):=by
 obtain⟨h1,h2⟩:=A6 G;have d:=xE h2;have K:=d.zS;have f:(aF (!aj A 1) (ab !aj A 2))=ab af:=by
  rcases H with rfl|rfl
  .rw [cM rfl];rfl
  rw[cM (x:=2) (y:=2) rfl,cK,b9,ye]
 unfold zm;rw[ES h,ah,B,b9,aw,f,ah,aw,L6,ah,h1,b9,aw,Cp,ah,bc,aw,iw]
 unfold Xw;have k:=d.a;rw[zg,ah,Cp,ah,cX (by rw[ov,ix,ov,ix,ix];omega),<-xp]
 obtain⟨I,l,_⟩:=ats h F;have m:N2 x=I:=by simp[N2,l]
 rw[l,ah,cW];generalize M:cR z=r at*;have P:=kP x A;have out:∀a b,tT I a b=af->kP x A a b=0:=λa b Z=>by simp[kP,m,Z]
 have key:Wq (aA (Ox x A r I) ((r.2.1,()),(),List.replicate (cq r*hR r) (0:Int),())) (λv=>v=((r,dw r (kP x A),()),0,())):=by
  refine cJ (λs=>r.2.1<=s.1.1/\s.1.1<=r.2.2.2.1/\B7 r (kP x A) s.1.1 r.1 s.2.2.1) (λs=>(r.2.2.2.1-s.1.1).toNat) ⟨cf _,by dsimp only;omega,by simp,λa b hi=>?_⟩ ?_
  .have J:=d.i.1 hi;dsimp only;rw[List.getElem?_replicate,aK (QN hi),bc,BF,bc,ye,aw]
  rintro⟨⟨y,⟨⟩⟩,⟨⟩,⟨L,⟨⟩⟩⟩ ⟨Q,R,o⟩;unfold Ox;dsimp only at*;refine bE (λp=>?_) λp=>?_
  .have p:=cZ.1 p;rw[au (n:=y+1),cI,ah]
   have done:∀(u:Int) (C:List Int),B7 r (kP x A) y u C->(∀a,r.1<=a->a< r.2.2.1->u<=a->kP x A a y=0)->B7 r (kP x A) (y+1) r.1 C:=λu C q G=>⟨q.1,λa b hi=>by
    have J:=d.i.1 hi;rw[q.2 a b hi];by_cases Z:b< y
    .rw [bg Z,bg (x:=b) (y:=y+1),vb,vb]
    by_cases U:b=y
    .subst U;rw[bc (cf b),cM rfl,BF,kV,bg (x:=b) (y:=b+1),vb,ao]
     by_cases k:a< u
     .rw [bg k,ao]
     grind
    rw[bc (x:=b) (y:=y),bQ U,bc (x:=b) (y:=y+1),bc J.1,ye,n8]⟩
   refine bE (λc=>?_) λc=>?_
   .rw [bW,bV];refine⟨⟨by dsimp only;omega,by dsimp only;omega,done _ _ o λa _ _ _=>out a y ?_⟩,by dsimp only;omega⟩
    unfold tT;rw[Bool.or_eq_true,cZ,ix]at c;rcases c with c|c
    .rw [di (x:=I.2.1) c,ye,n8]
    rw[bc (y:=I.2.2.2.1) c,ye]
   rw[ml,kK,Aa]at c;have D:(bif ai r.1 I.1 then I.1 else r.1)=max r.1 I.1:=by
    by_cases g:r.1<=I.1
    .rw [bS g,ao];omega
    rw[di,aw];omega
   have E:(bif ai r.2.2.1 I.2.2.1 then r.2.2.1 else I.2.2.1)=min r.2.2.1 I.2.2.1:=by
    by_cases g:r.2.2.1<=I.2.2.1
    .rw [bS g,ao];omega
    rw[di,aw];omega
   rw[D];have b0:∀a,tT I a y=af∨(I.1<=a/\a< I.2.2.1):=λa=>by
    unfold tT;by_cases S:I.1<=a
    .by_cases T:a< I.2.2.1<;>try grind
     rw[bc (x:=a),ye,n8];simp
    rw[di (x:=I.1),n8,n8];simp
   have start:B7 r (kP x A) y (max r.1 I.1) L:=⟨o.1,λa b hi=>by
    have J:=d.i.1 hi;rw[o.2 a b hi,bc (x:=a) (y:=r.1) J.1,ye,BG];by_cases Z:b< y<;>try(rw[bg Z,vb];done)
    rw[bc (x:=b) (y:=y),BF,aw]
    by_cases U:b=y
    .subst U;rw[cM rfl,kV];by_cases k:a< max r.1 I.1
     .grind
     rw[bc (x:=a),aw]
    rw[bQ U,n8,aw]⟩
   refine cJ (λs=>max r.1 I.1<=s.1.1/\B7 r (kP x A) y s.1.1 s.2.2.1) (λs=>(r.2.2.1-s.1.1).toNat) ⟨cf _,start⟩ ?_
   rintro⟨⟨u,⟨⟩⟩,⟨⟩,⟨V,⟨⟩⟩⟩ ⟨W,j⟩;unfold Xv;dsimp only at*;rw[E];refine bE (λt=>?_) λt=>?_
   .have t:=cZ.1 t;have hi:dh r u y:=d.i.2 (by omega)
    have N:=QN hi;obtain⟨n,e,X⟩:=W1 h F A u y;rw[aaA,ah,zR.2 hi,ao,e,ah];refine dJ (by omega) (by rw[j.1];omega) λ_ _ _=>?_
    rw[bW,bV,au,cW]
    have hF:kP x A u y=n:=by
     unfold kP;rw[m,e];have:tT I u y=ag:=by
      unfold tT;rw[bS,bg,bS,bg];rfl
     simp[this]
    refine⟨⟨by dsimp only;omega,by dsimp only;rw[gg];exact j.1,λa b w=>?_⟩,by dsimp only;omega⟩
    dsimp only;rw[List.getElem?_set];by_cases g:iO r u y=iO r a b
    .obtain ⟨rfl,rfl⟩:=anL hi w g;rw[aK rfl,aK (by grind),bc (cf y),cM rfl,bg (x:=u) (y:=u+1),hF]
     rfl
    rw[ax g,j.2 a b w];by_cases Z:b=y
    .subst Z;have O:a≠u:=λe=>g (by rw[e])
     rw[cM rfl,kV,kV];by_cases k:a< u
     .rw [bg k,bg (x:=a) (y:=u+1)]
     rw[bc (x:=a) (y:=u),bc (x:=a) (y:=u+1)]
    simp[bQ,Z,n8]
   have t:=kK.1 t;rw[dC,lr,bV,au]
   grind
  have p:=kK.1 p;rw[dC,lr];have:y=r.2.2.2.1:=by omega
  rw[atS o.1 λa b hi=>?_]
  have J:=d.i.1 hi;rw[o.2 a b hi,bg,vb,ao]
 obtain⟨v,e,B⟩:=key;rw[e,B]
end
section
def mn(n:Nat):Int:=bif ai n 100 then n else 100
theorem ab3 n:0<=mn n/\mn n<=100/\(mn n<=24->n<=24):=by
 unfold mn;by_cases h:n<=100
 .grind
 rw[di,aw];omega
theorem afU{x:cz}(h:gF x)(d:x.2.2.2.1.length<=big):∀(k i:Nat) (n:Int),i+k=x.2.2.2.1.length->0<=n->n<=100*i->(∀j,(A:j< x.2.2.2.1.length)->j< i->mn x.2.2.2.1[j].2.2.2.2.1.length<=n)->∃b,aA (wU x) ((n,(i:Int),()),(),())=ab b/\(b=ag->∀j,(A:j< x.2.2.2.1.length)->x.2.2.2.1[j].2.2.2.2.1.length<=24)
 |0,i,n,f,g,m,I=>by
  have e:wU x ((n,(i:Int),()),(),())=ay (ai (x.2.2.2.1.length:Int) 8&&ai n 24):=by
   unfold wU;dsimp only;rw[bc,aw,cK];rfl
  refine⟨_,cQ e,λJ j A=>?_⟩
  rw[aM,ix,ix]at J;have:=I j A (by omega)
  exact(ab3 _).2.2 (by omega)
 |k+1,i,n,f,g,m,U=>by
  have hi:i< x.2.2.2.1.length:=by omega
  have I:=h _ (g7 hi);have o:x.2.2.2.1.length<=1099511627776:=d;have p:=ab3 x.2.2.2.1[i].2.2.2.2.1.length;have key:wU x ((n,(i:Int),()),(),())=ab (cy af)∨wU x ((n,(i:Int),()),(),())=ab (bb ((n+mn x.2.2.2.1[i].2.2.2.2.1.length,((i+1:Nat):Int),()),(),())):=by
   unfold wU;dsimp only;rw[bg,ao,cO hi,afK,ah,cI,ah,cI,ah,cI,ah,cI,ah,cI,ah];generalize(!FJ x.2.2.2.1[i].2.2.2.1||_||_||_||_||_)=c
   cases c with
   |true=>exact .inl rfl
   |false=>
    rw[aw];have Z:aA (Jp ((n,(i:Int),()),(),()) x.2.2.2.1[i]) ((0,()),(),())=ab (bif[x.2.2.2.1[i].2.2.2.2.2.2.2.2.2.2.2.2.1,x.2.2.2.1[i].2.2.2.2.2.2.2.2.2.2.2.2.2.2.1].all (λl=>l.all xT)then bb ((n+mn x.2.2.2.1[i].2.2.2.2.1.length,((i+1:Nat):Int),()),(),())else cy af):=by
     refine rT _ (λl:List eS=>l.all xT) (cy af) (bb _) (λj A=>?_) ?_
     .have q:j< 2:=A;unfold Jp;dsimp only;rw[bg,ao,z5 A];have a:([x.2.2.2.1[i].2.2.2.2.2.2.2.2.2.2.2.2.1,x.2.2.2.1[i].2.2.2.2.2.2.2.2.2.2.2.2.2.2.1][j]).length<=big:=by
       rcases j with _|_|j<;>try(first|exact I.sl|omega;done)
       exact I.fl
      rw[avJ a];dsimp only;rw[au];cases List.all _ xT<;>rfl
     unfold Jp;dsimp only;rw[bc,aw,au (n:=(i:Int)+1)];show ay (bb ((w (n+mn _),_,()),(),()))=_;rw[au];rfl
    rw[Z];cases List.all _ (λl:List eS=>l.all xT)with
    |true=>exact .inr rfl
    |false=>exact .inl rfl
  rcases key with e|e
  .exact ⟨_,cQ e,λJ=>by cases J⟩
  rw[eY e];refine afU h d k (i+1) _ (by omega) (by omega) (by omega) λj A r=>?_
  by_cases s:j=i
  .subst s;omega
  have:=U j A (by omega);omega
def Cs(x:cz):=∀n∈x.2.2.2.1,n.2.2.2.2.1.length<=24
theorem avK{x:cz}(h:gF x)(A:x.2.2.2.1.length<=big):∃b,Rm x=ab b/\(b=ag->Cs x):=by
 obtain⟨b,e,I⟩:=afU h A x.2.2.2.1.length 0 0 (by omega) (by omega) (by omega) λj _ h=>by omega
 refine⟨b,e,λh n J=>?_⟩
 obtain⟨j,U,rfl⟩:=List.getElem_of_mem J;exact I h j U
theorem au2{x:cj}(h:ia x=0)(I:x.2.2.2.2.1≠[]):x.2.2.2.2.2.1=1∨x.2.2.2.2.2.1=2:=by
 have h:=acf h;unfold sA qA at h;unfold tU at h;cases e:cY x.2.2.2.2.1 with
 |true=>
  cases A:x.2.2.2.2.1<;>first|exact absurd A I|rw[A]at e;cases e
 |false=>
  simp_all[xK,wc]
theorem Xg{x:cz}(h:gF x)(d:Cs x)(c:vS x=ag){i:Nat} hi:∃v:List (List aJ)×Bool×Unit,uf x (i)=ab v/\jL v.1/\tt v.1<=1560/\sH 0 v.1=ag/\(v.2.1=ag->x.2.2.2.1[i].2.2.2.2.2.1=1∨x.2.2.2.1[i].2.2.2.2.2.1=2):=by
 have Z:jL []:=⟨by simp,λr h=>by cases h⟩
 obtain⟨I,a⟩:=FZ c;obtain⟨L,e⟩:=Xd I a i hi;have J:aj (x.2.2.2.1[i].2.2.2.2.1.length) 0=af->x.2.2.2.1[i].2.2.2.2.2.1=1∨x.2.2.2.1[i].2.2.2.2.2.1=2:=λhe=>au2 (I.n _ (g7 hi)) λU=>by
  rw[U]at he;exact zB.1 he rfl
 unfold uf Po;rw[awI h c e,ah];cases A:chain _ _ with
 |none=>
  have hw:F5 x.2.2.2.1 L=(zA,5,()):=by unfold F5;rw[A];rfl
  rw[hw];rw[bQ (x:=5) (y:=18),bQ (x:=5) (y:=8),cI,ah,BG,aw,cO hi,ah];cases he:aj (x.2.2.2.1[i].2.2.2.2.1.length:Int) 0<;>first|exact⟨([],ag,()),rfl,Z,bI _,rfl,λ_=>J he⟩|exact⟨_,rfl,Z,bI _,rfl,λh=>by cases h⟩
 |some t=>
  have hw:F5 x.2.2.2.1 L=(na t,0,()):=by unfold F5;rw[A];rfl
  rw[hw];rw[bQ (x:=0) (y:=18),bQ (x:=0) (y:=8),cM (x:=0) (y:=0) rfl,cI,ah,BG,aw,cO hi,ah];cases he:aj (x.2.2.2.1[i].2.2.2.2.1.length) 0 with
  |true=>exact⟨_,rfl,Z,bI _,rfl,λh=>by cases h⟩
  |false=>
   have b:=alQ x.2.2.2.1[i].2.2.2.2.1 (av (na t)) 32;have f:=d _ (g7 hi);refine⟨((pD _ _ 32).1,ag,()),?_,alR _ _ _,by dsimp only;omega,aee _ _ b.1 (by dsimp only;omega),λ_=>J he⟩
   unfold Pp;rw[alV _ (w9 (aku t _ _ Z6 A)),b9,ah];cases he:aj _ 0 with
   |true=>rfl
   |false=>simp[alP,he]
def mJ(x:cz)(y:Int)(z:bu):=bif !vS x then 18 else bif !l6 x y then 8 else rE z
theorem YO{x:cz}(h:gF x) y z:CT x y z=ab (mJ x y z):=by
 unfold CT mJ rE;rw[UK h,cI,L6,Cp];grind[l6,mO,l5]
theorem HW{x:cz}{y:Int}{z:bu}(h:mJ x y z=0):vS x=ag/\l6 x y=ag/\rE z=0:=by
 unfold mJ at h;grind
def iy(x:cz)(i:Nat)(u v:Int):Int:=match uf x i,x.2.2.2.1[i]? with
 |some p,ab n=>bif p.2.1 then kP p.1 n.2.2.2.2.2.1 u v else 255
 |_,_=>0
theorem ach{x:cz}{i:Nat} hi{p:List (List aJ)×Bool×Unit}(e:uf x (i)=ab p):iy x i=λu v=>bif p.2.1 then kP p.1 x.2.2.2.1[i].2.2.2.2.2.1 u v else 255:=by
 funext u v;simp[iy,e,hi]
theorem xb{x:cz}(h:gF x)(A:Cs x)(I:vS x=ag){i:Nat}(hi:i< x.2.2.2.1.length) u v:B8 (iy x i u v):=by
 obtain⟨p,e,h1,h2,_,_⟩:=Xg h A I hi;rw[ach hi e];dsimp only;cases p.2.1<;>first|rw[aw];exact⟨by decide,by decide⟩|simp[atM,h1,h2]
theorem adb{β:Type}{x:cz}(h:gF x)(J:Cs x)(U:vS x=ag){i:Nat}(hi:i< x.2.2.2.1.length){z:bu}(A:rE z=0)(G:lP->Option β):
  ((uf x (i)).bind λI=>bif !I.2.1 then(Aj z 255).bind λZ=>G Z.1 else aQ x.2.2.2.1 (i) λa=>(zm I.1 a.2.2.2.2.2.1 z).bind λb=>G b.1)=G (cR z,dw z (iy x i),()):=by
 obtain⟨p,e,h1,h2,c,d⟩:=Xg h J U hi;rw[ach hi e,e,ah];cases hp:p.2.1 with
 |false=>simp[aws,A]
 |true=>rw[cO hi,akT h1 h2 c (d hp) A];rfl
theorem acI{x:cz}(h:gF x)(J:Cs x) y z:mJ x y z≠0/\zk x y z=ab (((0,0,0,0,()),[],()),mJ x y z,())∨mJ x y z=0/\∃i:Nat,y=i/\i< x.2.2.2.1.length/\zk x y z=ab ((cR z,dw z (iy x i),()),0,()):=by
 unfold zk;rw[YO h,ah];by_cases A:mJ x y z=0
 .right;obtain⟨U,I,Z⟩:=HW A;unfold l6 at I;rw[aM,ix,cZ]at I;obtain⟨i,rfl⟩:=fW I.1;have hi:i< x.2.2.2.1.length:=by omega
  refine⟨A,i,rfl,hi,?_⟩;rw[cM A];exact adb h J U hi Z λm=>ab (m,0,())
 simp[bQ,A]
def zh x(L:List Nat):=match L with
 |[]=>λ_ _=>0
 |k::L=>uO (iy x k) (L.map (iy x))
theorem Hl{x:cz}(h:gF x)(a:Cs x) y z:mJ x y z≠0/\v5 x y z=ab (((0,0,0,0,()),[],()),mJ x y z,())∨mJ x y z=0/\∃(i:Nat) (L:List Nat),y=i/\my x.2.2.2.1 i L/\v5 x y z=ab ((cR z,dw z (zh x L),()),0,()):=by
 unfold v5;rw[YO h,ah];by_cases Z:mJ x y z=0
 .right;obtain⟨A,l,g⟩:=HW Z;obtain⟨i,L,rfl,b,e⟩:=ajk h y (by simp[l,A])
  obtain⟨c,n⟩:=FZ A;have o:=Hn c b;have d:=(CS b).2;refine⟨Z,i,L,rfl,b,?_⟩;rw[cM Z,b9,aw,e,ah];have key:Wq (aA (Of (ints L)) (([],0,()),(x,z,()),())) λv=>v=((cR z,dw z (zh x L),()),0,()):=by
   refine cJ (λs=>∃j:Nat,j<=L.length/\s=((ee (cR z) ((L.take j).map (iy x)),(j:Int),()),(x,z,()),())) (λs=>(L.length)-s.1.2.1.toNat) ⟨0,bI _,rfl⟩ ?_
   rintro _ ⟨j,p,rfl⟩;unfold Of;dsimp only;rw[aaw];refine bE (λI=>?_) λJ=>?_
   .have I:=cZ.1 I;have U:j< L.length:=by omega
    rw[anM U];refine(adb h a A (d _ (g7 U)) g λm=>aT (bZ ((ee _ _).length+[m].length) 56) (aB ((cH _ [m],w ((j)+1),()),(x,z,()),())))▸?_
    rw[cX (nY (by grind[qM,gf,fI])),bW,au]
    refine⟨⟨j+1,by omega,?_⟩,by dsimp only;omega⟩
    rw[yA,gA _];unfold ee;rw[mu,mu,<-xp z _];rfl
   have J:=kK.1 J;rw[rF (by omega)]
   cases L with
   |nil=>simp at o
   |cons k L=>
    rw[List.map_cons,ar7 (xE (A6 g).2) _ _ (by grind) λf hf u v=>?_,ah,ah,dC,xp]<;>try trivial
    rcases dy.1 hf with rfl|hf
    .exact xb h a A (d k eA ..) u v
    obtain⟨m,hm,rfl⟩:=kj.1 hf;exact xb h a A (d m (ff _ hm)) u v
  obtain⟨v,e,A⟩:=key;rw[e,A]
 simp[bQ,Z]
end
section
theorem Xe{l:List cj}:∀{i:Nat} {L A:List Nat},my l i L->my l i A->L=A:=by
 intro i L A h;induction h generalizing A with
 |top i _ _ hp=>
  intro h';cases h'<;>first|rfl|grind
 |sub i j L hi I hp _ ih=>
  intro h';cases h'<;>grind
theorem af2 r:∃c,D4 r=ab c:=by
 simp[D4,aeW,ah,cI]
theorem auM{a b:bu}(U:Rc a)(Z:Rc b):∃q:bu,KV a b=ab q/\ -4096<=q.1/\q.2.2.1<=4096/\ -4096<=q.2.1/\q.2.2.2.1<=4096/\∀u v,q.1<=u->u< q.2.2.1->q.2.1<=v->v< q.2.2.2.1->dh a u v/\dh b u v:=by
 unfold KV;rw[TE,ah,TE,ah,cI,ah];cases eR a||eR b with
 |true=>grind
 |false=>
  rw[A7];have I:∀p q,(bif ai p q then q else p)=max p q:=λp q=>by
   by_cases c:p<=q
   .rw [bS c,ao];omega
   rw[di,aw];omega
  have J:∀p q,(bif ai p q then p else q)=min p q:=λp q=>by
   grind
  simp only[I,J];have A:=N3 (max a.1 b.1,max a.2.1 b.2.1,min a.2.2.1 b.2.2.1,min a.2.2.2.1 b.2.2.2.1,());refine⟨_,rfl,A.1,A.2.2.1,A.2.2.2.1,A.2.2.2.2.2,λu v h1 h2 d e=>?_⟩
  unfold cR at h1 h2 d e;cases he:eR (max a.1 b.1,max a.2.1 b.2.1,min a.2.2.1 b.2.2.1,min a.2.2.2.1 b.2.2.2.1,())with
  |true=>grind
  |false=>
   grind[U.i,Z.i]
theorem YJ{I J q:bu}(h1:Rc I)(h2:Rc J)(i: -4096<=q.1/\q.2.2.1<=4096/\ -4096<=q.2.1/\q.2.2.2.1<=4096/\∀u v,q.1<=u->u< q.2.2.1->q.2.1<=v->v< q.2.2.2.1->dh I u v/\dh J u v)
  {A N U:Int->Int->Int} {k g:Int} (hA:∀u v,A u v<=N u v/\A u v<=U u v/\B8 (N u v)/\B8 (U u v)/\(ak k 0=af->A u v=lA (U u v) (N u v))):
  aA (Rk ((I,dw I A,()),0,()) ((J,dw J A,()),0,()) q ((I,dw I N,()),0,()) ((J,dw J N,()),0,()) k ((g,()),((I,dw I U,()),()),())) ((q.2.1,()),(),())=ab ag:=by
 obtain⟨y,z,B,C,a⟩:=i;have key:Wq (aA (Rk ((I,dw I A,()),0,()) ((J,dw J A,()),0,()) q ((I,dw I N,()),0,()) ((J,dw J N,()),0,()) k ((g,()),((I,dw I U,()),()),())) ((q.2.1,()),(),())) λb=>b=ag:=by
  refine cJ (λs=>q.2.1<=s.1.1) (λs=>(q.2.2.2.1-s.1.1).toNat) (cf _) ?_
  rintro⟨⟨v,⟨⟩⟩,⟨⟩,⟨⟩⟩ j;refine bE (λc=>?_) λ_=>(dC _ _).2 rfl
  have c:=cZ.1 c;refine cJ (λs=>q.1<=s.1.1) (λs=>(q.2.2.1-s.1.1).toNat) (cf _) ?_
  rintro⟨⟨u,⟨⟩⟩,⟨⟩,⟨⟩⟩ l;unfold aby;dsimp only at*;refine bE (λd=>?_) λ_=>?_
  .have d:=cZ.1 d;obtain⟨f,h⟩:=a u v l d j c;obtain⟨m,n,o,p,r⟩:=hA u v;rw[Fs h1 A f,Fs h2 A h,Fs h1 N f,Fs h2 N h,Fs h1 U f];simp;rw[cM (x:=A u v) rfl,b9,iU,cM (x:=N u v) rfl,b9,ah,iU,bc m,ah,iU,bc n,ah,aw,auQ p o,ah];have Z:aF (!ak k 0) (ab !aj (A u v) (lA (U u v) (N u v)))=ab af:=by
    cases t:ak k 0<;>first|rw[cM (r t)];rfl|rfl
   rw[Z,ah,aw,bW,bV,au];grind
  rw[dC,lr,bV,au];grind
 obtain⟨b,e,w⟩:=key;rw[e,w]
theorem auf{r:bu} f(Z:cq r*hR r<=65536):Fb (r,dw r f,()) (r,dw r f,())=ab ag:=by
 have c:=KE r f;have key:Wq (Fb (r,dw r f,()) (r,dw r f,())) λb=>b=ag:=by
  unfold Fb;rw[show cu _ r r=ag from Db.2 rfl,b9,cM rfl];refine cJ (λs=>0<=s.1.1) (λs=>(((dw r f).length:Int)-s.1.1).toNat) (cf _) ?_
  rintro⟨⟨i,⟨⟩⟩,⟨⟩,⟨⟩⟩ A;unfold aeF;dsimp only at*;refine bE (λhi=>?_) λ_=>(dC _ _).2 rfl
  have hi:=cZ.1 hi;refine gy A hi λa J _=>gy A hi λb I _=>?_
  rw[J]at I;cases I;rw[cM rfl,b9,aw,bW,bV,au];grind
 obtain⟨b,e,U⟩:=key;rw[e,U]
theorem aks{x:cz}(h:gF x)(A:Cs x)(I:vS x=ag){L:List Nat}(U:L≠[])(J:∀k∈L,k< x.2.2.2.1.length) u v:B8 (zh x L u v):=by
 cases L<;>first|rename_i k L;refine SD (f0:=iy x k) _ _ (xb h A I (J k (eA ..)) u v) λf hf=>?_;obtain⟨m,hm,rfl⟩:=kj.1 hf;exact xb h A I (J m (ff _ hm)) u v|grind
theorem akt{x:cz}{L:List Nat}(A:L≠[]) i u v:zh x (L++[i]) u v=lA (zh x L u v) (iy x i u v):=by
 cases L
 .grind
 rename_i k L;show uO _ _ u v=lA (uO _ _ u v) _;simp[uO,mu]
theorem asd{x:cz}(h:gF x)(O:x.2.2.2.1.length<=big)(y:Int)(z:bu×bu×Unit):Rj x y z=ab ag:=by
 obtain⟨J,z2,⟨⟩⟩:=z;obtain⟨b,e,A⟩:=avK h O;obtain⟨c1,m⟩:=af2 J;obtain⟨c2,U⟩:=af2 z2;unfold Rj De;dsimp only;rw[e,ah,m,ah,cI,ah,U,ah,cI,ah];cases b with
 |false=>rfl
 |true=>
  cases P:(!true||!c1||!c2)with
  |true=>rfl
  |false=>
   have A:=A rfl;rw[aw];have err:∀(a b:lP×Int×Unit) (k:Option Bool),(aj a.2.1 0=ag∨a.1.2.1=[])->(aj b.2.1 0=ag∨b.1.2.1=[])->(!aj a.2.1 0||!aj b.2.1 0)=ag->((aV (!aj a.2.1 0) (ab !aj b.2.1 0)).bind λQ=>bif Q then(aV (aj a.2.1 0) (ab (aj (↑a.1.2.1.length) 0))).bind λR=>(aF R ((aV (aj b.2.1 0) (ab (aj (↑b.1.2.1.length) 0))).bind λn=>ab n)).bind λo=>(aF o ((ab ag).bind λp=>ab p)).bind λr=>ab r else k)=ab ag:=λa b k s e t=>by
    have s:(aj a.2.1 0||aj (a.1.2.1.length:Int) 0)=ag:=by rcases s with h|h<;>rw[h]<;>simp[cM]
    have e:(aj b.2.1 0||aj (b.1.2.1.length:Int) 0)=ag:=by rcases e with h|h<;>rw[h]<;>simp[cM]
    rw[cI,ah,t,ao,cI,ah,s,cI,ah,e];rfl
   rcases Hl h A y J with⟨g,w⟩|⟨g,i,L,rfl,l,w⟩
   .rw [w,ah];rcases Hl h A y z2 with⟨f,Z⟩|⟨f,_,_,_,_,Z⟩
    .rw [Z,ah];exact err _ _ _ (.inr rfl) (.inr rfl) (by simp[bQ,g])
    rw[Z,ah];exact err _ _ _ (.inr rfl) (.inl (cM rfl)) (by simp[bQ,g])
   rw[w,ah];rcases Hl h A (i:Int) z2 with⟨f,Z⟩|⟨f,S,L',T,B,Z⟩
   .rw [Z,ah];exact err _ _ _ (.inl (cM rfl)) (.inr rfl) (by simp[bQ,f])
   rw[Z,ah];obtain rfl:i=S:=by omega
   obtain rfl:=Xe l B;obtain⟨c,C,d⟩:=HW g;obtain⟨_,_,D⟩:=HW f;have E:=xE (A6 d).2;have F:=xE (A6 D).2;obtain⟨q,eq,H⟩:=auM E F;have hi:=Ho l;rcases acI h A (i:Int) J with⟨K,_⟩|⟨_,j,V,_,K⟩
   .omega
   obtain rfl:i=j:=by omega
   rcases acI h A (i:Int) z2 with⟨M,_⟩|⟨_,j,V,_,M⟩
   .omega
   obtain rfl:i=j:=by omega
   dsimp only;rw[cM (x:=0) rfl,b9,iU,ah,aw,A7,ah,show cu Uv (cR J) (cR J)=ag from Db.2 rfl,b9,iU,A7,ah,show cu Uv (cR z2) (cR z2)=ag from Db.2 rfl,b9,ah,aw,eq,ah,K,ah,M,ah,aup h,C,c,kV,ao];simp only[<-xp J,<-xp z2];have G:=(CS l).2;cases l with
   |top _ _ _ hp=>
    rw[hp,ah,bg (x:= -1) (by decide),b9,aw,iw]
    unfold Rl;dsimp only;rw[cM (x:=0) rfl,b9,iU,ah,iU,ah,bg (x:= -1) (by decide),ow,show zh x [i]=iy x i from rfl,auf _ (by rw[UN,Pw];exact(A6 d).2),ah,b9,ah,iU,ah,aw]
    exact YJ E F H λu v=>⟨cf _,cf _,xb h A c hi u v,xb h A c hi u v,λG=>by rw[bg (x:= -1) (by decide)]at G;cases G⟩
   |sub _ j L _ _ hp I=>
    have ej:mJ x (j:Int) J=0:=by
     simp[mJ,c,aac,Ho I,d]
    rcases Hl h A (j:Int) J with⟨n3,_⟩|⟨_,W,L2,X,U,Y⟩
    .omega
    obtain rfl:j=W:=by omega
    obtain rfl:=Xe I U;have N:L≠[]:=by
     intro h0;have:=(CS I).1;have:=(Hn (FZ c).1 I).1;grind
    rw[hp,ah,bc (x:=(j:Int)),fN,ao,ah,Y,ah,iw];unfold Rl;dsimp only;rw[cM (x:=0) rfl,b9,iU,ah,iU,ah,bc (x:=(j:Int)),rU,ah,iU,ah,aw,<-xp J];refine YJ E F H λu v=>?_
    have b1:=aks h A c N (CS I).2 u v;have b2:=xb h A c hi u v;have hm:=JM b1 b2;rw[akt N];grind
end
end Go.Proofs.YtlfolhmfdmcmiaaGreatDoor
end
