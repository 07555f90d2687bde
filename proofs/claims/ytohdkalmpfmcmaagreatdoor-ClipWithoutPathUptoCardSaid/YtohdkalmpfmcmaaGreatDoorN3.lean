/- A part of the proof. -/
import Derived.Test.YtohdkalmpfmcmaaGreatDoorN2
set_option linter.all false
open Bool renaming and_eq_true->aM,and_false->yh,and_self->F3,false->af,false_and->n5,false_or->Bz,not_false->fO,not_true->cg,or_eq_false_iff->jD,or_false->vf,true->ag,true_and->lG,true_or->vg
open Int renaming add_sub_cancel->ahv,add_zero->lH,ediv_lt_of_lt_mul->BH,ediv_nonneg->vk,eq_ofNat_of_zero_le->fP,le_refl->cr,mul_assoc->kh,mul_le_mul->qe,mul_le_mul_of_nonneg_left->qf,mul_nonneg->n7,natCast_mul->kV,tdiv_eq_ediv_of_nonneg->o9,tmod_eq_emod_of_nonneg->Gd,toNat_natCast->cU
open List renaming all_eq_true->lI,getElem?_eq_none->jF,getElem_mem->gR,getElem_set_self->ahW,length_append->dH,length_cons->fH,length_map->gg,length_range->ahX,length_set->fQ,length_take->gi,map_append->ml,mem_append->cD,mem_cons->du,mem_cons_of_mem->ff,mem_cons_self->eh,mem_map->kl,mem_of_mem_take->Vr,mem_or_eq_of_mem_set->Vs,mem_singleton->gT,nil_append->Gi,range->vu,replicate->bP,take_add_one->yD,take_of_length_le->rG
open Nat renaming add_zero->qi,div_eq_of_lt->tp,le_refl->aL,le_trans->b8,mod_eq_of_lt->rH,mul_add_div->vz,mul_add_mod->BQ,mul_comm->lJ,mul_le_mul->Gp,mul_le_mul_left->aik,rec->hG,zero_le->bH
open Option renaming bind->aix,bind_some->ah,some->ab
open Sum renaming inl->bb,inr->cF
noncomputable section
namespace Go.Cc
open Go.As
def Wq{ρ:Type}(m:Option ρ)(Q:ρ->Prop):Prop:=∃r,m=ab r/\Q r
theorem jg{ρ:Type}(r:ρ)(Q:ρ->Prop):Wq (ab r) Q↔Q r:=⟨λ⟨_,e,h⟩=>(by simp_all[h]),λh=>⟨_,rfl,h⟩⟩
theorem fG{α ρ:Type}(m:Option α)(f:α->Option ρ)(Q:ρ->Prop):Wq (m.bind f) Q↔Wq m (λy=>Wq (f y) Q):=by
 constructor
 .rintro ⟨r,e,h⟩;obtain⟨y,A,I⟩:=Option.bind_eq_some_iff.1 e;exact⟨y,A,r,I,h⟩
 rintro⟨y,A,r,I,h⟩;exact⟨r,by simp[A,I],h⟩
theorem lF{ρ:Type}(c:Bool)(a b:Option ρ)(Q:ρ->Prop):Wq (bif c then a else b) Q↔(c=ag->Wq a Q)/\(c=af->Wq b Q):=by cases c<;>simp
theorem UG{ρ:Type}(c:Bool)(a:Option ρ)(Q:ρ->Prop):Wq (aT c a) Q↔c=ag/\Wq a Q:=by
 cases c
 .exact ⟨λ⟨_,e,_⟩=>(by cases e),λh=>(by cases h.1)⟩
 exact⟨λh=>⟨rfl,h⟩,λh=>h.2⟩
theorem Md{ρ:Type}(y:Int)(a:Option ρ)(Q:ρ->Prop):Wq (ky y a) Q↔y≠0/\Wq a Q:=by
 by_cases h:y=0
 .subst h;exact⟨λ⟨_,e,_⟩=>(by cases e),λh=>absurd rfl h.1⟩
 rw[nG h];grind
theorem FX(c:Bool)(a:Option Bool)(Q:Bool->Prop):Wq (aG c a) Q↔(c=ag->Wq a Q)/\(c=af->Q af):=by
 cases c
 .exact ⟨λh=>⟨λh=>(by cases h),λ_=>(jg _ _).1 h⟩,λh=>(jg _ _).2 (h.2 rfl)⟩
 exact⟨λh=>⟨λ_=>h,λh=>(by cases h)⟩,λh=>h.1 rfl⟩
theorem FY(c:Bool)(a:Option Bool)(Q:Bool->Prop):Wq (aW c a) Q↔(c=af->Wq a Q)/\(c=ag->Q ag):=by
 cases c
 .exact ⟨λh=>⟨λ_=>h,λh=>(by cases h)⟩,λh=>h.1 rfl⟩
 exact⟨λh=>⟨λh=>(by cases h),λ_=>(jg _ _).1 h⟩,λh=>(jg _ _).2 (h.2 rfl)⟩
theorem bX{σ ρ:Type}(s:σ)(Q:σ⊕ρ->Prop):Wq (aB s) Q↔Q (.inl s):=jg _ _
theorem dC{σ ρ:Type}(s:ρ)(Q:σ⊕ρ->Prop):Wq (az s) Q↔Q (.inr s):=jg _ _
def jn{σ ρ:Type}(k:σ->Prop)(Q:ρ->Prop):σ⊕ρ->Prop
 |.inl s=>k s
 |.inr r=>Q r
theorem bZ{σ ρ:Type}(s:σ)(k:σ->Prop)(Q:ρ->Prop):jn k Q (.inl s)=k s:=rfl
theorem lr{σ ρ:Type}(s:ρ)(k:σ->Prop)(Q:ρ->Prop):jn k Q (.inr s)=Q s:=rfl
theorem iE{σ ρ:Type}(m:Option (σ⊕ρ))(k:σ->Option ρ)(Q:ρ->Prop):Wq (bt m k) Q↔Wq m (jn (λs=>Wq (k s) Q) Q):=by
 constructor
 .rintro ⟨r,e,h⟩;cases m with
  |none=>cases e
  |some v=>cases v<;>first|exact⟨_,rfl,r,e,h⟩|rename_i s;cases e;exact⟨_,rfl,h⟩
 rintro⟨v,rfl,h⟩;cases v<;>first|exact⟨_,rfl,h⟩|exact h
theorem cB{ρ:Type}{m:Option ρ}{P Q:ρ->Prop}(h:Wq m P)(k:∀r,P r->Q r):Wq m Q:=by
 obtain⟨r,e,h⟩:=h;exact⟨r,e,k r h⟩
theorem cL{σ ρ:Type}{step:σ->Option (σ⊕ρ)}{Q:ρ->Prop}(I:σ->Prop)(m:σ->Nat){s:σ}(U:I s)(h:∀s,I s->Wq (step s) (jn (λA=>I A/\m A< m s) Q)):Wq (aA step s) Q:=
 eW I m Q (λs Z=>by
  obtain⟨v,e,J⟩:=h s Z;cases v with
  |inl A=>exact .inl ⟨A,e,J⟩
  |inr r=>exact .inr ⟨r,e,J⟩) s U
theorem gz{α ρ:Type}{l:List α}{i:Int}{f:α->Option ρ}{Q:ρ->Prop}(A:0<=i)(h1:i< l.length)(h:∀x,l[i.toNat]? =ab x->x∈l->Wq (f x) Q):Wq (aQ l i f) Q:=by
 obtain⟨n,rfl⟩:=fP A;have I:n< l.length:=by omega
 rw[cH I];grind
theorem dG{α ρ:Type}{l:List α}{i:Int}{f:α->Option ρ}{Q:ρ->Prop}(A:0<=i)(h1:i< l.length)(h:∀x,l[i.toNat]? =ab x->x∈l->Wq (f x) Q):Wq (aN l i f) Q:=by
 obtain⟨n,rfl⟩:=fP A;have I:n< l.length:=by omega
 rw[uz I];grind
theorem cZ{x y:Int}:(ak x y=ag)↔x< y:=by simp[mI]
theorem jt{x y:Int}:(ak x y=af)↔y<=x:=by simp[mI]
theorem iw{x y:Int}:(ai x y=ag)↔x<=y:=by simp[lU]
theorem wZ{x y:Int}:(ai x y=af)↔y< x:=by simp[lU]
theorem sf{x y:Int}:(aj x y=ag)↔x=y:=by simp[fB]
theorem wj{x y:Int}:(aj x y=af)↔x≠y:=by simp[fB]
theorem Tv{n b:Nat}:(bW n b=ag)↔n*b<=70368744177664/\n<=70368744177664:=by
 simp[bW,aM,Nat.ble_eq]
theorem wB{α ρ:Type}{m:Option α}{f:α->Option ρ}{P:α->Prop}{Q:ρ->Prop}(h:Wq m P)(g:∀y,P y->Wq (f y) Q):Wq (m.bind f) Q:=(fG _ _ _).2 (cB h g)
theorem wS{ρ:Type}{r:ρ}{Q:ρ->Prop}(h:Q r):Wq (ab r) Q:=(jg _ _).2 h
theorem bE{ρ:Type}{c:Bool}{a b:Option ρ}{Q:ρ->Prop}(h:c=ag->Wq a Q)(g:c=af->Wq b Q):Wq (bif c then a else b) Q:=(lF _ _ _ _).2 ⟨h,g⟩
def T{α:Type}:α->Prop:=λ_=>True
theorem nZ{c:Bool}{m:Option Bool}(h:Wq m T):Wq (aW c m) T:=(FY _ _ _).2 ⟨λ_=>h,λ_=>trivial⟩
theorem LQ{c:Bool}{m:Option Bool}(h:Wq m T):Wq (aG c m) T:=(FX _ _ _).2 ⟨λ_=>h,λ_=>trivial⟩
theorem tS{ρ:Type}{r:ρ}:Wq (ab r) T:=wS trivial
theorem acH{b:Bool}:((!b)=ag)↔b=af:=by simp
theorem xk{b:Bool}:((!b)=af)↔b=ag:=by simp
theorem oo{a b:Bool}:((a&&b)=ag)↔a=ag/\b=ag:=by simp
theorem Xm{α:Type}{a b:α}:(bif ag then a else b)=a:=rfl
theorem Xl{α:Type}{a b:α}:(bif af then a else b)=b:=rfl
theorem wk:type_of% @jg/\type_of% @fG/\type_of% @lF/\type_of% @UG/\type_of% @Md/\type_of% @FX/\type_of% @FY/\type_of% @bX/\type_of% @dC/\type_of% @bZ/\type_of% @lr/\type_of% @iE/\type_of% @cZ/\type_of% @jt/\type_of% @iw/\type_of% @wZ/\type_of% @sf/\type_of% @wj/\type_of% @Tv/\type_of% @acH/\type_of% @xk/\type_of% @oo/\type_of% @Xm/\type_of% @Xl:=
 ⟨@jg,@fG,@lF,@UG,@Md,@FX,@FY,@bX,@dC,@bZ,@lr,@iE,@cZ,@jt,@iw,@wZ,@sf,@wj,@Tv,@acH,@xk,@oo,@Xm,@Xl⟩
theorem uE{i j:Int}(A:0<=i:=by omega)(h1:0<=j:=by omega)(h2:i+j< 4611686018427387904:=by omega):w ((wu (w (i+j))).fdiv 2)=(i+j)/2:=by
 rw[aw (n:=i+j),bO,Int.fdiv_eq_ediv_of_nonneg _ (by omega),aw]
end Go.Cc
namespace Go.Proofs.YtohdkalmpfmcmaaGreatDoor
open Go.As Go.Nt Go.Cc
section
structure Sb{α:Type}(d d':List α):Prop where
 len:d'.length=d.length
 mem:∀x∈d',x∈d
theorem Sb.refl{α:Type}(d:List α):Sb d d:=⟨rfl,λ_ h=>h⟩
theorem Sb.trans{α:Type}{a b c:List α}(h:Sb a b)(g:Sb b c):Sb a c:=⟨g.len.trans h.len,λx A=>h.mem x (g.mem x A)⟩
theorem Sb.set{α:Type}{d d':List α}{i:Nat}{x:α}(h:Sb d d')(I:x∈d):Sb d (d'.set i x):=⟨by simp[h.len],λy A=>by
 rcases Vs A with A|rfl
 .exact h.mem y A
 omega⟩
variable {α:Type}
theorem Ub{d:List α}{a b n:Int}(c:d.length<=1099511627776:=by omega)(e:0<=a:=by omega)(f:0<=b:=by omega)(I:0<=n:=by omega)(h1:a+n<=d.length:=by omega)(h2:b+n<=d.length:=by omega):Wq (Bf d a b n) λr=>Sb d r.2.1:=by
 refine cL (λs=>0<=s.1.1/\s.1.1<=n/\Sb d s.2.2.1) (λs=>(n-s.1.1).toNat) ⟨cr _,I,.refl _⟩ ?_
 rintro⟨⟨i,⟨⟩⟩,⟨⟩,d1,⟨⟩⟩ ⟨g,h,A⟩;have J:=A.len;unfold af9;dsimp only at*;simp[lF,cZ,dC];refine⟨λhi=>?_,λhi=>A⟩
 simp(disch:=omega) only [aw];refine dG (by omega) (by omega) λj _ U=>dG (by omega) (by omega) λk _ Z=>dG (by omega) (by omega) λl _ m=>dG (by omega) (by grind) λo _ p=>?_
 rw[bX];exact⟨⟨by dsimp only;omega,by dsimp only;omega,(A.set (A.mem _ U)).set (A.mem _ Z)⟩,by dsimp only;omega⟩
theorem auO{d:List α}{a b n:Int}(g:d.length<=1099511627776)(h:0<=a)(k:a< b)(l:b< n)(h1:n<=d.length:=by omega):Wq (Ft d a b n) λr=>Sb d r.2.1:=by
 unfold Ft;rw[aw (n:=b-a),aw (n:=n-b),iE];refine cB (P:=λr=>∃i d1,r=.inl ((i,()),(),d1,())/\0< i/\i<=b-a/\i<=n-b/\Sb d d1) (cL (λs=>0< s.1.1/\0< s.1.2.1/\s.1.1<=b-a/\s.1.2.1<=n-b/\Sb d s.2.2.1) (λs=>(s.1.1+s.1.2.1).toNat) ⟨by dsimp only;omega,by dsimp only;omega,cr _,cr _,.refl _⟩ ?_) ?_
 .rintro ⟨⟨i,j,⟨⟩⟩,⟨⟩,d1,⟨⟩⟩ ⟨J,c,U,e,A⟩;have Z:=A.len;unfold ae2;dsimp only at*;simp only[lF,cZ,jt,dC,Bool.not_eq_true',Bool.not_eq_false',sf,wj,fG,bX,bZ];refine⟨λhi=>⟨λf=>?_,λf=>?_⟩,λhi=>⟨_,_,rfl,J,U,by omega,A⟩⟩
  .simp (disch:=omega) only [aw];exact cB (Ub) λr I=>⟨⟨by omega,c,by omega,e,A.trans I⟩,by omega⟩
  simp(disch:=omega) only [aw];exact cB (Ub) λr I=>⟨⟨J,by omega,U,by omega,A.trans I⟩,by omega⟩
 rintro _ ⟨i,d1,rfl,J,U,m,A⟩;have Z:=A.len;rw[bZ];unfold ae3;rw[fG,aw (by dsimp only;omega) (by dsimp only;omega)]
 exact cB (Ub (by dsimp only;omega) (by dsimp only;omega) (by omega) (by dsimp only;omega) (by dsimp only;omega) (by dsimp only;omega)) λr I=>(jg _ _).2 (A.trans I)
theorem Qi{cm:α->α->Option Int}{d:List α}{a b:Int}(Z:∀x∈d,∀y∈d,Wq (cm x y) λ_=>True)(k:d.length<=1099511627776)(l:0<=a)(c:a<=b:=by omega)(m:b<=d.length:=by omega):Wq (zU cm d a b) λr=>Sb d r.2.1:=by
 unfold zU;rw[aw (n:=a+1)];refine cL (λs=>a+1<=s.1.1/\s.1.1<=b+1/\Sb d s.2.2.1) (λs=>(b+1-s.1.1).toNat) ⟨cr _,by dsimp only;omega,.refl _⟩ ?_
 rintro⟨⟨i,⟨⟩⟩,⟨⟩,d1,⟨⟩⟩ ⟨o,p,U⟩;unfold aac;dsimp only at*;simp[wk];refine⟨λhi=>?_,λhi=>U⟩
 refine cB (P:=λr=>∃d3,r=.inl ((),(),d3,())/\Sb d d3) (cL (λs=>a<=s.1.1/\s.1.1< b/\Sb d s.2.2.1) (λs=>(s.1.1-a).toNat) ⟨by dsimp only;omega,hi,U⟩ ?_) ?_
 .rintro ⟨⟨j,⟨⟩⟩,⟨⟩,d2,⟨⟩⟩ ⟨q,t,A⟩;have e:=A.len;unfold aaa;dsimp only at*;simp only[wk];refine⟨λu=>?_,λ_=>⟨λh=>(by cases h),λ_=>⟨_,rfl,A⟩⟩⟩
  simp(disch:=omega) only [aw];refine dG (by omega) (by omega) λf _ I=>dG (by omega) (by omega) λg _ J=>?_
  simp only[wk];refine cB (Z _ (A.mem _ I) _ (A.mem _ J)) λv _=>⟨λ_=>?_,λ_=>⟨_,rfl,A⟩⟩
  refine dG (by omega) (by omega) λf _ I=>dG (by omega) (by omega) λg _ J=>dG (by omega) (by omega) λw _ z=>dG (by omega) (by rw[fQ];omega) λB _ C=>?_
  rw[bX];exact⟨⟨by dsimp only;omega,by dsimp only;omega,(A.set (A.mem _ I)).set (A.mem _ J)⟩,by dsimp only;omega⟩
 rintro _ ⟨d3,rfl,D⟩;rw[bZ];unfold aab;rw[bX,bZ];dsimp only;rw[aw];grind
def Cm(cm:α->α->Option Int)(d:List α):=∀x∈d,∀y∈d,Wq (cm x y) λ_=>True
theorem Cm.sb{cm:α->α->Option Int}{d d':List α}(h:Cm cm d)(g:Sb d d'):Cm cm d':=λx A y I=>h x (g.mem x A) y (g.mem y I)
theorem NM{ρ:Type}{step:aJ×Unit×Unit->Option (aJ×Unit×Unit⊕(Int×Unit)×Unit×Unit⊕ρ)}{i j:Int}(a:0<=i)(A:i<=j)(b:j<=1099511627776)
  (h:∀p q,i<=p->p<=q->q<=j->Wq (step ((p,q,()),(),())) (jn (λs=>p< q/\(s=(((p+q)/2+1,q,()),(),())∨s=((p,(p+q)/2,()),(),()))) λr=>r=.inl ((p,()),(),()))):
  Wq (aA step ((i,j,()),(),())) λr=>∃t,r=.inl ((t,()),(),())/\i<=t/\t<=j:=by
 refine cL (λs=>i<=s.1.1/\s.1.1<=s.1.2.1/\s.1.2.1<=j) (λs=>(s.1.2.1-s.1.1).toNat) ⟨cr _,A,cr _⟩ ?_
 rintro⟨⟨p,q,⟨⟩⟩,⟨⟩,⟨⟩⟩ ⟨p0,J,I⟩;dsimp only at p0 J I;refine cB (h p q p0 J I) λr U=>?_
 rcases r with s|r
 .obtain ⟨Z,rfl|rfl⟩:=U
  .exact ⟨⟨by dsimp only;omega,by dsimp only;omega,I⟩,by dsimp only;omega⟩
  exact⟨⟨p0,by dsimp only;omega,by dsimp only;omega⟩,by dsimp only;omega⟩
 cases U;exact⟨p,rfl,p0,by omega⟩
def BV(cm:α->α->Option Int)(k:Nat)(F:List α->Int->Int->Int->Option (Unit×List α×Int×Int×Int×(Unit×Unit)×Unit)):=
 ∀d (a b n:Int),Cm cm d->d.length<=1099511627776->0<=a->a< b->b< n->n<=d.length->n-a<=k->Wq (F d a b n) λr=>Sb d r.2.1
variable {cm:α->α->Option Int}
theorem av0{d:List α}{a b n:Int}(U:Cm cm d)(j:d.length<=1099511627776)(k:0<=a)(Z:a< b)(c:b< n)(l:n<=d.length):
  Wq (bt (aA (Uc cm d a) ((b,n,()),(),())) (agd d a b n)) λr=>Sb d r.2.1:=by
 rw[iE];refine cB (NM (by omega) (by omega) (by omega) λp q h1 h2 m=>?_) ?_
 .unfold Uc;simp only[wk];refine⟨λh=>?_,λ_=>trivial⟩
  rw[uE];refine dG (by omega) (by omega) λe _ I=>dG (by omega) (by omega) λf _ J=>?_
  simp only[wk];refine cB (U _ I _ J) λv _=>⟨λ_=>⟨h,.inl ?_⟩,λ_=>⟨h,.inr trivial⟩⟩
  rw[aw]
 rintro _ ⟨t,rfl,t0,t1⟩;refine cL (λs=>a<=s.1.1/\s.1.1<=t/\Sb d s.2.2.1) (λs=>(n-s.1.1).toNat) ⟨cr _,by dsimp only;omega,.refl _⟩ ?_
 rintro⟨⟨i,⟨⟩⟩,⟨⟩,d1,⟨⟩⟩ ⟨o,u,A⟩;have g:=A.len;unfold agc;dsimp only at*;simp(disch:=omega) only [aw];simp[wk];refine⟨λhi=>?_,λhi=>A⟩
 refine dG (by omega) (by omega) λe _ I=>dG (by omega) (by omega) λf _ J=>dG (by omega) (by omega) λw _ x=>dG (by omega) (by grind) λy _ z=>?_
 rw[bX];exact⟨⟨by dsimp only;omega,by dsimp only;omega,(A.set (A.mem _ I)).set (A.mem _ J)⟩,by dsimp only;omega⟩
theorem av1{d:List α}{a b n:Int}(U:Cm cm d)(j:d.length<=1099511627776)(k:0<=a)(Z:a< b)(c:b< n)(l:n<=d.length):
  Wq (bt (aA (Ue cm d b) ((a,b,()),(),())) (agf d a b n)) λr=>Sb d r.2.1:=by
 rw[iE];refine cB (NM (by omega) (by omega) (by omega) λp q h1 h2 m=>?_) ?_
 .unfold Ue;simp only[wk];refine⟨λh=>?_,λ_=>trivial⟩
  rw[uE];refine dG (by omega) (by omega) λe _ I=>dG (by omega) (by omega) λf _ J=>?_
  simp only[wk];refine cB (U _ I _ J) λv _=>⟨λ_=>⟨h,.inl ?_⟩,λ_=>⟨h,.inr trivial⟩⟩
  rw[aw]
 rintro _ ⟨t,rfl,t0,t1⟩;refine cL (λs=>t<=s.1.1/\s.1.1<=b/\Sb d s.2.2.1) (λs=>s.1.1.toNat) ⟨by omega,cr _,.refl _⟩ ?_
 rintro⟨⟨i,⟨⟩⟩,⟨⟩,d1,⟨⟩⟩ ⟨o,u,A⟩;have g:=A.len;unfold age;dsimp only at*;simp[wk];refine⟨λhi=>?_,λhi=>A⟩
 simp(disch:=omega) only [aw];refine dG (by omega) (by omega) λe _ I=>dG (by omega) (by omega) λf _ J=>dG (by omega) (by omega) λw _ x=>dG (by omega) (by rw[fQ];omega) λy _ z=>?_
 rw[bX];exact⟨⟨by dsimp only;omega,by dsimp only;omega,(A.set (A.mem _ I)).set (A.mem _ J)⟩,by dsimp only;omega⟩
theorem avZ{k:Nat}{F:List α->Int->Int->Int->Option (Unit×List α×Int×Int×Int×(Unit×Unit)×Unit)}(hF:BV cm k F){d:List α}{a b n t:Int}(c:Cm cm d)(j:d.length<=1099511627776)(l:0<=a)(e:a< b)(f:b< n)(m:n<=d.length)(o:n-a<=k+1)
  (t1:a<=t:=by omega) (t2:t<=(a+n)/2:=by omega) (t3:t<=b:=by omega) (t4:(a+n)/2+b-t<=n:=by omega):Wq (Uh F d a b n ((t,()),(),())) λr=>Sb d r.2.1:=by
 unfold Uh;rw[uE];simp(disch:=omega) only [aw];simp only[wk];have key:∀d1,Sb d d1->Wq (Ug F a b n _ ((),(),d1,())) _:=λd1 I=>by
  have g:=I.len;unfold Ug;rw[uE];simp only[wk];have key:∀d2,Sb d d2->Wq (Uf F a b n ((t,()),(),()) ((),(),d2,())) λr=>Sb d r.2.1:=λd2 A=>by
   have i:=A.len;unfold Uf;rw[uE];simp only[wk];exact⟨λJ=>⟨λU=>cB (hF d2 _ _ _ (c.sb A) (by omega) (by omega) J U (by omega) (by omega)) λr Z=>A.trans Z,λ_=>A⟩,λ_=>⟨λh=>(by cases h),λ_=>A⟩⟩
  exact⟨λJ=>⟨λU=>cB (hF d1 _ _ _ (c.sb I) (by omega) (by omega) J U (by omega) (by omega)) λr Z=>key _ (I.trans Z),λ_=>key _ I⟩,λ_=>⟨λh=>(by cases h),λ_=>key _ I⟩⟩
 exact⟨λJ=>⟨λU=>cB (auO (by omega) (by omega) J U) λr Z=>key _ Z,λ_=>key _ (.refl _)⟩,λ_=>⟨λh=>(by cases h),λ_=>key _ (.refl _)⟩⟩
theorem aga{k:Nat}{F:List α->Int->Int->Int->Option (Unit×List α×Int×Int×Int×(Unit×Unit)×Unit)}(hF:BV cm k F){d:List α}{a b n A I:Int}(Z:Cm cm d)(c:d.length<=1099511627776)(e:0<=a)(J:a< b)(U:b< n)(f:n<=d.length)(g:n-a<=k+1:=by omega)
  (t1:a<=A:=by omega) (t2:A<=I:=by omega) (t3:I<=(a+n)/2:=by omega) (t4:I<=b:=by omega) (t5:(a+n)/2+b-A<=n:=by omega):Wq (Ud cm F d a b n ((A,I,()),(),())) λr=>Sb d r.2.1:=by
 unfold Ud;dsimp only;rw[iE];refine cB (NM (by omega) (by omega) (by omega) λp q h1 h2 l=>?_) ?_
 .unfold agh;simp only[wk];refine⟨λh=>?_,λ_=>trivial⟩
  rw[uE,uE];simp(disch:=omega) only [aw];refine dG (by omega) (by omega) λm _ i=>dG (by omega) (by omega) λo _ j=>?_
  simp only[wk];exact cB (Z _ i _ j) λv _=>⟨λ_=>⟨h,.inl trivial⟩,λ_=>⟨h,.inr trivial⟩⟩
 rintro _ ⟨t,rfl,s,u⟩;exact avZ hF Z c e J U f g
theorem av3{k:Nat}{F:List α->Int->Int->Int->Option (Unit×List α×Int×Int×Int×(Unit×Unit)×Unit)}(hF:BV cm k F):BV cm (k+1) (Bg cm F):=λd a b n J U Z A I c e=>by
  unfold Bg;rw[uE,aw (n:=(a+n)/2+b),aw (n:=(a+n)/2+b-n),lF,lF,iE];refine⟨λ_=>(iE _ _ _).1 (av0 J U Z A I c),λf=>⟨λ_=>av1 J U Z A I c,λg=>?_⟩⟩
  simp[wk];exact⟨λ_=>aga hF J U Z A I c,λ_=>aga hF J U Z A I c⟩
theorem av2 k:BV cm k (hG (λ_ _ _ _=>none) (λ_ F=>Bg cm F) k):=
 hG (λd a b n J U Z A I c e=>by grind) (λ_ ih=>av3 ih) k
theorem agb{d:List α}{a b n:Int}(J:Cm cm d)(U:d.length<=1099511627776)(Z:0<=a)(A:a< b:=by omega)(I:b< n:=by omega)(c:n<=d.length:=by omega):Wq (FN cm d a b n) λr=>Sb d r.2.1:=
 av2 1099511627776 d a b n J U Z A I c (by omega)
theorem avM{d:List α}{n:Int}(b:Cm cm d)(p:d.length<=1099511627776)(f:0<=n:=by omega)(q:n<=d.length:=by omega):Wq (FI cm d n) λr=>Sb d r.2.1:=by
 unfold FI;rw[iE];refine cB (P:=λr=>∃a d1,r=.inl ((a,()),(),d1,())/\0<=a/\a<=n/\Sb d d1) (cL (λs=>0<=s.1.1/\s.1.1<=n/\s.1.2.1=s.1.1+20/\Sb d s.2.2.1) (λs=>(n-s.1.1).toNat) ⟨cr _,f,rfl,.refl _⟩ ?_) ?_
 .rintro ⟨⟨i,j,⟨⟩⟩,⟨⟩,d1,⟨⟩⟩ ⟨U,g,e,I⟩;have c:=I.len;unfold afY;dsimp only at*;simp only[wk];refine⟨λhi=>cB (Qi (b.sb I) (by omega) U) λr J=>⟨⟨by omega,hi,aw,I.trans J⟩,by omega⟩,λhi=>⟨_,_,rfl,U,g,I⟩⟩
 rintro _ ⟨a,d1,rfl,l,m,I⟩;have c:=I.len;rw[bZ];unfold af2;rw[fG];refine cB (Qi (b.sb I) (by dsimp only;omega) l m (by dsimp only;omega)) λr J=>?_
 refine cL (λs=>20<=s.1.1/\s.1.1<=2199023255552/\Sb d s.2.2.1) (λs=>(n-s.1.1).toNat) ⟨cr _,by simp,I.trans J⟩ ?_
 rintro⟨⟨k,⟨⟩⟩,⟨⟩,d2,⟨⟩⟩ ⟨t,k1,Z⟩;unfold af1;dsimp only at*;simp[wk];refine⟨λu=>?_,λ_=>Z⟩
 rw[aw];refine cL (λs=>0<=s.1.1/\s.1.1<=n/\s.1.2.1=s.1.1+2*k/\Sb d s.2.2.1) (λs=>(n-s.1.1).toNat) ⟨cr _,f,by simp,Z⟩ ?_
 rintro⟨⟨i,j,⟨⟩⟩,⟨⟩,d3,⟨⟩⟩ ⟨U,g,e,A⟩;have o:=A.len;unfold af0 afZ;dsimp only at*;simp(disch:=omega) only [aw];simp only[wk];refine⟨λhi=>?_,λhi=>⟨λh=>?_,λh=>?_⟩⟩
 .exact cB (agb (b.sb A) (by omega) U) λr J=>⟨⟨by omega,hi,trivial,A.trans J⟩,by omega⟩
 .exact cB (agb (b.sb A) (by omega) U (by omega) h) λr J=>⟨⟨by omega,by omega,A.trans J⟩,by omega⟩
 grind
theorem afV{d:List α}(A:Cm cm d)(I:d.length<=1099511627776:=by omega):Wq (LJ cm d) λr=>Sb d r.2.1:=by
 unfold LJ;rw[fG];exact cB (avM A I) λr J=>(jg _ _).2 J
end
theorem ng{α ρ:Type}{l:List α}{i j:Int}{K:α->α->Option ρ}{Q:ρ->Prop}(hi:0<=i)(I:i< l.length)(J:0<=j)(A:j< l.length)(h:∀x∈l,∀y∈l,Wq (K x y) Q):
  Wq (aN l i λx=>aN l j λy=>aN l j λ_=>aN (l.set j.toNat x) i λ_=>K x y) Q:=
 dG hi I λx _ mx=>dG J A λy _ U=>dG J A λ_ _ _=>dG hi (by grind) λ_ _ _=>h x mx y U
theorem n3{α ρ:Type}{cm:α->α->Option Int}{l:List α}{i j:Int}{K:Int->Option ρ}{Q:ρ->Prop}(J:Cm cm l)(hi:0<=i)(A:i< l.length)(U:0<=j)(I:j< l.length)(h:∀v,Wq (K v) Q):
  Wq (aN l i λx=>aN l j λy=>(cm x y).bind K) Q:=
 dG hi A λx _ mx=>dG U I λy _ Z=>(fG _ _ _).2 (cB (J x mx y Z) λv _=>h v)
abbrev mu:=Cm cX
theorem ata{d:List DQ}{a b:Int}(I:mu d)(J:d.length<=1099511627776)(U:0<=a)(A:a<=b)(Z:b<=d.length:=by omega):Wq (R8 d a b) (λr=>Sb d r.2.1):=Qi (cm:=cX) I J U A Z
theorem adB{d:List DQ}{a b f:Int}(Z:mu d)(m:d.length<=1099511627776)(c:0<=a)(U:a<=1099511627776)(hf:0<=f)(o:f+b<=d.length:=by omega)(e:0<=b:=by omega):Wq (Ev d a b f) (λr=>Sb d r.2.1):=by
 unfold Ev;refine cL (λs=>0<=s.1.1/\s.1.1<=1099511627776/\Sb d s.2.2.1) (λs=>(b-s.1.1).toNat) ⟨c,U,.refl _⟩ ?_
 rintro⟨⟨i,⟨⟩⟩,⟨⟩,d1,⟨⟩⟩ ⟨p,q,A⟩;have g:=A.len;have I:=Z.sb A;unfold adA;dsimp only at*;rw[aw (n:=2*i),aw (n:=2*i+1),aw (n:=2*i+1+1),lF,iw,wZ];refine⟨λ_=>(dC _ _).2 A,λhi=>?_⟩
 have key:∀j:Int,i< j->j< b->Wq (Sh a b f ((i,()),(),d1,()) ((j,()),(),())) (jn (λJ=>(0<=J.1.1/\J.1.1<=1099511627776/\Sb d J.2.2.1)/\(b-J.1.1).toNat<(b-i).toNat) λr=>Sb d r.2.1):=λj t k=>by
  unfold Sh;dsimp only;rw[aw (n:=f+i),aw (n:=f+j)];refine n3 I (by omega) (by omega) (by omega) (by omega) λv=>?_
  simp only[wk];refine⟨λ_=>A,λ_=>ng (by omega) (by omega) (by omega) (by omega) λx mx y l=>?_⟩
  rw[bX,bZ];exact⟨⟨by dsimp only;omega,by dsimp only;omega,(A.set (A.mem _ mx)).set (A.mem _ l)⟩,by dsimp only;omega⟩
 simp only[wk];rw[aw (n:=f+(2*i+1))];refine⟨λh=>?_,λ_=>⟨λh=>(by cases h),λ_=>key _ (by omega) hi⟩⟩
 rw[aw (n:=f+(2*i+1)+1)];refine n3 I (by omega) (by omega) (by omega) (by omega) λv=>?_
 simp only[wk];grind
theorem as6{d:List DQ}{a b:Int}(Z:mu d)(l:d.length<=1099511627776:=by omega)(c:0<=a:=by omega)(e:a< b:=by omega)(m:b<=d.length:=by omega):Wq (Kh d a b) (λr=>Sb d r.2.1):=by
 unfold Kh;rw[aw (n:=b-a),aw (n:=b-a-1),o9 (by omega),aw]
 refine cL (λs=> -1<=s.1.1/\s.1.1<=b-a/\Sb d s.2.2.1) (λs=>(s.1.1+1).toNat) ⟨by dsimp only;omega,by dsimp only;omega,.refl _⟩ ?_
 rintro⟨⟨i,⟨⟩⟩,⟨⟩,d1,⟨⟩⟩ ⟨o,p,I⟩;have f:=I.len;unfold ada;dsimp only at*;rw[aw (n:=b-a),aw (n:=b-a-1)];simp only[wk];refine⟨λhi=>cB (adB (Z.sb I) (by omega) hi (by omega) c) λr J=>?_,λhi=>?_⟩
 .rw [aw];exact⟨⟨by omega,by omega,I.trans J⟩,by omega⟩
 refine cL (λs=> -1<=s.1.1/\s.1.1< b-a/\Sb d s.2.2.1) (λs=>(s.1.1+1).toNat) ⟨by dsimp only;omega,by dsimp only;omega,I⟩ ?_
 rintro⟨⟨j,⟨⟩⟩,⟨⟩,d2,⟨⟩⟩ ⟨q,t,A⟩;have g:=A.len;unfold ac9;dsimp only at*;rw[aw (n:=a+j)];simp only[wk];refine⟨λu=>ng (by omega) (by omega) (by omega) (by omega) λx mx y h=>?_,λ_=>A⟩
 have U:=(A.set (i:=a.toNat) (A.mem _ mx)).set (i:=(a+j).toNat) (A.mem _ h);have k:=U.len;rw[fG];refine cB (adB (Z.sb U) (by omega) (by omega) (by omega) c) λr J=>?_
 rw[aw,bX,bZ];exact⟨⟨by dsimp only;omega,by dsimp only;omega,U.trans J⟩,by dsimp only;omega⟩
theorem ath{d:List DQ}{a b:Int}(Z:d.length<=1099511627776:=by omega)(c:0<=a:=by omega)(I:a<=b:=by omega)(e:b<=d.length:=by omega):Wq (Kk d a b) (λr=>Sb d r.2.1):=by
 unfold Kk;rw[aw (n:=b-1)];refine cL (λs=>a<=s.1.1/\s.1.2.1< b/\ -1<=s.1.2.1/\s.1.1<=b+1/\Sb d s.2.2.1) (λs=>(b-s.1.1+1).toNat) ⟨cr _,by dsimp only;omega,by dsimp only;omega,by dsimp only;omega,.refl _⟩ ?_
 rintro⟨⟨i,j,⟨⟩⟩,⟨⟩,d1,⟨⟩⟩ ⟨f,g,h,k,A⟩;have J:=A.len;unfold adz;dsimp only at*;simp[wk];refine⟨λhi=>ng (by omega) (by omega) (by omega) (by omega) λx mx y U=>?_,λ_=>A⟩
 rw[aw,aw,bX];exact⟨⟨by dsimp only;omega,by dsimp only;omega,by dsimp only;omega,by dsimp only;omega,(A.set (A.mem _ mx)).set (A.mem _ U)⟩,by dsimp only;omega⟩
theorem Sa{d:List DQ}{a b s:Int}(J:mu d)(U:0<=a:=by omega)(A:a< d.length:=by omega)(Z:0<=b:=by omega)(I:b< d.length:=by omega):Wq (Es d a b s) (λr=>r.2.1=d/\(r.1=(a,b,())∨r.1=(b,a,()))):=by
 refine n3 J Z I U A λv=>?_
 simp only[wk];simp
theorem adb{d:List DQ}{a b c s lo hi:Int}(I:mu d)(J:0<=lo)(h1:hi<=d.length)(k:lo<=a:=by omega)(Z:a< hi:=by omega)(l:lo<=b:=by omega)(e:b< hi:=by omega)(m:lo<=c:=by omega)(f:c< hi:=by omega):Wq (Er d a b c s) (λr=>r.2.1=d/\lo<=r.1/\r.1< hi):=by
 unfold Er;rw[fG];refine cB (Sa I) λA ⟨g,J⟩=>?_
 rw[fG,g];have i:lo<=A.1.1/\A.1.1< hi/\lo<=A.1.2.1/\A.1.2.1< hi:=by rcases J with h|h<;>rw[h]<;>exact⟨by assumption,by assumption,by assumption,by assumption⟩
 obtain⟨n,o,p,q⟩:=i;refine cB (Sa I) λU ⟨j,h1⟩=>?_
 rw[fG,j];have t:lo<=U.1.1/\U.1.1< hi:=by rcases h1 with h|h<;>rw[h]<;>exact⟨by assumption,by assumption⟩
 refine cB (Sa I) λu ⟨v,h2⟩=>?_
 rw[jg];grind
theorem R9{d:List DQ}{a s lo hi:Int}(A:mu d)(I:0<=lo)(h1:hi<=d.length)(Z:d.length<=1099511627776)(b:lo< a:=by omega)(J:a+1< hi:=by omega):Wq (AH d a s) (λr=>r.2.1=d/\lo<=r.1/\r.1< hi):=by
 unfold AH;rw[fG,aw (n:=a-1),aw (n:=a+1)];exact cB (adb A I h1) λr U=>(jg _ _).2 U
theorem as5{d:List DQ}{a b:Int}(A:mu d)(U:d.length<=1099511627776:=by omega)(I:0<=a:=by omega)(f:a+12< b:=by omega)(J:b<=d.length:=by omega):Wq (Kf d a b) (λr=>r.2.1=d/\a<=r.1.1/\r.1.1< b):=by
 unfold Kf;rw[aw (n:=b-a),o9 (by omega)]
 simp(disch:=omega) only [aw];have k1:∀(p q:Int),a<=p->p< b->Wq (Kg a b ((p,()),(q,()),d,())) (λr=>r.2.1=d/\a<=r.1.1/\r.1.1< b):=λp q h1 h2=>by
  unfold Kg;dsimp only;simp only[wk];exact⟨λ_=>⟨trivial,h1,h2⟩,λ_=>⟨λ_=>⟨trivial,h1,h2⟩,λ_=>⟨trivial,h1,h2⟩⟩⟩
 have g:∀(p q r s:Int),a<=p->p< b->a<=q->q< b->a<=r->r< b->Wq (R7 ((p,q,r,()),(s,()),d,())) (jn (λs=>Wq (Kg a b s) (λr=>r.2.1=d/\a<=r.1.1/\r.1.1< b)) (λr=>r.2.1=d/\a<=r.1.1/\r.1.1< b)):=λp q r s i j k l m o=>by
  unfold R7;dsimp only;rw[fG];refine cB (adb A I J i j k l m o) λy ⟨e,Z,c⟩=>?_
  rw[bX,bZ,e];simp[k1,Z,c]
 simp only[wk];refine⟨λ_=>⟨λt=>?_,λ_=>g _ _ _ _ (by omega) (by omega) (by omega) (by omega) (by omega) (by omega)⟩,λh=>k1 _ _ (by omega) (by omega)⟩
 refine cB (R9 A I J U) λB ⟨u,C,v⟩=>?_
 rw[u];refine cB (R9 A I J U) λZ ⟨w,h1,x⟩=>?_
 rw[w];refine cB (R9 A I J U) λc ⟨D,h2,z⟩=>?_
 grind
theorem WG{n:Nat}(A:0< n)(h1:n< 4294967296):∃k:Nat,vZ (wu (n))=ab (k:Int)/\k<=32/\n< 2^k/\2^k<=2*n:=by
 obtain⟨k,e,k1,k2,I,J⟩:=Ra A h1;refine⟨k,?_,k2,I,?_⟩
 .unfold vZ G9 WE;rw[bO,NN,dh (x:=4294967296)];exact e
 obtain⟨m,rfl⟩:∃m,k=m+1:=⟨k-1,by omega⟩
 grind
theorem asx{n:Nat}(A:0< n:=by omega)(h1:n< 4294967296:=by omega):∃m:Nat,LH (n)=ab (m:Int)/\n< m/\m<=2*n:=by
 obtain⟨k,e,k1,k2,I⟩:=WG A h1;refine⟨2^k,?_,k2,I⟩;unfold LH;rw[e,ah,bc,au,Int.one_mul,cU,show Nat.min k 64=k from Nat.min_eq_left (by omega)]
 have J:((2^k:Nat):Int)=2^k:=Int.natCast_pow 2 k;rw[<-J,bO]
theorem aji a{n:Int}(A:0<=n)(h1:n< 4294967296*2):0<=w (wu (((word .u64 a).land (word .u64 (wu n)))))/\w (wu (((word .u64 a).land (word .u64 (wu n)))))<=n:=by
 obtain⟨m,rfl⟩:=fP A;have h2:(word .u64 a).land (word .u64 (wu m))<=m:=by
  rw[bO,Bu];exact Nat.and_le_right
 rw[bO,aw];omega
theorem as4{d:List DQ}{a b:Int}(g:d.length< 4294967296:=by omega)(h:0<=a:=by omega)(U:a+12< b:=by omega)(k:b<=d.length:=by omega):Wq (Ke d a b) (λr=>Sb d r.2.1):=by
 unfold Ke;rw[aw (n:=b-a),o9 (by omega)]
 rw[aw (n:=(b-a)/4),aw (n:=(b-a)/4*2),aw (n:=a+(b-a)/4*2),aw (n:=a+(b-a)/4*2-1)];have I:∃n:Nat,b-a=(n:Int):=fP (by omega)
 obtain⟨n,I⟩:=I;obtain⟨m,e,l,o⟩:=asx (n:=n);rw[I,e];simp only[wk];refine⟨λ_=>?_,λ_=>.refl _⟩
 refine cL (λs=>a+(n:Int)/4*2-1<=s.1.1/\s.1.1<=a+(n:Int)/4*2+2/\Sb d s.2.2.1) (λs=>(a+(n:Int)/4*2+2-s.1.1).toNat) ⟨cr _,by dsimp only;omega,.refl _⟩ ?_
 rintro⟨⟨i,⟨⟩⟩,⟨⟨r,⟨⟩⟩,⟨d1,⟨⟩⟩⟩⟩ ⟨p,t,A⟩;have Z:=A.len;unfold ac8;dsimp only at*;rw[I,aw (n:=(n:Int)),o9 (by omega)]
 rw[aw (n:=(n:Int)/4),aw (n:=(n:Int)/4*2),aw (n:=a+(n:Int)/4*2),aw (n:=a+(n:Int)/4*2+1)];rw[lF,iw,wZ];refine⟨λhi=>?_,λ_=>(dC _ _).2 A⟩
 generalize u:w (wu (((word .u64 _).land _:Nat):Int))=q;have c:=aji (wu ↑((word .u64 (wu ↑((word .u64 (wu ↑((word .u64 r).xor (word .u64 (wu (r*8192)))))).xor (word .u64 ((wu ↑((word .u64 r).xor (word .u64 (wu (r*8192))))).fdiv 128))))).xor (word .u64 (wu (wu ↑((word .u64 (wu ↑((word .u64 r).xor (word .u64 (wu (r*8192)))))).xor (word .u64 ((wu ↑((word .u64 r).xor (word .u64 (wu (r*8192))))).fdiv 128)))*131072))))) (n:=(m:Int)-1) (by omega) (by omega)
 have key:∀j:Int,0<=j->j< n->Wq (R6 a ((i,()),(r,()),d1,()) ((j,()),(),())) (jn (λJ=>(a+(n:Int)/4*2-1<=J.1.1/\J.1.1<=a+(n:Int)/4*2+2/\Sb d J.2.2.1)/\(a+(n:Int)/4*2+2-J.1.1).toNat<(a+(n:Int)/4*2+2-i).toNat) λr=>Sb d r.2.1):=λj v z=>by
  unfold R6;dsimp only;rw[aw (n:=a+j)];refine ng (by omega) (by omega) (by omega) (by omega) λx mx y f=>?_
  rw[bX,bZ,aw (n:=i+1)];exact⟨⟨by dsimp only;omega,by dsimp only;omega,(A.set (A.mem _ mx)).set (A.mem _ f)⟩,by dsimp only;omega⟩
 simp only[wk];rw[aw (n:=q-n)];grind
theorem atc{d:List DQ}{a b:Int}(f:mu d)(z:d.length<=1099511627776:=by omega)(B:0<=a:=by omega)(m:a< b:=by omega)(C:b<=d.length:=by omega):Wq (Kj d a b) (λr=>Sb d r.2.1):=by
 unfold Kj;rw[aw (n:=a+1)];refine cL (λs=>a+1<=s.1.1/\s.1.1<=b/\0<=s.1.2.1/\s.1.2.1<=5/\Sb d s.2.2.1) (λs=>(5-s.1.2.1).toNat) ⟨cr _,by dsimp only;omega,cr _,by simp,.refl _⟩ ?_
 rintro⟨⟨i,k,⟨⟩⟩,⟨⟩,d1,⟨⟩⟩ ⟨o,p,D,k1,I⟩;have q:=I.len;unfold adn;dsimp only at*;simp only[wk];refine⟨λE=>?_,λ_=>I⟩
 refine cB (P:=λr=>∃t,r=.inl ((t,()),(),())/\a+1<=t/\t<=b) (cL (λs=>a+1<=s.1.1/\s.1.1<=b) (λs=>(b-s.1.1).toNat) ⟨o,p⟩ ?_) ?_
 .rintro ⟨⟨j,⟨⟩⟩,⟨⟩,⟨⟩⟩ ⟨c,e⟩;unfold adj;dsimp only at*;simp only[wk];refine⟨λl=>?_,λ_=>⟨λh=>(by cases h),λ_=>⟨_,rfl,c,e⟩⟩⟩
  rw[aw (n:=j-1)];refine n3 (f.sb I) (by omega) (by omega) (by omega) (by omega) λv=>?_
  simp only[wk];refine⟨λ_=>?_,λ_=>⟨_,rfl,c,e⟩⟩
  rw[aw (n:=j+1)];omega
 rintro _ ⟨t,rfl,t0,t1⟩;rw[bZ];unfold adm;dsimp only;rw[aw (n:=t-1),aw (n:=t-a)];simp only[wk];refine⟨λ_=>I,λF=>⟨λ_=>I,λ_=>?_⟩⟩
 refine ng (by omega) (by omega) (by omega) (by omega) λx mx y U=>?_
 have h2:=(I.set (i:=t.toNat) (I.mem _ mx)).set (i:=(t-1).toNat) (I.mem _ U);have u:=h2.len;have key:∀d3,Sb d d3->Wq (Sc b ((i,k,()),(),d1,()) ((t,()),(),()) ((),(),d3,())) (jn (λJ=>(a+1<=J.1.1/\J.1.1<=b/\0<=J.1.2.1/\J.1.2.1<=5/\Sb d J.2.2.1)/\(5-J.1.2.1).toNat<(5-k).toNat) λr=>Sb d r.2.1):=λd3 Z=>by
  have w:=Z.len;unfold Sc;dsimp only;rw[aw (n:=k+1),aw (n:=t+1)];simp only[wk];refine⟨λ_=>?_,λ_=>⟨⟨t0,t1,by omega,by omega,Z⟩,by omega⟩⟩
  refine cL (λs=>t+1<=s.1.1/\s.1.1<=b+1/\Sb d s.2.2.1) (λs=>(b+1-s.1.1).toNat) ⟨cr _,by dsimp only;omega,Z⟩ ?_
  rintro⟨⟨j,⟨⟩⟩,⟨⟩,d4,⟨⟩⟩ ⟨c,e,A⟩;have g:=A.len;unfold adl;dsimp only at*;rw[aw (n:=k+1)];simp only[wk];refine⟨λl=>?_,λ_=>⟨⟨t0,t1,by omega,by omega,A⟩,by omega⟩⟩
  rw[aw (n:=j-1)];refine n3 (f.sb A) (by omega) (by omega) (by omega) (by omega) λv=>?_
  simp only[wk];refine⟨λ_=>⟨⟨t0,t1,by omega,by omega,A⟩,by omega⟩,λ_=>?_⟩
  refine ng (by omega) (by omega) (by omega) (by omega) λx mx y U=>?_
  rw[bX,bZ,aw (n:=j+1)];exact⟨⟨by dsimp only;omega,by dsimp only;omega,(A.set (A.mem _ mx)).set (A.mem _ U)⟩,by dsimp only;omega⟩
 simp only[wk];refine⟨λ_=>?_,λ_=>key _ h2⟩
 refine cB (P:=λr=>∃d3,r=.inl ((),(),d3,())/\Sb d d3) (cL (λs=>0<=s.1.1/\s.1.1< t/\Sb d s.2.2.1) (λs=>s.1.1.toNat) ⟨by dsimp only;omega,by dsimp only;omega,h2⟩ ?_) ?_
 .rintro ⟨⟨j,⟨⟩⟩,⟨⟩,d4,⟨⟩⟩ ⟨c,e,A⟩;have g:=A.len;unfold adk;dsimp only at*;simp only[wk];refine⟨λl=>?_,λ_=>⟨_,rfl,A⟩⟩
  rw[aw (n:=j-1)];refine n3 (f.sb A) (by omega) (by omega) (by omega) (by omega) λv=>?_
  simp only[wk];refine⟨λ_=>⟨_,rfl,A⟩,λ_=>?_⟩
  refine ng (by omega) (by omega) (by omega) (by omega) λx mx y U=>?_
  rw[bX,bZ];exact⟨⟨by dsimp only;omega,by dsimp only;omega,(A.set (A.mem _ mx)).set (A.mem _ U)⟩,by dsimp only;omega⟩
 rintro _ ⟨d3,rfl,Z⟩;exact key _ Z
theorem TL{ρ:Type}{step:(Int×Unit)×Unit×Unit->Option ((Int×Unit)×Unit×Unit⊕(Int×Unit)×Unit×Unit⊕ρ)}{i:Int} j
  (h:∀p,i<=p->p<=j+1∨p=i->Wq (step ((p,()),(),())) (jn (λs=>p<=j/\s=((p+1,()),(),())) λr=>r=.inl ((p,()),(),()))):
  Wq (aA step ((i,()),(),())) λr=>∃t,r=.inl ((t,()),(),())/\i<=t/\(t<=j+1∨t=i):=by
 refine cL (λs=>i<=s.1.1/\(s.1.1<=j+1∨s.1.1=i)) (λs=>(j+1-s.1.1).toNat) ⟨cr _,.inr rfl⟩ ?_
 rintro⟨⟨p,⟨⟩⟩,⟨⟩,⟨⟩⟩ ⟨p0,A⟩;dsimp only at p0 A;refine cB (h p p0 A) λr I=>?_
 rcases r with s|r
 .obtain ⟨hp,rfl⟩:=I;exact⟨⟨by dsimp only;omega,by dsimp only;omega⟩,by dsimp only;omega⟩
 cases I;exact⟨p,rfl,p0,A⟩
theorem TJ{ρ:Type}{step:(Int×Unit)×Unit×Unit->Option ((Int×Unit)×Unit×Unit⊕(Int×Unit)×Unit×Unit⊕ρ)} i{j:Int}
  (h:∀p,p<=j->i<=p+1∨p=j->Wq (step ((p,()),(),())) (jn (λs=>i<=p/\s=((p-1,()),(),())) λr=>r=.inl ((p,()),(),()))):
  Wq (aA step ((j,()),(),())) λr=>∃t,r=.inl ((t,()),(),())/\t<=j/\(i<=t+1∨t=j):=by
 refine cL (λs=>s.1.1<=j/\(i<=s.1.1+1∨s.1.1=j)) (λs=>(s.1.1+1-i).toNat) ⟨cr _,.inr rfl⟩ ?_
 rintro⟨⟨p,⟨⟩⟩,⟨⟩,⟨⟩⟩ ⟨p0,A⟩;dsimp only at p0 A;refine cB (h p p0 A) λr I=>?_
 rcases r with s|r
 .obtain ⟨hp,rfl⟩:=I;exact⟨⟨by dsimp only;omega,by dsimp only;omega⟩,by dsimp only;omega⟩
 cases I;exact⟨p,rfl,p0,A⟩
theorem atb{d:List DQ}{a b p:Int}(Z:mu d)(l:d.length<=1099511627776)(m:0<=a)(c:a< b)(o:b<=d.length)(hp:a<=p)(e:p< b):Wq (Ki d a b p) (λr=>Sb d r.2.1/\a< r.1/\r.1<=b):=by
 refine ng (by omega) (by omega) (by omega) (by omega) λx mx y J=>?_
 rw[aw (n:=a+1),aw (n:=b-1)];refine cL (λs=>a+1<=s.1.1/\s.1.1<=b/\s.1.2.1<=b-1/\a<=s.1.2.1/\Sb d s.2.2.1) (λs=>(s.1.2.1+2-s.1.1).toNat) ⟨cr _,by dsimp only;omega,cr _,by dsimp only;omega,((Sb.refl d).set mx).set J⟩ ?_
 rintro⟨⟨i,j,⟨⟩⟩,⟨⟩,d1,⟨⟩⟩ ⟨w,z,B,C,A⟩;have f:=A.len;have I:=Z.sb A;unfold adi;dsimp only at*;rw[iE];refine cB (TL j λq g k=>?_) ?_
 .unfold ade;simp only[wk];refine⟨λU=>?_,λ_=>⟨λh=>(by cases h),λ_=>trivial⟩⟩
  refine n3 I (by omega) (by omega) (by omega) (by omega) λv=>?_
  simp only[wk];exact⟨λ_=>⟨U,by rw[aw]⟩,λ_=>trivial⟩
 rintro _ ⟨t,rfl,t0,t1⟩;rw[bZ];unfold adh;dsimp only;rw[iE];refine cB (TJ t λq g k=>?_) ?_
 .unfold adf;simp only[wk];refine⟨λU=>?_,λ_=>⟨λh=>(by cases h),λ_=>trivial⟩⟩
  refine n3 I (by omega) (by omega) (by omega) (by omega) λv=>?_
  simp only[wk];exact⟨λ_=>⟨U,by rw[aw]⟩,λ_=>trivial⟩
 rintro _ ⟨u,rfl,D,E⟩;unfold adg;simp[wk];refine⟨λ_=>⟨A,by omega,by omega⟩,λh=>ng (by omega) (by omega) (by omega) (by omega) λx mx y J=>?_⟩
 rw[bX,aw (n:=t+1),aw (n:=u-1)];exact⟨⟨by dsimp only;omega,by dsimp only;omega,by dsimp only;omega,by dsimp only;omega,(A.set (A.mem _ mx)).set (A.mem _ J)⟩,by dsimp only;omega⟩
theorem atg{d:List DQ}{a b p:Int}(g:mu d)(C:d.length<=1099511627776)(D:0<=a)(m:a< b)(E:b<=d.length)(hp:a<=p)(o:p< b):Wq (Eu d a b p) (λr=>Sb d r.2.1/\a<=r.1.1/\r.1.1< b):=by
 unfold Eu;refine ng (by omega) (by omega) (by omega) (by omega) λx mx y I=>?_
 have h1:=((Sb.refl d).set (i:=a.toNat) mx).set (i:=p.toNat) I;have Z:=h1.len;have A:=g.sb h1;rw[aw (n:=a+1),iE];refine cB (TL (b-1) λq e f=>?_) ?_
 .unfold adp;dsimp only;rw[aw (n:=b-1)];simp only[wk];refine⟨λJ=>?_,λ_=>⟨λh=>(by cases h),λ_=>trivial⟩⟩
  refine n3 A (by omega) (by omega) (by omega) (by omega) λv=>?_
  simp only[wk];exact⟨λ_=>⟨J,by rw[aw]⟩,λ_=>trivial⟩
 rintro _ ⟨t,rfl,t0,t1⟩;rw[bZ];unfold ady;rw[aw (n:=b-1),iE];refine cB (TJ t λq e f=>?_) ?_
 .unfold adq;dsimp only;simp only[wk];refine⟨λJ=>?_,λ_=>⟨λh=>(by cases h),λ_=>trivial⟩⟩
  refine n3 A (by omega) (by omega) (by omega) (by omega) λv=>?_
  simp only[wk];exact⟨λ_=>⟨J,by rw[aw]⟩,λ_=>trivial⟩
 rintro _ ⟨u,rfl,w,z⟩;rw[bZ];unfold adx;dsimp only;generalize(d.set a.toNat x).set p.toNat y=d1 at h1 Z A|-;rw[lF,cZ,jt];refine⟨λh=>ng (by omega) (by omega) (by omega) (by omega) λx mx y I=>?_,λh=>ng (by omega) (by omega) (by omega) (by omega) λx mx y I=>?_⟩
 .rw [jg];exact⟨(h1.set (h1.mem _ mx)).set (h1.mem _ I),by dsimp only;omega,by dsimp only;omega⟩
 rw[aw (n:=t+1),aw (n:=u-1),iE];refine cB (P:=λr=>∃j d3,r=.inl ((j,()),(),d3,())/\a<=j/\j< b/\Sb d d3) (cL (λs=>a+1<=s.1.1/\s.1.1<=b/\s.1.2.1<=b-1/\a<=s.1.2.1/\Sb d s.2.2.1) (λs=>(s.1.2.1+2-s.1.1).toNat) ⟨by dsimp only;omega,by dsimp only;omega,by dsimp only;omega,by dsimp only;omega,(h1.set (i:=t.toNat) (h1.mem _ mx)).set (i:=u.toNat) (h1.mem _ I)⟩ ?_) ?_
 .rintro ⟨⟨i,j,⟨⟩⟩,⟨⟩,d1,⟨⟩⟩ ⟨F,G,k,l,U⟩;have Z:=U.len;have A:=g.sb U;unfold adv;dsimp only at*;rw[iE];refine cB (TL j λq e f=>?_) ?_
  .unfold adr;dsimp only;simp only[wk];refine⟨λJ=>?_,λ_=>⟨λh=>(by cases h),λ_=>trivial⟩⟩
   refine n3 A (by omega) (by omega) (by omega) (by omega) λv=>?_
   simp only[wk];exact⟨λ_=>⟨J,by rw[aw]⟩,λ_=>trivial⟩
  rintro _ ⟨t,rfl,t0,t1⟩;rw[bZ];unfold adu;dsimp only;rw[iE];refine cB (TJ t λq e f=>?_) ?_
  .unfold ads;dsimp only;simp only[wk];refine⟨λJ=>?_,λ_=>⟨λh=>(by cases h),λ_=>trivial⟩⟩
   refine n3 A (by omega) (by omega) (by omega) (by omega) λv=>?_
   simp only[wk];exact⟨λ_=>⟨J,by rw[aw]⟩,λ_=>trivial⟩
  rintro _ ⟨u,rfl,w,z⟩;rw[bZ];unfold adt;dsimp only;simp only[wk];refine⟨λ_=>⟨_,_,rfl,by omega,by omega,U⟩,λh=>ng (by omega) (by omega) (by omega) (by omega) λx mx y I=>?_⟩
  rw[bX,bZ,aw (n:=t+1),aw (n:=u-1)];exact⟨⟨by dsimp only;omega,by dsimp only;omega,by dsimp only;omega,by dsimp only;omega,(U.set (U.mem _ mx)).set (U.mem _ I)⟩,by dsimp only;omega⟩
 rintro _ ⟨j,d3,rfl,l,k,c⟩;have B:=c.len;rw[bZ];unfold adw;dsimp only;refine ng (by omega) (by omega) (by omega) (by omega) λx mx y I=>?_
 rw[jg];exact⟨(c.set (c.mem _ mx)).set (c.mem _ I),l,k⟩
def MU(k:Nat)(F:List DQ->Int->Int->Int->Option (Unit×List DQ×Int×Int×Int×(Unit×Unit)×Unit)):=∀d (a b l:Int),mu d->d.length< 4294967296->0<=a->a<=b->b<=d.length->b-a< k->Wq (F d a b l) λr=>Sb d r.2.1
theorem atf{k:Nat}{F:List DQ->Int->Int->Int->Option (Unit×List DQ×Int×Int×Int×(Unit×Unit)×Unit)}(hF:MU k F):MU (k+1) (Et F):=λd a b l U Y ha x hb hk=>by
 unfold Et;refine cL (λs=>a<=s.1.1/\s.1.1<=s.1.2.1/\s.1.2.1<=b/\Sb d s.2.2.1) (λs=>(s.1.2.1-s.1.1).toNat) ⟨cr _,x,cr _,.refl _⟩ ?_
 rintro⟨⟨J,b',B,u,v,⟨⟩⟩,⟨⟩,d1,⟨⟩⟩ ⟨L,M,b0,i⟩;have N:=i.len;unfold ado;dsimp only at*;rw[aw (n:=b'-J)];simp only[wk];refine⟨λ_=>cB (ata (U.sb i) (by omega) (by omega) M) λr Z=>i.trans Z,λO=>⟨λ_=>cB (as6 (U.sb i)) λr Z=>i.trans Z,λ_=>?_⟩⟩
 have key:∀(m:Int) (d2:List DQ),Sb d d2->Wq (Sg F a b l ((J,b',B,u,v,()),(),d1,()) ((m,()),(),d2,())) (jn (λA=>(a<=A.1.1/\A.1.1<=A.1.2.1/\A.1.2.1<=b/\Sb d A.2.2.1)/\(A.1.2.1-A.1.1).toNat<(b'-J).toNat) λr=>Sb d r.2.1):=λm d2 h2=>by
  have P:=h2.len;unfold Sg;dsimp only;rw[fG];refine cB (as5 (U.sb h2)) λy ⟨e,Q,R⟩=>?_
  rw[e];have c:∀(q h:Int) (d3:List DQ),Sb d d3->J<=q->q< b'->Wq (Sf F a b l ((J,b',B,u,v,()),(),d1,()) ((m,()),(),d2,()) ((q,h,()),(),d3,())) (jn (λA=>(a<=A.1.1/\A.1.1<=A.1.2.1/\A.1.2.1<=b/\Sb d A.2.2.1)/\(A.1.2.1-A.1.1).toNat<(b'-J).toNat) λr=>Sb d r.2.1):=λq h d3 o G H=>by
   have S:=o.len;unfold Sf;dsimp only;have f:∀(d4:List DQ),Sb d d4->Wq (Se F ((J,b',B,u,v,()),(),d1,()) ((m,()),(),d2,()) ((q,h,()),(),d3,()) ((),(),d4,())) (jn (λA=>(a<=A.1.1/\A.1.1<=A.1.2.1/\A.1.2.1<=b/\Sb d A.2.2.1)/\(A.1.2.1-A.1.1).toNat<(b'-J).toNat) λr=>Sb d r.2.1):=λd4 j=>by
    have T:=j.len;unfold Se;dsimp only;have kA:Wq ((Ki d4 J b' q).bind λp=>aB (ρ:=Unit×List DQ×Int×Int×Int×(Unit×Unit)×Unit) ((p.1,b',m,u,v,()),(),p.2.1,())) (jn (λA=>(a<=A.1.1/\A.1.1<=A.1.2.1/\A.1.2.1<=b/\Sb d A.2.2.1)/\(A.1.2.1-A.1.1).toNat<(b'-J).toNat) λr=>Sb d r.2.1):=by
     rw[fG];refine cB (atb (U.sb j) (by omega) (by omega) (by omega) (by omega) G H) λy ⟨g,C,V⟩=>?_
     rw[bX,bZ];exact⟨⟨by dsimp only;omega,by omega,b0,j.trans g⟩,by dsimp only;omega⟩
    have kB:Wq ((Eu d4 J b' q).bind λI=>bif ak (w (I.1.1-J)) (w (b'-I.1.1))then(F I.2.1 J I.1.1 m).bind λD=>aB (ρ:=Unit×List DQ×Int×Int×Int×(Unit×Unit)×Unit) ((w (I.1.1+1),b',m,ai (w ((w (b'-J)).tdiv 8)) (w (I.1.1-J)),I.1.2.1,()),(),D.2.1,())else(F I.2.1 (w (I.1.1+1)) b' m).bind λE=>aB ((J,I.1.1,m,ai (w ((w (b'-J)).tdiv 8)) (w (b'-I.1.1)),I.1.2.1,()),(),E.2.1,())) (jn (λA=>(a<=A.1.1/\A.1.1<=A.1.2.1/\A.1.2.1<=b/\Sb d A.2.2.1)/\(A.1.2.1-A.1.1).toNat<(b'-J).toNat) λr=>Sb d r.2.1):=by
     rw[fG];refine cB (atg (U.sb j) (by omega) (by omega) (by omega) (by omega) G H) λy ⟨g,C,V⟩=>?_
     have t:=j.trans g;have W:=t.len;rw[aw (n:=y.1.1+1),lF,fG,fG];refine⟨λ_=>cB (hF _ _ _ _ (U.sb t) (by omega) (by omega) C (by omega) (by omega)) λr Z=>?_,λ_=>cB (hF _ _ _ _ (U.sb t) (by omega) (by omega) (by omega) (by omega) (by omega)) λr Z=>?_⟩
     .rw [bX,bZ];exact⟨⟨by dsimp only;omega,by dsimp only;omega,b0,t.trans Z⟩,by dsimp only;omega⟩
     rw[bX,bZ];exact⟨⟨L,C,by dsimp only;omega,t.trans Z⟩,by dsimp only;omega⟩
    rw[fG,FX,cZ,jt];refine⟨λh=>?_,λ_=>kB⟩
    rw[aw (n:=J-1)];refine n3 (U.sb j) (by omega) (by omega) (by omega) (by omega) λv=>?_
    simp_all[jg,lF,kA,kB]
   rw[iE,cO,ah,cO,ah,lF,fG,bX,bZ];refine⟨λ_=>cB (atc (U.sb o)) λy K=>?_,λ_=>f _ o⟩
   rw[lF,dC,bX,bZ,lr,lr];exact⟨λ_=>o.trans K,λ_=>f _ (o.trans K)⟩
  rw[iE,lF,fG,bX,bZ];refine⟨λ_=>cB (ath) λz X=>?_,λ_=>c _ _ _ h2 Q R⟩
  rw[bX,bZ,aw (n:=b'-1),aw (n:=y.1.1-J),aw];exact c _ _ _ (h2.trans X) (by omega) (by omega)
 exact⟨λ_=>cB (as4) λr Z=>key _ _ (i.trans Z),λ_=>key _ _ i⟩
theorem atd k:MU k (hG (λ_ _ _ _=>none) (λ_ F=>Et F) k):=
 hG (λd a b l I J U A Z c=>by grind) (λ_ ih=>atf ih) k
theorem ate{d:List DQ}{a b l:Int}(I:mu d)(J:d.length< 4294967296)(U:0<=a:=by omega)(A:a<=b:=by omega)(Z:b<=d.length:=by omega):Wq (Sd d a b l) λr=>Sb d r.2.1:=
 atd 1099511627776 d a b l I J U A Z (by omega)
theorem ajH:vZ (wu ((0:Nat)))=ab 0:=by kernel_rfl
theorem ati{d:List DQ}(I:mu d)(A:d.length< 4294967296:=by omega):Wq (Kl d) λr=>Sb d r.2.1:=by
 unfold Kl;have J:∃k:Int,vZ (wu d.length)=ab k:=by
  by_cases Z:d.length=0
  .grind[ajH]
  obtain⟨k,e,_⟩:=WG (n:=d.length) (by omega) A
  simp[e]
 obtain⟨k,e⟩:=J;rw[e,ah,fG];exact cB (ate I A) λr U=>(jg _ _).2 U
theorem SG{n d:Int}{k:Nat}(A:d≠0)(I:(n.natAbs:Int)< 4294967296^k)(J:(d.natAbs:Int)< 4294967296^k):QS k (Rat.divInt n d):=by
 have:=zt n d A;exact⟨by omega,by omega⟩
theorem L3{x y:DQ}{k m:Nat}(A:bp k x)(I:bp m y)(J:1<=k/\k<=mid:=by omega)(hm:1<=m/\m<=mid:=by omega):Wq (lB x y) (bp (k+m+1)):=
 ⟨_,EM (A.mono J.2) (I.mono hm.2),fo (EP (eI A J.1) (eI I hm.1))⟩
theorem UC{x y:DQ}{k m:Nat}(A:bp k x)(I:bp m y)(J:1<=k/\k<=mid:=by omega)(hm:1<=m/\m<=mid:=by omega):Wq (uU x y) (bp (k+m+1)):=
 ⟨_,aea (A.mono J.2) (I.mono hm.2),fo (aee (eI A J.1) (eI I hm.1))⟩
theorem L4{x y:DQ}{k m:Nat}(A:bp k x)(I:bp m y)(J:1<=k/\k<=mid:=by omega)(hm:1<=m/\m<=mid:=by omega):Wq (oR x y) (bp (k+m)):=
 ⟨_,EO (A.mono J.2) (I.mono hm.2),fo (pV (eI A J.1) (eI I hm.1))⟩
theorem iC{x y:DQ}{k m:Nat}(A:bp k x)(I:bp m y)(J:k<=mid:=by omega)(hm:m<=mid:=by omega):Wq (cX x y) λv=> -1<=v/\v<=1:=
 ⟨_,sH (A.mono J) (I.mono hm),by
  grind⟩
theorem L5{x:DQ}{k:Nat}(A:bp k x)(I:1<=k/\k<=mid:=by omega):Wq (jc x) (bp k):=
 ⟨_,nV (A.mono (b8 I.2 (by simp[mid,aP]))),l6 A I.1⟩
theorem iD{x:Int}(h:x.natAbs< 4294967296:=by omega):Wq (eM x) (bp 1):=⟨_,xw,fo (AQ)⟩
theorem XC{n:Int}(h:n.natAbs< 18446744073709551616:=by omega):(n.natAbs:Int)< 4294967296^2:=by
 omega
theorem agQ{k:Nat}:cM k (nz 0):=⟨eG _,bH _⟩
theorem pU{k:Nat}:bp k ((af,[],()),(af,[],()),()):=⟨agQ,agQ⟩
theorem agE{n d:Int}(A:n.natAbs< 9223372036854775808)(I:d.natAbs< 9223372036854775808):Wq (xF n d) (λr=>bp 2 r.1):=by
 refine⟨_,ad9,?_⟩;split
 .exact pU
 rename_i h;exact fo (SG h (XC) (XC))
theorem awx{x y:DZ}{k:Nat}(A:cM k x)(I:cM k y)(J:k<=aP)(U:zv y≠0):Wq (sM x y) (bp k):=
 ⟨_,EN (A.mono J) (I.mono J) U,fo (SG U A.lt I.lt)⟩
theorem awz{x y:DZ}{k:Nat}(A:cM k x)(I:cM k y)(J:k<=aP):Wq (xG x y) (λr=>bp k r.1):=by
 refine⟨_,SE (A.mono J) (I.mono J),?_⟩;split
 .exact pU
 rename_i h;exact fo (SG h A.lt I.lt)
theorem aww{x y:DQ}{k m:Nat}(I:bp k x)(J:bp m y)(U:1<=k/\k<=mid)(hm:1<=m/\m<=mid):Wq (uV x y) (λr=>cM (k+m) r.1/\cM (k+m) r.2.1/\cM (k+m) r.2.2.1/\0< zv r.2.2.1):=by
 have A:=eI I U.1;have sy:=eI J hm.1;refine⟨_,KA (I.mono U.2) (J.mono hm.2),dA (ft A.1 (fD sy)),dA (by rw[Nat.add_comm];exact ft sy.1 (fD A)),dA (ft (fD A) (fD sy)),?_⟩
 rw[bL];have h1:=(qv x).den_pos;have h2:=(qv y).den_pos;exact Int.mul_pos (by omega) (by omega)
theorem awy{x y:DQ}{k m:Nat}(J:bp k x)(U:bp m y)(Z:1<=k/\k<=mid:=by omega)(hm:1<=m/\m<=mid:=by omega):Wq (Lc x y) (bp (k+m+1)):=by
 unfold Lc;rw[fG];refine cB (aww J U Z hm) λr ⟨h1,h2,I,a⟩=>?_
 have A:k+m<=half:=by grind[mid,half]
 rw[Mh (h1.mono A) (h2.mono A),ah,Mh (I.mono A) (I.mono A),ah,NN];exact awx (dA (u6 h1.lt h2.lt)) (dA (u6 I.lt I.lt)) (by unfold half at A;grind[aP]) (by grind[bL])
theorem awA{x y:DQ}{k m:Nat}(I:bp k x)(J:bp m y)(U:1<=k/\k<=mid:=by omega)(hm:1<=m/\m<=mid:=by omega):Wq (Ld x y) (λr=>bp (k+m) r.1):=by
 unfold Ld;rw[fG];refine cB (L5 I U) λa h1=>?_
 rw[fG];refine cB (L5 J hm) λb h2=>?_
 have A:k<=half/\m<=half:=by grind[mid,half]
 rw[vd (h1.1.mono A.1) (h2.2.mono A.2),ah,vd (h1.2.mono A.1) (h2.1.mono A.2),ah,fG];refine cB (awz (dA (ft h1.1.lt h2.2.lt)) (dA (ft h1.2.lt h2.1.lt)) (by grind[mid,aP])) λr Z=>(jg _ _).2 Z
theorem nO:100000<=mid:=by simp[mid]
theorem IG{x:List aJ}(I:x.length<=1000000):Wq (zX x) (λb=>b=ag->∀p∈x,br p=ag):=by
 refine cL (λs=>0<=s.1.1/\s.1.1<=(x.length:Int)/\∀p∈x.take s.1.1.toNat,br p=ag) (λs=>((x.length:Int)-s.1.1).toNat) ⟨cr _,by simp,λp hp=>by cases hp⟩ ?_
 rintro⟨⟨i,⟨⟩⟩,⟨⟩,⟨⟩⟩ ⟨A,J,h⟩;unfold aan;dsimp only at*;simp only[wk];refine⟨λhi=>?_,λhi _ p hp=>h p (by rw[rG (by omega)];omega)⟩
 refine gz A hi λy e _=>?_
 unfold Qr;rw[p9,ah,ah,lF];refine⟨λ_=>(dC _ _).2 λh=>?_,λU=>?_⟩
 .simp_all[bV,A]
 rw[bX,aw];refine⟨⟨by dsimp only;omega,by dsimp only;omega,λp hp=>?_⟩,by dsimp only;omega⟩
 rw[show(i+1).toNat=i.toNat+1 by omega,yD]at hp
 grind
theorem Hd{n d:Int}(A:n.natAbs< 9223372036854775808:=by omega)(I:d.natAbs< 9223372036854775808:=by omega):Wq (zW n d) (bp 2):=by
 exact wB (agE A I) λr J=>wS J
theorem GW{a b:Int}{t:DQ}{k:Nat}(c:a.natAbs<=1048576)(d:b.natAbs<=1048576)(A:bp k t)(h1:1<=k:=by omega)(e:k<=1000:=by omega):Wq (wO a b t) (bp (k+3)):=by
 have:=nO;unfold wO;rw[aw];exact wB (iD) λx I=>wB (iD) λy J=>wB (L4 A J) λz U=>wB (L3 I U) λr Z=>wS (Z.mono (by omega))
theorem Ww{c:Bool}{a b m:Int}(A:a.natAbs<=m:=by omega)(I:b.natAbs<=m:=by omega):((bif c then a else b).natAbs:Int)<=m:=by grind
theorem ai1{x y:aJ}{z:DQ}{k:Nat}(I:br x=ag)(J:br y=ag)(A:bp k z)(h1:1<=k:=by omega)(g:k<=900:=by omega):Wq (Qp x y z) (λr=>bp (k+7) r.1):=by
 have:=nO;have h:=iz I;have i:=iz J;have f1:=Ww (c:=ai x.2.1 y.2.1) (a:=x.2.1) (b:=y.2.1) (m:=1048576);have f2:=Ww (c:=ai x.2.1 y.2.1) (a:=y.2.1) (b:=x.2.1) (m:=1048576);refine wB (iD) λj U=>wB (iD) λl Z=>wB (IG (by simp)) λb _=>wB (nZ tS) λ_ _=>wB (nZ (wB (iC A U) λ_ _=>tS)) λ_ _=>wB (nZ (wB (iC A Z) λ_ _=>tS)) λ_ _=>bE (λ_=>wS pU) λ_=>?_
 rw[aw];exact wB (iD) λb0 d=>wB (UC A d) λn h1=>wB (Hd) λo h2=>wB (L4 h1 h2) λp e=>wB (GW (by omega) (by omega) e) λr f=>wS (f.mono (by omega))
theorem ai3{x y:aJ}{z:Int}(A:br x=ag)(I:br y=ag)(U:z.natAbs<=1048576):Wq (Qq x y z) (λr=>bp 5 r.1):=by
 have Z:=iz A;have a:=iz I;refine wB (IG (by simp)) λb _=>wB (nZ tS) λ_ _=>wB (nZ tS) λ_ _=>wB (nZ tS) λ_ _=>bE (λ_=>wS pU) λ_=>?_
 rw[aw,aw];exact wB (Hd) λc h2=>wB (GW (by omega) (by omega) h2) λr J=>wS J
theorem Jp(x y:aJ):Wq (yc x y) T:=by
 unfold yc;rw[zP,ah,zP,ah];exact wB (nZ (wB (LQ tS) λ_ _=>tS)) λ_ _=>tS
theorem Ye(x y:aJ):Wq (IQ x y) (λr=>(r.1=x∨r.1=y)/\(r.2.1=x∨r.2.1=y)):=by
 exact wB (Jp y x) λ_ _=>bE (λ_=>wS ⟨.inr rfl,.inl rfl⟩) λ_=>wS ⟨.inl rfl,.inr rfl⟩
theorem sU(x y:aJ):(FM x y).1.natAbs<=2097152/\(FM x y).2.1.natAbs<=2097152:=by
 have h1:=ox x.1;have h2:=ox y.1;have A:=ox x.2.1;have I:=ox y.2.1;grind[FM,oE]
theorem ab5{a b:Int}{m:Nat}(A:a.natAbs<=m)(I:b.natAbs<=m):(a*b).natAbs<=m*m:=by
 simp[Int.natAbs_mul,Gp,A,I]
theorem Hq{x y:aJ}(h1:x.1.natAbs<=2097152/\x.2.1.natAbs<=2097152)(h2:y.1.natAbs<=2097152/\y.2.1.natAbs<=2097152):Wq (wP x y) (λn=>n.natAbs<=9223372036854775807):=by
 have A:=ab5 h1.1 h2.2;have I:=ab5 h1.2 h2.1;unfold wP;rw[aw (n:=x.1*y.2.1),aw (n:=x.2.1*y.1),aw];exact wS (by omega)
theorem avt{x y z u:aJ}(I:br x=ag)(J:br y=ag)(U:br z=ag)(Z:br u=ag):Wq (IU x y z u) (λr=>r.1.1.natAbs<=1048576/\r.1.2.1.natAbs<=1048576):=by
 have key:∀p:aJ,br p=ag->p.1.natAbs<=1048576/\p.2.1.natAbs<=1048576:=λp h=>by have:=iz h;omega
 unfold IU;refine wB (Ye x y) λa ⟨c,d⟩=>wB (Ye z u) λb ⟨e,f⟩=>?_
 have k1:br a.1=ag:=by grind
 have k2:br a.2.1=ag:=by grind
 have A:br b.1=ag:=by grind
 have g:br b.2.1=ag:=by grind
 have f0:∀p q:aJ,br p=ag->Wq (aao ((),(p,()),()) ((),(q,()),())) (λr=>r.1.1.natAbs<=1048576/\r.1.2.1.natAbs<=1048576):=λp q hp=>by
  exact wB (Jp _ _) λ_ _=>bE (λ_=>wS ⟨by decide,by decide⟩) λ_=>bE (λ_=>wS (key p hp)) λ_=>wS ⟨by decide,by decide⟩
 have f1:∀p:aJ,br p=ag->Wq (Qs a b ((),(p,()),())) (λr=>r.1.1.natAbs<=1048576/\r.1.2.1.natAbs<=1048576):=λp hp=>by
  unfold Qs;rw[iE];exact wB (Jp _ _) λ_ _=>bE (λ_=>(bX _ _).2 (f0 _ _ hp)) λ_=>(bX _ _).2 (f0 _ _ hp)
 rw[iE];exact wB (Jp _ _) λ_ _=>bE (λ_=>(bX _ _).2 (f1 _ A)) λ_=>(bX _ _).2 (f1 _ k1)
theorem aiX{x y z u:aJ}(J:br x=ag)(U:br y=ag)(c:br z=ag)(d:br u=ag):Wq (IP x y z u) (λr=>bp 5 r.2.1):=by
 have:=nO;have o:=iz J;have p:=iz U;unfold IP;refine wB (IG (by simp)) λb _=>bE (λ_=>wS pU) λ_=>?_
 rw[Ua,ah,Ua,ah,Ua,ah];refine wB (Hq (sU _ _) (sU _ _)) λn q=>bE (λ_=>?_) λ_=>?_
 .refine wB (Hq (sU _ _) (sU _ _)) λw e=>wB (Hd) λt Z=>wB (Hq (sU _ _) (sU _ _)) λB f=>wB (Hd) λs g=>?_
  refine cL (λs=>0<=s.1.1/\s.1.1<=2) (λs=>(2-s.1.1).toNat) ⟨cr _,by decide⟩ ?_
  rintro⟨⟨i,⟨⟩⟩,⟨⟨⟨⟨C,⟨⟩,⟨⟩⟩,⟨D,⟨⟩,⟨⟩⟩,⟨⟩⟩,⟨⟨E,⟨⟩,⟨⟩⟩,⟨F,⟨⟩,⟨⟩⟩,⟨⟩⟩,⟨⟩⟩,⟨⟩⟩⟩ ⟨h,G⟩;unfold aam;dsimp only at*;refine bE (λhi=>?_) λ_=>?_
  .have hi:=cZ.1 hi;refine dG h hi λv _ A=>?_
   have A:bp 2 v:=by
    rcases du.1 A with rfl|A<;>try trivial
    rw[gT.1 A];exact g
   refine wB (iD (by decide)) λH j=>wB (iC A j) λ_ _=>wB (nZ (wB (iD (by decide)) λK h1=>wB (iC A h1) λ_ _=>tS)) λ_ _=>bE (λ_=>(dC _ _).2 pU) λ_=>?_
   have hi:i< 2:=hi;rw[bX,bZ,aw];exact⟨⟨by dsimp only;omega,by dsimp only;omega⟩,by dsimp only;omega⟩
  exact wB (wB (GW (by omega) (by omega) Z) λa k=>wB (GW (by omega) (by omega) Z) λb I=>wS I) λr l=>(dC _ _).2 l
 have key:∀v:aJ,(v.1.natAbs<=2097152/\v.2.1.natAbs<=2097152)->Wq (Qo x y z u (FM z x) ((),(v,()),())) (λr=>bp 5 r.2.1):=λv A=>by
  unfold Qo;exact wB (Hq A (sU _ _)) λm hm=>wB (nZ (wB (LQ tS) λ_ _=>tS)) λ_ _=>bE (λ_=>wS pU) λ_=>wB (avt J U c d) λr ⟨L,M⟩=>bE (λ_=>wS pU) λ_=> wB (iD) λa k=>wB (iD) λb I=>wS (I.mono (by omega))
 rw[iE];exact bE (λ_=>(bX _ _).2 (key _ (sU _ _))) λ_=>(bX _ _).2 (key _ (sU _ _))
def tt{α:Type}(l:List (List α)):Nat:=(l.map List.length).sum
theorem Bm{α:Type}(a b:List (List α)):tt (a++b)=tt a+tt b:=by simp[tt,ml,List.sum_append]
theorem FT{α:Type}(r:List α):tt [r]=r.length:=by simp[tt]
theorem x9{α:Type}{l:List (List α)}{i:Nat}{r:List α}(e:l[i]? =ab r):tt (l.take (i+1))=tt (l.take i)+r.length:=by
 simp[yD,e,Bm,FT]
theorem sY{α:Type}(l:List (List α))(i:Nat):tt (l.take i)<=tt l:=by
 conv=>rhs;rw[<-List.take_append_drop i l,Bm]
 omega
structure Vq(N:Nat)(y:List (List aJ)):Prop where
 len:y.length<=100000
 LW:tt y<=N
 ok:∀r∈y,∀p∈r,br p=ag
theorem Vq.ring{N:Nat}{y:List (List aJ)}(h:Vq N y){i:Nat}{r:List aJ}(e:y[i]? =ab r):tt (y.take i)+r.length<=N:=by
 have:=sY y (i+1);rw[x9 e]at this;have:=h.LW;omega
theorem am0(p:aJ):br (oE p)=ag:=by
 have h1:=ox p.1;have h2:=ox p.2.1;simp_all[br,oE,aM,decide_eq_true_eq]
theorem ai6(p:aJ):LZ p (0,0,())=ab (oE p):=by
 have h1:=ox p.1;have h2:=ox p.2.1;unfold LZ;rw[zP];show ab ((w ((oE p).1+0),w ((oE p).2.1+0),()))=_;unfold oE;dsimp only;rw[lH,lH,aw,aw]
theorem qw{α:Type}{a:List α}{x:α}{P:α->Prop}(h:∀y∈a,P y)(I:P x):∀y∈cx a [x],P y:=λy A=>by
 rcases cD.1 A with A|A
 all_goals grind
theorem pk{α:Type}(a:List α)(x:α):(cx a [x]).length=a.length+1:=by simp[kx,dH]
theorem m8{α:Type}{a:List α}{x:α}{n:Nat}(h:a.length<=4000000:=by omega)(A:n<=1000:=by omega):bW (a.length+[x].length) n=ag:=by
 have:(a.length+1)*n<=4000001*1000:=Gp (by omega) A
 exact jA (by grind) (by grind)
theorem j0{ρ:Type}{c:Bool}{a:Option ρ}{Q:ρ->Prop}(h:c=ag)(g:Wq a Q):Wq (aT c a) Q:=(UG _ _ _).2 ⟨h,g⟩
theorem agt{x:List (List aJ)}{N:Nat}(h:jM x)(c:N<=1000000)(d:tt x<=N):Wq (EI x (0,0,())) (Vq N):=by
 unfold EI;rw[EK h,ah];refine bE (λ_=>wS ⟨by simp,bH _,λr I=>by cases I⟩) λ_=>?_
 refine cL (λs=>0<=s.1.2.1/\s.1.2.1<=(x.length:Int)/\(s.1.1.length:Int)<=s.1.2.1/\tt s.1.1<=tt (x.take s.1.2.1.toNat)/\∀r∈s.1.1,∀p∈r,br p=ag) (λs=>((x.length:Int)-s.1.2.1).toNat) ⟨cr _,by simp,cr _,bH _,λr I=>by cases I⟩ ?_
 rintro⟨⟨U,i,⟨⟩⟩,⟨⟩,⟨⟩⟩ ⟨Z,f,g,k,J⟩;unfold adN;dsimp only at*;have l:=h.1;refine bE (λhi=>?_) λhi=>?_
 .have hi:=cZ.1 hi;refine gz Z hi λr e a=>?_
  have I:=h.2 r a;refine cL (λs=>0<=s.1.2.1/\s.1.2.1<=(r.length:Int)/\(s.1.1.length:Int)<=s.1.2.1/\∀p∈s.1.1,br p=ag) (λs=>((r.length:Int)-s.1.2.1).toNat) ⟨cr _,by simp,cr _,λp hp=>by cases hp⟩ ?_
  rintro⟨⟨m,j,⟨⟩⟩,⟨⟩,⟨⟩⟩ ⟨b,n,o,h2⟩;unfold adM;dsimp only at*;refine bE (λA=>?_) λA=>?_
  .have A:=cZ.1 A;refine gz b A λp _ _=>?_
   rw[ai6,ah];refine j0 (m8) ?_;rw[bX,bZ,aw];exact⟨⟨by dsimp only;omega,by dsimp only;omega,by dsimp only;rw[pk];omega,qw h2 (am0 p)⟩,by dsimp only;omega⟩
  have A:=jt.1 A;rw[cS (m8),aw,fG,bX,dC,lr,bZ];refine⟨⟨by dsimp only;omega,by dsimp only;omega,by dsimp only;rw[pk];omega,?_,qw J h2⟩,by dsimp only;omega⟩
  dsimp only;rw[show(i+1).toNat=i.toNat+1 by omega,x9 e,kx,Bm,FT]
  omega
 exact(dC _ _).2 ⟨by omega,by have:=sY x i.toNat;omega,J⟩
def Mk(m:DQ×Int×Unit):Prop:=bp 18 m.1/\ -1<=m.2.1/\m.2.1<=1
theorem asT(a b:Int):Wq (Od [a,b]) T:=by
 refine cL (λs=>0<=s.1.1/\s.1.1<=2) (λs=>(2-s.1.1).toNat) ⟨cr _,by decide⟩ ?_
 rintro⟨⟨i,⟨⟩⟩,⟨⟩,⟨⟩⟩ ⟨A,I⟩;unfold Xj;refine bE (λhi=>?_) λ_=>(dC _ _).2 trivial
 refine gz A (cZ.1 hi) λv _ _=>bE (λ_=>(dC _ _).2 trivial) λ_=>?_
 rw[bX,bZ,aw];grind
theorem akG(a b:Int):Wq (Oc a b) T:=by
 exact bE (λ_=>bE (λ_=>tS) λ_=>tS) λ_=>bE (λ_=>tS) λ_=>bE (λ_=>tS) λ_=>bE (λ_=>tS) λ_=>tS
theorem cmM{d:List (DQ×Int×Unit)}(h:∀m∈d,Mk m):Cm xV d:=λx A y I=>by
 have:=nO;exact wB (iC (h x A).1 (h y I).1) λ_ _=>wB (akG _ _) λ_ _=>wB (asT _ _) λ_ _=>wS trivial
theorem abW{n:Nat}{j:Int}(A:0<=j)(I:j< n)(J:n<=1000000:=by omega):0<=(w (j+1)).tmod n/\(w (j+1)).tmod n< n:=by
 rw[aw,Gd (by omega)]
 exact⟨Int.emod_nonneg _ (by omega),Int.emod_lt_of_pos _ (by omega)⟩
theorem arR{x:List (List aJ)}{N:Nat}(h:jM x)(o:N<=1000000)(t:tt x<=N){y:DQ}(d:bp 11 y):Wq (Lv x y) (λr=>r.length<=N/\∀m∈r,Mk m):=by
 have:=nO;unfold Lv;refine wB (agt h o t) λI c=>?_
 have k:=c.len;refine cL (λs=>0<=s.1.1/\s.1.1<=(I.length:Int)/\s.2.1.1.length<=tt (I.take s.1.1.toNat)/\∀m∈s.2.1.1,Mk m) (λs=>((I.length:Int)-s.1.1).toNat) ⟨cr _,by simp,bH _,λr U=>by cases U⟩ ?_
 rintro⟨⟨i,⟨⟩⟩,⟨out,⟨⟩⟩,⟨⟩⟩ ⟨u,G,H,f⟩;unfold afz;dsimp only at*;refine bE (λhi=>?_) λhi=>?_
 .have hi:=cZ.1 hi;refine gz u hi λr e z=>?_
  have U:=c.ring e;have J:=c.ok r z;refine cL (λs=>0<=s.1.1/\s.1.1<=(r.length:Int)/\(s.2.1.1.length:Int)<=tt (I.take i.toNat)+s.1.1/\∀m∈s.2.1.1,Mk m) (λs=>((r.length:Int)-s.1.1).toNat) ⟨cr _,by dsimp only;omega,by dsimp only;omega,f⟩ ?_
  rintro⟨⟨j,⟨⟩⟩,⟨B,⟨⟩⟩,⟨⟩⟩ ⟨l,K,L,h2⟩;unfold afy;dsimp only at*;refine bE (λZ=>?_) λZ=>?_
  .have Z:=cZ.1 Z;obtain⟨C,k1⟩:=abW l Z;have g:Wq (aB (ρ:=(Int×Unit)×(List (DQ×Int×Unit)×Unit)×Unit⊕List (DQ×Int×Unit)) ((w (j+1),()),(B,()),())) (jn (λA=>(0<=A.1.1/\A.1.1<=(r.length:Int)/\(A.2.1.1.length:Int)<=tt (I.take i.toNat)+A.1.1/\∀m∈A.2.1.1,Mk m)/\((r.length:Int)-A.1.1).toNat<((r.length:Int)-j).toNat) (jn (λA=>(0<=A.1.1/\A.1.1<=(I.length:Int)/\A.2.1.1.length<=tt (I.take A.1.1.toNat)/\∀m∈A.2.1.1,Mk m)/\((I.length:Int)-A.1.1).toNat<((I.length:Int)-i).toNat) λr=>r.length<=N/\∀m∈r,Mk m)):=by
    rw[bX,bZ,aw];exact⟨⟨by dsimp only;omega,by dsimp only;omega,by dsimp only;omega,h2⟩,by dsimp only;omega⟩
   refine gz l Z λp _ mp=>(Md _ _ _).2 ⟨by omega,gz C k1 λq _ n=>bE (λ_=>?_) λ_=>g⟩
   have op:=iz (J p mp);have M:=iz (J q n);refine wB (iD) λa D=>wB (iC D d) λ_ _=>wB (iD) λb E=>wB (iC E d) λv c=>bE (λ_=>g) λ_=>wB (ai1 (J p mp) (J q n) d) λm hm=>bE (λ_=>j0 (m8) ?_) λ_=>g
   rw[bX,bZ,aw];exact⟨⟨by dsimp only;omega,by dsimp only;omega,by dsimp only;rw[pk];omega,qw h2 ⟨hm,c⟩⟩,by dsimp only;omega⟩
  have Z:=jt.1 Z;rw[dC,lr,bZ,aw];refine⟨⟨by dsimp only;omega,by dsimp only;omega,?_,h2⟩,by dsimp only;omega⟩
  dsimp only;rw[show(i+1).toNat=i.toNat+1 by omega,x9 e]
  omega
 have O:=sY I i.toNat;have F:=c.LW;exact wB (wB (afV (cmM f)) λr U=>wS U) λr U=>(dC _ _).2 ⟨by rw[U.len];omega,λm hm=>f m (U.mem m hm)⟩
def Sp(s:lL):Prop:=bp 18 s.1/\bp 18 s.2.1
theorem cmS{d:List lL}(h:∀m∈d,Sp m):Cm xU d:=λx A y I=>by
 have:=nO;exact wB (iC (h x A).1 (h y I).1) λ_ _=>wS trivial
theorem afD{α:Type}{a:List α}{i:Nat}{x:α}{P:α->Prop}(h:∀y∈a,P y)(A:P x):∀y∈a.set i x,P y:=λy I=>by
 grind
theorem abP{x:List lL}{N:Nat}(B:x.length<=N)(C:N<=1000000)(h:∀s∈x,Sp s):Wq (FB x) (λr=>r.length<=N/\∀s∈r,Sp s):=by
 have:=nO;unfold FB;refine cL (λs=>0<=s.1.2.1/\s.1.2.1<=(x.length:Int)/\(s.1.1.length:Int)<=s.1.2.1/\∀m∈s.1.1,Sp m) (λs=>((x.length:Int)-s.1.2.1).toNat) ⟨cr _,by simp,cr _,λr J=>by cases J⟩ ?_
 rintro⟨⟨a,i,⟨⟩⟩,⟨⟩,⟨⟩⟩ ⟨k,D,E,Z⟩;unfold afw;dsimp only at*;refine bE (λhi=>?_) λhi=>?_
 .have hi:=cZ.1 hi;refine gz k hi λs _ e=>?_
  obtain⟨U,I⟩:=h s e;refine wB (iC U I) λ_ _=>bE (λ_=>wB (L5 U) λF h1=>wB (L5 I) λG h2=>j0 (m8) ?_) λ_=>?_
  .rw [bX,bZ,aw];exact⟨⟨by dsimp only;omega,by dsimp only;omega,by dsimp only;rw[pk];omega,qw Z ⟨h1,h2⟩⟩,by dsimp only;omega⟩
  rw[bX,bZ,aw];exact⟨⟨by dsimp only;omega,by dsimp only;omega,by dsimp only;omega,Z⟩,by dsimp only;omega⟩
 refine wB (wB (afV (cmS Z)) λy g=>?_) λr J=>(dC _ _).2 J
 have l:=g.len;have o:∀m∈y.2.1,Sp m:=λm hm=>Z m (g.mem m hm)
 refine cL (λs=>0<=s.1.2.1/\s.1.2.1<=(y.2.1.length:Int)/\(s.1.1.length:Int)<=s.1.2.1/\∀m∈s.1.1,Sp m) (λs=>((y.2.1.length:Int)-s.1.2.1).toNat) ⟨cr _,by dsimp only;omega,cr _,λr J=>by cases J⟩ ?_
 rintro⟨⟨b,j,⟨⟩⟩,⟨⟩,⟨⟩⟩ ⟨p,H,K,A⟩;unfold afv;dsimp only at*;refine bE (λd=>?_) λd=>(dC _ _).2 ⟨by omega,A⟩
 have d:=cZ.1 d;refine dG p d λs _ e=>?_
 obtain⟨U,I⟩:=o s e;rw[aw (n:=(b.length:Int)-1),aw (n:=j+1)];have f:Wq (aW (aj (b.length:Int) 0) (aN b ((b.length:Int)-1) λq=>(cX q.2.1 s.1).bind λv=>ab (ak v 0))) (λc=>c=af->b.length≠0):=by
  rw[FY,sf,wj];refine⟨λL=>dG (by omega) (by omega) λt _ mt=>wB (iC (A t mt).2 U) λ_ _=>wS λ_=>by omega,λ_ h=>by cases h⟩
 refine wB f λc w=>bE (λ_=>j0 (m8) ?_) λh=>?_
 .rw [bX,bZ];exact⟨⟨by dsimp only;omega,by dsimp only;omega,by dsimp only;rw[pk];omega,qw A ⟨U,I⟩⟩,by dsimp only;omega⟩
 have:=w h;refine dG (by omega) (by omega) λt _ mt=>wB (iC (A t mt).2 I) λ_ _=>bE (λ_=>dG (by omega) (by omega) λu _ z=>?_) λ_=>?_
 .rw [bX,bZ];exact⟨⟨by dsimp only;omega,by dsimp only;omega,by dsimp only;rw[fQ];omega,afD A ⟨(A u z).1,I⟩⟩,by dsimp only;omega⟩
 rw[bX,bZ];exact⟨⟨by dsimp only;omega,by dsimp only;omega,by dsimp only;omega,A⟩,by dsimp only;omega⟩
theorem alU(n y:Int):Wq (EF n y) T:=by
 simp[EF,tS]
theorem avK{x:List (List aJ)}{N:Nat}(h:jM x)(Z:N<=1000000)(d:tt x<=N){y:DQ}(e:bp 11 y)(A:Int):Wq (Lu x A y) (λr=>r.length<=N/\∀s∈r,Sp s):=by
 unfold Lu;refine wB (arR h Z d e) λm ⟨p,b⟩=>?_
 refine cL (λs=>0<=s.1.2.2.1/\s.1.2.2.1<=(m.length:Int)/\(s.1.1.length:Int)<=s.1.2.2.1/\ -s.1.2.2.1<=s.1.2.1/\s.1.2.1<=s.1.2.2.1/\∀m∈s.1.1,Sp m) (λs=>((m.length:Int)-s.1.2.2.1).toNat) ⟨cr _,by dsimp only;omega,cr _,cr _,cr _,λr I=>by cases I⟩ ?_
 rintro⟨⟨a,n,i,⟨⟩⟩,⟨⟩,⟨⟩⟩ ⟨f,t,u,v,w,J⟩;unfold afx;dsimp only at*;refine bE (λhi=>?_) λhi=>wB (wB (abP (N:=N) (by omega) Z J) λr I=>wS I) λr I=>(dC _ _).2 I
 have hi:=cZ.1 hi;refine gz f hi λq _ g=>?_
 obtain⟨j,z,B⟩:=b q g;rw[aw (n:=i+1),aw (n:=n+q.2.1)];have U:Wq (aG (ak (i+1) (m.length:Int)) ((EF (n+q.2.1) A).bind λk=>ab k)) (λc=>c=ag->i+1< m.length):=by
  rw[FX,cZ,jt];exact⟨λh=>wB (alU _ _) λ_ _=>wS λ_=>h,λ_ h=>by cases h⟩
 refine wB U λc l=>bE (λh=>?_) λ_=>?_
 .refine gz (by omega) (l h) λr _ o=>j0 (m8) ?_
  rw[bX,bZ];exact⟨⟨by dsimp only;omega,by dsimp only;omega,by dsimp only;rw[pk];omega,by dsimp only;omega,by dsimp only;omega,qw J ⟨j,(b r o).1⟩⟩,by dsimp only;omega⟩
 rw[bX,bZ];exact⟨⟨by dsimp only;omega,by dsimp only;omega,by dsimp only;omega,by dsimp only;omega,by dsimp only;omega,J⟩,by dsimp only;omega⟩
theorem Z9{a b:DQ}{k:Nat}(A:bp 18 a)(I:bp 18 b)(n:Int):Wq (Lt a b n) (bp 18):=by
 have:=nO;exact wB (iC A I) λ_ _=>bE (λ_=>wS A) λ_=>wS I
theorem ars{x:List lL}{N:Nat}(Z:x.length<=N)(d:N<=1000000)(h:∀s∈x,Sp s){y z:DQ}(e:bp 18 y)(f:bp 18 z):Wq (Ls x y z) (bp (38*N+1)):=by
 have:=nO;have I:38000001<=mid:=by unfold mid;omega
 unfold Ls;refine wB (iD (by decide)) λv g=>wB (abP Z d h) λm ⟨w,j⟩=>?_
 refine cL (λs=>0<=s.1.1/\s.1.1<=(m.length:Int)/\bp (38*s.1.1.toNat+1) s.2.1.1) (λs=>((m.length:Int)-s.1.1).toNat) ⟨cr _,by dsimp only;omega,g⟩ ?_
 rintro⟨⟨i,⟨⟩⟩,⟨s,⟨⟩⟩,⟨⟩⟩ ⟨l,B,A⟩;unfold afu;dsimp only at*;refine bE (λhi=>?_) λhi=>(dC _ _).2 (A.mono (by omega))
 have hi:=cZ.1 hi;refine gz l hi λq _ n=>?_
 obtain⟨o,p⟩:=j q n;refine wB (Z9 (k:=0) o e _) λa J=>wB (Z9 (k:=0) p f _) λb U=>wB (iC J U) λ_ _=>bE (λ_=>wB (UC U J) λc r=>wB (L3 A r) λt u=>?_) λ_=>?_
 .rw [bX,bZ,aw];exact⟨⟨by dsimp only;omega,by dsimp only;omega,u.mono (by dsimp only;omega)⟩,by dsimp only;omega⟩
 rw[bX,bZ,aw];exact⟨⟨by dsimp only;omega,by dsimp only;omega,A.mono (by dsimp only;omega)⟩,by dsimp only;omega⟩
theorem FV{α ρ:Type}{l:List α}{n:Nat}{f:α->Option ρ}{Q:ρ->Prop}(h:n< l.length)(g:∀x∈l,Wq (f x) Q):Wq (l[n]?.bind f) Q:=by
 grind
def Q5(l:List DQ):=∀q∈l,bp 5 q
theorem cm5{d:List DQ}(h:Q5 d):mu d:=λx A y I=>by
 have:=nO;exact cB (iC (h x A) (h y I)) λ_ _=>trivial
theorem akE{i n:Nat}{z:DQ}{l:List DQ}(h:i+n<=l.length:=by omega):(pv (ab i) n z l).length=l.length:=by
 grind[pv]
theorem akF{i n:Nat}{z:DQ}{l:List DQ}(h:i<=l.length:=by omega):(pv (ab i) n z l).take i=l.take i:=by
 grind[pv]
theorem akK{l:List DQ}(d:l.length<=4000000)(h:Q5 l):Wq (aA Qn ((1,()),(),l,())) (λr=>r.length<=l.length/\Q5 r):=by
 have:=nO;refine cL (λs=>1<=s.1.1/\s.2.2.1=l) (λs=>((l.length:Int)-s.1.1).toNat) ⟨cr _,rfl⟩ ?_
 rintro⟨⟨i,⟨⟩⟩,⟨⟩,A,⟨⟩⟩ ⟨f,e⟩;unfold Qn;dsimp only at*;subst e;refine bE (λhi=>?_) λ_=>(dC _ _).2 ⟨aL _,h⟩
 have hi:=cZ.1 hi;rw[aw (n:=i-1),aw (n:=i+1)];refine dG (by omega) hi λx _ mx=>dG (by omega) (by omega) λy _ I=>wB (iC (h x mx) (h y I)) λ_ _=>bE (λ_=>j0 (by rw[oo,iw,iw];omega) ?_) λ_=>?_
 .refine cL (λs=>i<=s.1.1/\s.1.1< i+s.1.2.1/\s.1.2.1<=A.length-i/\s.2.2.1.length=A.length/\Q5 s.2.2.1) (λs=>((A.length:Int)-s.1.2.1).toNat) ⟨cr _,by dsimp only;omega,by dsimp only;omega,rfl,h⟩ ?_
  rintro⟨⟨p,q,⟨⟩⟩,⟨⟩,U,⟨⟩⟩ ⟨p0,g,j,Z,h2⟩;unfold aaj;dsimp only at*;refine bE (λJ=>?_) λJ=>?_
  .have J:=cZ.1 J;rw[aw (n:=q-1),aw (n:=p+1),aw (n:=q+1)];refine j0 (by rw[oo,iw,cZ];omega) (FV (by omega) λx mx=>j0 (by rw[oo,iw,cZ];omega) (FV (by omega) λy I=>wB (iC (h2 x mx) (h2 y I)) λ_ _=>bE (λ_=>j0 (by rw[oo,iw,cZ];omega) (FV (by omega) λz a=>dG (by omega) (by omega) λ_ _ _=>?_)) λ_=>?_))
   .rw [bX,bZ];exact⟨⟨by dsimp only;omega,by dsimp only;omega,by dsimp only;omega,by simp_all,afD h2 (h2 z a)⟩,by dsimp only;omega⟩
   rw[bX,bZ];exact⟨⟨p0,by dsimp only;omega,by dsimp only;omega,Z,h2⟩,by dsimp only;omega⟩
  refine wB (j0 (by rw[oo,iw,iw];omega) (j0 (by rw[cZ];omega) (j0 (by rw[oo,iw,iw,akE (i:=p.toNat) (n:=U.length-p.toNat) (z:=((af,[],()),(af,[],()),())) (l:=U)];omega) ((dC _ _).2 ?_)))) λr b=>(dC _ _).2 b
  rw[akF];exact⟨by rw[gi];omega,λx c=>h2 x (Vr c)⟩
 rw[bX,bZ];exact⟨⟨by dsimp only;omega,rfl⟩,by dsimp only;omega⟩
theorem SA{q hi:DQ}(A:bp 5 q)(I:bp 1 hi) c:Wq (aG (ak c 0) ((cX q hi).bind λy=>ab (ak y 0))) T:=by
 have:=nO;exact LQ (wB (iC A I) λ_ _=>tS)
theorem alC{x:List (List aJ)}(h:jM x)(g:Vq 1560 x){a b:aJ}(K:br a=ag)(L:br b=ag):Wq (IM x a b) (λr=>r.length<=2500000/\Q5 r):=by
 have:=nO;have oa:=iz K;have ob:=iz L;have hx:=h.1;have J:=g.LW;unfold IM;refine wB (P:=T) (by rw[EK h];exact tS) λ_ _=>wB (nZ (wB (IG (by simp)) λ_ _=>tS)) λ_ _=>wB (nZ tS) λ_ _=>bE (λ_=>wS ⟨by simp,λr A=>by cases A⟩) λ_=>wB (iD) λlo c=>wB (iD) λhi d=>?_
 refine cL (λs=>0<=s.1.1/\s.1.1<=(x.length:Int)/\s.2.1.1.length<=2+tt (x.take s.1.1.toNat)/\Q5 s.2.1.1) (λs=>((x.length:Int)-s.1.1).toNat) ⟨cr _,by dsimp only;omega,by simp,λq U=>?_⟩ ?_
 .rcases du.1 U with rfl|U
  .exact c.mono (by omega)
  rw[gT.1 U];exact d.mono (by omega)
 rintro⟨⟨i,⟨⟩⟩,⟨out,⟨⟩⟩,⟨⟩⟩ ⟨M,i1,i2,l⟩;unfold aal;dsimp only at*;refine bE (λhi=>?_) λhi=>?_
 .have hi:=cZ.1 hi;refine gz M hi λr e z=>?_
  have N:=x9 e;have O:=sY x (i.toNat+1);have A:=h.2 r z;refine cL (λs=>0<=s.1.1/\s.1.1<=(r.length:Int)/\(s.2.1.1.length:Int)<=2+tt (x.take i.toNat)+s.1.1/\Q5 s.2.1.1) (λs=>((r.length:Int)-s.1.1).toNat) ⟨cr _,by dsimp only;omega,by dsimp only;omega,l⟩ ?_
  rintro⟨⟨j,⟨⟩⟩,⟨Q,⟨⟩⟩,⟨⟩⟩ ⟨B,R,S,h2⟩;unfold aaf;dsimp only at*;refine bE (λI=>?_) λI=>?_
  .have I:=cZ.1 I;refine gz B I λp _ mp=>?_
   have op:=iz (g.ok r z p mp);refine wB (iD) λv g=>wB (iC c g) λ_ _=>wB (SA (g.mono (by omega)) d _) λ_ _=>bE (λ_=>j0 (m8) ?_) λ_=>?_
   .rw [bX,bZ,aw];exact⟨⟨by dsimp only;omega,by dsimp only;omega,by dsimp only;rw[pk];omega,qw h2 (g.mono (by omega))⟩,by dsimp only;omega⟩
   rw[bX,bZ,aw];exact⟨⟨by dsimp only;omega,by dsimp only;omega,by dsimp only;omega,h2⟩,by dsimp only;omega⟩
  have I:=jt.1 I;rw[dC,lr,bZ,aw];refine⟨⟨by dsimp only;omega,by dsimp only;omega,?_,h2⟩,by dsimp only;omega⟩
  dsimp only;rw[show(i+1).toNat=i.toNat+1 by omega,N]
  omega
 have V:=sY x i.toNat;refine wB (wB (agt h (by omega) J) λw C=>?_) λr A=>(dC _ _).2 A
 have W:=C.len;refine cL (λs=>0<=s.1.1/\s.1.1<=(w.length:Int)/\s.2.1.2.1.length<=tt (w.take s.1.1.toNat)/\(∀e∈s.2.1.2.1,br e.1=ag/\br e.2.1=ag)/\s.2.1.1.length<=1562+1562*s.2.1.2.1.length/\Q5 s.2.1.1) (λs=>((w.length:Int)-s.1.1).toNat) ⟨cr _,by dsimp only;omega,bH _,λe he=>(by cases he),by dsimp only;omega,l⟩ ?_
 rintro⟨⟨k,⟨⟩⟩,⟨out,es,⟨⟩⟩,⟨⟩⟩ ⟨X,k1,k2,he,Y,l⟩;unfold aak;dsimp only at*;refine bE (λD=>?_) λD=>?_
 .have D:=cZ.1 D;refine gz X D λr e z=>?_
  have O:=C.ring e;have y:=C.ok r z;refine cL (λs=>0<=s.1.1/\s.1.1<=(r.length:Int)/\(s.2.1.2.1.length:Int)<=tt (w.take k.toNat)+s.1.1/\(∀e∈s.2.1.2.1,br e.1=ag/\br e.2.1=ag)/\s.2.1.1.length<=1562+1562*s.2.1.2.1.length/\Q5 s.2.1.1) (λs=>((r.length:Int)-s.1.1).toNat) ⟨cr _,by dsimp only;omega,by dsimp only;omega,he,Y,l⟩ ?_
  rintro⟨⟨j,⟨⟩⟩,⟨Q,f,⟨⟩⟩,⟨⟩⟩ ⟨B,R,S,Z,H,h2⟩;unfold aai;dsimp only at*;refine bE (λI=>?_) λI=>?_
  .have I:=cZ.1 I;obtain⟨q0,G⟩:=abW B I;refine gz B I λp _ mp=>(Md _ _ _).2 ⟨by omega,gz q0 G λq _ mq=>bE (λ_=>?_) λ_=>?_⟩
   .have hp:=y p mp;have U:=y q mq;refine cL (λs=>0<=s.1.1/\s.1.1<=2/\(s.2.1.1.length:Int)<=1562+1562*f.length+s.1.1/\Q5 s.2.1.1) (λs=>(2-s.1.1).toNat) ⟨cr _,by dsimp only;omega,by dsimp only;omega,h2⟩ ?_
    rintro⟨⟨t,⟨⟩⟩,⟨o3,⟨⟩⟩,⟨⟩⟩ ⟨t0,t1,t2,E⟩;unfold aah;dsimp only at*;refine bE (λJ=>?_) λJ=>?_
    .have J:t< 2:=cZ.1 J;rw[aw (n:=t+1)];refine dG t0 J λv _ o=>?_
     have g:v.natAbs<=1048576:=by
      rcases du.1 o with rfl|o
      .omega
      rw[gT.1 o];omega
     refine wB (ai3 hp U g) λu m=>bE (λ_=>wB (iC c m) λ_ _=>wB (SA m d _) λ_ _=>bE (λ_=>j0 (m8) ?_) λ_=>?_) λ_=>?_
     .rw [bX,bZ];exact⟨⟨by dsimp only;omega,by dsimp only;omega,by dsimp only;rw[pk];omega,qw E m⟩,by dsimp only;omega⟩
     .rw [bX,bZ];exact⟨⟨by dsimp only;omega,by dsimp only;omega,by dsimp only;omega,E⟩,by dsimp only;omega⟩
     rw[bX,bZ];exact⟨⟨by dsimp only;omega,by dsimp only;omega,by dsimp only;omega,E⟩,by dsimp only;omega⟩
    refine wB ?_ λr A=>(dC _ _).2 A
    refine cL (λs=>0<=s.1.1/\s.1.1<=(f.length:Int)/\(s.2.1.1.length:Int)<=1564+1562*f.length+s.1.1/\Q5 s.2.1.1) (λs=>((f.length:Int)-s.1.1).toNat) ⟨cr _,by dsimp only;omega,by dsimp only;omega,E⟩ ?_
    rintro⟨⟨t,⟨⟩⟩,⟨o4,⟨⟩⟩,⟨⟩⟩ ⟨t0,t1,t2,F⟩;unfold aag;dsimp only at*;refine bE (λJ=>?_) λJ=>?_
    .have J:=cZ.1 J;rw[aw (n:=t+1)];refine dG t0 J λv _ o=>wB (aiX (Z v o).1 (Z v o).2 hp U) λu m=>bE (λ_=>wB (iC c m) λ_ _=>wB (SA m d _) λ_ _=>bE (λ_=>j0 (m8) ?_) λ_=>?_) λ_=>?_
     .rw [bX,bZ];exact⟨⟨by dsimp only;omega,by dsimp only;omega,by dsimp only;rw[pk];omega,qw F m⟩,by dsimp only;omega⟩
     .rw [bX,bZ];exact⟨⟨by dsimp only;omega,by dsimp only;omega,by dsimp only;omega,F⟩,by dsimp only;omega⟩
     rw[bX,bZ];exact⟨⟨by dsimp only;omega,by dsimp only;omega,by dsimp only;omega,F⟩,by dsimp only;omega⟩
    rw[cS (m8),fG,bX,dC,lr,lr,bZ,aw];exact⟨⟨by dsimp only;omega,by dsimp only;omega,by dsimp only;rw[pk];omega,qw Z ⟨hp,U⟩,by dsimp only;rw[pk];omega,F⟩,by dsimp only;omega⟩
   rw[bX,bZ,aw];exact⟨⟨by dsimp only;omega,by dsimp only;omega,by dsimp only;omega,Z,H,h2⟩,by dsimp only;omega⟩
  have I:=jt.1 I;rw[dC,lr,bZ,aw];refine⟨⟨by dsimp only;omega,by dsimp only;omega,?_,Z,H,h2⟩,by dsimp only;omega⟩
  dsimp only;rw[show(k+1).toNat=k.toNat+1 by omega,x9 e]
  omega
 have hkl:=sY w k.toNat;have hyt:=C.LW;refine wB (wB (ati (cm5 l)) λr A=>bE (λ_=>wS ⟨by rw[A.len];omega,λq U=>l q (A.mem q U)⟩) λ_=>cB (akK (by rw[A.len];omega) λq U=>l q (A.mem q U)) λq ⟨G,q2⟩=>⟨by rw[A.len]at G;omega,q2⟩) λr A=>(dC _ _).2 A
theorem ad5:∀(n:Nat) (x:List (List aJ)),sG n x=ag->∀r∈x,∀p∈r,br p=ag
 |n,[],_,r,A=>by cases A
 |n,I::l,h,r,A=>by
  rw[SC]at h;cases h1:ak 4096 ((n)+I.length)with
  |true=>rw[h1]at h;cases h
  |false=>
   rw[h1,au]at h;cases h2:I.all br with
   |false=>rw[h2]at h;cases h
   |true=>
    rw[h2,ao]at h;rcases du.1 A with rfl|A
    .exact λp hp=>lI.1 h2 p hp
    exact ad5 _ l h r A
theorem ajY{x:List (List aJ)}(h:jM x)(f:tt x<=1560)(A:Int)(a b:aJ):Wq (GZ x A a b) (λr=>bp 148232500001 r.1):=by
 have hm:148232500001<=mid:=by unfold mid;omega
 unfold GZ Ny;have hf:Wq ((sC x).bind λw=>bif !w then ab 12 else(aG (!aj A 1) (ab !aj A 2)).bind λz=>bif z then ab 2 else ab (0:Int)) (λv=>v=0->Vq 1560 x):=by
  rw[EK h,ah];exact bE (λ_=>wS λh=>(by cases h)) λhp=> wB (LQ tS) λ_ _=>bE (λ_=>wS λh=>(by cases h)) λ_=>wS λ_=>⟨h.1,f,ad5 0 x (xk.1 hp)⟩
 refine wB hf λv B=>bE (λ_=>wS pU) λU=>?_
 rw[p9,ah,p9,ah,cI,ah];refine bE (λ_=>wS pU) λI=>?_
 have I:br a=ag/\br b=ag:=by revert I;cases br a<;>cases br b<;>decide
 have L:=iz I.1;have M:=iz I.2;refine wB (iD (by decide)) λN g=>bE (λ_=>wS (g.mono (by omega))) λ_=>wB (iD) λfr Z=>wB (iD) λto c=>wB (alC h (B (sf.1 (xk.1 U))) I.1 I.2) λev ⟨O,j⟩=>?_
 refine cL (λs=>0<=s.1.1/\s.1.1<=(ev.length:Int)/\∃t,s.2=((x,A,t,fr,to,()),())/\bp (59293*s.1.1.toNat+1) t) (λs=>((ev.length:Int)-s.1.1).toNat) ⟨cr _,by dsimp only;omega,_,rfl,g⟩ ?_
 rintro⟨⟨i,⟨⟩⟩,k⟩ ⟨C,P,t,rfl,J⟩;unfold Wh;dsimp only at*;rw[aw (n:=i+1)];refine bE (λhi=>?_) λ_=>(dC _ _).2 (J.mono (by omega))
 have hi:=cZ.1 hi;refine gz C (by omega) λp _ mp=>gz (by omega) hi λq _ D=>?_
 have hp:=j p mp;have o:=j q D;refine wB (awy hp o) λy E=>wB (avK h (by omega) f E A) λsp ⟨F,k⟩=>wB (ars F (by omega) k (Z.mono (by omega)) (c.mono (by omega))) λl G=>wB (UC o hp) λd H=>wB (L4 G H) λm e=>wB (L3 J e) λu K=>?_
 rw[bX,bZ];exact⟨⟨by dsimp only;omega,by dsimp only;omega,_,rfl,K.mono (by dsimp only;omega)⟩,by dsimp only;omega⟩
theorem atr{q:DQ}(A:bp 148232500001 q)(e:Int):Wq (Nz q e) (λr=>bp 148232500002 r.1):=by
 have hm:148232500001<=mid:=by simp[mid]
 exact bE (λ_=>wS pU) λ_=>wB (iD (by decide)) λd I=>wB (awA A I) λr J=>wS J
theorem Ys(n:Int):Cr n=ab (ak n (-4096)||ak 4096 n):=by
 simp[Cr,cI]
theorem Oj(x y:Int):Wq (zc x y) T:=by
 unfold zc;rw[Ys,Ys,ah];exact wB (nZ tS) λ_ _=>bE (λ_=>tS) λ_=>tS
theorem ai4{x:List (List aJ)}(h:jM x)(I:tt x<=1560)(A u v:Int):Wq (Nx x A u v) (λr=>bp 148232500002 r.1):=by
 have key:∀a b,Wq (Wi x A a ((),(b,()),())) (λr=>bp 148232500002 r.1):=λa b=>by
  exact wB (ajY h I _ _ _) λr J=>wB (atr J _) λs U=>wS U
 refine wB (Oj _ _) λa _=>wB (Oj _ _) λb _=>?_
 rw[iE,p9];exact bE (λ_=>wB (Oj _ _) λc _=>(bX _ _).2 (key _ _)) λ_=>(bX _ _).2 (key _ _)
theorem floor_le(q:Rat):q.floor.natAbs<=q.num.natAbs:=by
 unfold Rat.floor;split;all_goals simp[aL,Int.natAbs_ediv_le_natAbs]
theorem u8_in(n:Int):0<=wr .u8 n/\wr .u8 n<=255:=by grind[agJ]
theorem al5{q:DQ}(A:bp 148232500002 q):Wq (Ol q) (λv=>0<=v/\v<=255):=by
 have hm:148232500100<=mid:=by simp[mid]
 refine wB (agE (by decide) (by decide)) λb h1=>wB (iD (by decide)) λz U=>wB (iC A U) λ_ _=>bE (λ_=>wS (by decide)) λ_=>wB (iD (by decide)) λo Z=>wB (iC A Z) λ_ _=>bE (λ_=>wS (by decide)) λ_=>wB (iD (by decide)) λf hf=>wB (L4 A hf) λm I=>wB (L3 I h1) λs J=>?_
 have a:148232500002+1+2+1<=aP:=by simp[aP]
 rw[ad8 (J.mono (by omega)),ah,agO]
 .exact wS (u8_in _)
 exact(dA (Int.lt_of_le_of_lt (Int.ofNat_le.2 (floor_le (qv s))) (eI J).1)).mono a
theorem WR{x:List (List aJ)}(h:jM x)(I:tt x<=1560)(A u v:Int):Wq (Hp x A u v) (λv=>0<=v/\v<=255):=by
 exact wB (ai4 h I _ _ _) λr J=>bE (λ_=>wS (by decide)) λ_=>wB (al5 J) λs U=>wS U
section
def mR(n:Int):Bool:=ai (-4096) n&&ai n 4096
def vR(r:bB):Bool:=mR r.1&&mR r.2.1&&mR r.2.2.1&&mR r.2.2.2.1
def eR(r:bB):Bool:=!vR r||ai r.2.2.1 r.1||ai r.2.2.2.1 r.2.1
def cR(r:bB):bB:=bif eR r then(0,0,0,0,())else r
def cf(r:bB):Nat:=((cR r).2.2.1-(cR r).1).toNat
def hR(r:bB):Nat:=((cR r).2.2.2.1-(cR r).2.1).toNat
theorem arK(n:Int):xI n=ab (mR n):=by unfold xI;rw[cO];rfl
theorem auK(n:Int):xC n=ab (mR n):=by unfold xC;rw[cO];rfl
theorem LY(r:bB):xH r=ab (vR r):=by
 unfold xH;simp[arK,ah,cO];rfl
theorem afn(r:bB):E2 r=ab (vR r):=by
 unfold E2;simp[auK,ah,cO];rfl
theorem Yc(r:bB):Fq r=ab (eR r):=by
 unfold Fq;simp[LY,cI];rfl
theorem auz(r:bB):KQ r=ab (eR r):=by
 unfold KQ;simp[afn,cI];rfl
theorem aU{α:Type}(c:Bool)(a b:α):(bif c then ab a else ab b)=ab (bif c then a else b):=by cases c<;>rfl
theorem zj(r:bB):pW r=ab (cR r):=by
 unfold pW;rw[Yc,ah,aU];rfl
theorem aeS(r:bB):E1 r=ab (cR r):=by
 unfold E1;rw[auz,ah,aU];rfl
theorem Yb{r:bB}(h:eR r=af): -4096<=r.1/\r.1< r.2.2.1/\r.2.2.1<=4096/\ -4096<=r.2.1/\r.2.1< r.2.2.2.1/\r.2.2.2.1<=4096:=by
 unfold eR vR mR at h;simp_all[jD,xk,aM,iw,wZ]
theorem WS(r:bB): -4096<=(cR r).1/\(cR r).1<=(cR r).2.2.1/\(cR r).2.2.1<=4096/\ -4096<=(cR r).2.1/\(cR r).2.1<=(cR r).2.2.2.1/\(cR r).2.2.2.1<=4096:=by
 unfold cR;cases h:eR r with
 |true=>simp
 |false=>
  have:=Yb h;grind
theorem He(r:bB):cR (cR r)=cR r:=by
 cases h:eR r with
 |true=>simp[cR,h,ao]
 |false=>
  have:cR r=r:=by simp[cR,h,au]
  simp[this]
theorem Wj(r:bB):w (w ((cR r).2.2.1-(cR r).1)*w ((cR r).2.2.2.1-(cR r).2.1))=((cf r*hR r:Nat):Int):=by
 have:=WS r;have A:(cR r).2.2.1-(cR r).1=(cf r):=by grind[cf]
 have I:(cR r).2.2.2.1-(cR r).2.1=(hR r):=by grind[hR]
 have J:cf r<=8192:=by omega
 have U:hR r<=8192:=by omega
 have Z:=Gp J U;rw[A,I,aw (n:=(cf r)),aw (n:=(hR r)),<-kV,aw]
theorem Ch(r:bB):uW r=ab ((cf r*hR r:Nat):Int):=by
 simp[uW,zj,ah,Wj]
theorem Lb(r:bB):xB r=ab ((cf r*hR r:Nat):Int):=by
 simp[xB,aeS,ah,Wj]
theorem UB(r:bB):cf (cR r)=cf r:=by simp[cf,He]
theorem Pm(r:bB):hR (cR r)=hR r:=by simp[hR,He]
def dz(r:bB)(u v:Int):Prop:=(cR r).1<=u/\u<(cR r).2.2.1/\(cR r).2.1<=v/\v<(cR r).2.2.2.1
def iR(r:bB)(u v:Int):Bool:=ai (cR r).1 u&&ak u (cR r).2.2.1&&ai (cR r).2.1 v&&ak v (cR r).2.2.2.1
theorem IC{r:bB}{u v:Int}:iR r u v=ag↔dz r u v:=by
 unfold iR dz;simp[oo,iw,cZ,and_assoc]
theorem akM(r:bB)(u v:Int):Lf r u v=ab (iR r u v):=by
 unfold Lf;rw[Yc];simp[cO];cases h:eR r with
 |true=>
  have A:cR r=(0,0,0,0,()):=by simp[cR,h]
  cases hi:iR r u v
  .simp
  have:=IC.1 hi;unfold dz at this;grind
 |false=>
  have A:cR r=r:=by simp[cR,h]
  simp[iR,A]
theorem ant{r:bB}{u v:Int}(h:dz r u v):eR r=af:=by
 cases A:eR r
 .rfl
 unfold dz cR at h;grind
def iY(r:bB)(u v:Int):Nat:=(v-(cR r).2.1).toNat*cf r+(u-(cR r).1).toNat
theorem anL{r:bB}{u v:Int}(h:dz r u v):w (w (w (w (v-r.2.1)*w (r.2.2.1-r.1))+u)-r.1)=(iY r u v:Int):=by
 have he:=ant h;have I:cR r=r:=by simp[cR,he,au]
 have hi:=Yb he;unfold dz at h;rw[I]at h;unfold iY cf;rw[I];obtain⟨a,U⟩:=fP (a:=v-r.2.1) (by omega)
 obtain⟨b,Z⟩:=fP (a:=r.2.2.1-r.1) (by omega)
 obtain⟨c,d⟩:=fP (a:=u-r.1) (by omega)
 have A:a*b<=8192*8192:=Gp (by omega) (by omega)
 rw[U,Z,aw (n:=(a)),aw (n:=(b)),<-kV];simp only[cU];generalize a*b=J at A|-;rw[aw (n:=(J)),aw (n:=(J)+u),aw];omega
theorem aat(r:bB)(u v:Int):Fs r u v=ab (bif iR r u v then(iY r u v:Int)else -1):=by
 unfold Fs;rw[akM,ah];cases h:iR r u v<;>first|rw[cg,au,ao,anL (IC.1 h)]|rfl
theorem QC{r:bB}{u v:Int}(h:dz r u v):iY r u v< cf r*hR r:=by
 unfold dz at h;unfold iY hR;have h1:(u-(cR r).1).toNat< cf r:=by grind[cf]
 have h2:(v-(cR r).2.1).toNat+1<=((cR r).2.2.2.1-(cR r).2.1).toNat:=by omega
 have A:=aik (cf r) h2;grind
def ee(r:bB)(f:Int->Int->Int):List Int:=(vu (cf r*hR r)).map λk=>f ((cR r).1+(k%cf r:Nat)) ((cR r).2.1+(k/cf r:Nat))
theorem SD(r:bB)(f:Int->Int->Int):(ee r f).length=cf r*hR r:=by simp[ee,gg,ahX]
theorem I1{r:bB}{u v:Int}(h:dz r u v):(cR r).1+(iY r u v%cf r:Nat)=u/\(cR r).2.1+(iY r u v/cf r:Nat)=v:=by
 unfold dz at h;have h1:(u-(cR r).1).toNat< cf r:=by grind[cf]
 have A:iY r u v%cf r=(u-(cR r).1).toNat:=by
  simp[iY,lJ,BQ,rH,h1]
 have I:iY r u v/cf r=(v-(cR r).2.1).toNat:=by
  unfold iY;rw[lJ,vz (by omega),tp h1,qi]
 omega
theorem ad7{r:bB}{f:Int->Int->Int}{u v:Int}(h:dz r u v):(ee r f)[iY r u v]? =ab (f u v):=by
 unfold ee;rw[List.getElem?_map,List.getElem?_range (QC h),Option.map_some,(I1 h).1,(I1 h).2]
theorem atP{r:bB}{f:Int->Int->Int}{L:List Int}(J:L.length=cf r*hR r)(h:∀u v,dz r u v->L[iY r u v]? =ab (f u v)):L=ee r f:=by
 apply List.ext_getElem?;intro k;by_cases I:k< cf r*hR r
 .have hw:0< cf r:=by
   grind
  have h1:k%cf r< cf r:=Nat.mod_lt _ hw;have h2:=Nat.div_lt_of_lt_mul I;have A:=Nat.div_add_mod k (cf r);obtain⟨hi,e⟩:dz r ((cR r).1+(k%cf r:Nat)) ((cR r).2.1+(k/cf r:Nat))/\iY r ((cR r).1+(k%cf r:Nat)) ((cR r).2.1+(k/cf r:Nat))=k:=by
   generalize k%cf r=p at h1 A|-;generalize k/cf r=q at h2 A|-;refine⟨?_,?_⟩
   .unfold dz;unfold cf at h1;unfold hR at h2;omega
   unfold iY;grind
  have:=h _ _ hi;rw[e]at this;rw[this,<-ad7 (f:=f) hi,e]
 rw[jF (by omega),jF (by grind[SD])]
end
section
theorem ace{x n:Int}(h1:1<=n)(h2:n<=1000000:=by omega)(J:-(1048576*n)<=x:=by omega)(U:x<=1048576*n:=by omega):Wq (pE x n) (λv=> -1048576<=v/\v<=1048576):=by
 unfold pE;rw[aw (n:=2*n),aw (n:=2*x),aw (n:=2*x+n),nG,nG];have A: -1048575<=(2*x+n).tdiv (2*n)/\(2*x+n).tdiv (2*n)<=1048576:=by
  rcases Int.lt_or_le (2*x+n) 0 with h|h
  .obtain ⟨t,I⟩:∃t,2*x+n= -t:=⟨-(2*x+n),by omega⟩
   rw[I,Int.neg_tdiv,o9 (by omega)]
   have:=BH (a:=t) (b:=1048576) (c:=2*n) (by omega) (by omega)
   have:=vk (a:=t) (b:=2*n) (by omega) (by omega)
   omega
  rw[o9 h];have:=BH (a:=2*x+n) (b:=1048577) (c:=2*n) (by omega) (by omega)
  have:=vk (a:=2*x+n) (b:=2*n) h (by omega)
  omega
 generalize(2*x+n).tdiv (2*n)=q at A|-;rw[aw (n:=q),aw (n:=q-1)];exact bE (λ_=>wS (by omega)) λ_=>wS (by omega)
theorem mulM{A a:Int}(hA:0<=A)(h1: -1048576<=a)(h2:a<=1048576): -(1048576*A)<=A*a/\A*a<=1048576*A:=by
 have I:=qf h1 hA;have J:=qf h2 hA;omega
theorem aja{a b c:aJ}(h:([a,b,c]:List aJ).all br=ag):br a=ag/\br b=ag/\br c=ag:=by
 grind
theorem ajb{a b c d:aJ}(h:([a,b,c,d]:List aJ).all br=ag):br a=ag/\br b=ag/\br c=ag/\br d=ag:=by
 grind
theorem adD{i n:Int}(h:uP i n=ag):0<=i/\i<=n:=by
 simp_all[uP,h,aM,lU,decide_eq_true_eq]
theorem acO{p:aJ}(h1: -1048576<=p.1/\p.1<=1048576)(h2: -1048576<=p.2.1/\p.2.1<=1048576):br p=ag:=by
 simp_all[br,aM,decide_eq_true_eq]
theorem Bd{a b:Int}(A:0<=a)(I:a<=64)(b0:0<=b)(J:b<=64:=by omega):0<=a*b/\a*b<=4096:=⟨n7 A b0,by have:=qe I J b0 (by omega);omega⟩
theorem aeg{k i a b c:Int}(I:0<=k)(J:0<=i)(f:1<=k+i)(g:k+i<=64)(U: -1048576<=a/\a<=1048576)(b0: -1048576<=b/\b<=1048576)(c0: -1048576<=c/\c<=1048576):
  Wq (pE (w (w (w (w (w k*w k)*a)+w (w (w (2*i)*w k)*b))+w (w (i*i)*c))) (w ((k+i)*(k+i)))) (λv=> -1048576<=v/\v<=1048576):=by
 have A:=Bd I (by omega) I
 have B:=Bd J (by omega) I
 have C:=Bd J (by omega) J
 have N:=FH f g;have e:k*k+2*i*k+i*i=(k+i)*(k+i):=by grind
 rw[aw (n:=k),aw (n:=2*i)];rw[kh 2 i k]at e|-;generalize k*k=p at A e|-;generalize i*k=q at B e|-;generalize i*i=r at C e|-;generalize(k+i)*(k+i)=n at N e|-;have ma:=mulM A.1 U.1 U.2;have mb:=mulM (A:=2*q) (by omega) b0.1 b0.2
 have h:=mulM C.1 c0.1 c0.2;rw[aw (n:=p),aw (n:=2*q),aw (n:=r),aw (n:=n)];generalize p*a=Z at ma|-;generalize 2*q*b=d at mb|-;generalize r*c=j at h|-;rw[aw (n:=Z),aw (n:=d),aw (n:=j),aw (n:=Z+d),aw];exact ace N.1
theorem amc(x:aJ×aJ×aJ×Unit)(n i:Int):br (gQ x n i)=ag:=by
 have d:([x.1,x.2.1,x.2.2.1]:List aJ).length<=big:=by simp[big]
 have key:Wq (uf x i n) (λv=>br v=ag):=by
  unfold uf;rw[JF d,ah];refine bE (λ_=>wS (by decide)) λh=>?_
  have h:=xk.1 h;rw[aM]at h;obtain⟨A,I,J⟩:=aja h.1;obtain⟨U,Z⟩:=Km h.2;obtain⟨c,l⟩:=adD h.2;have A:=iz A;have I:=iz I;have J:=iz J;obtain⟨k,rfl⟩:∃k,n=k+i:=⟨n-i,by omega⟩
  rw[ahv];exact wB (aeg (by omega) c U Z ⟨A.1,A.2.1⟩ ⟨I.1,I.2.1⟩ ⟨J.1,J.2.1⟩) λa f=>wB (aeg (by omega) c U Z A.2.2 I.2.2 J.2.2) λb g=>wS (acO f g)
 obtain⟨v,e,j⟩:=key;simp[gQ,e,j]
theorem LI{p b:Int}(p0:0<=p)(A:p<=4096)(b0:0<=b)(I:b<=64:=by omega):0<=p*b/\p*b<=262144:=⟨n7 p0 b0,by have:=qe A I b0 (by omega);omega⟩
theorem Xr{k i a b c d:Int}(I:0<=k)(J:0<=i)(f:1<=k+i)(g:k+i<=64)(h: -1048576<=a/\a<=1048576)(b0: -1048576<=b/\b<=1048576)(c0: -1048576<=c/\c<=1048576)(d0: -1048576<=d/\d<=1048576):
  Wq (pE (w (w (w (w (w (w (w k*w k)*w k)*a)+w (w (w (w (3*i)*w k)*w k)*b))+w (w (w (w (3*i)*i)*w k)*c))+w (w (w (i*i)*i)*d))) (w (w ((k+i)*(k+i))*(k+i)))) (λv=> -1048576<=v/\v<=1048576):=by
 have A:=Bd I (by omega) I
 have B:=Bd J (by omega) I
 have C:=Bd J (by omega) J
 have N:=FH f g;have j:=Xq f g;have l:=LI A.1 A.2 I;have t:=LI B.1 B.2 I;have u:=LI C.1 C.2 I;have m:=LI C.1 C.2 J;have e:k*k*k+3*(i*k*k)+3*(i*i*k)+i*i*i=(k+i)*(k+i)*(k+i):=by grind
 rw[aw (n:=k),aw (n:=3*i),aw (n:=k*k),kh 3 i k,aw (n:=3*(i*k)),kh 3 i i,aw (n:=3*(i*i)),aw (n:=i*i),aw (n:=(k+i)*(k+i)),kh 3 (i*k) k,kh 3 (i*i) k];generalize k*k*k=p at l e|-;generalize i*k*k=q at t e|-;generalize i*i*k=r at u e|-;generalize i*i*i=s at m e|-;generalize(k+i)*(k+i)*(k+i)=n at j e|-;have ma:=mulM l.1 h.1 h.2;have mb:=mulM (A:=3*q) (by omega) b0.1 b0.2
 have x:=mulM (A:=3*r) (by omega) c0.1 c0.2
 have y:=mulM m.1 d0.1 d0.2;rw[aw (n:=p),aw (n:=3*q),aw (n:=3*r),aw (n:=s),aw (n:=n)];generalize p*a=U at ma|-;generalize 3*q*b=Z at mb|-;generalize 3*r*c=o at x|-;generalize s*d=z at y|-;rw[aw (n:=U),aw (n:=Z),aw (n:=o),aw (n:=z),aw (n:=U+Z),aw (n:=U+Z+o),aw];exact ace j.1
theorem ama(x:aJ×aJ×aJ×aJ×Unit)(n i:Int):br (gC x n i)=ag:=by
 have f:([x.1,x.2.1,x.2.2.1,x.2.2.2.1]:List aJ).length<=big:=by simp[big]
 have key:Wq (ue x i n) (λv=>br v=ag):=by
  unfold ue;rw[JF f,ah];refine bE (λ_=>wS (by decide)) λh=>?_
  have h:=xk.1 h;rw[aM]at h;obtain⟨A,I,J,U⟩:=ajb h.1;obtain⟨Z,c⟩:=Km h.2;obtain⟨d,m⟩:=adD h.2;have A:=iz A;have I:=iz I;have J:=iz J;have U:=iz U;obtain⟨k,rfl⟩:∃k,n=k+i:=⟨n-i,by omega⟩
  rw[ahv];exact wB (Xr (by omega) d Z c ⟨A.1,A.2.1⟩ ⟨I.1,I.2.1⟩ ⟨J.1,J.2.1⟩ ⟨U.1,U.2.1⟩) λa g=>wB (Xr (by omega) d Z c A.2.2 I.2.2 J.2.2 U.2.2) λb j=>wS (acO g j)
 obtain⟨v,e,l⟩:=key;simp[gC,e,l]
end
section
def AO(l:List aJ):Prop:=∀p∈l,br p=ag
theorem AO.app{a b:List aJ}(h:AO a)(g:AO b):AO (a++b):=λp hp=>(cD.1 hp).elim (h p) (g p)
theorem AO.one{x:aJ}(h:br x=ag):AO [x]:=λp hp=>by grind
theorem Pb{g:Int->aJ}(h:∀i,br (g i)=ag):∀(k:Nat) (i:Int),AO (qG g i k)
 |0,_=>λp hp=>by cases hp
 |k+1,i=>λp hp=>by
  rcases du.1 hp with rfl|hp
  .exact h _
  exact Pb h k _ p hp
theorem avn{p:aJ}{s:ct}{t:Int}(h:br s.2.1=ag):AO (fM p s t).1:=by
 have n:AO []:=λp hp=>by cases hp
 unfold fM;cases aj s.1 3 with
 |true=>
  cases(!aj (qN (p,s.2.1,s.2.2.1,()) t).2.1 0)<;>first|exact Pb (λi=>amc _ _ _) _ _|exact n
 |false=>
  cases aj s.1 4 with
  |true=>
   cases(!aj (cN (p,s.2.1,s.2.2.1,s.2.2.2.1,()) t).2.1 0)<;>first|exact Pb (λi=>ama _ _ _) _ _|exact n
  |false=>exact AO.one h
theorem M9:∀(m l:List aJ),AO l->AO m->AO (mC l m)
 |[],l,h,_=>h
 |x::m,l,h,g=>by
  have hm:AO m:=λp hp=>g p (ff _ hp)
  unfold mC;cases nH (fc l) x<;>first|exact M9 m l h hm|exact M9 m _ (h.app (AO.one (g x (eh ..)))) hm
theorem awg{l:List aJ}(h:AO l):AO (o0 l):=by
 unfold o0;cases(ak 1 (l.length:Int)&&nH (fc l) ((l[0]?).getD z2))<;>first|exact λp hp=>h p (Vr hp)|exact h
def tq(q:List fj):Nat:=tt (q.map λp=>p.1)
theorem Uq(a b:List fj):tq (a++b)=tq a+tq b:=by simp[tq,ml,Bm]
theorem Ur(p:fj):tq [p]=p.1.length:=FT _
theorem HY{t:Int}:∀(l:List ct) (pre:List fj) (aV:List aJ) (cl:Bool) (q:List fj),(∀p∈pre,AO p.1)->AO aV->(∀s∈l,br s.2.1=ag)->lk t pre aV cl l=bb q->(∀p∈q,AO p.1)/\tq q<=tq pre+aV.length+64*l.length
 |[],pre,aV,cl,q,h1,h2,_,e=>by
  cases e;refine⟨λp hp=>?_,by rw[Uq,Ur];simp⟩
  rcases cD.1 hp with hp|hp
  .exact h1 p hp
  rw[gT.1 hp];exact h2
 |s::l,pre,aV,cl,q,h1,h2,Z,e=>by
  have I:=Z s (eh ..);have J:=λs I=>Z s (ff _ I)
  have e:(bif aj s.1 1 then lk t (pre++[(aV,cl,())]) [s.2.1] af l
   else bif !aj s.1 5 then(bif !aj (fM (fc aV) s t).2.1 0 then cF (fM (fc aV) s t).2.1 else lk t pre (mC aV (fM (fc aV) s t).1) cl l)
   else lk t pre (o0 aV) ag l)=bb q:=e
  rw[fH];cases hm:aj s.1 1 with
  |true=>
   rw[hm,ao]at e;have:=HY l _ _ _ q (λp hp=>by
    rcases cD.1 hp with hp|hp
    .exact h1 p hp
    rw[gT.1 hp];exact h2) (AO.one I) J e
   rw[Uq,Ur]at this;refine⟨this.1,b8 this.2 ?_⟩;simp only[fH,List.length_nil];omega
  |false=>
   rw[hm,au]at e;cases a:aj s.1 5 with
   |true=>
    rw[a,cg,au]at e;have U:=Us aV;have:=HY l _ _ _ q h1 (awg h2) J e;exact⟨this.1,by omega⟩
   |false=>
    rw[a,fO,ao]at e;cases A:aj (fM (fc aV) s t).2.1 0<;>first|rw[A,cg,au]at e;rw[fB,decide_eq_true_eq]at A;have n:=TM A;have U:=Ci (fM (fc aV) s t).1 aV;have:=HY l _ _ _ q h1 (M9 _ _ h2 (avn I)) J e;exact⟨this.1,by omega⟩|rw[A]at e;cases e
theorem YG{s:ct}(h:qE s=ag):br s.2.1=ag:=by
 unfold qE at h;rw[aM]at h;have h:=h.1;unfold mF at h;cases A:ai (nm s.1) 0 with
 |true=>rw[A]at h;rw[anH h];decide
 |false=>grind
theorem alZ(x:List ct)(t:Int):(∀p∈(kF x t).1,AO p.1)/\tq (kF x t).1<=64*x.length:=by
 have n:(∀p∈([]:List fj),AO p.1)/\tq []<=64*x.length:=⟨λp h=>(by cases h),bH _⟩
 unfold kF;cases hp:pB x with
 |false=>exact n
 |true=>
  cases rl t with
  |false=>exact n
  |true=>
   have hf:=as3 hp;unfold AD;cases A:Oh t [] x with
   |inr e=>exact n
   |inl q=>
    dsimp only;cases ak 4096 (jZ q)with
    |true=>exact n
    |false=>
     cases x<;>first|rename_i s l;have:=HY l [] [s.2.1] af q (λp h=>by cases h) (AO.one (YG (hf s (eh ..)).2)) (λs I=>YG (hf s (ff _ I)).2) A;refine⟨this.1,b8 this.2 ?_⟩;show 0+1+64*l.length<=64*(l.length+1);omega|cases A;exact n
theorem YQ:∀(l:List fj),(∀p∈l,AO p.1)->(∀r∈iX l,AO r)/\tt (iX l)<=tq l
 |[],_=>⟨λr h=>(by cases h),aL _⟩
 |p::l,h=>by
  have ih:=YQ l λq I=>h q (ff _ I)
  have e:tq (p::l)=p.1.length+tq l:=(Uq [p] l).trans (by rw[Ur])
  show(∀r∈(bif ai 3 (p.1.length)then p.1::iX l else iX l),AO r)/\tt (bif ai 3 (p.1.length)then p.1::iX l else iX l)<=_;rw[e];cases ai 3 (p.1.length)with
  |true=>
   refine⟨λr A=>?_,?_⟩
   .rcases du.1 A with rfl|A
    .exact h p (eh ..)
    exact ih.1 r A
   show tt ([p.1]++iX l)<=_;rw[Bm,FT];omega
  |false=>exact⟨ih.1,by rw[au];omega⟩
theorem agp{T:Af}:∀{x:List ct} {q:List ct},sW T x=bb q->q.length=x.length
 |[],q,e=>by cases e;rfl
 |s::l,q,e=>by
  unfold sW at e;cases h1:Bl T s with
  |inr v=>rw[h1]at e;cases e
  |inl v=>
   rw[h1]at e;cases h2:sW T l<;>first|rw[h2]at e;cases e;rw[fH,fH,agp h2]|rw[h2]at e;cases e
theorem awd(x:List ct)(T:Af):(iB x T).1.length<=x.length:=by
 unfold iB;cases pB x with
 |false=>simp
 |true=>
  unfold RZ;cases h:sW T x with
  |inr e=>simp
  |inl q=>exact Nat.le_of_eq (agp h)
theorem alO(x:List ct)(T:Af)(t:Int):(∀r∈(pC x T t).1,AO r)/\tt (pC x T t).1<=64*x.length:=by
 have n:(∀r∈([]),AO r)/\tt ([]:List (List aJ))<=64*x.length:=⟨λp h=>(by cases h),bH _⟩
 unfold pC;cases aj (iB x T).2.1 0 with
 |false=>exact n
 |true=>
  cases aj (kF (iB x T).1 t).2.1 0
  .exact n
  obtain⟨k1,k2⟩:=alZ (iB x T).1 t;obtain⟨A,I⟩:=YQ _ k1;have:=awd x T;grind
theorem ad4:∀(n:Nat) (x:List (List aJ)),(∀r∈x,AO r)->n+tt x<=4096->sG n x=ag
 |n,[],_,_=>rfl
 |n,r::l,h,I=>by
  have e:tt (r::l)=r.length+tt l:=(Bm [r] l).trans (by rw[FT])
  rw[SC,bc,au,lI.2 (h r (eh ..)),ao];exact ad4 _ l (λq A=>h q (ff _ A)) (by omega)
end
section
def B8(n:Int):Prop:=0<=n/\n<=255
def mP(a b:Int):Int:=(2*(a*b)+255)/510
theorem VX{a b:Int}(A:B8 a)(I:B8 b):0<=a*b/\a*b<=255*a/\a*b<=255*b:=by
 have h1:=n7 A.1 I.1;have h2:=qf I.2 A.1;have J:=Int.mul_le_mul_of_nonneg_right A.2 I.1;omega
theorem abY{a b:Int}(A:B8 a)(I:B8 b):B8 (mP a b)/\mP a b<=a/\mP a b<=b:=by
 have:=VX A I;grind[mP,B8]
theorem arY{x:Int}(A:0<=x)(h1:x<=65025:=by omega):Ha x 1=ab (0,x,()):=by
 unfold Ha;rw[kz 1,Js (t:=x) A,Js (t:=1),show x%4294967296=x by omega]
 have z:wu 0=0:=bO;have I:wu (((word .u64 0).land 4294967295))=0:=(Js (t:=0)).trans rfl;simp only[Int.mul_zero,lH,z,I,show(0:Int).fdiv 4294967296=0 from rfl,show(1:Int)/4294967296=0 from rfl,show(1:Int)%4294967296=1 from rfl,Int.mul_one,bO (n:=x) A (show x< 18446744073709551616 by omega),kz x,show x/4294967296=0 by omega]
theorem ak6{x:Int}(A:0<=x)(h1:x<=65025:=by omega):G8 0 x 255=ab (x/255,x%255,()):=by
 unfold G8 WC WB;rw[nG (by decide),iZ,dh (x:=255) (y:=0) (by decide),au,iZ,cT rfl,ao,nG (by decide),nG (by decide),o9 A,Gd A,bO]
theorem atu{a b:Int}(A:B8 a)(I:B8 b):IX a b=ab (mP a b):=by
 have h:=VX A I;have J:=(abY A I).1;obtain⟨d,e⟩:=A;obtain⟨b0,f⟩:=I;unfold IX Qt Qu;rw[aw (n:=a),aw (n:=b)];unfold mP at J|-;unfold B8 at J;generalize a*b=p at h J|-;have sz:∀n:Int,0<=n->n<=65025->zY n=ab n:=λn Z g=>by
  unfold zY;rw[bc Z,au,bO]
 rw[aw (n:=p),bK (x:=255) (y:=0) (by decide),au,sz p h.1 (by omega),ah,sz 1 (by decide) (by decide),ah,arY h.1,ah,sz 255 (by decide) (by decide),ah]
 have key:IY (0,p,255,())=ab ((2*p+255)/510,ag,()):=by
  unfold IY;dsimp only;rw[dh (x:=255) (y:=0) (by decide),au,ak6 h.1,ah]
  dsimp only;rw[bO (n:=255-p%255)];by_cases c:255-p%255<=p%255
  .rw [bV c,ao,bO,bK,fO,show p/255+1=(2*p+255)/510 by omega]
  rw[dh,au,show p/255=(2*p+255)/510 by omega]
 rw[key,ah];dsimp only;rw[bc (x:=9223372036854775808),cg,nS,ah,nS,bK (y:=9223372036854775808),tN,ah,ah,au,bc (x:=p) h.1,bc (x:=1) (y:=0) (by decide),bc (x:=255) (y:=0) (by decide)]
 show(aix (aix (bt (aB ((),(),())) (Qv ((2*p+255)/510,ag,()))) λU=>ab U.1) λU=>ab (wr .u8 U))=_
 rw[iZ];unfold Qv;rw[ah,ah];dsimp only;rw[aw,agJ];congr 1;omega
end
section
abbrev SM:=(Int×Unit)×(og×Unit)×Unit
structure Rc(r:bB):Prop where
 c:cR r=r
 a:cf r*hR r<=65536
theorem Rc.zS{r:bB}(h:Rc r): -4096<=r.1/\r.1<=r.2.2.1/\r.2.2.1<=4096/\ -4096<=r.2.1/\r.2.1<=r.2.2.2.1/\r.2.2.2.1<=4096:=by
 have:=WS r;simp_all[h.c]
theorem Rc.w{r:bB}(h:Rc r):(cf r)=r.2.2.1-r.1:=by
 have:=h.zS;grind[cf,h.c]
theorem Rc.h{r:bB}(h:Rc r):(hR r)=r.2.2.2.1-r.2.1:=by
 have:=h.zS;grind[hR,h.c]
theorem Rc.i{r:bB}(h:Rc r){u v:Int}:dz r u v↔r.1<=u/\u< r.2.2.1/\r.2.1<=v/\v< r.2.2.2.1:=by
 simp[dz,h.c]
def qV r(f:Int->Int->Int) n:=(vu n).map λk=>f (r.1+(k%cf r:Nat)) (r.2.1+(k/cf r:Nat))
theorem atM{r:bB}(h:Rc r) f:qV r f (cf r*hR r)=ee r f:=by
 simp[qV,ee,h.c]
theorem atN r f n:(qV r f n).length=n:=by simp[qV,gg]
theorem atO{r:bB}{f:Int->Int->Int}{i j:Nat}(hi:i< cf r:=by omega):qV r f (j*cf r+i)++[f (r.1+(i)) (r.2.1+(j))]=qV r f (j*cf r+(i+1)):=by
 unfold qV;rw[<-Nat.add_assoc,List.range_succ,ml,List.map_singleton];have A:(j*cf r+i)%cf r=i:=by rw[lJ,BQ,rH hi]
 have I:(j*cf r+i)/cf r=j:=by rw[lJ,vz (by omega),tp hi,qi]
 rw[A,I]
theorem auU{r:bB}{i j:Nat}(hi:i<=cf r)(A:j< hR r:=by omega):j*cf r+i<=cf r*hR r:=by
 have I:=aik (cf r) (show j+1<=hR r from A);grind
theorem abB{ρ:Type}{FJ:SM->SM->Option (SM⊕SM⊕ρ)}{A:SM->Option (SM⊕ρ)}{r:bB}(h:Rc r){f:Int->Int->Int}{fin:bB->List Int->ρ}
  (c:∀s,A s=bif ak s.1.1 s.2.1.1.1.2.2.2.1 then aA (FJ s) ((s.2.1.1.1.1,()),((s.2.1.1.1,s.2.1.1.2.1,()),()),())else az (fin s.2.1.1.1 s.2.1.1.2.1))
  (hI:∀I u L,dz r u I.1.1->L.length< 65536->FJ I ((u,()),((r,L,()),()),())=ab (.inl ((u+1,()),((r,L++[f u I.1.1],()),()),())))
  (d:∀I u L,r.2.2.1<=u->FJ I ((u,()),((r,L,()),()),())=ab (.inr (.inl ((w (I.1.1+1),()),((r,L,()),()),())))):
  aA A ((r.2.1,()),((r,[],()),()),())=ab (fin r (ee r f)):=by
 have hi:=h.zS;have hw:=h.w;have m:=h.h;have key:Wq (aA A ((r.2.1,()),((r,[],()),()),())) (λv=>v=fin r (ee r f)):=by
  refine cL (λs=>∃j:Nat,j<=hR r/\s=((r.2.1+(j),()),((r,qV r f (j*cf r),()),()),())) (λs=>(r.2.2.2.1-s.1.1).toNat) ⟨0,bH _,by simp[qV]⟩ ?_
  rintro _ ⟨j,n,rfl⟩;rw[c];dsimp only;refine bE (λJ=>?_) λU=>(dC _ _).2 ?_
  .have J:=cZ.1 J;refine cL (λs=>∃i:Nat,i<=cf r/\s=((r.1+(i),()),((r,qV r f (j*cf r+i),()),()),())) (λs=>(r.2.2.1-s.1.1).toNat) ⟨0,bH _,by simp⟩ ?_
   rintro _ ⟨i,g,rfl⟩;by_cases o:r.1+(i)< r.2.2.1
   .have k:=auU (r:=r) (i:=i+1) (by omega) (j:=j)
    have p:=h.a;rw[hI _ _ _ (h.i.2 (by dsimp only;omega)) (by grind[atN]),jg,bZ]
    dsimp only;rw[atO];exact⟨⟨i+1,by omega,by grind⟩,by omega⟩
   rw[d _ _ _ (by omega),jg,lr,bZ]
   have Z:i=cf r:=by omega
   subst Z;dsimp only;refine⟨⟨j+1,by omega,?_⟩,by rw[aw];omega⟩
   rw[aw,Nat.add_mul,Nat.one_mul,Int.natCast_add,<-Int.add_assoc];rfl
  have U:=jt.1 U;have b:j=hR r:=by omega
  rw[b,lJ,atM h,lr]
 obtain⟨v,e,l⟩:=key;rw[e,l]
theorem Fp{z:bB}(h:cf z*hR z<=65536):Rc (cR z):=⟨He z,by simp[UB,Pm,h]⟩
theorem EL z f:ee (cR z) f=ee z f:=by simp[ee,UB,Pm,He]
def rE(z:bB):Int:=bif !vR z then 6 else bif ak 65536 (cf z*hR z:Nat)then 5 else 0
theorem Fl{z:bB}(h:rE z=0):vR z=ag/\cf z*hR z<=65536:=by
 unfold rE at h;cases I:vR z with
 |false=>grind
 |true=>
  cases A:ak 65536 ((cf z*hR z))<;>first|exact⟨rfl,by have:=jt.1 A;omega⟩|grind
theorem awp{z:bB}(I:rE z=0) v:Ah z v=ab ((cR z,ee z λ_ _=>v,()),0,()):=by
 obtain⟨h1,h2⟩:=Fl I;unfold Ah;rw[LY,ah,h1,Ch,ah,bc,zj,<-EL];refine abB (Fp h2) (FJ:=JC v) (fin:=λr L=>((r,L,()),0,())) (λs=>rfl) (λJ u L A U=>?_) λJ u L A=>?_
 .have A:=(Fp h2).i.1 A;have:=(Fp h2).zS;unfold JC;dsimp only;rw[bh A.2.1,cS (m8),aw];rfl
 unfold JC;rw[bc A];rfl
theorem abA{r:bB}{f:Int->Int->Int}{u v:Int}(h:dz r u v):D4 (r,ee r f,()) u v=ab (f u v):=by
 unfold D4 aQ;rw[aat,ah,IC.2 h,ao,cU,ad7 h];rfl
abbrev tR4:=Ty.st 4 ((Ty.int .i64).cn ((Ty.int .i64).cn ((Ty.int .i64).cn ((Ty.int .i64).cn Ty.nl))))
theorem Yk{a b:bB}:cJ tR4 a b=ag↔a=b:=by
 obtain⟨A,I,J,U,⟨⟩⟩:=a;obtain⟨Z,c,d,e,⟨⟩⟩:=b;show(aj A Z&&(aj I c&&(aj J d&&(aj U e&&ag))))=ag↔_;simp[Bool.and_true,aM,sf]
theorem arL{r:bB}(h:Rc r) f:JD (r,ee r f,())=ab ag:=by
 have A:=h.a;unfold JD;dsimp only;rw[Ch,ah,zj,ah,h.c,show cJ _ r r=ag from Yk.2 rfl,ot,ah,bV,ot,ah,SD,cT rfl]
theorem anE{r:bB}(h:Rc r):Lg r r=ab r:=by
 unfold Lg;simp[zj,ah,congrArg,ab,h.c]
def dZ(r:bB)(fs:List (Int->Int->Int)):List og:=fs.map λf=>(r,ee r f,())
def uR(f0:Int->Int->Int)(fs:List (Int->Int->Int))(u v:Int):=fs.foldl (λa f=>mP a (f u v)) (f0 u v)
theorem Rt{r:bB}{fs:List (Int->Int->Int)}{i:Nat}{m:og}(h:(dZ r fs)[i]? =ab m):∃f,fs[i]? =ab f/\m=(r,ee r f,()):=by
 unfold dZ at h;grind
theorem qO r fs:(dZ r fs).length=fs.length:=gg ..
theorem ajc{r:bB}(h:Rc r) fs(U:fs.length<=1000):JE (dZ r fs)=ab ag:=by
 have A:=qO r fs;have key:Wq (JE (dZ r fs)) λb=>b=ag:=by
  refine cL (λs=>0<=s.1.1) (λs=>((fs.length:Int)-s.1.1).toNat) (cr _) ?_
  rintro⟨⟨i,⟨⟩⟩,⟨⟩,⟨⟩⟩ I;unfold abF Rn;refine bE (λhi=>gz I (cZ.1 hi) λm e _=>?_) λ_=>(dC _ _).2 rfl
  have hi:=cZ.1 hi;obtain⟨f,_,rfl⟩:=Rt e;rw[arL h,ah,ah,cg,au,bX,bZ,aw];grind
 obtain⟨b,e,J⟩:=key;rw[e,J]
theorem Sq{f0:Int->Int->Int}{u v:Int}:∀(fs:List (Int->Int->Int)) a,B8 a->(∀f∈fs,B8 (f u v))->B8 (fs.foldl (λa f=>mP a (f u v)) a)
 |[],a,h,_=>h
 |f::fs,a,h,hf=>Sq (f0:=f0) fs _ (abY h (hf f eh ..)).1 λg A=>hf g (ff _ A)
theorem ar2{r:bB}(h:Rc r) f0 fs(q:fs.length<=100)(U:∀f∈f0::fs,∀u v,B8 (f u v)):JA (dZ r (f0::fs))=ab ((r,ee r (uR f0 fs),()),0,()):=by
 have Z:(dZ r (f0::fs)).length=fs.length+1:=qO r _;have k:=h.zS;have g:(dZ r (f0::fs))[0]? =ab (r,ee r f0,()):=rfl;unfold JA;rw[ajc h _ (by simp;omega),ah,cg,au,Z,bK,au,g,ah]
 have I:aA (abE (dZ r (f0::fs))) ((r.2.1,()),((r,[],()),()),())=ab ((r,ee r (uR f0 fs),()),0,()):=by
  refine abB h (FJ:=JB (dZ r (f0::fs))) (fin:=λr L=>((r,L,()),0,())) (λs=>rfl) (λA u L J t=>?_) (λA u L J=>?_)
  .have b:=h.i.1 J;unfold JB;rw[bh b.2.1,ao,g,ah,abA J,ah,cS (bV)];have l:List.take ((dZ r (f0::fs)).length-1) (List.drop 1 (dZ r (f0::fs)))=dZ r fs:=by
    exact rG (by simp[qO])
   have key:Wq (aA (Rl (dZ r (f0::fs)) A ((u,()),((r,L,()),()),())) ((f0 u A.1.1,0,()),(),())) (λv=>v=.inl ((u+1,()),((r,L++[uR f0 fs u A.1.1],()),()),())):=by
    refine cL (λs=>∃i:Nat,i<=fs.length/\s=(((fs.take i).foldl (λa f=>mP a (f u A.1.1)) (f0 u A.1.1),(i:Int),()),(),())) (λs=>((fs.length:Int)-s.1.2.1).toNat) ⟨0,bH _,rfl⟩ ?_
    rintro _ ⟨i,n,rfl⟩;have o:B8 ((fs.take i).foldl (λa f=>mP a (f u A.1.1)) (f0 u A.1.1)):=Sq (f0:=f0) _ _ (U f0 (eh ..) _ _) λf hf=>U f (ff _ (Vr hf)) _ _
    unfold Rl;dsimp only;rw[l,qO];refine bE (λhi=>gz (by omega) (by simp_all[qO,cZ,hi]) λm e _=>?_) λhi=>?_
    .have hi:=cZ.1 hi;rw[cU]at e;obtain⟨f,j,rfl⟩:=Rt e;rw[abA J,ah,atu o (U f (ff _ (List.mem_of_getElem? j)) _ _),ah,bX,bZ,aw];refine⟨⟨i+1,by omega,?_⟩,by dsimp only;omega⟩
     simp[yD,j]
    have hi:=jt.1 hi;rw[cS (m8),fG,bX,dC,aw,rG (by omega)]
    rfl
   obtain⟨v,e,d⟩:=key;rw[e,d]
  unfold JB;rw[bc J];rfl
 have key:Wq (aA (Rm (dZ r (f0::fs))) ((0,()),(r,()),())) (λv=>v=((r,ee r (uR f0 fs),()),0,())):=by
  refine cL (λs=>0<=s.1.1/\s.2.1.1=r) (λs=>((fs.length:Int)+1-s.1.1).toNat) ⟨cr _,rfl⟩ ?_
  rintro⟨⟨i,⟨⟩⟩,⟨w,⟨⟩⟩,⟨⟩⟩ ⟨p,e⟩;unfold Rm;dsimp only at*;subst e;refine bE (λhi=>gz p (cZ.1 hi) λm e _=>?_) λ_=>?_
  .have hi:=cZ.1 hi;obtain⟨f,_,rfl⟩:=Rt e;rw[anE h,ah,bX,bZ,aw];grind
  rw[zj,ah,h.c,I,ah,dC,lr]
 obtain⟨v,e,d⟩:=key;rw[e,d]
end
section
theorem auL{a b n:Nat}(h:a+b<=4000000:=by omega)(A:n<=1000:=by omega):bW (a+b) n=ag:=by
 have:=Gp h A;exact jA
theorem akW{α:Type}(a b:List α):(cx a b).length=a.length+b.length:=by rw[kx,dH]
theorem akN{x:List (List aJ)}(h:jM x)(p:tt x<=1560):Wq (TT x) (λl=>l.length<=10000):=by
 have q:=h.1;refine cL (λs=>0<=s.1.2.1/\s.1.2.1<=(x.length:Int)/\0<=s.1.1/\s.1.1<=((tt (x.take s.1.2.1.toNat)):Int)) (λs=>((x.length:Int)-s.1.2.1).toNat) ⟨cr _,by simp,cr _,by simp⟩ ?_
 rintro⟨⟨n,i,⟨⟩⟩,⟨⟩,⟨⟩⟩ ⟨d,t,f,u⟩;have g:=sY x i.toNat;dsimp only at*;refine bE (λhi=>?_) λhi=>?_
 .refine gz d (cZ.1 hi) λr e U=>?_
  have k:=x9 e;have Z:=h.2 r U;rw[aw (n:=n+r.length),aw (n:=i+1)];refine bE (λA=>?_) λ_=>?_
  .have A:=cZ.1 A;omega
  rw[bX,bZ];grind
 refine wB (P:=λl=>l.length<=10000) ?_ λr Z=>(dC _ _).2 Z
 rw[bc f,au];have lp:∀st,(∀a j,st ((a,j,()),(),())=bif ak j (x.length)then aQ x j λy=>aT (bW (a.length+y.length) 16) (aB ((cx a y,w (j+1),()),(),()))else az a)->Wq (aA st (([],0,()),(),())) (λl=>l.length<=10000):=λst J=>by
  refine cL (λs=>0<=s.1.2.1/\s.1.2.1<=(x.length:Int)/\s.1.1.length<=tt (x.take s.1.2.1.toNat)) (λs=>((x.length:Int)-s.1.2.1).toNat) ⟨cr _,by simp,bH _⟩ ?_
  rintro⟨⟨a,j,⟨⟩⟩,⟨⟩,⟨⟩⟩ ⟨m,v,z⟩;have o:=sY x j.toNat;rw[J];dsimp only at*;refine bE (λI=>?_) λI=>(dC _ _).2 (show a.length<=10000 by omega)
  have I:=cZ.1 I;refine gz m I λr e U=>?_
  have k:=x9 e;have c:=sY x (j.toNat+1);refine j0 (auL (a:=a.length) (b:=r.length)) ?_;rw[bX,bZ,aw];dsimp only;rw[akW,show(j+1).toNat=j.toNat+1 by omega]
  omega
 unfold afL;rw[Int.sub_zero,aw (n:=n)];refine bE (λA=>?_) λ_=>lp _ λa j=>rfl
 have A:=cZ.1 A;exact j0 (by rw[oo,cZ,Tv];omega) (j0 (by grind) (lp _ λa j=>rfl))
theorem ajW{x:List (List aJ)}(h:jM x)(I:tt x<=1560):Wq (Sl x) T:=by
 refine wB (akN h I) λl d=>?_
 have A:Wq (aW (aj l.length 0) ((sC x).bind λJ=>ab !J)) λc=>c=af->l.length≠0:=by
  simp_all[FY,wj,EK,h,wS]
 refine wB A λc U=>bE (λ_=>tS) λh=>?_
 have:=U h;refine FV (by omega) λp _=>FV (by omega) λq _=>?_
 refine cL (λs=>0<=s.1.1) (λs=>((l.length:Int)-s.1.1).toNat) (cr _) ?_
 rintro⟨⟨i,⟨⟩⟩,⟨a,b,⟨⟩⟩,⟨⟩⟩ Z;refine bE (λhi=>gz Z (cZ.1 hi) λ_ _ _=>?_) λ_=>(dC _ _).2 trivial
 have hi:=cZ.1 hi;rw[bX,bZ,aw];grind
theorem atq{x:List (List aJ)}(h:jM x)(A:tt x<=1560):Wq (EH x) T:=by
 unfold EH Ku;refine wB (ajW h A) λb _=>bE (λ_=>tS) λ_=>?_
 rw[ah,ah];exact wB (nZ tS) λ_ _=>bE (λ_=>tS) λ_=>tS
def NU(x:List (List aJ)):bB:=(EH x).getD (0,0,0,0,())
def tV(b:bB)(u v:Int):=ai b.1 u&&ak u b.2.2.1&&ai b.2.1 v&&ak v b.2.2.2.1
def kP(x:List (List aJ))(A u v:Int):=bif tV (NU x) u v then(Hp x A u v).getD 0 else 0
theorem atK{x:List (List aJ)}(h:jM x)(I:tt x<=1560) A u v:B8 (kP x A u v):=by
 unfold kP;cases tV _ u v<;>first|obtain⟨n,e,J⟩:=WR h I _ u v;rw[e];exact J|rw[au];exact⟨by decide,by decide⟩
theorem anJ{r:bB}{u v A I:Int}(h:dz r u v)(h':dz r A I)(e:iY r u v=iY r A I):u=A/\v=I:=by
 have a:=I1 h;have b:=I1 h';grind
def B0(r:bB)(F:Int->Int->Int)(y u:Int)(L:List Int):=L.length=cf r*hR r/\∀a b,dz r a b->L[iY r a b]? =ab (bif ak b y||aj b y&&ak a u then F a b else 0)
theorem akR{x:List (List aJ)}(h:jM x)(F:tt x<=1560)(B:sG 0 x=ag){A:Int}(H:A=1∨A=2){z:bB}(G:rE z=0):zp x A z=ab ((cR z,ee z (kP x A),()),0,()):=by
 obtain⟨h1,h2⟩:=Fl G;have d:=Fp h2;have K:=d.zS;have f:(aG (!aj A 1) (ab !aj A 2))=ab af:=by
  rcases H with rfl|rfl
  .rw [cT rfl];rfl
  rw[cT (x:=2) (y:=2) rfl,cO,cg,yh]
 unfold zp;rw[EK h,ah,B,cg,au,f,ah,au,LY,ah,h1,cg,au,Ch,ah,bc,au,iZ]
 unfold Xo;have k:=d.a;rw[zj,ah,Ch,ah,cS (by rw[oo,iw,oo,iw,iw];omega),<-EL]
 obtain⟨I,l,_⟩:=atq h F;have m:NU x=I:=by simp[NU,l]
 rw[l,ah,cU];generalize M:cR z=r at*;have P:=kP x A;have out:∀a b,tV I a b=af->kP x A a b=0:=λa b Z=>by simp[kP,m,Z]
 have key:Wq (aA (Om x A r I) ((r.2.1,()),(),bP (cf r*hR r) (0:Int),())) (λv=>v=((r,ee r (kP x A),()),0,())):=by
  refine cL (λs=>r.2.1<=s.1.1/\s.1.1<=r.2.2.2.1/\B0 r (kP x A) s.1.1 r.1 s.2.2.1) (λs=>(r.2.2.2.1-s.1.1).toNat) ⟨cr _,by dsimp only;omega,by simp,λa b hi=>?_⟩ ?_
  .have J:=d.i.1 hi;dsimp only;rw[List.getElem?_replicate,aK (QC hi),bc,Bz,bc,yh,au]
  rintro⟨⟨y,⟨⟩⟩,⟨⟩,⟨L,⟨⟩⟩⟩ ⟨Q,R,o⟩;unfold Om;dsimp only at*;refine bE (λp=>?_) λp=>?_
  .have p:=cZ.1 p;rw[aw (n:=y+1),cI,ah]
   have done:∀(u:Int) (C:List Int),B0 r (kP x A) y u C->(∀a,r.1<=a->a< r.2.2.1->u<=a->kP x A a y=0)->B0 r (kP x A) (y+1) r.1 C:=λu C q G=>⟨q.1,λa b hi=>by
    have J:=d.i.1 hi;rw[q.2 a b hi];by_cases Z:b< y
    .rw [bh Z,bh (x:=b) (y:=y+1),vg,vg]
    by_cases U:b=y
    .subst U;rw[bc (cr b),cT rfl,Bz,lG,bh (x:=b) (y:=b+1),vg,ao]
     by_cases k:a< u
     .rw [bh k,ao]
     grind
    rw[bc (x:=b) (y:=y),bK U,bc (x:=b) (y:=y+1),bc J.1,yh,n5]⟩
   refine bE (λc=>?_) λc=>?_
   .rw [bX,bZ];refine⟨⟨by dsimp only;omega,by dsimp only;omega,done _ _ o λa _ _ _=>out a y ?_⟩,by dsimp only;omega⟩
    unfold tV;rw[Bool.or_eq_true,cZ,iw]at c;rcases c with c|c
    .rw [dh (x:=I.2.1) c,yh,n5]
    rw[bc (y:=I.2.2.2.1) c,yh]
   rw[jD,jt,wZ]at c;have D:(bif ai r.1 I.1 then I.1 else r.1)=max r.1 I.1:=by
    by_cases g:r.1<=I.1
    .rw [bV g,ao];omega
    rw[dh,au];omega
   have E:(bif ai r.2.2.1 I.2.2.1 then r.2.2.1 else I.2.2.1)=min r.2.2.1 I.2.2.1:=by
    by_cases g:r.2.2.1<=I.2.2.1
    .rw [bV g,ao];omega
    rw[dh,au];omega
   rw[D];have b0:∀a,tV I a y=af∨(I.1<=a/\a< I.2.2.1):=λa=>by
    unfold tV;by_cases S:I.1<=a
    .by_cases T:a< I.2.2.1<;>try grind
     rw[bc (x:=a),yh,n5];simp
    rw[dh (x:=I.1),n5,n5];simp
   have start:B0 r (kP x A) y (max r.1 I.1) L:=⟨o.1,λa b hi=>by
    have J:=d.i.1 hi;rw[o.2 a b hi,bc (x:=a) (y:=r.1) J.1,yh,vf];by_cases Z:b< y<;>try(rw[bh Z,vg];done)
    rw[bc (x:=b) (y:=y),Bz,au]
    by_cases U:b=y
    .subst U;rw[cT rfl,lG];by_cases k:a< max r.1 I.1
     .grind
     rw[bc (x:=a),au]
    rw[bK U,n5,au]⟩
   refine cL (λs=>max r.1 I.1<=s.1.1/\B0 r (kP x A) y s.1.1 s.2.2.1) (λs=>(r.2.2.1-s.1.1).toNat) ⟨cr _,start⟩ ?_
   rintro⟨⟨u,⟨⟩⟩,⟨⟩,⟨V,⟨⟩⟩⟩ ⟨W,j⟩;unfold Xn;dsimp only at*;rw[E];refine bE (λt=>?_) λt=>?_
   .have t:=cZ.1 t;have hi:dz r u y:=d.i.2 (by omega)
    have N:=QC hi;obtain⟨n,e,X⟩:=WR h F A u y;rw[aat,ah,IC.2 hi,ao,e,ah];refine dG (by omega) (by rw[j.1];omega) λ_ _ _=>?_
    rw[bX,bZ,aw,cU]
    have hF:kP x A u y=n:=by
     unfold kP;rw[m,e];have:tV I u y=ag:=by
      unfold tV;rw[bV,bh,bV,bh];rfl
     simp[this]
    refine⟨⟨by dsimp only;omega,by dsimp only;rw[fQ];exact j.1,λa b w=>?_⟩,by dsimp only;omega⟩
    dsimp only;rw[List.getElem?_set];by_cases g:iY r u y=iY r a b
    .obtain ⟨rfl,rfl⟩:=anJ hi w g;rw[aK rfl,aK (by grind),bc (cr y),cT rfl,bh (x:=u) (y:=u+1),hF]
     rfl
    rw[ax g,j.2 a b w];by_cases Z:b=y
    .subst Z;have O:a≠u:=λe=>g (by rw[e])
     rw[cT rfl,lG,lG];by_cases k:a< u
     .rw [bh k,bh (x:=a) (y:=u+1)]
     rw[bc (x:=a) (y:=u),bc (x:=a) (y:=u+1)]
    simp[bK,Z,n5]
   have t:=jt.1 t;rw[dC,lr,bZ,aw]
   grind
  have p:=jt.1 p;rw[dC,lr];have:y=r.2.2.2.1:=by omega
  rw[atP o.1 λa b hi=>?_]
  have J:=d.i.1 hi;rw[o.2 a b hi,bh,vg,ao]
 obtain⟨v,e,B⟩:=key;rw[e,B]
end
section
def mn(n:Nat):Int:=bif ai n 100 then n else 100
theorem abV n:0<=mn n/\mn n<=100/\(mn n<=24->n<=24):=by
 unfold mn;by_cases h:n<=100
 .grind
 rw[dh,au];omega
theorem afQ{x:bY}(h:fI x)(d:x.2.2.2.1.length<=big):∀(k i:Nat) (n:Int),i+k=x.2.2.2.1.length->0<=n->n<=100*i->(∀j,(A:j< x.2.2.2.1.length)->j< i->mn x.2.2.2.1[j].2.2.2.2.1.length<=n)->∃b,aA (wX x) ((n,(i:Int),()),(),())=ab b/\(b=ag->∀j,(A:j< x.2.2.2.1.length)->x.2.2.2.1[j].2.2.2.2.1.length<=24)
 |0,i,n,f,g,m,I=>by
  have e:wX x ((n,(i:Int),()),(),())=az (ai (x.2.2.2.1.length:Int) 8&&ai n 24):=by
   unfold wX;dsimp only;rw[bc,au,cO];rfl
  refine⟨_,cP e,λJ j A=>?_⟩
  rw[aM,iw,iw]at J;have:=I j A (by omega)
  exact(abV _).2.2 (by omega)
 |k+1,i,n,f,g,m,U=>by
  have hi:i< x.2.2.2.1.length:=by omega
  have I:=h _ (gR hi);have o:x.2.2.2.1.length<=1099511627776:=d;have p:=abV x.2.2.2.1[i].2.2.2.2.1.length;have key:wX x ((n,(i:Int),()),(),())=ab (cF af)∨wX x ((n,(i:Int),()),(),())=ab (bb ((n+mn x.2.2.2.1[i].2.2.2.2.1.length,((i+1:Nat):Int),()),(),())):=by
   unfold wX;dsimp only;rw[bh,ao,cH hi,afG,ah,cI,ah,cI,ah,cI,ah,cI,ah,cI,ah];generalize(!FF x.2.2.2.1[i].2.2.2.1||_||_||_||_||_)=c
   cases c with
   |true=>exact .inl rfl
   |false=>
    rw[au];have Z:aA (Jl ((n,(i:Int),()),(),()) x.2.2.2.1[i]) ((0,()),(),())=ab (bif[x.2.2.2.1[i].2.2.2.2.2.2.2.2.2.2.2.2.1,x.2.2.2.1[i].2.2.2.2.2.2.2.2.2.2.2.2.2.2.1].all (λl=>l.all xW)then bb ((n+mn x.2.2.2.1[i].2.2.2.2.1.length,((i+1:Nat):Int),()),(),())else cF af):=by
     refine rU _ (λl:List eS=>l.all xW) (cF af) (bb _) (λj A=>?_) ?_
     .have q:j< 2:=A;unfold Jl;dsimp only;rw[bh,ao,uz A];have a:([x.2.2.2.1[i].2.2.2.2.2.2.2.2.2.2.2.2.1,x.2.2.2.1[i].2.2.2.2.2.2.2.2.2.2.2.2.2.2.1][j]).length<=big:=by
       rcases j with _|_|j<;>try(first|exact I.sl|omega;done)
       exact I.fl
      rw[avG a];dsimp only;rw[aw];cases List.all _ xW<;>rfl
     unfold Jl;dsimp only;rw[bc,au,aw (n:=(i:Int)+1)];show az (bb ((w (n+mn _),_,()),(),()))=_;rw[aw];rfl
    rw[Z];cases List.all _ (λl:List eS=>l.all xW)with
    |true=>exact .inr rfl
    |false=>exact .inl rfl
  rcases key with e|e
  .exact ⟨_,cP e,λJ=>by cases J⟩
  rw[eY e];refine afQ h d k (i+1) _ (by omega) (by omega) (by omega) λj A r=>?_
  by_cases s:j=i
  .subst s;omega
  have:=U j A (by omega);omega
def Cs(x:bY):=∀n∈x.2.2.2.1,n.2.2.2.2.1.length<=24
theorem avH{x:bY}(h:fI x)(A:x.2.2.2.1.length<=big):∃b,Q7 x=ab b/\(b=ag->Cs x):=by
 obtain⟨b,e,I⟩:=afQ h A x.2.2.2.1.length 0 0 (by omega) (by omega) (by omega) λj _ h=>by omega
 refine⟨b,e,λh n J=>?_⟩
 obtain⟨j,U,rfl⟩:=List.getElem_of_mem J;exact I h j U
theorem auW{x:bJ}(h:fW x=0)(I:x.2.2.2.2.1≠[]):x.2.2.2.2.2.1=1∨x.2.2.2.2.2.1=2:=by
 have h:=Ry h;unfold pP oy at h;unfold tW at h;cases e:cY x.2.2.2.2.1 with
 |true=>
  cases A:x.2.2.2.2.1<;>first|exact absurd A I|rw[A]at e;cases e
 |false=>
  simp_all[xM,sf]
theorem W8{x:bY}(h:fI x)(d:Cs x)(c:vS x=ag){i:Nat} hi:∃v:List (List aJ)×Bool×Unit,qH x (i)=ab v/\jM v.1/\tt v.1<=1560/\sG 0 v.1=ag/\(v.2.1=ag->x.2.2.2.1[i].2.2.2.2.2.1=1∨x.2.2.2.1[i].2.2.2.2.2.1=2):=by
 have Z:jM []:=⟨by simp,λr h=>by cases h⟩
 obtain⟨I,a⟩:=s8 c;obtain⟨L,e⟩:=Hk I a i hi;have J:aj (x.2.2.2.1[i].2.2.2.2.1.length) 0=af->x.2.2.2.1[i].2.2.2.2.2.1=1∨x.2.2.2.1[i].2.2.2.2.2.1=2:=λhe=>auW (I.n _ (gR hi)) λU=>by
  rw[U]at he;exact wj.1 he rfl
 unfold qH Ih;rw[agH h c e,ah];cases A:chain _ _ with
 |none=>
  have hw:s9 x.2.2.2.1 L=(zA,5,()):=by unfold s9;rw[A];rfl
  rw[hw];rw[bK (x:=5) (y:=18),bK (x:=5) (y:=8),cI,ah,vf,au,cH hi,ah];cases he:aj (x.2.2.2.1[i].2.2.2.2.1.length:Int) 0<;>first|exact⟨([],ag,()),rfl,Z,bH _,rfl,λ_=>J he⟩|exact⟨_,rfl,Z,bH _,rfl,λh=>by cases h⟩
 |some t=>
  have hw:s9 x.2.2.2.1 L=(na t,0,()):=by unfold s9;rw[A];rfl
  rw[hw];rw[bK (x:=0) (y:=18),bK (x:=0) (y:=8),cT (x:=0) (y:=0) rfl,cI,ah,vf,au,cH hi,ah];cases he:aj (x.2.2.2.1[i].2.2.2.2.1.length) 0 with
  |true=>exact⟨_,rfl,Z,bH _,rfl,λh=>by cases h⟩
  |false=>
   have b:=alO x.2.2.2.1[i].2.2.2.2.1 (av (na t)) 32;have f:=d _ (gR hi);refine⟨((pC _ _ 32).1,ag,()),?_,alP _ _ _,by dsimp only;omega,ad4 _ _ b.1 (by dsimp only;omega),λ_=>J he⟩
   unfold Pe;rw[alT _ (xf (akr t _ _ Z0 A)),cg,ah];cases he:aj _ 0 with
   |true=>rfl
   |false=>simp[alN,he]
def lg(x:bY)(y:Int)(z:bB):=bif !vS x then 18 else bif !lW x y then 8 else rE z
theorem YH{x:bY}(h:fI x) y z:CL x y z=ab (lg x y z):=by
 unfold CL lg rE;rw[Uy h,cI,LY,Ch];grind[lW,mI,lU]
theorem Yr{x:bY}{y:Int}{z:bB}(h:lg x y z=0):vS x=ag/\lW x y=ag/\rE z=0:=by
 unfold lg at h;grind
def ix(x:bY)(i:Nat)(u v:Int):Int:=match qH x i,x.2.2.2.1[i]? with
 |some p,ab n=>bif p.2.1 then kP p.1 n.2.2.2.2.2.1 u v else 255
 |_,_=>0
theorem RA{x:bY}{i:Nat} hi{p:List (List aJ)×Bool×Unit}(e:qH x (i)=ab p):ix x i=λu v=>bif p.2.1 then kP p.1 x.2.2.2.1[i].2.2.2.2.2.1 u v else 255:=by
 funext u v;simp[ix,e,hi]
theorem JK{x:bY}(h:fI x)(A:Cs x)(I:vS x=ag){i:Nat}(hi:i< x.2.2.2.1.length) u v:B8 (ix x i u v):=by
 obtain⟨p,e,h1,h2,_,_⟩:=W8 h A I hi;rw[RA hi e];dsimp only;cases p.2.1<;>first|rw[au];exact⟨by decide,by decide⟩|simp[atK,h1,h2]
theorem ac1{β:Type}{x:bY}(h:fI x)(J:Cs x)(U:vS x=ag){i:Nat}(hi:i< x.2.2.2.1.length){z:bB}(A:rE z=0)(G:og->Option β):
  ((qH x (i)).bind λI=>bif !I.2.1 then(Ah z 255).bind λZ=>G Z.1 else aQ x.2.2.2.1 (i) λa=>(zp I.1 a.2.2.2.2.2.1 z).bind λb=>G b.1)=G (cR z,ee z (ix x i),()):=by
 obtain⟨p,e,h1,h2,c,d⟩:=W8 h J U hi;rw[RA hi e,e,ah];cases hp:p.2.1 with
 |false=>simp[awp,A]
 |true=>rw[cH hi,akR h1 h2 c (d hp) A];rfl
theorem ast{x:bY}(h:fI x)(J:Cs x) y z:lg x y z≠0/\CK x y z=ab (((0,0,0,0,()),[],()),lg x y z,())∨lg x y z=0/\∃i:Nat,y=i/\i< x.2.2.2.1.length/\CK x y z=ab ((cR z,ee z (ix x i),()),0,()):=by
 unfold CK;rw[YH h,ah];by_cases A:lg x y z=0
 .right;obtain⟨U,I,Z⟩:=Yr A;unfold lW at I;rw[aM,iw,cZ]at I;obtain⟨i,rfl⟩:=fP I.1;have hi:i< x.2.2.2.1.length:=by omega
  refine⟨A,i,rfl,hi,?_⟩;rw[cT A];exact ac1 h J U hi Z λm=>ab (m,0,())
 simp[bK,A]
def wa x(L:List Nat):=match L with
 |[]=>λ_ _=>0
 |k::L=>uR (ix x k) (L.map (ix x))
theorem W2{x:bY}(h:fI x)(a:Cs x) y z:lg x y z≠0/\zn x y z=ab (((0,0,0,0,()),[],()),lg x y z,())∨lg x y z=0/\∃(i:Nat) (L:List Nat),y=i/\lK x.2.2.2.1 i L/\zn x y z=ab ((cR z,ee z (wa x L),()),0,()):=by
 unfold zn;rw[YH h,ah];by_cases Z:lg x y z=0
 .right;obtain⟨A,l,g⟩:=Yr Z;obtain⟨i,L,rfl,b,e⟩:=ajh h y (by simp[l,A])
  obtain⟨c,n⟩:=s8 A;have o:=Hj c b;have d:=(N4 b).2;refine⟨Z,i,L,rfl,b,?_⟩;rw[cT Z,cg,au,e,ah];have key:Wq (aA (N7 (ints L)) (([],0,()),(x,z,()),())) λv=>v=((cR z,ee z (wa x L),()),0,()):=by
   refine cL (λs=>∃j:Nat,j<=L.length/\s=((dZ (cR z) ((L.take j).map (ix x)),(j:Int),()),(x,z,()),())) (λs=>(L.length)-s.1.2.1.toNat) ⟨0,bH _,rfl⟩ ?_
   rintro _ ⟨j,p,rfl⟩;unfold N7;dsimp only;rw[aap];refine bE (λI=>?_) λJ=>?_
   .have I:=cZ.1 I;have U:j< L.length:=by omega
    rw[anK U];refine(ac1 h a A (d _ (gR U)) g λm=>aT (bW ((dZ _ _).length+[m].length) 56) (aB ((cx _ [m],w ((j)+1),()),(x,z,()),())))▸?_
    rw[cS (m8 (by grind[qO,gg,gi])),bX,aw]
    refine⟨⟨j+1,by omega,?_⟩,by dsimp only;omega⟩
    rw[yD,gA _];unfold dZ;rw[ml,ml,<-EL z _];rfl
   have J:=jt.1 J;rw[rG (by omega)]
   cases L with
   |nil=>simp at o
   |cons k L=>
    rw[List.map_cons,ar2 (Fp (Fl g).2) _ _ (by grind) λf hf u v=>?_,ah,ah,dC,EL]<;>try trivial
    rcases du.1 hf with rfl|hf
    .exact JK h a A (d k eh ..) u v
    obtain⟨m,hm,rfl⟩:=kl.1 hf;exact JK h a A (d m (ff _ hm)) u v
  obtain⟨v,e,A⟩:=key;rw[e,A]
 simp[bK,Z]
end
section
theorem W6{l:List bJ}:∀{i:Nat} {L A:List Nat},lK l i L->lK l i A->L=A:=by
 intro i L A h;induction h generalizing A with
 |top i _ _ hp=>
  intro h';cases h'<;>first|rfl|grind
 |sub i j L hi I hp _ ih=>
  intro h';cases h'<;>grind
theorem avL r:∃c,Jj r=ab c:=by
 simp[Jj,Lb,ah,cI]
theorem aeB{r:bB} f(Z:cf r*hR r<=65536):uT (r,ee r f,()) (r,ee r f,())=ab ag:=by
 have c:=SD r f;have key:Wq (uT (r,ee r f,()) (r,ee r f,())) λb=>b=ag:=by
  unfold uT;rw[show cJ _ r r=ag from Yk.2 rfl,cg,cT rfl];refine cL (λs=>0<=s.1.1) (λs=>(((ee r f).length:Int)-s.1.1).toNat) (cr _) ?_
  rintro⟨⟨i,⟨⟩⟩,⟨⟩,⟨⟩⟩ A;unfold aew;dsimp only at*;refine bE (λhi=>?_) λ_=>(dC _ _).2 rfl
  have hi:=cZ.1 hi;refine gz A hi λa J _=>gz A hi λb I _=>?_
  rw[J]at I;cases I;rw[cT rfl,cg,au,bX,bZ,aw];grind
 obtain⟨b,e,U⟩:=key;rw[e,U]
theorem akp{x:bY}(h:fI x)(A:Cs x)(I:vS x=ag){L:List Nat}(U:L≠[])(J:∀k∈L,k< x.2.2.2.1.length) u v:B8 (wa x L u v):=by
 cases L<;>first|rename_i k L;refine Sq (f0:=ix x k) _ _ (JK h A I (J k (eh ..)) u v) λf hf=>?_;obtain⟨m,hm,rfl⟩:=kl.1 hf;exact JK h A I (J m (ff _ hm)) u v|grind
theorem akq{x:bY}{L:List Nat}(A:L≠[]) i u v:wa x (L++[i]) u v=mP (wa x L u v) (ix x i u v):=by
 cases L
 .grind
 rename_i k L;show uR _ _ u v=mP (uR _ _ u v) _;simp[uR,ml]
end
section
def xi(n:bJ):bJ:=(n.1,n.2.1,n.2.2.1,n.2.2.2.1,[],0,n.2.2.2.2.2.2)
def sQ(x:bY)(i:Nat)(n:bJ):bY:=(x.1,x.2.1,x.2.2.1,x.2.2.2.1.set i (xi n),())
theorem asn{n:bJ}(h:ql n):ql (xi n):=⟨h.t,h.f,h.s,h.fl,h.sl,h.d,h.i⟩
theorem pB0:pB []=ag:=by unfold pB pq;rw[ax (by simp)];rfl
theorem asm{n:bJ}(h:fW n=0):fW (xi n)=0:=by
 have A:=Ry h
 have h1:pP (oy (xi n))=ag:=by
  unfold pP oy at A|-
  simp only[List.all_cons,aM]at A|-
  refine⟨A.1,A.2.1,A.2.2.1,A.2.2.2.1,?_,?_,rfl⟩
  .show (!!pB [])=ag
   rw[pB0];rfl
  .have I:=A.2.2.2.2.2.1
   rw[Bool.not_not,aM]at I
   show(!!(ag&&qz n))=ag
   rw[I.2];rfl
 unfold fW at h|-
 rw[A,ao]at h
 rw[h1,ao]
 exact h
theorem WZ:∀(l:List bJ) (i k:Nat) (seen:Int->Bool) (A:Int) (hi:i< l.length),(sa seen A k l).1=0->(sa seen A k (l.set i (xi l[i]))).1=0
 |n::l,i,k,seen,A,hi,h=>by
  rw[zk]at h
  cases h1:aj (fW n) 0 with
  |false=>rw[h1]at h;exact absurd h (wj.1 h1)
  |true=>
   rw[h1,cg,au]at h
   have h1:=sf.1 h1
   cases i with
   |zero=>
    rw[List.set_cons_zero,zk,cT (show fW (xi (n::l)[0])=0 from asm h1),cg,au]
    exact h
   |succ i=>
    rw[List.set_cons_succ,zk,cT h1,cg,au]
    cases h2:seen n.1 with
    |true=>rw[h2]at h;exact absurd h (by simp)
    |false=>
     rw[h2,au]at h
     rw[au]
     cases I:ak A n.2.2.1 with
     |true=>rw[I]at h;exact absurd h (by simp)
     |false=>
      rw[I,au]at h
      rw[au]
      exact WZ l i _ _ _ (by simpa using hi) h
theorem TH(x:bY)(i:Nat)(n:bJ):(sQ x i n).2.2.2.1.length=x.2.2.2.1.length:=fQ
theorem avi{x:bY}(A:vS x=ag){i:Nat}(hi:i< x.2.2.2.1.length):vS (sQ x i x.2.2.2.1[i])=ag:=by
 unfold vS xT at A|-
 rw[TH]
 show aj (bif ub x then _ else _:aJ).1 0=ag
 cases h1:ub x with
 |true=>rw[h1]at A;cases A
 |false=>
  rw[h1,au]at A
  rw[au]
  cases h2:ak 64 (x.2.2.2.1.length:Int)with
  |true=>rw[h2]at A;cases A
  |false=>
   rw[h2,au]at A
   rw[au]
   exact cT (WZ _ _ _ _ _ hi (sf.1 A))
theorem avh{x:bY}(h:fI x){i:Nat}(hi:i< x.2.2.2.1.length):fI (sQ x i x.2.2.2.1[i]):=λn A=>by
 rcases Vs A with A|rfl
 .exact h n A
 .exact asn (h _ (gR hi))
theorem avg{x:bY}(h:Cs x)(i:Nat)(n:bJ):Cs (sQ x i n):=λm hm=>by
 rcases Vs hm with hm|rfl
 .exact h m hm
 .exact bH _
theorem avf{x:bY}{i:Nat}(hi:i< x.2.2.2.1.length)(n:bJ):(sQ x i n).2.2.2.1[i]'(by rw[TH];exact hi)=xi n:=ahW ..
theorem aky{x:bY}(h:fI x)(Z:vS x=ag){i:Nat}(hi:i< x.2.2.2.1.length)(I:x.2.2.2.1[i].2.2.2.2.1=[]):qH x (i:Int)=ab ([],af,()):=by
 obtain⟨J,U⟩:=s8 Z
 obtain⟨L,a⟩:=Hk J U i hi
 have b:=agH h Z a
 have he:aj (x.2.2.2.1[i].2.2.2.2.1.length:Int) 0=ag:=by rw[I];rfl
 unfold qH Ih
 rw[b,ah]
 cases A:chain lT ((L.reverse.map (n1 x.2.2.2.1)).map av)with
 |none=>
  have hw:s9 x.2.2.2.1 L=(zA,5,()):=by unfold s9;rw[A];rfl
  rw[hw]
  dsimp only
  rw[bK (x:=5) (y:=18) (by omega),bK (x:=5) (y:=8) (by omega),bK (x:=5) (y:=0) (by omega),cI,ah,vf,au,cH hi,ah]
  dsimp only
  rw[he];rfl
 |some t=>
  have hw:s9 x.2.2.2.1 L=(na t,0,()):=by unfold s9;rw[A];rfl
  rw[hw]
  dsimp only
  rw[bK (x:=0) (y:=18) (by omega),bK (x:=0) (y:=8) (by omega),cT (x:=0) (y:=0) rfl,cI,ah,vf,au,cH hi,ah]
  dsimp only
  rw[he];rfl
theorem ar5{x:bY}(h:fI x)(I:vS x=ag){i:Nat}(hi:i< x.2.2.2.1.length)(A:x.2.2.2.1[i].2.2.2.2.1=[]):ix x i=λ_ _=>255:=by
 rw[RA hi (aky h I hi A)];rfl
theorem arZ{a:Int}(h:B8 a):mP a 255=a:=by
 unfold mP
 obtain⟨A,h1⟩:=h
 omega
end
section
theorem atQ(z:bB)(v:Int):ee z (λ_ _=>v)=bP (cf z*hR z) v:=by
 unfold ee;exact List.map_const' .. |>.trans (by rw[ahX])
theorem aeP(z:bB)(v:Int):KW z v=ab (bif aj (rE z) 0 then((cR z,ee z (λ_ _=>v),()),0,())else(((0,0,0,0,()),[],()),rE z,())):=by
 unfold KW
 rw[afn,ah]
 by_cases A:rE z=0
 .obtain ⟨h1,h2⟩:=Fl A
  rw[h1,cg,au,Lb,ah,bc (by omega),au,aeS,ah,cT A,ao]
  have key:Wq (aA (Tc z v) ((0,()),((cR z,[],()),()),())) (λr=>r=((cR z,ee z (λ_ _=>v),()),0,())):=by
   refine cL (λs=>∃j:Nat,j<=cf z*hR z/\s=(((j:Int),()),((cR z,bP j v,()),()),())) (λs=>(((cf z*hR z:Nat):Int)-s.1.1).toNat) ⟨0,bH _,rfl⟩ ?_
   rintro _ ⟨j,c,rfl⟩
   unfold Tc
   dsimp only
   rw[Lb,ah]
   refine bE (λI=>?_) λJ=>?_
   .have I:=cZ.1 I
    rw[cS (m8 (by rw[List.length_replicate];omega) (by omega)),bX,bZ,aw (by omega) (by omega)]
    refine⟨⟨j+1,by omega,?_⟩,by dsimp only;omega⟩
    rw[kx,List.replicate_succ']
    rfl
   .have J:=jt.1 J
    rw[dC,lr,atQ,show j=cf z*hR z by omega]
  obtain⟨b,e,U⟩:=key
  rw[e,U]
 .rw [bK A,au]
  unfold rE at A|-
  cases Z:vR z with
  |false=>rfl
  |true=>
   rw[Z,cg,au]at A
   rw[cg,au,au,Lb,ah]
   cases a:ak 65536 ((cf z*hR z:Nat):Int)with
   |true=>rfl
   |false=>rw[a]at A;exact absurd rfl A
theorem aue:uT ((0,0,0,0,()),[],()) ((0,0,0,0,()),[],())=ab ag:=aeB (r:=(0,0,0,0,())) (λ_ _=>0) (bH _)
theorem aeC(z:bB)(f:Int->Int->Int)(A:rE z=0):uT (cR z,ee z f,()) (cR z,ee z f,())=ab ag:=by
 rw[<-EL z];exact aeB _ (by rw[UB,Pm];exact(Fl A).2)
theorem awI{x:bY}(h:fI x)(s:x.2.2.2.1.length<=big)(y:Int)(z:bB):Q6 x y z=ab ag:=by
 obtain⟨b,t,f⟩:=avH h s
 obtain⟨c1,a⟩:=avL z
 unfold Q6 C5
 rw[t,ah,a,ah,cI,ah,aeQ h,ah,cI,ah,cI,ah,cI,ah]
 cases c:(((!b||!c1)||!vS x)||ak y 0)||ai (x.2.2.2.1.length:Int) y with
 |true=>rfl
 |false=>
  rw[jD,jD,jD,jD]at c
  obtain⟨⟨⟨⟨w,_⟩,B⟩,C⟩,D⟩:=c
  have o:vS x=ag:=by simpa using B
  have f:=f (by simpa using w)
  have E:=(s8 o).2
  have W:=jt.1 C
  obtain⟨i,rfl⟩:=fP (show 0<=y by omega)
  have hi:i< x.2.2.2.1.length:=by have:=wZ.1 D;omega
  rw[au,cS (jA (by omega) (by omega)),kx,Gi,uz hi,cU,uz (by rw[fQ];exact hi),ahW]
  have F:wpS x (i:Int) x.2.2.2.1[i] (UF x.2.2.2.1[i])=sQ x i x.2.2.2.1[i]:=by
   unfold wpS sQ
   rw[kx,Gi,cU,List.set_set]
   rfl
  rw[F]
  have h':=avh h hi
  have A:=avi o hi
  have J:=avg f i x.2.2.2.1[i]
  have I:i<(sQ x i x.2.2.2.1[i]).2.2.2.1.length:=by rw[TH];exact hi
  have g:=ar5 h' A I (by rw[avf hi];rfl)
  generalize sQ x i x.2.2.2.1[i]=d at h' A J I g
  have k:lg d (i:Int) z=rE z:=by unfold lg;rw[A,DH I];rfl
  obtain⟨L,q⟩:=Hk (s8 A).1 (s8 A).2 i I
  have hp:∃p,Fi d (i:Int)=ab p:=by
   rw[aeI h',DH I,A,F3,ao]
   cases q with
   |top _ _ _ hp=>exact⟨_,hp⟩
   |sub _ j L _ _ hp _=>exact⟨_,hp⟩
  rcases ast h' J (i:Int) z with⟨Z,e⟩|⟨Z,j,X,_,e⟩
  .rw [k]at Z e
   obtain⟨p,hp⟩:=hp
   rw[e,ah,aeP,bK Z,au,ah]
   dsimp only
   rw[aue,ah,cg,nS,cT rfl,cg,ah,au,hp,ah,fO,Kb,ah,ao]
   rfl
  .rw [k]at Z
   obtain rfl:i=j:=by omega
   rw[e,ah,aeP,cT Z,ao,ah,g]
   dsimp only
   rw[aeC z _ Z,ah,cg,nS,cT (x:=0) rfl,cg,ah,au,aeI h',DH I,A,F3,ao]
   cases q with
   |top _ _ _ hp=>
    rw[hp,ah,nS,bh (x:= -1) (by decide),ah,ao]
    rfl
   |sub _ j L l G hp U=>
    have m:=N5 U
    have H:lg d (j:Int) z=0:=by unfold lg;rw[A,DH m];exact Z
    rw[hp,ah,nS,bc (x:=(j:Int)) (by omega),ah,au]
    rcases W2 h' J (i:Int) z with⟨K,_⟩|⟨_,M,Y,N,a,O⟩
    .exact absurd (k.trans Z) K
    obtain rfl:i=M:=by omega
    obtain rfl:=W6 (lK.sub i j L l G hp U) a
    rcases W2 h' J (j:Int) z with⟨P,_⟩|⟨_,Q,L2,R,n,S⟩
    .exact absurd H P
    obtain rfl:j=Q:=by omega
    obtain rfl:=W6 U n
    have r:L≠[]:=by
     intro T
     have:=(Hj (s8 A).1 U).1
     rw[T]at this
     simp at this
    have V:=(N4 U).2
    have hf:wa d (L++[i])=wa d L:=by
     funext u v
     rw[akq r,g]
     exact arZ (akp h' J A r V u v)
    rw[O,ah,S,ah,hf]
    dsimp only
    rw[cT (x:=0) rfl,ot,ah,ot,aeC z _ Z,ah,ah,ot,ah]
end
end Go.Proofs.YtohdkalmpfmcmaaGreatDoor
end
