/- A part of the proof. -/
import Derived.Test.YtceibfdaacdjlaaGreatDoorN1
set_option linter.all false
open Bool renaming and_assoc->wD,and_comm->acC,and_eq_false_iff->acD,and_eq_true->aM,and_true->tH,false->af,false_and->wF,false_or->Sa,noConfusion->Sb,not_false->eS,not_not->Sc,not_true->bZ,or_comm->acE,or_false->wG,or_true->wH,true->ag,true_and->nQ,true_or->acG
open Classical renaming choose_spec->acI
open Go.IntKind renaming bits->tK,signed->tL,u32->acZ,wrap->tM
open Int renaming add_assoc->adf,add_mul_ediv_right->adg,add_zero->iK,ediv_eq_zero_of_lt->adh,fdiv_eq_ediv_of_nonneg->oG,gcd_comm->adi,le_of_lt->gU,le_refl->Es,lt_of_le_of_lt->adj,lt_of_lt_of_le->adk,lt_or_le->l7,lt_trichotomy->KM,mul_fdiv_add_fmod->adl,mul_le_mul->tP,mul_le_mul_of_nonneg_left->wV,mul_le_mul_of_nonneg_right->iy,mul_lt_mul_of_pos_right->adm,mul_ne_zero->tR,mul_neg->adn,natAbs_ediv_le_natAbs->ado,natAbs_natCast->Et,natAbs_neg->tS,natCast_ediv->Eu,neg_ediv_of_dvd->adq,neg_mul->adr,neg_mul_neg->ads,one_mul->l8,pow_add->Ev,sign_eq_neg_one_of_neg->Ao,sign_eq_one_of_pos->Aq,sign_eq_zero_iff_zero->adu,sub_eq_add_neg->Ew,sub_mul->oI,tmod_nonneg->Ez,zero_add->SG,zero_mul->gy
open List renaming all_append->adx,all_cons->wY,all_eq_false->ady,any_cons->adz,append_assoc->mc,append_nil->jv,drop_eq_getElem_cons->eF,drop_of_length_le->eM,drop_zero->jw,getElem_map->KS,getElem_mem->fh,length_append->dD,length_cons->jP,length_map->gd,length_singleton->EC,length_take->gz,map_append->p8,map_cons->oL,mem_append->cB,mem_cons_of_mem->gB,mem_cons_self->e8,mem_map->lg,take_of_length_le->EG,take_succ->KT,take_succ_eq_append_getElem->EH
open Nat renaming add_comm->adT,add_sub_cancel->EI,div_le_self->EL,eq_zero_or_pos->w9,gcd->gD,gcd_pos_of_pos_right->adV,le_refl->aJ,le_trans->bU,lt_or_ge->km,mod_lt->nT,pow_le_pow_right->rH,sub_le->KZ,zero_add->cV,zero_le->bX
open Option renaming bind_some->ah,some->ab
open Rat renaming den_divInt->SS,divInt->i9,divInt_mul_divInt->SU,divInt_zero->ael,floor->SW,num_divInt->SX,num_divInt_den->nU
open Sum renaming inl->aU,inr->bg
noncomputable section
namespace Go.Proofs.YtceibfdaacdjlaaGreatDoor
open Go.As Go.Nt Go.Cc
def zv(x:DZ):Int:=bif x.1 then -(vN x.2.1:Int)else(vN x.2.1:Int)
def nz(n:Int):DZ:=(decide (n< 0),nd n.natAbs,())
def aR:Nat:=1099511627770
def cJ(k:Nat)(x:DZ):Prop:=Dg x.2.1/\x.2.1.length<=k
theorem bH(n:Int):zv (nz n)=n:=by
 unfold zv nz;rw[fF];grind
theorem rD(x:DZ):(zv x).natAbs=vN x.2.1:=by
 unfold zv;grind
theorem cJ.mono{k m:Nat}{x:DZ}(h:cJ k x)(hm:k<=m):cJ m x:=⟨h.1,bU h.2 hm⟩
theorem ec{n:Int}{k:Nat}(h:(n.natAbs:Int)< 4294967296^k):cJ k (nz n):=⟨dO _,g9 h⟩
theorem cJ.lt{k:Nat}{x:DZ}(h:cJ k x):((zv x).natAbs:Int)< 4294967296^k:=by
 rw[rD];have h1:=(dA h.1 k).2;rwa[cM _ _ h.2,<-dj h.1]at h1
theorem sb(a b:Bool):cS Ty.bool a b=(a==b):=by rfl
theorem Y5(b:Bool)(n:Nat):((aI b (ab (ao 0 ((nd n).length:Int)))).bind λA=>ab ((A,nd n,()):DZ))=ab (nz (bif b then -(n:Int)else(n:Int))):=by
 rw[ct,ah];unfold nz;cases b
 .rfl
 .rw [au,nQ,tS,Et];by_cases h:n=0
  .subst h;rfl
  .have:0<(nd n).length:=by
    rcases w9 (nd n).length with h1|h1
    .exact absurd (sG h1) h
    omega
   rw[aX (by omega),decide_eq_true (by omega)]
theorem R5{b:Bool}{l:List Int}(h:Dg l)(A:l.length<=aR):jD b l=ab (nz (bif b then -(vN l:Int)else(vN l:Int))):=by
 unfold jD aR at*;rw[HT (by omega) h,ah,Y5]
theorem zr{b:Bool}{l:List Int}(h:Dg l)(A:l.length<=aR):ka b l=ab (nz (bif b then -(vN l:Int)else(vN l:Int))):=by
 unfold ka aR at*;rw[lR (by omega) h,ah,Y5]
theorem nN{b:Bool}{n:Nat}(A:(nd n).length<=aR):jD b (nd n)=ab (nz (bif b then -(n:Int)else(n:Int))):=by
 rw[R5 (dO n) A,fF]
theorem pF{b:Bool}{n:Nat}(A:(nd n).length<=aR):ka b (nd n)=ab (nz (bif b then -(n:Int)else(n:Int))):=by
 rw[zr (dO n) A,fF]
theorem afv{n:Nat}:dC n=0↔n=0:=⟨λh=>by
 rcases w9 n with A|A
 .omega
 .have:=AQ (n:=n) (by omega);omega,λh=>by subst h;rfl⟩
theorem Kp{x:DZ}(h:cJ aR x):u5 x=ab (zv x).sign:=by
 have I:=h.2;unfold u5;unfold aR at I;rw[TQ h.1 (by omega),ah]
 unfold zv;by_cases A:vN x.2.1=0
 .rw [dF (by simp[afv,A]),A]
  simp
 .have:=AQ A;rw[bM (by omega)]
  grind
theorem amW(n:Int):(nz n).2.1.length=0↔n=0:=⟨λh=>by have:=sG (n:=n.natAbs) h;omega,λh=>by subst h;rfl⟩
theorem apD(n:Int):(bif ai ((nz n).2.1.length:Int) 0 then ab (0:Int)else bif(nz n).1 then ab (-1)else ab 1)=ab n.sign:=by
 by_cases A:n=0
 .subst A;rfl
 .have:(nz n).2.1.length≠0:=λh=>A ((amW n).1 h)
  rw[bM (by omega)]
  show(bif decide (n< 0)then _ else _)=_;grind
theorem zt{x:DZ}(h:cJ aR x):q0 x=ab (zv x).sign:=by
 unfold q0;rw[zr h.1 h.2];exact apD _
theorem aco{x:DZ}(h:cJ aR x):B2 x=ab (dC (zv x).natAbs:Int):=by
 have A:=h.2;unfold B2;unfold aR at A;rw[TQ h.1 (by omega),ah,rD]
theorem aaD{x:DZ}(h:cJ aR x):C5 x=ab (dC (zv x).natAbs:Int):=by
 have A:=h.2;unfold C5;unfold aR at A;rw[aas h.1 (by omega),ah,rD]
theorem aqV{x:DZ}(h:cJ aR x):GY x=ab (nz (-zv x)):=by
 unfold GY;rw[R5 h.1 h.2];unfold zv;grind
theorem Ju{x:DZ}(h:cJ aR x):vK x=ab (nz (-zv x)):=by
 unfold vK;rw[zr h.1 h.2];unfold zv;grind
def half:Nat:=549755813880
theorem jL{l:List Int}{k:Nat}(h:Dg l)(A:l.length<=k):(vN l:Int)< 4294967296^k:=by
 have h1:=(dA h k).2;simp_all[cM,A,dj,h]
theorem YX{a b:List Int}(A:Dg a)(I:Dg b){k:Nat}(J:a.length<=k)(U:b.length<=k):(nd (vN a+vN b)).length<=k+1:=g9 (by
 have h1:=jL A J;have h2:=jL I U;omega)
theorem YW{a b:List Int}(A:Dg a)(I:Dg b){k m:Nat}(J:a.length<=k)(U:b.length<=m):(nd (vN a*vN b)).length<=k+m:=g9 (by
 have h1:=jL A J;have h2:=jL I U;have Z:=iS m;rw[Ev];exact adj (wV (gU h2) (by omega)) (adm h1 Z))
theorem acn{x y:DZ}(A:cJ half x)(I:cJ half y):B1 x y=ab (nz (zv x+zv y)):=by
 have J:=A.2;have U:=I.2;unfold half at J U;unfold B1;rw[sb];have k1:=YX A.1 I.1 J U;have k2:=lM (KZ (vN x.2.1) (vN y.2.1));have b:=lM (KZ (vN y.2.1) (vN x.2.1));have c:=g9 (jL A.1 J);have d:=g9 (jL I.1 U);unfold zv;cases Z:x.1<;>cases a:y.1
 .rw [show(af==af)=ag from rfl,au,Lb A.1 I.1 (by omega) (by omega),ah,nN (by grind[aR])]
  rfl
 .rw [show(af==ag)=af from rfl,ax,J7 A.1 I.1 (by omega) (by omega),ah,ax,au]
  by_cases h:vN x.2.1< vN y.2.1
  .rw [aK h,ax,J7 I.1 A.1 (by omega) (by omega),ah,az (by omega),nN (by grind[aR]),ah,au]
   congr 2;omega
  .rw [az h,au,nN (by grind[aR]),ah,ax]
   congr 2;omega
 .rw [show(ag==af)=af from rfl,ax,J7 A.1 I.1 (by omega) (by omega),ah,au,ax]
  by_cases h:vN x.2.1< vN y.2.1
  .rw [aK h,ax,J7 I.1 A.1 (by omega) (by omega),ah,az (by omega),nN (by grind[aR]),ah,ax]
   congr 2;omega
  .rw [az h,au,nN (by grind[aR]),ah,au]
   congr 2;omega
 .rw [au,Lb A.1 I.1 (by omega) (by omega),ah,nN (by grind[aR])]
  grind
theorem QR{x y:DZ}(A:cJ half x)(I:cJ half y):za x y=ab (nz (zv x+zv y)):=by
 have J:=A.2;have U:=I.2;unfold half at J U;unfold za;rw[sb];have k1:=YX A.1 I.1 J U;have k2:=lM (KZ (vN x.2.1) (vN y.2.1));have b:=lM (KZ (vN y.2.1) (vN x.2.1));have c:=g9 (jL A.1 J);have d:=g9 (jL I.1 U);unfold zv;cases Z:x.1<;>cases a:y.1
 .rw [show(af==af)=ag from rfl,aar A.1 I.1 (by omega) (by omega),ah,pF (by grind[aR])]
  rfl
 .rw [show(af==ag)=af from rfl,ax,y9 A.1 I.1 (by omega) (by omega),ah,ax,au]
  by_cases h:vN x.2.1< vN y.2.1
  .rw [aK h,ax,y9 I.1 A.1 (by omega) (by omega),ah,az (by omega),pF (by grind[aR]),ah,au]
   congr 2;omega
  .rw [az h,au,pF (by grind[aR]),ah,ax]
   congr 2;omega
 .rw [show(ag==af)=af from rfl,ax,y9 A.1 I.1 (by omega) (by omega),ah,au,ax]
  by_cases h:vN x.2.1< vN y.2.1
  .rw [aK h,ax,y9 I.1 A.1 (by omega) (by omega),ah,az (by omega),pF (by grind[aR]),ah,ax]
   congr 2;omega
  .rw [az h,au,pF (by grind[aR]),ah,au]
   congr 2;omega
 .rw [aar A.1 I.1 (by omega) (by omega),ah,pF (by grind[aR])]
  grind
theorem R6{x y:DZ}(I:cJ half x)(A:cJ half y):yv x y=ab (nz (zv x-zv y)):=by
 unfold yv;rw[aqV (A.mono (by trivial)),ah,acn I (ec (by simp[tS,A.lt])),ah,bH,Ew]
theorem aaS{x y:DZ}(I:cJ half x)(A:cJ half y):C6 x y=ab (nz (zv x-zv y)):=by
 unfold C6;rw[Ju (A.mono (by trivial)),ah,QR I (ec (by simp[tS,A.lt])),ah,bH,Ew]
theorem YP(a b:Bool)(m n:Nat):(bif !(a==b)then -((m*n:Nat):Int)else((m*n:Nat):Int))=(bif a then -(m:Int)else(m:Int))*(bif b then -(n:Int)else(n:Int)):=by
 grind
theorem z9{x y:DZ}(A:cJ half x)(I:cJ half y):qG x y=ab (nz (zv x*zv y)):=by
 have J:=A.2;have U:=I.2;have k:=YW A.1 I.1 J U;unfold half at J U k;unfold qG;rw[sb,amu A.1 I.1 (by omega) (by omega),ah,nN (by grind[aR]),YP]
 rfl
theorem vX{x y:DZ}(A:cJ half x)(I:cJ half y):pC x y=ab (nz (zv x*zv y)):=by
 have J:=A.2;have U:=I.2;have k:=YW A.1 I.1 J U;unfold half at J U k;unfold pC;rw[sb,an3 A.1 I.1 (by omega) (by omega),ah,pF (by grind[aR]),YP]
 rfl
theorem VE{x:Int}(h1: -9223372036854775808<=x)(h2:x< 0):wu (0-wu x)= -x:=by
 grind[pS]
theorem HC{n:Nat}(h:n< 18446744073709551616):(nd n).length<=2:=g9 (by
 omega)
theorem Ko{x:Int}(h1: -9223372036854775808<=x)(h2:x< 9223372036854775808):u4 x=ab (nz x):=by
 unfold u4;by_cases h:x< 0
 .rw [aX h,au,VE h1 h,Gi (by omega) (by omega),ah,nN (bU (HC (by omega)) (by trivial)),ah,au,show -((-x).toNat)=x by omega]
 .rw [bb (by omega),ax,bS (by omega) (by omega),Gi (by omega) (by omega),ah,nN (bU (HC (by omega)) (by trivial)),ah,ax,show(x.toNat)=x by omega]
theorem ab7{n:Int}(A:0<=n)(h1:n< 18446744073709551616):Dg [wr .u32 n,wr .u32 (n.fdiv 4294967296)]/\vN [wr .u32 n,wr .u32 (n.fdiv 4294967296)]=n.toNat:=by
 rw[kv,iY,iY];refine⟨Dg.cons (by omega) (by omega) (Dg.cons (by omega) (by omega) Dg.nil),?_⟩
 show(n%4294967296+4294967296*(n/4294967296%4294967296+4294967296*0)).toNat=_;omega
theorem DK{x:Int}(h1: -9223372036854775808<=x)(h2:x< 9223372036854775808):sU x=ab (nz x):=by
 unfold sU;by_cases h:x< 0
 .obtain ⟨d,v⟩:=ab7 (n:= -x) (by omega) (by omega)
  rw[aX h,au,jl,VE h1 h];unfold Qt;rw[aX h,zr d (by simp[aR]),ah,v,au,show -((-x).toNat)=x by omega]
 .obtain ⟨d,v⟩:=ab7 (n:=x) (by omega) (by omega)
  rw[bb (by omega),ax,jl,bS (by omega) (by omega)]
  unfold Qt;rw[bb (by omega),zr d (by simp[aR]),ah,v,ax,show(x.toNat)=x by omega]
def qv(x:DQ):Rat:=i9 (zv x.1) (zv x.2.1)
def nq(q:Rat):DQ:=(nz q.num,nz (q.den:Int),())
theorem eK(q:Rat):qv (nq q)=q:=by
 unfold qv nq;rw[bH,bH];simp
def cr(k:Nat)(x:DQ):Prop:=cJ k x.1/\cJ k x.2.1
theorem cr.mono{k m:Nat}{x:DQ}(h:cr k x)(hm:k<=m):cr m x:=⟨h.1.mono hm,h.2.mono hm⟩
def QS(k:Nat)(q:Rat):Prop:=(q.num.natAbs:Int)< 4294967296^k/\(q.den:Int)< 4294967296^k
theorem dZ{q:Rat}{k:Nat}(h:QS k q):cr k (nq q):=⟨ec h.1,ec h.2⟩
theorem FC(n d:Int)(A:d≠0):(i9 n d).num.natAbs<=n.natAbs/\(i9 n d).den<=d.natAbs:=by
 rw[SX,SS,az A];refine⟨?_,EL _ _⟩;refine bU (ado _ _) ?_;grind
theorem VG(a b:Nat)(h:b≠0):gD a b<=b:=Nat.le_of_dvd (by omega) (Nat.gcd_dvd_right a b)
theorem amb(n d:Int)(I:d≠0):nz (bif ao (n.sign*d.sign) 0 then -((n.natAbs/gD n.natAbs d.natAbs:Nat):Int)else((n.natAbs/gD n.natAbs d.natAbs:Nat):Int))=nz (i9 n d).num/\nz ((d.natAbs/gD n.natAbs d.natAbs:Nat):Int)=nz (((i9 n d).den:Nat):Int):=by
 rw[SX,SS,az I];have e:Int.gcd d n=gD n.natAbs d.natAbs:=by rw[adi];rfl
 rw[e];have A:((gD n.natAbs d.natAbs):Int)∣(n.natAbs):=Int.natCast_dvd_natCast.2 (Nat.gcd_dvd_left _ _);refine⟨?_,rfl⟩;rw[Eu];rcases KM n 0 with h|h|h
 .rcases KM d 0 with k|k|k
  .rw [Ao h,Ao k,bb (by omega),ax,show(n.natAbs)= -1*n by omega]
  .omega
  .rw [Ao h,Aq k,aX (by omega),au,l8,<-adq A,show -(n.natAbs)=n by omega]
 .simp_all
 .rcases KM d 0 with k|k|k
  .rw [Aq h,Ao k,aX (by omega),au,<-adq A,show -(n.natAbs)= -1*n by omega]
  .omega
  .rw [Aq h,Aq k,bb (by omega),ax,l8,show(n.natAbs)=n by omega]
theorem Iw{x y:DZ}(I:cJ aR x)(A:cJ aR y)(U:zv y≠0):v8 x y=ab (nq (i9 (zv x) (zv y))):=by
 have Z:=I.2;have c:=A.2;unfold aR at Z c;have d:=rD x;have e:=rD y;have g:0< gD (vN x.2.1) (vN y.2.1):=adV _ (by omega)
 have f:(nd (gD (vN x.2.1) (vN y.2.1))).length<=y.2.1.length:=bU (lM (VG _ _ (by omega))) (g9 (jL A.1 (aJ _)))
 have h:(nd (vN x.2.1/gD (vN x.2.1) (vN y.2.1))).length<=x.2.1.length:=bU (lM (EL _ _)) (g9 (jL I.1 (aJ _)));have i:(nd (vN y.2.1/gD (vN x.2.1) (vN y.2.1))).length<=y.2.1.length:=bU (lM (EL _ _)) (g9 (jL A.1 (aJ _)));have J:∀a b:Int,w (a.sign*b.sign)=a.sign*b.sign:=λa b=>by
  have h1:a.sign= -1∨a.sign=0∨a.sign=1:=by
   grind
  have h2:b.sign= -1∨b.sign=0∨b.sign=1:=by
   grind
  rcases h1 with h1|h1|h1<;>rcases h2 with h2|h2|h2<;>rw[h1,h2]<;>exact aO (by omega) (by omega)
 unfold v8;rw[ahO I.1 A.1 (by omega) (by omega),ah,Kp I,ah,Kp A,ah,FL I.1 (dO _) (by omega) (by omega),fF,az (by omega),ah,J]
 rw[nN (by grind[aR]),ah,FL A.1 (dO _) (by omega) (by omega),fF,az (by omega),ah]
 rw[nN (by grind[aR]),ax]
 have:=amb (zv x) (zv y) U;rw[d,e]at this;rw[this.1,this.2];rfl
theorem fq{x y q r:Int}(h:x=q*y+r)(I:(0<=r/\r< y)∨(y< r/\r<=0)):x.fdiv y=q/\x.fmod y=r:=by
 have key:x.fdiv y=q:=by
  rcases I with⟨A,h1⟩|⟨A,h1⟩
  .rw [oG _ (by omega),h,Int.add_comm,adg _ _ (by omega),adh A h1];omega
  .rw [<-Int.neg_fdiv_neg,oG _ (by omega),h,show -(q*y+r)= -r+q*(-y) by rw[adn];omega,adg _ _ (by omega),adh (by omega) (by omega)];omega
 refine⟨key,?_⟩
 have:=adl x y
 rw[key,Int.mul_comm]at this
 omega
theorem aby{a b:Bool}{m n:Nat}(I:0< n):
  ((a==b)=ag∨m%n=0->(bif a then -(m:Int)else(m:Int)).fdiv (bif b then -(n:Int)else(n:Int))=(bif !(a==b)then -((m/n:Nat):Int)else((m/n:Nat):Int))/\(bif a then -(m:Int)else(m:Int)).fmod (bif b then -(n:Int)else(n:Int))=(bif a then -((m%n:Nat):Int)else((m%n:Nat):Int)))
  /\((a==b)=af->m%n≠0->(bif a then -(m:Int)else(m:Int)).fdiv (bif b then -(n:Int)else(n:Int))= -((m/n:Nat):Int)-1/\(bif a then -(m:Int)else(m:Int)).fmod (bif b then -(n:Int)else(n:Int))=(bif a then -((m%n:Nat):Int)else((m%n:Nat):Int))+(bif b then -(n:Int)else(n:Int))):=by
 have hm:=nT m I
 have J:=Nat.div_add_mod m n
 have A:(m:Int)=((m/n:Nat):Int)*(n:Int)+((m%n:Nat):Int):=by
  rw[<-Int.natCast_mul,<-Int.natCast_add,Nat.mul_comm,J]
 generalize m/n=q at*
 generalize m%n=r at*
 rw[A]
 cases a<;>cases b
 .refine ⟨λ_=>fq rfl (.inl ⟨?_,?_⟩),λh=>by cases h⟩
  .show 0<=(r:Int);omega
  .show (r:Int)<(n:Int);omega
 .refine ⟨λh=>?_,λ_ h=>?_⟩
  .rcases h with h|h
   .cases h
   .subst h
    refine fq ?_ (.inr ⟨?_,?_⟩)
    .show (q:Int)*(n:Int)+((0:Nat):Int)= -(q:Int)* -(n:Int)+((0:Nat):Int);rw[ads]
    .show -(n:Int)<((0:Nat):Int);omega
    .show ((0:Nat):Int)<=0;omega
  .refine fq ?_ (.inr ⟨?_,?_⟩)
   .show (q:Int)*(n:Int)+(r:Int)=(-(q:Int)-1)* -(n:Int)+((r:Int)+ -(n:Int));rw[oI,ads];omega
   .show -(n:Int)<(r:Int)+ -(n:Int);omega
   .show (r:Int)+ -(n:Int)<=0;omega
 .refine ⟨λh=>?_,λ_ h=>?_⟩
  .rcases h with h|h
   .cases h
   .subst h
    refine fq ?_ (.inl ⟨?_,?_⟩)
    .show -((q:Int)*(n:Int)+((0:Nat):Int))= -(q:Int)*(n:Int)+ -((0:Nat):Int);rw[adr];omega
    .show 0<= -((0:Nat):Int);omega
    .show -((0:Nat):Int)<(n:Int);omega
  .refine fq ?_ (.inl ⟨?_,?_⟩)
   .show -((q:Int)*(n:Int)+(r:Int))=(-(q:Int)-1)*(n:Int)+(-(r:Int)+(n:Int));rw[oI,adr];omega
   .show 0<= -(r:Int)+(n:Int);omega
   .show -(r:Int)+(n:Int)<(n:Int);omega
 .refine ⟨λ_=>fq ?_ (.inr ⟨?_,?_⟩),λh=>by cases h⟩
  .show -((q:Int)*(n:Int)+(r:Int))=(q:Int)* -(n:Int)+ -(r:Int);rw[adn];omega
  .show -(n:Int)< -(r:Int);omega
  .show -(r:Int)<=0;omega
theorem Aa(x:DZ):zv x=bif x.1 then -(vN x.2.1:Int)else(vN x.2.1:Int):=rfl
theorem apC{n:Int}:(!ai n.sign 0)= !decide (n=0):=by
 by_cases h:n=0
 .subst h;rw[decide_eq_true rfl];rfl
 .rw [decide_eq_false h,bM (by rw[Ne,adu];exact h)]
theorem Qs{x y:DZ}(Z:cJ 500000000000 x)(c:cJ 500000000000 y)(k:zv y≠0):zb x y=ab (nz ((zv x).fdiv (zv y)),nz ((zv x).fmod (zv y)),0,()):=by
 have i:=Z.2
 have l:=c.2
 have n:=rD y
 have j:0< vN y.2.1:=by omega
 obtain⟨c1,d⟩:=aby (a:=x.1) (b:=y.1) (m:=vN x.2.1) j
 rw[<-Aa,<-Aa]at c1 d
 have hm:=nT (vN x.2.1) j
 have o:(nd (vN x.2.1/vN y.2.1)).length<=500000000000:=bU (lM (EL _ _)) (g9 (jL Z.1 i))
 have p:(nd (vN x.2.1%vN y.2.1)).length<=500000000000:=bU (lM (Nat.mod_le _ _)) (g9 (jL Z.1 i))
 have e:ai (zv y).sign 0=af:=bM (by rw[Ne,adu];exact k)
 unfold zb
 rw[zt (c.mono (by unfold aR;omega)),ah,e,ax,aau Z.1 c.1 (by omega) (by omega),az (by omega),ah]
 dsimp only
 rw[sb,pF (by unfold aR;omega),ah,pF (by unfold aR;omega),ah]
 generalize s:vN x.2.1/vN y.2.1=q at*
 generalize t:vN x.2.1%vN y.2.1=r at*
 have J:cJ 500000000001 (nz (bif x.1 then -(r:Int)else(r:Int))):=by
  refine⟨dO _,?_⟩
  show(nd _).length<=_
  cases x.1
  .rw [ax,Et];omega
  .rw [au,tS,Et];omega
 have U:(bif x.1 then -(r:Int)else(r:Int))=0↔r=0:=by
  cases x.1
  .rw [ax];omega
  .rw [au];omega
 cases A:(x.1==y.1)with
 |true=>
  rw[bZ,AN,ah,ax,(c1 (.inl A)).1,(c1 (.inl A)).2,A,bZ]
 |false=>
  rw[eS,mY,zt (J.mono (by unfold aR;omega)),ah,ah,bH,apC]
  by_cases I:r=0
  .rw [decide_eq_true (U.2 I),bZ,ax,(c1 (.inr I)).1,(c1 (.inr I)).2,A,eS]
  .have f:cJ half (nz (bif ag then -(q:Int)else(q:Int))):=by
    refine⟨dO _,?_⟩
    show(nd _).length<=_
    rw[au,tS,Et];unfold half;omega
   have g:cJ half (nz 1):=ec (by
    have:=sR (a:=1) (b:=half) (by unfold half;omega)
    have h1:(4294967296:Int)^1=4294967296:=rfl
    rw[h1]at this
    show((1:Nat):Int)< _
    omega)
   rw[decide_eq_false (λh=>I (U.1 h)),eS,au,DK (by omega) (by omega),ah,aaS f g,ah,QR (J.mono (by unfold half;omega)) (c.mono (by unfold half;omega)),ah,bH,bH,bH,au,(d A I).1,(d A I).2]
theorem Jt{x y:DZ}(J:cJ 500000000000 x)(I:cJ 500000000000 y)(c:zv y≠0):vO x y=ab (nq (i9 (zv x) (zv y))):=by
 have m:=J.2
 have n:=I.2
 have d:=rD x
 have f:=rD y
 have o:0< gD (vN x.2.1) (vN y.2.1):=adV _ (by omega)
 have g:(nd (gD (vN x.2.1) (vN y.2.1))).length<=y.2.1.length:=bU (lM (VG _ _ (by omega))) (g9 (jL I.1 (aJ _)))
 have U:cJ 500000000000 (nz ((gD (vN x.2.1) (vN y.2.1):Nat):Int)):=⟨dO _,by
  show(nd _).length<=_
  rw[Et];omega⟩
 have e:gD (vN x.2.1) (vN y.2.1)=Int.gcd (zv y) (zv x):=by rw[adi,<-d,<-f];rfl
 have A:∀a b:DZ,cJ 500000000000 a->cJ 500000000000 b->0< zv b->zv a=(zv y).sign*zv x->zv b=(zv y).natAbs->Qu (nz ((gD (vN x.2.1) (vN y.2.1):Nat):Int)) ((),(a,b,()),())=ab (nq (i9 (zv x) (zv y))):=λa b h i j k l=>by
  unfold Qu
  dsimp only
  rw[Qs h U (by rw[bH];omega),ah,Qs i U (by rw[bH];omega),ah,bH,k,l]
  unfold nq
  rw[SX,SS,az c,<-e,oG _ (by omega),oG _ (by omega),Eu]
 unfold vO
 rw[an2 J.1 I.1 (by omega) (by omega),ah,pF (by unfold aR;omega),ah,ax,zt (I.mono (by unfold aR;omega)),ah]
 by_cases Z:zv y< 0
 .rw [Ao Z,aX (by omega),au,Ju (J.mono (by unfold aR;omega)),ah,Ju (I.mono (by unfold aR;omega)),ah,jl]
  refine A _ _ (ec (by rw[tS];exact J.lt)) (ec (by rw[tS];exact I.lt)) (by rw[bH];omega) (by rw[bH,Ao Z];omega) (by rw[bH];omega)
 .rw [Aq (by omega),bb (by omega),ax,jl]
  exact A _ _ J I (by omega) (by rw[Aq (by omega),l8]) (by omega)
def mid:Nat:=200000000000
theorem nz0:((af,[],()):DZ)=nz 0:=rfl
theorem nq0:nq 0=(nz 0,nz 1,()):=rfl
theorem GP{n:Int}:ai n.sign 0=decide (n=0):=by
 by_cases h:n=0
 .subst h;rfl
 .rw [decide_eq_false h,bM (by grind)]
theorem aaj{x y:DZ}(I:cJ aR x)(A:cJ aR y):DL x y=ab (if zv y=0 then((nz 0,nz 0,()),9,())else(nq (i9 (zv x) (zv y)),0,())):=by
 unfold DL;rw[Kp A,ah,GP];by_cases h:zv y=0
 .rw [decide_eq_true h,aK h];rfl
 .rw [decide_eq_false h,ax,az h,Iw I A h,ah]
theorem aoH{x y:DZ}(I:cJ 500000000000 x)(A:cJ 500000000000 y):IJ x y=ab (if zv y=0 then((nz 0,nz 0,()),9,())else(nq (i9 (zv x) (zv y)),0,())):=by
 unfold IJ;rw[zt (A.mono (by trivial)),ah,GP]
 by_cases h:zv y=0
 .rw [decide_eq_true h,aK h];rfl
 .rw [decide_eq_false h,ax,az h,Jt I A h,ah]
theorem Zm(n:Int):nq (n:Rat)=(nz n,nz 1,()):=rfl
theorem y6{x:Int}(h1: -9223372036854775808<=x)(h2:x< 9223372036854775808):mG x=ab (nq (x:Rat)):=by
 unfold mG;rw[Ko h1 h2,ah,Ko (by omega) (by omega),ah,Zm]
theorem vZ{x:Int}(h1: -9223372036854775808<=x)(h2:x< 9223372036854775808):lT x=ab (nq (x:Rat)):=by
 unfold lT;rw[DK h1 h2,ah,DK (by omega) (by omega),ah,Zm]
theorem ny{x:DQ}(h:cr aR x):kR x=ab (nq (qv x)):=by
 unfold kR;rw[aaj h.1 h.2,ah];by_cases A:zv x.2.1=0
 .rw [aK A];dsimp only;rw[bM (by omega),eS,y6 (by omega) (by omega)]
  simp[qv,A,ael]
 .rw [az A];rfl
theorem kc{x:DQ}(h:cr 500000000000 x):iH x=ab (nq (qv x)):=by
 unfold iH;rw[zt (h.2.mono (by trivial)),ah,GP]
 by_cases A:zv x.2.1=0
 .rw [decide_eq_true A,vZ (by omega) (by omega)]
  simp[qv,A,ael]
 .rw [decide_eq_false A,Jt h.1 h.2 A];rfl
theorem eC{x:DQ}{k:Nat}(h:cr k x)(I:1<=k):QS k (qv x):=by
 unfold qv;by_cases A:zv x.2.1=0
 .rw [A];have:=sR I;have h1:(4294967296)^1=4294967296:=rfl;refine⟨?_,?_⟩
  .show ((0))< _;omega
  .show ((1))< _;omega
 .obtain ⟨h1,h2⟩:=FC (zv x.1) (zv x.2.1) A;have h3:=h.1.lt;have J:=h.2.lt;exact⟨by omega,by omega⟩
theorem kL{x:DQ}{k:Nat}(h:cr k x)(A:1<=k):cr k (nq (qv x)):=dZ (eC h A)
def Fj(q:Rat):Nat:=max (dC q.num.natAbs) (dC q.den)
theorem Yr(a b:Nat):(bif aj (a:Int) (b:Int)then(b:Int)else(a:Int))=((max a b:Nat):Int):=by
 by_cases h:a<=b
 .rw [bQ (by omega),au,Nat.max_eq_right h]
 .rw [dJ (by omega),ax,Nat.max_eq_left (by omega)]
theorem y5{x:DQ}(h:cr aR x):re x=ab (Fj (qv x):Int):=by
 have A:=kL h (by trivial)
 unfold re;rw[ny h,ah,aco A.1,ah,aco A.2,ah];unfold nq;rw[bH,bH,Yr];rfl
theorem aoD{x:DQ}(h:cr 500000000000 x):IF x=ab (Fj (qv x):Int):=by
 have A:=(kL h (by omega)).mono (m:=aR) (by trivial)
 unfold IF;rw[kc h,ah,aaD A.1,ah,aaD A.2,ah];unfold nq;rw[bH,bH,Yr];rfl
theorem gj(q:Rat):(q.den:Int)≠0:=by
 have:=q.den_pos;omega
theorem fT{a b:Int}{k m:Nat}(A:(a.natAbs:Int)< 4294967296^k)(I:(b.natAbs:Int)< 4294967296^m):((a*b).natAbs:Int)< 4294967296^(k+m):=by
 have J:=iS m;rw[Int.natAbs_mul,Ev];exact adj (wV (gU I) (by omega)) (adm A J)
theorem zS{a b:Int}{k:Nat}(A:(a.natAbs:Int)< 4294967296^k)(I:(b.natAbs:Int)< 4294967296^k):((a+b).natAbs:Int)< 4294967296^(k+1):=by
 omega
theorem Ix{x y:DQ}(J:cr mid x)(U:cr mid y):v5 x y=ab (nq (qv x*qv y)):=by
 have A:=kL J (by trivial)
 have I:=kL U (by trivial)
 have Z:=eC J (by trivial)
 have sy:=eC U (by trivial)
 unfold v5;rw[ny (J.mono (by trivial)),ah,ny (U.mono (by trivial)),ah]
 rw[z9 (A.1.mono (by trivial)) (I.1.mono (by trivial)),ah,z9 (A.2.mono (by trivial)) (I.2.mono (by trivial)),ah]
 unfold nq;rw[bH,bH,bH,bH,Iw ((ec (fT Z.1 sy.1)).mono (by trivial)) ((ec (fT (a:=((qv x).den)) (b:=((qv y).den)) (by exact Z.2) (by exact sy.2))).mono (by trivial)) (by rw[bH];exact tR (gj _) (gj _)),bH,bH]
 rw[<-SU,nU,nU];rfl
theorem Jx{x y:DQ}(J:cr mid x)(U:cr mid y):vM x y=ab (nq (qv x*qv y)):=by
 have A:=kL J (by trivial)
 have I:=kL U (by trivial)
 have Z:=eC J (by trivial)
 have sy:=eC U (by trivial)
 unfold vM;rw[kc (J.mono (by trivial)),ah,kc (U.mono (by trivial)),ah]
 rw[vX (A.1.mono (by trivial)) (I.1.mono (by trivial)),ah,vX (A.2.mono (by trivial)) (I.2.mono (by trivial)),ah]
 unfold nq;rw[bH,bH,bH,bH,Jt ((ec (fT Z.1 sy.1)).mono (by trivial)) ((ec (fT (a:=((qv x).den)) (b:=((qv y).den)) (by exact Z.2) (by exact sy.2))).mono (by trivial)) (by rw[bH];exact tR (gj _) (gj _)),bH,bH]
 rw[<-SU,nU,nU];rfl
theorem Qb{x y:DQ}(J:cr mid x)(U:cr mid y):zw x y=ab (nz ((qv x).num*(qv y).den),nz ((qv y).num*(qv x).den),nz ((qv x).den*(qv y).den),()):=by
 have A:=(kL J (by trivial)).mono (m:=half) (by trivial)
 have I:=(kL U (by trivial)).mono (m:=half) (by trivial)
 unfold zw;rw[ny (J.mono (by trivial)),ah,ny (U.mono (by trivial)),ah,z9 A.1 I.2,z9 I.1 A.2,z9 A.2 I.2]
 simp[nq,bH]
theorem Lc(a b:Rat):i9 (a.num*b.den+b.num*a.den) (a.den*b.den)=a+b:=by
 rw[<-Rat.divInt_add_divInt _ _ (gj a) (gj b),nU,nU]
theorem abX(a b:Rat):i9 (a.num*b.den-b.num*a.den) (a.den*b.den)=a-b:=by
 rw[<-Rat.divInt_sub_divInt _ _ (gj a) (gj b),nU,nU]
theorem fR{q:Rat}{k:Nat}(h:QS k q):(((q.den:Int)).natAbs:Int)< 4294967296^k:=by exact h.2
theorem Iv{x y:DQ}(I:cr mid x)(J:cr mid y):ox x y=ab (nq (qv x+qv y)):=by
 have A:=eC I (by trivial)
 have sy:=eC J (by trivial)
 have U:=fT A.1 (fR sy);have Z:=fT sy.1 (fR A);have a:=fT (fR A) (fR sy);unfold ox;rw[Qb I J,ah,acn ((ec U).mono (by trivial)) ((ec Z).mono (by trivial)),ah,bH,bH]
 rw[Iw ((ec (zS U Z)).mono (by trivial)) ((ec a).mono (by trivial)) (by rw[bH];exact tR (gj _) (gj _)),ah,bH,bH,Lc]
theorem anY{x y:DQ}(I:cr mid x)(J:cr mid y):Jz x y=ab (nq (qv x-qv y)):=by
 have A:=eC I (by trivial)
 have sy:=eC J (by trivial)
 have U:=fT A.1 (fR sy);have a:=fT sy.1 (fR A);have c:=fT (fR A) (fR sy);have Z:=zS U (b:= -((qv y).num*(qv x).den)) (by omega)
 rw[<-Ew]at Z;unfold Jz;rw[Qb I J,ah,R6 ((ec U).mono (by trivial)) ((ec a).mono (by trivial)),ah,bH,bH]
 rw[Iw ((ec Z).mono (by trivial)) ((ec c).mono (by trivial)) (by rw[bH];exact tR (gj _) (gj _)),ah,bH,bH,abX]
theorem vY{x y:DQ}(J:cr mid x)(U:cr mid y):lS x y=ab (nq (qv x+qv y)):=by
 have A:=(kL J (by trivial)).mono (m:=half) (by trivial)
 have I:=(kL U (by trivial)).mono (m:=half) (by trivial)
 have Z:=eC J (by trivial)
 have sy:=eC U (by trivial)
 have a:=fT Z.1 (fR sy);have b:=fT sy.1 (fR Z);have c:=fT (fR Z) (fR sy);unfold lS;rw[kc (J.mono (by trivial)),ah,kc (U.mono (by trivial)),ah,vX A.1 I.2,ah,vX I.1 A.2,ah]
 unfold nq;rw[bH,bH,bH,bH,QR ((ec a).mono (by trivial)) ((ec b).mono (by trivial)),ah,vX (x:=nz ((qv x).den)) (y:=nz ((qv y).den)) A.2 I.2,ah,bH,bH,bH,bH,Jt ((ec (zS a b)).mono (by trivial)) ((ec c).mono (by trivial)) (by rw[bH];exact tR (gj _) (gj _)),bH,bH,Lc]
 rfl
theorem arQ(n:Int)(q:Rat)(h:n=q.num):nq q=(nz n,nz q.den,()):=by rw[h];rfl
theorem aoG{x:DQ}(I:cr mid x):II x=ab (nq (-qv x)):=by
 have A:=(kL I (by trivial)).mono (m:=aR) (by trivial)
 unfold II;rw[kc (I.mono (by trivial)),ah,Ju A.1]
 simp[nq,bH]
theorem aoI{x y:DQ}(I:cr mid x)(A:cr mid y):IL x y=ab (nq (qv x-qv y)):=by
 have sy:=eC A (by trivial)
 unfold IL;rw[aoG A,ah,vY (y:=nq (-qv y)) I (dZ ⟨by
  rw[Rat.neg_num,tS];exact sy.1,sy.2⟩),ah,eK,Rat.sub_eq_add_neg]
theorem sS{x y:DQ}(A:cr mid x)(I:cr mid y):nB x y=ab ((qv x).num*(qv y).den-(qv y).num*(qv x).den).sign:=by
 have J:=eC A (by trivial)
 have sy:=eC I (by trivial)
 have U:=fT J.1 (fR sy);have a:=fT sy.1 (fR J);have Z:=zS U (b:= -((qv y).num*(qv x).den)) (by omega)
 rw[<-Ew]at Z;unfold nB;rw[Qb A I,ah];unfold Oc;rw[R6 ((ec U).mono (by trivial)) ((ec a).mono (by trivial)),ah,bH,bH,Kp ((ec Z).mono (by trivial)),ah,ah,bH]
theorem aaO{x y:DQ}(J:cr mid x)(U:cr mid y):vL x y=ab ((qv x).num*(qv y).den-(qv y).num*(qv x).den).sign:=by
 have A:=(kL J (by trivial)).mono (m:=half) (by trivial)
 have I:=(kL U (by trivial)).mono (m:=half) (by trivial)
 have Z:=eC J (by trivial)
 have sy:=eC U (by trivial)
 have a:=fT Z.1 (fR sy);have d:=fT sy.1 (fR Z);have c:=zS a (b:= -((qv y).num*(qv x).den)) (by omega)
 rw[<-Ew]at c;unfold vL;rw[kc (J.mono (by trivial)),ah,kc (U.mono (by trivial)),ah,vX A.1 I.2,ah,vX I.1 A.2,ah]
 unfold nq;rw[bH,bH,bH,bH];unfold Qr;rw[aaS ((ec a).mono (by trivial)) ((ec d).mono (by trivial)),ah,bH,bH,zt ((ec c).mono (by trivial)),ah,ah,bH]
theorem acp{x:DZ}(h:cJ aR x):jD x.1 x.2.1=ab (nz (zv x)):=R5 h.1 h.2
theorem aow{x:DZ}(h:cJ aR x):ka x.1 x.2.1=ab (nz (zv x)):=zr h.1 h.2
theorem zDM{x y:DZ}(f:cJ mid x)(c:cJ mid y)(v:zv y≠0):GX x y=ab (nz ((zv x).fdiv (zv y)),nz ((zv x).fmod (zv y)),0,()):=by
 have A:cJ mid (nz (zv x)):=ec f.lt;have I:cJ mid (nz (zv y)):=ec c.lt;have k:=A.2;have l:=I.2;unfold mid at k l;have w:vN (nz (zv y)).2.1=(zv y).natAbs:=fF _;have z:vN (nz (zv x)).2.1=(zv x).natAbs:=fF _;have g:0< vN (nz (zv y)).2.1:=by omega
 obtain⟨c1,n⟩:=aby (a:=(nz (zv x)).1) (b:=(nz (zv y)).1) (m:=vN (nz (zv x)).2.1) g;rw[<-Aa,<-Aa,bH,bH]at c1 n;have hm:=nT (vN (nz (zv x)).2.1) g;have B:=EL (vN (nz (zv x)).2.1) (vN (nz (zv y)).2.1);have h:=jL A.1 A.2;have i:=jL I.1 I.2;unfold GX;rw[acp (f.mono (by trivial)),ah,acp (c.mono (by trivial)),ah,FL A.1 I.1 (by omega) (by omega),az (by omega),ah]
 dsimp only;rw[dF rfl,bZ,ax,sb];generalize o:vN (nz (zv x)).2.1/vN (nz (zv y)).2.1=q at*;generalize p:vN (nz (zv x)).2.1%vN (nz (zv y)).2.1=r at*;have s:=iS mid;have j:∀J:Nat,J<=q+1->(bif !((nz (zv x)).1==(nz (zv y)).1)then -(J:Int)else(J:Int))=(zv x).fdiv (zv y)->Od (nz (zv x)) (nz (zv y)) ((nd J,()),(),())=ab (nz ((zv x).fdiv (zv y)),nz ((zv x).fmod (zv y)),0,()):=λJ t e=>by
  unfold Od;dsimp only;have d:(nd J).length<=mid+1:=g9 (by omega)
  have U:(((zv x).fdiv (zv y)).natAbs:Int)< 4294967296^(mid+1):=by
   rw[<-e,pw];grind
  rw[sb,nN (by unfold mid at d;grind[aR]),ah,e,z9 ((ec U).mono (by trivial)) (I.mono (by trivial)),ah,bH,bH,R6 (A.mono (by trivial)) ((ec (fT U c.lt)).mono (by trivial)),ah,bH,bH]
  have:=adl (zv x) (zv y);grind
 cases u:((nz (zv x)).1==(nz (zv y)).1)with
 |true=>
  rw[bZ,AN,ah,ax,jl];grind
 |false=>
  rw[eS,mY,ah];by_cases Z:r=0
  .rw [Z,show ao 0 ((nd 0).length:Int)=af from rfl,ax,jl];grind
  .have:0<(nd r).length:=by
    rcases w9 (nd r).length with h1|h1
    .exact absurd (sG h1) Z
    omega
   have d:(nd q).length<=mid:=g9 (by omega)
   unfold mid at d;have C:(nd 1).length<=2:=HC (by omega)
   rw[aX (by omega),au,Gi (by omega) (by omega),ah,show(1:Int).toNat=1 from rfl,Lb (dO _) (dO _) (by omega) (by omega),fF,fF,ah,jl]
   grind
theorem anV{x:DQ}(h:cr mid x):s9 x=ab (nz (qv x).floor):=by
 have A:=kL h (by trivial)
 unfold s9;rw[ny (h.mono (by trivial)),ah,zDM A.1 A.2 (by show zv (nz _)≠0;grind[bH,gj])]
 grind[nq,bH,SW]
theorem aoE{x:DQ}(h:cr mid x):sW x=ab (nz (qv x).floor):=by
 have A:=kL h (by trivial)
 unfold sW;rw[kc (h.mono (by trivial)),ah,Qs (A.1.mono (by trivial)) (A.2.mono (by trivial)) (by show zv (nz _)≠0;grind[bH,gj])]
 grind[nq,bH,SW]
theorem GW{x:Int}(h1: -9223372036854775808<=x)(h2:x< 9223372036854775808):cJ 2 (nz x):=⟨dO _,HC (by omega)⟩
theorem anW{a b:Int}(A: -9223372036854775808<=a)(I:a< 9223372036854775808)(J: -9223372036854775808<=b)(U:b< 9223372036854775808):Jy a b=ab (if b=0 then((nz 0,nz 0,()),9,())else(nq (i9 a b),0,())):=by
 unfold Jy;rw[Ko A I,ah,Ko J U,ah,aaj ((GW A I).mono (by trivial)) ((GW J U).mono (by trivial)),ah,bH,bH]
theorem aoF{a b:Int}(A: -9223372036854775808<=a)(I:a< 9223372036854775808)(J: -9223372036854775808<=b)(U:b< 9223372036854775808):IG a b=ab (if b=0 then((nz 0,nz 0,()),9,())else(nq (i9 a b),0,())):=by
 unfold IG;rw[DK A I,ah,DK J U,ah,aoH ((GW A I).mono (by omega)) ((GW J U).mono (by omega)),ah,bH,bH]
def rq(n:Int):Int×Bool×Unit:=if -9223372036854775808<=n/\n< 9223372036854775808 then(n,ag,())else(0,af,())
theorem R4{x:DZ}{l:List Int}{v:Int}(A:0<=v)(h1:v< 18446744073709551616)(U:l.length<=2)(I:zv x=bif x.1 then -v else v):GZ x l ((v,()),(),())=ab (rq (zv x)):=by
 unfold GZ rq;dsimp only;rw[bb (by omega),qV,ah,I]
 cases Z:x.1
 .show _=ab (if -9223372036854775808<=v/\v< 9223372036854775808 then(v,ag,())else(0,af,()));by_cases h:v< 9223372036854775808
  .rw [aK (by omega),bb (by omega),qV,bM (by omega),AN,ah,ah,ax,ax,jl]
   unfold WW;dsimp only;rw[aO (by omega) (by omega)]
  .rw [az (by omega)]
   by_cases h2:v=9223372036854775808
   .subst h2;rfl
   .rw [aX (by omega)]
    rfl
 .show _=ab (if -9223372036854775808<= -v/\ -v< 9223372036854775808 then(-v,ag,())else(0,af,()));by_cases h:v<=9223372036854775808
  .rw [aK (by omega),bb (by omega),qV]
   have e:((aI (ai v 9223372036854775808) (ab (!true))).bind λJ=>ab J)=ab af:=by
    by_cases h2:v=9223372036854775808
    .subst h2;rfl
    .rw [bM h2];rfl
   rw[e,ah,au];show ab (w (wu (0-v)),ag,())=_;rw[pS];by_cases A:v=0
   .subst A;rfl
   .rw [show(0-v)%18446744073709551616=18446744073709551616-v by omega]
    have:w (18446744073709551616-v)= -v:=by
     show wr .i64 _=_;grind[tE,tM,tK,tL]
    rw[this]
  .rw [az (by omega),aX (by omega)]
   rfl
theorem aqW{x:DZ}(h:cJ aR x):sq x=ab (rq (zv x)):=by
 have i:=h.2;unfold aR at i;have m:=rD x;unfold sq;rw[HT (by omega) h.1,ah]
 have J:=dO (vN x.2.1);have A:=nn (vN x.2.1);have U:=vi (vN x.2.1);have j:zv x=bif x.1 then -(vN x.2.1:Int)else(vN x.2.1:Int):=rfl;have I:(nd (vN x.2.1)).length<=1099511627774:=bU (g9 (jL h.1 (aJ _))) (by omega)
 generalize nd (vN x.2.1)=l at*;match l,J,A,U,I with
 |[],_,A,_,_=>
  have A:(0:Int)=(vN x.2.1:Int):=A;rw[bD (r:=.inl ((0,()),(),())) (by rfl),fo]
  exact R4 (by omega) (by omega) (by trivial) (by simp[j,A])
 |[a],J,A,_,_=>
  have d:=J a (e8 ..);have A:a+4294967296*0=(vN x.2.1:Int):=A;rw[show w ((([a]:List Int).length:Int)-1)=((0:Nat):Int)from aO (by omega) (by omega)]
  rw[cD (s':=((a,-1,()),(),())) (by
   unfold B3;dsimp only;rw[bQ (by omega),mY,bQ (by simp),ah,au,eg (by simp),show([a]:List Int).getD 0 0=a from rfl,gy]
   have e:=vA (r:=0) (y:=a) (by omega) (by omega) d.1 d.2
   rw[gy]at e;rw[e,aO (by omega) (by omega),SG]
   rfl)]
  rw[bD (r:=.inl ((a,()),(),())) (by rfl),fo]
  exact R4 d.1 (by omega) (by simp) (by grind)
 |[a,b],J,A,_,_=>
  have d:=J a (e8 ..);have f:=J b (gB _ (e8 ..));have A:a+4294967296*(b+4294967296*0)=(vN x.2.1:Int):=A;rw[show w ((([a,b]:List Int).length:Int)-1)=((1:Nat):Int)from aO (by omega) (by omega)]
  rw[cD (s':=((b,((0:Nat):Int),()),(),())) (by
   unfold B3;dsimp only;rw[bQ (by omega),mY,bQ (by simp),ah,au,eg (by simp),show([a,b]:List Int).getD 1 0=b from rfl,gy]
   have e:=vA (r:=0) (y:=b) (by omega) (by omega) f.1 f.2
   rw[gy]at e;rw[e,aO (by omega) (by omega),SG]
   rfl)]
  rw[cD (s':=((b*4294967296+a,-1,()),(),())) (by
   unfold B3;dsimp only;rw[bQ (by omega),mY,bQ (by simp),ah,au,eg (by simp),show([a,b]:List Int).getD 0 0=a from rfl]
   have e:=vA (r:=b) (y:=a) f.1 f.2 d.1 d.2;rw[e,aO (by omega) (by omega)]
   rfl)]
  rw[bD (r:=.inl ((b*4294967296+a,()),(),())) (by rfl),fo]
  exact R4 (by omega) (by omega) (by simp) (by grind)
 |a::b::c::l,J,A,U,I=>
  have g:18446744073709551616<=(vN x.2.1:Int):=by
   have h1:=sH J U (n:=l.length+2) rfl;have h2:=dA J (l.length+2);have h3:dv (a::b::c::l)=wv (a::b::c::l) (l.length+2)+(a::b::c::l).getD (l.length+2) 0*4294967296^(l.length+2):=by
    rw[<-cM (a::b::c::l) (l.length+3) (aJ _)];rfl
   rw[A]at h3;have o:=sR (a:=2) (b:=l.length+2) (by omega)
   have p:(4294967296:Int)^2=18446744073709551616:=rfl;have q:1*4294967296^(l.length+2)<=(a::b::c::l).getD (l.length+2) 0*4294967296^(l.length+2):=iy (by omega) (by omega)
   omega
  have Z:((a::b::c::l).length:Int)=(l.length:Int)+3:=rfl;have k:l.length+3<=1099511627774:=I;rw[Z,aO (by omega) (by omega)]
  rw[bD (r:=.inl ((0,()),(),())) (by
   unfold B3;dsimp only;rw[Z,bQ (by omega),mY,dJ (by omega),ah,ax]
   rfl),fo]
  unfold GZ rq;dsimp only;rw[Z,aX (by omega),H8,ah,H8,ah,au,az (by
   omega)]
  rfl
theorem Re{a:Int}(A:0<=a)(h1:a< 4294967296):wu (((word .u64 0).lor (word .u64 (wu (wu a*((2:Int)^(wu (32*wu 0)).toNat.min 64)))):Nat):Int)=a:=by
 have e:(wu (32*wu 0)).toNat.min 64=0:=by rfl
 rw[e,bS (n:=a) A (by omega)]
 have:=vA (r:=0) (y:=a) (by omega) (by omega) A h1
 rw[gy,SG]at this;rw[show a*(2)^0=a by omega]
 trivial
theorem abz{a b:Int}(A:0<=a)(h1:a< 4294967296)(b0:0<=b)(I:b< 4294967296):wu (((word .u64 a).lor (word .u64 (wu (wu b*((2:Int)^(wu (32*wu 1)).toNat.min 64)))):Nat):Int)=a+b*4294967296:=by
 have e:(wu (32*wu 1)).toNat.min 64=32:=by rfl
 rw[bS (n:=b) b0 (by omega)]
 exact ZG A h1 b0 I
theorem QU{n v:Int}{l:List Int}(U:0<=v)(h1:v< 18446744073709551616)(Z:(n.natAbs:Int)=v):((aI (decide (n< 0)) (ab (aj v 9223372036854775808))).bind λI=>bif I then ab (w (wu (0-v)),ag,())else(aI (!decide (n< 0)) (ab (ao v 9223372036854775808))).bind λJ=>bif J then ab (w v,ag,())else ab (0,af,()))=ab (rq n):=by
 unfold rq;by_cases A:n< 0
 .rw [decide_eq_true A,mY,ah];by_cases h:v<=9223372036854775808
  .rw [bQ h,pS]
   have:w (18446744073709551616-v)= -v:=by
    show wr .i64 _=_;grind[tE,tM,tK,tL]
   grind
  .rw [az (by omega),dJ (by omega)]
   rfl
 .rw [decide_eq_false A,AN,ah,ax,eS,mY,ah];by_cases h:v< 9223372036854775808
  .rw [aK (by omega),aX h,au,aO (by omega) (by omega),show v=n by omega]
  .rw [az (by omega),bb (by omega)]
   rfl
theorem aoN{x:DZ}(h:cJ aR x):sV x=ab (rq (zv x)):=by
 have m:=h.2;unfold aR at m;unfold sV;rw[aow h,ah];have e:=h.lt;generalize zv x=n at*;have J:=dO n.natAbs;have A:=nn n.natAbs;have Z:=vi n.natAbs;have U:(nd n.natAbs).length<=1099511627774:=bU (g9 e) (by trivial)
 unfold nz;generalize nd n.natAbs=l at*;have f:ao 1 0=af:=bb (by omega)
 have i:ao 1 1=af:=bb (by omega)
 have o:ao 1 2=ag:=aX (by omega)
 have g:w (0+1)=1:=aO (by omega) (by omega)
 have j:w (1+1)=2:=aO (by omega) (by omega)
 match l,J,A,Z,U with
 |[],_,A,_,_=>
  have A:(0:Int)=(n.natAbs:Int):=A;refine bD ?_;unfold pD;dsimp only;rw[bb (by trivial),ax,QU (l:=[]) (by omega) (by omega) A.symm]
  rfl
 |[a],J,A,_,_=>
  have I:=J a (e8 ..);have A:a+4294967296*0=(n.natAbs:Int):=A;rw[cD (s':=((a,1,()),(),())) (by
   unfold pD;dsimp only;rw[aX (by simp),au,f,ax,show aL [a] 0=aL [a] ((0:Nat):Int)from rfl,eg (by simp),show([a]:List Int).getD 0 0=a from rfl,Re I.1 I.2,g]
   rfl)]
  refine bD ?_;unfold pD;dsimp only;rw[bb (by simp),ax,QU (l:=[]) I.1 (by omega) (by omega)]
  rfl
 |[a,b],J,A,_,_=>
  have I:=J a (e8 ..);have d:=J b (gB _ (e8 ..));have A:a+4294967296*(b+4294967296*0)=(n.natAbs:Int):=A;rw[cD (s':=((a,1,()),(),())) (by
   unfold pD;dsimp only;rw[aX (by simp),au,f,ax,show aL [a,b] 0=aL [a,b] ((0:Nat):Int)from rfl,eg (by simp),show([a,b]:List Int).getD 0 0=a from rfl,Re I.1 I.2,g]
   rfl)]
  rw[cD (s':=((a+b*4294967296,2,()),(),())) (by
   unfold pD;dsimp only;rw[aX (by simp),au,i,ax,show aL [a,b] 1=aL [a,b] ((1:Nat):Int)from rfl,eg (by simp),show([a,b]:List Int).getD 1 0=b from rfl,abz I.1 I.2 d.1 d.2,j]
   rfl)]
  refine bD ?_;unfold pD;dsimp only;rw[bb (by simp),ax,QU (l:=[]) (by omega) (by omega) (by omega)]
  rfl
 |a::b::c::l,J,A,Z,U=>
  have I:=J a (e8 ..);have d:=J b (gB _ (e8 ..));have k:18446744073709551616<=(n.natAbs:Int):=by
   have h1:=sH J Z (n:=l.length+2) rfl;have h2:=dA J (l.length+2);have h3:dv (a::b::c::l)=wv (a::b::c::l) (l.length+2)+(a::b::c::l).getD (l.length+2) 0*4294967296^(l.length+2):=by
    rw[<-cM (a::b::c::l) (l.length+3) (aJ _)];rfl
   rw[A]at h3;have r:=sR (a:=2) (b:=l.length+2) (by omega)
   have s:(4294967296:Int)^2=18446744073709551616:=rfl;have t:1*4294967296^(l.length+2)<=(a::b::c::l).getD (l.length+2) 0*4294967296^(l.length+2):=iy (by omega) (by omega)
   omega
  have p:((a::b::c::l).length:Int)=(l.length:Int)+3:=rfl;have q:(a::b::c::l).length=l.length+3:=rfl;rw[cD (s':=((a,1,()),(),())) (by
   unfold pD;dsimp only;rw[aX (by omega),au,f,ax,show aL (a::b::c::l) 0=aL (a::b::c::l) ((0:Nat):Int)from rfl,eg (by omega),show(a::b::c::l:List Int).getD 0 0=a from rfl,Re I.1 I.2,g]
   rfl)]
  rw[cD (s':=((a+b*4294967296,2,()),(),())) (by
   unfold pD;dsimp only;rw[aX (by omega),au,i,ax,show aL (a::b::c::l) 1=aL (a::b::c::l) ((1:Nat):Int)from rfl,eg (by omega),show(a::b::c::l:List Int).getD 1 0=b from rfl,abz I.1 I.2 d.1 d.2,j]
   rfl)]
  refine bD ?_;unfold pD rq;dsimp only;rw[aX (by omega),au,o,au,az (by omega)]
  rfl
theorem agd:IM=sr:=rfl
def cl(x:Int):=if x< -1048576 then -1048576 else if 1048576< x then 1048576 else x
theorem Fq x:sr x (-1048576) 1048576=ab (cl x):=by
 unfold sr cl;by_cases h:x< -1048576
 .rw [aX h,au,aK h]
 .by_cases h2:1048576< x
  .rw [bb (by omega),ax,aX h2,au,az h,aK h2]
  .rw [bb (by omega),ax,bb (by omega),ax,az h,az h2]
def yk(x:al):al:=(cl x.1,cl x.2.1,())
theorem NO x:z4 x=ab (yk x):=by
 unfold z4 Kd;rw[Fq,Fq];rfl
theorem aaG x:C8 x=ab (yk x):=by
 unfold C8;rw[agd,Fq,Fq];rfl
theorem r9 x: -1048576<=cl x/\cl x<=1048576:=by
 grind[cl]
def cj(x:al):=decide (-1048576<=x.1)&&decide (x.1<=1048576)&&decide (-1048576<=x.2.1)&&decide (x.2.1<=1048576)
theorem agb x:ai (cl x) x=(decide (-1048576<=x)&&decide (x<=1048576)):=by
 unfold cl;by_cases h:x< -1048576
 .rw [bM (by omega),decide_eq_false (by omega)];rfl
 .by_cases h2:1048576< x
  .rw [bM (by omega),decide_eq_true (by omega),decide_eq_false (by omega)];rfl
  .rw [az h,az h2,dF rfl,decide_eq_true (by omega),decide_eq_true (by omega)];rfl
theorem pR x:iX x=ab (cj x):=by
 unfold iX;rw[NO];show ab (ai (cl _) _&&(ai (cl _) _&&ag))=_;simp[agb,cj,wD]
theorem rb x:jr x=ab (cj x):=by
 unfold jr;rw[ct,ah,ct,ah,ct,oh,oh,oh,oh];rfl
def zR(x y:al):al:=((yk x).1-(yk y).1,(yk x).2.1-(yk y).2.1,())
theorem ap6 x y:D9 x y=ab (zR x y):=by
 have a:=r9 x.1;have b:=r9 x.2.1;have c:=r9 y.1;have d:=r9 y.2.1;unfold D9;rw[NO,NO];show ab (w (cl _-cl _),w (cl _-cl _),())=_;rw[aO (by omega) (by omega),aO (by omega) (by omega)]
 rfl
theorem QW x y:C9 x y=ab (zR x y):=by
 have a:=r9 x.1;have b:=r9 x.2.1;have c:=r9 y.1;have d:=r9 y.2.1;unfold C9;rw[aaG,aaG];show ab (w (cl _-cl _),w (cl _-cl _),())=_;rw[aO (by omega) (by omega),aO (by omega) (by omega)]
 rfl
theorem aqH:IP=RW:=rfl
theorem apJ x:sr x (-1) 1=zc x:=by
 unfold sr zc;rcases KM x 0 with h|h|h
 .rw [aX h,au];by_cases h2:x< -1
  .rw [aX h2,au]
  .rw [bb (by omega),ax,bb (by omega),ax,show x= -1 by omega]
 .subst h;rfl
 .rw [bb (x:=x) (y:= -1) (by omega),ax,bb (x:=x) (y:=0) (by omega),ax,aX (x:=0) h,au]
  by_cases h2:1< x
  .rw [aX h2,au]
  grind
theorem ani:zZ=q9:=by
 unfold zZ q9;simp[ap6,QW,aqH,apJ]
theorem abt m n(hm:(nz m).2.1.length<=1099511627776):vP (nz m) (nz n)=ab (decide (m=n)):=by
 unfold vP;rw[sb,cx,ah];by_cases A:(nz m).1=(nz n).1
 .by_cases I:(nz m).2.1.length=(nz n).2.1.length
  .rw [A,show((nz n).1==(nz n).1)=ag by simp,dF (by omega)]
   obtain⟨r,e,rfl⟩:=eh (step:=Qw (nz m) (nz n)) (λs=>∃i:Nat,s=(((i:Int),()),(),())/\i<=(nz m).2.1.length/\∀j,j< i->(nz m).2.1.getD j 0=(nz n).2.1.getD j 0) (λs=>((nz m).2.1.length)-s.1.1.toNat) (λr=>r=decide (m=n)) (by
    rintro _ ⟨i,rfl,hi,J⟩;unfold Qw;dsimp only;by_cases h2:i<(nz m).2.1.length
    .rw [aX (by omega),eg h2,eg (by omega)]
     by_cases h3:(nz m).2.1.getD i 0=(nz n).2.1.getD i 0
     .left;rw[dF h3,bZ,aO _ _]
      refine⟨_,rfl,⟨i+1,rfl,by omega,λj h=>?_⟩,?_⟩
      all_goals grind
     .right;rw[bM h3,eS];exact⟨_,rfl,(decide_eq_false λh=>h3 (by rw[h])).symm⟩
    .right;rw[bb (by omega)]
     refine⟨_,rfl,(decide_eq_true ?_).symm⟩;have e:=List.ext_getElem I λk h3 U=>by
      grind
     rw[<-bH m,<-bH n,Aa,Aa,A,e]) _ ⟨0,rfl,by omega,λj h=>by omega⟩
   exact e
  .rw [bM (by omega),eS,wH,au,decide_eq_false λh=>I (by rw[h])]
 .have:((nz m).1==(nz n).1)=af:=by
   grind
  rw[this,eS,acG,au,decide_eq_false λh=>A (by rw[h])]
theorem apv a b(h:QS 1099511627776 a):IK (nq a) (nq b)=ab (decide (a=b)):=by
 have A:=dZ h;unfold IK;rw[show vP (nq a).1 (nq b).1=_ from abt _ _ A.1.2,show vP (nq a).2.1 (nq b).2.1=_ from abt _ _ A.2.2,ah,ah,ct,ah];congr 1;by_cases h1:a=b
 .grind
 .rw [decide_eq_false h1,acD];by_cases h2:a.num=b.num
  .right;exact decide_eq_false λh3=>h1 (Rat.ext h2 (by omega))
  grind
def cQ(k:Nat)(x:bE):Prop:=cr k x.1/\cr k x.2.1/\cr k x.2.2.1/\cr k x.2.2.2.1/\cr k x.2.2.2.2.1/\cr k x.2.2.2.2.2.1
theorem cQ.mono{k m:Nat}{x:bE}(h:cQ k x)(hm:k<=m):cQ m x:=⟨h.1.mono hm,h.2.1.mono hm,h.2.2.1.mono hm,h.2.2.2.1.mono hm,h.2.2.2.2.1.mono hm,h.2.2.2.2.2.mono hm⟩
structure Af where
 a:Rat
 b:Rat
 c:Rat
 d:Rat
 e:Rat
 f:Rat
def av(x:bE):Af:=⟨qv x.1,qv x.2.1,qv x.2.2.1,qv x.2.2.2.1,qv x.2.2.2.2.1,qv x.2.2.2.2.2.1⟩
def na(t:Af):bE:=(nq t.a,nq t.b,nq t.c,nq t.d,nq t.e,nq t.f,())
theorem uq(t:Af):av (na t)=t:=by
 simp[av,na,eK]
def AS(k:Nat)(t:Af):Prop:=QS k t.a/\QS k t.b/\QS k t.c/\QS k t.d/\QS k t.e/\QS k t.f
theorem mo{x:bE}{k:Nat}(h:cQ k x)(A:1<=k):AS k (av x):=⟨eC h.1 A,eC h.2.1 A,eC h.2.2.1 A,eC h.2.2.2.1 A,eC h.2.2.2.2.1 A,eC h.2.2.2.2.2 A⟩
theorem qQ{t:Af}{k:Nat}(h:AS k t):cQ k (na t):=⟨dZ h.1,dZ h.2.1,dZ h.2.2.1,dZ h.2.2.2.1,dZ h.2.2.2.2.1,dZ h.2.2.2.2.2⟩
theorem HU{x:bE}(h:cQ aR x):ui x=ab (na (av x)):=by
 unfold ui;rw[ny h.1,ny h.2.1,ny h.2.2.1,ny h.2.2.2.1,ny h.2.2.2.2.1,ny h.2.2.2.2.2];rfl
theorem aaL{x:bE}(h:cQ 500000000000 x):Da x=ab (na (av x)):=by
 unfold Da;rw[kc h.1,kc h.2.1,kc h.2.2.1,kc h.2.2.2.1,kc h.2.2.2.2.1,kc h.2.2.2.2.2];rfl
def lO(q:Rat):Bool:=decide (Fj q<=256)
def eA(t:Af):Bool:=lO t.a&&(lO t.b&&(lO t.c&&(lO t.d&&(lO t.e&&(lO t.f&&ag)))))
theorem VL(n:Nat):ao 256 (n:Int)= !decide (n<=256):=by
 by_cases h:n<=256
 .rw [bb (by omega),decide_eq_true h];rfl
 .rw [aX (by omega),decide_eq_false h];rfl
theorem AJ{x:bE}(h:cQ aR x):rP x=ab (eA (av x)):=by
 have s:=qQ (mo h (by trivial))
 unfold rP;rw[HU h,ah,y5 s.1,y5 s.2.1,y5 s.2.2.1,y5 s.2.2.2.1,y5 s.2.2.2.2.1,y5 s.2.2.2.2.2];unfold na eA;grind[eK,VL,lO]
theorem aoc{l:List DQ}(J:l.length<=1099511627776)(h:∀q∈l,cr 500000000000 q):aF (IY l) ((0,()),(),())=ab (l.all λq=>lO (qv q)):=by
 obtain⟨r,e,rfl⟩:=eh (step:=IY l) (λs=>∃i:Nat,s=(((i:Int),()),(),())/\i<=l.length/\(l.take i).all (λq=>lO (qv q))=ag) (λs=>((l.length:Int)-s.1.1).toNat) (λr=>r=l.all λq=>lO (qv q)) (by
  rintro _ ⟨i,rfl,hi,A⟩;unfold IY;dsimp only;by_cases h2:i< l.length
  .rw [aX (by omega),au,br h2,aoD (h _ (fh h2)),ah,VL,aO (by omega) (by omega)]
   cases I:decide (Fj (qv l[i])<=256)with
   |true=>
    left;refine⟨_,rfl,⟨i+1,rfl,by omega,?_⟩,?_⟩
    .rw [KT,adx,A,gA h2];simp[lO,I]
    grind
   |false=>
    right;refine⟨_,rfl,?_⟩;symm;rw[ady];exact⟨l[i],fh h2,by simp[lO,I,Bool.false_ne_true]⟩
  .right;rw[bb (by omega),ax]
   refine⟨_,rfl,?_⟩;rw[<-A,EG (by omega)]) ((0,()),(),()) ⟨0,rfl,by omega,rfl⟩
 exact e
theorem DJ{x:bE}(h:cQ 500000000000 x):sX x=ab (eA (av x)):=by
 unfold sX zf;rw[ah,aoc (by simp) (λq A=>by
  simp at A;rcases A with rfl|rfl|rfl|rfl|rfl|rfl
  .exact h.1
  .exact h.2.1
  .exact h.2.2.1
  .exact h.2.2.2.1
  .exact h.2.2.2.2.1
  .exact h.2.2.2.2.2)]
 rfl
def wide:Nat:=1000000000
theorem cr.low{x:DQ}(h:cr wide x):cr mid x:=h.mono (by trivial)
theorem iu{q:Rat}{k m:Nat}(h:QS k q)(hm:k<=m):QS m q:=⟨adk h.1 (sR hm),adk h.2 (sR hm)⟩
theorem nA{a b:Rat}{k m:Nat}(A:QS k a)(I:QS m b):QS (k+m) (a*b):=by
 have h:=FC (a.num*b.num) (a.den*b.den) (tR (gj a) (gj b));rw[<-SU,nU,nU]at h;have J:=fT A.1 I.1;have U:=fT (fR A) (fR I);exact⟨by omega,by omega⟩
theorem CY{a b:Rat}{k m:Nat}(A:QS k a)(I:QS m b):QS (k+m+1) (a+b):=by
 have h:=FC (a.num*b.den+b.num*a.den) (a.den*b.den) (tR (gj a) (gj b));rw[Lc]at h;have U:=fT A.1 (fR I);have J:=fT I.1 (fR A);rw[adT m k]at J;have Z:=fT (fR A) (fR I);exact⟨by omega,by omega⟩
theorem anZ{a b:Rat}{k m:Nat}(A:QS k a)(I:QS m b):QS (k+m+1) (a-b):=by
 have h:=FC (a.num*b.den-b.num*a.den) (a.den*b.den) (tR (gj a) (gj b));rw[abX]at h;have J:=fT A.1 (fR I);have U:=fT I.1 (fR A);rw[adT m k]at U;have Z:=fT (fR A) (fR I);have c:=zS J (b:= -(b.num*a.den)) (by omega)
 exact⟨by omega,by omega⟩
theorem UD{x:bE}(h:cQ wide x):xn x=ab (nq ((av x).a*(av x).d-(av x).b*(av x).c)):=by
 have s:=mo h (by trivial)
 unfold xn;rw[Ix h.1.low h.2.2.2.1.low,ah,Ix h.2.1.low h.2.2.1.low,ah,anY (x:=nq (qv x.1*qv x.2.2.2.1)) (y:=nq (qv x.2.1*qv x.2.2.1)) ((dZ (nA s.1 s.2.2.2.1)).mono (by trivial)) ((dZ (nA s.2.1 s.2.2.1)).mono (by trivial))]
 simp[av,eK]
theorem aaE{x:bE}(h:cQ wide x):vQ x=ab (nq ((av x).a*(av x).d-(av x).b*(av x).c)):=by
 have s:=mo h (by trivial)
 unfold vQ;rw[Jx h.1.low h.2.2.2.1.low,ah,Jx h.2.1.low h.2.2.1.low,ah,aoI (x:=nq (qv x.1*qv x.2.2.2.1)) (y:=nq (qv x.2.1*qv x.2.2.1)) ((dZ (nA s.1 s.2.2.2.1)).mono (by trivial)) ((dZ (nA s.2.1 s.2.2.1)).mono (by trivial))]
 simp[av,eK]
theorem A7(a b:Rat):ai ((a.num*b.den-b.num*a.den).sign) 0=decide (a=b):=by
 rw[GP];have key:a.num*b.den-b.num*a.den=0↔a=b:=by
  have h:=Rat.divInt_eq_divInt_iff (n₁:=a.num) (n₂:=b.num) (gj a) (gj b);rw[nU,nU]at h;rw[h];omega
 grind
def uC(s t:Af):Bool:=decide (s.a=t.a)&&(decide (s.b=t.b)&&(decide (s.c=t.c)&&(decide (s.d=t.d)&&(decide (s.e=t.e)&&(decide (s.f=t.f)&&ag)))))
theorem Ti{x y:bE}(A:cQ wide x)(I:cQ wide y):rO x y=ab (uC (av x) (av y)):=by
 have s:=(qQ (mo A (by trivial))).mono (m:=mid) (by trivial)
 have t:=(qQ (mo I (by trivial))).mono (m:=mid) (by trivial)
 unfold rO;rw[HU (A.mono (by trivial)),ah,HU (I.mono (by trivial)),ah,sS s.1 t.1,sS s.2.1 t.2.1,sS s.2.2.1 t.2.2.1,sS s.2.2.2.1 t.2.2.2.1,sS s.2.2.2.2.1 t.2.2.2.2.1,sS s.2.2.2.2.2 t.2.2.2.2.2]
 unfold na uC;simp[ah,eK,A7];grind
theorem apu{l m:List Rat}(J:l.length=m.length)(U:l.length<=1099511627776)(h:∀q∈l,QS 1099511627776 q):C7 (l.map nq) (m.map nq)=ab (decide (l=m)):=by
 unfold C7;have Z:(l.map nq).length=l.length:=gd ..;have a:(m.map nq).length=m.length:=gd ..;rw[dF (by omega),bZ]
 obtain⟨r,e,rfl⟩:=eh (step:=Qv (l.map nq) (m.map nq)) (λs=>∃i:Nat,s=(((i:Int),()),(),())/\i<=l.length/\l.take i=m.take i) (λs=>((l.length)-s.1.1).toNat) (λr=>r=decide (l=m)) (by
  rintro _ ⟨i,rfl,hi,I⟩;unfold Qv;dsimp only;by_cases h2:i< l.length
  .have h3:i< m.length:=by omega
   rw[aX (by omega),br (by omega),br (by omega),KS,KS,apv _ _ (h _ (fh h2)),ah]
   by_cases A:l[i]=m[i]
   .left;rw[decide_eq_true A,bZ,aO (by omega) (by omega)]
    refine⟨_,rfl,⟨i+1,rfl,by omega,?_⟩,?_⟩
    .rw [KT,KT,I,gA h2,gA h3,A]
    grind
   .right;rw[decide_eq_false A,eS];refine⟨_,rfl,(decide_eq_false λe=>A ?_).symm⟩
    subst e;rfl
  .right;rw[bb (by omega)]
   refine⟨_,rfl,(decide_eq_true ?_).symm⟩;grind) ((0,()),(),()) ⟨0,rfl,by omega,rfl⟩
 exact e
theorem aob{x y:bE}(I:cQ wide x)(U:cQ wide y):zg x y=ab (uC (av x) (av y)):=by
 have s:=mo I (by trivial)
 have A:wide<=1099511627776:=by trivial
 unfold zg Qy zf;rw[aaL (I.mono (by trivial)),aaL (U.mono (by trivial)),ah]
 have e:=apu (l:=[(av x).a,(av x).b,(av x).c,(av x).d,(av x).e,(av x).f]) (m:=[(av y).a,(av y).b,(av y).c,(av y).d,(av y).e,(av y).f]) rfl (by simp) (λq J=>by
  simp at J;rcases J with rfl|rfl|rfl|rfl|rfl|rfl
  .exact iu s.1 A
  .exact iu s.2.1 A
  .exact iu s.2.2.1 A
  .exact iu s.2.2.2.1 A
  .exact iu s.2.2.2.2.1 A
  .exact iu s.2.2.2.2.2 A)
 have e:C7 [(na (av x)).1,(na (av x)).2.1,(na (av x)).2.2.1,(na (av x)).2.2.2.1,(na (av x)).2.2.2.2.1,(na (av x)).2.2.2.2.2.1] [(na (av y)).1,(na (av y)).2.1,(na (av y)).2.2.1,(na (av y)).2.2.2.1,(na (av y)).2.2.2.2.1,(na (av y)).2.2.2.2.2.1]=_:=e;simp[e,ah,uC]
theorem zX{x y z u:DQ}(I:cr wide x)(J:cr wide y)(U:cr wide z)(Z:cr wide u):qg x y z u=ab (nq (qv x*qv y+qv z*qv u)):=by
 have A:1<=wide:=by trivial
 unfold qg;rw[Ix I.low J.low,ah,Ix U.low Z.low,ah,Iv (x:=nq (qv x*qv y)) (y:=nq (qv z*qv u)) ((dZ (nA (eC I A) (eC J A))).mono (by trivial)) ((dZ (nA (eC U A) (eC Z A))).mono (by trivial)),ah,eK,eK]
theorem s8{x y z u:DQ}(I:cr wide x)(J:cr wide y)(U:cr wide z)(Z:cr wide u):ow x y z u=ab (nq (qv x*qv y+qv z*qv u)):=by
 have A:1<=wide:=by trivial
 unfold ow;rw[Jx I.low J.low,ah,Jx U.low Z.low,ah,vY (x:=nq (qv x*qv y)) (y:=nq (qv z*qv u)) ((dZ (nA (eC I A) (eC J A))).mono (by trivial)) ((dZ (nA (eC U A) (eC Z A))).mono (by trivial)),ah,eK,eK]
theorem nJ{x y z u:Rat}(A:QS wide x)(I:QS wide y)(J:QS wide z)(U:QS wide u):QS (4*wide+1) (x*y+z*u):=iu (CY (nA A I) (nA J U)) (by omega)
def jc(t:Af)(x y:Rat):Rat×Rat:=(t.a*x+t.c*y+t.e,t.b*x+t.d*y+t.f)
theorem Tx{x:bE}{y z:DQ}(A:cQ wide x)(I:cr wide y)(J:cr wide z):AK x y z=ab (nq (jc (av x) (qv y) (qv z)).1,nq (jc (av x) (qv y) (qv z)).2,()):=by
 have U:1<=wide:=by trivial
 have s:=mo A U;have sy:=eC I U;have sz:=eC J U;unfold AK;rw[zX A.1 I A.2.2.1 J,ah,Iv (x:=nq (qv x.1*qv y+qv x.2.2.1*qv z)) ((dZ (nJ s.1 sy s.2.2.1 sz)).mono (by trivial)) A.2.2.2.2.1.low,ah,zX A.2.1 I A.2.2.2.1 J,ah,Iv (x:=nq (qv x.2.1*qv y+qv x.2.2.2.1*qv z)) ((dZ (nJ s.2.1 sy s.2.2.2.1 sz)).mono (by trivial)) A.2.2.2.2.2.low,eK,eK]
 rfl
theorem aoe{x:bE}{y z:DQ}(A:cQ wide x)(I:cr wide y)(J:cr wide z):IQ x y z=ab (nq (jc (av x) (qv y) (qv z)).1,nq (jc (av x) (qv y) (qv z)).2,()):=by
 have U:1<=wide:=by trivial
 have s:=mo A U;have sy:=eC I U;have sz:=eC J U;unfold IQ;rw[s8 A.1 I A.2.2.1 J,ah,vY (x:=nq (qv x.1*qv y+qv x.2.2.1*qv z)) ((dZ (nJ s.1 sy s.2.2.1 sz)).mono (by trivial)) A.2.2.2.2.1.low,ah,s8 A.2.1 I A.2.2.2.1 J,ah,vY (x:=nq (qv x.2.1*qv y+qv x.2.2.2.1*qv z)) ((dZ (nJ s.2.1 sy s.2.2.2.1 sz)).mono (by trivial)) A.2.2.2.2.2.low,eK,eK]
 rfl
def hf:=i9 1 2
def tf q:=rq (q+hf).floor
def cW(t:Af)(p:al):al×Int×Unit:=
 if eA t=af then((0,0,()),5,())else if cj p=af then((0,0,()),6,())else
  if((tf (jc t p.1 p.2.1).1).2.1&&((tf (jc t p.1 p.2.1).2).2.1&&cj ((tf (jc t p.1 p.2.1).1).1,(tf (jc t p.1 p.2.1).2).1,())))=ag then(((tf (jc t p.1 p.2.1).1).1,(tf (jc t p.1 p.2.1).2).1,()),0,())else((0,0,()),6,())
theorem vI{x:Int}(A: -4294967295<=x)(h1:x<=4294967295):QS 1 (x):=⟨by
 show(x.natAbs:Int)< 4294967296;omega,by
 simp⟩
theorem Gw:QS 1 hf:=by
 trivial
theorem Lo{t:Af}{x y:Rat}(A:AS wide t)(I:QS wide x)(J:QS wide y):QS (5*wide+2) (jc t x y).1/\QS (5*wide+2) (jc t x y).2:=
 ⟨iu (CY (nJ A.1 I A.2.2.1 J) A.2.2.2.2.1) (by omega),iu (CY (nJ A.2.1 I A.2.2.2.1 J) A.2.2.2.2.2) (by omega)⟩
theorem Zx{p:al}(h:cj p=ag): -1048576<=p.1/\p.1<=1048576/\ -1048576<=p.2.1/\p.2.1<=1048576:=by
 simp_all[cj,aM]
theorem Vw{q:Rat}{k:Nat}(h:QS k q):(q.floor.natAbs:Int)< 4294967296^(k+1):=by
 have e:q.floor=q.num/q.den:=by
  grind[SW]
 have:=ado q.num q.den;have:=h.1;omega
theorem aa3{q:Rat}(h:QS (5*wide+2) q):((ox (nq q) (nq hf)).bind λA=>(s9 A).bind λI=>sq I)=ab (tf q):=by
 have o:=CY h Gw;rw[Iv ((dZ h).mono (by trivial)) ((dZ Gw).mono (by trivial)),ah,eK,eK,anV ((dZ o).mono (by trivial)),ah,eK,aqW ((ec (Vw o)).mono (by trivial)),bH]
 rfl
theorem aaP{q:Rat}(h:QS (5*wide+2) q):((lS (nq q) (nq hf)).bind λA=>(sW A).bind λI=>sV I)=ab (tf q):=by
 have o:=CY h Gw;rw[vY ((dZ h).mono (by trivial)) ((dZ Gw).mono (by trivial)),ah,eK,eK,aoE ((dZ o).mono (by trivial)),ah,eK,aoN ((ec (Vw o)).mono (by trivial)),bH]
 rfl
theorem JP{α β γ δ:Type}(a:Option α)(f:α->Option β) g(k:γ->Option δ):(a.bind λx=>(f x).bind λy=>(g y).bind k)=(a.bind λx=>(f x).bind g).bind k:=by
 grind
theorem aeR{x:bE}{p:al}(h:cQ wide x):E0 x p=ab (cW (av x) p):=by
 have A:1<=wide:=by trivial
 unfold E0 cW;rw[AJ (h.mono (by trivial)),ah]
 cases a:eA _ with
 |false=>rfl
 |true=>
  rw[pR,ah];cases hp:cj p<;>first|have hi:=Zx hp;have J:=iu (vI (x:=p.1) (by omega) (by omega)) A;have sy:=iu (vI (x:=p.2.1) (by omega) (by omega)) A;obtain⟨U,Z⟩:=Lo (mo h A) J sy;rw[bZ,y6 (by omega) (by omega),ah,y6 (by omega) (by omega),ah,Tx h (dZ J) (dZ sy),ah,anW (by omega) (by omega) (by omega) (by omega),az (by omega),ah,eK,eK];rw[JP,show((ox (nq (jc (av x) p.1 p.2.1).1) (nq (i9 1 2))).bind λI=>(s9 I).bind sq)=_ from aa3 U,ah,JP,show((ox (nq (jc (av x) p.1 p.2.1).2) (nq (i9 1 2))).bind λI=>(s9 I).bind sq)=_ from aa3 Z,ah,ct,ah,pR,ah,ct,wD];grind|rfl
theorem aoa{x:bE}{p:al}(h:cQ wide x):ze x p=ab (cW (av x) p):=by
 have A:1<=wide:=by trivial
 unfold ze cW;rw[DJ (h.mono (by trivial)),ah]
 cases a:eA _ with
 |false=>rfl
 |true=>
  rw[rb,ah];cases hp:cj p<;>first|have hi:=Zx hp;have J:=iu (vI (x:=p.1) (by omega) (by omega)) A;have sy:=iu (vI (x:=p.2.1) (by omega) (by omega)) A;obtain⟨U,Z⟩:=Lo (mo h A) J sy;rw[bZ,vZ (by omega) (by omega),ah,vZ (by omega) (by omega),ah,aoe h (dZ J) (dZ sy),ah,aoF (by omega) (by omega) (by omega) (by omega),az (by omega),ah,eK,eK];rw[JP,show((lS (nq (jc (av x) p.1 p.2.1).1) (nq (i9 1 2))).bind λI=>(sW I).bind sV)=_ from aaP U,ah,JP,show((lS (nq (jc (av x) p.1 p.2.1).2) (nq (i9 1 2))).bind λI=>(sW I).bind sV)=_ from aaP Z,ah,cx,ah,rb,ah,cx];grind|rfl
def comp(s t:Af):Af:=⟨t.a*s.a+t.c*s.b,t.b*s.a+t.d*s.b,t.a*s.c+t.c*s.d,t.b*s.c+t.d*s.d,(jc t s.e s.f).1,(jc t s.e s.f).2⟩
def ie:Af:=⟨1,0,0,1,0,0⟩
theorem aiP:E4=ab (na ie):=by
 unfold E4 Lf uh;rw[y6 (by omega) (by omega),y6 (by omega) (by omega),ah]
 rfl
theorem aor:IX=ab (na ie):=by
 have A:cr 500000000000 ((nz 0,nz 0,())):=⟨⟨Dg.nil,bX _⟩,⟨Dg.nil,bX _⟩⟩;have h1:qv ((nz 0,nz 0,()))=0:=by rfl
 unfold IX Qz;rw[vZ (by omega) (by omega),vZ (by omega) (by omega),nz0,kc A,h1]
 rfl
theorem afr{x y:bE}(A:cQ wide x)(I:cQ wide y):E5 x y=ab (na (comp (av x) (av y))):=by
 unfold E5 uh;rw[Tx I A.2.2.2.2.1 A.2.2.2.2.2,zX I.1 A.1 I.2.2.1 A.2.1,zX I.2.1 A.1 I.2.2.2.1 A.2.1,zX I.1 A.2.2.1 I.2.2.1 A.2.2.2.1,zX I.2.1 A.2.2.1 I.2.2.2.1 A.2.2.2.1,ah];rfl
theorem aog{x y:bE}(I:cQ wide x)(A:cQ wide y):IU x y=ab (na (comp (av x) (av y))):=by
 have U:1<=wide:=by trivial
 have J:=mo I U;have sy:=mo A U;unfold IU;rw[s8 A.1 I.1 A.2.2.1 I.2.1,ah,s8 A.2.1 I.1 A.2.2.2.1 I.2.1,ah,s8 A.1 I.2.2.1 A.2.2.1 I.2.2.2.1,ah,s8 A.2.1 I.2.2.1 A.2.2.2.1 I.2.2.2.1,ah];rw[s8 A.1 I.2.2.2.2.1 A.2.2.1 I.2.2.2.2.2,ah,vY (x:=nq (qv y.1*qv x.2.2.2.2.1+qv y.2.2.1*qv x.2.2.2.2.2.1)) ((dZ (nJ sy.1 J.2.2.2.2.1 sy.2.2.1 J.2.2.2.2.2)).mono (by trivial)) A.2.2.2.2.1.low,ah]
 rw[s8 A.2.1 I.2.2.2.2.1 A.2.2.2.1 I.2.2.2.2.2,ah,vY (x:=nq (qv y.2.1*qv x.2.2.2.2.1+qv y.2.2.2.1*qv x.2.2.2.2.2.1)) ((dZ (nJ sy.2.1 J.2.2.2.2.1 sy.2.2.2.1 J.2.2.2.2.2)).mono (by trivial)) A.2.2.2.2.2.low,eK,eK]
 rfl
theorem Ur{s t:Af}(A:AS wide s)(I:AS wide t):AS (5*wide+2) (comp s t):=by
 obtain⟨J,U⟩:=Lo I A.2.2.2.2.1 A.2.2.2.2.2;exact⟨iu (nJ I.1 A.1 I.2.2.1 A.2.1) (by omega),iu (nJ I.2.1 A.1 I.2.2.2.1 A.2.1) (by omega),iu (nJ I.1 A.2.2.1 I.2.2.1 A.2.2.2.1) (by omega),iu (nJ I.2.1 A.2.2.1 I.2.2.2.1 A.2.2.2.1) (by omega),J,U⟩
theorem am0{q:Rat}(h:lO q=ag):QS 8 q:=by
 have h:=of_decide_eq_true h;have a:=Cj q.num.natAbs;have b:=Cj q.den;have c:2^dC q.num.natAbs<=2^256:=rH (by omega) (bU (Nat.le_max_left _ _) h)
 have d:2^dC q.den<=2^256:=rH (by omega) (bU (Nat.le_max_right _ _) h)
 unfold QS;omega
theorem Cz{t:Af}(h:eA t=ag):AS wide t:=by
 unfold eA at h;simp only[aM]at h;have m:∀{q},lO q=ag->QS wide q:=λh=>iu (am0 h) (by trivial)
 exact⟨m h.1,m h.2.1,m h.2.2.1,m h.2.2.2.1,m h.2.2.2.2.1,m h.2.2.2.2.2.1⟩
theorem N1:AS wide ie:=by
 have A:1<=wide:=by trivial
 have a:=iu (vI (x:=1) (by omega) (by omega)) A
 have b:=iu (vI (x:=0) (by omega) (by omega)) A
 exact⟨a,b,b,a,b,b⟩
def chain:Af->List Af->Option Af
 |s,[]=>ab s
 |s,t::l=>if eA t=ag/\eA (comp s t)=ag then chain (comp s t) l else none
theorem Fo(s t:Af)(l:List Af):chain s (t::l)=if eA t=ag/\eA (comp s t)=ag then chain (comp s t) l else none:=rfl
def zA:bE:=(((af,[],()),(af,[],()),()),((af,[],()),(af,[],()),()),((af,[],()),(af,[],()),()),((af,[],()),(af,[],()),()),((af,[],()),(af,[],()),()),((af,[],()),(af,[],()),()),())
def qW(o:Option Af):bE×Int×Unit:=match o with
 |some t=>(na t,0,())
 |none=>(zA,5,())
theorem aoi{l:List bE}(Z:l.length<=1099511627776)(h:∀x∈l,cQ wide x):IW l=ab (qW (chain ie (l.map av))):=by
 unfold IW;rw[aor,ah];obtain⟨r,e,rfl⟩:=eh (step:=Qx l) (λs=>∃i:Nat,∃z,∃t:Af,s=(((i:Int),()),(z,na t,()),())/\i<=l.length/\AS wide t/\chain ie (l.map av)=chain t ((l.drop i).map av)) (λs=>((l.length:Int)-s.1.1).toNat) (λr=>r=qW (chain ie (l.map av))) (by
  rintro _ ⟨i,z,t,rfl,hi,J,A⟩;unfold Qx;dsimp only;by_cases h2:i< l.length
  .have U:=h _ (fh h2);rw[eF h2,oL]at A;rw[Fo]at A;rw[aX (by omega),au,br h2,DJ (U.mono (by trivial)),ah]
   cases I:eA (av l[i])with
   |false=>
    right;rw[eS,au];refine⟨_,rfl,?_⟩;rw[A,az (by rw[I];exact λh=>Sb h.1)]
    rfl
   |true=>
    rw[bZ,ax,br h2,aog (qQ J) U,ah,DJ ((qQ (Ur (by rw[uq];exact J) (Cz I))).mono (by unfold wide;omega)),ah,uq,uq]
    cases hp:eA (comp t (av l[i]))with
    |false=>
     right;rw[eS,au];refine⟨_,rfl,?_⟩;rw[A,az (by rw[hp];exact λh=>Sb h.2)]
     rfl
    |true=>
     left;rw[bZ,ax,aO (by omega) (by omega)]
     refine⟨_,rfl,⟨i+1,_,_,rfl,by omega,Cz hp,?_⟩,?_⟩
     .rw [A,aK ⟨I,hp⟩]
     .show ((l.length:Int)-((i:Int)+1)).toNat<((l.length:Int)-(i:Int)).toNat;omega
  .right;rw[bb (by omega),ax]
   refine⟨_,rfl,?_⟩;rw[A,eM (by omega)]
   rfl) _ ⟨0,_,ie,rfl,by omega,N1,rfl⟩
 exact e
theorem Ua:∀(l:List Af) (s:Af),l.all eA=af->chain s l=none
 |[],_,h=>by cases h
 |t::l,s,h=>by
  rw[Fo];split
  .refine Ua l _ ?_;grind
  .rfl
theorem agn{l:List bE}(a:l.length<=1099511627776)(h:∀x∈l,cQ wide x):E1 l=ab (qW (chain ie (l.map av))):=by
 unfold E1;rw[aiP,ah];obtain⟨r,e,rfl⟩:=eh (step:=Ld l (na ie)) (λs=>∃i:Nat,∃z,s=(((i:Int),()),(z,()),())/\i<=l.length/\((l.take i).map av).all eA=ag) (λs=>((l.length:Int)-s.1.1).toNat) (λr=>r=qW (chain ie (l.map av))) (by
  rintro _ ⟨i,z,rfl,hi,J⟩;unfold Ld;dsimp only;by_cases h2:i< l.length
  .have U:=h _ (fh h2);rw[aX (by omega),au,br h2,AJ (U.mono (by trivial)),ah]
   cases A:eA (av l[i])with
   |false=>
    right;rw[eS,au];refine⟨_,rfl,?_⟩;rw[Ua _ _ (ady.2 ⟨av l[i],lg.2 ⟨_,fh h2,rfl⟩,by grind⟩)]
    rfl
   |true=>
    left;rw[bZ,ax,aO (by omega) (by omega)]
    refine⟨_,rfl,⟨i+1,_,rfl,by omega,?_⟩,?_⟩
    .rw [KT,p8,adx,J,gA h2];show(ag&&(eA (av l[i])&&ag))=ag;rw[A];rfl
    .show ((l.length:Int)-((i:Int)+1)).toNat<((l.length:Int)-(i:Int)).toNat;omega
  .right;rw[bb (by omega),ax]
   rw[EG (by omega)]at J
   have e:∀z,aF (E2 l) ((0,()),(z,na ie,()),())=ab (qW (chain ie (l.map av))):=λz=>by
    obtain⟨r,e,rfl⟩:=eh (step:=E2 l) (λs=>∃i:Nat,∃z,∃t:Af,s=(((i:Int),()),(z,na t,()),())/\i<=l.length/\AS wide t/\chain ie (l.map av)=chain t ((l.drop i).map av)) (λs=>((l.length:Int)-s.1.1).toNat) (λr=>r=qW (chain ie (l.map av))) (by
    rintro _ ⟨i,z,t,rfl,hi,Z,I⟩;unfold E2;dsimp only;by_cases h2:i< l.length
    .have U:=h _ (fh h2);have A:eA (av l[i])=ag:=List.all_eq_true.1 J _ (lg.2 ⟨_,fh h2,rfl⟩);rw[eF h2,oL,Fo]at I;rw[aX (by omega),au,br h2,afr (qQ Z) U,ah,AJ ((qQ (Ur (by rw[uq];exact Z) (Cz A))).mono (by unfold wide aR;omega)),ah,uq,uq]
     cases hp:eA (comp t (av l[i]))with
     |false=>
      right;rw[eS,au];refine⟨_,rfl,?_⟩;rw[I,az (by rw[hp];exact λh=>Sb h.2)]
      rfl
     |true=>
      left;rw[bZ,ax,aO (by omega) (by omega)]
      refine⟨_,rfl,⟨i+1,_,_,rfl,by omega,Cz hp,?_⟩,?_⟩
      .rw [I,aK ⟨A,hp⟩]
      .show ((l.length:Int)-((i:Int)+1)).toNat<((l.length:Int)-(i:Int)).toNat;omega
    .right;rw[bb (by omega),ax]
     unfold Le uh;rw[HU ((qQ Z).mono (by unfold wide aR;omega)),ah,ah,ah,ah]
     refine⟨_,rfl,?_⟩;rw[I,eM (by omega),uq]
     rfl) ((0,()),(z,na ie,()),()) ⟨0,z,ie,rfl,by omega,N1,rfl⟩
    exact e
   rw[e];exact⟨_,rfl,rfl⟩) _ ⟨0,_,rfl,by omega,rfl⟩
 exact e
section
def nm(k:Int):Int:=if k=1 then 1 else if k=2 then 1 else if k=3 then 2 else if k=4 then 3 else if k=5 then 0 else -1
theorem Pn(k:Int):ou k=ab (nm k):=by
 unfold ou nm ZY
 by_cases h1:k=1
 .subst h1;rfl
 by_cases h2:k=2
 .subst h2;rfl
 by_cases h3:k=3
 .subst h3;rfl
 by_cases A:k=4
 .subst A;rfl
 rw[bM A,ax,bM h3,ax,bM h1,ax,bM h2,ax,jl,az h1,az h2,az h3,az A]
 by_cases I:k=5
 .subst I;rfl
 .rw [bM I,ax,az I]
theorem aaJ(k:Int):sY k=ab (nm k):=by
 unfold sY nm aaB
 by_cases h1:k=1
 .subst h1;rfl
 by_cases h2:k=2
 .subst h2;rfl
 by_cases h3:k=3
 .subst h3;rfl
 by_cases A:k=4
 .subst A;rfl
 by_cases I:k=5
 .subst I;rfl
 rw[bM h1,ax,jl,bM h2,ax,bM h3,ax,bM A,ax,bM I,ax,az h1,az h2,az h3,az A,az I]
def g7(p:al):Bool:=ai p.1 0&&(ai p.2.1 0&&ag)
theorem ai1{p:al}(h:g7 p=ag):cj p=ag:=by
 unfold g7 at h
 rw[aM,aM,dY,dY]at h
 have a:=of_decide_eq_true h.1
 have b:=of_decide_eq_true h.2.1
 unfold cj
 simp only[aM,decide_eq_true_eq]
 omega
def lD(n i:Int)(p:al):Bool:=bif aj n i then g7 p else cj p
theorem MH(n i:Int)(p:al):((bl (!cj p) ((ab n).bind λA=>(aI (aj A i) (ab !g7 p)).bind λI=>ab I)))=ab (!lD n i p):=by
 rw[ah,ct,ah,cx]
 unfold lD
 cases h:g7 p
 .cases aj n i<;>cases cj p<;>rfl
 .rw [ai1 h]
  cases aj n i<;>rfl
theorem ahy(n i:Int)(p:al):((aI (ao i n) ((ab (cj p)).bind λA=>ab !A)).bind λI=>(bl I ((aI (aj n i) (ab !g7 p)).bind λJ=>ab J)))=ab (!lD n i p):=by
 have e:ao i n= !aj n i:=by
  by_cases h:n<=i
  .rw [bb h,bQ h];rfl
  .rw [aX (by omega),dJ (by omega)];rfl
 rw[e,ah,ct,ah,ct,ah,cx]
 unfold lD
 cases aj n i<;>cases g7 p<;>cases cj p<;>rfl
def o5(x:bt):Bool:=lD (nm x.1) 0 x.2.1&&(lD (nm x.1) 1 x.2.2.1&&lD (nm x.1) 2 x.2.2.2.1)
theorem ahz(x:bt):Ij x=ab (o5 x):=by
 unfold Ij o5
 show((iX x.2.1).bind λA=>(bl (!A) ((ou x.1).bind λz=>(aI (aj z 0) (ab !g7 x.2.1)).bind λz=>ab z)).bind λI=>bif I then ab af else(iX x.2.2.1).bind λJ=>(bl (!J) ((ou x.1).bind λz=>(aI (aj z 1) (ab !g7 x.2.2.1)).bind λz=>ab z)).bind λU=>bif U then ab af else(iX x.2.2.2.1).bind λZ=>(bl (!Z) ((ou x.1).bind λz=>(aI (aj z 2) (ab !g7 x.2.2.2.1)).bind λz=>ab z)).bind λu8=>bif u8 then ab af else ab ag)=_
 simp only[Pn,pR]
 rw[ah,MH,ah]
 cases lD (nm x.1) 0 x.2.1
 .rfl
 .rw [bZ,ax,ah,MH,ah]
  cases lD (nm x.1) 1 x.2.2.1
  .rfl
  .rw [bZ,ax,ah,MH,ah]
   cases lD (nm x.1) 2 x.2.2.2.1<;>rfl
end
section
def fG(p:Int)(s:bt):Int:=bif ao (nm s.1) 0 then 2 else bif !(ai s.1 1||(!ai p 5&&(!ai s.1 5||!ai p 1)))then 10 else bif !o5 s then 6 else 0
def m0:Int->Nat->List bt->al
 |_,_,[]=>(0,0,())
 |p,i,s::l=>bif ai (fG p s) 0 then m0 s.1 (i+1) l else(fG p s,(i:Int),())
theorem A4(p:Int)(i:Nat)(s:bt)(l:List bt):m0 p i (s::l)=bif ai (fG p s) 0 then m0 s.1 (i+1) l else(fG p s,(i:Int),()):=rfl
def nZ(x:List bt):al:=if 256< x.length then(5,256,())else m0 5 0 x
theorem anx(x:List bt):Ih x=ab (nZ x):=by
 unfold Ih nZ;by_cases I:256< x.length
 .rw [aX (by omega),au,aK I]
 .rw [bb (by omega),ax,az I]
  obtain⟨r,e,rfl⟩:=eh (step:=PT x) (λs=>∃i:Nat,∃p:Int,s=((p,(i:Int),()),(),())/\i<=x.length/\m0 5 0 x=m0 p i (x.drop i)) (λs=>((x.length:Int)-s.1.2.1).toNat) (λr=>r=m0 5 0 x) (by
   rintro _ ⟨i,p,rfl,hi,A⟩;unfold PT;dsimp only;by_cases h2:i< x.length
   .rw [eF h2,A4]at A;rw[aX (by omega),au,br h2,cx,ah,ct,ah,cx,ah,Pn,ah,ahz,ah,aO (by omega) (by omega)]
    unfold fG at A;cases h3:ao (nm x[i].1) 0 with
    |true=>
     right;rw[h3,au,bM (by omega),ax]at A
     exact⟨_,rfl,A.symm⟩
    |false=>
     rw[h3,ax]at A;cases J:(ai x[i].1 1||(!ai p 5&&(!ai x[i].1 5||!ai p 1)))with
     |false=>
      right;rw[J,eS,au,bM (by omega),ax]at A
      exact⟨_,rfl,A.symm⟩
     |true=>
      rw[J,bZ,ax]at A;cases U:o5 x[i]with
      |false=>
       right;rw[U,eS,au,bM (by omega),ax]at A
       exact⟨_,rfl,A.symm⟩
      |true=>
       left;rw[U,bZ,ax,dF rfl,au]at A;refine⟨_,rfl,⟨i+1,x[i].1,rfl,by omega,A⟩,?_⟩
       show((x.length:Int)-((i:Int)+1)).toNat<((x.length:Int)-(i:Int)).toNat;omega
   .right;rw[bb (by omega),ax]
    refine⟨_,rfl,?_⟩;rw[A,eM (by omega)]
    rfl) ((5,0,()),(),()) ⟨0,5,rfl,by omega,rfl⟩
  exact e
theorem Ig(x:List bt):vG x=ab (ai (nZ x).1 0):=by
 simp[vG,anx,ah]
theorem MI{β:Type}(n i:Int)(p:al)(k:Bool->Option β):((aI (ao i n) ((ab (cj p)).bind λA=>ab !A)).bind λI=>(bl I ((aI (aj n i) (ab !g7 p)).bind λJ=>ab J)).bind k)=k (!lD n i p):=by
 rw[<-Option.bind_assoc,ahy,ah]
def qX(x:List bt)(i:Nat):Int:=if i=0 then 5 else(match x[i-1]? with|some s=>s.1|none=>5)
theorem apZ{x:List bt}{i:Nat}(h:i< x.length)(J:x.length<=256):I0 x (i:Int)=ab (ai x[i].1 1||(!ai (qX x i) 5&&(!ai x[i].1 5||!ai (qX x i) 1))):=by
 unfold I0 qX;have A:∀k,(ai k 1||(!ai k 5))= !ai k 5:=λk=>by
  by_cases h:k=1
  all_goals simp[bM,h]
 by_cases I:i=0
 .subst I;rw[dF (by omega),H8,ah,br h]
  show ab _=ab (_||(af&&_))
  simp
 .have h1:i-1< x.length:=by omega
  rw[bM (by omega),qV,aO (by omega) (by omega),show(i)-1=((i-1:Nat):Int) by omega,br h1,ah,az I,gA h1]
  cases U:ai x[i-1].1 5<;>first|rw[ax,br h,br h1,cx,ah,eS,nQ,<-Bool.or_assoc,A]|rw[au,br h,bZ,wF,wG]
theorem aqR{x:List bt}{i:Nat}(h:i< x.length)(Z:x.length<=256):I2 x (i:Int)=ab (fG (qX x i) x[i]):=by
 unfold I2 fG Db;rw[br h,aaJ,ah,apZ h Z];cases h3:ao (nm x[i].1) 0 with
 |true=>rfl
 |false=>
  cases a:(ai x[i].1 1||(!ai (qX x i) 5&&(!ai x[i].1 5||!ai (qX x i) 1)))with
  |false=>rfl
  |true=>
   rw[br h];show((aI (ao 0 (nm x[i].1)) ((jr x[i].2.1).bind λA=>ab !A)).bind λI=>(bl I ((aI (aj (nm x[i].1) 0) (ab !g7 x[i].2.1)).bind λJ=>ab J)).bind λU=>bif U then ab 6 else(aI (ao 1 (nm x[i].1)) ((jr x[i].2.2.1).bind λA=>ab !A)).bind λI=>(bl I ((aI (aj (nm x[i].1) 1) (ab !g7 x[i].2.2.1)).bind λJ=>ab J)).bind λU=>bif U then ab 6 else(aI (ao 2 (nm x[i].1)) ((jr x[i].2.2.2.1).bind λA=>ab !A)).bind λI=>(bl I ((aI (aj (nm x[i].1) 2) (ab !g7 x[i].2.2.2.1)).bind λJ=>ab J)).bind λU=>bif U then ab 6 else ab 0)=_
   simp only[rb];rw[MI];unfold o5;cases lD (nm x[i].1) 0 x[i].2.1
   .rfl
   .rw [bZ,MI];cases lD (nm x[i].1) 1 x[i].2.2.1
    .rfl
    .rw [MI];grind
theorem aoh(x:List bt):IZ x=ab (nZ x):=by
 unfold IZ nZ;by_cases I:256< x.length
 .rw [aX (by omega),au,aK I]
 .rw [bb (by omega),ax,az I]
  obtain⟨r,e,rfl⟩:=eh (step:=QA x) (λs=>∃i:Nat,s=(((i:Int),()),(),())/\i<=x.length/\m0 5 0 x=m0 (qX x i) i (x.drop i)) (λs=>((x.length:Int)-s.1.1).toNat) (λr=>r=m0 5 0 x) (by
   rintro _ ⟨i,rfl,hi,A⟩;unfold QA;dsimp only;by_cases h2:i< x.length
   .rw [eF h2,A4]at A;rw[aX (by omega),au,aqR h2 (by omega),ah,aO (by omega) (by omega)]
    cases h3:ai (fG (qX x i) x[i]) 0 with
    |false=>
     right;rw[h3,ax]at A;exact⟨_,rfl,A.symm⟩
    |true=>
     left;rw[h3,au]at A;refine⟨_,rfl,⟨i+1,rfl,by omega,?_⟩,?_⟩
     .rw [A];congr 1;unfold qX;grind
     grind
   .right;rw[bb (by omega),ax]
    refine⟨_,rfl,?_⟩;rw[A,eM (by omega)]
    rfl) ((0,()),(),()) ⟨0,rfl,by omega,rfl⟩
  exact e
theorem Jw(x:List bt):sZ x=ab (ai (nZ x).1 0):=by
 simp[sZ,aoh,ah]
end
section
def uZ(y:Int):=aj 0 y&&aj y 1048576
def xT:Bool->Nat->List Int->Bool
 |b,n,[]=>b&&(ai (Int.tmod (n:Int) 2) 0&&aj n 16)
 |b,n,y::l=>bif uZ y then xT (b||ao 0 y) n l else af
theorem UZ b n y l:xT b n (y::l)=bif uZ y then xT (b||ao 0 y) n l else af:=rfl
def uB(l:List Int):=xT (ai l.length 0) l.length l
theorem amT y:(ao y 0||ao 1048576 y)= !uZ y:=by
 unfold uZ;by_cases h:y< 0
 .simp[aX,h,dJ]
 .by_cases h2:1048576< y
  .rw [bb (by omega),aX h2,bQ (by omega),dJ h2];rfl
  .rw [bb (by omega),bb (by omega),bQ (by omega),bQ (by omega)];rfl
theorem agz{l:List Int}(I:l.length<=1099511627776):Rw l=ab (uB l):=by
 obtain⟨r,e,rfl⟩:=eh (step:=Rx l) (λs=>∃i:Nat,∃b:Bool,s=((b,(i:Int),()),(),())/\i<=l.length/\uB l=xT b _ (l.drop i)) (λs=>(l.length)-s.1.2.1.toNat) (λr=>r=uB l) (by
  rintro _ ⟨i,b,rfl,hi,A⟩;unfold Rx;dsimp only;by_cases h2:i< l.length
  .rw [eF h2,UZ]at A;rw[aX (by omega),br h2,cx,amT,cx,aO (by omega) (by omega)]
   cases h3:uZ _ with
   |false=>
    right;rw[h3]at A;exact⟨_,rfl,A.symm⟩
   |true=>
    left;rw[h3]at A;refine⟨_,rfl,⟨i+1,_,rfl,by omega,A⟩,?_⟩
    grind
  .right;rw[bb (by omega),ct,ah,ct,ah]
   refine⟨_,rfl,?_⟩;rw[A,eM (by omega),wD]
   rfl) ((ai (l.length) 0,0,()),(),()) ⟨0,_,rfl,by omega,rfl⟩
 exact e
theorem aoj{l:List Int}(I:l.length<=1099511627776):QH l=ab (uB l):=by
 obtain⟨r,e,rfl⟩:=eh (step:=QI l) (λs=>∃i:Nat,∃b:Bool,s=((b,(i:Int),()),(),())/\i<=l.length/\uB l=xT b _ (l.drop i)) (λs=>(l.length)-s.1.2.1.toNat) (λr=>r=uB l) (by
  rintro _ ⟨i,b,rfl,hi,A⟩;unfold QI ra;dsimp only;by_cases h2:i< l.length
  .rw [eF h2,UZ]at A;rw[aX (by omega),br h2,ct,br h2,cx,aO (by omega) (by omega),show(aj 0 _&&aj _ _)=uZ _ from rfl]
   cases h3:uZ _ with
   |false=>
    right;rw[h3]at A;exact⟨_,rfl,A.symm⟩
   |true=>
    left;rw[h3]at A;refine⟨_,rfl,⟨i+1,_,rfl,by omega,A⟩,?_⟩
    grind
  .right;rw[bb (by omega),ct,ah,ct,ah]
   refine⟨_,rfl,?_⟩;rw[A,eM (by omega),wD,acC (aj _ _)]
   rfl) ((ai (l.length) 0,0,()),(),()) ⟨0,_,rfl,by omega,rfl⟩
 exact e
def CR(x:oN):=aj 1 x.1&&aj x.1 16384&&(aj 1 x.2.1&&aj x.2.1 3)&&(aj 3 x.2.2.1&&aj x.2.2.1 5)&&(aj 256 x.2.2.2.1&&aj x.2.2.2.1 65536)&&uB x.2.2.2.2.1&&(aj 0 x.2.2.2.2.2.1&&aj x.2.2.2.2.2.1 1048576)
theorem three k a:(ai k a||ai k (a+1)||ai k (a+2))=(aj a k&&aj k (a+2)):=by
 by_cases h1:k=a
 .rw [dF h1,bQ (by omega),bQ (by omega)];rfl
 .by_cases h2:k=a+1
  .rw [bM h1,dF h2,bQ (by omega),bQ (by omega)];rfl
  .by_cases h3:k=a+2
   .rw [bM h1,bM h2,dF h3,bQ (by omega),bQ (by omega)];rfl
   .rw [bM h1,bM h2,bM h3];by_cases A:a<=k
    .rw [bQ A,dJ (by omega)];rfl
    .rw [dJ (by omega)];rfl
theorem anA{x:oN}(A:x.2.2.2.2.1.length<=1099511627776):J5 x=ab (CR x):=by
 unfold J5 Ry CR;have t1:(aj 1 _&&aj _ 3)=(ai _ 1||ai _ 2||ai _ 3):=(three x.2.1 1).symm
 have t2:(aj 3 _&&aj _ 5)=(ai _ 3||ai _ 4||ai x.2.2.1 5):=(three _ 3).symm
 rw[agz A,t1,t2];simp[cx,ct,ah,wD]
theorem aoz{x:oN}(A:x.2.2.2.2.1.length<=1099511627776):Jf x=ab (CR x):=by
 unfold Jf QJ ra CR;rw[aoj A];simp only[cx,ct,ah];grind
end
section
theorem Tu{α ρ:Type}{step:(Int×Unit)×Unit×Unit->Option (((Int×Unit)×Unit×Unit)⊕ρ)}(l:List α)(p:α->Bool)(A ok:ρ)
  (h1:∀(i:Nat) (h:i< l.length),step (((i:Int),()),(),())=bif p l[i]then ab (.inl ((((i:Int)+1),()),(),()))else ab (.inr A))
  (h3:step (((l.length:Int),()),(),())=ab (.inr ok)):∀(k i:Nat),i+k=l.length->aF step (((i:Int),()),(),())=ab (bif(l.drop i).all p then ok else A)
 |0,i,I=>by
  have:i=l.length:=by omega
  subst this
  rw[bD h3,List.drop_length];rfl
 |k+1,i,I=>by
  have hi:i< l.length:=by omega
  have e:=h1 i hi
  rw[eF hi,wY]
  cases hp:p l[i]with
  |true=>
   rw[hp,au]at e
   rw[cD e,nQ,show(i:Int)+1=((i+1:Nat):Int) by omega]
   exact Tu l p A ok h1 h3 k (i+1) (by omega)
  |false=>
   rw[hp,ax]at e
   rw[bD e];rfl
theorem mn{α ρ:Type}{step:(Int×Unit)×Unit×Unit->Option (((Int×Unit)×Unit×Unit)⊕ρ)}(l:List α)(p:α->Bool)(A ok:ρ)
  (h1:∀(i:Nat) (h:i< l.length),step (((i:Int),()),(),())=bif p l[i]then ab (.inl ((((i:Int)+1),()),(),()))else ab (.inr A))
  (h3:step (((l.length:Int),()),(),())=ab (.inr ok)):aF step ((0,()),(),())=ab (bif l.all p then ok else A):=
 Tu l p A ok h1 h3 l.length 0 (by omega)
def big:Nat:=1099511627776
theorem oj{α:Type}(l:List α):ai (l.length:Int) 0=cC l:=by
 cases l with
 |nil=>rfl
 |cons a l=>rw[bM (by rw[jP];omega)];rfl
theorem ag6(l:List Int):JY l []=ab (cC l):=by
 unfold JY
 show(bif !ai (l.length:Int) 0 then ab af else _)=_
 rw[oj]
 cases l with
 |cons a l=>rfl
 |nil=>exact bD (by unfold abJ;rfl)
theorem ag7(l:List qa):JZ l []=ab (cC l):=by
 unfold JZ
 show(bif !ai (l.length:Int) 0 then ab af else _)=_
 rw[oj]
 cases l with
 |cons a l=>rfl
 |nil=>exact bD (by unfold abH;rfl)
theorem ag8(l:List ll):J0 l []=ab (cC l):=by
 unfold J0
 show(bif !ai (l.length:Int) 0 then ab af else _)=_
 rw[oj]
 cases l with
 |cons a l=>rfl
 |nil=>exact bD (by unfold abI;rfl)
def vk(x:oN):Bool:=ai x.1 0&&ai x.2.1 0&&ai x.2.2.1 0&&ai x.2.2.2.1 0&&ai x.2.2.2.2.2.1 0&&cC x.2.2.2.2.1
theorem abr(x:oN):Cv x (0,0,0,0,[],0,())=ab (vk x):=by
 unfold Cv vk
 dsimp only
 simp only[ct,ah,ag6]
theorem aaK(x:bV):zm x=ab (vk x.2.2.2.2.2.2.2.2.2.2.2.2.2.1):=by
 unfold zm vk
 simp only[ct,ah,oj]
 rw[Bool.and_right_comm]
def jG(x:mT):Bool:=ai x.1 0&&ai x.2.1 0&&cC x.2.2.1
theorem WN(x:mT):BW x (0,0,[],())=ab (jG x):=by
 unfold BW jG
 dsimp only
 simp only[ct,ah,ag7]
def Cp(x:bV):Bool:=jG x.2.2.2.2.2.2.2.2.2.2.2.2.2.2.2.1&&ai x.2.2.2.2.2.2.2.2.2.2.2.2.2.2.2.2.1 0
theorem aot(x:bV):Dy x=ab (Cp x):=by
 unfold Dy Cp jG
 simp only[ct,ah,oj]
def Co(x:bV):Bool:=ai x.2.2.2.2.2.2.1 0&&ai x.2.2.2.2.2.2.2.1 0&&!x.2.2.2.2.2.2.2.2.1&&!x.2.2.2.2.2.2.2.2.2.1
theorem aos(x:bV):Dx x=ab (Co x):=by
 unfold Dx Co
 simp only[ct,ah]
def Cr(x:bV):Bool:=cC x.2.2.2.2.2.2.2.2.2.2.1&&ai x.2.2.2.2.2.2.2.2.2.2.2.1 0&&cC x.2.2.2.2.2.2.2.2.2.2.2.2.1&&cC x.2.2.2.2.2.2.2.2.2.2.2.2.2.2.1
theorem aou(x:bV):Dz x=ab (Cr x):=by
 unfold Dz Cr
 simp only[ct,ah,oj]
def qk(x:bV):Bool:=bif ai x.2.1 1 then(Cr x&&vk x.2.2.2.2.2.2.2.2.2.2.2.2.2.1)&&Cp x else bif ai x.2.1 2 then Co x&&Cp x else Co x&&(Cr x&&vk x.2.2.2.2.2.2.2.2.2.2.2.2.2.1)
theorem afo(x:bV):HJ x=ab (qk x):=by
 unfold HJ qk
 simp only[ct,ah,oj,abr,WN]
 unfold Cr Cp Co
 cases ai x.2.1 1<;>cases ai x.2.1 2<;>rfl
def zy(k:Int):Bool:=ai k 1||ai k 2
theorem aa8(k:Int):Cu k=ab (zy k):=by unfold Cu;rw[cx,ah];rfl
theorem aaQ(k:Int):DB k=ab (zy k):=by unfold DB;rw[cx,ah];rfl
theorem Iq{α:Type}(l:List α):ao 0 (l.length:Int)= !cC l:=by
 cases l with
 |nil=>rfl
 |cons a l=>rw[aX (by rw[jP];omega)];rfl
def uA(x:bV):Bool:=bif cC x.2.2.2.2.1 then ai x.2.2.2.2.2.1 0 else zy x.2.2.2.2.2.1
theorem aox(x:bV):DA x=ab (uA x&&qk x):=by
 unfold DA qk
 simp only[aaQ,aou,aaK,aot,aos,ct,cx,ah,oj,Iq]
 unfold uA
 cases cC x.2.2.2.2.1<;>cases ai x.2.2.2.2.2.1 0<;>cases zy x.2.2.2.2.2.1<;>cases ai x.2.1 1<;>cases ai x.2.1 2<;>simp[wD]
def mE(x:qa):Bool:=aj x.1 x.2.2.2.1&&aj x.2.1 x.2.2.2.1&&aj x.2.2.1 x.2.2.2.1
theorem aoC(x:qa):Jh x=ab (mE x):=by
 unfold Jh mE
 simp only[ct,ah]
theorem min_eq(a b:Int):ai (bif aj a b then a else b) a=aj a b:=by
 by_cases h:a<=b
 .rw [bQ h,au,dF rfl]
 .rw [dJ (by omega),ax,bM (by omega)]
theorem anT(x:qa):Fv x=ab (mE x):=by
 unfold Fv L9 mE
 rw[ah]
 show ab (ai (bif aj x.1 x.2.2.2.1 then x.1 else x.2.2.2.1) x.1&&(ai (bif aj x.2.1 x.2.2.2.1 then x.2.1 else x.2.2.2.1) x.2.1&&(ai (bif aj x.2.2.1 x.2.2.2.1 then x.2.2.1 else x.2.2.2.1) x.2.2.1&&(ai (bif aj x.2.2.2.1 x.2.2.2.1 then x.2.2.2.1 else x.2.2.2.1) x.2.2.2.1&&ag))))=_
 rw[min_eq,min_eq,min_eq,min_eq,bQ (Es _)]
 simp[wD]
def Rz(a b:Int):Bool:=(aj 1 a&&aj a 4096)&&(aj 1 b&&aj b 4096)&&aj (w (a*b)) 65536
def so(x:mT):Bool:=Rz x.1 x.2.1&&ai (x.2.2.1.length:Int) (w (x.1*x.2.1))&&x.2.2.1.all mE
theorem kK(a b:Int):ao a b= !aj b a:=by
 by_cases h:a< b
 .rw [aX h,dJ h];rfl
 .rw [bb (by omega),bQ (by omega)];rfl
theorem WM{x:mT}(I:x.2.2.1.length<=big):BX x=ab (so x):=by
 unfold BX GR
 simp only[ct,cx,ah,kK 65536]
 unfold so Rz
 have A:aF (GQ x) ((0,()),(),())=ab (x.2.2.1.all mE):=by
  refine(mn x.2.2.1 mE af ag (λi hi=>?_) ?_).trans (by cases x.2.2.1.all mE<;>rfl)
  .unfold GQ N6
   dsimp only
   rw[aX (by omega),au,br hi,anT,ah,ah,aO (by unfold big at I;omega) (by unfold big at I;omega),bQ (by omega)]
   cases mE x.2.2.1[i]<;>rfl
  .unfold GQ
   dsimp only
   rw[bb (by omega)];rfl
 rw[A]
 cases(aj 1 x.1&&aj x.1 4096)<;>cases(aj 1 x.2.1&&aj x.2.1 4096)<;>cases aj (w (x.1*x.2.1)) 65536<;>cases ai (x.2.2.1.length:Int) (w (x.1*x.2.1))<;>rfl
theorem aaH{x:mT}(I:x.2.2.1.length<=big):Dv x=ab (so x):=by
 unfold Dv QL
 simp only[ct,cx,ah]
 unfold so Rz
 have A:aF (Ji x) ((0,()),(),())=ab (x.2.2.1.all mE):=by
  refine(mn x.2.2.1 mE af ag (λi hi=>?_) ?_).trans (by cases x.2.2.1.all mE<;>rfl)
  .unfold Ji
   dsimp only
   rw[aX (by omega),au,br hi,aoC,ah,aO (by unfold big at I;omega) (by unfold big at I;omega)]
   cases mE x.2.2.1[i]<;>rfl
  .unfold Ji
   dsimp only
   rw[bb (by omega)];rfl
 rw[A]
 cases aj 1 x.1<;>cases aj x.1 4096<;>cases aj 1 x.2.1<;>cases aj x.2.1 4096<;>cases aj (w (x.1*x.2.1)) 65536<;>cases ai (x.2.2.1.length:Int) (w (x.1*x.2.1))<;>rfl
end
section
def gr:Int->List ll->Bool
 |_,[]=>ag
 |p,y::l=>aj p y.1&&aj y.1 65536&&gr y.1 l
def n8(x:List ll):Bool:=(aj 1 (x.length:Int)&&aj (x.length:Int) 16)&&gr 0 x
theorem VI{x:List ll}(A:x.length<=big):∀(k i:Nat) (p:Int),i+k=x.length->aF (BB x) ((p,(i:Int),()),(),())=ab (gr p (x.drop i))
 |0,i,p,J=>by
  refine bD ?_
  unfold BB
  dsimp only
  rw[bb (by omega),eM (by omega)];rfl
 |k+1,i,p,J=>by
  have hi:i< x.length:=by omega
  have e:BB x ((p,(i:Int),()),(),())=bif aj p x[i].1&&aj x[i].1 65536 then ab (.inl ((x[i].1,((i+1:Nat):Int),()),(),()))else ab (.inr af):=by
   unfold BB
   dsimp only
   rw[aX (by omega),au,br hi,cx,ah,aO (by unfold big at A;omega) (by unfold big at A;omega),kK,kK 65536]
   cases aj p x[i].1<;>cases aj x[i].1 65536<;>rfl
  rw[eF hi]
  show _=ab (aj p x[i].1&&aj x[i].1 65536&&gr x[i].1 (x.drop (i+1)))
  cases I:aj p x[i].1&&aj x[i].1 65536 with
  |true=>rw[I,au]at e;rw[cD e,nQ];exact VI A k (i+1) _ (by omega)
  |false=>rw[I,ax]at e;rw[bD e];rfl
theorem ahU{x:List ll}(A:x.length<=big):Gm x=ab (n8 x):=by
 unfold Gm n8
 rw[cx,ah,kK,kK 16,show((0:Int),(0:Int),())=((0:Int),((0:Nat):Int),())from rfl,VI A x.length 0 0 (by omega)]
 cases aj 1 (x.length:Int)<;>cases aj (x.length:Int) 16<;>rfl
def py(x:List ll)(i:Nat):Int:=if i=0 then 0 else(match x[i-1]? with|some s=>s.1|none=>0)
theorem aaF{x:List ll}(A:x.length<=big):∀(k i:Nat),i+k=x.length->0<=py x i->aF (Du x) (((i:Int),()),(),())=ab (gr (py x i) (x.drop i)&&(aj 1 (x.length:Int)&&aj (x.length:Int) 16))
 |0,i,Z,_=>by
  refine bD ?_
  unfold Du
  dsimp only
  rw[bb (by omega),eM (by omega),ax,ct];rfl
 |k+1,i,Z,hp=>by
  have hi:i< x.length:=by omega
  have e:Du x (((i:Int),()),(),())=bif aj (py x i) x[i].1&&aj x[i].1 65536 then ab (.inl ((((i+1:Nat):Int),()),(),()))else ab (.inr af):=by
   unfold Du
   dsimp only
   rw[aX (by omega),au,br hi,br hi,cx,ah,aO (n:=(i:Int)+1) (by unfold big at A;omega) (by unfold big at A;omega),kK 65536]
   by_cases U:i=0
   .subst U
    rw[bb (x:=0) (y:=((0:Nat):Int)) (by omega),AN,ah,cx,ah,kK]
    show(bif !aj 0 x[0].1||!aj x[0].1 65536||false then aH af else aP ((((0:Nat):Int)+1,()),(),()))=bif aj 0 x[0].1&&_ then _ else _
    cases aj 0 x[0].1<;>cases aj x[0].1 65536<;>rfl
   .have h1:i-1< x.length:=by omega
    have I:py x i=x[i-1].1:=by unfold py;rw[az U,gA h1]
    rw[I]at hp|-
    rw[aX (x:=0) (y:=(i:Int)) (by omega),mY,aO (n:=(i:Int)-1) (by unfold big at A;omega) (by unfold big at A;omega),br hi,show(i:Int)-1=((i-1:Nat):Int) by omega,br h1,ah,cx,ah,kK x[i].1 x[i-1].1]
    cases h3:aj x[i-1].1 x[i].1 with
    |false=>rw[wF,eS,wH];rfl
    |true=>
     rw[oh,decide_eq_true_eq]at h3
     rw[bb (x:=x[i].1) (y:=0) (by omega)]
     cases aj x[i].1 65536<;>rfl
  rw[eF hi]
  show _=ab ((aj (py x i) x[i].1&&aj x[i].1 65536&&gr x[i].1 (x.drop (i+1)))&&_)
  cases J:aj (py x i) x[i].1&&aj x[i].1 65536 with
  |true=>
   rw[J,au]at e
   rw[cD e,nQ]
   have I:py x (i+1)=x[i].1:=by unfold py;rw[az (by omega),EI,gA hi]
   rw[aM,oh,decide_eq_true_eq]at J
   rw[<-I]
   exact aaF A k (i+1) (by omega) (by rw[I];omega)
  |false=>rw[J,ax]at e;rw[bD e];rfl
theorem aop{x:List ll}(A:x.length<=big):Ds x=ab (n8 x):=by
 unfold Ds n8
 rw[show((0:Int),())=(((0:Nat):Int),())from rfl,aaF A x.length 0 (by omega) (by unfold py;rw[aK rfl];omega),acC]
 rfl
def nF(k:Int):Bool:=aj 1 k&&aj k 3
theorem abO(k:Int):CM k=ab (nF k):=by unfold CM;rw[ct,ah];rfl
theorem aoL(k:Int):zl k=ab (nF k):=by unfold zl;rw[ct,ah];rfl
theorem ap2{x:fI}(h:x.2.2.2.2.2.1.length<=big):CN x=ab (n8 x.2.2.2.2.2.1&&nF x.2.2.2.2.2.2.1):=by
 unfold CN
 rw[ahU h,ah,abO,ah,ct,ah]
theorem Km:cQ wide zA:=by
 have z:cr wide ((af,[],()),(af,[],()),()):=⟨⟨λ_ h=>(by cases h),bX _⟩,⟨λ_ h=>(by cases h),bX _⟩⟩
 exact⟨z,z,z,z,z,z⟩
def c0(x:xg):Bool:=cS J8 x (0,0,0,0,())
def iG(x:al):Bool:=cS aT x (0,0,())
def z8(t:bE):Bool:=uC (av t) (av zA)
theorem ag5(t:Af):uC t t=ag:=by unfold uC;simp
theorem zz:rO zA zA=ab ag:=by rw[Ti Km Km,ag5]
theorem afm{t:bE}(h:cQ wide t):rO t zA=ab (z8 t):=Ti h Km
theorem aof{t:bE}(h:cQ wide t):zg t zA=ab (z8 t):=aob h Km
theorem apq{t:bE}(h:cQ wide t):QM t=ab (z8 t):=by
 show(zg t zA).bind _=_
 rw[aof h,ah]
def mr(t:Af):Bool:=decide (t.a*t.d-t.b*t.c=0)
theorem agG{t:Af}(h:AS wide t):QS (4*wide+1) (t.a*t.d-t.b*t.c):=iu (anZ (nA h.1 h.2.2.2.1) (nA h.2.1 h.2.2.1)) (by omega)
theorem FB{x:bE}(h:cQ wide x):cr mid (nq ((av x).a*(av x).d-(av x).b*(av x).c)):=(dZ (agG (mo h (by unfold wide;omega)))).mono (by unfold wide mid;omega)
theorem aqZ:cr mid ((af,[],()),(af,[],()),()):=⟨⟨λ_ h=>(by cases h),bX _⟩,⟨λ_ h=>(by cases h),bX _⟩⟩
theorem an1:qv ((af,[],()),(af,[],()),())=0:=by
 have:dv []=0:=by first|rfl|simp[dv]
 unfold qv
 simp[zv,vN,this]
theorem Px:cr mid (nq ((0:Int):Rat)):=(dZ (vI (by omega) (by omega))).mono (by unfold mid;omega)
theorem agF{x:bE}(h:cQ wide x):((xn x).bind λA=>(nB A ((af,[],()),(af,[],()),())).bind λI=>ab !ai I 0)=ab (!mr (av x)):=by
 rw[UD h,ah,sS (FB h) aqZ,ah,eK,A7,an1];rfl
theorem aqY{x:bE}(h:cQ wide x):HO x=ab (mr (av x)):=by
 unfold HO
 rw[UD h,ah,y6 (by omega) (by omega),ah,sS (FB h) Px,ah,eK,eK,A7];rfl
theorem aok{x:bE}(h:cQ wide x):((vQ x).bind λA=>(lT 0).bind λI=>(vL A I).bind λJ=>ab !ai J 0)=ab (!mr (av x)):=by
 rw[aaE h,ah,vZ (by omega) (by omega),ah,aaO (FB h) Px,ah,eK,eK,A7];rfl
theorem CK(k:Int)(c:xg)(p q:al)(r:Int)(s:List ll)(sp:Int)(i:mT)(sm:Int):
  ot (k,c,p,q,r,s,sp,i,sm,zA,()) (k,(0,0,0,0,()),(0,0,()),(0,0,()),0,[],0,(0,0,[],()),0,zA,())=ab (c0 c&&iG p&&iG q&&ai r 0&&ai sp 0&&ai sm 0&&cC s&&jG i):=by
 unfold ot
 dsimp only
 simp only[ct,ah,ag8,WN,zz,tH,dF rfl,nQ]
 rfl
def hasB(x:fI):Bool:=
 bif ai x.1 1 then(iG x.2.2.1&&iG x.2.2.2.1&&ai x.2.2.2.2.1 0&&cC x.2.2.2.2.2.1)&&(jG x.2.2.2.2.2.2.2.1&&ai x.2.2.2.2.2.2.2.2.1 0)&&ai x.2.2.2.2.2.2.1 0&&z8 x.2.2.2.2.2.2.2.2.2.1
 else bif ai x.1 2 then(jG x.2.2.2.2.2.2.2.1&&ai x.2.2.2.2.2.2.2.2.1 0)&&c0 x.2.1&&ai x.2.2.2.2.1 0&&cj x.2.2.1&&cj x.2.2.2.1&&n8 x.2.2.2.2.2.1&&nF x.2.2.2.2.2.2.1
 else bif ai x.1 3 then(jG x.2.2.2.2.2.2.2.1&&ai x.2.2.2.2.2.2.2.2.1 0)&&c0 x.2.1&&iG x.2.2.2.1&&cj x.2.2.1&&aj 1 x.2.2.2.2.1&&aj x.2.2.2.2.1 1048576&&n8 x.2.2.2.2.2.1&&nF x.2.2.2.2.2.2.1
 else ai x.1 4&&((iG x.2.2.1&&iG x.2.2.2.1&&ai x.2.2.2.2.1 0&&cC x.2.2.2.2.2.1)&&c0 x.2.1&&so x.2.2.2.2.2.2.2.1&&(ai x.2.2.2.2.2.2.1 0||nF x.2.2.2.2.2.2.1)&&(ai x.2.2.2.2.2.2.2.2.1 1||ai x.2.2.2.2.2.2.2.2.1 2))
def nu(x:fI):Bool:=(eA (av x.2.2.2.2.2.2.2.2.2.1)&&hasB x)&&(ai x.1 1||!mr (av x.2.2.2.2.2.2.2.2.2.1))
structure rL(x:fI):Prop where
 t:cQ wide x.2.2.2.2.2.2.2.2.2.1
 s:x.2.2.2.2.2.1.length<=big
 i:x.2.2.2.2.2.2.2.1.2.2.1.length<=big
theorem aoq{x:fI}(h:rL x):Jj x=ab (hasB x):=by
 unfold Jj hasB Jk Dw
 simp only[ct,cx,ah,apq h.t,rb,aop h.s,aoL,aaH h.i,oj]
 unfold jG
 cases ai x.1 1<;>cases ai x.1 2<;>cases ai x.1 3<;>rfl
theorem aoy{x:fI}(h:rL x):Jl x=ab (nu x):=by
 unfold Jl nu
 rw[DJ (h.t.mono (by unfold wide;omega)),ah,aoq h,ah,cx,ah,aok h.t,cx,ah]
 cases eA (av x.2.2.2.2.2.2.2.2.2.1)<;>cases hasB x<;>rfl
end
section
def Gg(x:fI):Bool:=
 bif ai x.1 1 then iG x.2.2.1&&iG x.2.2.2.1&&ai x.2.2.2.2.1 0&&ai x.2.2.2.2.2.2.1 0&&ai x.2.2.2.2.2.2.2.2.1 0&&cC x.2.2.2.2.2.1&&jG x.2.2.2.2.2.2.2.1
 else bif ai x.1 2 then c0 x.2.1&&ai x.2.2.2.2.1 0&&ai x.2.2.2.2.2.2.2.2.1 0&&jG x.2.2.2.2.2.2.2.1
 else bif ai x.1 3 then c0 x.2.1&&iG x.2.2.2.1&&ai x.2.2.2.2.2.2.2.2.1 0&&jG x.2.2.2.2.2.2.2.1
 else bif ai x.1 4 then c0 x.2.1&&iG x.2.2.1&&iG x.2.2.2.1&&ai x.2.2.2.2.1 0&&cC x.2.2.2.2.2.1
 else c0 x.2.1&&iG x.2.2.1&&iG x.2.2.2.1&&ai x.2.2.2.2.1 0&&ai x.2.2.2.2.2.2.1 0&&ai x.2.2.2.2.2.2.2.2.1 0&&cC x.2.2.2.2.2.1&&jG x.2.2.2.2.2.2.2.1
theorem c00:c0 (0,0,0,0,())=ag:=rfl
theorem Z3:iG (0,0,())=ag:=rfl
theorem amN:jG (0,0,[],())=ag:=rfl
theorem N3:ai 0 0=ag:=rfl
theorem ahC(x:fI):((CO x).bind λA=>(ot A (x.1,(0,0,0,0,()),(0,0,()),(0,0,()),0,[],0,(0,0,[],()),0,zA,())).bind λI=>ab !I)=ab (!Gg x):=by
 unfold CO Gg;cases ai x.1 1
 .cases ai x.1 2
  .cases ai x.1 3
   .cases ai x.1 4
    .show (ot (x.1,x.2.1,x.2.2.1,x.2.2.2.1,x.2.2.2.2.1,x.2.2.2.2.2.1,x.2.2.2.2.2.2.1,x.2.2.2.2.2.2.2.1,x.2.2.2.2.2.2.2.2.1,zA,()) _).bind _=_;simp[CK]
    .show (ot (x.1,x.2.1,x.2.2.1,x.2.2.2.1,x.2.2.2.2.1,x.2.2.2.2.2.1,0,(0,0,[],()),0,zA,()) _).bind _=_;rw[CK,amN,N3];simp
   .show (ot (x.1,x.2.1,(0,0,()),x.2.2.2.1,0,[],0,x.2.2.2.2.2.2.2.1,x.2.2.2.2.2.2.2.2.1,zA,()) _).bind _=_;rw[CK,Z3,N3];simp[ah,tH,au,ax,cC]
  .show (ot (x.1,x.2.1,(0,0,()),(0,0,()),x.2.2.2.2.1,[],0,x.2.2.2.2.2.2.2.1,x.2.2.2.2.2.2.2.2.1,zA,()) _).bind _=_;rw[CK,Z3,N3];simp[ah,tH,au,ax,cC]
 .show (ot (x.1,(0,0,0,0,()),x.2.2.1,x.2.2.2.1,x.2.2.2.2.1,x.2.2.2.2.2.1,x.2.2.2.2.2.2.1,x.2.2.2.2.2.2.2.1,x.2.2.2.2.2.2.2.2.1,zA,()) _).bind _=_;rw[CK,c00];simp only[ah,nQ,au,ax]
theorem kinds(k:Int):(ai k 1=ag/\ai k 2=af/\ai k 3=af/\ai k 4=af)∨(ai k 1=af/\ai k 2=ag/\ai k 3=af/\ai k 4=af)∨(ai k 1=af/\ai k 2=af/\ai k 3=ag/\ai k 4=af)∨
  (ai k 1=af/\ai k 2=af/\ai k 3=af/\ai k 4=ag)∨(ai k 1=af/\ai k 2=af/\ai k 3=af/\ai k 4=af):=by
 by_cases h1:k=1
 .subst h1;trivial
 by_cases h2:k=2
 .subst h2;trivial
 by_cases h3:k=3
 .subst h3;trivial
 by_cases A:k=4
 .subst A;trivial
 exact .inr (.inr (.inr (.inr ⟨bM h1,bM h2,bM h3,bM A⟩)))
theorem anu{x:fI}(h:rL x):CL x=ab (nu x):=by
 have e:CL x=(ab (eA (av x.2.2.2.2.2.2.2.2.2.1))).bind λJ=>(bl (!J) (ab (!Gg x))).bind λU=>bif U then ab af else cg (bif ai x.1 1 then(ab (z8 x.2.2.2.2.2.2.2.2.2.1)).bind λZ=>aH Z else
   bif ai x.1 2 then(bif !cj x.2.2.1||!cj x.2.2.2.1||!(n8 x.2.2.2.2.2.1&&nF x.2.2.2.2.2.2.1)then aH af else aP ((),(),()))
   else bif ai x.1 3 then(bif !cj x.2.2.1||!aj 1 x.2.2.2.2.1||!aj x.2.2.2.2.1 1048576||!(n8 x.2.2.2.2.2.1&&nF x.2.2.2.2.2.2.1)then aH af else aP ((),(),()))
   else bif ai x.1 4 then(bif !so x.2.2.2.2.2.2.2.1||(!ai x.2.2.2.2.2.2.1 0&&!nF x.2.2.2.2.2.2.1)||(!ai x.2.2.2.2.2.2.2.2.1 1&&!ai x.2.2.2.2.2.2.2.2.1 2)then aH af else aP ((),(),()))
   else aH af) (λ_=>ab (!mr (av x.2.2.2.2.2.2.2.2.2.1))):=by
  unfold CL
  have a:PR x=λ_=>ab (!mr (av x.2.2.2.2.2.2.2.2.2.1)):=by
   funext s
   unfold PR
   exact agF h.t
  rw[AJ (h.t.mono (by unfold wide aR;omega)),a]
  show((ab (eA (av x.2.2.2.2.2.2.2.2.2.1))).bind λJ=>(bl (!J) ((CO x).bind λc=>(ot c (x.1,(0,0,0,0,()),(0,0,()),(0,0,()),0,[],0,(0,0,[],()),0,zA,())).bind λd=>ab !d)).bind λU=>bif U then ab af else cg (bif ai x.1 1 then(rO x.2.2.2.2.2.2.2.2.2.1 zA).bind λZ=>aH Z else _) _)=_
  rw[ahC,afm h.t]
  simp only[ah,cx,ct,pR,ap2 h.s,WM h.i,abO,kK x.2.2.2.2.1 1,kK 1048576]
 rw[e]
 unfold Gg nu hasB
 rcases kinds x.1 with⟨k1,k2,A,I⟩|⟨k1,k2,A,I⟩|⟨k1,k2,A,I⟩|⟨k1,k2,A,I⟩|⟨k1,k2,A,I⟩<;>rw[k1,k2,A,I]<;>simp only[au,ax,acG,Sa,wF,nQ,ah]
 .cases eA (av x.2.2.2.2.2.2.2.2.2.1)<;>cases iG x.2.2.1<;>cases iG x.2.2.2.1<;>cases ai x.2.2.2.2.1 0<;>cases ai x.2.2.2.2.2.2.1 0<;>cases ai x.2.2.2.2.2.2.2.2.1 0<;>cases cC x.2.2.2.2.2.1<;>cases jG x.2.2.2.2.2.2.2.1<;>cases z8 x.2.2.2.2.2.2.2.2.2.1<;>rfl
 .cases eA (av x.2.2.2.2.2.2.2.2.2.1)<;>cases c0 x.2.1<;>cases ai x.2.2.2.2.1 0<;>cases ai x.2.2.2.2.2.2.2.2.1 0<;>cases jG x.2.2.2.2.2.2.2.1<;>cases cj x.2.2.1<;>cases cj x.2.2.2.1<;>cases n8 x.2.2.2.2.2.1<;>cases nF x.2.2.2.2.2.2.1<;>first|rfl|(cases mr (av x.2.2.2.2.2.2.2.2.2.1)<;>rfl)
 .cases eA (av x.2.2.2.2.2.2.2.2.2.1)<;>cases c0 x.2.1<;>cases iG x.2.2.2.1<;>cases ai x.2.2.2.2.2.2.2.2.1 0<;>cases jG x.2.2.2.2.2.2.2.1<;>cases cj x.2.2.1<;>cases aj 1 x.2.2.2.2.1<;>cases aj x.2.2.2.2.1 1048576<;>cases n8 x.2.2.2.2.2.1<;>cases nF x.2.2.2.2.2.2.1<;>first|rfl|(cases mr (av x.2.2.2.2.2.2.2.2.2.1)<;>rfl)
 .cases eA (av x.2.2.2.2.2.2.2.2.2.1)<;>cases c0 x.2.1<;>cases iG x.2.2.1<;>cases iG x.2.2.2.1<;>cases ai x.2.2.2.2.1 0<;>cases cC x.2.2.2.2.2.1<;>cases so x.2.2.2.2.2.2.2.1<;>first|rfl|(cases ai x.2.2.2.2.2.2.1 0<;>cases nF x.2.2.2.2.2.2.1<;>cases ai x.2.2.2.2.2.2.2.2.1 1<;>cases ai x.2.2.2.2.2.2.2.2.1 2<;>cases mr (av x.2.2.2.2.2.2.2.2.2.1)<;>rfl)
 .rw [Bool.and_false,wF]
  cases(!eA (av x.2.2.2.2.2.2.2.2.2.1))<;>first|rfl|(rw[cx,ah];generalize(_||_:Bool)=b;cases b<;>rfl)
end
section
def wE(b:Bool)(c:Int):List (Nat×Int):=bif b then[(208,c)]else[]
theorem Kh(b:Bool)(c:Int):jn b c=ab (wE b c):=by
 grind[jn,wE]
def fE:List (List (Nat×Int))->List (Nat×Int)
 |[]=>[]
 |y::l=>bif cC y then fE l else(208,0)::y
theorem Vv{x:List (List (Nat×Int))}(A:x.length<=big):∀(k i:Nat),i+k=x.length->aF (Ct x) (((i:Int),()),(),())=ab (fE (x.drop i))
 |0,i,J=>by
  refine bD ?_;unfold Ct;dsimp only;rw[bb (by omega),eM (by omega)];rfl
 |k+1,i,J=>by
  have hi:i< x.length:=by omega
  have e:Ct x (((i),()),(),())=bif cC x[i]then ab (.inl ((((i+1)),()),(),()))else ab (.inr ((208,0)::x[i])):=by
   unfold Ct;dsimp only;rw[aX (by omega),br hi,aO (by omega) (by unfold big at A;omega)]
   cases cC x[i]<;>rfl
  rw[eF hi];show _=ab (bif cC x[i]then fE (x.drop (i+1))else(208,0)::x[i]);cases I:cC x[i]with
  |true=>rw[I]at e;rw[cD e];exact Vv A k (i+1) (by omega)
  |false=>simp[I,ax,bD,e]
theorem MG{x:List (List (Nat×Int))}(A:x.length<=big):Cs x=ab (fE x):=Vv A x.length 0 (by omega)
inductive E3:List (Nat×Int)->Int->Prop
 |no:E3 [] 0
 |one (c:Int):E3 [(208,c)] c
 |two (c:Int):E3 [(208,0),(208,c)] c
theorem Uq{e:List (Nat×Int)}{c:Int}(h:E3 e c):Zh ((e,()),(),())=ab c:=by
 cases h with
 |no=>exact bD rfl
 |one c=>exact(cD (by rfl)).trans (bD rfl)
 |two c=>exact(cD (by rfl)).trans ((cD (by rfl)).trans (bD rfl))
def fC:List (Bool×Int)->Int
 |[]=>0
 |(b,c)::l=>bif b then c else fC l
def qS(l:List (Bool×Int)):Bool:=l.all λp=>!p.1
theorem FY:∀(l:List (Bool×Int)),E3 (fE (l.map λp=>wE p.1 p.2)) (fC l)/\cC (fE (l.map λp=>wE p.1 p.2))=qS l
 |[]=>⟨.no,rfl⟩
 |(b,c)::l=>by
  cases b<;>first|exact⟨.two c,rfl⟩|exact FY l
theorem amR:∀{l:List (Bool×Int)},qS l=ag->fC l=0
 |[],_=>rfl
 |(b,c)::l,h=>by
  cases b<;>first|exact amR (l:=l) h|cases h
theorem Zi:∀{l:List (Bool×Int)},(∀p∈l,p.2≠0)->qS l=af->fC l≠0
 |[],_,h=>by cases h
 |(b,c)::l,A,h=>by
  cases b<;>first|exact Zi (l:=l) (λp hp=>A p (gB _ hp)) h|exact A (ag,c) (e8 ..)
structure rK(x:bV):Prop where
 t:cQ wide x.2.2.2.1
 f:∀p∈x.2.2.2.2.2.2.2.2.2.2.2.2.1,rL p
 s:∀p∈x.2.2.2.2.2.2.2.2.2.2.2.2.2.2.1,rL p
 fl:x.2.2.2.2.2.2.2.2.2.2.2.2.1.length<=big
 sl:x.2.2.2.2.2.2.2.2.2.2.2.2.2.2.1.length<=big
 d:x.2.2.2.2.2.2.2.2.2.2.2.2.2.1.2.2.2.2.1.length<=big
 i:x.2.2.2.2.2.2.2.2.2.2.2.2.2.2.2.1.2.2.1.length<=big
theorem Yu{l:List fI}(A:l.length<=big)(h:∀p∈l,rL p):HL l=ab (l.all nu):=by
 refine(mn l nu af ag (λi hi=>?_) ?_).trans (by simp)
 .unfold Pq Pr;dsimp only;rw[aX (by omega),br hi,anu (h _ (fh hi)),aO (by omega) (by unfold big at A;omega)]
  cases nu l[i]<;>rfl
 .unfold Pq;dsimp only;rw[bb (by omega)];rfl
theorem aaI{l:List fI}(A:l.length<=big)(h:∀p∈l,rL p):Jo l=ab (l.all nu):=by
 refine(mn l nu af ag (λi hi=>?_) ?_).trans (by simp)
 .unfold QO;dsimp only;rw[aX (by omega),br hi,aoy (h _ (fh hi)),aO (by omega) (by unfold big at A;omega)]
  cases nu l[i]<;>rfl
 .unfold QO;dsimp only;rw[bb (by omega)];rfl
def pB(x:List bt):Bool:=ai (nZ x).1 0
def JU(x:bV):List (Bool×Int):=
 [(!pB x.2.2.2.2.2.2.2.2.2.2.1,10),(!zy x.2.2.2.2.2.2.2.2.2.2.2.1,2),(ao 1 (x.2.2.2.2.2.2.2.2.2.2.2.2.1.length:Int)||ao 1 (x.2.2.2.2.2.2.2.2.2.2.2.2.2.2.1.length:Int),5),
  (!cC x.2.2.2.2.2.2.2.2.2.2.2.2.2.2.1&&!CR x.2.2.2.2.2.2.2.2.2.2.2.2.2.1,13),(cC x.2.2.2.2.2.2.2.2.2.2.2.2.2.2.1&&!vk x.2.2.2.2.2.2.2.2.2.2.2.2.2.1,17),
  (!x.2.2.2.2.2.2.2.2.2.2.2.2.1.all nu||!x.2.2.2.2.2.2.2.2.2.2.2.2.2.2.1.all nu,16)]
def oU(x:bV):List (Bool×Int):=
 [(ao x.2.1 1||ao 3 x.2.1,2),(ao x.1 1||ao 1073741824 x.1||ao x.2.2.1 0||aj 8 x.2.2.1,6),(!eA (av x.2.2.2.1),5),(mr (av x.2.2.2.1),9),(!pB x.2.2.2.2.1,10),(!(uA x&&qk x),17)]
def N7(x:bV):List (Bool×Int):=[(!so x.2.2.2.2.2.2.2.2.2.2.2.2.2.2.2.1,16),(!ai x.2.2.2.2.2.2.2.2.2.2.2.2.2.2.2.2.1 1&&!ai x.2.2.2.2.2.2.2.2.2.2.2.2.2.2.2.2.1 2,2)]
def yG(k:Int):Bool:=aj 1 k&&aj k 13
def CJ(x:bV):Int:=bif ai x.2.1 1 then(bif !yG x.2.2.2.2.2.2.2.1 then 2 else 0)else bif ai x.2.1 2 then fC (JU x)else fC (N7 x)
def gJ(x:bV):Int:=bif qS (oU x)then CJ x else fC (oU x)
theorem apH{x:bV}(h:rK x):HN x=ab (fE ((JU x).map λp=>wE p.1 p.2)):=by
 unfold HN;simp[Ig,aa8,Kh,Yu h.fl h.f,Yu h.sl h.s,anA h.d,abr,cx,ct,ah,Iq,Sc];rw[MG (by simp[big])]
 rfl
theorem agm{x:bV}(h:rK x):HK x=ab (fE ((oU x).map λp=>wE p.1 p.2)):=by
 unfold HK;simp only[aa8,Kh,AJ (h.t.mono (by trivial)),aqY h.t,Ig,afo,cx,ct,ah,Iq,oj]
 rw[MG (by simp[big])]
 have A:(!(cC x.2.2.2.2.1&&ai x.2.2.2.2.2.1 0||!cC x.2.2.2.2.1&&zy x.2.2.2.2.2.1)||!qk x)= !(uA x&&qk x):=by
  grind[uA]
 rw[A];rfl
theorem anm{x:bV}(h:rK x):∃e,HM x=ab e/\E3 e (CJ x):=by
 unfold HM CJ;cases ai x.2.1 1 with
 |true=>
  unfold LK;simp only[ct,Kh];refine⟨_,rfl,?_⟩;show E3 (wE (!yG x.2.2.2.2.2.2.2.1) 2) (bif !yG x.2.2.2.2.2.2.2.1 then 2 else 0);cases yG x.2.2.2.2.2.2.2.1
  .exact .one 2
  .exact .no
 |false=>
  cases ai x.2.1 2 with
  |true=>
   rw[apH h];exact⟨_,rfl,(FY _).1⟩
  |false=>
   simp[WM h.i,Kh,ct,ah];rw[MG (by simp[big])]
   exact⟨_,rfl,(FY (N7 x)).1⟩
theorem amP{x:bV}(h:rK x):HI x=ab (gJ x):=by
 unfold HI gJ;rw[agm h,ah];obtain⟨h1,h2⟩:=FY (oU x);rw[h2];cases A:qS (oU x)with
 |true=>
  obtain⟨e,he,h3⟩:=anm h;rw[au,he,ah];exact Uq h3
 |false=>
  exact Uq h1
theorem aoK{x:bV}(h:rK x):Jn x=ab (fC (JU x)):=by
 unfold Jn;simp only[Jw,aaQ,aaI h.fl h.f,aaI h.sl h.s,aoz h.d,aaK,cx,ct,ah,Iq,oj];unfold JU fC fC fC fC fC fC fC;show(bif !pB x.2.2.2.2.2.2.2.2.2.2.1 then ab 10 else _)=_;grind
theorem aov{x:bV}(h:rK x):Jm x=ab (gJ x):=by
 unfold Jm;have I:QN x=λ_=>ab (CJ x):=by
  funext s;unfold QN CJ QK;rw[aoK h,aaH h.i];simp only[ct,ah];cases k1:ai x.2.1 1 with
  |true=>
   have k2:ai x.2.1 2=af:=by
    rw[dY,decide_eq_true_eq]at k1;exact bM (by omega)
   rw[k2,ax,au,au];show(bif !yG x.2.2.2.2.2.2.2.1 then ab 2 else ab 0)=ab (bif !yG x.2.2.2.2.2.2.2.1 then 2 else 0);grind
  |false=>
   rw[ax,ax];cases ai x.2.1 2 with
   |true=>rfl
   |false=>
    rw[ax,ax];grind[N7,fC]
 rw[I];have J:∀{β:Type} (k:Bool->Option β),((vQ x.2.2.2.1).bind λU=>(lT 0).bind λZ=>(vL U Z).bind λa=>k (ai a 0))=k (mr (av x.2.2.2.1)):=λk=>by
  rw[aaE h.t,ah,vZ (by omega) (by omega),ah,aaO (FB h.t) Px,ah,eK,eK,A7];rfl
 have A:=J (λb=>bif b then(aH 9:Option ((Unit×Unit×Unit)⊕Int))else(sZ x.2.2.2.2.1).bind λc=>bif !c then aH 10 else(DA x).bind λd=>bif !d then aH 17 else aP ((),(),()))
 rw[A];simp only[DJ (h.t.mono (by trivial)),Jw,aox,cx,ah]
 unfold gJ oU qS fC fC fC fC fC fC fC;simp only[wY,List.all_nil,tH];show cg (bif ao x.2.1 1||ao 3 x.2.1 then _ else bif ao x.1 1||ao 1073741824 x.1||ao x.2.2.1 0||aj 8 x.2.2.1 then _ else bif !eA (av x.2.2.2.1)then _ else bif mr (av x.2.2.2.1)then _ else bif !pB x.2.2.2.2.1 then _ else bif !(uA x&&qk x)then _ else _) _=_
 generalize(ao x.2.1 1||ao 3 x.2.1)=e
 generalize(ao x.1 1||ao 1073741824 x.1||ao x.2.2.1 0||aj 8 x.2.2.1)=f
 generalize(!eA (av x.2.2.2.1))=g;generalize mr (av x.2.2.2.1)=j;generalize(!pB x.2.2.2.2.1)=l;generalize(!(uA x&&qk x))=m;cases e<;>first|rfl|(cases f<;>first|rfl|(cases g<;>first|rfl|(cases j<;>first|rfl|(cases l<;>first|rfl|(cases m<;>rfl)))))
end
section
theorem amo(l:List (Int×Bool))(k n:Int):jF (iE l k ag) n af=(ai n k||jF l n af):=by
 induction l with
 |nil=>
  rfl
 |cons e l ih=>
  have I:iE (e::l) k ag=bif ai k e.1 then(k,ag)::l else e::iE l k ag:=rfl;have A:∀a r,jF (a::r) n af=bif ai n a.1 then a.2 else jF r n af:=λ_ _=>rfl
  rw[I];by_cases h:k=e.1
  .rw [dF h,au,A];grind
  .rw [bM h,ax,A,A,ih];by_cases h2:n=e.1
   .rw [dF h2,bM (by omega)];rfl
   simp[bM,h2]
def uz:(Int->Bool)->Int->Nat->List bV->al
 |_,_,_,[]=>(0,0,())
 |seen,A,i,n::l=>bif !ai (gJ n) 0 then(gJ n,(i:Int),())else bif seen n.1 then(7,(i:Int),())else bif ao A n.2.2.1 then(17,(i:Int),())else
   uz (λk=>ai k n.1||seen k) (bif ai n.2.1 1 then n.2.2.1+1 else n.2.2.1) (i+1) l
theorem L1(seen:Int->Bool)(A:Int)(i:Nat)(n:bV)(l:List bV):uz seen A i (n::l)=bif !ai (gJ n) 0 then(gJ n,(i:Int),())else bif seen n.1 then(7,(i:Int),())else bif ao A n.2.2.1 then(17,(i:Int),())else
   uz (λk=>ai k n.1||seen k) (bif ai n.2.1 1 then n.2.2.1+1 else n.2.2.1) (i+1) l:=rfl
def xP(x:cR):Bool:=ao x.1 1||ao 256 x.1||ao x.2.1 1||ao 256 x.2.1
def zL(x:cR):al:=bif xP x then(6,0,())else bif ao 64 (x.2.2.2.1.length:Int)then(5,64,())else uz (λ_=>af) 0 0 x.2.2.2.1
def fJ(x:cR):Prop:=∀n∈x.2.2.2.1,rK n
theorem amy{x:bV}(h:gJ x=0):qS (oU x)=ag:=by
 unfold gJ at h;cases A:qS (oU x)with
 |true=>rfl
 |false=>
  rw[A]at h;exact absurd h (Zi (λp hp=>by
   simp[oU,or_false]at hp;grind) A)
theorem HB{x:bV}(h:gJ x=0):0<=x.2.2.1/\x.2.2.1< 8:=by
 have:=amy h;unfold qS oU at this;grind[kz,decide_eq_false_iff_not,oh]
theorem abu{x:cR}(h:fJ x)(I:x.2.2.2.1.length<=64):∀(k i:Nat) (A:Int) (m:List (Int×Bool)),i+k=x.2.2.2.1.length->
  aF (DW x) ((A,(i:Int),()),(m,()),())=ab (uz (λn=>jF m n af) A i (x.2.2.2.1.drop i))
 |0,i,A,m,J=>by
  refine bD ?_;unfold DW;dsimp only;rw[bb (by omega),eM (by omega)];rfl
 |k+1,i,A,m,J=>by
  have hi:i< x.2.2.2.1.length:=by omega
  have e:DW x ((A,(i:Int),()),(m,()),())=bif !ai (gJ x.2.2.2.1[i]) 0 then aH (gJ x.2.2.2.1[i],(i:Int),())else bif jF m x.2.2.2.1[i].1 af then aH (7,(i:Int),())else bif ao A x.2.2.2.1[i].2.2.1 then aH (17,(i:Int),())else
    aP ((bif ai x.2.2.2.1[i].2.1 1 then w (x.2.2.2.1[i].2.2.1+1)else x.2.2.2.1[i].2.2.1,((i+1:Nat):Int),()),(iE m x.2.2.2.1[i].1 ag,()),()):=by
   unfold DW;dsimp only;rw[aX (by omega),au,br hi,amP (h _ (fh hi)),ah,aO (n:=(i:Int)+1) (by omega) (by omega)]
   grind
  rw[eF hi,L1];cases h1:ai (gJ x.2.2.2.1[i]) 0 with
  |false=>rw[h1]at e;rw[bD e];rfl
  |true=>
   rw[h1,bZ,ax]at e;rw[bZ,ax];cases h2:jF m x.2.2.2.1[i].1 af with
   |true=>rw[h2]at e;rw[bD e];rfl
   |false=>
    rw[h2,ax]at e;rw[ax];cases h3:ao A x.2.2.2.1[i].2.2.1 with
    |true=>rw[h3]at e;rw[bD e];rfl
    |false=>
     rw[h3,ax]at e;rw[ax,cD e,abu h I k (i+1) _ _ (by omega)]
     congr 2
     .funext n;exact amo m _ n
     .rw [dY,decide_eq_true_eq]at h1;have:=HB h1;rw[aO (by omega) (by omega)]
theorem apx{x:cR}(h:fJ x):JL x=ab (zL x):=by
 unfold JL zL;simp[cx];show(bif xP x then _ else _)=_;cases xP x with
 |true=>rfl
 |false=>
  cases A:ao 64 (x.2.2.2.1.length)with
  |true=>rfl
  |false=>
   rw[kz,decide_eq_false_iff_not]at A;exact abu h (by omega) x.2.2.2.1.length 0 0 [] (by omega)
theorem Vu{l:List bV}(A:l.length<=big)(y:Int):∀(k i:Nat),i+k=l.length->∃v,aF (DE l y) (((i:Int),()),(),())=ab v/\aj 0 v=(l.drop i).any λn=>ai n.1 y
 |0,i,I=>by
  refine⟨-1,bD ?_,?_⟩
  .unfold DE;dsimp only;rw[bb (by omega)];rfl
  .rw [eM (by omega)];rfl
 |k+1,i,I=>by
  have hi:i< l.length:=by omega
  rw[eF hi,adz];have e:DE l y (((i),()),(),())=bif ai l[i].1 y then aH (i:Int)else aP ((((i+1):Int),()),(),()):=by
   unfold DE;dsimp only;rw[aX (by omega),br hi,aO (by omega) (by unfold big at A;omega)];rfl
  cases h1:ai l[i].1 y<;>first|rw[h1,ax]at e;obtain⟨v,a,b⟩:=Vu A y k (i+1) (by omega);exact⟨v,(cD e).trans a,b⟩|rw[h1]at e;exact⟨_,bD e,bQ (by omega)⟩
theorem ahx{l:List bV}(A:l.length<=big)(y:Int):∃v,QP l y=ab v/\aj 0 v=l.any λn=>ai n.1 y:=Vu A y l.length 0 (by omega)
def lJ(l:List bV)(i:Nat):Int:=if i=0 then 0 else(match l[i-1]? with|some n=>bif ai n.2.1 1 then n.2.2.1+1 else n.2.2.1|none=>0)
theorem aoM{l:List bV}(J:l.length<=big){i:Nat}(hi:i< l.length)(A:∀j,(U:j< l.length)->j<=i->gJ l[j]=0):Jr l (i:Int)=ab (!ao (lJ l i) l[i].2.2.1):=by
 have Z:=HB (A i hi (aJ _));unfold Jr lJ;by_cases I:i=0
 .subst I;rw[dF (by omega),au,br hi,aK rfl]
  congr 1;by_cases h:l[0].2.2.1=0
  .rw [dF h,bb (by omega)];rfl
  .rw [bM h,aX (by omega)];rfl
 .have h1:i-1< l.length:=by omega
  have hp:=HB (A (i-1) h1 (by omega))
  rw[bM (by omega),ax,aO (n:=(i:Int)-1) (by omega) (by unfold big at J;omega),show(i:Int)-1=((i-1:Nat):Int) by omega,br h1,br hi,br h1,ct,ah,br hi,br h1,cx,az I,gA h1,aO (by omega) (by omega)]
  dsimp only;congr 1;cases ai l[i-1].2.1 1 with
  |true=>
   rw[au,nQ];by_cases h:l[i].2.2.1=l[i-1].2.2.1+1
   .rw [dF h,bb (by omega)];rfl
   .rw [bM h,Sa,kK];by_cases h2:l[i].2.2.1<=l[i-1].2.2.1
    .rw [bQ h2,bQ (by omega)];rfl
    .rw [dJ (by omega),dJ (by omega)];rfl
  |false=>rw[ax,wF,Sa,kK,Sc]
theorem aaR{x:cR}(h:fJ x)(a:x.2.2.2.1.length<=64):∀(k i:Nat),i+k=x.2.2.2.1.length->(∀j,(I:j< x.2.2.2.1.length)->j< i->gJ x.2.2.2.1[j]=0)->
  aF (DD x) (((i:Int),()),(),())=ab (uz (λn=>(x.2.2.2.1.take i).any λd=>ai d.1 n) (lJ x.2.2.2.1 i) i (x.2.2.2.1.drop i))
 |0,i,b,_=>by
  refine bD ?_;unfold DD;dsimp only;rw[bb (by omega),eM (by omega)];rfl
 |k+1,i,b,U=>by
  have hi:i< x.2.2.2.1.length:=by omega
  rw[eF hi,L1];have hw:DI x.2.2.2.1 (i:Int)=bif !ai (gJ x.2.2.2.1[i]) 0 then ab (gJ x.2.2.2.1[i])else bif(x.2.2.2.1.take i).any (λd=>ai d.1 x.2.2.2.1[i].1)then ab 7 else bif ao (lJ x.2.2.2.1 i) x.2.2.2.1[i].2.2.1 then ab 17 else ab 0:=by
   unfold DI;rw[br hi,aov (h _ (fh hi)),ah];cases h1:ai (gJ x.2.2.2.1[i]) 0 with
   |false=>rfl
   |true=>
    rw[dY,decide_eq_true_eq]at h1;rw[bZ,ax,ax,cE (by rw[bQ (by omega),bQ (by omega)];rfl),br hi,Int.toNat_natCast,Nat.sub_zero,jw]
    obtain⟨v,c,f⟩:=ahx (l:=x.2.2.2.1.take i) (by rw[gz];unfold big;omega) x.2.2.2.1[i].1
    rw[c,ah,f,aoM (by unfold big;omega) hi (λj I J=>by
     rcases km j i with A|A
     .exact U j I A
     .obtain rfl:j=i:=by omega
      exact h1),ah,Sc]
  have e:DD x (((i:Int),()),(),())=(DI x.2.2.2.1 (i:Int)).bind λZ=>bif !ai Z 0 then aH (Z,(i:Int),())else aP ((((i+1:Nat):Int),()),(),()):=by
   unfold DD;dsimp only;rw[aX (by omega),au,aO (by omega) (by omega)];rfl
  rw[hw]at e;cases h1:ai (gJ x.2.2.2.1[i]) 0 with
  |false=>
   rw[h1,eS,au,ah,h1]at e;rw[bD e];rfl
  |true=>
   rw[h1,bZ,ax]at e;rw[bZ,ax];cases h2:(x.2.2.2.1.take i).any (λd=>ai d.1 x.2.2.2.1[i].1)with
   |true=>
    rw[h2,au,ah]at e;rw[bD e];rfl
   |false=>
    rw[h2,ax]at e;rw[ax];cases h3:ao (lJ x.2.2.2.1 i) x.2.2.2.1[i].2.2.1 with
    |true=>rw[h3,au,ah]at e;rw[bD e];rfl
    |false=>
     rw[h3,ax,ah]at e;rw[dY,decide_eq_true_eq]at h1;rw[ax,cD e,aaR h a k (i+1) (by omega) (λj I J=>by
      rcases km j i with A|A
      .exact U j I A
      .obtain rfl:j=i:=by omega
       exact h1)]
     congr 2
     .funext n;rw[EH hi,List.any_append,adz,List.any_nil,wG,acE];congr 1;by_cases A:x.2.2.2.1[i].1=n
      .rw [dF A,dF A.symm]
      .rw [bM A,bM (λq=>A q.symm)]
     .unfold lJ;rw[az (by omega),EI,gA hi]
theorem aoJ{x:cR}(h:fJ x):Jp x=ab (zL x):=by
 unfold Jp zL;simp[cx];show(bif xP x then _ else _)=_;cases xP x with
 |true=>rfl
 |false=>
  cases A:ao 64 (x.2.2.2.1.length:Int)<;>first|rw[kz,decide_eq_false_iff_not]at A;rw[ax,ax];refine(aaR h (by omega) x.2.2.2.1.length 0 (by omega) (λj _ I=>by omega)).trans ?_;rfl|rfl
def vS(x:cR):Bool:=ai (zL x).1 0
theorem Kc{x:cR}(h:fJ x):DX x=ab (vS x):=by unfold DX;rw[apx h];rfl
theorem zu{x:cR}(h:fJ x):zo x=ab (vS x):=by unfold zo;rw[aoJ h];rfl
structure SV(l:List bV):Prop where
 n:∀x∈l,gJ x=0
 d:∀i,(h:i< l.length)->l[i].2.2.1<=lJ l i
theorem T9{x:List bV}:∀(k i:Nat) (seen:Int->Bool),i+k=x.length->(uz seen (lJ x i) i (x.drop i)).1=0->∀j,i<=j->(a:j< x.length)->gJ x[j]=0/\x[j].2.2.1<=lJ x j
 |0,i,seen,J,_,j,h1,h2=>by omega
 |k+1,i,seen,J,h,j,h1,h2=>by
  have hi:i< x.length:=by omega
  rw[eF hi,L1]at h;cases A:ai (gJ x[i]) 0 with
  |false=>
   simp_all[A,dY,decide_eq_false_iff_not,absurd,h]
  |true=>
   rw[A,bZ,ax]at h;cases U:seen x[i].1 with
   |true=>grind
   |false=>
    rw[U,ax]at h;cases I:ao (lJ x i) x[i].2.2.1 with
    |true=>grind
    |false=>
     rw[I,ax]at h;rw[dY,decide_eq_true_eq]at A;rw[kz,decide_eq_false_iff_not]at I;rcases km i j with Z|Z
     .refine T9 k (i+1) (λk=>ai k x[i].1||seen k) (by omega) ?_ j (by omega) h2
      have:lJ x (i+1)=bif ai x[i].2.1 1 then x[i].2.2.1+1 else x[i].2.2.1:=by
       unfold lJ;grind
      simp[this,h]
     grind
theorem D8{x:cR}(h:vS x=ag):SV x.2.2.2.1/\x.2.2.2.1.length<=64:=by
 unfold vS zL at h;cases I:xP x with
 |true=>rw[I]at h;cases h
 |false=>
  rw[I]at h;cases A:ao 64 (x.2.2.2.1.length)with
  |true=>rw[A]at h;cases h
  |false=>
   rw[A,dY,decide_eq_true_eq]at h;rw[kz,decide_eq_false_iff_not]at A;have key:=T9 (x:=x.2.2.2.1) x.2.2.2.1.length 0 (λ_=>af) (by omega) h
   refine⟨⟨λn J=>?_,λi hi=>(key i (bX _) hi).2⟩,by omega⟩
   obtain⟨i,hi,rfl⟩:=List.getElem_of_mem J;grind
def iP(x:cR)(y:Int):Bool:=aj 0 y&&ao y (x.2.2.2.1.length:Int)
theorem Gs{x:cR}(h:fJ x)(y:Int):DY x y=ab (iP x y&&vS x):=by
 unfold DY iP;simp[Kc,h,ct,ah]
theorem Im{x:cR}(h:fJ x)(y:Int):DH x y=ab (iP x y&&vS x):=by
 unfold DH iP;rw[zu h];grind[ct]
end
section
theorem anv:Jq=mK:=rfl
def dp(l:List bV)(i:Nat):Int:=match l[i]? with|some n=>n.2.2.1|none=>0
theorem oY{l:List bV}{i:Nat}(h:i< l.length):dp l i=l[i].2.2.1:=by simp[dp,gA,h]
theorem xR{l:List bV}(A:SV l){i:Nat}(h:i< l.length):0<=dp l i/\dp l i< 8:=by
 rw[oY h];exact HB (A.n _ (fh h))
theorem agS{l:List bV}(A:SV l)(h:0< l.length):dp l 0=0:=by
 have:=A.d 0 h;have h2:=xR A h;rw[oY h]at*;unfold lJ at this;omega
theorem agT{l:List bV}(A:SV l){i:Nat}(h:i+1< l.length):dp l (i+1)<=dp l i+1:=by
 have:=A.d (i+1) h;have h1:i< l.length:=by omega
 rw[oY h,oY h1];unfold lJ at this;grind
theorem acb{l:List bV}(A:SV l){i:Nat}(hi:i< l.length):∀(k:Nat),k<=i->0< dp l i->dp l i<=dp l k->∃j,j< k/\dp l j=dp l i-1
 |0,_,I,J=>by
  rw[agS A (by omega)]at J
  omega
 |k+1,J,I,U=>by
  by_cases h:dp l k=dp l i-1
  .grind
  .have:=agT A (i:=k) (by omega)
   obtain⟨j,h1,h2⟩:=acb A hi k (by omega) I (by omega)
   grind
theorem ZU{l:List bV}(I:SV l)(J:l.length<=64){i:Nat}(hi:i< l.length):∀(k:Nat),k<=i->∃r:Int,aF (JN l (i:Int)) ((((k:Int)-1),()),(),())=ab r/\((∃j:Nat,r=j/\j< k/\dp l j=dp l i-1)∨(r= -1/\∀j,j< k->dp l j≠dp l i-1))
 |0,_=>⟨-1,bD (by
   rfl),.inr ⟨rfl,λj h=>by omega⟩⟩
 |k+1,d=>by
  have A:k< l.length:=by omega
  have e:JN l (i) (((((k+1:Nat))-1),()),(),())=bif ai (dp l k) (dp l i-1)then aH (k:Int)else aP ((((k:Int)-1),()),(),()):=by
   have f:=xR I hi;unfold JN;dsimp only;rw[show((k+1:Nat):Int)-1=(k) by omega,bQ (by omega),au,br A,br hi,<-oY A,<-oY hi,aO (n:=dp l i-1) (by omega) (by omega),aO (by omega) (by omega)]
  cases h:ai (dp l k) (dp l i-1)with
  |true=>
   rw[h]at e;rw[dY,decide_eq_true_eq]at h;exact⟨k,bD e,.inl ⟨k,rfl,by omega,h⟩⟩
  |false=>
   rw[h]at e;rw[dY]at h;obtain⟨r,U,Z⟩:=ZU I J hi k (by omega)
   refine⟨r,(cD e).trans U,Z.imp (λ⟨j,a,b,c⟩=>⟨j,a,by omega,c⟩) λ⟨a,b⟩=>⟨a,λj g=>?_⟩⟩
   grind
theorem ZV{l:List bV}(A:SV l)(I:l.length<=64){i:Nat}(hi:i< l.length):∃r:Int,mK l (i:Int)=ab r/\((dp l i=0/\r= -1)∨(0< dp l i/\∃j:Nat,r=j/\j< i/\dp l j=dp l i-1)):=by
 unfold mK;rw[aO (by omega) (by omega)]
 obtain⟨r,J,U⟩:=ZU A I hi i (aJ _);refine⟨r,J,?_⟩;have Z:=xR A hi;rcases U with⟨j,a,b,c⟩|⟨a,b⟩
 .have:=xR A (i:=j) (by omega)
  grind
 .rcases l7 0 (dp l i)with h|h
  .obtain ⟨j,h1,h2⟩:=acb A hi i (aJ _) h (Es _);grind
  .omega
inductive jQ(l:List bV):Nat->List Nat->Prop
 |top (i:Nat):i< l.length->dp l i=0->mK l (i:Int)=ab (-1)->jQ l i [i]
 |sub (i j:Nat) (L:List Nat):i< l.length->dp l i=dp l j+1->mK l (i:Int)=ab (j:Int)->jQ l j L->jQ l i (L++[i])
theorem Ue{l:List bV}(A:SV l)(I:l.length<=64):∀(i:Nat),i< l.length->∃L,jQ l i L:=by
 intro i;induction i using Nat.strongRecOn with
 |_ i ih=>
  intro hi;obtain⟨r,h1,h2⟩:=ZV A I hi;rcases h2 with⟨a,rfl⟩|⟨a,j,rfl,b,c⟩
  .exact ⟨[i],.top i hi a h1⟩
  .obtain ⟨L,J⟩:=ih j b (by omega)
   exact⟨L++[i],.sub i j L hi (by omega) h1 J⟩
theorem xB{l:List bV}{i:Nat}{L:List Nat}(h:jQ l i L):(L.length:Int)=dp l i+1/\(∀k∈L,k< l.length):=by
 induction h with
 |top i hi A _=>grind
 |sub i j L hi A _ _ ih=>
  grind
def ints(L:List Nat):List Int:=L.map λ(n:Nat)=>(n:Int)
theorem WX(a b:List Nat):ints (a++b)=ints a++ints b:=p8
theorem qH(L:List Nat):(ints L).length=L.length:=gd ..
theorem xC{l:List bV}{i:Nat}{L:List Nat}(h:jQ l i L):i< l.length:=by cases h<;>assumption
theorem Fp{l:List bV}(A:SV l){i:Nat}{L:List Nat}(h:jQ l i L):1<=L.length/\L.length<=8:=by
 have h1:=(xB h).1;have h2:=xR A (xC h);omega
theorem Tv{x:cR}{i:Nat}{L:List Nat}(h:jQ x.2.2.2.1 i L):∀(A:List Int),A.length+L.length<=900->aF (DV x) ((A,(i:Int),()),(),())=ab (ints L++A):=by
 have step:∀(i:Nat) A (r:Int),A.length<=1000->mK x.2.2.2.1 (i:Int)=ab r->DV x ((A,(i:Int),()),(),())=aP (((i:Int)::A,r,()),(),()):=λi A r I J=>by
  unfold DV;dsimp only;rw[bQ (by omega),cE (gb (by simp;omega) (by simp;omega)),J];rfl
 have stop:∀A,DV x ((A,-1,()),(),())=aH A:=λA=>by
  rfl
 induction h with
 |top i hi U hp=>
  intro A I;rw[cD (step i A _ (by omega) hp),bD (stop _)];rfl
 |sub i j L hi U hp _ ih=>
  intro A I;rw[cD (step i A _ (by omega) hp),ih _ (by grind),WX,mc];rfl
theorem aod{x:cR}{i:Nat}{L:List Nat}(h:jQ x.2.2.2.1 i L)(b:SV x.2.2.2.1)(d:Nat)(A:List Int)(g:A.length<=1000):(d:Int)<=dp x.2.2.2.1 i->aF (zn x ((A,(d:Int),()),(),())) (((i:Int),()),(),())=ab (.inl ((A++[(L.getD d 0:Int)],((d+1:Nat):Int),()),(),())):=by
 have J:∀i,i< x.2.2.2.1.length->(d:Int)<=dp x.2.2.2.1 i->d< 8:=λi hi I=>by have:=xR b hi;omega
 have stop:∀i,i< x.2.2.2.1.length->(d:Int)=dp x.2.2.2.1 i->zn x ((A,(d:Int),()),(),()) (((i:Int),()),(),())=ab (.inr (.inl ((A++[(i:Int)],((d+1:Nat):Int),()),(),()))):=λi hi I=>by
  have k:=J i hi (by omega)
  unfold zn;dsimp only;rw[br hi,<-oY hi,bb (by omega),ax,cE (gb (by simp;omega) (by simp;omega)),aO (by omega) (by omega)];rfl
 have next:∀i (j:Int),i< x.2.2.2.1.length->(d:Int)< dp x.2.2.2.1 i->mK x.2.2.2.1 (i:Int)=ab j->zn x ((A,(d:Int),()),(),()) (((i:Int),()),(),())=ab (.inl ((j,()),(),())):=λi j hi I hp=>by
  unfold zn;dsimp only;rw[br hi,<-oY hi,aX (by omega),au,anv,hp];rfl
 induction h with
 |top i hi I hp=>
  intro U;have c:d=0:=by omega
  rw[bD (stop i hi (by omega)),c];rfl
 |sub i j L hi I hp e ih=>
  intro U;have Z:=(xB e).1;rcases l7 (d:Int) (dp x.2.2.2.1 i)with a|a
  .rw [cD (next i j hi a hp),ih (by omega)]
   grind
  .rw [bD (stop i hi (by omega))]
   have f:d=L.length:=by omega
   simp_all
theorem QT{x:cR}{i:Nat}{L:List Nat}(h:jQ x.2.2.2.1 i L)(I:SV x.2.2.2.1):∀(k d:Nat),d+k=L.length->aF (DC x (i:Int)) ((ints (L.take d),(d:Int),()),(),())=ab (ints L)
 |0,d,U=>by
  have hi:=xC h;have A:=(xB h).1;refine bD ?_;unfold DC;dsimp only;rw[br hi,<-oY hi,dJ (by omega),EG (by omega)];rfl
 |k+1,d,U=>by
  have hi:=xC h;have A:=(xB h).1;have Z:=Fp I h;have J:d< L.length:=by omega
  have e:DC x (i) ((ints (L.take d),(d),()),(),())=ab (.inl ((ints (L.take (d+1)),((d+1)),()),(),())):=by
   unfold DC;dsimp only;rw[br hi,<-oY hi,bQ (by omega),aod h I d _ (by grind[qH,gz]) (by omega)]
   rw[EH J,WX,List.getD_eq_getElem?_getD,List.getElem?_eq_getElem J];rfl
  rw[cD e];exact QT h I k (d+1) (by omega)
theorem Fa{x:cR}(h:fJ x)(y:Int):(iP x y&&vS x)=ag->∃(i:Nat) (L:List Nat),y=i/\jQ x.2.2.2.1 i L/\tm x y=ab (ints L)/\pE x y=ab (ints L):=λJ=>by
 have A:=J;rw[aM]at J;obtain⟨h1,h2⟩:=J;obtain⟨U,Z⟩:=D8 h2;unfold iP at h1;rw[aM,oh,kz,decide_eq_true_eq,decide_eq_true_eq]at h1;obtain⟨i,rfl⟩:=Int.eq_ofNat_of_zero_le h1.1;have hi:i< x.2.2.2.1.length:=by omega
 obtain⟨L,I⟩:=Ue U Z i hi;have a:=Fp U I;refine⟨i,L,rfl,I,?_,?_⟩
 .unfold tm;rw[Gs h,A,ah,bZ,ax,Tv I [] (by simp;omega),jv]
 .unfold pE;rw[Im h,A,ah,bZ];exact QT I U L.length 0 (by omega)
theorem ae0{x:cR}(h:fJ x)(y:Int)(A:(iP x y&&vS x)=af):tm x y=ab []/\pE x y=ab []:=by
 constructor
 .simp[tm,Gs,h,A]
 simp[pE,Im,h,A]
theorem anw{x:cR}(h:fJ x)(y:Int):JM x y=bif iP x y&&vS x then mK x.2.2.2.1 y else ab (-1):=by
 unfold JM;rw[Gs h];grind
theorem Jv{x:cR}(h:fJ x)(y:Int):DG x y=bif iP x y&&vS x then mK x.2.2.2.1 y else ab (-1):=by
 unfold DG;rw[Im h,ah];cases(iP x y&&vS x)
 .rfl
 .rw [bZ,TN];rfl
end
section
def kg(l:List bV)(i:Nat):bE:=match l[i]? with|some n=>n.2.2.2.1|none=>zA
theorem RK{l:List bV}{i:Nat}(h:i< l.length):kg l i=l[i].2.2.2.1:=by simp[kg,gA,h]
def wB(l:List bV)(L:List Nat):bE×Int×Unit:=qW (chain ie ((L.reverse.map (kg l)).map av))
theorem GS{x:cR}{i:Nat}(h:i< x.2.2.2.1.length):iP x (i:Int)=ag:=by
 unfold iP;rw[aX (by omega)];rfl
theorem RL{x:cR}(h:fJ x){L:List Nat}(A:∀k∈L,k< x.2.2.2.1.length):∀t∈(L.map (kg x.2.2.2.1)),cQ wide t:=λt J=>by
 obtain⟨k,I,rfl⟩:=lg.1 J;rw[RK (A k I)];exact(h _ (fh (A k I))).t
theorem aqS{x:cR}(h:fJ x)(a:vS x=ag){i:Nat}{L:List Nat}(b:jQ x.2.2.2.1 i L):∀(A:List bE),A.length+L.length<=900->(∀t∈A,cQ wide t)->
  aF (x9 x) (((i:Int),A,()),(),())=ab (qW (chain ie ((A++L.reverse.map (kg x.2.2.2.1)).map av))):=by
 have step:∀(i:Nat) (A:List bE) (r:Int),i< x.2.2.2.1.length->A.length<=900->mK x.2.2.2.1 (i:Int)=ab r->x9 x (((i:Int),A,()),(),())=aP ((r,A++[kg x.2.2.2.1 i],()),(),()):=λi A r hi Z c=>by
  unfold x9;dsimp only;rw[bQ (by omega),au,br hi,cE (gb (by simp;omega) (by simp;omega)),anw h,GS hi,a,nQ,au,c,ah,RK hi];rfl
 have stop:∀(A:List bE),A.length<=950->(∀t∈A,cQ wide t)->x9 x ((-1,A,()),(),())=aH (qW (chain ie (A.map av))):=λA Z J=>by
  unfold x9;dsimp only;rw[dJ (by omega),ax,agn (by omega) J]
  rfl
 induction b with
 |top i hi d hp=>
  intro A Z J;have U:∀t∈A++[kg x.2.2.2.1 i],cQ wide t:=λt I=>by
   rcases cB.1 I with I|I
   .exact J t I
   .exact RL h (L:=[i]) (λk J=>by simp at J;omega) t I
  rw[cD (step i A _ hi (by omega) hp),bD (stop _ (by simp at Z|-;omega) U)];rfl
 |sub i j L hi d hp _ ih=>
  intro A Z J;rw[dD]at Z;have U:∀t∈A++[kg x.2.2.2.1 i],cQ wide t:=λt I=>by
   rcases cB.1 I with I|I
   .exact J t I
   .exact RL h (L:=[i]) (λk J=>by simp at J;omega) t I
  rw[cD (step i A _ hi (by omega) hp),ih _ (by simp at Z|-;omega) U,mc]
  simp
theorem aaW{x:cR}(h:fJ x){L:List Nat}(U:∀k∈L,k< x.2.2.2.1.length)(a:L.length<=8):∀(k:Nat),k<=L.length->
  aF (zq x (ints L)) (((L.drop k).reverse.map (kg x.2.2.2.1),((k:Int)-1),()),(),())=ab (wB x.2.2.2.1 L)
 |0,Z=>by
  refine bD ?_;unfold zq;dsimp only;rw[dJ (by omega),jw,aoi (by simp;omega) (RL h (λk Z=>U k (List.mem_reverse.1 Z)))]
  rfl
 |k+1,Z=>by
  have A:k< L.length:=by omega
  have I:k<(ints L).length:=by simp[qH,A]
  have e:zq x (ints L) (((L.drop (k+1)).reverse.map (kg x.2.2.2.1),(((k+1:Nat))-1),()),(),())=ab (.inl (((L.drop k).reverse.map (kg x.2.2.2.1),((k)-1),()),(),())):=by
   unfold zq;dsimp only;have b:(ints L)[k]=(L[k]):=KS _;have J:=U L[k] (fh A);rw[show((k+1:Nat):Int)-1=(k) by omega,bQ (by omega),br I,b,br J,cE (gb (by simp;omega) (by simp;omega)),aO (by omega) (by omega),eF A,List.reverse_cons,p8,<-RK J];rfl
  rw[cD e];exact aaW h U a k (by omega)
def Vc(c:Int):bE×Int×Unit:=(zA,c,())
theorem aqL{x:cR}(h:fJ x){i:Nat}{L:List Nat}(I:vS x=ag)(J:jQ x.2.2.2.1 i L):uG x (i:Int)=ab (wB x.2.2.2.1 L)/\vV x (i:Int)=ab (wB x.2.2.2.1 L):=by
 have hi:=xC J;have f:=Fp (D8 I).1 J;constructor
 .unfold uG;rw[Kc h,I,ah,bZ,dJ (by omega)]
  exact aqS h I J [] (by simp;omega) (λt g=>by cases g)
 .unfold vV;obtain⟨c,d,p,k,_,l⟩:=Fa h (i:Int) (by simp[GS,hi,I])
  rw[zu h,I,ah,bZ,ax,dJ (by omega)]
  have Z:c=i:=by omega
  subst Z;have a:d=L:=by
   have fn:∀{i:Nat} {A B:List Nat},jQ x.2.2.2.1 i A->jQ x.2.2.2.1 i B->A=B:=by
    intro i A B m;induction m generalizing B with
    |top i hi n hp=>
     intro b;cases b with
     |top _ _ _ _=>rfl
     |sub _ j L _ _ U _=>grind
    |sub i j L hi n hp _ ih=>
     intro b;cases b with
     |top _ _ _ U=>grind
     |sub _ q r _ _ U o=>
      grind
   exact fn k J
  subst a;show((pE x (c:Int)).bind λe=>aF (zq x e) (([],w ((e.length:Int)-1),()),(),()))=_
  rw[l,ah,qH,aO (by omega) (by omega)]
  have:=aaW h (xB J).2 f.2 d.length (aJ _);grind
theorem ar3{x:cR}(h:fJ x)(y:Int)(I:(iP x y&&vS x)=af):∃c,(c=18∨c=8)/\uG x y=ab (Vc c)/\vV x y=ab (Vc c):=by
 cases A:vS x with
 |false=>
  refine⟨18,.inl rfl,?_,?_⟩
  .unfold uG;rw[Kc h,A];rfl
  .unfold vV;rw[zu h,A];rfl
 |true=>
  have J:(ao y 0||aj (x.2.2.2.1.length) y)=ag:=by
   unfold iP at I;rw[kK];rw[kK]at I;grind
  refine⟨8,.inr rfl,?_,?_⟩
  .unfold uG;rw[Kc h,A,ah,bZ,cx,J];rfl
  .unfold vV;rw[zu h,A,ah,bZ,cx,J];rfl
theorem af8(t:Af):∀(l:List Af) (s:Af),AS wide s->chain s l=ab t->AS wide t:=by
 intro l;induction l with
 |nil=>
  intro s I e;have e:ab s=ab t:=e;grind
 |cons a l ih=>
  intro s I e;rw[Fo]at e;by_cases A:eA a=ag/\eA (comp s a)=ag
  .rw [aK A]at e;exact ih _ (Cz A.2) e
  grind
end
section
def z2:al:=(0,0,())
def rS(T:Af):List al->List al⊕Int
 |[]=>aU []
 |p::l=>bif !ai (cW T p).2.1 0 then bg (cW T p).2.1 else(match rS T l with|aU q=>aU ((cW T p).1::q)|bg e=>bg e)
def sP(s:bt):List al:=[s.2.1,s.2.2.1,s.2.2.2.1].take (nm s.1).toNat
def wA(k:Int)(l:List al):bt:=(k,(l[0]?).getD z2,(l[1]?).getD z2,(l[2]?).getD z2,())
theorem aqI(k:Int):∀(l:List al),l.length<=3->PU k l=ab (wA k l)
 |[],_|[a],_|[a,b],_|[a,b,c],_=>rfl
 |_::_::_::_::_,h=>by rfl
theorem Zb(k:Int):nm k= -1∨nm k=0∨nm k=1∨nm k=2∨nm k=3:=by
 grind[nm]
theorem anE(s:bt):Ik s=ab (sP s):=by
 unfold Ik sP;rw[Pn];rcases Zb s.1 with h|h|h|h|h<;>rw[h]<;>rfl
theorem ae2{T:Af}:∀{l:List al} {q:List al},rS T l=aU q->q.length=l.length
 |[],q,e=>by cases e;rfl
 |p::l,q,e=>by
  have e:(bif !ai (cW T p).2.1 0 then bg (cW T p).2.1 else(match rS T l with|aU q=>aU ((cW T p).1::q)|bg e=>bg e))=aU q:=e
  cases h:ai (cW T p).2.1 0 with
  |false=>grind
  |true=>
   rw[h,bZ]at e;cases h2:rS T l with
   |inl r=>rw[h2]at e;cases e;simp[ae2 h2]
   |inr c=>grind
def rA(T:Af)(s:bt):bt⊕Int:=match rS T (sP s)with|aU q=>aU (wA s.1 q)|bg e=>bg e
def wt(T:Af):List bt->List bt⊕Int
 |[]=>aU []
 |s::l=>match rA T s with
  |bg e=>bg e
  |aU g=>(match wt T l with|aU q=>aU (g::q)|bg e=>bg e)
def PL(o:List bt⊕Int):List bt×Int×Unit:=match o with|aU q=>(q,0,())|bg e=>([],e,())
theorem abZ{y:bE}(U:cQ wide y){A:List bt}{J:Int}{s:bt}{aE:List al}(hp:aE.length<=3)(Z:A.length<=1000):∀(k i:Nat) (I:List al),i+k=aE.length->I.length=i->
  aF (CP y ((A,J,()),(),()) s aE) ((I,(i:Int),()),(),())=(match rS (av y) (aE.drop i)with
   |bg e=>ab (bg ([],e,()))
   |aU q=>ab (aU ((A++[wA s.1 (I++q)],w (J+1),()),(),())))
 |0,i,I,a,b=>by
  rw[eM (by omega)]
  refine bD ?_;unfold CP;dsimp only;rw[bb (by omega),ax,aqI _ _ (by omega),ah,cE (gb (by simp;omega) (by simp;omega)),jv];rfl
 |k+1,i,I,a,b=>by
  have hi:i< aE.length:=by omega
  rw[eF hi];have e:CP y ((A,J,()),(),()) s aE ((I,(i:Int),()),(),())=bif !ai (cW (av y) aE[i]).2.1 0 then aH (bg ([],(cW (av y) aE[i]).2.1,()))else aP ((I++[(cW (av y) aE[i]).1],((i+1:Nat):Int),()),(),()):=by
   unfold CP;dsimp only;rw[aX (by omega),au,br hi,aeR U,ah,cE (gb (by simp;omega) (by simp;omega)),aO (n:=(i:Int)+1) (by omega) (by omega)];rfl
  show _=(match(bif !ai (cW (av y) aE[i]).2.1 0 then bg (cW (av y) aE[i]).2.1 else(match rS (av y) (aE.drop (i+1))with|aU q=>aU ((cW (av y) aE[i]).1::q)|bg e=>bg e):List al⊕Int)with
   |bg e=>ab (bg ([],e,()))
   |aU q=>ab (aU ((A++[wA s.1 (I++q)],w (J+1),()),(),())))
  cases h:ai (cW (av y) aE[i]).2.1 0 with
  |false=>rw[h]at e;rw[bD e];rfl
  |true=>
   rw[h,bZ,ax]at e;rw[cD e,abZ U hp Z k (i+1) _ (by omega) (by simp;omega),bZ,ax]
   grind
theorem ab3{x:List bt}(U:x.length<=256){y:bE}(J:cQ wide y):∀(k i:Nat) (A:List bt),i+k=x.length->A.length=i->
  aF (CQ x y) ((A,(i:Int),()),(),())=ab (match wt (av y) (x.drop i)with|bg e=>([],e,())|aU q=>(A++q,0,()))
 |0,i,A,Z,a=>by
  refine bD ?_;unfold CQ;dsimp only;rw[bb (by omega),eM (by omega)]
  show _=ab (bg (A++[],0,()));rw[jv];rfl
 |k+1,i,A,Z,a=>by
  have hi:i< x.length:=by omega
  rw[eF hi];have I:(sP x[i]).length<=3:=by grind[sP,gz]
  have e:CQ x y ((A,(i:Int),()),(),())=(match rA (av y) x[i]with|bg e=>ab (bg ([],e,()))|aU g=>ab (aU ((A++[g],((i+1:Nat):Int),()),(),()))):=by
   unfold CQ rA;dsimp only;rw[aX (by omega),au,br hi,anE,ah,show((0:Int))=((0:Nat):Int)from rfl,abZ J I (by omega) (sP x[i]).length 0 [] (by omega) rfl,jw]
   cases rS (av y) (sP x[i])with
   |inr e=>rfl
   |inl q=>
    dsimp only;rw[aO (by omega) (by omega),List.nil_append];rfl
  show _=ab (match(match rA (av y) x[i]with
   |bg e=>bg e
   |aU g=>(match wt (av y) (x.drop (i+1))with|aU q=>aU (g::q)|bg e=>bg e):List bt⊕Int)with|bg e=>([],e,())|aU q=>(A++q,0,()))
  cases h:rA (av y) x[i]with
  |inr c=>simp[h,bD,e]
  |inl g=>
   rw[h]at e;rw[cD e,ab3 U J k (i+1) _ (by omega) (by simp;omega)]
   grind
theorem sO{x:List bt}(h:pB x=ag):x.length<=256:=by
 unfold pB nZ at h;by_cases A:256< x.length
 .rw [aK A]at h;cases h
 .omega
def gw(x:List bt)(T:Af):List bt×Int×Unit:=bif !pB x then([],10,())else PL (wt T x)
theorem aqi(x:List bt){y:bE}(A:cQ wide y):Ii x y=ab (gw x (av y)):=by
 unfold Ii gw;rw[Ig];show(bif !pB x then _ else _)=_;cases h:pB x with
 |false=>rfl
 |true=>
  refine(ab3 (sO h) A x.length 0 [] (by omega) rfl).trans ?_
  grind[PL]
theorem Uc:∀(l:List bt) (p:Int) (i:Nat),(m0 p i l).1=0->∀s∈l,¬nm s.1< 0/\o5 s=ag
 |[],_,_,_,s,A=>by cases A
 |a::l,p,i,h,s,A=>by
  rw[A4]at h;cases hw:ai (fG p a) 0 with
  |false=>
   simp_all[dY,decide_eq_false_iff_not,absurd,h,hw]
  |true=>
   rw[hw]at h;rcases List.mem_cons.1 A with rfl|A
   .unfold fG at hw;cases h1:ao (nm s.1) 0 with
    |true=>rw[h1]at hw;cases hw
    |false=>
     rw[h1]at hw;cases h2:(ai s.1 1||(!ai p 5&&(!ai s.1 5||!ai p 1)))with
     |false=>rw[h2]at hw;cases hw
     |true=>
      rw[h2,bZ]at hw;cases h3:o5 s with
      |false=>rw[h3]at hw;cases hw
      |true=>
       rw[kz,decide_eq_false_iff_not]at h1;trivial
   .exact Uc l _ _ h s A
theorem anr{x:List bt}(h:pB x=ag):∀s∈x,¬nm s.1< 0/\o5 s=ag:=by
 have A:=sO h;unfold pB nZ at h;rw[az (by omega),dY,decide_eq_true_eq]at h
 exact Uc x 5 0 h
theorem yw{p:al}(h:g7 p=ag):p=z2:=by
 unfold g7 at h;rw[aM,aM,dY,dY]at h;have a:=of_decide_eq_true h.1;have b:=of_decide_eq_true h.2.1;obtain⟨A,I,J⟩:=p;simp_all[z2,a,b]
theorem aaT{x:List bt}(U:x.length<=256)(hf:∀s∈x,¬nm s.1< 0/\o5 s=ag){y:bE}(J:cQ wide y):∀(k i:Nat) (A:List bt),i+k=x.length->A.length=i->
  aF (Dc x y) ((A,(i:Int),()),(),())=ab (match wt (av y) (x.drop i)with|bg e=>([],e,())|aU q=>(A++q,0,()))
 |0,i,A,Z,a=>by
  refine bD ?_;unfold Dc;dsimp only;rw[bb (by omega),eM (by omega)]
  show _=ab (bg (A++[],0,()));rw[jv];rfl
 |k+1,i,A,Z,a=>by
  have hi:i< x.length:=by omega
  rw[eF hi];have e:Dc x y ((A,(i:Int),()),(),())=(match rA (av y) x[i]with|bg e=>ab (bg ([],e,()))|aU g=>ab (aU ((A++[g],((i+1:Nat):Int),()),(),()))):=by
   obtain⟨f1,f2⟩:=hf x[i] (fh hi);have room:∀(z:bt),bW (A.length+[z].length) 56=ag:=λz=>gb (by simp;omega) (by simp;omega)
   unfold Dc Db rA sP;dsimp only;rw[aX (by omega),au]
   simp only[br hi,aaJ,ah,aoa J,room,Bz,aO (n:=(i:Int)+1) (by omega) (by omega)]
   unfold o5 lD at f2;rcases Zb x[i].1 with h|h|h|h|h
   .omega
   .rw [h]at f2|-;have I:g7 x[i].2.1=ag/\g7 x[i].2.2.1=ag/\g7 x[i].2.2.2.1=ag:=by
     rw[aM,aM]at f2;exact f2
    rw[yw I.1,yw I.2.1,yw I.2.2];rfl
   .rw [h]at f2|-;have I:g7 x[i].2.2.1=ag/\g7 x[i].2.2.2.1=ag:=by
     rw[aM,aM]at f2;exact f2.2
    rw[yw I.1,yw I.2];show(bif !ai (cW (av y) x[i].2.1).2.1 0 then _ else _)=(match(match(bif !ai (cW (av y) x[i].2.1).2.1 0 then bg (cW (av y) x[i].2.1).2.1 else aU [(cW (av y) x[i].2.1).1]:List al⊕Int)with|aU q=>aU (wA x[i].1 q)|bg e=>bg e:bt⊕Int)with|bg e=>ab (bg ([],e,()))|aU g=>ab (aU ((A++[g],((i+1:Nat):Int),()),(),())))
    cases ai (cW (av y) x[i].2.1).2.1 0<;>rfl
   .rw [h]at f2|-;have I:g7 x[i].2.2.2.1=ag:=by
     rw[aM,aM]at f2;exact f2.2.2
    rw[yw I];show(bif !ai (cW (av y) x[i].2.1).2.1 0 then _ else bif !ai (cW (av y) x[i].2.2.1).2.1 0 then _ else _)=(match(match(bif !ai (cW (av y) x[i].2.1).2.1 0 then bg (cW (av y) x[i].2.1).2.1 else(match(bif !ai (cW (av y) x[i].2.2.1).2.1 0 then bg (cW (av y) x[i].2.2.1).2.1 else aU [(cW (av y) x[i].2.2.1).1]:List al⊕Int)with|aU q=>aU ((cW (av y) x[i].2.1).1::q)|bg e=>bg e):List al⊕Int)with|aU q=>aU (wA x[i].1 q)|bg e=>bg e:bt⊕Int)with|bg e=>ab (bg ([],e,()))|aU g=>ab (aU ((A++[g],((i+1:Nat):Int),()),(),())))
    cases ai (cW (av y) x[i].2.1).2.1 0<;>cases ai (cW (av y) x[i].2.2.1).2.1 0<;>rfl
   .rw [h];show(bif !ai (cW (av y) x[i].2.1).2.1 0 then _ else bif !ai (cW (av y) x[i].2.2.1).2.1 0 then _ else bif !ai (cW (av y) x[i].2.2.2.1).2.1 0 then _ else _)=(match(match(bif !ai (cW (av y) x[i].2.1).2.1 0 then bg (cW (av y) x[i].2.1).2.1 else(match(bif !ai (cW (av y) x[i].2.2.1).2.1 0 then bg (cW (av y) x[i].2.2.1).2.1 else(match(bif !ai (cW (av y) x[i].2.2.2.1).2.1 0 then bg (cW (av y) x[i].2.2.2.1).2.1 else aU [(cW (av y) x[i].2.2.2.1).1]:List al⊕Int)with|aU q=>aU ((cW (av y) x[i].2.2.1).1::q)|bg e=>bg e):List al⊕Int)with|aU q=>aU ((cW (av y) x[i].2.1).1::q)|bg e=>bg e):List al⊕Int)with|aU q=>aU (wA x[i].1 q)|bg e=>bg e:bt⊕Int)with|bg e=>ab (bg ([],e,()))|aU g=>ab (aU ((A++[g],((i+1:Nat):Int),()),(),())))
    cases ai (cW (av y) x[i].2.1).2.1 0<;>cases ai (cW (av y) x[i].2.2.1).2.1 0<;>cases ai (cW (av y) x[i].2.2.2.1).2.1 0<;>rfl
  show _=ab (match(match rA (av y) x[i]with
   |bg e=>bg e
   |aU g=>(match wt (av y) (x.drop (i+1))with|aU q=>aU (g::q)|bg e=>bg e):List bt⊕Int)with|bg e=>([],e,())|aU q=>(A++q,0,()))
  cases h:rA (av y) x[i]with
  |inr c=>rw[h]at e;rw[bD e]
  |inl g=>
   rw[h]at e;rw[cD e,aaT U hf J k (i+1) _ (by omega) (by simp;omega)]
   cases wt (av y) (x.drop (i+1))with
   |inr c=>rfl
   |inl q=>simp only[mc,List.singleton_append]
theorem aoO(x:List bt){y:bE}(A:cQ wide y):I1 x y=ab (gw x (av y)):=by
 unfold I1 gw;rw[Jw];show(bif !pB x then _ else _)=_;cases h:pB x with
 |false=>rfl
 |true=>
  refine(aaT (sO h) (anr h) A x.length 0 [] (by omega) rfl).trans ?_
  grind[PL]
end
section
def mN(t:Int):Bool:=aj 1 t&&aj t 256
theorem ab1(t:Int):(ao t 1||ao 256 t)= !mN t:=by
 simp[mN,kK]
theorem sqE:I3=x8:=rfl
theorem abv(y z d:Int):aaC y z ((d,()),(),())=x7 (w (z*d)) y:=rfl
theorem O8(A I:Int):∃r:al,aF (x7 A I) ((1,()),(),())=ab r/\(r.2.1=0->1<=r.1/\r.1<=64):=by
 obtain⟨r,e,h⟩:=eh (step:=x7 A I) (λs=>∃n:Int,s=((n,()),(),())/\1<=n/\n<=65) (λs=>(65-s.1.1).toNat) (λr=>r.2.1=0->1<=r.1/\r.1<=64) (by
  rintro _ ⟨n,rfl,h1,h2⟩;unfold x7;dsimp only;by_cases h3:n<=64
  .rw [bQ h3];cases aj A _ with
   |true=>exact .inr ⟨_,rfl,λ_=>⟨h1,h3⟩⟩
   |false=>
    rw[aO (by omega) (by omega)]
    refine .inl ⟨_,rfl,⟨n+1,rfl,by omega,by omega⟩,?_⟩
    grind
  .rw [dJ (by omega)]
   exact .inr ⟨_,rfl,λh=>by cases h⟩) ((1,()),(),()) ⟨1,rfl,by omega,by omega⟩
 exact⟨r,e,h⟩
def yE(A I:Int):al:=Classical.choose (O8 A I)
theorem O3(A I:Int):aF (x7 A I) ((1,()),(),())=ab (yE A I):=(acI (O8 A I)).1
theorem amc(A I:Int):(yE A I).2.1=0->1<=(yE A I).1/\(yE A I).1<=64:=(acI (O8 A I)).2
def pn(A I:Int)(l:List al):al:=bif !mN I then(0,2,())else bif !l.all cj then(0,6,())else yE A I
theorem Il{need ry:Int}{l:List al}:(pn need ry l).2.1=0->1<=(pn need ry l).1/\(pn need ry l).1<=64:=by
 unfold pn;cases(!mN ry)
 .cases (!l.all cj)
  .exact amc need ry
  simp
 simp
theorem Z1{A I:Int}{l:List al}(J:l.length<=big):Bu A I l=ab (pn A I l):=by
 unfold Bu pn;rw[cx,ab1];cases(!mN I)
 .refine (mn l cj (0,6,()) (yE A I) (λi hi=>?_) ?_).trans (by simp)
  .unfold MM;dsimp only;rw[aX (by omega),br hi,pR,aO (by omega) (by unfold big at J;omega)]
   cases cj l[i]<;>rfl
  .unfold MM;dsimp only;rw[bb (by omega),O3];rfl
 .rfl
theorem E8{l:List al}(A:l.length<=big):Dd l=ab (l.all cj):=by
 refine(mn l cj af ag (λi hi=>?_) ?_).trans (by simp)
 .unfold QB;dsimp only;rw[aX (by omega),br hi,rb,aO (by omega) (by unfold big at A;omega)]
  cases cj l[i]<;>rfl
 .unfold QB;dsimp only;rw[bb (by omega)];rfl
theorem QX(t:Int):Dl t=ab (mN t):=by unfold Dl;rw[ct];rfl
def lW(a b c:al):Int:=w (w (w (w (a.1-w (2*b.1))+c.1)*w (w (a.1-w (2*b.1))+c.1))+w (w (w (a.2.1-w (2*b.2.1))+c.2.1)*w (w (a.2.1-w (2*b.2.1))+c.2.1)))
theorem Rr(a b c:al):x8 a b c=ab (lW a b c):=rfl
theorem ace(n:Int): -9223372036854775808<=w n/\w n< 9223372036854775808:=by
 show -9223372036854775808<=wr .i64 n/\wr .i64 n< 9223372036854775808;grind[tE,tM,tK,tL]
theorem ww(n:Int):w (w n)=w n:=aO (ace n).1 (ace n).2
def qN(x:al×al×al×Unit)(t:Int):al:=pn (lW x.1 x.2.1 x.2.2.1) t [x.1,x.2.1,x.2.2.1]
theorem anX(x:al×al×al×Unit)(t:Int):Gc x t=ab (qN x t):=by
 unfold Gc;rw[Rr,ah,Z1 (by simp[big])]
 rfl
theorem ao8(x:al×al×al×Unit)(t:Int):I8 x t=ab (qN x t):=by
 have e:vU [x.1,x.2.1,x.2.2.1] t 1=ab (qN x t):=by
  unfold vU qN pn;rw[QX,ah,E8 (by simp[big]),ah]
  cases mN t with
  |false=>rfl
  |true=>
   rw[bZ,ax,ax];cases h:(!([x.1,x.2.1,x.2.2.1]:List al).all cj)<;>first|rw[ax,ax];show cg (aP ((lW x.1 x.2.1 x.2.2.1,()),(),())) (Dj t 1)=_;rw[jl];unfold Dj;rw[abv,l8,show w (lW x.1 x.2.1 x.2.2.1)=lW x.1 x.2.1 x.2.2.1 from ww _,O3]|rfl
 simp[I8,e]
def cN(x:al×al×al×al×Unit)(t:Int):al:=pn (w (9*bif aj (lW x.1 x.2.1 x.2.2.1) (lW x.2.1 x.2.2.1 x.2.2.2.1)then lW x.2.1 x.2.2.1 x.2.2.2.1 else lW x.1 x.2.1 x.2.2.1)) t [x.1,x.2.1,x.2.2.1,x.2.2.2.1]
theorem afT(x:al×al×al×al×Unit)(t:Int):F9 x t=ab (cN x t):=by
 unfold F9;rw[Rr,ah,Rr,ah,Z1 (by simp[big])]
 rfl
theorem aoR(x:al×al×al×al×Unit)(t:Int):I5 x t=ab (cN x t):=by
 have e:vU [x.1,x.2.1,x.2.2.1,x.2.2.2.1] t 9=ab (cN x t):=by
  unfold vU cN pn;rw[QX,ah,E8 (by simp[big]),ah]
  cases mN t with
  |false=>rfl
  |true=>
   cases h:(!([x.1,x.2.1,x.2.2.1,x.2.2.2.1]).all cj)with
   |true=>rfl
   |false=>
    show cg (aP ((bif aj (lW x.1 x.2.1 x.2.2.1) (lW x.2.1 x.2.2.1 x.2.2.2.1)then lW x.2.1 x.2.2.1 x.2.2.2.1 else lW x.1 x.2.1 x.2.2.1,()),(),())) (Dj t 9)=_;simp[jl,Dj,abv,O3]
 simp[I5,e]
theorem YY(x y:Int):qz x y=vT x y:=by
 unfold qz vT;by_cases h:w (2*y)=0
 .simp[jV,dF,h]
 .rw [n3 h,n3 h,n3 h,n3 h,ct,ah];generalize w (w (2*x)+y)=a;generalize w (2*y)=d;have:(ao (a.tmod d) 0)=(ao a 0&&!ai (a.tmod d) 0):=by
   by_cases A:a< 0
   .rw [aX A];have I:=Ez (a:= -a) d (by omega)
    rw[Int.neg_tmod]at I;by_cases h2:a.tmod d=0
    .rw [bb (by omega),dF h2];rfl
    .rw [aX (by omega),bM h2];rfl
   .have:=Ez (a:=a) d (by omega)
    rw[bb (by omega),bb (by omega)];rfl
  rw[this]
theorem HD(x:Int){n:Int}(h1:1<=n)(h2:n<=1000000):∃v,qz x n=ab v:=by
 unfold qz;have h:w (2*n)≠0:=by rw[aO (by omega) (by omega)];omega
 rw[n3 h,n3 h];cases ao ((w (w (2*x)+n)).tmod (w (2*n))) 0<;>exact⟨_,rfl⟩
def vF(i n:Int):Bool:=aj 1 n&&aj n 64&&aj 0 i&&aj i n
theorem ZW(i n:Int):Dk i n=ab (vF i n):=by
 unfold Dk;simp[ct];rfl
theorem Hv{l:List al}(A:l.length<=big)(i n:Int):Gd l i n=ab (l.all cj&&vF i n):=by
 refine(mn l cj af (vF i n) (λj I=>?_) ?_).trans (by simp)
 .unfold ML;dsimp only;rw[aX (by omega),br I,pR,aO (by omega) (by unfold big at A;omega)]
  cases cj l[j]<;>rfl
 .unfold ML;dsimp only;rw[bb (by omega)]
  simp[ct];rfl
theorem ZT{i n:Int}(h:vF i n=ag):1<=n/\n<=64:=by
 simp_all[vF,h,aM,oh,decide_eq_true_eq]
theorem Rq{n:Int}(h1:1<=n)(h2:n<=64):1<=n*n/\n*n<=4096:=by
 constructor
 .have:=tP h1 h1 (by omega) (by omega);omega
 .have:=tP h2 h2 (by omega) (by omega);omega
theorem agv{n:Int}(h1:1<=n)(h2:n<=64):1<=n*n*n/\n*n*n<=262144:=by
 obtain⟨a,b⟩:=Rq h1 h2;constructor
 .have:=tP a h1 (by omega) (by omega);omega
 .have:=tP b h2 (by omega) (by omega);omega
theorem anU(x:al×al×al×Unit)(i n:Int):se x i n=Dh x i n/\∃v,se x i n=ab v:=by
 have h3:([x.1,x.2.1,x.2.2.1]).length<=big:=by simp[big]
 constructor
 .unfold se Dh;rw[Hv h3,ZW,E8 h3];simp[ah,cx,YY];grind
 .unfold se;rw[Hv h3,ah];cases h:(([x.1,x.2.1,x.2.2.1]).all cj&&vF i n)with
  |false=>simp
  |true=>
   rw[aM]at h;obtain⟨I,J⟩:=ZT h.2;obtain⟨A,U⟩:=Rq I J;rw[bZ,aO (n:=n*n) (by omega) (by omega)]
   obtain⟨a,Z⟩:=HD (w (w (w (w (w (n-i)*w (n-i))*x.1.1)+w (w (w (2*i)*w (n-i))*x.2.1.1))+w (w (i*i)*x.2.2.1.1))) A (by omega)
   obtain⟨b,c⟩:=HD (w (w (w (w (w (n-i)*w (n-i))*x.1.2.1)+w (w (w (2*i)*w (n-i))*x.2.1.2.1))+w (w (i*i)*x.2.2.1.2.1))) A (by omega)
   simp_all
theorem afS(x:al×al×al×al×Unit)(i n:Int):sd x i n=De x i n/\∃v,sd x i n=ab v:=by
 have h3:([x.1,x.2.1,x.2.2.1,x.2.2.2.1]).length<=big:=by simp[big]
 constructor
 .unfold sd De;rw[Hv h3,ZW,E8 h3];simp[ah,cx,YY];grind
 .unfold sd;rw[Hv h3,ah];cases h:(([x.1,x.2.1,x.2.2.1,x.2.2.2.1]).all cj&&vF i n)with
  |false=>simp
  |true=>
   rw[aM]at h;obtain⟨A,I⟩:=ZT h.2;obtain⟨J,U⟩:=Rq A I;obtain⟨c1,Z⟩:=agv A I;rw[bZ,aO (n:=n*n) (by omega) (by omega),aO (n:=n*n*n) (by omega) (by omega)]
   obtain⟨a,c⟩:=HD (w (w (w (w (w (w (w (n-i)*w (n-i))*w (n-i))*x.1.1)+w (w (w (w (3*i)*w (n-i))*w (n-i))*x.2.1.1))+w (w (w (w (3*i)*i)*w (n-i))*x.2.2.1.1))+w (w (w (i*i)*i)*x.2.2.2.1.1))) c1 (by omega)
   obtain⟨b,d⟩:=HD (w (w (w (w (w (w (w (n-i)*w (n-i))*w (n-i))*x.1.2.1)+w (w (w (w (3*i)*w (n-i))*w (n-i))*x.2.1.2.1))+w (w (w (w (3*i)*i)*w (n-i))*x.2.2.1.2.1))+w (w (w (i*i)*i)*x.2.2.2.1.2.1))) c1 (by omega)
   simp_all
def mw(g:Int->al):Int->Nat->List al
 |_,0=>[]
 |i,k+1=>g i::mw g (i+1) k
theorem MQ(g:Int->al):∀(k:Nat) (i:Int),(mw g i k).length=k
 |0,_=>rfl
 |k+1,i=>by show(mw g (i+1) k).length+1=_;rw[MQ g k]
def gQ(x:al×al×al×Unit)(n i:Int):al:=(se x i n).getD z2
def gC(x:al×al×al×al×Unit)(n i:Int):al:=(sd x i n).getD z2
theorem ahJ(x:al×al×al×Unit)(n i:Int):se x i n=ab (gQ x n i)/\Dh x i n=ab (gQ x n i):=by
 obtain⟨h1,v,h2⟩:=anU x i n;unfold gQ;grind
theorem ahI(x:al×al×al×al×Unit)(n i:Int):sd x i n=ab (gC x n i)/\De x i n=ab (gC x n i):=by
 obtain⟨h1,v,h2⟩:=afS x i n;unfold gC;grind
theorem aan(x:al×al×al×Unit)(n:al)(I:n.1<=64):∀(k:Nat) (i:Int) (A:List al),i+k=n.1+1->1<=i->A.length<=100->(A.length:Int)<=i->
  aF (Bt x n) ((i,()),(A,()),())=ab (A++mw (gQ x n.1) i k,0,())/\aF (Di x n) ((A,i,()),(),())=ab (A++mw (gQ x n.1) i k,0,())
 |0,i,A,J,h1,U,Z=>by
  constructor
  .refine bD ?_;unfold Bt;dsimp only;rw[dJ (by omega)]
   show _=ab (bg (A++[],0,()));rw[jv];rfl
  .refine bD ?_;unfold Di;dsimp only;rw[dJ (by omega)]
   show _=ab (bg (A++[],0,()));rw[jv];rfl
 |k+1,i,A,J,h1,U,Z=>by
  obtain⟨c,d⟩:=ahJ x n.1 i;have e:Bt x n ((i,()),(A,()),())=ab (aU ((i+1,()),(A++[gQ x n.1 i],()),())):=by
   unfold Bt;dsimp only;rw[bQ (by omega),c,ah,cE (gb (by simp;omega) (by simp;omega)),aO (by omega) (by omega)];rfl
  have f:Di x n ((A,i,()),(),())=ab (aU ((A++[gQ x n.1 i],i+1,()),(),())):=by
   unfold Di;dsimp only;rw[bQ (by omega),d,ah,cE (gb (by simp;omega) (by simp;omega)),aO (by omega) (by omega)];rfl
  obtain⟨a,b⟩:=aan x n I k (i+1) (A++[gQ x n.1 i]) (by omega) (by omega) (by simp;omega) (by simp;omega)
  rw[cD e,cD f,a,b,mc];trivial
theorem Uv(x:al×al×al×al×Unit)(n:al)(I:n.1<=64):∀(k:Nat) (i:Int) (A:List al),i+k=n.1+1->1<=i->A.length<=100->(A.length:Int)<=i->
  aF (Br x n) ((i,()),(A,()),())=ab (A++mw (gC x n.1) i k,0,())/\aF (Df x n) ((A,i,()),(),())=ab (A++mw (gC x n.1) i k,0,())
 |0,i,A,J,h1,U,Z=>by
  constructor
  .refine bD ?_;unfold Br;dsimp only;rw[dJ (by omega)]
   show _=ab (bg (A++[],0,()));rw[jv];rfl
  .refine bD ?_;unfold Df;dsimp only;rw[dJ (by omega)]
   show _=ab (bg (A++[],0,()));rw[jv];rfl
 |k+1,i,A,J,h1,U,Z=>by
  obtain⟨c,d⟩:=ahI x n.1 i;have e:Br x n ((i,()),(A,()),())=ab (aU ((i+1,()),(A++[gC x n.1 i],()),())):=by
   unfold Br;dsimp only;rw[bQ (by omega),c,ah,cE (gb (by simp;omega) (by simp;omega)),aO (by omega) (by omega)];rfl
  have f:Df x n ((A,i,()),(),())=ab (aU ((A++[gC x n.1 i],i+1,()),(),())):=by
   unfold Df;dsimp only;rw[bQ (by omega),d,ah,cE (gb (by simp;omega) (by simp;omega)),aO (by omega) (by omega)];rfl
  obtain⟨a,b⟩:=Uv x n I k (i+1) (A++[gC x n.1 i]) (by omega) (by omega) (by simp;omega) (by simp;omega)
  rw[cD e,cD f,a,b,mc];trivial
def dS(p:al)(s:bt)(t:Int):List al×Int×Unit:=
 bif ai s.1 3 then(bif !ai (qN (p,s.2.1,s.2.2.1,()) t).2.1 0 then([],(qN (p,s.2.1,s.2.2.1,()) t).2.1,())else(mw (gQ (p,s.2.1,s.2.2.1,()) (qN (p,s.2.1,s.2.2.1,()) t).1) 1 (qN (p,s.2.1,s.2.2.1,()) t).1.toNat,0,()))
 else bif ai s.1 4 then(bif !ai (cN (p,s.2.1,s.2.2.1,s.2.2.2.1,()) t).2.1 0 then([],(cN (p,s.2.1,s.2.2.1,s.2.2.2.1,()) t).2.1,())else(mw (gC (p,s.2.1,s.2.2.1,s.2.2.2.1,()) (cN (p,s.2.1,s.2.2.1,s.2.2.2.1,()) t).1) 1 (cN (p,s.2.1,s.2.2.1,s.2.2.2.1,()) t).1.toNat,0,()))
 else([s.2.1],0,())
theorem aao(x:al×al×al×Unit)(t:Int):Gb x t=ab (bif !ai (qN x t).2.1 0 then([],(qN x t).2.1,())else(mw (gQ x (qN x t).1) 1 (qN x t).1.toNat,0,()))/\I7 x t=ab (bif !ai (qN x t).2.1 0 then([],(qN x t).2.1,())else(mw (gQ x (qN x t).1) 1 (qN x t).1.toNat,0,())):=by
 unfold Gb I7;rw[anX,ao8,ah,ah];cases h:ai (qN x t).2.1 0 with
 |false=>trivial
 |true=>
  rw[dY,decide_eq_true_eq]at h;obtain⟨A,I⟩:=Il (need:=lW x.1 x.2.1 x.2.2.1) (ry:=t) (l:=[x.1,x.2.1,x.2.2.1]) h;have A:1<=(qN x t).1:=A;exact aan x (qN x t) I (qN x t).1.toNat 1 [] (by omega) (by omega) (by simp) (by simp)
theorem Uw(x:al×al×al×al×Unit)(t:Int):F8 x t=ab (bif !ai (cN x t).2.1 0 then([],(cN x t).2.1,())else(mw (gC x (cN x t).1) 1 (cN x t).1.toNat,0,()))/\I4 x t=ab (bif !ai (cN x t).2.1 0 then([],(cN x t).2.1,())else(mw (gC x (cN x t).1) 1 (cN x t).1.toNat,0,())):=by
 unfold F8 I4;rw[afT,aoR,ah,ah];cases h:ai (cN x t).2.1 0 with
 |false=>trivial
 |true=>
  rw[dY,decide_eq_true_eq]at h;have A:=Il (need:=_) (ry:=t) (l:=[x.1,x.2.1,x.2.2.1,x.2.2.2.1]) (show(cN x t).2.1=0 from h);have J:1<=(cN x t).1:=A.1;have I:=A.2;exact Uv x (cN x t) I (cN x t).1.toNat 1 [] (by omega) (by omega) (by simp) (by simp)
theorem abw(p:al)(s:bt)(t:Int):Ge p s t=ab (dS p s t)/\I9 p s t=ab (dS p s t):=by
 unfold Ge I9 dS;cases ai s.1 3 with
 |true=>
  rw[(aao _ t).1,(aao _ t).2];trivial
 |false=>
  cases ai s.1 4 with
  |true=>
   rw[(Uw _ t).1,(Uw _ t).2];trivial
  |false=>trivial
theorem Ra{p:al}{s:bt}{t:Int}(h:(dS p s t).2.1=0):1<=(dS p s t).1.length/\(dS p s t).1.length<=64:=by
 unfold dS at h|-;cases h3:ai s.1 3 with
 |true=>
  rw[au];cases I:ai (qN (p,s.2.1,s.2.2.1,()) t).2.1 0 with
  |false=>
   simp_all[dY,decide_eq_false_iff_not,absurd,h,I]
  |true=>
   rw[dY,decide_eq_true_eq]at I;have A:=Il (need:=_) (ry:=t) (l:=_) (show(qN (p,s.2.1,s.2.2.1,()) t).2.1=0 from I);have J:1<=(qN (p,s.2.1,s.2.2.1,()) t).1:=A.1;have U:(qN (p,s.2.1,s.2.2.1,()) t).1<=64:=A.2;rw[bZ,ax,MQ];omega
 |false=>
  rw[ax];cases Z:ai s.1 4 with
  |true=>
   rw[au];cases I:ai (cN (p,s.2.1,s.2.2.1,s.2.2.2.1,()) t).2.1 0 with
   |false=>
    simp_all[dY,decide_eq_false_iff_not,absurd,h,I]
   |true=>
    rw[dY,decide_eq_true_eq]at I;have A:=Il (need:=_) (ry:=t) (l:=_) (show(cN (p,s.2.1,s.2.2.1,s.2.2.2.1,()) t).2.1=0 from I);have J:1<=(cN (p,s.2.1,s.2.2.1,s.2.2.2.1,()) t).1:=A.1;have U:(cN (p,s.2.1,s.2.2.1,s.2.2.2.1,()) t).1<=64:=A.2;rw[bZ,ax,MQ];omega
  |false=>simp
end
section
def fk(a b:al):Bool:=cS (Ty.st 2 ((Ty.int .i64).cn ((Ty.int .i64).cn Ty.nl))) a b
theorem FT{a b:al}:fk a b=ag↔a=b:=by
 obtain⟨A,I,Z⟩:=a;obtain⟨J,U,c⟩:=b;show(ai A J&&(ai I U&&ag))=ag↔_;rw[aM,dY,dY,decide_eq_true_eq];simp
def bz(l:List al):al:=(l[l.length-1]?).getD z2
theorem Yo{l:List al}(h:0< l.length):l[l.length-1]'(by omega)=bz l:=by
 unfold bz;grind
theorem Yn(l:List al)(x:al):bz (l++[x])=x:=by
 unfold bz;simp
def gg:List al->List al->List al
 |l,[]=>l
 |l,x::m=>bif fk (bz l) x then gg l m else gg (l++[x]) m
theorem AE:∀(m l:List al),l.length<=(gg l m).length/\(gg l m).length<=l.length+m.length
 |[],l=>⟨aJ _,aJ _⟩
 |x::m,l=>by
  unfold gg;cases fk (bz l) x with
  |true=>have:=AE m l;grind
  |false=>
   have:=AE m (l++[x]);grind
theorem K8:∀(m l:List al),0< m.length->bz (gg l m)=bz m
 |[],l,h=>by cases h
 |[x],l,_=>by
  show bz (bif fk (bz l) x then l else l++[x])=x;cases h:fk (bz l) x<;>first|exact Yn l x|exact FT.1 h
 |x::y::m,l,_=>by
  have e:bz (x::y::m)=bz (y::m):=rfl;show bz (bif fk (bz l) x then gg l (y::m)else gg (l++[x]) (y::m))=_;cases fk (bz l) x<;>first|exact K8 (y::m) _ (by simp)|exact K8 (y::m) l (by simp)
def Nd(l:List al):Prop:=2<=l.length->(l[l.length-2]?).getD z2≠bz l
theorem aeJ{l:List al}{x:al}(h:bz l≠x):Nd (l++[x]):=by
 intro h2;rw[Yn,dD,EC];rw[dD,EC]at h2;rw[List.getElem?_append_left (by omega)]
 exact h
theorem aeK(x:al):Nd [x]:=λh=>by trivial
theorem K9:∀(m l:List al),Nd l->Nd (gg l m)
 |[],l,h=>h
 |x::m,l,h=>by
  unfold gg;cases A:fk (bz l) x<;>first|exact K9 m _ (aeJ λq=>by rw[FT.2 q]at A;cases A)|exact K9 m l h
def lY(l:List al):List al:=bif ao 1 (l.length:Int)&&fk (bz l) ((l[0]?).getD z2)then l.take (l.length-1)else l
theorem RM(l:List al):(lY l).length<=l.length:=by
 unfold lY;grind
def ic(t:Int):List bP->List al->Bool->List bt->List bP⊕Int
 |pre,aE,cl,[]=>.inl (pre++[(aE,cl,())])
 |pre,aE,cl,s::l=>bif ai s.1 1 then ic t (pre++[(aE,cl,())]) [s.2.1] af l
  else bif !ai s.1 5 then(bif !ai (dS (bz aE) s t).2.1 0 then bg (dS (bz aE) s t).2.1 else ic t pre (gg aE (dS (bz aE) s t).1) cl l)
  else ic t pre (lY aE) ag l
def fD(l:List bP):Nat:=(l.map λp=>p.1.length).foldl (· + ·) 0
def yV(o:List bP⊕Int):List bP×Int×Unit:=match o with
 |.inr e=>([],e,())
 |.inl q=>bif ao 4096 (fD q:Int)then([],5,())else(q,0,())
theorem G5{β:Type}{l:List al}(h:0< l.length)(A:l.length<=100000){f:al->Option β}:cO l (w ((l.length:Int)-1)) f=f (bz l):=by
 rw[aO (by omega) (by omega),show(l.length)-1=((l.length-1:Nat):Int) by omega,B4 (by omega),Yo h]
theorem W4{β:Type}{l:List al}(h:0< l.length)(A:l.length<=100000){f:al->Option β}:aL l (w ((l.length:Int)-1)) f=f (bz l):=by
 rw[aO (by omega) (by omega),show(l.length)-1=((l.length-1:Nat):Int) by omega,br (by omega),Yo h]
theorem P9{I:((List bP×bP×Unit)×Int×Unit)×Unit×Unit}{A:List al×Int×Unit}(hm:A.1.length<=64){pre:List bP}{cl:Bool}:∀(k j:Nat) (aE:List al),j+k=A.1.length->0< aE.length->aE.length+k<=30000->
  aF (x6 I A) (((j:Int),()),((pre,(aE,cl,()),()),()),())=ab (aU (((pre,(gg aE (A.1.drop j),cl,()),()),w (I.1.2.1+1),()),(),()))
 |0,j,aE,U,hp,Z=>by
  refine bD ?_;unfold x6;dsimp only;rw[bb (by omega),eM (by omega)];rfl
 |k+1,j,aE,U,hp,Z=>by
  have J:j< A.1.length:=by omega
  rw[eF J];show _=ab (aU (((pre,(bif fk (bz aE) A.1[j]then gg aE (A.1.drop (j+1))else gg (aE++[A.1[j]]) (A.1.drop (j+1)),cl,()),()),w (I.1.2.1+1),()),(),()));have e:x6 I A (((j),()),((pre,(aE,cl,()),()),()),())=ab (aU ((((j+1):Int),()),((pre,(bif fk (bz aE) A.1[j]then aE else aE++[A.1[j]],cl,()),()),()),())):=by
   unfold x6;dsimp only;rw[aX (by omega),br J,bM (x:=(aE.length)) (y:=0) (by omega),G5 hp (by omega),aO (n:=(j)+1) (by omega) (by omega)]
   show(bif !fk (bz aE) A.1[j]then _ else _)=_;cases fk (bz aE) A.1[j]<;>first|rfl|rw[eS,au,cE (gb (by simp;omega) (by simp;omega))];rfl
  rw[cD e];cases fk (bz aE) A.1[j]<;>first|exact P9 hm k (j+1) aE (by omega) hp (by omega)|exact P9 hm k (j+1) _ (by omega) (by simp) (by simp;omega)
theorem RJ(a b:List bP):fD (a++b)=fD a+fD b:=by
 unfold fD;have key:∀(l:List Nat) n,l.foldl (· + ·) n=n+l.foldl (· + ·) 0:=by
  intro l;induction l with
  |nil=>simp
  |cons a l ih=>grind
 grind
theorem aqh{q:List bP}{s4:((List bP×bP×Unit)×Int×Unit)×Unit×Unit}(I:q=cK s4.1.1.1 [(s4.1.1.2.1.1,s4.1.1.2.1.2.1,())])(Z:q.length<=100000)(hp:∀p∈q,p.1.length<=100000):∀(k i:Nat),i+k=q.length->
  aF (Bs s4) (((fD (q.take i):Int),(i:Int),()),(),())=ab (yV (aU q)):=by
 have J:∀i,i<=q.length->fD (q.take i)<=i*100000:=by
  intro i;induction i with
  |zero=>simp[fD]
  |succ i ih=>
   intro hi;have A:i< q.length:=by omega
   rw[EH A,RJ];grind[fD]
 intro k;induction k with
 |zero=>
  intro i U;refine bD ?_;unfold Bs;dsimp only;rw[<-I,bb (by omega),ax,EG (by omega)]
  show _=ab (bg (bif ao 4096 (fD q:Int)then([],5,())else(q,0,())));cases ao 4096 (fD q:Int)<;>rfl
 |succ k ih=>
  intro i U;have hi:i< q.length:=by omega
  have h1:=J i (by omega)
  have h2:=hp _ (fh hi);have e:Bs s4 (((fD (q.take i):Int),(i:Int),()),(),())=ab (aU (((fD (q.take (i+1)):Int),((i+1:Nat):Int),()),(),())):=by
   unfold Bs;dsimp only;have h3:fD (q.take (i+1))=fD (q.take i)+q[i].1.length:=by
    rw[EH hi,RJ];simp[fD]
   rw[<-I,aX (by omega),au,B4 hi,aO (n:=(i:Int)+1) (by omega) (by omega),aO (by omega) (by omega),h3];rfl
  rw[cD e];grind
theorem F6{x:List bt}(J:x.length<=256)(t:Int):∀(k i:Nat) (pre:List bP) (aE:List al) (cl:Bool),i+k=x.length->pre.length<=i->(∀p∈pre,p.1.length<=20000)->0< aE.length->aE.length<=64*i+1->
  aF (o6 x t) (((pre,(aE,cl,()),()),(i:Int),()),(),())=ab (yV (ic t pre aE cl (x.drop i)))
 |0,i,pre,aE,cl,d,h1,h2,h3,g=>by
  refine bD ?_;unfold o6;dsimp only;rw[bb (by omega),ax,eM (by omega)]
  have:=aqh (q:=pre++[(aE,cl,())]) (s4:=(((pre,(aE,cl,()),()),(i:Int),()),(),())) rfl (by simp;omega) (λp hp=>by
   grind) _ 0 (cV _)
  rw[show((0:Int),(0:Int),())=(((fD ((pre++[(aE,cl,())]).take 0):Nat):Int),((0:Nat):Int),())from rfl,this];rfl
 |k+1,i,pre,aE,cl,d,h1,h2,h3,g=>by
  have hi:i< x.length:=by omega
  rw[eF hi];have A:∀p∈pre++[(aE,cl,())],p.1.length<=20000:=λp hp=>by
   grind
  show _=ab (yV (bif ai x[i].1 1 then ic t (pre++[(aE,cl,())]) [x[i].2.1] af (x.drop (i+1))
   else bif !ai x[i].1 5 then(bif !ai (dS (bz aE) x[i] t).2.1 0 then bg (dS (bz aE) x[i] t).2.1 else ic t pre (gg aE (dS (bz aE) x[i] t).1) cl (x.drop (i+1)))
   else ic t pre (lY aE) ag (x.drop (i+1))))
  have U:∀(f:bt->Option ((((List bP×bP×Unit)×Int×Unit)×Unit×Unit)⊕List bP×Int×Unit)),aL x (i:Int) f=f x[i]:=λf=>br hi
  cases hm:ai x[i].1 1 with
  |true=>
   have e:o6 x t (((pre,(aE,cl,()),()),(i:Int),()),(),())=ab (aU (((pre++[(aE,cl,())],([x[i].2.1],af,()),()),((i+1:Nat):Int),()),(),())):=by
    unfold o6;dsimp only;rw[aX (by omega),au,U,hm,au,cE (gb (by grind[cK]) (by grind[cK])),aO (n:=(i:Int)+1) (by omega) (by omega)];rfl
   rw[cD e,au];exact F6 J t k (i+1) _ _ _ (by omega) (by simp;omega) A (by simp) (by simp)
  |false=>
   rw[ax];have a:ai (w (((pre.length+1:Nat):Int)-1)) (pre.length:Int)=ag:=by rw[aO (by omega) (by omega)];exact dF (by omega)
   cases b:ai x[i].1 5 with
   |false=>
    rw[eS,au];have e:o6 x t (((pre,(aE,cl,()),()),(i:Int),()),(),())=bif !ai (dS (bz aE) x[i] t).2.1 0 then ab (bg ([],(dS (bz aE) x[i] t).2.1,()))else aF (x6 (((pre,(aE,cl,()),()),(i:Int),()),(),()) (dS (bz aE) x[i] t)) ((0,()),((pre,(aE,cl,()),()),()),()):=by
     unfold o6;dsimp only;rw[aX (by omega),au,U,hm,ax,cE a,b,eS,au,G5 h3 (by omega),(abw (bz aE) x[i] t).1,ah];rfl
    cases I:ai (dS (bz aE) x[i] t).2.1 0 with
    |false=>rw[I]at e;rw[bD e];rfl
    |true=>
     rw[I,bZ,ax]at e;rw[dY,decide_eq_true_eq]at I;obtain⟨m,h⟩:=Ra I;rw[show((0:Int),())=(((0:Nat):Int),())from rfl,P9 h _ 0 aE (cV _) h3 (by omega),jw]at e
     have j:=AE (dS (bz aE) x[i] t).1 aE;rw[cD e,bZ,ax];dsimp only;rw[aO (by omega) (by omega)]
     exact F6 J t k (i+1) _ _ _ (by omega) (by omega) h2 (by omega) (by omega)
   |true=>
    rw[bZ,ax];have l:aE[0]? =ab ((aE[0]?).getD z2):=by simp[gA,h3]
    have e:o6 x t (((pre,(aE,cl,()),()),(i:Int),()),(),())=ab (aU (((pre,(lY aE,ag,()),()),((i+1:Nat):Int),()),(),())):=by
     unfold o6;dsimp only;rw[aX (by omega),au,U,hm,ax,cE a,b,bZ,ax,G5 h3 (by omega),cE (aX (by omega)),l,ah,ct,ah,aO (n:=(i:Int)+1) (by omega) (by omega)]
     show(bif ao 1 (aE.length:Int)&&fk (bz aE) ((aE[0]?).getD z2)then _ else _)=_;unfold lY;cases c:(ao 1 (aE.length:Int)&&fk (bz aE) ((aE[0]?).getD z2))with
     |false=>rfl
     |true=>
      rw[au,au,aO (by omega) (by omega),cE (by rw[bQ (by omega),bQ (by omega)];rfl),cE (aX (by omega)),show((aE.length:Int)-1).toNat=aE.length-1 by omega];rfl
    have j:=RM aE;have Z:0<(lY aE).length:=by
     unfold lY;cases c:(ao 1 (aE.length:Int)&&fk (bz aE) ((aE[0]?).getD z2))with
     |false=>exact h3
     |true=>
      rw[aM,kz,decide_eq_true_eq]at c;grind
    rw[cD e];exact F6 J t k (i+1) _ _ _ (by omega) (by omega) h2 Z (by omega)
def qq(t:Int)(out:List bP)(l:List bt):List bP⊕Int:=match l with
 |[]=>.inl out
 |s::l=>ic t out [s.2.1] af l
def jg(x:List bt)(t:Int):List bP×Int×Unit:=bif !pB x then([],10,())else bif !mN t then([],2,())else yV (qq t [] x)
theorem anq{x:List bt}(h:pB x=ag)(A:0< x.length):ai x[0].1 1=ag:=by
 have I:=sO h;unfold pB nZ at h;rw[az (by omega),dY]at h
 cases x with
 |nil=>cases A
 |cons s l=>
  rw[A4]at h;show ai s.1 1=ag;cases hw:ai (fG 5 s) 0 with
  |false=>
   simp_all[dY,decide_eq_false_iff_not,absurd,h,hw]
  |true=>
   unfold fG at hw;cases h1:ao (nm s.1) 0 with
   |true=>rw[h1]at hw;cases hw
   |false=>
    rw[h1]at hw;cases h2:ai s.1 1<;>first|rw[h2]at hw;cases hw|rfl
theorem ahA(x:List bt)(t:Int):Ga x t=ab (jg x t):=by
 unfold Ga jg;rw[Ig,cx,ab1];show cg (bif !pB x then _ else bif !mN t then _ else _) _=_;cases hp:pB x with
 |false=>rfl
 |true=>
  cases mN t with
  |false=>rfl
  |true=>
   unfold Vy;have A:=sO hp;cases x with
   |nil=>
    exact bD rfl
   |cons s l=>
    have h1:=anq hp (by simp)
    have h1:ai s.1 1=ag:=h1;rw[aX (by simp)]
    show(aW (ai s.1 1) (aF (o6 (s::l) t) ((([],([s.2.1],af,()),()),((1:Nat)),()),(),())))=_;rw[cE h1,F6 A t l.length 1 [] _ _ (by grind) (by simp) (λp hp=>by cases hp) (by simp) (by simp)]
    rfl
end
section
theorem aqk{A:(Int×Unit)×(bP×al×(Unit×Bool×Unit)×Unit)×Unit}{aE:List al}{cl:Bool}(I:0< aE.length)(d:aE.length<=30000)(U:Nd aE):
  aF (Ja A) ((),((aE,cl,()),()),())=ab (aU ((),((lY aE,cl,()),((),A.2.1.2.2.1.2.1,()),()),())):=by
 have step:∀(l:List al),0< l.length->l.length<=30000->Ja A ((),((l,cl,()),()),())=bif ao 1 (l.length:Int)&&fk (bz l) ((l[0]?).getD z2)then ab (aU ((),((l.take (l.length-1),cl,()),()),()))else ab (bg (aU ((),((l,cl,()),((),A.2.1.2.2.1.2.1,()),()),()))):=λl a b=>by
  have I:l[0]? =ab ((l[0]?).getD z2):=by simp[gA,a]
  unfold Ja;dsimp only;rw[W4 a (by omega)]
  generalize i:(l[0]?).getD z2=f at I;rw[I,ah,ct,ah];show(bif ao 1 (l.length:Int)&&fk (bz l) f then _ else _)=_;cases J:(ao 1 (l.length:Int)&&fk (bz l) f)with
  |false=>rfl
  |true=>
   rw[au,au,aO (by omega) (by omega),cE (by rw[bQ (by omega),bQ (by omega)];rfl),show((l.length:Int)-1).toNat-0=l.length-1 by omega,jw];rfl
 have e:=step aE I d;unfold lY;cases J:(ao 1 (aE.length:Int)&&fk (bz aE) ((aE[0]?).getD z2))with
 |false=>simp[J,bD,e]
 |true=>
  rw[J,au]at e;rw[au,cD e];rw[aM,kz,decide_eq_true_eq,FT]at J;have g:(aE.take (aE.length-1)).length=aE.length-1:=by simp
  have c:=step (aE.take (aE.length-1)) (by omega) (by omega)
  have Z:(ao 1 ((aE.take (aE.length-1)).length:Int)&&fk (bz (aE.take (aE.length-1))) (((aE.take (aE.length-1))[0]?).getD z2))=af:=by
   rw[acD];right;have U:=U (by omega)
   cases h:fk (bz (aE.take (aE.length-1))) (((aE.take (aE.length-1))[0]?).getD z2)with
   |false=>rfl
   |true=>
    rw[FT]at h;exfalso;apply U;have j:bz (aE.take (aE.length-1))=(aE[aE.length-2]?).getD z2:=by
     unfold bz;grind
    grind
  rw[Z,ax]at c;exact bD c
theorem Lr{A:(Int×Unit)×(bP×al×(Unit×Bool×Unit)×Unit)×Unit}{y:List al×Int×Unit}(hm:0< y.1.length/\y.1.length<=64):∀(k j:Nat) (aE:List al),j+k=y.1.length->0< aE.length->aE.length+k<=30000->
  aF (zi A y) ((aE,(j:Int),()),(),())=ab (aU ((w (A.1.1+1),()),((gg aE (y.1.drop j),A.2.1.1.2.1,()),bz y.1,((),A.2.1.2.2.1.2.1,()),()),()))
 |0,j,aE,J,hp,U=>by
  refine bD ?_;unfold zi;dsimp only;rw[bb (by omega),W4 hm.1 (by omega),eM (by omega)];rfl
 |k+1,j,aE,J,hp,U=>by
  have I:j< y.1.length:=by omega
  rw[eF I];show _=ab (aU ((w (A.1.1+1),()),((bif fk (bz aE) y.1[j]then gg aE (y.1.drop (j+1))else gg (aE++[y.1[j]]) (y.1.drop (j+1)),A.2.1.1.2.1,()),bz y.1,((),A.2.1.2.2.1.2.1,()),()),()));have e:zi A y ((aE,(j),()),(),())=ab (aU ((bif fk (bz aE) y.1[j]then aE else aE++[y.1[j]],((j+1):Int),()),(),())):=by
   unfold zi;dsimp only;rw[aX (by omega),bM (x:=(aE.length)) (y:=0) (by omega),G5 hp (by omega),br I,aO (n:=(j)+1) (by omega) (by omega)]
   show(bif !fk (bz aE) y.1[j]then _ else _)=_;cases fk (bz aE) y.1[j]<;>first|rfl|rw[eS,au,br I,cE (gb (by simp;omega) (by simp;omega))];rfl
  rw[cD e];cases fk (bz aE) y.1[j]<;>first|exact Lr hm k (j+1) aE (by omega) hp (by omega)|exact Lr hm k (j+1) _ (by omega) (by simp) (by simp;omega)
theorem Ud:∀(l:List bt) (p:Int) (i:Nat),(m0 p i l).1=0->(∀s,l.head? =ab s->p=5->ai s.1 1=ag)/\∀j,(h:j+1< l.length)->l[j].1=5->ai l[j+1].1 1=ag
 |[],_,_,_=>⟨λs h=>(by cases h),λj h=>(by trivial)⟩
 |a::l,p,i,h=>by
  rw[A4]at h;cases hw:ai (fG p a) 0 with
  |false=>
   simp_all[dY,decide_eq_false_iff_not,absurd,h,hw]
  |true=>
   rw[hw]at h;obtain⟨h1,h2⟩:=Ud l a.1 (i+1) h;refine⟨λs A hp=>?_,λj J I=>?_⟩
   .cases A;subst hp;unfold fG at hw;cases h1:ao (nm a.1) 0 with
    |true=>rw[h1]at hw;cases hw
    |false=>
     rw[h1]at hw;cases h2:ai a.1 1<;>first|rw[h2]at hw;cases hw|rfl
   .cases j with
    |zero=>
     cases l with
     |nil=>trivial
     |cons b l=>exact h1 b rfl I
    |succ j=>grind
theorem ans{x:List bt}(h:pB x=ag):∀j,(A:j+1< x.length)->x[j].1=5->ai x[j+1].1 1=ag:=by
 have I:=sO h;unfold pB nZ at h;rw[az (by omega),dY,decide_eq_true_eq]at h
 exact(Ud x 5 0 h).2
theorem Ma{t:Int}{pre:List bP}{aE:List al}{cl:Bool}{l:List bt}(h:∀s,l.head? =ab s->ai s.1 1=ag):ic t pre aE cl l=qq t (pre++[(aE,cl,())]) l:=by
 cases l<;>first|rename_i s l;show(bif ai s.1 1 then _ else _)=_;rw[h s rfl];rfl|rfl
theorem abW{x:List bt}(v:x.length<=256)(J:∀j,(D:j+1< x.length)->x[j].1=5->ai x[j+1].1 1=ag)(t:Int):∀(k i:Nat) (aE:List al),i+k=x.length->0< aE.length->aE.length<=64*i+1->Nd aE->
  (∃e,e≠0/\cg (aF (mF x t) (((i:Int),()),((aE,af,()),bz aE,((),af,()),()),())) Jb=ab (([],af,()),0,e,())/\∀pre,ic t pre aE af (x.drop i)=bg e)∨
  (∃(p:bP) (j:Nat),i<=j/\j<=x.length/\p.1.length<=20000/\(∀h:j< x.length,ai x[j].1 1=ag)/\cg (aF (mF x t) (((i:Int),()),((aE,af,()),bz aE,((),af,()),()),())) Jb=ab (p,(j:Int),0,())/\∀pre,ic t pre aE af (x.drop i)=qq t (pre++[p]) (x.drop j))
 |0,i,aE,w,o,y,q=>by
  right;refine⟨(aE,af,()),i,aJ _,by omega,by grind,λh=>by omega,?_,λpre=>Ma (λs A=>by grind)⟩
  have e:mF x t (((i:Int),()),((aE,af,()),bz aE,((),af,()),()),())=ab (bg (aU (((i:Int),()),((aE,af,()),bz aE,((),af,()),()),()))):=by
   unfold mF;dsimp only;rw[bb (by omega)];rfl
  rw[bD e];rfl
 |k+1,i,aE,w,o,y,q=>by
  have hi:i< x.length:=by omega
  have Z:∀{β:Type} (f:bt->Option β),aL x (i:Int) f=f x[i]:=λf=>br hi
  cases hm:ai x[i].1 1 with
  |true=>
   right;refine⟨(aE,af,()),i,aJ _,by omega,by grind,λ_=>hm,?_,λpre=>Ma (λs A=>by simp_all)⟩
   have e:mF x t (((i:Int),()),((aE,af,()),bz aE,((),af,()),()),())=ab (bg (aU (((i:Int),()),((aE,af,()),bz aE,((),af,()),()),()))):=by
    unfold mF;dsimp only;rw[aX (by omega),mY,Z,hm];rfl
   rw[bD e];rfl
  |false=>
   have U:∀pre,ic t pre aE af (x.drop i)=(bif !ai x[i].1 5 then(bif !ai (dS (bz aE) x[i] t).2.1 0 then bg (dS (bz aE) x[i] t).2.1 else ic t pre (gg aE (dS (bz aE) x[i] t).1) af (x.drop (i+1)))else ic t pre (lY aE) ag (x.drop (i+1))):=λpre=>by
    rw[eF hi];show(bif ai x[i].1 1 then _ else _)=_;simp[hm]
   cases l:ai x[i].1 5 with
   |true=>
    right;have u:x[i].1=5:=by simp_all[dY,decide_eq_true_eq,l]
    refine⟨(lY aE,ag,()),i+1,by omega,by omega,by have:=RM aE;grind,λh=>J i h u,?_,λpre=>?_⟩
    .have e:mF x t (((i:Int),()),((aE,af,()),bz aE,((),af,()),()),())=ab (bg (bg ((lY aE,ag,()),((i+1:Nat):Int),0,()))):=by
      unfold mF;dsimp only;rw[aX (by omega),mY,Z,hm,ah,eS,au,Z,l,au,aqk o (by omega) q]
      show QC _ _=_;unfold QC;dsimp only;rw[aO (by omega) (by omega)];rfl
     rw[bD e];rfl
    .rw [U,l,bZ,ax];refine Ma (λs A=>?_)
     rcases km (i+1) x.length with n|n
     .rw [eF n]at A;cases A;exact J i n u
     .rw [eM n]at A;cases A
   |false=>
    have e:mF x t (((i:Int),()),((aE,af,()),bz aE,((),af,()),()),())=bif !ai (dS (bz aE) x[i] t).2.1 0 then ab (bg (bg (([],af,()),0,(dS (bz aE) x[i] t).2.1,())))else aF (zi (((i:Int),()),((aE,af,()),bz aE,((),af,()),()),()) (dS (bz aE) x[i] t)) ((aE,0,()),(),()):=by
     unfold mF;dsimp only;rw[aX (by omega),mY,Z,hm,ah,eS,au,Z,l,ax,Z,(abw (bz aE) x[i] t).2,ah];rfl
    cases A:ai (dS (bz aE) x[i] t).2.1 0 with
    |false=>
     left;rw[A]at e;refine⟨(dS (bz aE) x[i] t).2.1,by rw[dY,decide_eq_false_iff_not]at A;exact A,?_,λpre=>?_⟩
     .rw [bD e];rfl
     .rw [U,l,A];rfl
    |true=>
     have r:=A;rw[A,bZ,ax]at e;rw[dY,decide_eq_true_eq]at A;have m:=Ra A;rw[show((aE,(0:Int),()),(),())=((aE,((0:Nat):Int),()),(),())from rfl,Lr m _ 0 aE (cV _) o (by omega),jw]at e
     have z:=AE (dS (bz aE) x[i] t).1 aE;have B:mF x t (((i:Int),()),((aE,af,()),bz aE,((),af,()),()),())=ab (aU ((((i+1:Nat):Int),()),((gg aE (dS (bz aE) x[i] t).1,af,()),bz (gg aE (dS (bz aE) x[i] t).1),((),af,()),()),())):=by
      rw[e,K8 _ _ m.1];dsimp only;rw[aO (by omega) (by omega)];rfl
     rw[cD B];have ih:=abW v J t k (i+1) (gg aE (dS (bz aE) x[i] t).1) (by omega) (by omega) (by omega) (K9 _ _ q)
     have I:∀pre,ic t pre aE af (x.drop i)=ic t pre (gg aE (dS (bz aE) x[i] t).1) af (x.drop (i+1)):=λpre=>by rw[U,l,r];rfl
     rcases ih with⟨C,a,b,c⟩|⟨p,j,a,b,c,d,f,g⟩
     .exact .inl ⟨C,a,b,λpre=>(I pre).trans (c pre)⟩
     .exact .inr ⟨p,j,by omega,b,c,d,f,λpre=>(I pre).trans (g pre)⟩
theorem ap8{x:List bt}(I:x.length<=256)(A:∀j,(J:j+1< x.length)->x[j].1=5->ai x[j+1].1 1=ag)(t:Int){i:Nat}(hi:i< x.length):
  (∃e,e≠0/\zh x (i:Int) t=ab (([],af,()),0,e,())/\∀pre,qq t pre (x.drop i)=bg e)∨
  (∃(p:bP) (j:Nat),i< j/\j<=x.length/\p.1.length<=20000/\(∀h:j< x.length,ai x[j].1 1=ag)/\zh x (i:Int) t=ab (p,(j:Int),0,())/\∀pre,qq t pre (x.drop i)=qq t (pre++[p]) (x.drop j)):=by
 have e:zh x (i) t=cg (aF (mF x t) ((((i+1)),()),(([x[i].2.1],af,()),bz [x[i].2.1],((),af,()),()),())) Jb:=by
  unfold zh;rw[br hi,aO (by omega) (by omega)];rfl
 have U:∀pre,qq t pre (x.drop i)=ic t pre [x[i].2.1] af (x.drop (i+1)):=λpre=>by rw[eF hi];rfl
 rcases abW I A t (x.length-(i+1)) (i+1) [x[i].2.1] (by omega) (by simp) (by simp) (aeK _)with⟨Z,a,b,c⟩|⟨p,j,a,b,c,d,f,g⟩
 all_goals grind
theorem aon{x:List bt}(J:x.length<=256)(A:∀j,(l:j+1< x.length)->x[j].1=5->ai x[j+1].1 1=ag)(t:Int):∀(k i:Nat) (out:List bP),x.length-i<=k->i<=x.length->out.length<=i->fD out<=20000*i->
  aF (vR x t) ((out,(fD out:Int),(i:Int),()),(),())=ab (yV (qq t out (x.drop i))):=by
 intro k;induction k with
 |zero=>
  intro i out U hi h1 h2;refine bD ?_;unfold vR;dsimp only;rw[bb (by omega),ax,eM (by omega)]
  show _=ab (bg (bif ao 4096 (fD out:Int)then([],5,())else(out,0,())));cases ao 4096 (fD out:Int)<;>rfl
 |succ k ih=>
  intro i out U hi h1 h2;rcases km i x.length with I|I
  .rcases ap8 J A t I with⟨Z,a,b,c⟩|⟨p,j,a,b,c,d,f,g⟩
   .have e:vR x t ((out,(fD out:Int),(i:Int),()),(),())=ab (bg ([],Z,())):=by
     unfold vR;dsimp only;rw[aX (by omega),au,b,ah,bM a];rfl
    rw[bD e,c out];rfl
   .have h:fD (out++[p])=fD out+p.1.length:=by
     simp[RJ,fD]
    have e:vR x t ((out,(fD out:Int),(i:Int),()),(),())=ab (aU ((out++[p],(fD (out++[p]):Int),(j:Int),()),(),())):=by
     unfold vR;dsimp only;rw[aX (by omega),au,f,ah]
     dsimp only;rw[dF rfl,bZ,ax,cE (gb (by simp;omega) (by simp;omega)),aO (by omega) (by omega),h];rfl
    rw[cD e,g out];grind
  grind
theorem aoo(x:List bt)(t:Int):I6 x t=ab (jg x t):=by
 unfold I6 jg;rw[Jw,QX];show(bif !pB x then _ else _)=_;cases hp:pB x with
 |false=>rfl
 |true=>
  cases mN t with
  |false=>rfl
  |true=>
   exact aon (sO hp) (ans hp) t x.length 0 [] (by omega) (bX _) (by simp) (by trivial)
def jC:List bP->List (List al)
 |[]=>[]
 |p::l=>bif aj 3 (p.1.length:Int)then p.1::jC l else jC l
theorem MP{x:List bP}(I:x.length<=100000)(hp:∀p∈x,p.1.length<=1000000):∀(k i:Nat) (A:List (List al)),i+k=x.length->A.length<=i->aF (CT x) ((A,(i:Int),()),(),())=ab (A++jC (x.drop i))
 |0,i,A,J,U=>by
  refine bD ?_;unfold CT;dsimp only;rw[bb (by omega),eM (by omega)]
  show _=ab (bg (A++[]));rw[jv];rfl
 |k+1,i,A,J,U=>by
  have hi:i< x.length:=by omega
  have Z:=hp _ (fh hi);rw[eF hi];show _=ab (A++(bif aj 3 (x[i].1.length)then x[i].1::jC (x.drop (i+1))else jC (x.drop (i+1))));have e:CT x ((A,(i),()),(),())=ab (aU ((bif aj 3 (x[i].1.length)then A++[x[i].1]else A,((i+1:Nat):Int),()),(),())):=by
   unfold CT;dsimp only;rw[aX (by omega),br hi,cE (gb (by omega) (by omega)),cE (gb (by simp;omega) (by simp;omega)),aO (by omega) (by omega)]
   cases aj 3 (x[i].1.length)<;>rfl
  rw[cD e];cases aj 3 (x[i].1.length:Int)<;>first|rw[au,au,MP I hp k (i+1) _ (by omega) (by simp;omega),mc];rfl|exact MP I hp k (i+1) A (by omega) (by omega)
theorem ags{l:List al}(I:l.length<=1000000):QD l=ab l:=by
 have key:∀k i,i+k=l.length->aF (Dm l) ((l.take i,(i),()),(),())=ab l:=by
  intro k;induction k with
  |zero=>
   intro i A;refine bD ?_;unfold Dm;dsimp only;rw[bb (by omega),EG (by omega)];rfl
  |succ k ih=>
   intro i A;have hi:i< l.length:=by omega
   have e:Dm l ((l.take i,(i),()),(),())=ab (aU ((l.take (i+1),((i+1):Int),()),(),())):=by
    unfold Dm;dsimp only;rw[aX (by omega),br hi,cE (gb (by simp;omega) (by simp;omega)),aO (by omega) (by omega),EH hi];rfl
   rw[cD e];grind
 exact key l.length 0 (by omega)
theorem QV{x:List bP}(J:x.length<=100000)(hp:∀p∈x,p.1.length<=1000000):∀(k i:Nat) (A:List (List al)),i+k=x.length->A.length<=i->aF (Dn x) ((A,(i:Int),()),(),())=ab (A++jC (x.drop i))
 |0,i,A,U,Z=>by
  refine bD ?_;unfold Dn;dsimp only;rw[bb (by omega),eM (by omega)]
  show _=ab (bg (A++[]));rw[jv];rfl
 |k+1,i,A,U,Z=>by
  have hi:i< x.length:=by omega
  have I:=hp _ (fh hi);rw[eF hi];show _=ab (A++(bif aj 3 (x[i].1.length)then x[i].1::jC (x.drop (i+1))else jC (x.drop (i+1))));have e:Dn x ((A,(i),()),(),())=ab (aU ((bif aj 3 (x[i].1.length)then A++[x[i].1]else A,((i+1:Nat):Int),()),(),())):=by
   unfold Dn;dsimp only;rw[aX (by omega),br hi,br hi,ags I,ah,cE (gb (by simp;omega) (by simp;omega)),aO (by omega) (by omega)]
   cases aj 3 (x[i].1.length)<;>rfl
  rw[cD e];cases aj 3 (x[i].1.length:Int)<;>first|rw[au,au,QV J hp k (i+1) _ (by omega) (by simp;omega),mc];rfl|exact QV J hp k (i+1) A (by omega) (by omega)
theorem F5{t:Int}:∀(l:List bt) (pre:List bP) (aE:List al) (cl:Bool) (q:List bP),(∀p∈pre,p.1.length<=100000)->aE.length+64*l.length<=30000->ic t pre aE cl l=aU q->q.length<=pre.length+l.length+1/\∀p∈q,p.1.length<=100000
 |[],pre,aE,cl,q,h1,h2,e=>by
  cases e;grind
 |s::l,pre,aE,cl,q,h1,h2,e=>by
  rw[jP]at h2;have e:(bif ai s.1 1 then ic t (pre++[(aE,cl,())]) [s.2.1] af l
   else bif !ai s.1 5 then(bif !ai (dS (bz aE) s t).2.1 0 then bg (dS (bz aE) s t).2.1 else ic t pre (gg aE (dS (bz aE) s t).1) cl l)
   else ic t pre (lY aE) ag l)=aU q:=e
  cases hm:ai s.1 1 with
  |true=>
   rw[hm]at e;have:=F5 l _ _ _ q (λp hp=>by
    grind) (by simp;omega) e
   grind
  |false=>
   rw[hm]at e;cases I:ai s.1 5 with
   |true=>
    rw[I,bZ]at e;have J:=RM aE;have:=F5 l _ _ _ q h1 (by omega) e
    grind
   |false=>
    rw[I,eS]at e;cases A:ai (dS (bz aE) s t).2.1 0 with
    |false=>grind
    |true=>
     rw[A,bZ]at e;rw[dY,decide_eq_true_eq]at A;have n:=Ra A;have J:=AE (dS (bz aE) s t).1 aE;have:=F5 l _ _ _ q h1 (by omega) e
     grind
theorem MJ(x:List bt)(t:Int):(jg x t).1.length<=100000/\∀p∈(jg x t).1,p.1.length<=1000000:=by
 unfold jg;cases hp:pB x with
 |false=>simp
 |true=>
  cases mN t with
  |false=>simp
  |true=>
   have I:=sO hp;have key:∀q,qq t [] x=aU q->q.length<=100000/\∀p∈q,p.1.length<=1000000:=λq A=>by
    cases x with
    |nil=>cases A;trivial
    |cons s l=>
     rw[jP]at I;have:=F5 l [] [s.2.1] af q (λp h=>by cases h) (by simp;omega) A
     grind
   unfold yV;grind
def n6(x:List bt)(T:Af)(t:Int):List (List al)×Int×Unit:=
 bif !ai (gw x T).2.1 0 then([],(gw x T).2.1,())else bif !ai (jg (gw x T).1 t).2.1 0 then([],(jg (gw x T).1 t).2.1,())else(jC (jg (gw x T).1 t).1,0,())
theorem ahu(x:List bt){y:bE}(A:cQ wide y)(t:Int):H9 x y t=ab (n6 x (av y) t):=by
 unfold H9 n6;rw[aqi x A,ah];cases ai (gw x (av y)).2.1 0 with
 |false=>rfl
 |true=>
  obtain⟨k1,k2⟩:=MJ (gw x (av y)).1 t;rw[bZ,ahA,ah];have:=MP k1 k2 _ 0 [] (cV _) (bX _);rw[show PY (jg (gw x (av y)).1 t).1=ab (jC (jg (gw x (av y)).1 t).1)from this];cases h:ai (jg (gw x (av y)).1 t).2.1 0 with
  |false=>rfl
  |true=>
   simp_all[dY,decide_eq_true_eq,bZ,ax,h]
theorem aol(x:List bt){y:bE}(A:cQ wide y)(t:Int):Jg x y t=ab (n6 x (av y) t):=by
 unfold Jg n6;rw[aoO x A,ah];cases ai (gw x (av y)).2.1 0 with
 |false=>rfl
 |true=>
  obtain⟨k1,k2⟩:=MJ (gw x (av y)).1 t;rw[bZ,ax,ax,aoo,ah];cases h:ai (jg (gw x (av y)).1 t).2.1 0<;>first|have:=QV k1 k2 _ 0 [] (cV _) (bX _);rw[bZ,ax,ax,show QE (jg (gw x (av y)).1 t).1=ab (jC (jg (gw x (av y)).1 t).1)from this,ah]|rfl
end
section
def ly(x:List (List al)):Prop:=x.length<=100000/\∀r∈x,r.length<=1000000
def pz:Nat->List (List al)->Bool
 |_,[]=>ag
 |n,r::l=>bif ao 4096 ((n:Int)+r.length)then af else bif r.all cj then pz (n+r.length) l else af
theorem aah(n:Nat)(r:List al)(l:List (List al)):pz n (r::l)=bif ao 4096 ((n:Int)+r.length)then af else bif r.all cj then pz (n+r.length) l else af:=rfl
theorem anS{r:List al}(I:r.length<=1000000):aF (yY r) ((0,()),(),())=ab (!r.all cj):=by
 have key:∀k i,i+k=r.length->aF (yY r) (((i),()),(),())=ab (!(r.drop i).all cj):=by
  intro k;induction k with
  |zero=>
   intro i A;refine bD ?_;unfold yY;dsimp only;rw[bb (by omega),eM (by omega)];rfl
  |succ k ih=>
   intro i A;have hi:i< r.length:=by omega
   have e:yY r (((i),()),(),())=bif cj r[i]then ab (aU ((((i+1):Int),()),(),()))else ab (bg ag):=by
    unfold yY P0;dsimp only;rw[aX (by omega),br hi,pR,aO (by omega) (by omega)]
    cases cj r[i]<;>rfl
   rw[eF hi,wY];cases h:cj r[i]with
   |true=>rw[h]at e;rw[cD e];grind
   |false=>simp[h,ax,bD,e]
 exact key r.length 0 (by omega)
theorem aai{x:List (List al)}(h:ly x):∀(k i n:Nat),i+k=x.length->n<=4096->aF (CU x) (((n:Int),(i:Int),()),(),())=ab (pz n (x.drop i))
 |0,i,n,A,I=>by
  refine bD ?_;unfold CU;dsimp only;rw[bb (by omega),eM (by omega)];rfl
 |k+1,i,n,A,I=>by
  have hi:i< x.length:=by omega
  have J:=h.2 _ (fh hi);have U:=h.1;have e:CU x (((n),(i),()),(),())=bif ao 4096 ((n)+x[i].length)then ab (bg af)else bif x[i].all cj then ab (aU (((((n+x[i].length)):Int),((i+1):Int),()),(),()))else ab (bg af):=by
   unfold CU;dsimp only;rw[aX (by omega),br hi,anS J,aO (n:=(n)+x[i].length) (by omega) (by omega),aO (n:=(i)+1) (by omega) (by omega)]
   cases ao 4096 ((n)+x[i].length)<;>cases x[i].all cj<;>rfl
  rw[eF hi,aah];cases h1:ao 4096 ((n)+x[i].length)with
  |true=>simp[h1,au,bD,e]
  |false=>
   rw[h1]at e;rw[kz,decide_eq_false_iff_not]at h1;cases h2:x[i].all cj with
   |true=>rw[h2]at e;rw[cD e];exact aai h k (i+1) _ (by omega) (by omega)
   |false=>simp[h2,ax,bD,e]
theorem anR{x:List (List al)}(h:ly x):PZ x=ab (pz 0 x):=aai h x.length 0 0 (by omega) (by omega)
theorem aoB{x:List (List al)}{m n:Nat}(hm:m< x.length)(A:x.length<=100000)(I:x[m].length<=1000000)(J:n<=4096):aF (Jd x (((n:Int),(m:Int),()),(),()) x[m]) ((0,()),(),())=ab (bif x[m].all cj then aU (((((n+x[m].length:Nat)):Int),((m+1:Nat):Int),()),(),())else bg af):=by
 refine mn x[m] cj (bg af) (aU (((((n+x[m].length)):Int),((m+1):Int),()),(),())) (λi hi=>?_) ?_
 .unfold Jd;dsimp only;rw[br hm,aX (by omega),br hm,br hi,rb,aO (n:=(i)+1) (by omega) (by omega)]
  cases cj x[m][i]<;>rfl
 .unfold Jd;dsimp only;rw[br hm,bb (by omega),aO (n:=(m)+1) (by omega) (by omega),aO (n:=(n)+_) (by omega) (by omega)];rfl
theorem aaN{x:List (List al)}(h:ly x):∀(k i n:Nat),i+k=x.length->n<=4096->aF (Dp x) (((n:Int),(i:Int),()),(),())=ab (pz n (x.drop i))
 |0,i,n,I,A=>by
  refine bD ?_;unfold Dp;dsimp only;rw[bb (by omega),eM (by omega)];rfl
 |k+1,i,n,I,A=>by
  have hi:i< x.length:=by omega
  have J:=h.2 _ (fh hi);have U:=h.1;have Z:ao (w (4096-(n))) (x[i].length)=ao 4096 ((n)+x[i].length):=by
   rw[aO (by omega) (by omega),kz,kz]
   grind
  have e:Dp x (((n),(i),()),(),())=bif ao 4096 ((n)+x[i].length)then ab (bg af)else ab (bif x[i].all cj then aU (((((n+x[i].length)):Int),((i+1):Int),()),(),())else bg af):=by
   unfold Dp;dsimp only;rw[aX (by omega),br hi,br hi,aoB hi U J A,Z];rfl
  rw[eF hi,aah];cases h1:ao 4096 ((n)+x[i].length)with
  |true=>simp[h1,au,bD,e]
  |false=>
   rw[h1]at e;rw[kz,decide_eq_false_iff_not]at h1;cases h2:x[i].all cj with
   |true=>rw[h2]at e;rw[cD e];exact aaN h k (i+1) _ (by omega) (by omega)
   |false=>simp[h2,ax,bD,e]
theorem aoA{x:List (List al)}(h:ly x):QG x=ab (pz 0 x):=aaN h x.length 0 0 (by omega) (by omega)
def H7(x y z:al):Int:=(q9 x y z).getD 0
theorem apK(x:Int):∃v,zc x=ab v:=by
 unfold zc;cases ao x 0 with
 |true=>simp
 |false=>cases ao 0 x<;>exact⟨_,rfl⟩
theorem aaM(x y z:al):q9 x y z=ab (H7 x y z):=by
 have:∃v,q9 x y z=ab v:=by
  unfold q9 IP;rw[QW,QW];obtain⟨v,A⟩:=apK (w (w ((zR y x).1*(zR z x).2.1)-w ((zR y x).2.1*(zR z x).1)));grind
 obtain⟨v,A⟩:=this;simp[H7,A]
theorem anh(x y z:al):zZ x y z=ab (H7 x y z):=by rw[ani,aaM]
def tz(a b p:al):Bool:=aj a.2.1 p.2.1&&ao p.2.1 b.2.1&&ao 0 (H7 a b p)
def oC(a b p:al):Int:=bif tz a b p then 1 else bif tz b a p then -1 else 0
theorem RI(a b p:al): -1<=oC a b p/\oC a b p<=1:=by
 grind[oC]
theorem aqr(a b p:al):Jc a b p=ab (oC a b p):=by
 unfold Jc;simp[aaM,ct,ah];show(bif tz a b p then ab (1)else bif tz b a p then ab (-1)else ab 0)=_;grind[oC]
def kM(r:List al)(i:Nat):al:=(r[(i+1)%r.length]?).getD z2
theorem ams{r:List al}{i:Nat}(hi:i< r.length):(i+1)%r.length< r.length:=nT _ (by omega)
theorem Zr{β:Type}{r:List al}{i:Nat}(hi:i< r.length)(A:r.length<=1000000){f:al->Option β}:jV (r.length:Int) (aL r ((w ((i:Int)+1)).tmod (r.length:Int)) f)=f (kM r i):=by
 unfold jV;rw[bM (by omega),aO (by omega) (by omega),show((i)+1)=((i+1:Nat):Int) by omega,<-Int.ofNat_tmod,br (ams hi)]
 unfold kM;grind
def wR(p:al)(r:List al):Nat->Nat->Int
 |0,_=>0
 |k+1,i=>oC ((r[i]?).getD z2) (kM r i) p+wR p r k (i+1)
theorem Kf(p:al)(r:List al):∀(k i:Nat),-(k:Int)<=wR p r k i/\wR p r k i<=k
 |0,i=>by simp[wR]
 |k+1,i=>by
  have a:=RI ((r[i]?).getD z2) (kM r i) p;have b:=Kf p r k (i+1);grind[wR]
def wP(p:al):List (List al)->Int
 |[]=>0
 |r::l=>wR p r r.length 0+wP p l
theorem acd(p:al):∀(l:List (List al)),(∀r∈l,r.length<=1000000)-> -(1000000*l.length:Int)<=wP p l/\wP p l<=1000000*l.length
 |[],_=>by simp[wP]
 |r::l,h=>by
  have a:=Kf p r r.length 0;have b:=acd p l (λs A=>h s (gB _ A))
  grind[wP,jP]
theorem ach{A:(Int×Unit)×(al×Int×Unit)×Unit}{r:List al}(I:r.length<=1000000)(p:al):∀(k i:Nat) (n:Int),i+k=r.length-> -1000000000000-(i:Int)<=n/\n<=1000000000000+(i:Int)->
  aF (CW A r) (((i:Int),()),(p,n,()),())=ab (aU ((w (A.1.1+1),()),(p,n+wR p r k i,()),()))
 |0,i,n,J,U=>by
  refine bD ?_;unfold CW;dsimp only;rw[bb (by omega)]
  show _=ab (bg (aU ((w (A.1.1+1),()),(p,n+0,()),())));rw[iK];rfl
 |k+1,i,n,J,U=>by
  have hi:i< r.length:=by omega
  have Z:=RI r[i] (kM r i) p;have e:CW A r (((i),()),(p,n,()),())=ab (aU ((((i+1:Nat):Int),()),(p,n+oC r[i] (kM r i) p,()),())):=by
   unfold CW;dsimp only;rw[aX (by omega),br hi,Zr hi I]
   simp[anh,ct,ah];rw[aO (n:=(i)+1) (by omega) (by omega),aO (n:=n+1) (by omega) (by omega),aO (n:=n-1) (by omega) (by omega)]
   show(bif tz r[i] (kM r i) p then _ else bif tz (kM r i) r[i] p then _ else _)=_;unfold oC;cases tz r[i] (kM r i) p with
   |true=>rfl
   |false=>
    cases tz (kM r i) r[i] p<;>first|show _=ab (aU ((_,()),(p,n+0,()),()));rw[iK];rfl|rfl
  rw[cD e,ach I p k (i+1) _ (by omega) (by omega)]
  show _=ab (aU ((w (A.1.1+1),()),(p,n+(oC ((r[i]?).getD z2) (kM r i) p+wR p r k (i+1)),()),()));grind
theorem acg{x:List (List al)}(h:ly x)(p:al):∀(k i:Nat) (n:Int),i+k=x.length-> -(1000000*(i:Int))<=n/\n<=1000000*(i:Int)->
  aF (CX x) (((i:Int),()),(p,n,()),())=ab (n+wP p (x.drop i))
 |0,i,n,A,I=>by
  refine bD ?_;unfold CX;dsimp only;rw[bb (by omega),eM (by omega)]
  show _=ab (bg (n+0));rw[iK];rfl
 |k+1,i,n,A,I=>by
  have hi:i< x.length:=by omega
  have J:=h.2 _ (fh hi);have U:=h.1;have hw:=Kf p x[i] x[i].length 0;have e:CX x (((i),()),(p,n,()),())=ab (aU ((((i+1:Nat):Int),()),(p,n+wR p x[i] x[i].length 0,()),())):=by
   unfold CX;dsimp only;rw[aX (by omega),br hi]
   refine(ach J p x[i].length 0 n (by omega) (by omega)).trans ?_
   dsimp only;rw[aO (by omega) (by omega)];rfl
  rw[cD e,acg h p k (i+1) _ (by omega) (by omega),eF hi]
  show _=ab (n+(wR p x[i] x[i].length 0+wP p (x.drop (i+1))));rw[adf]
theorem aaV{x:List (List al)}{p:al}{m:Nat}{I:Int}(hm:m< x.length)(U:x.length<=100000)(J:x[m].length<=1000000):∀(k i:Nat) (n:Int),i+k=x[m].length-> -1000000000000-(i:Int)<=n/\n<=1000000000000+(i:Int)->
  aF (Dq x p ((I,(m:Int),()),(),())) ((n,(i:Int),()),(),())=ab (aU ((n+wR p x[m] k i,((m+1:Nat):Int),()),(),()))
 |0,i,n,Z,a=>by
  refine bD ?_;unfold Dq;dsimp only;rw[br hm,bb (by omega),ax,aO (by omega) (by omega)]
  show _=ab (bg (aU ((n+0,((m+1):Int),()),(),())));rw[iK];rfl
 |k+1,i,n,Z,a=>by
  have hi:i< x[m].length:=by omega
  have b:=RI x[m][i] (kM x[m] i) p;have A:QF x[m] (i)=ab (kM x[m] i):=Zr hi J;have e:Dq x p ((I,(m),()),(),()) ((n,(i),()),(),())=ab (aU ((n+oC x[m][i] (kM x[m] i) p,((i+1:Nat):Int),()),(),())):=by
   unfold Dq;dsimp only;rw[br hm,aX (by omega),br hm,br hi,br hm,A,ah,aqr,ah,aO (by omega) (by omega),aO (by omega) (by omega)];rfl
  rw[cD e,aaV hm U J k (i+1) _ (by omega) (by omega)]
  show _=ab (aU ((n+(oC ((x[m][i]?).getD z2) (kM x[m] i) p+wR p x[m] k (i+1)),((m+1):Int),()),(),()));grind
theorem aaU{x:List (List al)}(h:ly x)(p:al):∀(k i:Nat) (n:Int),i+k=x.length-> -(1000000*(i:Int))<=n/\n<=1000000*(i:Int)->
  aF (Dr x p) ((n,(i:Int),()),(),())=ab (n+wP p (x.drop i))
 |0,i,n,A,I=>by
  refine bD ?_;unfold Dr;dsimp only;rw[bb (by omega),eM (by omega)]
  show _=ab (bg (n+0));rw[iK];rfl
 |k+1,i,n,A,I=>by
  have hi:i< x.length:=by omega
  have J:=h.2 _ (fh hi);have U:=h.1;have hw:=Kf p x[i] x[i].length 0;have e:Dr x p ((n,(i),()),(),())=ab (aU ((n+wR p x[i] x[i].length 0,((i+1:Nat):Int),()),(),())):=by
   unfold Dr;dsimp only;rw[aX (by omega)]
   exact aaV hi U J x[i].length 0 n (by omega) (by omega)
  rw[cD e,aaU h p k (i+1) _ (by omega) (by omega),eF hi]
  show _=ab (n+(wR p x[i] x[i].length 0+wP p (x.drop (i+1))));rw[adf]
def tD(x:List (List al))(p:al):Int:=bif !cj p||!pz 0 x then 0 else wP p x
theorem aqK{x:List (List al)}(h:ly x)(p:al):Ip x p=ab (tD x p):=by
 unfold Ip tD;rw[pR,ah,anR h,ah,cx];cases(!cj p||!pz 0 x)with
 |true=>rfl
 |false=>
  refine(acg h p x.length 0 0 (by omega) (by omega)).trans ?_
  simp
theorem aoP{x:List (List al)}(h:ly x)(p:al):Je x p=ab (tD x p):=by
 unfold Je tD;rw[rb,aoA h,ah,ah,cx,acE];cases(!cj p||!pz 0 x)with
 |true=>rfl
 |false=>
  refine(aaU h p x.length 0 0 (by omega) (by omega)).trans ?_
  simp
theorem aqJ{x:List (List al)}(h:ly x)(p:al): -100000000000<=tD x p/\tD x p<=100000000000:=by
 unfold tD;have:=acd p x h.2;have:=h.1;grind
theorem w_w{n:Int}(h: -1000000000000<=n/\n<=1000000000000):w ((umod n 18446744073709551616:Nat):Int)=n:=by
 rw[@umod_eq uk n _ (by decide)]
 show wr .i64 _=n;grind[tE,tM,tK,tL]
theorem rules:iE (iE ([]:List (Int×Int)) 1 (-1)) 2 1=[(1,-1),(2,1)]:=by
 rfl
theorem ahv{n:Int}(h: -1000000000000<=n/\n<=1000000000000)(y:Int):Io n y=zk n y:=by
 have A:jF [((1),(-1)),(2,1)] y 0=bif ai y 1 then -1 else bif ai y 2 then 1 else 0:=rfl;unfold Io zk;rw[rules,A];simp only[ct,cx,ah];by_cases h1:y=1
 .subst h1;rw[dF (x:=1) rfl,bM (x:=1) (y:=2) (by omega),au]
  have e:(word .i64 n).land (word .i64 (-1))=umod n 18446744073709551616:=by
   show Nat.land (umod n 18446744073709551616) (2^64-1)=_;have:=@umod_lt uk n 18446744073709551616 (by decide)
   refine(Nat.and_two_pow_sub_one_eq_mod _ 64).trans ?_;omega
  rw[e,w_w h,nQ,wF,wG]
 .rw [bM h1,ax,wF];by_cases h2:y=2
  .subst h2;rw[dF (x:=2) rfl,au];have e:(word .i64 n).land (word .i64 1)=umod n 18446744073709551616%2:=Nat.and_one_is_mod _;have I:=@umod_eq uk n 18446744073709551616 (by decide)
   rw[aO (by omega) (by omega)]
   congr 2;have J:n.tmod 2=0↔n%2=0:=Int.dvd_iff_tmod_eq_zero.symm.trans Int.dvd_iff_emod_eq_zero;by_cases h3:n.tmod 2=0
   .grind
   .rw [bM h3,bM (by omega)]
  .rw [bM h2,ax];have e:(word .i64 n).land (word .i64 0)=0:=Nat.and_zero _;rw[e];rfl
theorem aom(n y:Int):∃b,zk n y=ab b:=by
 unfold zk;simp only[ct,cx,ah];simp
theorem anz{x:List (List al)}(h:ly x)(y:Int)(z:al):∃b,CS x y z=ab b/\zj x y z=ab b:=by
 obtain⟨b,A⟩:=aom (tD x z) y;have hw:=aqJ h z;refine⟨b,?_,?_⟩
 .unfold CS;rw[aqK h,ah,ahv (by omega),A];rfl
 simp[zj,aoP,h,ah,A]
end
section
theorem VD:∀(l:List bP),(∀p∈l,p.1.length<=1000000)->(jC l).length<=l.length/\∀r∈jC l,r.length<=1000000
 |[],_=>⟨aJ _,λr h=>by cases h⟩
 |p::l,h=>by
  have ih:=VD l (λq A=>h q (gB _ A))
  show(bif aj 3 (p.1.length)then p.1::jC l else jC l).length<=_/\∀r∈(bif aj 3 (p.1.length)then p.1::jC l else jC l),_;grind
theorem ahp(x:List bt)(T:Af)(t:Int):ly (n6 x T t).1:=by
 have A:ly []:=⟨by simp,λr h=>by cases h⟩
 unfold n6;cases ai (gw x T).2.1 0 with
 |false=>exact A
 |true=>
  obtain⟨k1,k2⟩:=MJ (gw x T).1 t;cases ai (jg (gw x T).1 t).2.1 0<;>first|have:=VD _ k2;exact⟨bU this.1 k1,this.2⟩|exact A
theorem aho{x:List bt}{T:Af}{t:Int}(h:ai (n6 x T t).2.1 0=af):(n6 x T t).1=[]:=by
 unfold n6 at h|-;cases h1:ai (gw x T).2.1 0 with
 |false=>rfl
 |true=>
  rw[h1]at h;cases h2:ai (jg (gw x T).1 t).2.1 0 with
  |false=>rfl
  |true=>
   rw[h2]at h;trivial
theorem age{x:cR}(h:fJ x)(U:vS x=ag){i:Nat}(hi:i< x.2.2.2.1.length):∃v:List (List al)×Bool×Unit,BA x (i:Int)=ab v/\zp x (i:Int)=ab v/\ly v.1:=by
 have a:ly []:=⟨by simp,λr h=>by cases h⟩
 obtain⟨I,J⟩:=D8 U;obtain⟨L,b⟩:=Ue I J i hi;obtain⟨c,d⟩:=aqL h U b;unfold BA zp MT;rw[c,d,ah,ah];cases A:chain ie ((L.reverse.map (kg x.2.2.2.1)).map av)with
 |none=>
  have hw:wB x.2.2.2.1 L=(zA,5,()):=by unfold wB;rw[A];rfl
  rw[hw];dsimp only;rw[bM (x:=5) (y:=18) (by omega),bM (x:=5) (y:=8) (by omega),bM (x:=5) (y:=0) (by omega),cx,ah,ah,wG,ax,br hi,br hi,qV,ah,ah]
  dsimp only;cases ai (x.2.2.2.1[i].2.2.2.2.1.length:Int) 0 with
  |true=>grind
  |false=>exact⟨([],ag,()),rfl,rfl,a⟩
 |some t=>
  have hw:wB x.2.2.2.1 L=(na t,0,()):=by unfold wB;rw[A];rfl
  have Z:cQ wide (na t):=qQ (af8 t _ ie N1 A);rw[hw];dsimp only;rw[bM (x:=0) (y:=18) (by omega),bM (x:=0) (y:=8) (by omega),dF (x:=0) (y:=0) rfl,cx,ah,ah,wG,ax,br hi,br hi,qV,ah,ah]
  dsimp only;cases ai (x.2.2.2.1[i].2.2.2.2.1.length:Int) 0 with
  |true=>grind
  |false=>
   refine⟨((n6 x.2.2.2.1[i].2.2.2.2.1 (av (na t)) 32).1,ag,()),?_,?_,ahp _ _ _⟩
   .unfold MU;dsimp only;rw[ahu _ Z,bZ,ax,ax,ah];cases he:ai (n6 x.2.2.2.1[i].2.2.2.2.1 (av (na t)) 32).2.1 0 with
    |true=>rfl
    |false=>simp[aho,he]
   .rw [ax,bZ,ax,br hi,aol _ Z];rfl
def pc(x:cR)(z:al)(k:Nat):Bool:=match zp x (k:Int),x.2.2.2.1[k]? with
 |some v,ab n=>!(v.2.1&&!((zj v.1 n.2.2.2.2.2.1 z).getD af))
 |_,_=>ag
theorem WR{β:Type}{x:cR}(h:fJ x)(c:vS x=ag)(z:al){k:Nat}(I:k< x.2.2.2.1.length)(G:Bool->Option β):
  (((BA x (k:Int)).bind λA=>(aI A.2.1 (aL x.2.2.2.1 (k:Int) λJ=>(CS A.1 J.2.2.2.2.2.1 z).bind λU=>ab !U)).bind λZ=>G Z)=G (!pc x z k))/\
  (((zp x (k:Int)).bind λA=>(aI A.2.1 (aL x.2.2.2.1 (k:Int) λJ=>(zj A.1 J.2.2.2.2.2.1 z).bind λU=>ab !U)).bind λZ=>G Z)=G (!pc x z k)):=by
 obtain⟨v,d,e,f⟩:=age h c I;obtain⟨b,g,i⟩:=anz f x.2.2.2.1[k].2.2.2.2.2.1 z;have a:(!pc x z k)=(v.2.1&&!b):=by
  unfold pc;grind
 rw[a];constructor
 .rw [d,ah,br I,g,ah,ct,ah]
 .rw [e,ah,br I,i,ah,ct,ah]
theorem Oj{β:Type}{L:List Nat}{i:Nat}(h:i< L.length){f:Int->Option β}:aL (ints L) (i:Int) f=f (L[i]:Int):=by
 rw[br (by simp[qH,h])]
 simp[ints,KS]
theorem ago{x:cR}(h:fJ x)(y:Int)(z:al)(A:(iP x y&&vS x&&cj z)=af):qn x y z=ab af/\vW x y z=ab af:=by
 constructor
 .unfold qn;cases h1:(iP x y&&vS x)<;>first|rw[(ae0 h y h1).1,ah,dF (by simp),H8];rfl|rw[h1,nQ]at A;obtain⟨i,L,rfl,I,e,_⟩:=Fa h y h1;rw[e,ah,pR,ah,A,cx,ah,eS,wH];rfl
 .unfold vW Js;rw[zu h,rb];simp only[ah,cx,ct];rw[show(!vS x||!(aj 0 y&&ao y (x.2.2.2.1.length))||!cj z)=ag from by
   have A:(aj 0 y&&ao y (x.2.2.2.1.length)&&vS x&&cj z)=af:=A;grind]
  rfl
theorem Us{x:cR}(h:fJ x){i:Nat}{L:List Nat}(z:al)(I:vS x=ag)(a:cj z=ag)(J:jQ x.2.2.2.1 i L):
  qn x (i:Int) z=ab (L.all (pc x z))/\vW x (i:Int) z=ab (L.all (pc x z)):=by
 obtain⟨U,d⟩:=D8 I;have hi:=xC J;have b:(iP x (i:Int)&&vS x)=ag:=by simp[GS,hi,I]
 have g:=Fp U J;have c:=(xB J).2;obtain⟨e,f⟩:tm x (i:Int)=ab (ints L)/\pE x (i:Int)=ab (ints L):=by
  constructor
  .unfold tm;rw[Gs h,b,ah,bZ,ax,Tv J [] (by simp;omega),jv]
  .unfold pE;rw[Im h,b,ah,bZ,ax];exact QT J U L.length 0 (by omega)
 constructor
 .unfold qn;rw[e,ah,pR,ah,a,qH,bM (by omega),qV,ah,bZ,ax]
  refine(mn L (pc x z) af ag (λj A=>?_) ?_).trans (by simp)
  .unfold L4;dsimp only;rw[qH,aX (by omega),au,Oj A]
   refine((WR h I z (c _ (fh A)) _).1).trans ?_;rw[aO (by omega) (by omega)]
   cases pc x z L[j]<;>rfl
  .unfold L4;dsimp only;rw[qH,bb (by omega)];rfl
 .have Z:(aj 0 (i:Int)&&ao (i:Int) (x.2.2.2.1.length:Int))=ag:=GS hi;unfold vW Js;rw[zu h,rb,f,a,I];simp only[ah,cx,ct];rw[Z,bZ,wG,wG,ax];refine(mn L (pc x z) af ag (λj A=>?_) ?_).trans (by simp)
  .unfold QQ;dsimp only;rw[qH,aX (by omega),au,Oj A]
   simp only[Oj A];refine((WR h I z (c _ (fh A)) _).2).trans ?_;rw[aO (by omega) (by omega)]
   cases pc x z L[j]<;>rfl
  .unfold QQ;dsimp only;rw[qH,bb (by omega)];rfl
theorem aqx{x:cR}(h:fJ x)(y:Int)(z:al):∃(a:Bool) (p:Int),qn x y z=ab a/\vW x y z=ab a/\DG x y=ab p/\(bl (!a||ao p 0) (qn x p z))=ab ag:=by
 cases b:(iP x y&&vS x&&cj z)with
 |false=>
  obtain⟨U,Z⟩:=ago h y z b;cases A:(iP x y&&vS x)with
  |false=>exact⟨af,-1,U,Z,by simp[Jv,h,A],rfl⟩
  |true=>
   obtain⟨i,L,rfl,J,_⟩:=Fa h y A;have I:=A;rw[aM]at I;obtain⟨c,d⟩:=D8 I.2;obtain⟨r,f,_⟩:=ZV c d (xC J);exact⟨af,r,U,Z,by simp[Jv,h,A,f],rfl⟩
 |true=>
  rw[aM]at b;obtain⟨A,e⟩:=b;obtain⟨i,L,rfl,J,_⟩:=Fa h y A;have I:=A;rw[aM]at I;obtain⟨U,Z⟩:=Us h z I.2 e J;cases J with
  |top i hi g hp=>exact⟨_,-1,U,Z,by simp[Jv,h,A,hp],by rw[aX (by omega),wH];rfl⟩
  |sub i j L hi g hp J=>
   refine⟨_,(j),U,Z,by simp[Jv,h,A,hp],?_⟩
   rw[bb (by omega),(Us h z I.2 e J).1,cx]
   grind
def D0(x:bE):Bool:=[x.1,x.2.1,x.2.2.1,x.2.2.2.1,x.2.2.2.2.1,x.2.2.2.2.2.1].all λq=>!(ao 3 (q.1.2.1.length:Int)||ao 3 (q.2.1.2.1.length:Int))
theorem abA(x:bE):Ce x=ab (D0 x):=by
 unfold Ce D0;refine(mn [x.1,x.2.1,x.2.2.1,x.2.2.2.1,x.2.2.2.2.1,x.2.2.2.2.2.1] (λq=>!(ao 3 (q.1.2.1.length)||ao 3 (q.2.1.2.1.length))) af ag (λi hi=>?_) ?_).trans (by simp)
 .have A:i< 6:=hi;unfold Ya;dsimp only;rw[aX (by omega),B4 hi,B4 hi,cx,aO (by omega) (by omega)]
  cases(ao 3 (([x.1,x.2.1,x.2.2.1,x.2.2.2.1,x.2.2.2.2.1,x.2.2.2.2.2.1][i]).1.2.1.length)||ao 3 (([x.1,x.2.1,x.2.2.1,x.2.2.2.1,x.2.2.2.2.1,x.2.2.2.2.2.1][i]).2.1.2.1.length))<;>rfl
 rfl
def zN(p:fI):Bool:=!(!D0 p.2.2.2.2.2.2.2.2.2.1||ao 100 (p.2.2.2.2.2.2.2.1.2.2.1.length:Int)||ao 30 (p.2.2.2.2.2.1.length:Int))
theorem apU{A:(Int×Unit)×Unit×Unit}{l:List fI}(I:l.length<=big):aF (Hg A l) ((0,()),(),())=ab (bif l.all zN then aU ((w (A.1.1+1),()),(),())else bg (bg af)):=by
 refine mn l zN (bg (bg af)) (aU ((w (A.1.1+1),()),(),())) (λi hi=>?_) ?_
 .unfold Hg zN;dsimp only;rw[aX (by omega),br hi,abA,ah,br hi,cx,ah,br hi,cx,aO (by omega) (by unfold big at I;omega)]
  cases(!D0 l[i].2.2.2.2.2.2.2.2.2.1||ao 100 (l[i].2.2.2.2.2.2.2.1.2.2.1.length)||ao 30 (l[i].2.2.2.2.2.1.length))<;>rfl
 .unfold Hg;dsimp only;rw[bb (by omega)];rfl
theorem abL{x:cR}(h:fJ x)(A:x.2.2.2.1.length<=big):∀(k i:Nat) (n:Int),i+k=x.2.2.2.1.length->∃b,aF (u9 x) ((n,(i:Int),()),(),())=ab b
 |0,i,n,a=>by
  have e:u9 x ((n,(i:Int),()),(),())=aH (aj (x.2.2.2.1.length:Int) 8&&aj n 24):=by
   unfold u9;dsimp only;rw[bb (by omega),ax,ct];rfl
  exact⟨_,bD e⟩
 |k+1,i,n,a=>by
  have hi:i< x.2.2.2.1.length:=by omega
  have U:=h _ (fh hi);have key:u9 x ((n,(i:Int),()),(),())=ab (bg af)∨∃I,u9 x ((n,(i:Int),()),(),())=ab (aU ((I,((i+1:Nat):Int),()),(),())):=by
   unfold u9;dsimp only;rw[aX (by omega),au,br hi,abA,ah,cx,ah,cx,ah,cx,ah,cx,ah,cx,ah]
   generalize(!D0 x.2.2.2.1[i].2.2.2.1||_||_||_||_||_)=c
   cases c with
   |true=>exact .inl rfl
   |false=>
    rw[ax];have d:aF (Hh ((n,(i:Int),()),(),()) x.2.2.2.1[i]) ((0,()),(),())=ab (bif[x.2.2.2.1[i].2.2.2.2.2.2.2.2.2.2.2.2.1,x.2.2.2.1[i].2.2.2.2.2.2.2.2.2.2.2.2.2.2.1].all (λl=>l.all zN)then aU ((w (n+bif aj (x.2.2.2.1[i].2.2.2.2.1.length:Int) 100 then(x.2.2.2.1[i].2.2.2.2.1.length:Int)else 100),((i+1:Nat):Int),()),(),())else bg af):=by
     refine mn _ (λl:List fI=>l.all zN) (bg af) (aU _) (λj Z=>?_) ?_
     .have f:j< 2:=Z;unfold Hh;dsimp only;rw[aX (by omega),au,B4 Z]
      have J:([x.2.2.2.1[i].2.2.2.2.2.2.2.2.2.2.2.2.1,x.2.2.2.1[i].2.2.2.2.2.2.2.2.2.2.2.2.2.2.1][j]).length<=big:=by
       rcases j with _|_|j
       .exact U.fl
       .exact U.sl
       .omega
      rw[apU J];dsimp only;rw[aO (by omega) (by omega)]
      cases List.all _ zN<;>rfl
     .unfold Hh;dsimp only;rw[bb (by omega),ax,aO (n:=(i:Int)+1) (by unfold big at A;omega) (by unfold big at A;omega)];rfl
    grind
  rcases key with e|⟨I,e⟩
  .exact ⟨_,bD e⟩
  .rw [cD e];exact abL h A k (i+1) I (by omega)
theorem apW{x:cR}(h:fJ x)(A:x.2.2.2.1.length<=big):∃b,ON x=ab b:=abL h A x.2.2.2.1.length 0 0 (by omega)
end
section
theorem alW{x:cR}(h:fJ x)(A:x.2.2.2.1.length<=big) y z:OM x y z=ab ag:=by
 obtain⟨b,I⟩:=apW h A;obtain⟨a,p,J,U,Z,c⟩:=aqx h y z;unfold OM FV;rw[I,ah];cases b<;>first|rw[bZ,ax,J,ah,U,ah,show cS Ty.bool a a=ag from by cases a<;>rfl,bZ,Z,ah,cx,ah,TN,c];rfl|rfl
end
section
variable [Gh]
def few:=1048576
theorem ahn:few<=wide:=by trivial
theorem uD:few<=big:=by trivial
theorem acq{x:DZ}(h:Ty.Ok tZ x)(k:Ty.Sm few tZ x):cJ wide x:=by
 obtain⟨_,⟨_,h⟩,_⟩:=h;obtain⟨_,⟨k,_⟩,_⟩:=k;exact⟨λd A=>by
  have:=h d A;obtain⟨a,b⟩:acZ.min<=d/\d<=acZ.max:=this;have a:0<=d:=a;have b:d<=4294967295:=b;omega,bU k ahn⟩
theorem y7{x:DQ}(h:Ty.Ok tQ x)(k:Ty.Sm few tQ x):cr wide x:=by
 obtain⟨h1,h2,_⟩:=h;obtain⟨k1,k2,_⟩:=k;exact⟨acq h1 k1,acq h2 k2⟩
theorem Td{x:bE}(h:Ty.Ok cI x)(k:Ty.Sm few cI x):cQ wide x:=by
 obtain⟨h1,h2,h3,A,I,J,_⟩:=h;obtain⟨k1,k2,U,Z,a,b,_⟩:=k;exact⟨y7 h1 k1,y7 h2 k2,y7 h3 U,y7 A Z,y7 I a,y7 J b⟩
theorem ZR{x:fI}(h:Ty.Ok jK x)(k:Ty.Sm few jK x):rL x:=by
 obtain⟨_,_,_,_,_,_,_,_,_,h,_⟩:=h;obtain⟨_,_,_,_,_,⟨k1,_⟩,_,⟨_,_,⟨k2,_⟩,_⟩,_,k,_⟩:=k;exact⟨Td h k,bU k1 uD,bU k2 uD⟩
theorem amx{x:bV}(h:Ty.Ok iv x)(k:Ty.Sm few iv x):rK x:=by
 obtain⟨_,_,_,d,_,_,_,_,_,_,_,_,⟨_,J⟩,e,⟨_,U⟩,f,_,_⟩:=h;obtain⟨_,_,_,g,_,_,_,_,_,_,_,_,⟨Z,A⟩,⟨_,_,_,_,⟨a,_⟩,_,_⟩,⟨b,I⟩,⟨_,_,⟨c,_⟩,_⟩,_,_⟩:=k;exact⟨Td d g,λp hp=>ZR (J p hp) (A p hp),λp hp=>ZR (U p hp) (I p hp),bU Z uD,bU b uD,bU a uD,bU c uD⟩
theorem abp{x:cR}(h:Ty.Ok fp x)(k:Ty.Sm few fp x):fJ x/\x.2.2.2.1.length<=big:=by
 obtain⟨_,_,_,⟨_,h⟩,_⟩:=h;obtain⟨_,_,_,⟨k1,k⟩,_⟩:=k;exact⟨λn A=>amx (h n A) (k n A),bU k1 uD⟩
end
end Go.Proofs.YtceibfdaacdjlaaGreatDoor
end
