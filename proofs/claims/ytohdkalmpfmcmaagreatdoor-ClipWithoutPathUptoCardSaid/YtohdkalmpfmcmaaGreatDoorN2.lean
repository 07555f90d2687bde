/- A part of the proof. -/
import Derived.Test.YtohdkalmpfmcmaaGreatDoorN1
set_option linter.all false
open Bool renaming and_assoc->yg,and_comm->ag0,and_eq_true->aM,and_true->tg,false->af,false_and->n5,false_or->Bz,noConfusion->ag1,not_false->fO,not_not->UO,not_true->cg,or_false->vf,or_true->F4,true->ag,true_and->lG,true_or->vg
open Classical renaming choose_spec->ag3
open Go.IntKind renaming u32->ahj
open Int renaming add_mul_ediv_right->ahu,ediv_eq_zero_of_lt->ahw,fdiv_eq_ediv_of_nonneg->qc,gcd_comm->ahx,le_of_lt->ij,le_refl->cr,lt_of_le_of_lt->ahy,lt_of_lt_of_le->ahz,lt_trichotomy->Vh,mul_fdiv_add_fmod->ahB,mul_le_mul->qe,mul_le_mul_of_nonneg_left->qf,mul_lt_mul_of_pos_right->ahC,mul_ne_zero->vo,mul_neg->ahD,natAbs_ediv_le_natAbs->ahE,natAbs_natCast->yw,natAbs_neg->tk,natCast_ediv->Ga,neg_ediv_of_dvd->ahG,neg_mul->ahH,neg_mul_neg->ahI,one_mul->n8,pow_add->BK,sign_eq_neg_one_of_neg->BL,sign_eq_one_of_pos->BM,sign_eq_zero_iff_zero->ahK,sub_eq_add_neg->Gb,sub_mul->qg,zero_add->ahM,zero_mul->ik
open List renaming all_append->ahO,all_cons->vp,all_eq_false->ahP,any_cons->ahQ,append_assoc->mj,append_nil->np,drop_eq_getElem_cons->il,drop_of_length_le->g8,drop_zero->qh,getD_eq_getElem?_getD->nr,getElem?_eq_getElem->gD,getElem_map->Vo,getElem_mem->gR,length_cons->fH,length_map->gg,length_take->gi,map_append->ml,mem_append->cD,mem_cons->du,mem_cons_of_mem->ff,mem_cons_self->eh,mem_map->kl,take_of_length_le->rG,take_succ->MJ,take_succ_eq_append_getElem->Vv
open Nat renaming add_comm->Gk,add_sub_cancel->Gl,div_le_self->Gn,eq_zero_or_pos->yE,gcd->g9,gcd_pos_of_pos_right->ah7,le_refl->aL,le_trans->b8,lt_or_ge->jH,mod_lt->qj,pow_le_pow_right->tr,sub_le->MP,zero_add->db,zero_le->bH
open Option renaming bind_some->ah,some->ab
open Rat renaming den_divInt->VD,divInt->kW,divInt_mul_divInt->VE,num_divInt->VF,num_divInt_den->pd
open Sum renaming inl->bb,inr->cF
noncomputable section
namespace Go.Proofs.YtohdkalmpfmcmaaGreatDoor
open Go.As Go.Nt Go.Cc
def zv(x:DZ):Int:=bif x.1 then -(vN x.2.1:Int)else(vN x.2.1:Int)
def nz(n:Int):DZ:=(decide (n< 0),nd n.natAbs,())
def aP:Nat:=1099511627770
def cM(k:Nat)(x:DZ):Prop:=Dg x.2.1/\x.2.1.length<=k
theorem bL(n:Int):zv (nz n)=n:=by
 unfold zv nz;rw[gf];grind
theorem td(x:DZ):(zv x).natAbs=vN x.2.1:=by
 unfold zv;grind
theorem cM.mono{k m:Nat}{x:DZ}(h:cM k x)(hm:k<=m):cM m x:=⟨h.1,b8 h.2 hm⟩
theorem dA{n:Int}{k:Nat}(h:(n.natAbs:Int)< 4294967296^k):cM k (nz n):=⟨eG _,iN h⟩
theorem cM.lt{k:Nat}{x:DZ}(h:cM k x):((zv x).natAbs:Int)< 4294967296^k:=by
 rw[td];have h1:=(dS h.1 k).2;rwa[da _ _ h.2,<-dy h.1]at h1
theorem ud(a b:Bool):cJ Ty.bool a b=(a==b):=by rfl
theorem acm(b:Bool)(n:Nat):((aG b (ab (ak 0 ((nd n).length:Int)))).bind λA=>ab ((A,nd n,()):DZ))=ab (nz (bif b then -(n:Int)else(n:Int))):=by
 rw[cO,ah];unfold nz;cases b<;>try trivial
 rw[ao,lG,tk,yw];by_cases h:n=0
 .subst h;rfl
 have:0<(nd n).length:=by
  rcases yE (nd n).length with h1|h1
  .exact absurd (uG h1) h
  omega
 rw[bh,decide_eq_true (by omega)]
theorem UL{b:Bool}{l:List Int}(h:Dg l)(A:l.length<=aP):kH b l=ab (nz (bif b then -(vN l:Int)else(vN l:Int))):=by
 unfold kH aP at*;rw[JZ (by omega) h,ah,acm]
theorem Fm{b:Bool}{l:List Int}(h:Dg l)(A:l.length<=aP):mZ b l=ab (nz (bif b then -(vN l:Int)else(vN l:Int))):=by
 unfold mZ aP at*;rw[mY (by omega) h,ah,acm]
theorem o8{b:Bool}{n:Nat}(A:(nd n).length<=aP):kH b (nd n)=ab (nz (bif b then -(n:Int)else(n:Int))):=by
 rw[UL (eG n) A,gf]
theorem qY{b:Bool}{n:Nat}(A:(nd n).length<=aP):mZ b (nd n)=ab (nz (bif b then -(n:Int)else(n:Int))):=by
 rw[Fm (eG n) A,gf]
theorem ajP{n:Nat}:dN n=0↔n=0:=⟨λh=>by
 rcases yE n with A|A
 .omega
 have:=Cv (n:=n);omega,λh=>by subst h;rfl⟩
theorem Mj{x:DZ}(h:cM aP x):wN x=ab (zv x).sign:=by
 have I:=h.2;unfold wN;unfold aP at I;rw[WA h.1,ah];unfold zv;by_cases A:vN x.2.1=0
 .rw [cT (by simp[ajP,A]),A]
  simp
 have:=Cv A;rw[bK];grind
theorem asz(n:Int):(nz n).2.1.length=0↔n=0:=⟨λh=>by have:=uG (n:=n.natAbs) h;omega,λh=>by subst h;rfl⟩
theorem avp(n:Int):(bif aj ((nz n).2.1.length:Int) 0 then ab (0:Int)else bif(nz n).1 then ab (-1)else ab 1)=ab n.sign:=by
 by_cases A:n=0
 .subst A;rfl
 have:(nz n).2.1.length≠0:=λh=>A ((asz n).1 h)
 rw[bK];show(bif decide (n< 0)then _ else _)=_;grind
theorem Fo{x:DZ}(h:cM aP x):uS x=ab (zv x).sign:=by
 unfold uS;rw[Fm h.1 h.2];exact avp _
theorem agM{x:DZ}(h:cM aP x):DK x=ab (dN (zv x).natAbs:Int):=by
 have A:=h.2;unfold DK;unfold aP at A;rw[WA h.1,ah,td]
theorem aez{x:DZ}(h:cM aP x):EW x=ab (dN (zv x).natAbs:Int):=by
 have A:=h.2;unfold EW;unfold aP at A;rw[aek h.1,ah,td]
theorem awO{x:DZ}(h:cM aP x):IK x=ab (nz (-zv x)):=by
 unfold IK;rw[UL h.1 h.2];unfold zv;grind
theorem La{x:DZ}(h:cM aP x):xy x=ab (nz (-zv x)):=by
 unfold xy;rw[Fm h.1 h.2];unfold zv;grind
def half:Nat:=549755813880
theorem kS{l:List Int}{k:Nat}(h:Dg l)(A:l.length<=k):(vN l:Int)< 4294967296^k:=by
 have h1:=(dS h k).2;simp_all[da,A,dy,h]
theorem acd{a b:List Int}(A:Dg a)(I:Dg b){k:Nat}(J:a.length<=k)(U:b.length<=k):(nd (vN a+vN b)).length<=k+1:=iN (by
 have h1:=kS A J;have h2:=kS I U;omega)
theorem acb{a b:List Int}(A:Dg a)(I:Dg b){k m:Nat}(J:a.length<=k)(U:b.length<=m):(nd (vN a*vN b)).length<=k+m:=iN (by
 rw[BK];exact ahy (qf (ij (kS I U)) (by omega)) (ahC (kS A J) (jv m)))
theorem Mh{x y:DZ}(A:cM half x)(I:cM half y):wL x y=ab (nz (zv x+zv y)):=by
 have J:=A.2;have U:=I.2;unfold half at J U;unfold wL;rw[ud];have k1:=acd A.1 I.1 J U;have k2:=mQ (MP (vN x.2.1) (vN y.2.1));have b:=mQ (MP (vN y.2.1) (vN x.2.1));have c:=iN (kS A.1 J);have d:=iN (kS I.1 U);unfold zv;cases Z:x.1<;>cases a:y.1
 .rw [show(af==af)=ag from rfl,ao,Nb A.1 I.1,ah,o8 (by grind[aP])]
  rfl
 .rw [show(af==ag)=af from rfl,au,LP A.1 I.1,ah,au,ao];by_cases h:vN x.2.1< vN y.2.1
  .rw [aK h,au,LP I.1 A.1,ah,ax (by omega),o8 (by grind[aP]),ah,ao]
   congr 2;omega
  rw[ax h,ao,o8 (by grind[aP]),ah,au]
  congr 2;omega
 .rw [show(ag==af)=af from rfl,au,LP A.1 I.1,ah,ao,au];by_cases h:vN x.2.1< vN y.2.1
  .rw [aK h,au,LP I.1 A.1,ah,ax (by omega),o8 (by grind[aP]),ah,au]
   congr 2;omega
  rw[ax h,ao,o8 (by grind[aP]),ah,ao]
  congr 2;omega
 rw[ao,Nb A.1 I.1,ah,o8 (by grind[aP])]
 grind
theorem Tn{x y:DZ}(A:cM half x)(I:cM half y):AU x y=ab (nz (zv x+zv y)):=by
 have J:=A.2;have U:=I.2;unfold half at J U;unfold AU;rw[ud];have k1:=acd A.1 I.1 J U;have k2:=mQ (MP (vN x.2.1) (vN y.2.1));have b:=mQ (MP (vN y.2.1) (vN x.2.1));have c:=iN (kS A.1 J);have d:=iN (kS I.1 U);unfold zv;cases Z:x.1<;>cases a:y.1
 .rw [show(af==af)=ag from rfl,aej A.1 I.1,ah,qY (by grind[aP])]
  rfl
 .rw [show(af==ag)=af from rfl,au,AR A.1 I.1,ah,au,ao];by_cases h:vN x.2.1< vN y.2.1
  .rw [aK h,au,AR I.1 A.1,ah,ax (by omega),qY (by grind[aP]),ah,ao]
   congr 2;omega
  rw[ax h,ao,qY (by grind[aP]),ah,au]
  congr 2;omega
 .rw [show(ag==af)=af from rfl,au,AR A.1 I.1,ah,ao,au];by_cases h:vN x.2.1< vN y.2.1
  .rw [aK h,au,AR I.1 A.1,ah,ax (by omega),qY (by grind[aP]),ah,au]
   congr 2;omega
  rw[ax h,ao,qY (by grind[aP]),ah,ao]
  congr 2;omega
 rw[aej A.1 I.1,ah,qY (by grind[aP])]
 grind
theorem UM{x y:DZ}(I:cM half x)(A:cM half y):zV x y=ab (nz (zv x-zv y)):=by
 unfold zV;rw[awO (A.mono (by trivial)),ah,Mh I (dA (by simp[tk,A.lt])),ah,bL,Gb]
theorem aeO{x y:DZ}(I:cM half x)(A:cM half y):EY x y=ab (nz (zv x-zv y)):=by
 unfold EY;rw[La (A.mono (by trivial)),ah,Tn I (dA (by simp[tk,A.lt])),ah,bL,Gb]
theorem ab6(a b:Bool)(m n:Nat):(bif !(a==b)then -((m*n:Nat):Int)else((m*n:Nat):Int))=(bif a then -(m:Int)else(m:Int))*(bif b then -(n:Int)else(n:Int)):=by
 grind
theorem vd{x y:DZ}(A:cM half x)(I:cM half y):pK x y=ab (nz (zv x*zv y)):=by
 have J:=A.2;have U:=I.2;have k:=acb A.1 I.1 J U;unfold half at J U k;unfold pK;rw[ud,ar0 A.1 I.1,ah,o8 (by grind[aP]),ab6]
 rfl
theorem xE{x y:DZ}(A:cM half x)(I:cM half y):qX x y=ab (nz (zv x*zv y)):=by
 have J:=A.2;have U:=I.2;have k:=acb A.1 I.1 J U;unfold half at J U k;unfold qX;rw[ud,atY A.1 I.1,ah,qY (by grind[aP]),ab6]
 rfl
theorem YR{x:Int}(h1: -9223372036854775808<=x)(h2:x< 0):wu (0-wu x)= -x:=by
 grind[ta]
theorem JM{n:Nat}(h:n< 18446744073709551616:=by omega):(nd n).length<=2:=iN (by
 omega)
theorem Mi{x:Int}(h1:-9223372036854775808<=x:=by omega)(h2:x< 9223372036854775808:=by omega):wM x=ab (nz x):=by
 unfold wM;by_cases h:x< 0
 .rw [bh h,ao,YR h1 h,Ib,ah,o8 (b8 (JM) (by trivial)),ah,ao,show -((-x).toNat)=x by omega]
 rw[bc,au,bO,Ib,ah,o8 (b8 (JM) (by trivial)),ah,au,show(x.toNat)=x by omega]
theorem agz{n:Int}(A:0<=n:=by omega)(h1:n< 18446744073709551616:=by omega):Dg [wr .u32 n,wr .u32 (n.fdiv 4294967296)]/\vN [wr .u32 n,wr .u32 (n.fdiv 4294967296)]=n.toNat:=by
 rw[kz,jC,jC];refine⟨Dg.cons (by omega) (by omega) (Dg.cons (by omega) (by omega) Dg.nil),?_⟩
 show(n%4294967296+4294967296*(n/4294967296%4294967296+4294967296*0)).toNat=_;omega
theorem To{x:Int}(h1:-9223372036854775808<=x:=by omega)(h2:x< 9223372036854775808:=by omega):AV x=ab (nz x):=by
 unfold AV;by_cases h:x< 0
 .obtain ⟨d,v⟩:=agz (n:= -x);rw[bh h,ao,iZ,YR h1 h];unfold S4;rw[bh h,Fm d (by simp[aP]),ah,v,ao,show -((-x).toNat)=x by omega]
 obtain⟨d,v⟩:=agz (n:=x);rw[bc,au,iZ,bO];unfold S4;rw[bc,Fm d (by simp[aP]),ah,v,au,show(x.toNat)=x by omega]
def qv(x:DQ):Rat:=kW (zv x.1) (zv x.2.1)
def nq(q:Rat):DQ:=(nz q.num,nz (q.den:Int),())
theorem iA(q:Rat):qv (nq q)=q:=by
 unfold qv nq;rw[bL,bL];simp
def bp(k:Nat)(x:DQ):Prop:=cM k x.1/\cM k x.2.1
theorem bp.mono{k m:Nat}{x:DQ}(h:bp k x)(hm:k<=m):bp m x:=⟨h.1.mono hm,h.2.mono hm⟩
def QS(k:Nat)(q:Rat):Prop:=(q.num.natAbs:Int)< 4294967296^k/\(q.den:Int)< 4294967296^k
theorem fo{q:Rat}{k:Nat}(h:QS k q):bp k (nq q):=⟨dA h.1,dA h.2⟩
theorem zt(n d:Int)(A:d≠0:=by omega):(kW n d).num.natAbs<=n.natAbs/\(kW n d).den<=d.natAbs:=by
 rw[VF,VD,ax A];refine⟨?_,Gn _ _⟩;refine b8 (ahE _ _) ?_;grind
theorem YT(a b:Nat)(h:b≠0:=by omega):g9 a b<=b:=Nat.le_of_dvd (by omega) (Nat.gcd_dvd_right a b)
theorem arF(n d:Int)(I:d≠0):nz (bif ak (n.sign*d.sign) 0 then -((n.natAbs/g9 n.natAbs d.natAbs:Nat):Int)else((n.natAbs/g9 n.natAbs d.natAbs:Nat):Int))=nz (kW n d).num/\nz ((d.natAbs/g9 n.natAbs d.natAbs:Nat):Int)=nz (((kW n d).den:Nat):Int):=by
 rw[VF,VD,ax I];have e:Int.gcd d n=g9 n.natAbs d.natAbs:=by rw[ahx];rfl
 rw[e];have A:((g9 n.natAbs d.natAbs):Int)∣(n.natAbs):=Int.natCast_dvd_natCast.2 (Nat.gcd_dvd_left _ _);refine⟨?_,rfl⟩;rw[Ga];rcases Vh n 0 with h|h|h
 .rcases Vh d 0 with k|k|k
  .rw [BL h,BL k,bc,au,show(n.natAbs)= -1*n by omega]
  .omega
  rw[BL h,BM k,bh,ao,n8,<-ahG A,show -(n.natAbs)=n by omega]
 .simp_all
 rcases Vh d 0 with k|k|k
 .rw [BM h,BL k,bh,ao,<-ahG A,show -(n.natAbs)= -1*n by omega]
 .omega
 rw[BM h,BM k,bc,au,n8,show(n.natAbs)=n by omega]
theorem EN{x y:DZ}(I:cM aP x)(A:cM aP y)(U:zv y≠0):sM x y=ab (nq (kW (zv x) (zv y))):=by
 have Z:=I.2;have c:=A.2;unfold aP at Z c;have d:=td y;have f:0< g9 (vN x.2.1) (vN y.2.1):=ah7 _ (by omega)
 have e:(nd (g9 (vN x.2.1) (vN y.2.1))).length<=y.2.1.length:=b8 (mQ (YT _ _)) (iN (kS A.1 (aL _)));have g:(nd (vN x.2.1/g9 (vN x.2.1) (vN y.2.1))).length<=x.2.1.length:=b8 (mQ (Gn _ _)) (iN (kS I.1 (aL _)));have h:(nd (vN y.2.1/g9 (vN x.2.1) (vN y.2.1))).length<=y.2.1.length:=b8 (mQ (Gn _ _)) (iN (kS A.1 (aL _)));have J:∀a b:Int,w (a.sign*b.sign)=a.sign*b.sign:=λa b=>by
  have h1:a.sign= -1∨a.sign=0∨a.sign=1:=by
   grind
  have h2:b.sign= -1∨b.sign=0∨b.sign=1:=by
   grind
  rcases h1 with h1|h1|h1<;>rcases h2 with h2|h2|h2<;>rw[h1,h2]<;>exact aw
 unfold sM;rw[ami I.1 A.1,ah,Mj I,ah,Mj A,ah,HH I.1 (eG _),gf,ax (by omega),ah,J]
 rw[o8 (by grind[aP]),ah,HH A.1 (eG _),gf,ax (by omega),ah]
 rw[o8 (by grind[aP]),au]
 have:=arF (zv x) (zv y) U;rw[td x,d]at this;rw[this.1,this.2];rfl
theorem fq{x y q r:Int}(h:x=q*y+r)(I:(0<=r/\r< y)∨(y< r/\r<=0)):x.fdiv y=q/\x.fmod y=r:=by
 have key:x.fdiv y=q:=by
  rcases I with⟨A,h1⟩|⟨A,h1⟩
  .rw [qc _ (by omega),h,Int.add_comm,ahu _ _ (by omega),ahw A h1];omega
  rw[<-Int.neg_fdiv_neg,qc _ (by omega),h,show -(q*y+r)= -r+q*(-y) by rw[ahD];omega,ahu _ _ (by omega),ahw (by omega) (by omega)];omega
 refine⟨key,?_⟩;have:=ahB x y;rw[key,Int.mul_comm]at this;omega
theorem afF{a b:Bool}{m n:Nat}(I:0< n):
  ((a==b)=ag∨m%n=0->(bif a then -(m:Int)else(m:Int)).fdiv (bif b then -(n:Int)else(n:Int))=(bif !(a==b)then -((m/n:Nat):Int)else((m/n:Nat):Int))/\(bif a then -(m:Int)else(m:Int)).fmod (bif b then -(n:Int)else(n:Int))=(bif a then -((m%n:Nat):Int)else((m%n:Nat):Int)))
  /\((a==b)=af->m%n≠0->(bif a then -(m:Int)else(m:Int)).fdiv (bif b then -(n:Int)else(n:Int))= -((m/n:Nat):Int)-1/\(bif a then -(m:Int)else(m:Int)).fmod (bif b then -(n:Int)else(n:Int))=(bif a then -((m%n:Nat):Int)else((m%n:Nat):Int))+(bif b then -(n:Int)else(n:Int))):=by
 have hm:=qj m I;have A:(m:Int)=((m/n:Nat):Int)*(n:Int)+((m%n:Nat):Int):=by
  rw[<-Int.natCast_mul,<-Int.natCast_add,Nat.mul_comm,Nat.div_add_mod m n]
 generalize m/n=q at*;generalize m%n=r at*;rw[A];cases a<;>cases b
 .refine ⟨λ_=>fq rfl (.inl ⟨?_,?_⟩),λh=>by cases h⟩
  .show 0<=(r:Int);omega
  show(r:Int)<(n:Int);omega
 .refine ⟨λh=>?_,λ_ h=>?_⟩
  .rcases h with h|h<;>try trivial
   subst h;refine fq ?_ (.inr ⟨?_,?_⟩)
   .show (q:Int)*(n:Int)+((0:Nat):Int)= -(q:Int)* -(n:Int)+((0:Nat):Int);rw[ahI]
   .show -(n:Int)<((0:Nat):Int);omega
   show((0:Nat):Int)<=0;omega
  refine fq ?_ (.inr ⟨?_,?_⟩)
  .show (q:Int)*(n:Int)+(r:Int)=(-(q:Int)-1)* -(n:Int)+((r:Int)+ -(n:Int));rw[qg,ahI];omega
  .show -(n:Int)<(r:Int)+ -(n:Int);omega
  show(r:Int)+ -(n:Int)<=0;omega
 .refine ⟨λh=>?_,λ_ h=>?_⟩
  .rcases h with h|h<;>try trivial
   subst h;refine fq ?_ (.inl ⟨?_,?_⟩)
   .show -((q:Int)*(n:Int)+((0:Nat):Int))= -(q:Int)*(n:Int)+ -((0:Nat):Int);rw[ahH];omega
   .show 0<= -((0:Nat):Int);omega
   show -((0:Nat):Int)<(n:Int);omega
  refine fq ?_ (.inl ⟨?_,?_⟩)
  .show -((q:Int)*(n:Int)+(r:Int))=(-(q:Int)-1)*(n:Int)+(-(r:Int)+(n:Int));rw[qg,ahH];omega
  .show 0<= -(r:Int)+(n:Int);omega
  show -(r:Int)+(n:Int)<(n:Int);omega
 refine⟨λ_=>fq ?_ (.inr ⟨?_,?_⟩),λh=>by cases h⟩
 .show -((q:Int)*(n:Int)+(r:Int))=(q:Int)* -(n:Int)+ -(r:Int);rw[ahD];omega
 .show -(n:Int)< -(r:Int);omega
 show -(r:Int)<=0;omega
theorem Bx(x:DZ):zv x=bif x.1 then -(vN x.2.1:Int)else(vN x.2.1:Int):=rfl
theorem avo{n:Int}:(!aj n.sign 0)= !decide (n=0):=by
 by_cases h:n=0
 .subst h;rw[decide_eq_true rfl];rfl
 rw[decide_eq_false h,bK (by rw[Ne,ahK];exact h)]
theorem aet{x y:DZ}(Z:cM 500000000000 x)(c:cM 500000000000 y)(j:zv y≠0):EX x y=ab (nz ((zv x).fdiv (zv y)),nz ((zv x).fmod (zv y)),0,()):=by
 have g:=Z.2;have k:=c.2;have l:=td y;have i:0< vN y.2.1:=by omega
 obtain⟨c1,c2⟩:=afF (a:=x.1) (b:=y.1) (m:=vN x.2.1) i;rw[<-Bx,<-Bx]at c1 c2;have hm:=qj (vN x.2.1) i;have n:(nd (vN x.2.1/vN y.2.1)).length<=500000000000:=b8 (mQ (Gn _ _)) (iN (kS Z.1 g));have o:(nd (vN x.2.1%vN y.2.1)).length<=500000000000:=b8 (mQ (Nat.mod_le _ _)) (iN (kS Z.1 g));have d:aj (zv y).sign 0=af:=bK (by rw[Ne,ahK];exact j)
 unfold EX;rw[Fo (c.mono (by unfold aP;omega)),ah,d,au,aem Z.1 c.1,ax (by omega),ah]
 dsimp only;rw[ud,qY (by unfold aP;omega),ah,qY (by unfold aP;omega),ah]
 generalize p:vN x.2.1/vN y.2.1=q at*;generalize s:vN x.2.1%vN y.2.1=r at*;have J:cM 500000000001 (nz (bif x.1 then -(r:Int)else(r:Int))):=by
  refine⟨eG _,?_⟩;show(nd _).length<=_;cases x.1
  .rw [au,yw];omega
  rw[ao,tk,yw];omega
 have U:(bif x.1 then -(r:Int)else(r:Int))=0↔r=0:=by
  cases x.1
  .rw [au];omega
  rw[ao];omega
 cases A:(x.1==y.1)with
 |true=>
  rw[cg,tN,ah,au,(c1 (.inl A)).1,(c1 (.inl A)).2,A,cg]
 |false=>
  rw[fO,ot,Fo (J.mono (by unfold aP;omega)),ah,ah,bL,avo]
  by_cases I:r=0
  .rw [decide_eq_true (U.2 I),cg,au,(c1 (.inr I)).1,(c1 (.inr I)).2,A,fO]
  have e:cM half (nz (bif ag then -(q:Int)else(q:Int))):=by
   refine⟨eG _,?_⟩;show(nd _).length<=_;rw[ao,tk,yw];unfold half;omega
  have f:cM half (nz 1):=dA (by
   have:=xv (a:=1) (b:=half) (by unfold half;omega)
   have h1:(4294967296:Int)^1=4294967296:=rfl;rw[h1]at this;show((1:Nat):Int)< _;omega)
  rw[decide_eq_false (λh=>I (U.1 h)),fO,ao,To,ah,aeO e f,ah,Tn (J.mono (by unfold half;omega)) (c.mono (by unfold half;omega)),ah,bL,bL,bL,ao,(c2 A I).1,(c2 A I).2]
theorem Tp{x y:DZ}(J:cM 500000000000 x)(I:cM 500000000000 y)(c:zv y≠0):AX x y=ab (nq (kW (zv x) (zv y))):=by
 have l:=J.2;have m:=I.2;have d:=td y;have n:0< g9 (vN x.2.1) (vN y.2.1):=ah7 _ (by omega)
 have f:(nd (g9 (vN x.2.1) (vN y.2.1))).length<=y.2.1.length:=b8 (mQ (YT _ _)) (iN (kS I.1 (aL _)));have U:cM 500000000000 (nz ((g9 (vN x.2.1) (vN y.2.1):Nat):Int)):=⟨eG _,by
  show(nd _).length<=_;rw[yw];omega⟩
 have e:g9 (vN x.2.1) (vN y.2.1)=Int.gcd (zv y) (zv x):=by rw[ahx,<-td x,<-d];rfl
 have A:∀a b:DZ,cM 500000000000 a->cM 500000000000 b->0< zv b->zv a=(zv y).sign*zv x->zv b=(zv y).natAbs->S5 (nz ((g9 (vN x.2.1) (vN y.2.1):Nat):Int)) ((),(a,b,()),())=ab (nq (kW (zv x) (zv y))):=λa b g h i j k=>by
  unfold S5;dsimp only;rw[aet g U (by rw[bL];omega),ah,aet h U (by rw[bL];omega),ah,bL,j,k]
  unfold nq;rw[VF,VD,ax c,<-e,qc _ (by omega),qc _ (by omega),Ga]
 unfold AX;rw[atX J.1 I.1,ah,qY (by unfold aP;omega),ah,au,Fo (I.mono (by unfold aP;omega)),ah]
 by_cases Z:zv y< 0
 .rw [BL Z,bh,ao,La (J.mono (by unfold aP;omega)),ah,La (I.mono (by unfold aP;omega)),ah,iZ]
  refine A _ _ (dA (by rw[tk];exact J.lt)) (dA (by rw[tk];exact I.lt)) (by rw[bL];omega) (by rw[bL,BL Z];omega) (by rw[bL];omega)
 rw[BM (by omega),bc,au,iZ]
 exact A _ _ J I (by omega) (by rw[BM (by omega),n8]) (by omega)
def mid:=200000000000
theorem Qa{n:Int}:aj n.sign 0=decide (n=0):=by
 by_cases h:n=0
 .subst h;rfl
 rw[decide_eq_false h,bK (by grind)]
theorem SE{x y:DZ}(I:cM aP x)(A:cM aP y):xG x y=ab (if zv y=0 then((nz 0,nz 0,()),9,())else(nq (kW (zv x) (zv y)),0,())):=by
 unfold xG;rw[Mj A,ah,Qa];by_cases h:zv y=0
 .rw [decide_eq_true h,aK h];rfl
 rw[decide_eq_false h,au,ax h,EN I A h,ah]
theorem acD(n:Int):nq (n)=(nz n,nz 1,()):=rfl
theorem xw{x:Int}(h1:-9223372036854775808<=x:=by omega)(h2:x< 9223372036854775808:=by omega):eM x=ab (nq (x)):=by
 unfold eM;rw[Mi h1 h2,ah,Mi,ah,acD]
theorem Tq{x:Int}(h1:-9223372036854775808<=x:=by omega)(h2:x< 9223372036854775808:=by omega):oP x=ab (nq (x)):=by
 unfold oP;rw[To h1 h2,ah,To,ah,acD]
theorem nV{x:DQ}(h:bp aP x):jc x=ab (nq (qv x)):=by
 unfold jc;rw[SE h.1 h.2,ah];by_cases A:zv x.2.1=0
 .rw [aK A];dsimp only;rw[bK,xw];simp[qv,A]
 rw[ax A];rfl
theorem m0{x:DQ}(h:bp 500000000000 x):jy x=ab (nq (qv x)):=by
 unfold jy;rw[Fo (h.2.mono (by simp[aP])),ah,Qa]
 by_cases A:zv x.2.1=0
 .rw [Tq];simp[qv,A]
 rw[decide_eq_false A,Tp h.1 h.2 A];rfl
theorem eI{x:DQ}{k:Nat}(h:bp k x)(I:1<=k:=by omega):QS k (qv x):=by
 unfold qv;by_cases A:zv x.2.1=0
 .rw [A];have:=xv I;refine⟨?_,?_⟩
  .show 0< _;omega
  show 1< _;omega
 obtain⟨h1,h2⟩:=zt (zv x.1) _ A;have J:=h.1.lt;have U:=h.2.lt;exact⟨by omega,by omega⟩
theorem l6{x:DQ}{k:Nat}(h:bp k x)(A:1<=k:=by omega):bp k (nq (qv x)):=fo (eI h A)
def G7(q:Rat):=max (dN q.num.natAbs) (dN q.den)
theorem abG(a b:Nat):(bif ai (a) (b)then(b:Int)else(a))=((max a b:Nat)):=by
 by_cases h:a<=b
 .rw [bV,ao,Nat.max_eq_right h]
 rw[dh,au,Nat.max_eq_left (by omega)]
theorem AN{x:DQ}(h:bp aP x):sK x=ab (G7 (qv x):Int):=by
 have A:=l6 h (by simp[aP])
 unfold sK;rw[nV h,ah,agM A.1,ah,agM A.2,ah];unfold nq;rw[bL,bL,abG];rfl
theorem aur{x:DQ}(h:bp 500000000000 x):KM x=ab (G7 (qv x):Int):=by
 have A:=(l6 h).mono (m:=aP) (by simp[aP])
 unfold KM;rw[m0 h,ah,aez A.1,ah,aez A.2,ah];unfold nq;rw[bL,bL,abG];rfl
theorem hV(q:Rat):(q.den:Int)≠0:=by
 have:=q.den_pos;omega
theorem ft{a b:Int}{k m:Nat}(A:(a.natAbs:Int)< 4294967296^k)(I:(b.natAbs:Int)< 4294967296^m):((a*b).natAbs:Int)< 4294967296^(k+m):=by
 rw[Int.natAbs_mul,BK];exact ahy (qf (ij I) (by omega)) (ahC A (jv m))
theorem u6{a b:Int}{k:Nat}(A:(a.natAbs:Int)< 4294967296^k)(I:(b.natAbs:Int)< 4294967296^k:=by omega):((a+b).natAbs:Int)< 4294967296^(k+1):=by
 omega
theorem EO{x y:DQ}(J:bp mid x)(U:bp mid y):oR x y=ab (nq (qv x*qv y)):=by
 have A:=l6 J (by simp[mid])
 have I:=l6 U (by simp[mid])
 have Z:=eI J (by simp[mid])
 have sy:=eI U (by simp[mid])
 unfold oR;rw[nV (J.mono (by simp[mid,aP])),ah,nV (U.mono (by simp[mid,aP])),ah]
 rw[vd (A.1.mono (by simp[mid,half])) (I.1.mono (by simp[mid,half])),ah,vd (A.2.mono (by simp[mid,half])) (I.2.mono (by simp[mid,half])),ah]
 unfold nq;rw[bL,bL,bL,bL,EN ((dA (ft Z.1 sy.1)).mono (by simp[mid,aP])) ((dA (ft (a:=(qv x).den) (b:=(qv y).den) (by exact Z.2) (by exact sy.2))).mono (by simp[mid,aP])) (by rw[bL];exact vo (hV _) (hV _)),bL,bL]
 rw[<-VE,pd,pd];rfl
theorem aeL{x y:DQ}(J:bp mid x)(U:bp mid y):EZ x y=ab (nq (qv x*qv y)):=by
 have A:=l6 J (by simp[mid])
 have I:=l6 U (by simp[mid])
 have Z:=eI J (by simp[mid])
 have sy:=eI U (by simp[mid])
 unfold EZ;rw[m0 (J.mono (by simp[mid])),ah,m0 (U.mono (by simp[mid])),ah]
 rw[xE (A.1.mono (by simp[mid,half])) (I.1.mono (by simp[mid,half])),ah,xE (A.2.mono (by simp[mid,half])) (I.2.mono (by simp[mid,half])),ah]
 unfold nq;rw[bL,bL,bL,bL,Tp ((dA (ft Z.1 sy.1)).mono (by simp[mid])) ((dA (ft (a:=(qv x).den) (b:=(qv y).den) (by exact Z.2) (by exact sy.2))).mono (by simp[mid])) (by rw[bL];exact vo (hV _) (hV _)),bL,bL]
 rw[<-VE,pd,pd];rfl
theorem KA{x y:DQ}(J:bp mid x)(U:bp mid y):uV x y=ab (nz ((qv x).num*(qv y).den),nz ((qv y).num*(qv x).den),nz ((qv x).den*(qv y).den),()):=by
 have A:=(l6 J (by simp[mid])).mono (m:=half) (by simp[mid,half])
 have I:=(l6 U (by simp[mid])).mono (m:=half) (by simp[mid,half])
 unfold uV;rw[nV (J.mono (by simp[mid,aP])),ah,nV (U.mono (by simp[mid,aP])),ah,vd A.1 I.2,vd I.1 A.2,vd A.2 I.2]
 simp[nq,bL]
theorem Nc a b:kW (a.num*b.den+b.num*a.den) (a.den*b.den)=a+b:=by
 rw[<-Rat.divInt_add_divInt _ _ (hV a) (hV b),pd,pd]
theorem af8 a b:kW (a.num*b.den-b.num*a.den) (a.den*b.den)=a-b:=by
 rw[<-Rat.divInt_sub_divInt _ _ (hV a) (hV b),pd,pd]
theorem fD{q:Rat}{k:Nat}(h:QS k q):((q.den:Int).natAbs:Int)< 4294967296^k:=by exact h.2
theorem EM{x y:DQ}(I:bp mid x)(J:bp mid y):lB x y=ab (nq (qv x+qv y)):=by
 have A:=eI I (by simp[mid])
 have sy:=eI J (by simp[mid])
 have U:=ft A.1 (fD sy);have Z:=ft sy.1 (fD A);unfold lB;rw[KA I J,ah,Mh ((dA U).mono (by simp[mid,half])) ((dA Z).mono (by simp[mid,half])),ah,bL,bL]
 rw[EN ((dA (u6 U Z)).mono (by simp[mid,aP])) ((dA (ft (fD A) (fD sy))).mono (by simp[mid,aP])) (by rw[bL];exact vo (hV _) (hV _)),ah,bL,bL,Nc]
theorem aea{x y:DQ}(I:bp mid x)(J:bp mid y):uU x y=ab (nq (qv x-qv y)):=by
 have A:=eI I (by simp[mid])
 have sy:=eI J (by simp[mid])
 have U:=ft A.1 (fD sy);have a:=ft sy.1 (fD A);have Z:=u6 U (b:= -((qv y).num*(qv x).den));rw[<-Gb]at Z;unfold uU;rw[KA I J,ah,UM ((dA U).mono (by simp[mid,half])) ((dA a).mono (by simp[mid,half])),ah,bL,bL]
 rw[EN ((dA Z).mono (by simp[mid,aP])) ((dA (ft (fD A) (fD sy))).mono (by simp[mid,aP])) (by rw[bL];exact vo (hV _) (hV _)),ah,bL,bL,af8]
theorem auq{x y:DQ}(J:bp mid x)(U:bp mid y):KL x y=ab (nq (qv x+qv y)):=by
 have A:=(l6 J (by simp[mid])).mono (m:=half) (by simp[mid,half])
 have I:=(l6 U (by simp[mid])).mono (m:=half) (by simp[mid,half])
 have Z:=eI J (by simp[mid])
 have sy:=eI U (by simp[mid])
 have a:=ft Z.1 (fD sy);have b:=ft sy.1 (fD Z);unfold KL;rw[m0 (J.mono (by simp[mid])),ah,m0 (U.mono (by simp[mid])),ah,xE A.1 I.2,ah,xE I.1 A.2,ah]
 unfold nq;rw[bL,bL,bL,bL,Tn ((dA a).mono (by simp[mid,half])) ((dA b).mono (by simp[mid,half])),ah,xE (x:=nz _) (y:=nz _) A.2 I.2,ah,bL,bL,bL,bL,Tp ((dA (u6 a b)).mono (by simp[mid])) ((dA (ft (fD Z) (fD sy))).mono (by simp[mid])) (by rw[bL];exact vo (hV _) (hV _)),bL,bL,Nc]
 rfl
theorem aus{x:DQ}(A:bp mid x):KN x=ab (nq (-qv x)):=by
 unfold KN;rw[m0 (A.mono (by simp[mid])),ah,La ((l6 A (by simp[mid])).mono (m:=aP) (by simp[mid,aP])).1]
 simp[nq,bL]
theorem aut{x y:DQ}(I:bp mid x)(A:bp mid y):KP x y=ab (nq (qv x-qv y)):=by
 have sy:=eI A (by simp[mid])
 unfold KP;rw[aus A,ah,auq (y:=nq (-qv y)) I (fo ⟨by
  rw[Rat.neg_num,tk];exact sy.1,sy.2⟩),ah,iA,Rat.sub_eq_add_neg]
theorem sH{x y:DQ}(A:bp mid x)(I:bp mid y):cX x y=ab ((qv x).num*(qv y).den-(qv y).num*(qv x).den).sign:=by
 have J:=eI A (by simp[mid])
 have sy:=eI I (by simp[mid])
 have U:=ft J.1 (fD sy);have a:=ft sy.1 (fD J);have Z:=u6 U (b:= -((qv y).num*(qv x).den));rw[<-Gb]at Z;unfold cX;rw[KA A I,ah];unfold Ql;rw[UM ((dA U).mono (by simp[mid,half])) ((dA a).mono (by simp[mid,half])),ah,bL,bL,Mj ((dA Z).mono (by simp[mid,aP])),ah,ah,bL]
theorem aeK{x y:DQ}(J:bp mid x)(U:bp mid y):xz x y=ab ((qv x).num*(qv y).den-(qv y).num*(qv x).den).sign:=by
 have A:=(l6 J (by simp[mid])).mono (m:=half) (by simp[mid,half])
 have I:=(l6 U (by simp[mid])).mono (m:=half) (by simp[mid,half])
 have Z:=eI J (by simp[mid])
 have sy:=eI U (by simp[mid])
 have a:=ft Z.1 (fD sy);have d:=ft sy.1 (fD Z);have c:=u6 a (b:= -((qv y).num*(qv x).den));rw[<-Gb]at c;unfold xz;rw[m0 (J.mono (by simp[mid])),ah,m0 (U.mono (by simp[mid])),ah,xE A.1 I.2,ah,xE I.1 A.2,ah]
 unfold nq;rw[bL,bL,bL,bL];unfold S3;rw[aeO ((dA a).mono (by simp[mid,half])) ((dA d).mono (by simp[mid,half])),ah,bL,bL,Fo ((dA c).mono (by simp[mid,aP])),ah,ah,bL]
theorem agN{x:DZ}(h:cM aP x):kH x.1 x.2.1=ab (nz (zv x)):=UL h.1 h.2
theorem zDM{x y:DZ}(h:cM mid x)(f:cM mid y)(u:zv y≠0):IJ x y=ab (nz ((zv x).fdiv (zv y)),nz ((zv x).fmod (zv y)),0,()):=by
 have A:cM mid (nz (zv x)):=dA h.lt;have I:cM mid (nz (zv y)):=dA f.lt;have l:=A.2;have n:=I.2;unfold mid at l n;have v:vN (nz (zv y)).2.1=(zv y).natAbs:=gf _;have w:vN (nz (zv x)).2.1=(zv x).natAbs:=gf _;have i:0< vN (nz (zv y)).2.1:=by omega
 obtain⟨c1,c2⟩:=afF (a:=(nz (zv x)).1) (b:=(nz (zv y)).1) (m:=vN (nz (zv x)).2.1) i;rw[<-Bx,<-Bx,bL,bL]at c1 c2;have hm:=qj (vN (nz (zv x)).2.1) i;have z:=Gn (vN (nz (zv x)).2.1) (vN (nz (zv y)).2.1);have j:=kS A.1 A.2;have k:=kS I.1 I.2;unfold IJ;rw[agN (h.mono (by simp[mid,aP])),ah,agN (f.mono (by simp[mid,aP])),ah,HH A.1 I.1,ax (by omega),ah]
 dsimp only;rw[cT rfl,cg,au,ud];generalize o:vN (nz (zv x)).2.1/vN (nz (zv y)).2.1=q at*;generalize p:vN (nz (zv x)).2.1%vN (nz (zv y)).2.1=r at*;have s:=jv mid;have J:∀c:Nat,c<=q+1->(bif !((nz (zv x)).1==(nz (zv y)).1)then -(c:Int)else(c:Int))=(zv x).fdiv (zv y)->Qm (nz (zv x)) (nz (zv y)) ((nd c,()),(),())=ab (nz ((zv x).fdiv (zv y)),nz ((zv x).fmod (zv y)),0,()):=λc t e=>by
  unfold Qm;dsimp only;have g:(nd c).length<=mid+1:=iN;have d:(((zv x).fdiv (zv y)).natAbs:Int)< 4294967296^(mid+1):=by
   rw[<-e,pw];cases !((nz (zv x)).1==(nz (zv y)).1)
   .rw [au,yw];omega
   rw[ao,tk,yw];omega
  rw[ud,o8 (by unfold mid at g;unfold aP;omega),ah,e,vd ((dA d).mono (by unfold mid half;omega)) (I.mono (by unfold mid half;omega)),ah,bL,bL,UM (A.mono (by unfold mid half;omega)) ((dA (ft d f.lt)).mono (by unfold mid half;omega)),ah,bL,bL]
  have:=ahB (zv x) (zv y);grind
 cases Z:((nz (zv x)).1==(nz (zv y)).1)with
 |true=>
  rw[cg,tN,ah,au,iZ];exact J q (by omega) (c1 (.inl Z)).1.symm
 |false=>
  rw[fO,ot,ah];by_cases U:r=0
  .rw [U,show ak 0 ((nd 0).length:Int)=af from rfl,au,iZ];exact J q (by omega) (c1 (.inr U)).1.symm
  have:0<(nd r).length:=by
   rcases yE (nd r).length with h1|h1<;>try grind
   exact absurd (uG h1) U
  have g:(nd q).length<=mid:=iN;unfold mid at g;have B:(nd 1).length<=2:=JM;rw[bh,ao,Ib,ah,show(1:Int).toNat=1 from rfl,Nb (eG _) (eG _),gf,gf,ah,iZ];refine J (q+1) (by omega) ?_
  rw[(c2 Z U).1,Z,fO,ao];omega
theorem ad8{x:DQ}(h:bp mid x):sL x=ab (nz (qv x).floor):=by
 have A:=l6 h (by simp[mid])
 unfold sL;rw[nV (h.mono (by simp[mid,aP])),ah,zDM A.1 A.2 (by show zv (nz ((qv x).den))≠0;grind[bL,hV])]
 unfold nq;rw[bL,bL];unfold Rat.floor;grind
theorem aad{x:Int}(h1: -9223372036854775808<=x)(h2:x< 9223372036854775808):cM 2 (nz x):=⟨eG _,JM⟩
theorem ad9{a b:Int}(A:-9223372036854775808<=a:=by omega)(I:a< 9223372036854775808:=by omega)(J:-9223372036854775808<=b:=by omega)(U:b< 9223372036854775808:=by omega):xF a b=ab (if b=0 then((nz 0,nz 0,()),9,())else(nq (kW a b),0,())):=by
 unfold xF;rw[Mi A I,ah,Mi J U,ah,SE ((aad A I).mono (by simp[aP])) ((aad J U).mono (by simp[aP])),ah,bL,bL]
def FQ(n:Int):Int×Bool×Unit:=if -9223372036854775808<=n/\n< 9223372036854775808 then(n,ag,())else(0,af,())
theorem UK{x:DZ}{l:List Int}{v:Int}(A:0<=v)(h1:v< 18446744073709551616)(U:l.length<=2)(I:zv x=bif x.1 then -v else v):IL x l ((v,()),(),())=ab (FQ (zv x)):=by
 unfold IL FQ;dsimp only;rw[bc,nS,ah,I];cases Z:x.1
 .show _=ab (if -9223372036854775808<=v/\v< 9223372036854775808 then(v,ag,())else(0,af,()));by_cases h:v< 9223372036854775808
  .rw [aK (by omega),bc,nS,bK,tN,ah,ah,au,au,iZ]
   unfold aae;dsimp only;rw[aw]
  rw[ax (by omega)]
  by_cases h2:v=9223372036854775808
  .subst h2;rfl
  rw[bh];rfl
 show _=ab (if -9223372036854775808<= -v/\ -v< 9223372036854775808 then(-v,ag,())else(0,af,()));by_cases h:v<=9223372036854775808
 .rw [aK (by omega),bc,nS]
  have e:((aG (aj v 9223372036854775808) (ab (!true))).bind λJ=>ab J)=ab af:=by
   by_cases h2:v=9223372036854775808
   .subst h2;rfl
   rw[bK h2];rfl
  rw[e,ah,au,ao];show ab (w (wu (0-v)),ag,())=_;rw[ta];by_cases A:v=0
  .subst A;rfl
  rw[show(0-v)%18446744073709551616=18446744073709551616-v by omega]
  have:w (18446744073709551616-v)= -v:=by
   show wr .i64 _=_;grind[FZ,IntKind.wrap,IntKind.bits,IntKind.signed]
  rw[this]
 rw[ax (by omega),bh]
 rfl
theorem agO{x:DZ}(h:cM aP x):ss x=ab (FQ (zv x)):=by
 have i:=h.2;unfold aP at i;have o:=td x;unfold ss;rw[JZ (by omega) h.1,ah]
 have J:=eG (vN x.2.1);have A:=pN (vN x.2.1);have U:=Ao (vN x.2.1);have j:zv x=bif x.1 then -(vN x.2.1:Int)else(vN x.2.1:Int):=rfl;have I:(nd (vN x.2.1)).length<=1099511627774:=b8 (iN (kS h.1 (aL _))) (by omega)
 generalize nd (vN x.2.1)=l at*;match l,J,A,U,I with
 |[],_,A,_,_=>
  have A:(0:Int)=(vN x.2.1:Int):=A;rw[show w ((([]:List Int).length:Int)-1)= -1 from aw];rw[cP (r:=.inl ((0,()),(),())) (by unfold uy;dsimp only;rw[dh,tN,ah,au];rfl),fV]
  exact UK (by omega) (by omega) (by simp) (by simp[j,A])
 |[a],J,A,_,_=>
  have d:=J a (eh ..);have A:a+4294967296*0=(vN x.2.1:Int):=A;rw[show w ((([a]:List Int).length:Int)-1)=((0:Nat):Int)from aw];rw[eY (s':=((a,-1,()),(),())) (by
   unfold uy;dsimp only;rw[bV,ot,bV (by simp),ah,ao,fU (by simp),show([a]:List Int).getD 0 0=a from rfl,ik]
   have e:=AB (r:=0) (y:=a) (by omega) (by omega) d.1 d.2
   rw[ik]at e;rw[e,aw,ahM];rfl)]
  rw[cP (r:=.inl ((a,()),(),())) (by unfold uy;dsimp only;rw[dh,tN,ah,au];rfl),fV]
  exact UK d.1 (by omega) (by simp) (by grind)
 |[a,b],J,A,_,_=>
  have d:=J a (eh ..);have f:=J b (ff _ (eh ..));have A:a+4294967296*(b+4294967296*0)=(vN x.2.1:Int):=A;rw[show w ((([a,b]:List Int).length:Int)-1)=((1:Nat):Int)from aw];rw[eY (s':=((b,((0:Nat):Int),()),(),())) (by
   unfold uy;dsimp only;rw[bV,ot,bV (by simp),ah,ao,fU (by simp),show([a,b]:List Int).getD 1 0=b from rfl,ik]
   have e:=AB (r:=0) (y:=b) (by omega) (by omega) f.1 f.2
   rw[ik]at e;rw[e,aw,ahM];rfl)]
  rw[eY (s':=((b*4294967296+a,-1,()),(),())) (by
   unfold uy;dsimp only;rw[bV,ot,bV (by simp),ah,ao,fU (by simp),show([a,b]:List Int).getD 0 0=a from rfl]
   rw[AB (r:=b) (y:=a) f.1 f.2 d.1 d.2,aw];rfl)]
  rw[cP (r:=.inl ((b*4294967296+a,()),(),())) (by unfold uy;dsimp only;rw[dh,tN,ah,au];rfl),fV]
  exact UK (by omega) (by omega) (by simp) (by grind)
 |a::b::c::l,J,A,U,I=>
  have g:18446744073709551616<=(vN x.2.1:Int):=by
   have h1:=xh J U (n:=l.length+2) rfl;have h2:=dS J (l.length+2);have k:dv (a::b::c::l)=wv (a::b::c::l) (l.length+2)+(a::b::c::l).getD (l.length+2) 0*4294967296^(l.length+2):=by
    rw[<-da (a::b::c::l) (l.length+3) (aL _)];rfl
   rw[A]at k;have p:=xv (a:=2) (b:=l.length+2);have q:(4294967296:Int)^2=18446744073709551616:=rfl;have s:1*4294967296^(l.length+2)<=(a::b::c::l).getD (l.length+2) 0*4294967296^(l.length+2):=Int.mul_le_mul_of_nonneg_right (by omega) (by omega)
   omega
  have Z:((a::b::c::l).length:Int)=(l.length:Int)+3:=rfl;have m:l.length+3<=1099511627774:=I;rw[Z,aw];rw[cP (r:=.inl ((0,()),(),())) (by
   unfold uy;dsimp only;rw[Z,bV,ot,dh,ah,au];rfl),fV]
  unfold IL FQ;dsimp only;rw[Z,bh,Kb,ah,Kb,ah,ao,ax (by
   omega)]
  rfl
def cl(x:Int):Int:=if x< -1048576 then -1048576 else if 1048576< x then 1048576 else x
theorem W7(x:Int):IW x (-1048576) 1048576=ab (cl x):=by
 unfold IW cl;by_cases h:x< -1048576
 .rw [bh h,ao,aK h]
 by_cases h2:1048576< x
 .rw [bc,au,bh h2,ao,ax h,aK h2]
 rw[bc,au,bc,au,ax h,ax h2]
def oE(x:aJ):aJ:=(cl x.1,cl x.2.1,())
theorem zP(x:aJ):rq x=ab (oE x):=by
 unfold rq L0;rw[W7,W7,ah];rfl
theorem ox(x:Int): -1048576<=cl x/\cl x<=1048576:=by
 grind[cl]
def br(x:aJ):Bool:=decide (-1048576<=x.1)&&decide (x.1<=1048576)&&decide (-1048576<=x.2.1)&&decide (x.2.1<=1048576)
theorem aku(x:Int):aj (cl x) x=(decide (-1048576<=x)&&decide (x<=1048576)):=by
 unfold cl;by_cases h:x< -1048576
 .rw [bK,decide_eq_false (by omega)];rfl
 by_cases h2:1048576< x
 .rw [bK,decide_eq_true (by omega),decide_eq_false (by omega)];rfl
 rw[ax h,ax h2,cT rfl,decide_eq_true (by omega),decide_eq_true (by omega)];rfl
theorem p9(x:aJ):iS x=ab (br x):=by
 unfold iS;rw[zP];show ab (aj (cl x.1) x.1&&(aj (cl x.2.1) x.2.1&&ag))=_;simp[aku,tg,br,yg]
theorem aeR(x:aJ):oQ x=ab (br x):=by
 unfold oQ;rw[cO,ah,cO,ah,cO,lU,lU,lU,lU];rfl
def FM(x y:aJ):aJ:=((oE x).1-(oE y).1,(oE x).2.1-(oE y).2.1,())
theorem Ua(x y:aJ):Br x y=ab (FM x y):=by
 have a:=ox x.1;have b:=ox x.2.1;have c:=ox y.1;have d:=ox y.2.1;unfold Br;rw[zP,zP];show ab (w (cl x.1-cl y.1),w (cl x.2.1-cl y.2.1),())=_;rw[aw,aw];rfl
theorem afs(m n:Int)(hm:(nz m).2.1.length<=1099511627776):xA (nz m) (nz n)=ab (decide (m=n)):=by
 unfold xA;rw[ud,cI,ah];by_cases I:(nz m).1=(nz n).1
 .by_cases U:(nz m).2.1.length=(nz n).2.1.length
  .rw [I,show((nz n).1==(nz n).1)=ag by simp,cT]
   show aA _ _=_;obtain⟨r,e,rfl⟩:=eW (step:=S7 (nz m) (nz n)) (λs=>∃i:Nat,s=(((i:Int),()),(),())/\i<=(nz m).2.1.length/\∀j,j< i->(nz m).2.1.getD j 0=(nz n).2.1.getD j 0) (λs=>(((nz m).2.1.length:Int)-s.1.1).toNat) (λr=>r=decide (m=n)) (by
    rintro _ ⟨i,rfl,hi,Z⟩;unfold S7;dsimp only;by_cases h2:i<(nz m).2.1.length
    .rw [bh,ao,fU h2,fU];by_cases A:(nz m).2.1.getD i 0=(nz n).2.1.getD i 0
     .left;rw[cT A,cg,au,aw];refine⟨_,rfl,⟨i+1,rfl,by omega,λj h=>?_⟩,?_⟩
      .rcases jH j i with J|J
       .exact Z j J
       rw[show j=i by omega];exact A
      show(((nz m).2.1.length:Int)-((i:Int)+1)).toNat<(((nz m).2.1.length:Int)-(i:Int)).toNat;omega
     right;rw[bK A,fO,ao];exact⟨_,rfl,(decide_eq_false (λh=>A (by rw[h]))).symm⟩
    right;rw[bc,au];refine⟨_,rfl,(decide_eq_true ?_).symm⟩;have e:(nz m).2.1=(nz n).2.1:=List.ext_getElem U λk A J=>by
     have:=Z k (by omega)
     rw[nr,nr,gD A,gD J]at this;exact this
    have:=bL m;rw[<-bL m,<-bL n,Bx,Bx,I,e]) ((0,()),(),()) ⟨0,rfl,by omega,λj h=>by omega⟩
   exact e
  rw[bK,fO,F4,ao,decide_eq_false (λh=>U (by rw[h]))]
 have:((nz m).1==(nz n).1)=af:=by
  cases h1:(nz m).1<;>cases h2:(nz n).1<;>first|rfl|exact absurd (h1.trans h2.symm) I
 rw[this,fO,vg,ao,decide_eq_false (λh=>I (by rw[h]))]
theorem avd(a b:Rat)(h:QS 1099511627776 a):KO (nq a) (nq b)=ab (decide (a=b)):=by
 have A:=fo h;unfold KO;rw[show xA (nq a).1 (nq b).1=_ from afs a.num b.num A.1.2,show xA (nq a).2.1 (nq b).2.1=_ from afs a.den b.den A.2.2,ah,ah,cO,ah];congr 1;by_cases h1:a=b<;>try grind
 rw[decide_eq_false h1,Bool.and_eq_false_iff];by_cases h2:a.num=b.num
 .right;exact decide_eq_false λI=>h1 (Rat.ext h2 (by omega))
 grind
def dI(k:Nat)(x:bQ):Prop:=bp k x.1/\bp k x.2.1/\bp k x.2.2.1/\bp k x.2.2.2.1/\bp k x.2.2.2.2.1/\bp k x.2.2.2.2.2.1
theorem dI.mono{k m:Nat}{x:bQ}(h:dI k x)(hm:k<=m):dI m x:=⟨h.1.mono hm,h.2.1.mono hm,h.2.2.1.mono hm,h.2.2.2.1.mono hm,h.2.2.2.2.1.mono hm,h.2.2.2.2.2.mono hm⟩
structure Af where
 a:Rat
 b:Rat
 c:Rat
 d:Rat
 e:Rat
 f:Rat
def av(x:bQ):Af:=⟨qv x.1,qv x.2.1,qv x.2.2.1,qv x.2.2.2.1,qv x.2.2.2.2.1,qv x.2.2.2.2.2.1⟩
def na(t:Af):bQ:=(nq t.a,nq t.b,nq t.c,nq t.d,nq t.e,nq t.f,())
theorem G3(t:Af):av (na t)=t:=by
 simp[av,na,iA]
def AS(k:Nat)(t:Af):Prop:=QS k t.a/\QS k t.b/\QS k t.c/\QS k t.d/\QS k t.e/\QS k t.f
theorem rW{x:bQ}{k:Nat}(h:dI k x)(A:1<=k):AS k (av x):=⟨eI h.1 A,eI h.2.1 A,eI h.2.2.1 A,eI h.2.2.2.1 A,eI h.2.2.2.2.1 A,eI h.2.2.2.2.2 A⟩
theorem xf{t:Af}{k:Nat}(h:AS k t):dI k (na t):=⟨fo h.1,fo h.2.1,fo h.2.2.1,fo h.2.2.2.1,fo h.2.2.2.2.1,fo h.2.2.2.2.2⟩
theorem J0{x:bQ}(h:dI aP x):vW x=ab (na (av x)):=by
 unfold vW;rw[nV h.1,nV h.2.1,nV h.2.2.1,nV h.2.2.2.1,nV h.2.2.2.2.1,nV h.2.2.2.2.2];rfl
theorem aeH{x:bQ}(h:dI 500000000000 x):E4 x=ab (na (av x)):=by
 unfold E4;rw[m0 h.1,m0 h.2.1,m0 h.2.2.1,m0 h.2.2.2.1,m0 h.2.2.2.2.1,m0 h.2.2.2.2.2];rfl
def mS(q:Rat):Bool:=decide (G7 q<=256)
def fp(t:Af):Bool:=mS t.a&&(mS t.b&&(mS t.c&&(mS t.d&&(mS t.e&&(mS t.f&&ag)))))
theorem YY(n:Nat):ak 256 (n:Int)= !decide (n<=256):=by
 by_cases h:n<=256
 .rw [bc,decide_eq_true h];rfl
 rw[bh,decide_eq_false h];rfl
theorem Cl{x:bQ}(h:dI aP x):tK x=ab (fp (av x)):=by
 have s:=xf (rW h (by trivial))
 unfold tK;rw[J0 h,ah,AN s.1,AN s.2.1,AN s.2.2.1,AN s.2.2.2.1,AN s.2.2.2.2.1,AN s.2.2.2.2.2];unfold na fp;grind[iA,YY,mS]
theorem at7{l:List DQ}(J:l.length<=1099511627776)(h:∀q∈l,bp 500000000000 q):aA (KR l) ((0,()),(),())=ab (l.all λq=>mS (qv q)):=by
 obtain⟨r,e,rfl⟩:=eW (step:=KR l) (λs=>∃i:Nat,s=(((i:Int),()),(),())/\i<=l.length/\(l.take i).all (λq=>mS (qv q))=ag) (λs=>((l.length:Int)-s.1.1).toNat) (λr=>r=l.all λq=>mS (qv q)) (by
  rintro _ ⟨i,rfl,hi,A⟩;unfold KR;dsimp only;by_cases h2:i< l.length
  .rw [bh,ao,cH h2,aur (h _ (gR h2)),ah,YY,aw];cases I:decide (G7 (qv l[i])<=256)with
   |true=>
    left;refine⟨_,rfl,⟨i+1,rfl,by omega,?_⟩,?_⟩
    .rw [MJ,ahO,A,gA h2];simp[mS,I]
    grind
   |false=>
    right;refine⟨_,rfl,?_⟩;symm;rw[ahP];exact⟨l[i],gR h2,by simp[mS,I,Bool.false_ne_true]⟩
  right;rw[bc,au];refine⟨_,rfl,?_⟩;rw[<-A,rG (by omega)]) ((0,()),(),()) ⟨0,rfl,by omega,rfl⟩
 exact e
theorem aey{x:bQ}(h:dI 500000000000 x):E5 x=ab (fp (av x)):=by
 unfold E5 AY;rw[ah,at7 (by simp) (λq A=>by
  simp at A;rcases A with rfl|rfl|rfl|rfl|rfl|rfl<;>try(first|exact h.1|exact h.2.1|exact h.2.2.1|exact h.2.2.2.1|exact h.2.2.2.2.2;done)
  exact h.2.2.2.2.1)]
 rfl
def wide:Nat:=1000000000
theorem bp.low{x:DQ}(h:bp wide x):bp mid x:=h.mono (by trivial)
theorem jw{q:Rat}{k m:Nat}(h:QS k q)(hm:k<=m:=by omega):QS m q:=⟨ahz h.1 (xv hm),ahz h.2 (xv hm)⟩
theorem pV{a b:Rat}{k m:Nat}(A:QS k a)(I:QS m b):QS (k+m) (a*b):=by
 have h:=zt (a.num*b.num) (a.den*b.den) (vo (hV a) (hV b));rw[<-VE,pd,pd]at h;have J:=ft A.1 I.1;have U:=ft (fD A) (fD I);exact⟨by omega,by omega⟩
theorem EP{a b:Rat}{k m:Nat}(A:QS k a)(I:QS m b):QS (k+m+1) (a+b):=by
 have h:=zt (a.num*b.den+b.num*a.den) (a.den*b.den) (vo (hV a) (hV b));rw[Nc]at h;have U:=ft A.1 (fD I);have J:=ft I.1 (fD A);rw[Gk m k]at J;have Z:=ft (fD A) (fD I);exact⟨by omega,by omega⟩
theorem aee{a b:Rat}{k m:Nat}(A:QS k a)(I:QS m b):QS (k+m+1) (a-b):=by
 have h:=zt (a.num*b.den-b.num*a.den) (a.den*b.den) (vo (hV a) (hV b));rw[af8]at h;have J:=ft I.1 (fD A);rw[Gk m k]at J;have U:=ft (fD A) (fD I);have Z:=u6 (ft A.1 (fD I)) (b:= -(b.num*a.den));exact⟨by omega,by omega⟩
theorem XB{x:bQ}(h:dI wide x):y9 x=ab (nq ((av x).a*(av x).d-(av x).b*(av x).c)):=by
 have s:=rW h (by trivial)
 unfold y9;rw[EO h.1.low h.2.2.2.1.low,ah,EO h.2.1.low h.2.2.1.low,ah,aea (x:=nq (qv x.1*qv x.2.2.2.1)) (y:=nq (qv x.2.1*qv x.2.2.1)) ((fo (pV s.1 s.2.2.2.1)).mono (by trivial)) ((fo (pV s.2.1 s.2.2.1)).mono (by trivial))]
 simp[av,iA]
theorem aeA{x:bQ}(h:dI wide x):xD x=ab (nq ((av x).a*(av x).d-(av x).b*(av x).c)):=by
 have s:=rW h (by trivial)
 unfold xD;rw[aeL h.1.low h.2.2.2.1.low,ah,aeL h.2.1.low h.2.2.1.low,ah,aut (x:=nq (qv x.1*qv x.2.2.2.1)) (y:=nq (qv x.2.1*qv x.2.2.1)) ((fo (pV s.1 s.2.2.2.1)).mono (by trivial)) ((fo (pV s.2.1 s.2.2.1)).mono (by trivial))]
 simp[av,iA]
theorem CN(a b:Rat):aj ((a.num*b.den-b.num*a.den).sign) 0=decide (a=b):=by
 rw[Qa];have key:a.num*b.den-b.num*a.den=0↔a=b:=by
  have h:=Rat.divInt_eq_divInt_iff (n₁:=a.num) (n₂:=b.num) (hV a) (hV b);rw[pd,pd]at h;rw[h];omega
 grind
def wh(s t:Af):Bool:=decide (s.a=t.a)&&(decide (s.b=t.b)&&(decide (s.c=t.c)&&(decide (s.d=t.d)&&(decide (s.e=t.e)&&(decide (s.f=t.f)&&ag)))))
theorem V3{x y:bQ}(A:dI wide x)(I:dI wide y):tJ x y=ab (wh (av x) (av y)):=by
 have s:=(xf (rW A (by unfold wide;omega))).mono (m:=mid) (by unfold wide mid;omega)
 have t:=(xf (rW I (by unfold wide;omega))).mono (m:=mid) (by unfold wide mid;omega)
 unfold tJ;rw[J0 (A.mono (by unfold wide aP;omega)),ah,J0 (I.mono (by unfold wide aP;omega)),ah,sH s.1 t.1,sH s.2.1 t.2.1,sH s.2.2.1 t.2.2.1,sH s.2.2.2.1 t.2.2.2.1,sH s.2.2.2.2.1 t.2.2.2.2.1,sH s.2.2.2.2.2 t.2.2.2.2.2]
 unfold na wh;dsimp only;simp only[ah,iA,CN];cases decide ((av x).a=(av y).a)<;>cases decide ((av x).b=(av y).b)<;>cases decide ((av x).c=(av y).c)<;>cases decide ((av x).d=(av y).d)<;>cases decide ((av x).e=(av y).e)<;>cases decide ((av x).f=(av y).f)<;>rfl
theorem avc{l m:List Rat}(U:l.length=m.length)(Z:l.length<=1099511627776)(h:∀q∈l,QS 1099511627776 q):E0 (l.map nq) (m.map nq)=ab (decide (l=m)):=by
 unfold E0;have a:(l.map nq).length=l.length:=gg ..;have b:(m.map nq).length=m.length:=gg ..;rw[cT,cg,au];obtain⟨r,e,rfl⟩:=eW (step:=S6 (l.map nq) (m.map nq)) (λs=>∃i:Nat,s=(((i:Int),()),(),())/\i<=l.length/\l.take i=m.take i) (λs=>((l.length:Int)-s.1.1).toNat) (λr=>r=decide (l=m)) (by
  rintro _ ⟨i,rfl,hi,I⟩;unfold S6;dsimp only;by_cases h2:i< l.length
  .have J:i< m.length:=by omega
   rw[bh,ao,cH,cH,Vo,Vo,avd _ _ (h _ (gR h2)),ah];by_cases A:l[i]=m[i]
   .left;rw[decide_eq_true A,cg,au,aw];refine⟨_,rfl,⟨i+1,rfl,by omega,?_⟩,?_⟩
    .rw [MJ,MJ,I,gA h2,gA J,A]
    grind
   right;rw[decide_eq_false A,fO,ao];refine⟨_,rfl,(decide_eq_false λe=>A ?_).symm⟩
   subst e;rfl
  right;rw[bc,au];refine⟨_,rfl,(decide_eq_true ?_).symm⟩;rw[rG (by omega),rG (by omega)]at I
  exact I) ((0,()),(),()) ⟨0,rfl,by omega,rfl⟩
 exact e
theorem at6{x y:bQ}(I:dI wide x)(U:dI wide y):AZ x y=ab (wh (av x) (av y)):=by
 have s:=rW I (by simp[wide])
 have A:wide<=1099511627776:=by simp[wide]
 unfold AZ S8 AY;rw[aeH (I.mono (by simp[wide])),aeH (U.mono (by simp[wide])),ah]
 have e:=avc (l:=[(av x).a,(av x).b,(av x).c,(av x).d,(av x).e,(av x).f]) (m:=[(av y).a,(av y).b,(av y).c,(av y).d,(av y).e,(av y).f]) rfl (by simp) (λq J=>by
  simp at J;rcases J with rfl|rfl|rfl|rfl|rfl|rfl
  .exact jw s.1 A
  .exact jw s.2.1 A
  .exact jw s.2.2.1 A
  .exact jw s.2.2.2.1 A
  .exact jw s.2.2.2.2.1 A
  exact jw s.2.2.2.2.2 A)
 have e:E0 [(na (av x)).1,(na (av x)).2.1,(na (av x)).2.2.1,(na (av x)).2.2.2.1,(na (av x)).2.2.2.2.1,(na (av x)).2.2.2.2.2.1] [(na (av y)).1,(na (av y)).2.1,(na (av y)).2.2.1,(na (av y)).2.2.2.1,(na (av y)).2.2.2.2.1,(na (av y)).2.2.2.2.2.1]=_:=e;simp[e,ah,wh]
theorem Bn{x y z u:DQ}(I:bp wide x)(J:bp wide y)(U:bp wide z)(Z:bp wide u):rR x y z u=ab (nq (qv x*qv y+qv z*qv u)):=by
 have A:1<=wide:=by simp[wide]
 unfold rR;rw[EO I.low J.low,ah,EO U.low Z.low,ah,EM (x:=nq (qv x*qv y)) (y:=nq (qv z*qv u)) ((fo (pV (eI I A) (eI J A))).mono (by simp[wide,mid])) ((fo (pV (eI U A) (eI Z A))).mono (by simp[wide,mid])),ah,iA,iA]
theorem u9{x y z u:Rat}(A:QS wide x)(I:QS wide y)(J:QS wide z)(U:QS wide u):QS (4*wide+1) (x*y+z*u):=jw (EP (pV A I) (pV J U))
def mD(t:Af)(x y:Rat):Rat×Rat:=(t.a*x+t.c*y+t.e,t.b*x+t.d*y+t.f)
theorem Wg{x:bQ}{y z:DQ}(A:dI wide x)(I:bp wide y)(J:bp wide z):Cn x y z=ab (nq (mD (av x) (qv y) (qv z)).1,nq (mD (av x) (qv y) (qv z)).2,()):=by
 have U:1<=wide:=by simp[wide]
 have s:=rW A U;have sy:=eI I U;have sz:=eI J U;unfold Cn;rw[Bn A.1 I A.2.2.1 J,ah,EM (x:=nq (qv x.1*qv y+qv x.2.2.1*qv z)) ((fo (u9 s.1 sy s.2.2.1 sz)).mono (by simp[wide,mid])) A.2.2.2.2.1.low,ah,Bn A.2.1 I A.2.2.2.1 J,ah,EM (x:=nq (qv x.2.1*qv y+qv x.2.2.2.1*qv z)) ((fo (u9 s.2.1 sy s.2.2.2.1 sz)).mono (by simp[wide,mid])) A.2.2.2.2.2.low,iA,iA]
 rfl
def hf:Rat:=kW 1 2
def xK(q:Rat):Int×Bool×Unit:=FQ (q+hf).floor
def ou(t:Af)(p:aJ):aJ×Int×Unit:=
 if fp t=af then((0,0,()),5,())else if br p=af then((0,0,()),6,())else
  if((xK (mD t p.1 p.2.1).1).2.1&&((xK (mD t p.1 p.2.1).2).2.1&&br ((xK (mD t p.1 p.2.1).1).1,(xK (mD t p.1 p.2.1).2).1,())))=ag then(((xK (mD t p.1 p.2.1).1).1,(xK (mD t p.1 p.2.1).2).1,()),0,())else((0,0,()),6,())
theorem AQ{x:Int}(A:-4294967295<=x:=by omega)(h1:x<=4294967295:=by omega):QS 1 (x:Rat):=⟨by
 show((x.natAbs):Int)< 4294967296;omega,by
 simp⟩
theorem Zi:QS 1 hf:=by
 have h:=zt 1 2;refine⟨?_,?_⟩
 .show ((kW 1 2).num.natAbs:Int)< 4294967296;omega
 show((kW 1 2).den:Int)< 4294967296;omega
theorem Wc{t:Af}{x y:Rat}(A:AS wide t)(I:QS wide x)(J:QS wide y):QS (5*wide+2) (mD t x y).1/\QS (5*wide+2) (mD t x y).2:=
 ⟨jw (EP (u9 A.1 I A.2.2.1 J) A.2.2.2.2.1),jw (EP (u9 A.2.1 I A.2.2.2.1 J) A.2.2.2.2.2)⟩
theorem iz{p:aJ}(h:br p=ag): -1048576<=p.1/\p.1<=1048576/\ -1048576<=p.2.1/\p.2.1<=1048576:=by
 simp_all[br,h,aM,decide_eq_true_eq]
theorem al0{q:Rat}{k:Nat}(h:QS k q):((q.floor).natAbs:Int)< 4294967296^(k+1):=by
 have e:q.floor=q.num/(q.den):=by
  unfold Rat.floor;grind
 have:=ahE q.num q.den;have:=h.1;omega
theorem aeX{q:Rat}(h:QS (5*wide+2) q):((lB (nq q) (nq hf)).bind λA=>(sL A).bind λI=>ss I)=ab (xK q):=by
 have o:=EP h Zi;rw[EM ((fo h).mono (by simp[wide,mid])) ((fo Zi).mono (by simp[mid])),ah,iA,iA,ad8 ((fo o).mono (by simp[wide,mid])),ah,iA,agO ((dA (al0 o)).mono (by simp[wide,aP])),bL]
 rfl
theorem afB{α β γ δ:Type}(a:Option α)(f:α->Option β)(g:β->Option γ)(k:γ->Option δ):(a.bind λx=>(f x).bind λy=>(g y).bind k)=(a.bind λx=>(f x).bind g).bind k:=by
 grind
theorem ai8{x:bQ}{p:aJ}(h:dI wide x):GN x p=ab (ou (av x) p):=by
 have A:1<=wide:=by simp[wide]
 unfold GN ou;rw[Cl (h.mono (by simp[wide,aP])),ah]
 cases a:fp (av x)with
 |false=>simp
 |true=>
  rw[cg,au,p9,ah];cases hp:br p with
  |false=>simp
  |true=>
   have hi:=iz hp;have J:=jw (AQ (x:=p.1)) A;have sy:=jw (AQ (x:=p.2.1)) A;obtain⟨U,Z⟩:=Wc (rW h A) J sy;rw[cg,au,xw,ah,xw,ah,Wg h (fo J) (fo sy),ah,ad9,ax (by omega),ah,iA,iA]
   dsimp only;rw[afB,show((lB (nq (mD (av x) p.1 p.2.1).1) (nq (kW 1 2))).bind λI=>(sL I).bind ss)=_ from aeX U,ah,afB,show((lB (nq (mD (av x) p.1 p.2.1).2) (nq (kW 1 2))).bind λI=>(sL I).bind ss)=_ from aeX Z,ah,cO,ah,p9,ah,cO,yg]
   grind
def comp(s t:Af):Af:=⟨t.a*s.a+t.c*s.b,t.b*s.a+t.d*s.b,t.a*s.c+t.c*s.d,t.b*s.c+t.d*s.d,(mD t s.e s.f).1,(mD t s.e s.f).2⟩
def lT:Af:=⟨1,0,0,1,0,0⟩
theorem ann:GQ=ab (na lT):=by
 unfold GQ Ng vV;rw[xw,xw,ah];rfl
theorem ajD{x y:bQ}(A:dI wide x)(I:dI wide y):GR x y=ab (na (comp (av x) (av y))):=by
 unfold GR vV;rw[Wg I A.2.2.2.2.1 A.2.2.2.2.2,Bn I.1 A.1 I.2.2.1 A.2.1,Bn I.2.1 A.1 I.2.2.2.1 A.2.1,Bn I.1 A.2.2.1 I.2.2.1 A.2.2.2.1,Bn I.2.1 A.2.2.1 I.2.2.2.1 A.2.2.2.1,ah];rfl
theorem akJ{s t:Af}(A:AS wide s)(I:AS wide t):AS (5*wide+2) (comp s t):=by
 obtain⟨J,U⟩:=Wc I A.2.2.2.2.1 A.2.2.2.2.2;exact⟨jw (u9 I.1 A.1 I.2.2.1 A.2.1),jw (u9 I.2.1 A.1 I.2.2.2.1 A.2.1),jw (u9 I.1 A.2.2.1 I.2.2.1 A.2.2.2.1),jw (u9 I.2.1 A.2.2.1 I.2.2.2.1 A.2.2.2.1),J,U⟩
theorem asD{q:Rat}(h:mS q=ag):QS 8 q:=by
 have h:=of_decide_eq_true h;have a:=D3 q.num.natAbs;have b:=D3 q.den;have c:2^dN q.num.natAbs<=2^256:=tr (by omega) (b8 (Nat.le_max_left _ _) h)
 have d:2^dN q.den<=2^256:=tr (by omega) (b8 (Nat.le_max_right _ _) h)
 unfold QS;omega
theorem RL{t:Af}(h:fp t=ag):AS wide t:=by
 unfold fp at h;simp only[aM]at h;have m:∀{q},mS q=ag->QS wide q:=λh=>jw (asD h) (by simp[wide])
 exact⟨m h.1,m h.2.1,m h.2.2.1,m h.2.2.2.1,m h.2.2.2.2.1,m h.2.2.2.2.2.1⟩
theorem Z0:AS wide lT:=by
 have A:1<=wide:=by simp[wide]
 have a:=jw (AQ (x:=1)) A;have b:=jw (AQ (x:=0)) A;exact⟨a,b,b,a,b,b⟩
def chain:Af->List Af->Option Af
 |s,[]=>ab s
 |s,t::l=>if fp t=ag/\fp (comp s t)=ag then chain (comp s t) l else none
theorem N2(s t:Af)(l:List Af):chain s (t::l)=if fp t=ag/\fp (comp s t)=ag then chain (comp s t) l else none:=rfl
def zA:bQ:=(((af,[],()),(af,[],()),()),((af,[],()),(af,[],()),()),((af,[],()),(af,[],()),()),((af,[],()),(af,[],()),()),((af,[],()),(af,[],()),()),((af,[],()),(af,[],()),()),())
def xn(o:Option Af):bQ×Int×Unit:=match o with
 |some t=>(na t,0,())
 |none=>(zA,5,())
theorem W1:∀(l:List Af) (s:Af),l.all fp=af->chain s l=none
 |[],_,h=>by cases h
 |t::l,s,h=>by
  rw[N2];split
  .rename_i h1;refine W1 l _ ?_;rw[vp,h1.1,lG]at h;exact h
  rfl
theorem akL{l:List bQ}(a:l.length<=1099511627776)(h:∀x∈l,dI wide x):GO l=ab (xn (chain lT (l.map av))):=by
 unfold GO;rw[ann,ah];obtain⟨r,e,rfl⟩:=eW (step:=Nd l (na lT)) (λs=>∃i:Nat,∃z,s=(((i:Int),()),(z,()),())/\i<=l.length/\((l.take i).map av).all fp=ag) (λs=>((l.length:Int)-s.1.1).toNat) (λr=>r=xn (chain lT (l.map av))) (by
  rintro _ ⟨i,z,rfl,hi,J⟩;unfold Nd;dsimp only;by_cases h2:i< l.length
  .have Z:=h _ (gR h2);rw[bh,ao,cH h2,Cl (Z.mono (by unfold wide aP;omega)),ah]
   cases A:fp (av l[i])with
   |false=>
    right;rw[fO,ao];refine⟨_,rfl,?_⟩;rw[W1 _ _ (ahP.2 ⟨av l[i],kl.2 ⟨_,gR h2,rfl⟩,by rw[A];exact ag1⟩)]
    rfl
   |true=>
    left;rw[cg,au,aw];refine⟨_,rfl,⟨i+1,_,rfl,by omega,?_⟩,?_⟩
    .rw [MJ,ml,ahO,J,gA h2];show(ag&&(fp (av l[i])&&ag))=ag;rw[A];rfl
    show((l.length:Int)-((i:Int)+1)).toNat<((l.length:Int)-(i:Int)).toNat;omega
  right;rw[bc,au];rw[rG (by omega)]at J
  have e:∀z,aA (GP l) ((0,()),(z,na lT,()),())=ab (xn (chain lT (l.map av))):=λz=>by
   obtain⟨r,e,rfl⟩:=eW (step:=GP l) (λs=>∃i:Nat,∃z,∃t:Af,s=(((i:Int),()),(z,na t,()),())/\i<=l.length/\AS wide t/\chain lT (l.map av)=chain t ((l.drop i).map av)) (λs=>((l.length:Int)-s.1.1).toNat) (λr=>r=xn (chain lT (l.map av))) (by
   rintro _ ⟨i,z,t,rfl,hi,U,I⟩;unfold GP;dsimp only;by_cases h2:i< l.length
   .have A:fp (av l[i])=ag:=List.all_eq_true.1 J _ (kl.2 ⟨_,gR h2,rfl⟩);rw[il h2,List.map_cons,N2]at I;rw[bh,ao,cH h2,ajD (xf U) (h _ (gR h2)),ah,Cl ((xf (akJ (by rw[G3];exact U) (RL A))).mono (by unfold wide aP;omega)),ah,G3,G3]
    cases hp:fp (comp t (av l[i]))with
    |false=>
     right;rw[fO,ao];refine⟨_,rfl,?_⟩;rw[I,ax (by rw[hp];exact λh=>ag1 h.2)]
     rfl
    |true=>
     left;rw[cg,au,aw];refine⟨_,rfl,⟨i+1,_,_,rfl,by omega,RL hp,?_⟩,?_⟩
     .rw [I,aK ⟨A,hp⟩]
     show((l.length:Int)-((i:Int)+1)).toNat<((l.length:Int)-(i:Int)).toNat;omega
   right;rw[bc,au];unfold Nf vV;rw[J0 ((xf U).mono (by unfold wide aP;omega)),ah,ah,ah,ah]
   refine⟨_,rfl,?_⟩;rw[I,g8 (by omega),G3]
   rfl) ((0,()),(z,na lT,()),()) ⟨0,z,lT,rfl,by omega,Z0,rfl⟩
   exact e
  rw[e];exact⟨_,rfl,rfl⟩) _ ⟨0,_,rfl,by omega,rfl⟩
 exact e
section
def nm(k:Int):Int:=if k=1 then 1 else if k=2 then 1 else if k=3 then 2 else if k=4 then 3 else if k=5 then 0 else -1
theorem Rx(k:Int):pR k=ab (nm k):=by
 unfold pR nm adG
 by_cases h1:k=1
 .subst h1;rfl
 by_cases h2:k=2
 .subst h2;rfl
 by_cases A:k=3
 .subst A;rfl
 by_cases I:k=4
 .subst I;rfl
 rw[bK I,au,bK A,au,bK h1,au,bK h2,au,iZ,ax h1,ax h2,ax A,ax I]
 by_cases J:k=5
 .subst J;rfl
 .rw [bK J,au,ax J]
theorem auh(k:Int):KT k=ab (nm k):=by
 unfold KT nm aev
 by_cases h1:k=1
 .subst h1;rfl
 by_cases h2:k=2
 .subst h2;rfl
 by_cases A:k=3
 .subst A;rfl
 by_cases I:k=4
 .subst I;rfl
 by_cases J:k=5
 .subst J;rfl
 rw[bK h1,au,iZ,bK h2,au,bK A,au,bK I,au,bK J,au,ax h1,ax h2,ax A,ax I,ax J]
def lq(p:aJ):Bool:=aj p.1 0&&(aj p.2.1 0&&ag)
theorem anG{p:aJ}(h:lq p=ag):br p=ag:=by
 unfold lq at h
 rw[aM,aM,fB,fB]at h
 have a:=of_decide_eq_true h.1
 have b:=of_decide_eq_true h.2.1
 unfold br
 simp only[aM,decide_eq_true_eq]
 omega
def mF(n i:Int)(p:aJ):Bool:=bif ai n i then lq p else br p
theorem OW(n i:Int)(p:aJ):((aW (!br p) ((ab n).bind λA=>(aG (ai A i) (ab !lq p)).bind λI=>ab I)))=ab (!mF n i p):=by
 rw[ah,cO,ah,cI]
 unfold mF
 cases h:lq p
 .cases ai n i<;>cases br p<;>rfl
 .rw [anG h]
  cases ai n i<;>rfl
theorem alX(n i:Int)(p:aJ):((aG (ak i n) ((ab (br p)).bind λA=>ab !A)).bind λI=>(aW I ((aG (ai n i) (ab !lq p)).bind λJ=>ab J)))=ab (!mF n i p):=by
 have e:ak i n= !ai n i:=by
  by_cases h:n<=i
  .rw [bc h,bV h];rfl
  .rw [bh,dh];rfl
 rw[e,ah,cO,ah,cO,ah,cI]
 unfold mF
 cases ai n i<;>cases lq p<;>cases br p<;>rfl
def qE(x:ct):Bool:=mF (nm x.1) 0 x.2.1&&(mF (nm x.1) 1 x.2.2.1&&mF (nm x.1) 2 x.2.2.2.1)
theorem alY(x:ct):Kr x=ab (qE x):=by
 unfold Kr qE
 show((iS x.2.1).bind λA=>(aW (!A) ((pR x.1).bind λz=>(aG (ai z 0) (ab !lq x.2.1)).bind λz=>ab z)).bind λI=>bif I then ab af else(iS x.2.2.1).bind λJ=>(aW (!J) ((pR x.1).bind λz=>(aG (ai z 1) (ab !lq x.2.2.1)).bind λz=>ab z)).bind λU=>bif U then ab af else(iS x.2.2.2.1).bind λZ=>(aW (!Z) ((pR x.1).bind λz=>(aG (ai z 2) (ab !lq x.2.2.2.1)).bind λz=>ab z)).bind λu8=>bif u8 then ab af else ab ag)=_
 simp only[Rx,p9]
 rw[ah,OW,ah]
 cases mF (nm x.1) 0 x.2.1
 .rfl
 .rw [cg,au,ah,OW,ah]
  cases mF (nm x.1) 1 x.2.2.1
  .rfl
  .rw [cg,au,ah,OW,ah]
   cases mF (nm x.1) 2 x.2.2.2.1<;>rfl
end
section
def gO(p:Int)(s:ct):Int:=bif ak (nm s.1) 0 then 2 else bif !(aj s.1 1||(!aj p 5&&(!aj s.1 5||!aj p 1)))then 10 else bif !qE s then 6 else 0
def po:Int->Nat->List ct->aJ
 |_,_,[]=>(0,0,())
 |p,i,s::l=>bif aj (gO p s) 0 then po s.1 (i+1) l else(gO p s,(i:Int),())
theorem Hi(p:Int)(i:Nat)(s:ct)(l:List ct):po p i (s::l)=bif aj (gO p s) 0 then po s.1 (i+1) l else(gO p s,(i:Int),()):=rfl
def pq(x:List ct):aJ:=if 256< x.length then(5,256,())else po 5 0 x
theorem atn(x:List ct):Kp x=ab (pq x):=by
 unfold Kp pq;by_cases I:256< x.length<;>try(rw[bh,ao,aK I];done)
 rw[bc,au,ax I]
 obtain⟨r,e,rfl⟩:=eW (step:=Sj x) (λs=>∃i:Nat,∃p:Int,s=((p,(i:Int),()),(),())/\i<=x.length/\po 5 0 x=po p i (x.drop i)) (λs=>((x.length:Int)-s.1.2.1).toNat) (λr=>r=po 5 0 x) (by
  rintro _ ⟨i,p,rfl,hi,A⟩;unfold Sj;dsimp only;by_cases h2:i< x.length
  .rw [il h2,Hi]at A;rw[bh,ao,cH h2,cI,ah,cO,ah,cI,ah,Rx,ah,alY,ah,aw]
   unfold gO at A;cases J:ak (nm x[i].1) 0 with
   |true=>
    right;rw[J,ao,bK,au]at A
    exact⟨_,rfl,A.symm⟩
   |false=>
    rw[J,au]at A;cases U:(aj x[i].1 1||(!aj p 5&&(!aj x[i].1 5||!aj p 1)))with
    |false=>
     right;rw[U,fO,ao,bK,au]at A
     exact⟨_,rfl,A.symm⟩
    |true=>
     rw[U,cg,au]at A;cases Z:qE x[i]with
     |false=>
      right;rw[Z,fO,ao,bK,au]at A
      exact⟨_,rfl,A.symm⟩
     |true=>
      left;rw[Z,cg,au,cT rfl,ao]at A;refine⟨_,rfl,⟨i+1,x[i].1,rfl,by omega,A⟩,?_⟩
      show((x.length:Int)-((i:Int)+1)).toNat<((x.length:Int)-(i:Int)).toNat;omega
  right;rw[bc,au]
  refine⟨_,rfl,?_⟩;rw[A,g8 (by omega)]
  rfl) ((5,0,()),(),()) ⟨0,5,rfl,by omega,rfl⟩
 exact e
theorem Ko(x:List ct):xp x=ab (aj (pq x).1 0):=by
 simp[xp,atn,ah]
theorem OX{β:Type}(n i:Int)(p:aJ)(k:Bool->Option β):((aG (ak i n) ((ab (br p)).bind λA=>ab !A)).bind λI=>(aW I ((aG (ai n i) (ab !lq p)).bind λJ=>ab J)).bind k)=k (!mF n i p):=by
 rw[<-Option.bind_assoc,alX,ah]
def sD(x:List ct)(i:Nat):Int:=if i=0 then 5 else(match x[i-1]? with|some s=>s.1|none=>5)
theorem avP{x:List ct}{i:Nat}(h:i< x.length)(J:x.length<=256):KU x (i:Int)=ab (aj x[i].1 1||(!aj (sD x i) 5&&(!aj x[i].1 5||!aj (sD x i) 1))):=by
 unfold KU sD;have A:∀k,(aj k 1||(!aj k 5))= !aj k 5:=λk=>by
  by_cases h:k=1;all_goals simp[bK,h]
 by_cases I:i=0
 .subst I;rw[cT,Kb,ah,cH h];show ab _=ab (_||(af&&_))
  simp
 have h1:i-1< x.length:=by omega
 rw[bK,nS,aw,show(i)-1=((i-1:Nat):Int) by omega,cH h1,ah,ax I,gA h1]
 cases U:aj x[i-1].1 5<;>first|rw[au,cH h,cH h1,cI,ah,fO,lG,<-Bool.or_assoc,A]|rw[ao,cH h,cg,n5,vf]
theorem awL{x:List ct}{i:Nat}(h:i< x.length)(Z:x.length<=256:=by omega):KV x (i:Int)=ab (gO (sD x i) x[i]):=by
 unfold KV gO Ta;rw[cH h,auh,ah,avP h Z];cases a:ak (nm x[i].1) 0 with
 |true=>rfl
 |false=>
  cases b:(aj x[i].1 1||(!aj (sD x i) 5&&(!aj x[i].1 5||!aj (sD x i) 1)))
  .rfl
  rw[cH h];show((aG (ak 0 (nm x[i].1)) ((oQ x[i].2.1).bind λA=>ab !A)).bind λI=>(aW I ((aG (ai (nm x[i].1) 0) (ab !lq x[i].2.1)).bind λJ=>ab J)).bind λU=>bif U then ab 6 else(aG (ak 1 (nm x[i].1)) ((oQ x[i].2.2.1).bind λA=>ab !A)).bind λI=>(aW I ((aG (ai (nm x[i].1) 1) (ab !lq x[i].2.2.1)).bind λJ=>ab J)).bind λU=>bif U then ab 6 else(aG (ak 2 (nm x[i].1)) ((oQ x[i].2.2.2.1).bind λA=>ab !A)).bind λI=>(aW I ((aG (ai (nm x[i].1) 2) (ab !lq x[i].2.2.2.1)).bind λJ=>ab J)).bind λU=>bif U then ab 6 else ab 0)=_
  simp only[aeR];rw[OX];unfold qE;cases mF (nm x[i].1) 0 x[i].2.1<;>try grind
  rw[cg,OX];cases mF (nm x[i].1) 1 x[i].2.2.1
  .rfl
  rw[OX];grind
theorem aub(x:List ct):KS x=ab (pq x):=by
 unfold KS pq;by_cases I:256< x.length<;>try(rw[bh,ao,aK I];done)
 rw[bc,au,ax I]
 obtain⟨r,e,rfl⟩:=eW (step:=S9 x) (λs=>∃i:Nat,s=(((i:Int),()),(),())/\i<=x.length/\po 5 0 x=po (sD x i) i (x.drop i)) (λs=>((x.length:Int)-s.1.1).toNat) (λr=>r=po 5 0 x) (by
  rintro _ ⟨i,rfl,hi,A⟩;unfold S9;dsimp only;by_cases h2:i< x.length
  .rw [il h2,Hi]at A;rw[bh,ao,awL h2,ah,aw]
   cases J:aj (gO (sD x i) x[i]) 0 with
   |false=>
    right;rw[J,au]at A;exact⟨_,rfl,A.symm⟩
   |true=>
    left;rw[J,ao]at A;refine⟨_,rfl,⟨i+1,rfl,by omega,?_⟩,?_⟩
    .rw [A];congr 1;unfold sD;grind
    grind
  right;rw[bc,au]
  refine⟨_,rfl,?_⟩;rw[A,g8 (by omega)]
  rfl) ((0,()),(),()) ⟨0,rfl,by omega,rfl⟩
 exact e
theorem aeJ(x:List ct):A0 x=ab (aj (pq x).1 0):=by
 simp[A0,aub,ah]
end
section
def wJ(y:Int):=ai 0 y&&ai y 1048576
def zy:Bool->Nat->List Int->Bool
 |b,n,[]=>b&&(aj (Int.tmod (n:Int) 2) 0&&ai n 16)
 |b,n,y::l=>bif wJ y then zy (b||ak 0 y) n l else af
theorem XX b n y l:zy b n (y::l)=bif wJ y then zy (b||ak 0 y) n l else af:=rfl
def we(l:List Int):=zy (aj l.length 0) l.length l
theorem asw y:(ak y 0||ak 1048576 y)= !wJ y:=by
 unfold wJ;by_cases h:y< 0
 .simp[bh,h,dh]
 by_cases h2:1048576< y
 .rw [bc,bh h2,bV,dh h2];rfl
 rw[bc,bc,bV,bV];rfl
theorem akY{l:List Int}(J:l.length<=1099511627776):T7 l=ab (we l):=by
 obtain⟨r,e,rfl⟩:=eW (step:=T8 l) (λs=>∃i:Nat,∃b:Bool,s=((b,(i:Int),()),(),())/\i<=l.length/\we l=zy b _ (l.drop i)) (λs=>(l.length)-s.1.2.1.toNat) (λr=>r=we l) (by
  rintro _ ⟨i,b,rfl,hi,A⟩;unfold T8;dsimp only;by_cases h2:i< l.length
  .rw [il h2,XX]at A;rw[bh,cH h2,cI,asw,cI,aw];cases I:wJ _ with
   |false=>
    right;rw[I]at A;exact⟨_,rfl,A.symm⟩
   |true=>
    left;rw[I]at A;refine⟨_,rfl,⟨i+1,_,rfl,by omega,A⟩,?_⟩
    grind
  right;rw[bc,cO,ah,cO,ah];refine⟨_,rfl,?_⟩;rw[A,g8 (by omega),yg]
  rfl) ((aj (l.length) 0,0,()),(),()) ⟨0,_,rfl,by omega,rfl⟩
 exact e
theorem auc{l:List Int}(J:l.length<=1099511627776):Td l=ab (we l):=by
 obtain⟨r,e,rfl⟩:=eW (step:=Te l) (λs=>∃i:Nat,∃b:Bool,s=((b,(i:Int),()),(),())/\i<=l.length/\we l=zy b _ (l.drop i)) (λs=>(l.length)-s.1.2.1.toNat) (λr=>r=we l) (by
  rintro _ ⟨i,b,rfl,hi,A⟩;unfold Te sJ;dsimp only;by_cases h2:i< l.length
  .rw [il h2,XX]at A;rw[bh,cH h2,cO,cH h2,cI,aw,show(ai 0 _&&ai _ _)=wJ _ from rfl];cases I:wJ _ with
   |false=>
    right;rw[I]at A;exact⟨_,rfl,A.symm⟩
   |true=>
    left;rw[I]at A;refine⟨_,rfl,⟨i+1,_,rfl,by omega,A⟩,?_⟩
    grind
  right;rw[bc,cO,ah,cO,ah];refine⟨_,rfl,?_⟩;rw[A,g8 (by omega),yg,ag0 (ai _ _)]
  rfl) ((aj (l.length) 0,0,()),(),()) ⟨0,_,rfl,by omega,rfl⟩
 exact e
def EE(x:rJ):=ai 1 x.1&&ai x.1 16384&&(ai 1 x.2.1&&ai x.2.1 3)&&(ai 3 x.2.2.1&&ai x.2.2.1 5)&&(ai 256 x.2.2.2.1&&ai x.2.2.2.1 65536)&&we x.2.2.2.2.1&&(ai 0 x.2.2.2.2.2.1&&ai x.2.2.2.2.2.1 1048576)
theorem three k a:(aj k a||aj k (a+1)||aj k (a+2))=(ai a k&&ai k (a+2)):=by
 by_cases h1:k=a
 .rw [cT h1,bV,bV];rfl
 by_cases h2:k=a+1
 .rw [bK h1,cT h2,bV,bV];rfl
 by_cases A:k=a+2
 .rw [bK h1,bK h2,cT A,bV,bV];rfl
 rw[bK h1,bK h2,bK A];by_cases I:a<=k
 .rw [bV I,dh];rfl
 rw[dh];rfl
theorem ato{x:rJ}(A:x.2.2.2.2.1.length<=1099511627776):LN x=ab (EE x):=by
 unfold LN T9 EE;have t1:(ai 1 _&&ai _ 3)=(aj _ 1||aj _ 2||aj _ 3):=(three x.2.1 1).symm
 have t2:(ai 3 _&&ai _ 5)=(aj _ 3||aj _ 4||aj x.2.2.1 5):=(three _ 3).symm
 rw[akY A,t1,t2];simp[cI,cO,ah,yg]
theorem auo{x:rJ}(A:x.2.2.2.2.1.length<=1099511627776):KY x=ab (EE x):=by
 unfold KY Tf sJ EE;rw[auc A];simp only[cI,cO,ah];grind
end
section
theorem Wb{α ρ:Type}{step:(Int×Unit)×Unit×Unit->Option (((Int×Unit)×Unit×Unit)⊕ρ)}(l:List α)(p:α->Bool)(A ok:ρ)
  (h1:∀(i:Nat) (h:i< l.length),step (((i:Int),()),(),())=bif p l[i]then ab (.inl ((((i:Int)+1),()),(),()))else ab (.inr A))
  (I:step (((l.length:Int),()),(),())=ab (.inr ok)):∀(k i:Nat),i+k=l.length->aA step (((i:Int),()),(),())=ab (bif(l.drop i).all p then ok else A)
 |0,i,J=>by
  have:i=l.length:=by omega
  subst this;rw[cP I,List.drop_length];rfl
 |k+1,i,J=>by
  have hi:i< l.length:=by omega
  have e:=h1 i hi;rw[il hi,vp];cases hp:p l[i]with
  |true=>
   rw[hp,ao]at e;rw[eY e,lG,show(i:Int)+1=((i+1:Nat):Int) by omega]
   exact Wb l p A ok h1 I k (i+1) (by omega)
  |false=>
   rw[hp,au]at e;rw[cP e];rfl
theorem rU{α ρ:Type}{step:(Int×Unit)×Unit×Unit->Option (((Int×Unit)×Unit×Unit)⊕ρ)}(l:List α)(p:α->Bool)(A ok:ρ)
  (h1:∀(i:Nat) (h:i< l.length),step (((i:Int),()),(),())=bif p l[i]then ab (.inl ((((i:Int)+1),()),(),()))else ab (.inr A))
  (I:step (((l.length:Int),()),(),())=ab (.inr ok)):aA step ((0,()),(),())=ab (bif l.all p then ok else A):=
 Wb l p A ok h1 I l.length 0 (by omega)
def big:Nat:=1099511627776
theorem pM{α:Type}(l:List α):aj (l.length:Int) 0=cY l:=by
 cases l
 .rfl
 rename_i a l;rw[bK (by rw[fH];omega)];rfl
theorem alv(l:List Int):LD l []=ab (cY l):=by
 unfold LD;show(bif !aj (l.length:Int) 0 then ab af else _)=_;rw[pM];cases l with
 |cons a l=>rfl
 |nil=>exact cP (by unfold afO;rfl)
theorem alw(l:List pf):LF l []=ab (cY l):=by
 unfold LF;show(bif !aj (l.length:Int) 0 then ab af else _)=_;rw[pM];cases l with
 |cons a l=>rfl
 |nil=>exact cP (by unfold afM;rfl)
theorem alx(l:List pe):LG l []=ab (cY l):=by
 unfold LG;show(bif !aj (l.length:Int) 0 then ab af else _)=_;rw[pM];cases l with
 |cons a l=>rfl
 |nil=>exact cP (by unfold afN;rfl)
def xj(x:rJ):Bool:=aj x.1 0&&aj x.2.1 0&&aj x.2.2.1 0&&aj x.2.2.2.1 0&&aj x.2.2.2.2.2.1 0&&cY x.2.2.2.2.1
theorem afr(x:rJ):Eg x (0,0,0,0,[],0,())=ab (xj x):=by
 unfold Eg xj;dsimp only;simp only[cO,ah,alv]
theorem aeG(x:bJ):A2 x=ab (xj x.2.2.2.2.2.2.2.2.2.2.2.2.2.1):=by
 unfold A2 xj;simp only[cO,ah,pM];rw[Bool.and_right_comm]
def kN(x:ny):Bool:=aj x.1 0&&aj x.2.1 0&&cY x.2.2.1
theorem Z4(x:ny):DE x (0,0,[],())=ab (kN x):=by
 unfold DE kN;dsimp only;simp only[cO,ah,alw]
def Ea(x:bJ):Bool:=kN x.2.2.2.2.2.2.2.2.2.2.2.2.2.2.2.1&&aj x.2.2.2.2.2.2.2.2.2.2.2.2.2.2.2.2.1 0
theorem auj(x:bJ):Fb x=ab (Ea x):=by
 unfold Fb Ea kN;simp only[cO,ah,pM]
def D9(x:bJ):Bool:=aj x.2.2.2.2.2.2.1 0&&aj x.2.2.2.2.2.2.2.1 0&&!x.2.2.2.2.2.2.2.2.1&&!x.2.2.2.2.2.2.2.2.2.1
theorem aui(x:bJ):Fa x=ab (D9 x):=by
 unfold Fa D9;simp only[cO,ah]
def Ec(x:bJ):Bool:=cY x.2.2.2.2.2.2.2.2.2.2.1&&aj x.2.2.2.2.2.2.2.2.2.2.2.1 0&&cY x.2.2.2.2.2.2.2.2.2.2.2.2.1&&cY x.2.2.2.2.2.2.2.2.2.2.2.2.2.2.1
theorem auk(x:bJ):Fc x=ab (Ec x):=by
 unfold Fc Ec;simp only[cO,ah,pM]
def qz(x:bJ):Bool:=bif aj x.2.1 1 then(Ec x&&xj x.2.2.2.2.2.2.2.2.2.2.2.2.2.1)&&Ea x else bif aj x.2.1 2 then D9 x&&Ea x else D9 x&&(Ec x&&xj x.2.2.2.2.2.2.2.2.2.2.2.2.2.1)
theorem ajB(x:bJ):JR x=ab (qz x):=by
 unfold JR qz;simp only[cO,ah,pM,afr,Z4];unfold Ec Ea D9;cases aj x.2.1 1<;>cases aj x.2.1 2<;>rfl
def xM(k:Int):Bool:=aj k 1||aj k 2
theorem ae5(k:Int):Ef k=ab (xM k):=by unfold Ef;rw[cI,ah];rfl
theorem aeM(k:Int):Ff k=ab (xM k):=by unfold Ff;rw[cI,ah];rfl
theorem Kv{α:Type}(l:List α):ak 0 (l.length:Int)= !cY l:=by
 cases l
 .rfl
 rename_i a l;rw[bh (by rw[fH];omega)];rfl
def tW(x:bJ):Bool:=bif cY x.2.2.2.2.1 then aj x.2.2.2.2.2.1 0 else xM x.2.2.2.2.2.1
theorem aum(x:bJ):Fe x=ab (tW x&&qz x):=by
 unfold Fe qz;simp only[aeM,auk,aeG,auj,aui,cO,cI,ah,pM,Kv];unfold tW;cases cY x.2.2.2.2.1<;>cases aj x.2.2.2.2.2.1 0<;>cases xM x.2.2.2.2.2.1<;>cases aj x.2.1 1<;>cases aj x.2.1 2<;>simp[yg]
def nU(x:pf):Bool:=ai x.1 x.2.2.2.1&&ai x.2.1 x.2.2.2.1&&ai x.2.2.1 x.2.2.2.1
theorem aup(x:pf):KZ x=ab (nU x):=by
 unfold KZ nU;simp only[cO,ah]
theorem min_eq(a b:Int):aj (bif ai a b then a else b) a=ai a b:=by
 by_cases h:a<=b
 .rw [bV h,ao,cT rfl]
 rw[dh,au,bK]
theorem atL(x:pf):Ho x=ab (nU x):=by
 unfold Ho Og nU;rw[ah];show ab (aj (bif ai x.1 x.2.2.2.1 then x.1 else x.2.2.2.1) x.1&&(aj (bif ai x.2.1 x.2.2.2.1 then x.2.1 else x.2.2.2.1) x.2.1&&(aj (bif ai x.2.2.1 x.2.2.2.1 then x.2.2.1 else x.2.2.2.1) x.2.2.1&&(aj (bif ai x.2.2.2.1 x.2.2.2.1 then x.2.2.2.1 else x.2.2.2.1) x.2.2.2.1&&ag))))=_;rw[min_eq,min_eq,min_eq,min_eq,bV (cr _)];simp[yg]
def Ui(a b:Int):Bool:=(ai 1 a&&ai a 4096)&&(ai 1 b&&ai b 4096)&&ai (w (a*b)) 65536
def sq(x:ny):Bool:=Ui x.1 x.2.1&&aj (x.2.2.1.length:Int) (w (x.1*x.2.1))&&x.2.2.1.all nU
theorem nQ(a b:Int):ak a b= !ai b a:=by
 by_cases h:a< b
 .rw [bh h,dh h];rfl
 rw[bc,bV];rfl
theorem Z3{x:ny}(I:x.2.2.1.length<=big):DG x=ab (sq x):=by
 unfold DG IF;simp only[cO,cI,ah,nQ 65536];unfold sq Ui;have A:aA (IE x) ((0,()),(),())=ab (x.2.2.1.all nU):=by
  refine(rU x.2.2.1 nU af ag (λi hi=>?_) ?_).trans (by cases x.2.2.1.all nU<;>rfl)
  .unfold IE Qd;dsimp only;rw[bh,ao,cH hi,atL,ah,ah,aw (by unfold big at I;omega) (by unfold big at I;omega),bV]
   cases nU x.2.2.1[i]<;>rfl
  unfold IE;dsimp only;rw[bc];rfl
 rw[A];cases(ai 1 x.1&&ai x.1 4096)<;>cases(ai 1 x.2.1&&ai x.2.1 4096)<;>cases ai (w (x.1*x.2.1)) 65536<;>cases aj (x.2.2.1.length:Int) (w (x.1*x.2.1))<;>rfl
theorem aeE{x:ny}(I:x.2.2.1.length<=big):E8 x=ab (sq x):=by
 unfold E8 Th;simp only[cO,cI,ah];unfold sq Ui;have A:aA (K0 x) ((0,()),(),())=ab (x.2.2.1.all nU):=by
  refine(rU x.2.2.1 nU af ag (λi hi=>?_) ?_).trans (by cases x.2.2.1.all nU<;>rfl)
  .unfold K0;dsimp only;rw[bh,ao,cH hi,aup,ah,aw (by unfold big at I;omega) (by unfold big at I;omega)]
   cases nU x.2.2.1[i]<;>rfl
  unfold K0;dsimp only;rw[bc];rfl
 rw[A];cases ai 1 x.1<;>cases ai x.1 4096<;>cases ai 1 x.2.1<;>cases ai x.2.1 4096<;>cases ai (w (x.1*x.2.1)) 65536<;>cases aj (x.2.2.1.length:Int) (w (x.1*x.2.1))<;>rfl
end
section
def gr:Int->List pe->Bool
 |_,[]=>ag
 |p,y::l=>ai p y.1&&ai y.1 65536&&gr y.1 l
def pH(x:List pe):Bool:=(ai 1 (x.length:Int)&&ai (x.length:Int) 16)&&gr 0 x
theorem YV{x:List pe}(A:x.length<=big):∀(k i:Nat) (p:Int),i+k=x.length->aA (Di x) ((p,(i:Int),()),(),())=ab (gr p (x.drop i))
 |0,i,p,J=>by
  refine cP ?_;unfold Di;dsimp only;rw[bc,g8 (by omega)];rfl
 |k+1,i,p,J=>by
  have hi:i< x.length:=by omega
  have e:Di x ((p,(i:Int),()),(),())=bif ai p x[i].1&&ai x[i].1 65536 then ab (.inl ((x[i].1,((i+1:Nat):Int),()),(),()))else ab (.inr af):=by
   unfold Di;dsimp only;rw[bh,ao,cH hi,cI,ah,aw (by unfold big at A;omega) (by unfold big at A;omega),nQ,nQ 65536]
   cases ai p x[i].1<;>cases ai x[i].1 65536<;>rfl
  rw[il hi];show _=ab (ai p x[i].1&&ai x[i].1 65536&&gr x[i].1 (x.drop (i+1)));cases I:ai p x[i].1&&ai x[i].1 65536 with
  |true=>rw[I,ao]at e;rw[eY e,lG];exact YV A k (i+1) _ (by omega)
  |false=>rw[I,au]at e;rw[cP e];rfl
theorem amn{x:List pe}(A:x.length<=big):Ik x=ab (pH x):=by
 unfold Ik pH;rw[cI,ah,nQ,nQ 16,show((0:Int),(0:Int),())=((0:Int),((0:Nat):Int),())from rfl,YV A x.length 0 0 (by omega)]
 cases ai 1 (x.length:Int)<;>cases ai (x.length:Int) 16<;>rfl
def qU(x:List pe)(i:Nat):Int:=if i=0 then 0 else(match x[i-1]? with|some s=>s.1|none=>0)
theorem aeD{x:List pe}(A:x.length<=big):∀(k i:Nat),i+k=x.length->0<=qU x i->aA (E7 x) (((i:Int),()),(),())=ab (gr (qU x i) (x.drop i)&&(ai 1 (x.length:Int)&&ai (x.length:Int) 16))
 |0,i,Z,_=>by
  refine cP ?_;unfold E7;dsimp only;rw[bc,g8 (by omega),au,cO];rfl
 |k+1,i,Z,hp=>by
  have hi:i< x.length:=by omega
  have e:E7 x (((i:Int),()),(),())=bif ai (qU x i) x[i].1&&ai x[i].1 65536 then ab (.inl ((((i+1:Nat):Int),()),(),()))else ab (.inr af):=by
   unfold E7;dsimp only;rw[bh,ao,cH hi,cH hi,cI,ah,aw (n:=(i:Int)+1) (by unfold big at A;omega) (by unfold big at A;omega),nQ 65536]
   by_cases U:i=0
   .subst U;rw[bc (x:=0) (y:=((0:Nat):Int)),tN,ah,cI,ah,nQ];show(bif !ai 0 x[0].1||!ai x[0].1 65536||false then az af else aB ((((0:Nat):Int)+1,()),(),()))=bif ai 0 x[0].1&&_ then _ else _
    cases ai 0 x[0].1<;>cases ai x[0].1 65536<;>rfl
   have h1:i-1< x.length:=by omega
   have I:qU x i=x[i-1].1:=by unfold qU;rw[ax U,gA h1]
   rw[I]at hp|-;rw[bh (x:=0) (y:=(i:Int)),ot,aw (n:=(i:Int)-1) (by unfold big at A;omega) (by unfold big at A;omega),cH hi,show(i:Int)-1=((i-1:Nat):Int) by omega,cH h1,ah,cI,ah,nQ x[i].1 x[i-1].1]
   cases a:ai x[i-1].1 x[i].1
   .rw [n5,fO,F4];rfl
   rw[lU,decide_eq_true_eq]at a;rw[bc (x:=x[i].1) (y:=0)];cases ai x[i].1 65536<;>rfl
  rw[il hi];show _=ab ((ai (qU x i) x[i].1&&ai x[i].1 65536&&gr x[i].1 (x.drop (i+1)))&&_);cases J:ai (qU x i) x[i].1&&ai x[i].1 65536 with
  |true=>
   rw[J,ao]at e;rw[eY e,lG];have I:qU x (i+1)=x[i].1:=by unfold qU;rw[ax (by omega),Gl,gA hi]
   rw[aM,lU,decide_eq_true_eq]at J;rw[<-I];exact aeD A k (i+1) (by omega) (by rw[I];omega)
  |false=>rw[J,au]at e;rw[cP e];rfl
theorem auf{x:List pe}(A:x.length<=big):E6 x=ab (pH x):=by
 unfold E6 pH;rw[show((0:Int),())=(((0:Nat):Int),())from rfl,aeD A x.length 0 (by omega) (by unfold qU;rw[aK rfl];omega),ag0]
 rfl
def oW(k:Int):Bool:=ai 1 k&&ai k 3
theorem afW(k:Int):Ez k=ab (oW k):=by unfold Ez;rw[cO,ah];rfl
theorem auw(k:Int):A1 k=ab (oW k):=by unfold A1;rw[cO,ah];rfl
theorem avS{x:eS}(h:x.2.2.2.2.2.1.length<=big):EA x=ab (pH x.2.2.2.2.2.1&&oW x.2.2.2.2.2.2.1):=by
 unfold EA;rw[amn h,ah,afW,ah,cO,ah]
theorem Mg:dI wide zA:=by
 have z:bp wide ((af,[],()),(af,[],()),()):=⟨⟨λ_ h=>(by cases h),bH _⟩,⟨λ_ h=>(by cases h),bH _⟩⟩
 exact⟨z,z,z,z,z,z⟩
def c0(x:od):Bool:=cJ LR x (0,0,0,0,())
def jb(x:aJ):Bool:=cJ aZ x (0,0,())
def Bw(t:bQ):Bool:=wh (av t) (av zA)
theorem alu(t:Af):wh t t=ag:=by unfold wh;simp
theorem zz:tJ zA zA=ab ag:=by rw[V3 Mg Mg,alu]
theorem ajA{t:bQ}(h:dI wide t):tJ t zA=ab (Bw t):=V3 h Mg
theorem aua{t:bQ}(h:dI wide t):AZ t zA=ab (Bw t):=at6 h Mg
theorem au9{t:bQ}(h:dI wide t):Ti t=ab (Bw t):=by
 show(AZ t zA).bind _=_;rw[aua h,ah]
def nF(t:Af):Bool:=decide (t.a*t.d-t.b*t.c=0)
theorem ak5{t:Af}(h:AS wide t):QS (4*wide+1) (t.a*t.d-t.b*t.c):=jw (aee (pV h.1 h.2.2.2.1) (pV h.2.1 h.2.2.1))
theorem Hx{x:bQ}(h:dI wide x):bp mid (nq ((av x).a*(av x).d-(av x).b*(av x).c)):=(fo (ak5 (rW h (by unfold wide;omega)))).mono (by unfold wide mid;omega)
theorem awS:bp mid ((af,[],()),(af,[],()),()):=⟨⟨λ_ h=>(by cases h),bH _⟩,⟨λ_ h=>(by cases h),bH _⟩⟩
theorem atW:qv ((af,[],()),(af,[],()),())=0:=by
 have:dv []=0:=by first|rfl|simp[dv]
 unfold qv;simp[zv,vN,this]
theorem RK:bp mid (nq ((0:Int):Rat)):=(fo (AQ)).mono (by unfold mid;omega)
theorem ak4{x:bQ}(h:dI wide x):((y9 x).bind λA=>(cX A ((af,[],()),(af,[],()),())).bind λI=>ab !aj I 0)=ab (!nF (av x)):=by
 rw[XB h,ah,sH (Hx h) awS,ah,iA,CN,atW];rfl
theorem awQ{x:bQ}(h:dI wide x):JX x=ab (nF (av x)):=by
 unfold JX;rw[XB h,ah,xw,ah,sH (Hx h) RK,ah,iA,iA,CN];rfl
theorem aud{x:bQ}(h:dI wide x):((xD x).bind λA=>(oP 0).bind λI=>(xz A I).bind λJ=>ab !aj J 0)=ab (!nF (av x)):=by
 rw[aeA h,ah,Tq,ah,aeK (Hx h) RK,ah,iA,iA,CN];rfl
theorem Ew(k:Int)(c:od)(p q:aJ)(r:Int)(s:List pe)(sp:Int)(i:ny)(sm:Int):
  pQ (k,c,p,q,r,s,sp,i,sm,zA,()) (k,(0,0,0,0,()),(0,0,()),(0,0,()),0,[],0,(0,0,[],()),0,zA,())=ab (c0 c&&jb p&&jb q&&aj r 0&&aj sp 0&&aj sm 0&&cY s&&kN i):=by
 unfold pQ;dsimp only;simp only[cO,ah,alx,Z4,zz,tg,cT rfl,lG];rfl
def hasB(x:eS):Bool:=
 bif aj x.1 1 then(jb x.2.2.1&&jb x.2.2.2.1&&aj x.2.2.2.2.1 0&&cY x.2.2.2.2.2.1)&&(kN x.2.2.2.2.2.2.2.1&&aj x.2.2.2.2.2.2.2.2.1 0)&&aj x.2.2.2.2.2.2.1 0&&Bw x.2.2.2.2.2.2.2.2.2.1
 else bif aj x.1 2 then(kN x.2.2.2.2.2.2.2.1&&aj x.2.2.2.2.2.2.2.2.1 0)&&c0 x.2.1&&aj x.2.2.2.2.1 0&&br x.2.2.1&&br x.2.2.2.1&&pH x.2.2.2.2.2.1&&oW x.2.2.2.2.2.2.1
 else bif aj x.1 3 then(kN x.2.2.2.2.2.2.2.1&&aj x.2.2.2.2.2.2.2.2.1 0)&&c0 x.2.1&&jb x.2.2.2.1&&br x.2.2.1&&ai 1 x.2.2.2.2.1&&ai x.2.2.2.2.1 1048576&&pH x.2.2.2.2.2.1&&oW x.2.2.2.2.2.2.1
 else aj x.1 4&&((jb x.2.2.1&&jb x.2.2.2.1&&aj x.2.2.2.2.1 0&&cY x.2.2.2.2.2.1)&&c0 x.2.1&&sq x.2.2.2.2.2.2.2.1&&(aj x.2.2.2.2.2.2.1 0||oW x.2.2.2.2.2.2.1)&&(aj x.2.2.2.2.2.2.2.2.1 1||aj x.2.2.2.2.2.2.2.2.1 2))
def oN(x:eS):Bool:=(fp (av x.2.2.2.2.2.2.2.2.2.1)&&hasB x)&&(aj x.1 1||!nF (av x.2.2.2.2.2.2.2.2.2.1))
structure tA(x:eS):Prop where
 t:dI wide x.2.2.2.2.2.2.2.2.2.1
 s:x.2.2.2.2.2.1.length<=big
 i:x.2.2.2.2.2.2.2.1.2.2.1.length<=big
theorem aug{x:eS}(h:tA x):K1 x=ab (hasB x):=by
 unfold K1 hasB K2 E9;simp only[cO,cI,ah,au9 h.t,aeR,auf h.s,auw,aeE h.i,pM];unfold kN;cases aj x.1 1<;>cases aj x.1 2<;>cases aj x.1 3<;>rfl
theorem aun{x:eS}(h:tA x):K3 x=ab (oN x):=by
 unfold K3 oN;rw[aey (h.t.mono (by unfold wide;omega)),ah,aug h,ah,cI,ah,aud h.t,cI,ah]
 cases fp (av x.2.2.2.2.2.2.2.2.2.1)<;>cases hasB x<;>rfl
end
section
def Ia(x:eS):Bool:=
 bif aj x.1 1 then jb x.2.2.1&&jb x.2.2.2.1&&aj x.2.2.2.2.1 0&&aj x.2.2.2.2.2.2.1 0&&aj x.2.2.2.2.2.2.2.2.1 0&&cY x.2.2.2.2.2.1&&kN x.2.2.2.2.2.2.2.1
 else bif aj x.1 2 then c0 x.2.1&&aj x.2.2.2.2.1 0&&aj x.2.2.2.2.2.2.2.2.1 0&&kN x.2.2.2.2.2.2.2.1
 else bif aj x.1 3 then c0 x.2.1&&jb x.2.2.2.1&&aj x.2.2.2.2.2.2.2.2.1 0&&kN x.2.2.2.2.2.2.2.1
 else bif aj x.1 4 then c0 x.2.1&&jb x.2.2.1&&jb x.2.2.2.1&&aj x.2.2.2.2.1 0&&cY x.2.2.2.2.2.1
 else c0 x.2.1&&jb x.2.2.1&&jb x.2.2.2.1&&aj x.2.2.2.2.1 0&&aj x.2.2.2.2.2.2.1 0&&aj x.2.2.2.2.2.2.2.2.1 0&&cY x.2.2.2.2.2.1&&kN x.2.2.2.2.2.2.2.1
theorem c00:c0 (0,0,0,0,())=ag:=rfl
theorem adO:jb (0,0,())=ag:=rfl
theorem asp:kN (0,0,[],())=ag:=rfl
theorem P9:aj 0 0=ag:=rfl
theorem al3(x:eS):((EB x).bind λA=>(pQ A (x.1,(0,0,0,0,()),(0,0,()),(0,0,()),0,[],0,(0,0,[],()),0,zA,())).bind λI=>ab !I)=ab (!Ia x):=by
 unfold EB Ia;cases aj x.1 1
 .cases aj x.1 2
  .cases aj x.1 3
   .cases aj x.1 4
    .show (pQ (x.1,x.2.1,x.2.2.1,x.2.2.2.1,x.2.2.2.2.1,x.2.2.2.2.2.1,x.2.2.2.2.2.2.1,x.2.2.2.2.2.2.2.1,x.2.2.2.2.2.2.2.2.1,zA,()) _).bind _=_;simp[Ew]
    show(pQ (x.1,x.2.1,x.2.2.1,x.2.2.2.1,x.2.2.2.2.1,x.2.2.2.2.2.1,0,(0,0,[],()),0,zA,()) _).bind _=_;rw[Ew,asp,P9];simp
   show(pQ (x.1,x.2.1,(0,0,()),x.2.2.2.1,0,[],0,x.2.2.2.2.2.2.2.1,x.2.2.2.2.2.2.2.2.1,zA,()) _).bind _=_;rw[Ew,adO,P9];simp[ah,tg,ao,au,cY]
  show(pQ (x.1,x.2.1,(0,0,()),(0,0,()),x.2.2.2.2.1,[],0,x.2.2.2.2.2.2.2.1,x.2.2.2.2.2.2.2.2.1,zA,()) _).bind _=_;rw[Ew,adO,P9];simp[ah,tg,ao,au,cY]
 show(pQ (x.1,(0,0,0,0,()),x.2.2.1,x.2.2.2.1,x.2.2.2.2.1,x.2.2.2.2.2.1,x.2.2.2.2.2.2.1,x.2.2.2.2.2.2.2.1,x.2.2.2.2.2.2.2.2.1,zA,()) _).bind _=_;rw[Ew,c00];simp only[ah,lG,ao,au]
theorem kinds(k:Int):(aj k 1=ag/\aj k 2=af/\aj k 3=af/\aj k 4=af)∨(aj k 1=af/\aj k 2=ag/\aj k 3=af/\aj k 4=af)∨(aj k 1=af/\aj k 2=af/\aj k 3=ag/\aj k 4=af)∨
  (aj k 1=af/\aj k 2=af/\aj k 3=af/\aj k 4=ag)∨(aj k 1=af/\aj k 2=af/\aj k 3=af/\aj k 4=af):=by
 by_cases h1:k=1
 .subst h1;trivial
 by_cases h2:k=2
 .subst h2;trivial
 by_cases A:k=3
 .subst A;trivial
 by_cases I:k=4
 .subst I;trivial
 exact .inr (.inr (.inr (.inr ⟨bK h1,bK h2,bK A,bK I⟩)))
theorem atk{x:eS}(h:tA x):Ey x=ab (oN x):=by
 have e:Ey x=(ab (fp (av x.2.2.2.2.2.2.2.2.2.1))).bind λJ=>(aW (!J) (ab (!Ia x))).bind λU=>bif U then ab af else bt (bif aj x.1 1 then(ab (Bw x.2.2.2.2.2.2.2.2.2.1)).bind λZ=>az Z else
   bif aj x.1 2 then(bif !br x.2.2.1||!br x.2.2.2.1||!(pH x.2.2.2.2.2.1&&oW x.2.2.2.2.2.2.1)then az af else aB ((),(),()))
   else bif aj x.1 3 then(bif !br x.2.2.1||!ai 1 x.2.2.2.2.1||!ai x.2.2.2.2.1 1048576||!(pH x.2.2.2.2.2.1&&oW x.2.2.2.2.2.2.1)then az af else aB ((),(),()))
   else bif aj x.1 4 then(bif !sq x.2.2.2.2.2.2.2.1||(!aj x.2.2.2.2.2.2.1 0&&!oW x.2.2.2.2.2.2.1)||(!aj x.2.2.2.2.2.2.2.2.1 1&&!aj x.2.2.2.2.2.2.2.2.1 2)then az af else aB ((),(),()))
   else az af) (λ_=>ab (!nF (av x.2.2.2.2.2.2.2.2.2.1))):=by
  unfold Ey;have a:Si x=λ_=>ab (!nF (av x.2.2.2.2.2.2.2.2.2.1)):=by
   funext s;unfold Si;exact ak4 h.t
  rw[Cl (h.t.mono (by unfold wide aP;omega)),a]
  show((ab (fp (av x.2.2.2.2.2.2.2.2.2.1))).bind λJ=>(aW (!J) ((EB x).bind λc=>(pQ c (x.1,(0,0,0,0,()),(0,0,()),(0,0,()),0,[],0,(0,0,[],()),0,zA,())).bind λd=>ab !d)).bind λU=>bif U then ab af else bt (bif aj x.1 1 then(tJ x.2.2.2.2.2.2.2.2.2.1 zA).bind λZ=>az Z else _) _)=_
  rw[al3,ajA h.t];simp only[ah,cI,cO,p9,avS h.s,Z3 h.i,afW,nQ x.2.2.2.2.1 1,nQ 1048576]
 rw[e];unfold Ia oN hasB;rcases kinds x.1 with⟨k1,k2,A,I⟩|⟨k1,k2,A,I⟩|⟨k1,k2,A,I⟩|⟨k1,k2,A,I⟩|⟨k1,k2,A,I⟩<;>rw[k1,k2,A,I]<;>simp only[ao,au,vg,Bz,n5,lG,ah]
 .cases fp (av x.2.2.2.2.2.2.2.2.2.1)<;>cases jb x.2.2.1<;>cases jb x.2.2.2.1<;>cases aj x.2.2.2.2.1 0<;>cases aj x.2.2.2.2.2.2.1 0<;>cases aj x.2.2.2.2.2.2.2.2.1 0<;>cases cY x.2.2.2.2.2.1<;>cases kN x.2.2.2.2.2.2.2.1<;>cases Bw x.2.2.2.2.2.2.2.2.2.1<;>rfl
 .cases fp (av x.2.2.2.2.2.2.2.2.2.1)<;>cases c0 x.2.1<;>cases aj x.2.2.2.2.1 0<;>cases aj x.2.2.2.2.2.2.2.2.1 0<;>cases kN x.2.2.2.2.2.2.2.1<;>cases br x.2.2.1<;>cases br x.2.2.2.1<;>cases pH x.2.2.2.2.2.1<;>cases oW x.2.2.2.2.2.2.1<;>first|rfl|(cases nF (av x.2.2.2.2.2.2.2.2.2.1)<;>rfl)
 .cases fp (av x.2.2.2.2.2.2.2.2.2.1)<;>cases c0 x.2.1<;>cases jb x.2.2.2.1<;>cases aj x.2.2.2.2.2.2.2.2.1 0<;>cases kN x.2.2.2.2.2.2.2.1<;>cases br x.2.2.1<;>cases ai 1 x.2.2.2.2.1<;>cases ai x.2.2.2.2.1 1048576<;>cases pH x.2.2.2.2.2.1<;>cases oW x.2.2.2.2.2.2.1<;>first|rfl|(cases nF (av x.2.2.2.2.2.2.2.2.2.1)<;>rfl)
 .cases fp (av x.2.2.2.2.2.2.2.2.2.1)<;>cases c0 x.2.1<;>cases jb x.2.2.1<;>cases jb x.2.2.2.1<;>cases aj x.2.2.2.2.1 0<;>cases cY x.2.2.2.2.2.1<;>cases sq x.2.2.2.2.2.2.2.1<;>first|rfl|(cases aj x.2.2.2.2.2.2.1 0<;>cases oW x.2.2.2.2.2.2.1<;>cases aj x.2.2.2.2.2.2.2.2.1 1<;>cases aj x.2.2.2.2.2.2.2.2.1 2<;>cases nF (av x.2.2.2.2.2.2.2.2.2.1)<;>rfl)
 rw[Bool.and_false,n5];cases(!fp (av x.2.2.2.2.2.2.2.2.2.1))<;>first|rfl|(rw[cI,ah];generalize(_||_:Bool)=b;cases b<;>rfl)
end
section
def wE(b:Bool)(c:Int):List (Nat×Int):=bif b then[(184,c)]else[]
theorem L7(b:Bool)(c:Int):jW b c=ab (wE b c):=by
 grind[jW,wE]
def fE:List (List (Nat×Int))->List (Nat×Int)
 |[]=>[]
 |y::l=>bif cY y then fE l else(184,0)::y
theorem YF{x:List (List (Nat×Int))}(A:x.length<=big):∀(k i:Nat),i+k=x.length->aA (Ee x) (((i:Int),()),(),())=ab (fE (x.drop i))
 |0,i,J=>by
  refine cP ?_;unfold Ee;dsimp only;rw[bc,g8 (by omega)];rfl
 |k+1,i,J=>by
  have hi:i< x.length:=by omega
  have e:Ee x (((i),()),(),())=bif cY x[i]then ab (.inl ((((i+1:Nat)),()),(),()))else ab (.inr ((184,0)::x[i])):=by
   unfold Ee;dsimp only;rw[bh,ao,cH hi,aw (by omega) (by unfold big at A;omega)]
   cases cY x[i]<;>rfl
  rw[il hi];show _=ab (bif cY x[i]then fE (x.drop (i+1))else(184,0)::x[i]);cases I:cY x[i]<;>first|rw[I,ao]at e;rw[eY e,ao];exact YF A k (i+1) (by omega)|rw[I,au]at e;rw[cP e];rfl
theorem OV{x:List (List (Nat×Int))}(A:x.length<=big):Ed x=ab (fE x):=YF A x.length 0 (by omega)
inductive E3:List (Nat×Int)->Int->Prop
 |no:E3 [] 0
 |one (c:Int):E3 [(184,c)] c
 |two (c:Int):E3 [(184,0),(184,c)] c
theorem Xk{e:List (Nat×Int)}{c:Int}(h:E3 e c):acy ((e,()),(),())=ab c:=by
 cases h with
 |no=>exact cP rfl
 |one c=>exact(eY (by rfl)).trans (cP rfl)
 |two c=>exact(eY (by rfl)).trans ((eY (by rfl)).trans (cP rfl))
def fC:List (Bool×Int)->Int
 |[]=>0
 |(b,c)::l=>bif b then c else fC l
def pP(l:List (Bool×Int)):Bool:=l.all λp=>!p.1
theorem HQ:∀(l:List (Bool×Int)),E3 (fE (l.map λp=>wE p.1 p.2)) (fC l)/\cY (fE (l.map λp=>wE p.1 p.2))=pP l
 |[]=>⟨.no,rfl⟩
 |(b,c)::l=>by
  cases b<;>first|exact⟨.two c,rfl⟩|exact HQ l
theorem acz:∀{l:List (Bool×Int)},(∀p∈l,p.2≠0)->pP l=af->fC l≠0
 |[],_,h=>by cases h
 |(b,c)::l,A,h=>by
  cases b<;>first|exact acz (l:=l) (λp hp=>A p (ff _ hp)) h|exact A (ag,c) (eh ..)
structure ql(x:bJ):Prop where
 t:dI wide x.2.2.2.1
 f:∀p∈x.2.2.2.2.2.2.2.2.2.2.2.2.1,tA p
 s:∀p∈x.2.2.2.2.2.2.2.2.2.2.2.2.2.2.1,tA p
 fl:x.2.2.2.2.2.2.2.2.2.2.2.2.1.length<=big
 sl:x.2.2.2.2.2.2.2.2.2.2.2.2.2.2.1.length<=big
 d:x.2.2.2.2.2.2.2.2.2.2.2.2.2.1.2.2.2.2.1.length<=big
 i:x.2.2.2.2.2.2.2.2.2.2.2.2.2.2.2.1.2.2.1.length<=big
theorem abJ{l:List eS}(A:l.length<=big)(h:∀p∈l,tA p):JU l=ab (l.all oN):=by
 refine(rU l oN af ag (λi hi=>?_) ?_).trans (by simp)
 .unfold RE RF;dsimp only;rw[bh,cH hi,atk (h _ (gR hi)),aw (by omega) (by unfold big at A;omega)]
  cases oN l[i]<;>rfl
 unfold RE;dsimp only;rw[bc];rfl
theorem aeF{l:List eS}(A:l.length<=big)(h:∀p∈l,tA p):K6 l=ab (l.all oN):=by
 refine(rU l oN af ag (λi hi=>?_) ?_).trans (by simp)
 .unfold Tk;dsimp only;rw[bh,cH hi,aun (h _ (gR hi)),aw (by omega) (by unfold big at A;omega)]
  cases oN l[i]<;>rfl
 unfold Tk;dsimp only;rw[bc];rfl
def pB(x:List ct):Bool:=aj (pq x).1 0
def LC(x:bJ):List (Bool×Int):=
 [(!pB x.2.2.2.2.2.2.2.2.2.2.1,10),(!xM x.2.2.2.2.2.2.2.2.2.2.2.1,2),(ak 1 (x.2.2.2.2.2.2.2.2.2.2.2.2.1.length:Int)||ak 1 (x.2.2.2.2.2.2.2.2.2.2.2.2.2.2.1.length:Int),5),
  (!cY x.2.2.2.2.2.2.2.2.2.2.2.2.2.2.1&&!EE x.2.2.2.2.2.2.2.2.2.2.2.2.2.1,13),(cY x.2.2.2.2.2.2.2.2.2.2.2.2.2.2.1&&!xj x.2.2.2.2.2.2.2.2.2.2.2.2.2.1,17),
  (!x.2.2.2.2.2.2.2.2.2.2.2.2.1.all oN||!x.2.2.2.2.2.2.2.2.2.2.2.2.2.2.1.all oN,16)]
def oy(x:bJ):List (Bool×Int):=
 [(ak x.2.1 1||ak 3 x.2.1,2),(ak x.1 1||ak 1073741824 x.1||ak x.2.2.1 0||ai 8 x.2.2.1,6),(!fp (av x.2.2.2.1),5),(nF (av x.2.2.2.1),9),(!pB x.2.2.2.2.1,10),(!(tW x&&qz x),17)]
def Qe(x:bJ):List (Bool×Int):=[(!sq x.2.2.2.2.2.2.2.2.2.2.2.2.2.2.2.1,16),(!aj x.2.2.2.2.2.2.2.2.2.2.2.2.2.2.2.2.1 1&&!aj x.2.2.2.2.2.2.2.2.2.2.2.2.2.2.2.2.1 2,2)]
def xe(k:Int):Bool:=ai 1 k&&ai k 13
def Eo(x:bJ):Int:=bif aj x.2.1 1 then(bif !xe x.2.2.2.2.2.2.2.1 then 2 else 0)else bif aj x.2.1 2 then fC (LC x)else fC (Qe x)
def fW(x:bJ):Int:=bif pP (oy x)then Eo x else fC (oy x)
theorem avs{x:bJ}(h:ql x):JW x=ab (fE ((LC x).map λp=>wE p.1 p.2)):=by
 unfold JW;simp[Ko,ae5,L7,abJ h.fl h.f,abJ h.sl h.s,ato h.d,afr,cI,cO,ah,Kv,UO];rw[OV (by simp[big])]
 rfl
theorem akI{x:bJ}(h:ql x):JT x=ab (fE ((oy x).map λp=>wE p.1 p.2)):=by
 unfold JT;simp only[ae5,L7,Cl (h.t.mono (by simp[wide,aP])),awQ h.t,Ko,ajB,cI,cO,ah,Kv,pM]
 rw[OV (by simp[big])]
 have A:(!(cY x.2.2.2.2.1&&aj x.2.2.2.2.2.1 0||!cY x.2.2.2.2.1&&xM x.2.2.2.2.2.1)||!qz x)= !(tW x&&qz x):=by
  grind[tW]
 rw[A];rfl
theorem asX{x:bJ}(h:ql x):∃e,JV x=ab e/\E3 e (Eo x):=by
 unfold JV Eo;cases aj x.2.1 1 with
 |true=>
  unfold NP;simp only[cO,L7];refine⟨_,rfl,?_⟩;show E3 (wE (!xe x.2.2.2.2.2.2.2.1) 2) (bif !xe x.2.2.2.2.2.2.2.1 then 2 else 0);cases xe x.2.2.2.2.2.2.2.1
  .exact .one 2
  exact .no
 |false=>
  cases aj x.2.1 2 with
  |true=>
   rw[avs h];exact⟨_,rfl,(HQ _).1⟩
  |false=>
   simp[Z3 h.i,L7,cO,ah];rw[OV (by simp[big])]
   exact⟨_,rfl,(HQ (Qe x)).1⟩
theorem asr{x:bJ}(h:ql x):JQ x=ab (fW x):=by
 unfold JQ fW;rw[akI h,ah];obtain⟨h1,h2⟩:=HQ (oy x);rw[h2];cases I:pP (oy x)with
 |true=>
  obtain⟨e,he,A⟩:=asX h;rw[ao,he,ah];exact Xk A
 |false=>
  exact Xk h1
theorem auv{x:bJ}(h:ql x):K5 x=ab (fC (LC x)):=by
 unfold K5;simp only[aeJ,aeM,aeF h.fl h.f,aeF h.sl h.s,auo h.d,aeG,cI,cO,ah,Kv,pM];unfold LC fC fC fC fC fC fC fC;show(bif !pB x.2.2.2.2.2.2.2.2.2.2.1 then ab 10 else _)=_;grind
theorem aul{x:bJ}(h:ql x):K4 x=ab (fW x):=by
 unfold K4;have A:Tj x=λ_=>ab (Eo x):=by
  funext s;unfold Tj Eo Tg;rw[auv h,aeE h.i];simp only[cO,ah];cases k1:aj x.2.1 1 with
  |true=>
   have k2:aj x.2.1 2=af:=by
    rw[fB,decide_eq_true_eq]at k1;exact bK
   rw[k2,au,ao,ao];show(bif !xe x.2.2.2.2.2.2.2.1 then ab 2 else ab 0)=ab (bif !xe x.2.2.2.2.2.2.2.1 then 2 else 0);cases xe x.2.2.2.2.2.2.2.1<;>rfl
  |false=>
   rw[au,au];cases aj x.2.1 2 with
   |true=>rfl
   |false=>
    rw[au,au];unfold Qe fC fC fC;cases sq x.2.2.2.2.2.2.2.2.2.2.2.2.2.2.2.1<;>cases(!aj x.2.2.2.2.2.2.2.2.2.2.2.2.2.2.2.2.1 1&&!aj x.2.2.2.2.2.2.2.2.2.2.2.2.2.2.2.2.1 2)<;>rfl
 rw[A];have I:∀{β:Type} (k:Bool->Option β),((xD x.2.2.2.1).bind λJ=>(oP 0).bind λU=>(xz J U).bind λZ=>k (aj Z 0))=k (nF (av x.2.2.2.1)):=λk=>by
  rw[aeA h.t,ah,Tq,ah,aeK (Hx h.t) RK,ah,iA,iA,CN];rfl
 rw[I (λb=>bif b then(az 9:Option ((Unit×Unit×Unit)⊕Int))else(A0 x.2.2.2.2.1).bind λa=>bif !a then az 10 else(Fe x).bind λc=>bif !c then az 17 else aB ((),(),()))];simp only[aey (h.t.mono (by unfold wide;omega)),aeJ,aum,cI,ah]
 unfold fW oy pP fC fC fC fC fC fC fC;simp only[vp,List.all_nil,tg];show bt (bif ak x.2.1 1||ak 3 x.2.1 then _ else bif ak x.1 1||ak 1073741824 x.1||ak x.2.2.1 0||ai 8 x.2.2.1 then _ else bif !fp (av x.2.2.2.1)then _ else bif nF (av x.2.2.2.1)then _ else bif !pB x.2.2.2.2.1 then _ else bif !(tW x&&qz x)then _ else _) _=_
 generalize(ak x.2.1 1||ak 3 x.2.1)=d
 generalize(ak x.1 1||ak 1073741824 x.1||ak x.2.2.1 0||ai 8 x.2.2.1)=e
 generalize(!fp (av x.2.2.2.1))=f;generalize nF (av x.2.2.2.1)=g;generalize(!pB x.2.2.2.2.1)=j;generalize(!(tW x&&qz x))=l;cases d<;>first|rfl|(cases e<;>first|rfl|(cases f<;>first|rfl|(cases g<;>first|rfl|(cases j<;>first|rfl|(cases l<;>rfl)))))
end
section
theorem arU l k n:lz (jV l k ag) n af=(aj n k||lz l n af):=by
 induction l with
 |nil=>
  rfl
 |cons e l ih=>
  have I:jV (e::l) k _=bif aj k _ then(k,ag)::l else e::jV l k _:=rfl;have A:∀a r,lz (a::r) n _=bif aj n _ then a.2 else lz r n af:=λ_ _=>rfl
  rw[I];by_cases h:k=e.1
  .rw [cT h,A];grind
  rw[bK h,au,A,A,ih];by_cases h2:n=e.1
  .rw [cT h2,bK];rfl
  simp[bK,h2]
def sa:(Int->Bool)->Int->Nat->List bJ->aJ
 |_,_,_,[]=>(0,0,())
 |seen,A,i,n::l=>bif !aj (fW n) 0 then(fW n,i,())else bif seen n.1 then(7,i,())else bif ak A n.2.2.1 then(17,i,())else
   sa (λk=>aj k n.1||seen k) (bif aj n.2.1 1 then n.2.2.1+1 else n.2.2.1) (i+1) l
theorem zk seen A i n l:sa seen A i (n::l)=bif !aj (fW n) 0 then(fW n,(i:Int),())else bif seen n.1 then(7,(i),())else bif ak A n.2.2.1 then(17,(i),())else
   sa (λk=>aj k n.1||seen k) (bif aj n.2.1 1 then n.2.2.1+1 else n.2.2.1) (i+1) l:=rfl
def ub(x:bY):=ak x.1 1||ak 256 x.1||ak x.2.1 1||ak 256 x.2.1
def xT(x:bY):aJ:=bif ub x then(6,0,())else bif ak 64 x.2.2.2.1.length then(5,64,())else sa (λ_=>af) 0 0 x.2.2.2.1
def fI(x:bY):=∀n∈x.2.2.2.1,ql n
theorem Ry{x:bJ}(h:fW x=0):pP (oy x)=ag:=by
 unfold fW at h;cases A:pP _ with
 |true=>rfl
 |false=>
  rw[A]at h;exact absurd h (acz λp hp=>by
   simp[oy]at hp;grind A)
theorem JL{x:bJ}(h:fW x=0):0<=x.2.2.1/\x.2.2.1< 8:=by
 have:=Ry h;unfold pP oy at this;grind[mI,decide_eq_false_iff_not,lU]
theorem aft{x:bY}(h:fI x)(J:x.2.2.2.1.length<=64):∀k i A m,i+k=x.2.2.2.1.length->
  aA (FC x) ((A,(i),()),(m,()),())=ab (sa (λn=>lz m n af) A i (x.2.2.2.1.drop i))
 |0,i,A,m,U=>by
  refine cP ?_;unfold FC;dsimp only;rw[bc,g8 (by omega)];rfl
 |k+1,i,A,m,U=>by
  have hi:i< x.2.2.2.1.length:=by omega
  have e:FC x ((A,(i),()),(m,()),())=bif !aj (fW x.2.2.2.1[i]) 0 then az (fW x.2.2.2.1[i],(i:Int),())else bif lz m x.2.2.2.1[i].1 af then az (7,(i),())else bif ak A x.2.2.2.1[i].2.2.1 then az (17,(i),())else
    aB ((bif aj x.2.2.2.1[i].2.1 1 then w (x.2.2.2.1[i].2.2.1+1)else x.2.2.2.1[i].2.2.1,((i+1:Nat):Int),()),(jV m x.2.2.2.1[i].1 ag,()),()):=by
   unfold FC;dsimp only;rw[bh,ao,cH hi,asr (h _ (gR hi)),ah,aw (n:=(i)+1)];grind
  rw[il hi,zk];cases h1:aj _ 0 with
  |false=>rw[h1]at e;rw[cP e];rfl
  |true=>
   rw[h1,cg,au]at e;rw[cg,au];cases h2:lz m _ _ with
   |true=>rw[h2]at e;rw[cP e];rfl
   |false=>
    rw[h2,au]at e;rw[au];cases I:ak A _ with
    |true=>rw[I]at e;rw[cP e];rfl
    |false=>
     rw[I,au]at e;rw[au,eY e,aft h J k _ _ _ (by omega)]
     congr 2
     .funext n;exact arU m _ n
     rw[fB,decide_eq_true_eq]at h1;have:=JL h1;rw[aw]
theorem avj{x:bY}(h:fI x):Lx x=ab (xT x):=by
 unfold Lx xT;simp[cI];show(bif ub x then _ else _)=_;cases ub x with
 |true=>rfl
 |false=>
  cases A:ak 64 (x.2.2.2.1.length)<;>first|rfl|rw[mI,decide_eq_false_iff_not]at A;exact aft h (by omega) x.2.2.2.1.length 0 0 [] (by omega)
theorem YE{l:List bJ}(A:l.length<=big) y:∀k i,i+k=l.length->∃v,aA (Fh l y) (((i),()),(),())=ab v/\ai 0 v=(l.drop i).any λn=>aj n.1 y
 |0,i,I=>by
  refine⟨-1,cP ?_,?_⟩
  .unfold Fh;dsimp only;rw[bc];rfl
  rw[g8 (by omega)];rfl
 |k+1,i,I=>by
  have hi:i< l.length:=by omega
  rw[il hi,ahQ];have e:Fh l y ((i,()),(),())=bif aj l[i].1 y then az (i:Int)else aB (((i+1:Int),()),(),()):=by
   unfold Fh;dsimp only;rw[bh,cH hi,aw (by omega) (by unfold big at A;omega)];rfl
  cases h1:aj _ y<;>first|rw[h1,au]at e;obtain⟨v,a,b⟩:=YE A y k (i+1) (by omega);exact⟨v,(eY e).trans a,b⟩|rw[h1]at e;exact⟨_,cP e,bV⟩
theorem alW{l:List bJ}(A:l.length<=big) y:∃v,Tl l y=ab v/\ai 0 v=l.any λn=>aj n.1 y:=YE A y l.length 0 (by omega)
def mL(l:List bJ)(i:Nat):Int:=if i=0 then 0 else match l[i-1]? with|some n=>bif aj n.2.1 1 then n.2.2.1+1 else n.2.2.1|none=>0
theorem auy{l:List bJ}(J:l.length<=big){i:Nat} hi(A:∀j,(U:j< l.length)->j<=i->fW l[j]=0):K9 l (i)=ab !ak (mL l i) l[i].2.2.1:=by
 have Z:=JL (A i hi (aL _));unfold K9 mL;by_cases I:i=0
 .subst I;rw[cT,cH hi];by_cases h:l[0].2.2.1=0
  .rw [cT h,bc];rfl
  rw[bK h,bh];rfl
 have h1:i-1< l.length:=by omega
 have hp:=JL (A _ h1 (by omega))
 rw[bK,au,aw (n:=(i)-1) (by omega) (by unfold big at J;omega),show(i)-1=((i-1:Nat):Int) by omega,cH h1,cH hi,cH h1,cO,ah,cH hi,cH h1,cI,ax I,gA h1,aw]
 dsimp only;cases aj _ 1 with
 |true=>
  rw[ao];by_cases h:l[i].2.2.1=l[i-1].2.2.1+1
  .rw [cT h,bc];rfl
  rw[bK h,nQ];by_cases h2:l[i].2.2.1<=l[i-1].2.2.1
  .rw [bV h2,bV];rfl
  rw[dh,dh];rfl
 |false=>rw[au,n5,Bz,nQ,UO]
theorem aeN{x:bY}(h:fI x)(b:x.2.2.2.1.length<=64):∀(k i:Nat),i+k=x.2.2.2.1.length->(∀j,(I:j< x.2.2.2.1.length)->j< i->fW x.2.2.2.1[j]=0)->
  aA (Fg x) (((i:Int),()),(),())=ab (sa (λn=>(x.2.2.2.1.take i).any λd=>aj d.1 n) (mL x.2.2.2.1 i) i (x.2.2.2.1.drop i))
 |0,i,c,_=>by
  refine cP ?_;unfold Fg;dsimp only;rw[bc,g8 (by omega)];rfl
 |k+1,i,c,U=>by
  have hi:i< x.2.2.2.1.length:=by omega
  rw[il hi,zk];have hw:Fk x.2.2.2.1 (i:Int)=bif !aj (fW x.2.2.2.1[i]) 0 then ab (fW x.2.2.2.1[i])else bif(x.2.2.2.1.take i).any (λd=>aj d.1 x.2.2.2.1[i].1)then ab 7 else bif ak (mL x.2.2.2.1 i) x.2.2.2.1[i].2.2.1 then ab 17 else ab 0:=by
   unfold Fk;rw[cH hi,aul (h _ (gR hi)),ah];cases h1:aj (fW x.2.2.2.1[i]) 0 with
   |false=>rfl
   |true=>
    rw[fB,decide_eq_true_eq]at h1;rw[cg,au,au,cS (by rw[bV,bV];rfl),cH hi,Int.toNat_natCast,Nat.sub_zero,qh]
    obtain⟨v,f,g⟩:=alW (l:=x.2.2.2.1.take i) (by rw[gi];unfold big;omega) x.2.2.2.1[i].1
    rw[f,ah,g,auy (by unfold big;omega) hi (λj I J=>by
     rcases jH j i with A|A
     .exact U j I A
     obtain rfl:j=i:=by omega
     exact h1),ah,UO]
  have e:Fg x (((i:Int),()),(),())=(Fk x.2.2.2.1 (i:Int)).bind λZ=>bif !aj Z 0 then az (Z,(i:Int),())else aB ((((i+1:Nat):Int),()),(),()):=by
   unfold Fg;dsimp only;rw[bh,ao,aw];rfl
  rw[hw]at e;cases h1:aj (fW x.2.2.2.1[i]) 0 with
  |false=>
   rw[h1,fO,ao,ah,h1]at e;rw[cP e];rfl
  |true=>
   rw[h1,cg,au]at e;rw[cg,au];cases h2:(x.2.2.2.1.take i).any (λd=>aj d.1 x.2.2.2.1[i].1)with
   |true=>
    rw[h2,ao,ah]at e;rw[cP e];rfl
   |false=>
    rw[h2,au]at e;rw[au];cases a:ak (mL x.2.2.2.1 i) x.2.2.2.1[i].2.2.1 with
    |true=>rw[a,ao,ah]at e;rw[cP e];rfl
    |false=>
     rw[a,au,ah]at e;rw[fB,decide_eq_true_eq]at h1;rw[au,eY e,aeN h b k (i+1) (by omega) (λj I J=>by
      rcases jH j i with A|A
      .exact U j I A
      obtain rfl:j=i:=by omega
      exact h1)]
     congr 2
     .funext n;rw[Vv hi,List.any_append,ahQ,List.any_nil,vf,Bool.or_comm];congr 1;by_cases A:x.2.2.2.1[i].1=n
      .rw [cT A,cT A.symm]
      rw[bK A,bK (λq=>A q.symm)]
     unfold mL;rw[ax (by omega),Gl,gA hi]
theorem auu{x:bY}(h:fI x):K7 x=ab (xT x):=by
 unfold K7 xT;simp[cI];show(bif ub x then _ else _)=_;cases ub x with
 |true=>rfl
 |false=>
  cases A:ak 64 (x.2.2.2.1.length)<;>first|rw[mI,decide_eq_false_iff_not]at A;refine(aeN h (by omega) x.2.2.2.1.length 0 (by omega) λj _ I=>by omega).trans ?_;rfl|rfl
def vS(x:bY):=aj (xT x).1 0
theorem Uy{x:bY}(h:fI x):A9 x=ab (vS x):=by unfold A9;rw[avj h];rfl
theorem aeQ{x:bY}(h:fI x):Fj x=ab (vS x):=by unfold Fj;rw[auu h];rfl
structure SV(l:List bJ):Prop where
 n:∀x∈l,fW x=0
 d:∀i,(h:i< l.length)->l[i].2.2.1<=mL l i
theorem W0{x:List bJ}:∀k i seen,i+k=x.length->(sa seen (mL x i) i (x.drop i)).1=0->∀j,i<=j->(a:j< x.length)->fW x[j]=0/\x[j].2.2.1<=mL x j
 |0,i,seen,J,_,j,h1,h2=>by omega
 |k+1,i,seen,J,h,j,h1,h2=>by
  have hi:i< x.length:=by omega
  rw[il hi,zk]at h;cases A:aj (fW x[i]) 0 with
  |false=>
   simp_all[A,fB,h]
  |true=>
   rw[A,cg,au]at h;cases U:seen x[i].1 with
   |true=>grind
   |false=>
    rw[U,au]at h;cases I:ak (mL x i) x[i].2.2.1 with
    |true=>grind
    |false=>
     rw[I,au]at h;rw[fB,decide_eq_true_eq]at A;rw[mI,decide_eq_false_iff_not]at I;rcases jH i j with Z|Z
     .refine W0 k (i+1) (λk=>aj k x[i].1||seen k) (by omega) ?_ j (by omega) h2
      have:mL x (i+1)=bif aj x[i].2.1 1 then x[i].2.2.1+1 else x[i].2.2.1:=by
       unfold mL;grind
      simp[this,h]
     grind
theorem s8{x:bY}(h:vS x=ag):SV x.2.2.2.1/\x.2.2.2.1.length<=64:=by
 unfold vS xT at h;cases I:ub x with
 |true=>rw[I]at h;cases h
 |false=>
  rw[I]at h;cases A:ak 64 (x.2.2.2.1.length)<;>first|rw[A,fB,decide_eq_true_eq]at h;rw[mI,decide_eq_false_iff_not]at A;have key:=W0 (x:=x.2.2.2.1) x.2.2.2.1.length 0 (λ_=>af) (by omega) h;refine⟨⟨λn J=>?_,λi hi=>(key i (bH _) hi).2⟩,by omega⟩;obtain⟨i,hi,rfl⟩:=List.getElem_of_mem J;grind|rw[A]at h;cases h
def lW(x:bY)(y:Int):=ai 0 y&&ak y x.2.2.2.1.length
theorem Y4{x:bY}(h:fI x) y:FD x y=ab (lW x y&&vS x):=by
 unfold FD lW;simp[Uy,h,cO]
theorem ats{x:bY}(h:fI x) y:K8 x y=ab (lW x y&&vS x):=by
 unfold K8 lW;rw[aeQ h];grind[cO]
end
section
def dp(l:List bJ)(i:Nat):Int:=match l[i]? with|some n=>n.2.2.1|none=>0
theorem zw{l:List bJ}{i:Nat}(h:i< l.length):dp l i=l[i].2.2.1:=by simp[dp,gA,h]
theorem C0{l:List bJ}(A:SV l){i:Nat}(h:i< l.length:=by omega):0<=dp l i/\dp l i< 8:=by
 rw[zw h];exact JL (A.n _ (gR h))
theorem ali{l:List bJ}(A:SV l)(h:0< l.length:=by omega):dp l 0=0:=by
 have:=A.d 0 h;have h2:=C0 A h;rw[zw h]at*;unfold mL at this;omega
theorem alj{l:List bJ}(A:SV l){i:Nat}(h:i+1< l.length:=by omega):dp l (i+1)<=dp l i+1:=by
 have:=A.d (i+1) h;have h1:i< l.length:=by omega
 rw[zw h,zw h1];unfold mL at this;grind
theorem agD{l:List bJ}(A:SV l){i:Nat}(hi:i< l.length):∀(k:Nat),k<=i->0< dp l i->dp l i<=dp l k->∃j,j< k/\dp l j=dp l i-1
 |0,_,I,J=>by
  rw[ali A]at J;omega
 |k+1,J,I,U=>by
  by_cases h:dp l k=dp l i-1
  .exact ⟨k,by omega,h⟩
  have:=alj A (i:=k);obtain⟨j,h1,h2⟩:=agD A hi k (by omega) I (by omega)
  exact⟨j,by omega,h2⟩
theorem adE{l:List bJ}(I:SV l)(U:l.length<=64){i:Nat}(hi:i< l.length):∀(k:Nat),k<=i->∃r:Int,aA (FE l (i:Int)) ((((k:Int)-1),()),(),())=ab r/\((∃j:Nat,r=j/\j< k/\dp l j=dp l i-1)∨(r= -1/\∀j,j< k->dp l j≠dp l i-1))
 |0,_=>⟨-1,cP (by
   unfold FE;dsimp only;rw[dh];rfl),.inr ⟨rfl,λj h=>by omega⟩⟩
 |k+1,f=>by
  have A:k< l.length:=by omega
  have e:FE l (i) (((((k+1:Nat))-1),()),(),())=bif aj (dp l k) (dp l i-1)then az (k:Int)else aB ((((k:Int)-1),()),(),()):=by
   have g:=C0 I hi;unfold FE;dsimp only;rw[show((k+1:Nat):Int)-1=(k) by omega,bV,ao,cH A,cH hi,<-zw A,<-zw hi,aw (n:=dp l i-1),aw]
  cases h:aj (dp l k) (dp l i-1)with
  |true=>
   rw[h,ao]at e;rw[fB,decide_eq_true_eq]at h;exact⟨k,cP e,.inl ⟨k,rfl,by omega,h⟩⟩
  |false=>
   rw[h,au]at e;rw[fB,decide_eq_false_iff_not]at h;obtain⟨r,Z,d⟩:=adE I U hi k (by omega)
   refine⟨r,(eY e).trans Z,d.imp (λ⟨j,a,b,c⟩=>⟨j,a,by omega,c⟩) λ⟨a,b⟩=>⟨a,λj m=>?_⟩⟩
   rcases jH j k with J|J
   .exact b j J
   obtain rfl:j=k:=by omega
   exact h
theorem atl{l:List bJ}(A:SV l)(I:l.length<=64){i:Nat}(hi:i< l.length):∃r:Int,pY l (i:Int)=ab r/\((dp l i=0/\r= -1)∨(0< dp l i/\∃j:Nat,r=j/\j< i/\dp l j=dp l i-1)):=by
 unfold pY;rw[aw];obtain⟨r,J,U⟩:=adE A I hi i (aL _);refine⟨r,J,?_⟩;have Z:=C0 A hi;rcases U with⟨j,a,b,c⟩|⟨a,b⟩
 .have:=C0 A (i:=j);grind
 rcases Int.lt_or_le 0 (dp l i)with h|h
 .obtain ⟨j,h1,h2⟩:=agD A hi i (aL _) h (cr _);grind
 omega
inductive lK(l:List bJ):Nat->List Nat->Prop
 |top (i:Nat):i< l.length->dp l i=0->pY l (i:Int)=ab (-1)->lK l i [i]
 |sub (i j:Nat) (L:List Nat):i< l.length->dp l i=dp l j+1->pY l (i:Int)=ab (j:Int)->lK l j L->lK l i (L++[i])
theorem Hk{l:List bJ}(A:SV l)(I:l.length<=64):∀(i:Nat),i< l.length->∃L,lK l i L:=by
 intro i;induction i using Nat.strongRecOn with
 |_ i ih=>
  intro hi;obtain⟨r,h1,h2⟩:=atl A I hi;rcases h2 with⟨a,rfl⟩|⟨a,j,rfl,b,c⟩
  .exact ⟨[i],.top i hi a h1⟩
  obtain⟨L,J⟩:=ih j b (by omega)
  exact⟨L++[i],.sub i j L hi (by omega) h1 J⟩
theorem N4{l:List bJ}{i:Nat}{L:List Nat}(h:lK l i L):(L.length:Int)=dp l i+1/\(∀k∈L,k< l.length):=by
 induction h with
 |top i hi A _=>grind
 |sub i j L hi A _ _ ih=>
  grind
def ints(L:List Nat):List Int:=L.map λ(n:Nat)=>(n:Int)
theorem anF(a b:List Nat):ints (a++b)=ints a++ints b:=ml
theorem aap(L:List Nat):(ints L).length=L.length:=gg ..
theorem N5{l:List bJ}{i:Nat}{L:List Nat}(h:lK l i L):i< l.length:=by cases h<;>assumption
theorem Hj{l:List bJ}(A:SV l){i:Nat}{L:List Nat}(h:lK l i L):1<=L.length/\L.length<=8:=by
 have h1:=(N4 h).1;have h2:=C0 A (N5 h);omega
theorem ajg{x:bY}{i:Nat}{L:List Nat}(h:lK x.2.2.2.1 i L):∀(A:List Int),A.length+L.length<=900->aA (A8 x) ((A,(i:Int),()),(),())=ab (ints L++A):=by
 have step:∀(i:Nat) (A:List Int) (r:Int),A.length<=1000->pY x.2.2.2.1 (i:Int)=ab r->A8 x ((A,(i:Int),()),(),())=aB (((i:Int)::A,r,()),(),()):=λi A r I J=>by
  unfold A8;dsimp only;rw[bV,ao,cS (jA (by simp;omega) (by simp;omega)),J,ah];rfl
 have stop:∀(A:List Int),A8 x ((A,-1,()),(),())=az A:=λA=>by
  unfold A8;dsimp only;rfl
 induction h with
 |top i hi U hp=>
  intro A I;rw[eY (step i A _ (by omega) hp),cP (stop _)];rfl
 |sub i j L hi U hp _ ih=>
  intro A I;rw[eY (step i A _ (by omega) hp),ih _ (by grind),anF,mj];rfl
theorem ajh{x:bY}(h:fI x)(y:Int):(lW x y&&vS x)=ag->∃(i:Nat) (L:List Nat),y=i/\lK x.2.2.2.1 i L/\Lw x y=ab (ints L):=λA=>by
 have I:=A;rw[aM]at A;obtain⟨h1,h2⟩:=A;obtain⟨Z,J⟩:=s8 h2;unfold lW at h1;rw[aM,lU,mI,decide_eq_true_eq,decide_eq_true_eq]at h1;obtain⟨i,rfl⟩:=Int.eq_ofNat_of_zero_le h1.1;have hi:i< x.2.2.2.1.length:=by omega
 obtain⟨L,U⟩:=Hk Z J i hi;have a:=Hj Z U;refine⟨i,L,rfl,U,?_⟩;unfold Lw;rw[Y4 h,I,ah,cg,au,ajg U [] (by simp;omega),np]
theorem atm{x:bY}(h:fI x)(y:Int):Ly x y=bif lW x y&&vS x then pY x.2.2.2.1 y else ab (-1):=by
 unfold Ly;rw[Y4 h];grind
theorem aeI{x:bY}(h:fI x)(y:Int):Fi x y=bif lW x y&&vS x then pY x.2.2.2.1 y else ab (-1):=by
 unfold Fi;rw[ats h,ah];cases(lW x y&&vS x)
 .rfl
 rw[cg,NN];rfl
end
section
def n1(l:List bJ)(i:Nat):bQ:=match l[i]? with|some n=>n.2.2.2.1|none=>zA
theorem agq{l:List bJ}{i:Nat}(h:i< l.length):n1 l i=l[i].2.2.2.1:=by simp[n1,gA,h]
def s9(l:List bJ)(L:List Nat):bQ×Int×Unit:=xn (chain lT ((L.reverse.map (n1 l)).map av))
theorem DH{x:bY}{i:Nat}(h:i< x.2.2.2.1.length):lW x (i:Int)=ag:=by
 unfold lW;rw[bh];rfl
theorem ags{x:bY}(h:fI x){L:List Nat}(A:∀k∈L,k< x.2.2.2.1.length):∀t∈(L.map (n1 x.2.2.2.1)),dI wide t:=λt J=>by
 obtain⟨k,I,rfl⟩:=kl.1 J;rw[agq (A k I)];exact(h _ (gR (A k I))).t
theorem awM{x:bY}(h:fI x)(a:vS x=ag){i:Nat}{L:List Nat}(b:lK x.2.2.2.1 i L):∀(A:List bQ),A.length+L.length<=900->(∀t∈A,dI wide t)->
  aA (zG x) (((i:Int),A,()),(),())=ab (xn (chain lT ((A++L.reverse.map (n1 x.2.2.2.1)).map av))):=by
 have step:∀(i:Nat) (A:List bQ) (r:Int),i< x.2.2.2.1.length->A.length<=900->pY x.2.2.2.1 (i:Int)=ab r->zG x (((i:Int),A,()),(),())=aB ((r,A++[n1 x.2.2.2.1 i],()),(),()):=λi A r hi Z c=>by
  unfold zG;dsimp only;rw[bV,ao,cH hi,cS (jA (by simp;omega) (by simp;omega)),atm h,DH hi,a,lG,ao,c,ah,agq hi];rfl
 have stop:∀(A:List bQ),A.length<=950->(∀t∈A,dI wide t)->zG x ((-1,A,()),(),())=az (xn (chain lT (A.map av))):=λA Z J=>by
  unfold zG;dsimp only;rw[dh,au,akL (by omega) J]
  simp
 induction b with
 |top i hi d hp=>
  intro A Z J;have U:∀t∈A++[n1 x.2.2.2.1 i],dI wide t:=λt I=>by
   rcases cD.1 I with I|I<;>try grind
   exact ags h (L:=[i]) (λk J=>by simp at J;omega) t I
  rw[eY (step i A _ hi (by omega) hp),cP (stop _ (by simp at Z|-;omega) U)];rfl
 |sub i j L hi d hp _ ih=>
  intro A Z J;rw[List.length_append]at Z;have U:∀t∈A++[n1 x.2.2.2.1 i],dI wide t:=λt I=>by
   rcases cD.1 I with I|I
   .exact J t I
   exact ags h (L:=[i]) (λk J=>by simp at J;omega) t I
  rw[eY (step i A _ hi (by omega) hp),ih _ (by simp at Z|-;omega) U,mj]
  first|rfl|(congr 5;simp)
theorem agH{x:bY}(h:fI x){i:Nat}{L:List Nat}(A:vS x=ag)(I:lK x.2.2.2.1 i L):Ig x (i:Int)=ab (s9 x.2.2.2.1 L):=by
 have hi:=N5 I;have U:=Hj (s8 A).1 I;unfold Ig;rw[Uy h,A,ah,cg,dh];exact awM h A I [] (by simp;omega) (λt J=>by cases J)
theorem akr(t:Af):∀(l:List Af) (s:Af),AS wide s->chain s l=ab t->AS wide t:=by
 intro l;induction l with
 |nil=>
  intro s I e;have e:ab s=ab t:=e;grind
 |cons a l ih=>
  intro s I e;rw[N2]at e;by_cases A:fp a=ag/\fp (comp s a)=ag
  .rw [aK A]at e;exact ih _ (RL A.2) e
  grind
end
section
def z2:aJ:=(0,0,())
def za(T:Af):List aJ->List aJ⊕Int
 |[]=>bb []
 |p::l=>bif !aj (ou T p).2.1 0 then cF (ou T p).2.1 else(match za T l with|bb q=>bb ((ou T p).1::q)|cF e=>cF e)
def xq(s:ct):List aJ:=[s.2.1,s.2.2.1,s.2.2.2.1].take (nm s.1).toNat
def L8(k:Int)(l:List aJ):ct:=(k,(l[0]?).getD z2,(l[1]?).getD z2,(l[2]?).getD z2,())
theorem awE(k:Int):∀(l:List aJ),l.length<=3->Sk k l=ab (L8 k l)
 |[],_|[a],_|[a,b],_|[a,b,c],_=>rfl
 |_::_::_::_::_,h=>by simp at h
theorem asl(k:Int):nm k= -1∨nm k=0∨nm k=1∨nm k=2∨nm k=3:=by
 grind[nm]
theorem atv(s:ct):Ks s=ab (xq s):=by
 unfold Ks xq;rw[Rx];rcases asl s.1 with h|h|h|h|h<;>rw[h]<;>rfl
def Bl(T:Af)(s:ct):ct⊕Int:=match za T (xq s)with|bb q=>bb (L8 s.1 q)|cF e=>cF e
def sW(T:Af):List ct->List ct⊕Int
 |[]=>bb []
 |s::l=>match Bl T s with
  |cF e=>cF e
  |bb g=>(match sW T l with|bb q=>bb (g::q)|cF e=>cF e)
def RZ(o:List ct⊕Int):List ct×Int×Unit:=match o with|bb q=>(q,0,())|cF e=>([],e,())
theorem agk{y:bQ}(U:dI wide y){A:List ct}{J:Int}{s:ct}{aV:List aJ}(hp:aV.length<=3)(Z:A.length<=1000):∀(k i:Nat) (I:List aJ),i+k=aV.length->I.length=i->
  aA (EC y ((A,J,()),(),()) s aV) ((I,(i:Int),()),(),())=(match za (av y) (aV.drop i)with
   |cF e=>ab (cF ([],e,()))
   |bb q=>ab (bb ((A++[L8 s.1 (I++q)],w (J+1),()),(),())))
 |0,i,I,a,b=>by
  rw[g8 (by omega)]
  refine cP ?_;unfold EC;dsimp only;rw[bc,au,awE _ _ (by omega),ah,cS (jA (by simp;omega) (by simp;omega)),np];rfl
 |k+1,i,I,a,b=>by
  have hi:i< aV.length:=by omega
  rw[il hi];have e:EC y ((A,J,()),(),()) s aV ((I,(i:Int),()),(),())=bif !aj (ou (av y) aV[i]).2.1 0 then az (cF ([],(ou (av y) aV[i]).2.1,()))else aB ((I++[(ou (av y) aV[i]).1],((i+1:Nat):Int),()),(),()):=by
   unfold EC;dsimp only;rw[bh,ao,cH hi,ai8 U,ah,cS (jA (by simp;omega) (by simp;omega)),aw (n:=(i:Int)+1)];rfl
  show _=(match(bif !aj (ou (av y) aV[i]).2.1 0 then cF (ou (av y) aV[i]).2.1 else(match za (av y) (aV.drop (i+1))with|bb q=>bb ((ou (av y) aV[i]).1::q)|cF e=>cF e):List aJ⊕Int)with
   |cF e=>ab (cF ([],e,()))
   |bb q=>ab (bb ((A++[L8 s.1 (I++q)],w (J+1),()),(),())))
  cases h:aj (ou (av y) aV[i]).2.1 0 with
  |false=>rw[h]at e;rw[cP e];rfl
  |true=>
   rw[h,cg,au]at e;rw[eY e,agk U hp Z k (i+1) _ (by omega) (by simp;omega),cg,au]
   cases za (av y) (aV.drop (i+1))with
   |inr e=>rfl
   |inl q=>simp
theorem agr{x:List ct}(U:x.length<=256){y:bQ}(J:dI wide y):∀(k i:Nat) (A:List ct),i+k=x.length->A.length=i->
  aA (ED x y) ((A,(i:Int),()),(),())=ab (match sW (av y) (x.drop i)with|cF e=>([],e,())|bb q=>(A++q,0,()))
 |0,i,A,Z,a=>by
  refine cP ?_;unfold ED;dsimp only;rw[bc,g8 (by omega)]
  show _=ab (cF (A++[],0,()));rw[np];rfl
 |k+1,i,A,Z,a=>by
  have hi:i< x.length:=by omega
  rw[il hi];have I:(xq x[i]).length<=3:=by unfold xq;rw[gi];simp;omega
  have e:ED x y ((A,(i:Int),()),(),())=(match Bl (av y) x[i]with|cF e=>ab (cF ([],e,()))|bb g=>ab (bb ((A++[g],((i+1:Nat):Int),()),(),()))):=by
   unfold ED Bl;dsimp only;rw[bh,ao,cH hi,atv,ah,show((0:Int))=((0:Nat):Int)from rfl,agk J I (by omega) (xq x[i]).length 0 [] (by omega) rfl,qh]
   cases za (av y) (xq x[i])with
   |inr e=>rfl
   |inl q=>
    dsimp only;rw[aw,List.nil_append];rfl
  show _=ab (match(match Bl (av y) x[i]with
   |cF e=>cF e
   |bb g=>(match sW (av y) (x.drop (i+1))with|bb q=>bb (g::q)|cF e=>cF e):List ct⊕Int)with|cF e=>([],e,())|bb q=>(A++q,0,()))
  cases h:Bl (av y) x[i]with
  |inr c=>rw[h]at e;rw[cP e]
  |inl g=>
   rw[h]at e;rw[eY e,agr U J k (i+1) _ (by omega) (by simp;omega)]
   cases sW (av y) (x.drop (i+1))with
   |inr c=>rfl
   |inl q=>simp only[mj,List.singleton_append]
theorem Ep{x:List ct}(h:pB x=ag):x.length<=256:=by
 unfold pB pq at h;by_cases A:256< x.length
 .rw [aK A]at h;cases h
 omega
def iB(x:List ct)(T:Af):List ct×Int×Unit:=bif !pB x then([],10,())else RZ (sW T x)
theorem awe(x:List ct){y:bQ}(A:dI wide y):Kq x y=ab (iB x (av y)):=by
 unfold Kq iB;rw[Ko];show(bif !pB x then _ else _)=_;cases h:pB x with
 |false=>rfl
 |true=>
  refine(agr (Ep h) A x.length 0 [] (by omega) rfl).trans ?_
  grind[RZ]
theorem W5:∀(l:List ct) (p:Int) (i:Nat),(po p i l).1=0->∀s∈l,¬nm s.1< 0/\qE s=ag
 |[],_,_,_,s,A=>by cases A
 |a::l,p,i,h,s,A=>by
  rw[Hi]at h;cases hw:aj (gO p a) 0 with
  |false=>
   rw[hw,au]at h;rw[fB,decide_eq_false_iff_not]at hw;exact absurd h hw
  |true=>
   rw[hw,ao]at h;rcases du.1 A with rfl|A
   .unfold gO at hw;cases h1:ak (nm s.1) 0 with
    |true=>rw[h1]at hw;cases hw
    |false=>
     rw[h1,au]at hw;cases h2:(aj s.1 1||(!aj p 5&&(!aj s.1 5||!aj p 1)))with
     |false=>rw[h2]at hw;cases hw
     |true=>
      rw[h2,cg,au]at hw;cases I:qE s<;>first|rw[mI,decide_eq_false_iff_not]at h1;exact⟨h1,rfl⟩|rw[I]at hw;cases hw
   exact W5 l _ _ h s A
theorem as3{x:List ct}(h:pB x=ag):∀s∈x,¬nm s.1< 0/\qE s=ag:=by
 have A:=Ep h;unfold pB pq at h;rw[ax (by omega),fB,decide_eq_true_eq]at h
 exact W5 x 5 0 h
theorem anH{p:aJ}(h:lq p=ag):p=z2:=by
 unfold lq at h;rw[aM,aM,fB,fB]at h;obtain⟨A,I,J⟩:=p;simp_all[z2,of_decide_eq_true h.1,of_decide_eq_true h.2.1]
end
section
def rl(t:Int):=ai 1 t&&ai t 256
theorem agn t:(ak t 1||ak 256 t)= !rl t:=by
 simp[rl,nQ]
theorem Rj A I:∃r:aJ,aA (Dc A I) ((1,()),(),())=ab r/\(r.2.1=0->1<=r.1/\r.1<=64):=by
 obtain⟨r,e,h⟩:=eW (step:=Dc _ _) (λs=>∃n:Int,s=((n,()),(),())/\1<=n/\n<=65) (λs=>65-s.1.1.toNat) (λr=>r.2.1=0->1<=r.1/\r.1<=64) (by
  rintro _ ⟨n,rfl,h1,h2⟩;unfold Dc;dsimp only;by_cases J:n<=64
  .rw [bV J];cases ai A _<;>first|rw[au,aw];refine .inl ⟨_,rfl,⟨n+1,rfl,by omega,by omega⟩,?_⟩;grind|exact .inr ⟨_,rfl,λ_=>⟨h1,J⟩⟩
  rw[dh];exact .inr ⟨_,rfl,λh=>by cases h⟩) _ ⟨1,rfl,by omega,by omega⟩
 exact⟨r,e,h⟩
def Ad(A I:Int):=Classical.choose (Rj A I)
theorem arG A I:aA (Dc A I) ((1,()),(),())=ab (Ad A I):=(ag3 (Rj _ _)).1
theorem arH A I:(Ad A I).2.1=0->1<=(Ad A I).1/\(Ad A I).1<=64:=(ag3 (Rj _ _)).2
def uQ(A I:Int)(l:List aJ):aJ:=bif !rl I then(0,2,())else bif !l.all br then(0,6,())else Ad A I
theorem Kt{need x7:Int}{l:List aJ}:(uQ need x7 l).2.1=0->1<=(uQ need x7 l).1/\(uQ need x7 l).1<=64:=by
 unfold uQ;cases !rl _
 .cases !l.all _
  .exact arH _ _
  simp
 simp
theorem adJ{A I:Int}{l:List aJ}(J:l.length<=big):Db A I l=ab (uQ A I l):=by
 unfold Db uQ;rw[cI,agn];cases !rl _
 .refine (rU l br (0,6,()) (Ad A I) (λi hi=>?_) ?_).trans (by simp)
  .unfold O3;dsimp only;rw[bh,cH hi,p9,aw (by omega) (by unfold big at J;omega)]
   cases br _<;>rfl
  unfold O3;dsimp only;rw[bc,arG];rfl
 rfl
def x6(a b c:aJ):=w (w (w (w (a.1-w (2*b.1))+c.1)*w (w (a.1-w (2*b.1))+c.1))+w (w (w (a.2.1-w (2*b.2.1))+c.2.1)*w (w (a.2.1-w (2*b.2.1))+c.2.1)))
theorem T1 a b c:De a b c=ab (x6 a b c):=rfl
def qN(x:aJ×aJ×aJ×Unit)(t:Int):=uQ (x6 x.1 x.2.1 x.2.2.1) t [x.1,x.2.1,x.2.2.1]
theorem atT x t:H6 x t=ab (qN x t):=by
 unfold H6;rw[T1,ah,adJ (by simp[big])]
 rfl
def cN(x:aJ×aJ×aJ×aJ×Unit)(t:Int):=uQ (w (9*bif ai (x6 x.1 x.2.1 x.2.2.1) (x6 x.2.1 x.2.2.1 x.2.2.2.1)then x6 x.2.1 x.2.2.1 x.2.2.2.1 else x6 x.1 x.2.1 x.2.2.1)) t [x.1,x.2.1,x.2.2.1,x.2.2.2.1]
theorem akc x t:H3 x t=ab (cN x t):=by
 unfold H3;rw[T1,ah,T1,ah,adJ (by simp[big])]
 rfl
theorem JN x{n:Int}(h1:1<=n)(h2:n<=1000000):∃v,pE x n=ab v:=by
 unfold pE;have h:w (2*n)≠0:=by rw[aw];omega
 rw[nG h,nG h];cases ak _ 0<;>exact⟨_,rfl⟩
def uP(i n:Int):=ai 1 n&&ai n 64&&ai 0 i&&ai i n
theorem JF{l:List aJ}(A:l.length<=big) i n:H7 l i n=ab (l.all br&&uP i n):=by
 refine(rU l br af (uP i n) (λj I=>?_) ?_).trans (by simp)
 .unfold OZ;dsimp only;rw[bh,cH I,p9,aw (by omega) (by unfold big at A;omega)]
  cases br _<;>rfl
 unfold OZ;dsimp only;rw[bc];simp[cO];rfl
theorem Km{i n:Int}(h:uP i n=ag):1<=n/\n<=64:=by
 simp_all[uP,lU]
theorem FH{n:Int}(h1:1<=n)(h2:n<=64):1<=n*n/\n*n<=4096:=by
 constructor
 .have:=qe h1 h1 (by omega) (by omega);omega
 have:=qe h2 h2 (by omega) (by omega);omega
theorem Xq{n:Int}(h1:1<=n)(h2:n<=64):1<=n*n*n/\n*n*n<=262144:=by
 obtain⟨a,b⟩:=FH h1 h2;constructor
 .have:=qe a h1 (by omega) (by omega);omega
 have:=qe b h2 (by omega) (by omega);omega
theorem atS x i n:∃v,uf x i n=ab v:=by
 have I:[x.1,x.2.1,x.2.2.1].length<=big:=by simp[big]
 unfold uf;rw[JF I,ah];cases h:(([x.1,x.2.1,x.2.2.1]).all br&&uP i n)<;>first|rw[aM]at h;obtain⟨J,U⟩:=Km h.2;obtain⟨A,Z⟩:=FH J U;rw[cg,aw (n:=n*n)];obtain⟨a,c⟩:=JN (w (w (w (w (w (n-i)*w (n-i))*x.1.1)+w (w (w (2*i)*w (n-i))*x.2.1.1))+w (w (i*i)*x.2.2.1.1))) A (by omega);obtain⟨b,d⟩:=JN (w (w (w (w (w (n-i)*w (n-i))*x.1.2.1)+w (w (w (2*i)*w (n-i))*x.2.1.2.1))+w (w (i*i)*x.2.2.1.2.1))) A (by omega);simp_all|simp
theorem akb x i n:∃v,ue x i n=ab v:=by
 have J:[x.1,x.2.1,x.2.2.1,x.2.2.2.1].length<=big:=by simp[big]
 unfold ue;rw[JF J,ah];cases h:(([x.1,x.2.1,x.2.2.1,x.2.2.2.1]).all br&&uP i n)<;>first|rw[aM]at h;obtain⟨A,I⟩:=Km h.2;obtain⟨U,Z⟩:=FH A I;obtain⟨c1,c2⟩:=Xq A I;rw[cg,aw (n:=n*n),aw (n:=n*n*n)];obtain⟨a,c⟩:=JN (w (w (w (w (w (w (w (n-i)*w (n-i))*w (n-i))*x.1.1)+w (w (w (w (3*i)*w (n-i))*w (n-i))*x.2.1.1))+w (w (w (w (3*i)*i)*w (n-i))*x.2.2.1.1))+w (w (w (i*i)*i)*x.2.2.2.1.1))) c1 (by omega);obtain⟨b,d⟩:=JN (w (w (w (w (w (w (w (n-i)*w (n-i))*w (n-i))*x.1.2.1)+w (w (w (w (3*i)*w (n-i))*w (n-i))*x.2.1.2.1))+w (w (w (w (3*i)*i)*w (n-i))*x.2.2.1.2.1))+w (w (w (i*i)*i)*x.2.2.2.1.2.1))) c1 (by omega);simp_all|simp
def qG(g:Int->aJ)
 |_,0=>[]
 |i,k+1=>g i::qG g (i+1) k
theorem Pa g:∀k i,(qG g i k).length=k
 |0,_=>rfl
 |k+1,i=>by show(qG g _ k).length+1=_;rw[Pa g k]
def gQ(x:aJ×aJ×aJ×Unit)(n i:Int):=(uf x i n).getD z2
def gC(x:aJ×aJ×aJ×aJ×Unit)(n i:Int):=(ue x i n).getD z2
theorem amd x n i:uf x i n=ab (gQ x n i):=by
 obtain⟨v,h2⟩:=atS x i n;simp[gQ,h2]
theorem amb x n i:ue x i n=ab (gC x n i):=by
 obtain⟨v,h2⟩:=akb x i n;simp[gC,h2]
theorem aef x n(I:n.1<=64):∀(k:Nat) (i:Int) A,i+k=n.1+1->1<=i->A.length<=100->(A.length)<=i->
  aA (Da x n) ((i,()),(A,()),())=ab (A++qG (gQ x n.1) i k,0,())
 |0,i,A,J,h1,U,Z=>by
  refine cP ?_;unfold Da;dsimp only;rw[dh];show _=ab (cF (A++[],0,()));rw[np];rfl
 |k+1,i,A,J,h1,U,Z=>by
  have a:Da x n ((i,()),(A,()),())=ab (bb ((i+1,()),(A++[gQ x n.1 i],()),())):=by
   unfold Da;dsimp only;rw[bV,ao,amd x _ i,ah,cS (jA (by simp;omega) (by simp;omega)),aw];rfl
  rw[eY a,aef x n I k _ _ (by omega) (by omega) (by simp;omega) (by simp;omega),mj]
  rfl
theorem Xs x n(I:n.1<=64):∀(k:Nat) (i:Int) A,i+k=n.1+1->1<=i->A.length<=100->(A.length)<=i->
  aA (C8 x n) ((i,()),(A,()),())=ab (A++qG (gC x n.1) i k,0,())
 |0,i,A,J,h1,U,Z=>by
  refine cP ?_;unfold C8;dsimp only;rw[dh];show _=ab (cF (A++[],0,()));rw[np];rfl
 |k+1,i,A,J,h1,U,Z=>by
  have a:C8 x n ((i,()),(A,()),())=ab (bb ((i+1,()),(A++[gC x n.1 i],()),())):=by
   unfold C8;dsimp only;rw[bV,ao,amb x _ i,ah,cS (jA (by simp;omega) (by simp;omega)),aw];rfl
  rw[eY a,Xs x n I k _ _ (by omega) (by omega) (by simp;omega) (by simp;omega),mj]
  rfl
def fM p(s:ct) t:=
 bif aj s.1 3 then bif !aj (qN (p,s.2.1,s.2.2.1,()) t).2.1 0 then([],(qN (p,s.2.1,s.2.2.1,()) t).2.1,())else(qG (gQ (p,s.2.1,s.2.2.1,()) (qN (p,s.2.1,s.2.2.1,()) t).1) 1 (qN (p,s.2.1,s.2.2.1,()) t).1.toNat,0,())
 else bif aj s.1 4 then bif !aj (cN (p,s.2.1,s.2.2.1,s.2.2.2.1,()) t).2.1 0 then([],(cN (p,s.2.1,s.2.2.1,s.2.2.2.1,()) t).2.1,())else(qG (gC (p,s.2.1,s.2.2.1,s.2.2.2.1,()) (cN (p,s.2.1,s.2.2.1,s.2.2.2.1,()) t).1) 1 (cN (p,s.2.1,s.2.2.1,s.2.2.2.1,()) t).1.toNat,0,())
 else([s.2.1],0,())
theorem atU x t:H5 x t=ab (bif !aj (qN x t).2.1 0 then([],(qN x t).2.1,())else(qG (gQ x (qN x t).1) 1 (qN x t).1.toNat,0,())):=by
 unfold H5;rw[atT,ah];cases h:aj (qN x t).2.1 0<;>first|rw[fB,decide_eq_true_eq]at h;obtain⟨A,I⟩:=Kt (need:=x6 x.1 x.2.1 x.2.2.1) (x7:=t) (l:=[x.1,x.2.1,x.2.2.1]) h;have A:1<=(qN x t).1:=A;exact aef x (qN x t) I (qN x t).1.toNat 1 [] (by omega) (by omega) (by simp) (by simp)|rfl
theorem akT x t:H2 x t=ab (bif !aj (cN x t).2.1 0 then([],(cN x t).2.1,())else(qG (gC x (cN x t).1) 1 (cN x t).1.toNat,0,())):=by
 unfold H2;rw[akc,ah];cases h:aj _ 0<;>first|rw[fB,decide_eq_true_eq]at h;have A:=Kt (need:=_) (x7:=t) (l:=[x.1,x.2.1,x.2.2.1,x.2.2.2.1]) (show(cN x t).2.1=0 from h);have I:1<=(cN x t).1:=A.1;exact Xs x (cN x t) A.2 _ 1 [] (by omega) (by omega) (by simp) (by simp)|rfl
theorem avl p s t:H8 p s t=ab (fM p s t):=by
 unfold H8 fM;cases aj _ 3 with
 |true=>
  rw[atU _ t];simp
 |false=>
  cases aj s.1 4<;>first|rw[akT _ t];simp|rfl
theorem TM{p:aJ}{s:ct}{t:Int}(h:(fM p s t).2.1=0):1<=(fM p s t).1.length/\(fM p s t).1.length<=64:=by
 unfold fM at h|-;cases Z:aj _ 3 with
 |true=>
  rw[ao];cases I:aj (qN (p,s.2.1,s.2.2.1,()) t).2.1 0<;>first|rw[fB,decide_eq_true_eq]at I;have A:=Kt (need:=_) (x7:=t) (l:=_) (show(qN (p,s.2.1,s.2.2.1,()) t).2.1=0 from I);have J:1<=(qN (p,s.2.1,s.2.2.1,()) t).1:=A.1;have U:(qN (p,s.2.1,s.2.2.1,()) t).1<=64:=A.2;rw[cg,au,Pa];omega|simp_all[fB,decide_eq_false_iff_not,absurd,h,I]
 |false=>
  rw[au];cases a:aj _ 4 with
  |true=>
   rw[ao];cases I:aj (cN (p,s.2.1,s.2.2.1,s.2.2.2.1,()) t).2.1 0<;>first|rw[fB,decide_eq_true_eq]at I;have A:=Kt (need:=_) (x7:=t) (l:=_) (show(cN (p,s.2.1,s.2.2.1,s.2.2.2.1,()) t).2.1=0 from I);have J:1<=(cN (p,s.2.1,s.2.2.1,s.2.2.2.1,()) t).1:=A.1;have U:(cN (p,s.2.1,s.2.2.1,s.2.2.2.1,()) t).1<=64:=A.2;rw[cg,au,Pa];omega|simp_all[fB,decide_eq_false_iff_not,absurd,h,I]
  |false=>simp
end
section
def nH(a b:aJ):=cJ (Ty.st 2 ((Ty.int .i64).cn ((Ty.int .i64).cn Ty.nl))) a b
def fc(l:List aJ):=l[l.length-1]?.getD z2
theorem arI{l:List aJ}(h:0< l.length):l[l.length-1]'(by omega)=fc l:=by
 grind[fc]
def mC:List aJ->List aJ->List aJ
 |l,[]=>l
 |l,x::m=>bif nH (fc l) x then mC l m else mC (l++[x]) m
theorem Ci:∀m l,l.length<=(mC l m).length/\(mC l m).length<=l.length+m.length
 |[],l=>⟨aL _,aL _⟩
 |x::m,l=>by
  unfold mC;cases nH _ x with
  |true=>have:=Ci m l;rw[ao,fH];omega
  |false=>
   have:=Ci m (l++[x]);rw[au,fH];simp at this;omega
def o0(l:List aJ):=bif ak 1 l.length&&nH (fc l) (l[0]?.getD z2)then l.take (l.length-1)else l
theorem Us l:(o0 l).length<=l.length:=by
 grind[o0]
def lk(t:Int):List fj->List aJ->Bool->List ct->List fj⊕Int
 |pre,aV,cl,[]=>.inl (pre++[(aV,cl,())])
 |pre,aV,cl,s::l=>bif aj s.1 1 then lk t (pre++[(aV,cl,())]) [s.2.1] af l
  else bif !aj s.1 5 then bif !aj (fM (fc aV) s t).2.1 0 then cF (fM (fc aV) s t).2.1 else lk t pre (mC aV (fM (fc aV) s t).1) cl l
  else lk t pre (o0 aV) ag l
def jZ(l:List fj):=(l.map λp=>p.1.length).foldl (· + ·) 0
def AD(o:List fj⊕Int):=match o with
 |.inr e=>([],e,())
 |.inl q=>bif ak 4096 (jZ q)then([],5,())else(q,0,())
theorem QB{β:Type}{l:List aJ}(h:0< l.length)(A:l.length<=100000:=by omega){f:aJ->Option β}:aN l (w ((l.length)-1)) f=f (fc l):=by
 rw[aw,show l.length-1=((l.length-1:Nat):Int) by omega,uz,arI h]
theorem Sz{I:((List fj×fj×Unit)×Int×Unit)×Unit×Unit}{A:List aJ×Int×Unit}(hm:A.1.length<=64){pre:List fj}{cl:Bool}:∀k j aV,j+k=A.1.length->0< aV.length->aV.length+k<=30000->
  aA (zF I A) (((j),()),((pre,(aV,cl,()),()),()),())=ab (bb (((pre,(mC aV (A.1.drop j),cl,()),()),w (I.1.2.1+1),()),(),()))
 |0,j,aV,U,hp,Z=>by
  refine cP ?_;unfold zF;dsimp only;rw[bc,g8 (by omega)];rfl
 |k+1,j,aV,U,hp,Z=>by
  have J:j< A.1.length:=by omega
  rw[il J];show _=ab (bb (((pre,(bif nH _ _ then mC _ _ else mC _ _,cl,()),()),w _,()),(),()));have e:zF I A ((j,()),((pre,(aV,cl,()),()),()),())=ab (bb ((((j+1:Nat):Int),()),((pre,(bif nH (fc aV) A.1[j]then aV else aV++[A.1[j]],cl,()),()),()),())):=by
   unfold zF;dsimp only;rw[bh,ao,cH J,bK (x:=aV.length) (y:=0),nS,QB hp,ah,aw (n:=j+1)];show(bif !nH _ _ then _ else _)=_;cases nH _ _<;>first|rfl|rw[fO,ao,cS (jA (by simp;omega) (by simp;omega))];rfl
  rw[eY e];cases nH _ _ with
  |true=>exact Sz hm k _ aV (by omega) hp (by omega)
  |false=>exact Sz hm k _ _ (by omega) (by simp) (by simp;omega)
theorem awb a b:jZ (a++b)=jZ a+jZ b:=by
 unfold jZ;have key:∀(l:List _) n,l.foldl (· + ·) n=n+l.foldl (· + ·) 0:=by
  intro l;induction l with
  |nil=>simp
  |cons a l ih=>grind
 grind
theorem awc{q:List fj}{s4:((List fj×fj×Unit)×Int×Unit)×Unit×Unit}(I:q=cx s4.1.1.1 [(s4.1.1.2.1.1,s4.1.1.2.1.2.1,())])(a:q.length<=100000)(hp:∀p∈q,p.1.length<=100000):∀k i,i+k=q.length->
  aA (C9 s4) (((jZ (q.take i)),(i),()),(),())=ab (AD (bb q)):=by
 have J:∀i,i<=q.length->jZ (q.take i)<=i*100000:=by
  intro i;induction i with
  |zero=>simp[jZ]
  |succ i ih=>
   intro hi;have A:=by omega
   rw[Vv A];grind[jZ]
 intro k;induction k with
 |zero=>
  intro i U;refine cP ?_;unfold C9;dsimp only;rw[<-I,bc,rG (by omega)]
  show _=ab (cF (bif ak _ (jZ q)then([],5,())else(q,0,())));cases ak _ (jZ q)<;>rfl
 |succ k ih=>
  intro i U;have hi:i< q.length:=by omega
  have h1:=J i (by omega)
  have h2:=hp _ (gR hi);have e:C9 s4 (((jZ (q.take i)),(i),()),(),())=ab (bb (((jZ (q.take (i+1)):Int),((i+1):Int),()),(),())):=by
   unfold C9;dsimp only;have Z:jZ (q.take (i+1))=jZ (q.take i)+q[i].1.length:=by
    rw[Vv hi,awb];simp[jZ]
   rw[<-I,bh,uz hi,aw (n:=(i)+1),aw,Z];rfl
  rw[eY e];grind
theorem HZ{x:List ct}(U:x.length<=256)(t:Int):∀(k i:Nat) (pre:List fj) (aV:List aJ) (cl:Bool),i+k=x.length->pre.length<=i->(∀p∈pre,p.1.length<=20000)->0< aV.length->aV.length<=64*i+1->
  aA (qF x t) (((pre,(aV,cl,()),()),(i:Int),()),(),())=ab (AD (lk t pre aV cl (x.drop i)))
 |0,i,pre,aV,cl,g,h1,h2,A,h=>by
  refine cP ?_;unfold qF;dsimp only;rw[bc,au,g8 (by omega)]
  have:=awc (q:=pre++[(aV,cl,())]) (s4:=(((pre,(aV,cl,()),()),(i:Int),()),(),())) rfl (by simp;omega) (λp hp=>by
   rcases cD.1 hp with hp|hp
   .have:=h2 p hp;omega
   simp at hp;subst hp;simp;omega) _ 0 (db _)
  rw[show((0:Int),(0:Int),())=(((jZ ((pre++[(aV,cl,())]).take 0):Nat):Int),((0:Nat):Int),())from rfl,this];rfl
 |k+1,i,pre,aV,cl,g,h1,h2,A,h=>by
  have hi:i< x.length:=by omega
  rw[il hi];have I:∀p∈pre++[(aV,cl,())],p.1.length<=20000:=λp hp=>by
   rcases cD.1 hp with hp|hp
   .exact h2 p hp
   simp at hp;subst hp;simp;omega
  show _=ab (AD (bif aj x[i].1 1 then lk t (pre++[(aV,cl,())]) [x[i].2.1] af (x.drop (i+1))
   else bif !aj x[i].1 5 then(bif !aj (fM (fc aV) x[i] t).2.1 0 then cF (fM (fc aV) x[i] t).2.1 else lk t pre (mC aV (fM (fc aV) x[i] t).1) cl (x.drop (i+1)))
   else lk t pre (o0 aV) ag (x.drop (i+1))))
  have Z:∀(f:ct->Option ((((List fj×fj×Unit)×Int×Unit)×Unit×Unit)⊕List fj×Int×Unit)),aQ x (i:Int) f=f x[i]:=λf=>cH hi
  cases hm:aj x[i].1 1 with
  |true=>
   have e:qF x t (((pre,(aV,cl,()),()),(i:Int),()),(),())=ab (bb (((pre++[(aV,cl,())],([x[i].2.1],af,()),()),((i+1:Nat):Int),()),(),())):=by
    unfold qF;dsimp only;rw[bh,ao,Z,hm,ao,cS (jA (by simp[cx];omega) (by simp[cx];omega)),aw (n:=(i:Int)+1)];rfl
   rw[eY e,ao];exact HZ U t k (i+1) _ _ _ (by omega) (by simp;omega) I (by simp) (by simp)
  |false=>
   rw[au];have b:aj (w (((pre.length+1:Nat):Int)-1)) (pre.length:Int)=ag:=by rw[aw];exact cT
   cases c:aj x[i].1 5 with
   |false=>
    rw[fO,ao];have e:qF x t (((pre,(aV,cl,()),()),(i:Int),()),(),())=bif !aj (fM (fc aV) x[i] t).2.1 0 then ab (cF ([],(fM (fc aV) x[i] t).2.1,()))else aA (zF (((pre,(aV,cl,()),()),(i:Int),()),(),()) (fM (fc aV) x[i] t)) ((0,()),((pre,(aV,cl,()),()),()),()):=by
     unfold qF;dsimp only;rw[bh,ao,Z,hm,au,cS b,c,fO,ao,QB A,avl (fc aV) x[i] t,ah];rfl
    cases J:aj (fM (fc aV) x[i] t).2.1 0<;>first|rw[J,cg,au]at e;rw[fB,decide_eq_true_eq]at J;obtain⟨o,j⟩:=TM J;rw[show((0:Int),())=(((0:Nat):Int),())from rfl,Sz j _ 0 aV (db _) A (by omega),qh]at e;have l:=Ci (fM (fc aV) x[i] t).1 aV;rw[eY e,cg,au];dsimp only;rw[aw];exact HZ U t k (i+1) _ _ _ (by omega) (by omega) h2 (by omega) (by omega)|rw[J]at e;rw[cP e];rfl
   |true=>
    rw[cg,au];have m:aV[0]? =ab ((aV[0]?).getD z2):=by rw[gA A];rfl
    have e:qF x t (((pre,(aV,cl,()),()),(i:Int),()),(),())=ab (bb (((pre,(o0 aV,ag,()),()),((i+1:Nat):Int),()),(),())):=by
     unfold qF;dsimp only;rw[bh,ao,Z,hm,au,cS b,c,cg,au,QB A,cS (bh),m,ah,cO,ah,aw (n:=(i:Int)+1)];show(bif ak 1 (aV.length:Int)&&nH (fc aV) ((aV[0]?).getD z2)then _ else _)=_;unfold o0;cases d:(ak 1 (aV.length:Int)&&nH (fc aV) ((aV[0]?).getD z2))with
     |false=>rfl
     |true=>
      rw[ao,ao,aw,cS (by rw[bV,bV];rfl),cS (bh),show((aV.length:Int)-1).toNat=aV.length-1 by omega];rfl
    have l:=Us aV;have a:0<(o0 aV).length:=by
     unfold o0;cases d:(ak 1 (aV.length:Int)&&nH (fc aV) ((aV[0]?).getD z2))with
     |false=>exact A
     |true=>
      rw[aM,mI,decide_eq_true_eq]at d;rw[ao,gi];omega
    rw[eY e];exact HZ U t k (i+1) _ _ _ (by omega) (by omega) h2 a (by omega)
def Oh(t:Int)(out:List fj)(l:List ct):List fj⊕Int:=match l with
 |[]=>.inl out
 |s::l=>lk t out [s.2.1] af l
def kF x t:=bif !pB x then([],10,())else bif !rl t then([],2,())else AD (Oh t [] x)
theorem as2{x:List ct}(h:pB x=ag) A:aj x[0].1 1=ag:=by
 have I:=Ep h;unfold pB pq at h;rw[ax (by omega)]at h
 cases x with
 |nil=>cases A
 |cons s l=>
  rw[Hi]at h;show aj s.1 1=ag;cases hw:aj (gO 5 s) 0 with
  |false=>
   simp_all[fB,h]
  |true=>
   unfold gO at hw;cases h1:ak (nm s.1) 0<;>first|rw[h1]at hw;cases h2:aj s.1 1<;>first|rw[h2]at hw;cases hw|rfl|rw[h1]at hw;cases hw
theorem al1 x t:H4 x t=ab (kF x t):=by
 unfold H4 kF;rw[Ko,cI,agn];show bt (bif !pB x then _ else bif !rl t then _ else _) _=_;cases hp:pB x with
 |false=>rfl
 |true=>
  cases rl t
  .rfl
  unfold YK;cases x<;>first|rename_i s l;have h1:=as2 hp (by simp);have h1:aj s.1 1=ag:=h1;rw[bh (by simp)];show(aT (aj s.1 1) (aA (qF (s::l) t) ((([],([s.2.1],af,()),()),((1:Nat)),()),(),())))=_;rw[cS h1,HZ (Ep hp) t l.length 1 [] _ _ (by grind) (by simp) (λp hp=>by cases hp) (by simp) (by simp)];rfl|exact cP rfl
end
section
def iX:List fj->List (List aJ)
 |[]=>[]
 |p::l=>bif ai 3 (p.1.length:Int)then p.1::iX l else iX l
theorem O9{x:List fj}(I:x.length<=100000)(hp:∀p∈x,p.1.length<=1000000):∀(k i:Nat) (A:List (List aJ)),i+k=x.length->A.length<=i->aA (EG x) ((A,(i:Int),()),(),())=ab (A++iX (x.drop i))
 |0,i,A,J,U=>by
  refine cP ?_;unfold EG;dsimp only;rw[bc,g8 (by omega)]
  show _=ab (cF (A++[]));rw[np];rfl
 |k+1,i,A,J,U=>by
  have hi:i< x.length:=by omega
  have Z:=hp _ (gR hi);rw[il hi];show _=ab (A++(bif ai 3 (x[i].1.length)then x[i].1::iX (x.drop (i+1))else iX (x.drop (i+1))));have e:EG x ((A,(i),()),(),())=ab (bb ((bif ai 3 (x[i].1.length)then A++[x[i].1]else A,((i+1:Nat):Int),()),(),())):=by
   unfold EG;dsimp only;rw[bh,ao,cH hi,cS (jA),cS (jA (by simp;omega) (by simp;omega)),aw]
   cases ai 3 (x[i].1.length)<;>rfl
  rw[eY e];cases ai 3 (x[i].1.length:Int)<;>first|rw[ao,ao,O9 I hp k (i+1) _ (by omega) (by simp;omega),mj];rfl|exact O9 I hp k (i+1) A (by omega) (by omega)
theorem HX{t:Int}:∀(l:List ct) (pre:List fj) (aV:List aJ) (cl:Bool) (q:List fj),(∀p∈pre,p.1.length<=100000)->aV.length+64*l.length<=30000->lk t pre aV cl l=bb q->q.length<=pre.length+l.length+1/\∀p∈q,p.1.length<=100000
 |[],pre,aV,cl,q,h1,h2,e=>by
  cases e;refine⟨by simp,λp hp=>?_⟩
  rcases cD.1 hp with hp|hp
  .exact h1 p hp
  simp at hp;subst hp;simp at h2|-;omega
 |s::l,pre,aV,cl,q,h1,h2,e=>by
  rw[fH]at h2;have e:(bif aj s.1 1 then lk t (pre++[(aV,cl,())]) [s.2.1] af l
   else bif !aj s.1 5 then(bif !aj (fM (fc aV) s t).2.1 0 then cF (fM (fc aV) s t).2.1 else lk t pre (mC aV (fM (fc aV) s t).1) cl l)
   else lk t pre (o0 aV) ag l)=bb q:=e
  cases hm:aj s.1 1 with
  |true=>
   rw[hm,ao]at e;have:=HX l _ _ _ q (λp hp=>by
    rcases cD.1 hp with hp|hp
    .exact h1 p hp
    simp at hp;subst hp;simp;omega) (by simp;omega) e
   simp at this|-;exact⟨by omega,this.2⟩
  |false=>
   rw[hm,au]at e;cases I:aj s.1 5 with
   |true=>
    rw[I,cg,au]at e;have J:=Us aV;have:=HX l _ _ _ q h1 (by omega) e
    rw[fH];exact⟨by omega,this.2⟩
   |false=>
    rw[I,fO,ao]at e;cases A:aj (fM (fc aV) s t).2.1 0<;>first|rw[A,cg,au]at e;rw[fB,decide_eq_true_eq]at A;have n:=TM A;have J:=Ci (fM (fc aV) s t).1 aV;have:=HX l _ _ _ q h1 (by omega) e;rw[fH];exact⟨by omega,this.2⟩|rw[A]at e;cases e
theorem YI(x:List ct)(t:Int):(kF x t).1.length<=100000/\∀p∈(kF x t).1,p.1.length<=1000000:=by
 unfold kF;cases hp:pB x with
 |false=>simp
 |true=>
  cases rl t
  .simp
  have I:=Ep hp;have key:∀q,Oh t [] x=bb q->q.length<=100000/\∀p∈q,p.1.length<=1000000:=λq A=>by
   cases x
   .cases A;simp
   rename_i s l;rw[fH]at I;have:=HX l [] [s.2.1] af q (λp h=>by cases h) (by simp;omega) A
   grind
  unfold AD;grind
def pC(x:List ct)(T:Af)(t:Int):List (List aJ)×Int×Unit:=
 bif !aj (iB x T).2.1 0 then([],(iB x T).2.1,())else bif !aj (kF (iB x T).1 t).2.1 0 then([],(kF (iB x T).1 t).2.1,())else(iX (kF (iB x T).1 t).1,0,())
theorem alT(x:List ct){y:bQ}(A:dI wide y)(t:Int):Kc x y t=ab (pC x (av y) t):=by
 unfold Kc pC;rw[awe x A,ah];cases aj (iB x (av y)).2.1 0 with
 |false=>rfl
 |true=>
  obtain⟨k1,k2⟩:=YI (iB x (av y)).1 t;rw[cg,al1,ah];rw[show Sn (kF (iB x (av y)).1 t).1=ab (iX (kF (iB x (av y)).1 t).1)from O9 k1 k2 _ 0 [] (db _) (bH _)];cases h:aj (kF (iB x (av y)).1 t).2.1 0 with
  |false=>rfl
  |true=>
   simp_all[fB,decide_eq_true_eq,cg,au,h]
end
section
def jM(x:List (List aJ)):Prop:=x.length<=100000/\∀r∈x,r.length<=1000000
def sG:Nat->List (List aJ)->Bool
 |_,[]=>ag
 |n,r::l=>bif ak 4096 ((n:Int)+r.length)then af else bif r.all br then sG (n+r.length) l else af
theorem SC(n:Nat)(r:List aJ)(l:List (List aJ)):sG n (r::l)=bif ak 4096 ((n:Int)+r.length)then af else bif r.all br then sG (n+r.length) l else af:=rfl
theorem atJ{r:List aJ}(I:r.length<=1000000):aA (AK r) ((0,()),(),())=ab (!r.all br):=by
 have key:∀(k i:Nat),i+k=r.length->aA (AK r) (((i:Int),()),(),())=ab (!(r.drop i).all br):=by
  intro k;induction k with
  |zero=>
   intro i A;refine cP ?_;unfold AK;dsimp only;rw[bc,g8 (by omega)];rfl
  |succ k ih=>
   intro i A;have hi:i< r.length:=by omega
   have e:AK r (((i:Int),()),(),())=bif br r[i]then ab (bb ((((i+1:Nat):Int),()),(),()))else ab (cF ag):=by
    unfold AK So;dsimp only;rw[bh,ao,cH hi,p9,ah,ah,aw,bV];cases br r[i]<;>rfl
   rw[il hi,vp];cases h:br r[i]with
   |true=>rw[h,ao]at e;rw[eY e,lG];exact ih (i+1) (by omega)
   |false=>rw[h,au]at e;rw[cP e];rfl
 exact key r.length 0 (by omega)
theorem ad6{x:List (List aJ)}(h:jM x):∀(k i n:Nat),i+k=x.length->n<=4096->aA (EJ x) (((n:Int),(i:Int),()),(),())=ab (sG n (x.drop i))
 |0,i,n,A,I=>by
  refine cP ?_;unfold EJ;dsimp only;rw[bc,g8 (by omega)];rfl
 |k+1,i,n,A,I=>by
  have hi:i< x.length:=by omega
  have J:=h.2 _ (gR hi);have U:=h.1;have e:EJ x (((n:Int),(i:Int),()),(),())=bif ak 4096 ((n:Int)+x[i].length)then ab (cF af)else bif x[i].all br then ab (bb (((((n+x[i].length:Nat)):Int),((i+1:Nat):Int),()),(),()))else ab (cF af):=by
   unfold EJ;dsimp only;rw[bh,ao,cH hi,atJ J,cI,ah,aw (n:=(n:Int)+x[i].length),aw (n:=(i:Int)+1)];cases ak 4096 ((n:Int)+x[i].length)<;>cases x[i].all br<;>rfl
  rw[il hi,SC];cases h1:ak 4096 ((n:Int)+x[i].length)with
  |true=>rw[h1,ao]at e;rw[cP e];rfl
  |false=>
   rw[h1,au]at e;rw[mI,decide_eq_false_iff_not]at h1;rw[au];cases h2:x[i].all br with
   |true=>rw[h2,ao]at e;rw[eY e,ao];exact ad6 h k (i+1) _ (by omega) (by omega)
   |false=>rw[h2,au]at e;rw[cP e];rfl
theorem EK{x:List (List aJ)}(h:jM x):sC x=ab (sG 0 x):=ad6 h x.length 0 0 (by omega) (by omega)
end
section
theorem YP:∀(l:List fj),(∀p∈l,p.1.length<=1000000)->(iX l).length<=l.length/\∀r∈iX l,r.length<=1000000
 |[],_=>⟨aL _,λr h=>by cases h⟩
 |p::l,h=>by
  have ih:=YP l (λq I=>h q (ff _ I))
  have hp:=h p (eh ..);show(bif ai 3 (p.1.length)then p.1::iX l else iX l).length<=_/\∀r∈(bif ai 3 (p.1.length)then p.1::iX l else iX l),_;cases ai 3 (p.1.length)with
  |true=>
   refine⟨by rw[ao,fH,fH];omega,λr A=>?_⟩
   rw[ao]at A;rcases du.1 A with rfl|A<;>try trivial
   exact ih.2 r A
  |false=>exact⟨by rw[au,fH];omega,ih.2⟩
theorem alP(x:List ct)(T:Af)(t:Int):jM (pC x T t).1:=by
 have A:jM []:=⟨by simp,λr h=>by cases h⟩
 unfold pC;cases aj (iB x T).2.1 0 with
 |false=>exact A
 |true=>
  obtain⟨k1,k2⟩:=YI (iB x T).1 t;cases aj (kF (iB x T).1 t).2.1 0<;>first|have:=YP _ k2;exact⟨b8 this.1 k1,this.2⟩|exact A
theorem alN{x:List ct}{T:Af}{t:Int}(h:aj (pC x T t).2.1 0=af):(pC x T t).1=[]:=by
 unfold pC at h|-;cases h1:aj (iB x T).2.1 0 with
 |false=>rfl
 |true=>
  cases h2:aj (kF (iB x T).1 t).2.1 0
  .rfl
  exact absurd (cT (x:=0) (y:=0) rfl) (by grind)
theorem anK{β:Type}{L:List Nat}{i:Nat}(h:i< L.length){f:Int->Option β}:aQ (ints L) (i:Int) f=f (L[i]:Int):=by
 rw[cH (by simp[aap,h])]
 simp[ints,Vo]
def FF(x:bQ):Bool:=[x.1,x.2.1,x.2.2.1,x.2.2.2.1,x.2.2.2.2.1,x.2.2.2.2.2.1].all λq=>!(ak 3 (q.1.2.1.length:Int)||ak 3 (q.2.1.2.1.length:Int))
theorem afG(x:bQ):DV x=ab (FF x):=by
 unfold DV FF;refine(rU [x.1,x.2.1,x.2.2.1,x.2.2.2.1,x.2.2.2.2.1,x.2.2.2.2.2.1] (λq=>!(ak 3 (q.1.2.1.length)||ak 3 (q.2.1.2.1.length))) af ag (λi hi=>?_) ?_).trans (by simp)<;>try trivial
 have A:i< 6:=hi;unfold abq;dsimp only;rw[bh,uz hi,uz hi,cI,aw];cases(ak 3 (([x.1,x.2.1,x.2.2.1,x.2.2.2.1,x.2.2.2.2.1,x.2.2.2.2.2.1][i]).1.2.1.length)||ak 3 (([x.1,x.2.1,x.2.2.1,x.2.2.2.1,x.2.2.2.2.1,x.2.2.2.2.2.1][i]).2.1.2.1.length))<;>rfl
def xW(p:eS):Bool:=!(!FF p.2.2.2.2.2.2.2.2.2.1||ak 100 (p.2.2.2.2.2.2.2.1.2.2.1.length:Int)||ak 30 (p.2.2.2.2.2.1.length:Int))
theorem avG{A:(Int×Unit)×Unit×Unit}{l:List eS}(I:l.length<=big):aA (Jk A l) ((0,()),(),())=ab (bif l.all xW then bb ((w (A.1.1+1),()),(),())else cF (cF af)):=by
 refine rU l xW (cF (cF af)) (bb ((w (A.1.1+1),()),(),())) (λi hi=>?_) ?_
 .unfold Jk xW;dsimp only;rw[bh,cH hi,afG,ah,cH hi,cI,ah,cH hi,cI,aw (by omega) (by unfold big at I;omega)]
  cases(!FF l[i].2.2.2.2.2.2.2.2.2.1||ak 100 (l[i].2.2.2.2.2.2.2.1.2.2.1.length)||ak 30 (l[i].2.2.2.2.2.1.length))<;>rfl
 unfold Jk;dsimp only;rw[bc];rfl
end
section
variable [Gh]
def few:Nat:=1048576
theorem alM:few<=wide:=by simp[few,wide]
theorem wm:few<=big:=by simp[few,big]
theorem agP{x:DZ}(h:Ty.Ok tZ x)(k:Ty.Sm few tZ x):cM wide x:=by
 obtain⟨_,⟨_,h⟩,_⟩:=h;obtain⟨_,⟨k,_⟩,_⟩:=k;exact⟨λd A=>by
  have:=h d A;obtain⟨a,b⟩:(ahj).min<=d/\d<=(ahj).max:=this;have a:(0)<=d:=a;have b:d<=(4294967295):=b;omega,b8 k alM⟩
theorem AP{x:DQ}(h:Ty.Ok tQ x)(k:Ty.Sm few tQ x):bp wide x:=by
 obtain⟨h1,h2,_⟩:=h;obtain⟨k1,k2,_⟩:=k;exact⟨agP h1 k1,agP h2 k2⟩
theorem VW{x:bQ}(h:Ty.Ok dB x)(k:Ty.Sm few dB x):dI wide x:=by
 obtain⟨h1,h2,A,I,J,U,_⟩:=h;obtain⟨k1,k2,Z,a,b,c,_⟩:=k;exact⟨AP h1 k1,AP h2 k2,AP A Z,AP I a,AP J b,AP U c⟩
theorem adC{x:eS}(h:Ty.Ok kR x)(k:Ty.Sm few kR x):tA x:=by
 obtain⟨_,_,_,_,_,_,_,_,_,h,_⟩:=h;obtain⟨_,_,_,_,_,⟨k1,_⟩,_,⟨_,_,⟨k2,_⟩,_⟩,_,k,_⟩:=k;exact⟨VW h k,b8 k1 wm,b8 k2 wm⟩
theorem ar4{x:bJ}(h:Ty.Ok iQ x)(k:Ty.Sm few iQ x):ql x:=by
 obtain⟨_,_,_,d,_,_,_,_,_,_,_,_,⟨_,J⟩,e,⟨_,U⟩,f,_,_⟩:=h;obtain⟨_,_,_,g,_,_,_,_,_,_,_,_,⟨Z,A⟩,⟨_,_,_,_,⟨a,_⟩,_,_⟩,⟨b,I⟩,⟨_,_,⟨c,_⟩,_⟩,_,_⟩:=k;exact⟨VW d g,λp hp=>adC (J p hp) (A p hp),λp hp=>adC (U p hp) (I p hp),b8 Z wm,b8 b wm,b8 a wm,b8 c wm⟩
theorem afp{x:bY}(h:Ty.Ok gy x)(k:Ty.Sm few gy x):fI x/\x.2.2.2.1.length<=big:=by
 obtain⟨_,_,_,⟨_,h⟩,_⟩:=h;obtain⟨_,_,_,⟨k1,k⟩,_⟩:=k;exact⟨λn A=>ar4 (h n A) (k n A),b8 k1 wm⟩
end
end Go.Proofs.YtohdkalmpfmcmaaGreatDoor
end
