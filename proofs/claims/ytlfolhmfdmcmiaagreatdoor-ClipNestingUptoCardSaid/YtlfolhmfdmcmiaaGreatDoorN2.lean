/- A part of the proof. -/
import Derived.Test.YtlfolhmfdmcmiaaGreatDoorN1
set_option linter.all false
open Bool renaming and_assoc->yd,and_comm->ag3,and_eq_true->aM,and_true->tf,false->af,false_and->n8,false_or->BF,noConfusion->ag5,not_false->fN,not_not->U2,not_true->b9,or_false->BG,or_true->F9,true->ag,true_and->kV,true_or->vb
open Classical renaming choose_spec->ag7
open Go.IntKind renaming u32->ahn
open Int renaming add_mul_ediv_right->ahy,ediv_eq_zero_of_lt->ahA,fdiv_eq_ediv_of_nonneg->qd,gcd_comm->ahB,le_of_lt->ij,le_refl->cf,lt_of_le_of_lt->ahC,lt_of_lt_of_le->ahD,lt_trichotomy->Vu,mul_fdiv_add_fmod->ahF,mul_le_mul->qf,mul_le_mul_of_nonneg_left->qg,mul_lt_mul_of_pos_right->ahG,mul_ne_zero->vg,mul_neg->ahH,natAbs_ediv_le_natAbs->ahI,natAbs_natCast->yr,natAbs_neg->tj,natCast_ediv->Gf,neg_ediv_of_dvd->ahK,neg_mul->ahL,neg_mul_neg->ahM,one_mul->od,pow_add->BS,sign_eq_neg_one_of_neg->BU,sign_eq_one_of_pos->BV,sign_eq_zero_iff_zero->ahO,sub_eq_add_neg->Gg,sub_mul->qh,zero_add->ahQ,zero_mul->ik
open List renaming all_append->ahS,all_cons->vj,all_eq_false->ahT,any_cons->ahU,append_assoc->mr,append_nil->nu,drop_eq_getElem_cons->il,drop_of_length_le->gZ,drop_zero->qi,getD_eq_getElem?_getD->nv,getElem?_eq_getElem->gB,getElem_map->VB,getElem_mem->g7,length_cons->fH,length_map->gf,length_take->fI,map_append->mu,mem_append->cE,mem_cons->dy,mem_cons_of_mem->ff,mem_cons_self->eA,mem_map->kj,take_of_length_le->rF,take_succ->MR,take_succ_eq_append_getElem->VG
open Nat renaming add_comm->Gp,add_sub_cancel->Gq,div_le_self->Gs,eq_zero_or_pos->yB,gcd->g8,gcd_pos_of_pos_right->aia,le_refl->aL,le_trans->bX,lt_or_ge->jH,mod_lt->qk,pow_le_pow_right->tp,sub_le->MW,zero_add->db,zero_le->bI
open Option renaming bind_some->ah,some->ab
open Rat renaming den_divInt->VO,divInt->kX,divInt_mul_divInt->VP,num_divInt->VQ,num_divInt_den->pf
open Sum renaming inl->bb,inr->cy
noncomputable section
namespace Go.Proofs.YtlfolhmfdmcmiaaGreatDoor
open Go.As Go.Nt Go.Cc
def zv(x:DZ):Int:=bif x.1 then -(vN x.2.1:Int)else(vN x.2.1:Int)
def nz(n:Int):DZ:=(decide (n< 0),nd n.natAbs,())
def aP:Nat:=1099511627770
def cP(k:Nat)(x:DZ):Prop:=Dg x.2.1/\x.2.1.length<=k
theorem bJ(n:Int):zv (nz n)=n:=by
 unfold zv nz;rw[gd];grind
theorem ta(x:DZ):(zv x).natAbs=vN x.2.1:=by
 unfold zv;grind
theorem cP.mono{k m:Nat}{x:DZ}(h:cP k x)(hm:k<=m):cP m x:=⟨h.1,bX h.2 hm⟩
theorem dD{n:Int}{k:Nat}(h:(n.natAbs:Int)< 4294967296^k):cP k (nz n):=⟨eH _,iQ h⟩
theorem cP.lt{k:Nat}{x:DZ}(h:cP k x):((zv x).natAbs:Int)< 4294967296^k:=by
 rw[ta];have h1:=(dW h.1 k).2;rwa[da _ _ h.2,<-dB h.1]at h1
theorem tY(a b:Bool):cu Ty.bool a b=(a==b):=by rfl
theorem acw(b:Bool)(n:Nat):((aF b (ab (ak 0 ((nd n).length:Int)))).bind λA=>ab ((A,nd n,()):DZ))=ab (nz (bif b then -(n:Int)else(n:Int))):=by
 rw[cK,ah];unfold nz;cases b<;>try trivial
 rw[ao,kV,tj,yr];by_cases h:n=0
 .subst h;rfl
 have:0<(nd n).length:=by
  rcases yB (nd n).length with h1|h1
  .exact absurd (uC h1) h
  omega
 rw[bg,decide_eq_true (by omega)]
theorem UZ{b:Bool}{l:List Int}(h:Dg l)(A:l.length<=aP):kG b l=ab (nz (bif b then -(vN l:Int)else(vN l:Int))):=by
 unfold kG aP at*;rw[J3 (by omega) h,ah,acw]
theorem Ft{b:Bool}{l:List Int}(h:Dg l)(A:l.length<=aP):nc b l=ab (nz (bif b then -(vN l:Int)else(vN l:Int))):=by
 unfold nc aP at*;rw[m9 (by omega) h,ah,acw]
theorem pb{b:Bool}{n:Nat}(A:(nd n).length<=aP):kG b (nd n)=ab (nz (bif b then -(n:Int)else(n:Int))):=by
 rw[UZ (eH n) A,gd]
theorem qX{b:Bool}{n:Nat}(A:(nd n).length<=aP):nc b (nd n)=ab (nz (bif b then -(n:Int)else(n:Int))):=by
 rw[Ft (eH n) A,gd]
theorem ajS{n:Nat}:dP n=0↔n=0:=⟨λh=>by
 rcases yB n with A|A
 .omega
 have:=CG (n:=n);omega,λh=>by subst h;rfl⟩
theorem Mr{x:DZ}(h:cP aP x):wK x=ab (zv x).sign:=by
 have I:=h.2;unfold wK;unfold aP at I;rw[WL h.1,ah];unfold zv;by_cases A:vN x.2.1=0
 .rw [cM (by simp[ajS,A]),A]
  simp
 have:=CG A;rw[bQ];grind
theorem asB(n:Int):(nz n).2.1.length=0↔n=0:=⟨λh=>by have:=uC (n:=n.natAbs) h;omega,λh=>by subst h;rfl⟩
theorem avs(n:Int):(bif aj ((nz n).2.1.length:Int) 0 then ab (0:Int)else bif(nz n).1 then ab (-1)else ab 1)=ab n.sign:=by
 by_cases A:n=0
 .subst A;rfl
 have:(nz n).2.1.length≠0:=λh=>A ((asB n).1 h)
 rw[bQ];show(bif decide (n< 0)then _ else _)=_;grind
theorem Fu{x:DZ}(h:cP aP x):uP x=ab (zv x).sign:=by
 unfold uP;rw[Ft h.1 h.2];exact avs _
theorem agP{x:DZ}(h:cP aP x):DP x=ab (dP (zv x).natAbs:Int):=by
 have A:=h.2;unfold DP;unfold aP at A;rw[WL h.1,ah,ta]
theorem aeI{x:DZ}(h:cP aP x):E2 x=ab (dP (zv x).natAbs:Int):=by
 have A:=h.2;unfold E2;unfold aP at A;rw[aet h.1,ah,ta]
theorem awR{x:DZ}(h:cP aP x):IU x=ab (nz (-zv x)):=by
 unfold IU;rw[UZ h.1 h.2];unfold zv;grind
theorem Li{x:DZ}(h:cP aP x):xv x=ab (nz (-zv x)):=by
 unfold xv;rw[Ft h.1 h.2];unfold zv;grind
def half:Nat:=549755813880
theorem kS{l:List Int}{k:Nat}(h:Dg l)(A:l.length<=k):(vN l:Int)< 4294967296^k:=by
 have h1:=(dW h k).2;simp_all[da,A,dB,h]
theorem acn{a b:List Int}(A:Dg a)(I:Dg b){k:Nat}(J:a.length<=k)(U:b.length<=k):(nd (vN a+vN b)).length<=k+1:=iQ (by
 have h1:=kS A J;have h2:=kS I U;omega)
theorem acm{a b:List Int}(A:Dg a)(I:Dg b){k m:Nat}(J:a.length<=k)(U:b.length<=m):(nd (vN a*vN b)).length<=k+m:=iQ (by
 rw[BS];exact ahC (qg (ij (kS I U)) (by omega)) (ahG (kS A J) (jw m)))
theorem Mp{x y:DZ}(A:cP half x)(I:cP half y):wI x y=ab (nz (zv x+zv y)):=by
 have J:=A.2;have U:=I.2;unfold half at J U;unfold wI;rw[tY];have k1:=acn A.1 I.1 J U;have k2:=mW (MW (vN x.2.1) (vN y.2.1));have b:=mW (MW (vN y.2.1) (vN x.2.1));have c:=iQ (kS A.1 J);have d:=iQ (kS I.1 U);unfold zv;cases Z:x.1<;>cases a:y.1
 .rw [show(af==af)=ag from rfl,ao,Nk A.1 I.1,ah,pb (by grind[aP])]
  rfl
 .rw [show(af==ag)=af from rfl,aw,LX A.1 I.1,ah,aw,ao];by_cases h:vN x.2.1< vN y.2.1
  .rw [aK h,aw,LX I.1 A.1,ah,ax (by omega),pb (by grind[aP]),ah,ao]
   congr 2;omega
  rw[ax h,ao,pb (by grind[aP]),ah,aw]
  congr 2;omega
 .rw [show(ag==af)=af from rfl,aw,LX A.1 I.1,ah,ao,aw];by_cases h:vN x.2.1< vN y.2.1
  .rw [aK h,aw,LX I.1 A.1,ah,ax (by omega),pb (by grind[aP]),ah,aw]
   congr 2;omega
  rw[ax h,ao,pb (by grind[aP]),ah,ao]
  congr 2;omega
 rw[ao,Nk A.1 I.1,ah,pb (by grind[aP])]
 grind
theorem Tz{x y:DZ}(A:cP half x)(I:cP half y):AX x y=ab (nz (zv x+zv y)):=by
 have J:=A.2;have U:=I.2;unfold half at J U;unfold AX;rw[tY];have k1:=acn A.1 I.1 J U;have k2:=mW (MW (vN x.2.1) (vN y.2.1));have b:=mW (MW (vN y.2.1) (vN x.2.1));have c:=iQ (kS A.1 J);have d:=iQ (kS I.1 U);unfold zv;cases Z:x.1<;>cases a:y.1
 .rw [show(af==af)=ag from rfl,aes A.1 I.1,ah,qX (by grind[aP])]
  rfl
 .rw [show(af==ag)=af from rfl,aw,AV A.1 I.1,ah,aw,ao];by_cases h:vN x.2.1< vN y.2.1
  .rw [aK h,aw,AV I.1 A.1,ah,ax (by omega),qX (by grind[aP]),ah,ao]
   congr 2;omega
  rw[ax h,ao,qX (by grind[aP]),ah,aw]
  congr 2;omega
 .rw [show(ag==af)=af from rfl,aw,AV A.1 I.1,ah,ao,aw];by_cases h:vN x.2.1< vN y.2.1
  .rw [aK h,aw,AV I.1 A.1,ah,ax (by omega),qX (by grind[aP]),ah,aw]
   congr 2;omega
  rw[ax h,ao,qX (by grind[aP]),ah,ao]
  congr 2;omega
 rw[aes A.1 I.1,ah,qX (by grind[aP])]
 grind
theorem U0{x y:DZ}(I:cP half x)(A:cP half y):zV x y=ab (nz (zv x-zv y)):=by
 unfold zV;rw[awR (A.mono (by trivial)),ah,Mp I (dD (by simp[tj,A.lt])),ah,bJ,Gg]
theorem aeU{x y:DZ}(I:cP half x)(A:cP half y):E5 x y=ab (nz (zv x-zv y)):=by
 unfold E5;rw[Li (A.mono (by trivial)),ah,Tz I (dD (by simp[tj,A.lt])),ah,bJ,Gg]
theorem ace(a b:Bool)(m n:Nat):(bif !(a==b)then -((m*n:Nat):Int)else((m*n:Nat):Int))=(bif a then -(m:Int)else(m:Int))*(bif b then -(n:Int)else(n:Int)):=by
 grind
theorem u9{x y:DZ}(A:cP half x)(I:cP half y):pL x y=ab (nz (zv x*zv y)):=by
 have J:=A.2;have U:=I.2;have k:=acm A.1 I.1 J U;unfold half at J U k;unfold pL;rw[tY,ar5 A.1 I.1,ah,pb (by grind[aP]),ace]
 rfl
theorem xB{x y:DZ}(A:cP half x)(I:cP half y):qW x y=ab (nz (zv x*zv y)):=by
 have J:=A.2;have U:=I.2;have k:=acm A.1 I.1 J U;unfold half at J U k;unfold qW;rw[tY,atZ A.1 I.1,ah,qX (by grind[aP]),ace]
 rfl
theorem YY{x:Int}(h1: -9223372036854775808<=x)(h2:x< 0):wu (0-wu x)= -x:=by
 grind[s9]
theorem JQ{n:Nat}(h:n< 18446744073709551616:=by omega):(nd n).length<=2:=iQ (by
 omega)
theorem Mq{x:Int}(h1:-9223372036854775808<=x:=by omega)(h2:x< 9223372036854775808:=by omega):wJ x=ab (nz x):=by
 unfold wJ;by_cases h:x< 0
 .rw [bg h,ao,YY h1 h,Ii,ah,pb (bX (JQ) (by trivial)),ah,ao,show -((-x).toNat)=x by omega]
 rw[bc,aw,bM,Ii,ah,pb (bX (JQ) (by trivial)),ah,aw,show(x.toNat)=x by omega]
theorem agE{n:Int}(A:0<=n:=by omega)(h1:n< 18446744073709551616:=by omega):Dg [wr .u32 n,wr .u32 (n.fdiv 4294967296)]/\vN [wr .u32 n,wr .u32 (n.fdiv 4294967296)]=n.toNat:=by
 rw[kx,jC,jC];refine⟨Dg.cons (by omega) (by omega) (Dg.cons (by omega) (by omega) Dg.nil),?_⟩
 show(n%4294967296+4294967296*(n/4294967296%4294967296+4294967296*0)).toNat=_;omega
theorem TA{x:Int}(h1:-9223372036854775808<=x:=by omega)(h2:x< 9223372036854775808:=by omega):AY x=ab (nz x):=by
 unfold AY;by_cases h:x< 0
 .obtain ⟨d,v⟩:=agE (n:= -x);rw[bg h,ao,iw,YY h1 h];unfold Th;rw[bg h,Ft d (by simp[aP]),ah,v,ao,show -((-x).toNat)=x by omega]
 obtain⟨d,v⟩:=agE (n:=x);rw[bc,aw,iw,bM];unfold Th;rw[bc,Ft d (by simp[aP]),ah,v,aw,show(x.toNat)=x by omega]
def qv(x:DQ):Rat:=kX (zv x.1) (zv x.2.1)
def nq(q:Rat):DQ:=(nz q.num,nz (q.den:Int),())
theorem iB(q:Rat):qv (nq q)=q:=by
 unfold qv nq;rw[bJ,bJ];simp
def bp(k:Nat)(x:DQ):Prop:=cP k x.1/\cP k x.2.1
theorem bp.mono{k m:Nat}{x:DQ}(h:bp k x)(hm:k<=m):bp m x:=⟨h.1.mono hm,h.2.mono hm⟩
def QS(k:Nat)(q:Rat):Prop:=(q.num.natAbs:Int)< 4294967296^k/\(q.den:Int)< 4294967296^k
theorem fo{q:Rat}{k:Nat}(h:QS k q):bp k (nq q):=⟨dD h.1,dD h.2⟩
theorem zr(n d:Int)(A:d≠0:=by omega):(kX n d).num.natAbs<=n.natAbs/\(kX n d).den<=d.natAbs:=by
 rw[VQ,VO,ax A];refine⟨?_,Gs _ _⟩;refine bX (ahI _ _) ?_;grind
theorem Y0(a b:Nat)(h:b≠0:=by omega):g8 a b<=b:=Nat.le_of_dvd (by omega) (Nat.gcd_dvd_right a b)
theorem arL(n d:Int)(I:d≠0):nz (bif ak (n.sign*d.sign) 0 then -((n.natAbs/g8 n.natAbs d.natAbs:Nat):Int)else((n.natAbs/g8 n.natAbs d.natAbs:Nat):Int))=nz (kX n d).num/\nz ((d.natAbs/g8 n.natAbs d.natAbs:Nat):Int)=nz (((kX n d).den:Nat):Int):=by
 rw[VQ,VO,ax I];have e:Int.gcd d n=g8 n.natAbs d.natAbs:=by rw[ahB];rfl
 rw[e];have A:((g8 n.natAbs d.natAbs):Int)∣(n.natAbs):=Int.natCast_dvd_natCast.2 (Nat.gcd_dvd_left _ _);refine⟨?_,rfl⟩;rw[Gf];rcases Vu n 0 with h|h|h
 .rcases Vu d 0 with k|k|k
  .rw [BU h,BU k,bc,aw,show(n.natAbs)= -1*n by omega]
  .omega
  rw[BU h,BV k,bg,ao,od,<-ahK A,show -(n.natAbs)=n by omega]
 .simp_all
 rcases Vu d 0 with k|k|k
 .rw [BV h,BU k,bg,ao,<-ahK A,show -(n.natAbs)= -1*n by omega]
 .omega
 rw[BV h,BV k,bc,aw,od,show(n.natAbs)=n by omega]
theorem EU{x y:DZ}(I:cP aP x)(A:cP aP y)(U:zv y≠0):sO x y=ab (nq (kX (zv x) (zv y))):=by
 have Z:=I.2;have c:=A.2;unfold aP at Z c;have d:=ta y;have f:0< g8 (vN x.2.1) (vN y.2.1):=aia _ (by omega)
 have e:(nd (g8 (vN x.2.1) (vN y.2.1))).length<=y.2.1.length:=bX (mW (Y0 _ _)) (iQ (kS A.1 (aL _)));have g:(nd (vN x.2.1/g8 (vN x.2.1) (vN y.2.1))).length<=x.2.1.length:=bX (mW (Gs _ _)) (iQ (kS I.1 (aL _)));have h:(nd (vN y.2.1/g8 (vN x.2.1) (vN y.2.1))).length<=y.2.1.length:=bX (mW (Gs _ _)) (iQ (kS A.1 (aL _)));have J:∀a b:Int,w (a.sign*b.sign)=a.sign*b.sign:=λa b=>by
  have h1:a.sign= -1∨a.sign=0∨a.sign=1:=by
   grind
  have h2:b.sign= -1∨b.sign=0∨b.sign=1:=by
   grind
  rcases h1 with h1|h1|h1<;>rcases h2 with h2|h2|h2<;>rw[h1,h2]<;>exact au
 unfold sO;rw[amk I.1 A.1,ah,Mr I,ah,Mr A,ah,HL I.1 (eH _),gd,ax (by omega),ah,J]
 rw[pb (by grind[aP]),ah,HL A.1 (eH _),gd,ax (by omega),ah]
 rw[pb (by grind[aP]),aw]
 have:=arL (zv x) (zv y) U;rw[ta x,d]at this;rw[this.1,this.2];rfl
theorem fq{x y q r:Int}(h:x=q*y+r)(I:(0<=r/\r< y)∨(y< r/\r<=0)):x.fdiv y=q/\x.fmod y=r:=by
 have key:x.fdiv y=q:=by
  rcases I with⟨A,h1⟩|⟨A,h1⟩
  .rw [qd _ (by omega),h,Int.add_comm,ahy _ _ (by omega),ahA A h1];omega
  rw[<-Int.neg_fdiv_neg,qd _ (by omega),h,show -(q*y+r)= -r+q*(-y) by rw[ahH];omega,ahy _ _ (by omega),ahA (by omega) (by omega)];omega
 refine⟨key,?_⟩;have:=ahF x y;rw[key,Int.mul_comm]at this;omega
theorem afJ{a b:Bool}{m n:Nat}(I:0< n):
  ((a==b)=ag∨m%n=0->(bif a then -(m:Int)else(m:Int)).fdiv (bif b then -(n:Int)else(n:Int))=(bif !(a==b)then -((m/n:Nat):Int)else((m/n:Nat):Int))/\(bif a then -(m:Int)else(m:Int)).fmod (bif b then -(n:Int)else(n:Int))=(bif a then -((m%n:Nat):Int)else((m%n:Nat):Int)))
  /\((a==b)=af->m%n≠0->(bif a then -(m:Int)else(m:Int)).fdiv (bif b then -(n:Int)else(n:Int))= -((m/n:Nat):Int)-1/\(bif a then -(m:Int)else(m:Int)).fmod (bif b then -(n:Int)else(n:Int))=(bif a then -((m%n:Nat):Int)else((m%n:Nat):Int))+(bif b then -(n:Int)else(n:Int))):=by
 have hm:=qk m I;have A:(m:Int)=((m/n:Nat):Int)*(n:Int)+((m%n:Nat):Int):=by
  rw[<-Int.natCast_mul,<-Int.natCast_add,Nat.mul_comm,Nat.div_add_mod m n]
 generalize m/n=q at*;generalize m%n=r at*;rw[A];cases a<;>cases b
 .refine ⟨λ_=>fq rfl (.inl ⟨?_,?_⟩),λh=>by cases h⟩
  .show 0<=(r:Int);omega
  show(r:Int)<(n:Int);omega
 .refine ⟨λh=>?_,λ_ h=>?_⟩
  .rcases h with h|h<;>try trivial
   subst h;refine fq ?_ (.inr ⟨?_,?_⟩)
   .show (q:Int)*(n:Int)+((0:Nat):Int)= -(q:Int)* -(n:Int)+((0:Nat):Int);rw[ahM]
   .show -(n:Int)<((0:Nat):Int);omega
   show((0:Nat):Int)<=0;omega
  refine fq ?_ (.inr ⟨?_,?_⟩)
  .show (q:Int)*(n:Int)+(r:Int)=(-(q:Int)-1)* -(n:Int)+((r:Int)+ -(n:Int));rw[qh,ahM];omega
  .show -(n:Int)<(r:Int)+ -(n:Int);omega
  show(r:Int)+ -(n:Int)<=0;omega
 .refine ⟨λh=>?_,λ_ h=>?_⟩
  .rcases h with h|h<;>try trivial
   subst h;refine fq ?_ (.inl ⟨?_,?_⟩)
   .show -((q:Int)*(n:Int)+((0:Nat):Int))= -(q:Int)*(n:Int)+ -((0:Nat):Int);rw[ahL];omega
   .show 0<= -((0:Nat):Int);omega
   show -((0:Nat):Int)<(n:Int);omega
  refine fq ?_ (.inl ⟨?_,?_⟩)
  .show -((q:Int)*(n:Int)+(r:Int))=(-(q:Int)-1)*(n:Int)+(-(r:Int)+(n:Int));rw[qh,ahL];omega
  .show 0<= -(r:Int)+(n:Int);omega
  show -(r:Int)+(n:Int)<(n:Int);omega
 refine⟨λ_=>fq ?_ (.inr ⟨?_,?_⟩),λh=>by cases h⟩
 .show -((q:Int)*(n:Int)+(r:Int))=(q:Int)* -(n:Int)+ -(r:Int);rw[ahH];omega
 .show -(n:Int)< -(r:Int);omega
 show -(r:Int)<=0;omega
theorem BE(x:DZ):zv x=bif x.1 then -(vN x.2.1:Int)else(vN x.2.1:Int):=rfl
theorem avr{n:Int}:(!aj n.sign 0)= !decide (n=0):=by
 by_cases h:n=0
 .subst h;rw[decide_eq_true rfl];rfl
 rw[decide_eq_false h,bQ (by rw[Ne,ahO];exact h)]
theorem aeC{x y:DZ}(Z:cP 500000000000 x)(c:cP 500000000000 y)(j:zv y≠0):E4 x y=ab (nz ((zv x).fdiv (zv y)),nz ((zv x).fmod (zv y)),0,()):=by
 have g:=Z.2;have k:=c.2;have l:=ta y;have i:0< vN y.2.1:=by omega
 obtain⟨c1,c2⟩:=afJ (a:=x.1) (b:=y.1) (m:=vN x.2.1) i;rw[<-BE,<-BE]at c1 c2;have hm:=qk (vN x.2.1) i;have n:(nd (vN x.2.1/vN y.2.1)).length<=500000000000:=bX (mW (Gs _ _)) (iQ (kS Z.1 g));have o:(nd (vN x.2.1%vN y.2.1)).length<=500000000000:=bX (mW (Nat.mod_le _ _)) (iQ (kS Z.1 g));have d:aj (zv y).sign 0=af:=bQ (by rw[Ne,ahO];exact j)
 unfold E4;rw[Fu (c.mono (by unfold aP;omega)),ah,d,aw,aev Z.1 c.1,ax (by omega),ah]
 dsimp only;rw[tY,qX (by unfold aP;omega),ah,qX (by unfold aP;omega),ah]
 generalize p:vN x.2.1/vN y.2.1=q at*;generalize s:vN x.2.1%vN y.2.1=r at*;have J:cP 500000000001 (nz (bif x.1 then -(r:Int)else(r:Int))):=by
  refine⟨eH _,?_⟩;show(nd _).length<=_;cases x.1
  .rw [aw,yr];omega
  rw[ao,tj,yr];omega
 have U:(bif x.1 then -(r:Int)else(r:Int))=0↔r=0:=by
  cases x.1
  .rw [aw];omega
  rw[ao];omega
 cases A:(x.1==y.1)with
 |true=>
  rw[b9,rU,ah,aw,(c1 (.inl A)).1,(c1 (.inl A)).2,A,b9]
 |false=>
  rw[fN,ow,Fu (J.mono (by unfold aP;omega)),ah,ah,bJ,avr]
  by_cases I:r=0
  .rw [decide_eq_true (U.2 I),b9,aw,(c1 (.inr I)).1,(c1 (.inr I)).2,A,fN]
  have e:cP half (nz (bif ag then -(q:Int)else(q:Int))):=by
   refine⟨eH _,?_⟩;show(nd _).length<=_;rw[ao,tj,yr];unfold half;omega
  have f:cP half (nz 1):=dD (by
   have:=xn (a:=1) (b:=half) (by unfold half;omega)
   have h1:(4294967296:Int)^1=4294967296:=rfl;rw[h1]at this;show((1:Nat):Int)< _;omega)
  rw[decide_eq_false (λh=>I (U.1 h)),fN,ao,TA,ah,aeU e f,ah,Tz (J.mono (by unfold half;omega)) (c.mono (by unfold half;omega)),ah,bJ,bJ,bJ,ao,(c2 A I).1,(c2 A I).2]
theorem TB{x y:DZ}(J:cP 500000000000 x)(I:cP 500000000000 y)(c:zv y≠0):AZ x y=ab (nq (kX (zv x) (zv y))):=by
 have l:=J.2;have m:=I.2;have d:=ta y;have n:0< g8 (vN x.2.1) (vN y.2.1):=aia _ (by omega)
 have f:(nd (g8 (vN x.2.1) (vN y.2.1))).length<=y.2.1.length:=bX (mW (Y0 _ _)) (iQ (kS I.1 (aL _)));have U:cP 500000000000 (nz ((g8 (vN x.2.1) (vN y.2.1):Nat):Int)):=⟨eH _,by
  show(nd _).length<=_;rw[yr];omega⟩
 have e:g8 (vN x.2.1) (vN y.2.1)=Int.gcd (zv y) (zv x):=by rw[ahB,<-ta x,<-d];rfl
 have A:∀a b:DZ,cP 500000000000 a->cP 500000000000 b->0< zv b->zv a=(zv y).sign*zv x->zv b=(zv y).natAbs->Ti (nz ((g8 (vN x.2.1) (vN y.2.1):Nat):Int)) ((),(a,b,()),())=ab (nq (kX (zv x) (zv y))):=λa b g h i j k=>by
  unfold Ti;dsimp only;rw[aeC g U (by rw[bJ];omega),ah,aeC h U (by rw[bJ];omega),ah,bJ,j,k]
  unfold nq;rw[VQ,VO,ax c,<-e,qd _ (by omega),qd _ (by omega),Gf]
 unfold AZ;rw[atY J.1 I.1,ah,qX (by unfold aP;omega),ah,aw,Fu (I.mono (by unfold aP;omega)),ah]
 by_cases Z:zv y< 0
 .rw [BU Z,bg,ao,Li (J.mono (by unfold aP;omega)),ah,Li (I.mono (by unfold aP;omega)),ah,iw]
  refine A _ _ (dD (by rw[tj];exact J.lt)) (dD (by rw[tj];exact I.lt)) (by rw[bJ];omega) (by rw[bJ,BU Z];omega) (by rw[bJ];omega)
 rw[BV (by omega),bc,aw,iw]
 exact A _ _ J I (by omega) (by rw[BV (by omega),od]) (by omega)
def mid:=200000000000
theorem Ql{n:Int}:aj n.sign 0=decide (n=0):=by
 by_cases h:n=0
 .subst h;rfl
 rw[decide_eq_false h,bQ (by grind)]
theorem SS{x y:DZ}(I:cP aP x)(A:cP aP y):xD x y=ab (if zv y=0 then((nz 0,nz 0,()),9,())else(nq (kX (zv x) (zv y)),0,())):=by
 unfold xD;rw[Mr A,ah,Ql];by_cases h:zv y=0
 .rw [decide_eq_true h,aK h];rfl
 rw[decide_eq_false h,aw,ax h,EU I A h,ah]
theorem acN(n:Int):nq (n)=(nz n,nz 1,()):=rfl
theorem xq{x:Int}(h1:-9223372036854775808<=x:=by omega)(h2:x< 9223372036854775808:=by omega):eN x=ab (nq (x)):=by
 unfold eN;rw[Mq h1 h2,ah,Mq,ah,acN]
theorem TD{x:Int}(h1:-9223372036854775808<=x:=by omega)(h2:x< 9223372036854775808:=by omega):oR x=ab (nq (x)):=by
 unfold oR;rw[TA h1 h2,ah,TA,ah,acN]
theorem nX{x:DQ}(h:bp aP x):jf x=ab (nq (qv x)):=by
 unfold jf;rw[SS h.1 h.2,ah];by_cases A:zv x.2.1=0
 .rw [aK A];dsimp only;rw[bQ,xq];simp[qv,A]
 rw[ax A];rfl
theorem nf{x:DQ}(h:bp 500000000000 x):jz x=ab (nq (qv x)):=by
 unfold jz;rw[Fu (h.2.mono (by simp[aP])),ah,Ql]
 by_cases A:zv x.2.1=0
 .rw [TD];simp[qv,A]
 rw[decide_eq_false A,TB h.1 h.2 A];rfl
theorem eJ{x:DQ}{k:Nat}(h:bp k x)(I:1<=k:=by omega):QS k (qv x):=by
 unfold qv;by_cases A:zv x.2.1=0
 .rw [A];have:=xn I;refine⟨?_,?_⟩
  .show 0< _;omega
  show 1< _;omega
 obtain⟨h1,h2⟩:=zr (zv x.1) _ A;have J:=h.1.lt;have U:=h.2.lt;exact⟨by omega,by omega⟩
theorem mc{x:DQ}{k:Nat}(h:bp k x)(A:1<=k:=by omega):bp k (nq (qv x)):=fo (eJ h A)
def Ha(q:Rat):=max (dP q.num.natAbs) (dP q.den)
theorem abO(a b:Nat):(bif ai (a) (b)then(b:Int)else(a))=((max a b:Nat)):=by
 by_cases h:a<=b
 .rw [bS,ao,Nat.max_eq_right h]
 rw[di,aw,Nat.max_eq_left (by omega)]
theorem AQ{x:DQ}(h:bp aP x):sM x=ab (Ha (qv x):Int):=by
 have A:=mc h (by simp[aP])
 unfold sM;rw[nX h,ah,agP A.1,ah,agP A.2,ah];unfold nq;rw[bJ,bJ,abO];rfl
theorem aut{x:DQ}(h:bp 500000000000 x):KQ x=ab (Ha (qv x):Int):=by
 have A:=(mc h).mono (m:=aP) (by simp[aP])
 unfold KQ;rw[nf h,ah,aeI A.1,ah,aeI A.2,ah];unfold nq;rw[bJ,bJ,abO];rfl
theorem hU(q:Rat):(q.den:Int)≠0:=by
 have:=q.den_pos;omega
theorem ft{a b:Int}{k m:Nat}(A:(a.natAbs:Int)< 4294967296^k)(I:(b.natAbs:Int)< 4294967296^m):((a*b).natAbs:Int)< 4294967296^(k+m):=by
 rw[Int.natAbs_mul,BS];exact ahC (qg (ij I) (by omega)) (ahG A (jw m))
theorem uZ{a b:Int}{k:Nat}(A:(a.natAbs:Int)< 4294967296^k)(I:(b.natAbs:Int)< 4294967296^k:=by omega):((a+b).natAbs:Int)< 4294967296^(k+1):=by
 omega
theorem EV{x y:DQ}(J:bp mid x)(U:bp mid y):oT x y=ab (nq (qv x*qv y)):=by
 have A:=mc J (by simp[mid])
 have I:=mc U (by simp[mid])
 have Z:=eJ J (by simp[mid])
 have sy:=eJ U (by simp[mid])
 unfold oT;rw[nX (J.mono (by simp[mid,aP])),ah,nX (U.mono (by simp[mid,aP])),ah]
 rw[u9 (A.1.mono (by simp[mid,half])) (I.1.mono (by simp[mid,half])),ah,u9 (A.2.mono (by simp[mid,half])) (I.2.mono (by simp[mid,half])),ah]
 unfold nq;rw[bJ,bJ,bJ,bJ,EU ((dD (ft Z.1 sy.1)).mono (by simp[mid,aP])) ((dD (ft (a:=(qv x).den) (b:=(qv y).den) (by exact Z.2) (by exact sy.2))).mono (by simp[mid,aP])) (by rw[bJ];exact vg (hU _) (hU _)),bJ,bJ]
 rw[<-VP,pf,pf];rfl
theorem aeR{x y:DQ}(J:bp mid x)(U:bp mid y):E6 x y=ab (nq (qv x*qv y)):=by
 have A:=mc J (by simp[mid])
 have I:=mc U (by simp[mid])
 have Z:=eJ J (by simp[mid])
 have sy:=eJ U (by simp[mid])
 unfold E6;rw[nf (J.mono (by simp[mid])),ah,nf (U.mono (by simp[mid])),ah]
 rw[xB (A.1.mono (by simp[mid,half])) (I.1.mono (by simp[mid,half])),ah,xB (A.2.mono (by simp[mid,half])) (I.2.mono (by simp[mid,half])),ah]
 unfold nq;rw[bJ,bJ,bJ,bJ,TB ((dD (ft Z.1 sy.1)).mono (by simp[mid])) ((dD (ft (a:=(qv x).den) (b:=(qv y).den) (by exact Z.2) (by exact sy.2))).mono (by simp[mid])) (by rw[bJ];exact vg (hU _) (hU _)),bJ,bJ]
 rw[<-VP,pf,pf];rfl
theorem KF{x y:DQ}(J:bp mid x)(U:bp mid y):uR x y=ab (nz ((qv x).num*(qv y).den),nz ((qv y).num*(qv x).den),nz ((qv x).den*(qv y).den),()):=by
 have A:=(mc J (by simp[mid])).mono (m:=half) (by simp[mid,half])
 have I:=(mc U (by simp[mid])).mono (m:=half) (by simp[mid,half])
 unfold uR;rw[nX (J.mono (by simp[mid,aP])),ah,nX (U.mono (by simp[mid,aP])),ah,u9 A.1 I.2,u9 I.1 A.2,u9 A.2 I.2]
 simp[nq,bJ]
theorem Nl a b:kX (a.num*b.den+b.num*a.den) (a.den*b.den)=a+b:=by
 rw[<-Rat.divInt_add_divInt _ _ (hU a) (hU b),pf,pf]
theorem agd a b:kX (a.num*b.den-b.num*a.den) (a.den*b.den)=a-b:=by
 rw[<-Rat.divInt_sub_divInt _ _ (hU a) (hU b),pf,pf]
theorem fD{q:Rat}{k:Nat}(h:QS k q):((q.den:Int).natAbs:Int)< 4294967296^k:=by exact h.2
theorem ET{x y:DQ}(I:bp mid x)(J:bp mid y):lC x y=ab (nq (qv x+qv y)):=by
 have A:=eJ I (by simp[mid])
 have sy:=eJ J (by simp[mid])
 have U:=ft A.1 (fD sy);have Z:=ft sy.1 (fD A);unfold lC;rw[KF I J,ah,Mp ((dD U).mono (by simp[mid,half])) ((dD Z).mono (by simp[mid,half])),ah,bJ,bJ]
 rw[EU ((dD (uZ U Z)).mono (by simp[mid,aP])) ((dD (ft (fD A) (fD sy))).mono (by simp[mid,aP])) (by rw[bJ];exact vg (hU _) (hU _)),ah,bJ,bJ,Nl]
theorem aej{x y:DQ}(I:bp mid x)(J:bp mid y):uQ x y=ab (nq (qv x-qv y)):=by
 have A:=eJ I (by simp[mid])
 have sy:=eJ J (by simp[mid])
 have U:=ft A.1 (fD sy);have a:=ft sy.1 (fD A);have Z:=uZ U (b:= -((qv y).num*(qv x).den));rw[<-Gg]at Z;unfold uQ;rw[KF I J,ah,U0 ((dD U).mono (by simp[mid,half])) ((dD a).mono (by simp[mid,half])),ah,bJ,bJ]
 rw[EU ((dD Z).mono (by simp[mid,aP])) ((dD (ft (fD A) (fD sy))).mono (by simp[mid,aP])) (by rw[bJ];exact vg (hU _) (hU _)),ah,bJ,bJ,agd]
theorem aus{x y:DQ}(J:bp mid x)(U:bp mid y):KP x y=ab (nq (qv x+qv y)):=by
 have A:=(mc J (by simp[mid])).mono (m:=half) (by simp[mid,half])
 have I:=(mc U (by simp[mid])).mono (m:=half) (by simp[mid,half])
 have Z:=eJ J (by simp[mid])
 have sy:=eJ U (by simp[mid])
 have a:=ft Z.1 (fD sy);have b:=ft sy.1 (fD Z);unfold KP;rw[nf (J.mono (by simp[mid])),ah,nf (U.mono (by simp[mid])),ah,xB A.1 I.2,ah,xB I.1 A.2,ah]
 unfold nq;rw[bJ,bJ,bJ,bJ,Tz ((dD a).mono (by simp[mid,half])) ((dD b).mono (by simp[mid,half])),ah,xB (x:=nz _) (y:=nz _) A.2 I.2,ah,bJ,bJ,bJ,bJ,TB ((dD (uZ a b)).mono (by simp[mid])) ((dD (ft (fD Z) (fD sy))).mono (by simp[mid])) (by rw[bJ];exact vg (hU _) (hU _)),bJ,bJ,Nl]
 rfl
theorem auu{x:DQ}(A:bp mid x):KR x=ab (nq (-qv x)):=by
 unfold KR;rw[nf (A.mono (by simp[mid])),ah,Li ((mc A (by simp[mid])).mono (m:=aP) (by simp[mid,aP])).1]
 simp[nq,bJ]
theorem auv{x y:DQ}(I:bp mid x)(A:bp mid y):KT x y=ab (nq (qv x-qv y)):=by
 have sy:=eJ A (by simp[mid])
 unfold KT;rw[auu A,ah,aus (y:=nq (-qv y)) I (fo ⟨by
  rw[Rat.neg_num,tj];exact sy.1,sy.2⟩),ah,iB,Rat.sub_eq_add_neg]
theorem sI{x y:DQ}(A:bp mid x)(I:bp mid y):cV x y=ab ((qv x).num*(qv y).den-(qv y).num*(qv x).den).sign:=by
 have J:=eJ A (by simp[mid])
 have sy:=eJ I (by simp[mid])
 have U:=ft J.1 (fD sy);have a:=ft sy.1 (fD J);have Z:=uZ U (b:= -((qv y).num*(qv x).den));rw[<-Gg]at Z;unfold cV;rw[KF A I,ah];unfold Qw;rw[U0 ((dD U).mono (by simp[mid,half])) ((dD a).mono (by simp[mid,half])),ah,bJ,bJ,Mr ((dD Z).mono (by simp[mid,aP])),ah,ah,bJ]
theorem aeQ{x y:DQ}(J:bp mid x)(U:bp mid y):xw x y=ab ((qv x).num*(qv y).den-(qv y).num*(qv x).den).sign:=by
 have A:=(mc J (by simp[mid])).mono (m:=half) (by simp[mid,half])
 have I:=(mc U (by simp[mid])).mono (m:=half) (by simp[mid,half])
 have Z:=eJ J (by simp[mid])
 have sy:=eJ U (by simp[mid])
 have a:=ft Z.1 (fD sy);have d:=ft sy.1 (fD Z);have c:=uZ a (b:= -((qv y).num*(qv x).den));rw[<-Gg]at c;unfold xw;rw[nf (J.mono (by simp[mid])),ah,nf (U.mono (by simp[mid])),ah,xB A.1 I.2,ah,xB I.1 A.2,ah]
 unfold nq;rw[bJ,bJ,bJ,bJ];unfold Tg;rw[aeU ((dD a).mono (by simp[mid,half])) ((dD d).mono (by simp[mid,half])),ah,bJ,bJ,Fu ((dD c).mono (by simp[mid,aP])),ah,ah,bJ]
theorem agQ{x:DZ}(h:cP aP x):kG x.1 x.2.1=ab (nz (zv x)):=UZ h.1 h.2
theorem zDM{x y:DZ}(h:cP mid x)(f:cP mid y)(u:zv y≠0):IQ x y=ab (nz ((zv x).fdiv (zv y)),nz ((zv x).fmod (zv y)),0,()):=by
 have A:cP mid (nz (zv x)):=dD h.lt;have I:cP mid (nz (zv y)):=dD f.lt;have l:=A.2;have n:=I.2;unfold mid at l n;have v:vN (nz (zv y)).2.1=(zv y).natAbs:=gd _;have w:vN (nz (zv x)).2.1=(zv x).natAbs:=gd _;have i:0< vN (nz (zv y)).2.1:=by omega
 obtain⟨c1,c2⟩:=afJ (a:=(nz (zv x)).1) (b:=(nz (zv y)).1) (m:=vN (nz (zv x)).2.1) i;rw[<-BE,<-BE,bJ,bJ]at c1 c2;have hm:=qk (vN (nz (zv x)).2.1) i;have z:=Gs (vN (nz (zv x)).2.1) (vN (nz (zv y)).2.1);have j:=kS A.1 A.2;have k:=kS I.1 I.2;unfold IQ;rw[agQ (h.mono (by simp[mid,aP])),ah,agQ (f.mono (by simp[mid,aP])),ah,HL A.1 I.1,ax (by omega),ah]
 dsimp only;rw[cM rfl,b9,aw,tY];generalize o:vN (nz (zv x)).2.1/vN (nz (zv y)).2.1=q at*;generalize p:vN (nz (zv x)).2.1%vN (nz (zv y)).2.1=r at*;have s:=jw mid;have J:∀c:Nat,c<=q+1->(bif !((nz (zv x)).1==(nz (zv y)).1)then -(c:Int)else(c:Int))=(zv x).fdiv (zv y)->Qx (nz (zv x)) (nz (zv y)) ((nd c,()),(),())=ab (nz ((zv x).fdiv (zv y)),nz ((zv x).fmod (zv y)),0,()):=λc t e=>by
  unfold Qx;dsimp only;have g:(nd c).length<=mid+1:=iQ;have d:(((zv x).fdiv (zv y)).natAbs:Int)< 4294967296^(mid+1):=by
   rw[<-e,pw];cases !((nz (zv x)).1==(nz (zv y)).1)
   .rw [aw,yr];omega
   rw[ao,tj,yr];omega
  rw[tY,pb (by unfold mid at g;unfold aP;omega),ah,e,u9 ((dD d).mono (by unfold mid half;omega)) (I.mono (by unfold mid half;omega)),ah,bJ,bJ,U0 (A.mono (by unfold mid half;omega)) ((dD (ft d f.lt)).mono (by unfold mid half;omega)),ah,bJ,bJ]
  have:=ahF (zv x) (zv y);grind
 cases Z:((nz (zv x)).1==(nz (zv y)).1)with
 |true=>
  rw[b9,rU,ah,aw,iw];exact J q (by omega) (c1 (.inl Z)).1.symm
 |false=>
  rw[fN,ow,ah];by_cases U:r=0
  .rw [U,show ak 0 ((nd 0).length:Int)=af from rfl,aw,iw];exact J q (by omega) (c1 (.inr U)).1.symm
  have:0<(nd r).length:=by
   rcases yB (nd r).length with h1|h1<;>try grind
   exact absurd (uC h1) U
  have g:(nd q).length<=mid:=iQ;unfold mid at g;have B:(nd 1).length<=2:=JQ;rw[bg,ao,Ii,ah,show(1:Int).toNat=1 from rfl,Nk (eH _) (eH _),gd,gd,ah,iw];refine J (q+1) (by omega) ?_
  rw[(c2 Z U).1,Z,fN,ao];omega
theorem aeh{x:DQ}(h:bp mid x):sN x=ab (nz (qv x).floor):=by
 have A:=mc h (by simp[mid])
 unfold sN;rw[nX (h.mono (by simp[mid,aP])),ah,zDM A.1 A.2 (by show zv (nz ((qv x).den))≠0;grind[bJ,hU])]
 unfold nq;rw[bJ,bJ];unfold Rat.floor;grind
theorem aak{x:Int}(h1: -9223372036854775808<=x)(h2:x< 9223372036854775808):cP 2 (nz x):=⟨eH _,JQ⟩
theorem aei{a b:Int}(A:-9223372036854775808<=a:=by omega)(I:a< 9223372036854775808:=by omega)(J:-9223372036854775808<=b:=by omega)(U:b< 9223372036854775808:=by omega):xC a b=ab (if b=0 then((nz 0,nz 0,()),9,())else(nq (kX a b),0,())):=by
 unfold xC;rw[Mq A I,ah,Mq J U,ah,SS ((aak A I).mono (by simp[aP])) ((aak J U).mono (by simp[aP])),ah,bJ,bJ]
def FW(n:Int):Int×Bool×Unit:=if -9223372036854775808<=n/\n< 9223372036854775808 then(n,ag,())else(0,af,())
theorem UY{x:DZ}{l:List Int}{v:Int}(A:0<=v)(h1:v< 18446744073709551616)(U:l.length<=2)(I:zv x=bif x.1 then -v else v):IW x l ((v,()),(),())=ab (FW (zv x)):=by
 unfold IW FW;dsimp only;rw[bc,iU,ah,I];cases Z:x.1
 .show _=ab (if -9223372036854775808<=v/\v< 9223372036854775808 then(v,ag,())else(0,af,()));by_cases h:v< 9223372036854775808
  .rw [aK (by omega),bc,iU,bQ,rU,ah,ah,aw,aw,iw]
   unfold aal;dsimp only;rw[au]
  rw[ax (by omega)]
  by_cases h2:v=9223372036854775808
  .subst h2;rfl
  rw[bg];rfl
 show _=ab (if -9223372036854775808<= -v/\ -v< 9223372036854775808 then(-v,ag,())else(0,af,()));by_cases h:v<=9223372036854775808
 .rw [aK (by omega),bc,iU]
  have e:((aF (aj v 9223372036854775808) (ab (!true))).bind λJ=>ab J)=ab af:=by
   by_cases h2:v=9223372036854775808
   .subst h2;rfl
   rw[bQ h2];rfl
  rw[e,ah,aw,ao];show ab (w (wu (0-v)),ag,())=_;rw[s9];by_cases A:v=0
  .subst A;rfl
  rw[show(0-v)%18446744073709551616=18446744073709551616-v by omega]
  have:w (18446744073709551616-v)= -v:=by
   show wr .i64 _=_;grind[F4,IntKind.wrap,IntKind.bits,IntKind.signed]
  rw[this]
 rw[ax (by omega),bg]
 rfl
theorem agR{x:DZ}(h:cP aP x):ss x=ab (FW (zv x)):=by
 have i:=h.2;unfold aP at i;have o:=ta x;unfold ss;rw[J3 (by omega) h.1,ah]
 have J:=eH (vN x.2.1);have A:=pO (vN x.2.1);have U:=Ar (vN x.2.1);have j:zv x=bif x.1 then -(vN x.2.1:Int)else(vN x.2.1:Int):=rfl;have I:(nd (vN x.2.1)).length<=1099511627774:=bX (iQ (kS h.1 (aL _))) (by omega)
 generalize nd (vN x.2.1)=l at*;match l,J,A,U,I with
 |[],_,A,_,_=>
  have A:(0:Int)=(vN x.2.1:Int):=A;rw[show w ((([]:List Int).length:Int)-1)= -1 from au];rw[cQ (r:=.inl ((0,()),(),())) (by unfold uw;dsimp only;rw[di,rU,ah,aw];rfl),fT]
  exact UY (by omega) (by omega) (by simp) (by simp[j,A])
 |[a],J,A,_,_=>
  have d:=J a (eA ..);have A:a+4294967296*0=(vN x.2.1:Int):=A;rw[show w ((([a]:List Int).length:Int)-1)=((0:Nat):Int)from au];rw[eY (s':=((a,-1,()),(),())) (by
   unfold uw;dsimp only;rw[bS,ow,bS (by simp),ah,ao,fS (by simp),show([a]:List Int).getD 0 0=a from rfl,ik]
   have e:=AE (r:=0) (y:=a) (by omega) (by omega) d.1 d.2
   rw[ik]at e;rw[e,au,ahQ];rfl)]
  rw[cQ (r:=.inl ((a,()),(),())) (by unfold uw;dsimp only;rw[di,rU,ah,aw];rfl),fT]
  exact UY d.1 (by omega) (by simp) (by grind)
 |[a,b],J,A,_,_=>
  have d:=J a (eA ..);have f:=J b (ff _ (eA ..));have A:a+4294967296*(b+4294967296*0)=(vN x.2.1:Int):=A;rw[show w ((([a,b]:List Int).length:Int)-1)=((1:Nat):Int)from au];rw[eY (s':=((b,((0:Nat):Int),()),(),())) (by
   unfold uw;dsimp only;rw[bS,ow,bS (by simp),ah,ao,fS (by simp),show([a,b]:List Int).getD 1 0=b from rfl,ik]
   have e:=AE (r:=0) (y:=b) (by omega) (by omega) f.1 f.2
   rw[ik]at e;rw[e,au,ahQ];rfl)]
  rw[eY (s':=((b*4294967296+a,-1,()),(),())) (by
   unfold uw;dsimp only;rw[bS,ow,bS (by simp),ah,ao,fS (by simp),show([a,b]:List Int).getD 0 0=a from rfl]
   rw[AE (r:=b) (y:=a) f.1 f.2 d.1 d.2,au];rfl)]
  rw[cQ (r:=.inl ((b*4294967296+a,()),(),())) (by unfold uw;dsimp only;rw[di,rU,ah,aw];rfl),fT]
  exact UY (by omega) (by omega) (by simp) (by grind)
 |a::b::c::l,J,A,U,I=>
  have g:18446744073709551616<=(vN x.2.1:Int):=by
   have h1:=xe J U (n:=l.length+2) rfl;have h2:=dW J (l.length+2);have k:dv (a::b::c::l)=wv (a::b::c::l) (l.length+2)+(a::b::c::l).getD (l.length+2) 0*4294967296^(l.length+2):=by
    rw[<-da (a::b::c::l) (l.length+3) (aL _)];rfl
   rw[A]at k;have p:=xn (a:=2) (b:=l.length+2);have q:(4294967296:Int)^2=18446744073709551616:=rfl;have s:1*4294967296^(l.length+2)<=(a::b::c::l).getD (l.length+2) 0*4294967296^(l.length+2):=Int.mul_le_mul_of_nonneg_right (by omega) (by omega)
   omega
  have Z:((a::b::c::l).length:Int)=(l.length:Int)+3:=rfl;have m:l.length+3<=1099511627774:=I;rw[Z,au];rw[cQ (r:=.inl ((0,()),(),())) (by
   unfold uw;dsimp only;rw[Z,bS,ow,di,ah,aw];rfl),fT]
  unfold IW FW;dsimp only;rw[Z,bg,Sc,ah,Sc,ah,ao,ax (by
   omega)]
  rfl
def cl(x:Int):Int:=if x< -1048576 then -1048576 else if 1048576< x then 1048576 else x
theorem Xf(x:Int):I1 x (-1048576) 1048576=ab (cl x):=by
 unfold I1 cl;by_cases h:x< -1048576
 .rw [bg h,ao,aK h]
 by_cases h2:1048576< x
 .rw [bc,aw,bg h2,ao,ax h,aK h2]
 rw[bc,aw,bc,aw,ax h,ax h2]
def oG(x:aJ):aJ:=(cl x.1,cl x.2.1,())
theorem zO(x:aJ):rp x=ab (oG x):=by
 unfold rp L8;rw[Xf,Xf,ah];rfl
theorem oA(x:Int): -1048576<=cl x/\cl x<=1048576:=by
 grind[cl]
def br(x:aJ):Bool:=decide (-1048576<=x.1)&&decide (x.1<=1048576)&&decide (-1048576<=x.2.1)&&decide (x.2.1<=1048576)
theorem akx(x:Int):aj (cl x) x=(decide (-1048576<=x)&&decide (x<=1048576)):=by
 unfold cl;by_cases h:x< -1048576
 .rw [bQ,decide_eq_false (by omega)];rfl
 by_cases h2:1048576< x
 .rw [bQ,decide_eq_true (by omega),decide_eq_false (by omega)];rfl
 rw[ax h,ax h2,cM rfl,decide_eq_true (by omega),decide_eq_true (by omega)];rfl
theorem qa(x:aJ):iX x=ab (br x):=by
 unfold iX;rw[zO];show ab (aj (cl x.1) x.1&&(aj (cl x.2.1) x.2.1&&ag))=_;simp[akx,tf,br,yd]
theorem aeV(x:aJ):oS x=ab (br x):=by
 unfold oS;rw[cK,ah,cK,ah,cK,l5,l5,l5,l5];rfl
def FQ(x y:aJ):aJ:=((oG x).1-(oG y).1,(oG x).2.1-(oG y).2.1,())
theorem Ul(x y:aJ):Bx x y=ab (FQ x y):=by
 have a:=oA x.1;have b:=oA x.2.1;have c:=oA y.1;have d:=oA y.2.1;unfold Bx;rw[zO,zO];show ab (w (cl x.1-cl y.1),w (cl x.2.1-cl y.2.1),())=_;rw[au,au];rfl
theorem afw(m n:Int)(hm:(nz m).2.1.length<=1099511627776):xx (nz m) (nz n)=ab (decide (m=n)):=by
 unfold xx;rw[tY,cI,ah];by_cases I:(nz m).1=(nz n).1
 .by_cases U:(nz m).2.1.length=(nz n).2.1.length
  .rw [I,show((nz n).1==(nz n).1)=ag by simp,cM]
   show aA _ _=_;obtain⟨r,e,rfl⟩:=eW (step:=Tk (nz m) (nz n)) (λs=>∃i:Nat,s=(((i:Int),()),(),())/\i<=(nz m).2.1.length/\∀j,j< i->(nz m).2.1.getD j 0=(nz n).2.1.getD j 0) (λs=>(((nz m).2.1.length:Int)-s.1.1).toNat) (λr=>r=decide (m=n)) (by
    rintro _ ⟨i,rfl,hi,Z⟩;unfold Tk;dsimp only;by_cases h2:i<(nz m).2.1.length
    .rw [bg,ao,fS h2,fS];by_cases A:(nz m).2.1.getD i 0=(nz n).2.1.getD i 0
     .left;rw[cM A,b9,aw,au];refine⟨_,rfl,⟨i+1,rfl,by omega,λj h=>?_⟩,?_⟩
      .rcases jH j i with J|J
       .exact Z j J
       rw[show j=i by omega];exact A
      show(((nz m).2.1.length:Int)-((i:Int)+1)).toNat<(((nz m).2.1.length:Int)-(i:Int)).toNat;omega
     right;rw[bQ A,fN,ao];exact⟨_,rfl,(decide_eq_false (λh=>A (by rw[h]))).symm⟩
    right;rw[bc,aw];refine⟨_,rfl,(decide_eq_true ?_).symm⟩;have e:(nz m).2.1=(nz n).2.1:=List.ext_getElem U λk A J=>by
     have:=Z k (by omega)
     rw[nv,nv,gB A,gB J]at this;exact this
    have:=bJ m;rw[<-bJ m,<-bJ n,BE,BE,I,e]) ((0,()),(),()) ⟨0,rfl,by omega,λj h=>by omega⟩
   exact e
  rw[bQ,fN,F9,ao,decide_eq_false (λh=>U (by rw[h]))]
 have:((nz m).1==(nz n).1)=af:=by
  cases h1:(nz m).1<;>cases h2:(nz n).1<;>first|rfl|exact absurd (h1.trans h2.symm) I
 rw[this,fN,vb,ao,decide_eq_false (λh=>I (by rw[h]))]
theorem avk(a b:Rat)(h:QS 1099511627776 a):KS (nq a) (nq b)=ab (decide (a=b)):=by
 have A:=fo h;unfold KS;rw[show xx (nq a).1 (nq b).1=_ from afw a.num b.num A.1.2,show xx (nq a).2.1 (nq b).2.1=_ from afw a.den b.den A.2.2,ah,ah,cK,ah];congr 1;by_cases h1:a=b<;>try grind
 rw[decide_eq_false h1,Bool.and_eq_false_iff];by_cases h2:a.num=b.num
 .right;exact decide_eq_false λI=>h1 (Rat.ext h2 (by omega))
 grind
def dK(k:Nat)(x:bN):Prop:=bp k x.1/\bp k x.2.1/\bp k x.2.2.1/\bp k x.2.2.2.1/\bp k x.2.2.2.2.1/\bp k x.2.2.2.2.2.1
theorem dK.mono{k m:Nat}{x:bN}(h:dK k x)(hm:k<=m):dK m x:=⟨h.1.mono hm,h.2.1.mono hm,h.2.2.1.mono hm,h.2.2.2.1.mono hm,h.2.2.2.2.1.mono hm,h.2.2.2.2.2.mono hm⟩
structure Af where
 a:Rat
 b:Rat
 c:Rat
 d:Rat
 e:Rat
 f:Rat
def av(x:bN):Af:=⟨qv x.1,qv x.2.1,qv x.2.2.1,qv x.2.2.2.1,qv x.2.2.2.2.1,qv x.2.2.2.2.2.1⟩
def na(t:Af):bN:=(nq t.a,nq t.b,nq t.c,nq t.d,nq t.e,nq t.f,())
theorem G7(t:Af):av (na t)=t:=by
 simp[av,na,iB]
def AS(k:Nat)(t:Af):Prop:=QS k t.a/\QS k t.b/\QS k t.c/\QS k t.d/\QS k t.e/\QS k t.f
theorem rW{x:bN}{k:Nat}(h:dK k x)(A:1<=k):AS k (av x):=⟨eJ h.1 A,eJ h.2.1 A,eJ h.2.2.1 A,eJ h.2.2.2.1 A,eJ h.2.2.2.2.1 A,eJ h.2.2.2.2.2 A⟩
theorem w9{t:Af}{k:Nat}(h:AS k t):dK k (na t):=⟨fo h.1,fo h.2.1,fo h.2.2.1,fo h.2.2.2.1,fo h.2.2.2.2.1,fo h.2.2.2.2.2⟩
theorem J4{x:bN}(h:dK aP x):vP x=ab (na (av x)):=by
 unfold vP;rw[nX h.1,nX h.2.1,nX h.2.2.1,nX h.2.2.2.1,nX h.2.2.2.2.1,nX h.2.2.2.2.2];rfl
theorem aeO{x:bN}(h:dK 500000000000 x):E9 x=ab (na (av x)):=by
 unfold E9;rw[nf h.1,nf h.2.1,nf h.2.2.1,nf h.2.2.2.1,nf h.2.2.2.2.1,nf h.2.2.2.2.2];rfl
def mX(q:Rat):Bool:=decide (Ha q<=256)
def fp(t:Af):Bool:=mX t.a&&(mX t.b&&(mX t.c&&(mX t.d&&(mX t.e&&(mX t.f&&ag)))))
theorem Y5(n:Nat):ak 256 (n:Int)= !decide (n<=256):=by
 by_cases h:n<=256
 .rw [bc,decide_eq_true h];rfl
 rw[bg,decide_eq_false h];rfl
theorem Cu{x:bN}(h:dK aP x):tK x=ab (fp (av x)):=by
 have s:=w9 (rW h (by trivial))
 unfold tK;rw[J4 h,ah,AQ s.1,AQ s.2.1,AQ s.2.2.1,AQ s.2.2.2.1,AQ s.2.2.2.2.1,AQ s.2.2.2.2.2];unfold na fp;grind[iB,Y5,mX]
theorem aua{l:List DQ}(J:l.length<=1099511627776)(h:∀q∈l,bp 500000000000 q):aA (KZ l) ((0,()),(),())=ab (l.all λq=>mX (qv q)):=by
 obtain⟨r,e,rfl⟩:=eW (step:=KZ l) (λs=>∃i:Nat,s=(((i:Int),()),(),())/\i<=l.length/\(l.take i).all (λq=>mX (qv q))=ag) (λs=>((l.length:Int)-s.1.1).toNat) (λr=>r=l.all λq=>mX (qv q)) (by
  rintro _ ⟨i,rfl,hi,A⟩;unfold KZ;dsimp only;by_cases h2:i< l.length
  .rw [bg,ao,cO h2,aut (h _ (g7 h2)),ah,Y5,au];cases I:decide (Ha (qv l[i])<=256)with
   |true=>
    left;refine⟨_,rfl,⟨i+1,rfl,by omega,?_⟩,?_⟩
    .rw [MR,ahS,A,gA h2];simp[mX,I]
    grind
   |false=>
    right;refine⟨_,rfl,?_⟩;symm;rw[ahT];exact⟨l[i],g7 h2,by simp[mX,I,Bool.false_ne_true]⟩
  right;rw[bc,aw];refine⟨_,rfl,?_⟩;rw[<-A,rF (by omega)]) ((0,()),(),()) ⟨0,rfl,by omega,rfl⟩
 exact e
theorem aeH{x:bN}(h:dK 500000000000 x):Fa x=ab (fp (av x)):=by
 unfold Fa A1;rw[ah,aua (by simp) (λq A=>by
  simp at A;rcases A with rfl|rfl|rfl|rfl|rfl|rfl<;>try(first|exact h.1|exact h.2.1|exact h.2.2.1|exact h.2.2.2.1|exact h.2.2.2.2.2;done)
  exact h.2.2.2.2.1)]
 rfl
def wide:Nat:=1000000000
theorem bp.low{x:DQ}(h:bp wide x):bp mid x:=h.mono (by trivial)
theorem jx{q:Rat}{k m:Nat}(h:QS k q)(hm:k<=m:=by omega):QS m q:=⟨ahD h.1 (xn hm),ahD h.2 (xn hm)⟩
theorem pV{a b:Rat}{k m:Nat}(A:QS k a)(I:QS m b):QS (k+m) (a*b):=by
 have h:=zr (a.num*b.num) (a.den*b.den) (vg (hU a) (hU b));rw[<-VP,pf,pf]at h;have J:=ft A.1 I.1;have U:=ft (fD A) (fD I);exact⟨by omega,by omega⟩
theorem EW{a b:Rat}{k m:Nat}(A:QS k a)(I:QS m b):QS (k+m+1) (a+b):=by
 have h:=zr (a.num*b.den+b.num*a.den) (a.den*b.den) (vg (hU a) (hU b));rw[Nl]at h;have U:=ft A.1 (fD I);have J:=ft I.1 (fD A);rw[Gp m k]at J;have Z:=ft (fD A) (fD I);exact⟨by omega,by omega⟩
theorem aen{a b:Rat}{k m:Nat}(A:QS k a)(I:QS m b):QS (k+m+1) (a-b):=by
 have h:=zr (a.num*b.den-b.num*a.den) (a.den*b.den) (vg (hU a) (hU b));rw[agd]at h;have J:=ft I.1 (fD A);rw[Gp m k]at J;have U:=ft (fD A) (fD I);have Z:=uZ (ft A.1 (fD I)) (b:= -(b.num*a.den));exact⟨by omega,by omega⟩
theorem XJ{x:bN}(h:dK wide x):y6 x=ab (nq ((av x).a*(av x).d-(av x).b*(av x).c)):=by
 have s:=rW h (by trivial)
 unfold y6;rw[EV h.1.low h.2.2.2.1.low,ah,EV h.2.1.low h.2.2.1.low,ah,aej (x:=nq (qv x.1*qv x.2.2.2.1)) (y:=nq (qv x.2.1*qv x.2.2.1)) ((fo (pV s.1 s.2.2.2.1)).mono (by trivial)) ((fo (pV s.2.1 s.2.2.1)).mono (by trivial))]
 simp[av,iB]
theorem aeJ{x:bN}(h:dK wide x):xA x=ab (nq ((av x).a*(av x).d-(av x).b*(av x).c)):=by
 have s:=rW h (by trivial)
 unfold xA;rw[aeR h.1.low h.2.2.2.1.low,ah,aeR h.2.1.low h.2.2.1.low,ah,auv (x:=nq (qv x.1*qv x.2.2.2.1)) (y:=nq (qv x.2.1*qv x.2.2.1)) ((fo (pV s.1 s.2.2.2.1)).mono (by trivial)) ((fo (pV s.2.1 s.2.2.1)).mono (by trivial))]
 simp[av,iB]
theorem CW(a b:Rat):aj ((a.num*b.den-b.num*a.den).sign) 0=decide (a=b):=by
 rw[Ql];have key:a.num*b.den-b.num*a.den=0↔a=b:=by
  have h:=Rat.divInt_eq_divInt_iff (n₁:=a.num) (n₂:=b.num) (hU a) (hU b);rw[pf,pf]at h;rw[h];omega
 grind
def wa(s t:Af):Bool:=decide (s.a=t.a)&&(decide (s.b=t.b)&&(decide (s.c=t.c)&&(decide (s.d=t.d)&&(decide (s.e=t.e)&&(decide (s.f=t.f)&&ag)))))
theorem Wd{x y:bN}(A:dK wide x)(I:dK wide y):tJ x y=ab (wa (av x) (av y)):=by
 have s:=(w9 (rW A (by unfold wide;omega))).mono (m:=mid) (by unfold wide mid;omega)
 have t:=(w9 (rW I (by unfold wide;omega))).mono (m:=mid) (by unfold wide mid;omega)
 unfold tJ;rw[J4 (A.mono (by unfold wide aP;omega)),ah,J4 (I.mono (by unfold wide aP;omega)),ah,sI s.1 t.1,sI s.2.1 t.2.1,sI s.2.2.1 t.2.2.1,sI s.2.2.2.1 t.2.2.2.1,sI s.2.2.2.2.1 t.2.2.2.2.1,sI s.2.2.2.2.2 t.2.2.2.2.2]
 unfold na wa;dsimp only;simp only[ah,iB,CW];cases decide ((av x).a=(av y).a)<;>cases decide ((av x).b=(av y).b)<;>cases decide ((av x).c=(av y).c)<;>cases decide ((av x).d=(av y).d)<;>cases decide ((av x).e=(av y).e)<;>cases decide ((av x).f=(av y).f)<;>rfl
theorem avj{l m:List Rat}(U:l.length=m.length)(Z:l.length<=1099511627776)(h:∀q∈l,QS 1099511627776 q):E7 (l.map nq) (m.map nq)=ab (decide (l=m)):=by
 unfold E7;have a:(l.map nq).length=l.length:=gf ..;have b:(m.map nq).length=m.length:=gf ..;rw[cM,b9,aw];obtain⟨r,e,rfl⟩:=eW (step:=Tj (l.map nq) (m.map nq)) (λs=>∃i:Nat,s=(((i:Int),()),(),())/\i<=l.length/\l.take i=m.take i) (λs=>((l.length:Int)-s.1.1).toNat) (λr=>r=decide (l=m)) (by
  rintro _ ⟨i,rfl,hi,I⟩;unfold Tj;dsimp only;by_cases h2:i< l.length
  .have J:i< m.length:=by omega
   rw[bg,ao,cO,cO,VB,VB,avk _ _ (h _ (g7 h2)),ah];by_cases A:l[i]=m[i]
   .left;rw[decide_eq_true A,b9,aw,au];refine⟨_,rfl,⟨i+1,rfl,by omega,?_⟩,?_⟩
    .rw [MR,MR,I,gA h2,gA J,A]
    grind
   right;rw[decide_eq_false A,fN,ao];refine⟨_,rfl,(decide_eq_false λe=>A ?_).symm⟩
   subst e;rfl
  right;rw[bc,aw];refine⟨_,rfl,(decide_eq_true ?_).symm⟩;rw[rF (by omega),rF (by omega)]at I
  exact I) ((0,()),(),()) ⟨0,rfl,by omega,rfl⟩
 exact e
theorem at7{x y:bN}(I:dK wide x)(U:dK wide y):A2 x y=ab (wa (av x) (av y)):=by
 have s:=rW I (by simp[wide])
 have A:wide<=1099511627776:=by simp[wide]
 unfold A2 Tl A1;rw[aeO (I.mono (by simp[wide])),aeO (U.mono (by simp[wide])),ah]
 have e:=avj (l:=[(av x).a,(av x).b,(av x).c,(av x).d,(av x).e,(av x).f]) (m:=[(av y).a,(av y).b,(av y).c,(av y).d,(av y).e,(av y).f]) rfl (by simp) (λq J=>by
  simp at J;rcases J with rfl|rfl|rfl|rfl|rfl|rfl
  .exact jx s.1 A
  .exact jx s.2.1 A
  .exact jx s.2.2.1 A
  .exact jx s.2.2.2.1 A
  .exact jx s.2.2.2.2.1 A
  exact jx s.2.2.2.2.2 A)
 have e:E7 [(na (av x)).1,(na (av x)).2.1,(na (av x)).2.2.1,(na (av x)).2.2.2.1,(na (av x)).2.2.2.2.1,(na (av x)).2.2.2.2.2.1] [(na (av y)).1,(na (av y)).2.1,(na (av y)).2.2.1,(na (av y)).2.2.2.1,(na (av y)).2.2.2.2.1,(na (av y)).2.2.2.2.2.1]=_:=e;simp[e,ah,wa]
theorem Bt{x y z u:DQ}(I:bp wide x)(J:bp wide y)(U:bp wide z)(Z:bp wide u):rQ x y z u=ab (nq (qv x*qv y+qv z*qv u)):=by
 have A:1<=wide:=by simp[wide]
 unfold rQ;rw[EV I.low J.low,ah,EV U.low Z.low,ah,ET (x:=nq (qv x*qv y)) (y:=nq (qv z*qv u)) ((fo (pV (eJ I A) (eJ J A))).mono (by simp[wide,mid])) ((fo (pV (eJ U A) (eJ Z A))).mono (by simp[wide,mid])),ah,iB,iB]
theorem u4{x y z u:Rat}(A:QS wide x)(I:QS wide y)(J:QS wide z)(U:QS wide u):QS (4*wide+1) (x*y+z*u):=jx (EW (pV A I) (pV J U))
def mH(t:Af)(x y:Rat):Rat×Rat:=(t.a*x+t.c*y+t.e,t.b*x+t.d*y+t.f)
theorem Wr{x:bN}{y z:DQ}(A:dK wide x)(I:bp wide y)(J:bp wide z):Cv x y z=ab (nq (mH (av x) (qv y) (qv z)).1,nq (mH (av x) (qv y) (qv z)).2,()):=by
 have U:1<=wide:=by simp[wide]
 have s:=rW A U;have sy:=eJ I U;have sz:=eJ J U;unfold Cv;rw[Bt A.1 I A.2.2.1 J,ah,ET (x:=nq (qv x.1*qv y+qv x.2.2.1*qv z)) ((fo (u4 s.1 sy s.2.2.1 sz)).mono (by simp[wide,mid])) A.2.2.2.2.1.low,ah,Bt A.2.1 I A.2.2.2.1 J,ah,ET (x:=nq (qv x.2.1*qv y+qv x.2.2.2.1*qv z)) ((fo (u4 s.2.1 sy s.2.2.2.1 sz)).mono (by simp[wide,mid])) A.2.2.2.2.2.low,iB,iB]
 rfl
def hf:Rat:=kX 1 2
def xI(q:Rat):Int×Bool×Unit:=FW (q+hf).floor
def ox(t:Af)(p:aJ):aJ×Int×Unit:=
 if fp t=af then((0,0,()),5,())else if br p=af then((0,0,()),6,())else
  if((xI (mH t p.1 p.2.1).1).2.1&&((xI (mH t p.1 p.2.1).2).2.1&&br ((xI (mH t p.1 p.2.1).1).1,(xI (mH t p.1 p.2.1).2).1,())))=ag then(((xI (mH t p.1 p.2.1).1).1,(xI (mH t p.1 p.2.1).2).1,()),0,())else((0,0,()),6,())
theorem AU{x:Int}(A:-4294967295<=x:=by omega)(h1:x<=4294967295:=by omega):QS 1 (x:Rat):=⟨by
 show((x.natAbs):Int)< 4294967296;omega,by
 simp⟩
theorem Zp:QS 1 hf:=by
 have h:=zr 1 2;refine⟨?_,?_⟩
 .show ((kX 1 2).num.natAbs:Int)< 4294967296;omega
 show((kX 1 2).den:Int)< 4294967296;omega
theorem Wm{t:Af}{x y:Rat}(A:AS wide t)(I:QS wide x)(J:QS wide y):QS (5*wide+2) (mH t x y).1/\QS (5*wide+2) (mH t x y).2:=
 ⟨jx (EW (u4 A.1 I A.2.2.1 J) A.2.2.2.2.1),jx (EW (u4 A.2.1 I A.2.2.2.1 J) A.2.2.2.2.2)⟩
theorem iA{p:aJ}(h:br p=ag): -1048576<=p.1/\p.1<=1048576/\ -1048576<=p.2.1/\p.2.1<=1048576:=by
 simp_all[br,h,aM,decide_eq_true_eq]
theorem al2{q:Rat}{k:Nat}(h:QS k q):((q.floor).natAbs:Int)< 4294967296^(k+1):=by
 have e:q.floor=q.num/(q.den):=by
  unfold Rat.floor;grind
 have:=ahI q.num q.den;have:=h.1;omega
theorem ae2{q:Rat}(h:QS (5*wide+2) q):((lC (nq q) (nq hf)).bind λA=>(sN A).bind λI=>ss I)=ab (xI q):=by
 have o:=EW h Zp;rw[ET ((fo h).mono (by simp[wide,mid])) ((fo Zp).mono (by simp[mid])),ah,iB,iB,aeh ((fo o).mono (by simp[wide,mid])),ah,iB,agR ((dD (al2 o)).mono (by simp[wide,aP])),bJ]
 rfl
theorem afF{α β γ δ:Type}(a:Option α)(f:α->Option β)(g:β->Option γ)(k:γ->Option δ):(a.bind λx=>(f x).bind λy=>(g y).bind k)=(a.bind λx=>(f x).bind g).bind k:=by
 grind
theorem ajb{x:bN}{p:aJ}(h:dK wide x):GR x p=ab (ox (av x) p):=by
 have A:1<=wide:=by simp[wide]
 unfold GR ox;rw[Cu (h.mono (by simp[wide,aP])),ah]
 cases a:fp (av x)with
 |false=>simp
 |true=>
  rw[b9,aw,qa,ah];cases hp:br p with
  |false=>simp
  |true=>
   have hi:=iA hp;have J:=jx (AU (x:=p.1)) A;have sy:=jx (AU (x:=p.2.1)) A;obtain⟨U,Z⟩:=Wm (rW h A) J sy;rw[b9,aw,xq,ah,xq,ah,Wr h (fo J) (fo sy),ah,aei,ax (by omega),ah,iB,iB]
   dsimp only;rw[afF,show((lC (nq (mH (av x) p.1 p.2.1).1) (nq (kX 1 2))).bind λI=>(sN I).bind ss)=_ from ae2 U,ah,afF,show((lC (nq (mH (av x) p.1 p.2.1).2) (nq (kX 1 2))).bind λI=>(sN I).bind ss)=_ from ae2 Z,ah,cK,ah,qa,ah,cK,yd]
   grind
def comp(s t:Af):Af:=⟨t.a*s.a+t.c*s.b,t.b*s.a+t.d*s.b,t.a*s.c+t.c*s.d,t.b*s.c+t.d*s.d,(mH t s.e s.f).1,(mH t s.e s.f).2⟩
def mN:Af:=⟨1,0,0,1,0,0⟩
theorem anp:GV=ab (na mN):=by
 unfold GV Nq vO;rw[xq,xq,ah];rfl
theorem ajG{x y:bN}(A:dK wide x)(I:dK wide y):GW x y=ab (na (comp (av x) (av y))):=by
 unfold GW vO;rw[Wr I A.2.2.2.2.1 A.2.2.2.2.2,Bt I.1 A.1 I.2.2.1 A.2.1,Bt I.2.1 A.1 I.2.2.2.1 A.2.1,Bt I.1 A.2.2.1 I.2.2.1 A.2.2.2.1,Bt I.2.1 A.2.2.1 I.2.2.2.1 A.2.2.2.1,ah];rfl
theorem akL{s t:Af}(A:AS wide s)(I:AS wide t):AS (5*wide+2) (comp s t):=by
 obtain⟨J,U⟩:=Wm I A.2.2.2.2.1 A.2.2.2.2.2;exact⟨jx (u4 I.1 A.1 I.2.2.1 A.2.1),jx (u4 I.2.1 A.1 I.2.2.2.1 A.2.1),jx (u4 I.1 A.2.2.1 I.2.2.1 A.2.2.2.1),jx (u4 I.2.1 A.2.2.1 I.2.2.2.1 A.2.2.2.1),J,U⟩
theorem asF{q:Rat}(h:mX q=ag):QS 8 q:=by
 have h:=of_decide_eq_true h;have a:=Ea q.num.natAbs;have b:=Ea q.den;have c:2^dP q.num.natAbs<=2^256:=tp (by omega) (bX (Nat.le_max_left _ _) h)
 have d:2^dP q.den<=2^256:=tp (by omega) (bX (Nat.le_max_right _ _) h)
 unfold QS;omega
theorem RW{t:Af}(h:fp t=ag):AS wide t:=by
 unfold fp at h;simp only[aM]at h;have m:∀{q},mX q=ag->QS wide q:=λh=>jx (asF h) (by simp[wide])
 exact⟨m h.1,m h.2.1,m h.2.2.1,m h.2.2.2.1,m h.2.2.2.2.1,m h.2.2.2.2.2.1⟩
theorem Z6:AS wide mN:=by
 have A:1<=wide:=by simp[wide]
 have a:=jx (AU (x:=1)) A;have b:=jx (AU (x:=0)) A;exact⟨a,b,b,a,b,b⟩
def chain:Af->List Af->Option Af
 |s,[]=>ab s
 |s,t::l=>if fp t=ag/\fp (comp s t)=ag then chain (comp s t) l else none
theorem Oc(s t:Af)(l:List Af):chain s (t::l)=if fp t=ag/\fp (comp s t)=ag then chain (comp s t) l else none:=rfl
def zA:bN:=(((af,[],()),(af,[],()),()),((af,[],()),(af,[],()),()),((af,[],()),(af,[],()),()),((af,[],()),(af,[],()),()),((af,[],()),(af,[],()),()),((af,[],()),(af,[],()),()),())
def xj(o:Option Af):bN×Int×Unit:=match o with
 |some t=>(na t,0,())
 |none=>(zA,5,())
theorem W9:∀(l:List Af) (s:Af),l.all fp=af->chain s l=none
 |[],_,h=>by cases h
 |t::l,s,h=>by
  rw[Oc];split
  .rename_i h1;refine W9 l _ ?_;rw[vj,h1.1,kV]at h;exact h
  rfl
theorem akN{l:List bN}(a:l.length<=1099511627776)(h:∀x∈l,dK wide x):GS l=ab (xj (chain mN (l.map av))):=by
 unfold GS;rw[anp,ah];obtain⟨r,e,rfl⟩:=eW (step:=Nn l (na mN)) (λs=>∃i:Nat,∃z,s=(((i:Int),()),(z,()),())/\i<=l.length/\((l.take i).map av).all fp=ag) (λs=>((l.length:Int)-s.1.1).toNat) (λr=>r=xj (chain mN (l.map av))) (by
  rintro _ ⟨i,z,rfl,hi,J⟩;unfold Nn;dsimp only;by_cases h2:i< l.length
  .have Z:=h _ (g7 h2);rw[bg,ao,cO h2,Cu (Z.mono (by unfold wide aP;omega)),ah]
   cases A:fp (av l[i])with
   |false=>
    right;rw[fN,ao];refine⟨_,rfl,?_⟩;rw[W9 _ _ (ahT.2 ⟨av l[i],kj.2 ⟨_,g7 h2,rfl⟩,by rw[A];exact ag5⟩)]
    rfl
   |true=>
    left;rw[b9,aw,au];refine⟨_,rfl,⟨i+1,_,rfl,by omega,?_⟩,?_⟩
    .rw [MR,mu,ahS,J,gA h2];show(ag&&(fp (av l[i])&&ag))=ag;rw[A];rfl
    show((l.length:Int)-((i:Int)+1)).toNat<((l.length:Int)-(i:Int)).toNat;omega
  right;rw[bc,aw];rw[rF (by omega)]at J
  have e:∀z,aA (GU l) ((0,()),(z,na mN,()),())=ab (xj (chain mN (l.map av))):=λz=>by
   obtain⟨r,e,rfl⟩:=eW (step:=GU l) (λs=>∃i:Nat,∃z,∃t:Af,s=(((i:Int),()),(z,na t,()),())/\i<=l.length/\AS wide t/\chain mN (l.map av)=chain t ((l.drop i).map av)) (λs=>((l.length:Int)-s.1.1).toNat) (λr=>r=xj (chain mN (l.map av))) (by
   rintro _ ⟨i,z,t,rfl,hi,U,I⟩;unfold GU;dsimp only;by_cases h2:i< l.length
   .have A:fp (av l[i])=ag:=List.all_eq_true.1 J _ (kj.2 ⟨_,g7 h2,rfl⟩);rw[il h2,List.map_cons,Oc]at I;rw[bg,ao,cO h2,ajG (w9 U) (h _ (g7 h2)),ah,Cu ((w9 (akL (by rw[G7];exact U) (RW A))).mono (by unfold wide aP;omega)),ah,G7,G7]
    cases hp:fp (comp t (av l[i]))with
    |false=>
     right;rw[fN,ao];refine⟨_,rfl,?_⟩;rw[I,ax (by rw[hp];exact λh=>ag5 h.2)]
     rfl
    |true=>
     left;rw[b9,aw,au];refine⟨_,rfl,⟨i+1,_,_,rfl,by omega,RW hp,?_⟩,?_⟩
     .rw [I,aK ⟨A,hp⟩]
     show((l.length:Int)-((i:Int)+1)).toNat<((l.length:Int)-(i:Int)).toNat;omega
   right;rw[bc,aw];unfold Np vO;rw[J4 ((w9 U).mono (by unfold wide aP;omega)),ah,ah,ah,ah]
   refine⟨_,rfl,?_⟩;rw[I,gZ (by omega),G7]
   rfl) ((0,()),(z,na mN,()),()) ⟨0,z,mN,rfl,by omega,Z6,rfl⟩
   exact e
  rw[e];exact⟨_,rfl,rfl⟩) _ ⟨0,_,rfl,by omega,rfl⟩
 exact e
section
def nm(k:Int):Int:=if k=1 then 1 else if k=2 then 1 else if k=3 then 2 else if k=4 then 3 else if k=5 then 0 else -1
theorem RL(k:Int):pR k=ab (nm k):=by
 unfold pR nm adQ
 by_cases h1:k=1
 .subst h1;rfl
 by_cases h2:k=2
 .subst h2;rfl
 by_cases A:k=3
 .subst A;rfl
 by_cases I:k=4
 .subst I;rfl
 rw[bQ I,aw,bQ A,aw,bQ h1,aw,bQ h2,aw,iw,ax h1,ax h2,ax A,ax I]
 by_cases J:k=5
 .subst J;rfl
 .rw [bQ J,aw,ax J]
theorem aui(k:Int):K1 k=ab (nm k):=by
 unfold K1 nm aeE
 by_cases h1:k=1
 .subst h1;rfl
 by_cases h2:k=2
 .subst h2;rfl
 by_cases A:k=3
 .subst A;rfl
 by_cases I:k=4
 .subst I;rfl
 by_cases J:k=5
 .subst J;rfl
 rw[bQ h1,aw,iw,bQ h2,aw,bQ A,aw,bQ I,aw,bQ J,aw,ax h1,ax h2,ax A,ax I,ax J]
def lq(p:aJ):Bool:=aj p.1 0&&(aj p.2.1 0&&ag)
theorem anI{p:aJ}(h:lq p=ag):br p=ag:=by
 unfold lq at h
 rw[aM,aM,fB,fB]at h
 have a:=of_decide_eq_true h.1
 have b:=of_decide_eq_true h.2.1
 unfold br
 simp only[aM,decide_eq_true_eq]
 omega
def mL(n i:Int)(p:aJ):Bool:=bif ai n i then lq p else br p
theorem Pb(n i:Int)(p:aJ):((aV (!br p) ((ab n).bind λA=>(aF (ai A i) (ab !lq p)).bind λI=>ab I)))=ab (!mL n i p):=by
 rw[ah,cK,ah,cI]
 unfold mL
 cases h:lq p
 .cases ai n i<;>cases br p<;>rfl
 .rw [anI h]
  cases ai n i<;>rfl
theorem alZ(n i:Int)(p:aJ):((aF (ak i n) ((ab (br p)).bind λA=>ab !A)).bind λI=>(aV I ((aF (ai n i) (ab !lq p)).bind λJ=>ab J)))=ab (!mL n i p):=by
 have e:ak i n= !ai n i:=by
  by_cases h:n<=i
  .rw [bc h,bS h];rfl
  .rw [bg,di];rfl
 rw[e,ah,cK,ah,cK,ah,cI]
 unfold mL
 cases ai n i<;>cases lq p<;>cases br p<;>rfl
def qE(x:cr):Bool:=mL (nm x.1) 0 x.2.1&&(mL (nm x.1) 1 x.2.2.1&&mL (nm x.1) 2 x.2.2.2.1)
theorem al0(x:cr):Ku x=ab (qE x):=by
 unfold Ku qE
 show((iX x.2.1).bind λA=>(aV (!A) ((pR x.1).bind λz=>(aF (ai z 0) (ab !lq x.2.1)).bind λz=>ab z)).bind λI=>bif I then ab af else(iX x.2.2.1).bind λJ=>(aV (!J) ((pR x.1).bind λz=>(aF (ai z 1) (ab !lq x.2.2.1)).bind λz=>ab z)).bind λU=>bif U then ab af else(iX x.2.2.2.1).bind λZ=>(aV (!Z) ((pR x.1).bind λz=>(aF (ai z 2) (ab !lq x.2.2.2.1)).bind λz=>ab z)).bind λu8=>bif u8 then ab af else ab ag)=_
 simp only[RL,qa]
 rw[ah,Pb,ah]
 cases mL (nm x.1) 0 x.2.1
 .rfl
 .rw [b9,aw,ah,Pb,ah]
  cases mL (nm x.1) 1 x.2.2.1
  .rfl
  .rw [b9,aw,ah,Pb,ah]
   cases mL (nm x.1) 2 x.2.2.2.1<;>rfl
end
section
def gO(p:Int)(s:cr):Int:=bif ak (nm s.1) 0 then 2 else bif !(aj s.1 1||(!aj p 5&&(!aj s.1 5||!aj p 1)))then 10 else bif !qE s then 6 else 0
def pt:Int->Nat->List cr->aJ
 |_,_,[]=>(0,0,())
 |p,i,s::l=>bif aj (gO p s) 0 then pt s.1 (i+1) l else(gO p s,(i:Int),())
theorem Hm(p:Int)(i:Nat)(s:cr)(l:List cr):pt p i (s::l)=bif aj (gO p s) 0 then pt s.1 (i+1) l else(gO p s,(i:Int),()):=rfl
def qz(x:List cr):aJ:=if 256< x.length then(5,256,())else pt 5 0 x
theorem atp(x:List cr):Ks x=ab (qz x):=by
 unfold Ks qz;by_cases I:256< x.length<;>try(rw[bg,ao,aK I];done)
 rw[bc,aw,ax I]
 obtain⟨r,e,rfl⟩:=eW (step:=Sy x) (λs=>∃i:Nat,∃p:Int,s=((p,(i:Int),()),(),())/\i<=x.length/\pt 5 0 x=pt p i (x.drop i)) (λs=>((x.length:Int)-s.1.2.1).toNat) (λr=>r=pt 5 0 x) (by
  rintro _ ⟨i,p,rfl,hi,A⟩;unfold Sy;dsimp only;by_cases h2:i< x.length
  .rw [il h2,Hm]at A;rw[bg,ao,cO h2,cI,ah,cK,ah,cI,ah,RL,ah,al0,ah,au]
   unfold gO at A;cases J:ak (nm x[i].1) 0 with
   |true=>
    right;rw[J,ao,bQ,aw]at A
    exact⟨_,rfl,A.symm⟩
   |false=>
    rw[J,aw]at A;cases U:(aj x[i].1 1||(!aj p 5&&(!aj x[i].1 5||!aj p 1)))with
    |false=>
     right;rw[U,fN,ao,bQ,aw]at A
     exact⟨_,rfl,A.symm⟩
    |true=>
     rw[U,b9,aw]at A;cases Z:qE x[i]with
     |false=>
      right;rw[Z,fN,ao,bQ,aw]at A
      exact⟨_,rfl,A.symm⟩
     |true=>
      left;rw[Z,b9,aw,cM rfl,ao]at A;refine⟨_,rfl,⟨i+1,x[i].1,rfl,by omega,A⟩,?_⟩
      show((x.length:Int)-((i:Int)+1)).toNat<((x.length:Int)-(i:Int)).toNat;omega
  right;rw[bc,aw]
  refine⟨_,rfl,?_⟩;rw[A,gZ (by omega)]
  rfl) ((5,0,()),(),()) ⟨0,5,rfl,by omega,rfl⟩
 exact e
theorem Kr(x:List cr):xk x=ab (aj (qz x).1 0):=by
 simp[xk,atp,ah]
theorem Pc{β:Type}(n i:Int)(p:aJ)(k:Bool->Option β):((aF (ak i n) ((ab (br p)).bind λA=>ab !A)).bind λI=>(aV I ((aF (ai n i) (ab !lq p)).bind λJ=>ab J)).bind k)=k (!mL n i p):=by
 rw[<-Option.bind_assoc,alZ,ah]
def sE(x:List cr)(i:Nat):Int:=if i=0 then 5 else(match x[i-1]? with|some s=>s.1|none=>5)
theorem avS{x:List cr}{i:Nat}(h:i< x.length)(J:x.length<=256):K2 x (i:Int)=ab (aj x[i].1 1||(!aj (sE x i) 5&&(!aj x[i].1 5||!aj (sE x i) 1))):=by
 unfold K2 sE;have A:∀k,(aj k 1||(!aj k 5))= !aj k 5:=λk=>by
  by_cases h:k=1;all_goals simp[bQ,h]
 by_cases I:i=0
 .subst I;rw[cM,Sc,ah,cO h];show ab _=ab (_||(af&&_))
  simp
 have h1:i-1< x.length:=by omega
 rw[bQ,iU,au,show(i)-1=((i-1:Nat):Int) by omega,cO h1,ah,ax I,gA h1]
 cases U:aj x[i-1].1 5<;>first|rw[aw,cO h,cO h1,cI,ah,fN,kV,<-Bool.or_assoc,A]|rw[ao,cO h,b9,n8,BG]
theorem awO{x:List cr}{i:Nat}(h:i< x.length)(Z:x.length<=256:=by omega):K3 x (i:Int)=ab (gO (sE x i) x[i]):=by
 unfold K3 gO To;rw[cO h,aui,ah,avS h Z];cases a:ak (nm x[i].1) 0 with
 |true=>rfl
 |false=>
  cases b:(aj x[i].1 1||(!aj (sE x i) 5&&(!aj x[i].1 5||!aj (sE x i) 1)))
  .rfl
  rw[cO h];show((aF (ak 0 (nm x[i].1)) ((oS x[i].2.1).bind λA=>ab !A)).bind λI=>(aV I ((aF (ai (nm x[i].1) 0) (ab !lq x[i].2.1)).bind λJ=>ab J)).bind λU=>bif U then ab 6 else(aF (ak 1 (nm x[i].1)) ((oS x[i].2.2.1).bind λA=>ab !A)).bind λI=>(aV I ((aF (ai (nm x[i].1) 1) (ab !lq x[i].2.2.1)).bind λJ=>ab J)).bind λU=>bif U then ab 6 else(aF (ak 2 (nm x[i].1)) ((oS x[i].2.2.2.1).bind λA=>ab !A)).bind λI=>(aV I ((aF (ai (nm x[i].1) 2) (ab !lq x[i].2.2.2.1)).bind λJ=>ab J)).bind λU=>bif U then ab 6 else ab 0)=_
  simp only[aeV];rw[Pc];unfold qE;cases mL (nm x[i].1) 0 x[i].2.1<;>try grind
  rw[b9,Pc];cases mL (nm x[i].1) 1 x[i].2.2.1
  .rfl
  rw[Pc];grind
theorem auc(x:List cr):K0 x=ab (qz x):=by
 unfold K0 qz;by_cases I:256< x.length<;>try(rw[bg,ao,aK I];done)
 rw[bc,aw,ax I]
 obtain⟨r,e,rfl⟩:=eW (step:=Tn x) (λs=>∃i:Nat,s=(((i:Int),()),(),())/\i<=x.length/\pt 5 0 x=pt (sE x i) i (x.drop i)) (λs=>((x.length:Int)-s.1.1).toNat) (λr=>r=pt 5 0 x) (by
  rintro _ ⟨i,rfl,hi,A⟩;unfold Tn;dsimp only;by_cases h2:i< x.length
  .rw [il h2,Hm]at A;rw[bg,ao,awO h2,ah,au]
   cases J:aj (gO (sE x i) x[i]) 0 with
   |false=>
    right;rw[J,aw]at A;exact⟨_,rfl,A.symm⟩
   |true=>
    left;rw[J,ao]at A;refine⟨_,rfl,⟨i+1,rfl,by omega,?_⟩,?_⟩
    .rw [A];congr 1;unfold sE;grind
    grind
  right;rw[bc,aw]
  refine⟨_,rfl,?_⟩;rw[A,gZ (by omega)]
  rfl) ((0,()),(),()) ⟨0,rfl,by omega,rfl⟩
 exact e
theorem aeP(x:List cr):A3 x=ab (aj (qz x).1 0):=by
 simp[A3,auc,ah]
end
section
def wG(y:Int):=ai 0 y&&ai y 1048576
def zw:Bool->Nat->List Int->Bool
 |b,n,[]=>b&&(aj (Int.tmod (n:Int) 2) 0&&ai n 16)
 |b,n,y::l=>bif wG y then zw (b||ak 0 y) n l else af
theorem Yd b n y l:zw b n (y::l)=bif wG y then zw (b||ak 0 y) n l else af:=rfl
def v8(l:List Int):=zw (aj l.length 0) l.length l
theorem asy y:(ak y 0||ak 1048576 y)= !wG y:=by
 unfold wG;by_cases h:y< 0
 .simp[bg,h,di]
 by_cases h2:1048576< y
 .rw [bc,bg h2,bS,di h2];rfl
 rw[bc,bc,bS,bS];rfl
theorem ak0{l:List Int}(J:l.length<=1099511627776):Ui l=ab (v8 l):=by
 obtain⟨r,e,rfl⟩:=eW (step:=Uj l) (λs=>∃i:Nat,∃b:Bool,s=((b,(i:Int),()),(),())/\i<=l.length/\v8 l=zw b _ (l.drop i)) (λs=>(l.length)-s.1.2.1.toNat) (λr=>r=v8 l) (by
  rintro _ ⟨i,b,rfl,hi,A⟩;unfold Uj;dsimp only;by_cases h2:i< l.length
  .rw [il h2,Yd]at A;rw[bg,cO h2,cI,asy,cI,au];cases I:wG _ with
   |false=>
    right;rw[I]at A;exact⟨_,rfl,A.symm⟩
   |true=>
    left;rw[I]at A;refine⟨_,rfl,⟨i+1,_,rfl,by omega,A⟩,?_⟩
    grind
  right;rw[bc,cK,ah,cK,ah];refine⟨_,rfl,?_⟩;rw[A,gZ (by omega),yd]
  rfl) ((aj (l.length) 0,0,()),(),()) ⟨0,_,rfl,by omega,rfl⟩
 exact e
theorem aud{l:List Int}(J:l.length<=1099511627776):Tp l=ab (v8 l):=by
 obtain⟨r,e,rfl⟩:=eW (step:=Tq l) (λs=>∃i:Nat,∃b:Bool,s=((b,(i:Int),()),(),())/\i<=l.length/\v8 l=zw b _ (l.drop i)) (λs=>(l.length)-s.1.2.1.toNat) (λr=>r=v8 l) (by
  rintro _ ⟨i,b,rfl,hi,A⟩;unfold Tq sL;dsimp only;by_cases h2:i< l.length
  .rw [il h2,Yd]at A;rw[bg,cO h2,cK,cO h2,cI,au,show(ai 0 _&&ai _ _)=wG _ from rfl];cases I:wG _ with
   |false=>
    right;rw[I]at A;exact⟨_,rfl,A.symm⟩
   |true=>
    left;rw[I]at A;refine⟨_,rfl,⟨i+1,_,rfl,by omega,A⟩,?_⟩
    grind
  right;rw[bc,cK,ah,cK,ah];refine⟨_,rfl,?_⟩;rw[A,gZ (by omega),yd,ag3 (ai _ _)]
  rfl) ((aj (l.length) 0,0,()),(),()) ⟨0,_,rfl,by omega,rfl⟩
 exact e
def EL(x:rI):=ai 1 x.1&&ai x.1 16384&&(ai 1 x.2.1&&ai x.2.1 3)&&(ai 3 x.2.2.1&&ai x.2.2.1 5)&&(ai 256 x.2.2.2.1&&ai x.2.2.2.1 65536)&&v8 x.2.2.2.2.1&&(ai 0 x.2.2.2.2.2.1&&ai x.2.2.2.2.2.1 1048576)
theorem three k a:(aj k a||aj k (a+1)||aj k (a+2))=(ai a k&&ai k (a+2)):=by
 by_cases h1:k=a
 .rw [cM h1,bS,bS];rfl
 by_cases h2:k=a+1
 .rw [bQ h1,cM h2,bS,bS];rfl
 by_cases A:k=a+2
 .rw [bQ h1,bQ h2,cM A,bS,bS];rfl
 rw[bQ h1,bQ h2,bQ A];by_cases I:a<=k
 .rw [bS I,di];rfl
 rw[di];rfl
theorem atq{x:rI}(A:x.2.2.2.2.1.length<=1099511627776):LV x=ab (EL x):=by
 unfold LV Uk EL;have t1:(ai 1 _&&ai _ 3)=(aj _ 1||aj _ 2||aj _ 3):=(three x.2.1 1).symm
 have t2:(ai 3 _&&ai _ 5)=(aj _ 3||aj _ 4||aj x.2.2.1 5):=(three _ 3).symm
 rw[ak0 A,t1,t2];simp[cI,cK,ah,yd]
theorem auq{x:rI}(A:x.2.2.2.2.1.length<=1099511627776):K5 x=ab (EL x):=by
 unfold K5 Tr sL EL;rw[aud A];simp only[cI,cK,ah];grind
end
section
theorem Wl{α ρ:Type}{step:(Int×Unit)×Unit×Unit->Option (((Int×Unit)×Unit×Unit)⊕ρ)}(l:List α)(p:α->Bool)(A ok:ρ)
  (h1:∀(i:Nat) (h:i< l.length),step (((i:Int),()),(),())=bif p l[i]then ab (.inl ((((i:Int)+1),()),(),()))else ab (.inr A))
  (I:step (((l.length:Int),()),(),())=ab (.inr ok)):∀(k i:Nat),i+k=l.length->aA step (((i:Int),()),(),())=ab (bif(l.drop i).all p then ok else A)
 |0,i,J=>by
  have:i=l.length:=by omega
  subst this;rw[cQ I,List.drop_length];rfl
 |k+1,i,J=>by
  have hi:i< l.length:=by omega
  have e:=h1 i hi;rw[il hi,vj];cases hp:p l[i]with
  |true=>
   rw[hp,ao]at e;rw[eY e,kV,show(i:Int)+1=((i+1:Nat):Int) by omega]
   exact Wl l p A ok h1 I k (i+1) (by omega)
  |false=>
   rw[hp,aw]at e;rw[cQ e];rfl
theorem rT{α ρ:Type}{step:(Int×Unit)×Unit×Unit->Option (((Int×Unit)×Unit×Unit)⊕ρ)}(l:List α)(p:α->Bool)(A ok:ρ)
  (h1:∀(i:Nat) (h:i< l.length),step (((i:Int),()),(),())=bif p l[i]then ab (.inl ((((i:Int)+1),()),(),()))else ab (.inr A))
  (I:step (((l.length:Int),()),(),())=ab (.inr ok)):aA step ((0,()),(),())=ab (bif l.all p then ok else A):=
 Wl l p A ok h1 I l.length 0 (by omega)
def big:Nat:=1099511627776
theorem pN{α:Type}(l:List α):aj (l.length:Int) 0=cY l:=by
 cases l
 .rfl
 rename_i a l;rw[bQ (by rw[fH];omega)];rfl
theorem alx(l:List Int):LL l []=ab (cY l):=by
 unfold LL;show(bif !aj (l.length:Int) 0 then ab af else _)=_;rw[pN];cases l with
 |cons a l=>rfl
 |nil=>exact cQ (by unfold afS;rfl)
theorem aly(l:List ph):LM l []=ab (cY l):=by
 unfold LM;show(bif !aj (l.length:Int) 0 then ab af else _)=_;rw[pN];cases l with
 |cons a l=>rfl
 |nil=>exact cQ (by unfold afQ;rfl)
theorem alz(l:List pg):LN l []=ab (cY l):=by
 unfold LN;show(bif !aj (l.length:Int) 0 then ab af else _)=_;rw[pN];cases l with
 |cons a l=>rfl
 |nil=>exact cQ (by unfold afR;rfl)
def xf(x:rI):Bool:=aj x.1 0&&aj x.2.1 0&&aj x.2.2.1 0&&aj x.2.2.2.1 0&&aj x.2.2.2.2.2.1 0&&cY x.2.2.2.2.1
theorem afv(x:rI):En x (0,0,0,0,[],0,())=ab (xf x):=by
 unfold En xf;dsimp only;simp only[cK,ah,alx]
theorem aeN(x:cj):A5 x=ab (xf x.2.2.2.2.2.2.2.2.2.2.2.2.2.1):=by
 unfold A5 xf;simp only[cK,ah,pN];rw[Bool.and_right_comm]
def kN(x:nC):Bool:=aj x.1 0&&aj x.2.1 0&&cY x.2.2.1
theorem aaa(x:nC):DL x (0,0,[],())=ab (kN x):=by
 unfold DL kN;dsimp only;simp only[cK,ah,aly]
def Eh(x:cj):Bool:=kN x.2.2.2.2.2.2.2.2.2.2.2.2.2.2.2.1&&aj x.2.2.2.2.2.2.2.2.2.2.2.2.2.2.2.2.1 0
theorem auk(x:cj):Fi x=ab (Eh x):=by
 unfold Fi Eh kN;simp only[cK,ah,pN]
def Eg(x:cj):Bool:=aj x.2.2.2.2.2.2.1 0&&aj x.2.2.2.2.2.2.2.1 0&&!x.2.2.2.2.2.2.2.2.1&&!x.2.2.2.2.2.2.2.2.2.1
theorem auj(x:cj):Fh x=ab (Eg x):=by
 unfold Fh Eg;simp only[cK,ah]
def Ej(x:cj):Bool:=cY x.2.2.2.2.2.2.2.2.2.2.1&&aj x.2.2.2.2.2.2.2.2.2.2.2.1 0&&cY x.2.2.2.2.2.2.2.2.2.2.2.2.1&&cY x.2.2.2.2.2.2.2.2.2.2.2.2.2.2.1
theorem aul(x:cj):Fj x=ab (Ej x):=by
 unfold Fj Ej;simp only[cK,ah,pN]
def rZ(x:cj):Bool:=bif aj x.2.1 1 then(Ej x&&xf x.2.2.2.2.2.2.2.2.2.2.2.2.2.1)&&Eh x else bif aj x.2.1 2 then Eg x&&Eh x else Eg x&&(Ej x&&xf x.2.2.2.2.2.2.2.2.2.2.2.2.2.1)
theorem ajE(x:cj):JW x=ab (rZ x):=by
 unfold JW rZ;simp only[cK,ah,pN,afv,aaa];unfold Ej Eh Eg;cases aj x.2.1 1<;>cases aj x.2.1 2<;>rfl
def xK(k:Int):Bool:=aj k 1||aj k 2
theorem afa(k:Int):Em k=ab (xK k):=by unfold Em;rw[cI,ah];rfl
theorem aeS(k:Int):Fl k=ab (xK k):=by unfold Fl;rw[cI,ah];rfl
theorem Ky{α:Type}(l:List α):ak 0 (l.length:Int)= !cY l:=by
 cases l
 .rfl
 rename_i a l;rw[bg (by rw[fH];omega)];rfl
def tU(x:cj):Bool:=bif cY x.2.2.2.2.1 then aj x.2.2.2.2.2.1 0 else xK x.2.2.2.2.2.1
theorem aun(x:cj):Fk x=ab (tU x&&rZ x):=by
 unfold Fk rZ;simp only[aeS,aul,aeN,auk,auj,cK,cI,ah,pN,Ky];unfold tU;cases cY x.2.2.2.2.1<;>cases aj x.2.2.2.2.2.1 0<;>cases xK x.2.2.2.2.2.1<;>cases aj x.2.1 1<;>cases aj x.2.1 2<;>simp[yd]
def nW(x:ph):Bool:=ai x.1 x.2.2.2.1&&ai x.2.1 x.2.2.2.1&&ai x.2.2.1 x.2.2.2.1
theorem aur(x:ph):K6 x=ab (nW x):=by
 unfold K6 nW;simp only[cK,ah]
theorem min_eq(a b:Int):aj (bif ai a b then a else b) a=ai a b:=by
 by_cases h:a<=b
 .rw [bS h,ao,cM rfl]
 rw[di,aw,bQ]
theorem atN(x:ph):Hs x=ab (nW x):=by
 unfold Hs Oq nW;rw[ah];show ab (aj (bif ai x.1 x.2.2.2.1 then x.1 else x.2.2.2.1) x.1&&(aj (bif ai x.2.1 x.2.2.2.1 then x.2.1 else x.2.2.2.1) x.2.1&&(aj (bif ai x.2.2.1 x.2.2.2.1 then x.2.2.1 else x.2.2.2.1) x.2.2.1&&(aj (bif ai x.2.2.2.1 x.2.2.2.1 then x.2.2.2.1 else x.2.2.2.1) x.2.2.2.1&&ag))))=_;rw[min_eq,min_eq,min_eq,min_eq,bS (cf _)];simp[yd]
def Uu(a b:Int):Bool:=(ai 1 a&&ai a 4096)&&(ai 1 b&&ai b 4096)&&ai (w (a*b)) 65536
def sq(x:nC):Bool:=Uu x.1 x.2.1&&aj (x.2.2.1.length:Int) (w (x.1*x.2.1))&&x.2.2.1.all nW
theorem nT(a b:Int):ak a b= !ai b a:=by
 by_cases h:a< b
 .rw [bg h,di h];rfl
 rw[bc,bS];rfl
theorem Z9{x:nC}(I:x.2.2.1.length<=big):DM x=ab (sq x):=by
 unfold DM IL;simp only[cK,cI,ah,nT 65536];unfold sq Uu;have A:aA (IK x) ((0,()),(),())=ab (x.2.2.1.all nW):=by
  refine(rT x.2.2.1 nW af ag (λi hi=>?_) ?_).trans (by cases x.2.2.1.all nW<;>rfl)
  .unfold IK Qo;dsimp only;rw[bg,ao,cO hi,atN,ah,ah,au (by unfold big at I;omega) (by unfold big at I;omega),bS]
   cases nW x.2.2.1[i]<;>rfl
  unfold IK;dsimp only;rw[bc];rfl
 rw[A];cases(ai 1 x.1&&ai x.1 4096)<;>cases(ai 1 x.2.1&&ai x.2.1 4096)<;>cases ai (w (x.1*x.2.1)) 65536<;>cases aj (x.2.2.1.length:Int) (w (x.1*x.2.1))<;>rfl
theorem aeL{x:nC}(I:x.2.2.1.length<=big):Ff x=ab (sq x):=by
 unfold Ff Tt;simp only[cK,cI,ah];unfold sq Uu;have A:aA (K7 x) ((0,()),(),())=ab (x.2.2.1.all nW):=by
  refine(rT x.2.2.1 nW af ag (λi hi=>?_) ?_).trans (by cases x.2.2.1.all nW<;>rfl)
  .unfold K7;dsimp only;rw[bg,ao,cO hi,aur,ah,au (by unfold big at I;omega) (by unfold big at I;omega)]
   cases nW x.2.2.1[i]<;>rfl
  unfold K7;dsimp only;rw[bc];rfl
 rw[A];cases ai 1 x.1<;>cases ai x.1 4096<;>cases ai 1 x.2.1<;>cases ai x.2.1 4096<;>cases ai (w (x.1*x.2.1)) 65536<;>cases aj (x.2.2.1.length:Int) (w (x.1*x.2.1))<;>rfl
end
section
def gr:Int->List pg->Bool
 |_,[]=>ag
 |p,y::l=>ai p y.1&&ai y.1 65536&&gr y.1 l
def pI(x:List pg):Bool:=(ai 1 (x.length:Int)&&ai (x.length:Int) 16)&&gr 0 x
theorem Y2{x:List pg}(A:x.length<=big):∀(k i:Nat) (p:Int),i+k=x.length->aA (Ds x) ((p,(i:Int),()),(),())=ab (gr p (x.drop i))
 |0,i,p,J=>by
  refine cQ ?_;unfold Ds;dsimp only;rw[bc,gZ (by omega)];rfl
 |k+1,i,p,J=>by
  have hi:i< x.length:=by omega
  have e:Ds x ((p,(i:Int),()),(),())=bif ai p x[i].1&&ai x[i].1 65536 then ab (.inl ((x[i].1,((i+1:Nat):Int),()),(),()))else ab (.inr af):=by
   unfold Ds;dsimp only;rw[bg,ao,cO hi,cI,ah,au (by unfold big at A;omega) (by unfold big at A;omega),nT,nT 65536]
   cases ai p x[i].1<;>cases ai x[i].1 65536<;>rfl
  rw[il hi];show _=ab (ai p x[i].1&&ai x[i].1 65536&&gr x[i].1 (x.drop (i+1)));cases I:ai p x[i].1&&ai x[i].1 65536 with
  |true=>rw[I,ao]at e;rw[eY e,kV];exact Y2 A k (i+1) _ (by omega)
  |false=>rw[I,aw]at e;rw[cQ e];rfl
theorem amp{x:List pg}(A:x.length<=big):Ip x=ab (pI x):=by
 unfold Ip pI;rw[cI,ah,nT,nT 16,show((0:Int),(0:Int),())=((0:Int),((0:Nat):Int),())from rfl,Y2 A x.length 0 0 (by omega)]
 cases ai 1 (x.length:Int)<;>cases ai (x.length:Int) 16<;>rfl
def qT(x:List pg)(i:Nat):Int:=if i=0 then 0 else(match x[i-1]? with|some s=>s.1|none=>0)
theorem aeK{x:List pg}(A:x.length<=big):∀(k i:Nat),i+k=x.length->0<=qT x i->aA (Fe x) (((i:Int),()),(),())=ab (gr (qT x i) (x.drop i)&&(ai 1 (x.length:Int)&&ai (x.length:Int) 16))
 |0,i,Z,_=>by
  refine cQ ?_;unfold Fe;dsimp only;rw[bc,gZ (by omega),aw,cK];rfl
 |k+1,i,Z,hp=>by
  have hi:i< x.length:=by omega
  have e:Fe x (((i:Int),()),(),())=bif ai (qT x i) x[i].1&&ai x[i].1 65536 then ab (.inl ((((i+1:Nat):Int),()),(),()))else ab (.inr af):=by
   unfold Fe;dsimp only;rw[bg,ao,cO hi,cO hi,cI,ah,au (n:=(i:Int)+1) (by unfold big at A;omega) (by unfold big at A;omega),nT 65536]
   by_cases U:i=0
   .subst U;rw[bc (x:=0) (y:=((0:Nat):Int)),rU,ah,cI,ah,nT];show(bif !ai 0 x[0].1||!ai x[0].1 65536||false then ay af else aB ((((0:Nat):Int)+1,()),(),()))=bif ai 0 x[0].1&&_ then _ else _
    cases ai 0 x[0].1<;>cases ai x[0].1 65536<;>rfl
   have h1:i-1< x.length:=by omega
   have I:qT x i=x[i-1].1:=by unfold qT;rw[ax U,gA h1]
   rw[I]at hp|-;rw[bg (x:=0) (y:=(i:Int)),ow,au (n:=(i:Int)-1) (by unfold big at A;omega) (by unfold big at A;omega),cO hi,show(i:Int)-1=((i-1:Nat):Int) by omega,cO h1,ah,cI,ah,nT x[i].1 x[i-1].1]
   cases a:ai x[i-1].1 x[i].1
   .rw [n8,fN,F9];rfl
   rw[l5,decide_eq_true_eq]at a;rw[bc (x:=x[i].1) (y:=0)];cases ai x[i].1 65536<;>rfl
  rw[il hi];show _=ab ((ai (qT x i) x[i].1&&ai x[i].1 65536&&gr x[i].1 (x.drop (i+1)))&&_);cases J:ai (qT x i) x[i].1&&ai x[i].1 65536 with
  |true=>
   rw[J,ao]at e;rw[eY e,kV];have I:qT x (i+1)=x[i].1:=by unfold qT;rw[ax (by omega),Gq,gA hi]
   rw[aM,l5,decide_eq_true_eq]at J;rw[<-I];exact aeK A k (i+1) (by omega) (by rw[I];omega)
  |false=>rw[J,aw]at e;rw[cQ e];rfl
theorem aug{x:List pg}(A:x.length<=big):Fc x=ab (pI x):=by
 unfold Fc pI;rw[show((0:Int),())=(((0:Nat):Int),())from rfl,aeK A x.length 0 (by omega) (by unfold qT;rw[aK rfl];omega),ag3]
 rfl
def oY(k:Int):Bool:=ai 1 k&&ai k 3
theorem af0(k:Int):EG k=ab (oY k):=by unfold EG;rw[cK,ah];rfl
theorem auz(k:Int):A4 k=ab (oY k):=by unfold A4;rw[cK,ah];rfl
theorem avV{x:eS}(h:x.2.2.2.2.2.1.length<=big):EH x=ab (pI x.2.2.2.2.2.1&&oY x.2.2.2.2.2.2.1):=by
 unfold EH;rw[amp h,ah,af0,ah,cK,ah]
theorem Mo:dK wide zA:=by
 have z:bp wide ((af,[],()),(af,[],()),()):=⟨⟨λ_ h=>(by cases h),bI _⟩,⟨λ_ h=>(by cases h),bI _⟩⟩
 exact⟨z,z,z,z,z,z⟩
def c0(x:lO):Bool:=cu LZ x (0,0,0,0,())
def je(x:aJ):Bool:=cu aZ x (0,0,())
def BD(t:bN):Bool:=wa (av t) (av zA)
theorem alw(t:Af):wa t t=ag:=by unfold wa;simp
theorem zz:tJ zA zA=ab ag:=by rw[Wd Mo Mo,alw]
theorem ajD{t:bN}(h:dK wide t):tJ t zA=ab (BD t):=Wd h Mo
theorem aub{t:bN}(h:dK wide t):A2 t zA=ab (BD t):=at7 h Mo
theorem avg{t:bN}(h:dK wide t):Tu t=ab (BD t):=by
 show(A2 t zA).bind _=_;rw[aub h,ah]
def nI(t:Af):Bool:=decide (t.a*t.d-t.b*t.c=0)
theorem ak7{t:Af}(h:AS wide t):QS (4*wide+1) (t.a*t.d-t.b*t.c):=jx (aen (pV h.1 h.2.2.2.1) (pV h.2.1 h.2.2.1))
theorem HB{x:bN}(h:dK wide x):bp mid (nq ((av x).a*(av x).d-(av x).b*(av x).c)):=(fo (ak7 (rW h (by unfold wide;omega)))).mono (by unfold wide mid;omega)
theorem awV:bp mid ((af,[],()),(af,[],()),()):=⟨⟨λ_ h=>(by cases h),bI _⟩,⟨λ_ h=>(by cases h),bI _⟩⟩
theorem atX:qv ((af,[],()),(af,[],()),())=0:=by
 have:dv []=0:=by first|rfl|simp[dv]
 unfold qv;simp[zv,vN,this]
theorem RV:bp mid (nq ((0:Int):Rat)):=(fo (AU)).mono (by unfold mid;omega)
theorem ak6{x:bN}(h:dK wide x):((y6 x).bind λA=>(cV A ((af,[],()),(af,[],()),())).bind λI=>ab !aj I 0)=ab (!nI (av x)):=by
 rw[XJ h,ah,sI (HB h) awV,ah,iB,CW,atX];rfl
theorem awT{x:bN}(h:dK wide x):J1 x=ab (nI (av x)):=by
 unfold J1;rw[XJ h,ah,xq,ah,sI (HB h) RV,ah,iB,iB,CW];rfl
theorem aue{x:bN}(h:dK wide x):((xA x).bind λA=>(oR 0).bind λI=>(xw A I).bind λJ=>ab !aj J 0)=ab (!nI (av x)):=by
 rw[aeJ h,ah,TD,ah,aeQ (HB h) RV,ah,iB,iB,CW];rfl
theorem EE(k:Int)(c:lO)(p q:aJ)(r:Int)(s:List pg)(sp:Int)(i:nC)(sm:Int):
  pQ (k,c,p,q,r,s,sp,i,sm,zA,()) (k,(0,0,0,0,()),(0,0,()),(0,0,()),0,[],0,(0,0,[],()),0,zA,())=ab (c0 c&&je p&&je q&&aj r 0&&aj sp 0&&aj sm 0&&cY s&&kN i):=by
 unfold pQ;dsimp only;simp only[cK,ah,alz,aaa,zz,tf,cM rfl,kV];rfl
def hasB(x:eS):Bool:=
 bif aj x.1 1 then(je x.2.2.1&&je x.2.2.2.1&&aj x.2.2.2.2.1 0&&cY x.2.2.2.2.2.1)&&(kN x.2.2.2.2.2.2.2.1&&aj x.2.2.2.2.2.2.2.2.1 0)&&aj x.2.2.2.2.2.2.1 0&&BD x.2.2.2.2.2.2.2.2.2.1
 else bif aj x.1 2 then(kN x.2.2.2.2.2.2.2.1&&aj x.2.2.2.2.2.2.2.2.1 0)&&c0 x.2.1&&aj x.2.2.2.2.1 0&&br x.2.2.1&&br x.2.2.2.1&&pI x.2.2.2.2.2.1&&oY x.2.2.2.2.2.2.1
 else bif aj x.1 3 then(kN x.2.2.2.2.2.2.2.1&&aj x.2.2.2.2.2.2.2.2.1 0)&&c0 x.2.1&&je x.2.2.2.1&&br x.2.2.1&&ai 1 x.2.2.2.2.1&&ai x.2.2.2.2.1 1048576&&pI x.2.2.2.2.2.1&&oY x.2.2.2.2.2.2.1
 else aj x.1 4&&((je x.2.2.1&&je x.2.2.2.1&&aj x.2.2.2.2.1 0&&cY x.2.2.2.2.2.1)&&c0 x.2.1&&sq x.2.2.2.2.2.2.2.1&&(aj x.2.2.2.2.2.2.1 0||oY x.2.2.2.2.2.2.1)&&(aj x.2.2.2.2.2.2.2.2.1 1||aj x.2.2.2.2.2.2.2.2.1 2))
def oP(x:eS):Bool:=(fp (av x.2.2.2.2.2.2.2.2.2.1)&&hasB x)&&(aj x.1 1||!nI (av x.2.2.2.2.2.2.2.2.2.1))
structure tA(x:eS):Prop where
 t:dK wide x.2.2.2.2.2.2.2.2.2.1
 s:x.2.2.2.2.2.1.length<=big
 i:x.2.2.2.2.2.2.2.1.2.2.1.length<=big
theorem auh{x:eS}(h:tA x):K8 x=ab (hasB x):=by
 unfold K8 hasB K9 Fg;simp only[cK,cI,ah,avg h.t,aeV,aug h.s,auz,aeL h.i,pN];unfold kN;cases aj x.1 1<;>cases aj x.1 2<;>cases aj x.1 3<;>rfl
theorem auo{x:eS}(h:tA x):La x=ab (oP x):=by
 unfold La oP;rw[aeH (h.t.mono (by unfold wide;omega)),ah,auh h,ah,cI,ah,aue h.t,cI,ah]
 cases fp (av x.2.2.2.2.2.2.2.2.2.1)<;>cases hasB x<;>rfl
end
section
def Ih(x:eS):Bool:=
 bif aj x.1 1 then je x.2.2.1&&je x.2.2.2.1&&aj x.2.2.2.2.1 0&&aj x.2.2.2.2.2.2.1 0&&aj x.2.2.2.2.2.2.2.2.1 0&&cY x.2.2.2.2.2.1&&kN x.2.2.2.2.2.2.2.1
 else bif aj x.1 2 then c0 x.2.1&&aj x.2.2.2.2.1 0&&aj x.2.2.2.2.2.2.2.2.1 0&&kN x.2.2.2.2.2.2.2.1
 else bif aj x.1 3 then c0 x.2.1&&je x.2.2.2.1&&aj x.2.2.2.2.2.2.2.2.1 0&&kN x.2.2.2.2.2.2.2.1
 else bif aj x.1 4 then c0 x.2.1&&je x.2.2.1&&je x.2.2.2.1&&aj x.2.2.2.2.1 0&&cY x.2.2.2.2.2.1
 else c0 x.2.1&&je x.2.2.1&&je x.2.2.2.1&&aj x.2.2.2.2.1 0&&aj x.2.2.2.2.2.2.1 0&&aj x.2.2.2.2.2.2.2.2.1 0&&cY x.2.2.2.2.2.1&&kN x.2.2.2.2.2.2.2.1
theorem c00:c0 (0,0,0,0,())=ag:=rfl
theorem adZ:je (0,0,())=ag:=rfl
theorem ass:kN (0,0,[],())=ag:=rfl
theorem Qk:aj 0 0=ag:=rfl
theorem al5(x:eS):((EI x).bind λA=>(pQ A (x.1,(0,0,0,0,()),(0,0,()),(0,0,()),0,[],0,(0,0,[],()),0,zA,())).bind λI=>ab !I)=ab (!Ih x):=by
 unfold EI Ih;cases aj x.1 1
 .cases aj x.1 2
  .cases aj x.1 3
   .cases aj x.1 4
    .show (pQ (x.1,x.2.1,x.2.2.1,x.2.2.2.1,x.2.2.2.2.1,x.2.2.2.2.2.1,x.2.2.2.2.2.2.1,x.2.2.2.2.2.2.2.1,x.2.2.2.2.2.2.2.2.1,zA,()) _).bind _=_;simp[EE]
    show(pQ (x.1,x.2.1,x.2.2.1,x.2.2.2.1,x.2.2.2.2.1,x.2.2.2.2.2.1,0,(0,0,[],()),0,zA,()) _).bind _=_;rw[EE,ass,Qk];simp
   show(pQ (x.1,x.2.1,(0,0,()),x.2.2.2.1,0,[],0,x.2.2.2.2.2.2.2.1,x.2.2.2.2.2.2.2.2.1,zA,()) _).bind _=_;rw[EE,adZ,Qk];simp[ah,tf,ao,aw,cY]
  show(pQ (x.1,x.2.1,(0,0,()),(0,0,()),x.2.2.2.2.1,[],0,x.2.2.2.2.2.2.2.1,x.2.2.2.2.2.2.2.2.1,zA,()) _).bind _=_;rw[EE,adZ,Qk];simp[ah,tf,ao,aw,cY]
 show(pQ (x.1,(0,0,0,0,()),x.2.2.1,x.2.2.2.1,x.2.2.2.2.1,x.2.2.2.2.2.1,x.2.2.2.2.2.2.1,x.2.2.2.2.2.2.2.1,x.2.2.2.2.2.2.2.2.1,zA,()) _).bind _=_;rw[EE,c00];simp only[ah,kV,ao,aw]
theorem kinds(k:Int):(aj k 1=ag/\aj k 2=af/\aj k 3=af/\aj k 4=af)∨(aj k 1=af/\aj k 2=ag/\aj k 3=af/\aj k 4=af)∨(aj k 1=af/\aj k 2=af/\aj k 3=ag/\aj k 4=af)∨
  (aj k 1=af/\aj k 2=af/\aj k 3=af/\aj k 4=ag)∨(aj k 1=af/\aj k 2=af/\aj k 3=af/\aj k 4=af):=by
 by_cases h1:k=1
 .subst h1;trivial
 by_cases h2:k=2
 .subst h2;trivial
 by_cases A:k=3
 .subst A;trivial
 by_cases I:k=4
 .subst I;trivial
 exact .inr (.inr (.inr (.inr ⟨bQ h1,bQ h2,bQ A,bQ I⟩)))
theorem atm{x:eS}(h:tA x):EF x=ab (oP x):=by
 have e:EF x=(ab (fp (av x.2.2.2.2.2.2.2.2.2.1))).bind λJ=>(aV (!J) (ab (!Ih x))).bind λU=>bif U then ab af else bt (bif aj x.1 1 then(ab (BD x.2.2.2.2.2.2.2.2.2.1)).bind λZ=>ay Z else
   bif aj x.1 2 then(bif !br x.2.2.1||!br x.2.2.2.1||!(pI x.2.2.2.2.2.1&&oY x.2.2.2.2.2.2.1)then ay af else aB ((),(),()))
   else bif aj x.1 3 then(bif !br x.2.2.1||!ai 1 x.2.2.2.2.1||!ai x.2.2.2.2.1 1048576||!(pI x.2.2.2.2.2.1&&oY x.2.2.2.2.2.2.1)then ay af else aB ((),(),()))
   else bif aj x.1 4 then(bif !sq x.2.2.2.2.2.2.2.1||(!aj x.2.2.2.2.2.2.1 0&&!oY x.2.2.2.2.2.2.1)||(!aj x.2.2.2.2.2.2.2.2.1 1&&!aj x.2.2.2.2.2.2.2.2.1 2)then ay af else aB ((),(),()))
   else ay af) (λ_=>ab (!nI (av x.2.2.2.2.2.2.2.2.2.1))):=by
  unfold EF;have a:Sx x=λ_=>ab (!nI (av x.2.2.2.2.2.2.2.2.2.1)):=by
   funext s;unfold Sx;exact ak6 h.t
  rw[Cu (h.t.mono (by unfold wide aP;omega)),a]
  show((ab (fp (av x.2.2.2.2.2.2.2.2.2.1))).bind λJ=>(aV (!J) ((EI x).bind λc=>(pQ c (x.1,(0,0,0,0,()),(0,0,()),(0,0,()),0,[],0,(0,0,[],()),0,zA,())).bind λd=>ab !d)).bind λU=>bif U then ab af else bt (bif aj x.1 1 then(tJ x.2.2.2.2.2.2.2.2.2.1 zA).bind λZ=>ay Z else _) _)=_
  rw[al5,ajD h.t];simp only[ah,cI,cK,qa,avV h.s,Z9 h.i,af0,nT x.2.2.2.2.1 1,nT 1048576]
 rw[e];unfold Ih oP hasB;rcases kinds x.1 with⟨k1,k2,A,I⟩|⟨k1,k2,A,I⟩|⟨k1,k2,A,I⟩|⟨k1,k2,A,I⟩|⟨k1,k2,A,I⟩<;>rw[k1,k2,A,I]<;>simp only[ao,aw,vb,BF,n8,kV,ah]
 .cases fp (av x.2.2.2.2.2.2.2.2.2.1)<;>cases je x.2.2.1<;>cases je x.2.2.2.1<;>cases aj x.2.2.2.2.1 0<;>cases aj x.2.2.2.2.2.2.1 0<;>cases aj x.2.2.2.2.2.2.2.2.1 0<;>cases cY x.2.2.2.2.2.1<;>cases kN x.2.2.2.2.2.2.2.1<;>cases BD x.2.2.2.2.2.2.2.2.2.1<;>rfl
 .cases fp (av x.2.2.2.2.2.2.2.2.2.1)<;>cases c0 x.2.1<;>cases aj x.2.2.2.2.1 0<;>cases aj x.2.2.2.2.2.2.2.2.1 0<;>cases kN x.2.2.2.2.2.2.2.1<;>cases br x.2.2.1<;>cases br x.2.2.2.1<;>cases pI x.2.2.2.2.2.1<;>cases oY x.2.2.2.2.2.2.1<;>first|rfl|(cases nI (av x.2.2.2.2.2.2.2.2.2.1)<;>rfl)
 .cases fp (av x.2.2.2.2.2.2.2.2.2.1)<;>cases c0 x.2.1<;>cases je x.2.2.2.1<;>cases aj x.2.2.2.2.2.2.2.2.1 0<;>cases kN x.2.2.2.2.2.2.2.1<;>cases br x.2.2.1<;>cases ai 1 x.2.2.2.2.1<;>cases ai x.2.2.2.2.1 1048576<;>cases pI x.2.2.2.2.2.1<;>cases oY x.2.2.2.2.2.2.1<;>first|rfl|(cases nI (av x.2.2.2.2.2.2.2.2.2.1)<;>rfl)
 .cases fp (av x.2.2.2.2.2.2.2.2.2.1)<;>cases c0 x.2.1<;>cases je x.2.2.1<;>cases je x.2.2.2.1<;>cases aj x.2.2.2.2.1 0<;>cases cY x.2.2.2.2.2.1<;>cases sq x.2.2.2.2.2.2.2.1<;>first|rfl|(cases aj x.2.2.2.2.2.2.1 0<;>cases oY x.2.2.2.2.2.2.1<;>cases aj x.2.2.2.2.2.2.2.2.1 1<;>cases aj x.2.2.2.2.2.2.2.2.1 2<;>cases nI (av x.2.2.2.2.2.2.2.2.2.1)<;>rfl)
 rw[Bool.and_false,n8];cases(!fp (av x.2.2.2.2.2.2.2.2.2.1))<;>first|rfl|(rw[cI,ah];generalize(_||_:Bool)=b;cases b<;>rfl)
end
section
def wE(b:Bool)(c:Int):List (Nat×Int):=bif b then[(169,c)]else[]
theorem Mf(b:Bool)(c:Int):jV b c=ab (wE b c):=by
 grind[jV,wE]
def fE:List (List (Nat×Int))->List (Nat×Int)
 |[]=>[]
 |y::l=>bif cY y then fE l else(169,0)::y
theorem YM{x:List (List (Nat×Int))}(A:x.length<=big):∀(k i:Nat),i+k=x.length->aA (El x) (((i:Int),()),(),())=ab (fE (x.drop i))
 |0,i,J=>by
  refine cQ ?_;unfold El;dsimp only;rw[bc,gZ (by omega)];rfl
 |k+1,i,J=>by
  have hi:i< x.length:=by omega
  have e:El x (((i),()),(),())=bif cY x[i]then ab (.inl ((((i+1:Nat)),()),(),()))else ab (.inr ((169,0)::x[i])):=by
   unfold El;dsimp only;rw[bg,ao,cO hi,au (by omega) (by unfold big at A;omega)]
   cases cY x[i]<;>rfl
  rw[il hi];show _=ab (bif cY x[i]then fE (x.drop (i+1))else(169,0)::x[i]);cases I:cY x[i]<;>first|rw[I,ao]at e;rw[eY e,ao];exact YM A k (i+1) (by omega)|rw[I,aw]at e;rw[cQ e];rfl
theorem Pa{x:List (List (Nat×Int))}(A:x.length<=big):Ek x=ab (fE x):=YM A x.length 0 (by omega)
inductive E3:List (Nat×Int)->Int->Prop
 |no:E3 [] 0
 |one (c:Int):E3 [(169,c)] c
 |two (c:Int):E3 [(169,0),(169,c)] c
theorem Xs{e:List (Nat×Int)}{c:Int}(h:E3 e c):acH ((e,()),(),())=ab c:=by
 cases h with
 |no=>exact cQ rfl
 |one c=>exact(eY (by rfl)).trans (cQ rfl)
 |two c=>exact(eY (by rfl)).trans ((eY (by rfl)).trans (cQ rfl))
def fC:List (Bool×Int)->Int
 |[]=>0
 |(b,c)::l=>bif b then c else fC l
def sA(l:List (Bool×Int)):Bool:=l.all λp=>!p.1
theorem HX:∀(l:List (Bool×Int)),E3 (fE (l.map λp=>wE p.1 p.2)) (fC l)/\cY (fE (l.map λp=>wE p.1 p.2))=sA l
 |[]=>⟨.no,rfl⟩
 |(b,c)::l=>by
  cases b<;>first|exact⟨.two c,rfl⟩|exact HX l
theorem acJ:∀{l:List (Bool×Int)},(∀p∈l,p.2≠0)->sA l=af->fC l≠0
 |[],_,h=>by cases h
 |(b,c)::l,A,h=>by
  cases b<;>first|exact acJ (l:=l) (λp hp=>A p (ff _ hp)) h|exact A (ag,c) (eA ..)
structure tz(x:cj):Prop where
 t:dK wide x.2.2.2.1
 f:∀p∈x.2.2.2.2.2.2.2.2.2.2.2.2.1,tA p
 s:∀p∈x.2.2.2.2.2.2.2.2.2.2.2.2.2.2.1,tA p
 fl:x.2.2.2.2.2.2.2.2.2.2.2.2.1.length<=big
 sl:x.2.2.2.2.2.2.2.2.2.2.2.2.2.2.1.length<=big
 d:x.2.2.2.2.2.2.2.2.2.2.2.2.2.1.2.2.2.2.1.length<=big
 i:x.2.2.2.2.2.2.2.2.2.2.2.2.2.2.2.1.2.2.1.length<=big
theorem abR{l:List eS}(A:l.length<=big)(h:∀p∈l,tA p):JY l=ab (l.all oP):=by
 refine(rT l oP af ag (λi hi=>?_) ?_).trans (by simp)
 .unfold RP RQ;dsimp only;rw[bg,cO hi,atm (h _ (g7 hi)),au (by omega) (by unfold big at A;omega)]
  cases oP l[i]<;>rfl
 unfold RP;dsimp only;rw[bc];rfl
theorem aeM{l:List eS}(A:l.length<=big)(h:∀p∈l,tA p):Ld l=ab (l.all oP):=by
 refine(rT l oP af ag (λi hi=>?_) ?_).trans (by simp)
 .unfold Tw;dsimp only;rw[bg,cO hi,auo (h _ (g7 hi)),au (by omega) (by unfold big at A;omega)]
  cases oP l[i]<;>rfl
 unfold Tw;dsimp only;rw[bc];rfl
def pB(x:List cr):Bool:=aj (qz x).1 0
def LK(x:cj):List (Bool×Int):=
 [(!pB x.2.2.2.2.2.2.2.2.2.2.1,10),(!xK x.2.2.2.2.2.2.2.2.2.2.2.1,2),(ak 1 (x.2.2.2.2.2.2.2.2.2.2.2.2.1.length:Int)||ak 1 (x.2.2.2.2.2.2.2.2.2.2.2.2.2.2.1.length:Int),5),
  (!cY x.2.2.2.2.2.2.2.2.2.2.2.2.2.2.1&&!EL x.2.2.2.2.2.2.2.2.2.2.2.2.2.1,13),(cY x.2.2.2.2.2.2.2.2.2.2.2.2.2.2.1&&!xf x.2.2.2.2.2.2.2.2.2.2.2.2.2.1,17),
  (!x.2.2.2.2.2.2.2.2.2.2.2.2.1.all oP||!x.2.2.2.2.2.2.2.2.2.2.2.2.2.2.1.all oP,16)]
def qA(x:cj):List (Bool×Int):=
 [(ak x.2.1 1||ak 3 x.2.1,2),(ak x.1 1||ak 1073741824 x.1||ak x.2.2.1 0||ai 8 x.2.2.1,6),(!fp (av x.2.2.2.1),5),(nI (av x.2.2.2.1),9),(!pB x.2.2.2.2.1,10),(!(tU x&&rZ x),17)]
def Qp(x:cj):List (Bool×Int):=[(!sq x.2.2.2.2.2.2.2.2.2.2.2.2.2.2.2.1,16),(!aj x.2.2.2.2.2.2.2.2.2.2.2.2.2.2.2.2.1 1&&!aj x.2.2.2.2.2.2.2.2.2.2.2.2.2.2.2.2.1 2,2)]
def w8(k:Int):Bool:=ai 1 k&&ai k 13
def Ew(x:cj):Int:=bif aj x.2.1 1 then(bif !w8 x.2.2.2.2.2.2.2.1 then 2 else 0)else bif aj x.2.1 2 then fC (LK x)else fC (Qp x)
def ia(x:cj):Int:=bif sA (qA x)then Ew x else fC (qA x)
theorem avv{x:cj}(h:tz x):J0 x=ab (fE ((LK x).map λp=>wE p.1 p.2)):=by
 unfold J0;simp[Kr,afa,Mf,abR h.fl h.f,abR h.sl h.s,atq h.d,afv,cI,cK,ah,Ky,U2];rw[Pa (by simp[big])]
 rfl
theorem akK{x:cj}(h:tz x):JX x=ab (fE ((qA x).map λp=>wE p.1 p.2)):=by
 unfold JX;simp only[afa,Mf,Cu (h.t.mono (by simp[wide,aP])),awT h.t,Kr,ajE,cI,cK,ah,Ky,pN]
 rw[Pa (by simp[big])]
 have A:(!(cY x.2.2.2.2.1&&aj x.2.2.2.2.2.1 0||!cY x.2.2.2.2.1&&xK x.2.2.2.2.2.1)||!rZ x)= !(tU x&&rZ x):=by
  grind[tU]
 rw[A];rfl
theorem asZ{x:cj}(h:tz x):∃e,JZ x=ab e/\E3 e (Ew x):=by
 unfold JZ Ew;cases aj x.2.1 1 with
 |true=>
  unfold NX;simp only[cK,Mf];refine⟨_,rfl,?_⟩;show E3 (wE (!w8 x.2.2.2.2.2.2.2.1) 2) (bif !w8 x.2.2.2.2.2.2.2.1 then 2 else 0);cases w8 x.2.2.2.2.2.2.2.1
  .exact .one 2
  exact .no
 |false=>
  cases aj x.2.1 2 with
  |true=>
   rw[avv h];exact⟨_,rfl,(HX _).1⟩
  |false=>
   simp[Z9 h.i,Mf,cK,ah];rw[Pa (by simp[big])]
   exact⟨_,rfl,(HX (Qp x)).1⟩
theorem asu{x:cj}(h:tz x):JV x=ab (ia x):=by
 unfold JV ia;rw[akK h,ah];obtain⟨h1,h2⟩:=HX (qA x);rw[h2];cases I:sA (qA x)with
 |true=>
  obtain⟨e,he,A⟩:=asZ h;rw[ao,he,ah];exact Xs A
 |false=>
  exact Xs h1
theorem auy{x:cj}(h:tz x):Lc x=ab (fC (LK x)):=by
 unfold Lc;simp only[aeP,aeS,aeM h.fl h.f,aeM h.sl h.s,auq h.d,aeN,cI,cK,ah,Ky,pN];unfold LK fC fC fC fC fC fC fC;show(bif !pB x.2.2.2.2.2.2.2.2.2.2.1 then ab 10 else _)=_;grind
theorem aum{x:cj}(h:tz x):Lb x=ab (ia x):=by
 unfold Lb;have A:Tv x=λ_=>ab (Ew x):=by
  funext s;unfold Tv Ew Ts;rw[auy h,aeL h.i];simp only[cK,ah];cases k1:aj x.2.1 1 with
  |true=>
   have k2:aj x.2.1 2=af:=by
    rw[fB,decide_eq_true_eq]at k1;exact bQ
   rw[k2,aw,ao,ao];show(bif !w8 x.2.2.2.2.2.2.2.1 then ab 2 else ab 0)=ab (bif !w8 x.2.2.2.2.2.2.2.1 then 2 else 0);cases w8 x.2.2.2.2.2.2.2.1<;>rfl
  |false=>
   rw[aw,aw];cases aj x.2.1 2 with
   |true=>rfl
   |false=>
    rw[aw,aw];unfold Qp fC fC fC;cases sq x.2.2.2.2.2.2.2.2.2.2.2.2.2.2.2.1<;>cases(!aj x.2.2.2.2.2.2.2.2.2.2.2.2.2.2.2.2.1 1&&!aj x.2.2.2.2.2.2.2.2.2.2.2.2.2.2.2.2.1 2)<;>rfl
 rw[A];have I:∀{β:Type} (k:Bool->Option β),((xA x.2.2.2.1).bind λJ=>(oR 0).bind λU=>(xw J U).bind λZ=>k (aj Z 0))=k (nI (av x.2.2.2.1)):=λk=>by
  rw[aeJ h.t,ah,TD,ah,aeQ (HB h.t) RV,ah,iB,iB,CW];rfl
 rw[I (λb=>bif b then(ay 9:Option ((Unit×Unit×Unit)⊕Int))else(A3 x.2.2.2.2.1).bind λa=>bif !a then ay 10 else(Fk x).bind λc=>bif !c then ay 17 else aB ((),(),()))];simp only[aeH (h.t.mono (by unfold wide;omega)),aeP,aun,cI,ah]
 unfold ia qA sA fC fC fC fC fC fC fC;simp only[vj,List.all_nil,tf];show bt (bif ak x.2.1 1||ak 3 x.2.1 then _ else bif ak x.1 1||ak 1073741824 x.1||ak x.2.2.1 0||ai 8 x.2.2.1 then _ else bif !fp (av x.2.2.2.1)then _ else bif nI (av x.2.2.2.1)then _ else bif !pB x.2.2.2.2.1 then _ else bif !(tU x&&rZ x)then _ else _) _=_
 generalize(ak x.2.1 1||ak 3 x.2.1)=d
 generalize(ak x.1 1||ak 1073741824 x.1||ak x.2.2.1 0||ai 8 x.2.2.1)=e
 generalize(!fp (av x.2.2.2.1))=f;generalize nI (av x.2.2.2.1)=g;generalize(!pB x.2.2.2.2.1)=j;generalize(!(tU x&&rZ x))=l;cases d<;>first|rfl|(cases e<;>first|rfl|(cases f<;>first|rfl|(cases g<;>first|rfl|(cases j<;>first|rfl|(cases l<;>rfl)))))
end
section
theorem ar0 l k n:lz (jU l k ag) n af=(aj n k||lz l n af):=by
 induction l with
 |nil=>
  rfl
 |cons e l ih=>
  have I:jU (e::l) k _=bif aj k _ then(k,ag)::l else e::jU l k _:=rfl;have A:∀a r,lz (a::r) n _=bif aj n _ then a.2 else lz r n af:=λ_ _=>rfl
  rw[I];by_cases h:k=e.1
  .rw [cM h,A];grind
  rw[bQ h,aw,A,A,ih];by_cases h2:n=e.1
  .rw [cM h2,bQ];rfl
  simp[bQ,h2]
def vY:(Int->Bool)->Int->Nat->List cj->aJ
 |_,_,_,[]=>(0,0,())
 |seen,A,i,n::l=>bif !aj (ia n) 0 then(ia n,i,())else bif seen n.1 then(7,i,())else bif ak A n.2.2.1 then(17,i,())else
   vY (λk=>aj k n.1||seen k) (bif aj n.2.1 1 then n.2.2.1+1 else n.2.2.1) (i+1) l
theorem Ob seen A i n l:vY seen A i (n::l)=bif !aj (ia n) 0 then(ia n,(i:Int),())else bif seen n.1 then(7,(i),())else bif ak A n.2.2.1 then(17,(i),())else
   vY (λk=>aj k n.1||seen k) (bif aj n.2.1 1 then n.2.2.1+1 else n.2.2.1) (i+1) l:=rfl
def zq(x:cz):=ak x.1 1||ak 256 x.1||ak x.2.1 1||ak 256 x.2.1
def Bd(x:cz):aJ:=bif zq x then(6,0,())else bif ak 64 x.2.2.2.1.length then(5,64,())else vY (λ_=>af) 0 0 x.2.2.2.1
def gF(x:cz):=∀n∈x.2.2.2.1,tz n
theorem acf{x:cj}(h:ia x=0):sA (qA x)=ag:=by
 unfold ia at h;cases A:sA _ with
 |true=>rfl
 |false=>
  rw[A]at h;exact absurd h (acJ λp hp=>by
   simp[qA]at hp;grind A)
theorem JP{x:cj}(h:ia x=0):0<=x.2.2.1/\x.2.2.1< 8:=by
 have:=acf h;unfold sA qA at this;grind[mO,decide_eq_false_iff_not,l5]
theorem afx{x:cz}(h:gF x)(J:x.2.2.2.1.length<=64):∀k i A m,i+k=x.2.2.2.1.length->
  aA (FG x) ((A,(i),()),(m,()),())=ab (vY (λn=>lz m n af) A i (x.2.2.2.1.drop i))
 |0,i,A,m,U=>by
  refine cQ ?_;unfold FG;dsimp only;rw[bc,gZ (by omega)];rfl
 |k+1,i,A,m,U=>by
  have hi:i< x.2.2.2.1.length:=by omega
  have e:FG x ((A,(i),()),(m,()),())=bif !aj (ia x.2.2.2.1[i]) 0 then ay (ia x.2.2.2.1[i],(i:Int),())else bif lz m x.2.2.2.1[i].1 af then ay (7,(i),())else bif ak A x.2.2.2.1[i].2.2.1 then ay (17,(i),())else
    aB ((bif aj x.2.2.2.1[i].2.1 1 then w (x.2.2.2.1[i].2.2.1+1)else x.2.2.2.1[i].2.2.1,((i+1:Nat):Int),()),(jU m x.2.2.2.1[i].1 ag,()),()):=by
   unfold FG;dsimp only;rw[bg,ao,cO hi,asu (h _ (g7 hi)),ah,au (n:=(i)+1)];grind
  rw[il hi,Ob];cases h1:aj _ 0 with
  |false=>rw[h1]at e;rw[cQ e];rfl
  |true=>
   rw[h1,b9,aw]at e;rw[b9,aw];cases h2:lz m _ _ with
   |true=>rw[h2]at e;rw[cQ e];rfl
   |false=>
    rw[h2,aw]at e;rw[aw];cases I:ak A _ with
    |true=>rw[I]at e;rw[cQ e];rfl
    |false=>
     rw[I,aw]at e;rw[aw,eY e,afx h J k _ _ _ (by omega)]
     congr 2
     .funext n;exact ar0 m _ n
     rw[fB,decide_eq_true_eq]at h1;have:=JP h1;rw[au]
theorem avm{x:cz}(h:gF x):LF x=ab (Bd x):=by
 unfold LF Bd;simp[cI];show(bif zq x then _ else _)=_;cases zq x with
 |true=>rfl
 |false=>
  cases A:ak 64 (x.2.2.2.1.length)<;>first|rfl|rw[mO,decide_eq_false_iff_not]at A;exact afx h (by omega) x.2.2.2.1.length 0 0 [] (by omega)
theorem YL{l:List cj}(A:l.length<=big) y:∀k i,i+k=l.length->∃v,aA (Fo l y) (((i),()),(),())=ab v/\ai 0 v=(l.drop i).any λn=>aj n.1 y
 |0,i,I=>by
  refine⟨-1,cQ ?_,?_⟩
  .unfold Fo;dsimp only;rw[bc];rfl
  rw[gZ (by omega)];rfl
 |k+1,i,I=>by
  have hi:i< l.length:=by omega
  rw[il hi,ahU];have e:Fo l y ((i,()),(),())=bif aj l[i].1 y then ay (i:Int)else aB (((i+1:Int),()),(),()):=by
   unfold Fo;dsimp only;rw[bg,cO hi,au (by omega) (by unfold big at A;omega)];rfl
  cases h1:aj _ y<;>first|rw[h1,aw]at e;obtain⟨v,a,b⟩:=YL A y k (i+1) (by omega);exact⟨v,(eY e).trans a,b⟩|rw[h1]at e;exact⟨_,cQ e,bS⟩
theorem alY{l:List cj}(A:l.length<=big) y:∃v,Tx l y=ab v/\ai 0 v=l.any λn=>aj n.1 y:=YL A y l.length 0 (by omega)
def mS(l:List cj)(i:Nat):Int:=if i=0 then 0 else match l[i-1]? with|some n=>bif aj n.2.1 1 then n.2.2.1+1 else n.2.2.1|none=>0
theorem auA{l:List cj}(J:l.length<=big){i:Nat} hi(A:∀j,(U:j< l.length)->j<=i->ia l[j]=0):Lg l (i)=ab !ak (mS l i) l[i].2.2.1:=by
 have Z:=JP (A i hi (aL _));unfold Lg mS;by_cases I:i=0
 .subst I;rw[cM,cO hi];by_cases h:l[0].2.2.1=0
  .rw [cM h,bc];rfl
  rw[bQ h,bg];rfl
 have h1:i-1< l.length:=by omega
 have hp:=JP (A _ h1 (by omega))
 rw[bQ,aw,au (n:=(i)-1) (by omega) (by unfold big at J;omega),show(i)-1=((i-1:Nat):Int) by omega,cO h1,cO hi,cO h1,cK,ah,cO hi,cO h1,cI,ax I,gA h1,au]
 dsimp only;cases aj _ 1 with
 |true=>
  rw[ao];by_cases h:l[i].2.2.1=l[i-1].2.2.1+1
  .rw [cM h,bc];rfl
  rw[bQ h,nT];by_cases h2:l[i].2.2.1<=l[i-1].2.2.1
  .rw [bS h2,bS];rfl
  rw[di,di];rfl
 |false=>rw[aw,n8,BF,nT,U2]
theorem aeT{x:cz}(h:gF x)(b:x.2.2.2.1.length<=64):∀(k i:Nat),i+k=x.2.2.2.1.length->(∀j,(I:j< x.2.2.2.1.length)->j< i->ia x.2.2.2.1[j]=0)->
  aA (Fm x) (((i:Int),()),(),())=ab (vY (λn=>(x.2.2.2.1.take i).any λd=>aj d.1 n) (mS x.2.2.2.1 i) i (x.2.2.2.1.drop i))
 |0,i,c,_=>by
  refine cQ ?_;unfold Fm;dsimp only;rw[bc,gZ (by omega)];rfl
 |k+1,i,c,U=>by
  have hi:i< x.2.2.2.1.length:=by omega
  rw[il hi,Ob];have hw:Fq x.2.2.2.1 (i:Int)=bif !aj (ia x.2.2.2.1[i]) 0 then ab (ia x.2.2.2.1[i])else bif(x.2.2.2.1.take i).any (λd=>aj d.1 x.2.2.2.1[i].1)then ab 7 else bif ak (mS x.2.2.2.1 i) x.2.2.2.1[i].2.2.1 then ab 17 else ab 0:=by
   unfold Fq;rw[cO hi,aum (h _ (g7 hi)),ah];cases h1:aj (ia x.2.2.2.1[i]) 0 with
   |false=>rfl
   |true=>
    rw[fB,decide_eq_true_eq]at h1;rw[b9,aw,aw,cX (by rw[bS,bS];rfl),cO hi,Int.toNat_natCast,Nat.sub_zero,qi]
    obtain⟨v,f,g⟩:=alY (l:=x.2.2.2.1.take i) (by rw[fI];unfold big;omega) x.2.2.2.1[i].1
    rw[f,ah,g,auA (by unfold big;omega) hi (λj I J=>by
     rcases jH j i with A|A
     .exact U j I A
     obtain rfl:j=i:=by omega
     exact h1),ah,U2]
  have e:Fm x (((i:Int),()),(),())=(Fq x.2.2.2.1 (i:Int)).bind λZ=>bif !aj Z 0 then ay (Z,(i:Int),())else aB ((((i+1:Nat):Int),()),(),()):=by
   unfold Fm;dsimp only;rw[bg,ao,au];rfl
  rw[hw]at e;cases h1:aj (ia x.2.2.2.1[i]) 0 with
  |false=>
   rw[h1,fN,ao,ah,h1]at e;rw[cQ e];rfl
  |true=>
   rw[h1,b9,aw]at e;rw[b9,aw];cases h2:(x.2.2.2.1.take i).any (λd=>aj d.1 x.2.2.2.1[i].1)with
   |true=>
    rw[h2,ao,ah]at e;rw[cQ e];rfl
   |false=>
    rw[h2,aw]at e;rw[aw];cases a:ak (mS x.2.2.2.1 i) x.2.2.2.1[i].2.2.1 with
    |true=>rw[a,ao,ah]at e;rw[cQ e];rfl
    |false=>
     rw[a,aw,ah]at e;rw[fB,decide_eq_true_eq]at h1;rw[aw,eY e,aeT h b k (i+1) (by omega) (λj I J=>by
      rcases jH j i with A|A
      .exact U j I A
      obtain rfl:j=i:=by omega
      exact h1)]
     congr 2
     .funext n;rw[VG hi,List.any_append,ahU,List.any_nil,BG,Bool.or_comm];congr 1;by_cases A:x.2.2.2.1[i].1=n
      .rw [cM A,cM A.symm]
      rw[bQ A,bQ (λq=>A q.symm)]
     unfold mS;rw[ax (by omega),Gq,gA hi]
theorem auw{x:cz}(h:gF x):Le x=ab (Bd x):=by
 unfold Le Bd;simp[cI];show(bif zq x then _ else _)=_;cases zq x with
 |true=>rfl
 |false=>
  cases A:ak 64 (x.2.2.2.1.length)<;>first|rw[mO,decide_eq_false_iff_not]at A;refine(aeT h (by omega) x.2.2.2.1.length 0 (by omega) λj _ I=>by omega).trans ?_;rfl|rfl
def vS(x:cz):=aj (Bd x).1 0
theorem UK{x:cz}(h:gF x):Bf x=ab (vS x):=by unfold Bf;rw[avm h];rfl
theorem auB{x:cz}(h:gF x):Lh x=ab (vS x):=by unfold Lh;rw[auw h];rfl
structure SV(l:List cj):Prop where
 n:∀x∈l,ia x=0
 d:∀i,(h:i< l.length)->l[i].2.2.1<=mS l i
theorem W8{x:List cj}:∀k i seen,i+k=x.length->(vY seen (mS x i) i (x.drop i)).1=0->∀j,i<=j->(a:j< x.length)->ia x[j]=0/\x[j].2.2.1<=mS x j
 |0,i,seen,J,_,j,h1,h2=>by omega
 |k+1,i,seen,J,h,j,h1,h2=>by
  have hi:i< x.length:=by omega
  rw[il hi,Ob]at h;cases A:aj (ia x[i]) 0 with
  |false=>
   simp_all[A,fB,h]
  |true=>
   rw[A,b9,aw]at h;cases U:seen x[i].1 with
   |true=>grind
   |false=>
    rw[U,aw]at h;cases I:ak (mS x i) x[i].2.2.1 with
    |true=>grind
    |false=>
     rw[I,aw]at h;rw[fB,decide_eq_true_eq]at A;rw[mO,decide_eq_false_iff_not]at I;rcases jH i j with Z|Z
     .refine W8 k (i+1) (λk=>aj k x[i].1||seen k) (by omega) ?_ j (by omega) h2
      have:mS x (i+1)=bif aj x[i].2.1 1 then x[i].2.2.1+1 else x[i].2.2.1:=by
       unfold mS;grind
      simp[this,h]
     grind
theorem FZ{x:cz}(h:vS x=ag):SV x.2.2.2.1/\x.2.2.2.1.length<=64:=by
 unfold vS Bd at h;cases I:zq x with
 |true=>rw[I]at h;cases h
 |false=>
  rw[I]at h;cases A:ak 64 (x.2.2.2.1.length)<;>first|rw[A,fB,decide_eq_true_eq]at h;rw[mO,decide_eq_false_iff_not]at A;have key:=W8 (x:=x.2.2.2.1) x.2.2.2.1.length 0 (λ_=>af) (by omega) h;refine⟨⟨λn J=>?_,λi hi=>(key i (bI _) hi).2⟩,by omega⟩;obtain⟨i,hi,rfl⟩:=List.getElem_of_mem J;grind|rw[A]at h;cases h
def l6(x:cz)(y:Int):=ai 0 y&&ak y x.2.2.2.1.length
theorem Zb{x:cz}(h:gF x) y:FH x y=ab (l6 x y&&vS x):=by
 unfold FH l6;simp[UK,h,cK]
theorem atu{x:cz}(h:gF x) y:Lf x y=ab (l6 x y&&vS x):=by
 unfold Lf l6;rw[auB h];grind[cK]
end
section
def dp(l:List cj)(i:Nat):Int:=match l[i]? with|some n=>n.2.2.1|none=>0
theorem zt{l:List cj}{i:Nat}(h:i< l.length):dp l i=l[i].2.2.1:=by simp[dp,gA,h]
theorem C8{l:List cj}(A:SV l){i:Nat}(h:i< l.length:=by omega):0<=dp l i/\dp l i< 8:=by
 rw[zt h];exact JP (A.n _ (g7 h))
theorem alk{l:List cj}(A:SV l)(h:0< l.length:=by omega):dp l 0=0:=by
 have:=A.d 0 h;have h2:=C8 A h;rw[zt h]at*;unfold mS at this;omega
theorem alm{l:List cj}(A:SV l){i:Nat}(h:i+1< l.length:=by omega):dp l (i+1)<=dp l i+1:=by
 have:=A.d (i+1) h;have h1:i< l.length:=by omega
 rw[zt h,zt h1];unfold mS at this;grind
theorem agI{l:List cj}(A:SV l){i:Nat}(hi:i< l.length):∀(k:Nat),k<=i->0< dp l i->dp l i<=dp l k->∃j,j< k/\dp l j=dp l i-1
 |0,_,I,J=>by
  rw[alk A]at J;omega
 |k+1,J,I,U=>by
  by_cases h:dp l k=dp l i-1
  .exact ⟨k,by omega,h⟩
  have:=alm A (i:=k);obtain⟨j,h1,h2⟩:=agI A hi k (by omega) I (by omega)
  exact⟨j,by omega,h2⟩
theorem adO{l:List cj}(I:SV l)(U:l.length<=64){i:Nat}(hi:i< l.length):∀(k:Nat),k<=i->∃r:Int,aA (FI l (i:Int)) ((((k:Int)-1),()),(),())=ab r/\((∃j:Nat,r=j/\j< k/\dp l j=dp l i-1)∨(r= -1/\∀j,j< k->dp l j≠dp l i-1))
 |0,_=>⟨-1,cQ (by
   unfold FI;dsimp only;rw[di];rfl),.inr ⟨rfl,λj h=>by omega⟩⟩
 |k+1,f=>by
  have A:k< l.length:=by omega
  have e:FI l (i) (((((k+1:Nat))-1),()),(),())=bif aj (dp l k) (dp l i-1)then ay (k:Int)else aB ((((k:Int)-1),()),(),()):=by
   have g:=C8 I hi;unfold FI;dsimp only;rw[show((k+1:Nat):Int)-1=(k) by omega,bS,ao,cO A,cO hi,<-zt A,<-zt hi,au (n:=dp l i-1),au]
  cases h:aj (dp l k) (dp l i-1)with
  |true=>
   rw[h,ao]at e;rw[fB,decide_eq_true_eq]at h;exact⟨k,cQ e,.inl ⟨k,rfl,by omega,h⟩⟩
  |false=>
   rw[h,aw]at e;rw[fB,decide_eq_false_iff_not]at h;obtain⟨r,Z,d⟩:=adO I U hi k (by omega)
   refine⟨r,(eY e).trans Z,d.imp (λ⟨j,a,b,c⟩=>⟨j,a,by omega,c⟩) λ⟨a,b⟩=>⟨a,λj m=>?_⟩⟩
   rcases jH j k with J|J
   .exact b j J
   obtain rfl:j=k:=by omega
   exact h
theorem atn{l:List cj}(A:SV l)(I:l.length<=64){i:Nat}(hi:i< l.length):∃r:Int,pZ l (i:Int)=ab r/\((dp l i=0/\r= -1)∨(0< dp l i/\∃j:Nat,r=j/\j< i/\dp l j=dp l i-1)):=by
 unfold pZ;rw[au];obtain⟨r,J,U⟩:=adO A I hi i (aL _);refine⟨r,J,?_⟩;have Z:=C8 A hi;rcases U with⟨j,a,b,c⟩|⟨a,b⟩
 .have:=C8 A (i:=j);grind
 rcases Int.lt_or_le 0 (dp l i)with h|h
 .obtain ⟨j,h1,h2⟩:=agI A hi i (aL _) h (cf _);grind
 omega
inductive my(l:List cj):Nat->List Nat->Prop
 |top (i:Nat):i< l.length->dp l i=0->pZ l (i:Int)=ab (-1)->my l i [i]
 |sub (i j:Nat) (L:List Nat):i< l.length->dp l i=dp l j+1->pZ l (i:Int)=ab (j:Int)->my l j L->my l i (L++[i])
theorem Xd{l:List cj}(A:SV l)(I:l.length<=64):∀(i:Nat),i< l.length->∃L,my l i L:=by
 intro i;induction i using Nat.strongRecOn with
 |_ i ih=>
  intro hi;obtain⟨r,h1,h2⟩:=atn A I hi;rcases h2 with⟨a,rfl⟩|⟨a,j,rfl,b,c⟩
  .exact ⟨[i],.top i hi a h1⟩
  obtain⟨L,J⟩:=ih j b (by omega)
  exact⟨L++[i],.sub i j L hi (by omega) h1 J⟩
theorem CS{l:List cj}{i:Nat}{L:List Nat}(h:my l i L):(L.length:Int)=dp l i+1/\(∀k∈L,k< l.length):=by
 induction h with
 |top i hi A _=>grind
 |sub i j L hi A _ _ ih=>
  grind
def ints(L:List Nat):List Int:=L.map λ(n:Nat)=>(n:Int)
theorem anH(a b:List Nat):ints (a++b)=ints a++ints b:=mu
theorem aaw(L:List Nat):(ints L).length=L.length:=gf ..
theorem Ho{l:List cj}{i:Nat}{L:List Nat}(h:my l i L):i< l.length:=by cases h<;>assumption
theorem Hn{l:List cj}(A:SV l){i:Nat}{L:List Nat}(h:my l i L):1<=L.length/\L.length<=8:=by
 have h1:=(CS h).1;have h2:=C8 A (Ho h);omega
theorem ajj{x:cz}{i:Nat}{L:List Nat}(h:my x.2.2.2.1 i L):∀(A:List Int),A.length+L.length<=900->aA (Be x) ((A,(i:Int),()),(),())=ab (ints L++A):=by
 have step:∀(i:Nat) (A:List Int) (r:Int),A.length<=1000->pZ x.2.2.2.1 (i:Int)=ab r->Be x ((A,(i:Int),()),(),())=aB (((i:Int)::A,r,()),(),()):=λi A r I J=>by
  unfold Be;dsimp only;rw[bS,ao,cX (jX (by simp;omega) (by simp;omega)),J,ah];rfl
 have stop:∀(A:List Int),Be x ((A,-1,()),(),())=ay A:=λA=>by
  unfold Be;dsimp only;rfl
 induction h with
 |top i hi U hp=>
  intro A I;rw[eY (step i A _ (by omega) hp),cQ (stop _)];rfl
 |sub i j L hi U hp _ ih=>
  intro A I;rw[eY (step i A _ (by omega) hp),ih _ (by grind),anH,mr];rfl
theorem ajk{x:cz}(h:gF x)(y:Int):(l6 x y&&vS x)=ag->∃(i:Nat) (L:List Nat),y=i/\my x.2.2.2.1 i L/\LD x y=ab (ints L):=λA=>by
 have I:=A;rw[aM]at A;obtain⟨h1,h2⟩:=A;obtain⟨Z,J⟩:=FZ h2;unfold l6 at h1;rw[aM,l5,mO,decide_eq_true_eq,decide_eq_true_eq]at h1;obtain⟨i,rfl⟩:=Int.eq_ofNat_of_zero_le h1.1;have hi:i< x.2.2.2.1.length:=by omega
 obtain⟨L,U⟩:=Xd Z J i hi;have a:=Hn Z U;refine⟨i,L,rfl,U,?_⟩;unfold LD;rw[Zb h,I,ah,b9,aw,ajj U [] (by simp;omega),nu]
theorem ato{x:cz}(h:gF x)(y:Int):LG x y=bif l6 x y&&vS x then pZ x.2.2.2.1 y else ab (-1):=by
 unfold LG;rw[Zb h];grind
theorem aup{x:cz}(h:gF x)(y:Int):Fp x y=bif l6 x y&&vS x then pZ x.2.2.2.1 y else ab (-1):=by
 unfold Fp;rw[atu h,ah];cases(l6 x y&&vS x)
 .rfl
 rw[b9,NV];rfl
end
section
def o6(l:List cj)(i:Nat):bN:=match l[i]? with|some n=>n.2.2.2.1|none=>zA
theorem agv{l:List cj}{i:Nat}(h:i< l.length):o6 l i=l[i].2.2.2.1:=by simp[o6,gA,h]
def F5(l:List cj)(L:List Nat):bN×Int×Unit:=xj (chain mN ((L.reverse.map (o6 l)).map av))
theorem aac{x:cz}{i:Nat}(h:i< x.2.2.2.1.length):l6 x (i:Int)=ag:=by
 unfold l6;rw[bg];rfl
theorem agx{x:cz}(h:gF x){L:List Nat}(A:∀k∈L,k< x.2.2.2.1.length):∀t∈(L.map (o6 x.2.2.2.1)),dK wide t:=λt J=>by
 obtain⟨k,I,rfl⟩:=kj.1 J;rw[agv (A k I)];exact(h _ (g7 (A k I))).t
theorem awP{x:cz}(h:gF x)(a:vS x=ag){i:Nat}{L:List Nat}(b:my x.2.2.2.1 i L):∀(A:List bN),A.length+L.length<=900->(∀t∈A,dK wide t)->
  aA (zF x) (((i:Int),A,()),(),())=ab (xj (chain mN ((A++L.reverse.map (o6 x.2.2.2.1)).map av))):=by
 have step:∀(i:Nat) (A:List bN) (r:Int),i< x.2.2.2.1.length->A.length<=900->pZ x.2.2.2.1 (i:Int)=ab r->zF x (((i:Int),A,()),(),())=aB ((r,A++[o6 x.2.2.2.1 i],()),(),()):=λi A r hi Z c=>by
  unfold zF;dsimp only;rw[bS,ao,cO hi,cX (jX (by simp;omega) (by simp;omega)),ato h,aac hi,a,kV,ao,c,ah,agv hi];rfl
 have stop:∀(A:List bN),A.length<=950->(∀t∈A,dK wide t)->zF x ((-1,A,()),(),())=ay (xj (chain mN (A.map av))):=λA Z J=>by
  unfold zF;dsimp only;rw[di,aw,akN (by omega) J]
  simp
 induction b with
 |top i hi d hp=>
  intro A Z J;have U:∀t∈A++[o6 x.2.2.2.1 i],dK wide t:=λt I=>by
   rcases cE.1 I with I|I<;>try grind
   exact agx h (L:=[i]) (λk J=>by simp at J;omega) t I
  rw[eY (step i A _ hi (by omega) hp),cQ (stop _ (by simp at Z|-;omega) U)];rfl
 |sub i j L hi d hp _ ih=>
  intro A Z J;rw[List.length_append]at Z;have U:∀t∈A++[o6 x.2.2.2.1 i],dK wide t:=λt I=>by
   rcases cE.1 I with I|I
   .exact J t I
   exact agx h (L:=[i]) (λk J=>by simp at J;omega) t I
  rw[eY (step i A _ hi (by omega) hp),ih _ (by simp at Z|-;omega) U,mr]
  first|rfl|(congr 5;simp)
theorem awI{x:cz}(h:gF x){i:Nat}{L:List Nat}(A:vS x=ag)(I:my x.2.2.2.1 i L):Il x (i:Int)=ab (F5 x.2.2.2.1 L):=by
 have hi:=Ho I;have U:=Hn (FZ A).1 I;unfold Il;rw[UK h,A,ah,b9,di];exact awP h A I [] (by simp;omega) (λt J=>by cases J)
theorem aku(t:Af):∀(l:List Af) (s:Af),AS wide s->chain s l=ab t->AS wide t:=by
 intro l;induction l with
 |nil=>
  intro s I e;have e:ab s=ab t:=e;grind
 |cons a l ih=>
  intro s I e;rw[Oc]at e;by_cases A:fp a=ag/\fp (comp s a)=ag
  .rw [aK A]at e;exact ih _ (RW A.2) e
  grind
end
section
def z2:aJ:=(0,0,())
def y7(T:Af):List aJ->List aJ⊕Int
 |[]=>bb []
 |p::l=>bif !aj (ox T p).2.1 0 then cy (ox T p).2.1 else(match y7 T l with|bb q=>bb ((ox T p).1::q)|cy e=>cy e)
def xl(s:cr):List aJ:=[s.2.1,s.2.2.1,s.2.2.2.1].take (nm s.1).toNat
def Mg(k:Int)(l:List aJ):cr:=(k,(l[0]?).getD z2,(l[1]?).getD z2,(l[2]?).getD z2,())
theorem awH(k:Int):∀(l:List aJ),l.length<=3->Sz k l=ab (Mg k l)
 |[],_|[a],_|[a,b],_|[a,b,c],_=>rfl
 |_::_::_::_::_,h=>by simp at h
theorem asq(k:Int):nm k= -1∨nm k=0∨nm k=1∨nm k=2∨nm k=3:=by
 grind[nm]
theorem atx(s:cr):Kv s=ab (xl s):=by
 unfold Kv xl;rw[RL];rcases asq s.1 with h|h|h|h|h<;>rw[h]<;>rfl
def Br(T:Af)(s:cr):cr⊕Int:=match y7 T (xl s)with|bb q=>bb (Mg s.1 q)|cy e=>cy e
def sX(T:Af):List cr->List cr⊕Int
 |[]=>bb []
 |s::l=>match Br T s with
  |cy e=>cy e
  |bb g=>(match sX T l with|bb q=>bb (g::q)|cy e=>cy e)
def Sd(o:List cr⊕Int):List cr×Int×Unit:=match o with|bb q=>(q,0,())|cy e=>([],e,())
theorem agp{y:bN}(U:dK wide y){A:List cr}{J:Int}{s:cr}{aW:List aJ}(hp:aW.length<=3)(Z:A.length<=1000):∀(k i:Nat) (I:List aJ),i+k=aW.length->I.length=i->
  aA (EJ y ((A,J,()),(),()) s aW) ((I,(i:Int),()),(),())=(match y7 (av y) (aW.drop i)with
   |cy e=>ab (cy ([],e,()))
   |bb q=>ab (bb ((A++[Mg s.1 (I++q)],w (J+1),()),(),())))
 |0,i,I,a,b=>by
  rw[gZ (by omega)]
  refine cQ ?_;unfold EJ;dsimp only;rw[bc,aw,awH _ _ (by omega),ah,cX (jX (by simp;omega) (by simp;omega)),nu];rfl
 |k+1,i,I,a,b=>by
  have hi:i< aW.length:=by omega
  rw[il hi];have e:EJ y ((A,J,()),(),()) s aW ((I,(i:Int),()),(),())=bif !aj (ox (av y) aW[i]).2.1 0 then ay (cy ([],(ox (av y) aW[i]).2.1,()))else aB ((I++[(ox (av y) aW[i]).1],((i+1:Nat):Int),()),(),()):=by
   unfold EJ;dsimp only;rw[bg,ao,cO hi,ajb U,ah,cX (jX (by simp;omega) (by simp;omega)),au (n:=(i:Int)+1)];rfl
  show _=(match(bif !aj (ox (av y) aW[i]).2.1 0 then cy (ox (av y) aW[i]).2.1 else(match y7 (av y) (aW.drop (i+1))with|bb q=>bb ((ox (av y) aW[i]).1::q)|cy e=>cy e):List aJ⊕Int)with
   |cy e=>ab (cy ([],e,()))
   |bb q=>ab (bb ((A++[Mg s.1 (I++q)],w (J+1),()),(),())))
  cases h:aj (ox (av y) aW[i]).2.1 0 with
  |false=>rw[h]at e;rw[cQ e];rfl
  |true=>
   rw[h,b9,aw]at e;rw[eY e,agp U hp Z k (i+1) _ (by omega) (by simp;omega),b9,aw]
   cases y7 (av y) (aW.drop (i+1))with
   |inr e=>rfl
   |inl q=>simp
theorem agw{x:List cr}(U:x.length<=256){y:bN}(J:dK wide y):∀(k i:Nat) (A:List cr),i+k=x.length->A.length=i->
  aA (EK x y) ((A,(i:Int),()),(),())=ab (match sX (av y) (x.drop i)with|cy e=>([],e,())|bb q=>(A++q,0,()))
 |0,i,A,Z,a=>by
  refine cQ ?_;unfold EK;dsimp only;rw[bc,gZ (by omega)]
  show _=ab (cy (A++[],0,()));rw[nu];rfl
 |k+1,i,A,Z,a=>by
  have hi:i< x.length:=by omega
  rw[il hi];have I:(xl x[i]).length<=3:=by unfold xl;rw[fI];simp;omega
  have e:EK x y ((A,(i:Int),()),(),())=(match Br (av y) x[i]with|cy e=>ab (cy ([],e,()))|bb g=>ab (bb ((A++[g],((i+1:Nat):Int),()),(),()))):=by
   unfold EK Br;dsimp only;rw[bg,ao,cO hi,atx,ah,show((0:Int))=((0:Nat):Int)from rfl,agp J I (by omega) (xl x[i]).length 0 [] (by omega) rfl,qi]
   cases y7 (av y) (xl x[i])with
   |inr e=>rfl
   |inl q=>
    dsimp only;rw[au,List.nil_append];rfl
  show _=ab (match(match Br (av y) x[i]with
   |cy e=>cy e
   |bb g=>(match sX (av y) (x.drop (i+1))with|bb q=>bb (g::q)|cy e=>cy e):List cr⊕Int)with|cy e=>([],e,())|bb q=>(A++q,0,()))
  cases h:Br (av y) x[i]with
  |inr c=>rw[h]at e;rw[cQ e]
  |inl g=>
   rw[h]at e;rw[eY e,agw U J k (i+1) _ (by omega) (by simp;omega)]
   cases sX (av y) (x.drop (i+1))with
   |inr c=>rfl
   |inl q=>simp only[mr,List.singleton_append]
theorem Ey{x:List cr}(h:pB x=ag):x.length<=256:=by
 unfold pB qz at h;by_cases A:256< x.length
 .rw [aK A]at h;cases h
 omega
def iC(x:List cr)(T:Af):List cr×Int×Unit:=bif !pB x then([],10,())else Sd (sX T x)
theorem awh(x:List cr){y:bN}(A:dK wide y):Kt x y=ab (iC x (av y)):=by
 unfold Kt iC;rw[Kr];show(bif !pB x then _ else _)=_;cases h:pB x with
 |false=>rfl
 |true=>
  refine(agw (Ey h) A x.length 0 [] (by omega) rfl).trans ?_
  grind[Sd]
theorem Xc:∀(l:List cr) (p:Int) (i:Nat),(pt p i l).1=0->∀s∈l,¬nm s.1< 0/\qE s=ag
 |[],_,_,_,s,A=>by cases A
 |a::l,p,i,h,s,A=>by
  rw[Hm]at h;cases hw:aj (gO p a) 0 with
  |false=>
   rw[hw,aw]at h;rw[fB,decide_eq_false_iff_not]at hw;exact absurd h hw
  |true=>
   rw[hw,ao]at h;rcases dy.1 A with rfl|A
   .unfold gO at hw;cases h1:ak (nm s.1) 0 with
    |true=>rw[h1]at hw;cases hw
    |false=>
     rw[h1,aw]at hw;cases h2:(aj s.1 1||(!aj p 5&&(!aj s.1 5||!aj p 1)))with
     |false=>rw[h2]at hw;cases hw
     |true=>
      rw[h2,b9,aw]at hw;cases I:qE s<;>first|rw[mO,decide_eq_false_iff_not]at h1;exact⟨h1,rfl⟩|rw[I]at hw;cases hw
   exact Xc l _ _ h s A
theorem as5{x:List cr}(h:pB x=ag):∀s∈x,¬nm s.1< 0/\qE s=ag:=by
 have A:=Ey h;unfold pB qz at h;rw[ax (by omega),fB,decide_eq_true_eq]at h
 exact Xc x 5 0 h
theorem anJ{p:aJ}(h:lq p=ag):p=z2:=by
 unfold lq at h;rw[aM,aM,fB,fB]at h;obtain⟨A,I,J⟩:=p;simp_all[z2,of_decide_eq_true h.1,of_decide_eq_true h.2.1]
end
section
def rk(t:Int):=ai 1 t&&ai t 256
theorem ags t:(ak t 1||ak 256 t)= !rk t:=by
 simp[rk,nT]
theorem Rw A I:∃r:aJ,aA (Dm A I) ((1,()),(),())=ab r/\(r.2.1=0->1<=r.1/\r.1<=64):=by
 obtain⟨r,e,h⟩:=eW (step:=Dm _ _) (λs=>∃n:Int,s=((n,()),(),())/\1<=n/\n<=65) (λs=>65-s.1.1.toNat) (λr=>r.2.1=0->1<=r.1/\r.1<=64) (by
  rintro _ ⟨n,rfl,h1,h2⟩;unfold Dm;dsimp only;by_cases J:n<=64
  .rw [bS J];cases ai A _<;>first|rw[aw,au];refine .inl ⟨_,rfl,⟨n+1,rfl,by omega,by omega⟩,?_⟩;grind|exact .inr ⟨_,rfl,λ_=>⟨h1,J⟩⟩
  rw[di];exact .inr ⟨_,rfl,λh=>by cases h⟩) _ ⟨1,rfl,by omega,by omega⟩
 exact⟨r,e,h⟩
def Ah(A I:Int):=Classical.choose (Rw A I)
theorem arM A I:aA (Dm A I) ((1,()),(),())=ab (Ah A I):=(ag7 (Rw _ _)).1
theorem arN A I:(Ah A I).2.1=0->1<=(Ah A I).1/\(Ah A I).1<=64:=(ag7 (Rw _ _)).2
def uN(A I:Int)(l:List aJ):aJ:=bif !rk I then(0,2,())else bif !l.all br then(0,6,())else Ah A I
theorem Kw{need xY:Int}{l:List aJ}:(uN need xY l).2.1=0->1<=(uN need xY l).1/\(uN need xY l).1<=64:=by
 unfold uN;cases !rk _
 .cases !l.all _
  .exact arN _ _
  simp
 simp
theorem adU{A I:Int}{l:List aJ}(J:l.length<=big):Dl A I l=ab (uN A I l):=by
 unfold Dl uN;rw[cI,ags];cases !rk _
 .refine (rT l br (0,6,()) (Ah A I) (λi hi=>?_) ?_).trans (by simp)
  .unfold Pf;dsimp only;rw[bg,cO hi,qa,au (by omega) (by unfold big at J;omega)]
   cases br _<;>rfl
  unfold Pf;dsimp only;rw[bc,arM];rfl
 rfl
def xX(a b c:aJ):=w (w (w (w (a.1-w (2*b.1))+c.1)*w (w (a.1-w (2*b.1))+c.1))+w (w (w (a.2.1-w (2*b.2.1))+c.2.1)*w (w (a.2.1-w (2*b.2.1))+c.2.1)))
theorem Uc a b c:Dp a b c=ab (xX a b c):=rfl
def qN(x:aJ×aJ×aJ×Unit)(t:Int):=uN (xX x.1 x.2.1 x.2.2.1) t [x.1,x.2.1,x.2.2.1]
theorem atU x t:Ib x t=ab (qN x t):=by
 unfold Ib;rw[Uc,ah,adU (by simp[big])]
 rfl
def cN(x:aJ×aJ×aJ×aJ×Unit)(t:Int):=uN (w (9*bif ai (xX x.1 x.2.1 x.2.2.1) (xX x.2.1 x.2.2.1 x.2.2.2.1)then xX x.2.1 x.2.2.1 x.2.2.2.1 else xX x.1 x.2.1 x.2.2.1)) t [x.1,x.2.1,x.2.2.1,x.2.2.2.1]
theorem akf x t:H8 x t=ab (cN x t):=by
 unfold H8;rw[Uc,ah,Uc,ah,adU (by simp[big])]
 rfl
theorem JR x{n:Int}(h1:1<=n)(h2:n<=1000000):∃v,pF x n=ab v:=by
 unfold pF;have h:w (2*n)≠0:=by rw[au];omega
 rw[nJ h,nJ h];cases ak _ 0<;>exact⟨_,rfl⟩
def uM(i n:Int):=ai 1 n&&ai n 64&&ai 0 i&&ai i n
theorem JJ{l:List aJ}(A:l.length<=big) i n:Ic l i n=ab (l.all br&&uM i n):=by
 refine(rT l br af (uM i n) (λj I=>?_) ?_).trans (by simp)
 .unfold Pe;dsimp only;rw[bg,cO I,qa,au (by omega) (by unfold big at A;omega)]
  cases br _<;>rfl
 unfold Pe;dsimp only;rw[bc];simp[cK];rfl
theorem Kq{i n:Int}(h:uM i n=ag):1<=n/\n<=64:=by
 simp_all[uM,l5]
theorem FL{n:Int}(h1:1<=n)(h2:n<=64):1<=n*n/\n*n<=4096:=by
 constructor
 .have:=qf h1 h1 (by omega) (by omega);omega
 have:=qf h2 h2 (by omega) (by omega);omega
theorem Xy{n:Int}(h1:1<=n)(h2:n<=64):1<=n*n*n/\n*n*n<=262144:=by
 obtain⟨a,b⟩:=FL h1 h2;constructor
 .have:=qf a h1 (by omega) (by omega);omega
 have:=qf b h2 (by omega) (by omega);omega
theorem atT x i n:∃v,ub x i n=ab v:=by
 have I:[x.1,x.2.1,x.2.2.1].length<=big:=by simp[big]
 unfold ub;rw[JJ I,ah];cases h:(([x.1,x.2.1,x.2.2.1]).all br&&uM i n)<;>first|rw[aM]at h;obtain⟨J,U⟩:=Kq h.2;obtain⟨A,Z⟩:=FL J U;rw[b9,au (n:=n*n)];obtain⟨a,c⟩:=JR (w (w (w (w (w (n-i)*w (n-i))*x.1.1)+w (w (w (2*i)*w (n-i))*x.2.1.1))+w (w (i*i)*x.2.2.1.1))) A (by omega);obtain⟨b,d⟩:=JR (w (w (w (w (w (n-i)*w (n-i))*x.1.2.1)+w (w (w (2*i)*w (n-i))*x.2.1.2.1))+w (w (i*i)*x.2.2.1.2.1))) A (by omega);simp_all|simp
theorem ake x i n:∃v,ua x i n=ab v:=by
 have J:[x.1,x.2.1,x.2.2.1,x.2.2.2.1].length<=big:=by simp[big]
 unfold ua;rw[JJ J,ah];cases h:(([x.1,x.2.1,x.2.2.1,x.2.2.2.1]).all br&&uM i n)<;>first|rw[aM]at h;obtain⟨A,I⟩:=Kq h.2;obtain⟨U,Z⟩:=FL A I;obtain⟨c1,c2⟩:=Xy A I;rw[b9,au (n:=n*n),au (n:=n*n*n)];obtain⟨a,c⟩:=JR (w (w (w (w (w (w (w (n-i)*w (n-i))*w (n-i))*x.1.1)+w (w (w (w (3*i)*w (n-i))*w (n-i))*x.2.1.1))+w (w (w (w (3*i)*i)*w (n-i))*x.2.2.1.1))+w (w (w (i*i)*i)*x.2.2.2.1.1))) c1 (by omega);obtain⟨b,d⟩:=JR (w (w (w (w (w (w (w (n-i)*w (n-i))*w (n-i))*x.1.2.1)+w (w (w (w (3*i)*w (n-i))*w (n-i))*x.2.1.2.1))+w (w (w (w (3*i)*i)*w (n-i))*x.2.2.1.2.1))+w (w (w (i*i)*i)*x.2.2.2.1.2.1))) c1 (by omega);simp_all|simp
def qG(g:Int->aJ)
 |_,0=>[]
 |i,k+1=>g i::qG g (i+1) k
theorem Pj g:∀k i,(qG g i k).length=k
 |0,_=>rfl
 |k+1,i=>by show(qG g _ k).length+1=_;rw[Pj g k]
def gQ(x:aJ×aJ×aJ×Unit)(n i:Int):=(ub x i n).getD z2
def gC(x:aJ×aJ×aJ×aJ×Unit)(n i:Int):=(ua x i n).getD z2
theorem amf x n i:ub x i n=ab (gQ x n i):=by
 obtain⟨v,h2⟩:=atT x i n;simp[gQ,h2]
theorem amd x n i:ua x i n=ab (gC x n i):=by
 obtain⟨v,h2⟩:=ake x i n;simp[gC,h2]
theorem aeo x n(I:n.1<=64):∀(k:Nat) (i:Int) A,i+k=n.1+1->1<=i->A.length<=100->(A.length)<=i->
  aA (Dk x n) ((i,()),(A,()),())=ab (A++qG (gQ x n.1) i k,0,())
 |0,i,A,J,h1,U,Z=>by
  refine cQ ?_;unfold Dk;dsimp only;rw[di];show _=ab (cy (A++[],0,()));rw[nu];rfl
 |k+1,i,A,J,h1,U,Z=>by
  have a:Dk x n ((i,()),(A,()),())=ab (bb ((i+1,()),(A++[gQ x n.1 i],()),())):=by
   unfold Dk;dsimp only;rw[bS,ao,amf x _ i,ah,cX (jX (by simp;omega) (by simp;omega)),au];rfl
  rw[eY a,aeo x n I k _ _ (by omega) (by omega) (by simp;omega) (by simp;omega),mr]
  rfl
theorem XA x n(I:n.1<=64):∀(k:Nat) (i:Int) A,i+k=n.1+1->1<=i->A.length<=100->(A.length)<=i->
  aA (Di x n) ((i,()),(A,()),())=ab (A++qG (gC x n.1) i k,0,())
 |0,i,A,J,h1,U,Z=>by
  refine cQ ?_;unfold Di;dsimp only;rw[di];show _=ab (cy (A++[],0,()));rw[nu];rfl
 |k+1,i,A,J,h1,U,Z=>by
  have a:Di x n ((i,()),(A,()),())=ab (bb ((i+1,()),(A++[gC x n.1 i],()),())):=by
   unfold Di;dsimp only;rw[bS,ao,amd x _ i,ah,cX (jX (by simp;omega) (by simp;omega)),au];rfl
  rw[eY a,XA x n I k _ _ (by omega) (by omega) (by simp;omega) (by simp;omega),mr]
  rfl
def fL p(s:cr) t:=
 bif aj s.1 3 then bif !aj (qN (p,s.2.1,s.2.2.1,()) t).2.1 0 then([],(qN (p,s.2.1,s.2.2.1,()) t).2.1,())else(qG (gQ (p,s.2.1,s.2.2.1,()) (qN (p,s.2.1,s.2.2.1,()) t).1) 1 (qN (p,s.2.1,s.2.2.1,()) t).1.toNat,0,())
 else bif aj s.1 4 then bif !aj (cN (p,s.2.1,s.2.2.1,s.2.2.2.1,()) t).2.1 0 then([],(cN (p,s.2.1,s.2.2.1,s.2.2.2.1,()) t).2.1,())else(qG (gC (p,s.2.1,s.2.2.1,s.2.2.2.1,()) (cN (p,s.2.1,s.2.2.1,s.2.2.2.1,()) t).1) 1 (cN (p,s.2.1,s.2.2.1,s.2.2.2.1,()) t).1.toNat,0,())
 else([s.2.1],0,())
theorem atV x t:Ia x t=ab (bif !aj (qN x t).2.1 0 then([],(qN x t).2.1,())else(qG (gQ x (qN x t).1) 1 (qN x t).1.toNat,0,())):=by
 unfold Ia;rw[atU,ah];cases h:aj (qN x t).2.1 0<;>first|rw[fB,decide_eq_true_eq]at h;obtain⟨A,I⟩:=Kw (need:=xX x.1 x.2.1 x.2.2.1) (xY:=t) (l:=[x.1,x.2.1,x.2.2.1]) h;have A:1<=(qN x t).1:=A;exact aeo x (qN x t) I (qN x t).1.toNat 1 [] (by omega) (by omega) (by simp) (by simp)|rfl
theorem akV x t:H7 x t=ab (bif !aj (cN x t).2.1 0 then([],(cN x t).2.1,())else(qG (gC x (cN x t).1) 1 (cN x t).1.toNat,0,())):=by
 unfold H7;rw[akf,ah];cases h:aj _ 0<;>first|rw[fB,decide_eq_true_eq]at h;have A:=Kw (need:=_) (xY:=t) (l:=[x.1,x.2.1,x.2.2.1,x.2.2.2.1]) (show(cN x t).2.1=0 from h);have I:1<=(cN x t).1:=A.1;exact XA x (cN x t) A.2 _ 1 [] (by omega) (by omega) (by simp) (by simp)|rfl
theorem avo p s t:Ie p s t=ab (fL p s t):=by
 unfold Ie fL;cases aj _ 3 with
 |true=>
  rw[atV _ t];simp
 |false=>
  cases aj s.1 4<;>first|rw[akV _ t];simp|rfl
theorem TZ{p:aJ}{s:cr}{t:Int}(h:(fL p s t).2.1=0):1<=(fL p s t).1.length/\(fL p s t).1.length<=64:=by
 unfold fL at h|-;cases Z:aj _ 3 with
 |true=>
  rw[ao];cases I:aj (qN (p,s.2.1,s.2.2.1,()) t).2.1 0<;>first|rw[fB,decide_eq_true_eq]at I;have A:=Kw (need:=_) (xY:=t) (l:=_) (show(qN (p,s.2.1,s.2.2.1,()) t).2.1=0 from I);have J:1<=(qN (p,s.2.1,s.2.2.1,()) t).1:=A.1;have U:(qN (p,s.2.1,s.2.2.1,()) t).1<=64:=A.2;rw[b9,aw,Pj];omega|simp_all[fB,decide_eq_false_iff_not,absurd,h,I]
 |false=>
  rw[aw];cases a:aj _ 4 with
  |true=>
   rw[ao];cases I:aj (cN (p,s.2.1,s.2.2.1,s.2.2.2.1,()) t).2.1 0<;>first|rw[fB,decide_eq_true_eq]at I;have A:=Kw (need:=_) (xY:=t) (l:=_) (show(cN (p,s.2.1,s.2.2.1,s.2.2.2.1,()) t).2.1=0 from I);have J:1<=(cN (p,s.2.1,s.2.2.1,s.2.2.2.1,()) t).1:=A.1;have U:(cN (p,s.2.1,s.2.2.1,s.2.2.2.1,()) t).1<=64:=A.2;rw[b9,aw,Pj];omega|simp_all[fB,decide_eq_false_iff_not,absurd,h,I]
  |false=>simp
end
section
def nK(a b:aJ):=cu (Ty.st 2 ((Ty.int .i64).cn ((Ty.int .i64).cn Ty.nl))) a b
def e9(l:List aJ):=l[l.length-1]?.getD z2
theorem arO{l:List aJ}(h:0< l.length):l[l.length-1]'(by omega)=e9 l:=by
 grind[e9]
def mG:List aJ->List aJ->List aJ
 |l,[]=>l
 |l,x::m=>bif nK (e9 l) x then mG l m else mG (l++[x]) m
theorem Cq:∀m l,l.length<=(mG l m).length/\(mG l m).length<=l.length+m.length
 |[],l=>⟨aL _,aL _⟩
 |x::m,l=>by
  unfold mG;cases nK _ x with
  |true=>have:=Cq m l;rw[ao,fH];omega
  |false=>
   have:=Cq m (l++[x]);rw[aw,fH];simp at this;omega
def o7(l:List aJ):=bif ak 1 l.length&&nK (e9 l) (l[0]?.getD z2)then l.take (l.length-1)else l
theorem UE l:(o7 l).length<=l.length:=by
 grind[o7]
def lk(t:Int):List fj->List aJ->Bool->List cr->List fj⊕Int
 |pre,aW,cl,[]=>.inl (pre++[(aW,cl,())])
 |pre,aW,cl,s::l=>bif aj s.1 1 then lk t (pre++[(aW,cl,())]) [s.2.1] af l
  else bif !aj s.1 5 then bif !aj (fL (e9 aW) s t).2.1 0 then cy (fL (e9 aW) s t).2.1 else lk t pre (mG aW (fL (e9 aW) s t).1) cl l
  else lk t pre (o7 aW) ag l
def jZ(l:List fj):=(l.map λp=>p.1.length).foldl (· + ·) 0
def AF(o:List fj⊕Int):=match o with
 |.inr e=>([],e,())
 |.inl q=>bif ak 4096 (jZ q)then([],5,())else(q,0,())
theorem QM{β:Type}{l:List aJ}(h:0< l.length)(A:l.length<=100000:=by omega){f:aJ->Option β}:aN l (w ((l.length)-1)) f=f (e9 l):=by
 rw[au,show l.length-1=((l.length-1:Nat):Int) by omega,z5,arO h]
theorem SL{I:((List fj×fj×Unit)×Int×Unit)×Unit×Unit}{A:List aJ×Int×Unit}(hm:A.1.length<=64){pre:List fj}{cl:Bool}:∀k j aW,j+k=A.1.length->0< aW.length->aW.length+k<=30000->
  aA (zE I A) (((j),()),((pre,(aW,cl,()),()),()),())=ab (bb (((pre,(mG aW (A.1.drop j),cl,()),()),w (I.1.2.1+1),()),(),()))
 |0,j,aW,U,hp,Z=>by
  refine cQ ?_;unfold zE;dsimp only;rw[bc,gZ (by omega)];rfl
 |k+1,j,aW,U,hp,Z=>by
  have J:j< A.1.length:=by omega
  rw[il J];show _=ab (bb (((pre,(bif nK _ _ then mG _ _ else mG _ _,cl,()),()),w _,()),(),()));have e:zE I A ((j,()),((pre,(aW,cl,()),()),()),())=ab (bb ((((j+1:Nat):Int),()),((pre,(bif nK (e9 aW) A.1[j]then aW else aW++[A.1[j]],cl,()),()),()),())):=by
   unfold zE;dsimp only;rw[bg,ao,cO J,bQ (x:=aW.length) (y:=0),iU,QM hp,ah,au (n:=j+1)];show(bif !nK _ _ then _ else _)=_;cases nK _ _<;>first|rfl|rw[fN,ao,cX (jX (by simp;omega) (by simp;omega))];rfl
  rw[eY e];cases nK _ _ with
  |true=>exact SL hm k _ aW (by omega) hp (by omega)
  |false=>exact SL hm k _ _ (by omega) (by simp) (by simp;omega)
theorem awe a b:jZ (a++b)=jZ a+jZ b:=by
 unfold jZ;have key:∀(l:List _) n,l.foldl (· + ·) n=n+l.foldl (· + ·) 0:=by
  intro l;induction l with
  |nil=>simp
  |cons a l ih=>grind
 grind
theorem awf{q:List fj}{s4:((List fj×fj×Unit)×Int×Unit)×Unit×Unit}(I:q=cH s4.1.1.1 [(s4.1.1.2.1.1,s4.1.1.2.1.2.1,())])(a:q.length<=100000)(hp:∀p∈q,p.1.length<=100000):∀k i,i+k=q.length->
  aA (Dj s4) (((jZ (q.take i)),(i),()),(),())=ab (AF (bb q)):=by
 have J:∀i,i<=q.length->jZ (q.take i)<=i*100000:=by
  intro i;induction i with
  |zero=>simp[jZ]
  |succ i ih=>
   intro hi;have A:=by omega
   rw[VG A];grind[jZ]
 intro k;induction k with
 |zero=>
  intro i U;refine cQ ?_;unfold Dj;dsimp only;rw[<-I,bc,rF (by omega)]
  show _=ab (cy (bif ak _ (jZ q)then([],5,())else(q,0,())));cases ak _ (jZ q)<;>rfl
 |succ k ih=>
  intro i U;have hi:i< q.length:=by omega
  have h1:=J i (by omega)
  have h2:=hp _ (g7 hi);have e:Dj s4 (((jZ (q.take i)),(i),()),(),())=ab (bb (((jZ (q.take (i+1)):Int),((i+1):Int),()),(),())):=by
   unfold Dj;dsimp only;have Z:jZ (q.take (i+1))=jZ (q.take i)+q[i].1.length:=by
    rw[VG hi,awe];simp[jZ]
   rw[<-I,bg,z5 hi,au (n:=(i)+1),au,Z];rfl
  rw[eY e];grind
theorem H5{x:List cr}(U:x.length<=256)(t:Int):∀(k i:Nat) (pre:List fj) (aW:List aJ) (cl:Bool),i+k=x.length->pre.length<=i->(∀p∈pre,p.1.length<=20000)->0< aW.length->aW.length<=64*i+1->
  aA (qF x t) (((pre,(aW,cl,()),()),(i:Int),()),(),())=ab (AF (lk t pre aW cl (x.drop i)))
 |0,i,pre,aW,cl,g,h1,h2,A,h=>by
  refine cQ ?_;unfold qF;dsimp only;rw[bc,aw,gZ (by omega)]
  have:=awf (q:=pre++[(aW,cl,())]) (s4:=(((pre,(aW,cl,()),()),(i:Int),()),(),())) rfl (by simp;omega) (λp hp=>by
   rcases cE.1 hp with hp|hp
   .have:=h2 p hp;omega
   simp at hp;subst hp;simp;omega) _ 0 (db _)
  rw[show((0:Int),(0:Int),())=(((jZ ((pre++[(aW,cl,())]).take 0):Nat):Int),((0:Nat):Int),())from rfl,this];rfl
 |k+1,i,pre,aW,cl,g,h1,h2,A,h=>by
  have hi:i< x.length:=by omega
  rw[il hi];have I:∀p∈pre++[(aW,cl,())],p.1.length<=20000:=λp hp=>by
   rcases cE.1 hp with hp|hp
   .exact h2 p hp
   simp at hp;subst hp;simp;omega
  show _=ab (AF (bif aj x[i].1 1 then lk t (pre++[(aW,cl,())]) [x[i].2.1] af (x.drop (i+1))
   else bif !aj x[i].1 5 then(bif !aj (fL (e9 aW) x[i] t).2.1 0 then cy (fL (e9 aW) x[i] t).2.1 else lk t pre (mG aW (fL (e9 aW) x[i] t).1) cl (x.drop (i+1)))
   else lk t pre (o7 aW) ag (x.drop (i+1))))
  have Z:∀(f:cr->Option ((((List fj×fj×Unit)×Int×Unit)×Unit×Unit)⊕List fj×Int×Unit)),aQ x (i:Int) f=f x[i]:=λf=>cO hi
  cases hm:aj x[i].1 1 with
  |true=>
   have e:qF x t (((pre,(aW,cl,()),()),(i:Int),()),(),())=ab (bb (((pre++[(aW,cl,())],([x[i].2.1],af,()),()),((i+1:Nat):Int),()),(),())):=by
    unfold qF;dsimp only;rw[bg,ao,Z,hm,ao,cX (jX (by simp[cH];omega) (by simp[cH];omega)),au (n:=(i:Int)+1)];rfl
   rw[eY e,ao];exact H5 U t k (i+1) _ _ _ (by omega) (by simp;omega) I (by simp) (by simp)
  |false=>
   rw[aw];have b:aj (w (((pre.length+1:Nat):Int)-1)) (pre.length:Int)=ag:=by rw[au];exact cM
   cases c:aj x[i].1 5 with
   |false=>
    rw[fN,ao];have e:qF x t (((pre,(aW,cl,()),()),(i:Int),()),(),())=bif !aj (fL (e9 aW) x[i] t).2.1 0 then ab (cy ([],(fL (e9 aW) x[i] t).2.1,()))else aA (zE (((pre,(aW,cl,()),()),(i:Int),()),(),()) (fL (e9 aW) x[i] t)) ((0,()),((pre,(aW,cl,()),()),()),()):=by
     unfold qF;dsimp only;rw[bg,ao,Z,hm,aw,cX b,c,fN,ao,QM A,avo (e9 aW) x[i] t,ah];rfl
    cases J:aj (fL (e9 aW) x[i] t).2.1 0<;>first|rw[J,b9,aw]at e;rw[fB,decide_eq_true_eq]at J;obtain⟨o,j⟩:=TZ J;rw[show((0:Int),())=(((0:Nat):Int),())from rfl,SL j _ 0 aW (db _) A (by omega),qi]at e;have l:=Cq (fL (e9 aW) x[i] t).1 aW;rw[eY e,b9,aw];dsimp only;rw[au];exact H5 U t k (i+1) _ _ _ (by omega) (by omega) h2 (by omega) (by omega)|rw[J]at e;rw[cQ e];rfl
   |true=>
    rw[b9,aw];have m:aW[0]? =ab ((aW[0]?).getD z2):=by rw[gA A];rfl
    have e:qF x t (((pre,(aW,cl,()),()),(i:Int),()),(),())=ab (bb (((pre,(o7 aW,ag,()),()),((i+1:Nat):Int),()),(),())):=by
     unfold qF;dsimp only;rw[bg,ao,Z,hm,aw,cX b,c,b9,aw,QM A,cX (bg),m,ah,cK,ah,au (n:=(i:Int)+1)];show(bif ak 1 (aW.length:Int)&&nK (e9 aW) ((aW[0]?).getD z2)then _ else _)=_;unfold o7;cases d:(ak 1 (aW.length:Int)&&nK (e9 aW) ((aW[0]?).getD z2))with
     |false=>rfl
     |true=>
      rw[ao,ao,au,cX (by rw[bS,bS];rfl),cX (bg),show((aW.length:Int)-1).toNat=aW.length-1 by omega];rfl
    have l:=UE aW;have a:0<(o7 aW).length:=by
     unfold o7;cases d:(ak 1 (aW.length:Int)&&nK (e9 aW) ((aW[0]?).getD z2))with
     |false=>exact A
     |true=>
      rw[aM,mO,decide_eq_true_eq]at d;rw[ao,fI];omega
    rw[eY e];exact H5 U t k (i+1) _ _ _ (by omega) (by omega) h2 a (by omega)
def Ot(t:Int)(out:List fj)(l:List cr):List fj⊕Int:=match l with
 |[]=>.inl out
 |s::l=>lk t out [s.2.1] af l
def ky x t:=bif !pB x then([],10,())else bif !rk t then([],2,())else AF (Ot t [] x)
theorem as4{x:List cr}(h:pB x=ag) A:aj x[0].1 1=ag:=by
 have I:=Ey h;unfold pB qz at h;rw[ax (by omega)]at h
 cases x with
 |nil=>cases A
 |cons s l=>
  rw[Hm]at h;show aj s.1 1=ag;cases hw:aj (gO 5 s) 0 with
  |false=>
   simp_all[fB,h]
  |true=>
   unfold gO at hw;cases h1:ak (nm s.1) 0<;>first|rw[h1]at hw;cases h2:aj s.1 1<;>first|rw[h2]at hw;cases hw|rfl|rw[h1]at hw;cases hw
theorem al3 x t:H9 x t=ab (ky x t):=by
 unfold H9 ky;rw[Kr,cI,ags];show bt (bif !pB x then _ else bif !rk t then _ else _) _=_;cases hp:pB x with
 |false=>rfl
 |true=>
  cases rk t
  .rfl
  unfold YR;cases x<;>first|rename_i s l;have h1:=as4 hp (by simp);have h1:aj s.1 1=ag:=h1;rw[bg (by simp)];show(aT (aj s.1 1) (aA (qF (s::l) t) ((([],([s.2.1],af,()),()),((1:Nat)),()),(),())))=_;rw[cX h1,H5 (Ey hp) t l.length 1 [] _ _ (by grind) (by simp) (λp hp=>by cases hp) (by simp) (by simp)];rfl|exact cQ rfl
end
section
def ja:List fj->List (List aJ)
 |[]=>[]
 |p::l=>bif ai 3 (p.1.length:Int)then p.1::ja l else ja l
theorem Ph{x:List fj}(I:x.length<=100000)(hp:∀p∈x,p.1.length<=1000000):∀(k i:Nat) (A:List (List aJ)),i+k=x.length->A.length<=i->aA (EN x) ((A,(i:Int),()),(),())=ab (A++ja (x.drop i))
 |0,i,A,J,U=>by
  refine cQ ?_;unfold EN;dsimp only;rw[bc,gZ (by omega)]
  show _=ab (cy (A++[]));rw[nu];rfl
 |k+1,i,A,J,U=>by
  have hi:i< x.length:=by omega
  have Z:=hp _ (g7 hi);rw[il hi];show _=ab (A++(bif ai 3 (x[i].1.length)then x[i].1::ja (x.drop (i+1))else ja (x.drop (i+1))));have e:EN x ((A,(i),()),(),())=ab (bb ((bif ai 3 (x[i].1.length)then A++[x[i].1]else A,((i+1:Nat):Int),()),(),())):=by
   unfold EN;dsimp only;rw[bg,ao,cO hi,cX (jX),cX (jX (by simp;omega) (by simp;omega)),au]
   cases ai 3 (x[i].1.length)<;>rfl
  rw[eY e];cases ai 3 (x[i].1.length:Int)<;>first|rw[ao,ao,Ph I hp k (i+1) _ (by omega) (by simp;omega),mr];rfl|exact Ph I hp k (i+1) A (by omega) (by omega)
theorem H3{t:Int}:∀(l:List cr) (pre:List fj) (aW:List aJ) (cl:Bool) (q:List fj),(∀p∈pre,p.1.length<=100000)->aW.length+64*l.length<=30000->lk t pre aW cl l=bb q->q.length<=pre.length+l.length+1/\∀p∈q,p.1.length<=100000
 |[],pre,aW,cl,q,h1,h2,e=>by
  cases e;refine⟨by simp,λp hp=>?_⟩
  rcases cE.1 hp with hp|hp
  .exact h1 p hp
  simp at hp;subst hp;simp at h2|-;omega
 |s::l,pre,aW,cl,q,h1,h2,e=>by
  rw[fH]at h2;have e:(bif aj s.1 1 then lk t (pre++[(aW,cl,())]) [s.2.1] af l
   else bif !aj s.1 5 then(bif !aj (fL (e9 aW) s t).2.1 0 then cy (fL (e9 aW) s t).2.1 else lk t pre (mG aW (fL (e9 aW) s t).1) cl l)
   else lk t pre (o7 aW) ag l)=bb q:=e
  cases hm:aj s.1 1 with
  |true=>
   rw[hm,ao]at e;have:=H3 l _ _ _ q (λp hp=>by
    rcases cE.1 hp with hp|hp
    .exact h1 p hp
    simp at hp;subst hp;simp;omega) (by simp;omega) e
   simp at this|-;exact⟨by omega,this.2⟩
  |false=>
   rw[hm,aw]at e;cases I:aj s.1 5 with
   |true=>
    rw[I,b9,aw]at e;have J:=UE aW;have:=H3 l _ _ _ q h1 (by omega) e
    rw[fH];exact⟨by omega,this.2⟩
   |false=>
    rw[I,fN,ao]at e;cases A:aj (fL (e9 aW) s t).2.1 0<;>first|rw[A,b9,aw]at e;rw[fB,decide_eq_true_eq]at A;have n:=TZ A;have J:=Cq (fL (e9 aW) s t).1 aW;have:=H3 l _ _ _ q h1 (by omega) e;rw[fH];exact⟨by omega,this.2⟩|rw[A]at e;cases e
theorem YP(x:List cr)(t:Int):(ky x t).1.length<=100000/\∀p∈(ky x t).1,p.1.length<=1000000:=by
 unfold ky;cases hp:pB x with
 |false=>simp
 |true=>
  cases rk t
  .simp
  have I:=Ey hp;have key:∀q,Ot t [] x=bb q->q.length<=100000/\∀p∈q,p.1.length<=1000000:=λq A=>by
   cases x
   .cases A;simp
   rename_i s l;rw[fH]at I;have:=H3 l [] [s.2.1] af q (λp h=>by cases h) (by simp;omega) A
   grind
  unfold AF;grind
def pD(x:List cr)(T:Af)(t:Int):List (List aJ)×Int×Unit:=
 bif !aj (iC x T).2.1 0 then([],(iC x T).2.1,())else bif !aj (ky (iC x T).1 t).2.1 0 then([],(ky (iC x T).1 t).2.1,())else(ja (ky (iC x T).1 t).1,0,())
theorem alV(x:List cr){y:bN}(A:dK wide y)(t:Int):Kf x y t=ab (pD x (av y) t):=by
 unfold Kf pD;rw[awh x A,ah];cases aj (iC x (av y)).2.1 0 with
 |false=>rfl
 |true=>
  obtain⟨k1,k2⟩:=YP (iC x (av y)).1 t;rw[b9,al3,ah];rw[show SB (ky (iC x (av y)).1 t).1=ab (ja (ky (iC x (av y)).1 t).1)from Ph k1 k2 _ 0 [] (db _) (bI _)];cases h:aj (ky (iC x (av y)).1 t).2.1 0 with
  |false=>rfl
  |true=>
   simp_all[fB,decide_eq_true_eq,b9,aw,h]
end
section
def jL(x:List (List aJ)):Prop:=x.length<=100000/\∀r∈x,r.length<=1000000
def sH:Nat->List (List aJ)->Bool
 |_,[]=>ag
 |n,r::l=>bif ak 4096 ((n:Int)+r.length)then af else bif r.all br then sH (n+r.length) l else af
theorem SP(n:Nat)(r:List aJ)(l:List (List aJ)):sH n (r::l)=bif ak 4096 ((n:Int)+r.length)then af else bif r.all br then sH (n+r.length) l else af:=rfl
theorem atL{r:List aJ}(I:r.length<=1000000):aA (AM r) ((0,()),(),())=ab (!r.all br):=by
 have key:∀(k i:Nat),i+k=r.length->aA (AM r) (((i:Int),()),(),())=ab (!(r.drop i).all br):=by
  intro k;induction k with
  |zero=>
   intro i A;refine cQ ?_;unfold AM;dsimp only;rw[bc,gZ (by omega)];rfl
  |succ k ih=>
   intro i A;have hi:i< r.length:=by omega
   have e:AM r (((i:Int),()),(),())=bif br r[i]then ab (bb ((((i+1:Nat):Int),()),(),()))else ab (cy ag):=by
    unfold AM SC;dsimp only;rw[bg,ao,cO hi,qa,ah,ah,au,bS];cases br r[i]<;>rfl
   rw[il hi,vj];cases h:br r[i]with
   |true=>rw[h,ao]at e;rw[eY e,kV];exact ih (i+1) (by omega)
   |false=>rw[h,aw]at e;rw[cQ e];rfl
 exact key r.length 0 (by omega)
theorem aeg{x:List (List aJ)}(h:jL x):∀(k i n:Nat),i+k=x.length->n<=4096->aA (ER x) (((n:Int),(i:Int),()),(),())=ab (sH n (x.drop i))
 |0,i,n,A,I=>by
  refine cQ ?_;unfold ER;dsimp only;rw[bc,gZ (by omega)];rfl
 |k+1,i,n,A,I=>by
  have hi:i< x.length:=by omega
  have J:=h.2 _ (g7 hi);have U:=h.1;have e:ER x (((n:Int),(i:Int),()),(),())=bif ak 4096 ((n:Int)+x[i].length)then ab (cy af)else bif x[i].all br then ab (bb (((((n+x[i].length:Nat)):Int),((i+1:Nat):Int),()),(),()))else ab (cy af):=by
   unfold ER;dsimp only;rw[bg,ao,cO hi,atL J,cI,ah,au (n:=(n:Int)+x[i].length),au (n:=(i:Int)+1)];cases ak 4096 ((n:Int)+x[i].length)<;>cases x[i].all br<;>rfl
  rw[il hi,SP];cases h1:ak 4096 ((n:Int)+x[i].length)with
  |true=>rw[h1,ao]at e;rw[cQ e];rfl
  |false=>
   rw[h1,aw]at e;rw[mO,decide_eq_false_iff_not]at h1;rw[aw];cases h2:x[i].all br with
   |true=>rw[h2,ao]at e;rw[eY e,ao];exact aeg h k (i+1) _ (by omega) (by omega)
   |false=>rw[h2,aw]at e;rw[cQ e];rfl
theorem ES{x:List (List aJ)}(h:jL x):sD x=ab (sH 0 x):=aeg h x.length 0 0 (by omega) (by omega)
end
section
theorem YW:∀(l:List fj),(∀p∈l,p.1.length<=1000000)->(ja l).length<=l.length/\∀r∈ja l,r.length<=1000000
 |[],_=>⟨aL _,λr h=>by cases h⟩
 |p::l,h=>by
  have ih:=YW l (λq I=>h q (ff _ I))
  have hp:=h p (eA ..);show(bif ai 3 (p.1.length)then p.1::ja l else ja l).length<=_/\∀r∈(bif ai 3 (p.1.length)then p.1::ja l else ja l),_;cases ai 3 (p.1.length)with
  |true=>
   refine⟨by rw[ao,fH,fH];omega,λr A=>?_⟩
   rw[ao]at A;rcases dy.1 A with rfl|A<;>try trivial
   exact ih.2 r A
  |false=>exact⟨by rw[aw,fH];omega,ih.2⟩
theorem alR(x:List cr)(T:Af)(t:Int):jL (pD x T t).1:=by
 have A:jL []:=⟨by simp,λr h=>by cases h⟩
 unfold pD;cases aj (iC x T).2.1 0 with
 |false=>exact A
 |true=>
  obtain⟨k1,k2⟩:=YP (iC x T).1 t;cases aj (ky (iC x T).1 t).2.1 0<;>first|have:=YW _ k2;exact⟨bX this.1 k1,this.2⟩|exact A
theorem alP{x:List cr}{T:Af}{t:Int}(h:aj (pD x T t).2.1 0=af):(pD x T t).1=[]:=by
 unfold pD at h|-;cases h1:aj (iC x T).2.1 0 with
 |false=>rfl
 |true=>
  cases h2:aj (ky (iC x T).1 t).2.1 0
  .rfl
  exact absurd (cM (x:=0) (y:=0) rfl) (by grind)
theorem anM{β:Type}{L:List Nat}{i:Nat}(h:i< L.length){f:Int->Option β}:aQ (ints L) (i:Int) f=f (L[i]:Int):=by
 rw[cO (by simp[aaw,h])]
 simp[ints,VB]
def FJ(x:bN):Bool:=[x.1,x.2.1,x.2.2.1,x.2.2.2.1,x.2.2.2.2.1,x.2.2.2.2.2.1].all λq=>!(ak 3 (q.1.2.1.length:Int)||ak 3 (q.2.1.2.1.length:Int))
theorem afK(x:bN):D3 x=ab (FJ x):=by
 unfold D3 FJ;refine(rT [x.1,x.2.1,x.2.2.1,x.2.2.2.1,x.2.2.2.2.1,x.2.2.2.2.2.1] (λq=>!(ak 3 (q.1.2.1.length)||ak 3 (q.2.1.2.1.length))) af ag (λi hi=>?_) ?_).trans (by simp)<;>try trivial
 have A:i< 6:=hi;unfold abz;dsimp only;rw[bg,z5 hi,z5 hi,cI,au];cases(ak 3 (([x.1,x.2.1,x.2.2.1,x.2.2.2.1,x.2.2.2.2.1,x.2.2.2.2.2.1][i]).1.2.1.length)||ak 3 (([x.1,x.2.1,x.2.2.1,x.2.2.2.1,x.2.2.2.2.1,x.2.2.2.2.2.1][i]).2.1.2.1.length))<;>rfl
def xT(p:eS):Bool:=!(!FJ p.2.2.2.2.2.2.2.2.2.1||ak 100 (p.2.2.2.2.2.2.2.1.2.2.1.length:Int)||ak 30 (p.2.2.2.2.2.1.length:Int))
theorem avJ{A:(Int×Unit)×Unit×Unit}{l:List eS}(I:l.length<=big):aA (Jo A l) ((0,()),(),())=ab (bif l.all xT then bb ((w (A.1.1+1),()),(),())else cy (cy af)):=by
 refine rT l xT (cy (cy af)) (bb ((w (A.1.1+1),()),(),())) (λi hi=>?_) ?_
 .unfold Jo xT;dsimp only;rw[bg,cO hi,afK,ah,cO hi,cI,ah,cO hi,cI,au (by omega) (by unfold big at I;omega)]
  cases(!FJ l[i].2.2.2.2.2.2.2.2.2.1||ak 100 (l[i].2.2.2.2.2.2.2.1.2.2.1.length)||ak 30 (l[i].2.2.2.2.2.1.length))<;>rfl
 unfold Jo;dsimp only;rw[bc];rfl
end
section
variable [Gh]
def few:Nat:=1048576
theorem alO:few<=wide:=by simp[few,wide]
theorem we:few<=big:=by simp[few,big]
theorem agS{x:DZ}(h:Ty.Ok tZ x)(k:Ty.Sm few tZ x):cP wide x:=by
 obtain⟨_,⟨_,h⟩,_⟩:=h;obtain⟨_,⟨k,_⟩,_⟩:=k;exact⟨λd A=>by
  have:=h d A;obtain⟨a,b⟩:(ahn).min<=d/\d<=(ahn).max:=this;have a:(0)<=d:=a;have b:d<=(4294967295):=b;omega,bX k alO⟩
theorem AR{x:DQ}(h:Ty.Ok tQ x)(k:Ty.Sm few tQ x):bp wide x:=by
 obtain⟨h1,h2,_⟩:=h;obtain⟨k1,k2,_⟩:=k;exact⟨agS h1 k1,agS h2 k2⟩
theorem V8{x:bN}(h:Ty.Ok dE x)(k:Ty.Sm few dE x):dK wide x:=by
 obtain⟨h1,h2,A,I,J,U,_⟩:=h;obtain⟨k1,k2,Z,a,b,c,_⟩:=k;exact⟨AR h1 k1,AR h2 k2,AR A Z,AR I a,AR J b,AR U c⟩
theorem adM{x:eS}(h:Ty.Ok kR x)(k:Ty.Sm few kR x):tA x:=by
 obtain⟨_,_,_,_,_,_,_,_,_,h,_⟩:=h;obtain⟨_,_,_,_,_,⟨k1,_⟩,_,⟨_,_,⟨k2,_⟩,_⟩,_,k,_⟩:=k;exact⟨V8 h k,bX k1 we,bX k2 we⟩
theorem ar9{x:cj}(h:Ty.Ok iW x)(k:Ty.Sm few iW x):tz x:=by
 obtain⟨_,_,_,d,_,_,_,_,_,_,_,_,⟨_,J⟩,e,⟨_,U⟩,f,_,_⟩:=h;obtain⟨_,_,_,g,_,_,_,_,_,_,_,_,⟨Z,A⟩,⟨_,_,_,_,⟨a,_⟩,_,_⟩,⟨b,I⟩,⟨_,_,⟨c,_⟩,_⟩,_,_⟩:=k;exact⟨V8 d g,λp hp=>adM (J p hp) (A p hp),λp hp=>adM (U p hp) (I p hp),bX Z we,bX b we,bX a we,bX c we⟩
theorem aft{x:cz}(h:Ty.Ok gx x)(k:Ty.Sm few gx x):gF x/\x.2.2.2.1.length<=big:=by
 obtain⟨_,_,_,⟨_,h⟩,_⟩:=h;obtain⟨_,_,_,⟨k1,k⟩,_⟩:=k;exact⟨λn A=>ar9 (h n A) (k n A),bX k1 we⟩
end
end Go.Proofs.YtlfolhmfdmcmiaaGreatDoor
end
