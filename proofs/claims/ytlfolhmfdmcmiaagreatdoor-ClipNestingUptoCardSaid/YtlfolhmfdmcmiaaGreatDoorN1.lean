/- A part of the proof. -/
import Derived.Test.YtlfolhmfdmcmiaaGreatDoorT
import Derived.KernelRfl
set_option linter.all false
open Bool renaming and_eq_true->aM,and_true->tf,false->af,not_false->fN,not_true->b9,true->ag
open Go.IntKind renaming bits->Vh,signed->Vk,wrap->Vl
open Int renaming add_mul->gz,add_zero->lK,ediv_lt_of_lt_mul->BP,ediv_nonneg->ve,emod_lt_of_pos->Ge,emod_nonneg->MM,eq_ofNat_of_zero_le->fW,fdiv_eq_ediv_of_nonneg->qd,le_of_lt->ij,le_refl->cf,lt_of_mul_lt_mul_right->Vt,lt_or_le->qe,mul_add->ahE,mul_assoc->jD,mul_comm->vf,mul_ediv_add_emod->Vv,mul_le_mul->qf,mul_le_mul_of_nonneg_left->qg,mul_le_mul_of_nonneg_right->kh,mul_nonneg->oc,mul_right_comm->yq,mul_zero->Vw,natCast_add->Vx,natCast_ediv->Gf,natCast_emod->BQ,natCast_mul->kW,natCast_pow->MO,ofNat->aE,one_mul->od,pow_add->BS,pow_succ->ahN,sub_mul->qh,sub_zero->Vy,tdiv_eq_ediv_of_nonneg->og,tdiv_eq_zero_of_lt->Gi,tmod_eq_emod_of_nonneg->Gj,tmod_eq_of_lt->MP,toNat_natCast->cW,zero_emod->ahR,zero_mul->ik
open List renaming all_eq_true->lL,drop_eq_getElem_cons->il,drop_of_length_le->gZ,drop_zero->qi,getD_eq_getElem?_getD->nv,getElem?_eq_getElem->gB,getElem?_eq_none->jF,length_drop->lM,length_eq_zero_iff->yx,length_replicate->jm,length_set->gg,length_take->fI,mem_append->cE,replicate->bT,take->aY,take_length->VF
open Nat renaming add_sub_cancel->Gq,ble->bw,div_add_mod->Gr,div_eq_of_lt->tm,div_lt_of_lt_mul->MT,div_one->VH,gcd->g8,gcd_comm->MU,gcd_rec->aib,le_mul_of_pos_right->aie,le_of_lt->dk,le_refl->aL,le_trans->bX,log2_lt->aih,lt_or_ge->jH,min_eq_left->nA,mod_eq_of_lt->rG,mod_lt->qk,mul_add_div->vq,mul_add_mod->B0,mul_comm->lN,mul_div_cancel->ail,mul_div_mul_right->aim,mul_le_mul_right->eB,mul_lt_mul_of_pos_right->aio,mul_mod_mul_right->MV,mul_pos->aip,or_comm->ais,pos_of_ne_zero->ait,pow_add->ql,pow_le_pow_right->tp,pow_mul->VL,pow_pos->nB,pow_zero->aiu,shiftLeft_add_eq_or_of_lt->aiv,shiftLeft_eq->aiw,sub_self->VM,zero_div->MX
open Option renaming bind_some->ah,some->ab
open Sum renaming inl->bb,inr->cy
noncomputable section
namespace Go.Nt
open Go.As
def dv:List Int->Int
 |[]=>0
 |d::l=>d+4294967296*dv l
def Dg(l:List Int):Prop:=∀d∈l,0<=d/\d< 4294967296
def Nm(l:List Int):Prop:=l.getLast?≠ab 0
theorem Dg.nil:Dg []:=λ_ h=>by cases h
theorem Dg.cons{d:Int}{l:List Int}(I:0<=d)(h1:d< 4294967296)(h:Dg l):Dg (d::l):=λx A=>by
 rcases List.mem_cons.1 A with rfl|A
 .omega
 exact h x A
theorem Dg.head{d:Int}{l:List Int}(h:Dg (d::l)):0<=d/\d< 4294967296:=h d (List.mem_cons_self ..)
theorem Dg.tail{d:Int}{l:List Int}(h:Dg (d::l)):Dg l:=λx A=>h x (List.mem_cons_of_mem _ A)
theorem Yh:∀{l:List Int},Dg l->0<=dv l
 |[],_=>cf _
 |d::l,h=>by
  have h1:=Yh h.tail;have h2:=h.head;show 0<=d+4294967296*dv l;omega
theorem Nm.nil:Nm []:=by simp[Nm]
theorem Nm.tail{d:Int}{l:List Int}(h:Nm (d::l)):Nm l:=by
 cases l
 .exact Nm.nil
 rename_i e l;trivial
theorem HT:∀{l:List Int},Dg l->Nm l->dv l=0->l=[]
 |[],_,_,_=>rfl
 |d::l,h,A,e=>by
  have h2:=h.head;have e:d+4294967296*dv l=0:=e;have I:=HT h.tail A.tail (by omega)
  subst I;have:d=0:=by omega
  subst this;trivial
theorem Yg:∀{a b:List Int},Dg a->Dg b->Nm a->Nm b->dv a=dv b->a=b
 |[],b,_,A,_,nb,e=>(HT A nb e.symm).symm
 |a,[],I,_,na,_,e=>HT I na e
 |x::a,y::b,I,A,na,nb,e=>by
  have h1:=I.head;have h2:=A.head;have e:x+4294967296*dv a=y+4294967296*dv b:=e;have J:dv a=dv b:=by omega
  have U:x=y:=by omega
  rw[U,Yg I.tail A.tail na.tail nb.tail J]
def wv(l:List Int):Nat->Int
 |0=>0
 |n+1=>wv l n+l.getD n 0*4294967296^n
theorem UW(d:Int)(l:List Int):∀n,wv (d::l) (n+1)=d+4294967296*wv l n
 |0=>by simp[wv]
 |n+1=>by
  show wv (d::l) (n+1)+(d::l).getD (n+1) 0*4294967296^(n+1)=d+4294967296*(wv l n+l.getD n 0*4294967296^n);rw[UW d l n,List.getD_cons_succ,ahN,<-jD];omega
theorem da:∀(l:List Int) (n:Nat),l.length<=n->wv l n=dv l
 |[],n,_=>by
  induction n with
  |zero=>rfl
  |succ n ih=>
   show wv [] n+([]).getD n 0*4294967296^n=0;rw[ih (by simp)];simp[dv]
 |d::l,0,h=>by trivial
 |d::l,n+1,h=>by
  rw[UW,da l n (by simpa using h)];rfl
theorem Mn(l:List Int)(i:Nat)(x:Int):∀n,n<=i->wv (l.set i x) n=wv l n
 |0,_=>rfl
 |n+1,h=>by
  show wv (l.set i x) n+(l.set i x).getD n 0*_=wv l n+l.getD n 0*_;rw[Mn l i x n (by omega),nv,List.getElem?_set,ax (by omega),<-nv]
theorem gS(l:List Int)(i:Nat)(x:Int)(h:i< l.length):(l.set i x).getD i 0=x:=by
 grind
theorem rq(l:List Int)(i:Nat)(x:Int)(h:i< l.length:=by omega):wv (l.set i x) (i+1)=wv l i+x*4294967296^i:=by
 show wv (l.set i x) i+(l.set i x).getD i 0*_=_;rw[Mn l i x i (aL _),gS l i x h]
theorem pw(i:Nat):(4294967296:Int)^(i+1)=4294967296^i*4294967296:=ahN ..
theorem jw(i:Nat):(0:Int)< 4294967296^i:=Int.pow_pos (by omega)
theorem carry{t o c P:Int}(h:t=o+c*4294967296:=by omega):t*P=o*P+c*(P*4294967296):=by
 grind
theorem Dg.set{l:List Int}(h:Dg l){i:Nat}{x:Int}(I:0<=x)(h1:x< 4294967296):Dg (l.set i x):=λy A=>by
 rcases List.mem_or_eq_of_mem_set A with A|rfl
 .exact h y A
 omega
theorem Dg.rep(n:Nat):Dg (bT n 0):=λy A=>by
 grind
theorem Dg.at{l:List Int}(h:Dg l)(i:Nat):0<=l.getD i 0/\l.getD i 0< 4294967296:=by
 rw[nv];cases e:l[i]? with
 |none=>trivial
 |some x=>exact h x (List.mem_of_getElem? e)
def iy:Nat->Nat->List Int
 |0,_=>[]
 |f+1,n=>if n=0 then[]else((n%4294967296:Nat):Int)::iy f (n/4294967296)
def nd(n:Nat):List Int:=iy n n
theorem RM:∀f n,n<=f->dv (iy f n)=(n:Int)
 |0,n,h=>by
  have:n=0:=by omega
  subst this;rfl
 |f+1,n,h=>by
  show dv (if n=0 then[]else((n%4294967296))::iy f (n/4294967296))=_;split
  .rename_i e;subst e;rfl
  show((n%4294967296))+4294967296*dv (iy f (n/4294967296))=_;rw[RM f _ (by omega)]
  omega
theorem acg:∀f n,Dg (iy f n)
 |0,_=>Dg.nil
 |f+1,n=>by
  show Dg (if n=0 then[]else((n%4294967296))::iy f (n/4294967296));split
  .exact Dg.nil
  exact Dg.cons (by omega) (by omega) (acg f _)
theorem aci:∀f n,n<=f->Nm (iy f n)
 |0,_,_=>Nm.nil
 |f+1,n,h=>by
  show Nm (if n=0 then[]else((n%4294967296))::iy f (n/4294967296));split
  .exact Nm.nil
  have ih:=aci f (n/4294967296) (by omega)
  have A:=RM f (n/4294967296) (by omega)
  generalize iy f (n/4294967296)=l at ih A;cases l with
  |nil=>
   have A:(0)=((n/4294967296):Int):=A;grind[Nm]
  |cons d l=>
   trivial
theorem pO(n:Nat):dv (nd n)=(n:Int):=RM n n (aL _)
theorem eH(n:Nat):Dg (nd n):=acg n n
theorem Ar(n:Nat):Nm (nd n):=aci n n (aL _)
def vN(l:List Int):Nat:=(dv l).toNat
theorem dB{l:List Int}(h:Dg l):((vN l:Nat):Int)=dv l:=by
 have:=Yh h;grind[vN]
theorem ack{l:List Int}(h:Dg l)(A:Nm l){n:Nat}(e:dv l=(n:Int)):l=nd n:=Yg h (eH n) A (Ar n) (by rw[e,pO])
theorem gd(n:Nat):vN (nd n)=n:=by simp[vN,pO]
theorem asc:nd 0=[]:=rfl
theorem asb{n:Nat}:nd n=[]↔n=0:=⟨λh=>by
 have:=pO n;rw[h]at this;have:(0:Int)=(n):=this;omega,λh=>by subst h;rfl⟩
theorem ON(a b:List Int):dv (a++b)=dv a+4294967296^a.length*dv b:=by
 induction a with
 |nil=>simp[dv]
 |cons d l ih=>
  show d+4294967296*dv (l++b)=d+4294967296*dv l+4294967296^(l.length+1)*dv b;grind
theorem alo(l:List Int):∀n,n<=l.length->(∀i,n<=i->i< l.length->l.getD i 0=0)->dv (l.take n)=dv l:=by
 induction l with
 |nil=>simp
 |cons d l ih=>
  intro n I A;cases n with
  |zero=>
   have J:=A 0 (by omega) (by simp)
   have:dv l=0:=by
    have:=ih 0 (by omega) λi _ hi=>by
     have:=A (i+1) (by omega) (by simpa using hi)
     trivial
    rw[<-this];rfl
   show(0)=d+4294967296*dv l;grind
  |succ n=>
   show d+4294967296*dv (l.take n)=d+4294967296*dv l;rw[ih n (by simpa using I) λi h1 h2=>by
    have:=A (i+1) (by omega) (by simpa using h2)
    trivial]
theorem aiZ{l:List Int}{n:Nat}(A:n<=l.length)(h:n=0∨l.getD (n-1) 0≠0):Nm (l.take n):=by
 unfold Nm;grind
theorem Dg.take{l:List Int}(h:Dg l)(n:Nat):Dg (l.take n):=λx A=>h x (List.mem_of_mem_take A)
theorem OO:∀n,dv (bT n 0)=0
 |0=>rfl
 |n+1=>by
  show 0+4294967296*dv (bT n 0)=0;rw[OO n];rfl
theorem dW{l:List Int}(h:Dg l):∀n,0<=wv l n/\wv l n< 4294967296^n
 |0=>by simp[wv]
 |n+1=>by
  have h1:=dW h n;have h2:=h.at n;have A:=jw n;have I:=oc h2.1 (ij A);have J:l.getD n 0*4294967296^n<=4294967295*4294967296^n:=kh (by omega) (ij A)
  show 0<=wv l n+l.getD n 0*4294967296^n/\wv l n+l.getD n 0*4294967296^n< 4294967296^(n+1);omega
end Go.Nt
namespace Go.Cc
open Go.As
theorem bg{x y:Int}(h:x< y:=by omega):ak x y=ag:=by simp[mO,decide_eq_true,h]
theorem bc{x y:Int}(h:y<=x:=by omega):ak x y=af:=by rw[mO];grind
theorem bS{x y:Int}(h:x<=y:=by omega):ai x y=ag:=by simp[l5,decide_eq_true,h]
theorem di{x y:Int}(h:y< x:=by omega):ai x y=af:=by rw[l5];grind
theorem cM{x y:Int}(h:x=y:=by omega):aj x y=ag:=by simp[fB,decide_eq_true,h]
theorem bQ{x y:Int}(h:x≠y:=by omega):aj x y=af:=by simp[fB,decide_eq_false,h]
theorem awN(n:Int):wr .u64 n=n%18446744073709551616:=by
 simp[F4,Vl,Vh,Vk]
theorem jC(n:Int):wr .u32 n=n%4294967296:=by
 simp[F4,Vl,Vh,Vk]
theorem UT(n:Int):wr .u8 n=n%256:=by
 simp[F4,Vl,Vh,Vk]
theorem nn{n:Int}(h1:0<=n:=by omega)(h2:n< 4294967296:=by omega):wr .u32 n=n:=by grind[jC]
theorem au{n:Int}(h1:-9223372036854775808<=n:=by omega)(h2:n< 9223372036854775808:=by omega):w n=n:=awM h1 h2
theorem s9(n:Int):wu n=n%18446744073709551616:=awN n
theorem bM{n:Int}(h1:0<=n:=by omega)(h2:n< 18446744073709551616:=by omega):wu n=n:=by grind[s9]
theorem gN{l:List Int}{i:Nat}(h:i< l.length:=by omega):l[i]? =ab (l.getD i 0):=by
 grind
theorem gA{α:Type}{l:List α}{i:Nat}(h:i< l.length):l[i]? =ab l[i]:=gB h
theorem fS{β:Type}{l:List Int}{i:Nat}{f:Int->Option β}(h:i< l.length:=by omega):aQ l (i:Int) f=f (l.getD i 0):=by
 unfold aQ;rw[bS,ao,cW,gN h,ah]
theorem kJ{β:Type}{l:List Int}{i:Nat}{f:Int->Option β}(h:i< l.length:=by omega):aN l (i:Int) f=f (l.getD i 0):=by
 unfold aN;rw[bS,ao,bg (by grind),ao,cW,gN h,ah]
theorem cO{α β:Type}{l:List α}{i:Nat}{f:α->Option β}(h:i< l.length:=by omega):aQ l (i:Int) f=f l[i]:=by
 unfold aQ;rw[bS,ao,cW,gA h,ah]
theorem z5{α β:Type}{l:List α}{i:Nat}{f:α->Option β}(h:i< l.length:=by omega):aN l (i:Int) f=f l[i]:=by
 unfold aN;rw[bS,ao,bg (by grind),ao,cW,gA h,ah]
theorem Ik{β:Type}{r:Option β}:aT ag r=r:=rfl
theorem cX{β:Type}{c:Bool}{r:Option β}(h:c=ag):aT c r=r:=by subst h;rfl
theorem nJ{β:Type}{y:Int}{r:Option β}(h:y≠0:=by omega):kv y r=r:=by simp[kv,bQ,h]
theorem ow{m:Option Bool}:aF ag m=m:=rfl
theorem rU{m:Option Bool}:aF af m=ab af:=rfl
theorem Sc{m:Option Bool}:aV ag m=ab ag:=rfl
theorem iU{m:Option Bool}:aV af m=m:=rfl
theorem cK{a b:Bool}:aF a (ab b)=ab (a&&b):=by cases a<;>rfl
theorem cI{a b:Bool}:aV a (ab b)=ab (a||b):=by cases a<;>rfl
theorem NV{α:Type}(m:Option α):(m.bind λy=>ab y)=m:=by simp
theorem iw{σ ρ:Type}(s:σ)(k:σ->Option ρ):bt (aB s) k=k s:=rfl
theorem fT{σ ρ:Type}(s:σ)(k:σ->Option ρ):bt (ab (.inl s)) k=k s:=rfl
theorem jX{n b:Nat}(h:n*b<=70368744177664:=by omega)(h2:n<=70368744177664:=by omega):bZ n b=ag:=by
 simp[bZ,aM,Nat.ble_eq_true_of_le,h,h2]
theorem mI{α:Type}(a b:List α):cH a b=a++b:=rfl
theorem kx(n:Int):n.fdiv 4294967296=n/4294967296:=qd n (by omega)
theorem O3(n:Int):n.fdiv 9223372036854775808=n/9223372036854775808:=qd n (by omega)
theorem pr(i:Nat):((i+1:Nat):Int)-1=(i:Int):=by omega
theorem p0(i:Nat):(0:Int)<((i+1:Nat):Int):=by omega
theorem nk:(∀x y:Int,x< y->ak x y=ag)/\(∀x y:Int,y<=x->ak x y=af)/\(∀x y:Int,x<=y->ai x y=ag)/\(∀x y:Int,y< x->ai x y=af)/\(∀x y:Int,x=y->aj x y=ag)/\(∀x y:Int,x≠y->aj x y=af)/\
  (∀n:Int,-9223372036854775808<=n->n< 9223372036854775808->w n=n)/\(∀(β:Type) (l:List Int) (i:Nat) (f:Int->Option β),i< l.length->aQ l (i:Int) f=f (l.getD i 0))/\(∀(β:Type) (l:List Int) (i:Nat) (f:Int->Option β),i< l.length->aN l (i:Int) f=f (l.getD i 0))/\
  (∀(β:Type) (r:Option β),aT ag r=r)/\(∀m,aF ag m=m)/\(∀m,aF af m=ab af)/\(∀m,aV ag m=ab ag)/\(∀m,aV af m=m)/\(∀(α:Type) (a b:α),(bif ag then a else b)=a)/\(∀(α:Type) (a b:α),(bif af then a else b)=b)/\
  (∀(α β:Type) (a:α) (f:α->Option β),(ab a).bind f=f a)/\((!true)=af)/\((!false)=ag)/\(∀b,(ag&&b)=b)/\(∀b,(af&&b)=af)/\(∀b,(ag||b)=ag)/\(∀b,(af||b)=b)/\(∀n:Nat,(n:Int).toNat=n)/\(∀i:Nat,((i+1:Nat):Int)-1=(i:Int))/\
  (∀(σ ρ:Type) (s:σ) (k:σ->Option ρ),bt (ab (bb s)) k=k s)/\(∀(σ ρ:Type) (s:σ),(aB s:Option (σ⊕ρ))=ab (bb s))/\(∀(σ ρ:Type) (s:ρ),(ay s:Option (σ⊕ρ))=ab (cy s))/\(∀n b:Nat,n*b<=70368744177664->n<=70368744177664->bZ n b=ag):=
 ⟨λ_ _ h=>bg h,λ_ _ h=>bc h,λ_ _ h=>bS h,λ_ _ h=>di h,λ_ _ h=>cM h,λ_ _ h=>bQ h,λ_ h1 h2=>au h1 h2,λ_ _ _ _ h=>fS h,λ_ _ _ _ h=>kJ h,λ_ _=>rfl,λ_=>rfl,λ_=>rfl,λ_=>rfl,λ_=>rfl,λ_ _ _=>rfl,λ_ _ _=>rfl,λ_ _ _ _=>rfl,rfl,rfl,λ_=>Bool.true_and _,λ_=>Bool.false_and _,λ_=>Bool.true_or _,λ_=>Bool.false_or _,λ_=>cW _,pr,λ_ _ _ _=>rfl,λ_ _ _=>rfl,λ_ _ _=>rfl,λ_ _ h1 h2=>jX h1 h2⟩
end Go.Cc
namespace Go.Nt
section
open Go.As Go.Cc
def tl(l:List Int)
 |0=>0
 |n+1=>if l.getD n 0=0 then tl l n else n+1
theorem gY l:∀n,tl l n<=n
 |0=>aL _
 |n+1=>by
  show(if l.getD n 0=0 then tl l n else n+1)<=n+1;split
  .have:=gY l n;omega
  omega
theorem UB l:∀n i,tl l n<=i->i< n->l.getD i 0=0
 |0,i,_,h=>by omega
 |n+1,i,h1,h2=>by
  have h1:(if l.getD n 0=0 then tl l n else n+1)<=i:=h1;split at h1
  .by_cases e:i=n
   .rw [e];omega
   exact UB l n i h1 (by omega)
  omega
theorem agr l:∀n,tl l n=0∨l.getD (tl l n-1) 0≠0
 |0=>.inl rfl
 |n+1=>by
  show(if l.getD n 0=0 then tl l n else n+1)=0∨l.getD ((if l.getD n 0=0 then tl l n else n+1)-1) 0≠0;split
  .exact agr l n
  grind
def sh(l:List Int):=l.take (tl l l.length)
theorem gX l:dv (sh l)=dv l:=alo l _ (gY l _) λi h1 h2=>UB l _ i h1 h2
theorem n2 l:Nm (sh l):=aiZ (gY l _) (agr l _)
theorem lF{l:List Int}(h:Dg l):Dg (sh l):=h.take _
theorem oX l:(sh l).length=tl l l.length:=by
 unfold sh;rw[fI];exact nA (gY l _)
theorem Bh l:(sh l).length<=l.length:=by rw[oX];exact gY l _
theorem rb{l:List Int}(h:Dg l):sh l=nd (vN l):=ack (lF h) (n2 l) (by rw[gX,dB h])
theorem Bi{l:List Int}(h:Dg l){n:Nat}(e:dv l=(n)):sh l=nd n:=ack (lF h) (n2 l) (by rw[gX,e])
theorem FK l i:(sh l).getD i 0=l.getD i 0:=by
 unfold sh;rw[nv,List.getElem?_take];split
 .rfl
 by_cases hi:i< l.length
 .rw [UB l _ i (by omega) hi];rfl
 grind
theorem u7 l:∀n,wv l n=wv (sh l) n
 |0=>rfl
 |n+1=>by
  show wv l n+l.getD n 0*_=wv _ n+(sh l).getD n 0*_;rw[u7 l n,FK]
def trA{ρ:Type}(l:List Int)(s:(Int×Unit)×Unit×Unit):Option ((Int×Unit)×Unit×Unit⊕(Int×Unit)×Unit×Unit⊕ρ):=
 (aF (ak 0 s.1.1) (aQ l (w (s.1.1-1)) λA=>ab (aj A 0))).bind λI=>bif I then aB ((w (s.1.1-1),()),(),())else ay (bb ((s.1.1,()),(),()))
def trB{ρ:Type}(l:List Int)(s:(Int×Unit)×Unit×Unit):Option ((Int×Unit)×Unit×Unit⊕(Int×Unit)×Unit×Unit⊕ρ):=
 (aF (ak 0 s.1.1) (aN l (w (s.1.1-1)) λA=>ab (aj A 0))).bind λI=>bif I then aB ((w (s.1.1-1),()),(),())else ay (bb ((s.1.1,()),(),()))
theorem o6{ρ:Type}(step:(Int×Unit)×Unit×Unit->Option ((Int×Unit)×Unit×Unit⊕(Int×Unit)×Unit×Unit⊕ρ))(l:List Int)
  (I:step ((0,()),(),())=ab (.inr (.inl ((0,()),(),()))))
  (h1:∀i,i< l.length->step ((((i+1:Nat)),()),(),())=bif aj (l.getD i 0) 0 then ab (.inl (((i),()),(),()))else ab (.inr (.inl ((((i+1:Nat)),()),(),())))):
  ∀n,n<=l.length->aA step (((n),()),(),())=ab (.inl (((tl l n),()),(),()))
 |0,_=>cQ I
 |n+1,h=>by
  have e:=h1 n (by omega)
  by_cases A:l.getD n 0=0
  .rw [cM A]at e;rw[eY e,o6 _ l I h1 n (by omega)]
   show _=ab (bb ((((if l.getD n 0=0 then tl l n else n+1:Nat):Int),()),(),()));rw[aK A]
  rw[bQ A]at e;rw[cQ e];show _=ab (bb ((((if l.getD n 0=0 then tl l n else n+1:Nat):Int),()),(),()));rw[ax A]
theorem o5{ρ:Type} l(h:l.length<=4398046511104):aA (trA (ρ:=ρ) l) (((l.length),()),(),())=ab (.inl (((tl l l.length),()),(),())):=by
 refine o6 _ l ?_ (λi hi=>?_) _ (aL _)
 .rfl
 unfold trA;simp(disch:=omega) only [nk]
theorem rl{ρ:Type} l(h:l.length<=4398046511104):aA (trB (ρ:=ρ) l) (((l.length),()),(),())=ab (.inl (((tl l l.length),()),(),())):=by
 refine o6 _ l ?_ (λi hi=>?_) _ (aL _)
 .rfl
 unfold trB;simp(disch:=omega) only [nk]
theorem iM{α:Type}{n m:Nat}(h:n<=m)(x:Option α):aT (ai 0 (n)&&ai (n) (m)) (aT (ai 0 (n)&&ai (n) (n)) (aT (aj (n) (n)) x))=x:=by
 grind[nk]
end
theorem amh{q A I vr r t J ur P:Int}(Z:0< P)(a:0<=q)(U:0<=vr)(b:ur< P)(c:q*A+r=t)(h:r*4294967296+J< q*I):
  (t*4294967296+J)*P+ur< q*((A*4294967296+I)*P+vr):=by
 have h1:t*4294967296+J+1<=q*(A*4294967296+I):=by
  grind
 have h2:=kh h1 (ij Z);have d:=oc a U;grind
theorem amj{q A I vr r t U ur P:Int}(Z:0< P)(f:0<=q)(a:q< 4294967296)(b:0< A)(c:0<=I)(J:0<=vr)(d:vr< P)(e:0<=ur)(g:q*A+r=t)(h:q*I<=r*4294967296+U):
  (q-1)*((A*4294967296+I)*P+vr)<=(t*4294967296+U)*P+ur:=by
 have h1:q*(A*4294967296+I)<=t*4294967296+U:=by
  grind
 have h2:=kh h1 (ij Z);have i:q*vr<=4294967296*P:=qf (by omega) (by omega) J (by omega)
 have j:4294967296*P<=(A*4294967296+I)*P:=kh (by omega) (ij Z)
 grind
theorem amg{q A r J:Int}(Z:0<=q)(U:q< 4294967296)(I:0<=A)(a:A< 4294967296)(b:0<=J)(c:4294967296<=r):q*A<=r*4294967296+J:=by
 have:q*A<=4294967295*4294967295:=qf (by omega) (by omega) I (by omega)
 omega
theorem ami{v1 v2 vr t u2 ur P:Int}(U:0< P)(A:0< v1)(I:0<=v2)(J:0<=vr)(Z:0<=t)(c:u2< 4294967296)(d:ur< P):
  (t*4294967296+u2)*P+ur<(t/v1+1)*((v1*4294967296+v2)*P+vr):=by
 have e:0<=t/v1:=ve Z (by omega)
 have h1:t+1<=(t/v1+1)*v1:=by
  have a:=Vv t v1;have b:=Ge t A;grind
 have h2:t*4294967296+u2+1<=(t/v1+1)*(v1*4294967296+v2):=by
  have:=oc (by omega) I
  grind
 have f:=kh h2 (ij U);have g:=oc (by omega) J
 grind
theorem awb{lo I J x y q c A P:Int}(h:lo+q*I=J+(c+A)*P):
  lo+(x-(c+q*y)%4294967296-A)%4294967296*P+q*(I+y*P)=J+x*P+((c+q*y)/4294967296+ -((x-(c+q*y)%4294967296-A)/4294967296))*(P*4294967296):=by
 grind
theorem ai8{lo A I x y c P:Int}(h:lo+c*P=I+A):
  lo+(c+(x+y))%4294967296*P+(c+(x+y))/4294967296*(P*4294967296)=I+x*P+(A+y*P):=by
 grind
end Go.Nt
namespace Go.Proofs.YtlfolhmfdmcmiaaGreatDoor
open Go.As Go.Nt Go.Cc
theorem acQ{a:List Int}(h:a.length<=1099511627776):sB a=ab (sh a):=by
 unfold sB;rw[show aA (acO a) _=_ from o5 a (by omega),fT]
 unfold acP;rw[iM (gY a a.length),cX (jX (by grind) (by grind))]
 rfl
theorem J3{a:List Int}(h:a.length<=1099511627776)(A:Dg a):sB a=ab (nd (vN a)):=by rw[acQ h,rb A]
theorem Ii{n:Int}(A:0<=n:=by omega)(h1:n< 18446744073709551616:=by omega):ue n=ab (nd n.toNat):=by
 unfold ue;rw[kx,jC,jC,Int.emod_eq_of_lt (a:=n/4294967296) (by omega) (by omega),acQ (by simp),ah,Bi (n:=n.toNat)]
 .exact Dg.cons (by omega) (by omega) (Dg.cons (by omega) (by omega) Dg.nil)
 show n%4294967296+4294967296*(n/4294967296+4294967296*0)=_;omega
theorem zp{a:List Int}(h:Dg a)(i:Nat):digit a i=ab (a.getD i 0):=by
 unfold digit;have A:=h.at i;by_cases hi:i< a.length
 .rw [bg,ao,fS hi,bM]
 rw[bc,nv,jF (by omega)];rfl
theorem UX(a b:List Int):∀{n i:Nat},i<=n->(∀j,i<=j->j< n->a.getD j 0=b.getD j 0)->wv a n-wv b n=wv a i-wv b i
 |0,i,h,_=>by
  grind
 |n+1,i,h,he=>by
  by_cases hi:i=n+1
  .rw [hi]
  have ih:=UX a b (n:=n) (i:=i) (by omega) λj h1 h2=>he j h1 (by omega)
  show wv a n+a.getD n 0*4294967296^n-(wv b n+b.getD n 0*4294967296^n)=_;grind
theorem Mm{a b:List Int}(A:Dg a)(I:Dg b){i:Nat}(h:a.getD i 0< b.getD i 0):wv a (i+1)< wv b (i+1):=by
 have h1:=dW A i;have h2:=dW I i;have J:(a.getD i 0+1)*4294967296^i<=b.getD i 0*4294967296^i:=kh (by omega) (ij (jw i))
 rw[gz]at J;show wv a i+a.getD i 0*4294967296^i< wv b i+b.getD i 0*4294967296^i;omega
theorem zy{a b:List Int}(I:Dg a)(A:Dg b)(nb:Nm b)(h:a.length< b.length:=by omega):dv a< dv b:=by
 obtain⟨n,J⟩:∃n,b.length=n+1:=⟨b.length-1,by omega⟩
 have h1:=dW I n;rw[da a n (by omega)]at h1
 have h2:=dW A n;have U:=A.at n;have Z:b.getD n 0≠0:=λe=>nb (by
  grind)
 have c:1*4294967296^n<=b.getD n 0*4294967296^n:=kh (by omega) (ij (jw n))
 rw[<-da b (n+1) (by omega)]
 show _< wv b n+b.getD n 0*4294967296^n;omega
def gI(x y:Nat):Int:=if x< y then -1 else if y< x then 1 else 0
theorem Xq{a b:List Int}(A:Dg a)(I:Dg b)(k:a.length<=1099511627776:=by omega)(l:b.length<=1099511627776:=by omega):CX a b=ab (gI (vN a) (vN b)):=by
 have h1:=gY a a.length;have h2:=gY b b.length;have m:=dB A;have n:=dB I;have o:=oX a;have p:=oX b;unfold CX;rw[show aA (Xm a) _=_ from o5 a (by omega),fT]
 unfold Xp;rw[iM h1,show aA (Xn b) _=_ from o5 b (by omega),fT]
 unfold Xo;rw[iM h2];simp only[cW];show(bif !aj ((sh a).length:Int) ((sh b).length:Int)then bif ak ((sh a).length:Int) ((sh b).length:Int)then ab (-1)else ab 1
  else aA (CY a b ((((tl a a.length:Nat):Int),()),(),()) ((((tl b b.length:Nat):Int),()),(),())) ((w (((sh a).length:Int)-1),()),(),()))=_
 by_cases he:(sh a).length=(sh b).length
 .simp (disch:=omega) only [nk];obtain⟨r,e,rfl⟩:=eW (step:=CY a b ((((tl a a.length:Nat):Int),()),(),()) ((((tl b b.length:Nat):Int),()),(),()))
   (λs=>∃i:Nat,s=(((i:Int)-1,()),(),())/\i<=(sh a).length/\∀j,i<=j->j<(sh a).length->a.getD j 0=b.getD j 0) (λs=>(s.1.1+1).toNat) (λr=>r=gI (vN a) (vN b)) (by
   rintro _ ⟨i,rfl,hi,d⟩;have q:=UX a b hi d;have t:wv a (sh a).length=dv a:=by
    rw[<-da (sh a) _ (aL _) |>.trans (gX a)]
    exact u7 a _
   have u:wv b (sh a).length=dv b:=by
    rw[he,<-da (sh b) _ (aL _) |>.trans (gX b)]
    exact u7 b _
   cases i with
   |zero=>
    right;refine⟨_,by rfl,?_⟩
    have:wv a 0=0:=rfl;have:wv b 0=0:=rfl;unfold gI;omega
   |succ i=>
    have f:CY a b ((((tl a a.length:Nat):Int),()),(),()) ((((tl b b.length:Nat):Int),()),(),()) (((((i+1:Nat):Int)-1),()),(),())=bif ak (a.getD i 0) (b.getD i 0)then ab (cy (-1))else bif ak (b.getD i 0) (a.getD i 0)then ab (cy 1)else ab (bb (((i:Int)-1,()),(),())):=by
     unfold CY;simp only[pr,cW];show(bif ai 0 (i:Int)then aQ (sh a) (i:Int) λg=>aQ (sh b) (i:Int) λJ=>bif ak g J then ay (-1)else aQ (sh a) (i:Int) λU=>aQ (sh b) (i:Int) λZ=>bif ak Z U then ay 1 else aB ((w ((i:Int)-1),()),(),())else ay 0)=_
     simp(disch:=omega) only [nk,FK]
    rw[f];by_cases c1:a.getD i 0< b.getD i 0
    .right;have:=Mm A I c1;refine⟨_,by rw[bg c1,ao],?_⟩
     unfold gI;rw[aK (by omega)]
    rw[bc,aw];by_cases c2:b.getD i 0< a.getD i 0
    .right;have:=Mm I A c2;refine⟨_,by rw[bg c2,ao],?_⟩
     unfold gI;rw[ax (by omega),aK (by omega)]
    left;rw[bc,aw];refine⟨_,rfl,⟨i,rfl,by omega,λj h1 h2=>?_⟩,?_⟩
    .by_cases c:j=i
     .subst c;omega
     exact d j (by omega) h2
    show((i:Int)-1+1).toNat<(((i+1:Nat):Int)-1+1).toNat;omega) (((((sh a).length:Nat):Int)-1,()),(),()) ⟨(sh a).length,rfl,aL _,λj h1 h2=>by omega⟩
  exact e
 rw[bQ,fN,ao];have v:=gX a;have x:=gX b;by_cases h:(sh a).length<(sh b).length
 .have:=zy (lF A) (lF I) (n2 b) h;rw[bg,ao];unfold gI;rw[aK (by omega)]
 have:=zy (lF I) (lF A) (n2 a);rw[bc,aw];unfold gI;rw[ax (by omega),aK (by omega)]
theorem aja{A I wb x y c P:Int}(h:A+c*P=I+wb):A+(c+(x+y))%4294967296*P+(c+(x+y))/4294967296*(P*4294967296)=I+x*P+(wb+y*P):=by
 grind
theorem Nk{a b:List Int}(I:Dg a)(J:Dg b)(d:a.length<=1099511627776:=by omega)(f:b.length<=1099511627776:=by omega):Cr a b=ab (nd (vN a+vN b)):=by
 have v:=dB I;have x:=dB J;obtain⟨m,hm,g,A⟩:∃m:Nat,(bif ai (a.length:Int) (b.length:Int)then(b.length:Int)else(a.length:Int))=(m:Int)/\a.length<=m/\b.length<=m/\m<=1099511627776:=by
  by_cases h:a.length<=b.length
  .exact ⟨b.length,by rw[bS];rfl,h,aL _,f⟩
  exact⟨a.length,by rw[di];rfl,aL _,by omega,d⟩
 have hw:(w ((bif ai (a.length:Int) (b.length:Int)then(b.length:Int)else(a.length:Int))+1))=((m+1:Nat):Int):=by
  rw[hm,au];rfl
 have j:=A.1;have k:=A.2;unfold Cr;simp only[hw,cW];rw[cX (by grind[nk])]
 obtain⟨r,e,rfl⟩:=eW (step:=Nj a b)
  (λs=>∃(c:Int) (i:Nat) (o:List Int),s=((c,(i:Int),()),(),o,())/\i<=m+1/\o.length=m+1/\Dg o/\0<=c/\c<=1/\wv o i+c*4294967296^i=wv a i+wv b i) (λs=>(((m+1:Nat):Int)-s.1.2.1).toNat) (λr=>r=nd (vN a+vN b)) (by
  rintro _ ⟨c,i,o,rfl,hi,y,U,l,p,Z⟩;unfold Nj;simp only[hw,cW,jm];have z:=I.at i;have B:=J.at i;by_cases h:i< m+1
  .left;rw[bg,ao,zp I,ah,zp J,ah,kJ];rw[bM (n:=a.getD i 0+b.getD i 0),bM (n:=c+(a.getD i 0+b.getD i 0)),kx,jC,au];refine⟨_,rfl,⟨_,i+1,_,rfl,by omega,by grind,U.set (by omega) (by omega),by omega,by omega,?_⟩,?_⟩
   .rw [rq o i _,pw];exact aja Z
   grind
  right;obtain rfl:i=m+1:=by omega
  rw[bc,aw];rw[show aA (V9 ((c,((m+1:Nat):Int),()),(),o,())) _=_ from rl o (by omega),fT]
  unfold Wa;simp only;rw[iM (gY o o.length),ah,cW];refine⟨_,rfl,?_⟩;have C:=da a (m+1) (by omega)
  have D:=da b (m+1) (by omega)
  have E:=da o (m+1) (by omega)
  have q:=dW I m;have t:=dW J m;rw[da a m (by omega)]at q
  rw[da b m (by omega)]at t
  have F:=dW U (m+1);have u:c=0:=by
   grind
  subst u;rw[ik]at Z;exact Bi U (by omega)) ((0,0,()),(),bT (m+1) 0,()) ⟨0,0,_,rfl,by omega,jm,Dg.rep _,by omega,by omega,rfl⟩
 exact e
theorem avY{A I wb x y c P:Int}(h:A+wb=I+c*P):A+(x-y-c)%4294967296*P+(wb+y*P)=I+x*P+ -((x-y-c)/4294967296)*(P*4294967296):=by
 grind
theorem LX{a b:List Int}(I:Dg a)(J:Dg b)(j:a.length<=1099511627776:=by omega)(k:b.length<=1099511627776:=by omega):FP a b=ab (if vN a< vN b then([],af,())else(nd (vN a-vN b),ag,())):=by
 have v:=dB I;have w:=dB J;have h1:=gY a a.length;have x:=oX a;unfold FP;rw[Xq I J j k,ah];by_cases A:vN a< vN b
 .rw [aK A];unfold gI;rw[aK A,bg,ao]
 rw[ax A];have U:ak (gI (vN a) (vN b)) 0=af:=by
  unfold gI;rw[ax A];split;all_goals rfl
 rw[U,aw,show aA (af8 a) _=_ from o5 a (by omega),fT]
 unfold agb;rw[iM h1];simp only[cW];show aT (ai ((sh a).length:Int) ((sh a).length:Int)&&ai (((sh a).length:Int)*4) 70368744177664)
  (aA (LW a b ((((tl a a.length:Nat):Int),()),(),())) ((0,0,()),(),bT (sh a).length 0,()))=_
 have y:=oX a;rw[cX (by grind[nk])]
 obtain⟨m,hm⟩:∃m,m=(sh a).length:=⟨_,rfl⟩;rw[<-hm];have z:wv a m=dv a:=by rw[hm,u7,da _ _ (aL _),gX]
 have B:wv b m=dv b:=by
  have Z:(sh b).length<=m:=by
   rcases jH m (sh b).length with l|l
   .have:=zy (lF I) (lF J) (n2 b);grind[gX]
   omega
  rw[u7,da _ _ Z,gX]
 obtain⟨r,e,rfl⟩:=eW (step:=LW a b ((((tl a a.length:Nat):Int),()),(),()))
  (λs=>∃(c:Int) (i:Nat) (o:List Int),s=((c,(i:Int),()),(),o,())/\i<=m/\o.length=m/\Dg o/\0<=c/\c<=1/\wv o i+wv b i=wv a i+c*4294967296^i) (λs=>((m:Int)-s.1.2.1).toNat) (λr=>r=(nd (vN a-vN b),ag,())) (by
  rintro _ ⟨c,i,o,rfl,hi,n,d,p,q,f⟩;unfold LW;simp only[cW,jm];show(∃C,(bif ak (i:Int) ((sh a).length:Int)then _ else _)=_/\_)∨∃r,(bif ak (i:Int) ((sh a).length:Int)then _ else _)=_/\_;rw[<-hm];have D:=I.at i;have E:=J.at i;by_cases h:i< m
  .left;rw[bg,ao,zp I,ah,zp J,ah,kJ];have t:wu (wu (a.getD i 0-b.getD i 0)-c)=(a.getD i 0-b.getD i 0-c)%18446744073709551616:=by
    rw[s9,s9];omega
   have u:(a.getD i 0-b.getD i 0-c)%18446744073709551616/9223372036854775808= -((a.getD i 0-b.getD i 0-c)/4294967296):=by omega
   have g:(a.getD i 0-b.getD i 0-c)%18446744073709551616%4294967296=(a.getD i 0-b.getD i 0-c)%4294967296:=by omega
   rw[t,O3,jC,u,g,au];refine⟨_,rfl,⟨_,i+1,_,rfl,by omega,by rw[gg];exact n,d.set (by omega) (by omega),by omega,by omega,?_⟩,?_⟩
   .rw [rq o i _,pw];exact avY f
   show((m:Int)-((i:Int)+1)).toNat<((m:Int)-(i:Int)).toNat;omega
  right;obtain rfl:i=m:=by omega
  rw[bc,aw];rw[show aA (af9 ((c,(i:Int),()),(),o,())) _=_ from rl o (by omega),fT]
  unfold aga;simp only;rw[iM (gY o o.length),ah,cW];refine⟨_,rfl,?_⟩;have g:=da o i (by omega)
  have F:=dW d i;have U:c=0:=by
   rcases qe 0 c with U|U
   .obtain rfl:c=1:=by omega
    rw[od]at f;omega
   omega
  subst U;rw[ik]at f;have:aY (tl o o.length) o=nd (vN a-vN b):=Bi d (by omega)
  rw[this]) ((0,0,()),(),bT m 0,()) ⟨0,0,_,rfl,by omega,jm,Dg.rep _,by omega,by omega,rfl⟩
 exact e
theorem lW(l:List Int)(i:Nat)(v:Int)(j:Nat)(h:i< l.length:=by omega):(l.set i v).getD j 0=if i=j then v else l.getD j 0:=by
 grind
theorem BC(l:List Int)(i:Nat)(v:Int)(h:i< l.length):∀n,i< n->wv (l.set i v) n=wv l n+(v-l.getD i 0)*4294967296^i
 |0,h=>by omega
 |n+1,A=>by
  show wv (l.set i v) n+(l.set i v).getD n 0*4294967296^n=wv l n+l.getD n 0*4294967296^n+_;rw[lW l i v n h];by_cases e:i=n
  .subst e;rw[aK rfl,Mn l i v i (aL _),qh];omega
  rw[ax e,BC l i v h n (by omega)]
  omega
theorem Am{x y:Int}(I:0<=x)(J:x< 4294967296)(A:0<=y:=by omega)(U:y< 4294967296:=by omega):0<=x*y/\x*y<=18446744065119617025:=by
 refine⟨oc I A,?_⟩;have h1:x*y<=4294967295*4294967295:=qf (by omega) (by omega) A (by omega)
 omega
theorem ar6{b:List Int}(u:Dg b){L i lb:Nat}{x W:Int}{o:List Int}(J:lb=tl b b.length)(d:0<=x)(v:x< 4294967296)(G:i+lb< L)(y:L<=2199023255552)(z:o.length=L)(B:Dg o)(C:∀j,i+lb<=j->o.getD j 0=0)(D:wv o L=W):
  ∃r,aA (RJ b (((lb:Int),()),(),()) (((i:Int),()),(),o,()) x) ((0,0,()),(),o,())=ab r/\∃U,r=.inl ((((i+1:Nat):Int),()),(),U,())/\U.length=L/\Dg U/\(∀j,i+1+lb<=j->U.getD j 0=0)/\wv U L=W+x*dv b*4294967296^i:=by
 have E:aY lb b=sh b:=by rw[J];rfl
 have e:(sh b).length=lb:=by rw[J,oX]
 refine eW (λs=>∃(c:Int) (k:Nat) (p:List Int),s=((c,(k:Int),()),(),p,())/\k<=lb/\p.length=L/\Dg p/\0<=c/\c< 4294967296/\(∀j,i+lb<=j->p.getD j 0=0)/\wv p L+c*4294967296^(i+k)=W+x*wv b k*4294967296^i) (λs=>((lb:Int)-s.1.2.1).toNat) _ ?_ _ ⟨0,0,o,rfl,by omega,z,B,by omega,by omega,C,by rw[D,ik,show wv b 0=0 from rfl,Vw,ik]⟩
 rintro _ ⟨c,k,p,rfl,H,hp,A,Z,a,I,f⟩;unfold RJ;simp only[cW,E,e];by_cases h:k< lb
 .left;have l:=u.at k;have K:=A.at (i+k);have hm:=Am d v l.1 l.2;have g:w ((i:Int)+(k:Int))=((i+k:Nat):Int):=by rw[au];rfl
  rw[bg,ao,fS,FK,g,kJ,kJ,cW];rw[bM (n:=x),bM (n:=b.getD k 0),bM (n:=p.getD (i+k) 0),bM (n:=x*b.getD k 0),bM (n:=x*b.getD k 0+_),bM (n:=c+_),kx,jC,au];generalize m:c+(x*b.getD k 0+p.getD (i+k) 0)=t;refine⟨_,rfl,⟨_,k+1,_,rfl,by omega,by rw[gg];exact hp,A.set (by omega) (by omega),by omega,by omega,λj q=>?_,?_⟩,?_⟩
  .rw [lW _ _ _ _,ax (by omega)]
   exact I j q
  .rw [BC _ _ _ (by omega) _ (by omega)]
   have h1:t*4294967296^(i+k)=t%4294967296*4294967296^(i+k)+t/4294967296*(4294967296^(i+k)*4294967296):=carry;show _+t/4294967296*4294967296^(i+k+1)=_;rw[pw,qh];show _=W+x*(wv b k+b.getD k 0*4294967296^k)*4294967296^i;have h2:x*(wv b k+b.getD k 0*4294967296^k)*4294967296^i=x*wv b k*4294967296^i+x*b.getD k 0*4294967296^(i+k):=by
    rw[ahE,gz,BS,vf (4294967296^i),<-jD,<-jD]
   rw[<-m,gz,gz,m]at h1;rw[h2];omega
  show((lb:Int)-((k:Int)+1)).toNat<((lb:Int)-(k:Int)).toNat;omega
 right;obtain rfl:k=lb:=by omega
 have g:w ((i:Int)+(k:Int))=((i+k:Nat):Int):=by rw[au];rfl
 rw[bc,aw,g,kJ,cW,nn (n:=c) Z a,au];refine⟨_,rfl,_,rfl,by rw[gg];exact hp,A.set Z a,λj q=>?_,?_⟩
 .rw [lW _ _ _ _,ax (by omega)]
  exact I j (by omega)
 have F:wv b k=dv b:=by rw[u7,da _ _ (by omega),gX]
 rw[BC _ _ _ (by omega) _ (by omega),I (i+k) (aL _),Vy,f,F]
theorem ar5{a b:List Int}(U:Dg a)(Z:Dg b)(B:a.length<=1099511627776:=by omega)(lb:b.length<=1099511627776:=by omega):JN a b=ab (nd (vN a*vN b)):=by
 have h1:=gY a a.length;have h2:=gY b b.length;have c:=oX a;have p:=oX b;unfold JN;rw[show aA (ab6 a) _=_ from o5 a (by omega),fT]
 unfold acb;rw[iM h1];rw[show aA (ab7 b) _=_ from o5 b (by omega),fT]
 unfold aca;rw[iM h2];simp only[cW];have hw:w (((aY (tl a a.length) a).length:Int)+((aY (tl b b.length) b).length:Int))=(((sh a).length+(sh b).length:Nat):Int):=by
  show w (((sh a).length:Int)+((sh b).length:Int))=_;rw[au];rfl
 rw[hw,cW,cX (by simp(disch:=omega) only [nk])]
 obtain⟨n,A⟩:∃n,n=(sh a).length:=⟨_,rfl⟩;obtain⟨m,hm⟩:∃m,m=(sh b).length:=⟨_,rfl⟩;rw[<-A,<-hm,<-c,<-p,<-A,<-hm];obtain⟨r,e,rfl⟩:=eW (step:=RK a b (((n:Int),()),(),()) (((m:Int),()),(),()))
  (λs=>∃(i:Nat) (o:List Int),s=(((i:Int),()),(),o,())/\i<=n/\o.length=n+m/\Dg o/\(∀j,i+m<=j->o.getD j 0=0)/\wv o (n+m)=wv a i*dv b) (λs=>((n:Int)-s.1.1).toNat) (λr=>r=nd (vN a*vN b)) (by
  rintro _ ⟨i,o,rfl,hi,d,I,f,g⟩;unfold RK;have J:aY n a=sh a:=by rw[A,c];rfl
  simp only[cW,J,<-A];have k:=U.at i;by_cases h:i< n
  .left;rw[bg,ao,fS,FK];by_cases l:a.getD i 0=0
   .rw [cM l,ao,au];refine⟨_,rfl,⟨i+1,o,rfl,by omega,d,I,λj C=>f j (by omega),?_⟩,?_⟩
    .show _=(wv a i+a.getD i 0*_)*dv b;grind
    grind
   rw[bQ l,aw];obtain⟨r,e,q,rfl,t,u,v,y⟩:=ar6 (b:=b) Z (L:=n+m) (i:=i) (lb:=m) (x:=a.getD i 0) (o:=o) (by omega) k.1 k.2 (by omega) (by omega) d I f g
   rw[e];refine⟨_,rfl,⟨i+1,q,rfl,by omega,t,u,v,?_⟩,?_⟩
   .rw [y];show _=(wv a i+a.getD i 0*4294967296^i)*dv b;grind
   grind
  right;obtain rfl:i=n:=by omega
  rw[bc,aw];rw[show aA (ab8 (((i:Int),()),(),o,())) _=_ from rl o (by omega),fT]
  unfold ab9;simp only;rw[iM (gY o o.length),ah,cW];refine⟨_,rfl,?_⟩;have z:wv a i=dv a:=by rw[u7,da _ _ (by omega),gX]
  refine Bi I ?_;rw[<-da o (i+m) (by omega),g,z,kW,dB U,dB Z]) ((0,()),(),bT (n+m) 0,()) ⟨0,_,rfl,by omega,jm,Dg.rep _,λj _=>by
    rw[nv,List.getElem?_replicate];split<;>rfl,by
    rw[show wv a 0=0 from rfl,ik,da _ _ (by rw[jm];exact aL _)]
    exact OO _⟩
 exact e
theorem BB{n:Nat}(h:n< 18446744073709551616:=by omega):word .u64 (n)=n:=rG h
theorem abH{r y:Nat}(A:r< 4294967296:=by omega)(I:y< 4294967296:=by omega):(r*4294967296).lor y=r*4294967296+y:=by
 have h:=aiv (i:=32) (b:=y) (by omega) r
 simp_all[aiw]
theorem AE{r y:Int}(A:0<=r)(J:r< 4294967296)(I:0<=y)(U:y< 4294967296):wu (((word .u64 (wu (r*4294967296))).lor (word .u64 (wu y))))=r*4294967296+y:=by
 obtain⟨r,rfl⟩:=fW A;obtain⟨y,rfl⟩:=fW I;have e:r*4294967296=((r*4294967296:Nat):Int):=by omega
 rw[bM (n:=r*4294967296),bM (n:=y),e,BB,BB,abH,bM];omega
theorem zu(l:List Int) i(h:i< l.length):dv (l.drop i)=l.getD i 0+4294967296*dv (l.drop (i+1)):=by
 rw[il h,nv,gB h];rfl
theorem HN(l:List Int) i v(h:i< l.length):dv ((l.set i v).drop i)=v+4294967296*dv (l.drop (i+1)):=by
 rw[zu _ i (by grind),gS l i v h,List.drop_set_of_lt (by omega)]
theorem asK{a:List Int}{d:Int}(f:Dg a)(Z:0< d:=by omega)(q:d< 4294967296:=by omega)(t:a.length<=1099511627776:=by omega):one a d=ab (nd (vN a/d.toNat),((vN a%d.toNat:Nat):Int),()):=by
 have u:=dB f;obtain⟨n,rfl⟩:=fW (ij Z);unfold one;rw[cX (by grind[nk]),cW,cW,au]
 obtain⟨r,e,rfl⟩:=eW (step:=Et a (n:Int))
  (λs=>∃(c:Int) (i:Nat) (o:List Int),s=((c,(i:Int)-1,()),(),o,())/\i<=a.length/\o.length=a.length/\Dg o/\0<=c/\c<(n:Int)/\dv (a.drop i)=dv (o.drop i)*(n:Int)+c) (λs=>(s.1.2.1+1).toNat) (λr=>r=(nd (vN a/n),((vN a%n:Nat):Int),())) (by
  rintro _ ⟨c,i,o,rfl,hi,v,I,U,k,g⟩;cases i with
  |zero=>
   right;have b:Et a (n:Int) ((c,((0:Nat):Int)-1,()),(),o,())=(bt (aA (RZ ((c,((0:Nat):Int)-1,()),(),o,())) ((↑o.length,()),(),())) (R0 ((c,((0:Nat):Int)-1,()),(),o,()))).bind λl=>ay l:=by
    rfl
   rw[b,show aA (RZ ((c,((0:Nat):Int)-1,()),(),o,())) _=_ from rl o (by omega),fT]
   unfold R0;simp only;have h1:=gY o o.length;rw[iM h1,ah,cW,nn U];refine⟨_,rfl,?_⟩;rw[qi,qi]at g;have w:=dB I;have h:vN a=vN o*n+c.toNat:=by
    grind
   have m:vN a/n=vN o:=by
    rw[h,lN,vq (by omega),tm (by omega)];rfl
   have p:vN a%n=c.toNat:=by
    rw[h,lN,B0,rG (by omega)]
   rw[m,p];have:aY (tl o o.length) o=nd (vN o):=rb I;grind
  |succ i=>
   left;have j:=f.at i;have b:Et a (n:Int) ((c,((i+1:Nat):Int)-1,()),(),o,())=ab (bb (((c*4294967296+a.getD i 0)%(n:Int),(i:Int)-1,()),(),o.set i ((c*4294967296+a.getD i 0)/(n:Int)),())):=by
    have A:0<=(c*4294967296+a.getD i 0)/(n:Int):=ve (by omega) (by omega)
    have J:(c*4294967296+a.getD i 0)/(n:Int)< 4294967296:=BP (by omega) (by
     omega)
    unfold Et;simp only[pr];rw[bS,ao,fS,AE (r:=c) (y:=a.getD i 0) U (by omega) j.1 j.2,bM (n:=(n:Int)),nJ,kJ,nJ,cW,Gj (by omega),og (by omega),bM (n:=_/_) A,nn A J,au]
    rfl
   have A:0<=(c*4294967296+a.getD i 0)/(n:Int):=ve (by omega) (by omega)
   have J:(c*4294967296+a.getD i 0)/(n:Int)< 4294967296:=BP (by omega) (by
    omega)
   refine⟨_,b,⟨_,i,_,rfl,by omega,by grind,I.set A J,MM _ (by omega),Ge _ (by omega),?_⟩,?_⟩
   .rw [HN _ _ _ (by omega),zu a i (by omega),g,gz,jD 4294967296]
    have h1:=Vv (c*4294967296+a.getD i 0) (n:Int);grind
   simp) ((0,(a.length:Int)-1,()),(),bT a.length 0,()) ⟨0,a.length,_,rfl,aL _,jm,Dg.rep _,by omega,by omega,by
   rw[gZ (aL _),gZ (by simp)]
   show(0:Int)=0*_+0;omega⟩
 exact e
def WC(x m:Nat)(o:Option Int):=match o with
 |some (.ofNat k)=>bw m k&&(bw (k-m) 8&&(Nat.blt x (2^(k-m))&&(Nat.beq x 0||bw 1 (k-m)&&bw (2^(k-m-1)) x)))
 |_=>af
theorem av7:([0,8,16,24].all λm=>(List.range 256).all λx=>WC x m (Jr ((aE x,aE m,()),(),())))=ag:=by kernel_rfl
theorem av8{x m:Nat}(I:x< 256)(J:0< x)(hm:m∈[0,8,16,24]):∃j:Nat,Jr (((x:Int),(m:Int),()),(),())=ab ((m+j:Nat):Int)/\1<=j/\j<=8/\x< 2^j/\2^(j-1)<=x:=by
 have h:=lL.1 (lL.1 av7 m hm) x (List.mem_range.2 I);unfold WC at h;split at h
 .rename_i k;simp only[aM,Bool.or_eq_true,Nat.ble_eq,Nat.blt_eq,Nat.beq_eq]at h;obtain⟨h1,h2,U,A⟩:=h;rcases A with A|⟨A,Z⟩
  all_goals grind
 trivial
theorem Yz(n:Int):n.fdiv 65536=n/65536:=qd n (by omega)
theorem YA(n:Int):n.fdiv 256=n/256:=qd n (by omega)
theorem Rp{n:Nat}(c:0< n:=by omega)(h1:n< 4294967296:=by omega):∃k:Nat,D5 (n:Int)=ab (k:Int)/\1<=k/\k<=32/\n< 2^k/\2^(k-1)<=n:=by
 have A:∀{x m M:Nat},0< x->x< 256->m∈[0,8,16,24]->M=2^m->n/M=x->0< M->∃k:Nat,Jr (((x:Int),(m:Int),()),(),())=ab (k:Int)/\1<=k/\k<=32/\n< 2^k/\2^(k-1)<=n:=by
  intro x m M I U hm d f Z;obtain⟨j,e,g,h,i,l⟩:=av8 U I hm;have a:m<=24:=by
   grind
  refine⟨m+j,e,by omega,by omega,?_,?_⟩<;>try grind
  have:m+j-1=m+(j-1):=by omega
  grind
 unfold D5;by_cases c1:65536<=n
 .rw [bS,ao,iw];unfold Ro;simp only[Yz,YA];have b:(n:Int)/65536=((n/65536:Nat):Int):=by omega
  rw[b];by_cases c2:256<=n/65536
  .rw [bS,ao,iw];have J:((n/65536:Nat):Int)/256=((n/16777216:Nat):Int):=by omega
   rw[J];exact A (m:=24) (M:=16777216) (by omega) (by omega) (by decide) (by decide) rfl (by omega)
  rw[di,aw,iw];exact A (m:=16) (M:=65536) (by omega) (by omega) (by decide) (by decide) rfl (by omega)
 rw[di,aw,iw];unfold Ro;simp only[Yz,YA];by_cases c2:256<=n
 .rw [bS,ao,iw];have J:(n:Int)/256=((n/256:Nat):Int):=by omega
  rw[J];exact A (m:=8) (M:=256) (by omega) (by omega) (by decide) (by decide) rfl (by omega)
 rw[di,aw,iw];exact A (m:=0) (M:=1) (by omega) (by omega) (by decide) (by decide) (VH n) (by omega)
theorem arP{n:Nat}(A:0< n:=by omega)(h1:n< 4294967296:=by omega):∃s:Nat,Jz (n)=ab (s:Int)/\s<=31/\2147483648<=n*2^s/\n*2^s< 4294967296:=by
 obtain⟨k,e,k1,k2,I,J⟩:=Rp A h1;refine⟨32-k,?_,by omega,?_,?_⟩
 .unfold Jz;rw[e,ah,au];congr 1;omega
 .have:2^(k-1)*2^(32-k)<=n*2^(32-k):=eB _ J;rw[<-ql,show k-1+(32-k)=31 by omega]at this
  omega
 have:n*2^(32-k)< 2^k*2^(32-k):=aio I (nB (by omega))
 rw[<-ql,show k+(32-k)=32 by omega]at this
 omega
end Go.Proofs.YtlfolhmfdmcmiaaGreatDoor
namespace Go.Nt
open Go.As
theorem arI{σ ρ:Type}{step:σ->Option (σ⊕ρ)}{s:σ}(h:step s=none):aA step s=none:=by
 cases e:aA _ s
 .rfl
 rename_i r;obtain⟨n,A⟩:=Jx e;cases n<;>first|cases A|simp_all[Ad,h]
theorem wW{σ ρ:Type}{step:σ->Option (σ⊕ρ)}{s:σ}{x:Option ρ}(h:step s=x.bind λy=>ab (.inr y)):aA step s=x:=by
 cases x<;>first|exact arI h|exact cQ h
theorem D8{σ ρ:Type}{step:σ->Option (σ⊕ρ)}(I:Nat->σ->Prop) n(h:∀i s,i< n->I i s->∃A,step s=ab (.inl A)/\I (i+1) A):∀s,I 0 s->∃A,aA step s=aA step A/\I n A:=by
 have:∀m,m<=n->∀s,I 0 s->∃A,aA step s=aA step A/\I m A:=by
  intro m;induction m with
  |zero=>grind
  |succ m ih=>
   intro hm s J;obtain⟨U,Z,h1⟩:=ih (by omega) s J
   obtain⟨a,b,h2⟩:=h m U (by omega) h1
   exact⟨a,Z.trans (eY b),h2⟩
 simp_all
end Go.Nt
namespace Go.Proofs.YtlfolhmfdmcmiaaGreatDoor
open Go.As Go.Nt Go.Cc
theorem agL{n:Nat}(h:n< 4294967296:=by omega):word .u32 (n)=n:=rG h
theorem arK{h y s:Nat}(I:s<=31)(A:h< 2^s:=by omega):h.lor (y*2^s%4294967296)=h+y*2^s%4294967296:=by
 have e:y*2^s%4294967296=y%2^(32-s)*2^s:=by
  have:4294967296=2^(32-s)*2^s:=by rw[<-ql,show 32-s+s=32 by omega]
  rw[this,MV]
 have h1:=aiv A (y%2^(32-s));simp_all[aiw,ais,Nat.add_comm]
def xU(o:List Int) y(s i:Nat):=
 (o.set i (wr .u32 (((word .u32 (o.getD i 0)).lor (word .u32 (wr .u32 (wu (wu y*(2^s.min 64:Nat))))))))).set (i+1) (wr .u32 ((wu (wu y*(2^s.min 64:Nat))).fdiv 4294967296))
theorem avu{l o:List Int}{s i:Nat}(Z:Dg l)(I:Dg o)(J:s<=31)(hi:i+1< o.length)(r:o.getD i 0<((2^s:Nat):Int))(a:wv o (i+1)=wv l i*((2^s:Nat):Int)):
  (xU o (l.getD i 0) s i).length=o.length/\Dg (xU o (l.getD i 0) s i)/\(xU o (l.getD i 0) s i).getD (i+1) 0<((2^s:Nat):Int)/\wv (xU o (l.getD i 0) s i) (i+2)=wv l (i+1)*((2^s:Nat):Int):=by
 have b:=Z.at i;obtain⟨y,c⟩:=fW b.1;obtain⟨h,U⟩:=fW (I.at i).1;have hp:2^s<=2147483648:=tp (n:=2) (by omega) J
 have hm:s.min 64=s:=nA (by omega)
 obtain⟨p,A⟩:∃p,p=2^s:=⟨_,rfl⟩;have d:y*p<=4294967295*p:=eB _ (by omega)
 have e:wu (wu (l.getD i 0)*((2^s.min 64:Nat):Int))=((y*p:Nat):Int):=by
  rw[hm,c,bM (n:=(y:Int)),<-A,<-kW,bM]
 have f:wr .u32 ((y*p:Nat):Int)=((y*p%4294967296:Nat):Int):=by rfl
 have g:=by
  have:y*p%4294967296=(y%2^(32-s))*2^s:=by
   have h2:(4294967296:Nat)=2^(32-s)*2^s:=by rw[<-ql,show 32-s+s=32 by omega]
   rw[A,h2,MV]
  have j:y%2^(32-s)+1<=2^(32-s):=qk _ (nB (by omega))
  have k:=eB (2^s) j;rw[<-ql,show 32-s+s=32 by omega,Nat.add_mul,Nat.one_mul,<-this]at k
  omega
 have m:wr .u32 (((word .u32 (o.getD i 0)).lor (word .u32 (wr .u32 ((y*p:Nat):Int))):Nat):Int)=((h+y*p%4294967296:Nat):Int):=by
  rw[f,U,agL,agL,A,arK J,<-A,nn]
 have q:wr .u32 (((y*p:Nat):Int).fdiv 4294967296)=((y*p/4294967296:Nat):Int):=by
  rw[kx,nn];omega
 have et:xU o (l.getD i 0) s i=(o.set i ((h+y*p%4294967296:Nat):Int)).set (i+1) ((y*p/4294967296:Nat):Int):=by
  simp_all[xU,e,m,q]
 rw[et];refine⟨by simp,(I.set (by omega) (by omega)).set (by omega) (by omega),?_,?_⟩
 .grind
 rw[rq _ (i+1) _ (by grind),BC _ _ _ (by omega) _ (by omega),a,U,<-A]
 show _=(wv l i+l.getD i 0*4294967296^i)*(p:Int);grind
abbrev vB:=(Int×Unit)×Unit×List Int×Unit
def ra{ρ:Type} n(rd:Int->(Int->Option (vB⊕ρ))->Option (vB⊕ρ))(X:Int)(ex:vB->Option (vB⊕ρ)) s:=
 bif ak s.1.1 n then
  rd s.1.1 λA=>bif ak (X.tmod 32) 0 then none else aN s.2.2.1 (w (s.1.1+w (X.tdiv 32))) λI=>aN s.2.2.1 (w (s.1.1+w (X.tdiv 32))) λJ=>
   aN (s.2.2.1.set (w (s.1.1+w (X.tdiv 32))).toNat (wr .u32 ↑((word .u32 I).lor (word .u32 (wr .u32 (wu (wu A*↑2^(X.tmod 32).toNat.min 64))))))) (w (w (s.1.1+w (X.tdiv 32))+1)) λU=>
    aB ((w (s.1.1+1),()),(),(s.2.2.1.set (w (s.1.1+w (X.tdiv 32))).toNat (wr .u32 ↑((word .u32 I).lor (word .u32 (wr .u32 (wu (wu A*↑2^(X.tmod 32).toNat.min 64))))))).set (w (w (s.1.1+w (X.tdiv 32))+1)).toNat (wr .u32 ((wu (wu A*↑2^(X.tmod 32).toNat.min 64)).fdiv 4294967296)),())
 else ex s
def Rd{ρ:Type}(l:List Int)(n:Int)(rd:Int->(Int->Option (vB⊕ρ))->Option (vB⊕ρ)):=n=l.length/\∀i f,i< l.length->rd i f=f (l.getD i 0)
theorem Rd.aQ{ρ:Type} l:Rd (ρ:=ρ) l l.length (aQ l):=⟨rfl,λ_ _ h=>fS h⟩
theorem avt{ρ:Type}{l o:List Int}{s i:Nat}{n:Int}{rd}(A:Rd (ρ:=ρ) l n rd) ex(a:s<=31)(b:l.length<=2199023255552)(hi:i< l.length)(c:o.length=l.length+1):
  ra n rd (s) ex (((i),()),(),o,())=ab (.inl ((((i+1:Nat)),()),(),xU o (l.getD i 0) s i,())):=by
 obtain⟨rfl,A⟩:=A;have hm:(s:Int).tmod 32=s:=MP (by omega) (by omega)
 have J:(s:Int).tdiv 32=0:=Gi (by omega) (by omega)
 have U:w 0=0:=au;have Z:w _=i:=au;have I:w (i+1)=(i+1:Nat):=au;unfold ra;simp only[hm,J,U,lK,Z,I];rw[bg,A i _ hi,kJ,kJ,kJ (by grind)]
 rfl
theorem T0{ρ:Type}{l o:List Int}{X n:Int}{rd}(A:Rd (ρ:=ρ) l n rd) ex:ra n rd X ex (((l.length),()),(),o,())=ex (((l.length),()),(),o,()):=by
 unfold ra;rw[A.1];simp[bc _]
theorem T1{ρ:Type}{l:List Int}{s:Nat}{n:Int}{rd}(J:Rd (ρ:=ρ) l n rd) ex(U:Dg l)(I:s<=31)(Z:l.length<=2199023255552):
  ∃o,aA (ra n rd (s) ex) ((0,()),(),bT (l.length+1) 0,())=aA (ra n rd (s) ex) (((l.length),()),(),o,())/\o.length=l.length+1/\Dg o/\dv o=dv l*((2^s:Nat)):=by
 have a:0< 2^s:=nB (by omega)
 have g:(bT (l.length+1) (0:Int)).getD 0 0=0:=by
  rfl
 obtain⟨_,e,o,rfl,h1,h2,_,A⟩:=D8 (step:=ra n rd _ ex) (λi st=>∃o,st=(((i:Int),()),(),o,())/\o.length=l.length+1/\Dg o/\o.getD i 0<(2^s:Nat)/\wv o _=wv l i*(2^s:Nat)) l.length (by
  rintro i _ hi ⟨o,rfl,h1,h2,b,A⟩;obtain⟨h,c,d,f⟩:=avu U h2 I (by omega) b A
  exact⟨_,avt J ex I Z hi h1,_,rfl,by omega,c,d,f⟩) _ ⟨_,rfl,jm,Dg.rep _,by omega,by
   show 0+0*_=0*_;omega⟩
 refine⟨o,e,h1,h2,?_⟩;rw[da o _ (by omega),da l _ (aL _)]at A
 omega
theorem alg x y J I A n:XW x y J I n A=ra ↑(aY A.1.1.toNat (aY I.1.1.toNat y)).length (aQ (aY A.1.1.toNat (aY I.1.1.toNat y))) (bif ai (aE n.toNat) 4096 then aE n.toNat else 4096) λs=>(bt (aA (HH s) ((↑s.2.2.1.length,()),(),())) (HG x J n s)).bind λz=>ay z:=by rfl
theorem alf x U I A n(J:vB):XU x U n J I A=ra ↑(aY A.1.1.toNat (aY U.1.1.toNat x)).length (aQ (aY A.1.1.toNat (aY U.1.1.toNat x))) (bif ai (aE n.toNat) 4096 then aE n.toNat else 4096) λs=>(bt (aA (HI s) ((↑s.2.2.1.length,()),(),())) (C6 x U n J I s)).bind λz=>ay z:=by rfl
theorem ak9 n A J I:XQ n A J I=ra (aE I.1.1.toNat) (λi f=>bif ai 0 i&&ak i (aE I.1.1.toNat)then A.2.2.1[i.toNat]?.bind f else none) (bif ai (w (0-aE n.toNat)) 4096 then w (0-aE n.toNat)else 4096) λs=>(bt (aA (HD s) ((↑s.2.2.1.length,()),(),())) (HE A J s)).bind λz=>ay z:=by rfl
theorem amr{u v:List Int}{m:Nat}{vr ur P:Int}(k:Dg u)(L:Dg v)(l:v.length=m+2)(T:u.length=m+3)(hm:m<=1099511627776)(o:0< P)(A:0<=vr)(p:vr< P)(b:0<=ur)(c:ur< P)
  (h1:2147483648<=v.getD (m+1) 0) (h0:u.getD (m+2) 0<=v.getD (m+1) 0)
  (W:((u.getD (m+2) 0*4294967296+u.getD (m+1) 0)*4294967296+u.getD m 0)*P+ur< 4294967296*((v.getD (m+1) 0*4294967296+v.getD m 0)*P+vr)):
  ∃q,It u v=ab q/\0<=q/\q< 4294967296/\((u.getD (m+2) 0*4294967296+u.getD (m+1) 0)*4294967296+u.getD m 0)*P+ur<(q+1)*((v.getD (m+1) 0*4294967296+v.getD m 0)*P+vr)
   /\(q-1)*((v.getD (m+1) 0*4294967296+v.getD m 0)*P+vr)<=((u.getD (m+2) 0*4294967296+u.getD (m+1) 0)*4294967296+u.getD m 0)*P+ur:=by
 have M:=k.at (m+2);have N:=k.at (m+1);have g:=k.at m;have b1:=L.at (m+1);have Z:=L.at m;have y:w ((v.length:Int)-1)=((m+1:Nat):Int):=by rw[au];omega
 have X:w ((v.length:Int)-2)=(m:Int):=by rw[au];omega
 have Y:u[v.length]? =ab (u.getD (m+2) 0):=by rw[l];exact gN
 have g1:∀{β:Type} (f:Int->Option β),aQ u ((m+1:Nat):Int) f=f (u.getD (m+1) 0):=λf=>fS
 have g2:∀{β:Type} (f:Int->Option β),aQ u (m:Int) f=f (u.getD m 0):=λf=>fS
 have k1:∀{β:Type} (f:Int->Option β),aQ v ((m+1:Nat):Int) f=f (v.getD (m+1) 0):=λf=>fS
 have k2:∀{β:Type} (f:Int->Option β),aQ v (m:Int) f=f (v.getD m 0):=λf=>fS
 generalize hv1:v.getD (m+1) 0=v1 at*;generalize Z1:v.getD m 0=v2 at*;generalize hu0:u.getD (m+2) 0=i at*;generalize ZZ:u.getD (m+1) 0=z at*;generalize Z0:u.getD m 0=u2 at*;generalize B:(v1*4294967296+v2)*P+vr=V at*;generalize C:((i*4294967296+z)*4294967296+u2)*P+ur=U at*;have D:0<=V:=by
  have:0<=(v1*4294967296+v2)*P:=oc (by omega) (by omega)
  omega
 have hU0:0<=U:=by
  have:0<=((i*4294967296+z)*4294967296+u2)*P:=oc (by omega) (by omega)
  omega
 unfold It;simp only[cW,Y,y,g1,k1,ah];rw[bM (n:=i)];rw[AE M.1 M.2 N.1 N.2,bM (n:=v1),nJ,nJ,og (by omega),Gj (by omega)]
 generalize ht:i*4294967296+z=t at*;have E:0<=t/v1:=ve (by omega) (by omega)
 have F:t/v1< 4294967298:=BP (by omega) (by omega)
 have DG:=Ge t (show 0< v1 by omega)
 rw[bM (n:=t/v1)];have J:∀q r:Int,0<=q->q< 4294967296->q*v1+r=t->U<(q+1)*V->q*v2<=r*4294967296+u2->(q-1)*V<=U:=λq r a O e _ G=>by
  have:=amj (vr:=vr) (ur:=ur) (P:=P) o a O (by omega) Z.1 A p b e G
  rw[B,C]at this;exact this
 obtain⟨q,e,r1,r2,r3,r4⟩:=eW (step:=ui u v) (λs=>∃q r:Int,s=((q,r,()),(),())/\0<=q/\0<=r/\r< 4294967296/\q< 4294967298/\q*v1+r=t/\U<(q+1)*V) (λs=>s.1.1.toNat) (λq=>0<=q/\q< 4294967296/\U<(q+1)*V/\(q-1)*V<=U) (by
  rintro _ ⟨q,r,rfl,a,r0,rB,qB,e,d⟩;have less:U< q*V->((bif !aj ((wu (r+v1)).fdiv 4294967296) 0 then ay (wu (q-1))else aB ((wu (q-1),wu (r+v1),()),(),()):Option ((Int×Int×Unit)×Unit×Unit⊕Int))=ui u v ((q,r,()),(),()))->
    (∃H,ui u v ((q,r,()),(),())=ab (.inl H)/\(∃q r:Int,H=((q,r,()),(),())/\0<=q/\0<=r/\r< 4294967296/\q< 4294967298/\q*v1+r=t/\U<(q+1)*V)/\H.1.1.toNat< q.toNat)∨∃x,ui u v ((q,r,()),(),())=ab (.inr x)/\0<=x/\x< 4294967296/\U<(x+1)*V/\(x-1)*V<=U:=λQ j=>by
   have O:0< q:=by
    rcases qe 0 q with h|h<;>try trivial
    obtain rfl:q=0:=by omega
    rw[ik]at Q;omega
   have R:(q-1)*v1+(r+v1)=t:=by rw[qh,od];omega
   have K:U<(q-1+1)*V:=by rw[Int.sub_add_cancel];exact Q
   rw[<-j,bM (n:=r+v1),bM (n:=q-1),kx];by_cases hb:4294967296<=r+v1
   .right;rw[bQ,fN,ao];have I:q-1< 4294967296:=by
     rcases qe (q-1) 4294967296 with h|h<;>try trivial
     obtain rfl:q=4294967297:=by omega
     omega
    exact⟨_,rfl,by omega,I,K,J _ _ (by omega) I R K (amg (by omega) I Z.1 Z.2 g.1 hb)⟩
   left;rw[cM,b9,aw];refine⟨_,rfl,⟨_,_,rfl,by omega,by omega,by omega,by omega,R,K⟩,?_⟩
   show(q-1).toNat< q.toNat;omega
  by_cases I:4294967296<=q
  .refine less ?_ ?_
   .have:4294967296*V<=q*V:=kh I D;omega
   unfold ui;simp only[kx,bQ (show q/4294967296≠0 by omega),fN,ao,y,k1]
   rw[bM (n:=v1)]
  have hx:=Am a (by omega) Z.1 Z.2
  have j:ui u v ((q,r,()),(),())=bif ak (r*4294967296+u2) (q*v2)then(bif !aj ((wu (r+v1)).fdiv 4294967296) 0 then ay (wu (q-1))else aB ((wu (q-1),wu (r+v1),()),(),()))else ay q:=by
   unfold ui;simp only[kx,cM (show q/4294967296=0 by omega),b9,aw,y,X,k1,k2,g2]
   rw[AE r0 rB g.1 g.2,bM (n:=v2),bM (n:=v1),bM (n:=q*v2)]
  by_cases S:r*4294967296+u2< q*v2
  .refine less ?_ ?_
   .have:=amh (vr:=vr) (ur:=ur) (P:=P) o a A c e S;rw[B,C]at this;exact this
   rw[j,bg S,ao]
  right;rw[j,bc,aw];exact⟨_,rfl,a,by omega,d,J q r a (by omega) e d (by omega)⟩) ((t/v1,t%v1,()),(),()) ⟨_,_,rfl,E,MM t (show v1≠0 by omega),by omega,F,by
   have:=Vv t v1;rw[vf (t/v1)];omega,by
   have:=ami (v1:=v1) (v2:=v2) (vr:=vr) (t:=t) (u2:=u2) (ur:=ur) (P:=P) o (by omega) Z.1 A (by omega) g.2 c
   rw[B,C]at this;exact this⟩
 exact⟨q,e,r1,r2,r3,r4⟩
theorem lU(l:List Int)(j k:Nat):(l.drop j).getD k 0=l.getD (j+k) 0:=by
 simp
theorem xP(l:List Int)(j k:Nat)(x:Int):(l.set (j+k) x).drop j=(l.drop j).set k x:=by
 rw[List.drop_set,ax (by omega),Nat.add_sub_cancel_left]
theorem Dg.drop{l:List Int}(h:Dg l)(n:Nat):Dg (l.drop n):=λx A=>h x (List.mem_of_mem_drop A)
theorem Ll{β:Type}{l:List Int}{j k n:Nat}{f:Int->Option β}(h:j+k< l.length:=by omega)(A:k< n:=by omega):aT (ai 0 (k:Int)&&ak (k:Int) (n:Int)) ((l[j+k]?).bind f)=f (l.getD (j+k) 0):=by
 rw[bg,gN h];rfl
theorem Jw{t:Int}(A:0<=t:=by omega)(h1:t< 18446744073709551616:=by omega):wu (((word .u64 t).land 4294967295:Nat):Int)=t%4294967296:=by
 obtain⟨n,rfl⟩:=fW A;have e:n.land 4294967295=n%4294967296:=Nat.and_two_pow_sub_one_eq_mod n 32;rw[BB,bM];omega
theorem alh{A u qs p:List Int}{j n:Nat}{q:Int}(z:Int×Unit)(f:Dg A)(B:n<=A.length)(hp:Dg p)(C:j+n< p.length)(D:p.length<=4398046511104)(g:1<=q)(E:q< 4294967296):
  ∃c o,aA (HJ (z,(),A,()) (((n:Int),()),(),()) (((j:Int),()),(),u,qs,()) q) ((0,0,()),(),p,())=ab (.inl ((q-1,()),(),o.set (j+n) ((p.getD (j+n) 0+c)%4294967296),()))/\0<=c/\c<=1/\o.length=p.length/\Dg o
   /\(∀i,i< j->o.getD i 0=p.getD i 0)/\(∀i,j+n<=i->o.getD i 0=p.getD i 0)/\wv (o.drop j) n+c*4294967296^n=wv (p.drop j) n+wv A n:=by
 have hw:(w (w ((j:Int)+aE (n:Int).toNat)+1)).toNat-(j:Int).toNat=n+1:=by
  show(w (w ((j:Int)+(n:Int))+1)).toNat-j=n+1;rw[au (n:=(j:Int)+_),au];omega
 obtain⟨r,e,c,o,rfl,h⟩:=eW (step:=HJ (z,(),A,()) (((n:Int),()),(),()) (((j:Int),()),(),u,qs,()) q)
  (λs=>∃(c:Int) (k:Nat) (o:List Int),s=((c,(k:Int),()),(),o,())/\k<=n/\o.length=p.length/\Dg o/\0<=c/\c<=1/\(∀i,i< j->o.getD i 0=p.getD i 0)/\(∀i,j+k<=i->o.getD i 0=p.getD i 0)/\wv (o.drop j) k+c*4294967296^k=wv (p.drop j) k+wv A k) (λs=>((n:Int)-s.1.2.1).toNat)
  (λr=>∃(c:Int) (o:List Int),r=.inl ((q-1,()),(),o.set (j+n) ((p.getD (j+n) 0+c)%4294967296),())/\0<=c/\c<=1/\o.length=p.length/\Dg o/\(∀i,i< j->o.getD i 0=p.getD i 0)/\(∀i,j+n<=i->o.getD i 0=p.getD i 0)/\wv (o.drop j) n+c*4294967296^n=wv (p.drop j) n+wv A n) (by
  rintro _ ⟨c,k,o,rfl,F,b,U,Z,a,J,I,d⟩;unfold HJ;simp only[hw];have l:∀m:Nat,aE m=(m:Int):=λ_=>rfl
  have t:(j:Int).toNat=j:=cW _;have v:(k:Int).toNat=k:=cW _;have x:(n:Int).toNat=n:=cW _;simp only[l,t,v,x];have G:=f.at k;by_cases h:k< n
  .left;have y:=U.at (j+k);rw[bg,ao,bS,tf,ao,gN,ah];rw[<-bS (show(0:Int)<=(k:Int) by omega),Ll,Ll]
   rw[bM (n:=A.getD k 0),bM (n:=o.getD (j+k) 0),bM (n:=o.getD (j+k) 0+_),bM (n:=c+_),kx,jC,au];refine⟨_,rfl,⟨_,k+1,_,rfl,by omega,by rw[gg];exact b,U.set (by omega) (by omega),by omega,by omega,λi hi=>?_,λi hi=>?_,?_⟩,?_⟩
   .rw [lW _ _ _ _,ax (by omega)];exact J i hi
   .rw [lW _ _ _ _,ax (by omega)];exact I i (by omega)
   .rw [xP,rq _ _ _ (by rw[lM];omega),pw]
    show _=wv (p.drop j) k+(p.drop j).getD k 0*_+(wv A k+A.getD k 0*_);rw[lU,I (j+k) (aL _)];exact ai8 d
   show((n:Int)-((k:Int)+1)).toNat<((n:Int)-(k:Int)).toNat;omega
  right;obtain rfl:k=n:=by omega
  have y:=U.at (j+k);rw[bc,aw,bg,Ik,gN,ah,Ik,ah];rw[nn (n:=c),jC,bM (n:=q-1),I (j+k) (aL _)];exact⟨_,rfl,c,o,rfl,Z,a,b,U,J,I,d⟩) ((0,0,()),(),p,()) ⟨0,0,p,rfl,by omega,rfl,hp,by omega,by omega,λ_ _=>rfl,λ_ _=>rfl,rfl⟩
 grind
theorem ali{A qs u:List Int}{j n:Nat}{q:Int}(z:Int×Unit)(l:Dg A)(S:n<=A.length)(v:Dg u)(hj:j+n< u.length)(hL:u.length<=4398046511104)(Z:0<=q)(x:q< 4294967296)
  (h1:wv (u.drop j) (n+1)<(q+1)*wv A n) (h2:(q-1)*wv A n<=wv (u.drop j) (n+1)):
  ∃I o,aA (HK (z,(),A,()) (((n:Int),()),(),()) (((j:Int),()),(),u,qs,()) q) ((0,0,0,()),(),u,())=ab (.inl ((I,()),(),o,()))/\0<=I/\I< 4294967296/\o.length=u.length/\Dg o
   /\(∀i,i< j->o.getD i 0=u.getD i 0)/\(∀i,j+n< i->o.getD i 0=u.getD i 0)/\I*wv A n+wv (o.drop j) (n+1)=wv (u.drop j) (n+1)/\wv (o.drop j) (n+1)< wv A n:=by
 have hw:(w (w ((j:Int)+aE (n:Int).toNat)+1)).toNat-(j:Int).toNat=n+1:=by
  show(w (w ((j:Int)+(n:Int))+1)).toNat-j=n+1;rw[au (n:=(j:Int)+_),au];omega
 have T:=(dW l n).1;obtain⟨r,e,I,o,rfl,h⟩:=eW (step:=HK (z,(),A,()) (((n:Int),()),(),()) (((j:Int),()),(),u,qs,()) q)
  (λs=>∃(c b:Int) (k:Nat) (o:List Int),s=((c,b,(k:Int),()),(),o,())/\k<=n/\o.length=u.length/\Dg o/\0<=c/\c< 4294967296/\0<=b/\b<=1/\(∀i,i< j->o.getD i 0=u.getD i 0)/\(∀i,j+k<=i->o.getD i 0=u.getD i 0)/\wv (o.drop j) k+q*wv A k=wv (u.drop j) k+(c+b)*4294967296^k) (λs=>((n:Int)-s.1.2.2.1).toNat)
  (λr=>∃I o,r=.inl ((I,()),(),o,())/\0<=I/\I< 4294967296/\o.length=u.length/\Dg o
   /\(∀i,i< j->o.getD i 0=u.getD i 0)/\(∀i,j+n< i->o.getD i 0=u.getD i 0)/\I*wv A n+wv (o.drop j) (n+1)=wv (u.drop j) (n+1)/\wv (o.drop j) (n+1)< wv A n) (by
  rintro _ ⟨c,b,k,o,rfl,hk,y,a,V,W,X,Y,U,J,K⟩;unfold HK;simp only[hw];have e0:∀m:Nat,aE m=(m:Int):=λ_=>rfl
  have ej:(j:Int).toNat=j:=cW _;have ek:(k:Int).toNat=k:=cW _;have en:(n:Int).toNat=n:=cW _;simp only[e0,ej,ek,en];have L:=l.at k;by_cases h:k< n
  .left;have xo:=a.at (j+k);have hm:=Am Z x L.1 L.2;rw[bg,ao,bS,tf,ao,gN,ah];rw[<-bS (show(0:Int)<=(k:Int) by omega),Ll,Ll]
   rw[bM (n:=A.getD k 0),bM (n:=o.getD (j+k) 0),bM (n:=q*_),bM (n:=c+_),Jw];have B:wu (wu (o.getD (j+k) 0-(c+q*A.getD k 0)%4294967296)-b)=(o.getD (j+k) 0-(c+q*A.getD k 0)%4294967296-b)%18446744073709551616:=by rw[s9,s9];omega
   have e2:(o.getD (j+k) 0-(c+q*A.getD k 0)%4294967296-b)%18446744073709551616/9223372036854775808= -((o.getD (j+k) 0-(c+q*A.getD k 0)%4294967296-b)/4294967296):=by omega
   have C:(o.getD (j+k) 0-(c+q*A.getD k 0)%4294967296-b)%18446744073709551616%4294967296=(o.getD (j+k) 0-(c+q*A.getD k 0)%4294967296-b)%4294967296:=by omega
   rw[B,O3,kx,jC,e2,C,au];refine⟨_,rfl,⟨_,_,k+1,_,rfl,by omega,by rw[gg];exact y,a.set (by omega) (by omega),by omega,by omega,by omega,by omega,λi hi=>?_,λi hi=>?_,?_⟩,?_⟩
   .rw [lW _ _ _ _,ax (by omega)];exact U i hi
   .rw [lW _ _ _ _,ax (by omega)];exact J i (by omega)
   .rw [xP,rq _ _ _ (by rw[lM];omega),pw]
    show _+q*(wv A k+A.getD k 0*_)=wv (u.drop j) k+(u.drop j).getD k 0*_+_;rw[lU,J (j+k) (aL _)];exact awb K
   show((n:Int)-((k:Int)+1)).toNat<((n:Int)-(k:Int)).toNat;omega
  right;obtain rfl:k=n:=by omega
  have xu:=v.at (j+k);have lo:=dW (Dg.drop a j) k;have lv:=dW l k;have hP:=jw k;have d:wv (u.drop j) (k+1)=wv (u.drop j) k+u.getD (j+k) 0*4294967296^k:=by
   show _+(u.drop j).getD k 0*_=_;rw[lU]
  have hW:wv (o.drop j) k+(u.getD (j+k) 0-c-b)*4294967296^k=wv (u.drop j) (k+1)-q*wv A k:=by
   rw[d,qh,qh];rw[gz]at K;omega
  have B:wu (wu (u.getD (j+k) 0-c)-b)=(u.getD (j+k) 0-c-b)%18446744073709551616:=by rw[s9,s9];omega
  have C:(u.getD (j+k) 0-c-b)%18446744073709551616%4294967296=(u.getD (j+k) 0-c-b)%4294967296:=by omega
  rw[bc,aw,bg,Ik,gN,ah,Ik,ah,J (j+k) (aL _),bM (n:=u.getD (j+k) 0),B,O3,jC,C];generalize ht:u.getD (j+k) 0-c-b=t at*;rw[gz,od]at h1;rw[qh,od]at h2;by_cases M:t< 0
  .rw [bQ,fN,ao];have D:1<=q:=by
    rcases qe 0 q with h|h<;>try trivial
    obtain rfl:q=0:=by omega
    have:t*4294967296^k<=(-1)*4294967296^k:=kh (by omega) (by omega)
    have w0:=(dW (Dg.drop v j) (k+1)).1;rw[ik]at hW;omega
   have E:Dg (o.set (j+k) (t%4294967296)):=a.set (by omega) (by omega)
   obtain⟨g,N,O,g0,g1,P,d2,F,G,v2⟩:=alh (qs:=qs) (u:=u) (j:=j) (n:=k) (p:=o.set (j+k) (t%4294967296)) z l S E (by rw[gg];omega) (by rw[gg];omega) D x
   rw[lW _ _ _ _,aK rfl]at O;rw[O];rw[gg]at P;have f:wv ((o.set (j+k) (t%4294967296)).drop j) k=wv (o.drop j) k:=by rw[xP,Mn _ _ _ _ (aL _)]
   rw[f]at v2;have l2':=dW (Dg.drop d2 j) k;have Q:t+g=0:=by
    have H:wv (N.drop j) k+(t+g)*4294967296^k=wv (u.drop j) (k+1)-q*wv A k+wv A k:=by
     rw[gz];omega
    rcases qe (t+g) 0 with h|h<;>try grind
    have:(t+g)*4294967296^k<=(-1)*4294967296^k:=kh (by omega) (by omega)
    omega
   have R:(t%4294967296+g)%4294967296=0:=by omega
   have H:wv (N.drop j) k=wv (u.drop j) (k+1)-q*wv A k+wv A k:=by
    have:g*4294967296^k= -t*4294967296^k:=by rw[show g= -t by omega]
    rw[Int.neg_mul]at this;omega
   refine⟨_,rfl,q-1,_,rfl,by omega,by omega,by rw[gg,P,y],d2.set (by omega) (by omega),λi hi=>?_,λi hi=>?_,?_,?_⟩
   .rw [lW _ _ _ _,ax (by omega),F i hi,lW _ _ _ _,ax (by omega)];exact U i hi
   .rw [lW _ _ _ _,ax (by omega),G i (by omega),lW _ _ _ _,ax (by omega)];exact J i (by omega)
   .rw [xP,rq _ _ _ (by rw[lM];omega),R,ik,qh,od,H];omega
   rw[xP,rq _ _ _ (by rw[lM];omega),R,ik,H]
   have:wv (o.drop j) k+t*4294967296^k< 0:=by
    have:t*4294967296^k<=(-1)*4294967296^k:=kh (by omega) (by omega)
    omega
   omega
  rw[cM,b9,aw];have et:t%4294967296=t:=by omega
  rw[et];refine⟨_,rfl,q,_,rfl,Z,x,by rw[gg,y],a.set (by omega) (by omega),λi hi=>?_,λi hi=>?_,?_,?_⟩
  .rw [lW _ _ _ _,ax (by omega)];exact U i hi
  .rw [lW _ _ _ _,ax (by omega)];exact J i (by omega)
  .rw [xP,rq _ _ _ (by rw[lM];omega)];omega
  rw[xP,rq _ _ _ (by rw[lM];omega)];omega) ((0,0,0,()),(),u,()) ⟨0,0,0,u,rfl,by omega,rfl,v,by omega,by omega,by omega,by omega,λ_ _=>rfl,λ_ _=>rfl,by
  show(0:Int)+q*0=0+(0+0)*_;rw[Vw,lK,ik];rfl⟩
 exact⟨I,o,e,h⟩
theorem afL{a b s:Nat}(U:s<=31)(Z:a< 4294967296):((a+b*4294967296)/2^s%4294967296)*2^s+a%2^s=a+(b%2^s)*4294967296:=by
 have hB:(4294967296)=2^(32-s)*2^s:=by rw[<-ql,show 32-s+s=32 by omega]
 have I:0< 2^s:=nB (by omega)
 generalize hp:2^s=p at*;generalize c:2^(32-s)=A at*;have d:(a+b*4294967296)/p=a/p+b*A:=by
  rw[hB,<-Nat.mul_assoc,Nat.add_mul_div_right _ _ I]
 have e:a/p< A:=(Nat.div_lt_iff_lt_mul I).2 (by omega)
 have f:(a/p+b*A)%(A*p)=a/p+(b%p)*A:=by
  have h1:=(Gr b p).symm;have h2:a/p+b*A=(a/p+(b%p)*A)+(A*p)*(b/p):=by
   grind
  rw[h2,Nat.add_mul_mod_self_left];apply rG;have J:b%p+1<=p:=qk _ I;have g:=eB A J;grind
 have:=Gr a p;grind
theorem asU{a b:Int}(A:0<=a)(J:a< 4294967296)(I:0<=b)(U:b< 4294967296):wu (((word .u64 a).lor (word .u64 (wu (b*4294967296))):Nat):Int)=a+b*4294967296:=by
 obtain⟨r,rfl⟩:=fW I;obtain⟨y,rfl⟩:=fW A;have e:(r)*4294967296=((r*4294967296:Nat):Int):=by omega
 rw[bM (n:=(r)*4294967296),e,BB,BB];show wu ((y|||(r*4294967296)))=_
 rw[ais];show wu (((r*4294967296).lor y))=_;rw[abH,bM];omega
theorem ala{s:Nat}(z:Int×Unit){u A:List Int}(N:s<=31)(C:Dg u)(lu:u.length<=2199023255552:=by omega):
  OI (s:Int) (z,(),u,A,()) (((tl A A.length:Int),()),(),()) (((tl u u.length:Int),()),(),())=ab (sh A,nd (vN u/2^s),0,()):=by
 have h1:=gY u u.length;have V:=oX u;have O:=dB C;have B:∀m:Nat,aE m=(m:Int):=λ_=>rfl
 have J:∀m:Nat,(m:Int).toNat=m:=cW;obtain⟨m,hm⟩:∃m,m=tl u u.length:=⟨_,rfl⟩;have j:aY m u=sh u:=by rw[hm];rfl
 have k:w 0=0:=au;unfold OI;simp only[B,J];rw[iM h1,<-hm];by_cases W:s=0
 .subst W;have g:w (0-((0:Nat):Int))=((0:Nat):Int):=k;have P:(bif ai ((0:Nat):Int) 4096 then((0:Nat):Int)else 4096)=((0:Nat):Int):=rfl;have l:(((0:Nat):Int)).tdiv 32=0:=rfl;have hw:w (w ((m:Int)+w 0)+1)=((m+1:Nat):Int):=by
   rw[k,lK,au (n:=(m:Int)),au];rfl
  simp only[g,P,l,hw,cW];rw[bc,aw,cX (by grind[nk]),ak9]
  simp only[B,J,g,P];have Q:Rd (ρ:=List Int×List Int×Int×Unit) (sh u) (m:Int) (λi f=>bif ai 0 i&&ak i (m:Int)then(u[i.toNat]?).bind f else none):=by
   refine⟨by omega,λi f hi=>?_⟩
   show(bif ai 0 (i:Int)&&ak (i:Int) (m:Int)then(u[(i:Int).toNat]?).bind f else none)=_;rw[bS,bg,tf,ao,J,gN,FK,ah]
  obtain⟨o,e,D,h,U⟩:=T1 (s:=0) Q (λt=>(bt (aA (HD t) ((↑t.2.2.1.length,()),(),())) (HE (z,(),u,A,()) (((tl A A.length:Int),()),(),()) t)).bind λz=>ay z) (lF C) (by omega) (by omega)
  rw[show bT (m+1) (0:Int)=bT ((sh u).length+1) 0 by rw[V,hm],e]
  refine wW (x:=some (sh A,nd (vN u/2^0),0,())) ((T0 Q _).trans ?_);rw[show aA (HD ((((sh u).length:Int),()),(),o,())) _=_ from rl o (by omega),fT]
  unfold HE;simp only;have h1:=gY o o.length;rw[iM h1,ah,ah];simp only[J];rw[show aY (tl o o.length) o=nd (vN u/2^0)from Bi h (by simp[U,gX,aiu,VH,O])]
  rfl
 have g:w (0-(s:Int))= -(s:Int):=by rw[au];omega
 have c:w (0- -(s:Int))=(s:Int):=by rw[au];omega
 have Z:(s:Int).tmod 32=(s:Int):=MP (by omega) (by omega)
 have l:(s:Int).tdiv 32=0:=Gi (by omega) (by omega)
 have d:w ((m:Int)-0)=(m:Int):=by rw[Vy,au]
 simp only[g,c,l,k,d,J];rw[bg,ao,au];by_cases X:m=0
 .have q:sh u=[]:=yx.1 (by omega)
  have Y:vN u=0:=by
   have:=gX u;rw[q]at this;have:(0:Int)=dv u:=this;omega
  rw[bS,ao,Y,MX];rfl
 have hp:2^s<=2147483648:=tp (n:=2) (by omega) N
 have E:0< 2^s:=nB (by omega)
 have v:s.min 64=s:=nA (by omega)
 have I:=lF C;rw[di,aw,cX (by simp(disch:=omega) only [nk])]
 obtain⟨_,e,o,rfl,D,h,U⟩:=D8 (step:=HC (s:Int) (z,(),u,A,()) (((tl A A.length:Int),()),(),()) (((m:Int),()),(),()))
  (λi st=>∃o,st=(((i:Int),()),(),o,())/\o.length=m/\Dg o/\wv o i*((2^s:Nat):Int)+(sh u).getD 0 0%((2^s:Nat):Int)=wv (sh u) i+(sh u).getD i 0%((2^s:Nat):Int)*4294967296^i) m (by
  rintro i _ hi ⟨o,rfl,D,h,U⟩;unfold HC;simp only[B,J,g,c,Z,l,k,d,jm,j,lK];have F:=I.at i;have G:=I.at (i+1);have wi:w (i:Int)=(i:Int):=au;have H:w ((i:Int)+1)=((i+1:Nat):Int):=au;rw[bg,ao,wi,H,zp I,ah,zp I,ah,bc,aw,kJ,asU F.1 F.2 G.1 G.2,v];obtain⟨a,R⟩:=fW F.1;obtain⟨b,S⟩:=fW G.1;have y:wr .u32 (((sh u).getD i 0+(sh u).getD (i+1) 0*4294967296).fdiv ((2^s:Nat):Int))=(((a+b*4294967296)/2^s%4294967296:Nat):Int):=by
   rw[R,S,qd _ (by omega),jC]
   have:((a:Int)+(b:Int)*4294967296)=((a+b*4294967296:Nat):Int):=by omega
   rw[this];rw[<-Gf,BQ];rfl
  have hc:(2:Int)^s=((2^s:Nat):Int):=by rw[MO];rfl
  rw[hc,y];refine⟨_,rfl,_,rfl,by rw[gg];exact D,h.set (by omega) (by omega),?_⟩
  rw[rq _ _ _];have hk:=afL (b:=b) N (show a< 4294967296 by omega)
  generalize(a+b*4294967296)/2^s%4294967296=t at*;show _=wv (sh u) i+(sh u).getD i 0*4294967296^i+_;rw[R]at U|-;rw[S];rw[pw];have K:(t:Int)*((2^s:Nat):Int)+(a:Int)%((2^s:Nat):Int)=(a:Int)+((b:Int)%((2^s:Nat):Int))*4294967296:=by
   rw[<-BQ,<-BQ,<-kW];omega
  generalize((2^s:Nat):Int)=p at*;have L:(t*p+(a:Int)%p)*4294967296^i=(a:Int)*4294967296^i+(b:Int)%p*(4294967296^i*4294967296):=by
   rw[K,gz,jD ((b:Int)%p),vf 4294967296 (4294967296^i)]
  rw[gz]at L;rw[gz (wv o i),yq (t:Int)];omega) ((0,()),(),bT m 0,()) ⟨_,rfl,jm,Dg.rep _,by
   show(0:Int)*_+_=0+_*1;omega⟩
 refine e.trans (wW (x:=some (sh A,nd (vN u/2^s),0,())) ?_);unfold HC;simp only[B,J,g,c,Z,l,k,d,jm,j,lK];rw[bc,aw];rw[show aA (XO (((m:Int),()),(),o,())) _=_ from rl o (by omega),fT]
 unfold XP;simp only;rw[iM (gY o o.length),ah,ah];simp only[J];have hz:(sh u).getD m 0=0:=by
  rw[nv,jF (by omega)];rfl
 rw[hz,ahR,ik,lK,da o m (by omega),da (sh u) m (by omega),gX]at U
 have x0:=I.at 0;have T:=dB h;have hq:vN o=vN u/2^s:=by
  have M:=Ge ((sh u).getD 0 0) (show(0:Int)<((2^s:Nat):Int) by omega)
  obtain⟨r,er⟩:=fW (MM ((sh u).getD 0 0) (show((2^s:Nat):Int)≠0 by omega));rw[er]at U M;rw[<-T,<-O]at U;have h5:vN u=vN o*2^s+r:=by
   have:((vN u:Nat):Int)=((vN o*2^s+r:Nat):Int):=by rw[Vx,kW];exact U.symm
   omega
  rw[h5,lN,vq E,tm (by omega)];rfl
 rw[show aY (tl o o.length) o=nd (vN u/2^s)from Bi h (by rw[<-T,hq])]
 rfl
theorem nL(l:List Int){n i:Nat}(h:i< n:=by omega):(l.take n).getD i 0=l.getD i 0:=by
 grind
theorem agN(l:List Int)(j n:Nat)(h:j< l.length:=by omega):wv (l.drop j) (n+1)=l.getD j 0+4294967296*wv (l.drop (j+1)) n:=by
 rw[il h,UW,nv,gB h];rfl
theorem agO{l:List Int}{n:Nat}(h:∀i,n<=i->l.getD i 0=0):∀k,wv l (n+k)=wv l n
 |0=>rfl
 |k+1=>by
  show wv l (n+k)+l.getD (n+k) 0*_=_;rw[h _ (by omega),ik,lK,agO h k]
theorem alp{l:List Int}{n:Nat}(h:∀i,n<=i->l.getD i 0=0):dv l=wv l n:=by
 rw[<-agO h l.length,da _ _ (by omega)]
theorem alc{A u qs:List Int}{j m s:Nat}(z:Int×Unit)(I:Dg A)(D:m+2<=A.length)(J:Dg u)(E:j+(m+2)< u.length)(T:u.length<=1099511627777)(V:j< qs.length)(Z:2147483648<=A.getD (m+1) 0)
  (W:wv (u.drop (j+1)) (m+2)< wv A (m+2)):
  ∃U o,zs (s:Int) (z,(),A,()) (((m+2:Nat),()),(),()) (((j:Int),()),(),u,qs,())=ab (.inl (((j:Int)-1,()),(),o,qs.set j U,()))/\0<=U/\U< 4294967296/\o.length=u.length/\Dg o
   /\(∀i,i< j->o.getD i 0=u.getD i 0)/\(∀i,j+(m+2)< i->o.getD i 0=u.getD i 0)/\o.getD (j+(m+2)) 0=0/\U*wv A (m+2)+wv (o.drop j) (m+2)=wv (u.drop j) (m+3)/\wv (o.drop j) (m+2)< wv A (m+2):=by
 have e:w ((j:Int)+((m+2:Nat):Int))=((j+(m+2):Nat):Int):=by rw[au];omega
 have hw:w (((j+(m+2):Nat):Int)+1)=((j+(m+3):Nat):Int):=by rw[au];omega
 have F:∀m:Nat,aE m=(m:Int):=λ_=>rfl
 have t:∀m:Nat,(m:Int).toNat=m:=cW;have G:Dg ((u.drop j).take (m+3)):=(Dg.drop J j).take _;have f:Dg (A.take (m+2)):=I.take _;have H:((u.drop j).take (m+3)).length=m+3:=by rw[fI,lM];omega
 have g:(A.take (m+2)).length=m+2:=by rw[fI];omega
 have a:(A.getD (m+1) 0*4294967296+A.getD m 0)*4294967296^m+wv A m=wv A (m+2):=by
  show _=wv A m+A.getD m 0*4294967296^m+A.getD (m+1) 0*4294967296^(m+1);rw[pw,gz,jD,vf (4294967296:Int) (4294967296^m)];omega
 have b:((u.getD (j+(m+2)) 0*4294967296+u.getD (j+(m+1)) 0)*4294967296+u.getD (j+m) 0)*4294967296^m+wv (u.drop j) m=wv (u.drop j) (m+3):=by
  show _=wv (u.drop j) m+(u.drop j).getD m 0*4294967296^m+(u.drop j).getD (m+1) 0*4294967296^(m+1)+(u.drop j).getD (m+2) 0*4294967296^(m+2);rw[lU,lU,lU,pw,pw,pw,gz,gz,gz];rw[yq _ 4294967296 (4294967296^m),yq (u.getD (j+(m+2)) 0) 4294967296 (4294967296^m),yq (u.getD (j+(m+1)) 0) 4294967296 (4294967296^m),<-jD,<-jD,<-jD];omega
 have X:=J.at j;have k:wv (u.drop j) (m+3)< 4294967296*wv A (m+2):=by
  rw[agN u j (m+2)];omega
 have K:u.getD (j+(m+2)) 0<=A.getD (m+1) 0:=by
  have L:=(dW (Dg.drop J (j+1)) (m+1)).1;have M:=(dW I (m+1)).2;have Y:wv (u.drop (j+1)) (m+2)=wv (u.drop (j+1)) (m+1)+u.getD (j+(m+2)) 0*4294967296^(m+1):=by
   show _+(u.drop (j+1)).getD (m+1) 0*_=_;rw[lU,show j+1+(m+1)=j+(m+2) by omega]
  have e2:wv A (m+2)=wv A (m+1)+A.getD (m+1) 0*4294967296^(m+1):=rfl;have c:u.getD (j+(m+2)) 0*4294967296^(m+1)<(A.getD (m+1) 0+1)*4294967296^(m+1):=by
   rw[gz,od];omega
  have:=Vt c (ij (jw (m+1)));omega
 obtain⟨q,N,O,Q,x,y⟩:=amr (u:=(u.drop j).take (m+3)) (v:=A.take (m+2)) (m:=m) (vr:=wv A m) (ur:=wv (u.drop j) m) (P:=4294967296^m) G f g H (by omega) (jw m) (dW I m).1 (dW I m).2 (dW (Dg.drop J j) m).1 (dW (Dg.drop J j) m).2
  (by rw[nL _];exact Z) (by rw[nL _,nL _,lU];exact K) (by
   rw[nL _,nL _,nL _,nL _,nL _,lU,lU,lU,a,b];exact k)
 rw[nL _,nL _,nL _,nL _,nL _,lU,lU,lU,a,b]at x y;obtain⟨U,o,R,p0,B,lo,d,l,p,S,hR⟩:=ali (qs:=qs) (j:=j) (n:=m+2) z I D J E (by omega) O Q x y
 have xo:=d.at (j+(m+2));have r:wv (o.drop j) (m+3)=wv (o.drop j) (m+2)+o.getD (j+(m+2)) 0*4294967296^(m+2):=by
  show _+(o.drop j).getD (m+2) 0*_=_;rw[lU]
 have C:o.getD (j+(m+2)) 0=0:=by
  have L:=(dW (Dg.drop d j) (m+2)).1;have M:=(dW I (m+2)).2;have a3:wv (o.drop j) (m+3)< wv A (m+2):=hR;rcases qe 0 (o.getD (j+(m+2)) 0)with h|h<;>try grind
  have:1*4294967296^(m+2)<=o.getD (j+(m+2)) 0*4294967296^(m+2):=kh (by omega) (ij (jw _))
  rw[od]at this;omega
 rw[C,ik,lK]at r;refine⟨U,o,?_,p0,B,lo,d,l,p,C,by rw[<-r];exact S,by rw[<-r];exact hR⟩
 unfold zs;simp only[F,t,e,hw];rw[bS,ao,cX (by simp(disch:=omega) only [nk]),cX (by simp(disch:=omega) only [nk]),show j+(m+3)-j=m+3 by omega,N,ah,R,fT]
 unfold X9;simp only[t];rw[kJ,nn p0 B,au];rfl
theorem alb{A u qs:List Int}{m s L:Nat}(z:Int×Unit)(B:s<=31)(C:Dg A)(D:m+2<=A.length)(E:Dg u)(f:u.length=L+(m+2))(O:u.length<=1099511627777)(g:qs.length=L)(n:Dg qs)(U:2147483648<=A.getD (m+1) 0)
  (F:wv (u.drop L) (m+2)< wv A (m+2)):
  ∃a b:Nat,aA (zs (s:Int) (z,(),A,()) (((m+2:Nat),()),(),())) (((L:Int)-1,()),(),u,qs,())=ab (nd a,nd (b/2^s),0,())/\dv u=(a:Int)*wv A (m+2)+(b:Int)/\(b:Int)< wv A (m+2):=by
 have P:∀m:Nat,aE m=(m:Int):=λ_=>rfl
 have Q:∀m:Nat,(m:Int).toNat=m:=cW;obtain⟨_,e,o,p,rfl,lo,lp,d,dp,I,J,hR,Z⟩:=D8 (step:=zs (s:Int) (z,(),A,()) (((m+2:Nat),()),(),()))
  (λi st=>∃o p,st=((((L-i:Nat):Int)-1,()),(),o,p,())/\o.length=L+(m+2)/\p.length=L/\Dg o/\Dg p/\(∀k,k< L-i->o.getD k 0=u.getD k 0)/\(∀k,L-i+(m+2)<=k->o.getD k 0=0)/\wv (o.drop (L-i)) (m+2)< wv A (m+2)
   /\dv (u.drop (L-i))=dv (p.drop (L-i))*wv A (m+2)+wv (o.drop (L-i)) (m+2)) L (by
  rintro i _ hi ⟨o,p,rfl,lo,lp,d,dp,I,J,hR,Z⟩;obtain⟨j,t⟩:∃j,L-i=j+1:=⟨L-i-1,by omega⟩
  have q:L-(i+1)=j:=by omega
  rw[t]at I J hR Z;rw[t,q];obtain⟨G,H,e,K,M,N,d2,v,w,R,c,r⟩:=alc (s:=s) (qs:=p) (j:=j) z C D d (by omega) (by omega) (by omega) U hR
  rw[pr];refine⟨_,e,_,_,rfl,by omega,by grind,d2,dp.set K M,λk y=>by grind,λk y=>?_,r,?_⟩
  .rcases jH (j+(m+2)) k with h|h
   all_goals grind
  have S:=agN o j (m+2);have c:G*wv A (m+2)+wv (H.drop j) (m+2)=wv (o.drop j) (m+2+1):=c;rw[HN _ _ _ (by omega),zu u j (by omega),Z,<-I j (by omega)]
  grind) (((L:Int)-1,()),(),u,qs,()) ⟨u,qs,rfl,f,g,E,n,λ_ _=>rfl,λk y=>by
    grind,F,by
    rw[Nat.sub_zero,gZ (l:=qs) (by omega)]
    show dv (u.drop L)=0*_+_;rw[ik,Int.zero_add,da _ _ (by grind)]⟩
 rw[VM]at I J hR Z;rw[qi,qi,qi]at Z;rw[qi]at hR;have T:dv o=wv o (m+2):=alp λi hi=>J i (by omega)
 have V:=dB d;have W:=dB dp;refine⟨vN p,vN o,?_,by grind,by omega⟩
 refine e.trans (wW (x:=some (nd (vN p),nd (vN o/2^s),0,())) ?_);unfold zs;rw[VM,di (by simp),aw]
 rw[show aA (Ya ((((0:Nat):Int)-1,()),(),o,p,())) _=_ from rl p (by omega),fT]
 unfold XS;simp only;rw[iM (gY p p.length)];rw[show aA (XN ((((0:Nat):Int)-1,()),(),o,p,())) _=_ from rl o (by omega),fT,ala _ B d,rb dp]
 rfl
theorem agq{l:List Int}(h:Nm l):tl l l.length=l.length:=by
 cases e:l.length
 .rfl
 rename_i n;show(if l.getD n 0=0 then tl l n else n+1)=n+1;rw[ax];intro A;apply h;grind
theorem Yi(l:List Int):∀k,k<=l.length->dv l=wv l k+4294967296^k*dv (l.drop k)
 |0,_=>by rw[qi];show _=0+1*_;omega
 |k+1,h=>by
  rw[Yi l k (by omega),zu l k (by omega),pw,ahE]
  show _=wv l k+l.getD k 0*4294967296^k+_;rw[vf (l.getD k 0),jD];omega
theorem xn{a b:Nat}(h:a<=b:=by omega):(4294967296:Int)^a<=4294967296^b:=by
 obtain⟨k,rfl⟩:=Nat.le.dest h;rw[BS];have h2:=jw k;have:=qg (show(1)<=4294967296^k by omega) (ij (jw a))
 omega
theorem ald{a A u0:List Int}{m s:Nat}(z:Int×Unit)(g:s<=31)(d:Dg A)(h:m+2<=A.length)(j:Dg u0)(hA:m+2<=(sh a).length)(E:(sh a).length<=1099511627774)(k:u0.length<=(sh a).length+2)(I:2147483648<=A.getD (m+1) 0)
  (l:dv u0< 2147483648*4294967296^(sh a).length:=by omega):
  ∃p q:Nat,aA (C5 a (((tl a a.length:Nat),()),(),()) (s:Int) (z,(),A,()) (((m+2:Nat),()),(),())) ((u0,()),(),())=ab (nd p,nd (q/2^s),0,())/\dv u0=(p:Int)*wv A (m+2)+(q:Int)/\(q:Int)< wv A (m+2):=by
 have n:∀m:Nat,aE m=(m:Int):=λ_=>rfl
 have f:∀m:Nat,(m:Int).toNat=m:=cW;have J:aY (tl a a.length) a=sh a:=rfl;obtain⟨_,e,u,rfl,o,U,b⟩:=D8 (step:=C5 a (((tl a a.length:Nat),()),(),()) (s:Int) (z,(),A,()) (((m+2:Nat),()),(),()))
  (λi st=>∃u,st=((u,()),(),())/\u.length=u0.length+i/\Dg u/\dv u=dv u0) ((sh a).length+1-u0.length) (by
  rintro i _ hi ⟨u,rfl,o,U,b⟩;unfold C5;simp only[f,J];rw[bS,ao,cX (jX (by show(u.length+1)*4<=_;omega) (by show u.length+1<=_;omega))]
  refine⟨_,rfl,_,rfl,?_,?_,?_⟩
  .show (u++[0]).length=_;rw[List.length_append];show u.length+1=_;omega
  .intro x Z;rcases cE.1 Z with Z|Z
   .exact U x Z
   rw[List.mem_singleton.1 Z];omega
  show dv (u++[0])=_;rw[ON,b];show _+_*(0+4294967296*0)=_;omega) ((u0,()),(),()) ⟨u0,rfl,rfl,j,rfl⟩
 obtain⟨L,r⟩:∃L,u.length=L+(m+2):=⟨u.length-(m+2),by omega⟩
 have t:=Dg.drop U L;have F:wv (u.drop L) (m+2)=dv (u.drop L):=da _ _ (by rw[lM];omega)
 have G:=jw;have v:wv (u.drop L) (m+2)< wv A (m+2):=by
  have h1:=Yi u L (by omega)
  have h2:=(dW U L).1;have y:4294967296^L*dv (u.drop L)< 4294967296^L*(2147483648*4294967296^(m+1)):=by
   have H:(4294967296:Int)^(sh a).length<=4294967296^(L+(m+1)):=xn;have B:4294967296^L*(2147483648*4294967296^(m+1))=2147483648*(4294967296:Int)^(L+(m+1)):=by
    rw[BS _ L (m+1),Int.mul_left_comm]
   rw[B];omega
  have K:=Int.lt_of_mul_lt_mul_left y (ij (jw L));have M:=(dW d (m+1)).1;have N:2147483648*4294967296^(m+1)<=A.getD (m+1) 0*4294967296^(m+1):=kh I (ij (jw _));show _< wv A (m+1)+A.getD (m+1) 0*4294967296^(m+1);omega
 obtain⟨p,q,c,C,D⟩:=alb (s:=s) (qs:=bT L 0) z g d h U r (by omega) jm (Dg.rep _) I v
 refine⟨p,q,?_,by rw[<-b];exact C,D⟩
 refine e.trans (wW (x:=some (nd p,nd (q/2^s),0,())) ?_);unfold C5;have hw:w ((u.length:Int)-((m+2:Nat):Int))=(L:Int):=by rw[au];omega
 simp only[f,J,n,hw,jm];rw[di,aw,cX (by simp(disch:=omega) only [nk]),au,c]
 rfl
theorem ale{a A X0:List Int}{m s:Nat}(z:Int×Unit)(zz:Int×Unit)(b:s<=31)(c:Dg A)(d:m+2<=A.length)(f:Dg X0)(hA:m+2<=(sh a).length)(g:(sh a).length<=1099511627774)(h:X0.length<=(sh a).length+1)(I:2147483648<=A.getD (m+1) 0)
  (i:dv X0< 2147483648*4294967296^(sh a).length):
  ∃p q:Nat,C6 a (((tl a a.length:Nat),()),(),()) (s:Int) (z,(),A,()) (((m+2:Nat),()),(),()) (zz,(),X0,()) (((tl X0 X0.length:Nat),()),(),())=ab (nd p,nd (q/2^s),0,())/\dv X0=(p:Int)*wv A (m+2)+(q:Int)/\(q:Int)< wv A (m+2):=by
 have h1:=gY X0 X0.length;have U:aY (tl X0 X0.length) X0=sh X0:=rfl;have vs:dv (sh X0++[0])=dv X0:=by
  rw[ON,gX];show _+_*(0+4294967296*0)=_;omega
 obtain⟨p,q,e,Z,j⟩:=ald (a:=a) (u0:=sh X0++[0]) (s:=s) z b c d (by
  intro x J;rcases cE.1 J with J|J
  .exact lF f x J
  grind) hA g (by grind) I
 rw[vs]at Z;refine⟨p,q,?_,Z,j⟩;unfold C6;simp only[cW,U];rw[iM h1,cX (jX (by grind) (by grind)),mI,e]
theorem xe{l:List Int}(A:Dg l)(h:Nm l){n:Nat}(e:l.length=n+1:=by omega):0< l.getD n 0:=by
 have h1:=(A.at n).1;rcases qe 0 (l.getD n 0)with h2|h2
 .omega
 exfalso;apply h;grind
theorem avx{V0:List Int}{m s t:Nat}{R:Int}(j:s<=31)(I:Dg V0)(c:V0.length=m+3)(h1:2147483648<=t*2^s)(h2:t*2^s< 4294967296)(J:0<=R)(hR:R< 4294967296^(m+1))
  (d:dv V0=(R+(t:Int)*4294967296^(m+1))*((2^s:Nat):Int)):tl V0 V0.length=m+2/\2147483648<=V0.getD (m+1) 0/\wv V0 (m+2)=dv V0:=by
 have e:0< 2^s:=nB (by omega)
 have hB:(4294967296:Nat)=2^(32-s)*2^s:=by rw[<-ql,show 32-s+s=32 by omega]
 have k:(t+1)*2^s<=4294967296:=by
  rw[hB]at h2|-;exact eB _ (Nat.lt_of_mul_lt_mul_right h2)
 have U:=jw (m+1);generalize hp:2^s=p at*;have f:(R+(t:Int)*4294967296^(m+1))*(p:Int)< 4294967296*4294967296^(m+1):=by
  have Z:R+(t:Int)*4294967296^(m+1)<((t+1:Nat):Int)*4294967296^(m+1):=by
   grind
  have a:=Int.mul_lt_mul_of_pos_right Z (show(0:Int)<(p:Int) by omega)
  have l:((t+1:Nat):Int)*4294967296^(m+1)*(p:Int)<=4294967296*4294967296^(m+1):=by
   rw[yq,<-kW];exact kh (by omega) (ij U)
  omega
 have g:2147483648*4294967296^(m+1)<=(R+(t:Int)*4294967296^(m+1))*(p:Int):=by
  rw[gz,yq,<-kW];have Z:0<=R*(p:Int):=oc J (by omega)
  have a:2147483648*4294967296^(m+1)<=((t*p:Nat):Int)*4294967296^(m+1):=kh (by omega) (ij U)
  omega
 rw[<-d]at f g;have b:dv V0=wv V0 (m+1)+V0.getD (m+1) 0*4294967296^(m+1)+V0.getD (m+2) 0*(4294967296^(m+1)*4294967296):=by
  rw[<-da V0 (m+3) (by omega)];rfl
 have n:=I.at (m+2);have o:=dW I (m+1);have i:V0.getD (m+2) 0=0:=by
  rcases qe 0 (V0.getD (m+2) 0)with h|h<;>try grind
  have Z:1*(4294967296^(m+1)*4294967296)<=V0.getD (m+2) 0*(4294967296^(m+1)*4294967296):=kh (by omega) (by omega)
  have a:0<=V0.getD (m+1) 0*4294967296^(m+1):=oc (I.at (m+1)).1 (by omega)
  omega
 rw[i,ik,lK]at b;have A:2147483648<=V0.getD (m+1) 0:=by
  have:2147483648*4294967296^(m+1)<(V0.getD (m+1) 0+1)*4294967296^(m+1):=by
   rw[gz,od];omega
  have:=Vt this (ij U);omega
 refine⟨?_,A,b.symm⟩;rw[c];show(if V0.getD (m+2) 0=0 then(if V0.getD (m+1) 0=0 then tl V0 (m+1)else m+2)else m+3)=m+2;grind
theorem HL{a b:List Int}(E:Dg a)(W:Dg b)(la:a.length<=1099511627774:=by omega)(lb:b.length<=1099511627774:=by omega):
  divMod a b=ab (if vN b=0 then([],[],9,())else(nd (vN a/vN b),nd (vN a%vN b),0,())):=by
 have U:∀m:Nat,(m:Int).toNat=m:=cW;have C:∀m:Nat,aE m=(m:Int):=λ_=>rfl
 have h1:=gY a a.length;have h2:=gY b b.length;have l1:=oX a;have l2:=oX b;have i:=lF E;have A:=lF W;have F:dv (sh a)=(vN a:Int):=by rw[gX,dB E]
 have g:dv (sh b)=(vN b:Int):=by rw[gX,dB W]
 have X:vN (sh a)=vN a:=by simp[vN,gX]
 have wb:vN (sh b)=vN b:=by simp[vN,gX]
 have I:aY (tl a a.length) a=sh a:=rfl;have c:aY (tl b b.length) b=sh b:=rfl;have G:tl (sh a) (sh a).length=(sh a).length:=agq (n2 a);have H:tl (sh b) (sh b).length=(sh b).length:=agq (n2 b);have Y:w 0=0:=au;unfold divMod;rw[show aA (XL a) _=_ from o5 a (by omega),fT]
 unfold XZ;rw[iM h1,show aA (XM b) _=_ from o5 b (by omega),fT]
 unfold XY;simp only[U,I,c];rw[iM h2];by_cases K:(sh b).length=0
 .have:vN b=0:=by
   rw[yx.1 K]at g;have:(0:Int)=(vN b:Int):=g;omega
  rw[cM,ao,aK this]
 have j:0< vN b:=by
  rcases Nat.eq_zero_or_pos (vN b)with h|h
  .exfalso;have:=HT A (n2 b) (by omega)
   grind
  omega
 rw[bQ,aw,ax (by omega),Xq i A,ah,X,wb]
 by_cases J:vN a< vN b
 .unfold gI;rw[aK J,bg,ao,cX (jX),tm J,rG J,rb E,asc]
 have hc:ak (gI (vN a) (vN b)) 0=af:=by
  unfold gI;rw[ax J];split;all_goals rfl
 rw[hc,aw];by_cases L:(sh b).length=1
 .obtain ⟨d,ed⟩:=List.length_eq_one_iff.1 L;have hd:=A d (by grind)
  have M:d=(vN b:Int):=by
   rw[<-g,ed];show d=d+4294967296*0;omega
  rw[cM,ao,ed];show(one (sh a) d).bind _=_;rw[asK i,ah,X,M,U];have hm:=qk (vN a) j;obtain⟨r,er⟩:∃r,r=vN a%vN b:=⟨_,rfl⟩;rw[<-er]at hm|-;show(ue (wu ((r:Nat):Int))).bind _=_;rw[bM,Ii,ah,U]
 obtain⟨m,hm⟩:∃m,(sh b).length=m+2:=⟨(sh b).length-2,by omega⟩
 have axo:=xe A (n2 b) (n:=m+1);have k:=A.at (m+1);obtain⟨t,ht⟩:=fW k.1;obtain⟨s,es,l,N,O⟩:=arP (n:=t);have D:(bif ai ((s:Nat):Int) 4096 then((s:Nat):Int)else 4096)=(s:Int):=by rw[bS,ao]
 have Z:(s:Int).tdiv 32=0:=Gi (by omega) (by omega)
 have P:dv (sh b)=wv (sh b) (m+1)+(t:Int)*4294967296^(m+1):=by
  rw[<-da (sh b) (m+2) (by omega),<-ht];rfl
 have Q:m+2<=(sh a).length:=by
  rcases jH (sh a).length (m+2)with h|h<;>try trivial
  have:=zy i A (n2 b);rw[F,g]at this;omega
 rw[bQ,aw,au,show((sh b).length:Int)-1=((m+1:Nat):Int) by omega,fS,ht,es,ah,cX (bS)]
 rw[show aA (XT b ((((tl b b.length:Nat):Int),()),(),())) ((((sh b).length:Int),()),(),())=_ from o5 (sh b) (by omega),fT,H]
 have u:aY (sh b).length (sh b)=sh b:=VF;have v:aY (sh a).length (sh a)=sh a:=VF;unfold XX;simp only[U,c,u,C,D,Z,Y,lK];rw[iM (aL _),au (n:=((sh b).length:Int)),au (n:=((sh b).length:Int)+1),cX (by simp(disch:=omega) only [nk]),alg]
 simp only[U,c,u,C,D];obtain⟨V0,eV,lV,dV,S⟩:=T1 (s:=s) (Rd.aQ (sh b)) (λst=>(bt (aA (HH st) ((↑st.2.2.1.length,()),(),())) (HG a ((((tl a a.length:Nat):Int),()),(),()) (s:Int) st)).bind λz=>ay z) A l (by omega)
 rw[show(((sh b).length:Int)+1).toNat=(sh b).length+1 by omega,eV]
 rw[g]at S;obtain⟨t1,t2,t3⟩:=avx (V0:=V0) (m:=m) (t:=t) (R:=wv (sh b) (m+1)) l dV (by omega) N O (dW A (m+1)).1 (dW A (m+1)).2 (by rw[S,<-g,P])
 refine wW ((T0 (Rd.aQ (sh b)) _).trans ?_);rw[show aA (HH ((((sh b).length:Int),()),(),V0,())) _=_ from rl V0 (by omega),fT,t1]
 unfold HG;simp only[U,I];rw[iM (by omega),show aA (X8 a ((((tl a a.length:Nat):Int),()),(),())) ((((sh a).length:Int),()),(),())=_ from o5 (sh a) (by omega),fT,G]
 unfold XV;simp only[U,I,v,C,D,Z,Y,lK];rw[iM (aL _),au (n:=((sh a).length:Int)),au (n:=((sh a).length:Int)+1),cX (by simp(disch:=omega) only [nk]),alf]
 simp only[U,I,v,C,D];obtain⟨X0,eX,lX,dX,T⟩:=T1 (s:=s) (Rd.aQ (sh a)) (λst=>(bt (aA (HI st) ((↑st.2.2.1.length,()),(),())) (C6 a ((((tl a a.length:Nat):Int),()),(),()) (s:Int) ((((sh b).length:Int),()),(),V0,()) ((((m+2:Nat):Int),()),(),()) st)).bind λz=>ay z) i l (by omega)
 rw[show(((sh a).length:Int)+1).toNat=(sh a).length+1 by omega,eX]
 rw[F]at T;have e:0< 2^s:=nB (by omega)
 have axm:2^s<=2147483648:=tp (n:=2) (by omega) l
 have y:dv X0< 2147483648*4294967296^(sh a).length:=by
  have a1:=(dW i (sh a).length).2;rw[da _ _ (aL _),F]at a1;rw[T,vf];have a2:((2^s:Nat):Int)*(vN a:Int)<((2^s:Nat):Int)*4294967296^(sh a).length:=Int.mul_lt_mul_of_pos_left a1 (by omega)
  have a3:((2^s:Nat):Int)*4294967296^(sh a).length<=2147483648*4294967296^(sh a).length:=kh (by omega) (ij (jw _))
  omega
 obtain⟨p,q,eD,V,hq⟩:=ale (a:=a) (s:=s) (((sh b).length:Int),()) (((sh a).length:Int),()) l dV (by omega) dX Q (by omega) (by omega) t2 y
 rw[t3,S]at V hq;rw[T]at V;have hN:vN a*2^s=p*(vN b*2^s)+q:=by
  have:((vN a*2^s:Nat):Int)=((p*(vN b*2^s)+q:Nat):Int):=by
   rw[Vx,kW,kW,kW];exact V
  omega
 have B:q< vN b*2^s:=by
  rw[<-kW]at hq;omega
 have f:0< vN b*2^s:=aip j e;have ep:vN a/vN b=p:=by
  rw[<-aim _ _ e,hN,lN p,vq f,tm B];rfl
 have eq:vN a%vN b=q/2^s:=by
  have:vN a%vN b*2^s=q:=by
   rw[<-MV,hN,lN p,B0,rG B]
  rw[<-this,ail _ e]
 rw[ep,eq];refine congrArg (λo=>Option.bind o _) (wW (x:=some (nd p,nd (q/2^s),0,())) ((T0 (Rd.aQ (sh a)) _).trans ?_))
 rw[show aA (HI ((((sh a).length:Int),()),(),X0,())) _=_ from rl X0 (by omega),fT,eD]
 rfl
theorem mW{p q:Nat}(h:p<=q):(nd p).length<=(nd q).length:=by
 rcases jH (nd q).length (nd p).length with h1|h1
 .have:=zy (eH q) (eH p) (Ar p) h1;grind[pO]
 omega
theorem uC{n:Nat}(h:(nd n).length=0):n=0:=asb.1 (yx.1 h)
theorem amk{a b:List Int}(J:Dg a)(U:Dg b)(g:a.length<=1099511627774:=by omega)(i:b.length<=1099511627774:=by omega):gcd a b=ab (nd (g8 (vN a) (vN b))):=by
 unfold gcd;have Z:=Bh a;have c:=Bh b;rw[rb J]at Z;rw[rb U]at c;rw[J3 (by omega) J,ah,J3 (by omega) U,ah]
 obtain⟨r,e,rfl⟩:=eW (step:=Pn) (λs=>∃p q:Nat,s=((nd p,nd q,()),(),())/\(nd p).length<=1099511627774/\(nd q).length<=1099511627774/\g8 p q=g8 (vN a) (vN b)) (λs=>vN s.1.2.1) (λr=>r=nd (g8 (vN a) (vN b))) (by
  rintro _ ⟨p,q,rfl,hp,I,d⟩;unfold Pn;dsimp only;by_cases h:(nd q).length=0
  .right;have:=uC h;subst this;rw[bc,aw];refine⟨_,rfl,?_⟩;grind
  left;have A:q≠0:=λf=>h (by rw[f];rfl)
  rw[bg,ao,HL (eH p) (eH q) hp I,gd,gd,ax A,ah];have hm:=qk p (ait A);refine⟨_,rfl,⟨q,p%q,rfl,I,bX (mW (dk hm)) I,?_⟩,?_⟩
  .rw [<-d,MU p q,aib q p,MU]
  show vN (nd (p%q))< _;rw[gd];exact hm) ((nd (vN a),nd (vN b),()),(),()) ⟨_,_,rfl,by omega,by omega,rfl⟩
 exact e
def dP(n:Nat):Nat:=if n=0 then 0 else n.log2+1
theorem NW{n k:Nat}(h1:n< 2^k)(h2:2^(k-1)<=n)(I:1<=k:=by omega):dP n=k:=by
 have A:n≠0:=by
  grind
 unfold dP;rw[ax A];have J:=(aih A).2 h1;have U:=(Nat.le_log2 A).2 h2;omega
theorem Ea(n:Nat):n< 2^dP n:=by
 unfold dP;split;all_goals simp_all[Nat.one_pos,Nat.lt_log2_self]
theorem WT{n k:Nat}(h:n< 2^k:=by omega):dP n<=k:=by
 unfold dP;split
 .omega
 rename_i A;have:=(aih A).2 h;omega
theorem WL{a:List Int}(U:Dg a)(p:a.length<=1099511627774:=by omega):bitLen a=ab (dP (vN a):Int):=by
 have c:∀m:Nat,(m:Int).toNat=m:=cW;have h1:=gY a a.length;have q:=oX a;have I:=lF U;have J:dv (sh a)=(vN a:Int):=by rw[gX,dB U]
 unfold bitLen;rw[show aA (WJ a) _=_ from o5 a (by omega),fT]
 unfold WK;simp only[c];rw[show aY (tl a a.length) a=sh a from rfl,iM h1];cases e:(sh a).length with
 |zero=>
  have:vN a=0:=by
   rw[yx.1 e]at J;have:(0:Int)=(vN a:Int):=J;omega
  rw[cM,ao,this];rfl
 |succ m=>
  have Z:=xe I (n2 a) e;have A:=I.at m;obtain⟨t,b⟩:=fW A.1;rw[bQ,aw,au (n:=((m+1:Nat):Int)-1),pr,fS,b];obtain⟨k,d,k1,k2,f,g⟩:=Rp (n:=t);rw[d,ah,au (n:=32*(m:Int)),au];have r:vN a=(wv (sh a) m).toNat+t*2^(32*m):=by
   have hw:=dW I m;have h:dv (sh a)=wv (sh a) m+(sh a).getD m 0*4294967296^m:=by
    rw[<-da (sh a) (m+1) (by omega)];rfl
   rw[b,J]at h;have i:(4294967296:Int)^m=((2^(32*m):Nat):Int):=by
    simp[VL,MO]
   grind
  have j:(wv (sh a) m).toNat< 2^(32*m):=by
   have hw:=dW I m;have i:(4294967296:Int)^m=((2^(32*m):Nat):Int):=by
    simp[VL,MO]
   omega
  have l:dP (vN a)=32*m+k:=by
   refine NW ?_ ?_
   .rw [ql];have o:(t+1)*2^(32*m)<=2^k*2^(32*m):=eB _ f;grind
   rw[show 32*m+k-1=32*m+(k-1) by omega,ql,lN (2^(32*m))]
   have o:=eB (2^(32*m)) g;omega
  simp[l]
theorem tk1(l:List Int){i:Nat}(h:i< l.length:=by omega):l.take i++[l.getD i 0]=l.take (i+1):=by
 simp_all
theorem tX{l:List Int}(h:Dg l){d:Int}(I:0<=d:=by omega)(h1:d< 4294967296:=by omega):Dg (l++[d]):=by
 intro x A;rcases cE.1 A with A|A
 .exact h x A
 grind
theorem C9(l:List Int)(d:Int):dv (l++[d])=dv l+d*4294967296^l.length:=by
 rw[ON];show _+_*(d+4294967296*0)=_;grind
theorem qZ{α:Type}(l:List α)(x:α)(n:Nat)(h:(l.length+1)*n<=70368744177664:=by omega)(A:1<=n:=by omega):bZ (l.length+[x].length) n=ag:=by
 refine jX h ?_;show l.length+1<=_;have:=aie (l.length+1) A;omega
theorem aez{a:List Int}(h:a.length<=2199023255552:=by omega):jy a=ab (sh a):=by
 have h1:=gY a a.length;unfold jy;rw[show aA (aeA a) _=_ from o5 a (by omega)]
 obtain⟨r,e,rfl⟩:=eW (step:=S9 a ((((tl a a.length)),()),(),())) (λs=>∃i:Nat,s=((a.take i,(i:Int),()),(),())/\i<=tl a a.length) (λs=>((tl a a.length)-s.1.2.1).toNat) (λr=>r=sh a) (by
  rintro _ ⟨i,rfl,hi⟩;unfold S9;dsimp only;by_cases h2:i< tl a a.length
  .left;rw[bg,fS,cX (qZ _ _ _ (by grind)),mI,tk1 a,au]
   refine⟨_,rfl,⟨i+1,rfl,by omega⟩,?_⟩
   grind
  right;rw[bc];exact⟨_,rfl,by rw[show i=tl a a.length by omega];rfl⟩) (([],0,()),(),()) ⟨0,rfl,by omega⟩
 exact e
theorem m9{a:List Int}(h:a.length<=2199023255552)(A:Dg a):jy a=ab (nd (vN a)):=by rw[aez h,rb A]
theorem qV{a:List Int}(h:Dg a)(i:Nat):mf a i=ab (a.getD i 0):=by
 unfold mf;have A:=h.at i;by_cases hi:i< a.length
 .rw [bc,iU,ah,di,aw,fS hi,bM]
 rw[bc,iU,ah,bS,nv,jF (by omega)];rfl
theorem G2{o:List Int}{t P:Int}(A:P=4294967296^o.length):dv (o++[t%4294967296])+t/4294967296*(P*4294967296)=dv o+t*P:=by
 rw[C9];grind
theorem at1{a:List Int}{f:Int}(I:Dg a)(h:a.length<=1099511627776:=by omega)(f0:0<=f:=by omega)(f1:f< 4294967296:=by omega):KN a f=ab (nd (vN a*f.toNat)):=by
 unfold KN;obtain⟨r,e,rfl⟩:=eW (step:=Te a f) (λs=>∃(o:List Int) (c:Int) (i:Nat),s=((o,c,(i:Int),()),(),())/\i<=a.length/\o.length=i/\Dg o/\0<=c/\c< 4294967296/\dv o+c*4294967296^i=wv a i*f) (λs=>((a.length:Int)-s.1.2.2.1).toNat) (λr=>r=nd (vN a*f.toNat)) (by
  rintro _ ⟨o,c,i,rfl,hi,J,U,c0,c1,b⟩;unfold Te;dsimp only;by_cases h2:i< a.length
  .left;have Z:=I.at i;have hm:=Am Z.1 Z.2 f0 f1;rw[bg,ao,fS h2,bM (n:=a.getD i 0),bM (n:=a.getD i 0*f),bM (n:=_+c),kx,jC,cX (qZ _ _ _),mI,au];refine⟨_,rfl,⟨_,_,i+1,rfl,by omega,by grind,tX U,by omega,by omega,?_⟩,?_⟩
   .rw [pw,G2 (by rw[J]),gz]
    show _=(wv a i+a.getD i 0*4294967296^i)*f;grind
   grind
  right;obtain rfl:i=a.length:=by omega
  have A:Dg (o++[c]):=tX U c0 c1;rw[bc,aw,nn c0 c1,cX (qZ _ _ _),mI,m9 (by grind) A,ah,ah]
  refine⟨_,rfl,?_⟩;congr 1;have d:=dB A;rw[C9,J,b,da _ _ (aL _),<-dB I]at d;grind) (([],0,0,()),(),()) ⟨[],0,0,rfl,by omega,rfl,Dg.nil,by omega,by omega,by
    show(0:Int)+0*_=0*f;omega⟩
 exact e
theorem aes{a b:List Int}(J:Dg a)(U:Dg b)(g:a.length<=1099511627776:=by omega)(j:b.length<=1099511627776:=by omega):KI a b=ab (nd (vN a+vN b)):=by
 obtain⟨m,hm,Z,A⟩:∃m:Nat,(bif ai (a.length:Int) (b.length:Int)then(b.length:Int)else(a.length:Int))=(m:Int)/\a.length<=m/\b.length<=m/\m<=1099511627776:=by
  by_cases h:a.length<=b.length
  .exact ⟨b.length,by rw[bS];rfl,h,aL _,j⟩
  exact⟨a.length,by rw[di];rfl,aL _,by omega,g⟩
 have k:=A.2;unfold KI;obtain⟨r,e,rfl⟩:=eW (step:=SZ a b) (λs=>∃(o:List Int) (c:Int) (i:Nat),s=((o,c,(i:Int),()),(),())/\i<=m/\o.length=i/\Dg o/\0<=c/\c<=1/\dv o+c*4294967296^i=wv a i+wv b i) (λs=>((m:Int)-s.1.2.2.1).toNat) (λr=>r=nd (vN a+vN b)) (by
  rintro _ ⟨o,c,i,rfl,hi,d,f,c0,c1,l⟩;unfold SZ;dsimp only;rw[hm];by_cases h2:i< m
  .left;have q:=J.at i;have t:=U.at i;rw[bg,ao,qV J,ah,qV U,ah,bM (n:=a.getD i 0+b.getD i 0),bM (n:=_+c),kx,jC,cX (qZ _ _ _),mI,au];refine⟨_,rfl,⟨_,_,i+1,rfl,by omega,by grind,tX f,by omega,by omega,?_⟩,?_⟩
   .rw [pw,G2 (by rw[d]),gz,gz]
    show _=wv a i+a.getD i 0*4294967296^i+(wv b i+b.getD i 0*4294967296^i);omega
   grind
  right;obtain rfl:i=m:=by omega
  have I:Dg (o++[c]):=tX f c0;rw[bc,aw,nn c0,cX (qZ _ _ _),mI,m9 (by grind) I,ah,ah]
  refine⟨_,rfl,?_⟩;congr 1;have p:=dB I;rw[C9,d,l,da _ _ Z,da _ _ A.1,<-dB J,<-dB U]at p;omega) (([],0,0,()),(),()) ⟨[],0,0,rfl,by omega,rfl,Dg.nil,by omega,by omega,rfl⟩
 exact e
theorem aeu{a b:List Int}(I:Dg a)(J:Dg b)(c:a.length<=1099511627776:=by omega)(d:b.length<=1099511627776:=by omega):EY a b=ab (gI (vN a) (vN b)):=by
 have k:=dB I;have l:=dB J;obtain⟨m,hm,U,Z,f⟩:∃m:Nat,(bif ai (a.length:Int) (b.length:Int)then(b.length:Int)else(a.length:Int))=(m:Int)/\a.length<=m/\b.length<=m/\m<=1099511627776:=by
  by_cases h:a.length<=b.length
  .exact ⟨b.length,by rw[bS];rfl,h,aL _,d⟩
  exact⟨a.length,by rw[di];rfl,aL _,by omega,c⟩
 have n:=da a m U;have o:=da b m Z;unfold EY;rw[hm,au];obtain⟨r,e,rfl⟩:=eW (step:=KJ a b) (λs=>∃i:Nat,s=(((i:Int)-1,()),(),())/\i<=m/\∀j,i<=j->j< m->a.getD j 0=b.getD j 0) (λs=>(s.1.1+1).toNat) (λr=>r=gI (vN a) (vN b)) (by
  rintro _ ⟨i,rfl,hi,g⟩;have A:=UX a b hi g;cases i with
  |zero=>
   right;unfold KJ;rw[di (by trivial),aw]
   refine⟨_,rfl,?_⟩;have:wv a m-wv b m=0:=A;have e:vN a=vN b:=by omega
   unfold gI;omega
  |succ i=>
   unfold KJ;simp only[pr];rw[bS,ao,qV I,ah,qV J,ah];by_cases h1:a.getD i 0< b.getD i 0
   .right;rw[bg h1,ao];refine⟨_,rfl,?_⟩;have:=Mm I J h1;unfold gI;omega
   rw[bc,aw,ah,ah];by_cases h2:b.getD i 0< a.getD i 0
   .right;rw[bg h2,ao];refine⟨_,rfl,?_⟩;have:=Mm J I h2;unfold gI;omega
   left;rw[bc,aw,au];refine⟨_,rfl,⟨i,rfl,by omega,λj p q=>?_⟩,?_⟩
   all_goals grind) (((m:Int)-1,()),(),()) ⟨m,rfl,aL _,λj h1 h2=>by omega⟩
 exact e
theorem AV{a b:List Int}(I:Dg a)(J:Dg b)(f:a.length<=1099511627776:=by omega)(g:b.length<=1099511627776:=by omega):xt a b=ab (if vN a< vN b then([],af,())else(nd (vN a-vN b),ag,())):=by
 have q:=dB I;have u:=dB J;unfold xt;rw[aeu I J f g,ah];by_cases A:vN a< vN b
 .rw [aK A];unfold gI;rw[aK A,bg,ao]
 have h:ak (gI (vN a) (vN b)) 0=af:=by
  unfold gI;rw[ax A];split;all_goals rfl
 rw[ax A,h,aw];obtain⟨r,e,rfl⟩:=eW (step:=Td a b) (λs=>∃(o:List Int) (c:Int) (i:Nat),s=((o,c,(i:Int),()),(),())/\i<=a.length/\o.length=i/\Dg o/\0<=c/\c<=1/\dv o-c*4294967296^i=wv a i-wv b i) (λs=>((a.length:Int)-s.1.2.2.1).toNat) (λr=>r=(nd (vN a-vN b),ag,())) (by
  rintro _ ⟨o,c,i,rfl,hi,j,U,c0,c1,k⟩;unfold Td;dsimp only;by_cases h2:i< a.length
  .left;have v:=I.at i;have w:=J.at i;rw[bg,ao,qV I,ah,qV J,ah,bM (n:=4294967296+a.getD i 0),bM (n:=_-b.getD i 0),bM (n:=_-c),kx,jC,bM,cX (qZ _ _ _),mI,au];refine⟨_,rfl,⟨_,_,i+1,rfl,by omega,by grind,tX U,by omega,by omega,?_⟩,?_⟩
   .generalize x:4294967296+a.getD i 0-b.getD i 0-c=t;have y:=G2 (o:=o) (t:=t) (P:=4294967296^i) (by rw[j])
    rw[pw,qh 1,od];show _=wv a i+a.getD i 0*4294967296^i-(wv b i+b.getD i 0*4294967296^i);grind
   grind
  right;obtain rfl:i=a.length:=by omega
  rw[bc,aw,m9 (by omega) U,ah,ah]
  refine⟨_,rfl,?_⟩;have z:=dB U;have Z:(sh b).length<=a.length:=by
   rcases jH a.length (sh b).length with d|d
   .have:=zy I (lF J) (n2 b) d;grind[gX]
   omega
  have l:wv b a.length=dv b:=by rw[u7,da _ _ Z,gX]
  rw[da _ _ (aL _),l]at k;have m:=dW U a.length;rw[da _ _ (by omega)]at m
  have p:c=0:=by
   grind
  grind) (([],0,0,()),(),()) ⟨[],0,0,rfl,by omega,rfl,Dg.nil,by omega,by omega,rfl⟩
 exact e
theorem at2{a:List Int}{n:Nat}(b:Dg a)(h:a.length<=1099511627776)(g:n<=31):KO a (n:Int)=ab (nd (vN a*2^n)):=by
 have Z:0< 2^n:=nB (by omega)
 have hp:2^n<=2147483648:=tp (n:=2) (by omega) g
 have U:(n:Int).tdiv 32=0:=Gi (by omega) (by omega)
 have hm:(n:Int).tmod 32=(n:Int):=MP (by omega) (by omega)
 have j:w 0=0:=au;have A:n.min 64=n:=nA (by omega)
 have k:(2:Int)^n=((2^n:Nat):Int):=by rfl
 unfold KO;rw[U,j,cX (by rfl)]
 obtain⟨p,I⟩:∃p,p=2^n:=⟨_,rfl⟩;rw[<-I]at Z hp|-;obtain⟨r,e,rfl⟩:=eW (step:=Tf a (n:Int)) (λs=>∃(o:List Int) (c:Int) (i:Nat),s=((o,c,(i:Int),()),(),())/\i<=a.length/\o.length=i/\Dg o/\0<=c/\c< 4294967296/\dv o+c*4294967296^i=wv a i*(p:Int)) (λs=>((a.length:Int)-s.1.2.2.1).toNat) (λr=>r=nd (vN a*p)) (by
  rintro _ ⟨o,c,i,rfl,hi,d,U,c0,c1,l⟩;unfold Tf;dsimp only;rw[hm,bM (n:=(n:Int)),cW,A];by_cases h2:i< a.length
  .left;have f:=b.at i;have m:=Am (y:=(p:Int)) f.1 f.2;rw[bg,ao,fS h2,k,<-I,bM (n:=a.getD i 0),bM (n:=a.getD i 0*(p:Int)),bM (n:=_+c),kx,jC,cX (qZ _ _ _),mI,au];refine⟨_,rfl,⟨_,_,i+1,rfl,by omega,by grind,tX U,by omega,by omega,?_⟩,?_⟩
   .rw [pw,G2 (by rw[d]),gz]
    show _=(wv a i+a.getD i 0*4294967296^i)*(p:Int);grind
   grind
  right;obtain rfl:i=a.length:=by omega
  have J:Dg (o++[c]):=tX U c0 c1;rw[bc,aw,nn c0 c1,cX (qZ _ _ _),mI,m9 (by grind) J,ah,ah]
  refine⟨_,rfl,?_⟩;congr 1;have q:=dB J;rw[C9,d,l,da _ _ (aL _),<-dB b]at q;omega) (([],0,0,()),(),()) ⟨[],0,0,rfl,by omega,rfl,Dg.nil,by omega,by omega,by
    show(0:Int)+0*_=0*_;omega⟩
 exact e
theorem S6{a:List Int}{n:Nat}(A:Dg a)(h:a.length<=1099511627776:=by omega)(I:n<=31:=by omega):sJ a (n:Int)=ab (nd (vN a*2^n)):=by
 unfold sJ;rw[bS,ao,bS,ao,at2 A h I,ah]
theorem aey{a:List Int}{n:Nat}(I:Dg a)(h:a.length<=1099511627776)(l:n<=31:=by omega):sJ a (w (0-(n:Int)))=ab (nd (vN a/2^n)):=by
 have m:=dB I;by_cases v:n=0
 .subst v;have:w (0-((0:Nat):Int))=((0:Nat):Int):=au;rw[this,S6 I h,aiu,Nat.mul_one,VH]
 have f:0< 2^n:=nB (by omega)
 have hp:2^n<=2147483648:=tp (n:=2) (by omega) l
 have z:(n:Int).tdiv 32=0:=Gi (by omega) (by omega)
 have hm:(n:Int).tmod 32=(n:Int):=MP (by omega) (by omega)
 have B:w (0-(n:Int))= -(n:Int):=by rw[au];omega
 have J:w (0- -(n:Int))=(n:Int):=by rw[au];omega
 have C:w 0=0:=au;have U:n.min 64=n:=nA (by omega)
 have D:(2:Int)^n=((2^n:Nat):Int):=by rfl
 unfold sJ;rw[B,di,aw,au];by_cases d:a.length=0
 .have:vN a=0:=by
   rw[yx.1 d]at m;have:((vN a:Nat):Int)=0:=by rw[yx.1 d];rfl
   omega
  rw[bg,ao,this,MX];rfl
 rw[bc,aw,J,z,C];obtain⟨r,e,rfl⟩:=eW (step:=Tc a (-(n:Int))) (λs=>∃(o:List Int) (i:Nat),s=((o,(i:Int),()),(),())/\i<=a.length/\o.length=i/\Dg o/\dv o*((2^n:Nat):Int)+a.getD 0 0%((2^n:Nat):Int)=wv a i+a.getD i 0%((2^n:Nat):Int)*4294967296^i) (λs=>((a.length:Int)-s.1.2.1).toNat) (λr=>r=nd (vN a/2^n)) (by
  rintro _ ⟨o,i,rfl,hi,E,A,Z⟩;unfold Tc;dsimp only;rw[J,hm,bM (n:=(n:Int)),cW,U];by_cases h2:i< a.length
  .left;have F:=I.at i;have G:=I.at (i+1);obtain⟨x,q⟩:=fW F.1;obtain⟨y,u⟩:=fW G.1;rw[bg,ao,au (n:=(i:Int)+1),show(i:Int)+1=((i+1:Nat):Int) by omega,qV I,ah,qV I,ah,q,u,bM (n:=(y:Int)*4294967296),bM]
   have c:wr .u32 (((y:Int)*4294967296+(x:Int)).fdiv ((2^n:Nat):Int))=(((x+y*4294967296)/2^n%4294967296:Nat):Int):=by
    rw[qd _ (by omega),jC,show(y:Int)*4294967296+(x:Int)=((x+y*4294967296:Nat):Int) by omega,<-Gf,BQ]
    rfl
   rw[D,c,cX (qZ _ _ _),mI];refine⟨_,rfl,⟨_,i+1,rfl,by omega,by grind,tX A,?_⟩,?_⟩
   .have M:=afL (b:=y) l (show x< 4294967296 by omega)
    rw[C9,E,pw];generalize(x+y*4294967296)/2^n%4294967296=t at*;show _=wv a i+a.getD i 0*4294967296^i+_;rw[q]at Z|-;rw[u];have g:(t:Int)*((2^n:Nat):Int)+(x:Int)%((2^n:Nat):Int)=(x:Int)+((y:Int)%((2^n:Nat):Int))*4294967296:=by
     rw[<-BQ,<-BQ,<-kW];omega
    generalize((2^n:Nat):Int)=p at*;have j:(t*p+(x:Int)%p)*4294967296^i=(x:Int)*4294967296^i+(y:Int)%p*(4294967296^i*4294967296):=by
     rw[g,gz,jD ((y:Int)%p),vf 4294967296 (4294967296^i)]
    rw[gz]at j;rw[gz (dv o),yq (t:Int)];omega
   grind
  right;obtain rfl:i=a.length:=by omega
  rw[bc,aw,m9 (by omega) A,ah,ah]
  refine⟨_,rfl,?_⟩;have d:a.getD a.length 0=0:=by
   rw[nv,jF (by omega)];rfl
  rw[d,ahR,ik,lK,da _ _ (aL _)]at Z;have k:=Ge (a.getD 0 0) (show(0:Int)<((2^n:Nat):Int) by omega)
  obtain⟨r,H⟩:=fW (MM (a.getD 0 0) (show((2^n:Nat):Int)≠0 by omega));rw[H]at Z k;rw[<-dB A,<-m]at Z;have K:vN a=vN o*2^n+r:=by
   have:((vN a:Nat):Int)=((vN o*2^n+r:Nat):Int):=by rw[Vx,kW];exact Z.symm
   omega
  have L:vN a/2^n=vN o:=by
   rw[K,lN,vq f,tm (by omega)];rfl
  rw[L]) (([],0,()),(),()) ⟨[],0,rfl,by omega,rfl,Dg.nil,by
    show(0:Int)*_+_=0+_*1;omega⟩
 exact e
theorem WS{n:Nat}(h:n≠0:=by omega):2^(dP n-1)<=n:=by
 simp[dP,ax,h,Gq,Nat.log2_self_le]
theorem CG{n:Nat}(h:n≠0:=by omega):1<=dP n:=by
 simp[dP,ax,h]
theorem ajR{v:Nat}(h:0< v):dP v=dP (v/2)+1:=by
 refine NW ?_ ?_
 .have:=Ea (v/2);omega
 rw[Gq];by_cases h1:v/2=0
 .rw [h1];trivial
 have a:=WS h1;have b:=CG h1;have:2^dP (v/2)=2*2^(dP (v/2)-1):=by
  rw[<-Nat.pow_succ',show(dP (v/2)-1).succ=dP (v/2) by omega]
 omega
theorem OQ(m:Nat):(4294967296:Int)^m=((2^(32*m):Nat):Int):=by simp[VL,MO]
theorem agt{l:List Int}{m t:Nat}(A:Dg l)(e:l.length=m+1)(I:l.getD m 0=(t:Int))(Z:0< t:=by omega):dP (vN l)=32*m+dP t:=by
 have hw:=dW A m;have J:dv l=wv l m+(t)*4294967296^m:=by
  rw[<-da l (m+1) (by omega),<-I];rfl
 rw[<-dB A,OQ]at J;rw[OQ]at hw;have k1:=CG (n:=t);refine NW ?_ ?_
 .have U:(t+1)*2^(32*m)<=2^dP t*2^(32*m):=eB _ (Ea t);grind
 rw[show 32*m+dP t-1=32*m+(dP t-1) by omega,ql,lN (2^(32*m))]
 have U:=eB (2^(32*m)) (WS (n:=t));omega
theorem aet{a:List Int}(J:Dg a)(f:a.length<=1099511627774:=by omega):EX a=ab (dP (vN a):Int):=by
 have g:=Bh a;have I:=lF J;have U:dv (sh a)=(vN a:Int):=by rw[gX,dB J]
 have d:vN (sh a)=vN a:=by simp[vN,gX]
 unfold EX;rw[aez,ah];cases e:(sh a).length with
 |zero=>
  have:vN a=0:=by
   rw[yx.1 e]at U;have:(0:Int)=(vN a:Int):=U;omega
  rw[cM,ao,this];rfl
 |succ m=>
  have Z:=xe I (n2 a) e;have A:=I.at m;obtain⟨t,b⟩:=fW A.1;rw[bQ,aw,au (n:=((m+1:Nat):Int)-1),pr,fS,b,au];have c:=agt I e b;rw[d]at c;have i:=WT (n:=t) (k:=32);obtain⟨r,j,rfl⟩:=eW (step:=S3) (λs=>∃n v:Nat,s=(((n:Int),(v:Int),()),(),())/\v< 4294967296/\n+dP v=dP (vN a)) (λs=>s.1.2.1.toNat) (λr=>r=(dP (vN a):Int)) (by
   rintro _ ⟨n,v,rfl,l,o⟩;unfold S3;dsimp only;by_cases h:0< v
   .left;have h2:=ajR h;rw[bg,ao,au,og (by omega),nn]
    refine⟨_,rfl,⟨n+1,v/2,by rfl,by omega,by omega⟩,?_⟩
    grind
   right;obtain rfl:v=0:=by omega
   have p:dP 0=0:=rfl;exact⟨_,rfl,by omega⟩) (((32*(m:Int)),(t:Int),()),(),()) ⟨32*m,t,by rfl,by omega,c.symm⟩
  omega
theorem iQ{n k:Nat}(h:(n:Int)< 4294967296^k:=by omega):(nd n).length<=k:=by
 rcases jH k (nd n).length with h1|h1
 .obtain ⟨m,hm⟩:∃m,(nd n).length=m+1:=⟨(nd n).length-1,by omega⟩
  have h2:=xe (eH n) (Ar n) hm;have I:=dW (eH n) m;have A:dv (nd n)=wv (nd n) m+(nd n).getD m 0*4294967296^m:=by
   rw[<-da _ (m+1) (by omega)];rfl
  rw[pO]at A;have J:1*4294967296^m<=(nd n).getD m 0*4294967296^m:=kh (by omega) (ij (jw m))
  have U:=xn (a:=k) (b:=m);omega
 omega
theorem asa(n:Nat):(n:Int)< 4294967296^(nd n).length:=by
 have:=(dW (eH n) (nd n).length).2;rwa[da _ _ (aL _),pO]at this
theorem aeB{X Y:Nat}(i:0< Y)(h:X< 4294967296*Y)(w:(nd Y).length<=1099511627770:=by omega):E1 (nd X) (nd Y)=ab (((X/Y:Nat):Int),nd (X%Y),()):=by
 obtain⟨m,hm⟩:∃m,(nd Y).length=m+1:=⟨(nd Y).length-1,by
  have:(nd Y).length≠0:=λh=>by have:=uC h;omega
  omega⟩
 have A:=eH X;have J:=eH Y;have j:=asa Y;have d:(nd X).length<=m+2:=iQ (by
  grind)
 have top:=xe J (Ar Y) hm;have x:=J.at m;have y:=A.at (m+1);have z:=A.at m;have B:(X:Int)=wv (nd X) m+(nd X).getD m 0*4294967296^m+(nd X).getD (m+1) 0*(4294967296^m*4294967296):=by
  rw[<-pO X,<-da (nd X) (m+2) d];rfl
 have C:(Y:Int)=wv (nd Y) m+(nd Y).getD m 0*4294967296^m:=by
  rw[<-pO Y,<-da (nd Y) (m+1) (by omega)];rfl
 have E:=dW A m;have F:=dW J m;unfold E1;rw[hm,qV A,ah,au (n:=((m+1:Nat):Int)-1),pr,qV A,ah,fS];generalize(nd X).getD (m+1) 0=a at*;generalize(nd X).getD m 0=b at*;generalize(nd Y).getD m 0=c at*;rw[bM (n:=c),nJ,bM (n:=a*4294967296),bM (n:=a*4294967296+b),og (by omega)]
 have f:0<=(a*4294967296+b)/c:=ve (by omega) (by omega)
 have k:(a*4294967296+b)/c<=a*4294967296+b:=Int.ediv_le_self _ (by omega)
 rw[bM f];have G:((X/Y:Nat):Int)<=(a*4294967296+b)/c:=by
  rw[Int.le_ediv_iff_mul_le (by omega)]
  have h1:X/Y*Y<=X:=Nat.div_mul_le_self X Y;have h2:((X/Y:Nat):Int)*(Y:Int)<=(X:Int):=by omega
  have l:((X/Y:Nat):Int)*(c*4294967296^m)<=((X/Y:Nat):Int)*(Y:Int):=qg (by omega) (Int.natCast_nonneg _)
  obtain⟨D,o⟩:∃D:Int,D=((X/Y:Nat):Int):=⟨_,rfl⟩;rw[<-o]at h2 l|-;have p:D*c*4294967296^m<(a*4294967296+b+1)*4294967296^m:=by
   grind
  have H:=Vt p (ij (jw m));omega
 have hB:X/Y< 4294967296:=MT (by omega)
 obtain⟨q,eq,Z⟩:∃q:Nat,(bif ai ((a*4294967296+b)/c) 4294967295 then(a*4294967296+b)/c else 4294967295)=(q:Int)/\X/Y<=q/\q<=4294967295:=by
  by_cases h1:(a*4294967296+b)/c<=4294967295
  .rw [bS h1,ao];exact⟨((a*4294967296+b)/c).toNat,by omega,by omega,by omega⟩
  rw[di,aw];grind
 rw[eq,at1 J,ah,gd,cW];have U:∀q:Nat,q<=4294967295->(nd (Y*q)).length<=m+2:=λq h1=>iQ (by
  rw[show m+2=m+1+1 by omega,pw,<-hm,kW]
  have:(Y:Int)*(q:Int)<=(Y:Int)*4294967295:=qg (by omega) (by omega)
  omega)
 obtain⟨r,e,rfl⟩:=eW (step:=Ta (nd X) (nd Y)) (λs=>∃q:Nat,s=(((q:Int),nd (Y*q),()),(),())/\X/Y<=q/\q<=4294967295) (λs=>s.1.1.toNat) (λr=>r=(((X/Y:Nat):Int),nd (X%Y),())) (by
  rintro _ ⟨q,rfl,h1,h2⟩;have K:=U q h2;unfold Ta;dsimp only;rw[aeu (eH _) A,ah,gd,gd];by_cases t:X< Y*q
  .left;have Z:1<=q:=by
    grind
   have u:X/Y< q:=MT t;have I:gI (Y*q) X=1:=by
    unfold gI;omega
   have v:Y<=Y*q:=aie Y Z;rw[I,bg,ao,AV (eH _) J,gd,gd,ax (by omega),ah,bM]
   refine⟨_,rfl,⟨q-1,?_,by omega,by omega⟩,?_⟩
   all_goals grind
  right;have I:ak 0 (gI (Y*q) X)=af:=by
   unfold gI;split
   .exact bc
   exact bc
  have g:q=X/Y:=by
   have:q<=X/Y:=(Nat.le_div_iff_mul_le i).2 (by grind)
   omega
  rw[I,aw,AV A (eH _),gd,gd,ax (by omega),ah,ah]
  refine⟨_,rfl,?_⟩;have:X-Y*q=X%Y:=by
   have:=Gr X Y;grind
  rw[this,g]) (((q:Int),nd (Y*q),()),(),()) ⟨q,rfl,Z.1,Z.2⟩
 exact e
theorem cpR{rem q:List Int}{j d:Int}(h:rem.length<=1099511627776:=by omega):aA (KK ((rem,j,()),(),q,())) (([d],0,()),(),())=ab (.inl ((d::rem,()),(),())):=by
 obtain⟨r,e,rfl⟩:=eW (step:=KK ((rem,j,()),(),q,())) (λs=>∃i:Nat,s=((d::rem.take i,(i:Int),()),(),())/\i<=rem.length) (λs=>rem.length-s.1.2.1.toNat) _ (by
  rintro _ ⟨i,rfl,hi⟩;unfold KK;dsimp only;by_cases h2:i< rem.length
  .left;rw[bg,fS h2,cX (qZ _ _ _ (by grind)),mI,List.cons_append,tk1 _ h2,au]
   refine⟨_,rfl,⟨i+1,rfl,by omega⟩,?_⟩
   grind
  right;rw[bc,show i=rem.length by omega,VF]
  exact⟨_,rfl,rfl⟩) _ ⟨0,rfl,by omega⟩
 exact e
theorem awu{d:Int}{R:Nat}(A:0<=d)(h1:d< 4294967296):vN (d::nd R)=d.toNat+4294967296*R:=by
 have e:=dB (l:=d::nd R) (Dg.cons A h1 (eH R));have:dv (d::nd R)=d+4294967296*dv _:=rfl;rw[this,pO]at e;omega
theorem at3{y0 l2:List Int}{y1:Int}{V s r0 R:Nat}{q:List Int}(h:s<=31)(hw:w (w (32*(y0.length:Int))-y1)=(s:Int))(c:0< V)(Z:(nd V).length<=1099511627770)(d2:Dg l2)(k:l2.length<=1099511627776)(l:r0<=l2.length)(m:q.length=l2.length)(n:Dg q)(hR:R< V)
  (o:dv (l2.drop r0)=dv (q.drop r0)*(V:Int)+(R:Int)):
  ∃Q A:Nat,aA (E0 y0 y1 l2 (nd V)) ((nd R,(r0:Int)-1,()),(),q,())=ab (nd Q,nd (A/2^s),0,())/\vN l2=Q*V+A/\A< V:=by
 obtain⟨_,e,A,d,rfl,h1,h2,J,a⟩:=D8 (step:=E0 y0 y1 l2 (nd V)) (λi st=>∃(R:Nat) (q:List Int),st=((nd R,((r0-i:Nat):Int)-1,()),(),q,())/\q.length=l2.length/\Dg q/\R< V/\dv (l2.drop (r0-i))=dv (q.drop (r0-i))*(V:Int)+(R:Int)) r0 (by
  rintro i _ hi ⟨R,q,rfl,h1,h2,J,a⟩;obtain⟨j,f⟩:∃j,r0-i=j+1:=⟨r0-i-1,by omega⟩
  have b:r0-(i+1)=j:=by omega
  rw[f]at a;rw[f,b];have U:=d2.at j;have p:=mW (dk J);have r:(l2.getD j 0).toNat+4294967296*R< 4294967296*V:=by omega
  have hB:((l2.getD j 0).toNat+4294967296*R)/V< 4294967296:=MT (by omega)
  have hm:=qk ((l2.getD j 0).toNat+4294967296*R) c;have t:=Gr ((l2.getD j 0).toNat+4294967296*R) V;unfold E0;simp only[pr];rw[bS,ao,fS,cpR,fT];unfold aew;simp only[cW];rw[m9 (by grind) (Dg.cons U.1 U.2 (eH R)),ah,awu U.1 U.2,aeB c r Z,ah]
  generalize((l2.getD j 0).toNat+4294967296*R)/V=Q at*;generalize l:((l2.getD j 0).toNat+4294967296*R)%V=g at*;rw[kJ,nn,au];refine⟨_,rfl,g,_,rfl,by grind,h2.set (by omega) (by omega),hm,?_⟩
  rw[HN _ _ _ (by omega),zu l2 j (by omega),a,gz,jD 4294967296]
  have I:(V:Int)*(Q:Int)+(g:Int)=(((l2.getD j 0).toNat+4294967296*R:Nat):Int):=by omega
  rw[vf (V:Int)]at I;dsimp only;omega) ((nd R,(r0:Int)-1,()),(),q,()) ⟨R,q,rfl,m,n,hR,o⟩
 have u:=dB h2;have v:=dB d2;have p:=mW (dk J);refine⟨vN d,A,e.trans (wW (x:=some (nd (vN d),nd (A/2^s),0,())) ?_),?_,J⟩
 .unfold E0;rw[VM,di (by simp),aw,hw]
  dsimp only;rw[m9 (by omega) h2,ah,aey (eH A) (by omega) h,ah,gd]
  rfl
 grind
theorem aev{a b:List Int}(i:Dg a)(c:Dg b)(S:a.length<=1099511627770:=by omega)(T:b.length<=1099511627770:=by omega):
  EZ a b=ab (if vN b=0 then([],[],9,())else(nd (vN a/vN b),nd (vN a%vN b),0,())):=by
 have f:∀m:Nat,(m:Int).toNat=m:=cW;have l2:=Bh b;rw[rb c]at l2;unfold EZ;rw[m9 (by omega) c,ah]
 obtain⟨X,j⟩:∃X,X=vN a:=⟨_,rfl⟩;obtain⟨Y,r⟩:∃Y,Y=vN b:=⟨_,rfl⟩;rw[<-j,<-r];rw[<-r]at l2;by_cases u:(nd Y).length=0
 .rw [cM,ao,aK (uC u)]
 have o:Y≠0:=λh=>u (by rw[h];rfl)
 obtain⟨m,hm⟩:∃m,(nd Y).length=m+1:=⟨(nd Y).length-1,by omega⟩
 have top:=xe (eH Y) (Ar Y) hm;have U:=(eH Y).at m;obtain⟨t,B⟩:=fW U.1;have c:=agt (eH Y) hm B;rw[gd]at c;have W:=WT (n:=t) (k:=32);have C:=CG (n:=t);obtain⟨s,hs⟩:∃s,s=32-dP t:=⟨_,rfl⟩;have hw:w (w (32*((nd Y).length:Int))-(dP Y:Int))=(s:Int):=by
  rw[au (n:=32*_),au];omega
 have A:0< 2^s:=nB (by omega)
 have I:0< Y*2^s:=aip (by omega) A
 have D:(nd (Y*2^s)).length<=m+1:=iQ (by
  rw[OQ];have h1:Y*2^s< 2^dP Y*2^s:=aio (Ea Y) A;rw[<-ql,show dP Y+s=32*(m+1) by omega]at h1
  omega)
 rw[bQ,aw,ax o,aet (eH Y),ah,gd,hw,S6 i,ah,S6 (eH Y),ah,gd,<-j];have v:2^s<=4294967296:=tp (n:=2) (by omega) (show s<=32 by omega)
 have E:(nd (X*2^s)).length<=a.length+1:=iQ (by
  have h1:=(dW i a.length).2;rw[da _ _ (aL _),<-dB i,<-j]at h1;rw[pw,kW];have h2:(X:Int)*((2^s:Nat):Int)<=(X:Int)*4294967296:=qg (by omega) (by omega)
  omega)
 have d2:=eH (X*2^s);have v2:=pO (X*2^s);rw[cX (by simp(disch:=omega) only [nk]),f]
 have F:∀Q J:Nat,X*2^s=Q*(Y*2^s)+J->J< Y*2^s->ab (nd Q,nd (J/2^s),(0:Int),())=ab (nd (X/Y),nd (X%Y),0,()):=λQ J g hR=>by
  have G:X/Y=Q:=by
   rw[<-aim _ _ A,g,lN Q,vq I,tm hR];rfl
  have eq:X%Y=J/2^s:=by
   have:X%Y*2^s=J:=by
    rw[<-MV,g,lN Q,B0,rG hR]
   rw[<-this,ail _ A]
  rw[G,eq]
 cases e:(nd (X*2^s)).length with
 |zero=>
  have p:X=0:=by
   rcases Nat.mul_eq_zero.1 (uC e)with h|h
   all_goals omega
  rw[au (n:=((0:Nat):Int)-1),di,aw,m9 (by simp) (Dg.rep _),ah,aey Dg.nil (by simp),ah,p,MX,Nat.zero_mod]
  show ab (nd (vN []),nd (vN []/2^s),(0:Int),())=_;rw[show vN []=0 from rfl,MX]
 |succ k=>
  have H:=d2.at k;obtain⟨d,x⟩:=fW H.1;have y:w (((k+1:Nat):Int)-1)=(k:Int):=by rw[au];omega
  have K:d< 4294967296*(Y*2^s):=by omega
  have hB:d/(Y*2^s)< 4294967296:=MT (by omega)
  have Z:=qk d I;have L:=Gr d (Y*2^s);rw[y,bS,ao,fS,x];have M:aA S4 (([(d:Int)],0,()),(),())=ab (.inl (([(d:Int)],()),(),())):=cQ (by
   unfold S4;dsimp only;rw[bc (cf 0),aw];rfl)
  rw[M,fT];unfold aex;dsimp only;have N:Dg [(d:Int)]:=Dg.cons (by omega) (by omega) Dg.nil
  have O:vN [(d:Int)]=d:=by
   show((d:Int)+4294967296*0).toNat=d;omega
  have z:=f ((nd (X*2^s)).length);rw[m9 (by simp) N,ah,O,aeB I K,ah,f,e,y,kJ (by simp)]
  generalize d/(Y*2^s)=Q at*;generalize d%(Y*2^s)=R at*;dsimp only;rw[nn,au (n:=(k:Int)-1),f];obtain⟨Q2,R2,e2,g,P⟩:=at3 (y0:=nd Y) (y1:=(dP Y:Int)) (l2:=nd (X*2^s)) (V:=Y*2^s) (s:=s) (r0:=k) (R:=R) (q:=(bT (k+1) 0).set k (Q:Int)) (by omega) hw I (by omega) d2 (by omega) (by omega) (by grind) ((Dg.rep _).set (by omega) (by omega)) Z (by
   rw[HN _ _ _ (by simp),zu _ k (by omega),x,gZ (l:=nd (X*2^s)) (by omega),gZ (l:=bT (k+1) 0) (by simp)]
   show(d:Int)+4294967296*0=((Q:Int)+4294967296*0)*_+_;grind)
  rw[gd]at g;grind
theorem atY{a b:List Int}(J:Dg a)(U:Dg b)(g:a.length<=1099511627770:=by omega)(i:b.length<=1099511627770:=by omega):KL a b=ab (nd (g8 (vN a) (vN b))):=by
 unfold KL;have Z:=Bh a;have c:=Bh b;rw[rb J]at Z;rw[rb U]at c;rw[m9 (by omega) J,m9 (by omega) U]
 obtain⟨r,e,rfl⟩:=eW (step:=S5) (λs=>∃p q:Nat,s=((nd p,nd q,()),(),())/\(nd p).length<=1099511627770/\(nd q).length<=1099511627770/\g8 p q=g8 (vN a) (vN b)) (λs=>vN s.1.2.1) (λr=>r=nd (g8 (vN a) (vN b))) (by
  rintro _ ⟨p,q,rfl,hp,I,d⟩;unfold S5;dsimp only;by_cases h:(nd q).length=0
  .right;have:=uC h;subst this;refine⟨_,rfl,?_⟩;grind
  left;have A:q≠0:=λf=>h (by rw[f];rfl)
  rw[bg,aev (eH p) (eH q) hp I,gd,gd,ax A];have hm:=qk p (ait A);refine⟨_,rfl,⟨q,p%q,rfl,I,bX (mW (dk hm)) I,?_⟩,?_⟩
  .rw [<-d,MU p q,aib q p,MU]
  simp[gd,hm]) _ ⟨_,_,rfl,by omega,by omega,rfl⟩
 exact e
theorem at4{a b:List Int}(l:Dg a)(m:Dg b){L i:Nat}{W:Int}{o:List Int}(hi:i< a.length)(B:i+b.length< L)(q:L<=2199023255562)(u:o.length=L)(v:Dg o)(x:∀j,i+b.length<=j->o.getD j 0=0)(y:wv o L=W):
  ∃r,aA (S7 a b (((i:Int),()),(),o,())) ((0,0,()),(),o,())=ab r/\∃I,r=.inl ((((i+1:Nat):Int),()),(),I,())/\I.length=L/\Dg I/\(∀j,i+1+b.length<=j->I.getD j 0=0)/\wv I L=W+a.getD i 0*dv b*4294967296^i:=by
 have e:=l.at i;refine eW (λs=>∃(c:Int) (k:Nat) (p:List Int),s=((c,(k:Int),()),(),p,())/\k<=b.length/\p.length=L/\Dg p/\0<=c/\c< 4294967296/\(∀j,i+b.length<=j->p.getD j 0=0)/\wv p L+c*4294967296^(i+k)=W+a.getD i 0*wv b k*4294967296^i) (λs=>((b.length:Int)-s.1.2.1).toNat) _ ?_ _ ⟨0,0,o,rfl,by omega,u,v,by omega,by omega,x,by rw[y,ik,show wv b 0=0 from rfl,Vw,ik]⟩
 rintro _ ⟨c,k,p,rfl,C,hp,A,J,U,Z,d⟩;unfold S7;dsimp only;have f:w ((i:Int)+(k:Int))=((i+k:Nat):Int):=by rw[au];rfl
 by_cases h:k< b.length
 .left;have g:=m.at k;have D:=A.at (i+k);have hm:=Am e.1 e.2 g.1 g.2;rw[bg,ao,fS hi,fS h,f,kJ,kJ,cW];rw[bM (n:=a.getD i 0),bM (n:=b.getD k 0),bM (n:=p.getD (i+k) 0),bM (n:=a.getD i 0*b.getD k 0),bM (n:=a.getD i 0*b.getD k 0+_),bM (n:=_+c),kx,jC,au];generalize E:a.getD i 0*b.getD k 0+p.getD (i+k) 0+c=t;refine⟨_,rfl,⟨_,k+1,_,rfl,by omega,by grind,A.set (by omega) (by omega),by omega,by omega,λj z=>?_,?_⟩,?_⟩
  .grind
  .rw [BC _ _ _ (by omega) _ (by omega)]
   show _+t/4294967296*4294967296^(i+k+1)=_;show _=W+a.getD i 0*(wv b k+b.getD k 0*4294967296^k)*4294967296^i;grind
  grind
 right;obtain rfl:k=b.length:=by omega
 rw[bc,aw,f,kJ,cW,nn (n:=c) J U,au];refine⟨_,rfl,_,rfl,by grind,A.set J U,λj z=>?_,?_⟩
 .rw [lW _ _ _ _,ax (by omega)]
  grind
 rw[BC _ _ _ (by omega) _ (by omega),Z (i+b.length) (aL _),Vy,d,da _ _ (aL _)]
theorem atZ{a b:List Int}(I:Dg a)(J:Dg b)(m:a.length<=1099511627774:=by omega)(p:b.length<=1099511627774:=by omega):KM a b=ab (nd (vN a*vN b)):=by
 unfold KM;have hw:w (w ((a.length)+(b.length))+1)=((a.length+b.length+1:Nat)):=by
  rw[au (n:=(a.length)+_),au];omega
 rw[hw,cX (by simp(disch:=omega) only [nk])]
 obtain⟨r,e,rfl⟩:=eW (step:=S8 a b)
  (λs=>∃(i:Nat) (o:List Int),s=(((i:Int),()),(),o,())/\i<=a.length/\o.length=a.length+b.length+1/\Dg o/\(∀j,i+b.length<=j->o.getD j 0=0)/\wv o _=wv a i*dv b) (λs=>((a.length)-s.1.1).toNat) (λr=>r=nd (vN a*vN b)) (by
  rintro _ ⟨i,o,rfl,hi,Z,A,c,U⟩;unfold S8;dsimp only;by_cases h:i< a.length
  .left;rw[bg];obtain⟨r,e,d,rfl,f,g,k,q⟩:=at4 I J (L:=a.length+b.length+1) (i:=i) (o:=o) h (by omega) (by omega) Z A c U
   rw[e];refine⟨_,rfl,⟨i+1,d,rfl,by omega,f,g,k,?_⟩,?_⟩
   .show _=(wv a i+a.getD i 0*4294967296^i)*dv b;grind
   grind
  right;obtain rfl:i=a.length:=by omega
  rw[bc,m9 (by omega) A,ah]
  refine⟨_,rfl,?_⟩;congr 1;have l:=dB A;rw[<-da o (a.length+b.length+1) (by omega),U,da _ _ (aL _),<-dB I,<-dB J]at l
  omega) _ ⟨0,_,rfl,by omega,jm,Dg.rep _,λj _=>by
    grind,by
    rw[show wv a 0=0 from rfl,da _ _ (by simp)]
    simp[OO]⟩
 exact e
end Go.Proofs.YtlfolhmfdmcmiaaGreatDoor
end
