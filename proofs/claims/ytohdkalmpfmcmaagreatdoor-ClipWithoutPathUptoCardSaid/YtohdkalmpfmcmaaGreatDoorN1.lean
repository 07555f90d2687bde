/- A part of the proof. -/
import Derived.Test.YtohdkalmpfmcmaaGreatDoorT
import Derived.KernelRfl
set_option linter.all false
open Bool renaming and_eq_true->aM,and_true->tg,false->af,not_false->fO,not_true->cg,true->ag
open Go.IntKind renaming bits->U5,signed->U8,wrap->U9
open Int renaming add_mul->gB,add_zero->lH,ediv_lt_of_lt_mul->BH,ediv_nonneg->vk,emod_lt_of_pos->F9,emod_nonneg->MF,eq_ofNat_of_zero_le->fP,fdiv_eq_ediv_of_nonneg->qc,le_of_lt->ij,le_refl->cr,lt_of_mul_lt_mul_right->Vg,lt_or_le->qd,mul_add->ahA,mul_assoc->kh,mul_comm->vn,mul_ediv_add_emod->Vi,mul_le_mul->qe,mul_le_mul_of_nonneg_left->qf,mul_le_mul_of_nonneg_right->kj,mul_nonneg->n7,mul_right_comm->yv,mul_zero->Vj,natCast_add->Vk,natCast_ediv->Ga,natCast_emod->BJ,natCast_mul->kV,natCast_pow->MG,ofNat->aE,one_mul->n8,pow_add->BK,pow_succ->ahJ,sub_mul->qg,sub_zero->Vl,tdiv_eq_ediv_of_nonneg->o9,tdiv_eq_zero_of_lt->Gc,tmod_eq_emod_of_nonneg->Gd,tmod_eq_of_lt->MH,toNat_natCast->cU,zero_emod->ahN,zero_mul->ik
open List renaming all_eq_true->lI,drop_eq_getElem_cons->il,drop_of_length_le->g8,drop_zero->qh,getD_eq_getElem?_getD->nr,getElem?_eq_getElem->gD,getElem?_eq_none->jF,length_drop->n9,length_eq_zero_iff->yA,length_replicate->jj,length_set->fQ,length_take->gi,mem_append->cD,replicate->bP,take->aY,take_length->Vu
open Nat renaming add_sub_cancel->Gl,ble->bu,div_add_mod->Gm,div_eq_of_lt->tp,div_lt_of_lt_mul->ML,div_one->Vw,gcd->g9,gcd_comm->MM,gcd_rec->ah8,le_mul_of_pos_right->aib,le_of_lt->dj,le_refl->aL,le_trans->b8,log2_lt->aid,lt_or_ge->jH,min_eq_left->nv,mod_eq_of_lt->rH,mod_lt->qj,mul_add_div->vz,mul_add_mod->BQ,mul_comm->lJ,mul_div_cancel->aii,mul_div_mul_right->aij,mul_le_mul_right->eA,mul_lt_mul_of_pos_right->ail,mul_mod_mul_right->MO,mul_pos->aim,or_comm->aip,pos_of_ne_zero->aiq,pow_add->qk,pow_le_pow_right->tr,pow_mul->VA,pow_pos->nx,pow_zero->air,shiftLeft_add_eq_or_of_lt->ais,shiftLeft_eq->ait,sub_self->VB,zero_div->MQ
open Option renaming bind_some->ah,some->ab
open Sum renaming inl->bb,inr->cF
noncomputable section
namespace Go.Nt
open Go.As
def dv:List Int->Int
 |[]=>0
 |d::l=>d+4294967296*dv l
def Dg(l:List Int):Prop:=∀d∈l,0<=d/\d< 4294967296
def Nm(l:List Int):Prop:=l.getLast?≠ab 0
theorem Dg.nil:Dg []:=λ_ h=>by cases h
theorem Dg.cons{d:Int}{l:List Int}(I:0<=d)(h1:d< 4294967296)(h:Dg l):Dg (d::l):=λx A=>by
 rcases List.mem_cons.1 A with rfl|A
 .omega
 exact h x A
theorem Dg.head{d:Int}{l:List Int}(h:Dg (d::l)):0<=d/\d< 4294967296:=h d (List.mem_cons_self ..)
theorem Dg.tail{d:Int}{l:List Int}(h:Dg (d::l)):Dg l:=λx A=>h x (List.mem_cons_of_mem _ A)
theorem X9:∀{l:List Int},Dg l->0<=dv l
 |[],_=>cr _
 |d::l,h=>by
  have h1:=X9 h.tail;have h2:=h.head;show 0<=d+4294967296*dv l;omega
theorem Nm.nil:Nm []:=by simp[Nm]
theorem Nm.tail{d:Int}{l:List Int}(h:Nm (d::l)):Nm l:=by
 cases l
 .exact Nm.nil
 rename_i e l;trivial
theorem HN:∀{l:List Int},Dg l->Nm l->dv l=0->l=[]
 |[],_,_,_=>rfl
 |d::l,h,A,e=>by
  have h2:=h.head;have e:d+4294967296*dv l=0:=e;have I:=HN h.tail A.tail (by omega)
  subst I;have:d=0:=by omega
  subst this;trivial
theorem X8:∀{a b:List Int},Dg a->Dg b->Nm a->Nm b->dv a=dv b->a=b
 |[],b,_,A,_,nb,e=>(HN A nb e.symm).symm
 |a,[],I,_,na,_,e=>HN I na e
 |x::a,y::b,I,A,na,nb,e=>by
  have h1:=I.head;have h2:=A.head;have e:x+4294967296*dv a=y+4294967296*dv b:=e;have J:dv a=dv b:=by omega
  have U:x=y:=by omega
  rw[U,X8 I.tail A.tail na.tail nb.tail J]
def wv(l:List Int):Nat->Int
 |0=>0
 |n+1=>wv l n+l.getD n 0*4294967296^n
theorem UI(d:Int)(l:List Int):∀n,wv (d::l) (n+1)=d+4294967296*wv l n
 |0=>by simp[wv]
 |n+1=>by
  show wv (d::l) (n+1)+(d::l).getD (n+1) 0*4294967296^(n+1)=d+4294967296*(wv l n+l.getD n 0*4294967296^n);rw[UI d l n,List.getD_cons_succ,ahJ,<-kh];omega
theorem da:∀(l:List Int) (n:Nat),l.length<=n->wv l n=dv l
 |[],n,_=>by
  induction n with
  |zero=>rfl
  |succ n ih=>
   show wv [] n+([]).getD n 0*4294967296^n=0;rw[ih (by simp)];simp[dv]
 |d::l,0,h=>by trivial
 |d::l,n+1,h=>by
  rw[UI,da l n (by simpa using h)];rfl
theorem Mf(l:List Int)(i:Nat)(x:Int):∀n,n<=i->wv (l.set i x) n=wv l n
 |0,_=>rfl
 |n+1,h=>by
  show wv (l.set i x) n+(l.set i x).getD n 0*_=wv l n+l.getD n 0*_;rw[Mf l i x n (by omega),nr,List.getElem?_set,ax (by omega),<-nr]
theorem gS(l:List Int)(i:Nat)(x:Int)(h:i< l.length):(l.set i x).getD i 0=x:=by
 grind
theorem ru(l:List Int)(i:Nat)(x:Int)(h:i< l.length:=by omega):wv (l.set i x) (i+1)=wv l i+x*4294967296^i:=by
 show wv (l.set i x) i+(l.set i x).getD i 0*_=_;rw[Mf l i x i (aL _),gS l i x h]
theorem pw(i:Nat):(4294967296:Int)^(i+1)=4294967296^i*4294967296:=ahJ ..
theorem jv(i:Nat):(0:Int)< 4294967296^i:=Int.pow_pos (by omega)
theorem carry{t o c P:Int}(h:t=o+c*4294967296:=by omega):t*P=o*P+c*(P*4294967296):=by
 grind
theorem Dg.set{l:List Int}(h:Dg l){i:Nat}{x:Int}(I:0<=x)(h1:x< 4294967296):Dg (l.set i x):=λy A=>by
 rcases List.mem_or_eq_of_mem_set A with A|rfl
 .exact h y A
 omega
theorem Dg.rep(n:Nat):Dg (bP n 0):=λy A=>by
 grind
theorem Dg.at{l:List Int}(h:Dg l)(i:Nat):0<=l.getD i 0/\l.getD i 0< 4294967296:=by
 rw[nr];cases e:l[i]? with
 |none=>trivial
 |some x=>exact h x (List.mem_of_getElem? e)
def ix:Nat->Nat->List Int
 |0,_=>[]
 |f+1,n=>if n=0 then[]else((n%4294967296:Nat):Int)::ix f (n/4294967296)
def nd(n:Nat):List Int:=ix n n
theorem Rz:∀f n,n<=f->dv (ix f n)=(n:Int)
 |0,n,h=>by
  have:n=0:=by omega
  subst this;rfl
 |f+1,n,h=>by
  show dv (if n=0 then[]else((n%4294967296))::ix f (n/4294967296))=_;split
  .rename_i e;subst e;rfl
  show((n%4294967296))+4294967296*dv (ix f (n/4294967296))=_;rw[Rz f _ (by omega)]
  omega
theorem ab7:∀f n,Dg (ix f n)
 |0,_=>Dg.nil
 |f+1,n=>by
  show Dg (if n=0 then[]else((n%4294967296))::ix f (n/4294967296));split
  .exact Dg.nil
  exact Dg.cons (by omega) (by omega) (ab7 f _)
theorem ab8:∀f n,n<=f->Nm (ix f n)
 |0,_,_=>Nm.nil
 |f+1,n,h=>by
  show Nm (if n=0 then[]else((n%4294967296))::ix f (n/4294967296));split
  .exact Nm.nil
  have ih:=ab8 f (n/4294967296) (by omega)
  have A:=Rz f (n/4294967296) (by omega)
  generalize ix f (n/4294967296)=l at ih A;cases l with
  |nil=>
   have A:(0)=((n/4294967296):Int):=A;grind[Nm]
  |cons d l=>
   trivial
theorem pN(n:Nat):dv (nd n)=(n:Int):=Rz n n (aL _)
theorem eG(n:Nat):Dg (nd n):=ab7 n n
theorem Ao(n:Nat):Nm (nd n):=ab8 n n (aL _)
def vN(l:List Int):Nat:=(dv l).toNat
theorem dy{l:List Int}(h:Dg l):((vN l:Nat):Int)=dv l:=by
 have:=X9 h;grind[vN]
theorem aca{l:List Int}(h:Dg l)(A:Nm l){n:Nat}(e:dv l=(n:Int)):l=nd n:=X8 h (eG n) A (Ao n) (by rw[e,pN])
theorem gf(n:Nat):vN (nd n)=n:=by simp[vN,pN]
theorem ar8:nd 0=[]:=rfl
theorem ar7{n:Nat}:nd n=[]↔n=0:=⟨λh=>by
 have:=pN n;rw[h]at this;have:(0:Int)=(n):=this;omega,λh=>by subst h;rfl⟩
theorem OE(a b:List Int):dv (a++b)=dv a+4294967296^a.length*dv b:=by
 induction a with
 |nil=>simp[dv]
 |cons d l ih=>
  show d+4294967296*dv (l++b)=d+4294967296*dv l+4294967296^(l.length+1)*dv b;grind
theorem alm(l:List Int):∀n,n<=l.length->(∀i,n<=i->i< l.length->l.getD i 0=0)->dv (l.take n)=dv l:=by
 induction l with
 |nil=>simp
 |cons d l ih=>
  intro n I A;cases n with
  |zero=>
   have J:=A 0 (by omega) (by simp)
   have:dv l=0:=by
    have:=ih 0 (by omega) λi _ hi=>by
     have:=A (i+1) (by omega) (by simpa using hi)
     trivial
    rw[<-this];rfl
   show(0)=d+4294967296*dv l;grind
  |succ n=>
   show d+4294967296*dv (l.take n)=d+4294967296*dv l;rw[ih n (by simpa using I) λi h1 h2=>by
    have:=A (i+1) (by omega) (by simpa using h2)
    trivial]
theorem aiW{l:List Int}{n:Nat}(A:n<=l.length)(h:n=0∨l.getD (n-1) 0≠0):Nm (l.take n):=by
 unfold Nm;grind
theorem Dg.take{l:List Int}(h:Dg l)(n:Nat):Dg (l.take n):=λx A=>h x (List.mem_of_mem_take A)
theorem OG:∀n,dv (bP n 0)=0
 |0=>rfl
 |n+1=>by
  show 0+4294967296*dv (bP n 0)=0;rw[OG n];rfl
theorem dS{l:List Int}(h:Dg l):∀n,0<=wv l n/\wv l n< 4294967296^n
 |0=>by simp[wv]
 |n+1=>by
  have h1:=dS h n;have h2:=h.at n;have A:=jv n;have I:=n7 h2.1 (ij A);have J:l.getD n 0*4294967296^n<=4294967295*4294967296^n:=kj (by omega) (ij A)
  show 0<=wv l n+l.getD n 0*4294967296^n/\wv l n+l.getD n 0*4294967296^n< 4294967296^(n+1);omega
end Go.Nt
namespace Go.Cc
open Go.As
theorem bh{x y:Int}(h:x< y:=by omega):ak x y=ag:=by simp[mI,decide_eq_true,h]
theorem bc{x y:Int}(h:y<=x:=by omega):ak x y=af:=by rw[mI];grind
theorem bV{x y:Int}(h:x<=y:=by omega):ai x y=ag:=by simp[lU,decide_eq_true,h]
theorem dh{x y:Int}(h:y< x:=by omega):ai x y=af:=by rw[lU];grind
theorem cT{x y:Int}(h:x=y:=by omega):aj x y=ag:=by simp[fB,decide_eq_true,h]
theorem bK{x y:Int}(h:x≠y:=by omega):aj x y=af:=by simp[fB,decide_eq_false,h]
theorem awK(n:Int):wr .u64 n=n%18446744073709551616:=by
 simp[FZ,U9,U5,U8]
theorem jC(n:Int):wr .u32 n=n%4294967296:=by
 simp[FZ,U9,U5,U8]
theorem agJ(n:Int):wr .u8 n=n%256:=by
 simp[FZ,U9,U5,U8]
theorem nh{n:Int}(h1:0<=n:=by omega)(h2:n< 4294967296:=by omega):wr .u32 n=n:=by grind[jC]
theorem aw{n:Int}(h1:-9223372036854775808<=n:=by omega)(h2:n< 9223372036854775808:=by omega):w n=n:=awJ h1 h2
theorem ta(n:Int):wu n=n%18446744073709551616:=awK n
theorem bO{n:Int}(h1:0<=n:=by omega)(h2:n< 18446744073709551616:=by omega):wu n=n:=by grind[ta]
theorem gN{l:List Int}{i:Nat}(h:i< l.length:=by omega):l[i]? =ab (l.getD i 0):=by
 grind
theorem gA{α:Type}{l:List α}{i:Nat}(h:i< l.length):l[i]? =ab l[i]:=gD h
theorem fU{β:Type}{l:List Int}{i:Nat}{f:Int->Option β}(h:i< l.length:=by omega):aQ l (i:Int) f=f (l.getD i 0):=by
 unfold aQ;rw[bV,ao,cU,gN h,ah]
theorem kK{β:Type}{l:List Int}{i:Nat}{f:Int->Option β}(h:i< l.length:=by omega):aN l (i:Int) f=f (l.getD i 0):=by
 unfold aN;rw[bV,ao,bh (by grind),ao,cU,gN h,ah]
theorem cH{α β:Type}{l:List α}{i:Nat}{f:α->Option β}(h:i< l.length:=by omega):aQ l (i:Int) f=f l[i]:=by
 unfold aQ;rw[bV,ao,cU,gA h,ah]
theorem uz{α β:Type}{l:List α}{i:Nat}{f:α->Option β}(h:i< l.length:=by omega):aN l (i:Int) f=f l[i]:=by
 unfold aN;rw[bV,ao,bh (by grind),ao,cU,gA h,ah]
theorem Ie{β:Type}{r:Option β}:aT ag r=r:=rfl
theorem cS{β:Type}{c:Bool}{r:Option β}(h:c=ag):aT c r=r:=by subst h;rfl
theorem nG{β:Type}{y:Int}{r:Option β}(h:y≠0:=by omega):ky y r=r:=by simp[ky,bK,h]
theorem ot{m:Option Bool}:aG ag m=m:=rfl
theorem tN{m:Option Bool}:aG af m=ab af:=rfl
theorem Kb{m:Option Bool}:aW ag m=ab ag:=rfl
theorem nS{m:Option Bool}:aW af m=m:=rfl
theorem cO{a b:Bool}:aG a (ab b)=ab (a&&b):=by cases a<;>rfl
theorem cI{a b:Bool}:aW a (ab b)=ab (a||b):=by cases a<;>rfl
theorem NN{α:Type}(m:Option α):(m.bind λy=>ab y)=m:=by simp
theorem iZ{σ ρ:Type}(s:σ)(k:σ->Option ρ):bt (aB s) k=k s:=rfl
theorem fV{σ ρ:Type}(s:σ)(k:σ->Option ρ):bt (ab (.inl s)) k=k s:=rfl
theorem jA{n b:Nat}(h:n*b<=70368744177664:=by omega)(h2:n<=70368744177664:=by omega):bW n b=ag:=by
 simp[bW,aM,Nat.ble_eq_true_of_le,h,h2]
theorem kx{α:Type}(a b:List α):cx a b=a++b:=rfl
theorem kz(n:Int):n.fdiv 4294967296=n/4294967296:=qc n (by omega)
theorem OR(n:Int):n.fdiv 9223372036854775808=n/9223372036854775808:=qc n (by omega)
theorem pr(i:Nat):((i+1:Nat):Int)-1=(i:Int):=by omega
theorem p0(i:Nat):(0:Int)<((i+1:Nat):Int):=by omega
theorem nk:(∀x y:Int,x< y->ak x y=ag)/\(∀x y:Int,y<=x->ak x y=af)/\(∀x y:Int,x<=y->ai x y=ag)/\(∀x y:Int,y< x->ai x y=af)/\(∀x y:Int,x=y->aj x y=ag)/\(∀x y:Int,x≠y->aj x y=af)/\
  (∀n:Int,-9223372036854775808<=n->n< 9223372036854775808->w n=n)/\(∀(β:Type) (l:List Int) (i:Nat) (f:Int->Option β),i< l.length->aQ l (i:Int) f=f (l.getD i 0))/\(∀(β:Type) (l:List Int) (i:Nat) (f:Int->Option β),i< l.length->aN l (i:Int) f=f (l.getD i 0))/\
  (∀(β:Type) (r:Option β),aT ag r=r)/\(∀m,aG ag m=m)/\(∀m,aG af m=ab af)/\(∀m,aW ag m=ab ag)/\(∀m,aW af m=m)/\(∀(α:Type) (a b:α),(bif ag then a else b)=a)/\(∀(α:Type) (a b:α),(bif af then a else b)=b)/\
  (∀(α β:Type) (a:α) (f:α->Option β),(ab a).bind f=f a)/\((!true)=af)/\((!false)=ag)/\(∀b,(ag&&b)=b)/\(∀b,(af&&b)=af)/\(∀b,(ag||b)=ag)/\(∀b,(af||b)=b)/\(∀n:Nat,(n:Int).toNat=n)/\(∀i:Nat,((i+1:Nat):Int)-1=(i:Int))/\
  (∀(σ ρ:Type) (s:σ) (k:σ->Option ρ),bt (ab (bb s)) k=k s)/\(∀(σ ρ:Type) (s:σ),(aB s:Option (σ⊕ρ))=ab (bb s))/\(∀(σ ρ:Type) (s:ρ),(az s:Option (σ⊕ρ))=ab (cF s))/\(∀n b:Nat,n*b<=70368744177664->n<=70368744177664->bW n b=ag):=
 ⟨λ_ _ h=>bh h,λ_ _ h=>bc h,λ_ _ h=>bV h,λ_ _ h=>dh h,λ_ _ h=>cT h,λ_ _ h=>bK h,λ_ h1 h2=>aw h1 h2,λ_ _ _ _ h=>fU h,λ_ _ _ _ h=>kK h,λ_ _=>rfl,λ_=>rfl,λ_=>rfl,λ_=>rfl,λ_=>rfl,λ_ _ _=>rfl,λ_ _ _=>rfl,λ_ _ _ _=>rfl,rfl,rfl,λ_=>Bool.true_and _,λ_=>Bool.false_and _,λ_=>Bool.true_or _,λ_=>Bool.false_or _,λ_=>cU _,pr,λ_ _ _ _=>rfl,λ_ _ _=>rfl,λ_ _ _=>rfl,λ_ _ h1 h2=>jA h1 h2⟩
end Go.Cc
namespace Go.Nt
section
open Go.As Go.Cc
def tl(l:List Int)
 |0=>0
 |n+1=>if l.getD n 0=0 then tl l n else n+1
theorem g7 l:∀n,tl l n<=n
 |0=>aL _
 |n+1=>by
  show(if l.getD n 0=0 then tl l n else n+1)<=n+1;split
  .have:=g7 l n;omega
  omega
theorem Uo l:∀n i,tl l n<=i->i< n->l.getD i 0=0
 |0,i,_,h=>by omega
 |n+1,i,h1,h2=>by
  have h1:(if l.getD n 0=0 then tl l n else n+1)<=i:=h1;split at h1
  .by_cases e:i=n
   .rw [e];omega
   exact Uo l n i h1 (by omega)
  omega
theorem agm l:∀n,tl l n=0∨l.getD (tl l n-1) 0≠0
 |0=>.inl rfl
 |n+1=>by
  show(if l.getD n 0=0 then tl l n else n+1)=0∨l.getD ((if l.getD n 0=0 then tl l n else n+1)-1) 0≠0;split
  .exact agm l n
  grind
def sh(l:List Int):=l.take (tl l l.length)
theorem gZ l:dv (sh l)=dv l:=alm l _ (g7 l _) λi h1 h2=>Uo l _ i h1 h2
theorem nY l:Nm (sh l):=aiW (g7 l _) (agm l _)
theorem lD{l:List Int}(h:Dg l):Dg (sh l):=h.take _
theorem oV l:(sh l).length=tl l l.length:=by
 unfold sh;rw[gi];exact nv (g7 l _)
theorem Bb l:(sh l).length<=l.length:=by rw[oV];exact g7 l _
theorem re{l:List Int}(h:Dg l):sh l=nd (vN l):=aca (lD h) (nY l) (by rw[gZ,dy h])
theorem Bc{l:List Int}(h:Dg l){n:Nat}(e:dv l=(n)):sh l=nd n:=aca (lD h) (nY l) (by rw[gZ,e])
theorem FG l i:(sh l).getD i 0=l.getD i 0:=by
 unfold sh;rw[nr,List.getElem?_take];split
 .rfl
 by_cases hi:i< l.length
 .rw [Uo l _ i (by omega) hi];rfl
 grind
theorem vc l:∀n,wv l n=wv (sh l) n
 |0=>rfl
 |n+1=>by
  show wv l n+l.getD n 0*_=wv _ n+(sh l).getD n 0*_;rw[vc l n,FG]
def trA{ρ:Type}(l:List Int)(s:(Int×Unit)×Unit×Unit):Option ((Int×Unit)×Unit×Unit⊕(Int×Unit)×Unit×Unit⊕ρ):=
 (aG (ak 0 s.1.1) (aQ l (w (s.1.1-1)) λA=>ab (aj A 0))).bind λI=>bif I then aB ((w (s.1.1-1),()),(),())else az (bb ((s.1.1,()),(),()))
def trB{ρ:Type}(l:List Int)(s:(Int×Unit)×Unit×Unit):Option ((Int×Unit)×Unit×Unit⊕(Int×Unit)×Unit×Unit⊕ρ):=
 (aG (ak 0 s.1.1) (aN l (w (s.1.1-1)) λA=>ab (aj A 0))).bind λI=>bif I then aB ((w (s.1.1-1),()),(),())else az (bb ((s.1.1,()),(),()))
theorem n1{ρ:Type}(step:(Int×Unit)×Unit×Unit->Option ((Int×Unit)×Unit×Unit⊕(Int×Unit)×Unit×Unit⊕ρ))(l:List Int)
  (I:step ((0,()),(),())=ab (.inr (.inl ((0,()),(),()))))
  (h1:∀i,i< l.length->step ((((i+1:Nat)),()),(),())=bif aj (l.getD i 0) 0 then ab (.inl (((i),()),(),()))else ab (.inr (.inl ((((i+1:Nat)),()),(),())))):
  ∀n,n<=l.length->aA step (((n),()),(),())=ab (.inl (((tl l n),()),(),()))
 |0,_=>cP I
 |n+1,h=>by
  have e:=h1 n (by omega)
  by_cases A:l.getD n 0=0
  .rw [cT A]at e;rw[eY e,n1 _ l I h1 n (by omega)]
   show _=ab (bb ((((if l.getD n 0=0 then tl l n else n+1:Nat):Int),()),(),()));rw[aK A]
  rw[bK A]at e;rw[cP e];show _=ab (bb ((((if l.getD n 0=0 then tl l n else n+1:Nat):Int),()),(),()));rw[ax A]
theorem oZ{ρ:Type} l(h:l.length<=4398046511104):aA (trA (ρ:=ρ) l) (((l.length),()),(),())=ab (.inl (((tl l l.length),()),(),())):=by
 refine n1 _ l ?_ (λi hi=>?_) _ (aL _)
 .rfl
 unfold trA;simp(disch:=omega) only [nk]
theorem rn{ρ:Type} l(h:l.length<=4398046511104):aA (trB (ρ:=ρ) l) (((l.length),()),(),())=ab (.inl (((tl l l.length),()),(),())):=by
 refine n1 _ l ?_ (λi hi=>?_) _ (aL _)
 .rfl
 unfold trB;simp(disch:=omega) only [nk]
theorem iK{α:Type}{n m:Nat}(h:n<=m)(x:Option α):aT (ai 0 (n)&&ai (n) (m)) (aT (ai 0 (n)&&ai (n) (n)) (aT (aj (n) (n)) x))=x:=by
 grind[nk]
end
theorem amf{q A I vr r t J ur P:Int}(Z:0< P)(a:0<=q)(U:0<=vr)(b:ur< P)(c:q*A+r=t)(h:r*4294967296+J< q*I):
  (t*4294967296+J)*P+ur< q*((A*4294967296+I)*P+vr):=by
 have h1:t*4294967296+J+1<=q*(A*4294967296+I):=by
  grind
 have h2:=kj h1 (ij Z);have d:=n7 a U;grind
theorem amh{q A I vr r t U ur P:Int}(Z:0< P)(f:0<=q)(a:q< 4294967296)(b:0< A)(c:0<=I)(J:0<=vr)(d:vr< P)(e:0<=ur)(g:q*A+r=t)(h:q*I<=r*4294967296+U):
  (q-1)*((A*4294967296+I)*P+vr)<=(t*4294967296+U)*P+ur:=by
 have h1:q*(A*4294967296+I)<=t*4294967296+U:=by
  grind
 have h2:=kj h1 (ij Z);have i:q*vr<=4294967296*P:=qe (by omega) (by omega) J (by omega)
 have j:4294967296*P<=(A*4294967296+I)*P:=kj (by omega) (ij Z)
 grind
theorem ame{q A r J:Int}(Z:0<=q)(U:q< 4294967296)(I:0<=A)(a:A< 4294967296)(b:0<=J)(c:4294967296<=r):q*A<=r*4294967296+J:=by
 have:q*A<=4294967295*4294967295:=qe (by omega) (by omega) I (by omega)
 omega
theorem amg{v1 v2 vr t u2 ur P:Int}(U:0< P)(A:0< v1)(I:0<=v2)(J:0<=vr)(Z:0<=t)(c:u2< 4294967296)(d:ur< P):
  (t*4294967296+u2)*P+ur<(t/v1+1)*((v1*4294967296+v2)*P+vr):=by
 have e:0<=t/v1:=vk Z (by omega)
 have h1:t+1<=(t/v1+1)*v1:=by
  have a:=Vi t v1;have b:=F9 t A;grind
 have h2:t*4294967296+u2+1<=(t/v1+1)*(v1*4294967296+v2):=by
  have:=n7 (by omega) I
  grind
 have f:=kj h2 (ij U);have g:=n7 (by omega) J
 grind
theorem av8{lo I J x y q c A P:Int}(h:lo+q*I=J+(c+A)*P):
  lo+(x-(c+q*y)%4294967296-A)%4294967296*P+q*(I+y*P)=J+x*P+((c+q*y)/4294967296+ -((x-(c+q*y)%4294967296-A)/4294967296))*(P*4294967296):=by
 grind
theorem ai5{lo A I x y c P:Int}(h:lo+c*P=I+A):
  lo+(c+(x+y))%4294967296*P+(c+(x+y))/4294967296*(P*4294967296)=I+x*P+(A+y*P):=by
 grind
end Go.Nt
namespace Go.Proofs.YtohdkalmpfmcmaaGreatDoor
open Go.As Go.Nt Go.Cc
theorem acG{a:List Int}(h:a.length<=1099511627776):sA a=ab (sh a):=by
 unfold sA;rw[show aA (acE a) _=_ from oZ a (by omega),fV]
 unfold acF;rw[iK (g7 a a.length),cS (jA (by grind) (by grind))]
 rfl
theorem JZ{a:List Int}(h:a.length<=1099511627776)(A:Dg a):sA a=ab (nd (vN a)):=by rw[acG h,re A]
theorem Ib{n:Int}(A:0<=n:=by omega)(h1:n< 18446744073709551616:=by omega):uh n=ab (nd n.toNat):=by
 unfold uh;rw[kz,jC,jC,Int.emod_eq_of_lt (a:=n/4294967296) (by omega) (by omega),acG (by simp),ah,Bc (n:=n.toNat)]
 .exact Dg.cons (by omega) (by omega) (Dg.cons (by omega) (by omega) Dg.nil)
 show n%4294967296+4294967296*(n/4294967296+4294967296*0)=_;omega
theorem zs{a:List Int}(h:Dg a)(i:Nat):digit a i=ab (a.getD i 0):=by
 unfold digit;have A:=h.at i;by_cases hi:i< a.length
 .rw [bh,ao,fU hi,bO]
 rw[bc,nr,jF (by omega)];rfl
theorem UJ(a b:List Int):∀{n i:Nat},i<=n->(∀j,i<=j->j< n->a.getD j 0=b.getD j 0)->wv a n-wv b n=wv a i-wv b i
 |0,i,h,_=>by
  grind
 |n+1,i,h,he=>by
  by_cases hi:i=n+1
  .rw [hi]
  have ih:=UJ a b (n:=n) (i:=i) (by omega) λj h1 h2=>he j h1 (by omega)
  show wv a n+a.getD n 0*4294967296^n-(wv b n+b.getD n 0*4294967296^n)=_;grind
theorem Me{a b:List Int}(A:Dg a)(I:Dg b){i:Nat}(h:a.getD i 0< b.getD i 0):wv a (i+1)< wv b (i+1):=by
 have h1:=dS A i;have h2:=dS I i;have J:(a.getD i 0+1)*4294967296^i<=b.getD i 0*4294967296^i:=kj (by omega) (ij (jv i))
 rw[gB]at J;show wv a i+a.getD i 0*4294967296^i< wv b i+b.getD i 0*4294967296^i;omega
theorem zC{a b:List Int}(I:Dg a)(A:Dg b)(nb:Nm b)(h:a.length< b.length:=by omega):dv a< dv b:=by
 obtain⟨n,J⟩:∃n,b.length=n+1:=⟨b.length-1,by omega⟩
 have h1:=dS I n;rw[da a n (by omega)]at h1
 have h2:=dS A n;have U:=A.at n;have Z:b.getD n 0≠0:=λe=>nb (by
  grind)
 have c:1*4294967296^n<=b.getD n 0*4294967296^n:=kj (by omega) (ij (jv n))
 rw[<-da b (n+1) (by omega)]
 show _< wv b n+b.getD n 0*4294967296^n;omega
def gI(x y:Nat):Int:=if x< y then -1 else if y< x then 1 else 0
theorem Xi{a b:List Int}(A:Dg a)(I:Dg b)(k:a.length<=1099511627776:=by omega)(l:b.length<=1099511627776:=by omega):CO a b=ab (gI (vN a) (vN b)):=by
 have h1:=g7 a a.length;have h2:=g7 b b.length;have m:=dy A;have n:=dy I;have o:=oV a;have p:=oV b;unfold CO;rw[show aA (Xe a) _=_ from oZ a (by omega),fV]
 unfold Xh;rw[iK h1,show aA (Xf b) _=_ from oZ b (by omega),fV]
 unfold Xg;rw[iK h2];simp only[cU];show(bif !aj ((sh a).length:Int) ((sh b).length:Int)then bif ak ((sh a).length:Int) ((sh b).length:Int)then ab (-1)else ab 1
  else aA (CP a b ((((tl a a.length:Nat):Int),()),(),()) ((((tl b b.length:Nat):Int),()),(),())) ((w (((sh a).length:Int)-1),()),(),()))=_
 by_cases he:(sh a).length=(sh b).length
 .simp (disch:=omega) only [nk];obtain⟨r,e,rfl⟩:=eW (step:=CP a b ((((tl a a.length:Nat):Int),()),(),()) ((((tl b b.length:Nat):Int),()),(),()))
   (λs=>∃i:Nat,s=(((i:Int)-1,()),(),())/\i<=(sh a).length/\∀j,i<=j->j<(sh a).length->a.getD j 0=b.getD j 0) (λs=>(s.1.1+1).toNat) (λr=>r=gI (vN a) (vN b)) (by
   rintro _ ⟨i,rfl,hi,d⟩;have q:=UJ a b hi d;have t:wv a (sh a).length=dv a:=by
    rw[<-da (sh a) _ (aL _) |>.trans (gZ a)]
    exact vc a _
   have u:wv b (sh a).length=dv b:=by
    rw[he,<-da (sh b) _ (aL _) |>.trans (gZ b)]
    exact vc b _
   cases i with
   |zero=>
    right;refine⟨_,by rfl,?_⟩
    have:wv a 0=0:=rfl;have:wv b 0=0:=rfl;unfold gI;omega
   |succ i=>
    have f:CP a b ((((tl a a.length:Nat):Int),()),(),()) ((((tl b b.length:Nat):Int),()),(),()) (((((i+1:Nat):Int)-1),()),(),())=bif ak (a.getD i 0) (b.getD i 0)then ab (cF (-1))else bif ak (b.getD i 0) (a.getD i 0)then ab (cF 1)else ab (bb (((i:Int)-1,()),(),())):=by
     unfold CP;simp only[pr,cU];show(bif ai 0 (i:Int)then aQ (sh a) (i:Int) λg=>aQ (sh b) (i:Int) λJ=>bif ak g J then az (-1)else aQ (sh a) (i:Int) λU=>aQ (sh b) (i:Int) λZ=>bif ak Z U then az 1 else aB ((w ((i:Int)-1),()),(),())else az 0)=_
     simp(disch:=omega) only [nk,FG]
    rw[f];by_cases c1:a.getD i 0< b.getD i 0
    .right;have:=Me A I c1;refine⟨_,by rw[bh c1,ao],?_⟩
     unfold gI;rw[aK (by omega)]
    rw[bc,au];by_cases c2:b.getD i 0< a.getD i 0
    .right;have:=Me I A c2;refine⟨_,by rw[bh c2,ao],?_⟩
     unfold gI;rw[ax (by omega),aK (by omega)]
    left;rw[bc,au];refine⟨_,rfl,⟨i,rfl,by omega,λj h1 h2=>?_⟩,?_⟩
    .by_cases c:j=i
     .subst c;omega
     exact d j (by omega) h2
    show((i:Int)-1+1).toNat<(((i+1:Nat):Int)-1+1).toNat;omega) (((((sh a).length:Nat):Int)-1,()),(),()) ⟨(sh a).length,rfl,aL _,λj h1 h2=>by omega⟩
  exact e
 rw[bK,fO,ao];have v:=gZ a;have x:=gZ b;by_cases h:(sh a).length<(sh b).length
 .have:=zC (lD A) (lD I) (nY b) h;rw[bh,ao];unfold gI;rw[aK (by omega)]
 have:=zC (lD I) (lD A) (nY a);rw[bc,au];unfold gI;rw[ax (by omega),aK (by omega)]
theorem ai7{A I wb x y c P:Int}(h:A+c*P=I+wb):A+(c+(x+y))%4294967296*P+(c+(x+y))/4294967296*(P*4294967296)=I+x*P+(wb+y*P):=by
 grind
theorem Nb{a b:List Int}(I:Dg a)(J:Dg b)(d:a.length<=1099511627776:=by omega)(f:b.length<=1099511627776:=by omega):Cj a b=ab (nd (vN a+vN b)):=by
 have v:=dy I;have x:=dy J;obtain⟨m,hm,g,A⟩:∃m:Nat,(bif ai (a.length:Int) (b.length:Int)then(b.length:Int)else(a.length:Int))=(m:Int)/\a.length<=m/\b.length<=m/\m<=1099511627776:=by
  by_cases h:a.length<=b.length
  .exact ⟨b.length,by rw[bV];rfl,h,aL _,f⟩
  exact⟨a.length,by rw[dh];rfl,aL _,by omega,d⟩
 have hw:(w ((bif ai (a.length:Int) (b.length:Int)then(b.length:Int)else(a.length:Int))+1))=((m+1:Nat):Int):=by
  rw[hm,aw];rfl
 have j:=A.1;have k:=A.2;unfold Cj;simp only[hw,cU];rw[cS (by grind[nk])]
 obtain⟨r,e,rfl⟩:=eW (step:=Na a b)
  (λs=>∃(c:Int) (i:Nat) (o:List Int),s=((c,(i:Int),()),(),o,())/\i<=m+1/\o.length=m+1/\Dg o/\0<=c/\c<=1/\wv o i+c*4294967296^i=wv a i+wv b i) (λs=>(((m+1:Nat):Int)-s.1.2.1).toNat) (λr=>r=nd (vN a+vN b)) (by
  rintro _ ⟨c,i,o,rfl,hi,y,U,l,p,Z⟩;unfold Na;simp only[hw,cU,jj];have z:=I.at i;have B:=J.at i;by_cases h:i< m+1
  .left;rw[bh,ao,zs I,ah,zs J,ah,kK];rw[bO (n:=a.getD i 0+b.getD i 0),bO (n:=c+(a.getD i 0+b.getD i 0)),kz,jC,aw];refine⟨_,rfl,⟨_,i+1,_,rfl,by omega,by grind,U.set (by omega) (by omega),by omega,by omega,?_⟩,?_⟩
   .rw [ru o i _,pw];exact ai7 Z
   grind
  right;obtain rfl:i=m+1:=by omega
  rw[bc,au];rw[show aA (VY ((c,((m+1:Nat):Int),()),(),o,())) _=_ from rn o (by omega),fV]
  unfold VZ;simp only;rw[iK (g7 o o.length),ah,cU];refine⟨_,rfl,?_⟩;have C:=da a (m+1) (by omega)
  have D:=da b (m+1) (by omega)
  have E:=da o (m+1) (by omega)
  have q:=dS I m;have t:=dS J m;rw[da a m (by omega)]at q
  rw[da b m (by omega)]at t
  have F:=dS U (m+1);have u:c=0:=by
   grind
  subst u;rw[ik]at Z;exact Bc U (by omega)) ((0,0,()),(),bP (m+1) 0,()) ⟨0,0,_,rfl,by omega,jj,Dg.rep _,by omega,by omega,rfl⟩
 exact e
theorem avV{A I wb x y c P:Int}(h:A+wb=I+c*P):A+(x-y-c)%4294967296*P+(wb+y*P)=I+x*P+ -((x-y-c)/4294967296)*(P*4294967296):=by
 grind
theorem LP{a b:List Int}(I:Dg a)(J:Dg b)(j:a.length<=1099511627776:=by omega)(k:b.length<=1099511627776:=by omega):FL a b=ab (if vN a< vN b then([],af,())else(nd (vN a-vN b),ag,())):=by
 have v:=dy I;have w:=dy J;have h1:=g7 a a.length;have x:=oV a;unfold FL;rw[Xi I J j k,ah];by_cases A:vN a< vN b
 .rw [aK A];unfold gI;rw[aK A,bh,ao]
 rw[ax A];have U:ak (gI (vN a) (vN b)) 0=af:=by
  unfold gI;rw[ax A];split;all_goals rfl
 rw[U,au,show aA (af3 a) _=_ from oZ a (by omega),fV]
 unfold af6;rw[iK h1];simp only[cU];show aT (ai ((sh a).length:Int) ((sh a).length:Int)&&ai (((sh a).length:Int)*4) 70368744177664)
  (aA (LO a b ((((tl a a.length:Nat):Int),()),(),())) ((0,0,()),(),bP (sh a).length 0,()))=_
 have y:=oV a;rw[cS (by grind[nk])]
 obtain⟨m,hm⟩:∃m,m=(sh a).length:=⟨_,rfl⟩;rw[<-hm];have z:wv a m=dv a:=by rw[hm,vc,da _ _ (aL _),gZ]
 have B:wv b m=dv b:=by
  have Z:(sh b).length<=m:=by
   rcases jH m (sh b).length with l|l
   .have:=zC (lD I) (lD J) (nY b);grind[gZ]
   omega
  rw[vc,da _ _ Z,gZ]
 obtain⟨r,e,rfl⟩:=eW (step:=LO a b ((((tl a a.length:Nat):Int),()),(),()))
  (λs=>∃(c:Int) (i:Nat) (o:List Int),s=((c,(i:Int),()),(),o,())/\i<=m/\o.length=m/\Dg o/\0<=c/\c<=1/\wv o i+wv b i=wv a i+c*4294967296^i) (λs=>((m:Int)-s.1.2.1).toNat) (λr=>r=(nd (vN a-vN b),ag,())) (by
  rintro _ ⟨c,i,o,rfl,hi,n,d,p,q,f⟩;unfold LO;simp only[cU,jj];show(∃C,(bif ak (i:Int) ((sh a).length:Int)then _ else _)=_/\_)∨∃r,(bif ak (i:Int) ((sh a).length:Int)then _ else _)=_/\_;rw[<-hm];have D:=I.at i;have E:=J.at i;by_cases h:i< m
  .left;rw[bh,ao,zs I,ah,zs J,ah,kK];have t:wu (wu (a.getD i 0-b.getD i 0)-c)=(a.getD i 0-b.getD i 0-c)%18446744073709551616:=by
    rw[ta,ta];omega
   have u:(a.getD i 0-b.getD i 0-c)%18446744073709551616/9223372036854775808= -((a.getD i 0-b.getD i 0-c)/4294967296):=by omega
   have g:(a.getD i 0-b.getD i 0-c)%18446744073709551616%4294967296=(a.getD i 0-b.getD i 0-c)%4294967296:=by omega
   rw[t,OR,jC,u,g,aw];refine⟨_,rfl,⟨_,i+1,_,rfl,by omega,by rw[fQ];exact n,d.set (by omega) (by omega),by omega,by omega,?_⟩,?_⟩
   .rw [ru o i _,pw];exact avV f
   show((m:Int)-((i:Int)+1)).toNat<((m:Int)-(i:Int)).toNat;omega
  right;obtain rfl:i=m:=by omega
  rw[bc,au];rw[show aA (af4 ((c,(i:Int),()),(),o,())) _=_ from rn o (by omega),fV]
  unfold af5;simp only;rw[iK (g7 o o.length),ah,cU];refine⟨_,rfl,?_⟩;have g:=da o i (by omega)
  have F:=dS d i;have U:c=0:=by
   rcases qd 0 c with U|U
   .obtain rfl:c=1:=by omega
    rw[n8]at f;omega
   omega
  subst U;rw[ik]at f;have:aY (tl o o.length) o=nd (vN a-vN b):=Bc d (by omega)
  rw[this]) ((0,0,()),(),bP m 0,()) ⟨0,0,_,rfl,by omega,jj,Dg.rep _,by omega,by omega,rfl⟩
 exact e
theorem lQ(l:List Int)(i:Nat)(v:Int)(j:Nat)(h:i< l.length:=by omega):(l.set i v).getD j 0=if i=j then v else l.getD j 0:=by
 grind
theorem Bv(l:List Int)(i:Nat)(v:Int)(h:i< l.length):∀n,i< n->wv (l.set i v) n=wv l n+(v-l.getD i 0)*4294967296^i
 |0,h=>by omega
 |n+1,A=>by
  show wv (l.set i v) n+(l.set i v).getD n 0*4294967296^n=wv l n+l.getD n 0*4294967296^n+_;rw[lQ l i v n h];by_cases e:i=n
  .subst e;rw[aK rfl,Mf l i v i (aL _),qg];omega
  rw[ax e,Bv l i v h n (by omega)]
  omega
theorem Aj{x y:Int}(I:0<=x)(J:x< 4294967296)(A:0<=y:=by omega)(U:y< 4294967296:=by omega):0<=x*y/\x*y<=18446744065119617025:=by
 refine⟨n7 I A,?_⟩;have h1:x*y<=4294967295*4294967295:=qe (by omega) (by omega) A (by omega)
 omega
theorem ar1{b:List Int}(u:Dg b){L i lb:Nat}{x W:Int}{o:List Int}(J:lb=tl b b.length)(d:0<=x)(v:x< 4294967296)(G:i+lb< L)(y:L<=2199023255552)(z:o.length=L)(B:Dg o)(C:∀j,i+lb<=j->o.getD j 0=0)(D:wv o L=W):
  ∃r,aA (Rv b (((lb:Int),()),(),()) (((i:Int),()),(),o,()) x) ((0,0,()),(),o,())=ab r/\∃U,r=.inl ((((i+1:Nat):Int),()),(),U,())/\U.length=L/\Dg U/\(∀j,i+1+lb<=j->U.getD j 0=0)/\wv U L=W+x*dv b*4294967296^i:=by
 have E:aY lb b=sh b:=by rw[J];rfl
 have e:(sh b).length=lb:=by rw[J,oV]
 refine eW (λs=>∃(c:Int) (k:Nat) (p:List Int),s=((c,(k:Int),()),(),p,())/\k<=lb/\p.length=L/\Dg p/\0<=c/\c< 4294967296/\(∀j,i+lb<=j->p.getD j 0=0)/\wv p L+c*4294967296^(i+k)=W+x*wv b k*4294967296^i) (λs=>((lb:Int)-s.1.2.1).toNat) _ ?_ _ ⟨0,0,o,rfl,by omega,z,B,by omega,by omega,C,by rw[D,ik,show wv b 0=0 from rfl,Vj,ik]⟩
 rintro _ ⟨c,k,p,rfl,H,hp,A,Z,a,I,f⟩;unfold Rv;simp only[cU,E,e];by_cases h:k< lb
 .left;have l:=u.at k;have K:=A.at (i+k);have hm:=Aj d v l.1 l.2;have g:w ((i:Int)+(k:Int))=((i+k:Nat):Int):=by rw[aw];rfl
  rw[bh,ao,fU,FG,g,kK,kK,cU];rw[bO (n:=x),bO (n:=b.getD k 0),bO (n:=p.getD (i+k) 0),bO (n:=x*b.getD k 0),bO (n:=x*b.getD k 0+_),bO (n:=c+_),kz,jC,aw];generalize m:c+(x*b.getD k 0+p.getD (i+k) 0)=t;refine⟨_,rfl,⟨_,k+1,_,rfl,by omega,by rw[fQ];exact hp,A.set (by omega) (by omega),by omega,by omega,λj q=>?_,?_⟩,?_⟩
  .rw [lQ _ _ _ _,ax (by omega)]
   exact I j q
  .rw [Bv _ _ _ (by omega) _ (by omega)]
   have h1:t*4294967296^(i+k)=t%4294967296*4294967296^(i+k)+t/4294967296*(4294967296^(i+k)*4294967296):=carry;show _+t/4294967296*4294967296^(i+k+1)=_;rw[pw,qg];show _=W+x*(wv b k+b.getD k 0*4294967296^k)*4294967296^i;have h2:x*(wv b k+b.getD k 0*4294967296^k)*4294967296^i=x*wv b k*4294967296^i+x*b.getD k 0*4294967296^(i+k):=by
    rw[ahA,gB,BK,vn (4294967296^i),<-kh,<-kh]
   rw[<-m,gB,gB,m]at h1;rw[h2];omega
  show((lb:Int)-((k:Int)+1)).toNat<((lb:Int)-(k:Int)).toNat;omega
 right;obtain rfl:k=lb:=by omega
 have g:w ((i:Int)+(k:Int))=((i+k:Nat):Int):=by rw[aw];rfl
 rw[bc,au,g,kK,cU,nh (n:=c) Z a,aw];refine⟨_,rfl,_,rfl,by rw[fQ];exact hp,A.set Z a,λj q=>?_,?_⟩
 .rw [lQ _ _ _ _,ax (by omega)]
  exact I j (by omega)
 have F:wv b k=dv b:=by rw[vc,da _ _ (by omega),gZ]
 rw[Bv _ _ _ (by omega) _ (by omega),I (i+k) (aL _),Vl,f,F]
theorem ar0{a b:List Int}(U:Dg a)(Z:Dg b)(B:a.length<=1099511627776:=by omega)(lb:b.length<=1099511627776:=by omega):JI a b=ab (nd (vN a*vN b)):=by
 have h1:=g7 a a.length;have h2:=g7 b b.length;have c:=oV a;have p:=oV b;unfold JI;rw[show aA (abZ a) _=_ from oZ a (by omega),fV]
 unfold ab4;rw[iK h1];rw[show aA (ab0 b) _=_ from oZ b (by omega),fV]
 unfold ab3;rw[iK h2];simp only[cU];have hw:w (((aY (tl a a.length) a).length:Int)+((aY (tl b b.length) b).length:Int))=(((sh a).length+(sh b).length:Nat):Int):=by
  show w (((sh a).length:Int)+((sh b).length:Int))=_;rw[aw];rfl
 rw[hw,cU,cS (by simp(disch:=omega) only [nk])]
 obtain⟨n,A⟩:∃n,n=(sh a).length:=⟨_,rfl⟩;obtain⟨m,hm⟩:∃m,m=(sh b).length:=⟨_,rfl⟩;rw[<-A,<-hm,<-c,<-p,<-A,<-hm];obtain⟨r,e,rfl⟩:=eW (step:=Rw a b (((n:Int),()),(),()) (((m:Int),()),(),()))
  (λs=>∃(i:Nat) (o:List Int),s=(((i:Int),()),(),o,())/\i<=n/\o.length=n+m/\Dg o/\(∀j,i+m<=j->o.getD j 0=0)/\wv o (n+m)=wv a i*dv b) (λs=>((n:Int)-s.1.1).toNat) (λr=>r=nd (vN a*vN b)) (by
  rintro _ ⟨i,o,rfl,hi,d,I,f,g⟩;unfold Rw;have J:aY n a=sh a:=by rw[A,c];rfl
  simp only[cU,J,<-A];have k:=U.at i;by_cases h:i< n
  .left;rw[bh,ao,fU,FG];by_cases l:a.getD i 0=0
   .rw [cT l,ao,aw];refine⟨_,rfl,⟨i+1,o,rfl,by omega,d,I,λj C=>f j (by omega),?_⟩,?_⟩
    .show _=(wv a i+a.getD i 0*_)*dv b;grind
    grind
   rw[bK l,au];obtain⟨r,e,q,rfl,t,u,v,y⟩:=ar1 (b:=b) Z (L:=n+m) (i:=i) (lb:=m) (x:=a.getD i 0) (o:=o) (by omega) k.1 k.2 (by omega) (by omega) d I f g
   rw[e];refine⟨_,rfl,⟨i+1,q,rfl,by omega,t,u,v,?_⟩,?_⟩
   .rw [y];show _=(wv a i+a.getD i 0*4294967296^i)*dv b;grind
   grind
  right;obtain rfl:i=n:=by omega
  rw[bc,au];rw[show aA (ab1 (((i:Int),()),(),o,())) _=_ from rn o (by omega),fV]
  unfold ab2;simp only;rw[iK (g7 o o.length),ah,cU];refine⟨_,rfl,?_⟩;have z:wv a i=dv a:=by rw[vc,da _ _ (by omega),gZ]
  refine Bc I ?_;rw[<-da o (i+m) (by omega),g,z,kV,dy U,dy Z]) ((0,()),(),bP (n+m) 0,()) ⟨0,_,rfl,by omega,jj,Dg.rep _,λj _=>by
    rw[nr,List.getElem?_replicate];split<;>rfl,by
    rw[show wv a 0=0 from rfl,ik,da _ _ (by rw[jj];exact aL _)]
    exact OG _⟩
 exact e
theorem Bu{n:Nat}(h:n< 18446744073709551616:=by omega):word .u64 (n)=n:=rH h
theorem abz{r y:Nat}(A:r< 4294967296:=by omega)(I:y< 4294967296:=by omega):(r*4294967296).lor y=r*4294967296+y:=by
 have h:=ais (i:=32) (b:=y) (by omega) r
 simp_all[ait]
theorem AB{r y:Int}(A:0<=r)(J:r< 4294967296)(I:0<=y)(U:y< 4294967296):wu (((word .u64 (wu (r*4294967296))).lor (word .u64 (wu y))))=r*4294967296+y:=by
 obtain⟨r,rfl⟩:=fP A;obtain⟨y,rfl⟩:=fP I;have e:r*4294967296=((r*4294967296:Nat):Int):=by omega
 rw[bO (n:=r*4294967296),bO (n:=y),e,Bu,Bu,abz,bO];omega
theorem zx(l:List Int) i(h:i< l.length):dv (l.drop i)=l.getD i 0+4294967296*dv (l.drop (i+1)):=by
 rw[il h,nr,gD h];rfl
theorem HJ(l:List Int) i v(h:i< l.length):dv ((l.set i v).drop i)=v+4294967296*dv (l.drop (i+1)):=by
 rw[zx _ i (by grind),gS l i v h,List.drop_set_of_lt (by omega)]
theorem asI{a:List Int}{d:Int}(f:Dg a)(Z:0< d:=by omega)(q:d< 4294967296:=by omega)(t:a.length<=1099511627776:=by omega):one a d=ab (nd (vN a/d.toNat),((vN a%d.toNat:Nat):Int),()):=by
 have u:=dy f;obtain⟨n,rfl⟩:=fP (ij Z);unfold one;rw[cS (by grind[nk]),cU,cU,aw]
 obtain⟨r,e,rfl⟩:=eW (step:=El a (n:Int))
  (λs=>∃(c:Int) (i:Nat) (o:List Int),s=((c,(i:Int)-1,()),(),o,())/\i<=a.length/\o.length=a.length/\Dg o/\0<=c/\c<(n:Int)/\dv (a.drop i)=dv (o.drop i)*(n:Int)+c) (λs=>(s.1.2.1+1).toNat) (λr=>r=(nd (vN a/n),((vN a%n:Nat):Int),())) (by
  rintro _ ⟨c,i,o,rfl,hi,v,I,U,k,g⟩;cases i with
  |zero=>
   right;have b:El a (n:Int) ((c,((0:Nat):Int)-1,()),(),o,())=(bt (aA (RO ((c,((0:Nat):Int)-1,()),(),o,())) ((↑o.length,()),(),())) (RP ((c,((0:Nat):Int)-1,()),(),o,()))).bind λl=>az l:=by
    rfl
   rw[b,show aA (RO ((c,((0:Nat):Int)-1,()),(),o,())) _=_ from rn o (by omega),fV]
   unfold RP;simp only;have h1:=g7 o o.length;rw[iK h1,ah,cU,nh U];refine⟨_,rfl,?_⟩;rw[qh,qh]at g;have w:=dy I;have h:vN a=vN o*n+c.toNat:=by
    grind
   have m:vN a/n=vN o:=by
    rw[h,lJ,vz (by omega),tp (by omega)];rfl
   have p:vN a%n=c.toNat:=by
    rw[h,lJ,BQ,rH (by omega)]
   rw[m,p];have:aY (tl o o.length) o=nd (vN o):=re I;grind
  |succ i=>
   left;have j:=f.at i;have b:El a (n:Int) ((c,((i+1:Nat):Int)-1,()),(),o,())=ab (bb (((c*4294967296+a.getD i 0)%(n:Int),(i:Int)-1,()),(),o.set i ((c*4294967296+a.getD i 0)/(n:Int)),())):=by
    have A:0<=(c*4294967296+a.getD i 0)/(n:Int):=vk (by omega) (by omega)
    have J:(c*4294967296+a.getD i 0)/(n:Int)< 4294967296:=BH (by omega) (by
     omega)
    unfold El;simp only[pr];rw[bV,ao,fU,AB (r:=c) (y:=a.getD i 0) U (by omega) j.1 j.2,bO (n:=(n:Int)),nG,kK,nG,cU,Gd (by omega),o9 (by omega),bO (n:=_/_) A,nh A J,aw]
    rfl
   have A:0<=(c*4294967296+a.getD i 0)/(n:Int):=vk (by omega) (by omega)
   have J:(c*4294967296+a.getD i 0)/(n:Int)< 4294967296:=BH (by omega) (by
    omega)
   refine⟨_,b,⟨_,i,_,rfl,by omega,by grind,I.set A J,MF _ (by omega),F9 _ (by omega),?_⟩,?_⟩
   .rw [HJ _ _ _ (by omega),zx a i (by omega),g,gB,kh 4294967296]
    have h1:=Vi (c*4294967296+a.getD i 0) (n:Int);grind
   simp) ((0,(a.length:Int)-1,()),(),bP a.length 0,()) ⟨0,a.length,_,rfl,aL _,jj,Dg.rep _,by omega,by omega,by
   rw[g8 (aL _),g8 (by simp)]
   show(0:Int)=0*_+0;omega⟩
 exact e
def Ws(x m:Nat)(o:Option Int):=match o with
 |some (.ofNat k)=>bu m k&&(bu (k-m) 8&&(Nat.blt x (2^(k-m))&&(Nat.beq x 0||bu 1 (k-m)&&bu (2^(k-m-1)) x)))
 |_=>af
theorem av4:([0,8,16,24].all λm=>(List.range 256).all λx=>Ws x m (Jn ((aE x,aE m,()),(),())))=ag:=by kernel_rfl
theorem av5{x m:Nat}(I:x< 256)(J:0< x)(hm:m∈[0,8,16,24]):∃j:Nat,Jn (((x:Int),(m:Int),()),(),())=ab ((m+j:Nat):Int)/\1<=j/\j<=8/\x< 2^j/\2^(j-1)<=x:=by
 have h:=lI.1 (lI.1 av4 m hm) x (List.mem_range.2 I);unfold Ws at h;split at h
 .rename_i k;simp only[aM,Bool.or_eq_true,Nat.ble_eq,Nat.blt_eq,Nat.beq_eq]at h;obtain⟨h1,h2,U,A⟩:=h;rcases A with A|⟨A,Z⟩
  all_goals grind
 trivial
theorem Yt(n:Int):n.fdiv 65536=n/65536:=qc n (by omega)
theorem Yu(n:Int):n.fdiv 256=n/256:=qc n (by omega)
theorem Ra{n:Nat}(c:0< n:=by omega)(h1:n< 4294967296:=by omega):∃k:Nat,DW (n:Int)=ab (k:Int)/\1<=k/\k<=32/\n< 2^k/\2^(k-1)<=n:=by
 have A:∀{x m M:Nat},0< x->x< 256->m∈[0,8,16,24]->M=2^m->n/M=x->0< M->∃k:Nat,Jn (((x:Int),(m:Int),()),(),())=ab (k:Int)/\1<=k/\k<=32/\n< 2^k/\2^(k-1)<=n:=by
  intro x m M I U hm d f Z;obtain⟨j,e,g,h,i,l⟩:=av5 U I hm;have a:m<=24:=by
   grind
  refine⟨m+j,e,by omega,by omega,?_,?_⟩<;>try grind
  have:m+j-1=m+(j-1):=by omega
  grind
 unfold DW;by_cases c1:65536<=n
 .rw [bV,ao,iZ];unfold Q9;simp only[Yt,Yu];have b:(n:Int)/65536=((n/65536:Nat):Int):=by omega
  rw[b];by_cases c2:256<=n/65536
  .rw [bV,ao,iZ];have J:((n/65536:Nat):Int)/256=((n/16777216:Nat):Int):=by omega
   rw[J];exact A (m:=24) (M:=16777216) (by omega) (by omega) (by decide) (by decide) rfl (by omega)
  rw[dh,au,iZ];exact A (m:=16) (M:=65536) (by omega) (by omega) (by decide) (by decide) rfl (by omega)
 rw[dh,au,iZ];unfold Q9;simp only[Yt,Yu];by_cases c2:256<=n
 .rw [bV,ao,iZ];have J:(n:Int)/256=((n/256:Nat):Int):=by omega
  rw[J];exact A (m:=8) (M:=256) (by omega) (by omega) (by decide) (by decide) rfl (by omega)
 rw[dh,au,iZ];exact A (m:=0) (M:=1) (by omega) (by omega) (by decide) (by decide) (Vw n) (by omega)
theorem arJ{n:Nat}(A:0< n:=by omega)(h1:n< 4294967296:=by omega):∃s:Nat,Jv (n)=ab (s:Int)/\s<=31/\2147483648<=n*2^s/\n*2^s< 4294967296:=by
 obtain⟨k,e,k1,k2,I,J⟩:=Ra A h1;refine⟨32-k,?_,by omega,?_,?_⟩
 .unfold Jv;rw[e,ah,aw];congr 1;omega
 .have:2^(k-1)*2^(32-k)<=n*2^(32-k):=eA _ J;rw[<-qk,show k-1+(32-k)=31 by omega]at this
  omega
 have:n*2^(32-k)< 2^k*2^(32-k):=ail I (nx (by omega))
 rw[<-qk,show k+(32-k)=32 by omega]at this
 omega
end Go.Proofs.YtohdkalmpfmcmaaGreatDoor
namespace Go.Nt
open Go.As
theorem arC{σ ρ:Type}{step:σ->Option (σ⊕ρ)}{s:σ}(h:step s=none):aA step s=none:=by
 cases e:aA _ s
 .rfl
 rename_i r;obtain⟨n,A⟩:=Jt e;cases n<;>first|cases A|simp_all[Ab,h]
theorem w8{σ ρ:Type}{step:σ->Option (σ⊕ρ)}{s:σ}{x:Option ρ}(h:step s=x.bind λy=>ab (.inr y)):aA step s=x:=by
 cases x<;>first|exact arC h|exact cP h
theorem D0{σ ρ:Type}{step:σ->Option (σ⊕ρ)}(I:Nat->σ->Prop) n(h:∀i s,i< n->I i s->∃A,step s=ab (.inl A)/\I (i+1) A):∀s,I 0 s->∃A,aA step s=aA step A/\I n A:=by
 have:∀m,m<=n->∀s,I 0 s->∃A,aA step s=aA step A/\I m A:=by
  intro m;induction m with
  |zero=>grind
  |succ m ih=>
   intro hm s J;obtain⟨U,Z,h1⟩:=ih (by omega) s J
   obtain⟨a,b,h2⟩:=h m U (by omega) h1
   exact⟨a,Z.trans (eY b),h2⟩
 simp_all
end Go.Nt
namespace Go.Proofs.YtohdkalmpfmcmaaGreatDoor
open Go.As Go.Nt Go.Cc
theorem agG{n:Nat}(h:n< 4294967296:=by omega):word .u32 (n)=n:=rH h
theorem arE{h y s:Nat}(I:s<=31)(A:h< 2^s:=by omega):h.lor (y*2^s%4294967296)=h+y*2^s%4294967296:=by
 have e:y*2^s%4294967296=y%2^(32-s)*2^s:=by
  have:4294967296=2^(32-s)*2^s:=by rw[<-qk,show 32-s+s=32 by omega]
  rw[this,MO]
 have h1:=ais A (y%2^(32-s));simp_all[ait,aip,Nat.add_comm]
def xX(o:List Int) y(s i:Nat):=
 (o.set i (wr .u32 (((word .u32 (o.getD i 0)).lor (word .u32 (wr .u32 (wu (wu y*(2^s.min 64:Nat))))))))).set (i+1) (wr .u32 ((wu (wu y*(2^s.min 64:Nat))).fdiv 4294967296))
theorem avr{l o:List Int}{s i:Nat}(Z:Dg l)(I:Dg o)(J:s<=31)(hi:i+1< o.length)(r:o.getD i 0<((2^s:Nat):Int))(a:wv o (i+1)=wv l i*((2^s:Nat):Int)):
  (xX o (l.getD i 0) s i).length=o.length/\Dg (xX o (l.getD i 0) s i)/\(xX o (l.getD i 0) s i).getD (i+1) 0<((2^s:Nat):Int)/\wv (xX o (l.getD i 0) s i) (i+2)=wv l (i+1)*((2^s:Nat):Int):=by
 have b:=Z.at i;obtain⟨y,c⟩:=fP b.1;obtain⟨h,U⟩:=fP (I.at i).1;have hp:2^s<=2147483648:=tr (n:=2) (by omega) J
 have hm:s.min 64=s:=nv (by omega)
 obtain⟨p,A⟩:∃p,p=2^s:=⟨_,rfl⟩;have d:y*p<=4294967295*p:=eA _ (by omega)
 have e:wu (wu (l.getD i 0)*((2^s.min 64:Nat):Int))=((y*p:Nat):Int):=by
  rw[hm,c,bO (n:=(y:Int)),<-A,<-kV,bO]
 have f:wr .u32 ((y*p:Nat):Int)=((y*p%4294967296:Nat):Int):=by rfl
 have g:=by
  have:y*p%4294967296=(y%2^(32-s))*2^s:=by
   have h2:(4294967296:Nat)=2^(32-s)*2^s:=by rw[<-qk,show 32-s+s=32 by omega]
   rw[A,h2,MO]
  have j:y%2^(32-s)+1<=2^(32-s):=qj _ (nx (by omega))
  have k:=eA (2^s) j;rw[<-qk,show 32-s+s=32 by omega,Nat.add_mul,Nat.one_mul,<-this]at k
  omega
 have m:wr .u32 (((word .u32 (o.getD i 0)).lor (word .u32 (wr .u32 ((y*p:Nat):Int))):Nat):Int)=((h+y*p%4294967296:Nat):Int):=by
  rw[f,U,agG,agG,A,arE J,<-A,nh]
 have q:wr .u32 (((y*p:Nat):Int).fdiv 4294967296)=((y*p/4294967296:Nat):Int):=by
  rw[kz,nh];omega
 have et:xX o (l.getD i 0) s i=(o.set i ((h+y*p%4294967296:Nat):Int)).set (i+1) ((y*p/4294967296:Nat):Int):=by
  simp_all[xX,e,m,q]
 rw[et];refine⟨by simp,(I.set (by omega) (by omega)).set (by omega) (by omega),?_,?_⟩
 .grind
 rw[ru _ (i+1) _ (by grind),Bv _ _ _ (by omega) _ (by omega),a,U,<-A]
 show _=(wv l i+l.getD i 0*4294967296^i)*(p:Int);grind
abbrev vG:=(Int×Unit)×Unit×List Int×Unit
def rb{ρ:Type} n(rd:Int->(Int->Option (vG⊕ρ))->Option (vG⊕ρ))(X:Int)(ex:vG->Option (vG⊕ρ)) s:=
 bif ak s.1.1 n then
  rd s.1.1 λA=>bif ak (X.tmod 32) 0 then none else aN s.2.2.1 (w (s.1.1+w (X.tdiv 32))) λI=>aN s.2.2.1 (w (s.1.1+w (X.tdiv 32))) λJ=>
   aN (s.2.2.1.set (w (s.1.1+w (X.tdiv 32))).toNat (wr .u32 ↑((word .u32 I).lor (word .u32 (wr .u32 (wu (wu A*↑2^(X.tmod 32).toNat.min 64))))))) (w (w (s.1.1+w (X.tdiv 32))+1)) λU=>
    aB ((w (s.1.1+1),()),(),(s.2.2.1.set (w (s.1.1+w (X.tdiv 32))).toNat (wr .u32 ↑((word .u32 I).lor (word .u32 (wr .u32 (wu (wu A*↑2^(X.tmod 32).toNat.min 64))))))).set (w (w (s.1.1+w (X.tdiv 32))+1)).toNat (wr .u32 ((wu (wu A*↑2^(X.tmod 32).toNat.min 64)).fdiv 4294967296)),())
 else ex s
def Rd{ρ:Type}(l:List Int)(n:Int)(rd:Int->(Int->Option (vG⊕ρ))->Option (vG⊕ρ)):=n=l.length/\∀i f,i< l.length->rd i f=f (l.getD i 0)
theorem Rd.aQ{ρ:Type} l:Rd (ρ:=ρ) l l.length (aQ l):=⟨rfl,λ_ _ h=>fU h⟩
theorem avq{ρ:Type}{l o:List Int}{s i:Nat}{n:Int}{rd}(A:Rd (ρ:=ρ) l n rd) ex(a:s<=31)(b:l.length<=2199023255552)(hi:i< l.length)(c:o.length=l.length+1):
  rb n rd (s) ex (((i),()),(),o,())=ab (.inl ((((i+1:Nat)),()),(),xX o (l.getD i 0) s i,())):=by
 obtain⟨rfl,A⟩:=A;have hm:(s:Int).tmod 32=s:=MH (by omega) (by omega)
 have J:(s:Int).tdiv 32=0:=Gc (by omega) (by omega)
 have U:w 0=0:=aw;have Z:w _=i:=aw;have I:w (i+1)=(i+1:Nat):=aw;unfold rb;simp only[hm,J,U,lH,Z,I];rw[bh,A i _ hi,kK,kK,kK (by grind)]
 rfl
theorem TN{ρ:Type}{l o:List Int}{X n:Int}{rd}(A:Rd (ρ:=ρ) l n rd) ex:rb n rd X ex (((l.length),()),(),o,())=ex (((l.length),()),(),o,()):=by
 unfold rb;rw[A.1];simp[bc _]
theorem TO{ρ:Type}{l:List Int}{s:Nat}{n:Int}{rd}(J:Rd (ρ:=ρ) l n rd) ex(U:Dg l)(I:s<=31)(Z:l.length<=2199023255552):
  ∃o,aA (rb n rd (s) ex) ((0,()),(),bP (l.length+1) 0,())=aA (rb n rd (s) ex) (((l.length),()),(),o,())/\o.length=l.length+1/\Dg o/\dv o=dv l*((2^s:Nat)):=by
 have a:0< 2^s:=nx (by omega)
 have g:(bP (l.length+1) (0:Int)).getD 0 0=0:=by
  rfl
 obtain⟨_,e,o,rfl,h1,h2,_,A⟩:=D0 (step:=rb n rd _ ex) (λi st=>∃o,st=(((i:Int),()),(),o,())/\o.length=l.length+1/\Dg o/\o.getD i 0<(2^s:Nat)/\wv o _=wv l i*(2^s:Nat)) l.length (by
  rintro i _ hi ⟨o,rfl,h1,h2,b,A⟩;obtain⟨h,c,d,f⟩:=avr U h2 I (by omega) b A
  exact⟨_,avq J ex I Z hi h1,_,rfl,by omega,c,d,f⟩) _ ⟨_,rfl,jj,Dg.rep _,by omega,by
   show 0+0*_=0*_;omega⟩
 refine⟨o,e,h1,h2,?_⟩;rw[da o _ (by omega),da l _ (aL _)]at A
 omega
theorem ale x y J I A n:XN x y J I n A=rb ↑(aY A.1.1.toNat (aY I.1.1.toNat y)).length (aQ (aY A.1.1.toNat (aY I.1.1.toNat y))) (bif ai (aE n.toNat) 4096 then aE n.toNat else 4096) λs=>(bt (aA (HC s) ((↑s.2.2.1.length,()),(),())) (HB x J n s)).bind λz=>az z:=by rfl
theorem ald x U I A n(J:vG):XL x U n J I A=rb ↑(aY A.1.1.toNat (aY U.1.1.toNat x)).length (aQ (aY A.1.1.toNat (aY U.1.1.toNat x))) (bif ai (aE n.toNat) 4096 then aE n.toNat else 4096) λs=>(bt (aA (HD s) ((↑s.2.2.1.length,()),(),())) (CY x U n J I s)).bind λz=>az z:=by rfl
theorem ak7 n A J I:XI n A J I=rb (aE I.1.1.toNat) (λi f=>bif ai 0 i&&ak i (aE I.1.1.toNat)then A.2.2.1[i.toNat]?.bind f else none) (bif ai (w (0-aE n.toNat)) 4096 then w (0-aE n.toNat)else 4096) λs=>(bt (aA (Hz s) ((↑s.2.2.1.length,()),(),())) (HA A J s)).bind λz=>az z:=by rfl
theorem amp{u v:List Int}{m:Nat}{vr ur P:Int}(k:Dg u)(L:Dg v)(l:v.length=m+2)(T:u.length=m+3)(hm:m<=1099511627776)(o:0< P)(A:0<=vr)(p:vr< P)(b:0<=ur)(c:ur< P)
  (h1:2147483648<=v.getD (m+1) 0) (h0:u.getD (m+2) 0<=v.getD (m+1) 0)
  (W:((u.getD (m+2) 0*4294967296+u.getD (m+1) 0)*4294967296+u.getD m 0)*P+ur< 4294967296*((v.getD (m+1) 0*4294967296+v.getD m 0)*P+vr)):
  ∃q,Ip u v=ab q/\0<=q/\q< 4294967296/\((u.getD (m+2) 0*4294967296+u.getD (m+1) 0)*4294967296+u.getD m 0)*P+ur<(q+1)*((v.getD (m+1) 0*4294967296+v.getD m 0)*P+vr)
   /\(q-1)*((v.getD (m+1) 0*4294967296+v.getD m 0)*P+vr)<=((u.getD (m+2) 0*4294967296+u.getD (m+1) 0)*4294967296+u.getD m 0)*P+ur:=by
 have M:=k.at (m+2);have N:=k.at (m+1);have g:=k.at m;have b1:=L.at (m+1);have Z:=L.at m;have y:w ((v.length:Int)-1)=((m+1:Nat):Int):=by rw[aw];omega
 have X:w ((v.length:Int)-2)=(m:Int):=by rw[aw];omega
 have Y:u[v.length]? =ab (u.getD (m+2) 0):=by rw[l];exact gN
 have g1:∀{β:Type} (f:Int->Option β),aQ u ((m+1:Nat):Int) f=f (u.getD (m+1) 0):=λf=>fU
 have g2:∀{β:Type} (f:Int->Option β),aQ u (m:Int) f=f (u.getD m 0):=λf=>fU
 have k1:∀{β:Type} (f:Int->Option β),aQ v ((m+1:Nat):Int) f=f (v.getD (m+1) 0):=λf=>fU
 have k2:∀{β:Type} (f:Int->Option β),aQ v (m:Int) f=f (v.getD m 0):=λf=>fU
 generalize hv1:v.getD (m+1) 0=v1 at*;generalize ZV:v.getD m 0=v2 at*;generalize hu0:u.getD (m+2) 0=i at*;generalize ZT:u.getD (m+1) 0=z at*;generalize ZU:u.getD m 0=u2 at*;generalize B:(v1*4294967296+v2)*P+vr=V at*;generalize C:((i*4294967296+z)*4294967296+u2)*P+ur=U at*;have D:0<=V:=by
  have:0<=(v1*4294967296+v2)*P:=n7 (by omega) (by omega)
  omega
 have hU0:0<=U:=by
  have:0<=((i*4294967296+z)*4294967296+u2)*P:=n7 (by omega) (by omega)
  omega
 unfold Ip;simp only[cU,Y,y,g1,k1,ah];rw[bO (n:=i)];rw[AB M.1 M.2 N.1 N.2,bO (n:=v1),nG,nG,o9 (by omega),Gd (by omega)]
 generalize ht:i*4294967296+z=t at*;have E:0<=t/v1:=vk (by omega) (by omega)
 have F:t/v1< 4294967298:=BH (by omega) (by omega)
 have Dy:=F9 t (show 0< v1 by omega)
 rw[bO (n:=t/v1)];have J:∀q r:Int,0<=q->q< 4294967296->q*v1+r=t->U<(q+1)*V->q*v2<=r*4294967296+u2->(q-1)*V<=U:=λq r a O e _ G=>by
  have:=amh (vr:=vr) (ur:=ur) (P:=P) o a O (by omega) Z.1 A p b e G
  rw[B,C]at this;exact this
 obtain⟨q,e,r1,r2,r3,r4⟩:=eW (step:=uk u v) (λs=>∃q r:Int,s=((q,r,()),(),())/\0<=q/\0<=r/\r< 4294967296/\q< 4294967298/\q*v1+r=t/\U<(q+1)*V) (λs=>s.1.1.toNat) (λq=>0<=q/\q< 4294967296/\U<(q+1)*V/\(q-1)*V<=U) (by
  rintro _ ⟨q,r,rfl,a,r0,rB,qB,e,d⟩;have less:U< q*V->((bif !aj ((wu (r+v1)).fdiv 4294967296) 0 then az (wu (q-1))else aB ((wu (q-1),wu (r+v1),()),(),()):Option ((Int×Int×Unit)×Unit×Unit⊕Int))=uk u v ((q,r,()),(),()))->
    (∃H,uk u v ((q,r,()),(),())=ab (.inl H)/\(∃q r:Int,H=((q,r,()),(),())/\0<=q/\0<=r/\r< 4294967296/\q< 4294967298/\q*v1+r=t/\U<(q+1)*V)/\H.1.1.toNat< q.toNat)∨∃x,uk u v ((q,r,()),(),())=ab (.inr x)/\0<=x/\x< 4294967296/\U<(x+1)*V/\(x-1)*V<=U:=λQ j=>by
   have O:0< q:=by
    rcases qd 0 q with h|h<;>try trivial
    obtain rfl:q=0:=by omega
    rw[ik]at Q;omega
   have R:(q-1)*v1+(r+v1)=t:=by rw[qg,n8];omega
   have K:U<(q-1+1)*V:=by rw[Int.sub_add_cancel];exact Q
   rw[<-j,bO (n:=r+v1),bO (n:=q-1),kz];by_cases hb:4294967296<=r+v1
   .right;rw[bK,fO,ao];have I:q-1< 4294967296:=by
     rcases qd (q-1) 4294967296 with h|h<;>try trivial
     obtain rfl:q=4294967297:=by omega
     omega
    exact⟨_,rfl,by omega,I,K,J _ _ (by omega) I R K (ame (by omega) I Z.1 Z.2 g.1 hb)⟩
   left;rw[cT,cg,au];refine⟨_,rfl,⟨_,_,rfl,by omega,by omega,by omega,by omega,R,K⟩,?_⟩
   show(q-1).toNat< q.toNat;omega
  by_cases I:4294967296<=q
  .refine less ?_ ?_
   .have:4294967296*V<=q*V:=kj I D;omega
   unfold uk;simp only[kz,bK (show q/4294967296≠0 by omega),fO,ao,y,k1]
   rw[bO (n:=v1)]
  have hx:=Aj a (by omega) Z.1 Z.2
  have j:uk u v ((q,r,()),(),())=bif ak (r*4294967296+u2) (q*v2)then(bif !aj ((wu (r+v1)).fdiv 4294967296) 0 then az (wu (q-1))else aB ((wu (q-1),wu (r+v1),()),(),()))else az q:=by
   unfold uk;simp only[kz,cT (show q/4294967296=0 by omega),cg,au,y,X,k1,k2,g2]
   rw[AB r0 rB g.1 g.2,bO (n:=v2),bO (n:=v1),bO (n:=q*v2)]
  by_cases S:r*4294967296+u2< q*v2
  .refine less ?_ ?_
   .have:=amf (vr:=vr) (ur:=ur) (P:=P) o a A c e S;rw[B,C]at this;exact this
   rw[j,bh S,ao]
  right;rw[j,bc,au];exact⟨_,rfl,a,by omega,d,J q r a (by omega) e d (by omega)⟩) ((t/v1,t%v1,()),(),()) ⟨_,_,rfl,E,MF t (show v1≠0 by omega),by omega,F,by
   have:=Vi t v1;rw[vn (t/v1)];omega,by
   have:=amg (v1:=v1) (v2:=v2) (vr:=vr) (t:=t) (u2:=u2) (ur:=ur) (P:=P) o (by omega) Z.1 A (by omega) g.2 c
   rw[B,C]at this;exact this⟩
 exact⟨q,e,r1,r2,r3,r4⟩
theorem lP(l:List Int)(j k:Nat):(l.drop j).getD k 0=l.getD (j+k) 0:=by
 simp
theorem xR(l:List Int)(j k:Nat)(x:Int):(l.set (j+k) x).drop j=(l.drop j).set k x:=by
 rw[List.drop_set,ax (by omega),Nat.add_sub_cancel_left]
theorem Dg.drop{l:List Int}(h:Dg l)(n:Nat):Dg (l.drop n):=λx A=>h x (List.mem_of_mem_drop A)
theorem Le{β:Type}{l:List Int}{j k n:Nat}{f:Int->Option β}(h:j+k< l.length:=by omega)(A:k< n:=by omega):aT (ai 0 (k:Int)&&ak (k:Int) (n:Int)) ((l[j+k]?).bind f)=f (l.getD (j+k) 0):=by
 rw[bh,gN h];rfl
theorem Js{t:Int}(A:0<=t:=by omega)(h1:t< 18446744073709551616:=by omega):wu (((word .u64 t).land 4294967295:Nat):Int)=t%4294967296:=by
 obtain⟨n,rfl⟩:=fP A;have e:n.land 4294967295=n%4294967296:=Nat.and_two_pow_sub_one_eq_mod n 32;rw[Bu,bO];omega
theorem alf{A u qs p:List Int}{j n:Nat}{q:Int}(z:Int×Unit)(f:Dg A)(B:n<=A.length)(hp:Dg p)(C:j+n< p.length)(D:p.length<=4398046511104)(g:1<=q)(E:q< 4294967296):
  ∃c o,aA (HE (z,(),A,()) (((n:Int),()),(),()) (((j:Int),()),(),u,qs,()) q) ((0,0,()),(),p,())=ab (.inl ((q-1,()),(),o.set (j+n) ((p.getD (j+n) 0+c)%4294967296),()))/\0<=c/\c<=1/\o.length=p.length/\Dg o
   /\(∀i,i< j->o.getD i 0=p.getD i 0)/\(∀i,j+n<=i->o.getD i 0=p.getD i 0)/\wv (o.drop j) n+c*4294967296^n=wv (p.drop j) n+wv A n:=by
 have hw:(w (w ((j:Int)+aE (n:Int).toNat)+1)).toNat-(j:Int).toNat=n+1:=by
  show(w (w ((j:Int)+(n:Int))+1)).toNat-j=n+1;rw[aw (n:=(j:Int)+_),aw];omega
 obtain⟨r,e,c,o,rfl,h⟩:=eW (step:=HE (z,(),A,()) (((n:Int),()),(),()) (((j:Int),()),(),u,qs,()) q)
  (λs=>∃(c:Int) (k:Nat) (o:List Int),s=((c,(k:Int),()),(),o,())/\k<=n/\o.length=p.length/\Dg o/\0<=c/\c<=1/\(∀i,i< j->o.getD i 0=p.getD i 0)/\(∀i,j+k<=i->o.getD i 0=p.getD i 0)/\wv (o.drop j) k+c*4294967296^k=wv (p.drop j) k+wv A k) (λs=>((n:Int)-s.1.2.1).toNat)
  (λr=>∃(c:Int) (o:List Int),r=.inl ((q-1,()),(),o.set (j+n) ((p.getD (j+n) 0+c)%4294967296),())/\0<=c/\c<=1/\o.length=p.length/\Dg o/\(∀i,i< j->o.getD i 0=p.getD i 0)/\(∀i,j+n<=i->o.getD i 0=p.getD i 0)/\wv (o.drop j) n+c*4294967296^n=wv (p.drop j) n+wv A n) (by
  rintro _ ⟨c,k,o,rfl,F,b,U,Z,a,J,I,d⟩;unfold HE;simp only[hw];have l:∀m:Nat,aE m=(m:Int):=λ_=>rfl
  have t:(j:Int).toNat=j:=cU _;have v:(k:Int).toNat=k:=cU _;have x:(n:Int).toNat=n:=cU _;simp only[l,t,v,x];have G:=f.at k;by_cases h:k< n
  .left;have y:=U.at (j+k);rw[bh,ao,bV,tg,ao,gN,ah];rw[<-bV (show(0:Int)<=(k:Int) by omega),Le,Le]
   rw[bO (n:=A.getD k 0),bO (n:=o.getD (j+k) 0),bO (n:=o.getD (j+k) 0+_),bO (n:=c+_),kz,jC,aw];refine⟨_,rfl,⟨_,k+1,_,rfl,by omega,by rw[fQ];exact b,U.set (by omega) (by omega),by omega,by omega,λi hi=>?_,λi hi=>?_,?_⟩,?_⟩
   .rw [lQ _ _ _ _,ax (by omega)];exact J i hi
   .rw [lQ _ _ _ _,ax (by omega)];exact I i (by omega)
   .rw [xR,ru _ _ _ (by rw[n9];omega),pw]
    show _=wv (p.drop j) k+(p.drop j).getD k 0*_+(wv A k+A.getD k 0*_);rw[lP,I (j+k) (aL _)];exact ai5 d
   show((n:Int)-((k:Int)+1)).toNat<((n:Int)-(k:Int)).toNat;omega
  right;obtain rfl:k=n:=by omega
  have y:=U.at (j+k);rw[bc,au,bh,Ie,gN,ah,Ie,ah];rw[nh (n:=c),jC,bO (n:=q-1),I (j+k) (aL _)];exact⟨_,rfl,c,o,rfl,Z,a,b,U,J,I,d⟩) ((0,0,()),(),p,()) ⟨0,0,p,rfl,by omega,rfl,hp,by omega,by omega,λ_ _=>rfl,λ_ _=>rfl,rfl⟩
 grind
theorem alg{A qs u:List Int}{j n:Nat}{q:Int}(z:Int×Unit)(l:Dg A)(S:n<=A.length)(v:Dg u)(hj:j+n< u.length)(hL:u.length<=4398046511104)(Z:0<=q)(x:q< 4294967296)
  (h1:wv (u.drop j) (n+1)<(q+1)*wv A n) (h2:(q-1)*wv A n<=wv (u.drop j) (n+1)):
  ∃I o,aA (HG (z,(),A,()) (((n:Int),()),(),()) (((j:Int),()),(),u,qs,()) q) ((0,0,0,()),(),u,())=ab (.inl ((I,()),(),o,()))/\0<=I/\I< 4294967296/\o.length=u.length/\Dg o
   /\(∀i,i< j->o.getD i 0=u.getD i 0)/\(∀i,j+n< i->o.getD i 0=u.getD i 0)/\I*wv A n+wv (o.drop j) (n+1)=wv (u.drop j) (n+1)/\wv (o.drop j) (n+1)< wv A n:=by
 have hw:(w (w ((j:Int)+aE (n:Int).toNat)+1)).toNat-(j:Int).toNat=n+1:=by
  show(w (w ((j:Int)+(n:Int))+1)).toNat-j=n+1;rw[aw (n:=(j:Int)+_),aw];omega
 have T:=(dS l n).1;obtain⟨r,e,I,o,rfl,h⟩:=eW (step:=HG (z,(),A,()) (((n:Int),()),(),()) (((j:Int),()),(),u,qs,()) q)
  (λs=>∃(c b:Int) (k:Nat) (o:List Int),s=((c,b,(k:Int),()),(),o,())/\k<=n/\o.length=u.length/\Dg o/\0<=c/\c< 4294967296/\0<=b/\b<=1/\(∀i,i< j->o.getD i 0=u.getD i 0)/\(∀i,j+k<=i->o.getD i 0=u.getD i 0)/\wv (o.drop j) k+q*wv A k=wv (u.drop j) k+(c+b)*4294967296^k) (λs=>((n:Int)-s.1.2.2.1).toNat)
  (λr=>∃I o,r=.inl ((I,()),(),o,())/\0<=I/\I< 4294967296/\o.length=u.length/\Dg o
   /\(∀i,i< j->o.getD i 0=u.getD i 0)/\(∀i,j+n< i->o.getD i 0=u.getD i 0)/\I*wv A n+wv (o.drop j) (n+1)=wv (u.drop j) (n+1)/\wv (o.drop j) (n+1)< wv A n) (by
  rintro _ ⟨c,b,k,o,rfl,hk,y,a,V,W,X,Y,U,J,K⟩;unfold HG;simp only[hw];have e0:∀m:Nat,aE m=(m:Int):=λ_=>rfl
  have ej:(j:Int).toNat=j:=cU _;have ek:(k:Int).toNat=k:=cU _;have en:(n:Int).toNat=n:=cU _;simp only[e0,ej,ek,en];have L:=l.at k;by_cases h:k< n
  .left;have xo:=a.at (j+k);have hm:=Aj Z x L.1 L.2;rw[bh,ao,bV,tg,ao,gN,ah];rw[<-bV (show(0:Int)<=(k:Int) by omega),Le,Le]
   rw[bO (n:=A.getD k 0),bO (n:=o.getD (j+k) 0),bO (n:=q*_),bO (n:=c+_),Js];have B:wu (wu (o.getD (j+k) 0-(c+q*A.getD k 0)%4294967296)-b)=(o.getD (j+k) 0-(c+q*A.getD k 0)%4294967296-b)%18446744073709551616:=by rw[ta,ta];omega
   have e2:(o.getD (j+k) 0-(c+q*A.getD k 0)%4294967296-b)%18446744073709551616/9223372036854775808= -((o.getD (j+k) 0-(c+q*A.getD k 0)%4294967296-b)/4294967296):=by omega
   have C:(o.getD (j+k) 0-(c+q*A.getD k 0)%4294967296-b)%18446744073709551616%4294967296=(o.getD (j+k) 0-(c+q*A.getD k 0)%4294967296-b)%4294967296:=by omega
   rw[B,OR,kz,jC,e2,C,aw];refine⟨_,rfl,⟨_,_,k+1,_,rfl,by omega,by rw[fQ];exact y,a.set (by omega) (by omega),by omega,by omega,by omega,by omega,λi hi=>?_,λi hi=>?_,?_⟩,?_⟩
   .rw [lQ _ _ _ _,ax (by omega)];exact U i hi
   .rw [lQ _ _ _ _,ax (by omega)];exact J i (by omega)
   .rw [xR,ru _ _ _ (by rw[n9];omega),pw]
    show _+q*(wv A k+A.getD k 0*_)=wv (u.drop j) k+(u.drop j).getD k 0*_+_;rw[lP,J (j+k) (aL _)];exact av8 K
   show((n:Int)-((k:Int)+1)).toNat<((n:Int)-(k:Int)).toNat;omega
  right;obtain rfl:k=n:=by omega
  have xu:=v.at (j+k);have lo:=dS (Dg.drop a j) k;have lv:=dS l k;have hP:=jv k;have d:wv (u.drop j) (k+1)=wv (u.drop j) k+u.getD (j+k) 0*4294967296^k:=by
   show _+(u.drop j).getD k 0*_=_;rw[lP]
  have hW:wv (o.drop j) k+(u.getD (j+k) 0-c-b)*4294967296^k=wv (u.drop j) (k+1)-q*wv A k:=by
   rw[d,qg,qg];rw[gB]at K;omega
  have B:wu (wu (u.getD (j+k) 0-c)-b)=(u.getD (j+k) 0-c-b)%18446744073709551616:=by rw[ta,ta];omega
  have C:(u.getD (j+k) 0-c-b)%18446744073709551616%4294967296=(u.getD (j+k) 0-c-b)%4294967296:=by omega
  rw[bc,au,bh,Ie,gN,ah,Ie,ah,J (j+k) (aL _),bO (n:=u.getD (j+k) 0),B,OR,jC,C];generalize ht:u.getD (j+k) 0-c-b=t at*;rw[gB,n8]at h1;rw[qg,n8]at h2;by_cases M:t< 0
  .rw [bK,fO,ao];have D:1<=q:=by
    rcases qd 0 q with h|h<;>try trivial
    obtain rfl:q=0:=by omega
    have:t*4294967296^k<=(-1)*4294967296^k:=kj (by omega) (by omega)
    have w0:=(dS (Dg.drop v j) (k+1)).1;rw[ik]at hW;omega
   have E:Dg (o.set (j+k) (t%4294967296)):=a.set (by omega) (by omega)
   obtain⟨g,N,O,g0,g1,P,d2,F,G,v2⟩:=alf (qs:=qs) (u:=u) (j:=j) (n:=k) (p:=o.set (j+k) (t%4294967296)) z l S E (by rw[fQ];omega) (by rw[fQ];omega) D x
   rw[lQ _ _ _ _,aK rfl]at O;rw[O];rw[fQ]at P;have f:wv ((o.set (j+k) (t%4294967296)).drop j) k=wv (o.drop j) k:=by rw[xR,Mf _ _ _ _ (aL _)]
   rw[f]at v2;have l2':=dS (Dg.drop d2 j) k;have Q:t+g=0:=by
    have H:wv (N.drop j) k+(t+g)*4294967296^k=wv (u.drop j) (k+1)-q*wv A k+wv A k:=by
     rw[gB];omega
    rcases qd (t+g) 0 with h|h<;>try grind
    have:(t+g)*4294967296^k<=(-1)*4294967296^k:=kj (by omega) (by omega)
    omega
   have R:(t%4294967296+g)%4294967296=0:=by omega
   have H:wv (N.drop j) k=wv (u.drop j) (k+1)-q*wv A k+wv A k:=by
    have:g*4294967296^k= -t*4294967296^k:=by rw[show g= -t by omega]
    rw[Int.neg_mul]at this;omega
   refine⟨_,rfl,q-1,_,rfl,by omega,by omega,by rw[fQ,P,y],d2.set (by omega) (by omega),λi hi=>?_,λi hi=>?_,?_,?_⟩
   .rw [lQ _ _ _ _,ax (by omega),F i hi,lQ _ _ _ _,ax (by omega)];exact U i hi
   .rw [lQ _ _ _ _,ax (by omega),G i (by omega),lQ _ _ _ _,ax (by omega)];exact J i (by omega)
   .rw [xR,ru _ _ _ (by rw[n9];omega),R,ik,qg,n8,H];omega
   rw[xR,ru _ _ _ (by rw[n9];omega),R,ik,H]
   have:wv (o.drop j) k+t*4294967296^k< 0:=by
    have:t*4294967296^k<=(-1)*4294967296^k:=kj (by omega) (by omega)
    omega
   omega
  rw[cT,cg,au];have et:t%4294967296=t:=by omega
  rw[et];refine⟨_,rfl,q,_,rfl,Z,x,by rw[fQ,y],a.set (by omega) (by omega),λi hi=>?_,λi hi=>?_,?_,?_⟩
  .rw [lQ _ _ _ _,ax (by omega)];exact U i hi
  .rw [lQ _ _ _ _,ax (by omega)];exact J i (by omega)
  .rw [xR,ru _ _ _ (by rw[n9];omega)];omega
  rw[xR,ru _ _ _ (by rw[n9];omega)];omega) ((0,0,0,()),(),u,()) ⟨0,0,0,u,rfl,by omega,rfl,v,by omega,by omega,by omega,by omega,λ_ _=>rfl,λ_ _=>rfl,by
  show(0:Int)+q*0=0+(0+0)*_;rw[Vj,lH,ik];rfl⟩
 exact⟨I,o,e,h⟩
theorem afH{a b s:Nat}(U:s<=31)(Z:a< 4294967296):((a+b*4294967296)/2^s%4294967296)*2^s+a%2^s=a+(b%2^s)*4294967296:=by
 have hB:(4294967296)=2^(32-s)*2^s:=by rw[<-qk,show 32-s+s=32 by omega]
 have I:0< 2^s:=nx (by omega)
 generalize hp:2^s=p at*;generalize c:2^(32-s)=A at*;have d:(a+b*4294967296)/p=a/p+b*A:=by
  rw[hB,<-Nat.mul_assoc,Nat.add_mul_div_right _ _ I]
 have e:a/p< A:=(Nat.div_lt_iff_lt_mul I).2 (by omega)
 have f:(a/p+b*A)%(A*p)=a/p+(b%p)*A:=by
  have h1:=(Gm b p).symm;have h2:a/p+b*A=(a/p+(b%p)*A)+(A*p)*(b/p):=by
   grind
  rw[h2,Nat.add_mul_mod_self_left];apply rH;have J:b%p+1<=p:=qj _ I;have g:=eA A J;grind
 have:=Gm a p;grind
theorem asS{a b:Int}(A:0<=a)(J:a< 4294967296)(I:0<=b)(U:b< 4294967296):wu (((word .u64 a).lor (word .u64 (wu (b*4294967296))):Nat):Int)=a+b*4294967296:=by
 obtain⟨r,rfl⟩:=fP I;obtain⟨y,rfl⟩:=fP A;have e:(r)*4294967296=((r*4294967296:Nat):Int):=by omega
 rw[bO (n:=(r)*4294967296),e,Bu,Bu];show wu ((y|||(r*4294967296)))=_
 rw[aip];show wu (((r*4294967296).lor y))=_;rw[abz,bO];omega
theorem ak8{s:Nat}(z:Int×Unit){u A:List Int}(N:s<=31)(C:Dg u)(lu:u.length<=2199023255552:=by omega):
  Oz (s:Int) (z,(),u,A,()) (((tl A A.length:Int),()),(),()) (((tl u u.length:Int),()),(),())=ab (sh A,nd (vN u/2^s),0,()):=by
 have h1:=g7 u u.length;have V:=oV u;have O:=dy C;have B:∀m:Nat,aE m=(m:Int):=λ_=>rfl
 have J:∀m:Nat,(m:Int).toNat=m:=cU;obtain⟨m,hm⟩:∃m,m=tl u u.length:=⟨_,rfl⟩;have j:aY m u=sh u:=by rw[hm];rfl
 have k:w 0=0:=aw;unfold Oz;simp only[B,J];rw[iK h1,<-hm];by_cases W:s=0
 .subst W;have g:w (0-((0:Nat):Int))=((0:Nat):Int):=k;have P:(bif ai ((0:Nat):Int) 4096 then((0:Nat):Int)else 4096)=((0:Nat):Int):=rfl;have l:(((0:Nat):Int)).tdiv 32=0:=rfl;have hw:w (w ((m:Int)+w 0)+1)=((m+1:Nat):Int):=by
   rw[k,lH,aw (n:=(m:Int)),aw];rfl
  simp only[g,P,l,hw,cU];rw[bc,au,cS (by grind[nk]),ak7]
  simp only[B,J,g,P];have Q:Rd (ρ:=List Int×List Int×Int×Unit) (sh u) (m:Int) (λi f=>bif ai 0 i&&ak i (m:Int)then(u[i.toNat]?).bind f else none):=by
   refine⟨by omega,λi f hi=>?_⟩
   show(bif ai 0 (i:Int)&&ak (i:Int) (m:Int)then(u[(i:Int).toNat]?).bind f else none)=_;rw[bV,bh,tg,ao,J,gN,FG,ah]
  obtain⟨o,e,D,h,U⟩:=TO (s:=0) Q (λt=>(bt (aA (Hz t) ((↑t.2.2.1.length,()),(),())) (HA (z,(),u,A,()) (((tl A A.length:Int),()),(),()) t)).bind λz=>az z) (lD C) (by omega) (by omega)
  rw[show bP (m+1) (0:Int)=bP ((sh u).length+1) 0 by rw[V,hm],e]
  refine w8 (x:=some (sh A,nd (vN u/2^0),0,())) ((TN Q _).trans ?_);rw[show aA (Hz ((((sh u).length:Int),()),(),o,())) _=_ from rn o (by omega),fV]
  unfold HA;simp only;have h1:=g7 o o.length;rw[iK h1,ah,ah];simp only[J];rw[show aY (tl o o.length) o=nd (vN u/2^0)from Bc h (by simp[U,gZ,air,Vw,O])]
  rfl
 have g:w (0-(s:Int))= -(s:Int):=by rw[aw];omega
 have c:w (0- -(s:Int))=(s:Int):=by rw[aw];omega
 have Z:(s:Int).tmod 32=(s:Int):=MH (by omega) (by omega)
 have l:(s:Int).tdiv 32=0:=Gc (by omega) (by omega)
 have d:w ((m:Int)-0)=(m:Int):=by rw[Vl,aw]
 simp only[g,c,l,k,d,J];rw[bh,ao,aw];by_cases X:m=0
 .have q:sh u=[]:=yA.1 (by omega)
  have Y:vN u=0:=by
   have:=gZ u;rw[q]at this;have:(0:Int)=dv u:=this;omega
  rw[bV,ao,Y,MQ];rfl
 have hp:2^s<=2147483648:=tr (n:=2) (by omega) N
 have E:0< 2^s:=nx (by omega)
 have v:s.min 64=s:=nv (by omega)
 have I:=lD C;rw[dh,au,cS (by simp(disch:=omega) only [nk])]
 obtain⟨_,e,o,rfl,D,h,U⟩:=D0 (step:=Hy (s:Int) (z,(),u,A,()) (((tl A A.length:Int),()),(),()) (((m:Int),()),(),()))
  (λi st=>∃o,st=(((i:Int),()),(),o,())/\o.length=m/\Dg o/\wv o i*((2^s:Nat):Int)+(sh u).getD 0 0%((2^s:Nat):Int)=wv (sh u) i+(sh u).getD i 0%((2^s:Nat):Int)*4294967296^i) m (by
  rintro i _ hi ⟨o,rfl,D,h,U⟩;unfold Hy;simp only[B,J,g,c,Z,l,k,d,jj,j,lH];have F:=I.at i;have G:=I.at (i+1);have wi:w (i:Int)=(i:Int):=aw;have H:w ((i:Int)+1)=((i+1:Nat):Int):=aw;rw[bh,ao,wi,H,zs I,ah,zs I,ah,bc,au,kK,asS F.1 F.2 G.1 G.2,v];obtain⟨a,R⟩:=fP F.1;obtain⟨b,S⟩:=fP G.1;have y:wr .u32 (((sh u).getD i 0+(sh u).getD (i+1) 0*4294967296).fdiv ((2^s:Nat):Int))=(((a+b*4294967296)/2^s%4294967296:Nat):Int):=by
   rw[R,S,qc _ (by omega),jC]
   have:((a:Int)+(b:Int)*4294967296)=((a+b*4294967296:Nat):Int):=by omega
   rw[this];rw[<-Ga,BJ];rfl
  have hc:(2:Int)^s=((2^s:Nat):Int):=by rw[MG];rfl
  rw[hc,y];refine⟨_,rfl,_,rfl,by rw[fQ];exact D,h.set (by omega) (by omega),?_⟩
  rw[ru _ _ _];have hk:=afH (b:=b) N (show a< 4294967296 by omega)
  generalize(a+b*4294967296)/2^s%4294967296=t at*;show _=wv (sh u) i+(sh u).getD i 0*4294967296^i+_;rw[R]at U|-;rw[S];rw[pw];have K:(t:Int)*((2^s:Nat):Int)+(a:Int)%((2^s:Nat):Int)=(a:Int)+((b:Int)%((2^s:Nat):Int))*4294967296:=by
   rw[<-BJ,<-BJ,<-kV];omega
  generalize((2^s:Nat):Int)=p at*;have L:(t*p+(a:Int)%p)*4294967296^i=(a:Int)*4294967296^i+(b:Int)%p*(4294967296^i*4294967296):=by
   rw[K,gB,kh ((b:Int)%p),vn 4294967296 (4294967296^i)]
  rw[gB]at L;rw[gB (wv o i),yv (t:Int)];omega) ((0,()),(),bP m 0,()) ⟨_,rfl,jj,Dg.rep _,by
   show(0:Int)*_+_=0+_*1;omega⟩
 refine e.trans (w8 (x:=some (sh A,nd (vN u/2^s),0,())) ?_);unfold Hy;simp only[B,J,g,c,Z,l,k,d,jj,j,lH];rw[bc,au];rw[show aA (XG (((m:Int),()),(),o,())) _=_ from rn o (by omega),fV]
 unfold XH;simp only;rw[iK (g7 o o.length),ah,ah];simp only[J];have hz:(sh u).getD m 0=0:=by
  rw[nr,jF (by omega)];rfl
 rw[hz,ahN,ik,lH,da o m (by omega),da (sh u) m (by omega),gZ]at U
 have x0:=I.at 0;have T:=dy h;have hq:vN o=vN u/2^s:=by
  have M:=F9 ((sh u).getD 0 0) (show(0:Int)<((2^s:Nat):Int) by omega)
  obtain⟨r,er⟩:=fP (MF ((sh u).getD 0 0) (show((2^s:Nat):Int)≠0 by omega));rw[er]at U M;rw[<-T,<-O]at U;have h5:vN u=vN o*2^s+r:=by
   have:((vN u:Nat):Int)=((vN o*2^s+r:Nat):Int):=by rw[Vk,kV];exact U.symm
   omega
  rw[h5,lJ,vz E,tp (by omega)];rfl
 rw[show aY (tl o o.length) o=nd (vN u/2^s)from Bc h (by rw[<-T,hq])]
 rfl
theorem nI(l:List Int){n i:Nat}(h:i< n:=by omega):(l.take n).getD i 0=l.getD i 0:=by
 grind
theorem agK(l:List Int)(j n:Nat)(h:j< l.length:=by omega):wv (l.drop j) (n+1)=l.getD j 0+4294967296*wv (l.drop (j+1)) n:=by
 rw[il h,UI,nr,gD h];rfl
theorem agL{l:List Int}{n:Nat}(h:∀i,n<=i->l.getD i 0=0):∀k,wv l (n+k)=wv l n
 |0=>rfl
 |k+1=>by
  show wv l (n+k)+l.getD (n+k) 0*_=_;rw[h _ (by omega),ik,lH,agL h k]
theorem aln{l:List Int}{n:Nat}(h:∀i,n<=i->l.getD i 0=0):dv l=wv l n:=by
 rw[<-agL h l.length,da _ _ (by omega)]
theorem ala{A u qs:List Int}{j m s:Nat}(z:Int×Unit)(I:Dg A)(D:m+2<=A.length)(J:Dg u)(E:j+(m+2)< u.length)(T:u.length<=1099511627777)(V:j< qs.length)(Z:2147483648<=A.getD (m+1) 0)
  (W:wv (u.drop (j+1)) (m+2)< wv A (m+2)):
  ∃U o,zu (s:Int) (z,(),A,()) (((m+2:Nat),()),(),()) (((j:Int),()),(),u,qs,())=ab (.inl (((j:Int)-1,()),(),o,qs.set j U,()))/\0<=U/\U< 4294967296/\o.length=u.length/\Dg o
   /\(∀i,i< j->o.getD i 0=u.getD i 0)/\(∀i,j+(m+2)< i->o.getD i 0=u.getD i 0)/\o.getD (j+(m+2)) 0=0/\U*wv A (m+2)+wv (o.drop j) (m+2)=wv (u.drop j) (m+3)/\wv (o.drop j) (m+2)< wv A (m+2):=by
 have e:w ((j:Int)+((m+2:Nat):Int))=((j+(m+2):Nat):Int):=by rw[aw];omega
 have hw:w (((j+(m+2):Nat):Int)+1)=((j+(m+3):Nat):Int):=by rw[aw];omega
 have F:∀m:Nat,aE m=(m:Int):=λ_=>rfl
 have t:∀m:Nat,(m:Int).toNat=m:=cU;have G:Dg ((u.drop j).take (m+3)):=(Dg.drop J j).take _;have f:Dg (A.take (m+2)):=I.take _;have H:((u.drop j).take (m+3)).length=m+3:=by rw[gi,n9];omega
 have g:(A.take (m+2)).length=m+2:=by rw[gi];omega
 have a:(A.getD (m+1) 0*4294967296+A.getD m 0)*4294967296^m+wv A m=wv A (m+2):=by
  show _=wv A m+A.getD m 0*4294967296^m+A.getD (m+1) 0*4294967296^(m+1);rw[pw,gB,kh,vn (4294967296:Int) (4294967296^m)];omega
 have b:((u.getD (j+(m+2)) 0*4294967296+u.getD (j+(m+1)) 0)*4294967296+u.getD (j+m) 0)*4294967296^m+wv (u.drop j) m=wv (u.drop j) (m+3):=by
  show _=wv (u.drop j) m+(u.drop j).getD m 0*4294967296^m+(u.drop j).getD (m+1) 0*4294967296^(m+1)+(u.drop j).getD (m+2) 0*4294967296^(m+2);rw[lP,lP,lP,pw,pw,pw,gB,gB,gB];rw[yv _ 4294967296 (4294967296^m),yv (u.getD (j+(m+2)) 0) 4294967296 (4294967296^m),yv (u.getD (j+(m+1)) 0) 4294967296 (4294967296^m),<-kh,<-kh,<-kh];omega
 have X:=J.at j;have k:wv (u.drop j) (m+3)< 4294967296*wv A (m+2):=by
  rw[agK u j (m+2)];omega
 have K:u.getD (j+(m+2)) 0<=A.getD (m+1) 0:=by
  have L:=(dS (Dg.drop J (j+1)) (m+1)).1;have M:=(dS I (m+1)).2;have Y:wv (u.drop (j+1)) (m+2)=wv (u.drop (j+1)) (m+1)+u.getD (j+(m+2)) 0*4294967296^(m+1):=by
   show _+(u.drop (j+1)).getD (m+1) 0*_=_;rw[lP,show j+1+(m+1)=j+(m+2) by omega]
  have e2:wv A (m+2)=wv A (m+1)+A.getD (m+1) 0*4294967296^(m+1):=rfl;have c:u.getD (j+(m+2)) 0*4294967296^(m+1)<(A.getD (m+1) 0+1)*4294967296^(m+1):=by
   rw[gB,n8];omega
  have:=Vg c (ij (jv (m+1)));omega
 obtain⟨q,N,O,Q,x,y⟩:=amp (u:=(u.drop j).take (m+3)) (v:=A.take (m+2)) (m:=m) (vr:=wv A m) (ur:=wv (u.drop j) m) (P:=4294967296^m) G f g H (by omega) (jv m) (dS I m).1 (dS I m).2 (dS (Dg.drop J j) m).1 (dS (Dg.drop J j) m).2
  (by rw[nI _];exact Z) (by rw[nI _,nI _,lP];exact K) (by
   rw[nI _,nI _,nI _,nI _,nI _,lP,lP,lP,a,b];exact k)
 rw[nI _,nI _,nI _,nI _,nI _,lP,lP,lP,a,b]at x y;obtain⟨U,o,R,p0,B,lo,d,l,p,S,hR⟩:=alg (qs:=qs) (j:=j) (n:=m+2) z I D J E (by omega) O Q x y
 have xo:=d.at (j+(m+2));have r:wv (o.drop j) (m+3)=wv (o.drop j) (m+2)+o.getD (j+(m+2)) 0*4294967296^(m+2):=by
  show _+(o.drop j).getD (m+2) 0*_=_;rw[lP]
 have C:o.getD (j+(m+2)) 0=0:=by
  have L:=(dS (Dg.drop d j) (m+2)).1;have M:=(dS I (m+2)).2;have a3:wv (o.drop j) (m+3)< wv A (m+2):=hR;rcases qd 0 (o.getD (j+(m+2)) 0)with h|h<;>try grind
  have:1*4294967296^(m+2)<=o.getD (j+(m+2)) 0*4294967296^(m+2):=kj (by omega) (ij (jv _))
  rw[n8]at this;omega
 rw[C,ik,lH]at r;refine⟨U,o,?_,p0,B,lo,d,l,p,C,by rw[<-r];exact S,by rw[<-r];exact hR⟩
 unfold zu;simp only[F,t,e,hw];rw[bV,ao,cS (by simp(disch:=omega) only [nk]),cS (by simp(disch:=omega) only [nk]),show j+(m+3)-j=m+3 by omega,N,ah,R,fV]
 unfold XT;simp only[t];rw[kK,nh p0 B,aw];rfl
theorem ak9{A u qs:List Int}{m s L:Nat}(z:Int×Unit)(B:s<=31)(C:Dg A)(D:m+2<=A.length)(E:Dg u)(f:u.length=L+(m+2))(O:u.length<=1099511627777)(g:qs.length=L)(n:Dg qs)(U:2147483648<=A.getD (m+1) 0)
  (F:wv (u.drop L) (m+2)< wv A (m+2)):
  ∃a b:Nat,aA (zu (s:Int) (z,(),A,()) (((m+2:Nat),()),(),())) (((L:Int)-1,()),(),u,qs,())=ab (nd a,nd (b/2^s),0,())/\dv u=(a:Int)*wv A (m+2)+(b:Int)/\(b:Int)< wv A (m+2):=by
 have P:∀m:Nat,aE m=(m:Int):=λ_=>rfl
 have Q:∀m:Nat,(m:Int).toNat=m:=cU;obtain⟨_,e,o,p,rfl,lo,lp,d,dp,I,J,hR,Z⟩:=D0 (step:=zu (s:Int) (z,(),A,()) (((m+2:Nat),()),(),()))
  (λi st=>∃o p,st=((((L-i:Nat):Int)-1,()),(),o,p,())/\o.length=L+(m+2)/\p.length=L/\Dg o/\Dg p/\(∀k,k< L-i->o.getD k 0=u.getD k 0)/\(∀k,L-i+(m+2)<=k->o.getD k 0=0)/\wv (o.drop (L-i)) (m+2)< wv A (m+2)
   /\dv (u.drop (L-i))=dv (p.drop (L-i))*wv A (m+2)+wv (o.drop (L-i)) (m+2)) L (by
  rintro i _ hi ⟨o,p,rfl,lo,lp,d,dp,I,J,hR,Z⟩;obtain⟨j,t⟩:∃j,L-i=j+1:=⟨L-i-1,by omega⟩
  have q:L-(i+1)=j:=by omega
  rw[t]at I J hR Z;rw[t,q];obtain⟨G,H,e,K,M,N,d2,v,w,R,c,r⟩:=ala (s:=s) (qs:=p) (j:=j) z C D d (by omega) (by omega) (by omega) U hR
  rw[pr];refine⟨_,e,_,_,rfl,by omega,by grind,d2,dp.set K M,λk y=>by grind,λk y=>?_,r,?_⟩
  .rcases jH (j+(m+2)) k with h|h
   all_goals grind
  have S:=agK o j (m+2);have c:G*wv A (m+2)+wv (H.drop j) (m+2)=wv (o.drop j) (m+2+1):=c;rw[HJ _ _ _ (by omega),zx u j (by omega),Z,<-I j (by omega)]
  grind) (((L:Int)-1,()),(),u,qs,()) ⟨u,qs,rfl,f,g,E,n,λ_ _=>rfl,λk y=>by
    grind,F,by
    rw[Nat.sub_zero,g8 (l:=qs) (by omega)]
    show dv (u.drop L)=0*_+_;rw[ik,Int.zero_add,da _ _ (by grind)]⟩
 rw[VB]at I J hR Z;rw[qh,qh,qh]at Z;rw[qh]at hR;have T:dv o=wv o (m+2):=aln λi hi=>J i (by omega)
 have V:=dy d;have W:=dy dp;refine⟨vN p,vN o,?_,by grind,by omega⟩
 refine e.trans (w8 (x:=some (nd (vN p),nd (vN o/2^s),0,())) ?_);unfold zu;rw[VB,dh (by simp),au]
 rw[show aA (XU ((((0:Nat):Int)-1,()),(),o,p,())) _=_ from rn p (by omega),fV]
 unfold XJ;simp only;rw[iK (g7 p p.length)];rw[show aA (XF ((((0:Nat):Int)-1,()),(),o,p,())) _=_ from rn o (by omega),fV,ak8 _ B d,re dp]
 rfl
theorem agl{l:List Int}(h:Nm l):tl l l.length=l.length:=by
 cases e:l.length
 .rfl
 rename_i n;show(if l.getD n 0=0 then tl l n else n+1)=n+1;rw[ax];intro A;apply h;grind
theorem Ya(l:List Int):∀k,k<=l.length->dv l=wv l k+4294967296^k*dv (l.drop k)
 |0,_=>by rw[qh];show _=0+1*_;omega
 |k+1,h=>by
  rw[Ya l k (by omega),zx l k (by omega),pw,ahA]
  show _=wv l k+l.getD k 0*4294967296^k+_;rw[vn (l.getD k 0),kh];omega
theorem xv{a b:Nat}(h:a<=b:=by omega):(4294967296:Int)^a<=4294967296^b:=by
 obtain⟨k,rfl⟩:=Nat.le.dest h;rw[BK];have h2:=jv k;have:=qf (show(1)<=4294967296^k by omega) (ij (jv a))
 omega
theorem alb{a A u0:List Int}{m s:Nat}(z:Int×Unit)(g:s<=31)(d:Dg A)(h:m+2<=A.length)(j:Dg u0)(hA:m+2<=(sh a).length)(E:(sh a).length<=1099511627774)(k:u0.length<=(sh a).length+2)(I:2147483648<=A.getD (m+1) 0)
  (l:dv u0< 2147483648*4294967296^(sh a).length:=by omega):
  ∃p q:Nat,aA (CX a (((tl a a.length:Nat),()),(),()) (s:Int) (z,(),A,()) (((m+2:Nat),()),(),())) ((u0,()),(),())=ab (nd p,nd (q/2^s),0,())/\dv u0=(p:Int)*wv A (m+2)+(q:Int)/\(q:Int)< wv A (m+2):=by
 have n:∀m:Nat,aE m=(m:Int):=λ_=>rfl
 have f:∀m:Nat,(m:Int).toNat=m:=cU;have J:aY (tl a a.length) a=sh a:=rfl;obtain⟨_,e,u,rfl,o,U,b⟩:=D0 (step:=CX a (((tl a a.length:Nat),()),(),()) (s:Int) (z,(),A,()) (((m+2:Nat),()),(),()))
  (λi st=>∃u,st=((u,()),(),())/\u.length=u0.length+i/\Dg u/\dv u=dv u0) ((sh a).length+1-u0.length) (by
  rintro i _ hi ⟨u,rfl,o,U,b⟩;unfold CX;simp only[f,J];rw[bV,ao,cS (jA (by show(u.length+1)*4<=_;omega) (by show u.length+1<=_;omega))]
  refine⟨_,rfl,_,rfl,?_,?_,?_⟩
  .show (u++[0]).length=_;rw[List.length_append];show u.length+1=_;omega
  .intro x Z;rcases cD.1 Z with Z|Z
   .exact U x Z
   rw[List.mem_singleton.1 Z];omega
  show dv (u++[0])=_;rw[OE,b];show _+_*(0+4294967296*0)=_;omega) ((u0,()),(),()) ⟨u0,rfl,rfl,j,rfl⟩
 obtain⟨L,r⟩:∃L,u.length=L+(m+2):=⟨u.length-(m+2),by omega⟩
 have t:=Dg.drop U L;have F:wv (u.drop L) (m+2)=dv (u.drop L):=da _ _ (by rw[n9];omega)
 have G:=jv;have v:wv (u.drop L) (m+2)< wv A (m+2):=by
  have h1:=Ya u L (by omega)
  have h2:=(dS U L).1;have y:4294967296^L*dv (u.drop L)< 4294967296^L*(2147483648*4294967296^(m+1)):=by
   have H:(4294967296:Int)^(sh a).length<=4294967296^(L+(m+1)):=xv;have B:4294967296^L*(2147483648*4294967296^(m+1))=2147483648*(4294967296:Int)^(L+(m+1)):=by
    rw[BK _ L (m+1),Int.mul_left_comm]
   rw[B];omega
  have K:=Int.lt_of_mul_lt_mul_left y (ij (jv L));have M:=(dS d (m+1)).1;have N:2147483648*4294967296^(m+1)<=A.getD (m+1) 0*4294967296^(m+1):=kj I (ij (jv _));show _< wv A (m+1)+A.getD (m+1) 0*4294967296^(m+1);omega
 obtain⟨p,q,c,C,D⟩:=ak9 (s:=s) (qs:=bP L 0) z g d h U r (by omega) jj (Dg.rep _) I v
 refine⟨p,q,?_,by rw[<-b];exact C,D⟩
 refine e.trans (w8 (x:=some (nd p,nd (q/2^s),0,())) ?_);unfold CX;have hw:w ((u.length:Int)-((m+2:Nat):Int))=(L:Int):=by rw[aw];omega
 simp only[f,J,n,hw,jj];rw[dh,au,cS (by simp(disch:=omega) only [nk]),aw,c]
 rfl
theorem alc{a A X0:List Int}{m s:Nat}(z:Int×Unit)(zz:Int×Unit)(b:s<=31)(c:Dg A)(d:m+2<=A.length)(f:Dg X0)(hA:m+2<=(sh a).length)(g:(sh a).length<=1099511627774)(h:X0.length<=(sh a).length+1)(I:2147483648<=A.getD (m+1) 0)
  (i:dv X0< 2147483648*4294967296^(sh a).length):
  ∃p q:Nat,CY a (((tl a a.length:Nat),()),(),()) (s:Int) (z,(),A,()) (((m+2:Nat),()),(),()) (zz,(),X0,()) (((tl X0 X0.length:Nat),()),(),())=ab (nd p,nd (q/2^s),0,())/\dv X0=(p:Int)*wv A (m+2)+(q:Int)/\(q:Int)< wv A (m+2):=by
 have h1:=g7 X0 X0.length;have U:aY (tl X0 X0.length) X0=sh X0:=rfl;have vs:dv (sh X0++[0])=dv X0:=by
  rw[OE,gZ];show _+_*(0+4294967296*0)=_;omega
 obtain⟨p,q,e,Z,j⟩:=alb (a:=a) (u0:=sh X0++[0]) (s:=s) z b c d (by
  intro x J;rcases cD.1 J with J|J
  .exact lD f x J
  grind) hA g (by grind) I
 rw[vs]at Z;refine⟨p,q,?_,Z,j⟩;unfold CY;simp only[cU,U];rw[iK h1,cS (jA (by grind) (by grind)),kx,e]
theorem xh{l:List Int}(A:Dg l)(h:Nm l){n:Nat}(e:l.length=n+1:=by omega):0< l.getD n 0:=by
 have h1:=(A.at n).1;rcases qd 0 (l.getD n 0)with h2|h2
 .omega
 exfalso;apply h;grind
theorem avu{V0:List Int}{m s t:Nat}{R:Int}(j:s<=31)(I:Dg V0)(c:V0.length=m+3)(h1:2147483648<=t*2^s)(h2:t*2^s< 4294967296)(J:0<=R)(hR:R< 4294967296^(m+1))
  (d:dv V0=(R+(t:Int)*4294967296^(m+1))*((2^s:Nat):Int)):tl V0 V0.length=m+2/\2147483648<=V0.getD (m+1) 0/\wv V0 (m+2)=dv V0:=by
 have e:0< 2^s:=nx (by omega)
 have hB:(4294967296:Nat)=2^(32-s)*2^s:=by rw[<-qk,show 32-s+s=32 by omega]
 have k:(t+1)*2^s<=4294967296:=by
  rw[hB]at h2|-;exact eA _ (Nat.lt_of_mul_lt_mul_right h2)
 have U:=jv (m+1);generalize hp:2^s=p at*;have f:(R+(t:Int)*4294967296^(m+1))*(p:Int)< 4294967296*4294967296^(m+1):=by
  have Z:R+(t:Int)*4294967296^(m+1)<((t+1:Nat):Int)*4294967296^(m+1):=by
   grind
  have a:=Int.mul_lt_mul_of_pos_right Z (show(0:Int)<(p:Int) by omega)
  have l:((t+1:Nat):Int)*4294967296^(m+1)*(p:Int)<=4294967296*4294967296^(m+1):=by
   rw[yv,<-kV];exact kj (by omega) (ij U)
  omega
 have g:2147483648*4294967296^(m+1)<=(R+(t:Int)*4294967296^(m+1))*(p:Int):=by
  rw[gB,yv,<-kV];have Z:0<=R*(p:Int):=n7 J (by omega)
  have a:2147483648*4294967296^(m+1)<=((t*p:Nat):Int)*4294967296^(m+1):=kj (by omega) (ij U)
  omega
 rw[<-d]at f g;have b:dv V0=wv V0 (m+1)+V0.getD (m+1) 0*4294967296^(m+1)+V0.getD (m+2) 0*(4294967296^(m+1)*4294967296):=by
  rw[<-da V0 (m+3) (by omega)];rfl
 have n:=I.at (m+2);have o:=dS I (m+1);have i:V0.getD (m+2) 0=0:=by
  rcases qd 0 (V0.getD (m+2) 0)with h|h<;>try grind
  have Z:1*(4294967296^(m+1)*4294967296)<=V0.getD (m+2) 0*(4294967296^(m+1)*4294967296):=kj (by omega) (by omega)
  have a:0<=V0.getD (m+1) 0*4294967296^(m+1):=n7 (I.at (m+1)).1 (by omega)
  omega
 rw[i,ik,lH]at b;have A:2147483648<=V0.getD (m+1) 0:=by
  have:2147483648*4294967296^(m+1)<(V0.getD (m+1) 0+1)*4294967296^(m+1):=by
   rw[gB,n8];omega
  have:=Vg this (ij U);omega
 refine⟨?_,A,b.symm⟩;rw[c];show(if V0.getD (m+2) 0=0 then(if V0.getD (m+1) 0=0 then tl V0 (m+1)else m+2)else m+3)=m+2;grind
theorem HH{a b:List Int}(E:Dg a)(W:Dg b)(la:a.length<=1099511627774:=by omega)(lb:b.length<=1099511627774:=by omega):
  divMod a b=ab (if vN b=0 then([],[],9,())else(nd (vN a/vN b),nd (vN a%vN b),0,())):=by
 have U:∀m:Nat,(m:Int).toNat=m:=cU;have C:∀m:Nat,aE m=(m:Int):=λ_=>rfl
 have h1:=g7 a a.length;have h2:=g7 b b.length;have l1:=oV a;have l2:=oV b;have i:=lD E;have A:=lD W;have F:dv (sh a)=(vN a:Int):=by rw[gZ,dy E]
 have g:dv (sh b)=(vN b:Int):=by rw[gZ,dy W]
 have X:vN (sh a)=vN a:=by simp[vN,gZ]
 have wb:vN (sh b)=vN b:=by simp[vN,gZ]
 have I:aY (tl a a.length) a=sh a:=rfl;have c:aY (tl b b.length) b=sh b:=rfl;have G:tl (sh a) (sh a).length=(sh a).length:=agl (nY a);have H:tl (sh b) (sh b).length=(sh b).length:=agl (nY b);have Y:w 0=0:=aw;unfold divMod;rw[show aA (XD a) _=_ from oZ a (by omega),fV]
 unfold XQ;rw[iK h1,show aA (XE b) _=_ from oZ b (by omega),fV]
 unfold XP;simp only[U,I,c];rw[iK h2];by_cases K:(sh b).length=0
 .have:vN b=0:=by
   rw[yA.1 K]at g;have:(0:Int)=(vN b:Int):=g;omega
  rw[cT,ao,aK this]
 have j:0< vN b:=by
  rcases Nat.eq_zero_or_pos (vN b)with h|h
  .exfalso;have:=HN A (nY b) (by omega)
   grind
  omega
 rw[bK,au,ax (by omega),Xi i A,ah,X,wb]
 by_cases J:vN a< vN b
 .unfold gI;rw[aK J,bh,ao,cS (jA),tp J,rH J,re E,ar8]
 have hc:ak (gI (vN a) (vN b)) 0=af:=by
  unfold gI;rw[ax J];split;all_goals rfl
 rw[hc,au];by_cases L:(sh b).length=1
 .obtain ⟨d,ed⟩:=List.length_eq_one_iff.1 L;have hd:=A d (by grind)
  have M:d=(vN b:Int):=by
   rw[<-g,ed];show d=d+4294967296*0;omega
  rw[cT,ao,ed];show(one (sh a) d).bind _=_;rw[asI i,ah,X,M,U];have hm:=qj (vN a) j;obtain⟨r,er⟩:∃r,r=vN a%vN b:=⟨_,rfl⟩;rw[<-er]at hm|-;show(uh (wu ((r:Nat):Int))).bind _=_;rw[bO,Ib,ah,U]
 obtain⟨m,hm⟩:∃m,(sh b).length=m+2:=⟨(sh b).length-2,by omega⟩
 have axl:=xh A (nY b) (n:=m+1);have k:=A.at (m+1);obtain⟨t,ht⟩:=fP k.1;obtain⟨s,es,l,N,O⟩:=arJ (n:=t);have D:(bif ai ((s:Nat):Int) 4096 then((s:Nat):Int)else 4096)=(s:Int):=by rw[bV,ao]
 have Z:(s:Int).tdiv 32=0:=Gc (by omega) (by omega)
 have P:dv (sh b)=wv (sh b) (m+1)+(t:Int)*4294967296^(m+1):=by
  rw[<-da (sh b) (m+2) (by omega),<-ht];rfl
 have Q:m+2<=(sh a).length:=by
  rcases jH (sh a).length (m+2)with h|h<;>try trivial
  have:=zC i A (nY b);rw[F,g]at this;omega
 rw[bK,au,aw,show((sh b).length:Int)-1=((m+1:Nat):Int) by omega,fU,ht,es,ah,cS (bV)]
 rw[show aA (XK b ((((tl b b.length:Nat):Int),()),(),())) ((((sh b).length:Int),()),(),())=_ from oZ (sh b) (by omega),fV,H]
 have u:aY (sh b).length (sh b)=sh b:=Vu;have v:aY (sh a).length (sh a)=sh a:=Vu;unfold XO;simp only[U,c,u,C,D,Z,Y,lH];rw[iK (aL _),aw (n:=((sh b).length:Int)),aw (n:=((sh b).length:Int)+1),cS (by simp(disch:=omega) only [nk]),ale]
 simp only[U,c,u,C,D];obtain⟨V0,eV,lV,dV,S⟩:=TO (s:=s) (Rd.aQ (sh b)) (λst=>(bt (aA (HC st) ((↑st.2.2.1.length,()),(),())) (HB a ((((tl a a.length:Nat):Int),()),(),()) (s:Int) st)).bind λz=>az z) A l (by omega)
 rw[show(((sh b).length:Int)+1).toNat=(sh b).length+1 by omega,eV]
 rw[g]at S;obtain⟨t1,t2,t3⟩:=avu (V0:=V0) (m:=m) (t:=t) (R:=wv (sh b) (m+1)) l dV (by omega) N O (dS A (m+1)).1 (dS A (m+1)).2 (by rw[S,<-g,P])
 refine w8 ((TN (Rd.aQ (sh b)) _).trans ?_);rw[show aA (HC ((((sh b).length:Int),()),(),V0,())) _=_ from rn V0 (by omega),fV,t1]
 unfold HB;simp only[U,I];rw[iK (by omega),show aA (XS a ((((tl a a.length:Nat):Int),()),(),())) ((((sh a).length:Int),()),(),())=_ from oZ (sh a) (by omega),fV,G]
 unfold XM;simp only[U,I,v,C,D,Z,Y,lH];rw[iK (aL _),aw (n:=((sh a).length:Int)),aw (n:=((sh a).length:Int)+1),cS (by simp(disch:=omega) only [nk]),ald]
 simp only[U,I,v,C,D];obtain⟨X0,eX,lX,dX,T⟩:=TO (s:=s) (Rd.aQ (sh a)) (λst=>(bt (aA (HD st) ((↑st.2.2.1.length,()),(),())) (CY a ((((tl a a.length:Nat):Int),()),(),()) (s:Int) ((((sh b).length:Int),()),(),V0,()) ((((m+2:Nat):Int),()),(),()) st)).bind λz=>az z) i l (by omega)
 rw[show(((sh a).length:Int)+1).toNat=(sh a).length+1 by omega,eX]
 rw[F]at T;have e:0< 2^s:=nx (by omega)
 have axj:2^s<=2147483648:=tr (n:=2) (by omega) l
 have y:dv X0< 2147483648*4294967296^(sh a).length:=by
  have a1:=(dS i (sh a).length).2;rw[da _ _ (aL _),F]at a1;rw[T,vn];have a2:((2^s:Nat):Int)*(vN a:Int)<((2^s:Nat):Int)*4294967296^(sh a).length:=Int.mul_lt_mul_of_pos_left a1 (by omega)
  have a3:((2^s:Nat):Int)*4294967296^(sh a).length<=2147483648*4294967296^(sh a).length:=kj (by omega) (ij (jv _))
  omega
 obtain⟨p,q,eD,V,hq⟩:=alc (a:=a) (s:=s) (((sh b).length:Int),()) (((sh a).length:Int),()) l dV (by omega) dX Q (by omega) (by omega) t2 y
 rw[t3,S]at V hq;rw[T]at V;have hN:vN a*2^s=p*(vN b*2^s)+q:=by
  have:((vN a*2^s:Nat):Int)=((p*(vN b*2^s)+q:Nat):Int):=by
   rw[Vk,kV,kV,kV];exact V
  omega
 have B:q< vN b*2^s:=by
  rw[<-kV]at hq;omega
 have f:0< vN b*2^s:=aim j e;have ep:vN a/vN b=p:=by
  rw[<-aij _ _ e,hN,lJ p,vz f,tp B];rfl
 have eq:vN a%vN b=q/2^s:=by
  have:vN a%vN b*2^s=q:=by
   rw[<-MO,hN,lJ p,BQ,rH B]
  rw[<-this,aii _ e]
 rw[ep,eq];refine congrArg (λo=>Option.bind o _) (w8 (x:=some (nd p,nd (q/2^s),0,())) ((TN (Rd.aQ (sh a)) _).trans ?_))
 rw[show aA (HD ((((sh a).length:Int),()),(),X0,())) _=_ from rn X0 (by omega),fV,eD]
 rfl
theorem mQ{p q:Nat}(h:p<=q):(nd p).length<=(nd q).length:=by
 rcases jH (nd q).length (nd p).length with h1|h1
 .have:=zC (eG q) (eG p) (Ao p) h1;grind[pN]
 omega
theorem uG{n:Nat}(h:(nd n).length=0):n=0:=ar7.1 (yA.1 h)
theorem ami{a b:List Int}(J:Dg a)(U:Dg b)(g:a.length<=1099511627774:=by omega)(i:b.length<=1099511627774:=by omega):gcd a b=ab (nd (g9 (vN a) (vN b))):=by
 unfold gcd;have Z:=Bb a;have c:=Bb b;rw[re J]at Z;rw[re U]at c;rw[JZ (by omega) J,ah,JZ (by omega) U,ah]
 obtain⟨r,e,rfl⟩:=eW (step:=Pd) (λs=>∃p q:Nat,s=((nd p,nd q,()),(),())/\(nd p).length<=1099511627774/\(nd q).length<=1099511627774/\g9 p q=g9 (vN a) (vN b)) (λs=>vN s.1.2.1) (λr=>r=nd (g9 (vN a) (vN b))) (by
  rintro _ ⟨p,q,rfl,hp,I,d⟩;unfold Pd;dsimp only;by_cases h:(nd q).length=0
  .right;have:=uG h;subst this;rw[bc,au];refine⟨_,rfl,?_⟩;grind
  left;have A:q≠0:=λf=>h (by rw[f];rfl)
  rw[bh,ao,HH (eG p) (eG q) hp I,gf,gf,ax A,ah];have hm:=qj p (aiq A);refine⟨_,rfl,⟨q,p%q,rfl,I,b8 (mQ (dj hm)) I,?_⟩,?_⟩
  .rw [<-d,MM p q,ah8 q p,MM]
  show vN (nd (p%q))< _;rw[gf];exact hm) ((nd (vN a),nd (vN b),()),(),()) ⟨_,_,rfl,by omega,by omega,rfl⟩
 exact e
def dN(n:Nat):Nat:=if n=0 then 0 else n.log2+1
theorem NO{n k:Nat}(h1:n< 2^k)(h2:2^(k-1)<=n)(I:1<=k:=by omega):dN n=k:=by
 have A:n≠0:=by
  grind
 unfold dN;rw[ax A];have J:=(aid A).2 h1;have U:=(Nat.le_log2 A).2 h2;omega
theorem D3(n:Nat):n< 2^dN n:=by
 unfold dN;split;all_goals simp_all[Nat.one_pos,Nat.lt_log2_self]
theorem WI{n k:Nat}(h:n< 2^k:=by omega):dN n<=k:=by
 unfold dN;split
 .omega
 rename_i A;have:=(aid A).2 h;omega
theorem WA{a:List Int}(U:Dg a)(p:a.length<=1099511627774:=by omega):bitLen a=ab (dN (vN a):Int):=by
 have c:∀m:Nat,(m:Int).toNat=m:=cU;have h1:=g7 a a.length;have q:=oV a;have I:=lD U;have J:dv (sh a)=(vN a:Int):=by rw[gZ,dy U]
 unfold bitLen;rw[show aA (Wy a) _=_ from oZ a (by omega),fV]
 unfold Wz;simp only[c];rw[show aY (tl a a.length) a=sh a from rfl,iK h1];cases e:(sh a).length with
 |zero=>
  have:vN a=0:=by
   rw[yA.1 e]at J;have:(0:Int)=(vN a:Int):=J;omega
  rw[cT,ao,this];rfl
 |succ m=>
  have Z:=xh I (nY a) e;have A:=I.at m;obtain⟨t,b⟩:=fP A.1;rw[bK,au,aw (n:=((m+1:Nat):Int)-1),pr,fU,b];obtain⟨k,d,k1,k2,f,g⟩:=Ra (n:=t);rw[d,ah,aw (n:=32*(m:Int)),aw];have r:vN a=(wv (sh a) m).toNat+t*2^(32*m):=by
   have hw:=dS I m;have h:dv (sh a)=wv (sh a) m+(sh a).getD m 0*4294967296^m:=by
    rw[<-da (sh a) (m+1) (by omega)];rfl
   rw[b,J]at h;have i:(4294967296:Int)^m=((2^(32*m):Nat):Int):=by
    simp[VA,MG]
   grind
  have j:(wv (sh a) m).toNat< 2^(32*m):=by
   have hw:=dS I m;have i:(4294967296:Int)^m=((2^(32*m):Nat):Int):=by
    simp[VA,MG]
   omega
  have l:dN (vN a)=32*m+k:=by
   refine NO ?_ ?_
   .rw [qk];have o:(t+1)*2^(32*m)<=2^k*2^(32*m):=eA _ f;grind
   rw[show 32*m+k-1=32*m+(k-1) by omega,qk,lJ (2^(32*m))]
   have o:=eA (2^(32*m)) g;omega
  simp[l]
theorem tk1(l:List Int){i:Nat}(h:i< l.length:=by omega):l.take i++[l.getD i 0]=l.take (i+1):=by
 simp_all
theorem ua{l:List Int}(h:Dg l){d:Int}(I:0<=d:=by omega)(h1:d< 4294967296:=by omega):Dg (l++[d]):=by
 intro x A;rcases cD.1 A with A|A
 .exact h x A
 grind
theorem C1(l:List Int)(d:Int):dv (l++[d])=dv l+d*4294967296^l.length:=by
 rw[OE];show _+_*(d+4294967296*0)=_;grind
theorem q9{α:Type}(l:List α)(x:α)(n:Nat)(h:(l.length+1)*n<=70368744177664:=by omega)(A:1<=n:=by omega):bW (l.length+[x].length) n=ag:=by
 refine jA h ?_;show l.length+1<=_;have:=aib (l.length+1) A;omega
theorem aeq{a:List Int}(h:a.length<=2199023255552:=by omega):jx a=ab (sh a):=by
 have h1:=g7 a a.length;unfold jx;rw[show aA (aer a) _=_ from oZ a (by omega)]
 obtain⟨r,e,rfl⟩:=eW (step:=SS a ((((tl a a.length)),()),(),())) (λs=>∃i:Nat,s=((a.take i,(i:Int),()),(),())/\i<=tl a a.length) (λs=>((tl a a.length)-s.1.2.1).toNat) (λr=>r=sh a) (by
  rintro _ ⟨i,rfl,hi⟩;unfold SS;dsimp only;by_cases h2:i< tl a a.length
  .left;rw[bh,fU,cS (q9 _ _ _ (by grind)),kx,tk1 a,aw]
   refine⟨_,rfl,⟨i+1,rfl,by omega⟩,?_⟩
   grind
  right;rw[bc];exact⟨_,rfl,by rw[show i=tl a a.length by omega];rfl⟩) (([],0,()),(),()) ⟨0,rfl,by omega⟩
 exact e
theorem mY{a:List Int}(h:a.length<=2199023255552)(A:Dg a):jx a=ab (nd (vN a)):=by rw[aeq h,re A]
theorem qW{a:List Int}(h:Dg a)(i:Nat):l8 a i=ab (a.getD i 0):=by
 unfold l8;have A:=h.at i;by_cases hi:i< a.length
 .rw [bc,nS,ah,dh,au,fU hi,bO]
 rw[bc,nS,ah,bV,nr,jF (by omega)];rfl
theorem GY{o:List Int}{t P:Int}(A:P=4294967296^o.length):dv (o++[t%4294967296])+t/4294967296*(P*4294967296)=dv o+t*P:=by
 rw[C1];grind
theorem at0{a:List Int}{f:Int}(I:Dg a)(h:a.length<=1099511627776:=by omega)(f0:0<=f:=by omega)(f1:f< 4294967296:=by omega):KJ a f=ab (nd (vN a*f.toNat)):=by
 unfold KJ;obtain⟨r,e,rfl⟩:=eW (step:=SY a f) (λs=>∃(o:List Int) (c:Int) (i:Nat),s=((o,c,(i:Int),()),(),())/\i<=a.length/\o.length=i/\Dg o/\0<=c/\c< 4294967296/\dv o+c*4294967296^i=wv a i*f) (λs=>((a.length:Int)-s.1.2.2.1).toNat) (λr=>r=nd (vN a*f.toNat)) (by
  rintro _ ⟨o,c,i,rfl,hi,J,U,c0,c1,b⟩;unfold SY;dsimp only;by_cases h2:i< a.length
  .left;have Z:=I.at i;have hm:=Aj Z.1 Z.2 f0 f1;rw[bh,ao,fU h2,bO (n:=a.getD i 0),bO (n:=a.getD i 0*f),bO (n:=_+c),kz,jC,cS (q9 _ _ _),kx,aw];refine⟨_,rfl,⟨_,_,i+1,rfl,by omega,by grind,ua U,by omega,by omega,?_⟩,?_⟩
   .rw [pw,GY (by rw[J]),gB]
    show _=(wv a i+a.getD i 0*4294967296^i)*f;grind
   grind
  right;obtain rfl:i=a.length:=by omega
  have A:Dg (o++[c]):=ua U c0 c1;rw[bc,au,nh c0 c1,cS (q9 _ _ _),kx,mY (by grind) A,ah,ah]
  refine⟨_,rfl,?_⟩;congr 1;have d:=dy A;rw[C1,J,b,da _ _ (aL _),<-dy I]at d;grind) (([],0,0,()),(),()) ⟨[],0,0,rfl,by omega,rfl,Dg.nil,by omega,by omega,by
    show(0:Int)+0*_=0*f;omega⟩
 exact e
theorem aej{a b:List Int}(J:Dg a)(U:Dg b)(g:a.length<=1099511627776:=by omega)(j:b.length<=1099511627776:=by omega):KD a b=ab (nd (vN a+vN b)):=by
 obtain⟨m,hm,Z,A⟩:∃m:Nat,(bif ai (a.length:Int) (b.length:Int)then(b.length:Int)else(a.length:Int))=(m:Int)/\a.length<=m/\b.length<=m/\m<=1099511627776:=by
  by_cases h:a.length<=b.length
  .exact ⟨b.length,by rw[bV];rfl,h,aL _,j⟩
  exact⟨a.length,by rw[dh];rfl,aL _,by omega,g⟩
 have k:=A.2;unfold KD;obtain⟨r,e,rfl⟩:=eW (step:=SJ a b) (λs=>∃(o:List Int) (c:Int) (i:Nat),s=((o,c,(i:Int),()),(),())/\i<=m/\o.length=i/\Dg o/\0<=c/\c<=1/\dv o+c*4294967296^i=wv a i+wv b i) (λs=>((m:Int)-s.1.2.2.1).toNat) (λr=>r=nd (vN a+vN b)) (by
  rintro _ ⟨o,c,i,rfl,hi,d,f,c0,c1,l⟩;unfold SJ;dsimp only;rw[hm];by_cases h2:i< m
  .left;have q:=J.at i;have t:=U.at i;rw[bh,ao,qW J,ah,qW U,ah,bO (n:=a.getD i 0+b.getD i 0),bO (n:=_+c),kz,jC,cS (q9 _ _ _),kx,aw];refine⟨_,rfl,⟨_,_,i+1,rfl,by omega,by grind,ua f,by omega,by omega,?_⟩,?_⟩
   .rw [pw,GY (by rw[d]),gB,gB]
    show _=wv a i+a.getD i 0*4294967296^i+(wv b i+b.getD i 0*4294967296^i);omega
   grind
  right;obtain rfl:i=m:=by omega
  have I:Dg (o++[c]):=ua f c0;rw[bc,au,nh c0,cS (q9 _ _ _),kx,mY (by grind) I,ah,ah]
  refine⟨_,rfl,?_⟩;congr 1;have p:=dy I;rw[C1,d,l,da _ _ Z,da _ _ A.1,<-dy J,<-dy U]at p;omega) (([],0,0,()),(),()) ⟨[],0,0,rfl,by omega,rfl,Dg.nil,by omega,by omega,rfl⟩
 exact e
theorem ael{a b:List Int}(I:Dg a)(J:Dg b)(c:a.length<=1099511627776:=by omega)(d:b.length<=1099511627776:=by omega):ES a b=ab (gI (vN a) (vN b)):=by
 have k:=dy I;have l:=dy J;obtain⟨m,hm,U,Z,f⟩:∃m:Nat,(bif ai (a.length:Int) (b.length:Int)then(b.length:Int)else(a.length:Int))=(m:Int)/\a.length<=m/\b.length<=m/\m<=1099511627776:=by
  by_cases h:a.length<=b.length
  .exact ⟨b.length,by rw[bV];rfl,h,aL _,d⟩
  exact⟨a.length,by rw[dh];rfl,aL _,by omega,c⟩
 have n:=da a m U;have o:=da b m Z;unfold ES;rw[hm,aw];obtain⟨r,e,rfl⟩:=eW (step:=KE a b) (λs=>∃i:Nat,s=(((i:Int)-1,()),(),())/\i<=m/\∀j,i<=j->j< m->a.getD j 0=b.getD j 0) (λs=>(s.1.1+1).toNat) (λr=>r=gI (vN a) (vN b)) (by
  rintro _ ⟨i,rfl,hi,g⟩;have A:=UJ a b hi g;cases i with
  |zero=>
   right;unfold KE;rw[dh (by trivial),au]
   refine⟨_,rfl,?_⟩;have:wv a m-wv b m=0:=A;have e:vN a=vN b:=by omega
   unfold gI;omega
  |succ i=>
   unfold KE;simp only[pr];rw[bV,ao,qW I,ah,qW J,ah];by_cases h1:a.getD i 0< b.getD i 0
   .right;rw[bh h1,ao];refine⟨_,rfl,?_⟩;have:=Me I J h1;unfold gI;omega
   rw[bc,au,ah,ah];by_cases h2:b.getD i 0< a.getD i 0
   .right;rw[bh h2,ao];refine⟨_,rfl,?_⟩;have:=Me J I h2;unfold gI;omega
   left;rw[bc,au,aw];refine⟨_,rfl,⟨i,rfl,by omega,λj p q=>?_⟩,?_⟩
   all_goals grind) (((m:Int)-1,()),(),()) ⟨m,rfl,aL _,λj h1 h2=>by omega⟩
 exact e
theorem AR{a b:List Int}(I:Dg a)(J:Dg b)(f:a.length<=1099511627776:=by omega)(g:b.length<=1099511627776:=by omega):xx a b=ab (if vN a< vN b then([],af,())else(nd (vN a-vN b),ag,())):=by
 have q:=dy I;have u:=dy J;unfold xx;rw[ael I J f g,ah];by_cases A:vN a< vN b
 .rw [aK A];unfold gI;rw[aK A,bh,ao]
 have h:ak (gI (vN a) (vN b)) 0=af:=by
  unfold gI;rw[ax A];split;all_goals rfl
 rw[ax A,h,au];obtain⟨r,e,rfl⟩:=eW (step:=SX a b) (λs=>∃(o:List Int) (c:Int) (i:Nat),s=((o,c,(i:Int),()),(),())/\i<=a.length/\o.length=i/\Dg o/\0<=c/\c<=1/\dv o-c*4294967296^i=wv a i-wv b i) (λs=>((a.length:Int)-s.1.2.2.1).toNat) (λr=>r=(nd (vN a-vN b),ag,())) (by
  rintro _ ⟨o,c,i,rfl,hi,j,U,c0,c1,k⟩;unfold SX;dsimp only;by_cases h2:i< a.length
  .left;have v:=I.at i;have w:=J.at i;rw[bh,ao,qW I,ah,qW J,ah,bO (n:=4294967296+a.getD i 0),bO (n:=_-b.getD i 0),bO (n:=_-c),kz,jC,bO,cS (q9 _ _ _),kx,aw];refine⟨_,rfl,⟨_,_,i+1,rfl,by omega,by grind,ua U,by omega,by omega,?_⟩,?_⟩
   .generalize x:4294967296+a.getD i 0-b.getD i 0-c=t;have y:=GY (o:=o) (t:=t) (P:=4294967296^i) (by rw[j])
    rw[pw,qg 1,n8];show _=wv a i+a.getD i 0*4294967296^i-(wv b i+b.getD i 0*4294967296^i);grind
   grind
  right;obtain rfl:i=a.length:=by omega
  rw[bc,au,mY (by omega) U,ah,ah]
  refine⟨_,rfl,?_⟩;have z:=dy U;have Z:(sh b).length<=a.length:=by
   rcases jH a.length (sh b).length with d|d
   .have:=zC I (lD J) (nY b) d;grind[gZ]
   omega
  have l:wv b a.length=dv b:=by rw[vc,da _ _ Z,gZ]
  rw[da _ _ (aL _),l]at k;have m:=dS U a.length;rw[da _ _ (by omega)]at m
  have p:c=0:=by
   grind
  grind) (([],0,0,()),(),()) ⟨[],0,0,rfl,by omega,rfl,Dg.nil,by omega,by omega,rfl⟩
 exact e
theorem at1{a:List Int}{n:Nat}(b:Dg a)(h:a.length<=1099511627776)(g:n<=31):KK a (n:Int)=ab (nd (vN a*2^n)):=by
 have Z:0< 2^n:=nx (by omega)
 have hp:2^n<=2147483648:=tr (n:=2) (by omega) g
 have U:(n:Int).tdiv 32=0:=Gc (by omega) (by omega)
 have hm:(n:Int).tmod 32=(n:Int):=MH (by omega) (by omega)
 have j:w 0=0:=aw;have A:n.min 64=n:=nv (by omega)
 have k:(2:Int)^n=((2^n:Nat):Int):=by rfl
 unfold KK;rw[U,j,cS (by rfl)]
 obtain⟨p,I⟩:∃p,p=2^n:=⟨_,rfl⟩;rw[<-I]at Z hp|-;obtain⟨r,e,rfl⟩:=eW (step:=SZ a (n:Int)) (λs=>∃(o:List Int) (c:Int) (i:Nat),s=((o,c,(i:Int),()),(),())/\i<=a.length/\o.length=i/\Dg o/\0<=c/\c< 4294967296/\dv o+c*4294967296^i=wv a i*(p:Int)) (λs=>((a.length:Int)-s.1.2.2.1).toNat) (λr=>r=nd (vN a*p)) (by
  rintro _ ⟨o,c,i,rfl,hi,d,U,c0,c1,l⟩;unfold SZ;dsimp only;rw[hm,bO (n:=(n:Int)),cU,A];by_cases h2:i< a.length
  .left;have f:=b.at i;have m:=Aj (y:=(p:Int)) f.1 f.2;rw[bh,ao,fU h2,k,<-I,bO (n:=a.getD i 0),bO (n:=a.getD i 0*(p:Int)),bO (n:=_+c),kz,jC,cS (q9 _ _ _),kx,aw];refine⟨_,rfl,⟨_,_,i+1,rfl,by omega,by grind,ua U,by omega,by omega,?_⟩,?_⟩
   .rw [pw,GY (by rw[d]),gB]
    show _=(wv a i+a.getD i 0*4294967296^i)*(p:Int);grind
   grind
  right;obtain rfl:i=a.length:=by omega
  have J:Dg (o++[c]):=ua U c0 c1;rw[bc,au,nh c0 c1,cS (q9 _ _ _),kx,mY (by grind) J,ah,ah]
  refine⟨_,rfl,?_⟩;congr 1;have q:=dy J;rw[C1,d,l,da _ _ (aL _),<-dy b]at q;omega) (([],0,0,()),(),()) ⟨[],0,0,rfl,by omega,rfl,Dg.nil,by omega,by omega,by
    show(0:Int)+0*_=0*_;omega⟩
 exact e
theorem SO{a:List Int}{n:Nat}(A:Dg a)(h:a.length<=1099511627776:=by omega)(I:n<=31:=by omega):sI a (n:Int)=ab (nd (vN a*2^n)):=by
 unfold sI;rw[bV,ao,bV,ao,at1 A h I,ah]
theorem aep{a:List Int}{n:Nat}(I:Dg a)(h:a.length<=1099511627776)(l:n<=31:=by omega):sI a (w (0-(n:Int)))=ab (nd (vN a/2^n)):=by
 have m:=dy I;by_cases v:n=0
 .subst v;have:w (0-((0:Nat):Int))=((0:Nat):Int):=aw;rw[this,SO I h,air,Nat.mul_one,Vw]
 have f:0< 2^n:=nx (by omega)
 have hp:2^n<=2147483648:=tr (n:=2) (by omega) l
 have z:(n:Int).tdiv 32=0:=Gc (by omega) (by omega)
 have hm:(n:Int).tmod 32=(n:Int):=MH (by omega) (by omega)
 have B:w (0-(n:Int))= -(n:Int):=by rw[aw];omega
 have J:w (0- -(n:Int))=(n:Int):=by rw[aw];omega
 have C:w 0=0:=aw;have U:n.min 64=n:=nv (by omega)
 have D:(2:Int)^n=((2^n:Nat):Int):=by rfl
 unfold sI;rw[B,dh,au,aw];by_cases d:a.length=0
 .have:vN a=0:=by
   rw[yA.1 d]at m;have:((vN a:Nat):Int)=0:=by rw[yA.1 d];rfl
   omega
  rw[bh,ao,this,MQ];rfl
 rw[bc,au,J,z,C];obtain⟨r,e,rfl⟩:=eW (step:=SW a (-(n:Int))) (λs=>∃(o:List Int) (i:Nat),s=((o,(i:Int),()),(),())/\i<=a.length/\o.length=i/\Dg o/\dv o*((2^n:Nat):Int)+a.getD 0 0%((2^n:Nat):Int)=wv a i+a.getD i 0%((2^n:Nat):Int)*4294967296^i) (λs=>((a.length:Int)-s.1.2.1).toNat) (λr=>r=nd (vN a/2^n)) (by
  rintro _ ⟨o,i,rfl,hi,E,A,Z⟩;unfold SW;dsimp only;rw[J,hm,bO (n:=(n:Int)),cU,U];by_cases h2:i< a.length
  .left;have F:=I.at i;have G:=I.at (i+1);obtain⟨x,q⟩:=fP F.1;obtain⟨y,u⟩:=fP G.1;rw[bh,ao,aw (n:=(i:Int)+1),show(i:Int)+1=((i+1:Nat):Int) by omega,qW I,ah,qW I,ah,q,u,bO (n:=(y:Int)*4294967296),bO]
   have c:wr .u32 (((y:Int)*4294967296+(x:Int)).fdiv ((2^n:Nat):Int))=(((x+y*4294967296)/2^n%4294967296:Nat):Int):=by
    rw[qc _ (by omega),jC,show(y:Int)*4294967296+(x:Int)=((x+y*4294967296:Nat):Int) by omega,<-Ga,BJ]
    rfl
   rw[D,c,cS (q9 _ _ _),kx];refine⟨_,rfl,⟨_,i+1,rfl,by omega,by grind,ua A,?_⟩,?_⟩
   .have M:=afH (b:=y) l (show x< 4294967296 by omega)
    rw[C1,E,pw];generalize(x+y*4294967296)/2^n%4294967296=t at*;show _=wv a i+a.getD i 0*4294967296^i+_;rw[q]at Z|-;rw[u];have g:(t:Int)*((2^n:Nat):Int)+(x:Int)%((2^n:Nat):Int)=(x:Int)+((y:Int)%((2^n:Nat):Int))*4294967296:=by
     rw[<-BJ,<-BJ,<-kV];omega
    generalize((2^n:Nat):Int)=p at*;have j:(t*p+(x:Int)%p)*4294967296^i=(x:Int)*4294967296^i+(y:Int)%p*(4294967296^i*4294967296):=by
     rw[g,gB,kh ((y:Int)%p),vn 4294967296 (4294967296^i)]
    rw[gB]at j;rw[gB (dv o),yv (t:Int)];omega
   grind
  right;obtain rfl:i=a.length:=by omega
  rw[bc,au,mY (by omega) A,ah,ah]
  refine⟨_,rfl,?_⟩;have d:a.getD a.length 0=0:=by
   rw[nr,jF (by omega)];rfl
  rw[d,ahN,ik,lH,da _ _ (aL _)]at Z;have k:=F9 (a.getD 0 0) (show(0:Int)<((2^n:Nat):Int) by omega)
  obtain⟨r,H⟩:=fP (MF (a.getD 0 0) (show((2^n:Nat):Int)≠0 by omega));rw[H]at Z k;rw[<-dy A,<-m]at Z;have K:vN a=vN o*2^n+r:=by
   have:((vN a:Nat):Int)=((vN o*2^n+r:Nat):Int):=by rw[Vk,kV];exact Z.symm
   omega
  have L:vN a/2^n=vN o:=by
   rw[K,lJ,vz f,tp (by omega)];rfl
  rw[L]) (([],0,()),(),()) ⟨[],0,rfl,by omega,rfl,Dg.nil,by
    show(0:Int)*_+_=0+_*1;omega⟩
 exact e
theorem WH{n:Nat}(h:n≠0:=by omega):2^(dN n-1)<=n:=by
 simp[dN,ax,h,Gl,Nat.log2_self_le]
theorem Cv{n:Nat}(h:n≠0:=by omega):1<=dN n:=by
 simp[dN,ax,h]
theorem ajO{v:Nat}(h:0< v):dN v=dN (v/2)+1:=by
 refine NO ?_ ?_
 .have:=D3 (v/2);omega
 rw[Gl];by_cases h1:v/2=0
 .rw [h1];trivial
 have a:=WH h1;have b:=Cv h1;have:2^dN (v/2)=2*2^(dN (v/2)-1):=by
  rw[<-Nat.pow_succ',show(dN (v/2)-1).succ=dN (v/2) by omega]
 omega
theorem OI(m:Nat):(4294967296:Int)^m=((2^(32*m):Nat):Int):=by simp[VA,MG]
theorem ago{l:List Int}{m t:Nat}(A:Dg l)(e:l.length=m+1)(I:l.getD m 0=(t:Int))(Z:0< t:=by omega):dN (vN l)=32*m+dN t:=by
 have hw:=dS A m;have J:dv l=wv l m+(t)*4294967296^m:=by
  rw[<-da l (m+1) (by omega),<-I];rfl
 rw[<-dy A,OI]at J;rw[OI]at hw;have k1:=Cv (n:=t);refine NO ?_ ?_
 .have U:(t+1)*2^(32*m)<=2^dN t*2^(32*m):=eA _ (D3 t);grind
 rw[show 32*m+dN t-1=32*m+(dN t-1) by omega,qk,lJ (2^(32*m))]
 have U:=eA (2^(32*m)) (WH (n:=t));omega
theorem aek{a:List Int}(J:Dg a)(f:a.length<=1099511627774:=by omega):ER a=ab (dN (vN a):Int):=by
 have g:=Bb a;have I:=lD J;have U:dv (sh a)=(vN a:Int):=by rw[gZ,dy J]
 have d:vN (sh a)=vN a:=by simp[vN,gZ]
 unfold ER;rw[aeq,ah];cases e:(sh a).length with
 |zero=>
  have:vN a=0:=by
   rw[yA.1 e]at U;have:(0:Int)=(vN a:Int):=U;omega
  rw[cT,ao,this];rfl
 |succ m=>
  have Z:=xh I (nY a) e;have A:=I.at m;obtain⟨t,b⟩:=fP A.1;rw[bK,au,aw (n:=((m+1:Nat):Int)-1),pr,fU,b,aw];have c:=ago I e b;rw[d]at c;have i:=WI (n:=t) (k:=32);obtain⟨r,j,rfl⟩:=eW (step:=SK) (λs=>∃n v:Nat,s=(((n:Int),(v:Int),()),(),())/\v< 4294967296/\n+dN v=dN (vN a)) (λs=>s.1.2.1.toNat) (λr=>r=(dN (vN a):Int)) (by
   rintro _ ⟨n,v,rfl,l,o⟩;unfold SK;dsimp only;by_cases h:0< v
   .left;have h2:=ajO h;rw[bh,ao,aw,o9 (by omega),nh]
    refine⟨_,rfl,⟨n+1,v/2,by rfl,by omega,by omega⟩,?_⟩
    grind
   right;obtain rfl:v=0:=by omega
   have p:dN 0=0:=rfl;exact⟨_,rfl,by omega⟩) (((32*(m:Int)),(t:Int),()),(),()) ⟨32*m,t,by rfl,by omega,c.symm⟩
  omega
theorem iN{n k:Nat}(h:(n:Int)< 4294967296^k:=by omega):(nd n).length<=k:=by
 rcases jH k (nd n).length with h1|h1
 .obtain ⟨m,hm⟩:∃m,(nd n).length=m+1:=⟨(nd n).length-1,by omega⟩
  have h2:=xh (eG n) (Ao n) hm;have I:=dS (eG n) m;have A:dv (nd n)=wv (nd n) m+(nd n).getD m 0*4294967296^m:=by
   rw[<-da _ (m+1) (by omega)];rfl
  rw[pN]at A;have J:1*4294967296^m<=(nd n).getD m 0*4294967296^m:=kj (by omega) (ij (jv m))
  have U:=xv (a:=k) (b:=m);omega
 omega
theorem ar6(n:Nat):(n:Int)< 4294967296^(nd n).length:=by
 have:=(dS (eG n) (nd n).length).2;rwa[da _ _ (aL _),pN]at this
theorem aes{X Y:Nat}(i:0< Y)(h:X< 4294967296*Y)(w:(nd Y).length<=1099511627770:=by omega):EV (nd X) (nd Y)=ab (((X/Y:Nat):Int),nd (X%Y),()):=by
 obtain⟨m,hm⟩:∃m,(nd Y).length=m+1:=⟨(nd Y).length-1,by
  have:(nd Y).length≠0:=λh=>by have:=uG h;omega
  omega⟩
 have A:=eG X;have J:=eG Y;have j:=ar6 Y;have d:(nd X).length<=m+2:=iN (by
  grind)
 have top:=xh J (Ao Y) hm;have x:=J.at m;have y:=A.at (m+1);have z:=A.at m;have B:(X:Int)=wv (nd X) m+(nd X).getD m 0*4294967296^m+(nd X).getD (m+1) 0*(4294967296^m*4294967296):=by
  rw[<-pN X,<-da (nd X) (m+2) d];rfl
 have C:(Y:Int)=wv (nd Y) m+(nd Y).getD m 0*4294967296^m:=by
  rw[<-pN Y,<-da (nd Y) (m+1) (by omega)];rfl
 have E:=dS A m;have F:=dS J m;unfold EV;rw[hm,qW A,ah,aw (n:=((m+1:Nat):Int)-1),pr,qW A,ah,fU];generalize(nd X).getD (m+1) 0=a at*;generalize(nd X).getD m 0=b at*;generalize(nd Y).getD m 0=c at*;rw[bO (n:=c),nG,bO (n:=a*4294967296),bO (n:=a*4294967296+b),o9 (by omega)]
 have f:0<=(a*4294967296+b)/c:=vk (by omega) (by omega)
 have k:(a*4294967296+b)/c<=a*4294967296+b:=Int.ediv_le_self _ (by omega)
 rw[bO f];have G:((X/Y:Nat):Int)<=(a*4294967296+b)/c:=by
  rw[Int.le_ediv_iff_mul_le (by omega)]
  have h1:X/Y*Y<=X:=Nat.div_mul_le_self X Y;have h2:((X/Y:Nat):Int)*(Y:Int)<=(X:Int):=by omega
  have l:((X/Y:Nat):Int)*(c*4294967296^m)<=((X/Y:Nat):Int)*(Y:Int):=qf (by omega) (Int.natCast_nonneg _)
  obtain⟨D,o⟩:∃D:Int,D=((X/Y:Nat):Int):=⟨_,rfl⟩;rw[<-o]at h2 l|-;have p:D*c*4294967296^m<(a*4294967296+b+1)*4294967296^m:=by
   grind
  have H:=Vg p (ij (jv m));omega
 have hB:X/Y< 4294967296:=ML (by omega)
 obtain⟨q,eq,Z⟩:∃q:Nat,(bif ai ((a*4294967296+b)/c) 4294967295 then(a*4294967296+b)/c else 4294967295)=(q:Int)/\X/Y<=q/\q<=4294967295:=by
  by_cases h1:(a*4294967296+b)/c<=4294967295
  .rw [bV h1,ao];exact⟨((a*4294967296+b)/c).toNat,by omega,by omega,by omega⟩
  rw[dh,au];grind
 rw[eq,at0 J,ah,gf,cU];have U:∀q:Nat,q<=4294967295->(nd (Y*q)).length<=m+2:=λq h1=>iN (by
  rw[show m+2=m+1+1 by omega,pw,<-hm,kV]
  have:(Y:Int)*(q:Int)<=(Y:Int)*4294967295:=qf (by omega) (by omega)
  omega)
 obtain⟨r,e,rfl⟩:=eW (step:=SU (nd X) (nd Y)) (λs=>∃q:Nat,s=(((q:Int),nd (Y*q),()),(),())/\X/Y<=q/\q<=4294967295) (λs=>s.1.1.toNat) (λr=>r=(((X/Y:Nat):Int),nd (X%Y),())) (by
  rintro _ ⟨q,rfl,h1,h2⟩;have K:=U q h2;unfold SU;dsimp only;rw[ael (eG _) A,ah,gf,gf];by_cases t:X< Y*q
  .left;have Z:1<=q:=by
    grind
   have u:X/Y< q:=ML t;have I:gI (Y*q) X=1:=by
    unfold gI;omega
   have v:Y<=Y*q:=aib Y Z;rw[I,bh,ao,AR (eG _) J,gf,gf,ax (by omega),ah,bO]
   refine⟨_,rfl,⟨q-1,?_,by omega,by omega⟩,?_⟩
   all_goals grind
  right;have I:ak 0 (gI (Y*q) X)=af:=by
   unfold gI;split
   .exact bc
   exact bc
  have g:q=X/Y:=by
   have:q<=X/Y:=(Nat.le_div_iff_mul_le i).2 (by grind)
   omega
  rw[I,au,AR A (eG _),gf,gf,ax (by omega),ah,ah]
  refine⟨_,rfl,?_⟩;have:X-Y*q=X%Y:=by
   have:=Gm X Y;grind
  rw[this,g]) (((q:Int),nd (Y*q),()),(),()) ⟨q,rfl,Z.1,Z.2⟩
 exact e
theorem cpR{rem q:List Int}{j d:Int}(h:rem.length<=1099511627776:=by omega):aA (KF ((rem,j,()),(),q,())) (([d],0,()),(),())=ab (.inl ((d::rem,()),(),())):=by
 obtain⟨r,e,rfl⟩:=eW (step:=KF ((rem,j,()),(),q,())) (λs=>∃i:Nat,s=((d::rem.take i,(i:Int),()),(),())/\i<=rem.length) (λs=>rem.length-s.1.2.1.toNat) _ (by
  rintro _ ⟨i,rfl,hi⟩;unfold KF;dsimp only;by_cases h2:i< rem.length
  .left;rw[bh,fU h2,cS (q9 _ _ _ (by grind)),kx,List.cons_append,tk1 _ h2,aw]
   refine⟨_,rfl,⟨i+1,rfl,by omega⟩,?_⟩
   grind
  right;rw[bc,show i=rem.length by omega,Vu]
  exact⟨_,rfl,rfl⟩) _ ⟨0,rfl,by omega⟩
 exact e
theorem awr{d:Int}{R:Nat}(A:0<=d)(h1:d< 4294967296):vN (d::nd R)=d.toNat+4294967296*R:=by
 have e:=dy (l:=d::nd R) (Dg.cons A h1 (eG R));have:dv (d::nd R)=d+4294967296*dv _:=rfl;rw[this,pN]at e;omega
theorem at2{y0 l2:List Int}{y1:Int}{V s r0 R:Nat}{q:List Int}(h:s<=31)(hw:w (w (32*(y0.length:Int))-y1)=(s:Int))(c:0< V)(Z:(nd V).length<=1099511627770)(d2:Dg l2)(k:l2.length<=1099511627776)(l:r0<=l2.length)(m:q.length=l2.length)(n:Dg q)(hR:R< V)
  (o:dv (l2.drop r0)=dv (q.drop r0)*(V:Int)+(R:Int)):
  ∃Q A:Nat,aA (EU y0 y1 l2 (nd V)) ((nd R,(r0:Int)-1,()),(),q,())=ab (nd Q,nd (A/2^s),0,())/\vN l2=Q*V+A/\A< V:=by
 obtain⟨_,e,A,d,rfl,h1,h2,J,a⟩:=D0 (step:=EU y0 y1 l2 (nd V)) (λi st=>∃(R:Nat) (q:List Int),st=((nd R,((r0-i:Nat):Int)-1,()),(),q,())/\q.length=l2.length/\Dg q/\R< V/\dv (l2.drop (r0-i))=dv (q.drop (r0-i))*(V:Int)+(R:Int)) r0 (by
  rintro i _ hi ⟨R,q,rfl,h1,h2,J,a⟩;obtain⟨j,f⟩:∃j,r0-i=j+1:=⟨r0-i-1,by omega⟩
  have b:r0-(i+1)=j:=by omega
  rw[f]at a;rw[f,b];have U:=d2.at j;have p:=mQ (dj J);have r:(l2.getD j 0).toNat+4294967296*R< 4294967296*V:=by omega
  have hB:((l2.getD j 0).toNat+4294967296*R)/V< 4294967296:=ML (by omega)
  have hm:=qj ((l2.getD j 0).toNat+4294967296*R) c;have t:=Gm ((l2.getD j 0).toNat+4294967296*R) V;unfold EU;simp only[pr];rw[bV,ao,fU,cpR,fV];unfold aen;simp only[cU];rw[mY (by grind) (Dg.cons U.1 U.2 (eG R)),ah,awr U.1 U.2,aes c r Z,ah]
  generalize((l2.getD j 0).toNat+4294967296*R)/V=Q at*;generalize l:((l2.getD j 0).toNat+4294967296*R)%V=g at*;rw[kK,nh,aw];refine⟨_,rfl,g,_,rfl,by grind,h2.set (by omega) (by omega),hm,?_⟩
  rw[HJ _ _ _ (by omega),zx l2 j (by omega),a,gB,kh 4294967296]
  have I:(V:Int)*(Q:Int)+(g:Int)=(((l2.getD j 0).toNat+4294967296*R:Nat):Int):=by omega
  rw[vn (V:Int)]at I;dsimp only;omega) ((nd R,(r0:Int)-1,()),(),q,()) ⟨R,q,rfl,m,n,hR,o⟩
 have u:=dy h2;have v:=dy d2;have p:=mQ (dj J);refine⟨vN d,A,e.trans (w8 (x:=some (nd (vN d),nd (A/2^s),0,())) ?_),?_,J⟩
 .unfold EU;rw[VB,dh (by simp),au,hw]
  dsimp only;rw[mY (by omega) h2,ah,aep (eG A) (by omega) h,ah,gf]
  rfl
 grind
theorem aem{a b:List Int}(i:Dg a)(c:Dg b)(S:a.length<=1099511627770:=by omega)(T:b.length<=1099511627770:=by omega):
  ET a b=ab (if vN b=0 then([],[],9,())else(nd (vN a/vN b),nd (vN a%vN b),0,())):=by
 have f:∀m:Nat,(m:Int).toNat=m:=cU;have l2:=Bb b;rw[re c]at l2;unfold ET;rw[mY (by omega) c,ah]
 obtain⟨X,j⟩:∃X,X=vN a:=⟨_,rfl⟩;obtain⟨Y,r⟩:∃Y,Y=vN b:=⟨_,rfl⟩;rw[<-j,<-r];rw[<-r]at l2;by_cases u:(nd Y).length=0
 .rw [cT,ao,aK (uG u)]
 have o:Y≠0:=λh=>u (by rw[h];rfl)
 obtain⟨m,hm⟩:∃m,(nd Y).length=m+1:=⟨(nd Y).length-1,by omega⟩
 have top:=xh (eG Y) (Ao Y) hm;have U:=(eG Y).at m;obtain⟨t,B⟩:=fP U.1;have c:=ago (eG Y) hm B;rw[gf]at c;have W:=WI (n:=t) (k:=32);have C:=Cv (n:=t);obtain⟨s,hs⟩:∃s,s=32-dN t:=⟨_,rfl⟩;have hw:w (w (32*((nd Y).length:Int))-(dN Y:Int))=(s:Int):=by
  rw[aw (n:=32*_),aw];omega
 have A:0< 2^s:=nx (by omega)
 have I:0< Y*2^s:=aim (by omega) A
 have D:(nd (Y*2^s)).length<=m+1:=iN (by
  rw[OI];have h1:Y*2^s< 2^dN Y*2^s:=ail (D3 Y) A;rw[<-qk,show dN Y+s=32*(m+1) by omega]at h1
  omega)
 rw[bK,au,ax o,aek (eG Y),ah,gf,hw,SO i,ah,SO (eG Y),ah,gf,<-j];have v:2^s<=4294967296:=tr (n:=2) (by omega) (show s<=32 by omega)
 have E:(nd (X*2^s)).length<=a.length+1:=iN (by
  have h1:=(dS i a.length).2;rw[da _ _ (aL _),<-dy i,<-j]at h1;rw[pw,kV];have h2:(X:Int)*((2^s:Nat):Int)<=(X:Int)*4294967296:=qf (by omega) (by omega)
  omega)
 have d2:=eG (X*2^s);have v2:=pN (X*2^s);rw[cS (by simp(disch:=omega) only [nk]),f]
 have F:∀Q J:Nat,X*2^s=Q*(Y*2^s)+J->J< Y*2^s->ab (nd Q,nd (J/2^s),(0:Int),())=ab (nd (X/Y),nd (X%Y),0,()):=λQ J g hR=>by
  have G:X/Y=Q:=by
   rw[<-aij _ _ A,g,lJ Q,vz I,tp hR];rfl
  have eq:X%Y=J/2^s:=by
   have:X%Y*2^s=J:=by
    rw[<-MO,g,lJ Q,BQ,rH hR]
   rw[<-this,aii _ A]
  rw[G,eq]
 cases e:(nd (X*2^s)).length with
 |zero=>
  have p:X=0:=by
   rcases Nat.mul_eq_zero.1 (uG e)with h|h
   all_goals omega
  rw[aw (n:=((0:Nat):Int)-1),dh,au,mY (by simp) (Dg.rep _),ah,aep Dg.nil (by simp),ah,p,MQ,Nat.zero_mod]
  show ab (nd (vN []),nd (vN []/2^s),(0:Int),())=_;rw[show vN []=0 from rfl,MQ]
 |succ k=>
  have H:=d2.at k;obtain⟨d,x⟩:=fP H.1;have y:w (((k+1:Nat):Int)-1)=(k:Int):=by rw[aw];omega
  have K:d< 4294967296*(Y*2^s):=by omega
  have hB:d/(Y*2^s)< 4294967296:=ML (by omega)
  have Z:=qj d I;have L:=Gm d (Y*2^s);rw[y,bV,ao,fU,x];have M:aA SL (([(d:Int)],0,()),(),())=ab (.inl (([(d:Int)],()),(),())):=cP (by
   unfold SL;dsimp only;rw[bc (cr 0),au];rfl)
  rw[M,fV];unfold aeo;dsimp only;have N:Dg [(d:Int)]:=Dg.cons (by omega) (by omega) Dg.nil
  have O:vN [(d:Int)]=d:=by
   show((d:Int)+4294967296*0).toNat=d;omega
  have z:=f ((nd (X*2^s)).length);rw[mY (by simp) N,ah,O,aes I K,ah,f,e,y,kK (by simp)]
  generalize d/(Y*2^s)=Q at*;generalize d%(Y*2^s)=R at*;dsimp only;rw[nh,aw (n:=(k:Int)-1),f];obtain⟨Q2,R2,e2,g,P⟩:=at2 (y0:=nd Y) (y1:=(dN Y:Int)) (l2:=nd (X*2^s)) (V:=Y*2^s) (s:=s) (r0:=k) (R:=R) (q:=(bP (k+1) 0).set k (Q:Int)) (by omega) hw I (by omega) d2 (by omega) (by omega) (by grind) ((Dg.rep _).set (by omega) (by omega)) Z (by
   rw[HJ _ _ _ (by simp),zx _ k (by omega),x,g8 (l:=nd (X*2^s)) (by omega),g8 (l:=bP (k+1) 0) (by simp)]
   show(d:Int)+4294967296*0=((Q:Int)+4294967296*0)*_+_;grind)
  rw[gf]at g;grind
theorem atX{a b:List Int}(J:Dg a)(U:Dg b)(g:a.length<=1099511627770:=by omega)(i:b.length<=1099511627770:=by omega):KG a b=ab (nd (g9 (vN a) (vN b))):=by
 unfold KG;have Z:=Bb a;have c:=Bb b;rw[re J]at Z;rw[re U]at c;rw[mY (by omega) J,mY (by omega) U]
 obtain⟨r,e,rfl⟩:=eW (step:=SN) (λs=>∃p q:Nat,s=((nd p,nd q,()),(),())/\(nd p).length<=1099511627770/\(nd q).length<=1099511627770/\g9 p q=g9 (vN a) (vN b)) (λs=>vN s.1.2.1) (λr=>r=nd (g9 (vN a) (vN b))) (by
  rintro _ ⟨p,q,rfl,hp,I,d⟩;unfold SN;dsimp only;by_cases h:(nd q).length=0
  .right;have:=uG h;subst this;refine⟨_,rfl,?_⟩;grind
  left;have A:q≠0:=λf=>h (by rw[f];rfl)
  rw[bh,aem (eG p) (eG q) hp I,gf,gf,ax A];have hm:=qj p (aiq A);refine⟨_,rfl,⟨q,p%q,rfl,I,b8 (mQ (dj hm)) I,?_⟩,?_⟩
  .rw [<-d,MM p q,ah8 q p,MM]
  simp[gf,hm]) _ ⟨_,_,rfl,by omega,by omega,rfl⟩
 exact e
theorem at3{a b:List Int}(l:Dg a)(m:Dg b){L i:Nat}{W:Int}{o:List Int}(hi:i< a.length)(B:i+b.length< L)(q:L<=2199023255562)(u:o.length=L)(v:Dg o)(x:∀j,i+b.length<=j->o.getD j 0=0)(y:wv o L=W):
  ∃r,aA (SP a b (((i:Int),()),(),o,())) ((0,0,()),(),o,())=ab r/\∃I,r=.inl ((((i+1:Nat):Int),()),(),I,())/\I.length=L/\Dg I/\(∀j,i+1+b.length<=j->I.getD j 0=0)/\wv I L=W+a.getD i 0*dv b*4294967296^i:=by
 have e:=l.at i;refine eW (λs=>∃(c:Int) (k:Nat) (p:List Int),s=((c,(k:Int),()),(),p,())/\k<=b.length/\p.length=L/\Dg p/\0<=c/\c< 4294967296/\(∀j,i+b.length<=j->p.getD j 0=0)/\wv p L+c*4294967296^(i+k)=W+a.getD i 0*wv b k*4294967296^i) (λs=>((b.length:Int)-s.1.2.1).toNat) _ ?_ _ ⟨0,0,o,rfl,by omega,u,v,by omega,by omega,x,by rw[y,ik,show wv b 0=0 from rfl,Vj,ik]⟩
 rintro _ ⟨c,k,p,rfl,C,hp,A,J,U,Z,d⟩;unfold SP;dsimp only;have f:w ((i:Int)+(k:Int))=((i+k:Nat):Int):=by rw[aw];rfl
 by_cases h:k< b.length
 .left;have g:=m.at k;have D:=A.at (i+k);have hm:=Aj e.1 e.2 g.1 g.2;rw[bh,ao,fU hi,fU h,f,kK,kK,cU];rw[bO (n:=a.getD i 0),bO (n:=b.getD k 0),bO (n:=p.getD (i+k) 0),bO (n:=a.getD i 0*b.getD k 0),bO (n:=a.getD i 0*b.getD k 0+_),bO (n:=_+c),kz,jC,aw];generalize E:a.getD i 0*b.getD k 0+p.getD (i+k) 0+c=t;refine⟨_,rfl,⟨_,k+1,_,rfl,by omega,by grind,A.set (by omega) (by omega),by omega,by omega,λj z=>?_,?_⟩,?_⟩
  .grind
  .rw [Bv _ _ _ (by omega) _ (by omega)]
   show _+t/4294967296*4294967296^(i+k+1)=_;show _=W+a.getD i 0*(wv b k+b.getD k 0*4294967296^k)*4294967296^i;grind
  grind
 right;obtain rfl:k=b.length:=by omega
 rw[bc,au,f,kK,cU,nh (n:=c) J U,aw];refine⟨_,rfl,_,rfl,by grind,A.set J U,λj z=>?_,?_⟩
 .rw [lQ _ _ _ _,ax (by omega)]
  grind
 rw[Bv _ _ _ (by omega) _ (by omega),Z (i+b.length) (aL _),Vl,d,da _ _ (aL _)]
theorem atY{a b:List Int}(I:Dg a)(J:Dg b)(m:a.length<=1099511627774:=by omega)(p:b.length<=1099511627774:=by omega):KI a b=ab (nd (vN a*vN b)):=by
 unfold KI;have hw:w (w ((a.length)+(b.length))+1)=((a.length+b.length+1:Nat)):=by
  rw[aw (n:=(a.length)+_),aw];omega
 rw[hw,cS (by simp(disch:=omega) only [nk])]
 obtain⟨r,e,rfl⟩:=eW (step:=SQ a b)
  (λs=>∃(i:Nat) (o:List Int),s=(((i:Int),()),(),o,())/\i<=a.length/\o.length=a.length+b.length+1/\Dg o/\(∀j,i+b.length<=j->o.getD j 0=0)/\wv o _=wv a i*dv b) (λs=>((a.length)-s.1.1).toNat) (λr=>r=nd (vN a*vN b)) (by
  rintro _ ⟨i,o,rfl,hi,Z,A,c,U⟩;unfold SQ;dsimp only;by_cases h:i< a.length
  .left;rw[bh];obtain⟨r,e,d,rfl,f,g,k,q⟩:=at3 I J (L:=a.length+b.length+1) (i:=i) (o:=o) h (by omega) (by omega) Z A c U
   rw[e];refine⟨_,rfl,⟨i+1,d,rfl,by omega,f,g,k,?_⟩,?_⟩
   .show _=(wv a i+a.getD i 0*4294967296^i)*dv b;grind
   grind
  right;obtain rfl:i=a.length:=by omega
  rw[bc,mY (by omega) A,ah]
  refine⟨_,rfl,?_⟩;congr 1;have l:=dy A;rw[<-da o (a.length+b.length+1) (by omega),U,da _ _ (aL _),<-dy I,<-dy J]at l
  omega) _ ⟨0,_,rfl,by omega,jj,Dg.rep _,λj _=>by
    grind,by
    rw[show wv a 0=0 from rfl,da _ _ (by simp)]
    simp[OG]⟩
 exact e
end Go.Proofs.YtohdkalmpfmcmaaGreatDoor
end
