/- A part of the proof. -/
import Derived.Test.YtceibfdaacdjlaaGreatDoorT
import Derived.KernelRfl
set_option linter.all false
open Bool renaming and_eq_true->aM,and_true->tH,false->af,not_false->eS,not_true->bZ,true->ag
open Go.IntKind renaming bits->tK,signed->tL,wrap->tM
open Int renaming add_mul->fW,add_zero->iK,ediv_lt_of_lt_mul->SC,ediv_nonneg->Ep,emod_lt_of_pos->Er,emod_nonneg->KL,eq_ofNat_of_zero_le->ix,fdiv_eq_ediv_of_nonneg->oG,le_of_lt->gU,le_refl->Es,lt_of_mul_lt_mul_right->SD,lt_or_le->l7,mul_assoc->oH,mul_comm->wU,mul_ediv_add_emod->SE,mul_le_mul->tP,mul_le_mul_of_nonneg_left->wV,mul_le_mul_of_nonneg_right->iy,mul_nonneg->rG,mul_right_comm->wW,mul_zero->KN,natCast_add->KO,natCast_ediv->Eu,natCast_emod->An,natCast_mul->kj,natCast_pow->KP,ofNat->aC,one_mul->l8,pow_add->Ev,pow_succ->adt,sub_mul->oI,sub_zero->SF,tdiv_eq_ediv_of_nonneg->KQ,tdiv_eq_zero_of_lt->Ey,tmod_eq_emod_of_nonneg->adv,tmod_eq_of_lt->KR,toNat_natCast->db,zero_emod->adw,zero_mul->gy
open List renaming all_eq_true->l9,drop_eq_getElem_cons->eF,drop_of_length_le->eM,drop_zero->jw,getD_eq_getElem?_getD->oJ,getElem?_eq_getElem->hJ,getElem?_eq_none->jO,length_drop->oK,length_eq_zero_iff->w8,length_replicate->gV,length_set->hV,length_take->gz,mem_append->cB,replicate->bT,take->ba,take_length->SJ
open Nat renaming add_sub_cancel->EI,ble->bp,div_add_mod->EK,div_eq_of_lt->Av,div_lt_of_lt_mul->KU,div_one->SK,gcd->gD,gcd_comm->KV,gcd_rec->adW,le_mul_of_pos_right->adX,le_of_lt->cX,le_refl->aJ,le_trans->bU,log2_lt->adZ,lt_or_ge->km,min_eq_left->mi,mod_eq_of_lt->xb,mod_lt->nT,mul_add_div->EO,mul_add_mod->SM,mul_comm->mR,mul_div_cancel->ad6,mul_div_mul_right->ad7,mul_le_mul_right->dM,mul_lt_mul_of_pos_right->ad8,mul_mod_mul_right->KY,mul_pos->ad9,or_comm->aeb,pos_of_ne_zero->aec,pow_add->oM,pow_le_pow_right->rH,pow_mul->SP,pow_pos->mj,pow_zero->aed,shiftLeft_add_eq_or_of_lt->aee,shiftLeft_eq->aef,sub_self->K0,zero_div->K1
open Option renaming bind_some->ah,some->ab
open Sum renaming inl->aU,inr->bg
noncomputable section
namespace Go.Nt
open Go.As
def dv:List Int->Int
 |[]=>0
 |d::l=>d+4294967296*dv l
def Dg(l:List Int):Prop:=∀d∈l,0<=d/\d< 4294967296
def Nm(l:List Int):Prop:=l.getLast?≠ab 0
theorem Dg.nil:Dg []:=λ_ h=>by cases h
theorem Dg.cons{d:Int}{l:List Int}(I:0<=d)(h1:d< 4294967296)(h:Dg l):Dg (d::l):=λx A=>by
 rcases List.mem_cons.1 A with rfl|A
 .omega
 .exact h x A
theorem Dg.head{d:Int}{l:List Int}(h:Dg (d::l)):0<=d/\d< 4294967296:=h d (List.mem_cons_self ..)
theorem Dg.tail{d:Int}{l:List Int}(h:Dg (d::l)):Dg l:=λx A=>h x (List.mem_cons_of_mem _ A)
theorem U3:∀{l:List Int},Dg l->0<=dv l
 |[],_=>Es _
 |d::l,h=>by
  have h1:=U3 h.tail;have h2:=h.head;show 0<=d+4294967296*dv l;omega
theorem Nm.nil:Nm []:=by simp[Nm]
theorem Nm.tail{d:Int}{l:List Int}(h:Nm (d::l)):Nm l:=by
 cases l with
 |nil=>exact Nm.nil
 |cons e l=>trivial
theorem FP:∀{l:List Int},Dg l->Nm l->dv l=0->l=[]
 |[],_,_,_=>rfl
 |d::l,h,A,e=>by
  have h2:=h.head;have e:d+4294967296*dv l=0:=e;have I:=FP h.tail A.tail (by omega)
  subst I;have:d=0:=by omega
  subst this;trivial
theorem U2:∀{a b:List Int},Dg a->Dg b->Nm a->Nm b->dv a=dv b->a=b
 |[],b,_,A,_,nb,e=>(FP A nb e.symm).symm
 |a,[],I,_,na,_,e=>FP I na e
 |x::a,y::b,I,A,na,nb,e=>by
  have h1:=I.head;have h2:=A.head;have e:x+4294967296*dv a=y+4294967296*dv b:=e;have h3:dv a=dv b:=by omega
  have J:x=y:=by omega
  rw[J,U2 I.tail A.tail na.tail nb.tail h3]
def wv(l:List Int):Nat->Int
 |0=>0
 |n+1=>wv l n+l.getD n 0*4294967296^n
theorem R1(d:Int)(l:List Int):∀n,wv (d::l) (n+1)=d+4294967296*wv l n
 |0=>by simp[wv]
 |n+1=>by
  show wv (d::l) (n+1)+(d::l).getD (n+1) 0*4294967296^(n+1)=d+4294967296*(wv l n+l.getD n 0*4294967296^n);rw[R1 d l n,List.getD_cons_succ,adt,<-oH];omega
theorem cM:∀(l:List Int) (n:Nat),l.length<=n->wv l n=dv l
 |[],n,_=>by
  induction n with
  |zero=>rfl
  |succ n ih=>
   show wv [] n+([]).getD n 0*4294967296^n=0;rw[ih (by simp)];simp[dv]
 |d::l,0,h=>by trivial
 |d::l,n+1,h=>by
  rw[R1,cM l n (by simpa using h)];rfl
theorem Kl(l:List Int)(i:Nat)(x:Int):∀n,n<=i->wv (l.set i x) n=wv l n
 |0,_=>rfl
 |n+1,h=>by
  show wv (l.set i x) n+(l.set i x).getD n 0*_=wv l n+l.getD n 0*_;rw[Kl l i x n (by omega),oJ,List.getElem?_set,az (by omega),<-oJ]
theorem gS(l:List Int)(i:Nat)(x:Int)(h:i< l.length):(l.set i x).getD i 0=x:=by
 grind
theorem pT(l:List Int)(i:Nat)(x:Int)(h:i< l.length):wv (l.set i x) (i+1)=wv l i+x*4294967296^i:=by
 show wv (l.set i x) i+(l.set i x).getD i 0*_=_;rw[Kl l i x i (aJ _),gS l i x h]
theorem pw(i:Nat):(4294967296:Int)^(i+1)=4294967296^i*4294967296:=adt ..
theorem iS(i:Nat):(0:Int)< 4294967296^i:=Int.pow_pos (by omega)
theorem carry{t o c P:Int}(h:t=o+c*4294967296):t*P=o*P+c*(P*4294967296):=by
 grind
theorem Dg.set{l:List Int}(h:Dg l){i:Nat}{x:Int}(I:0<=x)(h1:x< 4294967296):Dg (l.set i x):=λy A=>by
 rcases List.mem_or_eq_of_mem_set A with A|rfl
 .exact h y A
 omega
theorem Dg.rep(n:Nat):Dg (bT n 0):=λy A=>by
 grind
theorem Dg.at{l:List Int}(h:Dg l)(i:Nat):0<=l.getD i 0/\l.getD i 0< 4294967296:=by
 rw[oJ];cases e:l[i]? with
 |none=>trivial
 |some x=>exact h x (List.mem_of_getElem? e)
def pf:Nat->Nat->List Int
 |0,_=>[]
 |f+1,n=>if n=0 then[]else((n%4294967296:Nat):Int)::pf f (n/4294967296)
def nd(n:Nat):List Int:=pf n n
theorem Po:∀f n,n<=f->dv (pf f n)=(n:Int)
 |0,n,h=>by
  have:n=0:=by omega
  subst this;rfl
 |f+1,n,h=>by
  show dv (if n=0 then[]else((n%4294967296))::pf f (n/4294967296))=_;split
  .rename_i e;subst e;rfl
  .show ((n%4294967296))+4294967296*dv (pf f (n/4294967296))=_;rw[Po f _ (by omega)]
   omega
theorem YS:∀f n,Dg (pf f n)
 |0,_=>Dg.nil
 |f+1,n=>by
  show Dg (if n=0 then[]else((n%4294967296))::pf f (n/4294967296));split
  .exact Dg.nil
  .exact Dg.cons (by omega) (by omega) (YS f _)
theorem YT:∀f n,n<=f->Nm (pf f n)
 |0,_,_=>Nm.nil
 |f+1,n,h=>by
  show Nm (if n=0 then[]else((n%4294967296))::pf f (n/4294967296));split
  .exact Nm.nil
  .have ih:=YT f (n/4294967296) (by omega)
   have A:=Po f (n/4294967296) (by omega)
   generalize pf f (n/4294967296)=l at ih A;cases l with
   |nil=>
    have A:(0)=((n/4294967296):Int):=A;grind[Nm]
   |cons d l=>
    trivial
theorem nn(n:Nat):dv (nd n)=(n:Int):=Po n n (aJ _)
theorem dO(n:Nat):Dg (nd n):=YS n n
theorem vi(n:Nat):Nm (nd n):=YT n n (aJ _)
def vN(l:List Int):Nat:=(dv l).toNat
theorem dj{l:List Int}(h:Dg l):((vN l:Nat):Int)=dv l:=by
 have:=U3 h;grind[vN]
theorem YV{l:List Int}(h:Dg l)(A:Nm l){n:Nat}(e:dv l=(n:Int)):l=nd n:=U2 h (dO n) A (vi n) (by rw[e,nn])
theorem fF(n:Nat):vN (nd n)=n:=by simp[vN,nn]
theorem amB:nd 0=[]:=rfl
theorem amA{n:Nat}:nd n=[]↔n=0:=⟨λh=>by
 have:=nn n;rw[h]at this;have:(0:Int)=(n):=this;omega,λh=>by subst h;rfl⟩
theorem Mq(a b:List Int):dv (a++b)=dv a+4294967296^a.length*dv b:=by
 induction a with
 |nil=>simp[dv]
 |cons d l ih=>
  show d+4294967296*dv (l++b)=d+4294967296*dv l+4294967296^(l.length+1)*dv b;grind
theorem agV(l:List Int):∀n,n<=l.length->(∀i,n<=i->i< l.length->l.getD i 0=0)->dv (l.take n)=dv l:=by
 induction l with
 |nil=>simp
 |cons d l ih=>
  intro n I A;cases n with
  |zero=>
   have J:=A 0 (by omega) (by simp)
   have:dv l=0:=by
    have:=ih 0 (by omega) λi _ hi=>by
     have:=A (i+1) (by omega) (by simpa using hi)
     trivial
    rw[<-this];rfl
   show(0)=d+4294967296*dv l;grind
  |succ n=>
   show d+4294967296*dv (l.take n)=d+4294967296*dv l;rw[ih n (by simpa using I) λi h1 h2=>by
    have:=A (i+1) (by omega) (by simpa using h2)
    trivial]
theorem aeL{l:List Int}{n:Nat}(A:n<=l.length)(h:n=0∨l.getD (n-1) 0≠0):Nm (l.take n):=by
 unfold Nm;grind
theorem Dg.take{l:List Int}(h:Dg l)(n:Nat):Dg (l.take n):=λx A=>h x (List.mem_of_mem_take A)
theorem Mr:∀n,dv (bT n 0)=0
 |0=>rfl
 |n+1=>by
  show 0+4294967296*dv (bT n 0)=0;rw[Mr n];rfl
theorem dA{l:List Int}(h:Dg l):∀n,0<=wv l n/\wv l n< 4294967296^n
 |0=>by simp[wv]
 |n+1=>by
  have h1:=dA h n;have h2:=h.at n;have h3:=iS n;have A:=rG h2.1 (gU h3);have I:l.getD n 0*4294967296^n<=4294967295*4294967296^n:=iy (by omega) (gU h3)
  show 0<=wv l n+l.getD n 0*4294967296^n/\wv l n+l.getD n 0*4294967296^n< 4294967296^(n+1);omega
end Go.Nt
namespace Go.Cc
open Go.As
theorem aX{x y:Int}(h:x< y):ao x y=ag:=by simp[kz,decide_eq_true,h]
theorem bb{x y:Int}(h:y<=x):ao x y=af:=by rw[kz];grind
theorem bQ{x y:Int}(h:x<=y):aj x y=ag:=by simp[oh,decide_eq_true,h]
theorem dJ{x y:Int}(h:y< x):aj x y=af:=by rw[oh];grind
theorem dF{x y:Int}(h:x=y):ai x y=ag:=by simp[dY,decide_eq_true,h]
theorem bM{x y:Int}(h:x≠y):ai x y=af:=by simp[dY,decide_eq_false,h]
theorem aqQ(n:Int):wr .u64 n=n%18446744073709551616:=by
 simp[tE,tM,tK,tL]
theorem iY(n:Int):wr .u32 n=n%4294967296:=by
 simp[tE,tM,tK,tL]
theorem ar4(n:Int):wr .u8 n=n%256:=by
 simp[tE,tM,tK,tL]
theorem l5{n:Int}(h1:0<=n)(h2:n< 4294967296):wr .u32 n=n:=by grind[iY]
theorem aO{n:Int}(h1: -9223372036854775808<=n)(h2:n< 9223372036854775808):w n=n:=aqP h1 h2
theorem pS(n:Int):wu n=n%18446744073709551616:=aqQ n
theorem bS{n:Int}(h1:0<=n)(h2:n< 18446744073709551616):wu n=n:=by grind[pS]
theorem gN{l:List Int}{i:Nat}(h:i< l.length):l[i]? =ab (l.getD i 0):=by
 grind
theorem gA{α:Type}{l:List α}{i:Nat}(h:i< l.length):l[i]? =ab l[i]:=hJ h
theorem eg{β:Type}{l:List Int}{i:Nat}{f:Int->Option β}(h:i< l.length):aL l (i:Int) f=f (l.getD i 0):=by
 unfold aL;rw[bQ (by omega),au,db,gN h,ah]
theorem jk{β:Type}{l:List Int}{i:Nat}{f:Int->Option β}(h:i< l.length):cO l (i:Int) f=f (l.getD i 0):=by
 unfold cO;rw[bQ (by omega),au,aX (by grind),au,db,gN h,ah]
theorem arF{β:Type}{l:List Int}{i:Int}{f:Int->Option β}(A:0<=i)(h:i< l.length):aL l i f=f (l.getD i.toNat 0):=by
 obtain⟨n,rfl⟩:=ix A;exact eg (by omega)
theorem arG{β:Type}{l:List Int}{i:Int}{f:Int->Option β}(A:0<=i)(h:i< l.length):cO l i f=f (l.getD i.toNat 0):=by
 obtain⟨n,rfl⟩:=ix A;exact jk (by omega)
theorem br{α β:Type}{l:List α}{i:Nat}{f:α->Option β}(h:i< l.length):aL l (i:Int) f=f l[i]:=by
 unfold aL;rw[bQ (by omega),au,db,gA h,ah]
theorem B4{α β:Type}{l:List α}{i:Nat}{f:α->Option β}(h:i< l.length):cO l (i:Int) f=f l[i]:=by
 unfold cO;rw[bQ (by omega),au,aX (by grind),au,db,gA h,ah]
theorem Bz{β:Type}{r:Option β}:aW ag r=r:=rfl
theorem arl{β:Type}{r:Option β}:aW af r=none:=rfl
theorem cE{β:Type}{c:Bool}{r:Option β}(h:c=ag):aW c r=r:=by subst h;rfl
theorem n3{β:Type}{y:Int}{r:Option β}(h:y≠0):jV y r=r:=by simp[jV,bM,h]
theorem mY{m:Option Bool}:aI ag m=m:=rfl
theorem AN{m:Option Bool}:aI af m=ab af:=rfl
theorem H8{m:Option Bool}:bl ag m=ab ag:=rfl
theorem qV{m:Option Bool}:bl af m=m:=rfl
theorem ct{a b:Bool}:aI a (ab b)=ab (a&&b):=by cases a<;>rfl
theorem cx{a b:Bool}:bl a (ab b)=ab (a||b):=by cases a<;>rfl
theorem TN{α:Type}(m:Option α):(m.bind λy=>ab y)=m:=by simp
theorem jl{σ ρ:Type}(s:σ)(k:σ->Option ρ):cg (aP s) k=k s:=rfl
theorem arH{σ ρ:Type}(r:ρ)(k:σ->Option ρ):cg (aH r) k=ab r:=rfl
theorem fo{σ ρ:Type}(s:σ)(k:σ->Option ρ):cg (ab (.inl s)) k=k s:=rfl
theorem arI{σ ρ:Type}(r:ρ)(k:σ->Option ρ):cg (ab (.inr r)) k=ab r:=rfl
theorem gb{n b:Nat}(h:n*b<=70368744177664)(h2:n<=70368744177664):bW n b=ag:=by
 simp[bW,aM,Nat.ble_eq_true_of_le,h,h2]
theorem n2{α:Type}(a b:List α):cK a b=a++b:=rfl
theorem kv(n:Int):n.fdiv 4294967296=n/4294967296:=oG n (by omega)
theorem ME(n:Int):n.fdiv 9223372036854775808=n/9223372036854775808:=oG n (by omega)
theorem pr(i:Nat):((i+1:Nat):Int)-1=(i:Int):=by omega
theorem p0(i:Nat):(0:Int)<((i+1:Nat):Int):=by omega
theorem nk:(∀x y:Int,x< y->ao x y=ag)/\(∀x y:Int,y<=x->ao x y=af)/\(∀x y:Int,x<=y->aj x y=ag)/\(∀x y:Int,y< x->aj x y=af)/\(∀x y:Int,x=y->ai x y=ag)/\(∀x y:Int,x≠y->ai x y=af)/\
  (∀n:Int,-9223372036854775808<=n->n< 9223372036854775808->w n=n)/\(∀(β:Type) (l:List Int) (i:Nat) (f:Int->Option β),i< l.length->aL l (i:Int) f=f (l.getD i 0))/\(∀(β:Type) (l:List Int) (i:Nat) (f:Int->Option β),i< l.length->cO l (i:Int) f=f (l.getD i 0))/\
  (∀(β:Type) (r:Option β),aW ag r=r)/\(∀m,aI ag m=m)/\(∀m,aI af m=ab af)/\(∀m,bl ag m=ab ag)/\(∀m,bl af m=m)/\(∀(α:Type) (a b:α),(bif ag then a else b)=a)/\(∀(α:Type) (a b:α),(bif af then a else b)=b)/\
  (∀(α β:Type) (a:α) (f:α->Option β),(ab a).bind f=f a)/\((!true)=af)/\((!false)=ag)/\(∀b,(ag&&b)=b)/\(∀b,(af&&b)=af)/\(∀b,(ag||b)=ag)/\(∀b,(af||b)=b)/\(∀n:Nat,(n:Int).toNat=n)/\(∀i:Nat,((i+1:Nat):Int)-1=(i:Int))/\
  (∀(σ ρ:Type) (s:σ) (k:σ->Option ρ),cg (ab (aU s)) k=k s)/\(∀(σ ρ:Type) (s:σ),(aP s:Option (σ⊕ρ))=ab (aU s))/\(∀(σ ρ:Type) (s:ρ),(aH s:Option (σ⊕ρ))=ab (bg s))/\(∀n b:Nat,n*b<=70368744177664->n<=70368744177664->bW n b=ag):=
 ⟨λ_ _ h=>aX h,λ_ _ h=>bb h,λ_ _ h=>bQ h,λ_ _ h=>dJ h,λ_ _ h=>dF h,λ_ _ h=>bM h,λ_ h1 h2=>aO h1 h2,λ_ _ _ _ h=>eg h,λ_ _ _ _ h=>jk h,λ_ _=>rfl,λ_=>rfl,λ_=>rfl,λ_=>rfl,λ_=>rfl,λ_ _ _=>rfl,λ_ _ _=>rfl,λ_ _ _ _=>rfl,rfl,rfl,λ_=>Bool.true_and _,λ_=>Bool.false_and _,λ_=>Bool.true_or _,λ_=>Bool.false_or _,λ_=>db _,pr,λ_ _ _ _=>rfl,λ_ _ _=>rfl,λ_ _ _=>rfl,λ_ _ h1 h2=>gb h1 h2⟩
end Go.Cc
namespace Go.Nt
section
open Go.As Go.Cc
def tl(l:List Int)
 |0=>0
 |n+1=>if l.getD n 0=0 then tl l n else n+1
theorem gv l:∀n,tl l n<=n
 |0=>aJ _
 |n+1=>by
  show(if l.getD n 0=0 then tl l n else n+1)<=n+1;split
  .have:=gv l n;omega
  .omega
theorem RH l:∀n i,tl l n<=i->i< n->l.getD i 0=0
 |0,i,_,h=>by omega
 |n+1,i,h1,h2=>by
  have h1:(if l.getD n 0=0 then tl l n else n+1)<=i:=h1;split at h1
  .by_cases e:i=n
   .rw [e];omega
   .exact RH l n i h1 (by omega)
  .omega
theorem ab0 l:∀n,tl l n=0∨l.getD (tl l n-1) 0≠0
 |0=>.inl rfl
 |n+1=>by
  show(if l.getD n 0=0 then tl l n else n+1)=0∨l.getD ((if l.getD n 0=0 then tl l n else n+1)-1) 0≠0;split
  .exact ab0 l n
  grind
def sh(l:List Int):=l.take (tl l l.length)
theorem gu l:dv (sh l)=dv l:=agV l _ (gv l _) λi h1 h2=>RH l _ i h1 h2
theorem mM l:Nm (sh l):=aeL (gv l _) (ab0 l _)
theorem ke{l:List Int}(h:Dg l):Dg (sh l):=h.take _
theorem nE l:(sh l).length=tl l l.length:=by
 unfold sh;rw[gz];exact mi (gv l _)
theorem zO l:(sh l).length<=l.length:=by rw[nE];exact gv l _
theorem pK{l:List Int}(h:Dg l):sh l=nd (vN l):=YV (ke h) (mM l) (by rw[gu,dj h])
theorem zP{l:List Int}(h:Dg l){n:Nat}(e:dv l=(n)):sh l=nd n:=YV (ke h) (mM l) (by rw[gu,e])
theorem D1 l i:(sh l).getD i 0=l.getD i 0:=by
 unfold sh;rw[oJ,List.getElem?_take];split
 .rfl
 .by_cases hi:i< l.length
  .rw [RH l _ i (by omega) hi];rfl
  grind
theorem tF l:∀n,wv l n=wv (sh l) n
 |0=>rfl
 |n+1=>by
  show wv l n+l.getD n 0*_=wv _ n+(sh l).getD n 0*_;rw[tF l n,D1]
def trA{ρ:Type}(l:List Int)(s:(Int×Unit)×Unit×Unit):Option ((Int×Unit)×Unit×Unit⊕(Int×Unit)×Unit×Unit⊕ρ):=
 (aI (ao 0 s.1.1) (aL l (w (s.1.1-1)) λA=>ab (ai A 0))).bind λI=>bif I then aP ((w (s.1.1-1),()),(),())else aH (aU ((s.1.1,()),(),()))
def trB{ρ:Type}(l:List Int)(s:(Int×Unit)×Unit×Unit):Option ((Int×Unit)×Unit×Unit⊕(Int×Unit)×Unit×Unit⊕ρ):=
 (aI (ao 0 s.1.1) (cO l (w (s.1.1-1)) λA=>ab (ai A 0))).bind λI=>bif I then aP ((w (s.1.1-1),()),(),())else aH (aU ((s.1.1,()),(),()))
theorem kg{ρ:Type}(step:(Int×Unit)×Unit×Unit->Option ((Int×Unit)×Unit×Unit⊕(Int×Unit)×Unit×Unit⊕ρ))(l:List Int)
  (I:step ((0,()),(),())=ab (.inr (.inl ((0,()),(),()))))
  (h1:∀i,i< l.length->step ((((i+1:Nat)),()),(),())=bif ai (l.getD i 0) 0 then ab (.inl (((i),()),(),()))else ab (.inr (.inl ((((i+1:Nat)),()),(),())))):
  ∀n,n<=l.length->aF step (((n),()),(),())=ab (.inl (((tl l n),()),(),()))
 |0,_=>bD I
 |n+1,h=>by
  have e:=h1 n (by omega)
  by_cases A:l.getD n 0=0
  .rw [dF A]at e;rw[cD e,kg _ l I h1 n (by omega)]
   show _=ab (aU ((((if l.getD n 0=0 then tl l n else n+1:Nat):Int),()),(),()));rw[aK A]
  .rw [bM A]at e;rw[bD e];show _=ab (aU ((((if l.getD n 0=0 then tl l n else n+1:Nat):Int),()),(),()));rw[az A]
theorem nI{ρ:Type} l(h:l.length<=4398046511104):aF (trA (ρ:=ρ) l) (((l.length),()),(),())=ab (.inl (((tl l l.length),()),(),())):=by
 refine kg _ l ?_ (λi hi=>?_) _ (aJ _)
 .rfl
 .unfold trA;simp(disch:=omega) only [nk]
theorem pO{ρ:Type} l(h:l.length<=4398046511104):aF (trB (ρ:=ρ) l) (((l.length),()),(),())=ab (.inl (((tl l l.length),()),(),())):=by
 refine kg _ l ?_ (λi hi=>?_) _ (aJ _)
 .rfl
 .unfold trB;simp(disch:=omega) only [nk]
theorem ia{α:Type}{n m:Nat}(h:n<=m)(x:Option α):aW (aj 0 (n)&&aj (n) (m)) (aW (aj 0 (n)&&aj (n) (n)) (aW (ai (n) (n)) x))=x:=by
 grind[nk]
end
theorem ahL{q A I vr r t J ur P:Int}(Z:0< P)(a:0<=q)(U:0<=vr)(b:ur< P)(c:q*A+r=t)(h:r*4294967296+J< q*I):
  (t*4294967296+J)*P+ur< q*((A*4294967296+I)*P+vr):=by
 have h1:t*4294967296+J+1<=q*(A*4294967296+I):=by
  grind
 have h2:=iy h1 (gU Z);have h3:=rG a U;grind
theorem ahN{q A I vr r t U ur P:Int}(Z:0< P)(f:0<=q)(a:q< 4294967296)(b:0< A)(c:0<=I)(J:0<=vr)(d:vr< P)(e:0<=ur)(g:q*A+r=t)(h:q*I<=r*4294967296+U):
  (q-1)*((A*4294967296+I)*P+vr)<=(t*4294967296+U)*P+ur:=by
 have h1:q*(A*4294967296+I)<=t*4294967296+U:=by
  grind
 have h2:=iy h1 (gU Z);have h3:q*vr<=4294967296*P:=tP (by omega) (by omega) J (by omega)
 have i:4294967296*P<=(A*4294967296+I)*P:=iy (by omega) (gU Z)
 grind
theorem ahK{q A r J:Int}(Z:0<=q)(U:q< 4294967296)(I:0<=A)(a:A< 4294967296)(b:0<=J)(c:4294967296<=r):q*A<=r*4294967296+J:=by
 have:q*A<=4294967295*4294967295:=tP (by omega) (by omega) I (by omega)
 omega
theorem ahM{v1 v2 vr t u2 ur P:Int}(U:0< P)(A:0< v1)(I:0<=v2)(J:0<=vr)(Z:0<=t)(c:u2< 4294967296)(d:ur< P):
  (t*4294967296+u2)*P+ur<(t/v1+1)*((v1*4294967296+v2)*P+vr):=by
 have e:0<=t/v1:=Ep Z (by omega)
 have h1:t+1<=(t/v1+1)*v1:=by
  have a:=SE t v1;have b:=Er t A;grind
 have h2:t*4294967296+u2+1<=(t/v1+1)*(v1*4294967296+v2):=by
  have:=rG (by omega) I
  grind
 have h3:=iy h2 (gU U);have f:=rG (by omega) J
 grind
theorem aqe{lo I J x y q c A P:Int}(h:lo+q*I=J+(c+A)*P):
  lo+(x-(c+q*y)%4294967296-A)%4294967296*P+q*(I+y*P)=J+x*P+((c+q*y)/4294967296+ -((x-(c+q*y)%4294967296-A)/4294967296))*(P*4294967296):=by
 grind
theorem aq4{lo A I x y c P:Int}(h:lo+c*P=I+A):
  lo+(c+(x+y))%4294967296*P+(c+(x+y))/4294967296*(P*4294967296)=I+x*P+(A+y*P):=by
 grind
end Go.Nt
namespace Go.Proofs.YtceibfdaacdjlaaGreatDoor
open Go.As Go.Nt Go.Cc
theorem Zp{a:List Int}(h:a.length<=1099511627776):qT a=ab (sh a):=by
 have h1:=gv a a.length;unfold qT;rw[show aF (Zn a) _=_ from nI a (by omega),fo]
 unfold Zo;rw[ia h1,cE (gb (by grind) (by grind))]
 rfl
theorem HT{a:List Int}(h:a.length<=1099511627776)(A:Dg a):qT a=ab (nd (vN a)):=by rw[Zp h,pK A]
theorem Gi{n:Int}(A:0<=n)(h1:n< 18446744073709551616):sf n=ab (nd n.toNat):=by
 unfold sf;rw[kv,iY,iY,Int.emod_eq_of_lt (a:=n/4294967296) (by omega) (by omega),Zp (by simp),ah,zP (n:=n.toNat)]
 .exact Dg.cons (by omega) (by omega) (Dg.cons (by omega) (by omega) Dg.nil)
 .show n%4294967296+4294967296*(n/4294967296+4294967296*0)=_;omega
theorem xO{a:List Int}(h:Dg a)(i:Nat):digit a i=ab (a.getD i 0):=by
 unfold digit;have A:=h.at i;by_cases hi:i< a.length
 .rw [aX (by omega),au,eg hi,bS (by omega) (by omega)]
 .rw [bb (by omega),oJ,jO (by omega)];rfl
theorem R3(a b:List Int):∀{n i:Nat},i<=n->(∀j,i<=j->j< n->a.getD j 0=b.getD j 0)->wv a n-wv b n=wv a i-wv b i
 |0,i,h,_=>by
  grind
 |n+1,i,h,he=>by
  by_cases hi:i=n+1
  .rw [hi]
  .have ih:=R3 a b (n:=n) (i:=i) (by omega) λj h1 h2=>he j h1 (by omega)
   show wv a n+a.getD n 0*4294967296^n-(wv b n+b.getD n 0*4294967296^n)=_;grind
theorem Kk{a b:List Int}(A:Dg a)(I:Dg b){i:Nat}(h:a.getD i 0< b.getD i 0):wv a (i+1)< wv b (i+1):=by
 have h1:=dA A i;have h2:=dA I i;have h3:(a.getD i 0+1)*4294967296^i<=b.getD i 0*4294967296^i:=iy (by omega) (gU (iS i))
 rw[fW]at h3;show wv a i+a.getD i 0*4294967296^i< wv b i+b.getD i 0*4294967296^i;omega
theorem xV{a b:List Int}(I:Dg a)(A:Dg b)(nb:Nm b)(h:a.length< b.length):dv a< dv b:=by
 obtain⟨n,J⟩:∃n,b.length=n+1:=⟨b.length-1,by omega⟩
 have h1:=dA I n;rw[cM a n (by omega)]at h1
 have h2:=dA A n;have h3:=A.at n;have U:b.getD n 0≠0:=λe=>nb (by
  grind)
 have Z:1*4294967296^n<=b.getD n 0*4294967296^n:=iy (by omega) (gU (iS n))
 rw[<-cM b (n+1) (by omega)]
 show _< wv b n+b.getD n 0*4294967296^n;omega
def fX(x y:Nat):Int:=if x< y then -1 else if y< x then 1 else 0
theorem Uo{a b:List Int}(A:Dg a)(I:Dg b)(l:a.length<=1099511627776)(m:b.length<=1099511627776):A8 a b=ab (fX (vN a) (vN b)):=by
 have h1:=gv a a.length;have h2:=gv b b.length;have n:=dj A;have o:=dj I;have p:=nE a;have q:=nE b;unfold A8;rw[show aF (Uk a) _=_ from nI a (by omega),fo]
 unfold Un;rw[ia h1,show aF (Ul b) _=_ from nI b (by omega),fo]
 unfold Um;rw[ia h2];simp only[db];show(bif !ai ((sh a).length:Int) ((sh b).length:Int)then bif ao ((sh a).length:Int) ((sh b).length:Int)then ab (-1)else ab 1
  else aF (A9 a b ((((tl a a.length:Nat):Int),()),(),()) ((((tl b b.length:Nat):Int),()),(),())) ((w (((sh a).length:Int)-1),()),(),()))=_
 by_cases he:(sh a).length=(sh b).length
 .simp (disch:=omega) only [nk];obtain⟨r,e,rfl⟩:=eh (step:=A9 a b ((((tl a a.length:Nat):Int),()),(),()) ((((tl b b.length:Nat):Int),()),(),()))
   (λs=>∃i:Nat,s=(((i:Int)-1,()),(),())/\i<=(sh a).length/\∀j,i<=j->j<(sh a).length->a.getD j 0=b.getD j 0) (λs=>(s.1.1+1).toNat) (λr=>r=fX (vN a) (vN b)) (by
   rintro _ ⟨i,rfl,hi,d⟩;have t:=R3 a b hi d;have u:wv a (sh a).length=dv a:=by
    rw[<-cM (sh a) _ (aJ _) |>.trans (gu a)]
    exact tF a _
   have v:wv b (sh a).length=dv b:=by
    rw[he,<-cM (sh b) _ (aJ _) |>.trans (gu b)]
    exact tF b _
   cases i with
   |zero=>
    right;refine⟨_,by rfl,?_⟩
    have:wv a 0=0:=rfl;have:wv b 0=0:=rfl;unfold fX;omega
   |succ i=>
    have g:A9 a b ((((tl a a.length:Nat):Int),()),(),()) ((((tl b b.length:Nat):Int),()),(),()) (((((i+1:Nat):Int)-1),()),(),())=bif ao (a.getD i 0) (b.getD i 0)then ab (bg (-1))else bif ao (b.getD i 0) (a.getD i 0)then ab (bg 1)else ab (aU (((i:Int)-1,()),(),())):=by
     unfold A9;simp only[pr,db];show(bif aj 0 (i:Int)then aL (sh a) (i:Int) λh=>aL (sh b) (i:Int) λJ=>bif ao h J then aH (-1)else aL (sh a) (i:Int) λU=>aL (sh b) (i:Int) λZ=>bif ao Z U then aH 1 else aP ((w ((i:Int)-1),()),(),())else aH 0)=_
     simp(disch:=omega) only [nk,D1]
    rw[g];by_cases c1:a.getD i 0< b.getD i 0
    .right;have:=Kk A I c1;refine⟨_,by rw[aX c1,au],?_⟩
     unfold fX;rw[aK (by omega)]
    .rw [bb (by omega),ax]
     by_cases f:b.getD i 0< a.getD i 0
     .right;have:=Kk I A f;refine⟨_,by rw[aX f,au],?_⟩
      unfold fX;rw[az (by omega),aK (by omega)]
     .left;rw[bb (by omega),ax]
      refine⟨_,rfl,⟨i,rfl,by omega,λj h1 h2=>?_⟩,?_⟩
      .by_cases c:j=i
       .subst c;omega
       .exact d j (by omega) h2
      .show ((i:Int)-1+1).toNat<(((i+1:Nat):Int)-1+1).toNat;omega) (((((sh a).length:Nat):Int)-1,()),(),()) ⟨(sh a).length,rfl,aJ _,λj h1 h2=>by omega⟩
  exact e
 .rw [bM (by omega),eS,au]
  have x:=gu a;have y:=gu b;by_cases k:(sh a).length<(sh b).length
  .have:=xV (ke A) (ke I) (mM b) k;rw[aX (by omega),au]
   unfold fX;rw[aK (by omega)]
  .have:=xV (ke I) (ke A) (mM a) (by omega)
   rw[bb (by omega),ax]
   unfold fX;rw[az (by omega),aK (by omega)]
theorem aeQ{A I wb x y c P:Int}(h:A+c*P=I+wb):A+(c+(x+y))%4294967296*P+(c+(x+y))/4294967296*(P*4294967296)=I+x*P+(wb+y*P):=by
 grind
theorem Lb{a b:List Int}(I:Dg a)(J:Dg b)(d:a.length<=1099511627776)(f:b.length<=1099511627776):AF a b=ab (nd (vN a+vN b)):=by
 have v:=dj I;have x:=dj J;obtain⟨m,hm,g,A⟩:∃m:Nat,(bif aj (a.length:Int) (b.length:Int)then(b.length:Int)else(a.length:Int))=(m:Int)/\a.length<=m/\b.length<=m/\m<=1099511627776:=by
  by_cases h:a.length<=b.length
  .exact ⟨b.length,by rw[bQ (by omega)];rfl,h,aJ _,f⟩
  .exact ⟨a.length,by rw[dJ (by omega)];rfl,aJ _,by omega,d⟩
 have hw:(w ((bif aj (a.length:Int) (b.length:Int)then(b.length:Int)else(a.length:Int))+1))=((m+1:Nat):Int):=by
  rw[hm,aO (by omega) (by omega)];rfl
 have j:=A.1;have k:=A.2;unfold AF;simp only[hw,db];rw[cE (by grind[nk])]
 obtain⟨r,e,rfl⟩:=eh (step:=La a b)
  (λs=>∃(c:Int) (i:Nat) (o:List Int),s=((c,(i:Int),()),(),o,())/\i<=m+1/\o.length=m+1/\Dg o/\0<=c/\c<=1/\wv o i+c*4294967296^i=wv a i+wv b i) (λs=>(((m+1:Nat):Int)-s.1.2.1).toNat) (λr=>r=nd (vN a+vN b)) (by
  rintro _ ⟨c,i,o,rfl,hi,y,U,l,p,Z⟩;unfold La;simp only[hw,db,gV];have z:=I.at i;have B:=J.at i;by_cases h:i< m+1
  .left;rw[aX (by omega),au,xO I,ah,xO J,ah,jk (by omega)]
   rw[bS (n:=a.getD i 0+b.getD i 0) (by omega) (by omega),bS (n:=c+(a.getD i 0+b.getD i 0)) (by omega) (by omega),kv,iY,aO (by omega) (by omega)]
   refine⟨_,rfl,⟨_,i+1,_,rfl,by omega,by grind,U.set (by omega) (by omega),by omega,by omega,?_⟩,?_⟩
   .rw [pT o i _ (by omega),pw]
    exact aeQ Z
   grind
  .right;obtain rfl:i=m+1:=by omega
   rw[bb (by omega),ax]
   rw[show aF (Te ((c,((m+1:Nat):Int),()),(),o,())) _=_ from pO o (by omega),fo]
   unfold Tf;simp only;have h1:=gv o o.length;rw[ia h1,ah,db];refine⟨_,rfl,?_⟩;have C:=cM a (m+1) (by omega)
   have D:=cM b (m+1) (by omega)
   have E:=cM o (m+1) (by omega)
   have q:=dA I m;have t:=dA J m;rw[cM a m (by omega)]at q
   rw[cM b m (by omega)]at t
   have F:=dA U (m+1);have u:c=0:=by
    grind
   subst u;rw[gy]at Z;exact zP U (by omega)) ((0,0,()),(),bT (m+1) 0,()) ⟨0,0,_,rfl,by omega,gV,Dg.rep _,by omega,by omega,rfl⟩
 exact e
theorem ap7{A I wb x y c P:Int}(h:A+wb=I+c*P):A+(x-y-c)%4294967296*P+(wb+y*P)=I+x*P+ -((x-y-c)/4294967296)*(P*4294967296):=by
 grind
theorem J7{a b:List Int}(I:Dg a)(J:Dg b)(j:a.length<=1099511627776)(k:b.length<=1099511627776):D3 a b=ab (if vN a< vN b then([],af,())else(nd (vN a-vN b),ag,())):=by
 have v:=dj I;have w:=dj J;have h1:=gv a a.length;have x:=nE a;unfold D3;rw[Uo I J j k,ah];by_cases A:vN a< vN b
 .rw [aK A];unfold fX;rw[aK A,aX (by omega),au]
 .rw [az A];have U:ao (fX (vN a) (vN b)) 0=af:=by
   unfold fX;rw[az A];split
   all_goals rfl
  rw[U,ax,show aF (abR a) _=_ from nI a (by omega),fo]
  unfold abU;rw[ia h1];simp only[db];show aW (aj ((sh a).length:Int) ((sh a).length:Int)&&aj (((sh a).length:Int)*4) 70368744177664)
   (aF (J6 a b ((((tl a a.length:Nat):Int),()),(),())) ((0,0,()),(),bT (sh a).length 0,()))=_
  have y:=nE a;rw[cE (by grind[nk])]
  obtain⟨m,hm⟩:∃m,m=(sh a).length:=⟨_,rfl⟩;rw[<-hm];have z:wv a m=dv a:=by rw[hm,tF,cM _ _ (aJ _),gu]
  have B:wv b m=dv b:=by
   have Z:(sh b).length<=m:=by
    rcases km m (sh b).length with l|l
    .have:=xV (ke I) (ke J) (mM b) (by omega)
     grind[gu]
    omega
   rw[tF,cM _ _ Z,gu]
  obtain⟨r,e,rfl⟩:=eh (step:=J6 a b ((((tl a a.length:Nat):Int),()),(),()))
   (λs=>∃(c:Int) (i:Nat) (o:List Int),s=((c,(i:Int),()),(),o,())/\i<=m/\o.length=m/\Dg o/\0<=c/\c<=1/\wv o i+wv b i=wv a i+c*4294967296^i) (λs=>((m:Int)-s.1.2.1).toNat) (λr=>r=(nd (vN a-vN b),ag,())) (by
   rintro _ ⟨c,i,o,rfl,hi,n,d,p,q,f⟩;unfold J6;simp only[db,gV];show(∃C,(bif ao (i:Int) ((sh a).length:Int)then _ else _)=_/\_)∨∃r,(bif ao (i:Int) ((sh a).length:Int)then _ else _)=_/\_;rw[<-hm];have D:=I.at i;have E:=J.at i;by_cases h:i< m
   .left;rw[aX (by omega),au,xO I,ah,xO J,ah,jk (by omega)]
    have t:wu (wu (a.getD i 0-b.getD i 0)-c)=(a.getD i 0-b.getD i 0-c)%18446744073709551616:=by
     rw[pS,pS];omega
    have u:(a.getD i 0-b.getD i 0-c)%18446744073709551616/9223372036854775808= -((a.getD i 0-b.getD i 0-c)/4294967296):=by omega
    have g:(a.getD i 0-b.getD i 0-c)%18446744073709551616%4294967296=(a.getD i 0-b.getD i 0-c)%4294967296:=by omega
    rw[t,ME,iY,u,g,aO (by omega) (by omega)]
    refine⟨_,rfl,⟨_,i+1,_,rfl,by omega,by rw[hV];exact n,d.set (by omega) (by omega),by omega,by omega,?_⟩,?_⟩
    .rw [pT o i _ (by omega),pw]
     exact ap7 f
    .show ((m:Int)-((i:Int)+1)).toNat<((m:Int)-(i:Int)).toNat;omega
   .right;obtain rfl:i=m:=by omega
    rw[bb (by omega),ax]
    rw[show aF (abS ((c,(i:Int),()),(),o,())) _=_ from pO o (by omega),fo]
    unfold abT;simp only;have h1:=gv o o.length;rw[ia h1,ah,db];refine⟨_,rfl,?_⟩;have g:=cM o i (by omega)
    have F:=dA d i;have U:c=0:=by
     rcases l7 0 c with U|U
     .obtain rfl:c=1:=by omega
      rw[l8]at f;omega
     .omega
    subst U;rw[gy]at f;have:ba (tl o o.length) o=nd (vN a-vN b):=zP d (by omega)
    rw[this]) ((0,0,()),(),bT m 0,()) ⟨0,0,_,rfl,by omega,gV,Dg.rep _,by omega,by omega,rfl⟩
  exact e
theorem mz(l:List Int)(i:Nat)(v:Int)(j:Nat)(h:i< l.length):(l.set i v).getD j 0=if i=j then v else l.getD j 0:=by
 grind
theorem z7(l:List Int)(i:Nat)(v:Int)(h:i< l.length):∀n,i< n->wv (l.set i v) n=wv l n+(v-l.getD i 0)*4294967296^i
 |0,h=>by omega
 |n+1,A=>by
  show wv (l.set i v) n+(l.set i v).getD n 0*4294967296^n=wv l n+l.getD n 0*4294967296^n+_;rw[mz l i v n h];by_cases e:i=n
  .subst e;rw[aK rfl,Kl l i v i (aJ _),oI];omega
  .rw [az e,z7 l i v h n (by omega)]
   omega
theorem yH{x y:Int}(I:0<=x)(J:x< 4294967296)(A:0<=y)(U:y< 4294967296):0<=x*y/\x*y<=18446744065119617025:=by
 refine⟨rG I A,?_⟩;have h1:x*y<=4294967295*4294967295:=tP (by omega) (by omega) A (by omega)
 omega
theorem amv{b:List Int}(u:Dg b){L i lb:Nat}{x W:Int}{o:List Int}(J:lb=tl b b.length)(d:0<=x)(v:x< 4294967296)(G:i+lb< L)(y:L<=2199023255552)(z:o.length=L)(B:Dg o)(C:∀j,i+lb<=j->o.getD j 0=0)(D:wv o L=W):
  ∃r,aF (Pk b (((lb:Int),()),(),()) (((i:Int),()),(),o,()) x) ((0,0,()),(),o,())=ab r/\∃U,r=.inl ((((i+1:Nat):Int),()),(),U,())/\U.length=L/\Dg U/\(∀j,i+1+lb<=j->U.getD j 0=0)/\wv U L=W+x*dv b*4294967296^i:=by
 have E:ba lb b=sh b:=by rw[J];rfl
 have e:(sh b).length=lb:=by rw[J,nE]
 refine eh (λs=>∃(c:Int) (k:Nat) (p:List Int),s=((c,(k:Int),()),(),p,())/\k<=lb/\p.length=L/\Dg p/\0<=c/\c< 4294967296/\(∀j,i+lb<=j->p.getD j 0=0)/\wv p L+c*4294967296^(i+k)=W+x*wv b k*4294967296^i) (λs=>((lb:Int)-s.1.2.1).toNat) _ ?_ _ ⟨0,0,o,rfl,by omega,z,B,by omega,by omega,C,by rw[D,gy,show wv b 0=0 from rfl,KN,gy]⟩
 rintro _ ⟨c,k,p,rfl,H,hp,A,Z,a,I,f⟩;unfold Pk;simp only[db,E,e];by_cases h:k< lb
 .left;have l:=u.at k;have K:=A.at (i+k);have hm:=yH d v l.1 l.2;have g:w ((i:Int)+(k:Int))=((i+k:Nat):Int):=by rw[aO (by omega) (by omega)];rfl
  rw[aX (by omega),au,eg (by omega),D1,g,jk (by omega),jk (by omega),db]
  rw[bS (n:=x) (by omega) (by omega),bS (n:=b.getD k 0) (by omega) (by omega),bS (n:=p.getD (i+k) 0) (by omega) (by omega),bS (n:=x*b.getD k 0) (by omega) (by omega),bS (n:=x*b.getD k 0+_) (by omega) (by omega),bS (n:=c+_) (by omega) (by omega),kv,iY,aO (by omega) (by omega)]
  generalize m:c+(x*b.getD k 0+p.getD (i+k) 0)=t;refine⟨_,rfl,⟨_,k+1,_,rfl,by omega,by rw[hV];exact hp,A.set (by omega) (by omega),by omega,by omega,λj q=>?_,?_⟩,?_⟩
  .rw [mz _ _ _ _ (by omega),az (by omega)]
   exact I j q
  .rw [z7 _ _ _ (by omega) _ (by omega)]
   have h1:t*4294967296^(i+k)=t%4294967296*4294967296^(i+k)+t/4294967296*(4294967296^(i+k)*4294967296):=carry (by omega)
   show _+t/4294967296*4294967296^(i+k+1)=_;rw[pw,oI];show _=W+x*(wv b k+b.getD k 0*4294967296^k)*4294967296^i;have h2:x*(wv b k+b.getD k 0*4294967296^k)*4294967296^i=x*wv b k*4294967296^i+x*b.getD k 0*4294967296^(i+k):=by
    rw[Int.mul_add,fW,Ev,wU (4294967296^i),<-oH,<-oH]
   rw[<-m,fW,fW,m]at h1;rw[h2];omega
  .show ((lb:Int)-((k:Int)+1)).toNat<((lb:Int)-(k:Int)).toNat;omega
 .right;obtain rfl:k=lb:=by omega
  have g:w ((i:Int)+(k:Int))=((i+k:Nat):Int):=by rw[aO (by omega) (by omega)];rfl
  rw[bb (by omega),ax,g,jk (by omega),db,l5 (n:=c) Z a,aO (by omega) (by omega)]
  refine⟨_,rfl,_,rfl,by rw[hV];exact hp,A.set Z a,λj q=>?_,?_⟩
  .rw [mz _ _ _ _ (by omega),az (by omega)]
   exact I j (by omega)
  .have F:wv b k=dv b:=by rw[tF,cM _ _ (by omega),gu]
   rw[z7 _ _ _ (by omega) _ (by omega),I (i+k) (aJ _),SF,f,F]
theorem amu{a b:List Int}(U:Dg a)(Z:Dg b)(C:a.length<=1099511627776)(lb:b.length<=1099511627776):Hz a b=ab (nd (vN a*vN b)):=by
 have p:=dj U;have q:=dj Z;have h1:=gv a a.length;have h2:=gv b b.length;have c:=nE a;have t:=nE b;unfold Hz;rw[show aF (YJ a) _=_ from nI a (by omega),fo]
 unfold YO;rw[ia h1];rw[show aF (YK b) _=_ from nI b (by omega),fo]
 unfold YN;rw[ia h2];simp only[db];have hw:w (((ba (tl a a.length) a).length:Int)+((ba (tl b b.length) b).length:Int))=(((sh a).length+(sh b).length:Nat):Int):=by
  show w (((sh a).length:Int)+((sh b).length:Int))=_;rw[aO (by omega) (by omega)];rfl
 rw[hw,db,cE (by simp(disch:=omega) only [nk])]
 obtain⟨n,A⟩:∃n,n=(sh a).length:=⟨_,rfl⟩;obtain⟨m,hm⟩:∃m,m=(sh b).length:=⟨_,rfl⟩;rw[<-A,<-hm,<-c,<-t,<-A,<-hm];obtain⟨r,e,rfl⟩:=eh (step:=Pm a b (((n:Int),()),(),()) (((m:Int),()),(),()))
  (λs=>∃(i:Nat) (o:List Int),s=(((i:Int),()),(),o,())/\i<=n/\o.length=n+m/\Dg o/\(∀j,i+m<=j->o.getD j 0=0)/\wv o (n+m)=wv a i*dv b) (λs=>((n:Int)-s.1.1).toNat) (λr=>r=nd (vN a*vN b)) (by
  rintro _ ⟨i,o,rfl,hi,d,I,f,g⟩;unfold Pm;have J:ba n a=sh a:=by rw[A,c];rfl
  simp only[db,J,<-A];have k:=U.at i;by_cases h:i< n
  .left;rw[aX (by omega),au,eg (by omega),D1]
   by_cases l:a.getD i 0=0
   .rw [dF l,au,aO (by omega) (by omega)]
    refine⟨_,rfl,⟨i+1,o,rfl,by omega,d,I,λj D=>f j (by omega),?_⟩,?_⟩
    .show _=(wv a i+a.getD i 0*_)*dv b;grind
    grind
   .rw [bM l,ax];obtain⟨r,e,u,rfl,v,q2,y,q4⟩:=amv (b:=b) Z (L:=n+m) (i:=i) (lb:=m) (x:=a.getD i 0) (o:=o) (by omega) k.1 k.2 (by omega) (by omega) d I f g
    rw[e];refine⟨_,rfl,⟨i+1,u,rfl,by omega,v,q2,y,?_⟩,?_⟩
    .rw [q4];show _=(wv a i+a.getD i 0*4294967296^i)*dv b;grind
    grind
  .right;obtain rfl:i=n:=by omega
   rw[bb (by omega),ax]
   rw[show aF (YL (((i:Int),()),(),o,())) _=_ from pO o (by omega),fo]
   unfold YM;simp only;have h1:=gv o o.length;rw[ia h1,ah,db];refine⟨_,rfl,?_⟩;have z:wv a i=dv a:=by rw[tF,cM _ _ (by omega),gu]
   have B:=cM o (i+m) (by omega)
   refine zP I ?_;rw[<-B,g,z,kj,p,q]) ((0,()),(),bT (n+m) 0,()) ⟨0,_,rfl,by omega,gV,Dg.rep _,λj _=>by
    rw[oJ,List.getElem?_replicate];split<;>rfl,by
    rw[show wv a 0=0 from rfl,gy,cM _ _ (by rw[gV];exact aJ _)]
    exact Mr _⟩
 exact e
theorem Ec{n:Nat}(h:n< 18446744073709551616):word .u64 (n)=n:=xb h
theorem Ym{r y:Nat}(A:r< 4294967296)(I:y< 4294967296):(r*4294967296).lor y=r*4294967296+y:=by
 have h:=aee (i:=32) (b:=y) (by omega) r
 simp_all[aef]
theorem vA{r y:Int}(A:0<=r)(J:r< 4294967296)(I:0<=y)(U:y< 4294967296):wu (((word .u64 (wu (r*4294967296))).lor (word .u64 (wu y))))=r*4294967296+y:=by
 obtain⟨r,rfl⟩:=ix A;obtain⟨y,rfl⟩:=ix I;have e:r*4294967296=((r*4294967296:Nat):Int):=by omega
 rw[bS (n:=r*4294967296) (by omega) (by omega),bS (n:=y) (by omega) (by omega),e,Ec (by omega),Ec (by omega),Ym (by omega) (by omega),bS (by omega) (by omega)]
 omega
theorem xS(l:List Int) i(h:i< l.length):dv (l.drop i)=l.getD i 0+4294967296*dv (l.drop (i+1)):=by
 rw[eF h,oJ,hJ h];rfl
theorem FM(l:List Int) i v(h:i< l.length):dv ((l.set i v).drop i)=v+4294967296*dv (l.drop (i+1)):=by
 rw[xS _ i (by grind),gS l i v h,List.drop_set_of_lt (by omega)]
theorem am6{a:List Int}{d:Int}(g:Dg a)(Z:0< d)(t:d< 4294967296)(u:a.length<=1099511627776):one a d=ab (nd (vN a/d.toNat),((vN a%d.toNat:Nat):Int),()):=by
 have v:=dj g;obtain⟨n,rfl⟩:=ix (gU Z);unfold one;rw[cE (by grind[nk]),db,db,aO (by omega) (by omega)]
 obtain⟨r,e,rfl⟩:=eh (step:=CA a (n:Int))
  (λs=>∃(c:Int) (i:Nat) (o:List Int),s=((c,(i:Int)-1,()),(),o,())/\i<=a.length/\o.length=a.length/\Dg o/\0<=c/\c<(n:Int)/\dv (a.drop i)=dv (o.drop i)*(n:Int)+c) (λs=>(s.1.2.1+1).toNat) (λr=>r=(nd (vN a/n),((vN a%n:Nat):Int),())) (by
  rintro _ ⟨c,i,o,rfl,hi,w,I,U,l,h⟩;cases i with
  |zero=>
   right;have b:CA a (n:Int) ((c,((0:Nat):Int)-1,()),(),o,())=(cg (aF (Pz ((c,((0:Nat):Int)-1,()),(),o,())) ((↑o.length,()),(),())) (PA ((c,((0:Nat):Int)-1,()),(),o,()))).bind λm=>aH m:=by
    rfl
   rw[b,show aF (Pz ((c,((0:Nat):Int)-1,()),(),o,())) _=_ from pO o (by omega),fo]
   unfold PA;simp only;have h1:=gv o o.length;rw[ia h1,ah,db,l5 U (by omega)]
   refine⟨_,rfl,?_⟩;rw[jw,jw]at h;have x:=dj I;have j:vN a=vN o*n+c.toNat:=by
    grind
   have p:vN a/n=vN o:=by
    rw[j,mR,EO (by omega),Av (by omega)];rfl
   have q:vN a%n=c.toNat:=by
    rw[j,mR,SM,xb (by omega)]
   rw[p,q];have:ba (tl o o.length) o=nd (vN o):=pK I;grind
  |succ i=>
   left;have k:=g.at i;have f:=vA (r:=c) (y:=a.getD i 0) U (by omega) k.1 k.2
   have b:CA a (n:Int) ((c,((i+1:Nat):Int)-1,()),(),o,())=ab (aU (((c*4294967296+a.getD i 0)%(n:Int),(i:Int)-1,()),(),o.set i ((c*4294967296+a.getD i 0)/(n:Int)),())):=by
    have A:0<=(c*4294967296+a.getD i 0)/(n:Int):=Ep (by omega) (by omega)
    have J:(c*4294967296+a.getD i 0)/(n:Int)< 4294967296:=SC (by omega) (by
     omega)
    unfold CA;simp only[pr];rw[bQ (by omega),au,eg (by omega),f,bS (n:=(n:Int)) (by omega) (by omega),n3 (by omega),jk (by omega),n3 (by omega),db,adv (by omega),KQ (by omega),bS (n:=_/_) A (by omega),l5 A J,aO (by omega) (by omega)]
    rfl
   have A:0<=(c*4294967296+a.getD i 0)/(n:Int):=Ep (by omega) (by omega)
   have J:(c*4294967296+a.getD i 0)/(n:Int)< 4294967296:=SC (by omega) (by
    omega)
   refine⟨_,b,⟨_,i,_,rfl,by omega,by grind,I.set A J,KL _ (by omega),Er _ (by omega),?_⟩,?_⟩
   .rw [FM _ _ _ (by omega),xS a i (by omega),h,fW,oH 4294967296]
    have h1:=SE (c*4294967296+a.getD i 0) (n:Int);grind
   simp) ((0,(a.length:Int)-1,()),(),bT a.length 0,()) ⟨0,a.length,_,rfl,aJ _,gV,Dg.rep _,by omega,by omega,by
   rw[eM (aJ _),eM (by simp)]
   show(0:Int)=0*_+0;omega⟩
 exact e
def TH(x m:Nat)(o:Option Int):=match o with
 |some (.ofNat k)=>bp m k&&(bp (k-m) 8&&(Nat.blt x (2^(k-m))&&(Nat.beq x 0||bp 1 (k-m)&&bp (2^(k-m-1)) x)))
 |_=>af
theorem aqa:([0,8,16,24].all λm=>(List.range 256).all λx=>TH x m (Hk ((aC x,aC m,()),(),())))=ag:=by kernel_rfl
theorem aqb{x m:Nat}(I:x< 256)(J:0< x)(hm:m∈[0,8,16,24]):∃j:Nat,Hk (((x:Int),(m:Int),()),(),())=ab ((m+j:Nat):Int)/\1<=j/\j<=8/\x< 2^j/\2^(j-1)<=x:=by
 have h:=l9.1 (l9.1 aqa m hm) x (List.mem_range.2 I);unfold TH at h;split at h
 .rename_i k;simp only[aM,Bool.or_eq_true,Nat.ble_eq,Nat.blt_eq,Nat.beq_eq]at h;obtain⟨h1,h2,h3,A⟩:=h;rcases A with A|⟨A,U⟩
  all_goals grind
 trivial
theorem Vh(n:Int):n.fdiv 65536=n/65536:=oG n (by omega)
theorem Vi(n:Int):n.fdiv 256=n/256:=oG n (by omega)
theorem Yh{n:Nat}(d:0< n)(h1:n< 4294967296):∃k:Nat,Cf (n:Int)=ab (k:Int)/\1<=k/\k<=32/\n< 2^k/\2^(k-1)<=n:=by
 have A:∀{x m M:Nat},0< x->x< 256->m∈[0,8,16,24]->M=2^m->n/M=x->0< M->∃k:Nat,Hk (((x:Int),(m:Int),()),(),())=ab (k:Int)/\1<=k/\k<=32/\n< 2^k/\2^(k-1)<=n:=by
  intro x m M I U hm f g Z;obtain⟨j,e,h,i,l,o⟩:=aqb U I hm;have a:m<=24:=by
   grind
  refine⟨m+j,e,by omega,by omega,?_,?_⟩
  .grind
  .have:m+j-1=m+(j-1):=by omega
   grind
 unfold Cf;by_cases c1:65536<=n
 .rw [bQ (by omega),au,jl]
  unfold OQ;simp only[Vh,Vi];have b:(n:Int)/65536=((n/65536:Nat):Int):=by omega
  rw[b];by_cases c:256<=n/65536
  .rw [bQ (by omega),au,jl]
   have J:((n/65536:Nat):Int)/256=((n/16777216:Nat):Int):=by omega
   rw[J]
   exact A (m:=24) (M:=16777216) (by omega) (by omega) (by decide) (by decide) rfl (by omega)
  .rw [dJ (by omega),ax,jl]
   exact A (m:=16) (M:=65536) (by omega) (by omega) (by decide) (by decide) rfl (by omega)
 .rw [dJ (by omega),ax,jl]
  unfold OQ;simp only[Vh,Vi];by_cases c:256<=n
  .rw [bQ (by omega),au,jl]
   have J:(n:Int)/256=((n/256:Nat):Int):=by omega
   rw[J]
   exact A (m:=8) (M:=256) (by omega) (by omega) (by decide) (by decide) rfl (by omega)
  .rw [dJ (by omega),ax,jl]
   exact A (m:=0) (M:=1) (by omega) (by omega) (by decide) (by decide) (SK n) (by omega)
theorem amd{n:Nat}(A:0< n)(h1:n< 4294967296):∃s:Nat,Hp (n)=ab (s:Int)/\s<=31/\2147483648<=n*2^s/\n*2^s< 4294967296:=by
 obtain⟨k,e,k1,k2,I,J⟩:=Yh A h1;refine⟨32-k,?_,by omega,?_,?_⟩
 .unfold Hp;rw[e,ah,aO (by omega) (by omega)]
  congr 1;omega
 .have:2^(k-1)*2^(32-k)<=n*2^(32-k):=dM _ J;rw[<-oM,show k-1+(32-k)=31 by omega]at this
  omega
 .have:n*2^(32-k)< 2^k*2^(32-k):=ad8 I (mj (by omega))
  rw[<-oM,show k+(32-k)=32 by omega]at this
  omega
end Go.Proofs.YtceibfdaacdjlaaGreatDoor
namespace Go.Nt
open Go.As
theorem al8{σ ρ:Type}{step:σ->Option (σ⊕ρ)}{s:σ}(h:step s=none):aF step s=none:=by
 cases e:aF _ s with
 |none=>rfl
 |some r=>
  obtain⟨n,A⟩:=Hn e;cases n<;>first|cases A|simp_all[yC,h]
theorem vb{σ ρ:Type}{step:σ->Option (σ⊕ρ)}{s:σ}{x:Option ρ}(h:step s=x.bind λy=>ab (.inr y)):aF step s=x:=by
 cases x<;>first|exact al8 h|exact bD h
theorem Ci{σ ρ:Type}{step:σ->Option (σ⊕ρ)}(I:Nat->σ->Prop) n(h:∀i s,i< n->I i s->∃A,step s=ab (.inl A)/\I (i+1) A):∀s,I 0 s->∃A,aF step s=aF step A/\I n A:=by
 have:∀m,m<=n->∀s,I 0 s->∃A,aF step s=aF step A/\I m A:=by
  intro m;induction m with
  |zero=>grind
  |succ m ih=>
   intro hm s J;obtain⟨U,Z,h1⟩:=ih (by omega) s J
   obtain⟨a,b,h2⟩:=h m U (by omega) h1
   exact⟨a,Z.trans (cD b),h2⟩
 simp_all
end Go.Nt
namespace Go.Proofs.YtceibfdaacdjlaaGreatDoor
open Go.As Go.Nt Go.Cc
theorem aci{n:Nat}(h:n< 4294967296):word .u32 (n)=n:=xb h
theorem ama{h y s:Nat}(I:s<=31)(A:h< 2^s):h.lor (y*2^s%4294967296)=h+y*2^s%4294967296:=by
 have e:y*2^s%4294967296=y%2^(32-s)*2^s:=by
  have:4294967296=2^(32-s)*2^s:=by rw[<-oM,show 32-s+s=32 by omega]
  rw[this,KY]
 have h1:=aee A (y%2^(32-s));simp_all[aef,aeb,Nat.add_comm]
def wm(o:List Int) y(s i:Nat):=
 (o.set i (wr .u32 (((word .u32 (o.getD i 0)).lor (word .u32 (wr .u32 (wu (wu y*(2^s.min 64:Nat))))))))).set (i+1) (wr .u32 ((wu (wu y*(2^s.min 64:Nat))).fdiv 4294967296))
theorem apG{l o:List Int}{s i:Nat}(Z:Dg l)(I:Dg o)(J:s<=31)(hi:i+1< o.length)(r:o.getD i 0<((2^s:Nat):Int))(a:wv o (i+1)=wv l i*((2^s:Nat):Int)):
  (wm o (l.getD i 0) s i).length=o.length/\Dg (wm o (l.getD i 0) s i)/\(wm o (l.getD i 0) s i).getD (i+1) 0<((2^s:Nat):Int)/\wv (wm o (l.getD i 0) s i) (i+2)=wv l (i+1)*((2^s:Nat):Int):=by
 have b:=Z.at i;have c:=I.at i;obtain⟨y,d⟩:=ix b.1;obtain⟨h,U⟩:=ix c.1;have hp:2^s<=2147483648:=rH (n:=2) (by omega) J
 have hm:s.min 64=s:=mi (by omega)
 obtain⟨p,A⟩:∃p,p=2^s:=⟨_,rfl⟩;have e:y*p<=4294967295*p:=dM _ (by omega)
 have f:wu (wu (l.getD i 0)*((2^s.min 64:Nat):Int))=((y*p:Nat):Int):=by
  rw[hm,d,bS (n:=(y:Int)) (by omega) (by omega),<-A,<-kj,bS (by omega) (by omega)]
 have g:wr .u32 ((y*p:Nat):Int)=((y*p%4294967296:Nat):Int):=by rfl
 have j:=by
  have:y*p%4294967296=(y%2^(32-s))*2^s:=by
   have h2:(4294967296:Nat)=2^(32-s)*2^s:=by rw[<-oM,show 32-s+s=32 by omega]
   rw[A,h2,KY]
  have h3:y%2^(32-s)+1<=2^(32-s):=nT _ (mj (by omega))
  have k:=dM (2^s) h3;rw[<-oM,show 32-s+s=32 by omega,Nat.add_mul,Nat.one_mul,<-this]at k
  omega
 have m:wr .u32 (((word .u32 (o.getD i 0)).lor (word .u32 (wr .u32 ((y*p:Nat):Int))):Nat):Int)=((h+y*p%4294967296:Nat):Int):=by
  rw[g,U,aci (by omega),aci (by omega),A,ama J (by omega),<-A,l5 (by omega) (by omega)]
 have q:wr .u32 (((y*p:Nat):Int).fdiv 4294967296)=((y*p/4294967296:Nat):Int):=by
  rw[kv,l5 (by omega) (by omega)];omega
 have et:wm o (l.getD i 0) s i=(o.set i ((h+y*p%4294967296:Nat):Int)).set (i+1) ((y*p/4294967296:Nat):Int):=by
  simp_all[wm,f,m,q]
 rw[et];refine⟨by simp,(I.set (by omega) (by omega)).set (by omega) (by omega),?_,?_⟩
 .grind
 .rw [pT _ (i+1) _ (by grind),z7 _ _ _ (by omega) _ (by omega),a,U,<-A]
  show _=(wv l i+l.getD i 0*4294967296^i)*(p:Int);grind
abbrev uf:=(Int×Unit)×Unit×List Int×Unit
def pJ{ρ:Type} n(rd:Int->(Int->Option (uf⊕ρ))->Option (uf⊕ρ))(X:Int)(ex:uf->Option (uf⊕ρ)) s:=
 bif ao s.1.1 n then
  rd s.1.1 λA=>bif ao (X.tmod 32) 0 then none else cO s.2.2.1 (w (s.1.1+w (X.tdiv 32))) λI=>cO s.2.2.1 (w (s.1.1+w (X.tdiv 32))) λJ=>
   cO (s.2.2.1.set (w (s.1.1+w (X.tdiv 32))).toNat (wr .u32 ↑((word .u32 I).lor (word .u32 (wr .u32 (wu (wu A*↑2^(X.tmod 32).toNat.min 64))))))) (w (w (s.1.1+w (X.tdiv 32))+1)) λU=>
    aP ((w (s.1.1+1),()),(),(s.2.2.1.set (w (s.1.1+w (X.tdiv 32))).toNat (wr .u32 ↑((word .u32 I).lor (word .u32 (wr .u32 (wu (wu A*↑2^(X.tmod 32).toNat.min 64))))))).set (w (w (s.1.1+w (X.tdiv 32))+1)).toNat (wr .u32 ((wu (wu A*↑2^(X.tmod 32).toNat.min 64)).fdiv 4294967296)),())
 else ex s
def Rd{ρ:Type}(l:List Int)(n:Int)(rd:Int->(Int->Option (uf⊕ρ))->Option (uf⊕ρ)):=n=l.length/\∀i f,i< l.length->rd i f=f (l.getD i 0)
theorem Rd.aL{ρ:Type} l:Rd (ρ:=ρ) l l.length (aL l):=⟨rfl,λ_ _ h=>eg h⟩
theorem apF{ρ:Type}{l o:List Int}{s i:Nat}{n:Int}{rd}(A:Rd (ρ:=ρ) l n rd) ex(a:s<=31)(b:l.length<=2199023255552)(hi:i< l.length)(c:o.length=l.length+1):
  pJ n rd (s) ex (((i),()),(),o,())=ab (.inl ((((i+1:Nat)),()),(),wm o (l.getD i 0) s i,())):=by
 obtain⟨rfl,A⟩:=A;have hm:(s:Int).tmod 32=s:=KR (by omega) (by omega)
 have J:(s:Int).tdiv 32=0:=Ey (by omega) (by omega)
 have U:w 0=0:=aO (by omega) (by omega)
 have Z:w _=i:=aO (by omega) (by omega)
 have I:w (i+1)=(i+1:Nat):=aO (by omega) (by omega)
 unfold pJ;simp only[hm,J,U,iK,Z,I];rw[aX (by omega),A i _ hi,jk (by omega),jk (by omega),jk (by grind)]
 rfl
theorem Rb{ρ:Type}{l o:List Int}{X n:Int}{rd}(A:Rd (ρ:=ρ) l n rd) ex:pJ n rd X ex (((l.length),()),(),o,())=ex (((l.length),()),(),o,()):=by
 unfold pJ;rw[A.1];simp[bb _]
theorem Rc{ρ:Type}{l:List Int}{s:Nat}{n:Int}{rd}(J:Rd (ρ:=ρ) l n rd) ex(U:Dg l)(I:s<=31)(Z:l.length<=2199023255552):
  ∃o,aF (pJ n rd (s) ex) ((0,()),(),bT (l.length+1) 0,())=aF (pJ n rd (s) ex) (((l.length),()),(),o,())/\o.length=l.length+1/\Dg o/\dv o=dv l*((2^s:Nat)):=by
 have a:0< 2^s:=mj (by omega)
 have c:(bT (l.length+1) (0:Int)).getD 0 0=0:=by
  rfl
 obtain⟨_,e,o,rfl,h1,h2,_,A⟩:=Ci (step:=pJ n rd _ ex) (λi st=>∃o,st=(((i:Int),()),(),o,())/\o.length=l.length+1/\Dg o/\o.getD i 0<(2^s:Nat)/\wv o _=wv l i*(2^s:Nat)) l.length (by
  rintro i _ hi ⟨o,rfl,h1,h2,h3,A⟩;obtain⟨d,q2,b,q4⟩:=apG U h2 I (by omega) h3 A
  exact⟨_,apF J ex I Z hi h1,_,rfl,by omega,q2,b,q4⟩) _ ⟨_,rfl,gV,Dg.rep _,by omega,by
   show 0+0*_=0*_;omega⟩
 refine⟨o,e,h1,h2,?_⟩;rw[cM o _ (by omega),cM l _ (aJ _)]at A
 omega
theorem agO x y J I A n:UP x y J I n A=pJ ↑(ba A.1.1.toNat (ba I.1.1.toNat y)).length (aL (ba A.1.1.toNat (ba I.1.1.toNat y))) (bif aj (aC n.toNat) 4096 then aC n.toNat else 4096) λs=>(cg (aF (FH s) ((↑s.2.2.1.length,()),(),())) (FG x J n s)).bind λz=>aH z:=by rfl
theorem agN x U I A n(J:uf):UN x U n J I A=pJ ↑(ba A.1.1.toNat (ba U.1.1.toNat x)).length (aL (ba A.1.1.toNat (ba U.1.1.toNat x))) (bif aj (aC n.toNat) 4096 then aC n.toNat else 4096) λs=>(cg (aF (FI s) ((↑s.2.2.1.length,()),(),())) (Bi x U n J I s)).bind λz=>aH z:=by rfl
theorem agH n A J I:UK n A J I=pJ (aC I.1.1.toNat) (λi f=>bif aj 0 i&&ao i (aC I.1.1.toNat)then A.2.2.1[i.toNat]?.bind f else none) (bif aj (w (0-aC n.toNat)) 4096 then w (0-aC n.toNat)else 4096) λs=>(cg (aF (FE s) ((↑s.2.2.1.length,()),(),())) (FF A J s)).bind λz=>aH z:=by rfl
theorem ahY{u v:List Int}{m:Nat}{vr ur P:Int}(l:Dg u)(O:Dg v)(o:v.length=m+2)(Y:u.length=m+3)(hm:m<=1099511627776)(p:0< P)(A:0<=vr)(y:vr< P)(b:0<=ur)(c:ur< P)
  (h1:2147483648<=v.getD (m+1) 0) (h0:u.getD (m+2) 0<=v.getD (m+1) 0)
  (uR:((u.getD (m+2) 0*4294967296+u.getD (m+1) 0)*4294967296+u.getD m 0)*P+ur< 4294967296*((v.getD (m+1) 0*4294967296+v.getD m 0)*P+vr)):
  ∃q,Gr u v=ab q/\0<=q/\q< 4294967296/\((u.getD (m+2) 0*4294967296+u.getD (m+1) 0)*4294967296+u.getD m 0)*P+ur<(q+1)*((v.getD (m+1) 0*4294967296+v.getD m 0)*P+vr)
   /\(q-1)*((v.getD (m+1) 0*4294967296+v.getD m 0)*P+vr)<=((u.getD (m+2) 0*4294967296+u.getD (m+1) 0)*4294967296+u.getD m 0)*P+ur:=by
 have Q:=l.at (m+2);have R:=l.at (m+1);have i:=l.at m;have b1:=O.at (m+1);have Z:=O.at m;have z:w ((v.length:Int)-1)=((m+1:Nat):Int):=by rw[aO (by omega) (by omega)];omega
 have w2:w ((v.length:Int)-2)=(m:Int):=by rw[aO (by omega) (by omega)];omega
 have g0:u[v.length]? =ab (u.getD (m+2) 0):=by rw[o];exact gN (by omega)
 have g1:∀{β:Type} (f:Int->Option β),aL u ((m+1:Nat):Int) f=f (u.getD (m+1) 0):=λf=>eg (by omega)
 have g2:∀{β:Type} (f:Int->Option β),aL u (m:Int) f=f (u.getD m 0):=λf=>eg (by omega)
 have k1:∀{β:Type} (f:Int->Option β),aL v ((m+1:Nat):Int) f=f (v.getD (m+1) 0):=λf=>eg (by omega)
 have k2:∀{β:Type} (f:Int->Option β),aL v (m:Int) f=f (v.getD m 0):=λf=>eg (by omega)
 have B:=vA Q.1 Q.2 R.1 R.2;generalize hv1:v.getD (m+1) 0=v1 at*;generalize WH:v.getD m 0=v2 at*;generalize hu0:u.getD (m+2) 0=j at*;generalize WD:u.getD (m+1) 0=C at*;generalize WE:u.getD m 0=u2 at*;generalize D:(v1*4294967296+v2)*P+vr=V at*;generalize E:((j*4294967296+C)*4294967296+u2)*P+ur=U at*;have F:0<=V:=by
  have:0<=(v1*4294967296+v2)*P:=rG (by omega) (by omega)
  omega
 have hU0:0<=U:=by
  have:0<=((j*4294967296+C)*4294967296+u2)*P:=rG (by omega) (by omega)
  omega
 unfold Gr;simp only[db,g0,z,g1,k1,ah];rw[bS (n:=j) (by omega) (by omega)]
 rw[B,bS (n:=v1) (by omega) (by omega),n3 (by omega),n3 (by omega),KQ (by omega),adv (by omega)]
 generalize ht:j*4294967296+C=t at*;have G:0<=t/v1:=Ep (by omega) (by omega)
 have H:t/v1< 4294967298:=SC (by omega) (by omega)
 have K:=KL t (show v1≠0 by omega)
 have sn:=Er t (show 0< v1 by omega)
 rw[bS (n:=t/v1) (by omega) (by omega)]
 have J:∀q r:Int,0<=q->q< 4294967296->q*v1+r=t->U<(q+1)*V->q*v2<=r*4294967296+u2->(q-1)*V<=U:=λq r a S e _ L=>by
  have:=ahN (vr:=vr) (ur:=ur) (P:=P) p a S (by omega) Z.1 A y b e L
  rw[D,E]at this;exact this
 obtain⟨q,e,r1,r2,r3,r4⟩:=eh (step:=si u v) (λs=>∃q r:Int,s=((q,r,()),(),())/\0<=q/\0<=r/\r< 4294967296/\q< 4294967298/\q*v1+r=t/\U<(q+1)*V) (λs=>s.1.1.toNat) (λq=>0<=q/\q< 4294967296/\U<(q+1)*V/\(q-1)*V<=U) (by
  rintro _ ⟨q,r,rfl,a,r0,rB,qB,e,d⟩;have less:U< q*V->((bif !ai ((wu (r+v1)).fdiv 4294967296) 0 then aH (wu (q-1))else aP ((wu (q-1),wu (r+v1),()),(),()):Option ((Int×Int×Unit)×Unit×Unit⊕Int))=si u v ((q,r,()),(),()))->
    (∃M,si u v ((q,r,()),(),())=ab (.inl M)/\(∃q r:Int,M=((q,r,()),(),())/\0<=q/\0<=r/\r< 4294967296/\q< 4294967298/\q*v1+r=t/\U<(q+1)*V)/\M.1.1.toNat< q.toNat)∨∃x,si u v ((q,r,()),(),())=ab (.inr x)/\0<=x/\x< 4294967296/\U<(x+1)*V/\(x-1)*V<=U:=λT k=>by
   have S:0< q:=by
    rcases l7 0 q with h|h
    .exact h
    .obtain rfl:q=0:=by omega
     rw[gy]at T;omega
   have W:(q-1)*v1+(r+v1)=t:=by rw[oI,l8];omega
   have N:U<(q-1+1)*V:=by rw[Int.sub_add_cancel];exact T
   rw[<-k,bS (n:=r+v1) (by omega) (by omega),bS (n:=q-1) (by omega) (by omega),kv]
   by_cases hb:4294967296<=r+v1
   .right;rw[bM (by omega),eS,au]
    have I:q-1< 4294967296:=by
     rcases l7 (q-1) 4294967296 with h|h
     .exact h
     .obtain rfl:q=4294967297:=by omega
      omega
    exact⟨_,rfl,by omega,I,N,J _ _ (by omega) I W N (ahK (by omega) I Z.1 Z.2 i.1 hb)⟩
   .left;rw[dF (by omega),bZ,ax]
    refine⟨_,rfl,⟨_,_,rfl,by omega,by omega,by omega,by omega,W,N⟩,?_⟩
    show(q-1).toNat< q.toNat;omega
  by_cases I:4294967296<=q
  .refine less ?_ ?_
   .have:4294967296*V<=q*V:=iy I F;omega
   .unfold si;simp only[kv,bM (show q/4294967296≠0 by omega),eS,au,z,k1]
    rw[bS (n:=v1) (by omega) (by omega)]
  .have hx:=yH a (by omega) Z.1 Z.2
   have g:=vA r0 rB i.1 i.2;have k:si u v ((q,r,()),(),())=bif ao (r*4294967296+u2) (q*v2)then(bif !ai ((wu (r+v1)).fdiv 4294967296) 0 then aH (wu (q-1))else aP ((wu (q-1),wu (r+v1),()),(),()))else aH q:=by
    unfold si;simp only[kv,dF (show q/4294967296=0 by omega),bZ,ax,z,w2,k1,k2,g2]
    rw[g,bS (n:=v2) (by omega) (by omega),bS (n:=v1) (by omega) (by omega),bS (n:=q*v2) (by omega) (by omega)]
   by_cases X:r*4294967296+u2< q*v2
   .refine less ?_ ?_
    .have:=ahL (vr:=vr) (ur:=ur) (P:=P) p a A c e X;rw[D,E]at this;exact this
    .rw [k,aX X,au]
   .right;rw[k,bb (by omega),ax]
    exact⟨_,rfl,a,by omega,d,J q r a (by omega) e d (by omega)⟩) ((t/v1,t%v1,()),(),()) ⟨_,_,rfl,G,K,by omega,H,by
   have:=SE t v1;rw[wU (t/v1)];omega,by
   have:=ahM (v1:=v1) (v2:=v2) (vr:=vr) (t:=t) (u2:=u2) (ur:=ur) (P:=P) p (by omega) Z.1 A (by omega) i.2 c
   rw[D,E]at this;exact this⟩
 exact⟨q,e,r1,r2,r3,r4⟩
theorem lF(l:List Int) j k:(l.drop j).getD k 0=l.getD (j+k) 0:=by
 simp
theorem wj(l:List Int) j k x:(l.set (j+k) x).drop j=(l.drop j).set k x:=by
 rw[List.drop_set,az (by omega),Nat.add_sub_cancel_left]
theorem Dg.drop{l:List Int}(h:Dg l) n:Dg (l.drop n):=λx A=>h x (List.mem_of_mem_drop A)
theorem aqT{a b:List Int}:∀n,(∀i,i< n->a.getD i 0=b.getD i 0)->wv a n=wv b n
 |0,_=>rfl
 |n+1,h=>by
  show wv a n+a.getD n 0*_=wv b n+b.getD n 0*_;rw[aqT n λi hi=>h i (by omega),h n (by omega)]
theorem JA{β:Type}{l:List Int}{j k n:Nat}{f:Int->Option β}(h:j+k< l.length)(A:k< n):aW (aj 0 (k)&&ao (k) (n)) (l[j+k]?.bind f)=f (l.getD (j+k) 0):=by
 rw[aX (by omega),gN h];rfl
theorem al3{t:Int}(A:0<=t)(h1:t< 18446744073709551616):wu (((word .u64 t).land 4294967295))=t%4294967296:=by
 obtain⟨n,rfl⟩:=ix A;have e:n.land 4294967295=n%4294967296:=Nat.and_two_pow_sub_one_eq_mod n 32;rw[Ec (by omega),bS (by omega) (by omega)]
 omega
theorem agP{A u qs p:List Int}{j n:Nat}{q:Int}(z:Int×Unit)(b:Dg A)(B:n<=A.length)(hp:Dg p)(C:j+n< p.length)(D:p.length<=4398046511104)(d:1<=q)(E:q< 4294967296):
  ∃c o,aF (FJ (z,(),A,()) (((n:Int),()),(),()) (((j:Int),()),(),u,qs,()) q) ((0,0,()),(),p,())=ab (.inl ((q-1,()),(),o.set (j+n) ((p.getD (j+n) 0+c)%4294967296),()))/\0<=c/\c<=1/\o.length=p.length/\Dg o
   /\(∀i,i< j->o.getD i 0=p.getD i 0)/\(∀i,j+n<=i->o.getD i 0=p.getD i 0)/\wv (o.drop j) n+c*4294967296^n=wv (p.drop j) n+wv A n:=by
 have hw:(w (w ((j:Int)+aC (n:Int).toNat)+1)).toNat-(j:Int).toNat=n+1:=by
  show(w (w ((j:Int)+(n:Int))+1)).toNat-j=n+1;rw[aO (n:=(j:Int)+_) (by omega) (by omega),aO (by omega) (by omega)];omega
 obtain⟨r,e,c,o,rfl,h⟩:=eh (step:=FJ (z,(),A,()) (((n:Int),()),(),()) (((j:Int),()),(),u,qs,()) q)
  (λs=>∃(c:Int) (k:Nat) (o:List Int),s=((c,(k:Int),()),(),o,())/\k<=n/\o.length=p.length/\Dg o/\0<=c/\c<=1/\(∀i,i< j->o.getD i 0=p.getD i 0)/\(∀i,j+k<=i->o.getD i 0=p.getD i 0)/\wv (o.drop j) k+c*4294967296^k=wv (p.drop j) k+wv A k) (λs=>((n:Int)-s.1.2.1).toNat)
  (λr=>∃(c:Int) (o:List Int),r=.inl ((q-1,()),(),o.set (j+n) ((p.getD (j+n) 0+c)%4294967296),())/\0<=c/\c<=1/\o.length=p.length/\Dg o/\(∀i,i< j->o.getD i 0=p.getD i 0)/\(∀i,j+n<=i->o.getD i 0=p.getD i 0)/\wv (o.drop j) n+c*4294967296^n=wv (p.drop j) n+wv A n) (by
  rintro _ ⟨c,k,o,rfl,F,f,J,U,Z,a,I,g⟩;unfold FJ;simp only[hw];have l:∀m:Nat,aC m=(m:Int):=λ_=>rfl
  have t:(j:Int).toNat=j:=db _;have v:(k:Int).toNat=k:=db _;have x:(n:Int).toNat=n:=db _;simp only[l,t,v,x];have G:=b.at k;by_cases h:k< n
  .left;have y:=J.at (j+k);rw[aX (by omega),au,bQ (by omega),tH,au,gN (by omega),ah]
   rw[<-bQ (show(0:Int)<=(k:Int) by omega),JA (by omega) (by omega),JA (by omega) (by omega)]
   rw[bS (n:=A.getD k 0) (by omega) (by omega),bS (n:=o.getD (j+k) 0) (by omega) (by omega),bS (n:=o.getD (j+k) 0+_) (by omega) (by omega),bS (n:=c+_) (by omega) (by omega),kv,iY,aO (by omega) (by omega)]
   refine⟨_,rfl,⟨_,k+1,_,rfl,by omega,by grind,J.set (by omega) (by omega),by omega,by omega,λi hi=>?_,λi hi=>?_,?_⟩,?_⟩
   .grind
   .grind
   .rw [wj,pT _ _ _ (by grind),pw]
    show _=wv (p.drop j) k+(p.drop j).getD k 0*_+(wv A k+A.getD k 0*_);grind
   grind
  .right;obtain rfl:k=n:=by omega
   have y:=J.at (j+k);rw[bb (by omega),ax,aX (by omega),Bz,gN (by omega),ah,Bz,ah]
   rw[l5 (n:=c) (by omega) (by omega),iY,bS (n:=q-1) (by omega) (by omega),I (j+k) (aJ _)]
   exact⟨_,rfl,c,o,rfl,U,Z,f,J,a,I,g⟩) ((0,0,()),(),p,()) ⟨0,0,p,rfl,by omega,rfl,hp,by omega,by omega,λ_ _=>rfl,λ_ _=>rfl,rfl⟩
 grind
theorem agQ{A qs u:List Int}{j n:Nat}{q:Int}(z:Int×Unit)(v:Dg A)(T:n<=A.length)(x:Dg u)(hj:j+n< u.length)(hL:u.length<=4398046511104)(Z:0<=q)(y:q< 4294967296)
  (h1:wv (u.drop j) (n+1)<(q+1)*wv A n) (h2:(q-1)*wv A n<=wv (u.drop j) (n+1)):
  ∃I o,aF (FK (z,(),A,()) (((n:Int),()),(),()) (((j:Int),()),(),u,qs,()) q) ((0,0,0,()),(),u,())=ab (.inl ((I,()),(),o,()))/\0<=I/\I< 4294967296/\o.length=u.length/\Dg o
   /\(∀i,i< j->o.getD i 0=u.getD i 0)/\(∀i,j+n< i->o.getD i 0=u.getD i 0)/\I*wv A n+wv (o.drop j) (n+1)=wv (u.drop j) (n+1)/\wv (o.drop j) (n+1)< wv A n:=by
 have hw:(w (w ((j:Int)+aC (n:Int).toNat)+1)).toNat-(j:Int).toNat=n+1:=by
  show(w (w ((j:Int)+(n:Int))+1)).toNat-j=n+1
  rw[aO (n:=(j:Int)+_) (by omega) (by omega),aO (by omega) (by omega)];omega
 have V:=(dA v n).1
 obtain⟨r,e,I,o,rfl,h⟩:=eh (step:=FK (z,(),A,()) (((n:Int),()),(),()) (((j:Int),()),(),u,qs,()) q)
  (λs=>∃(c b:Int) (k:Nat) (o:List Int),s=((c,b,(k:Int),()),(),o,())/\k<=n/\o.length=u.length/\Dg o/\0<=c/\c< 4294967296/\0<=b/\b<=1/\(∀i,i< j->o.getD i 0=u.getD i 0)/\(∀i,j+k<=i->o.getD i 0=u.getD i 0)/\wv (o.drop j) k+q*wv A k=wv (u.drop j) k+(c+b)*4294967296^k) (λs=>((n:Int)-s.1.2.2.1).toNat)
  (λr=>∃I o,r=.inl ((I,()),(),o,())/\0<=I/\I< 4294967296/\o.length=u.length/\Dg o
   /\(∀i,i< j->o.getD i 0=u.getD i 0)/\(∀i,j+n< i->o.getD i 0=u.getD i 0)/\I*wv A n+wv (o.drop j) (n+1)=wv (u.drop j) (n+1)/\wv (o.drop j) (n+1)< wv A n) (by
  rintro _ ⟨c,b,k,o,rfl,hk,B,a,W,X,Y,uI,U,J,L⟩
  unfold FK
  simp only[hw]
  have e0:∀m:Nat,aC m=(m:Int):=λ_=>rfl
  have ej:(j:Int).toNat=j:=db _
  have ek:(k:Int).toNat=k:=db _
  have en:(n:Int).toNat=n:=db _
  simp only[e0,ej,ek,en]
  have M:=v.at k
  by_cases h:k< n
  .left
   have xo:=a.at (j+k)
   have hm:=yH Z y M.1 M.2
   rw[aX (by omega),au,bQ (by omega),tH,au,gN (by omega),ah]
   rw[<-bQ (show(0:Int)<=(k:Int) by omega),JA (by omega) (by omega),JA (by omega) (by omega)]
   rw[bS (n:=A.getD k 0) (by omega) (by omega),bS (n:=o.getD (j+k) 0) (by omega) (by omega),bS (n:=q*_) (by omega) (by omega),bS (n:=c+_) (by omega) (by omega),al3 (by omega) (by omega)]
   have C:wu (wu (o.getD (j+k) 0-(c+q*A.getD k 0)%4294967296)-b)=(o.getD (j+k) 0-(c+q*A.getD k 0)%4294967296-b)%18446744073709551616:=by rw[pS,pS];omega
   have e2:(o.getD (j+k) 0-(c+q*A.getD k 0)%4294967296-b)%18446744073709551616/9223372036854775808= -((o.getD (j+k) 0-(c+q*A.getD k 0)%4294967296-b)/4294967296):=by omega
   have D:(o.getD (j+k) 0-(c+q*A.getD k 0)%4294967296-b)%18446744073709551616%4294967296=(o.getD (j+k) 0-(c+q*A.getD k 0)%4294967296-b)%4294967296:=by omega
   rw[C,ME,kv,iY,e2,D,aO (by omega) (by omega)]
   refine⟨_,rfl,⟨_,_,k+1,_,rfl,by omega,by rw[hV];exact B,a.set (by omega) (by omega),by omega,by omega,by omega,by omega,λi hi=>?_,λi hi=>?_,?_⟩,?_⟩
   .rw [mz _ _ _ _ (by omega),az (by omega)];exact U i hi
   .rw [mz _ _ _ _ (by omega),az (by omega)];exact J i (by omega)
   .rw [wj,pT _ _ _ (by rw[oK];omega),pw]
    show _+q*(wv A k+A.getD k 0*_)=wv (u.drop j) k+(u.drop j).getD k 0*_+_
    rw[lF,J (j+k) (aJ _)]
    exact aqe L
   .show ((n:Int)-((k:Int)+1)).toNat<((n:Int)-(k:Int)).toNat
    omega
  .right
   obtain rfl:k=n:=by omega
   have xu:=x.at (j+k)
   have d:=J (j+k) (aJ _)
   have lo:=dA (Dg.drop a j) k
   have lv:=dA v k
   have hP:=iS k
   have f:wv (u.drop j) (k+1)=wv (u.drop j) k+u.getD (j+k) 0*4294967296^k:=by
    show _+(u.drop j).getD k 0*_=_
    rw[lF]
   have hW:wv (o.drop j) k+(u.getD (j+k) 0-c-b)*4294967296^k=wv (u.drop j) (k+1)-q*wv A k:=by
    rw[f,oI,oI]
    rw[fW]at L
    omega
   have C:wu (wu (u.getD (j+k) 0-c)-b)=(u.getD (j+k) 0-c-b)%18446744073709551616:=by rw[pS,pS];omega
   have D:(u.getD (j+k) 0-c-b)%18446744073709551616%4294967296=(u.getD (j+k) 0-c-b)%4294967296:=by omega
   rw[bb (by omega),ax,aX (by omega),Bz,gN (by omega),ah,Bz,ah,d,bS (n:=u.getD (j+k) 0) (by omega) (by omega),C,ME,iY,D]
   generalize ht:u.getD (j+k) 0-c-b=t at*
   rw[fW,l8]at h1
   rw[oI,l8]at h2
   by_cases N:t< 0
   .rw [bM (by omega),eS,au]
    have E:1<=q:=by
     rcases l7 0 q with h|h
     .omega
     .obtain rfl:q=0:=by omega
      have:t*4294967296^k<=(-1)*4294967296^k:=iy (by omega) (by omega)
      have w0:=(dA (Dg.drop x j) (k+1)).1
      rw[gy]at hW
      omega
    have F:Dg (o.set (j+k) (t%4294967296)):=a.set (by omega) (by omega)
    obtain⟨g,O,P,g0,g1,Q,d2,G,H,v2⟩:=agP (qs:=qs) (u:=u) (j:=j) (n:=k) (p:=o.set (j+k) (t%4294967296)) z v T F (by rw[hV];omega) (by rw[hV];omega) E y
    rw[mz _ _ _ _ (by omega),aK rfl]at P
    rw[P]
    rw[hV]at Q
    have l:wv ((o.set (j+k) (t%4294967296)).drop j) k=wv (o.drop j) k:=by rw[wj,Kl _ _ _ _ (aJ _)]
    rw[l]at v2
    have l2':=dA (Dg.drop d2 j) k
    have R:t+g=0:=by
     have K:wv (O.drop j) k+(t+g)*4294967296^k=wv (u.drop j) (k+1)-q*wv A k+wv A k:=by
      rw[fW];omega
     rcases l7 (t+g) 0 with h|h
     .have:(t+g)*4294967296^k<=(-1)*4294967296^k:=iy (by omega) (by omega)
      omega
     .omega
    have S:(t%4294967296+g)%4294967296=0:=by omega
    have K:wv (O.drop j) k=wv (u.drop j) (k+1)-q*wv A k+wv A k:=by
     have:g*4294967296^k= -t*4294967296^k:=by rw[show g= -t by omega]
     rw[Int.neg_mul]at this
     omega
    refine⟨_,rfl,q-1,_,rfl,by omega,by omega,by rw[hV,Q,B],d2.set (by omega) (by omega),λi hi=>?_,λi hi=>?_,?_,?_⟩
    .rw [mz _ _ _ _ (by omega),az (by omega),G i hi,mz _ _ _ _ (by omega),az (by omega)];exact U i hi
    .rw [mz _ _ _ _ (by omega),az (by omega),H i (by omega),mz _ _ _ _ (by omega),az (by omega)];exact J i (by omega)
    .rw [wj,pT _ _ _ (by rw[oK];omega),S,gy,oI,l8,K];omega
    .rw [wj,pT _ _ _ (by rw[oK];omega),S,gy,K]
     have:wv (o.drop j) k+t*4294967296^k< 0:=by
      have:t*4294967296^k<=(-1)*4294967296^k:=iy (by omega) (by omega)
      omega
     omega
   .rw [dF (by omega),bZ,ax]
    have et:t%4294967296=t:=by omega
    rw[et]
    refine⟨_,rfl,q,_,rfl,Z,y,by rw[hV,B],a.set (by omega) (by omega),λi hi=>?_,λi hi=>?_,?_,?_⟩
    .rw [mz _ _ _ _ (by omega),az (by omega)];exact U i hi
    .rw [mz _ _ _ _ (by omega),az (by omega)];exact J i (by omega)
    .rw [wj,pT _ _ _ (by rw[oK];omega)];omega
    .rw [wj,pT _ _ _ (by rw[oK];omega)];omega) ((0,0,0,()),(),u,()) ⟨0,0,0,u,rfl,by omega,rfl,x,by omega,by omega,by omega,by omega,λ_ _=>rfl,λ_ _=>rfl,by
  show(0:Int)+q*0=0+(0+0)*_
  rw[KN,iK,gy];rfl⟩
 exact⟨I,o,e,h⟩
theorem abB{a b s:Nat}(J:s<=31)(U:a< 4294967296):((a+b*4294967296)/2^s%4294967296)*2^s+a%2^s=a+(b%2^s)*4294967296:=by
 have hB:(4294967296)=2^(32-s)*2^s:=by rw[<-oM,show 32-s+s=32 by omega]
 have I:0< 2^s:=mj (by omega)
 generalize hp:2^s=p at*;generalize Z:2^(32-s)=A at*;have c:(a+b*4294967296)/p=a/p+b*A:=by
  rw[hB,<-Nat.mul_assoc,Nat.add_mul_div_right _ _ I]
 have d:a/p< A:=(Nat.div_lt_iff_lt_mul I).2 (by omega)
 have e:(a/p+b*A)%(A*p)=a/p+(b%p)*A:=by
  have h1:=(EK b p).symm;have h2:a/p+b*A=(a/p+(b%p)*A)+(A*p)*(b/p):=by
   grind
  rw[h2,Nat.add_mul_mod_self_left];apply xb;have h3:b%p+1<=p:=nT _ I;have f:=dM A h3;grind
 have:=EK a p;grind
theorem ZG{a b:Int}(A:0<=a)(J:a< 4294967296)(I:0<=b)(U:b< 4294967296):wu (((word .u64 a).lor (word .u64 (wu (b*4294967296))):Nat):Int)=a+b*4294967296:=by
 obtain⟨r,rfl⟩:=ix I;obtain⟨y,rfl⟩:=ix A;have e:(r)*4294967296=((r*4294967296:Nat):Int):=by omega
 rw[bS (n:=(r)*4294967296) (by omega) (by omega),e,Ec (by omega),Ec (by omega)]
 show wu ((y|||(r*4294967296)))=_
 rw[aeb];show wu (((r*4294967296).lor y))=_;rw[Ym (by omega) (by omega),bS (by omega) (by omega)]
 omega
theorem agI{s:Nat}(z:Int×Unit){u A:List Int}(O:s<=31)(C:Dg u)(lu:u.length<=2199023255552):
  Mk (s:Int) (z,(),u,A,()) (((tl A A.length:Int),()),(),()) (((tl u u.length:Int),()),(),())=ab (sh A,nd (vN u/2^s),0,()):=by
 have h1:=gv u u.length;have W:=nE u;have P:=dj C;have B:∀m:Nat,aC m=(m:Int):=λ_=>rfl
 have J:∀m:Nat,(m:Int).toNat=m:=db;obtain⟨m,hm⟩:∃m,m=tl u u.length:=⟨_,rfl⟩;have j:ba m u=sh u:=by rw[hm];rfl
 have k:w 0=0:=aO (by omega) (by omega)
 unfold Mk;simp only[B,J];rw[ia h1,<-hm];by_cases X:s=0
 .subst X;have g:w (0-((0:Nat):Int))=((0:Nat):Int):=k;have Q:(bif aj ((0:Nat):Int) 4096 then((0:Nat):Int)else 4096)=((0:Nat):Int):=rfl;have l:(((0:Nat):Int)).tdiv 32=0:=rfl;have hw:w (w ((m:Int)+w 0)+1)=((m+1:Nat):Int):=by
   rw[k,iK,aO (n:=(m:Int)) (by omega) (by omega),aO (by omega) (by omega)];rfl
  simp only[g,Q,l,hw,db];rw[bb (by omega),ax,cE (by grind[nk]),agH]
  simp only[B,J,g,Q];have R:Rd (ρ:=List Int×List Int×Int×Unit) (sh u) (m:Int) (λi f=>bif aj 0 i&&ao i (m:Int)then(u[i.toNat]?).bind f else none):=by
   refine⟨by omega,λi f hi=>?_⟩
   show(bif aj 0 (i:Int)&&ao (i:Int) (m:Int)then(u[(i:Int).toNat]?).bind f else none)=_;rw[bQ (by omega),aX (by omega),tH,au,J,gN (by omega),D1,ah]
  obtain⟨o,e,D,h,U⟩:=Rc (s:=0) R (λt=>(cg (aF (FE t) ((↑t.2.2.1.length,()),(),())) (FF (z,(),u,A,()) (((tl A A.length:Int),()),(),()) t)).bind λz=>aH z) (ke C) (by omega) (by omega)
  rw[show bT (m+1) (0:Int)=bT ((sh u).length+1) 0 by rw[W,hm],e]
  refine vb (x:=some (sh A,nd (vN u/2^0),0,())) ((Rb R _).trans ?_)
  .rw [show aF (FE ((((sh u).length:Int),()),(),o,())) _=_ from pO o (by omega),fo]
   unfold FF;simp only;have h1:=gv o o.length;rw[ia h1,ah,ah];simp only[J];rw[show ba (tl o o.length) o=nd (vN u/2^0)from zP h (by simp[U,gu,aed,SK,P])]
   rfl
 .have g:w (0-(s:Int))= -(s:Int):=by rw[aO (by omega) (by omega)];omega
  have c:w (0- -(s:Int))=(s:Int):=by rw[aO (by omega) (by omega)];omega
  have Z:(s:Int).tmod 32=(s:Int):=KR (by omega) (by omega)
  have l:(s:Int).tdiv 32=0:=Ey (by omega) (by omega)
  have d:w ((m:Int)-0)=(m:Int):=by rw[SF,aO (by omega) (by omega)]
  simp only[g,c,l,k,d,J];rw[aX (by omega),au,aO (by omega) (by omega)]
  by_cases Y:m=0
  .have q:sh u=[]:=w8.1 (by omega)
   have hv:vN u=0:=by
    have:=gu u;rw[q]at this;have:(0:Int)=dv u:=this;omega
   rw[bQ (by omega),au,hv,K1]
   rfl
  .have hp:2^s<=2147483648:=rH (n:=2) (by omega) O
   have E:0< 2^s:=mj (by omega)
   have v:s.min 64=s:=mi (by omega)
   have I:=ke C;rw[dJ (by omega),ax,cE (by simp(disch:=omega) only [nk])]
   obtain⟨_,e,o,rfl,D,h,U⟩:=Ci (step:=FD (s:Int) (z,(),u,A,()) (((tl A A.length:Int),()),(),()) (((m:Int),()),(),()))
    (λi st=>∃o,st=(((i:Int),()),(),o,())/\o.length=m/\Dg o/\wv o i*((2^s:Nat):Int)+(sh u).getD 0 0%((2^s:Nat):Int)=wv (sh u) i+(sh u).getD i 0%((2^s:Nat):Int)*4294967296^i) m (by
    rintro i _ hi ⟨o,rfl,D,h,U⟩;unfold FD;simp only[B,J,g,c,Z,l,k,d,gV,j,iK];have F:=I.at i;have G:=I.at (i+1);have wi:w (i:Int)=(i:Int):=aO (by omega) (by omega)
    have H:w ((i:Int)+1)=((i+1:Nat):Int):=aO (by omega) (by omega)
    rw[aX (by omega),au,wi,H,xO I,ah,xO I,ah,bb (by omega),ax,jk (by omega),ZG F.1 F.2 G.1 G.2,v]
    obtain⟨a,S⟩:=ix F.1;obtain⟨b,T⟩:=ix G.1;have y:wr .u32 (((sh u).getD i 0+(sh u).getD (i+1) 0*4294967296).fdiv ((2^s:Nat):Int))=(((a+b*4294967296)/2^s%4294967296:Nat):Int):=by
     rw[S,T,oG _ (by omega),iY]
     have:((a:Int)+(b:Int)*4294967296)=((a+b*4294967296:Nat):Int):=by omega
     rw[this];rw[<-Eu,An];rfl
    have hc:(2:Int)^s=((2^s:Nat):Int):=by rw[KP];rfl
    rw[hc,y];refine⟨_,rfl,_,rfl,by rw[hV];exact D,h.set (by omega) (by omega),?_⟩
    rw[pT _ _ _ (by omega)]
    have hk:=abB (b:=b) O (show a< 4294967296 by omega)
    generalize(a+b*4294967296)/2^s%4294967296=t at*;show _=wv (sh u) i+(sh u).getD i 0*4294967296^i+_;rw[S]at U|-;rw[T];rw[pw];have K:(t:Int)*((2^s:Nat):Int)+(a:Int)%((2^s:Nat):Int)=(a:Int)+((b:Int)%((2^s:Nat):Int))*4294967296:=by
     rw[<-An,<-An,<-kj];omega
    generalize((2^s:Nat):Int)=p at*;have L:(t*p+(a:Int)%p)*4294967296^i=(a:Int)*4294967296^i+(b:Int)%p*(4294967296^i*4294967296):=by
     rw[K,fW,oH ((b:Int)%p),wU 4294967296 (4294967296^i)]
    rw[fW]at L;rw[fW (wv o i),wW (t:Int)];omega) ((0,()),(),bT m 0,()) ⟨_,rfl,gV,Dg.rep _,by
     show(0:Int)*_+_=0+_*1;omega⟩
   refine e.trans (vb (x:=some (sh A,nd (vN u/2^s),0,())) ?_);unfold FD;simp only[B,J,g,c,Z,l,k,d,gV,j,iK];rw[bb (by omega),ax]
   rw[show aF (UI (((m:Int),()),(),o,())) _=_ from pO o (by omega),fo]
   unfold UJ;simp only;have h1:=gv o o.length;rw[ia h1,ah,ah];simp only[J];have hz:(sh u).getD m 0=0:=by
    rw[oJ,jO (by omega)];rfl
   rw[hz,adw,gy,iK,cM o m (by omega),cM (sh u) m (by omega),gu]at U
   have x0:=I.at 0;have V:=dj h;have hq:vN o=vN u/2^s:=by
    have M:=KL ((sh u).getD 0 0) (show((2^s:Nat):Int)≠0 by omega)
    have N:=Er ((sh u).getD 0 0) (show(0:Int)<((2^s:Nat):Int) by omega)
    obtain⟨r,er⟩:=ix M;rw[er]at U N;rw[<-V,<-P]at U;have h5:vN u=vN o*2^s+r:=by
     have:((vN u:Nat):Int)=((vN o*2^s+r:Nat):Int):=by rw[KO,kj];exact U.symm
     omega
    rw[h5,mR,EO E,Av (by omega)];rfl
   rw[show ba (tl o o.length) o=nd (vN u/2^s)from zP h (by rw[<-V,hq])]
   rfl
theorem mA(l:List Int){n i:Nat}(h:i< n):(l.take n).getD i 0=l.getD i 0:=by
 grind
theorem ack(l:List Int)(j n:Nat)(h:j< l.length):wv (l.drop j) (n+1)=l.getD j 0+4294967296*wv (l.drop (j+1)) n:=by
 rw[eF h,R1,oJ,hJ h];rfl
theorem acm{l:List Int}{n:Nat}(h:∀i,n<=i->l.getD i 0=0):∀k,wv l (n+k)=wv l n
 |0=>rfl
 |k+1=>by
  show wv l (n+k)+l.getD (n+k) 0*_=_;rw[h _ (by omega),gy,iK,acm h k]
theorem agW{l:List Int}{n:Nat}(h:∀i,n<=i->l.getD i 0=0):dv l=wv l n:=by
 rw[<-acm h l.length,cM _ _ (by omega)]
theorem agK{A u qs:List Int}{j m s:Nat}(z:Int×Unit)(I:Dg A)(F:m+2<=A.length)(J:Dg u)(G:j+(m+2)< u.length)(X:u.length<=1099511627777)(Y:j< qs.length)(Z:2147483648<=A.getD (m+1) 0)
  (hT:wv (u.drop (j+1)) (m+2)< wv A (m+2)):
  ∃U o,xQ (s:Int) (z,(),A,()) (((m+2:Nat),()),(),()) (((j:Int),()),(),u,qs,())=ab (.inl (((j:Int)-1,()),(),o,qs.set j U,()))/\0<=U/\U< 4294967296/\o.length=u.length/\Dg o
   /\(∀i,i< j->o.getD i 0=u.getD i 0)/\(∀i,j+(m+2)< i->o.getD i 0=u.getD i 0)/\o.getD (j+(m+2)) 0=0/\U*wv A (m+2)+wv (o.drop j) (m+2)=wv (u.drop j) (m+3)/\wv (o.drop j) (m+2)< wv A (m+2):=by
 have e:w ((j:Int)+((m+2:Nat):Int))=((j+(m+2):Nat):Int):=by rw[aO (by omega) (by omega)];omega
 have hw:w (((j+(m+2):Nat):Int)+1)=((j+(m+3):Nat):Int):=by rw[aO (by omega) (by omega)];omega
 have H:∀m:Nat,aC m=(m:Int):=λ_=>rfl
 have x:∀m:Nat,(m:Int).toNat=m:=db;have K:=iS m;have L:Dg ((u.drop j).take (m+3)):=(Dg.drop J j).take _;have f:Dg (A.take (m+2)):=I.take _;have M:((u.drop j).take (m+3)).length=m+3:=by rw[gz,oK];omega
 have g:(A.take (m+2)).length=m+2:=by rw[gz];omega
 have a:(A.getD (m+1) 0*4294967296+A.getD m 0)*4294967296^m+wv A m=wv A (m+2):=by
  show _=wv A m+A.getD m 0*4294967296^m+A.getD (m+1) 0*4294967296^(m+1);rw[pw,fW,oH,wU (4294967296:Int) (4294967296^m)];omega
 have b:((u.getD (j+(m+2)) 0*4294967296+u.getD (j+(m+1)) 0)*4294967296+u.getD (j+m) 0)*4294967296^m+wv (u.drop j) m=wv (u.drop j) (m+3):=by
  show _=wv (u.drop j) m+(u.drop j).getD m 0*4294967296^m+(u.drop j).getD (m+1) 0*4294967296^(m+1)+(u.drop j).getD (m+2) 0*4294967296^(m+2);rw[lF,lF,lF,pw,pw,pw,fW,fW,fW];rw[wW _ 4294967296 (4294967296^m),wW (u.getD (j+(m+2)) 0) 4294967296 (4294967296^m),wW (u.getD (j+(m+1)) 0) 4294967296 (4294967296^m),<-oH,<-oH,<-oH];omega
 have k:=ack u j (m+2) (by omega)
 have xu:=J.at j;have l:wv (u.drop j) (m+3)< 4294967296*wv A (m+2):=by
  rw[k];omega
 have N:u.getD (j+(m+2)) 0<=A.getD (m+1) 0:=by
  have O:=(dA (Dg.drop J (j+1)) (m+1)).1;have Q:=(dA I (m+1)).2;have e1:wv (u.drop (j+1)) (m+2)=wv (u.drop (j+1)) (m+1)+u.getD (j+(m+2)) 0*4294967296^(m+1):=by
   show _+(u.drop (j+1)).getD (m+1) 0*_=_;rw[lF,show j+1+(m+1)=j+(m+2) by omega]
  have e2:wv A (m+2)=wv A (m+1)+A.getD (m+1) 0*4294967296^(m+1):=rfl;have c:u.getD (j+(m+2)) 0*4294967296^(m+1)<(A.getD (m+1) 0+1)*4294967296^(m+1):=by
   rw[fW,l8];omega
  have:=SD c (gU (iS (m+1)));omega
 obtain⟨q,R,S,T,y,B⟩:=ahY (u:=(u.drop j).take (m+3)) (v:=A.take (m+2)) (m:=m) (vr:=wv A m) (ur:=wv (u.drop j) m) (P:=4294967296^m) L f g M (by omega) K (dA I m).1 (dA I m).2 (dA (Dg.drop J j) m).1 (dA (Dg.drop J j) m).2
  (by rw[mA _ (by omega)];exact Z) (by rw[mA _ (by omega),mA _ (by omega),lF];exact N) (by
   rw[mA _ (by omega),mA _ (by omega),mA _ (by omega),mA _ (by omega),mA _ (by omega),lF,lF,lF,a,b]
   exact l)
 rw[mA _ (by omega),mA _ (by omega),mA _ (by omega),mA _ (by omega),mA _ (by omega),lF,lF,lF,a,b]at y B
 obtain⟨U,o,V,p0,C,lo,d,p,r,W,D⟩:=agQ (qs:=qs) (j:=j) (n:=m+2) z I F J G (by omega) S T y B
 have xo:=d.at (j+(m+2));have t:wv (o.drop j) (m+3)=wv (o.drop j) (m+2)+o.getD (j+(m+2)) 0*4294967296^(m+2):=by
  show _+(o.drop j).getD (m+2) 0*_=_;rw[lF]
 have E:o.getD (j+(m+2)) 0=0:=by
  have O:=(dA (Dg.drop d j) (m+2)).1;have Q:=(dA I (m+2)).2;have a3:wv (o.drop j) (m+3)< wv A (m+2):=D;rcases l7 0 (o.getD (j+(m+2)) 0)with h|h
  .have:1*4294967296^(m+2)<=o.getD (j+(m+2)) 0*4294967296^(m+2):=iy (by omega) (gU (iS _))
   rw[l8]at this;omega
  .omega
 rw[E,gy,iK]at t;refine⟨U,o,?_,p0,C,lo,d,p,r,E,by rw[<-t];exact W,by rw[<-t];exact D⟩
 unfold xQ;simp only[H,x,e,hw];rw[bQ (by omega),au,cE (by simp(disch:=omega) only [nk]),cE (by simp(disch:=omega) only [nk]),show j+(m+3)-j=m+3 by omega,R,ah,V,fo]
 unfold UU;simp only[x];rw[jk (by omega),l5 p0 C,aO (by omega) (by omega)]
 rfl
theorem agJ{A u qs:List Int}{m s L:Nat}(z:Int×Unit)(C:s<=31)(D:Dg A)(E:m+2<=A.length)(F:Dg u)(g:u.length=L+(m+2))(P:u.length<=1099511627777)(n:qs.length=L)(q:Dg qs)(U:2147483648<=A.getD (m+1) 0)
  (G:wv (u.drop L) (m+2)< wv A (m+2)):
  ∃a b:Nat,aF (xQ (s:Int) (z,(),A,()) (((m+2:Nat),()),(),())) (((L:Int)-1,()),(),u,qs,())=ab (nd a,nd (b/2^s),0,())/\dv u=(a:Int)*wv A (m+2)+(b:Int)/\(b:Int)< wv A (m+2):=by
 have Q:∀m:Nat,aC m=(m:Int):=λ_=>rfl
 have R:∀m:Nat,(m:Int).toNat=m:=db;obtain⟨_,e,o,p,rfl,lo,lp,d,dp,I,J,Z,c⟩:=Ci (step:=xQ (s:Int) (z,(),A,()) (((m+2:Nat),()),(),()))
  (λi st=>∃o p,st=((((L-i:Nat):Int)-1,()),(),o,p,())/\o.length=L+(m+2)/\p.length=L/\Dg o/\Dg p/\(∀k,k< L-i->o.getD k 0=u.getD k 0)/\(∀k,L-i+(m+2)<=k->o.getD k 0=0)/\wv (o.drop (L-i)) (m+2)< wv A (m+2)
   /\dv (u.drop (L-i))=dv (p.drop (L-i))*wv A (m+2)+wv (o.drop (L-i)) (m+2)) L (by
  rintro i _ hi ⟨o,p,rfl,lo,lp,d,dp,I,J,Z,c⟩;obtain⟨j,v⟩:∃j,L-i=j+1:=⟨L-i-1,by omega⟩
  have r:L-(i+1)=j:=by omega
  rw[v]at I J Z c;rw[v,r];obtain⟨H,K,e,M,N,O,d2,w,y,S,f,t⟩:=agK (s:=s) (qs:=p) (j:=j) z D E d (by omega) (by omega) (by omega) U Z
  rw[pr];refine⟨_,e,_,_,rfl,by omega,by grind,d2,dp.set M N,λk B=>by grind,λk B=>?_,t,?_⟩
  .rcases km (j+(m+2)) k with h|h
   all_goals grind
  .have T:=ack o j (m+2) (by omega)
   have f:H*wv A (m+2)+wv (K.drop j) (m+2)=wv (o.drop j) (m+2+1):=f;rw[FM _ _ _ (by omega),xS u j (by omega),c,<-I j (by omega)]
   grind) (((L:Int)-1,()),(),u,qs,()) ⟨u,qs,rfl,g,n,F,q,λ_ _=>rfl,λk B=>by
    grind,G,by
    rw[Nat.sub_zero,eM (l:=qs) (by omega)]
    show dv (u.drop L)=0*_+_;rw[gy,Int.zero_add,cM _ _ (by grind)]⟩
 rw[K0]at I J Z c;rw[jw,jw,jw]at c;rw[jw]at Z;have V:dv o=wv o (m+2):=agW λi hi=>J i (by omega)
 have W:=dj d;have X:=dj dp;refine⟨vN p,vN o,?_,by grind,by omega⟩
 refine e.trans (vb (x:=some (nd (vN p),nd (vN o/2^s),0,())) ?_);unfold xQ;rw[K0,dJ (by simp),ax]
 rw[show aF (UW ((((0:Nat):Int)-1,()),(),o,p,())) _=_ from pO p (by omega),fo]
 unfold UL;simp only;rw[ia (gv p p.length)];rw[show aF (UH ((((0:Nat):Int)-1,()),(),o,p,())) _=_ from pO o (by omega),fo,agI _ C d (by omega),pK dp]
 rfl
theorem RF{l:List Int}(h:Nm l):tl l l.length=l.length:=by
 cases e:l.length<;>first|rename_i n;show(if l.getD n 0=0 then tl l n else n+1)=n+1;rw[az];intro A;apply h;grind|rfl
theorem arZ{l:List Int}(h:Nm l):sh l=l:=by
 simp[sh,RF,h]
theorem U4 l:∀k,k<=l.length->dv l=wv l k+4294967296^k*dv (l.drop k)
 |0,_=>by rw[jw];show _=0+1*_;omega
 |k+1,h=>by
  rw[U4 l k (by omega),xS l k (by omega),pw]
  show _=wv l k+l.getD k 0*4294967296^k+_;grind
theorem sR{a b:Nat}(h:a<=b):(4294967296:Int)^a<=4294967296^b:=by
 obtain⟨k,rfl⟩:=Nat.le.dest h;rw[Ev];have h1:=iS a;have h2:=iS k;have:=wV (show 1<=4294967296^k by omega) (gU h1)
 omega
theorem agL{a A u0:List Int}{m s:Nat}(z:Int×Unit)(g:s<=31)(c:Dg A)(h:m+2<=A.length)(j:Dg u0)(hA:m+2<=(sh a).length)(B:(sh a).length<=1099511627774)(k:u0.length<=(sh a).length+2)(I:2147483648<=A.getD (m+1) 0)
  (l:dv u0< 2147483648*4294967296^(sh a).length):
  ∃p q:Nat,aF (Bh a (((tl a a.length:Nat),()),(),()) (s:Int) (z,(),A,()) (((m+2:Nat),()),(),())) ((u0,()),(),())=ab (nd p,nd (q/2^s),0,())/\dv u0=(p:Int)*wv A (m+2)+(q:Int)/\(q:Int)< wv A (m+2):=by
 have n:∀m:Nat,aC m=(m:Int):=λ_=>rfl
 have d:∀m:Nat,(m:Int).toNat=m:=db;have J:ba (tl a a.length) a=sh a:=rfl;obtain⟨_,e,u,rfl,o,U,f⟩:=Ci (step:=Bh a (((tl a a.length:Nat),()),(),()) (s:Int) (z,(),A,()) (((m+2:Nat),()),(),()))
  (λi st=>∃u,st=((u,()),(),())/\u.length=u0.length+i/\Dg u/\dv u=dv u0) ((sh a).length+1-u0.length) (by
  rintro i _ hi ⟨u,rfl,o,U,f⟩;unfold Bh;simp only[d,J];rw[bQ (by omega),au,cE (gb (by grind) (by grind))]
  refine⟨_,rfl,_,rfl,?_,?_,?_⟩
  .show (u++[0]).length=_;grind
  .intro x Z;rcases cB.1 Z with Z|Z
   .exact U x Z
   grind
  .show dv (u++[0])=_;rw[Mq,f];show _+_*(0+4294967296*0)=_;omega) ((u0,()),(),()) ⟨u0,rfl,rfl,j,rfl⟩
 obtain⟨L,r⟩:∃L,u.length=L+(m+2):=⟨u.length-(m+2),by omega⟩
 have t:=Dg.drop U L;have C:wv (u.drop L) (m+2)=dv (u.drop L):=cM _ _ (by grind)
 have D:=iS;have v:wv (u.drop L) (m+2)< wv A (m+2):=by
  have h1:=U4 u L (by omega)
  have h2:=(dA U L).1;have h3:4294967296^L*dv (u.drop L)< 4294967296^L*(2147483648*4294967296^(m+1)):=by
   have E:(4294967296:Int)^(sh a).length<=4294967296^(L+(m+1)):=sR (by omega)
   have F:4294967296^L*(2147483648*4294967296^(m+1))=2147483648*(4294967296:Int)^(L+(m+1)):=by
    grind
   omega
  have G:=Int.lt_of_mul_lt_mul_left h3 (gU (iS L));have H:=(dA c (m+1)).1;have K:2147483648*4294967296^(m+1)<=A.getD (m+1) 0*4294967296^(m+1):=iy I (gU (iS _));show _< wv A (m+1)+A.getD (m+1) 0*4294967296^(m+1);omega
 obtain⟨p,q,b,M,y⟩:=agJ (s:=s) (qs:=bT L 0) z g c h U r (by omega) gV (Dg.rep _) I v
 refine⟨p,q,?_,by omega,y⟩
 refine e.trans (vb (x:=some (nd p,nd (q/2^s),0,())) ?_);unfold Bh;have hw:w ((u.length:Int)-((m+2:Nat):Int))=(L:Int):=by rw[aO (by omega) (by omega)];omega
 simp only[d,J,n,hw,gV];rw[dJ (by omega),ax,cE (by simp(disch:=omega) only [nk]),aO (by omega) (by omega),b]
 rfl
theorem agM{a A X0:List Int}{m s:Nat} z zz(b:s<=31)(c:Dg A)(d:m+2<=A.length)(f:Dg X0)(hA:m+2<=(sh a).length)(g:(sh a).length<=1099511627774)(h:X0.length<=(sh a).length+1)(I:2147483648<=A.getD (m+1) 0)
  (i:dv X0< 2147483648*4294967296^(sh a).length):
  ∃p q:Nat,Bi a (((tl a a.length),()),(),()) (s) (z,(),A,()) (((m+2:Nat),()),(),()) (zz,(),X0,()) (((tl X0 X0.length),()),(),())=ab (nd p,nd (q/2^s),0,())/\dv X0=(p)*wv A (m+2)+(q)/\(q)< wv A (m+2):=by
 have j:=db;have h1:=gv X0 X0.length;have U:ba _ X0=sh X0:=rfl;have vs:dv (sh X0++[0])=dv X0:=by
  rw[Mq,gu];show _+_*(0+4294967296*0)=_;omega
 obtain⟨p,q,e,Z,k⟩:=agL (a:=a) (u0:=sh X0++[0]) (s:=s) z b c d (by
  intro x J;rcases cB.1 J with J|J
  .exact ke f x J
  grind) hA g (by grind) I (by omega)
 rw[vs]at Z;refine⟨p,q,?_,Z,k⟩;unfold Bi;simp only[j,U];rw[ia h1,cE (gb (by grind) (by grind)),n2,e]
theorem sH{l:List Int}(A:Dg l)(h:Nm l){n:Nat}(e:l.length=n+1):0< l.getD n 0:=by
 have h1:=(A.at n).1;rcases l7 0 (l.getD n 0)with h2|h2
 .omega
 .exfalso;apply h;grind
theorem apI{V0:List Int}{m s t:Nat}{R:Int}(k:s<=31)(I:Dg V0)(c:V0.length=m+3)(h1:2147483648<=t*2^s)(h2:t*2^s< 4294967296)(J:0<=R)(l:R< 4294967296^(m+1))
  (d:dv V0=(R+(t:Int)*4294967296^(m+1))*((2^s:Nat):Int)):tl V0 V0.length=m+2/\2147483648<=V0.getD (m+1) 0/\wv V0 (m+2)=dv V0:=by
 have e:0< 2^s:=mj (by omega)
 have hB:(4294967296:Nat)=2^(32-s)*2^s:=by rw[<-oM,show 32-s+s=32 by omega]
 have n:(t+1)*2^s<=4294967296:=by
  rw[hB]at h2|-;exact dM _ (Nat.lt_of_mul_lt_mul_right h2)
 have U:=iS (m+1);generalize hp:2^s=p at*;have f:(R+(t:Int)*4294967296^(m+1))*(p:Int)< 4294967296*4294967296^(m+1):=by
  have Z:R+(t:Int)*4294967296^(m+1)<((t+1:Nat):Int)*4294967296^(m+1):=by
   grind
  have a:=Int.mul_lt_mul_of_pos_right Z (show(0:Int)<(p:Int) by omega)
  have o:((t+1:Nat):Int)*4294967296^(m+1)*(p:Int)<=4294967296*4294967296^(m+1):=by
   rw[wW,<-kj];exact iy (by omega) (gU U)
  omega
 have g:2147483648*4294967296^(m+1)<=(R+(t:Int)*4294967296^(m+1))*(p:Int):=by
  rw[fW,wW,<-kj];have Z:0<=R*(p:Int):=rG J (by omega)
  have a:2147483648*4294967296^(m+1)<=((t*p:Nat):Int)*4294967296^(m+1):=iy (by omega) (gU U)
  omega
 rw[<-d]at f g;have b:dv V0=wv V0 (m+1)+V0.getD (m+1) 0*4294967296^(m+1)+V0.getD (m+2) 0*(4294967296^(m+1)*4294967296):=by
  rw[<-cM V0 (m+3) (by omega)];rfl
 have i:=I.at (m+1);have q:=I.at (m+2);have r:=dA I (m+1);have j:V0.getD (m+2) 0=0:=by
  rcases l7 0 (V0.getD (m+2) 0)with h|h
  .have Z:1*(4294967296^(m+1)*4294967296)<=V0.getD (m+2) 0*(4294967296^(m+1)*4294967296):=iy (by omega) (by omega)
   have a:0<=V0.getD (m+1) 0*4294967296^(m+1):=rG i.1 (by omega)
   omega
  .omega
 rw[j,gy,iK]at b;have A:2147483648<=V0.getD (m+1) 0:=by
  have:2147483648*4294967296^(m+1)<(V0.getD (m+1) 0+1)*4294967296^(m+1):=by
   rw[fW,l8];omega
  have:=SD this (gU U);omega
 refine⟨?_,A,b.symm⟩;rw[c];show(if V0.getD (m+2) 0=0 then(if V0.getD (m+1) 0=0 then tl V0 (m+1)else m+2)else m+3)=m+2;grind
theorem FL{a b:List Int}(E:Dg a)(W:Dg b)(la:a.length<=1099511627774)(lb:b.length<=1099511627774):
  divMod a b=ab (if vN b=0 then([],[],9,())else(nd (vN a/vN b),nd (vN a%vN b),0,())):=by
 have U:∀m:Nat,(m:Int).toNat=m:=db;have C:∀m:Nat,aC m=(m:Int):=λ_=>rfl
 have h1:=gv a a.length;have h2:=gv b b.length;have l1:=nE a;have l2:=nE b;have i:=ke E;have A:=ke W;have F:dv (sh a)=(vN a:Int):=by rw[gu,dj E]
 have g:dv (sh b)=(vN b:Int):=by rw[gu,dj W]
 have X:vN (sh a)=vN a:=by simp[vN,gu]
 have wb:vN (sh b)=vN b:=by simp[vN,gu]
 have I:ba (tl a a.length) a=sh a:=rfl;have c:ba (tl b b.length) b=sh b:=rfl;have G:tl (sh a) (sh a).length=(sh a).length:=RF (mM a);have H:tl (sh b) (sh b).length=(sh b).length:=RF (mM b);have Y:w 0=0:=aO (by omega) (by omega)
 unfold divMod;rw[show aF (UF a) _=_ from nI a (by omega),fo]
 unfold US;rw[ia h1,show aF (UG b) _=_ from nI b (by omega),fo]
 unfold UR;simp only[U,I,c];rw[ia h2];by_cases K:(sh b).length=0
 .have:vN b=0:=by
   rw[w8.1 K]at g;have:(0:Int)=(vN b:Int):=g;omega
  rw[dF (by omega),au,aK this]
 .have j:0< vN b:=by
   rcases Nat.eq_zero_or_pos (vN b)with h|h
   .exfalso;have:=FP A (mM b) (by omega)
    grind
   omega
  rw[bM (by omega),ax,az (by omega),Uo i A (by omega) (by omega),ah,X,wb]
  by_cases J:vN a< vN b
  .unfold fX;rw[aK J,aX (by omega),au,cE (gb (by omega) (by omega)),Av J,xb J,pK E,amB]
  .have hc:ao (fX (vN a) (vN b)) 0=af:=by
    unfold fX;rw[az J];split
    all_goals rfl
   rw[hc,ax];by_cases L:(sh b).length=1
   .obtain ⟨d,ed⟩:=List.length_eq_one_iff.1 L;have hd:=A d (by grind)
    have M:d=(vN b:Int):=by
     rw[<-g,ed];show d=d+4294967296*0;omega
    rw[dF (by omega),au,ed]
    show(one (sh a) d).bind _=_;rw[am6 i (by omega) (by omega) (by omega),ah,X,M,U]
    have hm:=nT (vN a) j;obtain⟨r,er⟩:∃r,r=vN a%vN b:=⟨_,rfl⟩;rw[<-er]at hm|-;show(sf (wu ((r:Nat):Int))).bind _=_;rw[bS (by omega) (by omega),Gi (by omega) (by omega),ah,U]
   .obtain ⟨m,hm⟩:∃m,(sh b).length=m+2:=⟨(sh b).length-2,by omega⟩
    have arE:=sH A (mM b) (n:=m+1) (by omega)
    have k:=A.at (m+1);obtain⟨t,ht⟩:=ix k.1;obtain⟨s,es,l,N,O⟩:=amd (n:=t) (by omega) (by omega)
    have D:(bif aj ((s:Nat):Int) 4096 then((s:Nat):Int)else 4096)=(s:Int):=by rw[bQ (by omega),au]
    have Z:(s:Int).tdiv 32=0:=Ey (by omega) (by omega)
    have P:dv (sh b)=wv (sh b) (m+1)+(t:Int)*4294967296^(m+1):=by
     rw[<-cM (sh b) (m+2) (by omega),<-ht];rfl
    have Q:m+2<=(sh a).length:=by
     rcases km (sh a).length (m+2)with h|h
     .have:=xV i A (mM b) (by omega)
      rw[F,g]at this;omega
     .exact h
    rw[bM (by omega),ax,aO (by omega) (by omega),show((sh b).length:Int)-1=((m+1:Nat):Int) by omega,eg (by omega),ht,es,ah,cE (bQ (by omega))]
    rw[show aF (UM b ((((tl b b.length:Nat):Int),()),(),())) ((((sh b).length:Int),()),(),())=_ from nI (sh b) (by omega),fo,H]
    have u:ba (sh b).length (sh b)=sh b:=SJ;have v:ba (sh a).length (sh a)=sh a:=SJ;unfold UQ;simp only[U,c,u,C,D,Z,Y,iK];rw[ia (aJ _),aO (n:=((sh b).length:Int)) (by omega) (by omega),aO (n:=((sh b).length:Int)+1) (by omega) (by omega),cE (by simp(disch:=omega) only [nk]),agO]
    simp only[U,c,u,C,D];obtain⟨V0,eV,lV,dV,S⟩:=Rc (s:=s) (Rd.aL (sh b)) (λst=>(cg (aF (FH st) ((↑st.2.2.1.length,()),(),())) (FG a ((((tl a a.length:Nat):Int),()),(),()) (s:Int) st)).bind λz=>aH z) A l (by omega)
    rw[show(((sh b).length:Int)+1).toNat=(sh b).length+1 by omega,eV]
    rw[g]at S;obtain⟨t1,t2,t3⟩:=apI (V0:=V0) (m:=m) (t:=t) (R:=wv (sh b) (m+1)) l dV (by omega) N O (dA A (m+1)).1 (dA A (m+1)).2 (by rw[S,<-g,P])
    refine vb ((Rb (Rd.aL (sh b)) _).trans ?_);rw[show aF (FH ((((sh b).length:Int),()),(),V0,())) _=_ from pO V0 (by omega),fo,t1]
    unfold FG;simp only[U,I];rw[ia (by omega),show aF (UT a ((((tl a a.length:Nat):Int),()),(),())) ((((sh a).length:Int),()),(),())=_ from nI (sh a) (by omega),fo,G]
    unfold UO;simp only[U,I,v,C,D,Z,Y,iK];rw[ia (aJ _),aO (n:=((sh a).length:Int)) (by omega) (by omega),aO (n:=((sh a).length:Int)+1) (by omega) (by omega),cE (by simp(disch:=omega) only [nk]),agN]
    simp only[U,I,v,C,D];obtain⟨X0,eX,lX,dX,T⟩:=Rc (s:=s) (Rd.aL (sh a)) (λst=>(cg (aF (FI st) ((↑st.2.2.1.length,()),(),())) (Bi a ((((tl a a.length:Nat):Int),()),(),()) (s:Int) ((((sh b).length:Int),()),(),V0,()) ((((m+2:Nat):Int),()),(),()) st)).bind λz=>aH z) i l (by omega)
    rw[show(((sh a).length:Int)+1).toNat=(sh a).length+1 by omega,eX]
    rw[F]at T;have e:0< 2^s:=mj (by omega)
    have arC:2^s<=2147483648:=rH (n:=2) (by omega) l
    have y:dv X0< 2147483648*4294967296^(sh a).length:=by
     have a1:=(dA i (sh a).length).2;rw[cM _ _ (aJ _),F]at a1;rw[T,wU];have a2:((2^s:Nat):Int)*(vN a:Int)<((2^s:Nat):Int)*4294967296^(sh a).length:=Int.mul_lt_mul_of_pos_left a1 (by omega)
     have a3:((2^s:Nat):Int)*4294967296^(sh a).length<=2147483648*4294967296^(sh a).length:=iy (by omega) (gU (iS _))
     omega
    obtain⟨p,q,eD,V,hq⟩:=agM (a:=a) (s:=s) (((sh b).length:Int),()) (((sh a).length:Int),()) l dV (by omega) dX Q (by omega) (by omega) t2 y
    rw[t3,S]at V hq;rw[T]at V;have hN:vN a*2^s=p*(vN b*2^s)+q:=by
     have:((vN a*2^s:Nat):Int)=((p*(vN b*2^s)+q:Nat):Int):=by
      rw[KO,kj,kj,kj];exact V
     omega
    have B:q< vN b*2^s:=by
     rw[<-kj]at hq;omega
    have f:0< vN b*2^s:=ad9 j e;have ep:vN a/vN b=p:=by
     rw[<-ad7 _ _ e,hN,mR p,EO f,Av B];rfl
    have eq:vN a%vN b=q/2^s:=by
     have:vN a%vN b*2^s=q:=by
      rw[<-KY,hN,mR p,SM,xb B]
     rw[<-this,ad6 _ e]
    rw[ep,eq];refine congrArg (λo=>Option.bind o _) (vb (x:=some (nd p,nd (q/2^s),0,())) ((Rb (Rd.aL (sh a)) _).trans ?_))
    .rw [show aF (FI ((((sh a).length:Int),()),(),X0,())) _=_ from pO X0 (by omega),fo,eD]
     rfl
theorem lM{p q:Nat}(h:p<=q):(nd p).length<=(nd q).length:=by
 rcases km (nd q).length (nd p).length with h1|h1
 .have:=xV (dO q) (dO p) (vi p) h1;grind[nn]
 omega
theorem sG{n:Nat}(h:(nd n).length=0):n=0:=amA.1 (w8.1 h)
theorem ahO{a b:List Int}(J:Dg a)(U:Dg b)(g:a.length<=1099511627774)(i:b.length<=1099511627774):gcd a b=ab (nd (gD (vN a) (vN b))):=by
 unfold gcd;have Z:=zO a;have c:=zO b;rw[pK J]at Z;rw[pK U]at c;rw[HT (by omega) J,ah,HT (by omega) U,ah]
 obtain⟨r,e,rfl⟩:=eh (step:=MS) (λs=>∃p q:Nat,s=((nd p,nd q,()),(),())/\(nd p).length<=1099511627774/\(nd q).length<=1099511627774/\gD p q=gD (vN a) (vN b)) (λs=>vN s.1.2.1) (λr=>r=nd (gD (vN a) (vN b))) (by
  rintro _ ⟨p,q,rfl,hp,I,d⟩;unfold MS;dsimp only;by_cases h:(nd q).length=0
  .right;have:=sG h;subst this;rw[bb (by omega),ax]
   refine⟨_,rfl,?_⟩;grind
  .left;have A:q≠0:=λf=>h (by rw[f];rfl)
   rw[aX (by omega),au,FL (dO p) (dO q) hp I,fF,fF,az A,ah]
   have hm:=nT p (aec A);refine⟨_,rfl,⟨q,p%q,rfl,I,bU (lM (cX hm)) I,?_⟩,?_⟩
   .rw [<-d,KV p q,adW q p,KV]
   .show vN (nd (p%q))< _;rw[fF];exact hm) ((nd (vN a),nd (vN b),()),(),()) ⟨_,_,rfl,by omega,by omega,rfl⟩
 exact e
def dC(n:Nat):Nat:=if n=0 then 0 else n.log2+1
theorem LJ{n k:Nat}(h1:n< 2^k)(h2:2^(k-1)<=n)(I:1<=k):dC n=k:=by
 have A:n≠0:=by
  grind
 unfold dC;rw[az A];have J:=(adZ A).2 h1;have U:=(Nat.le_log2 A).2 h2;omega
theorem Cj(n:Nat):n< 2^dC n:=by
 unfold dC;split
 all_goals simp_all[Nat.one_pos,Nat.lt_log2_self]
theorem TT{n k:Nat}(h:n< 2^k):dC n<=k:=by
 unfold dC;split
 .omega
 .rename_i A;have:=(adZ A).2 h;omega
theorem TQ{a:List Int}(U:Dg a)(p:a.length<=1099511627774):bitLen a=ab (dC (vN a):Int):=by
 have c:∀m:Nat,(m:Int).toNat=m:=db;have h1:=gv a a.length;have q:=nE a;have I:=ke U;have J:dv (sh a)=(vN a:Int):=by rw[gu,dj U]
 unfold bitLen;rw[show aF (TO a) _=_ from nI a (by omega),fo]
 unfold TP;simp only[c];rw[show ba (tl a a.length) a=sh a from rfl,ia h1];cases e:(sh a).length with
 |zero=>
  have:vN a=0:=by
   rw[w8.1 e]at J;have:(0:Int)=(vN a:Int):=J;omega
  rw[dF (by omega),au,this]
  rfl
 |succ m=>
  have Z:=sH I (mM a) e;have A:=I.at m;obtain⟨t,b⟩:=ix A.1;rw[bM (by omega),ax,aO (n:=((m+1:Nat):Int)-1) (by omega) (by omega),pr,eg (by omega),b]
  obtain⟨k,d,k1,k2,f,g⟩:=Yh (n:=t) (by omega) (by omega)
  rw[d,ah,aO (n:=32*(m:Int)) (by omega) (by omega),aO (by omega) (by omega)]
  have r:vN a=(wv (sh a) m).toNat+t*2^(32*m):=by
   have hw:=dA I m;have h:dv (sh a)=wv (sh a) m+(sh a).getD m 0*4294967296^m:=by
    rw[<-cM (sh a) (m+1) (by omega)];rfl
   rw[b,J]at h;have i:(4294967296:Int)^m=((2^(32*m):Nat):Int):=by
    simp[SP,KP]
   grind
  have j:(wv (sh a) m).toNat< 2^(32*m):=by
   have hw:=dA I m;have i:(4294967296:Int)^m=((2^(32*m):Nat):Int):=by
    simp[SP,KP]
   omega
  have l:dC (vN a)=32*m+k:=by
   refine LJ ?_ ?_ (by omega)
   .rw [oM];have o:(t+1)*2^(32*m)<=2^k*2^(32*m):=dM _ f;grind
   .rw [show 32*m+k-1=32*m+(k-1) by omega,oM,mR (2^(32*m))]
    have o:=dM (2^(32*m)) g;omega
  simp[l]
theorem tk1(l:List Int){i:Nat}(h:i< l.length):l.take i++[l.getD i 0]=l.take (i+1):=by
 simp_all
theorem sa{l:List Int}(h:Dg l){d:Int}(I:0<=d)(h1:d< 4294967296):Dg (l++[d]):=by
 intro x A;rcases cB.1 A with A|A
 .exact h x A
 grind
theorem Bl(l:List Int)(d:Int):dv (l++[d])=dv l+d*4294967296^l.length:=by
 rw[Mq];show _+_*(d+4294967296*0)=_;grind
theorem pG{α:Type}(l:List α)(x:α)(n:Nat)(h:(l.length+1)*n<=70368744177664)(A:1<=n):bW (l.length+[x].length) n=ag:=by
 refine gb h ?_;show l.length+1<=_;have:=adX (l.length+1) A;omega
theorem aay{a:List Int}(h:a.length<=2199023255552):iU a=ab (sh a):=by
 have h1:=gv a a.length;unfold iU;rw[show aF (aaz a) _=_ from nI a (by omega)]
 obtain⟨r,e,rfl⟩:=eh (step:=Ql a ((((tl a a.length)),()),(),())) (λs=>∃i:Nat,s=((a.take i,(i:Int),()),(),())/\i<=tl a a.length) (λs=>((tl a a.length)-s.1.2.1).toNat) (λr=>r=sh a) (by
  rintro _ ⟨i,rfl,hi⟩;unfold Ql;dsimp only;by_cases h2:i< tl a a.length
  .left;rw[aX (by omega),eg (by omega),cE (pG _ _ _ (by grind) (by omega)),n2,tk1 a (by omega),aO (by omega) (by omega)]
   refine⟨_,rfl,⟨i+1,rfl,by omega⟩,?_⟩
   grind
  .right;rw[bb (by omega)]
   exact⟨_,rfl,by rw[show i=tl a a.length by omega];rfl⟩) (([],0,()),(),()) ⟨0,rfl,by omega⟩
 exact e
theorem lR{a:List Int}(h:a.length<=2199023255552)(A:Dg a):iU a=ab (nd (vN a)):=by rw[aay h,pK A]
theorem pA{a:List Int}(h:Dg a)(i:Nat):kQ a i=ab (a.getD i 0):=by
 unfold kQ;have A:=h.at i;by_cases hi:i< a.length
 .rw [bb (by omega),qV,ah,dJ (by omega),ax,eg hi,bS (by omega) (by omega)]
 .rw [bb (by omega),qV,ah,bQ (by omega),oJ,jO (by omega)];rfl
theorem Fb{o:List Int}{t P:Int}(A:P=4294967296^o.length):dv (o++[t%4294967296])+t/4294967296*(P*4294967296)=dv o+t*P:=by
 rw[Bl];grind
theorem an5{a:List Int}{f:Int}(I:Dg a)(h:a.length<=1099511627776)(f0:0<=f)(f1:f< 4294967296):ID a f=ab (nd (vN a*f.toNat)):=by
 have b:=dj I;unfold ID;obtain⟨r,e,rfl⟩:=eh (step:=Qp a f) (λs=>∃(o:List Int) (c:Int) (i:Nat),s=((o,c,(i:Int),()),(),())/\i<=a.length/\o.length=i/\Dg o/\0<=c/\c< 4294967296/\dv o+c*4294967296^i=wv a i*f) (λs=>((a.length:Int)-s.1.2.2.1).toNat) (λr=>r=nd (vN a*f.toNat)) (by
  rintro _ ⟨o,c,i,rfl,hi,J,U,c0,c1,d⟩;unfold Qp;dsimp only;by_cases h2:i< a.length
  .left;have Z:=I.at i;have hm:=yH Z.1 Z.2 f0 f1;rw[aX (by omega),au,eg h2,bS (n:=a.getD i 0) (by omega) (by omega),bS (n:=a.getD i 0*f) (by omega) (by omega),bS (n:=_+c) (by omega) (by omega),kv,iY,cE (pG _ _ _ (by omega) (by omega)),n2,aO (by omega) (by omega)]
   refine⟨_,rfl,⟨_,_,i+1,rfl,by omega,by grind,sa U (by omega) (by omega),by omega,by omega,?_⟩,?_⟩
   .rw [pw,Fb (by rw[J]),fW]
    show _=(wv a i+a.getD i 0*4294967296^i)*f;grind
   grind
  .right;obtain rfl:i=a.length:=by omega
   have A:Dg (o++[c]):=sa U c0 c1;rw[bb (by omega),ax,l5 c0 c1,cE (pG _ _ _ (by omega) (by omega)),n2,lR (by grind) A,ah,ah]
   refine⟨_,rfl,?_⟩;congr 1;have g:=dj A;rw[Bl,J,d,cM _ _ (aJ _),<-b]at g;grind) (([],0,0,()),(),()) ⟨[],0,0,rfl,by omega,rfl,Dg.nil,by omega,by omega,by
    show(0:Int)+0*_=0*f;omega⟩
 exact e
theorem aar{a b:List Int}(J:Dg a)(U:Dg b)(j:a.length<=1099511627776)(k:b.length<=1099511627776):Iy a b=ab (nd (vN a+vN b)):=by
 have l:=dj J;have p:=dj U;obtain⟨m,hm,Z,A⟩:∃m:Nat,(bif aj (a.length:Int) (b.length:Int)then(b.length:Int)else(a.length:Int))=(m:Int)/\a.length<=m/\b.length<=m/\m<=1099511627776:=by
  by_cases h:a.length<=b.length
  .exact ⟨b.length,by rw[bQ (by omega)];rfl,h,aJ _,k⟩
  .exact ⟨a.length,by rw[dJ (by omega)];rfl,aJ _,by omega,j⟩
 have d:=A.1;have q:=A.2;unfold Iy;obtain⟨r,e,rfl⟩:=eh (step:=Qe a b) (λs=>∃(o:List Int) (c:Int) (i:Nat),s=((o,c,(i:Int),()),(),())/\i<=m/\o.length=i/\Dg o/\0<=c/\c<=1/\dv o+c*4294967296^i=wv a i+wv b i) (λs=>((m:Int)-s.1.2.2.1).toNat) (λr=>r=nd (vN a+vN b)) (by
  rintro _ ⟨o,c,i,rfl,hi,f,g,c0,c1,t⟩;unfold Qe;dsimp only;rw[hm];by_cases h2:i< m
  .left;have v:=J.at i;have w:=U.at i;rw[aX (by omega),au,pA J,ah,pA U,ah,bS (n:=a.getD i 0+b.getD i 0) (by omega) (by omega),bS (n:=_+c) (by omega) (by omega),kv,iY,cE (pG _ _ _ (by omega) (by omega)),n2,aO (by omega) (by omega)]
   refine⟨_,rfl,⟨_,_,i+1,rfl,by omega,by grind,sa g (by omega) (by omega),by omega,by omega,?_⟩,?_⟩
   .rw [pw,Fb (by rw[f]),fW,fW]
    show _=wv a i+a.getD i 0*4294967296^i+(wv b i+b.getD i 0*4294967296^i);omega
   grind
  .right;obtain rfl:i=m:=by omega
   have I:Dg (o++[c]):=sa g c0 (by omega)
   rw[bb (by omega),ax,l5 c0 (by omega),cE (pG _ _ _ (by omega) (by omega)),n2,lR (by grind) I,ah,ah]
   refine⟨_,rfl,?_⟩;congr 1;have u:=dj I;rw[Bl,f,t,cM _ _ Z,cM _ _ d,<-l,<-p]at u;omega) (([],0,0,()),(),()) ⟨[],0,0,rfl,by omega,rfl,Dg.nil,by omega,by omega,rfl⟩
 exact e
theorem aat{a b:List Int}(I:Dg a)(J:Dg b)(c:a.length<=1099511627776)(d:b.length<=1099511627776):C1 a b=ab (fX (vN a) (vN b)):=by
 have k:=dj I;have l:=dj J;obtain⟨m,hm,U,Z,f⟩:∃m:Nat,(bif aj (a.length:Int) (b.length:Int)then(b.length:Int)else(a.length:Int))=(m:Int)/\a.length<=m/\b.length<=m/\m<=1099511627776:=by
  by_cases h:a.length<=b.length
  .exact ⟨b.length,by rw[bQ (by omega)];rfl,h,aJ _,d⟩
  .exact ⟨a.length,by rw[dJ (by omega)];rfl,aJ _,by omega,c⟩
 have n:=cM a m U;have o:=cM b m Z;unfold C1;rw[hm,aO (by omega) (by omega)]
 obtain⟨r,e,rfl⟩:=eh (step:=Iz a b) (λs=>∃i:Nat,s=(((i:Int)-1,()),(),())/\i<=m/\∀j,i<=j->j< m->a.getD j 0=b.getD j 0) (λs=>(s.1.1+1).toNat) (λr=>r=fX (vN a) (vN b)) (by
  rintro _ ⟨i,rfl,hi,g⟩;have A:=R3 a b hi g;cases i with
  |zero=>
   right;unfold Iz;rw[dJ (by trivial),ax]
   refine⟨_,rfl,?_⟩;have:wv a m-wv b m=0:=A;have e:vN a=vN b:=by omega
   unfold fX;omega
  |succ i=>
   unfold Iz;simp only[pr];rw[bQ (by omega),au,pA I,ah,pA J,ah]
   by_cases h1:a.getD i 0< b.getD i 0
   .right;rw[aX h1,au];refine⟨_,rfl,?_⟩;have:=Kk I J h1;unfold fX;omega
   .rw [bb (by omega),ax,ah,ah]
    by_cases h2:b.getD i 0< a.getD i 0
    .right;rw[aX h2,au];refine⟨_,rfl,?_⟩;have:=Kk J I h2;unfold fX;omega
    .left;rw[bb (by omega),ax,aO (by omega) (by omega)]
     refine⟨_,rfl,⟨i,rfl,by omega,λj h3 p=>?_⟩,?_⟩
     all_goals grind) (((m:Int)-1,()),(),()) ⟨m,rfl,aJ _,λj h1 h2=>by omega⟩
 exact e
theorem y9{a b:List Int}(I:Dg a)(J:Dg b)(f:a.length<=1099511627776)(g:b.length<=1099511627776):vJ a b=ab (if vN a< vN b then([],af,())else(nd (vN a-vN b),ag,())):=by
 have q:=dj I;have u:=dj J;unfold vJ;rw[aat I J f g,ah];by_cases A:vN a< vN b
 .rw [aK A];unfold fX;rw[aK A,aX (by omega),au]
 .have h:ao (fX (vN a) (vN b)) 0=af:=by
   unfold fX;rw[az A];split
   all_goals rfl
  rw[az A,h,ax];obtain⟨r,e,rfl⟩:=eh (step:=Qo a b) (λs=>∃(o:List Int) (c:Int) (i:Nat),s=((o,c,(i:Int),()),(),())/\i<=a.length/\o.length=i/\Dg o/\0<=c/\c<=1/\dv o-c*4294967296^i=wv a i-wv b i) (λs=>((a.length:Int)-s.1.2.2.1).toNat) (λr=>r=(nd (vN a-vN b),ag,())) (by
   rintro _ ⟨o,c,i,rfl,hi,j,U,c0,c1,k⟩;unfold Qo;dsimp only;by_cases h2:i< a.length
   .left;have v:=I.at i;have w:=J.at i;rw[aX (by omega),au,pA I,ah,pA J,ah,bS (n:=4294967296+a.getD i 0) (by omega) (by omega),bS (n:=_-b.getD i 0) (by omega) (by omega),bS (n:=_-c) (by omega) (by omega),kv,iY,bS (by omega) (by omega),cE (pG _ _ _ (by omega) (by omega)),n2,aO (by omega) (by omega)]
    refine⟨_,rfl,⟨_,_,i+1,rfl,by omega,by grind,sa U (by omega) (by omega),by omega,by omega,?_⟩,?_⟩
    .generalize x:4294967296+a.getD i 0-b.getD i 0-c=t;have h3:=Fb (o:=o) (t:=t) (P:=4294967296^i) (by rw[j])
     rw[pw,oI 1,l8];show _=wv a i+a.getD i 0*4294967296^i-(wv b i+b.getD i 0*4294967296^i);grind
    grind
   .right;obtain rfl:i=a.length:=by omega
    rw[bb (by omega),ax,lR (by omega) U,ah,ah]
    refine⟨_,rfl,?_⟩;have y:=dj U;have Z:(sh b).length<=a.length:=by
     rcases km a.length (sh b).length with d|d
     .have:=xV I (ke J) (mM b) d;grind[gu]
     omega
    have l:wv b a.length=dv b:=by rw[tF,cM _ _ Z,gu]
    rw[cM _ _ (aJ _),l]at k;have m:=dA U a.length;rw[cM _ _ (by omega)]at m
    have p:c=0:=by
     grind
    grind) (([],0,0,()),(),()) ⟨[],0,0,rfl,by omega,rfl,Dg.nil,by omega,by omega,rfl⟩
  exact e
theorem an6{a:List Int}{n:Nat}(b:Dg a)(h:a.length<=1099511627776)(g:n<=31):IE a (n:Int)=ab (nd (vN a*2^n)):=by
 have j:=dj b;have Z:0< 2^n:=mj (by omega)
 have hp:2^n<=2147483648:=rH (n:=2) (by omega) g
 have U:(n:Int).tdiv 32=0:=Ey (by omega) (by omega)
 have hm:(n:Int).tmod 32=(n:Int):=KR (by omega) (by omega)
 have k:w 0=0:=aO (by omega) (by omega)
 have A:n.min 64=n:=mi (by omega)
 have l:(2:Int)^n=((2^n:Nat):Int):=by rfl
 unfold IE;rw[U,k,cE (by rfl)]
 obtain⟨p,I⟩:∃p,p=2^n:=⟨_,rfl⟩;rw[<-I]at Z hp|-;obtain⟨r,e,rfl⟩:=eh (step:=Qq a (n:Int)) (λs=>∃(o:List Int) (c:Int) (i:Nat),s=((o,c,(i:Int),()),(),())/\i<=a.length/\o.length=i/\Dg o/\0<=c/\c< 4294967296/\dv o+c*4294967296^i=wv a i*(p:Int)) (λs=>((a.length:Int)-s.1.2.2.1).toNat) (λr=>r=nd (vN a*p)) (by
  rintro _ ⟨o,c,i,rfl,hi,d,U,c0,c1,m⟩;unfold Qq;dsimp only;rw[hm,bS (n:=(n:Int)) (by omega) (by omega),db,A]
  by_cases h2:i< a.length
  .left;have f:=b.at i;have q:=yH (y:=(p:Int)) f.1 f.2 (by omega) (by omega)
   rw[aX (by omega),au,eg h2,l,<-I,bS (n:=a.getD i 0) (by omega) (by omega),bS (n:=a.getD i 0*(p:Int)) (by omega) (by omega),bS (n:=_+c) (by omega) (by omega),kv,iY,cE (pG _ _ _ (by omega) (by omega)),n2,aO (by omega) (by omega)]
   refine⟨_,rfl,⟨_,_,i+1,rfl,by omega,by grind,sa U (by omega) (by omega),by omega,by omega,?_⟩,?_⟩
   .rw [pw,Fb (by rw[d]),fW]
    show _=(wv a i+a.getD i 0*4294967296^i)*(p:Int);grind
   grind
  .right;obtain rfl:i=a.length:=by omega
   have J:Dg (o++[c]):=sa U c0 c1;rw[bb (by omega),ax,l5 c0 c1,cE (pG _ _ _ (by omega) (by omega)),n2,lR (by grind) J,ah,ah]
   refine⟨_,rfl,?_⟩;congr 1;have t:=dj J;rw[Bl,d,m,cM _ _ (aJ _),<-j]at t;omega) (([],0,0,()),(),()) ⟨[],0,0,rfl,by omega,rfl,Dg.nil,by omega,by omega,by
    show(0:Int)+0*_=0*_;omega⟩
 exact e
theorem Qi{a:List Int}{n:Nat}(A:Dg a)(h:a.length<=1099511627776)(I:n<=31):qZ a (n:Int)=ab (nd (vN a*2^n)):=by
 unfold qZ;rw[bQ (by omega),au,bQ (by omega),au,an6 A h I,ah]
theorem aax{a:List Int}{n:Nat}(I:Dg a)(h:a.length<=1099511627776)(m:n<=31):qZ a (w (0-(n:Int)))=ab (nd (vN a/2^n)):=by
 have q:=dj I;by_cases z:n=0
 .subst z;have:w (0-((0:Nat):Int))=((0:Nat):Int):=aO (by omega) (by omega)
  rw[this,Qi I h (by omega),aed,Nat.mul_one,SK]
 .have f:0< 2^n:=mj (by omega)
  have hp:2^n<=2147483648:=rH (n:=2) (by omega) m
  have B:(n:Int).tdiv 32=0:=Ey (by omega) (by omega)
  have hm:(n:Int).tmod 32=(n:Int):=KR (by omega) (by omega)
  have C:w (0-(n:Int))= -(n:Int):=by rw[aO (by omega) (by omega)];omega
  have J:w (0- -(n:Int))=(n:Int):=by rw[aO (by omega) (by omega)];omega
  have D:w 0=0:=aO (by omega) (by omega)
  have U:n.min 64=n:=mi (by omega)
  have E:(2:Int)^n=((2^n:Nat):Int):=by rfl
  unfold qZ;rw[C,dJ (by omega),ax,aO (by omega) (by omega)]
  by_cases d:a.length=0
  .have:vN a=0:=by
    rw[w8.1 d]at q;have:((vN a:Nat):Int)=0:=by rw[w8.1 d];rfl
    omega
   rw[aX (by omega),au,this,K1]
   rfl
  .rw [bb (by omega),ax,J,B,D]
   obtain⟨r,e,rfl⟩:=eh (step:=Qn a (-(n:Int))) (λs=>∃(o:List Int) (i:Nat),s=((o,(i:Int),()),(),())/\i<=a.length/\o.length=i/\Dg o/\dv o*((2^n:Nat):Int)+a.getD 0 0%((2^n:Nat):Int)=wv a i+a.getD i 0%((2^n:Nat):Int)*4294967296^i) (λs=>((a.length:Int)-s.1.2.1).toNat) (λr=>r=nd (vN a/2^n)) (by
    rintro _ ⟨o,i,rfl,hi,F,A,Z⟩;unfold Qn;dsimp only;rw[J,hm,bS (n:=(n:Int)) (by omega) (by omega),db,U]
    by_cases h2:i< a.length
    .left;have G:=I.at i;have H:=I.at (i+1);obtain⟨x,u⟩:=ix G.1;obtain⟨y,v⟩:=ix H.1;rw[aX (by omega),au,aO (n:=(i:Int)+1) (by omega) (by omega),show(i:Int)+1=((i+1:Nat):Int) by omega,pA I,ah,pA I,ah,u,v,bS (n:=(y:Int)*4294967296) (by omega) (by omega),bS (by omega) (by omega)]
     have c:wr .u32 (((y:Int)*4294967296+(x:Int)).fdiv ((2^n:Nat):Int))=(((x+y*4294967296)/2^n%4294967296:Nat):Int):=by
      rw[oG _ (by omega),iY,show(y:Int)*4294967296+(x:Int)=((x+y*4294967296:Nat):Int) by omega,<-Eu,An]
      rfl
     rw[E,c,cE (pG _ _ _ (by omega) (by omega)),n2]
     refine⟨_,rfl,⟨_,i+1,rfl,by omega,by grind,sa A (by omega) (by omega),?_⟩,?_⟩
     .have O:=abB (b:=y) m (show x< 4294967296 by omega)
      rw[Bl,F,pw];generalize(x+y*4294967296)/2^n%4294967296=t at*;show _=wv a i+a.getD i 0*4294967296^i+_;rw[u]at Z|-;rw[v];have g:(t:Int)*((2^n:Nat):Int)+(x:Int)%((2^n:Nat):Int)=(x:Int)+((y:Int)%((2^n:Nat):Int))*4294967296:=by
       rw[<-An,<-An,<-kj];omega
      generalize((2^n:Nat):Int)=p at*;have j:(t*p+(x:Int)%p)*4294967296^i=(x:Int)*4294967296^i+(y:Int)%p*(4294967296^i*4294967296):=by
       rw[g,fW,oH ((y:Int)%p),wU 4294967296 (4294967296^i)]
      rw[fW]at j;rw[fW (dv o),wW (t:Int)];omega
     grind
    .right;obtain rfl:i=a.length:=by omega
     rw[bb (by omega),ax,lR (by omega) A,ah,ah]
     refine⟨_,rfl,?_⟩;have d:a.getD a.length 0=0:=by
      rw[oJ,jO (by omega)];rfl
     rw[d,adw,gy,iK,cM _ _ (aJ _)]at Z;have K:=dj A;have k:=KL (a.getD 0 0) (show((2^n:Nat):Int)≠0 by omega)
     have l:=Er (a.getD 0 0) (show(0:Int)<((2^n:Nat):Int) by omega)
     obtain⟨r,L⟩:=ix k;rw[L]at Z l;rw[<-K,<-q]at Z;have M:vN a=vN o*2^n+r:=by
      have:((vN a:Nat):Int)=((vN o*2^n+r:Nat):Int):=by rw[KO,kj];exact Z.symm
      omega
     have N:vN a/2^n=vN o:=by
      rw[M,mR,EO f,Av (by omega)];rfl
     rw[N]) (([],0,()),(),()) ⟨[],0,rfl,by omega,rfl,Dg.nil,by
      show(0:Int)*_+_=0+_*1;omega⟩
   exact e
theorem TS{n:Nat}(h:n≠0):2^(dC n-1)<=n:=by
 simp[dC,az,h,EI,Nat.log2_self_le]
theorem AQ{n:Nat}(h:n≠0):1<=dC n:=by
 simp[dC,az,h]
theorem afu{v:Nat}(h:0< v):dC v=dC (v/2)+1:=by
 refine LJ ?_ ?_ (by omega)
 .have:=Cj (v/2);omega
 .rw [EI];by_cases h1:v/2=0
  .rw [h1];trivial
  .have a:=TS h1;have b:=AQ h1;have:2^dC (v/2)=2*2^(dC (v/2)-1):=by
    rw[<-Nat.pow_succ',show(dC (v/2)-1).succ=dC (v/2) by omega]
   omega
theorem Mt(m:Nat):(4294967296:Int)^m=((2^(32*m):Nat):Int):=by simp[SP,KP]
theorem ab2{l:List Int}{m t:Nat}(A:Dg l)(e:l.length=m+1)(I:l.getD m 0=(t:Int))(b:0< t):dC (vN l)=32*m+dC t:=by
 have hw:=dA A m;have J:dv l=wv l m+(t)*4294967296^m:=by
  rw[<-cM l (m+1) (by omega),<-I];rfl
 rw[<-dj A,Mt]at J;rw[Mt]at hw;have U:=Cj t;have Z:=TS (n:=t) (by omega)
 have k1:=AQ (n:=t) (by omega)
 refine LJ ?_ ?_ (by omega)
 .have a:(t+1)*2^(32*m)<=2^dC t*2^(32*m):=dM _ U;grind
 .rw [show 32*m+dC t-1=32*m+(dC t-1) by omega,oM,mR (2^(32*m))]
  have a:=dM (2^(32*m)) Z;omega
theorem aas{a:List Int}(J:Dg a)(f:a.length<=1099511627774):C0 a=ab (dC (vN a):Int):=by
 have g:=zO a;have I:=ke J;have U:dv (sh a)=(vN a:Int):=by rw[gu,dj J]
 have d:vN (sh a)=vN a:=by simp[vN,gu]
 unfold C0;rw[aay (by omega),ah]
 cases e:(sh a).length with
 |zero=>
  have:vN a=0:=by
   rw[w8.1 e]at U;have:(0:Int)=(vN a:Int):=U;omega
  rw[dF (by omega),au,this]
  rfl
 |succ m=>
  have Z:=sH I (mM a) e;have A:=I.at m;obtain⟨t,b⟩:=ix A.1;rw[bM (by omega),ax,aO (n:=((m+1:Nat):Int)-1) (by omega) (by omega),pr,eg (by omega),b,aO (by omega) (by omega)]
  have c:=ab2 I e b (by omega)
  rw[d]at c;have i:=TT (n:=t) (k:=32) (by omega)
  obtain⟨r,j,rfl⟩:=eh (step:=Qf) (λs=>∃n v:Nat,s=(((n:Int),(v:Int),()),(),())/\v< 4294967296/\n+dC v=dC (vN a)) (λs=>s.1.2.1.toNat) (λr=>r=(dC (vN a):Int)) (by
   rintro _ ⟨n,v,rfl,l,o⟩;unfold Qf;dsimp only;by_cases h:0< v
   .left;have h2:=afu h;rw[aX (by omega),au,aO (by omega) (by omega),KQ (by omega),l5 (by omega) (by omega)]
    refine⟨_,rfl,⟨n+1,v/2,by rfl,by omega,by omega⟩,?_⟩
    grind
   .right;obtain rfl:v=0:=by omega
    have p:dC 0=0:=rfl;exact⟨_,rfl,by omega⟩) (((32*(m:Int)),(t:Int),()),(),()) ⟨32*m,t,by rfl,by omega,c.symm⟩
  omega
theorem g9{n k:Nat}(h:(n:Int)< 4294967296^k):(nd n).length<=k:=by
 rcases km k (nd n).length with h1|h1
 .obtain ⟨m,hm⟩:∃m,(nd n).length=m+1:=⟨(nd n).length-1,by omega⟩
  have h2:=sH (dO n) (vi n) hm;have h3:=dA (dO n) m;have A:dv (nd n)=wv (nd n) m+(nd n).getD m 0*4294967296^m:=by
   rw[<-cM _ (m+1) (by omega)];rfl
  rw[nn]at A;have I:1*4294967296^m<=(nd n).getD m 0*4294967296^m:=iy (by omega) (gU (iS m))
  have J:=sR (a:=k) (b:=m) (by omega)
  omega
 omega
theorem amz(n:Nat):(n:Int)< 4294967296^(nd n).length:=by
 have:=(dA (dO n) (nd n).length).2;rwa[cM _ _ (aJ _),nn]at this
theorem aaA{X Y:Nat}(i:0< Y)(h:X< 4294967296*Y)(w:(nd Y).length<=1099511627770):C4 (nd X) (nd Y)=ab (((X/Y:Nat):Int),nd (X%Y),()):=by
 obtain⟨m,hm⟩:∃m,(nd Y).length=m+1:=⟨(nd Y).length-1,by
  have:(nd Y).length≠0:=λh=>by have:=sG h;omega
  omega⟩
 have A:=dO X;have J:=dO Y;have j:=amz Y;have d:(nd X).length<=m+2:=g9 (by
  grind)
 have top:=sH J (vi Y) hm;have x:=J.at m;have y:=A.at (m+1);have z:=A.at m;have B:(X:Int)=wv (nd X) m+(nd X).getD m 0*4294967296^m+(nd X).getD (m+1) 0*(4294967296^m*4294967296):=by
  rw[<-nn X,<-cM (nd X) (m+2) d];rfl
 have C:(Y:Int)=wv (nd Y) m+(nd Y).getD m 0*4294967296^m:=by
  rw[<-nn Y,<-cM (nd Y) (m+1) (by omega)];rfl
 have E:=dA A m;have F:=dA J m;have k:=iS m;unfold C4;rw[hm,pA A,ah,aO (n:=((m+1:Nat):Int)-1) (by omega) (by omega),pr,pA A,ah,eg (by omega)]
 generalize(nd X).getD (m+1) 0=a at*;generalize(nd X).getD m 0=b at*;generalize(nd Y).getD m 0=c at*;rw[bS (n:=c) (by omega) (by omega),n3 (by omega),bS (n:=a*4294967296) (by omega) (by omega),bS (n:=a*4294967296+b) (by omega) (by omega),KQ (by omega)]
 have f:0<=(a*4294967296+b)/c:=Ep (by omega) (by omega)
 have l:(a*4294967296+b)/c<=a*4294967296+b:=Int.ediv_le_self _ (by omega)
 rw[bS f (by omega)]
 have G:((X/Y:Nat):Int)<=(a*4294967296+b)/c:=by
  rw[Int.le_ediv_iff_mul_le (by omega)]
  have h1:X/Y*Y<=X:=Nat.div_mul_le_self X Y;have h2:((X/Y:Nat):Int)*(Y:Int)<=(X:Int):=by omega
  have h3:((X/Y:Nat):Int)*(c*4294967296^m)<=((X/Y:Nat):Int)*(Y:Int):=wV (by omega) (Int.natCast_nonneg _)
  obtain⟨D,o⟩:∃D:Int,D=((X/Y:Nat):Int):=⟨_,rfl⟩;rw[<-o]at h2 h3|-;have p:D*c*4294967296^m<(a*4294967296+b+1)*4294967296^m:=by
   grind
  have H:=SD p (gU k);omega
 have hB:X/Y< 4294967296:=KU (by omega)
 obtain⟨q,eq,Z⟩:∃q:Nat,(bif aj ((a*4294967296+b)/c) 4294967295 then(a*4294967296+b)/c else 4294967295)=(q:Int)/\X/Y<=q/\q<=4294967295:=by
  by_cases h1:(a*4294967296+b)/c<=4294967295
  .rw [bQ h1,au];exact⟨((a*4294967296+b)/c).toNat,by omega,by omega,by omega⟩
  .rw [dJ (by omega),ax]
   grind
 rw[eq,an5 J (by omega) (by omega) (by omega),ah,fF,db]
 have U:∀q:Nat,q<=4294967295->(nd (Y*q)).length<=m+2:=λq h1=>g9 (by
  rw[show m+2=m+1+1 by omega,pw,<-hm,kj]
  have:(Y:Int)*(q:Int)<=(Y:Int)*4294967295:=wV (by omega) (by omega)
  omega)
 obtain⟨r,e,rfl⟩:=eh (step:=Qm (nd X) (nd Y)) (λs=>∃q:Nat,s=(((q:Int),nd (Y*q),()),(),())/\X/Y<=q/\q<=4294967295) (λs=>s.1.1.toNat) (λr=>r=(((X/Y:Nat):Int),nd (X%Y),())) (by
  rintro _ ⟨q,rfl,h1,h2⟩;have K:=U q h2;unfold Qm;dsimp only;rw[aat (dO _) A (by omega) (by omega),ah,fF,fF]
  by_cases t:X< Y*q
  .left;have Z:1<=q:=by
    grind
   have u:X/Y< q:=KU t;have I:fX (Y*q) X=1:=by
    unfold fX;omega
   have v:Y<=Y*q:=adX Y Z;rw[I,aX (by omega),au,y9 (dO _) J (by omega) (by omega),fF,fF,az (by omega),ah,bS (by omega) (by omega)]
   refine⟨_,rfl,⟨q-1,?_,by omega,by omega⟩,?_⟩
   all_goals grind
  .right;have I:ao 0 (fX (Y*q) X)=af:=by
    unfold fX;split
    .exact bb (by omega)
    .exact bb (by omega)
   have g:q=X/Y:=by
    have:q<=X/Y:=(Nat.le_div_iff_mul_le i).2 (by grind)
    omega
   rw[I,ax,y9 A (dO _) (by omega) (by omega),fF,fF,az (by omega),ah,ah]
   refine⟨_,rfl,?_⟩;have:X-Y*q=X%Y:=by
    have:=EK X Y;grind
   rw[this,g]) (((q:Int),nd (Y*q),()),(),()) ⟨q,rfl,Z.1,Z.2⟩
 exact e
theorem cpR{rem q:List Int}{j d:Int}(h:rem.length<=1099511627776):aF (IA ((rem,j,()),(),q,())) (([d],0,()),(),())=ab (.inl ((d::rem,()),(),())):=by
 obtain⟨r,e,rfl⟩:=eh (step:=IA ((rem,j,()),(),q,())) (λs=>∃i:Nat,s=((d::rem.take i,(i:Int),()),(),())/\i<=rem.length) (λs=>((rem.length)-s.1.2.1).toNat) (λr=>r=.inl ((d::rem,()),(),())) (by
  rintro _ ⟨i,rfl,hi⟩;unfold IA;dsimp only;by_cases h2:i< rem.length
  .left;rw[aX (by omega),eg h2,cE (pG _ _ _ (by grind) (by omega)),n2,List.cons_append,tk1 rem h2,aO (by omega) (by omega)]
   refine⟨_,rfl,⟨i+1,rfl,by omega⟩,?_⟩
   grind
  .right;rw[bb (by omega),show i=rem.length by omega,SJ]
   exact⟨_,rfl,rfl⟩) (([d],0,()),(),()) ⟨0,rfl,by omega⟩
 exact e
theorem aqz{d:Int}{R:Nat}(A:0<=d)(h1:d< 4294967296):vN (d::nd R)=d.toNat+4294967296*R:=by
 have e:=dj (l:=d::nd R) (Dg.cons A h1 (dO R));have:dv (d::nd R)=d+4294967296*dv (nd R):=rfl;rw[this,nn]at e;omega
theorem an7{y0 l2:List Int}{y1:Int}{V s r0 R:Nat}{q:List Int}(k:s<=31)(hw:w (w (32*(y0.length:Int))-y1)=(s:Int))(c:0< V)(Z:(nd V).length<=1099511627770)(d2:Dg l2)(l:l2.length<=1099511627776)(n:r0<=l2.length)(o:q.length=l2.length)(p:Dg q)(r:R< V)
  (t:dv (l2.drop r0)=dv (q.drop r0)*(V:Int)+(R:Int)):
  ∃Q A:Nat,aF (C3 y0 y1 l2 (nd V)) ((nd R,(r0:Int)-1,()),(),q,())=ab (nd Q,nd (A/2^s),0,())/\vN l2=Q*V+A/\A< V:=by
 have u:∀m:Nat,(m:Int).toNat=m:=db;obtain⟨_,e,A,d,rfl,h1,h2,h3,J⟩:=Ci (step:=C3 y0 y1 l2 (nd V)) (λi st=>∃(R:Nat) (q:List Int),st=((nd R,((r0-i:Nat):Int)-1,()),(),q,())/\q.length=l2.length/\Dg q/\R< V/\dv (l2.drop (r0-i))=dv (q.drop (r0-i))*(V:Int)+(R:Int)) r0 (by
  rintro i _ hi ⟨R,q,rfl,h1,h2,h3,J⟩;obtain⟨j,f⟩:∃j,r0-i=j+1:=⟨r0-i-1,by omega⟩
  have a:r0-(i+1)=j:=by omega
  rw[f]at J;rw[f,a];have U:=d2.at j;have v:(nd R).length<=(nd V).length:=lM (cX h3);have g:(l2.getD j 0).toNat+4294967296*R< 4294967296*V:=by omega
  have hB:((l2.getD j 0).toNat+4294967296*R)/V< 4294967296:=KU (by rw[mR V];exact g)
  have hm:=nT ((l2.getD j 0).toNat+4294967296*R) c;have b:=EK ((l2.getD j 0).toNat+4294967296*R) V;unfold C3;simp only[pr];rw[bQ (by omega),au,eg (by omega),cpR (by omega),fo]
  unfold aav;simp only[u];rw[lR (by rw[List.length_cons];omega) (Dg.cons U.1 U.2 (dO R)),ah,aqz U.1 U.2,aaA c g Z,ah]
  generalize((l2.getD j 0).toNat+4294967296*R)/V=Q at*;generalize n:((l2.getD j 0).toNat+4294967296*R)%V=h at*;rw[jk (by omega),l5 (by omega) (by omega),aO (by omega) (by omega)]
  refine⟨_,rfl,h,_,rfl,by rw[hV];exact h1,h2.set (by omega) (by omega),hm,?_⟩
  rw[FM _ _ _ (by omega),xS l2 j (by omega),J,fW,oH 4294967296]
  have I:(V:Int)*(Q:Int)+(h:Int)=(((l2.getD j 0).toNat+4294967296*R:Nat):Int):=by rw[<-b,KO,kj]
  rw[wU (V:Int)]at I;dsimp only;omega) ((nd R,(r0:Int)-1,()),(),q,()) ⟨R,q,rfl,o,p,r,t⟩
 rw[K0,jw,jw]at J;have y:=dj h2;have z:=dj d2;have v:(nd A).length<=(nd V).length:=lM (cX h3);refine⟨vN d,A,e.trans (vb (x:=some (nd (vN d),nd (A/2^s),0,())) ?_),?_,h3⟩
 .unfold C3;rw[K0,dJ (by show((0:Nat):Int)-1< 0;omega),ax,hw]
  dsimp only;rw[lR (by omega) h2,ah,aax (dO A) (by omega) k,ah,fF]
  rfl
 grind
theorem aau{a b:List Int}(i:Dg a)(f:Dg b)(la:a.length<=1099511627770)(lb:b.length<=1099511627770):
  C2 a b=ab (if vN b=0 then([],[],9,())else(nd (vN a/vN b),nd (vN a%vN b),0,())):=by
 have g:∀m:Nat,(m:Int).toNat=m:=db;have l2:=zO b;rw[pK f]at l2;unfold C2;rw[lR (by omega) f,ah]
 obtain⟨X,j⟩:∃X,X=vN a:=⟨_,rfl⟩;obtain⟨Y,v⟩:∃Y,Y=vN b:=⟨_,rfl⟩;rw[<-j,<-v];rw[<-v]at l2;by_cases x:(nd Y).length=0
 .rw [dF (by omega),au,aK (sG x)]
 .have o:Y≠0:=λh=>x (by rw[h];rfl)
  obtain⟨m,hm⟩:∃m,(nd Y).length=m+1:=⟨(nd Y).length-1,by omega⟩
  have top:=sH (dO Y) (vi Y) hm;have U:=(dO Y).at m;obtain⟨t,E⟩:=ix U.1;have f:=ab2 (dO Y) hm E (by omega)
  rw[fF]at f;have hk:=TT (n:=t) (k:=32) (by omega)
  have F:=AQ (n:=t) (by omega)
  obtain⟨s,hs⟩:∃s,s=32-dC t:=⟨_,rfl⟩;have hw:w (w (32*((nd Y).length:Int))-(dC Y:Int))=(s:Int):=by
   rw[aO (n:=32*_) (by omega) (by omega),aO (by omega) (by omega)];omega
  have A:0< 2^s:=mj (by omega)
  have I:0< Y*2^s:=ad9 (by omega) A
  have G:(nd (Y*2^s)).length<=m+1:=g9 (by
   rw[Mt];have h1:Y*2^s< 2^dC Y*2^s:=ad8 (Cj Y) A;rw[<-oM,show dC Y+s=32*(m+1) by omega]at h1
   omega)
  rw[bM (by omega),ax,az o,aas (dO Y) (by omega),ah,fF,hw,Qi i (by omega) (by omega),ah,Qi (dO Y) (by omega) (by omega),ah,fF,<-j]
  have y:2^s<=4294967296:=rH (n:=2) (by omega) (show s<=32 by omega)
  have H:(nd (X*2^s)).length<=a.length+1:=g9 (by
   have h1:=(dA i a.length).2;rw[cM _ _ (aJ _),<-dj i,<-j]at h1;rw[pw,kj];have h2:(X:Int)*((2^s:Nat):Int)<=(X:Int)*4294967296:=wV (by omega) (by omega)
   omega)
  have d2:=dO (X*2^s);have v2:=nn (X*2^s);rw[cE (by simp(disch:=omega) only [nk]),g]
  have p:∀Q J:Nat,X*2^s=Q*(Y*2^s)+J->J< Y*2^s->ab (nd Q,nd (J/2^s),(0:Int),())=ab (nd (X/Y),nd (X%Y),0,()):=λQ J Z z=>by
   have K:X/Y=Q:=by
    rw[<-ad7 _ _ A,Z,mR Q,EO I,Av z];rfl
   have eq:X%Y=J/2^s:=by
    have:X%Y*2^s=J:=by
     rw[<-KY,Z,mR Q,SM,xb z]
    rw[<-this,ad6 _ A]
   rw[K,eq]
  cases e:(nd (X*2^s)).length with
  |zero=>
   have L:=sG e;have r:X=0:=by
    rcases Nat.mul_eq_zero.1 L with h|h
    .exact h
    .omega
   rw[aO (n:=((0:Nat):Int)-1) (by omega) (by omega),dJ (by omega),ax,lR (by rw[gV];omega) (Dg.rep _),ah,aax Dg.nil (by show 0<=_;omega) (by omega),ah,r,K1,Nat.zero_mod]
   show ab (nd (vN []),nd (vN []/2^s),(0:Int),())=_;rw[show vN []=0 from rfl,K1]
  |succ k=>
   have M:=d2.at k;obtain⟨d,B⟩:=ix M.1;have C:w (((k+1:Nat):Int)-1)=(k:Int):=by rw[aO (by omega) (by omega)];omega
   have N:d< 4294967296*(Y*2^s):=by omega
   have hB:d/(Y*2^s)< 4294967296:=KU (by rw[mR (Y*2^s)];omega)
   have c:=nT d I;have O:=EK d (Y*2^s);rw[C,bQ (by omega),au,eg (by omega),B]
   have P:aF Qg (([(d:Int)],0,()),(),())=ab (.inl (([(d:Int)],()),(),())):=bD (by
    unfold Qg;dsimp only;rw[bb (Es 0),ax];rfl)
   rw[P,fo];unfold aaw;dsimp only;have S:Dg [(d:Int)]:=Dg.cons (by omega) (by omega) Dg.nil
   have T:vN [(d:Int)]=d:=by
    show((d:Int)+4294967296*0).toNat=d;omega
   have D:=g ((nd (X*2^s)).length);rw[lR (by show 1<=_;omega) S,ah,T,aaA I N (by omega),ah,g,e,C,jk (by rw[gV];omega)]
   generalize d/(Y*2^s)=Q at*;generalize d%(Y*2^s)=R at*;dsimp only;rw[l5 (by omega) (by omega),aO (n:=(k:Int)-1) (by omega) (by omega),g]
   obtain⟨W,R2,e2,Z,u⟩:=an7 (y0:=nd Y) (y1:=(dC Y:Int)) (l2:=nd (X*2^s)) (V:=Y*2^s) (s:=s) (r0:=k) (R:=R) (q:=(bT (k+1) 0).set k (Q:Int)) (by omega) hw I (by omega) d2 (by omega) (by omega) (by rw[hV,gV,e]) ((Dg.rep _).set (by omega) (by omega)) c (by
    rw[FM _ _ _ (by rw[gV];omega),xS _ k (by omega),B,eM (l:=nd (X*2^s)) (by omega),eM (l:=bT (k+1) 0) (by rw[gV];omega)]
    show(d:Int)+4294967296*0=((Q:Int)+4294967296*0)*_+_;rw[KN,iK,iK,<-kj,mR];omega)
   rw[fF]at Z;rw[e2];exact p W R2 Z u
theorem an2{a b:List Int}(J:Dg a)(U:Dg b)(g:a.length<=1099511627770)(i:b.length<=1099511627770):IB a b=ab (nd (gD (vN a) (vN b))):=by
 unfold IB;have Z:=zO a;have c:=zO b;rw[pK J]at Z;rw[pK U]at c;rw[lR (by omega) J,ah,lR (by omega) U,ah]
 obtain⟨r,e,rfl⟩:=eh (step:=Qh) (λs=>∃p q:Nat,s=((nd p,nd q,()),(),())/\(nd p).length<=1099511627770/\(nd q).length<=1099511627770/\gD p q=gD (vN a) (vN b)) (λs=>vN s.1.2.1) (λr=>r=nd (gD (vN a) (vN b))) (by
  rintro _ ⟨p,q,rfl,hp,I,d⟩;unfold Qh;dsimp only;by_cases h:(nd q).length=0
  .right;have:=sG h;subst this;rw[bb (by omega),ax]
   refine⟨_,rfl,?_⟩;grind
  .left;have A:q≠0:=λf=>h (by rw[f];rfl)
   rw[aX (by omega),au,aau (dO p) (dO q) hp I,fF,fF,az A,ah]
   have hm:=nT p (aec A);refine⟨_,rfl,⟨q,p%q,rfl,I,bU (lM (cX hm)) I,?_⟩,?_⟩
   .rw [<-d,KV p q,adW q p,KV]
   .show vN (nd (p%q))< _;rw[fF];exact hm) ((nd (vN a),nd (vN b),()),(),()) ⟨_,_,rfl,by omega,by omega,rfl⟩
 exact e
theorem an8{a b:List Int}(l:Dg a)(m:Dg b){L i:Nat}{W:Int}{o:List Int}(hi:i< a.length)(B:i+b.length< L)(q:L<=2199023255562)(u:o.length=L)(v:Dg o)(x:∀j,i+b.length<=j->o.getD j 0=0)(y:wv o L=W):
  ∃r,aF (Qj a b (((i:Int),()),(),o,())) ((0,0,()),(),o,())=ab r/\∃I,r=.inl ((((i+1:Nat):Int),()),(),I,())/\I.length=L/\Dg I/\(∀j,i+1+b.length<=j->I.getD j 0=0)/\wv I L=W+a.getD i 0*dv b*4294967296^i:=by
 have e:=l.at i;refine eh (λs=>∃(c:Int) (k:Nat) (p:List Int),s=((c,(k:Int),()),(),p,())/\k<=b.length/\p.length=L/\Dg p/\0<=c/\c< 4294967296/\(∀j,i+b.length<=j->p.getD j 0=0)/\wv p L+c*4294967296^(i+k)=W+a.getD i 0*wv b k*4294967296^i) (λs=>((b.length:Int)-s.1.2.1).toNat) _ ?_ _ ⟨0,0,o,rfl,by omega,u,v,by omega,by omega,x,by rw[y,gy,show wv b 0=0 from rfl,KN,gy]⟩
 rintro _ ⟨c,k,p,rfl,C,hp,A,J,U,Z,d⟩;unfold Qj;dsimp only;have f:w ((i:Int)+(k:Int))=((i+k:Nat):Int):=by rw[aO (by omega) (by omega)];rfl
 by_cases h:k< b.length
 .left;have g:=m.at k;have D:=A.at (i+k);have hm:=yH e.1 e.2 g.1 g.2;rw[aX (by omega),au,eg hi,eg h,f,jk (by omega),jk (by omega),db]
  rw[bS (n:=a.getD i 0) (by omega) (by omega),bS (n:=b.getD k 0) (by omega) (by omega),bS (n:=p.getD (i+k) 0) (by omega) (by omega),bS (n:=a.getD i 0*b.getD k 0) (by omega) (by omega),bS (n:=a.getD i 0*b.getD k 0+_) (by omega) (by omega),bS (n:=_+c) (by omega) (by omega),kv,iY,aO (by omega) (by omega)]
  generalize E:a.getD i 0*b.getD k 0+p.getD (i+k) 0+c=t;refine⟨_,rfl,⟨_,k+1,_,rfl,by omega,by grind,A.set (by omega) (by omega),by omega,by omega,λj z=>?_,?_⟩,?_⟩
  .grind
  .rw [z7 _ _ _ (by omega) _ (by omega)]
   show _+t/4294967296*4294967296^(i+k+1)=_;show _=W+a.getD i 0*(wv b k+b.getD k 0*4294967296^k)*4294967296^i;grind
  grind
 .right;obtain rfl:k=b.length:=by omega
  rw[bb (by omega),ax,f,jk (by omega),db,l5 (n:=c) J U,aO (by omega) (by omega)]
  refine⟨_,rfl,_,rfl,by grind,A.set J U,λj z=>?_,?_⟩
  .rw [mz _ _ _ _ (by omega),az (by omega)]
   grind
  .rw [z7 _ _ _ (by omega) _ (by omega),Z (i+b.length) (aJ _),SF,d,cM _ _ (aJ _)]
theorem an3{a b:List Int}(I:Dg a)(J:Dg b)(p:a.length<=1099511627774)(q:b.length<=1099511627774):IC a b=ab (nd (vN a*vN b)):=by
 have Z:=dj I;have c:=dj J;unfold IC;have hw:w (w ((a.length)+(b.length))+1)=((a.length+b.length+1:Nat)):=by
  rw[aO (n:=(a.length)+_) (by omega) (by omega),aO (by omega) (by omega)];omega
 rw[hw,cE (by simp(disch:=omega) only [nk])]
 obtain⟨r,e,rfl⟩:=eh (step:=Qk a b)
  (λs=>∃(i:Nat) (o:List Int),s=(((i:Int),()),(),o,())/\i<=a.length/\o.length=a.length+b.length+1/\Dg o/\(∀j,i+b.length<=j->o.getD j 0=0)/\wv o _=wv a i*dv b) (λs=>((a.length)-s.1.1).toNat) (λr=>r=nd (vN a*vN b)) (by
  rintro _ ⟨i,o,rfl,hi,d,A,f,U⟩;unfold Qk;dsimp only;by_cases h:i< a.length
  .left;rw[aX (by omega)]
   obtain⟨r,e,g,rfl,k,q2,l,q4⟩:=an8 I J (L:=a.length+b.length+1) (i:=i) (o:=o) h (by omega) (by omega) d A f U
   rw[e];refine⟨_,rfl,⟨i+1,g,rfl,by omega,k,q2,l,?_⟩,?_⟩
   .show _=(wv a i+a.getD i 0*4294967296^i)*dv b;grind
   grind
  .right;obtain rfl:i=a.length:=by omega
   rw[bb (by omega),lR (by omega) A,ah]
   refine⟨_,rfl,?_⟩;congr 1;have m:=dj A;rw[<-cM o (a.length+b.length+1) (by omega),U,cM _ _ (aJ _),<-Z,<-c]at m
   omega) _ ⟨0,_,rfl,by omega,gV,Dg.rep _,λj _=>by
    grind,by
    rw[show wv a 0=0 from rfl,cM _ _ (by simp)]
    simp[Mr]⟩
 exact e
end Go.Proofs.YtceibfdaacdjlaaGreatDoor
end
