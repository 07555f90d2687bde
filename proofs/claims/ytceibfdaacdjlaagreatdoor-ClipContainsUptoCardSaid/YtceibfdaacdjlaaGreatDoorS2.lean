/- A part of the proof. -/
import Derived.Test.YtceibfdaacdjlaaGreatDoorS1
set_option linter.all false
open Bool renaming and_eq_true->aM,false->af,not_eq_true->hG,or_eq_false_iff->oF,or_eq_true->mP,true->ag
open Int renaming ofNat->aC
open List renaming append_assoc->mc,append_nil->jv,ext_getElem?->Ar,filterMap_append->adC,getElem?_append_left->hH,getElem?_append_right->jx,getElem?_eq_getElem->hJ,getElem?_eq_none->jO,getElem?_eq_some_iff->e7,getElem?_map->nS,getElem?_of_mem->EB,getElem?_set->wZ,getElem?_take_of_lt->adH,length_append->dD,length_cons->jP,length_map->gd,length_set->hV,length_take->gz,map_append->p8,map_map->tW,map_replicate->Au,mem_append->cB,mem_cons->eT,mem_cons_of_mem->gB,mem_cons_self->e8,mem_map->lg,mem_of_getElem?->lj,mem_singleton->gW,nodup_append->adK,nodup_cons->adL,rec->a8,replicate->bT
open Nat renaming add_zero->tX,beq->ak,beq_refl->iZ,ble->bp,ble_eq->adU,ble_eq_true_of_le->kl,blt->cA,eq_of_beq_eq_true->bR,le_add_right->SL,le_max_left->EM,le_max_right->EN,le_of_ble_eq_true->gX,le_of_lt->cX,le_refl->aJ,le_trans->bU,lt_of_le_of_lt->ad0,lt_of_lt_of_le->eU,lt_of_succ_lt_succ->ad1,not_lt->SN,zero_add->cV,zero_le->bX
open Option renaming bind_eq_some_iff->ay,bind_some->ah,map_eq_some_iff->bu,none->ae,rec->dB,some->ab
open Option.some renaming inj->fu
open Prod renaming fst->eN,snd->gF
open Prod.mk renaming inj->SQ
open Sum renaming inl->aU,inr->bg
noncomputable section
namespace Go.As
section
variable [Gh]
theorem jz{f:Nat->Bool}:∀{l:List Nat},ef f l=ag->∀b∈l,f b=ag
 |[],_,b,A=>by cases A
 |a::l,e,b,A=>by
  have e:(bif f a then ef f l else af)=ag:=e;cases I:f a with
  |false=>grind
  |true=>
   rw[I]at e;rcases eT.1 A with rfl|A
   .omega
   .exact jz e b A
theorem jX:∀{l:List Nat} {b:Nat},aY l b=ag↔b∈l
 |[],b=>by simp[aY]
 |a::l,b=>by
  show(bif ak a b then ag else aY l b)=ag↔_;cases A:ak a b with
  |true=>
   simp_all
  |false=>
   rw[ax,jX,eT];constructor
   .exact .inr
   .rintro (rfl|h)
    all_goals simp_all
theorem yQ:∀{l:List Nat},iF l=ag->l.Nodup
 |[],_=>List.nodup_nil
 |a::l,e=>by
  have e:(bif aY l a then af else iF l)=ag:=e;cases A:aY l a with
  |true=>grind
  |false=>
   rw[A]at e;rw[adL];exact⟨λq=>(by rw[jX.2 q]at A;cases A),yQ e⟩
theorem n7{α:Type}(l:List (Nat×α)):bI l=l.map eN:=by
 induction l with
 |nil=>rfl
 |cons p l ih=>show p.1::bI l=_;simp[ih]
def Mu.mL(M:Mu)(S:List (Nat×Nat)):Mu:=⟨λj=>(S[j]?).bind λq=>M.b q.1,λj n=>if n=0 then(S[j]?).bind λq=>M.o q.1 q.2 else ae⟩
def ln(ch:CH)(q:Nat×Nat)(y:Option CB):Prop:=
 (∃t x,y=ab (.cell (.sy t x))/\aB ch q.1=ab (.cell (.sy t x)))∨(∃c t l,y=ab (.arr 0 c t l)/\aB ch q.1=ab (.arr q.2 c t l))
theorem ln.some{ch:CH}{q:Nat×Nat}{y:Option CB}(h:ln ch q y):∃z,y=ab z:=by
 rcases h with⟨t,x,h,_⟩|⟨c,t,l,h,_⟩<;>exact⟨_,h⟩
theorem ln.ne{ch:CH}{q:Nat×Nat}{y:Option CB}(h:ln ch q y):aB ch q.1≠ae:=by
 rcases h with⟨t,x,_,h⟩|⟨c,t,l,_,h⟩<;>(simp[h])
theorem ahH{S:List (Nat×Nat)}(U:(S.map eN).Nodup){i j:Nat}{p q:Nat×Nat}(hi:S[i]? =ab p)(I:S[j]? =ab q)(h:p.1=q.1):i=j:=by
 have e:(S.filterMap λs=>ab s.1)=S.map eN:=by simp
 exact A (f:=λs=>ab s.1) (o:=q.1) (by simp[e,U]) hi I (by rw[h]) rfl
where
 A {α:Type} {f:α->Option Nat}:∀{l:List α} {i j:Nat} {x y:α} {o:Nat},(l.filterMap f).Nodup->l[i]? =ab x->l[j]? =ab y->f x=ab o->f y=ab o->i=j
 |[],i,j,x,y,o,_,h,_,_,_=>by trivial
 |a::l,i,j,x,y,o,U,hi,I,Z,b=>by
  have J:(l.filterMap f).Nodup:=by
   grind
  have c:∀(k:Nat) z,l[k]? =ab z->f z=ab o->f a=ab o->False:=λk z m d g=>by
   grind
  cases i with
  |zero=>
   grind
  |succ i=>
   cases j with
   |zero=>grind
   |succ j=>rw[A J hi I Z b]
theorem aij{ch:CH}{j:Nat}{x:CB}(e:aB ch j=ab x):ch[j]? =ab (ab x):=by
 unfold aB at e;rw[b8]at e;grind
theorem V7{ch:CH}{j:Nat}{y:Option CB}(e:ch[j]? =ab y):aB ch j=y:=by
 unfold aB;rw[b8,e];cases y<;>rfl
theorem HS.mL{M:Mu}{ch:CH}{h:Heap}(a:HS M ch h){S:List (Nat×Nat)}{d:CH}(B:d.length=S.length)(A:∀(j:Nat) (q:Nat×Nat),S[j]? =ab q->∃y,d[j]? =ab y/\ln ch q y)(g:(S.map eN).Nodup):HS (M.mL S) d h:=by
 have i:∀j x,aB d j=ab x->∃q,S[j]? =ab q/\ln ch q (ab x):=λj x e=>by
  have e:=aij e;have D:=(e7.1 e).1;obtain⟨y,h1,h2⟩:=A j (S[j]'(by omega)) (hJ (by omega))
  grind
 have p:∀(j:Nat) (q:Nat×Nat),S[j]? =ab q->(M.mL S).b j=M.b q.1:=λj q e=>by show(S[j]?).bind _=_;simp[e]
 have F:∀(j:Nat) (q:Nat×Nat),S[j]? =ab q->(M.mL S).o j 0=M.o q.1 q.2:=λj q e=>by show(if(0:Nat)=0 then(S[j]?).bind _ else ae)=_;grind
 have I:∀j c,(M.mL S).b j=ab c->∃q,S[j]? =ab q/\M.b q.1=ab c:=λj c e=>ay.1 e
 refine⟨λb cv e=>?_,λb n cl t l e=>?_,λb b' c G H s q2=>?_,λb n cl t l e m hm=>?_,λb c e=>?_,λb n x e=>?_,λb x e=>?_⟩
 .obtain ⟨q,J,hf⟩:=i b _ e;rcases hf with⟨t,x,h1,h2⟩|⟨c,t,l,h1,_⟩
  .cases h1;obtain⟨c,v,U,f,w⟩:=a.cell _ _ h2;exact⟨c,v,(p b q J).trans U,f,w⟩
  .cases h1
 .obtain ⟨q,J,hf⟩:=i b _ e;rcases hf with⟨t,x,h1,h2⟩|⟨c,K,N,h1,h2⟩
  .cases h1
  .cases h1;obtain⟨u,U,f⟩:=a.arr _ _ _ _ _ h2;grind
 .obtain ⟨q,J,U⟩:=I b c s;obtain⟨z,Z,f⟩:=I b' c q2;obtain⟨y,_,f1⟩:=A b q J;obtain⟨O,_,f2⟩:=A b' z Z;exact ahH g J Z (a.inj _ _ _ f1.ne f2.ne U f)
 .show (if m=0 then _ else ae)=ae;grind
 .obtain ⟨q,J,U⟩:=I b c e;exact⟨by grind,(a.len _ _ U).2⟩
 .have e:(if n=0 then(S[b]?).bind λq=>M.o q.1 q.2 else ae)=ab x:=e
  grind
 .obtain ⟨q,J,hf⟩:=i b _ e;rcases hf with⟨t,x,h1,h2⟩|⟨c,t,l,h1,_⟩<;>(cases h1;trivial)
def xj(M:Mu)(ch:CH)(I:List (Nat×Nat))(n:Nat)(src:List (Nat×Nat))(A:CH)(ws:List Bool)(m:Nat):Prop:=
 m=n+src.length/\A.length=src.length/\ws.length=src.length/\∀(j:Nat) (q:Nat×Nat),src[j]? =ab q->∃y,A[j]? =ab y/\ln ch q y
theorem xj.app{M:Mu}{ch:CH}{A:List (Nat×Nat)}{n m k:Nat}{I J:List (Nat×Nat)}{U Z:CH}{c d:List Bool}(a:xj M ch A n I U c m)(b:xj M ch A m J Z d k):xj M ch A n (I++J) (U++Z) (c++d) k:=by
 obtain⟨o,f,g,p⟩:=a;obtain⟨s,i,l,t⟩:=b;refine⟨by grind,by simp[f,i],by simp[g,l],λj q e=>?_⟩
 grind
theorem abV{I:List (Nat×Nat)}{n m:Nat}{A J:List (Nat×Nat)}(hm:m=n+A.length)(h:∀(j:Nat) (q:Nat×Nat),(A++J)[j]? =ab q->I[n+j]? =ab q):
  (∀(j:Nat) (q:Nat×Nat),A[j]? =ab q->I[n+j]? =ab q)/\(∀(j:Nat) (q:Nat×Nat),J[j]? =ab q->I[m+j]? =ab q):=
 ⟨λj q e=>h j q (by grind),λj q e=>by
  have:=h (A.length+j) q (by grind)
  grind⟩
mutual
theorem Ap.pe{M:Mu}{ch:CH}{S0:List (Nat×Nat)}:∀(p:Ap) {v:CV} {u:V} {x:p.ty.den} (n:Nat),Ap.get ch p v=ab x->VR M v u->(∀(j:Nat) (q:Nat×Nat),(Ap.src p v)[j]? =ab q->S0[n+j]? =ab q)->
  VR (M.mL S0) (Ap.mk p x n).1 u/\xj M ch S0 n (Ap.src p v) (Ap.news p x) (Ap.gR p) (Ap.mk p x n).2
 |.val t,v,u,x,n,e,A,_=>by
  cases v with
  |sy Z y=>
   have e:Ty.cs Z t y=ab x:=e
   obtain⟨rfl,rfl⟩:=jf e
   exact⟨A,rfl,rfl,rfl,λj q e=>by cases e⟩
  |_=>cases e
 |.buf w t,v,u,x,n,e,A,I=>by
  cases v with
  |own b m=>
   have e:(match aB ch b with
    |some (.arr D c u l)=>bif ak m D&&(bif w then not c else c)then Ty.cs (.ar u) (.ar t) l else ae
    |_=>ae:Option (List t.den))=ab x:=e
   split at e
   .rename_i D c Z l F
    cases d:ak m D&&(bif w then not c else c)with
    |false=>rw[d,ax]at e;cases e
    |true=>
     rw[d,au]at e
     rw[aM]at d
     have hm:=bR d.1
     subst hm
     obtain⟨he,J⟩:=jf e
     injection he with he
     subst he
     have J:x=l:=J
     simp only[VR]at A
     obtain⟨s,h1,h2⟩:=A
     have U:=I 0 (b,m) rfl
     refine⟨?_,rfl,rfl,rfl,λj q g=>?_⟩
     .show∃s,(M.mL S0).o n 0=ab (u,s)/\_
      refine⟨s,?_,h2⟩
      show(if(0:Nat)=0 then(S0[n]?).bind _ else ae)=_
      rw[aK rfl,show S0[n]? =ab (b,m)from U]
      exact h1
     .cases j with
      |zero=>
       cases g
       have hw:(not w)=c:=by
        have:=d.2
        revert this
        cases w<;>cases c<;>intro this<;>first|rfl|cases this
       refine⟨_,rfl,.inr ⟨c,Z,x,?_,by rw[J];exact F⟩⟩
       show ab (CB.arr 0 (not w) Z x)=_
       rw[hw]
      |succ j=>cases g
   .cases e
  |_=>cases e
 |.cell w t,v,u,x,n,e,A,I=>by
  cases v with
  |ptr b P=>
   cases P with
   |nil=>
    have e:(match aB ch b with
     |some (.cell (.sy u x))=>Ty.cs u t x
     |_=>ae:Option t.den)=ab x:=e
    split at e
    .rename_i Z y F
     obtain⟨he,J⟩:=jf e
     subst he
     have J:x=y:=J
     simp only[VR]at A
     obtain⟨c,h1,rfl⟩:=A
     have U:=I 0 (b,0) rfl
     refine⟨?_,rfl,rfl,rfl,λj q g=>?_⟩
     .show∃i,(M.mL S0).b n=ab i/\_
      refine⟨c,?_,rfl⟩
      show(S0[n]?).bind _=_
      rw[show S0[n]? =ab (b,0)from U]
      exact h1
     .cases j with
      |zero=>cases g;exact⟨_,rfl,.inl ⟨Z,x,rfl,by rw[J];exact F⟩⟩
      |succ j=>cases g
    .cases e
   |cons _ _=>cases e
  |_=>cases e
 |.fn f a c,v,u,x,n,e,A,I=>by
  cases v with
  |fn N B i=>
   have e:(bif ak f N then(match bh.get ch a B,bh.get ch c i with
    |some x,ab y=>ab (x,y)
    |_,_=>ae)else ae)=ab x:=e
   cases hf:ak f N with
   |false=>rw[hf,ax]at e;cases e
   |true=>
    rw[hf,au]at e
    have G:=bR hf
    have e:(match bh.get ch a B,bh.get ch c i with
     |some x,ab y=>ab (x,y)
     |_,_=>ae:Option ((bh.ty a).den×(bh.ty c).den))=ab x:=e
    split at e
    .rename_i y z Q R
     cases e
     simp only[VR]at A
     obtain⟨S,cs,rfl,h1,h2⟩:=A
     subst G
     have I:∀(j:Nat) (q:Nat×Nat),(bh.src a B++bh.src c i)[j]? =ab q->S0[n+j]? =ab q:=I
     have H:=λj q (e:(bh.src a B)[j]? =ab q)=>I j q (by rw[hH (e7.1 e).1];exact e)
     obtain⟨T,O⟩:=bh.pe a n Q h1 H
     obtain⟨_,K⟩:=abV O.1 I
     obtain⟨W,X⟩:=bh.pe c _ R h2 K
     exact⟨⟨S,cs,rfl,T,W⟩,O.app X⟩
    .cases e
  |_=>cases e
theorem bh.pe{M:Mu}{ch:CH}{S0:List (Nat×Nat)}:∀(l:List Ap) {vs:List CV} {A:List V} {x:(bh.ty l).den} (n:Nat),bh.get ch l vs=ab x->aS M vs A->(∀(j:Nat) (q:Nat×Nat),(bh.src l vs)[j]? =ab q->S0[n+j]? =ab q)->
  aS (M.mL S0) (bh.mk l x n).1 A/\xj M ch S0 n (bh.src l vs) (bh.news l x) (bh.gR l) (bh.mk l x n).2
 |[],vs,A,x,n,e,I,_=>by
  cases vs with
  |nil=>exact⟨I,rfl,rfl,rfl,λj q e=>by cases e⟩
  |cons _ _=>cases e
 |p::l,vs,A,x,n,e,I,J=>by
  cases vs with
  |nil=>cases e
  |cons v vs=>
   have e:(match Ap.get ch p v,bh.get ch l vs with
    |some x,ab y=>ab (x,y)
    |_,_=>ae)=ab x:=e
   split at e
   .rename_i y z b c
    cases e
    simp only[aS]at I
    obtain⟨u,r,rfl,h1,h2⟩:=I
    have J:∀(j:Nat) (q:Nat×Nat),(Ap.src p v++bh.src l vs)[j]? =ab q->S0[n+j]? =ab q:=J
    have U:=λj q (e:(Ap.src p v)[j]? =ab q)=>J j q (by rw[hH (e7.1 e).1];exact e)
    obtain⟨d,a⟩:=Ap.pe p n b h1 U
    obtain⟨_,Z⟩:=abV a.1 J
    obtain⟨f,g⟩:=bh.pe l _ c h2 Z
    exact⟨⟨u,r,rfl,d,f⟩,a.app g⟩
   .cases e
end
def K5(a b:Option CB):Prop:=(∃t x A,a=ab (.cell (.sy t x))/\b=ab (.cell (.sy t A)))∨(∃c t l I,a=ab (.arr 0 c t l)/\b=ab (.arr 0 c t I))
def rN(l A:CH):Prop:=l.length=A.length/\∀(j:Nat) (a b:Option CB),l[j]? =ab a->A[j]? =ab b->K5 a b
theorem rN.app{a J b b':CH}(h:rN a J)(k:rN b b'):rN (a++b) (J++b'):=by
 refine⟨by simp[h.1,k.1],λj x y A I=>?_⟩
 by_cases U:j< a.length
 .rw [hH U]at A;rw[hH (by rw[<-h.1];omega)]at I
  exact h.2 j x y A I
 .rw [jx (by omega)]at A
  rw[jx (by rw[<-h.1];omega),<-h.1]at I
  exact k.2 _ x y A I
mutual
theorem Ap.two:∀(p:Ap) (x y:p.ty.den),rN (Ap.news p x) (Ap.news p y)
 |.val t,x,y=>⟨rfl,λj a b e=>by cases e⟩
 |.buf w t,x,y=>⟨rfl,λj a b A I=>by
  cases j with
  |zero=>cases A;cases I;exact .inr ⟨_,_,_,_,rfl,rfl⟩
  |succ j=>cases A⟩
 |.cell w t,x,y=>⟨rfl,λj a b A I=>by
  cases j with
  |zero=>cases A;cases I;exact .inl ⟨_,_,_,rfl,rfl⟩
  |succ j=>cases A⟩
 |.fn f a c,x,y=>(bh.two a x.1 y.1).app (bh.two c x.2 y.2)
theorem bh.two:∀(l:List Ap) (x y:(bh.ty l).den),rN (bh.news l x) (bh.news l y)
 |[],x,y=>⟨rfl,λj a b e=>by cases e⟩
 |p::l,x,y=>(Ap.two p x.1 y.1).app (bh.two l x.2 y.2)
end
theorem Z6{ch:CH}{q:Nat×Nat}{y:Option CB}(A:q.1< ch.length)(i:Nat)(hi:i≠q.1):aB (po ch q y) i=aB ch i:=by
 unfold po;split
 all_goals simp[fN,A,az,hi]
theorem anH(ch:CH)(q:Nat×Nat)(y:Option CB):(po ch q y).length=ch.length:=by
 unfold po;grind[eI]
theorem anG{ch:CH}{q:Nat×Nat}{y a:Option CB}(A:q.1< ch.length)(h2:K5 a y):ln (po ch q y) q y:=by
 rcases h2 with⟨t,x,I,_,rfl⟩|⟨c,t,l,J,_,rfl⟩
 .exact .inl ⟨t,I,rfl,by show aB (cG ch q.1 _) q.1=_;rw[fN _ _ _ _ A,aK rfl]⟩
 .exact .inr ⟨c,t,J,rfl,by show aB (cG ch q.1 _) q.1=_;rw[fN _ _ _ _ A,aK rfl]⟩
theorem ln.congr{ch a9:CH}{q:Nat×Nat}{y:Option CB}(h:ln ch q y)(e:aB a9 q.1=aB ch q.1):ln a9 q y:=by
 rcases h with⟨t,x,h1,h2⟩|⟨c,t,l,h1,h2⟩
 .exact .inl ⟨t,x,h1,e.trans h2⟩
 .exact .inr ⟨c,t,l,h1,e.trans h2⟩
theorem aad:∀(S:List (Nat×Nat)) (ws:List Bool) (Z A:CH) (ch:CH),rN Z A->Z.length=S.length->ws.length=S.length->(S.map eN).Nodup->(∀q∈S,q.1< ch.length)->
  (px S ws A ch).length=ch.length/\(∀i,i ∉ fG S ws->aB (px S ws A ch) i=aB ch i)/\
  (∀(j:Nat) (q:Nat×Nat),S[j]? =ab q->ws[j]? =ab ag->∃y,A[j]? =ab y/\ln (px S ws A ch) q y)/\
  (∀(j:Nat) (q:Nat×Nat),S[j]? =ab q->ws[j]? =ab af->aB (px S ws A ch) q.1=aB ch q.1)
 |[],ws,Z,A,ch,_,_,_,_,_=>by
  have:px [] ws A ch=ch:=by rfl
  grind
 |q::S,[],_,_,_,_,_,h,_,_|q::S,w::ws,[],_,_,_,h,_,_,_=>by cases h
 |q::S,w::ws,a::Z,[],_,h,_,_,_,_=>by cases h.1
 |q::S,w::ws,a::Z,y::A,ch,h2,o,hw,c,d=>by
  have I:=adL.1 c;have f:rN Z A:=⟨by simpa using h2.1,λj x z U b=>h2.2 (j+1) x z (by trivial) (by trivial)⟩
  have l:=d q (e8 ..);have g:∀i,i∈fG S ws->i∈S.map eN:=by
   clear h2 o hw c d I f l;induction S generalizing ws with
   |nil=>intro i hi;trivial
   |cons p S ih=>
    intro i hi;cases ws with
    |nil=>cases hi
    |cons w ws=>
     have hi:i∈(bif w then p.1::fG S ws else fG S ws):=hi;grind
  have J:=λhm=>I.1 (g _ hm)
  show(px S ws A (bif w then po ch q y else ch)).length=ch.length/\(∀i,i ∉(bif w then q.1::fG S ws else fG S ws)->aB (px S ws A (bif w then po ch q y else ch)) i=aB ch i)/\_;have n:(bif w then po ch q y else ch).length=ch.length:=by grind[anH]
  obtain⟨s,m,t,u⟩:=aad S ws Z A (bif w then po ch q y else ch) f (by simpa using o) (by simpa using hw) I.2 (λp hp=>by grind)
  refine⟨s.trans n,λi hi=>?_,λj p U b=>?_,λj p U b=>?_⟩
  .cases w with
   |true=>
    rw[m i λhm=>hi (gB _ hm)]
    exact Z6 l i λe=>hi (e▸e8 ..)
   |false=>exact m i hi
  .cases j with
   |zero=>
    simp at U b;subst U;subst b;exact⟨y,rfl,(anG l (h2.2 0 a y rfl rfl)).congr (m _ J)⟩
   |succ j=>exact t j p (by trivial) (by trivial)
  .cases j with
   |zero=>
    simp at U b;subst U;subst b;exact m _ J
   |succ j=>
    have U:S[j]? =ab p:=by trivial
    refine(u j p U (by trivial)).trans ?_
    cases w<;>first|exact Z6 l _ λe=>I.1 (e▸lg.2 ⟨p,lj U,rfl⟩)|rfl
theorem acj:∀{S:List (Nat×Nat)} {ws:List Bool} {i:Nat},i∈fG S ws->∃(j:Nat) (q:Nat×Nat),S[j]? =ab q/\ws[j]? =ab ag/\q.1=i
 |[],ws,i,h=>by trivial
 |q::S,[],i,h=>by cases h
 |q::S,w::ws,i,h=>by
  have A:i∈fG S ws->∃(j:Nat) (p:Nat×Nat),(q::S)[j]? =ab p/\(w::ws)[j]? =ab ag/\p.1=i:=λh=>by
   obtain⟨j,p,J,U,I⟩:=acj h;exact⟨j+1,p,by trivial,by trivial,I⟩
  cases w with
  |true=>
   rcases eT.1 h with rfl|h
   .exact ⟨0,q,rfl,rfl,rfl⟩
   .exact A h
  |false=>exact A h
def mW(E:Env)(g:Nat)(s:kq):Prop:=∀x y,s.f x=ab y->∀(M:Mu) (h:Heap) (A:List V),HS M (bh.news s.ps x) h->aS M (bh.mk s.ps x 0).1 A->
 ∃h' a9 M',gp E (X E) g A h []=ab (.im (s.r.enc y.1),h',[])/\HS M' a9 h'/\Fr (RZ s.ps) M (bh.news s.ps x) h M' a9 h'/\
  ∀j,(bh.gR s.ps)[j]? =ab ag->aB a9 j=aB (bh.news s.ps y.2) j
def CSm{ρ:Type}(wb:Nat->Bool)(M:Mu)(ch:CH)(h:Heap)(m:RC)(k:KC ρ)(r:ρ):Prop:=
 ∃v h' cv a9 M',m=ab (v,h',[])/\VR M' cv v/\HS M' a9 h'/\Fr wb M ch h M' a9 h'/\k cv a9=ab r
theorem afX{ρ:Type}{wb:Nat->Bool}{M:Mu}{ch:CH}{h:Heap}{k:KC ρ}{r:ρ}{E:Env}{g:Nat}{s:kq}(hm:mW E g s)(Z:HS M ch h){args:List CV}{us:List V}(ha:aS M args us)
  (e:LU s args wb ch k=ab r):CSm wb M ch h (gp E (X E) g us h []) k r:=by
 unfold LU at e;split at e
 .rename_i x hx;cases Q:iF (bI (bh.src s.ps args))&&ef wb (fG (bh.src s.ps args) (bh.gR s.ps))with
  |false=>grind
  |true=>
   rw[Q,au]at e;rw[aM]at Q;have K:=yQ Q.1;rw[n7]at K;obtain⟨y,hy,e⟩:=ay.1 e;generalize hSS:bh.src s.ps args=S at*;obtain⟨hmk,m1,m2,m3,R⟩:=bh.pe (S0:=S) s.ps 0 hx ha (λj q e=>by grind)
   rw[hSS]at m1 m2 m3 R;obtain⟨h',a9,M',q1,q2,G,q4⟩:=hm x y hy (M.mL S) h us (Z.mL m2 R K) hmk;have W:∀q∈S,q.1< ch.length:=λq T=>by
    obtain⟨j,I⟩:=EB T;obtain⟨z,_,hf⟩:=R j q I;rcases hf with⟨_,_,_,h2⟩|⟨_,_,_,_,h2⟩<;>exact eY h2
   obtain⟨p1,p2,p3,p4⟩:=aad S (bh.gR s.ps) (bh.news s.ps x) (bh.news s.ps y.2) ch (bh.two s.ps x y.2) m2 m3 K W;generalize hcp:px S (bh.gR s.ps) (bh.news s.ps y.2) ch=cp at*;have hA:∀(j:Nat) (q:Nat×Nat),S[j]? =ab q->∃z a,aB a9 j=z/\ln cp q z/\ln ch q a/\K5 a z:=λj q I=>by
    have yh:=(e7.1 I).1;obtain⟨a,D,f⟩:=R j q I;have hw:(bh.gR s.ps)[j]? =ab ((bh.gR s.ps)[j]'(by omega)):=hJ (by omega)
    cases i:(bh.gR s.ps)[j]'(by omega)with
    |true=>
     rw[i]at hw;obtain⟨z,z1,z2⟩:=p3 j q I hw;exact⟨z,a,(q4 j hw).trans (V7 z1),z2,f,(bh.two s.ps x y.2).2 j a z D z1⟩
    |false=>
     rw[i]at hw;refine⟨a,a,(G.keep j (by omega) ?_).trans (V7 D),f.congr (p4 j q I hw),f,?_⟩
     .simp[RZ,b8,hw]
     .rcases f with⟨t,x,rfl,_⟩|⟨c,t,l,rfl,_⟩
      .exact .inl ⟨t,x,x,rfl,rfl⟩
      .exact .inr ⟨c,t,l,l,rfl,rfl⟩
   have m:∀b,b∈S.map eN->∃(j:Nat) (q:Nat×Nat),S[j]? =ab q/\q.1=b:=λb N=>by
    obtain⟨q,T,rfl⟩:=lg.1 N;obtain⟨j,I⟩:=EB T;grind
   have hB:∀b,b ∉ S.map eN->aB cp b=aB ch b:=λb N=>p2 b λhm=>by
    obtain⟨j,q,D,_,J⟩:=acj hm;grind
   have p:∀(j:Nat) (q:Nat×Nat),S[j]? =ab q->(M.mL S).b j=M.b q.1/\(M.mL S).o j 0=M.o q.1 q.2:=λj q I=>by
    refine⟨?_,?_⟩
    .show (S[j]?).bind _=_;simp[I]
    .show (if(0:Nat)=0 then(S[j]?).bind _ else ae)=_;grind
   have B:∀b c,aB ch b≠ae->b ∉ S.map eN->M.b b=ab c->aq h' c=aq h c:=λb c N yd Y=>G.out c (Z.len _ _ Y).2 λj ej=>by
    obtain⟨q,T,O⟩:=ay.1 ej;obtain⟨z,_,hf⟩:=R j q T;have:=Z.inj _ _ _ N hf.ne Y O;exact yd (lg.2 ⟨q,lj T,this.symm⟩)
   have iB:∀b,aB cp b≠ae->aB ch b≠ae:=λb N=>by
    by_cases hm:b∈S.map eN
    .obtain ⟨j,q,I,rfl⟩:=m b hm;obtain⟨z,_,hf⟩:=R j q I;exact hf.ne
    .rw [<-hB b hm];exact N
   refine⟨_,h',.sy s.r y.1,cp,M,q1,rfl,⟨λb cv A=>?_,λb n cl t l A=>?_,λb b' c e1 e2=>Z.inj b b' c (iB b e1) (iB b' e2),λb n cl t l A=>?_,λb c A=>?_,λb n z A=>?_,λb z A=>?_⟩,⟨.refl M,by rw[p1];exact aJ _,G.lh,λb N i=>p2 b λhm=>?_,jZ,λc Q hn=>G.out c Q λj ej=>?_⟩,e⟩
   .by_cases hm:b∈S.map eN
    .obtain ⟨j,q,I,rfl⟩:=m b hm;obtain⟨z,a,D,f,J,U⟩:=hA j q I;rcases f with⟨t,w,rfl,d⟩|⟨c,t,l,rfl,d⟩
     .rw [d]at A;cases A;obtain⟨c,v,H,P,v3⟩:=q2.cell j _ D;refine⟨c,v,?_,P,v3⟩;rcases U with⟨t',x0,x1,rfl,_⟩|⟨_,_,_,_,_,U⟩
      .rcases J with⟨t2,x2,e2,J⟩|⟨_,_,_,J,_⟩
       .obtain ⟨c0,_,v4,_⟩:=Z.cell _ _ J;have:=G.le.b j c0 ((p j q I).1.trans v4);rw[H]at this;cases this;exact v4
       .cases J
      .cases U
     .rw [d]at A;cases A
    .rw [hB b hm]at A;obtain⟨c,v,H,P,v3⟩:=Z.cell b cv A;exact⟨c,v,H,(B b c (by rw[A];simp) hm H).trans P,v3⟩
   .by_cases hm:b∈S.map eN
    .obtain ⟨j,q,I,rfl⟩:=m b hm;obtain⟨z,a,D,f,J,U⟩:=hA j q I;rcases f with⟨t',w,rfl,d⟩|⟨c,t',l',rfl,d⟩
     .rw [d]at A;cases A
     .rw [d]at A;cases A;rcases U with⟨_,_,_,_,U⟩|⟨c2,t2,l2,l3,rfl,U⟩
      .cases U
      .cases U;rcases J with⟨_,_,J,_⟩|⟨c3,t3,l4,J,a5⟩
       .cases J
       .cases J;obtain⟨u0,o1,o2⟩:=Z.arr _ _ _ _ _ a5;obtain⟨u,H,P⟩:=q2.arr j _ _ _ _ D;have:=G.le.o j 0 _ ((p j q I).2.trans o1);rw[H]at this;cases this;refine⟨u0,o1,P.imp (λ⟨b1,F,b3⟩=>⟨b1,F,?_⟩) λ⟨c,g,ro,b1,F,b3⟩=>⟨c,g,ro,?_,F,b3⟩⟩
        .cases o7:M.b q.1 with
         |none=>rfl
         |some c0=>
          have:=G.le.b j c0 ((p j q I).1.trans o7);rw[b3]at this;cases this
        .rcases o2 with⟨o2,_⟩|⟨c0,g0,ro0,o2,o3,_⟩
         .rw [o2]at F;cases F
         .rw [o3]at F;have:=(V.own.inj F).1;rw[<-this];exact o2
    .rw [hB b hm]at A;obtain⟨u,H,P⟩:=Z.arr b n cl t l A;exact⟨u,H,P.imp id λ⟨c,g,ro,b1,F,b3,b4⟩=>⟨c,g,ro,b1,F,(B b c (by rw[A];simp) hm b1).trans b3,b4⟩⟩
   .by_cases hm:b∈S.map eN
    .obtain ⟨j,q,I,rfl⟩:=m b hm;obtain⟨z,a,D,f,J,U⟩:=hA j q I;rcases f with⟨t',w,rfl,d⟩|⟨c,t',l',rfl,d⟩
     .rw [d]at A;cases A
     .rw [d]at A;cases A;rcases U with⟨_,_,_,_,U⟩|⟨c2,t2,l2,l3,rfl,U⟩
      .cases U
      .cases U;rcases J with⟨_,_,J,_⟩|⟨c3,t3,l4,J,a5⟩
       .cases J
       .exact Z.new _ _ _ _ _ a5
    .rw [hB b hm]at A;exact Z.new b n cl t l A
   .exact ⟨by rw[p1];exact(Z.len b c A).1,eU (Z.len b c A).2 G.lh⟩
   .rw [p1];exact Z.fQ b n z A
   .by_cases hm:b∈S.map eN
    .obtain ⟨j,q,I,rfl⟩:=m b hm;obtain⟨z',a,D,f,J,U⟩:=hA j q I;rcases f with⟨t,w,rfl,d⟩|⟨c,t,l,rfl,d⟩<;>(rw[d]at A;cases A;trivial)
    .rw [hB b hm]at A;exact(Z.xr b z A).step (.refl M) λc q=>B b c (by rw[A];simp) hm q
   .rw [jz Q.2 b hm]at i;cases i
   .obtain ⟨q,_,O⟩:=ay.1 ej;exact hn _ O
 trivial
end
section
variable [Gh]
variable {ρ:Type} {wb:Nat->Bool} {M:Mu} {ch:CH} {h:Heap} {k:KC ρ} {r:ρ} {E:Env}
def Og(x:CB):Bool:=match x with|.cell _|.arr _ _ _ _=>af|_=>ag
theorem HS.Y4(A:HS M ch h){x:CB}(Z:Og x=ag){h':Heap}{c:Nat}(G:h.length<=c)(B:c< h'.length)(H:h.length<=h'.length)(a:∀y,y< h.length->aq h' y=aq h y)
  (K:XR ⟨λi=>if i=ch.length then ab c else M.b i,M.o⟩ h' ch.length x):M.le ⟨λi=>if i=ch.length then ab c else M.b i,M.o⟩/\HS ⟨λi=>if i=ch.length then ab c else M.b i,M.o⟩ (ch++[ab x]) h':=by
 have I:M.le ⟨λi=>if i=ch.length then ab c else M.b i,M.o⟩:=⟨λi f e=>by
  show(if i=ch.length then ab c else M.b i)=ab f;rw[az (by grind[A.qb])];exact e,λ_ _ _ e=>e⟩
 refine⟨I,⟨λb cv e=>?_,λb n cl t l e=>?_,λb b' d j m J q2=>?_,λb n cl t l e=>?_,λb d e=>?_,λb n y e=>?_,λb y e=>?_⟩⟩
 .rw [cT]at e;split at e
  .cases e;cases Z
  .obtain ⟨f,D,h1,h2,h3⟩:=A.cell b cv e;exact⟨f,D,I.b _ _ h1,(a _ (A.len _ _ h1).2).trans h2,h3.mono I _ _⟩
 .rw [cT]at e;split at e
  .cases e;cases Z
  .rename_i p;obtain⟨u,h1,h2⟩:=A.arr b n cl t l e;exact⟨u,h1,h2.imp (λ⟨U,s,v⟩=>⟨U,s,(az p).trans v⟩) λ⟨d,g,ro,U,s,v,F⟩=>⟨d,g,ro,I.b _ _ U,s,(a _ (A.len _ _ U).2).trans v,F⟩⟩
 .have J:(if b=ch.length then ab c else M.b b)=ab d:=J;have q2:(if b'=ch.length then ab c else M.b b')=ab d:=q2;rw[cT]at j m;by_cases w:b=ch.length<;>by_cases z:b'=ch.length
  .omega
  .rw [aK w]at J;rw[az z]at q2;cases J;exact absurd (A.len _ _ q2).2 (by omega)
  .rw [az w]at J;rw[aK z]at q2;cases q2;exact absurd (A.len _ _ J).2 (by omega)
  .rw [az w]at J j;rw[az z]at q2 m;exact A.inj b b' d j m J q2
 .rw [cT]at e;split at e
  .cases e;cases Z
  .exact A.new b n cl t l e
 .have e:(if b=ch.length then ab c else M.b b)=ab d:=e;rw[dD];split at e
  .grind
  .have:=A.len b d e;omega
 .have:=A.fQ b n y e;grind
 .rw [cT]at e;split at e
  .grind
  .exact (A.xr b y e).step I λd q=>a d (A.len _ _ q).2
theorem V6(ch:CH)(x:Option CB)(b i:Nat)(A:b< ch.length):aB (bB ch b x) i=if i=b then x else aB ch i:=by
 unfold aB;rw[b8,b8,dR];by_cases he:i=b
 .subst he;rw[aK rfl,List.getElem?_set_self A];cases x<;>rfl
 grind
theorem HS.It(I:HS M ch h){b c:Nat}{x:CB}(g:aB ch b=ab x)(D:Og x=ag)(Z:Option CB)(J:∀y,Z=ab y->Og y=ag){h':Heap}(m:M.b b=ab c)(o:h'.length=h.length)(p:∀y,y≠c->aq h' y=aq h y)(F:∀y,Z=ab y->XR M h' b y):HS M (bB ch b Z) h':=by
 have a:=eY g;have A:=λi=>V6 ch Z b i a
 have G:∀b' y,aB ch b'=ab y->b'≠b->M.b b'≠ab c:=λb' y e d q=>d (I.inj b' b c (by simp[e]) (by simp[g]) q m)
 have j:(bB ch b Z).length=ch.length:=by simp
 refine⟨λb' w e=>?_,λb' n cl t l e=>?_,λs v U z B f q2=>?_,λb' n cl t l e=>?_,λb' U e=>?_,λb' n x e=>?_,λb' y e=>?_⟩
 .rw [A]at e;split at e
  .cases J _ e
  .obtain ⟨U,H,f,q2,K⟩:=I.cell b' w e;grind
 .rw [A]at e;split at e
  .cases J _ e
  .obtain ⟨u,f,q2⟩:=I.arr b' n cl t l e;grind
 .refine I.inj s v U (λq=>z ?_) (λq=>B ?_) f q2
  all_goals grind
 .rw [A]at e;split at e
  .cases J _ e
  .exact I.new b' n cl t l e
 .rw [j,o];exact I.len b' U e
 .rw [j];exact I.fQ b' n x e
 .rw [A]at e;split at e
  .grind
  .exact (I.xr b' y e).step (.refl M) λU q=>p U (by grind)
theorem alO(j:IntKind)(n m:Int):sC (.int j n) (.int j m)=ab (ai n m):=by
 show(bif fP j j then ab (ai n m)else ae)=_;have:fP j j=ag:=by cases j<;>rfl
 simp[this]
theorem MF{j:IntKind}{u:Ty}(n:Int)(z:u.den)(x:u.den):∀(l:List (Int×u.den)),∃i,ng (.int j n) (gH j u l)=ab i/\
  ((∃e:Int×u.den,l[i]? =ab e/\jF l n z=e.2/\iE l n x=l.set i (n,x))∨(i=l.length/\jF l n z=z/\iE l n x=l++[(n,x)]))
 |[]=>⟨0,rfl,.inr ⟨rfl,rfl,rfl⟩⟩
 |e::l=>by
  obtain⟨i,h1,h2⟩:=MF n z x l;have hf:ng (.int j n) (gH j u (e::l))=(sC (.int j n) (.int j e.1)).bind λb=>bif b then ab 0 else(ng (.int j n) (gH j u l)).map (· +1):=rfl
  have A:jF (e::l) n z=bif ai n e.1 then e.2 else jF l n z:=rfl;have I:iE (e::l) n x=bif ai n e.1 then(n,x)::l else e::iE l n x:=rfl;rw[hf,A,I,alO,h1];cases ai n e.1 with
  |true=>grind
  |false=>
   grind
theorem amf(U:HS M ch h){t:Nat}{m:Option CV}{J:Option V}(hm:m=ae->J=ae)(e:Pa E t m ch k=ab r):OS wb M ch h (zJ E h.length h t J) k r:=by
 unfold Pa at e;split at e
 .rename_i d et Z;rw[hm rfl];split at e
  .rename_i j a;replace e:=ay.1 e;obtain⟨u,f,e⟩:=e;obtain⟨_,e⟩:=aQ e;have e:k (.mp (aA ch)) (ch++[ab (.lL j u [])])=ab r:=e;rw[bn]at e;have c:∀y,y< h.length->aq (aD h h.length (.mp [] [] 0)) y=aq h y:=λy g=>by rw[bG _ _ _ _ (aJ _),az (by omega)]
   have i:(aD h h.length (.mp [] [] 0)).length=h.length+1:=by rw[bL,az (Nat.lt_irrefl _)]
   obtain⟨A,I⟩:=U.Y4 (x:=.lL j u []) rfl (h':=aD h h.length (.mp [] [] 0)) (aJ _) (by omega) (by omega) c ⟨h.length,[],0,aK rfl,by rw[bG _ _ _ _ (aJ _),aK rfl];rfl⟩
   refine⟨.mp h.length,_,.mp ch.length,_,_,?_,⟨h.length,aK rfl,rfl⟩,I,⟨A,by simp,by omega,λb l _=>by rw[cT,az (by omega)],yK,vB⟩,e⟩
   simp[zJ,Z]
  trivial
 trivial
theorem al6(U:HS M ch h){t:Nat}{m x:CV}{f g:V}{ok:Bool}(hm:VR M m f)(B:VR M x g)(e:OV E t m x ok ch k=ab r):OS wb M ch h (zI E h t f g ok) k r:=by
 unfold OV at e;split at e
 .rename_i o et b j n D;obtain⟨c,F,rfl⟩:=hm;subst B;cases ok with
  |true=>cases e
  |false=>
  split at e
  .rename_i P u l G;obtain⟨p,H⟩:=aQ e;clear e;simp at p;obtain⟨Z,a,K⟩:=p;have:=sB a;subst this;obtain⟨te,hte,e⟩:=ay.1 H;split at e
   .rename_i v z N;replace e:=ay.1 e;obtain⟨J,A,e⟩:=e;obtain⟨rfl,A,_⟩:=je A;obtain⟨Q,s,ck,q,q2⟩:=U.xr b _ G;rw[F]at q;cases q;have I:=sL (M:=M) te.zero;rw[N]at I;obtain⟨i,f1,f2⟩:=MF (j:=j) n J J l;have d:kN E o (.int j n)=ag:=by
     rw[<-Z];unfold kN;grind
    unfold zI;rw[D];show OS wb M ch h (bif kN E o (.int j n)then(entries h (.mp c)).bind λes=>(ng (.int j n) es).bind λi=>
     match bC es i with
     |some e=>ab (e.2,h)
     |none=>(E.ty et).bind λte=>bif ij te.zero then ab (te.zero,h)else ae
     else ae) k r
    rw[d,au];have he:entries h (.mp c)=ab (gH j v l):=by
     show(match aq h c with|some (.mp es _ _)=>ab es|_=>ae)=_
     rw[q2]
    rw[he,ah,f1,ah,b8];rcases f2 with⟨w,O,y,_⟩|⟨rfl,y,_⟩
    .have:(gH j v l)[i]? =ab (.int j w.1,.im (v.enc w.2)):=by simp[gH,nS,O]
     rw[this];exact OS.plain (cv:=.sy v (jF l n J)) U (by simp[VR,y]) e
    .have:(gH j v l)[l.length]? =ae:=by unfold gH;simp
     rw[this,hte,ah,I];have:ij (.im (v.enc z))=ag:=by
      cases v<;>first|rfl|trivial
     rw[this,au];exact OS.plain (cv:=.sy v (jF l n J)) U (by grind) e
   trivial
  trivial
 trivial
theorem amj(q:HS M ch h){t:Nat}{m x y:CV}{N O P:V}(hm:VR M m N)(Q:VR M x O)(A:VR M y P)(e:Hr E wb t m x y ch k=ab r):OS wb M ch h (rl E h t N O P) k r:=by
 unfold Hr at e;split at e
 .rename_i R et b j n v z T;have w:=A;simp only[VR,Ty.enc]at hm Q A;obtain⟨c,a,rfl⟩:=hm;subst Q;subst A;split at e
  .rename_i j' u l B;obtain⟨p,W⟩:=aQ e;clear e;simp only[aM]at p;obtain⟨D,F,X⟩:=p;have:=sB F;subst this;obtain⟨te,hte,e⟩:=ay.1 W;obtain⟨d,e⟩:=aQ e;replace e:=ay.1 e;obtain⟨U,I,e⟩:=e;obtain⟨rfl,I,_⟩:=je I;obtain⟨c',s,ck,S,q2⟩:=q.xr b _ B;rw[a]at S;cases S;obtain⟨i,f1,f2⟩:=MF (j:=j) n U U l;have G:kN E R (.int j n)=ag:=by
    rw[<-D];unfold kN;grind
   have he:entries h (.mp c)=ab (gH j v l):=by
    show(match aq h c with|some (.mp es _ _)=>ab es|_=>ae)=_
    rw[q2]
   have J:=(q.len _ _ a).2;have f:∀H jB,rl E h t (.mp c) (.im (.int j n)) (.im (v.enc z))=ab (.undef,aD h c (.mp (gH j v (iE l n U)) H jB))->OS wb M ch h (rl E h t (.mp c) (.im (.int j n)) (.im (v.enc z))) k r:=λH jB p=>by
    rw[p];have hp:bB ch b (ab (.lL j v (iE l n U)))=cG ch b (.lL j v (iE l n U)):=rfl;refine⟨.undef,_,.undef,_,M,rfl,trivial,hp▸q.It B rfl _ (λy A=>by cases A;rfl) a (by rw[bL,aK J]) (λy A=>by rw[bG _ _ _ _ (cX J),az A]) (λy A=>by
     cases A;exact⟨c,H,jB,a,by rw[bG _ _ _ _ (cX J),aK rfl]⟩),⟨.refl M,by simp[eI,aJ],by grind[bL],λi _ hi=>by
     rw[fN _ _ _ _ (eY B),az (by grind)],jZ,vD a J⟩,e⟩
   have g:rl E h t (.mp c) (.im (.int j n)) (.im (v.enc z))=ab (.undef,aD h c (bif cA i (aA (gH j v l))then .mp (bB (gH j v l) i (.int j n,.im (v.enc z))) s ck else .mp (gH j v l++[(.int j n,.im (v.enc z))]) (s++[ck]) (ck+1))):=by
    unfold rl;rw[T];show(bif kN E R (.int j n)then(entries h (.mp c)).bind λes=>(ng (.int j n) es).bind λi=>(E.ty et).bind λte=>bif cq te (.im (v.enc z))then(match aq h c with
     |some (.mp _ s ck)=>ab (V.undef,aD h c (bif cA i (aA es)then .mp (bB es i (.int j n,.im (v.enc z))) s ck else .mp (es++[(.int j n,.im (v.enc z))]) (s++[ck]) (ck+1)))
     |_=>ae)else ae else ae)=_
    rw[G,au,he,ah,f1,ah,hte,ah,(iQ w d).1,au,q2]
   have o:aA (gH j v l)=l.length:=by simp[bn,gH,gd]
   rw[o]at g;rcases f2 with⟨e',Y,_,K⟩|⟨rfl,_,K⟩
   .have hi:=(e7.1 Y).1;have Z:cA i l.length=ag:=kl hi;rw[Z,au]at g;refine f s ck (g.trans ?_);have:bB (gH j v l) i (.int j n,.im (v.enc z))=gH j v (iE l n U):=by
     simp[dR,K,gH,List.map_set,I]
    rw[this]
   .have Z:cA l.length l.length=af:=by rw[<-hG];simp
    rw[Z,ax]at g;refine f (s++[ck]) (ck+1) (g.trans ?_);have:gH j v l++[(.int j n,.im (v.enc z))]=gH j v (iE l n U):=by
     simp[K,gH,p8,I]
    rw[this]
  trivial
 trivial
end
section
variable [Gh]
variable {ρ:Type} {wb:Nat->Bool} {M:Mu} {ch:CH} {h:Heap} {k:KC ρ} {r:ρ} {E:Env}
theorem vz{tc:TC}{t:Tm}(A:bA M tc t)(o:Option Operand):(∀v,o.map (vC tc)=ab v->∃u,o.map (ev t)=ab u/\VR M v u)/\(o.map (vC tc)=ae->o.map (ev t)=ae):=by
 cases o<;>first|rename_i x;exact⟨λv e=>(by cases e;exact⟨_,rfl,iW A x⟩),λe=>(by cases e)⟩|simp
theorem tr{tc:TC}{t:Tm}(A:HS M ch h)(J:bA M tc t){keep:Bool}{op:Op}(e:nG E wb keep tc op ch k=ab r):OS wb M ch h (bY E keep h.length t h op) k r:=by
 have I:=λo=>iW J o
 cases op with
 |move x|assign x=>exact OS.plain A (I x) e
 |pick c a b=>exact anB A (I c) (I a) (I b) e
 |alloc ty=>exact aeX A e
 |box ty x=>exact afE A (I x) e
 |build ty ps=>
  obtain⟨l,q,h1,h2⟩:=My J ps;show OS wb M ch h (wh E h ty _) k r;rw[q];exact afL A h1 h2 e
 |buildSlice ty n ps=>
  obtain⟨l,q,h1,h2⟩:=My J ps;show OS wb M ch h (kW E _ _ h ty n _) k r;rw[q];have e:(bif z6 _ _ then Fl E ty n _ ch k else bif keep||jd.yy _ then jd E _ ty n _ ch k else LN E wb ty n _ ch k)=ab r:=e
  cases hw:z6 keep (ku (vC tc) ps)<;>first|rw[hw]at e;exact afI A h1 h2 hw e|rw[hw]at e;cases p:keep||jd.yy (ns (ku (vC tc) ps))<;>first|rw[p,ax]at e;rw[oF]at p;rw[p.1];exact afH A h1 h2 e|rw[p,au]at e;exact afJ A h1 h2 e
 |load ty a=>exact Yl A (I a) e
 |store ty a x=>exact ap3 A (I a) (I x) e
 |nilCheck x=>exact amI A (I x) e
 |binOp op ty x y yt=>exact aft A (I x) (I y) e
 |unOp op ty x=>exact aqw A (I x) e
 |convert s d x=>exact agq A (I x) e
 |makeInterface ty x=>exact aiQ A (I x) e
 |makeFunc f a c=>cases f<;>first|rename_i g;exact OS.plain (cv:=.fn g (oD tc a) (oD tc c)) A (by exact⟨_,_,rfl,zY J a,zY J c⟩) e|cases e
 |makeSlice ty l c=>exact amh A (I l) (I c) e
 |slice ty x lo hi mx=>exact apR A (I x) (vz J lo).1 (vz J lo).2 (vz J hi).1 (vz J hi).2 (vz J mx).1 (vz J mx).2 e
 |fieldAddr ty x j=>exact ahq A (I x) e
 |field ty x j=>exact ahs A (I x) e
 |indexAddr ty x i=>exact aiV A (I x) (I i) e
 |index ty x i=>exact aiX A (I x) (I i) e
 |extract x i=>exact ahj A (I x) e
 |makeMap ty m=>exact amf A (vz J m).2 e
 |lookup ty m x ok=>exact al6 A (I m) (I x) e
 |mapUpdate ty m x y|insert ty m x y=>exact amj A (I m) (I x) (I y) e
 |call c=>
  have e:(match c.callee with
   |.builtin b=>LO E wb b _ _ ch k
   |_=>ae)=ab r:=e
  split at e
  .rename_i b z;have Z:=zY J c.args;have:bY E keep h.length t h (.call c)=fc E h.length b c.argTypes (dm t c.args) h:=by
    show(match c.callee with|.builtin b=>fc E _ b _ _ h|_=>ae)=_
    rw[z]
   rw[this];generalize oD tc _=xs at e Z;generalize dm t _=B at Z;unfold LO at e;split at e
   .split at e
    .replace e:=ay.1 e;obtain⟨ty,v,e⟩:=e;obtain⟨u,w,rfl,U,rfl⟩:=Z;show OS wb M ch h ((bC _ 0).bind _) k r
     rw[v];exact alY A U e
    trivial
   .split at e
    .obtain ⟨u,w,rfl,U,D,F,rfl,q2,rfl⟩:=Z;exact afc A U q2 e
    trivial
   .split at e
    .obtain ⟨u,w,rfl,U,q2⟩:=Z;have:=U.int;subst this;exact YE A q2 e
    trivial
   .split at e
    .obtain ⟨u,w,rfl,U,q2⟩:=Z;have:=U.int;subst this;exact Yt A q2 e
    trivial
   trivial
  trivial
 |_=>cases e
theorem Z9:∀{l:List CV} {A:List V},aS M l A->∀{tc:TC} {t:Tm} i,bA M tc t->bA M (Z7 l i tc) (vH A i t)
 |[],A,h,tc,t,i,I=>by subst h;exact I
 |v::l,A,h,tc,t,i,I=>by
  obtain⟨u,r,rfl,h1,h2⟩:=h;exact Z9 h2 _ (I.set h1 i)
theorem RE{l:List CV}{A:List V}(h:aS M l A) n:bA M (RD n l) (gP n A):=Z9 h 0 (bA.mk M _)
theorem ao3{tc:TC}{t:Tm}(i:HS M ch h)(J:bA M tc t){A:ResultVar}{v:CV}(e:aa0 E tc ch A=ab v):∃u,zx E h t A=ab u/\VR M v u:=by
 cases A with
 |tmp n=>cases e;exact⟨_,rfl,J.get n⟩
 |cell a ty=>
  have U:=J.get a;have e:(match tc.get a,E.ty ty with
   |.ptr b p,ab ti=>match aB ch b with
    |some (.cell v)=>(v.eQ p).bind _
    |_=>ae
   |_,_=>ae)=ab v:=e
  split at e
  .rename_i b p ti hp I;rw[hp]at U;obtain⟨c,j,l⟩:=U;split at e
   .rename_i w m;replace e:=ay.1 e;obtain⟨y,o,e⟩:=e;cases Z:dG ti y with
    |false=>grind
    |true=>
     rw[Z]at e;cases e;obtain⟨x,w',d,q2,q⟩:=i.cell b w m;rw[j]at d;cases d;obtain⟨z,s,f⟩:=q.yJ o;refine⟨z,?_,f⟩;show(match t.get a,E.ty ty with
      |.ptr b g p,ab ti=>(eJ h b g p).bind _
      |_,_=>ae)=_
     rw[l,I];show(eJ h c 0 p).bind _=_
     unfold eJ;rw[q2];show(w'.eQ p).bind _=_
     rw[s,ah,(iQ f Z).1,au]
   trivial
  trivial
theorem Q0{tc:TC}{t:Tm}(Z:HS M ch h)(a:bA M tc t){fn:Func}{v:CV}(e:v9 E fn tc ch=ab v):∃u,kV E h fn t=ab u/\VR M v u:=by
 have key:∀l {vs:List CV},aa1 E tc ch l=ab vs->∃A,wa E h t l=ab A/\aS M vs A:=by
  intro l;induction l with
  |nil=>intro vs e;cases e;exact⟨[],rfl,rfl⟩
  |cons b l ih=>
   intro vs e;replace e:=ay.1 e;obtain⟨y,c,e⟩:=e;obtain⟨g,I,rfl⟩:=bu.1 e;obtain⟨u,U,q2⟩:=ao3 Z a c;obtain⟨A,J,q4⟩:=ih I;refine⟨u::A,?_,u,A,rfl,q2,q4⟩;show(zx E h t b).bind (λv=>(wa E h t l).map _)=_
   grind
 obtain⟨vs,h1,h2⟩:=bu.1 e;obtain⟨A,U,q2⟩:=key _ h1;unfold kV;rw[U];subst h2;cases vs with
 |nil=>
  subst q2;exact⟨_,rfl,VR.qO rfl⟩
 |cons v l=>
  obtain⟨u,d,rfl,q2,J⟩:=q2;cases l with
  |nil=>
   grind[aS]
  |cons w l=>
   have q4:=J;obtain⟨i,f,rfl,j,q6⟩:=J;exact⟨_,rfl,VR.qO (show aS M _ _ from⟨u,_,rfl,q2,q4⟩)⟩
def gk:Code->Bool
 |.seq a b=>gk a||gk b
 |.cond _ a b=>gk a||gk b
 |.block _ a=>gk a
 |.loop a=>gk a
 |.scope a=>gk a
 |.rangeFunc _ _ _ _=>ag
 |_=>af
def nV(n:Nat)(mk:List (Nat×List V)):=∀d∈mk,kE d=ag/\n<=d.1
theorem nV.nil n:nV n []:=λ_ h=>by cases h
theorem nV.app{n m:Nat}{a b:List (Nat×List V)}(h1:nV n a)(h2:nV m b)(h:m<=n):nV m (a++b):=λd A=>(cB.1 A).elim (λq=>⟨(h1 d q).1,bU h (h1 d q).2⟩) (h2 d)
def qc{ρ:Type}(wb:Nat->Bool) M(tc:TC) ch(h:Heap)(ws:List Nat)(df:List (Nat×List V))(rf:Bool)(m:Option (Ex×St))(k:KX ρ) r:=
 ∃ex A a9 M' I h' mk,m=ab (ex,⟨I,h',[],mk++df⟩)/\HS M' a9 h'/\bA M' A I/\Fr wb M ch h M' a9 h'/\(∀i,aY ws i=af->A.get i=tc.get i)/\(nV h.length mk/\(rf=af->mk=[]))/\k ex A a9=ab r
def Good(C:CE)(ih:(ρ:Type)->Nat->Code->(Nat->Bool)->TC->CH->KX ρ->Option ρ):=
 ∀ρ f c wb tc ch k r,ih ρ f c wb tc ch k=ab r->∀M t h (fb cur:Nat) df,HS M ch h->bA M tc t->
  qc wb M tc ch h (writes c) df (gk c&&ak fb 0) (X C.E f fb cur c ⟨t,h,[],df⟩) k r
structure ja(C:CE):Prop where
 sp:∀g s,C.sp g=ab s->∀x y,s.f x=ab y->fY C.E (X C.E) g (s.a.cL x)=ab (s.r.enc y)
 J1:∀g s,C.J1 g=ab s->mW C.E g s
def jy{ρ:Type}(wb:Nat->Bool) M(ch:CH)(h:Heap)(m:RC)(k:KC ρ)(r:ρ):=
 ∃v h' cv a9 M',m=ab (v,h',[])/\VR M' cv v/\HS M' a9 h'/\Fr wb M ch h M' a9 h'/\k cv a9=ab r
section
variable {C:CE} {ih:(ρ:Type)->Nat->Code->(Nat->Bool)->TC->CH->KX ρ->Option ρ}
theorem jy.of{m:R}(s:OS wb M ch h m k r):jy wb M ch h (lift [] m) k r:=by
 obtain⟨v,h',cv,a9,M',rfl,q⟩:=s;exact⟨v,h',cv,a9,M',rfl,q⟩
theorem aS.app:∀{a:List CV} {A:List V} {b:List CV} {b':List V},aS M a A->aS M b b'->aS M (a++b) (A++b')
 |[],A,b,b',h1,h2=>by simp_all[aS]
 |v::a,A,b,b',h1,h2=>by
  obtain⟨u,r,rfl,I,q2⟩:=h1;exact⟨u,r++b',rfl,I,aS.app q2 h2⟩
theorem Ht{E:Env}{ih:Nat->Nat->Nat->Code->St->Option (Ex×St)}{n:Nat} l:∀{mk:List (Nat×List V)} h,nV n mk->js E ih n (mk++l) h []=js E ih n l h []
 |[],_,_=>rfl
 |d::mk,h,hm=>by
  obtain⟨A,q2⟩:=hm d e8 ..;show(bif kE d then bif bp n _ then js E ih n (mk++l) h []else ae else _)=_;rw[A,kl q2];exact Ht l h λI J=>hm I (gB _ J)
theorem WV{E:Env}{g:Nat}{A:List V}{fn:Func}{I:Tm}{h h':Heap}{df:List (Nat×List V)}{h2:Heap}{u:V}(U:tg E (X E) g A h []=ab (fn,⟨I,h',[],df⟩))(J:js E (X E) h.length df h' []=ab (h2,[]))(Z:kV E h2 fn I=ab u):
  gp E (X E) g A h []=ab (u,h2,[]):=by
 unfold gp;cases df<;>first|have:(ab (h',[]))=ab (h2,[]):=J;grind|simp_all
theorem WU(J:Good C ih)(a:HS M ch h){g:Nat}{args:List CV}{I:List V}(U:aS M args I)(e:u3 C ih g args wb ch k=ab r):jy wb M ch h (gp C.E (X C.E) g I h []) k r:=by
 replace e:=ay.1 e;obtain⟨fn,b,e⟩:=e;replace e:=ay.1 e;obtain⟨c,p,e⟩:=e;obtain⟨q,e⟩:=aQ e;obtain⟨ex,d,a9,M',f,h',mk,h1,h2,h3,i,_,⟨hm,_⟩,j⟩:=J _ _ _ _ _ _ _ _ e M _ h 0 0 [] a (RE U _);have l:bp (aA I) fn.ntmps=ag:=by simp_all[U.length]
 have A:ex=.nm∨ex=.ret->tg C.E (X C.E) g I h []=ab (fn,⟨f,h',[],mk++[]⟩):=λZ=>by
  grind[tg]
 have m:ex=.nm∨ex=.ret->(v9 _ fn _ _).bind _=ab r->jy wb M ch h _ k r:=λZ e=>by
  replace e:=ay.1 e;obtain⟨v,n,e⟩:=e;obtain⟨u,o,q2⟩:=Q0 h2 h3 n;exact⟨u,h',v,a9,M',WV (A Z) (Ht [] h' hm) o,q2,h2,i,e⟩
 cases ex<;>first|cases j|grind
theorem agB{c a b A:Code}{f:Operand}(e:Mh c=ab (a,b,f,A)):∃(id:Nat) (ops:Array Oper) (o:Oper) (l:List Oper) (I:Call),c=.seq a (.seq (.region id ops af) A)/\ops.toList=l.reverse++[o]/\o.op=.defer I/\o.guard=ae/\o.dst=ae/\I.callee=.value f/\I.args.toList=[]/\b=.region id l.reverse.toArray af/\
  ∀q∈l,q.guard=ae/\∀c,q.op≠.defer c:=by
 unfold Mh at e;split at e
 .rename_i n id ops J;split at e
  .rename_i o l p;split at e
   .rename_i I U g i;split at e
    .rename_i s Z j;obtain⟨m,e⟩:=aQ e;cases e;refine⟨id,ops,o,l,I,rfl,?_,U,g,i,Z,j,rfl,λq d=>?_⟩
     .simp_all
     .have:=List.all_eq_true.1 m q d;rw[aM]at this;refine⟨by simpa using this.1,λc Z=>?_⟩
      rw[Z]at this;exact absurd this.2 (by simp[WZ])
    trivial
   trivial
  trivial
 trivial
theorem aro ops t:guardOf ops t ae=ab ag:=rfl
theorem abg{E:Env}{ih:Nat->Nat->Nat->Code->St->Option (Ex×St)}{keep:Bool} ops A:∀l st,(∀q∈l,q.guard=ae)->dH E ih keep ops l st=dH E ih keep A l st
 |[],_,_=>rfl
 |o::l,st,I=>by
  have:ee E ih keep ops (aA st.h) o st=ee E ih keep A (aA st.h) o st:=by
   unfold ee;rw[I o e8 ..];rfl
  show(match ee E ih _ _ _ o st with|none=>ae|some _=>dH E ih _ _ l _)=match ee E ih _ _ _ o st with|none=>ae|some J=>dH E ih _ _ l _
  rw[this];split
  .rfl
  .exact abg _ _ l _ λq U=>I q (gB _ U)
theorem abj{E:Env}{ih:Nat->Nat->Nat->Code->St->Option (Ex×St)}{keep:Bool}{ops:Array Oper}:∀l A st,dH E ih keep ops (l++A) st=(dH E ih keep ops l st).bind (dH E ih keep ops A)
 |[],_,_=>rfl
 |o::l,A,st=>by
  show(match ee E ih _ _ _ o st with|none=>ae|some I=>dH E ih _ _ (l++A) _)=(match ee E ih _ _ _ o st with|none=>ae|some _=>dH E ih _ _ l _).bind _
  split
  .rfl
  .exact abj l A _
theorem Bo{E:Env}{f fb:Nat}:∀c n st,mD c=ag->PW.xM c< n->gY E (X E) f fb n c st=X E f fb 0 c st
 |.seq a b,n+1,st,hp,A=>by
  have hp:(mD a&&mD b)=ag:=hp;have A:=ad1 A;have U:=Bo (E:=E) (f:=f) (fb:=fb) a n;have Z:=Bo (E:=E) (f:=f) (fb:=fb) b n;rw[jb];show(match gY E _ f fb n a st with|some (.nm,J)=>gY E _ f fb n b _|r=>r)=match X E f fb 0 a st with|some (.nm,J)=>X E f fb 0 b _|r=>r
  grind
 |.cond o a b,n+1,st,hp,A=>by
  have hp:(mD a&&mD b)=ag:=hp;rw[aM]at hp;have A:=ad1 A;have h1:=ad0 (EM ..) A;have h2:=ad0 (EN ..) A;rw[jb];show(match ev _ o with|.im (.bool t)=>bif t then gY E _ f fb n a st else gY E _ f fb n b st|_=>ae)=match ev _ o with|.im (.bool t)=>bif t then X E f fb 0 a st else X E f fb 0 b st|_=>ae
  rw[Bo a n st hp.1 h1,Bo b n st hp.2 h2]
 |.region id ops I,n+1,st,hp,A=>by
  have hp:(not _&&ops.toList.all _)=ag:=hp
  cases I with
  |true=>rfl
  |false=>
   have:ops.toList.any qJ=af:=by
    grind
   show(bif ops.toList.any _ then match rh E _ _ _ st with|some _=>ab _|none=>ae else X E f fb 0 _ st)=_
   grind
 |.skip,n+1,st,_,_|.ret,n+1,st,_,_|.exit _,n+1,st,_,_=>rfl
 |.block _ _,_,_,hp,_|.loop _,_,_,hp,_|.scope _,_,_,hp,_|.rangeFunc _ _ _ _,_,_,hp,_|.label _,_,_,hp,_=>by cases hp
theorem PX:∀c,mD c=ag->gk c=af
 |.seq a b,hp|.cond o a b,hp=>by
  have hp:(mD a&&mD b)=ag:=hp;rw[aM]at hp;show(gk a||gk b)=af
  rw[PX a hp.1,PX b hp.2];rfl
 |.region ..,_|.skip,_|.ret,_|.exit _,_=>rfl
 |.block _ _,hp|.loop _,hp|.scope _,hp|.rangeFunc _ _ _ _,hp|.label _,hp=>by cases hp
theorem yu(m:Good C ih)(hs:HS M ch h){g:Nat}{args:List CV}{s:List V}(ha:aS M args s)(e:qF C ih g args wb ch k=ab r):jy wb M ch h (gp C.E (X C.E) g s h []) k r:=by
 unfold qF at e;replace e:=ay.1 e;obtain⟨fn,Gy,e⟩:=e;replace e:=ay.1 e;obtain⟨c,hc,e⟩:=e;split at e
 .exact WU m hs ha e
 .rename_i a b f i hdo;obtain⟨id,ops,o,l,cc,rfl,P,ym,hgd,Q,R,B,rfl,hl⟩:=agB hdo;obtain⟨hb,e⟩:=aQ e;rw[aM]at hb;obtain⟨hb,D⟩:=hb;have D:C.E.Bx g id=ae:=Option.isNone_iff_eq_none.1 D;have S:∀q st,fL C.E q g id st=st:=λq st=>by simp[fL,D]
  have lG:bp (aA s) fn.ntmps=ag:=by simp_all[bn,ha.length,hb]
  obtain⟨ex1,tc1,L0,M1,t1,h1,A,a1,a2,a3,a4,_,⟨a5,_⟩,e⟩:=m _ _ _ _ _ _ _ _ e M (gP fn.ntmps s) h 0 0 [] hs (RE ha _);cases ex1 with
  |exit _=>cases e
  |ret=>cases e
  |nm=>
  obtain⟨Bn,tc2,T8,M2,t2,h2,Cl,b1,b2,b3,b4,_,⟨_,b5⟩,e⟩:=m _ _ _ _ _ _ _ _ e M1 t1 h1 0 0 (A++[]) a2 a3;have b5:=b5 rfl;subst b5;dsimp only at e;split at e
  .rename_i j T W hf;obtain⟨Y,e⟩:=aQ e;rw[aM]at Y;obtain⟨J,iB⟩:=Y;have F:=iW b3 f;rw[hf]at F;simp only[VR]at F;obtain⟨U,cs,ky,v1,v2⟩:=F;obtain⟨w,zV,A2,M3,t3,h3,G,c1,c2,c3,c4,_,⟨c5,_⟩,e⟩:=m _ _ _ _ _ _ _ _ e M2 t2 h2 0 0 ((j,U++cs)::(A++[])) b2 b3;have vv:aS M2 (T++W) (U++cs):=aS.app v1 v2;have n:kE (j,U++cs)=af:=by
    unfold kE;split
    .rename_i H;have H:U++cs=[V.undef]:=H;have:=vv.length;rw[H,<-bn]at this;rw[this]at iB;cases iB
    .rfl
   have aiE:X C.E g 0 0 (.region id ops af) ⟨t1,h1,[],A++[]⟩=ab (.nm,⟨t2,h2,[],(j,U++cs)::(A++[])⟩):=by
    have Z:X C.E g 0 0 (.region id l.reverse.toArray af) ⟨t1,h1,[],A++[]⟩=ab (.nm,⟨t2,h2,[],A++[]⟩):=b1;rw[jb]at Z|-;have Z:(match dH C.E (X C.E) (C.E.keep g) l.reverse.toArray l.reverse.toArray.toList (fL C.E af g id ⟨t1,h1,[],A++[]⟩)with|some I=>ab (Ex.nm,fL C.E ag g id I)|none=>ae)=ab (.nm,⟨t2,h2,[],A++[]⟩):=Z
    simp only[S]at Z;have hr:dH C.E (X C.E) (C.E.keep g) l.reverse.toArray l.reverse.toArray.toList ⟨t1,h1,[],A++[]⟩=ab ⟨t2,h2,[],A++[]⟩:=by
     split at Z
     .rename_i I H;cases Z;exact H
     .cases Z
    rw[List.toList_toArray]at hr;show(match dH C.E (X C.E) (C.E.keep g) ops ops.toList (fL C.E af g id ⟨t1,h1,[],A++[]⟩)with|some I=>ab (Ex.nm,fL C.E ag g id I)|none=>ae)=_
    simp only[S];rw[P,abj,abg ops l.reverse.toArray _ _ (λq H=>(hl q (List.mem_reverse.1 H)).1),hr,ah]
    have:ee C.E (X C.E) (C.E.keep g) ops (aA h2) o ⟨t2,h2,[],A++[]⟩=ab ⟨t2,h2,[],(j,U++cs)::(A++[])⟩:=by
     unfold ee;rw[hgd,ym];show(match cc.callee with
      |.value f=>(match ev t2 f with
       |.fn g a cap=>bif kE (g,a++(dm t2 cc.args++cap))then ae else ab (⟨putDst t2 o.dst .undef,h2,[],(g,a++(dm t2 cc.args++cap))::(A++[])⟩:St)
       |_=>ae)
      |_=>ae)=_
     rw[R];simp only[ky];have:dm t2 cc.args=[]:=by unfold dm;rw[B]
     rw[this,List.nil_append,n,ax,Q];rfl
    show(match(match ee C.E (X C.E) (C.E.keep g) ops (aA h2) o ⟨t2,h2,[],A++[]⟩with|none=>ae|some I=>ab I)with|some I=>ab (Ex.nm,I)|none=>ae)=_
    rw[this]
   have K:X C.E g 0 0 (.seq a (.seq (.region id ops af) i)) ⟨gP fn.ntmps s,h,[],[]⟩=ab (w,⟨t3,h3,[],G++((j,U++cs)::(A++[]))⟩):=by
    rw[jb];show(match X C.E g 0 0 a ⟨gP fn.ntmps s,h,[],[]⟩with|some (.nm,I)=>X C.E g 0 0 (.seq (.region id ops af) i) I|r=>r)=_
    rw[a1];show X C.E g 0 0 (.seq (.region id ops af) i) ⟨t1,h1,[],A++[]⟩=_;rw[jb];show(match X C.E g 0 0 (.region id ops af) ⟨t1,h1,[],A++[]⟩with|some (.nm,I)=>X C.E g 0 0 i I|r=>r)=_
    rw[aiE];exact c1
   have fin:w=.nm∨w=.ret->u3 C ih j (T++W) wb A2 (λ_ ch=>(v9 C.E fn zV ch).bind λv=>k v ch)=ab r->jy wb M ch h (gp C.E (X C.E) g s h []) k r:=λhx e=>by
    have BQ:tg C.E (X C.E) g s h []=ab (fn,⟨t3,h3,[],G++((j,U++cs)::(A++[]))⟩):=by
     unfold tg;rw[Gy,ah,hc,ah,lG,au,K];rcases hx with rfl|rfl<;>rfl
    unfold u3 at e;replace e:=ay.1 e;obtain⟨p,y,e⟩:=e;replace e:=ay.1 e;obtain⟨cd,VW,e⟩:=e;obtain⟨yb,e⟩:=aQ e;unfold PW at J;rw[y,ah]at J;simp only[VW]at J;rw[aM]at J;have vv3:=vv.mono c4.le;obtain⟨N,tc4,x,M4,t4,O,mk4,d1,d2,d3,d4,_,⟨_,d5⟩,e⟩:=m _ _ _ _ _ _ _ _ e M3 (gP p.ntmps (U++cs)) h3 0 0 [] c2 (RE vv3 _);have d5:=d5 (by rw[PX _ J.1];rfl)
    subst d5;have ah6:bp (aA (U++cs)) p.ntmps=ag:=by rw[bn]at yb|-;rw[<-vv3.length];exact yb
    have z:N=.nm∨N=.ret->(v9 C.E p tc4 x).bind (λ_=>(v9 C.E fn zV x).bind λv=>k v x)=ab r->jy wb M ch h (gp C.E (X C.E) g s h []) k r:=λhx4 e=>by
     replace e:=ay.1 e;obtain⟨v2,WH,e⟩:=e;replace e:=ay.1 e;obtain⟨v,hv,e⟩:=e;obtain⟨u2,p1,_⟩:=Q0 d2 d3 WH;obtain⟨u,p2,p3⟩:=Q0 d2 (c3.mono d4.le) hv;have hS:th C.E (X C.E) j (U++cs) h3 []=ab (p,⟨t4,O,[],[]⟩):=by
      unfold th;rw[y,ah,VW,ah,ah6,au,Bo cd 64 _ J.1 (eU (gX J.2) (by omega)),d1]
      rcases hx4 with rfl|rfl<;>rfl
     have aic:js C.E (X C.E) h.length (G++((j,U++cs)::(A++[]))) h3 []=ab (O,[]):=by
      rw[Ht _ h3 λd hd=>⟨(c5 d hd).1,bU (bU a4.lh b4.lh) (c5 d hd).2⟩]
      show(bif kE (j,U++cs)then(bif bp h.length (j,U++cs).1 then js C.E (X C.E) h.length (A++[]) h3 []else ae)else match th C.E (X C.E) j (U++cs) h3 []with
       |some (fn,st)=>(match st.df with
        |[]=>(match kV C.E st.h fn st.t with
         |some _=>js C.E (X C.E) h.length (A++[]) st.h st.lp
         |none=>ae)
        |_=>ae)
       |none=>ae)=_
      rw[n,ax,hS];show(match kV C.E O p t4 with
         |some _=>js C.E (X C.E) h.length (A++[]) O []
         |none=>ae)=_
      rw[p1];exact Ht [] O a5
     exact⟨u,O,v,x,M4,WV BQ aic p2,p3,d2,((a4.trans b4).trans c4).trans d4,e⟩
    cases N with
    |exit _=>cases e
    |nm=>exact z (.inl rfl) e
    |ret=>exact z (.inr rfl) e
   cases w with
   |exit _=>cases e
   |nm=>exact fin (.inl rfl) e
   |ret=>exact fin (.inr rfl) e
  trivial
theorem Zc{v:CV}{u:V}(A:VR M v u)(I:v.yO=ag):u.data h=ae:=by
 cases v with
 |ifc t c=>
  obtain⟨u,rfl,A⟩:=A;have:=Zc A I;rw[Bg]at this;simp[V.data,V.cm,this]
 |fn f a c=>
  obtain⟨U,cs,rfl,h1,h2⟩:=A;cases a with
  |nil=>cases c with
   |nil=>cases I
   |cons w c=>
    obtain⟨y,J,rfl,_⟩:=h2;simp[V.data,V.cm]
  |cons w a=>
   obtain⟨y,J,rfl,_⟩:=h1;rfl
 |ptr b p|el b n i p|mp b|yl b|tl b d p=>grind[VR,V.data,V.cm]
 |_=>cases I
theorem Lh:∀{args:List CV} {A:List V},aS M args A->args.any CV.yO=ag->gG h A=ae
 |[],A,_,e=>by cases e
 |v::args,A,I,e=>by
  obtain⟨u,r,rfl,h1,h2⟩:=I;show(V.data h u).bind (λd=>(gG h r).map _)=ae
  rw[List.any_cons,mP]at e;rcases e with e|e
  .rw [Zc h1 e];rfl
  .rw [Lh h2 e];simp
theorem Tj(Z:HS M ch h){t:Ty}{vs:List CV}{x:t.den}{f:List V}(e:CV.fK ch t vs=ab x)(i:aS M vs f){rt:Ty}{y:rt.den}{g:CH->Option ρ}(J:E6 wb ch rt vs g=ab r):
  ∃a9 h',(match V.j0 f with
   |[]=>ab (V.im (rt.enc y),h,[])
   |A=>bif(rt.enc y).flat then ab (V.im (rt.enc y),h,[])else bif Go.As.fi h A then ab (V.im (rt.enc y),Go.As.close h A,[])else ae:RC)=ab (.im (rt.enc y),h',[])/\HS M a9 h'/\Fr wb M ch h M a9 h'/\g a9=ab r:=by
 have j:=ZP Z e i;unfold E6 at J;cases hf:rt.flat with
 |true=>
  rw[hf]at J;refine⟨ch,h,?_,Z,.refl ..,J⟩;rw[Bm,hf];split<;>rfl
 |false=>
  rw[hf]at J;cases hm:qL wb ch (CV.fS vs)with
  |false=>grind
  |true=>
   rw[hm]at J;have I:=(Ib (ch:=ch) t).2 vs x e;have d:∀A,qL wb ch A=ag->∀b∈A,(∃n c u l,aB ch b=ab (.arr n c u l))->∃n c u l,aB ch b=ab (.arr n c u l)/\(c=ag∨wb b=ag):=by
    intro A;induction A with
    |nil=>simp
    |cons a A m=>
     intro hm b U s;have hm:(bif match aB ch a with|some (.arr _ ag _ _)=>ag|_=>wb a then qL wb ch A else af)=ag:=hm
     grind
   obtain⟨o,q2,v,q4,p⟩:=HS.close (wb:=wb) _ Z λb U=>d _ hm b U (I b U)
   refine⟨_,_,?_,o,⟨.refl M,by omega,by omega,λb _ U=>q4 b U,jZ,p⟩,J⟩
   rw[j];split
   .rename_i q;rw[q];rfl
   .rw [Bm,hf,ax,Z.fi _ I,au]
theorem aq5(l:List CV):True:=trivial
theorem HS.empty:HS ⟨λ_=>ae,λ_ _=>ae⟩ [] []:=
 ⟨λb _ e=>by trivial,λb _ _ _ _ e=>by trivial,λ_ _ _ _ _ q _=>(by cases q),λb _ _ _ _ e=>by trivial,λ_ _ e=>(by cases e),λ_ _ _ e=>(by cases e),λb _ e=>by trivial⟩
theorem Ln{g:Nat}{t:Ty}{y:t.den}{A:CV->Option ρ}(e:AO C g t y A=ab r):A (.sy t y)=ab r:=by
 unfold AO at e;cases J:C.rC g 1000000 with
 |false=>grind
 |true=>
  rw[J]at e;split at e
  .rename_i i y;cases I:aj 0 y<;>first|rw[I]at e;have:aC (Int.toNat y)=y:=Int.toNat_of_nonneg (of_decide_eq_true ((gn ..).symm.trans I));rwa[this]at e|grind
  trivial
theorem af1(m:ja C)(Z:Good C ih)(U:HS M ch h){g:Nat}{args:List CV}{d:List V}(I:aS M args d)(e:LW C ih g args wb ch k=ab r):jy wb M ch h (oT C.E (X C.E) g d h []) k r:=by
 have inl:qF C ih g _ wb ch k=ab r->C.E.inl g=ag∨gG h d=ae->jy wb M ch h (oT C.E (X C.E) g d h []) k r:=λe f=>by
  have:=yu Z U I e;grind[oT]
 unfold LW at e;split at e
 .rename_i s J;cases A:C.E.inl g||args.any CV.yO with
  |false=>grind
  |true=>
   rw[A]at e;rw[mP]at A;have:=afX (m.J1 g s J) U I e;unfold oT;rcases A with f|f
   .rw [f];trivial
   .cases A:C.E.inl g<;>first|rw[Lh I f];trivial|trivial
 split at e
 .rename_i s J;cases A:C.E.inl g<;>first|rw[A]at e;replace e:=ay.1 e;obtain⟨x,b,e⟩:=e;replace e:=ay.1 e;obtain⟨y,i,e⟩:=e;obtain⟨a9,h',o,q2,j,q4⟩:=Tj (y:=y) U b I e;refine⟨_,h',.sy s.r y,a9,M,?_,rfl,q2,j,Ln q4⟩;unfold oT;rw[A,FO U b I];show((fY C.E (X C.E) g (s.a.cL x)).bind λr=>_)=_;rw[m.sp g s J x y i,ah];omega|grind
 .cases A:C.E.inl g||args.any _ with
  |true=>
   rw[A]at e;rw[mP]at A;exact inl e (A.imp id λq=>Lh I q)
  |false=>
   rw[A]at e;rw[oF]at A;cases hm:(C.E.sm g).isNone with
   |false=>grind
   |true=>
    rw[hm]at e;replace e:=ay.1 e;obtain⟨fn,p,e⟩:=e;replace e:=ay.1 e;obtain⟨n,t,e⟩:=e;replace e:=ay.1 e;obtain⟨rt,u,e⟩:=e;replace e:=ay.1 e;obtain⟨x,b,e⟩:=e;obtain⟨v,h2,cv,w,F,z,B,D,_,c⟩:=yu Z HS.empty (Cd n x) e;replace c:=ay.1 c;obtain⟨y,i,c⟩:=c;obtain⟨a9,h',o,q2,j,q4⟩:=Tj (y:=y) U b I c;refine⟨_,h',.sy rt y,a9,M,?_,rfl,q2,j,q4⟩;have l:=by simpa using hm
    have G:fY C.E (X C.E) g (n.cL x)=ab (rt.enc y):=by
     unfold fY;rw[l];unfold oX;rw[mC,z];exact Bk D i B
    unfold oT;rw[FO U b I];grind
theorem agh(J:HS M ch h){el:Nat}{args:List CV}{U:List V}(a:aS M args U)(e:L5 C el args ch k=ab r):OS wb M ch h (qo C.E h.length el U h) k r:=by
 unfold L5 at e;split at e
 .obtain ⟨u,d,rfl,b,rfl⟩:=a;replace e:=ay.1 e;obtain⟨te,hte,e⟩:=e;replace e:=ay.1 e;obtain⟨t,f,e⟩:=e;replace e:=ay.1 e;obtain⟨l,c,e⟩:=e;cases I:cq te te.zero&&Kr te&&ak t.wd te.size with
  |false=>grind
  |true=>
   rw[I]at e;rw[aM]at I;cases Z:bW l.length te.bytes with
   |false=>grind
   |true=>
    rw[Z]at e;obtain⟨d1,_⟩:=UC J c b;show OS wb M ch h ((C.E.ty el).bind _) k r
    have hf:gZ te.size (l.map t.enc)=ag:=by
     cases l<;>first|rfl|rename_i y l;show ak (t.enc y).wd te.size=ag;simp[m9,I]
    have A:room (aA (l.map t.enc)) te.bytes=ag:=by
     rw[bn,gd];exact Z
    rw[hte,ah,d1,ah,I.1,hf,A,<-bR I.2];exact OS.qR J t l 1 (by simp) e
 trivial
theorem ahh x t b h:gI x [.im .dn,.ifc t (.ptr b 0 [])] h=bif gI.rX x t then ab (.im (.bool af),h)else ae:=by
 rcases x with _|_|_|_|_|_|_|x<;>rfl
theorem ahf x t b u l h:gI x [.im (.ifc u (.agg 2 l)),.ifc t (.ptr b 0 [])] h=bif gI.rX x t&&ak u (x/1000000)then match aq h b with
  |some (.cell v)=>bif ak v.wd 2 then ab (.im (.bool ag),aD h b (.cell (.im (.agg 2 l))))else ae
  |_=>ae else ae:=by
 rcases x with _|_|_|_|_|_|_|x<;>rfl
theorem afj(A:HS M ch h){x:Nat}{args:List CV}{U:List V}(a:aS M args U)(e:Lw x args wb ch k=ab r):OS wb M ch h (gI x U h) k r:=by
 unfold Lw at e;split at e
 .rename_i l t b;obtain⟨_,_,rfl,rfl,_,_,rfl,⟨_,rfl,c,I,rfl⟩,rfl⟩:=a;obtain⟨h1,e⟩:=aQ e;cases l with
  |nil=>
   show OS wb M ch h (gI x [.im .dn,.ifc t _] h) k r;rw[ahh,h1];exact OS.plain (cv:=.sy _ _) A (by rfl) e
  |cons y l=>
   obtain⟨u,n⟩:=y;obtain⟨h2,e⟩:=aQ e;obtain⟨h3,e⟩:=aQ e;rw[og,decide_eq_true_eq]at h2;have h2:u=x/1000000:=Int.ofNat.inj h2;show OS wb M ch h (gI x [.im (.ifc u _),.ifc t _] h) k r;rw[ahf,h1,h2,iZ];split at e
   .rename_i v J;obtain⟨d,e⟩:=aQ e;obtain⟨m,f,Z,q2,g⟩:=A.cell b v J;rw[I]at Z;cases Z;have hw:f.wd=2:=by
     have:=bR d;have j:fO v=af:=by cases v<;>first|rfl|trivial
     rw[<-this];exact(g.wd j).symm
    rw[q2];show OS wb M ch h (bif ak _ 2 then ab _ else ae) k r;rw[hw];exact⟨_,_,.sy .bool _,_,M,rfl,by rfl,A.P2 (cv:=.sy (.st 2 (.cn (.int _) (.cn _ _))) _) (v:=.im _) J I (by rfl),⟨.refl M,by simp[eI],by grind[bL],λi _ hi=>by
     rw[fN _ _ _ _ (eY J),az (by grind)],jZ,vD I (A.len _ _ I).2⟩,e⟩
   trivial
 trivial
theorem afV(b:ja C)(J:Good C ih)(U:HS M ch h){g:Nat}{args:List CV}{a:List V}(Z:aS M args a)(e:LS C ih g args wb ch k=ab r):jy wb M ch h (ux C.E (X C.E) h.length g a h []) k r:=by
 unfold LS at e;unfold ux;split at e
 .rename_i el A;rw[A];exact jy.of (agh U Z e)
 .rename_i A;cases I:ak _ 0 with
  |false=>
   rw[I]at e;rw[A];have:=afj U Z e;revert this;generalize C.E.ext g=x at I;intro this;cases x<;>first|exact jy.of this|cases I
  |true=>
   rw[I]at e;rw[A,bR I];exact af1 b J U Z e
def PF(E:Env)(aw:Nat)(keep:Bool)(t:Tm)(h:Heap)(op:Op):=
 match op with
 |.call c=>match c.callee with
  |.builtin _=>lift [] (bY E keep aw t h (.call c))
  |_=>jW E (X E) aw t c h []
 |op=>lift [] (bY E keep aw t h op)
theorem PG{df:List (Nat×List V)}{E:Env}{keep:Bool}{ops:Array Oper}{o:Oper}{t:Tm}{h:Heap}(J:guardOf ops t o.guard=ab ag)(I:∀c,o.op≠.defer c){v:V}{h':Heap}(A:PF E h.length keep t h o.op=ab (v,h',[])):
  ee E (X E) keep ops h.length o ⟨t,h,[],df⟩=ab ⟨putDst t o.dst v,h',[],df⟩:=by
 unfold ee;obtain⟨dst,op,ty,pos,after,guard⟩:=o;cases op with
 |defer c=>trivial
 |call c=>
  have A:(match c.callee with
   |.builtin _=>lift [] _
   |_=>jW E _ _ t c h [])=ab _:=A
  grind
 |_=>
  simp_all[PF]
theorem D6{tc:TC}{t:Tm}(J:bA M tc t){c:Call}{g:Nat×List CV}(e:rp tc c=ab g):∃b,target C.E t c=ab (g.1,b)/\aS M g.2 b/\pU t c=ae:=by
 unfold rp at e;split at e
 .rename_i d I;have A:=iW J d;split at e
  .rename_i f a cap U;cases e;rw[U]at A;obtain⟨i,cs,Z,h1,h2⟩:=A;refine⟨_,?_,h1.app ((zY J _).app h2),?_⟩;all_goals simp[target,I,Z,pU]
  .rename_i f U;cases e;rw[U]at A;simp[VR,Ty.enc]at A;refine⟨_,?_,zY J _,?_⟩;all_goals simp[target,I,A,pU]
  trivial
 trivial
theorem aab:∀ps {xs:List CV} {I:List V} {tc A:TC} {t:Tm},aS M xs I->bA M tc t->aaa ps xs tc=ab A->∃t0,y4 ps I t=ab t0/\bA M A t0
 |[],xs,I,tc,A,t,J,U,e=>by
  cases xs<;>first|subst J;have e:ab tc=ab _:=e;cases e;exact⟨t,rfl,U⟩|cases e
 |p::ps,xs,I,tc,A,t,J,U,e=>by
  cases xs<;>first|cases e|rename_i x xs;obtain⟨u,I,rfl,h1,h2⟩:=J;exact aab ps h2 (U.set h1 p) e
theorem BK(h:Heap) c y:aq (bB h c ae) y=if y=c then ae else aq h y:=by
 grind[cF,dR]
theorem ao7(l:Good C ih)(H:HS M ch h){b c:Nat}{xs:List CV}{K:List V}(m:M.b b=ab c)(W:aS M xs K)(e:DO ih b xs wb ch k=ab r):jy wb M ch h (lift [] (wc (X C.E) c K h)) k r:=by
 unfold DO at e;split at e
 .rename_i f tc ps bO body o;obtain⟨c',t,N,q2,O⟩:=H.xr b _ o;rw[m]at N;cases N;replace e:=ay.1 e;obtain⟨Y,p,e⟩:=e;obtain⟨t0,p1,p2⟩:=aab ps W O p;have s:=eY o;have A:(bB h c ae).length=h.length:=by simp
  have u:=H.It o rfl (ab .hole) (λy I=>by cases I;rfl) m A (λy I=>by rw[BK,az I]) (λy I=>by cases I;exact⟨c,m,by rw[BK,aK rfl]⟩)
  obtain⟨v,tc1,L0,M1,t1,h1,mk1,a1,a2,a3,U,_,⟨_,w⟩,e⟩:=l _ _ _ _ _ _ _ _ e M t0 _ 1 0 [] u p2;have w:=w (by cases gk _<;>rfl)
  subst w;cases v with
  |exit _|ret=>cases e
  |nm=>
  obtain⟨Bn,tc2,T8,P,t2,h2,Cl,b1,Q,b3,g,_,⟨_,x⟩,e⟩:=l _ _ _ _ _ _ _ _ e M1 t1 h1 1 0 [] a2 a3;have x:=x (by cases gk _<;>rfl)
  subst x;dsimp only at e;split at e
  .rename_i R;have Z:=U.le.trans g.le;have a:=Z.b _ _ m;have J:=(Q.len _ _ a).2;have S:(cG ch b .hole).length=ch.length:=eI ..;have n:∀y,aq _ y=if y=c then ab (.lp f t ps bO body)else aq h2 y:=λy=>bG _ _ _ _ (cX J)
   have z:HS P (cG _ b (.nj f tc ps bO body)) (aD h2 c (.lp f t ps _ _)):=Q.It R rfl _ (λy I=>by cases I;rfl) a (by rw[bL,aK J]) (λy I=>by rw[n,az I]) (λy I=>by
    cases I;exact⟨c,t,a,by grind,O.mono Z⟩)
   refine⟨.im _,_,.sy .bool _,_,P,?_,by rfl,z,⟨Z,by rw[eI];exact bU (S▸U.lc) g.lc,by rw[bL,aK J];exact bU (A▸U.lh) g.lh,λi hi hw=>?_,λi d B=>?_,λd B T=>?_⟩,e⟩
   .unfold wc;rw[q2];simp only;rw[p1,ah,a1];show lift [] (match X _ f 1 0 _ _ with
     |some (.nm,s2)=>(match s2.df with
      |[]=>ab _
      |_=>ae)
     |_=>ae)=_
    rw[b1];rfl
   .rw [fN _ _ _ _ (eY R)];split
    .grind
    .rename_i D;rw[g.keep i (eU (S▸hi) U.lc) hw,U.keep i (by omega) hw,fN _ _ _ _ s,az D]
   .rcases g.nb i d B with⟨j,F⟩|q
    .exact (U.nb j d F).imp id λq=>A▸q
    .exact .inr (bU (A▸U.lh) q)
   .have G:d≠c:=λq=>T b (q▸m)
    rw[n,az _];have e1:aq h1 d=aq h d:=by
     rw[U.out d (by omega) T,BK,az G]
    rw[<-e1];refine g.out d (eU (A.symm▸B) U.lh) λj F=>?_
    rcases U.nb j d F with⟨i,ei⟩|q
    all_goals grind
  trivial
 trivial
theorem aqU{tc:TC}{t:Tm}(U:bA M tc t){c:Call}{q:Nat×List CV}(e:wC tc c=ab q):∃d Z,pU t c=ab (d,Z)/\M.b q.1=ab d/\aS M q.2 Z:=by
 unfold wC at e;split at e
 .rename_i a I;have A:=iW U a;split at e
  .rename_i b f;cases e;rw[f]at A;obtain⟨d,g,J⟩:=A;refine⟨d,_,?_,g,zY U _⟩;simp[pU,I,J]
  trivial
 trivial
theorem UX(i:ja C)(J:Good C ih){tc:TC}{t:Tm}(U:HS M ch h)(Z:bA M tc t){f:Nat}{keep:Bool}{op:Op}(e:Bj C ih f keep wb op tc ch k=ab r):
  (∀c,op≠.defer c)/\jy wb M ch h (PF C.E h.length keep t h op) k r:=by
 cases op with
 |defer c=>cases e
 |call c=>
  refine⟨λc q=>(by cases q),?_⟩
  have A:(match c.callee with
   |.builtin _=>nG _ wb _ tc _ ch k
   |_=>match wC tc c with
    |some q=>DO ih _ _ wb ch k
    |none=>(rp tc c).bind _)=ab r:=e
  show jy wb M ch h (match c.callee with
   |.builtin _=>lift [] _
   |_=>jW _ _ _ t c h []) k r
  cases I:c.callee with
  |builtin b=>
   rw[I]at A;exact jy.of (tr U Z A)
  |value w=>
   rw[I]at A;replace A:(match wC tc c with
    |some q=>DO ih _ _ wb ch k
    |none=>(rp tc c).bind _)=ab r:=A
   split at A
   .rename_i q j;obtain⟨d,l,m,n,o⟩:=aqU Z j;unfold jW;rw[m];exact ao7 J U n o A
   replace A:=ay.1 A;obtain⟨g,a,A⟩:=A;obtain⟨l,p,q2,s⟩:=D6 (C:=C) Z a;have:=afV i J U q2 A;simp[jW,s,p,this]
  |invoke u nm=>
   rw[I]at A;have v:wC tc c=ae:=by simp[wC,I]
   rw[v]at A;replace A:=ay.1 A;obtain⟨g,a,A⟩:=A;simp_all[rp,a]
 |_=>
  refine⟨λc q=>(by cases q),?_⟩
  unfold Bj at e;exact jy.of (tr U Z e)
theorem bA.wk{M:Mu}{x:CV}:∀{t:TC} {u:Tm} {i:Nat},bA M t u->VR M x (u.get i)->bA M (t.set i x) u
 |.e,.e,_,_,_=>trivial
 |.n v l r,.n J U Z,i,⟨h1,h2,h3⟩,A=>by
  rw[TC.oB];rw[Tm.Gk]at A;by_cases I:i=0
  .rw [aK I]at A|-;trivial
  .rw [az I]at A|-;by_cases hm:i%2=1
   .rw [aK hm]at A|-;exact⟨h1,bA.wk h2 A,h3⟩
   .rw [az hm]at A|-;exact⟨h1,h2,bA.wk h3 A⟩
theorem FN:∀{l:List Oper} {j:Nat} {o:Oper} {d:Nat},bC l j=ab o->o.dst=ab d->aY (dstsOf l) d=ag
 |[],j,_,_,e,_=>by cases e
 |a::l,0,o,d,e,A=>by
  have I:=fu e;rw[<-I]at A;show aY (match a.dst with|some d=>d::dstsOf l|none=>dstsOf l) d=ag
  rw[A];show(bif ak d d then ag else aY _ d)=ag;simp
 |a::l,j+1,o,d,e,A=>by
  have ih:=FN (l:=l) (j:=j) e A;show aY (match a.dst with|some d=>d::dstsOf l|none=>dstsOf l) d=ag
  cases a.dst<;>first|rename_i q;show(bif ak q d then ag else aY (dstsOf l) d)=ag;grind|omega
theorem Gq{tc:TC}{t:Tm}(Z:bA M tc t){ops:Array Oper}{g:Option (Nat×Bool)}{U no:TC->Option ρ}(e:sg ops tc g U no=ab r):
  ∃I,bA M I t/\(∀i,aY (dstsOf ops.toList) i=af->I.get i=tc.get i)/\(guardOf ops t g=ab ag/\U I=ab r∨guardOf ops t g=ab af/\no I=ab r):=by
 unfold sg at e;split at e
 .exact ⟨tc,Z,λ_ _=>rfl,.inl ⟨rfl,e⟩⟩
 .rename_i j A;replace e:=ay.1 e;obtain⟨o,f,e⟩:=e;replace e:=ay.1 e;obtain⟨d,l,e⟩:=e;have m:∀v,t.get d=v->guardOf _ t (ab (j,A))=match v with
    |.im (.bool b)=>ab (bif b then A else not A)
    |.im (.aG [])=>ab af
    |_=>ae:=λv J=>by
   show((bC ops.toList j).bind λo=>o.dst.bind λd=>match t.get d with
    |.im (.bool b)=>ab _
    |.im (.aG [])=>ab _
    |_=>ae)=_
   grind
  have J:=Z.get d;have c:∀b,t.get d=.im (.bool b)->bA M _ t/\∀i,aY _ i=af->(tc.set d (.sy .bool b)).get i=tc.get i:=λb a=>
   ⟨Z.wk (by trivial),λi hi=>TC.uH _ _ _ _ λq=>by subst q;rw[FN f l]at hi;cases hi⟩
  split at e
  .rename_i b a;rw[a]at J;have:=J.bool;grind
  .rename_i a;rw[a]at J;obtain⟨vs,J,h2⟩:=J;subst h2;rw[m _ J];exact⟨tc,Z,λ_ _=>rfl,.inr ⟨rfl,e⟩⟩
  trivial
theorem pv{tc:TC}{t:Tm}(A:bA M tc t){v:CV}{u:V}(I:VR M v u) d:bA M (kP tc d v) (putDst t d u):=by
 cases d<;>first|rename_i n;exact A.set I n|exact A
theorem Ir{l:List Oper}{o:Oper}(A:o∈l) tc v i(hi:aY (dstsOf l) i=af):(kP tc o.dst v).get i=tc.get i:=by
 cases I:o.dst<;>first|refine TC.uH _ _ _ _ λq=>?_;subst q;obtain⟨j,J⟩:=EB A;rw[FN (by rw[b8];exact J) I]at hi;cases hi|rfl
theorem TC.Gl:∀(t:TC) i x,(t.set i x).get i=x∨(t.set i x).get i=.undef/\t.get i=.undef
 |.e,i,x=>.inr ⟨rfl,rfl⟩
 |.n v l r,i,x=>by
  rw[TC.oB];by_cases hi:i=0
  .rw [aK hi,TC.fM,aK hi];simp
  .rw [az hi];by_cases hm:i%2=1
   .rw [aK hm,TC.fM,TC.fM,az hi,aK hm,az hi,aK hm];exact TC.Gl l _ x
   .rw [az hm,TC.fM,TC.fM,az hi,az hm,az hi,az hm];exact TC.Gl r _ x
theorem wz:∀l t i,(mO l t).get i=if i∈l then .undef else t.get i
 |[],t,i=>by rfl
 |a::l,t,i=>by
  show(mO l _).get i=_;rw[wz l];by_cases I:i∈l
  .simp [I]
  .by_cases A:i=a
   .subst A;rcases TC.Gl t i .undef with h|⟨h,_⟩<;>simp[h]
   .rw [TC.uH _ _ _ _ λq=>A q.symm];simp[A]
theorem bA.JS:∀{t:TC} {u:Tm} {i:Nat} {x:V},bA M t u->t.get i=.undef->bA M t (u.set i x)
 |.e,.e,_,_,_,_=>trivial
 |.n v l r,.n w A I,i,x,⟨h1,h2,h3⟩,e=>by
  rw[TC.fM]at e;rw[Tm.abx];by_cases hi:i=0
  .rw [aK hi]at e|-;subst e;trivial
  .rw [az hi]at e|-;by_cases hm:i%2=1
   .rw [aK hm]at e|-;exact⟨h1,h2.JS e,h3⟩
   .rw [az hm]at e|-;exact⟨h1,h2,h3.JS e⟩
theorem RT:∀l {tc:TC} {t:Tm},bA M tc t->bA M (mO l tc) t
 |[],_,_,h=>h
 |a::l,tc,t,h=>RT l (tc:=tc.set a _) (h.wk trivial)
theorem ZD{E:Env}{ih:Nat->Nat->Nat->Code->St->Option (Ex×St)}{keep:Bool}{ops:Array Oper}{aw:Nat}{o:Oper}{st A:St}(e:ee E ih keep ops aw o st=ab A):∃v,A.t=putDst st.t o.dst v:=by
 unfold ee at e;grind
theorem abi{E:Env}{ih:Nat->Nat->Nat->Code->St->Option (Ex×St)}{keep:Bool}{ops:Array Oper}{a:TC}:∀{l:List Oper} {st A:St},dH E ih keep ops l st=ab A->(∀d,aY (dstsOf l) d=ag->a.get d=.undef)->bA M a st.t->bA M a A.t
 |[],st,A,e,_,h=>by cases e;exact h
 |o::l,st,A,e,J,h=>by
  replace e:(match ee E ih _ _ _ o st with|none=>ae|some _=>dH E ih _ _ l _)=ab _:=e
  split at e
  .cases e
  .rename_i Z h1;obtain⟨v,b⟩:=ZD h1;have U:dstsOf (o::l)=match o.dst with|some d=>d::dstsOf l|none=>dstsOf l:=rfl
   refine abi e (λd q=>J d ?_) ?_
   .rw [U];split
    .show (bif ak _ d then ag else aY _ d)=ag;grind
    omega
   .rw [b];cases I:o.dst<;>first|rename_i d;refine h.JS (J d ?_);rw[U,I];show(bif ak d d then ag else _)=ag;simp|exact h
theorem abe{E:Env}{ih:Nat->Nat->Nat->Code->St->Option (Ex×St)}{keep:Bool}{ops:Array Oper}{r:List Oper}{A:St}:∀{l:List Oper} {st:St},dH E ih keep ops l st=ab A->dH E ih keep ops (l++r) st=dH E ih keep ops r A
 |[],st,e=>by cases e;rfl
 |o::l,st,e=>by
  replace e:(match ee E ih _ _ _ o st with|none=>ae|some A=>dH E ih _ _ l _)=ab _:=e
  show(match ee E ih _ _ _ o st with|none=>ae|some _=>dH E ih _ _ (l++r) _)=_
  split at e
  .cases e
  simp[abe,e]
theorem arp{l:List Nat}{b:Nat}(h:b∈l):aY l b=ag:=by
 induction l with
 |nil=>cases h
 |cons a l ih=>
  show(bif ak a b then ag else aY l b)=ag;rcases eT.1 h with rfl|h
  all_goals simp_all
theorem Yv{l:List Nat}{b:Nat}(h:aY l b=ag):b∈l:=by
 induction l with
 |nil=>cases h
 |cons a l ih=>
  have h:(bif ak a b then ag else aY l b)=ag:=h;cases e:ak a b<;>first|simp_all|grind
theorem U0{g l:List Oper}(A:∀o∈g,o∈l){i:Nat}(hi:aY (dstsOf l) i=af):i ∉ dstsOf g:=λq=>by
 have key:∀{g:List _},i∈dstsOf g->∃o∈g,o.dst=ab i:=by
  intro g;induction g with
  |nil=>intro q;cases q
  |cons o g ih=>
   have J:dstsOf (o::g)=match o.dst with|some d=>d::dstsOf g|none=>dstsOf g:=rfl
   grind
 obtain⟨o,h1,h2⟩:=key q;obtain⟨j,I⟩:=EB (A o h1);rw[FN (by rw[b8];exact I) h2]at hi
 cases hi
theorem abP{d:Nat}:∀{l g r:List Oper} {p:Oper} {x y:Operand},zQ d l=ab (g,(p,x,y),r)->l=g++p::r/\p.op=.pick (.tmp d) x y
 |[],_,_,_,_,_,e=>by cases e
 |o::l,g,r,p,x,y,e=>by
  unfold zQ at e;split at e
  .rename_i I J hp;split at hp
   .rename_i c a b Z;cases f:ak c d<;>first|grind|simp_all
   trivial
  .cases U:o.guard.isSome with
   |false=>grind
   |true=>
    rw[U]at e;cases A:zQ d l<;>first|rename_i q;obtain⟨i,⟨j,I,J⟩,m⟩:=q;rw[A]at e;obtain⟨h1,h2⟩:=abP A;grind|simp_all
theorem VK{ops:Array Oper}{o:Oper}{l g r:List Oper}{tc:TC}{d:Nat}{b:Bool}{p:Oper}{x y:Operand}(e:Gn ops o l tc=ab (d,b,g,(p,x,y),r)):o::l=g++p::r/\p.op=.pick (.tmp d) x y/\tc.get d=.sy .bool b:=by
 obtain⟨q,A,e⟩:=ay.1 e;cases I:Oe (tc.get q.1)with
 |none=>simp_all
 |some b'=>
  rw[I]at e;obtain⟨U,c⟩:=q;have Z:tc.get U=.sy .bool b':=by
   unfold Oe at I;grind
  cases e;unfold VJ at A;split at A
  .cases A
  .obtain ⟨f,_,A⟩:=ay.1 A;obtain⟨a,_,A⟩:=ay.1 A;cases J:zQ a (o::l)<;>first|rw[J]at A;cases A;obtain⟨h1,h2⟩:=abP J;trivial|simp_all
theorem HS.forget{M':Mu}{a9:CH}{h':Heap}(A:HS M ch h)(I:HS M' a9 h')(hf:Fr (λb=>bp (aA ch) b) M ch h M' a9 h'):HS M ch h'/\Fr wb M ch h M ch h':=by
 have J:=λb U=>hf.keep b U (by
  rw[<-hG];simp_all)
 refine⟨⟨λb cv e=>?_,λb n cl t l e=>?_,A.inj,A.new,λb c e=>⟨(A.len b c e).1,eU (A.len b c e).2 hf.lh⟩,A.fQ,λb x e=>(A.xr b x e).back hf.le (I.xr b x ((J b (eY e)).trans e))⟩,.refl M,aJ _,hf.lh,λ_ _ _=>rfl,jZ,hf.out⟩
 .obtain ⟨c0,Z,h1,_,h3⟩:=A.cell b cv e;obtain⟨c,v,k1,k2,a⟩:=I.cell b cv ((J b (eY e)).trans e);rw[hf.le.b _ _ h1]at k1;cases k1;exact⟨c0,v,h1,k2,VR.back hf.le cv Z v h3 a⟩
 .obtain ⟨d,h1,h2⟩:=A.arr b n cl t l e;obtain⟨u,k1,k2⟩:=I.arr b n cl t l ((J b (eY e)).trans e);rw[hf.le.o _ _ _ h1]at k1;grind
theorem Z0{v:Bool}{c w:CV}{b:Bool}(e:yX v c w=ab b):c=.sy .bool v/\w=.sy .bool b:=by
 unfold yX at e;grind
theorem zC{df:List (Nat×List V)}(P:ja C)(J:Good C ih){f:Nat}{keep:Bool}{ops:Array Oper}:∀(n:Nat) {ρ:Type} {r:ρ} {wb:Nat->Bool} l {tc:TC} {t:Tm} {M:Mu} {ch:CH} {h:Heap} {B:TC->CH->Option ρ},(∀o∈l,o∈ops.toList)->HS M ch h->bA M tc t->we C ih f keep ops n ρ l wb tc ch B=ab r->
  ∃D a9 M' t' h',dH C.E (X C.E) keep ops l ⟨t,h,[],df⟩=ab ⟨t',h',[],df⟩/\HS M' a9 h'/\bA M' D t'/\Fr wb M ch h M' a9 h'/\(∀i,aY (dstsOf ops.toList) i=af->D.get i=tc.get i)/\B D a9=ab r
 |0,_,_,_,_,_,_,_,_,_,_,_,_,_,e=>by cases e
 |_+1,_,_,_,[],tc,t,M,ch,h,B,_,Q,R,e=>⟨tc,ch,M,t,h,rfl,Q,R,.refl ..,λ_ _=>rfl,e⟩
 |n+1,ρ,r,wb,o::l,tc,t,M,ch,h,B,T,Q,R,e=>by
  have aD:=Ir (T o (e8 ..));have W:=λo ho=>T o (gB _ ho)
  replace e:(match Gn ops o l tc with
   |some (d,t,g,(p,x,y),l')=>xD ops (λtc k=>we C ih f keep ops n Bool g (λb=>bp (aA ch) b) tc ch k) d x y p g t tc λtc=>we C ih f keep ops n ρ l' wb tc ch B
   |none=>sg ops tc o.guard (λtc=>Bj C ih f keep wb o.op tc ch λv ch=>we C ih f keep ops n ρ l wb (kP tc o.dst v) ch B) (λtc=>we C ih f keep ops n ρ l wb (kP tc o.dst (.aG [])) ch B))=ab r:=e
  split at e
  .rename_i d b g p x y Y Nw;obtain⟨heq,ym,hb⟩:=VK Nw;have uN:∀q∈g,q∈ops.toList:=λq hq=>T q (by grind)
   have NQ:=T p (by grind)
   have lH:∀q∈Y,q∈ops.toList:=λq hq=>T q (by grind)
   unfold xD at e;obtain⟨c,S,e⟩:=ay.1 e;have hv:=R.get d;rw[hb]at hv;have htd:=hv.bool;have side:∃t1 h1,dH C.E (X C.E) keep ops g ⟨t,h,[],df⟩=ab ⟨t1,h1,[],df⟩/\HS M ch h1/\Fr wb M ch h M ch h1/\kX h1 (ev t1 (.tmp d)) (ev t1 x) (ev t1 y)=ab (.im (.bool c),h1):=by
    have one:∀(v:Bool) (z:Operand),b=v->we C ih f keep ops n Bool g (λb=>bp (aA ch) b) (tc.set d (.sy .bool v)) ch (λI _=>yX v (I.get d) (vC I z))=ab c->
      ∃t1 h1,dH C.E (X C.E) keep ops g ⟨t,h,[],df⟩=ab ⟨t1,h1,[],df⟩/\HS M ch h1/\Fr wb M ch h M ch h1/\ev t1 (.tmp d)=.im (.bool v)/\ev t1 z=.im (.bool c):=λv z Ni S=>by
     subst Ni;obtain⟨F,L0,M1,t1,h1,w,Z,U,a,_,r6⟩:=zC P J n g uN Q (R.wk (x:=.sy .bool b) (by omega)) S
     obtain⟨q1,q2⟩:=Z0 r6;obtain⟨f1,f2⟩:=Q.forget (wb:=wb) Z a;have k1:=U.get d;rw[q1]at k1;have k2:=iW U z;rw[q2]at k2;exact⟨t1,h1,w,f1,f2,k1.bool,k2.bool⟩
    cases b<;>first|rw[ax]at S;obtain⟨t1,h1,w,Z,U,a,G⟩:=one af y rfl S;exact⟨t1,h1,w,Z,U,by simp[kX,a,ax,G]⟩|rw[au]at S;obtain⟨t1,h1,w,Z,U,a,G⟩:=one ag x rfl S;exact⟨t1,h1,w,Z,U,by simp[kX,a,au,G]⟩
   obtain⟨t1,h1,w,Z,U,a⟩:=side;have j:bA M (mO (dstsOf g) tc) t1:=abi w (λi q=>by rw[wz,aK (Yv q)]) (RT _ R)
   have BL:∀i,aY (dstsOf ops.toList) i=af->(mO (dstsOf g) tc).get i=tc.get i:=λi hi=>by
    rw[wz,az (U0 uN hi)]
   have m:=Ir NQ;have A:∀v,ee C.E (X C.E) keep ops h1.length p ⟨t1,h1,[],df⟩=ab ⟨putDst t1 p.dst v,h1,[],df⟩->dH C.E (X C.E) keep ops (o::l) ⟨t,h,[],df⟩=dH C.E (X C.E) keep ops Y ⟨putDst t1 p.dst v,h1,[],df⟩:=λv q=>by
    rw[heq,abe w];show(match ee C.E (X C.E) keep ops (aA h1) p ⟨t1,h1,[],df⟩with
     |none=>ae
     |some s=>dH C.E (X C.E) keep ops Y s)=_
    rw[bn,q]
   obtain⟨I,BS,uQ,⟨H,e⟩|⟨H,e⟩⟩:=Gq j e
   .obtain ⟨K,N,M3,t3,h3,s1,s2,s3,s4,s5,s6⟩:=zC P J n Y lH Z (pv BS (v:=.sy .bool c) (u:=.im (.bool c)) rfl p.dst) e;refine⟨K,N,M3,t3,h3,?_,s2,s3,U.trans s4,λi hi=>(s5 i hi).trans ((m I _ i hi).trans ((uQ i hi).trans (BL i hi))),s6⟩
    rw[A (.im (.bool c)) (PG H (λc q=>by grind) (by
     rw[ym];show lift [] (kX h1 (ev t1 (.tmp d)) (ev t1 x) (ev t1 y))=_;rw[a];rfl))]
    omega
   .obtain ⟨K,N,M3,t3,h3,s1,s2,s3,s4,s5,s6⟩:=zC P J n Y lH Z (pv BS (v:=.aG []) (u:=.im (.aG [])) (by simp only[VR];exact⟨[],rfl,rfl⟩) p.dst) e
    refine⟨K,N,M3,t3,h3,?_,s2,s3,U.trans s4,λi hi=>(s5 i hi).trans ((m I _ i hi).trans ((uQ i hi).trans (BL i hi))),s6⟩
    rw[A (.im (.aG [])) (by
     simp[ee,H])]
    omega
  have A:dH C.E (X C.E) keep ops (o::l) ⟨t,h,[],df⟩=(match ee C.E (X C.E) keep ops h.length o ⟨t,h,[],df⟩with
    |none=>ae
    |some s=>dH C.E (X C.E) keep ops l s):=by
   show(match ee C.E (X C.E) keep ops (aA h) o ⟨t,h,[],df⟩with
    |none=>ae
    |some s=>dH C.E (X C.E) keep ops l s)=_
   simp
  obtain⟨F,j,uP,⟨H,e⟩|⟨H,e⟩⟩:=Gq R e
  .obtain ⟨uS,v,h',cv,a9,M',q1,q2,q3,q4,q5⟩:=UX P J Q j e;obtain⟨I,O,M2,t2,h2,w,Z,U,a,G,r6⟩:=zC P J n l W q3 (pv (j.mono q4.le) q2 o.dst) q5;refine⟨I,O,M2,t2,h2,?_,Z,U,q4.trans a,λi hi=>(G i hi).trans ((aD F cv i hi).trans (uP i hi)),r6⟩
   rw[A];rw[PG H uS q1];omega
  .obtain ⟨I,O,M2,t2,h2,w,Z,U,a,G,r6⟩:=zC P J n l W Q (pv j (v:=.aG []) (u:=.im (.aG [])) (by simp only[VR];exact⟨[],rfl,rfl⟩) o.dst) e
   refine⟨I,O,M2,t2,h2,?_,Z,U,a,λi hi=>(G i hi).trans ((aD F (.aG []) i hi).trans (uP i hi)),r6⟩
   rw[A];have:ee C.E (X C.E) keep ops h.length o ⟨t,h,[],df⟩=ab ⟨putDst t o.dst (.im (.aG [])),h,[],df⟩:=by
    unfold ee;rw[H]
   rw[this];omega
theorem apm{df:List (Nat×List V)}(Z:ja C)(I:Good C ih){f:Nat}{keep:Bool}{ops:Array Oper} l{tc:TC}{t:Tm}{M:Mu}{ch:CH}{h:Heap}{J:TC->CH->Option ρ}(a:∀o∈l,o∈ops.toList)(b:HS M ch h)(c:bA M tc t)(e:JF C ih f keep wb ops l tc ch J=ab r):
  ∃A a9 M' U h',dH C.E (X C.E) keep ops l ⟨t,h,[],df⟩=ab ⟨U,h',[],df⟩/\HS M' a9 h'/\bA M' A U/\Fr wb M ch h M' a9 h'/\(∀i,aY (dstsOf ops.toList) i=af->A.get i=tc.get i)/\J A a9=ab r:=
 zC Z I _ l a b c e
end
end
section
variable [Gh]
section
variable {ρ:Type} {wb:Nat->Bool} {M:Mu} {ch:CH} {h:Heap} {k:KC ρ} {r:ρ}
variable {C:CE} {ih:(ρ:Type)->Nat->Code->(Nat->Bool)->TC->CH->KX ρ->Option ρ}
theorem YR:∀l:List Nat,yI l l=ag
 |[]=>rfl
 |a::l=>by show(bif ak a a then yI l l else af)=ag;rw[iZ];exact YR l
mutual
theorem D.JJ:∀d:D,D.same d d=ag
 |.bool _|.int _ _|.fn _=>by simp[D.same]
 |.nil|.eR|.dn|.g8=>by simp[D.same]
 |.str s=>by simp[D.same,YR]
 |.ref d=>by simp[D.same,D.JJ d]
 |.ar l=>by simp[D.same,D.JK l]
 |.aG l=>by simp[D.same,D.JK l]
 |.agg w l=>by simp[D.same,D.JK l]
 |.ifc t d=>by simp[D.same,D.JJ d]
theorem D.JK:∀l:List D,D.fU l l=ag
 |[]=>by simp[D.fU]
 |d::l=>by simp[D.fU,D.JJ d,D.JK l]
end
theorem abq:∀l:Heap,(∀x∈l,x=ae∨∃d,x=ab (.cell (.im d)))->nD l l=ag
 |[],_=>rfl
 |a::l,q=>by
  have ih:=abq l λx A=>q x (gB _ A)
  rcases q a (e8 ..)with rfl|⟨d,rfl⟩
  .exact ih
  .show (bif bK.same (.cell (.im d)) (.cell (.im d))then nD l l else af)=ag;have:bK.same (.cell (.im d)) (.cell (.im d))=ag:=by simp[bK.same,V.same,D.JJ]
   grind
theorem Tg:∀(l A:List Nat) (i:Nat),aY (iz 0 l A) i=(aY A i||aY l i)
 |[],A,i=>by show aY A i=(aY A i||false);simp
 |b::l,A,i=>by
  have e:iz 0 (b::l) A=iz 0 l (bif aY A b then A else A++[b]):=rfl;rw[e,Tg l];have I:aY (b::l) i=(bif ak b i then ag else aY l i):=rfl;rw[I];cases J:aY A b with
  |true=>
   cases Z:ak b i with
   |false=>rfl
   |true=>
    simp_all
  |false=>
   have:aY (A++[b]) i=(aY A i||(bif ak b i then ag else af)):=by
    clear e J I;induction A with
    |nil=>rfl
    |cons a A U=>
     show(bif ak a i then ag else aY (A++[b]) i)=((bif ak a i then ag else aY A i)||_)
     grind
   grind
theorem V4:∀(l:List Nat),(∀i∈l,∃d,aq h i=ab (.cell (.im d)))->qA (l.map λb=>aq h b)=[]
 |[],_=>rfl
 |i::l,q=>by
  obtain⟨d,A⟩:=q i (e8 ..);show(match aq h i with|some (.cell v)=>V.refs v++qA (l.map λb=>aq h b)|some (.mp es _ _)=>aaY es++qA (l.map λb=>aq h b)|some (.it v _ _ _)=>V.refs v++qA (l.map λb=>aq h b)|some (.bN _ _ I)=>fg I++qA (l.map λb=>aq h b)|some (.lp _ t _ _ _)=>Tm.refs t++qA (l.map λb=>aq h b)|_=>qA (l.map λb=>aq h b))=[]
  rw[A];exact V4 l λj J=>q j (gB _ J)
theorem aoS{l:List Nat}(q:∀i∈l,∃d,aq h i=ab (.cell (.im d))):mH h 0 64 l=l:=by
 show(bif ak (aA (iz 0 (qA (l.map λb=>aq h b)) l)) (aA l)then l else _)=l
 rw[V4 l q];show(bif ak (aA l) (aA l)then l else _)=l;rw[iZ,au]
theorem aaZ:∀A:List V,fg A=V.oy A
 |[]=>by rfl
 |u::A=>by
  have e:fg (u::A)=(match V.refs u with|[]=>fg A|r=>r++fg A):=rfl
  have I:V.refs u=u.kS:=by cases u<;>first|rfl|simp[V.refs]
  rw[e,aaZ A];simp[V.oy];grind
def Mu.cut(M:Mu)(A:List Nat):Mu:=⟨λb=>if b∈A then M.b b else ae,λb n=>if b∈A then M.o b n else ae⟩
def EY(M:Mu)(ch:CH)(A:List Nat)(l:List Nat)(cs:List Nat):Prop:=
 (∀c∈cs,∃b∈l,M.b b=ab c)/\(∀b∈l,∃c∈cs,M.b b=ab c)/\∀b∈l,∃t x,aB ch b=ab (.cell (.sy t x))
mutual
theorem apy{I:List Nat}:∀(v:CV) {l:List Nat} {u:V},CV.seen ch v=ab l->(∀b∈l,b∈I)->VR M v u->VR (M.cut I) v u/\EY M ch I l u.kS
 |.sy t x,l,u,e,_,r=>by
  cases e
  simp only[VR]at r
  subst r
  exact⟨rfl,by simp[V.kS,EY]⟩
 |.ptr b p,l,u,e,J,r=>by
  replace e:(match aB ch b with|some (.cell (.sy _ _))=>ab [b]|_=>ae)=ab l:=e
  split at e
  .rename_i t x U
   cases e
   simp only[VR]at r|-
   obtain⟨c,Z,rfl⟩:=r
   refine⟨⟨c,?_,rfl⟩,?_⟩
   .show (if b∈I then M.b b else ae)=ab c
    rw[aK (J b (gW.2 rfl))];exact Z
   .simp only[V.kS]
    exact⟨λd A=>⟨b,gW.2 rfl,by rw[gW.1 A];exact Z⟩,λd A=>⟨c,gW.2 rfl,by rw[gW.1 A];exact Z⟩,λd A=>⟨t,x,by rw[gW.1 A];exact U⟩⟩
  .cases e
 |.fn f a c,l,u,e,J,r=>by
  replace e:(match CV.tp ch a,CV.tp ch c with|some x,ab y=>ab (x++y)|_,_=>ae)=ab l:=e
  split at e
  .rename_i x y U g
   cases e
   simp only[VR]at r|-
   obtain⟨i,cs,rfl,j,m⟩:=r
   obtain⟨n,o,q,s⟩:=JO a U (λb h=>J b (cB.2 (.inl h))) j
   obtain⟨w,q2,z,q4⟩:=JO c g (λb h=>J b (cB.2 (.inr h))) m
   refine⟨⟨i,cs,rfl,n,w⟩,?_⟩
   simp only[V.kS]
   exact⟨λd A=>(cB.1 A).elim (λA=>let⟨b,h1,h2⟩:=o d A;⟨b,cB.2 (.inl h1),h2⟩) (λA=>let⟨b,h1,h2⟩:=q2 d A;⟨b,cB.2 (.inr h1),h2⟩),
    λd A=>(cB.1 A).elim (λA=>let⟨b,h1,h2⟩:=q d A;⟨b,cB.2 (.inl h1),h2⟩) (λA=>let⟨b,h1,h2⟩:=z d A;⟨b,cB.2 (.inr h1),h2⟩),
    λd A=>(cB.1 A).elim (s d) (q4 d)⟩
  .cases e
 |.undef,_,_,e,_,_|.rf _ _,_,_,e,_,_|.m8 _,_,_,e,_,_|.fA,_,_,e,_,_|.agg _ _,_,_,e,_,_|.aG _,_,_,e,_,_|.own _ _,_,_,e,_,_|.el _ _ _ _,_,_,e,_,_|.fm _ _,_,_,e,_,_|.da _ _ _ _ _,_,_,e,_,_|.ifc _ _,_,_,e,_,_=>by cases e
theorem JO{bs:List Nat}:∀(vs:List CV) {l:List Nat} {I:List V},CV.tp ch vs=ab l->(∀b∈l,b∈bs)->aS M vs I->aS (M.cut bs) vs I/\EY M ch bs l (V.oy I)
 |[],l,I,e,_,r=>by
  cases e
  simp only[aS]at r|-
  subst r
  exact⟨rfl,by simp[V.oy,EY]⟩
 |v::vs,l,I,e,J,r=>by
  replace e:(match CV.seen ch v,CV.tp ch vs with|some x,ab y=>ab (x++y)|_,_=>ae)=ab l:=e
  split at e
  .rename_i x y U Z
   cases e
   simp only[aS]at r|-
   obtain⟨u,a,rfl,c,f⟩:=r
   obtain⟨g,i,j,m⟩:=apy v U (λb h=>J b (cB.2 (.inl h))) c
   obtain⟨n,q2,o,q4⟩:=JO vs Z (λb h=>J b (cB.2 (.inr h))) f
   refine⟨⟨u,a,rfl,g,n⟩,?_⟩
   simp only[V.oy]
   exact⟨λd A=>(cB.1 A).elim (λA=>let⟨b,h1,h2⟩:=i d A;⟨b,cB.2 (.inl h1),h2⟩) (λA=>let⟨b,h1,h2⟩:=q2 d A;⟨b,cB.2 (.inr h1),h2⟩),
    λd A=>(cB.1 A).elim (λA=>let⟨b,h1,h2⟩:=j d A;⟨b,cB.2 (.inl h1),h2⟩) (λA=>let⟨b,h1,h2⟩:=o d A;⟨b,cB.2 (.inr h1),h2⟩),
    λd A=>(cB.1 A).elim (m d) (q4 d)⟩
  .cases e
end
theorem PB(A:List Nat):∀(ch:CH) (n:Nat),(a8 (motive:=λ_=>Nat->CH) (λ_=>[]) (λb _ ih i=>(bif aY A i then b else ae)::ih (i+1)) ch n).length=ch.length/\
  ∀i,(a8 (motive:=λ_=>Nat->CH) (λ_=>[]) (λb _ ih i=>(bif aY A i then b else ae)::ih (i+1)) ch n)[i]? =(ch[i]?).map λb=>bif aY A (n+i)then b else ae
 |[],n=>⟨rfl,λi=>rfl⟩
 |b::ch,n=>by
  obtain⟨h1,h2⟩:=PB A ch (n+1);grind
theorem PC(A:List Nat)(ch:CH):(CC A ch).length=ch.length:=(PB A ch 0).1
theorem yU(A:List Nat)(ch:CH)(b:Nat):aB (CC A ch) b=if b∈A then aB ch b else ae:=by
 have h2:(CC A ch)[b]? =(ch[b]?).map λx=>bif aY A (0+b)then x else ae:=(PB A ch 0).2 b
 unfold aB;rw[b8,h2,cV];by_cases I:b∈A
 .rw [aK I,jX.2 I];simp
 .rw [az I];cases J:aY A b with
  |true=>exact absurd (jX.1 J) I
  |false=>simp
theorem ap9{cv:CV}(e:(match cv with|.sy t x=>k (.sy t x) ch|_=>ae:Option ρ)=ab r):∃t x,cv=.sy t x/\k (.sy t x) ch=ab r:=by
 grind
theorem aeZ(s:Good C ih)(f:HS M ch h){g:Nat}{args:List CV}{a:List V}(ha:aS M args a)(e:Lm C ih g args ch k=ab r):
  ∃v h2 cv,gp C.E (X C.E) g a (only (mH h 0 64 (iz 0 (fg a) [])) h) []=ab (v,h2,[])/\nD (only (mH h 0 64 (iz 0 (fg a) [])) h) (h2.take (aA h))=ag/\VR M cv v/\k cv ch=ab r:=by
 unfold Lm at e;replace e:=ay.1 e;obtain⟨bs,u,e⟩:=e;obtain⟨hv,P,s2,Q⟩:=JO (bs:=bs) args u (λ_ q=>q) ha
 rw[<-aaZ]at P s2;have U:∀b∈bs,∀c,M.b b=ab c->∃t x,aB ch b=ab (.cell (.sy t x))/\aq h c=ab (.cell (.im (t.enc x))):=λb A c S=>by
  obtain⟨t,x,J⟩:=Q b A;obtain⟨c',v,h1,h2,h3⟩:=f.cell b _ J;rw[S]at h1;cases h1;simp only[VR]at h3;grind
 have w:∀i,aY (iz 0 (fg a) []) i=ag↔i∈fg a:=λi=>by
  simp[Tg,Bool.false_or,jX]
 have hR:mH h 0 64 (iz 0 (fg a) [])=iz 0 (fg a) []:=aoS λi hi=>by
  obtain⟨b,A,hm⟩:=P i ((w i).1 (jX.2 hi));grind
 rw[hR];generalize hRR:iz 0 (fg a) []=R at*;have j:∀b∈bs,∀c,M.b b=ab c->aY R c=ag:=λb A c S=>by
  grind
 have Z:∀b,(M.cut bs).b b=if b∈bs then M.b b else ae:=λ_=>rfl
 have y:HS (M.cut bs) (CC bs ch) (only R h):=by
  refine⟨λb cv q=>?_,λb n cl t l q=>?_,λb b' c z q2 B D=>?_,λb n cl t l q=>?_,λb c q=>?_,λb n x q=>?_,λb x q=>?_⟩
  .rw [yU]at q;split at q
   .rename_i A;obtain⟨c,v,h1,h2,h3⟩:=f.cell b cv q;obtain⟨t,x,J,m⟩:=U b A c h1;rw[q]at J;cases J;rw[h2]at m;cases m;exact⟨c,_,by grind,by rw[H0,aK (j b A c h1)];omega,rfl⟩
   trivial
  .rw [yU]at q;grind
  .rw [yU]at z q2;rw[Z]at B D;split at z
   .rename_i A;split at q2
    .rename_i F;rw[aK A]at B;rw[aK F]at D;exact f.inj b b' c z q2 B D
    trivial
   trivial
  .rw [yU]at q;grind
  .rw [Z]at q;split at q
   .rw [PC,PD];exact f.len b c q
   trivial
  .have q:(if b∈bs then M.o b n else ae)=ab x:=q;split at q
   .rw [PC];exact f.fQ b n x q
   trivial
  .rw [yU]at q;split at q
   .rename_i A;obtain⟨t',x,J⟩:=Q b A;rw[q]at J;cases J;trivial
   trivial
 obtain⟨v,h2,cv,T8,M2,r1,T,r3,p,G⟩:=yu s y hv e;obtain⟨t,x,rfl,G⟩:=ap9 G
 .simp only[VR]at T;subst T;refine⟨_,h2,.sy t x,r1,?_,rfl,G⟩;have I:(only R h).length=h.length:=PD _ _;have H:h2.take (aA h)=only R h:=by
   rw[bn];have K:=p.lh;rw[I]at K;apply Ar;intro i;by_cases hi:i< h.length
   .rw [adH hi];have g1:h2[i]? =ab (aq h2 i):=by
     rw[cF,hJ (by omega)];rfl
    have N:(only R h)[i]? =ab (aq (only R h) i):=by
     rw[cF,hJ (by rw[I];exact hi)];rfl
    rw[g1,N];congr 1;by_cases A:∃b,(M.cut bs).b b=ab i
    .obtain ⟨b,A⟩:=A;have O:=A;rw[Z]at A;split at A
     .rename_i d;obtain⟨t',x',J,m⟩:=U b d i A;have W:=p.keep b (by rw[PC];exact eY J) (by
       show bp (aA ch) b=af;rw[bn,<-hG];exact λq=>absurd (eY J) (SN.2 (gX q)))
      rw[yU,aK d,J]at W;obtain⟨c',v',k1,k2,Y⟩:=r3.cell b _ W;rw[p.le.b b i O]at k1;cases k1;simp only[VR]at Y;subst Y;rw[k2,H0,aK (j b d i A),m]
     .cases A
    .exact p.out i (by rw[I];exact hi) λb q=>A ⟨b,q⟩
   .rw [jO (by rw[gz];omega),jO (by rw[I];omega)]
  rw[H];refine abq _ λx J=>?_
  obtain⟨i,hi,rfl⟩:=List.getElem_of_mem J;have N:(only R h)[i]=aq (only R h) i:=by
   rw[cF,hJ hi];rfl
  rw[N,H0];grind
theorem abM(U:HS M ch h)(N:Mu):∀{args ws:List CV} {A:List V},Rl ch args=ab ws->aS M args A->∃ds,mX h A=ab ds/\aS N ws (ds.map V.im)
 |[],ws,A,e,I=>by
  cases e;subst I;exact⟨[],rfl,by rfl⟩
 |v::args,ws,A,e,I=>by
  replace e:(match Rk ch v,Rl ch args with|some w,ab ws=>ab (w::ws)|_,_=>ae)=ab ws:=e
  split at e
  .rename_i w Z hw J;cases e;obtain⟨u,a,rfl,h1,h2⟩:=I;obtain⟨ds,f,q2⟩:=abM U N J h2;have key:∃d,V.snap h u=ab d/\VR N w (.im d):=by
    unfold Rk at hw;split at hw
    .cases hw;subst h1;exact⟨_,rfl,rfl⟩
    .rename_i b;split at hw
     .rename_i t x g;cases hw;obtain⟨c,i,rfl⟩:=h1;obtain⟨l,m,k1,k2,j⟩:=U.cell b _ g;rw[i]at k1;cases k1;subst j;refine⟨.ref (t.enc x),?_,rfl⟩;show(match aq h c with|some (.cell u)=>(u.data h).map D.ref|_=>ae)=_
      rw[k2];rfl
     trivial
    trivial
   obtain⟨d,d1,d2⟩:=key;refine⟨d::ds,?_,?_⟩
   .show (V.snap h u).bind (λd=>(mX h a).map (d:: ·))=_
    simp[d1,f]
   .simp [aS];grind
  trivial
theorem Tr:∀{A:List V} {ds:List D},gG h A=ab ds->mX h A=ab ds
 |[],ds,e=>e
 |u::A,ds,e=>by
  obtain⟨d,h1,e⟩:=ay.1 e;obtain⟨l,h2,rfl⟩:=bu.1 e;show(V.snap h u).bind (λd=>(mX h A).map (d:: ·))=_
  rw[Tr h2];have:V.snap h u=ab d:=by
   cases u with
   |ptr b g p=>trivial
   |_=>exact h1
  simp[this]
theorem afl(i:ja C)(I:Good C ih)(b:HS M ch h){g:Nat}{args:List CV}{c:List V}(f:aS M args c)(e:Ly C ih g args ch k=ab r):
  ∃ds d cv,mX h c=ab ds/\fY C.E (X C.E) g ds=ab d/\d.flat=ag/\VR M cv (.im d)/\k cv ch=ab r:=by
 unfold Ly at e;split at e
 .rename_i s J;cases hi:C.E.inl g with
  |true=>grind
  |false=>
   rw[hi]at e;replace e:=ay.1 e;obtain⟨x,j,e⟩:=e;replace e:=ay.1 e;obtain⟨y,U,e⟩:=e;cases hf:s.r.flat with
   |false=>grind
   |true=>
    rw[hf,au]at e;exact⟨_,_,.sy s.r y,Tr (FO b j f),i.sp g s J x y U,by simp[Bm,hf],rfl,Ln e⟩
 .cases hm:(C.E.sm g).isNone with
  |false=>grind
  |true=>
   rw[hm]at e;replace e:=ay.1 e;obtain⟨ws,Z,e⟩:=e;replace e:=ay.1 e;obtain⟨fn,l,e⟩:=e;replace e:=ay.1 e;obtain⟨rt,m,e⟩:=e;cases hf:rt.flat with
   |false=>grind
   |true=>
    rw[hf]at e;obtain⟨ds,n,q2⟩:=abM b ⟨λ_=>ae,λ_ _=>ae⟩ Z f
    obtain⟨v,h2,cv,o,u,p,q,t,_,A⟩:=yu I HS.empty q2 e;replace A:=ay.1 A;obtain⟨y,U,A⟩:=A;refine⟨ds,rt.enc y,.sy rt y,n,?_,by simp[Bm,hf],rfl,A⟩
    have a:=by simpa using hm
    unfold fY;rw[a];unfold oX;rw[mC,p];exact Bk t U q
theorem WG(f:ja C)(b:HS M ch h){g:Nat}{args:List CV}{Z:List V}(c:aS M args Z)(e:GM C g args ch k=ab r):
  ∃ds d cv,C.E.clone g=ae/\C.E.ext g=0/\C.E.inl g=af/\gG h Z=ab ds/\fY C.E (X C.E) g ds=ab d/\(d.flat=ag∨V.j0 Z=[])/\VR M cv (.im d)/\k cv ch=ab r:=by
 unfold GM at e;split at e
 .cases e
 .rename_i I;cases U:ak (C.E.ext g) 0&&not (C.E.inl g)with
  |false=>grind
  |true=>
   rw[U]at e;rw[aM]at U;split at e
   .rename_i s a;replace e:=ay.1 e;obtain⟨x,J,e⟩:=e;replace e:=ay.1 e;obtain⟨y,i,e⟩:=e;cases A:s.r.flat||Zj (CV.fS args)with
    |false=>grind
    |true=>
     rw[A,au]at e;refine⟨_,_,.sy s.r y,I,bR U.1,by simpa using U.2,FO b J c,f.sp g s a x y i,?_,rfl,Ln e⟩
     rw[mP]at A;rcases A with A|A
     .exact .inl (by simp[Bm,A])
     .refine .inr ?_;rw[ZP b J c];generalize CV.fS args=l at A;cases l with
      |nil=>rfl
      |cons _ _=>trivial
   trivial
theorem Tt:∀{args:List CV} {A:List V},Ts args=ag->aS M args A->(∀h h':Heap,gG h A=gG h' A)/\V.j0 A=[]
 |[],A,_,I=>by
  subst I;exact⟨λ_ _=>rfl,rfl⟩
 |v::args,A,e,I=>by
  obtain⟨u,J,rfl,h1,h2⟩:=I;cases v with
  |sy t x=>
   subst h1;obtain⟨U,q2⟩:=Tt (args:=args) e h2;refine⟨λh h'=>?_,?_⟩
   .show (V.data h (.im (t.enc x))).bind (λd=>(gG h J).map (d:: ·))=(V.data h' (.im (t.enc x))).bind (λd=>(gG h' J).map (d:: ·))
    rw[U h h'];rfl
   trivial
  |_=>cases e
theorem LV{op:Op}{tc:TC}{f:Nat->List CV->Option ρ}(e:AY op tc f=ab r):∃c g,op=.call c/\(∀b,c.callee≠.builtin b)/\rp tc c=ab g/\f g.1 g.2=ab r:=by
 unfold AY at e;split at e
 .split at e
  .cases e
  .obtain ⟨g,A,e⟩:=ay.1 e;grind
 trivial
theorem apt{E:Env}{m c g ty:Nat}{p:List (Nat×Nat)}(A:c< m):iV E (h.take m) ty (.ptr c g p)=(iV E h ty (.ptr c g p)).map λr=>(r.1,h.take m):=by
 have I:eJ (h.take m) c g p=eJ h c g p:=by
  simp[eJ,cF,adH,A]
 unfold iV;simp[I];cases E.ty ty with
 |none=>rfl
 |some ti=>
  cases eJ h c g p with
  |none=>rfl
  |some v=>
   grind
theorem aps{E:Env}{t:Nat}{a v:V}{h':Heap}(e:iV E h t a=ab (v,h')):h'=h:=by
 obtain⟨ti,_,e⟩:=ay.1 e;split at e
 .obtain ⟨w,_,e⟩:=ay.1 e;grind
 all_goals grind
theorem apr{E:Env}{t:Nat}{d:D}{v:V}{h':Heap}(e:iV E h t (.im (.ref d))=ab (v,h'))(h2:Heap):iV E h2 t (.im (.ref d))=ab (v,h2):=by
 unfold iV at e|-;obtain⟨ti,A,e⟩:=ay.1 e;grind
theorem Yk(g:HS M ch h){A:CH}{d m ty:Nat}(hm:d<=m)(hw:∀b cv,aB A b=ab (.cell cv)->∀c,M.b b=ab c->c< d){a:CV}{f:V}(I:VR M a f)(e:Ch C.E ty a ch k=ab r)(J:RY A a=ag):
  ∃v h' cv a9 M',iV C.E (h.take m) ty f=ab (v,h.take m)/\h'=h/\VR M' cv v/\HS M' a9 h'/\Fr wb M ch h M' a9 h'/\k cv a9=ab r:=by
 obtain⟨v,h',cv,a9,M',U,q2,i,q4,j⟩:=Yl (wb:=wb) g I e;have l:=aps U;refine⟨v,h',cv,a9,M',?_,l,q2,i,q4,j⟩;cases a with
 |rf u x=>
  subst I;exact apr U _
 |ptr b p=>
  obtain⟨c,n,rfl⟩:=I;have Z:c< m:=by
   have J:(match aB A b with|some (.cell _)=>ag|_=>af)=ag:=J
   grind
  simp[apt,Z,U]
 |_=>cases J
theorem HS.ant(A:HS M ch h)(l:Heap):HS M ch (h++l):=by
 have I:∀c,c< h.length->aq (h++l) c=aq h c:=λc J=>by
  simp[cF,hH,J]
 have U:=λb c e=>(A.len b c e).2
 refine⟨λb cv e=>?_,λb n cl t l e=>?_,A.inj,A.new,λb c e=>⟨(A.len b c e).1,by grind⟩,A.fQ,λb x e=>(A.xr b x e).step (.refl M) λc q=>I c (U b c q)⟩
 .obtain ⟨c,v,h1,h2,h3⟩:=A.cell b cv e;grind
 .obtain ⟨u,h1,h2⟩:=A.arr b n cl t l e;grind
theorem Zl(J:HS M ch h){tc:TC}{t:Tm}(U:bA M tc t){b c:Nat}(Z:aB ch b≠ae)(a:M.b b=ab c):∀{m:List Nat},Ps tc ch b m=ag->jH t c m=ag
 |[],_=>rfl
 |s::m,e=>by
  replace e:(match tc.get s with|.ptr d _=>bif ak b d||(aB ch d).isNone then af else Ps tc ch b m|_=>af)=ag:=e
  show(match t.get s with|.ptr d _ _=>bif ak c d then af else jH t c m|_=>af)=ag
  have f:=U.get s;split at e
  .rename_i d p g;rw[g]at f;obtain⟨A,I,i⟩:=f;rw[i];cases j:ak b d||(aB ch d).isNone with
   |true=>grind
   |false=>
    rw[j]at e;have l:c≠A:=by
     rintro rfl;have:=J.inj b d c Z (by grind) a I
     simp_all
    have:ak c A=af:=by rw[<-hG,Nat.beq_eq];omega
    show(bif ak c A then af else jH t c m)=ag;rw[this];exact Zl J U Z a e
  trivial
end
end
section
variable [Gh]
variable {df:List (Nat×List V)}
section
variable {ρ:Type} {wb:Nat->Bool} {M:Mu} {ch:CH} {h:Heap} {k:KC ρ} {r:ρ}
variable {C:CE} {ih:(ρ:Type)->Nat->Code->(Nat->Bool)->TC->CH->KX ρ->Option ρ}
theorem Yc{E:Env}{op:Op}(hp:yx op=ag){keep:Bool}{aw:Nat}{t:Tm}{v:V}{h h':Heap}(e:bY E keep aw t h op=ab (v,h')):h'=h:=by
 unfold yx at hp;rw[mP]at hp;rcases hp with hp|hp
 .have:=sQ hp e aw h;grind
 .by_cases A:∃ty x lo hi mx,op=.slice ty x lo hi mx
  .obtain ⟨ty,x,lo,hi,mx,rfl⟩:=A;have e:jq h _=ab _:=e;unfold jq at e;cases I:tq E ty h (ev t x) (lo.map (ev t)) (hi.map (ev t)) (mx.map (ev t))<;>simp_all
  have I:isSimple op=ag/\∀c,op≠.call c:=by
   cases op<;>first|cases hp;done|exact absurd ⟨_,_,_,_,_,rfl⟩ A|exact⟨rfl,λc q=>by cases q⟩
  have:=JV (λb x e=>e) I.1 I.2 e aw
  grind
theorem alZ{E:Env}{t:Nat}{x v:V}{h h':Heap}(e:qj E t h x=ab (v,h')):h'=h:=by
 unfold qj at e;grind
theorem an0{E:Env}{ih:Nat->Nat->Nat->Code->St->Option (Ex×St)}{op:Op}(hp:yx op=ag){keep:Bool}{aw:Nat}{t:Tm}{h:Heap}:eE E ih keep aw t h op=(bY E keep aw t h op).map λr=>(r.1,ae):=by
 cases op<;>first|trivial|rfl
theorem amG{E:Env}:∀{l:List Oper},news E l=0->∀o∈l,bJ E o.op=af
 |[],_,o,h=>by cases h
 |a::l,e,o,h=>by
  have e:(bif bJ E _ then 1 else 0)+news E l=0:=e;rcases eT.1 h with rfl|h
  .grind
  .exact amG (by omega) o h
def DS{ρ:Type}(df:List (Nat×List V))(wb:Nat->Bool)(M:Mu) ch(h:Heap)(t:Tm)(dst:Option Nat)(m:Option St)(k:KC ρ)(r:ρ):=
 ∃v h' cv a9 M',m=ab ⟨putDst t dst v,h',[],df⟩/\VR M' cv v/\HS M' a9 h'/\Fr wb M ch h M' a9 h'/\k cv a9=ab r
theorem agR(W:ja C)(K:Good C ih){tc:TC}{t:Tm}(U:HS M ch h)(m:bA M tc t){f:Nat}{keep:Bool}{ops:Array Oper}{o:Oper}{Y:Nat×List Nat}{Q:CH}(e:Ml C ih f keep wb Q Y o.op tc ch k=ab r)
  (z:guardOf ops t o.guard=ab ag) (O:Y.1=1->bJ C.E o.op=af) (s n i:Nat) (hw:∀b cv,aB Q b=ab (.cell cv)->∀c,M.b b=ab c->c< s):DS df wb M ch h t o.dst (cZ C.E (X C.E) keep ops s n i Y.1 Y.2 o ⟨t,h,[],df⟩) k r:=by
 have quiet:bJ C.E o.op=af->∀{x:Option (V×Option bK)},eE C.E (X C.E) keep h.length t h o.op=x->(∃v h' cv a9 M',x=ab (v,ae)/\h'=h/\VR M' cv v/\HS M' a9 h'/\Fr wb M ch h M' a9 h'/\k cv a9=ab r)->
   DS df wb M ch h t o.dst (cZ C.E (X C.E) keep ops s n i 1 [] o ⟨t,h,[],df⟩) k r:=λO {x} hx hy=>by
  obtain⟨v,h',cv,a9,M',rfl,rfl,q2,Z,q4,j⟩:=hy;refine⟨v,h',cv,a9,M',?_,q2,Z,q4,j⟩;unfold cZ;simp only[z];show(bif bJ C.E o.op then(match aq h' (s+i)with
    |none=>(eE C.E (X C.E) keep (s+i) t h' o.op).map λr=>(⟨putDst t o.dst r.1,dh h' (s+i) r.2,[],df⟩:St)
    |some _=>ae)
   else(eE C.E (X C.E) keep (aA h') t h' o.op).bind λr=>(match r.2 with
    |none=>ab ⟨putDst t o.dst r.1,h',[],df⟩
    |some _=>ae))=_
  simp_all
 unfold Ml at e;split at e
 ·-- alone
  obtain⟨c,g,I,B,u,e⟩:=LV e;obtain⟨us,A,q2,_⟩:=D6 (C:=C) m u;obtain⟨v,h2,cv,r1,r2,R,P⟩:=aeZ K U q2 e;refine⟨v,h++h2.drop (aA h),cv,ch,M,?_,R,U.ant _,⟨.refl M,aJ _,by simp,λ_ _ _=>rfl,jZ,λc y _=>by simp[cF,hH,y]⟩,P⟩
  unfold cZ;grind
 ·-- at this arL
  obtain⟨c,g,I,B,u,e⟩:=LV e;obtain⟨us,A,q2,_⟩:=D6 (C:=C) m u;obtain⟨ds,d,cv,r1,r2,R,P,r5⟩:=afl W K U q2 e;refine⟨.im d,h,cv,ch,M,?_,P,U,.refl ..,r5⟩;unfold cZ;simp only[z,I];show((target C.E t c).bind λg=>(mX h g.2).bind λds=>(fY C.E (X C.E) g.1 ds).bind λr=>bif r.flat then ab (⟨putDst t o.dst (.im r),h,[],df⟩:St)else ae)=_
  grind
 ·-- simple
  split at e
  .rename_i ty a I;obtain⟨y,e⟩:=aQ e;obtain⟨v,h',cv,a9,M',A,rfl,q2,Z,q4,j⟩:=Yk (wb:=wb) U (SL s n) hw (iW m a) e y;refine⟨v,h',cv,a9,M',?_,q2,Z,q4,j⟩;unfold cZ;simp only[z,I];show((iV C.E (h'.take (s+n)) ty (ev t a)).map λr=>r.1).map (λv=>(⟨putDst t o.dst v,h',[],df⟩:St))=_
   simp[A]
  .obtain ⟨c,g,I,B,u,e⟩:=LV e;obtain⟨us,A,q2,_⟩:=D6 (C:=C) m u;obtain⟨y,e⟩:=aQ e;obtain⟨ds,d,cv,r1,r2,R,P,r5,_,r7,r8⟩:=WG W U q2 e;obtain⟨p1,p2⟩:=Tt y q2;refine⟨.im d,h,cv,ch,M,?_,r7,U,.refl ..,r8⟩;have GK:kf C.E (X C.E) keep (s+i) t (h.take (s+n)) (.call c)=ab (.im d):=by
    unfold kf;grind
   unfold cZ;simp only[z,I];show(kf C.E (X C.E) keep (s+i) t (h.take (s+n)) (.call c)).map (λv=>(⟨putDst t o.dst v,h,[],df⟩:St))=_
   simp[GK]
 ·-- a load D ar1
  split at e
  .rename_i ty a I;split at e
   .rename_i b p F;obtain⟨y,e⟩:=aQ e;have H:=iW m a;rw[F]at H;obtain⟨v,h',cv,a9,M',A,rfl,q2,Z,q4,j⟩:=Yk (wb:=wb) (ty:=ty) U (aJ s) hw H (show Ch C.E ty (.ptr b p) ch k=ab r by rw[<-F];exact e) y
    refine⟨v,h',cv,a9,M',?_,q2,Z,q4,j⟩;simp only[VR]at H;obtain⟨c,_,G⟩:=H;simp_all[cZ,z,I,G,A]
   trivial
  trivial
 ·-- a store D arK
  split at e
  .rename_i ty a x I;split at e
   .rename_i b p F;obtain⟨y,e⟩:=aQ e;rw[aM]at y;have H:=iW m a;rw[F]at H;simp only[VR]at H;obtain⟨c,S,G⟩:=H;obtain⟨v,h',cv,a9,M',A,q2,Z,q4,j⟩:=tr U m (keep:=keep) e;refine⟨v,h',cv,a9,M',?_,q2,Z,q4,j⟩;have l:∃w,aB ch b=ab (.cell w):=by
     have:=y.2;unfold WY at this;split at this
     .rename_i w BV;exact⟨w,BV⟩
     .cases this
    obtain⟨w,l⟩:=l;obtain⟨c2,v2,k1,k2,_⟩:=U.cell b w l;rw[S]at k1;cases k1;have O:=Zl U m (by rw[l];intro q;cases q) S y.1
    have A:oz C.E h ty (ev t a) (ev t x)=ab (v,h'):=A;unfold cZ;simp only[z,I,G];rw[G]at A;show(bif jH t c _&&jY (aq h c)then(oz C.E h ty (.ptr c 0 p) (ev t x)).map λr=>(⟨putDst t o.dst r.1,r.2,[],df⟩:St)else ae)=_
    rw[O,k2,A];rfl
   trivial
  trivial
 ·-- pure
  cases hp:su o.op with
  |false=>rw[hp,ax]at e;cases e
  |true=>
   rw[hp,au]at e;obtain⟨v,h',cv,a9,M',A,q2,Z,q4,j⟩:=tr U m (keep:=keep) e;have hh:=Yc (by unfold yx;rw[hp];rfl) A
   subst hh;refine⟨v,h',cv,a9,M',?_,q2,Z,q4,j⟩;unfold cZ;simp only[z];show((bY C.E keep (s+i) t [] o.op).map λr=>(⟨putDst t o.dst r.1,h',[],df⟩:St))=_
   rw[sQ hp A (s+i) []];rfl
 ·-- quiet
  replace O:=O rfl;replace quiet:=@quiet O;cases hp:yx o.op with
  |true=>
   rw[hp,au]at e;obtain⟨v,h',cv,a9,M',A,q2,Z,q4,j⟩:=tr U m (keep:=keep) e;have hh:=Yc hp A;exact quiet (an0 hp) ⟨v,h',cv,a9,M',by rw[A];rfl,hh,q2,Z,q4,j⟩
  |false=>
   rw[hp,ax]at e;split at e
   .rename_i c I;have G:eE C.E (X C.E) keep h.length t h o.op=eE C.E (X C.E) keep h.length t h (.call c):=by rw[I]
    split at e
    .rename_i J;obtain⟨v,h',cv,a9,M',A,q2,Z,q4,j⟩:=tr U m (keep:=keep) e;have A:(match c.callee with
      |.builtin b=>fc C.E h.length b c.argTypes (dm t c.args) h
      |_=>ae)=ab (v,h'):=A
     rw[J]at A;have A:fc C.E h.length .len c.argTypes (dm t c.args) h=ab (v,h'):=A;refine quiet (G.trans ?_) ⟨v,h',cv,a9,M',rfl,?_,q2,Z,q4,j⟩
     .unfold eE;simp only[J];rw[A];rfl
     .unfold fc at A;simp only at A;split at A
      .obtain ⟨tt,_,A⟩:=ay.1 A;exact alZ A
      .cases A
    .rename_i J;obtain⟨v,h',cv,a9,M',A,q2,Z,q4,j⟩:=tr U m (keep:=keep) e;have A:(match c.callee with
      |.builtin b=>fc C.E h.length b c.argTypes (dm t c.args) h
      |_=>ae)=ab (v,h'):=A
     rw[J]at A;have A:fc C.E h.length .min c.argTypes (dm t c.args) h=ab (v,h'):=A;refine quiet (G.trans ?_) ⟨v,h',cv,a9,M',rfl,?_,q2,Z,q4,j⟩
     .unfold eE;simp only[J];rw[A];rfl
     .unfold fc at A;simp only at A;split at A
      .obtain ⟨n,_,A⟩:=bu.1 A;cases A;rfl
      .cases A
    .rename_i J;obtain⟨v,h',cv,a9,M',A,q2,Z,q4,j⟩:=tr U m (keep:=keep) e;have A:(match c.callee with
      |.builtin b=>fc C.E h.length b c.argTypes (dm t c.args) h
      |_=>ae)=ab (v,h'):=A
     rw[J]at A;have A:fc C.E h.length .max c.argTypes (dm t c.args) h=ab (v,h'):=A;refine quiet (G.trans ?_) ⟨v,h',cv,a9,M',rfl,?_,q2,Z,q4,j⟩
     .unfold eE;simp only[J];rw[A];rfl
     .unfold fc at A;simp only at A;split at A
      .obtain ⟨n,_,A⟩:=bu.1 A;cases A;rfl
      .cases A
    .cases e
    .rename_i B;replace e:=ay.1 e;obtain⟨g,u,e⟩:=e;obtain⟨us,htg,N,_⟩:=D6 (C:=C) m u;obtain⟨ds,d,cv,r1,r2,R,P,r5,T,r7,r8⟩:=WG W U N e;refine quiet (x:=some (.im d,ae)) (G.trans ?_) ⟨.im d,h,cv,ch,M,rfl,rfl,r7,U,.refl ..,r8⟩;unfold eE;cases J:c.callee with
     |builtin b=>exact absurd J (B b)
     |_=>
      simp only[J,htg,ah,r1,r2,R,ax,P,r5];rcases T with T|T
      .rw [T];split<;>rfl
      .rw [T]
   .cases e
 ·-- whole
  obtain⟨uS,v,h',cv,a9,M',A,q2,Z,q4,j⟩:=UX W K U m e;refine⟨v,h',cv,a9,M',?_,q2,Z,q4,j⟩;have h3:=PG (df:=df) z uS A;unfold cZ;simp only[z];show ee C.E (X C.E) keep ops (aA h) o ⟨t,h,[],df⟩=_;rw[bn];exact h3
 trivial
theorem Wb k:∀m h,(cU k m h).length=h.length
 |[],_=>rfl
 |i::m,h=>by
  show(cU k m _).length=_;rw[Wb k m,dR,hV]
theorem Ny k c:∀m h,aq h c=ae->aq (cU k m h) c=ae
 |[],_,e=>e
 |i::m,h,e=>by
  refine Ny k c m _ ?_;rw[cF,dR,wZ];split
  .split<;>rfl
  simp_all[cF]
theorem Wc k:∀m h,(∀j∈m,aq h (k+j)=ae)->cU k m h=h
 |[],_,_=>rfl
 |i::m,h,e=>by
  show cU k m _=h;have:bB h (k+i) ae=h:=by
   rw[dR];apply Ar;intro c;rw[wZ];split
   .have:=e i e8 ..;rw[cF]at this;grind
   .rfl
  rw[this];exact Wc k m h λj A=>e j (gB _ A)
def ND{ρ:Type}(E:Env)(keep:Bool)(M:Mu)(ch:CH)(h:Heap) t(op:Op)(c:Nat)(k:KC ρ) r:=
 ∃v A cv a9 M',(∀view,c<=view.length->aq view c=ae->eE E (X E) keep c t view op=ab (v,A))/\VR M' cv v/\HS M' a9 (dh h c A)/\M.le M'/\ch.length<=a9.length/\
  (∀b,b< ch.length->aB a9 b=aB ch b)/\(∀b d,M'.b b=ab d->M.b b=ab d∨d=c)/\k cv a9=ab r
theorem Pp{M:Mu}{n c:Nat}:∀b d,(if b=n then ab c else M.b b)=ab d->M.b b=ab d∨d=c:=λb d e=>by
 grind
theorem YU{E:Env}{keep:Bool}{t:Tm}{op:Op}(J:HS M ch h){c:Nat}(U:c<=h.length)(hf:∀b,M.b b≠ab c) u l{n:Nat}(Z:n=l.length)
  (a:∀view,eE E (X E) keep c t view op=ab (.own c 0 0 n af,aq (aD view c (.arr 0 u.wd 0 (l.map u.enc))) c)) (e:iq ch (.arr 0 af u l) (λb ch=>k (.own b 0) ch)=ab r):ND E keep M ch h t op c k r:=by
 subst Z;have e:k _ _=ab r:=e;rw[bn]at e;obtain⟨A,I⟩:=J.amC u l 0 U hf;refine⟨.own c 0 0 l.length af,ab _,.own _ 0,_,_,λview d _=>?_,?_,I,A,by simp,λb f=>by rw[cT,az (by omega)],Pp,e⟩
 .rw [a _,bG _ _ _ _ d,aK rfl]
 .exact ⟨u.wd,aK ⟨rfl,rfl⟩,rfl⟩
theorem Tq:∀ps (A:List (Nat×V)),aS M (ps.map gF) (A.map gF)->jd.qh ps=ag->∀p∈A,∃d,p.2=.im d
 |[],A,h2,_,p,hp=>by
  simp_all[aS]
 |q::ps,A,h2,e,p,hp=>by
  obtain⟨v,J,he,I,q2⟩:=h2;cases A with
  |nil=>cases he
  |cons Z A=>
   cases he;have e:(match q.2 with|.sy _ _=>jd.qh ps|_=>af)=ag:=e
   split at e
   .rename_i t x U;rw[U]at I;simp[VR]at I;rcases eT.1 hp with rfl|hp
    .simp[I]
    .exact Tq ps _ q2 e p hp
   trivial
theorem Vo{sz:Nat} h1 h2:∀ps l,(∀p∈ps,∃d,p.2=.im d)->lC h1 sz l ps=lC h2 sz l ps
 |[],_,_=>rfl
 |p::ps,l,h=>by
  obtain⟨d,A⟩:=h p e8 ..;show((p.2.data h1).bind λd=>(bC l _).bind λ_=>bif ak _ sz&&ij _ then lC h1 sz _ ps else ae)=(p.2.data h2).bind λd=>(bC l _).bind λ_=>bif ak _ sz&&ij _ then lC h2 sz _ ps else ae
  rw[A];show(bC l _).bind _=(bC l _).bind _
  rw[Vo h1 h2 ps _ λq I=>h q (gB _ I)]
theorem WL:∀ps,(∀p∈ps,∃d,p.2=.im d)->jo ps=[]/\fg (ps.map gF)=[]
 |[],_=>⟨rfl,rfl⟩
 |p::ps,h=>by
  obtain⟨d,A⟩:=h p e8 ..;obtain⟨I,J⟩:=WL ps λq U=>h q (gB _ U)
  constructor
  .show (match V.owns _ with|[]=>jo ps|Z=>Z++jo ps)=[]
   rw[A];exact I
  .show (match V.refs _ with|[]=>fg _|r=>r++fg _)=[]
   rw[A];exact J
theorem amF{tc:TC}{t:Tm}(s:HS M ch h)(B:bA M tc t){keep:Bool}{op:Op}{c:Nat}(H:c<=h.length)(hf:∀b,M.b b≠ab c)(e:Cm C keep op tc ch k=ab r):ND C.E keep M ch h t op c k r:=by
 unfold Cm at e;split at e
 .rename_i ty;unfold E9 at e;obtain⟨ti,I,e⟩:=ay.1 e;cases A:cq ti ti.zero&&not (ak ty C.E.fy.1)with
  |false=>grind
  |true=>
   rw[A,au]at e;rw[aM]at A;have e:k (.ptr (aA ch) []) (ch++[ab (.cell (ir ti.zero))])=ab r:=e;rw[bn]at e;obtain⟨Z,f⟩:=s.Y1 (sL ti.zero) H hf;refine⟨.ptr c 0 [],ab (.cell ti.zero),.ptr ch.length [],_,⟨λi=>if i=ch.length then ab c else M.b i,M.o⟩,λview v _=>?_,(show∃d,(if ch.length=ch.length then ab c else M.b ch.length)=ab d/\V.ptr c 0 []=.ptr d 0 []from⟨c,aK rfl,rfl⟩),f,Z,by simp,λb A=>by rw[cT,az (by omega)],Pp,e⟩
   show((wg C.E c view ty).map λr=>(r.1,aq r.2 c))=_
   unfold wg;have:ak ty C.E.fy.1=af:=by simpa using A.2
   rw[I,ah,A.1,au,this,ax];show ab (V.ptr c 0 [],aq (aD view c (.cell ti.zero)) c)=_;rw[bG _ _ _ _ v,aK rfl]
 .rename_i ty x;have D:∀m el,C.E.kind ty≠ab (.arr m el):=λm el q=>by grind
  have e:AX C.E ty (vC tc x) ch k=ab r:=by
   grind
  unfold AX at e;obtain⟨ti,I,e⟩:=ay.1 e;have D:∀m el,ti.k≠.arr m el:=λm el q=>D m el (by simp[Env.kind,I,congrArg,ab,q])
  have g:=iW B x;cases A:dG ti (vC tc x)with
  |false=>grind
  |true=>
   rw[A,au]at e;have O:∀(y:V) (view:Heap),mI.uw c view ti.k y=ab (.ptr c 0 [],aD view c (.cell y)):=λy view=>by
    unfold mI.uw;grind
   have e:(match ti.k with
    |.arr _ _=>(match vC tc x with|.sy u y=>k (.rf u y) ch|_=>ae)
    |_=>iq ch (.cell (vC tc x)) λb ch=>k (.ptr b []) ch)=ab r:=e
   split at e
   .grind
   have e:k (.ptr (aA ch) []) (ch++[ab (.cell (vC tc x))])=ab r:=e;rw[bn]at e;obtain⟨Z,f⟩:=s.Y1 g H hf;refine⟨.ptr c 0 [],ab (.cell (ev t x)),.ptr ch.length [],_,⟨λi=>if i=ch.length then ab c else M.b i,M.o⟩,λview v _=>?_,(show∃d,(if ch.length=ch.length then ab c else M.b ch.length)=ab d/\V.ptr c 0 []=.ptr d 0 []from⟨c,aK rfl,rfl⟩),f,Z,by simp,λb A=>by rw[cT,az (by omega)],Pp,e⟩
   show((mI C.E c view ty (ev t x)).map λr=>(r.1,aq r.2 c))=_
   unfold mI;rw[I,ah,(iQ g A).1,au,O];show ab (V.ptr c 0 [],aq (aD view c (.cell (ev t x))) c)=_;rw[bG _ _ _ _ v,aK rfl]
 .rename_i ty n ps;cases P:jd.qh (ku (vC tc) ps)with
  |false=>grind
  |true=>
   rw[P,au]at e;obtain⟨J,Q,h1,h2⟩:=My B ps;have F:=Tq _ _ h2 P;obtain⟨ho,hr⟩:=WL J F;unfold jd at e;replace e:=ay.1 e;obtain⟨ti,I,e⟩:=e;split at e
   .rename_i el R;replace e:=ay.1 e;obtain⟨te,hte,e⟩:=e;replace e:=ay.1 e;obtain⟨u,hu,e⟩:=e;replace e:=ay.1 e;obtain⟨z,S,e⟩:=e;generalize GH:ku (vC tc) ps=K at e h1 h2 P;cases A:(bp (n*te.size) 16777216&&bp n 16777216)&&(ak u.wd te.size&&(dG te (.sy u z)&&(jd.yy (ns K)&&(not keep||jd.qh K))))with
    |false=>grind
    |true=>
     rw[A,au]at e;rw[aM]at A;obtain⟨b1,N⟩:=A;simp only[aM]at N;obtain⟨N,b3,b4,b5⟩:=N;replace e:=ay.1 e;obtain⟨l,w,e⟩:=e;have G:=bR N;obtain⟨r1,r2,r3⟩:=F1 s G K J _ h1 h2 w;refine YU s H hf u l (n:=n) (by simp[r2]) (λview=>?_) e
     unfold eE;simp only[Q];unfold Cq;rw[hr];unfold kW;have p:(keep&&rR J)=af:=by
      cases keep with
      |false=>rfl
      |true=>rw[Lk K J h2 b5];rfl
     rw[I,ah];simp only[R];rw[hte,ah,b1,au,au,Ef S,ah,(iQ (show VR M (.sy u z) (.im (u.enc z))from rfl) b3).1,p,nC,<-Au,ax,Vo view h _ _ F,r1,ho,<-G];rfl
   trivial
 .rename_i ty l cc;unfold Hq at e;replace e:=ay.1 e;obtain⟨ti,I,e⟩:=e;split at e
  .rename_i el R;replace e:=ay.1 e;obtain⟨te,hte,e⟩:=e;replace e:=ay.1 e;obtain⟨u,hu,e⟩:=e;replace e:=ay.1 e;obtain⟨z,S,e⟩:=e;split at e
   .rename_i n m T W;have w:=iW B l;have U:=iW B cc;rw[T]at w;rw[W]at U;have w:=w.int;have U:=U.int;cases A:ak u.wd te.size&&dG te (.sy u z)with
    |false=>grind
    |true=>
     rw[A,au]at e;rw[aM]at A;cases hq:aj 0 n&&(aj n m&&aj (m*aC te.bytes) 70368744177664)with
     |false=>grind
     |true=>
      rw[hq,au]at e;refine YU s H hf u (bT n.toNat z) (n:=n.toNat) (by simp) (λview=>?_) e
      show((tk C.E c view ty (ev t l) (ev t cc)).map λr=>(r.1,aq r.2 c))=_
      unfold tk;rw[I,ah];simp only[R];rw[hte,ah,Ef S,ah,w,U];show((bif cq te (.im (u.enc z))&&(aj 0 n&&(aj n m&&aj (m*aC te.bytes) 70368744177664))then ab (V.own c 0 0 n.toNat af,aD view c (.arr 0 te.size 0 (kU n.toNat (u.enc z))))else ae).map λr=>(r.1,aq r.2 c))=_
      rw[hq,(iQ (show VR M (.sy u z) (.im (u.enc z))from rfl) A.2).1,<-bR A.1,nC,<-Au];rfl
   trivial
  trivial
 .rename_i sT dT x;split at e
  .rename_i j n v;have g:=iW B x;rw[v]at g;have g:=g.int;unfold xF at e;split at e
   .rename_i a k2 _ m X Y hm;cases hm;have e:k (.sy (.int k2) (wr k2 n)) ch=ab r:=e;refine⟨.im (.int k2 (wr k2 n)),ae,_,ch,M,λview v hn=>?_,by rfl,s,.refl M,aJ _,λ_ _=>rfl,λb d e=>.inl e,e⟩
    show((oV C.E view c sT dT (ev t x)).map λr=>(r.1,aq r.2 c))=_
    simp[oV,g,X,Y,hn]
   all_goals grind
  trivial
 trivial
theorem agp{tc:TC}{t:Tm}(i:HS M ch h)(U:bA M tc t){keep:Bool}{op:Op}{c:Nat}(Z:G0 op=ag)(e:Cm C keep op tc ch k=ab r):
  ∃v cv,(∀view,aq view c=ae->eE C.E (X C.E) keep c t view op=ab (v,ae))/\VR M cv v/\k cv ch=ab r:=by
 unfold Cm at e;split at e
 .trivial
 .trivial
 .trivial
 .trivial
 .rename_i b d x;split at e
  .rename_i j n f;have A:=iW U x;rw[f]at A;have A:=A.int;unfold xF at e;split at e
   .rename_i a k2 _ m I J hm;cases hm;refine⟨.im (.int k2 _),_,λview g=>?_,by rfl,e⟩
    show(oV _ _ c b d _).map _=_
    simp[oV,A,I,J,g]
   all_goals grind
  trivial
 trivial
theorem VQ{i j:Nat}{l:List Nat}(h:aY (i::l) j=ag):j=i∨aY l j=ag:=by
 have h:(bif ak i j then ag else aY l j)=ag:=h;cases e:ak i j<;>first|simp_all|grind
theorem amt{E:Env}{i:Nat}{A:Nat×List Nat}{op:Op}{es:List Nat}(h:(bJ E op&&ak A.1 1)=af):qP i A op es=es:=by
 unfold qP;cases I:G0 op with
 |false=>rfl
 |true=>
  have:bJ E op=ag:=by
   cases op<;>first|rfl|cases I
  grind
theorem anb{E:Env}{ih:Nat->Nat->Nat->Code->St->Option (Ex×St)}{keep:Bool}{ops:Array Oper}{k n i c:Nat}{m:List Nat}{o:Oper}{st A:St}(e:cZ E ih keep ops k n i c m o st=ab A):∃v,A.t=putDst st.t o.dst v:=by
 unfold cZ at e;split at e
 .cases e
 .grind
 .split at e
  .obtain ⟨_,_,rfl⟩:=bu.1 e;exact⟨_,rfl⟩
  .cases I:bJ E _ with
   |true=>
    rw[I]at e;split at e
    .obtain ⟨_,_,rfl⟩:=bu.1 e;exact⟨_,rfl⟩
    trivial
   |false=>
    rw[I]at e;obtain⟨_,_,e⟩:=ay.1 e;grind
  .obtain ⟨_,_,rfl⟩:=bu.1 e;exact⟨_,rfl⟩
  .exact ZD e
  .split at e
   .obtain ⟨_,_,e⟩:=ay.1 e;obtain⟨_,_,e⟩:=ay.1 e;grind
   trivial
  .split at e
   .split at e
    .obtain ⟨_,e⟩:=aQ e;obtain⟨_,_,rfl⟩:=bu.1 e;exact⟨_,rfl⟩
    trivial
   trivial
  .split at e
   .split at e
    .obtain ⟨_,e⟩:=aQ e;obtain⟨_,_,rfl⟩:=bu.1 e;exact⟨_,rfl⟩
    trivial
   trivial
  .split at e
   .split at e
    .obtain ⟨_,_,rfl⟩:=bu.1 e;exact⟨_,rfl⟩
    trivial
   trivial
  .split at e
   .obtain ⟨_,_,rfl⟩:=bu.1 e;exact⟨_,rfl⟩
   trivial
  .split at e
   .obtain ⟨_,_,e⟩:=ay.1 e;obtain⟨_,_,e⟩:=ay.1 e;obtain⟨_,_,e⟩:=ay.1 e;grind
   trivial
theorem abd{E:Env}{ih:Nat->Nat->Nat->Code->St->Option (Ex×St)}{keep:Bool}{ops:Array Oper}{k n:Nat}{a:TC}:∀{l:List Oper} {ds:List (Nat×List Nat)} {i:Nat} {st A:St},gO E ih keep ops k n l ds i st=ab A->(∀d,aY (dstsOf l) d=ag->a.get d=.undef)->bA M a st.t->bA M a A.t
 |[],ds,i,st,A,e,_,h=>by cases e;exact h
 |o::l,[],i,st,A,e,_,h=>by cases e
 |o::l,c::ds,i,st,A,e,J,h=>by
  replace e:(match cZ E ih _ _ k n i _ _ o st with|none=>ae|some _=>gO E ih _ _ k n l ds _ _)=ab _:=e
  split at e
  .cases e
  .rename_i Z h1;obtain⟨v,b⟩:=anb h1;have U:dstsOf (o::l)=match o.dst with|some d=>d::dstsOf l|none=>dstsOf l:=rfl
   refine abd e (λd q=>J d ?_) ?_
   .rw [U];split
    .show (bif ak _ d then ag else aY _ d)=ag;grind
    omega
   .rw [b];cases I:o.dst<;>first|rename_i d;refine h.JS (J d ?_);rw[U,I];show(bif ak d d then ag else _)=ag;simp|exact h
theorem aba{E:Env}{ih:Nat->Nat->Nat->Code->St->Option (Ex×St)}{keep:Bool}{ops:Array Oper}{k n:Nat}{r:List Oper}{A:St}:∀{l:List Oper} {ds:List (Nat×List Nat)} {i:Nat} {st:St},yP E l=ag->gO E ih keep ops k n l ds i st=ab A->gO E ih keep ops k n (l++r) ds i st=gO E ih keep ops k n r (ds.drop l.length) i A
 |[],ds,i,st,_,e=>by cases e;rfl
 |o::l,[],i,st,_,e=>by cases e
 |o::l,U::ds,i,st,I,e=>by
  replace I:(bif bJ E _ then af else yP E l)=ag:=I;cases J:bJ E o.op with
  |true=>grind
  |false=>
   rw[J,ax]at I;replace e:(match cZ E ih _ _ k n i _ _ o st with|none=>ae|some A=>gO E ih _ _ k n l ds _ _)=ab _:=e
   show(match cZ E ih _ _ k n i _ _ o st with|none=>ae|some A=>gO E ih _ _ k n (l++r) ds _ _)=_
   rw[J,ax]at e|-;split at e
   .cases e
   simp[aba,I,e]
theorem ahV{E:Env}{ops:Array Oper}{o:Oper}{l g r:List Oper}{ds A:List (Nat×List Nat)}{tc:TC}{d:Nat}{b:Bool}{p:Oper}{x y:Operand}(e:MX E ops o l ds tc=ab (d,b,g,(p,x,y),r,A)):o::l=g++p::r/\p.op=.pick (.tmp d) x y/\tc.get d=.sy .bool b/\yP E g=ag/\∃m,ds.drop g.length=(0,m)::A:=by
 obtain⟨q,I,e⟩:=ay.1 e;split at e
 .obtain ⟨h1,h2,h3⟩:=VK I;grind
 trivial
theorem Zd{E:Env}:∀{l:List Oper},yP E l=ag->news E l=0
 |[],_=>rfl
 |o::l,A=>by
  replace A:(bif bJ E _ then af else yP E l)=ag:=A;show(bif bJ E _ then 1 else 0)+news E l=0;cases I:bJ E o.op<;>first|grind|simp_all[I,ax,Zd,A]
theorem Y7{E:Env}:∀a b,news E (a++b)=news E a+news E b
 |[],b=>by show news E b=0+news E b;omega
 |o::a,b=>by
  show(bif bJ E _ then 1 else 0)+news E (a++b)=(bif bJ E _ then 1 else 0)+news E a+news E b;rw[Y7 a b];omega
theorem tj(hC:ja C)(G:Good C ih){f:Nat}{keep:Bool}{ops:Array Oper}{cH n0:Nat}{M0:Mu}{a:CH}{h0:Heap}(H:h0.length<=cH)(D:HS M0 a h0):∀(m:Nat) {ρ:Type} {r:ρ} {wb:Nat->Bool} (l:List Oper) {ds:List (Nat×List Nat)} {i:Nat} {es:List Nat} {tc:TC} {t:Tm} {M:Mu} {ch:CH} {h:Heap} {kk:TC->CH->Option ρ},(∀o∈l,o∈ops.toList)->i+news C.E l<=n0->cH+n0<=h.length->
  (∀j,(i<=j∨aY es j=ag)->j< n0->aq h (cH+j)=ae/\∀b,M.b b≠ab (cH+j))->(∀j,aY es j=ag->j< i)->∀{Mb:Mu} {xA:CH} {hb:Heap},(hb.length<=cH∨news C.E l=0)->M0.le M->Fr wb Mb xA hb M ch h->HS M ch h->bA M tc t->pH C ih f keep a ops n0 m ρ l ds i es wb tc ch kk=ab r->
  ∃zU a9 M' t' h',gO C.E (X C.E) keep ops cH n0 l ds i ⟨t,h,[],df⟩=ab ⟨t',h',[],df⟩/\HS M' a9 h'/\bA M' zU t'/\Fr wb Mb xA hb M' a9 h'/\(∀i,aY (dstsOf ops.toList) i=af->zU.get i=tc.get i)/\kk zU a9=ab r
 |0,_,_,_,_,_,_,_,_,_,_,_,_,_,_,_,_,_,_,_,_,_,_,_,_,_,_,e=>by cases e
 |m+1,_,_,_,[],ds,i,es,tc,t,M,ch,h,kk,_,_,_,_,_,Mb,xA,hb,_,hM,U,hs,ht,e=>⟨tc,ch,M,t,h,rfl,hs,ht,U,λ_ _=>rfl,e⟩
 |m+1,ρ,r,wb,o::l,ds,i,es,tc,t,M,ch,h,kk,hl,uU,n,I,K,Mb,xA,hb,yc,hM,U,hs,ht,e=>by
  replace e:(match MX C.E ops o l ds tc with
   |some (d,t,g,(p,x,y),l',Mn)=>xD ops (λtc k=>pH C ih f keep a ops n0 m Bool g ds i es (λb=>bp (aA ch) b) tc ch k) d x y p g t tc λtc=>pH C ih f keep a ops n0 m ρ l' Mn i es wb tc ch kk
   |none=>match(generalizing:=false) ds with
    |[]=>ae
    |A::ds=>sg ops tc o.guard (λtc=>J2 C ih f keep wb a n0 i es A o.op tc ch λv ch=>pH C ih f keep a ops n0 m ρ l ds (bif bJ C.E o.op then i+1 else i) (qP i A o.op es) wb (kP tc o.dst v) ch kk) (λtc=>pH C ih f keep a ops n0 m ρ l ds (bif bJ C.E o.op then i+1 else i) es wb (kP tc o.dst (.aG [])) ch kk))=ab r:=e
  split at e
  .rename_i d b g p x y l2 UY Nw;obtain⟨heq,ym,yb,yj,mm,uL⟩:=ahV Nw;have uN:∀q∈g,q∈ops.toList:=λq hq=>hl q (by grind)
   have NQ:p∈ops.toList:=hl p (by grind)
   have lH:∀q∈l2,q∈ops.toList:=λq hq=>hl q (by grind)
   have yi:=Zd yj;have hpn:bJ C.E p.op=af:=by rw[ym];rfl
   have od:news C.E (o::l)=news C.E l2:=by
    rw[heq,Y7,yi];show 0+((bif bJ C.E p.op then 1 else 0)+news C.E l2)=_;grind
   unfold xD at e;obtain⟨c,hc,e⟩:=ay.1 e;have hv:=ht.get d;rw[yb]at hv;have htd:=hv.bool;have side:∃t1 h1,gO C.E (X C.E) keep ops cH n0 g ds i ⟨t,h,[],df⟩=ab ⟨t1,h1,[],df⟩/\HS M ch h1/\Fr wb M ch h M ch h1/\∀h2,kX h2 (ev t1 (.tmp d)) (ev t1 x) (ev t1 y)=ab (.im (.bool c),h2):=by
    have one:∀(v:Bool) (z:Operand),b=v->pH C ih f keep a ops n0 m Bool g ds i es (λb=>bp (aA ch) b) (tc.set d (.sy .bool v)) ch (λZ _=>yX v (Z.get d) (vC Z z))=ab c->
      ∃t1 h1,gO C.E (X C.E) keep ops cH n0 g ds i ⟨t,h,[],df⟩=ab ⟨t1,h1,[],df⟩/\HS M ch h1/\Fr wb M ch h M ch h1/\ev t1 (.tmp d)=.im (.bool v)/\ev t1 z=.im (.bool c):=λv z Ni hc=>by
     subst Ni;obtain⟨T,L0,M1,t1,h1,N,O,B,P,_,r6⟩:=tj hC G H D m g uN (by omega) n I K (Mb:=M) (xA:=ch) (hb:=h) (.inr yi) hM (.refl ..) hs (ht.wk (x:=.sy .bool b) (by omega)) hc
     obtain⟨q1,q2⟩:=Z0 r6;obtain⟨f1,f2⟩:=hs.forget (wb:=wb) O P;have k1:=B.get d;rw[q1]at k1;have k2:=iW B z;rw[q2]at k2;exact⟨t1,h1,N,f1,f2,k1.bool,k2.bool⟩
    cases b with
    |true=>
     rw[au]at hc;obtain⟨t1,h1,N,O,B,P,Y⟩:=one ag x rfl hc;exact⟨t1,h1,N,O,B,λh2=>by simp[kX,P,au,Y]⟩
    |false=>
     rw[ax]at hc;obtain⟨t1,h1,N,O,B,P,Y⟩:=one af y rfl hc;exact⟨t1,h1,N,O,B,λh2=>by simp[kX,P,ax,Y]⟩
   obtain⟨t1,h1,N,O,B,P⟩:=side;have F:bA M (mO (dstsOf g) tc) t1:=abd N (λi q=>by rw[wz,aK (Yv q)]) (RT _ ht)
   have BL:∀i,aY (dstsOf ops.toList) i=af->(mO (dstsOf g) tc).get i=tc.get i:=λi hi=>by
    rw[wz,az (U0 uN hi)]
   have Wx:=Ir NQ;have J:∀v,cZ C.E (X C.E) keep ops cH n0 i 0 mm p ⟨t1,h1,[],df⟩=ab ⟨putDst t1 p.dst v,h1,[],df⟩->gO C.E (X C.E) keep ops cH n0 (o::l) ds i ⟨t,h,[],df⟩=gO C.E (X C.E) keep ops cH n0 l2 UY i ⟨putDst t1 p.dst v,h1,[],df⟩:=λv q=>by
    rw[heq,aba yj N,uL];show(match cZ C.E (X C.E) keep ops cH n0 i 0 mm p ⟨t1,h1,[],df⟩with
     |none=>ae
     |some pL=>gO C.E (X C.E) keep ops cH n0 l2 UY (bif bJ C.E p.op then i+1 else i) pL)=_
    simp[q,hpn]
   have WA:∀j,(i<=j∨aY es j=ag)->j< n0->aq h1 (cH+j)=ae/\∀b,M.b b≠ab (cH+j):=λj w s=>by
    obtain⟨a1,a2⟩:=I j w s;exact⟨(B.out _ (by omega) a2).trans a1,a2⟩
   have VS:hb.length<=cH∨news C.E l2=0:=yc.imp id λq=>by omega
   obtain⟨Z,BS,uQ,⟨hg,e⟩|⟨hg,e⟩⟩:=Gq F e
   .obtain ⟨zV,A2,M3,t3,h3,s1,s2,s3,s4,s5,s6⟩:=tj hC G H D m l2 lH (by omega) (bU n B.lh) WA K VS hM (U.trans B) O (pv BS (v:=.sy .bool c) (u:=.im (.bool c)) rfl p.dst) e
    refine⟨zV,A2,M3,t3,h3,?_,s2,s3,s4,λi hi=>(s5 i hi).trans ((Wx Z _ i hi).trans ((uQ i hi).trans (BL i hi))),s6⟩
    rw[J (.im (.bool c)) (by
     unfold cZ;simp only[hg,ym];show((kX [] (ev t1 (.tmp d)) (ev t1 x) (ev t1 y)).map λr=>(⟨putDst t1 p.dst r.1,h1,[],df⟩:St))=_
     simp[P])]
    omega
   .obtain ⟨zV,A2,M3,t3,h3,s1,s2,s3,s4,s5,s6⟩:=tj hC G H D m l2 lH (by omega) (bU n B.lh) WA K VS hM (U.trans B) O (pv BS (v:=.aG []) (u:=.im (.aG [])) (by simp only[VR];exact⟨[],rfl,rfl⟩) p.dst) e
    refine⟨zV,A2,M3,t3,h3,?_,s2,s3,s4,λi hi=>(s5 i hi).trans ((Wx Z _ i hi).trans ((uQ i hi).trans (BL i hi))),s6⟩
    rw[J (.im (.aG [])) (by
     unfold cZ;simp only[hg])]
    exact s1
  cases ds with
  |nil=>cases e
  |cons A ds=>
  replace e:sg ops tc o.guard (λtc=>J2 C ih f keep wb a n0 i es A o.op tc ch λv ch=>pH C ih f keep a ops n0 m ρ l ds (bif bJ C.E o.op then i+1 else i) (qP i A o.op es) wb (kP tc o.dst v) ch kk) (λtc=>pH C ih f keep a ops n0 m ρ l ds (bif bJ C.E o.op then i+1 else i) es wb (kP tc o.dst (.aG [])) ch kk)=ab r:=e
  have aD:=Ir (hl o (e8 ..));have GD:∀o∈l,o∈ops.toList:=λo ho=>hl o (gB _ ho)
  generalize qD:(bif bJ C.E o.op then i+1 else i)=i' at*;have uU:i+((bif bJ C.E o.op then 1 else 0)+news C.E l)<=n0:=uU;have S:hb.length<=cH∨news C.E l=0:=yc.imp id λq=>by
   rw[show news C.E (o::l)=(bif bJ C.E o.op then 1 else 0)+news C.E l from rfl]at q;omega
  have Q:i<=i'/\i'+news C.E l<=n0:=by
   rw[<-qD];cases hq:bJ C.E o.op with
   |true=>rw[hq,au]at uU;rw[au];omega
   |false=>rw[hq,ax]at uU;rw[ax];omega
  have J:gO C.E (X C.E) keep ops cH n0 (o::l) (A::ds) i ⟨t,h,[],df⟩=(match cZ C.E (X C.E) keep ops cH n0 i A.1 A.2 o ⟨t,h,[],df⟩with
    |none=>ae
    |some pL=>gO C.E (X C.E) keep ops cH n0 l ds i' pL):=by
   rw[<-qD];rfl
  obtain⟨T,F,uP,⟨hg,e⟩|⟨hg,e⟩⟩:=Gq ht e
  .unfold J2 at e;cases hw:bJ C.E o.op&&ak A.1 1 with
   |true=>
    rw[hw,au]at e;rw[aM]at hw;have hi1:i'=i+1:=by rw[<-qD,hw.1];rfl
    obtain⟨sn,GJ⟩:=I i (.inl (aJ _)) (by omega)
    cases Nl:G0 o.op with
    |true=>
     have hm:qP i A o.op es=i::es:=by
      unfold qP;rw[Nl,hw.2];rfl
     rw[hm]at e;obtain⟨v,cv,q1,q2,q3⟩:=agp hs F (c:=cH+i) Nl e;have q3:pH C ih f keep a ops n0 m ρ l ds i' (i::es) wb (kP T o.dst cv) ch kk=ab r:=q3;obtain⟨Z,R,M2,t2,h2,N,O,B,P,Y,r6⟩:=tj hC G H D m l GD Q.2 n (λj w s=>by
      rcases w with w|w
      .exact I j (.inl (by omega)) s
      .rcases VQ w with rfl|w
       .exact ⟨sn,GJ⟩
       .exact I j (.inr w) s) (λj w=>by
      rcases VQ w with rfl|w
      .omega
      .have:=K j w;omega) S hM U hs (pv F q2 o.dst) q3
     refine⟨Z,R,M2,t2,h2,?_,O,B,P,λi hi=>(Y i hi).trans ((aD T cv i hi).trans (uP i hi)),r6⟩
     rw[J];have:cZ C.E (X C.E) keep ops cH n0 i A.1 A.2 o ⟨t,h,[],df⟩=ab ⟨putDst t o.dst v,h,[],df⟩:=by
      unfold cZ;simp only[hg];rw[bR hw.2];show(bif bJ C.E o.op then(match aq h (cH+i)with
       |none=>(eE C.E (X C.E) keep (cH+i) t (cU cH A.2 h) o.op).map λ(r:V×Option bK)=>(⟨putDst t o.dst r.1,dh h (cH+i) r.2,[],df⟩:St)
       |some _=>ae)else(eE C.E (X C.E) keep (aA h) t (cU cH A.2 h) o.op).bind λ(r:V×Option bK)=>(match r.2 with
        |none=>ab ⟨putDst t o.dst r.1,h,[],df⟩
        |some _=>ae))=_
      rw[hw.1,au,sn];show((eE C.E (X C.E) keep (cH+i) t (cU cH A.2 h) o.op).map λ(r:V×Option bK)=>(⟨putDst t o.dst r.1,dh h (cH+i) r.2,[],df⟩:St))=_
      rw[q1 _ (Ny _ _ _ _ sn)];rfl
     rw[this];exact N
    |false=>
     have hm:qP i A o.op es=es:=by
      unfold qP;rw[Nl];rfl
     rw[hm]at e;obtain⟨v,ob,cv,a9,M',q1,q2,q3,q4,q5,q6,q7,q8⟩:=amF hs F (c:=cH+i) (by omega) GJ e
     have yp:h.length<=(dh h (cH+i) ob).length:=by
      cases ob with
      |none=>exact aJ _
      |some b=>show _<=(Go.As.aD h (cH+i) b).length;rw[bL];split<;>omega
     have Wv:∀d,d≠cH+i->aq (dh h (cH+i) ob) d=aq h d:=λd hd=>by
      cases ob with
      |none=>rfl
      |some b=>show aq (Go.As.aD h (cH+i) b) d=_;rw[bG _ _ _ _ (by omega),az hd]
     have hbl:hb.length<=cH:=yc.elim id λq=>by
      rw[show news C.E (o::l)=(bif bJ C.E o.op then 1 else 0)+news C.E l from rfl,hw.1,au]at q;omega
     have Np:Fr wb Mb xA hb M' a9 (dh h (cH+i) ob):=⟨U.le.trans q4,bU U.lc q5,bU U.lh yp,λb hb hw=>(q6 b (eU hb U.lc)).trans (U.keep b hb hw),
      λb d e=>(q7 b d e).elim (λe=>U.nb b d e) λq=>.inr (by omega),λd hd hn=>(Wv d (by omega)).trans (U.out d hd hn)⟩
     obtain⟨Z,R,M2,t2,h2,N,O,B,P,Y,r6⟩:=tj hC G H D m l GD Q.2 (bU n yp) (λj w s=>by
      have We:i<=j∨aY es j=ag:=w.elim (λq=>.inl (by omega)) .inr
      have iB:j≠i:=w.elim (λq=>by omega) λq=>Nat.ne_of_lt (K j q)
      exact⟨by rw[Wv _ (by omega)];exact(I j We s).1,λb q=>(q7 b _ q).elim ((I j We s).2 b) (by omega)⟩) (λj q=>eU (K j q) Q.1) S (hM.trans q4) Np q3 (pv (F.mono q4) q2 o.dst) q8
     refine⟨Z,R,M2,t2,h2,?_,O,B,P,λi hi=>(Y i hi).trans ((aD T cv i hi).trans (uP i hi)),r6⟩
     rw[J];have:cZ C.E (X C.E) keep ops cH n0 i A.1 A.2 o ⟨t,h,[],df⟩=ab ⟨putDst t o.dst v,dh h (cH+i) ob,[],df⟩:=by
      unfold cZ;simp only[hg];rw[bR hw.2];show(bif bJ C.E o.op then(match aq h (cH+i)with
       |none=>(eE C.E (X C.E) keep (cH+i) t (cU cH A.2 h) o.op).map λ(r:V×Option bK)=>(⟨putDst t o.dst r.1,dh h (cH+i) r.2,[],df⟩:St)
       |some _=>ae)else(eE C.E (X C.E) keep (aA h) t (cU cH A.2 h) o.op).bind λ(r:V×Option bK)=>(match r.2 with
        |none=>ab ⟨putDst t o.dst r.1,h,[],df⟩
        |some _=>ae))=_
      rw[hw.1,au,sn];show((eE C.E (X C.E) keep (cH+i) t (cU cH A.2 h) o.op).map λ(r:V×Option bK)=>(⟨putDst t o.dst r.1,dh h (cH+i) r.2,[],df⟩:St))=_
      rw[q1 _ (by rw[Wb];omega) (Ny _ _ _ _ sn)];rfl
     rw[this];exact N
   |false=>
    rw[hw,ax,amt hw]at e;have Wm:(yD n0 i es A).1=1->bJ C.E o.op=af:=λq=>by
     have BG:A.1=1:=by
      unfold yD at q;cases hb:(ak A.1 1||ak A.1 5)&&ef (λj=>(bp i j||aY es j)&&cA j n0) A.2 with
      |true=>rw[hb,au]at q;exact q
      |false=>rw[hb,ax]at q;exact q
     cases hq:bJ C.E o.op with
     |false=>rfl
     |true=>rw[hq,BG]at hw;cases hw
    obtain⟨v,h',cv,a9,M',q1,q2,q3,q4,q5⟩:=agR hC G hs F e hg Wm cH n0 i (λb cv q c p=>by
     obtain⟨c0,_,k1,_⟩:=D.cell b cv q;rw[hM.b _ _ k1]at p;cases p;exact eU (D.len _ _ k1).2 H)
    have Np:=U.trans q4;obtain⟨Z,R,M2,t2,h2,N,O,B,P,Y,r6⟩:=tj hC G H D m l GD Q.2 (bU n q4.lh) (λj w s=>by
     obtain⟨a1,a2⟩:=I j (w.elim (λq=>.inl (by omega)) .inr) s
     refine⟨(q4.out _ (by omega) a2).trans a1,λb q=>?_⟩
     rcases q4.nb b _ q with⟨b0,q⟩|q
     .exact a2 b0 q
     .omega) (λj q=>eU (K j q) Q.1) S (hM.trans q4.le) Np q3 (pv (F.mono q4.le) q2 o.dst) q5
    refine⟨Z,R,M2,t2,h2,?_,O,B,P,λi hi=>(Y i hi).trans ((aD T cv i hi).trans (uP i hi)),r6⟩
    rw[J];have:cZ C.E (X C.E) keep ops cH n0 i A.1 A.2 o ⟨t,h,[],df⟩=cZ C.E (X C.E) keep ops cH n0 i (yD n0 i es A).1 (yD n0 i es A).2 o ⟨t,h,[],df⟩:=by
     unfold yD;cases hb:(ak A.1 1||ak A.1 5)&&ef (λj=>(bp i j||aY es j)&&cA j n0) A.2 with
     |false=>rfl
     |true=>
      rw[aM]at hb;rw[au];have hh:cU cH A.2 h=h:=Wc _ _ _ λj w=>by
       have W:=jz hb.2 j w;rw[aM,mP]at W;have W:(i<=j∨aY es j=ag)/\j< n0:=⟨W.1.elim (λq=>.inl (gX q)) .inr,gX W.2⟩
       exact(I j W.1 W.2).1
      rw[mP]at hb;unfold cZ;simp only[hg];rcases hb.1 with q|q<;>rw[bR q]<;>simp only[hh]<;>rfl
    rw[this,q1];exact N
  .obtain ⟨Z,R,M2,t2,h2,N,O,B,P,Y,r6⟩:=tj hC G H D m l GD Q.2 n (λj w s=>I j (w.elim (λq=>.inl (by omega)) .inr) s) (λj q=>eU (K j q) Q.1) S hM U hs (pv F (v:=.aG []) (u:=.im (.aG [])) (by simp only[VR];exact⟨[],rfl,rfl⟩) o.dst) e
   refine⟨Z,R,M2,t2,h2,?_,O,B,P,λi hi=>(Y i hi).trans ((aD T (.aG []) i hi).trans (uP i hi)),r6⟩
   rw[J];have:cZ C.E (X C.E) keep ops cH n0 i A.1 A.2 o ⟨t,h,[],df⟩=ab ⟨putDst t o.dst (.im (.aG [])),h,[],df⟩:=by
    unfold cZ;rw[hg]
   rw[this];exact N
theorem aoX(m:ja C)(I:Good C ih){f id:Nat}{ops:Array Oper}{tc:TC}{t:Tm}{g:TC->CH->Option ρ}(J:HS M ch h)(n:bA M tc t)(e:JC C ih f id wb ops tc ch g=ab r):
  ∃A a9 M' l h',rj C.E (X C.E) f id ops ⟨t,h,[],df⟩=ab ⟨l,h',[],df⟩/\HS M' a9 h'/\bA M' A l/\Fr wb M ch h M' a9 h'/\(∀i,aY (dstsOf ops.toList) i=af->A.get i=tc.get i)/\g A a9=ab r:=by
 replace e:=ay.1 e;obtain⟨ds,U,e⟩:=e;have Z:Fr wb M ch h M ch (h++bT (news C.E ops.toList) ae):=⟨.refl M,aJ _,by simp,λ_ _ _=>rfl,jZ,λc o _=>by
  simp[cF,hH,o]⟩
 obtain⟨a,d,p,t2,h2,u,s⟩:=tj m I (cH:=h.length) (n0:=news _ _) (aJ _) J _ (i:=0) _ (λ_ h=>h) (by omega) (by simp) (λj _ v=>⟨by
  rw[cF,jx (by omega),List.getElem?_replicate,aK (by omega)];rfl,λb q=>absurd (J.len b _ q).2 (by omega)⟩) (λj q=>by cases q) (.inl (aJ _)) (.refl M) Z (J.pad _) n e
 refine⟨a,d,p,t2,h2,?_,s⟩;unfold rj;rw[U];show gO _ _ _ _ _ _ _ ds 0 _=_;rw[bn,nC];omega
end
end
section
variable [Gh]
variable {C:CE} {ih:(ρ:Type)->Nat->Code->(Nat->Bool)->TC->CH->KX ρ->Option ρ}
theorem BD:∀a b i,aY (a++b) i=(aY a i||aY b i)
 |[],b,i=>by rfl
 |x::a,b,i=>by
  show(bif ak x i then ag else aY (a++b) i)=((bif ak x i then ag else aY a i)||aY b i)
  rw[BD a b i];grind
def S6 C(ih:(ρ:Type)->Nat->Code->(Nat->Bool)->TC->CH->KX ρ->Option ρ):=
 ∀ρ f b wb tc ch k (r:ρ),OW C ih f b wb tc ch k=ab r->∀M t h (fb cur:Nat) df,HS M ch h->bA M tc t->
  qc wb M tc ch h (writes b) df (gk b&&ak fb 0) (X C.E f fb cur (.loop b) ⟨t,h,[],df⟩) k r
def S5(C:CE)(ih:(ρ:Type)->Nat->Code->(Nat->Bool)->TC->CH->KX ρ->Option ρ):=
 ∀ρ H f a b wb tc ch k (r:ρ),G6 ih H f a b wb tc ch k=ab r->∀M t h (fb cur:Nat) df,HS M ch h->bA M tc t->
  qc wb M tc ch h (writes (.seq a b)) df (gk (.seq a b)&&ak fb 0) (X C.E f fb cur (.seq a b) ⟨t,h,[],df⟩) k r
theorem ta{a b c:Bool}(h:((a||b)&&c)=af):(a&&c)=af/\(b&&c)=af:=by grind
section
variable {ρ:Type} {wb:Nat->Bool} {M:Mu} {ch:CH} {h:Heap} {r:ρ} {E:Env}
theorem Uz o:∀{a b:List V} {x y:List D},V.cP o a=ab x->V.cP o b=ab y->V.cP o (a++b)=ab (x++y)
 |[],_,x,y,h1,h2=>by simp_all[V.cP]
 |v::a,b,x,y,h1,h2=>by
  simp[V.cP]at h1;cases A:V.cm o v<;>cases q2:V.cP o a<;>rw[A,q2]at h1<;>cases h1;simp[V.cP,A,Uz o q2 h2]
theorem ZN:∀a b,V.de (a++b)=V.de a++V.de b
 |[],_=>rfl
 |v::a,b=>by show V.de (v::(a++b))=_;simp[V.de,ZN a b]
theorem PO:∀(l:List D),V.de (l.map V.im)=[]
 |[]=>rfl
 |d::l=>by simp[V.de,V.eB,PO l]
theorem Tl(J:HS M ch h){t:Ty}:∀{vs:List CV} {A:List V} {xs:List t.den},Li ch t vs=ab xs->aS M vs A->
  V.cP (gM h) A=ab (xs.map t.enc)/\V.de A=(CV.fS vs).filterMap M.b/\(∀b∈CV.fS vs,∃n c u l,aB ch b=ab (.arr n c u l))/\xs.length=vs.length
 |[],A,xs,e,U=>by
  subst U;cases e;exact⟨rfl,rfl,λb I=>(by cases I),rfl⟩
 |v::vs,A,xs,e,U=>by
  obtain⟨u,A,rfl,h1,h2⟩:=U;have e:(match CV.dt ch t v,Li ch t vs with|some x,ab xs=>ab _|_,_=>ae)=ab xs:=e
  split at e
  .rename_i x i Z q2;cases e;obtain⟨a,d,f,g⟩:=Tl J q2 h2;refine⟨?_,?_,λb I=>?_,by simp[g]⟩
   .simp [V.cP,(Mp J t).1 v x u Z h1,a]
   .simp [V.de,CV.fS,(Ic J t).1 v x u Z h1,d]
   .simp [CV.fS]at I;exact I.elim ((Ib (ch:=ch) t).1 v x Z b) (f b)
  trivial
theorem Fu:∀A {ch:CH} {b:Nat} {x:CB},aB ch b=ab x->(∀n c t l,x≠.arr n c t l)->aB (m7 ch A) b=ab x
 |[],_,_,_,I,_=>I
 |a::A,ch,b,x,I,J=>by
  rw[Uj];split
  .rename_i v c t l U;refine Fu A ?_ J;rw[fN _ _ _ _ (eY U),az (by grind)]
   omega
  .exact Fu A I J
theorem ahE(J:HS M ch h){tc:TC}{t:Tm}(T:bA M tc t){f id:Nat}{df:List (Nat×List V)}{Q:CH->Option ρ}(e:Gj E f id wb tc ch Q=ab r):
  ∃a9 h',fL E af f id ⟨t,h,[],df⟩=⟨t,h',[],df⟩/\HS M a9 h'/\Fr wb M ch h M a9 h'/\Q a9=ab r:=by
 unfold Gj at e;unfold fL;split at e
 .rename_i o;rw[o];exact⟨ch,h,rfl,J,.refl ..,e⟩
 .rename_i s o;rw[o];have I:=T.get s;show∃a9 h',(⟨t,my af h (t.get s),[],df⟩:St)=⟨t,h',[],df⟩/\_;split at e
  .rename_i p;rw[p]at I;rw[I];exact⟨ch,h,rfl,J,.refl ..,e⟩
  .rename_i b n p;rw[p]at I;split at e
   .rename_i A l vs U;obtain⟨q,e⟩:=aQ e;simp only[aM]at q;obtain⟨c1,W,F⟩:=q;obtain⟨xs,G,e⟩:=ay.1 e;obtain⟨c,g,R,k1,k2,B,X⟩:=J.xr b _ U;obtain⟨H,K,u,Y⟩:=Tl J G X;obtain⟨s0,I,_⟩:=I;rw[bR W,k2]at I;have I:=fu I;rw[<-(SQ I).1];obtain⟨w,q2,N,q4,O⟩:=HS.close (wb:=wb) (CV.fS vs) J (λb U=>Hu F b U (u b U))
    have Z:=Fu (CV.fS vs) U (by simp)
    have d:=(w.len _ _ k1).2;have j:my af h (.own c g 0 (l.length+vs.length) af)=aD (Go.As.close h ((CV.fS vs).filterMap M.b)) c (.bN g A.wd (((cK l xs).map λx=>V.im (A.enc x))++[])):=by
     unfold my;have hd:V.cP (gM h) ((l.map λx=>V.im (A.enc x))++R)=ab (l.map A.enc++xs.map A.enc):=Uz _ (by
      have:=Bd (gM h) (l.map A.enc);rwa[tW]at this) H
     have ho:V.de ((l.map λx=>V.im (A.enc x))++R)=(CV.fS vs).filterMap M.b:=by
      have:=PO (l.map A.enc);rw[tW]at this;rw[ZN,K,show V.de (l.map λx=>V.im (A.enc x))=[]from this];rfl
     simp only[B,hd,ho,J.fi _ u,au,ax];rw[mC,jv,<-p8,tW];rfl
    rw[j];refine⟨_,_,rfl,w.P8 Z k1 (l':=cK l xs) (vs':=[]) (us':=[]) (by simp[cK,Y]) k2 rfl,⟨.refl M,by simp[eI,q2,aJ],by simp_all[bL,aK,d,N,aJ],λi hi hw=>?_,jZ,λy P D=>?_⟩,e⟩
    .rw [fN _ _ _ _ (eY Z),az (by grind)]
     exact q4 i hw
    .rw [bG _ _ _ _ (cX d),az (by grind)]
     exact O y P D
   trivial
  .rename_i b p;rw[p]at I;split at e
   .rename_i v U;obtain⟨q,e⟩:=aQ e;simp at q;obtain⟨c1,F⟩:=q;obtain⟨A,_,e⟩:=ay.1 e;obtain⟨x,m,e⟩:=ay.1 e;obtain⟨c,S,k1,k2,B⟩:=J.cell b v U;obtain⟨c',z,I⟩:=I;rw[k1]at z;cases z;have H:=Bk J m B;have K:S.owns=v.ga.filterMap M.b:=by rw[vE];exact(Ic J A).1 v x S m B
    have u:=(Ib (ch:=ch) A).1 v x m;obtain⟨w,q2,N,q4,O⟩:=HS.close (wb:=wb) v.ga J (λb U=>Hu F b U (u b U))
    have Z:=Fu v.ga U (by simp)
    have d:=(w.len _ _ k1).2;have j:my af h (t.get s)=aD (Go.As.close h (v.ga.filterMap M.b)) c (.cell (.im (A.enc x))):=by
     rw[I];unfold my;simp only[k2,H,K,J.fi _ u,au]
    rw[j];refine⟨_,_,rfl,w.P2 Z k1 (cv:=.sy A x) rfl,⟨.refl M,by simp[eI,q2,aJ],by simp_all[bL,aK,d,N,aJ],λi hi hw=>?_,jZ,λy P D=>?_⟩,e⟩
    .rw [fN _ _ _ _ (eY Z),az (by grind)]
     exact q4 i hw
    .rw [bG _ _ _ _ (cX d),az (by grind)]
     exact O y P D
   trivial
  trivial
 .rename_i a s D o;rw[o];exact⟨ch,h,by grind,J,.refl ..,e⟩
theorem ahF(K:HS M ch h){tc:TC}{t:Tm}(Y:bA M tc t){f id:Nat}{ws:List Nat}{df:List (Nat×List V)}{kk:TC->CH->Option ρ}(e:uE E f id ws wb tc ch kk=ab r):
  ∃I a9 M' h',fL E ag f id ⟨t,h,[],df⟩=⟨t,h',[],df⟩/\HS M' a9 h'/\bA M' I t/\Fr wb M ch h M' a9 h'/\(∀i,aY ws i=af->I.get i=tc.get i)/\kk I a9=ab r:=by
 unfold uE at e;unfold fL;have same:kk tc ch=ab r->∃I a9 M' h',(⟨t,h,[],df⟩:St)=⟨t,h',[],df⟩/\HS M' a9 h'/\bA M' I t/\Fr wb M ch h M' a9 h'/\(∀i,aY ws i=af->I.get i=tc.get i)/\kk I a9=ab r:=λe=>
  ⟨tc,ch,M,h,rfl,K,Y,.refl ..,λ_ _=>rfl,e⟩
 split at e
 .grind
 .rename_i s hz;rw[hz];have U:=Y.get s;show∃I a9 M' h',(⟨t,my ag h (t.get s),[],df⟩:St)=⟨t,h',[],df⟩/\_;split at e
  .rename_i hx;rw[hx]at U;simp only[VR]at U;rw[U];exact same e
  .rename_i b n hx;rw[hx]at U;split at e
   .rename_i A l W;obtain⟨N,e⟩:=aQ e;simp only[aM]at N;obtain⟨c0,c1,c2⟩:=N;obtain⟨c,g,us,k1,k2,k3,k4⟩:=K.xr b _ W;simp only[aS]at k4;subst k4;simp only[VR]at U;obtain⟨s0,U,_⟩:=U;rw[bR c2,k2]at U;have U:(V.own c g 0 (l.length+([]:List CV).length) af,A.wd)=(t.get s,s0):=fu U;have Z:=(K.len _ _ k1).2;have hfz:my ag h (t.get s)=aD h c (.arr g A.wd 0 (l.map A.enc)):=by
     rw[<-(SQ U).1];unfold my;have hd:V.cP (gM h) ((l.map λx=>V.im (A.enc x))++[])=ab (l.map A.enc):=by
      have:=Bd (gM h) (l.map A.enc);rw[tW]at this;rw[jv];trivial
     have ho:V.de ((l.map λx=>V.im (A.enc x))++[])=[]:=by
      have:=PO (l.map A.enc);rw[tW]at this;rw[jv];trivial
     simp only[k3,hd,ho];rfl
    rw[hfz];generalize B:aD h c (.arr g A.wd 0 (l.map A.enc))=h';have D:h'.length=h.length:=by rw[<-B,bL,aK Z]
    have G:∀y,y≠c->aq h' y=aq h y:=λy Q=>by rw[<-B,bG _ _ _ _ (cX Z),az Q]
    obtain⟨R,F⟩:=K.gone W k1 D G;have H:(bB ch b ae).length=ch.length:=O9 ..;obtain⟨J,NV⟩:=R.jT (x:=.arr 0 af A l) (h':=h') (c:=c) (g:=g) (m:=l.length) (s:=A.wd) F (by omega) (by omega) (λy _ _=>rfl) (λv q=>by cases q)
     (λ_ _ _ _ q=>by cases q;exact⟨rfl,rfl,rfl,0,by rw[<-B,bG _ _ _ _ (cX Z),aK rfl],λ_=>rfl,bX _⟩) trivial
    rw[bn,<-H]at e;refine⟨_,_,_,h',rfl,NV,(Y.mono J).wk ?_,⟨J,by simp,by omega,λi hi hw=>?_,AG (.inl ⟨b,k1⟩),λy Q hn=>G y (by grind)⟩,λi hi=>TC.uH _ _ _ _ (by grind),e⟩
    .simp only[VR];exact⟨A.wd,by rw[xl,<-(SQ U).1];rfl,by omega⟩
    .rw [cT,az (by omega),Ho _ _ (by grind)]
   trivial
  trivial
 .rename_i s hz;rw[hz];have U:=Y.get s;show∃I a9 M' h',(⟨t,wx h (t.get s),[],df⟩:St)=⟨t,h',[],df⟩/\_;split at e
  .rename_i b d p hx;rw[hx]at U;split at e
   .rename_i u l w W;replace e:=aQ e;obtain⟨N,e⟩:=e;rw[aM]at N;obtain⟨c1,c2⟩:=N;have:=bR c1;subst this;split at e
    .rename_i S v n O;split at e
     .rename_i v' A l' uJ;replace e:=aQ e;obtain⟨N,e⟩:=e;rw[aM]at N;obtain⟨d1,d2⟩:=N;have:=bR d1;subst this;replace e:=aQ e;obtain⟨P,e⟩:=e;rw[oi,decide_eq_true_eq]at P;have P:0< l'.length:=by grind
      obtain⟨w',BV,e⟩:=ay.1 e;obtain⟨c,g,us,i,j,z,aiz,q1,q2,q3,q4,q5,q6⟩:=RG K W U (w:=w) rfl rfl;obtain⟨y,Q,hyr⟩:=q5.yJ O;obtain⟨u0,r1,r2⟩:=K.arr S v af A l' uJ;rcases r2 with⟨_,rfl,_⟩|⟨x,X,ro,r3,rfl,r5,r6,r7⟩
      .trivial
      have uV:=r6 rfl;subst uV;simp only[VR]at hyr;obtain⟨x',g',m',s',y1,rfl,y3⟩:∃c g m s,M.o S v=ab (.own c g 0 m af,s)/\y=.own c g 0 n af/\n<=m:=by
       grind
      rw[r1]at y1;cases y1;have T:eJ h c g ((i,i*u.wd)::p)=ab (.own x X 0 n af):=by
       unfold eJ;simp_all
      have htr:wx h (t.get s)=aD h x (.arr X A.wd 0 ((jm l' n).map A.enc)):=by
       rw[aiz];unfold wx;simp only[T,r5,bn,gd];rw[kl (bX n),kl y3];simp[jm,List.map_take]
      rw[htr];generalize B:aD h x (.arr X A.wd 0 ((jm l' n).map A.enc))=h';have Z:=(K.len _ _ r3).2;have D:h'.length=h.length:=by rw[<-B,bL,aK Z]
      have G:∀y,y≠x->aq h' y=aq h y:=λy Q=>by rw[<-B,bG _ _ _ _ (cX Z),az Q]
      have yb:b≠S:=by grind
      have htk:(jm l' n).length=n:=by grind[jm,gz]
      obtain⟨R,F⟩:=K.gone uJ r3 D G;have H:(bB ch S ae).length=ch.length:=O9 ..;obtain⟨J,GK⟩:=R.jT (x:=.arr 0 af A (jm l' n)) (h':=h') (c:=x) (g:=X) (m:=n) (s:=A.wd) F (by omega) (by omega) (λy _ _=>rfl) (λv q=>by cases q)
       (λ_ _ _ _ q=>by cases q;exact⟨rfl,htk.symm,rfl,0,by rw[<-B,bG _ _ _ _ (cX Z),aK rfl],λ_=>rfl,bX _⟩) trivial
      generalize M7:M.add (bB ch S ae).length x X n A.wd=M2 at J GK;have yo:VR M2 (.own (aA ch) 0) (.own x X 0 n af):=by
       simp only[VR];exact⟨A.wd,by rw[bn,<-H,<-M7,xl],rfl⟩
      obtain⟨z',WJ,hzr,_⟩:=VR.put yo rfl (q5.mono J _ _) BV;have N0:=aae q5 O Q;rw[N0]at WJ;cases WJ;have hb3:aB (bB ch S ae++[ab (.arr 0 af A (jm l' n))]) b=ab (.cu u l [w]):=by
       rw[cT,az (by have:=eY W;omega),Ho _ _ yb];omega
      have hc':aq h' c=ab (.bN g u.wd ((l.map λx=>V.im (u.enc x))++us)):=(G c (by
       grind)).trans q2
      have BU:us=[z]:=by
       simp only[aS]at q3;grind
      subst BU;have aD:aD h' c (.bN g u.wd ((l.map λx=>V.im (u.enc x))++[z]))=h':=by
       have key:∀(h:Heap) (c:Nat) (x:bK),aq h c=ab x->aD h c x=h:=by
        intro h;induction h with
        |nil=>simp[cF]
        |cons a h ih=>
         intro c x e;cases c with
         |zero=>simp[cF]at e;subst e;rfl
         |succ c=>rw[GI,ih c x (by trivial)]
       grind
      have GL:=GK.P8 hb3 (J.b _ _ q1) (l':=l) (vs':=[w']) (by rfl) (J.o _ _ _ q6.2.2) (us':=[z]) (by simp only[aS];grind)
      rw[aD]at GL;refine⟨tc,_,M2,h',rfl,GL,Y.mono J,⟨J,by simp[eI,H],by omega,λi hi hw=>?_,?_,λy Q hn=>G y (by grind)⟩,λ_ _=>rfl,e⟩
      .rw [fN _ _ _ _ (by simp[H];have:=eY W;omega),az (by intro q;subst q;rw[c2]at hw;cases hw),cT,az (by omega),Ho _ _ (by intro q;subst q;rw[d2]at hw;cases hw)]
      .rw [<-M7];exact AG (.inl ⟨S,r3⟩)
     trivial
    trivial
   trivial
  trivial
 grind
end
theorem af7(hC:ja C)(Z:Good C ih)(hl:S6 C ih)(hj:S5 C ih):Good C (λ_=>T7 C ih):=by
 intro ρ f c wb tc ch k r e M t h fb cur df G B;have plain:∀ex,X C.E f fb cur c ⟨t,h,[],df⟩=ab (ex,⟨t,h,[],df⟩)->k ex tc ch=ab r->qc wb M tc ch h (writes c) df (gk c&&ak fb 0) (X C.E f fb cur c ⟨t,h,[],df⟩) k r:=λex D q2=>
  ⟨ex,tc,ch,M,t,h,[],D,G,B,.refl ..,λ_ _=>rfl,⟨.nil _,λ_=>rfl⟩,q2⟩
 cases c with
 |skip=>exact plain .nm (by rw[jb];rfl) e
 |label l=>exact plain .nm (by rw[jb];rfl) e
 |exit id=>exact plain (.exit id) (by rw[jb];rfl) e
 |ret=>exact plain .ret (by rw[jb];rfl) e
 |region id ops U=>
  replace e:Gj C.E f id wb tc ch (λch=>bif U then JC C ih f id wb ops tc ch (uE C.E f id (dstsOf ops.toList) wb · · (k .nm))else JF C ih f (C.E.keep f) wb ops ops.toList tc ch (uE C.E f id (dstsOf ops.toList) wb · · (k .nm)))=ab r:=e
  obtain⟨N,h0,z1,z2,z3,e⟩:=ahE (df:=df) G B e;have fin:∀{A I m t1 h1},HS m I h1->bA m A t1->Fr wb M N h0 m I h1->(∀i,aY (dstsOf ops.toList) i=af->A.get i=tc.get i)->uE C.E f id (dstsOf ops.toList) wb A I (k .nm)=ab r->
    (match(bif U then rj C.E (X C.E) f id ops ⟨t,h0,[],df⟩else dH C.E (X C.E) (C.E.keep f) ops ops.toList ⟨t,h0,[],df⟩)with|some n=>ab n|none=>ae)=ab ⟨t1,h1,[],df⟩->
    qc wb M tc ch h (writes (.region id ops U)) df (gk (.region id ops U)&&ak fb 0) (X C.E f fb cur (.region id ops U) ⟨t,h,[],df⟩) k r:=λ{A I m t1 h1} a1 a2 a3 a4 e a5=>by
   obtain⟨O,p,Y,h2,w1,w2,w3,w4,w5,w6⟩:=ahF (df:=df) a1 a2 e;refine⟨.nm,O,p,Y,t1,h2,[],?_,w2,w3,(z3.trans a3).trans w4,λi hi=>(w5 i hi).trans (a4 i hi),⟨.nil _,λ_=>rfl⟩,w6⟩
   rw[jb];show(match(bif U then rj C.E (X C.E) f id ops (fL C.E af f id ⟨t,h,[],df⟩)else dH C.E (X C.E) (C.E.keep f) ops ops.toList (fL C.E af f id ⟨t,h,[],df⟩))with
    |some n=>ab (Ex.nm,fL C.E ag f id n)
    |none=>ae)=_
   grind
  cases U with
  |true=>
   obtain⟨zU,a9,M',t',h',D,q2,w,q4,z,q6⟩:=aoX (df:=df) hC Z z2 B (show JC C ih f id wb ops tc N _=ab r from e);grind
  |false=>
   obtain⟨zU,a9,M',t',h',D,q2,w,q4,z,q6⟩:=apm (df:=df) hC Z (ops:=ops) ops.toList (λ_ h=>h) z2 B (show JF C ih f (C.E.keep f) wb ops ops.toList tc N _=ab r from e)
   grind
 |seq a b=>
  replace e:(match(keyOf b).bind (C.join f)with
   |some H=>G6 ih (H.at tc) f a b wb tc ch k
   |none=>ih ρ f a wb tc ch (λex tc ch=>match ex with|.nm=>ih ρ f b wb tc ch k|ex=>k ex tc ch))=ab r:=e
  split at e
  .exact hj ρ _ f a b wb tc ch k r e M t h fb cur df G B
  obtain⟨ex,A,I,m,t1,h1,J,D,q2,w,q4,z,s,q6⟩:=Z ρ f a wb tc ch _ r e M t h fb cur df G B;have hw:∀i,aY (writes (.seq a b)) i=af->aY (writes a) i=af/\aY (writes b) i=af:=λi hi=>by
   have hi:aY (writes a++writes b) i=af:=hi;simp_all[BD,oF,hi]
  have u:X C.E f fb cur (.seq a b) ⟨t,h,[],df⟩=(match X C.E f fb cur a ⟨t,h,[],df⟩with
    |some (.nm,n)=>X C.E f fb cur b n
    |r=>r):=by rw[jb];rfl
  have q7':nV h.length J/\((gk (.seq a b)&&ak fb 0)=af->J=[]):=⟨s.1,λF=>s.2 (ta F).1⟩
  cases ex with
  |nm=>
   obtain⟨Bn,O,p,Y,t2,h2,Cl,r1,r2,r3,r4,r5,r7,r6⟩:=Z ρ f b wb A I k r q6 m t1 h1 fb cur (J++df) q2 w;exact⟨Bn,O,p,Y,t2,h2,Cl++J,by grind,r2,r3,q4.trans r4,λi hi=>(r5 i (hw i hi).2).trans (z i (hw i hi).1),⟨r7.1.app s.1 q4.lh,λF=>by rw[s.2 (ta F).1,r7.2 (ta F).2];rfl⟩,r6⟩
  |exit j=>exact⟨.exit j,A,I,m,t1,h1,J,by rw[u,D],q2,w,q4,λi hi=>z i (hw i hi).1,q7',q6⟩
  |ret=>exact⟨.ret,A,I,m,t1,h1,J,by rw[u,D],q2,w,q4,λi hi=>z i (hw i hi).1,q7',q6⟩
 |cond c a b=>
  have e:(match vC tc c with
   |.sy .bool t=>bif t then ih ρ f a wb tc ch k else ih ρ f b wb tc ch k
   |_=>ae)=ab r:=e
  have hv:=iW B c;have u:X C.E f fb cur (.cond c a b) ⟨t,h,[],df⟩=(match ev t c with
   |.im (.bool q)=>bif q then X C.E f fb cur a ⟨t,h,[],df⟩else X C.E f fb cur b ⟨t,h,[],df⟩
   |_=>ae):=by rw[jb];rfl
  split at e
  .rename_i q hq;rw[hq]at hv;rw[hv.bool]at u;cases q with
   |true=>
    obtain⟨ex,A,I,m,t1,h1,J,D,q2,w,q4,z,s,q6⟩:=Z ρ f a wb tc ch k r e M t h fb cur df G B;exact⟨ex,A,I,m,t1,h1,J,u.trans D,q2,w,q4,λi hi=>z i (by
     have hi:aY (writes a++writes b) i=af:=hi;simp_all[BD,oF,hi]),⟨s.1,λF=>s.2 (ta F).1⟩,q6⟩
   |false=>
    obtain⟨ex,A,I,m,t1,h1,J,D,q2,w,q4,z,s,q6⟩:=Z ρ f b wb tc ch k r e M t h fb cur df G B;exact⟨ex,A,I,m,t1,h1,J,u.trans D,q2,w,q4,λi hi=>z i (by
     have hi:aY (writes a++writes b) i=af:=hi;simp_all[BD,oF,hi]),⟨s.1,λF=>s.2 (ta F).2⟩,q6⟩
  trivial
 |block id b=>
  obtain⟨ex,A,I,m,t1,h1,J,D,q2,w,q4,z,s,q6⟩:=Z ρ f b wb tc ch _ r e M t h fb id df G B;have u:X C.E f fb cur (.block id b) ⟨t,h,[],df⟩=(match X C.E f fb id b ⟨t,h,[],df⟩with
   |some (.exit j,n)=>bif ak j id then ab (.nm,n)else ab (.exit j,n)
   |r=>r):=by rw[jb];rfl
  rw[D]at u;cases ex with
  |exit j=>
   have q6:(bif ak j id then k .nm A I else k (.exit j) A I)=ab r:=q6;have u:X C.E f fb cur (.block id b) ⟨t,h,[],df⟩=(bif ak j id then ab (.nm,⟨t1,h1,[],J++df⟩)else ab (.exit j,⟨t1,h1,[],J++df⟩)):=u;cases hj:ak j id with
   |true=>rw[hj]at u q6;exact⟨.nm,A,I,m,t1,h1,J,u,q2,w,q4,z,s,q6⟩
   |false=>rw[hj]at u q6;exact⟨.exit j,A,I,m,t1,h1,J,u,q2,w,q4,z,s,q6⟩
  |nm=>exact⟨.nm,A,I,m,t1,h1,J,u,q2,w,q4,z,s,q6⟩
  |ret=>exact⟨.ret,A,I,m,t1,h1,J,u,q2,w,q4,z,s,q6⟩
 |scope b=>
  obtain⟨ex,A,I,m,t1,h1,J,D,q2,w,q4,z,s,q6⟩:=Z ρ f b wb tc ch k r e M t h fb cur df G B;exact⟨ex,A,I,m,t1,h1,J,by rw[jb];exact D,q2,w,q4,z,s,q6⟩
 |loop b=>exact hl ρ f b wb tc ch k r e M t h fb cur df G B
 |rangeFunc o ps bO body=>
  replace e:(match vC tc o with
   |.fn g a cap=>u3 C ih g (a++(.yl (aA ch)::cap)) wb (ch++[ab (.nj f tc ps.toList bO body)]) λ_ p=>(match aB p (aA ch)with
    |some (.nj _ _ _ _ _)=>k .nm tc (bB p (aA ch) ae)
    |_=>ae)
   |_=>ae)=ab r:=e
  have hv:=iW B o;split at e
  .rename_i g a cap hq;rw[hq]at hv;simp only[VR]at hv;obtain⟨as,cs,ky,v1,v2⟩:=hv;rw[bn]at e;have hL:(h++[ae,ab (bK.lp f t ps.toList bO body)]).length=h.length+2:=by simp
   have hg:∀y,y< h.length->aq (h++[ae,ab (bK.lp f t ps.toList bO body)]) y=aq h y:=λy P=>by simp[cF,hH,P]
   have BJ:aq (h++[ae,ab (bK.lp f t ps.toList bO body)]) (h.length+1)=ab (.lp f t ps.toList bO body):=by
    rw[cF,jx (by omega)];simp
   have hM0:M.le ⟨λi=>if i=ch.length then ab (h.length+1)else M.b i,M.o⟩:=⟨λi c' e=>by
    show(if i=ch.length then ab (h.length+1)else M.b i)=ab c';rw[az (by grind[G.qb])];exact e,λ_ _ _ e=>e⟩
   obtain⟨Q,NV⟩:=G.Y4 (x:=.nj f tc ps.toList bO body) rfl (h':=h++[ae,ab (bK.lp f t ps.toList bO body)]) (c:=h.length+1) (by omega) (by omega) (by omega) hg ⟨h.length+1,t,aK rfl,BJ,B.mono hM0⟩
   have R:aS ⟨λi=>if i=ch.length then ab (h.length+1)else M.b i,M.o⟩ (a++(.yl ch.length::cap)) (as++(.gT (h.length+1)::cs)):=
    aS.app (v1.mono Q) ⟨_,_,rfl,⟨h.length+1,aK rfl,rfl⟩,v2.mono Q⟩
   obtain⟨v,h2,cv,p,Y,p1,_,p3,p4,e⟩:=WU Z NV R e;dsimp only at e;split at e
   .rename_i f' zU ps' aq6 aq7 S;obtain⟨c2,t2,c3,c4,_⟩:=p3.xr _ _ S;have T:=p4.le.b ch.length (h.length+1) (aK rfl);rw[T]at c3;cases c3;have ars:=(p3.len _ _ T).2;have W:(bB h2 (h.length+1) ae).length=h2.length:=by simp
    have GL:HS Y (bB p ch.length ae) (bB h2 (h.length+1) ae):=p3.It S rfl ae (λy P=>by cases P) T W (λy P=>by rw[BK,az P]) (λy P=>by cases P)
    have kx:(ch++[ab (CB.nj f tc ps.toList bO body)]).length=ch.length+1:=by simp
    have K:=Q.trans p4.le;have u:X C.E f fb cur (.rangeFunc o ps bO body) ⟨t,h,[],df⟩=ab (.nm,⟨t,bB h2 (h.length+1) ae,[],bif ak fb 0 then(h.length,[V.undef])::df else df⟩):=by
     rw[jb];show(match(match ev t o with|.fn g a cap=>ab (g,a,cap)|.im (.fn g)=>ab (g,[],[])|_=>ae:Option (Nat×List V×List V))with
      |some (g,a,cap)=>(match gp C.E (X C.E) g (a++(V.gT (aA h+1)::cap)) (h++[ae,ab (bK.lp f t ps.toList bO body)]) []with
       |some (_,h',lp)=>(match aq h' (aA h+1)with
        |some (.lp ..)=>ab (Ex.nm,(⟨t,bB h' (aA h+1) ae,lp,bif ak fb 0 then(aA h,[V.undef])::df else df⟩:St))
        |_=>ae)
       |none=>ae)
      |none=>ae)=_
     rw[ky];simp only;rw[bn,p1];simp only;rw[c4]
    refine⟨.nm,tc,_,Y,t,_,bif ak fb 0 then[(h.length,[V.undef])]else[],?_,GL,B.mono K,⟨K,?_,?_,λi hi hw=>?_,λi d hd=>?_,λd hd hn=>?_⟩,λ_ _=>rfl,⟨?_,?_⟩,e⟩
    .grind
    .rw [dR,hV];have:=p4.lc;omega
    .omega
    .rw [V6 _ _ _ _ (eY S),az (by omega),p4.keep i (by omega) hw,cT,az (by omega)]
    .rcases p4.nb i d hd with⟨j,ej⟩|q
     all_goals grind
    .rw [BK,az (by omega),<-hg d hd]
     refine p4.out d (by omega) λj ej=>?_
     grind
    .cases ak fb 0 with
     |true=>intro d hd;rw[au,gW]at hd;subst hd;exact⟨rfl,aJ _⟩
     |false=>exact .nil _
    .intro F;have F:ak fb 0=af:=F;simp[F]
   trivial
  trivial
 |_=>cases e
end
section
variable [Gh]
mutual
def Pt.dK(ch:CH):Pt->CV->List (Option (Nat×Nat)×Nat)
 |.buf _ t,.own b n=>[(ab (b,n),t.wd)]
 |.buf _ t,_=>[(ae,t.wd)]
 |.agg _ l,.agg _ vs=>Pt.jI ch l vs
 |.cu t p,.own b n=>(ab (b,n),t.wd)::(match aB ch b with|some (.cu _ _ [v])=>Pt.dK ch p v|_=>[])
 |.oR _ p,.eW _ _ v=>Pt.dK ch p v
 |_,_=>[]
def Pt.jI(ch:CH):List Pt->List CV->List (Option (Nat×Nat)×Nat)
 |p::l,v::vs=>Pt.dK ch p v++Pt.jI ch l vs
 |_,_=>[]
end
def Mu.at(L:Nat)(M:Mu)(src:List (Option (Nat×Nat)×Nat)):Mu where
 b:=λi=>if i< L then M.b i else match src[i-L]? with|some (ab (b,_),_)=>M.b b|_=>ae
 o:=λi n=>if i< L then M.o i n else if n=0 then(match src[i-L]? with|some (ab (b,m),_)=>M.o b m|some (ae,w)=>ab (.full [],w)|none=>ae)else ae
def Ay(M N:Mu)(ch:CH)(s:Option (Nat×Nat)×Nat)(x:Option CB):Prop:=
 (∃b t l v A,x=ab (.cu t l [A])/\s=(ab (b,0),t.wd)/\aB ch b=ab (.cu t l [v])/\∀u,VR M v u->VR N A u)∨∃c t l,x=ab (.arr 0 c t l)/\s.2=t.wd/\match s.1 with|some (b,m)=>∃I,aB ch b=ab (.arr m I t l)/\(c=af->I=af)|none=>l=[]
section
variable {M:Mu} {ch:CH} {h:Heap} {L:Nat} {src:List (Option (Nat×Nat)×Nat)}
theorem LM{c:Bool}{t:Ty}{v:CV}{x:List t.den}(e:xy ch c t v=ab x):(v=.fA/\x=[])∨∃b n A,v=.own b n/\aB ch b=ab (.arr n A t x)/\(c=af->A=af):=by
 unfold xy at e;split at e
 .grind
 .rename_i b n;split at e
  .rename_i J A u l Z;cases I:ak n J&&(c||not A)with
   |false=>grind
   |true=>
    rw[I]at e;rw[aM]at I;obtain⟨he,U⟩:=jf e;have:=bR I.1;grind
  trivial
 trivial
mutual
theorem pe(d:HS M ch h):∀(p:Pt) (v:CV) {x:p.ty.den} {u:V} {n:Nat},Pt.get ch p v=ab x->VR M v u->L<=n->(∀(j:Nat) (s:Option (Nat×Nat)×Nat),(Pt.dK ch p v)[j]? =ab s->src[n-L+j]? =ab s)->
  VR (M.at L src) (Pt.mk p x n).1 u/\(Pt.mk p x n).2=n+(Pt.dK ch p v).length/\fO (Pt.mk p x n).1=af/\(Pt.news p x n).length=(Pt.dK ch p v).length/\(∀(j:Nat) (s:Option (Nat×Nat)×Nat),(Pt.dK ch p v)[j]? =ab s->∃y,(Pt.news p x n)[j]? =ab y/\Ay M (M.at L src) ch s y)
 |.val t,v,x,u,n,e,A,f,J=>by
  cases v with
  |sy w y=>
   have e:Ty.cs w t y=ab x:=e
   obtain⟨rfl,he,_⟩:=je e
   simp only[VR]at A
   subst A
   exact⟨by simp only[Pt.mk,VR];rw[he],rfl,rfl,rfl,λj s q=>by simp[Pt.dK]at q⟩
  |_=>cases e
 |.buf c t,v,x,u,n,e,A,f,J=>by
  have e:xy ch c t v=ab x:=by cases v<;>exact e
  rcases LM e with⟨rfl,rfl⟩|⟨b,m,T,rfl,F,W⟩
  .simp only[VR]at A
   subst A
   have i:=J 0 (ae,t.wd) rfl
   rw[tX]at i
   refine⟨?_,rfl,rfl,rfl,λj s q=>?_⟩
   .show∃s,(M.at L src).o n 0=ab (V.full [],s)/\G2 (.full [])=ag
    refine⟨t.wd,?_,rfl⟩
    show(if n< L then M.o n 0 else if 0=0 then _ else ae)=_
    rw[az (by omega),aK rfl,i]
   .cases j with
    |zero=>cases q;exact⟨_,rfl,.inr ⟨c,t,[],rfl,rfl,rfl⟩⟩
    |succ j=>simp[Pt.dK]at q
  .simp only[VR]at A
   obtain⟨O,A,z⟩:=A
   have i:=J 0 (ab (b,m),t.wd) rfl
   rw[tX]at i
   refine⟨?_,rfl,rfl,rfl,λj s q=>?_⟩
   .show∃s,(M.at L src).o n 0=ab (u,s)/\G2 u=ag
    refine⟨O,?_,z⟩
    show(if n< L then M.o n 0 else if 0=0 then _ else ae)=_
    rw[az (by omega),aK rfl,i]
    exact A
   .cases j with
    |zero=>cases q;exact⟨_,rfl,.inr ⟨c,t,x,rfl,rfl,T,F,W⟩⟩
    |succ j=>simp[Pt.dK]at q
 |.nil,v,x,u,n,e,A,f,J=>by
  cases v with
  |fA=>
   simp only[VR]at A
   subst A
   exact⟨by simp only[Pt.mk,VR],rfl,rfl,rfl,λj s q=>by simp[Pt.dK]at q⟩
  |_=>cases e
 |.mp j t,v,x,u,n,e,A,f,J=>by
  cases v with
  |il X K l=>
   have e:Ty.cs (.ar (.cn (.int X) K)) (.ar (.cn (.int j) t)) l=ab x:=e
   obtain⟨he,U⟩:=jf e
   cases he
   have U:x=l:=U
   subst U
   exact⟨A,rfl,rfl,rfl,λj s q=>by simp[Pt.dK]at q⟩
  |_=>cases e
 |.cu t p,v,x,u,n,e,A,f,J=>by
  cases v with
  |own b m=>
   have I:(match aB ch b with
    |some (.cu u l [v])=>bif ak m 0 then(match Ty.cs (.ar u) (.ar t) l,Pt.get ch p v with
     |some x,ab y=>ab (x,y,())
     |_,_=>ae)else ae
    |_=>ae)=ab x:=e
   split at I
   .rename_i K l v F
    replace I:=aQ I;obtain⟨hm,I⟩:=I
    split at I
    .rename_i N y P q2
     cases I
     obtain⟨he,U⟩:=jf P
     cases he
     have U:N=l:=U
     subst U
     have hm:=bR hm
     obtain⟨c,g,R,k1,k2,k3,S⟩:=d.xr b _ F
     simp only[aS]at S
     obtain⟨Y,_,_,Q,_⟩:=S
     simp only[VR]at A
     obtain⟨O,A,z⟩:=A
     have Z:Pt.dK ch (.cu t p) (.own b m)=(ab (b,m),t.wd)::Pt.dK ch p v:=by simp only[Pt.dK,F]
     have i:=J 0 (ab (b,m),t.wd) (by rw[Z];rfl)
     rw[tX]at i
     have a:∀D,VR M v D->_:=λD B=>pe d p v (n:=n+1) q2 B (by omega) λj s q=>by
      have:=J (j+1) s (by rw[Z];exact q)
      rw[show n+1-L+j=n-L+(j+1) by omega];exact this
     obtain⟨h1,h2,h3,G,H⟩:=a Y Q
     refine⟨?_,?_,rfl,?_,λj s q=>?_⟩
     .show∃s,(M.at L src).o n 0=ab (u,s)/\G2 u=ag
      refine⟨O,?_,z⟩
      show(if n< L then M.o n 0 else if 0=0 then _ else ae)=_
      rw[az (by omega),aK rfl,i]
      exact A
     .rw [Z];show(Pt.mk p y (n+1)).2=_;rw[h2,jP];omega
     .rw [Z];show(ab _::Pt.news p y (n+1)).length=_;rw[jP,jP,G]
     .rw [Z]at q
      cases j with
      |zero=>
       cases q
       subst hm
       exact⟨_,rfl,.inl ⟨b,t,N,v,(Pt.mk p y (n+1)).1,rfl,rfl,F,λD B=>(a D B).1⟩⟩
      |succ j=>exact H j s (by simpa using q)
    .cases I
   .cases I
  |_=>cases e
 |.oR t p,v,x,u,n,e,A,f,J=>by
  cases v with
  |eW K l v=>
   have I:(match Ty.cs (.ar K) (.ar t) l,Pt.get ch p v with
    |some x,ab y=>ab (x,y,())
    |_,_=>ae)=ab x:=e
   split at I
   .rename_i N y P q2
    cases I
    obtain⟨he,U⟩:=jf P
    cases he
    have U:N=l:=U
    subst U
    simp only[VR]at A
    obtain⟨D,rfl,A⟩:=A
    obtain⟨h1,h2,h3,G,H⟩:=pe d p v q2 A f λj s q=>J j s (by simp only[Pt.dK];exact q)
    refine⟨?_,by simp only[Pt.dK];exact h2,rfl,by simp only[Pt.dK];exact G,λj s q=>H j s (by simpa only[Pt.dK]using q)⟩
    simp only[Pt.mk,VR]
    exact⟨D,rfl,h1⟩
   .cases I
  |_=>cases e
 |.agg w l,v,x,u,n,e,A,f,J=>by
  cases v with
  |agg w' vs=>
   have I:(bif ak w w' then Pt.ji ch l vs else ae)=ab x:=e
   cases hw:ak w w' with
   |false=>rw[hw,ax]at I;cases I
   |true=>
    rw[hw,au]at I
    have:=bR hw
    subst this
    simp only[VR]at A
    obtain⟨R,rfl,A,_⟩:=A
    obtain⟨h1,h2,h3,G,H⟩:=Hy d l vs I A f J
    exact⟨by simp only[Pt.mk,VR];exact⟨R,rfl,h1,h3⟩,h2,rfl,G,H⟩
  |_=>cases e
theorem Hy(I:HS M ch h):∀(l:List Pt) (vs:List CV) {x:(Pt.nK l).den} {A:List V} {n:Nat},Pt.ji ch l vs=ab x->aS M vs A->L<=n->(∀(j:Nat) (s:Option (Nat×Nat)×Nat),(Pt.jI ch l vs)[j]? =ab s->src[n-L+j]? =ab s)->
  aS (M.at L src) (Pt.iD l x n).1 A/\(Pt.iD l x n).2=n+(Pt.jI ch l vs).length/\gK (Pt.iD l x n).1=ag/\(Pt.np l x n).length=(Pt.jI ch l vs).length/\(∀(j:Nat) (s:Option (Nat×Nat)×Nat),(Pt.jI ch l vs)[j]? =ab s->∃y,(Pt.np l x n)[j]? =ab y/\Ay M (M.at L src) ch s y)
 |[],vs,x,A,n,e,J,b,U=>by
  cases vs with
  |nil=>exact⟨J,rfl,rfl,rfl,λj s q=>by simp[Pt.jI]at q⟩
  |cons _ _=>cases e
 |p::l,vs,x,A,n,e,J,b,U=>by
  cases vs with
  |nil=>cases e
  |cons v vs=>
   have e:(match Pt.get ch p v,Pt.ji ch l vs with
    |some x,ab y=>ab (x,y)
    |_,_=>ae)=ab x:=e
   split at e
   .rename_i y z f g
    cases e
    simp only[aS]at J
    obtain⟨u,A,rfl,Z,a⟩:=J
    obtain⟨h1,h2,h3,c,i⟩:=pe I p v f Z b λj s q=>U j s (by
     show(Pt.dK ch p v++Pt.jI ch l vs)[j]? =ab s
     rw[hH (e7.1 q).1];exact q)
    obtain⟨m,o,t,w,B⟩:=Hy I l vs (n:=(Pt.mk p y n).2) g a (by omega) λj s q=>by
     have:=U ((Pt.dK ch p v).length+j) s (by
      show(Pt.dK ch p v++Pt.jI ch l vs)[(Pt.dK ch p v).length+j]? =ab s
      rw[jx (by omega)];simpa using q)
     rw[h2]
     rw[show n+(Pt.dK ch p v).length-L+j=n-L+((Pt.dK ch p v).length+j) by omega]
     exact this
    refine⟨?_,?_,?_,?_,λj s q=>?_⟩
    .simp only[Pt.iD,aS];exact⟨u,A,rfl,h1,m⟩
    .show (Pt.iD l z (Pt.mk p y n).2).2=n+(Pt.dK ch p v++Pt.jI ch l vs).length
     rw[o,h2,dD];omega
    .show gK ((Pt.mk p y n).1::(Pt.iD l z (Pt.mk p y n).2).1)=ag
     simp only[gK,List.all_cons,h3,Bool.not_false,Bool.true_and]
     exact t
    .show (Pt.news p y n++Pt.np l z (Pt.mk p y n).2).length=(Pt.dK ch p v++Pt.jI ch l vs).length
     rw[dD,dD,c,w]
    .have q:(Pt.dK ch p v++Pt.jI ch l vs)[j]? =ab s:=q
     show∃d,(Pt.news p y n++Pt.np l z (Pt.mk p y n).2)[j]? =ab d/\Ay M (M.at L src) ch s d
     by_cases D:j<(Pt.dK ch p v).length
     .rw [hH D]at q
      rw[hH (by omega)]
      exact i j s q
     .rw [jx (by omega)]at q
      rw[jx (by omega),c]
      exact B _ s q
   .cases e
end
mutual
theorem N2:∀(p:Pt) (v:CV) {x:p.ty.den},Pt.get ch p v=ab x->Pt.ids ch p v=(Pt.dK ch p v).filterMap (λs=>s.1.map eN)
 |.val t,v,x,e=>by cases v<;>simp[Pt.ids,Pt.dK]
 |.buf c t,v,x,e=>by
  have e:xy ch c t v=ab x:=by cases v<;>exact e
  rcases LM e with⟨rfl,rfl⟩|⟨b,m,a,rfl,I,d⟩
  .simp [Pt.ids,Pt.dK]
  .simp [Pt.ids,Pt.dK]
 |.nil,v,x,e=>by cases v<;>simp[Pt.ids,Pt.dK]
 |.mp _ _,v,x,e=>by cases v<;>simp[Pt.ids,Pt.dK]
 |.cu t p,v,x,e=>by
  cases v with
  |own b m=>
   have A:(match aB ch b with
    |some (.cu u l [v])=>bif ak m 0 then(match Ty.cs (.ar u) (.ar t) l,Pt.get ch p v with
     |some x,ab y=>ab (x,y,())
     |_,_=>ae)else ae
    |_=>ae)=ab x:=e
   split at A
   .rename_i J l v I
    replace A:=aQ A;obtain⟨hm,A⟩:=A
    split at A
    .rename_i U y Z q2
     simp only[Pt.ids,Pt.dK,I]
     rw[N2 p v q2];rfl
    .cases A
   .cases A
  |_=>cases e
 |.oR t p,v,x,e=>by
  cases v with
  |eW J l v=>
   have A:(match Ty.cs (.ar J) (.ar t) l,Pt.get ch p v with
    |some x,ab y=>ab (x,y,())
    |_,_=>ae)=ab x:=e
   split at A
   .rename_i U y Z q2
    simp only[Pt.ids,Pt.dK]
    exact N2 p v q2
   .cases A
  |_=>cases e
 |.agg w l,v,x,e=>by
  cases v with
  |agg w' vs=>
   have e:(bif ak w w' then Pt.ji ch l vs else ae)=ab x:=e
   cases hw:ak w w' with
   |false=>rw[hw,ax]at e;cases e
   |true=>
    rw[hw,au]at e
    simp only[Pt.ids,Pt.dK]
    exact GO l vs e
  |_=>cases e
theorem GO:∀(l:List Pt) (vs:List CV) {x:(Pt.nK l).den},Pt.ji ch l vs=ab x->Pt.pb ch l vs=(Pt.jI ch l vs).filterMap (λs=>s.1.map eN)
 |[],vs,x,e=>by cases vs<;>simp[Pt.pb,Pt.jI]
 |p::l,vs,x,e=>by
  cases vs with
  |nil=>cases e
  |cons v vs=>
   have e:(match Pt.get ch p v,Pt.ji ch l vs with
    |some x,ab y=>ab (x,y)
    |_,_=>ae)=ab x:=e
   split at e
   .rename_i y z A I
    simp only[Pt.pb,Pt.jI,adC,N2 p v A,GO l vs I]
   .cases e
end
theorem amr:∀(p:Pt) (w:CV) {x:p.ty.den} {n:Nat},Pt.get ch p w=ab x->(nh w=af/\nh (Pt.mk p x n).1=af)∨(Pt.mk p x n).1=w∨∃t l a b,w=.eW t l a/\(Pt.mk p x n).1=.eW t l b
 |.buf c t,w,x,n,e=>by
  have e:xy ch c t w=ab x:=by trivial
  rcases LM e with⟨rfl,rfl⟩|⟨b,m,d,rfl,f,g⟩<;>exact .inl ⟨rfl,rfl⟩
 |.val t,w,x,n,e|.nil,w,x,n,e=>by cases w<;>first|exact .inl ⟨rfl,rfl⟩|cases e
 |.agg w l,v,x,n,e=>by
  cases v with
  |agg w' vs=>
   refine .inl ⟨rfl,?_⟩;rfl
  |_=>cases e
 |.mp j t,v,x,n,e=>by
  cases v with
  |il i I l=>
   obtain⟨he,A⟩:=jf e;cases he;subst A;exact .inr (.inl rfl)
  |_=>cases e
 |.cu t p,v,x,n,e=>by cases v<;>first|exact .inl ⟨rfl,rfl⟩|cases e
 |.oR t p,v,x,n,e=>by
  cases v with
  |eW I l v=>
   have J:(match Ty.cs (.ar I) (.ar t) l,Pt.get ch p v with
    |some x,ab y=>ab (x,y,())
    |_,_=>ae)=ab x:=e
   split at J
   .rename_i U y Z q2;cases J;obtain⟨he,A⟩:=jf Z;cases he;subst A;exact .inr (.inr ⟨t,U,v,_,rfl,rfl⟩)
   trivial
  |_=>cases e
theorem YH:∀(l:List Pt) (ws:List CV) {x:(Pt.nK l).den} {n:Nat},Pt.ji ch l ws=ab x->∀(k:Nat) (w v:CV),ws[k]? =ab w->(Pt.iD l x n).1[k]? =ab v->(nh w=af/\nh v=af)∨v=w∨∃t l a b,w=.eW t l a/\v=.eW t l b
 |[],ws,x,n,e,k,w,v,hw,A=>by
  trivial
 |p::l,ws,x,n,e,k,w,v,hw,A=>by
  cases ws with
  |nil=>cases e
  |cons I ws=>
   have e:(match Pt.get ch p I,Pt.ji ch l ws with
    |some x,ab y=>ab (x,y)
    |_,_=>ae)=ab x:=e
   split at e
   .rename_i y z J U;cases e;have A:((Pt.mk p y n).1::(Pt.iD l z (Pt.mk p y n).2).1)[k]? =ab v:=A;cases k with
    |zero=>simp at hw A;subst hw;subst A;exact amr p _ J
    |succ k=>exact YH l ws U k w v (by trivial) (by trivial)
   trivial
theorem aii(ch:CH)(b i:Nat):aB (bB ch b ae) i=if i=b then ae else aB ch i:=by
 unfold aB;rw[b8,b8,dR];grind
theorem HP:∀(l:List Nat) (ch:CH) (i:Nat),(nr l ch).length=ch.length/\aB (nr l ch) i=if i∈l then ae else aB ch i
 |[],ch,i=>⟨rfl,by rfl⟩
 |b::l,ch,i=>by
  show(nr l (bB ch b ae)).length=_/\aB (nr l (bB ch b ae)) i=_;obtain⟨h1,h2⟩:=HP l (bB ch b ae) i;refine⟨h1.trans (by simp),?_⟩
  rw[h2,aii];grind
theorem P6:∀(l:List (Nat×Pt)) (vs:List CV) (ch:CH) (i:Nat),(∀p∈l,p.1< ch.length)->l.length=vs.length->(ov l vs ch).length=ch.length/\
  ((i ∉ bI l/\aB (ov l vs ch) i=aB ch i)∨∃(k:Nat) (p:Nat×Pt) (v:CV),l[k]? =ab p/\p.1=i/\vs[k]? =ab v/\aB (ov l vs ch) i=ab (qm v))
 |[],vs,ch,i,_,_=>⟨rfl,.inl ⟨by simp[bI],rfl⟩⟩
 |p::l,[],ch,i,_,I=>by cases I
 |p::l,v::vs,ch,i,hp,I=>by
  show(ov l vs (cG ch p.1 (qm v))).length=_/\((i ∉ bI (p::l)/\aB (ov l vs (cG ch p.1 (qm v))) i=_)∨∃k q w,_/\_/\_/\aB (ov l vs (cG ch p.1 (qm v))) i=_);have A:=hp p (e8 ..);obtain⟨h1,h2⟩:=P6 l vs (cG ch p.1 (qm v)) i (λq b=>by rw[eI];grind) (by simpa using I)
  refine⟨h1.trans (eI ..),?_⟩;rcases h2 with⟨h2,h3⟩|⟨k,q,w,J,U,Z,a⟩
  .by_cases hi:i=p.1
   .refine .inr ⟨0,p,v,rfl,hi.symm,rfl,?_⟩;simp_all[h3,fN,A,aK,hi]
   .refine .inl ⟨?_,?_⟩
    .rw [n7]at h2|-;grind
    simp[h3,fN,A,az,hi]
  .exact .inr ⟨k+1,q,w,J,U,Z,a⟩
theorem P1{A:CH}:∀(l:List (Nat×Ty)) (vs:List (Nat×Bool)) {x:(D7 l).den} (ch:CH) (i:Nat),(∀p∈l,p.1< ch.length)->rW A l vs=ab x->(pq l vs x ch).length=ch.length/\
  ((i ∉ bI l/\aB (pq l vs x ch) i=aB ch i)∨(i∈bI l/\(∃n c t l,aB A i=ab (.arr n c t l))/\aB (pq l vs x ch) i=aB A i))
 |[],vs,x,ch,i,_,_=>⟨rfl,.inl ⟨by simp[bI],rfl⟩⟩
 |p::l,[],x,ch,i,_,e=>by cases e
 |p::l,(v,c)::vs,x,ch,i,hp,e=>by
  have e:(match aB A p.1 with
   |some (.arr Z I u x)=>bif ak v Z&&(bif c then I else not I)then(match Ty.cs (.ar u) (.ar p.2) x,rW A l vs with
    |some x,ab y=>ab (x,y)
    |_,_=>ae)else ae
   |_=>ae)=ab x:=e
  split at e
  .rename_i Z I u m d;cases U:ak v Z&&(bif c then I else not I)with
   |false=>grind
   |true=>
    rw[U]at e;split at e
    .rename_i y z f g;cases e;rw[aM]at U;have:=bR U.1;subst this;have a:I=c:=by grind
     subst a;obtain⟨he,b⟩:=jf f;cases he;subst b;have J:=hp p (e8 ..);obtain⟨h1,h2⟩:=P1 l vs (x:=z) (cG ch p.1 (.arr v I p.2 y)) i (λq U=>by rw[eI];grind) g
     show(pq l vs z (cG ch p.1 (.arr v I p.2 y))).length=_/\((i ∉ bI (p::l)/\aB (pq l vs z (cG ch p.1 (.arr v I p.2 y))) i=_)∨(i∈bI (p::l)/\_/\aB (pq l vs z (cG ch p.1 (.arr v I p.2 y))) i=_));refine⟨h1.trans (eI ..),?_⟩;rcases h2 with⟨h2,h3⟩|⟨h2,h3,j⟩
     .by_cases hi:i=p.1
      .subst hi;refine .inr ⟨by simp[n7],⟨_,_,_,_,d⟩,?_⟩
       rw[h3,fN _ _ _ _ J,aK rfl,d]
      .refine .inl ⟨?_,?_⟩
       .rw [n7]at h2|-;grind
       simp[h3,fN,J,az,hi]
     .exact .inr ⟨by rw[n7]at h2|-;grind,h3,j⟩
    trivial
  trivial
end
theorem Hl:∀(t J:TC) (i:Nat) (x:CV),TC.dQ t (J.set i x)=TC.dQ t J
 |.e,.e,i,x|.n _ _ _,.e,i,x=>rfl
 |t,.n v l r,i,x=>by
  rw[TC.oB];cases t with
  |e=>split<;>first|rfl|(split<;>rfl)
  |n U A I=>
   split
   .rfl
   .split
    .show (TC.dQ A (l.set (i/2) x)&&TC.dQ I r)=_;rw[Hl A l];rfl
    .show (TC.dQ A l&&TC.dQ I (r.set (i/2-1) x))=_;rw[Hl I r];rfl
theorem Cg:∀t:TC,TC.dQ t t=ag
 |.e=>rfl
 |.n v l r=>by show(TC.dQ l l&&TC.dQ r r)=ag;rw[Cg l,Cg r];rfl
theorem Hm:∀{a b c:TC},TC.dQ a b=ag->TC.dQ a c=ag->TC.dQ b c=ag
 |.e,.e,.e,_,_=>rfl
 |.n _ l r,.n _ A I,.n _ J U,h1,h2=>by
  have h1:(TC.dQ l A&&TC.dQ r I)=ag:=h1;have h2:(TC.dQ l J&&TC.dQ r U)=ag:=h2;rw[aM]at h1 h2;show(TC.dQ A J&&TC.dQ I U)=ag;rw[Hm h1.1 h2.1,Hm h1.2 h2.2];rfl
 |.e,.n _ _ _,_,h,_|.e,.e,.n _ _ _,_,h|.n _ _ _,.e,_,h,_|.n _ _ _,.n _ _ _,.e,_,h=>by cases h
theorem aca(t0:TC):∀(l:List Nat) (t:TC),TC.dQ t0 (mO l t)=TC.dQ t0 t
 |[],t=>rfl
 |a::l,t=>(aca t0 l (t.set a .undef)).trans (Hl ..)
theorem Qa:∀(l:List (Nat×Pt)) (vs:List CV) (t:TC) (i:Nat),l.length=vs.length->
  ((i ∉ bI l/\(qY l vs t).get i=t.get i)∨∃(k:Nat) (p:Nat×Pt) (v:CV),l[k]? =ab p/\p.1=i/\vs[k]? =ab v/\((qY l vs t).get i=v∨(qY l vs t).get i=.undef))
 |[],vs,t,i,_=>.inl ⟨by simp[bI],rfl⟩
 |p::l,[],t,i,h=>by cases h
 |p::l,v::vs,t,i,h=>by
  show((i ∉ bI (p::l)/\(qY l vs (t.set p.1 v)).get i=t.get i)∨∃(k:Nat) (q:Nat×Pt) (w:CV),_/\_/\_/\((qY l vs (t.set p.1 v)).get i=w∨(qY l vs (t.set p.1 v)).get i=.undef));rcases Qa l vs (t.set p.1 v) i (by simpa using h)with⟨h1,h2⟩|⟨k,q,w,A,I,J,U⟩
  .by_cases hi:i=p.1
   .subst hi;refine .inr ⟨0,p,v,rfl,rfl,rfl,?_⟩;rw[h2];exact(TC.Gl t p.1 v).imp id (λq=>q.1)
   .refine .inl ⟨?_,?_⟩
    .rw [n7]at h1|-;grind
    .rw [h2,TC.uH _ _ _ _ (λq=>hi q.symm)]
  .exact .inr ⟨k+1,q,w,A,I,J,U⟩
theorem aag(t0:TC):∀(l:List (Nat×Pt)) (vs:List CV) (t:TC),TC.dQ t0 (qY l vs t)=TC.dQ t0 t
 |[],vs,t|p::l,[],t=>rfl
 |p::l,v::vs,t=>(aag t0 l vs (t.set p.1 v)).trans (Hl ..)
theorem bA.Pw{M N:Mu}:∀{a b:TC} {t:Tm},bA M a t->TC.dQ a b=ag->(∀i,VR N (b.get i) (t.get i))->bA N b t
 |.e,.e,.e,_,_,_=>trivial
 |.n _ l r,.n f c d,.n u g j,h,A,U=>by
  have A:(TC.dQ l c&&TC.dQ r d)=ag:=A;rw[aM]at A;refine⟨?_,bA.Pw h.2.1 A.1 λi=>?_,bA.Pw h.2.2 A.2 λi=>?_⟩
  .have:=U 0;trivial
  .have:=U (2*i+1);have Z:(2*i+1)/2=i:=by omega
   have I:(2*i+1)%2=1:=by omega
   have J:¬(2*i+1=0):=by omega
   rw[TC.fM,Tm.Gk,az J,az J,aK I,aK I,Z]at this;omega
  .have:=U (2*i+2);have Z:(2*i+2)/2-1=i:=by omega
   have I:¬((2*i+2)%2=1):=by omega
   have J:¬(2*i+2=0):=by omega
   rw[TC.fM,Tm.Gk,az J,az J,az I,az I,Z]at this;omega
 |.e,.n _ _ _,_,_,h,_|.n _ _ _,.e,_,_,h,_=>by cases h
def KH(h:Heap)(c:Nat)(w:CV)(u:V):Prop:=(nh w=af/\aq h c=ab (.cell u))∨(∃j t l s ck,w=.il j t l/\aq h c=ab (.mp (gH j t l) s ck))∨∃t l a g A,w=.eW t l a/\u=.aG [.full (l.map t.enc),A]/\aq h c=ab (.bN g t.wd ((l.map λx=>V.im (t.enc x))++[A]))
theorem A0{M:Mu}{ch:CH}{h:Heap}(Z:HS M ch h):∀{l:List (Nat×Pt)} {ws:List CV},mZ ch l=ab ws->l.length=ws.length/\∃A,aS M ws A/\
  ∀(k:Nat) (p:Nat×Pt),l[k]? =ab p->∃w u c,ws[k]? =ab w/\A[k]? =ab u/\aB ch p.1=ab (qm w)/\M.b p.1=ab c/\KH h c w u
 |[],ws,e=>by cases e;exact⟨rfl,[],rfl,λk p q=>by trivial⟩
 |p::l,ws,e=>by
  have e:(match aB ch p.1 with|some (.cell v)=>bif nh v then ae else dB ae (λvs=>ab (v::vs)) (mZ ch l)|some (.lL j t x)=>dB ae (λvs=>ab (.il j t x::vs)) (mZ ch l)|some (.cu t x [v])=>dB ae (λvs=>ab (.eW t x v::vs)) (mZ ch l)|_=>ae:Option (List CV))=ab ws:=e
  split at e
  .rename_i v I;cases f:nh v with
   |true=>grind
   |false=>
   rw[f,ax]at e;cases J:mZ ch l with
   |none=>simp_all
   |some vs=>
    rw[J]at e;cases e;obtain⟨h1,A,h2,h3⟩:=A0 Z J;obtain⟨c,u,a,q2,i⟩:=Z.cell _ _ I;have d:qm v=.cell v:=by cases v<;>first|rfl|cases f
    refine⟨by simp[h1],u::A,⟨u,A,rfl,i,h2⟩,λk m U=>?_⟩
    cases k with
    |zero=>simp at U;subst U;exact⟨v,u,c,rfl,rfl,by simp[d,I],a,.inl ⟨f,q2⟩⟩
    |succ k=>grind
  .rename_i j t x I;cases J:mZ ch l with
   |none=>simp_all
   |some vs=>
    rw[J]at e;cases e;obtain⟨h1,A,h2,h3⟩:=A0 Z J;obtain⟨c,s,ck,a,q2⟩:=Z.xr _ _ I;refine⟨by simp[h1],_::A,⟨_,A,rfl,(rfl:VR M (.il j t x) _),h2⟩,λk m U=>?_⟩
    cases k with
    |zero=>simp at U;subst U;exact⟨.il j t x,_,c,rfl,rfl,I,a,.inr (.inl ⟨j,t,x,s,ck,rfl,q2⟩)⟩
    |succ k=>grind
  .rename_i t x v I;cases J:mZ ch l with
   |none=>simp_all
   |some vs=>
    rw[J]at e;cases e;obtain⟨h1,A,h2,h3⟩:=A0 Z J;obtain⟨c,g,o,a,q2,i,q4⟩:=Z.xr _ _ I;simp only[aS]at q4;obtain⟨n,z,rfl,y,rfl⟩:=q4;refine⟨by simp[h1],V.aG [.full (x.map t.enc),n]::A,⟨_,A,rfl,(by simp only[VR];grind),h2⟩,λk m U=>?_⟩
    cases k with
    |zero=>simp at U;subst U;exact⟨.eW t x v,_,c,rfl,rfl,I,a,.inr (.inr ⟨t,x,v,g,n,rfl,rfl,i⟩)⟩
    |succ k=>grind
  trivial
theorem abK{M:Mu}{tc:TC}{t:Tm}(I:bA M tc t):∀(l:List (Nat×Pt)),∃A,aS M (a8 [] (λp _ ih=>tc.get p.1::ih) l:List CV) A/\A=l.map λp=>t.get p.1
 |[]=>⟨[],rfl,rfl⟩
 |p::l=>by
  obtain⟨A,h1,h2⟩:=abK I l;exact⟨t.get p.1::A,⟨_,_,rfl,I.get p.1,h1⟩,by simp[h2]⟩
theorem ahR{ch:CH}:∀{l:List Pt} {vs:List CV} {x:(Pt.nK l).den},Pt.ji ch l vs=ab x->l.length=vs.length
 |[],[],_,_=>rfl
 |[],_::_,_,e|_::_,[],_,e=>by cases e
 |p::l,v::vs,x,e=>by
  have e:(match Pt.get ch p v,Pt.ji ch l vs with
   |some x,ab y=>ab (x,y)
   |_,_=>ae)=ab x:=e
  split at e
  .rename_i y z I A;simp[ahR A]
  trivial
theorem Z4(l:List (Nat×Pt)):(aE l).length=l.length:=by
 induction l with
 |nil=>rfl
 |cons p l ih=>show(p.2::aE l).length=_;simp[ih]
theorem Ph:∀(l:List Pt) (x:(Pt.nK l).den) (n:Nat),(Pt.iD l x n).1.length=l.length
 |[],_,_=>rfl
 |p::l,x,n=>by
  show((Pt.mk p x.1 n).1::(Pt.iD l x.2 (Pt.mk p x.1 n).2).1).length=_;simp[Ph l]
theorem aS.Lx{M:Mu}:∀{l:List CV} {A:List V},aS M l A->∀{i:Nat} {v:CV} {u:V},l[i]? =ab v->A[i]? =ab u->VR M v u:=λh i v u h1 h2=>by
 obtain⟨I,J,q2⟩:=h.get h1;grind
def wo(tc:TC)(l:List (Nat×Pt)):List CV:=a8 [] (λp _ ih=>tc.get p.1::ih) l
theorem ar0(tc:TC)(l:List (Nat×Pt)):(wo tc l).length=l.length:=by
 induction l with
 |nil=>rfl
 |cons p l ih=>show(tc.get p.1::wo tc l).length=_;simp[ih]
theorem V8{H:Hint}{vs:List (Nat×Bool)}{tc:TC}{ch:CH}{s:H.ty.den}(e:H.get vs tc ch=ab s):
  Pt.ji ch (aE H.dz) (wo tc H.dz)=ab s.1/\(∃l,mZ ch H.cells=ab l/\Pt.ji ch (aE H.cells) l=ab s.2.1)/\rW ch H.di vs=ab s.2.2:=by
 have e:(match Pt.ji ch (aE H.dz) (wo tc H.dz),(mZ ch H.cells).bind (Pt.ji ch (aE H.cells)),rW ch H.di vs with
  |some x,ab y,ab z=>ab (x,(y,z))
  |_,_,_=>ae)=ab s:=e
 split at e
 .rename_i x y z A I J;cases e;simp_all[A,ay,I,J]
 trivial
theorem TF{ch:CH}:∀{l:List (Nat×Ty)} {vs:List (Nat×Bool)} {x:(D7 l).den},rW ch l vs=ab x->∀p∈l,p.1< ch.length
 |[],_,_,_,p,hp=>by cases hp
 |q::l,[],_,e,_,_=>by cases e
 |q::l,(v,c)::vs,x,e,p,hp=>by
  have e:(match aB ch q.1 with
   |some (.arr I A u x)=>bif ak v I&&(bif c then A else not A)then(match Ty.cs (.ar u) (.ar q.2) x,rW ch l vs with
    |some x,ab y=>ab (x,y)
    |_,_=>ae)else ae
   |_=>ae)=ab x:=e
  split at e
  .rename_i I A u a J;cases U:ak v I&&(bif c then A else not A)with
   |false=>grind
   |true=>
    rw[U]at e;split at e
    .rename_i y z b Z;rcases eT.1 hp with rfl|hp
     .exact eY J
     .exact TF Z p hp
    trivial
  trivial
theorem Nu(ch l:CH)(b:Nat):aB (ch++l) b=if b< ch.length then aB ch b else aB l (b-ch.length):=by
 unfold aB;rw[b8,b8,b8];grind
theorem Vs{α:Type}{f:α->Option Nat}:∀{l:List α} {i j:Nat} {x y:α} {o:Nat},(l.filterMap f).Nodup->l[i]? =ab x->l[j]? =ab y->f x=ab o->f y=ab o->i=j
 |[],i,j,x,y,o,_,h,_,_,_=>by trivial
 |a::l,i,j,x,y,o,d,hi,I,J,U=>by
  have A:(l.filterMap f).Nodup:=by
   grind
  have Z:∀(k:Nat) z,l[k]? =ab z->f z=ab o->f a=ab o->False:=λk z e b c=>by
   grind
  cases i with
  |zero=>
   grind
  |succ i=>
   cases j with
   |zero=>grind
   |succ j=>rw[Vs A hi I J U]
theorem QY{H:Hint}{ws ids:List Nat}{vs:List (Nat×Bool)}{M0 M':Mu}{tc J:TC}{t0 t':Tm}{ch I:CH}{h0 h':Heap}{s:H.ty.den}
  (mB:HS M0 ch h0) (NX:bA M0 tc t0) (K:HS M' I h') (ht:bA M' J t') (Y:M0.le M') (aiq:TC.dQ J tc=ag)
  (kx:∀p∈H.cells,p.1< ch.length) (sj:∀p∈H.di,p.1< ch.length)
  (aio:∀b,b< ch.length->b ∉ ids->b ∉ bI H.cells->b ∉ bI H.di->aB I b=aB ch b)
  (aiK:∀i,i ∉ ws->J.get i=tc.get i)
  (uS:(H.ids J I).Nodup) (eH:∀b∈H.ids J I,ch.length<=b∨b∈ids) (ye:∀b∈ids,b ∉ bI H.cells) (Gu:∀b∈ids,b ∉ bI H.di)
  (hg:H.get vs J I=ab s):
  ∃EV,M0.le EV/\HS EV (H.fill ws ids vs tc ch s).2 h'/\bA EV (H.fill ws ids vs tc ch s).1 t'/\ch.length<=(H.fill ws ids vs tc ch s).2.length/\
   (∀b,b< ch.length->b ∉ ids->b ∉ bI H.cells->b ∉ bI H.di->aB (H.fill ws ids vs tc ch s).2 b=aB ch b)/\
   (∀i,i ∉ ws->i ∉ bI H.dz->(H.fill ws ids vs tc ch s).1.get i=tc.get i)/\(∀b c,EV.b b=ab c->∃b0,M'.b b0=ab c):=by
 obtain⟨g1,⟨cw,g2,g3⟩,g4⟩:=V8 hg;obtain⟨us,BU,aiO⟩:=abK ht H.dz;obtain⟨art,uc,huc,NZ⟩:=A0 K g2;have BU:aS M' (wo J H.dz) us:=BU;generalize M8:Pt.jI I (aE H.dz) (wo J H.dz)=S1;generalize M9:Pt.jI I (aE H.cells) cw=S2;have m1:=Hy K (L:=ch.length) (src:=S1++S2) (n:=aA ch) _ _ g1 BU (by rw[bn];exact aJ _) (λj q S=>by
  rw[M8]at S;have yh:=(e7.1 S).1;rw[bn,Nat.sub_self,cV,hH yh];exact S)
 rw[M8]at m1;obtain⟨a1,a2,a3,a4,a5⟩:=m1;have m2:=Hy K (L:=ch.length) (src:=S1++S2) (n:=(Pt.iD (aE H.dz) s.1 (aA ch)).2) _ _ g3 huc (by rw[a2,bn];exact SL ..) (λj q S=>by
  rw[M9]at S;rw[a2,bn,jx (by omega),show ch.length+S1.length-ch.length+j-S1.length=j by omega];exact S)
 rw[M9]at m2;obtain⟨b1,b2,b3,b4,b5⟩:=m2;generalize uL:(Pt.iD (aE H.cells) s.2.1 (Pt.iD (aE H.dz) s.1 (aA ch)).2).1=ds at b1 b3;generalize VX:(Pt.iD (aE H.dz) s.1 (aA ch)).1=cs at a1 a3;have N:∀(k:Nat) (w v:CV),cw[k]? =ab w->ds[k]? =ab v->(nh w=af/\nh v=af)∨v=w∨∃t l a b,w=.eW t l a/\v=.eW t l b:=λk w v hw hv=>YH _ _ g3 k w v hw (by rw[uL];exact hv)
 have V2:ds.length=H.cells.length:=by rw[<-uL,Ph,Z4]
 have VY:cs.length=H.dz.length:=by rw[<-VX,Ph,Z4]
 have f1:(H.fill ws ids vs tc ch s).1=qY H.dz cs (mO ws tc):=by rw[<-VX];rfl
 have f2:(H.fill ws ids vs tc ch s).2=pq H.di vs s.2.2 (ov H.cells ds (nr ids ch))++(Pt.np (aE H.dz) s.1 (aA ch)++Pt.np (aE H.cells) s.2.1 (Pt.iD (aE H.dz) s.1 (aA ch)).2):=by rw[<-uL];rfl
 rw[f1,f2];generalize uU:Pt.np (aE H.dz) s.1 (aA ch)++Pt.np (aE H.cells) s.2.1 (Pt.iD (aE H.dz) s.1 (aA ch)).2=nw;have Wo:nw.length=S1.length+S2.length:=by rw[<-uU,dD,a4,b4]
 have Wp:∀(j:Nat) (q:Option (Nat×Nat)×Nat),(S1++S2)[j]? =ab q->∃y,nw[j]? =ab y/\Ay M' (M'.at ch.length (S1++S2)) I q y:=λj q S=>by
  rw[<-uU];by_cases yh:j< S1.length
  .rw [hH yh]at S;rw[hH (by omega)];exact a5 j q S
  .rw [jx (by omega)]at S
   rw[jx (by omega),a4];exact b5 _ q S
 have Wd:H.ids J I=(S1++S2).filterMap (λs=>s.1.map eN):=by
  have:H.ids J I=Pt.pb I (aE H.dz) (wo J H.dz)++(match mZ I H.cells with|some l=>Pt.pb I (aE H.cells) l|none=>[]):=rfl
  rw[this,g2,GO _ _ g1];show _++Pt.pb I (aE H.cells) cw=_;rw[GO _ _ g3,adC,M8,M9]
 rw[Wd]at uS eH;generalize aiL:S1++S2=src at a1 b1 Wp Wd uS eH;have hsl:src.length=S1.length+S2.length:=by rw[<-aiL,dD]
 generalize VU:pq H.di vs s.2.2 (ov H.cells ds (nr ids ch))=cb;have od:(nr ids ch).length=ch.length:=(HP ids ch 0).1;have yp:(ov H.cells ds (nr ids ch)).length=ch.length:=(P6 H.cells ds (nr ids ch) 0 (by rw[od];exact kx) V2.symm).1.trans od
 have D:cb.length=ch.length:=by rw[<-VU];exact(P1 H.di vs _ 0 (by rw[yp];exact sj) g4).1.trans yp
 have hP:∀b,((∃n c t l,aB I b=ab (.arr n c t l))/\b∈bI H.di/\aB cb b=aB I b)∨(∃(k:Nat) (q:Nat×Pt) (v:CV),H.cells[k]? =ab q/\q.1=b/\ds[k]? =ab v/\aB cb b=ab (qm v))∨(b∈ids/\aB cb b=ae)∨
   (b ∉ ids/\b ∉ bI H.cells/\b ∉ bI H.di/\aB cb b=aB ch b):=λb=>by
  rw[<-VU];rcases(P1 H.di vs (ov H.cells ds (nr ids ch)) b (by rw[yp];exact sj) g4).2 with⟨T,q2⟩|⟨T,q2,q3⟩
  .rcases (P6 H.cells ds (nr ids ch) b (by rw[od];exact kx) V2.symm).2 with⟨r1,r2⟩|⟨k,q,v,r1,r2,r3,r4⟩
   .by_cases A:b∈ids
    .refine .inr (.inr (.inl ⟨A,?_⟩));rw[q2,r2,(HP ids ch b).2,aK A]
    .refine .inr (.inr (.inr ⟨A,r1,T,?_⟩));rw[q2,r2,(HP ids ch b).2,az A]
   .exact .inr (.inl ⟨k,q,v,r1,r2,r3,q2.trans r4⟩)
  .exact .inl ⟨q2,T,q3⟩
 have hD:∀b,b< ch.length->(b ∉ ids/\b ∉ bI H.cells/\b ∉ bI H.di/\aB cb b=aB ch b)->aB cb b=aB I b:=λb A q=>q.2.2.2.trans (aio b A q.1 q.2.1 q.2.2.1).symm
 have Q:M0.le (M'.at ch.length src):=⟨λi c e=>by
  show(if i< ch.length then M'.b i else _)=_;rw[aK (mB.len _ _ e).1];exact Y.b _ _ e,λi n x e=>by
  show(if i< ch.length then M'.o i n else _)=_;rw[aK (mB.fQ _ _ _ e)];exact Y.o _ _ _ e⟩
 have O:∀b,b< ch.length->(M'.at ch.length src).b b=M'.b b:=λb A=>aK A
 have NK:∀b n,b< ch.length->(M'.at ch.length src).o b n=M'.o b n:=λb n A=>aK A
 have BE:∀b,¬b< ch.length->(M'.at ch.length src).b b=match src[b-ch.length]? with|some (ab (b,_),_)=>M'.b b|_=>ae:=λb A=>az A
 have NL:∀b,¬b< ch.length->(M'.at ch.length src).o b 0=match src[b-ch.length]? with|some (ab (b,m),_)=>M'.o b m|some (ae,w)=>ab (.full [],w)|none=>ae:=λb A=>(az A).trans (aK rfl)
 have Wq:∀b n,¬b< ch.length->n≠0->(M'.at ch.length src).o b n=ae:=λb n A hn=>(az A).trans (az hn)
 have W:∀b,b< ch.length->aB (cb++nw) b=aB cb b:=λb A=>by rw[Nu,D,aK A]
 have Gz:∀b x,¬b< ch.length->aB (cb++nw) b=ab x->∃q,src[b-ch.length]? =ab q/\Ay M' (M'.at ch.length src) I q (ab x):=λb x A e=>by
  rw[Nu,D,az A]at e;unfold aB at e;rw[b8]at e;split at e
  .rename_i y hy;have hyl:=(e7.1 hy).1;have G:src[b-ch.length]? =ab (src[b-ch.length]'(by omega)):=hJ (by omega)
   refine⟨_,G,?_⟩;obtain⟨z,z1,z2⟩:=Wp _ _ G;rw[hy]at z1;cases z1;rw[<-e];exact z2
  .cases e
 have HF:HS (M'.at ch.length src) (cb++nw) h':=by
  have Ws:∀b c,aB (cb++nw) b≠ae->(M'.at ch.length src).b b=ab c->∃o,aB I o≠ae/\M'.b o=ab c/\
    ((b< ch.length/\o=b/\(b ∉ ids∨b∈bI H.cells∨b∈bI H.di))∨(¬b< ch.length/\∃m w,src[b-ch.length]? =ab (ab (o,m),w))):=λb c e1 e2=>by
   by_cases A:b< ch.length
   .rw [O b A]at e2;rw[W b A]at e1;rcases hP b with⟨⟨n,R,t,l,F⟩,B,Z⟩|⟨k,q,v,F,Z,B,w4⟩|w|w
    .exact ⟨b,by rw[F];simp,e2,.inl ⟨A,rfl,.inr (.inr B)⟩⟩
    .obtain ⟨w',u',R,v1,v2,v3,v4,f⟩:=NZ k q F;rw[Z]at v3;exact⟨b,by rw[v3];simp,e2,.inl ⟨A,rfl,.inr (.inl (by rw[n7,<-Z];exact lg.2 ⟨q,lj F,rfl⟩))⟩⟩
    .exact absurd w.2 e1
    .exact ⟨b,by rw[<-hD b A w];exact e1,e2,.inl ⟨A,rfl,.inl w.1⟩⟩
   .rw [BE b A]at e2;split at e2
    .rename_i o m w G;obtain⟨x,hx⟩:=Option.ne_none_iff_exists'.1 e1;obtain⟨q,Wz,X⟩:=Gz b x A hx;rw[G]at Wz;cases Wz;rcases X with⟨o',t,l,v,v',_,z0,z,_⟩|⟨c0,t,l,_,_,R,z,_⟩
     .cases z0;exact⟨o,by rw[z];simp,e2,.inr ⟨A,_,_,G⟩⟩
     .exact ⟨o,by rw[z];simp,e2,.inr ⟨A,m,w,G⟩⟩
    .cases e2
  refine⟨λb cv e=>?_,λb n cl t l e=>?_,λb b' c e1 e2 T q2=>?_,λb n cl t l e m hm=>?_,λb c e=>?_,λb n x e=>?_,λb x e=>?_⟩
  .by_cases A:b< ch.length
   .rw [W b A]at e;rw[O b A];rcases hP b with⟨⟨n,R,t,l,F⟩,B,Z⟩|⟨k,q,v,F,Z,B,w4⟩|w|w
    .rw [Z,F]at e;cases e
    .rw [w4]at e;obtain⟨hvc,U⟩:v=cv/\nh v=af:=by
      cases v<;>first|(cases e;exact⟨rfl,rfl⟩)|cases e
     subst hvc;obtain⟨w',u',R,v1,v2,v3,v4,f⟩:=NZ k q F;rw[Z]at v4;have GN:nh w'=af:=by
      rcases N k w' v v1 B with q|q|⟨_,_,_,_,_,q⟩
      .exact q.1
      .exact q▸U
      .rw [q]at U;cases U
     rcases f with⟨_,f⟩|⟨_,_,_,_,_,f,_⟩|⟨_,_,_,_,_,f,_⟩
     .exact ⟨R,u',v4,f,b1.Lx B v2⟩
     .rw [f]at GN;cases GN
     .rw [f]at GN;cases GN
    .rw [w.2]at e;cases e
    .have e0:=w.2.2.2▸e;obtain⟨c0,v0,p1,p2,p3⟩:=mB.cell b cv e0;obtain⟨R,v',r1,r2,r3⟩:=K.cell b cv (hD b A w▸e);exact⟨R,v',r1,r2,(VR.back Y _ _ _ p3 r3).mono Q _ _⟩
   .obtain ⟨q,G,⟨_,_,_,_,_,z,_⟩|⟨c0,t,l,z,_⟩⟩:=Gz b _ A e<;>cases z
  .by_cases A:b< ch.length
   .rw [W b A]at e;rw[O b A,NK b n A];rcases hP b with⟨_,B,Z⟩|⟨k,q,v,F,Z,B,w4⟩|w|w
    .exact K.arr b n cl t l (Z▸e)
    .rw [w4]at e;cases v<;>cases e
    .rw [w.2]at e;cases e
    .exact K.arr b n cl t l (hD b A w▸e)
   .obtain ⟨q,G,⟨_,_,_,_,_,z,_⟩|⟨c0,t',l',z,hw,X⟩⟩:=Gz b _ A e
    .cases z
    cases z;rw[NL b A,BE b A];rcases q with⟨_|⟨o,m⟩,w⟩
    .have X:l=[]:=X;have hw:w=t.wd:=hw;subst X;rw[G];exact⟨_,by rw[hw],.inl ⟨rfl,rfl,rfl⟩⟩
    .obtain ⟨R,z,hc⟩:=X;rw[G];obtain⟨u,v1,v2⟩:=K.arr o m R t l z;exact⟨u,v1,v2.imp id λ⟨c,g,ro,x1,x2,x3,x4,x5⟩=>⟨c,g,ro,x1,x2,x3,λkx=>x4 (hc kx),x5⟩⟩
  .obtain ⟨o,p1,p2,p3⟩:=Ws b c e1 T;obtain⟨o',p1',p2',ZQ⟩:=Ws b' c e2 q2;have ho:=K.inj o o' c p1 p1' p2 p2';subst ho;have mid:∀i m w,src[i]? =ab (ab (o,m),w)->o∈src.filterMap (λs=>s.1.map eN):=λi m w hi=>List.mem_filterMap.2 ⟨_,lj hi,rfl⟩
   have mix:∀d,d< ch.length->o=d->(d ∉ ids∨d∈bI H.cells∨d∈bI H.di)->∀i m w,src[i]? =ab (ab (o,m),w)->False:=λd hd hod hx i m w hi=>by
    subst hod;rcases eH o (mid i m w hi)with hh|hh
    .omega
    .rcases hx with hx|hx|hx
     .exact hx hh
     .exact ye o hh hx
     .exact Gu o hh hx
   rcases p3 with⟨A,ho,hx⟩|⟨A,m,w,hi⟩
   .rcases ZQ with⟨lG,NI,_⟩|⟨lG,m',w',qD⟩
    .exact ho.symm.trans NI
    .exact (mix b A ho hx _ _ _ qD).elim
   .rcases ZQ with⟨lG,NI,hx'⟩|⟨lG,m',w',qD⟩
    .exact (mix b' lG NI hx' _ _ _ hi).elim
    .have:=Vs uS hi qD rfl rfl;omega
  .by_cases A:b< ch.length
   .rw [W b A]at e;rw[NK b m A];rcases hP b with⟨_,B,Z⟩|⟨k,q,v,F,Z,B,w4⟩|w|w
    .exact K.new b n cl t l (Z▸e) m hm
    .rw [w4]at e;cases v<;>cases e
    .rw [w.2]at e;cases e
    .exact K.new b n cl t l (hD b A w▸e) m hm
   .exact Wq b m A (by omega)
  .rw [dD,D,Wo];by_cases A:b< ch.length
   .rw [O b A]at e;exact⟨by omega,(K.len b c e).2⟩
   .rw [BE b A]at e;split at e
    .rename_i o m w G;have:=(e7.1 G).1;exact⟨by omega,(K.len _ c e).2⟩
    .cases e
  .rw [dD,D,Wo];by_cases A:b< ch.length
   .omega
   .by_cases hn:n=0
    .subst hn;rw[NL b A]at e;by_cases G:b-ch.length< src.length
     .omega
     .rw [jO (by omega)]at e;cases e
    .rw [Wq b n A hn]at e;cases e
  .by_cases A:b< ch.length
   .rw [W b A]at e;rcases hP b with⟨⟨n,R,t,l,F⟩,B,Z⟩|⟨k,q,v,F,Z,B,w4⟩|w|w
    .rw [Z,F]at e;cases e;trivial
    .rw [w4]at e;obtain⟨w',u',R,v1,v2,v3,v4,f⟩:=NZ k q F;rw[Z]at v4;cases v with
     |il j t l=>
      cases e;rcases N k w' _ v1 B with⟨_,U⟩|P|⟨_,_,_,_,_,P⟩
      .cases U
      .subst P;rcases f with⟨U,_⟩|⟨j,t,l,s',ck,f,v6⟩|⟨_,_,_,_,_,f,_⟩
       .cases U
       .cases f;exact⟨R,s',ck,(O b A).trans v4,v6⟩
       .cases f
      .cases P
     |eW t l a=>
      cases e;have BV:∃a',w'=.eW t l a':=by
       rcases N k w' _ v1 B with⟨_,U⟩|P|⟨_,_,a',_,hw,P⟩
       .cases U
       .exact ⟨a,P.symm⟩
       .cases P;exact⟨a',hw⟩
      obtain⟨a',rfl⟩:=BV;rcases f with⟨U,_⟩|⟨j,t,l,s',ck,f,v6⟩|⟨t,l,a'',g,u1,f,v6,v7⟩
      .cases U
      .cases f
      .cases f;subst v6;obtain⟨c2,g2,us2,x1,x2,x3,x4⟩:=K.xr b (.cu t l [a']) (by rw[<-Z,v3];rfl)
       have v4:M'.b b=ab R:=Z▸v4;rw[v4]at x1;cases x1;rw[v7]at x3;have Ns:g2=g:=by injection x3 with x3;injection x3 with y1;exact y1.symm
       subst Ns;have uI:=b1.Lx B v2;simp only[VR]at uI;obtain⟨u2,WE,uI⟩:=uI;have:u2=u1:=by cases WE;rfl
       subst this;exact⟨R,g2,[u2],(O b A).trans v4,(NK b 0 A).trans x2,v7,by simp only[aS];exact⟨u2,[],rfl,uI,rfl⟩⟩
     |_=>cases e;trivial
    .rw [w.2]at e;cases e
    .have e0:=w.2.2.2▸e;exact((mB.xr b x e0).back Y (K.xr b x (hD b A w▸e))).step Q λ_ _=>rfl
   .obtain ⟨q,G,⟨o,t,l,a,a',z,z0,z1,z2⟩|⟨c0,t,l,z,_⟩⟩:=Gz b _ A e
    .cases z;subst z0;obtain⟨c2,g2,us2,x1,x2,x3,x4⟩:=K.xr o _ z1;simp only[aS]at x4;obtain⟨u1,r1,rfl,WD,rfl⟩:=x4;exact⟨c2,g2,[u1],by rw[BE b A,G];exact x1,by rw[NL b A,G];exact x2,x3,by simp only[aS];exact⟨u1,[],rfl,z2 u1 WD,rfl⟩⟩
    .cases z;trivial
 refine⟨M'.at ch.length src,Q,HF,?_,by rw[dD,D];exact SL ..,λb A T q2 q3=>?_,λi hi S=>?_,λb c e=>?_⟩
 .refine ht.Pw (by rw[aag,aca];exact aiq) λi=>?_
  rcases Qa H.dz cs (mO ws tc) i VY.symm with⟨T,q2⟩|⟨k,q,v,T,q2,q3,q4⟩
  .rw [q2,wz];by_cases hi:i∈ws
   .rw [aK hi];trivial
   .rw [az hi];have w:=ht.get i;rw[aiK i hi]at w;exact(VR.back Y _ _ _ (NX.get i) w).mono Q _ _
  .rcases q4 with q4|q4
   .rw [q4];refine a1.Lx q3 (?_:us[k]? =_);rw[aiO,nS,T,<-q2];rfl
   .rw [q4];trivial
 .rw [W b A];rcases hP b with⟨⟨n,c,t,l,F⟩,B,Z⟩|⟨k,q,v,F,Z,B,w4⟩|w|w
  .exact absurd B q3
  .exact absurd (by rw[n7,<-Z];exact lg.2 ⟨q,lj F,rfl⟩) q2
  .exact absurd w.1 T
  .exact w.2.2.2
 .rcases Qa H.dz cs (mO ws tc) i VY.symm with⟨T,q2⟩|⟨k,q,v,T,q2,q3,q4⟩
  .rw [q2,wz,az hi]
  .exact absurd (by rw[n7,<-q2];exact lg.2 ⟨q,lj T,rfl⟩) S
 .by_cases A:b< ch.length
  .rw [O b A]at e;exact⟨b,e⟩
  .rw [BE b A]at e;split at e
   .exact ⟨_,e⟩
   .cases e
end
abbrev uk:Gh:=⟨λ_ _ _=>True,λ_=>True,λ_ _=>trivial⟩
theorem kz(x y:Int):ao x y=decide (x< y):=@oi uk x y
theorem oh(x y:Int):aj x y=decide (x<=y):=@gn uk x y
theorem dY(x y:Int):ai x y=decide (x=y):=@og uk x y
theorem tE(k:IntKind)(n:Int):wr k n=k.wrap n:=@lZ uk k n
theorem aqP{n:Int}(h1: -9223372036854775808<=n)(h2:n< 9223372036854775808):wr .i64 n=n:=by
 grind[tE,IntKind.wrap,IntKind.bits,IntKind.signed]
theorem Hn{σ ρ:Type}{step:σ->Option (σ⊕ρ)}{s:σ}{r:ρ}(e:aF step s=ab r):∃n,qK step n s=ab r:=by
 unfold aF at e;split at e
 all_goals grind
theorem yC{σ ρ:Type}(step:σ->Option (σ⊕ρ))(n:Nat)(s:σ):qK step (n+1) s=match step s with
  |none=>ae
  |some (.inl A)=>qK step n A
  |some (.inr r)=>ab r:=rfl
theorem OX{σ ρ:Type}{step:σ->Option (σ⊕ρ)}:∀{n:Nat} {s:σ} {r:ρ},qK step n s=ab r->∀m,n<=m->qK step m s=ab r
 |0,_,_,e,_,_=>by cases e
 |n+1,s,r,e,0,h=>by omega
 |n+1,s,r,e,m+1,h=>by
  rw[yC]at e|-;split at e
  .cases e
  .exact OX e m (by omega)
  omega
theorem OY{σ ρ:Type}{step:σ->Option (σ⊕ρ)}{s:σ}{r:ρ}{n:Nat}(e:qK step n s=ab r):aF step s=ab r:=by
 unfold aF;have h:∃n r,qK step n s=ab r:=⟨n,r,e⟩;have h2:=h.choose_spec.choose_spec;have a:=OX e (max n h.choose) (EM ..);have b:=OX h2 (max n h.choose) (EN ..);grind
theorem cD{σ ρ:Type}{step:σ->Option (σ⊕ρ)}{s s':σ}(e:step s=ab (.inl s')):aF step s=aF step s':=by
 cases h:aF step s' with
 |some r=>
  obtain⟨n,A⟩:=Hn h;exact OY (n:=n+1) (by simp[yC,e,A])
 |none=>
  cases h2:aF step s with
  |none=>rfl
  |some r=>
   obtain⟨n,A⟩:=Hn h2;cases n<;>first|rename_i n;rw[yC,e]at A;rw[OY A]at h;cases h|cases A
theorem bD{σ ρ:Type}{step:σ->Option (σ⊕ρ)}{s:σ}{r:ρ}(e:step s=ab (.inr r)):aF step s=ab r:=
 OY (n:=1) (by rw[yC,e])
theorem eh{σ ρ:Type}{step:σ->Option (σ⊕ρ)}(I:σ->Prop)(m:σ->Nat)(Q:ρ->Prop)
  (h:∀s,I s->(∃A,step s=ab (.inl A)/\I A/\m A< m s)∨∃r,step s=ab (.inr r)/\Q r):∀s,I s->∃r,aF step s=ab r/\Q r:=by
 have:∀n s,m s< n->I s->∃r,aF step s=ab r/\Q r:=by
  intro n;induction n with
  |zero=>omega
  |succ n ih=>
   intro s Z hi;rcases h s hi with⟨A,e,J,hm⟩|⟨r,e,U⟩
   .rw [cD e];grind
   .exact ⟨r,bD e,U⟩
 intro s hi;exact this (m s+1) s (Nat.lt_succ_self _) hi
section
variable [Gh]
variable {C:CE} {ih:(ρ:Type)->Nat->Code->(Nat->Bool)->TC->CH->KX ρ->Option ρ}
theorem al9(G:Good C ih):S6 C ih:=by
 intro ρ f b wb tc ch k r e M t h fb cur df S ht;unfold OW at e;replace e:=ay.1 e;obtain⟨key,_,e⟩:=e;cases hu:(bif C.rC f key then ag else ZZ C f key tc ch)with
 |true=>
  rw[hu,au]at e;obtain⟨ex,Z,a,M1,t1,h1,U,T,q2,z,q4,W,K,q6⟩:=G ρ f b wb tc ch _ r e M t h fb cur df S ht;have N:X C.E f fb cur (.loop b) ⟨t,h,[],df⟩=(match X C.E f fb cur b ⟨t,h,[],df⟩with
   |some (.nm,O)=>X C.E f fb cur (.loop b) O
   |r=>r):=by rw[jb];rfl
  cases ex with
  |nm=>
   obtain⟨Bn,A,I,M2,t2,h2,Cl,r1,r2,r3,r4,r5,r7,r6⟩:=G ρ f (.loop b) wb Z a k r q6 M1 t1 h1 fb cur (U++df) q2 z;exact⟨Bn,A,I,M2,t2,h2,Cl++U,by grind,r2,r3,q4.trans r4,λi hi=>(r5 i hi).trans (W i hi),⟨r7.1.app K.1 q4.lh,λY=>by rw[K.2 Y,r7.2 Y];rfl⟩,r6⟩
  |exit j=>exact⟨.exit j,Z,a,M1,t1,h1,U,by rw[N,T],q2,z,q4,W,K,q6⟩
  |ret=>exact⟨.ret,Z,a,M1,t1,h1,U,by rw[N,T],q2,z,q4,W,K,q6⟩
 |false=>
 rw[hu,ax]at e;replace e:=ay.1 e;obtain⟨H,_,e⟩:=e;replace e:=ay.1 e;obtain⟨vs,hvs,e⟩:=e;cases P:ef wb (H.ids tc ch)&&(ef wb (bI H.cells)&&(ef wb (bI H.di)&&((iF (H.ids tc ch++(bI H.cells++bI H.di))&&iF (bI H.dz))&&ef (λi=>aY (writes b) i) (bI H.dz))))with
 |false=>grind
 |true=>
 rw[P,au]at e;simp only[aM]at P;obtain⟨c1,c2,c3,⟨c4,_⟩,c5⟩:=P;replace e:=ay.1 e;obtain⟨s0,mB,e⟩:=e;obtain⟨n,d⟩:=Hn e;have nd:=yQ c4;have Q:=adK.1 nd;have ye:∀i∈H.ids tc ch,i ∉ bI H.cells:=λi hi hj=>Q.2.2 i hi i (cB.2 (.inl hj)) rfl
 have Gu:∀i∈H.ids tc ch,i ∉ bI H.di:=λi hi hj=>Q.2.2 i hi i (cB.2 (.inr hj)) rfl
 obtain⟨_,⟨cw,hcw,_⟩,har⟩:=V8 mB;have kx:∀p∈H.cells,p.1< ch.length:=λp hp=>by
  obtain⟨_,us,_,q⟩:=A0 S hcw;obtain⟨i,hi⟩:=EB hp;obtain⟨w,u,c,_,_,z,_⟩:=q i p hi;exact eY z
 have sj:=TF har;obtain⟨v,i1,i2,i3,i4,i5,i6,i7⟩:=QY (ws:=writes b) (ids:=H.ids tc ch) S ht S ht (.refl M) (Cg tc) kx sj (λ_ _ _ _ _=>rfl) (λ_ _=>rfl) Q.1 (λ_ h=>.inr h) ye Gu mB
 have main:∀n s v g h' J,qK (λs=>match H.fill (writes b) (H.ids tc ch) vs tc ch s with
    |(Z,a)=>ih (H.ty.den⊕ρ) f b (λi=>bp (aA ch) i||(aY (bI H.cells) i||aY (bI H.di) i)) Z a (λex A I=>match ex with
     |.nm=>bif TC.dQ tc A&&(iF (H.ids A I)&&ef (λb=>bp (aA ch) b) (H.ids A I))then(H.get vs A I).map aU else ae
     |ex=>(k ex A I).map bg)) n s=ab r->M.le v->HS v (H.fill (writes b) (H.ids tc ch) vs tc ch s).2 h'->bA v (H.fill (writes b) (H.ids tc ch) vs tc ch s).1 g->
   h.length<=h'.length->ch.length<=(H.fill (writes b) (H.ids tc ch) vs tc ch s).2.length->
   (∀i,i< ch.length->i ∉ H.ids tc ch->i ∉ bI H.cells->i ∉ bI H.di->aB (H.fill (writes b) (H.ids tc ch) vs tc ch s).2 i=aB ch i)->
   (∀i,i ∉ writes b->i ∉ bI H.dz->(H.fill (writes b) (H.ids tc ch) vs tc ch s).1.get i=tc.get i)->
   (∀b c,v.b b=ab c->(∃b0,M.b b0=ab c)∨h.length<=c)->(∀c,c< h.length->(∀b,M.b b≠ab c)->aq h' c=aq h c)->nV h.length J/\((gk b&&ak fb 0)=af->J=[])->
   qc wb M tc ch h (writes b) df (gk b&&ak fb 0) (X C.E f fb cur (.loop b) ⟨g,h',[],J++df⟩) k r:=by
  intro n;induction n with
  |zero=>intro s v g h' J d;cases d
  |succ n IH=>
   intro s v g h' J d j1 j2 j3 j4 j5 j6 j7 j8 j9 W5;rw[yC]at d;generalize hF:H.fill (writes b) (H.ids tc ch) vs tc ch s=F at d j2 j3 j5 j6 j7;obtain⟨Z,a⟩:=F;cases hy:ih (H.ty.den⊕ρ) f b (λi=>bp (aA ch) i||(aY (bI H.cells) i||aY (bI H.di) i)) Z a (λex A I=>match ex with
     |.nm=>bif TC.dQ tc A&&(iF (H.ids A I)&&ef (λb=>bp (aA ch) b) (H.ids A I))then(H.get vs A I).map aU else ae
     |ex=>(k ex A I).map bg)with
   |none=>
    grind
   |some y=>
    simp only[hy]at d;obtain⟨ex,A,I,M2,t2,h2,U,T,q2,z,q4,W,K,q6⟩:=G _ f b _ Z a _ y hy v g h' fb cur (J++df) j2 j3;have W6:nV h.length (U++J)/\((gk b&&ak fb 0)=af->U++J=[]):=⟨K.1.app W5.1 j4,λY=>by rw[K.2 Y,W5.2 Y];rfl⟩
    rw[<-mc]at T;have N:X C.E f fb cur (.loop b) ⟨g,h',[],J++df⟩=(match X C.E f fb cur b ⟨g,h',[],J++df⟩with
     |some (.nm,O)=>X C.E f fb cur (.loop b) O
     |r=>r):=by rw[jb];rfl
    rw[T]at N;have l:∀i,i< ch.length->i ∉ H.ids tc ch->i ∉ bI H.cells->i ∉ bI H.di->aB I i=aB ch i:=λi hi B R a3=>by
     rw[q4.keep i (eU hi j5) (by
      rw[oF,oF,bn];refine⟨?_,?_,?_⟩
      .rw [<-hG,adU];omega
      .rw [<-hG,jX];exact R
      .rw [<-hG,jX];exact a3)]
     exact j6 i hi B R a3
    have m:∀i,aY (writes b) i=af->A.get i=tc.get i:=λi hi=>by
     rw[W i hi];exact j7 i (λhm=>by rw[jX.2 hm]at hi;cases hi) (λhm=>by have:=jz c5 i hm;rw[hi]at this;cases this)
    have qE:∀i c,M2.b i=ab c->(∃b0,M.b b0=ab c)∨h.length<=c:=λi c e=>(q4.nb i c e).elim (λ⟨j,ej⟩=>j8 j c ej) λq=>.inr (bU j4 q)
    have D:∀c,c< h.length->(∀b,M.b b≠ab c)->aq h2 c=aq h c:=λc P d=>(q4.out c (eU P j4) λi e=>(j8 i c e).elim (λ⟨j,ej⟩=>d j ej) λq=>absurd P (SN.2 q)).trans (j9 c P d)
    have out:k ex A I=ab r->X C.E f fb cur (.loop b) ⟨g,h',[],J++df⟩=ab (ex,⟨t2,h2,[],(U++J)++df⟩)->qc wb M tc ch h (writes b) df (gk b&&ak fb 0) (X C.E f fb cur (.loop b) ⟨g,h',[],J++df⟩) k r:=λB R=>
     ⟨ex,A,I,M2,t2,h2,U++J,R,q2,z,⟨j1.trans q4.le,bU j5 q4.lc,bU j4 q4.lh,λi hi hw=>l i hi
      (λhm=>by rw[jz c1 i hm]at hw;cases hw) (λhm=>by rw[jz c2 i hm]at hw;cases hw) (λhm=>by rw[jz c3 i hm]at hw;cases hw),qE,D⟩,m,W6,B⟩
    have o:(k ex A I).map bg=ab y->X C.E f fb cur (.loop b) ⟨g,h',[],J++df⟩=ab (ex,⟨t2,h2,[],(U++J)++df⟩)->qc wb M tc ch h (writes b) df (gk b&&ak fb 0) (X C.E f fb cur (.loop b) ⟨g,h',[],J++df⟩) k r:=λB R=>by
     cases hk:k ex A I with
     |none=>rw[hk]at B;cases B
     |some r'=>
      rw[hk]at B;cases B;cases d;exact out hk R
    cases ex with
    |exit j=>exact o q6 N
    |ret=>exact o q6 N
    |nm=>
     have q6:(bif TC.dQ tc A&&(iF (H.ids A I)&&ef (λb=>bp (aA ch) b) (H.ids A I))then(H.get vs A I).map aU else ae)=ab y:=q6
     cases x:TC.dQ tc A&&(iF (H.ids A I)&&ef (λb=>bp (aA ch) b) (H.ids A I))with
     |false=>rw[x,ax]at q6;cases q6
     |true=>
      rw[x,au]at q6;simp only[aM]at x;obtain⟨d1,d2,d3⟩:=x;cases hg:H.get vs A I with
      |none=>rw[hg]at q6;cases q6
      |some s'=>
       rw[hg]at q6;cases q6;obtain⟨MN,k1,k2,k3,k4,k5,k6,k7⟩:=QY (ws:=writes b) (ids:=H.ids tc ch) S ht q2 z (j1.trans q4.le) (Hm d1 (Cg tc)) kx sj l (λi hi=>m i (by rw[<-hG,jX];exact hi))
        (yQ d2) (λi hi=>.inl (by have:=jz d3 i hi;rw[bn]at this;exact gX this)) ye Gu hg
       rw[N];exact IH s' MN t2 h2 (U++J) d k1 k2 k3 (bU j4 q4.lh) k4 k5 k6 (λi c e=>qE _ c (k7 i c e).choose_spec) D W6
 exact main n s0 v t h [] d i1 i2 i3 (aJ _) i4 i5 i6 (λi c e=>.inl (i7 i c e)) (λ_ _ _=>rfl) ⟨.nil _,λ_=>rfl⟩
theorem ai3(s:Good C ih):S5 C ih:=by
 intro ρ H f a b wb tc ch k r e M t h fb cur df hs ht;unfold G6 at e;replace e:=ay.1 e;obtain⟨vs,hvs,e⟩:=e;cases g:ef wb (H.ids tc ch)&&(ef wb (bI H.cells)&&(ef wb (bI H.di)&&((iF (H.ids tc ch++(bI H.cells++bI H.di))&&iF (bI H.dz))&&(ef (λi=>aY (writes a) i) (bI H.dz)&&ef (λb=>cA b (aA ch)) (bI H.cells++bI H.di)))))with
 |false=>grind
 |true=>
 rw[g,au]at e;simp only[aM]at g;obtain⟨c1,c2,c3,⟨c4,_⟩,c5,c6⟩:=g;have nd:=yQ c4;have u:=adK.1 nd;have B:∀i∈H.ids tc ch,i ∉ bI H.cells:=λi hi D=>u.2.2 i hi i (cB.2 (.inl D)) rfl
 have G:∀i∈H.ids tc ch,i ∉ bI H.di:=λi hi D=>u.2.2 i hi i (cB.2 (.inr D)) rfl
 have v:∀i,i∈bI H.cells++bI H.di->i< ch.length:=λi hi=>by
  have:=jz c6 i hi;simp_all
 have K:∀p∈H.cells,p.1< ch.length:=λp hp=>v _ (cB.2 (.inl (by rw[n7];grind)))
 have N:∀p∈H.di,p.1< ch.length:=λp hp=>v _ (cB.2 (.inr (by rw[n7];grind)))
 unfold cg at e;replace e:=ay.1 e;obtain⟨y,hy,e⟩:=e;obtain⟨ex,A,I,M2,t2,h2,Z,q1,q2,q3,q4,q5,w,q6⟩:=s _ f a _ tc ch _ y hy M t h fb cur df hs ht;have hw:∀i,aY (writes (.seq a b)) i=af->aY (writes a) i=af/\aY (writes b) i=af:=λi hi=>by
  have hi:aY (writes a++writes b) i=af:=hi;simp_all[BD,oF,hi]
 have x:X C.E f fb cur (.seq a b) ⟨t,h,[],df⟩=(match X C.E f fb cur a ⟨t,h,[],df⟩with
   |some (.nm,O)=>X C.E f fb cur b O
   |r=>r):=by rw[jb];rfl
 rw[q1]at x;have J:∀i,i< ch.length->i ∉ H.ids tc ch->i ∉ bI H.cells->i ∉ bI H.di->aB I i=aB ch i:=λi hi a0 a2 a3=>q4.keep i hi (by
  rw[oF,oF,oF,bn];refine⟨?_,?_,?_,?_⟩
  .rw [<-hG,adU];omega
  .rw [<-hG,jX];omega
  .rw [<-hG,jX];omega
  .rw [<-hG,jX];omega)
 have P:∀i,i< ch.length->wb i=af->aB I i=aB ch i:=λi hi hw=>J i hi
  (λhm=>by rw[jz c1 i hm]at hw;cases hw) (λhm=>by rw[jz c2 i hm]at hw;cases hw) (λhm=>by rw[jz c3 i hm]at hw;cases hw)
 have U:(k ex A I).map bg=ab y->X C.E f fb cur (.seq a b) ⟨t,h,[],df⟩=ab (ex,⟨t2,h2,[],Z++df⟩)->qc wb M tc ch h (writes (.seq a b)) df (gk (.seq a b)&&ak fb 0) (X C.E f fb cur (.seq a b) ⟨t,h,[],df⟩) k r:=λa1 a2=>by
  cases hk:k ex A I with
  |none=>grind
  |some r'=>
   rw[hk]at a1;cases a1;cases e;exact⟨ex,A,I,M2,t2,h2,Z,a2,q2,q3,⟨q4.le,q4.lc,q4.lh,P,q4.nb,q4.out⟩,λi hi=>q5 i (hw i hi).1,⟨w.1,λz=>w.2 (ta z).1⟩,hk⟩
 cases ex with
 |exit j=>exact U q6 x
 |ret=>exact U q6 x
 |nm=>
  have q6:(bif TC.dQ tc A&&(iF (H.ids A I)&&ef (λb=>bp (aA ch) b||aY (H.ids tc ch) b) (H.ids A I))then(H.get vs A I).map aU else ae)=ab y:=q6
  cases d:TC.dQ tc A&&(iF (H.ids A I)&&ef (λb=>bp (aA ch) b||aY (H.ids tc ch) b) (H.ids A I))with
  |false=>rw[d,ax]at q6;cases q6
  |true=>
   rw[d,au]at q6;simp only[aM]at d;obtain⟨d1,d2,d3⟩:=d;cases Q:H.get vs A I with
   |none=>rw[Q]at q6;cases q6
   |some s'=>
    rw[Q]at q6;cases q6;obtain⟨MN,k1,k2,k3,R,k5,k6,k7⟩:=QY (ws:=writes a) (ids:=H.ids tc ch) hs ht q2 q3 q4.le (Hm d1 (Cg tc)) K N J (λi hi=>q5 i (by rw[<-hG,jX];exact hi))
     (yQ d2) (λi hi=>by
      have:=jz d3 i hi;rw[mP,bn,jX]at this;exact this.imp gX id) B G Q
    replace e:(match H.fill (writes a) (H.ids tc ch) vs tc ch s' with
     |(l,m)=>ih ρ f b wb l m k)=ab r:=e
    generalize H.fill (writes a) (H.ids tc ch) vs tc ch s'=F at e k2 k3 R k5 k6;obtain⟨l,m⟩:=F;obtain⟨S,T,W,M3,t3,h3,Y,r1,r2,r3,o,r5,r7,r6⟩:=s ρ f b wb l m k r e MN t2 h2 fb cur (Z++df) k2 k3;refine⟨S,T,W,M3,t3,h3,Y++Z,by rw[mc];exact x.trans r1,r2,r3,⟨k1.trans o.le,bU R o.lc,bU q4.lh o.lh,λi hi hw=>?_,λi c e=>?_,λc g hn=>?_⟩,λi hi=>?_,⟨r7.1.app w.1 q4.lh,λz=>by rw[w.2 (ta z).1,r7.2 (ta z).2];rfl⟩,r6⟩
    .rw [o.keep i (eU hi R) hw];exact k5 i hi (λhm=>by rw[jz c1 i hm]at hw;cases hw) (λhm=>by rw[jz c2 i hm]at hw;cases hw) (λhm=>by rw[jz c3 i hm]at hw;cases hw)
    .rcases o.nb i c e with⟨j,ej⟩|q
     .obtain ⟨j',n⟩:=k7 j c ej;exact q4.nb j' c n
     .exact .inr (bU q4.lh q)
    .refine (o.out c (eU g q4.lh) λj ej=>?_).trans (q4.out c g hn)
     obtain⟨j',n⟩:=k7 j c ej;rcases q4.nb j' c n with⟨j2,e2⟩|q
     .exact hn j2 e2
     .exact absurd g (SN.2 q)
    .rw [r5 i (hw i hi).2];exact k6 i (λhm=>by have:=(hw i hi).1;rw[jX.2 hm]at this;cases this) (λhm=>by have:=jz c5 i hm;rw[(hw i hi).1]at this;cases this)
theorem A1(A:ja C):∀n,Good C (LZ C n)
 |0=>λρ f c wb tc ch k r e=>by cases e
 |n+1=>af7 A (A1 A n) (al9 (A1 A n)) (ai3 (A1 A n))
end
section
variable [Gh]
def jS(E:Env)(g:Nat)(s:Spec):Prop:=∀x y,s.f x=ab y->fY E (X E) g (s.a.cL x)=ab (s.r.enc y)
def Rm(l:List (Nat×Spec)):Nat->Option Spec:=a8 (λ_=>ae) (λp _ ih i=>bif ak p.1 i then ab p.2 else ih i) l
def arz(l:List (Nat×Hint)):Nat->Option Hint:=a8 (λ_=>ae) (λp _ ih i=>bif ak p.1 i then ab p.2 else ih i) l
theorem Rn:∀{l:List (Nat×Spec)} {i:Nat} {s:Spec},Rm l i=ab s->(i,s)∈l
 |[],_,_,e=>by cases e
 |p::l,i,s,e=>by
  have e:(bif ak p.1 i then ab p.2 else Rm l i)=ab s:=e;cases A:ak p.1 i with
  |true=>
   rw[A]at e;have:=bR A;grind
  |false=>
   rw[A]at e;exact gB _ (Rn e)
def Ro(l:List (Nat×kq)):Nat->Option kq:=a8 (λ_=>ae) (λp _ ih i=>bif ak p.1 i then ab p.2 else ih i) l
theorem Rp:∀{l:List (Nat×kq)} {i:Nat} {s:kq},Ro l i=ab s->(i,s)∈l
 |[],_,_,e=>by cases e
 |p::l,i,s,e=>by
  have e:(bif ak p.1 i then ab p.2 else Ro l i)=ab s:=e;cases A:ak p.1 i with
  |true=>
   rw[A]at e;have:=bR A;grind
  |false=>
   rw[A]at e;exact gB _ (Rp e)
def uy(E:Env)(l:List (Nat×Spec))(J:List (Nat×kq))(A I:Nat->Nat->Option Hint)(rC:Nat->Nat->Bool):CE:=⟨E,Rm l,Ro J,A,I,rC⟩
def T6(E:Env)(l:List (Nat×Spec))(I:List (Nat×kq))(A:Nat->Nat->Option Hint):CE:=uy E l I A (λ_ _=>ae) (λ_ _=>af)
def LX(E:Env)(l:List (Nat×Spec))(A:Nat->Nat->Option Hint):CE:=T6 E l [] A
def p9(E:Env):List (Nat×Spec)->Prop
 |[]=>True
 |p::l=>jS E p.1 p.2/\p9 E l
def Aw(E:Env):List (Nat×kq)->Prop
 |[]=>True
 |p::l=>mW E p.1 p.2/\Aw E l
theorem p9.mem{E:Env}:∀{l:List (Nat×Spec)},p9 E l->∀p∈l,jS E p.1 p.2
 |_::_,h,p,hp=>by
  rcases eT.1 hp with rfl|hp
  .exact h.1
  .exact h.2.mem p hp
theorem Aw.mem{E:Env}:∀{l:List (Nat×kq)},Aw E l->∀p∈l,mW E p.1 p.2
 |_::_,h,p,hp=>by
  rcases eT.1 hp with rfl|hp
  .exact h.1
  .exact h.2.mem p hp
theorem af4{E:Env}{l:List (Nat×Spec)}{J:List (Nat×kq)}{A I:Nat->Nat->Option Hint}{rC:Nat->Nat->Bool}(h:p9 E l)(hm:Aw E J):ja (uy E l J A I rC):=
 ⟨λ_ _ e=>h.mem _ (Rn e),λ_ _ e=>hm.mem _ (Rp e)⟩
theorem af6{E:Env}{l:List (Nat×Spec)}{I:List (Nat×kq)}{A:Nat->Nat->Option Hint}(h:p9 E l)(hm:Aw E I):ja (T6 E l I A):=
 ⟨λ_ _ e=>h.mem _ (Rn e),λ_ _ e=>hm.mem _ (Rp e)⟩
theorem af5{E:Env}{l:List (Nat×Spec)}{A:Nat->Nat->Option Hint}(h:p9 E l):ja (LX E l A):=af6 h trivial
theorem T5{C:CE}(I:ja C){n g:Nat}{A rt:Ty}{x:A.den}{y:rt.den}(e:rZ C n g A rt x=ab y):oX C.E (X C.E) g (A.cL x)=ab (rt.enc y):=by
 obtain⟨v,h2,cv,J,c,U,Z,a,_,b⟩:=yu (A1 I n) HS.empty (Cd A x) e;unfold oX;rw[mC,U];exact Bk a b Z
theorem jS.ofC{C:CE}(A:ja C){g:Nat}{s:Spec}(hm:C.E.sm g=ae)(n:Nat)(hf:∀x y,s.f x=ab y->rZ C n g s.a s.r x=ab y):jS C.E g s:=λx y e=>by
 unfold fY;rw[hm];exact T5 A (hf x y e)
theorem TJ{ch:CH}{n m k:Nat}{A I:List Bool}{J U:CH}(a:m=n+A.length/\J.length=A.length/\∀j:Nat,A[j]? =ab ag->aB ch (n+j)=aB J j)(b:k=m+I.length/\U.length=I.length/\∀j:Nat,I[j]? =ab ag->aB ch (m+j)=aB U j):
  k=n+(A++I).length/\(J++U).length=(A++I).length/\∀j:Nat,(A++I)[j]? =ab ag->aB ch (n+j)=aB (J++U) j:=by
 obtain⟨d,Z,f⟩:=a;obtain⟨g,c,i⟩:=b;refine⟨by grind,by simp[Z,c],λj e=>?_⟩
 rw[Nu];grind
mutual
theorem Ap.xq{ch:CH}:∀(p:Ap) {x z:p.ty.den} {n m:Nat},Ap.back ch p x n=ab (z,m)->m=n+(Ap.gR p).length/\(Ap.news p z).length=(Ap.gR p).length/\∀j:Nat,(Ap.gR p)[j]? =ab ag->aB ch (n+j)=aB (Ap.news p z) j
 |.val t,x,z,n,m,e=>by cases e;exact⟨rfl,rfl,λj h=>by cases h⟩
 |.buf w t,x,z,n,m,e=>by
  have e:(bif w then(match aB ch n with
   |some (.arr v c u I)=>bif ak v 0&&not c then(match Ty.cs (.ar u) (.ar t) I with|some y=>ab (y,n+1)|none=>ae)else ae
   |_=>ae)else ab (x,n+1):Option (List t.den×Nat))=ab (z,m):=e
  cases w with
  |false=>cases e;exact⟨rfl,rfl,λj h=>by cases j<;>cases h⟩
  |true=>
   rw[au]at e
   split at e
   .rename_i v c u I J
    cases A:ak v 0&&not c with
    |false=>rw[A,ax]at e;cases e
    |true=>
     rw[A,au]at e
     rw[aM]at A
     have Z:=bR A.1
     have b:c=af:=by simpa using A.2
     subst Z;subst b
     split at e
     .rename_i y U
      cases e
      obtain⟨h1,h2⟩:=jf U
      injection h1 with h1
      subst h1
      have h2:z=I:=h2
      refine⟨rfl,rfl,λj h=>?_⟩
      cases j with
      |zero=>rw[tX,J,<-h2];rfl
      |succ j=>cases h
     .cases e
   .cases e
 |.cell w t,x,z,n,m,e=>by
  have e:(bif w then(match aB ch n with
   |some (.cell (.sy u y))=>(match Ty.cs u t y with|some y=>ab (y,n+1)|none=>ae)
   |_=>ae)else ab (x,n+1):Option (t.den×Nat))=ab (z,m):=e
  cases w with
  |false=>cases e;exact⟨rfl,rfl,λj h=>by cases j<;>cases h⟩
  |true=>
   rw[au]at e
   split at e
   .rename_i u y J
    split at e
    .rename_i d U
     cases e
     obtain⟨h1,h2⟩:=jf U
     subst h1
     have h2:z=y:=h2
     refine⟨rfl,rfl,λj h=>?_⟩
     cases j with
     |zero=>rw[tX,J,<-h2];rfl
     |succ j=>cases h
    .cases e
   .cases e
 |.fn f a c,x,z,n,m,e=>by
  have e:(match bh.back ch a x.1 n with
   |some (y,n)=>(match bh.back ch c x.2 n with|some (z,n)=>ab ((y,z),n)|none=>ae)
   |none=>ae:Option (((bh.ty a).den×(bh.ty c).den)×Nat))=ab (z,m):=e
  split at e
  .rename_i y k h1
   split at e
   .rename_i g k2 h2
    cases e
    exact TJ (bh.xq a h1) (bh.xq c h2)
   .cases e
  .cases e
theorem bh.xq{ch:CH}:∀(l:List Ap) {x z:(bh.ty l).den} {n m:Nat},bh.back ch l x n=ab (z,m)->m=n+(bh.gR l).length/\(bh.news l z).length=(bh.gR l).length/\∀j:Nat,(bh.gR l)[j]? =ab ag->aB ch (n+j)=aB (bh.news l z) j
 |[],x,z,n,m,e=>by cases e;exact⟨rfl,rfl,λj h=>by cases h⟩
 |p::l,x,z,n,m,e=>by
  have e:(match Ap.back ch p x.1 n with
   |some (y,n)=>(match bh.back ch l x.2 n with|some (z,n)=>ab ((y,z),n)|none=>ae)
   |none=>ae:Option ((p.ty.den×(bh.ty l).den)×Nat))=ab (z,m):=e
  split at e
  .rename_i y k h1
   split at e
   .rename_i A k2 h2
    cases e
    exact TJ (Ap.xq p h1) (bh.xq l h2)
   .cases e
  .cases e
end
theorem mW.of{C:CE}(I:ja C){g:Nat}{s:kq}(n:Nat)(hf:∀x y,s.f x=ab y->afY C n g s.ps s.r x=ab y):mW C.E g s:=λx y e M h d J U=>by
 obtain⟨v,h',cv,a9,M',i,q2,Z,q4,A⟩:=yu (A1 I n) J U (hf x y e);obtain⟨a,h1,A⟩:=ay.1 A;obtain⟨b,h2,A⟩:=bu.1 A
 .subst A;refine⟨h',a9,M',?_,Z,q4,λj c=>?_⟩
  .unfold WO at h1;split at h1
   .obtain ⟨rfl,h3⟩:=jf h1;simp_all[VR,q2,h3]
   trivial
  .have:=(bh.xq s.ps h2).2.2 j c;grind
theorem mW.aqG{E:Env}{g:Nat}{ps:List Ap}{r:Ty}{f A:(bh.ty ps).den->Option (r.den×(bh.ty ps).den)}(h:mW E g ⟨ps,r,f⟩)(hf:∀x y,A x=ab y->f x=ab y):mW E g ⟨ps,r,A⟩:=λx y e=>h x y (hf x y e)
theorem mW.aR{E:Env}{g:Nat}{ps:List Ap}{r:Ty}{F:Nat->(bh.ty ps).den->Option (r.den×(bh.ty ps).den)}(h:∀n,mW E g ⟨ps,r,F n⟩){f:(bh.ty ps).den->Option (r.den×(bh.ty ps).den)}(hf:∀x y,f x=ab y->∃n,F n x=ab y):mW E g ⟨ps,r,f⟩:=λx y e=>by
 obtain⟨n,A⟩:=hf x y e;exact h n x y A
theorem jS.of{E:Env}{l:List (Nat×Spec)}{A:Nat->Nat->Option Hint}(h:p9 E l){g:Nat}{s:Spec}(hm:E.sm g=ae)(n:Nat)
  (hf:∀x y,s.f x=ab y->rZ (LX E l A) n g s.a s.r x=ab y):jS E g s:=λx y e=>by
 unfold fY;rw[hm];exact T5 (af5 h) (hf x y e)
def apz(E:Env)(l:List (Nat×Spec))(A:Nat->Nat->Option Hint)(n g:Nat)(a r:Ty):Spec:=⟨a,r,rZ (LX E l A) n g a r⟩
theorem jS.self{E:Env}{l:List (Nat×Spec)}{A:Nat->Nat->Option Hint}(h:p9 E l){g:Nat}(hm:E.sm g=ae)(n:Nat)(a r:Ty):jS E g (apz E l A n g a r):=
 jS.of h hm n λ_ _ e=>e
theorem jS.aqG{E:Env}{g:Nat}{a r:Ty}{f A:a.den->Option r.den}(h:jS E g ⟨a,r,f⟩)(hf:∀x y,A x=ab y->f x=ab y):jS E g ⟨a,r,A⟩:=λx y e=>h x y (hf x y e)
theorem jS.data{E:Env}{g:Nat}{s:Spec}(h:jS E g s){x:s.a.den}{y:s.r.den}(e:s.f x=ab y)(hm:E.sm g=ae):oX E (X E) g (s.a.cL x)=ab (s.r.enc y):=by
 have:=h x y e;simp_all[fY,this,hm]
end
def aL{α β:Type}(l:List α) i(f:α->Option β):=bif aj 0 i then l[i.toNat]?.bind f else ae
def cO{α β:Type}(l:List α) i(f:α->Option β):=bif bif aj 0 i then ao i (aC l.length)else af then l[i.toNat]?.bind f else ae
def w(n:Int):=wr .i64 n
def wu(n:Int):=wr .u64 n
def aW{β:Type} c(r:Option β):=bif c then r else ae
def apO{α β:Type}(l m:List α) s(k:List α->Option β):=bif bW (l.length+m.length) s then k (cK l m)else ae
def jV{β:Type} y(r:Option β):=bif ai y 0 then ae else r
def aI c(m:Option Bool):=bif c then m else ab af
def bl c(m:Option Bool):=bif c then ab ag else m
def aP{σ ρ:Type}(s:σ):Option (σ⊕ρ):=ab (.inl s)
def aH{σ ρ:Type}(r:ρ):Option (σ⊕ρ):=ab (.inr r)
section
variable [Gh]
structure Kn(E:Env) where
 g:Nat
 s:Spec
 ok:jS E g s
def kT{E:Env}(l:List (Kn E)):List (Nat×Spec):=a8 [] (λk _ ih=>(k.g,k.s)::ih) l
theorem W7{E:Env}:∀l:List (Kn E),p9 E (kT l)
 |[]=>trivial
 |k::l=>⟨k.ok,W7 l⟩
def hF(l:List (Nat×Nat×Hint)):Nat->Nat->Option Hint:=a8 (λ_ _=>ae) (λp _ ih f k=>bif ak p.1 f&&ak p.2.1 k then ab p.2.2 else ih f k) l
def uF(l:List (Nat×Nat)):Nat->Nat->Bool:=a8 (λ_ _=>af) (λp _ ih f k=>bif ak p.1 f&&ak p.2 k then ag else ih f k) l
def hI(l:List Nat):Hint:=⟨a8 [] (λi _ ih=>(i,.val (.int .i64))::ih) l,[],[]⟩
def kn{E:Env} A I J(l:List (Kn E)) g a r(f:a.den->Option r.den)(hm:E.sm g=ae)(h:∀x,rZ (uy E (kT l) [] (hF A) (hF I) (uF J)) 200 g a r x=f x):Kn E:=
 ⟨g,⟨a,r,f⟩,jS.ofC (C:=uy E (kT l) [] (hF A) (hF I) (uF J)) (af4 (W7 l) trivial) hm 200 λx y e=>(h x).trans e⟩
end
end Go.As
end
