/- A part of the proof. -/
import Derived.Test.YtohdkalmpfmcmaaGreatDoorS1
set_option linter.all false
open Bool renaming and_eq_true->aM,false->af,not_eq_true->ji,or_eq_false_iff->jD,or_eq_true->kc,true->ag
open Int renaming ofNat->aE
open List renaming append_assoc->mj,append_nil->np,ext_getElem?->ahS,filterMap_append->BO,getElem?_append_left->gP,getElem?_append_right->jE,getElem?_eq_getElem->gD,getElem?_eq_none->jF,getElem?_eq_some_iff->e7,getElem?_map->pb,getElem?_of_mem->Ge,getElem?_set->vt,getElem?_take_of_lt->ahV,length_append->dH,length_cons->fH,length_map->gg,length_set->fQ,length_take->gi,map_append->ml,map_cons->mo,map_map->Gf,map_replicate->yC,map_take->Gg,mem_append->cD,mem_cons->du,mem_cons_of_mem->ff,mem_cons_self->eh,mem_map->kl,mem_of_getElem?->jG,mem_singleton->gT,nil_append->Gi,nodup_append->ah0,nodup_cons->ah1,rec->bn,replicate->bP
open Nat renaming add_zero->qi,beq->al,beq_refl->gj,ble->bu,ble_eq->ah6,ble_eq_true_of_le->km,blt->cQ,eq_of_beq_eq_true->bU,le_add_right->Vx,le_of_ble_eq_true->jl,le_of_lt->dj,le_refl->aL,le_trans->b8,lt_irrefl->gE,lt_of_lt_of_le->fY,not_lt->Vy,rec->hG,zero_add->db,zero_le->bH
open Option renaming bind_eq_some_iff->ay,bind_some->ah,map_eq_some_iff->cE,none->ae,rec->eN,some->ab
open Option.some renaming inj->hH
open Prod renaming fst->fg,snd->gU
open Prod.mk renaming inj->VC
open Sum renaming inl->bb,inr->cF
noncomputable section
namespace Go.As
section
variable [Gh]
theorem ku{f:Nat->Bool}:∀{l:List Nat},eT f l=ag->∀b∈l,f b=ag
 |[],_,b,A=>by cases A
 |a::l,e,b,A=>by
  have e:(bif f a then eT f l else af)=ag:=e;cases I:f a with
  |false=>grind
  |true=>
   rw[I]at e;rcases du.1 A with rfl|A
   .omega
   exact ku e b A
theorem mH:∀{l:List Nat} {b:Nat},bg l b=ag↔b∈l
 |[],b=>by simp[bg]
 |a::l,b=>by
  show(bif al a b then ag else bg l b)=ag↔_;cases A:al a b with
  |true=>
   simp_all
  |false=>
   rw[au,mH,du];constructor
   .exact .inr
   rintro(rfl|h)
   all_goals simp_all
theorem Au:∀{l:List Nat},i9 l=ag->l.Nodup
 |[],_=>List.nodup_nil
 |a::l,e=>by
  have e:(bif bg l a then af else i9 l)=ag:=e;cases A:bg l a with
  |true=>grind
  |false=>
   rw[A]at e;rw[ah1];exact⟨λq=>(by rw[mH.2 q]at A;cases A),Au e⟩
theorem pG{α:Type}(l:List (Nat×α)):bN l=l.map fg:=by
 induction l with
 |nil=>rfl
 |cons p l ih=>show p.1::bN l=_;simp[ih]
def Mu.nX(M:Mu)(S:List (Nat×Nat)):Mu:=⟨λj=>(S[j]?).bind λq=>M.b q.1,λj n=>if n=0 then(S[j]?).bind λq=>M.o q.1 q.2 else ae⟩
def mw(ch:CH)(q:Nat×Nat)(y:Option CB):Prop:=
 (∃t x,y=ab (.cell (.sy t x))/\aD ch q.1=ab (.cell (.sy t x)))∨(∃c t l,y=ab (.arr 0 c t l)/\aD ch q.1=ab (.arr q.2 c t l))
theorem mw.some{ch:CH}{q:Nat×Nat}{y:Option CB}(h:mw ch q y):∃z,y=ab z:=by
 rcases h with⟨t,x,h,_⟩|⟨c,t,l,h,_⟩<;>exact⟨_,h⟩
theorem mw.ne{ch:CH}{q:Nat×Nat}{y:Option CB}(h:mw ch q y):aD ch q.1≠ae:=by
 rcases h with⟨t,x,_,h⟩|⟨c,t,l,_,h⟩<;>(simp[h])
theorem al9{S:List (Nat×Nat)}(U:(S.map fg).Nodup){i j:Nat}{p q:Nat×Nat}(hi:S[i]? =ab p)(I:S[j]? =ab q)(h:p.1=q.1):i=j:=by
 have e:(S.filterMap λs=>ab s.1)=S.map fg:=by simp
 exact A (f:=λs=>ab s.1) (o:=q.1) (by simp[e,U]) hi I (by rw[h]) rfl
where
 A {α:Type} {f:α->Option Nat}:∀{l:List α} {i j:Nat} {x y:α} {o:Nat},(l.filterMap f).Nodup->l[i]? =ab x->l[j]? =ab y->f x=ab o->f y=ab o->i=j
 |[],i,j,x,y,o,_,h,_,_,_=>by trivial
 |a::l,i,j,x,y,o,U,hi,I,Z,b=>by
  have J:(l.filterMap f).Nodup:=by
   grind
  have c:∀(k:Nat) z,l[k]? =ab z->f z=ab o->f a=ab o->False:=λk z m d g=>by
   grind
  cases i with
  |zero=>
   grind
  |succ i=>
   cases j
   .grind
   rename_i j;rw[A J hi I Z b]
theorem amI{ch:CH}{j:Nat}{x:CB}(e:aD ch j=ab x):ch[j]? =ab (ab x):=by
 unfold aD at e;rw[cu]at e;grind
theorem Zl{ch:CH}{j:Nat}{y:Option CB}(e:ch[j]? =ab y):aD ch j=y:=by
 unfold aD;rw[cu,e];cases y<;>rfl
theorem HS.nX{M:Mu}{ch:CH}{h:Heap}(a:HS M ch h){S:List (Nat×Nat)}{d:CH}(D:d.length=S.length)(A:∀(j:Nat) (q:Nat×Nat),S[j]? =ab q->∃y,d[j]? =ab y/\mw ch q y)(g:(S.map fg).Nodup):HS (M.nX S) d h:=by
 have i:∀j x,aD d j=ab x->∃q,S[j]? =ab q/\mw ch q (ab x):=λj x e=>by
  have e:=amI e;have F:=(e7.1 e).1;obtain⟨y,h1,h2⟩:=A j (S[j]'(by omega)) (gD (by omega))
  grind
 have p:∀(j:Nat) (q:Nat×Nat),S[j]? =ab q->(M.nX S).b j=M.b q.1:=λj q e=>by show(S[j]?).bind _=_;simp[e]
 have G:∀(j:Nat) (q:Nat×Nat),S[j]? =ab q->(M.nX S).o j 0=M.o q.1 q.2:=λj q e=>by show(if(0:Nat)=0 then(S[j]?).bind _ else ae)=_;grind
 have I:∀j c,(M.nX S).b j=ab c->∃q,S[j]? =ab q/\M.b q.1=ab c:=λj c e=>ay.1 e
 refine⟨λb cv e=>?_,λb n cl t l e=>?_,λb b' c H K s w=>?_,λb n cl t l e m hm=>?_,λb c e=>?_,λb n x e=>?_,λb x e=>?_⟩
 .obtain ⟨q,J,hf⟩:=i b _ e;rcases hf with⟨t,x,h1,h2⟩|⟨c,t,l,h1,_⟩<;>try grind
  cases h1;obtain⟨c,v,U,f,z⟩:=a.cell _ _ h2;exact⟨c,v,(p b q J).trans U,f,z⟩
 .obtain ⟨q,J,hf⟩:=i b _ e;rcases hf with⟨t,x,h1,h2⟩|⟨c,N,O,h1,h2⟩<;>try trivial
  cases h1;obtain⟨u,U,f⟩:=a.arr _ _ _ _ _ h2;grind
 .obtain ⟨q,J,U⟩:=I b c s;obtain⟨B,Z,f⟩:=I b' c w;obtain⟨y,_,f1⟩:=A b q J;obtain⟨P,_,f2⟩:=A b' B Z;exact al9 g J Z (a.inj _ _ _ f1.ne f2.ne U f)
 .show (if m=0 then _ else ae)=ae;grind
 .obtain ⟨q,J,U⟩:=I b c e;exact⟨by grind,(a.len _ _ U).2⟩
 .have e:(if n=0 then(S[b]?).bind λq=>M.o q.1 q.2 else ae)=ab x:=e
  grind
 obtain⟨q,J,hf⟩:=i b _ e;rcases hf with⟨t,x,h1,h2⟩|⟨c,t,l,h1,_⟩<;>(cases h1;trivial)
def yK(M:Mu)(ch:CH)(I:List (Nat×Nat))(n:Nat)(src:List (Nat×Nat))(A:CH)(ws:List Bool)(m:Nat):Prop:=
 m=n+src.length/\A.length=src.length/\ws.length=src.length/\∀(j:Nat) (q:Nat×Nat),src[j]? =ab q->∃y,A[j]? =ab y/\mw ch q y
theorem yK.app{M:Mu}{ch:CH}{A:List (Nat×Nat)}{n m k:Nat}{I J:List (Nat×Nat)}{U Z:CH}{c d:List Bool}(a:yK M ch A n I U c m)(b:yK M ch A m J Z d k):yK M ch A n (I++J) (U++Z) (c++d) k:=by
 obtain⟨o,f,g,p⟩:=a;obtain⟨s,i,l,t⟩:=b;refine⟨by grind,by simp[f,i],by simp[g,l],λj q e=>?_⟩
 grind
theorem af7{I:List (Nat×Nat)}{n m:Nat}{A J:List (Nat×Nat)}(hm:m=n+A.length)(h:∀(j:Nat) (q:Nat×Nat),(A++J)[j]? =ab q->I[n+j]? =ab q):
  (∀(j:Nat) (q:Nat×Nat),A[j]? =ab q->I[n+j]? =ab q)/\(∀(j:Nat) (q:Nat×Nat),J[j]? =ab q->I[m+j]? =ab q):=
 ⟨λj q e=>h j q (by grind),λj q e=>by
  have:=h (A.length+j) q (by grind)
  grind⟩
mutual
theorem Ap.qM{M:Mu}{ch:CH}{S0:List (Nat×Nat)}:∀(p:Ap) {v:CV} {u:V} {x:p.ty.den} (n:Nat),Ap.get ch p v=ab x->VR M v u->(∀(j:Nat) (q:Nat×Nat),(Ap.src p v)[j]? =ab q->S0[n+j]? =ab q)->
  VR (M.nX S0) (Ap.mk p x n).1 u/\yK M ch S0 n (Ap.src p v) (Ap.news p x) (Ap.ig p) (Ap.mk p x n).2
 |.val t,v,u,x,n,e,A,_=>by
  cases v with
  |sy Z y=>
   have e:Ty.cs Z t y=ab x:=e
   obtain⟨rfl,rfl⟩:=kv e
   exact⟨A,rfl,rfl,rfl,λj q e=>by cases e⟩
  |_=>cases e
 |.buf w t,v,u,x,n,e,A,I=>by
  cases v with
  |own b m=>
   have e:(match aD ch b with
    |some (.arr D c u l)=>bif al m D&&(bif w then not c else c)then Ty.cs (.an u) (.an t) l else ae
    |_=>ae:Option (List t.den))=ab x:=e
   split at e<;>try(cases e;done)
   rename_i D c Z l F
   cases d:al m D&&(bif w then not c else c)with
   |false=>rw[d,au]at e;cases e
   |true=>
    rw[d,ao]at e
    rw[aM]at d
    have hm:=bU d.1
    subst hm
    obtain⟨he,J⟩:=kv e
    injection he with he
    subst he
    have J:x=l:=J
    simp only[VR]at A
    obtain⟨s,h1,h2⟩:=A
    have U:=I 0 (b,m) rfl
    refine⟨?_,rfl,rfl,rfl,λj q g=>?_⟩
    .show∃s,(M.nX S0).o n 0=ab (u,s)/\_
     refine⟨s,?_,h2⟩
     show(if(0:Nat)=0 then(S0[n]?).bind _ else ae)=_
     rw[aK rfl,show S0[n]? =ab (b,m)from U]
     exact h1
    cases j with
    |zero=>
     cases g
     have hw:(not w)=c:=by
      have:=d.2
      revert this
      cases w<;>cases c<;>intro this<;>first|rfl|cases this
     refine⟨_,rfl,.inr ⟨c,Z,x,?_,by rw[J];exact F⟩⟩
     show ab (CB.arr 0 (not w) Z x)=_
     rw[hw]
    |succ j=>cases g
  |_=>cases e
 |.cell w t,v,u,x,n,e,A,I=>by
  cases v with
  |ptr b P=>
   cases P with
   |nil=>
    have e:(match aD ch b with
     |some (.cell (.sy u x))=>Ty.cs u t x
     |_=>ae:Option t.den)=ab x:=e
    split at e<;>try(cases e;done)
    rename_i Z y F
    obtain⟨he,J⟩:=kv e
    subst he
    have J:x=y:=J
    simp only[VR]at A
    obtain⟨c,h1,rfl⟩:=A
    have U:=I 0 (b,0) rfl
    refine⟨?_,rfl,rfl,rfl,λj q g=>?_⟩
    .show∃i,(M.nX S0).b n=ab i/\_
     refine⟨c,?_,rfl⟩
     show(S0[n]?).bind _=_
     rw[show S0[n]? =ab (b,0)from U]
     exact h1
    cases j
    .cases g;exact⟨_,rfl,.inl ⟨Z,x,rfl,by rw[J];exact F⟩⟩
    rename_i j;cases g
   |cons _ _=>cases e
  |_=>cases e
 |.fn f a c,v,u,x,n,e,A,I=>by
  cases v with
  |fn N B i=>
   have e:(bif al f N then(match a9.get ch a B,a9.get ch c i with
    |some x,ab y=>ab (x,y)
    |_,_=>ae)else ae)=ab x:=e
   cases hf:al f N
   .rw [hf,au]at e;cases e
   rw[hf,ao]at e
   have G:=bU hf
   have e:(match a9.get ch a B,a9.get ch c i with
    |some x,ab y=>ab (x,y)
    |_,_=>ae:Option ((a9.ty a).den×(a9.ty c).den))=ab x:=e
   split at e<;>try(cases e;done)
   rename_i y z Q R
   cases e
   simp only[VR]at A
   obtain⟨S,cs,rfl,h1,h2⟩:=A
   subst G
   have I:∀(j:Nat) (q:Nat×Nat),(a9.src a B++a9.src c i)[j]? =ab q->S0[n+j]? =ab q:=I
   have H:=λj q (e:(a9.src a B)[j]? =ab q)=>I j q (by rw[gP (e7.1 e).1];exact e)
   obtain⟨T,O⟩:=a9.qM a n Q h1 H
   obtain⟨_,K⟩:=af7 O.1 I
   obtain⟨W,X⟩:=a9.qM c _ R h2 K
   exact⟨⟨S,cs,rfl,T,W⟩,O.app X⟩
  |_=>cases e
theorem a9.qM{M:Mu}{ch:CH}{S0:List (Nat×Nat)}:∀(l:List Ap) {vs:List CV} {A:List V} {x:(a9.ty l).den} (n:Nat),a9.get ch l vs=ab x->aO M vs A->(∀(j:Nat) (q:Nat×Nat),(a9.src l vs)[j]? =ab q->S0[n+j]? =ab q)->
  aO (M.nX S0) (a9.mk l x n).1 A/\yK M ch S0 n (a9.src l vs) (a9.news l x) (a9.ig l) (a9.mk l x n).2
 |[],vs,A,x,n,e,I,_=>by
  cases vs
  .exact ⟨I,rfl,rfl,rfl,λj q e=>by cases e⟩
  cases e
 |p::l,vs,A,x,n,e,I,J=>by
  cases vs
  .cases e
  rename_i v vs;have e:(match Ap.get ch p v,a9.get ch l vs with
   |some x,ab y=>ab (x,y)
   |_,_=>ae)=ab x:=e
  split at e<;>try(cases e;done)
  rename_i y z b c
  cases e
  simp only[aO]at I
  obtain⟨u,r,rfl,h1,h2⟩:=I
  have J:∀(j:Nat) (q:Nat×Nat),(Ap.src p v++a9.src l vs)[j]? =ab q->S0[n+j]? =ab q:=J
  have U:=λj q (e:(Ap.src p v)[j]? =ab q)=>J j q (by rw[gP (e7.1 e).1];exact e)
  obtain⟨d,a⟩:=Ap.qM p n b h1 U
  obtain⟨_,Z⟩:=af7 a.1 J
  obtain⟨f,g⟩:=a9.qM l _ c h2 Z
  exact⟨⟨u,r,rfl,d,f⟩,a.app g⟩
end
def M6(a b:Option CB):Prop:=(∃t x A,a=ab (.cell (.sy t x))/\b=ab (.cell (.sy t A)))∨(∃c t l I,a=ab (.arr 0 c t l)/\b=ab (.arr 0 c t I))
def tI(l A:CH):Prop:=l.length=A.length/\∀(j:Nat) (a b:Option CB),l[j]? =ab a->A[j]? =ab b->M6 a b
theorem tI.app{a J b b':CH}(h:tI a J)(k:tI b b'):tI (a++b) (J++b'):=by
 refine⟨by simp[h.1,k.1],λj x y A I=>?_⟩
 by_cases U:j< a.length
 .rw [gP U]at A;rw[gP (by rw[<-h.1];omega)]at I
  exact h.2 j x y A I
 rw[jE (by omega)]at A
 rw[jE (by rw[<-h.1];omega),<-h.1]at I
 exact k.2 _ x y A I
mutual
theorem Ap.two:∀(p:Ap) (x y:p.ty.den),tI (Ap.news p x) (Ap.news p y)
 |.val t,x,y=>⟨rfl,λj a b e=>by cases e⟩
 |.buf w t,x,y=>⟨rfl,λj a b A I=>by
  cases j
  .cases A;cases I;exact .inr ⟨_,_,_,_,rfl,rfl⟩
  cases A⟩
 |.cell w t,x,y=>⟨rfl,λj a b A I=>by
  cases j
  .cases A;cases I;exact .inl ⟨_,_,_,rfl,rfl⟩
  cases A⟩
 |.fn f a c,x,y=>(a9.two a x.1 y.1).app (a9.two c x.2 y.2)
theorem a9.two:∀(l:List Ap) (x y:(a9.ty l).den),tI (a9.news l x) (a9.news l y)
 |[],x,y=>⟨rfl,λj a b e=>by cases e⟩
 |p::l,x,y=>(Ap.two p x.1 y.1).app (a9.two l x.2 y.2)
end
theorem adQ{ch:CH}{q:Nat×Nat}{y:Option CB}(A:q.1< ch.length)(i:Nat)(hi:i≠q.1):aD (qQ ch q y) i=aD ch i:=by
 unfold qQ;split;all_goals simp[gp,A,ax,hi]
theorem atz(ch:CH)(q:Nat×Nat)(y:Option CB):(qQ ch q y).length=ch.length:=by
 unfold qQ;grind[e9]
theorem aty{ch:CH}{q:Nat×Nat}{y a:Option CB}(A:q.1< ch.length)(h2:M6 a y):mw (qQ ch q y) q y:=by
 rcases h2 with⟨t,x,I,_,rfl⟩|⟨c,t,l,J,_,rfl⟩
 .exact .inl ⟨t,I,rfl,by show aD (cW ch q.1 _) q.1=_;rw[gp _ _ _ _ A,aK rfl]⟩
 exact .inr ⟨c,t,J,rfl,by show aD (cW ch q.1 _) q.1=_;rw[gp _ _ _ _ A,aK rfl]⟩
theorem mw.congr{ch ba:CH}{q:Nat×Nat}{y:Option CB}(h:mw ch q y)(e:aD ba q.1=aD ch q.1):mw ba q y:=by
 rcases h with⟨t,x,h1,h2⟩|⟨c,t,l,h1,h2⟩
 .exact .inl ⟨t,x,h1,e.trans h2⟩
 exact .inr ⟨c,t,l,h1,e.trans h2⟩
theorem ad0:∀(S:List (Nat×Nat)) (ws:List Bool) (Z A:CH) (ch:CH),tI Z A->Z.length=S.length->ws.length=S.length->(S.map fg).Nodup->(∀q∈S,q.1< ch.length)->
  (qT S ws A ch).length=ch.length/\(∀i,i ∉ gO S ws->aD (qT S ws A ch) i=aD ch i)/\
  (∀(j:Nat) (q:Nat×Nat),S[j]? =ab q->ws[j]? =ab ag->∃y,A[j]? =ab y/\mw (qT S ws A ch) q y)/\
  (∀(j:Nat) (q:Nat×Nat),S[j]? =ab q->ws[j]? =ab af->aD (qT S ws A ch) q.1=aD ch q.1)
 |[],ws,Z,A,ch,_,_,_,_,_=>by
  have:qT [] ws A ch=ch:=by rfl
  grind
 |q::S,[],_,_,_,_,_,h,_,_|q::S,w::ws,[],_,_,_,h,_,_,_=>by cases h
 |q::S,w::ws,a::Z,[],_,h,_,_,_,_=>by cases h.1
 |q::S,w::ws,a::Z,y::A,ch,h2,o,hw,c,d=>by
  have I:=ah1.1 c;have f:tI Z A:=⟨by simpa using h2.1,λj x z U b=>h2.2 (j+1) x z (by trivial) (by trivial)⟩
  have l:=d q (eh ..);have g:∀i,i∈gO S ws->i∈S.map fg:=by
   clear h2 o hw c d I f l;induction S generalizing ws with
   |nil=>intro i hi;trivial
   |cons p S ih=>
    intro i hi;cases ws with
    |nil=>cases hi
    |cons w ws=>
     have hi:i∈(bif w then p.1::gO S ws else gO S ws):=hi;grind
  have J:=λhm=>I.1 (g _ hm)
  show(qT S ws A (bif w then qQ ch q y else ch)).length=ch.length/\(∀i,i ∉(bif w then q.1::gO S ws else gO S ws)->aD (qT S ws A (bif w then qQ ch q y else ch)) i=aD ch i)/\_;have n:(bif w then qQ ch q y else ch).length=ch.length:=by grind[atz]
  obtain⟨s,m,t,u⟩:=ad0 S ws Z A (bif w then qQ ch q y else ch) f (by simpa using o) (by simpa using hw) I.2 (λp hp=>by grind)
  refine⟨s.trans n,λi hi=>?_,λj p U b=>?_,λj p U b=>?_⟩
  .cases w with
   |true=>
    rw[m i λhm=>hi (ff _ hm)]
    exact adQ l i λe=>hi (e▸eh ..)
   |false=>exact m i hi
  .cases j with
   |zero=>
    simp at U b;subst U;subst b;exact⟨y,rfl,(aty l (h2.2 0 a y rfl rfl)).congr (m _ J)⟩
   |succ j=>exact t j p (by trivial) (by trivial)
  cases j with
  |zero=>
   simp at U b;subst U;subst b;exact m _ J
  |succ j=>
   have U:S[j]? =ab p:=by trivial
   refine(u j p U (by trivial)).trans ?_
   cases w<;>first|exact adQ l _ λe=>I.1 (e▸kl.2 ⟨p,jG U,rfl⟩)|rfl
theorem agI:∀{S:List (Nat×Nat)} {ws:List Bool} {i:Nat},i∈gO S ws->∃(j:Nat) (q:Nat×Nat),S[j]? =ab q/\ws[j]? =ab ag/\q.1=i
 |[],ws,i,h=>by trivial
 |q::S,[],i,h=>by cases h
 |q::S,w::ws,i,h=>by
  have A:i∈gO S ws->∃(j:Nat) (p:Nat×Nat),(q::S)[j]? =ab p/\(w::ws)[j]? =ab ag/\p.1=i:=λh=>by
   obtain⟨j,p,J,U,I⟩:=agI h;exact⟨j+1,p,by trivial,by trivial,I⟩
  cases w with
  |true=>
   rcases du.1 h with rfl|h
   .exact ⟨0,q,rfl,rfl,rfl⟩
   exact A h
  |false=>exact A h
def kX(E:Env)(g:Nat)(s:kp):Prop:=∀x y,s.f x=ab y->∀(M:Mu) (h:Heap) (A:List V),HS M (a9.news s.ps x) h->aO M (a9.mk s.ps x 0).1 A->
 ∃h' ba M',gK E (X E) g A h []=ab (.im (s.r.enc y.1),h',[])/\HS M' ba h'/\Fr (UE s.ps) M (a9.news s.ps x) h M' ba h'/\
  ∀j,(a9.ig s.ps)[j]? =ab ag->aD ba j=aD (a9.news s.ps y.2) j
def CSm{ρ:Type}(wb:Nat->Bool)(M:Mu)(ch:CH)(h:Heap)(m:RC)(k:KC ρ)(r:ρ):Prop:=
 ∃v h' cv ba M',m=ab (v,h',[])/\VR M' cv v/\HS M' ba h'/\Fr wb M ch h M' ba h'/\k cv ba=ab r
theorem akg{ρ:Type}{wb:Nat->Bool}{M:Mu}{ch:CH}{h:Heap}{k:KC ρ}{r:ρ}{E:Env}{g:Nat}{s:kp}(hm:kX E g s)(Z:HS M ch h){args:List CV}{us:List V}(ha:aO M args us)
  (e:NW s args wb ch k=ab r):CSm wb M ch h (gK E (X E) g us h []) k r:=by
 unfold NW at e;split at e
 .rename_i x hx;cases Q:i9 (bN (a9.src s.ps args))&&eT wb (gO (a9.src s.ps args) (a9.ig s.ps))with
  |false=>grind
  |true=>
   rw[Q,ao]at e;rw[aM]at Q;have K:=Au Q.1;rw[pG]at K;obtain⟨y,hy,e⟩:=ay.1 e;generalize hSS:a9.src s.ps args=S at*;obtain⟨hmk,m1,m2,m3,R⟩:=a9.qM (S0:=S) s.ps 0 hx ha (λj q e=>by grind)
   rw[hSS]at m1 m2 m3 R;obtain⟨h',ba,M',q1,q2,G,q4⟩:=hm x y hy (M.nX S) h us (Z.nX m2 R K) hmk;have W:∀q∈S,q.1< ch.length:=λq T=>by
    obtain⟨j,I⟩:=Ge T;obtain⟨z,_,hf⟩:=R j q I;rcases hf with⟨_,_,_,h2⟩|⟨_,_,_,_,h2⟩<;>exact fy h2
   obtain⟨p1,p2,p3,p4⟩:=ad0 S (a9.ig s.ps) (a9.news s.ps x) (a9.news s.ps y.2) ch (a9.two s.ps x y.2) m2 m3 K W;generalize hcp:qT S (a9.ig s.ps) (a9.news s.ps y.2) ch=cp at*;have hA:∀(j:Nat) (q:Nat×Nat),S[j]? =ab q->∃z a,aD ba j=z/\mw cp q z/\mw ch q a/\M6 a z:=λj q I=>by
    have Iy:=(e7.1 I).1;obtain⟨a,D,f⟩:=R j q I;have hw:(a9.ig s.ps)[j]? =ab ((a9.ig s.ps)[j]'(by omega)):=gD (by omega)
    cases i:(a9.ig s.ps)[j]'(by omega)with
    |true=>
     rw[i]at hw;obtain⟨z,z1,z2⟩:=p3 j q I hw;exact⟨z,a,(q4 j hw).trans (Zl z1),z2,f,(a9.two s.ps x y.2).2 j a z D z1⟩
    |false=>
     rw[i]at hw;refine⟨a,a,(G.keep j (by omega) ?_).trans (Zl D),f.congr (p4 j q I hw),f,?_⟩
     .simp[UE,cu,hw]
     rcases f with⟨t,x,rfl,_⟩|⟨c,t,l,rfl,_⟩
     .exact .inl ⟨t,x,x,rfl,rfl⟩
     exact .inr ⟨c,t,l,l,rfl,rfl⟩
   have m:∀b,b∈S.map fg->∃(j:Nat) (q:Nat×Nat),S[j]? =ab q/\q.1=b:=λb N=>by
    obtain⟨q,T,rfl⟩:=kl.1 N;obtain⟨j,I⟩:=Ge T;grind
   have hB:∀b,b ∉ S.map fg->aD cp b=aD ch b:=λb N=>p2 b λhm=>by
    obtain⟨j,q,D,_,J⟩:=agI hm;grind
   have p:∀(j:Nat) (q:Nat×Nat),S[j]? =ab q->(M.nX S).b j=M.b q.1/\(M.nX S).o j 0=M.o q.1 q.2:=λj q I=>by
    refine⟨?_,?_⟩
    .show (S[j]?).bind _=_;simp[I]
    show(if(0:Nat)=0 then(S[j]?).bind _ else ae)=_;grind
   have B:∀b c,aD ch b≠ae->b ∉ S.map fg->M.b b=ab c->ar h' c=ar h c:=λb c N hbn Y=>G.out c (Z.len _ _ Y).2 λj ej=>by
    obtain⟨q,T,O⟩:=ay.1 ej;obtain⟨z,_,hf⟩:=R j q T;have:=Z.inj _ _ _ N hf.ne Y O;exact hbn (kl.2 ⟨q,jG T,this.symm⟩)
   have ln:∀b,aD cp b≠ae->aD ch b≠ae:=λb N=>by
    by_cases hm:b∈S.map fg
    .obtain ⟨j,q,I,rfl⟩:=m b hm;obtain⟨z,_,hf⟩:=R j q I;exact hf.ne
    rw[<-hB b hm];exact N
   refine⟨_,h',.sy s.r y.1,cp,M,q1,rfl,⟨λb cv A=>?_,λb n cl t l A=>?_,λb b' c e1 e2=>Z.inj b b' c (ln b e1) (ln b' e2),λb n cl t l A=>?_,λb c A=>?_,λb n z A=>?_,λb z A=>?_⟩,⟨.refl M,by rw[p1];exact aL _,G.lh,λb N i=>p2 b λhm=>?_,lA,λc Q hn=>G.out c Q λj ej=>?_⟩,e⟩
   .by_cases hm:b∈S.map fg
    .obtain ⟨j,q,I,rfl⟩:=m b hm;obtain⟨z,a,D,f,J,U⟩:=hA j q I;rcases f with⟨t,w,rfl,d⟩|⟨c,t,l,rfl,d⟩
     .rw [d]at A;cases A;obtain⟨c,v,H,P,v3⟩:=q2.cell j _ D;refine⟨c,v,?_,P,v3⟩;rcases U with⟨t',x0,x1,rfl,_⟩|⟨_,_,_,_,_,U⟩
      .rcases J with⟨t2,x2,e2,J⟩|⟨_,_,_,J,_⟩
       .obtain ⟨c0,_,v4,_⟩:=Z.cell _ _ J;have:=G.le.b j c0 ((p j q I).1.trans v4);rw[H]at this;cases this;exact v4
       cases J
      cases U
     rw[d]at A;cases A
    rw[hB b hm]at A;obtain⟨c,v,H,P,v3⟩:=Z.cell b cv A;exact⟨c,v,H,(B b c (by rw[A];simp) hm H).trans P,v3⟩
   .by_cases hm:b∈S.map fg
    .obtain ⟨j,q,I,rfl⟩:=m b hm;obtain⟨z,a,D,f,J,U⟩:=hA j q I;rcases f with⟨t',w,rfl,d⟩|⟨c,t',l',rfl,d⟩<;>try(rw[d]at A;cases A;done)
     rw[d]at A;cases A;rcases U with⟨_,_,_,_,U⟩|⟨c2,t2,l2,l3,rfl,U⟩
     .cases U
     cases U;rcases J with⟨_,_,J,_⟩|⟨c3,t3,l4,J,a5⟩
     .cases J
     cases J;obtain⟨u0,o1,o2⟩:=Z.arr _ _ _ _ _ a5;obtain⟨u,H,P⟩:=q2.arr j _ _ _ _ D;have:=G.le.o j 0 _ ((p j q I).2.trans o1);rw[H]at this;cases this;refine⟨u0,o1,P.imp (λ⟨b1,F,b3⟩=>⟨b1,F,?_⟩) λ⟨c,g,ro,b1,F,b3⟩=>⟨c,g,ro,?_,F,b3⟩⟩
     .cases qI:M.b q.1 with
      |none=>rfl
      |some c0=>
       have:=G.le.b j c0 ((p j q I).1.trans qI);rw[b3]at this;cases this
     rcases o2 with⟨o2,_⟩|⟨c0,g0,ro0,o2,o3,_⟩
     .rw [o2]at F;cases F
     rw[o3]at F;rw[<-(V.own.inj F).1];exact o2
    rw[hB b hm]at A;obtain⟨u,H,P⟩:=Z.arr b n cl t l A;exact⟨u,H,P.imp id λ⟨c,g,ro,b1,F,b3,b4⟩=>⟨c,g,ro,b1,F,(B b c (by rw[A];simp) hm b1).trans b3,b4⟩⟩
   .by_cases hm:b∈S.map fg
    .obtain ⟨j,q,I,rfl⟩:=m b hm;obtain⟨z,a,D,f,J,U⟩:=hA j q I;rcases f with⟨t',w,rfl,d⟩|⟨c,t',l',rfl,d⟩<;>try grind
     rw[d]at A;cases A;rcases U with⟨_,_,_,_,U⟩|⟨c2,t2,l2,l3,rfl,U⟩
     .cases U
     cases U;rcases J with⟨_,_,J,_⟩|⟨c3,t3,l4,J,a5⟩
     .cases J
     exact Z.new _ _ _ _ _ a5
    rw[hB b hm]at A;exact Z.new b n cl t l A
   .exact ⟨by rw[p1];exact(Z.len b c A).1,fY (Z.len b c A).2 G.lh⟩
   .rw [p1];exact Z.gw b n z A
   .by_cases hm:b∈S.map fg
    .obtain ⟨j,q,I,rfl⟩:=m b hm;obtain⟨z',a,D,f,J,U⟩:=hA j q I;rcases f with⟨t,w,rfl,d⟩|⟨c,t,l,rfl,d⟩<;>(rw[d]at A;cases A;trivial)
    rw[hB b hm]at A;exact(Z.xr b z A).step (.refl M) λc q=>B b c (by rw[A];simp) hm q
   .rw [ku Q.2 b hm]at i;cases i
   obtain⟨q,_,O⟩:=ay.1 ej;exact hn _ O
 trivial
end
section
variable [Gh]
variable {ρ:Type} {wb:Nat->Bool} {M:Mu} {ch:CH} {h:Heap} {k:KC ρ} {r:ρ} {E:Env}
def Qz(x:CB):Bool:=match x with|.cell _|.arr _ _ _ _=>af|_=>ag
theorem HS.ack(A:HS M ch h){x:CB}(a:Qz x=ag){h':Heap}{c:Nat}(K:h.length<=c)(D:c< h'.length)(N:h.length<=h'.length)(f:∀y,y< h.length->ar h' y=ar h y)
  (O:XR ⟨λi=>if i=ch.length then ab c else M.b i,M.o⟩ h' ch.length x):M.le ⟨λi=>if i=ch.length then ab c else M.b i,M.o⟩/\HS ⟨λi=>if i=ch.length then ab c else M.b i,M.o⟩ (ch++[ab x]) h':=by
 have I:M.le ⟨λi=>if i=ch.length then ab c else M.b i,M.o⟩:=⟨λi j e=>by
  show(if i=ch.length then ab c else M.b i)=ab j;rw[ax (by grind[A.rK])];exact e,λ_ _ _ e=>e⟩
 refine⟨I,⟨λb cv e=>?_,λb n cl t l e=>?_,λb b' d m p J U=>?_,λb n cl t l e=>?_,λb d e=>?_,λb n y e=>?_,λb y e=>?_⟩⟩
 .rw [de]at e;split at e
  .cases e;cases a
  .obtain ⟨j,F,h1,h2,G⟩:=A.cell b cv e;exact⟨j,F,I.b _ _ h1,(f _ (A.len _ _ h1).2).trans h2,G.mono I _ _⟩
 .rw [de]at e;split at e
  .cases e;cases a
  .rename_i s;obtain⟨u,h1,h2⟩:=A.arr b n cl t l e;exact⟨u,h1,h2.imp (λ⟨Z,v,w⟩=>⟨Z,v,(ax s).trans w⟩) λ⟨d,g,ro,Z,v,w,H⟩=>⟨d,g,ro,I.b _ _ Z,v,(f _ (A.len _ _ Z).2).trans w,H⟩⟩
 .have J:(if b=ch.length then ab c else M.b b)=ab d:=J;have U:(if b'=ch.length then ab c else M.b b')=ab d:=U;rw[de]at m p;by_cases z:b=ch.length<;>by_cases B:b'=ch.length
  .omega
  .rw [aK z]at J;rw[ax B]at U;cases J;exact absurd (A.len _ _ U).2 (by omega)
  .rw [ax z]at J;rw[aK B]at U;cases U;exact absurd (A.len _ _ J).2 (by omega)
  .rw [ax z]at J m;rw[ax B]at U p;exact A.inj b b' d m p J U
 .rw [de]at e;split at e
  .cases e;cases a
  .exact A.new b n cl t l e
 .have e:(if b=ch.length then ab c else M.b b)=ab d:=e;rw[dH];split at e
  .grind
  .have:=A.len b d e;omega
 .have:=A.gw b n y e;grind
 .rw [de]at e;split at e
  .grind
  .exact (A.xr b y e).step I λd q=>f d (A.len _ _ q).2
theorem Zk(ch:CH)(x:Option CB)(b i:Nat)(A:b< ch.length):aD (bC ch b x) i=if i=b then x else aD ch i:=by
 unfold aD;rw[cu,cu,eO];by_cases he:i=b
 .subst he;rw[aK rfl,List.getElem?_set_self A];cases x<;>rfl
 grind
theorem HS.Ky(I:HS M ch h){b c:Nat}{x:CB}(j:aD ch b=ab x)(F:Qz x=ag)(Z:Option CB)(J:∀y,Z=ab y->Qz y=ag){h':Heap}(o:M.b b=ab c)(p:h'.length=h.length)(s:∀y,y≠c->ar h' y=ar h y)(G:∀y,Z=ab y->XR M h' b y):HS M (bC ch b Z) h':=by
 have a:=fy j;have A:=λi=>Zk ch Z b i a
 have H:∀b' y,aD ch b'=ab y->b'≠b->M.b b'≠ab c:=λb' y e d q=>d (I.inj b' b c (by simp[e]) (by simp[j]) q o)
 have m:(bC ch b Z).length=ch.length:=by simp
 refine⟨λb' w e=>?_,λb' n cl t l e=>?_,λv z U B D f g=>?_,λb' n cl t l e=>?_,λb' U e=>?_,λb' n x e=>?_,λb' y e=>?_⟩
 .rw [A]at e;split at e
  .cases J _ e
  .obtain ⟨U,K,f,g,N⟩:=I.cell b' w e;grind
 .rw [A]at e;split at e
  .cases J _ e
  .obtain ⟨u,f,g⟩:=I.arr b' n cl t l e;grind
 .refine I.inj v z U (λq=>B ?_) (λq=>D ?_) f g
  all_goals grind
 .rw [A]at e;split at e
  .cases J _ e
  .exact I.new b' n cl t l e
 .rw [m,p];exact I.len b' U e
 .rw [m];exact I.gw b' n x e
 .rw [A]at e;split at e
  .grind
  .exact (I.xr b' y e).step (.refl M) λU q=>s U (by grind)
theorem ara(j:IntKind)(n m:Int):z8 (.int j n) (.int j m)=ab (aj n m):=by
 show(bif gu j j then ab (aj n m)else ae)=_;have:gu j j=ag:=by cases j<;>rfl
 simp[this]
theorem OT{j:IntKind}{u:Ty}(n:Int)(z:u.den)(x:u.den):∀(l:List (Int×u.den)),∃i,pD (.int j n) (hY j u l)=ab i/\
  ((∃e:Int×u.den,l[i]? =ab e/\lz l n z=e.2/\jV l n x=l.set i (n,x))∨(i=l.length/\lz l n z=z/\jV l n x=l++[(n,x)]))
 |[]=>⟨0,rfl,.inr ⟨rfl,rfl,rfl⟩⟩
 |e::l=>by
  obtain⟨i,h1,h2⟩:=OT n z x l;have hf:pD (.int j n) (hY j u (e::l))=(z8 (.int j n) (.int j e.1)).bind λb=>bif b then ab 0 else(pD (.int j n) (hY j u l)).map (· +1):=rfl
  have A:lz (e::l) n z=bif aj n e.1 then e.2 else lz l n z:=rfl;have I:jV (e::l) n x=bif aj n e.1 then(n,x)::l else e::jV l n x:=rfl;rw[hf,A,I,ara,h1];cases aj n e.1 with
  |true=>grind
  |false=>
   grind
theorem arN(U:HS M ch h){t:Nat}{m:Option CV}{J:Option V}(hm:m=ae->J=ae)(e:Rk E t m ch k=ab r):OS wb M ch h (Fy E h.length h t J) k r:=by
 unfold Rk at e;split at e
 .rename_i d et Z;rw[hm rfl];split at e
  .rename_i j a;replace e:=ay.1 e;obtain⟨u,f,e⟩:=e;obtain⟨_,e⟩:=aU e;have e:k (.mp (aF ch)) (ch++[ab (.mO j u [])])=ab r:=e;rw[bz]at e;have c:∀y,y< h.length->ar (aI h h.length (.mp [])) y=ar h y:=λy g=>by rw[bR _ _ _ _ (aL _),ax (by omega)]
   have i:(aI h h.length (.mp [])).length=h.length+1:=by rw[b9,ax (gE _)]
   obtain⟨A,I⟩:=U.ack (x:=.mO j u []) rfl (h':=aI h h.length (.mp [])) (aL _) (by omega) (by omega) c ⟨h.length,aK rfl,by rw[bR _ _ _ _ (aL _),aK rfl];rfl⟩
   refine⟨.mp h.length,_,.mp ch.length,_,_,?_,⟨h.length,aK rfl,rfl⟩,I,⟨A,by simp,by omega,λb l _=>by rw[de,ax (by omega)],D6,AE⟩,e⟩
   simp[Fy,Z]
  trivial
 trivial
theorem arz(U:HS M ch h){t:Nat}{m x:CV}{f g:V}{ok:Bool}(hm:VR M m f)(y:VR M x g)(e:Rf E t m x ok ch k=ab r):OS wb M ch h (Fx E h t f g ok) k r:=by
 unfold Rf at e;split at e
 .rename_i o et b j n B;obtain⟨c,D,rfl⟩:=hm;subst y;cases ok with
  |true=>cases e
  |false=>
  split at e
  .rename_i P u l F;obtain⟨p,G⟩:=aU e;clear e;simp at p;obtain⟨Z,a,H⟩:=p;have:=uA a;subst this;obtain⟨te,hte,e⟩:=ay.1 G;split at e
   .rename_i v z K;replace e:=ay.1 e;obtain⟨J,A,e⟩:=e;obtain⟨rfl,A,_⟩:=jR A;obtain⟨Q,q,N⟩:=U.xr b _ F;rw[D]at q;cases q;have I:=uL (M:=M) te.zero;rw[K]at I;obtain⟨i,f1,f2⟩:=OT (j:=j) n J J l;have d:mT E o (.int j n)=ag:=by
     rw[<-Z];unfold mT;grind
    unfold Fx;rw[B];show OS wb M ch h (bif mT E o (.int j n)then(entries h (.mp c)).bind λes=>(pD (.int j n) es).bind λi=>
     match bG es i with
     |some e=>ab (e.2,h)
     |none=>(E.ty et).bind λte=>bif jU te.zero then ab (te.zero,h)else ae
     else ae) k r
    rw[d,ao];have he:entries h (.mp c)=ab (hY j v l):=by
     show(match ar h c with|some (.mp es)=>ab es|_=>ae)=_
     rw[N]
    rw[he,ah,f1,ah,cu];rcases f2 with⟨s,O,w,_⟩|⟨rfl,w,_⟩
    .have:(hY j v l)[i]? =ab (.int j s.1,.im (v.enc s.2)):=by simp[hY,pb,O]
     rw[this];exact OS.plain (cv:=.sy v (lz l n J)) U (by simp[VR,w]) e
    .have:(hY j v l)[l.length]? =ae:=by unfold hY;simp
     rw[this,hte,ah,I];have:jU (.im (v.enc z))=ag:=by
      cases v<;>first|rfl|trivial
     rw[this,ao];exact OS.plain (cv:=.sy v (lz l n J)) U (by grind) e
   trivial
  trivial
 trivial
theorem abC(q:HS M ch h){t:Nat}{m x y:CV}{H K N:V}(hm:VR M m H)(O:VR M x K)(A:VR M y N)(e:Jx E wb t m x y ch k=ab r):OS wb M ch h (sP E h t H K N) k r:=by
 unfold Jx at e;split at e
 .rename_i P et b j n v z S;have s:=A;simp only[VR,Ty.enc]at hm O A;obtain⟨c,a,rfl⟩:=hm;subst O;subst A;split at e
  .rename_i Y u l w;obtain⟨p,T⟩:=aU e;clear e;simp only[aM]at p;obtain⟨B,D,W⟩:=p;have:=uA D;subst this;obtain⟨te,hte,e⟩:=ay.1 T;obtain⟨d,e⟩:=aU e;replace e:=ay.1 e;obtain⟨U,I,e⟩:=e;obtain⟨rfl,I,_⟩:=jR I;obtain⟨c',Q,R⟩:=q.xr b _ w;rw[a]at Q;cases Q;obtain⟨i,f1,f2⟩:=OT (j:=j) n U U l;have F:mT E P (.int j n)=ag:=by
    rw[<-B];unfold mT;grind
   have he:entries h (.mp c)=ab (hY j v l):=by
    show(match ar h c with|some (.mp es)=>ab es|_=>ae)=_
    rw[R]
   have J:=(q.len _ _ a).2;have f:sP E h t (.mp c) (.im (.int j n)) (.im (v.enc z))=ab (.undef,aI h c (.mp (hY j v (jV l n U))))->OS wb M ch h (sP E h t (.mp c) (.im (.int j n)) (.im (v.enc z))) k r:=λp=>by
    rw[p];have hp:bC ch b (ab (.mO j v (jV l n U)))=cW ch b (.mO j v (jV l n U)):=rfl;refine⟨.undef,_,.undef,_,M,rfl,trivial,hp▸q.Ky w rfl _ (λy A=>by cases A;rfl) a (by rw[b9,aK J]) (λy A=>by rw[bR _ _ _ _ (dj J),ax A]) (λy A=>by
     cases A;exact⟨c,a,by rw[bR _ _ _ _ (dj J),aK rfl]⟩),⟨.refl M,by simp[e9,aL],by grind[b9],λi _ hi=>by
     rw[gp _ _ _ _ (fy w),ax (by grind)],lA,uO a J⟩,e⟩
   have g:sP E h t (.mp c) (.im (.int j n)) (.im (v.enc z))=ab (.undef,aI h c (bif cQ i (aF (hY j v l))then .mp (bC (hY j v l) i (.int j n,.im (v.enc z)))else .mp (hY j v l++[(.int j n,.im (v.enc z))]))):=by
    unfold sP;rw[S];show(bif mT E P (.int j n)then(entries h (.mp c)).bind λes=>(pD (.int j n) es).bind λi=>(E.ty et).bind λte=>bif cA te (.im (v.enc z))then(match ar h c with
     |some (.mp _)=>ab (V.undef,aI h c (bif cQ i (aF es)then .mp (bC es i (.int j n,.im (v.enc z)))else .mp (es++[(.int j n,.im (v.enc z))])))
     |_=>ae)else ae else ae)=_
    rw[F,ao,he,ah,f1,ah,hte,ah,(iO s d).1,ao,R]
   have o:aF (hY j v l)=l.length:=by simp[bz,hY,gg]
   rw[o]at g;rcases f2 with⟨e',X,_,G⟩|⟨rfl,_,G⟩
   .have hi:=(e7.1 X).1;have Z:cQ i l.length=ag:=km hi;rw[Z,ao]at g;refine f (g.trans ?_);have:bC (hY j v l) i (.int j n,.im (v.enc z))=hY j v (jV l n U):=by
     simp[eO,G,hY,List.map_set,I]
    rw[this]
   .have Z:cQ l.length l.length=af:=by rw[<-ji];simp
    rw[Z,au]at g;refine f (g.trans ?_);have:hY j v l++[(.int j n,.im (v.enc z))]=hY j v (jV l n U):=by
     simp[G,hY,ml,I]
    rw[this]
  trivial
 trivial
end
section
variable [Gh]
variable {ρ:Type} {wb:Nat->Bool} {M:Mu} {ch:CH} {h:Heap} {k:KC ρ} {r:ρ} {E:Env}
theorem xm{tc:TC}{t:Tm}(A:bF M tc t)(o:Option Operand):(∀v,o.map (vC tc)=ab v->∃u,o.map (ev t)=ab u/\VR M v u)/\(o.map (vC tc)=ae->o.map (ev t)=ae):=by
 cases o
 .simp
 rename_i x;exact⟨λv e=>by cases e;exact⟨_,rfl,je A x⟩,λe=>by cases e⟩
theorem u5{tc:TC}{t:Tm}(A:HS M ch h)(J:bF M tc t){keep:Bool}{op:Op}(e:oX E wb keep tc op ch k=ab r):OS wb M ch h (di E keep h.length t h op) k r:=by
 have I:=λo=>je J o
 cases op with
 |move x=>exact OS.plain A (I x) e
 |assign x=>exact OS.plain A (I x) e
 |alloc ty=>exact ajd A e
 |box ty x=>exact ajZ A (I x) e
 |build ty ps=>
  obtain⟨l,z,h1,h2⟩:=OJ J ps;show OS wb M ch h (xQ E h ty (lO (ev t) ps)) k r;rw[z];exact aj5 A h1 h2 e
 |buildSlice ty n ps=>
  obtain⟨l,z,h1,h2⟩:=OJ J ps;show OS wb M ch h (mf E keep h.length h ty n (lO (ev t) ps)) k r;rw[z];have e:(bif Bt keep (iW (vC tc) ps)then CA E ty n (iW (vC tc) ps) ch k else bif keep||jQ.zZ (mW (iW (vC tc) ps))then jQ E keep ty n (iW (vC tc) ps) ch k else NS E wb ty n (iW (vC tc) ps) ch k)=ab r:=e
  cases hw:Bt keep (iW (vC tc) ps)with
  |true=>rw[hw,ao]at e;exact aj2 A h1 h2 hw e
  |false=>
  rw[hw,au]at e;cases w:keep||jQ.zZ (mW (iW (vC tc) ps))<;>first|rw[w,ao]at e;exact aj3 A h1 h2 e|rw[w,au]at e;rw[jD]at w;rw[w.1];exact aj1 A h1 h2 e
 |load ty a=>exact aby A (I a) e
 |store ty a x=>exact avT A (I a) (I x) e
 |nilCheck x=>exact asf A (I x) e
 |binOp op ty x y yt=>exact ajG A (I x) (I y) e
 |unOp op ty x=>exact awo A (I x) e
 |convert s d x=>exact akP A (I x) e
 |makeInterface ty x=>exact ano A (I x) e
 |makeFunc f a c=>cases f with
  |func g=>exact OS.plain (cv:=.fn g (o6 tc a) (o6 tc c)) A (by exact⟨_,_,rfl,Bq J a,Bq J c⟩) e
  |_=>cases e
 |makeSlice ty l c=>exact arP A (I l) (I c) e
 |slice ty x lo hi mx=>exact avB A (I x) (xm J lo).1 (xm J lo).2 (xm J hi).1 (xm J hi).2 (xm J mx).1 (xm J mx).2 e
 |fieldAddr ty x j=>exact alQ A (I x) e
 |indexAddr ty x i=>exact anv A (I x) (I i) e
 |index ty x i=>exact anx A (I x) (I i) e
 |extract x i=>exact alI A (I x) e
 |makeMap ty m=>exact arN A (xm J m).2 e
 |lookup ty m x ok=>exact arz A (I m) (I x) e
 |mapUpdate ty m x y=>exact abC A (I m) (I x) (I y) e
 |insert ty m x y=>exact abC A (I m) (I x) (I y) e
 |call c=>
  have e:(match c.callee with
   |.builtin b=>NT E wb b c.argTypes (o6 tc c.args) ch k
   |_=>ae)=ab r:=e
  split at e
  .rename_i b B;have Z:=Bq J c.args;have:di E keep h.length t h (.call c)=hU E h.length b c.argTypes (dk t c.args) h:=by
    show(match c.callee with|.builtin b=>hU E h.length b c.argTypes (dk t c.args) h|_=>ae)=_
    rw[B]
   rw[this];generalize o6 tc c.args=xs at e Z;generalize dk t c.args=H at Z;unfold NT at e;split at e
   .split at e
    .obtain ⟨ty,v,e⟩:=ay.1 e;obtain⟨u,q,rfl,U,rfl⟩:=Z;show OS wb M ch h ((bG c.argTypes.toList 0).bind λt=>rX E t h u) k r
     rw[v];exact aro A U e
    trivial
   .split at e
    .obtain ⟨u,q,rfl,U,D,F,rfl,p,rfl⟩:=Z;have:=p.int;subst this;exact ajp A U e
    .obtain ⟨u,q,rfl,U,D,F,rfl,p,rfl⟩:=Z;exact ajr A U p e
    trivial
   .split at e
    .obtain ⟨u,q,rfl,U,p⟩:=Z;have:=U.int;subst this;exact abR A p e
    trivial
   .split at e
    .obtain ⟨u,q,rfl,U,p⟩:=Z;have:=U.int;subst this;exact abI A p e
    trivial
   .split at e
    .obtain ⟨ty,v,e⟩:=ay.1 e;obtain⟨u,q,rfl,U,rfl⟩:=Z;show OS wb M ch h ((bG c.argTypes.toList 0).bind λt=>Ct E t h u) k r
     unfold WW at e;split at e
     .rename_i el G;simp only[VR]at U;simp_all[Ct,G,OS.of_int,A,e]
     trivial
    trivial
   .split at e
    .obtain ⟨u,q,rfl,U,rfl⟩:=Z;exact akw A U e
    trivial
   trivial
  trivial
 |_=>cases e
theorem adU:∀{l:List CV} {A:List V},aO M l A->∀{tc:TC} {t:Tm} i,bF M tc t->bF M (adR l i tc) (xt A i t)
 |[],A,h,tc,t,i,I=>by subst h;exact I
 |v::l,A,h,tc,t,i,I=>by
  simp[aO]at h;obtain⟨u,r,rfl,h1,h2⟩:=h;exact adU h2 _ (I.set h1 i)
theorem Um{l:List CV}{A:List V}(h:aO M l A) n:bF M (Ul n l) (jd n A):=adU h 0 (bF.mk M _)
theorem auI{tc:TC}{t:Tm}(i:HS M ch h)(J:bF M tc t){A:ResultVar}{v:CV}(e:Ts E tc ch A=ab v):∃u,A3 E h t A=ab u/\VR M v u:=by
 cases A with
 |tmp n=>cases e;exact⟨_,rfl,J.get n⟩
 |cell a ty=>
  have U:=J.get a;have e:(match tc.get a,E.ty ty with
   |.ptr b p,ab ti=>match aD ch b with
    |some (.cell v)=>(v.eZ p).bind _
    |_=>ae
   |_,_=>ae)=ab v:=e
  split at e
  .rename_i b p ti hp I;rw[hp]at U;obtain⟨c,j,l⟩:=U;split at e
   .rename_i w m;obtain⟨y,o,e⟩:=ay.1 e;cases Z:dE ti y with
    |false=>grind
    |true=>
     rw[Z]at e;cases e;obtain⟨B,w',d,q,s⟩:=i.cell b w m;rw[j]at d;cases d;obtain⟨z,x,f⟩:=s.Am o;refine⟨z,?_,f⟩;show(match t.get a,E.ty ty with
      |.ptr b g p,ab ti=>(eU h b g p).bind _
      |_,_=>ae)=_
     rw[l,I];show(eU h c 0 p).bind _=_;unfold eU;rw[q];show(w'.eZ p).bind _=_;rw[x,ah,(iO f Z).1,ao]
   trivial
  trivial
theorem Tu{tc:TC}{t:Tm}(d:HS M ch h)(f:bF M tc t){fn:Func}{v:CV}(e:uX E fn tc ch=ab v):∃u,me E h fn t=ab u/\VR M v u:=by
 have key:∀(l:List ResultVar) {vs:List CV},Tt E tc ch l=ab vs->∃I,xJ E h t l=ab I/\aO M vs I:=by
  intro l;induction l with
  |nil=>intro vs e;cases e;exact⟨[],rfl,rfl⟩
  |cons b l ih=>
   intro vs e;have e:(Ts E tc ch b).bind (λv=>(Tt E tc ch l).map (v:: ·))=ab vs:=e
   obtain⟨y,g,e⟩:=ay.1 e;obtain⟨m,U,rfl⟩:=cE.1 e;obtain⟨u,c,A⟩:=auI d f g;obtain⟨I,J,Z⟩:=ih U;refine⟨u::I,?_,u,I,rfl,A,Z⟩;show(A3 E h t b).bind (λv=>(xJ E h t l).map (v:: ·))=_
   grind
 unfold uX at e;obtain⟨vs,h1,h2⟩:=cE.1 e;obtain⟨I,c,A⟩:=key _ h1;unfold me;rw[c,Option.map_some];subst h2;cases vs with
 |nil=>
  simp only[aO]at A;subst A;exact⟨_,rfl,VR.sw rfl⟩
 |cons v l=>
  simp only[aO]at A;obtain⟨u,i,rfl,A,J⟩:=A;cases l with
  |nil=>
   simp only[aO]at J;subst J;exact⟨u,rfl,A⟩
  |cons w l=>
   have Z:=J;simp only[aO]at J;obtain⟨j,a,rfl,n,o⟩:=J;exact⟨_,rfl,VR.sw (show aO M (v::w::l) (u::j::a)from⟨u,_,rfl,A,Z⟩)⟩
def pg(n:Nat)(mk:List (Nat×List V)):=∀d∈mk,lY d=ag/\n<=d.1
theorem pg.nil n:pg n []:=λ_ h=>by cases h
theorem pg.app{n m:Nat}{a b:List (Nat×List V)}(h1:pg n a)(h2:pg m b)(h:m<=n):pg m (a++b):=λd A=>(cD.1 A).elim (λq=>⟨(h1 d q).1,b8 h (h1 d q).2⟩) (h2 d)
def rL{ρ:Type}(wb:Nat->Bool) M(tc:TC) ch(h:Heap)(ws:List Nat)(df:List (Nat×List V))(rf:Bool)(m:Option (Ex×St))(k:KX ρ) r:=
 ∃ex A ba M' I h' mk,m=ab (ex,⟨I,h',[],mk++df⟩)/\HS M' ba h'/\bF M' A I/\Fr wb M ch h M' ba h'/\(∀i,bg ws i=af->A.get i=tc.get i)/\(pg h.length mk/\(rf=af->mk=[]))/\k ex A ba=ab r
def Good(C:CE)(ih:(ρ:Type)->Nat->Code->(Nat->Bool)->TC->CH->KX ρ->Option ρ):=
 ∀ρ f c wb tc ch k r,ih ρ f c wb tc ch k=ab r->∀M t h (fb cur:Nat) df,HS M ch h->bF M tc t->
  rL wb M tc ch h (writes c) df (h8 c&&al fb 0) (X C.E f fb cur c ⟨t,h,[],df⟩) k r
structure jK(C:CE):Prop where
 sp:∀g s,C.sp g=ab s->∀x y,s.f x=ab y->iu C.E (X C.E) g (s.a.dY x)=ab (s.r.enc y)
 LK:∀g s,C.LK g=ab s->kX C.E g s
def ko{ρ:Type}(wb:Nat->Bool) M(ch:CH)(h:Heap)(m:RC)(k:KC ρ)(r:ρ):=
 ∃v h' cv ba M',m=ab (v,h',[])/\VR M' cv v/\HS M' ba h'/\Fr wb M ch h M' ba h'/\k cv ba=ab r
section
variable {C:CE} {ih:(ρ:Type)->Nat->Code->(Nat->Bool)->TC->CH->KX ρ->Option ρ}
theorem ko.of{m:R}(s:OS wb M ch h m k r):ko wb M ch h (lift [] m) k r:=by
 obtain⟨v,h',cv,ba,M',rfl,q⟩:=s;exact⟨v,h',cv,ba,M',rfl,q⟩
theorem aO.app:∀{a:List CV} {A:List V} {b:List CV} {b':List V},aO M a A->aO M b b'->aO M (a++b) (A++b')
 |[],A,b,b',h1,h2=>by subst h1;exact h2
 |v::a,A,b,b',h1,h2=>by
  simp[aO]at h1;obtain⟨u,r,rfl,I,J⟩:=h1;exact⟨u,r++b',rfl,I,aO.app J h2⟩
theorem Jz{E:Env}{ih:Nat->Nat->Nat->Code->St->Option (Ex×St)}{n:Nat} l:∀{mk:List (Nat×List V)} h,pg n mk->jY E ih n (mk++l) h []=jY E ih n l h []
 |[],_,_=>rfl
 |d::mk,h,hm=>by
  obtain⟨A,I⟩:=hm d eh ..;show(bif lY d then bif bu n _ then jY E ih n (mk++l) h []else ae else _)=_;rw[A,ao,km I,ao];exact Jz l h λd' J=>hm d' (ff _ J)
theorem Z8{E:Env}{g:Nat}{A:List V}{fn:Func}{I:Tm}{h h':Heap}{df:List (Nat×List V)}{h2:Heap}{u:V}(U:m9 E (X E) g A h []=ab (fn,⟨I,h',[],df⟩))(J:jY E (X E) h.length df h' []=ab (h2,[]))(Z:me E h2 fn I=ab u):
  gK E (X E) g A h []=ab (u,h2,[]):=by
 unfold gK;cases df with
 |nil=>
  have:(ab _)=ab _:=J;grind
 |cons d df=>
  simp_all
theorem Z7(J:Good C ih)(a:HS M ch h){g:Nat}{args:List CV}{I:List V}(U:aO M args I)(e:wK C ih g args wb ch k=ab r):ko wb M ch h (gK C.E (X C.E) g I h []) k r:=by
 obtain⟨fn,b,e⟩:=ay.1 e;obtain⟨c,t,e⟩:=ay.1 e;obtain⟨d,e⟩:=aU e;obtain⟨ex,f,ba,M',i,h',mk,h1,h2,j,l,_,⟨hm,_⟩,m⟩:=J _ _ _ _ _ _ _ _ e M _ h 0 0 [] a (Um U _);have n:bu (aF I) fn.ntmps=ag:=by simp_all[bz,U.length,d]
 have A:ex=.nm∨ex=.ret->m9 C.E (X C.E) g I h []=ab (fn,⟨i,h',[],mk++[]⟩):=λZ=>by
  unfold m9;grind
 have o:ex=.nm∨ex=.ret->(uX _ fn _ _).bind _=ab r->ko wb M ch h _ k r:=λZ e=>by
  obtain⟨v,p,e⟩:=ay.1 e;obtain⟨u,q,s⟩:=Tu h2 j p;exact⟨u,h',v,ba,M',Z8 (A Z) (Jz [] h' hm) q,s,h2,l,e⟩
 cases ex with
 |exit _=>cases m
 |nm=>grind
 |ret=>grind
theorem ak1{c a b A:Code}{f:Operand}(e:Ow c=ab (a,b,f,A)):∃(id:Nat) (ops:Array Oper) (o:Oper) (l:List Oper) (I:Call),c=.seq a (.seq (.region id ops af) A)/\ops.toList=l.reverse++[o]/\o.op=.defer I/\o.guard=ae/\o.dst=ae/\I.callee=.value f/\I.args.toList=[]/\b=.region id l.reverse.toArray af/\
  (∀q∈l,q.guard=ae/\∀c,q.op≠.defer c):=by
 unfold Ow at e;split at e
 .rename_i n id ops J;split at e
  .rename_i o l p;split at e
   .rename_i I U g i;split at e
    .rename_i s Z j;obtain⟨m,e⟩:=aU e;cases e;refine⟨id,ops,o,l,I,rfl,?_,U,g,i,Z,j,rfl,λq d=>?_⟩
     .simp_all
     have:=List.all_eq_true.1 m q d;rw[aM]at this;refine⟨by simpa using this.1,λc Z=>?_⟩
     rw[Z]at this;exact absurd this.2 (by simp[aar])
    trivial
   trivial
  trivial
 trivial
theorem afd{E:Env}{ih:Nat->Nat->Nat->Code->St->Option (Ex×St)}{keep:Bool} ops A:∀l st,(∀q∈l,q.guard=ae)->dQ E ih keep ops l st=dQ E ih keep A l st
 |[],_,_=>rfl
 |o::l,st,I=>by
  have:e6 E ih keep ops (aF st.h) o st=e6 E ih keep A (aF st.h) o st:=by
   unfold e6;rw[I o eh ..];rfl
  show(match e6 E ih _ _ _ o st with|none=>ae|some _=>dQ E ih _ _ l _)=match e6 E ih _ _ _ o st with|none=>ae|some J=>dQ E ih _ _ l _
  rw[this];split
  .rfl
  exact afd _ _ l _ λq U=>I q (ff _ U)
theorem afg{E:Env}{ih:Nat->Nat->Nat->Code->St->Option (Ex×St)}{keep:Bool}{ops:Array Oper}:∀l A st,dQ E ih keep ops (l++A) st=(dQ E ih keep ops l st).bind (dQ E ih keep ops A)
 |[],_,_=>rfl
 |o::l,A,st=>by
  show(match e6 E ih _ _ _ o st with|none=>ae|some I=>dQ E ih _ _ (l++A) _)=(match e6 E ih _ _ _ o st with|none=>ae|some _=>dQ E ih _ _ l _).bind _
  split
  .rfl
  exact afg l A _
theorem zT(m:Good C ih)(hs:HS M ch h){g:Nat}{args:List CV}{s:List V}(ha:aO M args s)(e:sr C ih g args wb ch k=ab r):ko wb M ch h (gK C.E (X C.E) g s h []) k r:=by
 unfold sr at e;obtain⟨fn,Iu,e⟩:=ay.1 e;obtain⟨c,hc,e⟩:=ay.1 e;split at e<;>try(exact Z7 m hs ha e;done)
 rename_i a b f Z hdo;obtain⟨id,ops,o,l,cc,rfl,Q,Dw,hgd,R,S,D,rfl,hl⟩:=ak1 hdo;obtain⟨T,e⟩:=aU e;rw[aM]at T;obtain⟨T,F⟩:=T;have F:C.E.Dh g id=ae:=Option.isNone_iff_eq_none.1 F;have W:∀q st,gn C.E q g id st=st:=λq st=>by unfold gn;rw[F]
 have qJ:bu (aF s) fn.ntmps=ag:=by rw[bz]at T|-;rw[<-ha.length];exact T
 obtain⟨ex1,Bj,N1,M1,t1,h1,A,a1,a2,a3,a4,_,⟨a5,_⟩,e⟩:=m _ _ _ _ _ _ _ _ e M (jd fn.ntmps s) h 0 0 [] hs (Um ha _);cases ex1 with
 |exit _=>cases e
 |ret=>cases e
 |nm=>
 obtain⟨C4,tc2,ch2,M2,t2,h2,D5,b1,b2,b3,b4,_,⟨_,b5⟩,e⟩:=m _ _ _ _ _ _ _ _ e M1 t1 h1 0 0 (A++[]) a2 a3;have b5:=b5 rfl;subst b5;dsimp only at e;split at e
 .rename_i j Y WQ hf;obtain⟨ZN,e⟩:=aU e;rw[aM]at ZN;obtain⟨i,ln⟩:=ZN;have G:=je b3 f;rw[hf]at G;simp only[VR]at G;obtain⟨J,cs,lS,v1,v2⟩:=G;obtain⟨w,Bk,v9,M3,t3,y,H,c1,c2,c3,c4,_,⟨c5,_⟩,e⟩:=m _ _ _ _ _ _ _ _ e M2 t2 h2 0 0 ((j,J++cs)::(A++[])) b2 b3;have vv:aO M2 (Y++WQ) (J++cs):=aO.app v1 v2;have n:lY (j,J++cs)=af:=by
   unfold lY;split
   .rename_i K;have K:J++cs=[V.undef]:=K;have:=vv.length;rw[K,<-bz]at this;rw[this]at ln;cases ln
   rfl
  have ana:X C.E g 0 0 (.region id ops af) ⟨t1,h1,[],A++[]⟩=ab (.nm,⟨t2,h2,[],(j,J++cs)::(A++[])⟩):=by
   have U:X C.E g 0 0 (.region id l.reverse.toArray af) ⟨t1,h1,[],A++[]⟩=ab (.nm,⟨t2,h2,[],A++[]⟩):=b1;rw[kZ]at U|-;have U:(match dQ C.E (X C.E) (C.E.keep g) l.reverse.toArray l.reverse.toArray.toList (gn C.E af g id ⟨t1,h1,[],A++[]⟩)with|some I=>ab (Ex.nm,gn C.E ag g id I)|none=>ae)=ab (.nm,⟨t2,h2,[],A++[]⟩):=U
   simp only[W]at U;have hr:dQ C.E (X C.E) (C.E.keep g) l.reverse.toArray l.reverse.toArray.toList ⟨t1,h1,[],A++[]⟩=ab ⟨t2,h2,[],A++[]⟩:=by
    split at U
    .rename_i I K;cases U;exact K
    cases U
   rw[List.toList_toArray]at hr;show(match dQ C.E (X C.E) (C.E.keep g) ops ops.toList (gn C.E af g id ⟨t1,h1,[],A++[]⟩)with|some I=>ab (Ex.nm,gn C.E ag g id I)|none=>ae)=_
   simp only[W];rw[Q,afg,afd ops l.reverse.toArray _ _ (λq K=>(hl q (List.mem_reverse.1 K)).1),hr,ah]
   have:e6 C.E (X C.E) (C.E.keep g) ops (aF h2) o ⟨t2,h2,[],A++[]⟩=ab ⟨t2,h2,[],(j,J++cs)::(A++[])⟩:=by
    unfold e6;rw[hgd,Dw];show(match cc.callee with
     |.value f=>(match ev t2 f with
      |.fn g a cap=>bif lY (g,a++(dk t2 cc.args++cap))then ae else ab (⟨putDst t2 o.dst .undef,h2,[],(g,a++(dk t2 cc.args++cap))::(A++[])⟩:St)
      |_=>ae)
     |_=>ae)=_
    rw[S];simp only[lS];have:dk t2 cc.args=[]:=by unfold dk;rw[D]
    rw[this,Gi,n,au,R];rfl
   show(match(match e6 C.E (X C.E) (C.E.keep g) ops (aF h2) o ⟨t2,h2,[],A++[]⟩with|none=>ae|some I=>ab I)with|some I=>ab (Ex.nm,I)|none=>ae)=_
   rw[this]
  have N:X C.E g 0 0 (.seq a (.seq (.region id ops af) Z)) ⟨jd fn.ntmps s,h,[],[]⟩=ab (w,⟨t3,y,[],H++((j,J++cs)::(A++[]))⟩):=by
   rw[kZ];show(match X C.E g 0 0 a ⟨jd fn.ntmps s,h,[],[]⟩with|some (.nm,I)=>X C.E g 0 0 (.seq (.region id ops af) Z) I|r=>r)=_
   rw[a1];show X C.E g 0 0 (.seq (.region id ops af) Z) ⟨t1,h1,[],A++[]⟩=_;rw[kZ];show(match X C.E g 0 0 (.region id ops af) ⟨t1,h1,[],A++[]⟩with|some (.nm,I)=>X C.E g 0 0 Z I|r=>r)=_
   rw[ana];exact c1
  have fin:w=.nm∨w=.ret->wK C ih j (Y++WQ) wb v9 (λ_ ch=>(uX C.E fn Bk ch).bind λv=>k v ch)=ab r->ko wb M ch h (gK C.E (X C.E) g s h []) k r:=λhx e=>by
   have Dz:m9 C.E (X C.E) g s h []=ab (fn,⟨t3,y,[],H++((j,J++cs)::(A++[]))⟩):=by
    unfold m9;rw[Iu,ah,hc,ah,qJ,ao,N];rcases hx with rfl|rfl<;>rfl
   unfold wK at e;obtain⟨p,z,e⟩:=ay.1 e;obtain⟨cd,Za,e⟩:=ay.1 e;obtain⟨wt,e⟩:=aU e;unfold adL at i;rw[z,ah]at i;simp only[Za]at i;have i:h8 cd=af:=by simpa using i
   have vv3:=vv.mono c4.le;obtain⟨O,tc4,x,M4,t4,P,mk4,d1,d2,d3,d4,_,⟨_,d5⟩,e⟩:=m _ _ _ _ _ _ _ _ e M3 (jd p.ntmps (J++cs)) y 0 0 [] c2 (Um vv3 _);have d5:=d5 (by rw[i];rfl)
   subst d5;have amw:bu (aF (J++cs)) p.ntmps=ag:=by rw[bz]at wt|-;rw[<-vv3.length];exact wt
   have B:O=.nm∨O=.ret->(uX C.E p tc4 x).bind (λ_=>(uX C.E fn Bk x).bind λv=>k v x)=ab r->ko wb M ch h (gK C.E (X C.E) g s h []) k r:=λhx4 e=>by
    obtain⟨v2,ZV,e⟩:=ay.1 e;obtain⟨v,hv,e⟩:=ay.1 e;obtain⟨u2,p1,_⟩:=Tu d2 d3 ZV;obtain⟨u,p2,p3⟩:=Tu d2 (c3.mono d4.le) hv;have hS:m9 C.E (X C.E) j (J++cs) y []=ab (p,⟨t4,P,[],[]⟩):=by
     unfold m9;rw[z,ah,Za,ah,amw,ao,d1];rcases hx4 with rfl|rfl<;>rfl
    have amC:jY C.E (X C.E) h.length (H++((j,J++cs)::(A++[]))) y []=ab (P,[]):=by
     rw[Jz _ y λd hd=>⟨(c5 d hd).1,b8 (b8 a4.lh b4.lh) (c5 d hd).2⟩]
     show(bif lY (j,J++cs)then(bif bu h.length (j,J++cs).1 then jY C.E (X C.E) h.length (A++[]) y []else ae)else match m9 C.E (X C.E) j (J++cs) y []with
      |some (fn,st)=>(match st.df with
       |[]=>(match me C.E st.h fn st.t with
        |some _=>jY C.E (X C.E) h.length (A++[]) st.h st.lp
        |none=>ae)
       |_=>ae)
      |none=>ae)=_
     rw[n,au,hS];show(match me C.E P p t4 with
        |some _=>jY C.E (X C.E) h.length (A++[]) P []
        |none=>ae)=_
     rw[p1];exact Jz [] P a5
    exact⟨u,P,v,x,M4,Z8 Dz amC p2,p3,d2,((a4.trans b4).trans c4).trans d4,e⟩
   cases O with
   |exit _=>cases e
   |nm=>exact B (.inl rfl) e
   |ret=>exact B (.inr rfl) e
  cases w with
  |exit _=>cases e
  |nm=>exact fin (.inl rfl) e
  |ret=>exact fin (.inr rfl) e
 cases e
theorem acs{v:CV}{u:V}(A:VR M v u)(I:v.Ar=ag):u.data h=ae:=by
 cases v with
 |ptr b p=>simp[VR]at A;obtain⟨_,_,rfl⟩:=A;simp[V.data,V.cV]
 |el b n i p=>simp[VR]at A;obtain⟨_,_,_,_,_,rfl⟩:=A;simp[V.data,V.cV]
 |mp b=>simp[VR]at A;obtain⟨_,_,rfl⟩:=A;simp[V.data,V.cV]
 |yl b=>simp[VR]at A;obtain⟨_,_,rfl⟩:=A;simp[V.data,V.cV]
 |ifc t c=>
  simp[VR]at A;obtain⟨u,rfl,A⟩:=A;have:=acs A I;simp[V.data,V.cV]
 |fn f a c=>
  simp[VR]at A;obtain⟨U,cs,rfl,h1,h2⟩:=A;cases a with
  |nil=>cases c with
   |nil=>cases I
   |cons w c=>
    simp[aO]at h1 h2;obtain⟨y,J,rfl,_⟩:=h2;subst h1;simp[V.data,V.cV]
  |cons w a=>
   simp[aO]at h1;obtain⟨y,J,rfl,_⟩:=h1;simp[V.data,V.cV]
 |tl b d p=>simp[VR]at A;obtain⟨_,_,_,_,_,_,_,rfl⟩:=A;simp[V.data,V.cV]
 |_=>cases I
theorem Nj:∀{args:List CV} {A:List V},aO M args A->args.any CV.Ar=ag->nD h A=ae
 |[],A,_,e=>by cases e
 |v::args,A,I,e=>by
  simp[aO]at I;obtain⟨u,r,rfl,h1,h2⟩:=I;show(V.data h u).bind (λd=>(nD h r).map _)=ae
  rw[List.any_cons,kc]at e;rcases e with e|e
  .rw [acs h1 e];rfl
  rw[Nj h2 e];cases V.data h u<;>rfl
theorem V4(Z:HS M ch h){t:Ty}{vs:List CV}{x:t.den}{f:List V}(e:CV.gk ch t vs=ab x)(i:aO M vs f){rt:Ty}{y:rt.den}{g:CH->Option ρ}(J:GS wb ch rt vs g=ab r):
  ∃ba h',(match V.nT f with
   |[]=>ab (V.im (rt.enc y),h,[])
   |A=>bif(rt.enc y).flat then ab (V.im (rt.enc y),h,[])else bif Go.As.gH h A then ab (V.im (rt.enc y),Go.As.close h A,[])else ae:RC)=ab (.im (rt.enc y),h',[])/\HS M ba h'/\Fr wb M ch h M ba h'/\g ba=ab r:=by
 unfold GS at J;cases hf:rt.flat with
 |true=>
  rw[hf]at J;refine⟨ch,h,?_,Z,.refl ..,J⟩;rw[C2,hf];split<;>rfl
 |false=>
  rw[hf]at J;cases hm:uC wb ch (CV.gM vs)with
  |false=>grind
  |true=>
   rw[hm]at J;have I:=(R4 (ch:=ch) t).2 vs x e;have d:∀A,uC wb ch A=ag->∀b∈A,(∃n c u l,aD ch b=ab (.arr n c u l))->∃n c u l,aD ch b=ab (.arr n c u l)/\(c=ag∨wb b=ag):=by
    intro A;induction A with
    |nil=>simp
    |cons a A j=>
     intro hm b U s;have hm:(bif match aD ch a with|some (.arr _ ag _ _)=>ag|_=>wb a then uC wb ch A else af)=ag:=hm
     grind
   obtain⟨m,v,w,o,p⟩:=HS.close (wb:=wb) _ Z λb U=>d _ hm b U (I b U)
   refine⟨_,_,?_,m,⟨.refl M,by omega,by omega,λb _ U=>o b U,lA,p⟩,J⟩
   rw[ac7 Z e i];split
   .rename_i q;rw[q];rfl
   rw[C2,hf,au,Z.gH _ I,ao]
theorem awX(l:List CV):True:=trivial
theorem HS.empty:HS ⟨λ_=>ae,λ_ _=>ae⟩ [] []:=
 ⟨λb _ e=>by trivial,λb _ _ _ _ e=>by trivial,λ_ _ _ _ _ q _=>(by cases q),λb _ _ _ _ e=>by trivial,λ_ _ e=>(by cases e),λ_ _ _ e=>(by cases e),λb _ e=>by trivial⟩
theorem Nr{g:Nat}{t:Ty}{y:t.den}{A:CV->Option ρ}(e:Cp C g t y A=ab r):A (.sy t y)=ab r:=by
 unfold Cp at e;cases J:C.sZ g 1000000 with
 |false=>grind
 |true=>
  rw[J]at e;split at e
  .rename_i i y;cases I:ai 0 y with
   |false=>grind
   |true=>
    rw[I]at e;have:aE _=y:=Int.toNat_of_nonneg (of_decide_eq_true ((gX ..).symm.trans I));rwa[this]at e
  trivial
theorem akj(hC:jK C)(Z:Good C ih)(U:HS M ch h){g:Nat}{args:List CV}{b:List V}(I:aO M args b)(e:NX C ih g args wb ch k=ab r):ko wb M ch h (qA C.E (X C.E) g b h []) k r:=by
 have inl:sr C ih g args wb ch k=ab r->(C.E.inl g=ag∨nD h b=ae)->ko wb M ch h (qA C.E (X C.E) g b h []) k r:=λe c=>by
  have:=zT Z U I e;unfold qA;grind
 unfold NX at e;split at e
 .rename_i s J;cases A:C.E.inl g||args.any CV.Ar with
  |false=>grind
  |true=>
   rw[A]at e;rw[kc]at A;have:=akg (hC.LK g s J) U I e;unfold qA;rcases A with c|c
   .rw [c];trivial
   cases A:C.E.inl g with
   |true=>trivial
   |false=>rw[Nj I c];trivial
 split at e
 .rename_i s J;cases A:C.E.inl g with
  |true=>grind
  |false=>
   rw[A]at e;obtain⟨x,a,e⟩:=ay.1 e;obtain⟨y,d,e⟩:=ay.1 e;obtain⟨ba,h',o,f,i,j⟩:=V4 (y:=y) U a I e;refine⟨_,h',.sy s.r y,ba,M,?_,rfl,f,i,Nr j⟩;unfold qA;rw[A,HM U a I];show((iu C.E (X C.E) g _).bind λr=>_)=_
   rw[hC.sp g s J x y d,ah];omega
 cases A:C.E.inl g||args.any _ with
 |true=>
  rw[A]at e;rw[kc]at A;exact inl e (A.imp id λq=>Nj I q)
 |false=>
  rw[A]at e;rw[jD]at A;cases hm:(C.E.sm g).isNone with
  |false=>grind
  |true=>
   rw[hm]at e;obtain⟨fn,p,e⟩:=ay.1 e;obtain⟨n,t,e⟩:=ay.1 e;obtain⟨rt,u,e⟩:=ay.1 e;obtain⟨x,a,e⟩:=ay.1 e;obtain⟨v,h2,cv,w,F,z,B,D,_,l⟩:=zT Z HS.empty (DU n x) e;obtain⟨y,d,l⟩:=ay.1 l;obtain⟨ba,h',o,f,i,j⟩:=V4 (y:=y) U a I l;refine⟨_,h',.sy rt y,ba,M,?_,rfl,f,i,j⟩;have m:=by simpa using hm
   have G:iu C.E (X C.E) g (n.dY x)=ab (rt.enc y):=by
    unfold iu;rw[m];unfold qC;rw[oG,z];exact HL D d B
   unfold qA;rw[HM U a I];grind
theorem akA(J:HS M ch h){el:Nat}{args:List CV}{U:List V}(a:aO M args U)(e:N8 C el args ch k=ab r):OS wb M ch h (zo C.E h.length el U h) k r:=by
 unfold N8 at e;split at e
 .obtain ⟨u,d,rfl,b,rfl⟩:=a;obtain⟨te,hte,e⟩:=ay.1 e;obtain⟨t,f,e⟩:=ay.1 e;obtain⟨l,c,e⟩:=ay.1 e;cases I:cA te te.zero&&Mm te&&al t.wd te.size with
  |false=>grind
  |true=>
   rw[I]at e;rw[aM]at I;cases Z:bW l.length te.bytes with
   |false=>grind
   |true=>
    rw[Z]at e;obtain⟨d1,_⟩:=XA J c b;show OS wb M ch h ((C.E.ty el).bind _) k r;have hf:js te.size (l.map t.enc)=ag:=by
     cases l
     .rfl
     show al _ _=ag;simp[oA,I]
    have A:room (aF (l.map t.enc)) te.bytes=ag:=by
     rw[bz,gg];exact Z
    rw[hte,ah,d1,ah,I.1,hf,A,<-bU I.2];exact OS.sx J t l 1 (by simp) e
 trivial
theorem alG x t b h:ld x [.im .eE,.ifc t (.ptr b 0 [])] h=bif ld.tR x t then ab (.im (.bool af),h)else ae:=by
 rfl
theorem alE x t b u l h:ld x [.im (.ifc u (.agg 2 l)),.ifc t (.ptr b 0 [])] h=bif ld.tR x t&&al u (x/1000000)then match ar h b with
  |some (.cell v)=>bif al v.wd 2 then ab (.im (.bool ag),aI h b (.cell (.im (.agg 2 l))))else ae
  |_=>ae else ae:=by
 rfl
theorem ajy(A:HS M ch h){x:Nat}{args:List CV}{U:List V}(a:aO M args U)(e:NC x args wb ch k=ab r):OS wb M ch h (ld x U h) k r:=by
 unfold NC at e;split at e
 .rename_i l t b;obtain⟨_,_,rfl,rfl,_,_,rfl,⟨_,rfl,c,I,rfl⟩,rfl⟩:=a;obtain⟨h1,e⟩:=aU e;cases l with
  |nil=>
   show OS wb M ch h (ld x [.im .eE,.ifc t _] h) k r;rw[alG,h1];exact OS.plain (cv:=.sy _ _) A (by rfl) e
  |cons y l=>
   obtain⟨u,n⟩:=y;obtain⟨h2,e⟩:=aU e;obtain⟨o,e⟩:=aU e;rw[pJ,decide_eq_true_eq]at h2;have h2:u=x/1000000:=Int.ofNat.inj h2;show OS wb M ch h (ld x [.im (.ifc u _),.ifc t _] h) k r;rw[alE,h1,h2,gj];split at e
   .rename_i v J;obtain⟨d,e⟩:=aU e;obtain⟨p,f,Z,g,j⟩:=A.cell b v J;rw[I]at Z;cases Z;have hw:f.wd=2:=by
     have:=bU d;have m:gq v=af:=by cases v<;>first|rfl|simp[CV.wd]at this
     rw[<-this];exact(j.wd m).symm
    rw[g];show OS wb M ch h (bif al _ 2 then ab _ else ae) k r;rw[hw];exact⟨_,_,.sy .bool _,_,M,rfl,by rfl,A.adW (cv:=.sy (.st 2 (.cn (.int _) (.cn _ _))) _) (v:=.im _) J I (by rfl),⟨.refl M,by simp[e9,aL],by grind[b9],λi _ hi=>by
     rw[gp _ _ _ _ (fy J),ax (by grind)],lA,uO I (A.len _ _ I).2⟩,e⟩
   trivial
 trivial
theorem ake(hC:jK C)(J:Good C ih)(U:HS M ch h){g:Nat}{args:List CV}{a:List V}(Z:aO M args a)(e:NV C ih g args wb ch k=ab r):ko wb M ch h (v8 C.E (X C.E) h.length g a h []) k r:=by
 unfold NV at e;unfold v8;split at e
 .rename_i el A;rw[A];exact ko.of (akA U Z e)
 rename_i A;cases I:al _ 0 with
 |false=>
  rw[I]at e;rw[A];have:=ajy U Z e;revert this;generalize C.E.ext g=x at I;intro this;cases x<;>first|rename_i x;exact ko.of this|cases I
 |true=>
  rw[I]at e;rw[A,bU I];exact akj hC J U Z e
def RV(E:Env)(aC:Nat)(keep:Bool)(t:Tm)(h:Heap)(op:Op):=
 match op with
 |.call c=>match c.callee with
  |.builtin _=>lift [] (di E keep aC t h (.call c))
  |_=>kG E (X E) aC t c h []
 |op=>lift [] (di E keep aC t h op)
theorem RW{df:List (Nat×List V)}{E:Env}{keep:Bool}{ops:Array Oper}{o:Oper}{t:Tm}{h:Heap}(I:guardOf ops t o.guard=ab ag)(J:∀c,o.op≠.defer c){v:V}{h':Heap}(A:RV E h.length keep t h o.op=ab (v,h',[])):
  e6 E (X E) keep ops h.length o ⟨t,h,[],df⟩=ab ⟨putDst t o.dst v,h',[],df⟩:=by
 show(match guardOf _ t _ with|none=>ae|some af|some ag=>_)=_
 rw[I];obtain⟨dst,op,ty,pos,after,guard⟩:=o;cases op with
 |defer c=>trivial
 |call c=>
  have A:(match c.callee with
   |.builtin _=>lift [] _
   |_=>kG E _ _ t c h [])=ab _:=A
  show(match match c.callee with
   |.builtin _=>lift [] _
   |_=>kG E _ _ t c h []with
   |none=>ae
   |some (v,h,lp)=>ab _)=_
  rw[A]
 |_=>
  unfold RV at A;simp at A|-;rw[A]
theorem LU{tc:TC}{t:Tm}(J:bF M tc t){c:Call}{g:Nat×List CV}(e:sV tc c=ab g):∃b,target t c=ab (g.1,b)/\aO M g.2 b/\ry t c=ae:=by
 unfold sV at e;split at e
 .rename_i d I;have A:=je J d;split at e
  .rename_i f a cap U;cases e;rw[U]at A;obtain⟨i,cs,Z,h1,h2⟩:=A;refine⟨_,?_,h1.app ((Bq J _).app h2),?_⟩;all_goals simp[target,I,Z,ry]
  .rename_i f U;cases e;rw[U]at A;simp[VR,Ty.enc]at A;refine⟨_,?_,Bq J _,?_⟩;all_goals simp[target,I,A,ry]
  trivial
 trivial
theorem adY:∀ps {xs:List CV} {I:List V} {tc A:TC} {t:Tm},aO M xs I->bF M tc t->adX ps xs tc=ab A->∃t0,AM ps I t=ab t0/\bF M A t0
 |[],xs,I,tc,A,t,J,U,e=>by
  cases xs<;>first|simp only[aO]at J;subst J;have e:ab tc=ab A:=e;cases e;exact⟨t,rfl,U⟩|cases e
 |p::ps,xs,I,tc,A,t,J,U,e=>by
  cases xs<;>first|rename_i x xs;simp only[aO]at J;obtain⟨u,I,rfl,h1,h2⟩:=J;exact adY ps h2 (U.set h1 p) e|cases e
theorem Dq(h:Heap) c y:ar (bC h c ae) y=if y=c then ae else ar h y:=by
 rw[cy,cy,eO];grind
theorem auT(l:Good C ih)(G:HS M ch h){b c:Nat}{xs:List CV}{H:List V}(m:M.b b=ab c)(T:aO M xs H)(e:Fu ih b xs wb ch k=ab r):ko wb M ch h (lift [] (xL (X C.E) c H h)) k r:=by
 unfold Fu at e;split at e
 .rename_i f tc ps bT body p;obtain⟨c',t,K,W,N⟩:=G.xr b _ p;rw[m]at K;cases K;obtain⟨Y,s,e⟩:=ay.1 e;obtain⟨t0,p1,p2⟩:=adY ps T N s;have A:(bC h c ae).length=h.length:=by simp
  obtain⟨u,Bj,N1,M1,t1,h1,mk1,a1,a2,a3,U,_,⟨_,v⟩,e⟩:=l _ _ _ _ _ _ _ _ e M t0 _ 1 0 [] (G.Ky p rfl (ab .hole) (λy I=>by cases I;rfl) m A (λy I=>by rw[Dq,ax I]) (λy I=>by cases I;exact⟨c,m,by rw[Dq,aK rfl]⟩)) p2;have v:=v (by cases h8 bT<;>rfl)
  subst v;cases u with
  |exit _|ret=>cases e
  |nm=>
  obtain⟨C4,tc2,w,O,t2,h2,D5,b1,P,b3,g,_,⟨_,x⟩,e⟩:=l _ _ _ _ _ _ _ _ e M1 t1 h1 1 0 [] a2 a3;have x:=x (by cases h8 body<;>rfl)
  subst x;dsimp only at e;split at e
  .rename_i Q;have Z:=U.le.trans g.le;have a:=Z.b _ _ m;have J:=(P.len _ _ a).2;have R:(cW ch b .hole).length=ch.length:=e9 ..;have n:∀y,ar _ y=if y=c then ab (.lp f t ps bT body)else ar h2 y:=λy=>bR _ _ _ _ (dj J)
   have z:HS O (cW w b (.nN f tc ps bT body)) (aI h2 c (.lp f t ps bT body)):=P.Ky Q rfl _ (λy I=>by cases I;rfl) a (by rw[b9,aK J]) (λy I=>by rw[n,ax I]) (λy I=>by
    cases I;exact⟨c,t,a,by grind,N.mono Z⟩)
   refine⟨.im _,_,.sy .bool ag,_,O,?_,by rfl,z,⟨Z,by rw[e9];exact b8 (R▸U.lc) g.lc,by rw[b9,aK J];exact b8 (A▸U.lh) g.lh,λi hi hw=>?_,λi d B=>?_,λd B S=>?_⟩,e⟩
   .unfold xL;rw[W];simp only;rw[p1,ah,a1];show lift [] (match X C.E f 1 0 body _ with
     |some (.nm,s2)=>(match s2.df with
      |[]=>ab _
      |_=>ae)
     |_=>ae)=_
    rw[b1];rfl
   .rw [gp _ _ _ _ (fy Q)];split<;>try grind
    rename_i D;rw[g.keep i (fY (R▸hi) U.lc) hw,U.keep i (by omega) hw,gp _ _ _ _ (fy p),ax D]
   .rcases g.nb i d B with⟨j,F⟩|q
    .exact (U.nb j d F).imp id λq=>A▸q
    exact .inr (b8 (A▸U.lh) q)
   have o:d≠c:=λq=>S b (q▸m)
   rw[n,ax o];have e1:ar h1 d=ar h d:=by
    rw[U.out d (by omega) S,Dq,ax o]
   rw[<-e1];refine g.out d (fY (A.symm▸B) U.lh) λj F=>?_
   rcases U.nb j d F with⟨i,ei⟩|q
   all_goals grind
  trivial
 trivial
theorem awN{tc:TC}{t:Tm}(U:bF M tc t){c:Call}{q:Nat×List CV}(e:ye tc c=ab q):∃d Z,ry t c=ab (d,Z)/\M.b q.1=ab d/\aO M q.2 Z:=by
 unfold ye at e;split at e
 .rename_i a I;have A:=je U a;split at e
  .rename_i b f;cases e;rw[f]at A;obtain⟨d,g,J⟩:=A;refine⟨d,_,?_,g,Bq U _⟩;simp[ry,I,J]
  trivial
 trivial
theorem XV(hC:jK C)(J:Good C ih){tc:TC}{t:Tm}(U:HS M ch h)(Z:bF M tc t){f:Nat}{keep:Bool}{op:Op}(e:CZ C ih f keep wb op tc ch k=ab r):
  (∀c,op≠.defer c)/\ko wb M ch h (RV C.E h.length keep t h op) k r:=by
 cases op with
 |defer c=>cases e
 |call c=>
  refine⟨λc q=>(by cases q),?_⟩
  have A:(match c.callee with
   |.builtin _=>oX _ wb _ tc _ ch k
   |_=>match ye tc c with
    |some q=>Fu ih _ _ wb ch k
    |none=>(sV tc c).bind _)=ab r:=e
  show ko wb M ch h (match c.callee with
   |.builtin _=>lift [] _
   |_=>kG _ _ _ t c h []) k r
  cases I:c.callee with
  |builtin b=>
   rw[I]at A;exact ko.of (u5 U Z A)
  |value w=>
   rw[I]at A;replace A:(match ye tc c with
    |some q=>Fu ih _ _ wb ch k
    |none=>(sV tc c).bind _)=ab r:=A
   split at A
   .rename_i q i;obtain⟨d,j,l,m,n⟩:=awN Z i;unfold kG;rw[l];exact auT J U m n A
   obtain⟨g,a,A⟩:=ay.1 A;obtain⟨j,o,p,s⟩:=LU Z a;simp[kG,s,o,ake hC J U p A]
  |invoke u nm=>
   rw[I]at A;have v:ye tc c=ae:=by simp[ye,I]
   rw[v]at A;obtain⟨g,a,A⟩:=ay.1 A;simp_all[sV,a,I]
 |_=>
  refine⟨λc q=>(by cases q),?_⟩
  unfold CZ at e;exact ko.of (u5 U Z e)
theorem bF.u3{M:Mu}{x:CV}:∀{t:TC} {u:Tm} {i:Nat},bF M t u->VR M x (u.get i)->bF M (t.set i x) u
 |.e,.e,_,_,_=>trivial
 |.n v l r,.n U Z a,i,⟨h1,h2,I⟩,A=>by
  rw[TC.pZ];rw[Tm.Ii]at A;by_cases J:i=0
  .rw [aK J]at A|-;trivial
  rw[ax J]at A|-;by_cases hm:i%2=1
  .rw [aK hm]at A|-;exact⟨h1,bF.u3 h2 A,I⟩
  rw[ax hm]at A|-;exact⟨h1,h2,bF.u3 I A⟩
theorem HK:∀{l:List Oper} {j:Nat} {o:Oper} {d:Nat},bG l j=ab o->o.dst=ab d->bg (dstsOf l) d=ag
 |[],j,_,_,e,_=>by cases e
 |a::l,0,o,d,e,A=>by
  have I:=hH e;rw[<-I]at A;show bg (match a.dst with|some d=>d::dstsOf l|none=>dstsOf l) d=ag
  rw[A];show(bif al d d then ag else bg _ d)=ag;rw[gj];rfl
 |a::l,j+1,o,d,e,A=>by
  have ih:=HK (l:=l) (j:=j) e A;show bg (match a.dst with|some d=>d::dstsOf l|none=>dstsOf l) d=ag
  cases a.dst
  .omega
  rename_i q;show(bif al q d then ag else bg _ d)=ag;rw[ih];cases al q d<;>rfl
theorem Io{tc:TC}{t:Tm}(Z:bF M tc t){ops:Array Oper}{g:Option (Nat×Bool)}{U no:TC->Option ρ}(e:uj ops tc g U no=ab r):
  ∃I,bF M I t/\(∀i,bg (dstsOf ops.toList) i=af->I.get i=tc.get i)/\(guardOf ops t g=ab ag/\U I=ab r∨guardOf ops t g=ab af/\no I=ab r):=by
 unfold uj at e;split at e
 .exact ⟨tc,Z,λ_ _=>rfl,.inl ⟨rfl,e⟩⟩
 rename_i j A;obtain⟨o,f,e⟩:=ay.1 e;obtain⟨d,l,e⟩:=ay.1 e;have m:∀v,t.get d=v->guardOf ops t (ab (j,A))=match v with
   |.im (.bool b)=>ab (bif b then A else not A)
   |.im (.aH [])=>ab af
   |_=>ae:=λv J=>by
  show(bG _ j).bind _=_;grind
 have J:=Z.get d;have c:∀b,t.get d=.im (.bool b)->bF M _ t/\∀i,bg _ i=af->(tc.set d (.sy .bool b)).get i=tc.get i:=λb a=>
  ⟨Z.u3 (by trivial),λi hi=>TC.ui _ _ _ _ λq=>by subst q;rw[HK f l]at hi;cases hi⟩
 split at e
 .rename_i b a;rw[a]at J;have:=J.bool;grind
 .rename_i a;rw[a]at J;obtain⟨vs,J,h2⟩:=J;subst h2;rw[m _ J];exact⟨tc,Z,λ_ _=>rfl,.inr ⟨rfl,e⟩⟩
 trivial
theorem sE{tc:TC}{t:Tm}(A:bF M tc t){v:CV}{u:V}(I:VR M v u) d:bF M (mX tc d v) (putDst t d u):=by
 cases d<;>first|rename_i n;exact A.set I n|exact A
theorem Kw{l:List Oper}{o:Oper}(A:o∈l) tc v i(hi:bg (dstsOf l) i=af):(mX tc o.dst v).get i=tc.get i:=by
 cases I:o.dst<;>first|rename_i d;refine TC.ui _ _ _ _ λq=>?_;subst q;obtain⟨j,J⟩:=Ge A;rw[HK (by rw[cu];exact J) I]at hi;cases hi|rfl
theorem TC.Ij:∀(t:TC) i x,(t.set i x).get i=x∨(t.set i x).get i=.undef/\t.get i=.undef
 |.e,i,x=>.inr ⟨rfl,rfl⟩
 |.n v l r,i,x=>by
  rw[TC.pZ];by_cases hi:i=0
  .rw [aK hi,TC.gb,aK hi];exact .inl rfl
  rw[ax hi];by_cases hm:i%2=1
  .rw [aK hm,TC.gb,TC.gb,ax hi,aK hm,ax hi,aK hm];exact TC.Ij l _ x
  rw[ax hm,TC.gb,TC.gb,ax hi,ax hm,ax hi,ax hm];exact TC.Ij r _ x
theorem yb:∀l t i,(n2 l t).get i=if i∈l then .undef else t.get i
 |[],t,i=>by simp;rfl
 |a::l,t,i=>by
  show(n2 l _).get i=_;rw[yb l];by_cases A:i∈l
  .simp [A]
  by_cases I:i=a
  .subst I;rcases TC.Ij t i .undef with h|⟨h,_⟩<;>simp[A,h]
  rw[TC.ui _ _ _ _ λq=>I q.symm];simp[A,I]
theorem bF.LA:∀{t:TC} {u:Tm} {i:Nat} {x:V},bF M t u->t.get i=.undef->bF M t (u.set i x)
 |.e,.e,_,_,_,_=>trivial
 |.n v l r,.n w I J,i,x,⟨h1,h2,A⟩,e=>by
  rw[TC.gb]at e;rw[Tm.afE];by_cases hi:i=0
  .rw [aK hi]at e|-;subst e;exact⟨trivial,h2,A⟩
  rw[ax hi]at e|-;by_cases hm:i%2=1
  .rw [aK hm]at e|-;exact⟨h1,h2.LA e,A⟩
  rw[ax hm]at e|-;exact⟨h1,h2,A.LA e⟩
theorem Uw:∀l {tc:TC} {t:Tm},bF M tc t->bF M (n2 l tc) t
 |[],_,_,h=>h
 |a::l,tc,t,h=>Uw l (tc:=tc.set a _) (h.u3 trivial)
theorem acU{E:Env}{ih:Nat->Nat->Nat->Code->St->Option (Ex×St)}{keep:Bool}{ops:Array Oper}{aC:Nat}{o:Oper}{st A:St}(e:e6 E ih keep ops aC o st=ab A):∃v,A.t=putDst st.t o.dst v:=by
 unfold e6 at e;grind
theorem aff{E:Env}{ih:Nat->Nat->Nat->Code->St->Option (Ex×St)}{keep:Bool}{ops:Array Oper}{a:TC}:∀{l:List Oper} {st A:St},dQ E ih keep ops l st=ab A->(∀d,bg (dstsOf l) d=ag->a.get d=.undef)->bF M a st.t->bF M a A.t
 |[],st,A,e,_,h=>by cases e;exact h
 |o::l,st,A,e,J,h=>by
  replace e:(match e6 E ih _ _ _ o st with|none=>ae|some _=>dQ E ih _ _ l _)=ab _:=e
  split at e
  .cases e
  rename_i Z h1;obtain⟨v,b⟩:=acU h1;have U:dstsOf (o::l)=match o.dst with|some d=>d::dstsOf l|none=>dstsOf l:=rfl
  refine aff e (λd q=>J d ?_) ?_
  .rw [U];split
   .show (bif al _ d then ag else bg _ d)=ag;rw[q];cases al _ d<;>rfl
   omega
  rw[b];cases I:o.dst<;>first|rename_i d;refine h.LA (J d ?_);rw[U,I];show(bif al d d then ag else _)=ag;rw[gj];rfl|exact h
theorem afb{E:Env}{ih:Nat->Nat->Nat->Code->St->Option (Ex×St)}{keep:Bool}{ops:Array Oper}{r:List Oper}{A:St}:∀{l:List Oper} {st:St},dQ E ih keep ops l st=ab A->dQ E ih keep ops (l++r) st=dQ E ih keep ops r A
 |[],st,e=>by cases e;rfl
 |o::l,st,e=>by
  replace e:(match e6 E ih _ _ _ o st with|none=>ae|some A=>dQ E ih _ _ l _)=ab _:=e
  show(match e6 E ih _ _ _ o st with|none=>ae|some _=>dQ E ih _ _ (l++r) _)=_
  split at e
  .cases e
  exact afb e
theorem aw9{l:List Nat}{b:Nat}(h:b∈l):bg l b=ag:=by
 induction l with
 |nil=>cases h
 |cons a l ih=>
  show(bif al a b then ag else bg l b)=ag;rcases du.1 h with rfl|h
  all_goals simp_all
theorem abK{l:List Nat}{b:Nat}(h:bg l b=ag):b∈l:=by
 induction l with
 |nil=>cases h
 |cons a l ih=>
  have h:(bif al a b then ag else bg l b)=ag:=h;cases e:al a b with
  |true=>simp_all
  |false=>grind
theorem XY{g l:List Oper}(A:∀o∈g,o∈l){i:Nat}(hi:bg (dstsOf l) i=af):i ∉ dstsOf g:=λq=>by
 have key:∀{g:List _},i∈dstsOf g->∃o∈g,o.dst=ab i:=by
  intro g;induction g with
  |nil=>intro q;cases q
  |cons o g ih=>
   have J:dstsOf (o::g)=match o.dst with|some d=>d::dstsOf g|none=>dstsOf g:=rfl
   grind
 obtain⟨o,h1,h2⟩:=key q;obtain⟨j,I⟩:=Ge (A o h1);rw[HK (by rw[cu];exact I) h2]at hi
 cases hi
theorem afX{d:Nat}:∀{l g r:List Oper} {p:Oper} {x y:Operand},Be d l=ab (g,(p,x,y),r)->l=g++p::r/\p.op=.pick (.tmp d) x y
 |[],_,_,_,_,_,e=>by cases e
 |o::l,g,r,p,x,y,e=>by
  unfold Be at e;split at e
  .rename_i U Z hp;cases e;refine⟨rfl,?_⟩;split at hp
   .rename_i c a b f;cases A:al c d<;>first|rw[A,au]at hp;cases hp|rw[A,ao]at hp;cases hp;rw[f,bU A]
   cases hp
  cases J:o.guard.isSome
  .rw [J,au]at e;cases e
  rw[J,ao]at e;cases I:Be d l<;>first|rename_i q;obtain⟨i,⟨j,U,Z⟩,m⟩:=q;rw[I]at e;cases e;obtain⟨h1,h2⟩:=afX I;exact⟨by rw[h1];rfl,h2⟩|rw[I]at e;cases e
theorem YX{ops:Array Oper}{o:Oper}{l g r:List Oper}{tc:TC}{d:Nat}{b:Bool}{p:Oper}{x y:Operand}(e:Il ops o l tc=ab (d,b,g,(p,x,y),r)):o::l=g++p::r/\p.op=.pick (.tmp d) x y/\tc.get d=.sy .bool b:=by
 obtain⟨q,A,e⟩:=ay.1 e;have U:Y3 tc q.2.1=af:=by
  grind
 rw[U]at e;cases I:Qw (tc.get q.1)with
 |none=>simp_all
 |some b'=>
  rw[I]at e;obtain⟨Z,c⟩:=q;have a:tc.get Z=.sy .bool b':=by
   unfold Qw at I;grind
  cases e;unfold YW at A;split at A<;>try trivial
  obtain⟨f,_,A⟩:=ay.1 A;obtain⟨d',_,A⟩:=ay.1 A;cases J:Be d' (o::l)with
  |none=>simp_all
  |some i=>
   rw[J]at A;cases A;obtain⟨h1,h2⟩:=afX J;trivial
theorem HS.forget{M':Mu}{ba:CH}{h':Heap}(A:HS M ch h)(I:HS M' ba h')(hf:Fr (λb=>bu (aF ch) b) M ch h M' ba h'):HS M ch h'/\Fr wb M ch h M ch h':=by
 have J:=λb U=>hf.keep b U (by
  rw[<-ji];simp_all)
 refine⟨⟨λb cv e=>?_,λb n cl t l e=>?_,A.inj,A.new,λb c e=>⟨(A.len b c e).1,fY (A.len b c e).2 hf.lh⟩,A.gw,λb x e=>(A.xr b x e).back hf.le (I.xr b x ((J b (fy e)).trans e))⟩,.refl M,aL _,hf.lh,λ_ _ _=>rfl,lA,hf.out⟩
 .obtain ⟨c0,Z,h1,_,a⟩:=A.cell b cv e;obtain⟨c,v,k1,k2,d⟩:=I.cell b cv ((J b (fy e)).trans e);rw[hf.le.b _ _ h1]at k1;cases k1;exact⟨c0,v,h1,k2,VR.back hf.le cv Z v a d⟩
 obtain⟨f,h1,h2⟩:=A.arr b n cl t l e;obtain⟨u,k1,k2⟩:=I.arr b n cl t l ((J b (fy e)).trans e);rw[hf.le.o _ _ _ h1]at k1;grind
theorem adI{v:Bool}{c w:CV}{b:Bool}(e:AJ v c w=ab b):c=.sy .bool v/\w=.sy .bool b:=by
 unfold AJ at e;grind
theorem A5{df:List (Nat×List V)}(hC:jK C)(J:Good C ih){f:Nat}{keep:Bool}{ops:Array Oper}:∀(n:Nat) {ρ:Type} {r:ρ} {wb:Nat->Bool} (l:List Oper) {tc:TC} {t:Tm} {M:Mu} {ch:CH} {h:Heap} {D:TC->CH->Option ρ},(∀o∈l,o∈ops.toList)->HS M ch h->bF M tc t->xN C ih f keep ops n ρ l wb tc ch D=ab r->
  ∃F ba M' t' h',dQ C.E (X C.E) keep ops l ⟨t,h,[],df⟩=ab ⟨t',h',[],df⟩/\HS M' ba h'/\bF M' F t'/\Fr wb M ch h M' ba h'/\(∀i,bg (dstsOf ops.toList) i=af->F.get i=tc.get i)/\D F ba=ab r
 |0,_,_,_,_,_,_,_,_,_,_,_,_,_,e=>by cases e
 |_+1,_,_,_,[],tc,t,M,ch,h,D,_,Q,R,e=>⟨tc,ch,M,t,h,rfl,Q,R,.refl ..,λ_ _=>rfl,e⟩
 |n+1,ρ,r,wb,o::l,tc,t,M,ch,h,D,T,Q,R,e=>by
  have aI:=Kw (T o (eh ..));have W:∀o∈l,o∈ops.toList:=λo ho=>T o (ff _ ho)
  replace e:(match Il ops o l tc with
   |some (d,t,g,(p,x,y),l')=>zm ops (λtc k=>xN C ih f keep ops n Bool g (λb=>bu (aF ch) b) tc ch k) d x y p g t tc λtc=>xN C ih f keep ops n ρ l' wb tc ch D
   |none=>uj ops tc o.guard (λtc=>CZ C ih f keep wb o.op tc ch λv ch=>xN C ih f keep ops n ρ l wb (mX tc o.dst v) ch D) (λtc=>xN C ih f keep ops n ρ l wb (mX tc o.dst (.aH [])) ch D))=ab r:=e
  split at e
  .rename_i d b g p x y l2 PE;obtain⟨B,Y,hb⟩:=YX PE;have Dn:=λq hq=>T q (by rw[B];exact cD.2 (.inl hq))
   have PX:p∈ops.toList:=T p (by rw[B];exact cD.2 (.inr (eh ..)))
   have so:=λq hq=>T q (by rw[B];exact cD.2 (.inr (ff _ hq)))
   unfold zm at e;obtain⟨c,S,e⟩:=ay.1 e;have hv:=R.get d;rw[hb]at hv;have P2:=hv.bool;have side:∃t1 h1,dQ C.E (X C.E) keep ops g ⟨t,h,[],df⟩=ab ⟨t1,h1,[],df⟩/\HS M ch h1/\Fr wb M ch h M ch h1/\oU h1 (ev t1 (.tmp d)) (ev t1 x) (ev t1 y)=ab (.im (.bool c),h1):=by
    have one:∀(v:Bool) (z:Operand),b=v->xN C ih f keep ops n Bool g (λb=>bu (aF ch) b) (tc.set d (.sy .bool v)) ch (λI _=>AJ v (I.get d) (vC I z))=ab c->
      ∃t1 h1,dQ C.E (X C.E) keep ops g ⟨t,h,[],df⟩=ab ⟨t1,h1,[],df⟩/\HS M ch h1/\Fr wb M ch h M ch h1/\ev t1 (.tmp d)=.im (.bool v)/\ev t1 z=.im (.bool c):=λv z Pw S=>by
     subst Pw;obtain⟨G,N1,M1,t1,h1,w,Z,U,a,_,r6⟩:=A5 hC J n g Dn Q (R.u3 (x:=.sy .bool b) (by rw[P2];rfl)) S
     obtain⟨q1,q2⟩:=adI r6;obtain⟨f1,f2⟩:=Q.forget (wb:=wb) Z a;have k1:=U.get d;rw[q1]at k1;have k2:=je U z;rw[q2]at k2;exact⟨t1,h1,w,f1,f2,k1.bool,k2.bool⟩
    cases b<;>first|rw[au]at S;obtain⟨t1,h1,w,Z,U,a,H⟩:=one af y rfl S;exact⟨t1,h1,w,Z,U,by unfold oU;rw[a];show(bif af then ab (ev t1 x,h1)else ab (ev t1 y,h1))=_;rw[au,H]⟩|rw[ao]at S;obtain⟨t1,h1,w,Z,U,a,H⟩:=one ag x rfl S;exact⟨t1,h1,w,Z,U,by unfold oU;rw[a];show(bif ag then ab (ev t1 x,h1)else ab (ev t1 y,h1))=_;rw[ao,H]⟩
   obtain⟨t1,h1,w,Z,U,a⟩:=side;have j:bF M (n2 (dstsOf g) tc) t1:=aff w (λi q=>by rw[yb,aK (abK q)]) (Uw _ R)
   have Ds:∀i,bg (dstsOf ops.toList) i=af->(n2 (dstsOf g) tc).get i=tc.get i:=λi hi=>by
    rw[yb,ax (XY Dn hi)]
   have m:=Kw PX;have A:∀v,e6 C.E (X C.E) keep ops h1.length p ⟨t1,h1,[],df⟩=ab ⟨putDst t1 p.dst v,h1,[],df⟩->dQ C.E (X C.E) keep ops (o::l) ⟨t,h,[],df⟩=dQ C.E (X C.E) keep ops l2 ⟨putDst t1 p.dst v,h1,[],df⟩:=λv q=>by
    rw[B,afb w];show(match e6 C.E (X C.E) keep ops (aF h1) p ⟨t1,h1,[],df⟩with
     |none=>ae
     |some s=>dQ C.E (X C.E) keep ops l2 s)=_
    rw[bz,q]
   obtain⟨I,DB,wD,⟨K,e⟩|⟨K,e⟩⟩:=Io j e
   .obtain ⟨N,O,M3,t3,h3,s1,s2,s3,s4,s5,s6⟩:=A5 hC J n l2 so Z (sE DB (v:=.sy .bool c) (u:=.im (.bool c)) rfl p.dst) e;refine⟨N,O,M3,t3,h3,?_,s2,s3,U.trans s4,λi hi=>(s5 i hi).trans ((m I _ i hi).trans ((wD i hi).trans (Ds i hi))),s6⟩
    rw[A (.im (.bool c)) (RW K (λc q=>by rw[Y]at q;cases q) (by
     rw[Y];show lift [] (oU h1 (ev t1 (.tmp d)) (ev t1 x) (ev t1 y))=_;rw[a];rfl))]
    omega
   obtain⟨N,O,M3,t3,h3,s1,s2,s3,s4,s5,s6⟩:=A5 hC J n l2 so Z (sE DB (v:=.aH []) (u:=.im (.aH [])) (by simp only[VR];exact⟨[],rfl,rfl⟩) p.dst) e
   refine⟨N,O,M3,t3,h3,?_,s2,s3,U.trans s4,λi hi=>(s5 i hi).trans ((m I _ i hi).trans ((wD i hi).trans (Ds i hi))),s6⟩
   rw[A (.im (.aH [])) (by
    unfold e6;rw[K])]
   omega
  have A:dQ C.E (X C.E) keep ops (o::l) ⟨t,h,[],df⟩=(match e6 C.E (X C.E) keep ops h.length o ⟨t,h,[],df⟩with
    |none=>ae
    |some s=>dQ C.E (X C.E) keep ops l s):=by
   show(match e6 C.E (X C.E) keep ops (aF h) o ⟨t,h,[],df⟩with
    |none=>ae
    |some s=>dQ C.E (X C.E) keep ops l s)=_
   rw[bz]
  obtain⟨G,j,zL,⟨K,e⟩|⟨K,e⟩⟩:=Io R e
  .obtain ⟨wF,v,h',cv,ba,M',q1,q2,q3,q4,q5⟩:=XV hC J Q j e;obtain⟨I,P,M2,t2,h2,w,Z,U,a,H,r6⟩:=A5 hC J n l W q3 (sE (j.mono q4.le) q2 o.dst) q5;refine⟨I,P,M2,t2,h2,?_,Z,U,q4.trans a,λi hi=>(H i hi).trans ((aI G cv i hi).trans (zL i hi)),r6⟩
   rw[A];rw[RW K wF q1];omega
  obtain⟨I,P,M2,t2,h2,w,Z,U,a,H,r6⟩:=A5 hC J n l W Q (sE j (v:=.aH []) (u:=.im (.aH [])) (by simp only[VR];exact⟨[],rfl,rfl⟩) o.dst) e
  refine⟨I,P,M2,t2,h2,?_,Z,U,a,λi hi=>(H i hi).trans ((aI G (.aH []) i hi).trans (zL i hi)),r6⟩
  rw[A];have:e6 C.E (X C.E) keep ops h.length o ⟨t,h,[],df⟩=ab ⟨putDst t o.dst (.im (.aH [])),h,[],df⟩:=by
   unfold e6;rw[K]
  rw[this];omega
theorem au7{df:List (Nat×List V)}(hC:jK C)(I:Good C ih){f:Nat}{keep:Bool}{ops:Array Oper} l{tc:TC}{t:Tm}{M:Mu}{ch:CH}{h:Heap}{J:TC->CH->Option ρ}(Z:∀o∈l,o∈ops.toList)(a:HS M ch h)(b:bF M tc t)(e:Ll C ih f keep wb ops l tc ch J=ab r):
  ∃A ba M' U h',dQ C.E (X C.E) keep ops l ⟨t,h,[],df⟩=ab ⟨U,h',[],df⟩/\HS M' ba h'/\bF M' A U/\Fr wb M ch h M' ba h'/\(∀i,bg (dstsOf ops.toList) i=af->A.get i=tc.get i)/\J A ba=ab r:=
 A5 hC I _ l Z a b e
end
end
section
variable [Gh]
section
variable {ρ:Type} {wb:Nat->Bool} {M:Mu} {ch:CH} {h:Heap} {k:KC ρ} {r:ρ}
variable {C:CE} {ih:(ρ:Type)->Nat->Code->(Nat->Bool)->TC->CH->KX ρ->Option ρ}
mutual
theorem D.Lq:∀d:D,D.same d d=ag
 |.bool _|.int _ _|.fn _|.nil|.dD|.eE|.mN|.str _=>by simp[D.same]
 |.ref d=>by simp[D.same,D.Lq d]
 |.an l=>by simp[D.same,D.Lr l]
 |.aH l=>by simp[D.same,D.Lr l]
 |.agg w l=>by simp[D.same,D.Lr l]
 |.ifc t d=>by simp[D.same,D.Lq d]
theorem D.Lr:∀l:List D,D.nc l l=ag
 |[]=>by simp[D.nc]
 |d::l=>by simp[D.nc,D.Lq d,D.Lr l]
end
theorem afq:∀l,(∀x∈l,x=ae∨∃d,x=ab (.cell (.im d)))->lC l l=ag
 |[],_=>rfl
 |a::l,q=>by
  have ih:=afq l λx A=>q x (ff _ A)
  rcases q a eh .. with rfl|⟨d,rfl⟩
  .exact ih
  .show (bif cj.same _ _ then lC l l else af)=ag;have:cj.same (.cell (.im d)) (.cell (.im d))=ag:=by simp[cj.same,D.Lq]
   rw[this,ao];exact ih
theorem V1:∀l A i,bg (iH 0 l A) i=(bg A i||bg l i)
 |[],A,i=>by show bg A i=(bg _ i||false);rw[Bool.or_false]
 |b::l,A,i=>by
  have e:iH 0 (b::l) _=iH 0 l (bif bg _ b then A else A++[b]):=rfl;rw[e,V1 l];have J:bg (b::l) i=bif al b i then ag else bg l i:=rfl;rw[J];cases U:bg _ b with
  |true=>
   rw[ao];cases Z:al b i<;>first|obtain rfl:=bU Z;rw[U];rfl|rfl
  |false=>
   rw[au];have:bg (A++[b]) i=(bg A i||bif al b i then ag else af):=by
    clear e U J;induction A with
    |nil=>rfl
    |cons a A I=>
     show(bif al a i then ag else bg (A++[b]) i)=((bif al a i then ag else bg _ i)||_)
     rw[I];cases al a i<;>rfl
   rw[this];cases al b i<;>cases bg _ i<;>rfl
theorem Zh:∀(l:List Nat),(∀i∈l,∃d,ar h i=ab (.cell (.im d)))->wz (l.map λb=>ar h b)=[]
 |[],_=>rfl
 |i::l,q=>by
  obtain⟨d,A⟩:=q i eh ..;show(match ar h i with|some (.cell v)=>V.refs v++wz _|some (.mp es)=>aeU es++wz _|some (.cG _ _ I)=>fu I++wz _|some (.lp _ t _ _ _)=>Tm.refs t++wz _|_=>wz _)=[]
  rw[A];show[]++_=[];rw[Gi];exact Zh l λj J=>q j (ff _ J)
theorem auA{l:List Nat}(q:∀i∈l,∃d,ar h i=ab (.cell (.im d))):l9 h 0 64 l=l:=by
 show(bif al _ _ then l else _)=l
 rw[Zh l q];show(bif al (aF l) _ then l else _)=l;rw[gj,ao]
theorem aeV:∀A,fu A=V.oS A
 |[]=>by simp[V.oS];rfl
 |u::A=>by
  have e:fu (u::A)=match V.refs u with|[]=>fu A|r=>r++fu A:=rfl
  have I:V.refs u=u.m7:=by cases u<;>first|rfl|simp[V.refs]
  rw[e,aeV A,I];simp[V.oS];split
  .rename_i q;rw[q];rfl
  .rfl
def Mu.cut(M:Mu)(A:List Nat):Mu:=⟨λb=>if b∈A then M.b b else ae,λb n=>if b∈A then M.o b n else ae⟩
def Gw(M:Mu) ch(A:List Nat)(l:List Nat)(cs:List Nat):=
 (∀c∈cs,∃b∈l,M.b b=ab c)/\(∀b∈l,∃c∈cs,M.b b=ab c)/\∀b∈l,∃t x,aD ch b=ab (.cell (.sy t x))
theorem avk{A:List Nat} v{l:List Nat}{u:V}(e:CV.seen ch v=ab l)(J:∀b∈l,b∈A)(r:VR M v u):VR (M.cut A) v u/\Gw M ch A l u.m7:=by
 unfold CV.seen at e;split at e
 .cases e;subst r;exact⟨rfl,by simp[V.m7,Gw]⟩
 .split at e
  .rename_i t x U;cases e;obtain⟨c,Z,rfl⟩:=r;refine⟨⟨c,?_,rfl⟩,?_⟩
   .show (if _∈A then M.b _ else ae)=ab c;grind
   .simp [V.m7];exact⟨λd I=>⟨_,gT.2 rfl,by grind⟩,λd I=>⟨c,gT.2 rfl,by grind⟩,λd I=>⟨t,x,by grind⟩⟩
  trivial
 trivial
theorem afA{bs:List Nat}:∀vs {l:List Nat} {I:List V},CV.Lz ch vs=ab l->(∀b∈l,b∈bs)->aO M vs I->aO (M.cut bs) vs I/\Gw M ch bs l (V.oS I)
 |[],l,I,e,_,r=>by
  cases e;simp[aO]at r|-;subst r;exact⟨rfl,by simp[V.oS,Gw]⟩
 |v::vs,l,I,e,J,r=>by
  replace e:(match CV.seen ch v,CV.Lz ch vs with|some x,ab y=>ab _|_,_=>ae)=ab l:=e
  split at e
  .rename_i x y U Z;cases e;simp[aO]at r|-;obtain⟨u,a,rfl,c,f⟩:=r;obtain⟨g,i,j,m⟩:=avk v U (λb h=>J b (cD.2 (.inl h))) c
   obtain⟨n,o,p,q⟩:=afA vs Z (λb h=>J b (cD.2 (.inr h))) f
   refine⟨⟨u,a,rfl,g,n⟩,?_⟩;simp[V.oS];exact⟨λd A=>(cD.1 A).elim (λA=>let⟨b,h1,h2⟩:=i d A;⟨b,cD.2 (.inl h1),h2⟩) λA=>let⟨b,h1,h2⟩:=o d A;⟨b,cD.2 (.inr h1),h2⟩,
    λd A=>(cD.1 A).elim (λA=>let⟨b,h1,h2⟩:=j d A;⟨b,cD.2 (.inl h1),h2⟩) λA=>let⟨b,h1,h2⟩:=p d A;⟨b,cD.2 (.inr h1),h2⟩,
    λd A=>(cD.1 A).elim (m d) (q d)⟩
  .cases e
theorem RQ A:∀(ch:CH) n,(bn (motive:=λ_=>Nat->CH) (λ_=>[]) (λb _ ih i=>(bif bg A i then b else ae)::ih (i+1)) ch n).length=ch.length/\
  ∀i,(bn (motive:=λ_=>Nat->CH) (λ_=>[]) (λb _ ih i=>(bif bg A i then b else ae)::ih (i+1)) ch n)[i]? =ch[i]?.map λb=>bif bg A (n+i)then b else ae
 |[],n=>⟨rfl,λi=>rfl⟩
 |b::ch,n=>by
  obtain⟨h1,h2⟩:=RQ A ch _;refine⟨by simp only[fH];rw[h1],λi=>?_⟩
  cases i with
  |zero=>rfl
  |succ i=>
   simp;rw[h2 i];have:n+1+i=n+(i+1):=by omega
   rw[this]
theorem RR A ch:(Em A ch).length=ch.length:=(RQ A ch 0).1
theorem AA A ch b:aD (Em A ch) b=if b∈A then aD ch b else ae:=by
 have h2:(Em A ch)[b]? =ch[b]?.map _:=(RQ A ch 0).2 b
 unfold aD;rw[cu,h2,db];by_cases I:b∈A
 .rw [aK I,mH.2 I];simp
 .rw [ax I];cases J:bg A b with
  |true=>exact absurd (mH.1 J) I
  |false=>simp
theorem avY{cv:CV}(e:(match cv with|.sy t x=>k (.sy t x) ch|_=>ae)=ab r):∃t x,cv=.sy t x/\k (.sy t x) ch=ab r:=by
 grind
theorem ajf(s:Good C ih)(d:HS M ch h){g:Nat}{args:List CV}{Z:List V}(ha:aO M args Z)(e:Nq C ih g args ch k=ab r):
  ∃v h2 cv,gK C.E (X C.E) g Z (only (l9 h 0 64 (iH 0 (fu Z) [])) h) []=ab (v,h2,[])/\lC (only (l9 h 0 64 (iH 0 (fu Z) [])) h) (h2.take (aF h))=ag/\VR M cv v/\k cv ch=ab r:=by
 unfold Nq at e;replace e:=ay.1 e;obtain⟨bs,u,e⟩:=e;obtain⟨hv,Q,s2,S⟩:=afA (bs:=bs) args u (λ_ q=>q) ha
 rw[<-aeV]at Q s2;have J:∀b∈bs,∀c,M.b b=ab c->∃t x,aD ch b=ab (.cell (.sy t x))/\ar h c=ab (.cell (.im (t.enc x))):=λb A c T=>by
  obtain⟨t,x,I⟩:=S b A;obtain⟨c',v,h1,h2,W⟩:=d.cell b _ I;rw[T]at h1;cases h1;simp only[VR]at W;grind
 have w:∀i,bg (iH 0 (fu Z) []) i=ag↔i∈fu Z:=λi=>by
  simp[V1,Bool.false_or,mH]
 have hR:l9 h 0 64 (iH 0 (fu Z) [])=iH 0 (fu Z) []:=auA λi hi=>by
  obtain⟨b,A,hm⟩:=Q i ((w i).1 (mH.2 hi));grind
 rw[hR];generalize hRR:iH 0 (fu Z) []=R at*;have f:∀b∈bs,∀c,M.b b=ab c->bg R c=ag:=λb A c T=>by
  grind
 have U:∀b,(M.cut bs).b b=if b∈bs then M.b b else ae:=λ_=>rfl
 have y:HS (M.cut bs) (Em bs ch) (only R h):=by
  refine⟨λb cv q=>?_,λb n cl t l q=>?_,λb b' c z B D F=>?_,λb n cl t l q=>?_,λb c q=>?_,λb n x q=>?_,λb x q=>?_⟩
  .rw [AA]at q;split at q
   .rename_i A;obtain⟨c,v,h1,h2,W⟩:=d.cell b cv q;obtain⟨t,x,I,m⟩:=J b A c h1;rw[q]at I;cases I;rw[h2]at m;cases m;exact⟨c,_,by grind,by rw[J5,aK (f b A c h1)];omega,rfl⟩
   trivial
  .rw [AA]at q;grind
  .rw [AA]at z B;rw[U]at D F;split at z
   .rename_i A;split at B
    .rename_i G;rw[aK A]at D;rw[aK G]at F;exact d.inj b b' c z B D F
    trivial
   trivial
  .rw [AA]at q;grind
  .rw [U]at q;split at q
   .rw [RR,RS];exact d.len b c q
   trivial
  .have q:(if b∈bs then M.o b n else ae)=ab x:=q;split at q
   .rw [RR];exact d.gw b n x q
   trivial
  .rw [AA]at q;split at q
   .rename_i A;obtain⟨t',x,I⟩:=S b A;rw[q]at I;cases I;trivial
   trivial
 obtain⟨v,h2,cv,ch2,M2,r1,Y,r3,p,H⟩:=zT s y hv e;obtain⟨t,x,rfl,H⟩:=avY H
 .simp only[VR]at Y;subst Y;refine⟨_,h2,.sy t x,r1,?_,rfl,H⟩;have j:(only R h).length=h.length:=RS _ _;have K:h2.take (aF h)=only R h:=by
   rw[bz];have N:=p.lh;rw[j]at N;apply ahS;intro i;by_cases hi:i< h.length
   .rw [ahV hi];have g1:h2[i]? =ab (ar h2 i):=by
     rw[cy,gD (by omega)];rfl
    have O:(only R h)[i]? =ab (ar (only R h) i):=by
     rw[cy,gD (by omega)];rfl
    rw[g1,O];congr 1;by_cases A:∃b,(M.cut bs).b b=ab i
    .obtain ⟨b,A⟩:=A;have P:=A;rw[U]at A;split at A
     .rename_i a;obtain⟨t',x',I,m⟩:=J b a i A;have hk:=p.keep b (by simp[RR,fy,I]) (by
       show bu (aF ch) b=af;rw[bz,<-ji];exact λq=>absurd (fy I) (Vy.2 (jl q)))
      rw[AA,aK a,I]at hk;obtain⟨c',v',k1,k2,k3⟩:=r3.cell b _ hk;rw[p.le.b b i P]at k1;cases k1;simp only[VR]at k3;subst k3;rw[k2,J5,aK (f b a i A),m]
     trivial
    .exact p.out i (by omega) λb q=>A ⟨b,q⟩
   grind
  rw[K];refine afq _ λx I=>?_
  obtain⟨i,hi,rfl⟩:=List.getElem_of_mem I;have O:(only R h)[i]=ar (only R h) i:=by
   simp[cy,gD,hi]
  rw[O,J5];grind
theorem afR(U:HS M ch h) N:∀{args ws:List CV} {A:List V},TV ch args=ab ws->aO M args A->∃ds,nE h A=ab ds/\aO N ws (ds.map V.im)
 |[],ws,A,e,I=>by
  cases e;subst I;exact⟨[],rfl,by simp[aO]⟩
 |v::args,ws,A,e,I=>by
  replace e:(match TU ch v,TV ch _ with|some w,ab ws=>ab _|_,_=>ae)=ab ws:=e
  split at e
  .rename_i w Z hw J;cases e;simp[aO]at I;obtain⟨u,a,rfl,h1,h2⟩:=I;obtain⟨ds,f,g⟩:=afR U N J h2;have key:∃d,V.snap h u=ab d/\VR N w (.im d):=by
    unfold TU at hw;split at hw
    .cases hw;subst h1;exact⟨_,rfl,rfl⟩
    .rename_i b;split at hw
     .rename_i t x i;cases hw;simp[VR]at h1;obtain⟨c,j,rfl⟩:=h1;obtain⟨m,n,k1,k2,l⟩:=U.cell b _ i;rw[j]at k1;cases k1;subst l;refine⟨.ref _,?_,rfl⟩;show(match ar h c with|some (.cell u)=>(u.data h).map _|_=>ae)=_
      rw[k2];rfl
     .cases hw
    .cases hw
   obtain⟨d,d1,d2⟩:=key;refine⟨d::ds,?_,?_⟩
   .show (V.snap h u).bind (λd=>(nE h a).map _)=_
    rw[d1,f];rfl
   .simp only[mo,aO];exact⟨_,_,rfl,d2,g⟩
  .cases e
theorem Wa:∀{A:List V} {ds:List D},nD h A=ab ds->nE h A=ab ds
 |[],ds,e=>e
 |u::A,ds,e=>by
  replace e:(V.data h u).bind (λd=>(nD h A).map _)=ab ds:=e
  obtain⟨d,h1,e⟩:=ay.1 e;obtain⟨l,h2,rfl⟩:=cE.1 e;show(V.snap h u).bind (λd=>(nE h A).map _)=_
  rw[Wa h2];have:V.snap h u=ab d:=by
   cases u with
   |ptr b g p=>simp[V.data,V.cV]at h1
   |_=>exact h1
  rw[this];rfl
theorem ajz(hC:jK C)(I:Good C ih)(b:HS M ch h){g:Nat}{args:List CV}{c:List V}(f:aO M args c)(e:NF C ih g args ch k=ab r):
  ∃ds d cv,nE h c=ab ds/\iu C.E (X C.E) g ds=ab d/\d.flat=ag/\VR M cv (.im d)/\k cv ch=ab r:=by
 unfold NF at e;split at e
 .rename_i s J;cases hi:C.E.inl g with
  |true=>grind
  |false=>
   rw[hi]at e;replace e:=ay.1 e;obtain⟨x,i,e⟩:=e;replace e:=ay.1 e;obtain⟨y,U,e⟩:=e;cases hf:s.r.flat with
   |false=>grind
   |true=>
    rw[hf,ao]at e;exact⟨_,_,.sy _ y,Wa (HM b i f),hC.sp g s J x y U,by simp[C2,hf],rfl,Nr e⟩
 .cases hm:(C.E.sm g).isNone with
  |false=>grind
  |true=>
   rw[hm]at e;replace e:=ay.1 e;obtain⟨ws,Z,e⟩:=e;replace e:=ay.1 e;obtain⟨fn,j,e⟩:=e;replace e:=ay.1 e;obtain⟨rt,l,e⟩:=e;cases hf:rt.flat with
   |false=>grind
   |true=>
    rw[hf]at e;obtain⟨ds,m,n⟩:=afR b _ Z f
    obtain⟨v,h2,cv,o,u,p,q,t,_,A⟩:=zT I HS.empty n e;replace A:=ay.1 A;obtain⟨y,U,A⟩:=A;refine⟨ds,rt.enc y,.sy rt y,m,?_,by simp[C2,hf],rfl,A⟩
    have a:=by simpa using hm
    unfold iu;rw[a];unfold qC;rw[oG,p];exact HL t U q
theorem anm(hC:jK C)(b:HS M ch h){g:Nat}{args:List CV}{Z:List V}(c:aO M args Z)(e:P6 C g args ch k=ab r):
  ∃ds d cv,C.E.clone g=ae/\C.E.ext g=0/\C.E.inl g=af/\nD h Z=ab ds/\iu C.E (X C.E) g ds=ab d/\(d.flat=ag∨V.nT Z=[])/\VR M cv (.im d)/\k cv ch=ab r:=by
 unfold P6 at e;split at e
 .cases e
 .rename_i I;cases U:al (C.E.ext g) 0&&not (C.E.inl g)with
  |false=>grind
  |true=>
   rw[U]at e;rw[aM]at U;split at e
   .rename_i s a;replace e:=ay.1 e;obtain⟨x,J,e⟩:=e;replace e:=ay.1 e;obtain⟨y,f,e⟩:=e;cases A:s.r.flat||acA (CV.gM args)with
    |false=>grind
    |true=>
     rw[A,ao]at e;refine⟨_,_,.sy _ y,I,bU U.1,by simpa using U.2,HM b J c,hC.sp g s a x y f,?_,rfl,Nr e⟩
     rw[kc]at A;rcases A with A|A
     .exact .inl (by simp[C2,A])
     .refine .inr ?_;rw[ac7 b J c];generalize CV.gM _=l at A;cases l with
      |nil=>rfl
      |cons _ _=>trivial
   trivial
theorem WU{op:Op}{tc:TC}{f:Nat->List CV->Option ρ}(e:Hf op tc f=ab r):∃c g,op=.call c/\(∀b,c.callee≠.builtin b)/\sV tc c=ab g/\f g.1 g.2=ab r:=by
 unfold Hf at e;split at e
 .split at e
  .cases e
  .obtain ⟨g,A,e⟩:=ay.1 e;grind
 trivial
theorem avb{E:Env}{m c g ty:Nat}{p:List (Nat×Nat)}(A:c< m):gd E (h.take m) ty (.ptr c g p)=(gd E h ty (.ptr c g p)).map λr=>(r.1,h.take m):=by
 have I:eU (h.take m) c g p=eU h c g p:=by
  simp[eU,cy,ahV,A]
 unfold gd;simp[I];cases E.ty ty with
 |none=>rfl
 |some ti=>
  cases eU h c g p with
  |none=>rfl
  |some v=>
   grind
theorem TF{E:Env}{t:Nat}{a v:V}{h':Heap}(e:gd E h t a=ab (v,h')):h'=h:=by
 obtain⟨ti,_,e⟩:=ay.1 e;split at e
 .obtain ⟨w,_,e⟩:=ay.1 e;grind
 all_goals grind
theorem afo{E:Env}{t:Nat}{d:D}{v:V}{h':Heap}(e:gd E h t (.im (.ref d))=ab (v,h')) h2:gd E h2 t (.im (.ref d))=ab (v,h2):=by
 unfold gd at e|-;obtain⟨ti,A,e⟩:=ay.1 e;grind
theorem abx(g:HS M ch h){A:CH}{d m ty:Nat}(hm:d<=m)(hw:∀b cv,aD A b=ab (.cell cv)->∀c,M.b b=ab c->c< d){a:CV}{f:V}(I:VR M a f)(e:DY C.E ty a ch k=ab r)(J:UD A a=ag):
  ∃v h' cv ba M',gd C.E (h.take m) ty f=ab (v,h.take m)/\h'=h/\VR M' cv v/\HS M' ba h'/\Fr wb M ch h M' ba h'/\k cv ba=ab r:=by
 obtain⟨v,h',cv,ba,M',U,i,j,l,n⟩:=aby (wb:=wb) g I e;have o:=TF U;refine⟨v,h',cv,ba,M',?_,o,i,j,l,n⟩;cases a with
 |rf u x=>
  subst I;exact afo U _
 |ptr b p=>
  obtain⟨c,q,rfl⟩:=I;have Z:c< m:=by
   have J:(match aD _ b with|some (.cell _)=>ag|_=>af)=ag:=J
   grind
  simp[avb,Z,U]
 |_=>cases J
theorem auN{tc:TC}{t:Tm}(I:bF M tc t){b c:Nat}(U:M.b b=ab c){m:List Nat}(e:ae1 tc b m=ag):oT t c m=ag:=by
 cases m with
 |nil=>rfl
 |cons s m=>
  replace e:(match tc.get s with|.ptr d _=>al b d|_=>af)=ag:=e
  show(match t.get s with|.ptr d _ _=>al c d|_=>af)=ag
  have A:=I.get s;split at e
  .rename_i d p J;rw[J]at A;simp[VR]at A;simp_all
  trivial
theorem ava{E:Env}{h h':Heap}{ty:Nat}{l:List D}{i v:V}(e:pX E h ty (.im (.an l)) i=ab (v,h')) h2:h'=h/\pX E h2 ty (.im (.an l)) i=ab (v,h2):=by
 unfold pX at e|-;split at e
 .obtain ⟨ti,q,e⟩:=ay.1 e;split at e
  .unfold oz at e|-;obtain⟨te,A,e⟩:=ay.1 e;obtain⟨I,e⟩:=aU e;obtain⟨d,J,e⟩:=ay.1 e;grind
  all_goals simp_all
 trivial
theorem HS.atj(A:HS M ch h) l:HS M ch (h++l):=by
 have I:∀c,c< h.length->ar (h++l) c=ar h c:=λc Z=>by
  simp[cy,gP,Z]
 have J:=λb c e=>(A.len b c e).2
 refine⟨λb cv e=>?_,λb n cl t l e=>?_,A.inj,A.new,λb c e=>⟨(A.len b c e).1,by grind⟩,A.gw,λb x e=>(A.xr b x e).step (.refl M) λc q=>I c (J b c q)⟩
 .obtain ⟨c,v,h1,h2,a⟩:=A.cell b cv e;exact⟨c,v,h1,by rw[I _ (J _ _ h1)];exact h2,a⟩
 .obtain ⟨u,h1,h2⟩:=A.arr b n cl t l e;exact⟨u,h1,h2.imp id λ⟨c,g,ro,U,d,f,i⟩=>⟨c,g,ro,U,d,by rw[I _ (J _ _ U)];exact f,i⟩⟩
theorem acB(Z:HS M ch h){tc:TC}{t:Tm}(a:bF M tc t){b c:Nat}(f:aD ch b≠ae)(g:M.b b=ab c):∀{m:List Nat},RG tc ch b m=ag->jX t c m=ag
 |[],_=>rfl
 |s::m,e=>by
  replace e:(match tc.get s with|.ptr d _=>bif al b d||(aD ch d).isNone then af else RG tc ch b m|_=>af)=ag:=e
  show(match t.get s with|.ptr d _ _=>bif al c d then af else jX t c m|_=>af)=ag
  have I:=a.get s;split at e
  .rename_i d p i;rw[i]at I;simp[VR]at I;obtain⟨J,U,j⟩:=I;rw[j];cases A:al b d||(aD ch d).isNone with
   |true=>rw[A,ao]at e;cases e
   |false=>
    rw[A,au]at e;rw[jD]at A;have l:c≠J:=by
     rintro rfl;have:=Z.inj b d c f (by intro q;rw[q]at A;cases A.2) g U
     subst this;rw[gj]at A;cases A.1
    have:al c J=af:=by rw[<-ji,Nat.beq_eq];omega
    show(bif al c J then af else jX t c m)=ag;rw[this,au];exact acB Z a f g e
  .cases e
end
end
section
variable [Gh]
variable {df:List (Nat×List V)}
section
variable {ρ:Type} {wb:Nat->Bool} {M:Mu} {ch:CH} {h:Heap} {k:KC ρ} {r:ρ}
variable {C:CE} {ih:(ρ:Type)->Nat->Code->(Nat->Bool)->TC->CH->KX ρ->Option ρ}
theorem abr{E:Env}{op:Op}(hp:DN op=ag){keep:Bool}{t:Tm}{v:V}{h h':Heap}(e:di E keep h.length t h op=ab (v,h')):h'=h:=by
 have A:ar h h.length=ae:=by rw[cy,jF (aL _)];rfl
 have:=T4 A (aL _) e (.inl (by cases op<;>first|rfl|cases hp))
 rw[show bS E op=af by cases op<;>first|rfl|cases hp]at this
 trivial
theorem arp{E:Env}{t:Nat}{x v:V}{h h':Heap}(e:rX E t h x=ab (v,h')):h'=h:=by
 unfold rX at e;grind
theorem atV{E:Env}{ih:Nat->Nat->Nat->Code->St->Option (Ex×St)}{op:Op}(hp:DN op=ag){keep:Bool}{aC:Nat}{t:Tm}{h:Heap}:fL E ih keep aC t h op=(di E keep aC t h op).map λr=>(r.1,ae):=by
 cases op<;>first|trivial|rfl
theorem ase{E:Env}:∀{l:List Oper},news E l=0->∀o∈l,bS E o.op=af
 |[],_,o,h=>by cases h
 |a::l,e,o,h=>by
  have e:(bif bS E _ then 1 else 0)+news E l=0:=e;rcases du.1 h with rfl|h
  .cases A:bS E o.op<;>first|rw[A,ao]at e;omega|rfl
  exact ase (by omega) o h
def DS{ρ:Type}(df:List (Nat×List V))(wb:Nat->Bool)(M:Mu) ch(h:Heap)(t:Tm)(dst:Option Nat)(m:Option St)(k:KC ρ)(r:ρ):=
 ∃v h' cv ba M',m=ab ⟨putDst t dst v,h',[],df⟩/\VR M' cv v/\HS M' ba h'/\Fr wb M ch h M' ba h'/\k cv ba=ab r
theorem alh(hC:jK C)(R:Good C ih){tc:TC}{t:Tm}(F:HS M ch h)(D:bF M tc t){f:Nat}{keep:Bool}{ops:Array Oper}{o:Oper}{cm:Nat×List Nat}{Y:CH}(e:OA C ih f keep wb Y cm o.op tc ch k=ab r)
  (P:guardOf ops t o.guard=ab ag) (S:cm.1=1->bS C.E o.op=af) (H n i:Nat) (hw:∀b cv,aD Y b=ab (.cell cv)->∀c,M.b b=ab c->c< H):DS df wb M ch h t o.dst (dn C.E (X C.E) keep ops H n i cm.1 cm.2 o ⟨t,h,[],df⟩) k r:=by
 have quiet:bS C.E o.op=af->∀{x:Option (V×Option cj)},fL C.E (X C.E) keep h.length t h o.op=x->(∃v h' cv ba M',x=ab (v,ae)/\h'=h/\VR M' cv v/\HS M' ba h'/\Fr wb M ch h M' ba h'/\k cv ba=ab r)->
   DS df wb M ch h t o.dst (dn C.E (X C.E) keep ops H n i 1 [] o ⟨t,h,[],df⟩) k r:=λS {x} hx hy=>by
  obtain⟨v,h',cv,ba,M',rfl,rfl,J,m,s,z⟩:=hy;refine⟨v,h',cv,ba,M',?_,J,m,s,z⟩;unfold dn;simp only[P];show(bif bS C.E o.op then(match ar h' (H+i)with
    |none=>(fL C.E (X C.E) keep (H+i) t h' o.op).map λr=>(⟨putDst t o.dst r.1,dP h' (H+i) r.2,[],df⟩:St)
    |some _=>ae)
   else(fL C.E (X C.E) keep (aF h') t h' o.op).bind λr=>(match r.2 with
    |none=>ab ⟨putDst t o.dst r.1,h',[],df⟩
    |some _=>ae))=_
  rw[S,au,bz,hx];rfl
 unfold OA at e;split at e
 ·-- alone
  obtain⟨c,g,I,T,K,e⟩:=WU e;obtain⟨us,A,J,_⟩:=LU D K;obtain⟨v,h2,cv,r1,r2,r3,r4⟩:=ajf R F J e;refine⟨v,h++h2.drop (aF h),cv,ch,M,?_,r3,F.atj _,⟨.refl M,aL _,by simp,λ_ _ _=>rfl,lA,λc N _=>by rw[cy,cy,gP N]⟩,r4⟩
  unfold dn;simp only[P,I];show((target t c).bind λg=>(gK C.E (X C.E) g.1 g.2 (only (l9 h 0 64 (iH 0 (fu g.2) [])) h) []).bind λr=>bif lC (only (l9 h 0 64 (iH 0 (fu g.2) [])) h) (r.2.1.take (aF h))then ab (⟨putDst t o.dst r.1,h++r.2.1.drop (aF h),r.2.2,df⟩:St)else ae)=_
  rw[A,ah,r1,ah,r2,ao]
 ·-- at this axq
  obtain⟨c,g,I,T,K,e⟩:=WU e;obtain⟨us,A,J,_⟩:=LU D K;obtain⟨ds,d,cv,r1,r2,r3,r4,r5⟩:=ajz hC R F J e;refine⟨.im d,h,cv,ch,M,?_,r4,F,.refl ..,r5⟩;unfold dn;simp only[P,I];show((target t c).bind λg=>(nE h g.2).bind λds=>(iu C.E (X C.E) g.1 ds).bind λr=>bif r.flat then ab (⟨putDst t o.dst (.im r),h,[],df⟩:St)else ae)=_
  rw[A,ah,r1,ah,r2,ah,r3,ao]
 ·-- simple
  split at e<;>try trivial
  rename_i ty a I;obtain⟨N,e⟩:=aU e;obtain⟨v,h',cv,ba,M',A,rfl,J,m,s,z⟩:=abx (wb:=wb) F (Vx H n) hw (je D a) e N;refine⟨v,h',cv,ba,M',?_,J,m,s,z⟩;unfold dn;simp only[P,I];show((gd C.E (h'.take (H+n)) ty (ev t a)).map λr=>r.1).map (λv=>(⟨putDst t o.dst v,h',[],df⟩:St))=_
  rw[A];rfl
 ·-- a load Q axE
  split at e<;>try trivial
  rename_i ty a I;split at e
  .rename_i b p Z;obtain⟨N,e⟩:=aU e;rw[aM]at N;have G:=je D a;rw[Z]at G;obtain⟨v,h',cv,ba,M',A,rfl,J,m,s,z⟩:=abx (wb:=wb) (ty:=ty) F (aL H) hw G (show DY C.E ty (.ptr b p) ch k=ab r by rw[<-Z];exact e) N.1
   refine⟨v,h',cv,ba,M',?_,J,m,s,z⟩;simp only[VR]at G;obtain⟨c,hbc,O⟩:=G;unfold dn;simp only[P,I,O];show(bif oT t c _ then((gd C.E (h'.take H) ty (.ptr c 0 p)).map λr=>(⟨putDst t o.dst r.1,h',[],df⟩:St))else ae)=_
   rw[<-O,A,auN D hbc N.2];rfl
  cases e
 ·-- a store Q axp
  split at e<;>try trivial
  rename_i ty a x I;split at e
  .rename_i b p Z;obtain⟨N,e⟩:=aU e;rw[aM]at N;have G:=je D a;rw[Z]at G;simp only[VR]at G;obtain⟨c,Iq,O⟩:=G;obtain⟨v,h',cv,ba,M',A,J,m,s,z⟩:=u5 F D (keep:=keep) e;refine⟨v,h',cv,ba,M',?_,J,m,s,z⟩;have B:∃w,aD ch b=ab (.cell w):=by
    have:=N.2;unfold aaq at this;split at this
    .rename_i w DD;exact⟨w,DD⟩
    cases this
   obtain⟨w,B⟩:=B;obtain⟨c2,v2,k1,k2,_⟩:=F.cell b w B;rw[Iq]at k1;cases k1;have S:=acB F D (by rw[B];intro q;cases q) Iq N.1
   have A:ra C.E h ty (ev t a) (ev t x)=ab (v,h'):=A;unfold dn;simp only[P,I,O];rw[O]at A;show(bif jX t c _&&DL (ar h c)then(ra C.E h ty (.ptr c 0 p) (ev t x)).map λr=>(⟨putDst t o.dst r.1,r.2,[],df⟩:St)else ae)=_
   rw[S,k2,A];rfl
  cases e
 ·-- pure
  cases hp:pL o.op||Ot tc o.op
  .rw [hp,au]at e;cases e
  rw[hp,ao]at e;obtain⟨v,h',cv,ba,M',A,J,m,s,z⟩:=u5 F D (keep:=keep) e;obtain⟨hh,q0⟩:h'=h/\di C.E keep (H+i) t [] o.op=ab (v,[]):=by
   rw[kc]at hp;rcases hp with hp|hp
   .exact ⟨abr (by unfold DN;rw[hp];rfl) A,Sr hp A (H+i) []⟩
   unfold Ot at hp;split at hp
   .rename_i ty a I;rw[I]at A|-;replace A:gd C.E h ty (ev t a)=ab (v,h'):=A;split at hp<;>try trivial
    rename_i u y Z;have G:=je D a;rw[Z]at G;simp only[VR]at G;refine⟨TF A,?_⟩;show gd C.E [] ty (ev t a)=_;rw[G]at A|-;obtain rfl:=TF A;exact afo A _
   .rename_i ty x j I;rw[I]at A|-;replace A:pX C.E h ty (ev t x) (ev t j)=ab (v,h'):=A;split at hp<;>try trivial
    rename_i u l Z;have G:=je D x;rw[Z]at G;simp only[VR,Ty.enc]at G;rw[G]at A;obtain⟨q0,A⟩:=ava A [];refine⟨q0,?_⟩;show pX C.E [] ty (ev t x) (ev t j)=_;rw[G];exact A
   .rename_i sT dT x I;rw[I]at A|-;replace A:sd C.E h h.length sT dT (ev t x)=ab (v,h'):=A;split at hp<;>try trivial
    rename_i j n Z;have hx:=je D x;rw[Z]at hx;show h'=h/\sd C.E [] (H+i) sT dT (ev t x)=_;rw[hx.int]at A|-;unfold sd at A|-;split at A<;>simp_all
   cases hp
  subst hh;refine⟨v,h',cv,ba,M',?_,J,m,s,z⟩;unfold dn;simp only[P];show((di C.E keep (H+i) t [] o.op).map λr=>(⟨putDst t o.dst r.1,h',[],df⟩:St))=_
  rw[q0];rfl
 ·-- quiet
  replace S:=S rfl;replace quiet:=@quiet S;cases hp:DN o.op with
  |true=>
   rw[hp,ao]at e;obtain⟨v,h',cv,ba,M',A,J,m,s,z⟩:=u5 F D (keep:=keep) e;exact quiet (atV hp) ⟨v,h',cv,ba,M',by rw[A];rfl,abr hp A,J,m,s,z⟩
  |false=>
   rw[hp,au]at e;split at e<;>try trivial
   rename_i c I;have O:fL C.E (X C.E) keep h.length t h o.op=fL C.E (X C.E) keep h.length t h (.call c):=by rw[I]
   split at e
   .rename_i U;obtain⟨v,h',cv,ba,M',A,J,m,s,z⟩:=u5 F D (keep:=keep) e;have A:(match c.callee with
     |.builtin b=>hU C.E h.length b c.argTypes (dk t c.args) h
     |_=>ae)=ab (v,h'):=A
    rw[U]at A;have A:hU C.E h.length .len c.argTypes (dk t c.args) h=ab (v,h'):=A;refine quiet (O.trans ?_) ⟨v,h',cv,ba,M',rfl,?_,J,m,s,z⟩
    .unfold fL;simp only[U];rw[A];rfl
    unfold hU at A;simp only at A;split at A
    .obtain ⟨tt,_,A⟩:=ay.1 A;exact arp A
    cases A
   .rename_i U;obtain⟨v,h',cv,ba,M',A,J,m,s,z⟩:=u5 F D (keep:=keep) e;have A:(match c.callee with
     |.builtin b=>hU C.E h.length b c.argTypes (dk t c.args) h
     |_=>ae)=ab (v,h'):=A
    rw[U]at A;have A:hU C.E h.length .min c.argTypes (dk t c.args) h=ab (v,h'):=A;refine quiet (O.trans ?_) ⟨v,h',cv,ba,M',rfl,?_,J,m,s,z⟩
    .unfold fL;simp only[U];rw[A];rfl
    unfold hU at A;simp only at A;split at A
    .obtain ⟨n,_,A⟩:=cE.1 A;cases A;rfl
    cases A
   .rename_i U;obtain⟨v,h',cv,ba,M',A,J,m,s,z⟩:=u5 F D (keep:=keep) e;have A:(match c.callee with
     |.builtin b=>hU C.E h.length b c.argTypes (dk t c.args) h
     |_=>ae)=ab (v,h'):=A
    rw[U]at A;have A:hU C.E h.length .max c.argTypes (dk t c.args) h=ab (v,h'):=A;refine quiet (O.trans ?_) ⟨v,h',cv,ba,M',rfl,?_,J,m,s,z⟩
    .unfold fL;simp only[U];rw[A];rfl
    unfold hU at A;simp only at A;split at A
    .obtain ⟨n,_,A⟩:=cE.1 A;cases A;rfl
    cases A
   .cases e
   rename_i T;obtain⟨g,K,e⟩:=ay.1 e;obtain⟨us,htg,W,_⟩:=LU D K;obtain⟨ds,d,cv,r1,r2,r3,r4,r5,r6,r7,r8⟩:=anm hC F W e;refine quiet (x:=some (.im d,ae)) (O.trans ?_) ⟨.im d,h,cv,ch,M,rfl,rfl,r7,F,.refl ..,r8⟩;unfold fL;cases U:c.callee with
   |builtin b=>exact absurd U (T b)
   |_=>
    simp only[U,htg,ah,r1,r2,r3,au,r4,r5];rcases r6 with r6|r6
    .rw [r6];split<;>rfl
    rw[r6]
 ·-- whole
  obtain⟨wF,v,h',cv,ba,M',A,J,m,s,z⟩:=XV hC R F D e;refine⟨v,h',cv,ba,M',?_,J,m,s,z⟩;unfold dn;simp only[P];show e6 C.E (X C.E) keep ops (aF h) o ⟨t,h,[],df⟩=_;rw[bz];exact RW (df:=df) P wF A
 cases e
theorem Zp k:∀m h,(dg k m h).length=h.length
 |[],_=>rfl
 |i::m,h=>by
  show(dg k m _).length=_;rw[Zp k m,eO,fQ]
theorem Zo k c:∀m h,ar h c=ae->ar (dg k m h) c=ae
 |[],_,e=>e
 |i::m,h,e=>by
  show ar (dg k m _) c=ae;refine Zo k c m _ ?_;rw[cy,eO,vt];split
  .split<;>rfl
  rw[<-cy];exact e
theorem Zq k:∀m h,(∀j∈m,ar h (k+j)=ae)->dg k m h=h
 |[],_,_=>rfl
 |i::m,h,e=>by
  show dg k m _=h;have:bC h (k+i) ae=h:=by
   rw[eO];apply ahS;intro c;rw[vt];split
   .rename_i q;subst q;have:=e i eh ..;rw[cy]at this;split
    .rename_i A;rw[gD A]at this|-;cases I:h[k+i]<;>first|rw[I]at this;cases this|rfl
    rw[jF (by omega)]
   rfl
  rw[this];exact Zq k m h λj J=>e j (ff _ J)
def ND{ρ:Type}(E:Env)(keep:Bool)(M:Mu)(ch:CH)(h:Heap) t(op:Op)(c:Nat)(k:KC ρ) r:=
 ∃v A cv ba M',(∀view,c<=view.length->ar view c=ae->fL E (X E) keep c t view op=ab (v,A))/\VR M' cv v/\HS M' ba (dP h c A)/\M.le M'/\ch.length<=ba.length/\
  (∀b,b< ch.length->aD ba b=aD ch b)/\(∀b d,M'.b b=ab d->M.b b=ab d∨d=c)/\k cv ba=ab r
theorem RB{M:Mu}{n c:Nat}:∀b d,(if b=n then ab c else M.b b)=ab d->M.b b=ab d∨d=c:=λb d e=>by
 grind
theorem ab9{E:Env}{keep:Bool}{t:Tm}{op:Op}(J:HS M ch h){c:Nat}(U:c<=h.length)(hf:∀b,M.b b≠ab c) u l{n:Nat}(Z:n=l.length)
  (a:∀view,fL E (X E) keep c t view op=ab (.own c 0 0 n af,ar (aI view c (.arr 0 u.wd 0 (l.map u.enc))) c)) (e:kL ch (.arr 0 af u l) (λb ch=>k (.own b 0) ch)=ab r):ND E keep M ch h t op c k r:=by
 subst Z;have e:k _ _=ab r:=e;rw[bz]at e;obtain⟨A,I⟩:=J.ar9 u l 0 U hf;refine⟨.own c 0 0 l.length af,ab _,.own _ 0,_,_,λview d _=>?_,?_,I,A,by simp,λb f=>by rw[de,ax (by omega)],RB,e⟩
 .rw [a _,bR _ _ _ _ d,aK rfl]
 exact⟨u.wd,aK ⟨rfl,rfl⟩,rfl⟩
theorem V9:∀ps (A:List (Nat×V)),aO M (ps.map gU) (A.map gU)->jQ.rS ps=ag->∀p∈A,∃d,p.2=.im d
 |[],A,h2,_,p,hp=>by
  cases A
  .cases hp
  simp only[List.map_nil,aO]at h2;cases h2
 |q::ps,A,h2,e,p,hp=>by
  simp[mo,aO]at h2;obtain⟨v,J,he,I,U⟩:=h2;cases A with
  |nil=>cases he
  |cons a A=>
   cases he;have e:(match q.2 with|.sy _ _=>jQ.rS ps|_=>af)=ag:=e
   split at e
   .rename_i t x Z;rw[Z]at I;simp[VR]at I;rcases du.1 hp with rfl|hp
    .exact ⟨_,I⟩
    exact V9 ps _ U e p hp
   cases e
theorem Yy{sz:Nat} h1 h2:∀ps l,(∀p∈ps,∃d,p.2=.im d)->lj h1 sz l ps=lj h2 sz l ps
 |[],_,_=>rfl
 |p::ps,l,h=>by
  obtain⟨d,A⟩:=h p eh ..;show((p.2.data h1).bind λd=>(bG l _).bind λ_=>bif al _ sz&&jU _ then lj h1 sz _ ps else ae)=(p.2.data h2).bind λd=>(bG l _).bind λ_=>bif al _ sz&&jU _ then lj h2 sz _ ps else ae
  rw[A];show(bG l _).bind _=(bG l _).bind _;rw[Yy h1 h2 ps _ λq I=>h q (ff _ I)]
theorem Z2:∀ps,(∀p∈ps,∃d,p.2=.im d)->ja ps=[]/\fu (ps.map gU)=[]
 |[],_=>⟨rfl,rfl⟩
 |p::ps,h=>by
  obtain⟨d,A⟩:=h p eh ..;obtain⟨I,J⟩:=Z2 ps λq U=>h q (ff _ U)
  constructor
  .show (match V.owns _ with|[]=>ja ps|Z=>Z++ja ps)=[]
   rw[A];exact I
  show(match V.refs _ with|[]=>fu _|r=>r++fu _)=[]
  rw[A];exact J
theorem asd{tc:TC}{t:Tm}(g:HS M ch h)(v:bF M tc t){keep:Bool}{op:Op}{c:Nat}(w:c<=h.length)(hf:∀b,M.b b≠ab c)(e:RD C keep op tc ch k=ab r):ND C.E keep M ch h t op c k r:=by
 unfold RD at e;split at e
 .rename_i ty;unfold GV at e;obtain⟨ti,A,e⟩:=ay.1 e;cases I:cA ti ti.zero with
  |false=>grind
  |true=>
   rw[I,ao]at e;have e:k (.ptr (aF ch) []) (ch++[ab (.cell (ic ti.zero))])=ab r:=e;rw[bz]at e;obtain⟨U,Z⟩:=g.ach (uL ti.zero) w hf;refine⟨.ptr c 0 [],ab (.cell ti.zero),.ptr ch.length [],_,⟨λi=>if i=ch.length then ab c else M.b i,M.o⟩,λview H _=>?_,(show∃d,(if ch.length=ch.length then ab c else M.b ch.length)=ab d/\V.ptr c 0 []=.ptr d 0 []from⟨c,aK rfl,rfl⟩),Z,U,by simp,λb I=>by rw[de,ax (by omega)],RB,e⟩
   show((xP C.E c view ty).map λr=>(r.1,ar r.2 c))=_
   unfold xP;rw[A,ah,I,ao];show ab (V.ptr c 0 [],ar (aI view c (.cell ti.zero)) c)=_;rw[bR _ _ _ _ H,aK rfl]
 .rename_i ty x;have a:∀m el,C.E.kind ty≠ab (.arr m el):=λm el q=>by rw[q]at e;cases e
  have e:Cz C.E ty (vC tc x) ch k=ab r:=by
   split at e
   .cases e
   exact e
  unfold Cz at e;obtain⟨ti,A,e⟩:=ay.1 e;have a:∀m el,ti.k≠.arr m el:=λm el q=>a m el (by unfold Env.kind;rw[A];exact congrArg ab q)
  have T:=je v x;cases I:dE ti (vC tc x)with
  |false=>rw[I,au]at e;cases e
  |true=>
   rw[I,ao]at e;have K:∀(y:V) (view:Heap),nW.v5 c view ti.k y=ab (.ptr c 0 [],aI view c (.cell y)):=λy view=>by
    unfold nW.v5;split
    .rename_i m el _ B;exact absurd B (a m el)
    rfl
   have e:(match ti.k with
    |.arr _ _=>(match vC tc x with|.sy u y=>k (.rf u y) ch|_=>ae)
    |_=>kL ch (.cell (vC tc x)) λb ch=>k (.ptr b []) ch)=ab r:=e
   split at e
   .grind
   have e:k (.ptr (aF ch) []) (ch++[ab (.cell (vC tc x))])=ab r:=e;rw[bz]at e;obtain⟨U,Z⟩:=g.ach T w hf;refine⟨.ptr c 0 [],ab (.cell (ev t x)),.ptr ch.length [],_,⟨λi=>if i=ch.length then ab c else M.b i,M.o⟩,λview H _=>?_,(show∃d,(if ch.length=ch.length then ab c else M.b ch.length)=ab d/\V.ptr c 0 []=.ptr d 0 []from⟨c,aK rfl,rfl⟩),Z,U,by simp,λb I=>by rw[de,ax (by omega)],RB,e⟩
   show((nW C.E c view ty (ev t x)).map λr=>(r.1,ar r.2 c))=_
   unfold nW;rw[A,ah,(iO T I).1,ao,K];show ab (V.ptr c 0 [],ar (aI view c (.cell (ev t x))) c)=_;rw[bR _ _ _ _ H,aK rfl]
 .rename_i ty n ps;cases N:jQ.rS (iW (vC tc) ps)with
  |false=>grind
  |true=>
   rw[N,ao]at e;obtain⟨J,O,h1,h2⟩:=OJ v ps;have j:=V9 _ _ h2 N;obtain⟨X,Y⟩:=Z2 J j;unfold jQ at e;obtain⟨ti,A,e⟩:=ay.1 e;split at e
   .rename_i el P;obtain⟨te,hte,e⟩:=ay.1 e;obtain⟨u,hu,e⟩:=ay.1 e;obtain⟨z,Q,e⟩:=ay.1 e;generalize uv:iW (vC tc) ps=D at e h1 h2 N;cases I:(bu (n*te.size) 16777216&&bu n 16777216)&&(al u.wd te.size&&(dE te (.sy u z)&&(jQ.zZ (mW D)&&(not keep||jQ.rS D))))with
    |false=>grind
    |true=>
     rw[I,ao]at e;rw[aM]at I;obtain⟨b1,F⟩:=I;simp only[aM]at F;obtain⟨F,b3,b4,b5⟩:=F;obtain⟨l,G,e⟩:=ay.1 e;have p:=bU F;obtain⟨r1,r2,r3⟩:=HU g p D J _ h1 h2 G;refine ab9 g w hf u l (n:=n) (by simp[r2]) (λview=>?_) e
     unfold fL;simp only[O];unfold Eb;rw[Y];unfold mf;have f:(keep&&rV J)=af:=by
      cases keep
      .rfl
      rw[Nn D J h2 b5];rfl
     rw[A,ah];simp only[P];rw[hte,ah,b1,ao,ao,yf Q,ah,(iO (show VR M (.sy u z) (.im (u.enc z))from rfl) b3).1,f,mc,<-yC,au,Yy view h _ _ j,r1,X,<-p];rfl
   trivial
 .rename_i ty l W;unfold Jw at e;obtain⟨ti,A,e⟩:=ay.1 e;split at e
  .rename_i el P;obtain⟨te,hte,e⟩:=ay.1 e;obtain⟨u,hu,e⟩:=ay.1 e;obtain⟨z,Q,e⟩:=ay.1 e;split at e
   .rename_i n m R S;have G:=je v l;have s:=je v W;rw[R]at G;rw[S]at s;cases I:al u.wd te.size&&dE te (.sy u z)with
    |false=>grind
    |true=>
     rw[I,ao]at e;rw[aM]at I;cases B:ai 0 n&&(ai n m&&ai (m*aE te.bytes) 70368744177664)with
     |false=>grind
     |true=>
      rw[B,ao]at e;refine ab9 g w hf u (bP n.toNat z) (n:=n.toNat) (by simp) (λview=>?_) e
      show((uZ C.E c view ty (ev t l) (ev t W)).map λr=>(r.1,ar r.2 c))=_
      unfold uZ;rw[A,ah];simp only[P];rw[hte,ah,yf Q,ah,G.int,s.int];show((bif cA te (.im (u.enc z))&&(ai 0 n&&(ai n m&&ai (m*aE te.bytes) 70368744177664))then ab (V.own c 0 0 n.toNat af,aI view c (.arr 0 te.size 0 (jz n.toNat (u.enc z))))else ae).map λr=>(r.1,ar r.2 c))=_
      rw[B,(iO (show VR M (.sy u z) (.im (u.enc z))from rfl) I.2).1,<-bU I.1,mc,<-yC];rfl
   trivial
  trivial
 trivial
theorem asN{E:Env}{ih:Nat->Nat->Nat->Code->St->Option (Ex×St)}{keep:Bool}{ops:Array Oper}{k n i c:Nat}{m:List Nat}{o:Oper}{st A:St}(e:dn E ih keep ops k n i c m o st=ab A):∃v,A.t=putDst st.t o.dst v:=by
 unfold dn at e;split at e<;>try grind
 split at e
 .obtain ⟨_,_,rfl⟩:=cE.1 e;exact⟨_,rfl⟩
 .cases I:bS E _ with
  |true=>
   rw[I]at e;split at e
   .obtain ⟨_,_,rfl⟩:=cE.1 e;exact⟨_,rfl⟩
   trivial
  |false=>
   rw[I]at e;obtain⟨_,_,e⟩:=ay.1 e;grind
 .obtain ⟨_,_,rfl⟩:=cE.1 e;exact⟨_,rfl⟩
 .exact acU e
 .split at e
  .obtain ⟨_,_,e⟩:=ay.1 e;obtain⟨_,_,e⟩:=ay.1 e;grind
  trivial
 .split at e
  .split at e
   .obtain ⟨_,e⟩:=aU e;obtain⟨_,_,rfl⟩:=cE.1 e;exact⟨_,rfl⟩
   trivial
  trivial
 .split at e
  .split at e
   .obtain ⟨_,e⟩:=aU e;obtain⟨_,_,rfl⟩:=cE.1 e;exact⟨_,rfl⟩
   trivial
  trivial
 split at e
 .obtain ⟨_,_,e⟩:=ay.1 e;obtain⟨_,_,e⟩:=ay.1 e;obtain⟨_,_,e⟩:=ay.1 e;grind
 trivial
theorem afa{E:Env}{ih:Nat->Nat->Nat->Code->St->Option (Ex×St)}{keep:Bool}{ops:Array Oper}{k n:Nat}{a:TC}:∀{l:List Oper} {ds:List (Nat×List Nat)} {i:Nat} {st A:St},ie E ih keep ops k n l ds i st=ab A->(∀d,bg (dstsOf l) d=ag->a.get d=.undef)->bF M a st.t->bF M a A.t
 |[],ds,i,st,A,e,_,h=>by cases e;exact h
 |o::l,[],i,st,A,e,_,h=>by cases e
 |o::l,cm::ds,i,st,A,e,J,h=>by
  replace e:(match dn E ih _ _ k n i _ _ o st with|none=>ae|some _=>ie E ih _ _ k n l ds _ _)=ab _:=e
  split at e
  .cases e
  rename_i Z h1;obtain⟨v,b⟩:=asN h1;have U:dstsOf (o::l)=match o.dst with|some d=>d::dstsOf l|none=>dstsOf l:=rfl
  refine afa e (λd q=>J d ?_) ?_
  .rw [U];split
   .show (bif al _ d then ag else bg _ d)=ag;rw[q];cases al _ d<;>rfl
   omega
  rw[b];cases I:o.dst<;>first|rename_i d;refine h.LA (J d ?_);rw[U,I];show(bif al d d then ag else _)=ag;rw[gj];rfl|exact h
theorem ae7{E:Env}{ih:Nat->Nat->Nat->Code->St->Option (Ex×St)}{keep:Bool}{ops:Array Oper}{k n:Nat}{r:List Oper}{A:St}:∀{l:List Oper} {ds:List (Nat×List Nat)} {i:Nat} {st:St},At E l=ag->ie E ih keep ops k n l ds i st=ab A->ie E ih keep ops k n (l++r) ds i st=ie E ih keep ops k n r (ds.drop l.length) i A
 |[],ds,i,st,_,e=>by cases e;rfl
 |o::l,[],i,st,_,e=>by cases e
 |o::l,cm::ds,i,st,I,e=>by
  replace I:(bif bS E _ then af else At E l)=ag:=I;cases J:bS E _ with
  |true=>rw[J,ao]at I;cases I
  |false=>
   rw[J,au]at I;replace e:(match dn E ih _ _ k n i _ _ o st with|none=>ae|some A=>ie E ih _ _ k n l ds _ _)=ab _:=e
   show(match dn E ih _ _ k n i _ _ o st with|none=>ae|some A=>ie E ih _ _ k n (l++r) ds _ _)=_
   rw[J,au]at e|-;split at e
   .cases e
   exact ae7 I e
theorem amo{E:Env}{ops:Array Oper}{o:Oper}{l g r:List Oper}{ds A:List (Nat×List Nat)}{tc:TC}{d:Nat}{b:Bool}{p:Oper}{x y:Operand}(e:Ph E ops o l ds tc=ab (d,b,g,(p,x,y),r,A)):o::l=g++p::r/\p.op=.pick (.tmp d) x y/\tc.get d=.sy .bool b/\At E g=ag/\∃m,ds.drop g.length=(0,m)::A:=by
 obtain⟨q,I,e⟩:=ay.1 e;obtain⟨J,U,Z,a,c⟩:=q;split at e
 .obtain ⟨f,e⟩:=aU e;obtain⟨h1,h2,i⟩:=YX I;grind
 trivial
theorem acu{E:Env}:∀{l:List Oper},At E l=ag->news E l=0
 |[],_=>rfl
 |o::l,A=>by
  replace A:(bif bS E _ then af else At E l)=ag:=A;show(bif bS E _ then 1 else 0)+news E l=0;cases I:bS E o.op<;>first|rw[I,ao]at A;cases A|rw[I,au]at A;rw[au,acu A]
theorem aco{E:Env}:∀a b,news E (a++b)=news E a+news E b
 |[],b=>by show news E b=0+news E b;omega
 |o::a,b=>by
  show(bif bS E _ then 1 else 0)+news E (a++b)=(bif bS E _ then 1 else 0)+news E a+news E b;rw[aco a b];omega
theorem xO(hC:jK C)(B:Good C ih){f:Nat}{keep:Bool}{ops:Array Oper}{dm n0:Nat}{M0:Mu}{U:CH}{h0:Heap}(D:h0.length<=dm)(s:HS M0 U h0):∀(m:Nat) {ρ:Type} {r:ρ} {wb:Nat->Bool} (l:List Oper) {ds:List (Nat×List Nat)} {i:Nat} {tc:TC} {t:Tm} {M:Mu} {ch:CH} {h:Heap} {W:TC->CH->Option ρ},(∀o∈l,o∈ops.toList)->i+news C.E l<=n0->dm+n0<=h.length->
  (∀j,i<=j->j< n0->ar h (dm+j)=ae/\∀b,M.b b≠ab (dm+j))->∀{Mb:Mu} {zl:CH} {hb:Heap},(hb.length<=dm∨news C.E l=0)->M0.le M->Fr wb Mb zl hb M ch h->HS M ch h->bF M tc t->sN C ih f keep U ops n0 m ρ l ds i wb tc ch W=ab r->
  ∃Bi ba M' t' h',ie C.E (X C.E) keep ops dm n0 l ds i ⟨t,h,[],df⟩=ab ⟨t',h',[],df⟩/\HS M' ba h'/\bF M' Bi t'/\Fr wb Mb zl hb M' ba h'/\(∀i,bg (dstsOf ops.toList) i=af->Bi.get i=tc.get i)/\W Bi ba=ab r
 |0,_,_,_,_,_,_,_,_,_,_,_,_,_,_,_,_,_,_,_,_,_,_,_,_,e=>by cases e
 |m+1,_,_,_,[],ds,i,tc,t,M,ch,h,W,_,_,_,_,Mb,zl,hb,_,hM,A,hs,ht,e=>⟨tc,ch,M,t,h,rfl,hs,ht,A,λ_ _=>rfl,e⟩
 |m+1,ρ,r,wb,o::l,ds,i,tc,t,M,ch,h,W,hl,Y,a,J,Mb,zl,hb,zI,hM,A,hs,ht,e=>by
  replace e:(match Ph C.E ops o l ds tc with
   |some (d,t,g,(p,x,y),l',OB)=>zm ops (λtc k=>sN C ih f keep U ops n0 m Bool g ds i (λb=>bu (aF ch) b) tc ch k) d x y p g t tc λtc=>sN C ih f keep U ops n0 m ρ l' OB i wb tc ch W
   |none=>match(generalizing:=false) ds with
    |[]=>ae
    |cm::ds=>uj ops tc o.guard (λtc=>LL C ih f keep wb U n0 i cm o.op tc ch λv ch=>sN C ih f keep U ops n0 m ρ l ds (bif bS C.E o.op then i+1 else i) wb (mX tc o.dst v) ch W) (λtc=>sN C ih f keep U ops n0 m ρ l ds (bif bS C.E o.op then i+1 else i) wb (mX tc o.dst (.aH [])) ch W))=ab r:=e
  split at e
  .rename_i d b g p x y l2 XW PE;obtain⟨N,Dw,wt,zO,mm,wy⟩:=amo PE;have Dn:∀q∈g,q∈ops.toList:=λq hq=>hl q (by rw[N];exact cD.2 (.inl hq))
   have PX:p∈ops.toList:=hl p (by rw[N];exact cD.2 (.inr (eh ..)))
   have so:∀q∈l2,q∈ops.toList:=λq hq=>hl q (by rw[N];exact cD.2 (.inr (ff _ hq)))
   have zM:=acu zO;have ZL:bS C.E p.op=af:=by rw[Dw];rfl
   have oD:news C.E (o::l)=news C.E l2:=by
    rw[N,aco,zM];show 0+((bif bS C.E p.op then 1 else 0)+news C.E l2)=_;rw[ZL,au];omega
   unfold zm at e;obtain⟨c,hc,e⟩:=ay.1 e;have hv:=ht.get d;rw[wt]at hv;have P2:=hv.bool;have side:∃t1 h1,ie C.E (X C.E) keep ops dm n0 g ds i ⟨t,h,[],df⟩=ab ⟨t1,h1,[],df⟩/\HS M ch h1/\Fr wb M ch h M ch h1/\∀h2,oU h2 (ev t1 (.tmp d)) (ev t1 x) (ev t1 y)=ab (.im (.bool c),h2):=by
    have one:∀(v:Bool) (z:Operand),b=v->sN C ih f keep U ops n0 m Bool g ds i (λb=>bu (aF ch) b) (tc.set d (.sy .bool v)) ch (λZ _=>AJ v (Z.get d) (vC Z z))=ab c->
      ∃t1 h1,ie C.E (X C.E) keep ops dm n0 g ds i ⟨t,h,[],df⟩=ab ⟨t1,h1,[],df⟩/\HS M ch h1/\Fr wb M ch h M ch h1/\ev t1 (.tmp d)=.im (.bool v)/\ev t1 z=.im (.bool c):=λv z Pw hc=>by
     subst Pw;obtain⟨Bj,N1,M1,t1,h1,G,H,n,K,_,r6⟩:=xO hC B D s m g Dn (by omega) a J (Mb:=M) (zl:=ch) (hb:=h) (.inr zM) hM (.refl ..) hs (ht.u3 (x:=.sy .bool b) (by rw[P2];rfl)) hc
     obtain⟨q1,q2⟩:=adI r6;obtain⟨f1,f2⟩:=hs.forget (wb:=wb) H K;have k1:=n.get d;rw[q1]at k1;have k2:=je n z;rw[q2]at k2;exact⟨t1,h1,G,f1,f2,k1.bool,k2.bool⟩
    cases b with
    |true=>
     rw[ao]at hc;obtain⟨t1,h1,G,H,n,K,r5⟩:=one ag x rfl hc;exact⟨t1,h1,G,H,n,λh2=>by unfold oU;rw[K];show(bif ag then ab (ev t1 x,h2)else ab (ev t1 y,h2))=_;rw[ao,r5]⟩
    |false=>
     rw[au]at hc;obtain⟨t1,h1,G,H,n,K,r5⟩:=one af y rfl hc;exact⟨t1,h1,G,H,n,λh2=>by unfold oU;rw[K];show(bif af then ab (ev t1 x,h2)else ab (ev t1 y,h2))=_;rw[au,r5]⟩
   obtain⟨t1,h1,G,H,n,K⟩:=side;have F:bF M (n2 (dstsOf g) tc) t1:=afa G (λi q=>by rw[yb,aK (abK q)]) (Uw _ ht)
   have Ds:∀i,bg (dstsOf ops.toList) i=af->(n2 (dstsOf g) tc).get i=tc.get i:=λi hi=>by
    rw[yb,ax (XY Dn hi)]
   have O:=Kw PX;have I:∀v,dn C.E (X C.E) keep ops dm n0 i 0 mm p ⟨t1,h1,[],df⟩=ab ⟨putDst t1 p.dst v,h1,[],df⟩->ie C.E (X C.E) keep ops dm n0 (o::l) ds i ⟨t,h,[],df⟩=ie C.E (X C.E) keep ops dm n0 l2 XW i ⟨putDst t1 p.dst v,h1,[],df⟩:=λv q=>by
    rw[N,ae7 zO G,wy];show(match dn C.E (X C.E) keep ops dm n0 i 0 mm p ⟨t1,h1,[],df⟩with
     |none=>ae
     |some rj=>ie C.E (X C.E) keep ops dm n0 l2 XW (bif bS C.E p.op then i+1 else i) rj)=_
    rw[q,ZL];rfl
   have P:∀j,i<=j->j< n0->ar h1 (dm+j)=ae/\∀b,M.b b≠ab (dm+j):=λj hj w=>by
    obtain⟨a1,a2⟩:=J j hj w;exact⟨(n.out _ (by omega) a2).trans a1,a2⟩
   have Y6:hb.length<=dm∨news C.E l2=0:=zI.imp id λq=>by rw[<-oD];exact q
   obtain⟨Z,DB,wD,⟨hg,e⟩|⟨hg,e⟩⟩:=Io F e
   .obtain ⟨Bk,v9,M3,t3,h3,s1,s2,s3,s4,s5,s6⟩:=xO hC B D s m l2 so (by omega) (b8 a n.lh) P Y6 hM (A.trans n) H (sE DB (v:=.sy .bool c) (u:=.im (.bool c)) rfl p.dst) e
    refine⟨Bk,v9,M3,t3,h3,?_,s2,s3,s4,λi hi=>(s5 i hi).trans ((O Z _ i hi).trans ((wD i hi).trans (Ds i hi))),s6⟩
    rw[I (.im (.bool c)) (by
     unfold dn;simp only[hg,Dw];show((oU [] (ev t1 (.tmp d)) (ev t1 x) (ev t1 y)).map λr=>(⟨putDst t1 p.dst r.1,h1,[],df⟩:St))=_
     rw[K];rfl)]
    exact s1
   obtain⟨Bk,v9,M3,t3,h3,s1,s2,s3,s4,s5,s6⟩:=xO hC B D s m l2 so (by omega) (b8 a n.lh) P Y6 hM (A.trans n) H (sE DB (v:=.aH []) (u:=.im (.aH [])) (by simp only[VR];exact⟨[],rfl,rfl⟩) p.dst) e
   refine⟨Bk,v9,M3,t3,h3,?_,s2,s3,s4,λi hi=>(s5 i hi).trans ((O Z _ i hi).trans ((wD i hi).trans (Ds i hi))),s6⟩
   rw[I (.im (.aH [])) (by
    unfold dn;simp only[hg])]
   exact s1
  cases ds with
  |nil=>cases e
  |cons cm ds=>
  replace e:uj ops tc o.guard (λtc=>LL C ih f keep wb U n0 i cm o.op tc ch λv ch=>sN C ih f keep U ops n0 m ρ l ds (bif bS C.E o.op then i+1 else i) wb (mX tc o.dst v) ch W) (λtc=>sN C ih f keep U ops n0 m ρ l ds (bif bS C.E o.op then i+1 else i) wb (mX tc o.dst (.aH [])) ch W)=ab r:=e
  have aI:=Kw (hl o (eh ..));have PL:∀o∈l,o∈ops.toList:=λo ho=>hl o (ff _ ho)
  generalize sk:(bif bS C.E o.op then i+1 else i)=i' at*;have Y:i+((bif bS C.E o.op then 1 else 0)+news C.E l)<=n0:=Y;have Q:hb.length<=dm∨news C.E l=0:=zI.imp id λq=>by
   rw[show news C.E (o::l)=(bif bS C.E o.op then 1 else 0)+news C.E l from rfl]at q;omega
  have PJ:i<=i'/\i'+news C.E l<=n0:=by
   rw[<-sk];cases hq:bS C.E o.op with
   |true=>rw[hq,ao]at Y;rw[ao];omega
   |false=>rw[hq,au]at Y;rw[au];omega
  have I:ie C.E (X C.E) keep ops dm n0 (o::l) (cm::ds) i ⟨t,h,[],df⟩=(match dn C.E (X C.E) keep ops dm n0 i cm.1 cm.2 o ⟨t,h,[],df⟩with
    |none=>ae
    |some rj=>ie C.E (X C.E) keep ops dm n0 l ds i' rj):=by
   rw[<-sk];rfl
  obtain⟨Bj,F,zL,⟨hg,e⟩|⟨hg,e⟩⟩:=Io ht e
  .unfold LL at e;cases hw:bS C.E o.op&&al cm.1 1 with
   |true=>
    rw[hw,ao]at e;rw[aM]at hw;have hi1:i'=i+1:=by rw[<-sk,hw.1];rfl
    obtain⟨Dy,PZ⟩:=J i (aL _) (by omega)
    obtain⟨v,ob,cv,ba,M',q1,q2,q3,T,q5,q6,q7,q8⟩:=asd hs F (c:=dm+i) (by omega) PZ e
    have zR:h.length<=(dP h (dm+i) ob).length:=by
     cases ob
     .exact aL _
     rename_i b;show _<=(Go.As.aI h (dm+i) b).length;rw[b9];split<;>omega
    have ZK:∀d,d≠dm+i->ar (dP h (dm+i) ob) d=ar h d:=λd hd=>by
     cases ob
     .rfl
     rename_i b;show ar (Go.As.aI h (dm+i) b) d=_;rw[bR _ _ _ _ (by omega),ax hd]
    have hbl:hb.length<=dm:=zI.elim id λq=>by
     rw[show news C.E (o::l)=(bif bS C.E o.op then 1 else 0)+news C.E l from rfl,hw.1,ao]at q;omega
    have R:Fr wb Mb zl hb M' ba (dP h (dm+i) ob):=⟨A.le.trans T,b8 A.lc q5,b8 A.lh zR,λb hb hw=>(q6 b (fY hb A.lc)).trans (A.keep b hb hw),
     λb d e=>(q7 b d e).elim (λe=>A.nb b d e) λq=>.inr (by omega),λd hd hn=>(ZK d (by omega)).trans (A.out d hd hn)⟩
    obtain⟨Z,S,M2,t2,h2,G,H,n,K,r5,r6⟩:=xO hC B D s m l PL PJ.2 (b8 a zR) (λj hj w=>by
     have Zt:i<=j:=by omega
     exact⟨by rw[ZK _ (by omega)];exact(J j Zt w).1,λb q=>(q7 b _ q).elim ((J j Zt w).2 b) (by omega)⟩) Q (hM.trans T) R q3 (sE (F.mono T) q2 o.dst) q8
    refine⟨Z,S,M2,t2,h2,?_,H,n,K,λi hi=>(r5 i hi).trans ((aI Bj cv i hi).trans (zL i hi)),r6⟩
    rw[I];have:dn C.E (X C.E) keep ops dm n0 i cm.1 cm.2 o ⟨t,h,[],df⟩=ab ⟨putDst t o.dst v,dP h (dm+i) ob,[],df⟩:=by
     unfold dn;simp only[hg];rw[bU hw.2];show(bif bS C.E o.op then(match ar h (dm+i)with
      |none=>(fL C.E (X C.E) keep (dm+i) t (dg dm cm.2 h) o.op).map λ(r:V×Option cj)=>(⟨putDst t o.dst r.1,dP h (dm+i) r.2,[],df⟩:St)
      |some _=>ae)else(fL C.E (X C.E) keep (aF h) t (dg dm cm.2 h) o.op).bind λ(r:V×Option cj)=>(match r.2 with
       |none=>ab ⟨putDst t o.dst r.1,h,[],df⟩
       |some _=>ae))=_
     rw[hw.1,ao,Dy];show((fL C.E (X C.E) keep (dm+i) t (dg dm cm.2 h) o.op).map λ(r:V×Option cj)=>(⟨putDst t o.dst r.1,dP h (dm+i) r.2,[],df⟩:St))=_
     rw[q1 _ (by rw[Zp];omega) (Zo _ _ _ _ Dy)];rfl
    rw[this];exact G
   |false=>
    rw[hw,au]at e;have ZB:(Ac n0 i cm).1=1->bS C.E o.op=af:=λq=>by
     have hc1:cm.1=1:=by
      unfold Ac at q;cases hb:(al cm.1 1||al cm.1 5)&&eT (λj=>bu i j&&cQ j n0) cm.2 with
      |true=>rw[hb,ao]at q;exact q
      |false=>rw[hb,au]at q;exact q
     cases hq:bS C.E o.op
     .rfl
     rw[hq,hc1]at hw;cases hw
    obtain⟨v,h',cv,ba,M',q1,q2,q3,T,q5⟩:=alh hC B hs F e hg ZB dm n0 i (λb cv q c p=>by
     obtain⟨c0,_,k1,_⟩:=s.cell b cv q;rw[hM.b _ _ k1]at p;cases p;exact fY (s.len _ _ k1).2 D)
    have R:=A.trans T;obtain⟨Z,S,M2,t2,h2,G,H,n,K,r5,r6⟩:=xO hC B D s m l PL PJ.2 (b8 a T.lh) (λj hj w=>by
     obtain⟨a1,a2⟩:=J j (by omega) w
     refine⟨(T.out _ (by omega) a2).trans a1,λb q=>?_⟩
     rcases T.nb b _ q with⟨b0,q⟩|q
     .exact a2 b0 q
     omega) Q (hM.trans T.le) R q3 (sE (F.mono T.le) q2 o.dst) q5
    refine⟨Z,S,M2,t2,h2,?_,H,n,K,λi hi=>(r5 i hi).trans ((aI Bj cv i hi).trans (zL i hi)),r6⟩
    rw[I];have:dn C.E (X C.E) keep ops dm n0 i cm.1 cm.2 o ⟨t,h,[],df⟩=dn C.E (X C.E) keep ops dm n0 i (Ac n0 i cm).1 (Ac n0 i cm).2 o ⟨t,h,[],df⟩:=by
     unfold Ac;cases hb:(al cm.1 1||al cm.1 5)&&eT (λj=>bu i j&&cQ j n0) cm.2 with
     |false=>rfl
     |true=>
      rw[aM]at hb;rw[ao];have hh:dg dm cm.2 h=h:=Zq _ _ _ λj hj=>by
       have PK:=ku hb.2 j hj;rw[aM]at PK;exact(J j (jl PK.1) (jl PK.2)).1
      rw[kc]at hb;unfold dn;simp only[hg];rcases hb.1 with q|q<;>rw[bU q]<;>simp only[hh]<;>rfl
    rw[this,q1];exact G
  obtain⟨Z,S,M2,t2,h2,G,H,n,K,r5,r6⟩:=xO hC B D s m l PL PJ.2 a (λj hj w=>J j (by omega) w) Q hM A hs (sE F (v:=.aH []) (u:=.im (.aH [])) (by simp only[VR];exact⟨[],rfl,rfl⟩) o.dst) e
  refine⟨Z,S,M2,t2,h2,?_,H,n,K,λi hi=>(r5 i hi).trans ((aI Bj (.aH []) i hi).trans (zL i hi)),r6⟩
  rw[I];have:dn C.E (X C.E) keep ops dm n0 i cm.1 cm.2 o ⟨t,h,[],df⟩=ab ⟨putDst t o.dst (.im (.aH [])),h,[],df⟩:=by
   unfold dn;rw[hg]
  rw[this];exact G
theorem auE(hC:jK C)(I:Good C ih){f id:Nat}{ops:Array Oper}{tc:TC}{t:Tm}{g:TC->CH->Option ρ}(J:HS M ch h)(m:bF M tc t)(e:Lh C ih f id wb ops tc ch g=ab r):
  ∃A ba M' l h',qZ C.E (X C.E) f id ops ⟨t,h,[],df⟩=ab ⟨l,h',[],df⟩/\HS M' ba h'/\bF M' A l/\Fr wb M ch h M' ba h'/\(∀i,bg (dstsOf ops.toList) i=af->A.get i=tc.get i)/\g A ba=ab r:=by
 obtain⟨ds,U,e⟩:=ay.1 e;have Z:Fr wb M ch h M ch (h++bP (news C.E ops.toList) ae):=⟨.refl M,aL _,by simp,λ_ _ _=>rfl,lA,λc n _=>by
  simp[cy,gP,n]⟩
 obtain⟨a,d,o,t2,h2,s,p⟩:=xO hC I (dm:=h.length) (n0:=news _ _) (aL _) J _ (i:=0) _ (λ_ h=>h) (by omega) (by simp) (λj _ u=>⟨by
  rw[cy,jE (by omega),List.getElem?_replicate,aK (by omega)];rfl,λb q=>absurd (J.len b _ q).2 (by omega)⟩) (.inl (aL _)) (.refl M) Z (J.pad _) m e
 refine⟨a,d,o,t2,h2,?_,p⟩;unfold qZ;rw[U];show ie _ _ _ _ _ _ _ ds 0 _=_;rw[bz,mc];omega
end
end
section
variable [Gh]
variable {C:CE} {ih:(ρ:Type)->Nat->Code->(Nat->Bool)->TC->CH->KX ρ->Option ρ}
theorem Dk:∀a b i,bg (a++b) i=(bg a i||bg b i)
 |[],b,i=>by simp[bg]
 |x::a,b,i=>by
  show(bif al x i then ag else bg (a++b) i)=((bif al x i then ag else bg a i)||bg b i)
  rw[Dk a b i];cases al x i<;>rfl
def VJ C(ih:(ρ:Type)->Nat->Code->(Nat->Bool)->TC->CH->KX ρ->Option ρ):=
 ∀ρ f b wb tc ch k (r:ρ),Rg C ih f b wb tc ch k=ab r->∀M t h (fb cur:Nat) df,HS M ch h->bF M tc t->
  rL wb M tc ch h (writes b) df (h8 b&&al fb 0) (X C.E f fb cur (.loop b) ⟨t,h,[],df⟩) k r
def VI(C:CE)(ih:(ρ:Type)->Nat->Code->(Nat->Bool)->TC->CH->KX ρ->Option ρ):=
 ∀ρ H f a b wb tc ch k (r:ρ),I2 ih H f a b wb tc ch k=ab r->∀M t h (fb cur:Nat) df,HS M ch h->bF M tc t->
  rL wb M tc ch h (writes (.seq a b)) df (h8 (.seq a b)&&al fb 0) (X C.E f fb cur (.seq a b) ⟨t,h,[],df⟩) k r
theorem uY{a b c:Bool}(h:((a||b)&&c)=af):(a&&c)=af/\(b&&c)=af:=by grind
section
variable {ρ:Type} {wb:Nat->Bool} {M:Mu} {ch:CH} {h:Heap} {r:ρ} {E:Env}
theorem Xx o:∀{a b:List V} {x y:List D},V.dW o a=ab x->V.dW o b=ab y->V.dW o (a++b)=ab (x++y)
 |[],_,x,y,h1,h2=>by simp only[V.dW]at h1;cases h1;exact h2
 |v::a,b,x,y,h1,h2=>by
  simp[V.dW]at h1;cases A:V.cV o v<;>cases I:V.dW o a<;>rw[A,I]at h1<;>cases h1;show V.dW o (v::(a++b))=_;simp[V.dW,A,Xx o I h2,List.cons_append]
theorem ac5:∀a b,V.eP (a++b)=V.eP a++V.eP b
 |[],_=>rfl
 |v::a,b=>by show V.eP (v::(a++b))=_;simp[V.eP,ac5 a b,mj]
theorem R1:∀(l:List D),V.eP (l.map V.im)=[]
 |[]=>rfl
 |d::l=>by simp[mo,V.eP,V.fe,R1 l,np]
theorem V5(U:HS M ch h){t:Ty}:∀{vs:List CV} {A:List V} {xs:List t.den},Nk ch t vs=ab xs->aO M vs A->
  V.dW (gL h) A=ab (xs.map t.enc)/\V.eP A=(CV.gM vs).filterMap M.b/\(∀b∈CV.gM vs,∃n c u l,aD ch b=ab (.arr n c u l))/\xs.length=vs.length
 |[],A,xs,e,I=>by
  subst I;cases e;exact⟨rfl,rfl,λb J=>(by cases J),rfl⟩
 |v::vs,A,xs,e,I=>by
  simp[aO]at I;obtain⟨u,A,rfl,h1,h2⟩:=I;have e:(match CV.dt ch t v,Nk ch t vs with|some x,ab xs=>ab _|_,_=>ae)=ab xs:=e
  split at e
  .rename_i x j Z a;cases e;obtain⟨d,f,g,i⟩:=V5 U a h2;refine⟨?_,?_,λb J=>?_,by simp[i]⟩
   .simp [V.dW,(OD U t).1 v x u Z h1,d,mo]
   .simp [V.eP,CV.gM,(R5 U t).1 v x u Z h1,f,BO]
   simp only[CV.gM,cD]at J;exact J.elim ((R4 (ch:=ch) t).1 v x Z b) (g b)
  cases e
theorem Ob:∀I {ch:CH} {b:Nat} {x:CB},aD ch b=ab x->(∀n c t l,x≠.arr n c t l)->aD (pt ch I) b=ab x
 |[],_,_,_,A,_=>A
 |a::I,ch,b,x,A,J=>by
  rw[Xd];split
  .rename_i v c t l U;refine Ob I ?_ J;rw[gp _ _ _ _ (fy U),ax (by intro q;subst q;rw[U]at A;cases A;exact J _ _ _ _ rfl)]
   omega
  exact Ob I A J
theorem al6(A:HS M ch h){tc:TC}{t:Tm}(B:bF M tc t){f id:Nat}{df:List (Nat×List V)}{p:CH->Option ρ}(e:Ic E f id wb tc ch p=ab r):
  ∃ba h',gn E af f id ⟨t,h,[],df⟩=⟨t,h',[],df⟩/\HS M ba h'/\Fr wb M ch h M ba h'/\p ba=ab r:=by
 unfold Ic at e;unfold gn;split at e
 .rename_i d;rw[d];exact⟨ch,h,rfl,A,.refl ..,e⟩
 .rename_i s d;rw[d];have I:=B.get s;show∃ba h',(⟨t,pF _ h _,[],df⟩:St)=⟨t,h',[],df⟩/\_;split at e
  .rename_i j;rw[j]at I;rw[I];exact⟨ch,h,rfl,A,.refl ..,e⟩
  .rename_i b n j;rw[j]at I;split at e
   .rename_i tt l vs J;obtain⟨q,e⟩:=aU e;simp only[aM]at q;obtain⟨c1,c2,D⟩:=q;obtain⟨xs,m,e⟩:=ay.1 e;obtain⟨c,g,u,k1,k2,F,G⟩:=A.xr b _ J;obtain⟨H,K,v,N⟩:=V5 A m G;obtain⟨X,I,_⟩:=I;rw[bU c2,k2]at I;rw[<-(VC (hH I)).1];obtain⟨w,O,P,Q,R⟩:=HS.close (wb:=wb) _ A λb J=>Rp D b J (v b J)
    have U:=Ob (CV.gM vs) J (by simp)
    have Z:=(w.len _ _ k1).2;have o:pF af h (.own c g 0 (l.length+vs.length) af)=aI (Go.As.close h ((CV.gM vs).filterMap M.b)) c (.cG g tt.wd (((cx l xs).map λx=>V.im (tt.enc x))++[])):=by
     unfold pF;have S:V.dW _ ((l.map λx=>V.im _)++u)=ab _:=Xx _ (by
      have:=CU (gL h) (l.map tt.enc);rwa[Gf]at this) H
     have T:V.eP ((l.map λx=>V.im (tt.enc x))++u)=(CV.gM vs).filterMap M.b:=by
      have:=R1 (l.map tt.enc);rw[Gf]at this;rw[ac5,K,show V.eP (l.map λx=>V.im _)=[]from this];rfl
     simp only[F,S,T,A.gH _ v,ao];rw[oG,np,<-ml,Gf];rfl
    rw[o];refine⟨_,_,rfl,w.Sy U k1 (l':=cx l xs) (vs':=[]) (us':=[]) (by simp[cx,N]) k2 rfl,⟨.refl M,by simp[e9,O,aL],by simp_all[b9,aK,Z,P,aL],λi hi hw=>?_,lA,λy W z=>?_⟩,e⟩
    .rw [gp _ _ _ _ (fy U),ax (by grind)]
     exact Q i hw
    rw[bR _ _ _ _ (dj Z),ax (by grind)]
    exact R y W z
   trivial
  trivial
 rename_i a s z d;exact⟨ch,h,by grind,A,.refl ..,e⟩
theorem al7(N:HS M ch h){tc:TC}{t:Tm}(ht:bF M tc t){f id:Nat}{ws:List Nat}{df:List (Nat×List V)}{kk:TC->CH->Option ρ}(e:wo E f id ws wb tc ch kk=ab r):
  ∃D ba M' h',gn E ag f id ⟨t,h,[],df⟩=⟨t,h',[],df⟩/\HS M' ba h'/\bF M' D t/\Fr wb M ch h M' ba h'/\(∀i,bg ws i=af->D.get i=tc.get i)/\kk D ba=ab r:=by
 unfold wo at e;unfold gn;have same:kk tc ch=ab r->∃D ba M' h',(⟨t,h,[],df⟩:St)=⟨t,h',[],df⟩/\HS M' ba h'/\bF M' D t/\Fr wb M ch h M' ba h'/\(∀i,bg ws i=af->D.get i=tc.get i)/\kk D ba=ab r:=λe=>
  ⟨tc,ch,M,h,rfl,N,ht,.refl ..,λ_ _=>rfl,e⟩
 split at e
 .grind
 .rename_i s hz;rw[hz];have G:=ht.get s;show∃D ba M' h',(⟨t,pF ag h (t.get s),[],df⟩:St)=⟨t,h',[],df⟩/\_;split at e
  .rename_i W;rw[W]at G;simp only[VR]at G;rw[G];exact same e
  .rename_i b n W;rw[W]at G;split at e
   .rename_i tt l O;obtain⟨K,e⟩:=aU e;simp only[aM]at K;obtain⟨c0,c1,c2⟩:=K;obtain⟨c,g,us,k1,k2,k3,k4⟩:=N.xr b _ O;simp only[aO]at k4;subst k4;simp only[VR]at G;obtain⟨s0,G,_⟩:=G;rw[bU c2,k2]at G;have G:(V.own c g 0 (l.length+([]:List CV).length) af,tt.wd)=(t.get s,s0):=hH G;have I:=(N.len _ _ k1).2;have hfz:pF ag h (t.get s)=aI h c (.arr g tt.wd 0 (l.map tt.enc)):=by
     rw[<-(VC G).1];unfold pF;have hd:V.dW (gL h) ((l.map λx=>V.im (tt.enc x))++[])=ab (l.map tt.enc):=by
      have:=CU (gL h) (l.map tt.enc);rw[Gf]at this;rw[np];trivial
     have ho:V.eP ((l.map λx=>V.im (tt.enc x))++[])=[]:=by
      have:=R1 (l.map tt.enc);rw[Gf]at this;rw[np];trivial
     simp only[k3,hd,ho];rfl
    rw[hfz];generalize J:aI h c (.arr g tt.wd 0 (l.map tt.enc))=h';have U:h'.length=h.length:=by rw[<-J,b9,aK I]
    have F:∀y,y≠c->ar h' y=ar h y:=λy P=>by rw[<-J,bR _ _ _ _ (dj I),ax P]
    obtain⟨Q,Z⟩:=N.gone O k1 U F;have H:(bC ch b ae).length=ch.length:=Ju ..;obtain⟨A,X⟩:=Q.ks (x:=.arr 0 af tt l) (h':=h') (c:=c) (g:=g) (m:=l.length) (s:=tt.wd) Z (by omega) (by omega) (λy _ _=>rfl) (λv q=>by cases q)
     (λ_ _ _ _ q=>by cases q;exact⟨rfl,rfl,rfl,0,by rw[<-J,bR _ _ _ _ (dj I),aK rfl],λ_=>rfl,bH _⟩) trivial
    rw[bz,<-H]at e;refine⟨_,_,_,h',rfl,X,(ht.mono A).u3 ?_,⟨A,by simp,by omega,λi hi hw=>?_,y7 (.inl ⟨b,k1⟩),λy P hn=>F y (by grind)⟩,λi hi=>TC.ui _ _ _ _ (by grind),e⟩
    .simp only[VR];exact⟨tt.wd,by rw[vU,<-(VC G).1];rfl,by omega⟩
    rw[de,ax (by omega),D1 _ _ (by grind)]
   trivial
  trivial
 .rename_i s hz;rw[hz];have G:=ht.get s;show∃D ba M' h',(⟨t,sX h (t.get s),[],df⟩:St)=⟨t,h',[],df⟩/\_;split at e
  .rename_i b d p W;rw[W]at G;split at e
   .rename_i u l w O;replace e:=aU e;obtain⟨K,e⟩:=e;rw[aM]at K;obtain⟨c1,c2⟩:=K;have:=bU c1;subst this;split at e
    .rename_i S v n T;split at e
     .rename_i v' tt l' R;replace e:=aU e;obtain⟨K,e⟩:=e;rw[aM]at K;obtain⟨d1,d2⟩:=K;have:=bU d1;subst this;obtain⟨B,e⟩:=aU e;rw[oF,decide_eq_true_eq]at B;have B:0< l'.length:=by have:(0:Int)<(l'.length:Int):=B;omega
      obtain⟨w',DD,e⟩:=ay.1 e;obtain⟨c,g,us,i,j,z,am4,q1,q2,q3,q4,q5,q6⟩:=Un N O G (w:=w) rfl rfl;obtain⟨y,P,ZY⟩:=q5.Am T;obtain⟨u0,r1,r2⟩:=N.arr S v af tt l' R;rcases r2 with⟨_,rfl,_⟩|⟨x,g2,ro,r3,rfl,r5,r6,r7⟩
      .exact absurd B (gE 0)
      have uw:=r6 rfl;subst uw;simp only[VR]at ZY;obtain⟨x',g',m',s',Y,rfl,y3⟩:∃c g m s,M.o S v=ab (.own c g 0 m af,s)/\y=.own c g 0 n af/\n<=m:=by
       rcases ZY with⟨c,g,m,s,Y,y2,y3⟩|⟨s,Y,_⟩
       .exact ⟨c,g,m,s,Y,y2,by simpa using y3⟩
       rw[r1]at Y;cases Y
      rw[r1]at Y;cases Y;have amT:eU h c g ((i,i*u.wd)::p)=ab (.own x g2 0 n af):=by
       unfold eU;rw[q2];show(bif al g g&&al (i*u.wd) (i*u.wd)then(bG ((l.map λx=>V.im (u.enc x))++us) i).bind λd=>d.eZ p else ae)=_
       rw[gj,gj,cu,q4];exact P
      have P4:sX h (t.get s)=aI h x (.arr g2 tt.wd 0 ((gv l' n).map tt.enc)):=by
       rw[am4];unfold sX;simp only[amT];unfold x8;simp only[r5,bz,gg];rw[km (bH n),km y3];unfold gv;rw[Gg];rfl
      rw[P4];generalize J:aI h x (.arr g2 tt.wd 0 ((gv l' n).map tt.enc))=h';have I:=(N.len _ _ r3).2;have U:h'.length=h.length:=by rw[<-J,b9,aK I]
      have F:∀y,y≠x->ar h' y=ar h y:=λy P=>by rw[<-J,bR _ _ _ _ (dj I),ax P]
      have wt:b≠S:=by intro q;subst q;rw[O]at R;cases R
      have P3:(gv l' n).length=n:=by unfold gv;rw[gi];omega
      obtain⟨Q,Z⟩:=N.gone R r3 U F;have H:(bC ch S ae).length=ch.length:=Ju ..;obtain⟨A,ZS⟩:=Q.ks (x:=.arr 0 af tt (gv l' n)) (h':=h') (c:=x) (g:=g2) (m:=n) (s:=tt.wd) Z (by omega) (by omega) (λy _ _=>rfl) (λv q=>by cases q)
       (λ_ _ _ _ q=>by cases q;exact⟨rfl,P3.symm,rfl,0,by rw[<-J,bR _ _ _ _ (dj I),aK rfl],λ_=>rfl,bH _⟩) trivial
      generalize Pk:M.add (bC ch S ae).length x g2 n tt.wd=M2 at A ZS;have zQ:VR M2 (.own (aF ch) 0) (.own x g2 0 n af):=by
       simp only[VR];exact⟨tt.wd,by rw[bz,<-H,<-Pk,vU],rfl⟩
      obtain⟨z',ZZ,hzr,_⟩:=VR.put zQ rfl (q5.mono A _ _) DD;rw[ad1 q5 T P]at ZZ;cases ZZ;have hb3:aD (bC ch S ae++[ab (.arr 0 af tt (gv l' n))]) b=ab (.cC u l [w]):=by
       rw[de,ax (by have:=fy O;omega),D1 _ _ wt];exact O
      have Iq:ar h' c=ab (.cG g u.wd ((l.map λx=>V.im (u.enc x))++us)):=(F c (by
       intro q;subst q;have:=N.inj b S c (by rw[O];simp) (by rw[R];simp) q1 r3
       exact wt this)).trans q2
      have DC:us=[z]:=by
       simp only[aO]at q3;obtain⟨z1,_,rfl,_,rfl⟩:=q3;rw[q6.1,jE (by simp)]at q4
       have hj:j=0:=by have:=q6.2.1;rw[<-this];rfl
       rw[hj]at q4;simp at q4;rw[q4]
      subst DC;have aI:aI h' c (.cG g u.wd ((l.map λx=>V.im (u.enc x))++[z]))=h':=by
       have key:∀(h:Heap) (c:Nat) (x:cj),ar h c=ab x->aI h c x=h:=by
        intro h;induction h with
        |nil=>intro c x e;simp[cy]at e
        |cons a h ih=>
         intro c x e;cases c with
         |zero=>simp[cy]at e;subst e;rfl
         |succ c=>rw[Dx,ih c x (by simpa[cy]using e)]
       exact key _ _ _ Iq
      have IB:=ZS.Sy hb3 (A.b _ _ q1) (l':=l) (vs':=[w']) (by rfl) (A.o _ _ _ q6.2.2) (us':=[z]) (by simp only[aO];exact⟨z,[],rfl,hzr,rfl⟩)
      rw[aI]at IB;refine⟨tc,_,M2,h',rfl,IB,ht.mono A,⟨A,by rw[e9];simp[H],by omega,λi hi hw=>?_,?_,λy P hn=>F y (by rintro rfl;exact hn S r3)⟩,λ_ _=>rfl,e⟩
      .rw [gp _ _ _ _ (by simp[H];have:=fy O;omega),ax (by intro q;subst q;rw[c2]at hw;cases hw),de,ax (by omega),D1 _ _ (by intro q;subst q;rw[d2]at hw;cases hw)]
      rw[<-Pk];exact y7 (.inl ⟨S,r3⟩)
     trivial
    trivial
   trivial
  .rename_i b v n W;rw[W]at G;split at e
   .rename_i v' tt l O;obtain⟨K,e⟩:=aU e;rw[aM,aM]at K;obtain⟨B,e⟩:=aU e;rw[oF,decide_eq_true_eq]at B;rcases N.dR O K.2.1 G with⟨_,rfl,_⟩|⟨c,g,ro,h1,P7,h3,h4,h5,h6,h7⟩<;>try trivial
    have:=h5 rfl;subst this;have h3:n<=l.length:=by simpa using h3
    have P4:sX h (t.get s)=aI h c (.arr g tt.wd 0 ((gv l n).map tt.enc)):=by
     rw[P7];unfold sX x8;simp only[h4,bz,gg];rw[km (bH n),km h3];unfold gv;rw[Gg];rfl
    rw[P4];generalize J:aI h c (.arr g tt.wd 0 ((gv l n).map tt.enc))=h';have I:=(N.len _ _ h1).2;have U:h'.length=h.length:=by rw[<-J,b9,aK I]
    have F:∀y,y≠c->ar h' y=ar h y:=λy P=>by rw[<-J,bR _ _ _ _ (dj I),ax P]
    have P3:(gv l n).length=n:=by unfold gv;rw[gi];omega
    obtain⟨Q,Z⟩:=N.gone O h1 U F;have H:(bC ch b ae).length=ch.length:=Ju ..;obtain⟨A,X⟩:=Q.ks (x:=.arr 0 af tt (gv l n)) (h':=h') (c:=c) (g:=g) (m:=n) (s:=tt.wd) Z (by omega) (by omega) (λy _ _=>rfl) (λv q=>by cases q)
     (λ_ _ _ _ q=>by cases q;exact⟨rfl,P3.symm,rfl,0,by rw[<-J,bR _ _ _ _ (dj I),aK rfl],λ_=>rfl,bH _⟩) trivial
    rw[bz,<-H]at e;refine⟨_,_,_,h',rfl,X,(ht.mono A).u3 ?_,⟨A,by simp[H],by omega,λi hi hw=>?_,y7 (.inl ⟨b,h1⟩),λy P hn=>F y (by rintro rfl;exact hn b h1)⟩,λi hi=>TC.ui _ _ _ _ (by intro q;subst q;rw[K.1]at hi;cases hi),e⟩
    .simp only[VR];exact⟨tt.wd,by rw[vU,P7];rfl,by rw[P7];rfl⟩
    rw[de,ax (by omega),D1 _ _ (by intro q;subst q;rw[K.2.2]at hw;cases hw)]
   cases e
  trivial
 grind
end
theorem ako(hC:jK C)(p:Good C ih)(hl:VJ C ih)(hj:VI C ih):Good C (λ_=>WY C ih):=by
 intro ρ f c wb tc ch k r e M t h fb cur df O K;have plain:∀ex,X C.E f fb cur c ⟨t,h,[],df⟩=ab (ex,⟨t,h,[],df⟩)->k ex tc ch=ab r->rL wb M tc ch h (writes c) df (h8 c&&al fb 0) (X C.E f fb cur c ⟨t,h,[],df⟩) k r:=λex D n=>
  ⟨ex,tc,ch,M,t,h,[],D,O,K,.refl ..,λ_ _=>rfl,⟨.nil _,λ_=>rfl⟩,n⟩
 cases c with
 |skip=>exact plain .nm (by rw[kZ];rfl) e
 |label l=>exact plain .nm (by rw[kZ];rfl) e
 |exit id=>exact plain (.exit id) (by rw[kZ];rfl) e
 |ret=>exact plain .ret (by rw[kZ];rfl) e
 |region id ops Z=>
  replace e:Ic C.E f id wb tc ch (λch=>bif Z then Lh C ih f id wb ops tc ch (wo C.E f id (dstsOf ops.toList) wb · · (k .nm))else Ll C ih f (C.E.keep f) wb ops ops.toList tc ch (wo C.E f id (dstsOf ops.toList) wb · · (k .nm)))=ab r:=e
  obtain⟨Q,h0,z1,z2,z3,e⟩:=al6 (df:=df) O K e;have fin:∀{A I s t1 h1},HS s I h1->bF s A t1->Fr wb M Q h0 s I h1->(∀i,bg (dstsOf ops.toList) i=af->A.get i=tc.get i)->wo C.E f id (dstsOf ops.toList) wb A I (k .nm)=ab r->
    (match(bif Z then qZ C.E (X C.E) f id ops ⟨t,h0,[],df⟩else dQ C.E (X C.E) (C.E.keep f) ops ops.toList ⟨t,h0,[],df⟩)with|some U=>ab U|none=>ae)=ab ⟨t1,h1,[],df⟩->
    rL wb M tc ch h (writes (.region id ops Z)) df (h8 (.region id ops Z)&&al fb 0) (X C.E f fb cur (.region id ops Z) ⟨t,h,[],df⟩) k r:=λ{A I s t1 h1} a1 a2 a3 a4 e a5=>by
   obtain⟨R,F,M2,h2,w1,w2,w3,w4,w5,w6⟩:=al7 (df:=df) a1 a2 e;refine⟨.nm,R,F,M2,t1,h2,[],?_,w2,w3,(z3.trans a3).trans w4,λi hi=>(w5 i hi).trans (a4 i hi),⟨.nil _,λ_=>rfl⟩,w6⟩
   rw[kZ];show(match(bif Z then qZ C.E (X C.E) f id ops (gn C.E af f id ⟨t,h,[],df⟩)else dQ C.E (X C.E) (C.E.keep f) ops ops.toList (gn C.E af f id ⟨t,h,[],df⟩))with
    |some U=>ab (Ex.nm,gn C.E ag f id U)
    |none=>ae)=_
   rw[z1];split at a5<;>try trivial
   rename_i U hq;cases a5;first|(rw[hq,w1];rfl)|(rw[w1];rfl)
  cases Z with
  |true=>
   obtain⟨Bi,ba,M',t',h',D,n,w,u,z,m⟩:=auE (df:=df) hC p z2 K (show Lh C ih f id wb ops tc Q _=ab r from e);exact fin n w u z m (by show(match qZ C.E (X C.E) f id ops ⟨t,h0,[],df⟩with|some U=>ab U|none=>ae)=_;rw[D])
  |false=>
   obtain⟨Bi,ba,M',t',h',D,n,w,u,z,m⟩:=au7 (df:=df) hC p (ops:=ops) ops.toList (λ_ h=>h) z2 K (show Ll C ih f (C.E.keep f) wb ops ops.toList tc Q _=ab r from e)
   exact fin n w u z m (by show(match dQ C.E (X C.E) (C.E.keep f) ops ops.toList ⟨t,h0,[],df⟩with|some U=>ab U|none=>ae)=_;rw[D])
 |seq a b=>
  replace e:(match(keyOf b).bind (C.join f)with
   |some H=>I2 ih (H.at tc) f a b wb tc ch k
   |none=>ih ρ f a wb tc ch (λex tc ch=>match ex with|.nm=>ih ρ f b wb tc ch k|ex=>k ex tc ch))=ab r:=e
  split at e
  .exact hj ρ _ f a b wb tc ch k r e M t h fb cur df O K
  obtain⟨ex,A,I,s,t1,h1,J,D,n,w,u,z,G,m⟩:=p ρ f a wb tc ch _ r e M t h fb cur df O K;have hw:∀i,bg (writes (.seq a b)) i=af->bg (writes a) i=af/\bg (writes b) i=af:=λi hi=>by
   have hi:bg (writes a++writes b) i=af:=hi;rw[Dk,jD]at hi;exact hi
  have B:X C.E f fb cur (.seq a b) ⟨t,h,[],df⟩=(match X C.E f fb cur a ⟨t,h,[],df⟩with
    |some (.nm,U)=>X C.E f fb cur b U
    |r=>r):=by rw[kZ];rfl
  have q7':pg h.length J/\((h8 (.seq a b)&&al fb 0)=af->J=[]):=⟨G.1,λN=>G.2 (uY N).1⟩
  cases ex with
  |nm=>
   obtain⟨C4,R,F,M2,t2,h2,D5,r1,r2,r3,r4,r5,r7,r6⟩:=p ρ f b wb A I k r m s t1 h1 fb cur (J++df) n w;exact⟨C4,R,F,M2,t2,h2,D5++J,by rw[B,D,mj];exact r1,r2,r3,u.trans r4,λi hi=>(r5 i (hw i hi).2).trans (z i (hw i hi).1),⟨r7.1.app G.1 u.lh,λN=>by rw[G.2 (uY N).1,r7.2 (uY N).2];rfl⟩,r6⟩
  |exit j=>exact⟨.exit j,A,I,s,t1,h1,J,by rw[B,D],n,w,u,λi hi=>z i (hw i hi).1,q7',m⟩
  |ret=>exact⟨.ret,A,I,s,t1,h1,J,by rw[B,D],n,w,u,λi hi=>z i (hw i hi).1,q7',m⟩
 |cond c a b=>
  have e:(match vC tc c with
   |.sy .bool t=>bif t then ih ρ f a wb tc ch k else ih ρ f b wb tc ch k
   |_=>ae)=ab r:=e
  have hv:=je K c;have B:X C.E f fb cur (.cond c a b) ⟨t,h,[],df⟩=(match ev t c with
   |.im (.bool q)=>bif q then X C.E f fb cur a ⟨t,h,[],df⟩else X C.E f fb cur b ⟨t,h,[],df⟩
   |_=>ae):=by rw[kZ];rfl
  split at e<;>try trivial
  rename_i q hq;rw[hq]at hv;rw[hv.bool]at B;cases q with
  |true=>
   obtain⟨ex,A,I,s,t1,h1,J,D,n,w,u,z,G,m⟩:=p ρ f a wb tc ch k r e M t h fb cur df O K;exact⟨ex,A,I,s,t1,h1,J,B.trans D,n,w,u,λi hi=>z i (by
    have hi:bg (writes a++writes b) i=af:=hi;simp_all[Dk,jD,hi]),⟨G.1,λN=>G.2 (uY N).1⟩,m⟩
  |false=>
   obtain⟨ex,A,I,s,t1,h1,J,D,n,w,u,z,G,m⟩:=p ρ f b wb tc ch k r e M t h fb cur df O K;exact⟨ex,A,I,s,t1,h1,J,B.trans D,n,w,u,λi hi=>z i (by
    have hi:bg (writes a++writes b) i=af:=hi;simp_all[Dk,jD,hi]),⟨G.1,λN=>G.2 (uY N).2⟩,m⟩
 |block id b=>
  obtain⟨ex,A,I,s,t1,h1,J,D,n,w,u,z,G,m⟩:=p ρ f b wb tc ch _ r e M t h fb id df O K;have B:X C.E f fb cur (.block id b) ⟨t,h,[],df⟩=(match X C.E f fb id b ⟨t,h,[],df⟩with
   |some (.exit j,U)=>bif al j id then ab (.nm,U)else ab (.exit j,U)
   |r=>r):=by rw[kZ];rfl
  rw[D]at B;cases ex with
  |exit j=>
   have m:(bif al j id then k .nm A I else k (.exit j) A I)=ab r:=m;have B:X C.E f fb cur (.block id b) ⟨t,h,[],df⟩=(bif al j id then ab (.nm,⟨t1,h1,[],J++df⟩)else ab (.exit j,⟨t1,h1,[],J++df⟩)):=B;cases hj:al j id with
   |true=>rw[hj]at B m;exact⟨.nm,A,I,s,t1,h1,J,B,n,w,u,z,G,m⟩
   |false=>rw[hj]at B m;exact⟨.exit j,A,I,s,t1,h1,J,B,n,w,u,z,G,m⟩
  |nm=>exact⟨.nm,A,I,s,t1,h1,J,B,n,w,u,z,G,m⟩
  |ret=>exact⟨.ret,A,I,s,t1,h1,J,B,n,w,u,z,G,m⟩
 |scope b=>
  obtain⟨ex,A,I,s,t1,h1,J,D,n,w,u,z,G,m⟩:=p ρ f b wb tc ch k r e M t h fb cur df O K;exact⟨ex,A,I,s,t1,h1,J,by rw[kZ];exact D,n,w,u,z,G,m⟩
 |loop b=>exact hl ρ f b wb tc ch k r e M t h fb cur df O K
 |rangeFunc o ps bT body=>
  replace e:(match vC tc o with
   |.fn g a cap=>wK C ih g (a++(.yl (aF ch)::cap)) wb (ch++[ab (.nN f tc ps.toList bT body)]) λ_ F=>(match aD F (aF ch)with
    |some (.nN _ _ _ _ _)=>k .nm tc (bC F (aF ch) ae)
    |_=>ae)
   |_=>ae)=ab r:=e
  have hv:=je K o;split at e<;>try trivial
  rename_i g a cap hq;rw[hq]at hv;simp only[VR]at hv;obtain⟨as,cs,lS,v1,v2⟩:=hv;rw[bz]at e;have hL:(h++[ae,ab (cj.lp f t ps.toList bT body)]).length=h.length+2:=by simp
  have hg:∀y,y< h.length->ar (h++[ae,ab (cj.lp f t ps.toList bT body)]) y=ar h y:=λy S=>by rw[cy,cy,gP S]
  have Dp:ar (h++[ae,ab (cj.lp f t ps.toList bT body)]) (h.length+1)=ab (.lp f t ps.toList bT body):=by
   rw[cy,jE (by omega)];simp
  have hM0:M.le ⟨λi=>if i=ch.length then ab (h.length+1)else M.b i,M.o⟩:=⟨λi c' e=>by
   show(if i=ch.length then ab (h.length+1)else M.b i)=ab c';rw[ax (by grind[O.rK])];exact e,λ_ _ _ e=>e⟩
  obtain⟨T,hs'⟩:=O.ack (x:=.nN f tc ps.toList bT body) rfl (h':=h++[ae,ab (cj.lp f t ps.toList bT body)]) (c:=h.length+1) (by omega) (by omega) (by omega) hg ⟨h.length+1,t,aK rfl,Dp,K.mono hM0⟩
  have W:aO ⟨λi=>if i=ch.length then ab (h.length+1)else M.b i,M.o⟩ (a++(.yl ch.length::cap)) (as++(.jh (h.length+1)::cs)):=
   aO.app (v1.mono T) ⟨_,_,rfl,⟨h.length+1,aK rfl,rfl⟩,v2.mono T⟩
  obtain⟨v,h2,cv,F,M2,p1,_,p3,p4,e⟩:=Z7 p hs' W e;dsimp only at e;split at e
  .rename_i f' Bi ps' awZ aw0 Y;obtain⟨c2,t2,c3,c4,_⟩:=p3.xr _ _ Y;have Px:=p4.le.b ch.length (h.length+1) (aK rfl);rw[Px]at c3;cases c3;have axb:=(p3.len _ _ Px).2;have amR:(bC h2 (h.length+1) ae).length=h2.length:=by simp
   have IB:HS M2 (bC F ch.length ae) (bC h2 (h.length+1) ae):=p3.Ky Y rfl ae (λy S=>by cases S) Px amR (λy S=>by rw[Dq,ax S]) (λy S=>by cases S)
   have lR:(ch++[ab (CB.nN f tc ps.toList bT body)]).length=ch.length+1:=by simp
   have P:=T.trans p4.le;have B:X C.E f fb cur (.rangeFunc o ps bT body) ⟨t,h,[],df⟩=ab (.nm,⟨t,bC h2 (h.length+1) ae,[],bif al fb 0 then(h.length,[V.undef])::df else df⟩):=by
    rw[kZ];show(match(match ev t o with|.fn g a cap=>ab (g,a,cap)|.im (.fn g)=>ab (g,[],[])|_=>ae:Option (Nat×List V×List V))with
     |some (g,a,cap)=>(match gK C.E (X C.E) g (a++(V.jh (aF h+1)::cap)) (h++[ae,ab (cj.lp f t ps.toList bT body)]) []with
      |some (_,h',lp)=>(match ar h' (aF h+1)with
       |some (.lp ..)=>ab (Ex.nm,(⟨t,bC h' (aF h+1) ae,lp,bif al fb 0 then(aF h,[V.undef])::df else df⟩:St))
       |_=>ae)
      |none=>ae)
     |none=>ae)=_
    rw[lS];simp only;rw[bz,p1];simp only;rw[c4]
   refine⟨.nm,tc,_,M2,t,_,bif al fb 0 then[(h.length,[V.undef])]else[],?_,IB,K.mono P,⟨P,?_,?_,λi hi hw=>?_,λi d hd=>?_,λd hd hn=>?_⟩,λ_ _=>rfl,⟨?_,?_⟩,e⟩
   .grind
   .rw [eO,fQ];have:=p4.lc;omega
   .omega
   .rw [Zk _ _ _ _ (fy Y),ax (by omega),p4.keep i (by omega) hw,de,ax (by omega)]
   .rcases p4.nb i d hd with⟨j,ej⟩|q
    all_goals grind
   .rw [Dq,ax (by omega),<-hg d hd]
    refine p4.out d (by omega) λj ej=>?_
    grind
   .cases al fb 0 with
    |true=>intro d hd;rw[ao,gT]at hd;subst hd;exact⟨rfl,aL _⟩
    |false=>exact .nil _
   intro N;have N:al fb 0=af:=N;rw[N];rfl
  cases e
 |_=>cases e
end
section
variable [Gh]
mutual
def Pt.ef(ch:CH):Pt->CV->List (Option (Nat×Nat)×Nat)
 |.buf _ t,.own b n=>[(ab (b,n),t.wd)]
 |.buf _ t,_=>[(ae,t.wd)]
 |.agg _ l,.agg _ vs=>Pt.kQ ch l vs
 |.cC t p,.own b n=>(ab (b,n),t.wd)::(match aD ch b with|some (.cC _ _ [v])=>Pt.ef ch p v|_=>[])
 |.qy _ p,.fw _ _ v=>Pt.ef ch p v
 |_,_=>[]
def Pt.kQ(ch:CH):List Pt->List CV->List (Option (Nat×Nat)×Nat)
 |p::l,v::vs=>Pt.ef ch p v++Pt.kQ ch l vs
 |_,_=>[]
end
def Mu.at(L:Nat)(M:Mu)(src:List (Option (Nat×Nat)×Nat)):Mu where
 b:=λi=>if i< L then M.b i else match src[i-L]? with|some (ab (b,_),_)=>M.b b|_=>ae
 o:=λi n=>if i< L then M.o i n else if n=0 then(match src[i-L]? with|some (ab (b,m),_)=>M.o b m|some (ae,w)=>ab (.full [],w)|none=>ae)else ae
def BW(M N:Mu)(ch:CH)(s:Option (Nat×Nat)×Nat)(x:Option CB):Prop:=
 (∃b t l v A,x=ab (.cC t l [A])/\s=(ab (b,0),t.wd)/\aD ch b=ab (.cC t l [v])/\∀u,VR M v u->VR N A u)∨∃c t l,x=ab (.arr 0 c t l)/\s.2=t.wd/\match s.1 with|some (b,m)=>∃I,aD ch b=ab (.arr m I t l)/\(c=af->I=af)|none=>l=[]
section
variable {M:Mu} {ch:CH} {h:Heap} {L:Nat} {src:List (Option (Nat×Nat)×Nat)}
theorem NR{c:Bool}{t:Ty}{v:CV}{x:List t.den}(e:zi ch c t v=ab x):(v=.fK/\x=[])∨∃b n A,v=.own b n/\aD ch b=ab (.arr n A t x)/\(c=af->A=af):=by
 unfold zi at e;split at e
 .grind
 .rename_i b n;split at e
  .rename_i J A u l Z;cases I:al n J&&(c||not A)with
   |false=>grind
   |true=>
    rw[I]at e;rw[aM]at I;obtain⟨he,U⟩:=kv e;have:=bU I.1;grind
  trivial
 trivial
mutual
theorem qM(d:HS M ch h):∀(p:Pt) (v:CV) {x:p.ty.den} {u:V} {n:Nat},Pt.get ch p v=ab x->VR M v u->L<=n->(∀(j:Nat) (s:Option (Nat×Nat)×Nat),(Pt.ef ch p v)[j]? =ab s->src[n-L+j]? =ab s)->
  VR (M.at L src) (Pt.mk p x n).1 u/\(Pt.mk p x n).2=n+(Pt.ef ch p v).length/\gq (Pt.mk p x n).1=af/\(Pt.news p x n).length=(Pt.ef ch p v).length/\(∀(j:Nat) (s:Option (Nat×Nat)×Nat),(Pt.ef ch p v)[j]? =ab s->∃y,(Pt.news p x n)[j]? =ab y/\BW M (M.at L src) ch s y)
 |.val t,v,x,u,n,e,A,f,J=>by
  cases v with
  |sy w y=>
   have e:Ty.cs w t y=ab x:=e
   obtain⟨rfl,he,_⟩:=jR e
   simp only[VR]at A
   subst A
   exact⟨by simp only[Pt.mk,VR];rw[he],rfl,rfl,rfl,λj s q=>by simp[Pt.ef]at q⟩
  |_=>cases e
 |.buf c t,v,x,u,n,e,A,f,J=>by
  have e:zi ch c t v=ab x:=by cases v<;>exact e
  rcases NR e with⟨rfl,rfl⟩|⟨b,m,X,rfl,F,Y⟩
  .simp only[VR]at A
   subst A
   have i:=J 0 (ae,t.wd) rfl
   rw[qi]at i
   refine⟨?_,rfl,rfl,rfl,λj s q=>?_⟩
   .show∃s,(M.at L src).o n 0=ab (V.full [],s)/\IZ (.full [])=ag
    refine⟨t.wd,?_,rfl⟩
    show(if n< L then M.o n 0 else if 0=0 then _ else ae)=_
    rw[ax (by omega),aK rfl,i]
   cases j
   .cases q;exact⟨_,rfl,.inr ⟨c,t,[],rfl,rfl,rfl⟩⟩
   simp[Pt.ef]at q
  simp only[VR]at A
  obtain⟨O,A,z⟩:=A
  have i:=J 0 (ab (b,m),t.wd) rfl
  rw[qi]at i
  refine⟨?_,rfl,rfl,rfl,λj s q=>?_⟩
  .show∃s,(M.at L src).o n 0=ab (u,s)/\IZ u=ag
   refine⟨O,?_,z⟩
   show(if n< L then M.o n 0 else if 0=0 then _ else ae)=_
   rw[ax (by omega),aK rfl,i]
   exact A
  cases j
  .cases q;exact⟨_,rfl,.inr ⟨c,t,x,rfl,rfl,X,F,Y⟩⟩
  simp[Pt.ef]at q
 |.nil,v,x,u,n,e,A,f,J=>by
  cases v with
  |fK=>
   simp only[VR]at A
   subst A
   exact⟨by simp only[Pt.mk,VR],rfl,rfl,rfl,λj s q=>by simp[Pt.ef]at q⟩
  |_=>cases e
 |.mp j t,v,x,u,n,e,A,f,J=>by
  cases v with
  |iM j' K l=>
   have e:Ty.cs (.an (.cn (.int j') K)) (.an (.cn (.int j) t)) l=ab x:=e
   obtain⟨he,U⟩:=kv e
   cases he
   have U:x=l:=U
   subst U
   exact⟨A,rfl,rfl,rfl,λj s q=>by simp[Pt.ef]at q⟩
  |_=>cases e
 |.cC t p,v,x,u,n,e,A,f,J=>by
  cases v with
  |own b m=>
   have I:(match aD ch b with
    |some (.cC u l [v])=>bif al m 0 then(match Ty.cs (.an u) (.an t) l,Pt.get ch p v with
     |some x,ab y=>ab (x,y,())
     |_,_=>ae)else ae
    |_=>ae)=ab x:=e
   split at I<;>try(cases I;done)
   rename_i K l v F
   replace I:=aU I;obtain⟨hm,I⟩:=I
   split at I
   .rename_i N y P Q
    cases I
    obtain⟨he,U⟩:=kv P
    cases he
    have U:N=l:=U
    subst U
    have hm:=bU hm
    obtain⟨c,g,T,k1,k2,k3,W⟩:=d.xr b _ F
    simp only[aO]at W
    obtain⟨u0,_,_,R,_⟩:=W
    simp only[VR]at A
    obtain⟨O,A,z⟩:=A
    have Z:Pt.ef ch (.cC t p) (.own b m)=(ab (b,m),t.wd)::Pt.ef ch p v:=by simp only[Pt.ef,F]
    have i:=J 0 (ab (b,m),t.wd) (by rw[Z];rfl)
    rw[qi]at i
    have a:∀D,VR M v D->_:=λD B=>qM d p v (n:=n+1) Q B (by omega) λj s q=>by
     have:=J (j+1) s (by rw[Z];exact q)
     rw[show n+1-L+j=n-L+(j+1) by omega];exact this
    obtain⟨h1,h2,S,G,H⟩:=a u0 R
    refine⟨?_,?_,rfl,?_,λj s q=>?_⟩
    .show∃s,(M.at L src).o n 0=ab (u,s)/\IZ u=ag
     refine⟨O,?_,z⟩
     show(if n< L then M.o n 0 else if 0=0 then _ else ae)=_
     rw[ax (by omega),aK rfl,i]
     exact A
    .rw [Z];show(Pt.mk p y (n+1)).2=_;rw[h2,fH];omega
    .rw [Z];show(ab _::Pt.news p y (n+1)).length=_;rw[fH,fH,G]
    rw[Z]at q
    cases j with
    |zero=>
     cases q
     subst hm
     exact⟨_,rfl,.inl ⟨b,t,N,v,(Pt.mk p y (n+1)).1,rfl,rfl,F,λD B=>(a D B).1⟩⟩
    |succ j=>exact H j s (by simpa using q)
   cases I
  |_=>cases e
 |.qy t p,v,x,u,n,e,A,f,J=>by
  cases v with
  |fw K l v=>
   have I:(match Ty.cs (.an K) (.an t) l,Pt.get ch p v with
    |some x,ab y=>ab (x,y,())
    |_,_=>ae)=ab x:=e
   split at I<;>try(cases I;done)
   rename_i N y P Q
   cases I
   obtain⟨he,U⟩:=kv P
   cases he
   have U:N=l:=U
   subst U
   simp only[VR]at A
   obtain⟨D,rfl,A⟩:=A
   obtain⟨h1,h2,S,G,H⟩:=qM d p v Q A f λj s q=>J j s (by simp only[Pt.ef];exact q)
   refine⟨?_,by simp only[Pt.ef];exact h2,rfl,by simp only[Pt.ef];exact G,λj s q=>H j s (by simpa only[Pt.ef]using q)⟩
   simp only[Pt.mk,VR]
   exact⟨D,rfl,h1⟩
  |_=>cases e
 |.agg w l,v,x,u,n,e,A,f,J=>by
  cases v with
  |agg w' vs=>
   have I:(bif al w w' then Pt.jT ch l vs else ae)=ab x:=e
   cases hw:al w w'
   .rw [hw,au]at I;cases I
   rw[hw,ao]at I
   have:=bU hw
   subst this
   simp only[VR]at A
   obtain⟨T,rfl,A,_⟩:=A
   obtain⟨h1,h2,S,G,H⟩:=JH d l vs I A f J
   exact⟨by simp only[Pt.mk,VR];exact⟨T,rfl,h1,S⟩,h2,rfl,G,H⟩
  |_=>cases e
theorem JH(I:HS M ch h):∀(l:List Pt) (vs:List CV) {x:(Pt.o5 l).den} {A:List V} {n:Nat},Pt.jT ch l vs=ab x->aO M vs A->L<=n->(∀(j:Nat) (s:Option (Nat×Nat)×Nat),(Pt.kQ ch l vs)[j]? =ab s->src[n-L+j]? =ab s)->
  aO (M.at L src) (Pt.dZ l x n).1 A/\(Pt.dZ l x n).2=n+(Pt.kQ ch l vs).length/\ib (Pt.dZ l x n).1=ag/\(Pt.oK l x n).length=(Pt.kQ ch l vs).length/\(∀(j:Nat) (s:Option (Nat×Nat)×Nat),(Pt.kQ ch l vs)[j]? =ab s->∃y,(Pt.oK l x n)[j]? =ab y/\BW M (M.at L src) ch s y)
 |[],vs,x,A,n,e,J,b,U=>by
  cases vs
  .exact ⟨J,rfl,rfl,rfl,λj s q=>by simp[Pt.kQ]at q⟩
  cases e
 |p::l,vs,x,A,n,e,J,b,U=>by
  cases vs
  .cases e
  rename_i v vs;have e:(match Pt.get ch p v,Pt.jT ch l vs with
   |some x,ab y=>ab (x,y)
   |_,_=>ae)=ab x:=e
  split at e<;>try(cases e;done)
  rename_i y z f g
  cases e
  simp only[aO]at J
  obtain⟨u,A,rfl,Z,a⟩:=J
  obtain⟨h1,h2,i,c,m⟩:=qM I p v f Z b λj s q=>U j s (by
   show(Pt.ef ch p v++Pt.kQ ch l vs)[j]? =ab s
   rw[gP (e7.1 q).1];exact q)
  obtain⟨o,t,w,B,D⟩:=JH I l vs (n:=(Pt.mk p y n).2) g a (by omega) λj s q=>by
   have:=U ((Pt.ef ch p v).length+j) s (by
    show(Pt.ef ch p v++Pt.kQ ch l vs)[(Pt.ef ch p v).length+j]? =ab s
    rw[jE (by omega)];simpa using q)
   rw[h2]
   rw[show n+(Pt.ef ch p v).length-L+j=n-L+((Pt.ef ch p v).length+j) by omega]
   exact this
  refine⟨?_,?_,?_,?_,λj s q=>?_⟩
  .simp only[Pt.dZ,aO];exact⟨u,A,rfl,h1,o⟩
  .show (Pt.dZ l z (Pt.mk p y n).2).2=n+(Pt.ef ch p v++Pt.kQ ch l vs).length
   rw[t,h2,dH];omega
  .show ib ((Pt.mk p y n).1::(Pt.dZ l z (Pt.mk p y n).2).1)=ag
   simp only[ib,List.all_cons,i,Bool.not_false,Bool.true_and]
   exact w
  .show (Pt.news p y n++Pt.oK l z (Pt.mk p y n).2).length=(Pt.ef ch p v++Pt.kQ ch l vs).length
   rw[dH,dH,c,B]
  have q:(Pt.ef ch p v++Pt.kQ ch l vs)[j]? =ab s:=q
  show∃d,(Pt.news p y n++Pt.oK l z (Pt.mk p y n).2)[j]? =ab d/\BW M (M.at L src) ch s d
  by_cases F:j<(Pt.ef ch p v).length
  .rw [gP F]at q
   rw[gP (by omega)]
   exact m j s q
  rw[jE (by omega)]at q
  rw[jE (by omega),c]
  exact D _ s q
end
mutual
theorem P8:∀(p:Pt) (v:CV) {x:p.ty.den},Pt.get ch p v=ab x->Pt.ids ch p v=(Pt.ef ch p v).filterMap (λs=>s.1.map fg)
 |.val t,v,x,e=>by cases v<;>simp[Pt.ids,Pt.ef]
 |.buf c t,v,x,e=>by
  have e:zi ch c t v=ab x:=by cases v<;>exact e
  rcases NR e with⟨rfl,rfl⟩|⟨b,m,d,rfl,J,f⟩
  .simp [Pt.ids,Pt.ef]
  simp[Pt.ids,Pt.ef]
 |.nil,v,x,e=>by cases v<;>simp[Pt.ids,Pt.ef]
 |.mp _ _,v,x,e=>by cases v<;>simp[Pt.ids,Pt.ef]
 |.cC t p,v,x,e=>by
  cases v with
  |own b m=>
   have A:(match aD ch b with
    |some (.cC u l [v])=>bif al m 0 then(match Ty.cs (.an u) (.an t) l,Pt.get ch p v with
     |some x,ab y=>ab (x,y,())
     |_,_=>ae)else ae
    |_=>ae)=ab x:=e
   split at A
   .rename_i U l v J;replace A:=aU A;obtain⟨hm,A⟩:=A;split at A
    .rename_i Z y a I;simp only[Pt.ids,Pt.ef,J];rw[P8 p v I];rfl
    cases A
   cases A
  |_=>cases e
 |.qy t p,v,x,e=>by
  cases v with
  |fw U l v=>
   have A:(match Ty.cs (.an U) (.an t) l,Pt.get ch p v with
    |some x,ab y=>ab (x,y,())
    |_,_=>ae)=ab x:=e
   split at A
   .rename_i Z y a I;simp only[Pt.ids,Pt.ef];exact P8 p v I
   cases A
  |_=>cases e
 |.agg w l,v,x,e=>by
  cases v with
  |agg w' vs=>
   have e:(bif al w w' then Pt.jT ch l vs else ae)=ab x:=e;cases hw:al w w'
   .rw [hw,au]at e;cases e
   rw[hw,ao]at e;simp only[Pt.ids,Pt.ef];exact ID l vs e
  |_=>cases e
theorem ID:∀(l:List Pt) (vs:List CV) {x:(Pt.o5 l).den},Pt.jT ch l vs=ab x->Pt.qK ch l vs=(Pt.kQ ch l vs).filterMap (λs=>s.1.map fg)
 |[],vs,x,e=>by cases vs<;>simp[Pt.qK,Pt.kQ]
 |p::l,vs,x,e=>by
  cases vs
  .cases e
  rename_i v vs;have e:(match Pt.get ch p v,Pt.jT ch l vs with
   |some x,ab y=>ab (x,y)
   |_,_=>ae)=ab x:=e
  split at e
  .rename_i y z A I;simp only[Pt.qK,Pt.kQ,BO,P8 p v A,ID l vs I]
  cases e
end
theorem arX:∀(p:Pt) (w:CV) {x:p.ty.den} {n:Nat},Pt.get ch p w=ab x->(oI w=af/\oI (Pt.mk p x n).1=af)∨(Pt.mk p x n).1=w∨∃t l a b,w=.fw t l a/\(Pt.mk p x n).1=.fw t l b
 |.buf c t,w,x,n,e=>by
  have e:zi ch c t w=ab x:=by trivial
  rcases NR e with⟨rfl,rfl⟩|⟨b,m,d,rfl,f,g⟩<;>exact .inl ⟨rfl,rfl⟩
 |.val t,w,x,n,e|.nil,w,x,n,e=>by cases w<;>first|exact .inl ⟨rfl,rfl⟩|cases e
 |.agg w l,v,x,n,e=>by
  cases v with
  |agg w' vs=>
   refine .inl ⟨rfl,?_⟩;rfl
  |_=>cases e
 |.mp j t,v,x,n,e=>by
  cases v with
  |iM i I l=>
   obtain⟨he,A⟩:=kv e;cases he;subst A;exact .inr (.inl rfl)
  |_=>cases e
 |.cC t p,v,x,n,e=>by cases v<;>first|exact .inl ⟨rfl,rfl⟩|cases e
 |.qy t p,v,x,n,e=>by
  cases v with
  |fw I l v=>
   have J:(match Ty.cs (.an I) (.an t) l,Pt.get ch p v with
    |some x,ab y=>ab (x,y,())
    |_,_=>ae)=ab x:=e
   split at J
   .rename_i U y Z o;cases J;obtain⟨he,A⟩:=kv Z;cases he;subst A;exact .inr (.inr ⟨t,U,v,_,rfl,rfl⟩)
   trivial
  |_=>cases e
theorem abU:∀(l:List Pt) (ws:List CV) {x:(Pt.o5 l).den} {n:Nat},Pt.jT ch l ws=ab x->∀(k:Nat) (w v:CV),ws[k]? =ab w->(Pt.dZ l x n).1[k]? =ab v->(oI w=af/\oI v=af)∨v=w∨∃t l a b,w=.fw t l a/\v=.fw t l b
 |[],ws,x,n,e,k,w,v,hw,A=>by
  trivial
 |p::l,ws,x,n,e,k,w,v,hw,A=>by
  cases ws with
  |nil=>cases e
  |cons I ws=>
   have e:(match Pt.get ch p I,Pt.jT ch l ws with
    |some x,ab y=>ab (x,y)
    |_,_=>ae)=ab x:=e
   split at e
   .rename_i y z J U;cases e;have A:((Pt.mk p y n).1::(Pt.dZ l z (Pt.mk p y n).2).1)[k]? =ab v:=A;cases k with
    |zero=>simp at hw A;subst hw;subst A;exact arX p _ J
    |succ k=>exact abU l ws U k w v (by trivial) (by trivial)
   trivial
theorem amH(ch:CH)(b i:Nat):aD (bC ch b ae) i=if i=b then ae else aD ch i:=by
 unfold aD;rw[cu,cu,eO];grind
theorem JY:∀(l:List Nat) (ch:CH) (i:Nat),(oM l ch).length=ch.length/\aD (oM l ch) i=if i∈l then ae else aD ch i
 |[],ch,i=>⟨rfl,by rfl⟩
 |b::l,ch,i=>by
  show(oM l (bC ch b ae)).length=_/\aD (oM l (bC ch b ae)) i=_;obtain⟨h1,h2⟩:=JY l (bC ch b ae) i;refine⟨h1.trans (by simp),?_⟩
  rw[h2,amH];grind
theorem Sw:∀(l:List (Nat×Pt)) (vs:List CV) (ch:CH) (i:Nat),(∀p∈l,p.1< ch.length)->l.length=vs.length->(pS l vs ch).length=ch.length/\
  ((i ∉ bN l/\aD (pS l vs ch) i=aD ch i)∨∃(k:Nat) (p:Nat×Pt) (v:CV),l[k]? =ab p/\p.1=i/\vs[k]? =ab v/\aD (pS l vs ch) i=ab (r9 v))
 |[],vs,ch,i,_,_=>⟨rfl,.inl ⟨by simp[bN],rfl⟩⟩
 |p::l,[],ch,i,_,I=>by cases I
 |p::l,v::vs,ch,i,hp,I=>by
  show(pS l vs (cW ch p.1 (r9 v))).length=_/\((i ∉ bN (p::l)/\aD (pS l vs (cW ch p.1 (r9 v))) i=_)∨∃k q w,_/\_/\_/\aD (pS l vs (cW ch p.1 (r9 v))) i=_);have A:=hp p (eh ..);obtain⟨h1,h2⟩:=Sw l vs (cW ch p.1 (r9 v)) i (λq c=>by rw[e9];grind) (by simpa using I)
  refine⟨h1.trans (e9 ..),?_⟩;rcases h2 with⟨h2,J⟩|⟨k,q,w,U,Z,a,b⟩
  .by_cases hi:i=p.1
   .refine .inr ⟨0,p,v,rfl,hi.symm,rfl,?_⟩;simp_all[J,gp,A,aK,hi]
   refine .inl ⟨?_,?_⟩
   .rw [pG]at h2|-;grind
   simp[J,gp,A,ax,hi]
  exact .inr ⟨k+1,q,w,U,Z,a,b⟩
theorem Ss{A:CH}:∀(l:List (Nat×Ty)) (vs:List (Nat×Bool)) {x:(FU l).den} (ch:CH) (i:Nat),(∀p∈l,p.1< ch.length)->tP A l vs=ab x->(qR l vs x ch).length=ch.length/\
  ((i ∉ bN l/\aD (qR l vs x ch) i=aD ch i)∨(i∈bN l/\(∃n c t l,aD A i=ab (.arr n c t l))/\aD (qR l vs x ch) i=aD A i))
 |[],vs,x,ch,i,_,_=>⟨rfl,.inl ⟨by simp[bN],rfl⟩⟩
 |p::l,[],x,ch,i,_,e=>by cases e
 |p::l,(v,c)::vs,x,ch,i,hp,e=>by
  have e:(match aD A p.1 with
   |some (.arr a I u x)=>bif al v a&&(bif c then I else not I)then(match Ty.cs (.an u) (.an p.2) x,tP A l vs with
    |some x,ab y=>ab (x,y)
    |_,_=>ae)else ae
   |_=>ae)=ab x:=e
  split at e
  .rename_i a I u o f;cases U:al v a&&(bif c then I else not I)with
   |false=>grind
   |true=>
    rw[U]at e;split at e
    .rename_i y z g j;cases e;rw[aM]at U;have:=bU U.1;subst this;have b:I=c:=by grind
     subst b;obtain⟨he,d⟩:=kv g;cases he;subst d;have J:=hp p (eh ..);obtain⟨h1,h2⟩:=Ss l vs (x:=z) (cW ch p.1 (.arr v I p.2 y)) i (λq U=>by rw[e9];grind) j
     show(qR l vs z (cW ch p.1 (.arr v I p.2 y))).length=_/\((i ∉ bN (p::l)/\aD (qR l vs z (cW ch p.1 (.arr v I p.2 y))) i=_)∨(i∈bN (p::l)/\_/\aD (qR l vs z (cW ch p.1 (.arr v I p.2 y))) i=_));refine⟨h1.trans (e9 ..),?_⟩;rcases h2 with⟨h2,Z⟩|⟨h2,Z,m⟩
     .by_cases hi:i=p.1
      .subst hi;refine .inr ⟨by simp[pG],⟨_,_,_,_,f⟩,?_⟩
       rw[Z,gp _ _ _ _ J,aK rfl,f]
      refine .inl ⟨?_,?_⟩
      .rw [pG]at h2|-;grind
      simp[Z,gp,J,ax,hi]
     exact .inr ⟨by rw[pG]at h2|-;grind,Z,m⟩
    trivial
  trivial
end
theorem Jq:∀(t J:TC) (i:Nat) (x:CV),TC.eK t (J.set i x)=TC.eK t J
 |.e,.e,i,x|.n _ _ _,.e,i,x=>rfl
 |t,.n v l r,i,x=>by
  rw[TC.pZ];cases t with
  |e=>split<;>first|rfl|(split<;>rfl)
  |n U A I=>
   split
   .rfl
   split
   .show (TC.eK A (l.set (i/2) x)&&TC.eK I r)=_;rw[Jq A l];rfl
   show(TC.eK A l&&TC.eK I (r.set (i/2-1) x))=_;rw[Jq I r];rfl
theorem DX:∀t:TC,TC.eK t t=ag
 |.e=>rfl
 |.n v l r=>by show(TC.eK l l&&TC.eK r r)=ag;rw[DX l,DX r];rfl
theorem Jr:∀{a b c:TC},TC.eK a b=ag->TC.eK a c=ag->TC.eK b c=ag
 |.e,.e,.e,_,_=>rfl
 |.n _ l r,.n _ A I,.n _ J U,h1,h2=>by
  have h1:(TC.eK l A&&TC.eK r I)=ag:=h1;have h2:(TC.eK l J&&TC.eK r U)=ag:=h2;rw[aM]at h1 h2;show(TC.eK A J&&TC.eK I U)=ag;rw[Jr h1.1 h2.1,Jr h1.2 h2.2];rfl
 |.e,.n _ _ _,_,h,_|.e,.e,.n _ _ _,_,h|.n _ _ _,.e,_,h,_|.n _ _ _,.n _ _ _,.e,_,h=>by cases h
theorem agC(t0:TC):∀(l:List Nat) (t:TC),TC.eK t0 (n2 l t)=TC.eK t0 t
 |[],t=>rfl
 |a::l,t=>(agC t0 l (t.set a .undef)).trans (Jq ..)
theorem SB:∀(l:List (Nat×Pt)) (vs:List CV) (t:TC) (i:Nat),l.length=vs.length->
  ((i ∉ bN l/\(sF l vs t).get i=t.get i)∨∃(k:Nat) (p:Nat×Pt) (v:CV),l[k]? =ab p/\p.1=i/\vs[k]? =ab v/\((sF l vs t).get i=v∨(sF l vs t).get i=.undef))
 |[],vs,t,i,_=>.inl ⟨by simp[bN],rfl⟩
 |p::l,[],t,i,h=>by cases h
 |p::l,v::vs,t,i,h=>by
  show((i ∉ bN (p::l)/\(sF l vs (t.set p.1 v)).get i=t.get i)∨∃(k:Nat) (q:Nat×Pt) (w:CV),_/\_/\_/\((sF l vs (t.set p.1 v)).get i=w∨(sF l vs (t.set p.1 v)).get i=.undef));rcases SB l vs (t.set p.1 v) i (by simpa using h)with⟨h1,h2⟩|⟨k,q,w,A,I,J,U⟩
  .by_cases hi:i=p.1
   .subst hi;refine .inr ⟨0,p,v,rfl,rfl,rfl,?_⟩;rw[h2];exact(TC.Ij t p.1 v).imp id (λq=>q.1)
   refine .inl ⟨?_,?_⟩
   .rw [pG]at h1|-;grind
   rw[h2,TC.ui _ _ _ _ (λq=>hi q.symm)]
  exact .inr ⟨k+1,q,w,A,I,J,U⟩
theorem ad3(t0:TC):∀(l:List (Nat×Pt)) (vs:List CV) (t:TC),TC.eK t0 (sF l vs t)=TC.eK t0 t
 |[],vs,t|p::l,[],t=>rfl
 |p::l,v::vs,t=>(ad3 t0 l vs (t.set p.1 v)).trans (Jq ..)
theorem bF.RJ{M N:Mu}:∀{a b:TC} {t:Tm},bF M a t->TC.eK a b=ag->(∀i,VR N (b.get i) (t.get i))->bF N b t
 |.e,.e,.e,_,_,_=>trivial
 |.n _ l r,.n f c d,.n u g j,h,A,U=>by
  have A:(TC.eK l c&&TC.eK r d)=ag:=A;rw[aM]at A;refine⟨?_,bF.RJ h.2.1 A.1 λi=>?_,bF.RJ h.2.2 A.2 λi=>?_⟩
  .have:=U 0;trivial
  .have:=U (2*i+1);have Z:(2*i+1)/2=i:=by omega
   have I:(2*i+1)%2=1:=by omega
   have J:¬(2*i+1=0):=by omega
   rw[TC.gb,Tm.Ii,ax J,ax J,aK I,aK I,Z]at this;omega
  have:=U (2*i+2);have Z:(2*i+2)/2-1=i:=by omega
  have I:¬((2*i+2)%2=1):=by omega
  have J:¬(2*i+2=0):=by omega
  rw[TC.gb,Tm.Ii,ax J,ax J,ax I,ax I,Z]at this;omega
 |.e,.n _ _ _,_,_,h,_|.n _ _ _,.e,_,_,h,_=>by cases h
def KH(h:Heap)(c:Nat)(w:CV)(u:V):Prop:=(oI w=af/\ar h c=ab (.cell u))∨(∃j t l,w=.iM j t l/\ar h c=ab (.mp (hY j t l)))∨∃t l a g A,w=.fw t l a/\u=.aH [.full (l.map t.enc),A]/\ar h c=ab (.cG g t.wd ((l.map λx=>V.im (t.enc x))++[A]))
theorem CF{M:Mu}{ch:CH}{h:Heap}(Z:HS M ch h):∀{l:List (Nat×Pt)} {ws:List CV},ow ch l=ab ws->l.length=ws.length/\∃A,aO M ws A/\
  ∀(k:Nat) (p:Nat×Pt),l[k]? =ab p->∃w u c,ws[k]? =ab w/\A[k]? =ab u/\aD ch p.1=ab (r9 w)/\M.b p.1=ab c/\KH h c w u
 |[],ws,e=>by cases e;exact⟨rfl,[],rfl,λk p q=>by trivial⟩
 |p::l,ws,e=>by
  have e:(match aD ch p.1 with|some (.cell v)=>bif oI v then ae else eN ae (λvs=>ab (v::vs)) (ow ch l)|some (.mO j t x)=>eN ae (λvs=>ab (.iM j t x::vs)) (ow ch l)|some (.cC t x [v])=>eN ae (λvs=>ab (.fw t x v::vs)) (ow ch l)|_=>ae:Option (List CV))=ab ws:=e
  split at e
  .rename_i v I;cases i:oI v with
   |true=>grind
   |false=>
   rw[i,au]at e;cases J:ow ch l with
   |none=>simp_all
   |some vs=>
    rw[J]at e;cases e;obtain⟨h1,A,h2,n⟩:=CF Z J;obtain⟨c,u,a,f,m⟩:=Z.cell _ _ I;have d:r9 v=.cell v:=by cases v<;>first|rfl|cases i
    refine⟨by simp[h1],u::A,⟨u,A,rfl,m,h2⟩,λk o U=>?_⟩
    cases k
    .simp at U;subst U;exact⟨v,u,c,rfl,rfl,by simp[d,I],a,.inl ⟨i,f⟩⟩
    grind
  .rename_i j t x I;cases J:ow ch l with
   |none=>simp_all
   |some vs=>
    rw[J]at e;cases e;obtain⟨h1,A,h2,n⟩:=CF Z J;obtain⟨c,a,f⟩:=Z.xr _ _ I;refine⟨by simp[h1],_::A,⟨_,A,rfl,(rfl:VR M (.iM j t x) _),h2⟩,λk o U=>?_⟩
    cases k
    .simp at U;subst U;exact⟨.iM j t x,_,c,rfl,rfl,I,a,.inr (.inl ⟨j,t,x,rfl,f⟩)⟩
    grind
  .rename_i t x v I;cases J:ow ch l with
   |none=>simp_all
   |some vs=>
    rw[J]at e;cases e;obtain⟨h1,A,h2,n⟩:=CF Z J;obtain⟨c,g,z,a,f,m,s⟩:=Z.xr _ _ I;simp only[aO]at s;obtain⟨y,D,rfl,B,rfl⟩:=s;refine⟨by simp[h1],V.aH [.full (x.map t.enc),y]::A,⟨_,A,rfl,(by simp only[VR];grind),h2⟩,λk o U=>?_⟩
    cases k
    .simp at U;subst U;exact⟨.fw t x v,_,c,rfl,rfl,I,a,.inr (.inr ⟨t,x,v,g,y,rfl,rfl,m⟩)⟩
    grind
  trivial
theorem afP{M:Mu}{tc:TC}{t:Tm}(I:bF M tc t):∀(l:List (Nat×Pt)),∃A,aO M (bn [] (λp _ ih=>tc.get p.1::ih) l:List CV) A/\A=l.map λp=>t.get p.1
 |[]=>⟨[],rfl,rfl⟩
 |p::l=>by
  obtain⟨A,h1,h2⟩:=afP I l;exact⟨t.get p.1::A,⟨_,_,rfl,I.get p.1,h1⟩,by simp[h2]⟩
theorem amk{ch:CH}:∀{l:List Pt} {vs:List CV} {x:(Pt.o5 l).den},Pt.jT ch l vs=ab x->l.length=vs.length
 |[],[],_,_=>rfl
 |[],_::_,_,e|_::_,[],_,e=>by cases e
 |p::l,v::vs,x,e=>by
  have e:(match Pt.get ch p v,Pt.jT ch l vs with
   |some x,ab y=>ab (x,y)
   |_,_=>ae)=ab x:=e
  split at e
  .rename_i y z I A;simp[amk A]
  trivial
theorem adP(l:List (Nat×Pt)):(aV l).length=l.length:=by
 induction l with
 |nil=>rfl
 |cons p l ih=>show(p.2::aV l).length=_;simp[ih]
theorem qO:∀(l:List Pt) (x:(Pt.o5 l).den) (n:Nat),(Pt.dZ l x n).1.length=l.length
 |[],_,_=>rfl
 |p::l,x,n=>by
  show((Pt.mk p x.1 n).1::(Pt.dZ l x.2 (Pt.mk p x.1 n).2).1).length=_;simp[qO l]
theorem aO.at'{M:Mu}:∀{l:List CV} {A:List V},aO M l A->∀{i:Nat} {v:CV} {u:V},l[i]? =ab v->A[i]? =ab u->VR M v u:=λh i v u h1 h2=>by
 obtain⟨I,J,U⟩:=h.get h1;grind
def xZ(tc:TC)(l:List (Nat×Pt)):List CV:=bn [] (λp _ ih=>tc.get p.1::ih) l
theorem axC(tc:TC)(l:List (Nat×Pt)):(xZ tc l).length=l.length:=by
 induction l with
 |nil=>rfl
 |cons p l ih=>show(tc.get p.1::xZ tc l).length=_;simp[ih]
theorem Zm{H:Hint}{vs:List (Nat×Bool)}{tc:TC}{ch:CH}{s:H.ty.den}(e:H.get vs tc ch=ab s):
  Pt.jT ch (aV H.dF) (xZ tc H.dF)=ab s.1/\(∃l,ow ch H.cells=ab l/\Pt.jT ch (aV H.cells) l=ab s.2.1)/\tP ch H.dw vs=ab s.2.2:=by
 have e:(match Pt.jT ch (aV H.dF) (xZ tc H.dF),(ow ch H.cells).bind (Pt.jT ch (aV H.cells)),tP ch H.dw vs with
  |some x,ab y,ab z=>ab (x,(y,z))
  |_,_,_=>ae)=ab s:=e
 split at e
 .rename_i x y z A I J;cases e;simp_all[A,ay,I,J]
 trivial
theorem Wp{ch:CH}:∀{l:List (Nat×Ty)} {vs:List (Nat×Bool)} {x:(FU l).den},tP ch l vs=ab x->∀p∈l,p.1< ch.length
 |[],_,_,_,p,hp=>by cases hp
 |q::l,[],_,e,_,_=>by cases e
 |q::l,(v,c)::vs,x,e,p,hp=>by
  have e:(match aD ch q.1 with
   |some (.arr I A u x)=>bif al v I&&(bif c then A else not A)then(match Ty.cs (.an u) (.an q.2) x,tP ch l vs with
    |some x,ab y=>ab (x,y)
    |_,_=>ae)else ae
   |_=>ae)=ab x:=e
  split at e
  .rename_i I A u a J;cases U:al v I&&(bif c then A else not A)with
   |false=>grind
   |true=>
    rw[U]at e;split at e
    .rename_i y z b Z;rcases du.1 hp with rfl|hp
     .exact fy J
     exact Wp Z p hp
    trivial
  trivial
theorem PD(ch l:CH)(b:Nat):aD (ch++l) b=if b< ch.length then aD ch b else aD l (b-ch.length):=by
 unfold aD;rw[cu,cu,cu];grind
theorem YC{α:Type}{f:α->Option Nat}:∀{l:List α} {i j:Nat} {x y:α} {o:Nat},(l.filterMap f).Nodup->l[i]? =ab x->l[j]? =ab y->f x=ab o->f y=ab o->i=j
 |[],i,j,x,y,o,_,h,_,_,_=>by trivial
 |a::l,i,j,x,y,o,d,hi,I,J,U=>by
  have A:(l.filterMap f).Nodup:=by
   grind
  have Z:∀(k:Nat) z,l[k]? =ab z->f z=ab o->f a=ab o->False:=λk z e b c=>by
   grind
  cases i with
  |zero=>
   grind
  |succ i=>
   cases j
   .grind
   rename_i j;rw[YC A hi I J U]
theorem Tr{H:Hint}{ws ids:List Nat}{vs:List (Nat×Bool)}{M0 M':Mu}{tc J:TC}{t0 t':Tm}{ch I:CH}{h0 h':Heap}{s:H.ty.den}
  (pI:HS M0 ch h0) (P1:bF M0 tc t0) (N:HS M' I h') (ht:bF M' J t') (hle:M0.le M') (amS:TC.eK J tc=ag)
  (lR:∀p∈H.cells,p.1< ch.length) (um:∀p∈H.dw,p.1< ch.length)
  (amP:∀b,b< ch.length->b ∉ ids->b ∉ bN H.cells->b ∉ bN H.dw->aD I b=aD ch b)
  (anh:∀i,i ∉ ws->J.get i=tc.get i)
  (wF:(H.ids J I).Nodup) (fm:∀b∈H.ids J I,ch.length<=b∨b∈ids) (zJ:∀b∈ids,b ∉ bN H.cells) (Is:∀b∈ids,b ∉ bN H.dw)
  (hg:H.get vs J I=ab s):
  ∃Gt,M0.le Gt/\HS Gt (H.fill ws ids vs tc ch s).2 h'/\bF Gt (H.fill ws ids vs tc ch s).1 t'/\ch.length<=(H.fill ws ids vs tc ch s).2.length/\
   (∀b,b< ch.length->b ∉ ids->b ∉ bN H.cells->b ∉ bN H.dw->aD (H.fill ws ids vs tc ch s).2 b=aD ch b)/\
   (∀i,i ∉ ws->i ∉ bN H.dF->(H.fill ws ids vs tc ch s).1.get i=tc.get i)/\(∀b c,Gt.b b=ab c->∃b0,M'.b b0=ab c):=by
 obtain⟨g1,⟨cw,g2,g3⟩,g4⟩:=Zm hg;obtain⟨us,DC,anl⟩:=afP ht H.dF;obtain⟨axc,uc,huc,P5⟩:=CF N g2;have DC:aO M' (xZ J H.dF) us:=DC;generalize Pn:Pt.kQ I (aV H.dF) (xZ J H.dF)=S1;generalize Po:Pt.kQ I (aV H.cells) cw=S2;have m1:=JH N (L:=ch.length) (src:=S1++S2) (n:=aF ch) _ _ g1 DC (by rw[bz];exact aL _) (λj q T=>by
  rw[Pn]at T;have Iy:=(e7.1 T).1;rw[bz,Nat.sub_self,db,gP Iy];exact T)
 rw[Pn]at m1;obtain⟨a1,a2,a3,a4,a5⟩:=m1;have m2:=JH N (L:=ch.length) (src:=S1++S2) (n:=(Pt.dZ (aV H.dF) s.1 (aF ch)).2) _ _ g3 huc (by rw[a2,bz];exact Vx ..) (λj q T=>by
  rw[Po]at T;rw[a2,bz,jE (by omega),show ch.length+S1.length-ch.length+j-S1.length=j by omega];exact T)
 rw[Po]at m2;obtain⟨b1,b2,b3,b4,b5⟩:=m2;generalize wy:(Pt.dZ (aV H.cells) s.2.1 (Pt.dZ (aV H.dF) s.1 (aF ch)).2).1=ds at b1 b3;generalize Zb:(Pt.dZ (aV H.dF) s.1 (aF ch)).1=cs at a1 a3;have O:∀(k:Nat) (w v:CV),cw[k]? =ab w->ds[k]? =ab v->(oI w=af/\oI v=af)∨v=w∨∃t l a b,w=.fw t l a/\v=.fw t l b:=λk w v hw hv=>abU _ _ g3 k w v hw (by rw[wy];exact hv)
 have Zf:ds.length=H.cells.length:=by rw[<-wy,qO,adP]
 have Zc:cs.length=H.dF.length:=by rw[<-Zb,qO,adP]
 have f1:(H.fill ws ids vs tc ch s).1=sF H.dF cs (n2 ws tc):=by rw[<-Zb];rfl
 have f2:(H.fill ws ids vs tc ch s).2=qR H.dw vs s.2.2 (pS H.cells ds (oM ids ch))++(Pt.oK (aV H.dF) s.1 (aF ch)++Pt.oK (aV H.cells) s.2.1 (Pt.dZ (aV H.dF) s.1 (aF ch)).2):=by rw[<-wy];rfl
 rw[f1,f2];generalize ZE:Pt.oK (aV H.dF) s.1 (aF ch)++Pt.oK (aV H.cells) s.2.1 (Pt.dZ (aV H.dF) s.1 (aF ch)).2=nw;have ZF:nw.length=S1.length+S2.length:=by rw[<-ZE,dH,a4,b4]
 have ZG:∀(j:Nat) (q:Option (Nat×Nat)×Nat),(S1++S2)[j]? =ab q->∃y,nw[j]? =ab y/\BW M' (M'.at ch.length (S1++S2)) I q y:=λj q T=>by
  rw[<-ZE];by_cases Iy:j< S1.length
  .rw [gP Iy]at T;rw[gP (by omega)];exact a5 j q T
  rw[jE (by omega)]at T
  rw[jE (by omega),a4];exact b5 _ q T
 have Zr:H.ids J I=(S1++S2).filterMap (λs=>s.1.map fg):=by
  have:H.ids J I=Pt.qK I (aV H.dF) (xZ J H.dF)++(match ow I H.cells with|some l=>Pt.qK I (aV H.cells) l|none=>[]):=rfl
  rw[this,g2,ID _ _ g1];show _++Pt.qK I (aV H.cells) cw=_;rw[ID _ _ g3,BO,Pn,Po]
 rw[Zr]at wF fm;generalize ani:S1++S2=src at a1 b1 ZG Zr wF fm;have hsl:src.length=S1.length+S2.length:=by rw[<-ani,dH]
 generalize Y8:qR H.dw vs s.2.2 (pS H.cells ds (oM ids ch))=cb;have oD:(oM ids ch).length=ch.length:=(JY ids ch 0).1;have zR:(pS H.cells ds (oM ids ch)).length=ch.length:=(Sw H.cells ds (oM ids ch) 0 (by rw[oD];exact lR) Zf.symm).1.trans oD
 have B:cb.length=ch.length:=by rw[<-Y8];exact(Ss H.dw vs _ 0 (by rw[zR];exact um) g4).1.trans zR
 have hP:∀b,((∃n c t l,aD I b=ab (.arr n c t l))/\b∈bN H.dw/\aD cb b=aD I b)∨(∃(k:Nat) (q:Nat×Pt) (v:CV),H.cells[k]? =ab q/\q.1=b/\ds[k]? =ab v/\aD cb b=ab (r9 v))∨(b∈ids/\aD cb b=ae)∨
   (b ∉ ids/\b ∉ bN H.cells/\b ∉ bN H.dw/\aD cb b=aD ch b):=λb=>by
  rw[<-Y8];rcases(Ss H.dw vs (pS H.cells ds (oM ids ch)) b (by rw[zR];exact um) g4).2 with⟨Y,D⟩|⟨Y,D,q3⟩
  .rcases (Sw H.cells ds (oM ids ch) b (by rw[oD];exact lR) Zf.symm).2 with⟨r1,r2⟩|⟨k,q,v,r1,r2,r3,r4⟩
   .by_cases A:b∈ids
    .refine .inr (.inr (.inl ⟨A,?_⟩));rw[D,r2,(JY ids ch b).2,aK A]
    refine .inr (.inr (.inr ⟨A,r1,Y,?_⟩));rw[D,r2,(JY ids ch b).2,ax A]
   exact .inr (.inl ⟨k,q,v,r1,r2,r3,D.trans r4⟩)
  exact .inl ⟨D,Y,q3⟩
 have hD:∀b,b< ch.length->(b ∉ ids/\b ∉ bN H.cells/\b ∉ bN H.dw/\aD cb b=aD ch b)->aD cb b=aD I b:=λb A q=>q.2.2.2.trans (amP b A q.1 q.2.1 q.2.2.1).symm
 have R:M0.le (M'.at ch.length src):=⟨λi c e=>by
  show(if i< ch.length then M'.b i else _)=_;rw[aK (pI.len _ _ e).1];exact hle.b _ _ e,λi n x e=>by
  show(if i< ch.length then M'.o i n else _)=_;rw[aK (pI.gw _ _ _ e)];exact hle.o _ _ _ e⟩
 have P:∀b,b< ch.length->(M'.at ch.length src).b b=M'.b b:=λb A=>aK A
 have PR:∀b n,b< ch.length->(M'.at ch.length src).o b n=M'.o b n:=λb n A=>aK A
 have Dl:∀b,¬b< ch.length->(M'.at ch.length src).b b=match src[b-ch.length]? with|some (ab (b,_),_)=>M'.b b|_=>ae:=λb A=>ax A
 have PT:∀b,¬b< ch.length->(M'.at ch.length src).o b 0=match src[b-ch.length]? with|some (ab (b,m),_)=>M'.o b m|some (ae,w)=>ab (.full [],w)|none=>ae:=λb A=>(ax A).trans (aK rfl)
 have ZH:∀b n,¬b< ch.length->n≠0->(M'.at ch.length src).o b n=ae:=λb n A hn=>(ax A).trans (ax hn)
 have W:∀b,b< ch.length->aD (cb++nw) b=aD cb b:=λb A=>by rw[PD,B,aK A]
 have Iv:∀b x,¬b< ch.length->aD (cb++nw) b=ab x->∃q,src[b-ch.length]? =ab q/\BW M' (M'.at ch.length src) I q (ab x):=λb x A e=>by
  rw[PD,B,ax A]at e;unfold aD at e;rw[cu]at e;split at e
  .rename_i y hy;have hyl:=(e7.1 hy).1;have K:src[b-ch.length]? =ab (src[b-ch.length]'(by omega)):=gD (by omega)
   refine⟨_,K,?_⟩;obtain⟨z,z1,z2⟩:=ZG _ _ K;rw[hy]at z1;cases z1;rw[<-e];exact z2
  cases e
 have HF:HS (M'.at ch.length src) (cb++nw) h':=by
  have ZJ:∀b c,aD (cb++nw) b≠ae->(M'.at ch.length src).b b=ab c->∃o,aD I o≠ae/\M'.b o=ab c/\
    ((b< ch.length/\o=b/\(b ∉ ids∨b∈bN H.cells∨b∈bN H.dw))∨(¬b< ch.length/\∃m w,src[b-ch.length]? =ab (ab (o,m),w))):=λb c e1 e2=>by
   by_cases A:b< ch.length
   .rw [P b A]at e2;rw[W b A]at e1;rcases hP b with⟨⟨n,S,t,l,F⟩,G,Z⟩|⟨k,q,v,F,Z,G,w4⟩|w|w
    .exact ⟨b,by rw[F];simp,e2,.inl ⟨A,rfl,.inr (.inr G)⟩⟩
    .obtain ⟨w',u',S,v1,v2,v3,v4,f⟩:=P5 k q F;rw[Z]at v3;exact⟨b,by rw[v3];simp,e2,.inl ⟨A,rfl,.inr (.inl (by rw[pG,<-Z];exact kl.2 ⟨q,jG F,rfl⟩))⟩⟩
    .exact absurd w.2 e1
    exact⟨b,by rw[<-hD b A w];exact e1,e2,.inl ⟨A,rfl,.inl w.1⟩⟩
   rw[Dl b A]at e2;split at e2
   .rename_i o m w K;obtain⟨x,hx⟩:=Option.ne_none_iff_exists'.1 e1;obtain⟨q,ZQ,X⟩:=Iv b x A hx;rw[K]at ZQ;cases ZQ;rcases X with⟨o',t,l,v,v',_,z0,z,_⟩|⟨c0,t,l,_,_,S,z,_⟩
    .cases z0;exact⟨o,by rw[z];simp,e2,.inr ⟨A,_,_,K⟩⟩
    exact⟨o,by rw[z];simp,e2,.inr ⟨A,m,w,K⟩⟩
   cases e2
  refine⟨λb cv e=>?_,λb n cl t l e=>?_,λb b' c e1 e2 Y D=>?_,λb n cl t l e m hm=>?_,λb c e=>?_,λb n x e=>?_,λb x e=>?_⟩
  .by_cases A:b< ch.length
   .rw [W b A]at e;rw[P b A];rcases hP b with⟨⟨n,S,t,l,F⟩,G,Z⟩|⟨k,q,v,F,Z,G,w4⟩|w|w
    .rw [Z,F]at e;cases e
    .rw [w4]at e;obtain⟨hvc,U⟩:v=cv/\oI v=af:=by
      cases v<;>first|(cases e;exact⟨rfl,rfl⟩)|cases e
     subst hvc;obtain⟨w',u',S,v1,v2,v3,v4,f⟩:=P5 k q F;rw[Z]at v4;have ZW:oI w'=af:=by
      rcases O k w' v v1 G with q|q|⟨_,_,_,_,_,q⟩
      .exact q.1
      .exact q▸U
      rw[q]at U;cases U
     rcases f with⟨_,f⟩|⟨_,_,_,f,_⟩|⟨_,_,_,_,_,f,_⟩<;>try(rw[f]at ZW;cases ZW;done)
     exact⟨S,u',v4,f,b1.at' G v2⟩
    .rw [w.2]at e;cases e
    have e0:=w.2.2.2▸e;obtain⟨c0,v0,p1,p2,p3⟩:=pI.cell b cv e0;obtain⟨S,v',r1,r2,r3⟩:=N.cell b cv (hD b A w▸e);exact⟨S,v',r1,r2,(VR.back hle _ _ _ p3 r3).mono R _ _⟩
   obtain⟨q,K,⟨_,_,_,_,_,z,_⟩|⟨c0,t,l,z,_⟩⟩:=Iv b _ A e<;>cases z
  .by_cases A:b< ch.length
   .rw [W b A]at e;rw[P b A,PR b n A];rcases hP b with⟨_,G,Z⟩|⟨k,q,v,F,Z,G,w4⟩|w|w<;>try(first|exact N.arr b n cl t l (Z▸e)|rw[w4]at e;cases v<;>cases e|rw[w.2]at e;cases e;done)
    exact N.arr b n cl t l (hD b A w▸e)
   obtain⟨q,K,⟨_,_,_,_,_,z,_⟩|⟨c0,t',l',z,hw,X⟩⟩:=Iv b _ A e
   .cases z
   cases z;rw[PT b A,Dl b A];rcases q with⟨_|⟨o,m⟩,w⟩
   .have X:l=[]:=X;have hw:w=t.wd:=hw;subst X;rw[K];exact⟨_,by rw[hw],.inl ⟨rfl,rfl,rfl⟩⟩
   obtain⟨S,z,hc⟩:=X;rw[K];obtain⟨u,v1,v2⟩:=N.arr o m S t l z;exact⟨u,v1,v2.imp id λ⟨c,g,ro,x1,x2,x3,x4,x5⟩=>⟨c,g,ro,x1,x2,x3,λlR=>x4 (hc lR),x5⟩⟩
  .obtain ⟨o,p1,p2,p3⟩:=ZJ b c e1 Y;obtain⟨o',p1',p2',p3'⟩:=ZJ b' c e2 D;have ho:=N.inj o o' c p1 p1' p2 p2';subst ho;have mid:∀i m w,src[i]? =ab (ab (o,m),w)->o∈src.filterMap (λs=>s.1.map fg):=λi m w hi=>List.mem_filterMap.2 ⟨_,jG hi,rfl⟩
   have mix:∀d,d< ch.length->o=d->(d ∉ ids∨d∈bN H.cells∨d∈bN H.dw)->∀i m w,src[i]? =ab (ab (o,m),w)->False:=λd hd hod hx i m w hi=>by
    subst hod;rcases fm o (mid i m w hi)with hh|hh
    .omega
    rcases hx with hx|hx|hx
    .exact hx hh
    .exact zJ o hh hx
    exact Is o hh hx
   rcases p3 with⟨A,ho,hx⟩|⟨A,m,w,hi⟩
   .rcases p3' with⟨qJ,PO,_⟩|⟨qJ,m',w',sk⟩
    .exact ho.symm.trans PO
    exact(mix b A ho hx _ _ _ sk).elim
   rcases p3' with⟨qJ,PO,hx'⟩|⟨qJ,m',w',sk⟩
   .exact (mix b' qJ PO hx' _ _ _ hi).elim
   have:=YC wF hi sk rfl rfl;omega
  .by_cases A:b< ch.length
   .rw [W b A]at e;rw[PR b m A];rcases hP b with⟨_,G,Z⟩|⟨k,q,v,F,Z,G,w4⟩|w|w<;>try(first|exact N.new b n cl t l (Z▸e) m hm|rw[w4]at e;cases v<;>cases e|rw[w.2]at e;cases e;done)
    exact N.new b n cl t l (hD b A w▸e) m hm
   exact ZH b m A (by omega)
  .rw [dH,B,ZF];by_cases A:b< ch.length
   .rw [P b A]at e;exact⟨by omega,(N.len b c e).2⟩
   rw[Dl b A]at e;split at e
   .rename_i o m w K;have:=(e7.1 K).1;exact⟨by omega,(N.len _ c e).2⟩
   cases e
  .rw [dH,B,ZF];by_cases A:b< ch.length
   .omega
   by_cases hn:n=0
   .subst hn;rw[PT b A]at e;by_cases K:b-ch.length< src.length
    .omega
    rw[jF (by omega)]at e;cases e
   rw[ZH b n A hn]at e;cases e
  .by_cases A:b< ch.length
   .rw [W b A]at e;rcases hP b with⟨⟨n,S,t,l,F⟩,G,Z⟩|⟨k,q,v,F,Z,G,w4⟩|w|w
    .rw [Z,F]at e;cases e;trivial
    .rw [w4]at e;obtain⟨w',u',S,v1,v2,v3,v4,f⟩:=P5 k q F;rw[Z]at v4;cases v with
     |iM j t l=>
      cases e;rcases O k w' _ v1 G with⟨_,U⟩|Q|⟨_,_,_,_,_,Q⟩
      .cases U
      .subst Q;rcases f with⟨U,_⟩|⟨j,t,l,f,v6⟩|⟨_,_,_,_,_,f,_⟩
       .cases U
       .cases f;exact⟨S,(P b A).trans v4,v6⟩
       cases f
      cases Q
     |fw t l a=>
      cases e;have DD:∃a',w'=.fw t l a':=by
       rcases O k w' _ v1 G with⟨_,U⟩|Q|⟨_,_,a',_,hw,Q⟩<;>try(first|cases U|exact⟨a,Q.symm⟩;done)
       cases Q;exact⟨a',hw⟩
      obtain⟨a',rfl⟩:=DD;rcases f with⟨U,_⟩|⟨j,t,l,f,v6⟩|⟨t,l,a'',g,u1,f,v6,v7⟩
      .cases U
      .cases f
      cases f;subst v6;obtain⟨c2,g2,us2,x1,x2,x3,x4⟩:=N.xr b (.cC t l [a']) (by rw[<-Z,v3];rfl)
      have v4:M'.b b=ab S:=Z▸v4;rw[v4]at x1;cases x1;rw[v7]at x3;have PC:g2=g:=by injection x3 with x3;injection x3 with y1;exact y1.symm
      subst PC;have zH:=b1.at' G v2;simp only[VR]at zH;obtain⟨u2,ZU,zH⟩:=zH;have:u2=u1:=by cases ZU;rfl
      subst this;exact⟨S,g2,[u2],(P b A).trans v4,(PR b 0 A).trans x2,v7,by simp only[aO];exact⟨u2,[],rfl,zH,rfl⟩⟩
     |_=>cases e;trivial
    .rw [w.2]at e;cases e
    exact((pI.xr b x (w.2.2.2▸e)).back hle (N.xr b x (hD b A w▸e))).step R λ_ _=>rfl
   obtain⟨q,K,⟨o,t,l,a,a',z,z0,z1,z2⟩|⟨c0,t,l,z,_⟩⟩:=Iv b _ A e
   .cases z;subst z0;obtain⟨c2,g2,us2,x1,x2,x3,x4⟩:=N.xr o _ z1;simp only[aO]at x4;obtain⟨u1,r1,rfl,ZT,rfl⟩:=x4;exact⟨c2,g2,[u1],by rw[Dl b A,K];exact x1,by rw[PT b A,K];exact x2,x3,by simp only[aO];exact⟨u1,[],rfl,z2 u1 ZT,rfl⟩⟩
   cases z;trivial
 refine⟨M'.at ch.length src,R,HF,?_,by rw[dH,B];exact Vx ..,λb A Y D q3=>?_,λi hi T=>?_,λb c e=>?_⟩
 .refine ht.RJ (by rw[ad3,agC];exact amS) λi=>?_
  rcases SB H.dF cs (n2 ws tc) i Zc.symm with⟨Y,D⟩|⟨k,q,v,Y,D,q3,q4⟩
  .rw [D,yb];by_cases hi:i∈ws
   .rw [aK hi];trivial
   rw[ax hi];have w:=ht.get i;rw[anh i hi]at w;exact(VR.back hle _ _ _ (P1.get i) w).mono R _ _
  rcases q4 with q4|q4
  .rw [q4];refine a1.at' q3 (?_:us[k]? =_);rw[anl,pb,Y,<-D];rfl
  rw[q4];trivial
 .rw [W b A];rcases hP b with⟨⟨n,c,t,l,F⟩,G,Z⟩|⟨k,q,v,F,Z,G,w4⟩|w|w<;>try grind
  exact absurd (by rw[pG,<-Z];exact kl.2 ⟨q,jG F,rfl⟩) D
 .rcases SB H.dF cs (n2 ws tc) i Zc.symm with⟨Y,D⟩|⟨k,q,v,Y,D,q3,q4⟩
  .rw [D,yb,ax hi]
  exact absurd (by rw[pG,<-D];exact kl.2 ⟨q,jG Y,rfl⟩) T
 by_cases A:b< ch.length
 .rw [P b A]at e;exact⟨b,e⟩
 rw[Dl b A]at e;split at e
 .exact ⟨_,e⟩
 cases e
end
abbrev GX:Gh:=⟨λ_ _ _=>True,λ_=>True,λ_ _=>trivial⟩
theorem mI(x y:Int):ak x y=decide (x< y):=@oF GX x y
theorem lU(x y:Int):ai x y=decide (x<=y):=@gX GX x y
theorem fB(x y:Int):aj x y=decide (x=y):=@pJ GX x y
theorem FZ(k:IntKind)(n:Int):wr k n=k.wrap n:=@n4 GX k n
theorem awJ{n:Int}(h1: -9223372036854775808<=n)(h2:n< 9223372036854775808):wr .i64 n=n:=by
 grind[FZ,IntKind.wrap,IntKind.bits,IntKind.signed]
theorem Jt{σ ρ:Type}{step:σ->Option (σ⊕ρ)}{s:σ}{r:ρ}(e:aA step s=ab r):∃n,sv step n s=ab r:=by
 unfold aA at e;split at e;all_goals grind
theorem Ab{σ ρ:Type}(step:σ->Option (σ⊕ρ))(n:Nat)(s:σ):sv step (n+1) s=match step s with
  |none=>ae
  |some (.inl A)=>sv step n A
  |some (.inr r)=>ab r:=rfl
theorem Rh{σ ρ:Type}{step:σ->Option (σ⊕ρ)}:∀{n:Nat} {s:σ} {r:ρ},sv step n s=ab r->∀m,n<=m->sv step m s=ab r
 |0,_,_,e,_,_=>by cases e
 |n+1,s,r,e,0,h=>by omega
 |n+1,s,r,e,m+1,h=>by
  rw[Ab]at e|-;split at e
  .cases e
  .exact Rh e m (by omega)
  omega
theorem Ri{σ ρ:Type}{step:σ->Option (σ⊕ρ)}{s:σ}{r:ρ}{n:Nat}(e:sv step n s=ab r):aA step s=ab r:=by
 unfold aA;have h:∃n r,sv step n s=ab r:=⟨n,r,e⟩;have a:=Rh e (max n h.choose) (Nat.le_max_left ..);have b:=Rh h.choose_spec.choose_spec (max n h.choose) (Nat.le_max_right ..);grind
theorem eY{σ ρ:Type}{step:σ->Option (σ⊕ρ)}{s s':σ}(e:step s=ab (.inl s')):aA step s=aA step s':=by
 cases h:aA step s' with
 |some r=>
  obtain⟨n,A⟩:=Jt h;exact Ri (n:=n+1) (by simp[Ab,e,A])
 |none=>
  cases h2:aA step s
  .rfl
  rename_i r;obtain⟨n,A⟩:=Jt h2;cases n<;>first|rename_i n;rw[Ab,e]at A;rw[Ri A]at h;cases h|cases A
theorem cP{σ ρ:Type}{step:σ->Option (σ⊕ρ)}{s:σ}{r:ρ}(e:step s=ab (.inr r)):aA step s=ab r:=
 Ri (n:=1) (by rw[Ab,e])
theorem eW{σ ρ:Type}{step:σ->Option (σ⊕ρ)}(I:σ->Prop)(m:σ->Nat)(Q:ρ->Prop)
  (h:∀s,I s->(∃A,step s=ab (.inl A)/\I A/\m A< m s)∨∃r,step s=ab (.inr r)/\Q r):∀s,I s->∃r,aA step s=ab r/\Q r:=by
 have:∀n s,m s< n->I s->∃r,aA step s=ab r/\Q r:=by
  intro n;induction n with
  |zero=>omega
  |succ n ih=>
   intro s Z hi;rcases h s hi with⟨A,e,J,hm⟩|⟨r,e,U⟩
   .rw [eY e];grind
   exact⟨r,cP e,U⟩
 intro s hi;exact this (m s+1) s (Nat.lt_succ_self _) hi
section
variable [Gh]
variable {C:CE} {ih:(ρ:Type)->Nat->Code->(Nat->Bool)->TC->CH->KX ρ->Option ρ}
theorem arD(N:Good C ih):VJ C ih:=by
 intro ρ f b wb tc ch k r e M t h fb cur df Y ht;unfold Rg at e;obtain⟨key,_,e⟩:=ay.1 e;cases hu:(bif C.sZ f key then ag else adH C f key tc ch)with
 |true=>
  rw[hu,ao]at e;obtain⟨ex,Z,a,M1,t1,h1,U,q1,T,D,g,q5,O,d⟩:=N ρ f b wb tc ch _ r e M t h fb cur df Y ht;have P:X C.E f fb cur (.loop b) ⟨t,h,[],df⟩=(match X C.E f fb cur b ⟨t,h,[],df⟩with
   |some (.nm,Q)=>X C.E f fb cur (.loop b) Q
   |r=>r):=by rw[kZ];rfl
  cases ex with
  |nm=>
   obtain⟨C4,A,I,M2,t2,h2,D5,r1,r2,r3,r4,r5,r7,r6⟩:=N ρ f (.loop b) wb Z a k r d M1 t1 h1 fb cur (U++df) T D;exact⟨C4,A,I,M2,t2,h2,D5++U,by grind,r2,r3,g.trans r4,λi hi=>(r5 i hi).trans (q5 i hi),⟨r7.1.app O.1 g.lh,λhr=>by rw[O.2 hr,r7.2 hr];rfl⟩,r6⟩
  |exit j=>exact⟨.exit j,Z,a,M1,t1,h1,U,by rw[P,q1],T,D,g,q5,O,d⟩
  |ret=>exact⟨.ret,Z,a,M1,t1,h1,U,by rw[P,q1],T,D,g,q5,O,d⟩
 |false=>
 rw[hu,au]at e;obtain⟨H,_,e⟩:=ay.1 e;obtain⟨vs,hvs,e⟩:=ay.1 e;cases R:eT wb (H.ids tc ch)&&(eT wb (bN H.cells)&&(eT wb (bN H.dw)&&((i9 (H.ids tc ch++(bN H.cells++bN H.dw))&&i9 (bN H.dF))&&eT (λi=>bg (writes b) i) (bN H.dF))))with
 |false=>grind
 |true=>
 rw[R,ao]at e;simp only[aM]at R;obtain⟨c1,c2,c3,⟨c4,_⟩,c5⟩:=R;obtain⟨s0,pI,e⟩:=ay.1 e;obtain⟨n,l⟩:=Jt e;have S:=ah0.1 (Au c4);have zJ:∀i∈H.ids tc ch,i ∉ bN H.cells:=λi hi hj=>S.2.2 i hi i (cD.2 (.inl hj)) rfl
 have Is:∀i∈H.ids tc ch,i ∉ bN H.dw:=λi hi hj=>S.2.2 i hi i (cD.2 (.inr hj)) rfl
 obtain⟨_,⟨cw,hcw,_⟩,har⟩:=Zm pI;have lR:∀p∈H.cells,p.1< ch.length:=λp hp=>by
  obtain⟨_,us,_,q⟩:=CF Y hcw;obtain⟨i,hi⟩:=Ge hp;obtain⟨w,u,c,_,_,D,_⟩:=q i p hi;exact fy D
 have um:=Wp har;obtain⟨z,i1,i2,i3,i4,i5,i6,i7⟩:=Tr (ws:=writes b) (ids:=H.ids tc ch) Y ht Y ht (.refl M) (DX tc) lR um (λ_ _ _ _ _=>rfl) (λ_ _=>rfl) S.1 (λ_ h=>.inr h) zJ Is pI
 have main:∀n s z m h' J,sv (λs=>match H.fill (writes b) (H.ids tc ch) vs tc ch s with
    |(Z,a)=>ih (H.ty.den⊕ρ) f b (λi=>bu (aF ch) i||(bg (bN H.cells) i||bg (bN H.dw) i)) Z a (λex A I=>match ex with
     |.nm=>bif TC.eK tc A&&(i9 (H.ids A I)&&eT (λb=>bu (aF ch) b) (H.ids A I))then(H.get vs A I).map bb else ae
     |ex=>(k ex A I).map cF)) n s=ab r->M.le z->HS z (H.fill (writes b) (H.ids tc ch) vs tc ch s).2 h'->bF z (H.fill (writes b) (H.ids tc ch) vs tc ch s).1 m->
   h.length<=h'.length->ch.length<=(H.fill (writes b) (H.ids tc ch) vs tc ch s).2.length->
   (∀i,i< ch.length->i ∉ H.ids tc ch->i ∉ bN H.cells->i ∉ bN H.dw->aD (H.fill (writes b) (H.ids tc ch) vs tc ch s).2 i=aD ch i)->
   (∀i,i ∉ writes b->i ∉ bN H.dF->(H.fill (writes b) (H.ids tc ch) vs tc ch s).1.get i=tc.get i)->
   (∀b c,z.b b=ab c->(∃b0,M.b b0=ab c)∨h.length<=c)->(∀c,c< h.length->(∀b,M.b b≠ab c)->ar h' c=ar h c)->pg h.length J/\((h8 b&&al fb 0)=af->J=[])->
   rL wb M tc ch h (writes b) df (h8 b&&al fb 0) (X C.E f fb cur (.loop b) ⟨m,h',[],J++df⟩) k r:=by
  intro n;induction n with
  |zero=>intro s z m h' J l;cases l
  |succ n IH=>
   intro s z m h' J l j1 j2 j3 j4 j5 j6 j7 j8 j9 j10;rw[Ab]at l;generalize hF:H.fill (writes b) (H.ids tc ch) vs tc ch s=F at l j2 j3 j5 j6 j7;obtain⟨Z,a⟩:=F;cases hy:ih (H.ty.den⊕ρ) f b (λi=>bu (aF ch) i||(bg (bN H.cells) i||bg (bN H.dw) i)) Z a (λex A I=>match ex with
     |.nm=>bif TC.eK tc A&&(i9 (H.ids A I)&&eT (λb=>bu (aF ch) b) (H.ids A I))then(H.get vs A I).map bb else ae
     |ex=>(k ex A I).map cF)with
   |none=>
    grind
   |some y=>
    simp only[hy]at l;obtain⟨ex,A,I,M2,t2,h2,U,q1,T,D,g,q5,O,d⟩:=N _ f b _ Z a _ y hy z m h' fb cur (J++df) j2 j3;have j11:pg h.length (U++J)/\((h8 b&&al fb 0)=af->U++J=[]):=⟨O.1.app j10.1 j4,λhr=>by rw[O.2 hr,j10.2 hr];rfl⟩
    rw[<-mj]at q1;have P:X C.E f fb cur (.loop b) ⟨m,h',[],J++df⟩=(match X C.E f fb cur b ⟨m,h',[],J++df⟩with
     |some (.nm,Q)=>X C.E f fb cur (.loop b) Q
     |r=>r):=by rw[kZ];rfl
    rw[q1]at P;have o:∀i,i< ch.length->i ∉ H.ids tc ch->i ∉ bN H.cells->i ∉ bN H.dw->aD I i=aD ch i:=λi hi G W a3=>by
     rw[g.keep i (fY hi j5) (by
      rw[jD,jD,bz];refine⟨?_,?_,?_⟩
      .rw [<-ji,ah6];omega
      .rw [<-ji,mH];exact W
      rw[<-ji,mH];exact a3)]
     exact j6 i hi G W a3
    have v:∀i,bg (writes b) i=af->A.get i=tc.get i:=λi hi=>by
     rw[q5 i hi];exact j7 i (λhm=>by rw[mH.2 hm]at hi;cases hi) (λhm=>by have:=ku c5 i hm;rw[hi]at this;cases this)
    have zN:∀i c,M2.b i=ab c->(∃b0,M.b b0=ab c)∨h.length<=c:=λi c e=>(g.nb i c e).elim (λ⟨j,ej⟩=>j8 j c ej) λq=>.inr (b8 j4 q)
    have K:∀c,c< h.length->(∀b,M.b b≠ab c)->ar h2 c=ar h c:=λc R l=>(g.out c (fY R j4) λi e=>(j8 i c e).elim (λ⟨j,ej⟩=>l j ej) λq=>absurd R (Vy.2 q)).trans (j9 c R l)
    have out:k ex A I=ab r->X C.E f fb cur (.loop b) ⟨m,h',[],J++df⟩=ab (ex,⟨t2,h2,[],(U++J)++df⟩)->rL wb M tc ch h (writes b) df (h8 b&&al fb 0) (X C.E f fb cur (.loop b) ⟨m,h',[],J++df⟩) k r:=λG W=>
     ⟨ex,A,I,M2,t2,h2,U++J,W,T,D,⟨j1.trans g.le,b8 j5 g.lc,b8 j4 g.lh,λi hi hw=>o i hi
      (λhm=>by rw[ku c1 i hm]at hw;cases hw) (λhm=>by rw[ku c2 i hm]at hw;cases hw) (λhm=>by rw[ku c3 i hm]at hw;cases hw),zN,K⟩,v,j11,G⟩
    have x:(k ex A I).map cF=ab y->X C.E f fb cur (.loop b) ⟨m,h',[],J++df⟩=ab (ex,⟨t2,h2,[],(U++J)++df⟩)->rL wb M tc ch h (writes b) df (h8 b&&al fb 0) (X C.E f fb cur (.loop b) ⟨m,h',[],J++df⟩) k r:=λG W=>by
     cases hk:k ex A I
     .rw [hk]at G;cases G
     rw[hk]at G;cases G;cases l;exact out hk W
    cases ex with
    |exit j=>exact x d P
    |ret=>exact x d P
    |nm=>
     have d:(bif TC.eK tc A&&(i9 (H.ids A I)&&eT (λb=>bu (aF ch) b) (H.ids A I))then(H.get vs A I).map bb else ae)=ab y:=d
     cases B:TC.eK tc A&&(i9 (H.ids A I)&&eT (λb=>bu (aF ch) b) (H.ids A I))with
     |false=>rw[B,au]at d;cases d
     |true=>
      rw[B,ao]at d;simp only[aM]at B;obtain⟨d1,d2,d3⟩:=B;cases hg:H.get vs A I with
      |none=>rw[hg]at d;cases d
      |some s'=>
       rw[hg]at d;cases d;obtain⟨MN,k1,k2,k3,k4,k5,k6,k7⟩:=Tr (ws:=writes b) (ids:=H.ids tc ch) Y ht T D (j1.trans g.le) (Jr d1 (DX tc)) lR um o (λi hi=>v i (by rw[<-ji,mH];exact hi))
        (Au d2) (λi hi=>.inl (by have:=ku d3 i hi;rw[bz]at this;exact jl this)) zJ Is hg
       rw[P];exact IH s' MN t2 h2 (U++J) l k1 k2 k3 (b8 j4 g.lh) k4 k5 k6 (λi c e=>zN _ c (k7 i c e).choose_spec) K j11
 exact main n s0 z t h [] l i1 i2 i3 (aL _) i4 i5 i6 (λi c e=>.inl (i7 i c e)) (λ_ _ _=>rfl) ⟨.nil _,λ_=>rfl⟩
theorem anM(v:Good C ih):VI C ih:=by
 intro ρ H f a b wb tc ch k r e M t h fb cur df hs ht;unfold I2 at e;obtain⟨vs,hvs,e⟩:=ay.1 e;cases m:eT wb (H.ids tc ch)&&(eT wb (bN H.cells)&&(eT wb (bN H.dw)&&((i9 (H.ids tc ch++(bN H.cells++bN H.dw))&&i9 (bN H.dF))&&(eT (λi=>bg (writes a) i) (bN H.dF)&&eT (λb=>cQ b (aF ch)) (bN H.cells++bN H.dw)))))with
 |false=>grind
 |true=>
 rw[m,ao]at e;simp only[aM]at m;obtain⟨c1,c2,c3,⟨c4,_⟩,c5,c6⟩:=m;have w:=ah0.1 (Au c4);have G:∀i∈H.ids tc ch,i ∉ bN H.cells:=λi hi K=>w.2.2 i hi i (cD.2 (.inl K)) rfl
 have N:∀i∈H.ids tc ch,i ∉ bN H.dw:=λi hi K=>w.2.2 i hi i (cD.2 (.inr K)) rfl
 have x:∀i,i∈bN H.cells++bN H.dw->i< ch.length:=λi hi=>by
  have:=ku c6 i hi;simp_all
 have O:∀p∈H.cells,p.1< ch.length:=λp hp=>x _ (cD.2 (.inl (by rw[pG];grind)))
 have P:∀p∈H.dw,p.1< ch.length:=λp hp=>x _ (cD.2 (.inr (by rw[pG];grind)))
 unfold bt at e;obtain⟨y,hy,e⟩:=ay.1 e;obtain⟨ex,A,I,M2,t2,h2,g,q1,q2,q3,J,q5,z,U⟩:=v _ f a _ tc ch _ y hy M t h fb cur df hs ht;have hw:∀i,bg (writes (.seq a b)) i=af->bg (writes a) i=af/\bg (writes b) i=af:=λi hi=>by
  have hi:bg (writes a++writes b) i=af:=hi;simp_all[Dk,jD,hi]
 have B:X C.E f fb cur (.seq a b) ⟨t,h,[],df⟩=(match X C.E f fb cur a ⟨t,h,[],df⟩with
   |some (.nm,Q)=>X C.E f fb cur b Q
   |r=>r):=by rw[kZ];rfl
 rw[q1]at B;have Z:∀i,i< ch.length->i ∉ H.ids tc ch->i ∉ bN H.cells->i ∉ bN H.dw->aD I i=aD ch i:=λi hi a0 a2 a3=>J.keep i hi (by
  rw[jD,jD,jD,bz];refine⟨?_,?_,?_,?_⟩<;>try(rw[<-ji,mH];omega;done)
  rw[<-ji,ah6];omega)
 have R:∀i,i< ch.length->wb i=af->aD I i=aD ch i:=λi hi hw=>Z i hi
  (λhm=>by rw[ku c1 i hm]at hw;cases hw) (λhm=>by rw[ku c2 i hm]at hw;cases hw) (λhm=>by rw[ku c3 i hm]at hw;cases hw)
 have d:(k ex A I).map cF=ab y->X C.E f fb cur (.seq a b) ⟨t,h,[],df⟩=ab (ex,⟨t2,h2,[],g++df⟩)->rL wb M tc ch h (writes (.seq a b)) df (h8 (.seq a b)&&al fb 0) (X C.E f fb cur (.seq a b) ⟨t,h,[],df⟩) k r:=λa1 a2=>by
  cases hk:k ex A I
  .grind
  rw[hk]at a1;cases a1;cases e;exact⟨ex,A,I,M2,t2,h2,g,a2,q2,q3,⟨J.le,J.lc,J.lh,R,J.nb,J.out⟩,λi hi=>q5 i (hw i hi).1,⟨z.1,λD=>z.2 (uY D).1⟩,hk⟩
 cases ex with
 |exit j=>exact d U B
 |ret=>exact d U B
 |nm=>
  have U:(bif TC.eK tc A&&(i9 (H.ids A I)&&eT (λb=>bu (aF ch) b||bg (H.ids tc ch) b) (H.ids A I))then(H.get vs A I).map bb else ae)=ab y:=U
  cases l:TC.eK tc A&&(i9 (H.ids A I)&&eT (λb=>bu (aF ch) b||bg (H.ids tc ch) b) (H.ids A I))with
  |false=>rw[l,au]at U;cases U
  |true=>
   rw[l,ao]at U;simp only[aM]at l;obtain⟨d1,d2,d3⟩:=l;cases S:H.get vs A I with
   |none=>rw[S]at U;cases U
   |some s'=>
    rw[S]at U;cases U;obtain⟨MN,k1,k2,k3,T,k5,k6,k7⟩:=Tr (ws:=writes a) (ids:=H.ids tc ch) hs ht q2 q3 J.le (Jr d1 (DX tc)) O P Z (λi hi=>q5 i (by rw[<-ji,mH];exact hi))
     (Au d2) (λi hi=>by
      have:=ku d3 i hi;rw[kc,bz,mH]at this;exact this.imp jl id) G N S
    replace e:(match H.fill (writes a) (H.ids tc ch) vs tc ch s' with
     |(n,o)=>ih ρ f b wb n o k)=ab r:=e
    generalize H.fill (writes a) (H.ids tc ch) vs tc ch s'=F at e k2 k3 T k5 k6;obtain⟨n,o⟩:=F;obtain⟨W,Y,v9,M3,t3,h3,mk3,r1,r2,r3,u,r5,r7,r6⟩:=v ρ f b wb n o k r e MN t2 h2 fb cur (g++df) k2 k3;refine⟨W,Y,v9,M3,t3,h3,mk3++g,by rw[mj];exact B.trans r1,r2,r3,⟨k1.trans u.le,b8 T u.lc,b8 J.lh u.lh,λi hi hw=>?_,λi c e=>?_,λc m hn=>?_⟩,λi hi=>?_,⟨r7.1.app z.1 J.lh,λD=>by rw[z.2 (uY D).1,r7.2 (uY D).2];rfl⟩,r6⟩
    .rw [u.keep i (fY hi T) hw];exact k5 i hi (λhm=>by rw[ku c1 i hm]at hw;cases hw) (λhm=>by rw[ku c2 i hm]at hw;cases hw) (λhm=>by rw[ku c3 i hm]at hw;cases hw)
    .rcases u.nb i c e with⟨j,ej⟩|q
     .obtain ⟨j',s⟩:=k7 j c ej;exact J.nb j' c s
     exact .inr (b8 J.lh q)
    .refine (u.out c (fY m J.lh) λj ej=>?_).trans (J.out c m hn)
     obtain⟨j',s⟩:=k7 j c ej;rcases J.nb j' c s with⟨j2,e2⟩|q
     .exact hn j2 e2
     exact absurd m (Vy.2 q)
    rw[r5 i (hw i hi).2];exact k6 i (λhm=>by have:=(hw i hi).1;rw[mH.2 hm]at this;cases this) (λhm=>by have:=ku c5 i hm;rw[(hw i hi).1]at this;cases this)
theorem CG(hC:jK C):∀n,Good C (N0 C n)
 |0=>λρ f c wb tc ch k r e=>by cases e
 |n+1=>ako hC (CG hC n) (arD (CG hC n)) (anM (CG hC n))
end
section
variable [Gh]
def kq(E:Env)(g:Nat)(s:Spec):Prop:=∀x y,s.f x=ab y->iu E (X E) g (s.a.dY x)=ab (s.r.enc y)
def TW(l:List (Nat×Spec)):Nat->Option Spec:=bn (λ_=>ae) (λp _ ih i=>bif al p.1 i then ab p.2 else ih i) l
def axg(l:List (Nat×Hint)):Nat->Option Hint:=bn (λ_=>ae) (λp _ ih i=>bif al p.1 i then ab p.2 else ih i) l
theorem TY:∀{l:List (Nat×Spec)} {i:Nat} {s:Spec},TW l i=ab s->(i,s)∈l
 |[],_,_,e=>by cases e
 |p::l,i,s,e=>by
  have e:(bif al p.1 i then ab p.2 else TW l i)=ab s:=e;cases A:al p.1 i with
  |true=>
   rw[A]at e;have:=bU A;grind
  |false=>
   rw[A]at e;exact ff _ (TY e)
def TZ(l:List (Nat×kp)):Nat->Option kp:=bn (λ_=>ae) (λp _ ih i=>bif al p.1 i then ab p.2 else ih i) l
theorem T0:∀{l:List (Nat×kp)} {i:Nat} {s:kp},TZ l i=ab s->(i,s)∈l
 |[],_,_,e=>by cases e
 |p::l,i,s,e=>by
  have e:(bif al p.1 i then ab p.2 else TZ l i)=ab s:=e;cases A:al p.1 i with
  |true=>
   rw[A]at e;have:=bU A;grind
  |false=>
   rw[A]at e;exact ff _ (T0 e)
def k0(E:Env)(l:List (Nat×Spec))(J:List (Nat×kp))(A I:Nat->Nat->Option Hint)(sZ:Nat->Nat->Bool):CE:=⟨E,TW l,TZ J,A,I,sZ⟩
def WX(E:Env)(l:List (Nat×Spec))(I:List (Nat×kp))(A:Nat->Nat->Option Hint):CE:=k0 E l I A (λ_ _=>ae) (λ_ _=>af)
def NY(E:Env)(l:List (Nat×Spec))(A:Nat->Nat->Option Hint):CE:=WX E l [] A
def rI(E:Env):List (Nat×Spec)->Prop
 |[]=>True
 |p::l=>kq E p.1 p.2/\rI E l
def yF(E:Env):List (Nat×kp)->Prop
 |[]=>True
 |p::l=>kX E p.1 p.2/\yF E l
theorem rI.mem{E:Env}:∀{l:List (Nat×Spec)},rI E l->∀p∈l,kq E p.1 p.2
 |_::_,h,p,hp=>by
  rcases du.1 hp with rfl|hp
  .exact h.1
  .exact h.2.mem p hp
theorem yF.mem{E:Env}:∀{l:List (Nat×kp)},yF E l->∀p∈l,kX E p.1 p.2
 |_::_,h,p,hp=>by
  rcases du.1 hp with rfl|hp
  .exact h.1
  .exact h.2.mem p hp
theorem Hh{E:Env}{l:List (Nat×Spec)}{J:List (Nat×kp)}{A I:Nat->Nat->Option Hint}{sZ:Nat->Nat->Bool}(h:rI E l)(hm:yF E J):jK (k0 E l J A I sZ):=
 ⟨λ_ _ e=>h.mem _ (TY e),λ_ _ e=>hm.mem _ (T0 e)⟩
theorem akn{E:Env}{l:List (Nat×Spec)}{I:List (Nat×kp)}{A:Nat->Nat->Option Hint}(h:rI E l)(hm:yF E I):jK (WX E l I A):=
 ⟨λ_ _ e=>h.mem _ (TY e),λ_ _ e=>hm.mem _ (T0 e)⟩
theorem akm{E:Env}{l:List (Nat×Spec)}{A:Nat->Nat->Option Hint}(h:rI E l):jK (NY E l A):=akn h trivial
theorem WV{C:CE}(hC:jK C){n g:Nat}{A rt:Ty}{x:A.den}{y:rt.den}(e:pn C n g A rt x=ab y):qC C.E (X C.E) g (A.dY x)=ab (rt.enc y):=by
 obtain⟨v,h2,cv,I,b,J,U,Z,_,a⟩:=zT (CG hC n) HS.empty (DU A x) e;unfold qC;rw[oG,J];exact HL Z a U
theorem kq.ofC{C:CE}(hC:jK C){g:Nat}{s:Spec}(hm:C.E.sm g=ae)(n:Nat)(hf:∀x y,s.f x=ab y->pn C n g s.a s.r x=ab y):kq C.E g s:=λx y e=>by
 unfold iu;rw[hm];exact WV hC (hf x y e)
theorem Wt{ch:CH}{n m k:Nat}{A I:List Bool}{J U:CH}(a:m=n+A.length/\J.length=A.length/\∀j:Nat,A[j]? =ab ag->aD ch (n+j)=aD J j)(b:k=m+I.length/\U.length=I.length/\∀j:Nat,I[j]? =ab ag->aD ch (m+j)=aD U j):
  k=n+(A++I).length/\(J++U).length=(A++I).length/\∀j:Nat,(A++I)[j]? =ab ag->aD ch (n+j)=aD (J++U) j:=by
 obtain⟨d,Z,f⟩:=a;obtain⟨g,c,i⟩:=b;refine⟨by grind,by simp[Z,c],λj e=>?_⟩
 rw[PD];grind
mutual
theorem Ap.zf{ch:CH}:∀(p:Ap) {x z:p.ty.den} {n m:Nat},Ap.back ch p x n=ab (z,m)->m=n+(Ap.ig p).length/\(Ap.news p z).length=(Ap.ig p).length/\∀j:Nat,(Ap.ig p)[j]? =ab ag->aD ch (n+j)=aD (Ap.news p z) j
 |.val t,x,z,n,m,e=>by cases e;exact⟨rfl,rfl,λj h=>by cases h⟩
 |.buf w t,x,z,n,m,e=>by
  have e:(bif w then(match aD ch n with
   |some (.arr v c u I)=>bif al v 0&&not c then(match Ty.cs (.an u) (.an t) I with|some y=>ab (y,n+1)|none=>ae)else ae
   |_=>ae)else ab (x,n+1):Option (List t.den×Nat))=ab (z,m):=e
  cases w with
  |false=>cases e;exact⟨rfl,rfl,λj h=>by cases j<;>cases h⟩
  |true=>
   rw[ao]at e
   split at e
   .rename_i v c u I J
    cases A:al v 0&&not c with
    |false=>rw[A,au]at e;cases e
    |true=>
     rw[A,ao]at e
     rw[aM]at A
     have Z:=bU A.1
     have b:c=af:=by simpa using A.2
     subst Z;subst b
     split at e
     .rename_i y U
      cases e
      obtain⟨h1,h2⟩:=kv U
      injection h1 with h1
      subst h1
      have h2:z=I:=h2
      refine⟨rfl,rfl,λj h=>?_⟩
      cases j with
      |zero=>rw[qi,J,<-h2];rfl
      |succ j=>cases h
     .cases e
   .cases e
 |.cell w t,x,z,n,m,e=>by
  have e:(bif w then(match aD ch n with
   |some (.cell (.sy u y))=>(match Ty.cs u t y with|some y=>ab (y,n+1)|none=>ae)
   |_=>ae)else ab (x,n+1):Option (t.den×Nat))=ab (z,m):=e
  cases w with
  |false=>cases e;exact⟨rfl,rfl,λj h=>by cases j<;>cases h⟩
  |true=>
   rw[ao]at e
   split at e
   .rename_i u y J
    split at e
    .rename_i d U
     cases e
     obtain⟨h1,h2⟩:=kv U
     subst h1
     have h2:z=y:=h2
     refine⟨rfl,rfl,λj h=>?_⟩
     cases j with
     |zero=>rw[qi,J,<-h2];rfl
     |succ j=>cases h
    .cases e
   .cases e
 |.fn f a c,x,z,n,m,e=>by
  have e:(match a9.back ch a x.1 n with
   |some (y,n)=>(match a9.back ch c x.2 n with|some (z,n)=>ab ((y,z),n)|none=>ae)
   |none=>ae:Option (((a9.ty a).den×(a9.ty c).den)×Nat))=ab (z,m):=e
  split at e
  .rename_i y k h1
   split at e
   .rename_i g k2 h2
    cases e
    exact Wt (a9.zf a h1) (a9.zf c h2)
   .cases e
  .cases e
theorem a9.zf{ch:CH}:∀(l:List Ap) {x z:(a9.ty l).den} {n m:Nat},a9.back ch l x n=ab (z,m)->m=n+(a9.ig l).length/\(a9.news l z).length=(a9.ig l).length/\∀j:Nat,(a9.ig l)[j]? =ab ag->aD ch (n+j)=aD (a9.news l z) j
 |[],x,z,n,m,e=>by cases e;exact⟨rfl,rfl,λj h=>by cases h⟩
 |p::l,x,z,n,m,e=>by
  have e:(match Ap.back ch p x.1 n with
   |some (y,n)=>(match a9.back ch l x.2 n with|some (z,n)=>ab ((y,z),n)|none=>ae)
   |none=>ae:Option ((p.ty.den×(a9.ty l).den)×Nat))=ab (z,m):=e
  split at e
  .rename_i y k h1
   split at e
   .rename_i A k2 h2
    cases e
    exact Wt (Ap.zf p h1) (a9.zf l h2)
   .cases e
  .cases e
end
theorem kX.of{C:CE}(hC:jK C){g:Nat}{s:kp}(n:Nat)(hf:∀x y,s.f x=ab y->Hg C n g s.ps s.r x=ab y):kX C.E g s:=λx y e M h l I J=>by
 obtain⟨v,h',cv,ba,M',m,U,Z,c,A⟩:=zT (CG hC n) I J (hf x y e);obtain⟨a,h1,A⟩:=ay.1 A;obtain⟨b,h2,A⟩:=cE.1 A
 .subst A;refine⟨h',ba,M',?_,Z,c,λj d=>?_⟩
  .unfold Z5 at h1;split at h1
   .obtain ⟨rfl,i⟩:=kv h1;simp_all[VR,U,i]
   trivial
  .have:=(a9.zf s.ps h2).2.2 j d;grind
theorem kX.awD{E:Env}{g:Nat}{ps:List Ap}{r:Ty}{f A:(a9.ty ps).den->Option (r.den×(a9.ty ps).den)}(h:kX E g ⟨ps,r,f⟩)(hf:∀x y,A x=ab y->f x=ab y):kX E g ⟨ps,r,A⟩:=λx y e=>h x y (hf x y e)
theorem kX.aP{E:Env}{g:Nat}{ps:List Ap}{r:Ty}{F:Nat->(a9.ty ps).den->Option (r.den×(a9.ty ps).den)}(h:∀n,kX E g ⟨ps,r,F n⟩){f:(a9.ty ps).den->Option (r.den×(a9.ty ps).den)}(hf:∀x y,f x=ab y->∃n,F n x=ab y):kX E g ⟨ps,r,f⟩:=λx y e=>by
 obtain⟨n,A⟩:=hf x y e;exact h n x y A
theorem kq.of{E:Env}{l:List (Nat×Spec)}{A:Nat->Nat->Option Hint}(h:rI E l){g:Nat}{s:Spec}(hm:E.sm g=ae)(n:Nat)
  (hf:∀x y,s.f x=ab y->pn (NY E l A) n g s.a s.r x=ab y):kq E g s:=λx y e=>by
 unfold iu;rw[hm];exact WV (akm h) (hf x y e)
def avm(E:Env)(l:List (Nat×Spec))(A:Nat->Nat->Option Hint)(n g:Nat)(a r:Ty):Spec:=⟨a,r,pn (NY E l A) n g a r⟩
theorem kq.self{E:Env}{l:List (Nat×Spec)}{A:Nat->Nat->Option Hint}(h:rI E l){g:Nat}(hm:E.sm g=ae)(n:Nat)(a r:Ty):kq E g (avm E l A n g a r):=
 kq.of h hm n λ_ _ e=>e
theorem kq.awD{E:Env}{g:Nat}{a r:Ty}{f A:a.den->Option r.den}(h:kq E g ⟨a,r,f⟩)(hf:∀x y,A x=ab y->f x=ab y):kq E g ⟨a,r,A⟩:=λx y e=>h x y (hf x y e)
theorem kq.data{E:Env}{g:Nat}{s:Spec}(h:kq E g s){x:s.a.den}{y:s.r.den}(e:s.f x=ab y)(hm:E.sm g=ae):qC E (X E) g (s.a.dY x)=ab (s.r.enc y):=by
 have:=h x y e;simp_all[iu,this,hm]
end
def aQ{α β:Type}(l:List α) i(f:α->Option β):=bif ai 0 i then l[i.toNat]?.bind f else ae
def aN{α β:Type}(l:List α) i(f:α->Option β):=bif bif ai 0 i then ak i (aE l.length)else af then l[i.toNat]?.bind f else ae
def w(n:Int):=wr .i64 n
def wu(n:Int):=wr .u64 n
def aT{β:Type} c(r:Option β):=bif c then r else ae
def apO{α β:Type}(l m:List α) s(k:List α->Option β):=bif bW (l.length+m.length) s then k (cx l m)else ae
def ky{β:Type} y(r:Option β):=bif aj y 0 then ae else r
def aG c(m:Option Bool):=bif c then m else ab af
def aW c(m:Option Bool):=bif c then ab ag else m
def aB{σ ρ:Type}(s:σ):Option (σ⊕ρ):=ab (.inl s)
def az{σ ρ:Type}(r:ρ):Option (σ⊕ρ):=ab (.inr r)
section
variable [Gh]
structure Kn(E:Env) where
 g:Nat
 s:Spec
 ok:kq E g s
def kT{E:Env}(l:List (Kn E)):List (Nat×Spec):=bn [] (λk _ ih=>(k.g,k.s)::ih) l
theorem DO{E:Env}:∀l:List (Kn E),rI E (kT l)
 |[]=>trivial
 |k::l=>⟨k.ok,DO l⟩
def hF(l:List (Nat×Nat×Hint)):Nat->Nat->Option Hint:=bn (λ_ _=>ae) (λp _ ih f k=>bif al p.1 f&&al p.2.1 k then ab p.2.2 else ih f k) l
def uF(l:List (Nat×Nat)):Nat->Nat->Bool:=bn (λ_ _=>af) (λp _ ih f k=>bif al p.1 f&&al p.2 k then ag else ih f k) l
def hI(l:List Nat):Hint:=⟨bn [] (λi _ ih=>(i,.val (.int .i64))::ih) l,[],[]⟩
def kn{E:Env}(A I:List (Nat×Nat×Hint))(J:List (Nat×Nat))(l:List (Kn E))(g:Nat)(a r:Ty)(f:a.den->Option r.den)(hm:E.sm g=ae)(h:∀x,pn (k0 E (kT l) [] (hF A) (hF I) (uF J)) 200 g a r x=f x):Kn E:=
 ⟨g,⟨a,r,f⟩,kq.ofC (C:=k0 E (kT l) [] (hF A) (hF I) (uF J)) (Hh (DO l) trivial) hm 200 λx y e=>(h x).trans e⟩
structure my(E:Env) where
 g:Nat
 s:kp
 ok:kX E g s
def kM{E:Env}(l:List (my E)):List (Nat×kp):=bn [] (λk _ ih=>(k.g,k.s)::ih) l
theorem I4{E:Env}:∀l:List (my E),yF E (kM l)
 |[]=>trivial
 |k::l=>⟨k.ok,I4 l⟩
def knm{E:Env}(I J:List (Nat×Nat×Hint))(U:List (Nat×Nat))(l:List (Kn E))(A:List (my E))(g:Nat)(a r:Ty)(f:a.den->Option r.den)(hm:E.sm g=ae)(h:∀x,pn (k0 E (kT l) (kM A) (hF I) (hF J) (uF U)) 200 g a r x=f x):Kn E:=
 ⟨g,⟨a,r,f⟩,kq.ofC (C:=k0 E (kT l) (kM A) (hF I) (hF J) (uF U)) (Hh (DO l) (I4 A)) hm 200 λx y e=>(h x).trans e⟩
def knM{E:Env}(I J:List (Nat×Nat×Hint))(U:List (Nat×Nat))(l:List (Kn E))(A:List (my E))(g:Nat)(ps:List Ap)(r:Ty)(f:(a9.ty ps).den->Option (r.den×(a9.ty ps).den))(h:∀x,Hg (k0 E (kT l) (kM A) (hF I) (hF J) (uF U)) 200 g ps r x=f x):my E:=
 ⟨g,⟨ps,r,f⟩,kX.of (C:=k0 E (kT l) (kM A) (hF I) (hF J) (uF U)) (Hh (DO l) (I4 A)) 200 λx y e=>(h x).trans e⟩
def Q4{E:Env}(I J:List (Nat×Nat×Hint))(U:List (Nat×Nat))(l:List (Kn E))(A:List (my E))(g:Nat)(ps:List Ap)(r:Ty){K:Type}(u:K->(a9.ty ps).den->Option (r.den×(a9.ty ps).den))(z:K)(T:K->K)(Z:∀x,u z x=ae)
  (h:∀F x,Hg (k0 E (kT l) ((g,⟨ps,r,u F⟩)::kM A) (hF I) (hF J) (uF U)) 200 g ps r x=u (T F) x) (n:Nat) (f:K) (hf:hG (motive:=λ_=>K) z (λ_ F=>T F) n=f):my E:=
 ⟨g,⟨ps,r,u f⟩,hf▸hG (motive:=λn=>kX E g ⟨ps,r,u (hG z (λ_ F=>T F) n)⟩) (λx y e=>by cases(Z x).symm.trans e)
  (λn ih=>kX.of (C:=k0 E (kT l) ((g,⟨ps,r,u (hG z (λ_ F=>T F) n)⟩)::kM A) (hF I) (hF J) (uF U)) (Hh (DO l) ⟨ih,I4 A⟩) 200 λx y e=>(h _ x).trans e) n⟩
end
end Go.As
end
