/- A part of the proof. -/
import Derived.Test.YtohdkalmpfmcmaaGreatDoorA1
import Derived.Laws.MakeOwn
import Derived.Deep.AppendSrc
import Derived.Lib.MinMax
set_option linter.all false
open Array renaming getD_eq_getD_getElem?->ka,getElem?_setIfInBounds->agW,getElem?_toList->ve,length_toList->UN,toList_inj->Mo,toList_map->agY
open Bool renaming and_eq_true->aM,false->af,or_eq_true_iff->ag2,rec->ke,true->ag
open Go.Builtin renaming append_->mi,cap_->ag7,clear_->UP,firstCells->UQ,len_->Mq,nextslicecap->Mr,zeroCells->kf
open Go.Instr renaming buildSlice->Mv,checkKey->Mw,extract->UW,fieldAt->UX,fill->BC,findKey->ahf,findNow->ym,index->UY,indexAt->BD,keyThatStays->ahg,lookup->UZ,makeInterface->U0,makeMap->ahh,mapUpdate->U1,sameBits->U2,sameNow->ahi,sliceAt->F6,sliceBound->U3,sliceBounds->yo,sureAddr->U4
open Go.IntKind renaming i64->U6
open Go.Obj renaming isCells->yp
open Go.Op renaming eqGuardIn->Vb,equal->BF,operands->bw
open Go.Program renaming built->aho,cellsOf->ahp
open Go.Question renaming forced->ahq
open Go.Result renaming andThen_ok->tj
open Go.Sem renaming run->MA,run_bind->kg
open Go.Src renaming ofSlice->MB
open Go.Value.pointer renaming injEq->awT
open Go.Value.slice renaming injEq->awU
open Go.World renaming block_lt_of_cell?->yr
open Int renaming ofNat->aE
open List renaming append_nil->np,eq_nil_of_length_eq_zero->tm,flatten_append->vq,getElem?_append_left->gP,getElem?_append_right->jE,getElem?_eq_getElem->gD,getElem?_eq_some_iff->e7,getElem?_map->pb,getElem?_take->pc,length_append->dH,length_nil->yB,length_replicate->jj,length_take->gi,mem_cons->du,mem_of_getElem?->jG,replicate->bP,take_append_of_le_length->ah3,take_take->ah4
open Nat renaming add_mul->ns,add_zero->qi,beq->al,blt->cQ,div->nu,eq_zero_or_pos->yE,le_of_ble_eq_true->jl,le_of_lt->dj,le_refl->aL,le_trans->b8,lt_of_lt_of_le->fY,min_eq_left->nv,mod->jI,mul_le_mul_right->eA,ne_of_gt->ain,zero_add->db,zero_le->bH,zero_mul->tw
open Option renaming bind_eq_some_iff->ay,bind_some->ah,map_eq_some_iff->cE,map_some->jJ,none->ae,some->ab
open Option.some renaming inj->hH,injEq->iV
noncomputable section
namespace Go.As
open Go.RowKit (Below)
section
variable [Gh]
section
variable {P:Program} {w:World} {E:Env}
def guarded:Value->Value->Bool
 |.nilIface,.nilIface=>ag
 |.agg _,.agg _=>ag
 |_,_=>af
theorem Lm{op:BinOp}{t:TypeId}{x y:Operand}{a b:Value}(h:guarded a b=af):(eqGuard op t x y a b).run P w=.ok () w:=by
 cases a<;>cases b<;>first|(cases h;done)|(cases op<;>rfl)
theorem au3{op:BinOp}{t:TypeId}{x y:Operand}(h:(isConst x||isConst y)=ag):(eqGuard op t x y .nilIface .nilIface).run P w=.ok () w:=by
 cases x<;>cases y<;>simp[isConst]at h<;>cases op<;>rfl
theorem au2(d:Nat){t:TypeId}{A:Array (String×TypeId)}(h:P.underlying t=ab (.interface A))(hm:A.isEmpty=ag):(Vb (d+1) t .nilIface .nilIface).run P w=.ok af w:=by
 simp only[Vb,kg,run_underlying h];simp[hm]
theorem au4{op:BinOp}{t:TypeId}{x y:Operand}{A:Array (String×TypeId)}(h:P.underlying t=ab (.interface A))(hm:A.isEmpty=ag):(eqGuard op t x y .nilIface .nilIface).run P w=.ok () w:=by
 have I:(Vb Op.maxDepth t .nilIface .nilIface).run P w=.ok af w:=au2 9999 h hm;unfold eqGuard;simp_all
theorem nA.andThen{m:Sem Value}{g:Sem Unit}{v:V}(A:g.run P w=.ok () w)(h:nA P w m v):nA P w (do g;m) v:=by
 obtain⟨d,x,e,h1,h2⟩:=h;exact⟨d,x,e,by simp_all,h2⟩
def oh(k:TK)(a:Bool)(x:Value):Prop:=
 match k with
 |.ifc _=>(x=.nilIface/\a=ag)∨(∃t y,x=.iface t y/\a=af)
 |_=>False
theorem acq{X:Cx}{k:TK}{x:V}{a:Bool}(h:qP k x=ab a){A:Value}(r:aq X x ag [A]):oh k a A:=by
 unfold qP at h;split at h<;>cases h
 .cases r;exact .inl ⟨rfl,rfl⟩
 .obtain ⟨_,e,_⟩:=r;cases e;exact .inr ⟨_,_,rfl,rfl⟩
theorem asj(d:Nat){k:TK}{t:Nat}(A:gV P t k){a b:Bool}(I:(a||b)=ag){x y:Value}(J:oh k a x)(U:oh k b y):(Op.equalIn (d+1) t x y).run P w=.ok (a&&b) w:=by
 cases k<;>simp only[oh]at J U
 case ifc=>
  obtain⟨_,A,_⟩:=A
  rcases J with⟨rfl,rfl⟩|⟨_,_,rfl,rfl⟩<;>rcases U with⟨rfl,rfl⟩|⟨_,_,rfl,rfl⟩<;>simp at I<;>simp[Op.equalIn,run_underlying A]
theorem asi{k:TK}{t:Nat}(I:gV P t k){a b:Bool}(A:(a||b)=ag){x y:Value}(J:oh k a x)(U:oh k b y):(BF t x y).run P w=.ok (a&&b) w:=
 asj 9999 I A J U
def sc:Value->Bool
 |.nilIface|.iface _ _|.agg _|.bool _=>ag
 |_=>af
theorem au5{t:TypeId}{x y:Value}(I:sc x=ag)(A:sc y=ag){b:Bool}(h:(BF t x y).run P w=.ok b w):(binOp .eql t x y).run P w=.ok (.bool b) w:=by
 cases x<;>first
  |(done)
  |(cases y<;>first
   |(cases A;done)
   |(show(do pure (.bool (<-BF t _ _)):Sem Value).run P w=_;simp_all))
theorem au6{t:TypeId}{x y:Value}(I:sc x=ag)(A:sc y=ag){b:Bool}(h:(BF t x y).run P w=.ok b w):(binOp .neq t x y).run P w=.ok (.bool (!b)) w:=by
 cases x<;>first
  |(done)
  |(cases y<;>first
   |(cases A;done)
   |(show(do pure (.bool (!(<-BF t _ _))):Sem Value).run P w=_;simp_all))
theorem oh.cmp{k:TK}{a:Bool}{x:Value}(h:oh k a x):sc x=ag/\∀cs,x≠.agg cs:=by
 cases k<;>simp only[oh]at h
 case ifc=>rcases h with⟨rfl,_⟩|⟨_,_,rfl,_⟩<;>exact⟨rfl,λ_=>by simp⟩
theorem Yn(i:EnvTy P E){X:Cx}{op:BinOp}{t:Nat}{j l:Operand}{x y:V}{b:Bool}(h:oC E t (isConst j||isConst l) x y=ab b)
  (D:∀k n,x≠.im (.int k n)) {A I:Value} (U:aq X x ag [A]) (Z:aq X y ag [I]):
  (eqGuard op t j l A I).run P w=.ok () w/\(BF t A I).run P w=.ok b w/\sc A=ag/\sc I=ag:=by
 unfold oC at h;cases m:(oH x||oH y)with
 |true=>
  rw[m]at h;simp only[ao]at h;cases e:E.ty t with
  |none=>grind
  |some ti=>
   rw[e]at h;have o:=(i.ty t ti e).kind;simp only[ah]at h;cases r:qP ti.k x with
   |none=>grind
   |some a=>
    cases s:qP ti.k y with
    |none=>grind
    |some c=>
     rw[r,s]at h;simp only[ah]at h;have h1:=acq r U;have h2:=acq s Z;have p:(a||c)=ag:=by
      rw[Bool.or_eq_true]at m|-;have lit:∀{z:V} {k:TK} {d:Bool},oH z=ag->qP k z=ab d->d=ag:=by
       intro z k d h1 h2;unfold qP at h2;grind[oH]
      grind
     have J:=asi (w:=w) o p h1 h2;cases f:(a&&c)with
     |false=>
      rw[f]at h J;cases h;refine⟨Lm ?_,J,h1.cmp.1,h2.cmp.1⟩;cases A<;>cases I<;>first|rfl|(exact absurd rfl (h1.cmp.2 _))|skip
      exfalso;have t1:a=ag:=by
       revert h1;cases ti.k<;>simp[oh]
      have t2:c=ag:=by
       revert h2;cases ti.k<;>simp[oh]
      grind
     |true=>
      rw[f]at h J;simp only[ao]at h;obtain⟨u,h⟩:=aU h;cases h;refine⟨?_,J,h1.cmp.1,h2.cmp.1⟩;cases v:guarded A I with
      |false=>exact Lm v
      |true=>
       cases A<;>cases I<;>first|(cases v;done)|(exact absurd rfl (h1.cmp.2 _))|skip
       cases g:ti.k with
       |ifc nm=>
        rw[g]at u o;obtain⟨L,F,G⟩:=o;cases nm with
        |true=>exact au3 u
        |false=>exact au4 F (by grind)
       |_=>simp_all[g,oh]
 |false=>
  rw[m]at h;simp only[au]at h;split at h
  .rename_i a c;obtain⟨H,h⟩:=aU h;simp only[aq]at U Z;have he:=Ym (w:=w) i h (by decide:12<=10000) U Z
   have q:=Yj i H (dj i.depth);suffices C:(eqGuard op t j l A I).run P w=.ok () w/\sc A=ag/\sc I=ag from⟨C.1,he,C.2⟩;simp only[hZ]at h;cases e:E.ty t with
   |none=>rw[e]at h;cases h
   |some ti=>
    rw[e]at h;simp only[ah]at h;replace h:=(aU h).2;split at h
    .simp only[aR]at U Z;cases U;cases Z;exact⟨Lm rfl,rfl,rfl⟩
    .exact absurd rfl (D _ _)
    .simp only[aR]at U Z;obtain⟨M,N,ex,_⟩:=U;obtain⟨Q,R,K,_⟩:=Z;cases ex;cases K;exact⟨run_eqGuard_agg _ _ _ _ _ _ _ q,rfl,rfl⟩
    .cases h
  trivial
theorem aly(c:EnvTy P E){X:Cx}{op:BinOp}{t:Nat}{A I:Operand}{x y v:V}(h:oB E op t (isConst A||isConst I) x y=ab v)
  (d:∀k n,x≠.im (.int k n)) {J U:Value} (e:aq X x ag [J]) (f:aq X y ag [U]):
  nA P w (do eqGuard op t A I J U;binOp op t J U) v:=by
 unfold oB at h;split at h
 .cases he:oC E t (isConst A||isConst I) x y with
  |none=>grind
  |some b=>
   rw[he]at h;cases h;obtain⟨h1,h2,Z,a⟩:=Yn (w:=w) (op:=.eql) c he d e f;exact .andThen h1 ⟨_,_,rfl,au5 Z a h2,λC=>by rfl⟩
 .cases he:oC E t (isConst A||isConst I) x y with
  |none=>grind
  |some b=>
   rw[he]at h;cases h;obtain⟨h1,h2,Z,a⟩:=Yn (w:=w) (op:=.neq) c he d e f;exact .andThen h1 ⟨_,_,rfl,au6 Z a h2,λC=>by rfl⟩
 trivial
theorem ajF(b:EnvTy P E){X:Cx}{op:BinOp}{t:Nat}{J U:Operand}{x y v:V}(h:jP E op t (isConst J||isConst U) x y=ab v){A I:Value}(Z:aq X x ag [A])(a:aq X y ag [I]):
  nA P w (do eqGuard op t J U A I;binOp op t A I) v:=by
 unfold jP at h;split at h
 .split at h
  .obtain ⟨c,d⟩:=Z;obtain⟨f,g⟩:=a;cases c;cases f;exact .andThen (Lm rfl) (anD h d t)
  trivial
 .rename_i h1;exact aly b h (λk n e=>h1 k n e) Z a
end
section
variable {P:Program} {B:Nat} {X:Cx} {O:Nat->Addr->Prop} {w:World} {h:Heap} {E:Env}
theorem aR.single{C:IV}{d:D}{ws:List Value}(h:aR C d ag ws):∃y,ws=[y]:=by
 cases d<;>simp[aR]at h;all_goals grind
theorem aq.single{X:Cx}{v:V}{ws:List Value}(h:aq X v ag ws):∃y,ws=[y]:=by
 cases v<;>simp[aq]at h;case undef=>exact List.length_eq_one_iff.1 h
 case im=>exact h.single
 all_goals grind
theorem dK.ad2(A:HR B X O w h){m:Sem Value}{v:V}(hp:nA P w m v):dK P B X O w h m v h:=by
 obtain⟨d,x,e,h1,h2⟩:=hp;subst e;exact .same A h1 (by simp[aq,h2])
theorem afh k n:(asIntOf (.int k n)).run P w=.ok (k,n) w:=rfl
theorem atp(A:HR B X O w h){c a b v:V}{h':Heap}(e:oU h c a b=ab (v,h')){I J U:Value}(Z:aq X c ag [I])(d:aq X a ag [J])(f:aq X b ag [U]):
  dK P B X O w h (do pure (if<-asBool I then J else U)) v h':=by
 unfold oU at e;split at e
 .rename_i t;cases Z;cases t<;>simp only[ao,au]at e<;>cases e
  .exact .same A rfl f
  .exact .same A rfl d
 trivial
theorem alJ(c:HR B X O w h){x v:V}{i:Nat}(e:x.part i=ab v){b:Value}(r:aq X x ag [b]):dK P B X O w h (UW b i) v h:=by
 have key:∀{l:List V} {I:Array _} {A:List _},bM X l ag A->I.toList=A.flatten->l[i]? =ab v->dK P B X O w h (UW (.tuple I) i) v h:=by
  intro l I A Z f hi;have J:∀{l:List V} {A:List _} {i:Nat},bM X l ag A->∀{v:V},l[i]? =ab v->∃y,A.flatten[i]? =ab y/\aq X v ag [y]:=by
   intro l;induction l with
   |nil=>simp
   |cons u l ih=>
    intro A i Z v g;obtain⟨ws,r,U,h1,h2⟩:=Z;obtain⟨y,j⟩:=aq.single h1;grind
  obtain⟨y,k,d⟩:=J Z hi;refine .same c (x:=y) ?_ d;have:I[i]? =ab y:=by grind
  simp[UW,this]
 unfold V.part at e;split at e
 .obtain ⟨I,A,U,h2,a⟩:=r;cases U;rw[cu]at e;refine key (y5.2 h2) a ?_;grind
 .obtain ⟨I,A,U,h2,a⟩:=r;cases U;rw[cu]at e;exact key h2 a e
 trivial
theorem anp(a:EnvTy P E)(U:HR B X O w h){t:Nat}{x v:V}{h':Heap}(e:Fw E h t x=ab (v,h')){I:Value}(r:aq X x ag [I]):dK P B X O w h (U0 t I) v h':=by
 unfold Fw Env.kind at e;cases b:E.ty t with
 |none=>grind
 |some ti=>
  have Z:=(a.ty t ti b).kind;have hi:(∀nm,ti.k≠.ifc nm)->(U0 t I).run P w=.ok (.iface t I) w:=by
   unfold U0;have:∃d,P.underlying t=ab d/\∀c,d≠.interface c:=by
    cases J:ti.k<;>rw[J]at Z<;>simp[gV]at Z;all_goals grind
   obtain⟨d,f,g⟩:=this;simp[kg,run_underlying,f,tj]
  split at e
  .cases e
  .have A:∀nm,ti.k≠.ifc nm:=λnm i=>by grind
   split at e
   .cases e;exact .same U (hi A) (by grind[aq,aR])
   .cases e
   .cases e;exact .same U (hi A) (by grind[aq])
  trivial
theorem ash{x v:V}{h':Heap}(e:Fz h x=ab (v,h')){A:Value}(r:aq X x ag [A]):
  v=x/\h'=h/\∃a,A=.pointer (ab a):=by
 unfold Fz at e;split at e
 .obtain ⟨y,I,⟨a,J⟩,_⟩:=r;grind
 all_goals grind[aq,aR]
end
section
variable {P:Program} {B:Nat} {X:Cx} {O:Nat->Addr->Prop} {w:World} {h:Heap} {E:Env}
theorem alS{t:Nat}{fs:List (Nat×Nat×Nat)}(J:gV P t (.st fs)){k:Nat}{f:Nat×Nat×Nat}(hf:fs[k]? =ab f):
  ∃(A:Array Field) (g:Field),P.underlying t=ab (.struct A)/\A[k]? =ab g/\g.offset=f.1/\P.cellsOf g.type=f.2.1/\g.type=f.2.2/\∃i,P.info? g.type=ab i:=by
 obtain⟨A,U,hm,Z,_⟩:=J;subst hm;rw[pb]at hf;cases I:A.toList[k]? with
 |none=>grind
 |some g=>
  rw[I]at hf;simp at hf;subst hf;refine⟨A,g,U,by grind,rfl,rfl,rfl,(Z g (jG I)).2⟩
theorem afj{t:Nat}{A:Array Field}(J:P.underlying t=ab (.struct A)){k:Nat}{g:Field}(U:A[k]? =ab g){i:TypeInfo}(hi:P.info? g.type=ab i)(Z:P.cellsOf g.type≠0)(a:Addr):
  (UX t (.pointer (ab a)) k).run P w=.ok (.pointer (ab (a.add g.offset))) w:=by
 have I:i.size≠0:=by simp_all[ahp,hi]
 simp[UX,run_underlying J,U,U4,fieldPlace,Go.sizeOf,typeInfo,hi,I]
theorem alR(D:EnvTy P E)(l:HR B X O w h){t k:Nat}{x v:V}{h':Heap}(e:A6 E h t x k=ab (v,h')){m:Value}(r:aq X x ag [m]):dK P B X O w h (UX t m k) v h':=by
 unfold A6 at e;cases n:E.ty t with
 |none=>grind
 |some ti=>
  rw[n]at e;have o:=(D.ty t ti n).kind;simp only[ah]at e;split at e
  .rename_i fs J;rw[J]at o;rw[cu]at e;cases hf:fs[k]? with
   |none=>grind
   |some f=>
    rw[hf]at e;simp at e;obtain⟨I,g,p,q,h1,h2,N,i,hi⟩:=alS o hf;cases F:al f.2.1 0 with
    |true=>grind
    |false=>
     rw[F]at e;have A:P.cellsOf g.type≠0:=by
      intro Q;simp_all
     split at e
     .cases e;obtain⟨y,G,⟨a,U⟩,bi,H,Z,K⟩:=r;cases G;subst U;refine .same l (afj p q hi A a) ?_;refine⟨_,rfl,⟨_,rfl⟩,bi,H,Z,λL=>?_⟩
      obtain⟨R,s,b,u⟩:=K L;simp_all[Addr.add_add,b,h1,ju]
     .rename_i d;cases z:V.eF (.im d) k f.1 with
      |none=>grind
      |some c=>
       rw[z]at e;split at e
       .rename_i d' j;cases j;obtain⟨hw,e⟩:=aU e;cases e;obtain⟨a,ws,U,C,rd,M⟩:=r;cases U;obtain⟨cs,pre,post,s,b,u⟩:=Ji (X:=X) (ws:=ws) z (by trivial)
        refine .same l (afj p q hi A a) ?_;refine⟨_,cs,rfl,Addr.iI _ _ C,u,?_⟩;rw[h1,<-b];exact Ck a C (by rw[<-s];omega)
       trivial
     trivial
  trivial
theorem V.ard{v c:V}{k o:Nat}(h:v.eF k o=ab c):v.isAgg=ag:=by
 unfold V.eF at h;split at h
 all_goals trivial
theorem afk{t el n:Nat}(A:P.underlying t=ab (.array n el)){te:TI}(he:iG P el te)(a:Addr)(k:IntKind){i:Int}(I:0<=i)(h1:i< n):
  (BD t (.pointer (ab a)) (.int k i)).run P w=.ok (.pointer (ab (a.add (i.toNat*te.size)))) w:=by
 simp[BD,asIntOf,run_underlying A,U4,I,h1,run_sizeOf he]
theorem afl{t el n cap:Nat}(A:P.underlying t=ab (.slice el)){te:TI}(he:iG P el te)(a:Addr)(k:IntKind){i:Int}(I:0<=i)(h1:i< n):
  (BD t (.slice (ab a) n cap) (.int k i)).run P w=.ok (.pointer (ab (a.add (i.toNat*te.size)))) w:=by
 simp[BD,asIntOf,run_underlying A,I,h1,run_sizeOf he]
theorem Qk{n:Int}{m:Nat}(A:ai 0 n=ag)(h1:ak n (aE m)=ag):0<=n/\n< m/\n.toNat< m:=by
 simp_all[gX,decide_eq_true_iff,oF]
theorem bI.at{C:IV}{l:List D}{aX:List (List Value)}(h:bI C l af aX){i:Nat}{d:D}(A:l[i]? =ab d):∃ws,aX[i]? =ab ws/\aR C d af ws:=(cz.1 h).get A
theorem aR.wd{C:IV}{d:D}{ws:List Value}(h:aR C d af ws):ws.length=d.wd:=aq.wd (X:=⟨C,λ_=>ae,λ_=>ae⟩) (v:=.im d) (by trivial)
theorem Yd(j:EnvTy P E)(m:HR B X O w h){t el:Nat}(o:P.underlying t=ab (.slice el)){l:List D}{n:Int}{k:IntKind}{v:V}{h':Heap}(e:oz E h el l n=ab (v,h'))
  {a:Option Addr} {len cap:Nat} (u:len=l.length) (f:len=0∨∃I A s,a=ab I/\I.spot=ae/\bI X.C l af A/\(∀ws∈A,ws.length=s)/\cK X.C I A.flatten):
  dK P B X O w h (BD t (.slice a len cap) (.int k n)) v h':=by
 unfold oz at e;cases hte:E.ty el with
 |none=>grind
 |some te=>
  rw[hte]at e;obtain⟨g,e⟩:=aU e;rw[cu]at e;cases Z:l[n.toNat]? with
  |none=>grind
  |some d=>
   rw[Z]at e;obtain⟨hw,e⟩:=aU e;cases e;have hw:=dU hw;have p:=(e7.1 Z).1;rw[gX,decide_eq_true_iff]at g;rcases f with f|⟨I,A,s,q,i,r,J,b⟩
   .omega
   .subst q;obtain⟨ws,U,rd⟩:=r.at Z;have c:s=te.size:=by rw[<-J ws (jG U),rd.wd,hw]
    subst c;refine .same m (afl o (j.ty _ _ hte) I k g (by omega)) ?_
    exact⟨_,ws,rfl,Addr.iI _ _ i,rd,cK.row i J b U⟩
theorem anw(z:EnvTy P E)(i:HR B X O w h){t:Nat}{x Y v:V}{h':Heap}(e:pX E h t x Y=ab (v,h')){vx vi:Value}(r:aq X x ag [vx])(ri:aq X Y ag [vi]):
  dK P B X O w h (BD t vx vi) v h':=by
 unfold pX at e;split at e
 .rename_i k n;simp only[aq,aR]at ri;obtain⟨ei,_⟩:=ri;cases ei;cases ht:E.ty t with
  |none=>grind
  |some ti=>
   rw[ht]at e;have I:=(z.ty t ti ht).kind;simp only[ah]at e;split at e
   .rename_i el j;rw[j]at I;simp only[gV]at I;split at e
    .rename_i b g off len aP;cases hte:E.ty el with
     |none=>grind
     |some te=>
      rw[hte]at e;simp only[ah]at e;obtain⟨A,e⟩:=aU e;cases e;simp only[aM]at A;obtain⟨H,h1,h2⟩:=Qk A.1 A.2.1;simp only[aq]at r;obtain⟨y,C,⟨a,cap,J,hle,hmx,U⟩,bi,D,o,L⟩:=r;cases C;subst J;rcases U with U|⟨a1,U⟩
      .omega
      .subst U;refine .same i (afl I (z.ty _ _ hte) a1 k H h1) ?_;simp only[aq];refine⟨_,rfl,⟨_,rfl⟩,bi,D,o,λM=>?_⟩
       obtain⟨a',CD,f,_,_,Y7,_,p⟩:=L M;simp only[awU]at f;obtain⟨f,_,N⟩:=f;subst N;rcases p with p|⟨Q,q,e4,e5⟩
       .omega
       .rw [<-f]at e5;cases e5;refine⟨Q,q,e4,?_⟩;have K:off*bi.s=off*te.size:=by
         rcases ag2.1 A.2.2 with F|F
         .simp_all
         .unfold rh at F;split at F
          .rename_i g' s ro l R;obtain⟨bj,G,q2,q3,q4,q5,Z⟩:=i.dO b _ R;rw[D]at G;cases G;rcases Z with Z|⟨Z,_⟩
           .omega
           .rw [Z,dU F]
          .rename_i g' s l R;obtain⟨bj,G,q2,q3,q4,q5,Z⟩:=i.dO b _ R;rw[D]at G;cases G;rcases Z with Z|⟨Z,_⟩
           .omega
           .rw [Z,dU F]
          trivial
        simp[Addr.add_add,e4,K,ju,ns]
    .simp only[aq,aR]at r;obtain⟨a,m,cap,J,S,_,_,A⟩:=r;cases J;exact Yd z i I e S A
    .simp only[aq]at r;obtain⟨y,C,a,m,J,S,_,A⟩:=r;cases C;subst J;exact Yd z i I e S A
    trivial
   .rename_i m el j;rw[j]at I;simp only[gV]at I;cases hte:E.ty el with
    |none=>rw[hte]at e;cases e
    |some te=>
     rw[hte]at e;simp only[ah]at e;replace e:=aU e;obtain⟨A,e⟩:=e;simp only[aM]at A;obtain⟨H,h1,h2⟩:=Qk A.1 A.2.1;split at e
     .cases e;simp only[aq]at r;obtain⟨y,C,⟨a,J⟩,bi,D,o,L⟩:=r;cases C;subst J;refine .same i (afk I (z.ty _ _ hte) a k H h1) ?_;simp only[aq];refine⟨_,rfl,⟨_,rfl⟩,bi,D,o,λM=>?_⟩
      obtain⟨Q,f,p,q⟩:=L M;refine⟨Q,f,p,?_⟩;simp only[awT,iV]at q|-;subst q;rw[Addr.add_add _ _ _ p];congr 1;simp[ju]
     .rename_i d;cases u:V.eF (.im d) n.toNat (n.toNat*te.size)with
      |none=>rw[u]at e;cases e
      |some c=>
       rw[u]at e;split at e
       .rename_i d' T;cases T;obtain⟨hw,e⟩:=aU e;cases e;simp only[aq,aR]at r;obtain⟨a,ws,J,K,rd,W⟩:=r;cases J;obtain⟨cs,pre,post,f,p,q⟩:=Ji (X:=X) (ws:=ws) u (by simpa only[aq]using rd)
        refine .same i (afk I (z.ty _ _ hte) a k H h1) ?_;simp only[aq,aR]at q|-;refine⟨_,cs,rfl,Addr.iI _ _ K,q,?_⟩;rw[<-p];exact Ck a K (by rw[<-f];exact W)
       .cases e
     .cases e
   trivial
 trivial
theorem anz(d:EnvTy P E)(j:HR B X O w h){t:Nat}{x l v:V}{h':Heap}(e:A7 E h t x l=ab (v,h')){o p:Value}(r:aq X x ag [o])(C:aq X l ag [p]):
  dK P B X O w h (UY t o p) v h':=by
 unfold A7 at e;split at e
 .rename_i k n;obtain⟨D,_⟩:=C;cases D;split at e
  .rename_i s;cases U:E.ty t with
   |none=>grind
   |some ti=>
    rw[U]at e;have Z:=(d.ty t ti U).kind;simp only[ah]at e;split at e
    .rename_i I;rw[I]at Z;obtain⟨b,e⟩:=aU e;rw[gX,decide_eq_true_iff]at b;rw[cu]at e;cases A:s[n.toNat]? with
     |none=>grind
     |some c=>
      rw[A]at e;cases e;obtain⟨q,F,G,_⟩:=r;cases F;subst G;unfold CC at A;rw[pb]at A;cases z:q.data.toList[n.toNat]? with
      |none=>grind
      |some u=>
       rw[z]at A;simp at A;subst A;have f:q[n.toNat]? =ab u:=by
        rw[ve]at z;trivial
       refine .same j (x:=.int .u8 u.toNat) ?_ ?_
       .simp only[UY,kg,afh,run_underlying Z,tj,b,if_true,f];rfl
       .refine ⟨rfl,?_⟩;have:=u.toNat_lt;constructor
        .show (0:Int)<=(u.toNat:Int);omega
        .show (u.toNat:Int)<=255;omega
    trivial
  .cases U:E.ty t with
   |none=>grind
   |some ti=>
    rw[U]at e;have Z:=(d.ty t ti U).kind;simp only[ah]at e;split at e
    .rename_i m el I;rw[I]at Z;cases hte:E.ty el with
     |none=>grind
     |some te=>
      rw[hte]at e;obtain⟨A,e⟩:=aU e;simp only[aM]at A;obtain⟨b,h1,h2⟩:=Qk A.1 A.2;cases J:x.eF n.toNat (n.toNat*te.size)with
      |none=>grind
      |some c=>
       rw[J]at e;obtain⟨H,e⟩:=aU e;cases e;have a:=d.ty _ _ hte;obtain⟨cs,g,i⟩:=(aq.Co (V.ard J)).1 r;cases g;obtain⟨ws,pre,post,K,L,M⟩:=Ji J i;obtain⟨y,N,Q⟩:=TD (P:=P) (w:=w) a H K M L;refine .same j (x:=y) ?_ Q;simp only[UY,kg,afh,run_underlying Z,tj,b,h1,and_self,if_true,run_sizeOf a,N]
    trivial
 trivial
end
section
variable {P:Program} {B:Nat} {X:Cx} {O:Nat->Addr->Prop} {w:World} {h:Heap} {E:Env}
def oi(X:Cx):Option V->Option Value->Prop
 |none,ae=>True
 |some a,ab b=>aq X a ag [b]
 |_,_=>False
theorem zh{X:Cx}{y:Nat}{x:V}{d k:Nat}(e:bound y (ab x) d=ab k){v:Value}(r:aq X x ag [v])(c:BoundsCode):k<=y/\(U3 v y c).run P w=.ok k w:=by
 unfold bound at e;split at e
 .trivial
 .rename_i J;cases J;obtain⟨I,e⟩:=aU e;rw[aM,gX,gX,decide_eq_true_iff,decide_eq_true_iff]at I;cases e;obtain⟨ev,_⟩:=r;cases ev;obtain⟨U,h1⟩:=I;have A:_<=(y:Int):=h1;simp[U3,asIntOf,U,A]
 trivial
theorem WK{y A d d' k:Nat}{x:V}(e:bound y (ab x) d=ab k)(U:y<=A):bound A (ab x) d'=ab k:=by
 unfold bound at e|-;split at e
 .trivial
 .rename_i Z I a;obtain⟨J,e⟩:=aU e;rw[aM,gX,gX,decide_eq_true_iff]at J;have:(ai 0 I&&ai I (aE A))=ag:=by
   rw[aM,gX,gX,decide_eq_true_iff];grind
  grind
 omega
theorem ajV(y d:Nat):bound y ae d=ab d:=rfl
theorem Hb{X:Cx}{wR:Bool}{len cap:Nat}(J:len<=cap){lo hi mx:Option V}{i j m:Nat}(e:bounds len lo hi mx=ab (i,j,m)){I U Z:Option Value}
  (o:oi X lo I) (d:oi X hi U) (l:oi X mx Z):
  i<=j/\j<=m/\m<=len/\(mx=ae->m=len)/\Z.isSome=mx.isSome/\(yo wR len cap I U Z).run P w=.ok (i,j,if mx.isSome then m else cap) w:=by
 obtain⟨q,hm,e⟩:=ay.1 e;obtain⟨f,a,e⟩:=ay.1 e;cases g:bound f lo 0 with
 |none=>grind
 |some k=>
 rw[g]at e;simp at e;obtain⟨rfl,rfl,rfl⟩:=e;have A:∀c,k<=f/\(I=ae/\k=0∨∃v,I=ab v/\(U3 v f c).run P w=.ok k w):=by
  intro c;cases lo with
  |none=>
   cases I with
   |some _=>trivial
   |none=>rw[ajV]at g;grind
  |some x=>
   cases I
   .trivial
   obtain⟨h1,h2⟩:=zh (P:=P) (w:=w) g o c;grind
 cases mx with
 |none=>
  cases Z with
  |some _=>trivial
  |none=>
  cases hm;cases hi with
  |none=>
   cases U with
   |some _=>trivial
   |none=>
   cases a;refine⟨(A .sliceB).1,aL _,aL _,λ_=>rfl,rfl,?_⟩
   rcases(A .sliceB).2 with⟨rfl,rfl⟩|⟨v,rfl,b⟩
   .rfl
   simp[yo,b]
  |some x=>
   cases U
   .trivial
   rename_i v;refine⟨(A .sliceB).1,(zh (P:=P) (w:=w) a d .sliceB).1,aL _,λ_=>rfl,rfl,?_⟩
   have h2:=(zh (P:=P) (w:=w) (WK (d':=0) a J) d (if wR then .sliceAcap else .sliceAlen)).2;rcases(A .sliceB).2 with⟨rfl,rfl⟩|⟨v,rfl,b⟩
   .simp [yo,h2]
   simp[yo,h2,b]
 |some z=>
  cases Z with
  |none=>trivial
  |some r=>
  have n:=(zh (P:=P) (w:=w) (WK (d':=0) hm J) l (if wR then .slice3Acap else .slice3Alen)).2;cases hi with
  |none=>cases a
  |some x=>
   cases U
   .trivial
   rename_i v;obtain⟨p,h2⟩:=zh (P:=P) (w:=w) a d .slice3B;refine⟨(A .slice3C).1,p,(zh (P:=P) (w:=w) hm l .slice3B).1,(λh=>by cases h),rfl,?_⟩
   rcases(A .slice3C).2 with⟨rfl,rfl⟩|⟨v,rfl,b⟩
   .simp [yo,h2,n]
   simp[yo,h2,n,b]
theorem akV{α:Type}(l:List α)(i j:Nat):cut l i j=(l.drop i).take (j-i):=rfl
theorem Hs{α:Type}{l:List α}{i j:Nat}(A:i<=j)(I:j<=l.length):(cut l i j).length=j-i:=by
 grind[akV,gi,List.length_drop]
theorem C6{C:IV}{sz s:Nat}{l:List D}{A:List (List Value)}(h:js sz l=ag)(I:bI C l af A)(J:∀ws∈A,ws.length=s)(U:l≠[]):s=sz:=by
 cases l
 .trivial
 rename_i d l;obtain⟨ws,r,e,h1,_⟩:=I;subst e;rw[<-dU h,<-h1.wd,J ws (by simp)]
theorem Ht{C:IV}{a:Option Addr}{n sz i j m':Nat}{l:List D}(d:n=l.length)(hf:js sz l=ag)(b:i<=j)(f:j<=n)(g:j<=m')
  (h:n=0∨∃I A s,a=ab I/\I.spot=ae/\bI C l af A/\(∀ws∈A,ws.length=s)/\cK C I A.flatten):
  j-i=0∨∃I A s,(if m'=i then a else a.map (·.add (i*sz)))=ab I/\I.spot=ae/\bI C (cut l i j) af A/\(∀ws∈A,ws.length=s)/\cK C I A.flatten:=by
 by_cases k:j-i=0<;>try grind
 rcases h with h|⟨I,A,s,e,U,Z,he,J⟩
 .omega
 have c:=C6 hf Z he (by grind)
 refine .inr ⟨I.add (i*s),(A.drop i).take (j-i),s,?_,Addr.iI _ _ U,?_,λws hw=>he ws (List.mem_of_mem_drop (List.mem_of_mem_take hw)),?_⟩
 .grind
 .exact cz.2 (((cz.1 Z).drop i).take (j-i))
 rw[bl.ll (bl.drop he i),bl.ug he];exact(cK.drop U J _).take _
theorem TE{t el:Nat}(Z:P.underlying t=ab (.slice el)){te:TI}(he:iG P el te){a:Option Addr}{len cap l A m:Nat}{I J U:Option Value}
  (b:(yo ag len cap I J U).run P w=.ok (l,A,m) w):
  (F6 t (.slice a len cap) I J U).run P w=.ok (.slice (if m=l then a else a.map (·.add (l*te.size))) (A-l) (m-l)) w:=by
 simp[F6,run_underlying Z,Instr.slice,b,run_sizeOf he]
theorem ajQ(A:HR B X O w h){b g s ro:Nat}{l:List D}(I:ar h b=ab (.arr g s ro l)):∃bi,X.M b=ab bi/\bi.g=g/\(bi.cap=0∨bi.s=s)/\l.length<=bi.cap:=by
 obtain⟨bi,h1,h2,J,U,Z,a⟩:=A.dO b _ I;grind
theorem avA(l:HR B X O w h){t el:Nat}(C:P.underlying t=ab (.slice el)){te:TI}(hte:iG P el te){b g off len:Nat}{aP:Bool}{v:V}{lo hi mx:Option V}{n:Value}{o p q:Option Value}
  (r:ph X b g off len aP n) (D:oi X lo o) (F:oi X hi p) (G:oi X mx q) {bi:BI} (u:X.M b=ab bi) (H:g=bi.g) (hs:bi.cap=0∨bi.s=te.size∨len=0)
  (e:sS b g off len aP lo hi mx=ab v):dK P B X O w h (F6 t n o p q) v h:=by
 obtain⟨⟨a,cap,K,c,L,N⟩,bj,Z,d,Q⟩:=r;rw[u]at Z;cases Z;subst K;obtain⟨a',x,R,e2,e3,e4,e5,y⟩:=Q H;cases R;obtain⟨⟨i,j,m⟩,S,e⟩:=ay.1 e;obtain⟨q1,q2,q3,q4,q5,T⟩:=Hb (P:=P) (w:=w) (wR:=true) c S D F G;have J:=TE (a:=a) C hte T;have key:∀(I:Nat) (f:Bool),j<=I->I<=cap->(f=ag->I=j)->
   aq X (.own b g (off+i) (j-i) f) ag [.slice (if I=i then a else a.map (·.add (i*te.size))) (j-i) (I-i)]:=by
  intro I f h1 h2 W;have A:I-i=0∨∃U,bi.base=ab U/\U.spot=ae/\(if I=i then a else a.map (·.add (i*te.size)))=ab (U.add ((off+i)*bi.s)):=by
   by_cases hz:I-i=0<;>try grind
   rcases y with y|⟨U,k1,k2,Y⟩
   .omega
   refine .inr ⟨U,k1,k2,?_⟩;rw[Y]
   simp;rw[Addr.add_add _ _ _ k2];grind
  refine⟨_,rfl,⟨_,_,rfl,by omega,by omega,A.imp id (λ⟨U,_,_,k⟩=>⟨_,k⟩)⟩,bi,u,d,λ_=>⟨_,_,rfl,by omega,by omega,by omega,λhl=>by rw[W hl],A⟩⟩
 cases mx with
 |none=>
  cases e;refine .same l J (key cap _ (by omega) (aL _) ?_)
  simp_all
 |some z=>
  obtain⟨hj,e⟩:=aU e;cases e;refine .same l J (key m _ (by omega) (by omega) (λ_=>(dU hj).symm))
theorem avC(M:EnvTy P E)(C:HR B X O w h){t:Nat}{x v:V}{lo hi mx:Option V}(e:xY E t h x lo hi mx=ab v){vx:Value}{vl vh vm:Option Value}
  (r:aq X x ag [vx]) (D:oi X lo vl) (F:oi X hi vh) (G:oi X mx vm):dK P B X O w h (F6 t vx vl vh vm) v h:=by
 unfold xY at e;cases ht:E.ty t with
 |none=>grind
 |some ti=>
 rw[ht]at e;have f:=(M.ty t ti ht).kind;simp only[ah]at e;split at e
 .rename_i m el k;rw[k]at f;simp only[gV]at f;cases hte:E.ty el with
  |none=>grind
  |some te=>
  rw[hte]at e;simp only[ah]at e;have Z:=M.ty _ _ hte;unfold TQ at e;split at e
  .rename_i w' l;obtain⟨J,e⟩:=aU e;cases e;rw[aM,aM]at J;have hm:=dU J.1;have Iz:=jl J.2.1;have hw:∀d∈l,d.wd=te.size:=λd hd=>Nat.eq_of_beq_eq_true (List.all_eq_true.1 J.2.2 d hd)
   rw[bz]at hm;simp only[aq,aR]at r;obtain⟨a,ws,H,hs,⟨N,ew,Q,_⟩,c⟩:=r;cases H;have I:∀(o:Option V) (u:Option Value),o=ae->oi X o u->u=ae:=λo u eo hh=>by
    subst eo;cases u with
    |none=>rfl
    |some _=>trivial
   have e1:=I _ _ rfl D;have e2:=I _ _ rfl F;have e3:=I _ _ rfl G;subst e1;subst e2;subst e3;have R:bounds m ae ae ae=ab (0,m,m):=by
    rfl
   obtain⟨_,_,_,_,_,K⟩:=Hb (P:=P) (w:=w) (wR:=false) (aL _) R D F G;refine .same C (x:=.slice (ab a) m m) ?_ ?_
   .simp [F6,run_underlying f,U4,K,run_sizeOf Z]
   simp only[aq];refine⟨_,rfl,_,_,rfl,hm.symm,by grind[fv],.inr ⟨a,N,te.size,rfl,hs,Q,λz hz=>?_,ew▸c⟩⟩
   obtain⟨i,hi,ez⟩:=List.getElem_of_mem hz;have Zx:=(cz.1 Q).len;have L:i< l.length:=by omega
   obtain⟨z',U,q2⟩:=(cz.1 Q).get (gD L);rw[gD hi,ez]at U;cases U;rw[<-hw _ (List.getElem_mem L)];exact aq.wd (v:=.im l[i]) (X:=X) (by trivial)
  trivial
 .rename_i el k;rw[k]at f;simp only[gV]at f;cases hte:E.ty el with
  |none=>grind
  |some te=>
  rw[hte]at e;simp only[ah]at e;have Z:=M.ty _ _ hte;unfold u4 at e;split at e
  .rename_i l;obtain⟨hf,e⟩:=aU e;obtain⟨⟨i,j,m⟩,J,e⟩:=ay.1 e;simp only[aq,aR]at r;obtain⟨a,n,cap,H,p,S,T,c⟩:=r;cases H;rw[bz,<-p]at J;obtain⟨U,q2,q3,q4,q5,K⟩:=Hb (P:=P) (w:=w) (wR:=true) S J D F G;have A:=TE (a:=a) f Z K;cases mx with
   |none=>
    simp only at e;cases e;refine .same C A ?_;simp only[aq,aR];refine⟨_,_,_,rfl,(Hs U (by omega)).symm,?_,by omega,Ht p hf U (by omega) (by simp;omega) c⟩
    simp;omega
   |some z=>
    simp only at e;obtain⟨hj,e⟩:=aU e;cases e;refine .same C A ?_;simp only[aq];refine⟨_,rfl,_,j-i,?_,(Hs U (by omega)).symm,by omega,Ht (m':=m) p hf U (by omega) (by omega) c⟩
    simp[dU hj]
  .rename_i l;obtain⟨hf,e⟩:=aU e;cases J:bounds (aF l) lo hi mx with
   |none=>grind
   |some b=>
   obtain⟨i,j,m⟩:=b;rw[J]at e;simp only[jJ,iV]at e;simp only[aq]at r;obtain⟨y,W,a,n,H,p,T,c⟩:=r;cases W;subst H;rw[bz,<-p]at J;obtain⟨U,q2,q3,q4,q5,K⟩:=Hb (P:=P) (w:=w) (wR:=true) (aL _) J D F G;have A:=TE (a:=a) f Z K;have hm:(if mx.isSome then m else n)=m:=by
    simp_all
   rw[hm]at A;refine .same C A ?_;cases q:al j m with
   |true=>
    rw[q]at e;simp only[ao]at e;subst e;have:=dU q;subst this;simp only[aq];exact⟨_,rfl,_,j-i,rfl,(Hs U (by omega)).symm,by omega,Ht (m':=j) p hf U (by omega) (by omega) c⟩
   |false=>
    rw[q]at e;simp only[au]at e;subst e;simp only[aq,aR];exact⟨_,_,_,rfl,(Hs U (by omega)).symm,by omega,by omega,Ht p hf U (by omega) (by omega) c⟩
  .rename_i b g off len aP;simp only[aq]at r;obtain⟨y,W,r⟩:=r;cases W;split at e
   .rename_i g' s ro l J;obtain⟨c,e⟩:=aU e;rw[aM]at c;obtain⟨k1,k2⟩:=tY c.1;obtain⟨bi,p1,p2,Y,p4⟩:=ajQ C J;refine avA C f Z r D F G p1 (by omega) ?_ e
    rcases Y with Y|Y<;>try grind
    rcases ag2.1 c.2 with h1|h1
    .simp_all
    cases l
    .grind
    cases h1
   trivial
  trivial
 trivial
end
section
variable {P:Program} {B:Nat} {X:Cx} {O:Nat->Addr->Prop} {w w':World} {h:Heap} {E:Env}
structure mA(w w':World)(cs:List Value):Prop where
 keep:eJ w w'
 size:w.heap.size< w'.heap.size
 cell:∀j v,cs[j]? =ab v->w'.cell? ⟨w.heap.size,j,ae⟩=ab v
 frozen:∀j,j< cs.length->w'.frozen? ⟨w.heap.size,j,ae⟩=af
theorem mA.alloc(w:World)(cs:Array Value)(T:Nat):mA w (w.alloc (.cells cs T)) cs.toList:=
 ⟨.alloc _ _,by simp,λj v e=>by simp_all,λj _=>World.frozen?_alloc_new _ _ _ _⟩
theorem y8(b j:Nat):(⟨b,0,ae⟩:Addr).add j=⟨b,j,ae⟩:=by grind[Addr.add]
theorem acf(f:HR B X O w h){n:Nat}(g:ar h n=ae)(J:X.M n=ae)(I:n<=h.length)(hB:Below B w w'){cs:List Value}(hw:mA w w' cs)
  {s cap:Nat} {k:cj} {len:Nat} (Z:cs.length=cap*s) (c:cap<=fv) (A:len<=cap)
  (i:∀Y:Cx,X.le h.length Y->Y.C=X.C->∀(Q:Addr->Prop) (bi:BI),Y.M n=ab bi->bi=⟨0,ab ⟨w.heap.size,0,ae⟩,s,cap,af⟩->cK w'.cell? ⟨w.heap.size,0,ae⟩ cs->fZ w' Q ⟨w.heap.size,0,ae⟩ 0 (cap*s)->BR Y w' Q n k):
  ∃X' O',HR B X' O' w' (aI h n k)/\Up B X w h.length X' w'/\aq X' (.own n 0 0 len af) ag [.slice (ab ⟨w.heap.size,0,ae⟩) len cap]/\h.length<=(aI h n k).length/\FR X O w h X' O' w' (aI h n k):=by
 let bi:BI:=⟨0,ab ⟨w.heap.size,0,ae⟩,s,cap,af⟩;let b:=λa=>∃j,j< cs.length/\a=(⟨w.heap.size,0,ae⟩:Addr).add j
 have d:cK w'.cell? ⟨w.heap.size,0,ae⟩ cs:=λj v e=>by rw[y8];exact hw.cell j v e
 refine⟨X.eg n bi,_,f.add g J I hw.keep (dj hw.size) bi b k (λa ⟨j,U,e⟩=>?_) ?_,Up.add J hB hw.keep _ bi,?_,?_,.add J I hw.keep bi b k⟩
 .simp_all[Addr.y6,aL,hw.size]
 .refine i _ (Cx.yd _ J) rfl b bi (Cx.fN _ _ _) rfl d λj _ U=>?_
  rw[<-Z]at U;exact⟨⟨j,U,rfl⟩,⟨cs[j],d j _ (by simp)⟩,by rw[y8];exact hw.frozen j U⟩
 .refine ⟨_,rfl,⟨_,_,rfl,A,by omega,.inr ⟨_,rfl⟩⟩,bi,Cx.fN _ _ _,aL _,λ_=>⟨_,_,rfl,A,by omega,?_,(λh=>by cases h),.inr ⟨_,rfl,rfl,?_⟩⟩⟩
  .grind
  .simp
 grind[b9]
theorem D7(d:HR B X O w h){n:Nat}(f:ar h n=ae)(g:X.M n=ae)(J:n<=h.length)(hB:Below B w w'){cs:List Value}(hw:mA w w' cs)
  {s cap:Nat} {l:List D} {aX:List (List Value)} {rest:List Value} (U:cs.length=cap*s) (A:cap<=fv) (I:l.length<=cap) (i:bI X.C l af aX) (Z:bl s aX) (a:cs=aX.flatten++rest):
  ∃X' O',HR B X' O' w' (aI h n (.arr 0 s 0 l))/\Up B X w h.length X' w'/\aq X' (.own n 0 0 l.length af) ag [.slice (ab ⟨w.heap.size,0,ae⟩) l.length cap]/\h.length<=(aI h n (.arr 0 s 0 l)).length/\FR X O w h X' O' w' (aI h n (.arr 0 s 0 l)):=by
 refine acf d f g J hB hw U A I λY o hC Q bi b c k m=>?_
 subst c;refine⟨_,b,rfl,rfl,⟨I,bH _⟩,A,.inr ⟨rfl,_,aX,rfl,rfl,by simp[hC,i],Z,?_,?_,?_⟩⟩
 .exact λj v e=>k j v (by grind)
 .simpa using cK.nil
 .simpa using m
theorem acj(d:HR B X O w h){n:Nat}(g:ar h n=ae)(i:X.M n=ae)(J:n<=h.length)(hB:Below B w w'){cs:List Value}(hw:mA w w' cs)
  {s cap:Nat} {l:List V} {aX:List (List Value)} {rest:List Value} (U:cs.length=cap*s) (A:cap<=fv) (I:l.length<=cap) (f:bM X l af aX) (Z:bl s aX) (a:cs=aX.flatten++rest):
  ∃X' O',HR B X' O' w' (aI h n (.cG 0 s l))/\Up B X w h.length X' w'/\aq X' (.own n 0 0 l.length af) ag [.slice (ab ⟨w.heap.size,0,ae⟩) l.length cap]/\h.length<=(aI h n (.cG 0 s l)).length/\FR X O w h X' O' w' (aI h n (.cG 0 s l)):=by
 refine acf d g i J hB hw U A I λY k hC Q bi b c m o=>?_
 subst c;refine⟨_,b,rfl,rfl,I,A,.inr ⟨rfl,_,aX,rfl,rfl,f.mono k _ _ _ (bM.low d.lt _ _ _ f),Z,?_,o⟩⟩;exact λj v e=>m j v (by grind)
theorem ai0(w:World){v:V}{d:D}(e:v.data []=ab d){C:IV}{m:Bool}{ws:List Value}(r:aq X0 v m ws):aR C d m ws:=by
 letI g:Gh:=⟨λ_ _ _=>True,λ_=>True,λ_ _=>trivial⟩
 have A:HR 0 X0 (λ_ _=>False) w []:=⟨λb k e=>by trivial,λ_ _ h=>h.elim,λ_ _ _ h=>h.elim,Cf,⟨λ_ _ e=>by trivial,trivial⟩,bH _⟩
 have I:rM X0 w [] C (λ_=>True):=⟨λ_ _ e=>by trivial,λ_ _ _ _ e=>by trivial⟩
 exact wg A I e (λ_ _=>trivial) r
theorem Ae{z:Array Value}{s:Nat}(I:z.size=s):∀n:Nat,(madeCells z (n*s)).toList=(bP n z.toList).flatten
 |0=>by simp[madeCells]
 |n+1=>by
  rw[List.replicate_succ',vq,<-Ae I n];apply List.ext_getElem?;intro j;have J:=by omega
  have U:(madeCells z (n*s)).toList.length=n*s:=by rw[UN,size_madeCells]
  rw[List.getElem?_append,U];simp only[madeCells,np];split
  .grind
  .rename_i a;by_cases Z:j< n*s+s
   .have A:j%s=j-n*s:=by
     have h1:j=(j-n*s)+n*s:=by omega
     have h2:j-n*s< s:=by omega
     calc j%s=((j-n*s)+n*s)%s:=by rw[<-h1]
      _=(j-n*s)%s:=Nat.add_mul_mod_self_right _ _ _
      _=j-n*s:=Nat.mod_eq_of_lt h2
    grind
   grind
theorem Hw{h:Heap}{v:V}{d:D}(e:v.data h=ab d):(V.im d).plain=v.plain:=by
 cases v<;>first|cases e;rfl|cases e|rename_i w l;simp only[V.data,V.cV]at e;obtain⟨x,_,e⟩:=cE.1 e;subst e;rfl|rename_i l;simp only[V.data,V.cV]at e;obtain⟨x,_,e⟩:=cE.1 e;subst e;rfl|rename_i b g off len aP;simp only[V.data]at e;obtain⟨x,_,e⟩:=cE.1 e;subst e;rfl|rename_i l;simp only[V.data,V.cV]at e;cases e;rfl|rename_i f a c;cases a<;>cases c<;>simp only[V.data,V.cV]at e<;>cases e;rfl|rename_i t v;simp only[V.data,V.cV]at e;obtain⟨x,_,e⟩:=cE.1 e;subst e;rfl
theorem F2{t:Nat}{ti:TI}(I:iG P t ti){z:D}(A:ti.zero.data []=ab z)(J:cA ti (.im z)=ag)(C:IV):∃i zv,P.info? t=ab i/\i.size=ti.size/\i.bytes=ti.bytes/\i.zero=ab zv/\aR C z af zv.cells.toList/\zv.cells.size=ti.size:=by
 obtain⟨i,a,b,c,U⟩:=I.info;obtain⟨k1,k2,d⟩:=nR J;obtain⟨zv,e,Z⟩:=U _ rfl (by rw[<-Hw A];omega)
 have h1:aR C z af zv.cells.toList:=ai0 default A (Z.cells (by rw[<-Hw A];omega))
 have:=h1.wd;simp_all[V.wd,k1,this]
theorem Lk{C:IV}{z:D}{ws:List Value}(h:aR C z af ws)(n:Nat):bI C (bP n z) af (bP n ws):=cz.2 (a8.rep (R:=λd ws=>aR C d af ws) h n)
theorem arQ(o:EnvTy P E)(p:HR B X O w h){n t:Nat}(F:ar h n=ae)(G:X.M n=ae)(Z:n<=h.length){l c v:V}{h':Heap}(e:uZ E n h t l c=ab (v,h')){q r:Value}(H:aq X l ag [q])(K:aq X c ag [r]):
  dK P B X O w h (Instr.makeSlice t q r) v h':=by
 unfold uZ at e;cases u:E.ty t with
 |none=>grind
 |some ti=>
 rw[u]at e;have x:=(o.ty t ti u).kind;simp only[ah]at e;split at e
 .rename_i el b;rw[b]at x;cases hte:E.ty el with
  |none=>grind
  |some te=>
  rw[hte]at e;simp only[ah]at e;replace e:=ay.1 e;obtain⟨z,L,e⟩:=e;split at e
  .rename_i a m;obtain⟨y,e⟩:=aU e;cases e;simp[aM,gX,decide_eq_true_iff]at y;obtain⟨N,Q,h1,h2⟩:=y;obtain⟨d,_⟩:=H;cases d;obtain⟨f,R⟩:=K;cases f;have g:=o.ty _ _ hte;obtain⟨i,zv,S,T,i3,W,Y,i6⟩:=F2 g L N X.C;have j:m<=9223372036854775807:=R.2;have A:=run_make w t el i zv x S W .i64 .i64 a m Q h1 (by grind) j
   have I:=Ae i6 m.toNat;rw[T]at A;have k:=mA.alloc w (madeCells zv.cells (m.toNat*te.size)) el;have J:=Lk Y a.toNat;have U:(bP a.toNat z).length=a.toNat:=jj;obtain⟨X',O',q1,q2,D,q4⟩:=D7 p F G Z ((Below.refl B w).alloc p.wb _) k (s:=te.size) (cap:=m.toNat) (by simp_all) (by grind[fv]) (by omega) J (bl.rep (by omega)) (rest:=(bP (m.toNat-a.toNat) zv.cells.toList).flatten) (by
    rw[I,<-vq,List.replicate_append_replicate];congr 2;omega)
   rw[U]at D;rw[mc];exact⟨_,_,X',O',A,q1,q2,D,q4⟩
  trivial
 trivial
end
section
variable {P:Program} {B:Nat} {X:Cx} {O:Nat->Addr->Prop} {w:World} {h:Heap} {E:Env}
theorem arM(I:HR B X O w h){ev:Operand->V}{ρ:Operand->Value}{f:Fn}{a c:Array Operand}{v:V}{h':Heap}(e:Lp ev h f a c=ab (v,h'))
  (J:∀o∈a.toList,aq X (ev o) ag [ρ o]) (U:∀o∈c.toList,aq X (ev o) ag [ρ o]):dK P B X O w h (Instr.makeFunc f (a.map ρ) (c.map ρ)) v h':=by
 have key:∀{l:List Operand},(∀o∈l,aq X (ev o) ag [ρ o])->bM X (List.rec [] (λo _ ih=>ev o::ih) l) ag (l.map λo=>[ρ o]):=by
  intro l;induction l with
  |nil=>simp[bM]
  |cons o l ih=>simp[bM];grind
 have A:∀l:List Operand,(l.map λo=>[ρ o]).flatten=l.map ρ:=by
  intro l;induction l<;>simp_all
 unfold Lp at e;split at e
 .cases e;refine .same I rfl ?_;exact⟨_,_,_,_,rfl,key J,by simp[A],key U,by simp[A]⟩
 trivial
theorem akQ(A:EnvTy P E)(Z:HR B X O w h){n s d:Nat}(f:ar h n=ae)(g:X.M n=ae)(a:n<=h.length){x v:V}{h':Heap}(e:sd E h n s d x=ab (v,h')){I:Value}(r:aq X x ag [I]):
  dK P B X O w h (convert s d I) v h':=by
 unfold sd Env.kind at e;cases J:E.ty s with
 |none=>grind
 |some b=>
 cases U:E.ty d with
 |none=>grind
 |some c=>
 rw[J,U]at e;have k1:=(A.ty s b J).kind;have k2:=(A.ty d c U).kind;simp only[jJ]at e;split at e
 .rename_i h1 h2;simp only[iV]at h1 h2;rw[h1]at k1;rw[h2]at k2;simp only[gV]at k1 k2;cases e;simp only[aq,aR]at r;obtain⟨r,_⟩:=r;cases r;refine .same Z (by simp only[convert,kg,run_underlying k1,run_underlying k2,tj];rfl) ?_
  grind[aq,aR,n4,qa]
 trivial
end
section
variable {P:Program} {B:Nat} {X:Cx} {O:Nat->Addr->Prop} {w:World} {h:Heap} {E:Env}
theorem YO(off:Nat):∀(xs:List Value) (k:Nat) (cs:Array Value),off+k+xs.length<=cs.size->
  ((xs.zipIdx k).foldl (λcs (x:Value×Nat)=>cs.setIfInBounds (off+x.2) x.1) cs).toList=cs.toList.take (off+k)++(xs++cs.toList.drop (off+k+xs.length))
 |[],k,cs,_=>by simp
 |x::xs,k,cs,A=>by
  simp at A;rw[List.zipIdx_cons,List.foldl_cons,YO off xs (k+1) _ (by simp;omega)]
  dsimp only;have I:off+k< cs.toList.length:=by simp;omega
  rw[Array.toList_setIfInBounds,List.set_eq_take_append_cons_drop,aK I];have h1:(cs.toList.take (off+k)).length=off+k:=by grind
  rw[show off+(k+1)=(off+k)+1 from by omega]
  rw[List.take_append,h1,Nat.add_sub_cancel_left,List.take_succ_cons,List.take_zero];rw[List.drop_append,h1,List.drop_of_length_le (by omega),show off+k+1+xs.length-(off+k)=xs.length+1 from by omega,List.drop_succ_cons,List.drop_drop]
  grind
theorem YB(A:Nat->Option (Nat×Nat))(cs:Array Value)(i:Nat)(v:Value)(I:List (Nat×Value)){off size:Nat}(hp:A i=ab (off,size))(h1:v.cells.size=size){pre old post:List Value}
  (U:cs.toList=pre++(old++post)) (Z:pre.length=off) (hold:old.length=size):
  ∃J:Array Value,BC A cs ((i,v)::I)=BC A J I/\J.toList=pre++(v.cells.toList++post):=by
 have a:cs.size=pre.length+(old.length+post.length):=by rw[<-UN,U];simp
 refine⟨_,by rw[BC,hp];simp only;rw[ax (by grind)],?_⟩
 rw[<-Array.foldl_toList];have:=YO off v.cells.toList 0 cs (by simp;omega)
 grind
theorem aw4(A:Nat->Option (Nat×Nat))(p:Nat×V)(ps:List (Nat×V))(l:List V):mE l A (p::ps)=((A p.1).bind λI=>(bG l p.1).bind λc=>
  bif al (iU l p.1) I.1&&(al c.wd I.2&&(al p.2.wd I.2&&jU p.2))then mE (bC l p.1 p.2) A ps else ae):=rfl
theorem anI(v:V):jU v=v.plain:=by rfl
def BX(X:Cx)(ps:List (Nat×V))(A:List (Nat×Value)):Prop:=a8 (λp q=>p.1=q.1/\aq X p.2 ag [q.2]) ps A
theorem HW{X:Cx}{A:Nat->Option (Nat×Nat)}{W:Nat}:∀(ps:List (Nat×V)) {U:List (Nat×Value)} {l Z:List V} {cs:Array Value},BX X ps U->mE l A ps=ab Z->aq X (.agg W l) af cs.toList->
  ∃J,BC A cs U=ab J/\aq X (.agg W Z) af J.toList
 |[],U,l,Z,cs,a,e,r=>by
  cases a;simp[mE]at e;subst e;exact⟨cs,rfl,r⟩
 |p::ps,U,l,Z,cs,a,e,r=>by
  obtain⟨q,b,rfl,⟨hp,m⟩,d⟩:=a;obtain⟨g,n,e⟩:=ay.1 e;obtain⟨c,i,e⟩:=ay.1 e;obtain⟨j,e⟩:=aU e;simp only[aM]at j;obtain⟨k1,k2,x,o⟩:=j;rw[cu]at i;obtain⟨pre,s,post,h1,h2,t,u⟩:=r.split (dU k1) i;have I:=m.cells o;have f:q.2.cells.size=g.2:=by have:=I.wd;simp_all
  have hold:s.length=g.2:=by rw[t.wd];exact dU k2
  obtain⟨J,f1,f2⟩:=YB A cs q.1 q.2 b (by rw[<-hp];omega) f h1 (by rw[h2]) hold
  have k:=u p.2 q.2.cells.toList I (by grind)
  rw[<-f2,<-eO]at k;obtain⟨v,y,z⟩:=HW ps d e k;grind
theorem adK{P:Program}:∀(fs:List Field),(∀f∈fs,∃i,P.info? f.type=ab i)->fs.mapM (λf=>(P.info? f.type).map λi=>(f.offset,i.size))=ab (fs.map λf=>(f.offset,P.cellsOf f.type))
 |[],_=>rfl
 |f::fs,h=>by
  obtain⟨i,hi⟩:=h f (by simp)
  have A:P.cellsOf f.type=i.size:=by simp[ahp,hi]
  rw[List.mapM_cons,adK fs (λg I=>h g (by simp[I]))]
  simp[hi,A]
theorem aj6(o:EnvTy P E)(p:HR B X O w h){t:Nat}{ps:List (Nat×V)}{v:V}{h':Heap}(e:xQ E h t ps=ab (v,h')){a:Array (Nat×Value)}(r:BX X ps a.toList):dK P B X O w h (Instr.build t a) v h':=by
 unfold xQ at e;cases q:E.ty t with
 |none=>grind
 |some ti=>
 rw[q]at e;have b:=o.ty t ti q;have c:=b.kind;obtain⟨i,s,L,M,C⟩:=b.info;simp only[ah]at e;obtain⟨l,d,e⟩:=ay.1 e;have A:ti.zero.plain=ag:=by
  unfold V.kids at d;split at d
  .rename_i g;rw[g];rfl
  .rename_i g;rw[g];rfl
  trivial
 obtain⟨z,u,z2⟩:=C _ rfl A;have y:=abo d (aq.mono (GM X) _ _ _ (aq.low Cf _ _ _ (z2.cells A)) (z2.cells A));split at e
 .rename_i fs Z;rw[Z]at c;obtain⟨J,D,F,G,_⟩:=c;obtain⟨k,hf,e⟩:=cE.1 e;cases e;have U:(λx=>((J.toList.map λf=>(f.offset,P.cellsOf f.type)).toArray[x]?))=λi=>(bG fs i).map (λf=>(f.1,f.2.1)):=by
   funext x;rw[cu,<-F];grind
  rw[<-U]at hf;obtain⟨I,f1,f2⟩:=HW ps r hf y;have m:P.built t a.toList=ab I:=by
   simp only[aho,s,D,u,adK (P:=P) J.toList (λf hf=>(G f hf).2)];omega
  refine .same p (run_build w t a I m) ?_;have hw:aq X (.agg ti.zero.wd k) ag [.agg I]:=by
   simp only[aq]at f2|-;grind
  exact M8 hw
 .rename_i n el Z;rw[Z]at c;simp only[gV]at c;cases hte:E.ty el with
  |none=>grind
  |some te=>
  rw[hte]at e;obtain⟨j,H,K,_⟩:=(o.ty _ _ hte).info;obtain⟨k,hf,e⟩:=cE.1 e;cases e;obtain⟨I,f1,f2⟩:=HW ps r hf y;have m:P.built t a.toList=ab I:=by
   simp only[aho,s,c,u,H,K];omega
  refine .same p (run_build w t a I m) ?_;have hw:aq X (.agg ti.zero.wd k) ag [.agg I]:=by
   simp only[aq]at f2|-;grind
  exact M8 hw
 trivial
theorem Up.jf{C:IV}(n:Nat)(hC:X.C.le C)(hf:∀a v,C a=ab v->X.C a=ae->B<=a.block):Up B X w n (X.jf C) w:=
 ⟨⟨hC,λ_ bi _ e=>⟨bi,e,aL _,λ_=>rfl,λ_=>rfl⟩,λ_ _ e=>e⟩,.refl _ _,hf,λ_ _ e _=>e⟩
theorem aw5(h:Heap)(sz:Nat)(p:Nat×V)(ps:List (Nat×V))(l:List D):lj h sz l (p::ps)=((p.2.data h).bind λd=>(bG l p.1).bind λ_=>bif al d.wd sz&&jU p.2 then lj h sz (bC l p.1 d) ps else ae):=rfl
theorem ac4(p:Nat×V)(ps:List (Nat×V)):ja (p::ps)=(match V.owns p.2 with|[]=>ja ps|A=>A++ja ps):=rfl
theorem asZ{p:Nat×V}{ps:List (Nat×V)}(hp:p∈ps){b:Nat}(A:b∈V.owns p.2):b∈ja ps:=by
 induction ps with
 |nil=>cases hp
 |cons q ps ih=>
  rw[ac4];grind
theorem Yz{C:IV}{S:Nat->Prop}(H:HR B X O w h)(K:rM X w h C S){sz:Nat}:∀(ps:List (Nat×V)) {k:List (Nat×Value)} {l Z:List D} {cs:Array Value} {A:List (List Value)},BX X ps k->(∀p∈ps,∀b∈p.2.owns,S b)->lj h sz l ps=ab Z->
  bI C l af A->bl sz A->cs.toList=A.flatten->
  ∃U J,BC (λi=>ab (i*sz,sz)) cs k=ab U/\bI C Z af J/\bl sz J/\U.toList=J.flatten/\Z.length=l.length
 |[],k,l,Z,cs,A,n,_,e,r,ev,o=>by
  cases n;simp[lj]at e;subst e;exact⟨cs,A,rfl,r,ev,o,rfl⟩
 |p::ps,k,l,Z,cs,A,n,L,e,r,ev,o=>by
  obtain⟨q,s,rfl,⟨hp,Q⟩,t⟩:=n;obtain⟨d,M,e⟩:=ay.1 e;obtain⟨c,a,e⟩:=ay.1 e;obtain⟨u,e⟩:=aU e;rw[cu]at a;rw[eO]at e;obtain⟨ws,m,_⟩:=r.at a;have y:=wg H K M (L p (by simp)) Q
  simp at u;obtain⟨u,z⟩:=u;rw[anI]at z;have f:(V.im d).plain=ag:=by rw[Hw M];omega
  have I:aR C d af q.2.cells.toList:=aq.cells (X:=⟨C,λ_=>ae,λ_=>ae⟩) (v:=.im d) f y
  have F:q.2.cells.size=sz:=by have:=I.wd;simp_all
  have G:=ev ws (jG m);have g:(A.flatten.take (p.1*sz)).length=p.1*sz:=by
   have h1:=(e7.1 m).1;have h2:(p.1+1)*sz<=A.length*sz:=eA _ h1;grind[gi,ev.len,nv,ns]
  obtain⟨U,f1,f2⟩:=YB (λi=>ab (i*sz,sz)) cs q.1 q.2 s (off:=p.1*sz) (size:=sz) (by simp[hp]) F (pre:=A.flatten.take (p.1*sz)) (old:=ws) (post:=A.flatten.drop (p.1*sz+sz)) (by rw[o];exact OY ev m) g G
  have j:q.2.cells.toList.length=sz:=by omega
  rw[<-Dd ev m j]at f2;obtain⟨R,N,W,Y,g3,g4,g5⟩:=Yz H K ps t (λx T=>L x (by simp[T])) e (cz.2 ((cz.1 r).set I)) (ev.set j) f2
  grind
theorem Yx{sz:Nat}{A:Nat->Option (Nat×Nat)}(I:∀i U,A i=ab U->U.2=sz):∀(ps:List (Nat×V)) {l J:List V},mE l A ps=ab J->(∀v∈l,v.wd=sz)->(∀v∈J,v.wd=sz)/\J.length=l.length
 |[],l,J,e,h=>by simp[mE]at e;grind
 |p::ps,l,J,e,h=>by
  obtain⟨U,Z,e⟩:=ay.1 e;obtain⟨c,d,e⟩:=ay.1 e;obtain⟨b,e⟩:=aU e;simp only[aM]at b;rw[eO]at e;obtain⟨h1,h2⟩:=Yx I ps e (λv a=>by
   rcases List.mem_or_eq_of_mem_set a with a|rfl
   .exact h v a
   rw[dU b.2.2.1];exact I _ _ Z)
  grind
theorem aiZ{X:Cx}{sz:Nat}{l:List V}{A:List (List Value)}(h:bM X l af A)(J:∀v∈l,v.wd=sz):bl sz A:=by
 induction l generalizing A with
 |nil=>subst h;exact λ_ h=>by cases h
 |cons v l ih=>
  obtain⟨ws,r,rfl,h1,h2⟩:=h;intro x I;rcases du.1 I with rfl|I
  .rw [h1.wd];grind
  exact ih h2 (λu U=>J u (by simp[U])) x I
theorem ai9{n:Nat}(U:ar h n=ae){A:List Nat}(I:gH h A=ag):n ∉ A:=λJ=>by
 obtain⟨g,s,ro,l,e⟩:=GU I n J;grind
theorem afi{t el n size:Nat}(U:P.underlying t=ab (.slice el)){i:TypeInfo}(hi:P.info? el=ab i)(a:i.size=size){z:Value}(b:i.zero=ab z)(c:n*size<=16777216){Z:Array (Nat×Value)}{cs:Array Value}
  (hf:BC (λi=>ab (i*size,size)) (madeCells z.cells (n*size)) Z.toList=ab cs):
  (Mv t n Z).run P w=.ok (.slice (ab ⟨w.heap.size,0,ae⟩) n n) (w.alloc (.cells cs el)):=by
 subst a;have A:¬(16777216< n*i.size):=by omega
 by_cases I:n*i.size=0
 .rw [I]at hf;have hm:∀z,madeCells z 0=#[]:=λz=>by simp[madeCells]
  rw[hm]at hf;have J:Array.range 0=(#[]):=rfl;simp[Mv,run_underlying U,sizeOf,typeInfo,hi,I,J,hf,newRow,MA]
 unfold madeCells at hf;simp[Mv,run_underlying U,sizeOf,typeInfo,zeroValue,hi,b,I,A,hf,newRow,MA]
theorem aj4(hE:EnvTy P E)(f:HR B X O w h){keep:Bool}{aC t n:Nat}(hn:ar h aC=ae)(hM:X.M aC=ae)(y:aC<=h.length){ps:List (Nat×V)}{v:V}{h':Heap}(e:mf E keep aC h t n ps=ab (v,h')){qs:Array (Nat×Value)}(r:BX X ps qs.toList):
  dK P B X O w h (Mv t n qs) v h':=by
 unfold mf at e;cases ht:E.ty t with
 |none=>grind
 |some ti=>
 rw[ht]at e;have q:=(hE.ty t ti ht).kind;simp only[ah]at e;split at e
 .rename_i el D;rw[D]at q;simp only[gV]at q;cases hte:E.ty el with
  |none=>grind
  |some te=>
  rw[hte]at e;have Z:=hE.ty _ _ hte;simp only[ah]at e;obtain⟨a,e⟩:=aU e;rw[aM]at a;have Y5:=rY a.2;obtain⟨z,F,e⟩:=ay.1 e;cases c:cA te (.im z)with
  |false=>grind
  |true=>
  rw[c]at e;simp only[Bool.not_true,au]at e;have J:n*te.size<=16777216:=rY a.1;have U:n<=fv:=by grind[fv]
  split at e
  .rename_i l hf;have hf:lj h te.size (jz n z) ps=ab l:=by
    grind
   obtain⟨u,e⟩:=aU e;cases e;obtain⟨C,O1,k1,k2,k3,k4,k5,k6,k7,k8,k9⟩:=CM (ja ps) f u;obtain⟨i,zv,x,G,i3,H,i5,i6⟩:=F2 Z F c C;have K:bl te.size (bP n zv.cells.toList):=bl.rep (by omega)
   rw[mc]at hf;obtain⟨cs,aX,f1,f2,f3,f4,f5⟩:=Yz f (Hn u k2 k7) ps r (λp hp b a=>asZ hp a) hf (Lk i5 n) K (Ae i6 n)
   have g:=afi (w:=w) q x G H J f1;have zN:=ai9 hn u;have L:ar (close h (ja ps)) aC=ae:=by grind
   have I:l.length=n:=by grind
   have j:cs.toList.length=n*te.size:=by rw[f4,f3.len,(cz.1 f2).len,I]
   have hlen:=k5;have N:(X.jf C).M aC=ae:=hM;have k:aC<=(close h (ja ps)).length:=by omega
   obtain⟨X',O',Q,S,m,q4,T⟩:=D7 k1 L N k ((Below.refl B w).alloc f.wb _) (mA.alloc w cs el) (s:=te.size) (cap:=n) (l:=l) (aX:=aX) (rest:=[]) j U (by omega) (bI.mono (IV.le.refl _) _ _ _ f2) f3 (by simpa using f4)
   rw[I]at m;exact⟨_,_,X',O',g,Q,(Up.jf _ k2 k4).trans (S.less (by omega)),m,by omega,(Hm (w:=w) u (λb a=>(k8 b).2 a) (λb=>(k8 b).1) k9).trans T (aL _) (by omega)⟩
  obtain⟨l,hf,e⟩:=cE.1 e;cases e;have A:te.zero.plain=ag:=by rw[<-Hw F];exact(nR c).2.2
  obtain⟨i,x,G,i3,H⟩:=Z.info;obtain⟨zv,z1,z2⟩:=H _ rfl A;have z3:aq X te.zero af zv.cells.toList:=aq.mono (GM X) _ _ _ (aq.low Cf _ _ _ (z2.cells A)) (z2.cells A);have o:zv.cells.size=te.size:=by
   obtain⟨i',zv',w1,w2,_,w4,_,w6⟩:=F2 Z F c X.C;rw[x]at w1;cases w1;rw[z1]at w4;cases w4;exact w6
  have W:te.zero.wd=te.size:=by rw[<-z3.wd];simpa using o
  rw[mc]at hf;obtain⟨Y,hw2⟩:=Yx (sz:=te.size) (λi os e=>by cases e;rfl) ps hf (λv c=>by rw[List.eq_of_mem_replicate c];exact W)
  have hz4:aq X (.agg (n*te.size) (bP n te.zero)) af (madeCells zv.cells (n*te.size)).toList:=by
   simp only[aq];exact⟨_,Ae o n,fi.2 (a8.rep (R:=λd ws=>aq X d af ws) z3 n),by simp[size_madeCells]⟩
  obtain⟨cs,f1,f2⟩:=HW ps r hf hz4;simp only[aq]at f2;obtain⟨aX,g1,g2,g3⟩:=f2;have I:l.length=n:=by rw[hw2,jj]
  obtain⟨X',O',Q,S,m,q4,T⟩:=acj f hn hM y ((Below.refl B w).alloc f.wb _) (mA.alloc w cs el) (s:=te.size) (cap:=n) (l:=l) (aX:=aX) (rest:=[]) g3 U (by omega) g2 (aiZ g2 Y) (by simpa using g1)
  rw[I]at m;exact⟨_,_,X',O',afi (w:=w) q x G z1 J f1,Q,S,m,q4,T⟩
 trivial
end
section
variable {P:Program} {B:Nat} {X:Cx} {O:Nat->Addr->Prop} {w:World} {h:Heap} {E:Env}
def eH(w:World)(r:Nat)(o:Obj):World:={w with heap:=w.heap.setIfInBounds r o}
theorem J2(w:World)(r:Nat)(o:Obj):(eH w r o).heap.size=w.heap.size:=by simp[eH]
theorem kO(w:World){r g:Nat}(o:Obj)(A:g≠r):(eH w r o).heap[g]? =w.heap[g]? :=by
 simp[eH,Ne.symm A]
theorem Aw{w:World}{r:Nat}{o A:Obj}(h:w.heap[r]? =ab A):(eH w r o).heap[r]? =ab o:=by
 have I:=(Array.getElem?_eq_some_iff.1 h).1;simp[eH,I]
theorem uI{w:World}{r:Nat}{o A:Obj}(h:w.heap[r]? =ab A)(h1:A.isCells=af)(h2:o.isCells=af)(a:Addr):(eH w r o).cell? a=w.cell? a:=by
 by_cases I:a.block=r
 .have J:(eH w r o).heap[a.block]? =ab o:=by simp[I,Aw,h]
  have U:w.heap[a.block]? =ab A:=by simp[I,h]
  unfold World.cell?;grind[yp]
 .exact World.cell?_of_block (w:=w) (kO w o I)
theorem Av{w:World}{r:Nat}{o A:Obj}(h:w.heap[r]? =ab A)(h1:A.isCells=af)(h2:o.isCells=af)(a:Addr):(eH w r o).frozen? a=w.frozen? a:=by
 by_cases I:a.block=r
 .have J:(eH w r o).heap[a.block]? =ab o:=by simp[I,Aw,h]
  have U:w.heap[a.block]? =ab A:=by simp[I,h]
  unfold World.frozen?;grind[yp]
 .exact World.frozen?_of_block (w:=w) (kO w o I)
theorem Eh{B r:Nat}(w:World)(o:Obj)(hB:B<=r):Below B w (eH w r o):=
 ⟨rfl,rfl,rfl,by simp[eH],λk A=>kO w o (by omega)⟩
theorem fZ.obj{w:World}{r:Nat}{o A:Obj}(h:w.heap[r]? =ab A)(h1:A.isCells=af)(h2:o.isCells=af){Q:Addr->Prop}{a:Addr}{i n:Nat}(I:fZ w Q a i n):fZ (eH w r o) Q a i n:=λj J U=>by
 obtain⟨q,⟨v,e⟩,f⟩:=I j J U;exact⟨q,⟨v,by simp[uI,h,h1,h2,e]⟩,by simp[Av,h,h1,h2,f]⟩
theorem cK.obj{w:World}{r:Nat}{o A:Obj}(h:w.heap[r]? =ab A)(h1:A.isCells=af)(h2:o.isCells=af){a:Addr}{vs:List Value}(I:cK w.cell? a vs):cK (eH w r o).cell? a vs:=λj v e=>by
 rw[uI h h1 h2];exact I j v e
theorem BR.obj{Q:Addr->Prop}{c:Nat}{k:cj}(n:BR X w Q c k){r:Nat}{o z:Obj}(h:w.heap[r]? =ab z)(h1:z.isCells=af)(h2:o.isCells=af)(C:¬Q ⟨r,0,ae⟩):BR X (eH w r o) Q c k:=by
 cases k with
 |cell v=>
  obtain⟨bi,p,ws,I,J,U,Z,b,A,a,q⟩:=n;exact⟨bi,p,ws,I,J,U,Z,b,A,a.obj h h1 h2,q.obj h h1 h2⟩
 |arr g s ro l=>
  obtain⟨bi,I,J,U,Z,b,A⟩:=n;refine⟨bi,I,J,U,Z,b,A.imp id ?_⟩;rintro⟨e,p,d,a,q,u,i,j,m,x⟩;exact⟨e,p,d,a,q,u,i,j.obj h h1 h2,m,x.obj h h1 h2⟩
 |cG g s l=>
  obtain⟨bi,I,J,U,Z,b,A⟩:=n;refine⟨bi,I,J,U,Z,b,A.imp id ?_⟩;rintro⟨e,p,d,a,q,u,i,j,m⟩;exact⟨e,p,d,a,q,u,i,j.obj h h1 h2,m.obj h h1 h2⟩
 |mp es=>
  obtain⟨bi,y,D,F,I,J,U,Z,b,A,a⟩:=n;refine⟨bi,y,D,F,I,J,U,Z,?_,A,a⟩;rw[kO w o (λe=>C (by simp_all[e,A]))];omega
 |lp f t ps bT body=>
  obtain⟨bi,l,y,I,J,U,Z,b,A,a⟩:=n;refine⟨bi,l,y,I,J,U,Z,?_,A,a⟩;rw[kO w o (λe=>C (by simp_all[e,A]))];omega
theorem HR.obj(A:HR B X O w h){r:Nat}{o J:Obj}(U:w.heap[r]? =ab J)(h1:J.isCells=af)(h2:o.isCells=af)(I:∀b k,ar h b=ab k->¬O b ⟨r,0,ae⟩):HR B X O (eH w r o) h:=
 ⟨λb k e=>(A.dO b k e).obj U h1 h2 (I b k e),λb a o=>by rw[J2];exact A.own b a o,A.gJ,A.lt,⟨λa v e=>by rw[uI U h1 h2];exact A.ci a v e,A.ci.gl⟩,by simp[J2,A.wb]⟩
theorem afC(I:HR B X O w h){b r:Nat}{es J:List (D×V)}{bi:BI}{q A:Array MapEntry}{s wc:Nat}(t:ar h b=ab (.mp es))(u:X.M b=ab bi)(x:bi.g=0)(hf:bi.fix=ag)(Z:bi.base=ab ⟨r,0,ae⟩)
  (j:w.heap[r]? =ab (.map q s)) (n:O b ⟨r,0,ae⟩) (he:iF X J A.toList):
  HR B X O (eH w r (.map A wc)) (aI h b (.mp J))/\Up B X w h.length X (eH w r (.map A wc))/\h.length<=(aI h b (.mp J)).length/\FR X O w h X O (eH w r (.map A wc)) (aI h b (.mp J)):=by
 have d:=e8 t;have f:=dj d;have m:∀c,c≠b->¬O c ⟨r,0,ae⟩:=λc U o=>U (I.gJ c b _ o n)
 have i:=uI j rfl (o:=.map A wc) rfl;refine⟨⟨λc k e=>?_,λc a o=>?_,I.gJ,λc bj e=>?_,⟨λa v e=>?_,I.ci.gl⟩,?_⟩,⟨.refl _ _,Eh w _ (I.own b _ n).1,λa v e p=>(by grind),λz o e l=>?_⟩,?_,⟨λc bj e p=>?_,λ_ _ e _=>e,λ_ _ _ _ _ o=>o,λc bj e p a o v ev=>?_,λc bj e p a o C F _=>?_,λc e=>?_,λ_ _ e _=>e⟩⟩
 .rw [bR h b c _ f]at e;by_cases U:c=b
  .subst U;simp at e;cases e;exact⟨bi,r,A,wc,u,x,hf,Z,Aw j,n,he⟩
  .simp [ax U]at e;exact(I.dO c k e).obj j rfl rfl (m c U)
 .rw [J2];exact I.own c a o
 .rw [b9,aK d];exact I.lt c bj e
 .rw [i];exact I.ci a v e
 .simp[J2,I.wb]
 .rw [kO w _ (λy=>by subst y;rw[j]at e;cases e;cases l)];exact e
 .simp[b9,aK,d,aL]
 .rw [bR h b c _ f,ax (λU=>by grind)];omega
 .exact ⟨by grind,Av j rfl rfl a⟩
 .have U:c≠b:=λU=>by grind
  rw[kO w _ (λe=>m c U (by simp_all[e,o]))];omega
 .rw [bR h b c _ f]at e;grind
theorem arO(i:EnvTy P E)(f:HR B X O w h){n t:Nat}(j:ar h n=ae)(b:X.M n=ae)(I:n<=h.length){r:Option V}{v:V}{h':Heap}(e:Fy E n h t r=ab (v,h')){Z:Option Value}(o:oi X r Z):
  dK P B X O w h (ahh t Z) v h':=by
 unfold Fy Env.kind at e;cases g:E.ty t with
 |none=>grind
 |some ti=>
 rw[g]at e;have l:=(i.ty t ti g).kind;simp at e;split at e
 .rename_i p et J;cases A:ti.k<;>rw[A]at J<;>cases J;rw[A]at l;have key:v=.mp n/\h'=aI h n (.mp [])/\(ahh t Z).run P w=.ok (.map (ab w.heap.size)) (w.alloc (.map #[] 0)):=by
   split at e
   .cases e;cases Z with
    |none=>trivial
    |some x=>trivial
   trivial
  obtain⟨rfl,rfl,U⟩:=key;let bi:BI:=⟨0,ab ⟨w.heap.size,0,ae⟩,0,1,ag⟩;let c:Addr->Prop:=λa=>a=⟨w.heap.size,0,ae⟩
  have d:BR (X.eg n bi) (w.alloc (.map #[] 0)) c n (.mp []):=⟨bi,w.heap.size,#[],0,Cx.fN _ _ _,rfl,rfl,rfl,heap_alloc_new w _,rfl,by rfl⟩
  refine⟨_,_,X.eg n bi,_,U,f.add j b I (.alloc _ _) (by simp) bi c (.mp []) (λa m=>?_) d,Up.add b ((Below.refl B w).alloc f.wb _) (.alloc _ _) _ bi,?_,?_,.add b I (.alloc _ _) bi c _⟩
  .subst m;simp
  .exact ⟨w.heap.size,bi,rfl,Cx.fN _ _ _,rfl,rfl⟩
  grind[b9]
 trivial
theorem RM(c:EnvTy P E){J:Nat}{U:D}(A:mT E J U=ag){C:IV}{a:Value}(r:aR C U ag [a]):∃k n,P.underlying J=ab (.int k)/\U=.int k n/\a=.int k n:=by
 unfold mT Env.kind at A;cases b:E.ty J with
 |none=>grind
 |some ti=>
  rw[b]at A;have I:=(c.ty J ti b).kind;simp at A;cases Z:ti.k<;>rw[Z]at A I<;>cases U<;>simp[gV]at I<;>try(simp at A)
  .have:=uA A;simp[aR]at r;grind
theorem W3{A:Nat}{I:Value}{k:IntKind}(J:P.underlying A=ab (.int k))(b:Bool):(Mw b 10000 A I).run P w=.ok () w:=by
 unfold Mw;simp[kg,run_underlying J]
theorem arb(g:EnvTy P E){d:Nat}{A:D}(i:mT E d A=ag){C:IV}{I:Value}(r:aR C A ag [I]){e:D}{b:Bool}(he:z8 A e=ab b){J:Value}(U:aR C e ag [J]):
  ∃k,P.underlying d=ab (.int k)/\ahi (.int k) I J=ab b/\(b=ag->U2 10000 J I=ag):=by
 obtain⟨k,n,h1,rfl,rfl⟩:=RM g i r;cases e<;>simp[z8]at he<;>try contradiction
 obtain⟨Z,a⟩:=aU he
 have Z:=uA Z;subst Z
 obtain⟨U,_⟩:=U;cases U
 have c:=(hH a).symm
 subst c
 refine⟨_,h1,?_,λf=>?_⟩
 .simp [ahi,pJ];rfl
 .rw [pJ]at f;have:=of_decide_eq_true f;subst this
  simp[U2]
theorem aw6(k:D)(e:D×V)(es:List (D×V)):pD k (e::es)=((z8 k e.1).bind λb=>bif b then ab 0 else(pD k es).map (· +1)):=rfl
theorem OU(g:EnvTy P E){k:Nat}{Z:D}(l:mT E k Z=ag){U:Value}(r:aR X.C Z ag [U]){d:TypeDesc}(n:P.underlying k=ab d):∀{es:List (D×V)} {I:List MapEntry} {i j:Nat},iF X es I->pD Z es=ab i->
  (i< es.length->∃m,I[i]? =ab m/\ym d U I j=ab (ab (j+i,m.val))/\U2 10000 m.key U=ag)/\(¬i< es.length->i=es.length/\ym d U I j=ab ae)
 |[],I,i,j,he,hf=>by
  subst he;simp[pD]at hf;subst hf;exact⟨λh=>absurd h (by simp),λ_=>⟨rfl,rfl⟩⟩
 |e::es,I,i,j,he,hf=>by
  obtain⟨m,z,rfl,h1,h2,s⟩:=he;obtain⟨b,t,hf⟩:=ay.1 hf;obtain⟨d',J,o,A⟩:=arb g l r t h1;rw[n]at J;cases J;cases b with
  |true=>
   cases hf;exact⟨λ_=>⟨m,rfl,by simp[ym,o],A rfl⟩,λh=>absurd (by simp) h⟩
  |false=>
   obtain⟨F,a,hf⟩:=cE.1 hf;subst hf;obtain⟨u,v⟩:=OU g l r n (j:=j+1) s a;refine⟨λc=>?_,λf=>?_⟩
   .obtain ⟨x,p,q,y⟩:=u (by simpa using c)
    refine⟨x,by trivial,?_,y⟩
    simp[ym];grind
   .obtain ⟨p,q⟩:=v (λh=>f (by simpa using h))
    simp[p,ym,o,q]
theorem run_findKey{A:Nat}{d:TypeDesc}(U:P.underlying A=ab d){I:Value}{J:List MapEntry}{x:Option (Nat×Value)}(hf:ym d I J 0=ab x):(ahf A I J).run P w=.ok x w:=by
 simp[ahf,run_underlying U,hf]
theorem TA{r:Nat}{o:Obj}(h:w.heap[r]? =ab o)(A:o.isCells=af):(getObj r).run P w=.ok o w:=by
 cases o<;>simp[yp]at A<;>simp[getObj,MA,h]
theorem afm{r:Nat}{o A:Obj}(h:w.heap[r]? =ab A)(I:A.isCells=af):(setObj r o).run P w=.ok () (eH w r o):=by
 cases A<;>simp[yp]at I<;>simp[setObj,MA,h,eH]
theorem awR(A:EnvTy P E){t:Nat}{ti:TI}(I:E.ty t=ab ti)(hp:jU ti.zero=ag):∃z,(zeroValue t).run P w=.ok z w/\aq X ti.zero ag [z]:=by
 obtain⟨i,J,_,_,U⟩:=(A.ty t ti I).info;obtain⟨z,Z,z2⟩:=U _ rfl hp;exact⟨z,by simp[zeroValue,typeInfo,J,Z],aq.mono (GM X) _ _ _ (aq.low Cf _ _ _ z2) z2⟩
theorem agx{v:V}{x:Value}(r:aq X v ag [x])(b:Bool):aq X (.aH [v,.im (.bool b)]) ag [.tuple #[x,.bool b]]:=by
 simp[aq,bM,aR];grind
theorem Yf(Z:HR B X O w h){m:V}{es:List (D×V)}(he:entries h m=ab es){I:Value}(a:aq X m ag [I]):
  ∃b r A J bi,m=.mp b/\I=.map (ab r)/\ar h b=ab (.mp es)/\X.M b=ab bi/\bi.g=0/\bi.fix=ag/\bi.base=ab ⟨r,0,ae⟩/\w.heap[r]? =ab (.map A J)/\O b ⟨r,0,ae⟩/\iF X es A.toList:=by
 unfold entries at he;split at he
 .rename_i b;split at he
  .rename_i c d;obtain⟨bi,r,A,J,h1,h2,j,f,k,l,n⟩:=Z.dO b _ d;obtain⟨o,bj,e,U,i,_⟩:=a;rw[h1]at U;cases U;rw[f]at i;grind
  trivial
 trivial
theorem arA(g:EnvTy P E)(U:HR B X O w h){t:Nat}{m k v:V}{ok:Bool}{h':Heap}(e:Fx E h t m k ok=ab (v,h')){l Z:Value}(N:aq X m ag [l])(n:aq X k ag [Z]):
  dK P B X O w h (UZ t l Z ok) v h':=by
 unfold Fx at e;split at e
 .rename_i Q et kd I;obtain⟨J,e⟩:=aU e;obtain⟨es,o,e⟩:=ay.1 e;obtain⟨i,hi,e⟩:=ay.1 e;unfold Env.kind at I;obtain⟨ti,R,p⟩:=cE.1 I;have q:=(g.ty t ti R).kind;rw[p]at q;simp only[gV]at q;simp only[aq]at n;obtain⟨S,_,s,_⟩:=RM g J n;have u:∀b,(Mw b 10000 Q Z).run P w=.ok () w:=W3 s;obtain⟨a,c,d⟩:∃a:Array MapEntry,iF X es a.toList/\∀x,ym (.int S) Z a.toList 0=ab x->(UZ t l Z ok).run P w=((do
    let(v,C)<-match x with
     |some (_,v)=>pure (v,ag)
     |none=>pure (<-zeroValue et,af)
    pure (if ok then .tuple #[v,.bool C]else v)):Sem Value).run P w:=by
   obtain⟨b,r,a,ck,bi,rfl,rfl,_,_,_,_,_,T,_,A⟩:=Yf U o N;refine⟨a,A,λx W=>?_⟩
   have D:=run_findKey (w:=w) s W;cases x<;>simp[UZ,run_underlying q,TA T rfl,u,D]
  obtain⟨Y,q2⟩:=OU g J n s (j:=0) c hi;rw[cu]at e;split at e
  .rename_i F A;cases e;have G:i< es.length:=(e7.1 A).1;obtain⟨m',e1,H,_⟩:=Y G;have L:aq X F.2 ag [m'.val]:=by
    obtain⟨y,ey,_,hy⟩:=(vE.1 c).get A;grind
   have f:=d _ H;cases ok with
   |true=>exact .same U (by trivial) (agx L ag)
   |false=>exact .same U (by trivial) L
  .rename_i A;have K:¬i< es.length:=λh=>by grind
   obtain⟨_,H⟩:=q2 K;obtain⟨te,hte,e⟩:=ay.1 e;obtain⟨hp,e⟩:=aU e;cases e;obtain⟨z,hz,M⟩:=awR (X:=X) (w:=w) g hte hp;have f:=d _ H;cases ok with
   |true=>exact .same U (by simp_all) (agx M af)
   |false=>exact .same U (by simp_all) M
 trivial
theorem iF.set{es:List (D×V)}{A:List MapEntry}(h:iF X es A){i:Nat}{k:D}{v:V}{m:MapEntry}(I:aR X.C k ag [m.key])(J:aq X v ag [m.val]):iF X (es.set i (k,v)) (A.set i m):=
 vE.2 ((vE.1 h).set ⟨I,J⟩)
theorem abX{α:Type}(f:α->α):∀{l:List α} {i:Nat} {x:α},l[i]? =ab x->l.modify i f=l.set i (f x)
 |[],_,_,e=>by trivial
 |a::l,0,x,e=>by grind
 |a::l,i+1,x,e=>by simp;rw[abX f (by trivial)]
theorem abD(x:EnvTy P E)(y:HR B X O w h){t:Nat}{m k u v:V}{h':Heap}(e:sP E h t m k u=ab (v,h')){S Z g:Value}(rm:aq X m ag [S])(o:aq X k ag [Z])(T:aq X u ag [g]):
  v=.undef/\Gv P B X O w h (U1 t S Z g) h':=by
 unfold sP at e;split at e
 .rename_i kt et b W J;obtain⟨c,e⟩:=aU e;obtain⟨es,z,e⟩:=ay.1 e;obtain⟨i,hi,e⟩:=ay.1 e;obtain⟨te,hte,e⟩:=ay.1 e;obtain⟨uq,e⟩:=aU e;unfold Env.kind at J;obtain⟨ti,ht,C⟩:=cE.1 J;have q:=(x.ty t ti ht).kind;rw[C]at q;simp only[gV]at q;simp only[aq]at o;obtain⟨jk,_,s,_⟩:=RM x c o;have p:∀b,(Mw b 10000 kt Z).run P w=.ok () w:=W3 s;obtain⟨b',r,l,D,bi,eb,rfl,F,Y,hg,hf,U,n,hO,I⟩:=Yf y z rm
  .cases eb;simp only[F,iV,Prod.mk.injEq]at e;obtain⟨rfl,rfl⟩:=e;refine⟨rfl,?_⟩;obtain⟨q1,q2⟩:=OU x c o s (j:=0) I hi;have hlen:l.toList.length=es.length:=(vE.1 I).len;rw[bz];by_cases d:i< es.length
   .obtain ⟨G,e1,H,e3⟩:=q1 d;have f:cQ i es.length=ag:=by simp_all
    rw[f,ao,eO];have K:((l[i]?).map (·.key)).getD Z=G.key:=by
     grind
    have L:(ahg G.key Z).run P w=.ok Z w:=by simp[ahg,e3]
    have a:=run_findKey (w:=w) s H;rw[db]at a;have A:iF X (es.set i (W,u)) (l.modify i λe=>{e with key:=Z,val:=g}).toList:=by
     have:(l.modify i λe=>{e with key:=Z,val:=g}).toList=l.toList.set i {G with key:=Z,val:=g}:=by
      simp[Array.toList_modify,abX,e1]
     simp_all[this,I.set,o,T]
    obtain⟨M,N,Q,R⟩:=afC (wc:=D) y F Y hg hf U n hO A
    refine⟨_,X,O,?_,M,N,Q,R⟩;simp[U1,run_underlying q,TA n rfl,p,a,K,L,afm n rfl]
   .obtain ⟨e1,H⟩:=q2 d;have f:cQ i es.length=af:=by
     cases hq:cQ i es.length with
     |false=>rfl
     |true=>exact absurd (jl hq) d
    rw[f,au];have a:=run_findKey (w:=w) s H;have A:iF X (es++[(W,u)]) (l.push {key:=Z,val:=g,born:=D}).toList:=by
     rw[Array.toList_push];exact vE.2 ((vE.1 I).app (a8.cons ⟨o,T⟩ a8.nil))
    obtain⟨M,N,Q,R⟩:=afC (wc:=D+1) y F Y hg hf U n hO A
    refine⟨_,X,O,?_,M,N,Q,R⟩;simp[U1,run_underlying q,TA n rfl,p,a,afm n rfl]
 trivial
end
section
variable {P:Program} {B:Nat} {X:Cx} {O:Nat->Addr->Prop} {w:World} {h:Heap} {E:Env}
theorem ans{n:Nat}(h:n<=fv):dz .i64 (aE n):=by
 have h1:U6.max=9223372036854775807:=by decide
 have h2:U6.min= -9223372036854775808:=by decide
 simp[fv]at h;constructor;all_goals grind
theorem Jo{n:Nat}(h:n<=fv):aq X (.im (.int .i64 (aE n))) ag [.int .i64 n]:=by
 exact⟨rfl,ans h⟩
theorem arq(o:EnvTy P E)(Z:HR B X O w h){t ty:Nat}{i:Array Nat}(c:i[0]? =ab t){x v:V}{h':Heap}(e:rX E t h x=ab (v,h')){j:Value}(r:aq X x ag [j]):
  dK P B X O w h (Mq i ty #[j]) v h':=by
 unfold rX Env.kind at e;cases m:E.ty t with
 |none=>grind
 |some ti=>
 rw[m]at e;have I:=(o.ty t ti m).kind;split at e<;>first|(cases e;done)|skip
 .rename_i k b g off n aP A;rw[hH A]at I;simp only[gV]at I;cases e;simp only[aq]at r;obtain⟨y,d,⟨a,cap,J,_,U,_⟩,_⟩:=r;cases d;subst J;exact .same Z (by simp[Mq,c,run_underlying I,goInt]) (Jo U)
 .rename_i k l A;rw[hH A]at I;simp only[gV]at I;cases e;simp only[aq,aR]at r;obtain⟨a,n,cap,J,U,_,f,_⟩:=r;cases J;rw[bz,<-U];exact .same Z (by simp[Mq,c,run_underlying I,goInt]) (Jo f)
 rename_i k l A;rw[hH A]at I;simp only[gV]at I;cases e;simp only[aq]at r;obtain⟨y,d,a,n,J,U,f,_⟩:=r;cases d;subst J;rw[bz,<-U];exact .same Z (by simp[Mq,c,run_underlying I,goInt]) (Jo f)
theorem arV(k:IntKind)(v:V)(l:List V)(a:Int):xd k (v::l) a=(match v with|.im (.int A b)=>bif gu k A then xd k l (bif ai a b then a else b)else ae|_=>ae):=rfl
theorem arT(k:IntKind)(v:V)(l:List V)(a:Int):xb k (v::l) a=(match v with|.im (.int A b)=>bif gu k A then xb k l (bif ai a b then b else a)else ae|_=>ae):=rfl
theorem abQ{k:IntKind}:∀{l:List V} {xs:List Value} {a n:Int},xd k l a=ab n->a8 (λv x=>aq X v ag [x]) l xs->dz k a->(xs.foldlM Builtin.min2 (.int k a)).run P w=.ok (.int k n) w/\dz k n
 |[],_,a,n,e,r,J=>by cases r;simp[xd]at e;simp_all
 |v::l,_,a,n,e,⟨x,xs,rfl,A,U⟩,J=>by
  rw[arV]at e;split at e
  .rename_i d b;obtain⟨Z,I⟩:=aU e;have:=uA Z;subst this;obtain⟨A,f⟩:=A;cases A;have c:(bif ai a b then a else b)=if b< a then b else a:=by
    rw[gX];grind
   rw[c]at I;obtain⟨g,i⟩:=abQ I U (by split<;>assumption)
   trivial
  trivial
theorem abH{k:IntKind}:∀{l:List V} {xs:List Value} {a n:Int},xb k l a=ab n->a8 (λv x=>aq X v ag [x]) l xs->dz k a->(xs.foldlM Builtin.max2 (.int k a)).run P w=.ok (.int k n) w/\dz k n
 |[],_,a,n,e,r,J=>by cases r;simp[xb]at e;simp_all
 |v::l,_,a,n,e,⟨x,xs,rfl,A,U⟩,J=>by
  rw[arT]at e;split at e
  .rename_i d b;obtain⟨Z,I⟩:=aU e;have:=uA Z;subst this;obtain⟨A,f⟩:=A;cases A;have c:(bif ai a b then b else a)=if b>a then b else a:=by
    rw[gX];grind
   rw[c]at I;obtain⟨g,i⟩:=abH I U (by split<;>assumption)
   trivial
  trivial
theorem Xz(o:HR B X O w h){x:V}{l:List D}(e:x.pz h=ab l){m:Bool}{H:Value}(r:aq X x m [H]):
  ∃a n cap,H=.slice a n cap/\n=l.length/\n<=cap/\n<=fv/\(n=0∨∃I A s,a=ab I/\I.spot=ae/\bI X.C l af A/\bl s A/\cK w.cell? I A.flatten):=by
 unfold V.pz at e;split at e
 .cases e;simp only[aq,aR]at r;obtain⟨a,n,cap,U,Z,c,K,k⟩:=r;cases U;refine⟨a,n,cap,rfl,Z,c,K,k.imp id ?_⟩;rintro⟨I,A,s,d,J,f,p,q⟩;exact⟨I,A,s,d,J,f,p,λj v t=>o.ci _ _ (q j v t)⟩
 .cases e;simp only[aq]at r;obtain⟨y,u,a,n,U,Z,c,k⟩:=r;cases u;subst U;refine⟨a,n,n,rfl,Z,aL _,c,k.imp id ?_⟩;rintro⟨I,A,s,d,J,f,p,q⟩;exact⟨I,A,s,d,J,f,p,λj v t=>o.ci _ _ (q j v t)⟩
 .rename_i b g off len aP;split at e
  .rename_i g' s ro L Q;obtain⟨R,e⟩:=aU e;cases e;obtain⟨hg,z⟩:=tY R;rw[CQ L off len z];simp only[aq]at r;obtain⟨y,u,_,bi,S,T,i⟩:=r;cases u;obtain⟨bj,h1,h2,h3,h4,h5,M⟩:=o.dO b _ Q;rw[S]at h1;cases h1;obtain⟨a,cap,U,Z,c,K,k,N⟩:=i (by omega)
   subst U;have F:((L.drop off).take len).length=len:=by grind
   refine⟨a,len,cap,rfl,F.symm,Z,c,?_⟩;by_cases hz:len=0<;>try grind
   right;rcases N with N|⟨I,d,J,f⟩
   .omega
   rcases M with M|⟨es,a1,A,k1,k2,W,G,Y,k6,k7⟩
   .omega
   rw[d]at k1;cases k1;refine⟨_,(A.drop off).take len,s,f,Addr.iI _ _ J,cz.2 (((cz.1 W).drop off).take len),bl.take (bl.drop G off) len,?_⟩;rw[bl.ll (bl.drop G off),bl.ug G,es];exact(Y.drop J (off*s)).take _
  trivial
 trivial
theorem asb(m:EnvTy P E)(o:HR B X O w h){te:TI}{I:Nat}{x:V}{new:List D}(e:xg E te I x h=ab new){f:Value}(r:aq X x ag [f]):
  ∃A,Src P te.size I f new.length A.flatten w/\bI X.C new af A/\bl te.size A:=by
 unfold xg Env.kind at e;cases g:E.ty I with
 |none=>grind
 |some ti=>
 rw[g]at e;have J:=(m.ty I ti g).kind;split at e
 .rename_i k Z;rw[hH Z]at J;obtain⟨l,p,e⟩:=ay.1 e;obtain⟨hf,e⟩:=aU e;cases e;obtain⟨a,n,cap,q,b,G,H,t⟩:=Xz o p r;subst q;by_cases i:n=0
  .subst i;have v:=tm b.symm;subst v;refine⟨[],?_,by rfl,λ_ h=>by cases h⟩
   cases a
   .exact Src.ofNil w J cap
   rename_i c;exact MB w J c 0 cap [] (by simp) (λj u e=>by trivial) (λ_ h=>by cases h)
  obtain⟨c,A,s,y,K,U,d,z⟩:=t.resolve_left i;subst y;have F:=C6 hf U d (λh=>by grind)
  subst F;refine⟨A,?_,U,d⟩;rw[<-b];exact MB w J c n cap A.flatten (by rw[d.len,(cz.1 U).len,b]) z U.mV
 trivial
theorem ajt{A:Array TypeId}{t I ty:TypeId}(J:A[0]? =ab t)(h1:A[1]? =ab I)(s x:Value):mi A ty #[s,x]=mi #[t,I] ty #[s,x]:=by
 simp[mi,J,h1]
theorem A4{t Z ty el:TypeId}{i:TypeInfo}(c:P.underlying t=ab (.slice el))(hi:P.info? el=ab i){base:Option Addr}{sLen sCap n:Nat}{x:Value}{news:List Value}(I:Src P i.size Z x n news w)
  (A:sLen+n<=sCap) {a:Addr} (e:news≠[]->base=ab a) (f:a.spot=ae) (g:∀j,j< news.length->(∃u,w.cell? ((a.add (sLen*i.size)).add j)=ab u)/\w.frozen? ((a.add (sLen*i.size)).add j)=af):
  (mi #[t,Z] ty #[.slice base sLen sCap,x]).run P w=.ok (.slice base (sLen+n) sCap) (putCells w (a.add (sLen*i.size)) news 0):=by
 by_cases d:news=[]
 .subst d;have U:∀b:Addr,(storeCells b [] 0).run P w=.ok () w:=λb=>rfl
  rcases I.kind with⟨k,J⟩|J<;>cases base<;>simp[mi,run_underlying c,run_underlying J,sizeOf,typeInfo,hi,I.len,A,I.cells,U,putCells]
 obtain rfl:=e d;rcases I.kind with⟨k,J⟩|J<;>simp[mi,run_underlying c,run_underlying J,sizeOf,typeInfo,hi,I.len,A,I.cells,Lo (P:=P) (a.add (sLen*i.size)) (Addr.iI _ _ f) news w 0 I.one (λj l=>by rw[db];exact g j l)]
theorem aeZ{n b:Nat}(h:room n b=ag):n*b<=70368744177664/\n<=70368744177664:=by
 simp_all[room,h,aM,rY]
theorem Fv{t U ty el:TypeId}{te:TI}(Z:iG P el te)(m:cA te te.zero=ag)(o:P.underlying t=ab (.slice el)){base:Option Addr}{sLen sCap n:Nat}{x:Value}{olds news:List Value}
  (hold:sLen=0/\olds=[]∨∃a,base=ab a/\olds.length=sLen*te.size/\∀j v,olds[j]? =ab v->w.cell? (a.add j)=ab v) (b:Src P te.size U x n news w) (g:sCap< sLen+n) (p:room (sLen+n) te.bytes=ag):
  ∃(cap:Nat) (A:List Value) (w':World),(mi #[t,U] ty #[.slice base sLen sCap,x]).run P w=.ok (.slice (ab ⟨w.heap.size,0,ae⟩) (sLen+n) cap) w'/\mA w w' ((olds++news)++A)/\Below w.heap.size w w'/\
   ((olds++news)++A).length=cap*te.size/\sLen+n<=cap/\cap<=fv:=by
 obtain⟨C,D⟩:=aeZ p;obtain⟨i,q,k,r,s⟩:=Z.info;obtain⟨k1,_,l⟩:=nR m;obtain⟨z,u,z2⟩:=s _ rfl l;have c:z.cells.size=te.size:=by have:=(z2.cells l).wd;grind
 rw[<-k]at b hold;have I:Mr (sLen+n) sCap*i.bytes<=281474976710656:=growslice_fits g (by rw[r];omega)
 have holds:(UQ i.size sLen (.slice base sLen sCap)).run P w.drew=.ok olds.toArray w.drew:=by
  rcases hold with⟨rfl,rfl⟩|⟨a,rfl,h1,h2⟩
  .cases base with
   |none=>rfl
   |some a=>exact run_firstCells_some w.drew i.size 0 a 0 sCap [] (by simp) (λj v e=>by trivial)
  exact run_firstCells_some w.drew i.size sLen a sLen sCap olds h1 (by trivial)
 have d:=grownCap_ge w (sLen+n) sCap el;have y:=grownCap_le_maxLen w (sLen+n) sCap el (by grind[maxLen])
 have J:(kf z.cells (grownCap w (sLen+n) sCap el-(sLen+n))).toList.length=(grownCap w (sLen+n) sCap el-(sLen+n))*te.size:=by simp[size_zeroCells,c]
 have f:olds.length=sLen*i.size:=by
  grind
 refine⟨grownCap w (sLen+n) sCap el,(kf z.cells (grownCap w (sLen+n) sCap el-(sLen+n))).toList,_,run_append_grow_src w t U ty el i z o q u base sLen sCap olds holds x n news b g (by omega) I,?_,?_,?_,d,?_⟩
 .have h1:=mA.alloc w.drew ((olds++news).toArray++kf z.cells (grownCap w (sLen+n) sCap el-(sLen+n))) el;have h2:((olds++news).toArray++kf z.cells (grownCap w (sLen+n) sCap el-(sLen+n))).toList=(olds++news)++(kf z.cells (grownCap w (sLen+n) sCap el-(sLen+n))).toList:=by simp
  rw[h2]at h1;exact⟨(eJ.Ax (G5 w)).trans h1.keep,h1.size,h1.cell,h1.frozen⟩
 .exact (G5 w).alloc (aL _) _
 .rw [dH,dH,f,b.newsLen,J,k,<-ns,<-ns];congr 1;omega
 trivial
theorem HR.auF(m:HR B X O w h){w':World}{b g s0 R:Nat}{l0:List D}{bi:BI}(N:ar h b=ab (.arr g s0 R l0))(hM:X.M b=ab bi)(hg:bi.g=g)(hfx:bi.fix=af)(hB:Below B w w'){cs:List Value}(hw:mA w w' cs)
  {s cap ro:Nat} {l:List D} {aX:List (List Value)} {rest:List Value} (S:cs.length=cap*s) (F:cap<=fv) (U:l.length<=cap) (G:ro<=l.length) (hl:bI X.C l af aX) (H:bl s aX) (T:cs=aX.flatten++rest):
  ∃X' O',HR B X' O' w' (aI h b (.arr (g+1) s ro l))/\Up B X w h.length X' w'/\aq X' (.own b (g+1) 0 l.length af) ag [.slice (ab ⟨w.heap.size,0,ae⟩) l.length cap]/\h.length<=(aI h b (.arr (g+1) s ro l)).length/\FR X O w h X' O' w' (aI h b (.arr (g+1) s ro l)):=by
 have p:=e8 N;have z:=dj p;let I:Addr:=⟨w.heap.size,0,ae⟩;let bj:BI:=⟨g+1,ab I,s,cap,af⟩;let C:IV:=λa=>if∃j,j< ro*s/\a=I.add j then w'.cell? a else X.C a
 let Y:Cx:={X with C:=C,M:=λc=>if c=b then ab bj else X.M c}
 let Q:Nat->Addr->Prop:=λc=>if c=b then λa=>∃j,ro*s<=j/\j< cap*s/\a=I.add j else O c
 have V:∀a,(∃j,ro*s<=j/\j< cap*s/\a=I.add j)->Q b a:=λa q=>by grind
 have K:∀c a,c≠b->O c a->Q c a:=λc a hc q=>by grind
 have W:=hw.size;have hC0:∀a v,X.C a=ab v->a.block< w.heap.size:=λa v e=>yr w a (m.ci a v e)
 have Z:∀j,(I.add j).block=w.heap.size:=λj=>by rw[Addr.y6]
 have x:CI X.C w':=m.ci.keep hw.keep;have n:X.C.le C:=λa v e=>by
  grind
 have hCI:CI C w':=⟨λa v e=>by
  have e:(if∃j,j< ro*s/\a=I.add j then w'.cell? a else X.C a)=ab v:=e;split at e<;>try grind
  exact x a v e,Gh.gm n x.gl⟩
 have t:∀a v,C a=ab v->X.C a=ae->B<=a.block:=λa v e f=>by
  have e:(if∃j,j< ro*s/\a=I.add j then w'.cell? a else X.C a)=ab v:=e;split at e
  .rename_i q;obtain⟨j,_,rfl⟩:=q;simp[Z,m.wb]
  grind
 have L:X.le h.length Y:=⟨n,λc ci hc e=>by
  grind,λ_ _ e=>e⟩
 have J:cK w'.cell? I cs:=λj v e=>by rw[show I.add j=⟨w.heap.size,j,ae⟩from y8 _ _];exact hw.cell j v e
 have axe:aX.flatten.length=l.length*s:=by rw[H.len,(cz.1 hl).len]
 have hmul:l.length*s<=cap*s:=eA _ U;have axi:ro*s<=l.length*s:=eA _ G;refine⟨Y,Q,⟨λc k e=>?_,λc a o=>?_,λc d a o y=>?_,λc ci e=>?_,hCI,b8 m.wb (dj W)⟩,⟨L,hB,t,λr o e _=>hw.keep.obj r o e⟩,?_,?_,⟨λc ci e f=>?_,λc ci e f=>?_,λc ci e f a o=>?_,λc ci e f a o v ev=>⟨hw.keep.cell _ _ ev,hw.keep.frozen _ _ ev⟩,λc ci e f r o ob eo _=>hw.keep.obj _ _ eo,λc e=>?_,λc _ e f=>?_⟩⟩
 .rw [bR h b c _ z]at e;by_cases A:c=b
  .subst A;simp only[if_true]at e;cases e;refine⟨bj,by simp[Y],rfl,rfl,⟨U,G⟩,F,.inr ⟨rfl,I,aX,rfl,rfl,hl.mono n,H,?_,?_,?_⟩⟩
   .exact λj v e=>J j v (by grind)
   .intro j v e;rw[pc]at e;split at e
    .rename_i hj;show(if _ then _ else _)=_;rw[aK ⟨j,hj,rfl⟩];exact J j v (by grind)
    trivial
   intro j h1 h2;have Zu:j< cs.length:=by rw[S];omega
   refine⟨V _ ⟨j,h1,h2,rfl⟩,⟨cs[j],J j _ (by simp)⟩,?_⟩
   rw[show I.add j=⟨w.heap.size,j,ae⟩from y8 _ _];exact hw.frozen j Zu
  simp only[ax A]at e;exact(m.dO c k e).later m.lt L (by simp[Y,A]) hw.keep (λa o=>K c a A o)
 .by_cases A:c=b
  .have o:(if c=b then λa=>∃j,ro*s<=j/\j< cap*s/\a=I.add j else O c) a:=o
   rw[aK A]at o;obtain⟨j,h1,h2,rfl⟩:=o;refine⟨by simp[Z,m.wb],by grind,?_⟩
   show(if _ then _ else _)=_;rw[ax]
   .cases hx:X.C (I.add j)with
    |none=>rfl
    |some v=>grind
   rintro⟨i,hi,he⟩;have:=Addr.pj (a:=I) rfl he;omega
  have o:(if c=b then λa=>∃j,ro*s<=j/\j< cap*s/\a=I.add j else O c) a:=o
  rw[ax A]at o;obtain⟨q1,q2,q3⟩:=m.own c a o;grind
 .have o:(if c=b then λa=>∃j,ro*s<=j/\j< cap*s/\a=I.add j else O c) a:=o
  have y:(if d=b then λa=>∃j,ro*s<=j/\j< cap*s/\a=I.add j else O d) a:=y
  by_cases A:c=b<;>by_cases u:d=b
  .rw [A,u]
  .rw [aK A]at o;rw[ax u]at y;obtain⟨j,_,_,rfl⟩:=o;have:=(m.own d _ y).2.1;rw[Z]at this;omega
  .rw [ax A]at o;rw[aK u]at y;obtain⟨j,_,_,rfl⟩:=y;have:=(m.own c _ o).2.1;rw[Z]at this;omega
  rw[ax A]at o;rw[ax u]at y;exact m.gJ c d a o y
 .rw [b9,aK p];have e:(if c=b then ab bj else X.M c)=ab ci:=e;split at e
  .rename_i A;rw[A];exact p
  exact m.lt c ci e
 .simp only[aq];refine⟨_,rfl,⟨_,_,rfl,U,by omega,.inr ⟨_,rfl⟩⟩,bj,by simp[Y],aL _,λ_=>⟨_,_,rfl,U,by omega,by show 0+cap<=cap;omega,(λh=>by cases h),.inr ⟨I,rfl,rfl,by simp[I]⟩⟩⟩
 .rw [b9,aK p];exact aL _
 .have A:c≠b:=λq=>by subst q;rw[N]at f;cases f
  rw[bR h b c _ z,ax A];exact f
 .have A:c≠b:=λq=>by subst q;rw[N]at f;cases f
  simp[Y,A,e]
 .have A:c≠b:=λq=>by subst q;rw[N]at f;cases f
  exact K c a A o
 .rw [bR h b c _ z]at e;split at e
  .cases e
  exact e
 grind
theorem agj{α:Type}{l:List α}{n:Nat}(h:n<=l.length):ir l 0 n=l.take n:=by rw[CQ l 0 n (by omega)];simp
theorem aas{l:List D}:isNone l=ag↔l=[]:=by cases l<;>simp[isNone]
theorem JP{size A n:Nat}{x:Value}{news:List Value}(I:Src P size A x n news w)(h:n=0):news=[]:=tm (by rw[I.newsLen,h,tw])
theorem ajl(p:HR B X O w h){aC t tx ty el:Nat}{te:TI}(uq:iG P el te)(hz:cA te te.zero=ag)(hk:P.underlying t=ab (.slice el))(hn:ar h aC=ae)(hM:X.M aC=ae)(hle:aC<=h.length){s v:V}{new:List D}{h':Heap}
  (e:Cq te aC s new h=ab (v,h')) {vs vx:Value} (rs:aq X s ag [vs]) {aX:List (List Value)} (K:Src P te.size tx vx new.length aX.flatten w) (x:bI X.C new af aX) (R:bl te.size aX):
  dK P B X O w h (mi #[t,tx] ty #[vs,vx]) v h':=by
 obtain⟨i,i1,i2,i3,i4⟩:=uq.info;unfold Cq at e;split at e
 .rename_i b g off len aP;have rs0:=rs;simp only[aq]at rs;obtain⟨y,ey,⟨a,cap,e1,e2,e3,e4⟩,bi,qI,Zj,zQ⟩:=rs;cases ey;subst e1;split at e
  .rename_i g' sz ro l hb;obtain⟨bj,b1,b2,b3,b4,b5,b6⟩:=p.dO b _ hb;rw[qI]at b1;cases b1;cases aP with
   |true=>
    simp only[ao]at e;cases N:isNone new with
    |true=>
     rw[N,ao]at e;cases e;have:=aas.1 N;subst this;have S:aX.flatten=[]:=JP K rfl;rw[S,<-i2]at K;have J:=A4 (w:=w) (ty:=ty) hk i1 K (base:=a) (sLen:=len) (sCap:=cap) (by omega) (a:=⟨0,0,ae⟩) (λh=>absurd rfl h) rfl (λj q=>by trivial)
     simp only[putCells]at J;exact .same p J rs0
    |false=>
     rw[N,au]at e;obtain⟨r,e⟩:=aU e;simp only[aM]at r;obtain⟨T,F,U⟩:=r;obtain⟨Dr,IA⟩:=tY T;cases e;rw[bz]at U;have F:=dU F;subst F;obtain⟨a',CD,w1,w2,w3,w4,w5,w6⟩:=zQ (by omega)
     cases w1;have lR:=w5 rfl;rw[lR]at w2 w4 w6|-;clear lR;have ZM:0< new.length:=by
      rcases yE new.length with h|h
      .have:=tm h;subst this;trivial
      omega
     rw[CQ l off len IA];have W:((l.drop off).take len).length=len:=by grind
     obtain⟨Z,o1,o2,o3⟩:∃Z,bI X.C ((l.drop off).take len) af Z/\bl te.size Z/\(len=0/\Z.flatten=[]∨∃I,a=ab I/\Z.flatten.length=len*te.size/\∀j v,Z.flatten[j]? =ab v->w.cell? (I.add j)=ab v):=by
      by_cases G:len=0
      .subst G;exact⟨[],by rfl,(λ_ h=>by cases h),.inl ⟨rfl,rfl⟩⟩
      rcases w6 with w6|⟨I,H,Y,k⟩<;>try trivial
      rcases b6 with b6|⟨es,a1,d,k1,k2,k3,Q,k5,k6,k7⟩
      .omega
      rw[H]at k1;cases k1;refine⟨(d.drop off).take len,cz.2 (((cz.1 k3).drop off).take len),bl.take (bl.drop Q off) len,.inr ⟨_,k,?_,?_⟩⟩
      .rw [(bl.take (bl.drop Q off) len).len,(((cz.1 k3).drop off).take len).len,W]
      rw[bl.ll (bl.drop Q off),bl.ug Q,es];exact(k5.drop Y (off*te.size)).take _
     obtain⟨z,rest,w',g1,g2,g3,g4,g5,g6⟩:=Fv (w:=w) (ty:=ty) uq hz hk (base:=a) (sLen:=len) (sCap:=len) (olds:=Z.flatten) o3 K (by omega) U
     have nJ:Z.flatten++aX.flatten=(Z++aX).flatten:=by simp
     rw[nJ]at g2 g4;have A:((l.drop off).take len++new).length=len+new.length:=by rw[dH,W]
     obtain⟨X',O',H,Y,k,q4,q5⟩:=D7 p hn hM hle (g3.mono p.wb) g2 (s:=te.size) (cap:=z) (l:=(l.drop off).take len++new) (aX:=Z++aX) (rest:=rest) g4 g6 (by rw[A];exact g5) (cz.2 ((cz.1 o1).app (cz.1 x))) (o2.app R) rfl
     rw[A]at k;exact⟨_,_,X',O',g1,H,Y,by rw[bz];exact k,q4,q5⟩
   |false=>
    simp only[au]at e;obtain⟨r,OH⟩:=aU e;clear e;cases OH;simp only[aM]at r;obtain⟨T,PV,uw,F,U⟩:=r;obtain⟨Dr,IA⟩:=tY T;subst Dr;have PV:=dU PV;subst PV;have uw:=rY uw;have F:=dU F;subst F;rw[bz]at U|-;have hlen:len<=l.length:=by omega
    rw[agj hlen];have W:(l.take len).length=len:=by rw[gi];omega
    have A:(l.take len++new).length=len+new.length:=by rw[dH,W]
    obtain⟨a',CD,w1,w2,w3,w4,_,w6⟩:=zQ b2.symm;cases w1;rw[db]at w4;obtain⟨Z,o1,o2,o3⟩:∃Z,bI X.C (l.take len) af Z/\bl te.size Z/\(len=0/\Z.flatten=[]∨∃I,a=ab I/\Z.flatten.length=len*te.size/\∀j v,Z.flatten[j]? =ab v->w.cell? (I.add j)=ab v):=by
     by_cases G:len=0
     .subst G;exact⟨[],by simp[bI],(λ_ h=>by cases h),.inl ⟨rfl,rfl⟩⟩
     rcases w6 with w6|⟨I,H,Y,k⟩<;>try grind
     rcases b6 with b6|⟨es,a1,d,k1,k2,k3,Q,k5,k6,k7⟩
     .omega
     rw[H]at k1;cases k1;rw[tw,Addr.add_zero]at k;refine⟨d.take len,cz.2 ((cz.1 k3).take len),bl.take Q len,.inr ⟨_,k,?_,?_⟩⟩
     .rw [(bl.take Q len).len,((cz.1 k3).take len).len,W]
     rw[bl.ll Q];exact k5.take _
    by_cases o:len+new.length<=cap
    ·-- in its place
     rw[<-i2]at K;let bk:BI:=⟨g+1,bi.base,te.size,cap,af⟩;by_cases Ir:cap=0
     .have PM:len=0:=by omega
      have zM:new.length=0:=by omega
      have S:aX.flatten=[]:=JP K zM;rw[S]at K;have J:=A4 (w:=w) (ty:=ty) hk i1 K (base:=a) (sLen:=len) (sCap:=cap) o (a:=⟨0,0,ae⟩) (λh=>absurd rfl h) rfl (λj q=>by simp at q)
      simp only[putCells]at J;have Dj:X.le h.length (X.eg b bk):=⟨.refl _,λc ci r e=>by
       by_cases f:c=b
       .subst f;rw[qI]at e;cases e;exact⟨bk,Cx.fN _ _ _,by show bi.g<=g+1;omega,λhh=>absurd hh (by show bi.g≠g+1;omega),λhh=>by rw[b3]at hh;cases hh⟩
       exact⟨ci,by rw[Cx.fX _ _ f];exact e,aL _,λ_=>rfl,λ_=>rfl⟩,λ_ _ e=>e⟩
      have uo:(X.eg b bk).lt h.length:=λc ci e=>by
       by_cases f:c=b
       .subst f;exact e8 hb
       rw[Cx.fX _ _ f]at e;exact p.lt c ci e
      have aI:=p.put (e8 hb) Dj rfl (λc r=>Cx.fX _ _ r) uo ⟨0,0,ae⟩ rfl [] 0 (λj q=>by simp at q) (λj q=>by simp at q) (.arr (g+1) te.size ro (l.take len++new)) ⟨bk,Cx.fN _ _ _,rfl,rfl,⟨by rw[A];exact o,by rw[A];omega⟩,by simp only[fv];show cap<=_;omega,.inl Ir⟩
      refine⟨_,w,_,O,J,aI,⟨Dj,.refl _ _,λa v e hn=>(by simp only[Cx.eg]at e;rw[hn]at e;cases e),λ_ _ e _=>e⟩,?_,by rw[b9,aK (e8 hb)];exact aL _,FR.put p hb (λc r=>Cx.fX _ _ r) ⟨0,0,ae⟩ [] 0 (λj q=>by simp at q) _⟩
      simp only[aq];rw[show len+new.length=0 from by omega]
      exact⟨_,rfl,⟨a,cap,rfl,bH _,by decide,.inl Ir⟩,bk,Cx.fN _ _ _,aL _,λ_=>⟨a,cap,rfl,bH _,by decide,by show 0+cap<=cap;omega,(λh=>by cases h),.inl Ir⟩⟩
     obtain⟨I,H,Y,k⟩:=w6.resolve_left Ir;rw[tw,Addr.add_zero]at k;obtain⟨es,a1,d,k1,k2,k3,Q,k5,k6,k7⟩:=b6.resolve_left (by omega)
     rw[H]at k1;cases k1;subst k;have oD:aX.flatten.length=new.length*te.size:=by rw[R.len,(cz.1 x).len]
     have ZA:ro*te.size<=len*te.size:=eA _ uw;have Iz:(len+new.length)*te.size<=bi.cap*te.size:=eA _ (by omega)
     rw[ns]at Iz;have L:fZ w (O b) (I.add (len*te.size)) 0 aX.flatten.length:=k7.sub k2 ZA (by omega)
     have wG:=Addr.iI I (len*te.size) k2;have J:=A4 (w:=w) (ty:=ty) hk i1 K (base:=some I) (sLen:=len) (sCap:=cap) o (a:=I) (λ_=>rfl) k2 (λj q=>by rw[i2];exact(L j (bH _) q).2)
     rw[i2]at J;have Dj:X.le h.length (X.eg b bk):=⟨.refl _,λc ci r e=>by
      by_cases f:c=b
      .subst f;rw[qI]at e;cases e;exact⟨bk,Cx.fN _ _ _,by show bi.g<=g+1;omega,λhh=>absurd hh (by show bi.g≠g+1;omega),λhh=>by rw[b3]at hh;cases hh⟩
      exact⟨ci,by rw[Cx.fX _ _ f];exact e,aL _,λ_=>rfl,λ_=>rfl⟩,λ_ _ e=>e⟩
     have uo:(X.eg b bk).lt h.length:=λc ci e=>by
      by_cases f:c=b
      .subst f;exact e8 hb
      rw[Cx.fX _ _ f]at e;exact p.lt c ci e
     have wq:∀j,j< aX.flatten.length->O b ((I.add (len*te.size)).add (0+j)):=λj q=>by rw[db];exact(L j (bH _) q).1
     have hex:∀j,j< aX.flatten.length->∃u,w.cell? ((I.add (len*te.size)).add (0+j))=ab u:=λj q=>by rw[db];exact(L j (bH _) q).2.1
     have Dm:d.flatten.length=l.length*te.size:=by rw[bl.len Q,(cz.1 k3).len]
     have hm3:len*te.size<=l.length*te.size:=eA _ hlen;have amA:cK (putCells w (I.add (len*te.size)) aX.flatten 0).cell? I ((d.take len)++aX).flatten:=λj v e=>by
      rw[vq,bl.ll Q]at e;have wI:(d.flatten.take (len*te.size)).length=len*te.size:=by rw[gi,Dm];omega
      by_cases q:j< len*te.size
      .rw [gP (by rw[wI];exact q)]at e
       rw[oO _ aX.flatten w 0 _ (λm hm he=>by rw[db,Addr.add_add I _ _ k2]at he;have:=Addr.pj k2 he;omega)]
       exact(k5.take _) j v e
      rw[jE (by rw[wI];omega),wI]at e
      have:=AL (I.add (len*te.size)) wG aX.flatten w 0 hex (j-len*te.size) v e;rw[db,Addr.add_add I _ _ k2,show len*te.size+(j-len*te.size)=j from by omega]at this
      exact this
     have aI:=p.put (e8 hb) Dj rfl (λc r=>Cx.fX _ _ r) uo (I.add (len*te.size)) wG aX.flatten 0 wq hex (.arr (g+1) te.size ro (l.take len++new)) ⟨bk,Cx.fN _ _ _,rfl,rfl,⟨by rw[A];exact o,by rw[A];omega⟩,by show cap<=fv;omega,.inr ⟨rfl,I,d.take len++aX,H,k2,
      cz.2 (((cz.1 k3).take len).app (cz.1 x)),(bl.take Q len).app R,amA,?_,?_⟩⟩
     .refine ⟨_,_,_,O,J,aI,⟨Dj,zg (λln=>AF p L (aL _) (by cases hq:aX.flatten with|nil=>exact absurd hq ln|cons _ _=>simp)),λa v e hn=>(by simp only[Cx.eg]at e;rw[hn]at e;cases e),λ_ _ e l=>pT _ (w9 l) _ w 0 e⟩,?_,by rw[b9,aK (e8 hb)];exact aL _,FR.put p hb (λc r=>Cx.fX _ _ r) _ aX.flatten 0 wq _⟩
      simp only[aq];exact⟨_,rfl,⟨ab I,cap,rfl,o,by omega,.inr ⟨I,rfl⟩⟩,bk,Cx.fN _ _ _,aL _,λ_=>⟨ab I,cap,rfl,o,by omega,by show 0+cap<=cap;omega,(λh=>by cases h),.inr ⟨I,H,k2,by simp⟩⟩⟩
     .rw [vq,bl.ll Q,ah3 (by rw[gi,Dm];omega),ah4,nv ZA]
      exact k6
     exact λj h1 h2=>k7.put _ wG aX.flatten 0 hex j h1 (fY h2 (eA _ w4))
    ·-- in new memory
     obtain⟨z,rest,w',g1,g2,g3,g4,g5,g6⟩:=Fv (w:=w) (ty:=ty) uq hz hk (base:=a) (sLen:=len) (sCap:=cap) (olds:=Z.flatten) o3 K (by omega) U
     have nJ:Z.flatten++aX.flatten=(Z++aX).flatten:=by simp
     rw[nJ]at g2 g4;obtain⟨X',O',H,Y,k,q4,q5⟩:=HR.auF p hb qI b2 b3 (g3.mono p.wb) g2 (s:=te.size) (cap:=z) (ro:=ro) (l:=l.take len++new) (aX:=Z++aX) (rest:=rest) g4 g6 (by rw[A];exact g5) (by rw[A];omega) (cz.2 ((cz.1 o1).app (cz.1 x))) (o2.app R) rfl
     rw[A]at k;exact⟨_,_,X',O',g1,H,Y,k,q4,q5⟩
  trivial
 .rename_i l;obtain⟨r,e⟩:=aU e;rw[aM]at r;obtain⟨hf,U⟩:=r;cases e;rw[bz,bz]at U|-;simp only[aq]at rs;obtain⟨y,ey,a,n,e1,e2,e3,e4⟩:=rs;cases ey;subst e1;obtain⟨Z,o1,o2,o3⟩:∃Z,bI X.C l af Z/\bl te.size Z/\(n=0/\Z.flatten=[]∨∃I,a=ab I/\I.spot=ae/\Z.flatten.length=n*te.size/\cK X.C I Z.flatten):=by
   by_cases G:n=0
   .have:l=[]:=tm (by omega)
    subst this;exact⟨[],by simp[bI],(λ_ h=>by cases h),.inl ⟨G,rfl⟩⟩
   obtain⟨I,d,s0,H,Y,k,q4,q5⟩:=e4.resolve_left G;have pI:=C6 hf k q4 (λh=>by subst h;simp at e2;exact G e2)
   subst pI;exact⟨d,k,q4,.inr ⟨I,H,Y,by rw[bl.len q4,(cz.1 k).len,e2],q5⟩⟩
  cases N:isNone new with
  |true=>
   have:=aas.1 N;subst this;simp only[ao,np,yB,qi];have S:aX.flatten=[]:=JP K rfl;rw[S,<-i2]at K;have J:=A4 (w:=w) (ty:=ty) hk i1 K (base:=a) (sLen:=n) (sCap:=n) (by simp) (a:=⟨0,0,ae⟩) (λh=>absurd rfl h) rfl (λj q=>by simp at q)
   simp only[putCells,qi,yB]at J;have axa:∀b:Addr,a=ab b->True:=λ_ _=>trivial
   let bi:BI:=⟨0,a,te.size,n,af⟩;have Pv:BR (X.eg aC bi) w (λ_=>False) aC (.arr 0 te.size l.length l):=by
    refine⟨bi,Cx.fN _ _ _,rfl,rfl,⟨by show l.length<=n;omega,aL _⟩,e3,?_⟩
    rcases o3 with⟨h0,_⟩|⟨I,p1,p2,p3,p4⟩
    .exact .inl h0
    refine .inr ⟨rfl,I,Z,p1,p2,o1,o2,λj v e=>p.ci _ _ (p4 j v e),λj v e=>p4 j v (by rw[pc]at e;split at e;exact e;cases e),λj h1 h2=>?_⟩
    exfalso;have:n=l.length:=e2;show False;rw[<-this]at h1;exact absurd h2 (by show¬j< n*te.size;omega)
   refine⟨_,w,X.eg aC bi,_,J,p.add hn hM hle (.refl w) (aL _) bi (λ_=>False) _ (λ_ h=>h.elim) Pv,Up.add hM (.refl _ _) (.refl w) _ bi,?_,?_,.add hM hle (.refl w) bi _ _⟩
   .simp only[aq];have oD:n=l.length:=e2;refine⟨_,rfl,⟨a,n,by rw[oD],by omega,by rw[<-oD];exact e3,?_⟩,bi,Cx.fN _ _ _,aL _,λ_=>⟨a,n,by rw[oD],by omega,by rw[<-oD];exact e3,by show 0+n<=n;omega,(λh=>by cases h),?_⟩⟩
    .rcases o3 with⟨h0,_⟩|⟨I,p1,_⟩
     .exact .inl h0
     exact .inr ⟨I,p1⟩
    rcases o3 with⟨h0,_⟩|⟨I,p1,p2,_⟩
    .exact .inl h0
    exact .inr ⟨I,p1,p2,by rw[tw,Addr.add_zero];exact p1⟩
   rw[b9];split<;>omega
  |false=>
   simp only[au];have ZM:0< new.length:=by
    rcases yE new.length with h|h<;>try trivial
    have:=tm h;subst this;cases N
   obtain⟨z,rest,w',g1,g2,g3,g4,g5,g6⟩:=Fv (w:=w) (ty:=ty) uq hz hk (base:=a) (sLen:=n) (sCap:=n) (olds:=Z.flatten) (o3.imp id (λ⟨I,p1,_,p3,p4⟩=>⟨I,p1,p3,λj v e=>p.ci _ _ (p4 j v e)⟩)) K (by omega) (by rw[e2];exact U)
   have nJ:Z.flatten++aX.flatten=(Z++aX).flatten:=by simp
   rw[nJ]at g2 g4;have A:(l++new).length=n+new.length:=by rw[dH,e2]
   obtain⟨X',O',H,Y,k,q4,q5⟩:=D7 p hn hM hle (g3.mono p.wb) g2 (s:=te.size) (cap:=z) (l:=l++new) (aX:=Z++aX) (rest:=rest) g4 g6 (by rw[A];exact g5) (cz.2 ((cz.1 o1).app (cz.1 x))) (o2.app R) rfl
   rw[A]at k;rw[<-e2];exact⟨_,_,X',O',g1,H,Y,k,q4,q5⟩
 trivial
end
section
variable {P:Program} {B:Nat} {X:Cx} {O:Nat->Addr->Prop} {w:World} {h:Heap} {E:Env}
theorem V7{te:TI}:∀{l:List V},vX te l=ag->∀v∈l,cA te v=ag
 |[],_,v,A=>by cases A
 |u::l,e,v,A=>by
  have e:(bif cA te u then vX te l else af)=ag:=e;cases I:cA te u with
  |false=>grind
  |true=>
   rw[I]at e;rcases du.1 A with rfl|A
   .omega
   exact V7 e v A
theorem aws{te:TI}{l:List V}(I:vX te l=ag){A:List (List Value)}(r:bM X l af A):bl te.size A:=by
 have h1:=V7 I;clear I;intro ws hw;induction l generalizing A with
 |nil=>grind[bM]
 |cons v l ih=>
  obtain⟨J,Z,rfl,U,a⟩:=r;rcases du.1 hw with rfl|hw
  .rw [aq.wd U];exact(nR (h1 v (by simp))).1
  grind
theorem awu(k:HR B X O w h){x:V}{new:List V}(e:x.Bs h=ab new){c:Value}(r:aq X x ag [c]):
  ∃a n cap,c=.slice a n cap/\n=new.length/\(n=0∨∃J A,a=ab J/\bM X new af A/\cK w.cell? J A.flatten):=by
 unfold V.Bs at e;split at e
 .rename_i b g off len aP;split at e
  .rename_i D sz d l;obtain⟨m,e⟩:=aU e;cases e;obtain⟨F,U⟩:=tY m;rw[CQ d off len U];obtain⟨y,o,_,bi,p,q,I⟩:=r;cases o;obtain⟨bj,h1,h2,G,H,K,f⟩:=k.dO b _ l;rw[p]at h1;cases h1;obtain⟨a,cap,s,L,M,N,Q,i⟩:=I (by omega)
   subst s;have Z:((d.drop off).take len).length=len:=by grind
   refine⟨a,len,cap,rfl,Z.symm,?_⟩;by_cases R:len=0<;>try grind
   right;rcases i with i|⟨J,t,u,v⟩
   .omega
   rcases f with f|⟨es,S,A,k1,k2,z,j,C,T⟩
   .omega
   rw[t]at k1;cases k1;refine⟨_,(A.drop off).take len,v,fi.2 (((fi.1 z).drop off).take len),?_⟩;rw[bl.ll (bl.drop j off),bl.ug j,es];exact(C.drop u (off*sz)).take _
  trivial
 trivial
theorem bM.acQ{X:Cx}:∀{l:List V} {A:List (List Value)},bM X l af A->∀v∈A.flatten,v.oneCell'=ag
 |[],A,r,v,I=>by grind[bM]
 |u::l,A,r,v,I=>by
  obtain⟨ws,Z,rfl,J,U⟩:=r;rw[List.flatten_cons,List.mem_append]at I;rcases I with I|I
  .exact aq.mV J v I
  exact bM.acQ U v I
theorem asc(m:EnvTy P E)(o:HR B X O w h){te:TI}{U:Nat}{x:V}{new:List V}(J:∃k,E.kind U=ab (.an k))(e:x.Bs h=ab new)(b:vX te new=ag){f:Value}(r:aq X x ag [f]):
  ∃A,Src P te.size U f new.length A.flatten w/\bM X new af A/\bl te.size A:=by
 obtain⟨k,J⟩:=J;unfold Env.kind at J;cases g:E.ty U with
 |none=>grind
 |some ti=>
 rw[g]at J;have I:=(m.ty U ti g).kind;rw[hH J]at I;obtain⟨a,n,cap,p,c,q⟩:=awu o e r;subst p;by_cases i:n=0
 .subst i;have s:=tm c.symm;subst s;refine⟨[],?_,by rfl,λ_ h=>by cases h⟩
  cases a
  .exact Src.ofNil w I cap
  rename_i d;exact MB w I d 0 cap [] (by simp) (λj u e=>by trivial) (λ_ h=>by cases h)
 obtain⟨d,A,t,Z,v⟩:=q.resolve_left i;subst t;have l:=aws b Z;refine⟨A,?_,Z,l⟩;rw[<-c];exact MB w I d n cap A.flatten (by rw[l.len,(fi.1 Z).len,c]) v (bM.acQ Z)
theorem HR.auG(J:HR B X O w h){w':World}{b g N:Nat}{R:List V}{bi:BI}(S:ar h b=ab (.cG g N R))(T:X.M b=ab bi)(hg:bi.g=g)(W:bi.fix=af)(hB:Below B w w'){cs:List Value}(hw:mA w w' cs)
  {s cap:Nat} {l:List V} {aX:List (List Value)} {rest:List Value} (y:cs.length=cap*s) (u:cap<=fv) (U:l.length<=cap) (L:bM X l af aX) (z:bl s aX) (D:cs=aX.flatten++rest):
  ∃X' O',HR B X' O' w' (aI h b (.cG (g+1) s l))/\Up B X w h.length X' w'/\aq X' (.own b (g+1) 0 l.length af) ag [.slice (ab ⟨w.heap.size,0,ae⟩) l.length cap]/\h.length<=(aI h b (.cG (g+1) s l)).length/\FR X O w h X' O' w' (aI h b (.cG (g+1) s l)):=by
 have n:=e8 S;have f:=dj n;let I:Addr:=⟨w.heap.size,0,ae⟩;let bj:BI:=⟨g+1,ab I,s,cap,af⟩;let Q:Nat->Addr->Prop:=λc=>if c=b then λa=>∃j,j< cap*s/\a=I.add j else O c
 have F:∀a,(∃j,j< cap*s/\a=I.add j)->Q b a:=λa t=>by grind
 have G:∀c a,c≠b->O c a->Q c a:=λc a Y t=>by grind
 have H:=hw.size;have hC0:∀a v,X.C a=ab v->a.block< w.heap.size:=λa v e=>yr w a (J.ci a v e)
 have x:∀j,(I.add j).block=w.heap.size:=λj=>by rw[Addr.y6]
 have p:X.le h.length (X.eg b bj):=⟨.refl _,λc ci Y e=>by
  by_cases A:c=b
  .subst A;rw[T]at e;cases e;exact⟨bj,Cx.fN _ _ _,by grind,λt=>absurd t (by grind),λt=>by grind⟩
  exact⟨ci,by simp[Cx.fX,A,e],aL _,λ_=>rfl,λ_=>rfl⟩,λ_ _ e=>e⟩
 have Z:cK w'.cell? I cs:=λj v e=>by rw[show I.add j=⟨w.heap.size,j,ae⟩from y8 _ _];exact hw.cell j v e
 refine⟨X.eg b bj,Q,⟨λc k e=>?_,λc a o=>?_,λc d a o m=>?_,λc ci e=>?_,J.ci.keep hw.keep,b8 J.wb (dj H)⟩,⟨p,hB,λa v e i=>(by simp_all[Cx.eg,i]),λr o e _=>hw.keep.obj r o e⟩,?_,?_,⟨λc ci e i=>?_,λc ci e i=>?_,λc ci e i a o=>?_,λc ci e i a o v ev=>⟨hw.keep.cell _ _ ev,hw.keep.frozen _ _ ev⟩,λc ci e i r o ob eo _=>hw.keep.obj _ _ eo,λc e=>?_,λc _ e i=>?_⟩⟩
 .rw [bR h b c _ f]at e;by_cases A:c=b
  .subst A;simp only[if_true]at e;cases e;refine⟨bj,Cx.fN _ _ _,rfl,rfl,U,u,.inr ⟨rfl,I,aX,rfl,rfl,L.mono p _ _ _ (bM.low J.lt _ _ _ L),z,?_,?_⟩⟩
   .exact λj v e=>Z j v (by grind)
   intro j _ h2;have K:j< cs.length:=by rw[y];omega
   refine⟨F _ ⟨j,h2,rfl⟩,⟨cs[j],Z j _ (by simp)⟩,?_⟩
   rw[show I.add j=⟨w.heap.size,j,ae⟩from y8 _ _];exact hw.frozen j K
  simp only[ax A]at e;exact(J.dO c k e).later J.lt p (Cx.fX _ _ A) hw.keep (λa o=>G c a A o)
 .by_cases A:c=b
  .have o:(if c=b then λa=>∃j,j< cap*s/\a=I.add j else O c) a:=o
   rw[aK A]at o;obtain⟨j,h2,rfl⟩:=o;refine⟨by simp[x,J.wb],by grind,?_⟩
   show X.C _=ae;cases hx:X.C (I.add j)with
   |none=>rfl
   |some v=>grind
  have o:(if c=b then λa=>∃j,j< cap*s/\a=I.add j else O c) a:=o
  rw[ax A]at o;obtain⟨q1,q2,q3⟩:=J.own c a o;exact⟨q1,by omega,q3⟩
 .have o:(if c=b then λa=>∃j,j< cap*s/\a=I.add j else O c) a:=o
  have m:(if d=b then λa=>∃j,j< cap*s/\a=I.add j else O d) a:=m
  by_cases A:c=b<;>by_cases q:d=b
  .omega
  .rw [aK A]at o;rw[ax q]at m;obtain⟨j,_,rfl⟩:=o;have:=(J.own d _ m).2.1;grind
  .rw [ax A]at o;rw[aK q]at m;obtain⟨j,_,rfl⟩:=m;have:=(J.own c _ o).2.1;grind
  rw[ax A]at o;rw[ax q]at m;exact J.gJ c d a o m
 .rw [b9,aK n];by_cases A:c=b
  .omega
  rw[Cx.fX _ _ A]at e;exact J.lt c ci e
 .simp only[aq];refine⟨_,rfl,⟨_,_,rfl,U,by omega,.inr ⟨_,rfl⟩⟩,bj,Cx.fN _ _ _,aL _,λ_=>⟨_,_,rfl,U,by omega,by grind,(λh=>by cases h),.inr ⟨I,rfl,rfl,by simp[I]⟩⟩⟩
 .simp[b9,aK,n,aL]
 .have A:c≠b:=λt=>by grind
  rw[bR h b c _ f,ax A];omega
 .have A:c≠b:=λt=>by grind
  simp[Cx.fX,A,e]
 .grind
 .rw [bR h b c _ f]at e;grind
 rw[bR h b c _ f]at i;split at i<;>try trivial
 rename_i A;simp[Cx.fX,A,e]
theorem ajm(x:HR B X O w h){aC t tx ty el:Nat}{te:TI}(T:iG P el te)(hz:cA te te.zero=ag)(hk:P.underlying t=ab (.slice el))(hn:ar h aC=ae)(hM:X.M aC=ae)(hle:aC<=h.length){s v:V}{new:List V}{h':Heap}
  (e:zb te aC s new h=ab (v,h')) {vs vx:Value} (rs:aq X s ag [vs]) {aX:List (List Value)} (W:Src P te.size tx vx new.length aX.flatten w) (f:bM X new af aX) (L:bl te.size aX):
  dK P B X O w h (mi #[t,tx] ty #[vs,vx]) v h':=by
 obtain⟨i,i1,i2,i3,i4⟩:=T.info;unfold zb at e;split at e
 .rename_i b g off len aP;simp only[aq]at rs;obtain⟨y,ey,⟨a,cap,e1,Y,e3,e4⟩,bi,qI,Zj,zQ⟩:=rs;cases ey;subst e1;split at e
  .rename_i g' sz l N;obtain⟨bj,b1,b2,b3,b4,b5,b6⟩:=x.dO b _ N;rw[qI]at b1;cases b1;obtain⟨q,OH⟩:=aU e;clear e;cases OH;simp only[aM]at q;obtain⟨axh,Py,z,wH,U⟩:=q;obtain⟨Dr,IA⟩:=tY Py;subst Dr;have z:=dU z;subst z;have wH:=dU wH;subst wH;rw[bz]at U|-;have S:len<=l.length:=by omega
   rw[agj S];have Zx:(l.take len).length=len:=by grind
   have A:(l.take len++new).length=len+new.length:=by grind
   obtain⟨a',CD,w1,w2,w3,w4,_,w6⟩:=zQ b2.symm;cases w1;rw[db]at w4;obtain⟨Z,o1,o2,o3⟩:∃Z,bM X (l.take len) af Z/\bl te.size Z/\(len=0/\Z.flatten=[]∨∃I,a=ab I/\Z.flatten.length=len*te.size/\∀j v,Z.flatten[j]? =ab v->w.cell? (I.add j)=ab v):=by
    by_cases D:len=0
    .subst D;exact⟨[],by rfl,(λ_ h=>by cases h),.inl ⟨rfl,rfl⟩⟩
    rcases w6 with w6|⟨I,F,q2,o⟩<;>try grind
    rcases b6 with b6|⟨es,a1,J,k1,k2,k3,k4,k5,k6⟩
    .omega
    rw[F]at k1;cases k1;rw[tw,Addr.add_zero]at o;refine⟨J.take len,fi.2 ((fi.1 k3).take len),bl.take k4 len,.inr ⟨_,o,?_,?_⟩⟩
    .rw [(bl.take k4 len).len,((fi.1 k3).take len).len,Zx]
    rw[bl.ll k4];exact k5.take _
   by_cases d:len+new.length<=cap
   ·-- in its place
    rw[<-i2]at W;let bk:BI:=⟨g+1,bi.base,te.size,cap,af⟩;have G:X.le h.length (X.eg b bk):=⟨.refl _,λc ci q e=>by
     by_cases H:c=b
     .subst H;rw[qI]at e;cases e;exact⟨bk,Cx.fN _ _ _,by show bi.g<=g+1;omega,λhh=>absurd hh (by show bi.g≠g+1;omega),λhh=>by rw[b3]at hh;cases hh⟩
     exact⟨ci,by rw[Cx.fX _ _ H];exact e,aL _,λ_=>rfl,λ_=>rfl⟩,λ_ _ e=>e⟩
    have uo:(X.eg b bk).lt h.length:=λc ci e=>by
     by_cases H:c=b
     .subst H;exact e8 N
     rw[Cx.fX _ _ H]at e;exact x.lt c ci e
    by_cases Q:cap=0
    .have PM:len=0:=by omega
     have zM:new.length=0:=by omega
     have zO:aX.flatten=[]:=JP W zM;rw[zO]at W;have k:=A4 (w:=w) (ty:=ty) hk i1 W (base:=a) (sLen:=len) (sCap:=cap) d (a:=⟨0,0,ae⟩) (λh=>absurd rfl h) rfl (λj p=>by simp at p)
     simp only[putCells]at k;have aI:=x.put (e8 N) G rfl (λc q=>Cx.fX _ _ q) uo ⟨0,0,ae⟩ rfl [] 0 (λj p=>by simp at p) (λj p=>by simp at p) (.cG (g+1) te.size (l.take len++new)) ⟨bk,Cx.fN _ _ _,rfl,rfl,by rw[A];exact d,by simp only[fv];show cap<=_;omega,.inl Q⟩
     refine⟨_,w,_,O,k,aI,⟨G,.refl _ _,λa v e hn=>(by simp only[Cx.eg]at e;rw[hn]at e;cases e),λ_ _ e _=>e⟩,?_,by rw[b9,aK (e8 N)];exact aL _,FR.put x N (λc q=>Cx.fX _ _ q) ⟨0,0,ae⟩ [] 0 (λj p=>by simp at p) _⟩
     simp only[aq];rw[show len+new.length=0 from by omega]
     exact⟨_,rfl,⟨a,cap,rfl,bH _,by decide,.inl Q⟩,bk,Cx.fN _ _ _,aL _,λ_=>⟨a,cap,rfl,bH _,by decide,by show 0+cap<=cap;omega,(λh=>by cases h),.inl Q⟩⟩
    obtain⟨I,F,q2,o⟩:=w6.resolve_left Q;rw[tw,Addr.add_zero]at o;obtain⟨es,a1,J,k1,k2,k3,k4,k5,k7⟩:=b6.resolve_left (by omega)
    rw[F]at k1;cases k1;subst o;have oD:aX.flatten.length=new.length*te.size:=by rw[L.len,(fi.1 f).len]
    have Iz:(len+new.length)*te.size<=bi.cap*te.size:=eA _ (by omega)
    rw[ns]at Iz;have r:fZ w (O b) (I.add (len*te.size)) 0 aX.flatten.length:=k7.sub k2 (bH _) (by omega)
    have wG:=Addr.iI I (len*te.size) k2;have k:=A4 (w:=w) (ty:=ty) hk i1 W (base:=some I) (sLen:=len) (sCap:=cap) d (a:=I) (λ_=>rfl) k2 (λj p=>by rw[i2];exact(r j (bH _) p).2)
    rw[i2]at k;have wq:∀j,j< aX.flatten.length->O b ((I.add (len*te.size)).add (0+j)):=λj p=>by rw[db];exact(r j (bH _) p).1
    have hex:∀j,j< aX.flatten.length->∃u,w.cell? ((I.add (len*te.size)).add (0+j))=ab u:=λj p=>by rw[db];exact(r j (bH _) p).2.1
    have Dm:J.flatten.length=l.length*te.size:=by rw[bl.len k4,(fi.1 k3).len]
    have hm3:len*te.size<=l.length*te.size:=eA _ S;have R:cK (putCells w (I.add (len*te.size)) aX.flatten 0).cell? I ((J.take len)++aX).flatten:=λj v e=>by
     rw[vq,bl.ll k4]at e;have wI:(J.flatten.take (len*te.size)).length=len*te.size:=by rw[gi,Dm];omega
     by_cases p:j< len*te.size
     .rw [gP (by rw[wI];exact p)]at e
      rw[oO _ aX.flatten w 0 _ (λm hm he=>by rw[db,Addr.add_add I _ _ k2]at he;have:=Addr.pj k2 he;omega)]
      exact(k5.take _) j v e
     rw[jE (by rw[wI];omega),wI]at e
     have:=AL (I.add (len*te.size)) wG aX.flatten w 0 hex (j-len*te.size) v e;rw[db,Addr.add_add I _ _ k2,show len*te.size+(j-len*te.size)=j from by omega]at this
     exact this
    have amU:V.lZ h.length (l.take len++new):=bM.low x.lt _ _ _ (fi.2 (((fi.1 k3).take len).app (fi.1 f)));have aI:=x.put (e8 N) G rfl (λc q=>Cx.fX _ _ q) uo (I.add (len*te.size)) wG aX.flatten 0 wq hex (.cG (g+1) te.size (l.take len++new)) ⟨bk,Cx.fN _ _ _,rfl,rfl,by rw[A];exact d,by show cap<=fv;omega,.inr ⟨rfl,I,J.take len++aX,F,k2,
     (fi.2 (((fi.1 k3).take len).app (fi.1 f))).mono G _ _ _ amU,(bl.take k4 len).app L,R,?_⟩⟩
    .refine ⟨_,_,_,O,k,aI,⟨G,zg (λln=>AF x r (aL _) (by cases hq:aX.flatten with|nil=>exact absurd hq ln|cons _ _=>simp)),λa v e hn=>(by simp only[Cx.eg]at e;rw[hn]at e;cases e),λ_ _ e l=>pT _ (w9 l) _ w 0 e⟩,?_,by rw[b9,aK (e8 N)];exact aL _,FR.put x N (λc q=>Cx.fX _ _ q) _ aX.flatten 0 wq _⟩
     simp only[aq];exact⟨_,rfl,⟨ab I,cap,rfl,d,by omega,.inr ⟨I,rfl⟩⟩,bk,Cx.fN _ _ _,aL _,λ_=>⟨ab I,cap,rfl,d,by omega,by show 0+cap<=cap;omega,(λh=>by cases h),.inr ⟨I,F,k2,by simp⟩⟩⟩
    exact λj h1 h2=>k7.put _ wG aX.flatten 0 hex j h1 (fY h2 (eA _ w4))
   ·-- in new memory
    obtain⟨K,rest,w',g1,g2,g3,g4,g5,g6⟩:=Fv (w:=w) (ty:=ty) T hz hk (base:=a) (sLen:=len) (sCap:=cap) (olds:=Z.flatten) o3 W (by omega) U
    have nJ:Z.flatten++aX.flatten=(Z++aX).flatten:=by simp
    rw[nJ]at g2 g4;obtain⟨X',O',F,q2,o,q4,q5⟩:=HR.auG x N qI b2 b3 (g3.mono x.wb) g2 (s:=te.size) (cap:=K) (l:=l.take len++new) (aX:=Z++aX) (rest:=rest) g4 g6 (by rw[A];exact g5) (fi.2 ((fi.1 o1).app (fi.1 f))) (o2.app L) rfl
    rw[A]at o;exact⟨_,_,X',O',g1,F,q2,o,q4,q5⟩
  trivial
 .rename_i l;obtain⟨q,e⟩:=aU e;simp only[aM]at q;obtain⟨hf,hni,U⟩:=q;cases e;rw[bz,bz]at U|-;simp only[aq]at rs;obtain⟨y,ey,a,n,e1,Y,e3,e4⟩:=rs;cases ey;subst e1;obtain⟨Z,o1,o2,o3⟩:∃Z,bI X.C l af Z/\bl te.size Z/\(n=0/\Z.flatten=[]∨∃I,a=ab I/\I.spot=ae/\Z.flatten.length=n*te.size/\cK X.C I Z.flatten):=by
   by_cases D:n=0
   .have:l=[]:=tm (by omega)
    subst this;exact⟨[],by simp[bI],(λ_ h=>by cases h),.inl ⟨D,rfl⟩⟩
   obtain⟨I,J,s0,F,q2,o,q4,q5⟩:=e4.resolve_left D;have pI:=C6 hf o q4 (λh=>by subst h;simp at Y;exact D Y)
   subst pI;exact⟨J,o,q4,.inr ⟨I,F,q2,by rw[bl.len q4,(cz.1 o).len,Y],q5⟩⟩
  have ZM:0< new.length:=by
   rcases yE new.length with h|h<;>try trivial
   have:=tm h;subst this;cases hni
  obtain⟨K,rest,w',g1,g2,g3,g4,g5,g6⟩:=Fv (w:=w) (ty:=ty) T hz hk (base:=a) (sLen:=n) (sCap:=n) (olds:=Z.flatten) (o3.imp id (λ⟨I,p1,_,p3,p4⟩=>⟨I,p1,p3,λj v e=>x.ci _ _ (p4 j v e)⟩)) W (by omega) (by rw[Y];exact U)
  have nJ:Z.flatten++aX.flatten=(Z++aX).flatten:=by simp
  rw[nJ]at g2 g4;have A:(mJ l++new).length=n+new.length:=by rw[dH,oG,List.length_map,Y]
  obtain⟨X',O',F,q2,o,q4,q5⟩:=acj x hn hM hle (g3.mono x.wb) g2 (s:=te.size) (cap:=K) (l:=mJ l++new) (aX:=Z++aX) (rest:=rest) g4 g6 (by rw[A];exact g5) (fi.2 ((fi.1 (by rw[oG];exact y5.2 o1)).app (fi.1 f))) (o2.app L) rfl
  rw[A]at o;rw[<-Y];exact⟨_,_,X',O',g1,F,q2,o,q4,q5⟩
 trivial
end
section
variable {P:Program} {B:Nat} {X:Cx} {O:Nat->Addr->Prop} {w:World} {h:Heap} {E:Env}
theorem akl(b:EnvTy P E)(c:HR B X O w h){t ty:Nat}{I:Array Nat}(d:I[0]? =ab t){x v:V}{h':Heap}(e:Ct E t h x=ab (v,h')){J:Value}(r:aq X x ag [J]):
  dK P B X O w h (ag7 I ty #[J]) v h':=by
 unfold Ct Env.kind at e;cases U:E.ty t with
 |none=>grind
 |some ti=>
 rw[U]at e;have Z:=(b.ty t ti U).kind;split at e
 .rename_i k l A;rw[hH A]at Z;cases e;obtain⟨y,f,a,n,g,i,j,_⟩:=r;cases f;subst g;rw[bz,<-i];exact .same c (by simp[ag7,d,run_underlying Z,goInt]) (Jo j)
 trivial
theorem axD{α:Type}{l s:List α}{off n:Nat}(A:off<=l.length)(J:n<=s.length)(I:off+n<=l.length):(l.take off++(s.take n++l.drop (off+n))).length=l.length:=by
 grind
theorem ZO:∀{h:Heap} {b:Nat} {x:cj},ar h b=ab x->aI h b x=h
 |[],b,x,e=>by simp[cy]at e
 |a::h,0,x,e=>by simp[cy]at e;subst e;rfl
 |a::h,b+1,x,e=>by rw[Dx,ZO (h:=h) (by simpa[cy]using e)]
theorem auV(k:HR B X O w h){b g x off len sz ro n:Nat}{aP:Bool}{l src:List D}{mh:List (List Value)}{T:Value}(z:ar h b=ab (.arr x sz ro l))(o:fx g x off len l=ag)(F:ro<=off)(rd:aq X (.own b g off len aP) ag [T])
  (hz:n≠0) (ZB:n<=len) (p:mh.length=n) (G:bI X.C src af mh) (W:bl sz mh):
  ∃a cap w',T=.slice (ab a) len cap/\(storeCells a mh.flatten 0).run P w=.ok () w'/\∀{v:V} {vx:Value} {s:Sem Value},aq X v ag [vx]->s.run P w=.ok vx w'->dK P B X O w h s v (aI h b (.arr x sz ro (l.take off++(src++l.drop (off+n))))):=by
 obtain⟨Dr,IA⟩:=tY o;have H:0< len:=by omega
 have q:0< l.length:=by omega
 simp only[aq]at rd;obtain⟨y,ey,⟨ad,cap,d1,d2,d3,d4⟩,bi,hM,Zj,c⟩:=rd;cases ey;subst d1;obtain⟨bj,b1,b2,b3,b4,b5,b6⟩:=k.dO b _ z;rw[hM]at b1;cases b1;obtain⟨a',CD,w1,w2,w3,w4,_,w6⟩:=c (by omega)
 cases w1;obtain⟨J,k1,k2,k3⟩:=w6.resolve_left (ain (fY H d2));obtain⟨es,a1,A,j1,j2,K,f,j5,j6,j7⟩:=b6.resolve_left (ain (fY q b4.1));clear d4 c w6 b6;rw[k1]at j1;cases j1;rw[es]at k3;subst k3;have hsl:src.length=n:=(cz.1 G).len.symm.trans p;have L:(l.take off++(src++l.drop (off+n))).length=l.length:=by
  grind
 have U:=Addr.iI J (off*sz) k2;have M:A.length=l.length:=(cz.1 K).len;have N:mh.flatten.length=n*sz:=by rw[bl.len W,p]
 have hm:(off+n)*sz<=bi.cap*sz:=eA _ (by omega)
 rw[ns]at hm;have r:ro*sz<=off*sz:=eA _ F;have I:fZ w (O b) (J.add (off*sz)) 0 mh.flatten.length:=j7.sub k2 r (by omega)
 have t:∀j,j< mh.flatten.length->O b ((J.add (off*sz)).add (0+j)):=λj i=>by rw[db];exact(I j (bH _) i).1
 have hex:∀j,j< mh.flatten.length->∃u,w.cell? ((J.add (off*sz)).add (0+j))=ab u:=λj i=>by rw[db];exact(I j (bH _) i).2.1
 have Dm:A.flatten.length=l.length*sz:=by rw[bl.len f,M]
 have Q:(off+n)*sz<=l.length*sz:=eA _ (by omega)
 rw[ns]at Q;have d:∀u∈mh.flatten,u.oneCell'=ag:=bI.mV G;have R:=Lo (P:=P) (J.add (off*sz)) U mh.flatten w 0 d (λj i=>by rw[db];exact(I j (bH _) i).2)
 have Z:cK (putCells w (J.add (off*sz)) mh.flatten 0).cell? J (A.take off++(mh++A.drop (off+n))).flatten:=λj v ev=>by
  rw[vq,vq,bl.ll f,bl.ug f]at ev;have S:(A.flatten.take (off*sz)).length=off*sz:=by grind
  by_cases i:j< off*sz
  .rw [gP (by omega)]at ev
   rw[oO _ _ w 0 _ (λm hm he=>by rw[db,Addr.add_add J _ _ k2]at he;have:=Addr.pj k2 he;omega)]
   exact(j5.take _) j v ev
  .rw [jE (by omega),S]at ev
   by_cases Zu:j-off*sz< n*sz
   .rw [gP (by omega)]at ev
    have:=AL (J.add (off*sz)) U _ w 0 hex (j-off*sz) v ev;rw[db,Addr.add_add J _ _ k2,show off*sz+(j-off*sz)=j from by omega]at this
    omega
   .rw [jE (by omega),N,List.getElem?_drop,ns]at ev
    rw[oO _ _ w 0 _ (λm hm he=>by rw[db,Addr.add_add J _ _ k2]at he;have:=Addr.pj k2 he;omega)]
    exact j5 j v (by grind)
 have aI:=k.put (Y:=X) (e8 z) (.refl _ _) rfl (λ_ _=>rfl) k.lt (J.add (off*sz)) U mh.flatten 0 t hex (.arr x sz ro (l.take off++(src++l.drop (off+n)))) ⟨bi,hM,b2,b3,⟨by omega,by omega⟩,b5,.inr ⟨es,J,A.take off++(mh++A.drop (off+n)),k1,k2,
  cz.2 (((cz.1 K).take off).app ((cz.1 G).app ((cz.1 K).drop (off+n)))),(bl.take f off).app (W.app (bl.drop f (off+n))),Z,by
   rw[vq,bl.ll f,ah3 (by grind),ah4,nv r]
   omega,j7.put _ U _ 0 hex⟩⟩
 exact⟨_,_,_,rfl,R,λhv hs=>⟨_,_,X,O,hs,aI,⟨.refl _ _,zg (λln=>AF k I (aL _) (by grind)),λa v e hn=>(by grind),λ_ _ e l=>pT _ (w9 l) _ w 0 e⟩,hv,by rw[b9,aK (e8 z)];omega,FR.put k z (λ_ _=>rfl) _ _ 0 t _⟩⟩
theorem akx(m:EnvTy P E)(o:HR B X O w h){ty:Nat}{p:Array Nat}{d v:V}{h':Heap}(e:G4 E p d h=ab (v,h')){q:Value}(rd:aq X d ag [q]):
  dK P B X O w h (UP p ty #[q]) v h':=by
 obtain⟨ti,h1,e⟩:=ay.1 e;obtain⟨t,c,D⟩:=ay.1 h1;have f:=(m.ty t ti D).kind;have r:aq X (.im (.aH [])) ag [.tuple #[]]:=by exact⟨#[],[],rfl,by rfl,rfl⟩
 rw[cu,ve]at c;split at e
 .rename_i el j;rw[j]at f;obtain⟨te,hte,e⟩:=ay.1 e;obtain⟨z,F,e⟩:=ay.1 e;cases d with
  |own b g off len aP=>
   simp only at e;split at e
   .rename_i Q sz ro l s;obtain⟨u,e⟩:=aU e;simp only[aM]at u;obtain⟨G,J,A,I⟩:=u;have A:=dU A;subst A;have I:=rY I;obtain⟨i,zv,H,R,S,K,L,x⟩:=F2 (m.ty _ _ hte) F G _;cases e;by_cases C:len=0
    .subst C;rw[show l.take _++(jz 0 z++l.drop _)=l by simp,ZO s]
     obtain⟨y,M,⟨N,cap,d1,_⟩,_⟩:=rd;cases M;subst d1;exact .same o (by cases N<;>simp[UP,c,run_underlying f]) r
    .obtain ⟨a,cap,w',rfl,U,Z⟩:=auV (P:=P) (n:=len) (src:=bP _ z) (mh:=bP _ _) o s J I rd C (aL _) jj (Lk L _) (bl.rep (by omega))
     rw[<-Ae x _]at U;have k:kf zv.cells len=madeCells zv.cells (len*te.size):=by simp[kf,madeCells,x]
     rw[mc];refine Z r ?_;cases len with
     |zero=>omega
     |succ len=>simp[UP,c,run_underlying f,zeroValue,typeInfo,H,K,k,U]
   trivial
  |_=>cases e
 trivial
theorem au1{t j ty e:TypeId}{i:TypeInfo}{z:Value}{k:IntKind}(l:P.underlying t=ab (.slice e))(m:P.underlying j=ab (.int k))(hi:P.info? e=ab i)(o:i.zero=ab z)(c:z.cells.size=i.size)(base:Option Addr)(A I:Nat)(J:List Value)
  (hold:(UQ i.size A (.slice base A I)).run P w.drew=.ok J.toArray w.drew) {n:Nat} (s:I< A+n) (r:((A+n:Nat):Int)<=9223372036854775807) (p:Mr (A+n) I*i.bytes<=281474976710656) (u:n*i.bytes<=281474976710656):
  (mi #[t,j] ty #[.slice base A I,.int .i64 n]).run P w=
   .ok (.slice (ab ⟨w.heap.size,0,ae⟩) (A+n) (grownCap w (A+n) I e))
    (w.drew.alloc (.cells ((J++(madeCells z.cells (n*i.size)).toList).toArray++kf z.cells (grownCap w (A+n) I e-(A+n))) e)):=by
 have q:¬(A+n<=I):=by omega
 have U:¬(9223372036854775807<((A:Int)+(n:Int))):=by omega
 have Z:¬(281474976710656< Mr (A+n) I*i.bytes):=by omega
 have hw:U6.wrap (n:Int)=n:=by grind[IntKind.wrap_i64]
 have a:¬((n:Int)< 0):=by omega
 have b:¬(281474976710656<(n:Int)*(i.bytes:Int)):=by
  omega
 have d:kf z.cells n=madeCells z.cells (n*i.size):=by simp[kf,madeCells,c]
 by_cases f:n*i.size=0
 .have g:madeCells z.cells (n*i.size)=#[]:=by simp[f,madeCells]
  simp[mi,run_underlying l,run_underlying m,sizeOf,typeInfo,zeroValue,hi,o,asInt,asIntOf,hw,a,b,q,U,Z,f,ahq,hold,newRow,grownCap,g];grind
 .simp [mi,run_underlying l,run_underlying m,sizeOf,typeInfo,zeroValue,hi,o,asInt,asIntOf,hw,a,b,q,U,Z,ahq,hold,newRow,grownCap,d];rw[ax f];congr 2;congr 1;grind
theorem ajq(D:HR B X O w h){aC t tx ty el:Nat}{te:TI}(F:iG P el te)(hk:P.underlying t=ab (.slice el)){ki:IntKind}(G:P.underlying tx=ab (.int ki))(hn:ar h aC=ae)(hM:X.M aC=ae)(H:aC<=h.length){s v:V}{n:Int}{h':Heap}
  (e:Nw te aC s n h=ab (v,h')) {vs:Value} (rs:aq X s ag [vs]):dK P B X O w h (mi #[t,tx] ty #[vs,.int .i64 n]) v h':=by
 unfold Nw at e;split at e
 .rename_i l;obtain⟨hc,e⟩:=aU e;simp only[aM]at hc;obtain⟨hf,g,I⟩:=hc;obtain⟨zd,K,e⟩:=ay.1 e;obtain⟨L,e⟩:=aU e;cases e;obtain⟨i,zv,i1,N,i3,i5,rz,U⟩:=F2 F K L X.C;rw[oF,decide_eq_true_eq]at g;obtain⟨m,rfl⟩:∃m:Nat,n=m:=⟨n.toNat,by omega⟩
  rw[Int.toNat_natCast]at I|-;rw[bz]at I|-;rw[mc];obtain⟨r1,r2⟩:=aeZ I;simp only[aq]at rs;obtain⟨y,ey,a,nl,e1,b,e3,e4⟩:=rs;cases ey;subst e1;obtain⟨A,o1,o2,o3⟩:∃A,bI X.C l af A/\bl te.size A/\(nl=0/\A.flatten=[]∨∃Z,a=ab Z/\Z.spot=ae/\A.flatten.length=nl*te.size/\cK X.C Z A.flatten):=by
   by_cases c:nl=0
   .have:l=[]:=tm (by omega)
    subst this;exact⟨[],by simp[bI],(λ_ h=>by cases h),.inl ⟨c,rfl⟩⟩
   .obtain ⟨Z,k,s0,Q,R,f,o,S⟩:=e4.resolve_left c;have T:=C6 hf f o (λh=>by subst h;simp at b;exact c b)
    subst T;exact⟨k,f,o,.inr ⟨Z,Q,R,by rw[bl.len o,(cz.1 f).len,b],S⟩⟩
  rw[<-b]at r1 r2;have p:Mr (nl+m) nl*i.bytes<=281474976710656:=growslice_fits (by omega) (by rw[i3];omega)
  have hmb:m*i.bytes<=(nl+m)*te.bytes:=by rw[i3];exact eA _ (by omega)
  have holds:(UQ i.size nl (.slice a nl nl)).run P w.drew=.ok A.flatten.toArray w.drew:=by
   rcases o3 with⟨rfl,ho⟩|⟨Z,rfl,_,h1,h2⟩
   .rw [ho];cases a with
    |none=>exact run_firstCells_none _ _ _ _ _
    |some Z=>exact run_firstCells_some w.drew i.size 0 Z 0 0 [] (by simp) (λj v e=>by simp at e)
   .exact run_firstCells_some w.drew i.size nl Z nl nl _ (by rw[h1,N]) (λj v e=>by simpa using D.ci _ _ (h2 j v e))
  have q:=au1 (w:=w) (ty:=ty) hk G i1 i5 (by rw[U,N]) a nl nl A.flatten holds (n:=m) (by omega) (by omega) p (by omega)
  have W:=grownCap_ge w (nl+m) nl el;have r:=grownCap_le_maxLen w (nl+m) nl el (by simp only[maxLen];omega)
  have d:(madeCells zv.cells (m*i.size)).toList=(bP m zv.cells.toList).flatten:=Ae (by rw[U,N]) m
  have u:bl te.size (bP m zv.cells.toList):=bl.rep (by rw[UN];exact U)
  have Y:((A.flatten++(madeCells zv.cells (m*i.size)).toList).toArray++kf zv.cells (grownCap w (nl+m) nl el-(nl+m))).toList=(A++bP m zv.cells.toList).flatten++(kf zv.cells (grownCap w (nl+m) nl el-(nl+m))).toList:=by
   simp[d]
  have hNR:mA w (w.drew.alloc (.cells ((A.flatten++(madeCells zv.cells (m*i.size)).toList).toArray++kf zv.cells (grownCap w (nl+m) nl el-(nl+m))) el)) ((A++bP m zv.cells.toList).flatten++(kf zv.cells (grownCap w (nl+m) nl el-(nl+m))).toList):=by
   have h1:=mA.alloc w.drew ((A.flatten++(madeCells zv.cells (m*i.size)).toList).toArray++kf zv.cells (grownCap w (nl+m) nl el-(nl+m))) el;rw[Y]at h1;exact⟨(eJ.Ax (G5 w)).trans h1.keep,h1.size,h1.cell,h1.frozen⟩
  have x:Below w.heap.size w (w.drew.alloc (.cells ((A.flatten++(madeCells zv.cells (m*i.size)).toList).toArray++kf zv.cells (grownCap w (nl+m) nl el-(nl+m))) el)):=(G5 w).alloc (aL _) _;have J:(l++bP m zd).length=nl+m:=by rw[dH,jj,b]
  have ux:A.length=nl:=by rw[(cz.1 o1).len,b]
  have z:((A++bP m zv.cells.toList).flatten++(kf zv.cells (grownCap w (nl+m) nl el-(nl+m))).toList).length=grownCap w (nl+m) nl el*te.size:=by
   rw[dH,(o2.app u).len,dH,jj,ux];have:(kf zv.cells (grownCap w (nl+m) nl el-(nl+m))).toList.length=(grownCap w (nl+m) nl el-(nl+m))*te.size:=by simp[size_zeroCells,U]
   rw[this,<-ns];congr 1;omega
  obtain⟨X',O',Q,R,f,o,S⟩:=D7 D hn hM H (x.mono D.wb) hNR (s:=te.size) (cap:=grownCap w (nl+m) nl el) (l:=l++bP m zd) (aX:=A++bP m zv.cells.toList) z (by simp only[maxLen,fv]at r|-;omega) (by rw[J];exact W) (cz.2 ((cz.1 o1).app (cz.1 (Lk rz m)))) (o2.app u) rfl
  rw[J]at f;rw[<-b];exact⟨_,_,X',O',q,Q,R,f,o,S⟩
 trivial
theorem ajo(Z:EnvTy P E)(b:HR B X O w h){aC t a ty el:Nat}{te:TI}(hte:E.ty el=ab te)(u:cA te te.zero=ag)(j:P.underlying t=ab (.slice el))(l:ar h aC=ae)(m:X.M aC=ae)(J:aC<=h.length){s x v:V}{h':Heap}(e:qx E te aC a s x h=ab (v,h'))
  {vs y:Value} (n:aq X s ag [vs]) (c:aq X x ag [y]):dK P B X O w h (mi #[t,a] ty #[vs,y]) v h':=by
 unfold qx at e;cases hi:wQ _ with
 |true=>
  rw[hi]at e;split at e
  .obtain ⟨c,_⟩:=c;cases c;obtain⟨C,o⟩:∃C,P.underlying a=ab _:=by
    unfold wQ Env.kind at hi;cases d:E.ty a with
    |none=>grind
    |some ti=>
     rw[d]at hi;have f:=(Z.ty a ti d).kind;split at hi
     .rename_i k D;rw[hH D]at f;exact⟨k,f⟩
     trivial
   exact ajq b (Z.ty _ _ hte) j o l m J e n
  trivial
 |false=>
  rw[hi]at e;cases z:nL h s||nL h x with
  |true=>
   rw[z]at e;obtain⟨p,e⟩:=aU e;obtain⟨new,A,e⟩:=ay.1 e;obtain⟨g,e⟩:=aU e;have i:∃k,E.kind a=ab (.an k):=by
    unfold Qy at p;grind
   obtain⟨q,r,I,U⟩:=asc Z b i A g c;exact ajm b (Z.ty _ _ hte) u j l m J e n r I U
  |false=>
   rw[z]at e;obtain⟨new,A,e⟩:=ay.1 e;obtain⟨q,r,I,U⟩:=asb Z b A c;exact ajl b (Z.ty _ _ hte) u j l m J e n r I U
theorem ajs(U:EnvTy P E)(d:HR B X O w h){aC ty:Nat}{Z:Array Nat}(f:ar h aC=ae)(g:X.M aC=ae)(I:aC<=h.length){s x v:V}{h':Heap}(e:tT E aC Z s x h=ab (v,h')){vs a:Value}(i:aq X s ag [vs])(j:aq X x ag [a]):
  dK P B X O w h (mi Z ty #[vs,a]) v h':=by
 obtain⟨ti,h1,e⟩:=ay.1 e;obtain⟨t,b,k⟩:=ay.1 h1;have c:=(U.ty t ti k).kind;split at e
 .rename_i el J;rw[J]at c;obtain⟨te,hte,e⟩:=ay.1 e;obtain⟨m,A,e⟩:=ay.1 e;obtain⟨l,e⟩:=aU e;rw[cu,ve]at b A;rw[ajt b A];exact ajo U d hte l c f g I e i j
 trivial
end
theorem Tm.gb(v:V)(l r:Tm)(i:Nat):Tm.get (.n v l r) i=if i=0 then v else if i%2=1 then l.get (i/2)else r.get (i/2-1):=by
 show(ke (ke (r.get (Nat.sub (nu i 2) 1)) (l.get (nu i 2)) (al (jI i 2) 1)) v (al i 0):V)=_;rw[An i 0,An (jI i 2) 1];by_cases h:i=0
 .simp [h]
 by_cases h2:i%2=1
 .have:jI i 2=1:=h2;simp[h,this,h2];rfl
 have:¬jI i 2=1:=h2;simp[h,this,h2];rfl
theorem Tm.pZ(v:V)(l r:Tm)(i:Nat)(x:V):Tm.set (.n v l r) i x=if i=0 then .n x l r else if i%2=1 then .n v (l.set (i/2) x) r else .n v l (r.set (i/2-1) x):=by
 show(ke (ke (Tm.n v l (r.set (Nat.sub (nu i 2) 1) x)) (Tm.n v (l.set (nu i 2) x) r) (al (jI i 2) 1)) (Tm.n x l r) (al i 0):Tm)=_;rw[An i 0,An (jI i 2) 1];by_cases h:i=0
 .simp [h]
 by_cases h2:i%2=1
 .have:jI i 2=1:=h2;simp[h,this,h2];rfl
 have:¬jI i 2=1:=h2;simp[h,this,h2];rfl
theorem Tm.YU(t:Tm):∀(i:Nat) (x:V),(t.set i x).get i=x∨(t.set i x).get i=.undef:=by
 induction t with
 |e=>exact λi x=>.inr rfl
 |n v l r A I=>
  intro i x;rw[Tm.pZ];by_cases h:i=0
  .simp [h,Tm.gb]
  by_cases h2:i%2=1
  .rw [ax h,aK h2,Tm.gb,ax h,aK h2];exact A _ _
  rw[ax h,ax h2,Tm.gb,ax h,ax h2];exact I _ _
theorem Tm.Pf(t:Tm):∀(i j:Nat) (x:V),j≠i->(t.set i x).get j=t.get j:=by
 induction t with
 |e=>exact λi j x _=>rfl
 |n v l r J U=>
  intro i j x Z;rw[Tm.pZ];by_cases h:i=0
  .have I:j≠0:=by omega
   rw[aK h,Tm.gb,Tm.gb,ax I,ax I]
  by_cases h2:i%2=1
  .rw [ax h,aK h2,Tm.gb,Tm.gb];by_cases I:j=0
   .simp [I]
   rw[ax I,ax I];by_cases A:j%2=1
   .rw [aK A,aK A];exact J _ _ _ (by omega)
   rw[ax A,ax A]
  rw[ax h,ax h2,Tm.gb,Tm.gb];by_cases I:j=0
  .simp [I]
  rw[ax I,ax I];by_cases A:j%2=1
  .rw [aK A,aK A]
  rw[ax A,ax A];exact U _ _ _ (by omega)
theorem Tm.amj(d i:Nat):(Tm.mk d).get i=.undef:=by
 induction d generalizing i with
 |zero=>rfl
 |succ d ih=>
  show Tm.get (.n .undef (Tm.mk d) (Tm.mk d)) i=_;rw[Tm.gb];by_cases h:i=0
  .simp [h]
  by_cases h2:i%2=1<;>simp[h,h2,ih]
def TR(X:Cx)(t:Tm)(tmps:Array Value):Prop:=∀i,aq X (t.get i) ag [tmps.getD i undef]
theorem TR.mono{n:Nat}{X Y:Cx}{t:Tm}{tmps:Array Value}(h:TR X t tmps)(I:X.lt n)(A:X.le n Y):TR Y t tmps:=λi=>aq.mono A _ _ _ (aq.low I _ _ _ (h i)) (h i)
theorem Bp(X:Cx)(x:Value):aq X .undef ag [x]:=by simp[aq]
theorem TR.set{X:Cx}{t:Tm}{tmps:Array Value}(h:TR X t tmps){d:Nat}(A:d< tmps.size){v:V}{x:Value}(r:aq X v ag [x]):TR X (t.set d v) (tmps.setIfInBounds d x):=λi=>by
 by_cases hi:i=d
 .subst hi;have:(tmps.setIfInBounds i x).getD i undef=x:=by
   rw[ka,agW];simp[A]
  rw[this];rcases Tm.YU t i v with e|e<;>rw[e]<;>try grind
  exact Bp X x
 rw[Tm.Pf t d i v hi];have:(tmps.setIfInBounds d x).getD i undef=tmps.getD i undef:=by
  rw[ka,ka,agW,ax (Ne.symm hi)]
 rw[this];exact h i
theorem TR.put{X:Cx}{t:Tm}{a:Act}(h:TR X t a.tmps){dst:Option Nat}(A:∀d,dst=ab d->d< a.tmps.size){v:V}{x:Value}(r:aq X v ag [x]):TR X (putDst t dst v) (a.put dst x).tmps:=by
 cases dst
 .exact h
 rename_i d;exact h.set (A d rfl) r
theorem atI(a:Act)(dst:Option Nat)(x:Value):(a.put dst x).tmps.size=a.tmps.size:=by cases dst<;>simp[Act.put]
theorem atH(a:Act)(dst:Option Nat)(x:Value):(a.put dst x).defers=a.defers:=by cases dst<;>rfl
def RN:Value->Bool
 |.int k n=>ai k.min n&&ai n k.max
 |.string s=>Nat.ble s.size 9223372036854775807
 |_=>ag
def mU:Operand->Bool
 |.const v=>RN v
 |_=>ag
theorem asB(X:Cx){c:Value}(A:RN c=ag){v:V}(e:uM c=ab v):aq X v ag [c]:=by
 unfold uM at e;split at e<;>cases e
 .simp [aq,aR]
 .simp only[RN,aM,gX,decide_eq_true_eq]at A;simp only[aq,aR];exact⟨trivial,A⟩
 .rename_i s;simp only[aq,aR];exact⟨s,rfl,rfl,by simpa[fv]using rY A⟩
 .simp only[aq];exact⟨_,rfl,ae,0,rfl,rfl,by decide,.inl rfl⟩
 simp[aq,aR]
theorem sg{X:Cx}{t:Tm}{a:Act}(h:TR X t a.tmps){x:Operand}(A:mU x=ag):aq X (ev t x) ag [a.eval x]:=by
 cases x with
 |tmp i=>exact h i
 |const c=>
  show aq X (Option.rec V.undef (λx=>x) (uM c)) ag [c]
  cases e:uM c
  .exact Bp X c
  exact asB X A e
 |global g=>exact Bp X _
 |func f=>simp only[ev,Act.eval,aq,bM];exact⟨#[],#[],[],[],rfl,rfl,rfl,rfl,rfl⟩
theorem OM(t:Tm)(l:Array Operand):dk t l=l.toList.map (ev t):=by
 unfold dk;induction l.toList with
 |nil=>rfl
 |cons a l ih=>exact congrArg _ ih
theorem OL(e:Operand->V)(ps:Array (Nat×Operand)):lO e ps=ps.toList.map λp=>(p.1,e p.2):=by
 unfold lO;induction ps.toList with
 |nil=>rfl
 |cons a l ih=>exact congrArg _ ih
theorem HO{X:Cx}{t:Tm}{a:Act}(h:TR X t a.tmps){l:Array Operand}(A:∀x∈l.toList,mU x=ag):a8 (λv x=>aq X v ag [x]) (dk t l) (l.map a.eval).toList:=by
 rw[OM,agY];generalize l.toList=l at A;induction l with
 |nil=>exact a8.nil
 |cons b l ih=>exact a8.cons (sg h (A b (by simp))) (ih λx I=>A x (by simp[I]))
structure Step(B:Nat)(X:Cx)(O:Nat->Addr->Prop)(w:World)(h:Heap)(X':Cx)(O':Nat->Addr->Prop)(w':World)(h':Heap):Prop where
 up:Up B X w h.length X' w'
 len:h.length<=h'.length
 fr:FR X O w h X' O' w' h'
theorem Step.refl(B:Nat)(X:Cx)(O:Nat->Addr->Prop)(w:World)(h:Heap):Step B X O w h X O w h:=⟨.refl _ _ _ _,aL _,.refl _ _ _ _⟩
theorem Step.trans{B:Nat}{X Y Z:Cx}{O O' A:Nat->Addr->Prop}{a b c:World}{h h' I:Heap}(s:Step B X O a h Y O' b h')(t:Step B Y O' b h' Z A c I):Step B X O a h Z A c I:=
 ⟨s.up.trans (t.up.less s.len),b8 s.len t.len,s.fr.trans t.fr s.up.below.size s.len⟩
def yL(P:Program)(B:Nat)(X:Cx)(O:Nat->Addr->Prop)(w:World)(h:Heap)(m:Sem Next)(v:V)(h':Heap):Prop:=
 ∃x w' X' O',(m.run P w=.ok (.value x) w'∨(m.run P w=.ok .skip w'/\x=undef))/\HR B X' O' w' h'/\aq X' v ag [x]/\Step B X O w h X' O' w' h'
section
variable {P:Program} {B:Nat} {X:Cx} {O:Nat->Addr->Prop} {w:World} {h:Heap} {E:Env}
theorem dK.next{m:Sem Value}{v:V}{h':Heap}(s:dK P B X O w h m v h'):yL P B X O w h (do pure (.value (<-m))) v h':=by
 obtain⟨x,w',X',O',e,A,I,J,U,Z⟩:=s;exact⟨x,w',X',O',.inl (by simp[e]),A,J,I,U,Z⟩
theorem Gv.next{m:Sem Unit}{h':Heap}(s:Gv P B X O w h m h'):yL P B X O w h (do m;pure .skip) .undef h':=by
 obtain⟨w',X',O',e,A,I,J,U⟩:=s;exact⟨undef,w',X',O',.inr ⟨by simp[e],rfl⟩,A,Bp _ _,I,J,U⟩
theorem aj7(g:EnvTy P E)(c:HR B X O w h){n:Nat}(u:ar h n=ae)(z:X.M n=ae)(i:n<=h.length){b:Builtin}{s:Array Nat}{ty:Nat}{cs:Array Bool}{xs:List V}{args:Array Value}(d:a8 (λv x=>aq X v ag [x]) xs args.toList){v:V}{h':Heap}
  (e:hU E n b s xs h=ab (v,h')):yL P B X O w h (builtin b s ty cs args) v h':=by
 unfold hU at e
 split at e
 .split at e<;>try trivial
  obtain⟨y,r,I,A,J⟩:=d
  cases J
  have U:args=#[y]:=by apply Mo.1;rw[I]
  subst U
  obtain⟨t,f,e⟩:=ay.1 e
  rw[cu,ve]at f
  exact(arq g c f e A).next
 .split at e<;>try trivial
  obtain⟨y,r,I,A,C,F,D,j,J⟩:=d
  cases J
  have U:args=#[y,C]:=by apply Mo.1;rw[I,D]
  subst U
  exact(ajs g c u z i e A j).next
 .split at e<;>try trivial
  rename_i k a l
  obtain⟨y,r,I,A,o⟩:=d
  simp only[aq,aR]at A
  obtain⟨A,Z⟩:=A;cases A
  obtain⟨m,hm,e⟩:=cE.1 e
  cases e
  obtain⟨p,q⟩:=abQ (w:=w) (P:=P) hm o Z
  refine dK.next (.same c (x:=.int k m) ?_ (by simp only[aq,aR];exact⟨trivial,q⟩))
  simp only[Builtin.min_,I];exact p
 .split at e<;>try trivial
  rename_i k a l
  obtain⟨y,r,I,A,o⟩:=d
  simp only[aq,aR]at A
  obtain⟨A,Z⟩:=A;cases A
  obtain⟨m,hm,e⟩:=cE.1 e
  cases e
  obtain⟨p,q⟩:=abH (w:=w) (P:=P) hm o Z
  refine dK.next (.same c (x:=.int k m) ?_ (by simp only[aq,aR];exact⟨trivial,q⟩))
  simp only[Builtin.max_,I];exact p
 .split at e<;>try trivial
  obtain⟨y,r,I,A,J⟩:=d
  cases J
  have U:args=#[y]:=by apply Mo.1;rw[I]
  subst U
  obtain⟨t,f,e⟩:=ay.1 e
  rw[cu,ve]at f
  exact(akl g c f e A).next
 .split at e<;>try trivial
  obtain⟨y,r,I,A,J⟩:=d
  cases J
  have U:args=#[y]:=by apply Mo.1;rw[I]
  subst U
  exact(akx g c e A).next
 cases e
theorem J9{X:Cx}{t:Tm}{a:Act}(h:TR X t a.tmps){x:Option Operand}(A:∀y,x=ab y->mU y=ag):oi X (x.map (ev t)) (x.map a.eval):=by
 cases x
 .trivial
 rename_i y;exact sg h (A y rfl)
theorem adF{X:Cx}{t:Tm}{a:Act}(h:TR X t a.tmps){ps:Array (Nat×Operand)}(A:∀p∈ps.toList,mU p.2=ag):BX X (lO (ev t) ps) (ps.map λ(i,x)=>(i,a.eval x)).toList:=by
 rw[OL,agY];generalize ps.toList=l at A;induction l with
 |nil=>exact a8.nil
 |cons p l ih=>exact a8.cons ⟨rfl,sg h (A p (by simp))⟩ (ih λq I=>A q (by simp[I]))
theorem FK(J:EnvTy P E)(I:HR B X O w h){keep:Bool}{n:Nat}(j:ar h n=ae)(q:X.M n=ae)(U:n<=h.length){t:Tm}{a:Act}(z:TR X t a.tmps){o:Oper}(g:∀x∈o.op.operands.toList,mU x=ag){v:V}{h':Heap}
  (e:di E keep n t h o.op=ab (v,h')):yL P B X O w h (execOp a.eval o) v h':=by
 have A:∀x,x∈o.op.operands.toList->aq X (ev t x) ag [a.eval x]:=λx D=>sg z (g x D)
 unfold execOp
 cases L:o.op<;>rw[L]at e g A<;>simp only[di]at e<;>try(cases e;done)
 case move x=>cases e;exact⟨_,w,X,O,.inl rfl,I,A _ (by simp[bw]),.refl _ _ _ _ _⟩
 case assign x=>cases e;exact⟨_,w,X,O,.inl rfl,I,A _ (by simp[bw]),.refl _ _ _ _ _⟩
 case pick c x y=>
  have:=(atp (P:=P) I e (A c (by simp[bw])) (A x (by simp[bw])) (A y (by simp[bw]))).next
  simp only[bind_assoc,pure_bind]at this|-
  exact this
 case alloc ty=>
  unfold xP at e
  obtain⟨ti,F,e⟩:=ay.1 e
  obtain⟨G,e⟩:=aU e
  obtain⟨_,_,N⟩:=nR G
  cases e;exact(aje I j q U (J.ty _ _ F) N).next
 case box ty x=>
  unfold nW at e
  obtain⟨ti,F,e⟩:=ay.1 e
  obtain⟨G,e⟩:=aU e
  unfold nW.v5 at e
  split at e
  .rename_i D
   cases e
   have:=A x (by simp[bw])
   rw[D]at G this
   exact(ajX I j q U (nR G).2.2 this).next
  cases e
  exact(aj0 I j q U (nR G).2.2 (A x (by simp[bw]))).next
 case build ty ps=>exact(aj6 J I e (adF z λp hp=>g p.2 (by simp[bw];exact⟨p.1,by simpa using hp⟩))).next
 case buildSlice ty len ps=>exact(aj4 J I j q U e (adF z λp hp=>g p.2 (by simp[bw];exact⟨p.1,by simpa using hp⟩))).next
 case load ty x=>exact(arx I (λti=>J.ty _ ti) e (A x (by simp[bw]))).next
 case store ty x y=>
  obtain⟨rfl,s⟩:=avU (P:=P) I (λti=>J.ty _ ti) e (A x (by simp[bw])) (A y (by simp[bw]))
  exact s.next
 case nilCheck x=>
  obtain⟨rfl,rfl,R,Q⟩:=ash e (A x (by simp[bw]))
  refine⟨a.eval x,w,X,O,.inl ?_,I,A x (by simp[bw]),.refl _ _ _ _ _⟩
  simp only[Q];rfl
 case binOp op ty x y yt=>
  cases Z:jP E op ty (isConst x||isConst y) (ev t x) (ev t y)
  .rw [Z]at e;cases e
  rename_i u;rw[Z]at e;cases e
  exact(dK.ad2 I (ajF J Z (A x (by simp[bw])) (A y (by simp[bw])))).next
 case unOp op ty x=>
  cases Z:Bo op (ev t x)
  .rw [Z]at e;cases e
  rename_i u;rw[Z]at e;cases e
  exact(dK.ad2 I (awn Z (A x (by simp[bw])))).next
 case convert s d x=>exact(akQ J I j q U e (A x (by simp[bw]))).next
 case makeInterface ty x=>exact(anp J I e (A x (by simp[bw]))).next
 case makeFunc f x y=>exact(arM I e (λo g=>A o (by simp[bw];exact .inl (by simpa using g))) (λo g=>A o (by simp[bw];exact .inr (by simpa using g)))).next
 case makeSlice ty l c=>exact(arQ J I j q U e (A l (by simp[bw])) (A c (by simp[bw]))).next
 case slice ty x lo hi mx=>
  cases Z:xY E ty h (ev t x) (lo.map (ev t)) (hi.map (ev t)) (mx.map (ev t))
  .rw [Z]at e;cases e
  rename_i u;rw[Z]at e;cases e
  exact(avC J I Z (A x (by simp[bw])) (J9 z λy C=>g y (by subst C;simp[bw])) (J9 z λy C=>g y (by subst C;simp[bw])) (J9 z λy C=>g y (by subst C;simp[bw]))).next
 case fieldAddr ty x k=>exact(alR J I e (A x (by simp[bw]))).next
 case indexAddr ty x i=>exact(anw J I e (A x (by simp[bw])) (A i (by simp[bw]))).next
 case index ty x i=>exact(anz J I e (A x (by simp[bw])) (A i (by simp[bw]))).next
 case extract x i=>
  cases Z:(ev t x).part i
  .rw [Z]at e;cases e
  rename_i u;rw[Z]at e;cases e
  exact(alJ I Z (A x (by simp[bw]))).next
 case makeMap ty r=>exact(arO J I j q U e (J9 z λy C=>g y (by subst C;simp[bw]))).next
 case lookup ty m k ok=>exact(arA J I e (A m (by simp[bw])) (A k (by simp[bw]))).next
 case mapUpdate ty m k x=>
  obtain⟨rfl,s⟩:=abD (P:=P) J I e (A m (by simp[bw])) (A k (by simp[bw])) (A x (by simp[bw]))
  exact s.next
 case insert ty m k x=>
  obtain⟨rfl,s⟩:=abD (P:=P) J I e (A m (by simp[bw])) (A k (by simp[bw])) (A x (by simp[bw]))
  exact s.next
 case call c=>
  cases H:c.callee with
  |value f=>rw[H]at e;cases e
  |invoke r nm=>rw[H]at e;cases e
  |builtin b=>
   rw[H]at e
   have:=aj7 J I j q U (ty:=o.type) (cs:=c.args.map λ|.const _=>ag|_=>af) (HO z (l:=c.args) (λx D=>g x (by simp only[bw,Call.operands,H];simpa using D))) e
   have K:(resolve a.eval c o.type)=pure {target:=.builtin b c.argTypes o.type (c.args.map λ|.const _=>ag|_=>af),args:=c.args.map a.eval}:=by
    unfold resolve;rw[H];rfl
   simp only[K,pure_bind,invoke]
   exact this
end
end
end Go.As
end
