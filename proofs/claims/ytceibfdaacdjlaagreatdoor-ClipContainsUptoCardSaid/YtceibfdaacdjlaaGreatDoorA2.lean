/- A part of the proof. -/
import Derived.Test.YtceibfdaacdjlaaGreatDoorA1
import Derived.Laws.MakeOwn
import Derived.Laws.BytesString
import Derived.Lib.ConvBytes
import Derived.Deep.AppendSrc
import Derived.Lib.MinMax
set_option linter.all false
open Array renaming getD_eq_getD_getElem?->k0,getElem?_toList->Ab,length_toList->R8,toList_map->acy,toList_push->acz
open Bool renaming and_eq_true->aM,false->af,or_eq_true_iff->Sd,rec->jt,true->ag
open ByteArray renaming empty->acH
open Go.Builtin renaming append_->ld,cap_->acM,copy_->Se,delete_->Sf,firstCells->Eh,lenOf->acN,len_->wJ,nextslicecap->Ku,zeroCells->kh
open Go.Instr renaming alloc->Ej,buildSlice->Kx,checkKey->Ek,entry->acU,extract->Si,field->acV,fieldAt->Sj,fill->Ae,findKey->acW,findNow->wL,index->Sk,indexAt->Ah,keyThatStays->acX,lookup->Ky,makeInterface->Sl,makeMap->Sn,mapUpdate->So,next->Kz,range->Sp,sameBits->El,sameNow->Sq,slice->acY,sliceAt->wM,sliceBound->Sr,sliceBounds->tJ,sureAddr->Ss,typeAssert->wN
open Go.IntKind renaming i64->Ai
open Go.Lib renaming bytesCells->KA,bytesWorld->ac1,bytesWorld_size->ac2
open Go.Obj renaming isCells->wO
open Go.Op renaming eqGuardIn->Sx,equal->Ak,equalIn->rE,operands->bq
open Go.Program renaming built->ac7,cellsOf->ac8
open Go.Question renaming forced->KE
open Go.Result renaming andThen_ok->iJ
open Go.Sem renaming run->tO,run_bind->eZ
open Go.Src renaming ofSlice->KG
open Go.Value renaming int->pV
open Go.Value.pointer renaming injEq->aq0
open Go.Value.slice renaming injEq->aq1
open Go.World renaming block_lt_of_cell?->wS,cell?->ada,frozen?->ade
open Int renaming ofNat->aC,toNat->ju
open List renaming append_nil->jv,eq_nil_of_length_eq_zero->pY,eraseIdx_of_length_le->adB,ext_getElem?->Ar,filter_cons->SI,flatten_append->tV,foldl_cons->adE,getElem?_append_left->hH,getElem?_append_right->jx,getElem?_eq_getElem->hJ,getElem?_eq_none->jO,getElem?_eq_some_iff->e7,getElem?_map->nS,getElem?_take->pZ,length_append->dD,length_nil->At,length_replicate->gV,length_take->gz,map_cons->oL,map_map->tW,mem_cons->eT,mem_of_getElem?->lj,replicate->bT,take_append_of_le_length->adQ,take_take->adR
open Nat renaming add_mul->mf,add_zero->tX,beq->ak,ble->bp,blt->cA,div->mg,eq_zero_or_pos->w9,le_of_ble_eq_true->gX,le_of_lt->cX,le_refl->aJ,le_trans->bU,lt_of_lt_of_le->eU,min->mh,min_eq_left->mi,min_le_left->ad4,mod->i0,mul_le_mul_right->dM,zero_add->cV,zero_le->bX,zero_mul->rI
open Option renaming bind_eq_some_iff->ay,bind_some->ah,map_eq_some_iff->bu,map_some->hY,none->ae,some->ab
open Option.some renaming inj->fu,injEq->fH
open Prod.mk renaming injEq->aek
open UInt8 renaming ofNat->SY
noncomputable section
namespace Go.As
open Go.RowKit (Below)
section
variable [Gh]
section
variable {P:Program} {w:World} {E:Env}
def guarded:Value->Value->Bool
 |.nilIface,.nilIface=>ag
 |.agg _,.agg _=>ag
 |_,_=>af
theorem DR{op:BinOp}{t:TypeId}{x y:Operand}{a b:Value}(h:guarded a b=af):(eqGuard op t x y a b).run P w=.ok () w:=by
 cases a<;>cases b<;>first|(cases h;done)|(cases op<;>rfl)
theorem api{op:BinOp}{t:TypeId}{x y:Operand}(h:(isConst x||isConst y)=ag):(eqGuard op t x y .nilIface .nilIface).run P w=.ok () w:=by
 cases x<;>cases y<;>simp[isConst]at h<;>cases op<;>rfl
theorem aph(d:Nat){t:TypeId}{ms:Array (String×TypeId)}(h:P.underlying t=ab (.interface ms))(hm:ms.isEmpty=ag):(Sx (d+1) t .nilIface .nilIface).run P w=.ok af w:=by
 simp only[Sx,eZ,run_underlying h];simp[hm]
theorem apj{op:BinOp}{t:TypeId}{x y:Operand}{ms:Array (String×TypeId)}(h:P.underlying t=ab (.interface ms))(hm:ms.isEmpty=ag):(eqGuard op t x y .nilIface .nilIface).run P w=.ok () w:=by
 have A:(Sx Op.maxDepth t .nilIface .nilIface).run P w=.ok af w:=aph 9999 h hm;unfold eqGuard;simp_all
theorem lr.andThen{m:Sem Value}{g:Sem Unit}{v:V}(A:g.run P w=.ok () w)(h:lr P w m v):lr P w (do g;m) v:=by
 obtain⟨d,x,e,h1,h2⟩:=h;exact⟨d,x,e,by simp_all,h2⟩
def mU(k:TK)(a:Bool)(x:Value):Prop:=
 match k with
 |.ptr=>∃o:Option Addr,x=.pointer o/\a=o.isNone
 |.fn=>(x=.nilFunc/\a=ag)∨(∃f s c,x=.func f s c/\a=af)
 |.ifc _=>(x=.nilIface/\a=ag)∨(∃t y,x=.iface t y/\a=af)
 |.map _ _=>∃o:Option Nat,x=.map o/\a=o.isNone
 |_=>False
theorem Y9{X:Cx}{k:TK}{x:V}{a:Bool}(h:pg k x=ab a){A:Value}(r:an X x ag [A]):mU k a A:=by
 unfold pg at h;split at h<;>first
  |(cases h;done)
  |(cases h;first
    |(cases r;first|exact⟨ae,rfl,rfl⟩|exact .inl ⟨rfl,rfl⟩|exact .inr ⟨_,_,_,rfl,rfl⟩)
    |(obtain⟨a,ws,e,_⟩:=r;cases e;exact⟨ab a,rfl,rfl⟩)
    |(obtain⟨v,e,⟨a,I⟩,_⟩:=r;cases e;subst I;exact⟨ab a,rfl,rfl⟩)
    |(obtain⟨_,_,_,_,e,_⟩:=r;cases e;exact .inr ⟨_,_,_,rfl,rfl⟩)
    |(obtain⟨_,e,_⟩:=r;cases e;exact .inr ⟨_,_,rfl,rfl⟩)
    |(cases e))
theorem amL(d:Nat){k:TK}{t:Nat}(A:dE P t k){a b:Bool}(I:(a||b)=ag){x y:Value}(J:mU k a x)(U:mU k b y):(rE (d+1) t x y).run P w=.ok (a&&b) w:=by
 cases k<;>simp only[mU]at J U
 case ptr=>
  obtain⟨e,A⟩:=A
  obtain⟨o,rfl,rfl⟩:=J
  obtain⟨Z,rfl,rfl⟩:=U
  cases o<;>cases Z<;>simp at I<;>simp[rE,run_underlying A]
 case fn=>
  obtain⟨_,_,_,A⟩:=A
  rcases J with⟨rfl,rfl⟩|⟨_,_,_,rfl,rfl⟩<;>rcases U with⟨rfl,rfl⟩|⟨_,_,_,rfl,rfl⟩<;>simp at I<;>simp[rE,run_underlying A]
 case ifc=>
  obtain⟨_,A,_⟩:=A
  rcases J with⟨rfl,rfl⟩|⟨_,_,rfl,rfl⟩<;>rcases U with⟨rfl,rfl⟩|⟨_,_,rfl,rfl⟩<;>simp at I<;>simp[rE,run_underlying A]
 case map=>
  simp only[dE]at A
  obtain⟨o,rfl,rfl⟩:=J
  obtain⟨Z,rfl,rfl⟩:=U
  cases o<;>cases Z<;>simp at I<;>simp[rE,run_underlying A]
theorem amK{k:TK}{t:Nat}(I:dE P t k){a b:Bool}(A:(a||b)=ag){x y:Value}(J:mU k a x)(U:mU k b y):(Ak t x y).run P w=.ok (a&&b) w:=
 amL 9999 I A J U
def qp:Value->Bool
 |.pointer _|.nilFunc|.func _ _ _|.nilIface|.iface _ _|.map _|.agg _|.bool _=>ag
 |_=>af
theorem apk{t:TypeId}{x y:Value}(I:qp x=ag)(A:qp y=ag){b:Bool}(h:(Ak t x y).run P w=.ok b w):(binOp .eql t x y).run P w=.ok (.bool b) w:=by
 cases x<;>first
  |(done)
  |(cases y<;>first
   |(cases A;done)
   |(show(do pure (.bool (<-Ak t _ _)):Sem Value).run P w=_;simp_all))
theorem apl{t:TypeId}{x y:Value}(I:qp x=ag)(A:qp y=ag){b:Bool}(h:(Ak t x y).run P w=.ok b w):(binOp .neq t x y).run P w=.ok (.bool (!b)) w:=by
 cases x<;>first
  |(done)
  |(cases y<;>first
   |(cases A;done)
   |(show(do pure (.bool (!(<-Ak t _ _))):Sem Value).run P w=_;simp_all))
theorem mU.cmp{k:TK}{a:Bool}{x:Value}(h:mU k a x):qp x=ag/\∀cs,x≠.agg cs:=by
 cases k<;>simp only[mU]at h;case ptr=>obtain⟨o,rfl,_⟩:=h;exact⟨rfl,λ_=>by simp⟩
 case fn=>rcases h with⟨rfl,_⟩|⟨_,_,_,rfl,_⟩<;>exact⟨rfl,λ_=>by simp⟩
 case ifc=>rcases h with⟨rfl,_⟩|⟨_,_,rfl,_⟩<;>exact⟨rfl,λ_=>by simp⟩
 case map=>obtain⟨o,rfl,_⟩:=h;exact⟨rfl,λ_=>by simp⟩
theorem Vb(j:EnvTy P E){X:Cx}{op:BinOp}{t:Nat}{l m:Operand}{x y:V}{b:Bool}(h:o0 E t (isConst l||isConst m) x y=ab b)
  (F:∀k n,x≠.im (.int k n)) (G:∀s,x≠.im (.str s)) {A I:Value} (J:an X x ag [A]) (U:an X y ag [I]):
  (eqGuard op t l m A I).run P w=.ok () w/\(Ak t A I).run P w=.ok b w/\qp A=ag/\qp I=ag:=by
 unfold o0 at h;cases o:(qI x||qI y)with
 |true=>
  rw[o]at h;simp only[au]at h;cases e:E.ty t with
  |none=>grind
  |some ti=>
   rw[e]at h;have p:=(j.ty t ti e).kind;simp only[ah]at h;cases u:pg ti.k x with
   |none=>grind
   |some a=>
    cases v:pg ti.k y with
    |none=>grind
    |some c=>
     rw[u,v]at h;simp only[ah]at h;have h1:=Y9 u J;have h2:=Y9 v U;have q:(a||c)=ag:=by
      rw[Bool.or_eq_true]at o|-;have lit:∀{z:V} {k:TK} {d:Bool},qI z=ag->pg k z=ab d->d=ag:=by
       intro z k d h1 h2;unfold pg at h2;grind[qI]
      grind
     have Z:=amK (w:=w) p q h1 h2;cases f:(a&&c)with
     |false=>
      rw[f]at h Z;cases h;refine⟨DR ?_,Z,h1.cmp.1,h2.cmp.1⟩;cases A<;>cases I<;>first|rfl|(exact absurd rfl (h1.cmp.2 _))|skip
      exfalso;have t1:a=ag:=by
       revert h1;cases ti.k<;>simp[mU]
      have t2:c=ag:=by
       revert h2;cases ti.k<;>simp[mU]
      grind
     |true=>
      rw[f]at h Z;simp only[au]at h;obtain⟨h3,h⟩:=aQ h;cases h;refine⟨?_,Z,h1.cmp.1,h2.cmp.1⟩;cases C:guarded A I with
      |false=>exact DR C
      |true=>
       cases A<;>cases I<;>first|(cases C;done)|(exact absurd rfl (h1.cmp.2 _))|skip
       cases g:ti.k with
       |ifc nm=>
        rw[g]at h3 p;obtain⟨ms,H,K⟩:=p;cases nm with
        |true=>exact api h3
        |false=>exact apj H (by grind)
       |_=>simp_all[g,mU]
 |false=>
  rw[o]at h;simp only[ax]at h;split at h
  .rename_i a c;obtain⟨L,h⟩:=aQ h;simp only[an]at J U;have he:=Mx (w:=w) j h (by decide:12<=10000) J U
   have i:=Mv j L (cX j.depth);suffices D:(eqGuard op t l m A I).run P w=.ok () w/\qp A=ag/\qp I=ag from⟨D.1,he,D.2⟩;simp only[dW]at h;cases e:E.ty t with
   |none=>rw[e]at h;cases h
   |some ti=>
    rw[e]at h;simp only[ah]at h;replace h:=(aQ h).2;split at h
    .simp only[aN]at J U;cases J;cases U;exact⟨DR rfl,rfl,rfl⟩
    .exact absurd rfl (F _ _)
    .exact absurd rfl (G _)
    .simp only[aN]at J U;obtain⟨M,N,ex,_⟩:=J;obtain⟨Q,R,r,_⟩:=U;cases ex;cases r;exact⟨run_eqGuard_agg _ _ _ _ _ _ _ i,rfl,rfl⟩
    .simp only[aN]at J U;obtain⟨M,N,ex,_⟩:=J;obtain⟨Q,R,r,_⟩:=U;cases ex;cases r;exact⟨run_eqGuard_agg _ _ _ _ _ _ _ i,rfl,rfl⟩
    .cases h
  trivial
theorem ag9(a:EnvTy P E){X:Cx}{op:BinOp}{t:Nat}{A I:Operand}{x y v:V}(h:n5 E op t (isConst A||isConst I) x y=ab v)
  (c:∀k n,x≠.im (.int k n)) (d:∀s,x≠.im (.str s)) {J U:Value} (e:an X x ag [J]) (f:an X y ag [U]):
  lr P w (do eqGuard op t A I J U;binOp op t J U) v:=by
 unfold n5 at h;split at h
 .cases he:o0 E t (isConst A||isConst I) x y with
  |none=>grind
  |some b=>
   rw[he]at h;cases h;obtain⟨h1,h2,h3,Z⟩:=Vb (w:=w) (op:=.eql) a he c d e f;exact .andThen h1 ⟨_,_,rfl,apk h3 Z h2,λC=>by rfl⟩
 .cases he:o0 E t (isConst A||isConst I) x y with
  |none=>grind
  |some b=>
   rw[he]at h;cases h;obtain⟨h1,h2,h3,Z⟩:=Vb (w:=w) (op:=.neq) a he c d e f;exact .andThen h1 ⟨_,_,rfl,apl h3 Z h2,λC=>by rfl⟩
 trivial
theorem afs(g:EnvTy P E){X:Cx}{op:BinOp}{t:Nat}{c d:Operand}{x y v:V}(h:jA E op t (isConst c||isConst d) x y=ab v){A I:Value}(J:an X x ag [A])(U:an X y ag [I]):
  lr P w (do eqGuard op t c d A I;binOp op t A I) v:=by
 unfold jA at h;split at h
 .split at h
  .obtain ⟨Z,a⟩:=J;obtain⟨b,f⟩:=U;cases Z;cases b;exact .andThen (DR rfl) (ai0 h a t)
  trivial
 .split at h
  .obtain ⟨i,Z,a,_⟩:=J;obtain⟨j,b,f,_⟩:=U;cases Z;cases b;subst a;subst f;exact .andThen (DR rfl) (ap5 h t)
  trivial
 .rename_i h1 h2;exact ag9 g h (λk n e=>h1 k n e) (λs e=>h2 s e) J U
end
section
variable {P:Program} {B:Nat} {X:Cx} {O:Nat->Addr->Prop} {w:World} {h:Heap} {E:Env}
theorem aN.single{C:IV}{d:D}{ws:List Value}(h:aN C d ag ws):∃y,ws=[y]:=by
 cases d<;>simp[aN]at h;all_goals grind
theorem an.single{X:Cx}{v:V}{ws:List Value}(h:an X v ag ws):∃y,ws=[y]:=by
 cases v<;>simp[an]at h;case undef=>exact List.length_eq_one_iff.1 h
 case im=>exact h.single
 all_goals grind
theorem cY.aaf(A:HR B X O w h){m:Sem Value}{v:V}(hp:lr P w m v):cY P B X O w h m v h:=by
 obtain⟨d,x,e,h1,h2⟩:=hp;subst e;exact .same A h1 (by simp[an,h2])
theorem abk k n:(asIntOf (.int k n)).run P w=.ok (k,n) w:=rfl
theorem anC(A:HR B X O w h){c a b v:V}{h':Heap}(e:kX h c a b=ab (v,h')){I J U:Value}(Z:an X c ag [I])(d:an X a ag [J])(f:an X b ag [U]):
  cY P B X O w h (do pure (if<-asBool I then J else U)) v h':=by
 unfold kX at e;split at e
 .rename_i t;cases Z;cases t<;>simp only[au,ax]at e<;>cases e
  .exact .same A rfl f
  .exact .same A rfl d
 trivial
theorem ahk(b:HR B X O w h){x v:V}{i:Nat}(e:x.part i=ab v){a:Value}(r:an X x ag [a]):cY P B X O w h (Si a i) v h:=by
 have key:∀{l:List V} {I:Array _} {A:List _},bF X l ag A->I.toList=A.flatten->l[i]? =ab v->cY P B X O w h (Si (.tuple I) i) v h:=by
  intro l I A Z d hi;have J:∀{l:List V} {A:List _} {i:Nat},bF X l ag A->∀{v:V},l[i]? =ab v->∃y,A.flatten[i]? =ab y/\an X v ag [y]:=by
   intro l;induction l with
   |nil=>simp
   |cons u l ih=>
    intro A i Z v f;obtain⟨ws,r,U,h1,h2⟩:=Z;obtain⟨y,g⟩:=an.single h1;grind
  obtain⟨y,j,c⟩:=J Z hi;refine .same b (x:=y) ?_ c;have:I[i]? =ab y:=by grind
  simp[Si,this]
 unfold V.part at e;split at e
 .obtain ⟨I,A,U,h2,h3⟩:=r;cases U;rw[b8]at e;refine key (ug.2 h2) h3 ?_;grind
 .obtain ⟨I,A,U,h2,h3⟩:=r;cases U;rw[b8]at e;exact key h2 h3 e
 trivial
theorem aiR(a:EnvTy P E)(U:HR B X O w h){t:Nat}{x v:V}{h':Heap}(e:zG E h t x=ab (v,h')){I:Value}(r:an X x ag [I]):cY P B X O w h (Sl t I) v h':=by
 unfold zG Env.kind at e;cases b:E.ty t with
 |none=>grind
 |some ti=>
  have Z:=(a.ty t ti b).kind;have hi:(∀nm,ti.k≠.ifc nm)->(Sl t I).run P w=.ok (.iface t I) w:=by
   unfold Sl;have:∃d,P.underlying t=ab d/\∀ms,d≠.interface ms:=by
    cases J:ti.k<;>rw[J]at Z<;>simp[dE]at Z;all_goals grind
   obtain⟨d,c,f⟩:=this;simp[eZ,run_underlying,c,iJ]
  split at e
  .cases e
  .have A:∀nm,ti.k≠.ifc nm:=λnm g=>by grind
   split at e
   .cases e;exact .same U (hi A) (by grind[an,aN])
   .cases e
   .cases e;exact .same U (hi A) (by grind[an])
  trivial
theorem amJ{x v:V}{h':Heap}(e:zK h x=ab (v,h')){A:Value}(r:an X x ag [A]):
  v=x/\h'=h/\∃a,A=.pointer (ab a):=by
 unfold zK at e;split at e
 .obtain ⟨y,I,⟨a,J⟩,_⟩:=r;grind
 all_goals grind[an,aN]
end
section
variable {P:Program} {B:Nat} {X:Cx} {O:Nat->Addr->Prop} {w:World} {h:Heap} {E:Env}
theorem Vl{t:Nat}{fs:List (Nat×Nat×Nat)}(J:dE P t (.st fs)){k:Nat}{f:Nat×Nat×Nat}(hf:fs[k]? =ab f):
  ∃(A:Array Field) (g:Field),P.underlying t=ab (.struct A)/\A[k]? =ab g/\g.offset=f.1/\P.cellsOf g.type=f.2.1/\g.type=f.2.2/\∃i,P.info? g.type=ab i:=by
 obtain⟨A,U,hm,Z,_⟩:=J;subst hm;rw[nS]at hf;cases I:A.toList[k]? with
 |none=>grind
 |some g=>
  rw[I]at hf;simp at hf;subst hf;refine⟨A,g,U,by grind,rfl,rfl,rfl,(Z g (lj I)).2⟩
theorem abm{t:Nat}{A:Array Field}(J:P.underlying t=ab (.struct A)){k:Nat}{g:Field}(U:A[k]? =ab g){i:TypeInfo}(hi:P.info? g.type=ab i)(Z:P.cellsOf g.type≠0)(a:Addr):
  (Sj t (.pointer (ab a)) k).run P w=.ok (.pointer (ab (a.add g.offset))) w:=by
 have I:i.size≠0:=by simp_all[ac8,hi]
 simp[Sj,run_underlying J,U,Ss,fieldPlace,Go.sizeOf,typeInfo,hi,I]
theorem ahr(D:EnvTy P E)(l:HR B X O w h){t k:Nat}{x v:V}{h':Heap}(e:zF E h t x k=ab (v,h')){m:Value}(r:an X x ag [m]):cY P B X O w h (Sj t m k) v h':=by
 unfold zF at e;cases n:E.ty t with
 |none=>grind
 |some ti=>
  rw[n]at e;have o:=(D.ty t ti n).kind;simp only[ah]at e;split at e
  .rename_i fs J;rw[J]at o;rw[b8]at e;cases hf:fs[k]? with
   |none=>grind
   |some f=>
    rw[hf]at e;simp at e;obtain⟨I,g,p,q,h1,h2,h3,i,hi⟩:=Vl o hf;cases F:ak f.2.1 0 with
    |true=>grind
    |false=>
     rw[F]at e;have A:P.cellsOf g.type≠0:=by
      intro N;simp_all
     split at e
     .cases e;obtain⟨y,G,⟨a,U⟩,bi,H,Z,K⟩:=r;cases G;subst U;refine .same l (abm p q hi A a) ?_;refine⟨_,rfl,⟨_,rfl⟩,bi,H,Z,λL=>?_⟩
      obtain⟨Q,s,b,u⟩:=K L;simp_all[Addr.add_add,b,h1,iR]
     .rename_i d;cases z:V.dw (.im d) k f.1 with
      |none=>grind
      |some c=>
       rw[z]at e;split at e
       .rename_i R j;cases j;obtain⟨hw,e⟩:=aQ e;cases e;obtain⟨a,ws,U,C,rd,M⟩:=r;cases U;obtain⟨cs,pre,post,s,b,u⟩:=Cb (X:=X) (ws:=ws) z (by trivial)
        refine .same l (abm p q hi A a) ?_;refine⟨_,cs,rfl,Addr.h8 _ _ C,u,?_⟩;rw[h1,<-b];exact AH a C (by rw[<-s];omega)
       trivial
     trivial
  trivial
theorem V.XW{v c:V}{k o:Nat}(h:v.dw k o=ab c):v.isAgg=ag:=by
 unfold V.dw at h;split at h
 all_goals trivial
theorem aht(j:EnvTy P E)(p:HR B X O w h){t k:Nat}{x v:V}{h':Heap}(e:zE E h t x k=ab (v,h')){l:Value}(r:an X x ag [l]):cY P B X O w h (acV t l k) v h':=by
 unfold zE at e;cases m:E.ty t with
 |none=>grind
 |some ti=>
  rw[m]at e;have n:=(j.ty t ti m).kind;simp only[ah]at e;split at e
  .rename_i fs U;rw[U]at n;rw[b8]at e;cases hf:fs[k]? with
   |none=>grind
   |some f=>
    rw[hf]at e;simp at e;obtain⟨J,g,q,s,h1,h2,h3,i,hi⟩:=Vl n hf;cases A:E.ty f.2.2 with
    |none=>grind
    |some o=>
     rw[A]at e;cases Z:x.dw k f.1 with
     |none=>grind
     |some c=>
      rw[Z]at e;obtain⟨hw,e⟩:=aQ e;cases e;have I:=j.ty _ _ A;have a:o.size=f.2.1:=by rw[<-I.sizeOf,<-h3,h2]
      have u:cq o v=ag:=by
       simp[cq,aM,a,hw]
      obtain⟨cs,b,d⟩:=(an.xp (V.XW Z)).1 r;cases b;obtain⟨ws,pre,post,z,C,D⟩:=Cb Z d;obtain⟨y,F,G⟩:=zD (P:=P) (w:=w) I u z D C;refine .same p (x:=y) ?_ G;simp[acV,eZ,run_underlying q,iJ,s,asAgg,Sem.run_pure,h3,h1,F]
  trivial
theorem abn{t el n:Nat}(A:P.underlying t=ab (.array n el)){te:TI}(he:hZ P el te)(a:Addr)(k:IntKind){i:Int}(I:0<=i)(h1:i< n):
  (Ah t (.pointer (ab a)) (.int k i)).run P w=.ok (.pointer (ab (a.add (i.toNat*te.size)))) w:=by
 simp[Ah,asIntOf,run_underlying A,Ss,I,h1,run_sizeOf he]
theorem abo{t el n cap:Nat}(A:P.underlying t=ab (.slice el)){te:TI}(he:hZ P el te)(a:Addr)(k:IntKind){i:Int}(I:0<=i)(h1:i< n):
  (Ah t (.slice (ab a) n cap) (.int k i)).run P w=.ok (.pointer (ab (a.add (i.toNat*te.size)))) w:=by
 simp[Ah,asIntOf,run_underlying A,I,h1,run_sizeOf he]
theorem Ob{n:Int}{m:Nat}(A:aj 0 n=ag)(h1:ao n (aC m)=ag):0<=n/\n< m/\n.toNat< m:=by
 simp_all[gn,decide_eq_true_iff,oi]
theorem bw.at{C:IV}{l:List D}{aV:List (List Value)}(h:bw C l af aV){i:Nat}{d:D}(A:l[i]? =ab d):∃ws,aV[i]? =ab ws/\aN C d af ws:=(cf.1 h).get A
theorem aN.wd{C:IV}{d:D}{ws:List Value}(h:aN C d af ws):ws.length=d.wd:=an.wd (X:=⟨C,λ_=>ae,λ_=>ae⟩) (v:=.im d) (by trivial)
theorem U5(j:EnvTy P E)(m:HR B X O w h){t el:Nat}(o:P.underlying t=ab (.slice el)){l:List D}{n:Int}{k:IntKind}{v:V}{h':Heap}(e:mu E h el l n=ab (v,h'))
  {a:Option Addr} {len cap:Nat} (u:len=l.length) (f:len=0∨∃I A s,a=ab I/\I.spot=ae/\bw X.C l af A/\(∀ws∈A,ws.length=s)/\cz X.C I A.flatten):
  cY P B X O w h (Ah t (.slice a len cap) (.int k n)) v h':=by
 unfold mu at e;cases hte:E.ty el with
 |none=>grind
 |some te=>
  rw[hte]at e;obtain⟨g,e⟩:=aQ e;rw[b8]at e;cases Z:l[n.toNat]? with
  |none=>grind
  |some d=>
   rw[Z]at e;obtain⟨hw,e⟩:=aQ e;cases e;have hw:=b9 hw;have p:=(e7.1 Z).1;rw[gn,decide_eq_true_iff]at g;rcases f with f|⟨I,A,s,q,i,r,J,b⟩
   .omega
   .subst q;obtain⟨ws,U,rd⟩:=r.at Z;have c:s=te.size:=by rw[<-J ws (lj U),rd.wd,hw]
    subst c;refine .same m (abo o (j.ty _ _ hte) I k g (by omega)) ?_
    exact⟨_,ws,rfl,Addr.h8 _ _ i,rd,cz.row i J b U⟩
theorem aiW(u:EnvTy P E)(f:HR B X O w h){t:Nat}{x T v:V}{h':Heap}(e:pI E h t x T=ab (v,h')){W Y:Value}(r:an X x ag [W])(ri:an X T ag [Y]):
  cY P B X O w h (Ah t W Y) v h':=by
 unfold pI at e;split at e
 .rename_i k n;simp only[an,aN]at ri;obtain⟨ei,_⟩:=ri;cases ei;cases ht:E.ty t with
  |none=>grind
  |some ti=>
   rw[ht]at e;have I:=(u.ty t ti ht).kind;simp only[ah]at e;split at e
   .rename_i el i;rw[i]at I;simp only[dE]at I;split at e
    .rename_i b g off len aR;cases hte:E.ty el with
     |none=>grind
     |some te=>
      rw[hte]at e;simp only[ah]at e;obtain⟨A,e⟩:=aQ e;cases e;simp only[aM]at A;obtain⟨F,h1,h2⟩:=Ob A.1 A.2.1;simp only[an]at r;obtain⟨y,z,⟨a,cap,J,hle,hmx,U⟩,bi,C,j,H⟩:=r;cases z;subst J;rcases U with U|⟨a1,U⟩
      .omega
      .subst U;refine .same f (abo I (u.ty _ _ hte) a1 k F h1) ?_;simp only[an];refine⟨_,rfl,⟨_,rfl⟩,bi,C,j,λK=>?_⟩
       obtain⟨a',AZ,Z,_,_,VT,_,o⟩:=H K;simp only[aq1]at Z;obtain⟨Z,_,L⟩:=Z;subst L;rcases o with o|⟨M,p,e4,e5⟩
       .omega
       .rw [<-Z]at e5;cases e5;refine⟨M,p,e4,?_⟩;have G:off*bi.s=off*te.size:=by
         rcases Sd.1 A.2.2 with h3|h3
         .simp_all
         .unfold iI at h3;split at h3
          .rename_i g' s ro l N;obtain⟨bj,D,q2,q3,q4,q5,q6⟩:=f.cy b _ N;rw[C]at D;cases D;rcases q6 with q6|⟨q6,_⟩
           .omega
           .rw [q6,b9 h3]
          .rename_i g' s l N;obtain⟨bj,D,q2,q3,q4,q5,q6⟩:=f.cy b _ N;rw[C]at D;cases D;rcases q6 with q6|⟨q6,_⟩
           .omega
           .rw [q6,b9 h3]
          trivial
        simp[Addr.add_add,e4,G,iR,mf]
    .simp only[an,aN]at r;obtain⟨a,m,cap,J,Q,_,_,A⟩:=r;cases J;exact U5 u f I e Q A
    .simp only[an]at r;obtain⟨y,z,a,m,J,Q,_,A⟩:=r;cases z;subst J;exact U5 u f I e Q A
    trivial
   .rename_i m el i;rw[i]at I;simp only[dE]at I;cases hte:E.ty el with
    |none=>rw[hte]at e;cases e
    |some te=>
     rw[hte]at e;simp only[ah]at e;replace e:=aQ e;obtain⟨A,e⟩:=e;simp only[aM]at A;obtain⟨F,h1,h2⟩:=Ob A.1 A.2.1;split at e
     .cases e;simp only[an]at r;obtain⟨y,z,⟨a,J⟩,bi,C,j,H⟩:=r;cases z;subst J;refine .same f (abn I (u.ty _ _ hte) a k F h1) ?_;simp only[an];refine⟨_,rfl,⟨_,rfl⟩,bi,C,j,λK=>?_⟩
      obtain⟨M,Z,o,p⟩:=H K;refine⟨M,Z,o,?_⟩;simp only[aq0,fH]at p|-;subst p;rw[Addr.add_add _ _ _ o];congr 1;simp[iR]
     .rename_i d;cases q:V.dw (.im d) n.toNat (n.toNat*te.size)with
      |none=>rw[q]at e;cases e
      |some c=>
       rw[q]at e;split at e
       .rename_i d' R;cases R;obtain⟨hw,e⟩:=aQ e;cases e;simp only[an,aN]at r;obtain⟨a,ws,J,G,rd,S⟩:=r;cases J;obtain⟨cs,pre,post,Z,o,p⟩:=Cb (X:=X) (ws:=ws) q (by simpa only[an]using rd)
        refine .same f (abn I (u.ty _ _ hte) a k F h1) ?_;simp only[an,aN]at p|-;refine⟨_,cs,rfl,Addr.h8 _ _ G,p,?_⟩;rw[<-o];exact AH a G (by rw[<-Z];exact S)
       .cases e
     .cases e
   trivial
 trivial
theorem aiY(d:EnvTy P E)(j:HR B X O w h){t:Nat}{x l v:V}{h':Heap}(e:zH E h t x l=ab (v,h')){o p:Value}(r:an X x ag [o])(C:an X l ag [p]):
  cY P B X O w h (Sk t o p) v h':=by
 unfold zH at e;split at e
 .rename_i k n;obtain⟨D,_⟩:=C;cases D;split at e
  .rename_i s;cases U:E.ty t with
   |none=>grind
   |some ti=>
    rw[U]at e;have Z:=(d.ty t ti U).kind;simp only[ah]at e;split at e
    .rename_i I;rw[I]at Z;obtain⟨b,e⟩:=aQ e;rw[gn,decide_eq_true_iff]at b;rw[b8]at e;cases A:s[n.toNat]? with
     |none=>grind
     |some c=>
      rw[A]at e;cases e;obtain⟨q,F,G,_⟩:=r;cases F;subst G;unfold dN at A;rw[nS]at A;cases z:q.data.toList[n.toNat]? with
      |none=>grind
      |some u=>
       rw[z]at A;simp at A;subst A;have f:q[n.toNat]? =ab u:=by
        rw[Ab]at z;trivial
       refine .same j (x:=.int .u8 u.toNat) ?_ ?_
       .simp only[Sk,eZ,abk,run_underlying Z,iJ,b,if_true,f];rfl
       .refine ⟨rfl,?_⟩;have:=u.toNat_lt;constructor
        .show (0:Int)<=(u.toNat:Int);omega
        .show (u.toNat:Int)<=255;omega
    trivial
  .cases U:E.ty t with
   |none=>grind
   |some ti=>
    rw[U]at e;have Z:=(d.ty t ti U).kind;simp only[ah]at e;split at e
    .rename_i m el I;rw[I]at Z;cases hte:E.ty el with
     |none=>grind
     |some te=>
      rw[hte]at e;obtain⟨A,e⟩:=aQ e;simp only[aM]at A;obtain⟨b,h1,h2⟩:=Ob A.1 A.2;cases J:x.dw n.toNat (n.toNat*te.size)with
      |none=>grind
      |some c=>
       rw[J]at e;obtain⟨H,e⟩:=aQ e;cases e;have a:=d.ty _ _ hte;obtain⟨cs,g,i⟩:=(an.xp (V.XW J)).1 r;cases g;obtain⟨ws,pre,post,K,L,M⟩:=Cb J i;obtain⟨y,N,Q⟩:=zD (P:=P) (w:=w) a H K M L;refine .same j (x:=y) ?_ Q;simp only[Sk,eZ,abk,run_underlying Z,iJ,b,h1,and_self,if_true,run_sizeOf a,N]
    trivial
 trivial
end
section
variable {P:Program} {B:Nat} {X:Cx} {O:Nat->Addr->Prop} {w:World} {h:Heap} {E:Env}
def mV(X:Cx):Option V->Option Value->Prop
 |none,ae=>True
 |some a,ab b=>an X a ag [b]
 |_,_=>False
theorem xx{X:Cx}{y:Nat}{x:V}{d k:Nat}(e:bound y (ab x) d=ab k){v:Value}(r:an X x ag [v])(c:BoundsCode):k<=y/\(Sr v y c).run P w=.ok k w:=by
 unfold bound at e;split at e
 .trivial
 .rename_i J;cases J;obtain⟨I,e⟩:=aQ e;rw[aM,gn,gn,decide_eq_true_iff,decide_eq_true_iff]at I;cases e;obtain⟨ev,_⟩:=r;cases ev;obtain⟨U,h1⟩:=I;have A:_<=(y:Int):=h1;simp[Sr,asIntOf,U,A]
 trivial
theorem TW{y A d d' k:Nat}{x:V}(e:bound y (ab x) d=ab k)(U:y<=A):bound A (ab x) d'=ab k:=by
 unfold bound at e|-;split at e
 .trivial
 .rename_i Z I a;obtain⟨J,e⟩:=aQ e;rw[aM,gn,gn,decide_eq_true_iff]at J;have:(aj 0 I&&aj I (aC A))=ag:=by
   rw[aM,gn,gn,decide_eq_true_iff];grind
  grind
 omega
theorem afC(y d:Nat):bound y ae d=ab d:=rfl
theorem AV{X:Cx}{sv:Bool}{len cap:Nat}(J:len<=cap){lo hi mx:Option V}{i j m:Nat}(e:bounds len lo hi mx=ab (i,j,m)){I U Z:Option Value}
  (n:mV X lo I) (d:mV X hi U) (l:mV X mx Z):
  i<=j/\j<=m/\m<=len/\(mx=ae->m=len)/\Z.isSome=mx.isSome/\(tJ sv len cap I U Z).run P w=.ok (i,j,if mx.isSome then m else cap) w:=by
 obtain⟨q,hm,e⟩:=ay.1 e;obtain⟨f,a,e⟩:=ay.1 e;cases g:bound f lo 0 with
 |none=>grind
 |some k=>
 rw[g]at e;simp at e;obtain⟨rfl,rfl,rfl⟩:=e;have A:∀c,k<=f/\(I=ae/\k=0∨∃v,I=ab v/\(Sr v f c).run P w=.ok k w):=by
  intro c;cases lo with
  |none=>
   cases I with
   |some _=>trivial
   |none=>rw[afC]at g;grind
  |some x=>
   cases I with
   |none=>trivial
   |some v=>
    obtain⟨h1,h2⟩:=xx (P:=P) (w:=w) g n c;grind
 cases mx with
 |none=>
  cases Z with
  |some _=>trivial
  |none=>
  cases hm;cases hi with
  |none=>
   cases U with
   |some _=>trivial
   |none=>
   cases a;refine⟨(A .sliceB).1,aJ _,aJ _,λ_=>rfl,rfl,?_⟩
   rcases(A .sliceB).2 with⟨rfl,rfl⟩|⟨v,rfl,b⟩
   .rfl
   simp[tJ,b]
  |some x=>
   cases U with
   |none=>trivial
   |some v=>
   refine⟨(A .sliceB).1,(xx (P:=P) (w:=w) a d .sliceB).1,aJ _,λ_=>rfl,rfl,?_⟩
   have h2:=(xx (P:=P) (w:=w) (TW (d':=0) a J) d (if sv then .sliceAcap else .sliceAlen)).2;rcases(A .sliceB).2 with⟨rfl,rfl⟩|⟨v,rfl,b⟩
   .simp [tJ,h2]
   simp[tJ,h2,b]
 |some z=>
  cases Z with
  |none=>trivial
  |some r=>
  have h3:=(xx (P:=P) (w:=w) (TW (d':=0) hm J) l (if sv then .slice3Acap else .slice3Alen)).2;have o:=(xx (P:=P) (w:=w) hm l .slice3B).1;cases hi with
  |none=>cases a
  |some x=>
   cases U with
   |none=>trivial
   |some v=>
   obtain⟨p,h2⟩:=xx (P:=P) (w:=w) a d .slice3B;refine⟨(A .slice3C).1,p,o,(λh=>by cases h),rfl,?_⟩
   rcases(A .slice3C).2 with⟨rfl,rfl⟩|⟨v,rfl,b⟩
   .simp [tJ,h2,h3]
   simp[tJ,h2,h3,b]
theorem agx{α:Type}(l:List α)(i j:Nat):cut l i j=(l.drop i).take (j-i):=rfl
theorem Fw{α:Type}{l:List α}{i j:Nat}(A:i<=j)(I:j<=l.length):(cut l i j).length=j-i:=by
 grind[agx,gz,List.length_drop]
theorem xZ{C:IV}{sz s:Nat}{l:List D}{A:List (List Value)}(h:gZ sz l=ag)(I:bw C l af A)(J:∀ws∈A,ws.length=s)(U:l≠[]):s=sz:=by
 cases l with
 |nil=>trivial
 |cons d l=>
  obtain⟨ws,r,e,h1,_⟩:=I;subst e;have:=b9 h;rw[<-this,<-h1.wd,J ws (by simp)]
theorem Fx{C:IV}{a:Option Addr}{n sz i j m':Nat}{l:List D}(d:n=l.length)(hf:gZ sz l=ag)(b:i<=j)(f:j<=n)(g:j<=m')
  (h:n=0∨∃I A s,a=ab I/\I.spot=ae/\bw C l af A/\(∀ws∈A,ws.length=s)/\cz C I A.flatten):
  j-i=0∨∃I A s,(if m'=i then a else a.map (·.add (i*sz)))=ab I/\I.spot=ae/\bw C (cut l i j) af A/\(∀ws∈A,ws.length=s)/\cz C I A.flatten:=by
 by_cases k:j-i=0
 .omega
 .rcases h with h|⟨I,A,s,e,U,Z,he,J⟩
  .omega
  .have c:=xZ hf Z he (by grind)
   refine .inr ⟨I.add (i*s),(A.drop i).take (j-i),s,?_,Addr.h8 _ _ U,?_,λws hw=>he ws (List.mem_of_mem_drop (List.mem_of_mem_take hw)),?_⟩
   .grind
   .exact cf.2 (((cf.1 Z).drop i).take (j-i))
   .rw [bc.jh (bc.drop he i),bc.qy he];exact(cz.drop U J _).take _
theorem Q5{t el:Nat}(Z:P.underlying t=ab (.slice el)){te:TI}(he:hZ P el te){a:Option Addr}{len cap l A m:Nat}{I J U:Option Value}
  (b:(tJ ag len cap I J U).run P w=.ok (l,A,m) w):
  (wM t (.slice a len cap) I J U).run P w=.ok (.slice (if m=l then a else a.map (·.add (l*te.size))) (A-l) (m-l)) w:=by
 simp[wM,run_underlying Z,acY,b,run_sizeOf he]
theorem apn{t:Nat}(U:P.underlying t=ab .string){s:ByteArray}{l A m:Nat}{I J:Option Value}
  (Z:(tJ af s.size s.size I J ae).run P w=.ok (l,A,m) w):
  (wM t (.string s) I J ae).run P w=.ok (.string (s.extract l A)) w:=by
 simp[wM,run_underlying U,acY,Z]
theorem TV(I:HR B X O w h){b g s:Nat}{n:Nat}(A:(∃ro l,aq h b=ab (.arr g s ro l)/\n=l.length)∨∃l,aq h b=ab (.bN g s l)/\n=l.length):
  ∃bi,X.M b=ab bi/\bi.g=g/\(bi.cap=0∨bi.s=s)/\n<=bi.cap:=by
 rcases A with⟨ro,l,A,rfl⟩|⟨l,A,rfl⟩
 .obtain ⟨bi,h1,h2,h3,J,U,Z⟩:=I.cy b _ A;grind
 .obtain ⟨bi,h1,h2,h3,J,U,Z⟩:=I.cy b _ A;grind
theorem abG(n:HR B X O w h){t el:Nat}(D:P.underlying t=ab (.slice el)){te:TI}(hte:hZ P el te){b g off len:Nat}{aR:Bool}{v:V}{lo hi mx:Option V}{o:Value}{p q u:Option Value}
  (r:nW X b g off len aR o) (F:mV X lo p) (G:mV X hi q) (H:mV X mx u) {bi:BI} (x:X.M b=ab bi) (K:g=bi.g) (hs:bi.cap=0∨bi.s=te.size∨len=0)
  (e:kY b g off len aR lo hi mx=ab v):cY P B X O w h (wM t o p q u) v h:=by
 obtain⟨⟨a,cap,L,c,N,Q⟩,bj,Z,d,R⟩:=r;rw[x]at Z;cases Z;subst L;obtain⟨a',y,S,e2,e3,e4,e5,C⟩:=R K;cases S;obtain⟨⟨i,j,m⟩,T,e⟩:=ay.1 e;obtain⟨q1,q2,q3,q4,q5,q6⟩:=AV (P:=P) (w:=w) (sv:=true) c T F G H;have J:=Q5 (a:=a) D hte q6;have key:∀(I:Nat) (f:Bool),j<=I->I<=cap->(f=ag->I=j)->
   an X (.own b g (off+i) (j-i) f) ag [.slice (if I=i then a else a.map (·.add (i*te.size))) (j-i) (I-i)]:=by
  intro I f h1 h2 h3;have A:I-i=0∨∃U,bi.base=ab U/\U.spot=ae/\(if I=i then a else a.map (·.add (i*te.size)))=ab (U.add ((off+i)*bi.s)):=by
   by_cases hz:I-i=0
   .omega
   .rcases C with C|⟨U,k1,k2,W⟩
    .omega
    .refine .inr ⟨U,k1,k2,?_⟩;rw[W]
     simp;rw[Addr.add_add _ _ _ k2];grind
  refine⟨_,rfl,⟨_,_,rfl,by omega,by omega,A.imp id (λ⟨U,_,_,k⟩=>⟨_,k⟩)⟩,bi,x,d,λ_=>⟨_,_,rfl,by omega,by omega,by omega,λY=>by rw[h3 Y],A⟩⟩
 cases mx with
 |none=>
  cases e;refine .same n J (key cap _ (by omega) (aJ _) ?_)
  simp_all
 |some z=>
  obtain⟨l,e⟩:=aQ e;cases e;have l:=b9 l;refine .same n J (key m _ (by omega) (by omega) (λ_=>l.symm))
theorem afQ(s:ByteArray){i j:Nat}:dN (s.extract i j)=cut (dN s) i j:=by
 unfold dN cut;simp
theorem apS(N:EnvTy P E)(q:HR B X O w h){t:Nat}{x v:V}{lo hi mx:Option V}(e:tq E t h x lo hi mx=ab v){vx:Value}{vl vh Q:Option Value}
  (r:an X x ag [vx]) (D:mV X lo vl) (F:mV X hi vh) (G:mV X mx Q):cY P B X O w h (wM t vx vl vh Q) v h:=by
 unfold tq at e;cases ht:E.ty t with
 |none=>grind
 |some ti=>
 rw[ht]at e;have f:=(N.ty t ti ht).kind;simp only[ah]at e;split at e
 .rename_i m el k;rw[k]at f;simp only[dE]at f;cases hte:E.ty el with
  |none=>grind
  |some te=>
  rw[hte]at e;simp only[ah]at e;have Z:=N.ty _ _ hte;unfold Rh at e;split at e
  .rename_i w' l;obtain⟨A,e⟩:=aQ e;cases e;rw[aM,aM]at A;have hm:=b9 A.1;have GF:=gX A.2.1;have hw:∀d∈l,d.wd=te.size:=λd hd=>Nat.eq_of_beq_eq_true (List.all_eq_true.1 A.2.2 d hd)
   rw[bn]at hm;simp only[an,aN]at r;obtain⟨a,ws,L,hs,⟨R,ew,S,_⟩,J⟩:=r;cases L;have U:∀(o:Option V) (u:Option Value),o=ae->mV X o u->u=ae:=λo u eo hh=>by
    subst eo;cases u with
    |none=>rfl
    |some _=>trivial
   have e1:=U _ _ rfl D;have e2:=U _ _ rfl F;have e3:=U _ _ rfl G;subst e1;subst e2;subst e3;have p:bounds m ae ae ae=ab (0,m,m):=by
    rfl
   obtain⟨_,_,_,_,_,q6⟩:=AV (P:=P) (w:=w) (sv:=false) (aJ _) p D F G;refine .same q (x:=.slice (ab a) m m) ?_ ?_
   .simp [wM,run_underlying f,Ss,q6,run_sizeOf Z]
   .simp only[an];refine⟨_,rfl,_,_,rfl,hm.symm,by grind[eO],.inr ⟨a,R,te.size,rfl,hs,S,λz hz=>?_,ew▸J⟩⟩
    obtain⟨i,hi,ez⟩:=List.getElem_of_mem hz;have Wi:=(cf.1 S).len;have M:i< l.length:=by omega
    obtain⟨z',c,q2⟩:=(cf.1 S).get (hJ M);rw[hJ hi,ez]at c;cases c;rw[<-hw _ (List.getElem_mem M)];exact an.wd (v:=.im l[i]) (X:=X) (by trivial)
  trivial
 .rename_i k;rw[k]at f;simp only[dE]at f;unfold Rj at e;split at e
  .rename_i s;simp only[an,aN]at r;obtain⟨bs,eb,A,pa⟩:=r;cases eb;subst A;cases mx with
   |some z=>cases e
   |none=>
    cases Q with
    |some _=>trivial
    |none=>
    simp only at e;cases p:bounds (aA (dN bs)) lo hi ae with
    |none=>grind
    |some b=>
     obtain⟨i,j,m⟩:=b;rw[p]at e;cases e;rw[bn,xz]at p;obtain⟨c,q2,q3,q4,q5,q6⟩:=AV (P:=P) (w:=w) (sv:=false) (aJ _) p D F G;refine .same q (apn f q6) ?_;simp only[an,aN];refine⟨_,rfl,afQ _,?_⟩;grind[ByteArray.size_extract]
  trivial
 .rename_i el k;rw[k]at f;simp only[dE]at f;cases hte:E.ty el with
  |none=>grind
  |some te=>
  rw[hte]at e;simp only[ah]at e;have Z:=N.ty _ _ hte;unfold rn at e;split at e
  .rename_i l;obtain⟨hf,e⟩:=aQ e;obtain⟨⟨i,j,m⟩,A,e⟩:=ay.1 e;simp only[an,aN]at r;obtain⟨a,n,cap,L,H,T,W,J⟩:=r;cases L;rw[bn,<-H]at A;obtain⟨c,q2,q3,q4,q5,q6⟩:=AV (P:=P) (w:=w) (sv:=true) T A D F G;have I:=Q5 (a:=a) f Z q6;cases mx with
   |none=>
    simp only at e;cases e;refine .same q I ?_;simp only[an,aN];refine⟨_,_,_,rfl,(Fw c (by omega)).symm,?_,by omega,Fx H hf c (by omega) (by simp;omega) J⟩
    simp;omega
   |some z=>
    simp only at e;obtain⟨Y,e⟩:=aQ e;cases e;have Y:=b9 Y;refine .same q I ?_;simp only[an];refine⟨_,rfl,_,j-i,?_,(Fw c (by omega)).symm,by omega,Fx (m':=m) H hf c (by omega) (by omega) J⟩
    simp[Y]
  .rename_i l;obtain⟨hf,e⟩:=aQ e;cases A:bounds (aA l) lo hi mx with
   |none=>grind
   |some b=>
   obtain⟨i,j,m⟩:=b;rw[A]at e;simp only[hY,fH]at e;simp only[an]at r;obtain⟨y,ey,a,n,L,H,W,J⟩:=r;cases ey;subst L;rw[bn,<-H]at A;obtain⟨c,q2,q3,q4,q5,q6⟩:=AV (P:=P) (w:=w) (sv:=true) (aJ _) A D F G;have I:=Q5 (a:=a) f Z q6;have hm:(if mx.isSome then m else n)=m:=by
    simp_all
   rw[hm]at I;refine .same q I ?_;cases K:ak j m with
   |true=>
    rw[K]at e;simp only[au]at e;subst e;have:=b9 K;subst this;simp only[an];exact⟨_,rfl,_,j-i,rfl,(Fw c (by omega)).symm,by omega,Fx (m':=j) H hf c (by omega) (by omega) J⟩
   |false=>
    rw[K]at e;simp only[ax]at e;subst e;simp only[an,aN];exact⟨_,_,_,rfl,(Fw c (by omega)).symm,by omega,by omega,Fx H hf c (by omega) (by omega) J⟩
  .rename_i b g off len aR;simp only[an]at r;obtain⟨y,ey,r⟩:=r;cases ey;split at e
   .rename_i g' s ro l A;obtain⟨J,e⟩:=aQ e;rw[aM]at J;obtain⟨k1,k2⟩:=oW J.1;obtain⟨bi,p1,p2,C,p4⟩:=TV q (.inl ⟨ro,l,A,rfl⟩);refine abG q f Z r D F G p1 (by omega) ?_ e
    rcases C with C|C
    .omega
    .rcases Sd.1 J.2 with h1|h1
     .simp_all
     .cases l with
      |nil=>grind
      |cons=>cases h1
   .rename_i g' s l A;obtain⟨J,e⟩:=aQ e;rw[aM]at J;obtain⟨k1,k2⟩:=oW J.1;obtain⟨bi,p1,p2,C,p4⟩:=TV q (.inr ⟨l,A,rfl⟩);refine abG q f Z r D F G p1 (by omega) ?_ e
    rcases C with C|C
    .omega
    .rcases Sd.1 J.2 with h1|h1
     .exact .inr (.inl (by rw[C,b9 h1]))
     .cases l with
      |nil=>exact .inr (.inr (by simp at k2;omega))
      |cons=>cases h1
   trivial
  trivial
 trivial
end
section
variable {P:Program} {B:Nat} {X:Cx} {O:Nat->Addr->Prop} {w w':World} {h:Heap} {E:Env}
structure kp(w w':World)(cs:List Value):Prop where
 keep:dP w w'
 size:w.heap.size< w'.heap.size
 cell:∀j v,cs[j]? =ab v->w'.cell? ⟨w.heap.size,j,ae⟩=ab v
 frozen:∀j,j< cs.length->w'.frozen? ⟨w.heap.size,j,ae⟩=af
theorem kp.alloc(w:World)(cs:Array Value)(T:Nat):kp w (w.alloc (.cells cs T)) cs.toList:=
 ⟨.alloc _ _,by simp,λj v e=>by simp_all,λj _=>World.frozen?_alloc_new _ _ _ _⟩
theorem xm(b j:Nat):(⟨b,0,ae⟩:Addr).add j=⟨b,j,ae⟩:=by grind[Addr.add]
theorem YZ(f:HR B X O w h){n:Nat}(g:aq h n=ae)(J:X.M n=ae)(I:n<=h.length)(hB:Below B w w'){cs:List Value}(hw:kp w w' cs)
  {s cap:Nat} {k:bK} {len:Nat} (Z:cs.length=cap*s) (c:cap<=eO) (A:len<=cap)
  (i:∀Y:Cx,X.le h.length Y->Y.C=X.C->∀(Q:Addr->Prop) (bi:BI),Y.M n=ab bi->bi=⟨0,ab ⟨w.heap.size,0,ae⟩,s,cap,af⟩->cz w'.cell? ⟨w.heap.size,0,ae⟩ cs->fw w' Q ⟨w.heap.size,0,ae⟩ 0 (cap*s)->BR Y w' Q n k):
  ∃X' O',HR B X' O' w' (aD h n k)/\Up B X w h.length X' w'/\an X' (.own n 0 0 len af) ag [.slice (ab ⟨w.heap.size,0,ae⟩) len cap]/\h.length<=(aD h n k).length/\FR X O w h X' O' w' (aD h n k):=by
 let bi:BI:=⟨0,ab ⟨w.heap.size,0,ae⟩,s,cap,af⟩;let b:=λa=>∃j,j< cs.length/\a=(⟨w.heap.size,0,ae⟩:Addr).add j
 have d:cz w'.cell? ⟨w.heap.size,0,ae⟩ cs:=λj v e=>by rw[xm];exact hw.cell j v e
 refine⟨X.du n bi,_,f.add g J I hw.keep (cX hw.size) bi b k (λa ⟨j,U,e⟩=>?_) ?_,Up.add J hB hw.keep _ bi,?_,?_,.add J I hw.keep bi b k⟩
 .simp_all[Addr.qf,aJ,hw.size]
 .refine i _ (Cx.tC _ J) rfl b bi (Cx.eL _ _ _) rfl d λj _ U=>?_
  rw[<-Z]at U;exact⟨⟨j,U,rfl⟩,⟨cs[j],d j _ (by simp)⟩,by rw[xm];exact hw.frozen j U⟩
 .refine ⟨_,rfl,⟨_,_,rfl,A,by omega,.inr ⟨_,rfl⟩⟩,bi,Cx.eL _ _ _,aJ _,λ_=>⟨_,_,rfl,A,by omega,?_,(λh=>by cases h),.inr ⟨_,rfl,rfl,?_⟩⟩⟩
  .grind
  .simp
 grind[bL]
theorem yM(d:HR B X O w h){n:Nat}(f:aq h n=ae)(g:X.M n=ae)(J:n<=h.length)(hB:Below B w w'){cs:List Value}(hw:kp w w' cs)
  {s cap:Nat} {l:List D} {aV:List (List Value)} {rest:List Value} (U:cs.length=cap*s) (A:cap<=eO) (I:l.length<=cap) (i:bw X.C l af aV) (Z:bc s aV) (a:cs=aV.flatten++rest):
  ∃X' O',HR B X' O' w' (aD h n (.arr 0 s 0 l))/\Up B X w h.length X' w'/\an X' (.own n 0 0 l.length af) ag [.slice (ab ⟨w.heap.size,0,ae⟩) l.length cap]/\h.length<=(aD h n (.arr 0 s 0 l)).length/\FR X O w h X' O' w' (aD h n (.arr 0 s 0 l)):=by
 refine YZ d f g J hB hw U A I λY p k Q bi b c m o=>?_
 subst c;refine⟨_,b,rfl,rfl,⟨I,bX _⟩,A,.inr ⟨rfl,_,aV,rfl,rfl,by simp[k,i],Z,?_,?_,?_⟩⟩
 .exact λj v e=>m j v (by grind)
 .simpa using cz.nil
 .simpa using o
theorem Y3(d:HR B X O w h){n:Nat}(g:aq h n=ae)(i:X.M n=ae)(J:n<=h.length)(hB:Below B w w'){cs:List Value}(hw:kp w w' cs)
  {s cap:Nat} {l:List V} {aV:List (List Value)} {rest:List Value} (U:cs.length=cap*s) (A:cap<=eO) (I:l.length<=cap) (f:bF X l af aV) (Z:bc s aV) (a:cs=aV.flatten++rest):
  ∃X' O',HR B X' O' w' (aD h n (.bN 0 s l))/\Up B X w h.length X' w'/\an X' (.own n 0 0 l.length af) ag [.slice (ab ⟨w.heap.size,0,ae⟩) l.length cap]/\h.length<=(aD h n (.bN 0 s l)).length/\FR X O w h X' O' w' (aD h n (.bN 0 s l)):=by
 refine YZ d g i J hB hw U A I λY k p Q bi b c m o=>?_
 subst c;refine⟨_,b,rfl,rfl,I,A,.inr ⟨rfl,_,aV,rfl,rfl,f.mono k _ _ _ (bF.low d.lt _ _ _ f),Z,?_,o⟩⟩;exact λj v e=>m j v (by grind)
theorem aeO(w:World){v:V}{d:D}(e:v.data []=ab d){C:IV}{m:Bool}{ws:List Value}(r:an X0 v m ws):aN C d m ws:=by
 letI g:Gh:=⟨λ_ _ _=>True,λ_=>True,λ_ _=>trivial⟩
 have A:HR 0 X0 (λ_ _=>False) w []:=⟨λb k e=>by trivial,λ_ _ h=>h.elim,λ_ _ _ h=>h.elim,AB,⟨λ_ _ e=>by trivial,trivial⟩,bX _⟩
 have I:qe X0 w [] C (λ_=>True):=⟨λ_ _ e=>by trivial,λ_ _ _ _ e=>by trivial⟩
 exact qu A I e (λ_ _=>trivial) r
theorem Ck{z:Array Value}{s:Nat}(I:z.size=s):∀n:Nat,(madeCells z (n*s)).toList=(bT n z.toList).flatten
 |0=>by simp[madeCells]
 |n+1=>by
  rw[List.replicate_succ',tV,<-Ck I n];apply Ar;intro j;have J:=by omega
  have U:(madeCells z (n*s)).toList.length=n*s:=by rw[R8,size_madeCells]
  rw[List.getElem?_append,U];simp only[madeCells,jv];split
  .grind
  .rename_i a;by_cases Z:j< n*s+s
   .have A:j%s=j-n*s:=by
     have h1:j=(j-n*s)+n*s:=by omega
     have h2:j-n*s< s:=by omega
     calc j%s=((j-n*s)+n*s)%s:=by rw[<-h1]
      _=(j-n*s)%s:=Nat.add_mul_mod_self_right _ _ _
      _=j-n*s:=Nat.mod_eq_of_lt h2
    grind
   grind
theorem Fz{h:Heap}{v:V}{d:D}(e:v.data h=ab d):(V.im d).plain=v.plain:=by
 cases v<;>first|cases e;rfl|cases e|rename_i w l;simp only[V.data,V.cm]at e;obtain⟨x,_,e⟩:=bu.1 e;subst e;rfl|rename_i l;simp only[V.data,V.cm]at e;obtain⟨x,_,e⟩:=bu.1 e;subst e;rfl|rename_i b g off len aR;simp only[V.data]at e;obtain⟨x,_,e⟩:=bu.1 e;subst e;rfl|rename_i l;simp only[V.data,V.cm]at e;cases e;rfl|rename_i f a c;cases a<;>cases c<;>simp only[V.data,V.cm]at e<;>cases e;rfl|rename_i t v;simp only[V.data,V.cm]at e;obtain⟨x,_,e⟩:=bu.1 e;subst e;rfl
theorem Ks{t:Nat}{ti:TI}(I:hZ P t ti){z:D}(A:ti.zero.data []=ab z)(J:cq ti (.im z)=ag)(C:IV):∃i zv,P.info? t=ab i/\i.size=ti.size/\i.bytes=ti.bytes/\i.zero=ab zv/\aN C z af zv.cells.toList/\zv.cells.size=ti.size:=by
 obtain⟨i,a,b,c,U⟩:=I.info;obtain⟨k1,k2,d⟩:=kO J;obtain⟨zv,e,Z⟩:=U _ rfl (by rw[<-Fz A];omega)
 have h1:aN C z af zv.cells.toList:=aeO default A (Z.cells (by rw[<-Fz A];omega))
 have:=h1.wd;simp_all[V.wd,k1,this]
theorem Q1{C:IV}{z:D}{ws:List Value}(h:aN C z af ws)(n:Nat):bw C (bT n z) af (bT n ws):=cf.2 (aZ.rep (R:=λd ws=>aN C d af ws) h n)
theorem ami(o:EnvTy P E)(p:HR B X O w h){n t:Nat}(F:aq h n=ae)(G:X.M n=ae)(Z:n<=h.length){l c v:V}{h':Heap}(e:tk E n h t l c=ab (v,h')){q r:Value}(H:an X l ag [q])(K:an X c ag [r]):
  cY P B X O w h (Instr.makeSlice t q r) v h':=by
 unfold tk at e;cases u:E.ty t with
 |none=>grind
 |some ti=>
 rw[u]at e;have x:=(o.ty t ti u).kind;simp only[ah]at e;split at e
 .rename_i el b;rw[b]at x;cases hte:E.ty el with
  |none=>grind
  |some te=>
  rw[hte]at e;simp only[ah]at e;replace e:=ay.1 e;obtain⟨z,L,e⟩:=e;split at e
  .rename_i a m;obtain⟨y,e⟩:=aQ e;cases e;simp[aM,gn,decide_eq_true_iff]at y;obtain⟨N,Q,h1,h2⟩:=y;obtain⟨d,_⟩:=H;cases d;obtain⟨f,R⟩:=K;cases f;have g:=o.ty _ _ hte;obtain⟨i,zv,S,T,i3,W,Y,i6⟩:=Ks g L N X.C;have j:m<=9223372036854775807:=R.2;have A:=run_make w t el i zv x S W .i64 .i64 a m Q h1 (by grind) j
   have I:=Ck i6 m.toNat;rw[T]at A;have k:=kp.alloc w (madeCells zv.cells (m.toNat*te.size)) el;have J:=Q1 Y a.toNat;have U:(bT a.toNat z).length=a.toNat:=gV;obtain⟨X',O',q1,q2,D,q4⟩:=yM p F G Z ((Below.refl B w).alloc p.wb _) k (s:=te.size) (cap:=m.toNat) (by simp_all) (by grind[eO]) (by omega) J (bc.rep (by omega)) (rest:=(bT (m.toNat-a.toNat) zv.cells.toList).flatten) (by
    rw[I,<-tV,List.replicate_append_replicate];congr 2;omega)
   rw[U]at D;rw[nC];exact⟨_,_,X',O',A,q1,q2,D,q4⟩
  trivial
 trivial
end
section
variable {P:Program} {B:Nat} {X:Cx} {O:Nat->Addr->Prop} {w:World} {h:Heap} {E:Env}
theorem ame(I:HR B X O w h){ev:Operand->V}{ρ:Operand->Value}{f:Fn}{a c:Array Operand}{v:V}{h':Heap}(e:DU ev h f a c=ab (v,h'))
  (J:∀o∈a.toList,an X (ev o) ag [ρ o]) (U:∀o∈c.toList,an X (ev o) ag [ρ o]):cY P B X O w h (Instr.makeFunc f (a.map ρ) (c.map ρ)) v h':=by
 have key:∀{l:List Operand},(∀o∈l,an X (ev o) ag [ρ o])->bF X (List.rec [] (λo _ ih=>ev o::ih) l) ag (l.map λo=>[ρ o]):=by
  intro l;induction l with
  |nil=>simp[bF]
  |cons o l ih=>simp[bF];grind
 have A:∀l:List Operand,(l.map λo=>[ρ o]).flatten=l.map ρ:=by
  intro l;induction l<;>simp_all
 unfold DU at e;split at e
 .cases e;refine .same I rfl ?_;exact⟨_,_,_,_,rfl,key J,by simp[A],key U,by simp[A]⟩
 trivial
theorem ag0{x:V}{l:List D}(e:x.elems h=ab l):x.data h=ab (.ar l):=by
 unfold V.elems at e;split at e
 .cases e;rfl
 .cases e;rfl
 all_goals simp_all[V.data,e,hY]
theorem agZ(J:HR B X O w h){x:V}{l:List D}(e:x.elems h=ab l){m:Bool}{U:Value}(r:an X x m [U]):
  ∃a n cap,U=.slice a n cap/\n=l.length/\n<=cap/\n<=eO/\(n=0∨∃I A s,a=ab I/\I.spot=ae/\bw (lA B X w) l af A/\bc s A/\cz w.cell? I A.flatten):=by
 have:=qu J (xw J) (ag0 e) (λ_ _=>trivial) r
 obtain⟨a,n,cap,Z,b,c,d,f⟩:=this;cases Z;refine⟨a,n,cap,rfl,b,c,d,f.imp id ?_⟩;rintro⟨I,A,s,g,q2,i,q4,k⟩;exact⟨I,A,s,g,q2,i,q4,λj v o=>AP J.ci _ _ (k j v o)⟩
theorem T1{C:IV}:∀{l:List D} {J:List Nat},bytesOf l=ab J->∀{A:List (List Value)},bw C l af A->
  ∃I:List Int,A.flatten=I.map (pV .u8)/\J=I.map ju/\(∀n∈I,ig .u8 n)/\I.length=l.length
 |[],J,e,A,r=>by
  subst r;cases e;simp
 |d::l,J,e,A,r=>by
  obtain⟨ws,g,Z,h1,h2⟩:=r;subst Z;have a:∃n,d=.int .u8 n/\(bytesOf l).map (n.toNat:: ·)=ab J:=by
   cases d with
   |int k n=>cases k<;>first|(exact⟨n,rfl,e⟩)|trivial
   |_=>cases e
  obtain⟨n,rfl,U⟩:=a
  .obtain ⟨b,c,U⟩:=bu.1 U;subst U;obtain⟨h1,h3⟩:=h1;subst h1;obtain⟨I,f,q2,i,q4⟩:=T1 c h2;exact⟨n::I,by simp[f],by simp[q2],by grind,by simp[q4]⟩
theorem T2(w:World)(e:TypeId)(s:ByteArray):Below w.heap.size w (ac1 w e s):=
 ⟨rfl,rfl,rfl,by simp[ac2],λk A=>Lib.bytesWorld_at_old w e s k A⟩
theorem afR(w:World)(e:TypeId)(s:ByteArray):kp w (ac1 w e s) (KA w e s).toList:=by
 refine⟨.vt (T2 w e s),by simp[ac2],λj v A=>?_,λj A=>?_⟩
 all_goals grind[ada,Lib.bytesWorld_at_new,R8,ade]
theorem LP{C:IV}:∀l:List UInt8,bw C (l.map λu=>oS u.toNat) af (l.map λu=>[pV .u8 u.toNat])
 |[]=>by rfl
 |u::l=>by
  refine⟨_,_,rfl,?_,LP l⟩;refine⟨rfl,?_⟩;have:=u.toNat_lt;constructor
  .show (0)<=(u.toNat:Int);omega
  .show (u.toNat:Int)<=255;omega
theorem LR:∀l:List UInt8,(l.map λu=>[pV .u8 u.toNat]).flatten=l.map λu=>pV .u8 u.toNat
 |[]=>rfl
 |u::l=>by simp[LR l]
theorem Z5:∀(A:List Int) (b:ByteArray),(∀n∈A,ig .u8 n)->dN (A.foldl (λr n=>r.push (SY n.toNat)) b)=dN b++A.map ju
 |[],b,_=>by simp
 |n::A,b,h=>by
  rw[adE,Z5 A _ λm hm=>h m (by simp[hm])]
  have I:=h n (by simp)
  have h2:n<=255:=I.2;have:dN (b.push (SY n.toNat))=dN b++[n.toNat]:=by
   unfold dN;simp;omega
  simp[this]
theorem agr(i:EnvTy P E)(Z:HR B X O w h){n s d:Nat}(W:aq h n=ae)(Y:X.M n=ae)(o:n<=h.length){x v:V}{h':Heap}(e:oV E h n s d x=ab (v,h')){H:Value}(r:an X x ag [H]):
  cY P B X O w h (convert s d H) v h':=by
 unfold oV Env.kind at e;cases K:E.ty s with
 |none=>grind
 |some ts=>
 cases L:E.ty d with
 |none=>grind
 |some td=>
 rw[K,L]at e;have k1:=(i.ty s ts K).kind;have k2:=(i.ty d td L).kind;simp only[hY]at e;split at e
 .rename_i h1 h2;simp only[fH]at h1 h2;rw[h1]at k1;rw[h2]at k2;simp only[dE]at k1 k2;cases e;simp only[an,aN]at r;obtain⟨r,_⟩:=r;cases r;refine .same Z (by simp only[convert,eZ,run_underlying k1,run_underlying k2,iJ];rfl) ?_
  grind[an,aN,lZ,nM]
 .rename_i h1 h2;simp only[fH]at h1 h2;rw[h1]at k1;rw[h2]at k2;simp only[dE]at k1 k2;cases e;have r':=r;simp only[an,aN]at r;obtain⟨b,r,_⟩:=r;cases r;refine .same Z (by simp only[convert,eZ,run_underlying k1,run_underlying k2,iJ];rfl) r'
 .rename_i el b h1 h2;simp only[fH]at h1 h2;rw[h1]at k1;rw[h2]at k2;simp only[dE]at k1 k2;cases hte:E.ty el with
  |none=>grind
  |some te=>
  rw[hte]at e;have J:=(i.ty el te hte).kind;simp only[hY]at e;split at e
  .rename_i h3;simp only[fH]at h3;rw[h3]at J;simp only[dE]at J;cases e;simp only[an,aN]at r;obtain⟨A,r,k,p⟩:=r;cases r;subst k;have c:=Lib.run_convert_string_bytes w s d el A k1 k2 J;have hge:=grownCap_ge w A.size 0 el;have q:(KA w el A).toList.length=grownCap w A.size 0 el*1:=by
    have:A.data.size=A.size:=rfl;simp_all[KA,this]
   have t:List.map oS (dN A)=A.data.toList.map λu=>oS u.toNat:=by simp[dN,tW]
   have f:(A.data.toList.map λu=>oS u.toNat).length=A.size:=by simp
   obtain⟨X',O',N,q2,y,q4⟩:=yM Z W Y o ((T2 w el A).mono Z.wb) (afR w el A) q (grownCap_le_maxLen w _ 0 el p) (by omega) (LP (C:=X.C) A.data.toList) (by intro ws hw;grind)
    (rest:=bT (grownCap w A.size 0 el-A.size) (.int .u8 0)) (by simp[LR,KA])
   rw[f]at y;rw[bn,xz,t];exact⟨_,_,X',O',c,N,q2,y,q4⟩
  trivial
 .rename_i x el h1 h2;simp only[fH]at h1 h2;rw[h1]at k1;rw[h2]at k2;simp only[dE]at k1 k2;cases hte:E.ty el with
  |none=>grind
  |some te=>
  rw[hte]at e;have J:=(i.ty el te hte).kind;simp only[hY]at e;split at e
  .rename_i l h3 hl;simp only[fH]at h3;rw[h3]at J;simp only[dE]at J;obtain⟨A,k,e⟩:=bu.1 e;cases e;obtain⟨a,m,cap,ea,hm,hmc,z,D⟩:=agZ Z hl r;subst ea;have U:m=0->A=[]:=by
    intro Q;have:l=[]:=pY (by omega)
    subst this;cases k;rfl
   cases a with
   |none=>
    have Q:m=0:=by
     grind
    rw[U Q];refine .same Z (x:=.string .empty) (by rw[run_convert_bytes_string w s d el _ _ _ k1 J k2];rfl) ?_
    simp only[an,aN];exact⟨_,rfl,rfl,by trivial⟩
   |some a=>
    have F:∃I:List Int,(loadCells a m).run P w=.ok (I.map (pV .u8)).toArray w/\A=I.map ju/\(∀n∈I,ig .u8 n)/\I.length=m:=by
     rcases D with D|⟨a0,aV,sz,hh,N,q2,y,q4⟩
     .subst D;exact⟨[],run_loadCells_list (P:=P) (w:=w) a [] (by simp),by rw[U rfl];rfl,by simp,rfl⟩
     .cases hh;obtain⟨I,G,R,S,T⟩:=T1 k q2;rw[G]at q4;have:=run_loadCells_list (P:=P) (w:=w) a (I.map (pV .u8)) (λj v e=>q4 j v e)
      grind
    obtain⟨I,G,R,S,T⟩:=F;refine .same Z (x:=_) (by rw[run_convert_bytes_string w s d el _ _ _ k1 J k2];exact run_bytesToString w a m cap I G) ?_
    simp only[an,aN];have g:=Z5 I acH S;refine⟨_,rfl,by rw[g,R];rfl,?_⟩
    have:=xz (I.foldl (λr n=>r.push (SY n.toNat)) acH)
    simp_all[g,this,dN,T,z]
  trivial
 trivial
end
section
variable {P:Program} {B:Nat} {X:Cx} {O:Nat->Addr->Prop} {w:World} {h:Heap} {E:Env}
theorem VC(off:Nat):∀(xs:List Value) (k:Nat) (cs:Array Value),off+k+xs.length<=cs.size->
  ((xs.zipIdx k).foldl (λcs (x:Value×Nat)=>cs.setIfInBounds (off+x.2) x.1) cs).toList=cs.toList.take (off+k)++(xs++cs.toList.drop (off+k+xs.length))
 |[],k,cs,_=>by simp
 |x::xs,k,cs,A=>by
  simp at A;rw[List.zipIdx_cons,adE,VC off xs (k+1) _ (by simp;omega)]
  dsimp only;have I:off+k< cs.toList.length:=by simp;omega
  rw[Array.toList_setIfInBounds,List.set_eq_take_append_cons_drop,aK I];have h1:(cs.toList.take (off+k)).length=off+k:=by grind
  rw[show off+(k+1)=(off+k)+1 from by omega]
  rw[List.take_append,h1,Nat.add_sub_cancel_left,List.take_succ_cons,List.take_zero]
  rw[List.drop_append,h1,List.drop_of_length_le (by omega),show off+k+1+xs.length-(off+k)=xs.length+1 from by omega,List.drop_succ_cons,List.drop_drop]
  grind
theorem Vr(A:Nat->Option (Nat×Nat))(cs:Array Value)(i:Nat)(v:Value)(I:List (Nat×Value)){off size:Nat}(hp:A i=ab (off,size))(h1:v.cells.size=size){pre old post:List Value}
  (U:cs.toList=pre++(old++post)) (Z:pre.length=off) (hold:old.length=size):
  ∃J:Array Value,Ae A cs ((i,v)::I)=Ae A J I/\J.toList=pre++(v.cells.toList++post):=by
 have a:cs.size=pre.length+(old.length+post.length):=by rw[<-R8,U];simp
 refine⟨_,by rw[Ae,hp];simp only;rw[az (by grind)],?_⟩
 rw[<-Array.foldl_toList];have:=VC off v.cells.toList 0 cs (by simp;omega)
 grind
theorem arh(A:Nat->Option (Nat×Nat))(p:Nat×V)(ps:List (Nat×V))(l:List V):nf l A (p::ps)=((A p.1).bind λI=>(bC l p.1).bind λc=>
  bif ak (iw l p.1) I.1&&(ak c.wd I.2&&(ak p.2.wd I.2&&ij p.2))then nf (bB l p.1 p.2) A ps else ae):=rfl
theorem ai2(v:V):ij v=v.plain:=by rfl
def Az(X:Cx)(ps:List (Nat×V))(A:List (Nat×Value)):Prop:=aZ (λp q=>p.1=q.1/\an X p.2 ag [q.2]) ps A
theorem F3{X:Cx}{A:Nat->Option (Nat×Nat)}{W:Nat}:∀(ps:List (Nat×V)) {U:List (Nat×Value)} {l Z:List V} {cs:Array Value},Az X ps U->nf l A ps=ab Z->an X (.agg W l) af cs.toList->
  ∃J,Ae A cs U=ab J/\an X (.agg W Z) af J.toList
 |[],U,l,Z,cs,a,e,r=>by
  cases a;simp[nf]at e;subst e;exact⟨cs,rfl,r⟩
 |p::ps,U,l,Z,cs,a,e,r=>by
  obtain⟨q,b,rfl,⟨hp,m⟩,d⟩:=a;obtain⟨g,n,e⟩:=ay.1 e;obtain⟨c,i,e⟩:=ay.1 e;obtain⟨j,e⟩:=aQ e;simp only[aM]at j;obtain⟨k1,k2,v,o⟩:=j;rw[b8]at i;obtain⟨pre,s,post,h1,h2,h3,t⟩:=r.split (b9 k1) i;have I:=m.cells o;have f:q.2.cells.size=g.2:=by have:=I.wd;simp_all
  have hold:s.length=g.2:=by rw[h3.wd];exact b9 k2
  obtain⟨J,f1,f2⟩:=Vr A cs q.1 q.2 b (by rw[<-hp];omega) f h1 (by rw[h2]) hold
  have k:=t p.2 q.2.cells.toList I (by grind)
  rw[<-f2,<-dR]at k;obtain⟨u,x,y⟩:=F3 ps d e k;grind
theorem Z2{P:Program}:∀(fs:List Field),(∀f∈fs,∃i,P.info? f.type=ab i)->fs.mapM (λf=>(P.info? f.type).map λi=>(f.offset,i.size))=ab (fs.map λf=>(f.offset,P.cellsOf f.type))
 |[],_=>rfl
 |f::fs,h=>by
  obtain⟨i,hi⟩:=h f (by simp)
  have A:P.cellsOf f.type=i.size:=by simp[ac8,hi]
  rw[List.mapM_cons,Z2 fs (λg I=>h g (by simp[I]))]
  simp[hi,A]
theorem afM(o:EnvTy P E)(p:HR B X O w h){t:Nat}{ps:List (Nat×V)}{v:V}{h':Heap}(e:wh E h t ps=ab (v,h')){a:Array (Nat×Value)}(r:Az X ps a.toList):cY P B X O w h (Instr.build t a) v h':=by
 unfold wh at e;cases q:E.ty t with
 |none=>grind
 |some ti=>
 rw[q]at e;have b:=o.ty t ti q;have c:=b.kind;obtain⟨i,s,M,N,C⟩:=b.info;simp only[ah]at e;obtain⟨l,d,e⟩:=ay.1 e;have A:ti.zero.plain=ag:=by
  unfold V.kids at d;split at d
  .rename_i g;rw[g];rfl
  .rename_i g;rw[g];rfl
  trivial
 obtain⟨z,u,z2⟩:=C _ rfl A;have D:=an.mono (EZ X) _ _ _ (an.low AB _ _ _ (z2.cells A)) (z2.cells A);have y:=XZ d D;split at e
 .rename_i fs Z;rw[Z]at c;obtain⟨J,F,G,H,_⟩:=c;obtain⟨k,hf,e⟩:=bu.1 e;cases e;have hp:=Z2 (P:=P) J.toList (λf hf=>(H f hf).2)
  have U:(λx=>((J.toList.map λf=>(f.offset,P.cellsOf f.type)).toArray[x]?))=λi=>(bC fs i).map (λf=>(f.1,f.2.1)):=by
   funext x;rw[b8,<-G];grind
  rw[<-U]at hf;obtain⟨I,f1,f2⟩:=F3 ps r hf y;have m:P.built t a.toList=ab I:=by
   simp only[ac7,s,F,u,hp];omega
  refine .same p (run_build w t a I m) ?_;have hw:an X (.agg ti.zero.wd k) ag [.agg I]:=by
   simp only[an]at f2|-;grind
  exact K7 hw
 .rename_i n el Z;rw[Z]at c;simp only[dE]at c;cases hte:E.ty el with
  |none=>grind
  |some te=>
  rw[hte]at e;obtain⟨j,K,L,_⟩:=(o.ty _ _ hte).info;obtain⟨k,hf,e⟩:=bu.1 e;cases e;obtain⟨I,f1,f2⟩:=F3 ps r hf y;have m:P.built t a.toList=ab I:=by
   simp only[ac7,s,c,u,K,L];omega
  refine .same p (run_build w t a I m) ?_;have hw:an X (.agg ti.zero.wd k) ag [.agg I]:=by
   simp only[an]at f2|-;grind
  exact K7 hw
 trivial
theorem Up.gx{C:IV}(n:Nat)(A:X.C.le C)(hf:∀a v,C a=ab v->X.C a=ae->B<=a.block):Up B X w n (X.gx C) w:=
 ⟨⟨A,λ_ bi _ e=>⟨bi,e,aJ _,λ_=>rfl,λ_=>rfl⟩,λ_ _ e=>e⟩,.refl _ _,hf,λ_ _ e _=>e⟩
theorem ari(h:Heap)(sz:Nat)(p:Nat×V)(ps:List (Nat×V))(l:List D):lC h sz l (p::ps)=((p.2.data h).bind λd=>(bC l p.1).bind λ_=>bif ak d.wd sz&&ij p.2 then lC h sz (bB l p.1 d) ps else ae):=rfl
theorem ZM(p:Nat×V)(ps:List (Nat×V)):jo (p::ps)=(match V.owns p.2 with|[]=>jo ps|A=>A++jo ps):=rfl
theorem ano{p:Nat×V}{ps:List (Nat×V)}(hp:p∈ps){b:Nat}(A:b∈V.owns p.2):b∈jo ps:=by
 induction ps with
 |nil=>cases hp
 |cons q ps ih=>
  rw[ZM];grind
theorem Vp{C:IV}{S:Nat->Prop}(H:HR B X O w h)(K:qe X w h C S){sz:Nat}:∀(ps:List (Nat×V)) {k:List (Nat×Value)} {l Z:List D} {cs:Array Value} {A:List (List Value)},Az X ps k->(∀p∈ps,∀b∈p.2.owns,S b)->lC h sz l ps=ab Z->
  bw C l af A->bc sz A->cs.toList=A.flatten->
  ∃U J,Ae (λi=>ab (i*sz,sz)) cs k=ab U/\bw C Z af J/\bc sz J/\U.toList=J.flatten/\Z.length=l.length
 |[],k,l,Z,cs,A,n,_,e,r,ev,o=>by
  cases n;simp[lC]at e;subst e;exact⟨cs,A,rfl,r,ev,o,rfl⟩
 |p::ps,k,l,Z,cs,A,n,L,e,r,ev,o=>by
  obtain⟨q,s,rfl,⟨hp,Q⟩,t⟩:=n;obtain⟨d,M,e⟩:=ay.1 e;obtain⟨c,a,e⟩:=ay.1 e;obtain⟨u,e⟩:=aQ e;rw[b8]at a;rw[dR]at e;obtain⟨ws,m,_⟩:=r.at a;have y:=qu H K M (L p (by simp)) Q
  simp at u;obtain⟨u,z⟩:=u;rw[ai2]at z;have f:(V.im d).plain=ag:=by rw[Fz M];omega
  have I:aN C d af q.2.cells.toList:=an.cells (X:=⟨C,λ_=>ae,λ_=>ae⟩) (v:=.im d) f y
  have F:q.2.cells.size=sz:=by have:=I.wd;simp_all
  have G:=ev ws (lj m);have g:(A.flatten.take (p.1*sz)).length=p.1*sz:=by
   have h1:=(e7.1 m).1;have h2:(p.1+1)*sz<=A.length*sz:=dM _ h1;grind[gz,ev.len,mi,mf]
  obtain⟨U,f1,f2⟩:=Vr (λi=>ab (i*sz,sz)) cs q.1 q.2 s (off:=p.1*sz) (size:=sz) (by simp[hp]) F (pre:=A.flatten.take (p.1*sz)) (old:=ws) (post:=A.flatten.drop (p.1*sz+sz)) (by rw[o];exact MK ev m) g G
  have j:q.2.cells.toList.length=sz:=by omega
  rw[<-Bv ev m j]at f2;obtain⟨R,N,W,Y,g3,g4,g5⟩:=Vp H K ps t (λx T=>L x (by simp[T])) e (cf.2 ((cf.1 r).set I)) (ev.set j) f2
  grind
theorem Vn{sz:Nat}{A:Nat->Option (Nat×Nat)}(I:∀i U,A i=ab U->U.2=sz):∀(ps:List (Nat×V)) {l J:List V},nf l A ps=ab J->(∀v∈l,v.wd=sz)->(∀v∈J,v.wd=sz)/\J.length=l.length
 |[],l,J,e,h=>by simp[nf]at e;grind
 |p::ps,l,J,e,h=>by
  obtain⟨U,Z,e⟩:=ay.1 e;obtain⟨c,d,e⟩:=ay.1 e;obtain⟨b,e⟩:=aQ e;simp only[aM]at b;rw[dR]at e;obtain⟨h1,h2⟩:=Vn I ps e (λv a=>by
   rcases List.mem_or_eq_of_mem_set a with a|rfl
   .exact h v a
   .rw [b9 b.2.2.1];exact I _ _ Z)
  grind
theorem aeN{X:Cx}{sz:Nat}{l:List V}{aV:List (List Value)}(h:bF X l af aV)(I:∀v∈l,v.wd=sz):bc sz aV:=by
 induction l generalizing aV with
 |nil=>subst h;exact λ_ h=>by cases h
 |cons v l ih=>
  obtain⟨ws,r,rfl,h1,h2⟩:=h;intro x A;rcases eT.1 A with rfl|A
  .rw [h1.wd];grind
  .exact ih h2 (λu J=>I u (by simp[J])) x A
theorem aeS{n:Nat}(U:aq h n=ae){A:List Nat}(I:fi h A=ag):n ∉ A:=λJ=>by
 obtain⟨g,s,ro,l,e⟩:=AL I n J;grind
theorem abl{t el n size:Nat}(U:P.underlying t=ab (.slice el)){i:TypeInfo}(hi:P.info? el=ab i)(a:i.size=size){z:Value}(b:i.zero=ab z)(c:n*size<=16777216){Z:Array (Nat×Value)}{cs:Array Value}
  (hf:Ae (λi=>ab (i*size,size)) (madeCells z.cells (n*size)) Z.toList=ab cs):
  (Kx t n Z).run P w=.ok (.slice (ab ⟨w.heap.size,0,ae⟩) n n) (w.alloc (.cells cs el)):=by
 subst a;have A:¬(16777216< n*i.size):=by omega
 by_cases I:n*i.size=0
 .rw [I]at hf;have hm:∀z,madeCells z 0=#[]:=λz=>by simp[madeCells]
  rw[hm]at hf;have J:Array.range 0=(#[]):=rfl;simp[Kx,run_underlying U,sizeOf,typeInfo,hi,I,J,hf,newRow,tO]
 .unfold madeCells at hf;simp[Kx,run_underlying U,sizeOf,typeInfo,zeroValue,hi,b,I,A,hf,newRow,tO]
theorem afK(hE:EnvTy P E)(k:HR B X O w h){keep:Bool}{aw t n:Nat}(hn:aq h aw=ae)(hM:X.M aw=ae)(F:aw<=h.length){ps:List (Nat×V)}{v:V}{h':Heap}(e:kW E keep aw h t n ps=ab (v,h')){qs:Array (Nat×Value)}(r:Az X ps qs.toList):
  cY P B X O w h (Kx t n qs) v h':=by
 unfold kW at e;cases ht:E.ty t with
 |none=>grind
 |some ti=>
 rw[ht]at e;have x:=(hE.ty t ti ht).kind;simp only[ah]at e;split at e
 .rename_i el G;rw[G]at x;simp only[dE]at x;cases hte:E.ty el with
  |none=>grind
  |some te=>
  rw[hte]at e;have a:=hE.ty _ _ hte;simp only[ah]at e;obtain⟨c,e⟩:=aQ e;rw[aM]at c;have H:=nY c.1;have uJ:=nY c.2;obtain⟨z,K,e⟩:=ay.1 e;cases j:cq te (.im z)with
  |false=>grind
  |true=>
  rw[j]at e;simp only[Bool.not_true,ax]at e;have U:n*te.size<=16777216:=H;have Z:n<=eO:=by grind[eO]
  split at e
  .rename_i l hf;have hf:lC h te.size (kU n z) ps=ab l:=by
    grind
   obtain⟨y,e⟩:=aQ e;cases e;obtain⟨C,O1,k1,k2,k3,k4,k5,k6,k7,k8,k9⟩:=xE (jo ps) k y;have f:=A6 y k2 k7;obtain⟨i,zv,D,L,i3,N,i5,i6⟩:=Ks a K j C;have g:bc te.size (bT n zv.cells.toList):=bc.rep (by omega)
   rw[nC]at hf;obtain⟨cs,aV,f1,f2,f3,f4,f5⟩:=Vp k f ps r (λp hp b c=>ano hp c) hf (Q1 i5 n) g (Ck i6 n)
   have A:=abl (w:=w) x D L N U f1;have qE:=aeS hn y;have Q:aq (close h (jo ps)) aw=ae:=by grind
   have J:l.length=n:=by grind
   have m:cs.toList.length=n*te.size:=by rw[f4,f3.len,(cf.1 f2).len,J]
   have hlen:=k5;have S:(X.gx C).M aw=ae:=hM;have o:aw<=(close h (jo ps)).length:=by omega
   have T:=kp.alloc w cs el;obtain⟨X',O',W,q2,q,q4,Y⟩:=yM k1 Q S o ((Below.refl B w).alloc k.wb _) T (s:=te.size) (cap:=n) (l:=l) (aV:=aV) (rest:=[]) m Z (by omega) (bw.mono (IV.le.refl _) _ _ _ f2) f3 (by simpa using f4)
   rw[J]at q;exact⟨_,_,X',O',A,W,(Up.gx _ k2 k4).trans (q2.less (by omega)),q,by omega,(A5 (w:=w) y (λb c=>(k8 b).2 c) (λb=>(k8 b).1) k9).trans Y (aJ _) (by omega)⟩
  .obtain ⟨l,hf,e⟩:=bu.1 e;cases e;have I:te.zero.plain=ag:=by rw[<-Fz K];exact(kO j).2.2
   obtain⟨i,D,L,i3,N⟩:=a.info;obtain⟨zv,z1,z2⟩:=N _ rfl I;have z3:an X te.zero af zv.cells.toList:=an.mono (EZ X) _ _ _ (an.low AB _ _ _ (z2.cells I)) (z2.cells I);have u:zv.cells.size=te.size:=by
    obtain⟨i',zv',w1,w2,_,w4,_,w6⟩:=Ks a K j X.C;rw[D]at w1;cases w1;rw[z1]at w4;cases w4;exact w6
   have hzw:te.zero.wd=te.size:=by rw[<-z3.wd];simpa using u
   rw[nC]at hf;obtain⟨hw1,hw2⟩:=Vn (sz:=te.size) (λi os e=>by cases e;rfl) ps hf (λv j=>by rw[List.eq_of_mem_replicate j];exact hzw)
   have hm:=Ck u n;have hz4:an X (.agg (n*te.size) (bT n te.zero)) af (madeCells zv.cells (n*te.size)).toList:=by
    simp only[an];exact⟨_,hm,dU.2 (aZ.rep (R:=λd ws=>an X d af ws) z3 n),by simp[size_madeCells]⟩
   obtain⟨cs,f1,f2⟩:=F3 ps r hf hz4;have A:=abl (w:=w) x D L z1 U f1;simp only[an]at f2;obtain⟨aV,g1,g2,g3⟩:=f2;have g:=aeN g2 hw1;have J:l.length=n:=by rw[hw2,gV]
   obtain⟨X',O',W,q2,q,q4,Y⟩:=Y3 k hn hM F ((Below.refl B w).alloc k.wb _) (kp.alloc w cs el) (s:=te.size) (cap:=n) (l:=l) (aV:=aV) (rest:=[]) g3 Z (by omega) g2 g (by simpa using g1)
   rw[J]at q;exact⟨_,_,X',O',A,W,q2,q,q4,Y⟩
 trivial
end
section
variable {P:Program} {B:Nat} {X:Cx} {O:Nat->Addr->Prop} {w:World} {h:Heap} {E:Env}
def dy(w:World)(r:Nat)(o:Obj):World:={w with heap:=w.heap.setIfInBounds r o}
theorem vp(w:World)(r:Nat)(o:Obj):(dy w r o).heap.size=w.heap.size:=by simp[dy]
theorem fB(w:World){r g:Nat}(o:Obj)(A:g≠r):(dy w r o).heap[g]? =w.heap[g]? :=by
 simp[dy,Ne.symm A]
theorem vo{w:World}{r:Nat}{o A:Obj}(h:w.heap[r]? =ab A):(dy w r o).heap[r]? =ab o:=by
 have I:=(Array.getElem?_eq_some_iff.1 h).1;simp[dy,I]
theorem qU{w:World}{r:Nat}{o A:Obj}(h:w.heap[r]? =ab A)(h1:A.isCells=af)(h2:o.isCells=af)(a:Addr):(dy w r o).cell? a=w.cell? a:=by
 by_cases I:a.block=r
 .have J:(dy w r o).heap[a.block]? =ab o:=by simp[I,vo,h]
  have U:w.heap[a.block]? =ab A:=by simp[I,h]
  unfold ada;grind[wO]
 .exact World.cell?_of_block (w:=w) (fB w o I)
theorem vn{w:World}{r:Nat}{o A:Obj}(h:w.heap[r]? =ab A)(h1:A.isCells=af)(h2:o.isCells=af)(a:Addr):(dy w r o).frozen? a=w.frozen? a:=by
 by_cases I:a.block=r
 .have J:(dy w r o).heap[a.block]? =ab o:=by simp[I,vo,h]
  have U:w.heap[a.block]? =ab A:=by simp[I,h]
  unfold ade;grind[wO]
 .exact World.frozen?_of_block (w:=w) (fB w o I)
theorem yR{B r:Nat}(w:World)(o:Obj)(hB:B<=r):Below B w (dy w r o):=
 ⟨rfl,rfl,rfl,by simp[dy],λk A=>fB w o (by omega)⟩
theorem fw.obj{w:World}{r:Nat}{o A:Obj}(h:w.heap[r]? =ab A)(h1:A.isCells=af)(h2:o.isCells=af){Q:Addr->Prop}{a:Addr}{i n:Nat}(I:fw w Q a i n):fw (dy w r o) Q a i n:=λj J U=>by
 obtain⟨q,⟨v,e⟩,f⟩:=I j J U;exact⟨q,⟨v,by simp[qU,h,h1,h2,e]⟩,by simp[vn,h,h1,h2,f]⟩
theorem cz.obj{w:World}{r:Nat}{o A:Obj}(h:w.heap[r]? =ab A)(h1:A.isCells=af)(h2:o.isCells=af){a:Addr}{vs:List Value}(I:cz w.cell? a vs):cz (dy w r o).cell? a vs:=λj v e=>by
 rw[qU h h1 h2];exact I j v e
theorem BR.obj{Q:Addr->Prop}{c:Nat}{k:bK}(i:BR X w Q c k){r:Nat}{o G:Obj}(h:w.heap[r]? =ab G)(h1:G.isCells=af)(h2:o.isCells=af)(C:¬Q ⟨r,0,ae⟩):BR X (dy w r o) Q c k:=by
 cases k with
 |cell v=>
  obtain⟨bi,y,ws,I,J,U,Z,d,A,b,z⟩:=i;exact⟨bi,y,ws,I,J,U,Z,d,A,b.obj h h1 h2,z.obj h h1 h2⟩
 |arr g s ro l=>
  obtain⟨bi,I,J,U,Z,d,A⟩:=i;refine⟨bi,I,J,U,Z,d,A.imp id ?_⟩;rintro⟨e,y,j,b,z,D,n,p,u,F⟩;exact⟨e,y,j,b,z,D,n,p.obj h h1 h2,u,F.obj h h1 h2⟩
 |bN g s l=>
  obtain⟨bi,I,J,U,Z,d,A⟩:=i;refine⟨bi,I,J,U,Z,d,A.imp id ?_⟩;rintro⟨e,y,j,b,z,D,n,p,u⟩;exact⟨e,y,j,b,z,D,n,p.obj h h1 h2,u.obj h h1 h2⟩
 |mp es s c=>
  obtain⟨bi,x,ms,ck,I,J,U,Z,d,A,b⟩:=i;refine⟨bi,x,ms,ck,I,J,U,Z,?_,A,b⟩;rw[fB w o (λe=>C (by simp_all[e,A]))];omega
 |jU T e s=>
  obtain⟨bi,x,I,J,U,Z,d⟩:=i;exact⟨bi,x,I,J,U,Z,d.kept (λg H _=>fB w o (λe=>C (H _ e.symm))) (λ_ q=>q)⟩
 |lp f t ps bO body=>
  obtain⟨bi,l,x,I,J,U,Z,d,A,b⟩:=i;refine⟨bi,l,x,I,J,U,Z,?_,A,b⟩;rw[fB w o (λe=>C (by simp_all[e,A]))];omega
 |it v a s l=>
  obtain⟨bi,x,m,I,J,U,Z,d,A,b⟩:=i;refine⟨bi,x,m,I,J,U,Z,?_,A,b⟩;rw[fB w o (λe=>C (by simp_all[e,A]))];omega
theorem HR.obj(A:HR B X O w h){r:Nat}{o J:Obj}(U:w.heap[r]? =ab J)(h1:J.isCells=af)(h2:o.isCells=af)(I:∀b k,aq h b=ab k->¬O b ⟨r,0,ae⟩):HR B X O (dy w r o) h:=
 ⟨λb k e=>(A.cy b k e).obj U h1 h2 (I b k e),λb a o=>by rw[vp];exact A.own b a o,A.fj,A.lt,⟨λa v e=>by rw[qU U h1 h2];exact A.ci a v e,A.ci.gl⟩,by simp[vp,A.wb]⟩
theorem JR(J:HR B X O w h){b r:Nat}{es U:List (D×V)}{s s':List Nat}{c c':Nat}{bi:BI}{ms A:Array MapEntry}{ck jB:Nat}(t:aq h b=ab (.mp es s c))(u:X.M b=ab bi)(p:bi.g=0)(hf:bi.fix=ag)(Z:bi.base=ab ⟨r,0,ae⟩)
  (m:w.heap[r]? =ab (.map ms ck)) (q:O b ⟨r,0,ae⟩) (he:ES X U s' c' A.toList jB):
  HR B X O (dy w r (.map A jB)) (aD h b (.mp U s' c'))/\Up B X w h.length X (dy w r (.map A jB))/\h.length<=(aD h b (.mp U s' c')).length/\FR X O w h X O (dy w r (.map A jB)) (aD h b (.mp U s' c')):=by
 have d:=dI t;have f:=cX d;have i:∀c,c≠b->¬O c ⟨r,0,ae⟩:=λc I o=>I (J.fj c b _ o q)
 have j:=qU m rfl (o:=.map A jB) rfl;refine⟨⟨λc k e=>?_,λc a o=>?_,J.fj,λc bj e=>?_,⟨λa v e=>?_,J.ci.gl⟩,?_⟩,⟨.refl _ _,yR w _ (J.own b _ q).1,λa v e n=>(by grind),λy o e l=>?_⟩,?_,⟨λc bj e n=>?_,λ_ _ e _=>e,λ_ _ _ _ _ o=>o,λc bj e n a o v ev=>?_,λc bj e n a o z C _=>?_,λc bj e n g p _=>?_,λc e=>?_,λ_ _ e _=>e⟩⟩
 .rw [bG h b c _ f]at e;by_cases I:c=b
  .subst I;simp at e;cases e;exact⟨bi,r,A,jB,u,p,hf,Z,vo m,q,he⟩
  .simp [az I]at e;exact(J.cy c k e).obj m rfl rfl (i c I)
 .rw [vp];exact J.own c a o
 .rw [bL,aK d];exact J.lt c bj e
 .rw [j];exact J.ci a v e
 .simp[vp,J.wb]
 .rw [fB w _ (λx=>by subst x;rw[m]at e;cases e;cases l)];exact e
 .simp[bL,aK,d,aJ]
 .rw [bG h b c _ f,az (λI=>by grind)];omega
 .exact ⟨by grind,vn m rfl rfl a⟩
 .have I:c≠b:=λI=>by grind
  rw[fB w _ (λe=>i c I (by simp_all[e,o]))];omega
 .have I:c≠b:=λI=>by grind
  exact fB w _ (λe=>i c I (p _ e.symm))
 .rw [bG h b c _ f]at e;grind
theorem amg(l:EnvTy P E)(g:HR B X O w h){n t:Nat}(m:aq h n=ae)(b:X.M n=ae)(I:n<=h.length){r:Option V}{v:V}{h':Heap}(e:zJ E n h t r=ab (v,h')){J:Option Value}(c:mV X r J):
  cY P B X O w h (Sn t J) v h':=by
 unfold zJ Env.kind at e;cases i:E.ty t with
 |none=>grind
 |some ti=>
 rw[i]at e;have j:=(l.ty t ti i).kind;simp at e;split at e
 .rename_i p et U;cases A:ti.k<;>rw[A]at U<;>cases U;rw[A]at j;have key:v=.mp n/\h'=aD h n (.mp [] [] 0)/\(Sn t J).run P w=.ok (.map (ab w.heap.size)) (w.alloc (.map #[] 0)):=by
   split at e
   .cases e;cases J with
    |none=>trivial
    |some x=>trivial
   .cases e;cases J with
    |none=>trivial
    |some x=>
     obtain⟨c,_⟩:=c;cases c;simp[Sn,run_underlying j,asInt,asIntOf,tO]
   trivial
  obtain⟨rfl,rfl,Z⟩:=key;let bi:BI:=⟨0,ab ⟨w.heap.size,0,ae⟩,0,1,ag⟩;let d:Addr->Prop:=λa=>a=⟨w.heap.size,0,ae⟩
  have f:BR (X.du n bi) (w.alloc (.map #[] 0)) d n (.mp [] [] 0):=⟨bi,w.heap.size,#[],0,Cx.eL _ _ _,rfl,rfl,rfl,heap_alloc_new w _,rfl,⟨by rfl,rfl,rfl⟩⟩
  refine⟨_,_,X.du n bi,_,Z,g.add m b I (.alloc _ _) (by simp) bi d (.mp [] [] 0) (λa o=>?_) f,Up.add b ((Below.refl B w).alloc g.wb _) (.alloc _ _) _ bi,?_,?_,.add b I (.alloc _ _) bi d _⟩
  .subst o;simp
  .exact ⟨w.heap.size,bi,rfl,Cx.eL _ _ _,rfl,rfl⟩
  grind[bL]
 trivial
theorem HZ(d:EnvTy P E){A:Nat}{I:D}(J:kN E A I=ag){C:IV}{Z:Value}(r:aN C I ag [Z]):
  (∃k n,P.underlying A=ab (.int k)/\I=.int k n/\Z=.int k n)∨(∃s b,P.underlying A=ab .string/\I=.str s/\Z=.string b/\dN b=s)∨(∃b,P.underlying A=ab .bool/\I=.bool b/\Z=.bool b):=by
 unfold kN Env.kind at J;cases c:E.ty A with
 |none=>grind
 |some ti=>
  rw[c]at J;have U:=(d.ty A ti c).kind;simp at J;cases a:ti.k<;>rw[a]at J U<;>cases I<;>simp[dE]at U<;>try(simp at J)
  .simp [aN]at r;grind
  .have:=sB J;simp[aN]at r;grind
  .simp [aN]at r;grind
theorem L2{A:Nat}{I:Value}{d:TypeDesc}(J:P.underlying A=ab d)(U:(∃k,d=.int k)∨d=.string∨d=.bool)(b:Bool):(Ek b 10000 A I).run P w=.ok () w:=by
 unfold Ek;simp[eZ,run_underlying J];rcases U with⟨k,rfl⟩|rfl|rfl<;>rfl
theorem T3(a b:ByteArray):(a==b)=seq (dN a) (dN b):=by
 rw[beq_toListBytes,Bool.eq_iff_iff,JQ,beq_iff_eq,toList_eq,toList_eq];constructor
 .intro h;simp[dN,h]
 .intro h;rw[LQ h]
theorem alP(i:EnvTy P E){g:Nat}{J:D}(j:kN E g J=ag){C:IV}{U:Value}(r:aN C J ag [U]){e:D}{b:Bool}(he:sC J e=ab b){Z:Value}(A:aN C e ag [Z]):
  ∃d,P.underlying g=ab d/\((∃k,d=.int k)∨d=.string∨d=.bool)/\Sq d U Z=ab b/\(b=ag->El 10000 Z U=ag):=by
 rcases HZ i j r with⟨k,n,h1,rfl,rfl⟩|⟨s,l,h1,rfl,rfl,h2⟩|⟨x,h1,rfl,rfl⟩
 .cases e<;>simp[sC]at he<;>try contradiction
  rename_i m o
  obtain⟨a,c⟩:=aQ he
  have a:=sB a;subst a
  obtain⟨A,_⟩:=A;cases A
  have f:=(fu c).symm
  subst f
  refine⟨_,h1,.inl ⟨_,rfl⟩,?_,λI=>?_⟩
  .simp [Sq,og];rfl
  .rw [og]at I;have:=of_decide_eq_true I;subst this
   simp[El]
 .cases e<;>simp[sC]at he<;>try contradiction
  cases he
  obtain⟨b',A,h3,_⟩:=A;cases A
  subst h2;subst h3
  refine⟨_,h1,.inr (.inl rfl),?_,λI=>?_⟩
  .simp[Sq,T3]
  .grind[El,T3,JQ,I.symm]
 .cases e<;>simp[sC]at he<;>try contradiction
  rename_i y
  cases A
  cases he
  refine⟨_,h1,.inr (.inr rfl),?_,λI=>?_⟩
  .cases x<;>cases y<;>rfl
  .grind[El]
theorem arj(k:D)(e:D×V)(es:List (D×V)):ng k (e::es)=((sC k e.1).bind λb=>bif b then ab 0 else(ng k es).map (· +1)):=rfl
theorem F4(f:EnvTy P E){g:Nat}{U:D}(k:kN E g U=ag){J:Value}(r:aN X.C U ag [J]){d:TypeDesc}(l:P.underlying g=ab d):∀{es:List (D×V)} {ms:List MapEntry} {i j:Nat},gf X es ms->ng U es=ab i->
  (i< es.length->∃m,ms[i]? =ab m/\wL d J ms j=ab (ab (j+i,m.val))/\El 10000 m.key J=ag)/\(¬i< es.length->i=es.length/\wL d J ms j=ab ae)
 |[],ms,i,j,he,hf=>by
  subst he;simp[ng]at hf;subst hf;exact⟨λh=>absurd h (by simp),λ_=>⟨rfl,rfl⟩⟩
 |e::es,ms,i,j,he,hf=>by
  obtain⟨m,v,rfl,h1,h2,h3⟩:=he;obtain⟨b,q,hf⟩:=ay.1 hf;obtain⟨x,I,_,n,A⟩:=alP f k r q h1;rw[l]at I;cases I;cases b with
  |true=>
   cases hf;exact⟨λ_=>⟨m,rfl,by simp[wL,n],A rfl⟩,λh=>absurd (by simp) h⟩
  |false=>
   obtain⟨y,Z,hf⟩:=bu.1 hf;subst hf;obtain⟨s,q2⟩:=F4 f k r l (j:=j+1) h3 Z;refine⟨λa=>?_,λc=>?_⟩
   .obtain ⟨t,o,p,u⟩:=s (by simpa using a)
    refine⟨t,by trivial,?_,u⟩
    simp[wL];grind
   .obtain ⟨o,p⟩:=q2 (λh=>c (by simpa using h))
    simp[o,wL,n,p]
theorem run_findKey{A:Nat}{d:TypeDesc}(J:P.underlying A=ab d){I:Value}{ms:List MapEntry}{x:Option (Nat×Value)}(hf:wL d I ms 0=ab x):(acW A I ms).run P w=.ok x w:=by
 simp[acW,run_underlying J,hf]
theorem lU{r:Nat}{o:Obj}(h:w.heap[r]? =ab o)(A:o.isCells=af):(getObj r).run P w=.ok o w:=by
 cases o<;>simp[wO]at A<;>simp[getObj,tO,h]
theorem DT{r:Nat}{o A:Obj}(h:w.heap[r]? =ab A)(I:A.isCells=af):(setObj r o).run P w=.ok () (dy w r o):=by
 cases A<;>simp[wO]at I<;>simp[setObj,tO,h,dy]
theorem R7(A:EnvTy P E){t:Nat}{ti:TI}(I:E.ty t=ab ti)(hp:ij ti.zero=ag):∃z,(zeroValue t).run P w=.ok z w/\an X ti.zero ag [z]:=by
 obtain⟨i,J,_,_,U⟩:=(A.ty t ti I).info;obtain⟨z,Z,z2⟩:=U _ rfl hp;exact⟨z,by simp[zeroValue,typeInfo,J,Z],an.mono (EZ X) _ _ _ (an.low AB _ _ _ z2) z2⟩
theorem zW{v:V}{x:Value}(r:an X v ag [x])(b:Bool):an X (.aG [v,.im (.bool b)]) ag [.tuple #[x,.bool b]]:=by
 simp[an,bF,aN];grind
theorem FQ(U:HR B X O w h){m:V}{es:List (D×V)}(he:entries h m=ab es){A:Value}(I:an X m ag [A]):
  (A=.map ae/\es=[])∨∃b r ms ck bi s,m=.mp b/\A=.map (ab r)/\aq h b=ab (.mp es s ck)/\X.M b=ab bi/\bi.g=0/\bi.fix=ag/\bi.base=ab ⟨r,0,ae⟩/\w.heap[r]? =ab (.map ms ck)/\O b ⟨r,0,ae⟩/\ES X es s ck ms.toList ck:=by
 unfold entries at he;split at he
 .simp [an,aN]at I;grind
 .rename_i b;split at he
  .rename_i Z a;obtain⟨bi,r,ms,ck,h1,h2,h3,c,i,j,d⟩:=U.cy b _ a;obtain⟨k,bj,e,J,f,_⟩:=I;rw[h1]at J;cases J;rw[c]at f;have:=d.Fs;grind
  trivial
 trivial
theorem al7(o:EnvTy P E)(Z:HR B X O w h){t:Nat}{m k v:V}{ok:Bool}{h':Heap}(e:zI E h t m k ok=ab (v,h')){u a:Value}(T:an X m ag [u])(C:an X k ag [a]):
  cY P B X O w h (Ky t u a ok) v h':=by
 unfold zI at e;split at e
 .rename_i Q et kd I;obtain⟨J,e⟩:=aQ e;obtain⟨es,D,e⟩:=ay.1 e;obtain⟨i,hi,e⟩:=ay.1 e;unfold Env.kind at I;obtain⟨ti,W,F⟩:=bu.1 I;have p:=(o.ty t ti W).kind;rw[F]at p;simp only[dE]at p;simp only[an]at C;obtain⟨d,q,G⟩:∃d,P.underlying Q=ab d/\((∃k,d=.int k)∨d=.string∨d=.bool):=by
   rcases HZ o J C with⟨k,n,h1,_⟩|⟨s,bs,h1,_⟩|⟨x,h1,_⟩
   all_goals grind
  have c:∀b,(Ek b 10000 Q a).run P w=.ok () w:=L2 q G;obtain⟨ms,f,g⟩:∃ms:Array MapEntry,gf X es ms.toList/\∀x,wL d a ms.toList 0=ab x->(Ky t u a ok).run P w=((do
    let(v,H)<-match x with
     |some (_,v)=>pure (v,ag)
     |none=>pure (<-zeroValue et,af)
    pure (if ok then .tuple #[v,.bool H]else v)):Sem Value).run P w:=by
   rcases FQ Z D T with⟨rfl,rfl⟩|⟨b,r,ms,ck,bi,_,_,rfl,_,_,_,_,_,Y,_,A⟩
   .refine ⟨#[],by rfl,λx K=>?_⟩
    have U:=run_findKey (w:=w) q K;cases x<;>simp[Ky,run_underlying p,c,U]
   .refine ⟨ms,A.n4,λx K=>?_⟩
    have U:=run_findKey (w:=w) q K;cases x<;>simp[Ky,run_underlying p,lU Y rfl,c,U]
  obtain⟨q1,q2⟩:=F4 o J C q (j:=0) f hi;rw[b8]at e;split at e
  .rename_i n4 A;cases e;have L:i< es.length:=(e7.1 A).1;obtain⟨m',e1,M,_⟩:=q1 L;have R:an X n4.2 ag [m'.val]:=by
    obtain⟨y,ey,_,hy⟩:=(ml.1 f).get A;grind
   have l:=g _ M;cases ok with
   |true=>exact .same Z (by trivial) (zW R ag)
   |false=>exact .same Z (by trivial) R
  .rename_i A;have N:¬i< es.length:=λh=>by grind
   obtain⟨_,M⟩:=q2 N;obtain⟨te,hte,e⟩:=ay.1 e;obtain⟨hp,e⟩:=aQ e;cases e;obtain⟨z,hz,S⟩:=R7 (X:=X) (w:=w) o hte hp;have l:=g _ M;cases ok with
   |true=>exact .same Z (by simp_all) (zW S af)
   |false=>exact .same Z (by simp_all) S
 trivial
theorem gf.set{es:List (D×V)}{ms:List MapEntry}(h:gf X es ms){i:Nat}{k:D}{v:V}{m:MapEntry}(A:aN X.C k ag [m.key])(I:an X v ag [m.val]):gf X (es.set i (k,v)) (ms.set i m):=
 ml.2 ((ml.1 h).set ⟨A,I⟩)
theorem YI{α:Type}(f:α->α):∀{l:List α} {i:Nat} {x:α},l[i]? =ab x->l.modify i f=l.set i (f x)
 |[],_,_,e=>by trivial
 |a::l,0,x,e=>by grind
 |a::l,i+1,x,e=>by simp;rw[YI f (by trivial)]
theorem afA(ms:Array MapEntry)(i:Nat)(k u:Value):(ms.modify i λe=>{e with key:=k,val:=u}).toList.map (·.born)=ms.toList.map (·.born):=by
 apply Ar;grind
theorem Yp(D:EnvTy P E)(F:HR B X O w h){t:Nat}{m k u v:V}{h':Heap}(e:rl E h t m k u=ab (v,h')){vm a o:Value}(rm:an X m ag [vm])(q:an X k ag [a])(ru:an X u ag [o]):
  v=.undef/\EX P B X O w h (So t vm a o) h':=by
 unfold rl at e;split at e
 .rename_i kt et b kd U;obtain⟨f,e⟩:=aQ e;obtain⟨es,G,e⟩:=ay.1 e;obtain⟨i,hi,e⟩:=ay.1 e;obtain⟨te,hte,e⟩:=ay.1 e;obtain⟨sk,e⟩:=aQ e;unfold Env.kind at U;obtain⟨ti,ht,H⟩:=bu.1 U;have z:=(D.ty t ti ht).kind;rw[H]at z;simp only[dE]at z;simp only[an]at q;obtain⟨d,C,K⟩:∃d,P.underlying kt=ab d/\((∃k,d=.int k)∨d=.string∨d=.bool):=by
   rcases HZ D f q with⟨k,n,h1,_⟩|⟨s,bs,h1,_⟩|⟨x,h1,_⟩
   all_goals grind
  have y:∀b,(Ek b 10000 kt a).run P w=.ok () w:=L2 C K;rcases FQ F G rm with⟨rfl,_⟩|⟨b',r,ms,ck,bi,s,eb,rfl,L,hM,hg,hf,Z,p,hO,A⟩
  .grind[an]
  .cases eb;simp only[L,fH,aek]at e;obtain⟨rfl,rfl⟩:=e;refine⟨rfl,?_⟩;have J:=A.n4;obtain⟨q1,q2⟩:=F4 D f q C (j:=0) J hi;have hlen:ms.toList.length=es.length:=(ml.1 J).len;rw[bn];by_cases g:i< es.length
   .obtain ⟨M,e1,N,e3⟩:=q1 g;have l:cA i es.length=ag:=by simp_all
    rw[l,au,dR];have Q:((ms[i]?).map (·.key)).getD a=M.key:=by
     grind
    have R:(acX M.key a).run P w=.ok a w:=by simp[acX,e3]
    have c:=run_findKey (w:=w) C N;rw[cV]at c;have I:gf X (es.set i (kd,u)) (ms.modify i λe=>{e with key:=a,val:=o}).toList:=by
     have:(ms.modify i λe=>{e with key:=a,val:=o}).toList=ms.toList.set i {M with key:=a,val:=o}:=by
      simp[Array.toList_modify,YI,e1]
     simp_all[this,J.set,q,ru]
    obtain⟨S,T,W,Y⟩:=JR (jB:=ck) (s':=s) (c':=ck) F L hM hg hf Z p hO ⟨I,by rw[<-A.born];exact afA ms i _ _,rfl⟩
    refine⟨_,X,O,?_,S,T,W,Y⟩;simp[So,run_underlying z,lU p rfl,y,c,Q,R,DT p rfl]
   .obtain ⟨e1,N⟩:=q2 g;have l:cA i es.length=af:=by
     cases hq:cA i es.length with
     |false=>rfl
     |true=>exact absurd (gX hq) g
    rw[l,ax];have c:=run_findKey (w:=w) C N;have I:gf X (es++[(kd,u)]) (ms.push {key:=a,val:=o,born:=ck}).toList:=by
     rw[acz];exact ml.2 ((ml.1 J).app (aZ.cons ⟨q,ru⟩ aZ.nil))
    obtain⟨S,T,W,Y⟩:=JR (jB:=ck+1) (s':=s++[ck]) (c':=ck+1) F L hM hg hf Z p hO ⟨I,by rw[acz,List.map_append,A.born];rfl,rfl⟩
    refine⟨_,X,O,?_,S,T,W,Y⟩;simp[So,run_underlying z,lU p rfl,y,c,DT p rfl]
 trivial
theorem aqo{d:D}{C:IV}{x:Value}(r:aN C d ag [x])(b:Bool):aN C (.aG [d,.bool b]) ag [.tuple #[x,.bool b]]:=by
 simp[aN,bw];grind
theorem afk(j:EnvTy P E)(U:HR B X O w h){t xt:Nat}{x v:V}{ok:Bool}{h':Heap}(e:JI E h x t ok=ab (v,h')){s:Value}(r:an X x ag [s]):cY P B X O w h (wN s xt t ok) v h':=by
 unfold JI Env.kind at e;cases g:E.ty t with
 |none=>grind
 |some ti=>
 rw[g]at e;have C:=(j.ty t ti g).kind;simp only[hY]at e;have l:(∀nm,ti.k≠.ifc nm)->∃d,P.underlying t=ab d/\∀ms,d≠.interface ms:=by
  intro m;cases n:ti.k<;>rw[n]at C<;>simp only[dE]at C;case ptr=>grind
  all_goals grind
 split at e
 .cases e
 .rename_i k D m F o;cases o;obtain⟨d,p,G⟩:=l (λnm H=>by grind)
  have A:∀y,(wN (.iface t y) xt t ok).run P w=.ok (if ok then .tuple #[y,.bool ag]else y) w:=λy=>by
   unfold wN;simp only[eZ,run_underlying p,iJ];rfl
  have c:∀u y,u≠t->ok=ag->ij ti.zero=ag->∃z,(wN (.iface u y) xt t ok).run P w=.ok (.tuple #[z,.bool af]) w/\an X ti.zero ag [z]:=λu y K Z hp=>by
   obtain⟨z,a,J⟩:=R7 (X:=X) (w:=w) j g hp;refine⟨z,?_,J⟩;subst Z;unfold wN;simp only[eZ,run_underlying p,iJ];simp_all
  have f:ok=ag->ij ti.zero=ag->∃z,(wN .nilIface xt t ok).run P w=.ok (.tuple #[z,.bool af]) w/\an X ti.zero ag [z]:=λZ hp=>by
   obtain⟨z,a,J⟩:=R7 (X:=X) (w:=w) j g hp;refine⟨z,?_,J⟩;subst Z;unfold wN;simp only[eZ,run_underlying p,iJ];simp_all
  split at e
  .rename_i u L;simp only[an,aN]at r;obtain⟨y,q,i⟩:=r;cases q;cases b:ak u t with
   |true=>
    rw[b,au]at e;have:=b9 b;subst this;cases e;cases ok with
    |true=>exact .same U (by rw[A];try rfl) (by simp[au,an,aqo,i,ag])
    |false=>exact .same U (by rw[A];try rfl) (by trivial)
   |false=>
    rw[b,ax]at e;obtain⟨I,e⟩:=aQ e;rw[aM]at I;cases e;obtain⟨z,a,J⟩:=c u y (λh=>by simp_all) I.1 I.2
    exact .same U a (zW J af)
  .rename_i u M;simp only[an]at r;obtain⟨y,q,i⟩:=r;cases q;cases b:ak u t with
   |true=>
    rw[b,au]at e;have:=b9 b;subst this;cases e;cases ok with
    |true=>exact .same U (by simp[A]) (zW i ag)
    |false=>exact .same U (by simp[A]) i
   |false=>
    rw[b,ax]at e;obtain⟨I,e⟩:=aQ e;rw[aM]at I;cases e;obtain⟨z,a,J⟩:=c u y (λh=>by simp_all) I.1 I.2
    exact .same U a (zW J af)
  .obtain ⟨I,e⟩:=aQ e;rw[aM]at I;cases e;simp only[an,aN]at r;cases r;obtain⟨z,a,J⟩:=f I.1 I.2;exact .same U a (zW J af)
  trivial
 trivial
end
section
variable {P:Program} {B:Nat} {X:Cx} {O:Nat->Addr->Prop} {w:World} {h:Heap} {E:Env}
theorem aiT{n:Nat}(h:n<=eO):ig .i64 (aC n):=by
 have h1:Ai.max=9223372036854775807:=by decide
 have h2:Ai.min= -9223372036854775808:=by decide
 simp[eO]at h;constructor
 all_goals grind
theorem sE{n:Nat}(h:n<=eO):an X (.im (.int .i64 (aC n))) ag [.int .i64 n]:=by
 exact⟨rfl,aiT h⟩
theorem al0(u:EnvTy P E)(J:HR B X O w h){t ty:Nat}{j:Array Nat}(d:j[0]? =ab t){x v:V}{h':Heap}(e:qj E t h x=ab (v,h')){o:Value}(r:an X x ag [o]):
  cY P B X O w h (wJ j ty #[o]) v h':=by
 unfold qj Env.kind at e;cases p:E.ty t with
 |none=>grind
 |some ti=>
 rw[p]at e;have I:=(u.ty t ti p).kind;split at e<;>first|(cases e;done)|skip
 .rename_i k b g off n aR A;rw[fu A]at I;simp only[dE]at I;cases e;simp only[an]at r;obtain⟨y,i,⟨a,cap,U,_,Z,_⟩,_⟩:=r;cases i;subst U;exact .same J (by simp[wJ,d,run_underlying I,goInt]) (sE Z)
 .rename_i k l A;rw[fu A]at I;simp only[dE]at I;cases e;simp only[an,aN]at r;obtain⟨a,n,cap,U,Z,_,f,_⟩:=r;cases U;rw[bn,<-Z];exact .same J (by simp[wJ,d,run_underlying I,goInt]) (sE f)
 .rename_i k l A;rw[fu A]at I;simp only[dE]at I;cases e;simp only[an]at r;obtain⟨y,i,a,n,U,Z,f,_⟩:=r;cases i;subst U;rw[bn,<-Z];exact .same J (by simp[wJ,d,run_underlying I,goInt]) (sE f)
 .rename_i s A;rw[fu A]at I;simp only[dE]at I;cases e;simp only[an,aN]at r;obtain⟨b,U,Z,f⟩:=r;cases U;rw[bn,<-Z,xz];exact .same J (by simp[wJ,d,run_underlying I,goInt]) (sE f)
 .rename_i z et A;rw[fu A]at I;simp only[dE]at I;cases e;simp only[an,aN]at r;cases r;exact .same J (by simp[wJ,d,run_underlying I,goInt]) (sE (n:=0) (by decide))
 .rename_i z et b A;rw[fu A]at I;simp only[dE]at I;split at e
  .rename_i es _ _ C;obtain⟨q,e⟩:=aQ e;cases e;rcases FQ J (m:=.mp b) (es:=es) (by simp[entries,C]) r with⟨rfl,_⟩|⟨b',G,ms,ck,bi,_,H,rfl,_,_,_,_,_,D,_,c⟩
   .grind[an]
   .have F:ms.size=es.length:=by have:=(ml.1 c.n4).len;omega
    rw[bn]at q|-;rw[<-F]at q|-;exact .same J (by simp[wJ,d,run_underlying I,lU D rfl,goInt]) (sE (by simp_all[eO]))
  trivial
theorem ard{X:Cx}{ρ:Operand->Value}{ev:Operand->V}(A:∀x,an X (ev x) ag [ρ x])(l:List Operand):aZ (λv x=>an X v ag [x]) (l.map ev) (l.map ρ):=by
 induction l with
 |nil=>rfl
 |cons a l ih=>exact aZ.cons (A a) ih
theorem amp(k:IntKind)(v:V)(l:List V)(a:Int):vg k (v::l) a=(match v with|.im (.int A b)=>bif fP k A then vg k l (bif aj a b then a else b)else ae|_=>ae):=rfl
theorem amk(k:IntKind)(v:V)(l:List V)(a:Int):ve k (v::l) a=(match v with|.im (.int A b)=>bif fP k A then ve k l (bif aj a b then b else a)else ae|_=>ae):=rfl
theorem YD{k:IntKind}:∀{l:List V} {xs:List Value} {a n:Int},vg k l a=ab n->aZ (λv x=>an X v ag [x]) l xs->ig k a->(xs.foldlM Builtin.min2 (.int k a)).run P w=.ok (.int k n) w/\ig k n
 |[],_,a,n,e,r,J=>by cases r;simp[vg]at e;simp_all
 |v::l,_,a,n,e,⟨x,xs,rfl,A,U⟩,J=>by
  rw[amp]at e;split at e
  .rename_i d b;obtain⟨Z,I⟩:=aQ e;have:=sB Z;subst this;obtain⟨A,f⟩:=A;cases A;have c:(bif aj a b then a else b)=if b< a then b else a:=by
    rw[gn];grind
   rw[c]at I;obtain⟨g,q2⟩:=YD I U (by split<;>assumption)
   trivial
  trivial
theorem Ys{k:IntKind}:∀{l:List V} {xs:List Value} {a n:Int},ve k l a=ab n->aZ (λv x=>an X v ag [x]) l xs->ig k a->(xs.foldlM Builtin.max2 (.int k a)).run P w=.ok (.int k n) w/\ig k n
 |[],_,a,n,e,r,J=>by cases r;simp[ve]at e;simp_all
 |v::l,_,a,n,e,⟨x,xs,rfl,A,U⟩,J=>by
  rw[amk]at e;split at e
  .rename_i d b;obtain⟨Z,I⟩:=aQ e;have:=sB Z;subst this;obtain⟨A,f⟩:=A;cases A;have c:(bif aj a b then b else a)=if b>a then b else a:=by
    rw[gn];grind
   rw[c]at I;obtain⟨g,q2⟩:=Ys I U (by split<;>assumption)
   trivial
  trivial
theorem FA(k:HR B X O w h){x:V}{l:List D}(e:x.ks h=ab l){m:Bool}{F:Value}(r:an X x m [F]):
  ∃a n cap,F=.slice a n cap/\n=l.length/\n<=cap/\n<=eO/\(n=0∨∃I A s,a=ab I/\I.spot=ae/\bw X.C l af A/\bc s A/\cz w.cell? I A.flatten):=by
 unfold V.ks at e;split at e
 .cases e;simp only[an,aN]at r;obtain⟨a,n,cap,J,U,Z,G,i⟩:=r;cases J;refine⟨a,n,cap,rfl,U,Z,G,i.imp id ?_⟩;rintro⟨I,A,s,c,q2,d,q4,o⟩;exact⟨I,A,s,c,q2,d,q4,λj v p=>k.ci _ _ (o j v p)⟩
 .cases e;simp only[an]at r;obtain⟨y,q,a,n,J,U,Z,i⟩:=r;cases q;subst J;refine⟨a,n,n,rfl,U,aJ _,Z,i.imp id ?_⟩;rintro⟨I,A,s,c,q2,d,q4,o⟩;exact⟨I,A,s,c,q2,d,q4,λj v p=>k.ci _ _ (o j v p)⟩
 .rename_i b g off len aR;split at e
  .rename_i W s ro H M;obtain⟨N,e⟩:=aQ e;cases e;obtain⟨Y,t⟩:=oW N;rw[xG H off len t];simp only[an]at r;obtain⟨y,q,_,bi,Q,R,f⟩:=r;cases q;obtain⟨bj,h1,h2,h3,h4,h5,K⟩:=k.cy b _ M;rw[Q]at h1;cases h1;obtain⟨a,cap,J,U,Z,G,i,L⟩:=f (by omega)
   subst J;have u:((H.drop off).take len).length=len:=by grind
   refine⟨a,len,cap,rfl,u.symm,U,Z,?_⟩;by_cases hz:len=0
   .omega
   .right;rcases L with L|⟨I,c,q2,d⟩
    .omega
    .rcases K with K|⟨es,a1,A,k1,k2,S,z,T,k6,k7⟩
     .omega
     .rw [c]at k1;cases k1;refine⟨_,(A.drop off).take len,s,d,Addr.h8 _ _ q2,cf.2 (((cf.1 S).drop off).take len),bc.take (bc.drop z off) len,?_⟩;rw[bc.jh (bc.drop z off),bc.qy z,es];exact(T.drop q2 (off*s)).take _
  trivial
 trivial
theorem amD(p:EnvTy P E)(q:HR B X O w h){te:TI}{c:Nat}{x:V}{new:List D}(e:vj E te c x h=ab new){i:Value}(r:an X x ag [i]):
  ∃A,Src P te.size c i new.length A.flatten w/\bw X.C new af A/\bc te.size A:=by
 unfold vj Env.kind at e;cases m:E.ty c with
 |none=>grind
 |some ti=>
 rw[m]at e;have J:=(p.ty c ti m).kind;split at e
 .rename_i s I;rw[fu I]at J;obtain⟨h1,e⟩:=aQ e;have h1:=b9 h1;cases e;obtain⟨b,f,U,t⟩:=r;cases f;subst U;have hm:(dN b).map oS=b.data.toList.map λu=>oS u.toNat:=by simp[dN,tW]
  have Z:((dN b).map oS).length=b.size:=by simp_all
  refine⟨b.data.toList.map λu=>[pV .u8 u.toNat],?_,?_,?_⟩
  .rw [Z,h1,LR];exact Src.ofString w J b
  .rw [hm];exact LP b.data.toList
  .intro ws hw;grind
 .rename_i k I;rw[fu I]at J;obtain⟨l,v,e⟩:=ay.1 e;obtain⟨hf,e⟩:=aQ e;cases e;obtain⟨a,n,cap,f,U,t,K,y⟩:=FA q v r;subst f;by_cases o:n=0
  .subst o;have z:=pY U.symm;subst z;refine⟨[],?_,by rfl,λ_ h=>by cases h⟩
   cases a with
   |none=>exact Src.ofNil w J cap
   |some g=>exact KG w J g 0 cap [] (by simp) (λj u e=>by trivial) (λ_ h=>by cases h)
  .obtain ⟨g,A,s,F,q2,d,q4,G⟩:=y.resolve_left o;subst F;have H:=xZ hf d q4 (λh=>by grind)
   subst H;refine⟨A,?_,d,q4⟩;rw[<-U];exact KG w J g n cap A.flatten (by rw[q4.len,(cf.1 d).len,U]) G d.lQ
 trivial
theorem afe{A:Array TypeId}{t I ty:TypeId}(J:A[0]? =ab t)(h1:A[1]? =ab I)(s x:Value):ld A ty #[s,x]=ld #[t,I] ty #[s,x]:=by
 simp[ld,J,h1]
theorem zB{t Z ty el:TypeId}{i:TypeInfo}(c:P.underlying t=ab (.slice el))(hi:P.info? el=ab i){base:Option Addr}{sLen sCap n:Nat}{x:Value}{news:List Value}(I:Src P i.size Z x n news w)
  (A:sLen+n<=sCap) {a:Addr} (e:news≠[]->base=ab a) (f:a.spot=ae) (g:∀j,j< news.length->(∃u,w.cell? ((a.add (sLen*i.size)).add j)=ab u)/\w.frozen? ((a.add (sLen*i.size)).add j)=af):
  (ld #[t,Z] ty #[.slice base sLen sCap,x]).run P w=.ok (.slice base (sLen+n) sCap) (putCells w (a.add (sLen*i.size)) news 0):=by
 by_cases d:news=[]
 .subst d
  have J:∀b:Addr,(storeCells b [] 0).run P w=.ok () w:=λb=>rfl
  rcases I.kind with⟨k,U⟩|U<;>cases base<;>simp[ld,run_underlying c,run_underlying U,sizeOf,typeInfo,hi,I.len,A,I.cells,J,putCells]
 .obtain rfl:=e d
  have J:=JH (P:=P) (a.add (sLen*i.size)) (Addr.h8 _ _ f) news w 0 I.one (λj l=>by rw[cV];exact g j l)
  rcases I.kind with⟨k,U⟩|U<;>simp[ld,run_underlying c,run_underlying U,sizeOf,typeInfo,hi,I.len,A,I.cells,J]
theorem aa5{n b:Nat}(h:room n b=ag):n*b<=70368744177664/\n<=70368744177664:=by
 simp_all[room,h,aM,nY]
theorem DP{t Z ty el:TypeId}{te:TI}(b:hZ P el te)(o:cq te te.zero=ag)(p:P.underlying t=ab (.slice el)){base:Option Addr}{sLen sCap n:Nat}{x:Value}{olds news:List Value}
  (hold:sLen=0/\olds=[]∨∃a,base=ab a/\olds.length=sLen*te.size/\∀j v,olds[j]? =ab v->w.cell? (a.add j)=ab v) (c:Src P te.size Z x n news w) (k:sCap< sLen+n) (q:room (sLen+n) te.bytes=ag):
  ∃(cap:Nat) (A:List Value) (w':World),(ld #[t,Z] ty #[.slice base sLen sCap,x]).run P w=.ok (.slice (ab ⟨w.heap.size,0,ae⟩) (sLen+n) cap) w'/\kp w w' ((olds++news)++A)/\Below w.heap.size w w'/\
   ((olds++news)++A).length=cap*te.size/\sLen+n<=cap/\cap<=eO:=by
 obtain⟨D,F⟩:=aa5 q;obtain⟨i,r,l,s,u⟩:=b.info;obtain⟨k1,_,m⟩:=kO o;obtain⟨z,y,z2⟩:=u _ rfl m;have d:z.cells.size=te.size:=by have:=(z2.cells m).wd;grind
 rw[<-l]at c hold;have I:Ku (sLen+n) sCap*i.bytes<=281474976710656:=growslice_fits k (by rw[s];omega)
 have holds:(Eh i.size sLen (.slice base sLen sCap)).run P w.drew=.ok olds.toArray w.drew:=by
  rcases hold with⟨rfl,rfl⟩|⟨a,rfl,h1,h2⟩
  .cases base with
   |none=>rfl
   |some a=>exact run_firstCells_some w.drew i.size 0 a 0 sCap [] (by simp) (λj v e=>by trivial)
  .exact run_firstCells_some w.drew i.size sLen a sLen sCap olds h1 (by trivial)
 have J:=run_append_grow_src w t Z ty el i z p r y base sLen sCap olds holds x n news c k (by omega) I
 have f:=grownCap_ge w (sLen+n) sCap el;have C:=grownCap_le_maxLen w (sLen+n) sCap el (by grind[maxLen])
 have U:(kh z.cells (grownCap w (sLen+n) sCap el-(sLen+n))).toList.length=(grownCap w (sLen+n) sCap el-(sLen+n))*te.size:=by simp[size_zeroCells,d]
 have g:olds.length=sLen*i.size:=by
  grind
 refine⟨grownCap w (sLen+n) sCap el,(kh z.cells (grownCap w (sLen+n) sCap el-(sLen+n))).toList,_,J,?_,?_,?_,f,?_⟩
 .have h1:=kp.alloc w.drew ((olds++news).toArray++kh z.cells (grownCap w (sLen+n) sCap el-(sLen+n))) el;have h2:((olds++news).toArray++kh z.cells (grownCap w (sLen+n) sCap el-(sLen+n))).toList=(olds++news)++(kh z.cells (grownCap w (sLen+n) sCap el-(sLen+n))).toList:=by simp
  rw[h2]at h1;exact⟨(dP.vt (Fh w)).trans h1.keep,h1.size,h1.cell,h1.frozen⟩
 .exact (Fh w).alloc (aJ _) _
 .rw [dD,dD,g,c.newsLen,U,l,<-mf,<-mf];congr 1;omega
 trivial
theorem HR.aoY(m:HR B X O w h){w':World}{b g s0 R:Nat}{l0:List D}{bi:BI}(N:aq h b=ab (.arr g s0 R l0))(hM:X.M b=ab bi)(hg:bi.g=g)(hfx:bi.fix=af)(hB:Below B w w'){cs:List Value}(hw:kp w w' cs)
  {s cap ro:Nat} {l:List D} {aV:List (List Value)} {rest:List Value} (S:cs.length=cap*s) (F:cap<=eO) (U:l.length<=cap) (G:ro<=l.length) (hl:bw X.C l af aV) (H:bc s aV) (T:cs=aV.flatten++rest):
  ∃X' O',HR B X' O' w' (aD h b (.arr (g+1) s ro l))/\Up B X w h.length X' w'/\an X' (.own b (g+1) 0 l.length af) ag [.slice (ab ⟨w.heap.size,0,ae⟩) l.length cap]/\h.length<=(aD h b (.arr (g+1) s ro l)).length/\FR X O w h X' O' w' (aD h b (.arr (g+1) s ro l)):=by
 have p:=dI N;have z:=cX p;let I:Addr:=⟨w.heap.size,0,ae⟩;let bj:BI:=⟨g+1,ab I,s,cap,af⟩;let C:IV:=λa=>if∃j,j< ro*s/\a=I.add j then w'.cell? a else X.C a
 let Y:Cx:={X with C:=C,M:=λc=>if c=b then ab bj else X.M c}
 let Q:Nat->Addr->Prop:=λc=>if c=b then λa=>∃j,ro*s<=j/\j< cap*s/\a=I.add j else O c
 have V:∀a,(∃j,ro*s<=j/\j< cap*s/\a=I.add j)->Q b a:=λa q=>by grind
 have K:∀c a,c≠b->O c a->Q c a:=λc a hc q=>by grind
 have W:=hw.size;have hC0:∀a v,X.C a=ab v->a.block< w.heap.size:=λa v e=>wS w a (m.ci a v e)
 have Z:∀j,(I.add j).block=w.heap.size:=λj=>by rw[Addr.qf]
 have x:CI X.C w':=m.ci.keep hw.keep;have n:X.C.le C:=λa v e=>by
  grind
 have hCI:CI C w':=⟨λa v e=>by
  have e:(if∃j,j< ro*s/\a=I.add j then w'.cell? a else X.C a)=ab v:=e;split at e
  .exact e
  .exact x a v e,Gh.gm n x.gl⟩
 have t:∀a v,C a=ab v->X.C a=ae->B<=a.block:=λa v e f=>by
  have e:(if∃j,j< ro*s/\a=I.add j then w'.cell? a else X.C a)=ab v:=e;split at e
  .rename_i q;obtain⟨j,_,rfl⟩:=q;simp[Z,m.wb]
  grind
 have L:X.le h.length Y:=⟨n,λc ci hc e=>by
  grind,λ_ _ e=>e⟩
 have J:cz w'.cell? I cs:=λj v e=>by rw[show I.add j=⟨w.heap.size,j,ae⟩from xm _ _];exact hw.cell j v e
 have arx:aV.flatten.length=l.length*s:=by rw[H.len,(cf.1 hl).len]
 have hmul:l.length*s<=cap*s:=dM _ U;have arB:ro*s<=l.length*s:=dM _ G;refine⟨Y,Q,⟨λc k e=>?_,λc a o=>?_,λc d a o y=>?_,λc ci e=>?_,hCI,bU m.wb (cX W)⟩,⟨L,hB,t,λr o e _=>hw.keep.obj r o e⟩,?_,?_,⟨λc ci e f=>?_,λc ci e f=>?_,λc ci e f a o=>?_,λc ci e f a o v ev=>⟨hw.keep.cell _ _ ev,hw.keep.frozen _ _ ev⟩,λc ci e f r o ob eo _=>hw.keep.obj _ _ eo,λc ci e f g' _ uN=>hw.keep.block g' uN,λc e=>?_,λc _ e f=>?_⟩⟩
 .rw [bG h b c _ z]at e;by_cases A:c=b
  .subst A;simp only[if_true]at e;cases e;refine⟨bj,by simp[Y],rfl,rfl,⟨U,G⟩,F,.inr ⟨rfl,I,aV,rfl,rfl,hl.mono n,H,?_,?_,?_⟩⟩
   .exact λj v e=>J j v (by grind)
   .intro j v e;rw[pZ]at e;split at e
    .rename_i hj;show(if _ then _ else _)=_;rw[aK ⟨j,hj,rfl⟩];exact J j v (by grind)
    trivial
   .intro j h1 h2;have NC:j< cs.length:=by rw[S];omega
    refine⟨V _ ⟨j,h1,h2,rfl⟩,⟨cs[j],J j _ (by simp)⟩,?_⟩
    rw[show I.add j=⟨w.heap.size,j,ae⟩from xm _ _];exact hw.frozen j NC
  .simp only[az A]at e;exact(m.cy c k e).later m.lt L (by simp[Y,A]) hw.keep (λa o=>K c a A o)
 .by_cases A:c=b
  .have o:(if c=b then λa=>∃j,ro*s<=j/\j< cap*s/\a=I.add j else O c) a:=o
   rw[aK A]at o;obtain⟨j,h1,h2,rfl⟩:=o;refine⟨by simp[Z,m.wb],by grind,?_⟩
   show(if _ then _ else _)=_;rw[az]
   .cases hx:X.C (I.add j)with
    |none=>rfl
    |some v=>grind
   .rintro ⟨i,hi,he⟩;have:=Addr.nX (a:=I) rfl he;omega
  .have o:(if c=b then λa=>∃j,ro*s<=j/\j< cap*s/\a=I.add j else O c) a:=o
   rw[az A]at o;obtain⟨q1,q2,q3⟩:=m.own c a o;grind
 .have o:(if c=b then λa=>∃j,ro*s<=j/\j< cap*s/\a=I.add j else O c) a:=o
  have y:(if d=b then λa=>∃j,ro*s<=j/\j< cap*s/\a=I.add j else O d) a:=y
  by_cases A:c=b<;>by_cases u:d=b
  .rw [A,u]
  .rw [aK A]at o;rw[az u]at y;obtain⟨j,_,_,rfl⟩:=o;have:=(m.own d _ y).2.1;rw[Z]at this;omega
  .rw [az A]at o;rw[aK u]at y;obtain⟨j,_,_,rfl⟩:=y;have:=(m.own c _ o).2.1;rw[Z]at this;omega
  .rw [az A]at o;rw[az u]at y;exact m.fj c d a o y
 .rw [bL,aK p];have e:(if c=b then ab bj else X.M c)=ab ci:=e;split at e
  .rename_i A;rw[A];exact p
  .exact m.lt c ci e
 .simp only[an];refine⟨_,rfl,⟨_,_,rfl,U,by omega,.inr ⟨_,rfl⟩⟩,bj,by simp[Y],aJ _,λ_=>⟨_,_,rfl,U,by omega,by show 0+cap<=cap;omega,(λh=>by cases h),.inr ⟨I,rfl,rfl,by simp[I]⟩⟩⟩
 .rw [bL,aK p];exact aJ _
 .have A:c≠b:=λq=>by subst q;rw[N]at f;cases f
  rw[bG h b c _ z,az A];exact f
 .have A:c≠b:=λq=>by subst q;rw[N]at f;cases f
  simp[Y,A,e]
 .have A:c≠b:=λq=>by subst q;rw[N]at f;cases f
  exact K c a A o
 .rw [bG h b c _ z]at e;split at e
  .cases e
  .exact e
 grind
theorem abY{α:Type}{l:List α}{n:Nat}(h:n<=l.length):eP l 0 n=l.take n:=by rw[xG l 0 n (by omega)];simp
theorem W2{l:List D}:isNone l=ag↔l=[]:=by cases l<;>simp[isNone]
theorem HH{size A n:Nat}{x:Value}{news:List Value}(I:Src P size A x n news w)(h:n=0):news=[]:=pY (by rw[I.newsLen,h,rI])
theorem ae6(p:HR B X O w h){aw t tx ty el:Nat}{te:TI}(sk:hZ P el te)(hz:cq te te.zero=ag)(hk:P.underlying t=ab (.slice el))(hn:aq h aw=ae)(hM:X.M aw=ae)(hle:aw<=h.length){s v:V}{new:List D}{h':Heap}
  (e:uo te aw s new h=ab (v,h')) {vs vx:Value} (rs:an X s ag [vs]) {aV:List (List Value)} (K:Src P te.size tx vx new.length aV.flatten w) (x:bw X.C new af aV) (R:bc te.size aV):
  cY P B X O w h (ld #[t,tx] ty #[vs,vx]) v h':=by
 obtain⟨i,i1,i2,i3,i4⟩:=sk.info;unfold uo at e;split at e
 .rename_i b g off len aR;have rs0:=rs;simp only[an]at rs;obtain⟨y,ey,⟨a,cap,e1,e2,e3,e4⟩,bi,o7,V5,yo⟩:=rs;cases ey;subst e1;split at e
  .rename_i g' sz ro l hb;obtain⟨bj,b1,b2,b3,b4,b5,b6⟩:=p.cy b _ hb;rw[o7]at b1;cases b1;cases aR with
   |true=>
    simp only[au]at e;cases N:isNone new with
    |true=>
     rw[N,au]at e;cases e;have:=W2.1 N;subst this;have S:aV.flatten=[]:=HH K rfl;rw[S,<-i2]at K;have J:=zB (w:=w) (ty:=ty) hk i1 K (base:=a) (sLen:=len) (sCap:=cap) (by omega) (a:=⟨0,0,ae⟩) (λh=>absurd rfl h) rfl (λj q=>by trivial)
     simp only[putCells]at J;exact .same p J rs0
    |false=>
     rw[N,ax]at e;obtain⟨r,e⟩:=aQ e;simp only[aM]at r;obtain⟨T,G,U⟩:=r;obtain⟨yf,GG⟩:=oW T;cases e;rw[bn]at U;have G:=b9 G;subst G;obtain⟨a',AZ,w1,w2,w3,w4,w5,w6⟩:=yo (by omega)
     cases w1;have kx:=w5 rfl;rw[kx]at w2 w4 w6|-;clear kx;have Ww:0< new.length:=by
      rcases w9 new.length with h|h
      .have:=pY h;subst this;trivial
      omega
     rw[xG l off len GG];have W:((l.drop off).take len).length=len:=by grind
     obtain⟨Z,o1,o2,o3⟩:∃Z,bw X.C ((l.drop off).take len) af Z/\bc te.size Z/\(len=0/\Z.flatten=[]∨∃I,a=ab I/\Z.flatten.length=len*te.size/\∀j v,Z.flatten[j]? =ab v->w.cell? (I.add j)=ab v):=by
      by_cases z:len=0
      .subst z;exact⟨[],by rfl,(λ_ h=>by cases h),.inl ⟨rfl,rfl⟩⟩
      .rcases w6 with w6|⟨I,H,q2,k⟩
       .exact absurd w6 z
       .rcases b6 with b6|⟨es,a1,d,k1,k2,k3,Q,k5,k6,k7⟩
        .omega
        .rw [H]at k1;cases k1;refine⟨(d.drop off).take len,cf.2 (((cf.1 k3).drop off).take len),bc.take (bc.drop Q off) len,.inr ⟨_,k,?_,?_⟩⟩
         .rw [(bc.take (bc.drop Q off) len).len,(((cf.1 k3).drop off).take len).len,W]
         .rw [bc.jh (bc.drop Q off),bc.qy Q,es];exact(k5.drop q2 (off*te.size)).take _
     obtain⟨F,rest,w',g1,g2,g3,g4,g5,g6⟩:=DP (w:=w) (ty:=ty) sk hz hk (base:=a) (sLen:=len) (sCap:=len) (olds:=Z.flatten) o3 K (by omega) U
     have Y:Z.flatten++aV.flatten=(Z++aV).flatten:=by simp
     rw[Y]at g2 g4;have A:((l.drop off).take len++new).length=len+new.length:=by rw[dD,W]
     obtain⟨X',O',H,q2,k,q4,q5⟩:=yM p hn hM hle (g3.mono p.wb) g2 (s:=te.size) (cap:=F) (l:=(l.drop off).take len++new) (aV:=Z++aV) (rest:=rest) g4 g6 (by rw[A];exact g5) (cf.2 ((cf.1 o1).app (cf.1 x))) (o2.app R) rfl
     rw[A]at k;exact⟨_,_,X',O',g1,H,q2,by rw[bn];exact k,q4,q5⟩
   |false=>
    simp only[ax]at e;obtain⟨r,Ms⟩:=aQ e;clear e;cases Ms;simp only[aM]at r;obtain⟨T,NN,uV,G,U⟩:=r;obtain⟨yf,GG⟩:=oW T;subst yf;have NN:=b9 NN;subst NN;have uV:=nY uV;have G:=b9 G;subst G;rw[bn]at U|-;have hlen:len<=l.length:=by omega
    rw[abY hlen];have W:(l.take len).length=len:=by rw[gz];omega
    have A:(l.take len++new).length=len+new.length:=by rw[dD,W]
    obtain⟨a',AZ,w1,w2,w3,w4,_,w6⟩:=yo b2.symm;cases w1;rw[cV]at w4;obtain⟨Z,o1,o2,o3⟩:∃Z,bw X.C (l.take len) af Z/\bc te.size Z/\(len=0/\Z.flatten=[]∨∃I,a=ab I/\Z.flatten.length=len*te.size/\∀j v,Z.flatten[j]? =ab v->w.cell? (I.add j)=ab v):=by
     by_cases z:len=0
     .subst z;exact⟨[],by simp[bw],(λ_ h=>by cases h),.inl ⟨rfl,rfl⟩⟩
     .rcases w6 with w6|⟨I,H,q2,k⟩
      .omega
      .rcases b6 with b6|⟨es,a1,d,k1,k2,k3,Q,k5,k6,k7⟩
       .omega
       .rw [H]at k1;cases k1;rw[rI,Addr.add_zero]at k;refine⟨d.take len,cf.2 ((cf.1 k3).take len),bc.take Q len,.inr ⟨_,k,?_,?_⟩⟩
        .rw [(bc.take Q len).len,((cf.1 k3).take len).len,W]
        .rw [bc.jh Q];exact k5.take _
    by_cases o:len+new.length<=cap
    ·-- in its place
     rw[<-i2]at K;let bk:BI:=⟨g+1,bi.base,te.size,cap,af⟩;by_cases Gt:cap=0
     .have BM:len=0:=by omega
      have yi:new.length=0:=by omega
      have S:aV.flatten=[]:=HH K yi;rw[S]at K;have J:=zB (w:=w) (ty:=ty) hk i1 K (base:=a) (sLen:=len) (sCap:=cap) o (a:=⟨0,0,ae⟩) (λh=>absurd rfl h) rfl (λj q=>by simp at q)
      simp only[putCells]at J;have BC:X.le h.length (X.du b bk):=⟨.refl _,λc ci r e=>by
       by_cases f:c=b
       .subst f;rw[o7]at e;cases e;exact⟨bk,Cx.eL _ _ _,by show bi.g<=g+1;omega,λhh=>absurd hh (by show bi.g≠g+1;omega),λhh=>by rw[b3]at hh;cases hh⟩
       .exact ⟨ci,by rw[Cx.ft _ _ f];exact e,aJ _,λ_=>rfl,λ_=>rfl⟩,λ_ _ e=>e⟩
      have uR:(X.du b bk).lt h.length:=λc ci e=>by
       by_cases f:c=b
       .subst f;exact dI hb
       .rw [Cx.ft _ _ f]at e;exact p.lt c ci e
      have aD:=p.put (dI hb) BC rfl (λc r=>Cx.ft _ _ r) uR ⟨0,0,ae⟩ rfl [] 0 (λj q=>by simp at q) (λj q=>by simp at q) (.arr (g+1) te.size ro (l.take len++new)) ⟨bk,Cx.eL _ _ _,rfl,rfl,⟨by rw[A];exact o,by rw[A];omega⟩,by simp only[eO];show cap<=_;omega,.inl Gt⟩
      refine⟨_,w,_,O,J,aD,⟨BC,.refl _ _,λa v e hn=>(by simp only[Cx.du]at e;rw[hn]at e;cases e),λ_ _ e _=>e⟩,?_,by rw[bL,aK (dI hb)];exact aJ _,FR.put p hb (λc r=>Cx.ft _ _ r) ⟨0,0,ae⟩ [] 0 (λj q=>by simp at q) _⟩
      simp only[an];rw[show len+new.length=0 from by omega]
      exact⟨_,rfl,⟨a,cap,rfl,bX _,by decide,.inl Gt⟩,bk,Cx.eL _ _ _,aJ _,λ_=>⟨a,cap,rfl,bX _,by decide,by show 0+cap<=cap;omega,(λh=>by cases h),.inl Gt⟩⟩
     .obtain ⟨I,H,q2,k⟩:=w6.resolve_left Gt;rw[rI,Addr.add_zero]at k;obtain⟨es,a1,d,k1,k2,k3,Q,k5,k6,k7⟩:=b6.resolve_left (by omega)
      rw[H]at k1;cases k1;subst k;have od:aV.flatten.length=new.length*te.size:=by rw[R.len,(cf.1 x).len]
      have BO:ro*te.size<=len*te.size:=dM _ uV;have GF:(len+new.length)*te.size<=bi.cap*te.size:=dM _ (by omega)
      rw[mf]at GF;have L:fw w (O b) (I.add (len*te.size)) 0 aV.flatten.length:=k7.sub k2 BO (by omega)
      have uW:=Addr.h8 I (len*te.size) k2;have J:=zB (w:=w) (ty:=ty) hk i1 K (base:=some I) (sLen:=len) (sCap:=cap) o (a:=I) (λ_=>rfl) k2 (λj q=>by rw[i2];exact(L j (bX _) q).2)
      rw[i2]at J;have BC:X.le h.length (X.du b bk):=⟨.refl _,λc ci r e=>by
       by_cases f:c=b
       .subst f;rw[o7]at e;cases e;exact⟨bk,Cx.eL _ _ _,by show bi.g<=g+1;omega,λhh=>absurd hh (by show bi.g≠g+1;omega),λhh=>by rw[b3]at hh;cases hh⟩
       .exact ⟨ci,by rw[Cx.ft _ _ f];exact e,aJ _,λ_=>rfl,λ_=>rfl⟩,λ_ _ e=>e⟩
      have uR:(X.du b bk).lt h.length:=λc ci e=>by
       by_cases f:c=b
       .subst f;exact dI hb
       .rw [Cx.ft _ _ f]at e;exact p.lt c ci e
      have o8:∀j,j< aV.flatten.length->O b ((I.add (len*te.size)).add (0+j)):=λj q=>by rw[cV];exact(L j (bX _) q).1
      have hex:∀j,j< aV.flatten.length->∃u,w.cell? ((I.add (len*te.size)).add (0+j))=ab u:=λj q=>by rw[cV];exact(L j (bX _) q).2.1
      have Gx:d.flatten.length=l.length*te.size:=by rw[bc.len Q,(cf.1 k3).len]
      have NF:len*te.size<=l.length*te.size:=dM _ hlen;have aia:cz (putCells w (I.add (len*te.size)) aV.flatten 0).cell? I ((d.take len)++aV).flatten:=λj v e=>by
       rw[tV,bc.jh Q]at e;have uY:(d.flatten.take (len*te.size)).length=len*te.size:=by rw[gz,Gx];omega
       by_cases q:j< len*te.size
       .rw [hH (by rw[uY];exact q)]at e
        rw[nx _ aV.flatten w 0 _ (λm hm he=>by rw[cV,Addr.add_add I _ _ k2]at he;have:=Addr.nX k2 he;omega)]
        exact(k5.take _) j v e
       .rw [jx (by rw[uY];omega),uY]at e
        have:=yZ (I.add (len*te.size)) uW aV.flatten w 0 hex (j-len*te.size) v e;rw[cV,Addr.add_add I _ _ k2,show len*te.size+(j-len*te.size)=j from by omega]at this
        exact this
      have aD:=p.put (dI hb) BC rfl (λc r=>Cx.ft _ _ r) uR (I.add (len*te.size)) uW aV.flatten 0 o8 hex (.arr (g+1) te.size ro (l.take len++new)) ⟨bk,Cx.eL _ _ _,rfl,rfl,⟨by rw[A];exact o,by rw[A];omega⟩,by show cap<=eO;omega,.inr ⟨rfl,I,d.take len++aV,H,k2,
       cf.2 (((cf.1 k3).take len).app (cf.1 x)),(bc.take Q len).app R,aia,?_,?_⟩⟩
      .refine ⟨_,_,_,O,J,aD,⟨BC,xv (λiB=>yW p L (aJ _) (by cases hq:aV.flatten with|nil=>exact absurd hq iB|cons _ _=>simp)),λa v e hn=>(by simp only[Cx.du]at e;rw[hn]at e;cases e),λ_ _ e l=>nv _ (vc l) _ w 0 e⟩,?_,by rw[bL,aK (dI hb)];exact aJ _,FR.put p hb (λc r=>Cx.ft _ _ r) _ aV.flatten 0 o8 _⟩
       simp only[an];exact⟨_,rfl,⟨ab I,cap,rfl,o,by omega,.inr ⟨I,rfl⟩⟩,bk,Cx.eL _ _ _,aJ _,λ_=>⟨ab I,cap,rfl,o,by omega,by show 0+cap<=cap;omega,(λh=>by cases h),.inr ⟨I,H,k2,by simp⟩⟩⟩
      .rw [tV,bc.jh Q,adQ (by rw[gz,Gx];omega),adR,mi BO]
       exact k6
      .exact λj h1 h2=>k7.put _ uW aV.flatten 0 hex j h1 (eU h2 (dM _ w4))
    ·-- in new memory
     obtain⟨F,rest,w',g1,g2,g3,g4,g5,g6⟩:=DP (w:=w) (ty:=ty) sk hz hk (base:=a) (sLen:=len) (sCap:=cap) (olds:=Z.flatten) o3 K (by omega) U
     have Y:Z.flatten++aV.flatten=(Z++aV).flatten:=by simp
     rw[Y]at g2 g4;obtain⟨X',O',H,q2,k,q4,q5⟩:=HR.aoY p hb o7 b2 b3 (g3.mono p.wb) g2 (s:=te.size) (cap:=F) (ro:=ro) (l:=l.take len++new) (aV:=Z++aV) (rest:=rest) g4 g6 (by rw[A];exact g5) (by rw[A];omega) (cf.2 ((cf.1 o1).app (cf.1 x))) (o2.app R) rfl
     rw[A]at k;exact⟨_,_,X',O',g1,H,q2,k,q4,q5⟩
  trivial
 .rename_i l;obtain⟨r,e⟩:=aQ e;rw[aM]at r;obtain⟨hf,U⟩:=r;cases e;rw[bn,bn]at U|-;simp only[an]at rs;obtain⟨y,ey,a,n,e1,e2,e3,e4⟩:=rs;cases ey;subst e1;obtain⟨Z,o1,o2,o3⟩:∃Z,bw X.C l af Z/\bc te.size Z/\(n=0/\Z.flatten=[]∨∃I,a=ab I/\I.spot=ae/\Z.flatten.length=n*te.size/\cz X.C I Z.flatten):=by
   by_cases z:n=0
   .have:l=[]:=pY (by omega)
    subst this;exact⟨[],by simp[bw],(λ_ h=>by cases h),.inl ⟨z,rfl⟩⟩
   .obtain ⟨I,d,s0,H,q2,k,q4,q5⟩:=e4.resolve_left z;have mB:=xZ hf k q4 (λh=>by subst h;simp at e2;exact z e2)
    subst mB;exact⟨d,k,q4,.inr ⟨I,H,q2,by rw[bc.len q4,(cf.1 k).len,e2],q5⟩⟩
  cases N:isNone new with
  |true=>
   have:=W2.1 N;subst this;simp only[au,jv,At,tX];have S:aV.flatten=[]:=HH K rfl;rw[S,<-i2]at K;have J:=zB (w:=w) (ty:=ty) hk i1 K (base:=a) (sLen:=n) (sCap:=n) (by simp) (a:=⟨0,0,ae⟩) (λh=>absurd rfl h) rfl (λj q=>by simp at q)
   simp only[putCells,tX,At]at J;have arq:∀b:Addr,a=ab b->True:=λ_ _=>trivial
   let bi:BI:=⟨0,a,te.size,n,af⟩;have BF:BR (X.du aw bi) w (λ_=>False) aw (.arr 0 te.size l.length l):=by
    refine⟨bi,Cx.eL _ _ _,rfl,rfl,⟨by show l.length<=n;omega,aJ _⟩,e3,?_⟩
    rcases o3 with⟨h0,_⟩|⟨I,p1,p2,p3,p4⟩
    .exact .inl h0
    .refine .inr ⟨rfl,I,Z,p1,p2,o1,o2,λj v e=>p.ci _ _ (p4 j v e),λj v e=>p4 j v (by rw[pZ]at e;split at e;exact e;cases e),λj h1 h2=>?_⟩
     exfalso;have:n=l.length:=e2;show False;rw[<-this]at h1;exact absurd h2 (by show¬j< n*te.size;omega)
   refine⟨_,w,X.du aw bi,_,J,p.add hn hM hle (.refl w) (aJ _) bi (λ_=>False) _ (λ_ h=>h.elim) BF,Up.add hM (.refl _ _) (.refl w) _ bi,?_,?_,.add hM hle (.refl w) bi _ _⟩
   .simp only[an];have od:n=l.length:=e2;refine⟨_,rfl,⟨a,n,by rw[od],by omega,by rw[<-od];exact e3,?_⟩,bi,Cx.eL _ _ _,aJ _,λ_=>⟨a,n,by rw[od],by omega,by rw[<-od];exact e3,by show 0+n<=n;omega,(λh=>by cases h),?_⟩⟩
    .rcases o3 with⟨h0,_⟩|⟨I,p1,_⟩
     .exact .inl h0
     .exact .inr ⟨I,p1⟩
    .rcases o3 with⟨h0,_⟩|⟨I,p1,p2,_⟩
     .exact .inl h0
     .exact .inr ⟨I,p1,p2,by rw[rI,Addr.add_zero];exact p1⟩
   .rw [bL];split<;>omega
  |false=>
   simp only[ax];have Ww:0< new.length:=by
    rcases w9 new.length with h|h
    .have:=pY h;subst this;cases N
    .exact h
   obtain⟨F,rest,w',g1,g2,g3,g4,g5,g6⟩:=DP (w:=w) (ty:=ty) sk hz hk (base:=a) (sLen:=n) (sCap:=n) (olds:=Z.flatten) (o3.imp id (λ⟨I,p1,_,p3,p4⟩=>⟨I,p1,p3,λj v e=>p.ci _ _ (p4 j v e)⟩)) K (by omega) (by rw[e2];exact U)
   have Y:Z.flatten++aV.flatten=(Z++aV).flatten:=by simp
   rw[Y]at g2 g4;have A:(l++new).length=n+new.length:=by rw[dD,e2]
   obtain⟨X',O',H,q2,k,q4,q5⟩:=yM p hn hM hle (g3.mono p.wb) g2 (s:=te.size) (cap:=F) (l:=l++new) (aV:=Z++aV) (rest:=rest) g4 g6 (by rw[A];exact g5) (cf.2 ((cf.1 o1).app (cf.1 x))) (o2.app R) rfl
   rw[A]at k;rw[<-e2];exact⟨_,_,X',O',g1,H,q2,k,q4,q5⟩
 trivial
end
section
variable {P:Program} {B:Nat} {X:Cx} {O:Nat->Addr->Prop} {w:World} {h:Heap} {E:Env}
theorem To{te:TI}:∀{l:List V},uj te l=ag->∀v∈l,cq te v=ag
 |[],_,v,A=>by cases A
 |u::l,e,v,A=>by
  have e:(bif cq te u then uj te l else af)=ag:=e;cases I:cq te u with
  |false=>grind
  |true=>
   rw[I]at e;rcases eT.1 A with rfl|A
   .omega
   .exact To e v A
theorem aqA{te:TI}{l:List V}(I:uj te l=ag){A:List (List Value)}(r:bF X l af A):bc te.size A:=by
 have h1:=To I;clear I;intro ws hw;induction l generalizing A with
 |nil=>grind[bF]
 |cons v l ih=>
  obtain⟨J,Z,rfl,U,a⟩:=r;rcases eT.1 hw with rfl|hw
  .have:=an.wd U;rw[this];exact(kO (h1 v (by simp))).1
  grind
theorem aqC(j:HR B X O w h){x:V}{new:List V}(e:x.z5 h=ab new){U:Value}(r:an X x ag [U]):
  ∃a n cap,U=.slice a n cap/\n=new.length/\(n=0∨∃I A,a=ab I/\bF X new af A/\cz w.cell? I A.flatten):=by
 have base:(x.ks h).map jj=ab new->∃a n cap,U=.slice a n cap/\n=new.length/\(n=0∨∃I A,a=ab I/\bF X new af A/\cz w.cell? I A.flatten):=λe=>by
  obtain⟨l,q,e⟩:=bu.1 e;subst e;obtain⟨a,n,cap,Z,q2,_,_,t⟩:=FA j q r;refine⟨a,n,cap,Z,by simp_all,t.imp id ?_⟩
  rintro⟨I,A,s,k1,_,c,_,d⟩;exact⟨I,A,k1,by simp[mC,ug,c],d⟩
 unfold V.z5 at e;split at e
 .rename_i b g off len aR;split at e
  .rename_i H sz k u;obtain⟨v,e⟩:=aQ e;cases e;obtain⟨K,f⟩:=oW v;rw[xG k off len f];obtain⟨y,z,_,bi,C,D,J⟩:=r;cases z;obtain⟨bj,h1,h2,h3,L,M,m⟩:=j.cy b _ u;rw[C]at h1;cases h1;obtain⟨a,cap,F,N,Q,R,S,o⟩:=J (by omega)
   subst F;have i:((k.drop off).take len).length=len:=by grind
   refine⟨a,len,cap,rfl,i.symm,?_⟩;by_cases T:len=0
   .omega
   .right;rcases o with o|⟨I,Z,q2,G⟩
    .omega
    .rcases m with m|⟨es,W,A,k1,k2,c,p,d,Y⟩
     .omega
     .rw [Z]at k1;cases k1;refine⟨_,(A.drop off).take len,G,dU.2 (((dU.1 c).drop off).take len),?_⟩;rw[bc.jh (bc.drop p off),bc.qy p,es];exact(d.drop q2 (off*sz)).take _
  .exact base e
 .exact base e
theorem bF.Zz{X:Cx}:∀{l:List V} {A:List (List Value)},bF X l af A->∀v∈A.flatten,v.oneCell'=ag
 |[],A,r,v,I=>by grind[bF]
 |u::l,A,r,v,I=>by
  obtain⟨ws,Z,rfl,J,U⟩:=r;rw[List.flatten_cons,List.mem_append]at I;rcases I with I|I
  .exact an.lQ J v I
  .exact bF.Zz U v I
theorem amE(l:EnvTy P E)(m:HR B X O w h){te:TI}{U:Nat}{x:V}{new:List V}(J:∃k,E.kind U=ab (.ar k))(e:x.z5 h=ab new)(b:uj te new=ag){f:Value}(r:an X x ag [f]):
  ∃A,Src P te.size U f new.length A.flatten w/\bF X new af A/\bc te.size A:=by
 obtain⟨k,J⟩:=J;unfold Env.kind at J;cases g:E.ty U with
 |none=>grind
 |some ti=>
 rw[g]at J;have I:=(l.ty U ti g).kind;rw[fu J]at I;obtain⟨a,n,cap,o,c,p⟩:=aqC m e r;subst o;by_cases i:n=0
 .subst i;have q:=pY c.symm;subst q;refine⟨[],?_,by rfl,λ_ h=>by cases h⟩
  cases a with
  |none=>exact Src.ofNil w I cap
  |some d=>exact KG w I d 0 cap [] (by simp) (λj u e=>by trivial) (λ_ h=>by cases h)
 .obtain ⟨d,A,s,Z,t⟩:=p.resolve_left i;subst s;have q4:=aqA b Z;refine⟨A,?_,Z,q4⟩;rw[<-c];exact KG w I d n cap A.flatten (by rw[q4.len,(dU.1 Z).len,c]) t (bF.Zz Z)
theorem HR.aoZ(J:HR B X O w h){w':World}{b g R:Nat}{S:List V}{bi:BI}(T:aq h b=ab (.bN g R S))(W:X.M b=ab bi)(hg:bi.g=g)(Y:bi.fix=af)(hB:Below B w w'){cs:List Value}(hw:kp w w' cs)
  {s cap:Nat} {l:List V} {aV:List (List Value)} {rest:List Value} (y:cs.length=cap*s) (u:cap<=eO) (U:l.length<=cap) (N:bF X l af aV) (z:bc s aV) (D:cs=aV.flatten++rest):
  ∃X' O',HR B X' O' w' (aD h b (.bN (g+1) s l))/\Up B X w h.length X' w'/\an X' (.own b (g+1) 0 l.length af) ag [.slice (ab ⟨w.heap.size,0,ae⟩) l.length cap]/\h.length<=(aD h b (.bN (g+1) s l)).length/\FR X O w h X' O' w' (aD h b (.bN (g+1) s l)):=by
 have n:=dI T;have i:=cX n;let I:Addr:=⟨w.heap.size,0,ae⟩;let bj:BI:=⟨g+1,ab I,s,cap,af⟩;let Q:Nat->Addr->Prop:=λc=>if c=b then λa=>∃j,j< cap*s/\a=I.add j else O c
 have F:∀a,(∃j,j< cap*s/\a=I.add j)->Q b a:=λa t=>by grind
 have G:∀c a,c≠b->O c a->Q c a:=λc a hc t=>by grind
 have H:=hw.size;have hC0:∀a v,X.C a=ab v->a.block< w.heap.size:=λa v e=>wS w a (J.ci a v e)
 have x:∀j,(I.add j).block=w.heap.size:=λj=>by rw[Addr.qf]
 have p:X.le h.length (X.du b bj):=⟨.refl _,λc ci hc e=>by
  by_cases A:c=b
  .subst A;rw[W]at e;cases e;exact⟨bj,Cx.eL _ _ _,by grind,λt=>absurd t (by grind),λt=>by grind⟩
  .exact ⟨ci,by simp[Cx.ft,A,e],aJ _,λ_=>rfl,λ_=>rfl⟩,λ_ _ e=>e⟩
 have Z:cz w'.cell? I cs:=λj v e=>by rw[show I.add j=⟨w.heap.size,j,ae⟩from xm _ _];exact hw.cell j v e
 refine⟨X.du b bj,Q,⟨λc k e=>?_,λc a o=>?_,λc d a o m=>?_,λc ci e=>?_,J.ci.keep hw.keep,bU J.wb (cX H)⟩,⟨p,hB,λa v e f=>(by simp_all[Cx.du,f]),λr o e _=>hw.keep.obj r o e⟩,?_,?_,⟨λc ci e f=>?_,λc ci e f=>?_,λc ci e f a o=>?_,λc ci e f a o v ev=>⟨hw.keep.cell _ _ ev,hw.keep.frozen _ _ ev⟩,λc ci e f r o ob eo _=>hw.keep.obj _ _ eo,λc ci e f g' _ K=>hw.keep.block g' K,λc e=>?_,λc _ e f=>?_⟩⟩
 .rw [bG h b c _ i]at e;by_cases A:c=b
  .subst A;simp only[if_true]at e;cases e;refine⟨bj,Cx.eL _ _ _,rfl,rfl,U,u,.inr ⟨rfl,I,aV,rfl,rfl,N.mono p _ _ _ (bF.low J.lt _ _ _ N),z,?_,?_⟩⟩
   .exact λj v e=>Z j v (by grind)
   .intro j _ h2;have L:j< cs.length:=by rw[y];omega
    refine⟨F _ ⟨j,h2,rfl⟩,⟨cs[j],Z j _ (by simp)⟩,?_⟩
    rw[show I.add j=⟨w.heap.size,j,ae⟩from xm _ _];exact hw.frozen j L
  .simp only[az A]at e;exact(J.cy c k e).later J.lt p (Cx.ft _ _ A) hw.keep (λa o=>G c a A o)
 .by_cases A:c=b
  .have o:(if c=b then λa=>∃j,j< cap*s/\a=I.add j else O c) a:=o
   rw[aK A]at o;obtain⟨j,h2,rfl⟩:=o;refine⟨by simp[x,J.wb],by grind,?_⟩
   show X.C _=ae;cases hx:X.C (I.add j)with
   |none=>rfl
   |some v=>grind
  .have o:(if c=b then λa=>∃j,j< cap*s/\a=I.add j else O c) a:=o
   rw[az A]at o;obtain⟨q1,q2,q3⟩:=J.own c a o;exact⟨q1,by omega,q3⟩
 .have o:(if c=b then λa=>∃j,j< cap*s/\a=I.add j else O c) a:=o
  have m:(if d=b then λa=>∃j,j< cap*s/\a=I.add j else O d) a:=m
  by_cases A:c=b<;>by_cases q:d=b
  .omega
  .rw [aK A]at o;rw[az q]at m;obtain⟨j,_,rfl⟩:=o;have:=(J.own d _ m).2.1;grind
  .rw [az A]at o;rw[aK q]at m;obtain⟨j,_,rfl⟩:=m;have:=(J.own c _ o).2.1;grind
  .rw [az A]at o;rw[az q]at m;exact J.fj c d a o m
 .rw [bL,aK n];by_cases A:c=b
  .omega
  .rw [Cx.ft _ _ A]at e;exact J.lt c ci e
 .simp only[an];refine⟨_,rfl,⟨_,_,rfl,U,by omega,.inr ⟨_,rfl⟩⟩,bj,Cx.eL _ _ _,aJ _,λ_=>⟨_,_,rfl,U,by omega,by grind,(λh=>by cases h),.inr ⟨I,rfl,rfl,by simp[I]⟩⟩⟩
 .simp[bL,aK,n,aJ]
 .have A:c≠b:=λt=>by grind
  rw[bG h b c _ i,az A];omega
 .have A:c≠b:=λt=>by grind
  simp[Cx.ft,A,e]
 .grind
 .rw [bG h b c _ i]at e;grind
 .rw [bG h b c _ i]at f;split at f
  .cases f
  .rename_i A;simp[Cx.ft,A,e]
theorem ae8(x:HR B X O w h){aw t tx ty el:Nat}{te:TI}(T:hZ P el te)(hz:cq te te.zero=ag)(hk:P.underlying t=ab (.slice el))(hn:aq h aw=ae)(hM:X.M aw=ae)(hle:aw<=h.length){s v:V}{new:List V}{h':Heap}
  (e:rT te aw s new h=ab (v,h')) {vs vx:Value} (rs:an X s ag [vs]) {aV:List (List Value)} (W:Src P te.size tx vx new.length aV.flatten w) (f:bF X new af aV) (L:bc te.size aV):
  cY P B X O w h (ld #[t,tx] ty #[vs,vx]) v h':=by
 obtain⟨i,i1,i2,i3,i4⟩:=T.info;unfold rT at e;split at e
 .rename_i b g off len aR;simp only[an]at rs;obtain⟨y,ey,⟨a,cap,e1,Y,e3,e4⟩,bi,o7,V5,yo⟩:=rs;cases ey;subst e1;split at e
  .rename_i g' sz l N;obtain⟨bj,b1,b2,b3,b4,b5,b6⟩:=x.cy b _ N;rw[o7]at b1;cases b1;obtain⟨q,Ms⟩:=aQ e;clear e;cases Ms;simp only[aM]at q;obtain⟨arA,Nk,z,pa,U⟩:=q;obtain⟨yf,GG⟩:=oW Nk;subst yf;have z:=b9 z;subst z;have pa:=b9 pa;subst pa;rw[bn]at U|-;have S:len<=l.length:=by omega
   rw[abY S];have Wi:(l.take len).length=len:=by grind
   have A:(l.take len++new).length=len+new.length:=by grind
   obtain⟨a',AZ,w1,w2,w3,w4,_,w6⟩:=yo b2.symm;cases w1;rw[cV]at w4;obtain⟨Z,o1,o2,o3⟩:∃Z,bF X (l.take len) af Z/\bc te.size Z/\(len=0/\Z.flatten=[]∨∃I,a=ab I/\Z.flatten.length=len*te.size/\∀j v,Z.flatten[j]? =ab v->w.cell? (I.add j)=ab v):=by
    by_cases D:len=0
    .subst D;exact⟨[],by rfl,(λ_ h=>by cases h),.inl ⟨rfl,rfl⟩⟩
    .rcases w6 with w6|⟨I,F,q2,o⟩
     .omega
     .rcases b6 with b6|⟨es,a1,J,k1,k2,k3,k4,k5,k6⟩
      .omega
      .rw [F]at k1;cases k1;rw[rI,Addr.add_zero]at o;refine⟨J.take len,dU.2 ((dU.1 k3).take len),bc.take k4 len,.inr ⟨_,o,?_,?_⟩⟩
       .rw [(bc.take k4 len).len,((dU.1 k3).take len).len,Wi]
       .rw [bc.jh k4];exact k5.take _
   by_cases d:len+new.length<=cap
   ·-- in its place
    rw[<-i2]at W;let bk:BI:=⟨g+1,bi.base,te.size,cap,af⟩;have G:X.le h.length (X.du b bk):=⟨.refl _,λc ci q e=>by
     by_cases H:c=b
     .subst H;rw[o7]at e;cases e;exact⟨bk,Cx.eL _ _ _,by show bi.g<=g+1;omega,λhh=>absurd hh (by show bi.g≠g+1;omega),λhh=>by rw[b3]at hh;cases hh⟩
     .exact ⟨ci,by rw[Cx.ft _ _ H];exact e,aJ _,λ_=>rfl,λ_=>rfl⟩,λ_ _ e=>e⟩
    have uR:(X.du b bk).lt h.length:=λc ci e=>by
     by_cases H:c=b
     .subst H;exact dI N
     .rw [Cx.ft _ _ H]at e;exact x.lt c ci e
    by_cases Q:cap=0
    .have BM:len=0:=by omega
     have yi:new.length=0:=by omega
     have yj:aV.flatten=[]:=HH W yi;rw[yj]at W;have k:=zB (w:=w) (ty:=ty) hk i1 W (base:=a) (sLen:=len) (sCap:=cap) d (a:=⟨0,0,ae⟩) (λh=>absurd rfl h) rfl (λj p=>by simp at p)
     simp only[putCells]at k;have aD:=x.put (dI N) G rfl (λc q=>Cx.ft _ _ q) uR ⟨0,0,ae⟩ rfl [] 0 (λj p=>by simp at p) (λj p=>by simp at p) (.bN (g+1) te.size (l.take len++new)) ⟨bk,Cx.eL _ _ _,rfl,rfl,by rw[A];exact d,by simp only[eO];show cap<=_;omega,.inl Q⟩
     refine⟨_,w,_,O,k,aD,⟨G,.refl _ _,λa v e hn=>(by simp only[Cx.du]at e;rw[hn]at e;cases e),λ_ _ e _=>e⟩,?_,by rw[bL,aK (dI N)];exact aJ _,FR.put x N (λc q=>Cx.ft _ _ q) ⟨0,0,ae⟩ [] 0 (λj p=>by simp at p) _⟩
     simp only[an];rw[show len+new.length=0 from by omega]
     exact⟨_,rfl,⟨a,cap,rfl,bX _,by decide,.inl Q⟩,bk,Cx.eL _ _ _,aJ _,λ_=>⟨a,cap,rfl,bX _,by decide,by show 0+cap<=cap;omega,(λh=>by cases h),.inl Q⟩⟩
    .obtain ⟨I,F,q2,o⟩:=w6.resolve_left Q;rw[rI,Addr.add_zero]at o;obtain⟨es,a1,J,k1,k2,k3,k4,k5,k7⟩:=b6.resolve_left (by omega)
     rw[F]at k1;cases k1;subst o;have od:aV.flatten.length=new.length*te.size:=by rw[L.len,(dU.1 f).len]
     have GF:(len+new.length)*te.size<=bi.cap*te.size:=dM _ (by omega)
     rw[mf]at GF;have r:fw w (O b) (I.add (len*te.size)) 0 aV.flatten.length:=k7.sub k2 (bX _) (by omega)
     have uW:=Addr.h8 I (len*te.size) k2;have k:=zB (w:=w) (ty:=ty) hk i1 W (base:=some I) (sLen:=len) (sCap:=cap) d (a:=I) (λ_=>rfl) k2 (λj p=>by rw[i2];exact(r j (bX _) p).2)
     rw[i2]at k;have o8:∀j,j< aV.flatten.length->O b ((I.add (len*te.size)).add (0+j)):=λj p=>by rw[cV];exact(r j (bX _) p).1
     have hex:∀j,j< aV.flatten.length->∃u,w.cell? ((I.add (len*te.size)).add (0+j))=ab u:=λj p=>by rw[cV];exact(r j (bX _) p).2.1
     have Gx:J.flatten.length=l.length*te.size:=by rw[bc.len k4,(dU.1 k3).len]
     have NF:len*te.size<=l.length*te.size:=dM _ S;have R:cz (putCells w (I.add (len*te.size)) aV.flatten 0).cell? I ((J.take len)++aV).flatten:=λj v e=>by
      rw[tV,bc.jh k4]at e;have uY:(J.flatten.take (len*te.size)).length=len*te.size:=by rw[gz,Gx];omega
      by_cases p:j< len*te.size
      .rw [hH (by rw[uY];exact p)]at e
       rw[nx _ aV.flatten w 0 _ (λm hm he=>by rw[cV,Addr.add_add I _ _ k2]at he;have:=Addr.nX k2 he;omega)]
       exact(k5.take _) j v e
      .rw [jx (by rw[uY];omega),uY]at e
       have:=yZ (I.add (len*te.size)) uW aV.flatten w 0 hex (j-len*te.size) v e;rw[cV,Addr.add_add I _ _ k2,show len*te.size+(j-len*te.size)=j from by omega]at this
       exact this
     have air:V.kF h.length (l.take len++new):=bF.low x.lt _ _ _ (dU.2 (((dU.1 k3).take len).app (dU.1 f)));have aD:=x.put (dI N) G rfl (λc q=>Cx.ft _ _ q) uR (I.add (len*te.size)) uW aV.flatten 0 o8 hex (.bN (g+1) te.size (l.take len++new)) ⟨bk,Cx.eL _ _ _,rfl,rfl,by rw[A];exact d,by show cap<=eO;omega,.inr ⟨rfl,I,J.take len++aV,F,k2,
      (dU.2 (((dU.1 k3).take len).app (dU.1 f))).mono G _ _ _ air,(bc.take k4 len).app L,R,?_⟩⟩
     .refine ⟨_,_,_,O,k,aD,⟨G,xv (λiB=>yW x r (aJ _) (by cases hq:aV.flatten with|nil=>exact absurd hq iB|cons _ _=>simp)),λa v e hn=>(by simp only[Cx.du]at e;rw[hn]at e;cases e),λ_ _ e l=>nv _ (vc l) _ w 0 e⟩,?_,by rw[bL,aK (dI N)];exact aJ _,FR.put x N (λc q=>Cx.ft _ _ q) _ aV.flatten 0 o8 _⟩
      simp only[an];exact⟨_,rfl,⟨ab I,cap,rfl,d,by omega,.inr ⟨I,rfl⟩⟩,bk,Cx.eL _ _ _,aJ _,λ_=>⟨ab I,cap,rfl,d,by omega,by show 0+cap<=cap;omega,(λh=>by cases h),.inr ⟨I,F,k2,by simp⟩⟩⟩
     .exact λj h1 h2=>k7.put _ uW aV.flatten 0 hex j h1 (eU h2 (dM _ w4))
   ·-- in new memory
    obtain⟨K,rest,w',g1,g2,g3,g4,g5,g6⟩:=DP (w:=w) (ty:=ty) T hz hk (base:=a) (sLen:=len) (sCap:=cap) (olds:=Z.flatten) o3 W (by omega) U
    have uM:Z.flatten++aV.flatten=(Z++aV).flatten:=by simp
    rw[uM]at g2 g4;obtain⟨X',O',F,q2,o,q4,q5⟩:=HR.aoZ x N o7 b2 b3 (g3.mono x.wb) g2 (s:=te.size) (cap:=K) (l:=l.take len++new) (aV:=Z++aV) (rest:=rest) g4 g6 (by rw[A];exact g5) (dU.2 ((dU.1 o1).app (dU.1 f))) (o2.app L) rfl
    rw[A]at o;exact⟨_,_,X',O',g1,F,q2,o,q4,q5⟩
  trivial
 .rename_i l;obtain⟨q,e⟩:=aQ e;simp only[aM]at q;obtain⟨hf,hni,U⟩:=q;cases e;rw[bn,bn]at U|-;simp only[an]at rs;obtain⟨y,ey,a,n,e1,Y,e3,e4⟩:=rs;cases ey;subst e1;obtain⟨Z,o1,o2,o3⟩:∃Z,bw X.C l af Z/\bc te.size Z/\(n=0/\Z.flatten=[]∨∃I,a=ab I/\I.spot=ae/\Z.flatten.length=n*te.size/\cz X.C I Z.flatten):=by
   by_cases D:n=0
   .have:l=[]:=pY (by omega)
    subst this;exact⟨[],by simp[bw],(λ_ h=>by cases h),.inl ⟨D,rfl⟩⟩
   .obtain ⟨I,J,s0,F,q2,o,q4,q5⟩:=e4.resolve_left D;have mB:=xZ hf o q4 (λh=>by subst h;simp at Y;exact D Y)
    subst mB;exact⟨J,o,q4,.inr ⟨I,F,q2,by rw[bc.len q4,(cf.1 o).len,Y],q5⟩⟩
  have Ww:0< new.length:=by
   rcases w9 new.length with h|h
   .have:=pY h;subst this;cases hni
   .exact h
  obtain⟨K,rest,w',g1,g2,g3,g4,g5,g6⟩:=DP (w:=w) (ty:=ty) T hz hk (base:=a) (sLen:=n) (sCap:=n) (olds:=Z.flatten) (o3.imp id (λ⟨I,p1,_,p3,p4⟩=>⟨I,p1,p3,λj v e=>x.ci _ _ (p4 j v e)⟩)) W (by omega) (by rw[Y];exact U)
  have uM:Z.flatten++aV.flatten=(Z++aV).flatten:=by simp
  rw[uM]at g2 g4;have A:(jj l++new).length=n+new.length:=by rw[dD,mC,List.length_map,Y]
  obtain⟨X',O',F,q2,o,q4,q5⟩:=Y3 x hn hM hle (g3.mono x.wb) g2 (s:=te.size) (cap:=K) (l:=jj l++new) (aV:=Z++aV) (rest:=rest) g4 g6 (by rw[A];exact g5) (dU.2 ((dU.1 (by rw[mC];exact ug.2 o1)).app (dU.1 f))) (o2.app L) rfl
  rw[A]at o;rw[<-Y];exact⟨_,_,X',O',g1,F,q2,o,q4,q5⟩
 trivial
end
section
variable {P:Program} {B:Nat} {X:Cx} {O:Nat->Addr->Prop} {w:World} {h:Heap} {E:Env}
theorem af3(b:EnvTy P E)(c:HR B X O w h){t ty:Nat}{I:Array Nat}(d:I[0]? =ab t){x v:V}{h':Heap}(e:Lz E t h x=ab (v,h')){J:Value}(r:an X x ag [J]):
  cY P B X O w h (acM I ty #[J]) v h':=by
 unfold Lz Env.kind at e;cases U:E.ty t with
 |none=>grind
 |some ti=>
 rw[U]at e;have Z:=(b.ty t ti U).kind;split at e
 .rename_i k l A;rw[fu A]at Z;cases e;obtain⟨y,f,a,n,g,i,j,_⟩:=r;cases f;subst g;rw[bn,<-i];exact .same c (by simp[acM,d,run_underlying Z,goInt]) (sE j)
 trivial
theorem gf.erase{es:List (D×V)}{ms:List MapEntry}(h:gf X es ms)(i:Nat):gf X (es.eraseIdx i) (ms.eraseIdx i):=ml.2 ((ml.1 h).erase i)
theorem Yq{α β:Type}(f:α->β):∀(l:List α) (i:Nat),(l.eraseIdx i).map f=(l.map f).eraseIdx i
 |[],_|a::l,0=>by simp
 |a::l,i+1=>by simp[Yq f l i]
theorem agD(q:EnvTy P E)(u:HR B X O w h){ty:Nat}{R:Array Nat}{m k v:V}{h':Heap}(e:LB E R m k h=ab (v,h')){S y:Value}(rm:an X m ag [S])(z:an X k ag [y]):
  cY P B X O w h (Sf R ty #[S,y]) v h':=by
 unfold LB at e;split at e
 .rename_i T et b kd A;obtain⟨c,e⟩:=aQ e;obtain⟨es,C,e⟩:=ay.1 e;obtain⟨i,hi,e⟩:=ay.1 e;obtain⟨t,D,A⟩:=ay.1 A;rw[b8,Ab]at D;unfold Env.kind at A;obtain⟨ti,ht,F⟩:=bu.1 A;have o:=(q.ty t ti ht).kind;rw[F]at o;simp only[dE]at o;simp only[an]at z;obtain⟨d,p,G⟩:∃d,P.underlying T=ab d/\((∃k,d=.int k)∨d=.string∨d=.bool):=by
   rcases HZ q c z with⟨k,n,h1,_⟩|⟨s,bs,h1,_⟩|⟨x,h1,_⟩
   all_goals grind
  have g:∀b,(Ek b 10000 T y).run P w=.ok () w:=L2 p G;rcases FQ u C rm with⟨rfl,_⟩|⟨b',r,ms,ck,bi,s,eb,rfl,H,W,Y,hf,U,f,hO,I⟩
  .grind[an]
  .cases eb;simp only[H,fH,aek]at e;obtain⟨rfl,rfl⟩:=e;have Z:=I.n4;obtain⟨q1,q2⟩:=F4 q c z p (j:=0) Z hi;have hlen:ms.toList.length=es.length:=(ml.1 Z).len;have hU:an X (.im (.aG [])) ag [.tuple #[]]:=by simp only[an,aN];exact⟨#[],[],rfl,by rfl,rfl⟩
   by_cases l:i< es.length
   .obtain ⟨me,e1,K,e3⟩:=q1 l;have a:=run_findKey (w:=w) p K;rw[cV]at a;have J:gf X (es.eraseIdx i) (ms.eraseIdxIfInBounds i).toList:=by
     have:(ms.eraseIdxIfInBounds i).toList=ms.toList.eraseIdx i:=by simp
     rw[this];exact Z.erase i
    obtain⟨L,M,N,Q⟩:=JR (jB:=ck) (s':=s.eraseIdx i) (c':=ck) u H W Y hf U f hO ⟨J,by simp[I.born,Yq],rfl⟩
    exact⟨.tuple #[],_,X,O,by simp[Sf,D,run_underlying o,lU f rfl,g,a,DT f rfl],L,M,hU,N,Q⟩
   .obtain ⟨e1,K⟩:=q2 l;have a:=run_findKey (w:=w) p K;have J:gf X (es.eraseIdx i) ms.toList:=by rw[adB (by omega)];omega
    obtain⟨L,M,N,Q⟩:=JR (jB:=ck) (s':=s.eraseIdx i) (c':=ck) u H W Y hf U f hO ⟨J,by rw[<-I.born,adB (by grind)],rfl⟩
    exact⟨.tuple #[],_,X,O,by simp[Sf,D,run_underlying o,lU f rfl,g,a,DT f rfl],L,M,hU,N,Q⟩
 trivial
theorem apY{α:Type}{l s:List α}{off n:Nat}(A:off<=l.length)(J:n<=s.length)(I:off+n<=l.length):(l.take off++(s.take n++l.drop (off+n))).length=l.length:=by
 grind
theorem agt(hE:EnvTy P E)(x:HR B X O w h){ty:Nat}{ts:Array Nat}{d s v:V}{h':Heap}(e:LA E ts d s h=ab (v,h')){vd vs:Value}(rd:an X d ag [vd])(rs:an X s ag [vs]):
  cY P B X O w h (Se ts ty #[vd,vs]) v h':=by
 unfold LA at e;obtain⟨ti,h1,e⟩:=ay.1 e;obtain⟨t,h0,ht⟩:=ay.1 h1;have hk:=(hE.ty t ti ht).kind;split at e
 .rename_i el NY;rw[NY]at hk;simp only[dE]at hk;obtain⟨te,hte,e⟩:=ay.1 e;obtain⟨tx,WC,e⟩:=ay.1 e;obtain⟨_,e⟩:=aQ e;obtain⟨src,Q,e⟩:=ay.1 e;rw[b8,Ab]at h0;obtain⟨i,i1,i2,_,_⟩:=(hE.ty _ _ hte).info;cases d with
  |own b g off len aR=>
   simp only at e;split at e
   .rename_i g' sz ro l z;obtain⟨hc,e⟩:=aQ e;simp only[aM,Bool.not_eq_true']at hc;obtain⟨R,S,C,D,Nq⟩:=hc;obtain⟨yf,GG⟩:=oW S;have C:=b9 C;subst C;have D:=nY D;rw[bn]at e;obtain⟨as,q,cs,e1,e2,e3,e4,e5⟩:=FA x Q rs;subst e1;simp only[an]at rd;obtain⟨y,ey,⟨ad,cap,d1,d2,d3,d4⟩,bi,hM,V5,T⟩:=rd;cases ey;subst d1;obtain⟨bj,b1,b2,b3,b4,b5,b6⟩:=x.cy b _ z;rw[hM]at b1;cases b1;obtain⟨a',AZ,w1,w2,w3,w4,_,w6⟩:=T (by rw[b2];exact yf)
    cases w1;have W:mh len src.length=mh q len:=by rw[<-e2];exact Nat.min_comm len q
    rw[W]at e;generalize Z:mh q len=n at e;have Wm:n<=len:=by rw[<-Z];exact Nat.min_le_right _ _
    have F:n<=src.length:=by rw[<-Z,<-e2];exact ad4 _ _
    cases e;have BP:an X (.im (.int .i64 (aC n))) ag [.int .i64 n]:=sE (by omega)
    have c:(l.take off++(src.take n++l.drop (off+n))).length=l.length:=apY (by omega) F (by omega)
    by_cases hz:n=0
    ·-- nothing
     subst hz;have hl:l.take off++(src.take 0++l.drop (off+0))=l:=by simp
     rw[hl];have G:aD h b (.arr g' te.size ro l)=h:=by
      refine Ar λj=>?_
      have:=bG h b j (.arr g' te.size ro l) (cX (dI z));have lH:(aD h b (.arr g' te.size ro l)).length=h.length:=by rw[bL,aK (dI z)]
      by_cases f:j< h.length
      .rw [cF,cF,hJ (by omega),hJ f]at this
       rw[hJ (by omega),hJ f]
       by_cases Wf:j=b
       .subst Wf;rw[aK rfl]at this;have H:=z;rw[cF,hJ f]at H;simp at this H;rw[this,H]
       .rw [az Wf]at this;simpa using this
      .rw [jO (by omega),jO (by omega)]
     rw[G];refine .same x ?_ BP;have BH:∀sz,(Eh sz 0 (.slice as q cs)).run P w=.ok #[] w:=λsz=>by
      cases as with
      |none=>exact run_firstCells_none _ _ _ _ _
      |some J=>exact run_firstCells_some w sz 0 J q cs [] (by simp) (λj v e=>by simp at e)
     have K:∀a:Addr,(storeCells a [] 0).run P w=.ok () w:=λ_=>rfl
     cases ad<;>simp[Se,h0,run_underlying hk,acN,Z,sizeOf,typeInfo,i1,BH,K,goInt]
    .obtain ⟨S9,A,ss,q1,q2,q3,q4,q5⟩:=e5.resolve_left (by
      have h9:n<=q:=(Z▸ad4 _ _);omega)
     subst q1;have mB:=xZ Nq q3 q4 (λh=>by subst h;simp at F;exact hz F)
     subst mB;obtain⟨J,k1,k2,k3⟩:=w6.resolve_left (by omega)
     obtain⟨es,a1,I,j1,j2,j3,N,j5,j6,j7⟩:=b6.resolve_left (by omega)
     rw[k1]at j1;cases j1;rw[es]at k3;subst k3;have o:=Addr.h8 J (off*te.size) k2;have hlS:A.length=src.length:=(cf.1 q3).len;have BM:I.length=l.length:=(cf.1 j3).len;have k:(A.take n).flatten.length=n*te.size:=by rw[(bc.take q4 n).len,gz];congr 1;omega
     have hm:(off+n)*te.size<=bi.cap*te.size:=dM _ (by omega)
     rw[mf]at hm;have BO:ro*te.size<=off*te.size:=dM _ D;have U:fw w (O b) (J.add (off*te.size)) 0 (A.take n).flatten.length:=j7.sub k2 BO (by rw[k];omega)
     have o8:∀j,j<(A.take n).flatten.length->O b ((J.add (off*te.size)).add (0+j)):=λj f=>by rw[cV];exact(U j (bX _) f).1
     have hex:∀j,j<(A.take n).flatten.length->∃u,w.cell? ((J.add (off*te.size)).add (0+j))=ab u:=λj f=>by rw[cV];exact(U j (bX _) f).2.1
     have r:I.flatten.length=l.length*te.size:=by rw[bc.len N,BM]
     have NF:(off+n)*te.size<=l.length*te.size:=dM _ (by omega)
     rw[mf]at NF;have hfc:(Eh i.size n (.slice (ab S9) q cs)).run P w=.ok (A.take n).flatten.toArray w:=
      run_firstCells_some w i.size n S9 q cs _ (by rw[k,i2]) (λj v ev=>by
       rw[bc.jh q4]at ev;exact(q5.take _) j v ev)
     have L:∀u∈(A.take n).flatten,u.oneCell'=ag:=bw.lQ (cf.2 ((cf.1 q3).take n));have K:=JH (P:=P) (J.add (off*te.size)) o (A.take n).flatten w 0 L (λj f=>by rw[cV];exact(U j (bX _) f).2)
     have p:cz (putCells w (J.add (off*te.size)) (A.take n).flatten 0).cell? J (I.take off++(A.take n++I.drop (off+n))).flatten:=λj v ev=>by
      rw[tV,tV,bc.jh N,bc.qy N]at ev;have M:(I.flatten.take (off*te.size)).length=off*te.size:=by rw[gz,r];omega
      by_cases f:j< off*te.size
      .rw [hH (by rw[M];exact f)]at ev
       rw[nx _ _ w 0 _ (λm hm he=>by rw[cV,Addr.add_add J _ _ k2]at he;have:=Addr.nX k2 he;omega)]
       exact(j5.take _) j v ev
      .rw [jx (by rw[M];omega),M]at ev
       by_cases NC:j-off*te.size< n*te.size
       .rw [hH (by rw[k];exact NC)]at ev
        have:=yZ (J.add (off*te.size)) o _ w 0 hex (j-off*te.size) v ev;rw[cV,Addr.add_add J _ _ k2,show off*te.size+(j-off*te.size)=j from by omega]at this
        exact this
       .rw [jx (by rw[k];omega),k,List.getElem?_drop,mf]at ev
        rw[nx _ _ w 0 _ (λm hm he=>by rw[cV,Addr.add_add J _ _ k2]at he;have:=Addr.nX k2 he;omega)]
        exact j5 j v (by rw[<-ev];congr 1;omega)
     have aD:=x.put (Y:=X) (dI z) (.refl _ _) rfl (λ_ _=>rfl) x.lt (J.add (off*te.size)) o (A.take n).flatten 0 o8 hex (.arr g' te.size ro (l.take off++(src.take n++l.drop (off+n)))) ⟨bi,hM,b2,b3,⟨by rw[c];exact b4.1,by rw[c];exact b4.2⟩,b5,.inr ⟨es,J,I.take off++(A.take n++I.drop (off+n)),k1,k2,
      cf.2 (((cf.1 j3).take off).app (((cf.1 q3).take n).app ((cf.1 j3).drop (off+n)))),(bc.take N off).app ((bc.take q4 n).app (bc.drop N (off+n))),p,?_,j7.put _ o _ 0 hex⟩⟩
     .refine ⟨_,_,X,O,?_,aD,⟨.refl _ _,xv (λR=>yW x U (aJ _) (by cases hq:(A.take n).flatten with|nil=>exact absurd hq R|cons _ _=>simp)),λa v e hn=>(by rw[hn]at e;cases e),λ_ _ e l=>nv _ (vc l) _ w 0 e⟩,BP,by rw[bL,aK (dI z)];exact aJ _,FR.put x z (λ_ _=>rfl) _ _ 0 o8 _⟩
      simp[Se,h0,run_underlying hk,acN,Z,sizeOf,typeInfo,i1,hfc,K,goInt]
     .rw [tV,bc.jh N,adQ (by rw[gz,r];omega),adR,mi BO]
      exact j6
   trivial
  |_=>cases e
 trivial
theorem apg{t j ty e:TypeId}{i:TypeInfo}{z:Value}{k:IntKind}(l:P.underlying t=ab (.slice e))(m:P.underlying j=ab (.int k))(hi:P.info? e=ab i)(o:i.zero=ab z)(c:z.cells.size=i.size)(base:Option Addr)(A I:Nat)(J:List Value)
  (hold:(Eh i.size A (.slice base A I)).run P w.drew=.ok J.toArray w.drew) {n:Nat} (s:I< A+n) (r:((A+n:Nat):Int)<=9223372036854775807) (p:Ku (A+n) I*i.bytes<=281474976710656) (u:n*i.bytes<=281474976710656):
  (ld #[t,j] ty #[.slice base A I,.int .i64 n]).run P w=
   .ok (.slice (ab ⟨w.heap.size,0,ae⟩) (A+n) (grownCap w (A+n) I e))
    (w.drew.alloc (.cells ((J++(madeCells z.cells (n*i.size)).toList).toArray++kh z.cells (grownCap w (A+n) I e-(A+n))) e)):=by
 have q:¬(A+n<=I):=by omega
 have U:¬(9223372036854775807<((A:Int)+(n:Int))):=by omega
 have Z:¬(281474976710656< Ku (A+n) I*i.bytes):=by omega
 have hw:Ai.wrap (n:Int)=n:=by grind[IntKind.wrap_i64]
 have a:¬((n:Int)< 0):=by omega
 have b:¬(281474976710656<(n:Int)*(i.bytes:Int)):=by
  omega
 have d:kh z.cells n=madeCells z.cells (n*i.size):=by simp[kh,madeCells,c]
 by_cases f:n*i.size=0
 .have g:madeCells z.cells (n*i.size)=#[]:=by simp[f,madeCells]
  simp[ld,run_underlying l,run_underlying m,sizeOf,typeInfo,zeroValue,hi,o,asInt,asIntOf,hw,a,b,q,U,Z,f,KE,hold,newRow,grownCap,g];grind
 .simp [ld,run_underlying l,run_underlying m,sizeOf,typeInfo,zeroValue,hi,o,asInt,asIntOf,hw,a,b,q,U,Z,KE,hold,newRow,grownCap,d];rw[az f];congr 2;congr 1;grind
theorem afb(x:HR B X O w h){aw t Y ty el:Nat}{te:TI}(z:hZ P el te)(hk:P.underlying t=ab (.slice el)){ki:IntKind}(D:P.underlying Y=ab (.int ki))(hn:aq h aw=ae)(hM:X.M aw=ae)(F:aw<=h.length){s v:V}{n:Int}{h':Heap}
  (e:Fc te aw s n h=ab (v,h')) {vs:Value} (rs:an X s ag [vs]):cY P B X O w h (ld #[t,Y] ty #[vs,.int .i64 n]) v h':=by
 unfold Fc at e;split at e
 .rename_i l;obtain⟨hc,e⟩:=aQ e;simp only[aM]at hc;obtain⟨hf,c,I⟩:=hc;obtain⟨zd,G,e⟩:=ay.1 e;obtain⟨H,e⟩:=aQ e;cases e;obtain⟨i,zv,i1,i2,i3,i5,rz,K⟩:=Ks z G H X.C;rw[oi,decide_eq_true_eq]at c;obtain⟨m,rfl⟩:∃m:Nat,n=m:=⟨n.toNat,by omega⟩
  rw[Int.toNat_natCast]at I|-;rw[bn]at I|-;rw[nC];obtain⟨r1,r2⟩:=aa5 I;simp only[an]at rs;obtain⟨y,ey,a,nl,e1,u,e3,e4⟩:=rs;cases ey;subst e1;obtain⟨A,o1,o2,o3⟩:∃A,bw X.C l af A/\bc te.size A/\(nl=0/\A.flatten=[]∨∃U,a=ab U/\U.spot=ae/\A.flatten.length=nl*te.size/\cz X.C U A.flatten):=by
   by_cases d:nl=0
   .have:l=[]:=pY (by omega)
    subst this;exact⟨[],by rfl,(λ_ h=>by cases h),.inl ⟨d,rfl⟩⟩
   .obtain ⟨U,f,s0,L,q2,b,q4,N⟩:=e4.resolve_left d;have Q:=xZ hf b q4 (λh=>by grind)
    subst Q;exact⟨f,b,q4,.inr ⟨U,L,q2,by rw[bc.len q4,(cf.1 b).len,u],N⟩⟩
  rw[<-u]at r1 r2;have g:Ku (nl+m) nl*i.bytes<=281474976710656:=growslice_fits (by omega) (by rw[i3];omega)
  have hmb:m*i.bytes<=(nl+m)*te.bytes:=by grind
  have holds:(Eh i.size nl (.slice a nl nl)).run P w.drew=.ok A.flatten.toArray w.drew:=by
   rcases o3 with⟨rfl,ho⟩|⟨U,rfl,_,h1,h2⟩
   .rw [ho];cases a with
    |none=>rfl
    |some U=>exact run_firstCells_some w.drew i.size 0 U 0 0 [] (by simp) (λj v e=>by trivial)
   .exact run_firstCells_some w.drew i.size nl U nl nl _ (by rw[h1,i2]) (λj v e=>by simpa using x.ci _ _ (h2 j v e))
  have k:=apg (w:=w) (ty:=ty) hk D i1 i5 (by omega) a nl nl A.flatten holds (n:=m) (by omega) (by omega) g (by omega)
  have R:=grownCap_ge w (nl+m) nl el;have o:=grownCap_le_maxLen w (nl+m) nl el (by grind[maxLen])
  have Z:(madeCells zv.cells (m*i.size)).toList=(bT m zv.cells.toList).flatten:=Ck (by omega) m
  have p:bc te.size (bT m zv.cells.toList):=bc.rep (by omega)
  have S:((A.flatten++(madeCells zv.cells (m*i.size)).toList).toArray++kh zv.cells (grownCap w (nl+m) nl el-(nl+m))).toList=(A++bT m zv.cells.toList).flatten++(kh zv.cells (grownCap w (nl+m) nl el-(nl+m))).toList:=by
   simp[Z]
  have T:kp w (w.drew.alloc (.cells ((A.flatten++(madeCells zv.cells (m*i.size)).toList).toArray++kh zv.cells (grownCap w (nl+m) nl el-(nl+m))) el)) ((A++bT m zv.cells.toList).flatten++(kh zv.cells (grownCap w (nl+m) nl el-(nl+m))).toList):=by
   have h1:=kp.alloc w.drew ((A.flatten++(madeCells zv.cells (m*i.size)).toList).toArray++kh zv.cells (grownCap w (nl+m) nl el-(nl+m))) el;rw[S]at h1;exact⟨(dP.vt (Fh w)).trans h1.keep,h1.size,h1.cell,h1.frozen⟩
  have q:Below w.heap.size w (w.drew.alloc (.cells ((A.flatten++(madeCells zv.cells (m*i.size)).toList).toArray++kh zv.cells (grownCap w (nl+m) nl el-(nl+m))) el)):=(Fh w).alloc (aJ _) _;have J:(l++bT m zd).length=nl+m:=by grind
  have W:A.length=nl:=by rw[(cf.1 o1).len,u]
  have r:((A++bT m zv.cells.toList).flatten++(kh zv.cells (grownCap w (nl+m) nl el-(nl+m))).toList).length=grownCap w (nl+m) nl el*te.size:=by
   rw[dD,(o2.app p).len,dD,gV,W];have:(kh zv.cells (grownCap w (nl+m) nl el-(nl+m))).toList.length=(grownCap w (nl+m) nl el-(nl+m))*te.size:=by simp[size_zeroCells,K]
   rw[this,<-mf];congr 1;omega
  obtain⟨X',O',L,q2,b,q4,N⟩:=yM x hn hM F (q.mono x.wb) T (s:=te.size) (cap:=grownCap w (nl+m) nl el) (l:=l++bT m zd) (aV:=A++bT m zv.cells.toList) r (by simp only[maxLen,eO]at o|-;omega) (by rw[J];exact R) (cf.2 ((cf.1 o1).app (cf.1 (Q1 rz m)))) (o2.app p) rfl
  rw[J]at b;rw[<-u];exact⟨_,_,X',O',k,L,q2,b,q4,N⟩
 trivial
theorem afa(a:EnvTy P E)(b:HR B X O w h){aw t J ty el:Nat}{te:TI}(hte:E.ty el=ab te)(u:cq te te.zero=ag)(j:P.underlying t=ab (.slice el))(l:aq h aw=ae)(m:X.M aw=ae)(U:aw<=h.length){s x v:V}{h':Heap}(e:oQ E te aw J s x h=ab (v,h'))
  {vs y:Value} (n:an X s ag [vs]) (c:an X x ag [y]):cY P B X O w h (ld #[t,J] ty #[vs,y]) v h':=by
 unfold oQ at e;cases hi:u6 (E.kind J)with
 |true=>
  rw[hi,au]at e;split at e
  .obtain ⟨c,_⟩:=c;cases c;obtain⟨z,o⟩:∃z,P.underlying J=ab (.int z):=by
    unfold u6 Env.kind at hi;cases d:E.ty J with
    |none=>grind
    |some ti=>
     rw[d]at hi;have f:=(a.ty J ti d).kind;split at hi
     .rename_i k D;rw[fu D]at f;exact⟨k,f⟩
     trivial
   exact afb b (a.ty _ _ hte) j o l m U e n
  trivial
 |false=>
  rw[hi,ax]at e;cases C:(kD h s||kD h x)with
  |true=>
   rw[C,au]at e;obtain⟨p,e⟩:=aQ e;obtain⟨new,A,e⟩:=ay.1 e;obtain⟨g,e⟩:=aQ e;have i:∃k,E.kind J=ab (.ar k):=by
    unfold G3 at p;grind
   obtain⟨q,r,I,Z⟩:=amE a b i A g c;exact ae8 b (a.ty _ _ hte) u j l m U e n r I Z
  |false=>
   rw[C,ax]at e;obtain⟨new,A,e⟩:=ay.1 e;obtain⟨q,r,I,Z⟩:=amD a b A c;exact ae6 b (a.ty _ _ hte) u j l m U e n r I Z
theorem afd(U:EnvTy P E)(d:HR B X O w h){aw ty:Nat}{Z:Array Nat}(f:aq h aw=ae)(g:X.M aw=ae)(I:aw<=h.length){s x v:V}{h':Heap}(e:uu E aw Z s x h=ab (v,h')){vs a:Value}(i:an X s ag [vs])(j:an X x ag [a]):
  cY P B X O w h (ld Z ty #[vs,a]) v h':=by
 obtain⟨ti,h1,e⟩:=ay.1 e;obtain⟨t,b,k⟩:=ay.1 h1;have c:=(U.ty t ti k).kind;split at e
 .rename_i el J;rw[J]at c;obtain⟨te,hte,e⟩:=ay.1 e;obtain⟨m,A,e⟩:=ay.1 e;obtain⟨l,e⟩:=aQ e;rw[b8,Ab]at b A;rw[afe b A];exact afa U d hte l c f g I e i j
 trivial
theorem ae5{te:TI}{aw:Nat}{s:V}{new:List D}{g off len:Nat}{l:Bool}{h1:Heap}(I:aq h aw=ae)(A:uo te aw s new h=ab (.own aw g off len l,h1)):∃k,h1=aD h aw k:=by
 unfold uo at A;grind
theorem ae7{te:TI}{aw:Nat}{s:V}{new:List V}{g off len:Nat}{l:Bool}{h1:Heap}(I:aq h aw=ae)(A:rT te aw s new h=ab (.own aw g off len l,h1)):∃k,h1=aD h aw k:=by
 unfold rT at A;grind
theorem afn{aw:Nat}{U:Array Nat}{s x:V}{g off len:Nat}{l:Bool}{h1:Heap}(I:aq h aw=ae)(A:uu E aw U s x h=ab (.own aw g off len l,h1)):∃k,h1=aD h aw k:=by
 obtain⟨ti,_,A⟩:=ay.1 A;split at A
 .obtain ⟨te,_,A⟩:=ay.1 A;obtain⟨Z,_,A⟩:=ay.1 A;obtain⟨_,A⟩:=aQ A;unfold oQ at A;cases hi:u6 (E.kind Z)with
  |true=>
   rw[hi]at A;split at A
   .unfold Fc at A;split at A
    .obtain ⟨_,A⟩:=aQ A;obtain⟨_,_,A⟩:=ay.1 A;grind
    trivial
   trivial
  |false=>
   rw[hi]at A;cases J:(kD h s||kD h x)<;>first|rw[J,au]at A;obtain⟨_,A⟩:=aQ A;obtain⟨new,_,A⟩:=ay.1 A;obtain⟨_,A⟩:=aQ A;exact ae7 I A|rw[J,ax]at A;obtain⟨new,_,A⟩:=ay.1 A;exact ae5 I A
 trivial
end
section
variable {P:Program} {B:Nat} {X:Cx} {O:Nat->Addr->Prop} {w:World} {h:Heap} {E:Env}
theorem W3(U:HR B X O w h){n:Nat}(g:aq h n=ae)(J:X.M n=ae)(A:n<=h.length){v:V}{m:Option Nat}(d:an X v ag [.map m]){f:Sem Value}(c:Nat)
  (e:f.run P w=.ok (.pointer (ab ⟨w.heap.size,0,ae⟩)) (w.alloc (.mapIter m c #[] c))):cY P B X O w h f (.ptr n 0 []) (aD h n (.it v c [] c)):=by
 let bi:BI:=⟨0,ab ⟨w.heap.size,0,ae⟩,0,1,ag⟩;let Z:Addr->Prop:=λa=>a=⟨w.heap.size,0,ae⟩
 have I:=an.low U.lt _ _ _ d;have b:BR (X.du n bi) (w.alloc (.mapIter m c #[] c)) Z n (.it v c [] c):=⟨bi,w.heap.size,m,Cx.eL _ _ _,rfl,rfl,rfl,heap_alloc_new w _,rfl,an.mono (Cx.tC h.length J) _ _ _ I d⟩;refine⟨_,_,X.du n bi,_,e,U.add g J A (.alloc _ _) (by simp) bi Z (.it v c [] c) (λa i=>?_) b,Up.add J ((Below.refl B w).alloc U.wb _) (.alloc _ _) _ bi,?_,?_,.add J A (.alloc _ _) bi Z _⟩
 .subst i;simp
 .exact ⟨_,rfl,⟨_,rfl⟩,bi,Cx.eL _ _ _,aJ _,λ_=>⟨_,rfl,rfl,by rfl⟩⟩
 grind[bL]
theorem X9(U:EnvTy P E){t J et:Nat}(A:E.kind t=ab (.map J et)):P.underlying t=ab (.map J et):=by
 obtain⟨ti,Z,I⟩:=bu.1 A;have A:=(U.ty t ti Z).kind;rw[I]at A;exact A
theorem Pb(I:HR B X O w h){b:Nat}{es:List (D×V)}{s:List Nat}{ck:Nat}(J:aq h b=ab (.mp es s ck)){A:Value}(U:an X (.mp b) ag [A]):
  ∃r ms,A=.map (ab r)/\w.heap[r]? =ab (.map ms ck)/\ES X es s ck ms.toList ck:=by
 obtain⟨bi,r,ms,jB,h1,h2,h3,a,c,d,Z⟩:=I.cy b _ J;have:=Z.Fs;simp[an]at U;grind
theorem aoQ(c:EnvTy P E)(U:HR B X O w h){n t:Nat}(d:aq h n=ae)(f:X.M n=ae)(I:n<=h.length){x v:V}{h':Heap}(e:Q8 E n h t x=ab (v,h')){g:Value}(J:an X x ag [g]):
  cY P B X O w h (Sp t g) v h':=by
 unfold Q8 at e;split at e
 .rename_i i et A;cases e;have Z:=X9 c A;have a:=J;cases J;exact W3 U d f I a 0 (by simp[Sp,run_underlying Z,tO])
 .rename_i i et b A;split at e
  .rename_i es s ck j;cases e;have Z:=X9 c A;obtain⟨r,ms,rfl,k,_⟩:=Pb U j J;exact W3 U d f I J ck (by simp[Sp,run_underlying Z,lU k rfl,tO])
  trivial
 trivial
theorem apB(I:HR B X O w h){b r:Nat}{k k':bK}{o o':Obj}(m:aq h b=ab k)(i:w.heap[r]? =ab o)(h1:o.isCells=af)(h2:o'.isCells=af)(n:Obj.lp o=af)(j:O b ⟨r,0,ae⟩)(he:BR X (dy w r o') (O b) b k'):
  HR B X O (dy w r o') (aD h b k')/\Up B X w h.length X (dy w r o')/\h.length<=(aD h b k').length/\FR X O w h X O (dy w r o') (aD h b k'):=by
 have J:=dI m;have U:=cX J;have Z:∀c,c≠b->¬O c ⟨r,0,ae⟩:=λc A o=>A (I.fj c b _ o j)
 have d:=qU i h1 h2;refine⟨⟨λc k e=>?_,λc a o=>?_,I.fj,λc bj e=>?_,⟨λa v e=>?_,I.ci.gl⟩,?_⟩,⟨.refl _ _,yR w _ (I.own b _ j).1,λa v e f=>(by grind),λq o e l=>?_⟩,?_,⟨λc bj e f=>?_,λ_ _ e _=>e,λ_ _ _ _ _ o=>o,λc bj e f a o v ev=>?_,λc bj e f a o s t _=>?_,λc bj e f g p _=>?_,λc e=>?_,λ_ _ e _=>e⟩⟩
 .rw [bG h b c _ U]at e;by_cases A:c=b
  .grind
  .simp [az A]at e;exact(I.cy c k e).obj i h1 h2 (Z c A)
 .rw [vp];exact I.own c a o
 .rw [bL,aK J];exact I.lt c bj e
 .rw [d];exact I.ci a v e
 .simp[vp,I.wb]
 .rw [fB w _ (λu=>by grind)];exact e
 .simp[bL,aK,J,aJ]
 .rw [bG h b c _ U,az (λA=>by grind)];omega
 .exact ⟨by grind,vn i h1 h2 a⟩
 .have A:c≠b:=λA=>by grind
  rw[fB w _ (λe=>Z c A (by simp_all[e,o]))];omega
 .have A:c≠b:=λA=>by grind
  exact fB w _ (λe=>Z c A (p _ e.symm))
 .rw [bG h b c _ U]at e;grind
theorem Nf(l:List Nat)(b:Nat):aY l b=l.toArray.contains b:=by
 have h:aY l b=l.contains b:=by
  induction l with
  |nil=>rfl
  |cons a l ih=>
   have:aY (a::l) b=(bif ak a b then ag else aY l b):=rfl;rw[this,ih];cases I:ak a b with
   |true=>simp_all
   |false=>
    have A:¬b=a:=λe=>by simp_all
    simp[A]
 simp[h]
theorem Yf(seen:List Nat)(a:Nat)(s:List Nat)(i:Nat):leftOf seen (a::s) i=bif aY seen a then leftOf seen s (i+1)else(i,a)::leftOf seen s (i+1):=rfl
theorem OP{seen:List Nat}:∀{ms:List MapEntry} {i:Nat},leftOf seen (ms.map (·.born)) i=[]->ms.filter (λe=>!seen.toArray.contains e.born)=[]
 |[],_,_=>rfl
 |m::ms,i,e=>by
  rw[oL,Yf]at e;cases A:aY seen m.born with
  |true=>
   rw[A]at e;rw[SI,<-Nf,A];exact OP e
  |false=>grind
theorem Yg{seen:List Nat}{j a:Nat}:∀{ms:List MapEntry} {i:Nat},leftOf seen (ms.map (·.born)) i=[(j,a)]->∃e,ms.filter (λe=>!seen.toArray.contains e.born)=[e]/\i<=j/\ms[j-i]? =ab e/\e.born=a
 |[],_,e=>by cases e
 |m::ms,i,e=>by
  rw[oL,Yf]at e;cases A:aY seen m.born with
  |true=>
   rw[A]at e;obtain⟨x,h1,h2,h3,I⟩:=Yg e;refine⟨x,?_,by omega,?_,I⟩
   .simp_all[SI,Nf,A,h1]
   grind
  |false=>
   rw[A]at e;injection e with J U;cases J;refine⟨m,?_,aJ _,by simp,rfl⟩
   rw[SI,<-Nf,A];have:=OP U;rw[this];rfl
theorem arW:(choose (.mapNext 1)).run P w=.ok 0 w:=by
 rfl
theorem W1{α:Type}(l:List α):isNil l=l.isEmpty:=by cases l<;>rfl
theorem aeU(last:Nat)(s:List Nat):AM last s=s.all λa=>decide (last<=a):=by
 induction s with
 |nil=>rfl
 |cons a s ih=>
  have:AM last (a::s)=(bif bp last a then AM last s else af):=rfl;rw[this,ih];cases A:bp last a with
  |true=>simp_all
  |false=>
   have:¬last<=a:=λh=>by simp_all[Nat.ble_eq_true_of_le,h]
   simp[this]
theorem Oi(Z:HR B X O w h){b:Nat}{u:V}{since last:Nat}{seen:List Nat}(a:aq h b=ab (.it u since seen last)){A:Value}(c:an X (.ptr b 0 []) ag [A]):
  ∃bi r m,A=.pointer (ab ⟨r,0,ae⟩)/\X.M b=ab bi/\bi.g=0/\bi.fix=ag/\bi.base=ab ⟨r,0,ae⟩/\w.heap[r]? =ab (.mapIter m since seen.toArray last)/\O b ⟨r,0,ae⟩/\an X u ag [.map m]:=by
 obtain⟨bi,r,m,h1,h2,h3,I,d,e,f⟩:=Z.cy b _ a;obtain⟨y,i,_,bj,J,_,j⟩:=c;cases i;rw[h1]at J;cases J;obtain⟨k,U,_,q2⟩:=j h2.symm;rw[I]at U;cases U;refine⟨bi,r,m,?_,h1,h2,h3,I,d,e,f⟩;trivial
theorem aqn{k:D}{v:V}{x y:Value}(A:aN X.C k ag [x])(I:an X v ag [y]):an X (.aG [.im (.bool ag),.im k,v]) ag [.tuple #[.bool ag,x,y]]:=by
 simp[an,bF,aN];grind
theorem aqp{k:D}{v:V}{x y:Value}(A:aN X.C k ag [x])(I:an X v ag [y]):an X (.aG [.im k,v]) ag [.tuple #[x,y]]:=by
 simp[an,bF];grind
theorem ZI:an X (.im (.aG [.bool af])) ag [.tuple #[.bool af]]:=by
 simp only[an,aN,bw];simp
theorem amH(d:HR B X O w h){x v:V}{str:Bool}{h':Heap}(e:Q7 h x str=ab (v,h')){C:Value}(D:an X x ag [C])(t:Nat):cY P B X O w h (Kz C str t) v h':=by
 unfold Q7 at e;split at e
 .rename_i b;split at e
  .rename_i since seen last k;cases e;obtain⟨bi,r,m,rfl,h1,h2,h3,F,Z,p,g⟩:=Oi d k D;simp only[an,aN]at g;cases g;exact .same d (by simp[Kz,lU Z rfl]) ZI
  .rename_i c since seen last k;split at e
   .rename_i es s ck N;cases G:(not (isNil seen)&&(not (isNil s)&&AM last s))with
    |true=>grind
    |false=>
    rw[G,ax]at e;obtain⟨bi,r,m,rfl,h1,h2,h3,F,Z,p,g⟩:=Oi d k D;obtain⟨H,ms,Q,K,n⟩:=Pb d N g;cases Q;have I:(!seen.toArray.isEmpty&&!ms.isEmpty&&ms.all (λe=>decide (e.born>=last)))=af:=by
     rw[<-G,W1,W1,aeU,<-n.born,Bool.and_assoc,<-Array.all_toList];simp
    have U:∀l,ms.toList.filter (λe=>!seen.toArray.contains e.born)=l->ms.filter (λe=>!seen.toArray.contains e.born)=l.toArray:=λl o=>by
     apply Array.toList_inj.1;grind
    split at e
    .rename_i J;cases e;have o:=U [] (OP (by rw[n.born];omega))
     refine .same d ?_ ZI;unfold Kz;simp only[eZ,lU Z rfl,lU K rfl,iJ,I,o];simp[KE]
    .rename_i i a J;obtain⟨q,e⟩:=aQ e;obtain⟨en,j,e⟩:=bu.1 e;cases e;obtain⟨f,R,_,q2,L⟩:=Yg (i:=0) (by rw[n.born];exact J)
     have o:=U [f] R;rw[Nat.sub_zero]at q2;have A:f.born< since:=by rw[L];exact gX q
     rw[b8]at j;obtain⟨y,M,S,T⟩:=(ml.1 n.n4).get j;rw[q2]at M;cases M;obtain⟨W,Y,s3,s4⟩:=apB (k':=.it (.mp c) since (seen++[a]) ck) (o':=.mapIter (ab H) since (seen.toArray.push f.born) ck) d k Z rfl rfl rfl p
      ⟨bi,r,ab H,h1,h2,h3,F,by rw[vo Z,L];simp,p,g⟩
     refine⟨_,_,X,O,?_,W,Y,aqn S T,s3,s4⟩;unfold Kz;simp only[eZ,lU Z rfl,lU K rfl,iJ,I,o];have u:([f].toArray.filter λe=>decide (e.born< since))=#[f]:=by simp[A]
     have z:([f].toArray.filter λe=>decide (e.born>=since))=#[]:=by simp;omega
     simp[u,z,KE,DT Z rfl,A]
    trivial
   trivial
  trivial
 trivial
theorem WT{a:Nat}:∀{ms:List MapEntry} {i:Nat},GU (ms.map (·.born)) a=ab i->∃e,ms[i]? =ab e/\ms.find? (λe=>e.born==a)=ab e
 |[],i,e=>by cases e
 |m::ms,i,e=>by
  have e:(bif ak m.born a then ab 0 else(GU (ms.map (·.born)) a).map (· +1))=ab i:=e;cases A:ak m.born a with
  |true=>
   rw[A]at e;cases e;simp_all
  |false=>
   rw[A]at e;obtain⟨j,I,e⟩:=bu.1 e;subst e;obtain⟨x,h1,h2⟩:=WT I;refine⟨x,by trivial,?_⟩
   have J:(m.born==a)=af:=by
    cases U:(m.born==a)with
    |false=>rfl
    |true=>simp_all
   grind
theorem Yb:∀(l:List Nat),Hi l=l.getLast?
 |[]=>rfl
 |a::l=>by
  have:Hi (a::l)=(match Hi l with|some b=>ab b|none=>ab a):=rfl
  rw[this,Yb l];grind
theorem ag3(Z:HR B X O w h){x v:V}{h':Heap}(e:Q6 h x=ab (v,h')){b:Value}(g:an X x ag [b]):cY P B X O w h (acU b) v h':=by
 unfold Q6 at e;split at e
 .split at e
  .rename_i c since seen last j;split at e
   .rename_i es s ck k;obtain⟨A,e⟩:=aQ e;obtain⟨a,C,e⟩:=ay.1 e;obtain⟨i,hi,e⟩:=ay.1 e;obtain⟨D,U,e⟩:=bu.1 e;cases e;have A:=b9 A;subst A;obtain⟨bi,r,m,rfl,h1,h2,h3,F,l,G,n⟩:=Oi Z j g;obtain⟨H,ms,o,p,d⟩:=Pb Z k n;cases o;rw[<-d.born]at hi;obtain⟨q,t,q2⟩:=WT hi;rw[b8]at U;obtain⟨y,f,u,z⟩:=(ml.1 d.n4).get U;rw[t]at f;cases f;have I:seen.toArray.back? =ab a:=by grind[Yb]
    have J:ms.find? (λe=>e.born==a)=ab q:=by grind
    exact .same Z (by simp[acU,lU l rfl,lU p rfl,I,J]) (aqp u z)
   trivial
  trivial
 trivial
end
theorem Tm.ahP(i:Nat):Tm.get .e i=.undef:=rfl
theorem Tm.fM(v:V)(l r:Tm)(i:Nat):Tm.get (.n v l r) i=if i=0 then v else if i%2=1 then l.get (i/2)else r.get (i/2-1):=by
 show(jt (jt (r.get (Nat.sub (mg i 2) 1)) (l.get (mg i 2)) (ak (i0 i 2) 1)) v (ak i 0):V)=_;rw[yL i 0,yL (i0 i 2) 1];by_cases h:i=0
 .simp [h]
 .by_cases h2:i%2=1
  .have:i0 i 2=1:=h2;simp[h,this,h2];rfl
  .have:¬i0 i 2=1:=h2;simp[h,this,h2];rfl
theorem Tm.arX(i:Nat)(x:V):Tm.set .e i x=.e:=rfl
theorem Tm.oB(v:V)(l r:Tm)(i:Nat)(x:V):Tm.set (.n v l r) i x=if i=0 then .n x l r else if i%2=1 then .n v (l.set (i/2) x) r else .n v l (r.set (i/2-1) x):=by
 show(jt (jt (Tm.n v l (r.set (Nat.sub (mg i 2) 1) x)) (Tm.n v (l.set (mg i 2) x) r) (ak (i0 i 2) 1)) (Tm.n x l r) (ak i 0):Tm)=_;rw[yL i 0,yL (i0 i 2) 1];by_cases h:i=0
 .simp [h]
 .by_cases h2:i%2=1
  .have:i0 i 2=1:=h2;simp[h,this,h2];rfl
  .have:¬i0 i 2=1:=h2;simp[h,this,h2];rfl
theorem Tm.VH(t:Tm):∀(i:Nat) (x:V),(t.set i x).get i=x∨(t.set i x).get i=.undef:=by
 induction t with
 |e=>exact λi x=>.inr rfl
 |n v l r A I=>
  intro i x;rw[Tm.oB];by_cases h:i=0
  .simp [h,Tm.fM]
  .by_cases h2:i%2=1
   .rw [az h,aK h2,Tm.fM,az h,aK h2];simp[A]
   simp[az,h,h2,Tm.fM,I]
theorem Tm.MV(t:Tm):∀(i j:Nat) (x:V),j≠i->(t.set i x).get j=t.get j:=by
 induction t with
 |e=>exact λi j x _=>rfl
 |n v l r A I=>
  intro i j x J;rw[Tm.oB];by_cases h:i=0
  .have U:j≠0:=by omega
   simp[aK,h,Tm.fM,az,U]
  .by_cases h2:i%2=1
   .rw [az h,aK h2,Tm.fM,Tm.fM];grind
   .rw [az h,az h2,Tm.fM,Tm.fM];grind
theorem Tm.ahQ(d i:Nat):(Tm.mk d).get i=.undef:=by
 induction d generalizing i with
 |zero=>rfl
 |succ d ih=>
  show Tm.get (.n .undef (Tm.mk d) (Tm.mk d)) i=_;rw[Tm.fM];grind
def TR(X:Cx)(t:Tm)(tmps:Array Value):Prop:=∀i,an X (t.get i) ag [tmps.getD i undef]
theorem TR.mono{n:Nat}{X Y:Cx}{t:Tm}{tmps:Array Value}(h:TR X t tmps)(I:X.lt n)(A:X.le n Y):TR Y t tmps:=λi=>an.mono A _ _ _ (an.low I _ _ _ (h i)) (h i)
theorem RR(X:Cx)(x:Value):an X .undef ag [x]:=by rfl
theorem TR.set{X:Cx}{t:Tm}{tmps:Array Value}(h:TR X t tmps){d:Nat}(A:d< tmps.size){v:V}{x:Value}(r:an X v ag [x]):TR X (t.set d v) (tmps.setIfInBounds d x):=λi=>by
 by_cases hi:i=d
 .subst hi;have:(tmps.setIfInBounds i x).getD i undef=x:=by
   simp_all
  rw[this];rcases Tm.VH t i v with e|e<;>rw[e]
  all_goals trivial
 .rw [Tm.MV t d i v hi];have:(tmps.setIfInBounds d x).getD i undef=tmps.getD i undef:=by
   rw[k0,k0,Array.getElem?_setIfInBounds,az (Ne.symm hi)]
  rw[this];exact h i
theorem TR.put{X:Cx}{t:Tm}{a:Act}(h:TR X t a.tmps){dst:Option Nat}(A:∀d,dst=ab d->d< a.tmps.size){v:V}{x:Value}(r:an X v ag [x]):TR X (putDst t dst v) (a.put dst x).tmps:=by
 cases dst<;>first|rename_i d;exact h.set (A d rfl) r|exact h
theorem anQ(a:Act)(dst:Option Nat)(x:Value):(a.put dst x).tmps.size=a.tmps.size:=by cases dst<;>simp[Act.put]
theorem anP(a:Act)(dst:Option Nat)(x:Value):(a.put dst x).defers=a.defers:=by cases dst<;>rfl
def Py:Value->Bool
 |.int k n=>aj k.min n&&aj n k.max
 |.string s=>bp s.size 9223372036854775807
 |_=>ag
def lP:Operand->Bool
 |.const v=>Py v
 |_=>ag
theorem amZ(X:Cx){c:Value}(A:Py c=ag){v:V}(e:sM c=ab v):an X v ag [c]:=by
 unfold sM at e;split at e<;>cases e
 .rfl
 .simp [Py,aM,gn,decide_eq_true_eq]at A;trivial
 .rename_i s;exact⟨s,rfl,rfl,by have:=nY A;trivial⟩
 .rfl
 .exact ⟨_,rfl,ae,0,rfl,rfl,by decide,.inl rfl⟩
 all_goals rfl
theorem o4{X:Cx}{t:Tm}{a:Act}(h:TR X t a.tmps){x:Operand}(A:lP x=ag):an X (ev t x) ag [a.eval x]:=by
 cases x with
 |tmp i=>exact h i
 |const c=>
  show an X (Option.rec V.undef (λx=>x) (sM c)) ag [c]
  cases e:sM c with
  |none=>rfl
  |some v=>exact amZ X A e
 |global g=>rfl
 |func f=>simp only[ev,Act.eval,an,bF];simp
theorem Ve(t:Tm)(l:Array Operand):dm t l=l.toList.map (ev t):=by
 unfold dm;induction l.toList with
 |nil=>rfl
 |cons a l ih=>grind
theorem MA(e:Operand->V)(ps:Array (Nat×Operand)):mv e ps=ps.toList.map λp=>(p.1,e p.2):=by
 unfold mv;induction ps.toList with
 |nil=>rfl
 |cons a l ih=>grind
theorem FU{X:Cx}{t:Tm}{a:Act}(h:TR X t a.tmps){l:Array Operand}(A:∀x∈l.toList,lP x=ag):aZ (λv x=>an X v ag [x]) (dm t l) (l.map a.eval).toList:=by
 rw[Ve,acy];generalize l.toList=l at A;induction l with
 |nil=>rfl
 |cons b l ih=>exact aZ.cons (o4 h (A b (by simp))) (ih λx I=>A x (by simp[I]))
structure Step(B:Nat)(X:Cx)(O:Nat->Addr->Prop)(w:World)(h:Heap)(X':Cx)(O':Nat->Addr->Prop)(w':World)(h':Heap):Prop where
 up:Up B X w h.length X' w'
 len:h.length<=h'.length
 fr:FR X O w h X' O' w' h'
theorem Step.refl(B:Nat)(X:Cx)(O:Nat->Addr->Prop)(w:World)(h:Heap):Step B X O w h X O w h:=⟨.refl _ _ _ _,aJ _,.refl _ _ _ _⟩
theorem Step.trans{B:Nat}{X Y Z:Cx}{O O' A:Nat->Addr->Prop}{a b c:World}{h h' I:Heap}(s:Step B X O a h Y O' b h')(t:Step B Y O' b h' Z A c I):Step B X O a h Z A c I:=
 ⟨s.up.trans (t.up.less s.len),bU s.len t.len,s.fr.trans t.fr s.up.below.size s.len⟩
def xk(P:Program)(B:Nat)(X:Cx)(O:Nat->Addr->Prop)(w:World)(h:Heap)(m:Sem Next)(v:V)(h':Heap):Prop:=
 ∃x w' X' O',(m.run P w=.ok (.value x) w'∨(m.run P w=.ok .skip w'/\x=undef))/\HR B X' O' w' h'/\an X' v ag [x]/\Step B X O w h X' O' w' h'
structure EnvB(P:Program)(E:Env):Prop extends EnvTy P E where
 jU:∀ti,E.ty E.fy.1=ab ti->∃i,P.info? E.fy.1=ab i/\i.zero=ab (.agg #[.pointer ae,.slice ae 0 0])
section
variable {P:Program} {B:Nat} {X:Cx} {O:Nat->Addr->Prop} {w:World} {h:Heap} {E:Env}
theorem cY.next{m:Sem Value}{v:V}{h':Heap}(s:cY P B X O w h m v h'):xk P B X O w h (do pure (.value (<-m))) v h':=by
 obtain⟨x,w',X',O',e,A,q2,I,q4,J⟩:=s;exact⟨x,w',X',O',.inl (by simp[e]),A,I,q2,q4,J⟩
theorem EX.next{m:Sem Unit}{h':Heap}(s:EX P B X O w h m h'):xk P B X O w h (do m;pure .skip) .undef h':=by
 obtain⟨w',X',O',e,A,q2,q4,I⟩:=s;exact⟨undef,w',X',O',.inr ⟨by simp[e],rfl⟩,A,RR _ _,q2,q4,I⟩
theorem afw(c:EnvB P E)(b:HR B X O w h){n:Nat}(d:aq h n=ae)(I:X.M n=ae)(A:n<=h.length){ti:TI}(f:E.ty E.fy.1=ab ti):
  cY P B X O w h (Ej E.fy.1 ag (.tuple #[])) (.ptr n 0 []) (aD h n (.jU E.fy.1 E.fy.2 [])):=by
 obtain⟨i,j,k⟩:=c.jU ti f;let bi:BI:=⟨0,ab ⟨w.heap.size,0,ae⟩,0,1,ag⟩;let J:Addr->Prop:=λa=>a.block=w.heap.size
 have U:BR (X.du n bi) (w.alloc (.cells #[.pointer ae,.slice ae 0 0] E.fy.1)) J n (.jU E.fy.1 E.fy.2 []):=by
  refine⟨bi,w.heap.size,Cx.eL _ _ _,rfl,rfl,rfl,.pointer ae,.slice ae 0 0,heap_alloc_new w _,.inl rfl,World.ownsRowF_nil _ _ _ _,by simp,by simp[Value.ownBlock],λa e=>e,λg e=>by trivial⟩
 refine⟨.pointer (ab ⟨w.heap.size,0,ae⟩),_,X.du n bi,_,?_,b.add d I A (.alloc _ _) (by simp) bi J _ (λa Z=>?_) U,Up.add I ((Below.refl B w).alloc b.wb _) (.alloc _ _) _ bi,?_,?_,.add I A (.alloc _ _) bi J _⟩
 .simp [Ej,zeroValue,typeInfo,j,k,newVar,newRow,tO,Value.cells]
 .have Z:a.block=w.heap.size:=Z;simp[Z]
 .exact ⟨_,rfl,⟨_,rfl⟩,bi,Cx.eL _ _ _,aJ _,λ_=>⟨_,rfl,rfl,by rfl⟩⟩
 grind[bL]
theorem afN(g:EnvB P E)(c:HR B X O w h){n:Nat}(C:aq h n=ae)(D:X.M n=ae)(o:n<=h.length){b:Builtin}{s:Array Nat}{ty:Nat}{cs:Array Bool}{xs:List V}{args:Array Value}(d:aZ (λv x=>an X v ag [x]) xs args.toList){v:V}{h':Heap}
  (e:fc E n b s xs h=ab (v,h')):xk P B X O w h (builtin b s ty cs args) v h':=by
 unfold fc at e;split at e
 .split at e
  .obtain ⟨y,r,Z,A,J⟩:=d;cases J;have U:args=#[y]:=by grind
   subst U;obtain⟨t,i,e⟩:=ay.1 e;rw[b8,Ab]at i;exact(al0 g.toEnvTy c i e A).next
  trivial
 .split at e
  .obtain ⟨y,r,Z,A,j,u,z,I,J⟩:=d;cases J;have U:args=#[y,j]:=by grind
   subst U;exact(afd g.toEnvTy c C D o e A I).next
  trivial
 .split at e
  .rename_i k a l;obtain⟨y,r,Z,A,p⟩:=d;obtain⟨A,f⟩:=A;cases A;obtain⟨m,hm,e⟩:=bu.1 e;cases e;obtain⟨q,q2⟩:=YD (w:=w) (P:=P) hm p f;refine cY.next (.same c (x:=.int k m) ?_ (by trivial))
   simp[Builtin.min_,Z,q]
  trivial
 .split at e
  .rename_i k a l;obtain⟨y,r,Z,A,p⟩:=d;obtain⟨A,f⟩:=A;cases A;obtain⟨m,hm,e⟩:=bu.1 e;cases e;obtain⟨q,q2⟩:=Ys (w:=w) (P:=P) hm p f;refine cY.next (.same c (x:=.int k m) ?_ (by trivial))
   simp[Builtin.max_,Z,q]
  trivial
 .split at e
  .obtain ⟨y,r,Z,A,J⟩:=d;cases J;have U:args=#[y]:=by grind
   subst U;obtain⟨t,i,e⟩:=ay.1 e;rw[b8,Ab]at i;exact(af3 g.toEnvTy c i e A).next
  trivial
 .split at e
  .obtain ⟨y,r,Z,A,j,u,z,I,J⟩:=d;cases J;have U:args=#[y,j]:=by grind
   subst U;exact(agD g.toEnvTy c e A I).next
  trivial
 .split at e
  .obtain ⟨y,r,Z,A,j,u,z,I,J⟩:=d;cases J;have U:args=#[y,j]:=by grind
   subst U;exact(agt g.toEnvTy c e A I).next
  trivial
 trivial
theorem H5{X:Cx}{t:Tm}{a:Act}(h:TR X t a.tmps){x:Option Operand}(A:∀y,x=ab y->lP y=ag):mV X (x.map (ev t)) (x.map a.eval):=by
 cases x<;>first|rename_i y;exact o4 h (A y rfl)|trivial
theorem ZX{X:Cx}{t:Tm}{a:Act}(h:TR X t a.tmps){ps:Array (Nat×Operand)}(A:∀p∈ps.toList,lP p.2=ag):Az X (mv (ev t) ps) (ps.map λ(i,x)=>(i,a.eval x)).toList:=by
 rw[MA,acy];generalize ps.toList=l at A;induction l with
 |nil=>rfl
 |cons p l ih=>exact aZ.cons ⟨rfl,o4 h (A p (by simp))⟩ (ih λq I=>A q (by simp[I]))
theorem wq(J:EnvB P E)(I:HR B X O w h){keep:Bool}{n:Nat}(j:aq h n=ae)(q:X.M n=ae)(U:n<=h.length){t:Tm}{a:Act}(z:TR X t a.tmps){o:Oper}(g:∀x∈o.op.operands.toList,lP x=ag){v:V}{h':Heap}
  (e:bY E keep n t h o.op=ab (v,h')):xk P B X O w h (execOp a.eval o) v h':=by
 have A:∀x,x∈o.op.operands.toList->an X (ev t x) ag [a.eval x]:=λx G=>o4 z (g x G)
 unfold execOp
 cases H:o.op<;>rw[H]at e g A<;>simp only[bY]at e<;>try(cases e;done)
 case move x=>cases e;exact⟨_,w,X,O,.inl rfl,I,A _ (by simp[bq]),.refl _ _ _ _ _⟩
 case assign x=>cases e;exact⟨_,w,X,O,.inl rfl,I,A _ (by simp[bq]),.refl _ _ _ _ _⟩
 case pick c x y=>
  have:=(anC (P:=P) I e (A c (by simp[bq])) (A x (by simp[bq])) (A y (by simp[bq]))).next
  simp_all
 case alloc ty=>
  unfold wg at e
  obtain⟨ti,C,e⟩:=ay.1 e
  obtain⟨D,e⟩:=aQ e
  obtain⟨_,_,N⟩:=kO D
  cases Z:ak ty E.fy.1 with
  |true=>
   rw[Z,au]at e;cases e
   have:=b9 Z;subst this
   exact(afw J I j q U C).next
  |false=>
   rw[Z,ax]at e;cases e
   exact(aeY I j q U (J.ty _ _ C) N).next
 case box ty x=>
  unfold mI at e
  obtain⟨ti,C,e⟩:=ay.1 e
  obtain⟨D,e⟩:=aQ e
  unfold mI.uw at e
  split at e
  .rename_i G
   cases e
   have:=A x (by simp[bq])
   rw[G]at D this
   exact(afD I j q U (kO D).2.2 this).next
  .cases e
   exact(afF I j q U (kO D).2.2 (A x (by simp[bq]))).next
 case build ty ps=>exact(afM J.toEnvTy I e (ZX z λp hp=>g p.2 (by simp[bq];grind))).next
 case buildSlice ty len ps=>exact(afK J.toEnvTy I j q U e (ZX z λp hp=>g p.2 (by simp[bq];grind))).next
 case load ty x=>exact(al5 I (λti=>J.ty _ ti) e (A x (by simp[bq]))).next
 case store ty x y=>
  obtain⟨rfl,s⟩:=ap4 (P:=P) I (λti=>J.ty _ ti) e (A x (by simp[bq])) (A y (by simp[bq]))
  exact s.next
 case nilCheck x=>
  obtain⟨rfl,rfl,S,Q⟩:=amJ e (A x (by simp[bq]))
  refine⟨a.eval x,w,X,O,.inl ?_,I,A x (by simp[bq]),.refl _ _ _ _ _⟩
  simp[Q]
 case binOp op ty x y yt=>
  cases Z:jA E op ty (isConst x||isConst y) (ev t x) (ev t y)with
  |none=>rw[Z]at e;cases e
  |some u=>
   rw[Z]at e;cases e
   exact(cY.aaf I (afs J.toEnvTy Z (A x (by simp[bq])) (A y (by simp[bq])))).next
 case unOp op ty x=>
  cases Z:wy op (ev t x)with
  |none=>rw[Z]at e;cases e
  |some u=>
   rw[Z]at e;cases e
   exact(cY.aaf I (aqv Z (A x (by simp[bq])))).next
 case convert s d x=>exact(agr J.toEnvTy I j q U e (A x (by simp[bq]))).next
 case makeInterface ty x=>exact(aiR J.toEnvTy I e (A x (by simp[bq]))).next
 case makeFunc f x y=>exact(ame I e (λo g=>A o (by simp[bq];grind)) (λo g=>A o (by simp[bq];grind))).next
 case makeSlice ty l c=>exact(ami J.toEnvTy I j q U e (A l (by simp[bq])) (A c (by simp[bq]))).next
 case slice ty x lo hi mx=>
  cases Z:tq E ty h (ev t x) (lo.map (ev t)) (hi.map (ev t)) (mx.map (ev t))with
  |none=>rw[Z]at e;cases e
  |some u=>
   rw[Z]at e;cases e
   exact(apS J.toEnvTy I Z (A x (by simp[bq])) (H5 z λy K=>g y (by grind[bq])) (H5 z λy K=>g y (by grind[bq])) (H5 z λy K=>g y (by grind[bq]))).next
 case fieldAddr ty x k=>exact(ahr J.toEnvTy I e (A x (by simp[bq]))).next
 case field ty x k=>exact(aht J.toEnvTy I e (A x (by simp[bq]))).next
 case indexAddr ty x i=>exact(aiW J.toEnvTy I e (A x (by simp[bq])) (A i (by simp[bq]))).next
 case index ty x i=>exact(aiY J.toEnvTy I e (A x (by simp[bq])) (A i (by simp[bq]))).next
 case extract x i=>
  cases Z:(ev t x).part i with
  |none=>rw[Z]at e;cases e
  |some u=>
   rw[Z]at e;cases e
   exact(ahk I Z (A x (by simp[bq]))).next
 case makeMap ty r=>exact(amg J.toEnvTy I j q U e (H5 z λy K=>g y (by grind[bq]))).next
 case lookup ty m k ok=>exact(al7 J.toEnvTy I e (A m (by simp[bq])) (A k (by simp[bq]))).next
 case mapUpdate ty m k x=>
  obtain⟨rfl,s⟩:=Yp (P:=P) J.toEnvTy I e (A m (by simp[bq])) (A k (by simp[bq])) (A x (by simp[bq]))
  exact s.next
 case insert ty m k x=>
  obtain⟨rfl,s⟩:=Yp (P:=P) J.toEnvTy I e (A m (by simp[bq])) (A k (by simp[bq])) (A x (by simp[bq]))
  exact s.next
 case typeAssert x xt ty ok=>exact(afk J.toEnvTy I e (A x (by simp[bq]))).next
 case range ty x=>exact(aoQ J.toEnvTy I j q U e (A x (by simp[bq]))).next
 case next x str=>exact(amH I e (A x (by simp[bq])) o.type).next
 case entry x=>exact(ag3 I e (A x (by simp[bq]))).next
 case call c=>
  cases L:c.callee with
  |value f=>grind
  |invoke r nm=>grind
  |builtin b=>
   rw[L]at e
   have R:=FU z (l:=c.args) (λx G=>g x (by simp_all[bq,Call.operands,L]))
   have:=afN J I j q U (ty:=o.type) (cs:=c.args.map λ|.const _=>ag|_=>af) R e
   have F:(resolve a.eval c o.type)=pure {target:=.builtin b c.argTypes o.type (c.args.map λ|.const _=>ag|_=>af),args:=c.args.map a.eval}:=by
    unfold resolve;rw[L];rfl
   simp[F,pure_bind,invoke,this]
end
end
end Go.As
end
