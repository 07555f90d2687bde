/- A part of the proof. -/
import Derived.Test.YtohdkalmpfmcmaaGreatDoorB
import Derived.Test.YtohdkalmpfmcmaaGreatDoorE1
set_option linter.all false
open Bool renaming true->ag
open Go.Addr renaming add_mid->ag5
open Go.Fence renaming wide->nj
open List renaming mem_singleton->gT
open Nat renaming beq->al,eq_of_beq_eq_true->bU,le_refl->aL
noncomputable section
namespace Go.Proofs.YtohdkalmpfmcmaaGreatDoor
section
open Go Go.As Go.Proofs Go.RowKit
def Pg(C:IV):Prop:=C ⟨0,0,none⟩=some (.iface 277 (.agg #[.pointer (some ⟨3,181,none⟩)]))
instance gh:Gh:=⟨λf nt c=>codeOk env f nt c=ag/\gY c=ag,Pg,λh e=>h _ _ e⟩
theorem Wr{t:Nat}(h:ld.tR 184001186 t=ag):t=186:=by
 have h:(al (184001186%1000000) (t+1000)&&Nat.blt 0 (184001186/1000000))=ag:=h
 rw[Bool.and_eq_true]at h
 have:=bU h.1
 omega
theorem alF{xs:List V}{h:Heap}{v:V}{h':Heap}(e:ld 184001186 xs h=some (v,h')):
  (∃b,xs=[.im .eE,.ifc 186 (.ptr b 0 [])]/\v=.im (.bool false)/\h'=h)∨
  (∃l b c,xs=[.im (.ifc 184 (.agg 2 l)),.ifc 186 (.ptr b 0 [])]/\v=.im (.bool ag)/\ar h b=some (.cell c)/\al 2 c.wd=ag/\h'=aI h b (.cell (.im (.agg 2 l)))):=by
 unfold ld at e
 split at e
 all_goals first
  |(rename_i J;exact absurd J (by decide))
  |skip
 .rename_i t b
  cases A:ld.tR 184001186 t with
  |false=>rw[A]at e;cases e
  |true=>
   rw[A]at e
   obtain rfl:=Wr A
   cases e
   exact .inl ⟨_,rfl,rfl,rfl⟩
 .rename_i u l t b
  cases A:ld.tR 184001186 t with
  |false=>rw[A]at e;cases e
  |true=>
   rw[A,Bool.true_and]at e
   obtain rfl:=Wr A
   cases I:al u (184001186/1000000)with
   |false=>rw[I]at e;cases e
   |true=>
    rw[I,ao]at e
    have I:u=184:=by have:=bU I;omega
    subst I
    split at e
    .rename_i c U
     cases hw:al c.wd 2 with
     |false=>rw[hw]at e;cases e
     |true=>
      rw[hw]at e
      cases e
      exact .inr ⟨l,b,c,rfl,rfl,U,by rw[bU hw];rfl,rfl⟩
    .cases e
 .cases e
mutual
theorem akX{C:IV}:(d:D)->{ws:List Value}->aR C d false ws->∀v∈ws,v.oneCell'=ag
 |.bool _,_,h,v,A=>by simp only[aR]at h;subst h;rw[gT.1 A];rfl
 |.int _ _,_,h,v,A=>by simp only[aR]at h;obtain⟨rfl,_⟩:=h;rw[gT.1 A];rfl
 |.str _,_,h,v,A=>by simp only[aR]at h;obtain⟨_,rfl,_⟩:=h;rw[gT.1 A];rfl
 |.nil,_,h,v,A=>by simp only[aR]at h;subst h;rw[gT.1 A];rfl
 |.ref _,_,h,v,A=>by simp only[aR]at h;obtain⟨_,_,rfl,_⟩:=h;rw[gT.1 A];rfl
 |.an _,_,h,v,A=>by simp only[aR]at h;obtain⟨_,_,_,rfl,_⟩:=h;rw[gT.1 A];rfl
 |.agg _ l,_,h,v,A=>by simp only[aR]at h;obtain⟨I,rfl,h,_⟩:=h;exact OC l h v A
 |.aH _,_,h,v,A=>by simp only[aR]at h
 |.fn _,_,h,v,A=>by simp only[aR]at h;subst h;rw[gT.1 A];rfl
 |.dD,_,h,v,A=>by simp only[aR]at h;subst h;rw[gT.1 A];rfl
 |.ifc _ _,_,h,v,A=>by simp only[aR]at h;obtain⟨_,rfl,_⟩:=h;rw[gT.1 A];rfl
 |.eE,_,h,v,A=>by simp only[aR]at h;subst h;rw[gT.1 A];rfl
 |.mN,_,h,v,A=>by simp only[aR]at h;subst h;rw[gT.1 A];rfl
theorem OC{C:IV}:(l:List D)->{I:List (List Value)}->bI C l false I->∀v∈I.flatten,v.oneCell'=ag
 |[],_,h,v,A=>by simp only[bI]at h;subst h;cases A
 |d::l,_,h,v,A=>by
  simp only[bI]at h
  obtain⟨ws,r,rfl,h1,h2⟩:=h
  rw[List.flatten_cons]at A
  rcases List.mem_append.1 A with A|A
  .exact akX d h1 v A
  .exact OC l h2 v A
end
theorem axB(b o:Nat)(c0 c1:Value)(w:World):w.setCells b o [c0,c1]=putCells w ⟨b,o,none⟩ [c0,c1] 0:=rfl
theorem ajv:Gr nj Tryz.prog 129 184001186:=by
 intro n B X O w h A xs args Z v h' e
 have H:w.cell? ⟨0,0,none⟩=some (.iface 277 (.agg #[.pointer (some ⟨3,181,none⟩)])):=A.ci.ci _ _ A.ci.gl
 obtain⟨cd,g⟩:∃c,Tryz.f129.body=some c:=Option.isSome_iff_exists.1 (by kernel_rfl)
 refine .inr ⟨129,args,rZ Tryz.func129 g (by kernel_rfl) args,?_⟩
 rcases alF e with⟨b,rfl,rfl,rfl⟩|⟨l,b,c,rfl,rfl,K,hw,rfl⟩
 .simp only[a8,aq,aR]at Z
  obtain⟨L,M,N,P,i,Q,rfl,⟨x2,d,e2⟩,rfl⟩:=Z
  cases P
  obtain rfl:args=#[.nilIface,i]:=by cases args;simp_all
  refine callsIn_wide.2 ((ajx i w).mono ?_)
  rintro e w' ⟨rfl,rfl⟩
  exact⟨X,O,A,by simp[aq,aR],Step.refl _ _ _ _ _⟩
 .simp only[a8,aq,aR]at Z
  obtain⟨L,M,N,⟨y0,R,cs,k,S,y,z,T⟩,i,Q,rfl,⟨y1,W,y2,Y,hp⟩,rfl⟩:=Z
  cases R;cases S;cases W;cases Y
  obtain⟨c0,c1,rfl⟩:∃c0 c1,cs=#[c0,c1]:=by
   rcases cs with⟨m⟩
   match m,T with
   |[a,b],_=>exact⟨a,b,rfl⟩
  have C:∀v∈[c0,c1],v.oneCell'=ag:=λv hv=>OC l z v (by rw[<-y];exact hv)
  have E:aq X (.im (.agg 2 l)) false [c0,c1]:=by
   simp only[aq,aR]
   exact⟨k,y,z,rfl⟩
  have F:lE h b 0 [] (.im (.agg 2 l))=some (aI h b (.cell (.im (.agg 2 l)))):=by
   unfold lE
   rw[K]
   show(bif al 0 0 then(bif al 2 c.wd then some (V.im (D.agg 2 l))else none).map _ else none)=_
   rw[hw];rfl
  obtain⟨a,_,_,d,o,I,_⟩:=T6 A F hp E
  subst d
  obtain⟨f,of,sp⟩:=a
  obtain rfl:sp=none:=o
  have ht:w.there f of 2:=λj hj=>by
   obtain⟨⟨u,h1⟩,h2⟩:=I j hj
   rw[ag5]at h1 h2
   exact⟨by rw[h1];rfl,h2⟩
  have p:f< w.heap.size:=by
   obtain⟨⟨u,h1⟩,_⟩:=I 0 (by simp)
   rw[ag5]at h1
   exact World.block_lt_of_cell? w _ h1
  obtain rfl:args=#[.iface 184 (.agg #[c0,c1]),.iface 186 (.pointer (some ⟨f,of,none⟩))]:=by cases args;simp_all
  refine callsIn_wide.2 ((ajw f of c0 c1 w p ht (C c0 (by simp)) (C c1 (by simp)) H).mono ?_)
  rintro e w' ⟨rfl,rfl⟩
  generalize q:((((w.alloc _).alloc _).alloc _).alloc _)=G
  have hB:Below w.heap.size w G:=by
   rw[<-q]
   exact((((Below.refl _ _).alloc (aL _) _).alloc (by simp) _).alloc (by simp;omega) _).alloc (by simp;omega) _
  have r:eJ w G:=.Ax hB
  have s:=A.keep r hB.size
  obtain⟨a,X',O',d,_,_,t,x,J,U⟩:=T6 s F hp E
  cases d
  refine⟨X',O',t,by simp[aq,aR],Step.trans ⟨Up.keep (hB.mono A.wb) r,aL _,FR.keep r⟩ ⟨x,J,U⟩⟩
theorem alH:fh (Gr nj Tryz.prog) Yq:=⟨ajv,trivial,trivial⟩
end
section
open Go Go.As Go.Proofs
theorem awl:tyT.om (LX Tryz.prog)=ag:=by kernel_rfl
theorem YN:H9.om (Df env)=ag:=by kernel_rfl
theorem ak3:Nat.blt 12 Tryz.prog.depth=ag:=by kernel_rfl
theorem arW:Tryz.prog.follows .mixedOrders=ag:=by kernel_rfl
theorem ajT:memT.om (λf _=>match H9.find f with|some fn=>fn.body.isSome|none=>false)=ag:=by kernel_rfl
theorem qD:gF nj Tryz.prog env:=als dJ.wide awl ak3 arW (λ_ _ _=>Iff.rfl) YM YN akz alH
theorem Cw:∀f t,memT.find f=some t->yG Tryz.prog f:=ajS (E:=env) YM YN ajT
end
end Go.Proofs.YtohdkalmpfmcmaaGreatDoor
end
