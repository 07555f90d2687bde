/- A part of the proof. -/
import Derived.Test.YtceibfdaacdjlaaGreatDoorB
import Derived.Test.YtceibfdaacdjlaaGreatDoorE1
set_option linter.all false
open Bool renaming true->ag
open Go.Addr renaming add_mid->acK
open Go.Fence renaming wide->l6
open List renaming mem_singleton->gW
open Nat renaming beq->ak,eq_of_beq_eq_true->bR,le_refl->aJ
noncomputable section
namespace Go.Proofs.YtceibfdaacdjlaaGreatDoor
section
open Go Go.As Go.Proofs Go.RowKit
def MW(C:IV):Prop:=C ⟨0,0,none⟩=some (.iface 295 (.agg #[.pointer (some ⟨3,205,none⟩)]))
instance gh:Gh:=⟨λf nt c=>codeOk env f nt c=ag/\gq c=ag,MW,λh e=>h _ _ e⟩
theorem TG{t:Nat}(h:gI.rX 208001210 t=ag):t=210:=by
 have h:(ak (208001210%1000000) (t+1000)&&Nat.blt 0 (208001210/1000000))=ag:=h
 rw[Bool.and_eq_true]at h
 have:=bR h.1
 omega
theorem ahg{xs:List V}{h:Heap}{v:V}{h':Heap}(e:gI 208001210 xs h=some (v,h')):
  (∃b,xs=[.im .dn,.ifc 210 (.ptr b 0 [])]/\v=.im (.bool false)/\h'=h)∨
  (∃l b c,xs=[.im (.ifc 208 (.agg 2 l)),.ifc 210 (.ptr b 0 [])]/\v=.im (.bool ag)/\aq h b=some (.cell c)/\ak 2 c.wd=ag/\h'=aD h b (.cell (.im (.agg 2 l)))):=by
 unfold gI at e
 split at e
 all_goals first
  |(rename_i J;exact absurd J (by decide))
  |skip
 .rename_i t b
  cases A:gI.rX 208001210 t with
  |false=>rw[A]at e;cases e
  |true=>
   rw[A]at e
   obtain rfl:=TG A
   cases e
   exact .inl ⟨_,rfl,rfl,rfl⟩
 .rename_i u l t b
  cases A:gI.rX 208001210 t with
  |false=>rw[A]at e;cases e
  |true=>
   rw[A,Bool.true_and]at e
   obtain rfl:=TG A
   cases I:ak u (208001210/1000000)with
   |false=>rw[I]at e;cases e
   |true=>
    rw[I,au]at e
    have I:u=208:=by have:=bR I;omega
    subst I
    split at e
    .rename_i c U
     cases hw:ak c.wd 2 with
     |false=>rw[hw]at e;cases e
     |true=>
      rw[hw]at e
      cases e
      exact .inr ⟨l,b,c,rfl,rfl,U,by rw[bR hw];rfl,rfl⟩
    .cases e
 .cases e
mutual
theorem agy{C:IV}:(d:D)->{ws:List Value}->aN C d false ws->∀v∈ws,v.oneCell'=ag
 |.bool _,_,h,v,A=>by simp only[aN]at h;subst h;rw[gW.1 A];rfl
 |.int _ _,_,h,v,A=>by simp only[aN]at h;obtain⟨rfl,_⟩:=h;rw[gW.1 A];rfl
 |.str _,_,h,v,A=>by simp only[aN]at h;obtain⟨_,rfl,_⟩:=h;rw[gW.1 A];rfl
 |.nil,_,h,v,A=>by simp only[aN]at h;subst h;rw[gW.1 A];rfl
 |.ref _,_,h,v,A=>by simp only[aN]at h;obtain⟨_,_,rfl,_⟩:=h;rw[gW.1 A];rfl
 |.ar _,_,h,v,A=>by simp only[aN]at h;obtain⟨_,_,_,rfl,_⟩:=h;rw[gW.1 A];rfl
 |.agg _ l,_,h,v,A=>by simp only[aN]at h;obtain⟨I,rfl,h,_⟩:=h;exact Mo l h v A
 |.aG _,_,h,v,A=>by simp only[aN]at h
 |.fn _,_,h,v,A=>by simp only[aN]at h;subst h;rw[gW.1 A];rfl
 |.eR,_,h,v,A=>by simp only[aN]at h;subst h;rw[gW.1 A];rfl
 |.ifc _ _,_,h,v,A=>by simp only[aN]at h;obtain⟨_,rfl,_⟩:=h;rw[gW.1 A];rfl
 |.dn,_,h,v,A=>by simp only[aN]at h;subst h;rw[gW.1 A];rfl
 |.g8,_,h,v,A=>by simp only[aN]at h;subst h;rw[gW.1 A];rfl
theorem Mo{C:IV}:(l:List D)->{I:List (List Value)}->bw C l false I->∀v∈I.flatten,v.oneCell'=ag
 |[],_,h,v,A=>by simp only[bw]at h;subst h;cases A
 |d::l,_,h,v,A=>by
  simp only[bw]at h
  obtain⟨ws,r,rfl,h1,h2⟩:=h
  rw[List.flatten_cons]at A
  rcases List.mem_append.1 A with A|A
  .exact agy d h1 v A
  .exact Mo l h2 v A
end
theorem arY(b o:Nat)(c0 c1:Value)(w:World):w.setCells b o [c0,c1]=putCells w ⟨b,o,none⟩ [c0,c1] 0:=rfl
theorem afg:ET l6 Tryz.prog 161 208001210:=by
 intro n B X O w h A xs args Z v h' e
 have G:w.cell? ⟨0,0,none⟩=some (.iface 295 (.agg #[.pointer (some ⟨3,205,none⟩)])):=A.ci.ci _ _ A.ci.gl
 obtain⟨cd,g⟩:∃c,Tryz.f161.body=some c:=Option.isSome_iff_exists.1 (by kernel_rfl)
 refine .inr ⟨161,args,ql Tryz.func161 g (by kernel_rfl) args,?_⟩
 rcases ahg e with⟨b,rfl,rfl,rfl⟩|⟨l,b,c,rfl,rfl,H,hw,rfl⟩
 .simp only[aZ,an,aN]at Z
  obtain⟨K,L,M,N,i,P,rfl,⟨x2,d,e2⟩,rfl⟩:=Z
  cases N
  obtain rfl:args=#[.nilIface,i]:=by cases args;simp_all
  refine callsIn_wide.2 ((afi i w).mono ?_)
  rintro e w' ⟨rfl,rfl⟩
  exact⟨X,O,A,by simp[an,aN],Step.refl _ _ _ _ _⟩
 .simp only[aZ,an,aN]at Z
  obtain⟨K,L,M,⟨y0,Q,cs,k,R,q2,y,q4⟩,i,P,rfl,⟨y1,S,y2,q6,hp⟩,rfl⟩:=Z
  cases Q;cases R;cases S;cases q6
  obtain⟨c0,c1,rfl⟩:∃c0 c1,cs=#[c0,c1]:=by
   rcases cs with⟨m⟩
   match m,q4 with
   |[a,b],_=>exact⟨a,b,rfl⟩
  have z:∀v∈[c0,c1],v.oneCell'=ag:=λv T=>Mo l y v (by rw[<-q2];exact T)
  have C:an X (.im (.agg 2 l)) false [c0,c1]:=by
   simp only[an,aN]
   exact⟨k,q2,y,rfl⟩
  have E:jJ h b 0 [] (.im (.agg 2 l))=some (aD h b (.cell (.im (.agg 2 l)))):=by
   unfold jJ
   rw[H]
   show(bif ak 0 0 then(bif ak 2 c.wd then some (V.im (D.agg 2 l))else none).map _ else none)=_
   rw[hw];rfl
  obtain⟨a,_,_,d,o,I,_⟩:=Ru A E hp C
  subst d
  obtain⟨f,of,sp⟩:=a
  obtain rfl:sp=none:=o
  have W:w.there f of 2:=λj Y=>by
   obtain⟨⟨u,h1⟩,h2⟩:=I j Y
   rw[acK]at h1 h2
   exact⟨by rw[h1];rfl,h2⟩
  have p:f< w.heap.size:=by
   obtain⟨⟨u,h1⟩,_⟩:=I 0 (by simp)
   rw[acK]at h1
   exact World.block_lt_of_cell? w _ h1
  obtain rfl:args=#[.iface 208 (.agg #[c0,c1]),.iface 210 (.pointer (some ⟨f,of,none⟩))]:=by cases args;simp_all
  refine callsIn_wide.2 ((afh f of c0 c1 w p W (z c0 (by simp)) (z c1 (by simp)) G).mono ?_)
  rintro e w' ⟨rfl,rfl⟩
  generalize q:((((w.alloc _).alloc _).alloc _).alloc _)=F
  have hB:Below w.heap.size w F:=by
   rw[<-q]
   exact((((Below.refl _ _).alloc (aJ _) _).alloc (by simp) _).alloc (by simp;omega) _).alloc (by simp;omega) _
  have r:dP w F:=.vt hB
  have s:=A.keep r hB.size
  obtain⟨a,X',O',d,_,_,t,x,J,U⟩:=Ru s E hp C
  cases d
  refine⟨X',O',t,by simp[an,aN],Step.trans ⟨Up.keep (hB.mono A.wb) r,aJ _,FR.keep r⟩ ⟨x,J,U⟩⟩
theorem ahi:eG (ET l6 Tryz.prog) Vg:=⟨afg,trivial,trivial⟩
end
section
open Go Go.As Go.Proofs
theorem aqt:RO.lz (Kb Tryz.prog)=ag:=by kernel_rfl
theorem VB:Gf.lz (Bw env)=ag:=by kernel_rfl
theorem agE:Nat.blt 12 Tryz.prog.depth=ag:=by kernel_rfl
theorem amq:Tryz.prog.follows .mixedOrders=ag:=by kernel_rfl
theorem afG:(RO.find 999999).isNone=ag:=by kernel_rfl
theorem amm:YC.lz (YA Tryz.prog)=ag:=by kernel_rfl
theorem afz:memT.lz (λf _=>match Gf.find f with|some fn=>fn.body.isSome|none=>false)=ag:=by kernel_rfl
theorem oZ:fv l6 Tryz.prog env:=ag4 dk.wide aqt agE afG amq (λ_ _ _=>Iff.rfl) VA VB amm agf ahi
theorem AR:∀f t,memT.find f=some t->xe Tryz.prog f:=afy (E:=env) VA VB afz
end
end Go.Proofs.YtceibfdaacdjlaaGreatDoor
end
