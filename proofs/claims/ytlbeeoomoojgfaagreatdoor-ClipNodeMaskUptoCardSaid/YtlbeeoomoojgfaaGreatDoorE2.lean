/- A part of the proof. -/
import Derived.Test.YtlbeeoomoojgfaaGreatDoorB
import Derived.Test.YtlbeeoomoojgfaaGreatDoorE1
set_option linter.all false
open Bool renaming true->N
open Go.Addr renaming add_mid->aif
open Go.Fence renaming wide->m6
open List renaming mem_singleton->dg
open Nat renaming beq->ah,eq_of_beq_eq_true->bQ,le_refl->aH
noncomputable section
namespace Go.Proofs.YtlbeeoomoojgfaaGreatDoor
section
open Go Go.As Go.Proofs Go.RowKit
def RK(a:IV):Prop:=a ⟨0,0,none⟩=some (.iface 278 (.agg #[.pointer (some ⟨3,166,none⟩)]))
instance gh:Gh:=⟨λb c a=>codeOk env b c a=N/\gY a=N,RK,λh e=>h _ _ e⟩
def YX{a:Nat}(h:ln.ui 169001171 a=N):a=171:=by have h:(ah (169001171%1000000) (a+1000)&&Nat.blt 0 (169001171/1000000))=N:=h;rw[Bool.and_eq_true]at h;have:=bQ h.1;omega
def am3{j:List V}{h:Heap}{v:V}{f:Heap}(e:ln 169001171 j h=some (v,f)):(∃a,j=[.im .ez,.ifc 171 (.ptr a 0 [])]/\v=.im (.bool false)/\f=h)∨(∃l a c,j=[.im (.ifc 169 (.agg 2 l)),.ifc 171 (.ptr a 0 [])]/\v=.im (.bool N)/\ao h a=some (.cell c)/\ah 2 c.wd=N/\f=aE h a (.cell (.im (.agg 2 l)))):=by
 unfold ln at e;split at e;all_goals first|rename_i m;exact absurd m zC|skip
 rename_i i a;cases b:ln.ui 169001171 i with|false=>rw[b]at e;cases e|true=>rw[b]at e;obtain rfl:=YX b;cases e;exact .inl ⟨_,rfl,rfl,rfl⟩
 rename_i u l i a;cases b:ln.ui 169001171 i with|false=>rw[b]at e;cases e|true=>rw[b,Bool.true_and]at e;obtain rfl:=YX b;cases d:ah u (169001171/1000000)with|false=>rw[d]at e;cases e|true=>rw[d,ai]at e;(have d:u=169:=by have:=bQ d;omega);subst d;split at e;rename_i c k;(cases g:ah c.wd 2 with|false=>rw[g]at e;cases e|true=>rw[g]at e;cases e;exact .inr ⟨l,a,c,rfl,rfl,k,by rw[bQ g];rfl,rfl⟩);cases e
 cases e
mutual
theorem aml{b:IV}:(c:D)->{ws:List Value}->aR b c false ws->∀v∈ws,v.oneCell'=N|.bool _,_,h,v,a=>by simp only[aR]at h;subst h;rw[dg.1 a];rfl|.int _ _,_,h,v,a=>by simp only[aR]at h;obtain⟨rfl,_⟩:=h;rw[dg.1 a];rfl|.str _,_,h,v,a=>by simp only[aR]at h;obtain⟨_,rfl,_⟩:=h;rw[dg.1 a];rfl|.nil,_,h,v,a=>by simp only[aR]at h;subst h;rw[dg.1 a];rfl|.ref _,_,h,v,a=>by simp only[aR]at h;obtain⟨_,_,rfl,_⟩:=h;rw[dg.1 a];rfl|.aw _,_,h,v,a=>by simp only[aR]at h;obtain⟨_,_,_,rfl,_⟩:=h;rw[dg.1 a];rfl|.agg _ l,_,h,v,a=>by simp only[aR]at h;obtain⟨d,rfl,h,_⟩:=h;exact Q9 l h v a|.aI _,_,h,v,a=>by simp only[aR]at h|.fn _,_,h,v,a=>by simp only[aR]at h;subst h;rw[dg.1 a];rfl|.dP,_,h,v,a=>by simp only[aR]at h;subst h;rw[dg.1 a];rfl|.ifc _ _,_,h,v,a=>by simp only[aR]at h;obtain⟨_,rfl,_⟩:=h;rw[dg.1 a];rfl|.ez,_,h,v,a=>by simp only[aR]at h;subst h;rw[dg.1 a];rfl|.mI,_,h,v,a=>by simp only[aR]at h;subst h;rw[dg.1 a];rfl
theorem Q9{c:IV}:(l:List D)->{b:List (List Value)}->bH c l false b->∀v∈b.flatten,v.oneCell'=N|[],_,h,v,a=>by simp only[bH]at h;subst h;cases a|d::l,_,h,v,a=>by simp only[bH]at h;obtain⟨ws,g,rfl,e,f⟩:=h;rw[List.flatten_cons]at a;rcases List.mem_append.1 a with a|a;exact aml d e v a;exact Q9 l f v a
end
def aAQ(a b:Nat)(c0 c1:Value)(w:World):w.setCells a b [c0,c1]=putCells w ⟨a,b,none⟩ [c0,c1] 0:=rfl
def akQ:H0 m6 Tryz.prog 118 169001171:=by
 intro g d X z w h b j args i v f e;have G:w.cell? ⟨0,0,none⟩=some (.iface 278 (.agg #[.pointer (some ⟨3,166,none⟩)])):=b.ci.ci _ _ b.ci.gl;obtain⟨d,L⟩:∃c,Tryz.f118.body=some c:=Option.isSome_iff_exists.1 (by kernel_rfl);refine .inr ⟨118,args,r9 Tryz.func118 L (by kernel_rfl) args,?_⟩;rcases am3 e with⟨d,rfl,rfl,rfl⟩|⟨l,d,c,rfl,rfl,H,g,rfl⟩;simp only[aX,an,aR]at i;obtain⟨B,r,F,E,k,x,rfl,⟨j,e1,f⟩,rfl⟩:=i;cases E;obtain rfl:args=#[.nilIface,k]:=by cases args;simp_all
 refine callsIn_wide.2 ((akS k w).mono ?_);rintro e y ⟨rfl,rfl⟩;exact⟨X,z,b,by simp[an,aR],Step.refl _ _ _ _ _⟩;simp only[aX,an,aR]at i;obtain⟨B,r,F,⟨C,f,cs,z,j,s,t,n⟩,k,x,rfl,⟨E,o,K,p,q⟩,rfl⟩:=i;cases f;cases j;cases o;cases p;obtain⟨c0,c1,rfl⟩:∃c0 c1,cs=#[c0,c1]:=by rcases cs with⟨m⟩;match m,n with|[a,d],_=>exact⟨a,d,rfl⟩
 have p:∀v∈[c0,c1],v.oneCell'=N:=λv f=>Q9 l t v (by rw[<-s];exact f);have x:an X (.im (.agg 2 l)) false [c0,c1]:=by simp only[an,aR];exact⟨z,s,t,rfl⟩
 have r:lE h d 0 [] (.im (.agg 2 l))=some (aE h d (.cell (.im (.agg 2 l)))):=by unfold lE;rw[H];show(bif ah 0 0 then(bif ah 2 c.wd then some (V.im (D.agg 2 l))else none).map _ else none)=_;rw[g];rfl
 obtain⟨a,_,_,e1,d,o,_⟩:=We b r q x;subst e1;obtain⟨g,of,f⟩:=a;obtain rfl:f=none:=d;have i:w.there g of 2:=λj d=>by obtain⟨⟨u,f⟩,n⟩:=o j d;rw[aif]at f n;exact⟨by rw[f];rfl,n⟩
 have K:g<w.heap.size:=by obtain⟨⟨u,f⟩,_⟩:=o 0 zS;rw[aif]at f;exact World.block_lt_of_cell? w _ f
 obtain rfl:args=#[.iface 169 (.agg #[c0,c1]),.iface 171 (.pointer (some ⟨g,of,none⟩))]:=by cases args;simp_all
 refine callsIn_wide.2 ((akR g of c0 c1 w K i (p c0 zS) (p c1 zS) G).mono ?_);rintro e y ⟨rfl,rfl⟩;generalize d:((((w.alloc _).alloc _).alloc _).alloc _)=y;have hB:Below w.heap.size w y:=by rw[<-d];exact((((Below.refl _ _).alloc (aH _) _).alloc zS _).alloc (by simp;omega) _).alloc (by simp;omega) _
 have j:eE w y:=.Bj hB;have f:=b.keep j hB.size;obtain⟨a,C,B,e1,_,_,g,i,d,M⟩:=We f r q x;cases e1;refine⟨C,B,g,by simp[an,aR],Step.trans ⟨Up.keep (hB.mono b.wb) j,aH _,FR.keep j⟩ ⟨i,d,M⟩⟩
def am5:fe (H0 m6 Tryz.prog) aaD:=⟨akQ,trivial,trivial⟩
end
section
open Go Go.As Go.Proofs
def azK:tyT.n8 (Ow Tryz.prog)=N:=by kernel_rfl
def aaY:JV.n8 (Ew env)=N:=by kernel_rfl
def amr:Nat.blt 12 Tryz.prog.depth=N:=by kernel_rfl
def ava:Tryz.prog.follows .mixedOrders=N:=by kernel_rfl
def ala:memT.n8 (λa _=>match JV.find a with|some fn=>fn.body.isSome|none=>false)=N:=by kernel_rfl
def qn:gE m6 Tryz.prog env:=amP dU.wide azK amr ava (λ_ _ _=>Iff.rfl) aaX aaY alS am5
def DP:∀f a,memT.find f=some a->y9 Tryz.prog f:=ak9 (E:=env) aaX aaY ala
end
end Go.Proofs.YtlbeeoomoojgfaaGreatDoor
end
