/- A part of the proof. -/
import Derived.Test.YtdlceoleaifhmaaGreatDoorB
import Derived.Test.YtdlceoleaifhmaaGreatDoorE1
set_option linter.all false
open Bool renaming true->N
open Go.Addr renaming add_mid->aif
open Go.Fence renaming wide->m6
open List renaming mem_singleton->dg
open Nat renaming beq->ah,le_refl->aH
noncomputable section
namespace Go.Proofs.YtdlceoleaifhmaaGreatDoor
section
open Go Go.As Go.Proofs Go.RowKit
def RK(a:IV):=a ⟨0,0,none⟩=some (.iface 280 (.agg #[.pointer (some ⟨3,168,none⟩)]))
instance gh:Gh:=⟨λb c a=>codeOk env b c a=N/\gY a=N,RK,λh e=>h _ _ e⟩
def YX{a:Nat}(h:ln.ui 171001173 a=N):a=173:=by have h:(ah _ _&&Nat.blt 0 _)=N:=h;simp_all
def am3{g:List V}{h:Heap}{v:V}{d:Heap}(e:ln 171001173 g h=some (v,d)):(∃a,g=[.im .ez,.ifc 173 (.ptr a 0 [])]/\v=.im (.bool false)/\d=h)∨∃l a b,g=[.im (.ifc 171 (.agg 2 l)),.ifc 173 (.ptr a 0 [])]/\v=.im (.bool N)/\ao h a=some (.cell b)/\ah 2 b.wd=N/\d=aE h a (.cell (.im (.agg 2 l))):=by
 unfold ln at e;split at e;rename_i f a;cases c:ln.ui 171001173 f with|false=>grind|true=>obtain rfl:=YX c;grind
 rename_i u l f a;cases c:ln.ui 171001173 f with|false=>grind|true=>rw[c]at e;obtain rfl:=YX c;cases i:ah u (171001173/1000000)with|false=>grind|true=>have i:u=171:=zU;subst i;split at e;rename_i b j;(cases k:ah b.wd 2 with|false=>grind|true=>rw[k]at e;cases e;exact .inr ⟨l,a,b,rfl,rfl,j,zU,rfl⟩);trivial
 trivial
mutual
theorem aml{b:IV}:(c:D)->{ws:List Value}->aR b c false ws->∀v∈ws,v.oneCell'=N|.bool _,_,h,v,a=>by simp only[aR]at h;subst h;rw[dg.1 a];rfl|.int _ _,_,h,v,a=>by simp only[aR]at h;obtain⟨rfl,_⟩:=h;rw[dg.1 a];rfl|.str _,_,h,v,a=>by simp only[aR]at h;obtain⟨_,rfl,_⟩:=h;rw[dg.1 a];rfl|.nil,_,h,v,a=>by simp only[aR]at h;subst h;rw[dg.1 a];rfl|.ref _,_,h,v,a=>by simp only[aR]at h;obtain⟨_,_,rfl,_⟩:=h;rw[dg.1 a];rfl|.aw _,_,h,v,a=>by simp only[aR]at h;obtain⟨_,_,_,rfl,_⟩:=h;rw[dg.1 a];rfl|.agg _ l,_,h,v,a=>by simp only[aR]at h;obtain⟨d,rfl,h,_⟩:=h;exact Q9 l h v a|.aI _,_,h,v,a=>by simp only[aR]at h|.fn _,_,h,v,a=>by simp only[aR]at h;subst h;rw[dg.1 a];rfl|.dP,_,h,v,a=>by simp only[aR]at h;subst h;rw[dg.1 a];rfl|.ifc _ _,_,h,v,a=>by simp only[aR]at h;obtain⟨_,rfl,_⟩:=h;rw[dg.1 a];rfl|.ez,_,h,v,a=>by simp only[aR]at h;subst h;rw[dg.1 a];rfl|.mI,_,h,v,a=>by simp only[aR]at h;subst h;rw[dg.1 a];rfl
theorem Q9{c:IV}:(l:List D)->{b:List (List Value)}->bH c l false b->∀v∈b.flatten,v.oneCell'=N|[],_,h,v,a=>by simp only[bH]at h;subst h;cases a|d::l,_,h,v,a=>by simp only[bH]at h;obtain⟨ws,g,rfl,e,f⟩:=h;rw[List.flatten_cons]at a;rcases List.mem_append.1 a with a|a;exact aml d e v a;exact Q9 l f v a
end
def aAQ a b c0 c1 w:w.setCells a b [c0,c1]=putCells w ⟨a,b,none⟩ [c0,c1] 0:=rfl
def akQ:H0 m6 Tryz.prog 128 171001173:=by
 intro g d X t w h b j args i v f e;have E:=b.ci.ci _ _ b.ci.gl;obtain⟨d,H⟩:∃c,Tryz.f128.body=some c:=Option.isSome_iff_exists.1 (by rfl);refine .inr ⟨128,args,r9 Tryz.func128 H (by rfl) args,?_⟩;rcases am3 e with⟨d,rfl,rfl,rfl⟩|⟨l,d,c,rfl,rfl,F,f,rfl⟩;simp only[aX,an,aR]at i;obtain⟨C,s,B,z,k,x,rfl,⟨j,e1,g⟩,rfl⟩:=i;cases z;obtain rfl:args=#[.nilIface,k]:=by cases args;simp_all
 refine callsIn_wide.2 ((akS k w).mono ?_);rintro e y ⟨rfl,rfl⟩;exact⟨X,t,b,by rfl,Step.refl _ _ _ _ _⟩;simp only[aX,an,aR]at i;obtain⟨C,s,B,⟨G,g,cs,z,j,t,n,o⟩,k,x,rfl,⟨H,q,K,r,p⟩,rfl⟩:=i;cases g;cases j;cases q;cases r;obtain⟨c0,c1,rfl⟩:∃c0 c1,cs=#[c0,c1]:=by rcases cs with⟨m⟩;match m,o with|[a,d],_=>simp
 have o:∀v∈[c0,c1],v.oneCell'=N:=λv g=>Q9 l n v zG;have r:an X (.im (.agg 2 l)) false [c0,c1]:=by simp only[an,aR];grind
 have q:lE h d 0 [] (.im (.agg 2 l))=some (aE h d (.cell (.im (.agg 2 l)))):=by unfold lE;rw[F];show(bif ah 0 0 then(bif ah 2 c.wd then some (V.im (D.agg 2 l))else none).map _ else none)=_;simp[f]
 have⟨a,_,_,e1,d,n,_⟩:=We b q p r;subst e1;have⟨f,of,g⟩:=a;obtain rfl:g=none:=d;have d:w.there f of 2:=λi L=>by have⟨⟨u,g⟩,C⟩:=n i L;simp_all[aif,g,C]
 have G:f<w.heap.size:=by have⟨⟨u,g⟩,_⟩:=n 0 zS;rw[aif]at g;exact World.block_lt_of_cell? w _ g
 obtain rfl:args=#[.iface 171 (.agg #[c0,c1]),.iface 173 (.pointer (some ⟨f,of,none⟩))]:=zG;refine callsIn_wide.2 ((akR f of c0 c1 w G d (o c0 zS) (o c1 zS) E).mono ?_);rintro e y ⟨rfl,rfl⟩;generalize d:((((w.alloc _).alloc _).alloc _).alloc _)=s;have hB:Below w.heap.size w s:=by rw[<-d];exact((((Below.refl _ _).alloc (aH _) _).alloc zS _).alloc zP _).alloc zP _
 have j:eE w s:=.Bj hB;have d:=b.keep j hB.size;have⟨a,y,x,e1,_,_,f,g,M,K⟩:=We d q p r;cases e1;refine⟨y,x,f,by rfl,Step.trans ⟨Up.keep (hB.mono b.wb) j,aH _,FR.keep j⟩ ⟨g,M,K⟩⟩
def am5:fe (H0 m6 Tryz.prog) aaD:=⟨akQ,trivial,trivial⟩
end
section
open Go Go.As Go.Proofs
def azK:tyT.n8 (Ow Tryz.prog)=N:=by kernel_rfl
def aaY:JV.n8 (Ew env)=N:=by kernel_rfl
def amr:Nat.blt 12 Tryz.prog.depth=N:=by kernel_rfl
def ava:Tryz.prog.follows .mixedOrders=N:=by rfl
def ala:memT.n8 (λa _=>match JV.find a with|some fn=>fn.body.isSome|none=>false)=N:=by rfl
def qn:gE m6 Tryz.prog env:=amP dU.wide azK amr ava (λ_ _ _=>Iff.rfl) aaX aaY alS am5
def DP:∀f a,memT.find f=some a->y9 Tryz.prog f:=ak9 (E:=env) aaX aaY ala
end
end Go.Proofs.YtdlceoleaifhmaaGreatDoor
end
