/- A part of the proof. -/
import Derived.Test.YtlbeeoomoojgfaaGreatDoorE2
import Derived.Test.YtlbeeoomoojgfaaGreatDoorK0
import Derived.Test.YtlbeeoomoojgfaaGreatDoorK1
import Derived.Test.YtlbeeoomoojgfaaGreatDoorK2
import Derived.Test.YtlbeeoomoojgfaaGreatDoorK3
import Derived.Test.YtlbeeoomoojgfaaGreatDoorC
import Derived.Test.YtlbeeoomoojgfaaGreatDoorN3
import Derived.ChangeSame
import Derived.ChangeVars
import Derived.JoinedOf
import Derived.RowKit
import Derived.LaidLaws
import Derived.LaidHandle
set_option linter.all false
open Go.Fence renaming wide->m6
open List renaming mem_singleton->dg,range->ts
open Option.some renaming inj->gk
noncomputable section
namespace Go.Proofs.YtlbeeoomoojgfaaGreatDoor
open Go.As
def azx:As.Claim m6 Tryz.prog memT 313:=As.Claim.more qn dU.wide (As.Claim.more qn dU.wide (As.Claim.more qn dU.wide (As.Claim.more qn dU.wide (As.Claim.zero memT) DP calls0) DP calls1) DP calls2) DP calls3
def aau:gE m6 Tryz.prog (env.ku memT 313):=qn.ku azx DP
def am1:Zj (env.ku memT 313) 100000 6 []=some (.bool true):=by kernel_rfl
def aaC:PB m6 Tryz.prog 6 [] (.bool true):=by obtain⟨c,a⟩:∃c,Tryz.f6.body=some c:=Option.isSome_iff_exists.1 (by kernel_rfl);exact⟨⟨Tryz.f6,c,Tryz.func6,a,by kernel_rfl⟩,(Ei (Rq aau dU.wide 100000) aau dU.wide am1).2⟩
def alO:As.Claim m6 Tryz.prog K6 1:=λ_ _ hf e a _=>fe.find (p:=λb l=>∀e∈l,PB m6 Tryz.prog b e.a e.r) (t:=K6) (show _/\True/\True from⟨λe a=>by cases dg.1 a;exact aaC,trivial,trivial⟩) hf e a
def aav:gE m6 Tryz.prog dO:=qn.ku alO λ_ _ hf=>fe.find (p:=λa _=>y9 Tryz.prog a) (t:=K6) (show _/\True/\True from⟨aaC.1,trivial,trivial⟩) hf
def auD(a:fO.den)(b:iT.den)(c:eN.den)(d:Ty.Ok fO a)(e:Ty.Sm few fO a):v8 m6 Tryz.prog 3 [fO.enc a,iT.enc b,eN.enc c] (.bool true):=(Ei (akq aav dU.wide) aav dU.wide (aoF.ok.data (x:=(a,(b,(c,())))) (y:=true) (avB (agy d e).1 (agy d e).2 b c) rfl)).2
section
open Go Go.As Go.ChangeShapes Go.WideShapes Go.RowKit Go.Joins
def Yu:As.iG env 16 26 fO=true:=by kernel_rfl
def Yv:As.iG env 16 3 iT=true:=by kernel_rfl
def Yw:As.iG env 16 28 eN=true:=by kernel_rfl
set_option maxRecDepth 100000 in def auC{c:Type}{enc:TypeId×Value->c}{b:World}{s:Nat}{args:Array Value}{h:List (DataW c)}{p:List MemPlace} (g:∀(i:Nat) j v,(#[26,3,28]:Array TypeId)[i]? =some j->args[i]? =some v->Value.okWide Tryz.prog b .any s j v) (hA:DataW.TrodAll enc Tryz.prog b 0 (λ_=>true) true [26,3,28] args.toList h p) (y:RK λa=>b.cell? a) {d:DataW c->Nat} (B:wa d) (z:∀f∈h,d f<=few): Calls Tryz.prog 3 args b λe r=>e=.returned (.bool true)/\Below b.heap.size b r:=by obtain⟨k,l,m,d0,d1,d2,p0,K,L,rfl,rfl,rfl,t,u,w⟩:=trodAll_three hA;obtain⟨n,F,E,D⟩:=As.YU qn.toEnvTy Yu (g 0 26 k rfl rfl) t;obtain⟨o,G,_⟩:=As.YT qn.toEnvTy Yv (g 1 3 l rfl rfl) u;obtain⟨q,H,_⟩:=As.YT qn.toEnvTy Yw (g 2 28 m rfl rfl) w;have C:As.aX (λf x=>As.aR (λp=>b.cell? p) f true [x]) [fO.enc n,iT.enc o,eN.enc q] (#[k,l,m]:Array Value).toList:=As.aX.cons F (As.aX.cons G (As.aX.cons H As.aX.nil));exact As.alE (auD n o q E (D few d B (z d0 zS))) b y C
end
section
open Go Go.As Go.ChangeShapes Go.WideShapes Go.RowKit Go.Joins
theorem avR:((ts 441).filter λa=>Tryz.prog.rowNamed a [101,114,114,111,114])=[166]:=by kernel_rfl
theorem azG:Tryz.prog.types.size=441:=by kernel_rfl
theorem own:ownKnob Tryz.prog.godebug=none:=by kernel_rfl
theorem et:Tryz.prog.globalNamed "errors.errorType"=some 0:=by kernel_rfl
def rt:(Tryz.prog.cutTypes.find? (·.1== "internal/reflectlite.rtype")).map (·.2)=some 278:=by kernel_rfl
def anM{b:World}(h:laidMetH Tryz.prog [("errors.errorType",.iface "internal/reflectlite.rtype" (.agg [.ptr (.lit (.string [101,114,114,111,114]))]))] b):RK λa=>b.cell? a:=by have i:laidMet Tryz.prog [] b/\handlesMet Tryz.prog _ b:=h;obtain⟨name,u,ty,e1,d,e,f,c⟩:=i.2 _ (dg.2 rfl);have g:name=[101,114,114,111,114]:=(gk e1).symm;subst g;obtain rfl:=gk (rt.symm.trans d);have hm:ty∈(ts 441).filter λk=>Tryz.prog.rowNamed k [101,114,114,111,114]:=List.mem_filter.2 ⟨List.mem_range.2 (by rw[<-azG];exact e),f⟩;rw[avR]at hm;obtain rfl:=dg.1 hm;(have j:typeHandle Tryz.prog 166=.pointer (some ⟨3,166,none⟩):=by kernel_rfl);rw[j]at c;show b.cell? ⟨0,0,none⟩=_;simpa using World.var?_cell et c 0
end
end Go.Proofs.YtlbeeoomoojgfaaGreatDoor
end
