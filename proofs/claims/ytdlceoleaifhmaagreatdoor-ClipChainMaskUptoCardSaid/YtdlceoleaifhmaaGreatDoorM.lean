/- A part of the proof. -/
import Derived.Test.YtdlceoleaifhmaaGreatDoorE2
import Derived.Test.YtdlceoleaifhmaaGreatDoorK0
import Derived.Test.YtdlceoleaifhmaaGreatDoorK1
import Derived.Test.YtdlceoleaifhmaaGreatDoorK2
import Derived.Test.YtdlceoleaifhmaaGreatDoorK3
import Derived.Test.YtdlceoleaifhmaaGreatDoorC
import Derived.Test.YtdlceoleaifhmaaGreatDoorN3
import Derived.ChangeSame
import Derived.ChangeVars
import Derived.JoinedOf
import Derived.RowKit
import Derived.LaidLaws
import Derived.LaidHandle
set_option linter.all false
open Go.Fence renaming wide->m6
open List renaming mem_singleton->dg,range->ts
open Option.some renaming inj->gk
noncomputable section
namespace Go.Proofs.YtdlceoleaifhmaaGreatDoor
open Go.As
def azx:As.Claim m6 Tryz.prog memT 313:=As.Claim.more qn dU.wide (As.Claim.more qn dU.wide (As.Claim.more qn dU.wide (As.Claim.more qn dU.wide (As.Claim.zero memT) DP calls0) DP calls1) DP calls2) DP calls3
def aau:gE m6 Tryz.prog (env.ku memT 313):=qn.ku azx DP
def am1:Zj (env.ku memT 313) 100000 6 []=some (.bool true):=by kernel_rfl
def aaC:PB m6 Tryz.prog 6 [] (.bool true):=by obtain⟨c,a⟩:∃c,Tryz.f6.body=some c:=Option.isSome_iff_exists.1 (by kernel_rfl);exact⟨⟨Tryz.f6,c,Tryz.func6,a,by kernel_rfl⟩,(Ei (Rq aau dU.wide 100000) aau dU.wide am1).2⟩
def alO:As.Claim m6 Tryz.prog K6 1:=λ_ _ hf e a _=>fe.find (p:=λb l=>∀e∈l,PB m6 Tryz.prog b e.a e.r) (t:=K6) (show _/\True/\True from⟨λe a=>by cases dg.1 a;exact aaC,trivial,trivial⟩) hf e a
def aav:gE m6 Tryz.prog dO:=qn.ku alO λ_ _ hf=>fe.find (p:=λa _=>y9 Tryz.prog a) (t:=K6) (show _/\True/\True from⟨aaC.1,trivial,trivial⟩) hf
def auD(a:fO.den)(b:iT.den)(c:eN.den)(d:Ty.Ok fO a)(e:Ty.Sm few fO a):v8 m6 Tryz.prog 3 [fO.enc a,iT.enc b,eN.enc c] (.bool true):=(Ei (akq aav dU.wide) aav dU.wide (aFm.ok.data (x:=(a,(b,(c,())))) (y:=true) (aFO (agy d e).1 (agy d e).2 b c) rfl)).2
section
open Go Go.As Go.ChangeShapes Go.WideShapes Go.RowKit Go.Joins
def Yu:As.iG env 16 26 fO=true:=by rfl
def Yv:As.iG env 16 3 iT=true:=by rfl
def Yw:As.iG env 16 28 eN=true:=by rfl
set_option maxRecDepth 100000 in def auC{c:Type}{enc:TypeId×Value->c}{b:World}{o:Nat}{args:Array Value}{h:List (DataW c)}{p:List MemPlace} (g:∀(i:Nat) j v,(#[26,3,28])[i]? =some j->args[i]? =some v->Value.okWide Tryz.prog b .any o j v) (hA:DataW.TrodAll enc Tryz.prog b 0 (λ_=>true) true [26,3,28] args.toList h p) (t:RK λa=>b.cell? a) {d:DataW c->Nat} (w:wa d) (u:∀f∈h,d f<=few): Calls Tryz.prog 3 args b λe n=>e=.returned (.bool true)/\Below b.heap.size b n:=by obtain⟨k,l,m,d0,d1,d2,p0,K,L,rfl,rfl,rfl,q,r,s⟩:=trodAll_three hA;have⟨F,C,B,z⟩:=As.YU qn.toEnvTy Yu (g 0 26 k rfl rfl) q;have⟨G,D,_⟩:=As.YT qn.toEnvTy Yv (g 1 3 l rfl rfl) r;have⟨H,E,_⟩:=As.YT qn.toEnvTy Yw (g 2 28 m rfl rfl) s;have y:As.aX (λf x=>As.aR _ f _ [x]) _ (#[k,l,m]).toList:=As.aX.cons C (As.aX.cons D (As.aX.cons E As.aX.nil));exact As.alE (auD F G H B (z _ d w (u d0 zS))) b t y
end
section
open Go Go.As Go.ChangeShapes Go.WideShapes Go.RowKit Go.Joins
theorem avR:((ts 443).filter λa=>Tryz.prog.rowNamed a [101,114,114,111,114])=[168]:=by kernel_rfl
def azG:Tryz.prog.types.size=443:=zS
theorem own:ownKnob Tryz.prog.godebug=none:=by rfl
theorem et:Tryz.prog.globalNamed "errors.errorType"=some 0:=by rfl
def rt:(Tryz.prog.cutTypes.find? (·.1== "internal/reflectlite.rtype")).map (·.2)=some 280:=by rfl
def anM{b:World}(h:laidMetH Tryz.prog [("errors.errorType",.iface "internal/reflectlite.rtype" (.agg [.ptr (.lit (.string [101,114,114,111,114]))]))] b):RK λa=>b.cell? a:=by have g:=h;have⟨name,u,ty,e1,d,k,e,c⟩:=g.2 _ (dg.2 rfl);have f:=gk e1.symm;subst f;obtain rfl:=gk (rt.symm.trans d);have hm:ty∈(ts 443).filter λj=>Tryz.prog.rowNamed j _:=List.mem_filter.2 ⟨List.mem_range.2 zU,e⟩;rw[avR]at hm;obtain rfl:=dg.1 hm;(have i:typeHandle Tryz.prog 168=.pointer (some ⟨3,168,none⟩):=by rfl);rw[i]at c;show b.cell? _=_;simpa using World.var?_cell et c 0
end
end Go.Proofs.YtdlceoleaifhmaaGreatDoor
end
