/- A part of the proof. -/
import Derived.Test.YtceibfdaacdjlaaGreatDoorE2
import Derived.Test.YtceibfdaacdjlaaGreatDoorK0
import Derived.Test.YtceibfdaacdjlaaGreatDoorK1
import Derived.Test.YtceibfdaacdjlaaGreatDoorK2
import Derived.Test.YtceibfdaacdjlaaGreatDoorK3
import Derived.Test.YtceibfdaacdjlaaGreatDoorC
import Derived.Test.YtceibfdaacdjlaaGreatDoorN2
import Derived.ChangeSame
import Derived.ChangeVars
import Derived.JoinedOf
import Derived.RowKit
import Derived.LaidLaws
import Derived.LaidHandle
set_option linter.all false
open Go.Fence renaming wide->l6
open List renaming mem_singleton->gW,range->EE
open Option.some renaming inj->fu
noncomputable section
namespace Go.Proofs.YtceibfdaacdjlaaGreatDoor
open Go.As
theorem aqc:As.Claim l6 Tryz.prog memT 313:=
 As.Claim.more oZ dk.wide (As.Claim.more oZ dk.wide (As.Claim.more oZ dk.wide (As.Claim.more oZ dk.wide (As.Claim.zero memT) AR calls0) AR calls1) AR calls2) AR calls3
theorem U6:fv l6 Tryz.prog (env.jT memT 313):=oZ.jT aqc AR
theorem ahd:T4 (env.jT memT 313) 100000 5 []=some (.bool true):=by kernel_rfl
theorem Vf:K4 l6 Tryz.prog 5 [] (.bool true):=by
 obtain⟨c,A⟩:∃c,Tryz.f5.body=some c:=Option.isSome_iff_exists.1 (by kernel_rfl)
 exact⟨⟨Tryz.f5,c,Tryz.func5,A,by kernel_rfl⟩,(Bf (MC U6 dk.wide 100000) U6 dk.wide ahd).2⟩
theorem agc:As.Claim l6 Tryz.prog Hw 1:=λ_ _ hf e he _=>eG.find (p:=λf l=>∀e∈l,K4 l6 Tryz.prog f e.a e.r) (t:=Hw) (show _/\True/\True from⟨λe he=>by cases gW.1 he;exact Vf,trivial,trivial⟩) hf e he
theorem U7:fv l6 Tryz.prog iA:=oZ.jT agc λ_ _ hf=>eG.find (p:=λf _=>xe Tryz.prog f) (t:=Hw) (show _/\True/\True from⟨Vf.1,trivial,trivial⟩) hf
theorem alV(A:fp.den)(I:iT.den)(J:aT.den)(U:Ty.Ok fp A)(Z:Ty.Sm few fp A):ud l6 Tryz.prog 3 [fp.enc A,iT.enc I,aT.enc J] (.bool true):=
 (Bf (aeP U7 dk.wide) U7 dk.wide (ajB.ok.data (x:=(A,(I,(J,())))) (y:=true) (alW (abp U Z).1 (abp U Z).2 I J) rfl)).2
section
open Go Go.As Go.ChangeShapes Go.WideShapes Go.RowKit Go.Joins
theorem S8:As.gi env 16 26 fp=true:=by kernel_rfl
theorem Ta:As.gi env 16 3 iT=true:=by kernel_rfl
theorem Tc:As.gi env 16 28 aT=true:=by kernel_rfl
set_option maxRecDepth 100000 in
theorem alU{H:Type}{enc:TypeId×Value->H}{W:World}{base:Nat}{args:Array Value}{ds:List (DataW H)}{p:List MemPlace}
  (A:∀(j:Nat) t v,(#[26,3,28]:Array TypeId)[j]? =some t->args[j]? =some v->Value.okWide Tryz.prog W .any base t v)
  (hA:DataW.TrodAll enc Tryz.prog W 0 (λ_=>true) true [26,3,28] args.toList ds p) (g:MW λa=>W.cell? a)
  {bk:DataW H->Nat} (I:ue bk) (h:∀d∈ds,bk d<=few):
  Calls Tryz.prog 3 args W λe i=>e=.returned (.bool true)/\Below W.heap.size W i:=by
 obtain⟨J,U,Z,d0,d1,d2,p0,s,u,rfl,rfl,rfl,k,h1,h2⟩:=trodAll_three hA
 obtain⟨b,l,m,n⟩:=As.TD oZ.toEnvTy S8 (A 0 26 J rfl rfl) k
 obtain⟨c,o,_⟩:=As.TB oZ.toEnvTy Ta (A 1 3 U rfl rfl) h1
 obtain⟨f,q,_⟩:=As.TB oZ.toEnvTy Tc (A 2 28 Z rfl rfl) h2
 have r:As.aZ (λd x=>As.aN (λp=>W.cell? p) d true [x]) [fp.enc b,iT.enc c,aT.enc f] (#[J,U,Z]:Array Value).toList:=As.aZ.cons l (As.aZ.cons o (As.aZ.cons q As.aZ.nil))
 exact As.af2 (alV b c f m (n few bk I (h d0 (by simp)))) W g r
end
section
open Go Go.As Go.ChangeShapes Go.WideShapes Go.RowKit Go.Joins
theorem am5:((EE 431).filter λt=>Tryz.prog.rowNamed t [101,114,114,111,114])=[205]:=by kernel_rfl
theorem aqm:Tryz.prog.types.size=431:=by kernel_rfl
theorem own:ownKnob Tryz.prog.godebug=none:=by kernel_rfl
theorem et:Tryz.prog.globalNamed "errors.errorType" =some 0:=by kernel_rfl
theorem rt:(Tryz.prog.cutTypes.find? (·.1== "internal/reflectlite.rtype")).map (·.2)=some 295:=by kernel_rfl
theorem ah0{W:World}(h:laidMetH Tryz.prog [("errors.errorType",.iface "internal/reflectlite.rtype" (.agg [.ptr (.lit (.string [101,114,114,111,114]))]))] W):MW λa=>W.cell? a:=by
 have h':laidMet Tryz.prog [] W/\handlesMet Tryz.prog _ W:=h
 obtain⟨name,u,ty,I,J,U,Z,A⟩:=h'.2 _ (gW.2 rfl)
 have b:name=[101,114,114,111,114]:=(fu I).symm
 subst b
 obtain rfl:=fu (rt.symm.trans J)
 have hm:ty∈(EE 431).filter λt=>Tryz.prog.rowNamed t [101,114,114,111,114]:=List.mem_filter.2 ⟨List.mem_range.2 (by rw[<-aqm];exact U),Z⟩
 rw[am5]at hm
 obtain rfl:=gW.1 hm
 have c:typeHandle Tryz.prog 205=.pointer (some ⟨3,205,none⟩):=by kernel_rfl
 rw[c]at A
 show W.cell? ⟨0,0,none⟩=_
 simpa using World.var?_cell et A 0
end
end Go.Proofs.YtceibfdaacdjlaaGreatDoor
end
