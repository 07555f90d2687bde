/- A part of the proof. -/
import Derived.Test.YtlfolhmfdmcmiaaGreatDoorE2
import Derived.Test.YtlfolhmfdmcmiaaGreatDoorK0
import Derived.Test.YtlfolhmfdmcmiaaGreatDoorK1
import Derived.Test.YtlfolhmfdmcmiaaGreatDoorK2
import Derived.Test.YtlfolhmfdmcmiaaGreatDoorK3
import Derived.Test.YtlfolhmfdmcmiaaGreatDoorC
import Derived.Test.YtlfolhmfdmcmiaaGreatDoorN3
import Derived.ChangeSame
import Derived.ChangeVars
import Derived.JoinedOf
import Derived.RowKit
import Derived.LaidLaws
import Derived.LaidHandle
set_option linter.all false
open Go.Fence renaming wide->nr
open List renaming mem_singleton->gR,range->vo
open Option.some renaming inj->hG
noncomputable section
namespace Go.Proofs.YtlfolhmfdmcmiaaGreatDoor
open Go.As
theorem av9:As.Claim nr Tryz.prog memT 313:=
 As.Claim.more qD dM.wide (As.Claim.more qD dM.wide (As.Claim.more qD dM.wide (As.Claim.more qD dM.wide (As.Claim.zero memT) CJ calls0) CJ calls1) CJ calls2) CJ calls3
theorem Yo:gE nr Tryz.prog (env.kq memT 313):=qD.kq av9 CJ
theorem alF:W2 (env.kq memT 313) 100000 6 []=some (.bool true):=by kernel_rfl
theorem Yw:M5 nr Tryz.prog 6 [] (.bool true):=by
 obtain⟨c,A⟩:∃c,Tryz.f6.body=some c:=Option.isSome_iff_exists.1 (by kernel_rfl)
 exact⟨⟨Tryz.f6,c,Tryz.func6,A,by kernel_rfl⟩,(C4 (OY Yo dM.wide 100000) Yo dM.wide alF).2⟩
theorem aky:As.Claim nr Tryz.prog JK 1:=λ_ _ hf e he _=>fh.find (p:=λf l=>∀e∈l,M5 nr Tryz.prog f e.a e.r) (t:=JK) (show _/\True/\True from⟨λe he=>by cases gR.1 he;exact Yw,trivial,trivial⟩) hf e he
theorem Yp:gE nr Tryz.prog fk:=qD.kq aky λ_ _ hf=>fh.find (p:=λf _=>yD Tryz.prog f) (t:=JK) (show _/\True/\True from⟨Yw.1,trivial,trivial⟩) hf
theorem art(A:gx.den)(I:iT.den)(J:Ty.den (.st 8 (.cn dA (.cn dA .nl))))(U:Ty.Ok gx A)(Z:Ty.Sm few gx A):vu nr Tryz.prog 3 [gx.enc A,iT.enc I,Ty.enc (.st 8 (.cn dA (.cn dA .nl))) J] (.bool true):=
 (C4 (ai5 Yp dM.wide) Yp dM.wide (aoO.ok.data (x:=(A,(I,(J,())))) (y:=true) (asd (aft U Z).1 (aft U Z).2 I J) rfl)).2
section
open Go Go.As Go.ChangeShapes Go.WideShapes Go.RowKit Go.Joins
theorem V5:As.iL env 16 26 gx=true:=by kernel_rfl
theorem V6:As.iL env 16 3 iT=true:=by kernel_rfl
theorem V7:As.iL env 16 29 (.st 8 (.cn dA (.cn dA .nl)))=true:=by kernel_rfl
set_option maxRecDepth 100000 in
theorem ars{H:Type}{enc:TypeId×Value->H}{W:World}{base:Nat}{args:Array Value}{ds:List (DataW H)}{p:List MemPlace}
  (A:∀(j:Nat) t v,(#[26,3,29]:Array TypeId)[j]? =some t->args[j]? =some v->Value.okWide Tryz.prog W .any base t v)
  (hA:DataW.TrodAll enc Tryz.prog W 0 (λ_=>true) true [26,3,29] args.toList ds p) (g:Pr λa=>W.cell? a)
  {bk:DataW H->Nat} (I:vz bk) (h:∀d∈ds,bk d<=few):
  Calls Tryz.prog 3 args W λe i=>e=.returned (.bool true)/\Below W.heap.size W i:=by
 obtain⟨J,U,Z,d0,d1,d2,p0,s,u,rfl,rfl,rfl,k,h1,h2⟩:=trodAll_three hA
 obtain⟨b,l,m,n⟩:=As.Wy qD.toEnvTy V5 (A 0 26 J rfl rfl) k
 obtain⟨c,o,_⟩:=As.Wx qD.toEnvTy V6 (A 1 3 U rfl rfl) h1
 obtain⟨f,q,_⟩:=As.Wx qD.toEnvTy V7 (A 2 29 Z rfl rfl) h2
 have r:As.a8 (λd x=>As.aS (λp=>W.cell? p) d true [x]) [gx.enc b,iT.enc c,Ty.enc (.st 8 (.cn dA (.cn dA .nl))) f] (#[J,U,Z]:Array Value).toList:=As.a8.cons l (As.a8.cons o (As.a8.cons q As.a8.nil))
 exact As.akn (art b c f m (n few bk I (h d0 (by simp)))) W g r
end
section
open Go Go.As Go.ChangeShapes Go.WideShapes Go.RowKit Go.Joins
theorem asJ:((vo 426).filter λt=>Tryz.prog.rowNamed t [101,114,114,111,114])=[166]:=by kernel_rfl
theorem awl:Tryz.prog.types.size=426:=by kernel_rfl
theorem own:ownKnob Tryz.prog.godebug=none:=by kernel_rfl
theorem et:Tryz.prog.globalNamed "errors.errorType" =some 0:=by kernel_rfl
theorem rt:(Tryz.prog.cutTypes.find? (·.1== "internal/reflectlite.rtype")).map (·.2)=some 270:=by kernel_rfl
theorem ams{W:World}(h:laidMetH Tryz.prog [("errors.errorType",.iface "internal/reflectlite.rtype" (.agg [.ptr (.lit (.string [101,114,114,111,114]))]))] W):Pr λa=>W.cell? a:=by
 have h':laidMet Tryz.prog [] W/\handlesMet Tryz.prog _ W:=h
 obtain⟨name,u,ty,I,J,U,Z,A⟩:=h'.2 _ (gR.2 rfl)
 have b:name=[101,114,114,111,114]:=(hG I).symm
 subst b
 obtain rfl:=hG (rt.symm.trans J)
 have hm:ty∈(vo 426).filter λt=>Tryz.prog.rowNamed t [101,114,114,111,114]:=List.mem_filter.2 ⟨List.mem_range.2 (by rw[<-awl];exact U),Z⟩
 rw[asJ]at hm
 obtain rfl:=gR.1 hm
 have c:typeHandle Tryz.prog 166=.pointer (some ⟨3,166,none⟩):=by kernel_rfl
 rw[c]at A
 show W.cell? ⟨0,0,none⟩=_
 simpa using World.var?_cell et A 0
end
end Go.Proofs.YtlfolhmfdmcmiaaGreatDoor
end
