/- A part of the proof. -/
import Derived.Test.YtohdkalmpfmcmaaGreatDoorE2
import Derived.Test.YtohdkalmpfmcmaaGreatDoorK0
import Derived.Test.YtohdkalmpfmcmaaGreatDoorK1
import Derived.Test.YtohdkalmpfmcmaaGreatDoorK2
import Derived.Test.YtohdkalmpfmcmaaGreatDoorK3
import Derived.Test.YtohdkalmpfmcmaaGreatDoorC
import Derived.Test.YtohdkalmpfmcmaaGreatDoorN3
import Derived.ChangeSame
import Derived.ChangeVars
import Derived.JoinedOf
import Derived.RowKit
import Derived.LaidLaws
import Derived.LaidHandle
set_option linter.all false
open Go.Fence renaming wide->nj
open List renaming mem_singleton->gT,range->vu
open Option.some renaming inj->hH
noncomputable section
namespace Go.Proofs.YtohdkalmpfmcmaaGreatDoor
open Go.As
theorem av6:As.Claim nj Tryz.prog memT 313:=
 As.Claim.more qD dJ.wide (As.Claim.more qD dJ.wide (As.Claim.more qD dJ.wide (As.Claim.more qD dJ.wide (As.Claim.zero memT) Cw calls0) Cw calls1) Cw calls2) Cw calls3
theorem Yg:gF nj Tryz.prog (env.ks memT 313):=qD.ks av6 Cw
theorem alD:WT (env.ks memT 313) 100000 7 []=some (.bool true):=by kernel_rfl
theorem Yp:MT nj Tryz.prog 7 [] (.bool true):=by
 obtain⟨c,A⟩:∃c,Tryz.f7.body=some c:=Option.isSome_iff_exists.1 (by kernel_rfl)
 exact⟨⟨Tryz.f7,c,Tryz.func7,A,by kernel_rfl⟩,(CW (OP Yg dJ.wide 100000) Yg dJ.wide alD).2⟩
theorem akv:As.Claim nj Tryz.prog JG 1:=λ_ _ hf e he _=>fh.find (p:=λf l=>∀e∈l,MT nj Tryz.prog f e.a e.r) (t:=JG) (show _/\True/\True from⟨λe he=>by cases gT.1 he;exact Yp,trivial,trivial⟩) hf e he
theorem Yh:gF nj Tryz.prog fk:=qD.ks akv λ_ _ hf=>fh.find (p:=λf _=>yG Tryz.prog f) (t:=JG) (show _/\True/\True from⟨Yp.1,trivial,trivial⟩) hf
theorem arl(A:gy.den)(I:iT.den)(J:eQ.den)(U:Ty.Ok gy A)(Z:Ty.Sm few gy A):vD nj Tryz.prog 3 [gy.enc A,iT.enc I,eQ.enc J] (.bool true):=
 (CW (ai2 Yh dJ.wide) Yh dJ.wide (aoN.ok.data (x:=(A,(I,(J,())))) (y:=true) (awI (afp U Z).1 (afp U Z).2 I J) rfl)).2
section
open Go Go.As Go.ChangeShapes Go.WideShapes Go.RowKit Go.Joins
theorem VT:As.iJ env 16 26 gy=true:=by kernel_rfl
theorem VU:As.iJ env 16 3 iT=true:=by kernel_rfl
theorem VV:As.iJ env 16 28 eQ=true:=by kernel_rfl
set_option maxRecDepth 100000 in
theorem ark{H:Type}{enc:TypeId×Value->H}{W:World}{base:Nat}{args:Array Value}{ds:List (DataW H)}{p:List MemPlace}
  (A:∀(j:Nat) t v,(#[26,3,28]:Array TypeId)[j]? =some t->args[j]? =some v->Value.okWide Tryz.prog W .any base t v)
  (hA:DataW.TrodAll enc Tryz.prog W 0 (λ_=>true) true [26,3,28] args.toList ds p) (g:Pg λa=>W.cell? a)
  {bk:DataW H->Nat} (I:vF bk) (h:∀d∈ds,bk d<=few):
  Calls Tryz.prog 3 args W λe i=>e=.returned (.bool true)/\Below W.heap.size W i:=by
 obtain⟨J,U,Z,d0,d1,d2,p0,s,u,rfl,rfl,rfl,k,h1,h2⟩:=trodAll_three hA
 obtain⟨b,l,m,n⟩:=As.Wn qD.toEnvTy VT (A 0 26 J rfl rfl) k
 obtain⟨c,o,_⟩:=As.Wm qD.toEnvTy VU (A 1 3 U rfl rfl) h1
 obtain⟨f,q,_⟩:=As.Wm qD.toEnvTy VV (A 2 28 Z rfl rfl) h2
 have r:As.a8 (λd x=>As.aR (λp=>W.cell? p) d true [x]) [gy.enc b,iT.enc c,eQ.enc f] (#[J,U,Z]:Array Value).toList:=As.a8.cons l (As.a8.cons o (As.a8.cons q As.a8.nil))
 exact As.akk (arl b c f m (n few bk I (h d0 (by simp)))) W g r
end
section
open Go Go.As Go.ChangeShapes Go.WideShapes Go.RowKit Go.Joins
theorem asH:((vu 425).filter λt=>Tryz.prog.rowNamed t [101,114,114,111,114])=[181]:=by kernel_rfl
theorem awi:Tryz.prog.types.size=425:=by kernel_rfl
theorem own:ownKnob Tryz.prog.godebug=none:=by kernel_rfl
theorem et:Tryz.prog.globalNamed "errors.errorType" =some 0:=by kernel_rfl
theorem rt:(Tryz.prog.cutTypes.find? (·.1== "internal/reflectlite.rtype")).map (·.2)=some 277:=by kernel_rfl
theorem amq{W:World}(h:laidMetH Tryz.prog [("errors.errorType",.iface "internal/reflectlite.rtype" (.agg [.ptr (.lit (.string [101,114,114,111,114]))]))] W):Pg λa=>W.cell? a:=by
 have h':laidMet Tryz.prog [] W/\handlesMet Tryz.prog _ W:=h
 obtain⟨name,u,ty,I,J,U,Z,A⟩:=h'.2 _ (gT.2 rfl)
 have b:name=[101,114,114,111,114]:=(hH I).symm
 subst b
 obtain rfl:=hH (rt.symm.trans J)
 have hm:ty∈(vu 425).filter λt=>Tryz.prog.rowNamed t [101,114,114,111,114]:=List.mem_filter.2 ⟨List.mem_range.2 (by rw[<-awi];exact U),Z⟩
 rw[asH]at hm
 obtain rfl:=gT.1 hm
 have c:typeHandle Tryz.prog 181=.pointer (some ⟨3,181,none⟩):=by kernel_rfl
 rw[c]at A
 show W.cell? ⟨0,0,none⟩=_
 simpa using World.var?_cell et A 0
end
end Go.Proofs.YtohdkalmpfmcmaaGreatDoor
end
