/- A part of the proof. -/
import Derived.Test.YtohdkalmpfmcmaaGreatDoorRows
import Derived.Test.YtohdkalmpfmcmaaGreatDoorM
import Derived.Deep.DeepHandedRow
import Derived.Lib.LaidTab
import Derived.OpenShut
set_option linter.all false
open Bool renaming false->af
open List renaming mem_cons->du
noncomputable section
namespace Go.Proofs.YtohdkalmpfmcmaaGreatDoor
section
open Go Go.As Go.ChangeShapes Go.WideShapes Go.RowKit Go.Joins Go.ChangeAt
theorem Hc{H:Type}{d:DataW H}:∀{l:List (DataW H)},d∈l->Rows.uptoBulk d<=Rows.uptoBulkAll l
 |x::r,h=>by
  simp only[Rows.uptoBulkAll]
  rcases du.1 h with rfl|h
  .omega
  .have:=Hc h;omega
theorem aj9{H:Type}(d:DataW H):1<=Rows.uptoBulk d:=by
 cases d with
 |lit l=>cases l<;>simp[Rows.uptoBulk]
 |_=>simp[Rows.uptoBulk]
theorem WO{H:Type}:∀(l:List (DataW H)),l.length<=Rows.uptoBulkAll l
 |[]=>Nat.zero_le _
 |x::r=>by
  have:=aj9 x
  have:=WO r
  simp only[Rows.uptoBulkAll,List.length_cons];omega
theorem aj8{H:Type}:vF (Rows.uptoBulk (H:=H)) where
 part:=λh=>by have:=Hc h;simp only[Rows.uptoBulk];omega
 elem:=λh=>by have:=Hc h;simp only[Rows.uptoBulk];omega
 len:=λl r=>by have:=WO l;simp only[Rows.uptoBulk];omega
theorem avI{H:Type}{ds:List (DataW H)}(h:Rows.uptoSmall H ds=true):∀d∈ds,Rows.uptoBulk d<=few:=λd A=>by
 have h:Rows.uptoBulkAll ds<=1048576:=of_decide_eq_true h
 exact Nat.le_trans (Hc A) h
def ari:List (String×DataW Unit):=[("errors.errorType",Rows.laid_errors_errorType)]
noncomputable def Q8(I:Os):World:=
 let A:=World.holding Tryz.prog I ⟨#[],#[],[]⟩
 {A with heap:=A.heap.modify 0 λ
   |.cells _ t frozen=>.cells #[.iface 277 (.agg #[typeHandle Tryz.prog 181])] t frozen
   |o=>o}
theorem arj(A:Os)(args:Array Value):laidMetH Tryz.prog ari ((Q8 A).forCall (λ_ _=>0) ⟨#[],args,[]⟩).memory:=
 laidMetH_of_parts (laidMet_nil _ _) (by kernel_rfl)
noncomputable def zeroOf(t:Nat):Value:=match(Tryz.prog.info? t).bind (·.zero)with|some z=>z|none=>.bool af
theorem awm:∀t∈Tryz.f3.params.toList,As.qu env t:=by
 rw[Tryz.params3]
 intro t A
 have A:t∈[26,3,28]:=A
 simp only[du,List.not_mem_nil,or_false]at A
 rcases A with rfl|rfl|rfl
 .exact ⟨_,_,VT⟩
 .exact ⟨_,_,VU⟩
 .exact ⟨_,_,VV⟩
theorem reads(A:Os){H:Type}(enc:TypeId×Value->H):∃places,DataW.whole enc Tryz.prog ((Q8 A).forCall (λ_ _=>0) ⟨#[],#[zeroOf 26,zeroOf 3,zeroOf 28],[]⟩).memory Tryz.f3.params.toList Rows.clipWithoutPathSpec.vars af #[zeroOf 26,zeroOf 3,zeroOf 28].toList 16=
  some ([.agg [.lit (.int .i64 0),.lit (.int .i64 0),.agg [.lit (.int .u8 0),.lit (.int .u8 0),.lit (.int .u8 0),.lit (.int .u8 0)],.nil],.lit (.int .i64 0),.agg [.lit (.int .i64 0),.lit (.int .i64 0),.lit (.int .i64 0),.lit (.int .i64 0)]],[],places):=
 ⟨[],by kernel_rfl⟩
set_option maxRecDepth 100000 in
theorem law_lifted(Z:Os)(A:Z.Started)(H:Type)(enc:TypeId×Value->H)(F:Stop.Interp):
  ReturnsInHanded {} Tryz.checked Z 3 .any ((Rows.OpenSpec.upto Rows.clipWithoutPathSpec).preRow enc Tryz.prog Tryz.f3 Rows.clipWithoutPathUptoRow.domain af Rows.clipWithoutPathUptoRow.laid) (((Rows.OpenSpec.upto Rows.clipWithoutPathSpec).at F).post enc Tryz.prog Tryz.f3 af true af af):=by
 obtain⟨places,l⟩:=reads Z enc
 refine returnsInHanded_of_row (C:=Tryz.checked) (s:=Rows.OpenSpec.upto Rows.clipWithoutPathSpec) own A (by kernel_rfl) Tryz.func3
  (witness_row_at (enc:=enc) (C:=Tryz.checked) af (Q8 Z) #[zeroOf 26,zeroOf 3,zeroOf 28] rfl (by kernel_rfl) (by kernel_rfl) (by kernel_rfl)
   (OpenSpec.preRow_of_cond 16 l (by kernel_rfl) (λk m=>by cases m;kernel_rfl) (by kernel_rfl) (arj Z _))) ?_
 intro W base args ds a before J f _ U _ n _ _
 have I:∀(j:Nat) t v,Tryz.f3.params[j]? =some t->args[j]? =some v->Value.okWide Tryz.prog W .any base t v:=J
 have b:=f
 obtain⟨p,q,c,d,_⟩:=f
 have hA:DataW.TrodAll enc Tryz.prog W 0 (λ_=>true) true Tryz.f3.params.toList args.toList ds p:=c
 have i:DataW.TrodVars enc Tryz.prog W (λ_=>true) [] a q:=d
 obtain⟨rfl,rfl⟩:a=[]/\q=[]:=by
  cases a with
  |nil=>exact⟨rfl,i⟩
  |cons g r=>exact absurd i (by intro h;cases h)
 rw[Tryz.params3]at hA I
 have o:Rows.uptoSmall H ds=true:=by
  have:=U _ rfl
  simpa using this
 refine(ark I hA (amq n) aj8 (avI o)).mono λe w ⟨he,hw⟩=>?_
 subst he
 obtain⟨x,y,z,d0,d1,d2,p0,B,D,E,u,G,K,h1,h2⟩:=trodAll_three hA
 subst u
 exact⟨_,rfl,As.atx qD.toEnvTy b rfl rfl awm (λ_ _ _=>trodAll_mk1 (shut_bool Tryz.underlying4 true)) rfl rfl hw (ok_one (by kernel_rfl) rfl (okWide_bool_mk Tryz.underlying4 true))⟩
end
end Go.Proofs.YtohdkalmpfmcmaaGreatDoor
end
