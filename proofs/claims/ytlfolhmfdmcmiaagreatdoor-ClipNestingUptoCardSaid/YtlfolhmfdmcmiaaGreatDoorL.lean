/- A part of the proof. -/
import Derived.Test.YtlfolhmfdmcmiaaGreatDoorRows
import Derived.Test.YtlfolhmfdmcmiaaGreatDoorM
import Derived.Deep.DeepHandedRow
import Derived.Lib.LaidTab
import Derived.OpenShut
set_option linter.all false
open Bool renaming false->af
open List renaming mem_cons->dy
noncomputable section
namespace Go.Proofs.YtlfolhmfdmcmiaaGreatDoor
section
open Go Go.As Go.ChangeShapes Go.WideShapes Go.RowKit Go.Joins Go.ChangeAt
theorem Hf{H:Type}{d:DataW H}:∀{l:List (DataW H)},d∈l->Rows.uptoBulk d<=Rows.uptoBulkAll l
 |x::r,h=>by
  simp only[Rows.uptoBulkAll]
  rcases dy.1 h with rfl|h
  .omega
  .have:=Hf h;omega
theorem akc{H:Type}(d:DataW H):1<=Rows.uptoBulk d:=by
 cases d with
 |lit l=>cases l<;>simp[Rows.uptoBulk]
 |_=>simp[Rows.uptoBulk]
theorem WZ{H:Type}:∀(l:List (DataW H)),l.length<=Rows.uptoBulkAll l
 |[]=>Nat.zero_le _
 |x::r=>by
  have:=akc x
  have:=WZ r
  simp only[Rows.uptoBulkAll,List.length_cons];omega
theorem akb{H:Type}:vz (Rows.uptoBulk (H:=H)) where
 part:=λh=>by have:=Hf h;simp only[Rows.uptoBulk];omega
 elem:=λh=>by have:=Hf h;simp only[Rows.uptoBulk];omega
 len:=λl r=>by have:=WZ l;simp only[Rows.uptoBulk];omega
theorem avL{H:Type}{ds:List (DataW H)}(h:Rows.uptoSmall H ds=true):∀d∈ds,Rows.uptoBulk d<=few:=λd A=>by
 have h:Rows.uptoBulkAll ds<=1048576:=of_decide_eq_true h
 exact Nat.le_trans (Hf A) h
def arp:List (String×DataW Unit):=[("errors.errorType",Rows.laid_errors_errorType)]
noncomputable def Rn(I:Os):World:=
 let A:=World.holding Tryz.prog I ⟨#[],#[],[]⟩
 {A with heap:=A.heap.modify 0 λ
   |.cells _ t frozen=>.cells #[.iface 270 (.agg #[typeHandle Tryz.prog 166])] t frozen
   |o=>o}
theorem arq(A:Os)(args:Array Value):laidMetH Tryz.prog arp ((Rn A).forCall (λ_ _=>0) ⟨#[],args,[]⟩).memory:=
 laidMetH_of_parts (laidMet_nil _ _) (by kernel_rfl)
noncomputable def zeroOf(t:Nat):Value:=match(Tryz.prog.info? t).bind (·.zero)with|some z=>z|none=>.bool af
theorem awp:∀t∈Tryz.f3.params.toList,As.qq env t:=by
 rw[Tryz.params3]
 intro t A
 have A:t∈[26,3,29]:=A
 simp only[dy,List.not_mem_nil,or_false]at A
 rcases A with rfl|rfl|rfl
 .exact ⟨_,_,V5⟩
 .exact ⟨_,_,V6⟩
 .exact ⟨_,_,V7⟩
theorem reads(A:Os){H:Type}(enc:TypeId×Value->H):∃places,DataW.whole enc Tryz.prog ((Rn A).forCall (λ_ _=>0) ⟨#[],#[zeroOf 26,zeroOf 3,zeroOf 29],[]⟩).memory Tryz.f3.params.toList Rows.clipNestingSpec.vars af #[zeroOf 26,zeroOf 3,zeroOf 29].toList 16=
  some ([.agg [.lit (.int .i64 0),.lit (.int .i64 0),.agg [.lit (.int .u8 0),.lit (.int .u8 0),.lit (.int .u8 0),.lit (.int .u8 0)],.nil],.lit (.int .i64 0),.agg [.agg [.lit (.int .i64 0),.lit (.int .i64 0),.lit (.int .i64 0),.lit (.int .i64 0)],.agg [.lit (.int .i64 0),.lit (.int .i64 0),.lit (.int .i64 0),.lit (.int .i64 0)]]],[],places):=
 ⟨[],by kernel_rfl⟩
set_option maxRecDepth 100000 in
theorem law_lifted(Z:Os)(A:Z.Started)(H:Type)(enc:TypeId×Value->H)(F:Stop.Interp):
  ReturnsInHanded {} Tryz.checked Z 3 .any ((Rows.OpenSpec.upto Rows.clipNestingSpec).preRow enc Tryz.prog Tryz.f3 Rows.clipNestingUptoRow.domain af Rows.clipNestingUptoRow.laid) (((Rows.OpenSpec.upto Rows.clipNestingSpec).at F).post enc Tryz.prog Tryz.f3 af true af af):=by
 obtain⟨places,l⟩:=reads Z enc
 refine returnsInHanded_of_row (C:=Tryz.checked) (s:=Rows.OpenSpec.upto Rows.clipNestingSpec) own A (by kernel_rfl) Tryz.func3
  (witness_row_at (enc:=enc) (C:=Tryz.checked) af (Rn Z) #[zeroOf 26,zeroOf 3,zeroOf 29] rfl (by kernel_rfl) (by kernel_rfl) (by kernel_rfl)
   (OpenSpec.preRow_of_cond 16 l (by kernel_rfl) (λk m=>by cases m;kernel_rfl) (by kernel_rfl) (arq Z _))) ?_
 intro W base args ds a before J f _ U _ n _ _
 have I:∀(j:Nat) t v,Tryz.f3.params[j]? =some t->args[j]? =some v->Value.okWide Tryz.prog W .any base t v:=J
 have b:=f
 obtain⟨p,q,c,d,_⟩:=f
 have hA:DataW.TrodAll enc Tryz.prog W 0 (λ_=>true) true Tryz.f3.params.toList args.toList ds p:=c
 have i:DataW.TrodVars enc Tryz.prog W (λ_=>true) [] a q:=d
 obtain⟨rfl,rfl⟩:a=[]/\q=[]:=by
  cases a with
  |nil=>exact⟨rfl,i⟩
  |cons g r=>exact absurd i (by intro h;cases h)
 rw[Tryz.params3]at hA I
 have o:Rows.uptoSmall H ds=true:=by
  have:=U _ rfl
  simpa using this
 refine(ars I hA (ams n) akb (avL o)).mono λe w ⟨he,hw⟩=>?_
 subst he
 obtain⟨x,y,z,d0,d1,d2,p0,B,D,E,u,G,K,h1,h2⟩:=trodAll_three hA
 subst u
 exact⟨_,rfl,As.atz qD.toEnvTy b rfl rfl awp (λ_ _ _=>trodAll_mk1 (shut_bool Tryz.underlying4 true)) rfl rfl hw (ok_one (by kernel_rfl) rfl (okWide_bool_mk Tryz.underlying4 true))⟩
end
end Go.Proofs.YtlfolhmfdmcmiaaGreatDoor
end
