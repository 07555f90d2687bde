/- A part of the proof. -/
import Derived.Test.YtdlceoleaifhmaaGreatDoorRows
import Derived.Test.YtdlceoleaifhmaaGreatDoorM
import Derived.Deep.DeepHandedRow
import Derived.Lib.LaidTab
import Derived.OpenShut
set_option linter.all false
open Bool renaming false->Y
open List renaming mem_cons->dM
noncomputable section
namespace Go.Proofs.YtdlceoleaifhmaaGreatDoor
section
open Go Go.As Go.ChangeShapes Go.WideShapes Go.RowKit Go.Joins Go.ChangeAt
theorem IZ{a:Type}{b:DataW a}:∀{l:List (DataW a)},b∈l->Rows.uptoBulk b<=Rows.uptoBulkAll l|x::c,h=>by simp only[Rows.uptoBulkAll];rcases dM.1 h with rfl|h;omega;have:=IZ h;omega
theorem alr{a:Type}(d:DataW a):1<=Rows.uptoBulk d:=by cases d with|lit l=>cases l<;>simp[Rows.uptoBulk]|_=>simp[Rows.uptoBulk]
theorem Zh{a:Type}:∀(l:List (DataW a)),l.length<=Rows.uptoBulkAll l|[]=>Nat.zero_le _|x::b=>by have:=alr x;have:=Zh b;simp only[Rows.uptoBulkAll,List.length_cons];omega
theorem alq{H:Type}:wa (Rows.uptoBulk (H:=H))where part:=λh=>(by have:=IZ h;simp only[Rows.uptoBulk];omega);elem:=λh=>(by have:=IZ h;simp only[Rows.uptoBulk];omega);len:=λl a=>by have:=Zh l;simp only[Rows.uptoBulk];omega
theorem ay4{b:Type}{a:List (DataW b)}(h:Rows.uptoSmall b a=true):∀c∈a,Rows.uptoBulk c<=few:=λc d=>by have h:Rows.uptoBulkAll a<=1048576:=of_decide_eq_true h;exact Nat.le_trans (IZ d) h
def auA:List (String×DataW Unit):=[("errors.errorType",Rows.laid_errors_errorType)]
noncomputable def S9(c:Os):World:=let a:=World.holding Tryz.prog c ⟨#[],#[],[]⟩;{a with heap:=a.heap.modify 0 λ|.cells _ d frozen=>.cells #[.iface 280 (.agg #[typeHandle Tryz.prog 168])] d frozen|b=>b}
theorem auB(a:Os)(args:Array Value):laidMetH Tryz.prog auA ((S9 a).forCall (λ_ _=>0) ⟨#[],args,[]⟩).memory:=laidMetH_of_parts (laidMet_nil _ _) (by kernel_rfl)
noncomputable def zeroOf(a:Nat):Value:=match(Tryz.prog.info? a).bind (·.zero)with|some z=>z|none=>.bool Y
theorem azL:∀t∈Tryz.f3.params.toList,As.qh env t:=by rw[Tryz.params3];intro t a;have a:t∈[26,3,28]:=a;simp only[dM,List.not_mem_nil,or_false]at a;rcases a with rfl|rfl|rfl;exact⟨_,_,Yu⟩;exact⟨_,_,Yv⟩;exact⟨_,_,Yw⟩
theorem reads(b:Os){a:Type}(enc:TypeId×Value->a):∃places,DataW.whole enc Tryz.prog ((S9 b).forCall (λ_ _=>0) ⟨#[],#[zeroOf 26,zeroOf 3,zeroOf 28],[]⟩).memory Tryz.f3.params.toList Rows.clipChainMaskSpec.vars Y #[zeroOf 26,zeroOf 3,zeroOf 28].toList 16=some ([.agg [.lit (.int .i64 0),.lit (.int .i64 0),.agg [.lit (.int .u8 0),.lit (.int .u8 0),.lit (.int .u8 0),.lit (.int .u8 0)],.nil],.lit (.int .i64 0),.agg [.lit (.int .i64 0),.lit (.int .i64 0),.lit (.int .i64 0),.lit (.int .i64 0)]],[],places):=⟨[],by kernel_rfl⟩
set_option maxRecDepth 100000 in theorem law_lifted(a:Os)(G:a.Started)(d:Type)(enc:TypeId×Value->d)(m:Stop.Interp): ReturnsInHanded {} Tryz.checked a 3 .any ((Rows.OpenSpec.upto Rows.clipChainMaskSpec).preRow enc Tryz.prog Tryz.f3 Rows.clipChainMaskUptoRow.domain Y Rows.clipChainMaskUptoRow.laid) (((Rows.OpenSpec.upto Rows.clipChainMaskSpec).at m).post enc Tryz.prog Tryz.f3 Y true Y Y):=by
 have⟨places,F⟩:=reads a enc;refine returnsInHanded_of_row (C:=Tryz.checked) (s:=Rows.OpenSpec.upto Rows.clipChainMaskSpec) own G (by kernel_rfl) Tryz.func3 (witness_row_at (enc:=enc) (C:=Tryz.checked) Y (S9 a) #[zeroOf 26,zeroOf 3,zeroOf 28] rfl (by kernel_rfl) (by kernel_rfl) (by kernel_rfl) (OpenSpec.preRow_of_cond 16 F (by kernel_rfl) (λb z=>by cases z;kernel_rfl) (by kernel_rfl) (auB a _))) ?_;intro b n args f c before D i _ x _ r _ _;have j:∀(k:Nat) l v,Tryz.f3.params[k]? =some l->args[k]? =some v->Value.okWide Tryz.prog b .any n l v:=D;have u:=i;have⟨p,q,o,t,_⟩:=i;have hA:DataW.TrodAll enc Tryz.prog b 0 (λ_=>true) true Tryz.f3.params.toList args.toList f p:=o;have g:DataW.TrodVars enc Tryz.prog b (λ_=>true) [] c q:=t;obtain⟨rfl,rfl⟩:c=[]/\q=[]:=by cases c with|nil=>exact⟨rfl,g⟩|cons K a=>exact absurd g (by intro h;cases h)
 rw[Tryz.params3]at hA j;have B:Rows.uptoSmall d f=true:=by have:=x _ rfl;simpa using this
 refine(auC j hA (anM r) alq (ay4 B)).mono λe H ⟨y,E⟩=>?_;subst y;have⟨d,f,g,d0,d1,d2,p0,b,c,P,w,a,L,M,O⟩:=trodAll_three hA;subst w;exact⟨_,rfl,As.awH qn.toEnvTy u rfl rfl azL (λ_ _ _=>trodAll_mk1 (shut_bool Tryz.underlying4 true)) rfl rfl E (ok_one (by kernel_rfl) rfl (okWide_bool_mk Tryz.underlying4 true))⟩
end
end Go.Proofs.YtdlceoleaifhmaaGreatDoor
end
