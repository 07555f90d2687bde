/- A part of the proof. -/
import Derived.Test.YtdlceoleaifhmaaGreatDoorChecked
import Derived.WalkKit
import Derived.LaidEql
import Derived.Stop.Asserts
import Derived.RowKitTokens
import Derived.Deep.MidRow
set_option linter.all false
open Functor renaming map->aie
open Go.IntKind renaming u8->aiv
open Go.Result renaming andThen->CR
open Go.Sem renaming run_bind->kj
open Go.Value renaming int->aiD
open Go.World renaming cell?_alloc_at->aiE,cell?_alloc_lt->yS,frozen?_alloc_old->Pe
open Option renaming none->U,some->I
noncomputable section
namespace Go.Proofs.YtdlceoleaifhmaaGreatDoor
section
open Go Go.Proofs Go.RowKit Go.Extern.Stop Go.Stop Go.Extern
def akS a w:Calls Tryz.prog 128 #[.nilIface,a] w λe b=>e=.returned (.bool false)/\b=w:=by go_wp2;go_ret;trivial
def aki a w:(ReflectliteValue.unpack (.iface 173 (.pointer (I a)))).run Tryz.prog w=.ok (.agg #[.pointer (I ⟨3,173,U⟩),.pointer (I ⟨w.heap.size,0,U⟩),.int .u64 150]) (w.alloc (.cells #[.pointer (I a)] 173)):=by kernel_rfl
def akf a w:(ReflectliteValue.methodAny (ReflectliteValue.valueError "reflectlite.Value.Type" 0) (λb _ _ _=>ReflectliteType.toType b) #[.agg #[.pointer (some ⟨3,173,none⟩),.pointer (some a),.int .u64 150]]).run Tryz.prog w=.ok (.iface 280 (.agg #[.pointer (I ⟨3,173,U⟩)])) w:=by rfl
def aka h w:(Go.method 543 280 (.agg #[h]) "Kind").run Tryz.prog w=.ok (459,h) w:=by kernel_rfl
def aj6 w:((ReflectliteType.abiMethod λb=>aie (λa:Nat=>aiD aiv (a)) (Rtype.kind b)) #[.pointer (I ⟨3,173,U⟩)]).run Tryz.prog w=.ok (.int .u8 22) w:=by kernel_rfl
def aj5 w:((ReflectliteType.abiMethod λb=>aie (λa:Nat=>aiD aiv (a)) (Rtype.kind b)) #[.pointer (I ⟨3,171,U⟩)]).run Tryz.prog w=.ok (.int .u8 25) w:=by kernel_rfl
theorem rlm z b v:
  ReflectliteValue.method z b #[v]=(do match<-ReflectliteValue.parts v with|none=>z|some (d,a,c)=>b d a c (c%32)):=rfl
theorem Ya a w:(ReflectliteValue.parts (.agg #[.pointer (I ⟨3,173,U⟩),.pointer (I a),.int .u64 150])).run Tryz.prog w=.ok (I (173,a,150)) w:=by kernel_rfl
def aj4 a p b(c:b.cell? a=I (.pointer (I p))):(ReflectliteValue.method (ReflectliteValue.valueError "reflectlite.Value.IsNil" 0) ReflectliteValue.isNil #[.agg #[.pointer (some ⟨3,173,none⟩),.pointer (some a),.int .u64 150]]).run Tryz.prog b=.ok (.bool false) b:=by rw[rlm];simp[kj,Ya];simp[ReflectliteValue.isNil,loadVar,isAgg,underlying,c]
def aj8 h w:(Go.method 543 280 (.agg #[h]) "Elem").run Tryz.prog w=.ok (470,.agg #[h]) w:=by kernel_rfl
def aj9 h w:(Go.method 543 280 (.agg #[h]) "Implements").run Tryz.prog w=.ok (471,.agg #[h]) w:=by kernel_rfl
def aj7 h w:(Go.method 543 280 (.agg #[h]) "AssignableTo").run Tryz.prog w=.ok (468,.agg #[h]) w:=by kernel_rfl
def aj0 w:(ReflectliteType.method ReflectliteType.elem #[.agg #[.pointer (I ⟨3,173,U⟩)]]).run Tryz.prog w=.ok (.iface 280 (.agg #[.pointer (I ⟨3,171,U⟩)])) w:=by kernel_rfl
def aj3 w:(ReflectliteType.relation "Implements" ReflectliteType.implements_ #[.agg #[.pointer (some ⟨3,171,none⟩)],.iface 280 (.agg #[.pointer (some ⟨3,168,none⟩)])]).run Tryz.prog w=.ok (.bool true) w:=by kernel_rfl
def akg v w:(ReflectliteType.typeOf #[.iface 171 v]).run Tryz.prog w=.ok (.iface 280 (.agg #[.pointer (I ⟨3,171,U⟩)])) w:=by rfl
def ajY w:(ReflectliteType.relation "AssignableTo" ReflectliteType.assignableTo #[.agg #[.pointer (some ⟨3,171,none⟩)],.iface 280 (.agg #[.pointer (some ⟨3,171,none⟩)])]).run Tryz.prog w=.ok (.bool true) w:=by kernel_rfl
def akh c0 c1 w:(ReflectliteValue.unpack (.iface 171 (.agg #[c0,c1]))).run Tryz.prog w=.ok (.agg #[.pointer (I ⟨3,171,U⟩),.pointer (I ⟨w.heap.size,0,U⟩),.int .u64 153]) (w.alloc (.cells #[c0,c1] 171)):=by kernel_rfl
theorem aj1 w:(Rtype.elem? 173).run Tryz.prog w=.ok (I 171) w:=by kernel_rfl
theorem akb p w:(ReflectliteValue.mk 171 p ReflectliteValue.flagAddr).run Tryz.prog w=.ok (.agg #[.pointer (I ⟨3,171,U⟩),.pointer (I p),.int .u64 409]) w:=by kernel_rfl
def aj2(a p:Addr)(b:World)(c:b.cell? a=I (.pointer (I p))):(ReflectliteValue.method (ReflectliteValue.valueError "reflectlite.Value.Elem" 0) ReflectliteValue.elem #[.agg #[.pointer (some ⟨3,173,none⟩),.pointer (some a),.int .u64 150]]).run Tryz.prog b=.ok (.agg #[.pointer (I ⟨3,171,U⟩),.pointer (I p),.int .u64 409]) b:=by rw[rlm];simp only[kj,Ya,CR];simp[ReflectliteValue.elem,loadVar,isAgg,underlying,c,CR,aj1,akb]
theorem rls v x:ReflectliteValue.set #[v,x]=(do
  let(I (dst,a,c),I (src,b,_)):=(<-ReflectliteValue.parts v,<-ReflectliteValue.parts x)
   |unsupported (.noEntry "extern/(internal/reflectlite.Value).Set.zeroValue")
  if c/ReflectliteValue.flagAddr%2==0 then unsupported (.noEntry "extern/(internal/reflectlite.Value).Set.unaddressable")
  let val<-loadVar src b
  if<-Rtype.directlyAssignable dst src then storeVar dst a val
  else if<-Rtype.implements dst src then
   if(<-Rtype.kind src)==20 then
    match val with
    |.nilIface=>unsupported (.noEntry "extern/reflectlite: a nil value of one interface type handed on as a value of another")
    |_=>storeVar dst a val
   else storeVar dst a (.iface src val)
  else panicString ("reflectlite.Set: value of type "++(←Rtype.spelt src)++ " is not assignable to type "++(←Rtype.spelt dst))
  pure (.tuple #[])):=rfl
theorem akd a w:(ReflectliteValue.parts (.agg #[.pointer (I ⟨3,171,U⟩),.pointer (I a),.int .u64 409])).run Tryz.prog w=.ok (I (171,a,409)) w:=by kernel_rfl
theorem akc a w:(ReflectliteValue.parts (.agg #[.pointer (I ⟨3,171,U⟩),.pointer (I a),.int .u64 153])).run Tryz.prog w=.ok (I (171,a,153)) w:=by kernel_rfl
theorem ajZ w:(Rtype.directlyAssignable 171 171).run Tryz.prog w=.ok true w:=by rfl
def aAo w:(sizeOf 171).run Tryz.prog w=.ok 2 w:=by simp
def ake(b c d:Nat)(c0 c1:Value)(a:World)(h:a.rangeAt d 0 [c0,c1])(i:a.there b c 2)(f:c0.oneCell'=true)(g:c1.oneCell'=true):(ReflectliteValue.set #[.agg #[.pointer (I ⟨3,171,U⟩),.pointer (I ⟨b,c,U⟩),.int .u64 409],.agg #[.pointer (I ⟨3,171,U⟩),.pointer (I ⟨d,0,U⟩),.int .u64 153]]).run Tryz.prog a=.ok (.tuple #[]) (a.setCells b c [c0,c1]):=by have e1:=run_loadVar_mid (P:=Tryz.prog) a d 0 171 [c0,c1] _ h Tryz.underlying171 rfl (by kernel_rfl);have e:=run_storeVar_mid (P:=Tryz.prog) a b c 171 #[c0,c1] i (by kernel_rfl) (by simp[f,g]);rw[rls];simp only[kj,akd,akc,CR];simp[ReflectliteValue.flagAddr,e1,ajZ,e,CR]
set_option maxHeartbeats 4000000 in
def akR(a b:Nat)(c0 c1:Value)(w:World)(g:a< w.heap.size)(m:w.there a b 2)(e:c0.oneCell'=true)(j:c1.oneCell'=true)(i:w.cell? ⟨0,0,U⟩=I (.iface 280 (.agg #[.pointer (I ⟨3,168,U⟩)]))):
  Calls Tryz.prog 128 #[.iface 171 (.agg #[c0,c1]),.iface 173 (.pointer (I ⟨a,b,U⟩))] w λev n=>ev=.returned (.bool true)/\n=((((w.alloc (.cells #[.pointer (I ⟨a,b,U⟩)] 173)).alloc (.cells #[.pointer (I ⟨3,173,U⟩),.pointer (I ⟨w.heap.size,0,U⟩),.int .u64 150] 224)).alloc (.cells #[.pointer (I ⟨3,173,U⟩),.pointer (I ⟨w.heap.size,0,U⟩),.int .u64 150] 224)).alloc (.cells #[c0,c1] 171)).setCells a b [c0,c1]:=by
 have B:=@run_callFunc_extern Tryz.prog 190 _ (λargs=>ReflectliteValue.unpack (args.getD 0 (.tuple #[]))) Tryz.func190 (by kernel_rfl) (by kernel_rfl) (by kernel_rfl) (by kernel_rfl)
 have C:=@run_callFunc_extern Tryz.prog 191 _ (ReflectliteValue.methodAny (ReflectliteValue.valueError "reflectlite.Value.Type" 0) (λf _ _ _=>ReflectliteType.toType f)) Tryz.func191 (by kernel_rfl) (by kernel_rfl) (by kernel_rfl) (by kernel_rfl)
 have D:=@run_callFunc_extern Tryz.prog 192 _ (ReflectliteValue.method (ReflectliteValue.valueError "reflectlite.Value.IsNil" 0) ReflectliteValue.isNil) Tryz.func192 (by kernel_rfl) (by kernel_rfl) (by kernel_rfl) (by kernel_rfl)
 have u:=@run_callFunc_extern Tryz.prog 459 _ (ReflectliteType.abiMethod λf=>do pure (.int .u8 (<-Rtype.kind f))) Tryz.func459 (by kernel_rfl) (by kernel_rfl) (by kernel_rfl) (by kernel_rfl)
 have y:=@run_callFunc_extern Tryz.prog 470 _ (ReflectliteType.method ReflectliteType.elem) Tryz.func470 (by kernel_rfl) (by kernel_rfl) (by kernel_rfl) (by kernel_rfl)
 have z:=@run_callFunc_extern Tryz.prog 471 _ (ReflectliteType.relation "Implements" ReflectliteType.implements_) Tryz.func471 (by kernel_rfl) (by kernel_rfl) (by kernel_rfl) (by kernel_rfl)
 have r:=@run_callFunc_extern Tryz.prog 256 _ ReflectliteType.typeOf Tryz.func256 (by kernel_rfl) (by kernel_rfl) (by kernel_rfl) (by kernel_rfl)
 have x:=@run_callFunc_extern Tryz.prog 468 _ (ReflectliteType.relation "AssignableTo" ReflectliteType.assignableTo) Tryz.func468 (by kernel_rfl) (by kernel_rfl) (by kernel_rfl) (by kernel_rfl)
 have s:=@run_callFunc_extern Tryz.prog 257 _ (ReflectliteValue.method (ReflectliteValue.valueError "reflectlite.Value.Elem" 0) ReflectliteValue.elem) Tryz.func257 (by kernel_rfl) (by kernel_rfl) (by kernel_rfl) (by kernel_rfl)
 have t:=@run_callFunc_extern Tryz.prog 258 _ ReflectliteValue.set Tryz.func258 (by kernel_rfl) (by kernel_rfl) (by kernel_rfl) (by kernel_rfl)
 have c:=akg
 have K:=aj7
 have o:=ajY
 have c:=akh
 have f6:=aki
 have f7:=akf
 have O:=aka
 have L:=aj8
 have M:=aj9
 have H:=aj6
 have G:=aj5
 have p:=aj0
 have F:=aj3
 have P:=aj4 ⟨w.heap.size,0,U⟩ ⟨a,b,U⟩ ((w.alloc (.cells #[.pointer (I ⟨a,b,U⟩)] 173)).alloc (.cells #[.pointer (I ⟨3,173,U⟩),.pointer (I ⟨w.heap.size,0,U⟩),.int .u64 150] 224)) (by simp)
 have l:0< w.heap.size:=by
  rcases Nat.eq_zero_or_pos w.heap.size with e|h
  .simp [World.cell?,e]at i
  .exact h
 have E:((w.alloc (.cells #[.pointer (I ⟨a,b,U⟩)] 173)).alloc (.cells #[.pointer (I ⟨3,173,U⟩),.pointer (I ⟨w.heap.size,0,U⟩),.int .u64 150] 224)).cell? ⟨0,0,U⟩=I (.iface 280 (.agg #[.pointer (I ⟨3,168,U⟩)])):=by
  rw[yS _ _ ⟨0,0,U⟩ (by simp),yS _ _ ⟨0,0,U⟩ l];exact i
 have q:=aj2 ⟨w.heap.size,0,U⟩ ⟨a,b,U⟩ (((w.alloc (.cells #[.pointer (I ⟨a,b,U⟩)] 173)).alloc (.cells #[.pointer (I ⟨3,173,U⟩),.pointer (I ⟨w.heap.size,0,U⟩),.int .u64 150] 224)).alloc (.cells #[.pointer (I ⟨3,173,U⟩),.pointer (I ⟨w.heap.size,0,U⟩),.int .u64 150] 224)) (by rw[yS _ _ ⟨w.heap.size,0,U⟩ (by simp;omega)];simp)
 have c:=ake a b (w.heap.size+1+1+1) c0 c1 ((((w.alloc (.cells #[.pointer (I ⟨a,b,U⟩)] 173)).alloc (.cells #[.pointer (I ⟨3,173,U⟩),.pointer (I ⟨w.heap.size,0,U⟩),.int .u64 150] 224)).alloc (.cells #[.pointer (I ⟨3,173,U⟩),.pointer (I ⟨w.heap.size,0,U⟩),.int .u64 150] 224)).alloc (.cells #[c0,c1] 171))
  (λc v d=>by
   match c,d with
   |0,d=>cases d;rw[aiE _ _ _ _ (by simp)];rfl
   |1,d=>cases d;rw[aiE _ _ _ _ (by simp)];rfl)
  (λc k=>by
   have:=m c k
   refine⟨?_,?_⟩
   .rw [yS _ _ ⟨a,b+c,U⟩ (by simp;omega),yS _ _ ⟨a,b+c,U⟩ (by simp;omega),yS _ _ ⟨a,b+c,U⟩ (by simp;omega),yS _ _ ⟨a,b+c,U⟩ g];exact this.1
   .rw [Pe _ _ ⟨a,b+c,U⟩ (by simp;omega),Pe _ _ ⟨a,b+c,U⟩ (by simp;omega),Pe _ _ ⟨a,b+c,U⟩ (by simp;omega),Pe _ _ ⟨a,b+c,U⟩ (Nat.ne_of_lt g)];exact this.2) e j
 go_enter Tryz.func128,Tryz.ntmps128
 go_wp2
 refine wp_loop_rounds 1 ?_
 rw[rounds_succ]
 go_wp2
 go_ret
 exact⟨rfl,rfl⟩
end
end Go.Proofs.YtdlceoleaifhmaaGreatDoor
end
