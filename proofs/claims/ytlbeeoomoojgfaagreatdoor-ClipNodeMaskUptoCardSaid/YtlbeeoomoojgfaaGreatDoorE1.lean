/- A part of the proof. -/
import Derived.Test.YtlbeeoomoojgfaaGreatDoorChecked
import Derived.WalkKit
import Derived.LaidEql
import Derived.Stop.Asserts
import Derived.RowKitTokens
import Derived.Deep.MidRow
set_option linter.all false
open Functor renaming map->aie
open Go.IntKind renaming u8->aiv
open Go.Result renaming andThen->CR
open Go.Sem renaming run_bind->kj
open Go.Value renaming int->aiD
open Go.World renaming cell?_alloc_at->aiE,cell?_alloc_lt->yS,frozen?_alloc_old->Pe
open Option renaming none->U,some->I
noncomputable section
namespace Go.Proofs.YtlbeeoomoojgfaaGreatDoor
section
open Go Go.Proofs Go.RowKit Go.Extern.Stop Go.Stop Go.Extern
def akS(a:Value)(w:World):Calls Tryz.prog 118 #[.nilIface,a] w λe b=>e=.returned (.bool false)/\b=w:=by go_enter Tryz.func118,Tryz.ntmps118;go_wp2;go_ret;exact⟨rfl,rfl⟩
def aki(a:Addr)(w:World):(ReflectliteValue.unpack (.iface 171 (.pointer (I a)))).run Tryz.prog w=.ok (.agg #[.pointer (I ⟨3,171,U⟩),.pointer (I ⟨w.heap.size,0,U⟩),.int .u64 150]) (w.alloc (.cells #[.pointer (I a)] 171)):=by kernel_rfl
def akf(a:Addr)(w:World):(ReflectliteValue.methodAny (ReflectliteValue.valueError "reflectlite.Value.Type" 0) (λb _ _ _=>ReflectliteType.toType b) #[.agg #[.pointer (some ⟨3,171,none⟩),.pointer (some a),.int .u64 150]]).run Tryz.prog w=.ok (.iface 278 (.agg #[.pointer (I ⟨3,171,U⟩)])) w:=by kernel_rfl
def aka(h:Value)(w:World):(Go.method 541 278 (.agg #[h]) "Kind").run Tryz.prog w=.ok (451,h) w:=by kernel_rfl
def aj6(w:World):((ReflectliteType.abiMethod λb=>aie (λa:Nat=>aiD aiv (a:Int)) (Rtype.kind b)) #[.pointer (I ⟨3,171,U⟩)]).run Tryz.prog w=.ok (.int .u8 22) w:=by kernel_rfl
def aj5(w:World):((ReflectliteType.abiMethod λb=>aie (λa:Nat=>aiD aiv (a:Int)) (Rtype.kind b)) #[.pointer (I ⟨3,169,U⟩)]).run Tryz.prog w=.ok (.int .u8 25) w:=by kernel_rfl
theorem rlm(z:Sem Value)(b:TypeId->Addr->Nat->Nat->Sem Value)(v:Value):
  ReflectliteValue.method z b #[v]=(do match<-ReflectliteValue.parts v with|none=>z|some (d,a,c)=>b d a c (c%32)):=rfl
theorem Ya(a:Addr)(w:World):(ReflectliteValue.parts (.agg #[.pointer (I ⟨3,171,U⟩),.pointer (I a),.int .u64 150])).run Tryz.prog w=.ok (I (171,a,150)) w:=by kernel_rfl
def aj4(a p:Addr)(b:World)(c:b.cell? a=I (.pointer (I p))):(ReflectliteValue.method (ReflectliteValue.valueError "reflectlite.Value.IsNil" 0) ReflectliteValue.isNil #[.agg #[.pointer (some ⟨3,171,none⟩),.pointer (some a),.int .u64 150]]).run Tryz.prog b=.ok (.bool false) b:=by rw[rlm];simp only[kj,Ya,CR];simp[ReflectliteValue.isNil,loadVar,isAgg,underlying,Tryz.underlying171,c,CR]
def aj8(h:Value)(w:World):(Go.method 541 278 (.agg #[h]) "Elem").run Tryz.prog w=.ok (462,.agg #[h]) w:=by kernel_rfl
def aj9(h:Value)(w:World):(Go.method 541 278 (.agg #[h]) "Implements").run Tryz.prog w=.ok (463,.agg #[h]) w:=by kernel_rfl
def aj7(h:Value)(w:World):(Go.method 541 278 (.agg #[h]) "AssignableTo").run Tryz.prog w=.ok (460,.agg #[h]) w:=by kernel_rfl
def aj0(w:World):(ReflectliteType.method ReflectliteType.elem #[.agg #[.pointer (I ⟨3,171,U⟩)]]).run Tryz.prog w=.ok (.iface 278 (.agg #[.pointer (I ⟨3,169,U⟩)])) w:=by kernel_rfl
def aj3(w:World):(ReflectliteType.relation "Implements" ReflectliteType.implements_ #[.agg #[.pointer (some ⟨3,169,none⟩)],.iface 278 (.agg #[.pointer (some ⟨3,166,none⟩)])]).run Tryz.prog w=.ok (.bool true) w:=by kernel_rfl
def akg(v:Value)(w:World):(ReflectliteType.typeOf #[.iface 169 v]).run Tryz.prog w=.ok (.iface 278 (.agg #[.pointer (I ⟨3,169,U⟩)])) w:=by kernel_rfl
def ajY(w:World):(ReflectliteType.relation "AssignableTo" ReflectliteType.assignableTo #[.agg #[.pointer (some ⟨3,169,none⟩)],.iface 278 (.agg #[.pointer (some ⟨3,169,none⟩)])]).run Tryz.prog w=.ok (.bool true) w:=by kernel_rfl
def akh(c0 c1:Value)(w:World):(ReflectliteValue.unpack (.iface 169 (.agg #[c0,c1]))).run Tryz.prog w=.ok (.agg #[.pointer (I ⟨3,169,U⟩),.pointer (I ⟨w.heap.size,0,U⟩),.int .u64 153]) (w.alloc (.cells #[c0,c1] 169)):=by kernel_rfl
theorem aj1(w:World):(Rtype.elem? 171).run Tryz.prog w=.ok (I 169) w:=by kernel_rfl
theorem akb(p:Addr)(w:World):(ReflectliteValue.mk 169 p ReflectliteValue.flagAddr).run Tryz.prog w=.ok (.agg #[.pointer (I ⟨3,169,U⟩),.pointer (I p),.int .u64 409]) w:=by kernel_rfl
def aj2(a p:Addr)(b:World)(c:b.cell? a=I (.pointer (I p))):(ReflectliteValue.method (ReflectliteValue.valueError "reflectlite.Value.Elem" 0) ReflectliteValue.elem #[.agg #[.pointer (some ⟨3,171,none⟩),.pointer (some a),.int .u64 150]]).run Tryz.prog b=.ok (.agg #[.pointer (I ⟨3,169,U⟩),.pointer (I p),.int .u64 409]) b:=by rw[rlm];simp only[kj,Ya,CR];simp[ReflectliteValue.elem,loadVar,isAgg,underlying,Tryz.underlying171,c,CR,aj1,akb]
theorem rls(v x:Value):ReflectliteValue.set #[v,x]=(do
  let(I (dst,a,c),I (src,b,_)):=(<-ReflectliteValue.parts v,<-ReflectliteValue.parts x)
   |unsupported (.noEntry "extern/(internal/reflectlite.Value).Set.zeroValue")
  if c/ReflectliteValue.flagAddr%2==0 then unsupported (.noEntry "extern/(internal/reflectlite.Value).Set.unaddressable")
  let val<-loadVar src b
  if<-Rtype.directlyAssignable dst src then storeVar dst a val
  else if<-Rtype.implements dst src then
   if(<-Rtype.kind src)==20 then
    match val with
    |.nilIface=>unsupported (.noEntry "extern/reflectlite: a nil value of one interface type handed on as a value of another")
    |_=>storeVar dst a val
   else storeVar dst a (.iface src val)
  else panicString ("reflectlite.Set: value of type "++(←Rtype.spelt src)++ " is not assignable to type "++(←Rtype.spelt dst))
  pure (.tuple #[])):=rfl
theorem akd(a:Addr)(w:World):(ReflectliteValue.parts (.agg #[.pointer (I ⟨3,169,U⟩),.pointer (I a),.int .u64 409])).run Tryz.prog w=.ok (I (169,a,409)) w:=by kernel_rfl
theorem akc(a:Addr)(w:World):(ReflectliteValue.parts (.agg #[.pointer (I ⟨3,169,U⟩),.pointer (I a),.int .u64 153])).run Tryz.prog w=.ok (I (169,a,153)) w:=by kernel_rfl
theorem ajZ(w:World):(Rtype.directlyAssignable 169 169).run Tryz.prog w=.ok true w:=by kernel_rfl
def aAo(w:World):(sizeOf 169).run Tryz.prog w=.ok 2 w:=by kernel_rfl
def ake(b c d:Nat)(c0 c1:Value)(a:World)(h:a.rangeAt d 0 [c0,c1])(i:a.there b c 2)(f:c0.oneCell'=true)(g:c1.oneCell'=true):(ReflectliteValue.set #[.agg #[.pointer (I ⟨3,169,U⟩),.pointer (I ⟨b,c,U⟩),.int .u64 409],.agg #[.pointer (I ⟨3,169,U⟩),.pointer (I ⟨d,0,U⟩),.int .u64 153]]).run Tryz.prog a=.ok (.tuple #[]) (a.setCells b c [c0,c1]):=by have e1:=run_loadVar_mid (P:=Tryz.prog) a d 0 169 [c0,c1] _ h Tryz.underlying169 rfl (by kernel_rfl);have e:=run_storeVar_mid (P:=Tryz.prog) a b c 169 #[c0,c1] i (by kernel_rfl) (by simp[f,g]);rw[rls];simp only[kj,akd,akc,CR];simp[ReflectliteValue.flagAddr,e1,ajZ,e,CR]
set_option maxHeartbeats 4000000 in
def akR(a b:Nat)(c0 c1:Value)(w:World)(g:a< w.heap.size)(m:w.there a b 2)(e:c0.oneCell'=true)(j:c1.oneCell'=true)(i:w.cell? ⟨0,0,U⟩=I (.iface 278 (.agg #[.pointer (I ⟨3,166,U⟩)]))):
  Calls Tryz.prog 118 #[.iface 169 (.agg #[c0,c1]),.iface 171 (.pointer (I ⟨a,b,U⟩))] w λev n=>ev=.returned (.bool true)/\n=((((w.alloc (.cells #[.pointer (I ⟨a,b,U⟩)] 171)).alloc (.cells #[.pointer (I ⟨3,171,U⟩),.pointer (I ⟨w.heap.size,0,U⟩),.int .u64 150] 222)).alloc (.cells #[.pointer (I ⟨3,171,U⟩),.pointer (I ⟨w.heap.size,0,U⟩),.int .u64 150] 222)).alloc (.cells #[c0,c1] 169)).setCells a b [c0,c1]:=by
 have B:=@run_callFunc_extern Tryz.prog 182 _ (λargs=>ReflectliteValue.unpack (args.getD 0 (.tuple #[]))) Tryz.func182 (by kernel_rfl) (by kernel_rfl) (by kernel_rfl) (by kernel_rfl)
 have C:=@run_callFunc_extern Tryz.prog 183 _ (ReflectliteValue.methodAny (ReflectliteValue.valueError "reflectlite.Value.Type" 0) (λf _ _ _=>ReflectliteType.toType f)) Tryz.func183 (by kernel_rfl) (by kernel_rfl) (by kernel_rfl) (by kernel_rfl)
 have D:=@run_callFunc_extern Tryz.prog 184 _ (ReflectliteValue.method (ReflectliteValue.valueError "reflectlite.Value.IsNil" 0) ReflectliteValue.isNil) Tryz.func184 (by kernel_rfl) (by kernel_rfl) (by kernel_rfl) (by kernel_rfl)
 have u:=@run_callFunc_extern Tryz.prog 451 _ (ReflectliteType.abiMethod λf=>do pure (.int .u8 (<-Rtype.kind f))) Tryz.func451 (by kernel_rfl) (by kernel_rfl) (by kernel_rfl) (by kernel_rfl)
 have y:=@run_callFunc_extern Tryz.prog 462 _ (ReflectliteType.method ReflectliteType.elem) Tryz.func462 (by kernel_rfl) (by kernel_rfl) (by kernel_rfl) (by kernel_rfl)
 have z:=@run_callFunc_extern Tryz.prog 463 _ (ReflectliteType.relation "Implements" ReflectliteType.implements_) Tryz.func463 (by kernel_rfl) (by kernel_rfl) (by kernel_rfl) (by kernel_rfl)
 have r:=@run_callFunc_extern Tryz.prog 248 _ ReflectliteType.typeOf Tryz.func248 (by kernel_rfl) (by kernel_rfl) (by kernel_rfl) (by kernel_rfl)
 have x:=@run_callFunc_extern Tryz.prog 460 _ (ReflectliteType.relation "AssignableTo" ReflectliteType.assignableTo) Tryz.func460 (by kernel_rfl) (by kernel_rfl) (by kernel_rfl) (by kernel_rfl)
 have s:=@run_callFunc_extern Tryz.prog 249 _ (ReflectliteValue.method (ReflectliteValue.valueError "reflectlite.Value.Elem" 0) ReflectliteValue.elem) Tryz.func249 (by kernel_rfl) (by kernel_rfl) (by kernel_rfl) (by kernel_rfl)
 have t:=@run_callFunc_extern Tryz.prog 250 _ ReflectliteValue.set Tryz.func250 (by kernel_rfl) (by kernel_rfl) (by kernel_rfl) (by kernel_rfl)
 have c:=akg
 have K:=aj7
 have o:=ajY
 have c:=akh
 have f6:=aki
 have f7:=akf
 have O:=aka
 have L:=aj8
 have M:=aj9
 have H:=aj6
 have G:=aj5
 have p:=aj0
 have F:=aj3
 have P:=aj4 ⟨w.heap.size,0,U⟩ ⟨a,b,U⟩ ((w.alloc (.cells #[.pointer (I ⟨a,b,U⟩)] 171)).alloc (.cells #[.pointer (I ⟨3,171,U⟩),.pointer (I ⟨w.heap.size,0,U⟩),.int .u64 150] 222)) (by simp)
 have l:0< w.heap.size:=by
  rcases Nat.eq_zero_or_pos w.heap.size with e|h
  .simp [World.cell?,e]at i
  .exact h
 have E:((w.alloc (.cells #[.pointer (I ⟨a,b,U⟩)] 171)).alloc (.cells #[.pointer (I ⟨3,171,U⟩),.pointer (I ⟨w.heap.size,0,U⟩),.int .u64 150] 222)).cell? ⟨0,0,U⟩=I (.iface 278 (.agg #[.pointer (I ⟨3,166,U⟩)])):=by
  rw[yS _ _ ⟨0,0,U⟩ (by simp),yS _ _ ⟨0,0,U⟩ l];exact i
 have q:=aj2 ⟨w.heap.size,0,U⟩ ⟨a,b,U⟩ (((w.alloc (.cells #[.pointer (I ⟨a,b,U⟩)] 171)).alloc (.cells #[.pointer (I ⟨3,171,U⟩),.pointer (I ⟨w.heap.size,0,U⟩),.int .u64 150] 222)).alloc (.cells #[.pointer (I ⟨3,171,U⟩),.pointer (I ⟨w.heap.size,0,U⟩),.int .u64 150] 222)) (by rw[yS _ _ ⟨w.heap.size,0,U⟩ (by simp;omega)];simp)
 have c:=ake a b (w.heap.size+1+1+1) c0 c1 ((((w.alloc (.cells #[.pointer (I ⟨a,b,U⟩)] 171)).alloc (.cells #[.pointer (I ⟨3,171,U⟩),.pointer (I ⟨w.heap.size,0,U⟩),.int .u64 150] 222)).alloc (.cells #[.pointer (I ⟨3,171,U⟩),.pointer (I ⟨w.heap.size,0,U⟩),.int .u64 150] 222)).alloc (.cells #[c0,c1] 169))
  (λc v d=>by
   match c,d with
   |0,d=>cases d;rw[aiE _ _ _ _ (by simp)];rfl
   |1,d=>cases d;rw[aiE _ _ _ _ (by simp)];rfl)
  (λc k=>by
   have:=m c k
   refine⟨?_,?_⟩
   .rw [yS _ _ ⟨a,b+c,U⟩ (by simp;omega),yS _ _ ⟨a,b+c,U⟩ (by simp;omega),yS _ _ ⟨a,b+c,U⟩ (by simp;omega),yS _ _ ⟨a,b+c,U⟩ g];exact this.1
   .rw [Pe _ _ ⟨a,b+c,U⟩ (by simp;omega),Pe _ _ ⟨a,b+c,U⟩ (by simp;omega),Pe _ _ ⟨a,b+c,U⟩ (by simp;omega),Pe _ _ ⟨a,b+c,U⟩ (Nat.ne_of_lt g)];exact this.2) e j
 go_enter Tryz.func118,Tryz.ntmps118
 go_wp2
 refine wp_loop_rounds 1 ?_
 rw[rounds_succ]
 go_wp2
 go_ret
 exact⟨rfl,rfl⟩
end
end Go.Proofs.YtlbeeoomoojgfaaGreatDoor
end
