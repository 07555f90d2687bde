/- A part of the proof. -/
import Derived.Test.YtohdkalmpfmcmaaGreatDoorChecked
import Derived.WalkKit
import Derived.LaidEql
import Derived.Stop.Asserts
import Derived.RowKitTokens
import Derived.Deep.MidRow
set_option linter.all false
open Functor renaming map->ag4
open Go.IntKind renaming u8->ahk
open Go.Result renaming andThen->BG
open Go.Sem renaming run_bind->kg
open Go.Value renaming int->ahs
open Go.World renaming cell?_alloc_at->aht,cell?_alloc_lt->yu,frozen?_alloc_old->ME
open Option renaming none->ae,some->ab
noncomputable section
namespace Go.Proofs.YtohdkalmpfmcmaaGreatDoor
section
open Go Go.Proofs Go.RowKit Go.Extern.Stop Go.Stop Go.Extern
theorem ajx(t:Value)(w:World):
  Calls Tryz.prog 129 #[.nilIface,t] w λe w'=>e=.returned (.bool false)/\w'=w:=by
 go_enter Tryz.func129,Tryz.ntmps129
 go_wp2
 go_ret
 exact⟨rfl,rfl⟩
theorem aiV(t:Addr)(w:World):(ReflectliteValue.unpack (.iface 186 (.pointer (ab t)))).run Tryz.prog w
  =.ok (.agg #[.pointer (ab ⟨3,186,ae⟩),.pointer (ab ⟨w.heap.size,0,ae⟩),.int .u64 150]) (w.alloc (.cells #[.pointer (ab t)] 186)):=by kernel_rfl
theorem aiS(a:Addr)(w:World):(ReflectliteValue.methodAny (ReflectliteValue.valueError "reflectlite.Value.Type" 0) (λt _ _ _=>ReflectliteType.toType t) #[.agg #[.pointer (some ⟨3,186,none⟩),.pointer (some a),.int .u64 150]]).run Tryz.prog w
  =.ok (.iface 277 (.agg #[.pointer (ab ⟨3,186,ae⟩)])) w:=by kernel_rfl
theorem aiN(h:Value)(w:World):(Go.method 525 277 (.agg #[h]) "Kind").run Tryz.prog w=.ok (382,h) w:=by kernel_rfl
theorem aiJ(w:World):((ReflectliteType.abiMethod λt=>ag4 (λa:Nat=>ahs ahk (a:Int)) (Rtype.kind t)) #[.pointer (ab ⟨3,186,ae⟩)]).run Tryz.prog w=.ok (.int .u8 22) w:=by kernel_rfl
theorem aiI(w:World):((ReflectliteType.abiMethod λt=>ag4 (λa:Nat=>ahs ahk (a:Int)) (Rtype.kind t)) #[.pointer (ab ⟨3,184,ae⟩)]).run Tryz.prog w=.ok (.int .u8 25) w:=by kernel_rfl
theorem rlm(z:Sem Value)(f:TypeId->Addr->Nat->Nat->Sem Value)(v:Value):
  ReflectliteValue.method z f #[v]=(do match<-ReflectliteValue.parts v with|none=>z|some (t,a,fl)=>f t a fl (fl%32)):=rfl
theorem VH(a:Addr)(w:World):(ReflectliteValue.parts (.agg #[.pointer (ab ⟨3,186,ae⟩),.pointer (ab a),.int .u64 150])).run Tryz.prog w=.ok (ab (186,a,150)) w:=by kernel_rfl
theorem aiH(a p:Addr)(W:World)(A:W.cell? a=ab (.pointer (ab p))):
  (ReflectliteValue.method (ReflectliteValue.valueError "reflectlite.Value.IsNil" 0) ReflectliteValue.isNil #[.agg #[.pointer (some ⟨3,186,none⟩),.pointer (some a),.int .u64 150]]).run Tryz.prog W=.ok (.bool false) W:=by
 rw[rlm]
 simp only[kg,VH,BG]
 simp[ReflectliteValue.isNil,loadVar,isAgg,underlying,Tryz.underlying186,A,BG]
theorem aiL(h:Value)(w:World):(Go.method 525 277 (.agg #[h]) "Elem").run Tryz.prog w=.ok (393,.agg #[h]) w:=by kernel_rfl
theorem aiM(h:Value)(w:World):(Go.method 525 277 (.agg #[h]) "Implements").run Tryz.prog w=.ok (394,.agg #[h]) w:=by kernel_rfl
theorem aiK(h:Value)(w:World):(Go.method 525 277 (.agg #[h]) "AssignableTo").run Tryz.prog w=.ok (391,.agg #[h]) w:=by kernel_rfl
theorem aiD(w:World):(ReflectliteType.method ReflectliteType.elem #[.agg #[.pointer (ab ⟨3,186,ae⟩)]]).run Tryz.prog w=.ok (.iface 277 (.agg #[.pointer (ab ⟨3,184,ae⟩)])) w:=by kernel_rfl
theorem aiG(w:World):(ReflectliteType.relation "Implements" ReflectliteType.implements_ #[.agg #[.pointer (some ⟨3,184,none⟩)],.iface 277 (.agg #[.pointer (some ⟨3,181,none⟩)])]).run Tryz.prog w=.ok (.bool true) w:=by kernel_rfl
theorem aiT(v:Value)(w:World):(ReflectliteType.typeOf #[.iface 184 v]).run Tryz.prog w=.ok (.iface 277 (.agg #[.pointer (ab ⟨3,184,ae⟩)])) w:=by kernel_rfl
theorem aiB(w:World):(ReflectliteType.relation "AssignableTo" ReflectliteType.assignableTo #[.agg #[.pointer (some ⟨3,184,none⟩)],.iface 277 (.agg #[.pointer (some ⟨3,184,none⟩)])]).run Tryz.prog w=.ok (.bool true) w:=by kernel_rfl
theorem aiU(c0 c1:Value)(w:World):(ReflectliteValue.unpack (.iface 184 (.agg #[c0,c1]))).run Tryz.prog w
  =.ok (.agg #[.pointer (ab ⟨3,184,ae⟩),.pointer (ab ⟨w.heap.size,0,ae⟩),.int .u64 153]) (w.alloc (.cells #[c0,c1] 184)):=by kernel_rfl
theorem aiE(w:World):(Rtype.elem? 186).run Tryz.prog w=.ok (ab 184) w:=by kernel_rfl
theorem aiO(p:Addr)(w:World):(ReflectliteValue.mk 184 p ReflectliteValue.flagAddr).run Tryz.prog w=.ok (.agg #[.pointer (ab ⟨3,184,ae⟩),.pointer (ab p),.int .u64 409]) w:=by kernel_rfl
theorem aiF(a p:Addr)(W:World)(A:W.cell? a=ab (.pointer (ab p))):
  (ReflectliteValue.method (ReflectliteValue.valueError "reflectlite.Value.Elem" 0) ReflectliteValue.elem #[.agg #[.pointer (some ⟨3,186,none⟩),.pointer (some a),.int .u64 150]]).run Tryz.prog W
   =.ok (.agg #[.pointer (ab ⟨3,184,ae⟩),.pointer (ab p),.int .u64 409]) W:=by
 rw[rlm]
 simp only[kg,VH,BG]
 simp[ReflectliteValue.elem,loadVar,isAgg,underlying,Tryz.underlying186,A,BG,aiE,aiO]
theorem rls(v x:Value):ReflectliteValue.set #[v,x]=(do
  let(ab (dst,a,fl),ab (src,b,_)):=(<-ReflectliteValue.parts v,<-ReflectliteValue.parts x)
   |unsupported (.noEntry "extern/(internal/reflectlite.Value).Set.zeroValue")
  if fl/ReflectliteValue.flagAddr%2==0 then unsupported (.noEntry "extern/(internal/reflectlite.Value).Set.unaddressable")
  let val<-loadVar src b
  if<-Rtype.directlyAssignable dst src then storeVar dst a val
  else if<-Rtype.implements dst src then
   if(<-Rtype.kind src)==20 then
    match val with
    |.nilIface=>unsupported (.noEntry "extern/reflectlite: a nil value of one interface type handed on as a value of another")
    |_=>storeVar dst a val
   else storeVar dst a (.iface src val)
  else panicString ("reflectlite.Set: value of type " ++(←Rtype.spelt src)++ " is not assignable to type " ++(←Rtype.spelt dst))
  pure (.tuple #[])):=rfl
theorem aiQ(a:Addr)(w:World):(ReflectliteValue.parts (.agg #[.pointer (ab ⟨3,184,ae⟩),.pointer (ab a),.int .u64 409])).run Tryz.prog w=.ok (ab (184,a,409)) w:=by kernel_rfl
theorem aiP(a:Addr)(w:World):(ReflectliteValue.parts (.agg #[.pointer (ab ⟨3,184,ae⟩),.pointer (ab a),.int .u64 153])).run Tryz.prog w=.ok (ab (184,a,153)) w:=by kernel_rfl
theorem aiC(w:World):(Rtype.directlyAssignable 184 184).run Tryz.prog w=.ok true w:=by kernel_rfl
theorem awW(w:World):(sizeOf 184).run Tryz.prog w=.ok 2 w:=by kernel_rfl
theorem aiR(b o s:Nat)(c0 c1:Value)(W:World)(A:W.rangeAt s 0 [c0,c1])(I:W.there b o 2)(J:c0.oneCell'=true)(h1:c1.oneCell'=true):
  (ReflectliteValue.set #[.agg #[.pointer (ab ⟨3,184,ae⟩),.pointer (ab ⟨b,o,ae⟩),.int .u64 409],.agg #[.pointer (ab ⟨3,184,ae⟩),.pointer (ab ⟨s,0,ae⟩),.int .u64 153]]).run Tryz.prog W
   =.ok (.tuple #[]) (W.setCells b o [c0,c1]):=by
 have U:=run_loadVar_mid (P:=Tryz.prog) W s 0 184 [c0,c1] _ A Tryz.underlying184 rfl (by kernel_rfl)
 have Z:=run_storeVar_mid (P:=Tryz.prog) W b o 184 #[c0,c1] I (by kernel_rfl) (by simp[J,h1])
 rw[rls]
 simp only[kg,aiQ,aiP,BG]
 simp[ReflectliteValue.flagAddr,U,aiC,Z,BG]
set_option maxHeartbeats 4000000 in
theorem ajw(b o:Nat)(c0 c1:Value)(w:World)(U:b< w.heap.size)(a:w.there b o 2)(I:c0.oneCell'=true)(h1:c1.oneCell'=true)(Z:w.cell? ⟨0,0,ae⟩=ab (.iface 277 (.agg #[.pointer (ab ⟨3,181,ae⟩)]))):
  Calls Tryz.prog 129 #[.iface 184 (.agg #[c0,c1]),.iface 186 (.pointer (ab ⟨b,o,ae⟩))] w λev w'=>ev=.returned (.bool true)/\w'=((((w.alloc (.cells #[.pointer (ab ⟨b,o,ae⟩)] 186)).alloc (.cells #[.pointer (ab ⟨3,186,ae⟩),.pointer (ab ⟨w.heap.size,0,ae⟩),.int .u64 150] 227)).alloc (.cells #[.pointer (ab ⟨3,186,ae⟩),.pointer (ab ⟨w.heap.size,0,ae⟩),.int .u64 150] 227)).alloc (.cells #[c0,c1] 184)).setCells b o [c0,c1]:=by
 have x:=@run_callFunc_extern Tryz.prog 178 _ (λargs=>ReflectliteValue.unpack (args.getD 0 (.tuple #[]))) Tryz.func178 (by kernel_rfl) (by kernel_rfl) (by kernel_rfl) (by kernel_rfl)
 have y:=@run_callFunc_extern Tryz.prog 179 _ (ReflectliteValue.methodAny (ReflectliteValue.valueError "reflectlite.Value.Type" 0) (λt _ _ _=>ReflectliteType.toType t)) Tryz.func179 (by kernel_rfl) (by kernel_rfl) (by kernel_rfl) (by kernel_rfl)
 have z:=@run_callFunc_extern Tryz.prog 180 _ (ReflectliteValue.method (ReflectliteValue.valueError "reflectlite.Value.IsNil" 0) ReflectliteValue.isNil) Tryz.func180 (by kernel_rfl) (by kernel_rfl) (by kernel_rfl) (by kernel_rfl)
 have c:=@run_callFunc_extern Tryz.prog 382 _ (ReflectliteType.abiMethod λt=>do pure (.int .u8 (<-Rtype.kind t))) Tryz.func382 (by kernel_rfl) (by kernel_rfl) (by kernel_rfl) (by kernel_rfl)
 have d:=@run_callFunc_extern Tryz.prog 393 _ (ReflectliteType.method ReflectliteType.elem) Tryz.func393 (by kernel_rfl) (by kernel_rfl) (by kernel_rfl) (by kernel_rfl)
 have e:=@run_callFunc_extern Tryz.prog 394 _ (ReflectliteType.relation "Implements" ReflectliteType.implements_) Tryz.func394 (by kernel_rfl) (by kernel_rfl) (by kernel_rfl) (by kernel_rfl)
 have f:=@run_callFunc_extern Tryz.prog 232 _ ReflectliteType.typeOf Tryz.func232 (by kernel_rfl) (by kernel_rfl) (by kernel_rfl) (by kernel_rfl)
 have g:=@run_callFunc_extern Tryz.prog 391 _ (ReflectliteType.relation "AssignableTo" ReflectliteType.assignableTo) Tryz.func391 (by kernel_rfl) (by kernel_rfl) (by kernel_rfl) (by kernel_rfl)
 have i:=@run_callFunc_extern Tryz.prog 233 _ (ReflectliteValue.method (ReflectliteValue.valueError "reflectlite.Value.Elem" 0) ReflectliteValue.elem) Tryz.func233 (by kernel_rfl) (by kernel_rfl) (by kernel_rfl) (by kernel_rfl)
 have k:=@run_callFunc_extern Tryz.prog 234 _ ReflectliteValue.set Tryz.func234 (by kernel_rfl) (by kernel_rfl) (by kernel_rfl) (by kernel_rfl)
 have B:=aiT
 have C:=aiK
 have l:=aiB
 have m:=aiU
 have f6:=aiV
 have f7:=aiS
 have D:=aiN
 have E:=aiL
 have F:=aiM
 have n:=aiJ
 have p:=aiI
 have q:=aiD
 have r:=aiG
 have G:=aiH ⟨w.heap.size,0,ae⟩ ⟨b,o,ae⟩ ((w.alloc (.cells #[.pointer (ab ⟨b,o,ae⟩)] 186)).alloc (.cells #[.pointer (ab ⟨3,186,ae⟩),.pointer (ab ⟨w.heap.size,0,ae⟩),.int .u64 150] 227)) (by simp)
 have J:0< w.heap.size:=by
  rcases Nat.eq_zero_or_pos w.heap.size with I|h
  .simp [World.cell?,I]at Z
  .exact h
 have s:((w.alloc (.cells #[.pointer (ab ⟨b,o,ae⟩)] 186)).alloc (.cells #[.pointer (ab ⟨3,186,ae⟩),.pointer (ab ⟨w.heap.size,0,ae⟩),.int .u64 150] 227)).cell? ⟨0,0,ae⟩=ab (.iface 277 (.agg #[.pointer (ab ⟨3,181,ae⟩)])):=by
  rw[yu _ _ ⟨0,0,ae⟩ (by simp),yu _ _ ⟨0,0,ae⟩ J];exact Z
 have el:=aiF ⟨w.heap.size,0,ae⟩ ⟨b,o,ae⟩ (((w.alloc (.cells #[.pointer (ab ⟨b,o,ae⟩)] 186)).alloc (.cells #[.pointer (ab ⟨3,186,ae⟩),.pointer (ab ⟨w.heap.size,0,ae⟩),.int .u64 150] 227)).alloc (.cells #[.pointer (ab ⟨3,186,ae⟩),.pointer (ab ⟨w.heap.size,0,ae⟩),.int .u64 150] 227)) (by rw[yu _ _ ⟨w.heap.size,0,ae⟩ (by simp;omega)];simp)
 have st:=aiR b o (w.heap.size+1+1+1) c0 c1 ((((w.alloc (.cells #[.pointer (ab ⟨b,o,ae⟩)] 186)).alloc (.cells #[.pointer (ab ⟨3,186,ae⟩),.pointer (ab ⟨w.heap.size,0,ae⟩),.int .u64 150] 227)).alloc (.cells #[.pointer (ab ⟨3,186,ae⟩),.pointer (ab ⟨w.heap.size,0,ae⟩),.int .u64 150] 227)).alloc (.cells #[c0,c1] 184))
  (λj v A=>by
   match j,A with
   |0,A=>cases A;rw[aht _ _ _ _ (by simp)];rfl
   |1,A=>cases A;rw[aht _ _ _ _ (by simp)];rfl)
  (λj u=>by
   have:=a j u
   refine⟨?_,?_⟩
   .rw [yu _ _ ⟨b,o+j,ae⟩ (by simp;omega),yu _ _ ⟨b,o+j,ae⟩ (by simp;omega),yu _ _ ⟨b,o+j,ae⟩ (by simp;omega),yu _ _ ⟨b,o+j,ae⟩ U];exact this.1
   .rw [ME _ _ ⟨b,o+j,ae⟩ (by simp;omega),ME _ _ ⟨b,o+j,ae⟩ (by simp;omega),ME _ _ ⟨b,o+j,ae⟩ (by simp;omega),ME _ _ ⟨b,o+j,ae⟩ (Nat.ne_of_lt U)];exact this.2) I h1
 go_enter Tryz.func129,Tryz.ntmps129
 go_wp2
 refine wp_loop_rounds 1 ?_
 rw[rounds_succ]
 go_wp2
 go_ret
 exact⟨rfl,rfl⟩
end
end Go.Proofs.YtohdkalmpfmcmaaGreatDoor
end
