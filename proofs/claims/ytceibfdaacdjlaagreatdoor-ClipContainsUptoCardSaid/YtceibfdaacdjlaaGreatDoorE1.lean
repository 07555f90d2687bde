/- A part of the proof. -/
import Derived.Test.YtceibfdaacdjlaaGreatDoorChecked
import Derived.WalkKit
import Derived.LaidEql
import Derived.Stop.Asserts
import Derived.RowKitTokens
import Derived.Deep.MidRow
set_option linter.all false
open Functor renaming map->acJ
open Go.IntKind renaming u8->ac0
open Go.Result renaming andThen->Am
open Go.Sem renaming run_bind->eZ
open Go.Value renaming int->pV
open Go.World renaming cell?_alloc_at->adb,cell?_alloc_lt->wT,frozen?_alloc_old->KK
open Option renaming none->ae,some->ab
noncomputable section
namespace Go.Proofs.YtceibfdaacdjlaaGreatDoor
section
open Go Go.Proofs Go.RowKit Go.Extern.Stop Go.Stop Go.Extern
theorem afi(t:Value)(w:World):
  Calls Tryz.prog 161 #[.nilIface,t] w λe w'=>e=.returned (.bool false)/\w'=w:=by
 go_enter Tryz.func161,Tryz.ntmps161
 go_wp2
 go_ret
 exact⟨rfl,rfl⟩
theorem aeI(t:Addr)(w:World):(ReflectliteValue.unpack (.iface 210 (.pointer (ab t)))).run Tryz.prog w
  =.ok (.agg #[.pointer (ab ⟨3,210,ae⟩),.pointer (ab ⟨w.heap.size,0,ae⟩),.int .u64 150]) (w.alloc (.cells #[.pointer (ab t)] 210)):=by kernel_rfl
theorem aeF(a:Addr)(w:World):(ReflectliteValue.methodAny (ReflectliteValue.valueError "reflectlite.Value.Type" 0) (λt _ _ _=>ReflectliteType.toType t) #[.agg #[.pointer (some ⟨3,210,none⟩),.pointer (some a),.int .u64 150]]).run Tryz.prog w
  =.ok (.iface 295 (.agg #[.pointer (ab ⟨3,210,ae⟩)])) w:=by kernel_rfl
theorem aeA(h:Value)(w:World):(Go.method 531 295 (.agg #[h]) "Kind").run Tryz.prog w=.ok (421,h) w:=by kernel_rfl
theorem aew(w:World):((ReflectliteType.abiMethod λt=>acJ (λa:Nat=>pV ac0 (a:Int)) (Rtype.kind t)) #[.pointer (ab ⟨3,210,ae⟩)]).run Tryz.prog w=.ok (.int .u8 22) w:=by kernel_rfl
theorem aev(w:World):((ReflectliteType.abiMethod λt=>acJ (λa:Nat=>pV ac0 (a:Int)) (Rtype.kind t)) #[.pointer (ab ⟨3,208,ae⟩)]).run Tryz.prog w=.ok (.int .u8 25) w:=by kernel_rfl
theorem rlm(z:Sem Value)(f:TypeId->Addr->Nat->Nat->Sem Value)(v:Value):
  ReflectliteValue.method z f #[v]=(do match<-ReflectliteValue.parts v with|none=>z|some (t,a,fl)=>f t a fl (fl%32)):=rfl
theorem S4(a:Addr)(w:World):(ReflectliteValue.parts (.agg #[.pointer (ab ⟨3,210,ae⟩),.pointer (ab a),.int .u64 150])).run Tryz.prog w=.ok (ab (210,a,150)) w:=by kernel_rfl
theorem aeu(a p:Addr)(W:World)(A:W.cell? a=ab (.pointer (ab p))):
  (ReflectliteValue.method (ReflectliteValue.valueError "reflectlite.Value.IsNil" 0) ReflectliteValue.isNil #[.agg #[.pointer (some ⟨3,210,none⟩),.pointer (some a),.int .u64 150]]).run Tryz.prog W=.ok (.bool false) W:=by
 rw[rlm]
 simp only[eZ,S4,Am]
 simp[ReflectliteValue.isNil,loadVar,isAgg,underlying,Tryz.underlying210,A,Am]
theorem aey(h:Value)(w:World):(Go.method 531 295 (.agg #[h]) "Elem").run Tryz.prog w=.ok (432,.agg #[h]) w:=by kernel_rfl
theorem aez(h:Value)(w:World):(Go.method 531 295 (.agg #[h]) "Implements").run Tryz.prog w=.ok (433,.agg #[h]) w:=by kernel_rfl
theorem aex(h:Value)(w:World):(Go.method 531 295 (.agg #[h]) "AssignableTo").run Tryz.prog w=.ok (430,.agg #[h]) w:=by kernel_rfl
theorem aeq(w:World):(ReflectliteType.method ReflectliteType.elem #[.agg #[.pointer (ab ⟨3,210,ae⟩)]]).run Tryz.prog w=.ok (.iface 295 (.agg #[.pointer (ab ⟨3,208,ae⟩)])) w:=by kernel_rfl
theorem aet(w:World):(ReflectliteType.relation "Implements" ReflectliteType.implements_ #[.agg #[.pointer (some ⟨3,208,none⟩)],.iface 295 (.agg #[.pointer (some ⟨3,205,none⟩)])]).run Tryz.prog w=.ok (.bool true) w:=by kernel_rfl
theorem aeG(v:Value)(w:World):(ReflectliteType.typeOf #[.iface 208 v]).run Tryz.prog w=.ok (.iface 295 (.agg #[.pointer (ab ⟨3,208,ae⟩)])) w:=by kernel_rfl
theorem aeo(w:World):(ReflectliteType.relation "AssignableTo" ReflectliteType.assignableTo #[.agg #[.pointer (some ⟨3,208,none⟩)],.iface 295 (.agg #[.pointer (some ⟨3,208,none⟩)])]).run Tryz.prog w=.ok (.bool true) w:=by kernel_rfl
theorem aeH(c0 c1:Value)(w:World):(ReflectliteValue.unpack (.iface 208 (.agg #[c0,c1]))).run Tryz.prog w
  =.ok (.agg #[.pointer (ab ⟨3,208,ae⟩),.pointer (ab ⟨w.heap.size,0,ae⟩),.int .u64 153]) (w.alloc (.cells #[c0,c1] 208)):=by kernel_rfl
theorem aer(w:World):(Rtype.elem? 210).run Tryz.prog w=.ok (ab 208) w:=by kernel_rfl
theorem aeB(p:Addr)(w:World):(ReflectliteValue.mk 208 p ReflectliteValue.flagAddr).run Tryz.prog w=.ok (.agg #[.pointer (ab ⟨3,208,ae⟩),.pointer (ab p),.int .u64 409]) w:=by kernel_rfl
theorem aes(a p:Addr)(W:World)(A:W.cell? a=ab (.pointer (ab p))):
  (ReflectliteValue.method (ReflectliteValue.valueError "reflectlite.Value.Elem" 0) ReflectliteValue.elem #[.agg #[.pointer (some ⟨3,210,none⟩),.pointer (some a),.int .u64 150]]).run Tryz.prog W
   =.ok (.agg #[.pointer (ab ⟨3,208,ae⟩),.pointer (ab p),.int .u64 409]) W:=by
 rw[rlm]
 simp only[eZ,S4,Am]
 simp[ReflectliteValue.elem,loadVar,isAgg,underlying,Tryz.underlying210,A,Am,aer,aeB]
theorem rls(v x:Value):ReflectliteValue.set #[v,x]=(do
  let(ab (dst,a,fl),ab (src,b,_)):=(<-ReflectliteValue.parts v,<-ReflectliteValue.parts x)
   |unsupported (.noEntry "extern/(internal/reflectlite.Value).Set.zeroValue")
  if fl/ReflectliteValue.flagAddr%2==0 then unsupported (.noEntry "extern/(internal/reflectlite.Value).Set.unaddressable")
  let val<-loadVar src b
  if<-Rtype.directlyAssignable dst src then storeVar dst a val
  else if<-Rtype.implements dst src then
   if(<-Rtype.kind src)==20 then
    match val with
    |.nilIface=>unsupported (.noEntry "extern/reflectlite: a nil value of one interface type handed on as a value of another")
    |_=>storeVar dst a val
   else storeVar dst a (.iface src val)
  else panicString ("reflectlite.Set: value of type " ++(←Rtype.spelt src)++ " is not assignable to type " ++(←Rtype.spelt dst))
  pure (.tuple #[])):=rfl
theorem aeD(a:Addr)(w:World):(ReflectliteValue.parts (.agg #[.pointer (ab ⟨3,208,ae⟩),.pointer (ab a),.int .u64 409])).run Tryz.prog w=.ok (ab (208,a,409)) w:=by kernel_rfl
theorem aeC(a:Addr)(w:World):(ReflectliteValue.parts (.agg #[.pointer (ab ⟨3,208,ae⟩),.pointer (ab a),.int .u64 153])).run Tryz.prog w=.ok (ab (208,a,153)) w:=by kernel_rfl
theorem aep(w:World):(Rtype.directlyAssignable 208 208).run Tryz.prog w=.ok true w:=by kernel_rfl
theorem aq3(w:World):(sizeOf 208).run Tryz.prog w=.ok 2 w:=by kernel_rfl
theorem aeE(b o s:Nat)(c0 c1:Value)(W:World)(A:W.rangeAt s 0 [c0,c1])(I:W.there b o 2)(J:c0.oneCell'=true)(h1:c1.oneCell'=true):
  (ReflectliteValue.set #[.agg #[.pointer (ab ⟨3,208,ae⟩),.pointer (ab ⟨b,o,ae⟩),.int .u64 409],.agg #[.pointer (ab ⟨3,208,ae⟩),.pointer (ab ⟨s,0,ae⟩),.int .u64 153]]).run Tryz.prog W
   =.ok (.tuple #[]) (W.setCells b o [c0,c1]):=by
 have U:=run_loadVar_mid (P:=Tryz.prog) W s 0 208 [c0,c1] _ A Tryz.underlying208 rfl (by kernel_rfl)
 have Z:=run_storeVar_mid (P:=Tryz.prog) W b o 208 #[c0,c1] I (by kernel_rfl) (by simp[J,h1])
 rw[rls]
 simp only[eZ,aeD,aeC,Am]
 simp[ReflectliteValue.flagAddr,U,aep,Z,Am]
set_option maxHeartbeats 4000000 in
theorem afh(b o:Nat)(c0 c1:Value)(w:World)(U:b< w.heap.size)(a:w.there b o 2)(I:c0.oneCell'=true)(h1:c1.oneCell'=true)(Z:w.cell? ⟨0,0,ae⟩=ab (.iface 295 (.agg #[.pointer (ab ⟨3,205,ae⟩)]))):
  Calls Tryz.prog 161 #[.iface 208 (.agg #[c0,c1]),.iface 210 (.pointer (ab ⟨b,o,ae⟩))] w λev w'=>ev=.returned (.bool true)/\w'=((((w.alloc (.cells #[.pointer (ab ⟨b,o,ae⟩)] 210)).alloc (.cells #[.pointer (ab ⟨3,210,ae⟩),.pointer (ab ⟨w.heap.size,0,ae⟩),.int .u64 150] 250)).alloc (.cells #[.pointer (ab ⟨3,210,ae⟩),.pointer (ab ⟨w.heap.size,0,ae⟩),.int .u64 150] 250)).alloc (.cells #[c0,c1] 208)).setCells b o [c0,c1]:=by
 have x:=@run_callFunc_extern Tryz.prog 219 _ (λargs=>ReflectliteValue.unpack (args.getD 0 (.tuple #[]))) Tryz.func219 (by kernel_rfl) (by kernel_rfl) (by kernel_rfl) (by kernel_rfl)
 have y:=@run_callFunc_extern Tryz.prog 220 _ (ReflectliteValue.methodAny (ReflectliteValue.valueError "reflectlite.Value.Type" 0) (λt _ _ _=>ReflectliteType.toType t)) Tryz.func220 (by kernel_rfl) (by kernel_rfl) (by kernel_rfl) (by kernel_rfl)
 have z:=@run_callFunc_extern Tryz.prog 221 _ (ReflectliteValue.method (ReflectliteValue.valueError "reflectlite.Value.IsNil" 0) ReflectliteValue.isNil) Tryz.func221 (by kernel_rfl) (by kernel_rfl) (by kernel_rfl) (by kernel_rfl)
 have c:=@run_callFunc_extern Tryz.prog 421 _ (ReflectliteType.abiMethod λt=>do pure (.int .u8 (<-Rtype.kind t))) Tryz.func421 (by kernel_rfl) (by kernel_rfl) (by kernel_rfl) (by kernel_rfl)
 have d:=@run_callFunc_extern Tryz.prog 432 _ (ReflectliteType.method ReflectliteType.elem) Tryz.func432 (by kernel_rfl) (by kernel_rfl) (by kernel_rfl) (by kernel_rfl)
 have e:=@run_callFunc_extern Tryz.prog 433 _ (ReflectliteType.relation "Implements" ReflectliteType.implements_) Tryz.func433 (by kernel_rfl) (by kernel_rfl) (by kernel_rfl) (by kernel_rfl)
 have f:=@run_callFunc_extern Tryz.prog 279 _ ReflectliteType.typeOf Tryz.func279 (by kernel_rfl) (by kernel_rfl) (by kernel_rfl) (by kernel_rfl)
 have g:=@run_callFunc_extern Tryz.prog 430 _ (ReflectliteType.relation "AssignableTo" ReflectliteType.assignableTo) Tryz.func430 (by kernel_rfl) (by kernel_rfl) (by kernel_rfl) (by kernel_rfl)
 have i:=@run_callFunc_extern Tryz.prog 280 _ (ReflectliteValue.method (ReflectliteValue.valueError "reflectlite.Value.Elem" 0) ReflectliteValue.elem) Tryz.func280 (by kernel_rfl) (by kernel_rfl) (by kernel_rfl) (by kernel_rfl)
 have k:=@run_callFunc_extern Tryz.prog 281 _ ReflectliteValue.set Tryz.func281 (by kernel_rfl) (by kernel_rfl) (by kernel_rfl) (by kernel_rfl)
 have B:=aeG
 have C:=aex
 have l:=aeo
 have m:=aeH
 have f6:=aeI
 have f7:=aeF
 have D:=aeA
 have E:=aey
 have F:=aez
 have n:=aew
 have p:=aev
 have q:=aeq
 have r:=aet
 have G:=aeu ⟨w.heap.size,0,ae⟩ ⟨b,o,ae⟩ ((w.alloc (.cells #[.pointer (ab ⟨b,o,ae⟩)] 210)).alloc (.cells #[.pointer (ab ⟨3,210,ae⟩),.pointer (ab ⟨w.heap.size,0,ae⟩),.int .u64 150] 250)) (by simp)
 have J:0< w.heap.size:=by
  rcases Nat.eq_zero_or_pos w.heap.size with I|h
  .simp [World.cell?,I]at Z
  .exact h
 have s:((w.alloc (.cells #[.pointer (ab ⟨b,o,ae⟩)] 210)).alloc (.cells #[.pointer (ab ⟨3,210,ae⟩),.pointer (ab ⟨w.heap.size,0,ae⟩),.int .u64 150] 250)).cell? ⟨0,0,ae⟩=ab (.iface 295 (.agg #[.pointer (ab ⟨3,205,ae⟩)])):=by
  rw[wT _ _ ⟨0,0,ae⟩ (by simp),wT _ _ ⟨0,0,ae⟩ J];exact Z
 have el:=aes ⟨w.heap.size,0,ae⟩ ⟨b,o,ae⟩ (((w.alloc (.cells #[.pointer (ab ⟨b,o,ae⟩)] 210)).alloc (.cells #[.pointer (ab ⟨3,210,ae⟩),.pointer (ab ⟨w.heap.size,0,ae⟩),.int .u64 150] 250)).alloc (.cells #[.pointer (ab ⟨3,210,ae⟩),.pointer (ab ⟨w.heap.size,0,ae⟩),.int .u64 150] 250)) (by rw[wT _ _ ⟨w.heap.size,0,ae⟩ (by simp;omega)];simp)
 have st:=aeE b o (w.heap.size+1+1+1) c0 c1 ((((w.alloc (.cells #[.pointer (ab ⟨b,o,ae⟩)] 210)).alloc (.cells #[.pointer (ab ⟨3,210,ae⟩),.pointer (ab ⟨w.heap.size,0,ae⟩),.int .u64 150] 250)).alloc (.cells #[.pointer (ab ⟨3,210,ae⟩),.pointer (ab ⟨w.heap.size,0,ae⟩),.int .u64 150] 250)).alloc (.cells #[c0,c1] 208))
  (λj v A=>by
   match j,A with
   |0,A=>cases A;rw[adb _ _ _ _ (by simp)];rfl
   |1,A=>cases A;rw[adb _ _ _ _ (by simp)];rfl)
  (λj u=>by
   have:=a j u
   refine⟨?_,?_⟩
   .rw [wT _ _ ⟨b,o+j,ae⟩ (by simp;omega),wT _ _ ⟨b,o+j,ae⟩ (by simp;omega),wT _ _ ⟨b,o+j,ae⟩ (by simp;omega),wT _ _ ⟨b,o+j,ae⟩ U];exact this.1
   .rw [KK _ _ ⟨b,o+j,ae⟩ (by simp;omega),KK _ _ ⟨b,o+j,ae⟩ (by simp;omega),KK _ _ ⟨b,o+j,ae⟩ (by simp;omega),KK _ _ ⟨b,o+j,ae⟩ (Nat.ne_of_lt U)];exact this.2) I h1
 go_enter Tryz.func161,Tryz.ntmps161
 go_wp2
 refine wp_loop_rounds 1 ?_
 rw[rounds_succ]
 go_wp2
 go_ret
 exact⟨rfl,rfl⟩
end
end Go.Proofs.YtceibfdaacdjlaaGreatDoor
end
