/-
  Each tree is what its function computes.
-/
import Derived.Test.YtfpkonppeefhfaaGreatDoorE
import Derived.Test.YtfpkonppeefhfaaGreatDoorA9
import Derived.Test.YtfpkonppeefhfaaGreatDoorT
import Derived.KernelRfl
set_option linter.unusedSectionVars false
set_option linter.unusedSimpArgs false
set_option linter.unusedVariables false
namespace Go.Proofs.YtfpkonppeefhfaaGreatDoor
open Go.As
noncomputable abbrev iT : Ty := .int .i64
noncomputable def cmpI_s (F : Int → Int → Option Int) : As.Spec := ⟨.cn iT (.cn iT .nl), iT, fun x => F x.1 x.2.1⟩
noncomputable def swapR_s (F : (List Int) → Int → Int → Int → (List Int) → Option (Unit × (List Int) × Int × Int × Int × (Unit × (List Int) × Unit) × Unit)) : As.SpecM := ⟨[.buf true iT, .val iT, .val iT, .val iT, .fn 20 [] [.cell false (.slc iT)]], .tup .nl, fun x => F x.1 x.2.1 x.2.2.1 x.2.2.2.1 x.2.2.2.2.1.2.1⟩
noncomputable def rot_s (F : (List Int) → Int → Int → Int → (List Int) → Option (Unit × (List Int) × Int × Int × Int × (Unit × (List Int) × Unit) × Unit)) : As.SpecM := ⟨[.buf true iT, .val iT, .val iT, .val iT, .fn 20 [] [.cell false (.slc iT)]], .tup .nl, fun x => F x.1 x.2.1 x.2.2.1 x.2.2.2.1 x.2.2.2.2.1.2.1⟩
noncomputable def insS_s (F : (List Int) → Int → Int → (List Int) → Option (Unit × (List Int) × Int × Int × (Unit × (List Int) × Unit) × Unit)) : As.SpecM := ⟨[.buf true iT, .val iT, .val iT, .fn 20 [] [.cell false (.slc iT)]], .tup .nl, fun x => F x.1 x.2.1 x.2.2.1 x.2.2.2.1.2.1⟩
noncomputable def symM_s (F : (List Int) → Int → Int → Int → (List Int) → Option (Unit × (List Int) × Int × Int × Int × (Unit × (List Int) × Unit) × Unit)) : As.SpecM := ⟨[.buf true iT, .val iT, .val iT, .val iT, .fn 20 [] [.cell false (.slc iT)]], .tup .nl, fun x => F x.1 x.2.1 x.2.2.1 x.2.2.2.1 x.2.2.2.2.1.2.1⟩
noncomputable def stab_s (F : (List Int) → Int → (List Int) → Option (Unit × (List Int) × Int × (Unit × (List Int) × Unit) × Unit)) : As.SpecM := ⟨[.buf true iT, .val iT, .fn 20 [] [.cell false (.slc iT)]], .tup .nl, fun x => F x.1 x.2.1 x.2.2.1.2.1⟩
noncomputable def sortS_s (F : (List Int) → (List Int) → Option (Unit × (List Int) × (Unit × (List Int) × Unit) × Unit)) : As.SpecM := ⟨[.buf true iT, .fn 20 [] [.cell false (.slc iT)]], .tup .nl, fun x => F x.1 x.2.1.2.1⟩
noncomputable def valC_s (F : (List Int) → Int → Option Int) : As.Spec := ⟨.cn (.slc iT) (.cn iT .nl), iT, fun x => F x.1 x.2.1⟩
noncomputable def valS_s (F : (List Int) → Int → Option Bool) : As.Spec := ⟨.cn (.slc iT) (.cn iT .nl), .bool, fun x => F x.1 x.2.1⟩
noncomputable def maxL_s (F : (List Int) → Option Int) : As.Spec := ⟨.cn (.slc iT) .nl, iT, fun x => F x.1⟩
noncomputable def asgn_s (F : (List Int) → Int → Option ((List Int) × Int × Unit)) : As.Spec := ⟨.cn (.slc iT) (.cn iT .nl), .tup (.cn (.slc iT) (.cn iT .nl)), fun x => F x.1 x.2.1⟩
noncomputable def mksp_s (F : (List Int) → (List Int) → Int → Option (Int × Int × Unit)) : As.Spec := ⟨.cn (.slc iT) (.cn (.slc iT) (.cn iT .nl)), .tup (.cn iT (.cn iT .nl)), fun x => F x.1 x.2.1 x.2.2.1⟩
noncomputable def scr_s (F : (List Int) → Int → Option ((List (Int × Int × Int × Int × Unit)) × Int × Unit)) : As.Spec := ⟨.cn (.slc iT) (.cn iT .nl), .tup (.cn (.slc (.st 4 (.cn iT (.cn iT (.cn iT (.cn iT .nl)))))) (.cn iT .nl)), fun x => F x.1 x.2.1⟩
noncomputable def rErr_s (F : (List Int) → Int → Option Int) : As.Spec := ⟨.cn (.slc iT) (.cn iT .nl), iT, fun x => F x.1 x.2.1⟩
noncomputable def rAsg_s (F : (List Int) → Int → Option ((List Int) × Int × Unit)) : As.Spec := ⟨.cn (.slc iT) (.cn iT .nl), .tup (.cn (.slc iT) (.cn iT .nl)), fun x => F x.1 x.2.1⟩
noncomputable def rMks_s (F : (List Int) → (List Int) → Int → Option (Int × Int × Unit)) : As.Spec := ⟨.cn (.slc iT) (.cn (.slc iT) (.cn iT .nl)), .tup (.cn iT (.cn iT .nl)), fun x => F x.1 x.2.1 x.2.2.1⟩
noncomputable def rScr_s (F : (List Int) → Int → Option ((List (Int × Int × Int × Int × Unit)) × Int × Unit)) : As.Spec := ⟨.cn (.slc iT) (.cn iT .nl), .tup (.cn (.slc (.st 4 (.cn iT (.cn iT (.cn iT (.cn iT .nl)))))) (.cn iT .nl)), fun x => F x.1 x.2.1⟩
noncomputable def eqI_s (F : (List Int) → (List Int) → Option Bool) : As.Spec := ⟨.cn (.slc iT) (.cn (.slc iT) .nl), .bool, fun x => F x.1 x.2.1⟩
noncomputable def eqA_s (F : (List (Int × Int × Int × Int × Unit)) → (List (Int × Int × Int × Int × Unit)) → Option Bool) : As.Spec := ⟨.cn (.slc (.st 4 (.cn iT (.cn iT (.cn iT (.cn iT .nl)))))) (.cn (.slc (.st 4 (.cn iT (.cn iT (.cn iT (.cn iT .nl)))))) .nl), .bool, fun x => F x.1 x.2.1⟩
noncomputable def exam_s (F : Option Bool) : As.Spec := ⟨.nl, .bool, fun x => F⟩
noncomputable def lawS_s (F : (List Int) → (List Int) → Int → Option Bool) : As.Spec := ⟨.cn (.slc iT) (.cn (.slc iT) (.cn iT .nl)), .bool, fun x => F x.1 x.2.1 x.2.2.1⟩
noncomputable def hn : Nat → Nat → Option Hint := fun f k => match f, k with
 | 83, 1 => some ⟨[(10, .val iT)], [], [(0, iT)]⟩
 | 70, 2 => some ⟨[(10, .val iT), (11, .val iT)], [], [(0, iT)]⟩
 | 55, 1 => some ⟨[(8, .val iT)], [], [(0, iT)]⟩
 | 55, 4 => some ⟨[(9, .val iT)], [], [(0, iT)]⟩
 | 56, 3 => some ⟨[(10, .val iT), (11, .val iT)], [], []⟩
 | 56, 9 => some ⟨[(13, .val iT)], [], [(0, iT)]⟩
 | 56, 15 => some ⟨[(14, .val iT), (15, .val iT)], [], []⟩
 | 56, 21 => some ⟨[(17, .val iT)], [], [(0, iT)]⟩
 | 56, 33 => some ⟨[(20, .val iT), (21, .val iT)], [], []⟩
 | 38, 2 => some ⟨[(7, .val iT), (8, .val iT)], [], [(0, iT)]⟩
 | 38, 7 => some ⟨[(6, .val iT)], [], [(0, iT)]⟩
 | 38, 9 => some ⟨[(7, .val iT), (8, .val iT)], [], [(0, iT)]⟩
 | 24, 5 => some ⟨[(3, .val iT), (4, .val iT)], [], []⟩
 | 5, 6 => some ⟨[(27, .val iT)], [], [(1, iT)]⟩
 | 5, 14 => some ⟨[(45, .val iT)], [], [(2, iT), (3, iT)]⟩
 | 5, 18 => some ⟨[(51, .val iT), (13, .val iT)], [], []⟩
 | 7, 8 => some ⟨[(33, .val iT)], [], [(0, iT)]⟩
 | 9, 9 => some ⟨[(6, .buf false (.st 4 (.cn (.int .i64) (.cn (.int .i64) (.cn (.int .i64) (.cn (.int .i64) .nl)))))), (27, .val (.int .i64))], [], []⟩
 | 22, 6 => some ⟨[(5, .val (.int .i64))], [], []⟩
 | 6, 8 => some ⟨[(10, .val (.int .i64))], [], [(1000007, .int .i64), (1000008, .bool), (1000009, .int .i64)]⟩
 | 6, 12 => some ⟨[(11, .val (.int .i64)), (12, .val (.int .i64))], [], []⟩
 | 6, 18 => some ⟨[(13, .val (.int .i64)), (14, .val (.int .i64))], [], []⟩
 | 8, 8 => some ⟨[(10, .val (.int .i64))], [], [(1000009, .int .i64)]⟩
 | 8, 15 => some ⟨[(11, .val (.int .i64)), (12, .val (.int .i64))], [], []⟩
 | 10, 7 => some ⟨[(6, .buf false (.st 4 (.cn (.int .i64) (.cn (.int .i64) (.cn (.int .i64) (.cn (.int .i64) .nl)))))), (7, .val (.int .i64))], [], []⟩
 | 11, 4 => some ⟨[(5, .val (.int .i64))], [], []⟩
 | 12, 4 => some ⟨[(5, .val (.int .i64))], [], []⟩
 | 54, 2 => some ⟨[(8, .val iT)], [], []⟩
 | _, _ => none
noncomputable def jn : Nat → Nat → Option Hint := fun f k => match f, k with
 | 70, 8 => some ⟨[(10, .val iT)], [], [(0, iT)]⟩
 | 55, 2 => some ⟨[], [], [(0, iT)]⟩
 | 56, 8 => some ⟨[(10, .val iT)], [], []⟩
 | 56, 20 => some ⟨[(14, .val iT)], [], []⟩
 | 56, 32 => some ⟨[(20, .val iT), (21, .val iT)], [], []⟩
 | 56, 38 => some ⟨[(20, .val iT)], [], []⟩
 | 56, 41 => some ⟨[], [], [(0, iT)]⟩
 | 56, 43 => some ⟨[], [], [(0, iT)]⟩
 | 38, 6 => some ⟨[(7, .val iT)], [], [(0, iT)]⟩
 | 38, 16 => some ⟨[], [], [(0, iT)]⟩
 | _, _ => none
def un : Nat → Nat → Bool := fun f k => match f, k with
 | _, _ => false
variable [Gh]
theorem cmpI_c (a : Int) (b : Int) : callS (ceJ envE [] [] hn jn un) 200 21 (.cn iT (.cn iT .nl)) (iT) (a, (b, ())) = cmpI a b := by kernel_rfl
theorem cmpI_ok : SpecOk envE 21 (cmpI_s cmpI) := SpecOk.ofC (C := ceJ envE [] [] hn jn un) (ceJ_ok trivial trivial) rfl 200 fun x y e => (cmpI_c x.1 x.2.1).trans e
theorem swapR_c (d : List Int) (a : Int) (b : Int) (n : Int) (c : List Int) : callSM (ceJ envE [] [] hn jn un) 200 83 [.buf true iT, .val iT, .val iT, .val iT, .fn 20 [] [.cell false (.slc iT)]] (.tup .nl) (d, (a, (b, (n, (((), (c, ())), ()))))) = swapR d a b n c := by kernel_rfl
theorem swapR_ok : SpecMOk envE 83 (swapR_s swapR) := SpecMOk.of (C := ceJ envE [] [] hn jn un) (ceJ_ok trivial trivial) 200 fun x y e => (swapR_c x.1 x.2.1 x.2.2.1 x.2.2.2.1 x.2.2.2.2.1.2.1).trans e
theorem rot_c (d : List Int) (a : Int) (b : Int) (n : Int) (c : List Int) : callSM (ceJ envE [] [(83, swapR_s swapR)] hn jn un) 200 70 [.buf true iT, .val iT, .val iT, .val iT, .fn 20 [] [.cell false (.slc iT)]] (.tup .nl) (d, (a, (b, (n, (((), (c, ())), ()))))) = rot d a b n c := by kernel_rfl
theorem rot_ok : SpecMOk envE 70 (rot_s rot) := SpecMOk.of (C := ceJ envE [] [(83, swapR_s swapR)] hn jn un) (ceJ_ok trivial ⟨swapR_ok, trivial⟩) 200 fun x y e => (rot_c x.1 x.2.1 x.2.2.1 x.2.2.2.1 x.2.2.2.2.1.2.1).trans e
theorem insS_c (d : List Int) (a : Int) (b : Int) (c : List Int) : callSM (ceJ envE [(21, cmpI_s cmpI)] [] hn jn un) 200 55 [.buf true iT, .val iT, .val iT, .fn 20 [] [.cell false (.slc iT)]] (.tup .nl) (d, (a, (b, (((), (c, ())), ())))) = insS d a b c := by kernel_rfl
theorem insS_ok : SpecMOk envE 55 (insS_s insS) := SpecMOk.of (C := ceJ envE [(21, cmpI_s cmpI)] [] hn jn un) (ceJ_ok ⟨cmpI_ok, trivial⟩ trivial) 200 fun x y e => (insS_c x.1 x.2.1 x.2.2.1 x.2.2.2.1.2.1).trans e
theorem symM_c (F : (List Int) → Int → Int → Int → (List Int) → Option (Unit × (List Int) × Int × Int × Int × (Unit × (List Int) × Unit) × Unit)) (d : List Int) (a : Int) (b : Int) (n : Int) (c : List Int) : callSM (ceJ envE [(21, cmpI_s cmpI)] [(70, rot_s rot), (56, symM_s F)] hn jn un) 200 56 [.buf true iT, .val iT, .val iT, .val iT, .fn 20 [] [.cell false (.slc iT)]] (.tup .nl) (d, (a, (b, (n, (((), (c, ())), ()))))) = symMT F d a b n c := by kernel_rfl
theorem symM_okN : ∀ n, SpecMOk envE 56 (symM_s (symMN n))
 | 0 => fun x y e => (by cases e)
 | n + 1 => SpecMOk.of (C := ceJ envE [(21, cmpI_s cmpI)] [(70, rot_s rot), (56, symM_s (symMN n))] hn jn un) (ceJ_ok ⟨cmpI_ok, trivial⟩ ⟨rot_ok, symM_okN n, trivial⟩) 200 fun x y e => (symM_c (symMN n) x.1 x.2.1 x.2.2.1 x.2.2.2.1 x.2.2.2.2.1.2.1).trans e
theorem symM_ok : SpecMOk envE 56 (symM_s symM) := symM_okN 600
theorem stab_c (d : List Int) (n : Int) (c : List Int) : callSM (ceJ envE [] [(55, insS_s insS), (56, symM_s symM)] hn jn un) 200 38 [.buf true iT, .val iT, .fn 20 [] [.cell false (.slc iT)]] (.tup .nl) (d, (n, (((), (c, ())), ()))) = stab d n c := by kernel_rfl
theorem stab_ok : SpecMOk envE 38 (stab_s stab) := SpecMOk.of (C := ceJ envE [] [(55, insS_s insS), (56, symM_s symM)] hn jn un) (ceJ_ok trivial ⟨insS_ok, symM_ok, trivial⟩) 200 fun x y e => (stab_c x.1 x.2.1 x.2.2.1.2.1).trans e
theorem sortS_c (d : List Int) (c : List Int) : callSM (ceJ envE [] [(38, stab_s stab)] hn jn un) 200 19 [.buf true iT, .fn 20 [] [.cell false (.slc iT)]] (.tup .nl) (d, (((), (c, ())), ())) = sortS d c := by kernel_rfl
theorem sortS_ok : SpecMOk envE 19 (sortS_s sortS) := SpecMOk.of (C := ceJ envE [] [(38, stab_s stab)] hn jn un) (ceJ_ok trivial ⟨stab_ok, trivial⟩) 200 fun x y e => (sortS_c x.1 x.2.1.2.1).trans e
theorem valC_c (l : List Int) (w : Int) : callS (ceJ envE [] [] hn jn un) 200 18 (.cn (.slc iT) (.cn iT .nl)) (iT) (l, (w, ())) = valC l w := by kernel_rfl
theorem valC_ok : SpecOk envE 18 (valC_s valC) := SpecOk.ofC (C := ceJ envE [] [] hn jn un) (ceJ_ok trivial trivial) rfl 200 fun x y e => (valC_c x.1 x.2.1).trans e
theorem valS_c (l : List Int) (w : Int) : callS (ceJ envE [] [] hn jn un) 200 23 (.cn (.slc iT) (.cn iT .nl)) (.bool) (l, (w, ())) = valS l w := by kernel_rfl
theorem valS_ok : SpecOk envE 23 (valS_s valS) := SpecOk.ofC (C := ceJ envE [] [] hn jn un) (ceJ_ok trivial trivial) rfl 200 fun x y e => (valS_c x.1 x.2.1).trans e
theorem maxL_c (l : List Int) : callS (ceJ envE [] [] hn jn un) 200 24 (.cn (.slc iT) .nl) (iT) (l, ()) = maxL l := by kernel_rfl
theorem maxL_ok : SpecOk envE 24 (maxL_s maxL) := SpecOk.ofC (C := ceJ envE [] [] hn jn un) (ceJ_ok trivial trivial) rfl 200 fun x y e => (maxL_c x.1).trans e
theorem asgn_c (l : List Int) (w : Int) : callS (ceJ envE [(18, valC_s valC)] [(19, sortS_s sortS)] hn jn un) 200 5 (.cn (.slc iT) (.cn iT .nl)) (.tup (.cn (.slc iT) (.cn iT .nl))) (l, (w, ())) = asgn l w := by kernel_rfl
theorem asgn_ok : SpecOk envE 5 (asgn_s asgn) := SpecOk.ofC (C := ceJ envE [(18, valC_s valC)] [(19, sortS_s sortS)] hn jn un) (ceJ_ok ⟨valC_ok, trivial⟩ ⟨sortS_ok, trivial⟩) rfl 200 fun x y e => (asgn_c x.1 x.2.1).trans e
theorem mksp_c (l : List Int) (q : List Int) (w : Int) : callS (ceJ envE [(18, valC_s valC), (23, valS_s valS), (24, maxL_s maxL)] [] hn jn un) 200 7 (.cn (.slc iT) (.cn (.slc iT) (.cn iT .nl))) (.tup (.cn iT (.cn iT .nl))) (l, (q, (w, ()))) = mksp l q w := by kernel_rfl
theorem mksp_ok : SpecOk envE 7 (mksp_s mksp) := SpecOk.ofC (C := ceJ envE [(18, valC_s valC), (23, valS_s valS), (24, maxL_s maxL)] [] hn jn un) (ceJ_ok ⟨valC_ok, valS_ok, maxL_ok, trivial⟩ trivial) rfl 200 fun x y e => (mksp_c x.1 x.2.1 x.2.2.1).trans e
theorem scr_c (l : List Int) (w : Int) : callS (ceJ envE [(23, valS_s valS)] [] hn jn un) 200 9 (.cn (.slc iT) (.cn iT .nl)) (.tup (.cn (.slc (.st 4 (.cn iT (.cn iT (.cn iT (.cn iT .nl)))))) (.cn iT .nl))) (l, (w, ())) = scr l w := by kernel_rfl
theorem scr_ok : SpecOk envE 9 (scr_s scr) := SpecOk.ofC (C := ceJ envE [(23, valS_s valS)] [] hn jn un) (ceJ_ok ⟨valS_ok, trivial⟩ trivial) rfl 200 fun x y e => (scr_c x.1 x.2.1).trans e
theorem rErr_c (l : List Int) (w : Int) : callS (ceJ envE [] [] hn jn un) 200 22 (.cn (.slc iT) (.cn iT .nl)) (iT) (l, (w, ())) = rErr l w := by kernel_rfl
theorem rErr_ok : SpecOk envE 22 (rErr_s rErr) := SpecOk.ofC (C := ceJ envE [] [] hn jn un) (ceJ_ok trivial trivial) rfl 200 fun x y e => (rErr_c x.1 x.2.1).trans e
theorem rAsg_c (l : List Int) (w : Int) : callS (ceJ envE [(22, rErr_s rErr)] [] hn jn un) 200 6 (.cn (.slc iT) (.cn iT .nl)) (.tup (.cn (.slc iT) (.cn iT .nl))) (l, (w, ())) = rAsg l w := by kernel_rfl
theorem rAsg_ok : SpecOk envE 6 (rAsg_s rAsg) := SpecOk.ofC (C := ceJ envE [(22, rErr_s rErr)] [] hn jn un) (ceJ_ok ⟨rErr_ok, trivial⟩ trivial) rfl 200 fun x y e => (rAsg_c x.1 x.2.1).trans e
theorem rMks_c (l : List Int) (q : List Int) (w : Int) : callS (ceJ envE [(22, rErr_s rErr)] [] hn jn un) 200 8 (.cn (.slc iT) (.cn (.slc iT) (.cn iT .nl))) (.tup (.cn iT (.cn iT .nl))) (l, (q, (w, ()))) = rMks l q w := by kernel_rfl
theorem rMks_ok : SpecOk envE 8 (rMks_s rMks) := SpecOk.ofC (C := ceJ envE [(22, rErr_s rErr)] [] hn jn un) (ceJ_ok ⟨rErr_ok, trivial⟩ trivial) rfl 200 fun x y e => (rMks_c x.1 x.2.1 x.2.2.1).trans e
theorem rScr_c (l : List Int) (w : Int) : callS (ceJ envE [] [] hn jn un) 200 10 (.cn (.slc iT) (.cn iT .nl)) (.tup (.cn (.slc (.st 4 (.cn iT (.cn iT (.cn iT (.cn iT .nl)))))) (.cn iT .nl))) (l, (w, ())) = rScr l w := by kernel_rfl
theorem rScr_ok : SpecOk envE 10 (rScr_s rScr) := SpecOk.ofC (C := ceJ envE [] [] hn jn un) (ceJ_ok trivial trivial) rfl 200 fun x y e => (rScr_c x.1 x.2.1).trans e
theorem eqI_c (a : List Int) (b : List Int) : callS (ceJ envE [] [] hn jn un) 200 11 (.cn (.slc iT) (.cn (.slc iT) .nl)) (.bool) (a, (b, ())) = eqI a b := by kernel_rfl
theorem eqI_ok : SpecOk envE 11 (eqI_s eqI) := SpecOk.ofC (C := ceJ envE [] [] hn jn un) (ceJ_ok trivial trivial) rfl 200 fun x y e => (eqI_c x.1 x.2.1).trans e
theorem eqA_c (a : List (Int × Int × Int × Int × Unit)) (b : List (Int × Int × Int × Int × Unit)) : callS (ceJ envE [] [] hn jn un) 200 12 (.cn (.slc (.st 4 (.cn iT (.cn iT (.cn iT (.cn iT .nl)))))) (.cn (.slc (.st 4 (.cn iT (.cn iT (.cn iT (.cn iT .nl)))))) .nl)) (.bool) (a, (b, ())) = eqA a b := by kernel_rfl
theorem eqA_ok : SpecOk envE 12 (eqA_s eqA) := SpecOk.ofC (C := ceJ envE [] [] hn jn un) (ceJ_ok trivial trivial) rfl 200 fun x y e => (eqA_c x.1 x.2.1).trans e
theorem exam_ok : SpecOk envE 4 (exam_s exam) := fun x y e => (by cases e; cases x; kernel_rfl)
theorem lawS_c (l : List Int) (q : List Int) (w : Int) : callS (ceJ envE [(5, asgn_s asgn), (7, mksp_s mksp), (9, scr_s scr), (6, rAsg_s rAsg), (8, rMks_s rMks), (10, rScr_s rScr), (11, eqI_s eqI), (12, eqA_s eqA), (4, exam_s exam)] [] hn jn un) 200 3 (.cn (.slc iT) (.cn (.slc iT) (.cn iT .nl))) (.bool) (l, (q, (w, ()))) = lawS l q w := by kernel_rfl
theorem lawS_ok : SpecOk envE 3 (lawS_s lawS) := SpecOk.ofC (C := ceJ envE [(5, asgn_s asgn), (7, mksp_s mksp), (9, scr_s scr), (6, rAsg_s rAsg), (8, rMks_s rMks), (10, rScr_s rScr), (11, eqI_s eqI), (12, eqA_s eqA), (4, exam_s exam)] [] hn jn un) (ceJ_ok ⟨asgn_ok, mksp_ok, scr_ok, rAsg_ok, rMks_ok, rScr_ok, eqI_ok, eqA_ok, exam_ok, trivial⟩ trivial) rfl 200 fun x y e => (lawS_c x.1 x.2.1 x.2.2.1).trans e
end Go.Proofs.YtfpkonppeefhfaaGreatDoor
