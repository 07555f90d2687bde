/-
  Each tree is what its function computes.
-/
import Derived.Test.YtjdihfpfimkinaaGreatDoorE
import Derived.Test.YtjdihfpfimkinaaGreatDoorA9
import Derived.Test.YtjdihfpfimkinaaGreatDoorT
import Derived.KernelRfl
set_option linter.unusedSectionVars false
set_option linter.unusedSimpArgs false
set_option linter.unusedVariables false
namespace Go.Proofs.YtjdihfpfimkinaaGreatDoor
open Go.As
noncomputable abbrev iT : Ty := .int .i64
noncomputable def cmpI_s (F : Int → Int → Option Int) : As.Spec := ⟨.cn iT (.cn iT .nl), iT, fun x => F x.1 x.2.1⟩
noncomputable def swapR_s (F : (List Int) → Int → Int → Int → (List Int) → Option (Unit × (List Int) × Int × Int × Int × (Unit × (List Int) × Unit) × Unit)) : As.SpecM := ⟨[.buf true iT, .val iT, .val iT, .val iT, .fn 15 [] [.cell false (.slc iT)]], .tup .nl, fun x => F x.1 x.2.1 x.2.2.1 x.2.2.2.1 x.2.2.2.2.1.2.1⟩
noncomputable def rot_s (F : (List Int) → Int → Int → Int → (List Int) → Option (Unit × (List Int) × Int × Int × Int × (Unit × (List Int) × Unit) × Unit)) : As.SpecM := ⟨[.buf true iT, .val iT, .val iT, .val iT, .fn 15 [] [.cell false (.slc iT)]], .tup .nl, fun x => F x.1 x.2.1 x.2.2.1 x.2.2.2.1 x.2.2.2.2.1.2.1⟩
noncomputable def insS_s (F : (List Int) → Int → Int → (List Int) → Option (Unit × (List Int) × Int × Int × (Unit × (List Int) × Unit) × Unit)) : As.SpecM := ⟨[.buf true iT, .val iT, .val iT, .fn 15 [] [.cell false (.slc iT)]], .tup .nl, fun x => F x.1 x.2.1 x.2.2.1 x.2.2.2.1.2.1⟩
noncomputable def symM_s (F : (List Int) → Int → Int → Int → (List Int) → Option (Unit × (List Int) × Int × Int × Int × (Unit × (List Int) × Unit) × Unit)) : As.SpecM := ⟨[.buf true iT, .val iT, .val iT, .val iT, .fn 15 [] [.cell false (.slc iT)]], .tup .nl, fun x => F x.1 x.2.1 x.2.2.1 x.2.2.2.1 x.2.2.2.2.1.2.1⟩
noncomputable def stab_s (F : (List Int) → Int → (List Int) → Option (Unit × (List Int) × Int × (Unit × (List Int) × Unit) × Unit)) : As.SpecM := ⟨[.buf true iT, .val iT, .fn 15 [] [.cell false (.slc iT)]], .tup .nl, fun x => F x.1 x.2.1 x.2.2.1.2.1⟩
noncomputable def sortS_s (F : (List Int) → (List Int) → Option (Unit × (List Int) × (Unit × (List Int) × Unit) × Unit)) : As.SpecM := ⟨[.buf true iT, .fn 15 [] [.cell false (.slc iT)]], .tup .nl, fun x => F x.1 x.2.1.2.1⟩
noncomputable def valC_s (F : (List Int) → Int → Option Int) : As.Spec := ⟨.cn (.slc iT) (.cn iT .nl), iT, fun x => F x.1 x.2.1⟩
noncomputable def valS_s (F : (List Int) → Int → Option Bool) : As.Spec := ⟨.cn (.slc iT) (.cn iT .nl), .bool, fun x => F x.1 x.2.1⟩
noncomputable def maxL_s (F : (List Int) → Option Int) : As.Spec := ⟨.cn (.slc iT) .nl, iT, fun x => F x.1⟩
noncomputable def asgn_s (F : (List Int) → Int → Option ((List Int) × Int × Unit)) : As.Spec := ⟨.cn (.slc iT) (.cn iT .nl), .tup (.cn (.slc iT) (.cn iT .nl)), fun x => F x.1 x.2.1⟩
noncomputable def mksp_s (F : (List Int) → (List Int) → Int → Option (Int × Int × Unit)) : As.Spec := ⟨.cn (.slc iT) (.cn (.slc iT) (.cn iT .nl)), .tup (.cn iT (.cn iT .nl)), fun x => F x.1 x.2.1 x.2.2.1⟩
noncomputable def exam_s (F : Option Bool) : As.Spec := ⟨.nl, .bool, fun x => F⟩
noncomputable def lawM_s (F : (List Int) → Int → Option Bool) : As.Spec := ⟨.cn (.slc iT) (.cn iT .nl), .bool, fun x => F x.1 x.2.1⟩
noncomputable def hn : Nat → Nat → Option Hint := fun f k => match f, k with
  | 77, 1 => some ⟨[(10, .val iT)], [], [(0, iT)]⟩
  | 64, 2 => some ⟨[(10, .val iT), (11, .val iT)], [], [(0, iT)]⟩
  | 49, 1 => some ⟨[(8, .val iT)], [], [(0, iT)]⟩
  | 49, 4 => some ⟨[(9, .val iT)], [], [(0, iT)]⟩
  | 50, 3 => some ⟨[(10, .val iT), (11, .val iT)], [], []⟩
  | 50, 9 => some ⟨[(13, .val iT)], [], [(0, iT)]⟩
  | 50, 15 => some ⟨[(14, .val iT), (15, .val iT)], [], []⟩
  | 50, 21 => some ⟨[(17, .val iT)], [], [(0, iT)]⟩
  | 50, 33 => some ⟨[(20, .val iT), (21, .val iT)], [], []⟩
  | 32, 2 => some ⟨[(7, .val iT), (8, .val iT)], [], [(0, iT)]⟩
  | 32, 7 => some ⟨[(6, .val iT)], [], [(0, iT)]⟩
  | 32, 9 => some ⟨[(7, .val iT), (8, .val iT)], [], [(0, iT)]⟩
  | 18, 5 => some ⟨[(3, .val iT), (4, .val iT)], [], []⟩
  | 5, 6 => some ⟨[(27, .val iT)], [], [(1, iT)]⟩
  | 5, 14 => some ⟨[(45, .val iT)], [], [(2, iT), (3, iT)]⟩
  | 5, 18 => some ⟨[(51, .val iT), (13, .val iT)], [], []⟩
  | 6, 8 => some ⟨[(33, .val iT)], [], [(0, iT)]⟩
  | 3, 11 => some ⟨[(11, .val iT), (9, .val iT), (10, .val iT)], [], []⟩
  | 48, 2 => some ⟨[(8, .val iT)], [], []⟩
  | _, _ => none
noncomputable def jn : Nat → Nat → Option Hint := fun f k => match f, k with
  | 64, 8 => some ⟨[(10, .val iT)], [], [(0, iT)]⟩
  | 49, 2 => some ⟨[], [], [(0, iT)]⟩
  | 50, 8 => some ⟨[(10, .val iT)], [], []⟩
  | 50, 20 => some ⟨[(14, .val iT)], [], []⟩
  | 50, 32 => some ⟨[(20, .val iT), (21, .val iT)], [], []⟩
  | 50, 38 => some ⟨[(20, .val iT)], [], []⟩
  | 50, 41 => some ⟨[], [], [(0, iT)]⟩
  | 50, 43 => some ⟨[], [], [(0, iT)]⟩
  | 32, 6 => some ⟨[(7, .val iT)], [], [(0, iT)]⟩
  | 32, 16 => some ⟨[], [], [(0, iT)]⟩
  | _, _ => none
def un : Nat → Nat → Bool := fun f k => match f, k with
  | _, _ => false
variable [Gh]
theorem cmpI_c (a : Int) (b : Int) : callS (ceJ envE [] [] hn jn un) 200 16 (.cn iT (.cn iT .nl)) (iT) (a, (b, ())) = cmpI a b := by kernel_rfl
theorem cmpI_ok : SpecOk envE 16 (cmpI_s cmpI) := SpecOk.ofC (C := ceJ envE [] [] hn jn un) (ceJ_ok trivial trivial) rfl 200 fun x y e => (cmpI_c x.1 x.2.1).trans e
theorem swapR_c (d : List Int) (a : Int) (b : Int) (n : Int) (c : List Int) : callSM (ceJ envE [] [] hn jn un) 200 77 [.buf true iT, .val iT, .val iT, .val iT, .fn 15 [] [.cell false (.slc iT)]] (.tup .nl) (d, (a, (b, (n, (((), (c, ())), ()))))) = swapR d a b n c := by kernel_rfl
theorem swapR_ok : SpecMOk envE 77 (swapR_s swapR) := SpecMOk.of (C := ceJ envE [] [] hn jn un) (ceJ_ok trivial trivial) 200 fun x y e => (swapR_c x.1 x.2.1 x.2.2.1 x.2.2.2.1 x.2.2.2.2.1.2.1).trans e
theorem rot_c (d : List Int) (a : Int) (b : Int) (n : Int) (c : List Int) : callSM (ceJ envE [] [(77, swapR_s swapR)] hn jn un) 200 64 [.buf true iT, .val iT, .val iT, .val iT, .fn 15 [] [.cell false (.slc iT)]] (.tup .nl) (d, (a, (b, (n, (((), (c, ())), ()))))) = rot d a b n c := by kernel_rfl
theorem rot_ok : SpecMOk envE 64 (rot_s rot) := SpecMOk.of (C := ceJ envE [] [(77, swapR_s swapR)] hn jn un) (ceJ_ok trivial ⟨swapR_ok, trivial⟩) 200 fun x y e => (rot_c x.1 x.2.1 x.2.2.1 x.2.2.2.1 x.2.2.2.2.1.2.1).trans e
theorem insS_c (d : List Int) (a : Int) (b : Int) (c : List Int) : callSM (ceJ envE [(16, cmpI_s cmpI)] [] hn jn un) 200 49 [.buf true iT, .val iT, .val iT, .fn 15 [] [.cell false (.slc iT)]] (.tup .nl) (d, (a, (b, (((), (c, ())), ())))) = insS d a b c := by kernel_rfl
theorem insS_ok : SpecMOk envE 49 (insS_s insS) := SpecMOk.of (C := ceJ envE [(16, cmpI_s cmpI)] [] hn jn un) (ceJ_ok ⟨cmpI_ok, trivial⟩ trivial) 200 fun x y e => (insS_c x.1 x.2.1 x.2.2.1 x.2.2.2.1.2.1).trans e
theorem symM_c (F : (List Int) → Int → Int → Int → (List Int) → Option (Unit × (List Int) × Int × Int × Int × (Unit × (List Int) × Unit) × Unit)) (d : List Int) (a : Int) (b : Int) (n : Int) (c : List Int) : callSM (ceJ envE [(16, cmpI_s cmpI)] [(64, rot_s rot), (50, symM_s F)] hn jn un) 200 50 [.buf true iT, .val iT, .val iT, .val iT, .fn 15 [] [.cell false (.slc iT)]] (.tup .nl) (d, (a, (b, (n, (((), (c, ())), ()))))) = symMT F d a b n c := by kernel_rfl
theorem symM_okN : ∀ n, SpecMOk envE 50 (symM_s (symMN n))
  | 0 => fun x y e => (by cases e)
  | n + 1 => SpecMOk.of (C := ceJ envE [(16, cmpI_s cmpI)] [(64, rot_s rot), (50, symM_s (symMN n))] hn jn un) (ceJ_ok ⟨cmpI_ok, trivial⟩ ⟨rot_ok, symM_okN n, trivial⟩) 200 fun x y e => (symM_c (symMN n) x.1 x.2.1 x.2.2.1 x.2.2.2.1 x.2.2.2.2.1.2.1).trans e
theorem symM_ok : SpecMOk envE 50 (symM_s symM) := symM_okN 600
theorem stab_c (d : List Int) (n : Int) (c : List Int) : callSM (ceJ envE [] [(49, insS_s insS), (50, symM_s symM)] hn jn un) 200 32 [.buf true iT, .val iT, .fn 15 [] [.cell false (.slc iT)]] (.tup .nl) (d, (n, (((), (c, ())), ()))) = stab d n c := by kernel_rfl
theorem stab_ok : SpecMOk envE 32 (stab_s stab) := SpecMOk.of (C := ceJ envE [] [(49, insS_s insS), (50, symM_s symM)] hn jn un) (ceJ_ok trivial ⟨insS_ok, symM_ok, trivial⟩) 200 fun x y e => (stab_c x.1 x.2.1 x.2.2.1.2.1).trans e
theorem sortS_c (d : List Int) (c : List Int) : callSM (ceJ envE [] [(32, stab_s stab)] hn jn un) 200 14 [.buf true iT, .fn 15 [] [.cell false (.slc iT)]] (.tup .nl) (d, (((), (c, ())), ())) = sortS d c := by kernel_rfl
theorem sortS_ok : SpecMOk envE 14 (sortS_s sortS) := SpecMOk.of (C := ceJ envE [] [(32, stab_s stab)] hn jn un) (ceJ_ok trivial ⟨stab_ok, trivial⟩) 200 fun x y e => (sortS_c x.1 x.2.1.2.1).trans e
theorem valC_c (l : List Int) (w : Int) : callS (ceJ envE [] [] hn jn un) 200 13 (.cn (.slc iT) (.cn iT .nl)) (iT) (l, (w, ())) = valC l w := by kernel_rfl
theorem valC_ok : SpecOk envE 13 (valC_s valC) := SpecOk.ofC (C := ceJ envE [] [] hn jn un) (ceJ_ok trivial trivial) rfl 200 fun x y e => (valC_c x.1 x.2.1).trans e
theorem valS_c (l : List Int) (w : Int) : callS (ceJ envE [] [] hn jn un) 200 17 (.cn (.slc iT) (.cn iT .nl)) (.bool) (l, (w, ())) = valS l w := by kernel_rfl
theorem valS_ok : SpecOk envE 17 (valS_s valS) := SpecOk.ofC (C := ceJ envE [] [] hn jn un) (ceJ_ok trivial trivial) rfl 200 fun x y e => (valS_c x.1 x.2.1).trans e
theorem maxL_c (l : List Int) : callS (ceJ envE [] [] hn jn un) 200 18 (.cn (.slc iT) .nl) (iT) (l, ()) = maxL l := by kernel_rfl
theorem maxL_ok : SpecOk envE 18 (maxL_s maxL) := SpecOk.ofC (C := ceJ envE [] [] hn jn un) (ceJ_ok trivial trivial) rfl 200 fun x y e => (maxL_c x.1).trans e
theorem asgn_c (l : List Int) (w : Int) : callS (ceJ envE [(13, valC_s valC)] [(14, sortS_s sortS)] hn jn un) 200 5 (.cn (.slc iT) (.cn iT .nl)) (.tup (.cn (.slc iT) (.cn iT .nl))) (l, (w, ())) = asgn l w := by kernel_rfl
theorem asgn_ok : SpecOk envE 5 (asgn_s asgn) := SpecOk.ofC (C := ceJ envE [(13, valC_s valC)] [(14, sortS_s sortS)] hn jn un) (ceJ_ok ⟨valC_ok, trivial⟩ ⟨sortS_ok, trivial⟩) rfl 200 fun x y e => (asgn_c x.1 x.2.1).trans e
theorem mksp_c (l : List Int) (q : List Int) (w : Int) : callS (ceJ envE [(13, valC_s valC), (17, valS_s valS), (18, maxL_s maxL)] [] hn jn un) 200 6 (.cn (.slc iT) (.cn (.slc iT) (.cn iT .nl))) (.tup (.cn iT (.cn iT .nl))) (l, (q, (w, ()))) = mksp l q w := by kernel_rfl
theorem mksp_ok : SpecOk envE 6 (mksp_s mksp) := SpecOk.ofC (C := ceJ envE [(13, valC_s valC), (17, valS_s valS), (18, maxL_s maxL)] [] hn jn un) (ceJ_ok ⟨valC_ok, valS_ok, maxL_ok, trivial⟩ trivial) rfl 200 fun x y e => (mksp_c x.1 x.2.1 x.2.2.1).trans e
theorem exam_ok : SpecOk envE 4 (exam_s exam) := fun x y e => (by cases e; cases x; kernel_rfl)
theorem lawM_c (l : List Int) (w : Int) : callS (ceJ envE [(5, asgn_s asgn), (6, mksp_s mksp), (4, exam_s exam)] [] hn jn un) 200 3 (.cn (.slc iT) (.cn iT .nl)) (.bool) (l, (w, ())) = lawM l w := by kernel_rfl
theorem lawM_ok : SpecOk envE 3 (lawM_s lawM) := SpecOk.ofC (C := ceJ envE [(5, asgn_s asgn), (6, mksp_s mksp), (4, exam_s exam)] [] hn jn un) (ceJ_ok ⟨asgn_ok, mksp_ok, exam_ok, trivial⟩ trivial) rfl 200 fun x y e => (lawM_c x.1 x.2.1).trans e
end Go.Proofs.YtjdihfpfimkinaaGreatDoor
