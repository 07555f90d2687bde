/-
  The functions' trees, as the evaluator reads them off the code.
-/
import Derived.Test.YtjdihfpfimkinaaGreatDoorA9
set_option linter.unusedSectionVars false
set_option linter.unusedSimpArgs false
set_option linter.unusedVariables false
namespace Go.Proofs.YtjdihfpfimkinaaGreatDoor
open Go.As
noncomputable section
def cmpI (a : Int) (b : Int) : Option Int :=
  bif bif ieq a a then false else true then bif bif ieq b b then false else true then some 0 else some (-1)
else bif bif ieq b b then false else true then some 1 else bif ilt a b then some (-1) else bif ilt b a then some 1 else some 0
def swapR_step0 (a : Int) (b : Int) (n : Int) (c : List Int) (s0 : (Int × Unit) × Unit × List Int × Unit) : Option
  ((Int × Unit) × Unit × List Int × Unit ⊕ Unit × List Int × Int × Int × Int × (Unit × List Int × Unit) × Unit) :=
  bif ilt s0.1.1 n then
  bif bif ile 0 (wr .i64 (b + s0.1.1)) then ilt (wr .i64 (b + s0.1.1)) ↑s0.2.2.1.length else false then
    s0.2.2.1[(wr .i64 (b + s0.1.1)).toNat]?.bind fun (y1 : Int) =>
      bif bif ile 0 (wr .i64 (a + s0.1.1)) then ilt (wr .i64 (a + s0.1.1)) ↑s0.2.2.1.length else false then
        s0.2.2.1[(wr .i64 (a + s0.1.1)).toNat]?.bind fun (y2 : Int) =>
          bif bif ile 0 (wr .i64 (a + s0.1.1)) then ilt (wr .i64 (a + s0.1.1)) ↑s0.2.2.1.length else false then
            s0.2.2.1[(wr .i64 (a + s0.1.1)).toNat]?.bind fun (y3 : Int) =>
              bif bif ile 0 (wr .i64 (b + s0.1.1)) then ilt (wr .i64 (b + s0.1.1)) ↑(s0.2.2.1.set (wr .i64 (a + s0.1.1)).toNat y1).length else false then
                (s0.2.2.1.set (wr .i64 (a + s0.1.1)).toNat y1)[(wr .i64 (b + s0.1.1)).toNat]?.bind fun (y4 : Int) =>
                  some
                    (Sum.inl
                      ((wr .i64 (s0.1.1 + 1), ()), (), (s0.2.2.1.set (wr .i64 (a + s0.1.1)).toNat y1).set (wr .i64 (b + s0.1.1)).toNat y2, ()))
              else none
          else none
      else none
  else none
else some (Sum.inr ((), s0.2.2.1, a, b, n, ((), c, ()), ()))
def swapR (d : List Int) (a : Int) (b : Int) (n : Int) (c : List Int) : Option (Unit × List Int × Int × Int × Int × (Unit × List Int × Unit) × Unit) :=
  loopO (swapR_step0 a b n c) ((0, ()), (), d, ())
def rot_step0 (b : Int) (c : List Int) (s0 : (Int × Int × Unit) × Unit × List Int × Unit) : Option
  ((Int × Int × Unit) × Unit × List Int × Unit ⊕
    (Int × Unit) × Unit × List Int × Unit ⊕ Unit × List Int × Int × Int × Int × (Unit × List Int × Unit) × Unit) :=
  bif bif ieq s0.1.1 s0.1.2.1 then false else true then
  bif ilt s0.1.2.1 s0.1.1 then
    (swapR s0.2.2.1 (wr .i64 (b - s0.1.1)) b s0.1.2.1 c).bind fun (y1 : Unit × List Int × Int × Int × Int × (Unit × List Int × Unit) × Unit) =>
      some (Sum.inl ((wr .i64 (s0.1.1 - s0.1.2.1), s0.1.2.1, ()), (), y1.2.1, ()))
  else
    (swapR s0.2.2.1 (wr .i64 (b - s0.1.1)) (wr .i64 (wr .i64 (b + s0.1.2.1) - s0.1.1)) s0.1.1 c).bind
      fun (y2 : Unit × List Int × Int × Int × Int × (Unit × List Int × Unit) × Unit) => some (Sum.inl ((s0.1.1, wr .i64 (s0.1.2.1 - s0.1.1), ()), (), y2.2.1, ()))
else some (Sum.inr (Sum.inl ((s0.1.1, ()), (), s0.2.2.1, ())))
def rot_step1 (a : Int) (b : Int) (n : Int) (c : List Int) (s3 : (Int × Unit) × Unit × List Int × Unit) : Option (Unit × List Int × Int × Int × Int × (Unit × List Int × Unit) × Unit) :=
  (swapR s3.2.2.1 (wr .i64 (b - s3.1.1)) b s3.1.1 c).bind fun (y4 : Unit × List Int × Int × Int × Int × (Unit × List Int × Unit) × Unit) =>
  some ((), y4.2.1, a, b, n, ((), c, ()), ())
def rot (d : List Int) (a : Int) (b : Int) (n : Int) (c : List Int) : Option (Unit × List Int × Int × Int × Int × (Unit × List Int × Unit) × Unit) :=
  joinO (loopO (rot_step0 b c) ((wr .i64 (b - a), wr .i64 (n - b), ()), (), d, ())) (rot_step1 a b n c)
def insS_step0 (a : Int) (c : List Int) (s1 : (Int × Unit) × Unit × List Int × Unit) : Option
  ((Int × Unit) × Unit × List Int × Unit ⊕
    Unit × Unit × List Int × Unit ⊕
      (Int × Unit) × Unit × List Int × Unit ⊕ Unit × List Int × Int × Int × (Unit × List Int × Unit) × Unit) :=
  bif ilt a s1.1.1 then
  bif bif ile 0 s1.1.1 then ilt s1.1.1 ↑s1.2.2.1.length else false then
    s1.2.2.1[s1.1.1.toNat]?.bind fun (y2 : Int) =>
      bif bif ile 0 (wr .i64 (s1.1.1 - 1)) then ilt (wr .i64 (s1.1.1 - 1)) ↑s1.2.2.1.length else false then
        s1.2.2.1[(wr .i64 (s1.1.1 - 1)).toNat]?.bind fun (y3 : Int) =>
          bif ile 0 y3 then
            c[y3.toNat]?.bind fun (y4 : Int) =>
              bif ile 0 y2 then
                c[y2.toNat]?.bind fun (y5 : Int) =>
                  (cmpI y4 y5).bind fun (y6 : Int) =>
                    bif ilt y6 0 then
                      bif bif ile 0 (wr .i64 (s1.1.1 - 1)) then ilt (wr .i64 (s1.1.1 - 1)) ↑s1.2.2.1.length else false then
                        s1.2.2.1[(wr .i64 (s1.1.1 - 1)).toNat]?.bind fun (y7 : Int) =>
                          bif bif ile 0 s1.1.1 then ilt s1.1.1 ↑s1.2.2.1.length else false then
                            s1.2.2.1[s1.1.1.toNat]?.bind fun (y8 : Int) =>
                              bif bif ile 0 s1.1.1 then ilt s1.1.1 ↑s1.2.2.1.length else false then
                                s1.2.2.1[s1.1.1.toNat]?.bind fun (y9 : Int) =>
                                  bif bif ile 0 (wr .i64 (s1.1.1 - 1)) then ilt (wr .i64 (s1.1.1 - 1)) ↑(s1.2.2.1.set s1.1.1.toNat y7).length else false then
                                    (s1.2.2.1.set s1.1.1.toNat y7)[(wr .i64 (s1.1.1 - 1)).toNat]?.bind fun (y10 : Int) =>
                                      some
                                        (Sum.inl ((wr .i64 (s1.1.1 - 1), ()), (), (s1.2.2.1.set s1.1.1.toNat y7).set (wr .i64 (s1.1.1 - 1)).toNat y8, ()))
                                  else none
                              else none
                          else none
                      else none
                    else some (Sum.inr (Sum.inl ((), (), s1.2.2.1, ())))
              else none
          else none
      else none
  else none
else some (Sum.inr (Sum.inl ((), (), s1.2.2.1, ())))
def insS_step1 (s0 : (Int × Unit) × Unit × List Int × Unit) (s11 : Unit × Unit × List Int × Unit) : Option ((Int × Unit) × Unit × List Int × Unit ⊕ Unit × List Int × Int × Int × (Unit × List Int × Unit) × Unit) :=
  some (Sum.inl ((wr .i64 (s0.1.1 + 1), ()), (), s11.2.2.1, ()))
def insS_step2 (a : Int) (b : Int) (c : List Int) (s0 : (Int × Unit) × Unit × List Int × Unit) : Option ((Int × Unit) × Unit × List Int × Unit ⊕ Unit × List Int × Int × Int × (Unit × List Int × Unit) × Unit) :=
  bif ilt s0.1.1 b then joinO (loopO (insS_step0 a c) ((s0.1.1, ()), (), s0.2.2.1, ())) (insS_step1 s0)
else some (Sum.inr ((), s0.2.2.1, a, b, ((), c, ()), ()))
def insS (d : List Int) (a : Int) (b : Int) (c : List Int) : Option (Unit × List Int × Int × Int × (Unit × List Int × Unit) × Unit) :=
  loopO (insS_step2 a b c) ((wr .i64 (a + 1), ()), (), d, ())
def symM_step0 (d : List Int) (a : Int) (c : List Int) (s0 : (Int × Int × Unit) × Unit × Unit) : Option
  ((Int × Int × Unit) × Unit × Unit ⊕
    (Int × Unit) × Unit × Unit ⊕ Unit × List Int × Int × Int × Int × (Unit × List Int × Unit) × Unit) :=
  bif ilt s0.1.1 s0.1.2.1 then
  bif
      bif ile 0 (wr .i64 ((wr .u64 (wr .i64 (s0.1.1 + s0.1.2.1))).fdiv 2)) then
        ilt (wr .i64 ((wr .u64 (wr .i64 (s0.1.1 + s0.1.2.1))).fdiv 2)) ↑d.length
      else false then
    d[(wr .i64 ((wr .u64 (wr .i64 (s0.1.1 + s0.1.2.1))).fdiv 2)).toNat]?.bind fun (y1 : Int) =>
      bif bif ile 0 a then ilt a ↑d.length else false then
        d[a.toNat]?.bind fun (y2 : Int) =>
          bif ile 0 y2 then
            c[y2.toNat]?.bind fun (y3 : Int) =>
              bif ile 0 y1 then
                c[y1.toNat]?.bind fun (y4 : Int) =>
                  (cmpI y3 y4).bind fun (y5 : Int) =>
                    bif ilt y5 0 then
                      some (Sum.inl ((wr .i64 (wr .i64 ((wr .u64 (wr .i64 (s0.1.1 + s0.1.2.1))).fdiv 2) + 1), s0.1.2.1, ()), (), ()))
                    else some (Sum.inl ((s0.1.1, wr .i64 ((wr .u64 (wr .i64 (s0.1.1 + s0.1.2.1))).fdiv 2), ()), (), ()))
              else none
          else none
      else none
  else none
else some (Sum.inr (Sum.inl ((s0.1.1, ()), (), ())))
def symM_step1 (a : Int) (b : Int) (n : Int) (c : List Int) (s6 : (Int × Unit) × Unit × Unit) (s7 : (Int × Unit) × Unit × List Int × Unit) : Option
  ((Int × Unit) × Unit × List Int × Unit ⊕ Unit × List Int × Int × Int × Int × (Unit × List Int × Unit) × Unit) :=
  bif ilt s7.1.1 (wr .i64 (s6.1.1 - 1)) then
  bif bif ile 0 (wr .i64 (s7.1.1 + 1)) then ilt (wr .i64 (s7.1.1 + 1)) ↑s7.2.2.1.length else false then
    s7.2.2.1[(wr .i64 (s7.1.1 + 1)).toNat]?.bind fun (y8 : Int) =>
      bif bif ile 0 s7.1.1 then ilt s7.1.1 ↑s7.2.2.1.length else false then
        s7.2.2.1[s7.1.1.toNat]?.bind fun (y9 : Int) =>
          bif bif ile 0 s7.1.1 then ilt s7.1.1 ↑s7.2.2.1.length else false then
            s7.2.2.1[s7.1.1.toNat]?.bind fun (y10 : Int) =>
              bif bif ile 0 (wr .i64 (s7.1.1 + 1)) then ilt (wr .i64 (s7.1.1 + 1)) ↑(s7.2.2.1.set s7.1.1.toNat y8).length else false then
                (s7.2.2.1.set s7.1.1.toNat y8)[(wr .i64 (s7.1.1 + 1)).toNat]?.bind fun (y11 : Int) =>
                  some (Sum.inl ((wr .i64 (s7.1.1 + 1), ()), (), (s7.2.2.1.set s7.1.1.toNat y8).set (wr .i64 (s7.1.1 + 1)).toNat y9, ()))
              else none
          else none
      else none
  else none
else some (Sum.inr ((), s7.2.2.1, a, b, n, ((), c, ()), ()))
def symM_step2 (d : List Int) (a : Int) (b : Int) (n : Int) (c : List Int) (s6 : (Int × Unit) × Unit × Unit) : Option (Unit × List Int × Int × Int × Int × (Unit × List Int × Unit) × Unit) :=
  loopO (symM_step1 a b n c s6) ((a, ()), (), d, ())
def symM_step3 (d : List Int) (b : Int) (c : List Int) (s12 : (Int × Int × Unit) × Unit × Unit) : Option
  ((Int × Int × Unit) × Unit × Unit ⊕
    (Int × Unit) × Unit × Unit ⊕ Unit × List Int × Int × Int × Int × (Unit × List Int × Unit) × Unit) :=
  bif ilt s12.1.1 s12.1.2.1 then
  bif bif ile 0 b then ilt b ↑d.length else false then
    d[b.toNat]?.bind fun (y13 : Int) =>
      bif
          bif ile 0 (wr .i64 ((wr .u64 (wr .i64 (s12.1.1 + s12.1.2.1))).fdiv 2)) then
            ilt (wr .i64 ((wr .u64 (wr .i64 (s12.1.1 + s12.1.2.1))).fdiv 2)) ↑d.length
          else false then
        d[(wr .i64 ((wr .u64 (wr .i64 (s12.1.1 + s12.1.2.1))).fdiv 2)).toNat]?.bind fun (y14 : Int) =>
          bif ile 0 y14 then
            c[y14.toNat]?.bind fun (y15 : Int) =>
              bif ile 0 y13 then
                c[y13.toNat]?.bind fun (y16 : Int) =>
                  (cmpI y15 y16).bind fun (y17 : Int) =>
                    bif bif ilt y17 0 then false else true then
                      some (Sum.inl ((wr .i64 (wr .i64 ((wr .u64 (wr .i64 (s12.1.1 + s12.1.2.1))).fdiv 2) + 1), s12.1.2.1, ()), (), ()))
                    else some (Sum.inl ((s12.1.1, wr .i64 ((wr .u64 (wr .i64 (s12.1.1 + s12.1.2.1))).fdiv 2), ()), (), ()))
              else none
          else none
      else none
  else none
else some (Sum.inr (Sum.inl ((s12.1.1, ()), (), ())))
def symM_step4 (a : Int) (b : Int) (n : Int) (c : List Int) (s18 : (Int × Unit) × Unit × Unit) (s19 : (Int × Unit) × Unit × List Int × Unit) : Option
  ((Int × Unit) × Unit × List Int × Unit ⊕ Unit × List Int × Int × Int × Int × (Unit × List Int × Unit) × Unit) :=
  bif ilt s18.1.1 s19.1.1 then
  bif bif ile 0 (wr .i64 (s19.1.1 - 1)) then ilt (wr .i64 (s19.1.1 - 1)) ↑s19.2.2.1.length else false then
    s19.2.2.1[(wr .i64 (s19.1.1 - 1)).toNat]?.bind fun (y20 : Int) =>
      bif bif ile 0 s19.1.1 then ilt s19.1.1 ↑s19.2.2.1.length else false then
        s19.2.2.1[s19.1.1.toNat]?.bind fun (y21 : Int) =>
          bif bif ile 0 s19.1.1 then ilt s19.1.1 ↑s19.2.2.1.length else false then
            s19.2.2.1[s19.1.1.toNat]?.bind fun (y22 : Int) =>
              bif bif ile 0 (wr .i64 (s19.1.1 - 1)) then ilt (wr .i64 (s19.1.1 - 1)) ↑(s19.2.2.1.set s19.1.1.toNat y20).length else false then
                (s19.2.2.1.set s19.1.1.toNat y20)[(wr .i64 (s19.1.1 - 1)).toNat]?.bind fun (y23 : Int) =>
                  some (Sum.inl ((wr .i64 (s19.1.1 - 1), ()), (), (s19.2.2.1.set s19.1.1.toNat y20).set (wr .i64 (s19.1.1 - 1)).toNat y21, ()))
              else none
          else none
      else none
  else none
else some (Sum.inr ((), s19.2.2.1, a, b, n, ((), c, ()), ()))
def symM_step5 (d : List Int) (a : Int) (b : Int) (n : Int) (c : List Int) (s18 : (Int × Unit) × Unit × Unit) : Option (Unit × List Int × Int × Int × Int × (Unit × List Int × Unit) × Unit) :=
  loopO (symM_step4 a b n c s18) ((b, ()), (), d, ())
def symM_step6 (d : List Int) (a : Int) (b : Int) (n : Int) (c : List Int) (s25 : (Int × Int × Unit) × Unit × Unit) : Option
  ((Int × Int × Unit) × Unit × Unit ⊕
    (Int × Unit) × Unit × Unit ⊕ Unit × List Int × Int × Int × Int × (Unit × List Int × Unit) × Unit) :=
  bif ilt s25.1.1 s25.1.2.1 then
  bif
      bif
          ile 0
            (wr .i64
              (wr .i64 (wr .i64 (wr .i64 ((wr .u64 (wr .i64 (a + n))).fdiv 2) + b) - 1) -
                wr .i64 ((wr .u64 (wr .i64 (s25.1.1 + s25.1.2.1))).fdiv 2))) then
        ilt
          (wr .i64
            (wr .i64 (wr .i64 (wr .i64 ((wr .u64 (wr .i64 (a + n))).fdiv 2) + b) - 1) -
              wr .i64 ((wr .u64 (wr .i64 (s25.1.1 + s25.1.2.1))).fdiv 2)))
          ↑d.length
      else false then
    d[(wr .i64
              (wr .i64 (wr .i64 (wr .i64 ((wr .u64 (wr .i64 (a + n))).fdiv 2) + b) - 1) -
                wr .i64 ((wr .u64 (wr .i64 (s25.1.1 + s25.1.2.1))).fdiv 2))).toNat]?.bind
      fun (y26 : Int) =>
      bif
          bif ile 0 (wr .i64 ((wr .u64 (wr .i64 (s25.1.1 + s25.1.2.1))).fdiv 2)) then
            ilt (wr .i64 ((wr .u64 (wr .i64 (s25.1.1 + s25.1.2.1))).fdiv 2)) ↑d.length
          else false then
        d[(wr .i64 ((wr .u64 (wr .i64 (s25.1.1 + s25.1.2.1))).fdiv 2)).toNat]?.bind fun (y27 : Int) =>
          bif ile 0 y27 then
            c[y27.toNat]?.bind fun (y28 : Int) =>
              bif ile 0 y26 then
                c[y26.toNat]?.bind fun (y29 : Int) =>
                  (cmpI y28 y29).bind fun (y30 : Int) =>
                    bif bif ilt y30 0 then false else true then
                      some (Sum.inl ((wr .i64 (wr .i64 ((wr .u64 (wr .i64 (s25.1.1 + s25.1.2.1))).fdiv 2) + 1), s25.1.2.1, ()), (), ()))
                    else some (Sum.inl ((s25.1.1, wr .i64 ((wr .u64 (wr .i64 (s25.1.1 + s25.1.2.1))).fdiv 2), ()), (), ()))
              else none
          else none
      else none
  else none
else some (Sum.inr (Sum.inl ((s25.1.1, ()), (), ())))
def symM_step7 (F : (List Int) → Int → Int → Int → (List Int) → Option (Unit × (List Int) × Int × Int × Int × (Unit × (List Int) × Unit) × Unit)) (a : Int) (b : Int) (n : Int) (c : List Int) (s31 : (Int × Unit) × Unit × Unit) (s35 : Unit × Unit × List Int × Unit) : Option (Unit × List Int × Int × Int × Int × (Unit × List Int × Unit) × Unit) :=
  bif
    ilt (wr .i64 ((wr .u64 (wr .i64 (a + n))).fdiv 2))
      (wr .i64 (wr .i64 (wr .i64 ((wr .u64 (wr .i64 (a + n))).fdiv 2) + b) - s31.1.1)) then
  bif ilt (wr .i64 (wr .i64 (wr .i64 ((wr .u64 (wr .i64 (a + n))).fdiv 2) + b) - s31.1.1)) n then
    (F s35.2.2.1 (wr .i64 ((wr .u64 (wr .i64 (a + n))).fdiv 2))
          (wr .i64 (wr .i64 (wr .i64 ((wr .u64 (wr .i64 (a + n))).fdiv 2) + b) - s31.1.1)) n c).bind
      fun (y36 : Unit × List Int × Int × Int × Int × (Unit × List Int × Unit) × Unit) => some ((), y36.2.1, a, b, n, ((), c, ()), ())
  else some ((), s35.2.2.1, a, b, n, ((), c, ()), ())
else some ((), s35.2.2.1, a, b, n, ((), c, ()), ())
def symM_step8 (F : (List Int) → Int → Int → Int → (List Int) → Option (Unit × (List Int) × Int × Int × Int × (Unit × (List Int) × Unit) × Unit)) (a : Int) (b : Int) (n : Int) (c : List Int) (s31 : (Int × Unit) × Unit × Unit) (s33 : Unit × Unit × List Int × Unit) : Option (Unit × List Int × Int × Int × Int × (Unit × List Int × Unit) × Unit) :=
  joinO
  (bif ilt a s31.1.1 then
    bif ilt s31.1.1 (wr .i64 ((wr .u64 (wr .i64 (a + n))).fdiv 2)) then
      (F s33.2.2.1 a s31.1.1 (wr .i64 ((wr .u64 (wr .i64 (a + n))).fdiv 2)) c).bind
        fun (y34 : Unit × List Int × Int × Int × Int × (Unit × List Int × Unit) × Unit) => some (Sum.inl ((), (), y34.2.1, ()))
    else some (Sum.inl ((), (), s33.2.2.1, ()))
  else some (Sum.inl ((), (), s33.2.2.1, ())))
  (symM_step7 F a b n c s31)
def symM_step9 (F : (List Int) → Int → Int → Int → (List Int) → Option (Unit × (List Int) × Int × Int × Int × (Unit × (List Int) × Unit) × Unit)) (d : List Int) (a : Int) (b : Int) (n : Int) (c : List Int) (s31 : (Int × Unit) × Unit × Unit) : Option (Unit × List Int × Int × Int × Int × (Unit × List Int × Unit) × Unit) :=
  joinO
  (bif ilt s31.1.1 b then
    bif ilt b (wr .i64 (wr .i64 (wr .i64 ((wr .u64 (wr .i64 (a + n))).fdiv 2) + b) - s31.1.1)) then
      (rot d s31.1.1 b (wr .i64 (wr .i64 (wr .i64 ((wr .u64 (wr .i64 (a + n))).fdiv 2) + b) - s31.1.1)) c).bind
        fun (y32 : Unit × List Int × Int × Int × Int × (Unit × List Int × Unit) × Unit) => some (Sum.inl ((), (), y32.2.1, ()))
    else some (Sum.inl ((), (), d, ()))
  else some (Sum.inl ((), (), d, ())))
  (symM_step8 F a b n c s31)
def symM_step10 (F : (List Int) → Int → Int → Int → (List Int) → Option (Unit × (List Int) × Int × Int × Int × (Unit × (List Int) × Unit) × Unit)) (d : List Int) (a : Int) (b : Int) (n : Int) (c : List Int) (s24 : (Int × Int × Unit) × Unit × Unit) : Option (Unit × List Int × Int × Int × Int × (Unit × List Int × Unit) × Unit) :=
  joinO (loopO (symM_step6 d a b n c) ((s24.1.1, s24.1.2.1, ()), (), ())) (symM_step9 F d a b n c)
def symMT (F : (List Int) → Int → Int → Int → (List Int) → Option (Unit × (List Int) × Int × Int × Int × (Unit × (List Int) × Unit) × Unit)) (d : List Int) (a : Int) (b : Int) (n : Int) (c : List Int) : Option (Unit × List Int × Int × Int × Int × (Unit × List Int × Unit) × Unit) :=
  bif ieq (wr .i64 (b - a)) 1 then joinO (loopO (symM_step0 d a c) ((b, n, ()), (), ())) (symM_step2 d a b n c)
else
  bif ieq (wr .i64 (n - b)) 1 then joinO (loopO (symM_step3 d b c) ((a, b, ()), (), ())) (symM_step5 d a b n c)
  else
    joinO
      (bif ilt (wr .i64 ((wr .u64 (wr .i64 (a + n))).fdiv 2)) b then
        some
          (Sum.inl
            ((wr .i64 (wr .i64 (wr .i64 ((wr .u64 (wr .i64 (a + n))).fdiv 2) + b) - n),
                wr .i64 ((wr .u64 (wr .i64 (a + n))).fdiv 2), ()),
              (), ()))
      else some (Sum.inl ((a, b, ()), (), ())))
      (symM_step10 F d a b n c)
def symMN (n : Nat) : (List Int) → Int → Int → Int → (List Int) → Option (Unit × (List Int) × Int × Int × Int × (Unit × (List Int) × Unit) × Unit) := Nat.rec (fun _ _ _ _ _ => none) (fun _ F => symMT F) n
def symM : (List Int) → Int → Int → Int → (List Int) → Option (Unit × (List Int) × Int × Int × Int × (Unit × (List Int) × Unit) × Unit) := symMN 600
def stab_step0 (n : Int) (c : List Int) (s0 : (Int × Int × Unit) × Unit × List Int × Unit) : Option
  ((Int × Int × Unit) × Unit × List Int × Unit ⊕
    (Int × Unit) × Unit × List Int × Unit ⊕ Unit × List Int × Int × (Unit × List Int × Unit) × Unit) :=
  bif ile s0.1.2.1 n then
  (insS s0.2.2.1 s0.1.1 s0.1.2.1 c).bind fun (y1 : Unit × List Int × Int × Int × (Unit × List Int × Unit) × Unit) =>
    some (Sum.inl ((s0.1.2.1, wr .i64 (s0.1.2.1 + 20), ()), (), y1.2.1, ()))
else some (Sum.inr (Sum.inl ((s0.1.1, ()), (), s0.2.2.1, ())))
def stab_step1 (s4 : (Int × Unit) × Unit × List Int × Unit) (s8 : Unit × Unit × List Int × Unit) : Option ((Int × Unit) × Unit × List Int × Unit ⊕ Unit × List Int × Int × (Unit × List Int × Unit) × Unit) :=
  some (Sum.inl ((wr .i64 (s4.1.1 * 2), ()), (), s8.2.2.1, ()))
def stab_step2 (n : Int) (c : List Int) (s4 : (Int × Unit) × Unit × List Int × Unit) (s5 : (Int × Int × Unit) × Unit × List Int × Unit) : Option
  ((Int × Int × Unit) × Unit × List Int × Unit ⊕
    (Int × Unit) × Unit × List Int × Unit ⊕ Unit × List Int × Int × (Unit × List Int × Unit) × Unit) :=
  bif ile s5.1.2.1 n then
  (symM s5.2.2.1 s5.1.1 (wr .i64 (s5.1.1 + s4.1.1)) s5.1.2.1 c).bind fun (y6 : Unit × List Int × Int × Int × Int × (Unit × List Int × Unit) × Unit) =>
    some (Sum.inl ((s5.1.2.1, wr .i64 (s5.1.2.1 + wr .i64 (2 * s4.1.1)), ()), (), y6.2.1, ()))
else
  (joinO
        (bif ilt (wr .i64 (s5.1.1 + s4.1.1)) n then
          (symM s5.2.2.1 s5.1.1 (wr .i64 (s5.1.1 + s4.1.1)) n c).bind fun (y7 : Unit × List Int × Int × Int × Int × (Unit × List Int × Unit) × Unit) =>
            some (Sum.inl ((), (), y7.2.1, ()))
        else some (Sum.inl ((), (), s5.2.2.1, ())))
        (stab_step1 s4)).bind
    fun (y9 : (Int × Unit) × Unit × List Int × Unit ⊕ Unit × List Int × Int × (Unit × List Int × Unit) × Unit) => some (Sum.inr y9)
def stab_step3 (n : Int) (c : List Int) (s4 : (Int × Unit) × Unit × List Int × Unit) : Option ((Int × Unit) × Unit × List Int × Unit ⊕ Unit × List Int × Int × (Unit × List Int × Unit) × Unit) :=
  bif ilt s4.1.1 n then loopO (stab_step2 n c s4) ((0, wr .i64 (2 * s4.1.1), ()), (), s4.2.2.1, ())
else some (Sum.inr ((), s4.2.2.1, n, ((), c, ()), ()))
def stab_step4 (n : Int) (c : List Int) (s2 : (Int × Unit) × Unit × List Int × Unit) : Option (Unit × List Int × Int × (Unit × List Int × Unit) × Unit) :=
  (insS s2.2.2.1 s2.1.1 n c).bind fun (y3 : Unit × List Int × Int × Int × (Unit × List Int × Unit) × Unit) => loopO (stab_step3 n c) ((20, ()), (), y3.2.1, ())
def stab (d : List Int) (n : Int) (c : List Int) : Option (Unit × List Int × Int × (Unit × List Int × Unit) × Unit) :=
  joinO (loopO (stab_step0 n c) ((0, 20, ()), (), d, ())) (stab_step4 n c)
def sortS (d : List Int) (c : List Int) : Option (Unit × List Int × (Unit × List Int × Unit) × Unit) :=
  (stab d (↑d.length) c).bind fun (y0 : Unit × List Int × Int × (Unit × List Int × Unit) × Unit) => some ((), y0.2.1, ((), c, ()), ())
def valC_step0 (l : List Int) (s0 : (Int × Unit) × Unit × Unit) : Option ((Int × Unit) × Unit × Unit ⊕ Int) :=
  bif ilt s0.1.1 ↑l.length then
  bif ile 0 s0.1.1 then
    l[s0.1.1.toNat]?.bind fun (y1 : Int) =>
      bif ilt y1 0 then (bif ile 0 s0.1.1 then some 6 else some 0).bind fun (y2 : Int) => some (Sum.inr y2)
      else
        bif ilt 1073741824 y1 then (bif ile 0 s0.1.1 then some 6 else some 0).bind fun (y3 : Int) => some (Sum.inr y3)
        else some (Sum.inl ((wr .i64 (s0.1.1 + 1), ()), (), ()))
  else none
else some (Sum.inr 0)
def valC (l : List Int) (w : Int) : Option Int :=
  bif ilt w 1 then some 2 else bif ilt 8 w then some 2 else bif ilt 256 ↑l.length then some 5 else loopO (valC_step0 l) ((0, ()), (), ())
def valS_step0 (l : List Int) (w : Int) (s0 : (Int × Unit) × Unit × Unit) : Option ((Int × Unit) × Unit × Unit ⊕ Bool) :=
  bif ilt s0.1.1 ↑l.length then
  bif ile 0 s0.1.1 then
    l[s0.1.1.toNat]?.bind fun (y1 : Int) =>
      bif ilt y1 0 then some (Sum.inr (bif ile 0 s0.1.1 then false else true))
      else bif ile w y1 then some (Sum.inr (bif ile 0 s0.1.1 then false else true)) else some (Sum.inl ((wr .i64 (s0.1.1 + 1), ()), (), ()))
  else none
else some (Sum.inr true)
def valS (l : List Int) (w : Int) : Option Bool :=
  loopO (valS_step0 l w) ((0, ()), (), ())
def maxL_step0 (l : List Int) (s1 : (Int × Int × Unit) × Unit × Unit) : Option ((Int × Int × Unit) × Unit × Unit ⊕ Int) :=
  bif ilt s1.1.2.1 ↑l.length then
  bif ile 0 s1.1.2.1 then l[s1.1.2.1.toNat]?.bind fun (y2 : Int) => some (Sum.inl ((bif ile s1.1.1 y2 then y2 else s1.1.1, wr .i64 (s1.1.2.1 + 1), ()), (), ()))
  else none
else some (Sum.inr s1.1.1)
def maxL (l : List Int) : Option Int :=
  bif ilt (↑l.length) 1 then none else l[0]?.bind fun (y0 : Int) => loopO (maxL_step0 l) ((y0, 1, ()), (), ())
def asgn_step0 (l : List Int) (s4 : (Int × Unit) × Unit × List Int × List Int × Unit) (y5 : Int) (s6 : (Int × Int × Unit) × Unit × Unit) : Option
  ((Int × Int × Unit) × Unit × Unit ⊕ (Int × Unit) × Unit × List Int × List Int × Unit ⊕ List Int × Int × Unit) :=
  bif ilt s6.1.1 ↑s4.2.2.1.length then
  bif bif ile 0 s6.1.1 then ilt s6.1.1 ↑s4.2.2.1.length else false then
    s4.2.2.1[s6.1.1.toNat]?.bind fun (y7 : Int) =>
      bif bif ile 0 s6.1.2.1 then ilt s6.1.2.1 ↑s4.2.2.1.length else false then
        s4.2.2.1[s6.1.2.1.toNat]?.bind fun (y8 : Int) =>
          bif ilt y7 y8 then some (Sum.inl ((wr .i64 (s6.1.1 + 1), s6.1.1, ()), (), ()))
          else some (Sum.inl ((wr .i64 (s6.1.1 + 1), s6.1.2.1, ()), (), ()))
      else none
  else none
else
  (bif bif ile 0 y5 then ilt y5 ↑s4.2.2.2.1.length else false then
        s4.2.2.2.1[y5.toNat]?.bind fun (y9 : Int) =>
          bif bif ile 0 s6.1.2.1 then ilt s6.1.2.1 ↑s4.2.2.1.length else false then
            s4.2.2.1[s6.1.2.1.toNat]?.bind fun (y10 : Int) =>
              bif ile 0 y5 then
                l[y5.toNat]?.bind fun (y11 : Int) =>
                  bif bif ile 0 s6.1.2.1 then ilt s6.1.2.1 ↑s4.2.2.1.length else false then
                    s4.2.2.1[s6.1.2.1.toNat]?.bind fun (y12 : Int) =>
                      some
                        (Sum.inl ((wr .i64 (s4.1.1 + 1), ()), (), s4.2.2.1.set s6.1.2.1.toNat (wr .i64 (y10 + y11)), s4.2.2.2.1.set y5.toNat s6.1.2.1, ()))
                  else none
              else none
          else none
      else none).bind
    fun (y13 : (Int × Unit) × Unit × List Int × List Int × Unit ⊕ List Int × Int × Unit) => some (Sum.inr y13)
def asgn_step1 (l : List Int) (y3 : Unit × List Int × (Unit × List Int × Unit) × Unit) (s4 : (Int × Unit) × Unit × List Int × List Int × Unit) : Option ((Int × Unit) × Unit × List Int × List Int × Unit ⊕ List Int × Int × Unit) :=
  bif ilt s4.1.1 ↑y3.2.1.length then
  bif bif ile 0 s4.1.1 then ilt s4.1.1 ↑y3.2.1.length else false then y3.2.1[s4.1.1.toNat]?.bind fun (y5 : Int) => loopO (asgn_step0 l s4 y5) ((0, 0, ()), (), ())
  else none
else some (Sum.inr (s4.2.2.2.1, 0, ()))
def asgn_step2 (l : List Int) (w : Int) (s1 : (Int × Unit) × Unit × List Int × Unit) : Option ((Int × Unit) × Unit × List Int × Unit ⊕ List Int × Int × Unit) :=
  bif ilt s1.1.1 ↑(List.replicate (Int.toNat ↑l.length) (0 : Int)).length then
  bif bif ile 0 s1.1.1 then ilt s1.1.1 ↑s1.2.2.1.length else false then
    s1.2.2.1[s1.1.1.toNat]?.bind fun (y2 : Int) => some (Sum.inl ((wr .i64 (s1.1.1 + 1), ()), (), s1.2.2.1.set s1.1.1.toNat s1.1.1, ()))
  else none
else
  ((sortS s1.2.2.1 l).bind fun (y3 : Unit × List Int × (Unit × List Int × Unit) × Unit) =>
        bif bif ile 0 w then bif ile w w then ile (w * 8) 70368744177664 else false else false then
          bif bif ile ↑l.length ↑l.length then ile (↑l.length * 8) 70368744177664 else false then
            loopO (asgn_step1 l y3) ((0, ()), (), List.replicate w.toNat (0 : Int), List.replicate (Int.toNat ↑l.length) (0 : Int), ())
          else none
        else none).bind
    fun (y14 : List Int × Int × Unit) => some (Sum.inr y14)
def asgn (l : List Int) (w : Int) : Option (List Int × Int × Unit) :=
  (valC l w).bind fun (y0 : Int) =>
  bif bif ieq y0 0 then false else true then some ([], y0, ())
  else
    bif bif ile ↑l.length ↑l.length then ile (↑l.length * 8) 70368744177664 else false then
      loopO (asgn_step2 l w) ((0, ()), (), List.replicate (Int.toNat ↑l.length) (0 : Int), ())
    else none
def mksp_step0 (l : List Int) (q : List Int) (s2 : (Int × Unit) × Unit × List Int × Unit) : Option ((Int × Unit) × Unit × List Int × Unit ⊕ Int × Int × Unit) :=
  bif ilt s2.1.1 ↑q.length then
  bif ile 0 s2.1.1 then
    q[s2.1.1.toNat]?.bind fun (y3 : Int) =>
      bif bif ile 0 y3 then ilt y3 ↑s2.2.2.1.length else false then
        s2.2.2.1[y3.toNat]?.bind fun (y4 : Int) =>
          bif ile 0 s2.1.1 then
            l[s2.1.1.toNat]?.bind fun (y5 : Int) =>
              bif bif ile 0 y3 then ilt y3 ↑s2.2.2.1.length else false then
                s2.2.2.1[y3.toNat]?.bind fun (y6 : Int) => some (Sum.inl ((wr .i64 (s2.1.1 + 1), ()), (), s2.2.2.1.set y3.toNat (wr .i64 (y4 + y5)), ()))
              else none
          else none
      else none
  else none
else ((maxL s2.2.2.1).bind fun (y7 : Int) => some (y7, 0, ())).bind fun (y8 : Int × Int × Unit) => some (Sum.inr y8)
def mksp (l : List Int) (q : List Int) (w : Int) : Option (Int × Int × Unit) :=
  (valC l w).bind fun (y0 : Int) =>
  bif bif ieq y0 0 then false else true then some (0, y0, ())
  else
    bif bif ieq ↑q.length ↑l.length then false else true then some (0, 6, ())
    else
      (valS q w).bind fun (y1 : Bool) =>
        bif bif y1 then false else true then some (0, 6, ())
        else
          bif bif ile 0 w then bif ile w w then ile (w * 8) 70368744177664 else false else false then
            loopO (mksp_step0 l q) ((0, ()), (), List.replicate w.toNat (0 : Int), ())
          else none
def exam  : Option Bool := some Bool.true
def lawM_step0 (l : List Int) (w : Int) (y1 : List Int × Int × Unit) (y3 : Int × Int × Unit) (s4 : (Int × Int × Int × Unit) × Unit × Unit) : Option ((Int × Int × Int × Unit) × Unit × Unit ⊕ Bool) :=
  bif ilt s4.1.1 ↑l.length then
  bif ile 0 s4.1.1 then
    l[s4.1.1.toNat]?.bind fun (y5 : Int) =>
      bif ilt y5 0 then some (Sum.inr false)
      else
        bif ile 0 s4.1.1 then
          l[s4.1.1.toNat]?.bind fun (y6 : Int) =>
            bif ilt 1073741824 y6 then some (Sum.inr false)
            else
              bif ile 0 s4.1.1 then
                y1.1[s4.1.1.toNat]?.bind fun (y7 : Int) =>
                  bif ilt y7 0 then some (Sum.inr false)
                  else
                    bif ile 0 s4.1.1 then
                      y1.1[s4.1.1.toNat]?.bind fun (y8 : Int) =>
                        bif ile w y8 then some (Sum.inr false)
                        else
                          bif ile 0 s4.1.1 then
                            l[s4.1.1.toNat]?.bind fun (y9 : Int) =>
                              bif ile 0 s4.1.1 then
                                l[s4.1.1.toNat]?.bind fun (y10 : Int) =>
                                  some
                                    (Sum.inl
                                      ((wr .i64 (s4.1.1 + 1), wr .i64 (s4.1.2.1 + y9), bif ile s4.1.2.2.1 y10 then y10 else s4.1.2.2.1, ()), (), ()))
                              else none
                          else none
                    else none
              else none
        else none
  else none
else
  (bif ilt y3.1 s4.1.2.2.1 then some false
      else
        bif ilt s4.1.2.1 y3.1 then some false
        else
          bif ile s4.1.2.1 (wr .i64 (w * y3.1)) then
            bif ile (wr .i64 (w * y3.1)) (wr .i64 (s4.1.2.1 + wr .i64 (wr .i64 (w - 1) * s4.1.2.2.1))) then exam.bind fun (y11 : Bool) => some y11
            else some false
          else some false).bind
    fun (y12 : Bool) => some (Sum.inr y12)
def lawM (l : List Int) (w : Int) : Option Bool :=
  bif ilt 64 ↑l.length then exam.bind fun (y0 : Bool) => some y0
else
  (asgn l w).bind fun (y1 : List Int × Int × Unit) =>
    bif bif ieq y1.2.1 0 then false else true then bif ieq (↑y1.1.length) 0 then exam.bind fun (y2 : Bool) => some y2 else some false
    else
      (mksp l y1.1 w).bind fun (y3 : Int × Int × Unit) =>
        bif bif ieq y3.2.1 0 then false else true then some false
        else
          bif ilt w 1 then some false
          else
            bif ilt 8 w then some false
            else bif bif ieq ↑y1.1.length ↑l.length then false else true then some false else loopO (lawM_step0 l w y1 y3) ((0, 0, 0, ()), (), ())
end
end Go.Proofs.YtjdihfpfimkinaaGreatDoor
