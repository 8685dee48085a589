/- A part of the proofs of this seat: what functions of the program answer on the abstract machine. -/
import Derived.Test.YtppoeoleehiemaaV22
namespace Go.V
set_option linter.unusedVariables false
set_option linter.unusedSimpArgs false
open Go.Ab
set_option linter.unusedVariables false
def D_ring_Mul_L0 (a0 : List Int) (s3 : Int × Int) : Option ((Int × Int) ⊕ (Int)) :=
  cond (decide (s3.1 < ((((List.length a0) : Nat) : Int))))
    ((rd a0 s3.1).bind fun x4 =>
    some (.inl ((IntKind.i64.wrap (s3.1 + 1), IntKind.u64.wrap (s3.2 * x4)))))
    (some (.inr s3.2))
/- backstitch/ring.Mul -/
def D_ring_Mul (a0 : List Int) : Option (Int) :=
  (loopN (D_ring_Mul_L0 a0) BIG ((0, 1))).bind fun r5 =>
  some r5
def D_ring_Add_L0 (a0 : List Int) (s3 : Int × Int) : Option ((Int × Int) ⊕ (Int)) :=
  cond (decide (s3.1 < ((((List.length a0) : Nat) : Int))))
    ((rd a0 s3.1).bind fun x4 =>
    some (.inl ((IntKind.i64.wrap (s3.1 + 1), IntKind.u64.wrap (s3.2 + x4)))))
    (some (.inr s3.2))
/- backstitch/ring.Add -/
def D_ring_Add (a0 : List Int) : Option (Int) :=
  (loopN (D_ring_Add_L0 a0) BIG ((0, 0))).bind fun r5 =>
  some r5
def D_freeze_Sum_L0 (a0 : List Int) (s3 : Int × Int) : Option ((Int × Int) ⊕ (Int)) :=
  cond (decide (s3.1 < ((((List.length a0) : Nat) : Int))))
    ((rd a0 s3.1).bind fun x4 =>
    (D_ring_Mul ([s3.2, 3])).bind fun r5 =>
    (D_ring_Add ([r5, x4])).bind fun r6 =>
    some (.inl ((IntKind.i64.wrap (s3.1 + 1), r6))))
    (some (.inr s3.2))
/- backstitch/freeze.Sum -/
def D_freeze_Sum (a0 : List Int) : Option (Int) :=
  (loopN (D_freeze_Sum_L0 a0) BIG ((0, 1))).bind fun r7 =>
  some r7
/- backstitch/freeze.Words -/
def D_freeze_Words (a0 : List Int) (a1 : Int) (a2 : Int) (a3 : Int) (a4 : Int) (a5 : Int) (a6 : Int) (a7 : Int) (a8 : Int) (a9 : Int) (a10 : Int) (a11 : Int) (a12 : Int) (a13 : Int) (a14 : Int) (a15 : Int) (a16 : Int) : Option (List Int) :=
  gd (Nat.beq 1 (Sh.w (.int .u64)) && decide (0 ≤ 16) && decide (16 ≤ (IntKind.i64.wrap ((IntKind.i64.wrap (16 + ((((List.length a0) : Nat) : Int)))) + 2))) && decide ((8 : Int) * (IntKind.i64.wrap ((IntKind.i64.wrap (16 + ((((List.length a0) : Nat) : Int)))) + 2)) ≤ 140737488355328) && Nat.ble 1 8) (gd (fits (List.length ((blit ((List.replicate 16 (0 : Int))) 0 ((List.length ((List.replicate 16 (0 : Int))))) (([a1, a2, a3, a4, a5, a6, a7, a8, a9, a10, a11, a12, a13, a14, a15, a16] : List Int)))) + 1) 8) (gd (fits (List.length (((blit ((List.replicate 16 (0 : Int))) 0 ((List.length ((List.replicate 16 (0 : Int))))) (([a1, a2, a3, a4, a5, a6, a7, a8, a9, a10, a11, a12, a13, a14, a15, a16] : List Int))) ++ [IntKind.u64.wrap ((((List.length a0) : Nat) : Int))])) + List.length a0) 8) ((D_freeze_Sum ((((blit ((List.replicate 16 (0 : Int))) 0 ((List.length ((List.replicate 16 (0 : Int))))) (([a1, a2, a3, a4, a5, a6, a7, a8, a9, a10, a11, a12, a13, a14, a15, a16] : List Int))) ++ [IntKind.u64.wrap ((((List.length a0) : Nat) : Int))]) ++ a0))).bind fun r17 =>
  gd (fits (List.length ((((blit ((List.replicate 16 (0 : Int))) 0 ((List.length ((List.replicate 16 (0 : Int))))) (([a1, a2, a3, a4, a5, a6, a7, a8, a9, a10, a11, a12, a13, a14, a15, a16] : List Int))) ++ [IntKind.u64.wrap ((((List.length a0) : Nat) : Int))]) ++ a0)) + 1) 8) (some (((((blit ((List.replicate 16 (0 : Int))) 0 ((List.length ((List.replicate 16 (0 : Int))))) (([a1, a2, a3, a4, a5, a6, a7, a8, a9, a10, a11, a12, a13, a14, a15, a16] : List Int))) ++ [IntKind.u64.wrap ((((List.length a0) : Nat) : Int))]) ++ a0) ++ [r17]))))))
/- slices.Clone[[]uint64,uint64] -/
def D_slices_Clone_uint64_uint64 (l : List Int) : Option (List Int) := gd (fits (0 + l.length) 8) (some l)
def D_freeze_Read_L0 (a0 : List Int) (s6 : Int × Int) : Option ((Int × Int) ⊕ (Int)) :=
  cond (decide (s6.1 < ((((List.length a0) : Nat) : Int))))
    ((rd a0 s6.1).bind fun x7 =>
    cond (decide (s6.1 = (IntKind.i64.wrap (((((List.length a0) : Nat) : Int)) - 1))))
      (some (.inr s6.2))
      ((D_ring_Mul ([s6.2, 3])).bind fun r8 =>
      (D_ring_Add ([r8, x7])).bind fun r9 =>
      some (.inl ((IntKind.i64.wrap (s6.1 + 1), r9)))))
    (some (.inr s6.2))
/- backstitch/freeze.Read -/
def D_freeze_Read (a0 : List Int) : Option (Int × Int × Int × Int × Int × Int × Int × Int × Int × Int × Int × Int × Int × Int × Int × Int × Int × List Int) :=
  (((cond (decide ((IntKind.u64.wrap ((((List.length a0) : Nat) : Int))) < 18))
    (some true)
    ((rd a0 16).bind fun x1 =>
    some (decide ((IntKind.u64.wrap ((IntKind.u64.wrap ((((List.length a0) : Nat) : Int))) - 18)) < x1)))) : Option (Bool))).bind fun s2 =>
  cond (s2)
    (some ((0, 0, 0, 0, 0, 0, 0, 0, 0, 0, 0, 0, 0, 0, 0, 0, 4, [])))
    ((rd a0 16).bind fun x3 =>
    cond (decide (x3 < (IntKind.u64.wrap ((IntKind.u64.wrap ((((List.length a0) : Nat) : Int))) - 18))))
      (some ((0, 0, 0, 0, 0, 0, 0, 0, 0, 0, 0, 0, 0, 0, 0, 0, 21, [])))
      ((loopN (D_freeze_Read_L0 a0) BIG ((0, 1))).bind fun r10 =>
      (rd a0 (IntKind.i64.wrap (((((List.length a0) : Nat) : Int)) - 1))).bind fun x11 =>
      cond (decide (x11 ≠ r10))
        (some ((0, 0, 0, 0, 0, 0, 0, 0, 0, 0, 0, 0, 0, 0, 0, 0, 3, [])))
        (gd (cutG 17 (IntKind.i64.wrap (((((List.length a0) : Nat) : Int)) - 1)) ((List.length a0))) ((D_slices_Clone_uint64_uint64 ((cutL a0 17 (IntKind.i64.wrap (((((List.length a0) : Nat) : Int)) - 1))))).bind fun r12 =>
        some (((List.getD a0 0 0), (List.getD a0 1 0), (List.getD a0 2 0), (List.getD a0 3 0), (List.getD a0 4 0), (List.getD a0 5 0), (List.getD a0 6 0), (List.getD a0 7 0), (List.getD a0 8 0), (List.getD a0 9 0), (List.getD a0 10 0), (List.getD a0 11 0), (List.getD a0 12 0), (List.getD a0 13 0), (List.getD a0 14 0), (List.getD a0 15 0), 0, r12))))))
def D_ref05_Same_L0 (a0 : List Int) (a1 : List Int) (s3 : Int) : Option ((Int) ⊕ ((Bool) ⊕ (Unit))) :=
  cond (decide (s3 < ((((List.length a0) : Nat) : Int))))
    ((rd a0 s3).bind fun x4 =>
    (rd a1 s3).bind fun x5 =>
    cond (decide (x4 ≠ x5))
      (some (.inr (((.inl false)))))
      (some (.inl (IntKind.i64.wrap (s3 + 1)))))
    (some (.inr (((.inr ())))))
/- backstitch/backstitchref05.Same -/
def D_ref05_Same (a0 : List Int) (a1 : List Int) : Option (Bool) :=
  cond (decide (((((List.length a0) : Nat) : Int)) ≠ ((((List.length a1) : Nat) : Int))))
    (some false)
    ((loopN (D_ref05_Same_L0 a0 a1) BIG 0).bind fun r6 =>
    caseS r6 (fun u7 =>
      some u7)
      (fun w8 =>
      some true))
/- backstitch/backstitchlaw36.goes -/
def D_law36_goes  : Option (Bool) :=
  (D_freeze_Words [9] 2 0 0 0 0 0 0 0 0 0 0 0 0 0 0 0).bind fun r0 =>
  (D_freeze_Read r0).bind fun r1 =>
  (D_freeze_Sum []).bind fun r2 =>
  cond (decide (r2 = 1))
    ((D_freeze_Sum ([5, 7])).bind fun r3 =>
    cond (decide (r3 = 31))
      (cond (decide (((((List.length r0) : Nat) : Int)) = 19))
        ((ix 0 ((List.length r0))).bind fun j4 =>
        (r0[j4]?).bind fun x5 =>
        cond (decide (x5 = 2))
          ((ix 16 ((List.length r0))).bind fun j6 =>
          (r0[j6]?).bind fun x7 =>
          cond (decide (x7 = 1))
            ((ix 17 ((List.length r0))).bind fun j8 =>
            (r0[j8]?).bind fun x9 =>
            cond (decide (x9 = 9))
              (cond (decide (r1.2.2.2.2.2.2.2.2.2.2.2.2.2.2.2.2.1 = 0))
                ((D_ref05_Same r1.2.2.2.2.2.2.2.2.2.2.2.2.2.2.2.2.2 [9]).bind fun r10 =>
                cond (r10)
                  (some ((decide (r1.1 = 2) && (decide (r1.2.1 = 0) && (decide (r1.2.2.1 = 0) && (decide (r1.2.2.2.1 = 0) && (decide (r1.2.2.2.2.1 = 0) && (decide (r1.2.2.2.2.2.1 = 0) && (decide (r1.2.2.2.2.2.2.1 = 0) && (decide (r1.2.2.2.2.2.2.2.1 = 0) && (decide (r1.2.2.2.2.2.2.2.2.1 = 0) && (decide (r1.2.2.2.2.2.2.2.2.2.1 = 0) && (decide (r1.2.2.2.2.2.2.2.2.2.2.1 = 0) && (decide (r1.2.2.2.2.2.2.2.2.2.2.2.1 = 0) && (decide (r1.2.2.2.2.2.2.2.2.2.2.2.2.1 = 0) && (decide (r1.2.2.2.2.2.2.2.2.2.2.2.2.2.1 = 0) && (decide (r1.2.2.2.2.2.2.2.2.2.2.2.2.2.2.1 = 0) && decide (r1.2.2.2.2.2.2.2.2.2.2.2.2.2.2.2.1 = 0))))))))))))))))))
                  (some false))
                (some false))
              (some false))
            (some false))
          (some false))
        (some false))
      (some false))
    (some false)
def D_ref01_digits_L0  (s15 : Int × Int × Int × Int × Int × Int × Int × Int × Int × Int) : Option ((Int × Int × Int × Int × Int × Int × Int × Int × Int × Int) ⊕ (Int × Int × Int × Int × Int × Int × Int × Int)) :=
  cond (decide (s15.1 < 8))
    ((ix s15.1 8).bind fun j16 =>
    some (.inl ((IntKind.i64.wrap (s15.1 + 1), IntKind.u64.wrap (Int.tdiv s15.2.1 256), (cond (Nat.beq j16 0) (IntKind.i64.wrap (Int.tmod s15.2.1 256)) s15.2.2.1), (cond (Nat.beq j16 1) (IntKind.i64.wrap (Int.tmod s15.2.1 256)) s15.2.2.2.1), (cond (Nat.beq j16 2) (IntKind.i64.wrap (Int.tmod s15.2.1 256)) s15.2.2.2.2.1), (cond (Nat.beq j16 3) (IntKind.i64.wrap (Int.tmod s15.2.1 256)) s15.2.2.2.2.2.1), (cond (Nat.beq j16 4) (IntKind.i64.wrap (Int.tmod s15.2.1 256)) s15.2.2.2.2.2.2.1), (cond (Nat.beq j16 5) (IntKind.i64.wrap (Int.tmod s15.2.1 256)) s15.2.2.2.2.2.2.2.1), (cond (Nat.beq j16 6) (IntKind.i64.wrap (Int.tmod s15.2.1 256)) s15.2.2.2.2.2.2.2.2.1), (cond (Nat.beq j16 7) (IntKind.i64.wrap (Int.tmod s15.2.1 256)) s15.2.2.2.2.2.2.2.2.2)))))
    (some (.inr (((s15.2.2.1, s15.2.2.2.1, s15.2.2.2.2.1, s15.2.2.2.2.2.1, s15.2.2.2.2.2.2.1, s15.2.2.2.2.2.2.2.1, s15.2.2.2.2.2.2.2.2.1, s15.2.2.2.2.2.2.2.2.2)))))
/- backstitch/backstitchref01.digits -/
def D_ref01_digits (a0 : Int) : Option (Int × Int × Int × Int × Int × Int × Int × Int) :=
  (loopN (D_ref01_digits_L0) BIG ((0, a0, 0, 0, 0, 0, 0, 0, 0, 0))).bind fun r17 =>
  some ((r17.1, r17.2.1, r17.2.2.1, r17.2.2.2.1, r17.2.2.2.2.1, r17.2.2.2.2.2.1, r17.2.2.2.2.2.2.1, r17.2.2.2.2.2.2.2))
def D_ref01_number_L0 (a0 : Int) (a1 : Int) (a2 : Int) (a3 : Int) (a4 : Int) (a5 : Int) (a6 : Int) (a7 : Int) (s12 : Int × Int × Int × Int) : Option ((Int × Int × Int × Int) ⊕ (Int)) :=
  cond (decide (s12.1 < 8))
    ((ix s12.1 8).bind fun j13 =>
    some (.inl ((IntKind.i64.wrap (s12.1 + 1), IntKind.i64.wrap (Int.tdiv (IntKind.i64.wrap (s12.2.1 + ((List.getD [a0, a1, a2, a3, a4, a5, a6, a7] j13 0)))) 256), IntKind.u64.wrap (s12.2.2.1 + (IntKind.u64.wrap ((IntKind.u64.wrap (Int.tmod (IntKind.i64.wrap (s12.2.1 + ((List.getD [a0, a1, a2, a3, a4, a5, a6, a7] j13 0)))) 256)) * s12.2.2.2))), IntKind.u64.wrap (s12.2.2.2 * 256)))))
    (some (.inr s12.2.2.1))
/- backstitch/backstitchref01.number -/
def D_ref01_number (a0 : Int) (a1 : Int) (a2 : Int) (a3 : Int) (a4 : Int) (a5 : Int) (a6 : Int) (a7 : Int) : Option (Int) :=
  (loopN (D_ref01_number_L0 a0 a1 a2 a3 a4 a5 a6 a7) BIG ((0, 0, 0, 1))).bind fun r14 =>
  some r14
def D_ref01_Times_L0 (r2 : Int × Int × Int × Int × Int × Int × Int × Int) (r3 : Int × Int × Int × Int × Int × Int × Int × Int) (s13 : Int × Int × Int × Int × Int × Int × Int × Int × Int) (s23 : Int × Int × Int × Int × Int × Int × Int × Int × Int) : Option ((Int × Int × Int × Int × Int × Int × Int × Int × Int) ⊕ (Int × Int × Int × Int × Int × Int × Int × Int)) :=
  cond (decide ((IntKind.i64.wrap (s13.1 + s23.1)) < 8))
    ((ix (IntKind.i64.wrap (s13.1 + s23.1)) 8).bind fun j24 =>
    (ix s13.1 8).bind fun j25 =>
    (ix s23.1 8).bind fun j26 =>
    (ix (IntKind.i64.wrap (s13.1 + s23.1)) 8).bind fun j27 =>
    some (.inl ((IntKind.i64.wrap (s23.1 + 1), (cond (Nat.beq j27 0) (IntKind.i64.wrap (((List.getD [s23.2.1, s23.2.2.1, s23.2.2.2.1, s23.2.2.2.2.1, s23.2.2.2.2.2.1, s23.2.2.2.2.2.2.1, s23.2.2.2.2.2.2.2.1, s23.2.2.2.2.2.2.2.2] j24 0)) + (IntKind.i64.wrap (((List.getD [r2.1, r2.2.1, r2.2.2.1, r2.2.2.2.1, r2.2.2.2.2.1, r2.2.2.2.2.2.1, r2.2.2.2.2.2.2.1, r2.2.2.2.2.2.2.2] j25 0)) * ((List.getD [r3.1, r3.2.1, r3.2.2.1, r3.2.2.2.1, r3.2.2.2.2.1, r3.2.2.2.2.2.1, r3.2.2.2.2.2.2.1, r3.2.2.2.2.2.2.2] j26 0)))))) s23.2.1), (cond (Nat.beq j27 1) (IntKind.i64.wrap (((List.getD [s23.2.1, s23.2.2.1, s23.2.2.2.1, s23.2.2.2.2.1, s23.2.2.2.2.2.1, s23.2.2.2.2.2.2.1, s23.2.2.2.2.2.2.2.1, s23.2.2.2.2.2.2.2.2] j24 0)) + (IntKind.i64.wrap (((List.getD [r2.1, r2.2.1, r2.2.2.1, r2.2.2.2.1, r2.2.2.2.2.1, r2.2.2.2.2.2.1, r2.2.2.2.2.2.2.1, r2.2.2.2.2.2.2.2] j25 0)) * ((List.getD [r3.1, r3.2.1, r3.2.2.1, r3.2.2.2.1, r3.2.2.2.2.1, r3.2.2.2.2.2.1, r3.2.2.2.2.2.2.1, r3.2.2.2.2.2.2.2] j26 0)))))) s23.2.2.1), (cond (Nat.beq j27 2) (IntKind.i64.wrap (((List.getD [s23.2.1, s23.2.2.1, s23.2.2.2.1, s23.2.2.2.2.1, s23.2.2.2.2.2.1, s23.2.2.2.2.2.2.1, s23.2.2.2.2.2.2.2.1, s23.2.2.2.2.2.2.2.2] j24 0)) + (IntKind.i64.wrap (((List.getD [r2.1, r2.2.1, r2.2.2.1, r2.2.2.2.1, r2.2.2.2.2.1, r2.2.2.2.2.2.1, r2.2.2.2.2.2.2.1, r2.2.2.2.2.2.2.2] j25 0)) * ((List.getD [r3.1, r3.2.1, r3.2.2.1, r3.2.2.2.1, r3.2.2.2.2.1, r3.2.2.2.2.2.1, r3.2.2.2.2.2.2.1, r3.2.2.2.2.2.2.2] j26 0)))))) s23.2.2.2.1), (cond (Nat.beq j27 3) (IntKind.i64.wrap (((List.getD [s23.2.1, s23.2.2.1, s23.2.2.2.1, s23.2.2.2.2.1, s23.2.2.2.2.2.1, s23.2.2.2.2.2.2.1, s23.2.2.2.2.2.2.2.1, s23.2.2.2.2.2.2.2.2] j24 0)) + (IntKind.i64.wrap (((List.getD [r2.1, r2.2.1, r2.2.2.1, r2.2.2.2.1, r2.2.2.2.2.1, r2.2.2.2.2.2.1, r2.2.2.2.2.2.2.1, r2.2.2.2.2.2.2.2] j25 0)) * ((List.getD [r3.1, r3.2.1, r3.2.2.1, r3.2.2.2.1, r3.2.2.2.2.1, r3.2.2.2.2.2.1, r3.2.2.2.2.2.2.1, r3.2.2.2.2.2.2.2] j26 0)))))) s23.2.2.2.2.1), (cond (Nat.beq j27 4) (IntKind.i64.wrap (((List.getD [s23.2.1, s23.2.2.1, s23.2.2.2.1, s23.2.2.2.2.1, s23.2.2.2.2.2.1, s23.2.2.2.2.2.2.1, s23.2.2.2.2.2.2.2.1, s23.2.2.2.2.2.2.2.2] j24 0)) + (IntKind.i64.wrap (((List.getD [r2.1, r2.2.1, r2.2.2.1, r2.2.2.2.1, r2.2.2.2.2.1, r2.2.2.2.2.2.1, r2.2.2.2.2.2.2.1, r2.2.2.2.2.2.2.2] j25 0)) * ((List.getD [r3.1, r3.2.1, r3.2.2.1, r3.2.2.2.1, r3.2.2.2.2.1, r3.2.2.2.2.2.1, r3.2.2.2.2.2.2.1, r3.2.2.2.2.2.2.2] j26 0)))))) s23.2.2.2.2.2.1), (cond (Nat.beq j27 5) (IntKind.i64.wrap (((List.getD [s23.2.1, s23.2.2.1, s23.2.2.2.1, s23.2.2.2.2.1, s23.2.2.2.2.2.1, s23.2.2.2.2.2.2.1, s23.2.2.2.2.2.2.2.1, s23.2.2.2.2.2.2.2.2] j24 0)) + (IntKind.i64.wrap (((List.getD [r2.1, r2.2.1, r2.2.2.1, r2.2.2.2.1, r2.2.2.2.2.1, r2.2.2.2.2.2.1, r2.2.2.2.2.2.2.1, r2.2.2.2.2.2.2.2] j25 0)) * ((List.getD [r3.1, r3.2.1, r3.2.2.1, r3.2.2.2.1, r3.2.2.2.2.1, r3.2.2.2.2.2.1, r3.2.2.2.2.2.2.1, r3.2.2.2.2.2.2.2] j26 0)))))) s23.2.2.2.2.2.2.1), (cond (Nat.beq j27 6) (IntKind.i64.wrap (((List.getD [s23.2.1, s23.2.2.1, s23.2.2.2.1, s23.2.2.2.2.1, s23.2.2.2.2.2.1, s23.2.2.2.2.2.2.1, s23.2.2.2.2.2.2.2.1, s23.2.2.2.2.2.2.2.2] j24 0)) + (IntKind.i64.wrap (((List.getD [r2.1, r2.2.1, r2.2.2.1, r2.2.2.2.1, r2.2.2.2.2.1, r2.2.2.2.2.2.1, r2.2.2.2.2.2.2.1, r2.2.2.2.2.2.2.2] j25 0)) * ((List.getD [r3.1, r3.2.1, r3.2.2.1, r3.2.2.2.1, r3.2.2.2.2.1, r3.2.2.2.2.2.1, r3.2.2.2.2.2.2.1, r3.2.2.2.2.2.2.2] j26 0)))))) s23.2.2.2.2.2.2.2.1), (cond (Nat.beq j27 7) (IntKind.i64.wrap (((List.getD [s23.2.1, s23.2.2.1, s23.2.2.2.1, s23.2.2.2.2.1, s23.2.2.2.2.2.1, s23.2.2.2.2.2.2.1, s23.2.2.2.2.2.2.2.1, s23.2.2.2.2.2.2.2.2] j24 0)) + (IntKind.i64.wrap (((List.getD [r2.1, r2.2.1, r2.2.2.1, r2.2.2.2.1, r2.2.2.2.2.1, r2.2.2.2.2.2.1, r2.2.2.2.2.2.2.1, r2.2.2.2.2.2.2.2] j25 0)) * ((List.getD [r3.1, r3.2.1, r3.2.2.1, r3.2.2.2.1, r3.2.2.2.2.1, r3.2.2.2.2.2.1, r3.2.2.2.2.2.2.1, r3.2.2.2.2.2.2.2] j26 0)))))) s23.2.2.2.2.2.2.2.2)))))
    (some (.inr (((s23.2.1, s23.2.2.1, s23.2.2.2.1, s23.2.2.2.2.1, s23.2.2.2.2.2.1, s23.2.2.2.2.2.2.1, s23.2.2.2.2.2.2.2.1, s23.2.2.2.2.2.2.2.2)))))
def D_ref01_Times_L1 (r2 : Int × Int × Int × Int × Int × Int × Int × Int) (r3 : Int × Int × Int × Int × Int × Int × Int × Int) (s13 : Int × Int × Int × Int × Int × Int × Int × Int × Int) : Option ((Int × Int × Int × Int × Int × Int × Int × Int × Int) ⊕ (Int × Int × Int × Int × Int × Int × Int × Int)) :=
  cond (decide (s13.1 < 8))
    ((loopN (D_ref01_Times_L0 r2 r3 s13) BIG ((0, s13.2.1, s13.2.2.1, s13.2.2.2.1, s13.2.2.2.2.1, s13.2.2.2.2.2.1, s13.2.2.2.2.2.2.1, s13.2.2.2.2.2.2.2.1, s13.2.2.2.2.2.2.2.2))).bind fun r28 =>
    some (.inl ((IntKind.i64.wrap (s13.1 + 1), r28.1, r28.2.1, r28.2.2.1, r28.2.2.2.1, r28.2.2.2.2.1, r28.2.2.2.2.2.1, r28.2.2.2.2.2.2.1, r28.2.2.2.2.2.2.2))))
    (some (.inr (((s13.2.1, s13.2.2.1, s13.2.2.2.1, s13.2.2.2.2.1, s13.2.2.2.2.2.1, s13.2.2.2.2.2.2.1, s13.2.2.2.2.2.2.2.1, s13.2.2.2.2.2.2.2.2)))))
/- backstitch/backstitchref01.Times -/
def D_ref01_Times (a0 : Int) (a1 : Int) : Option (Int) :=
  (D_ref01_digits a0).bind fun r2 =>
  (D_ref01_digits a1).bind fun r3 =>
  (loopN (D_ref01_Times_L1 r2 r3) BIG ((0, 0, 0, 0, 0, 0, 0, 0, 0))).bind fun r29 =>
  (D_ref01_number r29.1 r29.2.1 r29.2.2.1 r29.2.2.2.1 r29.2.2.2.2.1 r29.2.2.2.2.2.1 r29.2.2.2.2.2.2.1 r29.2.2.2.2.2.2.2).bind fun r30 =>
  some r30
def D_ref01_Plus_L0 (r3 : Int × Int × Int × Int × Int × Int × Int × Int) (s13 : Int × Int × Int × Int × Int × Int × Int × Int × Int) : Option ((Int × Int × Int × Int × Int × Int × Int × Int × Int) ⊕ (Int × Int × Int × Int × Int × Int × Int × Int)) :=
  cond (decide (s13.1 < 8))
    ((ix s13.1 8).bind fun j14 =>
    (ix s13.1 8).bind fun j15 =>
    (ix s13.1 8).bind fun j16 =>
    some (.inl ((IntKind.i64.wrap (s13.1 + 1), (cond (Nat.beq j16 0) (IntKind.i64.wrap (((List.getD [s13.2.1, s13.2.2.1, s13.2.2.2.1, s13.2.2.2.2.1, s13.2.2.2.2.2.1, s13.2.2.2.2.2.2.1, s13.2.2.2.2.2.2.2.1, s13.2.2.2.2.2.2.2.2] j14 0)) + ((List.getD [r3.1, r3.2.1, r3.2.2.1, r3.2.2.2.1, r3.2.2.2.2.1, r3.2.2.2.2.2.1, r3.2.2.2.2.2.2.1, r3.2.2.2.2.2.2.2] j15 0)))) s13.2.1), (cond (Nat.beq j16 1) (IntKind.i64.wrap (((List.getD [s13.2.1, s13.2.2.1, s13.2.2.2.1, s13.2.2.2.2.1, s13.2.2.2.2.2.1, s13.2.2.2.2.2.2.1, s13.2.2.2.2.2.2.2.1, s13.2.2.2.2.2.2.2.2] j14 0)) + ((List.getD [r3.1, r3.2.1, r3.2.2.1, r3.2.2.2.1, r3.2.2.2.2.1, r3.2.2.2.2.2.1, r3.2.2.2.2.2.2.1, r3.2.2.2.2.2.2.2] j15 0)))) s13.2.2.1), (cond (Nat.beq j16 2) (IntKind.i64.wrap (((List.getD [s13.2.1, s13.2.2.1, s13.2.2.2.1, s13.2.2.2.2.1, s13.2.2.2.2.2.1, s13.2.2.2.2.2.2.1, s13.2.2.2.2.2.2.2.1, s13.2.2.2.2.2.2.2.2] j14 0)) + ((List.getD [r3.1, r3.2.1, r3.2.2.1, r3.2.2.2.1, r3.2.2.2.2.1, r3.2.2.2.2.2.1, r3.2.2.2.2.2.2.1, r3.2.2.2.2.2.2.2] j15 0)))) s13.2.2.2.1), (cond (Nat.beq j16 3) (IntKind.i64.wrap (((List.getD [s13.2.1, s13.2.2.1, s13.2.2.2.1, s13.2.2.2.2.1, s13.2.2.2.2.2.1, s13.2.2.2.2.2.2.1, s13.2.2.2.2.2.2.2.1, s13.2.2.2.2.2.2.2.2] j14 0)) + ((List.getD [r3.1, r3.2.1, r3.2.2.1, r3.2.2.2.1, r3.2.2.2.2.1, r3.2.2.2.2.2.1, r3.2.2.2.2.2.2.1, r3.2.2.2.2.2.2.2] j15 0)))) s13.2.2.2.2.1), (cond (Nat.beq j16 4) (IntKind.i64.wrap (((List.getD [s13.2.1, s13.2.2.1, s13.2.2.2.1, s13.2.2.2.2.1, s13.2.2.2.2.2.1, s13.2.2.2.2.2.2.1, s13.2.2.2.2.2.2.2.1, s13.2.2.2.2.2.2.2.2] j14 0)) + ((List.getD [r3.1, r3.2.1, r3.2.2.1, r3.2.2.2.1, r3.2.2.2.2.1, r3.2.2.2.2.2.1, r3.2.2.2.2.2.2.1, r3.2.2.2.2.2.2.2] j15 0)))) s13.2.2.2.2.2.1), (cond (Nat.beq j16 5) (IntKind.i64.wrap (((List.getD [s13.2.1, s13.2.2.1, s13.2.2.2.1, s13.2.2.2.2.1, s13.2.2.2.2.2.1, s13.2.2.2.2.2.2.1, s13.2.2.2.2.2.2.2.1, s13.2.2.2.2.2.2.2.2] j14 0)) + ((List.getD [r3.1, r3.2.1, r3.2.2.1, r3.2.2.2.1, r3.2.2.2.2.1, r3.2.2.2.2.2.1, r3.2.2.2.2.2.2.1, r3.2.2.2.2.2.2.2] j15 0)))) s13.2.2.2.2.2.2.1), (cond (Nat.beq j16 6) (IntKind.i64.wrap (((List.getD [s13.2.1, s13.2.2.1, s13.2.2.2.1, s13.2.2.2.2.1, s13.2.2.2.2.2.1, s13.2.2.2.2.2.2.1, s13.2.2.2.2.2.2.2.1, s13.2.2.2.2.2.2.2.2] j14 0)) + ((List.getD [r3.1, r3.2.1, r3.2.2.1, r3.2.2.2.1, r3.2.2.2.2.1, r3.2.2.2.2.2.1, r3.2.2.2.2.2.2.1, r3.2.2.2.2.2.2.2] j15 0)))) s13.2.2.2.2.2.2.2.1), (cond (Nat.beq j16 7) (IntKind.i64.wrap (((List.getD [s13.2.1, s13.2.2.1, s13.2.2.2.1, s13.2.2.2.2.1, s13.2.2.2.2.2.1, s13.2.2.2.2.2.2.1, s13.2.2.2.2.2.2.2.1, s13.2.2.2.2.2.2.2.2] j14 0)) + ((List.getD [r3.1, r3.2.1, r3.2.2.1, r3.2.2.2.1, r3.2.2.2.2.1, r3.2.2.2.2.2.1, r3.2.2.2.2.2.2.1, r3.2.2.2.2.2.2.2] j15 0)))) s13.2.2.2.2.2.2.2.2)))))
    (some (.inr (((s13.2.1, s13.2.2.1, s13.2.2.2.1, s13.2.2.2.2.1, s13.2.2.2.2.2.1, s13.2.2.2.2.2.2.1, s13.2.2.2.2.2.2.2.1, s13.2.2.2.2.2.2.2.2)))))
/- backstitch/backstitchref01.Plus -/
def D_ref01_Plus (a0 : Int) (a1 : Int) : Option (Int) :=
  (D_ref01_digits a0).bind fun r2 =>
  (D_ref01_digits a1).bind fun r3 =>
  (loopN (D_ref01_Plus_L0 r3) BIG ((0, r2.1, r2.2.1, r2.2.2.1, r2.2.2.2.1, r2.2.2.2.2.1, r2.2.2.2.2.2.1, r2.2.2.2.2.2.2.1, r2.2.2.2.2.2.2.2))).bind fun r17 =>
  (D_ref01_number r17.1 r17.2.1 r17.2.2.1 r17.2.2.2.1 r17.2.2.2.2.1 r17.2.2.2.2.2.1 r17.2.2.2.2.2.2.1 r17.2.2.2.2.2.2.2).bind fun r18 =>
  some r18
def D_ref36_Sum_L0 (a0 : List Int) (s5 : Int × Int × Int) : Option ((Int × Int × Int) ⊕ (Int × Int)) :=
  cond (decide (0 ≤ s5.1))
    ((rd a0 s5.1).bind fun x6 =>
    (D_ref01_Times x6 s5.2.2).bind fun r7 =>
    (D_ref01_Plus s5.2.1 r7).bind fun r8 =>
    (D_ref01_Times s5.2.2 3).bind fun r9 =>
    some (.inl ((IntKind.i64.wrap (s5.1 - 1), r8, r9))))
    (some (.inr (((s5.2.1, s5.2.2)))))
/- backstitch/backstitchref36.Sum -/
def D_ref36_Sum (a0 : List Int) : Option (Int) :=
  (loopN (D_ref36_Sum_L0 a0) BIG ((IntKind.i64.wrap (((((List.length a0) : Nat) : Int)) - 1), 0, 1))).bind fun r10 =>
  (D_ref01_Plus r10.1 r10.2).bind fun r11 =>
  some r11
def D_ref36_Read_L0 (a0 : List Int) (s24 : Int × Int × Int × Int × Int × Int × Int × Int × Int × Int × Int × Int × Int × Int × Int × Int × Int) : Option ((Int × Int × Int × Int × Int × Int × Int × Int × Int × Int × Int × Int × Int × Int × Int × Int × Int) ⊕ (Int × Int × Int × Int × Int × Int × Int × Int × Int × Int × Int × Int × Int × Int × Int × Int)) :=
  cond (decide (s24.1 < 16))
    ((rd a0 s24.1).bind fun x25 =>
    (ix s24.1 16).bind fun j26 =>
    some (.inl ((IntKind.i64.wrap (s24.1 + 1), (cond (Nat.beq j26 0) x25 s24.2.1), (cond (Nat.beq j26 1) x25 s24.2.2.1), (cond (Nat.beq j26 2) x25 s24.2.2.2.1), (cond (Nat.beq j26 3) x25 s24.2.2.2.2.1), (cond (Nat.beq j26 4) x25 s24.2.2.2.2.2.1), (cond (Nat.beq j26 5) x25 s24.2.2.2.2.2.2.1), (cond (Nat.beq j26 6) x25 s24.2.2.2.2.2.2.2.1), (cond (Nat.beq j26 7) x25 s24.2.2.2.2.2.2.2.2.1), (cond (Nat.beq j26 8) x25 s24.2.2.2.2.2.2.2.2.2.1), (cond (Nat.beq j26 9) x25 s24.2.2.2.2.2.2.2.2.2.2.1), (cond (Nat.beq j26 10) x25 s24.2.2.2.2.2.2.2.2.2.2.2.1), (cond (Nat.beq j26 11) x25 s24.2.2.2.2.2.2.2.2.2.2.2.2.1), (cond (Nat.beq j26 12) x25 s24.2.2.2.2.2.2.2.2.2.2.2.2.2.1), (cond (Nat.beq j26 13) x25 s24.2.2.2.2.2.2.2.2.2.2.2.2.2.2.1), (cond (Nat.beq j26 14) x25 s24.2.2.2.2.2.2.2.2.2.2.2.2.2.2.2.1), (cond (Nat.beq j26 15) x25 s24.2.2.2.2.2.2.2.2.2.2.2.2.2.2.2.2)))))
    (some (.inr (((s24.2.1, s24.2.2.1, s24.2.2.2.1, s24.2.2.2.2.1, s24.2.2.2.2.2.1, s24.2.2.2.2.2.2.1, s24.2.2.2.2.2.2.2.1, s24.2.2.2.2.2.2.2.2.1, s24.2.2.2.2.2.2.2.2.2.1, s24.2.2.2.2.2.2.2.2.2.2.1, s24.2.2.2.2.2.2.2.2.2.2.2.1, s24.2.2.2.2.2.2.2.2.2.2.2.2.1, s24.2.2.2.2.2.2.2.2.2.2.2.2.2.1, s24.2.2.2.2.2.2.2.2.2.2.2.2.2.2.1, s24.2.2.2.2.2.2.2.2.2.2.2.2.2.2.2.1, s24.2.2.2.2.2.2.2.2.2.2.2.2.2.2.2.2)))))
/- backstitch/backstitchref36.Read -/
def D_ref36_Read (a0 : List Int) : Option ((List Int) × Int × Int × Int × Int × Int × Int × Int × Int × Int × Int × Int × Int × Int × Int × Int × Int × Int) :=
  cond (decide (((((List.length a0) : Nat) : Int)) < 18))
    (some (([], 0, 0, 0, 0, 0, 0, 0, 0, 0, 0, 0, 0, 0, 0, 0, 0, 4)))
    ((rd a0 16).bind fun x1 =>
    cond (decide ((IntKind.u64.wrap (IntKind.i64.wrap (((((List.length a0) : Nat) : Int)) - 18))) < x1))
      (some (([], 0, 0, 0, 0, 0, 0, 0, 0, 0, 0, 0, 0, 0, 0, 0, 0, 4)))
      ((rd a0 16).bind fun x2 =>
      cond (decide ((IntKind.i64.wrap ((IntKind.i64.wrap (x2)) + 18)) < ((((List.length a0) : Nat) : Int))))
        (some (([], 0, 0, 0, 0, 0, 0, 0, 0, 0, 0, 0, 0, 0, 0, 0, 0, 21)))
        ((rd a0 (IntKind.i64.wrap ((IntKind.i64.wrap (x2)) + 17))).bind fun x3 =>
        gd (cutG 0 (IntKind.i64.wrap ((IntKind.i64.wrap (x2)) + 17)) ((List.length a0))) ((D_ref36_Sum ((cutL a0 0 (IntKind.i64.wrap ((IntKind.i64.wrap (x2)) + 17))))).bind fun r4 =>
        cond (decide (x3 ≠ r4))
          (some (([], 0, 0, 0, 0, 0, 0, 0, 0, 0, 0, 0, 0, 0, 0, 0, 0, 3)))
          ((loopN (D_ref36_Read_L0 a0) BIG ((0, 0, 0, 0, 0, 0, 0, 0, 0, 0, 0, 0, 0, 0, 0, 0, 0))).bind fun r27 =>
          gd (cutG 17 (IntKind.i64.wrap (17 + (IntKind.i64.wrap (x2)))) ((List.length a0))) (some (((cutL a0 17 (IntKind.i64.wrap (17 + (IntKind.i64.wrap (x2))))), r27.1, r27.2.1, r27.2.2.1, r27.2.2.2.1, r27.2.2.2.2.1, r27.2.2.2.2.2.1, r27.2.2.2.2.2.2.1, r27.2.2.2.2.2.2.2.1, r27.2.2.2.2.2.2.2.2.1, r27.2.2.2.2.2.2.2.2.2.1, r27.2.2.2.2.2.2.2.2.2.2.1, r27.2.2.2.2.2.2.2.2.2.2.2.1, r27.2.2.2.2.2.2.2.2.2.2.2.2.1, r27.2.2.2.2.2.2.2.2.2.2.2.2.2.1, r27.2.2.2.2.2.2.2.2.2.2.2.2.2.2.1, r27.2.2.2.2.2.2.2.2.2.2.2.2.2.2.2, 0))))))))
def D_ref36_Words_L0 (a1 : Int) (a2 : Int) (a3 : Int) (a4 : Int) (a5 : Int) (a6 : Int) (a7 : Int) (a8 : Int) (a9 : Int) (a10 : Int) (a11 : Int) (a12 : Int) (a13 : Int) (a14 : Int) (a15 : Int) (a16 : Int) (s19 : Int × List Int) : Option ((Int × List Int) ⊕ (List Int)) :=
  cond (decide (s19.1 < 16))
    ((ix s19.1 16).bind fun j20 =>
    gd (fits (List.length s19.2 + 1) 8) (some (.inl ((IntKind.i64.wrap (s19.1 + 1), (s19.2 ++ [(List.getD [a1, a2, a3, a4, a5, a6, a7, a8, a9, a10, a11, a12, a13, a14, a15, a16] j20 0)]))))))
    (some (.inr s19.2))
def D_ref36_Words_L1 (a0 : List Int) (s24 : Int × List Int) : Option ((Int × List Int) ⊕ (List Int)) :=
  cond (decide (s24.1 < ((((List.length a0) : Nat) : Int))))
    ((rd a0 s24.1).bind fun x25 =>
    gd (fits (List.length s24.2 + 1) 8) (some (.inl ((IntKind.i64.wrap (s24.1 + 1), (s24.2 ++ [x25]))))))
    (some (.inr s24.2))
/- backstitch/backstitchref36.Words -/
def D_ref36_Words (a0 : List Int) (a1 : Int) (a2 : Int) (a3 : Int) (a4 : Int) (a5 : Int) (a6 : Int) (a7 : Int) (a8 : Int) (a9 : Int) (a10 : Int) (a11 : Int) (a12 : Int) (a13 : Int) (a14 : Int) (a15 : Int) (a16 : Int) : Option (List Int) :=
  (loopN (D_ref36_Words_L0 a1 a2 a3 a4 a5 a6 a7 a8 a9 a10 a11 a12 a13 a14 a15 a16) BIG ((0, []))).bind fun r21 =>
  gd (fits (List.length r21 + 1) 8) ((loopN (D_ref36_Words_L1 a0) BIG ((0, (r21 ++ [IntKind.u64.wrap ((((List.length a0) : Nat) : Int))])))).bind fun r26 =>
  (D_ref36_Sum r26).bind fun r27 =>
  gd (fits (List.length r26 + 1) 8) (some ((r26 ++ [r27]))))
/- backstitch/backstitchlaw36.FreezeWords -/
def D_law36_FreezeWords (a0 : List Int) (a1 : Int) (a2 : Int) (a3 : Int) (a4 : Int) (a5 : Int) (a6 : Int) (a7 : Int) (a8 : Int) (a9 : Int) (a10 : Int) (a11 : Int) (a12 : Int) (a13 : Int) (a14 : Int) (a15 : Int) (a16 : Int) (a17 : List Int) : Option (Bool) :=
  (((cond (decide (500 < ((((List.length a0) : Nat) : Int))))
    (some true)
    (some (decide (500 < ((((List.length a17) : Nat) : Int)))))) : Option (Bool))).bind fun s18 =>
  cond (s18)
    ((D_law36_goes).bind fun r19 =>
    some r19)
    ((D_freeze_Read a17).bind fun r20 =>
    (D_ref36_Read a17).bind fun r21 =>
    (D_freeze_Words a0 a1 a2 a3 a4 a5 a6 a7 a8 a9 a10 a11 a12 a13 a14 a15 a16).bind fun r22 =>
    (D_ref36_Words a0 a1 a2 a3 a4 a5 a6 a7 a8 a9 a10 a11 a12 a13 a14 a15 a16).bind fun r23 =>
    (D_ref05_Same r22 r23).bind fun r24 =>
    cond (r24)
      ((D_freeze_Sum a17).bind fun r25 =>
      (D_ref36_Sum a17).bind fun r26 =>
      cond (decide (r25 = r26))
        ((D_ref05_Same r20.2.2.2.2.2.2.2.2.2.2.2.2.2.2.2.2.2 r21.1).bind fun r27 =>
        cond (r27)
          (cond ((decide (r20.1 = r21.2.1) && (decide (r20.2.1 = r21.2.2.1) && (decide (r20.2.2.1 = r21.2.2.2.1) && (decide (r20.2.2.2.1 = r21.2.2.2.2.1) && (decide (r20.2.2.2.2.1 = r21.2.2.2.2.2.1) && (decide (r20.2.2.2.2.2.1 = r21.2.2.2.2.2.2.1) && (decide (r20.2.2.2.2.2.2.1 = r21.2.2.2.2.2.2.2.1) && (decide (r20.2.2.2.2.2.2.2.1 = r21.2.2.2.2.2.2.2.2.1) && (decide (r20.2.2.2.2.2.2.2.2.1 = r21.2.2.2.2.2.2.2.2.2.1) && (decide (r20.2.2.2.2.2.2.2.2.2.1 = r21.2.2.2.2.2.2.2.2.2.2.1) && (decide (r20.2.2.2.2.2.2.2.2.2.2.1 = r21.2.2.2.2.2.2.2.2.2.2.2.1) && (decide (r20.2.2.2.2.2.2.2.2.2.2.2.1 = r21.2.2.2.2.2.2.2.2.2.2.2.2.1) && (decide (r20.2.2.2.2.2.2.2.2.2.2.2.2.1 = r21.2.2.2.2.2.2.2.2.2.2.2.2.2.1) && (decide (r20.2.2.2.2.2.2.2.2.2.2.2.2.2.1 = r21.2.2.2.2.2.2.2.2.2.2.2.2.2.2.1) && (decide (r20.2.2.2.2.2.2.2.2.2.2.2.2.2.2.1 = r21.2.2.2.2.2.2.2.2.2.2.2.2.2.2.2.1) && decide (r20.2.2.2.2.2.2.2.2.2.2.2.2.2.2.2.1 = r21.2.2.2.2.2.2.2.2.2.2.2.2.2.2.2.2.1)))))))))))))))))
            (cond (decide (r20.2.2.2.2.2.2.2.2.2.2.2.2.2.2.2.2.1 = r21.2.2.2.2.2.2.2.2.2.2.2.2.2.2.2.2.2))
              ((D_law36_goes).bind fun r28 =>
              some r28)
              (some false))
            (some false))
          (some false))
        (some false))
      (some false))
/- backstitch/backstitchlaw36.FreezeBack -/
def D_law36_FreezeBack (a0 : List Int) (a1 : Int) (a2 : Int) (a3 : Int) (a4 : Int) (a5 : Int) (a6 : Int) (a7 : Int) (a8 : Int) (a9 : Int) (a10 : Int) (a11 : Int) (a12 : Int) (a13 : Int) (a14 : Int) (a15 : Int) (a16 : Int) (a17 : Int) (a18 : Int) : Option (Bool) :=
  cond (decide (500 < ((((List.length a0) : Nat) : Int))))
    ((D_law36_goes).bind fun r19 =>
    some r19)
    ((D_freeze_Words a0 a1 a2 a3 a4 a5 a6 a7 a8 a9 a10 a11 a12 a13 a14 a15 a16).bind fun r20 =>
    (D_freeze_Read r20).bind fun r21 =>
    cond (decide (r21.2.2.2.2.2.2.2.2.2.2.2.2.2.2.2.2.1 ≠ 0))
      (some false)
      ((D_ref05_Same r21.2.2.2.2.2.2.2.2.2.2.2.2.2.2.2.2.2 a0).bind fun r22 =>
      cond (!r22)
        (some false)
        (cond (!((decide (r21.1 = a1) && (decide (r21.2.1 = a2) && (decide (r21.2.2.1 = a3) && (decide (r21.2.2.2.1 = a4) && (decide (r21.2.2.2.2.1 = a5) && (decide (r21.2.2.2.2.2.1 = a6) && (decide (r21.2.2.2.2.2.2.1 = a7) && (decide (r21.2.2.2.2.2.2.2.1 = a8) && (decide (r21.2.2.2.2.2.2.2.2.1 = a9) && (decide (r21.2.2.2.2.2.2.2.2.2.1 = a10) && (decide (r21.2.2.2.2.2.2.2.2.2.2.1 = a11) && (decide (r21.2.2.2.2.2.2.2.2.2.2.2.1 = a12) && (decide (r21.2.2.2.2.2.2.2.2.2.2.2.2.1 = a13) && (decide (r21.2.2.2.2.2.2.2.2.2.2.2.2.2.1 = a14) && (decide (r21.2.2.2.2.2.2.2.2.2.2.2.2.2.2.1 = a15) && decide (r21.2.2.2.2.2.2.2.2.2.2.2.2.2.2.2.1 = a16))))))))))))))))))
          (some false)
          (cond (decide (((((List.length r20) : Nat) : Int)) ≠ (IntKind.i64.wrap (((((List.length a0) : Nat) : Int)) + 18))))
            (some false)
            (gd (decide (((((List.length r20) : Nat) : Int)) ≠ 0)) (gd (decide (((((List.length r20) : Nat) : Int)) ≠ 0)) (gd (fits (0 + List.length r20) 8) (gd (fits (List.length ((([] : List Int) ++ r20)) + 1) 8) ((D_freeze_Read (((([] : List Int) ++ r20) ++ [a18]))).bind fun r23 =>
            gd (cutG 0 (Int.tmod (IntKind.i64.wrap ((Int.tmod a17 ((((List.length r20) : Nat) : Int))) + ((((List.length r20) : Nat) : Int)))) ((((List.length r20) : Nat) : Int))) ((List.length r20))) ((D_freeze_Read ((List.take (((Int.toNat (Int.tmod (IntKind.i64.wrap ((Int.tmod a17 ((((List.length r20) : Nat) : Int))) + ((((List.length r20) : Nat) : Int)))) ((((List.length r20) : Nat) : Int)))) - 0)) (List.drop 0 r20)))).bind fun r24 =>
            cond (decide (r23.2.2.2.2.2.2.2.2.2.2.2.2.2.2.2.2.1 ≠ 21))
              (some false)
              (cond (decide (r24.2.2.2.2.2.2.2.2.2.2.2.2.2.2.2.2.1 ≠ 4))
                (some false)
                ((ix (Int.tmod (IntKind.i64.wrap ((Int.tmod a17 ((((List.length r20) : Nat) : Int))) + ((((List.length r20) : Nat) : Int)))) ((((List.length r20) : Nat) : Int))) ((List.length r20))).bind fun j25 =>
                (r20[j25]?).bind fun x26 =>
                (ix (Int.tmod (IntKind.i64.wrap ((Int.tmod a17 ((((List.length r20) : Nat) : Int))) + ((((List.length r20) : Nat) : Int)))) ((((List.length r20) : Nat) : Int))) ((List.length r20))).bind fun j27 =>
                (r20[j27]?).bind fun x28 =>
                (D_freeze_Read ((List.set r20 j27 a18))).bind fun r29 =>
                cond ((decide (r29.2.2.2.2.2.2.2.2.2.2.2.2.2.2.2.2.1 = 0)) == (decide (x26 = a18)))
                  ((D_law36_goes).bind fun r30 =>
                  some r30)
                  (some false)))))))))))))
end Go.V
