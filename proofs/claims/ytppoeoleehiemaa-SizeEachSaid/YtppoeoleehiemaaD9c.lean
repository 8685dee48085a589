/- A part of the proofs of this seat: what functions of the program answer on the abstract machine. -/
import Derived.Test.YtppoeoleehiemaaV22
namespace Go.V
set_option linter.unusedVariables false
set_option linter.unusedSimpArgs false
open Go.Ab
set_option linter.unusedVariables false
def D_nest_Match_L0 (a0 : List (Int × Int × Int × Int × Int)) (s7 : Int × Bool × (List Int) × (List Int) × List Int) : Option ((Int × Bool × (List Int) × (List Int) × List Int) ⊕ (Bool × (List Int) × (List Int) × List Int)) :=
  cond (decide (s7.1 < ((((List.length a0) : Nat) : Int))))
    ((rd a0 s7.1).bind fun x8 =>
    ((((((cond (decide (x8.1 < 0))
      (some ((.inl true)))
      (cond (decide (7 < x8.1))
        (some ((.inr ((true, x8.1, decide (7 < x8.1))))))
        (cond (decide (x8.1 = 0))
          (some ((.inr ((decide (((((List.length s7.2.2.2.1) : Nat) : Int)) = 0), x8.1, decide (7 < x8.1))))))
          (some ((.inr ((false, x8.1, decide (7 < x8.1))))))))) : Option ((Bool) ⊕ (Bool × Int × Bool)))).bind fun s9 =>
    caseS s9 (fun u10 =>
      cond (u10)
        (some ((.inl ((false, s7.2.2.2.1)))))
        (cond (decide (x8.1 = 0))
          (gd (cutG 0 (IntKind.i64.wrap (((((List.length s7.2.2.2.1) : Nat) : Int)) - 1)) ((List.length s7.2.2.2.1))) (some ((.inr ((.inl ((s7.2.1, (List.take (((Int.toNat (IntKind.i64.wrap (((((List.length s7.2.2.2.1) : Nat) : Int)) - 1))) - 0)) s7.2.2.2.1)))))))))
          (some ((.inr ((.inl ((s7.2.1, s7.2.2.2.1)))))))))
      (fun w11 =>
      cond (w11.1)
        (some ((.inl ((false, s7.2.2.2.1)))))
        (cond (decide (x8.1 = 0))
          (gd (cutG 0 (IntKind.i64.wrap (((((List.length s7.2.2.2.1) : Nat) : Int)) - 1)) ((List.length s7.2.2.2.1))) (some ((.inr ((.inr ((w11.2.1, w11.2.2, s7.2.1, (List.take (((Int.toNat (IntKind.i64.wrap (((((List.length s7.2.2.2.1) : Nat) : Int)) - 1))) - 0)) s7.2.2.2.1)))))))))
          (some ((.inr ((.inr ((w11.2.1, w11.2.2, s7.2.1, s7.2.2.2.1)))))))))) : Option ((Bool × List Int) ⊕ ((Bool × List Int) ⊕ (Int × Bool × Bool × List Int))))).bind fun s12 =>
    caseS s12 (fun u13 =>
      some (.inr (((u13.1, s7.2.2.1, u13.2, s7.2.2.2.2)))))
      (fun w14 =>
      caseS w14 (fun u15 =>
        (ix s7.1 ((List.length s7.2.2.1))).bind fun j16 =>
        (s7.2.2.1[j16]?).bind fun x17 =>
        (rd a0 s7.1).bind fun x18 =>
        cond (decide (x18.1 = 7))
          (gd (fits (List.length s7.2.2.2.2 + 1) 8) (cond (decide (x8.1 = 7))
            (gd (fits (List.length u15.2 + 1) 8) (some (.inl ((IntKind.i64.wrap (s7.1 + 1), u15.1, (List.set s7.2.2.1 j16 (-1)), (u15.2 ++ [s7.1]), (s7.2.2.2.2 ++ [s7.1]))))))
            (some (.inl ((IntKind.i64.wrap (s7.1 + 1), u15.1, (List.set s7.2.2.1 j16 (-1)), u15.2, (s7.2.2.2.2 ++ [s7.1])))))))
          (cond (decide (x18.1 = 0))
            ((ix (IntKind.i64.wrap (((((List.length s7.2.2.2.2) : Nat) : Int)) - 1)) ((List.length s7.2.2.2.2))).bind fun j19 =>
            (s7.2.2.2.2[j19]?).bind fun x20 =>
            gd (cutG 0 (IntKind.i64.wrap (((((List.length s7.2.2.2.2) : Nat) : Int)) - 1)) ((List.length s7.2.2.2.2))) ((ix s7.1 ((List.length ((List.set s7.2.2.1 j16 (-1)))))).bind fun j21 =>
            (((List.set s7.2.2.1 j16 (-1)))[j21]?).bind fun x22 =>
            (ix x20 ((List.length ((List.set ((List.set s7.2.2.1 j16 (-1))) j21 x20))))).bind fun j23 =>
            (((List.set ((List.set s7.2.2.1 j16 (-1))) j21 x20))[j23]?).bind fun x24 =>
            cond (decide (x8.1 = 7))
              (gd (fits (List.length u15.2 + 1) 8) (some (.inl ((IntKind.i64.wrap (s7.1 + 1), u15.1, (List.set ((List.set ((List.set s7.2.2.1 j16 (-1))) j21 x20)) j23 s7.1), (u15.2 ++ [s7.1]), (List.take (((Int.toNat (IntKind.i64.wrap (((((List.length s7.2.2.2.2) : Nat) : Int)) - 1))) - 0)) s7.2.2.2.2))))))
              (some (.inl ((IntKind.i64.wrap (s7.1 + 1), u15.1, (List.set ((List.set ((List.set s7.2.2.1 j16 (-1))) j21 x20)) j23 s7.1), u15.2, (List.take (((Int.toNat (IntKind.i64.wrap (((((List.length s7.2.2.2.2) : Nat) : Int)) - 1))) - 0)) s7.2.2.2.2)))))))
            (cond (decide (x8.1 = 7))
              (gd (fits (List.length u15.2 + 1) 8) (some (.inl ((IntKind.i64.wrap (s7.1 + 1), u15.1, (List.set s7.2.2.1 j16 (-1)), (u15.2 ++ [s7.1]), s7.2.2.2.2)))))
              (some (.inl ((IntKind.i64.wrap (s7.1 + 1), u15.1, (List.set s7.2.2.1 j16 (-1)), u15.2, s7.2.2.2.2)))))))
        (fun w25 =>
        (ix s7.1 ((List.length s7.2.2.1))).bind fun j26 =>
        (s7.2.2.1[j26]?).bind fun x27 =>
        (rd a0 s7.1).bind fun x28 =>
        cond (decide (x28.1 = 7))
          (gd (fits (List.length s7.2.2.2.2 + 1) 8) (cond (decide (x8.1 = 7))
            (gd (fits (List.length w25.2.2.2 + 1) 8) (some (.inl ((IntKind.i64.wrap (s7.1 + 1), w25.2.2.1, (List.set s7.2.2.1 j26 (-1)), (w25.2.2.2 ++ [s7.1]), (s7.2.2.2.2 ++ [s7.1]))))))
            (some (.inl ((IntKind.i64.wrap (s7.1 + 1), w25.2.2.1, (List.set s7.2.2.1 j26 (-1)), w25.2.2.2, (s7.2.2.2.2 ++ [s7.1])))))))
          (cond (decide (x28.1 = 0))
            ((ix (IntKind.i64.wrap (((((List.length s7.2.2.2.2) : Nat) : Int)) - 1)) ((List.length s7.2.2.2.2))).bind fun j29 =>
            (s7.2.2.2.2[j29]?).bind fun x30 =>
            gd (cutG 0 (IntKind.i64.wrap (((((List.length s7.2.2.2.2) : Nat) : Int)) - 1)) ((List.length s7.2.2.2.2))) ((ix s7.1 ((List.length ((List.set s7.2.2.1 j26 (-1)))))).bind fun j31 =>
            (((List.set s7.2.2.1 j26 (-1)))[j31]?).bind fun x32 =>
            (ix x30 ((List.length ((List.set ((List.set s7.2.2.1 j26 (-1))) j31 x30))))).bind fun j33 =>
            (((List.set ((List.set s7.2.2.1 j26 (-1))) j31 x30))[j33]?).bind fun x34 =>
            cond (decide (x8.1 = 7))
              (gd (fits (List.length w25.2.2.2 + 1) 8) (some (.inl ((IntKind.i64.wrap (s7.1 + 1), w25.2.2.1, (List.set ((List.set ((List.set s7.2.2.1 j26 (-1))) j31 x30)) j33 s7.1), (w25.2.2.2 ++ [s7.1]), (List.take (((Int.toNat (IntKind.i64.wrap (((((List.length s7.2.2.2.2) : Nat) : Int)) - 1))) - 0)) s7.2.2.2.2))))))
              (some (.inl ((IntKind.i64.wrap (s7.1 + 1), w25.2.2.1, (List.set ((List.set ((List.set s7.2.2.1 j26 (-1))) j31 x30)) j33 s7.1), w25.2.2.2, (List.take (((Int.toNat (IntKind.i64.wrap (((((List.length s7.2.2.2.2) : Nat) : Int)) - 1))) - 0)) s7.2.2.2.2)))))))
            (cond (decide (x8.1 = 7))
              (gd (fits (List.length w25.2.2.2 + 1) 8) (some (.inl ((IntKind.i64.wrap (s7.1 + 1), w25.2.2.1, (List.set s7.2.2.1 j26 (-1)), (w25.2.2.2 ++ [s7.1]), s7.2.2.2.2)))))
              (some (.inl ((IntKind.i64.wrap (s7.1 + 1), w25.2.2.1, (List.set s7.2.2.1 j26 (-1)), w25.2.2.2, s7.2.2.2.2)))))))))
    (some (.inr (((s7.2.1, s7.2.2.1, s7.2.2.2.1, s7.2.2.2.2)))))
/- backstitch/nest.Match -/
def D_nest_Match (a0 : List (Int × Int × Int × Int × Int)) : Option (Int × List Int) :=
  gd (Nat.beq 1 (Sh.w (.int .i64)) && decide (0 ≤ ((((List.length a0) : Nat) : Int))) && decide (((((List.length a0) : Nat) : Int)) ≤ ((((List.length a0) : Nat) : Int))) && decide ((8 : Int) * ((((List.length a0) : Nat) : Int)) ≤ 140737488355328) && Nat.ble 1 8) ((loopN (D_nest_Match_L0 a0) BIG ((0, true, (List.replicate (Int.toNat ((((List.length a0) : Nat) : Int))) (0 : Int)), [], []))).bind fun r35 =>
  cond (r35.1)
    (cond (!(decide (((((List.length r35.2.2.1) : Nat) : Int)) = 0)))
      (some ((6, [])))
      (some ((0, r35.2.1))))
    (some ((6, []))))
/- backstitch/size.block -/
def D_size_block (a0 : Int) (a1 : Int) : Option (Int × Bool) :=
  cond (decide (a0 = 0))
    (some ((0, true)))
    (cond (decide (65536 < a0))
      (some ((0, false)))
      (gd (decide (a0 ≠ 0)) (cond (decide ((IntKind.u64.wrap (IntKind.i64.wrap (Int.tdiv 65536 a0))) < a1))
        (some ((0, false)))
        (some ((IntKind.i64.wrap (a0 * (IntKind.i64.wrap (a1))), true))))))
/- backstitch/opcode.of -/
def D_opcode_of (a0 : Int) : Option (Bool × Bool × Bool × Bool) :=
  (((cond (decide (a0 = 1))
    (some true)
    (cond (decide (a0 = 2))
      (some true)
      (some (decide (a0 = 3))))) : Option (Bool))).bind fun s1 =>
  cond (s1)
    (some ((true, true, true, false)))
    ((((cond (decide (a0 = 4))
      (some true)
      (some (decide (a0 = 6)))) : Option (Bool))).bind fun s2 =>
    cond (s2)
      (some ((true, true, false, false)))
      (cond (decide (a0 = 5))
        (some ((true, false, false, true)))
        (cond (decide (a0 = 7))
          (some ((false, false, false, true)))
          (some ((false, false, false, false))))))
/- backstitch/opcode.Writes -/
def D_opcode_Writes (a0 : Int) (a1 : Int) (a2 : Int) (a3 : Int) (a4 : Int) : Option (Int × Bool) :=
  (D_opcode_of a0).bind fun r5 =>
  cond (!r5.1)
    (some ((0, false)))
    (some ((a1, true)))
def D_size_add_L0 (a0 : List Int) (s3 : Int × Int) : Option ((Int × Int) ⊕ (Int)) :=
  cond (decide (s3.1 < ((((List.length a0) : Nat) : Int))))
    ((rd a0 s3.1).bind fun x4 =>
    some (.inl ((IntKind.i64.wrap (s3.1 + 1), IntKind.i64.wrap (s3.2 + x4)))))
    (some (.inr s3.2))
/- backstitch/size.add -/
def D_size_add (a0 : List Int) : Option (Int) :=
  (loopN (D_size_add_L0 a0) BIG ((0, 0))).bind fun r5 =>
  some r5
def D_size_measure_L0 (a0 : List (Int × Int × Int × Int × Int)) (s9 : Int × (List Int) × (List Int) × List (Int × Int)) : Option ((Int × (List Int) × (List Int) × List (Int × Int)) ⊕ (Int × (List Int) × (List Int) × List (Int × Int))) :=
  cond (decide (s9.1 < ((((List.length a0) : Nat) : Int))))
    ((rd a0 s9.1).bind fun x10 =>
    (ix (IntKind.i64.wrap (((((List.length s9.2.2.2) : Nat) : Int)) - 1)) ((List.length s9.2.2.2))).bind fun j11 =>
    cond (decide (x10.1 = 7))
      (gd (fits (List.length s9.2.2.2 + 1) 16) (some (.inl ((IntKind.i64.wrap (s9.1 + 1), s9.2.1, s9.2.2.1, (s9.2.2.2 ++ [(s9.1, 0)]))))))
      (cond (decide (x10.1 = 0))
        ((s9.2.2.2[j11]?).bind fun x12 =>
        (s9.2.2.2[j11]?).bind fun x13 =>
        (rd a0 x13.1).bind fun x14 =>
        (D_size_block x12.2 x14.2.2.2.2).bind fun r15 =>
        cond (!r15.2)
          (some (.inr (((9, s9.2.1, s9.2.2.1, s9.2.2.2)))))
          ((s9.2.2.2[j11]?).bind fun x16 =>
          (s9.2.2.2[j11]?).bind fun x17 =>
          (s9.2.2.2[j11]?).bind fun x18 =>
          (ix x16.1 ((List.length s9.2.1))).bind fun j19 =>
          (s9.2.1[j19]?).bind fun x20 =>
          (ix x17.1 ((List.length s9.2.2.1))).bind fun j21 =>
          (s9.2.2.1[j21]?).bind fun x22 =>
          gd (cutG 0 (IntKind.i64.wrap (((((List.length s9.2.2.2) : Nat) : Int)) - 1)) ((List.length s9.2.2.2))) ((ix (IntKind.i64.wrap ((((((Int.toNat (IntKind.i64.wrap (((((List.length s9.2.2.2) : Nat) : Int)) - 1))) - 0) : Nat) : Int)) - 1)) (((Int.toNat (IntKind.i64.wrap (((((List.length s9.2.2.2) : Nat) : Int)) - 1))) - 0))).bind fun j23 =>
          (s9.2.2.2[(0 + j23)]?).bind fun x24 =>
          (D_size_add ([x24.2, r15.1])).bind fun r25 =>
          (ix (IntKind.i64.wrap ((((((Int.toNat (IntKind.i64.wrap (((((List.length s9.2.2.2) : Nat) : Int)) - 1))) - 0) : Nat) : Int)) - 1)) (((Int.toNat (IntKind.i64.wrap (((((List.length s9.2.2.2) : Nat) : Int)) - 1))) - 0))).bind fun j26 =>
          (s9.2.2.2[(0 + j26)]?).bind fun x27 =>
          some (.inl ((IntKind.i64.wrap (s9.1 + 1), (List.set s9.2.1 j19 r15.1), (List.set s9.2.2.1 j21 x18.2), (List.take (((Int.toNat (IntKind.i64.wrap (((((List.length s9.2.2.2) : Nat) : Int)) - 1))) - 0)) ((List.set s9.2.2.2 (0 + j26) ((x27.1, r25)))))))))))
        ((D_opcode_Writes x10.1 x10.2.1 x10.2.2.1 x10.2.2.2.1 x10.2.2.2.2).bind fun r28 =>
        cond (r28.2)
          ((ix s9.1 ((List.length s9.2.1))).bind fun j29 =>
          (s9.2.1[j29]?).bind fun x30 =>
          (s9.2.2.2[j11]?).bind fun x31 =>
          (s9.2.2.2[j11]?).bind fun x32 =>
          some (.inl ((IntKind.i64.wrap (s9.1 + 1), (List.set s9.2.1 j29 1), s9.2.2.1, (List.set s9.2.2.2 j11 ((x32.1, IntKind.i64.wrap (x31.2 + 1))))))))
          (some (.inl ((IntKind.i64.wrap (s9.1 + 1), s9.2.1, s9.2.2.1, s9.2.2.2)))))))
    (some (.inr (((0, s9.2.1, s9.2.2.1, s9.2.2.2)))))
/- backstitch/size.measure -/
def D_size_measure (a0 : List (Int × Int × Int × Int × Int)) : Option (Int × Int × (List Int) × List Int) :=
  (D_nest_Match a0).bind fun r1 =>
  cond (decide (r1.1 ≠ 0))
    (some ((0, r1.1, [], [])))
    (gd (Nat.beq 1 (Sh.w (.int .i64)) && decide (0 ≤ ((((List.length a0) : Nat) : Int))) && decide (((((List.length a0) : Nat) : Int)) ≤ ((((List.length a0) : Nat) : Int))) && decide ((8 : Int) * ((((List.length a0) : Nat) : Int)) ≤ 140737488355328) && Nat.ble 1 8) (gd (Nat.beq 1 (Sh.w (.int .i64)) && decide (0 ≤ ((((List.length a0) : Nat) : Int))) && decide (((((List.length a0) : Nat) : Int)) ≤ ((((List.length a0) : Nat) : Int))) && decide ((8 : Int) * ((((List.length a0) : Nat) : Int)) ≤ 140737488355328) && Nat.ble 1 8) ((loopN (D_size_measure_L0 a0) BIG ((0, (List.replicate (Int.toNat ((((List.length a0) : Nat) : Int))) (0 : Int)), (List.replicate (Int.toNat ((((List.length a0) : Nat) : Int))) (0 : Int)), [(0, 0)]))).bind fun r33 =>
    (((cond (decide (r33.1 = 0))
      ((ix 0 ((List.length r33.2.2.2))).bind fun j34 =>
      (r33.2.2.2[j34]?).bind fun x35 =>
      cond (decide (65536 < x35.2))
        (some 9)
        (some r33.1))
      (some r33.1)) : Option (Int))).bind fun s36 =>
    cond (decide (s36 ≠ 0))
      (some ((0, s36, [], [])))
      ((ix 0 ((List.length r33.2.2.2))).bind fun j37 =>
      (r33.2.2.2[j37]?).bind fun x38 =>
      some ((x38.2, 0, r33.2.1, r33.2.2.1))))))
/- backstitch/size.Writes -/
def D_size_Writes (a0 : List (Int × Int × Int × Int × Int)) : Option (Int × Int) :=
  (D_size_measure a0).bind fun r1 =>
  some ((r1.1, r1.2.1))
/- backstitch/size.Sizes -/
def D_size_Sizes (a0 : List (Int × Int × Int × Int × Int)) : Option (Int × List Int) :=
  (D_size_measure a0).bind fun r1 =>
  some ((r1.2.1, r1.2.2.1))
/- backstitch/size.Rounds -/
def D_size_Rounds (a0 : List (Int × Int × Int × Int × Int)) : Option (Int × List Int) :=
  (D_size_measure a0).bind fun r1 =>
  some ((r1.2.1, r1.2.2.2))
def D_ref07_Ints_L0 (a0 : List Int) (a1 : List Int) (s3 : Int) : Option ((Int) ⊕ ((Bool) ⊕ (Unit))) :=
  cond (decide (s3 < ((((List.length a0) : Nat) : Int))))
    ((rd a0 s3).bind fun x4 =>
    (rd a1 s3).bind fun x5 =>
    cond (decide (x4 ≠ x5))
      (some (.inr (((.inl false)))))
      (some (.inl (IntKind.i64.wrap (s3 + 1)))))
    (some (.inr (((.inr ())))))
/- backstitch/backstitchref07.Ints -/
def D_ref07_Ints (a0 : List Int) (a1 : List Int) : Option (Bool) :=
  cond (decide (((((List.length a0) : Nat) : Int)) ≠ ((((List.length a1) : Nat) : Int))))
    (some false)
    ((loopN (D_ref07_Ints_L0 a0 a1) BIG 0).bind fun r6 =>
    caseS r6 (fun u7 =>
      some u7)
      (fun w8 =>
      some true))
/- backstitch/backstitchlaw09.goes -/
def D_law09_goes  : Option (Bool) :=
  (D_size_Writes ([(7, (0, (0, (0, 3)))), (4, (0, (0, (0, 0)))), (7, (0, (0, (0, 2)))), (1, (0, (0, (0, 0)))), (0, (0, (0, (0, 0)))), (0, (0, (0, (0, 0))))])).bind fun r0 =>
  (D_size_Sizes ([(7, (0, (0, (0, 3)))), (4, (0, (0, (0, 0)))), (7, (0, (0, (0, 2)))), (1, (0, (0, (0, 0)))), (0, (0, (0, (0, 0)))), (0, (0, (0, (0, 0))))])).bind fun r1 =>
  (D_size_Rounds ([(7, (0, (0, (0, 3)))), (4, (0, (0, (0, 0)))), (7, (0, (0, (0, 2)))), (1, (0, (0, (0, 0)))), (0, (0, (0, (0, 0)))), (0, (0, (0, (0, 0))))])).bind fun r2 =>
  cond (decide (r0.1 = 9))
    (cond (decide (r0.2 = 0))
      (cond (decide (r1.1 = 0))
        (cond (decide (r2.1 = 0))
          ((D_ref07_Ints r1.2 ([9, 1, 2, 1, 0, 0])).bind fun r3 =>
          cond (r3)
            ((D_ref07_Ints r2.2 ([3, 0, 1, 0, 0, 0])).bind fun r4 =>
            some r4)
            (some false))
          (some false))
        (some false))
      (some false))
    (some false)
def D_ref08_Well_L0 (a0 : List (Int × Int × Int × Int × Int)) (s3 : Int × Int) : Option ((Int × Int) ⊕ ((Bool) ⊕ (Int))) :=
  cond (decide (s3.1 < ((((List.length a0) : Nat) : Int))))
    ((rd a0 s3.1).bind fun x4 =>
    cond (decide (x4.1 < 0))
      (some (.inr (((.inl false)))))
      ((rd a0 s3.1).bind fun x5 =>
      cond (decide (7 < x5.1))
        (some (.inr (((.inl false)))))
        (((((rd a0 s3.1).bind fun x6 =>
        cond (decide (x6.1 = 7))
          (some (IntKind.i64.wrap (s3.2 + 1)))
          (some s3.2)) : Option (Int))).bind fun s7 =>
        (rd a0 s3.1).bind fun x8 =>
        cond (decide (x8.1 = 0))
          (cond (decide ((IntKind.i64.wrap (s7 - 1)) < 0))
            (some (.inr (((.inl false)))))
            (some (.inl ((IntKind.i64.wrap (s3.1 + 1), IntKind.i64.wrap (s7 - 1))))))
          (cond (decide (s7 < 0))
            (some (.inr (((.inl false)))))
            (some (.inl ((IntKind.i64.wrap (s3.1 + 1), s7))))))))
    (some (.inr (((.inr s3.2)))))
/- backstitch/backstitchref08.Well -/
def D_ref08_Well (a0 : List (Int × Int × Int × Int × Int)) : Option (Bool) :=
  (loopN (D_ref08_Well_L0 a0) BIG ((0, 0))).bind fun r9 =>
  caseS r9 (fun u10 =>
    some u10)
    (fun w11 =>
    some (decide (w11 = 0)))
def D_ref08_Match_L0 (a0 : List (Int × Int × Int × Int × Int)) (s4 : Int × List Int) : Option ((Int × List Int) ⊕ (List Int)) :=
  cond (decide (s4.1 < ((((List.length a0) : Nat) : Int))))
    (gd (fits (List.length s4.2 + 1) 8) (some (.inl ((IntKind.i64.wrap (s4.1 + 1), (s4.2 ++ [(-1)]))))))
    (some (.inr s4.2))
def D_ref08_Match_L1 (a0 : List (Int × Int × Int × Int × Int)) (s13 : Int × Int) : Option ((Int × Int) ⊕ (Int)) :=
  cond (decide (0 < s13.1))
    ((rd a0 (IntKind.i64.wrap (s13.2 + 1))).bind fun x14 =>
    cond (decide (x14.1 = 7))
      ((rd a0 (IntKind.i64.wrap (s13.2 + 1))).bind fun x15 =>
      cond (decide (x15.1 = 0))
        (some (.inl ((IntKind.i64.wrap ((IntKind.i64.wrap (s13.1 + 1)) - 1), IntKind.i64.wrap (s13.2 + 1)))))
        (some (.inl ((IntKind.i64.wrap (s13.1 + 1), IntKind.i64.wrap (s13.2 + 1))))))
      ((rd a0 (IntKind.i64.wrap (s13.2 + 1))).bind fun x16 =>
      cond (decide (x16.1 = 0))
        (some (.inl ((IntKind.i64.wrap (s13.1 - 1), IntKind.i64.wrap (s13.2 + 1)))))
        (some (.inl ((s13.1, IntKind.i64.wrap (s13.2 + 1)))))))
    (some (.inr s13.2))
def D_ref08_Match_L2 (a0 : List (Int × Int × Int × Int × Int)) (s8 : Int × List Int) : Option ((Int × List Int) ⊕ (List Int)) :=
  cond (decide (s8.1 < ((((List.length a0) : Nat) : Int))))
    ((rd a0 s8.1).bind fun x9 =>
    cond (decide (x9.1 ≠ 7))
      (some (.inl ((IntKind.i64.wrap (s8.1 + 1), s8.2))))
      ((loopN (D_ref08_Match_L1 a0) BIG ((1, s8.1))).bind fun r17 =>
      (ix s8.1 ((List.length s8.2))).bind fun j18 =>
      (s8.2[j18]?).bind fun x19 =>
      (ix r17 ((List.length ((List.set s8.2 j18 r17))))).bind fun j20 =>
      (((List.set s8.2 j18 r17))[j20]?).bind fun x21 =>
      some (.inl ((IntKind.i64.wrap (s8.1 + 1), (List.set ((List.set s8.2 j18 r17)) j20 s8.1))))))
    (some (.inr s8.2))
/- backstitch/backstitchref08.Match -/
def D_ref08_Match (a0 : List (Int × Int × Int × Int × Int)) : Option (Int × List Int) :=
  (D_ref08_Well a0).bind fun r1 =>
  cond (!r1)
    (some ((6, [])))
    ((loopN (D_ref08_Match_L0 a0) BIG ((0, []))).bind fun r5 =>
    (loopN (D_ref08_Match_L2 a0) BIG ((0, r5))).bind fun r22 =>
    some ((0, r22)))
/- backstitch/backstitchref07.Asks -/
def D_ref07_Asks (a0 : Int) : Option (Bool × Bool × Bool × Bool) :=
  (((cond (decide (1 ≤ a0))
    (cond (decide (a0 ≤ 3))
      (some ((.inl ((true, true, true, false)))))
      (some ((.inr ((false, false, false, false))))))
    (some ((.inr ((false, false, false, false)))))) : Option ((Bool × Bool × Bool × Bool) ⊕ (Bool × Bool × Bool × Bool)))).bind fun s1 =>
  caseS s1 (fun u2 =>
    some ((u2.1, u2.2.1, u2.2.2.1, u2.2.2.2)))
    (fun w3 =>
    cond (decide (a0 = 4))
      (some ((true, true, false, false)))
      (cond (decide (a0 = 6))
        (some ((true, true, false, false)))
        (cond (decide (a0 = 5))
          (some ((true, false, false, true)))
          (cond (decide (a0 = 7))
            (some ((false, false, false, true)))
            (some ((false, false, false, false)))))))
def B_ref09_within_L0 (k_ref09_Block : (List (Int × Int × Int × Int × Int)) → (List Int) → Int → Option (Int)) (a0 : List (Int × Int × Int × Int × Int)) (a1 : List Int) (a3 : Int) (s7 : Int × Int) : Option ((Int × Int) ⊕ ((Unit) ⊕ (Int))) :=
  cond (decide (s7.1 < a3))
    ((rd a0 s7.1).bind fun x8 =>
    cond (decide (x8.1 = 7))
      ((k_ref09_Block a0 a1 s7.1).bind fun r9 =>
      (rd a1 s7.1).bind fun x10 =>
      cond (decide (65536 < (IntKind.i64.wrap (s7.2 + r9))))
        (some (.inr (((.inl ())))))
        (some (.inl ((IntKind.i64.wrap (x10 + 1), IntKind.i64.wrap (s7.2 + r9))))))
      ((rd a0 s7.1).bind fun x11 =>
      (D_ref07_Asks x11.1).bind fun r12 =>
      cond (r12.1)
        (cond (decide (65536 < (IntKind.i64.wrap (s7.2 + 1))))
          (some (.inr (((.inl ())))))
          (some (.inl ((IntKind.i64.wrap (s7.1 + 1), IntKind.i64.wrap (s7.2 + 1))))))
        (cond (decide (65536 < s7.2))
          (some (.inr (((.inl ())))))
          (some (.inl ((IntKind.i64.wrap (s7.1 + 1), s7.2)))))))
    (some (.inr (((.inr s7.2)))))
/- backstitch/backstitchref09.within -/
def B_ref09_within (k_ref09_within : (List (Int × Int × Int × Int × Int)) → (List Int) → Int → Int → Option (Int)) (k_ref09_Block : (List (Int × Int × Int × Int × Int)) → (List Int) → Int → Option (Int)) (a0 : List (Int × Int × Int × Int × Int)) (a1 : List Int) (a2 : Int) (a3 : Int) : Option (Int) :=
  (loopN (B_ref09_within_L0 k_ref09_Block a0 a1 a3) BIG ((a2, 0))).bind fun r13 =>
  caseS r13 (fun u14 =>
    some 65537)
    (fun w15 =>
    some w15)
/- backstitch/backstitchref09.Block -/
def B_ref09_Block (k_ref09_within : (List (Int × Int × Int × Int × Int)) → (List Int) → Int → Int → Option (Int)) (k_ref09_Block : (List (Int × Int × Int × Int × Int)) → (List Int) → Int → Option (Int)) (a0 : List (Int × Int × Int × Int × Int)) (a1 : List Int) (a2 : Int) : Option (Int) :=
  (rd a1 a2).bind fun x3 =>
  (k_ref09_within a0 a1 (IntKind.i64.wrap (a2 + 1)) x3).bind fun r4 =>
  cond (decide (r4 = 0))
    (some 0)
    ((rd a0 a2).bind fun x5 =>
    cond (decide (x5.2.2.2.2 = 0))
      (some 0)
      ((rd a0 a2).bind fun x6 =>
      cond (decide (65536 < x6.2.2.2.2))
        (some 65537)
        ((rd a0 a2).bind fun x7 =>
        cond (decide (65536 < (IntKind.i64.wrap (r4 * (IntKind.i64.wrap (x7.2.2.2.2))))))
          (some 65537)
          ((rd a0 a2).bind fun x8 =>
          some (IntKind.i64.wrap (r4 * (IntKind.i64.wrap (x8.2.2.2.2))))))))
def D_rec_ref09_within : Nat → ((List (Int × Int × Int × Int × Int)) → (List Int) → Int → Int → Option (Int)) × ((List (Int × Int × Int × Int × Int)) → (List Int) → Int → Option (Int))
  | 0 => (fun _ _ _ _ => none, fun _ _ _ => none)
  | n + 1 => (B_ref09_within ((D_rec_ref09_within n).1) ((D_rec_ref09_within n).2), B_ref09_Block ((D_rec_ref09_within n).1) ((D_rec_ref09_within n).2))
def D_ref09_within (a0 : List (Int × Int × Int × Int × Int)) (a1 : List Int) (a2 : Int) (a3 : Int) : Option (Int) := (D_rec_ref09_within 400).1 a0 a1 a2 a3
def D_ref09_Block (a0 : List (Int × Int × Int × Int × Int)) (a1 : List Int) (a2 : Int) : Option (Int) := (D_rec_ref09_within 400).2 a0 a1 a2

def D_ref09_Writes_L0 (a0 : List (Int × Int × Int × Int × Int)) (r1 : Int × List Int) (s3 : Int) : Option ((Int) ⊕ ((Unit) ⊕ (Unit))) :=
  cond (decide (s3 < ((((List.length a0) : Nat) : Int))))
    ((rd a0 s3).bind fun x4 =>
    cond (decide (x4.1 = 7))
      ((D_ref09_Block a0 r1.2 s3).bind fun r5 =>
      cond (decide (65536 < r5))
        (some (.inr (((.inl ())))))
        ((ix s3 ((List.length r1.2))).bind fun j6 =>
        (r1.2[j6]?).bind fun x7 =>
        (D_ref09_within a0 r1.2 (IntKind.i64.wrap (s3 + 1)) x7).bind fun r8 =>
        cond (decide (65536 < r8))
          (some (.inr (((.inl ())))))
          (some (.inl (IntKind.i64.wrap (s3 + 1))))))
      (some (.inl (IntKind.i64.wrap (s3 + 1)))))
    (some (.inr (((.inr ())))))
/- backstitch/backstitchref09.Writes -/
def D_ref09_Writes (a0 : List (Int × Int × Int × Int × Int)) : Option (Int × Int) :=
  (D_ref08_Match a0).bind fun r1 =>
  cond (decide (r1.1 ≠ 0))
    (some ((0, r1.1)))
    ((loopN (D_ref09_Writes_L0 a0 r1) BIG 0).bind fun r9 =>
    caseS r9 (fun u10 =>
      some ((0, 9)))
      (fun w11 =>
      (D_ref09_within a0 r1.2 0 ((((List.length a0) : Nat) : Int))).bind fun r12 =>
      cond (decide (65536 < r12))
        (some ((0, 9)))
        (some ((r12, 0)))))
/- backstitch/backstitchlaw09.SizeWrites -/
def D_law09_SizeWrites (a0 : List (Int × Int × Int × Int × Int)) : Option (Bool) :=
  cond (decide (100 < ((((List.length a0) : Nat) : Int))))
    ((D_law09_goes).bind fun r1 =>
    some r1)
    ((D_size_Writes a0).bind fun r2 =>
    (D_ref09_Writes a0).bind fun r3 =>
    cond (decide (r2.1 = r3.1))
      (cond (decide (r2.2 = r3.2))
        ((D_law09_goes).bind fun r4 =>
        some r4)
        (some false))
      (some false))
def D_ref09_Sizes_L0 (a0 : List (Int × Int × Int × Int × Int)) (r2 : Int × List Int) (s5 : Int × List Int) : Option ((Int × List Int) ⊕ (List Int)) :=
  cond (decide (s5.1 < ((((List.length a0) : Nat) : Int))))
    (((((rd a0 s5.1).bind fun x6 =>
    cond (decide (x6.1 = 7))
      ((D_ref09_Block a0 r2.2 s5.1).bind fun r7 =>
      some r7)
      ((rd a0 s5.1).bind fun x8 =>
      (D_ref07_Asks x8.1).bind fun r9 =>
      cond (r9.1)
        (some 1)
        (some 0))) : Option (Int))).bind fun s10 =>
    gd (fits (List.length s5.2 + 1) 8) (some (.inl ((IntKind.i64.wrap (s5.1 + 1), (s5.2 ++ [s10]))))))
    (some (.inr s5.2))
/- backstitch/backstitchref09.Sizes -/
def D_ref09_Sizes (a0 : List (Int × Int × Int × Int × Int)) : Option (Int × List Int) :=
  (D_ref09_Writes a0).bind fun r1 =>
  cond (decide (r1.2 ≠ 0))
    (some ((r1.2, [])))
    ((D_ref08_Match a0).bind fun r2 =>
    (loopN (D_ref09_Sizes_L0 a0 r2) BIG ((0, []))).bind fun r11 =>
    some ((0, r11)))
def D_ref09_Rounds_L0 (a0 : List (Int × Int × Int × Int × Int)) (r2 : Int × List Int) (s5 : Int × List Int) : Option ((Int × List Int) ⊕ (List Int)) :=
  cond (decide (s5.1 < ((((List.length a0) : Nat) : Int))))
    (((((rd a0 s5.1).bind fun x6 =>
    cond (decide (x6.1 = 7))
      ((ix s5.1 ((List.length r2.2))).bind fun j7 =>
      (r2.2[j7]?).bind fun x8 =>
      (D_ref09_within a0 r2.2 (IntKind.i64.wrap (s5.1 + 1)) x8).bind fun r9 =>
      some r9)
      (some 0)) : Option (Int))).bind fun s10 =>
    gd (fits (List.length s5.2 + 1) 8) (some (.inl ((IntKind.i64.wrap (s5.1 + 1), (s5.2 ++ [s10]))))))
    (some (.inr s5.2))
/- backstitch/backstitchref09.Rounds -/
def D_ref09_Rounds (a0 : List (Int × Int × Int × Int × Int)) : Option (Int × List Int) :=
  (D_ref09_Writes a0).bind fun r1 =>
  cond (decide (r1.2 ≠ 0))
    (some ((r1.2, [])))
    ((D_ref08_Match a0).bind fun r2 =>
    (loopN (D_ref09_Rounds_L0 a0 r2) BIG ((0, []))).bind fun r11 =>
    some ((0, r11)))
/- backstitch/backstitchlaw09.SizeEach -/
def D_law09_SizeEach (a0 : List (Int × Int × Int × Int × Int)) : Option (Bool) :=
  cond (decide (100 < ((((List.length a0) : Nat) : Int))))
    ((D_law09_goes).bind fun r1 =>
    some r1)
    ((D_size_Sizes a0).bind fun r2 =>
    (D_ref09_Sizes a0).bind fun r3 =>
    (D_size_Rounds a0).bind fun r4 =>
    (D_ref09_Rounds a0).bind fun r5 =>
    (D_ref07_Ints r2.2 r3.2).bind fun r6 =>
    cond (r6)
      (cond (decide (r2.1 = r3.1))
        ((D_ref07_Ints r4.2 r5.2).bind fun r7 =>
        cond (r7)
          (cond (decide (r4.1 = r5.1))
            ((D_law09_goes).bind fun r8 =>
            some r8)
            (some false))
          (some false))
        (some false))
      (some false))
end Go.V
